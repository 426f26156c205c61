/-
  PROVED HERE: the beginning of each look into a graph
  CONDITIONS: as the theorems say. Printed by a program of this repo (wip/v).
-/
import Derived.Test.YtjpdcppdoonmdaaGF
namespace Go.Proofs.Ytjpdcppdoonmdaa
open Go.RowKit
attribute [local irreducible] TriL TriLQ Tri TriQ
set_option maxRecDepth 100000 in
set_option maxHeartbeats 4000000 in
theorem sp_begin {β : Bs} (A : Option Addr) (c : Nat) (ns : List NodeM) (L : Lay) (hG : GraphAt β A ns L) (hB : GraphB ns 1048576) (root : Int) (hz : I64 root) :
    Spec Try.prog β 42 #[.agg #[.slice A ns.length c], .int .i64 root] [] (fun v l => (∃ mb, v = .tuple #[.map (some mb), .pointer (some ⟨(blkOf A), offOf A + (tgt ns root) * 10, none⟩), .int .i64 0] ∧ beginC ns root = 0 ∧ l = [.abs (MapA Try.prog 3 mb (mf (bf A ns ns.length)) ns.length)]) ∨ (∃ x y, v = .tuple #[x, y, .int .i64 (beginC ns root)] ∧ ¬ beginC ns root = 0 ∧ l = [])) := by
  refine Spec.enter Try.func42 rfl Try.ntmps42 (Nat.le_of_ble_eq_true rfl) (fun R => ?_)
  refine Tri.seq ?_
  refine Tri.region ?_
  refine TriL.segN (k' := 4) (fr' := fun b1 => [(1, .int .i64 (root)), (2, .pointer (some ⟨b1, 0, none⟩))]) (hps' := fun b1 => [.abs R, .blk b1 [.slice A (ns.length) (c)] 24]) (obl := fun b1 => []) [o_, o_, o_, o_] [1, 2] [0, 1] (fun _ _ => by kernel_rfl) (fun b1 => trivial) (fun b1 => ?_)
  refine TriL.nil (by kernel_rfl) ?_
  refine TriQ.next ?_
  refine Tri.seq ?_
  refine Tri.region ?_
  refine TriL.segK (k' := 1) (fr' := [(1, .int .i64 (root)), (11, .agg #[.slice A (ns.length) (c)])]) (obl := [b1 = b1]) [⟨[.at 1], none, none, none, none⟩] [1, 11] (fun _ _ => by kernel_rfl) ⟨rfl, trivial⟩ ?_
  refine TriL.call (f := 37) (args := #[.agg #[.slice A (ns.length) (c)]]) (d := (some 12)) (pre := []) (R := [.abs R, .blk b1 [.slice A (ns.length) (c)] 24]) (pk := [0, 1]) (fun _ => by kernel_rfl) (sp_read A c ns L hG hB.hl hB.hd hB.hwf hB.hnm) rfl (by kernel_rfl) ?_
  rintro _ _ (⟨mb, rfl, hok, rfl⟩ | ⟨m, rfl, hok, rfl⟩)
  · refine TriL.segK (k' := 7) (fr' := [(1, .int .i64 (root)), (7, .map (some mb)), (8, .bool true)]) (obl := []) [o_, o_, o_, o_, o_] [1, 7, 8] (fun _ _ => by kernel_rfl) trivial ?_
    refine TriL.nil (by kernel_rfl) ?_
    refine TriQ.next ?_
    refine Tri.seq ?_
    refine Tri.seq ?_
    refine Tri.region ?_
    refine TriL.segK (k' := 2) (fr' := [(1, .int .i64 (root)), (7, .map (some mb)), (16, .bool false)]) (obl := []) [o_, o_] [1, 7, 16] (fun _ _ => by kernel_rfl) trivial ?_
    refine TriL.nil (by kernel_rfl) ?_
    refine TriQ.next ?_
    refine Tri.condF (fun _ => by kernel_rfl) ?_
    refine Tri.skip ?_
    refine TriQ.next ?_
    refine Tri.seq ?_
    refine Tri.region ?_
    refine TriL.segK (k' := 2) (fr' := [(7, .map (some mb)), (17, .map (some mb)), (18, .int .i64 (root))]) (obl := []) [o_, o_] [7, 17, 18] (fun _ _ => by kernel_rfl) trivial ?_
    by_cases hat : 0 ≤ atI ns root
    · have htl := atI_lt hat
      refine TriL.mapLook 0 (d := (some 19)) (t := 66) (K := 3) (E := 75) (b := mb) (n := ns.length) (f := (mf (bf A ns ns.length))) (x := (.tmp 17)) (ix := (.tmp 18)) (key := .int .i64 (root)) (z := .pointer none) (kl := (.int .i64 root)) (r := (some (.pointer (some ⟨(blkOf A), offOf A + (tgt ns root) * 10, none⟩)))) (fun _ => by kernel_rfl) (by kernel_rfl) (fun _ => by kernel_rfl) (fun _ => by kernel_rfl) lawI Try.underlying66 (fun _ => by kernel_rfl) (keyI hz.1 hz.2) (bf_at hat htl.1) ?_
      refine TriL.segK (k' := 4) (fr' := [(7, .map (some mb)), (9, .pointer (some ⟨(blkOf A), offOf A + (tgt ns root) * 10, none⟩))]) (obl := []) [o_] [7, 9] (fun _ _ => by kernel_rfl) trivial ?_
      refine TriL.nil (by kernel_rfl) ?_
      refine TriQ.next ?_
      refine Tri.seq ?_
      refine Tri.seq ?_
      refine Tri.region ?_
      refine TriL.segK (k' := 2) (fr' := [(7, .map (some mb)), (9, .pointer (some ⟨(blkOf A), offOf A + (tgt ns root) * 10, none⟩)), (21, .bool false)]) (obl := []) [o_, o_] [7, 9, 21] (fun _ _ => by kernel_rfl) trivial ?_
      refine TriL.nil (by kernel_rfl) ?_
      refine TriQ.next ?_
      refine Tri.condF (fun _ => by kernel_rfl) ?_
      refine Tri.skip ?_
      refine TriQ.next ?_
      refine Tri.seq ?_
      refine Tri.seq ?_
      refine Tri.region ?_
      refine TriL.segK (k' := 5) (fr' := [(7, .map (some mb)), (9, .pointer (some ⟨(blkOf A), offOf A + (tgt ns root) * 10, none⟩)), (26, .bool (!(decide (((nd ns (tgt ns root)).kind : Int) = (2 : Int)))))]) (obl := [(Rd β ⟨(blkOf A), offOf A + (tgt ns root) * 10 + 1, none⟩ (.int .i64 ((nd ns (tgt ns root)).kind)))]) [o_, o_, o_, ⟨[.old (.int .i64 ((nd ns (tgt ns root)).kind))], none, none, none, none⟩, o_] [7, 9, 26] (fun _ _ => by kernel_rfl) ⟨GraphAt.rd hG (i := (tgt ns root)) (by omega) (j := 1) rfl, trivial⟩ ?_
      refine TriL.nil (by kernel_rfl) ?_
      refine TriQ.next ?_
      refine Tri.condN (p := ((nd ns (tgt ns root)).kind : Int) = (2 : Int)) (fun _ => by kernel_rfl) (fun h26 => ?_) (fun h26 => ?_)
      · refine Tri.seq ?_
        refine Tri.region ?_
        refine TriL.segK (k' := 3) (fr' := [(4, .map none), (5, .pointer none), (6, .int .i64 173)]) (obl := []) [o_, o_, o_] [4, 5, 6] (fun _ _ => by kernel_rfl) trivial ?_
        refine TriL.nil (by kernel_rfl) ?_
        refine TriQ.next ?_
        refine Tri.ret ?_
        refine TriQ.passRet ?_
        exact TriQ.ret (v := .tuple #[.map none, .pointer none, .int .i64 173]) (l := []) (obl := []) [] [1] (fun _ => by kernel_rfl) trivial rfl (by kernel_rfl) (.inr ⟨_, _, by rw [beginC_kind hok hat h26], by rw [beginC_kind hok hat h26]; decide, rfl⟩)
      · refine Tri.skip ?_
        refine TriQ.next ?_
        refine Tri.seq ?_
        refine Tri.region ?_
        refine TriL.segK (k' := 5) (fr' := [(4, .map (some mb)), (5, .pointer (some ⟨(blkOf A), offOf A + (tgt ns root) * 10, none⟩)), (6, .int .i64 0)]) (obl := []) [o_, o_, o_, o_, o_] [4, 5, 6] (fun _ _ => by kernel_rfl) trivial ?_
        refine TriL.nil (by kernel_rfl) ?_
        refine TriQ.next ?_
        refine Tri.ret ?_
        exact TriQ.ret (v := .tuple #[.map (some mb), .pointer (some ⟨(blkOf A), offOf A + (tgt ns root) * 10, none⟩), .int .i64 0]) (l := [.abs (MapA Try.prog 3 mb (mf (bf A ns ns.length)) ns.length)]) (obl := []) [] [0, 1] (fun _ => by kernel_rfl) trivial rfl (by kernel_rfl) (.inl ⟨mb, rfl, beginC_ok hok hat h26, rfl⟩)
    · refine TriL.mapLook 0 (d := (some 19)) (t := 66) (K := 3) (E := 75) (b := mb) (n := ns.length) (f := (mf (bf A ns ns.length))) (x := (.tmp 17)) (ix := (.tmp 18)) (key := .int .i64 (root)) (z := .pointer none) (kl := (.int .i64 root)) (r := none) (fun _ => by kernel_rfl) (by kernel_rfl) (fun _ => by kernel_rfl) (fun _ => by kernel_rfl) lawI Try.underlying66 (fun _ => by kernel_rfl) (keyI hz.1 hz.2) (bf_none hat) ?_
      refine TriL.segK (k' := 4) (fr' := [(7, .map (some mb)), (9, .pointer none)]) (obl := []) [o_] [7, 9] (fun _ _ => by kernel_rfl) trivial ?_
      refine TriL.nil (by kernel_rfl) ?_
      refine TriQ.next ?_
      refine Tri.seq ?_
      refine Tri.seq ?_
      refine Tri.region ?_
      refine TriL.segK (k' := 2) (fr' := [(7, .map (some mb)), (9, .pointer none), (21, .bool true)]) (obl := []) [o_, o_] [7, 9, 21] (fun _ _ => by kernel_rfl) trivial ?_
      refine TriL.nil (by kernel_rfl) ?_
      refine TriQ.next ?_
      refine Tri.condT (fun _ => by kernel_rfl) ?_
      refine Tri.seq ?_
      refine Tri.region ?_
      refine TriL.segK (k' := 3) (fr' := [(4, .map none), (5, .pointer none), (6, .int .i64 141)]) (obl := []) [o_, o_, o_] [4, 5, 6] (fun _ _ => by kernel_rfl) trivial ?_
      refine TriL.nil (by kernel_rfl) ?_
      refine TriQ.next ?_
      refine Tri.ret ?_
      refine TriQ.passRet ?_
      exact TriQ.ret (v := .tuple #[.map none, .pointer none, .int .i64 141]) (l := []) (obl := []) [] [1] (fun _ => by kernel_rfl) trivial rfl (by kernel_rfl) (.inr ⟨_, _, by rw [beginC_none hok hat], by rw [beginC_none hok hat]; decide, rfl⟩)
  · refine TriL.segK (k' := 7) (fr' := [(1, .int .i64 (root)), (7, m), (8, .bool false)]) (obl := []) [o_, o_, o_, o_, o_] [1, 7, 8] (fun _ _ => by kernel_rfl) trivial ?_
    refine TriL.nil (by kernel_rfl) ?_
    refine TriQ.next ?_
    refine Tri.seq ?_
    refine Tri.seq ?_
    refine Tri.region ?_
    refine TriL.segK (k' := 2) (fr' := [(1, .int .i64 (root)), (7, m), (16, .bool true)]) (obl := []) [o_, o_] [1, 7, 16] (fun _ _ => by kernel_rfl) trivial ?_
    refine TriL.nil (by kernel_rfl) ?_
    refine TriQ.next ?_
    refine Tri.condT (fun _ => by kernel_rfl) ?_
    refine Tri.seq ?_
    refine Tri.region ?_
    refine TriL.segK (k' := 3) (fr' := [(4, .map none), (5, .pointer none), (6, .int .i64 140)]) (obl := []) [o_, o_, o_] [4, 5, 6] (fun _ _ => by kernel_rfl) trivial ?_
    refine TriL.nil (by kernel_rfl) ?_
    refine TriQ.next ?_
    refine Tri.ret ?_
    refine TriQ.passRet ?_
    exact TriQ.ret (v := .tuple #[.map none, .pointer none, .int .i64 140]) (l := []) (obl := []) [] [0] (fun _ => by kernel_rfl) trivial rfl (by kernel_rfl) (.inr ⟨_, _, by rw [beginC_bad hok], by rw [beginC_bad hok]; decide, rfl⟩)
set_option maxRecDepth 100000 in
set_option maxHeartbeats 4000000 in
theorem sp_refBegin {β : Bs} (A : Option Addr) (c : Nat) (ns : List NodeM) (L : Lay) (hG : GraphAt β A ns L) (hB : GraphB ns 1048576) (root : Int) :
    Spec Try.prog β 46 #[.agg #[.slice A ns.length c], .int .i64 root] [] (fun v l => v = refB ns root ∧ l = []) := by
  refine Spec.enter Try.func46 rfl Try.ntmps46 (Nat.le_of_ble_eq_true rfl) (fun R => ?_)
  refine Tri.seq ?_
  refine Tri.region ?_
  refine TriL.segN (k' := 3) (fr' := fun b2 => [(1, .int .i64 (root)), (2, .pointer (some ⟨b2, 0, none⟩))]) (hps' := fun b2 => [.abs R, .blk b2 [.slice A (ns.length) (c)] 24]) (obl := fun b2 => []) [o_, o_, o_] [1, 2] [0, 1] (fun _ _ => by kernel_rfl) (fun b2 => trivial) (fun b2 => ?_)
  refine TriL.nil (by kernel_rfl) ?_
  refine TriQ.next ?_
  refine Tri.seq ?_
  refine Tri.seq ?_
  refine Tri.region ?_
  refine TriL.segK (k' := 1) (fr' := [(1, .int .i64 (root)), (2, .pointer (some ⟨b2, 0, none⟩)), (7, .agg #[.slice A (ns.length) (c)])]) (obl := [b2 = b2]) [⟨[.at 1], none, none, none, none⟩] [1, 2, 7] (fun _ _ => by kernel_rfl) ⟨rfl, trivial⟩ ?_
  refine TriL.call (f := 16) (args := #[.agg #[.slice A (ns.length) (c)]]) (d := (some 8)) (pre := []) (R := [.abs R, .blk b2 [.slice A (ns.length) (c)] 24]) (pk := [0, 1]) (fun _ => by kernel_rfl) (sp_refCheck A c ns L hG hB.hl hB.hd hB.hwf hB.hnm hB.ht) rfl (by kernel_rfl) ?_
  rintro _ _ ⟨rfl, rfl⟩
  refine TriL.segK (k' := 3) (fr' := [(1, .int .i64 (root)), (2, .pointer (some ⟨b2, 0, none⟩)), (9, .bool (!(decide (((if GraphOk ns then 0 else 140) : Int) = (0 : Int)))))]) (obl := []) [o_] [1, 2, 9] (fun _ _ => by kernel_rfl) trivial ?_
  refine TriL.nil (by kernel_rfl) ?_
  refine TriQ.next ?_
  refine Tri.condN (p := ((if GraphOk ns then 0 else 140) : Int) = (0 : Int)) (fun _ => by kernel_rfl) (fun h9 => ?_) (fun h9 => ?_)
  · have hok : ¬ GraphOk ns := fun hc => h9 (if_pos hc)
    refine Tri.seq ?_
    refine Tri.region ?_
    refine TriL.segK (k' := 2) (fr' := [(4, .int .i64 0), (5, .int .i64 140)]) (obl := []) [o_, o_] [4, 5] (fun _ _ => by kernel_rfl) trivial ?_
    refine TriL.nil (by kernel_rfl) ?_
    refine TriQ.next ?_
    refine Tri.ret ?_
    refine TriQ.passRet ?_
    exact TriQ.ret (v := .tuple #[.int .i64 0, .int .i64 140]) (l := []) (obl := []) [] [0] (fun _ => by kernel_rfl) trivial rfl (by kernel_rfl) (⟨by rw [refB_bad (ns := ns) (root := root) (by rw [beginC_bad hok]; decide), beginC_bad hok], rfl⟩)
  · have hok : GraphOk ns := Classical.byContradiction (fun hc => absurd (h9.symm.trans (if_neg hc)) (by decide))
    refine Tri.skip ?_
    refine TriQ.next ?_
    refine Tri.seq ?_
    refine Tri.region ?_
    refine TriL.segK (k' := 2) (fr' := [(2, .pointer (some ⟨b2, 0, none⟩)), (10, .agg #[.slice A (ns.length) (c)]), (11, .int .i64 (root))]) (obl := [b2 = b2]) [⟨[.at 1], none, none, none, none⟩, o_] [2, 10, 11] (fun _ _ => by kernel_rfl) ⟨rfl, trivial⟩ ?_
    refine TriL.call (f := 29) (args := #[.agg #[.slice A (ns.length) (c)], .int .i64 (root)]) (d := (some 12)) (pre := []) (R := [.abs R, .blk b2 [.slice A (ns.length) (c)] 24]) (pk := [0, 1]) (fun _ => by kernel_rfl) (sp_at A c ns L hG hok.rise hB.hl root) rfl (by kernel_rfl) ?_
    rintro _ _ ⟨rfl, rfl⟩
    refine TriL.segK (k' := 4) (fr' := [(2, .pointer (some ⟨b2, 0, none⟩)), (6, .int .i64 (atI ns root))]) (obl := []) [o_] [2, 6] (fun _ _ => by kernel_rfl) trivial ?_
    refine TriL.nil (by kernel_rfl) ?_
    refine TriQ.next ?_
    refine Tri.seq ?_
    refine Tri.seq ?_
    refine Tri.region ?_
    refine TriL.segK (k' := 2) (fr' := [(2, .pointer (some ⟨b2, 0, none⟩)), (6, .int .i64 (atI ns root)), (14, .bool (decide ((atI ns root : Int) < (0 : Int))))]) (obl := []) [o_, o_] [2, 6, 14] (fun _ _ => by kernel_rfl) trivial ?_
    refine TriL.nil (by kernel_rfl) ?_
    refine TriQ.next ?_
    refine Tri.condP (p := (atI ns root : Int) < (0 : Int)) (fun _ => by kernel_rfl) (fun h14 => ?_) (fun h14 => ?_)
    · have hat : ¬ 0 ≤ atI ns root := by omega
      refine Tri.seq ?_
      refine Tri.region ?_
      refine TriL.segK (k' := 2) (fr' := [(4, .int .i64 0), (5, .int .i64 141)]) (obl := []) [o_, o_] [4, 5] (fun _ _ => by kernel_rfl) trivial ?_
      refine TriL.nil (by kernel_rfl) ?_
      refine TriQ.next ?_
      refine Tri.ret ?_
      refine TriQ.passRet ?_
      exact TriQ.ret (v := .tuple #[.int .i64 0, .int .i64 141]) (l := []) (obl := []) [] [0] (fun _ => by kernel_rfl) trivial rfl (by kernel_rfl) (⟨by rw [refB_bad (ns := ns) (root := root) (by rw [beginC_none hok hat]; decide), beginC_none hok hat], rfl⟩)
    · have hat : 0 ≤ atI ns root := by omega
      have htl := atI_lt hat
      refine Tri.skip ?_
      refine TriQ.next ?_
      refine Tri.seq ?_
      refine Tri.seq ?_
      refine Tri.region ?_
      refine TriL.segK (k' := 7) (fr' := [(6, .int .i64 (atI ns root)), (21, .bool (!(decide (((nd ns (tgt ns root)).kind : Int) = (2 : Int)))))]) (obl := [(Rd β ⟨(blkOf A), offOf A + (tgt ns root) * 10 + 1, none⟩ (.int .i64 ((nd ns (tgt ns root)).kind))), atI ns root = (((tgt ns root) : Nat) : Int), (tgt ns root) < ns.length, (⟨(blkOf A), offOf A, none⟩ : Addr).spot = none, (A : Option Addr) = some ⟨(blkOf A), offOf A, none⟩, b2 = b2]) [o_, ⟨[.at 1], none, none, none, none⟩, o_, ⟨[], some (tgt ns root), none, some ⟨(blkOf A), offOf A, none⟩, none⟩, o_, ⟨[.old (.int .i64 ((nd ns (tgt ns root)).kind))], none, none, none, none⟩, o_] [6, 21] (fun _ _ => by kernel_rfl) ⟨GraphAt.rd hG (i := (tgt ns root)) (by omega) (j := 1) rfl, htl.2.2, by omega, rfl, GraphAt.hd hG (i := (tgt ns root)) (by omega), rfl, trivial⟩ ?_
      refine TriL.nil (by kernel_rfl) ?_
      refine TriQ.next ?_
      refine Tri.condN (p := ((nd ns (tgt ns root)).kind : Int) = (2 : Int)) (fun _ => by kernel_rfl) (fun h21 => ?_) (fun h21 => ?_)
      · refine Tri.seq ?_
        refine Tri.region ?_
        refine TriL.segK (k' := 2) (fr' := [(4, .int .i64 0), (5, .int .i64 173)]) (obl := []) [o_, o_] [4, 5] (fun _ _ => by kernel_rfl) trivial ?_
        refine TriL.nil (by kernel_rfl) ?_
        refine TriQ.next ?_
        refine Tri.ret ?_
        refine TriQ.passRet ?_
        exact TriQ.ret (v := .tuple #[.int .i64 0, .int .i64 173]) (l := []) (obl := []) [] [0] (fun _ => by kernel_rfl) trivial rfl (by kernel_rfl) (⟨by rw [refB_bad (ns := ns) (root := root) (by rw [beginC_kind hok hat h21]; decide), beginC_kind hok hat h21], rfl⟩)
      · refine Tri.skip ?_
        refine TriQ.next ?_
        refine Tri.seq ?_
        refine Tri.region ?_
        refine TriL.segK (k' := 3) (fr' := [(4, .int .i64 (atI ns root)), (5, .int .i64 0)]) (obl := []) [o_, o_, o_] [4, 5] (fun _ _ => by kernel_rfl) trivial ?_
        refine TriL.nil (by kernel_rfl) ?_
        refine TriQ.next ?_
        refine Tri.ret ?_
        exact TriQ.ret (v := .tuple #[.int .i64 (atI ns root), .int .i64 0]) (l := []) (obl := []) [] [0] (fun _ => by kernel_rfl) trivial rfl (by kernel_rfl) (⟨by rw [refB_ok (beginC_ok hok hat h21), htl.2.2], rfl⟩)
end Go.Proofs.Ytjpdcppdoonmdaa
