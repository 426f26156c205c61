/-
  PROVED HERE: graph.Find
  CONDITIONS: as the theorems say. Printed by a program of this repo (wip/v).
-/
import Derived.Test.YtjpdcppdoonmdaaGBegin
namespace Go.Proofs.Ytjpdcppdoonmdaa
open Go.RowKit
attribute [local irreducible] TriL TriLQ Tri TriQ
set_option maxRecDepth 100000 in
set_option maxHeartbeats 4000000 in
theorem sp_cmpf {β : Bs} (e : EntM) (p : ByteArray) : Spec Try.prog β 44 #[.agg #[.string e.name, .int .i64 (e.id)], .string p] [] (fun v l => v = .int .i64 (cmpB e.name p) ∧ l = []) := by
  refine Spec.enter Try.func44 rfl Try.ntmps44 (Nat.le_of_ble_eq_true rfl) (fun R => ?_)
  refine Tri.seq ?_
  refine Tri.region ?_
  refine TriL.segN (k' := 2) (fr' := fun b1 => [(1, .string p), (2, .pointer (some ⟨b1, 0, none⟩))]) (hps' := fun b1 => [.abs R, .blk b1 [.string e.name, .int .i64 (e.id)] 72]) (obl := fun b1 => []) [o_, o_] [1, 2] [0, 1] (fun _ _ => by kernel_rfl) (fun b1 => trivial) (fun b1 => ?_)
  refine TriL.nil (by kernel_rfl) ?_
  refine TriQ.next ?_
  refine Tri.seq ?_
  refine Tri.region ?_
  refine TriL.segK (k' := 3) (fr' := [(6, .string e.name), (7, .string p)]) (obl := [b1 = b1]) [o_, ⟨[.at 1], none, none, none, none⟩, o_] [6, 7] (fun _ _ => by kernel_rfl) ⟨rfl, trivial⟩ ?_
  refine TriL.call (f := 45) (args := #[.string e.name, .string p]) (d := (some 8)) (pre := []) (R := [.abs R, .blk b1 [.string e.name, .int .i64 (e.id)] 72]) (pk := [0, 1]) (fun _ => by kernel_rfl) (sp_compare e.name p) rfl (by kernel_rfl) ?_
  rintro _ _ ⟨rfl, rfl⟩
  refine TriL.segK (k' := 5) (fr' := [(4, .int .i64 ((cmpB e.name p)))]) (obl := []) [o_] [4] (fun _ _ => by kernel_rfl) trivial ?_
  refine TriL.nil (by kernel_rfl) ?_
  refine TriQ.next ?_
  refine Tri.ret ?_
  exact TriQ.ret (v := .int .i64 ((cmpB e.name p))) (l := []) (obl := []) [] [0] (fun _ => by kernel_rfl) trivial rfl (by kernel_rfl) (⟨rfl, rfl⟩)
set_option maxRecDepth 100000 in
set_option maxHeartbeats 4000000 in
theorem sp_bsearch {β : Bs} (A : Option Addr) (c : Nat) (es : List EntM) (p : ByteArray) (hE : EntsAt β A es) (hl : es.length ≤ 1048576) (hs : Sorted es) :
    Spec Try.prog β 43 #[.slice A es.length c, .string p, .func (.func 44) #[] #[]] [] (fun v l => Found es p v ∧ l = []) := by
  refine Spec.enter Try.func43 rfl Try.ntmps43 (Nat.le_of_ble_eq_true rfl) (fun R => ?_)
  refine Tri.seq ?_
  refine Tri.region ?_
  refine TriL.segK (k' := 2) (fr' := [(0, .slice A (es.length) (c)), (1, .string p), (2, .func (.func 44) #[] #[])]) (obl := []) [o_, o_] [0, 1, 2] (fun _ _ => by kernel_rfl) trivial ?_
  refine TriL.nil (by kernel_rfl) ?_
  refine TriQ.next ?_
  refine Tri.seq ?_
  refine Tri.region ?_
  refine TriL.segK (k' := 3) (fr' := [(0, .slice A (es.length) (c)), (1, .string p), (2, .func (.func 44) #[] #[]), (8, .int .i64 (((es.length : Nat) : Int)))]) (obl := []) [o_, o_, o_] [0, 1, 2, 8] (fun _ _ => by kernel_rfl) trivial ?_
  refine TriL.nil (by kernel_rfl) ?_
  refine TriQ.next ?_
  refine Tri.seq ?_
  refine Tri.region ?_
  refine TriL.segK (k' := 3) (fr' := [(0, .slice A (es.length) (c)), (1, .string p), (2, .func (.func 44) #[] #[]), (8, .int .i64 (((es.length : Nat) : Int))), (9, .int .i64 0), (10, .int .i64 (((es.length : Nat) : Int)))]) (obl := []) [o_, o_, o_] [0, 1, 2, 8, 9, 10] (fun _ _ => by kernel_rfl) trivial ?_
  refine TriL.nil (by kernel_rfl) ?_
  refine TriQ.next ?_
  refine Tri.seq ?_
  refine Tri.block ?_
  refine Tri.loop (ι := Nat × Nat) (fun ((i, j) : Nat × Nat) => (i ≤ j) ∧ (j ≤ es.length) ∧ (∀ t, t < i → cmpB (en es t).name p < 0) ∧ (∀ t, j ≤ t → t < es.length → 0 ≤ cmpB (en es t).name p)) (fun ((i, j) : Nat × Nat) => j - i) (fun ((i, j) : Nat × Nat) => [(0, .slice A (es.length) (c)), (1, .string p), (2, .func (.func 44) #[] #[]), (8, .int .i64 (((es.length : Nat) : Int))), (9, .int .i64 (((i : Nat) : Int))), (10, .int .i64 (((j : Nat) : Int)))]) (fun ((i, j) : Nat × Nat) => [.abs R]) (0, es.length) (idx := [0, 1, 2, 8, 9, 10]) (pk := [0]) (show (0 ≤ es.length) ∧ (es.length ≤ es.length) ∧ (∀ t, t < 0 → cmpB (en es t).name p < 0) ∧ (∀ t, es.length ≤ t → t < es.length → 0 ≤ cmpB (en es t).name p) from ⟨Nat.zero_le _, Nat.le_refl _, fun t h => absurd h (Nat.not_lt_zero t), fun t h1 h2 => by omega⟩) (fun _ => by kernel_rfl) rfl (by kernel_rfl) ?_
  rintro ⟨i, j⟩ ⟨hij, hj, hlo, hhi⟩
  show Tri _ _ _ _ [(0, .slice A (es.length) (c)), (1, .string p), (2, .func (.func 44) #[] #[]), (8, .int .i64 (((es.length : Nat) : Int))), (9, .int .i64 (((i : Nat) : Int))), (10, .int .i64 (((j : Nat) : Int)))] [.abs R] _
  refine Tri.seq ?_
  refine Tri.seq ?_
  refine Tri.region ?_
  refine TriL.segK (k' := 3) (fr' := [(0, .slice A (es.length) (c)), (1, .string p), (2, .func (.func 44) #[] #[]), (8, .int .i64 (((es.length : Nat) : Int))), (9, .int .i64 (((i : Nat) : Int))), (10, .int .i64 (((j : Nat) : Int))), (17, .bool (decide ((((i : Nat) : Int) : Int) < (((j : Nat) : Int) : Int))))]) (obl := []) [o_, o_, o_] [0, 1, 2, 8, 9, 10, 17] (fun _ _ => by kernel_rfl) trivial ?_
  refine TriL.nil (by kernel_rfl) ?_
  refine TriQ.next ?_
  refine Tri.condP (p := (((i : Nat) : Int) : Int) < (((j : Nat) : Int) : Int)) (fun _ => by kernel_rfl) (fun h17 => ?_) (fun h17 => ?_)
  · refine Tri.skip ?_
    refine TriQ.next ?_
    refine Tri.block ?_
    refine Tri.seq ?_
    refine Tri.region ?_
    refine TriL.segK (k' := 7) (fr' := [(0, .slice A (es.length) (c)), (1, .string p), (2, .func (.func 44) #[] #[]), (8, .int .i64 (((es.length : Nat) : Int))), (9, .int .i64 (((i : Nat) : Int))), (10, .int .i64 (((j : Nat) : Int))), (11, .int .i64 ((((i + j) / 2 : Nat) : Int)))]) (obl := [(Value.int .i64 (IntKind.wrap .i64 (((i + j) / 2 : Nat) : Int))) = (.int .i64 ((((i + j) / 2 : Nat) : Int))), (Value.int .u64 (Int.fdiv ((i + j : Nat) : Int) (2 ^ 1))) = (.int .u64 ((((i + j) / 2 : Nat) : Int))), (Value.int .u64 (IntKind.wrap .u64 ((i + j : Nat) : Int))) = (.int .u64 (((i + j : Nat) : Int))), (Value.int .i64 (IntKind.wrap .i64 (((i : Nat) : Int) + ((j : Nat) : Int)))) = (.int .i64 (((i + j : Nat) : Int)))]) [o_, o_, ⟨[], none, none, none, some (.int .i64 (((i + j : Nat) : Int)))⟩, ⟨[], none, none, none, some (.int .u64 (((i + j : Nat) : Int)))⟩, ⟨[], none, none, none, some (.int .u64 ((((i + j) / 2 : Nat) : Int)))⟩, ⟨[], none, none, none, some (.int .i64 ((((i + j) / 2 : Nat) : Int)))⟩, o_] [0, 1, 2, 8, 9, 10, 11] (fun _ _ => by kernel_rfl) ⟨wrapEq rfl (by omega) (by omega), shr1Eq, u64Eq (by omega) (by omega), wrapEq (by omega) (by omega) (by omega), trivial⟩ ?_
    refine TriL.nil (by kernel_rfl) ?_
    refine TriQ.next ?_
    refine Tri.seq ?_
    refine Tri.region ?_
    refine TriL.segK (k' := 6) (fr' := [(0, .slice A (es.length) (c)), (1, .string p), (2, .func (.func 44) #[] #[]), (8, .int .i64 (((es.length : Nat) : Int))), (9, .int .i64 (((i : Nat) : Int))), (10, .int .i64 (((j : Nat) : Int))), (11, .int .i64 ((((i + j) / 2 : Nat) : Int))), (24, .func (.func 44) #[] #[]), (28, .agg #[.string (en es ((i + j) / 2)).name, .int .i64 ((en es ((i + j) / 2)).id)]), (29, .string p)]) (obl := [(Rd β ⟨(blkOf A), offOf A + ((i + j) / 2) * 2 + 1, none⟩ (.int .i64 ((en es ((i + j) / 2)).id))), (Rd β ⟨(blkOf A), offOf A + ((i + j) / 2) * 2, none⟩ (.string (en es ((i + j) / 2)).name)), (((i + j) / 2 : Nat) : Int) = (((i + j) / 2 : Nat) : Int), (i + j) / 2 < es.length, (⟨(blkOf A), offOf A, none⟩ : Addr).spot = none, (A : Option Addr) = some ⟨(blkOf A), offOf A, none⟩]) [o_, o_, o_, ⟨[], some ((i + j) / 2), none, some ⟨(blkOf A), offOf A, none⟩, none⟩, ⟨[.old (.string (en es ((i + j) / 2)).name), .old (.int .i64 ((en es ((i + j) / 2)).id))], none, none, none, none⟩, o_] [0, 1, 2, 8, 9, 10, 11, 24, 28, 29] (fun _ _ => by kernel_rfl) ⟨EntsAt.rd hE (i := (i + j) / 2) (by omega) (j := 1) rfl, EntsAt.rd hE (i := (i + j) / 2) (by omega) (j := 0) rfl, rfl, by omega, rfl, EntsAt.hd hE (i := (i + j) / 2) (by omega), trivial⟩ ?_
    refine TriL.call (f := 44) (args := #[.agg #[.string (en es ((i + j) / 2)).name, .int .i64 ((en es ((i + j) / 2)).id)], .string p]) (d := (some 30)) (pre := []) (R := [.abs R]) (pk := [0]) (fun _ => by kernel_rfl) (sp_cmpf (en es ((i + j) / 2)) p) rfl (by kernel_rfl) ?_
    rintro _ _ ⟨rfl, rfl⟩
    refine TriL.segK (k' := 8) (fr' := [(0, .slice A (es.length) (c)), (1, .string p), (2, .func (.func 44) #[] #[]), (8, .int .i64 (((es.length : Nat) : Int))), (9, .int .i64 (((i : Nat) : Int))), (10, .int .i64 (((j : Nat) : Int))), (11, .int .i64 ((((i + j) / 2 : Nat) : Int))), (31, .bool (decide (((cmpB (en es ((i + j) / 2)).name p) : Int) < (0 : Int))))]) (obl := []) [o_] [0, 1, 2, 8, 9, 10, 11, 31] (fun _ _ => by kernel_rfl) trivial ?_
    refine TriL.nil (by kernel_rfl) ?_
    refine TriQ.next ?_
    refine Tri.condP (p := ((cmpB (en es ((i + j) / 2)).name p) : Int) < (0 : Int)) (fun _ => by kernel_rfl) (fun h31 => ?_) (fun h31 => ?_)
    · refine Tri.region ?_
      refine TriL.segK (k' := 3) (fr' := [(0, .slice A (es.length) (c)), (1, .string p), (2, .func (.func 44) #[] #[]), (8, .int .i64 (((es.length : Nat) : Int))), (9, .int .i64 (((((i + j) / 2) + 1 : Nat) : Int))), (10, .int .i64 (((j : Nat) : Int)))]) (obl := [(Value.int .i64 (IntKind.wrap .i64 ((((i + j) / 2 : Nat) : Int) + 1))) = (.int .i64 (((((i + j) / 2) + 1 : Nat) : Int)))]) [o_, ⟨[], none, none, none, some (.int .i64 (((((i + j) / 2) + 1 : Nat) : Int)))⟩, o_] [0, 1, 2, 8, 9, 10] (fun _ _ => by kernel_rfl) ⟨wrapEq (by omega) (by omega) (by omega), trivial⟩ ?_
      refine TriL.nil (by kernel_rfl) ?_
      refine TriQ.blockNormal ?_
      exact TriQ.turn ((((i + j) / 2) + 1), j) (idx := [0, 1, 2, 8, 9, 10]) (pk := [0]) (show (((((i + j) / 2) + 1)) ≤ j) ∧ (j ≤ es.length) ∧ (∀ t, t < ((((i + j) / 2) + 1)) → cmpB (en es t).name p < 0) ∧ (∀ t, j ≤ t → t < es.length → 0 ≤ cmpB (en es t).name p) from ⟨by omega, by omega, hs.low (by omega) h31, hhi⟩) (by show j - ((((i + j) / 2) + 1)) < j - i; omega) (fun _ => by kernel_rfl) rfl (by kernel_rfl)
    · refine Tri.region ?_
      refine TriL.segK (k' := 2) (fr' := [(0, .slice A (es.length) (c)), (1, .string p), (2, .func (.func 44) #[] #[]), (8, .int .i64 (((es.length : Nat) : Int))), (9, .int .i64 (((i : Nat) : Int))), (10, .int .i64 ((((i + j) / 2 : Nat) : Int)))]) (obl := []) [o_, o_] [0, 1, 2, 8, 9, 10] (fun _ _ => by kernel_rfl) trivial ?_
      refine TriL.nil (by kernel_rfl) ?_
      refine TriQ.blockNormal ?_
      exact TriQ.turn (i, ((i + j) / 2)) (idx := [0, 1, 2, 8, 9, 10]) (pk := [0]) (show (i ≤ (((i + j) / 2))) ∧ ((((i + j) / 2)) ≤ es.length) ∧ (∀ t, t < i → cmpB (en es t).name p < 0) ∧ (∀ t, (((i + j) / 2)) ≤ t → t < es.length → 0 ≤ cmpB (en es t).name p) from ⟨by omega, by omega, hlo, hs.high h31⟩) (by show (((i + j) / 2)) - i < j - i; omega) (fun _ => by kernel_rfl) rfl (by kernel_rfl)
  · refine Tri.exit ?_
    refine TriQ.passExit ?_
    refine TriQ.passExit ?_
    refine TriQ.blockHit ?_
    refine TriQ.next ?_
    refine Tri.seq ?_
    refine Tri.region ?_
    refine TriL.segK (k' := 5) (fr' := [(0, .slice A (es.length) (c)), (1, .string p), (2, .func (.func 44) #[] #[]), (9, .int .i64 (((i : Nat) : Int))), (35, .int .i64 (((i : Nat) : Int))), (39, .bool (decide ((((i : Nat) : Int) : Int) < (((es.length : Nat) : Int) : Int))))]) (obl := []) [o_, o_, o_, o_, o_] [0, 1, 2, 9, 35, 39] (fun _ _ => by kernel_rfl) trivial ?_
    refine TriL.slotP 39 ((((i : Nat) : Int) : Int) < (((es.length : Nat) : Int) : Int)) (fun _ => by kernel_rfl) (fun h39 => ?_) (fun h39 => ?_)
    · refine TriL.segK (k' := 11) (fr' := [(35, .int .i64 (((i : Nat) : Int))), (39, .bool true), (40, .func (.func 44) #[] #[]), (44, .agg #[.string (en es i).name, .int .i64 ((en es i).id)]), (45, .string p)]) (obl := [(Rd β ⟨(blkOf A), offOf A + i * 2 + 1, none⟩ (.int .i64 ((en es i).id))), (Rd β ⟨(blkOf A), offOf A + i * 2, none⟩ (.string (en es i).name)), ((i : Nat) : Int) = ((i : Nat) : Int), i < es.length, (⟨(blkOf A), offOf A, none⟩ : Addr).spot = none, (A : Option Addr) = some ⟨(blkOf A), offOf A, none⟩]) [o_, o_, o_, ⟨[], some i, none, some ⟨(blkOf A), offOf A, none⟩, none⟩, ⟨[.old (.string (en es i).name), .old (.int .i64 ((en es i).id))], none, none, none, none⟩, o_] [35, 39, 40, 44, 45] (fun _ _ => by kernel_rfl) ⟨EntsAt.rd hE (i := i) (by omega) (j := 1) rfl, EntsAt.rd hE (i := i) (by omega) (j := 0) rfl, rfl, by omega, rfl, EntsAt.hd hE (i := i) (by omega), trivial⟩ ?_
      refine TriL.call (f := 44) (args := #[.agg #[.string (en es i).name, .int .i64 ((en es i).id)], .string p]) (d := (some 46)) (pre := []) (R := [.abs R]) (pk := [0]) (fun _ => by kernel_rfl) (sp_cmpf (en es i) p) rfl (by kernel_rfl) ?_
      rintro _ _ ⟨rfl, rfl⟩
      refine TriL.segK (k' := 16) (fr' := [(6, .int .i64 (((i : Nat) : Int))), (7, .bool (decide (((cmpB (en es i).name p) : Int) = (0 : Int))))]) (obl := []) [o_, o_, o_, o_] [6, 7] (fun _ _ => by kernel_rfl) trivial ?_
      refine TriL.nil (by kernel_rfl) ?_
      refine TriQ.next ?_
      refine Tri.ret ?_
      exact TriQ.ret (v := .tuple #[.int .i64 (((i : Nat) : Int)), .bool (decide (((cmpB (en es i).name p) : Int) = (0 : Int)))]) (l := []) (obl := []) [] [0] (fun _ => by kernel_rfl) trivial rfl (by kernel_rfl) (⟨bs_post hs (by omega) hlo (fun t h1 h2 => hhi t (by omega) h2), rfl⟩)
    · refine TriL.segK (k' := 16) (fr' := [(6, .int .i64 (((i : Nat) : Int))), (7, .bool false)]) (obl := []) [o_, o_, o_, o_, o_, o_, o_, o_, o_, o_, o_] [6, 7] (fun _ _ => by kernel_rfl) trivial ?_
      refine TriL.nil (by kernel_rfl) ?_
      refine TriQ.next ?_
      refine Tri.ret ?_
      exact TriQ.ret (v := .tuple #[.int .i64 (((i : Nat) : Int)), .bool false]) (l := []) (obl := []) [] [0] (fun _ => by kernel_rfl) trivial rfl (by kernel_rfl) (⟨bs_none hlo (by omega), rfl⟩)
set_option maxRecDepth 100000 in
set_option maxHeartbeats 4000000 in
theorem sp_find {β : Bs} (A : Option Addr) (c : Nat) (ns : List NodeM) (L : Lay) (hG : GraphAt β A ns L) (hB : GraphB ns 1048576) (root : Int) (hz : I64 root) (F : Option Addr) (cF : Nat) (ps : List ByteArray) (hP : StrsAt β F ps) (hPl : ps.length ≤ 1048576) :
    Spec Try.prog β 23 #[.agg #[.slice A ns.length c], .int .i64 root, .slice F ps.length cF] [] (fun v l => v = .tuple #[.int .i64 (findG ns root ps).1, .int .i64 (findG ns root ps).2] ∧ l = []) := by
  refine Spec.enter Try.func23 rfl Try.ntmps23 (Nat.le_of_ble_eq_true rfl) (fun R => ?_)
  refine Tri.seq ?_
  refine Tri.region ?_
  refine TriL.segN (k' := 3) (fr' := fun b2 => [(1, .int .i64 (root)), (2, .slice F (ps.length) (cF)), (3, .pointer (some ⟨b2, 0, none⟩))]) (hps' := fun b2 => [.abs R, .blk b2 [.slice A (ns.length) (c)] 24]) (obl := fun b2 => []) [o_, o_, o_] [1, 2, 3] [0, 1] (fun _ _ => by kernel_rfl) (fun b2 => trivial) (fun b2 => ?_)
  refine TriL.nil (by kernel_rfl) ?_
  refine TriQ.next ?_
  refine Tri.seq ?_
  refine Tri.region ?_
  refine TriL.segK (k' := 2) (fr' := [(2, .slice F (ps.length) (cF)), (16, .agg #[.slice A (ns.length) (c)]), (17, .int .i64 (root))]) (obl := [b2 = b2]) [⟨[.at 1], none, none, none, none⟩, o_] [2, 16, 17] (fun _ _ => by kernel_rfl) ⟨rfl, trivial⟩ ?_
  refine TriL.call (f := 42) (args := #[.agg #[.slice A (ns.length) (c)], .int .i64 (root)]) (d := (some 18)) (pre := []) (R := [.abs R, .blk b2 [.slice A (ns.length) (c)] 24]) (pk := [0, 1]) (fun _ => by kernel_rfl) (sp_begin A c ns L hG hB root hz) rfl (by kernel_rfl) ?_
  rintro _ _ (⟨mb, rfl, hbg, rfl⟩ | ⟨x, y, rfl, hbg, rfl⟩)
  · obtain ⟨hok, hat, hkd⟩ := beginC_zero hbg
    have htl := atI_lt hat
    refine TriL.segK (k' := 10) (fr' := [(2, .slice F (ps.length) (cF)), (8, .map (some mb)), (9, .pointer (some ⟨(blkOf A), offOf A + (tgt ns root) * 10, none⟩)), (10, .int .i64 0)]) (obl := []) [o_, o_, o_, o_, o_, o_, o_] [2, 8, 9, 10] (fun _ _ => by kernel_rfl) trivial ?_
    refine TriL.nil (by kernel_rfl) ?_
    refine TriQ.next ?_
    refine Tri.seq ?_
    refine Tri.seq ?_
    refine Tri.region ?_
    refine TriL.segK (k' := 2) (fr' := [(2, .slice F (ps.length) (cF)), (8, .map (some mb)), (9, .pointer (some ⟨(blkOf A), offOf A + (tgt ns root) * 10, none⟩)), (10, .int .i64 0), (23, .bool false)]) (obl := []) [o_, o_] [2, 8, 9, 10, 23] (fun _ _ => by kernel_rfl) trivial ?_
    refine TriL.nil (by kernel_rfl) ?_
    refine TriQ.next ?_
    refine Tri.condF (fun _ => by kernel_rfl) ?_
    refine Tri.skip ?_
    refine TriQ.next ?_
    refine Tri.seq ?_
    refine Tri.seq ?_
    refine Tri.region ?_
    refine TriL.segK (k' := 3) (fr' := [(8, .map (some mb)), (9, .pointer (some ⟨(blkOf A), offOf A + (tgt ns root) * 10, none⟩)), (25, .slice F (ps.length) (cF)), (26, .int .i64 (((ps.length : Nat) : Int))), (27, .int .i64 0)]) (obl := []) [o_, o_, o_] [8, 9, 25, 26, 27] (fun _ _ => by kernel_rfl) trivial ?_
    refine TriL.nil (by kernel_rfl) ?_
    refine TriQ.next ?_
    refine Tri.block ?_
    refine Tri.loop (ι := Nat × Nat) (fun ((k, i) : Nat × Nat) => (k < ns.length) ∧ (i ≤ ps.length) ∧ (findG ns root ps = findM ns k (ps.drop i))) (fun ((k, i) : Nat × Nat) => ps.length - i) (fun ((k, i) : Nat × Nat) => [(8, .map (some mb)), (9, .pointer (some ⟨(blkOf A), offOf A + k * 10, none⟩)), (25, .slice F (ps.length) (cF)), (26, .int .i64 (((ps.length : Nat) : Int))), (27, .int .i64 (((i : Nat) : Int)))]) (fun ((k, i) : Nat × Nat) => [.abs (MapA Try.prog 3 mb (mf (bf A ns ns.length)) ns.length), .abs R]) ((tgt ns root), 0) (idx := [8, 9, 25, 26, 27]) (pk := [0, 1]) (show (((tgt ns root)) < ns.length) ∧ (0 ≤ ps.length) ∧ (findG ns root ps = findM ns ((tgt ns root)) (ps.drop 0)) from ⟨htl.1, Nat.zero_le _, findG_ok hbg⟩) (fun _ => by kernel_rfl) rfl (by kernel_rfl) ?_
    rintro ⟨k, i⟩ ⟨hk, hi, hf⟩
    show Tri _ _ _ _ [(8, .map (some mb)), (9, .pointer (some ⟨(blkOf A), offOf A + k * 10, none⟩)), (25, .slice F (ps.length) (cF)), (26, .int .i64 (((ps.length : Nat) : Int))), (27, .int .i64 (((i : Nat) : Int)))] [.abs (MapA Try.prog 3 mb (mf (bf A ns ns.length)) ns.length), .abs R] _
    refine Tri.seq ?_
    refine Tri.region ?_
    refine TriL.segK (k' := 1) (fr' := [(8, .map (some mb)), (9, .pointer (some ⟨(blkOf A), offOf A + k * 10, none⟩)), (25, .slice F (ps.length) (cF)), (26, .int .i64 (((ps.length : Nat) : Int))), (27, .int .i64 (((i : Nat) : Int))), (28, .bool (decide ((((i : Nat) : Int) : Int) < (((ps.length : Nat) : Int) : Int))))]) (obl := []) [o_] [8, 9, 25, 26, 27, 28] (fun _ _ => by kernel_rfl) trivial ?_
    refine TriL.nil (by kernel_rfl) ?_
    refine TriQ.next ?_
    refine Tri.seq ?_
    refine Tri.condP (p := (((i : Nat) : Int) : Int) < (((ps.length : Nat) : Int) : Int)) (fun _ => by kernel_rfl) (fun h28 => ?_) (fun h28 => ?_)
    · refine Tri.skip ?_
      refine TriQ.next ?_
      refine Tri.seq ?_
      refine Tri.block ?_
      refine Tri.seq ?_
      refine Tri.region ?_
      refine TriL.segK (k' := 3) (fr' := [(8, .map (some mb)), (9, .pointer (some ⟨(blkOf A), offOf A + k * 10, none⟩)), (12, .string (sAt ps i)), (25, .slice F (ps.length) (cF)), (26, .int .i64 (((ps.length : Nat) : Int))), (27, .int .i64 (((i : Nat) : Int)))]) (obl := [(Rd β ⟨(blkOf F), offOf F + i * 1, none⟩ (.string (sAt ps i))), ((i : Nat) : Int) = ((i : Nat) : Int), i < ps.length, (⟨(blkOf F), offOf F, none⟩ : Addr).spot = none, (F : Option Addr) = some ⟨(blkOf F), offOf F, none⟩]) [⟨[], some i, none, some ⟨(blkOf F), offOf F, none⟩, none⟩, ⟨[.old (.string (sAt ps i))], none, none, none, none⟩, o_] [8, 9, 12, 25, 26, 27] (fun _ _ => by kernel_rfl) ⟨StrsAt.rd hP (by omega), rfl, by omega, rfl, StrsAt.hd hP (j := i) (by omega), trivial⟩ ?_
      refine TriL.nil (by kernel_rfl) ?_
      refine TriQ.next ?_
      refine Tri.seq ?_
      refine Tri.seq ?_
      refine Tri.region ?_
      refine TriL.segK (k' := 4) (fr' := [(8, .map (some mb)), (9, .pointer (some ⟨(blkOf A), offOf A + k * 10, none⟩)), (12, .string (sAt ps i)), (25, .slice F (ps.length) (cF)), (26, .int .i64 (((ps.length : Nat) : Int))), (27, .int .i64 (((i : Nat) : Int))), (34, .int .i64 ((nd ns k).kind))]) (obl := [(Rd β ⟨(blkOf A), offOf A + k * 10 + 1, none⟩ (.int .i64 ((nd ns k).kind)))]) [o_, o_, o_, ⟨[.old (.int .i64 ((nd ns k).kind))], none, none, none, none⟩] [8, 9, 12, 25, 26, 27, 34] (fun _ _ => by kernel_rfl) ⟨GraphAt.rd hG (i := k) (by omega) (j := 1) rfl, trivial⟩ ?_
      refine TriL.nil (by kernel_rfl) ?_
      refine TriQ.next ?_
      refine Tri.block ?_
      refine Tri.seq ?_
      refine Tri.region ?_
      refine TriL.segK (k' := 2) (fr' := [(8, .map (some mb)), (9, .pointer (some ⟨(blkOf A), offOf A + k * 10, none⟩)), (12, .string (sAt ps i)), (25, .slice F (ps.length) (cF)), (26, .int .i64 (((ps.length : Nat) : Int))), (27, .int .i64 (((i : Nat) : Int))), (34, .int .i64 ((nd ns k).kind)), (35, .bool (decide (((nd ns k).kind : Int) = (3 : Int))))]) (obl := []) [o_, o_] [8, 9, 12, 25, 26, 27, 34, 35] (fun _ _ => by kernel_rfl) trivial ?_
      refine TriL.nil (by kernel_rfl) ?_
      refine TriQ.next ?_
      refine Tri.condP (p := ((nd ns k).kind : Int) = (3 : Int)) (fun _ => by kernel_rfl) (fun h35 => ?_) (fun h35 => ?_)
      · refine Tri.seq ?_
        refine Tri.region ?_
        refine TriL.segK (k' := 2) (fr' := [(6, .int .i64 0), (7, .int .i64 174)]) (obl := []) [o_, o_] [6, 7] (fun _ _ => by kernel_rfl) trivial ?_
        refine TriL.nil (by kernel_rfl) ?_
        refine TriQ.next ?_
        refine Tri.ret ?_
        refine TriQ.blockRet ?_
        refine TriQ.passRet ?_
        refine TriQ.blockRet ?_
        refine TriQ.passRet ?_
        refine TriQ.passRet ?_
        refine TriQ.blockRet ?_
        refine TriQ.passRet ?_
        exact TriQ.ret (v := .tuple #[.int .i64 0, .int .i64 174]) (l := []) (obl := []) [] [1] (fun _ => by kernel_rfl) trivial rfl (by kernel_rfl) (⟨by rw [hf, findM_sym (by omega) h35], rfl⟩)
      · refine Tri.seq ?_
        refine Tri.region ?_
        refine TriL.segK (k' := 2) (fr' := [(8, .map (some mb)), (9, .pointer (some ⟨(blkOf A), offOf A + k * 10, none⟩)), (12, .string (sAt ps i)), (25, .slice F (ps.length) (cF)), (26, .int .i64 (((ps.length : Nat) : Int))), (27, .int .i64 (((i : Nat) : Int))), (37, .bool (decide (((nd ns k).kind : Int) = (1 : Int))))]) (obl := []) [o_, o_] [8, 9, 12, 25, 26, 27, 37] (fun _ _ => by kernel_rfl) trivial ?_
        refine TriL.nil (by kernel_rfl) ?_
        refine TriQ.next ?_
        refine Tri.condP (p := ((nd ns k).kind : Int) = (1 : Int)) (fun _ => by kernel_rfl) (fun h37 => ?_) (fun h37 => ?_)
        · refine Tri.seq ?_
          refine Tri.region ?_
          refine TriL.segK (k' := 2) (fr' := [(6, .int .i64 0), (7, .int .i64 173)]) (obl := []) [o_, o_] [6, 7] (fun _ _ => by kernel_rfl) trivial ?_
          refine TriL.nil (by kernel_rfl) ?_
          refine TriQ.next ?_
          refine Tri.ret ?_
          refine TriQ.blockRet ?_
          refine TriQ.passRet ?_
          refine TriQ.blockRet ?_
          refine TriQ.passRet ?_
          refine TriQ.passRet ?_
          refine TriQ.blockRet ?_
          refine TriQ.passRet ?_
          exact TriQ.ret (v := .tuple #[.int .i64 0, .int .i64 173]) (l := []) (obl := []) [] [1] (fun _ => by kernel_rfl) trivial rfl (by kernel_rfl) (⟨by rw [hf, findM_file (by omega) h37], rfl⟩)
        · refine Tri.skip ?_
          refine TriQ.blockNormal ?_
          refine TriQ.next ?_
          refine Tri.seq ?_
          refine Tri.region ?_
          refine TriL.segK (k' := 5) (fr' := [(8, .map (some mb)), (9, .pointer (some ⟨(blkOf A), offOf A + k * 10, none⟩)), (25, .slice F (ps.length) (cF)), (26, .int .i64 (((ps.length : Nat) : Int))), (27, .int .i64 (((i : Nat) : Int))), (43, .slice (L.eA k) ((nd ns k).ents.length) ((L.eC k))), (44, .string (sAt ps i))]) (obl := [(Rd β ⟨(blkOf A), offOf A + k * 10 + 9, none⟩ (.slice (L.eA k) ((nd ns k).ents.length) ((L.eC k))))]) [o_, o_, o_, ⟨[.old (.slice (L.eA k) ((nd ns k).ents.length) ((L.eC k)))], none, none, none, none⟩, o_] [8, 9, 25, 26, 27, 43, 44] (fun _ _ => by kernel_rfl) ⟨GraphAt.rd hG (i := k) (by omega) (j := 9) rfl, trivial⟩ ?_
          refine TriL.call (f := 43) (args := #[.slice (L.eA k) ((nd ns k).ents.length) ((L.eC k)), .string (sAt ps i), .func (.func 44) #[] #[]]) (d := (some 45)) (pre := []) (R := [.abs (MapA Try.prog 3 mb (mf (bf A ns ns.length)) ns.length), .abs R]) (pk := [0, 1]) (fun _ => by kernel_rfl) (sp_bsearch (L.eA k) (L.eC k) (nd ns k).ents (sAt ps i) (hG.ents k hk) (hB.hd k hk).2 (sorted_of (hok.ents k hk))) rfl (by kernel_rfl) ?_
          rintro _ _ ⟨(⟨q, hq, hqn, rfl⟩ | ⟨hno, z, rfl⟩), rfl⟩
          · have hat2 := (hok.ents k hk q hq).at_
            have htl2 := atI_lt hat2
            refine TriL.segK (k' := 11) (fr' := [(8, .map (some mb)), (9, .pointer (some ⟨(blkOf A), offOf A + k * 10, none⟩)), (13, .int .i64 (((q : Nat) : Int))), (14, .bool true), (25, .slice F (ps.length) (cF)), (26, .int .i64 (((ps.length : Nat) : Int))), (27, .int .i64 (((i : Nat) : Int)))]) (obl := []) [o_, o_, o_, o_, o_] [8, 9, 13, 14, 25, 26, 27] (fun _ _ => by kernel_rfl) trivial ?_
            refine TriL.nil (by kernel_rfl) ?_
            refine TriQ.next ?_
            refine Tri.seq ?_
            refine Tri.seq ?_
            refine Tri.region ?_
            refine TriL.segK (k' := 2) (fr' := [(8, .map (some mb)), (9, .pointer (some ⟨(blkOf A), offOf A + k * 10, none⟩)), (13, .int .i64 (((q : Nat) : Int))), (25, .slice F (ps.length) (cF)), (26, .int .i64 (((ps.length : Nat) : Int))), (27, .int .i64 (((i : Nat) : Int))), (49, .bool false)]) (obl := []) [o_, o_] [8, 9, 13, 25, 26, 27, 49] (fun _ _ => by kernel_rfl) trivial ?_
            refine TriL.nil (by kernel_rfl) ?_
            refine TriQ.next ?_
            refine Tri.condF (fun _ => by kernel_rfl) ?_
            refine Tri.skip ?_
            refine TriQ.next ?_
            refine Tri.region ?_
            refine TriL.segK (k' := 9) (fr' := [(8, .map (some mb)), (25, .slice F (ps.length) (cF)), (26, .int .i64 (((ps.length : Nat) : Int))), (27, .int .i64 (((i : Nat) : Int))), (50, .map (some mb)), (58, .int .i64 ((en (nd ns k).ents q).id))]) (obl := [(Rd β ⟨(blkOf (L.eA k)), offOf (L.eA k) + q * 2 + 1, none⟩ (.int .i64 ((en (nd ns k).ents q).id))), ((q : Nat) : Int) = ((q : Nat) : Int), q < (nd ns k).ents.length, (⟨(blkOf (L.eA k)), offOf (L.eA k), none⟩ : Addr).spot = none, ((L.eA k) : Option Addr) = some ⟨(blkOf (L.eA k)), offOf (L.eA k), none⟩, (Rd β ⟨(blkOf A), offOf A + k * 10 + 9, none⟩ (.slice (L.eA k) ((nd ns k).ents.length) ((L.eC k))))]) [o_, o_, o_, o_, ⟨[.old (.slice (L.eA k) ((nd ns k).ents.length) ((L.eC k)))], none, none, none, none⟩, o_, ⟨[], some q, none, some ⟨(blkOf (L.eA k)), offOf (L.eA k), none⟩, none⟩, o_, ⟨[.old (.int .i64 ((en (nd ns k).ents q).id))], none, none, none, none⟩] [8, 25, 26, 27, 50, 58] (fun _ _ => by kernel_rfl) ⟨EntsAt.rd (hG.ents k (by omega)) (i := q) (by omega) (j := 1) rfl, rfl, hq, rfl, EntsAt.hd (hG.ents k (by omega)) (i := q) (by omega), GraphAt.rd hG (i := k) (by omega) (j := 9) rfl, trivial⟩ ?_
            refine TriL.mapLook 0 (d := (some 59)) (t := 66) (K := 3) (E := 75) (b := mb) (n := ns.length) (f := (mf (bf A ns ns.length))) (x := (.tmp 50)) (ix := (.tmp 58)) (key := .int .i64 ((en (nd ns k).ents q).id)) (z := .pointer none) (kl := (.int .i64 (en (nd ns k).ents q).id)) (r := (some (.pointer (some ⟨(blkOf A), offOf A + (tgt ns (en (nd ns k).ents q).id) * 10, none⟩)))) (fun _ => by kernel_rfl) (by kernel_rfl) (fun _ => by kernel_rfl) (fun _ => by kernel_rfl) lawI Try.underlying66 (fun _ => by kernel_rfl) (keyI (hB.hwf k hk q hq).1 (hB.hwf k hk q hq).2) (bf_at hat2 htl2.1) ?_
            refine TriL.segK (k' := 11) (fr' := [(8, .map (some mb)), (9, .pointer (some ⟨(blkOf A), offOf A + (tgt ns (en (nd ns k).ents q).id) * 10, none⟩)), (25, .slice F (ps.length) (cF)), (26, .int .i64 (((ps.length : Nat) : Int))), (27, .int .i64 (((i : Nat) : Int)))]) (obl := []) [o_] [8, 9, 25, 26, 27] (fun _ _ => by kernel_rfl) trivial ?_
            refine TriL.nil (by kernel_rfl) ?_
            refine TriQ.blockNormal ?_
            refine TriQ.next ?_
            refine Tri.region ?_
            refine TriL.segK (k' := 2) (fr' := [(8, .map (some mb)), (9, .pointer (some ⟨(blkOf A), offOf A + (tgt ns (en (nd ns k).ents q).id) * 10, none⟩)), (25, .slice F (ps.length) (cF)), (26, .int .i64 (((ps.length : Nat) : Int))), (27, .int .i64 (((i + 1 : Nat) : Int)))]) (obl := [(Value.int .i64 (IntKind.wrap .i64 (((i : Nat) : Int) + 1))) = (.int .i64 (((i + 1 : Nat) : Int)))]) [⟨[], none, none, none, some (.int .i64 (((i + 1 : Nat) : Int)))⟩, o_] [8, 9, 25, 26, 27] (fun _ _ => by kernel_rfl) ⟨wrapEq (by omega) (by omega) (by omega), trivial⟩ ?_
            refine TriL.nil (by kernel_rfl) ?_
            exact TriQ.turn ((tgt ns (en (nd ns k).ents q).id), (i + 1)) (idx := [8, 9, 25, 26, 27]) (pk := [0, 1]) (show (((tgt ns (en (nd ns k).ents q).id)) < ns.length) ∧ (((i + 1)) ≤ ps.length) ∧ (findG ns root ps = findM ns ((tgt ns (en (nd ns k).ents q).id)) (ps.drop ((i + 1)))) from ⟨htl2.1, by omega, by rw [hf, findM_some (by omega) h35 h37 (findE_some (sorted_of (hok.ents k hk)) hq hqn)]⟩) (by show ps.length - ((i + 1)) < ps.length - i; omega) (fun _ => by kernel_rfl) rfl (by kernel_rfl)
          · refine TriL.segK (k' := 11) (fr' := [(8, .map (some mb)), (9, .pointer (some ⟨(blkOf A), offOf A + k * 10, none⟩)), (13, .int .i64 (z)), (14, .bool false), (25, .slice F (ps.length) (cF)), (26, .int .i64 (((ps.length : Nat) : Int))), (27, .int .i64 (((i : Nat) : Int)))]) (obl := []) [o_, o_, o_, o_, o_] [8, 9, 13, 14, 25, 26, 27] (fun _ _ => by kernel_rfl) trivial ?_
            refine TriL.nil (by kernel_rfl) ?_
            refine TriQ.next ?_
            refine Tri.seq ?_
            refine Tri.seq ?_
            refine Tri.region ?_
            refine TriL.segK (k' := 2) (fr' := [(8, .map (some mb)), (9, .pointer (some ⟨(blkOf A), offOf A + k * 10, none⟩)), (13, .int .i64 (z)), (25, .slice F (ps.length) (cF)), (26, .int .i64 (((ps.length : Nat) : Int))), (27, .int .i64 (((i : Nat) : Int))), (49, .bool true)]) (obl := []) [o_, o_] [8, 9, 13, 25, 26, 27, 49] (fun _ _ => by kernel_rfl) trivial ?_
            refine TriL.nil (by kernel_rfl) ?_
            refine TriQ.next ?_
            refine Tri.condT (fun _ => by kernel_rfl) ?_
            refine Tri.seq ?_
            refine Tri.region ?_
            refine TriL.segK (k' := 2) (fr' := [(6, .int .i64 0), (7, .int .i64 170)]) (obl := []) [o_, o_] [6, 7] (fun _ _ => by kernel_rfl) trivial ?_
            refine TriL.nil (by kernel_rfl) ?_
            refine TriQ.next ?_
            refine Tri.ret ?_
            refine TriQ.passRet ?_
            refine TriQ.blockRet ?_
            refine TriQ.passRet ?_
            refine TriQ.passRet ?_
            refine TriQ.blockRet ?_
            refine TriQ.passRet ?_
            exact TriQ.ret (v := .tuple #[.int .i64 0, .int .i64 170]) (l := []) (obl := []) [] [1] (fun _ => by kernel_rfl) trivial rfl (by kernel_rfl) (⟨by rw [hf, findM_none (by omega) h35 h37 (findE_none hno)], rfl⟩)
    · refine Tri.exit ?_
      refine TriQ.passExit ?_
      refine TriQ.passExit ?_
      refine TriQ.blockHit ?_
      refine TriQ.next ?_
      refine Tri.seq ?_
      refine Tri.region ?_
      refine TriL.segK (k' := 6) (fr' := [(6, .int .i64 ((nd ns k).id)), (7, .int .i64 0)]) (obl := [(Rd β ⟨(blkOf A), offOf A + k * 10, none⟩ (.int .i64 ((nd ns k).id)))]) [o_, o_, o_, ⟨[.old (.int .i64 ((nd ns k).id))], none, none, none, none⟩, o_, o_] [6, 7] (fun _ _ => by kernel_rfl) ⟨GraphAt.rd hG (i := k) (by omega) (j := 0) rfl, trivial⟩ ?_
      refine TriL.nil (by kernel_rfl) ?_
      refine TriQ.next ?_
      refine Tri.ret ?_
      exact TriQ.ret (v := .tuple #[.int .i64 ((nd ns k).id), .int .i64 0]) (l := []) (obl := []) [] [1] (fun _ => by kernel_rfl) trivial rfl (by kernel_rfl) (⟨by rw [hf, findM_end (by omega)], rfl⟩)
  · refine TriL.segK (k' := 10) (fr' := [(2, .slice F (ps.length) (cF)), (8, x), (9, y), (10, .int .i64 ((beginC ns root)))]) (obl := []) [o_, o_, o_, o_, o_, o_, o_] [2, 8, 9, 10] (fun _ _ => by kernel_rfl) trivial ?_
    refine TriL.nil (by kernel_rfl) ?_
    refine TriQ.next ?_
    refine Tri.seq ?_
    refine Tri.seq ?_
    refine Tri.region ?_
    refine TriL.segK (k' := 2) (fr' := [(2, .slice F (ps.length) (cF)), (8, x), (9, y), (10, .int .i64 ((beginC ns root))), (23, .bool (!(decide (((beginC ns root) : Int) = (0 : Int)))))]) (obl := []) [o_, o_] [2, 8, 9, 10, 23] (fun _ _ => by kernel_rfl) trivial ?_
    refine TriL.nil (by kernel_rfl) ?_
    refine TriQ.next ?_
    refine Tri.condN (p := ((beginC ns root) : Int) = (0 : Int)) (fun _ => by kernel_rfl) (fun h23 => ?_) (fun h23 => ?_)
    · refine Tri.seq ?_
      refine Tri.region ?_
      refine TriL.segK (k' := 3) (fr' := [(6, .int .i64 0), (7, .int .i64 ((beginC ns root)))]) (obl := []) [o_, o_, o_] [6, 7] (fun _ _ => by kernel_rfl) trivial ?_
      refine TriL.nil (by kernel_rfl) ?_
      refine TriQ.next ?_
      refine Tri.ret ?_
      refine TriQ.passRet ?_
      exact TriQ.ret (v := .tuple #[.int .i64 0, .int .i64 ((beginC ns root))]) (l := []) (obl := []) [] [0] (fun _ => by kernel_rfl) trivial rfl (by kernel_rfl) (⟨by rw [findG_bad hbg], rfl⟩)
    · exact absurd h23 hbg
end Go.Proofs.Ytjpdcppdoonmdaa
