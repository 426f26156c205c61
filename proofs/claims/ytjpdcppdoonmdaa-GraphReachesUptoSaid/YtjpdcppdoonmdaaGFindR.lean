/-
  PROVED HERE: the reference finds; lists of texts are copied and compared
  CONDITIONS: as the theorems say. Printed by a program of this repo (wip/v).
-/
import Derived.Test.YtjpdcppdoonmdaaGFind
namespace Go.Proofs.Ytjpdcppdoonmdaa
open Go.RowKit
attribute [local irreducible] TriL TriLQ Tri TriQ
set_option maxRecDepth 100000 in
set_option maxHeartbeats 4000000 in
theorem sp_refFind {β : Bs} (A : Option Addr) (c : Nat) (ns : List NodeM) (L : Lay) (hG : GraphAt β A ns L) (hB : GraphB ns 1048576) (root : Int) (F : Option Addr) (cF : Nat) (ps : List ByteArray) (hP : StrsAt β F ps) (hPl : ps.length ≤ 1048576) :
    Spec Try.prog β 24 #[.agg #[.slice A ns.length c], .int .i64 root, .slice F ps.length cF] [] (fun v l => v = .tuple #[.int .i64 (findG ns root ps).1, .int .i64 (findG ns root ps).2] ∧ l = []) := by
  refine Spec.enter Try.func24 rfl Try.ntmps24 (Nat.le_of_ble_eq_true rfl) (fun R => ?_)
  refine Tri.seq ?_
  refine Tri.region ?_
  refine TriL.segN (k' := 3) (fr' := fun b1 => [(1, .int .i64 (root)), (2, .slice F (ps.length) (cF)), (3, .pointer (some ⟨b1, 0, none⟩))]) (hps' := fun b1 => [.abs R, .blk b1 [.slice A (ns.length) (c)] 24]) (obl := fun b1 => []) [o_, o_, o_] [1, 2, 3] [0, 1] (fun _ _ => by kernel_rfl) (fun b1 => trivial) (fun b1 => ?_)
  refine TriL.nil (by kernel_rfl) ?_
  refine TriQ.next ?_
  refine Tri.seq ?_
  refine Tri.region ?_
  refine TriL.segK (k' := 2) (fr' := [(2, .slice F (ps.length) (cF)), (3, .pointer (some ⟨b1, 0, none⟩)), (15, .agg #[.slice A (ns.length) (c)]), (16, .int .i64 (root))]) (obl := [b1 = b1]) [⟨[.at 1], none, none, none, none⟩, o_] [2, 3, 15, 16] (fun _ _ => by kernel_rfl) ⟨rfl, trivial⟩ ?_
  by_cases hbg : beginC ns root = 0
  · obtain ⟨hok, hat, hkd⟩ := beginC_zero hbg
    have htl := atI_lt hat
    refine TriL.call (f := 46) (args := #[.agg #[.slice A (ns.length) (c)], .int .i64 (root)]) (d := (some 17)) (pre := []) (R := [.abs R, .blk b1 [.slice A (ns.length) (c)] 24]) (pk := [0, 1]) (fun _ => by kernel_rfl) ((sp_refBegin A c ns L hG hB root).val (refB_ok hbg)) rfl (by kernel_rfl) ?_
    rintro _ _ ⟨rfl, rfl⟩
    refine TriL.segK (k' := 8) (fr' := [(2, .slice F (ps.length) (cF)), (3, .pointer (some ⟨b1, 0, none⟩)), (8, .int .i64 ((((tgt ns root) : Nat) : Int))), (9, .int .i64 0)]) (obl := []) [o_, o_, o_, o_, o_] [2, 3, 8, 9] (fun _ _ => by kernel_rfl) trivial ?_
    refine TriL.nil (by kernel_rfl) ?_
    refine TriQ.next ?_
    refine Tri.seq ?_
    refine Tri.seq ?_
    refine Tri.region ?_
    refine TriL.segK (k' := 2) (fr' := [(2, .slice F (ps.length) (cF)), (3, .pointer (some ⟨b1, 0, none⟩)), (8, .int .i64 ((((tgt ns root) : Nat) : Int))), (9, .int .i64 0), (21, .bool false)]) (obl := []) [o_, o_] [2, 3, 8, 9, 21] (fun _ _ => by kernel_rfl) trivial ?_
    refine TriL.nil (by kernel_rfl) ?_
    refine TriQ.next ?_
    refine Tri.condF (fun _ => by kernel_rfl) ?_
    refine Tri.skip ?_
    refine TriQ.next ?_
    refine Tri.seq ?_
    refine Tri.seq ?_
    refine Tri.region ?_
    refine TriL.segK (k' := 1) (fr' := [(2, .slice F (ps.length) (cF)), (3, .pointer (some ⟨b1, 0, none⟩)), (8, .int .i64 ((((tgt ns root) : Nat) : Int))), (10, .int .i64 0)]) (obl := []) [o_] [2, 3, 8, 10] (fun _ _ => by kernel_rfl) trivial ?_
    refine TriL.nil (by kernel_rfl) ?_
    refine TriQ.next ?_
    refine Tri.block ?_
    refine Tri.loop (ι := Nat × Nat) (fun ((k, i) : Nat × Nat) => (k < ns.length) ∧ (i ≤ ps.length) ∧ (findG ns root ps = findM ns k (ps.drop i))) (fun ((k, i) : Nat × Nat) => ps.length - i) (fun ((k, i) : Nat × Nat) => [(2, .slice F (ps.length) (cF)), (3, .pointer (some ⟨b1, 0, none⟩)), (8, .int .i64 (((k : Nat) : Int))), (10, .int .i64 (((i : Nat) : Int)))]) (fun ((k, i) : Nat × Nat) => [.blk b1 [.slice A (ns.length) (c)] 24, .abs R]) ((tgt ns root), 0) (idx := [2, 3, 8, 10]) (pk := [1, 0]) (show (((tgt ns root)) < ns.length) ∧ (0 ≤ ps.length) ∧ (findG ns root ps = findM ns ((tgt ns root)) (ps.drop 0)) from ⟨htl.1, Nat.zero_le _, findG_ok hbg⟩) (fun _ => by kernel_rfl) rfl (by kernel_rfl) ?_
    rintro ⟨k, i⟩ ⟨hk, hi, hf⟩
    show Tri _ _ _ _ [(2, .slice F (ps.length) (cF)), (3, .pointer (some ⟨b1, 0, none⟩)), (8, .int .i64 (((k : Nat) : Int))), (10, .int .i64 (((i : Nat) : Int)))] [.blk b1 [.slice A (ns.length) (c)] 24, .abs R] _
    have hd3 := hB.hd k hk
    refine Tri.seq ?_
    refine Tri.seq ?_
    refine Tri.region ?_
    refine TriL.segK (k' := 4) (fr' := [(2, .slice F (ps.length) (cF)), (3, .pointer (some ⟨b1, 0, none⟩)), (8, .int .i64 (((k : Nat) : Int))), (10, .int .i64 (((i : Nat) : Int))), (26, .bool (decide ((((i : Nat) : Int) : Int) < (((ps.length : Nat) : Int) : Int))))]) (obl := []) [o_, o_, o_, o_] [2, 3, 8, 10, 26] (fun _ _ => by kernel_rfl) trivial ?_
    refine TriL.nil (by kernel_rfl) ?_
    refine TriQ.next ?_
    refine Tri.condP (p := (((i : Nat) : Int) : Int) < (((ps.length : Nat) : Int) : Int)) (fun _ => by kernel_rfl) (fun h26 => ?_) (fun h26 => ?_)
    · refine Tri.skip ?_
      refine TriQ.next ?_
      refine Tri.seq ?_
      refine Tri.block ?_
      refine Tri.seq ?_
      refine Tri.region ?_
      refine TriL.segN (k' := 7) (fr' := fun b2 => [(2, .slice F (ps.length) (cF)), (3, .pointer (some ⟨b1, 0, none⟩)), (10, .int .i64 (((i : Nat) : Int))), (11, .pointer (some ⟨b2, 0, none⟩))]) (hps' := fun b2 => [.blk b1 [.slice A (ns.length) (c)] 24, .abs R, .blk b2 [.int .i64 ((nd ns k).id), .int .i64 ((nd ns k).kind), .int .i64 ((nd ns k).mode), .int .i64 ((nd ns k).uid), .int .i64 ((nd ns k).gid), .int .i64 ((nd ns k).sec), .int .i64 ((nd ns k).nano), .slice (L.dA k) ((nd ns k).data.length) ((L.dC k)), .string (nd ns k).target, .slice (L.eA k) ((nd ns k).ents.length) ((L.eC k))] 32]) (obl := fun b2 => [b2 = b2, b2 = b2, b2 = b2, b2 = b2, b2 = b2, b2 = b2, b2 = b2, b2 = b2, b2 = b2, b2 = b2, (Rd β ⟨(blkOf A), offOf A + k * 10 + 9, none⟩ (.slice (L.eA k) ((nd ns k).ents.length) ((L.eC k)))), (Rd β ⟨(blkOf A), offOf A + k * 10 + 8, none⟩ (.string (nd ns k).target)), (Rd β ⟨(blkOf A), offOf A + k * 10 + 7, none⟩ (.slice (L.dA k) ((nd ns k).data.length) ((L.dC k)))), (Rd β ⟨(blkOf A), offOf A + k * 10 + 6, none⟩ (.int .i64 ((nd ns k).nano))), (Rd β ⟨(blkOf A), offOf A + k * 10 + 5, none⟩ (.int .i64 ((nd ns k).sec))), (Rd β ⟨(blkOf A), offOf A + k * 10 + 4, none⟩ (.int .i64 ((nd ns k).gid))), (Rd β ⟨(blkOf A), offOf A + k * 10 + 3, none⟩ (.int .i64 ((nd ns k).uid))), (Rd β ⟨(blkOf A), offOf A + k * 10 + 2, none⟩ (.int .i64 ((nd ns k).mode))), (Rd β ⟨(blkOf A), offOf A + k * 10 + 1, none⟩ (.int .i64 ((nd ns k).kind))), (Rd β ⟨(blkOf A), offOf A + k * 10, none⟩ (.int .i64 ((nd ns k).id))), ((k : Nat) : Int) = ((k : Nat) : Int), k < ns.length, (⟨(blkOf A), offOf A, none⟩ : Addr).spot = none, (A : Option Addr) = some ⟨(blkOf A), offOf A, none⟩, b1 = b1]) [o_, ⟨[.at 0], none, none, none, none⟩, o_, ⟨[], some k, none, some ⟨(blkOf A), offOf A, none⟩, none⟩, ⟨[.old (.int .i64 ((nd ns k).id)), .old (.int .i64 ((nd ns k).kind)), .old (.int .i64 ((nd ns k).mode)), .old (.int .i64 ((nd ns k).uid)), .old (.int .i64 ((nd ns k).gid)), .old (.int .i64 ((nd ns k).sec)), .old (.int .i64 ((nd ns k).nano)), .old (.slice (L.dA k) ((nd ns k).data.length) ((L.dC k))), .old (.string (nd ns k).target), .old (.slice (L.eA k) ((nd ns k).ents.length) ((L.eC k)))], none, none, none, none⟩, o_, ⟨[.at 2, .at 2, .at 2, .at 2, .at 2, .at 2, .at 2, .at 2, .at 2, .at 2], none, none, none, none⟩] [2, 3, 10, 11] [0, 1, 2] (fun _ _ => by kernel_rfl) (fun b2 => ⟨rfl, rfl, rfl, rfl, rfl, rfl, rfl, rfl, rfl, rfl, GraphAt.rd hG (i := k) (by omega) (j := 9) rfl, GraphAt.rd hG (i := k) (by omega) (j := 8) rfl, GraphAt.rd hG (i := k) (by omega) (j := 7) rfl, GraphAt.rd hG (i := k) (by omega) (j := 6) rfl, GraphAt.rd hG (i := k) (by omega) (j := 5) rfl, GraphAt.rd hG (i := k) (by omega) (j := 4) rfl, GraphAt.rd hG (i := k) (by omega) (j := 3) rfl, GraphAt.rd hG (i := k) (by omega) (j := 2) rfl, GraphAt.rd hG (i := k) (by omega) (j := 1) rfl, GraphAt.rd hG (i := k) (by omega) (j := 0) rfl, rfl, hk, rfl, GraphAt.hd hG (i := k) (by omega), rfl, trivial⟩) (fun b2 => ?_)
      refine TriL.nil (by kernel_rfl) ?_
      refine TriQ.next ?_
      refine Tri.seq ?_
      refine Tri.seq ?_
      refine Tri.region ?_
      refine TriL.segK (k' := 3) (fr' := [(2, .slice F (ps.length) (cF)), (3, .pointer (some ⟨b1, 0, none⟩)), (10, .int .i64 (((i : Nat) : Int))), (11, .pointer (some ⟨b2, 0, none⟩)), (36, .bool (decide (((nd ns k).kind : Int) = (3 : Int))))]) (obl := [b2 = b2]) [o_, ⟨[.at 2], none, none, none, none⟩, o_] [2, 3, 10, 11, 36] (fun _ _ => by kernel_rfl) ⟨rfl, trivial⟩ ?_
      refine TriL.nil (by kernel_rfl) ?_
      refine TriQ.next ?_
      refine Tri.condP (p := ((nd ns k).kind : Int) = (3 : Int)) (fun _ => by kernel_rfl) (fun h36 => ?_) (fun h36 => ?_)
      · refine Tri.seq ?_
        refine Tri.region ?_
        refine TriL.segK (k' := 2) (fr' := [(6, .int .i64 0), (7, .int .i64 174)]) (obl := []) [o_, o_] [6, 7] (fun _ _ => by kernel_rfl) trivial ?_
        refine TriL.nil (by kernel_rfl) ?_
        refine TriQ.next ?_
        refine Tri.ret ?_
        refine TriQ.passRet ?_
        refine TriQ.blockRet ?_
        refine TriQ.passRet ?_
        refine TriQ.passRet ?_
        refine TriQ.blockRet ?_
        refine TriQ.passRet ?_
        exact TriQ.ret (v := .tuple #[.int .i64 0, .int .i64 174]) (l := []) (obl := []) [] [1] (fun _ => by kernel_rfl) trivial rfl (by kernel_rfl) (⟨by rw [hf, findM_sym (by omega) h36], rfl⟩)
      · refine Tri.skip ?_
        refine TriQ.next ?_
        refine Tri.seq ?_
        refine Tri.seq ?_
        refine Tri.region ?_
        refine TriL.segK (k' := 3) (fr' := [(2, .slice F (ps.length) (cF)), (3, .pointer (some ⟨b1, 0, none⟩)), (10, .int .i64 (((i : Nat) : Int))), (11, .pointer (some ⟨b2, 0, none⟩)), (39, .bool (decide (((nd ns k).kind : Int) = (1 : Int))))]) (obl := [b2 = b2]) [o_, ⟨[.at 2], none, none, none, none⟩, o_] [2, 3, 10, 11, 39] (fun _ _ => by kernel_rfl) ⟨rfl, trivial⟩ ?_
        refine TriL.nil (by kernel_rfl) ?_
        refine TriQ.next ?_
        refine Tri.condP (p := ((nd ns k).kind : Int) = (1 : Int)) (fun _ => by kernel_rfl) (fun h39 => ?_) (fun h39 => ?_)
        · refine Tri.seq ?_
          refine Tri.region ?_
          refine TriL.segK (k' := 2) (fr' := [(6, .int .i64 0), (7, .int .i64 173)]) (obl := []) [o_, o_] [6, 7] (fun _ _ => by kernel_rfl) trivial ?_
          refine TriL.nil (by kernel_rfl) ?_
          refine TriQ.next ?_
          refine Tri.ret ?_
          refine TriQ.passRet ?_
          refine TriQ.blockRet ?_
          refine TriQ.passRet ?_
          refine TriQ.passRet ?_
          refine TriQ.blockRet ?_
          refine TriQ.passRet ?_
          exact TriQ.ret (v := .tuple #[.int .i64 0, .int .i64 173]) (l := []) (obl := []) [] [1] (fun _ => by kernel_rfl) trivial rfl (by kernel_rfl) (⟨by rw [hf, findM_file (by omega) h39], rfl⟩)
        · refine Tri.skip ?_
          refine TriQ.next ?_
          refine Tri.seq ?_
          refine Tri.region ?_
          refine TriL.segK (k' := 1) (fr' := [(2, .slice F (ps.length) (cF)), (3, .pointer (some ⟨b1, 0, none⟩)), (10, .int .i64 (((i : Nat) : Int))), (11, .pointer (some ⟨b2, 0, none⟩)), (12, .int .i64 (-1))]) (obl := []) [o_] [2, 3, 10, 11, 12] (fun _ _ => by kernel_rfl) trivial ?_
          refine TriL.nil (by kernel_rfl) ?_
          refine TriQ.next ?_
          refine Tri.seq ?_
          refine Tri.seq ?_
          refine Tri.region ?_
          refine TriL.segK (k' := 1) (fr' := [(2, .slice F (ps.length) (cF)), (3, .pointer (some ⟨b1, 0, none⟩)), (10, .int .i64 (((i : Nat) : Int))), (11, .pointer (some ⟨b2, 0, none⟩)), (12, .int .i64 (-1)), (13, .int .i64 0)]) (obl := []) [o_] [2, 3, 10, 11, 12, 13] (fun _ _ => by kernel_rfl) trivial ?_
          refine TriL.nil (by kernel_rfl) ?_
          refine TriQ.next ?_
          refine Tri.block ?_
          refine Tri.loop (ι := Int × Nat) (fun ((nx, j) : Int × Nat) => (j ≤ (nd ns k).ents.length) ∧ ((nx = -1 ∧ ∀ t, t < j → ¬ (en (nd ns k).ents t).name = sAt ps i) ∨ ∃ q, q < j ∧ (en (nd ns k).ents q).name = sAt ps i ∧ nx = ((tgt ns (en (nd ns k).ents q).id : Nat) : Int))) (fun ((nx, j) : Int × Nat) => (nd ns k).ents.length - j) (fun ((nx, j) : Int × Nat) => [(2, .slice F (ps.length) (cF)), (3, .pointer (some ⟨b1, 0, none⟩)), (10, .int .i64 (((i : Nat) : Int))), (11, .pointer (some ⟨b2, 0, none⟩)), (12, .int .i64 (nx)), (13, .int .i64 (((j : Nat) : Int)))]) (fun ((nx, j) : Int × Nat) => [.blk b1 [.slice A (ns.length) (c)] 24, .blk b2 [.int .i64 ((nd ns k).id), .int .i64 ((nd ns k).kind), .int .i64 ((nd ns k).mode), .int .i64 ((nd ns k).uid), .int .i64 ((nd ns k).gid), .int .i64 ((nd ns k).sec), .int .i64 ((nd ns k).nano), .slice (L.dA k) ((nd ns k).data.length) ((L.dC k)), .string (nd ns k).target, .slice (L.eA k) ((nd ns k).ents.length) ((L.eC k))] 32, .abs R]) ((-1), 0) (idx := [2, 3, 10, 11, 12, 13]) (pk := [0, 2, 1]) (show (0 ≤ (nd ns k).ents.length) ∧ ((((-1)) = -1 ∧ ∀ t, t < 0 → ¬ (en (nd ns k).ents t).name = sAt ps i) ∨ ∃ q, q < 0 ∧ (en (nd ns k).ents q).name = sAt ps i ∧ ((-1)) = ((tgt ns (en (nd ns k).ents q).id : Nat) : Int)) from ⟨Nat.zero_le _, .inl ⟨rfl, fun t h => absurd h (Nat.not_lt_zero t)⟩⟩) (fun _ => by kernel_rfl) rfl (by kernel_rfl) ?_
          rintro ⟨nx, j⟩ ⟨hj, hnx⟩
          show Tri _ _ _ _ [(2, .slice F (ps.length) (cF)), (3, .pointer (some ⟨b1, 0, none⟩)), (10, .int .i64 (((i : Nat) : Int))), (11, .pointer (some ⟨b2, 0, none⟩)), (12, .int .i64 (nx)), (13, .int .i64 (((j : Nat) : Int)))] [.blk b1 [.slice A (ns.length) (c)] 24, .blk b2 [.int .i64 ((nd ns k).id), .int .i64 ((nd ns k).kind), .int .i64 ((nd ns k).mode), .int .i64 ((nd ns k).uid), .int .i64 ((nd ns k).gid), .int .i64 ((nd ns k).sec), .int .i64 ((nd ns k).nano), .slice (L.dA k) ((nd ns k).data.length) ((L.dC k)), .string (nd ns k).target, .slice (L.eA k) ((nd ns k).ents.length) ((L.eC k))] 32, .abs R] _
          refine Tri.seq ?_
          refine Tri.seq ?_
          refine Tri.region ?_
          refine TriL.segK (k' := 5) (fr' := [(2, .slice F (ps.length) (cF)), (3, .pointer (some ⟨b1, 0, none⟩)), (10, .int .i64 (((i : Nat) : Int))), (11, .pointer (some ⟨b2, 0, none⟩)), (12, .int .i64 (nx)), (13, .int .i64 (((j : Nat) : Int))), (44, .bool (decide ((((j : Nat) : Int) : Int) < ((((nd ns k).ents.length : Nat) : Int) : Int))))]) (obl := [b2 = b2]) [o_, o_, ⟨[.at 1], none, none, none, none⟩, o_, o_] [2, 3, 10, 11, 12, 13, 44] (fun _ _ => by kernel_rfl) ⟨rfl, trivial⟩ ?_
          refine TriL.nil (by kernel_rfl) ?_
          refine TriQ.next ?_
          refine Tri.condP (p := (((j : Nat) : Int) : Int) < ((((nd ns k).ents.length : Nat) : Int) : Int)) (fun _ => by kernel_rfl) (fun h44 => ?_) (fun h44 => ?_)
          · refine Tri.skip ?_
            refine TriQ.next ?_
            refine Tri.seq ?_
            refine Tri.block ?_
            refine Tri.seq ?_
            refine Tri.regionQ (by kernel_rfl) (by kernel_rfl) ?_
            refine TriLQ.seg (k' := 11) (fr' := [(2, .slice F (ps.length) (cF)), (3, .pointer (some ⟨b1, 0, none⟩)), (10, .int .i64 (((i : Nat) : Int))), (11, .pointer (some ⟨b2, 0, none⟩)), (12, .int .i64 (nx)), (13, .int .i64 (((j : Nat) : Int))), (57, .bool (decide (((en (nd ns k).ents j).name : ByteArray) = (sAt ps i))))]) (obl := [(Value.bool (((en (nd ns k).ents j).name : ByteArray).toList == ((sAt ps i) : ByteArray).toList)) = (.bool (decide (((en (nd ns k).ents j).name : ByteArray) = (sAt ps i)))), (Rd β ⟨(blkOf F), offOf F + i * 1, none⟩ (.string (sAt ps i))), ((i : Nat) : Int) = ((i : Nat) : Int), i < ps.length, (⟨(blkOf F), offOf F, none⟩ : Addr).spot = none, (F : Option Addr) = some ⟨(blkOf F), offOf F, none⟩, (Rd β ⟨(blkOf (L.eA k)), offOf (L.eA k) + j * 2, none⟩ (.string (en (nd ns k).ents j).name)), ((j : Nat) : Int) = ((j : Nat) : Int), j < (nd ns k).ents.length, (⟨(blkOf (L.eA k)), offOf (L.eA k), none⟩ : Addr).spot = none, ((L.eA k) : Option Addr) = some ⟨(blkOf (L.eA k)), offOf (L.eA k), none⟩, b2 = b2]) [o_, ⟨[.at 1], none, none, none, none⟩, o_, ⟨[], some j, none, some ⟨(blkOf (L.eA k)), offOf (L.eA k), none⟩, none⟩, o_, ⟨[.old (.string (en (nd ns k).ents j).name)], none, none, none, none⟩, o_, o_, ⟨[], some i, none, some ⟨(blkOf F), offOf F, none⟩, none⟩, ⟨[.old (.string (sAt ps i))], none, none, none, none⟩, ⟨[], none, none, none, some (.bool (decide (((en (nd ns k).ents j).name : ByteArray) = (sAt ps i))))⟩] [2, 3, 10, 11, 12, 13, 57] (fun _ _ => by kernel_rfl) ⟨strEqV _ _, StrsAt.rd hP (by omega), rfl, by omega, rfl, StrsAt.hd hP (j := i) (by omega), EntsAt.rd (hG.ents k (by omega)) (i := j) (by omega) (j := 0) rfl, rfl, by omega, rfl, EntsAt.hd (hG.ents k (by omega)) (i := j) (by omega), rfl, trivial⟩ ?_
            refine TriLQ.nil (by kernel_rfl) ?_
            refine TriQ.next ?_
            refine Tri.condP (p := ((en (nd ns k).ents j).name : ByteArray) = (sAt ps i)) (fun _ => by kernel_rfl) (fun h57 => ?_) (fun h57 => ?_)
            · refine Tri.regionQ (by kernel_rfl) (by kernel_rfl) ?_
              refine TriLQ.seg (k' := 7) (fr' := [(2, .slice F (ps.length) (cF)), (3, .pointer (some ⟨b1, 0, none⟩)), (10, .int .i64 (((i : Nat) : Int))), (11, .pointer (some ⟨b2, 0, none⟩)), (13, .int .i64 (((j : Nat) : Int))), (58, .agg #[.slice A (ns.length) (c)]), (64, .int .i64 ((en (nd ns k).ents j).id))]) (obl := [(Rd β ⟨(blkOf (L.eA k)), offOf (L.eA k) + j * 2 + 1, none⟩ (.int .i64 ((en (nd ns k).ents j).id))), ((j : Nat) : Int) = ((j : Nat) : Int), j < (nd ns k).ents.length, (⟨(blkOf (L.eA k)), offOf (L.eA k), none⟩ : Addr).spot = none, ((L.eA k) : Option Addr) = some ⟨(blkOf (L.eA k)), offOf (L.eA k), none⟩, b2 = b2, b1 = b1]) [⟨[.at 0], none, none, none, none⟩, o_, ⟨[.at 1], none, none, none, none⟩, o_, ⟨[], some j, none, some ⟨(blkOf (L.eA k)), offOf (L.eA k), none⟩, none⟩, o_, ⟨[.old (.int .i64 ((en (nd ns k).ents j).id))], none, none, none, none⟩] [2, 3, 10, 11, 13, 58, 64] (fun _ _ => by kernel_rfl) ⟨EntsAt.rd (hG.ents k (by omega)) (i := j) (by omega) (j := 1) rfl, rfl, by omega, rfl, EntsAt.hd (hG.ents k (by omega)) (i := j) (by omega), rfl, rfl, trivial⟩ ?_
              refine TriLQ.call (f := 29) (args := #[.agg #[.slice A (ns.length) (c)], .int .i64 ((en (nd ns k).ents j).id)]) (d := (some 65)) (pre := []) (R := [.blk b1 [.slice A (ns.length) (c)] 24, .blk b2 [.int .i64 ((nd ns k).id), .int .i64 ((nd ns k).kind), .int .i64 ((nd ns k).mode), .int .i64 ((nd ns k).uid), .int .i64 ((nd ns k).gid), .int .i64 ((nd ns k).sec), .int .i64 ((nd ns k).nano), .slice (L.dA k) ((nd ns k).data.length) ((L.dC k)), .string (nd ns k).target, .slice (L.eA k) ((nd ns k).ents.length) ((L.eC k))] 32, .abs R]) (pk := [0, 1, 2]) (pk' := [0, 1, 2]) (v0 := .int .i64 ((atI ns (en (nd ns k).ents j).id))) (fun _ => by kernel_rfl) (sp_at A c ns L hG hok.rise hB.hl (en (nd ns k).ents j).id) rfl (by kernel_rfl) rfl (by kernel_rfl) (fun _ _ h => h) ?_
              refine TriLQ.seg (k' := 9) (fr' := [(2, .slice F (ps.length) (cF)), (3, .pointer (some ⟨b1, 0, none⟩)), (10, .int .i64 (((i : Nat) : Int))), (11, .pointer (some ⟨b2, 0, none⟩)), (12, .int .i64 ((atI ns (en (nd ns k).ents j).id))), (13, .int .i64 (((j : Nat) : Int)))]) (obl := []) [o_] [2, 3, 10, 11, 12, 13] (fun _ _ => by kernel_rfl) trivial ?_
              refine TriLQ.nil (by kernel_rfl) ?_
              refine TriQ.blockNormal ?_
              refine TriQ.next ?_
              refine Tri.region ?_
              refine TriL.segK (k' := 3) (fr' := [(2, .slice F (ps.length) (cF)), (3, .pointer (some ⟨b1, 0, none⟩)), (10, .int .i64 (((i : Nat) : Int))), (11, .pointer (some ⟨b2, 0, none⟩)), (12, .int .i64 ((atI ns (en (nd ns k).ents j).id))), (13, .int .i64 (((j + 1 : Nat) : Int)))]) (obl := [(Value.int .i64 (IntKind.wrap .i64 (((j : Nat) : Int) + 1))) = (.int .i64 (((j + 1 : Nat) : Int)))]) [o_, ⟨[], none, none, none, some (.int .i64 (((j + 1 : Nat) : Int)))⟩, o_] [2, 3, 10, 11, 12, 13] (fun _ _ => by kernel_rfl) ⟨wrapEq (by omega) (by omega) (by omega), trivial⟩ ?_
              refine TriL.nil (by kernel_rfl) ?_
              exact TriQ.turn ((atI ns (en (nd ns k).ents j).id), (j + 1)) (idx := [2, 3, 10, 11, 12, 13]) (pk := [0, 1, 2]) (show (((j + 1)) ≤ (nd ns k).ents.length) ∧ ((((atI ns (en (nd ns k).ents j).id)) = -1 ∧ ∀ t, t < ((j + 1)) → ¬ (en (nd ns k).ents t).name = sAt ps i) ∨ ∃ q, q < ((j + 1)) ∧ (en (nd ns k).ents q).name = sAt ps i ∧ ((atI ns (en (nd ns k).ents j).id)) = ((tgt ns (en (nd ns k).ents q).id : Nat) : Int)) from ⟨by omega, .inr ⟨j, by omega, h57, (atI_lt (hok.ents k hk j (by omega)).at_).2.2⟩⟩) (by show (nd ns k).ents.length - ((j + 1)) < (nd ns k).ents.length - j; omega) (fun _ => by kernel_rfl) rfl (by kernel_rfl)
            · refine Tri.skip ?_
              refine TriQ.blockNormal ?_
              refine TriQ.next ?_
              refine Tri.region ?_
              refine TriL.segK (k' := 3) (fr' := [(2, .slice F (ps.length) (cF)), (3, .pointer (some ⟨b1, 0, none⟩)), (10, .int .i64 (((i : Nat) : Int))), (11, .pointer (some ⟨b2, 0, none⟩)), (12, .int .i64 (nx)), (13, .int .i64 (((j + 1 : Nat) : Int)))]) (obl := [(Value.int .i64 (IntKind.wrap .i64 (((j : Nat) : Int) + 1))) = (.int .i64 (((j + 1 : Nat) : Int)))]) [o_, ⟨[], none, none, none, some (.int .i64 (((j + 1 : Nat) : Int)))⟩, o_] [2, 3, 10, 11, 12, 13] (fun _ _ => by kernel_rfl) ⟨wrapEq (by omega) (by omega) (by omega), trivial⟩ ?_
              refine TriL.nil (by kernel_rfl) ?_
              exact TriQ.turn (nx, (j + 1)) (idx := [2, 3, 10, 11, 12, 13]) (pk := [0, 1, 2]) (show (((j + 1)) ≤ (nd ns k).ents.length) ∧ ((nx = -1 ∧ ∀ t, t < ((j + 1)) → ¬ (en (nd ns k).ents t).name = sAt ps i) ∨ ∃ q, q < ((j + 1)) ∧ (en (nd ns k).ents q).name = sAt ps i ∧ nx = ((tgt ns (en (nd ns k).ents q).id : Nat) : Int)) from ⟨by omega, hnx.elim (fun ⟨e, h⟩ => .inl ⟨e, fun t ht => (by rcases Nat.lt_succ_iff_lt_or_eq.1 ht with h1 | h1; exact h t h1; rw [h1]; exact h57)⟩) (fun ⟨q, h1, h2, h3⟩ => .inr ⟨q, by omega, h2, h3⟩)⟩) (by show (nd ns k).ents.length - ((j + 1)) < (nd ns k).ents.length - j; omega) (fun _ => by kernel_rfl) rfl (by kernel_rfl)
          · refine Tri.exit ?_
            refine TriQ.passExit ?_
            refine TriQ.passExit ?_
            refine TriQ.blockHit ?_
            refine TriQ.next ?_
            refine Tri.seq ?_
            refine Tri.seq ?_
            refine Tri.region ?_
            refine TriL.segK (k' := 2) (fr' := [(2, .slice F (ps.length) (cF)), (3, .pointer (some ⟨b1, 0, none⟩)), (10, .int .i64 (((i : Nat) : Int))), (12, .int .i64 (nx)), (67, .bool (decide ((nx : Int) < (0 : Int))))]) (obl := []) [o_, o_] [2, 3, 10, 12, 67] (fun _ _ => by kernel_rfl) trivial ?_
            refine TriL.nil (by kernel_rfl) ?_
            refine TriQ.next ?_
            refine Tri.condP (p := (nx : Int) < (0 : Int)) (fun _ => by kernel_rfl) (fun h67 => ?_) (fun h67 => ?_)
            · have hno := (hnx.resolve_right (fun ⟨q, _, _, h⟩ => by omega)).2
              refine Tri.seq ?_
              refine Tri.region ?_
              refine TriL.segK (k' := 2) (fr' := [(6, .int .i64 0), (7, .int .i64 170)]) (obl := []) [o_, o_] [6, 7] (fun _ _ => by kernel_rfl) trivial ?_
              refine TriL.nil (by kernel_rfl) ?_
              refine TriQ.next ?_
              refine Tri.ret ?_
              refine TriQ.passRet ?_
              refine TriQ.blockRet ?_
              refine TriQ.passRet ?_
              refine TriQ.passRet ?_
              refine TriQ.blockRet ?_
              refine TriQ.passRet ?_
              exact TriQ.ret (v := .tuple #[.int .i64 0, .int .i64 170]) (l := []) (obl := []) [] [2] (fun _ => by kernel_rfl) trivial rfl (by kernel_rfl) (⟨by rw [hf, findM_none (by omega) h36 h39 (findE_none (fun t ht => hno t (by omega)))], rfl⟩)
            · obtain ⟨q, hq1, hqn, hnq⟩ := hnx.resolve_left (fun h => by omega)
              have hq : q < (nd ns k).ents.length := by omega
              have htl2 := atI_lt (hok.ents k hk q hq).at_
              refine Tri.skip ?_
              refine TriQ.next ?_
              refine Tri.region ?_
              refine TriL.segK (k' := 2) (fr' := [(2, .slice F (ps.length) (cF)), (3, .pointer (some ⟨b1, 0, none⟩)), (8, .int .i64 ((((tgt ns (en (nd ns k).ents q).id) : Nat) : Int))), (10, .int .i64 (((i : Nat) : Int)))]) (obl := [((.int .i64 (nx) : Value)) = (.int .i64 ((((tgt ns (en (nd ns k).ents q).id) : Nat) : Int)))]) [⟨[], none, none, none, some (.int .i64 ((((tgt ns (en (nd ns k).ents q).id) : Nat) : Int)))⟩, o_] [2, 3, 8, 10] (fun _ _ => by kernel_rfl) ⟨congrArg (Value.int .i64) hnq, trivial⟩ ?_
              refine TriL.nil (by kernel_rfl) ?_
              refine TriQ.blockNormal ?_
              refine TriQ.next ?_
              refine Tri.region ?_
              refine TriL.segK (k' := 3) (fr' := [(2, .slice F (ps.length) (cF)), (3, .pointer (some ⟨b1, 0, none⟩)), (8, .int .i64 ((((tgt ns (en (nd ns k).ents q).id) : Nat) : Int))), (10, .int .i64 (((i + 1 : Nat) : Int)))]) (obl := [(Value.int .i64 (IntKind.wrap .i64 (((i : Nat) : Int) + 1))) = (.int .i64 (((i + 1 : Nat) : Int)))]) [o_, ⟨[], none, none, none, some (.int .i64 (((i + 1 : Nat) : Int)))⟩, o_] [2, 3, 8, 10] (fun _ _ => by kernel_rfl) ⟨wrapEq (by omega) (by omega) (by omega), trivial⟩ ?_
              refine TriL.nil (by kernel_rfl) ?_
              exact TriQ.turn ((tgt ns (en (nd ns k).ents q).id), (i + 1)) (idx := [2, 3, 8, 10]) (pk := [0, 2]) (show (((tgt ns (en (nd ns k).ents q).id)) < ns.length) ∧ (((i + 1)) ≤ ps.length) ∧ (findG ns root ps = findM ns ((tgt ns (en (nd ns k).ents q).id)) (ps.drop ((i + 1)))) from ⟨htl2.1, by omega, by rw [hf, findM_some (by omega) h36 h39 (findE_some (sorted_of (hok.ents k hk)) hq hqn)]⟩) (by show ps.length - ((i + 1)) < ps.length - i; omega) (fun _ => by kernel_rfl) rfl (by kernel_rfl)
    · refine Tri.exit ?_
      refine TriQ.passExit ?_
      refine TriQ.passExit ?_
      refine TriQ.blockHit ?_
      refine TriQ.next ?_
      refine Tri.seq ?_
      refine Tri.region ?_
      refine TriL.segK (k' := 8) (fr' := [(6, .int .i64 ((nd ns k).id)), (7, .int .i64 0)]) (obl := [(Rd β ⟨(blkOf A), offOf A + k * 10, none⟩ (.int .i64 ((nd ns k).id))), ((k : Nat) : Int) = ((k : Nat) : Int), k < ns.length, (⟨(blkOf A), offOf A, none⟩ : Addr).spot = none, (A : Option Addr) = some ⟨(blkOf A), offOf A, none⟩, b1 = b1]) [o_, ⟨[.at 0], none, none, none, none⟩, o_, ⟨[], some k, none, some ⟨(blkOf A), offOf A, none⟩, none⟩, o_, ⟨[.old (.int .i64 ((nd ns k).id))], none, none, none, none⟩, o_, o_] [6, 7] (fun _ _ => by kernel_rfl) ⟨GraphAt.rd hG (i := k) (by omega) (j := 0) rfl, rfl, hk, rfl, GraphAt.hd hG (i := k) (by omega), rfl, trivial⟩ ?_
      refine TriL.nil (by kernel_rfl) ?_
      refine TriQ.next ?_
      refine Tri.ret ?_
      exact TriQ.ret (v := .tuple #[.int .i64 ((nd ns k).id), .int .i64 0]) (l := []) (obl := []) [] [1] (fun _ => by kernel_rfl) trivial rfl (by kernel_rfl) (⟨by rw [hf, findM_end (by omega)], rfl⟩)
  · refine TriL.call (f := 46) (args := #[.agg #[.slice A (ns.length) (c)], .int .i64 (root)]) (d := (some 17)) (pre := []) (R := [.abs R, .blk b1 [.slice A (ns.length) (c)] 24]) (pk := [0, 1]) (fun _ => by kernel_rfl) ((sp_refBegin A c ns L hG hB root).val (refB_bad hbg)) rfl (by kernel_rfl) ?_
    rintro _ _ ⟨rfl, rfl⟩
    refine TriL.segK (k' := 8) (fr' := [(2, .slice F (ps.length) (cF)), (3, .pointer (some ⟨b1, 0, none⟩)), (8, .int .i64 0), (9, .int .i64 ((beginC ns root)))]) (obl := []) [o_, o_, o_, o_, o_] [2, 3, 8, 9] (fun _ _ => by kernel_rfl) trivial ?_
    refine TriL.nil (by kernel_rfl) ?_
    refine TriQ.next ?_
    refine Tri.seq ?_
    refine Tri.seq ?_
    refine Tri.region ?_
    refine TriL.segK (k' := 2) (fr' := [(2, .slice F (ps.length) (cF)), (3, .pointer (some ⟨b1, 0, none⟩)), (8, .int .i64 0), (9, .int .i64 ((beginC ns root))), (21, .bool (!(decide (((beginC ns root) : Int) = (0 : Int)))))]) (obl := []) [o_, o_] [2, 3, 8, 9, 21] (fun _ _ => by kernel_rfl) trivial ?_
    refine TriL.nil (by kernel_rfl) ?_
    refine TriQ.next ?_
    refine Tri.condN (p := ((beginC ns root) : Int) = (0 : Int)) (fun _ => by kernel_rfl) (fun h21 => ?_) (fun h21 => ?_)
    · refine Tri.seq ?_
      refine Tri.region ?_
      refine TriL.segK (k' := 3) (fr' := [(6, .int .i64 0), (7, .int .i64 ((beginC ns root)))]) (obl := []) [o_, o_, o_] [6, 7] (fun _ _ => by kernel_rfl) trivial ?_
      refine TriL.nil (by kernel_rfl) ?_
      refine TriQ.next ?_
      refine Tri.ret ?_
      refine TriQ.passRet ?_
      exact TriQ.ret (v := .tuple #[.int .i64 0, .int .i64 ((beginC ns root))]) (l := []) (obl := []) [] [0] (fun _ => by kernel_rfl) trivial rfl (by kernel_rfl) (⟨by rw [findG_bad hbg], rfl⟩)
    · exact absurd h21 hbg
set_option maxRecDepth 100000 in
set_option maxHeartbeats 4000000 in
theorem sp_copyTexts {β : Bs} (A : Option Addr) (c : Nat) (d : List ByteArray) (hA : StrsAt β A d) (hl : d.length ≤ 1048576) :
    SpecB Try.prog β 22 #[.slice A d.length c] [] (fun β' v l => ∃ B cap, v = .slice B d.length cap ∧ l = [] ∧ StrsAt β' B d) := by
  refine SpecB.enter Try.func22 rfl Try.ntmps22 (Nat.le_of_ble_eq_true rfl) (fun hle0 R => ?_)
  refine Tri.seq ?_
  refine Tri.region ?_
  refine TriL.segK (k' := 1) (fr' := [(0, .slice A (d.length) (c))]) (obl := []) [o_] [0] (fun _ _ => by kernel_rfl) trivial ?_
  refine TriL.nil (by kernel_rfl) ?_
  refine TriQ.next ?_
  refine Tri.seq ?_
  refine Tri.region ?_
  refine TriL.segN (k' := 2) (fr' := fun b3 => [(0, .slice A (d.length) (c)), (3, .slice (some ⟨b3, 0, none⟩) (0) (0))]) (hps' := fun b3 => [.abs R, .blk b3 [] 9]) (obl := fun b3 => []) [o_, o_] [0, 3] [0, 1] (fun _ _ => by kernel_rfl) (fun b3 => trivial) (fun b3 => ?_)
  refine TriL.nil (by kernel_rfl) ?_
  refine TriQ.next ?_
  refine Tri.seq ?_
  refine Tri.region ?_
  refine TriL.mem (fun w hS => hS.toRow (i := 1) (b := b3) (cs := []) (e := 9) 1 0 (by kernel_rfl) rfl (by decide)) ?_
  refine TriL.segK (k' := 2) (fr' := [(5, .slice (some ⟨b3, 0, none⟩) (0) (0)), (6, .slice A (d.length) (c))]) (obl := []) [o_, o_] [5, 6] (fun _ _ => by kernel_rfl) trivial ?_
  refine TriL.append 1 (d := (some 7)) (t := 40) (e := 9) (z := .string ⟨#[]⟩) (size := 1) (bytes := 16) (n := 0) (cap := 0) (A := some ⟨b3, 0, none⟩) (xs := []) (s := (.tmp 5)) (x := (.tmp 6)) (ats := #[40, 40]) (A' := A) (m := d.length) (c' := c) (news := (strsV d)) (fun _ => by kernel_rfl) rfl (by kernel_rfl) (fun _ => by kernel_rfl) (fun _ => by kernel_rfl) Try.underlying40 (by kernel_rfl) rfl (by decide) (by rw [strsV_len, Nat.mul_one]) (oneCell_strs d) (hA.src) (by unfold maxLen; omega) (by omega) (fun A4 c5 => ?_)
  refine TriL.partEq 1 (p := .abs (RowA 9 1 A4 (0 + d.length) c5 ([] ++ (strsV d)))) (p' := .abs (RowA 9 1 A4 d.length c5 (strsV d))) (by kernel_rfl) (by rw [Nat.zero_add, List.nil_append]) ?_
  refine TriL.slot 7 (.slice A4 (0 + d.length) (c5)) (.slice A4 (d.length) (c5)) (fun _ => by kernel_rfl) (by rw [Nat.zero_add]) ?_
  refine TriL.segK (k' := 4) (fr' := [(3, .slice A4 (d.length) (c5))]) (obl := []) [o_] [3] (fun _ _ => by kernel_rfl) trivial ?_
  refine TriL.nil (by kernel_rfl) ?_
  refine TriQ.next ?_
  refine Tri.seq ?_
  refine Tri.region ?_
  refine TriL.rebase (Φ := fun β' => StrsAt β' A4 d) 1 [0] (hps' := [.abs R]) rfl rfl (by kernel_rfl) (fun F w h β' h1 h2 => RowB.of_row h h1 h2) (fun β1 hle_β1 hB => ?_)
  replace hA := hA.le hle_β1
  replace hle0 := hle0.trans hle_β1
  refine TriL.segK (k' := 2) (fr' := [(2, .slice A4 (d.length) (c5))]) (obl := []) [o_, o_] [2] (fun _ _ => by kernel_rfl) trivial ?_
  refine TriL.nil (by kernel_rfl) ?_
  refine TriQ.next ?_
  refine Tri.ret ?_
  exact TriQ.retB (v := .slice A4 (d.length) (c5)) (l := []) (obl := []) [] [0] hle0 (fun _ => by kernel_rfl) trivial rfl (by kernel_rfl) (⟨A4, c5, rfl, rfl, hB⟩)
set_option maxRecDepth 100000 in
set_option maxHeartbeats 4000000 in
theorem sp_sameTexts {β : Bs} (A1 A2 : Option Addr) (c1 c2 : Nat) (d1 d2 : List ByteArray) (hA1 : StrsAt β A1 d1) (hA2 : StrsAt β A2 d2) (hl : d1.length ≤ 1048576) :
    Spec Try.prog β 25 #[.slice A1 d1.length c1, .slice A2 d2.length c2] [] (fun v l => v = .bool (decide (d1 = d2)) ∧ l = []) := by
  refine Spec.enter Try.func25 rfl Try.ntmps25 (Nat.le_of_ble_eq_true rfl) (fun R => ?_)
  refine Tri.seq ?_
  refine Tri.region ?_
  refine TriL.segK (k' := 1) (fr' := [(0, .slice A1 (d1.length) (c1)), (1, .slice A2 (d2.length) (c2))]) (obl := []) [o_] [0, 1] (fun _ _ => by kernel_rfl) trivial ?_
  refine TriL.nil (by kernel_rfl) ?_
  refine TriQ.next ?_
  refine Tri.seq ?_
  refine Tri.seq ?_
  refine Tri.region ?_
  refine TriL.segK (k' := 5) (fr' := [(0, .slice A1 (d1.length) (c1)), (1, .slice A2 (d2.length) (c2)), (10, .bool (!(decide ((((d1.length : Nat) : Int) : Int) = (((d2.length : Nat) : Int) : Int)))))]) (obl := []) [o_, o_, o_, o_, o_] [0, 1, 10] (fun _ _ => by kernel_rfl) trivial ?_
  refine TriL.nil (by kernel_rfl) ?_
  refine TriQ.next ?_
  refine Tri.condN (p := (((d1.length : Nat) : Int) : Int) = (((d2.length : Nat) : Int) : Int)) (fun _ => by kernel_rfl) (fun h10 => ?_) (fun h10 => ?_)
  · refine Tri.seq ?_
    refine Tri.region ?_
    refine TriL.segK (k' := 1) (fr' := [(4, .bool false)]) (obl := []) [o_] [4] (fun _ _ => by kernel_rfl) trivial ?_
    refine TriL.nil (by kernel_rfl) ?_
    refine TriQ.next ?_
    refine Tri.ret ?_
    refine TriQ.passRet ?_
    exact TriQ.ret (v := .bool false) (l := []) (obl := []) [] [0] (fun _ => by kernel_rfl) trivial rfl (by kernel_rfl) (⟨by rw [decide_eq_false (fun e => h10 (by rw [e]))], rfl⟩)
  · refine Tri.skip ?_
    refine TriQ.next ?_
    refine Tri.seq ?_
    refine Tri.seq ?_
    refine Tri.region ?_
    refine TriL.segK (k' := 1) (fr' := [(0, .slice A1 (d1.length) (c1)), (1, .slice A2 (d2.length) (c2)), (5, .int .i64 0)]) (obl := []) [o_] [0, 1, 5] (fun _ _ => by kernel_rfl) trivial ?_
    refine TriL.nil (by kernel_rfl) ?_
    refine TriQ.next ?_
    refine Tri.block ?_
    refine Tri.loop (ι := Nat) (fun (i : Nat) => (i ≤ d1.length) ∧ (∀ j, j < i → d1.getD j ⟨#[]⟩ = d2.getD j ⟨#[]⟩)) (fun (i : Nat) => d1.length - i) (fun (i : Nat) => [(0, .slice A1 (d1.length) (c1)), (1, .slice A2 (d2.length) (c2)), (5, .int .i64 (((i : Nat) : Int)))]) (fun (i : Nat) => [.abs R]) 0 (idx := [0, 1, 5]) (pk := [0]) (show (0 ≤ d1.length) ∧ (∀ j, j < 0 → d1.getD j ⟨#[]⟩ = d2.getD j ⟨#[]⟩) from ⟨Nat.zero_le _, fun j hj => absurd hj (Nat.not_lt_zero j)⟩) (fun _ => by kernel_rfl) rfl (by kernel_rfl) ?_
    rintro i ⟨hi, hall⟩
    show Tri _ _ _ _ [(0, .slice A1 (d1.length) (c1)), (1, .slice A2 (d2.length) (c2)), (5, .int .i64 (((i : Nat) : Int)))] [.abs R] _
    refine Tri.seq ?_
    refine Tri.seq ?_
    refine Tri.region ?_
    refine TriL.segK (k' := 4) (fr' := [(0, .slice A1 (d1.length) (c1)), (1, .slice A2 (d2.length) (c2)), (5, .int .i64 (((i : Nat) : Int))), (14, .bool (decide ((((i : Nat) : Int) : Int) < (((d1.length : Nat) : Int) : Int))))]) (obl := []) [o_, o_, o_, o_] [0, 1, 5, 14] (fun _ _ => by kernel_rfl) trivial ?_
    refine TriL.nil (by kernel_rfl) ?_
    refine TriQ.next ?_
    refine Tri.condP (p := (((i : Nat) : Int) : Int) < (((d1.length : Nat) : Int) : Int)) (fun _ => by kernel_rfl) (fun h14 => ?_) (fun h14 => ?_)
    · refine Tri.skip ?_
      refine TriQ.next ?_
      refine Tri.seq ?_
      refine Tri.block ?_
      refine Tri.seq ?_
      refine Tri.regionQ (by kernel_rfl) (by kernel_rfl) ?_
      refine TriLQ.seg (k' := 9) (fr' := [(0, .slice A1 (d1.length) (c1)), (1, .slice A2 (d2.length) (c2)), (5, .int .i64 (((i : Nat) : Int))), (25, .bool (!(decide (((sAt d1 i) : ByteArray) = (sAt d2 i)))))]) (obl := [(Value.bool (!(((sAt d1 i) : ByteArray).toList == ((sAt d2 i) : ByteArray).toList))) = (.bool (!(decide (((sAt d1 i) : ByteArray) = (sAt d2 i))))), (Rd β ⟨(blkOf A2), offOf A2 + i * 1, none⟩ (.string (sAt d2 i))), ((i : Nat) : Int) = ((i : Nat) : Int), i < d2.length, (⟨(blkOf A2), offOf A2, none⟩ : Addr).spot = none, (A2 : Option Addr) = some ⟨(blkOf A2), offOf A2, none⟩, (Rd β ⟨(blkOf A1), offOf A1 + i * 1, none⟩ (.string (sAt d1 i))), ((i : Nat) : Int) = ((i : Nat) : Int), i < d1.length, (⟨(blkOf A1), offOf A1, none⟩ : Addr).spot = none, (A1 : Option Addr) = some ⟨(blkOf A1), offOf A1, none⟩]) [o_, o_, ⟨[], some i, none, some ⟨(blkOf A1), offOf A1, none⟩, none⟩, ⟨[.old (.string (sAt d1 i))], none, none, none, none⟩, o_, o_, ⟨[], some i, none, some ⟨(blkOf A2), offOf A2, none⟩, none⟩, ⟨[.old (.string (sAt d2 i))], none, none, none, none⟩, ⟨[], none, none, none, some (.bool (!(decide (((sAt d1 i) : ByteArray) = (sAt d2 i)))))⟩] [0, 1, 5, 25] (fun _ _ => by kernel_rfl) ⟨strNeV _ _, StrsAt.rd hA2 (by omega), rfl, by omega, rfl, StrsAt.hd hA2 (j := i) (by omega), StrsAt.rd hA1 (by omega), rfl, by omega, rfl, StrsAt.hd hA1 (j := i) (by omega), trivial⟩ ?_
      refine TriLQ.nil (by kernel_rfl) ?_
      refine TriQ.next ?_
      refine Tri.condN (p := ((sAt d1 i) : ByteArray) = (sAt d2 i)) (fun _ => by kernel_rfl) (fun h25 => ?_) (fun h25 => ?_)
      · refine Tri.seq ?_
        refine Tri.region ?_
        refine TriL.segK (k' := 1) (fr' := [(4, .bool false)]) (obl := []) [o_] [4] (fun _ _ => by kernel_rfl) trivial ?_
        refine TriL.nil (by kernel_rfl) ?_
        refine TriQ.next ?_
        refine Tri.ret ?_
        refine TriQ.blockRet ?_
        refine TriQ.passRet ?_
        refine TriQ.passRet ?_
        refine TriQ.blockRet ?_
        refine TriQ.passRet ?_
        exact TriQ.ret (v := .bool false) (l := []) (obl := []) [] [0] (fun _ => by kernel_rfl) trivial rfl (by kernel_rfl) (⟨by rw [decide_eq_false (fun e => h25 (by rw [e]))], rfl⟩)
      · refine Tri.skip ?_
        refine TriQ.blockNormal ?_
        refine TriQ.next ?_
        refine Tri.region ?_
        refine TriL.segK (k' := 3) (fr' := [(0, .slice A1 (d1.length) (c1)), (1, .slice A2 (d2.length) (c2)), (5, .int .i64 (((i + 1 : Nat) : Int)))]) (obl := [(Value.int .i64 (IntKind.wrap .i64 (((i : Nat) : Int) + 1))) = (.int .i64 (((i + 1 : Nat) : Int)))]) [o_, ⟨[], none, none, none, some (.int .i64 (((i + 1 : Nat) : Int)))⟩, o_] [0, 1, 5] (fun _ _ => by kernel_rfl) ⟨wrapEq (by omega) (by omega) (by omega), trivial⟩ ?_
        refine TriL.nil (by kernel_rfl) ?_
        exact TriQ.turn ((i + 1)) (idx := [0, 1, 5]) (pk := [0]) (show (((i + 1)) ≤ d1.length) ∧ (∀ j, j < ((i + 1)) → d1.getD j ⟨#[]⟩ = d2.getD j ⟨#[]⟩) from ⟨by omega, fun j hj => by rcases Nat.lt_succ_iff_lt_or_eq.1 hj with h | h; exact hall j h; subst h; exact h25⟩) (by show d1.length - ((i + 1)) < d1.length - i; omega) (fun _ => by kernel_rfl) rfl (by kernel_rfl)
    · refine Tri.exit ?_
      refine TriQ.passExit ?_
      refine TriQ.passExit ?_
      refine TriQ.blockHit ?_
      refine TriQ.next ?_
      refine Tri.seq ?_
      refine Tri.region ?_
      refine TriL.segK (k' := 1) (fr' := [(4, .bool true)]) (obl := []) [o_] [4] (fun _ _ => by kernel_rfl) trivial ?_
      refine TriL.nil (by kernel_rfl) ?_
      refine TriQ.next ?_
      refine Tri.ret ?_
      exact TriQ.ret (v := .bool true) (l := []) (obl := []) [] [0] (fun _ => by kernel_rfl) trivial rfl (by kernel_rfl) (⟨by rw [decide_eq_true (ext_getD (x := ⟨#[]⟩) (by omega) (fun j hj => hall j (by omega)))], rfl⟩)
end Go.Proofs.Ytjpdcppdoonmdaa
