/-
  PROVED HERE: lemmas and contracts of functions (texts of this repo, joined): GCheck, GE, GEnter, GR, GRead, Vw, GP.
  CONDITIONS: as the theorems say.
-/
import Derived.Test.YtjpdcppdoonmdaaMPlants2
import Derived.Laws.OwnMore
/- part GCheck. PROVED HERE: the small tests of a graph CONDITIONS: as the theorems say. Printed by a program of this repo (wip/v). -/
section
namespace Go.Proofs.Ytjpdcppdoonmdaa
open Go.RowKit
attribute [local irreducible] TriL TriLQ Tri TriQ
set_option maxRecDepth 100000 in
set_option maxHeartbeats 4000000 in
theorem sp_within {β : Bs} (a b c : Int) :
    Spec Try.prog β 69 #[.int .i64 (a), .int .i64 (b), .int .i64 (c)] [] (fun v l => v = .bool (decide (Within a b c)) ∧ l = []) := by
 refine Spec.enter Try.func69 rfl Try.ntmps69 (Nat.le_of_ble_eq_true rfl) (fun R => ?_)
 refine Tri.seq (Tri.region ?_)
 refine TriL.segK (k' := 1) (fr' := [(0, .int .i64 (a)), (1, .int .i64 (b)), (2, .int .i64 (c))]) (obl := []) [o_] [0, 1, 2] (fun _ _ => by kernel_rfl) trivial ?_
 refine TriL.nil (by kernel_rfl) (TriQ.next (Tri.seq (Tri.region ?_)))
 refine TriL.segK (k' := 4) (fr' := [(0, .int .i64 (a)), (2, .int .i64 (c)), (10, .bool (decide ((a : Int) ≥ (b : Int))))]) (obl := []) [o_, o_, o_, o_] [0, 2, 10] (fun _ _ => by kernel_rfl) trivial ?_
 refine TriL.slotP 10 ((a : Int) ≥ (b : Int)) (fun _ => by kernel_rfl) (fun h10 => ?_) (fun h10 => ?_)
 ·
  refine TriL.segK (k' := 9) (fr' := [(6, .bool (decide ((a : Int) ≤ (c : Int))))]) (obl := []) [o_, o_, o_, o_, o_] [6] (fun _ _ => by kernel_rfl) trivial ?_
  refine TriL.nil (by kernel_rfl) (TriQ.next (Tri.ret ?_))
  exact TriQ.ret (v := .bool (decide ((a : Int) ≤ (c : Int)))) (l := []) (obl := []) [] [0] (fun _ => by kernel_rfl) trivial rfl (by kernel_rfl) (⟨congrArg Value.bool (decide_eq_decide.2 (by unfold Within; omega)), rfl⟩)
 ·
  refine TriL.segK (k' := 9) (fr' := [(6, .bool false)]) (obl := []) [o_, o_, o_, o_, o_] [6] (fun _ _ => by kernel_rfl) trivial ?_
  refine TriL.nil (by kernel_rfl) (TriQ.next (Tri.ret ?_))
  exact TriQ.ret (v := .bool false) (l := []) (obl := []) [] [0] (fun _ => by kernel_rfl) trivial rfl (by kernel_rfl) (⟨congrArg Value.bool (decide_eq_false (by unfold Within; omega)).symm, rfl⟩)
set_option maxRecDepth 100000 in
set_option maxHeartbeats 4000000 in
theorem sp_stampValid {β : Bs} (s n : Int) :
    Spec Try.prog β 70 #[.agg #[.int .i64 (s), .int .i64 (n)]] [] (fun v l => v = .bool (decide (TimeOk s n)) ∧ l = []) := by
 refine Spec.enter Try.func70 rfl Try.ntmps70 (Nat.le_of_ble_eq_true rfl) (fun R => ?_)
 refine Tri.seq (Tri.region ?_)
 refine TriL.segN (k' := 2) (fr' := fun b1 => [(1, .pointer (some ⟨b1, 0, none⟩))]) (hps' := fun b1 => [.abs R, .blk b1 [.int .i64 (s), .int .i64 (n)] 28]) (obl := fun b1 => []) [o_, o_] [1] [0, 1] (fun _ _ => by kernel_rfl) (fun b1 => trivial) (fun b1 => ?_)
 refine TriL.nil (by kernel_rfl) (TriQ.next (Tri.seq (Tri.seq (Tri.region ?_))))
 refine TriL.segK (k' := 4) (fr' := [(1, .pointer (some ⟨b1, 0, none⟩)), (6, .bool (decide ((n : Int) < (0 : Int))))]) (obl := [b1 = b1]) [o_, ⟨[.at 1], none, none, none, none⟩, o_, o_] [1, 6] (fun _ _ => by kernel_rfl) ⟨rfl, trivial⟩ ?_
 refine TriL.slotP 6 ((n : Int) < (0 : Int)) (fun _ => by kernel_rfl) (fun h6 => ?_) (fun h6 => ?_)
 ·
  refine TriL.segK (k' := 8) (fr' := [(1, .pointer (some ⟨b1, 0, none⟩)), (10, .bool true)]) (obl := []) [o_, o_, o_, o_] [1, 10] (fun _ _ => by kernel_rfl) trivial ?_
  refine TriL.nil (by kernel_rfl) (TriQ.next ?_)
  refine Tri.condT (fun _ => by kernel_rfl) ?_
  refine Tri.seq (Tri.region ?_)
  refine TriL.segK (k' := 1) (fr' := [(2, .bool false)]) (obl := []) [o_] [2] (fun _ _ => by kernel_rfl) trivial ?_
  refine TriL.nil (by kernel_rfl) (TriQ.next (Tri.ret (TriQ.passRet ?_)))
  exact TriQ.ret (v := .bool false) (l := []) (obl := []) [] [0] (fun _ => by kernel_rfl) trivial rfl (by kernel_rfl) (⟨congrArg Value.bool (decide_eq_false (by unfold TimeOk; omega)).symm, rfl⟩)
 ·
  refine TriL.segK (k' := 8) (fr' := [(1, .pointer (some ⟨b1, 0, none⟩)), (10, .bool (decide ((n : Int) ≥ (1000000000 : Int))))]) (obl := [b1 = b1]) [o_, ⟨[.at 1], none, none, none, none⟩, o_, o_] [1, 10] (fun _ _ => by kernel_rfl) ⟨rfl, trivial⟩ ?_
  refine TriL.nil (by kernel_rfl) (TriQ.next ?_)
  refine Tri.condP (p := (n : Int) ≥ (1000000000 : Int)) (fun _ => by kernel_rfl) (fun h10 => ?_) (fun h10 => ?_)
  ·
   refine Tri.seq (Tri.region ?_)
   refine TriL.segK (k' := 1) (fr' := [(2, .bool false)]) (obl := []) [o_] [2] (fun _ _ => by kernel_rfl) trivial ?_
   refine TriL.nil (by kernel_rfl) (TriQ.next (Tri.ret (TriQ.passRet ?_)))
   exact TriQ.ret (v := .bool false) (l := []) (obl := []) [] [0] (fun _ => by kernel_rfl) trivial rfl (by kernel_rfl) (⟨congrArg Value.bool (decide_eq_false (by unfold TimeOk; omega)).symm, rfl⟩)
  ·
   refine Tri.skip (TriQ.next (Tri.seq (Tri.seq (Tri.region ?_))))
   refine TriL.segK (k' := 3) (fr' := [(1, .pointer (some ⟨b1, 0, none⟩)), (13, .bool (decide ((s : Int) = ((-1099511627777) : Int))))]) (obl := [b1 = b1]) [o_, ⟨[.at 1], none, none, none, none⟩, o_] [1, 13] (fun _ _ => by kernel_rfl) ⟨rfl, trivial⟩ ?_
   refine TriL.nil (by kernel_rfl) (TriQ.next ?_)
   refine Tri.condP (p := (s : Int) = ((-1099511627777) : Int)) (fun _ => by kernel_rfl) (fun h13 => ?_) (fun h13 => ?_)
   ·
    refine Tri.seq (Tri.region ?_)
    refine TriL.segK (k' := 4) (fr' := [(2, .bool (decide ((n : Int) > (0 : Int))))]) (obl := [b1 = b1]) [o_, ⟨[.at 1], none, none, none, none⟩, o_, o_] [2] (fun _ _ => by kernel_rfl) ⟨rfl, trivial⟩ ?_
    refine TriL.nil (by kernel_rfl) (TriQ.next (Tri.ret (TriQ.passRet ?_)))
    exact TriQ.ret (v := .bool (decide ((n : Int) > (0 : Int)))) (l := []) (obl := []) [] [0] (fun _ => by kernel_rfl) trivial rfl (by kernel_rfl) (⟨congrArg Value.bool (decide_eq_decide.2 (by unfold TimeOk; omega)), rfl⟩)
   ·
    refine Tri.skip (TriQ.next (Tri.seq (Tri.region ?_)))
    refine TriL.segK (k' := 4) (fr' := [(1, .pointer (some ⟨b1, 0, none⟩)), (20, .bool (decide ((s : Int) > ((-1099511627777) : Int))))]) (obl := [b1 = b1]) [o_, ⟨[.at 1], none, none, none, none⟩, o_, o_] [1, 20] (fun _ _ => by kernel_rfl) ⟨rfl, trivial⟩ ?_
    refine TriL.slotP 20 ((s : Int) > ((-1099511627777) : Int)) (fun _ => by kernel_rfl) (fun h20 => ?_) (fun h20 => ?_)
    ·
     refine TriL.segK (k' := 9) (fr' := [(2, .bool (decide ((s : Int) ≤ (1099511627776 : Int))))]) (obl := [b1 = b1]) [o_, ⟨[.at 1], none, none, none, none⟩, o_, o_, o_] [2] (fun _ _ => by kernel_rfl) ⟨rfl, trivial⟩ ?_
     refine TriL.nil (by kernel_rfl) (TriQ.next (Tri.ret ?_))
     exact TriQ.ret (v := .bool (decide ((s : Int) ≤ (1099511627776 : Int)))) (l := []) (obl := []) [] [0] (fun _ => by kernel_rfl) trivial rfl (by kernel_rfl) (⟨congrArg Value.bool (decide_eq_decide.2 (by unfold TimeOk; omega)), rfl⟩)
    ·
     refine TriL.segK (k' := 9) (fr' := [(2, .bool false)]) (obl := []) [o_, o_, o_, o_, o_] [2] (fun _ _ => by kernel_rfl) trivial ?_
     refine TriL.nil (by kernel_rfl) (TriQ.next (Tri.ret ?_))
     exact TriQ.ret (v := .bool false) (l := []) (obl := []) [] [0] (fun _ => by kernel_rfl) trivial rfl (by kernel_rfl) (⟨congrArg Value.bool (decide_eq_false (by unfold TimeOk; omega)).symm, rfl⟩)
set_option maxRecDepth 100000 in
set_option maxHeartbeats 4000000 in
theorem sp_refValid {β : Bs} (s n : Int) :
    Spec Try.prog β 61 #[.agg #[.int .i64 (s), .int .i64 (n)]] [] (fun v l => v = .bool (decide (TimeOk s n)) ∧ l = []) := by
 refine Spec.enter Try.func61 rfl Try.ntmps61 (Nat.le_of_ble_eq_true rfl) (fun R => ?_)
 refine Tri.seq (Tri.region ?_)
 refine TriL.segN (k' := 2) (fr' := fun b2 => [(1, .pointer (some ⟨b2, 0, none⟩))]) (hps' := fun b2 => [.abs R, .blk b2 [.int .i64 (s), .int .i64 (n)] 28]) (obl := fun b2 => []) [o_, o_] [1] [0, 1] (fun _ _ => by kernel_rfl) (fun b2 => trivial) (fun b2 => ?_)
 refine TriL.nil (by kernel_rfl) (TriQ.next (Tri.seq (Tri.seq (Tri.region ?_))))
 refine TriL.segK (k' := 4) (fr' := [(1, .pointer (some ⟨b2, 0, none⟩)), (6, .bool (decide ((n : Int) < (0 : Int))))]) (obl := [b2 = b2]) [o_, ⟨[.at 1], none, none, none, none⟩, o_, o_] [1, 6] (fun _ _ => by kernel_rfl) ⟨rfl, trivial⟩ ?_
 refine TriL.slotP 6 ((n : Int) < (0 : Int)) (fun _ => by kernel_rfl) (fun h6 => ?_) (fun h6 => ?_)
 ·
  refine TriL.segK (k' := 18) (fr' := [(1, .pointer (some ⟨b2, 0, none⟩)), (20, .bool true)]) (obl := []) [o_, o_, o_, o_, o_, o_, o_, o_, o_, o_, o_, o_, o_, o_] [1, 20] (fun _ _ => by kernel_rfl) trivial ?_
  refine TriL.nil (by kernel_rfl) (TriQ.next ?_)
  refine Tri.condT (fun _ => by kernel_rfl) ?_
  refine Tri.seq (Tri.region ?_)
  refine TriL.segK (k' := 1) (fr' := [(2, .bool false)]) (obl := []) [o_] [2] (fun _ _ => by kernel_rfl) trivial ?_
  refine TriL.nil (by kernel_rfl) (TriQ.next (Tri.ret (TriQ.passRet ?_)))
  exact TriQ.ret (v := .bool false) (l := []) (obl := []) [] [0] (fun _ => by kernel_rfl) trivial rfl (by kernel_rfl) (⟨congrArg Value.bool (decide_eq_false (by unfold TimeOk; omega)).symm, rfl⟩)
 ·
  refine TriL.segK (k' := 9) (fr' := [(1, .pointer (some ⟨b2, 0, none⟩)), (11, .bool (decide ((n : Int) ≥ (1000000000 : Int))))]) (obl := [b2 = b2]) [o_, ⟨[.at 1], none, none, none, none⟩, o_, o_, o_] [1, 11] (fun _ _ => by kernel_rfl) ⟨rfl, trivial⟩ ?_
  refine TriL.slotP 11 ((n : Int) ≥ (1000000000 : Int)) (fun _ => by kernel_rfl) (fun h11 => ?_) (fun h11 => ?_)
  ·
   refine TriL.segK (k' := 18) (fr' := [(1, .pointer (some ⟨b2, 0, none⟩)), (20, .bool true)]) (obl := []) [o_, o_, o_, o_, o_, o_, o_, o_, o_] [1, 20] (fun _ _ => by kernel_rfl) trivial ?_
   refine TriL.nil (by kernel_rfl) (TriQ.next ?_)
   refine Tri.condT (fun _ => by kernel_rfl) ?_
   refine Tri.seq (Tri.region ?_)
   refine TriL.segK (k' := 1) (fr' := [(2, .bool false)]) (obl := []) [o_] [2] (fun _ _ => by kernel_rfl) trivial ?_
   refine TriL.nil (by kernel_rfl) (TriQ.next (Tri.ret (TriQ.passRet ?_)))
   exact TriQ.ret (v := .bool false) (l := []) (obl := []) [] [0] (fun _ => by kernel_rfl) trivial rfl (by kernel_rfl) (⟨congrArg Value.bool (decide_eq_false (by unfold TimeOk; omega)).symm, rfl⟩)
  ·
   refine TriL.segK (k' := 14) (fr' := [(1, .pointer (some ⟨b2, 0, none⟩)), (16, .bool (decide ((s : Int) > (1099511627776 : Int))))]) (obl := [b2 = b2]) [o_, ⟨[.at 1], none, none, none, none⟩, o_, o_, o_] [1, 16] (fun _ _ => by kernel_rfl) ⟨rfl, trivial⟩ ?_
   refine TriL.slotP 16 ((s : Int) > (1099511627776 : Int)) (fun _ => by kernel_rfl) (fun h16 => ?_) (fun h16 => ?_)
   ·
    refine TriL.segK (k' := 18) (fr' := [(1, .pointer (some ⟨b2, 0, none⟩)), (20, .bool true)]) (obl := []) [o_, o_, o_, o_] [1, 20] (fun _ _ => by kernel_rfl) trivial ?_
    refine TriL.nil (by kernel_rfl) (TriQ.next ?_)
    refine Tri.condT (fun _ => by kernel_rfl) ?_
    refine Tri.seq (Tri.region ?_)
    refine TriL.segK (k' := 1) (fr' := [(2, .bool false)]) (obl := []) [o_] [2] (fun _ _ => by kernel_rfl) trivial ?_
    refine TriL.nil (by kernel_rfl) (TriQ.next (Tri.ret (TriQ.passRet ?_)))
    exact TriQ.ret (v := .bool false) (l := []) (obl := []) [] [0] (fun _ => by kernel_rfl) trivial rfl (by kernel_rfl) (⟨congrArg Value.bool (decide_eq_false (by unfold TimeOk; omega)).symm, rfl⟩)
   ·
    refine TriL.segK (k' := 18) (fr' := [(1, .pointer (some ⟨b2, 0, none⟩)), (20, .bool (decide ((s : Int) < ((-1099511627777) : Int))))]) (obl := [b2 = b2]) [o_, ⟨[.at 1], none, none, none, none⟩, o_, o_] [1, 20] (fun _ _ => by kernel_rfl) ⟨rfl, trivial⟩ ?_
    refine TriL.nil (by kernel_rfl) (TriQ.next ?_)
    refine Tri.condP (p := (s : Int) < ((-1099511627777) : Int)) (fun _ => by kernel_rfl) (fun h20 => ?_) (fun h20 => ?_)
    ·
     refine Tri.seq (Tri.region ?_)
     refine TriL.segK (k' := 1) (fr' := [(2, .bool false)]) (obl := []) [o_] [2] (fun _ _ => by kernel_rfl) trivial ?_
     refine TriL.nil (by kernel_rfl) (TriQ.next (Tri.ret (TriQ.passRet ?_)))
     exact TriQ.ret (v := .bool false) (l := []) (obl := []) [] [0] (fun _ => by kernel_rfl) trivial rfl (by kernel_rfl) (⟨congrArg Value.bool (decide_eq_false (by unfold TimeOk; omega)).symm, rfl⟩)
    ·
     refine Tri.skip (TriQ.next (Tri.seq (Tri.region ?_)))
     refine TriL.segK (k' := 4) (fr' := [(1, .pointer (some ⟨b2, 0, none⟩)), (24, .bool (!(decide ((s : Int) = ((-1099511627777) : Int)))))]) (obl := [b2 = b2]) [o_, ⟨[.at 1], none, none, none, none⟩, o_, o_] [1, 24] (fun _ _ => by kernel_rfl) ⟨rfl, trivial⟩ ?_
     refine TriL.slotN 24 ((s : Int) = ((-1099511627777) : Int)) (fun _ => by kernel_rfl) (fun h24 => ?_) (fun h24 => ?_)
     ·
      refine TriL.segK (k' := 9) (fr' := [(2, .bool true)]) (obl := []) [o_, o_, o_, o_, o_] [2] (fun _ _ => by kernel_rfl) trivial ?_
      refine TriL.nil (by kernel_rfl) (TriQ.next (Tri.ret ?_))
      exact TriQ.ret (v := .bool true) (l := []) (obl := []) [] [0] (fun _ => by kernel_rfl) trivial rfl (by kernel_rfl) (⟨congrArg Value.bool (decide_eq_true (by unfold TimeOk; omega)).symm, rfl⟩)
     ·
      refine TriL.segK (k' := 9) (fr' := [(2, .bool (!(decide ((n : Int) = (0 : Int)))))]) (obl := [b2 = b2]) [o_, ⟨[.at 1], none, none, none, none⟩, o_, o_, o_] [2] (fun _ _ => by kernel_rfl) ⟨rfl, trivial⟩ ?_
      refine TriL.nil (by kernel_rfl) (TriQ.next (Tri.ret ?_))
      exact TriQ.ret (v := .bool (!(decide ((n : Int) = (0 : Int))))) (l := []) (obl := []) [] [0] (fun _ => by kernel_rfl) trivial rfl (by kernel_rfl) (⟨congrArg Value.bool (notDec (by unfold TimeOk; omega)), rfl⟩)
set_option maxRecDepth 100000 in
set_option maxHeartbeats 4000000 in
theorem sp_refGood {β : Bs} (s : ByteArray) (hl : s.size ≤ 1048576) :
    Spec Try.prog β 40 #[.string s] [] (fun v l => v = .bool (decide (GoodName s)) ∧ l = []) := by
 refine Spec.enter Try.func40 rfl Try.ntmps40 (Nat.le_of_ble_eq_true rfl) (fun R => ?_)
 refine Tri.seq (Tri.region ?_)
 refine TriL.segK (k' := 1) (fr' := [(0, .string s)]) (obl := []) [o_] [0] (fun _ _ => by kernel_rfl) trivial ?_
 refine TriL.nil (by kernel_rfl) (TriQ.next (Tri.seq (Tri.seq (Tri.region ?_))))
 refine TriL.segK (k' := 1) (fr' := [(0, .string s), (3, .int .i64 0)]) (obl := []) [o_] [0, 3] (fun _ _ => by kernel_rfl) trivial ?_
 refine TriL.nil (by kernel_rfl) (TriQ.next (Tri.block ?_))
 refine Tri.loop (ι := Nat) (fun (i : Nat) => (i ≤ s.size) ∧ (∀ j, j < i → ¬ byteAt s j = 0 ∧ ¬ byteAt s j = 47)) (fun (i : Nat) => s.size - i) (fun (i : Nat) => [(0, .string s), (3, .int .i64 ↑i)]) (fun (i : Nat) => [.abs R]) 0 (idx := [0, 3]) (pk := [0]) (show (0 ≤ s.size) ∧ (∀ j, j < 0 → ¬ byteAt s j = 0 ∧ ¬ byteAt s j = 47) from ⟨Nat.zero_le _, fun j hj => absurd hj (Nat.not_lt_zero j)⟩) (fun _ => by kernel_rfl) rfl (by kernel_rfl) ?_
 rintro i ⟨hi, hall⟩
 show Tri _ _ _ _ [(0, .string s), (3, .int .i64 ↑i)] [.abs R] _
 refine Tri.seq (Tri.seq (Tri.region ?_))
 refine TriL.segK (k' := 4) (fr' := [(0, .string s), (3, .int .i64 ↑i), (7, .bool (decide ((((i : Nat) : Int) : Int) < ((((s : ByteArray).size : Nat) : Int) : Int))))]) (obl := []) [o_, o_, o_, o_] [0, 3, 7] (fun _ _ => by kernel_rfl) trivial ?_
 refine TriL.nil (by kernel_rfl) (TriQ.next ?_)
 refine Tri.condP (p := (((i : Nat) : Int) : Int) < ((((s : ByteArray).size : Nat) : Int) : Int)) (fun _ => by kernel_rfl) (fun h7 => ?_) (fun h7 => ?_)
 ·
  refine Tri.skip (TriQ.next (Tri.seq (Tri.block (Tri.seq (Tri.region ?_)))))
  refine TriL.segK (k' := 5) (fr' := [(0, .string s), (3, .int .i64 ↑i), (14, .bool (decide ((((((s : ByteArray).data.getD (i) 0).toNat : Nat) : Int) : Int) = (0 : Int))))]) (obl := [((i : Nat) : Int) = ((i : Nat) : Int), i < (s : ByteArray).size]) [o_, o_, ⟨[], some i, none, none, none⟩, o_, o_] [0, 3, 14] (fun _ _ => by kernel_rfl) ⟨rfl, by omega, trivial⟩ ?_
  refine TriL.slotP 14 ((((((s : ByteArray).data.getD (i) 0).toNat : Nat) : Int) : Int) = (0 : Int)) (fun _ => by kernel_rfl) (fun h14 => ?_) (fun h14 => ?_)
  ·
   refine TriL.segK (k' := 10) (fr' := [(0, .string s), (3, .int .i64 ↑i), (19, .bool true)]) (obl := []) [o_, o_, o_, o_, o_] [0, 3, 19] (fun _ _ => by kernel_rfl) trivial ?_
   refine TriL.nil (by kernel_rfl) (TriQ.next ?_)
   refine Tri.condT (fun _ => by kernel_rfl) ?_
   refine Tri.seq (Tri.region ?_)
   refine TriL.segK (k' := 1) (fr' := [(2, .bool false)]) (obl := []) [o_] [2] (fun _ _ => by kernel_rfl) trivial ?_
   refine TriL.nil (by kernel_rfl) (TriQ.next (Tri.ret (TriQ.blockRet (TriQ.passRet (TriQ.passRet (TriQ.blockRet (TriQ.passRet ?_)))))))
   exact TriQ.ret (v := .bool false) (l := []) (obl := []) [] [0] (fun _ => by kernel_rfl) trivial rfl (by kernel_rfl) (⟨congrArg Value.bool (decide_eq_false (by intro g; have := g.2.2.2.2 i (by omega); unfold byteAt at this; omega)).symm, rfl⟩)
  ·
   refine TriL.segK (k' := 10) (fr' := [(0, .string s), (3, .int .i64 ↑i), (19, .bool (decide ((((((s : ByteArray).data.getD (i) 0).toNat : Nat) : Int) : Int) = (47 : Int))))]) (obl := [((i : Nat) : Int) = ((i : Nat) : Int), i < (s : ByteArray).size]) [o_, o_, ⟨[], some i, none, none, none⟩, o_, o_] [0, 3, 19] (fun _ _ => by kernel_rfl) ⟨rfl, by omega, trivial⟩ ?_
   refine TriL.nil (by kernel_rfl) (TriQ.next ?_)
   refine Tri.condP (p := (((((s : ByteArray).data.getD (i) 0).toNat : Nat) : Int) : Int) = (47 : Int)) (fun _ => by kernel_rfl) (fun h19 => ?_) (fun h19 => ?_)
   ·
    refine Tri.seq (Tri.region ?_)
    refine TriL.segK (k' := 1) (fr' := [(2, .bool false)]) (obl := []) [o_] [2] (fun _ _ => by kernel_rfl) trivial ?_
    refine TriL.nil (by kernel_rfl) (TriQ.next (Tri.ret (TriQ.blockRet (TriQ.passRet (TriQ.passRet (TriQ.blockRet (TriQ.passRet ?_)))))))
    exact TriQ.ret (v := .bool false) (l := []) (obl := []) [] [0] (fun _ => by kernel_rfl) trivial rfl (by kernel_rfl) (⟨congrArg Value.bool (decide_eq_false (by intro g; have := g.2.2.2.2 i (by omega); unfold byteAt at this; omega)).symm, rfl⟩)
   ·
    refine Tri.skip (TriQ.blockNormal (TriQ.next (Tri.region ?_)))
    refine TriL.segK (k' := 3) (fr' := [(0, .string s), (3, .int .i64 ↑(i + 1))]) (obl := [(Value.int .i64 (IntKind.wrap .i64 (((i : Nat) : Int) + 1))) = (.int .i64 ↑(i + 1))]) [o_, ⟨[], none, none, none, some (.int .i64 ↑(i + 1))⟩, o_] [0, 3] (fun _ _ => by kernel_rfl) ⟨wrapEq (by omega) (by omega) (by omega), trivial⟩ ?_
    refine TriL.nil (by kernel_rfl) ?_
    exact TriQ.turn ((i + 1)) (idx := [0, 3]) (pk := [0]) (show (((i + 1)) ≤ s.size) ∧ (∀ j, j < ((i + 1)) → ¬ byteAt s j = 0 ∧ ¬ byteAt s j = 47) from ⟨by omega, fun j hj => by rcases Nat.lt_succ_iff_lt_or_eq.1 hj with h | h; exact hall j h; subst h; unfold byteAt; omega⟩) (by show s.size - ((i + 1)) < s.size - i; omega) (fun _ => by kernel_rfl) rfl (by kernel_rfl)
 ·
  refine Tri.exit (TriQ.passExit (TriQ.passExit (TriQ.blockHit (TriQ.next (Tri.seq (Tri.region ?_))))))
  refine TriL.segK (k' := 4) (fr' := [(0, .string s), (23, .bool (decide (((((s : ByteArray).size : Nat) : Int) : Int) ≥ (1 : Int))))]) (obl := []) [o_, o_, o_, o_] [0, 23] (fun _ _ => by kernel_rfl) trivial ?_
  refine TriL.slotP 23 (((((s : ByteArray).size : Nat) : Int) : Int) ≥ (1 : Int)) (fun _ => by kernel_rfl) (fun h23 => ?_) (fun h23 => ?_)
  ·
   refine TriL.segK (k' := 9) (fr' := [(0, .string s), (28, .bool (decide (((((s : ByteArray).size : Nat) : Int) : Int) ≤ (255 : Int))))]) (obl := []) [o_, o_, o_, o_, o_] [0, 28] (fun _ _ => by kernel_rfl) trivial ?_
   refine TriL.slotP 28 (((((s : ByteArray).size : Nat) : Int) : Int) ≤ (255 : Int)) (fun _ => by kernel_rfl) (fun h28 => ?_) (fun h28 => ?_)
   ·
    refine TriL.segK (k' := 13) (fr' := [(0, .string s), (32, .bool (!(decide ((s : ByteArray) = ⟨#[46]⟩))))]) (obl := [(Value.bool (!((s : ByteArray).toList == (⟨#[46]⟩ : ByteArray).toList))) = (.bool (!(decide ((s : ByteArray) = ⟨#[46]⟩))))]) [o_, ⟨[], none, none, none, some (.bool (!(decide ((s : ByteArray) = ⟨#[46]⟩))))⟩, o_, o_] [0, 32] (fun _ _ => by kernel_rfl) ⟨strNeV _ _, trivial⟩ ?_
    refine TriL.slotN 32 ((s : ByteArray) = ⟨#[46]⟩) (fun _ => by kernel_rfl) (fun h32 => ?_) (fun h32 => ?_)
    ·
     refine TriL.segK (k' := 17) (fr' := [(2, .bool (!(decide ((s : ByteArray) = ⟨#[46, 46]⟩))))]) (obl := [(Value.bool (!((s : ByteArray).toList == (⟨#[46, 46]⟩ : ByteArray).toList))) = (.bool (!(decide ((s : ByteArray) = ⟨#[46, 46]⟩))))]) [o_, ⟨[], none, none, none, some (.bool (!(decide ((s : ByteArray) = ⟨#[46, 46]⟩))))⟩, o_, o_] [2] (fun _ _ => by kernel_rfl) ⟨strNeV _ _, trivial⟩ ?_
     refine TriL.nil (by kernel_rfl) (TriQ.next (Tri.ret ?_))
     exact TriQ.ret (v := .bool (!(decide ((s : ByteArray) = ⟨#[46, 46]⟩)))) (l := []) (obl := []) [] [0] (fun _ => by kernel_rfl) trivial rfl (by kernel_rfl) (⟨congrArg Value.bool (notDec (by have hA : ∀ j, j < s.size → ¬ byteAt s j = 0 ∧ ¬ byteAt s j = 47 := fun j hj => hall j (by omega); unfold GoodName; grind)), rfl⟩)
    ·
     refine TriL.segK (k' := 17) (fr' := [(2, .bool false)]) (obl := []) [o_, o_, o_, o_] [2] (fun _ _ => by kernel_rfl) trivial ?_
     refine TriL.nil (by kernel_rfl) (TriQ.next (Tri.ret ?_))
     exact TriQ.ret (v := .bool false) (l := []) (obl := []) [] [0] (fun _ => by kernel_rfl) trivial rfl (by kernel_rfl) (⟨congrArg Value.bool (decide_eq_false (by have hA : ∀ j, j < s.size → ¬ byteAt s j = 0 ∧ ¬ byteAt s j = 47 := fun j hj => hall j (by omega); unfold GoodName; grind)).symm, rfl⟩)
   ·
    refine TriL.segK (k' := 17) (fr' := [(2, .bool false)]) (obl := []) [o_, o_, o_, o_, o_, o_, o_, o_] [2] (fun _ _ => by kernel_rfl) trivial ?_
    refine TriL.nil (by kernel_rfl) (TriQ.next (Tri.ret ?_))
    exact TriQ.ret (v := .bool false) (l := []) (obl := []) [] [0] (fun _ => by kernel_rfl) trivial rfl (by kernel_rfl) (⟨congrArg Value.bool (decide_eq_false (by have hA : ∀ j, j < s.size → ¬ byteAt s j = 0 ∧ ¬ byteAt s j = 47 := fun j hj => hall j (by omega); unfold GoodName; grind)).symm, rfl⟩)
  ·
   refine TriL.segK (k' := 17) (fr' := [(2, .bool false)]) (obl := []) [o_, o_, o_, o_, o_, o_, o_, o_, o_, o_, o_, o_, o_] [2] (fun _ _ => by kernel_rfl) trivial ?_
   refine TriL.nil (by kernel_rfl) (TriQ.next (Tri.ret ?_))
   exact TriQ.ret (v := .bool false) (l := []) (obl := []) [] [0] (fun _ => by kernel_rfl) trivial rfl (by kernel_rfl) (⟨congrArg Value.bool (decide_eq_false (by have hA : ∀ j, j < s.size → ¬ byteAt s j = 0 ∧ ¬ byteAt s j = 47 := fun j hj => hall j (by omega); unfold GoodName; grind)).symm, rfl⟩)
set_option maxRecDepth 100000 in
set_option maxHeartbeats 4000000 in
theorem sp_plain {β : Bs} (n : NodeM) (dA eA : Option Addr) (dC eC : Nat) (ht : n.target.size ≤ 1048576) :
    Spec Try.prog β 39 #[.agg #[.int .i64 (n.id), .int .i64 (n.kind), .int .i64 (n.mode), .int .i64 (n.uid), .int .i64 (n.gid), .int .i64 (n.sec), .int .i64 (n.nano), .slice dA (n.data.length) (dC), .string n.target, .slice eA (n.ents.length) (eC)]] [] (fun v l => v = .bool (decide (NodeOk n)) ∧ l = []) := by
 refine Spec.enter Try.func39 rfl Try.ntmps39 (Nat.le_of_ble_eq_true rfl) (fun R => ?_)
 refine Tri.seq (Tri.region ?_)
 refine TriL.segN (k' := 2) (fr' := fun b3 => [(1, .pointer (some ⟨b3, 0, none⟩))]) (hps' := fun b3 => [.abs R, .blk b3 [.int .i64 (n.id), .int .i64 (n.kind), .int .i64 (n.mode), .int .i64 (n.uid), .int .i64 (n.gid), .int .i64 (n.sec), .int .i64 (n.nano), .slice dA (n.data.length) (dC), .string n.target, .slice eA (n.ents.length) (eC)] 32]) (obl := fun b3 => []) [o_, o_] [1] [0, 1] (fun _ _ => by kernel_rfl) (fun b3 => trivial) (fun b3 => ?_)
 refine TriL.nil (by kernel_rfl) (TriQ.next (Tri.seq (Tri.seq (Tri.region ?_))))
 refine TriL.segK (k' := 4) (fr' := [(1, .pointer (some ⟨b3, 0, none⟩)), (7, .bool (decide ((n.kind : Int) < (1 : Int))))]) (obl := [b3 = b3]) [o_, ⟨[.at 1], none, none, none, none⟩, o_, o_] [1, 7] (fun _ _ => by kernel_rfl) ⟨rfl, trivial⟩ ?_
 refine TriL.slotP 7 ((n.kind : Int) < (1 : Int)) (fun _ => by kernel_rfl) (fun h7 => ?_) (fun h7 => ?_)
 ·
  refine TriL.segK (k' := 44) (fr' := [(1, .pointer (some ⟨b3, 0, none⟩)), (47, .bool true)]) (obl := []) [o_, o_, o_, o_, o_, o_, o_, o_, o_, o_, o_, o_, o_, o_, o_, o_, o_, o_, o_, o_, o_, o_, o_, o_, o_, o_, o_, o_, o_, o_, o_, o_, o_, o_, o_, o_, o_, o_, o_, o_] [1, 47] (fun _ _ => by kernel_rfl) trivial ?_
  refine TriL.nil (by kernel_rfl) (TriQ.next ?_)
  refine Tri.condT (fun _ => by kernel_rfl) ?_
  refine Tri.seq (Tri.region ?_)
  refine TriL.segK (k' := 1) (fr' := [(2, .bool false)]) (obl := []) [o_] [2] (fun _ _ => by kernel_rfl) trivial ?_
  refine TriL.nil (by kernel_rfl) (TriQ.next (Tri.ret (TriQ.passRet ?_)))
  exact TriQ.ret (v := .bool false) (l := []) (obl := []) [] [0] (fun _ => by kernel_rfl) trivial rfl (by kernel_rfl) (⟨congrArg Value.bool (decide_eq_false (by rw [nodeOk_iff]; grind [TargetOk])).symm, rfl⟩)
 ·
  refine TriL.segK (k' := 9) (fr' := [(1, .pointer (some ⟨b3, 0, none⟩)), (12, .bool (decide ((n.kind : Int) > (3 : Int))))]) (obl := [b3 = b3]) [o_, ⟨[.at 1], none, none, none, none⟩, o_, o_, o_] [1, 12] (fun _ _ => by kernel_rfl) ⟨rfl, trivial⟩ ?_
  refine TriL.slotP 12 ((n.kind : Int) > (3 : Int)) (fun _ => by kernel_rfl) (fun h12 => ?_) (fun h12 => ?_)
  ·
   refine TriL.segK (k' := 44) (fr' := [(1, .pointer (some ⟨b3, 0, none⟩)), (47, .bool true)]) (obl := []) [o_, o_, o_, o_, o_, o_, o_, o_, o_, o_, o_, o_, o_, o_, o_, o_, o_, o_, o_, o_, o_, o_, o_, o_, o_, o_, o_, o_, o_, o_, o_, o_, o_, o_, o_] [1, 47] (fun _ _ => by kernel_rfl) trivial ?_
   refine TriL.nil (by kernel_rfl) (TriQ.next ?_)
   refine Tri.condT (fun _ => by kernel_rfl) ?_
   refine Tri.seq (Tri.region ?_)
   refine TriL.segK (k' := 1) (fr' := [(2, .bool false)]) (obl := []) [o_] [2] (fun _ _ => by kernel_rfl) trivial ?_
   refine TriL.nil (by kernel_rfl) (TriQ.next (Tri.ret (TriQ.passRet ?_)))
   exact TriQ.ret (v := .bool false) (l := []) (obl := []) [] [0] (fun _ => by kernel_rfl) trivial rfl (by kernel_rfl) (⟨congrArg Value.bool (decide_eq_false (by rw [nodeOk_iff]; grind [TargetOk])).symm, rfl⟩)
  ·
   refine TriL.segK (k' := 14) (fr' := [(1, .pointer (some ⟨b3, 0, none⟩)), (17, .bool (decide ((n.mode : Int) < (0 : Int))))]) (obl := [b3 = b3]) [o_, ⟨[.at 1], none, none, none, none⟩, o_, o_, o_] [1, 17] (fun _ _ => by kernel_rfl) ⟨rfl, trivial⟩ ?_
   refine TriL.slotP 17 ((n.mode : Int) < (0 : Int)) (fun _ => by kernel_rfl) (fun h17 => ?_) (fun h17 => ?_)
   ·
    refine TriL.segK (k' := 44) (fr' := [(1, .pointer (some ⟨b3, 0, none⟩)), (47, .bool true)]) (obl := []) [o_, o_, o_, o_, o_, o_, o_, o_, o_, o_, o_, o_, o_, o_, o_, o_, o_, o_, o_, o_, o_, o_, o_, o_, o_, o_, o_, o_, o_, o_] [1, 47] (fun _ _ => by kernel_rfl) trivial ?_
    refine TriL.nil (by kernel_rfl) (TriQ.next ?_)
    refine Tri.condT (fun _ => by kernel_rfl) ?_
    refine Tri.seq (Tri.region ?_)
    refine TriL.segK (k' := 1) (fr' := [(2, .bool false)]) (obl := []) [o_] [2] (fun _ _ => by kernel_rfl) trivial ?_
    refine TriL.nil (by kernel_rfl) (TriQ.next (Tri.ret (TriQ.passRet ?_)))
    exact TriQ.ret (v := .bool false) (l := []) (obl := []) [] [0] (fun _ => by kernel_rfl) trivial rfl (by kernel_rfl) (⟨congrArg Value.bool (decide_eq_false (by rw [nodeOk_iff]; grind [TargetOk])).symm, rfl⟩)
   ·
    refine TriL.segK (k' := 19) (fr' := [(1, .pointer (some ⟨b3, 0, none⟩)), (22, .bool (decide ((n.mode : Int) > (4095 : Int))))]) (obl := [b3 = b3]) [o_, ⟨[.at 1], none, none, none, none⟩, o_, o_, o_] [1, 22] (fun _ _ => by kernel_rfl) ⟨rfl, trivial⟩ ?_
    refine TriL.slotP 22 ((n.mode : Int) > (4095 : Int)) (fun _ => by kernel_rfl) (fun h22 => ?_) (fun h22 => ?_)
    ·
     refine TriL.segK (k' := 44) (fr' := [(1, .pointer (some ⟨b3, 0, none⟩)), (47, .bool true)]) (obl := []) [o_, o_, o_, o_, o_, o_, o_, o_, o_, o_, o_, o_, o_, o_, o_, o_, o_, o_, o_, o_, o_, o_, o_, o_, o_] [1, 47] (fun _ _ => by kernel_rfl) trivial ?_
     refine TriL.nil (by kernel_rfl) (TriQ.next ?_)
     refine Tri.condT (fun _ => by kernel_rfl) ?_
     refine Tri.seq (Tri.region ?_)
     refine TriL.segK (k' := 1) (fr' := [(2, .bool false)]) (obl := []) [o_] [2] (fun _ _ => by kernel_rfl) trivial ?_
     refine TriL.nil (by kernel_rfl) (TriQ.next (Tri.ret (TriQ.passRet ?_)))
     exact TriQ.ret (v := .bool false) (l := []) (obl := []) [] [0] (fun _ => by kernel_rfl) trivial rfl (by kernel_rfl) (⟨congrArg Value.bool (decide_eq_false (by rw [nodeOk_iff]; grind [TargetOk])).symm, rfl⟩)
    ·
     refine TriL.segK (k' := 24) (fr' := [(1, .pointer (some ⟨b3, 0, none⟩)), (27, .bool (decide ((n.uid : Int) < (0 : Int))))]) (obl := [b3 = b3]) [o_, ⟨[.at 1], none, none, none, none⟩, o_, o_, o_] [1, 27] (fun _ _ => by kernel_rfl) ⟨rfl, trivial⟩ ?_
     refine TriL.slotP 27 ((n.uid : Int) < (0 : Int)) (fun _ => by kernel_rfl) (fun h27 => ?_) (fun h27 => ?_)
     ·
      refine TriL.segK (k' := 44) (fr' := [(1, .pointer (some ⟨b3, 0, none⟩)), (47, .bool true)]) (obl := []) [o_, o_, o_, o_, o_, o_, o_, o_, o_, o_, o_, o_, o_, o_, o_, o_, o_, o_, o_, o_] [1, 47] (fun _ _ => by kernel_rfl) trivial ?_
      refine TriL.nil (by kernel_rfl) (TriQ.next ?_)
      refine Tri.condT (fun _ => by kernel_rfl) ?_
      refine Tri.seq (Tri.region ?_)
      refine TriL.segK (k' := 1) (fr' := [(2, .bool false)]) (obl := []) [o_] [2] (fun _ _ => by kernel_rfl) trivial ?_
      refine TriL.nil (by kernel_rfl) (TriQ.next (Tri.ret (TriQ.passRet ?_)))
      exact TriQ.ret (v := .bool false) (l := []) (obl := []) [] [0] (fun _ => by kernel_rfl) trivial rfl (by kernel_rfl) (⟨congrArg Value.bool (decide_eq_false (by rw [nodeOk_iff]; grind [TargetOk])).symm, rfl⟩)
     ·
      refine TriL.segK (k' := 29) (fr' := [(1, .pointer (some ⟨b3, 0, none⟩)), (32, .bool (decide ((n.uid : Int) > (2147483647 : Int))))]) (obl := [b3 = b3]) [o_, ⟨[.at 1], none, none, none, none⟩, o_, o_, o_] [1, 32] (fun _ _ => by kernel_rfl) ⟨rfl, trivial⟩ ?_
      refine TriL.slotP 32 ((n.uid : Int) > (2147483647 : Int)) (fun _ => by kernel_rfl) (fun h32 => ?_) (fun h32 => ?_)
      ·
       refine TriL.segK (k' := 44) (fr' := [(1, .pointer (some ⟨b3, 0, none⟩)), (47, .bool true)]) (obl := []) [o_, o_, o_, o_, o_, o_, o_, o_, o_, o_, o_, o_, o_, o_, o_] [1, 47] (fun _ _ => by kernel_rfl) trivial ?_
       refine TriL.nil (by kernel_rfl) (TriQ.next ?_)
       refine Tri.condT (fun _ => by kernel_rfl) ?_
       refine Tri.seq (Tri.region ?_)
       refine TriL.segK (k' := 1) (fr' := [(2, .bool false)]) (obl := []) [o_] [2] (fun _ _ => by kernel_rfl) trivial ?_
       refine TriL.nil (by kernel_rfl) (TriQ.next (Tri.ret (TriQ.passRet ?_)))
       exact TriQ.ret (v := .bool false) (l := []) (obl := []) [] [0] (fun _ => by kernel_rfl) trivial rfl (by kernel_rfl) (⟨congrArg Value.bool (decide_eq_false (by rw [nodeOk_iff]; grind [TargetOk])).symm, rfl⟩)
      ·
       refine TriL.segK (k' := 34) (fr' := [(1, .pointer (some ⟨b3, 0, none⟩)), (37, .bool (decide ((n.gid : Int) < (0 : Int))))]) (obl := [b3 = b3]) [o_, ⟨[.at 1], none, none, none, none⟩, o_, o_, o_] [1, 37] (fun _ _ => by kernel_rfl) ⟨rfl, trivial⟩ ?_
       refine TriL.slotP 37 ((n.gid : Int) < (0 : Int)) (fun _ => by kernel_rfl) (fun h37 => ?_) (fun h37 => ?_)
       ·
        refine TriL.segK (k' := 44) (fr' := [(1, .pointer (some ⟨b3, 0, none⟩)), (47, .bool true)]) (obl := []) [o_, o_, o_, o_, o_, o_, o_, o_, o_, o_] [1, 47] (fun _ _ => by kernel_rfl) trivial ?_
        refine TriL.nil (by kernel_rfl) (TriQ.next ?_)
        refine Tri.condT (fun _ => by kernel_rfl) ?_
        refine Tri.seq (Tri.region ?_)
        refine TriL.segK (k' := 1) (fr' := [(2, .bool false)]) (obl := []) [o_] [2] (fun _ _ => by kernel_rfl) trivial ?_
        refine TriL.nil (by kernel_rfl) (TriQ.next (Tri.ret (TriQ.passRet ?_)))
        exact TriQ.ret (v := .bool false) (l := []) (obl := []) [] [0] (fun _ => by kernel_rfl) trivial rfl (by kernel_rfl) (⟨congrArg Value.bool (decide_eq_false (by rw [nodeOk_iff]; grind [TargetOk])).symm, rfl⟩)
       ·
        refine TriL.segK (k' := 39) (fr' := [(1, .pointer (some ⟨b3, 0, none⟩)), (42, .bool (decide ((n.gid : Int) > (2147483647 : Int))))]) (obl := [b3 = b3]) [o_, ⟨[.at 1], none, none, none, none⟩, o_, o_, o_] [1, 42] (fun _ _ => by kernel_rfl) ⟨rfl, trivial⟩ ?_
        refine TriL.slotP 42 ((n.gid : Int) > (2147483647 : Int)) (fun _ => by kernel_rfl) (fun h42 => ?_) (fun h42 => ?_)
        ·
         refine TriL.segK (k' := 44) (fr' := [(1, .pointer (some ⟨b3, 0, none⟩)), (47, .bool true)]) (obl := []) [o_, o_, o_, o_, o_] [1, 47] (fun _ _ => by kernel_rfl) trivial ?_
         refine TriL.nil (by kernel_rfl) (TriQ.next ?_)
         refine Tri.condT (fun _ => by kernel_rfl) ?_
         refine Tri.seq (Tri.region ?_)
         refine TriL.segK (k' := 1) (fr' := [(2, .bool false)]) (obl := []) [o_] [2] (fun _ _ => by kernel_rfl) trivial ?_
         refine TriL.nil (by kernel_rfl) (TriQ.next (Tri.ret (TriQ.passRet ?_)))
         exact TriQ.ret (v := .bool false) (l := []) (obl := []) [] [0] (fun _ => by kernel_rfl) trivial rfl (by kernel_rfl) (⟨congrArg Value.bool (decide_eq_false (by rw [nodeOk_iff]; grind [TargetOk])).symm, rfl⟩)
        ·
         refine TriL.segK (k' := 41) (fr' := [(1, .pointer (some ⟨b3, 0, none⟩)), (42, .bool false), (44, .agg #[.int .i64 (n.sec), .int .i64 (n.nano)])]) (obl := [b3 = b3, b3 = b3]) [o_, ⟨[.at 1, .at 1], none, none, none, none⟩] [1, 42, 44] (fun _ _ => by kernel_rfl) ⟨rfl, rfl, trivial⟩ ?_
         refine TriL.call (f := 61) (args := #[.agg #[.int .i64 (n.sec), .int .i64 (n.nano)]]) (d := (some 45)) (pre := []) (R := [.abs R, .blk b3 [.int .i64 (n.id), .int .i64 (n.kind), .int .i64 (n.mode), .int .i64 (n.uid), .int .i64 (n.gid), .int .i64 (n.sec), .int .i64 (n.nano), .slice dA (n.data.length) (dC), .string n.target, .slice eA (n.ents.length) (eC)] 32]) (pk := [0, 1]) (fun _ => by kernel_rfl) (sp_refValid n.sec n.nano) rfl (by kernel_rfl) ?_
         rintro _ _ ⟨rfl, rfl⟩
         refine TriL.segK (k' := 44) (fr' := [(1, .pointer (some ⟨b3, 0, none⟩)), (47, .bool (!(decide (TimeOk n.sec n.nano))))]) (obl := []) [o_, o_] [1, 47] (fun _ _ => by kernel_rfl) trivial ?_
         refine TriL.nil (by kernel_rfl) (TriQ.next ?_)
         refine Tri.condN (p := TimeOk n.sec n.nano) (fun _ => by kernel_rfl) (fun h47 => ?_) (fun h47 => ?_)
         ·
          refine Tri.seq (Tri.region ?_)
          refine TriL.segK (k' := 1) (fr' := [(2, .bool false)]) (obl := []) [o_] [2] (fun _ _ => by kernel_rfl) trivial ?_
          refine TriL.nil (by kernel_rfl) (TriQ.next (Tri.ret (TriQ.passRet ?_)))
          exact TriQ.ret (v := .bool false) (l := []) (obl := []) [] [0] (fun _ => by kernel_rfl) trivial rfl (by kernel_rfl) (⟨congrArg Value.bool (decide_eq_false (by rw [nodeOk_iff]; grind [TargetOk])).symm, rfl⟩)
         ·
          refine Tri.skip (TriQ.next (Tri.seq (Tri.seq (Tri.region ?_))))
          refine TriL.segK (k' := 4) (fr' := [(1, .pointer (some ⟨b3, 0, none⟩)), (51, .bool (!(decide ((n.kind : Int) = (1 : Int)))))]) (obl := [b3 = b3]) [o_, ⟨[.at 1], none, none, none, none⟩, o_, o_] [1, 51] (fun _ _ => by kernel_rfl) ⟨rfl, trivial⟩ ?_
          refine TriL.slotN 51 ((n.kind : Int) = (1 : Int)) (fun _ => by kernel_rfl) (fun h51 => ?_) (fun h51 => ?_)
          ·
           refine TriL.segK (k' := 10) (fr' := [(1, .pointer (some ⟨b3, 0, none⟩)), (57, .bool (decide ((((n.data.length : Nat) : Int) : Int) > (0 : Int))))]) (obl := [b3 = b3]) [o_, ⟨[.at 1], none, none, none, none⟩, o_, o_, o_, o_] [1, 57] (fun _ _ => by kernel_rfl) ⟨rfl, trivial⟩ ?_
           refine TriL.slotP 57 ((((n.data.length : Nat) : Int) : Int) > (0 : Int)) (fun _ => by kernel_rfl) (fun h57 => ?_) (fun h57 => ?_)
           ·
            refine TriL.segK (k' := 20) (fr' := [(1, .pointer (some ⟨b3, 0, none⟩)), (67, .bool true)]) (obl := []) [o_, o_, o_, o_, o_, o_, o_, o_, o_, o_] [1, 67] (fun _ _ => by kernel_rfl) trivial ?_
            refine TriL.nil (by kernel_rfl) (TriQ.next ?_)
            refine Tri.condT (fun _ => by kernel_rfl) ?_
            refine Tri.seq (Tri.region ?_)
            refine TriL.segK (k' := 1) (fr' := [(2, .bool false)]) (obl := []) [o_] [2] (fun _ _ => by kernel_rfl) trivial ?_
            refine TriL.nil (by kernel_rfl) (TriQ.next (Tri.ret (TriQ.passRet ?_)))
            exact TriQ.ret (v := .bool false) (l := []) (obl := []) [] [0] (fun _ => by kernel_rfl) trivial rfl (by kernel_rfl) (⟨congrArg Value.bool (decide_eq_false (by rw [nodeOk_iff]; grind [TargetOk])).symm, rfl⟩)
           ·
            refine TriL.segK (k' := 14) (fr' := [(1, .pointer (some ⟨b3, 0, none⟩)), (57, .bool false), (61, .bool (!(decide ((n.kind : Int) = (2 : Int)))))]) (obl := [b3 = b3]) [o_, ⟨[.at 1], none, none, none, none⟩, o_, o_] [1, 57, 61] (fun _ _ => by kernel_rfl) ⟨rfl, trivial⟩ ?_
            refine TriL.slotN 61 ((n.kind : Int) = (2 : Int)) (fun _ => by kernel_rfl) (fun h61 => ?_) (fun h61 => ?_)
            ·
             refine TriL.segK (k' := 20) (fr' := [(1, .pointer (some ⟨b3, 0, none⟩)), (67, .bool (decide ((((n.ents.length : Nat) : Int) : Int) > (0 : Int))))]) (obl := [b3 = b3]) [o_, ⟨[.at 1], none, none, none, none⟩, o_, o_, o_, o_] [1, 67] (fun _ _ => by kernel_rfl) ⟨rfl, trivial⟩ ?_
             refine TriL.nil (by kernel_rfl) (TriQ.next ?_)
             refine Tri.condP (p := (((n.ents.length : Nat) : Int) : Int) > (0 : Int)) (fun _ => by kernel_rfl) (fun h67 => ?_) (fun h67 => ?_)
             ·
              refine Tri.seq (Tri.region ?_)
              refine TriL.segK (k' := 1) (fr' := [(2, .bool false)]) (obl := []) [o_] [2] (fun _ _ => by kernel_rfl) trivial ?_
              refine TriL.nil (by kernel_rfl) (TriQ.next (Tri.ret (TriQ.passRet ?_)))
              exact TriQ.ret (v := .bool false) (l := []) (obl := []) [] [0] (fun _ => by kernel_rfl) trivial rfl (by kernel_rfl) (⟨congrArg Value.bool (decide_eq_false (by rw [nodeOk_iff]; grind [TargetOk])).symm, rfl⟩)
             ·
              refine Tri.skip (TriQ.next (Tri.seq (Tri.seq (Tri.region ?_))))
              refine TriL.segK (k' := 3) (fr' := [(1, .pointer (some ⟨b3, 0, none⟩)), (70, .bool (!(decide ((n.kind : Int) = (3 : Int)))))]) (obl := [b3 = b3]) [o_, ⟨[.at 1], none, none, none, none⟩, o_] [1, 70] (fun _ _ => by kernel_rfl) ⟨rfl, trivial⟩ ?_
              refine TriL.nil (by kernel_rfl) (TriQ.next ?_)
              refine Tri.condN (p := (n.kind : Int) = (3 : Int)) (fun _ => by kernel_rfl) (fun h70 => ?_) (fun h70 => ?_)
              ·
               refine Tri.seq (Tri.region ?_)
               refine TriL.segK (k' := 4) (fr' := [(2, .bool (decide ((n.target : ByteArray) = ⟨#[]⟩)))]) (obl := [(Value.bool ((n.target : ByteArray).toList == (⟨#[]⟩ : ByteArray).toList)) = (.bool (decide ((n.target : ByteArray) = ⟨#[]⟩))), b3 = b3]) [o_, ⟨[.at 1], none, none, none, none⟩, ⟨[], none, none, none, some (.bool (decide ((n.target : ByteArray) = ⟨#[]⟩)))⟩, o_] [2] (fun _ _ => by kernel_rfl) ⟨strEqV _ _, rfl, trivial⟩ ?_
               refine TriL.nil (by kernel_rfl) (TriQ.next (Tri.ret (TriQ.passRet ?_)))
               exact TriQ.ret (v := .bool (decide ((n.target : ByteArray) = ⟨#[]⟩))) (l := []) (obl := []) [] [0] (fun _ => by kernel_rfl) trivial rfl (by kernel_rfl) (⟨congrArg Value.bool (decide_eq_decide.2 (by rw [nodeOk_iff]; grind [TargetOk])), rfl⟩)
              ·
               refine Tri.skip (TriQ.next (Tri.seq (Tri.seq (Tri.region ?_))))
               refine TriL.segK (k' := 1) (fr' := [(1, .pointer (some ⟨b3, 0, none⟩)), (3, .int .i64 0)]) (obl := []) [o_] [1, 3] (fun _ _ => by kernel_rfl) trivial ?_
               refine TriL.nil (by kernel_rfl) (TriQ.next (Tri.block ?_))
               refine Tri.loop (ι := Nat) (fun (i : Nat) => (i ≤ n.target.size) ∧ (∀ j, j < i → ¬ byteAt n.target j = 0)) (fun (i : Nat) => n.target.size - i) (fun (i : Nat) => [(1, .pointer (some ⟨b3, 0, none⟩)), (3, .int .i64 ↑i)]) (fun (i : Nat) => [.abs R, .blk b3 [.int .i64 (n.id), .int .i64 (n.kind), .int .i64 (n.mode), .int .i64 (n.uid), .int .i64 (n.gid), .int .i64 (n.sec), .int .i64 (n.nano), .slice dA (n.data.length) (dC), .string n.target, .slice eA (n.ents.length) (eC)] 32]) 0 (idx := [1, 3]) (pk := [0, 1]) (show (0 ≤ n.target.size) ∧ (∀ j, j < 0 → ¬ byteAt n.target j = 0) from ⟨Nat.zero_le _, fun j hj => absurd hj (Nat.not_lt_zero j)⟩) (fun _ => by kernel_rfl) rfl (by kernel_rfl) ?_
               rintro i ⟨hi, hall⟩
               show Tri _ _ _ _ [(1, .pointer (some ⟨b3, 0, none⟩)), (3, .int .i64 ↑i)] [.abs R, .blk b3 [.int .i64 (n.id), .int .i64 (n.kind), .int .i64 (n.mode), .int .i64 (n.uid), .int .i64 (n.gid), .int .i64 (n.sec), .int .i64 (n.nano), .slice dA (n.data.length) (dC), .string n.target, .slice eA (n.ents.length) (eC)] 32] _
               refine Tri.seq (Tri.seq (Tri.region ?_))
               refine TriL.segK (k' := 5) (fr' := [(1, .pointer (some ⟨b3, 0, none⟩)), (3, .int .i64 ↑i), (78, .bool (decide ((((i : Nat) : Int) : Int) < ((((n.target : ByteArray).size : Nat) : Int) : Int))))]) (obl := [b3 = b3]) [o_, o_, ⟨[.at 1], none, none, none, none⟩, o_, o_] [1, 3, 78] (fun _ _ => by kernel_rfl) ⟨rfl, trivial⟩ ?_
               refine TriL.nil (by kernel_rfl) (TriQ.next ?_)
               refine Tri.condP (p := (((i : Nat) : Int) : Int) < ((((n.target : ByteArray).size : Nat) : Int) : Int)) (fun _ => by kernel_rfl) (fun h78 => ?_) (fun h78 => ?_)
               ·
                refine Tri.skip (TriQ.next (Tri.seq (Tri.block (Tri.seq (Tri.region ?_)))))
                refine TriL.segK (k' := 5) (fr' := [(1, .pointer (some ⟨b3, 0, none⟩)), (3, .int .i64 ↑i), (85, .bool (decide ((((((n.target : ByteArray).data.getD (i) 0).toNat : Nat) : Int) : Int) = (0 : Int))))]) (obl := [((i : Nat) : Int) = ((i : Nat) : Int), i < (n.target : ByteArray).size, b3 = b3]) [o_, ⟨[.at 1], none, none, none, none⟩, o_, ⟨[], some i, none, none, none⟩, o_] [1, 3, 85] (fun _ _ => by kernel_rfl) ⟨rfl, by omega, rfl, trivial⟩ ?_
                refine TriL.nil (by kernel_rfl) (TriQ.next ?_)
                refine Tri.condP (p := (((((n.target : ByteArray).data.getD (i) 0).toNat : Nat) : Int) : Int) = (0 : Int)) (fun _ => by kernel_rfl) (fun h85 => ?_) (fun h85 => ?_)
                ·
                 refine Tri.seq (Tri.region ?_)
                 refine TriL.segK (k' := 1) (fr' := [(2, .bool false)]) (obl := []) [o_] [2] (fun _ _ => by kernel_rfl) trivial ?_
                 refine TriL.nil (by kernel_rfl) (TriQ.next (Tri.ret (TriQ.blockRet (TriQ.passRet (TriQ.passRet (TriQ.blockRet (TriQ.passRet ?_)))))))
                 exact TriQ.ret (v := .bool false) (l := []) (obl := []) [] [0] (fun _ => by kernel_rfl) trivial rfl (by kernel_rfl) (⟨congrArg Value.bool (decide_eq_false (by intro g; have := (TargetOk.sym g.target (by omega)).2.2 i (by omega); unfold byteAt at this; omega)).symm, rfl⟩)
                ·
                 refine Tri.skip (TriQ.blockNormal (TriQ.next (Tri.region ?_)))
                 refine TriL.segK (k' := 3) (fr' := [(1, .pointer (some ⟨b3, 0, none⟩)), (3, .int .i64 ↑(i + 1))]) (obl := [(Value.int .i64 (IntKind.wrap .i64 (((i : Nat) : Int) + 1))) = (.int .i64 ↑(i + 1))]) [o_, ⟨[], none, none, none, some (.int .i64 ↑(i + 1))⟩, o_] [1, 3] (fun _ _ => by kernel_rfl) ⟨wrapEq (by omega) (by omega) (by omega), trivial⟩ ?_
                 refine TriL.nil (by kernel_rfl) ?_
                 exact TriQ.turn ((i + 1)) (idx := [1, 3]) (pk := [0, 1]) (show (((i + 1)) ≤ n.target.size) ∧ (∀ j, j < ((i + 1)) → ¬ byteAt n.target j = 0) from ⟨by omega, fun j hj => by rcases Nat.lt_succ_iff_lt_or_eq.1 hj with h | h; exact hall j h; subst h; unfold byteAt; omega⟩) (by show n.target.size - ((i + 1)) < n.target.size - i; omega) (fun _ => by kernel_rfl) rfl (by kernel_rfl)
               ·
                refine Tri.exit (TriQ.passExit (TriQ.passExit (TriQ.blockHit (TriQ.next (Tri.seq (Tri.region ?_))))))
                refine TriL.segK (k' := 5) (fr' := [(1, .pointer (some ⟨b3, 0, none⟩)), (90, .bool (decide (((((n.target : ByteArray).size : Nat) : Int) : Int) ≥ (1 : Int))))]) (obl := [b3 = b3]) [o_, ⟨[.at 1], none, none, none, none⟩, o_, o_, o_] [1, 90] (fun _ _ => by kernel_rfl) ⟨rfl, trivial⟩ ?_
                refine TriL.slotP 90 (((((n.target : ByteArray).size : Nat) : Int) : Int) ≥ (1 : Int)) (fun _ => by kernel_rfl) (fun h90 => ?_) (fun h90 => ?_)
                ·
                 refine TriL.segK (k' := 11) (fr' := [(2, .bool (decide (((((n.target : ByteArray).size : Nat) : Int) : Int) ≤ (4096 : Int))))]) (obl := [b3 = b3]) [o_, ⟨[.at 1], none, none, none, none⟩, o_, o_, o_, o_] [2] (fun _ _ => by kernel_rfl) ⟨rfl, trivial⟩ ?_
                 refine TriL.nil (by kernel_rfl) (TriQ.next (Tri.ret ?_))
                 exact TriQ.ret (v := .bool (decide (((((n.target : ByteArray).size : Nat) : Int) : Int) ≤ (4096 : Int)))) (l := []) (obl := []) [] [0] (fun _ => by kernel_rfl) trivial rfl (by kernel_rfl) (⟨congrArg Value.bool (decide_eq_decide.2 (by have hA : NoNul n.target := fun j hj => hall j (by omega); rw [nodeOk_iff]; grind [TargetOk])), rfl⟩)
                ·
                 refine TriL.segK (k' := 11) (fr' := [(2, .bool false)]) (obl := []) [o_, o_, o_, o_, o_, o_] [2] (fun _ _ => by kernel_rfl) trivial ?_
                 refine TriL.nil (by kernel_rfl) (TriQ.next (Tri.ret ?_))
                 exact TriQ.ret (v := .bool false) (l := []) (obl := []) [] [0] (fun _ => by kernel_rfl) trivial rfl (by kernel_rfl) (⟨congrArg Value.bool (decide_eq_false (by have hA : NoNul n.target := fun j hj => hall j (by omega); rw [nodeOk_iff]; grind [TargetOk])).symm, rfl⟩)
            ·
             refine TriL.segK (k' := 20) (fr' := [(1, .pointer (some ⟨b3, 0, none⟩)), (67, .bool false)]) (obl := []) [o_, o_, o_, o_, o_, o_] [1, 67] (fun _ _ => by kernel_rfl) trivial ?_
             refine TriL.nil (by kernel_rfl) (TriQ.next ?_)
             refine Tri.condF (fun _ => by kernel_rfl) ?_
             refine Tri.skip (TriQ.next (Tri.seq (Tri.seq (Tri.region ?_))))
             refine TriL.segK (k' := 3) (fr' := [(1, .pointer (some ⟨b3, 0, none⟩)), (70, .bool (!(decide ((n.kind : Int) = (3 : Int)))))]) (obl := [b3 = b3]) [o_, ⟨[.at 1], none, none, none, none⟩, o_] [1, 70] (fun _ _ => by kernel_rfl) ⟨rfl, trivial⟩ ?_
             refine TriL.nil (by kernel_rfl) (TriQ.next ?_)
             refine Tri.condN (p := (n.kind : Int) = (3 : Int)) (fun _ => by kernel_rfl) (fun h70 => ?_) (fun h70 => ?_)
             ·
              refine Tri.seq (Tri.region ?_)
              refine TriL.segK (k' := 4) (fr' := [(2, .bool (decide ((n.target : ByteArray) = ⟨#[]⟩)))]) (obl := [(Value.bool ((n.target : ByteArray).toList == (⟨#[]⟩ : ByteArray).toList)) = (.bool (decide ((n.target : ByteArray) = ⟨#[]⟩))), b3 = b3]) [o_, ⟨[.at 1], none, none, none, none⟩, ⟨[], none, none, none, some (.bool (decide ((n.target : ByteArray) = ⟨#[]⟩)))⟩, o_] [2] (fun _ _ => by kernel_rfl) ⟨strEqV _ _, rfl, trivial⟩ ?_
              refine TriL.nil (by kernel_rfl) (TriQ.next (Tri.ret (TriQ.passRet ?_)))
              exact TriQ.ret (v := .bool (decide ((n.target : ByteArray) = ⟨#[]⟩))) (l := []) (obl := []) [] [0] (fun _ => by kernel_rfl) trivial rfl (by kernel_rfl) (⟨congrArg Value.bool (decide_eq_decide.2 (by rw [nodeOk_iff]; grind [TargetOk])), rfl⟩)
             ·
              refine Tri.skip (TriQ.next (Tri.seq (Tri.seq (Tri.region ?_))))
              refine TriL.segK (k' := 1) (fr' := [(1, .pointer (some ⟨b3, 0, none⟩)), (3, .int .i64 0)]) (obl := []) [o_] [1, 3] (fun _ _ => by kernel_rfl) trivial ?_
              refine TriL.nil (by kernel_rfl) (TriQ.next (Tri.block ?_))
              refine Tri.loop (ι := Nat) (fun (i : Nat) => (i ≤ n.target.size) ∧ (∀ j, j < i → ¬ byteAt n.target j = 0)) (fun (i : Nat) => n.target.size - i) (fun (i : Nat) => [(1, .pointer (some ⟨b3, 0, none⟩)), (3, .int .i64 ↑i)]) (fun (i : Nat) => [.abs R, .blk b3 [.int .i64 (n.id), .int .i64 (n.kind), .int .i64 (n.mode), .int .i64 (n.uid), .int .i64 (n.gid), .int .i64 (n.sec), .int .i64 (n.nano), .slice dA (n.data.length) (dC), .string n.target, .slice eA (n.ents.length) (eC)] 32]) 0 (idx := [1, 3]) (pk := [0, 1]) (show (0 ≤ n.target.size) ∧ (∀ j, j < 0 → ¬ byteAt n.target j = 0) from ⟨Nat.zero_le _, fun j hj => absurd hj (Nat.not_lt_zero j)⟩) (fun _ => by kernel_rfl) rfl (by kernel_rfl) ?_
              rintro i ⟨hi, hall⟩
              show Tri _ _ _ _ [(1, .pointer (some ⟨b3, 0, none⟩)), (3, .int .i64 ↑i)] [.abs R, .blk b3 [.int .i64 (n.id), .int .i64 (n.kind), .int .i64 (n.mode), .int .i64 (n.uid), .int .i64 (n.gid), .int .i64 (n.sec), .int .i64 (n.nano), .slice dA (n.data.length) (dC), .string n.target, .slice eA (n.ents.length) (eC)] 32] _
              refine Tri.seq (Tri.seq (Tri.region ?_))
              refine TriL.segK (k' := 5) (fr' := [(1, .pointer (some ⟨b3, 0, none⟩)), (3, .int .i64 ↑i), (78, .bool (decide ((((i : Nat) : Int) : Int) < ((((n.target : ByteArray).size : Nat) : Int) : Int))))]) (obl := [b3 = b3]) [o_, o_, ⟨[.at 1], none, none, none, none⟩, o_, o_] [1, 3, 78] (fun _ _ => by kernel_rfl) ⟨rfl, trivial⟩ ?_
              refine TriL.nil (by kernel_rfl) (TriQ.next ?_)
              refine Tri.condP (p := (((i : Nat) : Int) : Int) < ((((n.target : ByteArray).size : Nat) : Int) : Int)) (fun _ => by kernel_rfl) (fun h78 => ?_) (fun h78 => ?_)
              ·
               refine Tri.skip (TriQ.next (Tri.seq (Tri.block (Tri.seq (Tri.region ?_)))))
               refine TriL.segK (k' := 5) (fr' := [(1, .pointer (some ⟨b3, 0, none⟩)), (3, .int .i64 ↑i), (85, .bool (decide ((((((n.target : ByteArray).data.getD (i) 0).toNat : Nat) : Int) : Int) = (0 : Int))))]) (obl := [((i : Nat) : Int) = ((i : Nat) : Int), i < (n.target : ByteArray).size, b3 = b3]) [o_, ⟨[.at 1], none, none, none, none⟩, o_, ⟨[], some i, none, none, none⟩, o_] [1, 3, 85] (fun _ _ => by kernel_rfl) ⟨rfl, by omega, rfl, trivial⟩ ?_
               refine TriL.nil (by kernel_rfl) (TriQ.next ?_)
               refine Tri.condP (p := (((((n.target : ByteArray).data.getD (i) 0).toNat : Nat) : Int) : Int) = (0 : Int)) (fun _ => by kernel_rfl) (fun h85 => ?_) (fun h85 => ?_)
               ·
                refine Tri.seq (Tri.region ?_)
                refine TriL.segK (k' := 1) (fr' := [(2, .bool false)]) (obl := []) [o_] [2] (fun _ _ => by kernel_rfl) trivial ?_
                refine TriL.nil (by kernel_rfl) (TriQ.next (Tri.ret (TriQ.blockRet (TriQ.passRet (TriQ.passRet (TriQ.blockRet (TriQ.passRet ?_)))))))
                exact TriQ.ret (v := .bool false) (l := []) (obl := []) [] [0] (fun _ => by kernel_rfl) trivial rfl (by kernel_rfl) (⟨congrArg Value.bool (decide_eq_false (by intro g; have := (TargetOk.sym g.target (by omega)).2.2 i (by omega); unfold byteAt at this; omega)).symm, rfl⟩)
               ·
                refine Tri.skip (TriQ.blockNormal (TriQ.next (Tri.region ?_)))
                refine TriL.segK (k' := 3) (fr' := [(1, .pointer (some ⟨b3, 0, none⟩)), (3, .int .i64 ↑(i + 1))]) (obl := [(Value.int .i64 (IntKind.wrap .i64 (((i : Nat) : Int) + 1))) = (.int .i64 ↑(i + 1))]) [o_, ⟨[], none, none, none, some (.int .i64 ↑(i + 1))⟩, o_] [1, 3] (fun _ _ => by kernel_rfl) ⟨wrapEq (by omega) (by omega) (by omega), trivial⟩ ?_
                refine TriL.nil (by kernel_rfl) ?_
                exact TriQ.turn ((i + 1)) (idx := [1, 3]) (pk := [0, 1]) (show (((i + 1)) ≤ n.target.size) ∧ (∀ j, j < ((i + 1)) → ¬ byteAt n.target j = 0) from ⟨by omega, fun j hj => by rcases Nat.lt_succ_iff_lt_or_eq.1 hj with h | h; exact hall j h; subst h; unfold byteAt; omega⟩) (by show n.target.size - ((i + 1)) < n.target.size - i; omega) (fun _ => by kernel_rfl) rfl (by kernel_rfl)
              ·
               refine Tri.exit (TriQ.passExit (TriQ.passExit (TriQ.blockHit (TriQ.next (Tri.seq (Tri.region ?_))))))
               refine TriL.segK (k' := 5) (fr' := [(1, .pointer (some ⟨b3, 0, none⟩)), (90, .bool (decide (((((n.target : ByteArray).size : Nat) : Int) : Int) ≥ (1 : Int))))]) (obl := [b3 = b3]) [o_, ⟨[.at 1], none, none, none, none⟩, o_, o_, o_] [1, 90] (fun _ _ => by kernel_rfl) ⟨rfl, trivial⟩ ?_
               refine TriL.slotP 90 (((((n.target : ByteArray).size : Nat) : Int) : Int) ≥ (1 : Int)) (fun _ => by kernel_rfl) (fun h90 => ?_) (fun h90 => ?_)
               ·
                refine TriL.segK (k' := 11) (fr' := [(2, .bool (decide (((((n.target : ByteArray).size : Nat) : Int) : Int) ≤ (4096 : Int))))]) (obl := [b3 = b3]) [o_, ⟨[.at 1], none, none, none, none⟩, o_, o_, o_, o_] [2] (fun _ _ => by kernel_rfl) ⟨rfl, trivial⟩ ?_
                refine TriL.nil (by kernel_rfl) (TriQ.next (Tri.ret ?_))
                exact TriQ.ret (v := .bool (decide (((((n.target : ByteArray).size : Nat) : Int) : Int) ≤ (4096 : Int)))) (l := []) (obl := []) [] [0] (fun _ => by kernel_rfl) trivial rfl (by kernel_rfl) (⟨congrArg Value.bool (decide_eq_decide.2 (by have hA : NoNul n.target := fun j hj => hall j (by omega); rw [nodeOk_iff]; grind [TargetOk])), rfl⟩)
               ·
                refine TriL.segK (k' := 11) (fr' := [(2, .bool false)]) (obl := []) [o_, o_, o_, o_, o_, o_] [2] (fun _ _ => by kernel_rfl) trivial ?_
                refine TriL.nil (by kernel_rfl) (TriQ.next (Tri.ret ?_))
                exact TriQ.ret (v := .bool false) (l := []) (obl := []) [] [0] (fun _ => by kernel_rfl) trivial rfl (by kernel_rfl) (⟨congrArg Value.bool (decide_eq_false (by have hA : NoNul n.target := fun j hj => hall j (by omega); rw [nodeOk_iff]; grind [TargetOk])).symm, rfl⟩)
          ·
           refine TriL.segK (k' := 14) (fr' := [(1, .pointer (some ⟨b3, 0, none⟩)), (57, .bool false), (61, .bool (!(decide ((n.kind : Int) = (2 : Int)))))]) (obl := [b3 = b3]) [o_, o_, o_, o_, o_, o_, o_, ⟨[.at 1], none, none, none, none⟩, o_, o_] [1, 57, 61] (fun _ _ => by kernel_rfl) ⟨rfl, trivial⟩ ?_
           refine TriL.slotN 61 ((n.kind : Int) = (2 : Int)) (fun _ => by kernel_rfl) (fun h61 => ?_) (fun h61 => ?_)
           ·
            refine TriL.segK (k' := 20) (fr' := [(1, .pointer (some ⟨b3, 0, none⟩)), (67, .bool (decide ((((n.ents.length : Nat) : Int) : Int) > (0 : Int))))]) (obl := [b3 = b3]) [o_, ⟨[.at 1], none, none, none, none⟩, o_, o_, o_, o_] [1, 67] (fun _ _ => by kernel_rfl) ⟨rfl, trivial⟩ ?_
            refine TriL.nil (by kernel_rfl) (TriQ.next ?_)
            refine Tri.condP (p := (((n.ents.length : Nat) : Int) : Int) > (0 : Int)) (fun _ => by kernel_rfl) (fun h67 => ?_) (fun h67 => ?_)
            ·
             refine Tri.seq (Tri.region ?_)
             refine TriL.segK (k' := 1) (fr' := [(2, .bool false)]) (obl := []) [o_] [2] (fun _ _ => by kernel_rfl) trivial ?_
             refine TriL.nil (by kernel_rfl) (TriQ.next (Tri.ret (TriQ.passRet ?_)))
             exact TriQ.ret (v := .bool false) (l := []) (obl := []) [] [0] (fun _ => by kernel_rfl) trivial rfl (by kernel_rfl) (⟨congrArg Value.bool (decide_eq_false (by rw [nodeOk_iff]; grind [TargetOk])).symm, rfl⟩)
            ·
             refine Tri.skip (TriQ.next (Tri.seq (Tri.seq (Tri.region ?_))))
             refine TriL.segK (k' := 3) (fr' := [(1, .pointer (some ⟨b3, 0, none⟩)), (70, .bool (!(decide ((n.kind : Int) = (3 : Int)))))]) (obl := [b3 = b3]) [o_, ⟨[.at 1], none, none, none, none⟩, o_] [1, 70] (fun _ _ => by kernel_rfl) ⟨rfl, trivial⟩ ?_
             refine TriL.nil (by kernel_rfl) (TriQ.next ?_)
             refine Tri.condN (p := (n.kind : Int) = (3 : Int)) (fun _ => by kernel_rfl) (fun h70 => ?_) (fun h70 => ?_)
             ·
              refine Tri.seq (Tri.region ?_)
              refine TriL.segK (k' := 4) (fr' := [(2, .bool (decide ((n.target : ByteArray) = ⟨#[]⟩)))]) (obl := [(Value.bool ((n.target : ByteArray).toList == (⟨#[]⟩ : ByteArray).toList)) = (.bool (decide ((n.target : ByteArray) = ⟨#[]⟩))), b3 = b3]) [o_, ⟨[.at 1], none, none, none, none⟩, ⟨[], none, none, none, some (.bool (decide ((n.target : ByteArray) = ⟨#[]⟩)))⟩, o_] [2] (fun _ _ => by kernel_rfl) ⟨strEqV _ _, rfl, trivial⟩ ?_
              refine TriL.nil (by kernel_rfl) (TriQ.next (Tri.ret (TriQ.passRet ?_)))
              exact TriQ.ret (v := .bool (decide ((n.target : ByteArray) = ⟨#[]⟩))) (l := []) (obl := []) [] [0] (fun _ => by kernel_rfl) trivial rfl (by kernel_rfl) (⟨congrArg Value.bool (decide_eq_decide.2 (by rw [nodeOk_iff]; grind [TargetOk])), rfl⟩)
             ·
              refine Tri.skip (TriQ.next (Tri.seq (Tri.seq (Tri.region ?_))))
              refine TriL.segK (k' := 1) (fr' := [(1, .pointer (some ⟨b3, 0, none⟩)), (3, .int .i64 0)]) (obl := []) [o_] [1, 3] (fun _ _ => by kernel_rfl) trivial ?_
              refine TriL.nil (by kernel_rfl) (TriQ.next (Tri.block ?_))
              refine Tri.loop (ι := Nat) (fun (i : Nat) => (i ≤ n.target.size) ∧ (∀ j, j < i → ¬ byteAt n.target j = 0)) (fun (i : Nat) => n.target.size - i) (fun (i : Nat) => [(1, .pointer (some ⟨b3, 0, none⟩)), (3, .int .i64 ↑i)]) (fun (i : Nat) => [.abs R, .blk b3 [.int .i64 (n.id), .int .i64 (n.kind), .int .i64 (n.mode), .int .i64 (n.uid), .int .i64 (n.gid), .int .i64 (n.sec), .int .i64 (n.nano), .slice dA (n.data.length) (dC), .string n.target, .slice eA (n.ents.length) (eC)] 32]) 0 (idx := [1, 3]) (pk := [0, 1]) (show (0 ≤ n.target.size) ∧ (∀ j, j < 0 → ¬ byteAt n.target j = 0) from ⟨Nat.zero_le _, fun j hj => absurd hj (Nat.not_lt_zero j)⟩) (fun _ => by kernel_rfl) rfl (by kernel_rfl) ?_
              rintro i ⟨hi, hall⟩
              show Tri _ _ _ _ [(1, .pointer (some ⟨b3, 0, none⟩)), (3, .int .i64 ↑i)] [.abs R, .blk b3 [.int .i64 (n.id), .int .i64 (n.kind), .int .i64 (n.mode), .int .i64 (n.uid), .int .i64 (n.gid), .int .i64 (n.sec), .int .i64 (n.nano), .slice dA (n.data.length) (dC), .string n.target, .slice eA (n.ents.length) (eC)] 32] _
              refine Tri.seq (Tri.seq (Tri.region ?_))
              refine TriL.segK (k' := 5) (fr' := [(1, .pointer (some ⟨b3, 0, none⟩)), (3, .int .i64 ↑i), (78, .bool (decide ((((i : Nat) : Int) : Int) < ((((n.target : ByteArray).size : Nat) : Int) : Int))))]) (obl := [b3 = b3]) [o_, o_, ⟨[.at 1], none, none, none, none⟩, o_, o_] [1, 3, 78] (fun _ _ => by kernel_rfl) ⟨rfl, trivial⟩ ?_
              refine TriL.nil (by kernel_rfl) (TriQ.next ?_)
              refine Tri.condP (p := (((i : Nat) : Int) : Int) < ((((n.target : ByteArray).size : Nat) : Int) : Int)) (fun _ => by kernel_rfl) (fun h78 => ?_) (fun h78 => ?_)
              ·
               refine Tri.skip (TriQ.next (Tri.seq (Tri.block (Tri.seq (Tri.region ?_)))))
               refine TriL.segK (k' := 5) (fr' := [(1, .pointer (some ⟨b3, 0, none⟩)), (3, .int .i64 ↑i), (85, .bool (decide ((((((n.target : ByteArray).data.getD (i) 0).toNat : Nat) : Int) : Int) = (0 : Int))))]) (obl := [((i : Nat) : Int) = ((i : Nat) : Int), i < (n.target : ByteArray).size, b3 = b3]) [o_, ⟨[.at 1], none, none, none, none⟩, o_, ⟨[], some i, none, none, none⟩, o_] [1, 3, 85] (fun _ _ => by kernel_rfl) ⟨rfl, by omega, rfl, trivial⟩ ?_
               refine TriL.nil (by kernel_rfl) (TriQ.next ?_)
               refine Tri.condP (p := (((((n.target : ByteArray).data.getD (i) 0).toNat : Nat) : Int) : Int) = (0 : Int)) (fun _ => by kernel_rfl) (fun h85 => ?_) (fun h85 => ?_)
               ·
                refine Tri.seq (Tri.region ?_)
                refine TriL.segK (k' := 1) (fr' := [(2, .bool false)]) (obl := []) [o_] [2] (fun _ _ => by kernel_rfl) trivial ?_
                refine TriL.nil (by kernel_rfl) (TriQ.next (Tri.ret (TriQ.blockRet (TriQ.passRet (TriQ.passRet (TriQ.blockRet (TriQ.passRet ?_)))))))
                exact TriQ.ret (v := .bool false) (l := []) (obl := []) [] [0] (fun _ => by kernel_rfl) trivial rfl (by kernel_rfl) (⟨congrArg Value.bool (decide_eq_false (by intro g; have := (TargetOk.sym g.target (by omega)).2.2 i (by omega); unfold byteAt at this; omega)).symm, rfl⟩)
               ·
                refine Tri.skip (TriQ.blockNormal (TriQ.next (Tri.region ?_)))
                refine TriL.segK (k' := 3) (fr' := [(1, .pointer (some ⟨b3, 0, none⟩)), (3, .int .i64 ↑(i + 1))]) (obl := [(Value.int .i64 (IntKind.wrap .i64 (((i : Nat) : Int) + 1))) = (.int .i64 ↑(i + 1))]) [o_, ⟨[], none, none, none, some (.int .i64 ↑(i + 1))⟩, o_] [1, 3] (fun _ _ => by kernel_rfl) ⟨wrapEq (by omega) (by omega) (by omega), trivial⟩ ?_
                refine TriL.nil (by kernel_rfl) ?_
                exact TriQ.turn ((i + 1)) (idx := [1, 3]) (pk := [0, 1]) (show (((i + 1)) ≤ n.target.size) ∧ (∀ j, j < ((i + 1)) → ¬ byteAt n.target j = 0) from ⟨by omega, fun j hj => by rcases Nat.lt_succ_iff_lt_or_eq.1 hj with h | h; exact hall j h; subst h; unfold byteAt; omega⟩) (by show n.target.size - ((i + 1)) < n.target.size - i; omega) (fun _ => by kernel_rfl) rfl (by kernel_rfl)
              ·
               refine Tri.exit (TriQ.passExit (TriQ.passExit (TriQ.blockHit (TriQ.next (Tri.seq (Tri.region ?_))))))
               refine TriL.segK (k' := 5) (fr' := [(1, .pointer (some ⟨b3, 0, none⟩)), (90, .bool (decide (((((n.target : ByteArray).size : Nat) : Int) : Int) ≥ (1 : Int))))]) (obl := [b3 = b3]) [o_, ⟨[.at 1], none, none, none, none⟩, o_, o_, o_] [1, 90] (fun _ _ => by kernel_rfl) ⟨rfl, trivial⟩ ?_
               refine TriL.slotP 90 (((((n.target : ByteArray).size : Nat) : Int) : Int) ≥ (1 : Int)) (fun _ => by kernel_rfl) (fun h90 => ?_) (fun h90 => ?_)
               ·
                refine TriL.segK (k' := 11) (fr' := [(2, .bool (decide (((((n.target : ByteArray).size : Nat) : Int) : Int) ≤ (4096 : Int))))]) (obl := [b3 = b3]) [o_, ⟨[.at 1], none, none, none, none⟩, o_, o_, o_, o_] [2] (fun _ _ => by kernel_rfl) ⟨rfl, trivial⟩ ?_
                refine TriL.nil (by kernel_rfl) (TriQ.next (Tri.ret ?_))
                exact TriQ.ret (v := .bool (decide (((((n.target : ByteArray).size : Nat) : Int) : Int) ≤ (4096 : Int)))) (l := []) (obl := []) [] [0] (fun _ => by kernel_rfl) trivial rfl (by kernel_rfl) (⟨congrArg Value.bool (decide_eq_decide.2 (by have hA : NoNul n.target := fun j hj => hall j (by omega); rw [nodeOk_iff]; grind [TargetOk])), rfl⟩)
               ·
                refine TriL.segK (k' := 11) (fr' := [(2, .bool false)]) (obl := []) [o_, o_, o_, o_, o_, o_] [2] (fun _ _ => by kernel_rfl) trivial ?_
                refine TriL.nil (by kernel_rfl) (TriQ.next (Tri.ret ?_))
                exact TriQ.ret (v := .bool false) (l := []) (obl := []) [] [0] (fun _ => by kernel_rfl) trivial rfl (by kernel_rfl) (⟨congrArg Value.bool (decide_eq_false (by have hA : NoNul n.target := fun j hj => hall j (by omega); rw [nodeOk_iff]; grind [TargetOk])).symm, rfl⟩)
           ·
            refine TriL.segK (k' := 20) (fr' := [(1, .pointer (some ⟨b3, 0, none⟩)), (67, .bool false)]) (obl := []) [o_, o_, o_, o_, o_, o_] [1, 67] (fun _ _ => by kernel_rfl) trivial ?_
            refine TriL.nil (by kernel_rfl) (TriQ.next ?_)
            refine Tri.condF (fun _ => by kernel_rfl) ?_
            refine Tri.skip (TriQ.next (Tri.seq (Tri.seq (Tri.region ?_))))
            refine TriL.segK (k' := 3) (fr' := [(1, .pointer (some ⟨b3, 0, none⟩)), (70, .bool (!(decide ((n.kind : Int) = (3 : Int)))))]) (obl := [b3 = b3]) [o_, ⟨[.at 1], none, none, none, none⟩, o_] [1, 70] (fun _ _ => by kernel_rfl) ⟨rfl, trivial⟩ ?_
            refine TriL.nil (by kernel_rfl) (TriQ.next ?_)
            refine Tri.condN (p := (n.kind : Int) = (3 : Int)) (fun _ => by kernel_rfl) (fun h70 => ?_) (fun h70 => ?_)
            ·
             refine Tri.seq (Tri.region ?_)
             refine TriL.segK (k' := 4) (fr' := [(2, .bool (decide ((n.target : ByteArray) = ⟨#[]⟩)))]) (obl := [(Value.bool ((n.target : ByteArray).toList == (⟨#[]⟩ : ByteArray).toList)) = (.bool (decide ((n.target : ByteArray) = ⟨#[]⟩))), b3 = b3]) [o_, ⟨[.at 1], none, none, none, none⟩, ⟨[], none, none, none, some (.bool (decide ((n.target : ByteArray) = ⟨#[]⟩)))⟩, o_] [2] (fun _ _ => by kernel_rfl) ⟨strEqV _ _, rfl, trivial⟩ ?_
             refine TriL.nil (by kernel_rfl) (TriQ.next (Tri.ret (TriQ.passRet ?_)))
             exact TriQ.ret (v := .bool (decide ((n.target : ByteArray) = ⟨#[]⟩))) (l := []) (obl := []) [] [0] (fun _ => by kernel_rfl) trivial rfl (by kernel_rfl) (⟨congrArg Value.bool (decide_eq_decide.2 (by rw [nodeOk_iff]; grind [TargetOk])), rfl⟩)
            ·
             refine Tri.skip (TriQ.next (Tri.seq (Tri.seq (Tri.region ?_))))
             refine TriL.segK (k' := 1) (fr' := [(1, .pointer (some ⟨b3, 0, none⟩)), (3, .int .i64 0)]) (obl := []) [o_] [1, 3] (fun _ _ => by kernel_rfl) trivial ?_
             refine TriL.nil (by kernel_rfl) (TriQ.next (Tri.block ?_))
             refine Tri.loop (ι := Nat) (fun (i : Nat) => (i ≤ n.target.size) ∧ (∀ j, j < i → ¬ byteAt n.target j = 0)) (fun (i : Nat) => n.target.size - i) (fun (i : Nat) => [(1, .pointer (some ⟨b3, 0, none⟩)), (3, .int .i64 ↑i)]) (fun (i : Nat) => [.abs R, .blk b3 [.int .i64 (n.id), .int .i64 (n.kind), .int .i64 (n.mode), .int .i64 (n.uid), .int .i64 (n.gid), .int .i64 (n.sec), .int .i64 (n.nano), .slice dA (n.data.length) (dC), .string n.target, .slice eA (n.ents.length) (eC)] 32]) 0 (idx := [1, 3]) (pk := [0, 1]) (show (0 ≤ n.target.size) ∧ (∀ j, j < 0 → ¬ byteAt n.target j = 0) from ⟨Nat.zero_le _, fun j hj => absurd hj (Nat.not_lt_zero j)⟩) (fun _ => by kernel_rfl) rfl (by kernel_rfl) ?_
             rintro i ⟨hi, hall⟩
             show Tri _ _ _ _ [(1, .pointer (some ⟨b3, 0, none⟩)), (3, .int .i64 ↑i)] [.abs R, .blk b3 [.int .i64 (n.id), .int .i64 (n.kind), .int .i64 (n.mode), .int .i64 (n.uid), .int .i64 (n.gid), .int .i64 (n.sec), .int .i64 (n.nano), .slice dA (n.data.length) (dC), .string n.target, .slice eA (n.ents.length) (eC)] 32] _
             refine Tri.seq (Tri.seq (Tri.region ?_))
             refine TriL.segK (k' := 5) (fr' := [(1, .pointer (some ⟨b3, 0, none⟩)), (3, .int .i64 ↑i), (78, .bool (decide ((((i : Nat) : Int) : Int) < ((((n.target : ByteArray).size : Nat) : Int) : Int))))]) (obl := [b3 = b3]) [o_, o_, ⟨[.at 1], none, none, none, none⟩, o_, o_] [1, 3, 78] (fun _ _ => by kernel_rfl) ⟨rfl, trivial⟩ ?_
             refine TriL.nil (by kernel_rfl) (TriQ.next ?_)
             refine Tri.condP (p := (((i : Nat) : Int) : Int) < ((((n.target : ByteArray).size : Nat) : Int) : Int)) (fun _ => by kernel_rfl) (fun h78 => ?_) (fun h78 => ?_)
             ·
              refine Tri.skip (TriQ.next (Tri.seq (Tri.block (Tri.seq (Tri.region ?_)))))
              refine TriL.segK (k' := 5) (fr' := [(1, .pointer (some ⟨b3, 0, none⟩)), (3, .int .i64 ↑i), (85, .bool (decide ((((((n.target : ByteArray).data.getD (i) 0).toNat : Nat) : Int) : Int) = (0 : Int))))]) (obl := [((i : Nat) : Int) = ((i : Nat) : Int), i < (n.target : ByteArray).size, b3 = b3]) [o_, ⟨[.at 1], none, none, none, none⟩, o_, ⟨[], some i, none, none, none⟩, o_] [1, 3, 85] (fun _ _ => by kernel_rfl) ⟨rfl, by omega, rfl, trivial⟩ ?_
              refine TriL.nil (by kernel_rfl) (TriQ.next ?_)
              refine Tri.condP (p := (((((n.target : ByteArray).data.getD (i) 0).toNat : Nat) : Int) : Int) = (0 : Int)) (fun _ => by kernel_rfl) (fun h85 => ?_) (fun h85 => ?_)
              ·
               refine Tri.seq (Tri.region ?_)
               refine TriL.segK (k' := 1) (fr' := [(2, .bool false)]) (obl := []) [o_] [2] (fun _ _ => by kernel_rfl) trivial ?_
               refine TriL.nil (by kernel_rfl) (TriQ.next (Tri.ret (TriQ.blockRet (TriQ.passRet (TriQ.passRet (TriQ.blockRet (TriQ.passRet ?_)))))))
               exact TriQ.ret (v := .bool false) (l := []) (obl := []) [] [0] (fun _ => by kernel_rfl) trivial rfl (by kernel_rfl) (⟨congrArg Value.bool (decide_eq_false (by intro g; have := (TargetOk.sym g.target (by omega)).2.2 i (by omega); unfold byteAt at this; omega)).symm, rfl⟩)
              ·
               refine Tri.skip (TriQ.blockNormal (TriQ.next (Tri.region ?_)))
               refine TriL.segK (k' := 3) (fr' := [(1, .pointer (some ⟨b3, 0, none⟩)), (3, .int .i64 ↑(i + 1))]) (obl := [(Value.int .i64 (IntKind.wrap .i64 (((i : Nat) : Int) + 1))) = (.int .i64 ↑(i + 1))]) [o_, ⟨[], none, none, none, some (.int .i64 ↑(i + 1))⟩, o_] [1, 3] (fun _ _ => by kernel_rfl) ⟨wrapEq (by omega) (by omega) (by omega), trivial⟩ ?_
               refine TriL.nil (by kernel_rfl) ?_
               exact TriQ.turn ((i + 1)) (idx := [1, 3]) (pk := [0, 1]) (show (((i + 1)) ≤ n.target.size) ∧ (∀ j, j < ((i + 1)) → ¬ byteAt n.target j = 0) from ⟨by omega, fun j hj => by rcases Nat.lt_succ_iff_lt_or_eq.1 hj with h | h; exact hall j h; subst h; unfold byteAt; omega⟩) (by show n.target.size - ((i + 1)) < n.target.size - i; omega) (fun _ => by kernel_rfl) rfl (by kernel_rfl)
             ·
              refine Tri.exit (TriQ.passExit (TriQ.passExit (TriQ.blockHit (TriQ.next (Tri.seq (Tri.region ?_))))))
              refine TriL.segK (k' := 5) (fr' := [(1, .pointer (some ⟨b3, 0, none⟩)), (90, .bool (decide (((((n.target : ByteArray).size : Nat) : Int) : Int) ≥ (1 : Int))))]) (obl := [b3 = b3]) [o_, ⟨[.at 1], none, none, none, none⟩, o_, o_, o_] [1, 90] (fun _ _ => by kernel_rfl) ⟨rfl, trivial⟩ ?_
              refine TriL.slotP 90 (((((n.target : ByteArray).size : Nat) : Int) : Int) ≥ (1 : Int)) (fun _ => by kernel_rfl) (fun h90 => ?_) (fun h90 => ?_)
              ·
               refine TriL.segK (k' := 11) (fr' := [(2, .bool (decide (((((n.target : ByteArray).size : Nat) : Int) : Int) ≤ (4096 : Int))))]) (obl := [b3 = b3]) [o_, ⟨[.at 1], none, none, none, none⟩, o_, o_, o_, o_] [2] (fun _ _ => by kernel_rfl) ⟨rfl, trivial⟩ ?_
               refine TriL.nil (by kernel_rfl) (TriQ.next (Tri.ret ?_))
               exact TriQ.ret (v := .bool (decide (((((n.target : ByteArray).size : Nat) : Int) : Int) ≤ (4096 : Int)))) (l := []) (obl := []) [] [0] (fun _ => by kernel_rfl) trivial rfl (by kernel_rfl) (⟨congrArg Value.bool (decide_eq_decide.2 (by have hA : NoNul n.target := fun j hj => hall j (by omega); rw [nodeOk_iff]; grind [TargetOk])), rfl⟩)
              ·
               refine TriL.segK (k' := 11) (fr' := [(2, .bool false)]) (obl := []) [o_, o_, o_, o_, o_, o_] [2] (fun _ _ => by kernel_rfl) trivial ?_
               refine TriL.nil (by kernel_rfl) (TriQ.next (Tri.ret ?_))
               exact TriQ.ret (v := .bool false) (l := []) (obl := []) [] [0] (fun _ => by kernel_rfl) trivial rfl (by kernel_rfl) (⟨congrArg Value.bool (decide_eq_false (by have hA : NoNul n.target := fun j hj => hall j (by omega); rw [nodeOk_iff]; grind [TargetOk])).symm, rfl⟩)
set_option maxRecDepth 100000 in
set_option maxHeartbeats 4000000 in
theorem sp_at {β : Bs} (A : Option Addr) (c : Nat) (ns : List NodeM) (L : Lay) (hG : GraphAt β A ns L) (hr : Rising ns) (hl : ns.length ≤ 1048576) (id : Int) :
    Spec Try.prog β 29 #[.agg #[.slice A ns.length c], .int .i64 id] [] (fun v l => v = .int .i64 (atI ns id) ∧ l = []) := by
 refine Spec.enter Try.func29 rfl Try.ntmps29 (Nat.le_of_ble_eq_true rfl) (fun R => ?_)
 refine Tri.seq (Tri.region ?_)
 refine TriL.segN (k' := 2) (fr' := fun b4 => [(1, .int .i64 (id)), (2, .pointer (some ⟨b4, 0, none⟩))]) (hps' := fun b4 => [.abs R, .blk b4 [.slice A (ns.length) (c)] 24]) (obl := fun b4 => []) [o_, o_] [1, 2] [0, 1] (fun _ _ => by kernel_rfl) (fun b4 => trivial) (fun b4 => ?_)
 refine TriL.nil (by kernel_rfl) (TriQ.next (Tri.seq (Tri.region ?_)))
 refine TriL.segK (k' := 1) (fr' := [(1, .int .i64 (id)), (2, .pointer (some ⟨b4, 0, none⟩)), (5, .int .i64 0)]) (obl := []) [o_] [1, 2, 5] (fun _ _ => by kernel_rfl) trivial ?_
 refine TriL.nil (by kernel_rfl) (TriQ.next (Tri.seq (Tri.region ?_)))
 refine TriL.segK (k' := 4) (fr' := [(1, .int .i64 (id)), (2, .pointer (some ⟨b4, 0, none⟩)), (5, .int .i64 0), (6, .int .i64 ↑ns.length)]) (obl := [b4 = b4]) [o_, ⟨[.at 1], none, none, none, none⟩, o_, o_] [1, 2, 5, 6] (fun _ _ => by kernel_rfl) ⟨rfl, trivial⟩ ?_
 refine TriL.nil (by kernel_rfl) (TriQ.next (Tri.seq (Tri.block ?_)))
 refine Tri.loop (ι := Nat × Nat) (fun ((lo, hi) : Nat × Nat) => (lo ≤ hi) ∧ (hi ≤ ns.length) ∧ (∀ j, j < lo → (nd ns j).id < id) ∧ (∀ j, hi ≤ j → j < ns.length → id ≤ (nd ns j).id)) (fun ((lo, hi) : Nat × Nat) => hi - lo) (fun ((lo, hi) : Nat × Nat) => [(1, .int .i64 (id)), (2, .pointer (some ⟨b4, 0, none⟩)), (5, .int .i64 ↑lo), (6, .int .i64 ↑hi)]) (fun ((lo, hi) : Nat × Nat) => [.abs R, .blk b4 [.slice A (ns.length) (c)] 24]) (0, ns.length) (idx := [1, 2, 5, 6]) (pk := [0, 1]) (show (0 ≤ ns.length) ∧ (ns.length ≤ ns.length) ∧ (∀ j, j < 0 → (nd ns j).id < id) ∧ (∀ j, ns.length ≤ j → j < ns.length → id ≤ (nd ns j).id) from ⟨Nat.zero_le _, Nat.le_refl _, fun j hj => absurd hj (Nat.not_lt_zero j), fun j h1 h2 => absurd h2 (Nat.not_lt.2 h1)⟩) (fun _ => by kernel_rfl) rfl (by kernel_rfl) ?_
 rintro ⟨lo, hi⟩ ⟨hlh, hhi, ha, hb⟩
 show Tri _ _ _ _ [(1, .int .i64 (id)), (2, .pointer (some ⟨b4, 0, none⟩)), (5, .int .i64 ↑lo), (6, .int .i64 ↑hi)] [.abs R, .blk b4 [.slice A (ns.length) (c)] 24] _
 refine Tri.seq (Tri.seq (Tri.region ?_))
 refine TriL.segK (k' := 3) (fr' := [(1, .int .i64 (id)), (2, .pointer (some ⟨b4, 0, none⟩)), (5, .int .i64 ↑lo), (6, .int .i64 ↑hi), (13, .bool (decide ((((lo : Nat) : Int) : Int) < (((hi : Nat) : Int) : Int))))]) (obl := []) [o_, o_, o_] [1, 2, 5, 6, 13] (fun _ _ => by kernel_rfl) trivial ?_
 refine TriL.nil (by kernel_rfl) (TriQ.next ?_)
 refine Tri.condP (p := (((lo : Nat) : Int) : Int) < (((hi : Nat) : Int) : Int)) (fun _ => by kernel_rfl) (fun h13 => ?_) (fun h13 => ?_)
 ·
  refine Tri.skip (TriQ.next (Tri.block (Tri.seq (Tri.region ?_))))
  refine TriL.segK (k' := 7) (fr' := [(1, .int .i64 (id)), (2, .pointer (some ⟨b4, 0, none⟩)), (5, .int .i64 ↑lo), (6, .int .i64 ↑hi), (7, .int .i64 ↑(lo + ((hi - lo) / 2)))]) (obl := [(Value.int .i64 (IntKind.wrap .i64 (((lo : Nat) : Int) + (((hi - lo) / 2 : Nat) : Int)))) = (.int .i64 ↑(lo + ((hi - lo) / 2))), (Value.int .i64 (IntKind.wrap .i64 (Int.tdiv (((hi - lo) : Nat) : Int) 2))) = (.int .i64 ↑((hi - lo) / 2)), (Value.int .i64 (IntKind.wrap .i64 (((hi : Nat) : Int) - ((lo : Nat) : Int)))) = (.int .i64 ↑(hi - lo))]) [o_, o_, o_, ⟨[], none, none, none, some (.int .i64 ↑(hi - lo))⟩, ⟨[], none, none, none, some (.int .i64 ↑((hi - lo) / 2))⟩, ⟨[], none, none, none, some (.int .i64 ↑(lo + ((hi - lo) / 2)))⟩, o_] [1, 2, 5, 6, 7] (fun _ _ => by kernel_rfl) ⟨wrapEq (by omega) (by omega) (by omega), wrapEq (Int.ofNat_tdiv _ _).symm (by omega) (by omega), wrapEq (by omega) (by omega) (by omega), trivial⟩ ?_
  refine TriL.nil (by kernel_rfl) (TriQ.next (Tri.seq (Tri.region ?_)))
  refine TriL.segK (k' := 8) (fr' := [(1, .int .i64 (id)), (2, .pointer (some ⟨b4, 0, none⟩)), (5, .int .i64 ↑lo), (6, .int .i64 ↑hi), (7, .int .i64 ↑(lo + ((hi - lo) / 2))), (27, .bool (decide (((nd ns (lo + ((hi - lo) / 2))).id : Int) < (id : Int))))]) (obl := [(Rd β ⟨(blkOf A), offOf A + (lo + ((hi - lo) / 2)) * 10, none⟩ (.int .i64 ((nd ns (lo + ((hi - lo) / 2))).id))), ((lo + ((hi - lo) / 2) : Nat) : Int) = ((lo + ((hi - lo) / 2) : Nat) : Int), lo + ((hi - lo) / 2) < ns.length, (⟨(blkOf A), offOf A, none⟩ : Addr).spot = none, (A : Option Addr) = some ⟨(blkOf A), offOf A, none⟩, b4 = b4]) [o_, ⟨[.at 1], none, none, none, none⟩, o_, ⟨[], some (lo + ((hi - lo) / 2)), none, some ⟨(blkOf A), offOf A, none⟩, none⟩, o_, ⟨[.old (.int .i64 ((nd ns (lo + ((hi - lo) / 2))).id))], none, none, none, none⟩, o_, o_] [1, 2, 5, 6, 7, 27] (fun _ _ => by kernel_rfl) ⟨GraphAt.rd hG (i := lo + ((hi - lo) / 2)) (by omega) (j := 0) rfl, rfl, by omega, rfl, GraphAt.hd hG (i := lo + ((hi - lo) / 2)) (by omega), rfl, trivial⟩ ?_
  refine TriL.nil (by kernel_rfl) (TriQ.next ?_)
  refine Tri.condP (p := ((nd ns (lo + ((hi - lo) / 2))).id : Int) < (id : Int)) (fun _ => by kernel_rfl) (fun h27 => ?_) (fun h27 => ?_)
  ·
   refine Tri.region ?_
   refine TriL.segK (k' := 3) (fr' := [(1, .int .i64 (id)), (2, .pointer (some ⟨b4, 0, none⟩)), (5, .int .i64 ↑((lo + ((hi - lo) / 2)) + 1)), (6, .int .i64 ↑hi)]) (obl := [(Value.int .i64 (IntKind.wrap .i64 (((lo + ((hi - lo) / 2) : Nat) : Int) + 1))) = (.int .i64 ↑((lo + ((hi - lo) / 2)) + 1))]) [o_, ⟨[], none, none, none, some (.int .i64 ↑((lo + ((hi - lo) / 2)) + 1))⟩, o_] [1, 2, 5, 6] (fun _ _ => by kernel_rfl) ⟨wrapEq (by omega) (by omega) (by omega), trivial⟩ ?_
   refine TriL.nil (by kernel_rfl) (TriQ.blockNormal ?_)
   exact TriQ.turn (((lo + (hi - lo) / 2) + 1), hi) (idx := [1, 2, 5, 6]) (pk := [0, 1]) (show ((((lo + (hi - lo) / 2) + 1)) ≤ hi) ∧ (hi ≤ ns.length) ∧ (∀ j, j < (((lo + (hi - lo) / 2) + 1)) → (nd ns j).id < id) ∧ (∀ j, hi ≤ j → j < ns.length → id ≤ (nd ns j).id) from ⟨by omega, by omega, fun j hj => by have := hr.le (show j ≤ (lo + (hi - lo) / 2) by omega) (by omega); omega, hb⟩) (by show hi - (((lo + (hi - lo) / 2) + 1)) < hi - lo; omega) (fun _ => by kernel_rfl) rfl (by kernel_rfl)
  ·
   refine Tri.region ?_
   refine TriL.segK (k' := 2) (fr' := [(1, .int .i64 (id)), (2, .pointer (some ⟨b4, 0, none⟩)), (5, .int .i64 ↑lo), (6, .int .i64 ↑(lo + ((hi - lo) / 2)))]) (obl := []) [o_, o_] [1, 2, 5, 6] (fun _ _ => by kernel_rfl) trivial ?_
   refine TriL.nil (by kernel_rfl) (TriQ.blockNormal ?_)
   exact TriQ.turn (lo, (lo + (hi - lo) / 2)) (idx := [1, 2, 5, 6]) (pk := [0, 1]) (show (lo ≤ ((lo + (hi - lo) / 2))) ∧ (((lo + (hi - lo) / 2)) ≤ ns.length) ∧ (∀ j, j < lo → (nd ns j).id < id) ∧ (∀ j, ((lo + (hi - lo) / 2)) ≤ j → j < ns.length → id ≤ (nd ns j).id) from ⟨by omega, by omega, ha, fun j hj hj2 => by have := hr.le hj hj2; omega⟩) (by show ((lo + (hi - lo) / 2)) - lo < hi - lo; omega) (fun _ => by kernel_rfl) rfl (by kernel_rfl)
 ·
  refine Tri.exit (TriQ.passExit (TriQ.passExit (TriQ.blockHit (TriQ.next (Tri.seq (Tri.seq (Tri.region ?_)))))))
  refine TriL.segK (k' := 6) (fr' := [(1, .int .i64 (id)), (2, .pointer (some ⟨b4, 0, none⟩)), (5, .int .i64 ↑lo), (36, .bool (decide ((((lo : Nat) : Int) : Int) < (((ns.length : Nat) : Int) : Int))))]) (obl := [b4 = b4]) [o_, o_, ⟨[.at 1], none, none, none, none⟩, o_, o_, o_] [1, 2, 5, 36] (fun _ _ => by kernel_rfl) ⟨rfl, trivial⟩ ?_
  refine TriL.slotP 36 ((((lo : Nat) : Int) : Int) < (((ns.length : Nat) : Int) : Int)) (fun _ => by kernel_rfl) (fun h36 => ?_) (fun h36 => ?_)
  ·
   refine TriL.segK (k' := 15) (fr' := [(5, .int .i64 ↑lo), (45, .bool (decide (((nd ns lo).id : Int) = (id : Int))))]) (obl := [(Rd β ⟨(blkOf A), offOf A + lo * 10, none⟩ (.int .i64 ((nd ns lo).id))), ((lo : Nat) : Int) = ((lo : Nat) : Int), lo < ns.length, (⟨(blkOf A), offOf A, none⟩ : Addr).spot = none, (A : Option Addr) = some ⟨(blkOf A), offOf A, none⟩, b4 = b4]) [o_, ⟨[.at 1], none, none, none, none⟩, o_, ⟨[], some lo, none, some ⟨(blkOf A), offOf A, none⟩, none⟩, o_, ⟨[.old (.int .i64 ((nd ns lo).id))], none, none, none, none⟩, o_, o_, o_] [5, 45] (fun _ _ => by kernel_rfl) ⟨GraphAt.rd hG (i := lo) (by omega) (j := 0) rfl, rfl, by omega, rfl, GraphAt.hd hG (i := lo) (by omega), rfl, trivial⟩ ?_
   refine TriL.nil (by kernel_rfl) (TriQ.next ?_)
   refine Tri.condP (p := ((nd ns lo).id : Int) = (id : Int)) (fun _ => by kernel_rfl) (fun h45 => ?_) (fun h45 => ?_)
   ·
    refine Tri.seq (Tri.region ?_)
    refine TriL.segK (k' := 2) (fr' := [(4, .int .i64 ↑lo)]) (obl := []) [o_, o_] [4] (fun _ _ => by kernel_rfl) trivial ?_
    refine TriL.nil (by kernel_rfl) (TriQ.next (Tri.ret (TriQ.passRet ?_)))
    exact TriQ.ret (v := .int .i64 ↑lo) (l := []) (obl := []) [] [0] (fun _ => by kernel_rfl) trivial rfl (by kernel_rfl) (⟨congrArg (Value.int .i64) (atI_some hr (by omega) h45).symm, rfl⟩)
   ·
    refine Tri.skip (TriQ.next (Tri.seq (Tri.region ?_)))
    refine TriL.segK (k' := 1) (fr' := [(4, .int .i64 (-1))]) (obl := []) [o_] [4] (fun _ _ => by kernel_rfl) trivial ?_
    refine TriL.nil (by kernel_rfl) (TriQ.next (Tri.ret ?_))
    exact TriQ.ret (v := .int .i64 (-1)) (l := []) (obl := []) [] [0] (fun _ => by kernel_rfl) trivial rfl (by kernel_rfl) (⟨congrArg (Value.int .i64) (atI_none (fun j hj e => by rcases Nat.lt_trichotomy j lo with h | h | h; have := ha j h; omega; subst h; omega; have := hr lo j h hj; have := hb lo (by omega) (by omega); omega)).symm, rfl⟩)
  ·
   refine TriL.segK (k' := 15) (fr' := [(5, .int .i64 ↑lo), (45, .bool false)]) (obl := []) [o_, o_, o_, o_, o_, o_, o_, o_, o_] [5, 45] (fun _ _ => by kernel_rfl) trivial ?_
   refine TriL.nil (by kernel_rfl) (TriQ.next ?_)
   refine Tri.condF (fun _ => by kernel_rfl) ?_
   refine Tri.skip (TriQ.next (Tri.seq (Tri.region ?_)))
   refine TriL.segK (k' := 1) (fr' := [(4, .int .i64 (-1))]) (obl := []) [o_] [4] (fun _ _ => by kernel_rfl) trivial ?_
   refine TriL.nil (by kernel_rfl) (TriQ.next (Tri.ret ?_))
   exact TriQ.ret (v := .int .i64 (-1)) (l := []) (obl := []) [] [0] (fun _ => by kernel_rfl) trivial rfl (by kernel_rfl) (⟨congrArg (Value.int .i64) (atI_none (fun j hj e => by rcases Nat.lt_trichotomy j lo with h | h | h; have := ha j h; omega; subst h; omega; have := hr lo j h hj; have := hb lo (by omega) (by omega); omega)).symm, rfl⟩)
set_option maxRecDepth 100000 in
set_option maxHeartbeats 4000000 in
theorem sp_text {β : Bs} (A : Option Addr) (ns : List NodeM) (L : Lay) (hG : GraphAt β A ns L) (i : Nat) (hi : i < ns.length) :
    Spec Try.prog β 71 #[.pointer (some ⟨(blkOf A), offOf A + i * 10, none⟩)] [] (fun v l => v = .bool (decide (TargetOk (nd ns i).kind (nd ns i).target)) ∧ l = []) := by
 refine Spec.enter Try.func71 rfl Try.ntmps71 (Nat.le_of_ble_eq_true rfl) (fun R => ?_)
 refine Tri.seq (Tri.region ?_)
 refine TriL.segK (k' := 1) (fr' := [(0, .pointer (some ⟨(blkOf A), offOf A + i * 10, none⟩))]) (obl := []) [o_] [0] (fun _ _ => by kernel_rfl) trivial ?_
 refine TriL.nil (by kernel_rfl) (TriQ.next (Tri.seq (Tri.seq (Tri.region ?_))))
 refine TriL.segK (k' := 5) (fr' := [(0, .pointer (some ⟨(blkOf A), offOf A + i * 10, none⟩)), (7, .bool (!(decide (((nd ns i).kind : Int) = (3 : Int)))))]) (obl := [(Rd β ⟨(blkOf A), offOf A + i * 10 + 1, none⟩ (.int .i64 ((nd ns i).kind)))]) [o_, o_, o_, ⟨[.old (.int .i64 ((nd ns i).kind))], none, none, none, none⟩, o_] [0, 7] (fun _ _ => by kernel_rfl) ⟨GraphAt.rd hG (i := i) (by omega) (j := 1) rfl, trivial⟩ ?_
 refine TriL.nil (by kernel_rfl) (TriQ.next ?_)
 refine Tri.condN (p := ((nd ns i).kind : Int) = (3 : Int)) (fun _ => by kernel_rfl) (fun h7 => ?_) (fun h7 => ?_)
 ·
  refine Tri.seq (Tri.region ?_)
  refine TriL.segK (k' := 6) (fr' := [(2, .bool (decide (((nd ns i).target : ByteArray) = ⟨#[]⟩)))]) (obl := [(Value.bool (((nd ns i).target : ByteArray).toList == (⟨#[]⟩ : ByteArray).toList)) = (.bool (decide (((nd ns i).target : ByteArray) = ⟨#[]⟩))), (Rd β ⟨(blkOf A), offOf A + i * 10 + 8, none⟩ (.string (nd ns i).target))]) [o_, o_, o_, ⟨[.old (.string (nd ns i).target)], none, none, none, none⟩, ⟨[], none, none, none, some (.bool (decide (((nd ns i).target : ByteArray) = ⟨#[]⟩)))⟩, o_] [2] (fun _ _ => by kernel_rfl) ⟨strEqV _ _, GraphAt.rd hG (i := i) (by omega) (j := 8) rfl, trivial⟩ ?_
  refine TriL.nil (by kernel_rfl) (TriQ.next (Tri.ret (TriQ.passRet ?_)))
  exact TriQ.ret (v := .bool (decide (((nd ns i).target : ByteArray) = ⟨#[]⟩))) (l := []) (obl := []) [] [0] (fun _ => by kernel_rfl) trivial rfl (by kernel_rfl) (⟨congrArg Value.bool (decide_eq_decide.2 (by have h0 := size0 (s := (nd ns i).target); grind [TargetOk])), rfl⟩)
 ·
  refine Tri.skip (TriQ.next (Tri.seq (Tri.region ?_)))
  refine TriL.segK (k' := 6) (fr' := [(0, .pointer (some ⟨(blkOf A), offOf A + i * 10, none⟩)), (18, .bool (!(decide (((nd ns i).target : ByteArray) = ⟨#[]⟩))))]) (obl := [(Value.bool (!(((nd ns i).target : ByteArray).toList == (⟨#[]⟩ : ByteArray).toList))) = (.bool (!(decide (((nd ns i).target : ByteArray) = ⟨#[]⟩)))), (Rd β ⟨(blkOf A), offOf A + i * 10 + 8, none⟩ (.string (nd ns i).target))]) [o_, o_, o_, ⟨[.old (.string (nd ns i).target)], none, none, none, none⟩, ⟨[], none, none, none, some (.bool (!(decide (((nd ns i).target : ByteArray) = ⟨#[]⟩))))⟩, o_] [0, 18] (fun _ _ => by kernel_rfl) ⟨strNeV _ _, GraphAt.rd hG (i := i) (by omega) (j := 8) rfl, trivial⟩ ?_
  refine TriL.slotN 18 (((nd ns i).target : ByteArray) = ⟨#[]⟩) (fun _ => by kernel_rfl) (fun h18 => ?_) (fun h18 => ?_)
  ·
   refine TriL.segK (k' := 14) (fr' := [(0, .pointer (some ⟨(blkOf A), offOf A + i * 10, none⟩)), (26, .bool (decide ((((((nd ns i).target : ByteArray).size : Nat) : Int) : Int) ≤ (4096 : Int))))]) (obl := [(Rd β ⟨(blkOf A), offOf A + i * 10 + 8, none⟩ (.string (nd ns i).target))]) [o_, o_, o_, ⟨[.old (.string (nd ns i).target)], none, none, none, none⟩, o_, o_, o_, o_] [0, 26] (fun _ _ => by kernel_rfl) ⟨GraphAt.rd hG (i := i) (by omega) (j := 8) rfl, trivial⟩ ?_
   refine TriL.slotP 26 ((((((nd ns i).target : ByteArray).size : Nat) : Int) : Int) ≤ (4096 : Int)) (fun _ => by kernel_rfl) (fun h26 => ?_) (fun h26 => ?_)
   ·
    refine TriL.segK (k' := 18) (fr' := [(26, .bool true), (30, .string (nd ns i).target)]) (obl := [(Rd β ⟨(blkOf A), offOf A + i * 10 + 8, none⟩ (.string (nd ns i).target))]) [o_, o_, o_, ⟨[.old (.string (nd ns i).target)], none, none, none, none⟩] [26, 30] (fun _ _ => by kernel_rfl) ⟨GraphAt.rd hG (i := i) (by omega) (j := 8) rfl, trivial⟩ ?_
    refine TriL.call (f := 77) (args := #[.string (nd ns i).target, .int .u8 0]) (d := (some 31)) (pre := []) (R := [.abs R]) (pk := [0]) (fun _ => by kernel_rfl) (Spec.quiet (fun w => Try.strings_IndexByte (nd ns i).target 0 w)) rfl (by kernel_rfl) ?_
    rintro _ _ ⟨rfl, rfl⟩
    refine TriL.segK (k' := 22) (fr' := [(2, .bool (decide ((Lib.indexByte (nd ns i).target.data.toList (0 : Int).toNat.toUInt8 : Int) < (0 : Int))))]) (obl := []) [o_, o_, o_] [2] (fun _ _ => by kernel_rfl) trivial ?_
    refine TriL.nil (by kernel_rfl) (TriQ.next (Tri.ret ?_))
    exact TriQ.ret (v := .bool (decide ((Lib.indexByte (nd ns i).target.data.toList (0 : Int).toNat.toUInt8 : Int) < (0 : Int)))) (l := []) (obl := []) [] [0] (fun _ => by kernel_rfl) trivial rfl (by kernel_rfl) (⟨congrArg Value.bool (decide_eq_decide.2 (by have h0 := size0 (s := (nd ns i).target); rw [indexByte_lt]; grind [TargetOk])), rfl⟩)
   ·
    refine TriL.segK (k' := 22) (fr' := [(2, .bool false)]) (obl := []) [o_, o_, o_, o_, o_, o_, o_, o_] [2] (fun _ _ => by kernel_rfl) trivial ?_
    refine TriL.nil (by kernel_rfl) (TriQ.next (Tri.ret ?_))
    exact TriQ.ret (v := .bool false) (l := []) (obl := []) [] [0] (fun _ => by kernel_rfl) trivial rfl (by kernel_rfl) (⟨congrArg Value.bool (decide_eq_false (by have h0 := size0 (s := (nd ns i).target); grind [TargetOk])).symm, rfl⟩)
  ·
   refine TriL.segK (k' := 22) (fr' := [(2, .bool false)]) (obl := []) [o_, o_, o_, o_, o_, o_, o_, o_, o_, o_, o_, o_, o_, o_, o_, o_] [2] (fun _ _ => by kernel_rfl) trivial ?_
   refine TriL.nil (by kernel_rfl) (TriQ.next (Tri.ret ?_))
   exact TriQ.ret (v := .bool false) (l := []) (obl := []) [] [0] (fun _ => by kernel_rfl) trivial rfl (by kernel_rfl) (⟨congrArg Value.bool (decide_eq_false (by have h0 := size0 (s := (nd ns i).target); grind [TargetOk])).symm, rfl⟩)
set_option maxRecDepth 100000 in
set_option maxHeartbeats 4000000 in
theorem sp_sound {β : Bs} (A : Option Addr) (ns : List NodeM) (L : Lay) (hG : GraphAt β A ns L) (i : Nat) (hi : i < ns.length) :
    Spec Try.prog β 58 #[.pointer (some ⟨(blkOf A), offOf A + i * 10, none⟩)] [] (fun v l => v = .bool (decide (NodeOk (nd ns i))) ∧ l = []) := by
 refine Spec.enter Try.func58 rfl Try.ntmps58 (Nat.le_of_ble_eq_true rfl) (fun R => ?_)
 refine Tri.seq (Tri.region ?_)
 refine TriL.segK (k' := 1) (fr' := [(0, .pointer (some ⟨(blkOf A), offOf A + i * 10, none⟩))]) (obl := []) [o_] [0] (fun _ _ => by kernel_rfl) trivial ?_
 refine TriL.nil (by kernel_rfl) (TriQ.next (Tri.seq (Tri.seq (Tri.region ?_))))
 refine TriL.segK (k' := 4) (fr' := [(0, .pointer (some ⟨(blkOf A), offOf A + i * 10, none⟩)), (6, .int .i64 ((nd ns i).kind))]) (obl := [(Rd β ⟨(blkOf A), offOf A + i * 10 + 1, none⟩ (.int .i64 ((nd ns i).kind)))]) [o_, o_, o_, ⟨[.old (.int .i64 ((nd ns i).kind))], none, none, none, none⟩] [0, 6] (fun _ _ => by kernel_rfl) ⟨GraphAt.rd hG (i := i) (by omega) (j := 1) rfl, trivial⟩ ?_
 refine TriL.call (f := 69) (args := #[.int .i64 ((nd ns i).kind), .int .i64 1, .int .i64 3]) (d := (some 7)) (pre := []) (R := [.abs R]) (pk := [0]) (fun _ => by kernel_rfl) (sp_within ((nd ns i).kind) 1 3) rfl (by kernel_rfl) ?_
 rintro _ _ ⟨rfl, rfl⟩
 refine TriL.segK (k' := 7) (fr' := [(0, .pointer (some ⟨(blkOf A), offOf A + i * 10, none⟩)), (9, .bool (!(decide (Within ((nd ns i).kind) 1 3))))]) (obl := []) [o_, o_] [0, 9] (fun _ _ => by kernel_rfl) trivial ?_
 refine TriL.slotN 9 (Within ((nd ns i).kind) 1 3) (fun _ => by kernel_rfl) (fun h9 => ?_) (fun h9 => ?_)
 ·
  refine TriL.segK (k' := 30) (fr' := [(0, .pointer (some ⟨(blkOf A), offOf A + i * 10, none⟩)), (32, .bool true)]) (obl := []) [o_, o_, o_, o_, o_, o_, o_, o_, o_, o_, o_, o_, o_, o_, o_, o_, o_, o_, o_, o_, o_, o_, o_] [0, 32] (fun _ _ => by kernel_rfl) trivial ?_
  refine TriL.nil (by kernel_rfl) (TriQ.next ?_)
  refine Tri.condT (fun _ => by kernel_rfl) ?_
  refine Tri.seq (Tri.region ?_)
  refine TriL.segK (k' := 1) (fr' := [(2, .bool false)]) (obl := []) [o_] [2] (fun _ _ => by kernel_rfl) trivial ?_
  refine TriL.nil (by kernel_rfl) (TriQ.next (Tri.ret (TriQ.passRet ?_)))
  exact TriQ.ret (v := .bool false) (l := []) (obl := []) [] [0] (fun _ => by kernel_rfl) trivial rfl (by kernel_rfl) (⟨congrArg Value.bool (decide_eq_false (by rw [nodeOk_iff]; unfold Within at *; grind)).symm, rfl⟩)
 ·
  refine TriL.segK (k' := 11) (fr' := [(0, .pointer (some ⟨(blkOf A), offOf A + i * 10, none⟩)), (9, .bool false), (13, .int .i64 ((nd ns i).mode))]) (obl := [(Rd β ⟨(blkOf A), offOf A + i * 10 + 2, none⟩ (.int .i64 ((nd ns i).mode)))]) [o_, o_, o_, ⟨[.old (.int .i64 ((nd ns i).mode))], none, none, none, none⟩] [0, 9, 13] (fun _ _ => by kernel_rfl) ⟨GraphAt.rd hG (i := i) (by omega) (j := 2) rfl, trivial⟩ ?_
  refine TriL.call (f := 69) (args := #[.int .i64 ((nd ns i).mode), .int .i64 0, .int .i64 4095]) (d := (some 14)) (pre := []) (R := [.abs R]) (pk := [0]) (fun _ => by kernel_rfl) (sp_within ((nd ns i).mode) 0 4095) rfl (by kernel_rfl) ?_
  rintro _ _ ⟨rfl, rfl⟩
  refine TriL.segK (k' := 15) (fr' := [(0, .pointer (some ⟨(blkOf A), offOf A + i * 10, none⟩)), (17, .bool (!(decide (Within ((nd ns i).mode) 0 4095))))]) (obl := []) [o_, o_, o_] [0, 17] (fun _ _ => by kernel_rfl) trivial ?_
  refine TriL.slotN 17 (Within ((nd ns i).mode) 0 4095) (fun _ => by kernel_rfl) (fun h17 => ?_) (fun h17 => ?_)
  ·
   refine TriL.segK (k' := 30) (fr' := [(0, .pointer (some ⟨(blkOf A), offOf A + i * 10, none⟩)), (32, .bool true)]) (obl := []) [o_, o_, o_, o_, o_, o_, o_, o_, o_, o_, o_, o_, o_, o_, o_] [0, 32] (fun _ _ => by kernel_rfl) trivial ?_
   refine TriL.nil (by kernel_rfl) (TriQ.next ?_)
   refine Tri.condT (fun _ => by kernel_rfl) ?_
   refine Tri.seq (Tri.region ?_)
   refine TriL.segK (k' := 1) (fr' := [(2, .bool false)]) (obl := []) [o_] [2] (fun _ _ => by kernel_rfl) trivial ?_
   refine TriL.nil (by kernel_rfl) (TriQ.next (Tri.ret (TriQ.passRet ?_)))
   exact TriQ.ret (v := .bool false) (l := []) (obl := []) [] [0] (fun _ => by kernel_rfl) trivial rfl (by kernel_rfl) (⟨congrArg Value.bool (decide_eq_false (by rw [nodeOk_iff]; unfold Within at *; grind)).symm, rfl⟩)
  ·
   refine TriL.segK (k' := 19) (fr' := [(0, .pointer (some ⟨(blkOf A), offOf A + i * 10, none⟩)), (17, .bool false), (21, .int .i64 ((nd ns i).uid))]) (obl := [(Rd β ⟨(blkOf A), offOf A + i * 10 + 3, none⟩ (.int .i64 ((nd ns i).uid)))]) [o_, o_, o_, ⟨[.old (.int .i64 ((nd ns i).uid))], none, none, none, none⟩] [0, 17, 21] (fun _ _ => by kernel_rfl) ⟨GraphAt.rd hG (i := i) (by omega) (j := 3) rfl, trivial⟩ ?_
   refine TriL.call (f := 69) (args := #[.int .i64 ((nd ns i).uid), .int .i64 0, .int .i64 2147483647]) (d := (some 22)) (pre := []) (R := [.abs R]) (pk := [0]) (fun _ => by kernel_rfl) (sp_within ((nd ns i).uid) 0 2147483647) rfl (by kernel_rfl) ?_
   rintro _ _ ⟨rfl, rfl⟩
   refine TriL.segK (k' := 23) (fr' := [(0, .pointer (some ⟨(blkOf A), offOf A + i * 10, none⟩)), (25, .bool (!(decide (Within ((nd ns i).uid) 0 2147483647))))]) (obl := []) [o_, o_, o_] [0, 25] (fun _ _ => by kernel_rfl) trivial ?_
   refine TriL.slotN 25 (Within ((nd ns i).uid) 0 2147483647) (fun _ => by kernel_rfl) (fun h25 => ?_) (fun h25 => ?_)
   ·
    refine TriL.segK (k' := 30) (fr' := [(0, .pointer (some ⟨(blkOf A), offOf A + i * 10, none⟩)), (32, .bool true)]) (obl := []) [o_, o_, o_, o_, o_, o_, o_] [0, 32] (fun _ _ => by kernel_rfl) trivial ?_
    refine TriL.nil (by kernel_rfl) (TriQ.next ?_)
    refine Tri.condT (fun _ => by kernel_rfl) ?_
    refine Tri.seq (Tri.region ?_)
    refine TriL.segK (k' := 1) (fr' := [(2, .bool false)]) (obl := []) [o_] [2] (fun _ _ => by kernel_rfl) trivial ?_
    refine TriL.nil (by kernel_rfl) (TriQ.next (Tri.ret (TriQ.passRet ?_)))
    exact TriQ.ret (v := .bool false) (l := []) (obl := []) [] [0] (fun _ => by kernel_rfl) trivial rfl (by kernel_rfl) (⟨congrArg Value.bool (decide_eq_false (by rw [nodeOk_iff]; unfold Within at *; grind)).symm, rfl⟩)
   ·
    refine TriL.segK (k' := 27) (fr' := [(0, .pointer (some ⟨(blkOf A), offOf A + i * 10, none⟩)), (25, .bool false), (29, .int .i64 ((nd ns i).gid))]) (obl := [(Rd β ⟨(blkOf A), offOf A + i * 10 + 4, none⟩ (.int .i64 ((nd ns i).gid)))]) [o_, o_, o_, ⟨[.old (.int .i64 ((nd ns i).gid))], none, none, none, none⟩] [0, 25, 29] (fun _ _ => by kernel_rfl) ⟨GraphAt.rd hG (i := i) (by omega) (j := 4) rfl, trivial⟩ ?_
    refine TriL.call (f := 69) (args := #[.int .i64 ((nd ns i).gid), .int .i64 0, .int .i64 2147483647]) (d := (some 30)) (pre := []) (R := [.abs R]) (pk := [0]) (fun _ => by kernel_rfl) (sp_within ((nd ns i).gid) 0 2147483647) rfl (by kernel_rfl) ?_
    rintro _ _ ⟨rfl, rfl⟩
    refine TriL.segK (k' := 30) (fr' := [(0, .pointer (some ⟨(blkOf A), offOf A + i * 10, none⟩)), (32, .bool (!(decide (Within ((nd ns i).gid) 0 2147483647))))]) (obl := []) [o_, o_] [0, 32] (fun _ _ => by kernel_rfl) trivial ?_
    refine TriL.nil (by kernel_rfl) (TriQ.next ?_)
    refine Tri.condN (p := Within ((nd ns i).gid) 0 2147483647) (fun _ => by kernel_rfl) (fun h32 => ?_) (fun h32 => ?_)
    ·
     refine Tri.seq (Tri.region ?_)
     refine TriL.segK (k' := 1) (fr' := [(2, .bool false)]) (obl := []) [o_] [2] (fun _ _ => by kernel_rfl) trivial ?_
     refine TriL.nil (by kernel_rfl) (TriQ.next (Tri.ret (TriQ.passRet ?_)))
     exact TriQ.ret (v := .bool false) (l := []) (obl := []) [] [0] (fun _ => by kernel_rfl) trivial rfl (by kernel_rfl) (⟨congrArg Value.bool (decide_eq_false (by rw [nodeOk_iff]; unfold Within at *; grind)).symm, rfl⟩)
    ·
     refine Tri.skip (TriQ.next (Tri.seq (Tri.seq (Tri.region ?_))))
     refine TriL.segK (k' := 6) (fr' := [(0, .pointer (some ⟨(blkOf A), offOf A + i * 10, none⟩)), (38, .bool (!(decide (((nd ns i).kind : Int) = (1 : Int)))))]) (obl := [(Rd β ⟨(blkOf A), offOf A + i * 10 + 1, none⟩ (.int .i64 ((nd ns i).kind)))]) [o_, o_, o_, ⟨[.old (.int .i64 ((nd ns i).kind))], none, none, none, none⟩, o_, o_] [0, 38] (fun _ _ => by kernel_rfl) ⟨GraphAt.rd hG (i := i) (by omega) (j := 1) rfl, trivial⟩ ?_
     refine TriL.slotN 38 (((nd ns i).kind : Int) = (1 : Int)) (fun _ => by kernel_rfl) (fun h38 => ?_) (fun h38 => ?_)
     ·
      refine TriL.segK (k' := 14) (fr' := [(0, .pointer (some ⟨(blkOf A), offOf A + i * 10, none⟩)), (46, .bool (decide (((((nd ns i).data.length : Nat) : Int) : Int) > (0 : Int))))]) (obl := [(Rd β ⟨(blkOf A), offOf A + i * 10 + 7, none⟩ (.slice (L.dA i) ((nd ns i).data.length) ((L.dC i))))]) [o_, o_, o_, ⟨[.old (.slice (L.dA i) ((nd ns i).data.length) ((L.dC i)))], none, none, none, none⟩, o_, o_, o_, o_] [0, 46] (fun _ _ => by kernel_rfl) ⟨GraphAt.rd hG (i := i) (by omega) (j := 7) rfl, trivial⟩ ?_
      refine TriL.slotP 46 (((((nd ns i).data.length : Nat) : Int) : Int) > (0 : Int)) (fun _ => by kernel_rfl) (fun h46 => ?_) (fun h46 => ?_)
      ·
       refine TriL.segK (k' := 28) (fr' := [(0, .pointer (some ⟨(blkOf A), offOf A + i * 10, none⟩)), (60, .bool true)]) (obl := []) [o_, o_, o_, o_, o_, o_, o_, o_, o_, o_, o_, o_, o_, o_] [0, 60] (fun _ _ => by kernel_rfl) trivial ?_
       refine TriL.nil (by kernel_rfl) (TriQ.next ?_)
       refine Tri.condT (fun _ => by kernel_rfl) ?_
       refine Tri.seq (Tri.region ?_)
       refine TriL.segK (k' := 1) (fr' := [(2, .bool false)]) (obl := []) [o_] [2] (fun _ _ => by kernel_rfl) trivial ?_
       refine TriL.nil (by kernel_rfl) (TriQ.next (Tri.ret (TriQ.passRet ?_)))
       exact TriQ.ret (v := .bool false) (l := []) (obl := []) [] [0] (fun _ => by kernel_rfl) trivial rfl (by kernel_rfl) (⟨congrArg Value.bool (decide_eq_false (by rw [nodeOk_iff]; unfold Within at *; grind)).symm, rfl⟩)
      ·
       refine TriL.segK (k' := 20) (fr' := [(0, .pointer (some ⟨(blkOf A), offOf A + i * 10, none⟩)), (46, .bool false), (52, .bool (!(decide (((nd ns i).kind : Int) = (2 : Int)))))]) (obl := [(Rd β ⟨(blkOf A), offOf A + i * 10 + 1, none⟩ (.int .i64 ((nd ns i).kind)))]) [o_, o_, o_, ⟨[.old (.int .i64 ((nd ns i).kind))], none, none, none, none⟩, o_, o_] [0, 46, 52] (fun _ _ => by kernel_rfl) ⟨GraphAt.rd hG (i := i) (by omega) (j := 1) rfl, trivial⟩ ?_
       refine TriL.slotN 52 (((nd ns i).kind : Int) = (2 : Int)) (fun _ => by kernel_rfl) (fun h52 => ?_) (fun h52 => ?_)
       ·
        refine TriL.segK (k' := 28) (fr' := [(0, .pointer (some ⟨(blkOf A), offOf A + i * 10, none⟩)), (60, .bool (decide (((((nd ns i).ents.length : Nat) : Int) : Int) > (0 : Int))))]) (obl := [(Rd β ⟨(blkOf A), offOf A + i * 10 + 9, none⟩ (.slice (L.eA i) ((nd ns i).ents.length) ((L.eC i))))]) [o_, o_, o_, ⟨[.old (.slice (L.eA i) ((nd ns i).ents.length) ((L.eC i)))], none, none, none, none⟩, o_, o_, o_, o_] [0, 60] (fun _ _ => by kernel_rfl) ⟨GraphAt.rd hG (i := i) (by omega) (j := 9) rfl, trivial⟩ ?_
        refine TriL.nil (by kernel_rfl) (TriQ.next ?_)
        refine Tri.condP (p := ((((nd ns i).ents.length : Nat) : Int) : Int) > (0 : Int)) (fun _ => by kernel_rfl) (fun h60 => ?_) (fun h60 => ?_)
        ·
         refine Tri.seq (Tri.region ?_)
         refine TriL.segK (k' := 1) (fr' := [(2, .bool false)]) (obl := []) [o_] [2] (fun _ _ => by kernel_rfl) trivial ?_
         refine TriL.nil (by kernel_rfl) (TriQ.next (Tri.ret (TriQ.passRet ?_)))
         exact TriQ.ret (v := .bool false) (l := []) (obl := []) [] [0] (fun _ => by kernel_rfl) trivial rfl (by kernel_rfl) (⟨congrArg Value.bool (decide_eq_false (by rw [nodeOk_iff]; unfold Within at *; grind)).symm, rfl⟩)
        ·
         refine Tri.skip (TriQ.next (Tri.seq (Tri.region ?_)))
         refine TriL.segK (k' := 4) (fr' := [(0, .pointer (some ⟨(blkOf A), offOf A + i * 10, none⟩)), (64, .agg #[.int .i64 ((nd ns i).sec), .int .i64 ((nd ns i).nano)])]) (obl := [(Rd β ⟨(blkOf A), offOf A + i * 10 + 5 + 1, none⟩ (.int .i64 ((nd ns i).nano))), (Rd β ⟨(blkOf A), offOf A + i * 10 + 5, none⟩ (.int .i64 ((nd ns i).sec)))]) [o_, o_, o_, ⟨[.old (.int .i64 ((nd ns i).sec)), .old (.int .i64 ((nd ns i).nano))], none, none, none, none⟩] [0, 64] (fun _ _ => by kernel_rfl) ⟨GraphAt.rd hG (i := i) (by omega) (j := 6) rfl, GraphAt.rd hG (i := i) (by omega) (j := 5) rfl, trivial⟩ ?_
         refine TriL.call (f := 70) (args := #[.agg #[.int .i64 ((nd ns i).sec), .int .i64 ((nd ns i).nano)]]) (d := (some 65)) (pre := []) (R := [.abs R]) (pk := [0]) (fun _ => by kernel_rfl) (sp_stampValid (nd ns i).sec (nd ns i).nano) rfl (by kernel_rfl) ?_
         rintro _ _ ⟨rfl, rfl⟩
         refine TriL.segK (k' := 6) (fr' := [(0, .pointer (some ⟨(blkOf A), offOf A + i * 10, none⟩)), (66, .bool (decide (TimeOk (nd ns i).sec (nd ns i).nano)))]) (obl := []) [o_] [0, 66] (fun _ _ => by kernel_rfl) trivial ?_
         refine TriL.slotP 66 (TimeOk (nd ns i).sec (nd ns i).nano) (fun _ => by kernel_rfl) (fun h66 => ?_) (fun h66 => ?_)
         ·
          refine TriL.segK (k' := 7) (fr' := [(66, .bool true), (67, .pointer (some ⟨(blkOf A), offOf A + i * 10, none⟩))]) (obl := []) [o_] [66, 67] (fun _ _ => by kernel_rfl) trivial ?_
          refine TriL.call (f := 71) (args := #[.pointer (some ⟨(blkOf A), offOf A + i * 10, none⟩)]) (d := (some 68)) (pre := []) (R := [.abs R]) (pk := [0]) (fun _ => by kernel_rfl) (sp_text A ns L hG i hi) rfl (by kernel_rfl) ?_
          rintro _ _ ⟨rfl, rfl⟩
          refine TriL.segK (k' := 10) (fr' := [(2, .bool (decide (TargetOk (nd ns i).kind (nd ns i).target)))]) (obl := []) [o_, o_] [2] (fun _ _ => by kernel_rfl) trivial ?_
          refine TriL.nil (by kernel_rfl) (TriQ.next (Tri.ret ?_))
          exact TriQ.ret (v := .bool (decide (TargetOk (nd ns i).kind (nd ns i).target))) (l := []) (obl := []) [] [0] (fun _ => by kernel_rfl) trivial rfl (by kernel_rfl) (⟨congrArg Value.bool (decide_eq_decide.2 (by rw [nodeOk_iff]; unfold Within at *; grind)), rfl⟩)
         ·
          refine TriL.segK (k' := 10) (fr' := [(2, .bool false)]) (obl := []) [o_, o_, o_, o_] [2] (fun _ _ => by kernel_rfl) trivial ?_
          refine TriL.nil (by kernel_rfl) (TriQ.next (Tri.ret ?_))
          exact TriQ.ret (v := .bool false) (l := []) (obl := []) [] [0] (fun _ => by kernel_rfl) trivial rfl (by kernel_rfl) (⟨congrArg Value.bool (decide_eq_false (by rw [nodeOk_iff]; unfold Within at *; grind)).symm, rfl⟩)
       ·
        refine TriL.segK (k' := 28) (fr' := [(0, .pointer (some ⟨(blkOf A), offOf A + i * 10, none⟩)), (60, .bool false)]) (obl := []) [o_, o_, o_, o_, o_, o_, o_, o_] [0, 60] (fun _ _ => by kernel_rfl) trivial ?_
        refine TriL.nil (by kernel_rfl) (TriQ.next ?_)
        refine Tri.condF (fun _ => by kernel_rfl) ?_
        refine Tri.skip (TriQ.next (Tri.seq (Tri.region ?_)))
        refine TriL.segK (k' := 4) (fr' := [(0, .pointer (some ⟨(blkOf A), offOf A + i * 10, none⟩)), (64, .agg #[.int .i64 ((nd ns i).sec), .int .i64 ((nd ns i).nano)])]) (obl := [(Rd β ⟨(blkOf A), offOf A + i * 10 + 5 + 1, none⟩ (.int .i64 ((nd ns i).nano))), (Rd β ⟨(blkOf A), offOf A + i * 10 + 5, none⟩ (.int .i64 ((nd ns i).sec)))]) [o_, o_, o_, ⟨[.old (.int .i64 ((nd ns i).sec)), .old (.int .i64 ((nd ns i).nano))], none, none, none, none⟩] [0, 64] (fun _ _ => by kernel_rfl) ⟨GraphAt.rd hG (i := i) (by omega) (j := 6) rfl, GraphAt.rd hG (i := i) (by omega) (j := 5) rfl, trivial⟩ ?_
        refine TriL.call (f := 70) (args := #[.agg #[.int .i64 ((nd ns i).sec), .int .i64 ((nd ns i).nano)]]) (d := (some 65)) (pre := []) (R := [.abs R]) (pk := [0]) (fun _ => by kernel_rfl) (sp_stampValid (nd ns i).sec (nd ns i).nano) rfl (by kernel_rfl) ?_
        rintro _ _ ⟨rfl, rfl⟩
        refine TriL.segK (k' := 6) (fr' := [(0, .pointer (some ⟨(blkOf A), offOf A + i * 10, none⟩)), (66, .bool (decide (TimeOk (nd ns i).sec (nd ns i).nano)))]) (obl := []) [o_] [0, 66] (fun _ _ => by kernel_rfl) trivial ?_
        refine TriL.slotP 66 (TimeOk (nd ns i).sec (nd ns i).nano) (fun _ => by kernel_rfl) (fun h66 => ?_) (fun h66 => ?_)
        ·
         refine TriL.segK (k' := 7) (fr' := [(66, .bool true), (67, .pointer (some ⟨(blkOf A), offOf A + i * 10, none⟩))]) (obl := []) [o_] [66, 67] (fun _ _ => by kernel_rfl) trivial ?_
         refine TriL.call (f := 71) (args := #[.pointer (some ⟨(blkOf A), offOf A + i * 10, none⟩)]) (d := (some 68)) (pre := []) (R := [.abs R]) (pk := [0]) (fun _ => by kernel_rfl) (sp_text A ns L hG i hi) rfl (by kernel_rfl) ?_
         rintro _ _ ⟨rfl, rfl⟩
         refine TriL.segK (k' := 10) (fr' := [(2, .bool (decide (TargetOk (nd ns i).kind (nd ns i).target)))]) (obl := []) [o_, o_] [2] (fun _ _ => by kernel_rfl) trivial ?_
         refine TriL.nil (by kernel_rfl) (TriQ.next (Tri.ret ?_))
         exact TriQ.ret (v := .bool (decide (TargetOk (nd ns i).kind (nd ns i).target))) (l := []) (obl := []) [] [0] (fun _ => by kernel_rfl) trivial rfl (by kernel_rfl) (⟨congrArg Value.bool (decide_eq_decide.2 (by rw [nodeOk_iff]; unfold Within at *; grind)), rfl⟩)
        ·
         refine TriL.segK (k' := 10) (fr' := [(2, .bool false)]) (obl := []) [o_, o_, o_, o_] [2] (fun _ _ => by kernel_rfl) trivial ?_
         refine TriL.nil (by kernel_rfl) (TriQ.next (Tri.ret ?_))
         exact TriQ.ret (v := .bool false) (l := []) (obl := []) [] [0] (fun _ => by kernel_rfl) trivial rfl (by kernel_rfl) (⟨congrArg Value.bool (decide_eq_false (by rw [nodeOk_iff]; unfold Within at *; grind)).symm, rfl⟩)
     ·
      refine TriL.segK (k' := 20) (fr' := [(0, .pointer (some ⟨(blkOf A), offOf A + i * 10, none⟩)), (46, .bool false), (52, .bool (!(decide (((nd ns i).kind : Int) = (2 : Int)))))]) (obl := [(Rd β ⟨(blkOf A), offOf A + i * 10 + 1, none⟩ (.int .i64 ((nd ns i).kind)))]) [o_, o_, o_, o_, o_, o_, o_, o_, o_, o_, o_, ⟨[.old (.int .i64 ((nd ns i).kind))], none, none, none, none⟩, o_, o_] [0, 46, 52] (fun _ _ => by kernel_rfl) ⟨GraphAt.rd hG (i := i) (by omega) (j := 1) rfl, trivial⟩ ?_
      refine TriL.slotN 52 (((nd ns i).kind : Int) = (2 : Int)) (fun _ => by kernel_rfl) (fun h52 => ?_) (fun h52 => ?_)
      ·
       refine TriL.segK (k' := 28) (fr' := [(0, .pointer (some ⟨(blkOf A), offOf A + i * 10, none⟩)), (60, .bool (decide (((((nd ns i).ents.length : Nat) : Int) : Int) > (0 : Int))))]) (obl := [(Rd β ⟨(blkOf A), offOf A + i * 10 + 9, none⟩ (.slice (L.eA i) ((nd ns i).ents.length) ((L.eC i))))]) [o_, o_, o_, ⟨[.old (.slice (L.eA i) ((nd ns i).ents.length) ((L.eC i)))], none, none, none, none⟩, o_, o_, o_, o_] [0, 60] (fun _ _ => by kernel_rfl) ⟨GraphAt.rd hG (i := i) (by omega) (j := 9) rfl, trivial⟩ ?_
       refine TriL.nil (by kernel_rfl) (TriQ.next ?_)
       refine Tri.condP (p := ((((nd ns i).ents.length : Nat) : Int) : Int) > (0 : Int)) (fun _ => by kernel_rfl) (fun h60 => ?_) (fun h60 => ?_)
       ·
        refine Tri.seq (Tri.region ?_)
        refine TriL.segK (k' := 1) (fr' := [(2, .bool false)]) (obl := []) [o_] [2] (fun _ _ => by kernel_rfl) trivial ?_
        refine TriL.nil (by kernel_rfl) (TriQ.next (Tri.ret (TriQ.passRet ?_)))
        exact TriQ.ret (v := .bool false) (l := []) (obl := []) [] [0] (fun _ => by kernel_rfl) trivial rfl (by kernel_rfl) (⟨congrArg Value.bool (decide_eq_false (by rw [nodeOk_iff]; unfold Within at *; grind)).symm, rfl⟩)
       ·
        refine Tri.skip (TriQ.next (Tri.seq (Tri.region ?_)))
        refine TriL.segK (k' := 4) (fr' := [(0, .pointer (some ⟨(blkOf A), offOf A + i * 10, none⟩)), (64, .agg #[.int .i64 ((nd ns i).sec), .int .i64 ((nd ns i).nano)])]) (obl := [(Rd β ⟨(blkOf A), offOf A + i * 10 + 5 + 1, none⟩ (.int .i64 ((nd ns i).nano))), (Rd β ⟨(blkOf A), offOf A + i * 10 + 5, none⟩ (.int .i64 ((nd ns i).sec)))]) [o_, o_, o_, ⟨[.old (.int .i64 ((nd ns i).sec)), .old (.int .i64 ((nd ns i).nano))], none, none, none, none⟩] [0, 64] (fun _ _ => by kernel_rfl) ⟨GraphAt.rd hG (i := i) (by omega) (j := 6) rfl, GraphAt.rd hG (i := i) (by omega) (j := 5) rfl, trivial⟩ ?_
        refine TriL.call (f := 70) (args := #[.agg #[.int .i64 ((nd ns i).sec), .int .i64 ((nd ns i).nano)]]) (d := (some 65)) (pre := []) (R := [.abs R]) (pk := [0]) (fun _ => by kernel_rfl) (sp_stampValid (nd ns i).sec (nd ns i).nano) rfl (by kernel_rfl) ?_
        rintro _ _ ⟨rfl, rfl⟩
        refine TriL.segK (k' := 6) (fr' := [(0, .pointer (some ⟨(blkOf A), offOf A + i * 10, none⟩)), (66, .bool (decide (TimeOk (nd ns i).sec (nd ns i).nano)))]) (obl := []) [o_] [0, 66] (fun _ _ => by kernel_rfl) trivial ?_
        refine TriL.slotP 66 (TimeOk (nd ns i).sec (nd ns i).nano) (fun _ => by kernel_rfl) (fun h66 => ?_) (fun h66 => ?_)
        ·
         refine TriL.segK (k' := 7) (fr' := [(66, .bool true), (67, .pointer (some ⟨(blkOf A), offOf A + i * 10, none⟩))]) (obl := []) [o_] [66, 67] (fun _ _ => by kernel_rfl) trivial ?_
         refine TriL.call (f := 71) (args := #[.pointer (some ⟨(blkOf A), offOf A + i * 10, none⟩)]) (d := (some 68)) (pre := []) (R := [.abs R]) (pk := [0]) (fun _ => by kernel_rfl) (sp_text A ns L hG i hi) rfl (by kernel_rfl) ?_
         rintro _ _ ⟨rfl, rfl⟩
         refine TriL.segK (k' := 10) (fr' := [(2, .bool (decide (TargetOk (nd ns i).kind (nd ns i).target)))]) (obl := []) [o_, o_] [2] (fun _ _ => by kernel_rfl) trivial ?_
         refine TriL.nil (by kernel_rfl) (TriQ.next (Tri.ret ?_))
         exact TriQ.ret (v := .bool (decide (TargetOk (nd ns i).kind (nd ns i).target))) (l := []) (obl := []) [] [0] (fun _ => by kernel_rfl) trivial rfl (by kernel_rfl) (⟨congrArg Value.bool (decide_eq_decide.2 (by rw [nodeOk_iff]; unfold Within at *; grind)), rfl⟩)
        ·
         refine TriL.segK (k' := 10) (fr' := [(2, .bool false)]) (obl := []) [o_, o_, o_, o_] [2] (fun _ _ => by kernel_rfl) trivial ?_
         refine TriL.nil (by kernel_rfl) (TriQ.next (Tri.ret ?_))
         exact TriQ.ret (v := .bool false) (l := []) (obl := []) [] [0] (fun _ => by kernel_rfl) trivial rfl (by kernel_rfl) (⟨congrArg Value.bool (decide_eq_false (by rw [nodeOk_iff]; unfold Within at *; grind)).symm, rfl⟩)
      ·
       refine TriL.segK (k' := 28) (fr' := [(0, .pointer (some ⟨(blkOf A), offOf A + i * 10, none⟩)), (60, .bool false)]) (obl := []) [o_, o_, o_, o_, o_, o_, o_, o_] [0, 60] (fun _ _ => by kernel_rfl) trivial ?_
       refine TriL.nil (by kernel_rfl) (TriQ.next ?_)
       refine Tri.condF (fun _ => by kernel_rfl) ?_
       refine Tri.skip (TriQ.next (Tri.seq (Tri.region ?_)))
       refine TriL.segK (k' := 4) (fr' := [(0, .pointer (some ⟨(blkOf A), offOf A + i * 10, none⟩)), (64, .agg #[.int .i64 ((nd ns i).sec), .int .i64 ((nd ns i).nano)])]) (obl := [(Rd β ⟨(blkOf A), offOf A + i * 10 + 5 + 1, none⟩ (.int .i64 ((nd ns i).nano))), (Rd β ⟨(blkOf A), offOf A + i * 10 + 5, none⟩ (.int .i64 ((nd ns i).sec)))]) [o_, o_, o_, ⟨[.old (.int .i64 ((nd ns i).sec)), .old (.int .i64 ((nd ns i).nano))], none, none, none, none⟩] [0, 64] (fun _ _ => by kernel_rfl) ⟨GraphAt.rd hG (i := i) (by omega) (j := 6) rfl, GraphAt.rd hG (i := i) (by omega) (j := 5) rfl, trivial⟩ ?_
       refine TriL.call (f := 70) (args := #[.agg #[.int .i64 ((nd ns i).sec), .int .i64 ((nd ns i).nano)]]) (d := (some 65)) (pre := []) (R := [.abs R]) (pk := [0]) (fun _ => by kernel_rfl) (sp_stampValid (nd ns i).sec (nd ns i).nano) rfl (by kernel_rfl) ?_
       rintro _ _ ⟨rfl, rfl⟩
       refine TriL.segK (k' := 6) (fr' := [(0, .pointer (some ⟨(blkOf A), offOf A + i * 10, none⟩)), (66, .bool (decide (TimeOk (nd ns i).sec (nd ns i).nano)))]) (obl := []) [o_] [0, 66] (fun _ _ => by kernel_rfl) trivial ?_
       refine TriL.slotP 66 (TimeOk (nd ns i).sec (nd ns i).nano) (fun _ => by kernel_rfl) (fun h66 => ?_) (fun h66 => ?_)
       ·
        refine TriL.segK (k' := 7) (fr' := [(66, .bool true), (67, .pointer (some ⟨(blkOf A), offOf A + i * 10, none⟩))]) (obl := []) [o_] [66, 67] (fun _ _ => by kernel_rfl) trivial ?_
        refine TriL.call (f := 71) (args := #[.pointer (some ⟨(blkOf A), offOf A + i * 10, none⟩)]) (d := (some 68)) (pre := []) (R := [.abs R]) (pk := [0]) (fun _ => by kernel_rfl) (sp_text A ns L hG i hi) rfl (by kernel_rfl) ?_
        rintro _ _ ⟨rfl, rfl⟩
        refine TriL.segK (k' := 10) (fr' := [(2, .bool (decide (TargetOk (nd ns i).kind (nd ns i).target)))]) (obl := []) [o_, o_] [2] (fun _ _ => by kernel_rfl) trivial ?_
        refine TriL.nil (by kernel_rfl) (TriQ.next (Tri.ret ?_))
        exact TriQ.ret (v := .bool (decide (TargetOk (nd ns i).kind (nd ns i).target))) (l := []) (obl := []) [] [0] (fun _ => by kernel_rfl) trivial rfl (by kernel_rfl) (⟨congrArg Value.bool (decide_eq_decide.2 (by rw [nodeOk_iff]; unfold Within at *; grind)), rfl⟩)
       ·
        refine TriL.segK (k' := 10) (fr' := [(2, .bool false)]) (obl := []) [o_, o_, o_, o_] [2] (fun _ _ => by kernel_rfl) trivial ?_
        refine TriL.nil (by kernel_rfl) (TriQ.next (Tri.ret ?_))
        exact TriQ.ret (v := .bool false) (l := []) (obl := []) [] [0] (fun _ => by kernel_rfl) trivial rfl (by kernel_rfl) (⟨congrArg Value.bool (decide_eq_false (by rw [nodeOk_iff]; unfold Within at *; grind)).symm, rfl⟩)
end Go.Proofs.Ytjpdcppdoonmdaa
end
/- part GE. PROVED HERE: what the entries of a graph are good for: plain laws of edges and parents. CONDITIONS: none. No statement of the seat is proved here. -/
section
namespace Go.Proofs.Ytjpdcppdoonmdaa
open Go.RowKit Go.Maps
def strLe (x y : ByteArray) : Prop := (Op.bytesLess x.toList y.toList || (x.toList == y.toList)) = true
instance (x y : ByteArray) : Decidable (strLe x y) := inferInstanceAs (Decidable (_ = true))
theorem strLeV (x y : ByteArray) : Value.bool (Op.bytesLess x.toList y.toList || (x.toList == y.toList)) = Value.bool (decide (strLe x y)) := by
  have h : ∀ (b : Bool) [Decidable (b = true)], b = decide (b = true) := by
    intro b _
    cases b <;> simp
  exact congrArg Value.bool (h _)
theorem strLe_empty {x : ByteArray} : strLe x ⟨#[]⟩ ↔ x = ⟨#[]⟩ := by
  unfold strLe
  rw [strEq']
  have h1 : (⟨#[]⟩ : ByteArray).toList = [] := by rw [Lib.toList_data]
  have h2 : Op.bytesLess x.toList (⟨#[]⟩ : ByteArray).toList = false := by
    rw [h1]
    cases x.toList <;> rfl
  rw [h2]
  simp
/-- the place that an entry leads to -/
def tgt (ns : List NodeM) (z : Int) : Nat := (atI ns z).toNat
theorem atI_lt {ns : List NodeM} {z : Int} (h : 0 ≤ atI ns z) : tgt ns z < ns.length ∧ (nd ns (tgt ns z)).id = z ∧ atI ns z = (tgt ns z : Int) := by
  unfold tgt
  unfold atI at h ⊢
  cases hf : ns.findIdx? (fun n => n.id == z) with
  | none => rw [hf] at h; simp at h
  | some k =>
    rw [List.findIdx?_eq_some_iff_getElem] at hf
    obtain ⟨h1, h2, _⟩ := hf
    refine ⟨h1, ?_, rfl⟩
    show (nd ns k).id = z
    unfold nd
    rw [List.getD_eq_getElem?_getD, List.getElem?_eq_getElem h1]
    simpa using h2
theorem atI_neg {ns : List NodeM} {z : Int} (h : ¬ 0 ≤ atI ns z) : atI ns z = -1 := by
  unfold atI at h ⊢
  cases hf : ns.findIdx? (fun n => n.id == z) with
  | none => rfl
  | some k => rw [hf] at h; simp at h
/-- entry j of node i -/
def ent (ns : List NodeM) (i j : Nat) : EntM := en (nd ns i).ents j
def prevName (ns : List NodeM) (i : Nat) : Nat → ByteArray
  | 0 => ⟨#[]⟩
  | j + 1 => (ent ns i j).name
structure EntOk (ns : List NodeM) (i j : Nat) : Prop where
  at_ : 0 ≤ atI ns (ent ns i j).id
  good : GoodName (ent ns i j).name
  ord : ¬ strLe (ent ns i j).name (prevName ns i j)
def eOf (ns : List NodeM) (i j : Nat) : List (Nat × Nat) := if (nd ns (tgt ns (ent ns i j).id)).kind = 2 then [(tgt ns (ent ns i j).id, i)] else []
def rowE (ns : List NodeM) (i : Nat) : Nat → List (Nat × Nat)
  | 0 => []
  | j + 1 => eOf ns i j ++ rowE ns i j
def allE (ns : List NodeM) : Nat → List (Nat × Nat)
  | 0 => []
  | i + 1 => rowE ns i (nd ns i).ents.length ++ allE ns i
def idP (ns : List NodeM) (p : Nat × Nat) : Int × Int := ((nd ns p.1).id, (nd ns p.2).id)
theorem rowE_mono {ns : List NodeM} {i j m : Nat} (h : j ≤ m) : ∃ l, rowE ns i m = l ++ rowE ns i j := by
  induction m with
  | zero => exact ⟨[], by rw [Nat.le_zero.1 h]; rfl⟩
  | succ m ih =>
    rcases Nat.lt_or_ge m j with h1 | h1
    · have : j = m + 1 := by omega
      subst this
      exact ⟨[], rfl⟩
    · obtain ⟨l, hl⟩ := ih h1
      exact ⟨eOf ns i m ++ l, by rw [rowE, hl, List.append_assoc]⟩
theorem allE_mono {ns : List NodeM} {i m : Nat} (h : i ≤ m) : ∃ l, allE ns m = l ++ allE ns i := by
  induction m with
  | zero => exact ⟨[], by rw [Nat.le_zero.1 h]; rfl⟩
  | succ m ih =>
    rcases Nat.lt_or_ge m i with h1 | h1
    · have : i = m + 1 := by omega
      subst this
      exact ⟨[], rfl⟩
    · obtain ⟨l, hl⟩ := ih h1
      exact ⟨rowE ns m (nd ns m).ents.length ++ l, by rw [allE, hl, List.append_assoc]⟩
theorem nodup_suffix {l : List (Nat × Nat)} {k : List (Nat × Nat)} (h : ((l ++ k).map Prod.fst).Nodup) : (k.map Prod.fst).Nodup := by
  rw [List.map_append] at h
  exact (List.nodup_append.1 h).2.1
theorem Rising.inj {ns : List NodeM} (hr : Rising ns) {a b : Nat} (ha : a < ns.length) (hb : b < ns.length) (h : (nd ns a).id = (nd ns b).id) : a = b := by
  rcases Nat.lt_trichotomy a b with h1 | h1 | h1
  · have := hr a b h1 hb; omega
  · exact h1
  · have := hr b a h1 ha; omega
theorem up_none {ns : List NodeM} {ps : List (Nat × Nat)} {k : Nat} (h : up (ps.map (idP ns)) (nd ns k).id = none) : k ∉ ps.map Prod.fst := by
  unfold up at h
  induction ps with
  | nil => simp
  | cons p ps ih =>
    obtain ⟨a, b⟩ := p
    rw [List.map_cons, idP, List.lookup_cons] at h
    intro hm
    rw [List.map_cons] at hm
    rcases List.mem_cons.1 hm with e | hm
    · subst e
      simp at h
    · by_cases e : ((nd ns k).id == (nd ns a).id) = true
      · rw [e] at h; cases h
      · have e : ((nd ns k).id == (nd ns a).id) = false := by simpa using e
        rw [e] at h
        exact ih h hm
theorem up_some {ns : List NodeM} {ps : List (Nat × Nat)} {k : Nat} {y : Int} (hr : Rising ns) (hk : k < ns.length) (hp : ∀ p, p ∈ ps → p.1 < ns.length) (h : up (ps.map (idP ns)) (nd ns k).id = some y) : k ∈ ps.map Prod.fst ∧ ∃ p, p ∈ ps ∧ p.1 = k ∧ y = (nd ns p.2).id := by
  unfold up at h
  induction ps with
  | nil => cases h
  | cons p ps ih =>
    obtain ⟨a, b⟩ := p
    rw [List.map_cons, idP, List.lookup_cons] at h
    by_cases e : ((nd ns k).id == (nd ns a).id) = true
    · rw [e] at h
      cases h
      have : k = a := hr.inj hk (hp (a, b) (List.mem_cons_self ..)) (by simpa using e)
      subst this
      exact ⟨by simp, (k, b), List.mem_cons_self .., rfl, rfl⟩
    · have e : ((nd ns k).id == (nd ns a).id) = false := by simpa using e
      rw [e] at h
      obtain ⟨h1, q, hq, h2⟩ := ih (fun p hp' => hp p (List.mem_cons_of_mem _ hp')) h
      exact ⟨by rw [List.map_cons]; exact List.mem_cons_of_mem _ h1, q, List.mem_cons_of_mem _ hq, h2⟩
/-- what the map of the nodes answers when the first k are in -/
def bf (A : Option Addr) (ns : List NodeM) (k : Nat) (z : Int) : Option Value := if 0 ≤ atI ns z ∧ atI ns z < k then some (.pointer (some ⟨blkOf A, offOf A + tgt ns z * 10, none⟩)) else none
structure RowOk (ns : List NodeM) (i : Nat) (ps : List (Nat × Nat)) : Prop where
  ents : ∀ j, j < (nd ns i).ents.length → EntOk ns i j
  nodup : ((rowE ns i (nd ns i).ents.length ++ ps).map Prod.fst).Nodup
theorem bf_at {A : Option Addr} {ns : List NodeM} {k : Nat} {z : Int} (h : 0 ≤ atI ns z) (hk : tgt ns z < k) : mf (bf A ns k) (.int .i64 z) = some (.pointer (some ⟨blkOf A, offOf A + tgt ns z * 10, none⟩)) :=
  if_pos ⟨h, by rw [(atI_lt h).2.2]; omega⟩
theorem bf_none {A : Option Addr} {ns : List NodeM} {k : Nat} {z : Int} (h : ¬ 0 ≤ atI ns z) : mf (bf A ns k) (.int .i64 z) = none := if_neg (fun e => h e.1)
theorem rowE_len (ns : List NodeM) (i j : Nat) : (rowE ns i j).length ≤ j := by
  induction j with
  | zero => exact Nat.le_refl _
  | succ j ih =>
    rw [rowE, List.length_append]
    have : (eOf ns i j).length ≤ 1 := by
      unfold eOf
      split <;> simp
    omega
theorem rowE_skip {ns : List NodeM} {i j : Nat} (h : ¬ (nd ns (tgt ns (ent ns i j).id)).kind = 2) : rowE ns i (j + 1) = rowE ns i j := by
  rw [rowE, eOf, if_neg h]; rfl
theorem rowE_dir {ns : List NodeM} {i j : Nat} (h : (nd ns (tgt ns (ent ns i j).id)).kind = 2) : rowE ns i (j + 1) = (tgt ns (ent ns i j).id, i) :: rowE ns i j := by
  rw [rowE, eOf, if_pos h]; rfl
theorem rowOk_fresh {ns : List NodeM} {i j : Nat} {ps : List (Nat × Nat)} (h : RowOk ns i ps) (hj : j < (nd ns i).ents.length) (hk : (nd ns (tgt ns (ent ns i j).id)).kind = 2) : tgt ns (ent ns i j).id ∉ (rowE ns i j ++ ps).map Prod.fst := by
  obtain ⟨l, hl⟩ := rowE_mono (ns := ns) (i := i) (show j + 1 ≤ (nd ns i).ents.length from hj)
  have h1 := h.nodup
  rw [hl, List.append_assoc] at h1
  have h2 := nodup_suffix h1
  rw [rowE_dir hk, List.cons_append, List.map_cons] at h2
  exact (List.nodup_cons.1 h2).1
theorem upd_edge {ns : List NodeM} {i j : Nat} {ps : List (Nat × Nat)} (hat : 0 ≤ atI ns (ent ns i j).id) (hk : (nd ns (tgt ns (ent ns i j).id)).kind = 2) :
    upd (mf (pf ((rowE ns i j ++ ps).map (idP ns)))) (.int .i64 (ent ns i j).id) (some (.int .i64 (nd ns i).id)) = mf (pf ((rowE ns i (j + 1) ++ ps).map (idP ns))) := by
  rw [mf_upd, rowE_dir hk, List.cons_append, List.map_cons, idP, (atI_lt hat).2.1, pf_cons]
theorem len_edge {ns : List NodeM} {i j : Nat} {ps : List (Nat × Nat)} {f : Lit → Option Value} {kl : Lit} (hf : f kl = none) (hk : (nd ns (tgt ns (ent ns i j).id)).kind = 2) :
    (if (f kl).isSome then (rowE ns i j ++ ps).length else (rowE ns i j ++ ps).length + 1) = (rowE ns i (j + 1) ++ ps).length := by
  rw [hf, rowE_dir hk]
  rfl
theorem nodup_edge {ns : List NodeM} {i j : Nat} {ps : List (Nat × Nat)} (hat : 0 ≤ atI ns (ent ns i j).id) (hk : (nd ns (tgt ns (ent ns i j).id)).kind = 2) (hup : up ((rowE ns i j ++ ps).map (idP ns)) (ent ns i j).id = none) (h : ((rowE ns i j ++ ps).map Prod.fst).Nodup) :
    ((rowE ns i (j + 1) ++ ps).map Prod.fst).Nodup := by
  rw [rowE_dir hk, List.cons_append, List.map_cons]
  refine List.nodup_cons.2 ⟨?_, h⟩
  refine up_none (ns := ns) ?_
  rw [(atI_lt hat).2.1]
  exact hup
theorem rowE_fst {ns : List NodeM} {i j : Nat} (h : ∀ t, t < j → EntOk ns i t) : ∀ p, p ∈ rowE ns i j → p.1 < ns.length ∧ p.2 = i := by
  induction j with
  | zero => intro p hp; cases hp
  | succ j ih =>
    intro p hp
    rw [rowE] at hp
    rcases List.mem_append.1 hp with hp | hp
    · unfold eOf at hp
      split at hp
      · rw [List.mem_singleton.1 hp]
        exact ⟨(atI_lt (h j (Nat.lt_succ_self j)).at_).1, rfl⟩
      · cases hp
    · exact ih (fun t ht => h t (by omega)) p hp
theorem rowOk_twice {ns : List NodeM} {i j : Nat} {ps : List (Nat × Nat)} {y : Int} (hr : Rising ns) (hps : ∀ p, p ∈ ps → p.1 < ns.length) (hok : ∀ t, t < j → EntOk ns i t) (hat : 0 ≤ atI ns (ent ns i j).id) (hk : (nd ns (tgt ns (ent ns i j).id)).kind = 2)
    (hup : up ((rowE ns i j ++ ps).map (idP ns)) (ent ns i j).id = some y) (hj : j < (nd ns i).ents.length) : ¬ RowOk ns i ps := fun h => by
  refine rowOk_fresh h hj hk ?_
  rw [← (atI_lt hat).2.1] at hup
  refine (up_some hr (atI_lt hat).1 (fun p hp => ?_) hup).1
  rcases List.mem_append.1 hp with hp | hp
  · exact (rowE_fst hok p hp).1
  · exact hps p hp
end Go.Proofs.Ytjpdcppdoonmdaa
end
/- part GEnter. PROVED HERE: the entries of a node CONDITIONS: as the theorems say. Printed by a program of this repo (wip/v). -/
section
namespace Go.Proofs.Ytjpdcppdoonmdaa
open Go.RowKit
attribute [local irreducible] TriL TriLQ Tri TriQ
set_option maxRecDepth 100000 in
set_option maxHeartbeats 4000000 in
theorem sp_enter {β : Bs} (A : Option Addr) (ns : List NodeM) (L : Lay) (hG : GraphAt β A ns L) (hr : Rising ns) (i : Nat) (hi : i < ns.length) (hel : (nd ns i).ents.length ≤ 1048576) (hwf : ∀ j, j < (nd ns i).ents.length → -9223372036854775808 ≤ (ent ns i j).id ∧ (ent ns i j).id ≤ 9223372036854775807) (hnm : ∀ j, j < (nd ns i).ents.length → (ent ns i j).name.size ≤ 1048576)
    (mb mp : Nat) (ps : List (Nat × Nat)) (hpl : ps.length ≤ 16777216) (hps : ∀ p, p ∈ ps → p.1 < ns.length) (hnp : (ps.map Prod.fst).Nodup) :
    Spec Try.prog β 59 #[.pointer (some ⟨(blkOf A), offOf A + i * 10, none⟩), .map (some mb), .map (some mp)] [.abs (MapA Try.prog 3 mb (mf (bf A ns ns.length)) ns.length), .abs (MapA Try.prog 3 mp (mf (pf ((ps).map (idP ns)))) ((ps).length))] (fun v l => (v = .bool true ∧ RowOk ns i ps ∧ l = [.abs (MapA Try.prog 3 mb (mf (bf A ns ns.length)) ns.length), .abs (MapA Try.prog 3 mp (mf (pf ((rowE ns i (nd ns i).ents.length ++ ps).map (idP ns)))) ((rowE ns i (nd ns i).ents.length ++ ps).length))]) ∨ (v = .bool false ∧ ¬ RowOk ns i ps ∧ l = [])) := by
 refine Spec.enter Try.func59 rfl Try.ntmps59 (Nat.le_of_ble_eq_true rfl) (fun R => ?_)
 refine Tri.seq (Tri.region ?_)
 refine TriL.segK (k' := 1) (fr' := [(0, .pointer (some ⟨(blkOf A), offOf A + i * 10, none⟩)), (1, .map (some mb)), (2, .map (some mp))]) (obl := []) [o_] [0, 1, 2] (fun _ _ => by kernel_rfl) trivial ?_
 refine TriL.nil (by kernel_rfl) (TriQ.next (Tri.seq (Tri.region ?_)))
 refine TriL.segK (k' := 1) (fr' := [(0, .pointer (some ⟨(blkOf A), offOf A + i * 10, none⟩)), (1, .map (some mb)), (2, .map (some mp)), (7, .string ⟨#[]⟩)]) (obl := []) [o_] [0, 1, 2, 7] (fun _ _ => by kernel_rfl) trivial ?_
 refine TriL.nil (by kernel_rfl) (TriQ.next (Tri.seq (Tri.seq (Tri.region ?_))))
 refine TriL.segK (k' := 6) (fr' := [(0, .pointer (some ⟨(blkOf A), offOf A + i * 10, none⟩)), (1, .map (some mb)), (2, .map (some mp)), (7, .string ⟨#[]⟩), (16, .slice (L.eA i) ((nd ns i).ents.length) ((L.eC i))), (17, .int .i64 ↑((nd ns i).ents.length)), (18, .int .i64 0)]) (obl := [(Rd β ⟨(blkOf A), offOf A + i * 10 + 9, none⟩ (.slice (L.eA i) ((nd ns i).ents.length) ((L.eC i))))]) [o_, o_, o_, ⟨[.old (.slice (L.eA i) ((nd ns i).ents.length) ((L.eC i)))], none, none, none, none⟩, o_, o_] [0, 1, 2, 7, 16, 17, 18] (fun _ _ => by kernel_rfl) ⟨GraphAt.rd hG (i := i) (by omega) (j := 9) rfl, trivial⟩ ?_
 refine TriL.nil (by kernel_rfl) (TriQ.next (Tri.block ?_))
 refine Tri.loop (ι := Nat) (fun (j : Nat) => (j ≤ (nd ns i).ents.length) ∧ (∀ t, t < j → EntOk ns i t) ∧ (((rowE ns i j ++ ps).map Prod.fst).Nodup)) (fun (j : Nat) => (nd ns i).ents.length - j) (fun (j : Nat) => [(0, .pointer (some ⟨(blkOf A), offOf A + i * 10, none⟩)), (1, .map (some mb)), (2, .map (some mp)), (7, .string (prevName ns i j)), (16, .slice (L.eA i) ((nd ns i).ents.length) ((L.eC i))), (17, .int .i64 ↑((nd ns i).ents.length)), (18, .int .i64 ↑j)]) (fun (j : Nat) => [.abs (MapA Try.prog 3 mb (mf (bf A ns ns.length)) ns.length), .abs (MapA Try.prog 3 mp (mf (pf ((rowE ns i j ++ ps).map (idP ns)))) ((rowE ns i j ++ ps).length)), .abs R]) 0 (idx := [0, 1, 2, 7, 16, 17, 18]) (pk := [0, 1, 2]) (show (0 ≤ (nd ns i).ents.length) ∧ (∀ t, t < 0 → EntOk ns i t) ∧ (((rowE ns i 0 ++ ps).map Prod.fst).Nodup) from ⟨Nat.zero_le _, fun t ht => absurd ht (Nat.not_lt_zero t), hnp⟩) (fun _ => by kernel_rfl) rfl (by kernel_rfl) ?_
 rintro j ⟨hj, hok, hnd⟩
 show Tri _ _ _ _ [(0, .pointer (some ⟨(blkOf A), offOf A + i * 10, none⟩)), (1, .map (some mb)), (2, .map (some mp)), (7, .string (prevName ns i j)), (16, .slice (L.eA i) ((nd ns i).ents.length) ((L.eC i))), (17, .int .i64 ↑((nd ns i).ents.length)), (18, .int .i64 ↑j)] [.abs (MapA Try.prog 3 mb (mf (bf A ns ns.length)) ns.length), .abs (MapA Try.prog 3 mp (mf (pf ((rowE ns i j ++ ps).map (idP ns)))) ((rowE ns i j ++ ps).length)), .abs R] _
 refine Tri.seq (Tri.region ?_)
 refine TriL.segK (k' := 1) (fr' := [(0, .pointer (some ⟨(blkOf A), offOf A + i * 10, none⟩)), (1, .map (some mb)), (2, .map (some mp)), (7, .string (prevName ns i j)), (16, .slice (L.eA i) ((nd ns i).ents.length) ((L.eC i))), (17, .int .i64 ↑((nd ns i).ents.length)), (18, .int .i64 ↑j), (19, .bool (decide ((((j : Nat) : Int) : Int) < ((((nd ns i).ents.length : Nat) : Int) : Int))))]) (obl := []) [o_] [0, 1, 2, 7, 16, 17, 18, 19] (fun _ _ => by kernel_rfl) trivial ?_
 refine TriL.nil (by kernel_rfl) (TriQ.next (Tri.seq ?_))
 refine Tri.condP (p := (((j : Nat) : Int) : Int) < ((((nd ns i).ents.length : Nat) : Int) : Int)) (fun _ => by kernel_rfl) (fun h19 => ?_) (fun h19 => ?_)
 ·
  refine Tri.skip (TriQ.next (Tri.seq (Tri.block (Tri.seq (Tri.region ?_)))))
  refine TriL.segN (k' := 4) (fr' := fun b1 => [(0, .pointer (some ⟨(blkOf A), offOf A + i * 10, none⟩)), (1, .map (some mb)), (2, .map (some mp)), (7, .string (prevName ns i j)), (9, .pointer (some ⟨b1, 0, none⟩)), (16, .slice (L.eA i) ((nd ns i).ents.length) ((L.eC i))), (17, .int .i64 ↑((nd ns i).ents.length)), (18, .int .i64 ↑j)]) (hps' := fun b1 => [.abs (MapA Try.prog 3 mb (mf (bf A ns ns.length)) ns.length), .abs (MapA Try.prog 3 mp (mf (pf ((rowE ns i j ++ ps).map (idP ns)))) ((rowE ns i j ++ ps).length)), .abs R, .blk b1 [.string (en (nd ns i).ents j).name, .int .i64 ((en (nd ns i).ents j).id)] 72]) (obl := fun b1 => [b1 = b1, b1 = b1, (Rd β ⟨(blkOf (L.eA i)), offOf (L.eA i) + j * 2 + 1, none⟩ (.int .i64 ((en (nd ns i).ents j).id))), (Rd β ⟨(blkOf (L.eA i)), offOf (L.eA i) + j * 2, none⟩ (.string (en (nd ns i).ents j).name)), ((j : Nat) : Int) = ((j : Nat) : Int), j < (nd ns i).ents.length, (⟨(blkOf (L.eA i)), offOf (L.eA i), none⟩ : Addr).spot = none, ((L.eA i) : Option Addr) = some ⟨(blkOf (L.eA i)), offOf (L.eA i), none⟩]) [⟨[], some j, none, some ⟨(blkOf (L.eA i)), offOf (L.eA i), none⟩, none⟩, ⟨[.old (.string (en (nd ns i).ents j).name), .old (.int .i64 ((en (nd ns i).ents j).id))], none, none, none, none⟩, o_, ⟨[.at 3, .at 3], none, none, none, none⟩] [0, 1, 2, 7, 9, 16, 17, 18] [0, 1, 2, 3] (fun _ _ => by kernel_rfl) (fun b1 => ⟨rfl, rfl, EntsAt.rd (hG.ents i (by omega)) (i := j) (by omega) (j := 1) rfl, EntsAt.rd (hG.ents i (by omega)) (i := j) (by omega) (j := 0) rfl, rfl, by omega, rfl, EntsAt.hd (hG.ents i (by omega)) (i := j) (by omega), trivial⟩) (fun b1 => ?_)
  refine TriL.nil (by kernel_rfl) (TriQ.next (Tri.seq (Tri.region ?_)))
  refine TriL.segK (k' := 3) (fr' := [(0, .pointer (some ⟨(blkOf A), offOf A + i * 10, none⟩)), (1, .map (some mb)), (2, .map (some mp)), (7, .string (prevName ns i j)), (9, .pointer (some ⟨b1, 0, none⟩)), (16, .slice (L.eA i) ((nd ns i).ents.length) ((L.eC i))), (17, .int .i64 ↑((nd ns i).ents.length)), (18, .int .i64 ↑j), (22, .map (some mb)), (24, .int .i64 ((en (nd ns i).ents j).id))]) (obl := [b1 = b1]) [o_, o_, ⟨[.at 3], none, none, none, none⟩] [0, 1, 2, 7, 9, 16, 17, 18, 22, 24] (fun _ _ => by kernel_rfl) ⟨rfl, trivial⟩ ?_
  by_cases hat : 0 ≤ atI ns (en (nd ns i).ents j).id
  ·
   have htl := atI_lt hat
   refine TriL.mapLook 0 (d := (some 25)) (t := 66) (K := 3) (E := 75) (b := mb) (n := ns.length) (f := (mf (bf A ns ns.length))) (x := (.tmp 22)) (ix := (.tmp 24)) (key := .int .i64 ((en (nd ns i).ents j).id)) (z := .pointer none) (kl := (.int .i64 (en (nd ns i).ents j).id)) (r := (some (.pointer (some ⟨(blkOf A), offOf A + (tgt ns (en (nd ns i).ents j).id) * 10, none⟩)))) (fun _ => by kernel_rfl) (by kernel_rfl) (fun _ => by kernel_rfl) (fun _ => by kernel_rfl) lawI Try.underlying66 (fun _ => by kernel_rfl) (keyI (hwf j (by omega)).1 (hwf j (by omega)).2) (bf_at hat htl.1) ?_
   refine TriL.segK (k' := 5) (fr' := [(0, .pointer (some ⟨(blkOf A), offOf A + i * 10, none⟩)), (1, .map (some mb)), (2, .map (some mp)), (7, .string (prevName ns i j)), (9, .pointer (some ⟨b1, 0, none⟩)), (10, .pointer (some ⟨(blkOf A), offOf A + (tgt ns (en (nd ns i).ents j).id) * 10, none⟩)), (16, .slice (L.eA i) ((nd ns i).ents.length) ((L.eC i))), (17, .int .i64 ↑((nd ns i).ents.length)), (18, .int .i64 ↑j)]) (obl := []) [o_] [0, 1, 2, 7, 9, 10, 16, 17, 18] (fun _ _ => by kernel_rfl) trivial ?_
   refine TriL.nil (by kernel_rfl) (TriQ.next (Tri.seq (Tri.seq (Tri.region ?_))))
   refine TriL.segK (k' := 5) (fr' := [(0, .pointer (some ⟨(blkOf A), offOf A + i * 10, none⟩)), (1, .map (some mb)), (2, .map (some mp)), (7, .string (prevName ns i j)), (9, .pointer (some ⟨b1, 0, none⟩)), (10, .pointer (some ⟨(blkOf A), offOf A + (tgt ns (en (nd ns i).ents j).id) * 10, none⟩)), (16, .slice (L.eA i) ((nd ns i).ents.length) ((L.eC i))), (17, .int .i64 ↑((nd ns i).ents.length)), (18, .int .i64 ↑j), (28, .bool false), (30, .string (en (nd ns i).ents j).name)]) (obl := [b1 = b1]) [o_, o_, o_, o_, ⟨[.at 3], none, none, none, none⟩] [0, 1, 2, 7, 9, 10, 16, 17, 18, 28, 30] (fun _ _ => by kernel_rfl) ⟨rfl, trivial⟩ ?_
   refine TriL.call (f := 72) (args := #[.string (en (nd ns i).ents j).name]) (d := (some 31)) (pre := []) (R := [.abs (MapA Try.prog 3 mb (mf (bf A ns ns.length)) ns.length), .abs (MapA Try.prog 3 mp (mf (pf ((rowE ns i j ++ ps).map (idP ns)))) ((rowE ns i j ++ ps).length)), .abs R, .blk b1 [.string (en (nd ns i).ents j).name, .int .i64 ((en (nd ns i).ents j).id)] 72]) (pk := [0, 1, 2, 3]) (fun _ => by kernel_rfl) (sp_routeGood (en (nd ns i).ents j).name (hnm j (by omega))) rfl (by kernel_rfl) ?_
   rintro _ _ ⟨rfl, rfl⟩
   refine TriL.segK (k' := 9) (fr' := [(0, .pointer (some ⟨(blkOf A), offOf A + i * 10, none⟩)), (1, .map (some mb)), (2, .map (some mp)), (7, .string (prevName ns i j)), (9, .pointer (some ⟨b1, 0, none⟩)), (10, .pointer (some ⟨(blkOf A), offOf A + (tgt ns (en (nd ns i).ents j).id) * 10, none⟩)), (16, .slice (L.eA i) ((nd ns i).ents.length) ((L.eC i))), (17, .int .i64 ↑((nd ns i).ents.length)), (18, .int .i64 ↑j), (34, .bool (!(decide (GoodName (en (nd ns i).ents j).name))))]) (obl := []) [o_, o_, o_] [0, 1, 2, 7, 9, 10, 16, 17, 18, 34] (fun _ _ => by kernel_rfl) trivial ?_
   refine TriL.slotN 34 (GoodName (en (nd ns i).ents j).name) (fun _ => by kernel_rfl) (fun h34 => ?_) (fun h34 => ?_)
   ·
    refine TriL.segK (k' := 14) (fr' := [(0, .pointer (some ⟨(blkOf A), offOf A + i * 10, none⟩)), (1, .map (some mb)), (2, .map (some mp)), (9, .pointer (some ⟨b1, 0, none⟩)), (10, .pointer (some ⟨(blkOf A), offOf A + (tgt ns (en (nd ns i).ents j).id) * 10, none⟩)), (16, .slice (L.eA i) ((nd ns i).ents.length) ((L.eC i))), (17, .int .i64 ↑((nd ns i).ents.length)), (18, .int .i64 ↑j), (39, .bool true)]) (obl := []) [o_, o_, o_, o_, o_] [0, 1, 2, 9, 10, 16, 17, 18, 39] (fun _ _ => by kernel_rfl) trivial ?_
    refine TriL.nil (by kernel_rfl) (TriQ.next ?_)
    refine Tri.condT (fun _ => by kernel_rfl) ?_
    refine Tri.seq (Tri.region ?_)
    refine TriL.segK (k' := 1) (fr' := [(6, .bool false)]) (obl := []) [o_] [6] (fun _ _ => by kernel_rfl) trivial ?_
    refine TriL.nil (by kernel_rfl) (TriQ.next (Tri.ret (TriQ.passRet (TriQ.blockRet (TriQ.passRet (TriQ.passRet (TriQ.blockRet (TriQ.passRet ?_))))))))
    exact TriQ.ret (v := .bool false) (l := []) (obl := []) [] [2] (fun _ => by kernel_rfl) trivial rfl (by kernel_rfl) (.inr ⟨rfl, fun h => h34 (h.ents j (by omega)).good, rfl⟩)
   ·
    refine TriL.segK (k' := 14) (fr' := [(0, .pointer (some ⟨(blkOf A), offOf A + i * 10, none⟩)), (1, .map (some mb)), (2, .map (some mp)), (9, .pointer (some ⟨b1, 0, none⟩)), (10, .pointer (some ⟨(blkOf A), offOf A + (tgt ns (en (nd ns i).ents j).id) * 10, none⟩)), (16, .slice (L.eA i) ((nd ns i).ents.length) ((L.eC i))), (17, .int .i64 ↑((nd ns i).ents.length)), (18, .int .i64 ↑j), (39, .bool (decide (strLe ((en (nd ns i).ents j).name) (prevName ns i j))))]) (obl := [(Value.bool (Op.bytesLess (((en (nd ns i).ents j).name) : ByteArray).toList (((prevName ns i j)) : ByteArray).toList || (((en (nd ns i).ents j).name) : ByteArray).toList == (((prevName ns i j)) : ByteArray).toList)) = (.bool (decide (strLe ((en (nd ns i).ents j).name) (prevName ns i j)))), b1 = b1]) [o_, ⟨[.at 3], none, none, none, none⟩, o_, ⟨[], none, none, none, some (.bool (decide (strLe ((en (nd ns i).ents j).name) (prevName ns i j))))⟩, o_] [0, 1, 2, 9, 10, 16, 17, 18, 39] (fun _ _ => by kernel_rfl) ⟨strLeV _ _, rfl, trivial⟩ ?_
    refine TriL.nil (by kernel_rfl) (TriQ.next ?_)
    refine Tri.condP (p := strLe ((en (nd ns i).ents j).name) (prevName ns i j)) (fun _ => by kernel_rfl) (fun h39 => ?_) (fun h39 => ?_)
    ·
     refine Tri.seq (Tri.region ?_)
     refine TriL.segK (k' := 1) (fr' := [(6, .bool false)]) (obl := []) [o_] [6] (fun _ _ => by kernel_rfl) trivial ?_
     refine TriL.nil (by kernel_rfl) (TriQ.next (Tri.ret (TriQ.passRet (TriQ.blockRet (TriQ.passRet (TriQ.passRet (TriQ.blockRet (TriQ.passRet ?_))))))))
     exact TriQ.ret (v := .bool false) (l := []) (obl := []) [] [2] (fun _ => by kernel_rfl) trivial rfl (by kernel_rfl) (.inr ⟨rfl, fun h => (h.ents j (by omega)).ord h39, rfl⟩)
    ·
     refine Tri.skip (TriQ.next (Tri.seq (Tri.region ?_)))
     refine TriL.segK (k' := 3) (fr' := [(0, .pointer (some ⟨(blkOf A), offOf A + i * 10, none⟩)), (1, .map (some mb)), (2, .map (some mp)), (7, .string (en (nd ns i).ents j).name), (9, .pointer (some ⟨b1, 0, none⟩)), (10, .pointer (some ⟨(blkOf A), offOf A + (tgt ns (en (nd ns i).ents j).id) * 10, none⟩)), (16, .slice (L.eA i) ((nd ns i).ents.length) ((L.eC i))), (17, .int .i64 ↑((nd ns i).ents.length)), (18, .int .i64 ↑j)]) (obl := [b1 = b1]) [o_, ⟨[.at 3], none, none, none, none⟩, o_] [0, 1, 2, 7, 9, 10, 16, 17, 18] (fun _ _ => by kernel_rfl) ⟨rfl, trivial⟩ ?_
     refine TriL.nil (by kernel_rfl) (TriQ.next (Tri.seq (Tri.seq (Tri.region ?_))))
     refine TriL.segK (k' := 5) (fr' := [(0, .pointer (some ⟨(blkOf A), offOf A + i * 10, none⟩)), (1, .map (some mb)), (2, .map (some mp)), (7, .string (en (nd ns i).ents j).name), (9, .pointer (some ⟨b1, 0, none⟩)), (16, .slice (L.eA i) ((nd ns i).ents.length) ((L.eC i))), (17, .int .i64 ↑((nd ns i).ents.length)), (18, .int .i64 ↑j), (46, .bool (!(decide (((nd ns (tgt ns (en (nd ns i).ents j).id)).kind : Int) = (2 : Int)))))]) (obl := [(Rd β ⟨(blkOf A), offOf A + (tgt ns (en (nd ns i).ents j).id) * 10 + 1, none⟩ (.int .i64 ((nd ns (tgt ns (en (nd ns i).ents j).id)).kind)))]) [o_, o_, o_, ⟨[.old (.int .i64 ((nd ns (tgt ns (en (nd ns i).ents j).id)).kind))], none, none, none, none⟩, o_] [0, 1, 2, 7, 9, 16, 17, 18, 46] (fun _ _ => by kernel_rfl) ⟨GraphAt.rd hG (i := (tgt ns (en (nd ns i).ents j).id)) (by omega) (j := 1) rfl, trivial⟩ ?_
     refine TriL.nil (by kernel_rfl) (TriQ.next ?_)
     refine Tri.condN (p := ((nd ns (tgt ns (en (nd ns i).ents j).id)).kind : Int) = (2 : Int)) (fun _ => by kernel_rfl) (fun h46 => ?_) (fun h46 => ?_)
     ·
      refine Tri.exit (TriQ.passExit (TriQ.blockHit (TriQ.next (Tri.region ?_))))
      refine TriL.partEq 1 (p := .abs (MapA Try.prog 3 mp (mf (pf ((rowE ns i j ++ ps).map (idP ns)))) ((rowE ns i j ++ ps).length))) (p' := .abs (MapA Try.prog 3 mp (mf (pf ((rowE ns i (j + 1) ++ ps).map (idP ns)))) ((rowE ns i (j + 1) ++ ps).length))) (by kernel_rfl) (by rw [rowE_skip h46]) ?_
      refine TriL.segK (k' := 2) (fr' := [(0, .pointer (some ⟨(blkOf A), offOf A + i * 10, none⟩)), (1, .map (some mb)), (2, .map (some mp)), (7, .string (en (nd ns i).ents j).name), (16, .slice (L.eA i) ((nd ns i).ents.length) ((L.eC i))), (17, .int .i64 ↑((nd ns i).ents.length)), (18, .int .i64 ↑(j + 1))]) (obl := [(Value.int .i64 (IntKind.wrap .i64 (((j : Nat) : Int) + 1))) = (.int .i64 ↑(j + 1))]) [⟨[], none, none, none, some (.int .i64 ↑(j + 1))⟩, o_] [0, 1, 2, 7, 16, 17, 18] (fun _ _ => by kernel_rfl) ⟨wrapEq (by omega) (by omega) (by omega), trivial⟩ ?_
      refine TriL.nil (by kernel_rfl) ?_
      exact TriQ.turn ((j + 1)) (idx := [0, 1, 2, 7, 16, 17, 18]) (pk := [0, 1, 2]) (show (((j + 1)) ≤ (nd ns i).ents.length) ∧ (∀ t, t < ((j + 1)) → EntOk ns i t) ∧ (((rowE ns i ((j + 1)) ++ ps).map Prod.fst).Nodup) from ⟨by omega, fun t ht => (by rcases Nat.lt_succ_iff_lt_or_eq.1 ht with h | h; exact hok t h; subst h; exact ⟨hat, h34, h39⟩), (by rw [rowE_skip h46]; exact hnd)⟩) (by show (nd ns i).ents.length - ((j + 1)) < (nd ns i).ents.length - j; omega) (fun _ => by kernel_rfl) rfl (by kernel_rfl)
     ·
      refine Tri.skip (TriQ.next (Tri.seq (Tri.seq (Tri.region ?_))))
      refine TriL.segK (k' := 3) (fr' := [(0, .pointer (some ⟨(blkOf A), offOf A + i * 10, none⟩)), (1, .map (some mb)), (2, .map (some mp)), (7, .string (en (nd ns i).ents j).name), (9, .pointer (some ⟨b1, 0, none⟩)), (16, .slice (L.eA i) ((nd ns i).ents.length) ((L.eC i))), (17, .int .i64 ↑((nd ns i).ents.length)), (18, .int .i64 ↑j), (48, .map (some mp)), (50, .int .i64 ((en (nd ns i).ents j).id))]) (obl := [b1 = b1]) [o_, o_, ⟨[.at 3], none, none, none, none⟩] [0, 1, 2, 7, 9, 16, 17, 18, 48, 50] (fun _ _ => by kernel_rfl) ⟨rfl, trivial⟩ ?_
      rcases hup : up ((rowE ns i j ++ ps).map (idP ns)) (en (nd ns i).ents j).id with _ | y
      ·
       refine TriL.mapLookOk 1 (d := (some 51)) (t := 107) (K := 3) (E := 3) (b := mp) (n := (rowE ns i j ++ ps).length) (f := (mf (pf ((rowE ns i j ++ ps).map (idP ns))))) (x := (.tmp 48)) (ix := (.tmp 50)) (key := .int .i64 ((en (nd ns i).ents j).id)) (z := .int .i64 0) (kl := (.int .i64 (en (nd ns i).ents j).id)) (r := none) (fun _ => by kernel_rfl) (by kernel_rfl) (fun _ => by kernel_rfl) (fun _ => by kernel_rfl) lawI Try.underlying107 (fun _ => by kernel_rfl) (keyI (hwf j (by omega)).1 (hwf j (by omega)).2) (pf_at_none hup) ?_
       refine TriL.segK (k' := 9) (fr' := [(0, .pointer (some ⟨(blkOf A), offOf A + i * 10, none⟩)), (1, .map (some mb)), (2, .map (some mp)), (7, .string (en (nd ns i).ents j).name), (9, .pointer (some ⟨b1, 0, none⟩)), (12, .bool false), (16, .slice (L.eA i) ((nd ns i).ents.length) ((L.eC i))), (17, .int .i64 ↑((nd ns i).ents.length)), (18, .int .i64 ↑j)]) (obl := []) [o_, o_, o_, o_, o_] [0, 1, 2, 7, 9, 12, 16, 17, 18] (fun _ _ => by kernel_rfl) trivial ?_
       refine TriL.nil (by kernel_rfl) (TriQ.next (Tri.seq (Tri.region ?_)))
       refine TriL.segK (k' := 1) (fr' := [(0, .pointer (some ⟨(blkOf A), offOf A + i * 10, none⟩)), (1, .map (some mb)), (2, .map (some mp)), (7, .string (en (nd ns i).ents j).name), (9, .pointer (some ⟨b1, 0, none⟩)), (16, .slice (L.eA i) ((nd ns i).ents.length) ((L.eC i))), (17, .int .i64 ↑((nd ns i).ents.length)), (18, .int .i64 ↑j), (54, .bool false)]) (obl := []) [o_] [0, 1, 2, 7, 9, 16, 17, 18, 54] (fun _ _ => by kernel_rfl) trivial ?_
       refine TriL.nil (by kernel_rfl) (TriQ.next ?_)
       refine Tri.condF (fun _ => by kernel_rfl) ?_
       refine Tri.skip (TriQ.next ?_)
       refine Tri.regionStill 7 (by kernel_rfl) (by kernel_rfl) ?_
       refine TriLS.seg (k' := 7) (fr' := [(0, .pointer (some ⟨(blkOf A), offOf A + i * 10, none⟩)), (1, .map (some mb)), (2, .map (some mp)), (7, .string (en (nd ns i).ents j).name), (16, .slice (L.eA i) ((nd ns i).ents.length) ((L.eC i))), (17, .int .i64 ↑((nd ns i).ents.length)), (18, .int .i64 ↑j), (55, .map (some mp)), (57, .int .i64 ((en (nd ns i).ents j).id)), (61, .int .i64 ((nd ns i).id))]) (obl := [(Rd β ⟨(blkOf A), offOf A + i * 10, none⟩ (.int .i64 ((nd ns i).id))), b1 = b1]) [o_, o_, ⟨[.at 3], none, none, none, none⟩, o_, o_, o_, ⟨[.old (.int .i64 ((nd ns i).id))], none, none, none, none⟩] [0, 1, 2, 7, 16, 17, 18, 55, 57, 61] (fun _ _ => by kernel_rfl) ⟨GraphAt.rd hG (i := i) (by omega) (j := 0) rfl, rfl, trivial⟩ (by decide) ?_
       refine TriLS.done rfl ?_
       refine TriL.mapSet 1 (d := none) (t := 107) (K := 3) (E := 3) (b := mp) (n := (rowE ns i j ++ ps).length) (f := (mf (pf ((rowE ns i j ++ ps).map (idP ns))))) (x := (.tmp 55)) (ix := (.tmp 57)) (y := (.tmp 61)) (key := .int .i64 ((en (nd ns i).ents j).id)) (u := .int .i64 ((nd ns i).id)) (kl := (.int .i64 (en (nd ns i).ents j).id)) (n' := (rowE ns i (j + 1) ++ ps).length) (f' := (mf (pf ((rowE ns i (j + 1) ++ ps).map (idP ns))))) (fun _ => by kernel_rfl) (by kernel_rfl) (fun _ => by kernel_rfl) (fun _ => by kernel_rfl) (fun _ => by kernel_rfl) lawI Try.underlying107 (by have := rowE_len ns i j; rw [List.length_append]; unfold maxLen; omega) (keyI (hwf j (by omega)).1 (hwf j (by omega)).2) (len_edge (pf_at_none hup) h46) (upd_edge hat h46) ?_
       refine TriL.nil (by kernel_rfl) (TriQ.blockNormal (TriQ.next (Tri.region ?_)))
       refine TriL.segK (k' := 2) (fr' := [(0, .pointer (some ⟨(blkOf A), offOf A + i * 10, none⟩)), (1, .map (some mb)), (2, .map (some mp)), (7, .string (en (nd ns i).ents j).name), (16, .slice (L.eA i) ((nd ns i).ents.length) ((L.eC i))), (17, .int .i64 ↑((nd ns i).ents.length)), (18, .int .i64 ↑(j + 1))]) (obl := [(Value.int .i64 (IntKind.wrap .i64 (((j : Nat) : Int) + 1))) = (.int .i64 ↑(j + 1))]) [⟨[], none, none, none, some (.int .i64 ↑(j + 1))⟩, o_] [0, 1, 2, 7, 16, 17, 18] (fun _ _ => by kernel_rfl) ⟨wrapEq (by omega) (by omega) (by omega), trivial⟩ ?_
       refine TriL.nil (by kernel_rfl) ?_
       exact TriQ.turn ((j + 1)) (idx := [0, 1, 2, 7, 16, 17, 18]) (pk := [0, 1, 2]) (show (((j + 1)) ≤ (nd ns i).ents.length) ∧ (∀ t, t < ((j + 1)) → EntOk ns i t) ∧ (((rowE ns i ((j + 1)) ++ ps).map Prod.fst).Nodup) from ⟨by omega, fun t ht => (by rcases Nat.lt_succ_iff_lt_or_eq.1 ht with h | h; exact hok t h; subst h; exact ⟨hat, h34, h39⟩), (nodup_edge hat h46 hup hnd)⟩) (by show (nd ns i).ents.length - ((j + 1)) < (nd ns i).ents.length - j; omega) (fun _ => by kernel_rfl) rfl (by kernel_rfl)
      ·
       refine TriL.mapLookOk 1 (d := (some 51)) (t := 107) (K := 3) (E := 3) (b := mp) (n := (rowE ns i j ++ ps).length) (f := (mf (pf ((rowE ns i j ++ ps).map (idP ns))))) (x := (.tmp 48)) (ix := (.tmp 50)) (key := .int .i64 ((en (nd ns i).ents j).id)) (z := .int .i64 0) (kl := (.int .i64 (en (nd ns i).ents j).id)) (r := (some (.int .i64 y))) (fun _ => by kernel_rfl) (by kernel_rfl) (fun _ => by kernel_rfl) (fun _ => by kernel_rfl) lawI Try.underlying107 (fun _ => by kernel_rfl) (keyI (hwf j (by omega)).1 (hwf j (by omega)).2) (pf_at hup) ?_
       refine TriL.segK (k' := 9) (fr' := [(0, .pointer (some ⟨(blkOf A), offOf A + i * 10, none⟩)), (1, .map (some mb)), (2, .map (some mp)), (7, .string (en (nd ns i).ents j).name), (9, .pointer (some ⟨b1, 0, none⟩)), (12, .bool true), (16, .slice (L.eA i) ((nd ns i).ents.length) ((L.eC i))), (17, .int .i64 ↑((nd ns i).ents.length)), (18, .int .i64 ↑j)]) (obl := []) [o_, o_, o_, o_, o_] [0, 1, 2, 7, 9, 12, 16, 17, 18] (fun _ _ => by kernel_rfl) trivial ?_
       refine TriL.nil (by kernel_rfl) (TriQ.next (Tri.seq (Tri.region ?_)))
       refine TriL.segK (k' := 1) (fr' := [(0, .pointer (some ⟨(blkOf A), offOf A + i * 10, none⟩)), (1, .map (some mb)), (2, .map (some mp)), (7, .string (en (nd ns i).ents j).name), (9, .pointer (some ⟨b1, 0, none⟩)), (16, .slice (L.eA i) ((nd ns i).ents.length) ((L.eC i))), (17, .int .i64 ↑((nd ns i).ents.length)), (18, .int .i64 ↑j), (54, .bool true)]) (obl := []) [o_] [0, 1, 2, 7, 9, 16, 17, 18, 54] (fun _ _ => by kernel_rfl) trivial ?_
       refine TriL.nil (by kernel_rfl) (TriQ.next ?_)
       refine Tri.condT (fun _ => by kernel_rfl) ?_
       refine Tri.seq (Tri.region ?_)
       refine TriL.segK (k' := 1) (fr' := [(6, .bool false)]) (obl := []) [o_] [6] (fun _ _ => by kernel_rfl) trivial ?_
       refine TriL.nil (by kernel_rfl) (TriQ.next (Tri.ret (TriQ.passRet (TriQ.blockRet (TriQ.passRet (TriQ.passRet (TriQ.blockRet (TriQ.passRet ?_))))))))
       exact TriQ.ret (v := .bool false) (l := []) (obl := []) [] [2] (fun _ => by kernel_rfl) trivial rfl (by kernel_rfl) (.inr ⟨rfl, rowOk_twice hr hps hok hat h46 hup (by omega), rfl⟩)
  ·
   refine TriL.mapLook 0 (d := (some 25)) (t := 66) (K := 3) (E := 75) (b := mb) (n := ns.length) (f := (mf (bf A ns ns.length))) (x := (.tmp 22)) (ix := (.tmp 24)) (key := .int .i64 ((en (nd ns i).ents j).id)) (z := .pointer none) (kl := (.int .i64 (en (nd ns i).ents j).id)) (r := none) (fun _ => by kernel_rfl) (by kernel_rfl) (fun _ => by kernel_rfl) (fun _ => by kernel_rfl) lawI Try.underlying66 (fun _ => by kernel_rfl) (keyI (hwf j (by omega)).1 (hwf j (by omega)).2) (bf_none hat) ?_
   refine TriL.segK (k' := 5) (fr' := [(0, .pointer (some ⟨(blkOf A), offOf A + i * 10, none⟩)), (1, .map (some mb)), (2, .map (some mp)), (7, .string (prevName ns i j)), (9, .pointer (some ⟨b1, 0, none⟩)), (10, .pointer none), (16, .slice (L.eA i) ((nd ns i).ents.length) ((L.eC i))), (17, .int .i64 ↑((nd ns i).ents.length)), (18, .int .i64 ↑j)]) (obl := []) [o_] [0, 1, 2, 7, 9, 10, 16, 17, 18] (fun _ _ => by kernel_rfl) trivial ?_
   refine TriL.nil (by kernel_rfl) (TriQ.next (Tri.seq (Tri.seq (Tri.region ?_))))
   refine TriL.segK (k' := 14) (fr' := [(0, .pointer (some ⟨(blkOf A), offOf A + i * 10, none⟩)), (1, .map (some mb)), (2, .map (some mp)), (9, .pointer (some ⟨b1, 0, none⟩)), (10, .pointer none), (16, .slice (L.eA i) ((nd ns i).ents.length) ((L.eC i))), (17, .int .i64 ↑((nd ns i).ents.length)), (18, .int .i64 ↑j), (39, .bool true)]) (obl := []) [o_, o_, o_, o_, o_, o_, o_, o_, o_, o_, o_, o_, o_, o_] [0, 1, 2, 9, 10, 16, 17, 18, 39] (fun _ _ => by kernel_rfl) trivial ?_
   refine TriL.nil (by kernel_rfl) (TriQ.next ?_)
   refine Tri.condT (fun _ => by kernel_rfl) ?_
   refine Tri.seq (Tri.region ?_)
   refine TriL.segK (k' := 1) (fr' := [(6, .bool false)]) (obl := []) [o_] [6] (fun _ _ => by kernel_rfl) trivial ?_
   refine TriL.nil (by kernel_rfl) (TriQ.next (Tri.ret (TriQ.passRet (TriQ.blockRet (TriQ.passRet (TriQ.passRet (TriQ.blockRet (TriQ.passRet ?_))))))))
   exact TriQ.ret (v := .bool false) (l := []) (obl := []) [] [2] (fun _ => by kernel_rfl) trivial rfl (by kernel_rfl) (.inr ⟨rfl, fun h => hat (h.ents j (by omega)).at_, rfl⟩)
 ·
  refine Tri.exit (TriQ.passExit (TriQ.passExit (TriQ.blockHit (TriQ.next (Tri.seq (Tri.region ?_))))))
  refine TriL.segK (k' := 1) (fr' := [(6, .bool true)]) (obl := []) [o_] [6] (fun _ _ => by kernel_rfl) trivial ?_
  refine TriL.nil (by kernel_rfl) (TriQ.next (Tri.ret ?_))
  exact TriQ.ret (v := .bool true) (l := [.abs (MapA Try.prog 3 mb (mf (bf A ns ns.length)) ns.length), .abs (MapA Try.prog 3 mp (mf (pf ((rowE ns i j ++ ps).map (idP ns)))) ((rowE ns i j ++ ps).length))]) (obl := []) [] [0, 1, 2] (fun _ => by kernel_rfl) trivial rfl (by kernel_rfl) (.inl ⟨rfl, ⟨fun t ht => hok t (by omega), by have := hnd; rwa [show j = (nd ns i).ents.length by omega] at this⟩, by rw [show j = (nd ns i).ents.length by omega]⟩)
end Go.Proofs.Ytjpdcppdoonmdaa
end
/- part GR. PROVED HERE: what a well-formed graph is; plain laws for the walk through its nodes. CONDITIONS: none. No statement of the seat is proved here. -/
section
namespace Go.Proofs.Ytjpdcppdoonmdaa
open Go.RowKit Go.Maps
def entSum (ns : List NodeM) : Nat → Nat
  | 0 => 0
  | k + 1 => entSum ns k + (nd ns k).ents.length
def lastId (ns : List NodeM) : Nat → Int
  | 0 => 0
  | k + 1 => (nd ns k).id
structure GraphOk (ns : List NodeM) : Prop where
  len : ns.length ≤ 4096
  node : ∀ i, i < ns.length → NodeOk (nd ns i)
  ids : ∀ i, i < ns.length → 1 ≤ (nd ns i).id ∧ (nd ns i).id ≤ 1099511627776
  rise : Rising ns
  sum : entSum ns ns.length ≤ 8192
  ents : ∀ i, i < ns.length → ∀ j, j < (nd ns i).ents.length → EntOk ns i j
  nodup : ((allE ns ns.length).map Prod.fst).Nodup
  ends : AllEnd ((allE ns ns.length).map (idP ns))
noncomputable instance (ns : List NodeM) : Decidable (GraphOk ns) := Classical.propDecidable _
theorem GraphOk.last {ns : List NodeM} (h : GraphOk ns) {k : Nat} (hk : k < ns.length) : lastId ns k < (nd ns k).id := by
  cases k with
  | zero => have := (h.ids 0 hk).1; show (0 : Int) < _; omega
  | succ k => exact h.rise k (k + 1) (Nat.lt_succ_self k) hk
/-- the first k nodes' numbers rise, and lie in their bounds -/
structure Upto (ns : List NodeM) (k : Nat) : Prop where
  node : ∀ i, i < k → NodeOk (nd ns i)
  ids : ∀ i, i < k → 1 ≤ (nd ns i).id ∧ (nd ns i).id ≤ 1099511627776
  rise : ∀ i j, i < j → j < k → (nd ns i).id < (nd ns j).id
theorem Upto.zero (ns : List NodeM) : Upto ns 0 := ⟨fun i h => absurd h (Nat.not_lt_zero i), fun i h => absurd h (Nat.not_lt_zero i), fun _ j _ h => absurd h (Nat.not_lt_zero j)⟩
theorem Upto.last {ns : List NodeM} {k : Nat} (h : Upto ns k) : 0 ≤ lastId ns k ∧ lastId ns k ≤ 1099511627776 := by
  cases k with
  | zero => exact ⟨Int.le_refl _, by show (0 : Int) ≤ 1099511627776; decide⟩
  | succ k => have := h.ids k (Nat.lt_succ_self k); exact ⟨by show 0 ≤ (nd ns k).id; omega, this.2⟩
theorem Upto.step {ns : List NodeM} {k : Nat} (h : Upto ns k) (h1 : lastId ns k < (nd ns k).id) (h2 : (nd ns k).id ≤ 1099511627776) (h3 : NodeOk (nd ns k)) : Upto ns (k + 1) := by
  have hl := h.last
  refine ⟨fun i hi => ?_, fun i hi => ?_, fun i j hij hj => ?_⟩
  · rcases Nat.lt_succ_iff_lt_or_eq.1 hi with e | e
    · exact h.node i e
    · rw [e]; exact h3
  · rcases Nat.lt_succ_iff_lt_or_eq.1 hi with e | e
    · exact h.ids i e
    · rw [e]; omega
  · rcases Nat.lt_succ_iff_lt_or_eq.1 hj with e | e
    · exact h.rise i j hij e
    · subst e
      cases j with
      | zero => omega
      | succ m =>
        have h4 : (nd ns m).id < (nd ns (m + 1)).id := h1
        rcases Nat.lt_succ_iff_lt_or_eq.1 hij with e | e
        · have := h.rise i m e (Nat.lt_succ_self m); omega
        · rw [e]; exact h4
theorem atI_upto {ns : List NodeM} {k : Nat} (h : ∀ i, i < k → (nd ns i).id < (nd ns k).id) (hk : k < ns.length) : atI ns (nd ns k).id = (k : Int) := by
  unfold atI
  have hg : ∀ j (hj : j < ns.length), nd ns j = ns[j] := fun j hj => by
    unfold nd
    rw [List.getD_eq_getElem?_getD, List.getElem?_eq_getElem hj]
    rfl
  have : ns.findIdx? (fun n => n.id == (nd ns k).id) = some k := by
    rw [List.findIdx?_eq_some_iff_getElem]
    refine ⟨hk, by rw [← hg k hk]; simp, fun j hj => ?_⟩
    have := h j hj
    rw [← hg j (by omega)]
    simp
    omega
  rw [this]
theorem bf_upd {A : Option Addr} {ns : List NodeM} {k : Nat} (h : ∀ i, i < k → (nd ns i).id < (nd ns k).id) (hk : k < ns.length) :
    upd (mf (bf A ns k)) (.int .i64 (nd ns k).id) (some (.pointer (some ⟨blkOf A, offOf A + k * 10, none⟩))) = mf (bf A ns (k + 1)) := by
  have ha := atI_upto h hk
  rw [mf_upd]
  congr 1
  funext z
  unfold bf
  by_cases e : z = (nd ns k).id
  · subst e
    rw [if_pos rfl, if_pos ⟨by omega, by omega⟩]
    unfold tgt
    rw [ha]
    rfl
  · rw [if_neg e]
    by_cases e1 : 0 ≤ atI ns z ∧ atI ns z < (k : Int)
    · rw [if_pos e1, if_pos ⟨e1.1, by omega⟩]
    · rw [if_neg e1, if_neg (fun e2 => ?_)]
      have e3 : atI ns z = (k : Int) := by omega
      have e4 := (atI_lt e2.1).2
      rw [e4.2] at e3
      have e5 : tgt ns z = k := by omega
      rw [e5] at e4
      exact e e4.1.symm
theorem bf_fresh {A : Option Addr} {ns : List NodeM} {k : Nat} (h : ∀ i, i < k → (nd ns i).id < (nd ns k).id) (hk : k < ns.length) : (if ((mf (bf A ns k)) (.int .i64 (nd ns k).id)).isSome then k else k + 1) = k + 1 := by
  have ha := atI_upto h hk
  have : mf (bf A ns k) (.int .i64 (nd ns k).id) = none := if_neg (fun e => by omega)
  rw [this]
  rfl
theorem Upto.below {ns : List NodeM} {k : Nat} (h : Upto ns k) (h1 : lastId ns k < (nd ns k).id) : ∀ i, i < k → (nd ns i).id < (nd ns k).id := by
  intro i hi
  cases k with
  | zero => omega
  | succ m =>
    have h1 : (nd ns m).id < (nd ns (m + 1)).id := h1
    rcases Nat.lt_succ_iff_lt_or_eq.1 hi with e | e
    · have := h.rise i m e (Nat.lt_succ_self m); omega
    · rw [e]; exact h1
theorem bf_zero {A : Option Addr} {ns : List NodeM} : mf (bf A ns 0) = fun _ => none := by
  rw [← mf_none]
  congr 1
  funext z
  exact if_neg (fun e => by omega)
theorem pf_zero {ns : List NodeM} : mf (pf ((allE ns 0).map (idP ns))) = fun _ => none := by
  rw [← mf_none]
  congr 1
theorem allE_fst {ns : List NodeM} {i : Nat} (hi : i ≤ ns.length) (h : ∀ a, a < i → ∀ j, j < (nd ns a).ents.length → EntOk ns a j) : ∀ p, p ∈ allE ns i → p.1 < ns.length ∧ p.2 < ns.length := by
  induction i with
  | zero => intro p hp; cases hp
  | succ i ih =>
    intro p hp
    rw [allE] at hp
    rcases List.mem_append.1 hp with hp | hp
    · have := rowE_fst (h i (Nat.lt_succ_self i)) p hp
      exact ⟨this.1, by omega⟩
    · exact ih (by omega) (fun a ha => h a (by omega)) p hp
theorem allE_len (ns : List NodeM) (i : Nat) : (allE ns i).length ≤ entSum ns i := by
  induction i with
  | zero => exact Nat.le_refl _
  | succ i ih =>
    rw [allE, entSum, List.length_append]
    have := rowE_len ns i (nd ns i).ents.length
    omega
theorem entSum_mono {ns : List NodeM} {i m : Nat} (h : i ≤ m) : entSum ns i ≤ entSum ns m := by
  induction m with
  | zero => rw [Nat.le_zero.1 h]; exact Nat.le_refl _
  | succ m ih =>
    rcases Nat.lt_or_ge m i with h1 | h1
    · have : i = m + 1 := by omega
      subst this
      exact Nat.le_refl _
    · have := ih h1
      rw [entSum]
      omega
theorem up_bounds {ns : List NodeM} {ps : List (Nat × Nat)} (hp : ∀ p, p ∈ ps → p.1 < ns.length ∧ p.2 < ns.length) (hid : ∀ i, i < ns.length → 1 ≤ (nd ns i).id ∧ (nd ns i).id ≤ 1099511627776) :
    ∀ z y, up (ps.map (idP ns)) z = some y → (-9223372036854775808 ≤ z ∧ z ≤ 9223372036854775807) ∧ (-9223372036854775808 ≤ y ∧ y ≤ 9223372036854775807) := by
  intro z y h
  unfold up at h
  induction ps with
  | nil => cases h
  | cons p ps ih =>
    obtain ⟨a, b⟩ := p
    rw [List.map_cons, idP, List.lookup_cons] at h
    by_cases e : (z == (nd ns a).id) = true
    · rw [e] at h
      cases h
      have h1 := hp (a, b) (List.mem_cons_self ..)
      have h2 := hid a h1.1
      have h3 := hid b h1.2
      have : z = (nd ns a).id := by simpa using e
      show (_ ∧ _) ∧ (-9223372036854775808 ≤ (nd ns b).id ∧ (nd ns b).id ≤ 9223372036854775807)
      omega
    · have e : (z == (nd ns a).id) = false := by simpa using e
      rw [e] at h
      exact ih (fun p hp' => hp p (List.mem_cons_of_mem _ hp')) h
theorem dec_or {p : Prop} [Decidable p] {v : Value} {l : List HP} (h : v = .bool (decide p) ∧ l = []) : (v = .bool true ∧ p ∧ l = []) ∨ (v = .bool false ∧ ¬ p ∧ l = []) := by
  by_cases hp : p
  · exact .inl ⟨by rw [h.1, decide_eq_true hp], hp, h.2⟩
  · exact .inr ⟨by rw [h.1, decide_eq_false hp], hp, h.2⟩
theorem RowOk.next {ns : List NodeM} {i : Nat} (h : RowOk ns i (allE ns i)) : ((allE ns (i + 1)).map Prod.fst).Nodup := h.nodup
theorem GraphOk.row {ns : List NodeM} (h : GraphOk ns) {i : Nat} (hi : i < ns.length) : RowOk ns i (allE ns i) := by
  refine ⟨h.ents i hi, ?_⟩
  obtain ⟨l, hl⟩ := allE_mono (ns := ns) (show i + 1 ≤ ns.length from hi)
  have := h.nodup
  rw [hl] at this
  exact nodup_suffix this
end Go.Proofs.Ytjpdcppdoonmdaa
end
/- part GRead. PROVED HERE: a graph is read CONDITIONS: as the theorems say. Printed by a program of this repo (wip/v). -/
section
namespace Go.Proofs.Ytjpdcppdoonmdaa
open Go.RowKit
attribute [local irreducible] TriL TriLQ Tri TriQ
set_option maxRecDepth 100000 in
set_option maxHeartbeats 4000000 in
theorem sp_read {β : Bs} (A : Option Addr) (c : Nat) (ns : List NodeM) (L : Lay) (hG : GraphAt β A ns L) (hl : ns.length ≤ 1048576) (hd : ∀ i, i < ns.length → (nd ns i).data.length ≤ 1048576 ∧ (nd ns i).ents.length ≤ 1048576) (hwf : ∀ i, i < ns.length → ∀ j, j < (nd ns i).ents.length → -9223372036854775808 ≤ (ent ns i j).id ∧ (ent ns i j).id ≤ 9223372036854775807) (hnm : ∀ i, i < ns.length → ∀ j, j < (nd ns i).ents.length → (ent ns i j).name.size ≤ 1048576) :
    Spec Try.prog β 37 #[.agg #[.slice A ns.length c]] [] (fun v l => (∃ mb, v = .tuple #[.map (some mb), .bool true] ∧ GraphOk ns ∧ l = [.abs (MapA Try.prog 3 mb (mf (bf A ns ns.length)) ns.length)]) ∨ (∃ m, v = .tuple #[m, .bool false] ∧ ¬ GraphOk ns ∧ l = [])) := by
 refine Spec.enter Try.func37 rfl Try.ntmps37 (Nat.le_of_ble_eq_true rfl) (fun R => ?_)
 refine Tri.seq (Tri.region ?_)
 refine TriL.segN (k' := 3) (fr' := fun b1 => [(1, .pointer (some ⟨b1, 0, none⟩))]) (hps' := fun b1 => [.abs R, .blk b1 [.slice A (ns.length) (c)] 24]) (obl := fun b1 => []) [o_, o_, o_] [1] [0, 1] (fun _ _ => by kernel_rfl) (fun b1 => trivial) (fun b1 => ?_)
 refine TriL.nil (by kernel_rfl) (TriQ.next (Tri.seq (Tri.seq (Tri.region ?_))))
 refine TriL.segK (k' := 4) (fr' := [(1, .pointer (some ⟨b1, 0, none⟩)), (14, .bool (decide ((((ns.length : Nat) : Int) : Int) > (4096 : Int))))]) (obl := [b1 = b1]) [o_, ⟨[.at 1], none, none, none, none⟩, o_, o_] [1, 14] (fun _ _ => by kernel_rfl) ⟨rfl, trivial⟩ ?_
 refine TriL.nil (by kernel_rfl) (TriQ.next ?_)
 refine Tri.condP (p := (((ns.length : Nat) : Int) : Int) > (4096 : Int)) (fun _ => by kernel_rfl) (fun h14 => ?_) (fun h14 => ?_)
 ·
  refine Tri.seq (Tri.region ?_)
  refine TriL.segK (k' := 2) (fr' := [(2, .map none), (3, .bool false)]) (obl := []) [o_, o_] [2, 3] (fun _ _ => by kernel_rfl) trivial ?_
  refine TriL.nil (by kernel_rfl) (TriQ.next (Tri.ret (TriQ.passRet ?_)))
  exact TriQ.ret (v := .tuple #[.map none, .bool false]) (l := []) (obl := []) [] [0] (fun _ => by kernel_rfl) trivial rfl (by kernel_rfl) (.inr ⟨_, rfl, fun h => by have := h.len; omega, rfl⟩)
 ·
  refine Tri.skip (TriQ.next (Tri.seq (Tri.region ?_)))
  refine TriL.mapMake (d := (some 15)) (t := 66) (fun _ => by kernel_rfl) Try.prog rfl 3 (fun m2 => ?_)
  refine TriL.segK (k' := 2) (fr' := [(1, .pointer (some ⟨b1, 0, none⟩)), (4, .map (some m2))]) (obl := []) [o_] [1, 4] (fun _ _ => by kernel_rfl) trivial ?_
  refine TriL.nil (by kernel_rfl) (TriQ.next (Tri.seq (Tri.region ?_)))
  refine TriL.partEq 2 (p := .abs (MapA Try.prog 3 m2 (fun _ => none) 0)) (p' := .abs (MapA Try.prog 3 m2 (mf (bf A ns 0)) 0)) (by kernel_rfl) (by rw [bf_zero]) ?_
  refine TriL.segK (k' := 2) (fr' := [(1, .pointer (some ⟨b1, 0, none⟩)), (4, .map (some m2)), (5, .int .i64 0), (6, .int .i64 0)]) (obl := []) [o_, o_] [1, 4, 5, 6] (fun _ _ => by kernel_rfl) trivial ?_
  refine TriL.nil (by kernel_rfl) (TriQ.next (Tri.seq (Tri.seq (Tri.region ?_))))
  refine TriL.segK (k' := 4) (fr' := [(1, .pointer (some ⟨b1, 0, none⟩)), (4, .map (some m2)), (5, .int .i64 0), (6, .int .i64 0), (18, .int .i64 ↑ns.length), (19, .int .i64 0)]) (obl := [b1 = b1]) [o_, ⟨[.at 1], none, none, none, none⟩, o_, o_] [1, 4, 5, 6, 18, 19] (fun _ _ => by kernel_rfl) ⟨rfl, trivial⟩ ?_
  refine TriL.nil (by kernel_rfl) (TriQ.next (Tri.block ?_))
  refine Tri.loop (ι := Nat) (fun (k : Nat) => (k ≤ ns.length) ∧ (Upto ns k) ∧ (entSum ns k ≤ k * 1048576)) (fun (k : Nat) => ns.length - k) (fun (k : Nat) => [(1, .pointer (some ⟨b1, 0, none⟩)), (4, .map (some m2)), (5, .int .i64 (lastId ns k)), (6, .int .i64 ↑(entSum ns k)), (18, .int .i64 ↑ns.length), (19, .int .i64 ↑k)]) (fun (k : Nat) => [.blk b1 [.slice A (ns.length) (c)] 24, .abs (MapA Try.prog 3 m2 (mf (bf A ns k)) k), .abs R]) 0 (idx := [1, 4, 5, 6, 18, 19]) (pk := [1, 2, 0]) (show (0 ≤ ns.length) ∧ (Upto ns 0) ∧ (entSum ns 0 ≤ 0 * 1048576) from ⟨Nat.zero_le _, Upto.zero ns, Nat.zero_le _⟩) (fun _ => by kernel_rfl) rfl (by kernel_rfl) ?_
  rintro k ⟨hk, hu, hs⟩
  show Tri _ _ _ _ [(1, .pointer (some ⟨b1, 0, none⟩)), (4, .map (some m2)), (5, .int .i64 (lastId ns k)), (6, .int .i64 ↑(entSum ns k)), (18, .int .i64 ↑ns.length), (19, .int .i64 ↑k)] [.blk b1 [.slice A (ns.length) (c)] 24, .abs (MapA Try.prog 3 m2 (mf (bf A ns k)) k), .abs R] _
  have hk4 := (hd k)
  refine Tri.seq (Tri.region ?_)
  refine TriL.segK (k' := 1) (fr' := [(1, .pointer (some ⟨b1, 0, none⟩)), (4, .map (some m2)), (5, .int .i64 (lastId ns k)), (6, .int .i64 ↑(entSum ns k)), (18, .int .i64 ↑ns.length), (19, .int .i64 ↑k), (20, .bool (decide ((((k : Nat) : Int) : Int) < (((ns.length : Nat) : Int) : Int))))]) (obl := []) [o_] [1, 4, 5, 6, 18, 19, 20] (fun _ _ => by kernel_rfl) trivial ?_
  refine TriL.nil (by kernel_rfl) (TriQ.next (Tri.seq ?_))
  refine Tri.condP (p := (((k : Nat) : Int) : Int) < (((ns.length : Nat) : Int) : Int)) (fun _ => by kernel_rfl) (fun h20 => ?_) (fun h20 => ?_)
  ·
   refine Tri.skip (TriQ.next (Tri.seq (Tri.block (Tri.seq (Tri.region ?_)))))
   refine TriL.segK (k' := 2) (fr' := [(1, .pointer (some ⟨b1, 0, none⟩)), (4, .map (some m2)), (5, .int .i64 (lastId ns k)), (6, .int .i64 ↑(entSum ns k)), (7, .int .i64 ↑k), (18, .int .i64 ↑ns.length), (19, .int .i64 ↑k)]) (obl := []) [o_, o_] [1, 4, 5, 6, 7, 18, 19] (fun _ _ => by kernel_rfl) trivial ?_
   refine TriL.nil (by kernel_rfl) (TriQ.next (Tri.seq (Tri.region ?_)))
   refine TriL.segK (k' := 5) (fr' := [(1, .pointer (some ⟨b1, 0, none⟩)), (4, .map (some m2)), (5, .int .i64 (lastId ns k)), (6, .int .i64 ↑(entSum ns k)), (8, .pointer (some ⟨(blkOf A), offOf A + k * 10, none⟩)), (18, .int .i64 ↑ns.length), (19, .int .i64 ↑k)]) (obl := [((k : Nat) : Int) = ((k : Nat) : Int), k < ns.length, (⟨(blkOf A), offOf A, none⟩ : Addr).spot = none, (A : Option Addr) = some ⟨(blkOf A), offOf A, none⟩, b1 = b1]) [o_, ⟨[.at 0], none, none, none, none⟩, o_, ⟨[], some k, none, some ⟨(blkOf A), offOf A, none⟩, none⟩, o_] [1, 4, 5, 6, 8, 18, 19] (fun _ _ => by kernel_rfl) ⟨rfl, by omega, rfl, GraphAt.hd hG (i := k) (by omega), rfl, trivial⟩ ?_
   refine TriL.nil (by kernel_rfl) (TriQ.next (Tri.seq (Tri.seq (Tri.region ?_))))
   refine TriL.segK (k' := 7) (fr' := [(1, .pointer (some ⟨b1, 0, none⟩)), (4, .map (some m2)), (6, .int .i64 ↑(entSum ns k)), (8, .pointer (some ⟨(blkOf A), offOf A + k * 10, none⟩)), (18, .int .i64 ↑ns.length), (19, .int .i64 ↑k), (32, .bool (decide (((nd ns k).id : Int) ≤ (lastId ns k : Int))))]) (obl := [(Rd β ⟨(blkOf A), offOf A + k * 10, none⟩ (.int .i64 ((nd ns k).id)))]) [o_, o_, o_, ⟨[.old (.int .i64 ((nd ns k).id))], none, none, none, none⟩, o_, o_, o_] [1, 4, 6, 8, 18, 19, 32] (fun _ _ => by kernel_rfl) ⟨GraphAt.rd hG (i := k) (by omega) (j := 0) rfl, trivial⟩ ?_
   refine TriL.slotP 32 (((nd ns k).id : Int) ≤ (lastId ns k : Int)) (fun _ => by kernel_rfl) (fun h32 => ?_) (fun h32 => ?_)
   ·
    refine TriL.segK (k' := 18) (fr' := [(1, .pointer (some ⟨b1, 0, none⟩)), (4, .map (some m2)), (6, .int .i64 ↑(entSum ns k)), (8, .pointer (some ⟨(blkOf A), offOf A + k * 10, none⟩)), (18, .int .i64 ↑ns.length), (19, .int .i64 ↑k), (43, .bool true)]) (obl := []) [o_, o_, o_, o_, o_, o_, o_, o_, o_, o_, o_] [1, 4, 6, 8, 18, 19, 43] (fun _ _ => by kernel_rfl) trivial ?_
    refine TriL.nil (by kernel_rfl) (TriQ.next ?_)
    refine Tri.condT (fun _ => by kernel_rfl) ?_
    refine Tri.seq (Tri.region ?_)
    refine TriL.segK (k' := 2) (fr' := [(2, .map none), (3, .bool false)]) (obl := []) [o_, o_] [2, 3] (fun _ _ => by kernel_rfl) trivial ?_
    refine TriL.nil (by kernel_rfl) (TriQ.next (Tri.ret (TriQ.passRet (TriQ.blockRet (TriQ.passRet (TriQ.passRet (TriQ.blockRet (TriQ.passRet ?_))))))))
    exact TriQ.ret (v := .tuple #[.map none, .bool false]) (l := []) (obl := []) [] [2] (fun _ => by kernel_rfl) trivial rfl (by kernel_rfl) (.inr ⟨_, rfl, fun h => by have := h.last (show k < ns.length by omega); omega, rfl⟩)
   ·
    refine TriL.segK (k' := 14) (fr' := [(1, .pointer (some ⟨b1, 0, none⟩)), (4, .map (some m2)), (6, .int .i64 ↑(entSum ns k)), (8, .pointer (some ⟨(blkOf A), offOf A + k * 10, none⟩)), (18, .int .i64 ↑ns.length), (19, .int .i64 ↑k), (39, .bool (decide (((nd ns k).id : Int) > (1099511627776 : Int))))]) (obl := [(Rd β ⟨(blkOf A), offOf A + k * 10, none⟩ (.int .i64 ((nd ns k).id)))]) [o_, o_, o_, ⟨[.old (.int .i64 ((nd ns k).id))], none, none, none, none⟩, o_, o_, o_] [1, 4, 6, 8, 18, 19, 39] (fun _ _ => by kernel_rfl) ⟨GraphAt.rd hG (i := k) (by omega) (j := 0) rfl, trivial⟩ ?_
    refine TriL.slotP 39 (((nd ns k).id : Int) > (1099511627776 : Int)) (fun _ => by kernel_rfl) (fun h39 => ?_) (fun h39 => ?_)
    ·
     refine TriL.segK (k' := 18) (fr' := [(1, .pointer (some ⟨b1, 0, none⟩)), (4, .map (some m2)), (6, .int .i64 ↑(entSum ns k)), (8, .pointer (some ⟨(blkOf A), offOf A + k * 10, none⟩)), (18, .int .i64 ↑ns.length), (19, .int .i64 ↑k), (43, .bool true)]) (obl := []) [o_, o_, o_, o_] [1, 4, 6, 8, 18, 19, 43] (fun _ _ => by kernel_rfl) trivial ?_
     refine TriL.nil (by kernel_rfl) (TriQ.next ?_)
     refine Tri.condT (fun _ => by kernel_rfl) ?_
     refine Tri.seq (Tri.region ?_)
     refine TriL.segK (k' := 2) (fr' := [(2, .map none), (3, .bool false)]) (obl := []) [o_, o_] [2, 3] (fun _ _ => by kernel_rfl) trivial ?_
     refine TriL.nil (by kernel_rfl) (TriQ.next (Tri.ret (TriQ.passRet (TriQ.blockRet (TriQ.passRet (TriQ.passRet (TriQ.blockRet (TriQ.passRet ?_))))))))
     exact TriQ.ret (v := .tuple #[.map none, .bool false]) (l := []) (obl := []) [] [2] (fun _ => by kernel_rfl) trivial rfl (by kernel_rfl) (.inr ⟨_, rfl, fun h => by have := (h.ids k (by omega)).2; omega, rfl⟩)
    ·
     refine TriL.segK (k' := 15) (fr' := [(1, .pointer (some ⟨b1, 0, none⟩)), (4, .map (some m2)), (6, .int .i64 ↑(entSum ns k)), (8, .pointer (some ⟨(blkOf A), offOf A + k * 10, none⟩)), (18, .int .i64 ↑ns.length), (19, .int .i64 ↑k), (39, .bool false), (40, .pointer (some ⟨(blkOf A), offOf A + k * 10, none⟩))]) (obl := []) [o_] [1, 4, 6, 8, 18, 19, 39, 40] (fun _ _ => by kernel_rfl) trivial ?_
     refine TriL.call (f := 58) (args := #[.pointer (some ⟨(blkOf A), offOf A + k * 10, none⟩)]) (d := (some 41)) (pre := []) (R := [.blk b1 [.slice A (ns.length) (c)] 24, .abs (MapA Try.prog 3 m2 (mf (bf A ns k)) k), .abs R]) (pk := [0, 1, 2]) (fun _ => by kernel_rfl) (sp_sound A ns L hG k (by omega)) rfl (by kernel_rfl) ?_
     rintro _ _ ⟨rfl, rfl⟩
     refine TriL.segK (k' := 18) (fr' := [(1, .pointer (some ⟨b1, 0, none⟩)), (4, .map (some m2)), (6, .int .i64 ↑(entSum ns k)), (8, .pointer (some ⟨(blkOf A), offOf A + k * 10, none⟩)), (18, .int .i64 ↑ns.length), (19, .int .i64 ↑k), (43, .bool (!(decide (NodeOk (nd ns k)))))]) (obl := []) [o_, o_] [1, 4, 6, 8, 18, 19, 43] (fun _ _ => by kernel_rfl) trivial ?_
     refine TriL.nil (by kernel_rfl) (TriQ.next ?_)
     refine Tri.condN (p := NodeOk (nd ns k)) (fun _ => by kernel_rfl) (fun h43 => ?_) (fun h43 => ?_)
     ·
      refine Tri.seq (Tri.region ?_)
      refine TriL.segK (k' := 2) (fr' := [(2, .map none), (3, .bool false)]) (obl := []) [o_, o_] [2, 3] (fun _ _ => by kernel_rfl) trivial ?_
      refine TriL.nil (by kernel_rfl) (TriQ.next (Tri.ret (TriQ.passRet (TriQ.blockRet (TriQ.passRet (TriQ.passRet (TriQ.blockRet (TriQ.passRet ?_))))))))
      exact TriQ.ret (v := .tuple #[.map none, .bool false]) (l := []) (obl := []) [] [2] (fun _ => by kernel_rfl) trivial rfl (by kernel_rfl) (.inr ⟨_, rfl, fun h => h43 (h.node k (by omega)), rfl⟩)
     ·
      refine Tri.skip (TriQ.next (Tri.seq (Tri.region ?_)))
      refine TriL.segK (k' := 5) (fr' := [(1, .pointer (some ⟨b1, 0, none⟩)), (4, .map (some m2)), (5, .int .i64 ((nd ns k).id)), (6, .int .i64 ↑(entSum ns k)), (8, .pointer (some ⟨(blkOf A), offOf A + k * 10, none⟩)), (18, .int .i64 ↑ns.length), (19, .int .i64 ↑k)]) (obl := [(Rd β ⟨(blkOf A), offOf A + k * 10, none⟩ (.int .i64 ((nd ns k).id)))]) [o_, o_, o_, ⟨[.old (.int .i64 ((nd ns k).id))], none, none, none, none⟩, o_] [1, 4, 5, 6, 8, 18, 19] (fun _ _ => by kernel_rfl) ⟨GraphAt.rd hG (i := k) (by omega) (j := 0) rfl, trivial⟩ ?_
      refine TriL.nil (by kernel_rfl) (TriQ.next (Tri.seq (Tri.region ?_)))
      refine TriL.segK (k' := 6) (fr' := [(1, .pointer (some ⟨b1, 0, none⟩)), (4, .map (some m2)), (5, .int .i64 ((nd ns k).id)), (6, .int .i64 ↑(entSum ns k)), (8, .pointer (some ⟨(blkOf A), offOf A + k * 10, none⟩)), (18, .int .i64 ↑ns.length), (19, .int .i64 ↑k), (48, .map (some m2)), (52, .int .i64 ((nd ns k).id)), (53, .pointer (some ⟨(blkOf A), offOf A + k * 10, none⟩))]) (obl := [(Rd β ⟨(blkOf A), offOf A + k * 10, none⟩ (.int .i64 ((nd ns k).id)))]) [o_, o_, o_, o_, ⟨[.old (.int .i64 ((nd ns k).id))], none, none, none, none⟩, o_] [1, 4, 5, 6, 8, 18, 19, 48, 52, 53] (fun _ _ => by kernel_rfl) ⟨GraphAt.rd hG (i := k) (by omega) (j := 0) rfl, trivial⟩ ?_
      refine TriL.mapSet 1 (d := none) (t := 66) (K := 3) (E := 75) (b := m2) (n := k) (f := (mf (bf A ns k))) (x := (.tmp 48)) (ix := (.tmp 52)) (y := (.tmp 53)) (key := .int .i64 ((nd ns k).id)) (u := .pointer (some ⟨(blkOf A), offOf A + k * 10, none⟩)) (kl := (.int .i64 (nd ns k).id)) (n' := k + 1) (f' := (mf (bf A ns (k + 1)))) (fun _ => by kernel_rfl) (by kernel_rfl) (fun _ => by kernel_rfl) (fun _ => by kernel_rfl) (fun _ => by kernel_rfl) lawI Try.underlying66 (by unfold maxLen; omega) (keyI (by have := hu.last; omega) (by omega)) (bf_fresh (hu.below (by omega)) (by omega)) (bf_upd (hu.below (by omega)) (by omega)) ?_
      refine TriL.nil (by kernel_rfl) (TriQ.next (Tri.region ?_))
      refine TriL.segK (k' := 8) (fr' := [(1, .pointer (some ⟨b1, 0, none⟩)), (4, .map (some m2)), (5, .int .i64 ((nd ns k).id)), (6, .int .i64 ↑((entSum ns k) + ((nd ns k).ents.length))), (18, .int .i64 ↑ns.length), (19, .int .i64 ↑k)]) (obl := [(Value.int .i64 (IntKind.wrap .i64 (((entSum ns k : Nat) : Int) + (((nd ns k).ents.length : Nat) : Int)))) = (.int .i64 ↑((entSum ns k) + ((nd ns k).ents.length))), (Rd β ⟨(blkOf A), offOf A + k * 10 + 9, none⟩ (.slice (L.eA k) ((nd ns k).ents.length) ((L.eC k))))]) [o_, o_, o_, o_, ⟨[.old (.slice (L.eA k) ((nd ns k).ents.length) ((L.eC k)))], none, none, none, none⟩, o_, ⟨[], none, none, none, some (.int .i64 ↑((entSum ns k) + ((nd ns k).ents.length)))⟩, o_] [1, 4, 5, 6, 18, 19] (fun _ _ => by kernel_rfl) ⟨wrapEq (by omega) (by omega) (by omega), GraphAt.rd hG (i := k) (by omega) (j := 9) rfl, trivial⟩ ?_
      refine TriL.nil (by kernel_rfl) (TriQ.blockNormal (TriQ.next (Tri.region ?_)))
      refine TriL.segK (k' := 2) (fr' := [(1, .pointer (some ⟨b1, 0, none⟩)), (4, .map (some m2)), (5, .int .i64 ((nd ns k).id)), (6, .int .i64 ↑((entSum ns k) + ((nd ns k).ents.length))), (18, .int .i64 ↑ns.length), (19, .int .i64 ↑(k + 1))]) (obl := [(Value.int .i64 (IntKind.wrap .i64 (((k : Nat) : Int) + 1))) = (.int .i64 ↑(k + 1))]) [⟨[], none, none, none, some (.int .i64 ↑(k + 1))⟩, o_] [1, 4, 5, 6, 18, 19] (fun _ _ => by kernel_rfl) ⟨wrapEq (by omega) (by omega) (by omega), trivial⟩ ?_
      refine TriL.nil (by kernel_rfl) ?_
      exact TriQ.turn ((k + 1)) (idx := [1, 4, 5, 6, 18, 19]) (pk := [0, 1, 2]) (show (((k + 1)) ≤ ns.length) ∧ (Upto ns ((k + 1))) ∧ (entSum ns ((k + 1)) ≤ ((k + 1)) * 1048576) from ⟨by omega, hu.step (by omega) (by omega) h43, by have := (hd k (by omega)).2; show entSum ns k + _ ≤ _; omega⟩) (by show ns.length - ((k + 1)) < ns.length - k; omega) (fun _ => by kernel_rfl) rfl (by kernel_rfl)
  ·
   refine Tri.exit (TriQ.passExit (TriQ.passExit (TriQ.blockHit (TriQ.next (Tri.seq (Tri.seq (Tri.region ?_)))))))
   refine TriL.segK (k' := 2) (fr' := [(1, .pointer (some ⟨b1, 0, none⟩)), (4, .map (some m2)), (63, .bool (decide ((((entSum ns k : Nat) : Int) : Int) > (8192 : Int))))]) (obl := []) [o_, o_] [1, 4, 63] (fun _ _ => by kernel_rfl) trivial ?_
   refine TriL.nil (by kernel_rfl) (TriQ.next ?_)
   refine Tri.condP (p := (((entSum ns k : Nat) : Int) : Int) > (8192 : Int)) (fun _ => by kernel_rfl) (fun h63 => ?_) (fun h63 => ?_)
   ·
    refine Tri.seq (Tri.region ?_)
    refine TriL.segK (k' := 2) (fr' := [(2, .map none), (3, .bool false)]) (obl := []) [o_, o_] [2, 3] (fun _ _ => by kernel_rfl) trivial ?_
    refine TriL.nil (by kernel_rfl) (TriQ.next (Tri.ret (TriQ.passRet ?_)))
    exact TriQ.ret (v := .tuple #[.map none, .bool false]) (l := []) (obl := []) [] [2] (fun _ => by kernel_rfl) trivial rfl (by kernel_rfl) (.inr ⟨_, rfl, fun h => by have h1 := h.sum; rw [show ns.length = k by omega] at h1; omega, rfl⟩)
   ·
    refine Tri.skip (TriQ.next (Tri.seq (Tri.region ?_)))
    refine TriL.mapMake (d := (some 64)) (t := 107) (fun _ => by kernel_rfl) Try.prog rfl 3 (fun m3 => ?_)
    refine TriL.segK (k' := 2) (fr' := [(1, .pointer (some ⟨b1, 0, none⟩)), (4, .map (some m2)), (9, .map (some m3))]) (obl := []) [o_] [1, 4, 9] (fun _ _ => by kernel_rfl) trivial ?_
    refine TriL.nil (by kernel_rfl) (TriQ.next (Tri.seq (Tri.seq (Tri.region ?_))))
    refine TriL.partEq 3 (p := .abs (MapA Try.prog 3 m3 (fun _ => none) 0)) (p' := .abs (MapA Try.prog 3 m3 (mf (pf ((allE ns 0).map (idP ns)))) ((allE ns 0).length))) (by kernel_rfl) (by rw [pf_zero]; rfl) ?_
    refine TriL.partEq 1 (p := .abs (MapA Try.prog 3 m2 (mf (bf A ns k)) k)) (p' := .abs (MapA Try.prog 3 m2 (mf (bf A ns ns.length)) ns.length)) (by kernel_rfl) (by rw [show k = ns.length by omega]) ?_
    refine TriL.segK (k' := 4) (fr' := [(1, .pointer (some ⟨b1, 0, none⟩)), (4, .map (some m2)), (9, .map (some m3)), (67, .int .i64 ↑ns.length), (68, .int .i64 0)]) (obl := [b1 = b1]) [o_, ⟨[.at 0], none, none, none, none⟩, o_, o_] [1, 4, 9, 67, 68] (fun _ _ => by kernel_rfl) ⟨rfl, trivial⟩ ?_
    refine TriL.nil (by kernel_rfl) (TriQ.next (Tri.block ?_))
    have hrise : Rising ns := fun a b hab hb => hu.rise a b hab (by omega)
    have hsum : entSum ns ns.length ≤ 8192 := by rw [show ns.length = k by omega]; omega
    refine Tri.loop (ι := Nat) (fun (i : Nat) => (i ≤ ns.length) ∧ (∀ a, a < i → ∀ j, j < (nd ns a).ents.length → EntOk ns a j) ∧ (((allE ns i).map Prod.fst).Nodup)) (fun (i : Nat) => ns.length - i) (fun (i : Nat) => [(1, .pointer (some ⟨b1, 0, none⟩)), (4, .map (some m2)), (9, .map (some m3)), (67, .int .i64 ↑ns.length), (68, .int .i64 ↑i)]) (fun (i : Nat) => [.blk b1 [.slice A (ns.length) (c)] 24, .abs (MapA Try.prog 3 m2 (mf (bf A ns ns.length)) ns.length), .abs (MapA Try.prog 3 m3 (mf (pf ((allE ns i).map (idP ns)))) ((allE ns i).length)), .abs R]) 0 (idx := [1, 4, 9, 67, 68]) (pk := [0, 1, 3, 2]) (show (0 ≤ ns.length) ∧ (∀ a, a < 0 → ∀ j, j < (nd ns a).ents.length → EntOk ns a j) ∧ (((allE ns 0).map Prod.fst).Nodup) from ⟨Nat.zero_le _, fun a ha => absurd ha (Nat.not_lt_zero a), List.nodup_nil⟩) (fun _ => by kernel_rfl) rfl (by kernel_rfl) ?_
    rintro i ⟨hi, hents, hnd⟩
    show Tri _ _ _ _ [(1, .pointer (some ⟨b1, 0, none⟩)), (4, .map (some m2)), (9, .map (some m3)), (67, .int .i64 ↑ns.length), (68, .int .i64 ↑i)] [.blk b1 [.slice A (ns.length) (c)] 24, .abs (MapA Try.prog 3 m2 (mf (bf A ns ns.length)) ns.length), .abs (MapA Try.prog 3 m3 (mf (pf ((allE ns i).map (idP ns)))) ((allE ns i).length)), .abs R] _
    refine Tri.seq (Tri.region ?_)
    refine TriL.segK (k' := 1) (fr' := [(1, .pointer (some ⟨b1, 0, none⟩)), (4, .map (some m2)), (9, .map (some m3)), (67, .int .i64 ↑ns.length), (68, .int .i64 ↑i), (69, .bool (decide ((((i : Nat) : Int) : Int) < (((ns.length : Nat) : Int) : Int))))]) (obl := []) [o_] [1, 4, 9, 67, 68, 69] (fun _ _ => by kernel_rfl) trivial ?_
    refine TriL.nil (by kernel_rfl) (TriQ.next (Tri.seq ?_))
    refine Tri.condP (p := (((i : Nat) : Int) : Int) < (((ns.length : Nat) : Int) : Int)) (fun _ => by kernel_rfl) (fun h69 => ?_) (fun h69 => ?_)
    ·
     refine Tri.skip (TriQ.next (Tri.seq (Tri.block (Tri.seq (Tri.region ?_)))))
     refine TriL.segK (k' := 2) (fr' := [(1, .pointer (some ⟨b1, 0, none⟩)), (4, .map (some m2)), (9, .map (some m3)), (10, .int .i64 ↑i), (67, .int .i64 ↑ns.length), (68, .int .i64 ↑i)]) (obl := []) [o_, o_] [1, 4, 9, 10, 67, 68] (fun _ _ => by kernel_rfl) trivial ?_
     refine TriL.nil (by kernel_rfl) (TriQ.next (Tri.seq (Tri.region ?_)))
     refine TriL.segK (k' := 6) (fr' := [(1, .pointer (some ⟨b1, 0, none⟩)), (4, .map (some m2)), (9, .map (some m3)), (67, .int .i64 ↑ns.length), (68, .int .i64 ↑i), (74, .pointer (some ⟨(blkOf A), offOf A + i * 10, none⟩)), (75, .map (some m2)), (76, .map (some m3))]) (obl := [((i : Nat) : Int) = ((i : Nat) : Int), i < ns.length, (⟨(blkOf A), offOf A, none⟩ : Addr).spot = none, (A : Option Addr) = some ⟨(blkOf A), offOf A, none⟩, b1 = b1]) [o_, ⟨[.at 0], none, none, none, none⟩, o_, ⟨[], some i, none, some ⟨(blkOf A), offOf A, none⟩, none⟩, o_, o_] [1, 4, 9, 67, 68, 74, 75, 76] (fun _ _ => by kernel_rfl) ⟨rfl, by omega, rfl, GraphAt.hd hG (i := i) (by omega), rfl, trivial⟩ ?_
     refine TriL.call (f := 59) (args := #[.pointer (some ⟨(blkOf A), offOf A + i * 10, none⟩), .map (some m2), .map (some m3)]) (d := (some 77)) (pre := [.abs (MapA Try.prog 3 m2 (mf (bf A ns ns.length)) ns.length), .abs (MapA Try.prog 3 m3 (mf (pf ((allE ns i).map (idP ns)))) ((allE ns i).length))]) (R := [.blk b1 [.slice A (ns.length) (c)] 24, .abs R]) (pk := [1, 2, 0, 3]) (fun _ => by kernel_rfl) (sp_enter A ns L hG hrise i (by omega) (hd i (by omega)).2 (hwf i (by omega)) (hnm i (by omega)) m2 m3 (allE ns i) (by have := allE_len ns i; have := entSum_mono (ns := ns) (show i ≤ ns.length by omega); omega) (fun p hp => (allE_fst (by omega) hents p hp).1) hnd) rfl (by kernel_rfl) ?_
     rintro _ _ (⟨rfl, hro, rfl⟩ | ⟨rfl, hro, rfl⟩)
     ·
      refine TriL.segK (k' := 8) (fr' := [(1, .pointer (some ⟨b1, 0, none⟩)), (4, .map (some m2)), (9, .map (some m3)), (67, .int .i64 ↑ns.length), (68, .int .i64 ↑i), (78, .bool false)]) (obl := []) [o_] [1, 4, 9, 67, 68, 78] (fun _ _ => by kernel_rfl) trivial ?_
      refine TriL.nil (by kernel_rfl) (TriQ.next ?_)
      refine Tri.condF (fun _ => by kernel_rfl) ?_
      refine Tri.skip (TriQ.blockNormal (TriQ.next (Tri.region ?_)))
      refine TriL.segK (k' := 2) (fr' := [(1, .pointer (some ⟨b1, 0, none⟩)), (4, .map (some m2)), (9, .map (some m3)), (67, .int .i64 ↑ns.length), (68, .int .i64 ↑(i + 1))]) (obl := [(Value.int .i64 (IntKind.wrap .i64 (((i : Nat) : Int) + 1))) = (.int .i64 ↑(i + 1))]) [⟨[], none, none, none, some (.int .i64 ↑(i + 1))⟩, o_] [1, 4, 9, 67, 68] (fun _ _ => by kernel_rfl) ⟨wrapEq (by omega) (by omega) (by omega), trivial⟩ ?_
      refine TriL.nil (by kernel_rfl) ?_
      exact TriQ.turn ((i + 1)) (idx := [1, 4, 9, 67, 68]) (pk := [2, 0, 1, 3]) (show (((i + 1)) ≤ ns.length) ∧ (∀ a, a < ((i + 1)) → ∀ j, j < (nd ns a).ents.length → EntOk ns a j) ∧ (((allE ns ((i + 1))).map Prod.fst).Nodup) from ⟨by omega, fun a ha => (by rcases Nat.lt_succ_iff_lt_or_eq.1 ha with h | h; exact hents a h; subst h; exact hro.ents), hro.next⟩) (by show ns.length - ((i + 1)) < ns.length - i; omega) (fun _ => by kernel_rfl) rfl (by kernel_rfl)
     ·
      refine TriL.segK (k' := 8) (fr' := [(1, .pointer (some ⟨b1, 0, none⟩)), (4, .map (some m2)), (9, .map (some m3)), (67, .int .i64 ↑ns.length), (68, .int .i64 ↑i), (78, .bool true)]) (obl := []) [o_] [1, 4, 9, 67, 68, 78] (fun _ _ => by kernel_rfl) trivial ?_
      refine TriL.nil (by kernel_rfl) (TriQ.next ?_)
      refine Tri.condT (fun _ => by kernel_rfl) ?_
      refine Tri.seq (Tri.region ?_)
      refine TriL.segK (k' := 2) (fr' := [(2, .map none), (3, .bool false)]) (obl := []) [o_, o_] [2, 3] (fun _ _ => by kernel_rfl) trivial ?_
      refine TriL.nil (by kernel_rfl) (TriQ.next (Tri.ret (TriQ.blockRet (TriQ.passRet (TriQ.passRet (TriQ.blockRet (TriQ.passRet ?_)))))))
      exact TriQ.ret (v := .tuple #[.map none, .bool false]) (l := []) (obl := []) [] [1] (fun _ => by kernel_rfl) trivial rfl (by kernel_rfl) (.inr ⟨_, rfl, fun h => hro (h.row (by omega)), rfl⟩)
    ·
     refine Tri.exit (TriQ.passExit (TriQ.passExit (TriQ.blockHit (TriQ.next (Tri.seq (Tri.region ?_))))))
     refine TriL.segK (k' := 2) (fr' := [(80, .map (some m2)), (81, .map (some m3))]) (obl := []) [o_, o_] [80, 81] (fun _ _ => by kernel_rfl) trivial ?_
     refine TriL.partEq 2 (p := .abs (MapA Try.prog 3 m3 (mf (pf ((allE ns i).map (idP ns)))) ((allE ns i).length))) (p' := .abs (MapA Try.prog 3 m3 (mf (pf ((allE ns i).map (idP ns)))) (((allE ns i).map (idP ns)).length))) (by kernel_rfl) (by rw [List.length_map]) ?_
     refine TriL.call (f := 60) (args := #[.map (some m3)]) (d := (some 82)) (pre := [.abs (MapA Try.prog 3 m3 (mf (pf ((allE ns i).map (idP ns)))) (((allE ns i).map (idP ns)).length))]) (R := [.blk b1 [.slice A (ns.length) (c)] 24, .abs (MapA Try.prog 3 m2 (mf (bf A ns ns.length)) ns.length), .abs R]) (pk := [2, 0, 1, 3]) (fun _ => by kernel_rfl) ((sp_rooted m3 ((allE ns i).map (idP ns)) (by rw [List.length_map]; have := allE_len ns i; have := entSum_mono (ns := ns) (show i ≤ ns.length by omega); omega) (up_bounds (allE_fst (by omega) hents) (fun a ha => hu.ids a (by omega)))).mono (fun v l h => dec_or h)) rfl (by kernel_rfl) ?_
     rintro _ _ (⟨rfl, hae, rfl⟩ | ⟨rfl, hae, rfl⟩)
     ·
      refine TriL.segK (k' := 5) (fr' := [(2, .map (some m2)), (3, .bool true)]) (obl := []) [o_, o_] [2, 3] (fun _ _ => by kernel_rfl) trivial ?_
      refine TriL.nil (by kernel_rfl) (TriQ.next (Tri.ret ?_))
      exact TriQ.ret (v := .tuple #[.map (some m2), .bool true]) (l := [.abs (MapA Try.prog 3 m2 (mf (bf A ns ns.length)) ns.length)]) (obl := []) [] [1, 2] (fun _ => by kernel_rfl) trivial rfl (by kernel_rfl) (.inl ⟨m2, rfl, ⟨by omega, fun a ha => hu.node a (by omega), fun a ha => hu.ids a (by omega), hrise, by omega, fun a ha => hents a (by omega), by have := hnd; rwa [show i = ns.length by omega] at this, by have := hae; rwa [show i = ns.length by omega] at this⟩, rfl⟩)
     ·
      refine TriL.segK (k' := 5) (fr' := [(2, .map (some m2)), (3, .bool false)]) (obl := []) [o_, o_] [2, 3] (fun _ _ => by kernel_rfl) trivial ?_
      refine TriL.nil (by kernel_rfl) (TriQ.next (Tri.ret ?_))
      exact TriQ.ret (v := .tuple #[.map (some m2), .bool false]) (l := []) (obl := []) [] [2] (fun _ => by kernel_rfl) trivial rfl (by kernel_rfl) (.inr ⟨_, rfl, fun h => hae (by have := h.ends; rwa [show ns.length = i by omega] at this), rfl⟩)
set_option maxRecDepth 100000 in
set_option maxHeartbeats 4000000 in
theorem sp_check {β : Bs} (A : Option Addr) (c : Nat) (ns : List NodeM) (L : Lay) (hG : GraphAt β A ns L) (hl : ns.length ≤ 1048576) (hd : ∀ i, i < ns.length → (nd ns i).data.length ≤ 1048576 ∧ (nd ns i).ents.length ≤ 1048576) (hwf : ∀ i, i < ns.length → ∀ j, j < (nd ns i).ents.length → -9223372036854775808 ≤ (ent ns i j).id ∧ (ent ns i j).id ≤ 9223372036854775807) (hnm : ∀ i, i < ns.length → ∀ j, j < (nd ns i).ents.length → (ent ns i j).name.size ≤ 1048576) :
    Spec Try.prog β 14 #[.agg #[.slice A ns.length c]] [] (fun v l => v = .int .i64 (if GraphOk ns then 0 else 140) ∧ l = []) := by
 refine Spec.enter Try.func14 rfl Try.ntmps14 (Nat.le_of_ble_eq_true rfl) (fun R => ?_)
 refine Tri.seq (Tri.region ?_)
 refine TriL.segN (k' := 2) (fr' := fun b4 => [(1, .pointer (some ⟨b4, 0, none⟩))]) (hps' := fun b4 => [.abs R, .blk b4 [.slice A (ns.length) (c)] 24]) (obl := fun b4 => []) [o_, o_] [1] [0, 1] (fun _ _ => by kernel_rfl) (fun b4 => trivial) (fun b4 => ?_)
 refine TriL.nil (by kernel_rfl) (TriQ.next (Tri.seq (Tri.seq (Tri.region ?_))))
 refine TriL.segK (k' := 1) (fr' := [(6, .agg #[.slice A (ns.length) (c)])]) (obl := [b4 = b4]) [⟨[.at 1], none, none, none, none⟩] [6] (fun _ _ => by kernel_rfl) ⟨rfl, trivial⟩ ?_
 refine TriL.call (f := 37) (args := #[.agg #[.slice A (ns.length) (c)]]) (d := (some 7)) (pre := []) (R := [.abs R, .blk b4 [.slice A (ns.length) (c)] 24]) (pk := [0, 1]) (fun _ => by kernel_rfl) (sp_read A c ns L hG hl hd hwf hnm) rfl (by kernel_rfl) ?_
 rintro _ _ (⟨mb, rfl, hok, rfl⟩ | ⟨m, rfl, hok, rfl⟩)
 ·
  refine TriL.segK (k' := 7) (fr' := [(4, .bool true)]) (obl := []) [o_, o_, o_, o_, o_] [4] (fun _ _ => by kernel_rfl) trivial ?_
  refine TriL.nil (by kernel_rfl) (TriQ.next (Tri.seq (Tri.region ?_)))
  refine TriL.segK (k' := 2) (fr' := [(11, .bool false)]) (obl := []) [o_, o_] [11] (fun _ _ => by kernel_rfl) trivial ?_
  refine TriL.nil (by kernel_rfl) (TriQ.next ?_)
  refine Tri.condF (fun _ => by kernel_rfl) ?_
  refine Tri.skip (TriQ.next (Tri.seq (Tri.region ?_)))
  refine TriL.segK (k' := 1) (fr' := [(2, .int .i64 0)]) (obl := []) [o_] [2] (fun _ _ => by kernel_rfl) trivial ?_
  refine TriL.nil (by kernel_rfl) (TriQ.next (Tri.ret ?_))
  exact TriQ.ret (v := .int .i64 0) (l := []) (obl := []) [] [1] (fun _ => by kernel_rfl) trivial rfl (by kernel_rfl) (⟨congrArg (Value.int .i64) (if_pos hok).symm, rfl⟩)
 ·
  refine TriL.segK (k' := 7) (fr' := [(4, .bool false)]) (obl := []) [o_, o_, o_, o_, o_] [4] (fun _ _ => by kernel_rfl) trivial ?_
  refine TriL.nil (by kernel_rfl) (TriQ.next (Tri.seq (Tri.region ?_)))
  refine TriL.segK (k' := 2) (fr' := [(11, .bool true)]) (obl := []) [o_, o_] [11] (fun _ _ => by kernel_rfl) trivial ?_
  refine TriL.nil (by kernel_rfl) (TriQ.next ?_)
  refine Tri.condT (fun _ => by kernel_rfl) ?_
  refine Tri.seq (Tri.region ?_)
  refine TriL.segK (k' := 1) (fr' := [(2, .int .i64 140)]) (obl := []) [o_] [2] (fun _ _ => by kernel_rfl) trivial ?_
  refine TriL.nil (by kernel_rfl) (TriQ.next (Tri.ret (TriQ.passRet ?_)))
  exact TriQ.ret (v := .int .i64 140) (l := []) (obl := []) [] [0] (fun _ => by kernel_rfl) trivial rfl (by kernel_rfl) (⟨congrArg (Value.int .i64) (if_neg hok).symm, rfl⟩)
end Go.Proofs.Ytjpdcppdoonmdaa
end
/- part Vw. PROVED HERE: the rule of the logic for 'make' of a slice of things of one cell. CONDITIONS: none. No statement of the seat is proved here. -/
section
namespace Go.Proofs.Ytjpdcppdoonmdaa
open Go.RowKit
theorem madeCells_one (z : Value) (n : Nat) : (madeCells #[z] (n * 1)).toList = List.replicate n z := by
  rw [Nat.mul_one]
  apply List.ext_getElem
  · simp [madeCells]
  · intro j h1 h2
    simp [madeCells, Nat.mod_one]
section make
variable {P : Program} {β : Bs} {N : Nat} {ops : Array Oper} {k : Nat} {fr : Fr} {hps : List HP} {Q : Post} {d : Option Tmp}
theorem TriL.makeFull {t e : TypeId} {z : Value} {bytes n : Nat} {l c : Operand} (hop : ∀ junk, opAt N junk ops fr k = some (.makeSlice t l c, d)) (hl : ∀ junk, evF N fr junk l = .int .i64 ((n : Nat) : Int)) (hc : ∀ junk, evF N fr junk c = .int .i64 ((n : Nat) : Int))
    (ht : P.underlying t = some (.slice e)) (hinf : (P.info? e).map (fun i => (i.zero, i.size, i.bytes)) = some (some z, 1, bytes)) (hzs : z.cells = #[z]) (hn : n ≤ 16777216) (hb : bytes * n ≤ 281474976710656)
    (K' : ∀ b, TriL P β N ops (k + 1) (putF fr d (.slice (some ⟨b, 0, none⟩) n n)) (hps ++ [.abs (RowA e 1 (some ⟨b, 0, none⟩) n n (List.replicate n z))]) Q) : TriL P β N ops k fr hps Q := by
  obtain ⟨inf, hi, hz, hsize, hby⟩ : ∃ inf, P.info? e = some inf ∧ inf.zero = some z ∧ inf.size = 1 ∧ inf.bytes = bytes := by
    cases h : P.info? e with
    | none => rw [h] at hinf; cases hinf
    | some inf => rw [h] at hinf; simp at hinf; exact ⟨inf, rfl, hinf.1, hinf.2.1, hinf.2.2⟩
  refine TriL.runE (ι := Nat) (v := fun b => .slice (some ⟨b, 0, none⟩) n n) (hp' := fun b => hps ++ [.abs (RowA e 1 (some ⟨b, 0, none⟩) n n (List.replicate n z))]) hop (fun o junk w ho hS => ?_) K'
  obtain ⟨w', h1, h2, h3⟩ := run_makeSlice_full (P := P) w 0 t e inf z 1 ht hi hz hsize .i64 .i64 n (by omega) (by rw [hby]; exact hb) (by unfold maxLen; omega) (Nat.zero_le _)
  rw [hzs, madeCells_one] at h2
  refine ⟨w.heap.size, w', .inl ?_, hS.new (F := fun k => k = w.heap.size) ⟨h2, fun j => by simp [Value.ownBlock, eq_comm]⟩ ((Keeps.refl _ _).grown h3 (fun _ h => by cases h)) (fun k e => Nat.le_of_eq e.symm)⟩
  obtain ⟨dst, op, type, pos, after, guard⟩ := o
  cases ho
  simp only [execOp, hl, hc]
  simp [h1, Result.andThen]
end make
end Go.Proofs.Ytjpdcppdoonmdaa
end
/- part GP. PROVED HERE: plain laws of the array of parents. CONDITIONS: none. No statement of the seat is proved here. -/
section
namespace Go.Proofs.Ytjpdcppdoonmdaa
open Go.RowKit Go.Maps
def parI (ed : List (Nat × Nat)) (k : Nat) : Int := match ed.lookup k with | some a => (a : Int) | none => -1
structure Par (n : Nat) (pl : List Int) (ed : List (Nat × Nat)) : Prop where
  len : pl.length = n
  at_ : ∀ k, k < n → pl.getD k 0 = parI ed k
theorem intsV_get {w : List Int} {j : Nat} (hj : j < w.length) : (intsV w)[j]? = some (.int .i64 (w.getD j 0)) := by
  rw [intsV, List.getElem?_map, getD_some (x := 0) hj]; rfl
theorem intsV_set (pl : List Int) (k : Nat) (x : Int) : (intsV pl).set k (.int .i64 x) = intsV (pl.set k x) := by
  unfold intsV
  rw [List.map_set]
theorem getD_set {pl : List Int} {k j : Nat} {x : Int} (hk : k < pl.length) : (pl.set k x).getD j 0 = if j = k then x else pl.getD j 0 := by
  rw [List.getD_eq_getElem?_getD, List.getD_eq_getElem?_getD, List.getElem?_set]
  by_cases e : k = j
  · subst e; simp [hk]
  · have : ¬ j = k := fun h => e h.symm
    simp [e, this]
theorem Par.put {n : Nat} {pl : List Int} {ed : List (Nat × Nat)} (h : Par n pl ed) {k a : Nat} (hk : k < n) : Par n (pl.set k (a : Int)) ((k, a) :: ed) := by
  refine ⟨by rw [List.length_set]; exact h.len, fun j hj => ?_⟩
  rw [getD_set (by rw [h.len]; exact hk)]
  unfold parI
  rw [List.lookup_cons]
  by_cases e : j = k
  · subst e; simp
  · have : (j == k) = false := by simp [e]
    rw [if_neg e, this, h.at_ j hj]
    rfl
theorem parI_none {ed : List (Nat × Nat)} {k : Nat} : parI ed k < 0 ↔ k ∉ ed.map Prod.fst := by
  unfold parI
  induction ed with
  | nil => simp
  | cons p ed ih =>
    obtain ⟨a, b⟩ := p
    rw [List.lookup_cons]
    by_cases e : k = a
    · subst e
      simp
    · have h1 : (k == a) = false := by simp [e]
      rw [h1]
      simp only [List.map_cons, List.mem_cons, not_or]
      exact ih.trans ⟨fun h => ⟨e, h⟩, fun h => h.2⟩
theorem parI_up {ns : List NodeM} {ed : List (Nat × Nat)} {k : Nat} (hr : Rising ns) (hk : k < ns.length) (hp : ∀ p, p ∈ ed → p.1 < ns.length) :
    (parI ed k < 0 ∧ up (ed.map (idP ns)) (nd ns k).id = none) ∨ ∃ a : Nat, parI ed k = (a : Int) ∧ (k, a) ∈ ed ∧ up (ed.map (idP ns)) (nd ns k).id = some (nd ns a).id := by
  unfold parI up
  induction ed with
  | nil => exact .inl ⟨by simp, rfl⟩
  | cons p ed ih =>
    obtain ⟨a, b⟩ := p
    rw [List.map_cons, idP, List.lookup_cons, List.lookup_cons]
    by_cases e : k = a
    · subst e
      exact .inr ⟨b, by simp, List.mem_cons_self .., by simp⟩
    · have h1 : (k == a) = false := by simp [e]
      have h2 : ((nd ns k).id == (nd ns a).id) = false := by
        simp
        exact fun h => e (hr.inj hk (hp (a, b) (List.mem_cons_self ..)) h)
      rw [h1, h2]
      rcases ih (fun p hp' => hp p (List.mem_cons_of_mem _ hp')) with h | ⟨c, h3, h4, h5⟩
      · exact .inl h
      · exact .inr ⟨c, h3, List.mem_cons_of_mem _ h4, h5⟩
theorem Way.back {ps : List (Int × Int)} {z0 : Int} {w : List Int} (h : Way ps z0 w z0) (hl : 0 < w.length) : ¬ Ends ps z0 := fun ⟨k, hk⟩ => by
  obtain ⟨j, hj, h2⟩ := h.long hk
  have := EndsIn.uniq hk h2
  omega
theorem nodup_lt : ∀ (n : Nat) (l : List Nat), l.Nodup → (∀ x, x ∈ l → x < n) → l.length ≤ n
  | 0, [], _, _ => Nat.le_refl _
  | 0, a :: l, _, h => absurd (h a (List.mem_cons_self ..)) (Nat.not_lt_zero a)
  | n + 1, l, hn, h => by
    have h1 := nodup_lt n (l.erase n) (hn.erase n) (fun x hx => by
      have h2 := (List.Nodup.mem_erase_iff hn).1 hx
      have := h x h2.2
      omega)
    by_cases hm : n ∈ l
    · have := List.length_erase_of_mem hm
      omega
    · rw [List.erase_of_not_mem hm] at h1
      omega
theorem allEnd_of {ns : List NodeM} {ed : List (Nat × Nat)} (hp : ∀ p, p ∈ ed → p.1 < ns.length) (h : ∀ i, i < ns.length → Ends (ed.map (idP ns)) (nd ns i).id) : AllEnd (ed.map (idP ns)) := by
  intro z
  cases hu : up (ed.map (idP ns)) z with
  | none => exact ⟨0, hu⟩
  | some y =>
    have : ∃ p, p ∈ ed ∧ z = (nd ns p.1).id := by
      unfold up at hu
      clear h
      induction ed with
      | nil => cases hu
      | cons p ed ih =>
        rw [List.map_cons, idP, List.lookup_cons] at hu
        by_cases e : (z == (nd ns p.1).id) = true
        · exact ⟨p, List.mem_cons_self .., by simpa using e⟩
        · have e : (z == (nd ns p.1).id) = false := by simpa using e
          rw [e] at hu
          obtain ⟨q, hq, h2⟩ := ih (fun p hp' => hp p (List.mem_cons_of_mem _ hp')) hu
          exact ⟨q, List.mem_cons_of_mem _ hq, h2⟩
    obtain ⟨p, h1, rfl⟩ := this
    exact h p.1 (hp p h1)
theorem way_next {ns : List NodeM} {ed : List (Nat × Nat)} {pl : List Int} {z : Int} {b m : Nat} {w : List Int} (hr : Rising ns) (hp : ∀ p, p ∈ ed → p.1 < ns.length ∧ p.2 < ns.length) (hpar : Par ns.length pl ed) (hb : b < ns.length) (hw : Way (ed.map (idP ns)) z w (nd ns b).id) (hm : w.length = m) :
    (pl.getD b 0 < 0 ∧ Ends (ed.map (idP ns)) z) ∨ ∃ q : Nat, pl.getD b 0 = (q : Int) ∧ q < ns.length ∧ Way (ed.map (idP ns)) z (w ++ [(nd ns b).id]) (nd ns q).id ∧ (w ++ [(nd ns b).id]).length = m + 1 := by
  rw [hpar.at_ b hb]
  rcases parI_up hr hb (fun p h => (hp p h).1) with ⟨h1, h2⟩ | ⟨a, h1, h2, h3⟩
  · exact .inl ⟨h1, (hw.ends ⟨0, h2⟩).1⟩
  · exact .inr ⟨a, h1, (hp _ h2).2, hw.snoc h3, by simp; omega⟩
theorem entOk_of {ns : List NodeM} {i j : Nat} (h1 : 0 ≤ atI ns (ent ns i j).id) (h2 : GoodName (ent ns i j).name) (h3 : 0 < j → ¬ strLe (ent ns i j).name (ent ns i (j - 1)).name) : EntOk ns i j := by
  refine ⟨h1, h2, ?_⟩
  cases j with
  | zero =>
    intro h
    have := strLe_empty.1 h
    have h4 := h2.1
    rw [this] at h4
    exact absurd h4 (by decide)
  | succ j => exact h3 (Nat.succ_pos j)
theorem lastId_pos {ns : List NodeM} {k : Nat} (h : 0 < k) : lastId ns k = (nd ns (k - 1)).id := by
  cases k with
  | zero => omega
  | succ k => rfl
theorem prevName_pos {ns : List NodeM} {i j : Nat} (h : 0 < j) : prevName ns i j = (ent ns i (j - 1)).name := by
  cases j with
  | zero => omega
  | succ j => rfl
theorem GraphOk.few {ns : List NodeM} (h : GraphOk ns) : ((allE ns ns.length).map (idP ns)).length ≤ ns.length := by
  rw [List.length_map]
  have h1 := allE_fst (ns := ns) (Nat.le_refl _) h.ents
  have h2 := nodup_lt ns.length ((allE ns ns.length).map Prod.fst) h.nodup (fun x hx => by
    obtain ⟨p, hp, rfl⟩ := List.mem_map.1 hx
    exact (h1 p hp).1)
  rwa [List.length_map] at h2
end Go.Proofs.Ytjpdcppdoonmdaa
end
