/-
  PROVED HERE: the small tests of a graph
  CONDITIONS: as the theorems say. Printed by a program of this repo (wip/v).
-/
import Derived.Test.YtjpdcppdoonmdaaGC
namespace Go.Proofs.Ytjpdcppdoonmdaa
open Go.RowKit
attribute [local irreducible] TriL TriLQ Tri TriQ
set_option maxRecDepth 100000 in
set_option maxHeartbeats 4000000 in
theorem sp_within {β : Bs} (a b c : Int) :
    Spec Try.prog β 69 #[.int .i64 (a), .int .i64 (b), .int .i64 (c)] [] (fun v l => v = .bool (decide (Within a b c)) ∧ l = []) := by
  refine Spec.enter Try.func69 rfl Try.ntmps69 (Nat.le_of_ble_eq_true rfl) (fun R => ?_)
  refine Tri.seq ?_
  refine Tri.region ?_
  refine TriL.segK (k' := 1) (fr' := [(0, .int .i64 (a)), (1, .int .i64 (b)), (2, .int .i64 (c))]) (obl := []) [o_] [0, 1, 2] (fun _ _ => by kernel_rfl) trivial ?_
  refine TriL.nil (by kernel_rfl) ?_
  refine TriQ.next ?_
  refine Tri.seq ?_
  refine Tri.region ?_
  refine TriL.segK (k' := 4) (fr' := [(0, .int .i64 (a)), (2, .int .i64 (c)), (10, .bool (decide ((a : Int) ≥ (b : Int))))]) (obl := []) [o_, o_, o_, o_] [0, 2, 10] (fun _ _ => by kernel_rfl) trivial ?_
  refine TriL.slotP 10 ((a : Int) ≥ (b : Int)) (fun _ => by kernel_rfl) (fun h10 => ?_) (fun h10 => ?_)
  · refine TriL.segK (k' := 9) (fr' := [(6, .bool (decide ((a : Int) ≤ (c : Int))))]) (obl := []) [o_, o_, o_, o_, o_] [6] (fun _ _ => by kernel_rfl) trivial ?_
    refine TriL.nil (by kernel_rfl) ?_
    refine TriQ.next ?_
    refine Tri.ret ?_
    exact TriQ.ret (v := .bool (decide ((a : Int) ≤ (c : Int)))) (l := []) (obl := []) [] [0] (fun _ => by kernel_rfl) trivial rfl (by kernel_rfl) (⟨congrArg Value.bool (decide_eq_decide.2 (by unfold Within; omega)), rfl⟩)
  · refine TriL.segK (k' := 9) (fr' := [(6, .bool false)]) (obl := []) [o_, o_, o_, o_, o_] [6] (fun _ _ => by kernel_rfl) trivial ?_
    refine TriL.nil (by kernel_rfl) ?_
    refine TriQ.next ?_
    refine Tri.ret ?_
    exact TriQ.ret (v := .bool false) (l := []) (obl := []) [] [0] (fun _ => by kernel_rfl) trivial rfl (by kernel_rfl) (⟨congrArg Value.bool (decide_eq_false (by unfold Within; omega)).symm, rfl⟩)
set_option maxRecDepth 100000 in
set_option maxHeartbeats 4000000 in
theorem sp_stampValid {β : Bs} (s n : Int) :
    Spec Try.prog β 70 #[.agg #[.int .i64 (s), .int .i64 (n)]] [] (fun v l => v = .bool (decide (TimeOk s n)) ∧ l = []) := by
  refine Spec.enter Try.func70 rfl Try.ntmps70 (Nat.le_of_ble_eq_true rfl) (fun R => ?_)
  refine Tri.seq ?_
  refine Tri.region ?_
  refine TriL.segN (k' := 2) (fr' := fun b1 => [(1, .pointer (some ⟨b1, 0, none⟩))]) (hps' := fun b1 => [.abs R, .blk b1 [.int .i64 (s), .int .i64 (n)] 28]) (obl := fun b1 => []) [o_, o_] [1] [0, 1] (fun _ _ => by kernel_rfl) (fun b1 => trivial) (fun b1 => ?_)
  refine TriL.nil (by kernel_rfl) ?_
  refine TriQ.next ?_
  refine Tri.seq ?_
  refine Tri.seq ?_
  refine Tri.region ?_
  refine TriL.segK (k' := 4) (fr' := [(1, .pointer (some ⟨b1, 0, none⟩)), (6, .bool (decide ((n : Int) < (0 : Int))))]) (obl := [b1 = b1]) [o_, ⟨[.at 1], none, none, none, none⟩, o_, o_] [1, 6] (fun _ _ => by kernel_rfl) ⟨rfl, trivial⟩ ?_
  refine TriL.slotP 6 ((n : Int) < (0 : Int)) (fun _ => by kernel_rfl) (fun h6 => ?_) (fun h6 => ?_)
  · refine TriL.segK (k' := 8) (fr' := [(1, .pointer (some ⟨b1, 0, none⟩)), (10, .bool true)]) (obl := []) [o_, o_, o_, o_] [1, 10] (fun _ _ => by kernel_rfl) trivial ?_
    refine TriL.nil (by kernel_rfl) ?_
    refine TriQ.next ?_
    refine Tri.condT (fun _ => by kernel_rfl) ?_
    refine Tri.seq ?_
    refine Tri.region ?_
    refine TriL.segK (k' := 1) (fr' := [(2, .bool false)]) (obl := []) [o_] [2] (fun _ _ => by kernel_rfl) trivial ?_
    refine TriL.nil (by kernel_rfl) ?_
    refine TriQ.next ?_
    refine Tri.ret ?_
    refine TriQ.passRet ?_
    exact TriQ.ret (v := .bool false) (l := []) (obl := []) [] [0] (fun _ => by kernel_rfl) trivial rfl (by kernel_rfl) (⟨congrArg Value.bool (decide_eq_false (by unfold TimeOk; omega)).symm, rfl⟩)
  · refine TriL.segK (k' := 8) (fr' := [(1, .pointer (some ⟨b1, 0, none⟩)), (10, .bool (decide ((n : Int) ≥ (1000000000 : Int))))]) (obl := [b1 = b1]) [o_, ⟨[.at 1], none, none, none, none⟩, o_, o_] [1, 10] (fun _ _ => by kernel_rfl) ⟨rfl, trivial⟩ ?_
    refine TriL.nil (by kernel_rfl) ?_
    refine TriQ.next ?_
    refine Tri.condP (p := (n : Int) ≥ (1000000000 : Int)) (fun _ => by kernel_rfl) (fun h10 => ?_) (fun h10 => ?_)
    · refine Tri.seq ?_
      refine Tri.region ?_
      refine TriL.segK (k' := 1) (fr' := [(2, .bool false)]) (obl := []) [o_] [2] (fun _ _ => by kernel_rfl) trivial ?_
      refine TriL.nil (by kernel_rfl) ?_
      refine TriQ.next ?_
      refine Tri.ret ?_
      refine TriQ.passRet ?_
      exact TriQ.ret (v := .bool false) (l := []) (obl := []) [] [0] (fun _ => by kernel_rfl) trivial rfl (by kernel_rfl) (⟨congrArg Value.bool (decide_eq_false (by unfold TimeOk; omega)).symm, rfl⟩)
    · refine Tri.skip ?_
      refine TriQ.next ?_
      refine Tri.seq ?_
      refine Tri.seq ?_
      refine Tri.region ?_
      refine TriL.segK (k' := 3) (fr' := [(1, .pointer (some ⟨b1, 0, none⟩)), (13, .bool (decide ((s : Int) = ((-1099511627777) : Int))))]) (obl := [b1 = b1]) [o_, ⟨[.at 1], none, none, none, none⟩, o_] [1, 13] (fun _ _ => by kernel_rfl) ⟨rfl, trivial⟩ ?_
      refine TriL.nil (by kernel_rfl) ?_
      refine TriQ.next ?_
      refine Tri.condP (p := (s : Int) = ((-1099511627777) : Int)) (fun _ => by kernel_rfl) (fun h13 => ?_) (fun h13 => ?_)
      · refine Tri.seq ?_
        refine Tri.region ?_
        refine TriL.segK (k' := 4) (fr' := [(2, .bool (decide ((n : Int) > (0 : Int))))]) (obl := [b1 = b1]) [o_, ⟨[.at 1], none, none, none, none⟩, o_, o_] [2] (fun _ _ => by kernel_rfl) ⟨rfl, trivial⟩ ?_
        refine TriL.nil (by kernel_rfl) ?_
        refine TriQ.next ?_
        refine Tri.ret ?_
        refine TriQ.passRet ?_
        exact TriQ.ret (v := .bool (decide ((n : Int) > (0 : Int)))) (l := []) (obl := []) [] [0] (fun _ => by kernel_rfl) trivial rfl (by kernel_rfl) (⟨congrArg Value.bool (decide_eq_decide.2 (by unfold TimeOk; omega)), rfl⟩)
      · refine Tri.skip ?_
        refine TriQ.next ?_
        refine Tri.seq ?_
        refine Tri.region ?_
        refine TriL.segK (k' := 4) (fr' := [(1, .pointer (some ⟨b1, 0, none⟩)), (20, .bool (decide ((s : Int) > ((-1099511627777) : Int))))]) (obl := [b1 = b1]) [o_, ⟨[.at 1], none, none, none, none⟩, o_, o_] [1, 20] (fun _ _ => by kernel_rfl) ⟨rfl, trivial⟩ ?_
        refine TriL.slotP 20 ((s : Int) > ((-1099511627777) : Int)) (fun _ => by kernel_rfl) (fun h20 => ?_) (fun h20 => ?_)
        · refine TriL.segK (k' := 9) (fr' := [(2, .bool (decide ((s : Int) ≤ (1099511627776 : Int))))]) (obl := [b1 = b1]) [o_, ⟨[.at 1], none, none, none, none⟩, o_, o_, o_] [2] (fun _ _ => by kernel_rfl) ⟨rfl, trivial⟩ ?_
          refine TriL.nil (by kernel_rfl) ?_
          refine TriQ.next ?_
          refine Tri.ret ?_
          exact TriQ.ret (v := .bool (decide ((s : Int) ≤ (1099511627776 : Int)))) (l := []) (obl := []) [] [0] (fun _ => by kernel_rfl) trivial rfl (by kernel_rfl) (⟨congrArg Value.bool (decide_eq_decide.2 (by unfold TimeOk; omega)), rfl⟩)
        · refine TriL.segK (k' := 9) (fr' := [(2, .bool false)]) (obl := []) [o_, o_, o_, o_, o_] [2] (fun _ _ => by kernel_rfl) trivial ?_
          refine TriL.nil (by kernel_rfl) ?_
          refine TriQ.next ?_
          refine Tri.ret ?_
          exact TriQ.ret (v := .bool false) (l := []) (obl := []) [] [0] (fun _ => by kernel_rfl) trivial rfl (by kernel_rfl) (⟨congrArg Value.bool (decide_eq_false (by unfold TimeOk; omega)).symm, rfl⟩)
set_option maxRecDepth 100000 in
set_option maxHeartbeats 4000000 in
theorem sp_refValid {β : Bs} (s n : Int) :
    Spec Try.prog β 61 #[.agg #[.int .i64 (s), .int .i64 (n)]] [] (fun v l => v = .bool (decide (TimeOk s n)) ∧ l = []) := by
  refine Spec.enter Try.func61 rfl Try.ntmps61 (Nat.le_of_ble_eq_true rfl) (fun R => ?_)
  refine Tri.seq ?_
  refine Tri.region ?_
  refine TriL.segN (k' := 2) (fr' := fun b2 => [(1, .pointer (some ⟨b2, 0, none⟩))]) (hps' := fun b2 => [.abs R, .blk b2 [.int .i64 (s), .int .i64 (n)] 28]) (obl := fun b2 => []) [o_, o_] [1] [0, 1] (fun _ _ => by kernel_rfl) (fun b2 => trivial) (fun b2 => ?_)
  refine TriL.nil (by kernel_rfl) ?_
  refine TriQ.next ?_
  refine Tri.seq ?_
  refine Tri.seq ?_
  refine Tri.region ?_
  refine TriL.segK (k' := 4) (fr' := [(1, .pointer (some ⟨b2, 0, none⟩)), (6, .bool (decide ((n : Int) < (0 : Int))))]) (obl := [b2 = b2]) [o_, ⟨[.at 1], none, none, none, none⟩, o_, o_] [1, 6] (fun _ _ => by kernel_rfl) ⟨rfl, trivial⟩ ?_
  refine TriL.slotP 6 ((n : Int) < (0 : Int)) (fun _ => by kernel_rfl) (fun h6 => ?_) (fun h6 => ?_)
  · refine TriL.segK (k' := 18) (fr' := [(1, .pointer (some ⟨b2, 0, none⟩)), (20, .bool true)]) (obl := []) [o_, o_, o_, o_, o_, o_, o_, o_, o_, o_, o_, o_, o_, o_] [1, 20] (fun _ _ => by kernel_rfl) trivial ?_
    refine TriL.nil (by kernel_rfl) ?_
    refine TriQ.next ?_
    refine Tri.condT (fun _ => by kernel_rfl) ?_
    refine Tri.seq ?_
    refine Tri.region ?_
    refine TriL.segK (k' := 1) (fr' := [(2, .bool false)]) (obl := []) [o_] [2] (fun _ _ => by kernel_rfl) trivial ?_
    refine TriL.nil (by kernel_rfl) ?_
    refine TriQ.next ?_
    refine Tri.ret ?_
    refine TriQ.passRet ?_
    exact TriQ.ret (v := .bool false) (l := []) (obl := []) [] [0] (fun _ => by kernel_rfl) trivial rfl (by kernel_rfl) (⟨congrArg Value.bool (decide_eq_false (by unfold TimeOk; omega)).symm, rfl⟩)
  · refine TriL.segK (k' := 9) (fr' := [(1, .pointer (some ⟨b2, 0, none⟩)), (11, .bool (decide ((n : Int) ≥ (1000000000 : Int))))]) (obl := [b2 = b2]) [o_, ⟨[.at 1], none, none, none, none⟩, o_, o_, o_] [1, 11] (fun _ _ => by kernel_rfl) ⟨rfl, trivial⟩ ?_
    refine TriL.slotP 11 ((n : Int) ≥ (1000000000 : Int)) (fun _ => by kernel_rfl) (fun h11 => ?_) (fun h11 => ?_)
    · refine TriL.segK (k' := 18) (fr' := [(1, .pointer (some ⟨b2, 0, none⟩)), (20, .bool true)]) (obl := []) [o_, o_, o_, o_, o_, o_, o_, o_, o_] [1, 20] (fun _ _ => by kernel_rfl) trivial ?_
      refine TriL.nil (by kernel_rfl) ?_
      refine TriQ.next ?_
      refine Tri.condT (fun _ => by kernel_rfl) ?_
      refine Tri.seq ?_
      refine Tri.region ?_
      refine TriL.segK (k' := 1) (fr' := [(2, .bool false)]) (obl := []) [o_] [2] (fun _ _ => by kernel_rfl) trivial ?_
      refine TriL.nil (by kernel_rfl) ?_
      refine TriQ.next ?_
      refine Tri.ret ?_
      refine TriQ.passRet ?_
      exact TriQ.ret (v := .bool false) (l := []) (obl := []) [] [0] (fun _ => by kernel_rfl) trivial rfl (by kernel_rfl) (⟨congrArg Value.bool (decide_eq_false (by unfold TimeOk; omega)).symm, rfl⟩)
    · refine TriL.segK (k' := 14) (fr' := [(1, .pointer (some ⟨b2, 0, none⟩)), (16, .bool (decide ((s : Int) > (1099511627776 : Int))))]) (obl := [b2 = b2]) [o_, ⟨[.at 1], none, none, none, none⟩, o_, o_, o_] [1, 16] (fun _ _ => by kernel_rfl) ⟨rfl, trivial⟩ ?_
      refine TriL.slotP 16 ((s : Int) > (1099511627776 : Int)) (fun _ => by kernel_rfl) (fun h16 => ?_) (fun h16 => ?_)
      · refine TriL.segK (k' := 18) (fr' := [(1, .pointer (some ⟨b2, 0, none⟩)), (20, .bool true)]) (obl := []) [o_, o_, o_, o_] [1, 20] (fun _ _ => by kernel_rfl) trivial ?_
        refine TriL.nil (by kernel_rfl) ?_
        refine TriQ.next ?_
        refine Tri.condT (fun _ => by kernel_rfl) ?_
        refine Tri.seq ?_
        refine Tri.region ?_
        refine TriL.segK (k' := 1) (fr' := [(2, .bool false)]) (obl := []) [o_] [2] (fun _ _ => by kernel_rfl) trivial ?_
        refine TriL.nil (by kernel_rfl) ?_
        refine TriQ.next ?_
        refine Tri.ret ?_
        refine TriQ.passRet ?_
        exact TriQ.ret (v := .bool false) (l := []) (obl := []) [] [0] (fun _ => by kernel_rfl) trivial rfl (by kernel_rfl) (⟨congrArg Value.bool (decide_eq_false (by unfold TimeOk; omega)).symm, rfl⟩)
      · refine TriL.segK (k' := 18) (fr' := [(1, .pointer (some ⟨b2, 0, none⟩)), (20, .bool (decide ((s : Int) < ((-1099511627777) : Int))))]) (obl := [b2 = b2]) [o_, ⟨[.at 1], none, none, none, none⟩, o_, o_] [1, 20] (fun _ _ => by kernel_rfl) ⟨rfl, trivial⟩ ?_
        refine TriL.nil (by kernel_rfl) ?_
        refine TriQ.next ?_
        refine Tri.condP (p := (s : Int) < ((-1099511627777) : Int)) (fun _ => by kernel_rfl) (fun h20 => ?_) (fun h20 => ?_)
        · refine Tri.seq ?_
          refine Tri.region ?_
          refine TriL.segK (k' := 1) (fr' := [(2, .bool false)]) (obl := []) [o_] [2] (fun _ _ => by kernel_rfl) trivial ?_
          refine TriL.nil (by kernel_rfl) ?_
          refine TriQ.next ?_
          refine Tri.ret ?_
          refine TriQ.passRet ?_
          exact TriQ.ret (v := .bool false) (l := []) (obl := []) [] [0] (fun _ => by kernel_rfl) trivial rfl (by kernel_rfl) (⟨congrArg Value.bool (decide_eq_false (by unfold TimeOk; omega)).symm, rfl⟩)
        · refine Tri.skip ?_
          refine TriQ.next ?_
          refine Tri.seq ?_
          refine Tri.region ?_
          refine TriL.segK (k' := 4) (fr' := [(1, .pointer (some ⟨b2, 0, none⟩)), (24, .bool (!(decide ((s : Int) = ((-1099511627777) : Int)))))]) (obl := [b2 = b2]) [o_, ⟨[.at 1], none, none, none, none⟩, o_, o_] [1, 24] (fun _ _ => by kernel_rfl) ⟨rfl, trivial⟩ ?_
          refine TriL.slotN 24 ((s : Int) = ((-1099511627777) : Int)) (fun _ => by kernel_rfl) (fun h24 => ?_) (fun h24 => ?_)
          · refine TriL.segK (k' := 9) (fr' := [(2, .bool true)]) (obl := []) [o_, o_, o_, o_, o_] [2] (fun _ _ => by kernel_rfl) trivial ?_
            refine TriL.nil (by kernel_rfl) ?_
            refine TriQ.next ?_
            refine Tri.ret ?_
            exact TriQ.ret (v := .bool true) (l := []) (obl := []) [] [0] (fun _ => by kernel_rfl) trivial rfl (by kernel_rfl) (⟨congrArg Value.bool (decide_eq_true (by unfold TimeOk; omega)).symm, rfl⟩)
          · refine TriL.segK (k' := 9) (fr' := [(2, .bool (!(decide ((n : Int) = (0 : Int)))))]) (obl := [b2 = b2]) [o_, ⟨[.at 1], none, none, none, none⟩, o_, o_, o_] [2] (fun _ _ => by kernel_rfl) ⟨rfl, trivial⟩ ?_
            refine TriL.nil (by kernel_rfl) ?_
            refine TriQ.next ?_
            refine Tri.ret ?_
            exact TriQ.ret (v := .bool (!(decide ((n : Int) = (0 : Int))))) (l := []) (obl := []) [] [0] (fun _ => by kernel_rfl) trivial rfl (by kernel_rfl) (⟨congrArg Value.bool (notDec (by unfold TimeOk; omega)), rfl⟩)
set_option maxRecDepth 100000 in
set_option maxHeartbeats 4000000 in
theorem sp_refGood {β : Bs} (s : ByteArray) (hl : s.size ≤ 1048576) :
    Spec Try.prog β 40 #[.string s] [] (fun v l => v = .bool (decide (GoodName s)) ∧ l = []) := by
  refine Spec.enter Try.func40 rfl Try.ntmps40 (Nat.le_of_ble_eq_true rfl) (fun R => ?_)
  refine Tri.seq ?_
  refine Tri.region ?_
  refine TriL.segK (k' := 1) (fr' := [(0, .string s)]) (obl := []) [o_] [0] (fun _ _ => by kernel_rfl) trivial ?_
  refine TriL.nil (by kernel_rfl) ?_
  refine TriQ.next ?_
  refine Tri.seq ?_
  refine Tri.seq ?_
  refine Tri.region ?_
  refine TriL.segK (k' := 1) (fr' := [(0, .string s), (3, .int .i64 0)]) (obl := []) [o_] [0, 3] (fun _ _ => by kernel_rfl) trivial ?_
  refine TriL.nil (by kernel_rfl) ?_
  refine TriQ.next ?_
  refine Tri.block ?_
  refine Tri.loop (ι := Nat) (fun (i : Nat) => (i ≤ s.size) ∧ (∀ j, j < i → ¬ byteAt s j = 0 ∧ ¬ byteAt s j = 47)) (fun (i : Nat) => s.size - i) (fun (i : Nat) => [(0, .string s), (3, .int .i64 (((i : Nat) : Int)))]) (fun (i : Nat) => [.abs R]) 0 (idx := [0, 3]) (pk := [0]) (show (0 ≤ s.size) ∧ (∀ j, j < 0 → ¬ byteAt s j = 0 ∧ ¬ byteAt s j = 47) from ⟨Nat.zero_le _, fun j hj => absurd hj (Nat.not_lt_zero j)⟩) (fun _ => by kernel_rfl) rfl (by kernel_rfl) ?_
  rintro i ⟨hi, hall⟩
  show Tri _ _ _ _ [(0, .string s), (3, .int .i64 (((i : Nat) : Int)))] [.abs R] _
  refine Tri.seq ?_
  refine Tri.seq ?_
  refine Tri.region ?_
  refine TriL.segK (k' := 4) (fr' := [(0, .string s), (3, .int .i64 (((i : Nat) : Int))), (7, .bool (decide ((((i : Nat) : Int) : Int) < ((((s : ByteArray).size : Nat) : Int) : Int))))]) (obl := []) [o_, o_, o_, o_] [0, 3, 7] (fun _ _ => by kernel_rfl) trivial ?_
  refine TriL.nil (by kernel_rfl) ?_
  refine TriQ.next ?_
  refine Tri.condP (p := (((i : Nat) : Int) : Int) < ((((s : ByteArray).size : Nat) : Int) : Int)) (fun _ => by kernel_rfl) (fun h7 => ?_) (fun h7 => ?_)
  · refine Tri.skip ?_
    refine TriQ.next ?_
    refine Tri.seq ?_
    refine Tri.block ?_
    refine Tri.seq ?_
    refine Tri.region ?_
    refine TriL.segK (k' := 5) (fr' := [(0, .string s), (3, .int .i64 (((i : Nat) : Int))), (14, .bool (decide ((((((s : ByteArray).data.getD (i) 0).toNat : Nat) : Int) : Int) = (0 : Int))))]) (obl := [((i : Nat) : Int) = ((i : Nat) : Int), i < (s : ByteArray).size]) [o_, o_, ⟨[], some i, none, none, none⟩, o_, o_] [0, 3, 14] (fun _ _ => by kernel_rfl) ⟨rfl, by omega, trivial⟩ ?_
    refine TriL.slotP 14 ((((((s : ByteArray).data.getD (i) 0).toNat : Nat) : Int) : Int) = (0 : Int)) (fun _ => by kernel_rfl) (fun h14 => ?_) (fun h14 => ?_)
    · refine TriL.segK (k' := 10) (fr' := [(0, .string s), (3, .int .i64 (((i : Nat) : Int))), (19, .bool true)]) (obl := []) [o_, o_, o_, o_, o_] [0, 3, 19] (fun _ _ => by kernel_rfl) trivial ?_
      refine TriL.nil (by kernel_rfl) ?_
      refine TriQ.next ?_
      refine Tri.condT (fun _ => by kernel_rfl) ?_
      refine Tri.seq ?_
      refine Tri.region ?_
      refine TriL.segK (k' := 1) (fr' := [(2, .bool false)]) (obl := []) [o_] [2] (fun _ _ => by kernel_rfl) trivial ?_
      refine TriL.nil (by kernel_rfl) ?_
      refine TriQ.next ?_
      refine Tri.ret ?_
      refine TriQ.blockRet ?_
      refine TriQ.passRet ?_
      refine TriQ.passRet ?_
      refine TriQ.blockRet ?_
      refine TriQ.passRet ?_
      exact TriQ.ret (v := .bool false) (l := []) (obl := []) [] [0] (fun _ => by kernel_rfl) trivial rfl (by kernel_rfl) (⟨congrArg Value.bool (decide_eq_false (by intro g; have := g.2.2.2.2 i (by omega); unfold byteAt at this; omega)).symm, rfl⟩)
    · refine TriL.segK (k' := 10) (fr' := [(0, .string s), (3, .int .i64 (((i : Nat) : Int))), (19, .bool (decide ((((((s : ByteArray).data.getD (i) 0).toNat : Nat) : Int) : Int) = (47 : Int))))]) (obl := [((i : Nat) : Int) = ((i : Nat) : Int), i < (s : ByteArray).size]) [o_, o_, ⟨[], some i, none, none, none⟩, o_, o_] [0, 3, 19] (fun _ _ => by kernel_rfl) ⟨rfl, by omega, trivial⟩ ?_
      refine TriL.nil (by kernel_rfl) ?_
      refine TriQ.next ?_
      refine Tri.condP (p := (((((s : ByteArray).data.getD (i) 0).toNat : Nat) : Int) : Int) = (47 : Int)) (fun _ => by kernel_rfl) (fun h19 => ?_) (fun h19 => ?_)
      · refine Tri.seq ?_
        refine Tri.region ?_
        refine TriL.segK (k' := 1) (fr' := [(2, .bool false)]) (obl := []) [o_] [2] (fun _ _ => by kernel_rfl) trivial ?_
        refine TriL.nil (by kernel_rfl) ?_
        refine TriQ.next ?_
        refine Tri.ret ?_
        refine TriQ.blockRet ?_
        refine TriQ.passRet ?_
        refine TriQ.passRet ?_
        refine TriQ.blockRet ?_
        refine TriQ.passRet ?_
        exact TriQ.ret (v := .bool false) (l := []) (obl := []) [] [0] (fun _ => by kernel_rfl) trivial rfl (by kernel_rfl) (⟨congrArg Value.bool (decide_eq_false (by intro g; have := g.2.2.2.2 i (by omega); unfold byteAt at this; omega)).symm, rfl⟩)
      · refine Tri.skip ?_
        refine TriQ.blockNormal ?_
        refine TriQ.next ?_
        refine Tri.region ?_
        refine TriL.segK (k' := 3) (fr' := [(0, .string s), (3, .int .i64 (((i + 1 : Nat) : Int)))]) (obl := [(Value.int .i64 (IntKind.wrap .i64 (((i : Nat) : Int) + 1))) = (.int .i64 (((i + 1 : Nat) : Int)))]) [o_, ⟨[], none, none, none, some (.int .i64 (((i + 1 : Nat) : Int)))⟩, o_] [0, 3] (fun _ _ => by kernel_rfl) ⟨wrapEq (by omega) (by omega) (by omega), trivial⟩ ?_
        refine TriL.nil (by kernel_rfl) ?_
        exact TriQ.turn ((i + 1)) (idx := [0, 3]) (pk := [0]) (show (((i + 1)) ≤ s.size) ∧ (∀ j, j < ((i + 1)) → ¬ byteAt s j = 0 ∧ ¬ byteAt s j = 47) from ⟨by omega, fun j hj => by rcases Nat.lt_succ_iff_lt_or_eq.1 hj with h | h; exact hall j h; subst h; unfold byteAt; omega⟩) (by show s.size - ((i + 1)) < s.size - i; omega) (fun _ => by kernel_rfl) rfl (by kernel_rfl)
  · refine Tri.exit ?_
    refine TriQ.passExit ?_
    refine TriQ.passExit ?_
    refine TriQ.blockHit ?_
    refine TriQ.next ?_
    refine Tri.seq ?_
    refine Tri.region ?_
    refine TriL.segK (k' := 4) (fr' := [(0, .string s), (23, .bool (decide (((((s : ByteArray).size : Nat) : Int) : Int) ≥ (1 : Int))))]) (obl := []) [o_, o_, o_, o_] [0, 23] (fun _ _ => by kernel_rfl) trivial ?_
    refine TriL.slotP 23 (((((s : ByteArray).size : Nat) : Int) : Int) ≥ (1 : Int)) (fun _ => by kernel_rfl) (fun h23 => ?_) (fun h23 => ?_)
    · refine TriL.segK (k' := 9) (fr' := [(0, .string s), (28, .bool (decide (((((s : ByteArray).size : Nat) : Int) : Int) ≤ (255 : Int))))]) (obl := []) [o_, o_, o_, o_, o_] [0, 28] (fun _ _ => by kernel_rfl) trivial ?_
      refine TriL.slotP 28 (((((s : ByteArray).size : Nat) : Int) : Int) ≤ (255 : Int)) (fun _ => by kernel_rfl) (fun h28 => ?_) (fun h28 => ?_)
      · refine TriL.segK (k' := 13) (fr' := [(0, .string s), (32, .bool (!(decide ((s : ByteArray) = ⟨#[46]⟩))))]) (obl := [(Value.bool (!((s : ByteArray).toList == (⟨#[46]⟩ : ByteArray).toList))) = (.bool (!(decide ((s : ByteArray) = ⟨#[46]⟩))))]) [o_, ⟨[], none, none, none, some (.bool (!(decide ((s : ByteArray) = ⟨#[46]⟩))))⟩, o_, o_] [0, 32] (fun _ _ => by kernel_rfl) ⟨strNeV _ _, trivial⟩ ?_
        refine TriL.slotN 32 ((s : ByteArray) = ⟨#[46]⟩) (fun _ => by kernel_rfl) (fun h32 => ?_) (fun h32 => ?_)
        · refine TriL.segK (k' := 17) (fr' := [(2, .bool (!(decide ((s : ByteArray) = ⟨#[46, 46]⟩))))]) (obl := [(Value.bool (!((s : ByteArray).toList == (⟨#[46, 46]⟩ : ByteArray).toList))) = (.bool (!(decide ((s : ByteArray) = ⟨#[46, 46]⟩))))]) [o_, ⟨[], none, none, none, some (.bool (!(decide ((s : ByteArray) = ⟨#[46, 46]⟩))))⟩, o_, o_] [2] (fun _ _ => by kernel_rfl) ⟨strNeV _ _, trivial⟩ ?_
          refine TriL.nil (by kernel_rfl) ?_
          refine TriQ.next ?_
          refine Tri.ret ?_
          exact TriQ.ret (v := .bool (!(decide ((s : ByteArray) = ⟨#[46, 46]⟩)))) (l := []) (obl := []) [] [0] (fun _ => by kernel_rfl) trivial rfl (by kernel_rfl) (⟨congrArg Value.bool (notDec (by have hA : ∀ j, j < s.size → ¬ byteAt s j = 0 ∧ ¬ byteAt s j = 47 := fun j hj => hall j (by omega); unfold GoodName; grind)), rfl⟩)
        · refine TriL.segK (k' := 17) (fr' := [(2, .bool false)]) (obl := []) [o_, o_, o_, o_] [2] (fun _ _ => by kernel_rfl) trivial ?_
          refine TriL.nil (by kernel_rfl) ?_
          refine TriQ.next ?_
          refine Tri.ret ?_
          exact TriQ.ret (v := .bool false) (l := []) (obl := []) [] [0] (fun _ => by kernel_rfl) trivial rfl (by kernel_rfl) (⟨congrArg Value.bool (decide_eq_false (by have hA : ∀ j, j < s.size → ¬ byteAt s j = 0 ∧ ¬ byteAt s j = 47 := fun j hj => hall j (by omega); unfold GoodName; grind)).symm, rfl⟩)
      · refine TriL.segK (k' := 17) (fr' := [(2, .bool false)]) (obl := []) [o_, o_, o_, o_, o_, o_, o_, o_] [2] (fun _ _ => by kernel_rfl) trivial ?_
        refine TriL.nil (by kernel_rfl) ?_
        refine TriQ.next ?_
        refine Tri.ret ?_
        exact TriQ.ret (v := .bool false) (l := []) (obl := []) [] [0] (fun _ => by kernel_rfl) trivial rfl (by kernel_rfl) (⟨congrArg Value.bool (decide_eq_false (by have hA : ∀ j, j < s.size → ¬ byteAt s j = 0 ∧ ¬ byteAt s j = 47 := fun j hj => hall j (by omega); unfold GoodName; grind)).symm, rfl⟩)
    · refine TriL.segK (k' := 17) (fr' := [(2, .bool false)]) (obl := []) [o_, o_, o_, o_, o_, o_, o_, o_, o_, o_, o_, o_, o_] [2] (fun _ _ => by kernel_rfl) trivial ?_
      refine TriL.nil (by kernel_rfl) ?_
      refine TriQ.next ?_
      refine Tri.ret ?_
      exact TriQ.ret (v := .bool false) (l := []) (obl := []) [] [0] (fun _ => by kernel_rfl) trivial rfl (by kernel_rfl) (⟨congrArg Value.bool (decide_eq_false (by have hA : ∀ j, j < s.size → ¬ byteAt s j = 0 ∧ ¬ byteAt s j = 47 := fun j hj => hall j (by omega); unfold GoodName; grind)).symm, rfl⟩)
set_option maxRecDepth 100000 in
set_option maxHeartbeats 4000000 in
theorem sp_plain {β : Bs} (n : NodeM) (dA eA : Option Addr) (dC eC : Nat) (ht : n.target.size ≤ 1048576) :
    Spec Try.prog β 39 #[.agg #[.int .i64 (n.id), .int .i64 (n.kind), .int .i64 (n.mode), .int .i64 (n.uid), .int .i64 (n.gid), .int .i64 (n.sec), .int .i64 (n.nano), .slice dA (n.data.length) (dC), .string n.target, .slice eA (n.ents.length) (eC)]] [] (fun v l => v = .bool (decide (NodeOk n)) ∧ l = []) := by
  refine Spec.enter Try.func39 rfl Try.ntmps39 (Nat.le_of_ble_eq_true rfl) (fun R => ?_)
  refine Tri.seq ?_
  refine Tri.region ?_
  refine TriL.segN (k' := 2) (fr' := fun b3 => [(1, .pointer (some ⟨b3, 0, none⟩))]) (hps' := fun b3 => [.abs R, .blk b3 [.int .i64 (n.id), .int .i64 (n.kind), .int .i64 (n.mode), .int .i64 (n.uid), .int .i64 (n.gid), .int .i64 (n.sec), .int .i64 (n.nano), .slice dA (n.data.length) (dC), .string n.target, .slice eA (n.ents.length) (eC)] 32]) (obl := fun b3 => []) [o_, o_] [1] [0, 1] (fun _ _ => by kernel_rfl) (fun b3 => trivial) (fun b3 => ?_)
  refine TriL.nil (by kernel_rfl) ?_
  refine TriQ.next ?_
  refine Tri.seq ?_
  refine Tri.seq ?_
  refine Tri.region ?_
  refine TriL.segK (k' := 4) (fr' := [(1, .pointer (some ⟨b3, 0, none⟩)), (7, .bool (decide ((n.kind : Int) < (1 : Int))))]) (obl := [b3 = b3]) [o_, ⟨[.at 1], none, none, none, none⟩, o_, o_] [1, 7] (fun _ _ => by kernel_rfl) ⟨rfl, trivial⟩ ?_
  refine TriL.slotP 7 ((n.kind : Int) < (1 : Int)) (fun _ => by kernel_rfl) (fun h7 => ?_) (fun h7 => ?_)
  · refine TriL.segK (k' := 44) (fr' := [(1, .pointer (some ⟨b3, 0, none⟩)), (47, .bool true)]) (obl := []) [o_, o_, o_, o_, o_, o_, o_, o_, o_, o_, o_, o_, o_, o_, o_, o_, o_, o_, o_, o_, o_, o_, o_, o_, o_, o_, o_, o_, o_, o_, o_, o_, o_, o_, o_, o_, o_, o_, o_, o_] [1, 47] (fun _ _ => by kernel_rfl) trivial ?_
    refine TriL.nil (by kernel_rfl) ?_
    refine TriQ.next ?_
    refine Tri.condT (fun _ => by kernel_rfl) ?_
    refine Tri.seq ?_
    refine Tri.region ?_
    refine TriL.segK (k' := 1) (fr' := [(2, .bool false)]) (obl := []) [o_] [2] (fun _ _ => by kernel_rfl) trivial ?_
    refine TriL.nil (by kernel_rfl) ?_
    refine TriQ.next ?_
    refine Tri.ret ?_
    refine TriQ.passRet ?_
    exact TriQ.ret (v := .bool false) (l := []) (obl := []) [] [0] (fun _ => by kernel_rfl) trivial rfl (by kernel_rfl) (⟨congrArg Value.bool (decide_eq_false (by rw [nodeOk_iff]; grind [TargetOk])).symm, rfl⟩)
  · refine TriL.segK (k' := 9) (fr' := [(1, .pointer (some ⟨b3, 0, none⟩)), (12, .bool (decide ((n.kind : Int) > (3 : Int))))]) (obl := [b3 = b3]) [o_, ⟨[.at 1], none, none, none, none⟩, o_, o_, o_] [1, 12] (fun _ _ => by kernel_rfl) ⟨rfl, trivial⟩ ?_
    refine TriL.slotP 12 ((n.kind : Int) > (3 : Int)) (fun _ => by kernel_rfl) (fun h12 => ?_) (fun h12 => ?_)
    · refine TriL.segK (k' := 44) (fr' := [(1, .pointer (some ⟨b3, 0, none⟩)), (47, .bool true)]) (obl := []) [o_, o_, o_, o_, o_, o_, o_, o_, o_, o_, o_, o_, o_, o_, o_, o_, o_, o_, o_, o_, o_, o_, o_, o_, o_, o_, o_, o_, o_, o_, o_, o_, o_, o_, o_] [1, 47] (fun _ _ => by kernel_rfl) trivial ?_
      refine TriL.nil (by kernel_rfl) ?_
      refine TriQ.next ?_
      refine Tri.condT (fun _ => by kernel_rfl) ?_
      refine Tri.seq ?_
      refine Tri.region ?_
      refine TriL.segK (k' := 1) (fr' := [(2, .bool false)]) (obl := []) [o_] [2] (fun _ _ => by kernel_rfl) trivial ?_
      refine TriL.nil (by kernel_rfl) ?_
      refine TriQ.next ?_
      refine Tri.ret ?_
      refine TriQ.passRet ?_
      exact TriQ.ret (v := .bool false) (l := []) (obl := []) [] [0] (fun _ => by kernel_rfl) trivial rfl (by kernel_rfl) (⟨congrArg Value.bool (decide_eq_false (by rw [nodeOk_iff]; grind [TargetOk])).symm, rfl⟩)
    · refine TriL.segK (k' := 14) (fr' := [(1, .pointer (some ⟨b3, 0, none⟩)), (17, .bool (decide ((n.mode : Int) < (0 : Int))))]) (obl := [b3 = b3]) [o_, ⟨[.at 1], none, none, none, none⟩, o_, o_, o_] [1, 17] (fun _ _ => by kernel_rfl) ⟨rfl, trivial⟩ ?_
      refine TriL.slotP 17 ((n.mode : Int) < (0 : Int)) (fun _ => by kernel_rfl) (fun h17 => ?_) (fun h17 => ?_)
      · refine TriL.segK (k' := 44) (fr' := [(1, .pointer (some ⟨b3, 0, none⟩)), (47, .bool true)]) (obl := []) [o_, o_, o_, o_, o_, o_, o_, o_, o_, o_, o_, o_, o_, o_, o_, o_, o_, o_, o_, o_, o_, o_, o_, o_, o_, o_, o_, o_, o_, o_] [1, 47] (fun _ _ => by kernel_rfl) trivial ?_
        refine TriL.nil (by kernel_rfl) ?_
        refine TriQ.next ?_
        refine Tri.condT (fun _ => by kernel_rfl) ?_
        refine Tri.seq ?_
        refine Tri.region ?_
        refine TriL.segK (k' := 1) (fr' := [(2, .bool false)]) (obl := []) [o_] [2] (fun _ _ => by kernel_rfl) trivial ?_
        refine TriL.nil (by kernel_rfl) ?_
        refine TriQ.next ?_
        refine Tri.ret ?_
        refine TriQ.passRet ?_
        exact TriQ.ret (v := .bool false) (l := []) (obl := []) [] [0] (fun _ => by kernel_rfl) trivial rfl (by kernel_rfl) (⟨congrArg Value.bool (decide_eq_false (by rw [nodeOk_iff]; grind [TargetOk])).symm, rfl⟩)
      · refine TriL.segK (k' := 19) (fr' := [(1, .pointer (some ⟨b3, 0, none⟩)), (22, .bool (decide ((n.mode : Int) > (4095 : Int))))]) (obl := [b3 = b3]) [o_, ⟨[.at 1], none, none, none, none⟩, o_, o_, o_] [1, 22] (fun _ _ => by kernel_rfl) ⟨rfl, trivial⟩ ?_
        refine TriL.slotP 22 ((n.mode : Int) > (4095 : Int)) (fun _ => by kernel_rfl) (fun h22 => ?_) (fun h22 => ?_)
        · refine TriL.segK (k' := 44) (fr' := [(1, .pointer (some ⟨b3, 0, none⟩)), (47, .bool true)]) (obl := []) [o_, o_, o_, o_, o_, o_, o_, o_, o_, o_, o_, o_, o_, o_, o_, o_, o_, o_, o_, o_, o_, o_, o_, o_, o_] [1, 47] (fun _ _ => by kernel_rfl) trivial ?_
          refine TriL.nil (by kernel_rfl) ?_
          refine TriQ.next ?_
          refine Tri.condT (fun _ => by kernel_rfl) ?_
          refine Tri.seq ?_
          refine Tri.region ?_
          refine TriL.segK (k' := 1) (fr' := [(2, .bool false)]) (obl := []) [o_] [2] (fun _ _ => by kernel_rfl) trivial ?_
          refine TriL.nil (by kernel_rfl) ?_
          refine TriQ.next ?_
          refine Tri.ret ?_
          refine TriQ.passRet ?_
          exact TriQ.ret (v := .bool false) (l := []) (obl := []) [] [0] (fun _ => by kernel_rfl) trivial rfl (by kernel_rfl) (⟨congrArg Value.bool (decide_eq_false (by rw [nodeOk_iff]; grind [TargetOk])).symm, rfl⟩)
        · refine TriL.segK (k' := 24) (fr' := [(1, .pointer (some ⟨b3, 0, none⟩)), (27, .bool (decide ((n.uid : Int) < (0 : Int))))]) (obl := [b3 = b3]) [o_, ⟨[.at 1], none, none, none, none⟩, o_, o_, o_] [1, 27] (fun _ _ => by kernel_rfl) ⟨rfl, trivial⟩ ?_
          refine TriL.slotP 27 ((n.uid : Int) < (0 : Int)) (fun _ => by kernel_rfl) (fun h27 => ?_) (fun h27 => ?_)
          · refine TriL.segK (k' := 44) (fr' := [(1, .pointer (some ⟨b3, 0, none⟩)), (47, .bool true)]) (obl := []) [o_, o_, o_, o_, o_, o_, o_, o_, o_, o_, o_, o_, o_, o_, o_, o_, o_, o_, o_, o_] [1, 47] (fun _ _ => by kernel_rfl) trivial ?_
            refine TriL.nil (by kernel_rfl) ?_
            refine TriQ.next ?_
            refine Tri.condT (fun _ => by kernel_rfl) ?_
            refine Tri.seq ?_
            refine Tri.region ?_
            refine TriL.segK (k' := 1) (fr' := [(2, .bool false)]) (obl := []) [o_] [2] (fun _ _ => by kernel_rfl) trivial ?_
            refine TriL.nil (by kernel_rfl) ?_
            refine TriQ.next ?_
            refine Tri.ret ?_
            refine TriQ.passRet ?_
            exact TriQ.ret (v := .bool false) (l := []) (obl := []) [] [0] (fun _ => by kernel_rfl) trivial rfl (by kernel_rfl) (⟨congrArg Value.bool (decide_eq_false (by rw [nodeOk_iff]; grind [TargetOk])).symm, rfl⟩)
          · refine TriL.segK (k' := 29) (fr' := [(1, .pointer (some ⟨b3, 0, none⟩)), (32, .bool (decide ((n.uid : Int) > (2147483647 : Int))))]) (obl := [b3 = b3]) [o_, ⟨[.at 1], none, none, none, none⟩, o_, o_, o_] [1, 32] (fun _ _ => by kernel_rfl) ⟨rfl, trivial⟩ ?_
            refine TriL.slotP 32 ((n.uid : Int) > (2147483647 : Int)) (fun _ => by kernel_rfl) (fun h32 => ?_) (fun h32 => ?_)
            · refine TriL.segK (k' := 44) (fr' := [(1, .pointer (some ⟨b3, 0, none⟩)), (47, .bool true)]) (obl := []) [o_, o_, o_, o_, o_, o_, o_, o_, o_, o_, o_, o_, o_, o_, o_] [1, 47] (fun _ _ => by kernel_rfl) trivial ?_
              refine TriL.nil (by kernel_rfl) ?_
              refine TriQ.next ?_
              refine Tri.condT (fun _ => by kernel_rfl) ?_
              refine Tri.seq ?_
              refine Tri.region ?_
              refine TriL.segK (k' := 1) (fr' := [(2, .bool false)]) (obl := []) [o_] [2] (fun _ _ => by kernel_rfl) trivial ?_
              refine TriL.nil (by kernel_rfl) ?_
              refine TriQ.next ?_
              refine Tri.ret ?_
              refine TriQ.passRet ?_
              exact TriQ.ret (v := .bool false) (l := []) (obl := []) [] [0] (fun _ => by kernel_rfl) trivial rfl (by kernel_rfl) (⟨congrArg Value.bool (decide_eq_false (by rw [nodeOk_iff]; grind [TargetOk])).symm, rfl⟩)
            · refine TriL.segK (k' := 34) (fr' := [(1, .pointer (some ⟨b3, 0, none⟩)), (37, .bool (decide ((n.gid : Int) < (0 : Int))))]) (obl := [b3 = b3]) [o_, ⟨[.at 1], none, none, none, none⟩, o_, o_, o_] [1, 37] (fun _ _ => by kernel_rfl) ⟨rfl, trivial⟩ ?_
              refine TriL.slotP 37 ((n.gid : Int) < (0 : Int)) (fun _ => by kernel_rfl) (fun h37 => ?_) (fun h37 => ?_)
              · refine TriL.segK (k' := 44) (fr' := [(1, .pointer (some ⟨b3, 0, none⟩)), (47, .bool true)]) (obl := []) [o_, o_, o_, o_, o_, o_, o_, o_, o_, o_] [1, 47] (fun _ _ => by kernel_rfl) trivial ?_
                refine TriL.nil (by kernel_rfl) ?_
                refine TriQ.next ?_
                refine Tri.condT (fun _ => by kernel_rfl) ?_
                refine Tri.seq ?_
                refine Tri.region ?_
                refine TriL.segK (k' := 1) (fr' := [(2, .bool false)]) (obl := []) [o_] [2] (fun _ _ => by kernel_rfl) trivial ?_
                refine TriL.nil (by kernel_rfl) ?_
                refine TriQ.next ?_
                refine Tri.ret ?_
                refine TriQ.passRet ?_
                exact TriQ.ret (v := .bool false) (l := []) (obl := []) [] [0] (fun _ => by kernel_rfl) trivial rfl (by kernel_rfl) (⟨congrArg Value.bool (decide_eq_false (by rw [nodeOk_iff]; grind [TargetOk])).symm, rfl⟩)
              · refine TriL.segK (k' := 39) (fr' := [(1, .pointer (some ⟨b3, 0, none⟩)), (42, .bool (decide ((n.gid : Int) > (2147483647 : Int))))]) (obl := [b3 = b3]) [o_, ⟨[.at 1], none, none, none, none⟩, o_, o_, o_] [1, 42] (fun _ _ => by kernel_rfl) ⟨rfl, trivial⟩ ?_
                refine TriL.slotP 42 ((n.gid : Int) > (2147483647 : Int)) (fun _ => by kernel_rfl) (fun h42 => ?_) (fun h42 => ?_)
                · refine TriL.segK (k' := 44) (fr' := [(1, .pointer (some ⟨b3, 0, none⟩)), (47, .bool true)]) (obl := []) [o_, o_, o_, o_, o_] [1, 47] (fun _ _ => by kernel_rfl) trivial ?_
                  refine TriL.nil (by kernel_rfl) ?_
                  refine TriQ.next ?_
                  refine Tri.condT (fun _ => by kernel_rfl) ?_
                  refine Tri.seq ?_
                  refine Tri.region ?_
                  refine TriL.segK (k' := 1) (fr' := [(2, .bool false)]) (obl := []) [o_] [2] (fun _ _ => by kernel_rfl) trivial ?_
                  refine TriL.nil (by kernel_rfl) ?_
                  refine TriQ.next ?_
                  refine Tri.ret ?_
                  refine TriQ.passRet ?_
                  exact TriQ.ret (v := .bool false) (l := []) (obl := []) [] [0] (fun _ => by kernel_rfl) trivial rfl (by kernel_rfl) (⟨congrArg Value.bool (decide_eq_false (by rw [nodeOk_iff]; grind [TargetOk])).symm, rfl⟩)
                · refine TriL.segK (k' := 41) (fr' := [(1, .pointer (some ⟨b3, 0, none⟩)), (42, .bool false), (44, .agg #[.int .i64 (n.sec), .int .i64 (n.nano)])]) (obl := [b3 = b3, b3 = b3]) [o_, ⟨[.at 1, .at 1], none, none, none, none⟩] [1, 42, 44] (fun _ _ => by kernel_rfl) ⟨rfl, rfl, trivial⟩ ?_
                  refine TriL.call (f := 61) (args := #[.agg #[.int .i64 (n.sec), .int .i64 (n.nano)]]) (d := (some 45)) (pre := []) (R := [.abs R, .blk b3 [.int .i64 (n.id), .int .i64 (n.kind), .int .i64 (n.mode), .int .i64 (n.uid), .int .i64 (n.gid), .int .i64 (n.sec), .int .i64 (n.nano), .slice dA (n.data.length) (dC), .string n.target, .slice eA (n.ents.length) (eC)] 32]) (pk := [0, 1]) (fun _ => by kernel_rfl) (sp_refValid n.sec n.nano) rfl (by kernel_rfl) ?_
                  rintro _ _ ⟨rfl, rfl⟩
                  refine TriL.segK (k' := 44) (fr' := [(1, .pointer (some ⟨b3, 0, none⟩)), (47, .bool (!(decide (TimeOk n.sec n.nano))))]) (obl := []) [o_, o_] [1, 47] (fun _ _ => by kernel_rfl) trivial ?_
                  refine TriL.nil (by kernel_rfl) ?_
                  refine TriQ.next ?_
                  refine Tri.condN (p := TimeOk n.sec n.nano) (fun _ => by kernel_rfl) (fun h47 => ?_) (fun h47 => ?_)
                  · refine Tri.seq ?_
                    refine Tri.region ?_
                    refine TriL.segK (k' := 1) (fr' := [(2, .bool false)]) (obl := []) [o_] [2] (fun _ _ => by kernel_rfl) trivial ?_
                    refine TriL.nil (by kernel_rfl) ?_
                    refine TriQ.next ?_
                    refine Tri.ret ?_
                    refine TriQ.passRet ?_
                    exact TriQ.ret (v := .bool false) (l := []) (obl := []) [] [0] (fun _ => by kernel_rfl) trivial rfl (by kernel_rfl) (⟨congrArg Value.bool (decide_eq_false (by rw [nodeOk_iff]; grind [TargetOk])).symm, rfl⟩)
                  · refine Tri.skip ?_
                    refine TriQ.next ?_
                    refine Tri.seq ?_
                    refine Tri.seq ?_
                    refine Tri.region ?_
                    refine TriL.segK (k' := 4) (fr' := [(1, .pointer (some ⟨b3, 0, none⟩)), (51, .bool (!(decide ((n.kind : Int) = (1 : Int)))))]) (obl := [b3 = b3]) [o_, ⟨[.at 1], none, none, none, none⟩, o_, o_] [1, 51] (fun _ _ => by kernel_rfl) ⟨rfl, trivial⟩ ?_
                    refine TriL.slotN 51 ((n.kind : Int) = (1 : Int)) (fun _ => by kernel_rfl) (fun h51 => ?_) (fun h51 => ?_)
                    · refine TriL.segK (k' := 10) (fr' := [(1, .pointer (some ⟨b3, 0, none⟩)), (57, .bool (decide ((((n.data.length : Nat) : Int) : Int) > (0 : Int))))]) (obl := [b3 = b3]) [o_, ⟨[.at 1], none, none, none, none⟩, o_, o_, o_, o_] [1, 57] (fun _ _ => by kernel_rfl) ⟨rfl, trivial⟩ ?_
                      refine TriL.slotP 57 ((((n.data.length : Nat) : Int) : Int) > (0 : Int)) (fun _ => by kernel_rfl) (fun h57 => ?_) (fun h57 => ?_)
                      · refine TriL.segK (k' := 20) (fr' := [(1, .pointer (some ⟨b3, 0, none⟩)), (67, .bool true)]) (obl := []) [o_, o_, o_, o_, o_, o_, o_, o_, o_, o_] [1, 67] (fun _ _ => by kernel_rfl) trivial ?_
                        refine TriL.nil (by kernel_rfl) ?_
                        refine TriQ.next ?_
                        refine Tri.condT (fun _ => by kernel_rfl) ?_
                        refine Tri.seq ?_
                        refine Tri.region ?_
                        refine TriL.segK (k' := 1) (fr' := [(2, .bool false)]) (obl := []) [o_] [2] (fun _ _ => by kernel_rfl) trivial ?_
                        refine TriL.nil (by kernel_rfl) ?_
                        refine TriQ.next ?_
                        refine Tri.ret ?_
                        refine TriQ.passRet ?_
                        exact TriQ.ret (v := .bool false) (l := []) (obl := []) [] [0] (fun _ => by kernel_rfl) trivial rfl (by kernel_rfl) (⟨congrArg Value.bool (decide_eq_false (by rw [nodeOk_iff]; grind [TargetOk])).symm, rfl⟩)
                      · refine TriL.segK (k' := 14) (fr' := [(1, .pointer (some ⟨b3, 0, none⟩)), (57, .bool false), (61, .bool (!(decide ((n.kind : Int) = (2 : Int)))))]) (obl := [b3 = b3]) [o_, ⟨[.at 1], none, none, none, none⟩, o_, o_] [1, 57, 61] (fun _ _ => by kernel_rfl) ⟨rfl, trivial⟩ ?_
                        refine TriL.slotN 61 ((n.kind : Int) = (2 : Int)) (fun _ => by kernel_rfl) (fun h61 => ?_) (fun h61 => ?_)
                        · refine TriL.segK (k' := 20) (fr' := [(1, .pointer (some ⟨b3, 0, none⟩)), (67, .bool (decide ((((n.ents.length : Nat) : Int) : Int) > (0 : Int))))]) (obl := [b3 = b3]) [o_, ⟨[.at 1], none, none, none, none⟩, o_, o_, o_, o_] [1, 67] (fun _ _ => by kernel_rfl) ⟨rfl, trivial⟩ ?_
                          refine TriL.nil (by kernel_rfl) ?_
                          refine TriQ.next ?_
                          refine Tri.condP (p := (((n.ents.length : Nat) : Int) : Int) > (0 : Int)) (fun _ => by kernel_rfl) (fun h67 => ?_) (fun h67 => ?_)
                          · refine Tri.seq ?_
                            refine Tri.region ?_
                            refine TriL.segK (k' := 1) (fr' := [(2, .bool false)]) (obl := []) [o_] [2] (fun _ _ => by kernel_rfl) trivial ?_
                            refine TriL.nil (by kernel_rfl) ?_
                            refine TriQ.next ?_
                            refine Tri.ret ?_
                            refine TriQ.passRet ?_
                            exact TriQ.ret (v := .bool false) (l := []) (obl := []) [] [0] (fun _ => by kernel_rfl) trivial rfl (by kernel_rfl) (⟨congrArg Value.bool (decide_eq_false (by rw [nodeOk_iff]; grind [TargetOk])).symm, rfl⟩)
                          · refine Tri.skip ?_
                            refine TriQ.next ?_
                            refine Tri.seq ?_
                            refine Tri.seq ?_
                            refine Tri.region ?_
                            refine TriL.segK (k' := 3) (fr' := [(1, .pointer (some ⟨b3, 0, none⟩)), (70, .bool (!(decide ((n.kind : Int) = (3 : Int)))))]) (obl := [b3 = b3]) [o_, ⟨[.at 1], none, none, none, none⟩, o_] [1, 70] (fun _ _ => by kernel_rfl) ⟨rfl, trivial⟩ ?_
                            refine TriL.nil (by kernel_rfl) ?_
                            refine TriQ.next ?_
                            refine Tri.condN (p := (n.kind : Int) = (3 : Int)) (fun _ => by kernel_rfl) (fun h70 => ?_) (fun h70 => ?_)
                            · refine Tri.seq ?_
                              refine Tri.region ?_
                              refine TriL.segK (k' := 4) (fr' := [(2, .bool (decide ((n.target : ByteArray) = ⟨#[]⟩)))]) (obl := [(Value.bool ((n.target : ByteArray).toList == (⟨#[]⟩ : ByteArray).toList)) = (.bool (decide ((n.target : ByteArray) = ⟨#[]⟩))), b3 = b3]) [o_, ⟨[.at 1], none, none, none, none⟩, ⟨[], none, none, none, some (.bool (decide ((n.target : ByteArray) = ⟨#[]⟩)))⟩, o_] [2] (fun _ _ => by kernel_rfl) ⟨strEqV _ _, rfl, trivial⟩ ?_
                              refine TriL.nil (by kernel_rfl) ?_
                              refine TriQ.next ?_
                              refine Tri.ret ?_
                              refine TriQ.passRet ?_
                              exact TriQ.ret (v := .bool (decide ((n.target : ByteArray) = ⟨#[]⟩))) (l := []) (obl := []) [] [0] (fun _ => by kernel_rfl) trivial rfl (by kernel_rfl) (⟨congrArg Value.bool (decide_eq_decide.2 (by rw [nodeOk_iff]; grind [TargetOk])), rfl⟩)
                            · refine Tri.skip ?_
                              refine TriQ.next ?_
                              refine Tri.seq ?_
                              refine Tri.seq ?_
                              refine Tri.region ?_
                              refine TriL.segK (k' := 1) (fr' := [(1, .pointer (some ⟨b3, 0, none⟩)), (3, .int .i64 0)]) (obl := []) [o_] [1, 3] (fun _ _ => by kernel_rfl) trivial ?_
                              refine TriL.nil (by kernel_rfl) ?_
                              refine TriQ.next ?_
                              refine Tri.block ?_
                              refine Tri.loop (ι := Nat) (fun (i : Nat) => (i ≤ n.target.size) ∧ (∀ j, j < i → ¬ byteAt n.target j = 0)) (fun (i : Nat) => n.target.size - i) (fun (i : Nat) => [(1, .pointer (some ⟨b3, 0, none⟩)), (3, .int .i64 (((i : Nat) : Int)))]) (fun (i : Nat) => [.abs R, .blk b3 [.int .i64 (n.id), .int .i64 (n.kind), .int .i64 (n.mode), .int .i64 (n.uid), .int .i64 (n.gid), .int .i64 (n.sec), .int .i64 (n.nano), .slice dA (n.data.length) (dC), .string n.target, .slice eA (n.ents.length) (eC)] 32]) 0 (idx := [1, 3]) (pk := [0, 1]) (show (0 ≤ n.target.size) ∧ (∀ j, j < 0 → ¬ byteAt n.target j = 0) from ⟨Nat.zero_le _, fun j hj => absurd hj (Nat.not_lt_zero j)⟩) (fun _ => by kernel_rfl) rfl (by kernel_rfl) ?_
                              rintro i ⟨hi, hall⟩
                              show Tri _ _ _ _ [(1, .pointer (some ⟨b3, 0, none⟩)), (3, .int .i64 (((i : Nat) : Int)))] [.abs R, .blk b3 [.int .i64 (n.id), .int .i64 (n.kind), .int .i64 (n.mode), .int .i64 (n.uid), .int .i64 (n.gid), .int .i64 (n.sec), .int .i64 (n.nano), .slice dA (n.data.length) (dC), .string n.target, .slice eA (n.ents.length) (eC)] 32] _
                              refine Tri.seq ?_
                              refine Tri.seq ?_
                              refine Tri.region ?_
                              refine TriL.segK (k' := 5) (fr' := [(1, .pointer (some ⟨b3, 0, none⟩)), (3, .int .i64 (((i : Nat) : Int))), (78, .bool (decide ((((i : Nat) : Int) : Int) < ((((n.target : ByteArray).size : Nat) : Int) : Int))))]) (obl := [b3 = b3]) [o_, o_, ⟨[.at 1], none, none, none, none⟩, o_, o_] [1, 3, 78] (fun _ _ => by kernel_rfl) ⟨rfl, trivial⟩ ?_
                              refine TriL.nil (by kernel_rfl) ?_
                              refine TriQ.next ?_
                              refine Tri.condP (p := (((i : Nat) : Int) : Int) < ((((n.target : ByteArray).size : Nat) : Int) : Int)) (fun _ => by kernel_rfl) (fun h78 => ?_) (fun h78 => ?_)
                              · refine Tri.skip ?_
                                refine TriQ.next ?_
                                refine Tri.seq ?_
                                refine Tri.block ?_
                                refine Tri.seq ?_
                                refine Tri.region ?_
                                refine TriL.segK (k' := 5) (fr' := [(1, .pointer (some ⟨b3, 0, none⟩)), (3, .int .i64 (((i : Nat) : Int))), (85, .bool (decide ((((((n.target : ByteArray).data.getD (i) 0).toNat : Nat) : Int) : Int) = (0 : Int))))]) (obl := [((i : Nat) : Int) = ((i : Nat) : Int), i < (n.target : ByteArray).size, b3 = b3]) [o_, ⟨[.at 1], none, none, none, none⟩, o_, ⟨[], some i, none, none, none⟩, o_] [1, 3, 85] (fun _ _ => by kernel_rfl) ⟨rfl, by omega, rfl, trivial⟩ ?_
                                refine TriL.nil (by kernel_rfl) ?_
                                refine TriQ.next ?_
                                refine Tri.condP (p := (((((n.target : ByteArray).data.getD (i) 0).toNat : Nat) : Int) : Int) = (0 : Int)) (fun _ => by kernel_rfl) (fun h85 => ?_) (fun h85 => ?_)
                                · refine Tri.seq ?_
                                  refine Tri.region ?_
                                  refine TriL.segK (k' := 1) (fr' := [(2, .bool false)]) (obl := []) [o_] [2] (fun _ _ => by kernel_rfl) trivial ?_
                                  refine TriL.nil (by kernel_rfl) ?_
                                  refine TriQ.next ?_
                                  refine Tri.ret ?_
                                  refine TriQ.blockRet ?_
                                  refine TriQ.passRet ?_
                                  refine TriQ.passRet ?_
                                  refine TriQ.blockRet ?_
                                  refine TriQ.passRet ?_
                                  exact TriQ.ret (v := .bool false) (l := []) (obl := []) [] [0] (fun _ => by kernel_rfl) trivial rfl (by kernel_rfl) (⟨congrArg Value.bool (decide_eq_false (by intro g; have := (TargetOk.sym g.target (by omega)).2.2 i (by omega); unfold byteAt at this; omega)).symm, rfl⟩)
                                · refine Tri.skip ?_
                                  refine TriQ.blockNormal ?_
                                  refine TriQ.next ?_
                                  refine Tri.region ?_
                                  refine TriL.segK (k' := 3) (fr' := [(1, .pointer (some ⟨b3, 0, none⟩)), (3, .int .i64 (((i + 1 : Nat) : Int)))]) (obl := [(Value.int .i64 (IntKind.wrap .i64 (((i : Nat) : Int) + 1))) = (.int .i64 (((i + 1 : Nat) : Int)))]) [o_, ⟨[], none, none, none, some (.int .i64 (((i + 1 : Nat) : Int)))⟩, o_] [1, 3] (fun _ _ => by kernel_rfl) ⟨wrapEq (by omega) (by omega) (by omega), trivial⟩ ?_
                                  refine TriL.nil (by kernel_rfl) ?_
                                  exact TriQ.turn ((i + 1)) (idx := [1, 3]) (pk := [0, 1]) (show (((i + 1)) ≤ n.target.size) ∧ (∀ j, j < ((i + 1)) → ¬ byteAt n.target j = 0) from ⟨by omega, fun j hj => by rcases Nat.lt_succ_iff_lt_or_eq.1 hj with h | h; exact hall j h; subst h; unfold byteAt; omega⟩) (by show n.target.size - ((i + 1)) < n.target.size - i; omega) (fun _ => by kernel_rfl) rfl (by kernel_rfl)
                              · refine Tri.exit ?_
                                refine TriQ.passExit ?_
                                refine TriQ.passExit ?_
                                refine TriQ.blockHit ?_
                                refine TriQ.next ?_
                                refine Tri.seq ?_
                                refine Tri.region ?_
                                refine TriL.segK (k' := 5) (fr' := [(1, .pointer (some ⟨b3, 0, none⟩)), (90, .bool (decide (((((n.target : ByteArray).size : Nat) : Int) : Int) ≥ (1 : Int))))]) (obl := [b3 = b3]) [o_, ⟨[.at 1], none, none, none, none⟩, o_, o_, o_] [1, 90] (fun _ _ => by kernel_rfl) ⟨rfl, trivial⟩ ?_
                                refine TriL.slotP 90 (((((n.target : ByteArray).size : Nat) : Int) : Int) ≥ (1 : Int)) (fun _ => by kernel_rfl) (fun h90 => ?_) (fun h90 => ?_)
                                · refine TriL.segK (k' := 11) (fr' := [(2, .bool (decide (((((n.target : ByteArray).size : Nat) : Int) : Int) ≤ (4096 : Int))))]) (obl := [b3 = b3]) [o_, ⟨[.at 1], none, none, none, none⟩, o_, o_, o_, o_] [2] (fun _ _ => by kernel_rfl) ⟨rfl, trivial⟩ ?_
                                  refine TriL.nil (by kernel_rfl) ?_
                                  refine TriQ.next ?_
                                  refine Tri.ret ?_
                                  exact TriQ.ret (v := .bool (decide (((((n.target : ByteArray).size : Nat) : Int) : Int) ≤ (4096 : Int)))) (l := []) (obl := []) [] [0] (fun _ => by kernel_rfl) trivial rfl (by kernel_rfl) (⟨congrArg Value.bool (decide_eq_decide.2 (by have hA : NoNul n.target := fun j hj => hall j (by omega); rw [nodeOk_iff]; grind [TargetOk])), rfl⟩)
                                · refine TriL.segK (k' := 11) (fr' := [(2, .bool false)]) (obl := []) [o_, o_, o_, o_, o_, o_] [2] (fun _ _ => by kernel_rfl) trivial ?_
                                  refine TriL.nil (by kernel_rfl) ?_
                                  refine TriQ.next ?_
                                  refine Tri.ret ?_
                                  exact TriQ.ret (v := .bool false) (l := []) (obl := []) [] [0] (fun _ => by kernel_rfl) trivial rfl (by kernel_rfl) (⟨congrArg Value.bool (decide_eq_false (by have hA : NoNul n.target := fun j hj => hall j (by omega); rw [nodeOk_iff]; grind [TargetOk])).symm, rfl⟩)
                        · refine TriL.segK (k' := 20) (fr' := [(1, .pointer (some ⟨b3, 0, none⟩)), (67, .bool false)]) (obl := []) [o_, o_, o_, o_, o_, o_] [1, 67] (fun _ _ => by kernel_rfl) trivial ?_
                          refine TriL.nil (by kernel_rfl) ?_
                          refine TriQ.next ?_
                          refine Tri.condF (fun _ => by kernel_rfl) ?_
                          refine Tri.skip ?_
                          refine TriQ.next ?_
                          refine Tri.seq ?_
                          refine Tri.seq ?_
                          refine Tri.region ?_
                          refine TriL.segK (k' := 3) (fr' := [(1, .pointer (some ⟨b3, 0, none⟩)), (70, .bool (!(decide ((n.kind : Int) = (3 : Int)))))]) (obl := [b3 = b3]) [o_, ⟨[.at 1], none, none, none, none⟩, o_] [1, 70] (fun _ _ => by kernel_rfl) ⟨rfl, trivial⟩ ?_
                          refine TriL.nil (by kernel_rfl) ?_
                          refine TriQ.next ?_
                          refine Tri.condN (p := (n.kind : Int) = (3 : Int)) (fun _ => by kernel_rfl) (fun h70 => ?_) (fun h70 => ?_)
                          · refine Tri.seq ?_
                            refine Tri.region ?_
                            refine TriL.segK (k' := 4) (fr' := [(2, .bool (decide ((n.target : ByteArray) = ⟨#[]⟩)))]) (obl := [(Value.bool ((n.target : ByteArray).toList == (⟨#[]⟩ : ByteArray).toList)) = (.bool (decide ((n.target : ByteArray) = ⟨#[]⟩))), b3 = b3]) [o_, ⟨[.at 1], none, none, none, none⟩, ⟨[], none, none, none, some (.bool (decide ((n.target : ByteArray) = ⟨#[]⟩)))⟩, o_] [2] (fun _ _ => by kernel_rfl) ⟨strEqV _ _, rfl, trivial⟩ ?_
                            refine TriL.nil (by kernel_rfl) ?_
                            refine TriQ.next ?_
                            refine Tri.ret ?_
                            refine TriQ.passRet ?_
                            exact TriQ.ret (v := .bool (decide ((n.target : ByteArray) = ⟨#[]⟩))) (l := []) (obl := []) [] [0] (fun _ => by kernel_rfl) trivial rfl (by kernel_rfl) (⟨congrArg Value.bool (decide_eq_decide.2 (by rw [nodeOk_iff]; grind [TargetOk])), rfl⟩)
                          · refine Tri.skip ?_
                            refine TriQ.next ?_
                            refine Tri.seq ?_
                            refine Tri.seq ?_
                            refine Tri.region ?_
                            refine TriL.segK (k' := 1) (fr' := [(1, .pointer (some ⟨b3, 0, none⟩)), (3, .int .i64 0)]) (obl := []) [o_] [1, 3] (fun _ _ => by kernel_rfl) trivial ?_
                            refine TriL.nil (by kernel_rfl) ?_
                            refine TriQ.next ?_
                            refine Tri.block ?_
                            refine Tri.loop (ι := Nat) (fun (i : Nat) => (i ≤ n.target.size) ∧ (∀ j, j < i → ¬ byteAt n.target j = 0)) (fun (i : Nat) => n.target.size - i) (fun (i : Nat) => [(1, .pointer (some ⟨b3, 0, none⟩)), (3, .int .i64 (((i : Nat) : Int)))]) (fun (i : Nat) => [.abs R, .blk b3 [.int .i64 (n.id), .int .i64 (n.kind), .int .i64 (n.mode), .int .i64 (n.uid), .int .i64 (n.gid), .int .i64 (n.sec), .int .i64 (n.nano), .slice dA (n.data.length) (dC), .string n.target, .slice eA (n.ents.length) (eC)] 32]) 0 (idx := [1, 3]) (pk := [0, 1]) (show (0 ≤ n.target.size) ∧ (∀ j, j < 0 → ¬ byteAt n.target j = 0) from ⟨Nat.zero_le _, fun j hj => absurd hj (Nat.not_lt_zero j)⟩) (fun _ => by kernel_rfl) rfl (by kernel_rfl) ?_
                            rintro i ⟨hi, hall⟩
                            show Tri _ _ _ _ [(1, .pointer (some ⟨b3, 0, none⟩)), (3, .int .i64 (((i : Nat) : Int)))] [.abs R, .blk b3 [.int .i64 (n.id), .int .i64 (n.kind), .int .i64 (n.mode), .int .i64 (n.uid), .int .i64 (n.gid), .int .i64 (n.sec), .int .i64 (n.nano), .slice dA (n.data.length) (dC), .string n.target, .slice eA (n.ents.length) (eC)] 32] _
                            refine Tri.seq ?_
                            refine Tri.seq ?_
                            refine Tri.region ?_
                            refine TriL.segK (k' := 5) (fr' := [(1, .pointer (some ⟨b3, 0, none⟩)), (3, .int .i64 (((i : Nat) : Int))), (78, .bool (decide ((((i : Nat) : Int) : Int) < ((((n.target : ByteArray).size : Nat) : Int) : Int))))]) (obl := [b3 = b3]) [o_, o_, ⟨[.at 1], none, none, none, none⟩, o_, o_] [1, 3, 78] (fun _ _ => by kernel_rfl) ⟨rfl, trivial⟩ ?_
                            refine TriL.nil (by kernel_rfl) ?_
                            refine TriQ.next ?_
                            refine Tri.condP (p := (((i : Nat) : Int) : Int) < ((((n.target : ByteArray).size : Nat) : Int) : Int)) (fun _ => by kernel_rfl) (fun h78 => ?_) (fun h78 => ?_)
                            · refine Tri.skip ?_
                              refine TriQ.next ?_
                              refine Tri.seq ?_
                              refine Tri.block ?_
                              refine Tri.seq ?_
                              refine Tri.region ?_
                              refine TriL.segK (k' := 5) (fr' := [(1, .pointer (some ⟨b3, 0, none⟩)), (3, .int .i64 (((i : Nat) : Int))), (85, .bool (decide ((((((n.target : ByteArray).data.getD (i) 0).toNat : Nat) : Int) : Int) = (0 : Int))))]) (obl := [((i : Nat) : Int) = ((i : Nat) : Int), i < (n.target : ByteArray).size, b3 = b3]) [o_, ⟨[.at 1], none, none, none, none⟩, o_, ⟨[], some i, none, none, none⟩, o_] [1, 3, 85] (fun _ _ => by kernel_rfl) ⟨rfl, by omega, rfl, trivial⟩ ?_
                              refine TriL.nil (by kernel_rfl) ?_
                              refine TriQ.next ?_
                              refine Tri.condP (p := (((((n.target : ByteArray).data.getD (i) 0).toNat : Nat) : Int) : Int) = (0 : Int)) (fun _ => by kernel_rfl) (fun h85 => ?_) (fun h85 => ?_)
                              · refine Tri.seq ?_
                                refine Tri.region ?_
                                refine TriL.segK (k' := 1) (fr' := [(2, .bool false)]) (obl := []) [o_] [2] (fun _ _ => by kernel_rfl) trivial ?_
                                refine TriL.nil (by kernel_rfl) ?_
                                refine TriQ.next ?_
                                refine Tri.ret ?_
                                refine TriQ.blockRet ?_
                                refine TriQ.passRet ?_
                                refine TriQ.passRet ?_
                                refine TriQ.blockRet ?_
                                refine TriQ.passRet ?_
                                exact TriQ.ret (v := .bool false) (l := []) (obl := []) [] [0] (fun _ => by kernel_rfl) trivial rfl (by kernel_rfl) (⟨congrArg Value.bool (decide_eq_false (by intro g; have := (TargetOk.sym g.target (by omega)).2.2 i (by omega); unfold byteAt at this; omega)).symm, rfl⟩)
                              · refine Tri.skip ?_
                                refine TriQ.blockNormal ?_
                                refine TriQ.next ?_
                                refine Tri.region ?_
                                refine TriL.segK (k' := 3) (fr' := [(1, .pointer (some ⟨b3, 0, none⟩)), (3, .int .i64 (((i + 1 : Nat) : Int)))]) (obl := [(Value.int .i64 (IntKind.wrap .i64 (((i : Nat) : Int) + 1))) = (.int .i64 (((i + 1 : Nat) : Int)))]) [o_, ⟨[], none, none, none, some (.int .i64 (((i + 1 : Nat) : Int)))⟩, o_] [1, 3] (fun _ _ => by kernel_rfl) ⟨wrapEq (by omega) (by omega) (by omega), trivial⟩ ?_
                                refine TriL.nil (by kernel_rfl) ?_
                                exact TriQ.turn ((i + 1)) (idx := [1, 3]) (pk := [0, 1]) (show (((i + 1)) ≤ n.target.size) ∧ (∀ j, j < ((i + 1)) → ¬ byteAt n.target j = 0) from ⟨by omega, fun j hj => by rcases Nat.lt_succ_iff_lt_or_eq.1 hj with h | h; exact hall j h; subst h; unfold byteAt; omega⟩) (by show n.target.size - ((i + 1)) < n.target.size - i; omega) (fun _ => by kernel_rfl) rfl (by kernel_rfl)
                            · refine Tri.exit ?_
                              refine TriQ.passExit ?_
                              refine TriQ.passExit ?_
                              refine TriQ.blockHit ?_
                              refine TriQ.next ?_
                              refine Tri.seq ?_
                              refine Tri.region ?_
                              refine TriL.segK (k' := 5) (fr' := [(1, .pointer (some ⟨b3, 0, none⟩)), (90, .bool (decide (((((n.target : ByteArray).size : Nat) : Int) : Int) ≥ (1 : Int))))]) (obl := [b3 = b3]) [o_, ⟨[.at 1], none, none, none, none⟩, o_, o_, o_] [1, 90] (fun _ _ => by kernel_rfl) ⟨rfl, trivial⟩ ?_
                              refine TriL.slotP 90 (((((n.target : ByteArray).size : Nat) : Int) : Int) ≥ (1 : Int)) (fun _ => by kernel_rfl) (fun h90 => ?_) (fun h90 => ?_)
                              · refine TriL.segK (k' := 11) (fr' := [(2, .bool (decide (((((n.target : ByteArray).size : Nat) : Int) : Int) ≤ (4096 : Int))))]) (obl := [b3 = b3]) [o_, ⟨[.at 1], none, none, none, none⟩, o_, o_, o_, o_] [2] (fun _ _ => by kernel_rfl) ⟨rfl, trivial⟩ ?_
                                refine TriL.nil (by kernel_rfl) ?_
                                refine TriQ.next ?_
                                refine Tri.ret ?_
                                exact TriQ.ret (v := .bool (decide (((((n.target : ByteArray).size : Nat) : Int) : Int) ≤ (4096 : Int)))) (l := []) (obl := []) [] [0] (fun _ => by kernel_rfl) trivial rfl (by kernel_rfl) (⟨congrArg Value.bool (decide_eq_decide.2 (by have hA : NoNul n.target := fun j hj => hall j (by omega); rw [nodeOk_iff]; grind [TargetOk])), rfl⟩)
                              · refine TriL.segK (k' := 11) (fr' := [(2, .bool false)]) (obl := []) [o_, o_, o_, o_, o_, o_] [2] (fun _ _ => by kernel_rfl) trivial ?_
                                refine TriL.nil (by kernel_rfl) ?_
                                refine TriQ.next ?_
                                refine Tri.ret ?_
                                exact TriQ.ret (v := .bool false) (l := []) (obl := []) [] [0] (fun _ => by kernel_rfl) trivial rfl (by kernel_rfl) (⟨congrArg Value.bool (decide_eq_false (by have hA : NoNul n.target := fun j hj => hall j (by omega); rw [nodeOk_iff]; grind [TargetOk])).symm, rfl⟩)
                    · refine TriL.segK (k' := 14) (fr' := [(1, .pointer (some ⟨b3, 0, none⟩)), (57, .bool false), (61, .bool (!(decide ((n.kind : Int) = (2 : Int)))))]) (obl := [b3 = b3]) [o_, o_, o_, o_, o_, o_, o_, ⟨[.at 1], none, none, none, none⟩, o_, o_] [1, 57, 61] (fun _ _ => by kernel_rfl) ⟨rfl, trivial⟩ ?_
                      refine TriL.slotN 61 ((n.kind : Int) = (2 : Int)) (fun _ => by kernel_rfl) (fun h61 => ?_) (fun h61 => ?_)
                      · refine TriL.segK (k' := 20) (fr' := [(1, .pointer (some ⟨b3, 0, none⟩)), (67, .bool (decide ((((n.ents.length : Nat) : Int) : Int) > (0 : Int))))]) (obl := [b3 = b3]) [o_, ⟨[.at 1], none, none, none, none⟩, o_, o_, o_, o_] [1, 67] (fun _ _ => by kernel_rfl) ⟨rfl, trivial⟩ ?_
                        refine TriL.nil (by kernel_rfl) ?_
                        refine TriQ.next ?_
                        refine Tri.condP (p := (((n.ents.length : Nat) : Int) : Int) > (0 : Int)) (fun _ => by kernel_rfl) (fun h67 => ?_) (fun h67 => ?_)
                        · refine Tri.seq ?_
                          refine Tri.region ?_
                          refine TriL.segK (k' := 1) (fr' := [(2, .bool false)]) (obl := []) [o_] [2] (fun _ _ => by kernel_rfl) trivial ?_
                          refine TriL.nil (by kernel_rfl) ?_
                          refine TriQ.next ?_
                          refine Tri.ret ?_
                          refine TriQ.passRet ?_
                          exact TriQ.ret (v := .bool false) (l := []) (obl := []) [] [0] (fun _ => by kernel_rfl) trivial rfl (by kernel_rfl) (⟨congrArg Value.bool (decide_eq_false (by rw [nodeOk_iff]; grind [TargetOk])).symm, rfl⟩)
                        · refine Tri.skip ?_
                          refine TriQ.next ?_
                          refine Tri.seq ?_
                          refine Tri.seq ?_
                          refine Tri.region ?_
                          refine TriL.segK (k' := 3) (fr' := [(1, .pointer (some ⟨b3, 0, none⟩)), (70, .bool (!(decide ((n.kind : Int) = (3 : Int)))))]) (obl := [b3 = b3]) [o_, ⟨[.at 1], none, none, none, none⟩, o_] [1, 70] (fun _ _ => by kernel_rfl) ⟨rfl, trivial⟩ ?_
                          refine TriL.nil (by kernel_rfl) ?_
                          refine TriQ.next ?_
                          refine Tri.condN (p := (n.kind : Int) = (3 : Int)) (fun _ => by kernel_rfl) (fun h70 => ?_) (fun h70 => ?_)
                          · refine Tri.seq ?_
                            refine Tri.region ?_
                            refine TriL.segK (k' := 4) (fr' := [(2, .bool (decide ((n.target : ByteArray) = ⟨#[]⟩)))]) (obl := [(Value.bool ((n.target : ByteArray).toList == (⟨#[]⟩ : ByteArray).toList)) = (.bool (decide ((n.target : ByteArray) = ⟨#[]⟩))), b3 = b3]) [o_, ⟨[.at 1], none, none, none, none⟩, ⟨[], none, none, none, some (.bool (decide ((n.target : ByteArray) = ⟨#[]⟩)))⟩, o_] [2] (fun _ _ => by kernel_rfl) ⟨strEqV _ _, rfl, trivial⟩ ?_
                            refine TriL.nil (by kernel_rfl) ?_
                            refine TriQ.next ?_
                            refine Tri.ret ?_
                            refine TriQ.passRet ?_
                            exact TriQ.ret (v := .bool (decide ((n.target : ByteArray) = ⟨#[]⟩))) (l := []) (obl := []) [] [0] (fun _ => by kernel_rfl) trivial rfl (by kernel_rfl) (⟨congrArg Value.bool (decide_eq_decide.2 (by rw [nodeOk_iff]; grind [TargetOk])), rfl⟩)
                          · refine Tri.skip ?_
                            refine TriQ.next ?_
                            refine Tri.seq ?_
                            refine Tri.seq ?_
                            refine Tri.region ?_
                            refine TriL.segK (k' := 1) (fr' := [(1, .pointer (some ⟨b3, 0, none⟩)), (3, .int .i64 0)]) (obl := []) [o_] [1, 3] (fun _ _ => by kernel_rfl) trivial ?_
                            refine TriL.nil (by kernel_rfl) ?_
                            refine TriQ.next ?_
                            refine Tri.block ?_
                            refine Tri.loop (ι := Nat) (fun (i : Nat) => (i ≤ n.target.size) ∧ (∀ j, j < i → ¬ byteAt n.target j = 0)) (fun (i : Nat) => n.target.size - i) (fun (i : Nat) => [(1, .pointer (some ⟨b3, 0, none⟩)), (3, .int .i64 (((i : Nat) : Int)))]) (fun (i : Nat) => [.abs R, .blk b3 [.int .i64 (n.id), .int .i64 (n.kind), .int .i64 (n.mode), .int .i64 (n.uid), .int .i64 (n.gid), .int .i64 (n.sec), .int .i64 (n.nano), .slice dA (n.data.length) (dC), .string n.target, .slice eA (n.ents.length) (eC)] 32]) 0 (idx := [1, 3]) (pk := [0, 1]) (show (0 ≤ n.target.size) ∧ (∀ j, j < 0 → ¬ byteAt n.target j = 0) from ⟨Nat.zero_le _, fun j hj => absurd hj (Nat.not_lt_zero j)⟩) (fun _ => by kernel_rfl) rfl (by kernel_rfl) ?_
                            rintro i ⟨hi, hall⟩
                            show Tri _ _ _ _ [(1, .pointer (some ⟨b3, 0, none⟩)), (3, .int .i64 (((i : Nat) : Int)))] [.abs R, .blk b3 [.int .i64 (n.id), .int .i64 (n.kind), .int .i64 (n.mode), .int .i64 (n.uid), .int .i64 (n.gid), .int .i64 (n.sec), .int .i64 (n.nano), .slice dA (n.data.length) (dC), .string n.target, .slice eA (n.ents.length) (eC)] 32] _
                            refine Tri.seq ?_
                            refine Tri.seq ?_
                            refine Tri.region ?_
                            refine TriL.segK (k' := 5) (fr' := [(1, .pointer (some ⟨b3, 0, none⟩)), (3, .int .i64 (((i : Nat) : Int))), (78, .bool (decide ((((i : Nat) : Int) : Int) < ((((n.target : ByteArray).size : Nat) : Int) : Int))))]) (obl := [b3 = b3]) [o_, o_, ⟨[.at 1], none, none, none, none⟩, o_, o_] [1, 3, 78] (fun _ _ => by kernel_rfl) ⟨rfl, trivial⟩ ?_
                            refine TriL.nil (by kernel_rfl) ?_
                            refine TriQ.next ?_
                            refine Tri.condP (p := (((i : Nat) : Int) : Int) < ((((n.target : ByteArray).size : Nat) : Int) : Int)) (fun _ => by kernel_rfl) (fun h78 => ?_) (fun h78 => ?_)
                            · refine Tri.skip ?_
                              refine TriQ.next ?_
                              refine Tri.seq ?_
                              refine Tri.block ?_
                              refine Tri.seq ?_
                              refine Tri.region ?_
                              refine TriL.segK (k' := 5) (fr' := [(1, .pointer (some ⟨b3, 0, none⟩)), (3, .int .i64 (((i : Nat) : Int))), (85, .bool (decide ((((((n.target : ByteArray).data.getD (i) 0).toNat : Nat) : Int) : Int) = (0 : Int))))]) (obl := [((i : Nat) : Int) = ((i : Nat) : Int), i < (n.target : ByteArray).size, b3 = b3]) [o_, ⟨[.at 1], none, none, none, none⟩, o_, ⟨[], some i, none, none, none⟩, o_] [1, 3, 85] (fun _ _ => by kernel_rfl) ⟨rfl, by omega, rfl, trivial⟩ ?_
                              refine TriL.nil (by kernel_rfl) ?_
                              refine TriQ.next ?_
                              refine Tri.condP (p := (((((n.target : ByteArray).data.getD (i) 0).toNat : Nat) : Int) : Int) = (0 : Int)) (fun _ => by kernel_rfl) (fun h85 => ?_) (fun h85 => ?_)
                              · refine Tri.seq ?_
                                refine Tri.region ?_
                                refine TriL.segK (k' := 1) (fr' := [(2, .bool false)]) (obl := []) [o_] [2] (fun _ _ => by kernel_rfl) trivial ?_
                                refine TriL.nil (by kernel_rfl) ?_
                                refine TriQ.next ?_
                                refine Tri.ret ?_
                                refine TriQ.blockRet ?_
                                refine TriQ.passRet ?_
                                refine TriQ.passRet ?_
                                refine TriQ.blockRet ?_
                                refine TriQ.passRet ?_
                                exact TriQ.ret (v := .bool false) (l := []) (obl := []) [] [0] (fun _ => by kernel_rfl) trivial rfl (by kernel_rfl) (⟨congrArg Value.bool (decide_eq_false (by intro g; have := (TargetOk.sym g.target (by omega)).2.2 i (by omega); unfold byteAt at this; omega)).symm, rfl⟩)
                              · refine Tri.skip ?_
                                refine TriQ.blockNormal ?_
                                refine TriQ.next ?_
                                refine Tri.region ?_
                                refine TriL.segK (k' := 3) (fr' := [(1, .pointer (some ⟨b3, 0, none⟩)), (3, .int .i64 (((i + 1 : Nat) : Int)))]) (obl := [(Value.int .i64 (IntKind.wrap .i64 (((i : Nat) : Int) + 1))) = (.int .i64 (((i + 1 : Nat) : Int)))]) [o_, ⟨[], none, none, none, some (.int .i64 (((i + 1 : Nat) : Int)))⟩, o_] [1, 3] (fun _ _ => by kernel_rfl) ⟨wrapEq (by omega) (by omega) (by omega), trivial⟩ ?_
                                refine TriL.nil (by kernel_rfl) ?_
                                exact TriQ.turn ((i + 1)) (idx := [1, 3]) (pk := [0, 1]) (show (((i + 1)) ≤ n.target.size) ∧ (∀ j, j < ((i + 1)) → ¬ byteAt n.target j = 0) from ⟨by omega, fun j hj => by rcases Nat.lt_succ_iff_lt_or_eq.1 hj with h | h; exact hall j h; subst h; unfold byteAt; omega⟩) (by show n.target.size - ((i + 1)) < n.target.size - i; omega) (fun _ => by kernel_rfl) rfl (by kernel_rfl)
                            · refine Tri.exit ?_
                              refine TriQ.passExit ?_
                              refine TriQ.passExit ?_
                              refine TriQ.blockHit ?_
                              refine TriQ.next ?_
                              refine Tri.seq ?_
                              refine Tri.region ?_
                              refine TriL.segK (k' := 5) (fr' := [(1, .pointer (some ⟨b3, 0, none⟩)), (90, .bool (decide (((((n.target : ByteArray).size : Nat) : Int) : Int) ≥ (1 : Int))))]) (obl := [b3 = b3]) [o_, ⟨[.at 1], none, none, none, none⟩, o_, o_, o_] [1, 90] (fun _ _ => by kernel_rfl) ⟨rfl, trivial⟩ ?_
                              refine TriL.slotP 90 (((((n.target : ByteArray).size : Nat) : Int) : Int) ≥ (1 : Int)) (fun _ => by kernel_rfl) (fun h90 => ?_) (fun h90 => ?_)
                              · refine TriL.segK (k' := 11) (fr' := [(2, .bool (decide (((((n.target : ByteArray).size : Nat) : Int) : Int) ≤ (4096 : Int))))]) (obl := [b3 = b3]) [o_, ⟨[.at 1], none, none, none, none⟩, o_, o_, o_, o_] [2] (fun _ _ => by kernel_rfl) ⟨rfl, trivial⟩ ?_
                                refine TriL.nil (by kernel_rfl) ?_
                                refine TriQ.next ?_
                                refine Tri.ret ?_
                                exact TriQ.ret (v := .bool (decide (((((n.target : ByteArray).size : Nat) : Int) : Int) ≤ (4096 : Int)))) (l := []) (obl := []) [] [0] (fun _ => by kernel_rfl) trivial rfl (by kernel_rfl) (⟨congrArg Value.bool (decide_eq_decide.2 (by have hA : NoNul n.target := fun j hj => hall j (by omega); rw [nodeOk_iff]; grind [TargetOk])), rfl⟩)
                              · refine TriL.segK (k' := 11) (fr' := [(2, .bool false)]) (obl := []) [o_, o_, o_, o_, o_, o_] [2] (fun _ _ => by kernel_rfl) trivial ?_
                                refine TriL.nil (by kernel_rfl) ?_
                                refine TriQ.next ?_
                                refine Tri.ret ?_
                                exact TriQ.ret (v := .bool false) (l := []) (obl := []) [] [0] (fun _ => by kernel_rfl) trivial rfl (by kernel_rfl) (⟨congrArg Value.bool (decide_eq_false (by have hA : NoNul n.target := fun j hj => hall j (by omega); rw [nodeOk_iff]; grind [TargetOk])).symm, rfl⟩)
                      · refine TriL.segK (k' := 20) (fr' := [(1, .pointer (some ⟨b3, 0, none⟩)), (67, .bool false)]) (obl := []) [o_, o_, o_, o_, o_, o_] [1, 67] (fun _ _ => by kernel_rfl) trivial ?_
                        refine TriL.nil (by kernel_rfl) ?_
                        refine TriQ.next ?_
                        refine Tri.condF (fun _ => by kernel_rfl) ?_
                        refine Tri.skip ?_
                        refine TriQ.next ?_
                        refine Tri.seq ?_
                        refine Tri.seq ?_
                        refine Tri.region ?_
                        refine TriL.segK (k' := 3) (fr' := [(1, .pointer (some ⟨b3, 0, none⟩)), (70, .bool (!(decide ((n.kind : Int) = (3 : Int)))))]) (obl := [b3 = b3]) [o_, ⟨[.at 1], none, none, none, none⟩, o_] [1, 70] (fun _ _ => by kernel_rfl) ⟨rfl, trivial⟩ ?_
                        refine TriL.nil (by kernel_rfl) ?_
                        refine TriQ.next ?_
                        refine Tri.condN (p := (n.kind : Int) = (3 : Int)) (fun _ => by kernel_rfl) (fun h70 => ?_) (fun h70 => ?_)
                        · refine Tri.seq ?_
                          refine Tri.region ?_
                          refine TriL.segK (k' := 4) (fr' := [(2, .bool (decide ((n.target : ByteArray) = ⟨#[]⟩)))]) (obl := [(Value.bool ((n.target : ByteArray).toList == (⟨#[]⟩ : ByteArray).toList)) = (.bool (decide ((n.target : ByteArray) = ⟨#[]⟩))), b3 = b3]) [o_, ⟨[.at 1], none, none, none, none⟩, ⟨[], none, none, none, some (.bool (decide ((n.target : ByteArray) = ⟨#[]⟩)))⟩, o_] [2] (fun _ _ => by kernel_rfl) ⟨strEqV _ _, rfl, trivial⟩ ?_
                          refine TriL.nil (by kernel_rfl) ?_
                          refine TriQ.next ?_
                          refine Tri.ret ?_
                          refine TriQ.passRet ?_
                          exact TriQ.ret (v := .bool (decide ((n.target : ByteArray) = ⟨#[]⟩))) (l := []) (obl := []) [] [0] (fun _ => by kernel_rfl) trivial rfl (by kernel_rfl) (⟨congrArg Value.bool (decide_eq_decide.2 (by rw [nodeOk_iff]; grind [TargetOk])), rfl⟩)
                        · refine Tri.skip ?_
                          refine TriQ.next ?_
                          refine Tri.seq ?_
                          refine Tri.seq ?_
                          refine Tri.region ?_
                          refine TriL.segK (k' := 1) (fr' := [(1, .pointer (some ⟨b3, 0, none⟩)), (3, .int .i64 0)]) (obl := []) [o_] [1, 3] (fun _ _ => by kernel_rfl) trivial ?_
                          refine TriL.nil (by kernel_rfl) ?_
                          refine TriQ.next ?_
                          refine Tri.block ?_
                          refine Tri.loop (ι := Nat) (fun (i : Nat) => (i ≤ n.target.size) ∧ (∀ j, j < i → ¬ byteAt n.target j = 0)) (fun (i : Nat) => n.target.size - i) (fun (i : Nat) => [(1, .pointer (some ⟨b3, 0, none⟩)), (3, .int .i64 (((i : Nat) : Int)))]) (fun (i : Nat) => [.abs R, .blk b3 [.int .i64 (n.id), .int .i64 (n.kind), .int .i64 (n.mode), .int .i64 (n.uid), .int .i64 (n.gid), .int .i64 (n.sec), .int .i64 (n.nano), .slice dA (n.data.length) (dC), .string n.target, .slice eA (n.ents.length) (eC)] 32]) 0 (idx := [1, 3]) (pk := [0, 1]) (show (0 ≤ n.target.size) ∧ (∀ j, j < 0 → ¬ byteAt n.target j = 0) from ⟨Nat.zero_le _, fun j hj => absurd hj (Nat.not_lt_zero j)⟩) (fun _ => by kernel_rfl) rfl (by kernel_rfl) ?_
                          rintro i ⟨hi, hall⟩
                          show Tri _ _ _ _ [(1, .pointer (some ⟨b3, 0, none⟩)), (3, .int .i64 (((i : Nat) : Int)))] [.abs R, .blk b3 [.int .i64 (n.id), .int .i64 (n.kind), .int .i64 (n.mode), .int .i64 (n.uid), .int .i64 (n.gid), .int .i64 (n.sec), .int .i64 (n.nano), .slice dA (n.data.length) (dC), .string n.target, .slice eA (n.ents.length) (eC)] 32] _
                          refine Tri.seq ?_
                          refine Tri.seq ?_
                          refine Tri.region ?_
                          refine TriL.segK (k' := 5) (fr' := [(1, .pointer (some ⟨b3, 0, none⟩)), (3, .int .i64 (((i : Nat) : Int))), (78, .bool (decide ((((i : Nat) : Int) : Int) < ((((n.target : ByteArray).size : Nat) : Int) : Int))))]) (obl := [b3 = b3]) [o_, o_, ⟨[.at 1], none, none, none, none⟩, o_, o_] [1, 3, 78] (fun _ _ => by kernel_rfl) ⟨rfl, trivial⟩ ?_
                          refine TriL.nil (by kernel_rfl) ?_
                          refine TriQ.next ?_
                          refine Tri.condP (p := (((i : Nat) : Int) : Int) < ((((n.target : ByteArray).size : Nat) : Int) : Int)) (fun _ => by kernel_rfl) (fun h78 => ?_) (fun h78 => ?_)
                          · refine Tri.skip ?_
                            refine TriQ.next ?_
                            refine Tri.seq ?_
                            refine Tri.block ?_
                            refine Tri.seq ?_
                            refine Tri.region ?_
                            refine TriL.segK (k' := 5) (fr' := [(1, .pointer (some ⟨b3, 0, none⟩)), (3, .int .i64 (((i : Nat) : Int))), (85, .bool (decide ((((((n.target : ByteArray).data.getD (i) 0).toNat : Nat) : Int) : Int) = (0 : Int))))]) (obl := [((i : Nat) : Int) = ((i : Nat) : Int), i < (n.target : ByteArray).size, b3 = b3]) [o_, ⟨[.at 1], none, none, none, none⟩, o_, ⟨[], some i, none, none, none⟩, o_] [1, 3, 85] (fun _ _ => by kernel_rfl) ⟨rfl, by omega, rfl, trivial⟩ ?_
                            refine TriL.nil (by kernel_rfl) ?_
                            refine TriQ.next ?_
                            refine Tri.condP (p := (((((n.target : ByteArray).data.getD (i) 0).toNat : Nat) : Int) : Int) = (0 : Int)) (fun _ => by kernel_rfl) (fun h85 => ?_) (fun h85 => ?_)
                            · refine Tri.seq ?_
                              refine Tri.region ?_
                              refine TriL.segK (k' := 1) (fr' := [(2, .bool false)]) (obl := []) [o_] [2] (fun _ _ => by kernel_rfl) trivial ?_
                              refine TriL.nil (by kernel_rfl) ?_
                              refine TriQ.next ?_
                              refine Tri.ret ?_
                              refine TriQ.blockRet ?_
                              refine TriQ.passRet ?_
                              refine TriQ.passRet ?_
                              refine TriQ.blockRet ?_
                              refine TriQ.passRet ?_
                              exact TriQ.ret (v := .bool false) (l := []) (obl := []) [] [0] (fun _ => by kernel_rfl) trivial rfl (by kernel_rfl) (⟨congrArg Value.bool (decide_eq_false (by intro g; have := (TargetOk.sym g.target (by omega)).2.2 i (by omega); unfold byteAt at this; omega)).symm, rfl⟩)
                            · refine Tri.skip ?_
                              refine TriQ.blockNormal ?_
                              refine TriQ.next ?_
                              refine Tri.region ?_
                              refine TriL.segK (k' := 3) (fr' := [(1, .pointer (some ⟨b3, 0, none⟩)), (3, .int .i64 (((i + 1 : Nat) : Int)))]) (obl := [(Value.int .i64 (IntKind.wrap .i64 (((i : Nat) : Int) + 1))) = (.int .i64 (((i + 1 : Nat) : Int)))]) [o_, ⟨[], none, none, none, some (.int .i64 (((i + 1 : Nat) : Int)))⟩, o_] [1, 3] (fun _ _ => by kernel_rfl) ⟨wrapEq (by omega) (by omega) (by omega), trivial⟩ ?_
                              refine TriL.nil (by kernel_rfl) ?_
                              exact TriQ.turn ((i + 1)) (idx := [1, 3]) (pk := [0, 1]) (show (((i + 1)) ≤ n.target.size) ∧ (∀ j, j < ((i + 1)) → ¬ byteAt n.target j = 0) from ⟨by omega, fun j hj => by rcases Nat.lt_succ_iff_lt_or_eq.1 hj with h | h; exact hall j h; subst h; unfold byteAt; omega⟩) (by show n.target.size - ((i + 1)) < n.target.size - i; omega) (fun _ => by kernel_rfl) rfl (by kernel_rfl)
                          · refine Tri.exit ?_
                            refine TriQ.passExit ?_
                            refine TriQ.passExit ?_
                            refine TriQ.blockHit ?_
                            refine TriQ.next ?_
                            refine Tri.seq ?_
                            refine Tri.region ?_
                            refine TriL.segK (k' := 5) (fr' := [(1, .pointer (some ⟨b3, 0, none⟩)), (90, .bool (decide (((((n.target : ByteArray).size : Nat) : Int) : Int) ≥ (1 : Int))))]) (obl := [b3 = b3]) [o_, ⟨[.at 1], none, none, none, none⟩, o_, o_, o_] [1, 90] (fun _ _ => by kernel_rfl) ⟨rfl, trivial⟩ ?_
                            refine TriL.slotP 90 (((((n.target : ByteArray).size : Nat) : Int) : Int) ≥ (1 : Int)) (fun _ => by kernel_rfl) (fun h90 => ?_) (fun h90 => ?_)
                            · refine TriL.segK (k' := 11) (fr' := [(2, .bool (decide (((((n.target : ByteArray).size : Nat) : Int) : Int) ≤ (4096 : Int))))]) (obl := [b3 = b3]) [o_, ⟨[.at 1], none, none, none, none⟩, o_, o_, o_, o_] [2] (fun _ _ => by kernel_rfl) ⟨rfl, trivial⟩ ?_
                              refine TriL.nil (by kernel_rfl) ?_
                              refine TriQ.next ?_
                              refine Tri.ret ?_
                              exact TriQ.ret (v := .bool (decide (((((n.target : ByteArray).size : Nat) : Int) : Int) ≤ (4096 : Int)))) (l := []) (obl := []) [] [0] (fun _ => by kernel_rfl) trivial rfl (by kernel_rfl) (⟨congrArg Value.bool (decide_eq_decide.2 (by have hA : NoNul n.target := fun j hj => hall j (by omega); rw [nodeOk_iff]; grind [TargetOk])), rfl⟩)
                            · refine TriL.segK (k' := 11) (fr' := [(2, .bool false)]) (obl := []) [o_, o_, o_, o_, o_, o_] [2] (fun _ _ => by kernel_rfl) trivial ?_
                              refine TriL.nil (by kernel_rfl) ?_
                              refine TriQ.next ?_
                              refine Tri.ret ?_
                              exact TriQ.ret (v := .bool false) (l := []) (obl := []) [] [0] (fun _ => by kernel_rfl) trivial rfl (by kernel_rfl) (⟨congrArg Value.bool (decide_eq_false (by have hA : NoNul n.target := fun j hj => hall j (by omega); rw [nodeOk_iff]; grind [TargetOk])).symm, rfl⟩)
set_option maxRecDepth 100000 in
set_option maxHeartbeats 4000000 in
theorem sp_at {β : Bs} (A : Option Addr) (c : Nat) (ns : List NodeM) (L : Lay) (hG : GraphAt β A ns L) (hr : Rising ns) (hl : ns.length ≤ 1048576) (id : Int) :
    Spec Try.prog β 29 #[.agg #[.slice A ns.length c], .int .i64 id] [] (fun v l => v = .int .i64 (atI ns id) ∧ l = []) := by
  refine Spec.enter Try.func29 rfl Try.ntmps29 (Nat.le_of_ble_eq_true rfl) (fun R => ?_)
  refine Tri.seq ?_
  refine Tri.region ?_
  refine TriL.segN (k' := 2) (fr' := fun b4 => [(1, .int .i64 (id)), (2, .pointer (some ⟨b4, 0, none⟩))]) (hps' := fun b4 => [.abs R, .blk b4 [.slice A (ns.length) (c)] 24]) (obl := fun b4 => []) [o_, o_] [1, 2] [0, 1] (fun _ _ => by kernel_rfl) (fun b4 => trivial) (fun b4 => ?_)
  refine TriL.nil (by kernel_rfl) ?_
  refine TriQ.next ?_
  refine Tri.seq ?_
  refine Tri.region ?_
  refine TriL.segK (k' := 1) (fr' := [(1, .int .i64 (id)), (2, .pointer (some ⟨b4, 0, none⟩)), (5, .int .i64 0)]) (obl := []) [o_] [1, 2, 5] (fun _ _ => by kernel_rfl) trivial ?_
  refine TriL.nil (by kernel_rfl) ?_
  refine TriQ.next ?_
  refine Tri.seq ?_
  refine Tri.region ?_
  refine TriL.segK (k' := 4) (fr' := [(1, .int .i64 (id)), (2, .pointer (some ⟨b4, 0, none⟩)), (5, .int .i64 0), (6, .int .i64 (((ns.length : Nat) : Int)))]) (obl := [b4 = b4]) [o_, ⟨[.at 1], none, none, none, none⟩, o_, o_] [1, 2, 5, 6] (fun _ _ => by kernel_rfl) ⟨rfl, trivial⟩ ?_
  refine TriL.nil (by kernel_rfl) ?_
  refine TriQ.next ?_
  refine Tri.seq ?_
  refine Tri.block ?_
  refine Tri.loop (ι := Nat × Nat) (fun ((lo, hi) : Nat × Nat) => (lo ≤ hi) ∧ (hi ≤ ns.length) ∧ (∀ j, j < lo → (nd ns j).id < id) ∧ (∀ j, hi ≤ j → j < ns.length → id ≤ (nd ns j).id)) (fun ((lo, hi) : Nat × Nat) => hi - lo) (fun ((lo, hi) : Nat × Nat) => [(1, .int .i64 (id)), (2, .pointer (some ⟨b4, 0, none⟩)), (5, .int .i64 (((lo : Nat) : Int))), (6, .int .i64 (((hi : Nat) : Int)))]) (fun ((lo, hi) : Nat × Nat) => [.abs R, .blk b4 [.slice A (ns.length) (c)] 24]) (0, ns.length) (idx := [1, 2, 5, 6]) (pk := [0, 1]) (show (0 ≤ ns.length) ∧ (ns.length ≤ ns.length) ∧ (∀ j, j < 0 → (nd ns j).id < id) ∧ (∀ j, ns.length ≤ j → j < ns.length → id ≤ (nd ns j).id) from ⟨Nat.zero_le _, Nat.le_refl _, fun j hj => absurd hj (Nat.not_lt_zero j), fun j h1 h2 => absurd h2 (Nat.not_lt.2 h1)⟩) (fun _ => by kernel_rfl) rfl (by kernel_rfl) ?_
  rintro ⟨lo, hi⟩ ⟨hlh, hhi, ha, hb⟩
  show Tri _ _ _ _ [(1, .int .i64 (id)), (2, .pointer (some ⟨b4, 0, none⟩)), (5, .int .i64 (((lo : Nat) : Int))), (6, .int .i64 (((hi : Nat) : Int)))] [.abs R, .blk b4 [.slice A (ns.length) (c)] 24] _
  refine Tri.seq ?_
  refine Tri.seq ?_
  refine Tri.region ?_
  refine TriL.segK (k' := 3) (fr' := [(1, .int .i64 (id)), (2, .pointer (some ⟨b4, 0, none⟩)), (5, .int .i64 (((lo : Nat) : Int))), (6, .int .i64 (((hi : Nat) : Int))), (13, .bool (decide ((((lo : Nat) : Int) : Int) < (((hi : Nat) : Int) : Int))))]) (obl := []) [o_, o_, o_] [1, 2, 5, 6, 13] (fun _ _ => by kernel_rfl) trivial ?_
  refine TriL.nil (by kernel_rfl) ?_
  refine TriQ.next ?_
  refine Tri.condP (p := (((lo : Nat) : Int) : Int) < (((hi : Nat) : Int) : Int)) (fun _ => by kernel_rfl) (fun h13 => ?_) (fun h13 => ?_)
  · refine Tri.skip ?_
    refine TriQ.next ?_
    refine Tri.block ?_
    refine Tri.seq ?_
    refine Tri.region ?_
    refine TriL.segK (k' := 7) (fr' := [(1, .int .i64 (id)), (2, .pointer (some ⟨b4, 0, none⟩)), (5, .int .i64 (((lo : Nat) : Int))), (6, .int .i64 (((hi : Nat) : Int))), (7, .int .i64 (((lo + ((hi - lo) / 2) : Nat) : Int)))]) (obl := [(Value.int .i64 (IntKind.wrap .i64 (((lo : Nat) : Int) + (((hi - lo) / 2 : Nat) : Int)))) = (.int .i64 (((lo + ((hi - lo) / 2) : Nat) : Int))), (Value.int .i64 (IntKind.wrap .i64 (Int.tdiv (((hi - lo) : Nat) : Int) 2))) = (.int .i64 ((((hi - lo) / 2 : Nat) : Int))), (Value.int .i64 (IntKind.wrap .i64 (((hi : Nat) : Int) - ((lo : Nat) : Int)))) = (.int .i64 ((((hi - lo) : Nat) : Int)))]) [o_, o_, o_, ⟨[], none, none, none, some (.int .i64 ((((hi - lo) : Nat) : Int)))⟩, ⟨[], none, none, none, some (.int .i64 ((((hi - lo) / 2 : Nat) : Int)))⟩, ⟨[], none, none, none, some (.int .i64 (((lo + ((hi - lo) / 2) : Nat) : Int)))⟩, o_] [1, 2, 5, 6, 7] (fun _ _ => by kernel_rfl) ⟨wrapEq (by omega) (by omega) (by omega), wrapEq (Int.ofNat_tdiv _ _).symm (by omega) (by omega), wrapEq (by omega) (by omega) (by omega), trivial⟩ ?_
    refine TriL.nil (by kernel_rfl) ?_
    refine TriQ.next ?_
    refine Tri.seq ?_
    refine Tri.region ?_
    refine TriL.segK (k' := 8) (fr' := [(1, .int .i64 (id)), (2, .pointer (some ⟨b4, 0, none⟩)), (5, .int .i64 (((lo : Nat) : Int))), (6, .int .i64 (((hi : Nat) : Int))), (7, .int .i64 (((lo + ((hi - lo) / 2) : Nat) : Int))), (27, .bool (decide (((nd ns (lo + ((hi - lo) / 2))).id : Int) < (id : Int))))]) (obl := [(Rd β ⟨(blkOf A), offOf A + (lo + ((hi - lo) / 2)) * 10, none⟩ (.int .i64 ((nd ns (lo + ((hi - lo) / 2))).id))), ((lo + ((hi - lo) / 2) : Nat) : Int) = ((lo + ((hi - lo) / 2) : Nat) : Int), lo + ((hi - lo) / 2) < ns.length, (⟨(blkOf A), offOf A, none⟩ : Addr).spot = none, (A : Option Addr) = some ⟨(blkOf A), offOf A, none⟩, b4 = b4]) [o_, ⟨[.at 1], none, none, none, none⟩, o_, ⟨[], some (lo + ((hi - lo) / 2)), none, some ⟨(blkOf A), offOf A, none⟩, none⟩, o_, ⟨[.old (.int .i64 ((nd ns (lo + ((hi - lo) / 2))).id))], none, none, none, none⟩, o_, o_] [1, 2, 5, 6, 7, 27] (fun _ _ => by kernel_rfl) ⟨GraphAt.rd hG (i := lo + ((hi - lo) / 2)) (by omega) (j := 0) rfl, rfl, by omega, rfl, GraphAt.hd hG (i := lo + ((hi - lo) / 2)) (by omega), rfl, trivial⟩ ?_
    refine TriL.nil (by kernel_rfl) ?_
    refine TriQ.next ?_
    refine Tri.condP (p := ((nd ns (lo + ((hi - lo) / 2))).id : Int) < (id : Int)) (fun _ => by kernel_rfl) (fun h27 => ?_) (fun h27 => ?_)
    · refine Tri.region ?_
      refine TriL.segK (k' := 3) (fr' := [(1, .int .i64 (id)), (2, .pointer (some ⟨b4, 0, none⟩)), (5, .int .i64 ((((lo + ((hi - lo) / 2)) + 1 : Nat) : Int))), (6, .int .i64 (((hi : Nat) : Int)))]) (obl := [(Value.int .i64 (IntKind.wrap .i64 (((lo + ((hi - lo) / 2) : Nat) : Int) + 1))) = (.int .i64 ((((lo + ((hi - lo) / 2)) + 1 : Nat) : Int)))]) [o_, ⟨[], none, none, none, some (.int .i64 ((((lo + ((hi - lo) / 2)) + 1 : Nat) : Int)))⟩, o_] [1, 2, 5, 6] (fun _ _ => by kernel_rfl) ⟨wrapEq (by omega) (by omega) (by omega), trivial⟩ ?_
      refine TriL.nil (by kernel_rfl) ?_
      refine TriQ.blockNormal ?_
      exact TriQ.turn (((lo + (hi - lo) / 2) + 1), hi) (idx := [1, 2, 5, 6]) (pk := [0, 1]) (show ((((lo + (hi - lo) / 2) + 1)) ≤ hi) ∧ (hi ≤ ns.length) ∧ (∀ j, j < (((lo + (hi - lo) / 2) + 1)) → (nd ns j).id < id) ∧ (∀ j, hi ≤ j → j < ns.length → id ≤ (nd ns j).id) from ⟨by omega, by omega, fun j hj => by have := hr.le (show j ≤ (lo + (hi - lo) / 2) by omega) (by omega); omega, hb⟩) (by show hi - (((lo + (hi - lo) / 2) + 1)) < hi - lo; omega) (fun _ => by kernel_rfl) rfl (by kernel_rfl)
    · refine Tri.region ?_
      refine TriL.segK (k' := 2) (fr' := [(1, .int .i64 (id)), (2, .pointer (some ⟨b4, 0, none⟩)), (5, .int .i64 (((lo : Nat) : Int))), (6, .int .i64 (((lo + ((hi - lo) / 2) : Nat) : Int)))]) (obl := []) [o_, o_] [1, 2, 5, 6] (fun _ _ => by kernel_rfl) trivial ?_
      refine TriL.nil (by kernel_rfl) ?_
      refine TriQ.blockNormal ?_
      exact TriQ.turn (lo, (lo + (hi - lo) / 2)) (idx := [1, 2, 5, 6]) (pk := [0, 1]) (show (lo ≤ ((lo + (hi - lo) / 2))) ∧ (((lo + (hi - lo) / 2)) ≤ ns.length) ∧ (∀ j, j < lo → (nd ns j).id < id) ∧ (∀ j, ((lo + (hi - lo) / 2)) ≤ j → j < ns.length → id ≤ (nd ns j).id) from ⟨by omega, by omega, ha, fun j hj hj2 => by have := hr.le hj hj2; omega⟩) (by show ((lo + (hi - lo) / 2)) - lo < hi - lo; omega) (fun _ => by kernel_rfl) rfl (by kernel_rfl)
  · refine Tri.exit ?_
    refine TriQ.passExit ?_
    refine TriQ.passExit ?_
    refine TriQ.blockHit ?_
    refine TriQ.next ?_
    refine Tri.seq ?_
    refine Tri.seq ?_
    refine Tri.region ?_
    refine TriL.segK (k' := 6) (fr' := [(1, .int .i64 (id)), (2, .pointer (some ⟨b4, 0, none⟩)), (5, .int .i64 (((lo : Nat) : Int))), (36, .bool (decide ((((lo : Nat) : Int) : Int) < (((ns.length : Nat) : Int) : Int))))]) (obl := [b4 = b4]) [o_, o_, ⟨[.at 1], none, none, none, none⟩, o_, o_, o_] [1, 2, 5, 36] (fun _ _ => by kernel_rfl) ⟨rfl, trivial⟩ ?_
    refine TriL.slotP 36 ((((lo : Nat) : Int) : Int) < (((ns.length : Nat) : Int) : Int)) (fun _ => by kernel_rfl) (fun h36 => ?_) (fun h36 => ?_)
    · refine TriL.segK (k' := 15) (fr' := [(5, .int .i64 (((lo : Nat) : Int))), (45, .bool (decide (((nd ns lo).id : Int) = (id : Int))))]) (obl := [(Rd β ⟨(blkOf A), offOf A + lo * 10, none⟩ (.int .i64 ((nd ns lo).id))), ((lo : Nat) : Int) = ((lo : Nat) : Int), lo < ns.length, (⟨(blkOf A), offOf A, none⟩ : Addr).spot = none, (A : Option Addr) = some ⟨(blkOf A), offOf A, none⟩, b4 = b4]) [o_, ⟨[.at 1], none, none, none, none⟩, o_, ⟨[], some lo, none, some ⟨(blkOf A), offOf A, none⟩, none⟩, o_, ⟨[.old (.int .i64 ((nd ns lo).id))], none, none, none, none⟩, o_, o_, o_] [5, 45] (fun _ _ => by kernel_rfl) ⟨GraphAt.rd hG (i := lo) (by omega) (j := 0) rfl, rfl, by omega, rfl, GraphAt.hd hG (i := lo) (by omega), rfl, trivial⟩ ?_
      refine TriL.nil (by kernel_rfl) ?_
      refine TriQ.next ?_
      refine Tri.condP (p := ((nd ns lo).id : Int) = (id : Int)) (fun _ => by kernel_rfl) (fun h45 => ?_) (fun h45 => ?_)
      · refine Tri.seq ?_
        refine Tri.region ?_
        refine TriL.segK (k' := 2) (fr' := [(4, .int .i64 (((lo : Nat) : Int)))]) (obl := []) [o_, o_] [4] (fun _ _ => by kernel_rfl) trivial ?_
        refine TriL.nil (by kernel_rfl) ?_
        refine TriQ.next ?_
        refine Tri.ret ?_
        refine TriQ.passRet ?_
        exact TriQ.ret (v := .int .i64 (((lo : Nat) : Int))) (l := []) (obl := []) [] [0] (fun _ => by kernel_rfl) trivial rfl (by kernel_rfl) (⟨congrArg (Value.int .i64) (atI_some hr (by omega) h45).symm, rfl⟩)
      · refine Tri.skip ?_
        refine TriQ.next ?_
        refine Tri.seq ?_
        refine Tri.region ?_
        refine TriL.segK (k' := 1) (fr' := [(4, .int .i64 (-1))]) (obl := []) [o_] [4] (fun _ _ => by kernel_rfl) trivial ?_
        refine TriL.nil (by kernel_rfl) ?_
        refine TriQ.next ?_
        refine Tri.ret ?_
        exact TriQ.ret (v := .int .i64 (-1)) (l := []) (obl := []) [] [0] (fun _ => by kernel_rfl) trivial rfl (by kernel_rfl) (⟨congrArg (Value.int .i64) (atI_none (fun j hj e => by rcases Nat.lt_trichotomy j lo with h | h | h; have := ha j h; omega; subst h; omega; have := hr lo j h hj; have := hb lo (by omega) (by omega); omega)).symm, rfl⟩)
    · refine TriL.segK (k' := 15) (fr' := [(5, .int .i64 (((lo : Nat) : Int))), (45, .bool false)]) (obl := []) [o_, o_, o_, o_, o_, o_, o_, o_, o_] [5, 45] (fun _ _ => by kernel_rfl) trivial ?_
      refine TriL.nil (by kernel_rfl) ?_
      refine TriQ.next ?_
      refine Tri.condF (fun _ => by kernel_rfl) ?_
      refine Tri.skip ?_
      refine TriQ.next ?_
      refine Tri.seq ?_
      refine Tri.region ?_
      refine TriL.segK (k' := 1) (fr' := [(4, .int .i64 (-1))]) (obl := []) [o_] [4] (fun _ _ => by kernel_rfl) trivial ?_
      refine TriL.nil (by kernel_rfl) ?_
      refine TriQ.next ?_
      refine Tri.ret ?_
      exact TriQ.ret (v := .int .i64 (-1)) (l := []) (obl := []) [] [0] (fun _ => by kernel_rfl) trivial rfl (by kernel_rfl) (⟨congrArg (Value.int .i64) (atI_none (fun j hj e => by rcases Nat.lt_trichotomy j lo with h | h | h; have := ha j h; omega; subst h; omega; have := hr lo j h hj; have := hb lo (by omega) (by omega); omega)).symm, rfl⟩)
set_option maxRecDepth 100000 in
set_option maxHeartbeats 4000000 in
theorem sp_text {β : Bs} (A : Option Addr) (ns : List NodeM) (L : Lay) (hG : GraphAt β A ns L) (i : Nat) (hi : i < ns.length) :
    Spec Try.prog β 71 #[.pointer (some ⟨(blkOf A), offOf A + i * 10, none⟩)] [] (fun v l => v = .bool (decide (TargetOk (nd ns i).kind (nd ns i).target)) ∧ l = []) := by
  refine Spec.enter Try.func71 rfl Try.ntmps71 (Nat.le_of_ble_eq_true rfl) (fun R => ?_)
  refine Tri.seq ?_
  refine Tri.region ?_
  refine TriL.segK (k' := 1) (fr' := [(0, .pointer (some ⟨(blkOf A), offOf A + i * 10, none⟩))]) (obl := []) [o_] [0] (fun _ _ => by kernel_rfl) trivial ?_
  refine TriL.nil (by kernel_rfl) ?_
  refine TriQ.next ?_
  refine Tri.seq ?_
  refine Tri.seq ?_
  refine Tri.region ?_
  refine TriL.segK (k' := 5) (fr' := [(0, .pointer (some ⟨(blkOf A), offOf A + i * 10, none⟩)), (7, .bool (!(decide (((nd ns i).kind : Int) = (3 : Int)))))]) (obl := [(Rd β ⟨(blkOf A), offOf A + i * 10 + 1, none⟩ (.int .i64 ((nd ns i).kind)))]) [o_, o_, o_, ⟨[.old (.int .i64 ((nd ns i).kind))], none, none, none, none⟩, o_] [0, 7] (fun _ _ => by kernel_rfl) ⟨GraphAt.rd hG (i := i) (by omega) (j := 1) rfl, trivial⟩ ?_
  refine TriL.nil (by kernel_rfl) ?_
  refine TriQ.next ?_
  refine Tri.condN (p := ((nd ns i).kind : Int) = (3 : Int)) (fun _ => by kernel_rfl) (fun h7 => ?_) (fun h7 => ?_)
  · refine Tri.seq ?_
    refine Tri.region ?_
    refine TriL.segK (k' := 6) (fr' := [(2, .bool (decide (((nd ns i).target : ByteArray) = ⟨#[]⟩)))]) (obl := [(Value.bool (((nd ns i).target : ByteArray).toList == (⟨#[]⟩ : ByteArray).toList)) = (.bool (decide (((nd ns i).target : ByteArray) = ⟨#[]⟩))), (Rd β ⟨(blkOf A), offOf A + i * 10 + 8, none⟩ (.string (nd ns i).target))]) [o_, o_, o_, ⟨[.old (.string (nd ns i).target)], none, none, none, none⟩, ⟨[], none, none, none, some (.bool (decide (((nd ns i).target : ByteArray) = ⟨#[]⟩)))⟩, o_] [2] (fun _ _ => by kernel_rfl) ⟨strEqV _ _, GraphAt.rd hG (i := i) (by omega) (j := 8) rfl, trivial⟩ ?_
    refine TriL.nil (by kernel_rfl) ?_
    refine TriQ.next ?_
    refine Tri.ret ?_
    refine TriQ.passRet ?_
    exact TriQ.ret (v := .bool (decide (((nd ns i).target : ByteArray) = ⟨#[]⟩))) (l := []) (obl := []) [] [0] (fun _ => by kernel_rfl) trivial rfl (by kernel_rfl) (⟨congrArg Value.bool (decide_eq_decide.2 (by have h0 := size0 (s := (nd ns i).target); grind [TargetOk])), rfl⟩)
  · refine Tri.skip ?_
    refine TriQ.next ?_
    refine Tri.seq ?_
    refine Tri.region ?_
    refine TriL.segK (k' := 6) (fr' := [(0, .pointer (some ⟨(blkOf A), offOf A + i * 10, none⟩)), (18, .bool (!(decide (((nd ns i).target : ByteArray) = ⟨#[]⟩))))]) (obl := [(Value.bool (!(((nd ns i).target : ByteArray).toList == (⟨#[]⟩ : ByteArray).toList))) = (.bool (!(decide (((nd ns i).target : ByteArray) = ⟨#[]⟩)))), (Rd β ⟨(blkOf A), offOf A + i * 10 + 8, none⟩ (.string (nd ns i).target))]) [o_, o_, o_, ⟨[.old (.string (nd ns i).target)], none, none, none, none⟩, ⟨[], none, none, none, some (.bool (!(decide (((nd ns i).target : ByteArray) = ⟨#[]⟩))))⟩, o_] [0, 18] (fun _ _ => by kernel_rfl) ⟨strNeV _ _, GraphAt.rd hG (i := i) (by omega) (j := 8) rfl, trivial⟩ ?_
    refine TriL.slotN 18 (((nd ns i).target : ByteArray) = ⟨#[]⟩) (fun _ => by kernel_rfl) (fun h18 => ?_) (fun h18 => ?_)
    · refine TriL.segK (k' := 14) (fr' := [(0, .pointer (some ⟨(blkOf A), offOf A + i * 10, none⟩)), (26, .bool (decide ((((((nd ns i).target : ByteArray).size : Nat) : Int) : Int) ≤ (4096 : Int))))]) (obl := [(Rd β ⟨(blkOf A), offOf A + i * 10 + 8, none⟩ (.string (nd ns i).target))]) [o_, o_, o_, ⟨[.old (.string (nd ns i).target)], none, none, none, none⟩, o_, o_, o_, o_] [0, 26] (fun _ _ => by kernel_rfl) ⟨GraphAt.rd hG (i := i) (by omega) (j := 8) rfl, trivial⟩ ?_
      refine TriL.slotP 26 ((((((nd ns i).target : ByteArray).size : Nat) : Int) : Int) ≤ (4096 : Int)) (fun _ => by kernel_rfl) (fun h26 => ?_) (fun h26 => ?_)
      · refine TriL.segK (k' := 18) (fr' := [(26, .bool true), (30, .string (nd ns i).target)]) (obl := [(Rd β ⟨(blkOf A), offOf A + i * 10 + 8, none⟩ (.string (nd ns i).target))]) [o_, o_, o_, ⟨[.old (.string (nd ns i).target)], none, none, none, none⟩] [26, 30] (fun _ _ => by kernel_rfl) ⟨GraphAt.rd hG (i := i) (by omega) (j := 8) rfl, trivial⟩ ?_
        refine TriL.call (f := 77) (args := #[.string (nd ns i).target, .int .u8 0]) (d := (some 31)) (pre := []) (R := [.abs R]) (pk := [0]) (fun _ => by kernel_rfl) (Spec.quiet (fun w => Try.strings_IndexByte (nd ns i).target 0 w)) rfl (by kernel_rfl) ?_
        rintro _ _ ⟨rfl, rfl⟩
        refine TriL.segK (k' := 22) (fr' := [(2, .bool (decide ((Lib.indexByte (nd ns i).target.data.toList (0 : Int).toNat.toUInt8 : Int) < (0 : Int))))]) (obl := []) [o_, o_, o_] [2] (fun _ _ => by kernel_rfl) trivial ?_
        refine TriL.nil (by kernel_rfl) ?_
        refine TriQ.next ?_
        refine Tri.ret ?_
        exact TriQ.ret (v := .bool (decide ((Lib.indexByte (nd ns i).target.data.toList (0 : Int).toNat.toUInt8 : Int) < (0 : Int)))) (l := []) (obl := []) [] [0] (fun _ => by kernel_rfl) trivial rfl (by kernel_rfl) (⟨congrArg Value.bool (decide_eq_decide.2 (by have h0 := size0 (s := (nd ns i).target); rw [indexByte_lt]; grind [TargetOk])), rfl⟩)
      · refine TriL.segK (k' := 22) (fr' := [(2, .bool false)]) (obl := []) [o_, o_, o_, o_, o_, o_, o_, o_] [2] (fun _ _ => by kernel_rfl) trivial ?_
        refine TriL.nil (by kernel_rfl) ?_
        refine TriQ.next ?_
        refine Tri.ret ?_
        exact TriQ.ret (v := .bool false) (l := []) (obl := []) [] [0] (fun _ => by kernel_rfl) trivial rfl (by kernel_rfl) (⟨congrArg Value.bool (decide_eq_false (by have h0 := size0 (s := (nd ns i).target); grind [TargetOk])).symm, rfl⟩)
    · refine TriL.segK (k' := 22) (fr' := [(2, .bool false)]) (obl := []) [o_, o_, o_, o_, o_, o_, o_, o_, o_, o_, o_, o_, o_, o_, o_, o_] [2] (fun _ _ => by kernel_rfl) trivial ?_
      refine TriL.nil (by kernel_rfl) ?_
      refine TriQ.next ?_
      refine Tri.ret ?_
      exact TriQ.ret (v := .bool false) (l := []) (obl := []) [] [0] (fun _ => by kernel_rfl) trivial rfl (by kernel_rfl) (⟨congrArg Value.bool (decide_eq_false (by have h0 := size0 (s := (nd ns i).target); grind [TargetOk])).symm, rfl⟩)
set_option maxRecDepth 100000 in
set_option maxHeartbeats 4000000 in
theorem sp_sound {β : Bs} (A : Option Addr) (ns : List NodeM) (L : Lay) (hG : GraphAt β A ns L) (i : Nat) (hi : i < ns.length) :
    Spec Try.prog β 58 #[.pointer (some ⟨(blkOf A), offOf A + i * 10, none⟩)] [] (fun v l => v = .bool (decide (NodeOk (nd ns i))) ∧ l = []) := by
  refine Spec.enter Try.func58 rfl Try.ntmps58 (Nat.le_of_ble_eq_true rfl) (fun R => ?_)
  refine Tri.seq ?_
  refine Tri.region ?_
  refine TriL.segK (k' := 1) (fr' := [(0, .pointer (some ⟨(blkOf A), offOf A + i * 10, none⟩))]) (obl := []) [o_] [0] (fun _ _ => by kernel_rfl) trivial ?_
  refine TriL.nil (by kernel_rfl) ?_
  refine TriQ.next ?_
  refine Tri.seq ?_
  refine Tri.seq ?_
  refine Tri.region ?_
  refine TriL.segK (k' := 4) (fr' := [(0, .pointer (some ⟨(blkOf A), offOf A + i * 10, none⟩)), (6, .int .i64 ((nd ns i).kind))]) (obl := [(Rd β ⟨(blkOf A), offOf A + i * 10 + 1, none⟩ (.int .i64 ((nd ns i).kind)))]) [o_, o_, o_, ⟨[.old (.int .i64 ((nd ns i).kind))], none, none, none, none⟩] [0, 6] (fun _ _ => by kernel_rfl) ⟨GraphAt.rd hG (i := i) (by omega) (j := 1) rfl, trivial⟩ ?_
  refine TriL.call (f := 69) (args := #[.int .i64 ((nd ns i).kind), .int .i64 1, .int .i64 3]) (d := (some 7)) (pre := []) (R := [.abs R]) (pk := [0]) (fun _ => by kernel_rfl) (sp_within ((nd ns i).kind) 1 3) rfl (by kernel_rfl) ?_
  rintro _ _ ⟨rfl, rfl⟩
  refine TriL.segK (k' := 7) (fr' := [(0, .pointer (some ⟨(blkOf A), offOf A + i * 10, none⟩)), (9, .bool (!(decide (Within ((nd ns i).kind) 1 3))))]) (obl := []) [o_, o_] [0, 9] (fun _ _ => by kernel_rfl) trivial ?_
  refine TriL.slotN 9 (Within ((nd ns i).kind) 1 3) (fun _ => by kernel_rfl) (fun h9 => ?_) (fun h9 => ?_)
  · refine TriL.segK (k' := 30) (fr' := [(0, .pointer (some ⟨(blkOf A), offOf A + i * 10, none⟩)), (32, .bool true)]) (obl := []) [o_, o_, o_, o_, o_, o_, o_, o_, o_, o_, o_, o_, o_, o_, o_, o_, o_, o_, o_, o_, o_, o_, o_] [0, 32] (fun _ _ => by kernel_rfl) trivial ?_
    refine TriL.nil (by kernel_rfl) ?_
    refine TriQ.next ?_
    refine Tri.condT (fun _ => by kernel_rfl) ?_
    refine Tri.seq ?_
    refine Tri.region ?_
    refine TriL.segK (k' := 1) (fr' := [(2, .bool false)]) (obl := []) [o_] [2] (fun _ _ => by kernel_rfl) trivial ?_
    refine TriL.nil (by kernel_rfl) ?_
    refine TriQ.next ?_
    refine Tri.ret ?_
    refine TriQ.passRet ?_
    exact TriQ.ret (v := .bool false) (l := []) (obl := []) [] [0] (fun _ => by kernel_rfl) trivial rfl (by kernel_rfl) (⟨congrArg Value.bool (decide_eq_false (by rw [nodeOk_iff]; unfold Within at *; grind)).symm, rfl⟩)
  · refine TriL.segK (k' := 11) (fr' := [(0, .pointer (some ⟨(blkOf A), offOf A + i * 10, none⟩)), (9, .bool false), (13, .int .i64 ((nd ns i).mode))]) (obl := [(Rd β ⟨(blkOf A), offOf A + i * 10 + 2, none⟩ (.int .i64 ((nd ns i).mode)))]) [o_, o_, o_, ⟨[.old (.int .i64 ((nd ns i).mode))], none, none, none, none⟩] [0, 9, 13] (fun _ _ => by kernel_rfl) ⟨GraphAt.rd hG (i := i) (by omega) (j := 2) rfl, trivial⟩ ?_
    refine TriL.call (f := 69) (args := #[.int .i64 ((nd ns i).mode), .int .i64 0, .int .i64 4095]) (d := (some 14)) (pre := []) (R := [.abs R]) (pk := [0]) (fun _ => by kernel_rfl) (sp_within ((nd ns i).mode) 0 4095) rfl (by kernel_rfl) ?_
    rintro _ _ ⟨rfl, rfl⟩
    refine TriL.segK (k' := 15) (fr' := [(0, .pointer (some ⟨(blkOf A), offOf A + i * 10, none⟩)), (17, .bool (!(decide (Within ((nd ns i).mode) 0 4095))))]) (obl := []) [o_, o_, o_] [0, 17] (fun _ _ => by kernel_rfl) trivial ?_
    refine TriL.slotN 17 (Within ((nd ns i).mode) 0 4095) (fun _ => by kernel_rfl) (fun h17 => ?_) (fun h17 => ?_)
    · refine TriL.segK (k' := 30) (fr' := [(0, .pointer (some ⟨(blkOf A), offOf A + i * 10, none⟩)), (32, .bool true)]) (obl := []) [o_, o_, o_, o_, o_, o_, o_, o_, o_, o_, o_, o_, o_, o_, o_] [0, 32] (fun _ _ => by kernel_rfl) trivial ?_
      refine TriL.nil (by kernel_rfl) ?_
      refine TriQ.next ?_
      refine Tri.condT (fun _ => by kernel_rfl) ?_
      refine Tri.seq ?_
      refine Tri.region ?_
      refine TriL.segK (k' := 1) (fr' := [(2, .bool false)]) (obl := []) [o_] [2] (fun _ _ => by kernel_rfl) trivial ?_
      refine TriL.nil (by kernel_rfl) ?_
      refine TriQ.next ?_
      refine Tri.ret ?_
      refine TriQ.passRet ?_
      exact TriQ.ret (v := .bool false) (l := []) (obl := []) [] [0] (fun _ => by kernel_rfl) trivial rfl (by kernel_rfl) (⟨congrArg Value.bool (decide_eq_false (by rw [nodeOk_iff]; unfold Within at *; grind)).symm, rfl⟩)
    · refine TriL.segK (k' := 19) (fr' := [(0, .pointer (some ⟨(blkOf A), offOf A + i * 10, none⟩)), (17, .bool false), (21, .int .i64 ((nd ns i).uid))]) (obl := [(Rd β ⟨(blkOf A), offOf A + i * 10 + 3, none⟩ (.int .i64 ((nd ns i).uid)))]) [o_, o_, o_, ⟨[.old (.int .i64 ((nd ns i).uid))], none, none, none, none⟩] [0, 17, 21] (fun _ _ => by kernel_rfl) ⟨GraphAt.rd hG (i := i) (by omega) (j := 3) rfl, trivial⟩ ?_
      refine TriL.call (f := 69) (args := #[.int .i64 ((nd ns i).uid), .int .i64 0, .int .i64 2147483647]) (d := (some 22)) (pre := []) (R := [.abs R]) (pk := [0]) (fun _ => by kernel_rfl) (sp_within ((nd ns i).uid) 0 2147483647) rfl (by kernel_rfl) ?_
      rintro _ _ ⟨rfl, rfl⟩
      refine TriL.segK (k' := 23) (fr' := [(0, .pointer (some ⟨(blkOf A), offOf A + i * 10, none⟩)), (25, .bool (!(decide (Within ((nd ns i).uid) 0 2147483647))))]) (obl := []) [o_, o_, o_] [0, 25] (fun _ _ => by kernel_rfl) trivial ?_
      refine TriL.slotN 25 (Within ((nd ns i).uid) 0 2147483647) (fun _ => by kernel_rfl) (fun h25 => ?_) (fun h25 => ?_)
      · refine TriL.segK (k' := 30) (fr' := [(0, .pointer (some ⟨(blkOf A), offOf A + i * 10, none⟩)), (32, .bool true)]) (obl := []) [o_, o_, o_, o_, o_, o_, o_] [0, 32] (fun _ _ => by kernel_rfl) trivial ?_
        refine TriL.nil (by kernel_rfl) ?_
        refine TriQ.next ?_
        refine Tri.condT (fun _ => by kernel_rfl) ?_
        refine Tri.seq ?_
        refine Tri.region ?_
        refine TriL.segK (k' := 1) (fr' := [(2, .bool false)]) (obl := []) [o_] [2] (fun _ _ => by kernel_rfl) trivial ?_
        refine TriL.nil (by kernel_rfl) ?_
        refine TriQ.next ?_
        refine Tri.ret ?_
        refine TriQ.passRet ?_
        exact TriQ.ret (v := .bool false) (l := []) (obl := []) [] [0] (fun _ => by kernel_rfl) trivial rfl (by kernel_rfl) (⟨congrArg Value.bool (decide_eq_false (by rw [nodeOk_iff]; unfold Within at *; grind)).symm, rfl⟩)
      · refine TriL.segK (k' := 27) (fr' := [(0, .pointer (some ⟨(blkOf A), offOf A + i * 10, none⟩)), (25, .bool false), (29, .int .i64 ((nd ns i).gid))]) (obl := [(Rd β ⟨(blkOf A), offOf A + i * 10 + 4, none⟩ (.int .i64 ((nd ns i).gid)))]) [o_, o_, o_, ⟨[.old (.int .i64 ((nd ns i).gid))], none, none, none, none⟩] [0, 25, 29] (fun _ _ => by kernel_rfl) ⟨GraphAt.rd hG (i := i) (by omega) (j := 4) rfl, trivial⟩ ?_
        refine TriL.call (f := 69) (args := #[.int .i64 ((nd ns i).gid), .int .i64 0, .int .i64 2147483647]) (d := (some 30)) (pre := []) (R := [.abs R]) (pk := [0]) (fun _ => by kernel_rfl) (sp_within ((nd ns i).gid) 0 2147483647) rfl (by kernel_rfl) ?_
        rintro _ _ ⟨rfl, rfl⟩
        refine TriL.segK (k' := 30) (fr' := [(0, .pointer (some ⟨(blkOf A), offOf A + i * 10, none⟩)), (32, .bool (!(decide (Within ((nd ns i).gid) 0 2147483647))))]) (obl := []) [o_, o_] [0, 32] (fun _ _ => by kernel_rfl) trivial ?_
        refine TriL.nil (by kernel_rfl) ?_
        refine TriQ.next ?_
        refine Tri.condN (p := Within ((nd ns i).gid) 0 2147483647) (fun _ => by kernel_rfl) (fun h32 => ?_) (fun h32 => ?_)
        · refine Tri.seq ?_
          refine Tri.region ?_
          refine TriL.segK (k' := 1) (fr' := [(2, .bool false)]) (obl := []) [o_] [2] (fun _ _ => by kernel_rfl) trivial ?_
          refine TriL.nil (by kernel_rfl) ?_
          refine TriQ.next ?_
          refine Tri.ret ?_
          refine TriQ.passRet ?_
          exact TriQ.ret (v := .bool false) (l := []) (obl := []) [] [0] (fun _ => by kernel_rfl) trivial rfl (by kernel_rfl) (⟨congrArg Value.bool (decide_eq_false (by rw [nodeOk_iff]; unfold Within at *; grind)).symm, rfl⟩)
        · refine Tri.skip ?_
          refine TriQ.next ?_
          refine Tri.seq ?_
          refine Tri.seq ?_
          refine Tri.region ?_
          refine TriL.segK (k' := 6) (fr' := [(0, .pointer (some ⟨(blkOf A), offOf A + i * 10, none⟩)), (38, .bool (!(decide (((nd ns i).kind : Int) = (1 : Int)))))]) (obl := [(Rd β ⟨(blkOf A), offOf A + i * 10 + 1, none⟩ (.int .i64 ((nd ns i).kind)))]) [o_, o_, o_, ⟨[.old (.int .i64 ((nd ns i).kind))], none, none, none, none⟩, o_, o_] [0, 38] (fun _ _ => by kernel_rfl) ⟨GraphAt.rd hG (i := i) (by omega) (j := 1) rfl, trivial⟩ ?_
          refine TriL.slotN 38 (((nd ns i).kind : Int) = (1 : Int)) (fun _ => by kernel_rfl) (fun h38 => ?_) (fun h38 => ?_)
          · refine TriL.segK (k' := 14) (fr' := [(0, .pointer (some ⟨(blkOf A), offOf A + i * 10, none⟩)), (46, .bool (decide (((((nd ns i).data.length : Nat) : Int) : Int) > (0 : Int))))]) (obl := [(Rd β ⟨(blkOf A), offOf A + i * 10 + 7, none⟩ (.slice (L.dA i) ((nd ns i).data.length) ((L.dC i))))]) [o_, o_, o_, ⟨[.old (.slice (L.dA i) ((nd ns i).data.length) ((L.dC i)))], none, none, none, none⟩, o_, o_, o_, o_] [0, 46] (fun _ _ => by kernel_rfl) ⟨GraphAt.rd hG (i := i) (by omega) (j := 7) rfl, trivial⟩ ?_
            refine TriL.slotP 46 (((((nd ns i).data.length : Nat) : Int) : Int) > (0 : Int)) (fun _ => by kernel_rfl) (fun h46 => ?_) (fun h46 => ?_)
            · refine TriL.segK (k' := 28) (fr' := [(0, .pointer (some ⟨(blkOf A), offOf A + i * 10, none⟩)), (60, .bool true)]) (obl := []) [o_, o_, o_, o_, o_, o_, o_, o_, o_, o_, o_, o_, o_, o_] [0, 60] (fun _ _ => by kernel_rfl) trivial ?_
              refine TriL.nil (by kernel_rfl) ?_
              refine TriQ.next ?_
              refine Tri.condT (fun _ => by kernel_rfl) ?_
              refine Tri.seq ?_
              refine Tri.region ?_
              refine TriL.segK (k' := 1) (fr' := [(2, .bool false)]) (obl := []) [o_] [2] (fun _ _ => by kernel_rfl) trivial ?_
              refine TriL.nil (by kernel_rfl) ?_
              refine TriQ.next ?_
              refine Tri.ret ?_
              refine TriQ.passRet ?_
              exact TriQ.ret (v := .bool false) (l := []) (obl := []) [] [0] (fun _ => by kernel_rfl) trivial rfl (by kernel_rfl) (⟨congrArg Value.bool (decide_eq_false (by rw [nodeOk_iff]; unfold Within at *; grind)).symm, rfl⟩)
            · refine TriL.segK (k' := 20) (fr' := [(0, .pointer (some ⟨(blkOf A), offOf A + i * 10, none⟩)), (46, .bool false), (52, .bool (!(decide (((nd ns i).kind : Int) = (2 : Int)))))]) (obl := [(Rd β ⟨(blkOf A), offOf A + i * 10 + 1, none⟩ (.int .i64 ((nd ns i).kind)))]) [o_, o_, o_, ⟨[.old (.int .i64 ((nd ns i).kind))], none, none, none, none⟩, o_, o_] [0, 46, 52] (fun _ _ => by kernel_rfl) ⟨GraphAt.rd hG (i := i) (by omega) (j := 1) rfl, trivial⟩ ?_
              refine TriL.slotN 52 (((nd ns i).kind : Int) = (2 : Int)) (fun _ => by kernel_rfl) (fun h52 => ?_) (fun h52 => ?_)
              · refine TriL.segK (k' := 28) (fr' := [(0, .pointer (some ⟨(blkOf A), offOf A + i * 10, none⟩)), (60, .bool (decide (((((nd ns i).ents.length : Nat) : Int) : Int) > (0 : Int))))]) (obl := [(Rd β ⟨(blkOf A), offOf A + i * 10 + 9, none⟩ (.slice (L.eA i) ((nd ns i).ents.length) ((L.eC i))))]) [o_, o_, o_, ⟨[.old (.slice (L.eA i) ((nd ns i).ents.length) ((L.eC i)))], none, none, none, none⟩, o_, o_, o_, o_] [0, 60] (fun _ _ => by kernel_rfl) ⟨GraphAt.rd hG (i := i) (by omega) (j := 9) rfl, trivial⟩ ?_
                refine TriL.nil (by kernel_rfl) ?_
                refine TriQ.next ?_
                refine Tri.condP (p := ((((nd ns i).ents.length : Nat) : Int) : Int) > (0 : Int)) (fun _ => by kernel_rfl) (fun h60 => ?_) (fun h60 => ?_)
                · refine Tri.seq ?_
                  refine Tri.region ?_
                  refine TriL.segK (k' := 1) (fr' := [(2, .bool false)]) (obl := []) [o_] [2] (fun _ _ => by kernel_rfl) trivial ?_
                  refine TriL.nil (by kernel_rfl) ?_
                  refine TriQ.next ?_
                  refine Tri.ret ?_
                  refine TriQ.passRet ?_
                  exact TriQ.ret (v := .bool false) (l := []) (obl := []) [] [0] (fun _ => by kernel_rfl) trivial rfl (by kernel_rfl) (⟨congrArg Value.bool (decide_eq_false (by rw [nodeOk_iff]; unfold Within at *; grind)).symm, rfl⟩)
                · refine Tri.skip ?_
                  refine TriQ.next ?_
                  refine Tri.seq ?_
                  refine Tri.region ?_
                  refine TriL.segK (k' := 4) (fr' := [(0, .pointer (some ⟨(blkOf A), offOf A + i * 10, none⟩)), (64, .agg #[.int .i64 ((nd ns i).sec), .int .i64 ((nd ns i).nano)])]) (obl := [(Rd β ⟨(blkOf A), offOf A + i * 10 + 5 + 1, none⟩ (.int .i64 ((nd ns i).nano))), (Rd β ⟨(blkOf A), offOf A + i * 10 + 5, none⟩ (.int .i64 ((nd ns i).sec)))]) [o_, o_, o_, ⟨[.old (.int .i64 ((nd ns i).sec)), .old (.int .i64 ((nd ns i).nano))], none, none, none, none⟩] [0, 64] (fun _ _ => by kernel_rfl) ⟨GraphAt.rd hG (i := i) (by omega) (j := 6) rfl, GraphAt.rd hG (i := i) (by omega) (j := 5) rfl, trivial⟩ ?_
                  refine TriL.call (f := 70) (args := #[.agg #[.int .i64 ((nd ns i).sec), .int .i64 ((nd ns i).nano)]]) (d := (some 65)) (pre := []) (R := [.abs R]) (pk := [0]) (fun _ => by kernel_rfl) (sp_stampValid (nd ns i).sec (nd ns i).nano) rfl (by kernel_rfl) ?_
                  rintro _ _ ⟨rfl, rfl⟩
                  refine TriL.segK (k' := 6) (fr' := [(0, .pointer (some ⟨(blkOf A), offOf A + i * 10, none⟩)), (66, .bool (decide (TimeOk (nd ns i).sec (nd ns i).nano)))]) (obl := []) [o_] [0, 66] (fun _ _ => by kernel_rfl) trivial ?_
                  refine TriL.slotP 66 (TimeOk (nd ns i).sec (nd ns i).nano) (fun _ => by kernel_rfl) (fun h66 => ?_) (fun h66 => ?_)
                  · refine TriL.segK (k' := 7) (fr' := [(66, .bool true), (67, .pointer (some ⟨(blkOf A), offOf A + i * 10, none⟩))]) (obl := []) [o_] [66, 67] (fun _ _ => by kernel_rfl) trivial ?_
                    refine TriL.call (f := 71) (args := #[.pointer (some ⟨(blkOf A), offOf A + i * 10, none⟩)]) (d := (some 68)) (pre := []) (R := [.abs R]) (pk := [0]) (fun _ => by kernel_rfl) (sp_text A ns L hG i hi) rfl (by kernel_rfl) ?_
                    rintro _ _ ⟨rfl, rfl⟩
                    refine TriL.segK (k' := 10) (fr' := [(2, .bool (decide (TargetOk (nd ns i).kind (nd ns i).target)))]) (obl := []) [o_, o_] [2] (fun _ _ => by kernel_rfl) trivial ?_
                    refine TriL.nil (by kernel_rfl) ?_
                    refine TriQ.next ?_
                    refine Tri.ret ?_
                    exact TriQ.ret (v := .bool (decide (TargetOk (nd ns i).kind (nd ns i).target))) (l := []) (obl := []) [] [0] (fun _ => by kernel_rfl) trivial rfl (by kernel_rfl) (⟨congrArg Value.bool (decide_eq_decide.2 (by rw [nodeOk_iff]; unfold Within at *; grind)), rfl⟩)
                  · refine TriL.segK (k' := 10) (fr' := [(2, .bool false)]) (obl := []) [o_, o_, o_, o_] [2] (fun _ _ => by kernel_rfl) trivial ?_
                    refine TriL.nil (by kernel_rfl) ?_
                    refine TriQ.next ?_
                    refine Tri.ret ?_
                    exact TriQ.ret (v := .bool false) (l := []) (obl := []) [] [0] (fun _ => by kernel_rfl) trivial rfl (by kernel_rfl) (⟨congrArg Value.bool (decide_eq_false (by rw [nodeOk_iff]; unfold Within at *; grind)).symm, rfl⟩)
              · refine TriL.segK (k' := 28) (fr' := [(0, .pointer (some ⟨(blkOf A), offOf A + i * 10, none⟩)), (60, .bool false)]) (obl := []) [o_, o_, o_, o_, o_, o_, o_, o_] [0, 60] (fun _ _ => by kernel_rfl) trivial ?_
                refine TriL.nil (by kernel_rfl) ?_
                refine TriQ.next ?_
                refine Tri.condF (fun _ => by kernel_rfl) ?_
                refine Tri.skip ?_
                refine TriQ.next ?_
                refine Tri.seq ?_
                refine Tri.region ?_
                refine TriL.segK (k' := 4) (fr' := [(0, .pointer (some ⟨(blkOf A), offOf A + i * 10, none⟩)), (64, .agg #[.int .i64 ((nd ns i).sec), .int .i64 ((nd ns i).nano)])]) (obl := [(Rd β ⟨(blkOf A), offOf A + i * 10 + 5 + 1, none⟩ (.int .i64 ((nd ns i).nano))), (Rd β ⟨(blkOf A), offOf A + i * 10 + 5, none⟩ (.int .i64 ((nd ns i).sec)))]) [o_, o_, o_, ⟨[.old (.int .i64 ((nd ns i).sec)), .old (.int .i64 ((nd ns i).nano))], none, none, none, none⟩] [0, 64] (fun _ _ => by kernel_rfl) ⟨GraphAt.rd hG (i := i) (by omega) (j := 6) rfl, GraphAt.rd hG (i := i) (by omega) (j := 5) rfl, trivial⟩ ?_
                refine TriL.call (f := 70) (args := #[.agg #[.int .i64 ((nd ns i).sec), .int .i64 ((nd ns i).nano)]]) (d := (some 65)) (pre := []) (R := [.abs R]) (pk := [0]) (fun _ => by kernel_rfl) (sp_stampValid (nd ns i).sec (nd ns i).nano) rfl (by kernel_rfl) ?_
                rintro _ _ ⟨rfl, rfl⟩
                refine TriL.segK (k' := 6) (fr' := [(0, .pointer (some ⟨(blkOf A), offOf A + i * 10, none⟩)), (66, .bool (decide (TimeOk (nd ns i).sec (nd ns i).nano)))]) (obl := []) [o_] [0, 66] (fun _ _ => by kernel_rfl) trivial ?_
                refine TriL.slotP 66 (TimeOk (nd ns i).sec (nd ns i).nano) (fun _ => by kernel_rfl) (fun h66 => ?_) (fun h66 => ?_)
                · refine TriL.segK (k' := 7) (fr' := [(66, .bool true), (67, .pointer (some ⟨(blkOf A), offOf A + i * 10, none⟩))]) (obl := []) [o_] [66, 67] (fun _ _ => by kernel_rfl) trivial ?_
                  refine TriL.call (f := 71) (args := #[.pointer (some ⟨(blkOf A), offOf A + i * 10, none⟩)]) (d := (some 68)) (pre := []) (R := [.abs R]) (pk := [0]) (fun _ => by kernel_rfl) (sp_text A ns L hG i hi) rfl (by kernel_rfl) ?_
                  rintro _ _ ⟨rfl, rfl⟩
                  refine TriL.segK (k' := 10) (fr' := [(2, .bool (decide (TargetOk (nd ns i).kind (nd ns i).target)))]) (obl := []) [o_, o_] [2] (fun _ _ => by kernel_rfl) trivial ?_
                  refine TriL.nil (by kernel_rfl) ?_
                  refine TriQ.next ?_
                  refine Tri.ret ?_
                  exact TriQ.ret (v := .bool (decide (TargetOk (nd ns i).kind (nd ns i).target))) (l := []) (obl := []) [] [0] (fun _ => by kernel_rfl) trivial rfl (by kernel_rfl) (⟨congrArg Value.bool (decide_eq_decide.2 (by rw [nodeOk_iff]; unfold Within at *; grind)), rfl⟩)
                · refine TriL.segK (k' := 10) (fr' := [(2, .bool false)]) (obl := []) [o_, o_, o_, o_] [2] (fun _ _ => by kernel_rfl) trivial ?_
                  refine TriL.nil (by kernel_rfl) ?_
                  refine TriQ.next ?_
                  refine Tri.ret ?_
                  exact TriQ.ret (v := .bool false) (l := []) (obl := []) [] [0] (fun _ => by kernel_rfl) trivial rfl (by kernel_rfl) (⟨congrArg Value.bool (decide_eq_false (by rw [nodeOk_iff]; unfold Within at *; grind)).symm, rfl⟩)
          · refine TriL.segK (k' := 20) (fr' := [(0, .pointer (some ⟨(blkOf A), offOf A + i * 10, none⟩)), (46, .bool false), (52, .bool (!(decide (((nd ns i).kind : Int) = (2 : Int)))))]) (obl := [(Rd β ⟨(blkOf A), offOf A + i * 10 + 1, none⟩ (.int .i64 ((nd ns i).kind)))]) [o_, o_, o_, o_, o_, o_, o_, o_, o_, o_, o_, ⟨[.old (.int .i64 ((nd ns i).kind))], none, none, none, none⟩, o_, o_] [0, 46, 52] (fun _ _ => by kernel_rfl) ⟨GraphAt.rd hG (i := i) (by omega) (j := 1) rfl, trivial⟩ ?_
            refine TriL.slotN 52 (((nd ns i).kind : Int) = (2 : Int)) (fun _ => by kernel_rfl) (fun h52 => ?_) (fun h52 => ?_)
            · refine TriL.segK (k' := 28) (fr' := [(0, .pointer (some ⟨(blkOf A), offOf A + i * 10, none⟩)), (60, .bool (decide (((((nd ns i).ents.length : Nat) : Int) : Int) > (0 : Int))))]) (obl := [(Rd β ⟨(blkOf A), offOf A + i * 10 + 9, none⟩ (.slice (L.eA i) ((nd ns i).ents.length) ((L.eC i))))]) [o_, o_, o_, ⟨[.old (.slice (L.eA i) ((nd ns i).ents.length) ((L.eC i)))], none, none, none, none⟩, o_, o_, o_, o_] [0, 60] (fun _ _ => by kernel_rfl) ⟨GraphAt.rd hG (i := i) (by omega) (j := 9) rfl, trivial⟩ ?_
              refine TriL.nil (by kernel_rfl) ?_
              refine TriQ.next ?_
              refine Tri.condP (p := ((((nd ns i).ents.length : Nat) : Int) : Int) > (0 : Int)) (fun _ => by kernel_rfl) (fun h60 => ?_) (fun h60 => ?_)
              · refine Tri.seq ?_
                refine Tri.region ?_
                refine TriL.segK (k' := 1) (fr' := [(2, .bool false)]) (obl := []) [o_] [2] (fun _ _ => by kernel_rfl) trivial ?_
                refine TriL.nil (by kernel_rfl) ?_
                refine TriQ.next ?_
                refine Tri.ret ?_
                refine TriQ.passRet ?_
                exact TriQ.ret (v := .bool false) (l := []) (obl := []) [] [0] (fun _ => by kernel_rfl) trivial rfl (by kernel_rfl) (⟨congrArg Value.bool (decide_eq_false (by rw [nodeOk_iff]; unfold Within at *; grind)).symm, rfl⟩)
              · refine Tri.skip ?_
                refine TriQ.next ?_
                refine Tri.seq ?_
                refine Tri.region ?_
                refine TriL.segK (k' := 4) (fr' := [(0, .pointer (some ⟨(blkOf A), offOf A + i * 10, none⟩)), (64, .agg #[.int .i64 ((nd ns i).sec), .int .i64 ((nd ns i).nano)])]) (obl := [(Rd β ⟨(blkOf A), offOf A + i * 10 + 5 + 1, none⟩ (.int .i64 ((nd ns i).nano))), (Rd β ⟨(blkOf A), offOf A + i * 10 + 5, none⟩ (.int .i64 ((nd ns i).sec)))]) [o_, o_, o_, ⟨[.old (.int .i64 ((nd ns i).sec)), .old (.int .i64 ((nd ns i).nano))], none, none, none, none⟩] [0, 64] (fun _ _ => by kernel_rfl) ⟨GraphAt.rd hG (i := i) (by omega) (j := 6) rfl, GraphAt.rd hG (i := i) (by omega) (j := 5) rfl, trivial⟩ ?_
                refine TriL.call (f := 70) (args := #[.agg #[.int .i64 ((nd ns i).sec), .int .i64 ((nd ns i).nano)]]) (d := (some 65)) (pre := []) (R := [.abs R]) (pk := [0]) (fun _ => by kernel_rfl) (sp_stampValid (nd ns i).sec (nd ns i).nano) rfl (by kernel_rfl) ?_
                rintro _ _ ⟨rfl, rfl⟩
                refine TriL.segK (k' := 6) (fr' := [(0, .pointer (some ⟨(blkOf A), offOf A + i * 10, none⟩)), (66, .bool (decide (TimeOk (nd ns i).sec (nd ns i).nano)))]) (obl := []) [o_] [0, 66] (fun _ _ => by kernel_rfl) trivial ?_
                refine TriL.slotP 66 (TimeOk (nd ns i).sec (nd ns i).nano) (fun _ => by kernel_rfl) (fun h66 => ?_) (fun h66 => ?_)
                · refine TriL.segK (k' := 7) (fr' := [(66, .bool true), (67, .pointer (some ⟨(blkOf A), offOf A + i * 10, none⟩))]) (obl := []) [o_] [66, 67] (fun _ _ => by kernel_rfl) trivial ?_
                  refine TriL.call (f := 71) (args := #[.pointer (some ⟨(blkOf A), offOf A + i * 10, none⟩)]) (d := (some 68)) (pre := []) (R := [.abs R]) (pk := [0]) (fun _ => by kernel_rfl) (sp_text A ns L hG i hi) rfl (by kernel_rfl) ?_
                  rintro _ _ ⟨rfl, rfl⟩
                  refine TriL.segK (k' := 10) (fr' := [(2, .bool (decide (TargetOk (nd ns i).kind (nd ns i).target)))]) (obl := []) [o_, o_] [2] (fun _ _ => by kernel_rfl) trivial ?_
                  refine TriL.nil (by kernel_rfl) ?_
                  refine TriQ.next ?_
                  refine Tri.ret ?_
                  exact TriQ.ret (v := .bool (decide (TargetOk (nd ns i).kind (nd ns i).target))) (l := []) (obl := []) [] [0] (fun _ => by kernel_rfl) trivial rfl (by kernel_rfl) (⟨congrArg Value.bool (decide_eq_decide.2 (by rw [nodeOk_iff]; unfold Within at *; grind)), rfl⟩)
                · refine TriL.segK (k' := 10) (fr' := [(2, .bool false)]) (obl := []) [o_, o_, o_, o_] [2] (fun _ _ => by kernel_rfl) trivial ?_
                  refine TriL.nil (by kernel_rfl) ?_
                  refine TriQ.next ?_
                  refine Tri.ret ?_
                  exact TriQ.ret (v := .bool false) (l := []) (obl := []) [] [0] (fun _ => by kernel_rfl) trivial rfl (by kernel_rfl) (⟨congrArg Value.bool (decide_eq_false (by rw [nodeOk_iff]; unfold Within at *; grind)).symm, rfl⟩)
            · refine TriL.segK (k' := 28) (fr' := [(0, .pointer (some ⟨(blkOf A), offOf A + i * 10, none⟩)), (60, .bool false)]) (obl := []) [o_, o_, o_, o_, o_, o_, o_, o_] [0, 60] (fun _ _ => by kernel_rfl) trivial ?_
              refine TriL.nil (by kernel_rfl) ?_
              refine TriQ.next ?_
              refine Tri.condF (fun _ => by kernel_rfl) ?_
              refine Tri.skip ?_
              refine TriQ.next ?_
              refine Tri.seq ?_
              refine Tri.region ?_
              refine TriL.segK (k' := 4) (fr' := [(0, .pointer (some ⟨(blkOf A), offOf A + i * 10, none⟩)), (64, .agg #[.int .i64 ((nd ns i).sec), .int .i64 ((nd ns i).nano)])]) (obl := [(Rd β ⟨(blkOf A), offOf A + i * 10 + 5 + 1, none⟩ (.int .i64 ((nd ns i).nano))), (Rd β ⟨(blkOf A), offOf A + i * 10 + 5, none⟩ (.int .i64 ((nd ns i).sec)))]) [o_, o_, o_, ⟨[.old (.int .i64 ((nd ns i).sec)), .old (.int .i64 ((nd ns i).nano))], none, none, none, none⟩] [0, 64] (fun _ _ => by kernel_rfl) ⟨GraphAt.rd hG (i := i) (by omega) (j := 6) rfl, GraphAt.rd hG (i := i) (by omega) (j := 5) rfl, trivial⟩ ?_
              refine TriL.call (f := 70) (args := #[.agg #[.int .i64 ((nd ns i).sec), .int .i64 ((nd ns i).nano)]]) (d := (some 65)) (pre := []) (R := [.abs R]) (pk := [0]) (fun _ => by kernel_rfl) (sp_stampValid (nd ns i).sec (nd ns i).nano) rfl (by kernel_rfl) ?_
              rintro _ _ ⟨rfl, rfl⟩
              refine TriL.segK (k' := 6) (fr' := [(0, .pointer (some ⟨(blkOf A), offOf A + i * 10, none⟩)), (66, .bool (decide (TimeOk (nd ns i).sec (nd ns i).nano)))]) (obl := []) [o_] [0, 66] (fun _ _ => by kernel_rfl) trivial ?_
              refine TriL.slotP 66 (TimeOk (nd ns i).sec (nd ns i).nano) (fun _ => by kernel_rfl) (fun h66 => ?_) (fun h66 => ?_)
              · refine TriL.segK (k' := 7) (fr' := [(66, .bool true), (67, .pointer (some ⟨(blkOf A), offOf A + i * 10, none⟩))]) (obl := []) [o_] [66, 67] (fun _ _ => by kernel_rfl) trivial ?_
                refine TriL.call (f := 71) (args := #[.pointer (some ⟨(blkOf A), offOf A + i * 10, none⟩)]) (d := (some 68)) (pre := []) (R := [.abs R]) (pk := [0]) (fun _ => by kernel_rfl) (sp_text A ns L hG i hi) rfl (by kernel_rfl) ?_
                rintro _ _ ⟨rfl, rfl⟩
                refine TriL.segK (k' := 10) (fr' := [(2, .bool (decide (TargetOk (nd ns i).kind (nd ns i).target)))]) (obl := []) [o_, o_] [2] (fun _ _ => by kernel_rfl) trivial ?_
                refine TriL.nil (by kernel_rfl) ?_
                refine TriQ.next ?_
                refine Tri.ret ?_
                exact TriQ.ret (v := .bool (decide (TargetOk (nd ns i).kind (nd ns i).target))) (l := []) (obl := []) [] [0] (fun _ => by kernel_rfl) trivial rfl (by kernel_rfl) (⟨congrArg Value.bool (decide_eq_decide.2 (by rw [nodeOk_iff]; unfold Within at *; grind)), rfl⟩)
              · refine TriL.segK (k' := 10) (fr' := [(2, .bool false)]) (obl := []) [o_, o_, o_, o_] [2] (fun _ _ => by kernel_rfl) trivial ?_
                refine TriL.nil (by kernel_rfl) ?_
                refine TriQ.next ?_
                refine Tri.ret ?_
                exact TriQ.ret (v := .bool false) (l := []) (obl := []) [] [0] (fun _ => by kernel_rfl) trivial rfl (by kernel_rfl) (⟨congrArg Value.bool (decide_eq_false (by rw [nodeOk_iff]; unfold Within at *; grind)).symm, rfl⟩)
end Go.Proofs.Ytjpdcppdoonmdaa
