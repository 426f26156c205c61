/-
  PROVED HERE: lemmas and contracts of functions (texts of this repo, joined): RtC, Vg, Ru.
  CONDITIONS: as the theorems say.
-/
import Derived.Test.YtejnhhpjlajngaaMNumbers2
/- part RtC. PROVED HERE: the reference table CONDITIONS: as the theorems say. Printed by a program of this repo (wip/v). -/
section
namespace Go.Proofs.Ytejnhhpjlajngaa
open Go.RowKit HeapM TabM Go.Maps
attribute [local irreducible] TriL TriLQ Tri TriQ
theorem ext_getD {α : Type} {x : α} {a b : List α} (hl : a.length = b.length) (h : ∀ j, j < a.length → a.getD j x = b.getD j x) : a = b := by
  apply List.ext_getElem hl
  intro j h1 h2
  have := h j h1
  rw [List.getD_eq_getElem?_getD, List.getD_eq_getElem?_getD, List.getElem?_eq_getElem h1, List.getElem?_eq_getElem h2] at this
  exact this
theorem len_snoc (q : Used Int) (x : Int × Int) : (q ++ [x]).length = q.length + 1 := List.length_append
theorem rowK {q : Used Int} {x : Int × Int} {B : Option Addr} {c : Nat} {k : Int} (h : k = x.1) : HP.abs (RowA 3 1 B (q.length + 1) c (ints (keys q) ++ [.int .i64 k])) = HP.abs (RowA 3 1 B (q ++ [x]).length c (ints (keys (q ++ [x])))) := by
  rw [keys_snoc, ← ints_snoc, len_snoc, h]
theorem rowV {q : Used Int} {x : Int × Int} {B : Option Addr} {c : Nat} {k : Int} (h : k = x.2) : HP.abs (RowA 3 1 B (q.length + 1) c (ints (vls q) ++ [.int .i64 k])) = HP.abs (RowA 3 1 B (q ++ [x]).length c (ints (vls (q ++ [x])))) := by
  rw [vls_snoc, ← ints_snoc, len_snoc, h]
theorem PutAt.keep {us q : Used Int} {h v : Int} {i : Nat} {d : Bool} (hp : PutAt us h v i d q) (hi : i < us.length) (hk : ¬ h < (pr us i).1) : PutAt us h v (i + 1) d (q ++ [pr us i]) := by
  cases d with
  | false => exact hp.miss hi hk
  | true => exact hp.more hi
set_option maxRecDepth 100000 in
set_option maxHeartbeats 4000000 in
theorem sp_rnew {β : Bs} (most : Int) :
    Spec Try.prog β 10 #[.int .i64 most] [] (fun v l => v = .agg #[.int .i64 (min (max most 0) 1024), .int .i64 0, .slice none 0 0, .slice none 0 0] ∧ l = []) := by
 refine Spec.enter Try.func10 rfl Try.ntmps10 (Nat.le_of_ble_eq_true rfl) (fun R => ?_)
 refine Tri.seq (Tri.region ?_)
 refine TriL.segN (k' := 1) (fr' := fun b1 => [(0, .int .i64 (most)), (2, .pointer (some ⟨b1, 0, none⟩))]) (hps' := fun b1 => [.abs R, .blk b1 [.int .i64 0, .int .i64 0, .slice none (0) (0), .slice none (0) (0)] 32]) (obl := fun b1 => []) [o_] [0, 2] [0, 1] (fun _ _ => by kernel_rfl) (fun b1 => trivial) (fun b1 => ?_)
 refine TriL.nil (by kernel_rfl) (TriQ.next (Tri.seq (Tri.seq (Tri.region ?_))))
 refine TriL.segK (k' := 2) (fr' := [(0, .int .i64 (most)), (2, .pointer (some ⟨b1, 0, none⟩)), (4, .bool (decide ((most : Int) < (0 : Int))))]) (obl := []) [o_, o_] [0, 2, 4] (fun _ _ => by kernel_rfl) trivial ?_
 refine TriL.nil (by kernel_rfl) (TriQ.next ?_)
 refine Tri.condP (p := (most : Int) < (0 : Int)) (fun _ => by kernel_rfl) (fun h4 => ?_) (fun h4 => ?_)
 ·
  refine Tri.region ?_
  refine TriL.segK (k' := 1) (fr' := [(0, .int .i64 0), (2, .pointer (some ⟨b1, 0, none⟩))]) (obl := []) [o_] [0, 2] (fun _ _ => by kernel_rfl) trivial ?_
  refine TriL.nil (by kernel_rfl) (TriQ.next (Tri.seq (Tri.seq (Tri.region ?_))))
  refine TriL.segK (k' := 2) (fr' := [(0, .int .i64 0), (2, .pointer (some ⟨b1, 0, none⟩)), (6, .bool false)]) (obl := []) [o_, o_] [0, 2, 6] (fun _ _ => by kernel_rfl) trivial ?_
  refine TriL.nil (by kernel_rfl) (TriQ.next ?_)
  refine Tri.condF (fun _ => by kernel_rfl) ?_
  refine Tri.skip (TriQ.next (Tri.seq (Tri.region ?_)))
  refine TriL.seg (k' := 3) (fr' := [(2, .pointer (some ⟨b1, 0, none⟩))]) (hps' := [.abs R, .blk b1 [.int .i64 0, .int .i64 0, .slice none (0) (0), .slice none (0) (0)] 32]) (obl := [b1 = b1, b1 = b1, b1 = b1, b1 = b1]) [o_, o_, ⟨[.at 1, .at 1, .at 1, .at 1], none, none, none, none⟩] [2] [0, 1] (fun _ _ => by kernel_rfl) ⟨rfl, rfl, rfl, rfl, trivial⟩ ?_
  refine TriL.nil (by kernel_rfl) (TriQ.next (Tri.ret ?_))
  exact TriQ.ret (v := .agg #[.int .i64 0, .int .i64 0, .slice none (0) (0), .slice none (0) (0)]) (l := []) (obl := [b1 = b1, b1 = b1, b1 = b1, b1 = b1]) [.at 1, .at 1, .at 1, .at 1] [0] (fun _ => by kernel_rfl) ⟨rfl, rfl, rfl, rfl, trivial⟩ rfl (by kernel_rfl) (⟨congrArg (fun z => Value.agg #[.int .i64 z, .int .i64 0, .slice none 0 0, .slice none 0 0]) (by omega), rfl⟩)
 ·
  refine Tri.skip (TriQ.next (Tri.seq (Tri.seq (Tri.region ?_))))
  refine TriL.segK (k' := 2) (fr' := [(0, .int .i64 (most)), (2, .pointer (some ⟨b1, 0, none⟩)), (6, .bool (decide ((most : Int) > (1024 : Int))))]) (obl := []) [o_, o_] [0, 2, 6] (fun _ _ => by kernel_rfl) trivial ?_
  refine TriL.nil (by kernel_rfl) (TriQ.next ?_)
  refine Tri.condP (p := (most : Int) > (1024 : Int)) (fun _ => by kernel_rfl) (fun h6 => ?_) (fun h6 => ?_)
  ·
   refine Tri.region ?_
   refine TriL.segK (k' := 1) (fr' := [(0, .int .i64 1024), (2, .pointer (some ⟨b1, 0, none⟩))]) (obl := []) [o_] [0, 2] (fun _ _ => by kernel_rfl) trivial ?_
   refine TriL.nil (by kernel_rfl) (TriQ.next (Tri.seq (Tri.region ?_)))
   refine TriL.seg (k' := 3) (fr' := [(2, .pointer (some ⟨b1, 0, none⟩))]) (hps' := [.abs R, .blk b1 [.int .i64 1024, .int .i64 0, .slice none (0) (0), .slice none (0) (0)] 32]) (obl := [b1 = b1, b1 = b1, b1 = b1, b1 = b1]) [o_, o_, ⟨[.at 1, .at 1, .at 1, .at 1], none, none, none, none⟩] [2] [0, 1] (fun _ _ => by kernel_rfl) ⟨rfl, rfl, rfl, rfl, trivial⟩ ?_
   refine TriL.nil (by kernel_rfl) (TriQ.next (Tri.ret ?_))
   exact TriQ.ret (v := .agg #[.int .i64 1024, .int .i64 0, .slice none (0) (0), .slice none (0) (0)]) (l := []) (obl := [b1 = b1, b1 = b1, b1 = b1, b1 = b1]) [.at 1, .at 1, .at 1, .at 1] [0] (fun _ => by kernel_rfl) ⟨rfl, rfl, rfl, rfl, trivial⟩ rfl (by kernel_rfl) (⟨congrArg (fun z => Value.agg #[.int .i64 z, .int .i64 0, .slice none 0 0, .slice none 0 0]) (by omega), rfl⟩)
  ·
   refine Tri.skip (TriQ.next (Tri.seq (Tri.region ?_)))
   refine TriL.seg (k' := 3) (fr' := [(2, .pointer (some ⟨b1, 0, none⟩))]) (hps' := [.abs R, .blk b1 [.int .i64 (most), .int .i64 0, .slice none (0) (0), .slice none (0) (0)] 32]) (obl := [b1 = b1, b1 = b1, b1 = b1, b1 = b1]) [o_, o_, ⟨[.at 1, .at 1, .at 1, .at 1], none, none, none, none⟩] [2] [0, 1] (fun _ _ => by kernel_rfl) ⟨rfl, rfl, rfl, rfl, trivial⟩ ?_
   refine TriL.nil (by kernel_rfl) (TriQ.next (Tri.ret ?_))
   exact TriQ.ret (v := .agg #[.int .i64 (most), .int .i64 0, .slice none (0) (0), .slice none (0) (0)]) (l := []) (obl := [b1 = b1, b1 = b1, b1 = b1, b1 = b1]) [.at 1, .at 1, .at 1, .at 1] [0] (fun _ => by kernel_rfl) ⟨rfl, rfl, rfl, rfl, trivial⟩ rfl (by kernel_rfl) (⟨congrArg (fun z => Value.agg #[.int .i64 z, .int .i64 0, .slice none 0 0, .slice none 0 0]) (by omega), rfl⟩)
set_option maxRecDepth 100000 in
set_option maxHeartbeats 4000000 in
theorem sp_rat {β : Bs} (M p : Int) (A B : Option Addr) (c d : Nat) (us : Used Int) (hA : RowB β A (ints (keys us))) (hl : us.length ≤ 16777216) (h : Int) :
    Spec Try.prog β 18 #[.agg #[.int .i64 (M), .int .i64 (p), .slice A (us.length) (c), .slice B (us.length) (d)], .int .i64 h] [] (fun v l => v = .int .i64 (ixK (keys us) h) ∧ l = []) := by
 refine Spec.enter Try.func18 rfl Try.ntmps18 (Nat.le_of_ble_eq_true rfl) (fun R => ?_)
 refine Tri.seq (Tri.region ?_)
 refine TriL.segN (k' := 2) (fr' := fun b2 => [(1, .int .i64 (h)), (2, .pointer (some ⟨b2, 0, none⟩))]) (hps' := fun b2 => [.abs R, .blk b2 [.int .i64 (M), .int .i64 (p), .slice A (us.length) (c), .slice B (us.length) (d)] 32]) (obl := fun b2 => []) [o_, o_] [1, 2] [0, 1] (fun _ _ => by kernel_rfl) (fun b2 => trivial) (fun b2 => ?_)
 refine TriL.nil (by kernel_rfl) (TriQ.next (Tri.seq (Tri.seq (Tri.region ?_))))
 refine TriL.segK (k' := 1) (fr' := [(1, .int .i64 (h)), (2, .pointer (some ⟨b2, 0, none⟩)), (5, .int .i64 0)]) (obl := []) [o_] [1, 2, 5] (fun _ _ => by kernel_rfl) trivial ?_
 refine TriL.nil (by kernel_rfl) (TriQ.next (Tri.block ?_))
 refine Tri.loop (ι := Nat) (fun (i : Nat) => (i ≤ us.length) ∧ (∀ j, j < i → ¬ (keys us).getD j 0 = h)) (fun (i : Nat) => us.length - i) (fun (i : Nat) => [(1, .int .i64 (h)), (2, .pointer (some ⟨b2, 0, none⟩)), (5, .int .i64 ↑i)]) (fun (i : Nat) => [.abs R, .blk b2 [.int .i64 (M), .int .i64 (p), .slice A (us.length) (c), .slice B (us.length) (d)] 32]) 0 (idx := [1, 2, 5]) (pk := [0, 1]) (show (0 ≤ us.length) ∧ (∀ j, j < 0 → ¬ (keys us).getD j 0 = h) from ⟨Nat.zero_le _, fun j hj => absurd hj (Nat.not_lt_zero j)⟩) (fun _ => by kernel_rfl) rfl (by kernel_rfl) ?_
 rintro i ⟨hi, hno⟩
 show Tri _ _ _ _ [(1, .int .i64 (h)), (2, .pointer (some ⟨b2, 0, none⟩)), (5, .int .i64 ↑i)] [.abs R, .blk b2 [.int .i64 (M), .int .i64 (p), .slice A (us.length) (c), .slice B (us.length) (d)] 32] _
 refine Tri.seq (Tri.seq (Tri.region ?_))
 refine TriL.segK (k' := 5) (fr' := [(1, .int .i64 (h)), (2, .pointer (some ⟨b2, 0, none⟩)), (5, .int .i64 ↑i), (10, .bool (decide ((((i : Nat) : Int) : Int) < (((us.length : Nat) : Int) : Int))))]) (obl := [b2 = b2]) [o_, o_, ⟨[.at 1], none, none, none, none⟩, o_, o_] [1, 2, 5, 10] (fun _ _ => by kernel_rfl) ⟨rfl, trivial⟩ ?_
 refine TriL.nil (by kernel_rfl) (TriQ.next ?_)
 refine Tri.condP (p := (((i : Nat) : Int) : Int) < (((us.length : Nat) : Int) : Int)) (fun _ => by kernel_rfl) (fun h10 => ?_) (fun h10 => ?_)
 ·
  refine Tri.skip (TriQ.next (Tri.seq (Tri.block (Tri.seq (Tri.region ?_)))))
  refine TriL.segK (k' := 7) (fr' := [(1, .int .i64 (h)), (2, .pointer (some ⟨b2, 0, none⟩)), (5, .int .i64 ↑i), (19, .bool (decide ((((keys us).getD i 0) : Int) = (h : Int))))]) (obl := [(Rd β ⟨(blkOf A), offOf A + i * 1, none⟩ (.int .i64 (((keys us).getD i 0)))), ((i : Nat) : Int) = ((i : Nat) : Int), i < us.length, (⟨(blkOf A), offOf A, none⟩ : Addr).spot = none, (A : Option Addr) = some ⟨(blkOf A), offOf A, none⟩, b2 = b2]) [o_, ⟨[.at 1], none, none, none, none⟩, o_, ⟨[], some i, none, some ⟨(blkOf A), offOf A, none⟩, none⟩, ⟨[.old (.int .i64 (((keys us).getD i 0)))], none, none, none, none⟩, o_, o_] [1, 2, 5, 19] (fun _ _ => by kernel_rfl) ⟨IntsR.rd hA (j := i) (by rw [kys_len]; omega), rfl, by omega, rfl, IntsR.hd hA (j := i) (by rw [kys_len]; omega), rfl, trivial⟩ ?_
  refine TriL.nil (by kernel_rfl) (TriQ.next ?_)
  refine Tri.condP (p := (((keys us).getD i 0) : Int) = (h : Int)) (fun _ => by kernel_rfl) (fun h19 => ?_) (fun h19 => ?_)
  ·
   refine Tri.seq (Tri.region ?_)
   refine TriL.segK (k' := 2) (fr' := [(4, .int .i64 ↑i)]) (obl := []) [o_, o_] [4] (fun _ _ => by kernel_rfl) trivial ?_
   refine TriL.nil (by kernel_rfl) (TriQ.next (Tri.ret (TriQ.blockRet (TriQ.passRet (TriQ.passRet (TriQ.blockRet (TriQ.passRet ?_)))))))
   exact TriQ.ret (v := .int .i64 ↑i) (l := []) (obl := []) [] [0] (fun _ => by kernel_rfl) trivial rfl (by kernel_rfl) (⟨by rw [ixK_at (i := i) (by rw [kys_len]; omega) h19 hno], rfl⟩)
  ·
   refine Tri.skip (TriQ.blockNormal (TriQ.next (Tri.region ?_)))
   refine TriL.segK (k' := 3) (fr' := [(1, .int .i64 (h)), (2, .pointer (some ⟨b2, 0, none⟩)), (5, .int .i64 ↑(i + 1))]) (obl := [(Value.int .i64 (IntKind.wrap .i64 (((i : Nat) : Int) + 1))) = (.int .i64 ↑(i + 1))]) [o_, ⟨[], none, none, none, some (.int .i64 ↑(i + 1))⟩, o_] [1, 2, 5] (fun _ _ => by kernel_rfl) ⟨wrapEq (by omega) (by omega) (by omega), trivial⟩ ?_
   refine TriL.nil (by kernel_rfl) ?_
   exact TriQ.turn ((i + 1)) (idx := [1, 2, 5]) (pk := [0, 1]) (show (((i + 1)) ≤ us.length) ∧ (∀ j, j < ((i + 1)) → ¬ (keys us).getD j 0 = h) from ⟨by omega, fun j hj => (Nat.lt_succ_iff_lt_or_eq.1 hj).elim (hno j) (fun e => e ▸ h19)⟩) (by show us.length - ((i + 1)) < us.length - i; omega) (fun _ => by kernel_rfl) rfl (by kernel_rfl)
 ·
  refine Tri.exit (TriQ.passExit (TriQ.passExit (TriQ.blockHit (TriQ.next (Tri.seq (Tri.region ?_))))))
  refine TriL.segK (k' := 1) (fr' := [(4, .int .i64 (-1))]) (obl := []) [o_] [4] (fun _ _ => by kernel_rfl) trivial ?_
  refine TriL.nil (by kernel_rfl) (TriQ.next (Tri.ret ?_))
  exact TriQ.ret (v := .int .i64 (-1)) (l := []) (obl := []) [] [0] (fun _ => by kernel_rfl) trivial rfl (by kernel_rfl) (⟨by rw [ixK_none (fun j hj => hno j (by rw [kys_len] at hj; omega))], rfl⟩)
set_option maxRecDepth 100000 in
set_option maxHeartbeats 4000000 in
theorem sp_sameInts {β : Bs} (A1 A2 : Option Addr) (c1 c2 : Nat) (d1 d2 : List Int) (hA1 : RowB β A1 (ints d1)) (hA2 : RowB β A2 (ints d2)) (hl : d1.length ≤ 16777216) :
    Spec Try.prog β 29 #[.slice A1 d1.length c1, .slice A2 d2.length c2] [] (fun v l => v = .bool (decide (d1 = d2)) ∧ l = []) := by
 refine Spec.enter Try.func29 rfl Try.ntmps29 (Nat.le_of_ble_eq_true rfl) (fun R => ?_)
 refine Tri.seq (Tri.region ?_)
 refine TriL.segK (k' := 1) (fr' := [(0, .slice A1 (d1.length) (c1)), (1, .slice A2 (d2.length) (c2))]) (obl := []) [o_] [0, 1] (fun _ _ => by kernel_rfl) trivial ?_
 refine TriL.nil (by kernel_rfl) (TriQ.next (Tri.seq (Tri.seq (Tri.region ?_))))
 refine TriL.segK (k' := 5) (fr' := [(0, .slice A1 (d1.length) (c1)), (1, .slice A2 (d2.length) (c2)), (10, .bool (!(decide ((((d1.length : Nat) : Int) : Int) = (((d2.length : Nat) : Int) : Int)))))]) (obl := []) [o_, o_, o_, o_, o_] [0, 1, 10] (fun _ _ => by kernel_rfl) trivial ?_
 refine TriL.nil (by kernel_rfl) (TriQ.next ?_)
 refine Tri.condN (p := (((d1.length : Nat) : Int) : Int) = (((d2.length : Nat) : Int) : Int)) (fun _ => by kernel_rfl) (fun h10 => ?_) (fun h10 => ?_)
 ·
  refine Tri.seq (Tri.region ?_)
  refine TriL.segK (k' := 1) (fr' := [(4, .bool false)]) (obl := []) [o_] [4] (fun _ _ => by kernel_rfl) trivial ?_
  refine TriL.nil (by kernel_rfl) (TriQ.next (Tri.ret (TriQ.passRet ?_)))
  exact TriQ.ret (v := .bool false) (l := []) (obl := []) [] [0] (fun _ => by kernel_rfl) trivial rfl (by kernel_rfl) (⟨by rw [decide_eq_false (fun e => h10 (by rw [e]))], rfl⟩)
 ·
  refine Tri.skip (TriQ.next (Tri.seq (Tri.seq (Tri.region ?_))))
  refine TriL.segK (k' := 1) (fr' := [(0, .slice A1 (d1.length) (c1)), (1, .slice A2 (d2.length) (c2)), (5, .int .i64 0)]) (obl := []) [o_] [0, 1, 5] (fun _ _ => by kernel_rfl) trivial ?_
  refine TriL.nil (by kernel_rfl) (TriQ.next (Tri.block ?_))
  refine Tri.loop (ι := Nat) (fun (i : Nat) => (i ≤ d1.length) ∧ (∀ j, j < i → d1.getD j 0 = d2.getD j 0)) (fun (i : Nat) => d1.length - i) (fun (i : Nat) => [(0, .slice A1 (d1.length) (c1)), (1, .slice A2 (d2.length) (c2)), (5, .int .i64 ↑i)]) (fun (i : Nat) => [.abs R]) 0 (idx := [0, 1, 5]) (pk := [0]) (show (0 ≤ d1.length) ∧ (∀ j, j < 0 → d1.getD j 0 = d2.getD j 0) from ⟨Nat.zero_le _, fun j hj => absurd hj (Nat.not_lt_zero j)⟩) (fun _ => by kernel_rfl) rfl (by kernel_rfl) ?_
  rintro i ⟨hi, hall⟩
  show Tri _ _ _ _ [(0, .slice A1 (d1.length) (c1)), (1, .slice A2 (d2.length) (c2)), (5, .int .i64 ↑i)] [.abs R] _
  refine Tri.seq (Tri.seq (Tri.region ?_))
  refine TriL.segK (k' := 4) (fr' := [(0, .slice A1 (d1.length) (c1)), (1, .slice A2 (d2.length) (c2)), (5, .int .i64 ↑i), (14, .bool (decide ((((i : Nat) : Int) : Int) < (((d1.length : Nat) : Int) : Int))))]) (obl := []) [o_, o_, o_, o_] [0, 1, 5, 14] (fun _ _ => by kernel_rfl) trivial ?_
  refine TriL.nil (by kernel_rfl) (TriQ.next ?_)
  refine Tri.condP (p := (((i : Nat) : Int) : Int) < (((d1.length : Nat) : Int) : Int)) (fun _ => by kernel_rfl) (fun h14 => ?_) (fun h14 => ?_)
  ·
   refine Tri.skip (TriQ.next (Tri.seq (Tri.block (Tri.seq ?_))))
   refine Tri.regionQ (by kernel_rfl) (by kernel_rfl) ?_
   refine TriLQ.seg (k' := 9) (fr' := [(0, .slice A1 (d1.length) (c1)), (1, .slice A2 (d2.length) (c2)), (5, .int .i64 ↑i), (25, .bool (!(decide (((d1.getD i 0) : Int) = ((d2.getD i 0) : Int)))))]) (obl := [(Rd β ⟨(blkOf A2), offOf A2 + i * 1, none⟩ (.int .i64 ((d2.getD i 0)))), ((i : Nat) : Int) = ((i : Nat) : Int), i < d2.length, (⟨(blkOf A2), offOf A2, none⟩ : Addr).spot = none, (A2 : Option Addr) = some ⟨(blkOf A2), offOf A2, none⟩, (Rd β ⟨(blkOf A1), offOf A1 + i * 1, none⟩ (.int .i64 ((d1.getD i 0)))), ((i : Nat) : Int) = ((i : Nat) : Int), i < d1.length, (⟨(blkOf A1), offOf A1, none⟩ : Addr).spot = none, (A1 : Option Addr) = some ⟨(blkOf A1), offOf A1, none⟩]) [o_, o_, ⟨[], some i, none, some ⟨(blkOf A1), offOf A1, none⟩, none⟩, ⟨[.old (.int .i64 ((d1.getD i 0)))], none, none, none, none⟩, o_, o_, ⟨[], some i, none, some ⟨(blkOf A2), offOf A2, none⟩, none⟩, ⟨[.old (.int .i64 ((d2.getD i 0)))], none, none, none, none⟩, o_] [0, 1, 5, 25] (fun _ _ => by kernel_rfl) ⟨IntsR.rd hA2 (by omega), rfl, by omega, rfl, IntsR.hd hA2 (j := i) (by omega), IntsR.rd hA1 (by omega), rfl, by omega, rfl, IntsR.hd hA1 (j := i) (by omega), trivial⟩ ?_
   refine TriLQ.nil (by kernel_rfl) (TriQ.next ?_)
   refine Tri.condN (p := ((d1.getD i 0) : Int) = ((d2.getD i 0) : Int)) (fun _ => by kernel_rfl) (fun h25 => ?_) (fun h25 => ?_)
   ·
    refine Tri.seq (Tri.region ?_)
    refine TriL.segK (k' := 1) (fr' := [(4, .bool false)]) (obl := []) [o_] [4] (fun _ _ => by kernel_rfl) trivial ?_
    refine TriL.nil (by kernel_rfl) (TriQ.next (Tri.ret (TriQ.blockRet (TriQ.passRet (TriQ.passRet (TriQ.blockRet (TriQ.passRet ?_)))))))
    exact TriQ.ret (v := .bool false) (l := []) (obl := []) [] [0] (fun _ => by kernel_rfl) trivial rfl (by kernel_rfl) (⟨by rw [decide_eq_false (fun e => h25 (by rw [e]))], rfl⟩)
   ·
    refine Tri.skip (TriQ.blockNormal (TriQ.next (Tri.region ?_)))
    refine TriL.segK (k' := 3) (fr' := [(0, .slice A1 (d1.length) (c1)), (1, .slice A2 (d2.length) (c2)), (5, .int .i64 ↑(i + 1))]) (obl := [(Value.int .i64 (IntKind.wrap .i64 (((i : Nat) : Int) + 1))) = (.int .i64 ↑(i + 1))]) [o_, ⟨[], none, none, none, some (.int .i64 ↑(i + 1))⟩, o_] [0, 1, 5] (fun _ _ => by kernel_rfl) ⟨wrapEq (by omega) (by omega) (by omega), trivial⟩ ?_
    refine TriL.nil (by kernel_rfl) ?_
    exact TriQ.turn ((i + 1)) (idx := [0, 1, 5]) (pk := [0]) (show (((i + 1)) ≤ d1.length) ∧ (∀ j, j < ((i + 1)) → d1.getD j 0 = d2.getD j 0) from ⟨by omega, fun j hj => by rcases Nat.lt_succ_iff_lt_or_eq.1 hj with h | h; exact hall j h; subst h; exact h25⟩) (by show d1.length - ((i + 1)) < d1.length - i; omega) (fun _ => by kernel_rfl) rfl (by kernel_rfl)
  ·
   refine Tri.exit (TriQ.passExit (TriQ.passExit (TriQ.blockHit (TriQ.next (Tri.seq (Tri.region ?_))))))
   refine TriL.segK (k' := 1) (fr' := [(4, .bool true)]) (obl := []) [o_] [4] (fun _ _ => by kernel_rfl) trivial ?_
   refine TriL.nil (by kernel_rfl) (TriQ.next (Tri.ret ?_))
   exact TriQ.ret (v := .bool true) (l := []) (obl := []) [] [0] (fun _ => by kernel_rfl) trivial rfl (by kernel_rfl) (⟨by rw [decide_eq_true (ext_getD (x := 0) (by omega) (fun j hj => hall j (by omega)))], rfl⟩)
set_option maxRecDepth 100000 in
set_option maxHeartbeats 4000000 in
theorem sp_rfull {β : Bs} (M p : Int) (A B : Option Addr) (c d : Nat) (us : Used Int) (x : Int) (hf : M ≤ (us.length : Int)) :
    Spec Try.prog β 13 #[.agg #[.int .i64 (M), .int .i64 (p), .slice A (us.length) (c), .slice B (us.length) (d)], .int .i64 x] [] (fun v l => v = .tuple #[.agg #[.int .i64 (M), .int .i64 (p), .slice A (us.length) (c), .slice B (us.length) (d)], .int .i64 0, .int .i64 130] ∧ l = []) := by
 refine Spec.enter Try.func13 rfl Try.ntmps13 (Nat.le_of_ble_eq_true rfl) (fun R => ?_)
 refine Tri.seq (Tri.region ?_)
 refine TriL.segN (k' := 1) (fr' := fun b3 => [(1, .int .i64 (x)), (2, .pointer (some ⟨b3, 0, none⟩))]) (hps' := fun b3 => [.abs R, .blk b3 [.int .i64 (M), .int .i64 (p), .slice A (us.length) (c), .slice B (us.length) (d)] 32]) (obl := fun b3 => []) [o_] [1, 2] [0, 1] (fun _ _ => by kernel_rfl) (fun b3 => trivial) (fun b3 => ?_)
 refine TriL.segN (k' := 4) (fr' := fun b4 => [(1, .int .i64 (x)), (2, .pointer (some ⟨b3, 0, none⟩)), (4, .pointer (some ⟨b4, 0, none⟩))]) (hps' := fun b4 => [.abs R, .blk b3 [.int .i64 (M), .int .i64 (p), .slice A (us.length) (c), .slice B (us.length) (d)] 32, .blk b4 [.int .i64 0, .int .i64 0, .slice none (0) (0), .slice none (0) (0)] 32]) (obl := fun b4 => []) [o_, o_, o_] [1, 2, 4] [0, 1, 2] (fun _ _ => by kernel_rfl) (fun b4 => trivial) (fun b4 => ?_)
 refine TriL.nil (by kernel_rfl) (TriQ.next (Tri.seq (Tri.seq (Tri.region ?_))))
 refine TriL.segK (k' := 6) (fr' := [(1, .int .i64 (x)), (2, .pointer (some ⟨b3, 0, none⟩)), (4, .pointer (some ⟨b4, 0, none⟩)), (16, .bool (decide ((((us.length : Nat) : Int) : Int) ≥ (M : Int))))]) (obl := [b3 = b3, b3 = b3]) [o_, ⟨[.at 1], none, none, none, none⟩, o_, o_, ⟨[.at 1], none, none, none, none⟩, o_] [1, 2, 4, 16] (fun _ _ => by kernel_rfl) ⟨rfl, rfl, trivial⟩ ?_
 refine TriL.nil (by kernel_rfl) (TriQ.next ?_)
 refine Tri.condP (p := (((us.length : Nat) : Int) : Int) ≥ (M : Int)) (fun _ => by kernel_rfl) (fun h16 => ?_) (fun h16 => ?_)
 ·
  refine Tri.seq (Tri.region ?_)
  refine TriL.seg (k' := 4) (fr' := [(4, .pointer (some ⟨b4, 0, none⟩)), (5, .int .i64 0), (6, .int .i64 130)]) (hps' := [.abs R, .blk b3 [.int .i64 (M), .int .i64 (p), .slice A (us.length) (c), .slice B (us.length) (d)] 32, .blk b4 [.int .i64 (M), .int .i64 (p), .slice A (us.length) (c), .slice B (us.length) (d)] 32]) (obl := [b4 = b4, b4 = b4, b4 = b4, b4 = b4, b3 = b3, b3 = b3, b3 = b3, b3 = b3]) [⟨[.at 1, .at 1, .at 1, .at 1], none, none, none, none⟩, ⟨[.at 2, .at 2, .at 2, .at 2], none, none, none, none⟩, o_, o_] [4, 5, 6] [0, 1, 2] (fun _ _ => by kernel_rfl) ⟨rfl, rfl, rfl, rfl, rfl, rfl, rfl, rfl, trivial⟩ ?_
  refine TriL.nil (by kernel_rfl) (TriQ.next (Tri.ret (TriQ.passRet ?_)))
  exact TriQ.ret (v := .tuple #[.agg #[.int .i64 (M), .int .i64 (p), .slice A (us.length) (c), .slice B (us.length) (d)], .int .i64 0, .int .i64 130]) (l := []) (obl := [b4 = b4, b4 = b4, b4 = b4, b4 = b4]) [.at 2, .at 2, .at 2, .at 2] [0] (fun _ => by kernel_rfl) ⟨rfl, rfl, rfl, rfl, trivial⟩ rfl (by kernel_rfl) (⟨rfl, rfl⟩)
 ·
  exact absurd h16 (by omega)
set_option maxRecDepth 100000 in
set_option maxHeartbeats 4000000 in
theorem sp_rput {β : Bs} (M p : Int) (A B : Option Addr) (c d : Nat) (us : Used Int) (hA : RowB β A (ints (keys us))) (hB : RowB β B (ints (vls us))) (hl : us.length ≤ 16777216) (hr : TabM.Rising (keys us)) (hp : ∀ z ∈ keys us, 1 ≤ z) (x : Int) (hf : (us.length : Int) < M) :
    Spec Try.prog β 13 #[.agg #[.int .i64 (M), .int .i64 (p), .slice A (us.length) (c), .slice B (us.length) (d)], .int .i64 x] [] (fun v l => ∃ A' c' B' d', v = .tuple #[.agg #[.int .i64 (M), .int .i64 (max p ((us.length : Int) + 1)), .slice A' (ins (TabM.least us) x us).length c', .slice B' (ins (TabM.least us) x us).length d'], .int .i64 (TabM.least us), .int .i64 0] ∧ l = [.abs (RowA 3 1 A' (ins (TabM.least us) x us).length c' (ints (keys (ins (TabM.least us) x us)))), .abs (RowA 3 1 B' (ins (TabM.least us) x us).length d' (ints (vls (ins (TabM.least us) x us))))]) := by
 have hls := least_spec hr hp
 have hle := least_le us
 refine Spec.enter Try.func13 rfl Try.ntmps13 (Nat.le_of_ble_eq_true rfl) (fun R => ?_)
 refine Tri.seq (Tri.region ?_)
 refine TriL.segN (k' := 1) (fr' := fun b5 => [(1, .int .i64 (x)), (2, .pointer (some ⟨b5, 0, none⟩))]) (hps' := fun b5 => [.abs R, .blk b5 [.int .i64 (M), .int .i64 (p), .slice A (us.length) (c), .slice B (us.length) (d)] 32]) (obl := fun b5 => []) [o_] [1, 2] [0, 1] (fun _ _ => by kernel_rfl) (fun b5 => trivial) (fun b5 => ?_)
 refine TriL.segN (k' := 4) (fr' := fun b6 => [(1, .int .i64 (x)), (2, .pointer (some ⟨b5, 0, none⟩)), (4, .pointer (some ⟨b6, 0, none⟩))]) (hps' := fun b6 => [.abs R, .blk b5 [.int .i64 (M), .int .i64 (p), .slice A (us.length) (c), .slice B (us.length) (d)] 32, .blk b6 [.int .i64 0, .int .i64 0, .slice none (0) (0), .slice none (0) (0)] 32]) (obl := fun b6 => []) [o_, o_, o_] [1, 2, 4] [0, 1, 2] (fun _ _ => by kernel_rfl) (fun b6 => trivial) (fun b6 => ?_)
 refine TriL.nil (by kernel_rfl) (TriQ.next (Tri.seq (Tri.seq (Tri.region ?_))))
 refine TriL.segK (k' := 6) (fr' := [(1, .int .i64 (x)), (2, .pointer (some ⟨b5, 0, none⟩)), (4, .pointer (some ⟨b6, 0, none⟩)), (16, .bool (decide ((((us.length : Nat) : Int) : Int) ≥ (M : Int))))]) (obl := [b5 = b5, b5 = b5]) [o_, ⟨[.at 1], none, none, none, none⟩, o_, o_, ⟨[.at 1], none, none, none, none⟩, o_] [1, 2, 4, 16] (fun _ _ => by kernel_rfl) ⟨rfl, rfl, trivial⟩ ?_
 refine TriL.nil (by kernel_rfl) (TriQ.next ?_)
 refine Tri.condP (p := (((us.length : Nat) : Int) : Int) ≥ (M : Int)) (fun _ => by kernel_rfl) (fun h16 => ?_) (fun h16 => ?_)
 ·
  exact absurd h16 (by omega)
 ·
  refine Tri.skip (TriQ.next (Tri.seq (Tri.region ?_)))
  refine TriL.segK (k' := 1) (fr' := [(1, .int .i64 (x)), (2, .pointer (some ⟨b5, 0, none⟩)), (4, .pointer (some ⟨b6, 0, none⟩)), (7, .int .i64 1)]) (obl := []) [o_] [1, 2, 4, 7] (fun _ _ => by kernel_rfl) trivial ?_
  refine TriL.nil (by kernel_rfl) (TriQ.next (Tri.seq (Tri.block ?_)))
  refine Tri.loop (ι := Int) (fun (g : Int) => (1 ≤ g) ∧ (g ≤ TabM.least us)) (fun (g : Int) => (TabM.least us + 1 - g).toNat) (fun (g : Int) => [(1, .int .i64 (x)), (2, .pointer (some ⟨b5, 0, none⟩)), (4, .pointer (some ⟨b6, 0, none⟩)), (7, .int .i64 (g))]) (fun (g : Int) => [.abs R, .blk b5 [.int .i64 (M), .int .i64 (p), .slice A (us.length) (c), .slice B (us.length) (d)] 32, .blk b6 [.int .i64 0, .int .i64 0, .slice none (0) (0), .slice none (0) (0)] 32]) 1 (idx := [1, 2, 4, 7]) (pk := [0, 1, 2]) (show (1 ≤ 1) ∧ (1 ≤ TabM.least us) from ⟨by omega, hls.1⟩) (fun _ => by kernel_rfl) rfl (by kernel_rfl) ?_
  rintro g ⟨hg1, hg2⟩
  show Tri _ _ _ _ [(1, .int .i64 (x)), (2, .pointer (some ⟨b5, 0, none⟩)), (4, .pointer (some ⟨b6, 0, none⟩)), (7, .int .i64 (g))] [.abs R, .blk b5 [.int .i64 (M), .int .i64 (p), .slice A (us.length) (c), .slice B (us.length) (d)] 32, .blk b6 [.int .i64 0, .int .i64 0, .slice none (0) (0), .slice none (0) (0)] 32] _
  refine Tri.seq (Tri.seq (Tri.region ?_))
  refine TriL.segK (k' := 2) (fr' := [(1, .int .i64 (x)), (2, .pointer (some ⟨b5, 0, none⟩)), (4, .pointer (some ⟨b6, 0, none⟩)), (7, .int .i64 (g)), (18, .agg #[.int .i64 (M), .int .i64 (p), .slice A (us.length) (c), .slice B (us.length) (d)]), (19, .int .i64 (g))]) (obl := [b5 = b5, b5 = b5, b5 = b5, b5 = b5]) [⟨[.at 1, .at 1, .at 1, .at 1], none, none, none, none⟩, o_] [1, 2, 4, 7, 18, 19] (fun _ _ => by kernel_rfl) ⟨rfl, rfl, rfl, rfl, trivial⟩ ?_
  refine TriL.call (f := 18) (args := #[.agg #[.int .i64 (M), .int .i64 (p), .slice A (us.length) (c), .slice B (us.length) (d)], .int .i64 (g)]) (d := (some 20)) (pre := []) (R := [.abs R, .blk b5 [.int .i64 (M), .int .i64 (p), .slice A (us.length) (c), .slice B (us.length) (d)] 32, .blk b6 [.int .i64 0, .int .i64 0, .slice none (0) (0), .slice none (0) (0)] 32]) (pk := [0, 1, 2]) (fun _ => by kernel_rfl) (sp_rat M p A B c d us hA hl g) rfl (by kernel_rfl) ?_
  rintro _ _ ⟨rfl, rfl⟩
  refine TriL.segK (k' := 4) (fr' := [(1, .int .i64 (x)), (2, .pointer (some ⟨b5, 0, none⟩)), (4, .pointer (some ⟨b6, 0, none⟩)), (7, .int .i64 (g)), (21, .bool (decide (((ixK (keys us) g) : Int) ≥ (0 : Int))))]) (obl := []) [o_] [1, 2, 4, 7, 21] (fun _ _ => by kernel_rfl) trivial ?_
  refine TriL.nil (by kernel_rfl) (TriQ.next ?_)
  refine Tri.condP (p := ((ixK (keys us) g) : Int) ≥ (0 : Int)) (fun _ => by kernel_rfl) (fun h21 => ?_) (fun h21 => ?_)
  ·
   refine Tri.skip (TriQ.next (Tri.block (Tri.region ?_)))
   refine TriL.segK (k' := 3) (fr' := [(1, .int .i64 (x)), (2, .pointer (some ⟨b5, 0, none⟩)), (4, .pointer (some ⟨b6, 0, none⟩)), (7, .int .i64 (g + 1))]) (obl := [(Value.int .i64 (IntKind.wrap .i64 (g + 1))) = (.int .i64 (g + 1))]) [o_, ⟨[], none, none, none, some (.int .i64 (g + 1))⟩, o_] [1, 2, 4, 7] (fun _ _ => by kernel_rfl) ⟨wrapEq (by omega) (by omega) (by omega), trivial⟩ ?_
   refine TriL.nil (by kernel_rfl) (TriQ.blockNormal ?_)
   exact TriQ.turn ((g + 1)) (idx := [1, 2, 4, 7]) (pk := [0, 1, 2]) (show (1 ≤ ((g + 1))) ∧ (((g + 1)) ≤ TabM.least us) from ⟨by omega, by rcases Int.lt_or_le g (TabM.least us) with h0 | h0; omega; exact absurd (show TabM.least us ∈ keys us by rw [show TabM.least us = g by omega]; exact ixK_pos.1 h21) hls.2.1⟩) (by show (TabM.least us + 1 - ((g + 1))).toNat < (TabM.least us + 1 - g).toNat; omega) (fun _ => by kernel_rfl) rfl (by kernel_rfl)
  ·
   refine Tri.exit (TriQ.passExit (TriQ.passExit (TriQ.blockHit (TriQ.next (Tri.seq (Tri.region ?_))))))
   refine TriL.slot 7 (.int .i64 (g)) (.int .i64 ((TabM.least us))) (fun _ => by kernel_rfl) (intEq (by rcases Int.lt_or_le g (TabM.least us) with h0 | h0; exact absurd (ixK_pos.2 (hls.2.2 g (by omega) h0)) h21; omega)) ?_
   refine TriL.segN (k' := 7) (fr' := fun b7 => [(1, .int .i64 (x)), (2, .pointer (some ⟨b5, 0, none⟩)), (4, .pointer (some ⟨b6, 0, none⟩)), (7, .int .i64 ((TabM.least us))), (8, .pointer (some ⟨b7, 0, none⟩))]) (hps' := fun b7 => [.abs R, .blk b5 [.int .i64 (M), .int .i64 (p), .slice A (us.length) (c), .slice B (us.length) (d)] 32, .blk b6 [.int .i64 0, .int .i64 0, .slice none (0) (0), .slice none (0) (0)] 32, .blk b7 [.int .i64 (M), .int .i64 (p), .slice none (0) (0), .slice none (0) (0)] 32]) (obl := fun b7 => [b7 = b7, b7 = b7, b7 = b7, b7 = b7, b5 = b5, b5 = b5]) [o_, ⟨[.at 1], none, none, none, none⟩, o_, ⟨[.at 1], none, none, none, none⟩, o_, o_, ⟨[.at 3, .at 3, .at 3, .at 3], none, none, none, none⟩] [1, 2, 4, 7, 8] [0, 1, 2, 3] (fun _ _ => by kernel_rfl) (fun b7 => ⟨rfl, rfl, rfl, rfl, rfl, rfl, trivial⟩) (fun b7 => ?_)
   refine TriL.nil (by kernel_rfl) (TriQ.next (Tri.seq (Tri.region ?_)))
   refine TriL.mem (fun w hS => (hS.rowNil (e := 3) (size := 1)).rowNil (e := 3) (size := 1)) ?_
   refine TriL.segK (k' := 1) (fr' := [(1, .int .i64 (x)), (2, .pointer (some ⟨b5, 0, none⟩)), (4, .pointer (some ⟨b6, 0, none⟩)), (7, .int .i64 ((TabM.least us))), (8, .pointer (some ⟨b7, 0, none⟩)), (9, .bool false)]) (obl := []) [o_] [1, 2, 4, 7, 8, 9] (fun _ _ => by kernel_rfl) trivial ?_
   refine TriL.nil (by kernel_rfl) (TriQ.next (Tri.seq (Tri.seq (Tri.region ?_))))
   refine TriL.segK (k' := 1) (fr' := [(1, .int .i64 (x)), (2, .pointer (some ⟨b5, 0, none⟩)), (4, .pointer (some ⟨b6, 0, none⟩)), (7, .int .i64 ((TabM.least us))), (8, .pointer (some ⟨b7, 0, none⟩)), (9, .bool false), (10, .int .i64 0)]) (obl := []) [o_] [1, 2, 4, 7, 8, 9, 10] (fun _ _ => by kernel_rfl) trivial ?_
   refine TriL.nil (by kernel_rfl) (TriQ.next (Tri.block ?_))
   refine Tri.loop (ι := Nat × Bool × (Used Int) × (Option Addr) × Nat × (Option Addr) × Nat) (fun ((i, dn, q, Ah, ch, Av, cv) : Nat × Bool × (Used Int) × (Option Addr) × Nat × (Option Addr) × Nat) => (i ≤ us.length) ∧ (PutAt us (TabM.least us) x i dn q)) (fun ((i, dn, q, Ah, ch, Av, cv) : Nat × Bool × (Used Int) × (Option Addr) × Nat × (Option Addr) × Nat) => us.length - i) (fun ((i, dn, q, Ah, ch, Av, cv) : Nat × Bool × (Used Int) × (Option Addr) × Nat × (Option Addr) × Nat) => [(1, .int .i64 (x)), (2, .pointer (some ⟨b5, 0, none⟩)), (4, .pointer (some ⟨b6, 0, none⟩)), (7, .int .i64 ((TabM.least us))), (8, .pointer (some ⟨b7, 0, none⟩)), (9, .bool dn), (10, .int .i64 ↑i)]) (fun ((i, dn, q, Ah, ch, Av, cv) : Nat × Bool × (Used Int) × (Option Addr) × Nat × (Option Addr) × Nat) => [.blk b5 [.int .i64 (M), .int .i64 (p), .slice A (us.length) (c), .slice B (us.length) (d)] 32, .blk b7 [.int .i64 (M), .int .i64 (p), .slice Ah (q.length) (ch), .slice Av (q.length) (cv)] 32, .abs (RowA 3 1 Ah q.length ch (ints (keys q))), .abs (RowA 3 1 Av q.length cv (ints (vls q))), .blk b6 [.int .i64 0, .int .i64 0, .slice none (0) (0), .slice none (0) (0)] 32, .abs R]) (0, false, [], none, 0, none, 0) (idx := [1, 2, 4, 7, 8, 9, 10]) (pk := [1, 3, 4, 5, 2, 0]) (show (0 ≤ us.length) ∧ (PutAt us (TabM.least us) x 0 false ([])) from ⟨Nat.zero_le _, PutAt.zero⟩) (fun _ => by kernel_rfl) rfl (by kernel_rfl) ?_
   rintro ⟨i, dn, q, Ah, ch, Av, cv⟩ ⟨hi, hpt⟩
   show Tri _ _ _ _ [(1, .int .i64 (x)), (2, .pointer (some ⟨b5, 0, none⟩)), (4, .pointer (some ⟨b6, 0, none⟩)), (7, .int .i64 ((TabM.least us))), (8, .pointer (some ⟨b7, 0, none⟩)), (9, .bool dn), (10, .int .i64 ↑i)] [.blk b5 [.int .i64 (M), .int .i64 (p), .slice A (us.length) (c), .slice B (us.length) (d)] 32, .blk b7 [.int .i64 (M), .int .i64 (p), .slice Ah (q.length) (ch), .slice Av (q.length) (cv)] 32, .abs (RowA 3 1 Ah q.length ch (ints (keys q))), .abs (RowA 3 1 Av q.length cv (ints (vls q))), .blk b6 [.int .i64 0, .int .i64 0, .slice none (0) (0), .slice none (0) (0)] 32, .abs R] _
   refine Tri.seq (Tri.seq (Tri.region ?_))
   refine TriL.segK (k' := 5) (fr' := [(1, .int .i64 (x)), (2, .pointer (some ⟨b5, 0, none⟩)), (4, .pointer (some ⟨b6, 0, none⟩)), (7, .int .i64 ((TabM.least us))), (8, .pointer (some ⟨b7, 0, none⟩)), (9, .bool dn), (10, .int .i64 ↑i), (33, .bool (decide ((((i : Nat) : Int) : Int) < (((us.length : Nat) : Int) : Int))))]) (obl := [b5 = b5]) [o_, o_, ⟨[.at 0], none, none, none, none⟩, o_, o_] [1, 2, 4, 7, 8, 9, 10, 33] (fun _ _ => by kernel_rfl) ⟨rfl, trivial⟩ ?_
   refine TriL.nil (by kernel_rfl) (TriQ.next ?_)
   refine Tri.condP (p := (((i : Nat) : Int) : Int) < (((us.length : Nat) : Int) : Int)) (fun _ => by kernel_rfl) (fun h33 => ?_) (fun h33 => ?_)
   ·
    refine Tri.skip (TriQ.next (Tri.seq (Tri.block (Tri.seq (Tri.seq (Tri.region ?_))))))
    have hpi := keys_pr (us := us) (i := i) (by omega)
    have hlq : q.length ≤ i + 1 := by have := hpt.len; cases dn <;> simp at this <;> omega
    refine TriL.segK (k' := 8) (fr' := [(1, .int .i64 (x)), (2, .pointer (some ⟨b5, 0, none⟩)), (4, .pointer (some ⟨b6, 0, none⟩)), (7, .int .i64 ((TabM.least us))), (8, .pointer (some ⟨b7, 0, none⟩)), (9, .bool dn), (10, .int .i64 ↑i), (43, .bool (decide ((((keys us).getD i 0) : Int) > ((TabM.least us) : Int))))]) (obl := [(Rd β ⟨(blkOf A), offOf A + i * 1, none⟩ (.int .i64 (((keys us).getD i 0)))), ((i : Nat) : Int) = ((i : Nat) : Int), i < us.length, (⟨(blkOf A), offOf A, none⟩ : Addr).spot = none, (A : Option Addr) = some ⟨(blkOf A), offOf A, none⟩, b5 = b5]) [o_, ⟨[.at 0], none, none, none, none⟩, o_, ⟨[], some i, none, some ⟨(blkOf A), offOf A, none⟩, none⟩, ⟨[.old (.int .i64 (((keys us).getD i 0)))], none, none, none, none⟩, o_, o_, o_] [1, 2, 4, 7, 8, 9, 10, 43] (fun _ _ => by kernel_rfl) ⟨IntsR.rd hA (j := i) (by rw [kys_len]; omega), rfl, by omega, rfl, IntsR.hd hA (j := i) (by rw [kys_len]; omega), rfl, trivial⟩ ?_
    refine TriL.slotP 43 ((((keys us).getD i 0) : Int) > ((TabM.least us) : Int)) (fun _ => by kernel_rfl) (fun h43 => ?_) (fun h43 => ?_)
    ·
     refine TriL.segK (k' := 11) (fr' := [(1, .int .i64 (x)), (2, .pointer (some ⟨b5, 0, none⟩)), (4, .pointer (some ⟨b6, 0, none⟩)), (7, .int .i64 ((TabM.least us))), (8, .pointer (some ⟨b7, 0, none⟩)), (9, .bool dn), (10, .int .i64 ↑i), (46, .bool (!dn))]) (obl := []) [o_, o_, o_] [1, 2, 4, 7, 8, 9, 10, 46] (fun _ _ => by kernel_rfl) trivial ?_
     refine TriL.nil (by kernel_rfl) (TriQ.next ?_)
     refine Tri.cond (b := (!dn)) (fun _ => by kernel_rfl) (fun h46 => ?_) (fun h46 => ?_)
     ·
      refine Tri.seq (Tri.region ?_)
      refine TriL.segN (k' := 4) (fr' := fun b8 => [(1, .int .i64 (x)), (2, .pointer (some ⟨b5, 0, none⟩)), (4, .pointer (some ⟨b6, 0, none⟩)), (7, .int .i64 ((TabM.least us))), (8, .pointer (some ⟨b7, 0, none⟩)), (10, .int .i64 ↑i), (48, .slice Ah (q.length) (ch)), (50, .slice (some ⟨b8, 0, none⟩) (1) (1))]) (hps' := fun b8 => [.blk b5 [.int .i64 (M), .int .i64 (p), .slice A (us.length) (c), .slice B (us.length) (d)] 32, .blk b7 [.int .i64 (M), .int .i64 (p), .slice Ah (q.length) (ch), .slice Av (q.length) (cv)] 32, .abs (RowA 3 1 Ah q.length ch (ints (keys q))), .abs (RowA 3 1 Av q.length cv (ints (vls q))), .blk b6 [.int .i64 0, .int .i64 0, .slice none (0) (0), .slice none (0) (0)] 32, .abs R, .blk b8 [.int .i64 ((TabM.least us))] 3]) (obl := fun b8 => [b7 = b7]) [o_, ⟨[.at 1], none, none, none, none⟩, o_, o_] [1, 2, 4, 7, 8, 10, 48, 50] [0, 1, 2, 3, 4, 5, 6] (fun _ _ => by kernel_rfl) (fun b8 => ⟨rfl, trivial⟩) (fun b8 => ?_)
      refine TriL.append 2 (d := (some 51)) (t := 30) (e := 3) (z := .int .i64 0) (size := 1) (bytes := 8) (n := q.length) (cap := ch) (A := Ah) (xs := (ints (keys q))) (s := (.tmp 48)) (x := (.tmp 50)) (ats := #[30, 30]) (A' := some ⟨b8, 0, none⟩) (m := 1) (c' := 1) (news := [.int .i64 ((TabM.least us))]) (fun _ => by kernel_rfl) rfl (by kernel_rfl) (fun _ => by kernel_rfl) (fun _ => by kernel_rfl) Try.underlying30 (by kernel_rfl) rfl (by decide) (by simp) (by simp [Value.oneCell']) (src_blk (j := 6) rfl) (by unfold maxLen; have := hlq; have := len_snoc q (TabM.least us, x); omega) (by have := hlq; have := len_snoc q (TabM.least us, x); omega) (fun A9 c10 => ?_)
      refine TriL.partEq 2 (p := .abs (RowA 3 1 A9 (q.length + 1) c10 ((ints (keys q)) ++ [.int .i64 ((TabM.least us))]))) (p' := .abs (RowA 3 1 A9 ((q ++ [(TabM.least us, x)]).length) c10 (ints (keys (q ++ [(TabM.least us, x)]))))) (by kernel_rfl) (rowK (x := (TabM.least us, x)) rfl) ?_
      refine TriL.slot 51 (.slice A9 (q.length + 1) (c10)) (.slice A9 ((q ++ [(TabM.least us, x)]).length) (c10)) (fun _ => by kernel_rfl) (by rw [len_snoc q (TabM.least us, x)]) ?_
      refine TriL.seg (k' := 7) (fr' := [(1, .int .i64 (x)), (2, .pointer (some ⟨b5, 0, none⟩)), (4, .pointer (some ⟨b6, 0, none⟩)), (7, .int .i64 ((TabM.least us))), (8, .pointer (some ⟨b7, 0, none⟩)), (10, .int .i64 ↑i)]) (hps' := [.blk b5 [.int .i64 (M), .int .i64 (p), .slice A (us.length) (c), .slice B (us.length) (d)] 32, .blk b7 [.int .i64 (M), .int .i64 (p), .slice A9 ((q ++ [(TabM.least us, x)]).length) (c10), .slice Av (q.length) (cv)] 32, .abs (RowA 3 1 A9 ((q ++ [(TabM.least us, x)]).length) c10 (ints (keys (q ++ [(TabM.least us, x)])))), .abs (RowA 3 1 Av q.length cv (ints (vls q))), .blk b6 [.int .i64 0, .int .i64 0, .slice none (0) (0), .slice none (0) (0)] 32, .abs R, .blk b8 [.int .i64 ((TabM.least us))] 3]) (obl := [b7 = b7]) [o_, ⟨[.at 1], none, none, none, none⟩] [1, 2, 4, 7, 8, 10] [0, 1, 2, 3, 4, 5, 6] (fun _ _ => by kernel_rfl) ⟨rfl, trivial⟩ ?_
      refine TriL.nil (by kernel_rfl) (TriQ.next (Tri.seq (Tri.region ?_)))
      refine TriL.segN (k' := 4) (fr' := fun b11 => [(1, .int .i64 (x)), (2, .pointer (some ⟨b5, 0, none⟩)), (4, .pointer (some ⟨b6, 0, none⟩)), (7, .int .i64 ((TabM.least us))), (8, .pointer (some ⟨b7, 0, none⟩)), (10, .int .i64 ↑i), (54, .slice Av (q.length) (cv)), (56, .slice (some ⟨b11, 0, none⟩) (1) (1))]) (hps' := fun b11 => [.blk b5 [.int .i64 (M), .int .i64 (p), .slice A (us.length) (c), .slice B (us.length) (d)] 32, .blk b7 [.int .i64 (M), .int .i64 (p), .slice A9 ((q ++ [(TabM.least us, x)]).length) (c10), .slice Av (q.length) (cv)] 32, .abs (RowA 3 1 A9 ((q ++ [(TabM.least us, x)]).length) c10 (ints (keys (q ++ [(TabM.least us, x)])))), .abs (RowA 3 1 Av q.length cv (ints (vls q))), .blk b6 [.int .i64 0, .int .i64 0, .slice none (0) (0), .slice none (0) (0)] 32, .abs R, .blk b8 [.int .i64 ((TabM.least us))] 3, .blk b11 [.int .i64 (x)] 3]) (obl := fun b11 => [b7 = b7]) [o_, ⟨[.at 1], none, none, none, none⟩, o_, o_] [1, 2, 4, 7, 8, 10, 54, 56] [0, 1, 2, 3, 4, 5, 6, 7] (fun _ _ => by kernel_rfl) (fun b11 => ⟨rfl, trivial⟩) (fun b11 => ?_)
      refine TriL.append 3 (d := (some 57)) (t := 30) (e := 3) (z := .int .i64 0) (size := 1) (bytes := 8) (n := q.length) (cap := cv) (A := Av) (xs := (ints (vls q))) (s := (.tmp 54)) (x := (.tmp 56)) (ats := #[30, 30]) (A' := some ⟨b11, 0, none⟩) (m := 1) (c' := 1) (news := [.int .i64 (x)]) (fun _ => by kernel_rfl) rfl (by kernel_rfl) (fun _ => by kernel_rfl) (fun _ => by kernel_rfl) Try.underlying30 (by kernel_rfl) rfl (by decide) (by simp) (by simp [Value.oneCell']) (src_blk (j := 7) rfl) (by unfold maxLen; have := hlq; have := len_snoc q (TabM.least us, x); omega) (by have := hlq; have := len_snoc q (TabM.least us, x); omega) (fun A12 c13 => ?_)
      refine TriL.partEq 3 (p := .abs (RowA 3 1 A12 (q.length + 1) c13 ((ints (vls q)) ++ [.int .i64 (x)]))) (p' := .abs (RowA 3 1 A12 ((q ++ [(TabM.least us, x)]).length) c13 (ints (vls (q ++ [(TabM.least us, x)]))))) (by kernel_rfl) (rowV (x := (TabM.least us, x)) rfl) ?_
      refine TriL.slot 57 (.slice A12 (q.length + 1) (c13)) (.slice A12 ((q ++ [(TabM.least us, x)]).length) (c13)) (fun _ => by kernel_rfl) (by rw [len_snoc q (TabM.least us, x)]) ?_
      refine TriL.seg (k' := 7) (fr' := [(1, .int .i64 (x)), (2, .pointer (some ⟨b5, 0, none⟩)), (4, .pointer (some ⟨b6, 0, none⟩)), (7, .int .i64 ((TabM.least us))), (8, .pointer (some ⟨b7, 0, none⟩)), (10, .int .i64 ↑i)]) (hps' := [.blk b5 [.int .i64 (M), .int .i64 (p), .slice A (us.length) (c), .slice B (us.length) (d)] 32, .blk b7 [.int .i64 (M), .int .i64 (p), .slice A9 ((q ++ [(TabM.least us, x)]).length) (c10), .slice A12 ((q ++ [(TabM.least us, x)]).length) (c13)] 32, .abs (RowA 3 1 A9 ((q ++ [(TabM.least us, x)]).length) c10 (ints (keys (q ++ [(TabM.least us, x)])))), .abs (RowA 3 1 A12 ((q ++ [(TabM.least us, x)]).length) c13 (ints (vls (q ++ [(TabM.least us, x)])))), .blk b6 [.int .i64 0, .int .i64 0, .slice none (0) (0), .slice none (0) (0)] 32, .abs R, .blk b8 [.int .i64 ((TabM.least us))] 3, .blk b11 [.int .i64 (x)] 3]) (obl := [b7 = b7]) [o_, ⟨[.at 1], none, none, none, none⟩] [1, 2, 4, 7, 8, 10] [0, 1, 2, 3, 4, 5, 6, 7] (fun _ _ => by kernel_rfl) ⟨rfl, trivial⟩ ?_
      refine TriL.nil (by kernel_rfl) (TriQ.next (Tri.region ?_))
      refine TriL.segK (k' := 1) (fr' := [(1, .int .i64 (x)), (2, .pointer (some ⟨b5, 0, none⟩)), (4, .pointer (some ⟨b6, 0, none⟩)), (7, .int .i64 ((TabM.least us))), (8, .pointer (some ⟨b7, 0, none⟩)), (9, .bool true), (10, .int .i64 ↑i)]) (obl := []) [o_] [1, 2, 4, 7, 8, 9, 10] (fun _ _ => by kernel_rfl) trivial ?_
      refine TriL.nil (by kernel_rfl) (TriQ.next (Tri.seq ?_))
      refine Tri.regionMix (S := [.blk b5 [.int .i64 (M), .int .i64 (p), .slice A (us.length) (c), .slice B (us.length) (d)] 32, .blk b7 [.int .i64 (M), .int .i64 (p), .slice A9 ((q ++ [(TabM.least us, x)]).length) (c10), .slice A12 ((q ++ [(TabM.least us, x)]).length) (c13)] 32, .blk b6 [.int .i64 0, .int .i64 0, .slice none (0) (0), .slice none (0) (0)] 32, .abs R, .blk b8 [.int .i64 ((TabM.least us))] 3, .blk b11 [.int .i64 (x)] 3]) [0, 1, 2, 3, 4, 5, 6, 7, 8, 9, 10] 7 [0, 1, 4, 5, 6, 7] (by kernel_rfl) (by kernel_rfl) rfl (by kernel_rfl) ?_
      refine TriM.reads (r := 0) (l := [7, 8, 9, 10]) (fr' := [(1, .int .i64 (x)), (2, .pointer (some ⟨b5, 0, none⟩)), (4, .pointer (some ⟨b6, 0, none⟩)), (7, .int .i64 ((TabM.least us))), (8, .pointer (some ⟨b7, 0, none⟩)), (9, .bool true), (10, .int .i64 ↑i), (60, .slice A9 ((q ++ [(TabM.least us, x)]).length) (c10)), (65, .int .i64 (((keys us).getD i 0)))]) (obl := [(Rd β ⟨(blkOf A), offOf A + i * 1, none⟩ (.int .i64 (((keys us).getD i 0)))), ((i : Nat) : Int) = ((i : Nat) : Int), i < us.length, (⟨(blkOf A), offOf A, none⟩ : Addr).spot = none, (A : Option Addr) = some ⟨(blkOf A), offOf A, none⟩, b5 = b5, b7 = b7]) [0, 1, 2, 3, 4, 5, 6] [o_, ⟨[.at 1], none, none, none, none⟩, o_, ⟨[.at 0], none, none, none, none⟩, o_, ⟨[], some i, none, some ⟨(blkOf A), offOf A, none⟩, none⟩, ⟨[.old (.int .i64 (((keys us).getD i 0)))], none, none, none, none⟩] [1, 2, 4, 7, 8, 9, 10, 60, 65] (fun _ => by kernel_rfl) ⟨IntsR.rd hA (j := i) (by rw [kys_len]; omega), rfl, by omega, rfl, IntsR.hd hA (j := i) (by rw [kys_len]; omega), rfl, rfl, trivial⟩ rfl rfl ?_
      refine TriM.cut (ι := Nat) (fr' := fun (b14 : Nat) => [(1, .int .i64 (x)), (2, .pointer (some ⟨b5, 0, none⟩)), (4, .pointer (some ⟨b6, 0, none⟩)), (7, .int .i64 ((TabM.least us))), (8, .pointer (some ⟨b7, 0, none⟩)), (9, .bool true), (10, .int .i64 ↑i), (60, .slice A9 ((q ++ [(TabM.least us, x)]).length) (c10)), (66, .slice (some ⟨b14, 0, none⟩) (1) (1))]) (hp' := fun (b14 : Nat) => [.blk b5 [.int .i64 (M), .int .i64 (p), .slice A (us.length) (c), .slice B (us.length) (d)] 32, .blk b7 [.int .i64 (M), .int .i64 (p), .slice A9 ((q ++ [(TabM.least us, x)]).length) (c10), .slice A12 ((q ++ [(TabM.least us, x)]).length) (c13)] 32, .abs (RowA 3 1 A9 ((q ++ [(TabM.least us, x)]).length) c10 (ints (keys (q ++ [(TabM.least us, x)])))), .abs (RowA 3 1 A12 ((q ++ [(TabM.least us, x)]).length) c13 (ints (vls (q ++ [(TabM.least us, x)])))), .blk b6 [.int .i64 0, .int .i64 0, .slice none (0) (0), .slice none (0) (0)] 32, .abs R, .blk b8 [.int .i64 ((TabM.least us))] 3, .blk b11 [.int .i64 (x)] 3, .blk b14 [.int .i64 (((keys us).getD i 0))] 3]) [0, 1, 4, 5, 6, 7] rfl rfl ?_ rfl (fun _ => by kernel_rfl) ?_
      ·
       refine TriL.segN (k' := 1) (fr' := fun b14 => [(1, .int .i64 (x)), (2, .pointer (some ⟨b5, 0, none⟩)), (4, .pointer (some ⟨b6, 0, none⟩)), (7, .int .i64 ((TabM.least us))), (8, .pointer (some ⟨b7, 0, none⟩)), (9, .bool true), (10, .int .i64 ↑i), (60, .slice A9 ((q ++ [(TabM.least us, x)]).length) (c10)), (66, .slice (some ⟨b14, 0, none⟩) (1) (1))]) (hps' := fun b14 => [.blk b5 [.int .i64 (M), .int .i64 (p), .slice A (us.length) (c), .slice B (us.length) (d)] 32, .blk b7 [.int .i64 (M), .int .i64 (p), .slice A9 ((q ++ [(TabM.least us, x)]).length) (c10), .slice A12 ((q ++ [(TabM.least us, x)]).length) (c13)] 32, .abs (RowA 3 1 A9 ((q ++ [(TabM.least us, x)]).length) c10 (ints (keys (q ++ [(TabM.least us, x)])))), .abs (RowA 3 1 A12 ((q ++ [(TabM.least us, x)]).length) c13 (ints (vls (q ++ [(TabM.least us, x)])))), .blk b6 [.int .i64 0, .int .i64 0, .slice none (0) (0), .slice none (0) (0)] 32, .abs R, .blk b8 [.int .i64 ((TabM.least us))] 3, .blk b11 [.int .i64 (x)] 3, .blk b14 [.int .i64 (((keys us).getD i 0))] 3]) (obl := fun b14 => []) [o_] [1, 2, 4, 7, 8, 9, 10, 60, 66] [0, 1, 2, 3, 4, 5, 6, 7, 8] (fun _ _ => by kernel_rfl) (fun b14 => trivial) (fun b14 => ?_)
       refine TriL.nil (by kernel_rfl) ?_
       exact TriQ.mid b14 (idx := [1, 2, 4, 7, 8, 9, 10, 60, 66]) (pk := [0, 1, 2, 3, 4, 5, 6, 7, 8]) (fun _ => by kernel_rfl) rfl (by kernel_rfl)
      rintro b14
      refine TriM.cut (ι := (Option Addr) × Nat) (fr' := fun ((A15, c16) : (Option Addr) × Nat) => [(1, .int .i64 (x)), (2, .pointer (some ⟨b5, 0, none⟩)), (4, .pointer (some ⟨b6, 0, none⟩)), (7, .int .i64 ((TabM.least us))), (8, .pointer (some ⟨b7, 0, none⟩)), (9, .bool true), (10, .int .i64 ↑i), (67, .slice A15 (((q ++ [(TabM.least us, x)]) ++ [(pr us i)]).length) (c16))]) (hp' := fun ((A15, c16) : (Option Addr) × Nat) => [.blk b5 [.int .i64 (M), .int .i64 (p), .slice A (us.length) (c), .slice B (us.length) (d)] 32, .blk b7 [.int .i64 (M), .int .i64 (p), .slice A9 ((q ++ [(TabM.least us, x)]).length) (c10), .slice A12 ((q ++ [(TabM.least us, x)]).length) (c13)] 32, .abs (RowA 3 1 A15 (((q ++ [(TabM.least us, x)]) ++ [(pr us i)]).length) c16 (ints (keys ((q ++ [(TabM.least us, x)]) ++ [(pr us i)])))), .abs (RowA 3 1 A12 ((q ++ [(TabM.least us, x)]).length) c13 (ints (vls (q ++ [(TabM.least us, x)])))), .blk b6 [.int .i64 0, .int .i64 0, .slice none (0) (0), .slice none (0) (0)] 32, .abs R, .blk b8 [.int .i64 ((TabM.least us))] 3, .blk b11 [.int .i64 (x)] 3, .blk b14 [.int .i64 (((keys us).getD i 0))] 3]) [0, 1, 4, 5, 6, 7] rfl rfl ?_ rfl (fun _ => by kernel_rfl) ?_
      ·
       refine TriL.append 2 (d := (some 67)) (t := 30) (e := 3) (z := .int .i64 0) (size := 1) (bytes := 8) (n := (q ++ [(TabM.least us, x)]).length) (cap := c10) (A := A9) (xs := (ints (keys (q ++ [(TabM.least us, x)])))) (s := (.tmp 60)) (x := (.tmp 66)) (ats := #[30, 30]) (A' := some ⟨b14, 0, none⟩) (m := 1) (c' := 1) (news := [.int .i64 (((keys us).getD i 0))]) (fun _ => by kernel_rfl) rfl (by kernel_rfl) (fun _ => by kernel_rfl) (fun _ => by kernel_rfl) Try.underlying30 (by kernel_rfl) rfl (by decide) (by simp) (by simp [Value.oneCell']) (src_blk (j := 8) rfl) (by unfold maxLen; have := hlq; have := len_snoc q (TabM.least us, x); omega) (by have := hlq; have := len_snoc q (TabM.least us, x); omega) (fun A15 c16 => ?_)
       refine TriL.partEq 2 (p := .abs (RowA 3 1 A15 (((q ++ [(TabM.least us, x)]).length) + 1) c16 ((ints (keys (q ++ [(TabM.least us, x)]))) ++ [.int .i64 (((keys us).getD i 0))]))) (p' := .abs (RowA 3 1 A15 (((q ++ [(TabM.least us, x)]) ++ [(pr us i)]).length) c16 (ints (keys ((q ++ [(TabM.least us, x)]) ++ [(pr us i)]))))) (by kernel_rfl) (rowK (x := (pr us i)) hpi.1) ?_
       refine TriL.slot 67 (.slice A15 (((q ++ [(TabM.least us, x)]).length) + 1) (c16)) (.slice A15 (((q ++ [(TabM.least us, x)]) ++ [(pr us i)]).length) (c16)) (fun _ => by kernel_rfl) (by rw [len_snoc (q ++ [(TabM.least us, x)]) (pr us i)]) ?_
       refine TriL.nil (by kernel_rfl) ?_
       exact TriQ.mid (A15, c16) (idx := [1, 2, 4, 7, 8, 9, 10, 67]) (pk := [0, 1, 2, 3, 4, 5, 6, 7, 8]) (fun _ => by kernel_rfl) rfl (by kernel_rfl)
      rintro ⟨A15, c16⟩
      refine TriM.cut (ι := Unit) (fr' := fun (_ : Unit) => [(1, .int .i64 (x)), (2, .pointer (some ⟨b5, 0, none⟩)), (4, .pointer (some ⟨b6, 0, none⟩)), (7, .int .i64 ((TabM.least us))), (8, .pointer (some ⟨b7, 0, none⟩)), (9, .bool true), (10, .int .i64 ↑i), (67, .slice A15 (((q ++ [(TabM.least us, x)]) ++ [(pr us i)]).length) (c16)), (68, .pointer (some ⟨b7, 2, none⟩))]) (hp' := fun (_ : Unit) => [.blk b5 [.int .i64 (M), .int .i64 (p), .slice A (us.length) (c), .slice B (us.length) (d)] 32, .blk b7 [.int .i64 (M), .int .i64 (p), .slice A9 ((q ++ [(TabM.least us, x)]).length) (c10), .slice A12 ((q ++ [(TabM.least us, x)]).length) (c13)] 32, .abs (RowA 3 1 A15 (((q ++ [(TabM.least us, x)]) ++ [(pr us i)]).length) c16 (ints (keys ((q ++ [(TabM.least us, x)]) ++ [(pr us i)])))), .abs (RowA 3 1 A12 ((q ++ [(TabM.least us, x)]).length) c13 (ints (vls (q ++ [(TabM.least us, x)])))), .blk b6 [.int .i64 0, .int .i64 0, .slice none (0) (0), .slice none (0) (0)] 32, .abs R, .blk b8 [.int .i64 ((TabM.least us))] 3, .blk b11 [.int .i64 (x)] 3, .blk b14 [.int .i64 (((keys us).getD i 0))] 3]) [0, 1, 4, 5, 6, 7] rfl rfl ?_ rfl (fun _ => by kernel_rfl) ?_
      ·
       refine TriL.segK (k' := 1) (fr' := [(1, .int .i64 (x)), (2, .pointer (some ⟨b5, 0, none⟩)), (4, .pointer (some ⟨b6, 0, none⟩)), (7, .int .i64 ((TabM.least us))), (8, .pointer (some ⟨b7, 0, none⟩)), (9, .bool true), (10, .int .i64 ↑i), (67, .slice A15 (((q ++ [(TabM.least us, x)]) ++ [(pr us i)]).length) (c16)), (68, .pointer (some ⟨b7, 2, none⟩))]) (obl := []) [o_] [1, 2, 4, 7, 8, 9, 10, 67, 68] (fun _ _ => by kernel_rfl) trivial ?_
       refine TriL.nil (by kernel_rfl) ?_
       exact TriQ.mid () (idx := [1, 2, 4, 7, 8, 9, 10, 67, 68]) (pk := [0, 1, 2, 3, 4, 5, 6, 7, 8]) (fun _ => by kernel_rfl) rfl (by kernel_rfl)
      rintro _
      refine TriM.last rfl rfl ?_
      refine TriL.seg (k' := 1) (fr' := [(1, .int .i64 (x)), (2, .pointer (some ⟨b5, 0, none⟩)), (4, .pointer (some ⟨b6, 0, none⟩)), (7, .int .i64 ((TabM.least us))), (8, .pointer (some ⟨b7, 0, none⟩)), (9, .bool true), (10, .int .i64 ↑i)]) (hps' := [.blk b5 [.int .i64 (M), .int .i64 (p), .slice A (us.length) (c), .slice B (us.length) (d)] 32, .blk b7 [.int .i64 (M), .int .i64 (p), .slice A15 (((q ++ [(TabM.least us, x)]) ++ [(pr us i)]).length) (c16), .slice A12 ((q ++ [(TabM.least us, x)]).length) (c13)] 32, .abs (RowA 3 1 A15 (((q ++ [(TabM.least us, x)]) ++ [(pr us i)]).length) c16 (ints (keys ((q ++ [(TabM.least us, x)]) ++ [(pr us i)])))), .abs (RowA 3 1 A12 ((q ++ [(TabM.least us, x)]).length) c13 (ints (vls (q ++ [(TabM.least us, x)])))), .blk b6 [.int .i64 0, .int .i64 0, .slice none (0) (0), .slice none (0) (0)] 32, .abs R, .blk b8 [.int .i64 ((TabM.least us))] 3, .blk b11 [.int .i64 (x)] 3, .blk b14 [.int .i64 (((keys us).getD i 0))] 3]) (obl := [b7 = b7]) [⟨[.at 1], none, none, none, none⟩] [1, 2, 4, 7, 8, 9, 10] [0, 1, 2, 3, 4, 5, 6, 7, 8] (fun _ _ => by kernel_rfl) ⟨rfl, trivial⟩ ?_
      refine TriL.nil (by kernel_rfl) (TriQ.np (TriQ.next ?_))
      refine Tri.regionMix (S := [.blk b5 [.int .i64 (M), .int .i64 (p), .slice A (us.length) (c), .slice B (us.length) (d)] 32, .blk b7 [.int .i64 (M), .int .i64 (p), .slice A15 (((q ++ [(TabM.least us, x)]) ++ [(pr us i)]).length) (c16), .slice A12 ((q ++ [(TabM.least us, x)]).length) (c13)] 32, .blk b6 [.int .i64 0, .int .i64 0, .slice none (0) (0), .slice none (0) (0)] 32, .abs R, .blk b8 [.int .i64 ((TabM.least us))] 3, .blk b11 [.int .i64 (x)] 3, .blk b14 [.int .i64 (((keys us).getD i 0))] 3]) [0, 1, 2, 3, 4, 5, 6, 7, 8, 9, 10] 7 [0, 1, 4, 5, 6, 7, 8] (by kernel_rfl) (by kernel_rfl) rfl (by kernel_rfl) ?_
      refine TriM.reads (r := 0) (l := [7, 8, 9, 10]) (fr' := [(1, .int .i64 (x)), (2, .pointer (some ⟨b5, 0, none⟩)), (4, .pointer (some ⟨b6, 0, none⟩)), (7, .int .i64 ((TabM.least us))), (8, .pointer (some ⟨b7, 0, none⟩)), (9, .bool true), (10, .int .i64 ↑i), (70, .slice A12 ((q ++ [(TabM.least us, x)]).length) (c13)), (75, .int .i64 (((vls us).getD i 0)))]) (obl := [(Rd β ⟨(blkOf B), offOf B + i * 1, none⟩ (.int .i64 (((vls us).getD i 0)))), ((i : Nat) : Int) = ((i : Nat) : Int), i < us.length, (⟨(blkOf B), offOf B, none⟩ : Addr).spot = none, (B : Option Addr) = some ⟨(blkOf B), offOf B, none⟩, b5 = b5, b7 = b7]) [0, 1, 2, 3, 4, 5, 6] [o_, ⟨[.at 1], none, none, none, none⟩, o_, ⟨[.at 0], none, none, none, none⟩, o_, ⟨[], some i, none, some ⟨(blkOf B), offOf B, none⟩, none⟩, ⟨[.old (.int .i64 (((vls us).getD i 0)))], none, none, none, none⟩] [1, 2, 4, 7, 8, 9, 10, 70, 75] (fun _ => by kernel_rfl) ⟨IntsR.rd hB (j := i) (by rw [vls_len]; omega), rfl, by omega, rfl, IntsR.hd hB (j := i) (by rw [vls_len]; omega), rfl, rfl, trivial⟩ rfl rfl ?_
      refine TriM.cut (ι := Nat) (fr' := fun (b17 : Nat) => [(1, .int .i64 (x)), (2, .pointer (some ⟨b5, 0, none⟩)), (4, .pointer (some ⟨b6, 0, none⟩)), (7, .int .i64 ((TabM.least us))), (8, .pointer (some ⟨b7, 0, none⟩)), (9, .bool true), (10, .int .i64 ↑i), (70, .slice A12 ((q ++ [(TabM.least us, x)]).length) (c13)), (76, .slice (some ⟨b17, 0, none⟩) (1) (1))]) (hp' := fun (b17 : Nat) => [.blk b5 [.int .i64 (M), .int .i64 (p), .slice A (us.length) (c), .slice B (us.length) (d)] 32, .blk b7 [.int .i64 (M), .int .i64 (p), .slice A15 (((q ++ [(TabM.least us, x)]) ++ [(pr us i)]).length) (c16), .slice A12 ((q ++ [(TabM.least us, x)]).length) (c13)] 32, .abs (RowA 3 1 A15 (((q ++ [(TabM.least us, x)]) ++ [(pr us i)]).length) c16 (ints (keys ((q ++ [(TabM.least us, x)]) ++ [(pr us i)])))), .abs (RowA 3 1 A12 ((q ++ [(TabM.least us, x)]).length) c13 (ints (vls (q ++ [(TabM.least us, x)])))), .blk b6 [.int .i64 0, .int .i64 0, .slice none (0) (0), .slice none (0) (0)] 32, .abs R, .blk b8 [.int .i64 ((TabM.least us))] 3, .blk b11 [.int .i64 (x)] 3, .blk b14 [.int .i64 (((keys us).getD i 0))] 3, .blk b17 [.int .i64 (((vls us).getD i 0))] 3]) [0, 1, 4, 5, 6, 7, 8] rfl rfl ?_ rfl (fun _ => by kernel_rfl) ?_
      ·
       refine TriL.segN (k' := 1) (fr' := fun b17 => [(1, .int .i64 (x)), (2, .pointer (some ⟨b5, 0, none⟩)), (4, .pointer (some ⟨b6, 0, none⟩)), (7, .int .i64 ((TabM.least us))), (8, .pointer (some ⟨b7, 0, none⟩)), (9, .bool true), (10, .int .i64 ↑i), (70, .slice A12 ((q ++ [(TabM.least us, x)]).length) (c13)), (76, .slice (some ⟨b17, 0, none⟩) (1) (1))]) (hps' := fun b17 => [.blk b5 [.int .i64 (M), .int .i64 (p), .slice A (us.length) (c), .slice B (us.length) (d)] 32, .blk b7 [.int .i64 (M), .int .i64 (p), .slice A15 (((q ++ [(TabM.least us, x)]) ++ [(pr us i)]).length) (c16), .slice A12 ((q ++ [(TabM.least us, x)]).length) (c13)] 32, .abs (RowA 3 1 A15 (((q ++ [(TabM.least us, x)]) ++ [(pr us i)]).length) c16 (ints (keys ((q ++ [(TabM.least us, x)]) ++ [(pr us i)])))), .abs (RowA 3 1 A12 ((q ++ [(TabM.least us, x)]).length) c13 (ints (vls (q ++ [(TabM.least us, x)])))), .blk b6 [.int .i64 0, .int .i64 0, .slice none (0) (0), .slice none (0) (0)] 32, .abs R, .blk b8 [.int .i64 ((TabM.least us))] 3, .blk b11 [.int .i64 (x)] 3, .blk b14 [.int .i64 (((keys us).getD i 0))] 3, .blk b17 [.int .i64 (((vls us).getD i 0))] 3]) (obl := fun b17 => []) [o_] [1, 2, 4, 7, 8, 9, 10, 70, 76] [0, 1, 2, 3, 4, 5, 6, 7, 8, 9] (fun _ _ => by kernel_rfl) (fun b17 => trivial) (fun b17 => ?_)
       refine TriL.nil (by kernel_rfl) ?_
       exact TriQ.mid b17 (idx := [1, 2, 4, 7, 8, 9, 10, 70, 76]) (pk := [0, 1, 2, 3, 4, 5, 6, 7, 8, 9]) (fun _ => by kernel_rfl) rfl (by kernel_rfl)
      rintro b17
      refine TriM.cut (ι := (Option Addr) × Nat) (fr' := fun ((A18, c19) : (Option Addr) × Nat) => [(1, .int .i64 (x)), (2, .pointer (some ⟨b5, 0, none⟩)), (4, .pointer (some ⟨b6, 0, none⟩)), (7, .int .i64 ((TabM.least us))), (8, .pointer (some ⟨b7, 0, none⟩)), (9, .bool true), (10, .int .i64 ↑i), (77, .slice A18 (((q ++ [(TabM.least us, x)]) ++ [(pr us i)]).length) (c19))]) (hp' := fun ((A18, c19) : (Option Addr) × Nat) => [.blk b5 [.int .i64 (M), .int .i64 (p), .slice A (us.length) (c), .slice B (us.length) (d)] 32, .blk b7 [.int .i64 (M), .int .i64 (p), .slice A15 (((q ++ [(TabM.least us, x)]) ++ [(pr us i)]).length) (c16), .slice A12 ((q ++ [(TabM.least us, x)]).length) (c13)] 32, .abs (RowA 3 1 A15 (((q ++ [(TabM.least us, x)]) ++ [(pr us i)]).length) c16 (ints (keys ((q ++ [(TabM.least us, x)]) ++ [(pr us i)])))), .abs (RowA 3 1 A18 (((q ++ [(TabM.least us, x)]) ++ [(pr us i)]).length) c19 (ints (vls ((q ++ [(TabM.least us, x)]) ++ [(pr us i)])))), .blk b6 [.int .i64 0, .int .i64 0, .slice none (0) (0), .slice none (0) (0)] 32, .abs R, .blk b8 [.int .i64 ((TabM.least us))] 3, .blk b11 [.int .i64 (x)] 3, .blk b14 [.int .i64 (((keys us).getD i 0))] 3, .blk b17 [.int .i64 (((vls us).getD i 0))] 3]) [0, 1, 4, 5, 6, 7, 8] rfl rfl ?_ rfl (fun _ => by kernel_rfl) ?_
      ·
       refine TriL.append 3 (d := (some 77)) (t := 30) (e := 3) (z := .int .i64 0) (size := 1) (bytes := 8) (n := (q ++ [(TabM.least us, x)]).length) (cap := c13) (A := A12) (xs := (ints (vls (q ++ [(TabM.least us, x)])))) (s := (.tmp 70)) (x := (.tmp 76)) (ats := #[30, 30]) (A' := some ⟨b17, 0, none⟩) (m := 1) (c' := 1) (news := [.int .i64 (((vls us).getD i 0))]) (fun _ => by kernel_rfl) rfl (by kernel_rfl) (fun _ => by kernel_rfl) (fun _ => by kernel_rfl) Try.underlying30 (by kernel_rfl) rfl (by decide) (by simp) (by simp [Value.oneCell']) (src_blk (j := 9) rfl) (by unfold maxLen; have := hlq; have := len_snoc q (TabM.least us, x); omega) (by have := hlq; have := len_snoc q (TabM.least us, x); omega) (fun A18 c19 => ?_)
       refine TriL.partEq 3 (p := .abs (RowA 3 1 A18 (((q ++ [(TabM.least us, x)]).length) + 1) c19 ((ints (vls (q ++ [(TabM.least us, x)]))) ++ [.int .i64 (((vls us).getD i 0))]))) (p' := .abs (RowA 3 1 A18 (((q ++ [(TabM.least us, x)]) ++ [(pr us i)]).length) c19 (ints (vls ((q ++ [(TabM.least us, x)]) ++ [(pr us i)]))))) (by kernel_rfl) (rowV (x := (pr us i)) hpi.2) ?_
       refine TriL.slot 77 (.slice A18 (((q ++ [(TabM.least us, x)]).length) + 1) (c19)) (.slice A18 (((q ++ [(TabM.least us, x)]) ++ [(pr us i)]).length) (c19)) (fun _ => by kernel_rfl) (by rw [len_snoc (q ++ [(TabM.least us, x)]) (pr us i)]) ?_
       refine TriL.nil (by kernel_rfl) ?_
       exact TriQ.mid (A18, c19) (idx := [1, 2, 4, 7, 8, 9, 10, 77]) (pk := [0, 1, 2, 3, 4, 5, 6, 7, 8, 9]) (fun _ => by kernel_rfl) rfl (by kernel_rfl)
      rintro ⟨A18, c19⟩
      refine TriM.cut (ι := Unit) (fr' := fun (_ : Unit) => [(1, .int .i64 (x)), (2, .pointer (some ⟨b5, 0, none⟩)), (4, .pointer (some ⟨b6, 0, none⟩)), (7, .int .i64 ((TabM.least us))), (8, .pointer (some ⟨b7, 0, none⟩)), (9, .bool true), (10, .int .i64 ↑i), (77, .slice A18 (((q ++ [(TabM.least us, x)]) ++ [(pr us i)]).length) (c19)), (78, .pointer (some ⟨b7, 3, none⟩))]) (hp' := fun (_ : Unit) => [.blk b5 [.int .i64 (M), .int .i64 (p), .slice A (us.length) (c), .slice B (us.length) (d)] 32, .blk b7 [.int .i64 (M), .int .i64 (p), .slice A15 (((q ++ [(TabM.least us, x)]) ++ [(pr us i)]).length) (c16), .slice A12 ((q ++ [(TabM.least us, x)]).length) (c13)] 32, .abs (RowA 3 1 A15 (((q ++ [(TabM.least us, x)]) ++ [(pr us i)]).length) c16 (ints (keys ((q ++ [(TabM.least us, x)]) ++ [(pr us i)])))), .abs (RowA 3 1 A18 (((q ++ [(TabM.least us, x)]) ++ [(pr us i)]).length) c19 (ints (vls ((q ++ [(TabM.least us, x)]) ++ [(pr us i)])))), .blk b6 [.int .i64 0, .int .i64 0, .slice none (0) (0), .slice none (0) (0)] 32, .abs R, .blk b8 [.int .i64 ((TabM.least us))] 3, .blk b11 [.int .i64 (x)] 3, .blk b14 [.int .i64 (((keys us).getD i 0))] 3, .blk b17 [.int .i64 (((vls us).getD i 0))] 3]) [0, 1, 4, 5, 6, 7, 8] rfl rfl ?_ rfl (fun _ => by kernel_rfl) ?_
      ·
       refine TriL.segK (k' := 1) (fr' := [(1, .int .i64 (x)), (2, .pointer (some ⟨b5, 0, none⟩)), (4, .pointer (some ⟨b6, 0, none⟩)), (7, .int .i64 ((TabM.least us))), (8, .pointer (some ⟨b7, 0, none⟩)), (9, .bool true), (10, .int .i64 ↑i), (77, .slice A18 (((q ++ [(TabM.least us, x)]) ++ [(pr us i)]).length) (c19)), (78, .pointer (some ⟨b7, 3, none⟩))]) (obl := []) [o_] [1, 2, 4, 7, 8, 9, 10, 77, 78] (fun _ _ => by kernel_rfl) trivial ?_
       refine TriL.nil (by kernel_rfl) ?_
       exact TriQ.mid () (idx := [1, 2, 4, 7, 8, 9, 10, 77, 78]) (pk := [0, 1, 2, 3, 4, 5, 6, 7, 8, 9]) (fun _ => by kernel_rfl) rfl (by kernel_rfl)
      rintro _
      refine TriM.last rfl rfl ?_
      refine TriL.seg (k' := 1) (fr' := [(1, .int .i64 (x)), (2, .pointer (some ⟨b5, 0, none⟩)), (4, .pointer (some ⟨b6, 0, none⟩)), (7, .int .i64 ((TabM.least us))), (8, .pointer (some ⟨b7, 0, none⟩)), (9, .bool true), (10, .int .i64 ↑i)]) (hps' := [.blk b5 [.int .i64 (M), .int .i64 (p), .slice A (us.length) (c), .slice B (us.length) (d)] 32, .blk b7 [.int .i64 (M), .int .i64 (p), .slice A15 (((q ++ [(TabM.least us, x)]) ++ [(pr us i)]).length) (c16), .slice A18 (((q ++ [(TabM.least us, x)]) ++ [(pr us i)]).length) (c19)] 32, .abs (RowA 3 1 A15 (((q ++ [(TabM.least us, x)]) ++ [(pr us i)]).length) c16 (ints (keys ((q ++ [(TabM.least us, x)]) ++ [(pr us i)])))), .abs (RowA 3 1 A18 (((q ++ [(TabM.least us, x)]) ++ [(pr us i)]).length) c19 (ints (vls ((q ++ [(TabM.least us, x)]) ++ [(pr us i)])))), .blk b6 [.int .i64 0, .int .i64 0, .slice none (0) (0), .slice none (0) (0)] 32, .abs R, .blk b8 [.int .i64 ((TabM.least us))] 3, .blk b11 [.int .i64 (x)] 3, .blk b14 [.int .i64 (((keys us).getD i 0))] 3, .blk b17 [.int .i64 (((vls us).getD i 0))] 3]) (obl := [b7 = b7]) [⟨[.at 1], none, none, none, none⟩] [1, 2, 4, 7, 8, 9, 10] [0, 1, 2, 3, 4, 5, 6, 7, 8, 9] (fun _ _ => by kernel_rfl) ⟨rfl, trivial⟩ ?_
      refine TriL.nil (by kernel_rfl) (TriQ.np (TriQ.blockNormal (TriQ.next (Tri.region ?_))))
      refine TriL.segK (k' := 3) (fr' := [(1, .int .i64 (x)), (2, .pointer (some ⟨b5, 0, none⟩)), (4, .pointer (some ⟨b6, 0, none⟩)), (7, .int .i64 ((TabM.least us))), (8, .pointer (some ⟨b7, 0, none⟩)), (9, .bool true), (10, .int .i64 ↑(i + 1))]) (obl := [(Value.int .i64 (IntKind.wrap .i64 (((i : Nat) : Int) + 1))) = (.int .i64 ↑(i + 1))]) [o_, ⟨[], none, none, none, some (.int .i64 ↑(i + 1))⟩, o_] [1, 2, 4, 7, 8, 9, 10] (fun _ _ => by kernel_rfl) ⟨wrapEq (by omega) (by omega) (by omega), trivial⟩ ?_
      refine TriL.nil (by kernel_rfl) ?_
      exact TriQ.turn ((i + 1), true, ((q ++ [(TabM.least us, x)]) ++ [(pr us i)]), A15, c16, A18, c19) (idx := [1, 2, 4, 7, 8, 9, 10]) (pk := [0, 1, 2, 3, 4, 5]) (show (((i + 1)) ≤ us.length) ∧ (PutAt us (TabM.least us) x ((i + 1)) true (((q ++ [(TabM.least us, x)]) ++ [(pr us i)]))) from ⟨by omega, PutAt.hit ((show dn = false by simpa using h46) ▸ hpt) (by omega) (by rw [← hpi.1]; omega)⟩) (by show us.length - ((i + 1)) < us.length - i; omega) (fun _ => by kernel_rfl) rfl (by kernel_rfl)
     ·
      refine Tri.skip (TriQ.next (Tri.seq ?_))
      refine Tri.regionMix (S := [.blk b5 [.int .i64 (M), .int .i64 (p), .slice A (us.length) (c), .slice B (us.length) (d)] 32, .blk b7 [.int .i64 (M), .int .i64 (p), .slice Ah (q.length) (ch), .slice Av (q.length) (cv)] 32, .blk b6 [.int .i64 0, .int .i64 0, .slice none (0) (0), .slice none (0) (0)] 32, .abs R]) [0, 1, 2, 3, 4, 5, 6, 7, 8, 9, 10] 7 [0, 1, 4, 5] (by kernel_rfl) (by kernel_rfl) rfl (by kernel_rfl) ?_
      refine TriM.reads (r := 0) (l := [7, 8, 9, 10]) (fr' := [(1, .int .i64 (x)), (2, .pointer (some ⟨b5, 0, none⟩)), (4, .pointer (some ⟨b6, 0, none⟩)), (7, .int .i64 ((TabM.least us))), (8, .pointer (some ⟨b7, 0, none⟩)), (9, .bool dn), (10, .int .i64 ↑i), (60, .slice Ah (q.length) (ch)), (65, .int .i64 (((keys us).getD i 0)))]) (obl := [(Rd β ⟨(blkOf A), offOf A + i * 1, none⟩ (.int .i64 (((keys us).getD i 0)))), ((i : Nat) : Int) = ((i : Nat) : Int), i < us.length, (⟨(blkOf A), offOf A, none⟩ : Addr).spot = none, (A : Option Addr) = some ⟨(blkOf A), offOf A, none⟩, b5 = b5, b7 = b7]) [0, 1, 2, 3, 4, 5, 6] [o_, ⟨[.at 1], none, none, none, none⟩, o_, ⟨[.at 0], none, none, none, none⟩, o_, ⟨[], some i, none, some ⟨(blkOf A), offOf A, none⟩, none⟩, ⟨[.old (.int .i64 (((keys us).getD i 0)))], none, none, none, none⟩] [1, 2, 4, 7, 8, 9, 10, 60, 65] (fun _ => by kernel_rfl) ⟨IntsR.rd hA (j := i) (by rw [kys_len]; omega), rfl, by omega, rfl, IntsR.hd hA (j := i) (by rw [kys_len]; omega), rfl, rfl, trivial⟩ rfl rfl ?_
      refine TriM.cut (ι := Nat) (fr' := fun (b20 : Nat) => [(1, .int .i64 (x)), (2, .pointer (some ⟨b5, 0, none⟩)), (4, .pointer (some ⟨b6, 0, none⟩)), (7, .int .i64 ((TabM.least us))), (8, .pointer (some ⟨b7, 0, none⟩)), (9, .bool dn), (10, .int .i64 ↑i), (60, .slice Ah (q.length) (ch)), (66, .slice (some ⟨b20, 0, none⟩) (1) (1))]) (hp' := fun (b20 : Nat) => [.blk b5 [.int .i64 (M), .int .i64 (p), .slice A (us.length) (c), .slice B (us.length) (d)] 32, .blk b7 [.int .i64 (M), .int .i64 (p), .slice Ah (q.length) (ch), .slice Av (q.length) (cv)] 32, .abs (RowA 3 1 Ah q.length ch (ints (keys q))), .abs (RowA 3 1 Av q.length cv (ints (vls q))), .blk b6 [.int .i64 0, .int .i64 0, .slice none (0) (0), .slice none (0) (0)] 32, .abs R, .blk b20 [.int .i64 (((keys us).getD i 0))] 3]) [0, 1, 4, 5] rfl rfl ?_ rfl (fun _ => by kernel_rfl) ?_
      ·
       refine TriL.segN (k' := 1) (fr' := fun b20 => [(1, .int .i64 (x)), (2, .pointer (some ⟨b5, 0, none⟩)), (4, .pointer (some ⟨b6, 0, none⟩)), (7, .int .i64 ((TabM.least us))), (8, .pointer (some ⟨b7, 0, none⟩)), (9, .bool dn), (10, .int .i64 ↑i), (60, .slice Ah (q.length) (ch)), (66, .slice (some ⟨b20, 0, none⟩) (1) (1))]) (hps' := fun b20 => [.blk b5 [.int .i64 (M), .int .i64 (p), .slice A (us.length) (c), .slice B (us.length) (d)] 32, .blk b7 [.int .i64 (M), .int .i64 (p), .slice Ah (q.length) (ch), .slice Av (q.length) (cv)] 32, .abs (RowA 3 1 Ah q.length ch (ints (keys q))), .abs (RowA 3 1 Av q.length cv (ints (vls q))), .blk b6 [.int .i64 0, .int .i64 0, .slice none (0) (0), .slice none (0) (0)] 32, .abs R, .blk b20 [.int .i64 (((keys us).getD i 0))] 3]) (obl := fun b20 => []) [o_] [1, 2, 4, 7, 8, 9, 10, 60, 66] [0, 1, 2, 3, 4, 5, 6] (fun _ _ => by kernel_rfl) (fun b20 => trivial) (fun b20 => ?_)
       refine TriL.nil (by kernel_rfl) ?_
       exact TriQ.mid b20 (idx := [1, 2, 4, 7, 8, 9, 10, 60, 66]) (pk := [0, 1, 2, 3, 4, 5, 6]) (fun _ => by kernel_rfl) rfl (by kernel_rfl)
      rintro b20
      refine TriM.cut (ι := (Option Addr) × Nat) (fr' := fun ((A21, c22) : (Option Addr) × Nat) => [(1, .int .i64 (x)), (2, .pointer (some ⟨b5, 0, none⟩)), (4, .pointer (some ⟨b6, 0, none⟩)), (7, .int .i64 ((TabM.least us))), (8, .pointer (some ⟨b7, 0, none⟩)), (9, .bool dn), (10, .int .i64 ↑i), (67, .slice A21 ((q ++ [(pr us i)]).length) (c22))]) (hp' := fun ((A21, c22) : (Option Addr) × Nat) => [.blk b5 [.int .i64 (M), .int .i64 (p), .slice A (us.length) (c), .slice B (us.length) (d)] 32, .blk b7 [.int .i64 (M), .int .i64 (p), .slice Ah (q.length) (ch), .slice Av (q.length) (cv)] 32, .abs (RowA 3 1 A21 ((q ++ [(pr us i)]).length) c22 (ints (keys (q ++ [(pr us i)])))), .abs (RowA 3 1 Av q.length cv (ints (vls q))), .blk b6 [.int .i64 0, .int .i64 0, .slice none (0) (0), .slice none (0) (0)] 32, .abs R, .blk b20 [.int .i64 (((keys us).getD i 0))] 3]) [0, 1, 4, 5] rfl rfl ?_ rfl (fun _ => by kernel_rfl) ?_
      ·
       refine TriL.append 2 (d := (some 67)) (t := 30) (e := 3) (z := .int .i64 0) (size := 1) (bytes := 8) (n := q.length) (cap := ch) (A := Ah) (xs := (ints (keys q))) (s := (.tmp 60)) (x := (.tmp 66)) (ats := #[30, 30]) (A' := some ⟨b20, 0, none⟩) (m := 1) (c' := 1) (news := [.int .i64 (((keys us).getD i 0))]) (fun _ => by kernel_rfl) rfl (by kernel_rfl) (fun _ => by kernel_rfl) (fun _ => by kernel_rfl) Try.underlying30 (by kernel_rfl) rfl (by decide) (by simp) (by simp [Value.oneCell']) (src_blk (j := 6) rfl) (by unfold maxLen; have := hlq; have := len_snoc q (TabM.least us, x); omega) (by have := hlq; have := len_snoc q (TabM.least us, x); omega) (fun A21 c22 => ?_)
       refine TriL.partEq 2 (p := .abs (RowA 3 1 A21 (q.length + 1) c22 ((ints (keys q)) ++ [.int .i64 (((keys us).getD i 0))]))) (p' := .abs (RowA 3 1 A21 ((q ++ [(pr us i)]).length) c22 (ints (keys (q ++ [(pr us i)]))))) (by kernel_rfl) (rowK (x := (pr us i)) hpi.1) ?_
       refine TriL.slot 67 (.slice A21 (q.length + 1) (c22)) (.slice A21 ((q ++ [(pr us i)]).length) (c22)) (fun _ => by kernel_rfl) (by rw [len_snoc q (pr us i)]) ?_
       refine TriL.nil (by kernel_rfl) ?_
       exact TriQ.mid (A21, c22) (idx := [1, 2, 4, 7, 8, 9, 10, 67]) (pk := [0, 1, 2, 3, 4, 5, 6]) (fun _ => by kernel_rfl) rfl (by kernel_rfl)
      rintro ⟨A21, c22⟩
      refine TriM.cut (ι := Unit) (fr' := fun (_ : Unit) => [(1, .int .i64 (x)), (2, .pointer (some ⟨b5, 0, none⟩)), (4, .pointer (some ⟨b6, 0, none⟩)), (7, .int .i64 ((TabM.least us))), (8, .pointer (some ⟨b7, 0, none⟩)), (9, .bool dn), (10, .int .i64 ↑i), (67, .slice A21 ((q ++ [(pr us i)]).length) (c22)), (68, .pointer (some ⟨b7, 2, none⟩))]) (hp' := fun (_ : Unit) => [.blk b5 [.int .i64 (M), .int .i64 (p), .slice A (us.length) (c), .slice B (us.length) (d)] 32, .blk b7 [.int .i64 (M), .int .i64 (p), .slice Ah (q.length) (ch), .slice Av (q.length) (cv)] 32, .abs (RowA 3 1 A21 ((q ++ [(pr us i)]).length) c22 (ints (keys (q ++ [(pr us i)])))), .abs (RowA 3 1 Av q.length cv (ints (vls q))), .blk b6 [.int .i64 0, .int .i64 0, .slice none (0) (0), .slice none (0) (0)] 32, .abs R, .blk b20 [.int .i64 (((keys us).getD i 0))] 3]) [0, 1, 4, 5] rfl rfl ?_ rfl (fun _ => by kernel_rfl) ?_
      ·
       refine TriL.segK (k' := 1) (fr' := [(1, .int .i64 (x)), (2, .pointer (some ⟨b5, 0, none⟩)), (4, .pointer (some ⟨b6, 0, none⟩)), (7, .int .i64 ((TabM.least us))), (8, .pointer (some ⟨b7, 0, none⟩)), (9, .bool dn), (10, .int .i64 ↑i), (67, .slice A21 ((q ++ [(pr us i)]).length) (c22)), (68, .pointer (some ⟨b7, 2, none⟩))]) (obl := []) [o_] [1, 2, 4, 7, 8, 9, 10, 67, 68] (fun _ _ => by kernel_rfl) trivial ?_
       refine TriL.nil (by kernel_rfl) ?_
       exact TriQ.mid () (idx := [1, 2, 4, 7, 8, 9, 10, 67, 68]) (pk := [0, 1, 2, 3, 4, 5, 6]) (fun _ => by kernel_rfl) rfl (by kernel_rfl)
      rintro _
      refine TriM.last rfl rfl ?_
      refine TriL.seg (k' := 1) (fr' := [(1, .int .i64 (x)), (2, .pointer (some ⟨b5, 0, none⟩)), (4, .pointer (some ⟨b6, 0, none⟩)), (7, .int .i64 ((TabM.least us))), (8, .pointer (some ⟨b7, 0, none⟩)), (9, .bool dn), (10, .int .i64 ↑i)]) (hps' := [.blk b5 [.int .i64 (M), .int .i64 (p), .slice A (us.length) (c), .slice B (us.length) (d)] 32, .blk b7 [.int .i64 (M), .int .i64 (p), .slice A21 ((q ++ [(pr us i)]).length) (c22), .slice Av (q.length) (cv)] 32, .abs (RowA 3 1 A21 ((q ++ [(pr us i)]).length) c22 (ints (keys (q ++ [(pr us i)])))), .abs (RowA 3 1 Av q.length cv (ints (vls q))), .blk b6 [.int .i64 0, .int .i64 0, .slice none (0) (0), .slice none (0) (0)] 32, .abs R, .blk b20 [.int .i64 (((keys us).getD i 0))] 3]) (obl := [b7 = b7]) [⟨[.at 1], none, none, none, none⟩] [1, 2, 4, 7, 8, 9, 10] [0, 1, 2, 3, 4, 5, 6] (fun _ _ => by kernel_rfl) ⟨rfl, trivial⟩ ?_
      refine TriL.nil (by kernel_rfl) (TriQ.np (TriQ.next ?_))
      refine Tri.regionMix (S := [.blk b5 [.int .i64 (M), .int .i64 (p), .slice A (us.length) (c), .slice B (us.length) (d)] 32, .blk b7 [.int .i64 (M), .int .i64 (p), .slice A21 ((q ++ [(pr us i)]).length) (c22), .slice Av (q.length) (cv)] 32, .blk b6 [.int .i64 0, .int .i64 0, .slice none (0) (0), .slice none (0) (0)] 32, .abs R, .blk b20 [.int .i64 (((keys us).getD i 0))] 3]) [0, 1, 2, 3, 4, 5, 6, 7, 8, 9, 10] 7 [0, 1, 4, 5, 6] (by kernel_rfl) (by kernel_rfl) rfl (by kernel_rfl) ?_
      refine TriM.reads (r := 0) (l := [7, 8, 9, 10]) (fr' := [(1, .int .i64 (x)), (2, .pointer (some ⟨b5, 0, none⟩)), (4, .pointer (some ⟨b6, 0, none⟩)), (7, .int .i64 ((TabM.least us))), (8, .pointer (some ⟨b7, 0, none⟩)), (9, .bool dn), (10, .int .i64 ↑i), (70, .slice Av (q.length) (cv)), (75, .int .i64 (((vls us).getD i 0)))]) (obl := [(Rd β ⟨(blkOf B), offOf B + i * 1, none⟩ (.int .i64 (((vls us).getD i 0)))), ((i : Nat) : Int) = ((i : Nat) : Int), i < us.length, (⟨(blkOf B), offOf B, none⟩ : Addr).spot = none, (B : Option Addr) = some ⟨(blkOf B), offOf B, none⟩, b5 = b5, b7 = b7]) [0, 1, 2, 3, 4, 5, 6] [o_, ⟨[.at 1], none, none, none, none⟩, o_, ⟨[.at 0], none, none, none, none⟩, o_, ⟨[], some i, none, some ⟨(blkOf B), offOf B, none⟩, none⟩, ⟨[.old (.int .i64 (((vls us).getD i 0)))], none, none, none, none⟩] [1, 2, 4, 7, 8, 9, 10, 70, 75] (fun _ => by kernel_rfl) ⟨IntsR.rd hB (j := i) (by rw [vls_len]; omega), rfl, by omega, rfl, IntsR.hd hB (j := i) (by rw [vls_len]; omega), rfl, rfl, trivial⟩ rfl rfl ?_
      refine TriM.cut (ι := Nat) (fr' := fun (b23 : Nat) => [(1, .int .i64 (x)), (2, .pointer (some ⟨b5, 0, none⟩)), (4, .pointer (some ⟨b6, 0, none⟩)), (7, .int .i64 ((TabM.least us))), (8, .pointer (some ⟨b7, 0, none⟩)), (9, .bool dn), (10, .int .i64 ↑i), (70, .slice Av (q.length) (cv)), (76, .slice (some ⟨b23, 0, none⟩) (1) (1))]) (hp' := fun (b23 : Nat) => [.blk b5 [.int .i64 (M), .int .i64 (p), .slice A (us.length) (c), .slice B (us.length) (d)] 32, .blk b7 [.int .i64 (M), .int .i64 (p), .slice A21 ((q ++ [(pr us i)]).length) (c22), .slice Av (q.length) (cv)] 32, .abs (RowA 3 1 A21 ((q ++ [(pr us i)]).length) c22 (ints (keys (q ++ [(pr us i)])))), .abs (RowA 3 1 Av q.length cv (ints (vls q))), .blk b6 [.int .i64 0, .int .i64 0, .slice none (0) (0), .slice none (0) (0)] 32, .abs R, .blk b20 [.int .i64 (((keys us).getD i 0))] 3, .blk b23 [.int .i64 (((vls us).getD i 0))] 3]) [0, 1, 4, 5, 6] rfl rfl ?_ rfl (fun _ => by kernel_rfl) ?_
      ·
       refine TriL.segN (k' := 1) (fr' := fun b23 => [(1, .int .i64 (x)), (2, .pointer (some ⟨b5, 0, none⟩)), (4, .pointer (some ⟨b6, 0, none⟩)), (7, .int .i64 ((TabM.least us))), (8, .pointer (some ⟨b7, 0, none⟩)), (9, .bool dn), (10, .int .i64 ↑i), (70, .slice Av (q.length) (cv)), (76, .slice (some ⟨b23, 0, none⟩) (1) (1))]) (hps' := fun b23 => [.blk b5 [.int .i64 (M), .int .i64 (p), .slice A (us.length) (c), .slice B (us.length) (d)] 32, .blk b7 [.int .i64 (M), .int .i64 (p), .slice A21 ((q ++ [(pr us i)]).length) (c22), .slice Av (q.length) (cv)] 32, .abs (RowA 3 1 A21 ((q ++ [(pr us i)]).length) c22 (ints (keys (q ++ [(pr us i)])))), .abs (RowA 3 1 Av q.length cv (ints (vls q))), .blk b6 [.int .i64 0, .int .i64 0, .slice none (0) (0), .slice none (0) (0)] 32, .abs R, .blk b20 [.int .i64 (((keys us).getD i 0))] 3, .blk b23 [.int .i64 (((vls us).getD i 0))] 3]) (obl := fun b23 => []) [o_] [1, 2, 4, 7, 8, 9, 10, 70, 76] [0, 1, 2, 3, 4, 5, 6, 7] (fun _ _ => by kernel_rfl) (fun b23 => trivial) (fun b23 => ?_)
       refine TriL.nil (by kernel_rfl) ?_
       exact TriQ.mid b23 (idx := [1, 2, 4, 7, 8, 9, 10, 70, 76]) (pk := [0, 1, 2, 3, 4, 5, 6, 7]) (fun _ => by kernel_rfl) rfl (by kernel_rfl)
      rintro b23
      refine TriM.cut (ι := (Option Addr) × Nat) (fr' := fun ((A24, c25) : (Option Addr) × Nat) => [(1, .int .i64 (x)), (2, .pointer (some ⟨b5, 0, none⟩)), (4, .pointer (some ⟨b6, 0, none⟩)), (7, .int .i64 ((TabM.least us))), (8, .pointer (some ⟨b7, 0, none⟩)), (9, .bool dn), (10, .int .i64 ↑i), (77, .slice A24 ((q ++ [(pr us i)]).length) (c25))]) (hp' := fun ((A24, c25) : (Option Addr) × Nat) => [.blk b5 [.int .i64 (M), .int .i64 (p), .slice A (us.length) (c), .slice B (us.length) (d)] 32, .blk b7 [.int .i64 (M), .int .i64 (p), .slice A21 ((q ++ [(pr us i)]).length) (c22), .slice Av (q.length) (cv)] 32, .abs (RowA 3 1 A21 ((q ++ [(pr us i)]).length) c22 (ints (keys (q ++ [(pr us i)])))), .abs (RowA 3 1 A24 ((q ++ [(pr us i)]).length) c25 (ints (vls (q ++ [(pr us i)])))), .blk b6 [.int .i64 0, .int .i64 0, .slice none (0) (0), .slice none (0) (0)] 32, .abs R, .blk b20 [.int .i64 (((keys us).getD i 0))] 3, .blk b23 [.int .i64 (((vls us).getD i 0))] 3]) [0, 1, 4, 5, 6] rfl rfl ?_ rfl (fun _ => by kernel_rfl) ?_
      ·
       refine TriL.append 3 (d := (some 77)) (t := 30) (e := 3) (z := .int .i64 0) (size := 1) (bytes := 8) (n := q.length) (cap := cv) (A := Av) (xs := (ints (vls q))) (s := (.tmp 70)) (x := (.tmp 76)) (ats := #[30, 30]) (A' := some ⟨b23, 0, none⟩) (m := 1) (c' := 1) (news := [.int .i64 (((vls us).getD i 0))]) (fun _ => by kernel_rfl) rfl (by kernel_rfl) (fun _ => by kernel_rfl) (fun _ => by kernel_rfl) Try.underlying30 (by kernel_rfl) rfl (by decide) (by simp) (by simp [Value.oneCell']) (src_blk (j := 7) rfl) (by unfold maxLen; have := hlq; have := len_snoc q (TabM.least us, x); omega) (by have := hlq; have := len_snoc q (TabM.least us, x); omega) (fun A24 c25 => ?_)
       refine TriL.partEq 3 (p := .abs (RowA 3 1 A24 (q.length + 1) c25 ((ints (vls q)) ++ [.int .i64 (((vls us).getD i 0))]))) (p' := .abs (RowA 3 1 A24 ((q ++ [(pr us i)]).length) c25 (ints (vls (q ++ [(pr us i)]))))) (by kernel_rfl) (rowV (x := (pr us i)) hpi.2) ?_
       refine TriL.slot 77 (.slice A24 (q.length + 1) (c25)) (.slice A24 ((q ++ [(pr us i)]).length) (c25)) (fun _ => by kernel_rfl) (by rw [len_snoc q (pr us i)]) ?_
       refine TriL.nil (by kernel_rfl) ?_
       exact TriQ.mid (A24, c25) (idx := [1, 2, 4, 7, 8, 9, 10, 77]) (pk := [0, 1, 2, 3, 4, 5, 6, 7]) (fun _ => by kernel_rfl) rfl (by kernel_rfl)
      rintro ⟨A24, c25⟩
      refine TriM.cut (ι := Unit) (fr' := fun (_ : Unit) => [(1, .int .i64 (x)), (2, .pointer (some ⟨b5, 0, none⟩)), (4, .pointer (some ⟨b6, 0, none⟩)), (7, .int .i64 ((TabM.least us))), (8, .pointer (some ⟨b7, 0, none⟩)), (9, .bool dn), (10, .int .i64 ↑i), (77, .slice A24 ((q ++ [(pr us i)]).length) (c25)), (78, .pointer (some ⟨b7, 3, none⟩))]) (hp' := fun (_ : Unit) => [.blk b5 [.int .i64 (M), .int .i64 (p), .slice A (us.length) (c), .slice B (us.length) (d)] 32, .blk b7 [.int .i64 (M), .int .i64 (p), .slice A21 ((q ++ [(pr us i)]).length) (c22), .slice Av (q.length) (cv)] 32, .abs (RowA 3 1 A21 ((q ++ [(pr us i)]).length) c22 (ints (keys (q ++ [(pr us i)])))), .abs (RowA 3 1 A24 ((q ++ [(pr us i)]).length) c25 (ints (vls (q ++ [(pr us i)])))), .blk b6 [.int .i64 0, .int .i64 0, .slice none (0) (0), .slice none (0) (0)] 32, .abs R, .blk b20 [.int .i64 (((keys us).getD i 0))] 3, .blk b23 [.int .i64 (((vls us).getD i 0))] 3]) [0, 1, 4, 5, 6] rfl rfl ?_ rfl (fun _ => by kernel_rfl) ?_
      ·
       refine TriL.segK (k' := 1) (fr' := [(1, .int .i64 (x)), (2, .pointer (some ⟨b5, 0, none⟩)), (4, .pointer (some ⟨b6, 0, none⟩)), (7, .int .i64 ((TabM.least us))), (8, .pointer (some ⟨b7, 0, none⟩)), (9, .bool dn), (10, .int .i64 ↑i), (77, .slice A24 ((q ++ [(pr us i)]).length) (c25)), (78, .pointer (some ⟨b7, 3, none⟩))]) (obl := []) [o_] [1, 2, 4, 7, 8, 9, 10, 77, 78] (fun _ _ => by kernel_rfl) trivial ?_
       refine TriL.nil (by kernel_rfl) ?_
       exact TriQ.mid () (idx := [1, 2, 4, 7, 8, 9, 10, 77, 78]) (pk := [0, 1, 2, 3, 4, 5, 6, 7]) (fun _ => by kernel_rfl) rfl (by kernel_rfl)
      rintro _
      refine TriM.last rfl rfl ?_
      refine TriL.seg (k' := 1) (fr' := [(1, .int .i64 (x)), (2, .pointer (some ⟨b5, 0, none⟩)), (4, .pointer (some ⟨b6, 0, none⟩)), (7, .int .i64 ((TabM.least us))), (8, .pointer (some ⟨b7, 0, none⟩)), (9, .bool dn), (10, .int .i64 ↑i)]) (hps' := [.blk b5 [.int .i64 (M), .int .i64 (p), .slice A (us.length) (c), .slice B (us.length) (d)] 32, .blk b7 [.int .i64 (M), .int .i64 (p), .slice A21 ((q ++ [(pr us i)]).length) (c22), .slice A24 ((q ++ [(pr us i)]).length) (c25)] 32, .abs (RowA 3 1 A21 ((q ++ [(pr us i)]).length) c22 (ints (keys (q ++ [(pr us i)])))), .abs (RowA 3 1 A24 ((q ++ [(pr us i)]).length) c25 (ints (vls (q ++ [(pr us i)])))), .blk b6 [.int .i64 0, .int .i64 0, .slice none (0) (0), .slice none (0) (0)] 32, .abs R, .blk b20 [.int .i64 (((keys us).getD i 0))] 3, .blk b23 [.int .i64 (((vls us).getD i 0))] 3]) (obl := [b7 = b7]) [⟨[.at 1], none, none, none, none⟩] [1, 2, 4, 7, 8, 9, 10] [0, 1, 2, 3, 4, 5, 6, 7] (fun _ _ => by kernel_rfl) ⟨rfl, trivial⟩ ?_
      refine TriL.nil (by kernel_rfl) (TriQ.np (TriQ.blockNormal (TriQ.next (Tri.region ?_))))
      refine TriL.segK (k' := 3) (fr' := [(1, .int .i64 (x)), (2, .pointer (some ⟨b5, 0, none⟩)), (4, .pointer (some ⟨b6, 0, none⟩)), (7, .int .i64 ((TabM.least us))), (8, .pointer (some ⟨b7, 0, none⟩)), (9, .bool dn), (10, .int .i64 ↑(i + 1))]) (obl := [(Value.int .i64 (IntKind.wrap .i64 (((i : Nat) : Int) + 1))) = (.int .i64 ↑(i + 1))]) [o_, ⟨[], none, none, none, some (.int .i64 ↑(i + 1))⟩, o_] [1, 2, 4, 7, 8, 9, 10] (fun _ _ => by kernel_rfl) ⟨wrapEq (by omega) (by omega) (by omega), trivial⟩ ?_
      refine TriL.nil (by kernel_rfl) ?_
      exact TriQ.turn ((i + 1), dn, (q ++ [(pr us i)]), A21, c22, A24, c25) (idx := [1, 2, 4, 7, 8, 9, 10]) (pk := [0, 1, 2, 3, 4, 5]) (show (((i + 1)) ≤ us.length) ∧ (PutAt us (TabM.least us) x ((i + 1)) dn ((q ++ [(pr us i)]))) from ⟨by omega, (show dn = true by simpa using h46) ▸ PutAt.more ((show dn = true by simpa using h46) ▸ hpt) (by omega)⟩) (by show us.length - ((i + 1)) < us.length - i; omega) (fun _ => by kernel_rfl) rfl (by kernel_rfl)
    ·
     refine TriL.segK (k' := 11) (fr' := [(1, .int .i64 (x)), (2, .pointer (some ⟨b5, 0, none⟩)), (4, .pointer (some ⟨b6, 0, none⟩)), (7, .int .i64 ((TabM.least us))), (8, .pointer (some ⟨b7, 0, none⟩)), (9, .bool dn), (10, .int .i64 ↑i), (46, .bool false)]) (obl := []) [o_, o_, o_] [1, 2, 4, 7, 8, 9, 10, 46] (fun _ _ => by kernel_rfl) trivial ?_
     refine TriL.nil (by kernel_rfl) (TriQ.next ?_)
     refine Tri.condF (fun _ => by kernel_rfl) ?_
     refine Tri.skip (TriQ.next (Tri.seq ?_))
     refine Tri.regionMix (S := [.blk b5 [.int .i64 (M), .int .i64 (p), .slice A (us.length) (c), .slice B (us.length) (d)] 32, .blk b7 [.int .i64 (M), .int .i64 (p), .slice Ah (q.length) (ch), .slice Av (q.length) (cv)] 32, .blk b6 [.int .i64 0, .int .i64 0, .slice none (0) (0), .slice none (0) (0)] 32, .abs R]) [0, 1, 2, 3, 4, 5, 6, 7, 8, 9, 10] 7 [0, 1, 4, 5] (by kernel_rfl) (by kernel_rfl) rfl (by kernel_rfl) ?_
     refine TriM.reads (r := 0) (l := [7, 8, 9, 10]) (fr' := [(1, .int .i64 (x)), (2, .pointer (some ⟨b5, 0, none⟩)), (4, .pointer (some ⟨b6, 0, none⟩)), (7, .int .i64 ((TabM.least us))), (8, .pointer (some ⟨b7, 0, none⟩)), (9, .bool dn), (10, .int .i64 ↑i), (60, .slice Ah (q.length) (ch)), (65, .int .i64 (((keys us).getD i 0)))]) (obl := [(Rd β ⟨(blkOf A), offOf A + i * 1, none⟩ (.int .i64 (((keys us).getD i 0)))), ((i : Nat) : Int) = ((i : Nat) : Int), i < us.length, (⟨(blkOf A), offOf A, none⟩ : Addr).spot = none, (A : Option Addr) = some ⟨(blkOf A), offOf A, none⟩, b5 = b5, b7 = b7]) [0, 1, 2, 3, 4, 5, 6] [o_, ⟨[.at 1], none, none, none, none⟩, o_, ⟨[.at 0], none, none, none, none⟩, o_, ⟨[], some i, none, some ⟨(blkOf A), offOf A, none⟩, none⟩, ⟨[.old (.int .i64 (((keys us).getD i 0)))], none, none, none, none⟩] [1, 2, 4, 7, 8, 9, 10, 60, 65] (fun _ => by kernel_rfl) ⟨IntsR.rd hA (j := i) (by rw [kys_len]; omega), rfl, by omega, rfl, IntsR.hd hA (j := i) (by rw [kys_len]; omega), rfl, rfl, trivial⟩ rfl rfl ?_
     refine TriM.cut (ι := Nat) (fr' := fun (b26 : Nat) => [(1, .int .i64 (x)), (2, .pointer (some ⟨b5, 0, none⟩)), (4, .pointer (some ⟨b6, 0, none⟩)), (7, .int .i64 ((TabM.least us))), (8, .pointer (some ⟨b7, 0, none⟩)), (9, .bool dn), (10, .int .i64 ↑i), (60, .slice Ah (q.length) (ch)), (66, .slice (some ⟨b26, 0, none⟩) (1) (1))]) (hp' := fun (b26 : Nat) => [.blk b5 [.int .i64 (M), .int .i64 (p), .slice A (us.length) (c), .slice B (us.length) (d)] 32, .blk b7 [.int .i64 (M), .int .i64 (p), .slice Ah (q.length) (ch), .slice Av (q.length) (cv)] 32, .abs (RowA 3 1 Ah q.length ch (ints (keys q))), .abs (RowA 3 1 Av q.length cv (ints (vls q))), .blk b6 [.int .i64 0, .int .i64 0, .slice none (0) (0), .slice none (0) (0)] 32, .abs R, .blk b26 [.int .i64 (((keys us).getD i 0))] 3]) [0, 1, 4, 5] rfl rfl ?_ rfl (fun _ => by kernel_rfl) ?_
     ·
      refine TriL.segN (k' := 1) (fr' := fun b26 => [(1, .int .i64 (x)), (2, .pointer (some ⟨b5, 0, none⟩)), (4, .pointer (some ⟨b6, 0, none⟩)), (7, .int .i64 ((TabM.least us))), (8, .pointer (some ⟨b7, 0, none⟩)), (9, .bool dn), (10, .int .i64 ↑i), (60, .slice Ah (q.length) (ch)), (66, .slice (some ⟨b26, 0, none⟩) (1) (1))]) (hps' := fun b26 => [.blk b5 [.int .i64 (M), .int .i64 (p), .slice A (us.length) (c), .slice B (us.length) (d)] 32, .blk b7 [.int .i64 (M), .int .i64 (p), .slice Ah (q.length) (ch), .slice Av (q.length) (cv)] 32, .abs (RowA 3 1 Ah q.length ch (ints (keys q))), .abs (RowA 3 1 Av q.length cv (ints (vls q))), .blk b6 [.int .i64 0, .int .i64 0, .slice none (0) (0), .slice none (0) (0)] 32, .abs R, .blk b26 [.int .i64 (((keys us).getD i 0))] 3]) (obl := fun b26 => []) [o_] [1, 2, 4, 7, 8, 9, 10, 60, 66] [0, 1, 2, 3, 4, 5, 6] (fun _ _ => by kernel_rfl) (fun b26 => trivial) (fun b26 => ?_)
      refine TriL.nil (by kernel_rfl) ?_
      exact TriQ.mid b26 (idx := [1, 2, 4, 7, 8, 9, 10, 60, 66]) (pk := [0, 1, 2, 3, 4, 5, 6]) (fun _ => by kernel_rfl) rfl (by kernel_rfl)
     rintro b26
     refine TriM.cut (ι := (Option Addr) × Nat) (fr' := fun ((A27, c28) : (Option Addr) × Nat) => [(1, .int .i64 (x)), (2, .pointer (some ⟨b5, 0, none⟩)), (4, .pointer (some ⟨b6, 0, none⟩)), (7, .int .i64 ((TabM.least us))), (8, .pointer (some ⟨b7, 0, none⟩)), (9, .bool dn), (10, .int .i64 ↑i), (67, .slice A27 ((q ++ [(pr us i)]).length) (c28))]) (hp' := fun ((A27, c28) : (Option Addr) × Nat) => [.blk b5 [.int .i64 (M), .int .i64 (p), .slice A (us.length) (c), .slice B (us.length) (d)] 32, .blk b7 [.int .i64 (M), .int .i64 (p), .slice Ah (q.length) (ch), .slice Av (q.length) (cv)] 32, .abs (RowA 3 1 A27 ((q ++ [(pr us i)]).length) c28 (ints (keys (q ++ [(pr us i)])))), .abs (RowA 3 1 Av q.length cv (ints (vls q))), .blk b6 [.int .i64 0, .int .i64 0, .slice none (0) (0), .slice none (0) (0)] 32, .abs R, .blk b26 [.int .i64 (((keys us).getD i 0))] 3]) [0, 1, 4, 5] rfl rfl ?_ rfl (fun _ => by kernel_rfl) ?_
     ·
      refine TriL.append 2 (d := (some 67)) (t := 30) (e := 3) (z := .int .i64 0) (size := 1) (bytes := 8) (n := q.length) (cap := ch) (A := Ah) (xs := (ints (keys q))) (s := (.tmp 60)) (x := (.tmp 66)) (ats := #[30, 30]) (A' := some ⟨b26, 0, none⟩) (m := 1) (c' := 1) (news := [.int .i64 (((keys us).getD i 0))]) (fun _ => by kernel_rfl) rfl (by kernel_rfl) (fun _ => by kernel_rfl) (fun _ => by kernel_rfl) Try.underlying30 (by kernel_rfl) rfl (by decide) (by simp) (by simp [Value.oneCell']) (src_blk (j := 6) rfl) (by unfold maxLen; have := hlq; have := len_snoc q (TabM.least us, x); omega) (by have := hlq; have := len_snoc q (TabM.least us, x); omega) (fun A27 c28 => ?_)
      refine TriL.partEq 2 (p := .abs (RowA 3 1 A27 (q.length + 1) c28 ((ints (keys q)) ++ [.int .i64 (((keys us).getD i 0))]))) (p' := .abs (RowA 3 1 A27 ((q ++ [(pr us i)]).length) c28 (ints (keys (q ++ [(pr us i)]))))) (by kernel_rfl) (rowK (x := (pr us i)) hpi.1) ?_
      refine TriL.slot 67 (.slice A27 (q.length + 1) (c28)) (.slice A27 ((q ++ [(pr us i)]).length) (c28)) (fun _ => by kernel_rfl) (by rw [len_snoc q (pr us i)]) ?_
      refine TriL.nil (by kernel_rfl) ?_
      exact TriQ.mid (A27, c28) (idx := [1, 2, 4, 7, 8, 9, 10, 67]) (pk := [0, 1, 2, 3, 4, 5, 6]) (fun _ => by kernel_rfl) rfl (by kernel_rfl)
     rintro ⟨A27, c28⟩
     refine TriM.cut (ι := Unit) (fr' := fun (_ : Unit) => [(1, .int .i64 (x)), (2, .pointer (some ⟨b5, 0, none⟩)), (4, .pointer (some ⟨b6, 0, none⟩)), (7, .int .i64 ((TabM.least us))), (8, .pointer (some ⟨b7, 0, none⟩)), (9, .bool dn), (10, .int .i64 ↑i), (67, .slice A27 ((q ++ [(pr us i)]).length) (c28)), (68, .pointer (some ⟨b7, 2, none⟩))]) (hp' := fun (_ : Unit) => [.blk b5 [.int .i64 (M), .int .i64 (p), .slice A (us.length) (c), .slice B (us.length) (d)] 32, .blk b7 [.int .i64 (M), .int .i64 (p), .slice Ah (q.length) (ch), .slice Av (q.length) (cv)] 32, .abs (RowA 3 1 A27 ((q ++ [(pr us i)]).length) c28 (ints (keys (q ++ [(pr us i)])))), .abs (RowA 3 1 Av q.length cv (ints (vls q))), .blk b6 [.int .i64 0, .int .i64 0, .slice none (0) (0), .slice none (0) (0)] 32, .abs R, .blk b26 [.int .i64 (((keys us).getD i 0))] 3]) [0, 1, 4, 5] rfl rfl ?_ rfl (fun _ => by kernel_rfl) ?_
     ·
      refine TriL.segK (k' := 1) (fr' := [(1, .int .i64 (x)), (2, .pointer (some ⟨b5, 0, none⟩)), (4, .pointer (some ⟨b6, 0, none⟩)), (7, .int .i64 ((TabM.least us))), (8, .pointer (some ⟨b7, 0, none⟩)), (9, .bool dn), (10, .int .i64 ↑i), (67, .slice A27 ((q ++ [(pr us i)]).length) (c28)), (68, .pointer (some ⟨b7, 2, none⟩))]) (obl := []) [o_] [1, 2, 4, 7, 8, 9, 10, 67, 68] (fun _ _ => by kernel_rfl) trivial ?_
      refine TriL.nil (by kernel_rfl) ?_
      exact TriQ.mid () (idx := [1, 2, 4, 7, 8, 9, 10, 67, 68]) (pk := [0, 1, 2, 3, 4, 5, 6]) (fun _ => by kernel_rfl) rfl (by kernel_rfl)
     rintro _
     refine TriM.last rfl rfl ?_
     refine TriL.seg (k' := 1) (fr' := [(1, .int .i64 (x)), (2, .pointer (some ⟨b5, 0, none⟩)), (4, .pointer (some ⟨b6, 0, none⟩)), (7, .int .i64 ((TabM.least us))), (8, .pointer (some ⟨b7, 0, none⟩)), (9, .bool dn), (10, .int .i64 ↑i)]) (hps' := [.blk b5 [.int .i64 (M), .int .i64 (p), .slice A (us.length) (c), .slice B (us.length) (d)] 32, .blk b7 [.int .i64 (M), .int .i64 (p), .slice A27 ((q ++ [(pr us i)]).length) (c28), .slice Av (q.length) (cv)] 32, .abs (RowA 3 1 A27 ((q ++ [(pr us i)]).length) c28 (ints (keys (q ++ [(pr us i)])))), .abs (RowA 3 1 Av q.length cv (ints (vls q))), .blk b6 [.int .i64 0, .int .i64 0, .slice none (0) (0), .slice none (0) (0)] 32, .abs R, .blk b26 [.int .i64 (((keys us).getD i 0))] 3]) (obl := [b7 = b7]) [⟨[.at 1], none, none, none, none⟩] [1, 2, 4, 7, 8, 9, 10] [0, 1, 2, 3, 4, 5, 6] (fun _ _ => by kernel_rfl) ⟨rfl, trivial⟩ ?_
     refine TriL.nil (by kernel_rfl) (TriQ.np (TriQ.next ?_))
     refine Tri.regionMix (S := [.blk b5 [.int .i64 (M), .int .i64 (p), .slice A (us.length) (c), .slice B (us.length) (d)] 32, .blk b7 [.int .i64 (M), .int .i64 (p), .slice A27 ((q ++ [(pr us i)]).length) (c28), .slice Av (q.length) (cv)] 32, .blk b6 [.int .i64 0, .int .i64 0, .slice none (0) (0), .slice none (0) (0)] 32, .abs R, .blk b26 [.int .i64 (((keys us).getD i 0))] 3]) [0, 1, 2, 3, 4, 5, 6, 7, 8, 9, 10] 7 [0, 1, 4, 5, 6] (by kernel_rfl) (by kernel_rfl) rfl (by kernel_rfl) ?_
     refine TriM.reads (r := 0) (l := [7, 8, 9, 10]) (fr' := [(1, .int .i64 (x)), (2, .pointer (some ⟨b5, 0, none⟩)), (4, .pointer (some ⟨b6, 0, none⟩)), (7, .int .i64 ((TabM.least us))), (8, .pointer (some ⟨b7, 0, none⟩)), (9, .bool dn), (10, .int .i64 ↑i), (70, .slice Av (q.length) (cv)), (75, .int .i64 (((vls us).getD i 0)))]) (obl := [(Rd β ⟨(blkOf B), offOf B + i * 1, none⟩ (.int .i64 (((vls us).getD i 0)))), ((i : Nat) : Int) = ((i : Nat) : Int), i < us.length, (⟨(blkOf B), offOf B, none⟩ : Addr).spot = none, (B : Option Addr) = some ⟨(blkOf B), offOf B, none⟩, b5 = b5, b7 = b7]) [0, 1, 2, 3, 4, 5, 6] [o_, ⟨[.at 1], none, none, none, none⟩, o_, ⟨[.at 0], none, none, none, none⟩, o_, ⟨[], some i, none, some ⟨(blkOf B), offOf B, none⟩, none⟩, ⟨[.old (.int .i64 (((vls us).getD i 0)))], none, none, none, none⟩] [1, 2, 4, 7, 8, 9, 10, 70, 75] (fun _ => by kernel_rfl) ⟨IntsR.rd hB (j := i) (by rw [vls_len]; omega), rfl, by omega, rfl, IntsR.hd hB (j := i) (by rw [vls_len]; omega), rfl, rfl, trivial⟩ rfl rfl ?_
     refine TriM.cut (ι := Nat) (fr' := fun (b29 : Nat) => [(1, .int .i64 (x)), (2, .pointer (some ⟨b5, 0, none⟩)), (4, .pointer (some ⟨b6, 0, none⟩)), (7, .int .i64 ((TabM.least us))), (8, .pointer (some ⟨b7, 0, none⟩)), (9, .bool dn), (10, .int .i64 ↑i), (70, .slice Av (q.length) (cv)), (76, .slice (some ⟨b29, 0, none⟩) (1) (1))]) (hp' := fun (b29 : Nat) => [.blk b5 [.int .i64 (M), .int .i64 (p), .slice A (us.length) (c), .slice B (us.length) (d)] 32, .blk b7 [.int .i64 (M), .int .i64 (p), .slice A27 ((q ++ [(pr us i)]).length) (c28), .slice Av (q.length) (cv)] 32, .abs (RowA 3 1 A27 ((q ++ [(pr us i)]).length) c28 (ints (keys (q ++ [(pr us i)])))), .abs (RowA 3 1 Av q.length cv (ints (vls q))), .blk b6 [.int .i64 0, .int .i64 0, .slice none (0) (0), .slice none (0) (0)] 32, .abs R, .blk b26 [.int .i64 (((keys us).getD i 0))] 3, .blk b29 [.int .i64 (((vls us).getD i 0))] 3]) [0, 1, 4, 5, 6] rfl rfl ?_ rfl (fun _ => by kernel_rfl) ?_
     ·
      refine TriL.segN (k' := 1) (fr' := fun b29 => [(1, .int .i64 (x)), (2, .pointer (some ⟨b5, 0, none⟩)), (4, .pointer (some ⟨b6, 0, none⟩)), (7, .int .i64 ((TabM.least us))), (8, .pointer (some ⟨b7, 0, none⟩)), (9, .bool dn), (10, .int .i64 ↑i), (70, .slice Av (q.length) (cv)), (76, .slice (some ⟨b29, 0, none⟩) (1) (1))]) (hps' := fun b29 => [.blk b5 [.int .i64 (M), .int .i64 (p), .slice A (us.length) (c), .slice B (us.length) (d)] 32, .blk b7 [.int .i64 (M), .int .i64 (p), .slice A27 ((q ++ [(pr us i)]).length) (c28), .slice Av (q.length) (cv)] 32, .abs (RowA 3 1 A27 ((q ++ [(pr us i)]).length) c28 (ints (keys (q ++ [(pr us i)])))), .abs (RowA 3 1 Av q.length cv (ints (vls q))), .blk b6 [.int .i64 0, .int .i64 0, .slice none (0) (0), .slice none (0) (0)] 32, .abs R, .blk b26 [.int .i64 (((keys us).getD i 0))] 3, .blk b29 [.int .i64 (((vls us).getD i 0))] 3]) (obl := fun b29 => []) [o_] [1, 2, 4, 7, 8, 9, 10, 70, 76] [0, 1, 2, 3, 4, 5, 6, 7] (fun _ _ => by kernel_rfl) (fun b29 => trivial) (fun b29 => ?_)
      refine TriL.nil (by kernel_rfl) ?_
      exact TriQ.mid b29 (idx := [1, 2, 4, 7, 8, 9, 10, 70, 76]) (pk := [0, 1, 2, 3, 4, 5, 6, 7]) (fun _ => by kernel_rfl) rfl (by kernel_rfl)
     rintro b29
     refine TriM.cut (ι := (Option Addr) × Nat) (fr' := fun ((A30, c31) : (Option Addr) × Nat) => [(1, .int .i64 (x)), (2, .pointer (some ⟨b5, 0, none⟩)), (4, .pointer (some ⟨b6, 0, none⟩)), (7, .int .i64 ((TabM.least us))), (8, .pointer (some ⟨b7, 0, none⟩)), (9, .bool dn), (10, .int .i64 ↑i), (77, .slice A30 ((q ++ [(pr us i)]).length) (c31))]) (hp' := fun ((A30, c31) : (Option Addr) × Nat) => [.blk b5 [.int .i64 (M), .int .i64 (p), .slice A (us.length) (c), .slice B (us.length) (d)] 32, .blk b7 [.int .i64 (M), .int .i64 (p), .slice A27 ((q ++ [(pr us i)]).length) (c28), .slice Av (q.length) (cv)] 32, .abs (RowA 3 1 A27 ((q ++ [(pr us i)]).length) c28 (ints (keys (q ++ [(pr us i)])))), .abs (RowA 3 1 A30 ((q ++ [(pr us i)]).length) c31 (ints (vls (q ++ [(pr us i)])))), .blk b6 [.int .i64 0, .int .i64 0, .slice none (0) (0), .slice none (0) (0)] 32, .abs R, .blk b26 [.int .i64 (((keys us).getD i 0))] 3, .blk b29 [.int .i64 (((vls us).getD i 0))] 3]) [0, 1, 4, 5, 6] rfl rfl ?_ rfl (fun _ => by kernel_rfl) ?_
     ·
      refine TriL.append 3 (d := (some 77)) (t := 30) (e := 3) (z := .int .i64 0) (size := 1) (bytes := 8) (n := q.length) (cap := cv) (A := Av) (xs := (ints (vls q))) (s := (.tmp 70)) (x := (.tmp 76)) (ats := #[30, 30]) (A' := some ⟨b29, 0, none⟩) (m := 1) (c' := 1) (news := [.int .i64 (((vls us).getD i 0))]) (fun _ => by kernel_rfl) rfl (by kernel_rfl) (fun _ => by kernel_rfl) (fun _ => by kernel_rfl) Try.underlying30 (by kernel_rfl) rfl (by decide) (by simp) (by simp [Value.oneCell']) (src_blk (j := 7) rfl) (by unfold maxLen; have := hlq; have := len_snoc q (TabM.least us, x); omega) (by have := hlq; have := len_snoc q (TabM.least us, x); omega) (fun A30 c31 => ?_)
      refine TriL.partEq 3 (p := .abs (RowA 3 1 A30 (q.length + 1) c31 ((ints (vls q)) ++ [.int .i64 (((vls us).getD i 0))]))) (p' := .abs (RowA 3 1 A30 ((q ++ [(pr us i)]).length) c31 (ints (vls (q ++ [(pr us i)]))))) (by kernel_rfl) (rowV (x := (pr us i)) hpi.2) ?_
      refine TriL.slot 77 (.slice A30 (q.length + 1) (c31)) (.slice A30 ((q ++ [(pr us i)]).length) (c31)) (fun _ => by kernel_rfl) (by rw [len_snoc q (pr us i)]) ?_
      refine TriL.nil (by kernel_rfl) ?_
      exact TriQ.mid (A30, c31) (idx := [1, 2, 4, 7, 8, 9, 10, 77]) (pk := [0, 1, 2, 3, 4, 5, 6, 7]) (fun _ => by kernel_rfl) rfl (by kernel_rfl)
     rintro ⟨A30, c31⟩
     refine TriM.cut (ι := Unit) (fr' := fun (_ : Unit) => [(1, .int .i64 (x)), (2, .pointer (some ⟨b5, 0, none⟩)), (4, .pointer (some ⟨b6, 0, none⟩)), (7, .int .i64 ((TabM.least us))), (8, .pointer (some ⟨b7, 0, none⟩)), (9, .bool dn), (10, .int .i64 ↑i), (77, .slice A30 ((q ++ [(pr us i)]).length) (c31)), (78, .pointer (some ⟨b7, 3, none⟩))]) (hp' := fun (_ : Unit) => [.blk b5 [.int .i64 (M), .int .i64 (p), .slice A (us.length) (c), .slice B (us.length) (d)] 32, .blk b7 [.int .i64 (M), .int .i64 (p), .slice A27 ((q ++ [(pr us i)]).length) (c28), .slice Av (q.length) (cv)] 32, .abs (RowA 3 1 A27 ((q ++ [(pr us i)]).length) c28 (ints (keys (q ++ [(pr us i)])))), .abs (RowA 3 1 A30 ((q ++ [(pr us i)]).length) c31 (ints (vls (q ++ [(pr us i)])))), .blk b6 [.int .i64 0, .int .i64 0, .slice none (0) (0), .slice none (0) (0)] 32, .abs R, .blk b26 [.int .i64 (((keys us).getD i 0))] 3, .blk b29 [.int .i64 (((vls us).getD i 0))] 3]) [0, 1, 4, 5, 6] rfl rfl ?_ rfl (fun _ => by kernel_rfl) ?_
     ·
      refine TriL.segK (k' := 1) (fr' := [(1, .int .i64 (x)), (2, .pointer (some ⟨b5, 0, none⟩)), (4, .pointer (some ⟨b6, 0, none⟩)), (7, .int .i64 ((TabM.least us))), (8, .pointer (some ⟨b7, 0, none⟩)), (9, .bool dn), (10, .int .i64 ↑i), (77, .slice A30 ((q ++ [(pr us i)]).length) (c31)), (78, .pointer (some ⟨b7, 3, none⟩))]) (obl := []) [o_] [1, 2, 4, 7, 8, 9, 10, 77, 78] (fun _ _ => by kernel_rfl) trivial ?_
      refine TriL.nil (by kernel_rfl) ?_
      exact TriQ.mid () (idx := [1, 2, 4, 7, 8, 9, 10, 77, 78]) (pk := [0, 1, 2, 3, 4, 5, 6, 7]) (fun _ => by kernel_rfl) rfl (by kernel_rfl)
     rintro _
     refine TriM.last rfl rfl ?_
     refine TriL.seg (k' := 1) (fr' := [(1, .int .i64 (x)), (2, .pointer (some ⟨b5, 0, none⟩)), (4, .pointer (some ⟨b6, 0, none⟩)), (7, .int .i64 ((TabM.least us))), (8, .pointer (some ⟨b7, 0, none⟩)), (9, .bool dn), (10, .int .i64 ↑i)]) (hps' := [.blk b5 [.int .i64 (M), .int .i64 (p), .slice A (us.length) (c), .slice B (us.length) (d)] 32, .blk b7 [.int .i64 (M), .int .i64 (p), .slice A27 ((q ++ [(pr us i)]).length) (c28), .slice A30 ((q ++ [(pr us i)]).length) (c31)] 32, .abs (RowA 3 1 A27 ((q ++ [(pr us i)]).length) c28 (ints (keys (q ++ [(pr us i)])))), .abs (RowA 3 1 A30 ((q ++ [(pr us i)]).length) c31 (ints (vls (q ++ [(pr us i)])))), .blk b6 [.int .i64 0, .int .i64 0, .slice none (0) (0), .slice none (0) (0)] 32, .abs R, .blk b26 [.int .i64 (((keys us).getD i 0))] 3, .blk b29 [.int .i64 (((vls us).getD i 0))] 3]) (obl := [b7 = b7]) [⟨[.at 1], none, none, none, none⟩] [1, 2, 4, 7, 8, 9, 10] [0, 1, 2, 3, 4, 5, 6, 7] (fun _ _ => by kernel_rfl) ⟨rfl, trivial⟩ ?_
     refine TriL.nil (by kernel_rfl) (TriQ.np (TriQ.blockNormal (TriQ.next (Tri.region ?_))))
     refine TriL.segK (k' := 3) (fr' := [(1, .int .i64 (x)), (2, .pointer (some ⟨b5, 0, none⟩)), (4, .pointer (some ⟨b6, 0, none⟩)), (7, .int .i64 ((TabM.least us))), (8, .pointer (some ⟨b7, 0, none⟩)), (9, .bool dn), (10, .int .i64 ↑(i + 1))]) (obl := [(Value.int .i64 (IntKind.wrap .i64 (((i : Nat) : Int) + 1))) = (.int .i64 ↑(i + 1))]) [o_, ⟨[], none, none, none, some (.int .i64 ↑(i + 1))⟩, o_] [1, 2, 4, 7, 8, 9, 10] (fun _ _ => by kernel_rfl) ⟨wrapEq (by omega) (by omega) (by omega), trivial⟩ ?_
     refine TriL.nil (by kernel_rfl) ?_
     exact TriQ.turn ((i + 1), dn, (q ++ [(pr us i)]), A27, c28, A30, c31) (idx := [1, 2, 4, 7, 8, 9, 10]) (pk := [0, 1, 2, 3, 4, 5]) (show (((i + 1)) ≤ us.length) ∧ (PutAt us (TabM.least us) x ((i + 1)) dn ((q ++ [(pr us i)]))) from ⟨by omega, hpt.keep (by omega) (by rw [← hpi.1]; omega)⟩) (by show us.length - ((i + 1)) < us.length - i; omega) (fun _ => by kernel_rfl) rfl (by kernel_rfl)
   ·
    refine Tri.exit (TriQ.passExit (TriQ.passExit (TriQ.blockHit (TriQ.next (Tri.seq (Tri.seq (Tri.region ?_)))))))
    have hiu : i = us.length := by omega
    subst hiu
    have hlq : q.length ≤ us.length + 1 := by have := hpt.len; cases dn <;> simp at this <;> omega
    refine TriL.segK (k' := 2) (fr' := [(1, .int .i64 (x)), (4, .pointer (some ⟨b6, 0, none⟩)), (7, .int .i64 ((TabM.least us))), (8, .pointer (some ⟨b7, 0, none⟩)), (80, .bool (!dn))]) (obl := []) [o_, o_] [1, 4, 7, 8, 80] (fun _ _ => by kernel_rfl) trivial ?_
    refine TriL.nil (by kernel_rfl) (TriQ.next ?_)
    refine Tri.cond (b := (!dn)) (fun _ => by kernel_rfl) (fun h80 => ?_) (fun h80 => ?_)
    ·
     refine Tri.seq (Tri.region ?_)
     refine TriL.segN (k' := 4) (fr' := fun b32 => [(1, .int .i64 (x)), (4, .pointer (some ⟨b6, 0, none⟩)), (7, .int .i64 ((TabM.least us))), (8, .pointer (some ⟨b7, 0, none⟩)), (82, .slice Ah (q.length) (ch)), (84, .slice (some ⟨b32, 0, none⟩) (1) (1))]) (hps' := fun b32 => [.blk b5 [.int .i64 (M), .int .i64 (p), .slice A (us.length) (c), .slice B (us.length) (d)] 32, .blk b7 [.int .i64 (M), .int .i64 (p), .slice Ah (q.length) (ch), .slice Av (q.length) (cv)] 32, .abs (RowA 3 1 Ah q.length ch (ints (keys q))), .abs (RowA 3 1 Av q.length cv (ints (vls q))), .blk b6 [.int .i64 0, .int .i64 0, .slice none (0) (0), .slice none (0) (0)] 32, .abs R, .blk b32 [.int .i64 ((TabM.least us))] 3]) (obl := fun b32 => [b7 = b7]) [o_, ⟨[.at 1], none, none, none, none⟩, o_, o_] [1, 4, 7, 8, 82, 84] [0, 1, 2, 3, 4, 5, 6] (fun _ _ => by kernel_rfl) (fun b32 => ⟨rfl, trivial⟩) (fun b32 => ?_)
     refine TriL.append 2 (d := (some 85)) (t := 30) (e := 3) (z := .int .i64 0) (size := 1) (bytes := 8) (n := q.length) (cap := ch) (A := Ah) (xs := (ints (keys q))) (s := (.tmp 82)) (x := (.tmp 84)) (ats := #[30, 30]) (A' := some ⟨b32, 0, none⟩) (m := 1) (c' := 1) (news := [.int .i64 ((TabM.least us))]) (fun _ => by kernel_rfl) rfl (by kernel_rfl) (fun _ => by kernel_rfl) (fun _ => by kernel_rfl) Try.underlying30 (by kernel_rfl) rfl (by decide) (by simp) (by simp [Value.oneCell']) (src_blk (j := 6) rfl) (by unfold maxLen; have := hlq; have := len_snoc q (TabM.least us, x); omega) (by have := hlq; have := len_snoc q (TabM.least us, x); omega) (fun A33 c34 => ?_)
     refine TriL.partEq 2 (p := .abs (RowA 3 1 A33 (q.length + 1) c34 ((ints (keys q)) ++ [.int .i64 ((TabM.least us))]))) (p' := .abs (RowA 3 1 A33 ((q ++ [(TabM.least us, x)]).length) c34 (ints (keys (q ++ [(TabM.least us, x)]))))) (by kernel_rfl) (rowK (x := (TabM.least us, x)) rfl) ?_
     refine TriL.slot 85 (.slice A33 (q.length + 1) (c34)) (.slice A33 ((q ++ [(TabM.least us, x)]).length) (c34)) (fun _ => by kernel_rfl) (by rw [len_snoc q (TabM.least us, x)]) ?_
     refine TriL.seg (k' := 7) (fr' := [(1, .int .i64 (x)), (4, .pointer (some ⟨b6, 0, none⟩)), (7, .int .i64 ((TabM.least us))), (8, .pointer (some ⟨b7, 0, none⟩))]) (hps' := [.blk b5 [.int .i64 (M), .int .i64 (p), .slice A (us.length) (c), .slice B (us.length) (d)] 32, .blk b7 [.int .i64 (M), .int .i64 (p), .slice A33 ((q ++ [(TabM.least us, x)]).length) (c34), .slice Av (q.length) (cv)] 32, .abs (RowA 3 1 A33 ((q ++ [(TabM.least us, x)]).length) c34 (ints (keys (q ++ [(TabM.least us, x)])))), .abs (RowA 3 1 Av q.length cv (ints (vls q))), .blk b6 [.int .i64 0, .int .i64 0, .slice none (0) (0), .slice none (0) (0)] 32, .abs R, .blk b32 [.int .i64 ((TabM.least us))] 3]) (obl := [b7 = b7]) [o_, ⟨[.at 1], none, none, none, none⟩] [1, 4, 7, 8] [0, 1, 2, 3, 4, 5, 6] (fun _ _ => by kernel_rfl) ⟨rfl, trivial⟩ ?_
     refine TriL.nil (by kernel_rfl) (TriQ.next (Tri.region ?_))
     refine TriL.segN (k' := 4) (fr' := fun b35 => [(4, .pointer (some ⟨b6, 0, none⟩)), (7, .int .i64 ((TabM.least us))), (8, .pointer (some ⟨b7, 0, none⟩)), (88, .slice Av (q.length) (cv)), (90, .slice (some ⟨b35, 0, none⟩) (1) (1))]) (hps' := fun b35 => [.blk b5 [.int .i64 (M), .int .i64 (p), .slice A (us.length) (c), .slice B (us.length) (d)] 32, .blk b7 [.int .i64 (M), .int .i64 (p), .slice A33 ((q ++ [(TabM.least us, x)]).length) (c34), .slice Av (q.length) (cv)] 32, .abs (RowA 3 1 A33 ((q ++ [(TabM.least us, x)]).length) c34 (ints (keys (q ++ [(TabM.least us, x)])))), .abs (RowA 3 1 Av q.length cv (ints (vls q))), .blk b6 [.int .i64 0, .int .i64 0, .slice none (0) (0), .slice none (0) (0)] 32, .abs R, .blk b32 [.int .i64 ((TabM.least us))] 3, .blk b35 [.int .i64 (x)] 3]) (obl := fun b35 => [b7 = b7]) [o_, ⟨[.at 1], none, none, none, none⟩, o_, o_] [4, 7, 8, 88, 90] [0, 1, 2, 3, 4, 5, 6, 7] (fun _ _ => by kernel_rfl) (fun b35 => ⟨rfl, trivial⟩) (fun b35 => ?_)
     refine TriL.append 3 (d := (some 91)) (t := 30) (e := 3) (z := .int .i64 0) (size := 1) (bytes := 8) (n := q.length) (cap := cv) (A := Av) (xs := (ints (vls q))) (s := (.tmp 88)) (x := (.tmp 90)) (ats := #[30, 30]) (A' := some ⟨b35, 0, none⟩) (m := 1) (c' := 1) (news := [.int .i64 (x)]) (fun _ => by kernel_rfl) rfl (by kernel_rfl) (fun _ => by kernel_rfl) (fun _ => by kernel_rfl) Try.underlying30 (by kernel_rfl) rfl (by decide) (by simp) (by simp [Value.oneCell']) (src_blk (j := 7) rfl) (by unfold maxLen; have := hlq; have := len_snoc q (TabM.least us, x); omega) (by have := hlq; have := len_snoc q (TabM.least us, x); omega) (fun A36 c37 => ?_)
     refine TriL.partEq 3 (p := .abs (RowA 3 1 A36 (q.length + 1) c37 ((ints (vls q)) ++ [.int .i64 (x)]))) (p' := .abs (RowA 3 1 A36 ((q ++ [(TabM.least us, x)]).length) c37 (ints (vls (q ++ [(TabM.least us, x)]))))) (by kernel_rfl) (rowV (x := (TabM.least us, x)) rfl) ?_
     refine TriL.slot 91 (.slice A36 (q.length + 1) (c37)) (.slice A36 ((q ++ [(TabM.least us, x)]).length) (c37)) (fun _ => by kernel_rfl) (by rw [len_snoc q (TabM.least us, x)]) ?_
     refine TriL.seg (k' := 7) (fr' := [(4, .pointer (some ⟨b6, 0, none⟩)), (7, .int .i64 ((TabM.least us))), (8, .pointer (some ⟨b7, 0, none⟩))]) (hps' := [.blk b5 [.int .i64 (M), .int .i64 (p), .slice A (us.length) (c), .slice B (us.length) (d)] 32, .blk b7 [.int .i64 (M), .int .i64 (p), .slice A33 ((q ++ [(TabM.least us, x)]).length) (c34), .slice A36 ((q ++ [(TabM.least us, x)]).length) (c37)] 32, .abs (RowA 3 1 A33 ((q ++ [(TabM.least us, x)]).length) c34 (ints (keys (q ++ [(TabM.least us, x)])))), .abs (RowA 3 1 A36 ((q ++ [(TabM.least us, x)]).length) c37 (ints (vls (q ++ [(TabM.least us, x)])))), .blk b6 [.int .i64 0, .int .i64 0, .slice none (0) (0), .slice none (0) (0)] 32, .abs R, .blk b32 [.int .i64 ((TabM.least us))] 3, .blk b35 [.int .i64 (x)] 3]) (obl := [b7 = b7]) [o_, ⟨[.at 1], none, none, none, none⟩] [4, 7, 8] [0, 1, 2, 3, 4, 5, 6, 7] (fun _ _ => by kernel_rfl) ⟨rfl, trivial⟩ ?_
     refine TriL.nil (by kernel_rfl) (TriQ.next (Tri.seq (Tri.seq (Tri.region ?_))))
     refine TriL.segK (k' := 6) (fr' := [(4, .pointer (some ⟨b6, 0, none⟩)), (7, .int .i64 ((TabM.least us))), (8, .pointer (some ⟨b7, 0, none⟩)), (98, .bool (decide (((((q ++ [(TabM.least us, x)]).length : Nat) : Int) : Int) > (p : Int))))]) (obl := [b7 = b7, b7 = b7]) [o_, ⟨[.at 1], none, none, none, none⟩, o_, o_, ⟨[.at 1], none, none, none, none⟩, o_] [4, 7, 8, 98] (fun _ _ => by kernel_rfl) ⟨rfl, rfl, trivial⟩ ?_
     refine TriL.nil (by kernel_rfl) (TriQ.next ?_)
     refine Tri.condP (p := ((((q ++ [(TabM.least us, x)]).length : Nat) : Int) : Int) > (p : Int)) (fun _ => by kernel_rfl) (fun h98 => ?_) (fun h98 => ?_)
     ·
      refine Tri.region ?_
      refine TriL.seg (k' := 5) (fr' := [(4, .pointer (some ⟨b6, 0, none⟩)), (7, .int .i64 ((TabM.least us))), (8, .pointer (some ⟨b7, 0, none⟩))]) (hps' := [.blk b5 [.int .i64 (M), .int .i64 (p), .slice A (us.length) (c), .slice B (us.length) (d)] 32, .blk b7 [.int .i64 (M), .int .i64 ↑((q ++ [(TabM.least us, x)]).length), .slice A33 ((q ++ [(TabM.least us, x)]).length) (c34), .slice A36 ((q ++ [(TabM.least us, x)]).length) (c37)] 32, .abs (RowA 3 1 A33 ((q ++ [(TabM.least us, x)]).length) c34 (ints (keys (q ++ [(TabM.least us, x)])))), .abs (RowA 3 1 A36 ((q ++ [(TabM.least us, x)]).length) c37 (ints (vls (q ++ [(TabM.least us, x)])))), .blk b6 [.int .i64 0, .int .i64 0, .slice none (0) (0), .slice none (0) (0)] 32, .abs R, .blk b32 [.int .i64 ((TabM.least us))] 3, .blk b35 [.int .i64 (x)] 3]) (obl := [b7 = b7, b7 = b7]) [o_, ⟨[.at 1], none, none, none, none⟩, o_, o_, ⟨[.at 1], none, none, none, none⟩] [4, 7, 8] [0, 1, 2, 3, 4, 5, 6, 7] (fun _ _ => by kernel_rfl) ⟨rfl, rfl, trivial⟩ ?_
      refine TriL.nil (by kernel_rfl) (TriQ.next (Tri.seq (Tri.region ?_)))
      refine TriL.seg (k' := 5) (fr' := [(4, .pointer (some ⟨b6, 0, none⟩)), (5, .int .i64 ((TabM.least us))), (6, .int .i64 0)]) (hps' := [.blk b5 [.int .i64 (M), .int .i64 (p), .slice A (us.length) (c), .slice B (us.length) (d)] 32, .blk b7 [.int .i64 (M), .int .i64 ↑((q ++ [(TabM.least us, x)]).length), .slice A33 ((q ++ [(TabM.least us, x)]).length) (c34), .slice A36 ((q ++ [(TabM.least us, x)]).length) (c37)] 32, .abs (RowA 3 1 A33 ((q ++ [(TabM.least us, x)]).length) c34 (ints (keys (q ++ [(TabM.least us, x)])))), .abs (RowA 3 1 A36 ((q ++ [(TabM.least us, x)]).length) c37 (ints (vls (q ++ [(TabM.least us, x)])))), .blk b6 [.int .i64 (M), .int .i64 ↑((q ++ [(TabM.least us, x)]).length), .slice A33 ((q ++ [(TabM.least us, x)]).length) (c34), .slice A36 ((q ++ [(TabM.least us, x)]).length) (c37)] 32, .abs R, .blk b32 [.int .i64 ((TabM.least us))] 3, .blk b35 [.int .i64 (x)] 3]) (obl := [b6 = b6, b6 = b6, b6 = b6, b6 = b6, b7 = b7, b7 = b7, b7 = b7, b7 = b7]) [⟨[.at 1, .at 1, .at 1, .at 1], none, none, none, none⟩, o_, ⟨[.at 4, .at 4, .at 4, .at 4], none, none, none, none⟩, o_, o_] [4, 5, 6] [0, 1, 2, 3, 4, 5, 6, 7] (fun _ _ => by kernel_rfl) ⟨rfl, rfl, rfl, rfl, rfl, rfl, rfl, rfl, trivial⟩ ?_
      refine TriL.nil (by kernel_rfl) (TriQ.next (Tri.ret ?_))
      have hq : (q ++ [(TabM.least us, x)]) = ins (TabM.least us) x us := PutAt.last ((show dn = false by simpa using h80) ▸ hpt)
      have hql : ((q ++ [(TabM.least us, x)])).length = us.length + 1 := by rw [hq, len_ins]
      skip
      exact TriQ.ret (v := .tuple #[.agg #[.int .i64 (M), .int .i64 ↑((q ++ [(TabM.least us, x)]).length), .slice A33 ((q ++ [(TabM.least us, x)]).length) (c34), .slice A36 ((q ++ [(TabM.least us, x)]).length) (c37)], .int .i64 ((TabM.least us)), .int .i64 0]) (l := [.abs (RowA 3 1 A33 ((q ++ [(TabM.least us, x)]).length) c34 (ints (keys (q ++ [(TabM.least us, x)])))), .abs (RowA 3 1 A36 ((q ++ [(TabM.least us, x)]).length) c37 (ints (vls (q ++ [(TabM.least us, x)]))))]) (obl := [b6 = b6, b6 = b6, b6 = b6, b6 = b6]) [.at 4, .at 4, .at 4, .at 4] [2, 3, 5] (fun _ => by kernel_rfl) ⟨rfl, rfl, rfl, rfl, trivial⟩ rfl (by kernel_rfl) (⟨A33, c34, A36, c37, by rw [← hq, show max p ((us.length : Int) + 1) = (((q ++ [(TabM.least us, x)]).length : Nat) : Int) by omega], by rw [← hq]⟩)
     ·
      refine Tri.skip (TriQ.next (Tri.seq (Tri.region ?_)))
      refine TriL.seg (k' := 5) (fr' := [(4, .pointer (some ⟨b6, 0, none⟩)), (5, .int .i64 ((TabM.least us))), (6, .int .i64 0)]) (hps' := [.blk b5 [.int .i64 (M), .int .i64 (p), .slice A (us.length) (c), .slice B (us.length) (d)] 32, .blk b7 [.int .i64 (M), .int .i64 (p), .slice A33 ((q ++ [(TabM.least us, x)]).length) (c34), .slice A36 ((q ++ [(TabM.least us, x)]).length) (c37)] 32, .abs (RowA 3 1 A33 ((q ++ [(TabM.least us, x)]).length) c34 (ints (keys (q ++ [(TabM.least us, x)])))), .abs (RowA 3 1 A36 ((q ++ [(TabM.least us, x)]).length) c37 (ints (vls (q ++ [(TabM.least us, x)])))), .blk b6 [.int .i64 (M), .int .i64 (p), .slice A33 ((q ++ [(TabM.least us, x)]).length) (c34), .slice A36 ((q ++ [(TabM.least us, x)]).length) (c37)] 32, .abs R, .blk b32 [.int .i64 ((TabM.least us))] 3, .blk b35 [.int .i64 (x)] 3]) (obl := [b6 = b6, b6 = b6, b6 = b6, b6 = b6, b7 = b7, b7 = b7, b7 = b7, b7 = b7]) [⟨[.at 1, .at 1, .at 1, .at 1], none, none, none, none⟩, o_, ⟨[.at 4, .at 4, .at 4, .at 4], none, none, none, none⟩, o_, o_] [4, 5, 6] [0, 1, 2, 3, 4, 5, 6, 7] (fun _ _ => by kernel_rfl) ⟨rfl, rfl, rfl, rfl, rfl, rfl, rfl, rfl, trivial⟩ ?_
      refine TriL.nil (by kernel_rfl) (TriQ.next (Tri.ret ?_))
      have hq : (q ++ [(TabM.least us, x)]) = ins (TabM.least us) x us := PutAt.last ((show dn = false by simpa using h80) ▸ hpt)
      have hql : ((q ++ [(TabM.least us, x)])).length = us.length + 1 := by rw [hq, len_ins]
      skip
      exact TriQ.ret (v := .tuple #[.agg #[.int .i64 (M), .int .i64 (p), .slice A33 ((q ++ [(TabM.least us, x)]).length) (c34), .slice A36 ((q ++ [(TabM.least us, x)]).length) (c37)], .int .i64 ((TabM.least us)), .int .i64 0]) (l := [.abs (RowA 3 1 A33 ((q ++ [(TabM.least us, x)]).length) c34 (ints (keys (q ++ [(TabM.least us, x)])))), .abs (RowA 3 1 A36 ((q ++ [(TabM.least us, x)]).length) c37 (ints (vls (q ++ [(TabM.least us, x)]))))]) (obl := [b6 = b6, b6 = b6, b6 = b6, b6 = b6]) [.at 4, .at 4, .at 4, .at 4] [2, 3, 5] (fun _ => by kernel_rfl) ⟨rfl, rfl, rfl, rfl, trivial⟩ rfl (by kernel_rfl) (⟨A33, c34, A36, c37, by rw [← hq, show max p ((us.length : Int) + 1) = p by omega], by rw [← hq]⟩)
    ·
     refine Tri.skip (TriQ.next (Tri.seq (Tri.seq (Tri.region ?_))))
     refine TriL.segK (k' := 6) (fr' := [(4, .pointer (some ⟨b6, 0, none⟩)), (7, .int .i64 ((TabM.least us))), (8, .pointer (some ⟨b7, 0, none⟩)), (98, .bool (decide ((((q.length : Nat) : Int) : Int) > (p : Int))))]) (obl := [b7 = b7, b7 = b7]) [o_, ⟨[.at 1], none, none, none, none⟩, o_, o_, ⟨[.at 1], none, none, none, none⟩, o_] [4, 7, 8, 98] (fun _ _ => by kernel_rfl) ⟨rfl, rfl, trivial⟩ ?_
     refine TriL.nil (by kernel_rfl) (TriQ.next ?_)
     refine Tri.condP (p := (((q.length : Nat) : Int) : Int) > (p : Int)) (fun _ => by kernel_rfl) (fun h98 => ?_) (fun h98 => ?_)
     ·
      refine Tri.region ?_
      refine TriL.seg (k' := 5) (fr' := [(4, .pointer (some ⟨b6, 0, none⟩)), (7, .int .i64 ((TabM.least us))), (8, .pointer (some ⟨b7, 0, none⟩))]) (hps' := [.blk b5 [.int .i64 (M), .int .i64 (p), .slice A (us.length) (c), .slice B (us.length) (d)] 32, .blk b7 [.int .i64 (M), .int .i64 ↑q.length, .slice Ah (q.length) (ch), .slice Av (q.length) (cv)] 32, .abs (RowA 3 1 Ah q.length ch (ints (keys q))), .abs (RowA 3 1 Av q.length cv (ints (vls q))), .blk b6 [.int .i64 0, .int .i64 0, .slice none (0) (0), .slice none (0) (0)] 32, .abs R]) (obl := [b7 = b7, b7 = b7]) [o_, ⟨[.at 1], none, none, none, none⟩, o_, o_, ⟨[.at 1], none, none, none, none⟩] [4, 7, 8] [0, 1, 2, 3, 4, 5] (fun _ _ => by kernel_rfl) ⟨rfl, rfl, trivial⟩ ?_
      refine TriL.nil (by kernel_rfl) (TriQ.next (Tri.seq (Tri.region ?_)))
      refine TriL.seg (k' := 5) (fr' := [(4, .pointer (some ⟨b6, 0, none⟩)), (5, .int .i64 ((TabM.least us))), (6, .int .i64 0)]) (hps' := [.blk b5 [.int .i64 (M), .int .i64 (p), .slice A (us.length) (c), .slice B (us.length) (d)] 32, .blk b7 [.int .i64 (M), .int .i64 ↑q.length, .slice Ah (q.length) (ch), .slice Av (q.length) (cv)] 32, .abs (RowA 3 1 Ah q.length ch (ints (keys q))), .abs (RowA 3 1 Av q.length cv (ints (vls q))), .blk b6 [.int .i64 (M), .int .i64 ↑q.length, .slice Ah (q.length) (ch), .slice Av (q.length) (cv)] 32, .abs R]) (obl := [b6 = b6, b6 = b6, b6 = b6, b6 = b6, b7 = b7, b7 = b7, b7 = b7, b7 = b7]) [⟨[.at 1, .at 1, .at 1, .at 1], none, none, none, none⟩, o_, ⟨[.at 4, .at 4, .at 4, .at 4], none, none, none, none⟩, o_, o_] [4, 5, 6] [0, 1, 2, 3, 4, 5] (fun _ _ => by kernel_rfl) ⟨rfl, rfl, rfl, rfl, rfl, rfl, rfl, rfl, trivial⟩ ?_
      refine TriL.nil (by kernel_rfl) (TriQ.next (Tri.ret ?_))
      have hq : q = ins (TabM.least us) x us := PutAt.end_ ((show dn = true by simpa using h80) ▸ hpt)
      have hql : (q).length = us.length + 1 := by rw [hq, len_ins]
      skip
      exact TriQ.ret (v := .tuple #[.agg #[.int .i64 (M), .int .i64 ↑q.length, .slice Ah (q.length) (ch), .slice Av (q.length) (cv)], .int .i64 ((TabM.least us)), .int .i64 0]) (l := [.abs (RowA 3 1 Ah q.length ch (ints (keys q))), .abs (RowA 3 1 Av q.length cv (ints (vls q)))]) (obl := [b6 = b6, b6 = b6, b6 = b6, b6 = b6]) [.at 4, .at 4, .at 4, .at 4] [2, 3, 5] (fun _ => by kernel_rfl) ⟨rfl, rfl, rfl, rfl, trivial⟩ rfl (by kernel_rfl) (⟨Ah, ch, Av, cv, by rw [← hq, show max p ((us.length : Int) + 1) = ((q.length : Nat) : Int) by omega], by rw [← hq]⟩)
     ·
      refine Tri.skip (TriQ.next (Tri.seq (Tri.region ?_)))
      refine TriL.seg (k' := 5) (fr' := [(4, .pointer (some ⟨b6, 0, none⟩)), (5, .int .i64 ((TabM.least us))), (6, .int .i64 0)]) (hps' := [.blk b5 [.int .i64 (M), .int .i64 (p), .slice A (us.length) (c), .slice B (us.length) (d)] 32, .blk b7 [.int .i64 (M), .int .i64 (p), .slice Ah (q.length) (ch), .slice Av (q.length) (cv)] 32, .abs (RowA 3 1 Ah q.length ch (ints (keys q))), .abs (RowA 3 1 Av q.length cv (ints (vls q))), .blk b6 [.int .i64 (M), .int .i64 (p), .slice Ah (q.length) (ch), .slice Av (q.length) (cv)] 32, .abs R]) (obl := [b6 = b6, b6 = b6, b6 = b6, b6 = b6, b7 = b7, b7 = b7, b7 = b7, b7 = b7]) [⟨[.at 1, .at 1, .at 1, .at 1], none, none, none, none⟩, o_, ⟨[.at 4, .at 4, .at 4, .at 4], none, none, none, none⟩, o_, o_] [4, 5, 6] [0, 1, 2, 3, 4, 5] (fun _ _ => by kernel_rfl) ⟨rfl, rfl, rfl, rfl, rfl, rfl, rfl, rfl, trivial⟩ ?_
      refine TriL.nil (by kernel_rfl) (TriQ.next (Tri.ret ?_))
      have hq : q = ins (TabM.least us) x us := PutAt.end_ ((show dn = true by simpa using h80) ▸ hpt)
      have hql : (q).length = us.length + 1 := by rw [hq, len_ins]
      skip
      exact TriQ.ret (v := .tuple #[.agg #[.int .i64 (M), .int .i64 (p), .slice Ah (q.length) (ch), .slice Av (q.length) (cv)], .int .i64 ((TabM.least us)), .int .i64 0]) (l := [.abs (RowA 3 1 Ah q.length ch (ints (keys q))), .abs (RowA 3 1 Av q.length cv (ints (vls q)))]) (obl := [b6 = b6, b6 = b6, b6 = b6, b6 = b6]) [.at 4, .at 4, .at 4, .at 4] [2, 3, 5] (fun _ => by kernel_rfl) ⟨rfl, rfl, rfl, rfl, trivial⟩ rfl (by kernel_rfl) (⟨Ah, ch, Av, cv, by rw [← hq, show max p ((us.length : Int) + 1) = p by omega], by rw [← hq]⟩)
set_option maxRecDepth 100000 in
set_option maxHeartbeats 4000000 in
theorem sp_rdrop {β : Bs} (M p : Int) (A B : Option Addr) (c d : Nat) (us : Used Int) (hA : RowB β A (ints (keys us))) (hB : RowB β B (ints (vls us))) (hl : us.length ≤ 16777216) (h : Int) (hr : TabM.Rising (keys us)) (k : Nat) (hk : k < us.length) (hix : ixK (keys us) h = (k : Int)) (hx : (keys us).getD k 0 = h) :
    Spec Try.prog β 16 #[.agg #[.int .i64 (M), .int .i64 (p), .slice A (us.length) (c), .slice B (us.length) (d)], .int .i64 h] [] (fun v l => ∃ A' c' B' d', v = .tuple #[.agg #[.int .i64 (M), .int .i64 (p), .slice A' (del h us).length c', .slice B' (del h us).length d'], .int .i64 ((vls us).getD k 0), .int .i64 0] ∧ l = [.abs (RowA 3 1 A' (del h us).length c' (ints (keys (del h us)))), .abs (RowA 3 1 B' (del h us).length d' (ints (vls (del h us))))]) := by
 have hkp := keys_pr hk
 refine Spec.enter Try.func16 rfl Try.ntmps16 (Nat.le_of_ble_eq_true rfl) (fun R => ?_)
 refine Tri.seq (Tri.region ?_)
 refine TriL.segN (k' := 1) (fr' := fun b38 => [(1, .int .i64 (h)), (2, .pointer (some ⟨b38, 0, none⟩))]) (hps' := fun b38 => [.abs R, .blk b38 [.int .i64 (M), .int .i64 (p), .slice A (us.length) (c), .slice B (us.length) (d)] 32]) (obl := fun b38 => []) [o_] [1, 2] [0, 1] (fun _ _ => by kernel_rfl) (fun b38 => trivial) (fun b38 => ?_)
 refine TriL.segN (k' := 4) (fr' := fun b39 => [(1, .int .i64 (h)), (2, .pointer (some ⟨b38, 0, none⟩)), (4, .pointer (some ⟨b39, 0, none⟩))]) (hps' := fun b39 => [.abs R, .blk b38 [.int .i64 (M), .int .i64 (p), .slice A (us.length) (c), .slice B (us.length) (d)] 32, .blk b39 [.int .i64 0, .int .i64 0, .slice none (0) (0), .slice none (0) (0)] 32]) (obl := fun b39 => []) [o_, o_, o_] [1, 2, 4] [0, 1, 2] (fun _ _ => by kernel_rfl) (fun b39 => trivial) (fun b39 => ?_)
 refine TriL.nil (by kernel_rfl) (TriQ.next (Tri.seq (Tri.region ?_)))
 refine TriL.segK (k' := 2) (fr' := [(2, .pointer (some ⟨b38, 0, none⟩)), (4, .pointer (some ⟨b39, 0, none⟩)), (10, .agg #[.int .i64 (M), .int .i64 (p), .slice A (us.length) (c), .slice B (us.length) (d)]), (11, .int .i64 (h))]) (obl := [b38 = b38, b38 = b38, b38 = b38, b38 = b38]) [⟨[.at 1, .at 1, .at 1, .at 1], none, none, none, none⟩, o_] [2, 4, 10, 11] (fun _ _ => by kernel_rfl) ⟨rfl, rfl, rfl, rfl, trivial⟩ ?_
 refine TriL.call (f := 18) (args := #[.agg #[.int .i64 (M), .int .i64 (p), .slice A (us.length) (c), .slice B (us.length) (d)], .int .i64 (h)]) (d := (some 12)) (pre := []) (R := [.abs R, .blk b38 [.int .i64 (M), .int .i64 (p), .slice A (us.length) (c), .slice B (us.length) (d)] 32, .blk b39 [.int .i64 0, .int .i64 0, .slice none (0) (0), .slice none (0) (0)] 32]) (pk := [0, 1, 2]) (fun _ => by kernel_rfl) (sp_rat M p A B c d us hA hl h) rfl (by kernel_rfl) ?_
 rintro _ _ ⟨rfl, rfl⟩
 refine TriL.slot 12 (.int .i64 ((ixK (keys us) h))) (.int .i64 ↑k) (fun _ => by kernel_rfl) (intEq hix) ?_
 refine TriL.segK (k' := 4) (fr' := [(2, .pointer (some ⟨b38, 0, none⟩)), (4, .pointer (some ⟨b39, 0, none⟩)), (7, .int .i64 ↑k)]) (obl := []) [o_] [2, 4, 7] (fun _ _ => by kernel_rfl) trivial ?_
 refine TriL.nil (by kernel_rfl) (TriQ.next (Tri.seq (Tri.seq (Tri.region ?_))))
 refine TriL.segK (k' := 2) (fr' := [(2, .pointer (some ⟨b38, 0, none⟩)), (4, .pointer (some ⟨b39, 0, none⟩)), (7, .int .i64 ↑k), (14, .bool false)]) (obl := [(Value.bool (decide ((((k : Nat) : Int) : Int) < (0 : Int)))) = (.bool false)]) [o_, ⟨[], none, none, none, some (.bool false)⟩] [2, 4, 7, 14] (fun _ _ => by kernel_rfl) ⟨congrArg Value.bool (decide_eq_false (by omega)), trivial⟩ ?_
 refine TriL.nil (by kernel_rfl) (TriQ.next ?_)
 refine Tri.condF (fun _ => by kernel_rfl) ?_
 refine Tri.skip (TriQ.next (Tri.seq (Tri.region ?_)))
 refine TriL.segN (k' := 7) (fr' := fun b40 => [(2, .pointer (some ⟨b38, 0, none⟩)), (4, .pointer (some ⟨b39, 0, none⟩)), (7, .int .i64 ↑k), (8, .pointer (some ⟨b40, 0, none⟩))]) (hps' := fun b40 => [.abs R, .blk b38 [.int .i64 (M), .int .i64 (p), .slice A (us.length) (c), .slice B (us.length) (d)] 32, .blk b39 [.int .i64 0, .int .i64 0, .slice none (0) (0), .slice none (0) (0)] 32, .blk b40 [.int .i64 (M), .int .i64 (p), .slice none (0) (0), .slice none (0) (0)] 32]) (obl := fun b40 => [b40 = b40, b40 = b40, b40 = b40, b40 = b40, b38 = b38, b38 = b38]) [o_, ⟨[.at 1], none, none, none, none⟩, o_, ⟨[.at 1], none, none, none, none⟩, o_, o_, ⟨[.at 3, .at 3, .at 3, .at 3], none, none, none, none⟩] [2, 4, 7, 8] [0, 1, 2, 3] (fun _ _ => by kernel_rfl) (fun b40 => ⟨rfl, rfl, rfl, rfl, rfl, rfl, trivial⟩) (fun b40 => ?_)
 refine TriL.nil (by kernel_rfl) (TriQ.next (Tri.seq (Tri.seq (Tri.region ?_))))
 refine TriL.mem (fun w hS => (hS.rowNil (e := 3) (size := 1)).rowNil (e := 3) (size := 1)) ?_
 refine TriL.segK (k' := 1) (fr' := [(2, .pointer (some ⟨b38, 0, none⟩)), (4, .pointer (some ⟨b39, 0, none⟩)), (7, .int .i64 ↑k), (8, .pointer (some ⟨b40, 0, none⟩)), (9, .int .i64 0)]) (obl := []) [o_] [2, 4, 7, 8, 9] (fun _ _ => by kernel_rfl) trivial ?_
 refine TriL.nil (by kernel_rfl) (TriQ.next (Tri.block ?_))
 refine Tri.loop (ι := Nat × (Used Int) × (Option Addr) × Nat × (Option Addr) × Nat) (fun ((i, q, Ah, ch, Av, cv) : Nat × (Used Int) × (Option Addr) × Nat × (Option Addr) × Nat) => (i ≤ us.length) ∧ (q = del h (us.take i)) ∧ (q.length ≤ i)) (fun ((i, q, Ah, ch, Av, cv) : Nat × (Used Int) × (Option Addr) × Nat × (Option Addr) × Nat) => us.length - i) (fun ((i, q, Ah, ch, Av, cv) : Nat × (Used Int) × (Option Addr) × Nat × (Option Addr) × Nat) => [(2, .pointer (some ⟨b38, 0, none⟩)), (4, .pointer (some ⟨b39, 0, none⟩)), (7, .int .i64 ↑k), (8, .pointer (some ⟨b40, 0, none⟩)), (9, .int .i64 ↑i)]) (fun ((i, q, Ah, ch, Av, cv) : Nat × (Used Int) × (Option Addr) × Nat × (Option Addr) × Nat) => [.blk b38 [.int .i64 (M), .int .i64 (p), .slice A (us.length) (c), .slice B (us.length) (d)] 32, .blk b40 [.int .i64 (M), .int .i64 (p), .slice Ah (q.length) (ch), .slice Av (q.length) (cv)] 32, .abs (RowA 3 1 Ah q.length ch (ints (keys q))), .abs (RowA 3 1 Av q.length cv (ints (vls q))), .blk b39 [.int .i64 0, .int .i64 0, .slice none (0) (0), .slice none (0) (0)] 32, .abs R]) (0, [], none, 0, none, 0) (idx := [2, 4, 7, 8, 9]) (pk := [1, 3, 4, 5, 2, 0]) (show (0 ≤ us.length) ∧ (([]) = del h (us.take 0)) ∧ (([]).length ≤ 0) from ⟨Nat.zero_le _, by rw [List.take_zero]; rfl, Nat.le_refl _⟩) (fun _ => by kernel_rfl) rfl (by kernel_rfl) ?_
 rintro ⟨i, q, Ah, ch, Av, cv⟩ ⟨hi, hq, hlq⟩
 show Tri _ _ _ _ [(2, .pointer (some ⟨b38, 0, none⟩)), (4, .pointer (some ⟨b39, 0, none⟩)), (7, .int .i64 ↑k), (8, .pointer (some ⟨b40, 0, none⟩)), (9, .int .i64 ↑i)] [.blk b38 [.int .i64 (M), .int .i64 (p), .slice A (us.length) (c), .slice B (us.length) (d)] 32, .blk b40 [.int .i64 (M), .int .i64 (p), .slice Ah (q.length) (ch), .slice Av (q.length) (cv)] 32, .abs (RowA 3 1 Ah q.length ch (ints (keys q))), .abs (RowA 3 1 Av q.length cv (ints (vls q))), .blk b39 [.int .i64 0, .int .i64 0, .slice none (0) (0), .slice none (0) (0)] 32, .abs R] _
 refine Tri.seq (Tri.seq (Tri.region ?_))
 refine TriL.segK (k' := 5) (fr' := [(2, .pointer (some ⟨b38, 0, none⟩)), (4, .pointer (some ⟨b39, 0, none⟩)), (7, .int .i64 ↑k), (8, .pointer (some ⟨b40, 0, none⟩)), (9, .int .i64 ↑i), (25, .bool (decide ((((i : Nat) : Int) : Int) < (((us.length : Nat) : Int) : Int))))]) (obl := [b38 = b38]) [o_, o_, ⟨[.at 0], none, none, none, none⟩, o_, o_] [2, 4, 7, 8, 9, 25] (fun _ _ => by kernel_rfl) ⟨rfl, trivial⟩ ?_
 refine TriL.nil (by kernel_rfl) (TriQ.next ?_)
 refine Tri.condP (p := (((i : Nat) : Int) : Int) < (((us.length : Nat) : Int) : Int)) (fun _ => by kernel_rfl) (fun h25 => ?_) (fun h25 => ?_)
 ·
  refine Tri.skip (TriQ.next (Tri.seq (Tri.block (Tri.seq (Tri.region ?_)))))
  have hpi := keys_pr (us := us) (i := i) (by omega)
  refine TriL.segK (k' := 3) (fr' := [(2, .pointer (some ⟨b38, 0, none⟩)), (4, .pointer (some ⟨b39, 0, none⟩)), (7, .int .i64 ↑k), (8, .pointer (some ⟨b40, 0, none⟩)), (9, .int .i64 ↑i), (30, .bool (!(decide ((((i : Nat) : Int) : Int) = (((k : Nat) : Int) : Int)))))]) (obl := []) [o_, o_, o_] [2, 4, 7, 8, 9, 30] (fun _ _ => by kernel_rfl) trivial ?_
  refine TriL.nil (by kernel_rfl) (TriQ.next ?_)
  refine Tri.condN (p := (((i : Nat) : Int) : Int) = (((k : Nat) : Int) : Int)) (fun _ => by kernel_rfl) (fun h30 => ?_) (fun h30 => ?_)
  ·
   refine Tri.seq ?_
   refine Tri.regionMix (S := [.blk b38 [.int .i64 (M), .int .i64 (p), .slice A (us.length) (c), .slice B (us.length) (d)] 32, .blk b40 [.int .i64 (M), .int .i64 (p), .slice Ah (q.length) (ch), .slice Av (q.length) (cv)] 32, .blk b39 [.int .i64 0, .int .i64 0, .slice none (0) (0), .slice none (0) (0)] 32, .abs R]) [0, 1, 2, 3, 4, 5, 6, 7, 8, 9, 10] 7 [0, 1, 4, 5] (by kernel_rfl) (by kernel_rfl) rfl (by kernel_rfl) ?_
   refine TriM.reads (r := 0) (l := [7, 8, 9, 10]) (fr' := [(2, .pointer (some ⟨b38, 0, none⟩)), (4, .pointer (some ⟨b39, 0, none⟩)), (7, .int .i64 ↑k), (8, .pointer (some ⟨b40, 0, none⟩)), (9, .int .i64 ↑i), (32, .slice Ah (q.length) (ch)), (37, .int .i64 (((keys us).getD i 0)))]) (obl := [(Rd β ⟨(blkOf A), offOf A + i * 1, none⟩ (.int .i64 (((keys us).getD i 0)))), ((i : Nat) : Int) = ((i : Nat) : Int), i < us.length, (⟨(blkOf A), offOf A, none⟩ : Addr).spot = none, (A : Option Addr) = some ⟨(blkOf A), offOf A, none⟩, b38 = b38, b40 = b40]) [0, 1, 2, 3, 4, 5, 6] [o_, ⟨[.at 1], none, none, none, none⟩, o_, ⟨[.at 0], none, none, none, none⟩, o_, ⟨[], some i, none, some ⟨(blkOf A), offOf A, none⟩, none⟩, ⟨[.old (.int .i64 (((keys us).getD i 0)))], none, none, none, none⟩] [2, 4, 7, 8, 9, 32, 37] (fun _ => by kernel_rfl) ⟨IntsR.rd hA (j := i) (by rw [kys_len]; omega), rfl, by omega, rfl, IntsR.hd hA (j := i) (by rw [kys_len]; omega), rfl, rfl, trivial⟩ rfl rfl ?_
   refine TriM.cut (ι := Nat) (fr' := fun (b41 : Nat) => [(2, .pointer (some ⟨b38, 0, none⟩)), (4, .pointer (some ⟨b39, 0, none⟩)), (7, .int .i64 ↑k), (8, .pointer (some ⟨b40, 0, none⟩)), (9, .int .i64 ↑i), (32, .slice Ah (q.length) (ch)), (38, .slice (some ⟨b41, 0, none⟩) (1) (1))]) (hp' := fun (b41 : Nat) => [.blk b38 [.int .i64 (M), .int .i64 (p), .slice A (us.length) (c), .slice B (us.length) (d)] 32, .blk b40 [.int .i64 (M), .int .i64 (p), .slice Ah (q.length) (ch), .slice Av (q.length) (cv)] 32, .abs (RowA 3 1 Ah q.length ch (ints (keys q))), .abs (RowA 3 1 Av q.length cv (ints (vls q))), .blk b39 [.int .i64 0, .int .i64 0, .slice none (0) (0), .slice none (0) (0)] 32, .abs R, .blk b41 [.int .i64 (((keys us).getD i 0))] 3]) [0, 1, 4, 5] rfl rfl ?_ rfl (fun _ => by kernel_rfl) ?_
   ·
    refine TriL.segN (k' := 1) (fr' := fun b41 => [(2, .pointer (some ⟨b38, 0, none⟩)), (4, .pointer (some ⟨b39, 0, none⟩)), (7, .int .i64 ↑k), (8, .pointer (some ⟨b40, 0, none⟩)), (9, .int .i64 ↑i), (32, .slice Ah (q.length) (ch)), (38, .slice (some ⟨b41, 0, none⟩) (1) (1))]) (hps' := fun b41 => [.blk b38 [.int .i64 (M), .int .i64 (p), .slice A (us.length) (c), .slice B (us.length) (d)] 32, .blk b40 [.int .i64 (M), .int .i64 (p), .slice Ah (q.length) (ch), .slice Av (q.length) (cv)] 32, .abs (RowA 3 1 Ah q.length ch (ints (keys q))), .abs (RowA 3 1 Av q.length cv (ints (vls q))), .blk b39 [.int .i64 0, .int .i64 0, .slice none (0) (0), .slice none (0) (0)] 32, .abs R, .blk b41 [.int .i64 (((keys us).getD i 0))] 3]) (obl := fun b41 => []) [o_] [2, 4, 7, 8, 9, 32, 38] [0, 1, 2, 3, 4, 5, 6] (fun _ _ => by kernel_rfl) (fun b41 => trivial) (fun b41 => ?_)
    refine TriL.nil (by kernel_rfl) ?_
    exact TriQ.mid b41 (idx := [2, 4, 7, 8, 9, 32, 38]) (pk := [0, 1, 2, 3, 4, 5, 6]) (fun _ => by kernel_rfl) rfl (by kernel_rfl)
   rintro b41
   refine TriM.cut (ι := (Option Addr) × Nat) (fr' := fun ((A42, c43) : (Option Addr) × Nat) => [(2, .pointer (some ⟨b38, 0, none⟩)), (4, .pointer (some ⟨b39, 0, none⟩)), (7, .int .i64 ↑k), (8, .pointer (some ⟨b40, 0, none⟩)), (9, .int .i64 ↑i), (39, .slice A42 ((q ++ [(pr us i)]).length) (c43))]) (hp' := fun ((A42, c43) : (Option Addr) × Nat) => [.blk b38 [.int .i64 (M), .int .i64 (p), .slice A (us.length) (c), .slice B (us.length) (d)] 32, .blk b40 [.int .i64 (M), .int .i64 (p), .slice Ah (q.length) (ch), .slice Av (q.length) (cv)] 32, .abs (RowA 3 1 A42 ((q ++ [(pr us i)]).length) c43 (ints (keys (q ++ [(pr us i)])))), .abs (RowA 3 1 Av q.length cv (ints (vls q))), .blk b39 [.int .i64 0, .int .i64 0, .slice none (0) (0), .slice none (0) (0)] 32, .abs R, .blk b41 [.int .i64 (((keys us).getD i 0))] 3]) [0, 1, 4, 5] rfl rfl ?_ rfl (fun _ => by kernel_rfl) ?_
   ·
    refine TriL.append 2 (d := (some 39)) (t := 30) (e := 3) (z := .int .i64 0) (size := 1) (bytes := 8) (n := q.length) (cap := ch) (A := Ah) (xs := (ints (keys q))) (s := (.tmp 32)) (x := (.tmp 38)) (ats := #[30, 30]) (A' := some ⟨b41, 0, none⟩) (m := 1) (c' := 1) (news := [.int .i64 (((keys us).getD i 0))]) (fun _ => by kernel_rfl) rfl (by kernel_rfl) (fun _ => by kernel_rfl) (fun _ => by kernel_rfl) Try.underlying30 (by kernel_rfl) rfl (by decide) (by simp) (by simp [Value.oneCell']) (src_blk (j := 6) rfl) (by unfold maxLen; have := hlq; have := hlq; omega) (by have := hlq; have := hlq; omega) (fun A42 c43 => ?_)
    refine TriL.partEq 2 (p := .abs (RowA 3 1 A42 (q.length + 1) c43 ((ints (keys q)) ++ [.int .i64 (((keys us).getD i 0))]))) (p' := .abs (RowA 3 1 A42 ((q ++ [(pr us i)]).length) c43 (ints (keys (q ++ [(pr us i)]))))) (by kernel_rfl) (rowK (x := (pr us i)) hpi.1) ?_
    refine TriL.slot 39 (.slice A42 (q.length + 1) (c43)) (.slice A42 ((q ++ [(pr us i)]).length) (c43)) (fun _ => by kernel_rfl) (by rw [len_snoc q (pr us i)]) ?_
    refine TriL.nil (by kernel_rfl) ?_
    exact TriQ.mid (A42, c43) (idx := [2, 4, 7, 8, 9, 39]) (pk := [0, 1, 2, 3, 4, 5, 6]) (fun _ => by kernel_rfl) rfl (by kernel_rfl)
   rintro ⟨A42, c43⟩
   refine TriM.cut (ι := Unit) (fr' := fun (_ : Unit) => [(2, .pointer (some ⟨b38, 0, none⟩)), (4, .pointer (some ⟨b39, 0, none⟩)), (7, .int .i64 ↑k), (8, .pointer (some ⟨b40, 0, none⟩)), (9, .int .i64 ↑i), (39, .slice A42 ((q ++ [(pr us i)]).length) (c43)), (40, .pointer (some ⟨b40, 2, none⟩))]) (hp' := fun (_ : Unit) => [.blk b38 [.int .i64 (M), .int .i64 (p), .slice A (us.length) (c), .slice B (us.length) (d)] 32, .blk b40 [.int .i64 (M), .int .i64 (p), .slice Ah (q.length) (ch), .slice Av (q.length) (cv)] 32, .abs (RowA 3 1 A42 ((q ++ [(pr us i)]).length) c43 (ints (keys (q ++ [(pr us i)])))), .abs (RowA 3 1 Av q.length cv (ints (vls q))), .blk b39 [.int .i64 0, .int .i64 0, .slice none (0) (0), .slice none (0) (0)] 32, .abs R, .blk b41 [.int .i64 (((keys us).getD i 0))] 3]) [0, 1, 4, 5] rfl rfl ?_ rfl (fun _ => by kernel_rfl) ?_
   ·
    refine TriL.segK (k' := 1) (fr' := [(2, .pointer (some ⟨b38, 0, none⟩)), (4, .pointer (some ⟨b39, 0, none⟩)), (7, .int .i64 ↑k), (8, .pointer (some ⟨b40, 0, none⟩)), (9, .int .i64 ↑i), (39, .slice A42 ((q ++ [(pr us i)]).length) (c43)), (40, .pointer (some ⟨b40, 2, none⟩))]) (obl := []) [o_] [2, 4, 7, 8, 9, 39, 40] (fun _ _ => by kernel_rfl) trivial ?_
    refine TriL.nil (by kernel_rfl) ?_
    exact TriQ.mid () (idx := [2, 4, 7, 8, 9, 39, 40]) (pk := [0, 1, 2, 3, 4, 5, 6]) (fun _ => by kernel_rfl) rfl (by kernel_rfl)
   rintro _
   refine TriM.last rfl rfl ?_
   refine TriL.seg (k' := 1) (fr' := [(2, .pointer (some ⟨b38, 0, none⟩)), (4, .pointer (some ⟨b39, 0, none⟩)), (7, .int .i64 ↑k), (8, .pointer (some ⟨b40, 0, none⟩)), (9, .int .i64 ↑i)]) (hps' := [.blk b38 [.int .i64 (M), .int .i64 (p), .slice A (us.length) (c), .slice B (us.length) (d)] 32, .blk b40 [.int .i64 (M), .int .i64 (p), .slice A42 ((q ++ [(pr us i)]).length) (c43), .slice Av (q.length) (cv)] 32, .abs (RowA 3 1 A42 ((q ++ [(pr us i)]).length) c43 (ints (keys (q ++ [(pr us i)])))), .abs (RowA 3 1 Av q.length cv (ints (vls q))), .blk b39 [.int .i64 0, .int .i64 0, .slice none (0) (0), .slice none (0) (0)] 32, .abs R, .blk b41 [.int .i64 (((keys us).getD i 0))] 3]) (obl := [b40 = b40]) [⟨[.at 1], none, none, none, none⟩] [2, 4, 7, 8, 9] [0, 1, 2, 3, 4, 5, 6] (fun _ _ => by kernel_rfl) ⟨rfl, trivial⟩ ?_
   refine TriL.nil (by kernel_rfl) (TriQ.np (TriQ.next ?_))
   refine Tri.regionMix (S := [.blk b38 [.int .i64 (M), .int .i64 (p), .slice A (us.length) (c), .slice B (us.length) (d)] 32, .blk b40 [.int .i64 (M), .int .i64 (p), .slice A42 ((q ++ [(pr us i)]).length) (c43), .slice Av (q.length) (cv)] 32, .blk b39 [.int .i64 0, .int .i64 0, .slice none (0) (0), .slice none (0) (0)] 32, .abs R, .blk b41 [.int .i64 (((keys us).getD i 0))] 3]) [0, 1, 2, 3, 4, 5, 6, 7, 8, 9, 10] 7 [0, 1, 4, 5, 6] (by kernel_rfl) (by kernel_rfl) rfl (by kernel_rfl) ?_
   refine TriM.reads (r := 0) (l := [7, 8, 9, 10]) (fr' := [(2, .pointer (some ⟨b38, 0, none⟩)), (4, .pointer (some ⟨b39, 0, none⟩)), (7, .int .i64 ↑k), (8, .pointer (some ⟨b40, 0, none⟩)), (9, .int .i64 ↑i), (42, .slice Av (q.length) (cv)), (47, .int .i64 (((vls us).getD i 0)))]) (obl := [(Rd β ⟨(blkOf B), offOf B + i * 1, none⟩ (.int .i64 (((vls us).getD i 0)))), ((i : Nat) : Int) = ((i : Nat) : Int), i < us.length, (⟨(blkOf B), offOf B, none⟩ : Addr).spot = none, (B : Option Addr) = some ⟨(blkOf B), offOf B, none⟩, b38 = b38, b40 = b40]) [0, 1, 2, 3, 4, 5, 6] [o_, ⟨[.at 1], none, none, none, none⟩, o_, ⟨[.at 0], none, none, none, none⟩, o_, ⟨[], some i, none, some ⟨(blkOf B), offOf B, none⟩, none⟩, ⟨[.old (.int .i64 (((vls us).getD i 0)))], none, none, none, none⟩] [2, 4, 7, 8, 9, 42, 47] (fun _ => by kernel_rfl) ⟨IntsR.rd hB (j := i) (by rw [vls_len]; omega), rfl, by omega, rfl, IntsR.hd hB (j := i) (by rw [vls_len]; omega), rfl, rfl, trivial⟩ rfl rfl ?_
   refine TriM.cut (ι := Nat) (fr' := fun (b44 : Nat) => [(2, .pointer (some ⟨b38, 0, none⟩)), (4, .pointer (some ⟨b39, 0, none⟩)), (7, .int .i64 ↑k), (8, .pointer (some ⟨b40, 0, none⟩)), (9, .int .i64 ↑i), (42, .slice Av (q.length) (cv)), (48, .slice (some ⟨b44, 0, none⟩) (1) (1))]) (hp' := fun (b44 : Nat) => [.blk b38 [.int .i64 (M), .int .i64 (p), .slice A (us.length) (c), .slice B (us.length) (d)] 32, .blk b40 [.int .i64 (M), .int .i64 (p), .slice A42 ((q ++ [(pr us i)]).length) (c43), .slice Av (q.length) (cv)] 32, .abs (RowA 3 1 A42 ((q ++ [(pr us i)]).length) c43 (ints (keys (q ++ [(pr us i)])))), .abs (RowA 3 1 Av q.length cv (ints (vls q))), .blk b39 [.int .i64 0, .int .i64 0, .slice none (0) (0), .slice none (0) (0)] 32, .abs R, .blk b41 [.int .i64 (((keys us).getD i 0))] 3, .blk b44 [.int .i64 (((vls us).getD i 0))] 3]) [0, 1, 4, 5, 6] rfl rfl ?_ rfl (fun _ => by kernel_rfl) ?_
   ·
    refine TriL.segN (k' := 1) (fr' := fun b44 => [(2, .pointer (some ⟨b38, 0, none⟩)), (4, .pointer (some ⟨b39, 0, none⟩)), (7, .int .i64 ↑k), (8, .pointer (some ⟨b40, 0, none⟩)), (9, .int .i64 ↑i), (42, .slice Av (q.length) (cv)), (48, .slice (some ⟨b44, 0, none⟩) (1) (1))]) (hps' := fun b44 => [.blk b38 [.int .i64 (M), .int .i64 (p), .slice A (us.length) (c), .slice B (us.length) (d)] 32, .blk b40 [.int .i64 (M), .int .i64 (p), .slice A42 ((q ++ [(pr us i)]).length) (c43), .slice Av (q.length) (cv)] 32, .abs (RowA 3 1 A42 ((q ++ [(pr us i)]).length) c43 (ints (keys (q ++ [(pr us i)])))), .abs (RowA 3 1 Av q.length cv (ints (vls q))), .blk b39 [.int .i64 0, .int .i64 0, .slice none (0) (0), .slice none (0) (0)] 32, .abs R, .blk b41 [.int .i64 (((keys us).getD i 0))] 3, .blk b44 [.int .i64 (((vls us).getD i 0))] 3]) (obl := fun b44 => []) [o_] [2, 4, 7, 8, 9, 42, 48] [0, 1, 2, 3, 4, 5, 6, 7] (fun _ _ => by kernel_rfl) (fun b44 => trivial) (fun b44 => ?_)
    refine TriL.nil (by kernel_rfl) ?_
    exact TriQ.mid b44 (idx := [2, 4, 7, 8, 9, 42, 48]) (pk := [0, 1, 2, 3, 4, 5, 6, 7]) (fun _ => by kernel_rfl) rfl (by kernel_rfl)
   rintro b44
   refine TriM.cut (ι := (Option Addr) × Nat) (fr' := fun ((A45, c46) : (Option Addr) × Nat) => [(2, .pointer (some ⟨b38, 0, none⟩)), (4, .pointer (some ⟨b39, 0, none⟩)), (7, .int .i64 ↑k), (8, .pointer (some ⟨b40, 0, none⟩)), (9, .int .i64 ↑i), (49, .slice A45 ((q ++ [(pr us i)]).length) (c46))]) (hp' := fun ((A45, c46) : (Option Addr) × Nat) => [.blk b38 [.int .i64 (M), .int .i64 (p), .slice A (us.length) (c), .slice B (us.length) (d)] 32, .blk b40 [.int .i64 (M), .int .i64 (p), .slice A42 ((q ++ [(pr us i)]).length) (c43), .slice Av (q.length) (cv)] 32, .abs (RowA 3 1 A42 ((q ++ [(pr us i)]).length) c43 (ints (keys (q ++ [(pr us i)])))), .abs (RowA 3 1 A45 ((q ++ [(pr us i)]).length) c46 (ints (vls (q ++ [(pr us i)])))), .blk b39 [.int .i64 0, .int .i64 0, .slice none (0) (0), .slice none (0) (0)] 32, .abs R, .blk b41 [.int .i64 (((keys us).getD i 0))] 3, .blk b44 [.int .i64 (((vls us).getD i 0))] 3]) [0, 1, 4, 5, 6] rfl rfl ?_ rfl (fun _ => by kernel_rfl) ?_
   ·
    refine TriL.append 3 (d := (some 49)) (t := 30) (e := 3) (z := .int .i64 0) (size := 1) (bytes := 8) (n := q.length) (cap := cv) (A := Av) (xs := (ints (vls q))) (s := (.tmp 42)) (x := (.tmp 48)) (ats := #[30, 30]) (A' := some ⟨b44, 0, none⟩) (m := 1) (c' := 1) (news := [.int .i64 (((vls us).getD i 0))]) (fun _ => by kernel_rfl) rfl (by kernel_rfl) (fun _ => by kernel_rfl) (fun _ => by kernel_rfl) Try.underlying30 (by kernel_rfl) rfl (by decide) (by simp) (by simp [Value.oneCell']) (src_blk (j := 7) rfl) (by unfold maxLen; have := hlq; have := hlq; omega) (by have := hlq; have := hlq; omega) (fun A45 c46 => ?_)
    refine TriL.partEq 3 (p := .abs (RowA 3 1 A45 (q.length + 1) c46 ((ints (vls q)) ++ [.int .i64 (((vls us).getD i 0))]))) (p' := .abs (RowA 3 1 A45 ((q ++ [(pr us i)]).length) c46 (ints (vls (q ++ [(pr us i)]))))) (by kernel_rfl) (rowV (x := (pr us i)) hpi.2) ?_
    refine TriL.slot 49 (.slice A45 (q.length + 1) (c46)) (.slice A45 ((q ++ [(pr us i)]).length) (c46)) (fun _ => by kernel_rfl) (by rw [len_snoc q (pr us i)]) ?_
    refine TriL.nil (by kernel_rfl) ?_
    exact TriQ.mid (A45, c46) (idx := [2, 4, 7, 8, 9, 49]) (pk := [0, 1, 2, 3, 4, 5, 6, 7]) (fun _ => by kernel_rfl) rfl (by kernel_rfl)
   rintro ⟨A45, c46⟩
   refine TriM.cut (ι := Unit) (fr' := fun (_ : Unit) => [(2, .pointer (some ⟨b38, 0, none⟩)), (4, .pointer (some ⟨b39, 0, none⟩)), (7, .int .i64 ↑k), (8, .pointer (some ⟨b40, 0, none⟩)), (9, .int .i64 ↑i), (49, .slice A45 ((q ++ [(pr us i)]).length) (c46)), (50, .pointer (some ⟨b40, 3, none⟩))]) (hp' := fun (_ : Unit) => [.blk b38 [.int .i64 (M), .int .i64 (p), .slice A (us.length) (c), .slice B (us.length) (d)] 32, .blk b40 [.int .i64 (M), .int .i64 (p), .slice A42 ((q ++ [(pr us i)]).length) (c43), .slice Av (q.length) (cv)] 32, .abs (RowA 3 1 A42 ((q ++ [(pr us i)]).length) c43 (ints (keys (q ++ [(pr us i)])))), .abs (RowA 3 1 A45 ((q ++ [(pr us i)]).length) c46 (ints (vls (q ++ [(pr us i)])))), .blk b39 [.int .i64 0, .int .i64 0, .slice none (0) (0), .slice none (0) (0)] 32, .abs R, .blk b41 [.int .i64 (((keys us).getD i 0))] 3, .blk b44 [.int .i64 (((vls us).getD i 0))] 3]) [0, 1, 4, 5, 6] rfl rfl ?_ rfl (fun _ => by kernel_rfl) ?_
   ·
    refine TriL.segK (k' := 1) (fr' := [(2, .pointer (some ⟨b38, 0, none⟩)), (4, .pointer (some ⟨b39, 0, none⟩)), (7, .int .i64 ↑k), (8, .pointer (some ⟨b40, 0, none⟩)), (9, .int .i64 ↑i), (49, .slice A45 ((q ++ [(pr us i)]).length) (c46)), (50, .pointer (some ⟨b40, 3, none⟩))]) (obl := []) [o_] [2, 4, 7, 8, 9, 49, 50] (fun _ _ => by kernel_rfl) trivial ?_
    refine TriL.nil (by kernel_rfl) ?_
    exact TriQ.mid () (idx := [2, 4, 7, 8, 9, 49, 50]) (pk := [0, 1, 2, 3, 4, 5, 6, 7]) (fun _ => by kernel_rfl) rfl (by kernel_rfl)
   rintro _
   refine TriM.last rfl rfl ?_
   refine TriL.seg (k' := 1) (fr' := [(2, .pointer (some ⟨b38, 0, none⟩)), (4, .pointer (some ⟨b39, 0, none⟩)), (7, .int .i64 ↑k), (8, .pointer (some ⟨b40, 0, none⟩)), (9, .int .i64 ↑i)]) (hps' := [.blk b38 [.int .i64 (M), .int .i64 (p), .slice A (us.length) (c), .slice B (us.length) (d)] 32, .blk b40 [.int .i64 (M), .int .i64 (p), .slice A42 ((q ++ [(pr us i)]).length) (c43), .slice A45 ((q ++ [(pr us i)]).length) (c46)] 32, .abs (RowA 3 1 A42 ((q ++ [(pr us i)]).length) c43 (ints (keys (q ++ [(pr us i)])))), .abs (RowA 3 1 A45 ((q ++ [(pr us i)]).length) c46 (ints (vls (q ++ [(pr us i)])))), .blk b39 [.int .i64 0, .int .i64 0, .slice none (0) (0), .slice none (0) (0)] 32, .abs R, .blk b41 [.int .i64 (((keys us).getD i 0))] 3, .blk b44 [.int .i64 (((vls us).getD i 0))] 3]) (obl := [b40 = b40]) [⟨[.at 1], none, none, none, none⟩] [2, 4, 7, 8, 9] [0, 1, 2, 3, 4, 5, 6, 7] (fun _ _ => by kernel_rfl) ⟨rfl, trivial⟩ ?_
   refine TriL.nil (by kernel_rfl) (TriQ.np (TriQ.blockNormal (TriQ.next (Tri.region ?_))))
   refine TriL.segK (k' := 3) (fr' := [(2, .pointer (some ⟨b38, 0, none⟩)), (4, .pointer (some ⟨b39, 0, none⟩)), (7, .int .i64 ↑k), (8, .pointer (some ⟨b40, 0, none⟩)), (9, .int .i64 ↑(i + 1))]) (obl := [(Value.int .i64 (IntKind.wrap .i64 (((i : Nat) : Int) + 1))) = (.int .i64 ↑(i + 1))]) [o_, ⟨[], none, none, none, some (.int .i64 ↑(i + 1))⟩, o_] [2, 4, 7, 8, 9] (fun _ _ => by kernel_rfl) ⟨wrapEq (by omega) (by omega) (by omega), trivial⟩ ?_
   refine TriL.nil (by kernel_rfl) ?_
   exact TriQ.turn ((i + 1), (q ++ [(pr us i)]), A42, c43, A45, c46) (idx := [2, 4, 7, 8, 9]) (pk := [0, 1, 2, 3, 4, 5]) (show (((i + 1)) ≤ us.length) ∧ (((q ++ [(pr us i)])) = del h (us.take ((i + 1)))) ∧ (((q ++ [(pr us i)])).length ≤ ((i + 1))) from ⟨by omega, (by rw [del_take (by omega), if_neg (fun e => h30 (by have := rising_inj hr (i := i) (j := k) (by omega) hk (by rw [e, ← hkp.1, hx]); omega)), hq]), by have := hlq; have := len_snoc q (pr us i); omega⟩) (by show us.length - ((i + 1)) < us.length - i; omega) (fun _ => by kernel_rfl) rfl (by kernel_rfl)
  ·
   refine Tri.skip (TriQ.blockNormal (TriQ.next (Tri.region ?_)))
   refine TriL.segK (k' := 3) (fr' := [(2, .pointer (some ⟨b38, 0, none⟩)), (4, .pointer (some ⟨b39, 0, none⟩)), (7, .int .i64 ↑k), (8, .pointer (some ⟨b40, 0, none⟩)), (9, .int .i64 ↑(i + 1))]) (obl := [(Value.int .i64 (IntKind.wrap .i64 (((i : Nat) : Int) + 1))) = (.int .i64 ↑(i + 1))]) [o_, ⟨[], none, none, none, some (.int .i64 ↑(i + 1))⟩, o_] [2, 4, 7, 8, 9] (fun _ _ => by kernel_rfl) ⟨wrapEq (by omega) (by omega) (by omega), trivial⟩ ?_
   refine TriL.nil (by kernel_rfl) ?_
   exact TriQ.turn ((i + 1), q, Ah, ch, Av, cv) (idx := [2, 4, 7, 8, 9]) (pk := [0, 1, 2, 3, 4, 5]) (show (((i + 1)) ≤ us.length) ∧ (q = del h (us.take ((i + 1)))) ∧ (q.length ≤ ((i + 1))) from ⟨by omega, by rw [del_take (by omega), if_pos (by rw [show i = k by omega, ← hkp.1, hx]), hq], by have := hlq; have := len_snoc q (pr us i); omega⟩) (by show us.length - ((i + 1)) < us.length - i; omega) (fun _ => by kernel_rfl) rfl (by kernel_rfl)
 ·
  refine Tri.exit (TriQ.passExit (TriQ.passExit (TriQ.blockHit (TriQ.next (Tri.seq ?_)))))
  refine Tri.regionMix (S := [.blk b38 [.int .i64 (M), .int .i64 (p), .slice A (us.length) (c), .slice B (us.length) (d)] 32, .blk b40 [.int .i64 (M), .int .i64 (p), .slice Ah (q.length) (ch), .slice Av (q.length) (cv)] 32]) [0, 1, 2, 3, 4, 5, 6, 7, 8] 6 [0, 1] (by kernel_rfl) (by kernel_rfl) rfl (by kernel_rfl) ?_
  refine TriM.reads (r := 0) (l := [6, 7, 8]) (fr' := [(4, .pointer (some ⟨b39, 0, none⟩)), (51, .agg #[.int .i64 (M), .int .i64 (p), .slice Ah (q.length) (ch), .slice Av (q.length) (cv)]), (56, .int .i64 (((vls us).getD k 0)))]) (obl := [(Rd β ⟨(blkOf B), offOf B + k * 1, none⟩ (.int .i64 (((vls us).getD k 0)))), ((k : Nat) : Int) = ((k : Nat) : Int), k < us.length, (⟨(blkOf B), offOf B, none⟩ : Addr).spot = none, (B : Option Addr) = some ⟨(blkOf B), offOf B, none⟩, b38 = b38, b40 = b40, b40 = b40, b40 = b40, b40 = b40]) [0, 1, 2, 3, 4, 5] [⟨[.at 1, .at 1, .at 1, .at 1], none, none, none, none⟩, o_, ⟨[.at 0], none, none, none, none⟩, o_, ⟨[], some k, none, some ⟨(blkOf B), offOf B, none⟩, none⟩, ⟨[.old (.int .i64 (((vls us).getD k 0)))], none, none, none, none⟩] [4, 51, 56] (fun _ => by kernel_rfl) ⟨IntsR.rd hB (j := k) (by rw [vls_len]; omega), rfl, by omega, rfl, IntsR.hd hB (j := k) (by rw [vls_len]; omega), rfl, rfl, rfl, rfl, rfl, trivial⟩ rfl rfl ?_
  refine TriM.cut (ι := Unit) (fr' := fun (_ : Unit) => [(4, .pointer (some ⟨b39, 0, none⟩)), (56, .int .i64 (((vls us).getD k 0)))]) (hp' := fun (_ : Unit) => [.blk b38 [.int .i64 (M), .int .i64 (p), .slice A (us.length) (c), .slice B (us.length) (d)] 32, .blk b40 [.int .i64 (M), .int .i64 (p), .slice Ah (q.length) (ch), .slice Av (q.length) (cv)] 32, .abs (RowA 3 1 Ah q.length ch (ints (keys q))), .abs (RowA 3 1 Av q.length cv (ints (vls q))), .blk b39 [.int .i64 (M), .int .i64 (p), .slice Ah (q.length) (ch), .slice Av (q.length) (cv)] 32, .abs R]) [0, 1] rfl rfl ?_ rfl (fun _ => by kernel_rfl) ?_
  ·
   refine TriL.seg (k' := 1) (fr' := [(4, .pointer (some ⟨b39, 0, none⟩)), (56, .int .i64 (((vls us).getD k 0)))]) (hps' := [.blk b38 [.int .i64 (M), .int .i64 (p), .slice A (us.length) (c), .slice B (us.length) (d)] 32, .blk b40 [.int .i64 (M), .int .i64 (p), .slice Ah (q.length) (ch), .slice Av (q.length) (cv)] 32, .abs (RowA 3 1 Ah q.length ch (ints (keys q))), .abs (RowA 3 1 Av q.length cv (ints (vls q))), .blk b39 [.int .i64 (M), .int .i64 (p), .slice Ah (q.length) (ch), .slice Av (q.length) (cv)] 32, .abs R]) (obl := [b39 = b39, b39 = b39, b39 = b39, b39 = b39]) [⟨[.at 4, .at 4, .at 4, .at 4], none, none, none, none⟩] [4, 56] [0, 1, 2, 3, 4, 5] (fun _ _ => by kernel_rfl) ⟨rfl, rfl, rfl, rfl, trivial⟩ ?_
   refine TriL.nil (by kernel_rfl) ?_
   exact TriQ.mid () (idx := [4, 56]) (pk := [0, 1, 2, 3, 4, 5]) (fun _ => by kernel_rfl) rfl (by kernel_rfl)
  rintro _
  refine TriM.cut (ι := Unit) (fr' := fun (_ : Unit) => [(4, .pointer (some ⟨b39, 0, none⟩)), (5, .int .i64 (((vls us).getD k 0)))]) (hp' := fun (_ : Unit) => [.blk b38 [.int .i64 (M), .int .i64 (p), .slice A (us.length) (c), .slice B (us.length) (d)] 32, .blk b40 [.int .i64 (M), .int .i64 (p), .slice Ah (q.length) (ch), .slice Av (q.length) (cv)] 32, .abs (RowA 3 1 Ah q.length ch (ints (keys q))), .abs (RowA 3 1 Av q.length cv (ints (vls q))), .blk b39 [.int .i64 (M), .int .i64 (p), .slice Ah (q.length) (ch), .slice Av (q.length) (cv)] 32, .abs R]) [0, 1] rfl rfl ?_ rfl (fun _ => by kernel_rfl) ?_
  ·
   refine TriL.segK (k' := 1) (fr' := [(4, .pointer (some ⟨b39, 0, none⟩)), (5, .int .i64 (((vls us).getD k 0)))]) (obl := []) [o_] [4, 5] (fun _ _ => by kernel_rfl) trivial ?_
   refine TriL.nil (by kernel_rfl) ?_
   exact TriQ.mid () (idx := [4, 5]) (pk := [0, 1, 2, 3, 4, 5]) (fun _ => by kernel_rfl) rfl (by kernel_rfl)
  rintro _
  refine TriM.last rfl rfl ?_
  refine TriL.segK (k' := 1) (fr' := [(4, .pointer (some ⟨b39, 0, none⟩)), (5, .int .i64 (((vls us).getD k 0))), (6, .int .i64 0)]) (obl := []) [o_] [4, 5, 6] (fun _ _ => by kernel_rfl) trivial ?_
  refine TriL.nil (by kernel_rfl) (TriQ.np (TriQ.next (Tri.ret ?_)))
  have hq2 : q = del h us := by rw [hq, show i = us.length by omega, List.take_length]
  exact TriQ.ret (v := .tuple #[.agg #[.int .i64 (M), .int .i64 (p), .slice Ah (q.length) (ch), .slice Av (q.length) (cv)], .int .i64 (((vls us).getD k 0)), .int .i64 0]) (l := [.abs (RowA 3 1 Ah q.length ch (ints (keys q))), .abs (RowA 3 1 Av q.length cv (ints (vls q)))]) (obl := [b39 = b39, b39 = b39, b39 = b39, b39 = b39]) [.at 4, .at 4, .at 4, .at 4] [2, 3, 5] (fun _ => by kernel_rfl) ⟨rfl, rfl, rfl, rfl, trivial⟩ rfl (by kernel_rfl) (⟨Ah, ch, Av, cv, by rw [← hq2], by rw [← hq2]⟩)
set_option maxRecDepth 100000 in
set_option maxHeartbeats 4000000 in
theorem sp_rdropNo {β : Bs} (M p : Int) (A B : Option Addr) (c d : Nat) (us : Used Int) (hA : RowB β A (ints (keys us))) (hl : us.length ≤ 16777216) (h : Int) (hix : ixK (keys us) h = -1) :
    Spec Try.prog β 16 #[.agg #[.int .i64 (M), .int .i64 (p), .slice A (us.length) (c), .slice B (us.length) (d)], .int .i64 h] [] (fun v l => v = .tuple #[.agg #[.int .i64 (M), .int .i64 (p), .slice A (us.length) (c), .slice B (us.length) (d)], .int .i64 0, .int .i64 131] ∧ l = []) := by
 refine Spec.enter Try.func16 rfl Try.ntmps16 (Nat.le_of_ble_eq_true rfl) (fun R => ?_)
 refine Tri.seq (Tri.region ?_)
 refine TriL.segN (k' := 1) (fr' := fun b47 => [(1, .int .i64 (h)), (2, .pointer (some ⟨b47, 0, none⟩))]) (hps' := fun b47 => [.abs R, .blk b47 [.int .i64 (M), .int .i64 (p), .slice A (us.length) (c), .slice B (us.length) (d)] 32]) (obl := fun b47 => []) [o_] [1, 2] [0, 1] (fun _ _ => by kernel_rfl) (fun b47 => trivial) (fun b47 => ?_)
 refine TriL.segN (k' := 4) (fr' := fun b48 => [(1, .int .i64 (h)), (2, .pointer (some ⟨b47, 0, none⟩)), (4, .pointer (some ⟨b48, 0, none⟩))]) (hps' := fun b48 => [.abs R, .blk b47 [.int .i64 (M), .int .i64 (p), .slice A (us.length) (c), .slice B (us.length) (d)] 32, .blk b48 [.int .i64 0, .int .i64 0, .slice none (0) (0), .slice none (0) (0)] 32]) (obl := fun b48 => []) [o_, o_, o_] [1, 2, 4] [0, 1, 2] (fun _ _ => by kernel_rfl) (fun b48 => trivial) (fun b48 => ?_)
 refine TriL.nil (by kernel_rfl) (TriQ.next (Tri.seq (Tri.region ?_)))
 refine TriL.segK (k' := 2) (fr' := [(2, .pointer (some ⟨b47, 0, none⟩)), (4, .pointer (some ⟨b48, 0, none⟩)), (10, .agg #[.int .i64 (M), .int .i64 (p), .slice A (us.length) (c), .slice B (us.length) (d)]), (11, .int .i64 (h))]) (obl := [b47 = b47, b47 = b47, b47 = b47, b47 = b47]) [⟨[.at 1, .at 1, .at 1, .at 1], none, none, none, none⟩, o_] [2, 4, 10, 11] (fun _ _ => by kernel_rfl) ⟨rfl, rfl, rfl, rfl, trivial⟩ ?_
 refine TriL.call (f := 18) (args := #[.agg #[.int .i64 (M), .int .i64 (p), .slice A (us.length) (c), .slice B (us.length) (d)], .int .i64 (h)]) (d := (some 12)) (pre := []) (R := [.abs R, .blk b47 [.int .i64 (M), .int .i64 (p), .slice A (us.length) (c), .slice B (us.length) (d)] 32, .blk b48 [.int .i64 0, .int .i64 0, .slice none (0) (0), .slice none (0) (0)] 32]) (pk := [0, 1, 2]) (fun _ => by kernel_rfl) (sp_rat M p A B c d us hA hl h) rfl (by kernel_rfl) ?_
 rintro _ _ ⟨rfl, rfl⟩
 refine TriL.segK (k' := 4) (fr' := [(2, .pointer (some ⟨b47, 0, none⟩)), (4, .pointer (some ⟨b48, 0, none⟩)), (7, .int .i64 ((ixK (keys us) h)))]) (obl := []) [o_] [2, 4, 7] (fun _ _ => by kernel_rfl) trivial ?_
 refine TriL.nil (by kernel_rfl) (TriQ.next (Tri.seq (Tri.seq (Tri.region ?_))))
 refine TriL.segK (k' := 2) (fr' := [(2, .pointer (some ⟨b47, 0, none⟩)), (4, .pointer (some ⟨b48, 0, none⟩)), (7, .int .i64 ((ixK (keys us) h))), (14, .bool (decide (((ixK (keys us) h) : Int) < (0 : Int))))]) (obl := []) [o_, o_] [2, 4, 7, 14] (fun _ _ => by kernel_rfl) trivial ?_
 refine TriL.nil (by kernel_rfl) (TriQ.next ?_)
 refine Tri.condP (p := ((ixK (keys us) h) : Int) < (0 : Int)) (fun _ => by kernel_rfl) (fun h14 => ?_) (fun h14 => ?_)
 ·
  refine Tri.seq (Tri.region ?_)
  refine TriL.seg (k' := 4) (fr' := [(4, .pointer (some ⟨b48, 0, none⟩)), (5, .int .i64 0), (6, .int .i64 131)]) (hps' := [.abs R, .blk b47 [.int .i64 (M), .int .i64 (p), .slice A (us.length) (c), .slice B (us.length) (d)] 32, .blk b48 [.int .i64 (M), .int .i64 (p), .slice A (us.length) (c), .slice B (us.length) (d)] 32]) (obl := [b48 = b48, b48 = b48, b48 = b48, b48 = b48, b47 = b47, b47 = b47, b47 = b47, b47 = b47]) [⟨[.at 1, .at 1, .at 1, .at 1], none, none, none, none⟩, ⟨[.at 2, .at 2, .at 2, .at 2], none, none, none, none⟩, o_, o_] [4, 5, 6] [0, 1, 2] (fun _ _ => by kernel_rfl) ⟨rfl, rfl, rfl, rfl, rfl, rfl, rfl, rfl, trivial⟩ ?_
  refine TriL.nil (by kernel_rfl) (TriQ.next (Tri.ret (TriQ.passRet ?_)))
  exact TriQ.ret (v := .tuple #[.agg #[.int .i64 (M), .int .i64 (p), .slice A (us.length) (c), .slice B (us.length) (d)], .int .i64 0, .int .i64 131]) (l := []) (obl := [b48 = b48, b48 = b48, b48 = b48, b48 = b48]) [.at 2, .at 2, .at 2, .at 2] [0] (fun _ => by kernel_rfl) ⟨rfl, rfl, rfl, rfl, trivial⟩ rfl (by kernel_rfl) (⟨rfl, rfl⟩)
 ·
  exact absurd h14 (by omega)
end Go.Proofs.Ytejnhhpjlajngaa
end
/- part Vg. PROVED HERE: the logic's rule for a drawn region whose readings and changes come in turns, guards among them. CONDITIONS: none. No statement of the seat is proved here. -/
section
namespace Go.Proofs.Ytejnhhpjlajngaa
open Go.RowKit
section order
variable {P : Program} {ops : Array Oper} {Q Q' : Post} {n : Nat} {S : World → Prop}
/-- readings (true) and changes (false), in turns -/
def wpMixG (P : Program) (ops : Array Oper) (Q : Post) (S : World → Prop) : List (Bool × Nat) → Act → World → Prop
  | [], a, w => Q .normal a w
  | (false, i) :: l, a, w => wpOp P ops Q i (fun a' w' => (l = [] ∨ S w') ∧ wpMixG P ops Q S l a' w') a w
  | (true, i) :: l, a, w => ∃ o v, ops[i]? = some o ∧ YieldsIf P ops S o v a ∧ wpMixG P ops Q S l (a.put o.dst v) w
def mixGB (ops : Array Oper) (n : Nat) : List (Bool × Nat) → Array Bool → Bool
  | [], listed => (Region.ready .any ops listed).isEmpty
  | (false, i) :: l, listed => (Region.ready .any ops listed == [i]) && (!l.isEmpty || i == n) && mixGB ops n l (listed.setIfInBounds i true)
  | (true, i) :: l, listed => decide (i < n) && Region.free .any ops listed i && (Region.ready .any ops listed).contains i && mixGB ops n l (listed.setIfInBounds i true)
theorem wpMixG_E (hsel : Region.noSelect ops = true) (hsink : Region.sinkB .any ops n = true) : ∀ (l : List (Bool × Nat)) (listed : Array Bool) (a : Act) (w : World), mixGB ops n l listed = true → Closed ops listed → (l = [] ∨ S w) → wpMixG P ops (NP Q) S l a w → wpAnyE P ops (NP Q) n S l.length listed a w
  | [], listed, a, w, hb, _, _, h => ⟨List.isEmpty_iff.1 hb, h⟩
  | (false, i) :: l, listed, a, w, hb, hc, _, h => by
    unfold mixGB at hb
    simp only [Bool.and_eq_true, beq_iff_eq] at hb
    obtain ⟨⟨h1, h2⟩, h3⟩ := hb
    refine ⟨fun h0 => (by rw [h1] at h0; cases h0), fun j hj => ?_⟩
    have hr := hj
    rw [h1] at hj
    have hj : j = i := by simpa using hj
    subst hj
    refine wpOp_mono (fun a' w' h4 => ⟨?_, wpMixG_E hsel hsink l _ a' w' h3 (hc.set hr) h4.1 h4.2⟩) h
    rcases h4.1 with h5 | h5
    · subst h5; exact .inl (by simpa using h2)
    · exact .inr h5
  | (true, i) :: l, listed, a, w, hb, hc, hS, h => by
    unfold mixGB at hb
    simp only [Bool.and_eq_true, decide_eq_true_iff] at hb
    obtain ⟨⟨⟨h1, h2⟩, h3⟩, h4⟩ := hb
    obtain ⟨o, v, ho, hy, hk⟩ := h
    have hS : S w := hS.resolve_left (by simp)
    have hr : i ∈ Region.ready .any ops listed := by simpa using h3
    exact wpAnyE_first ho hsel hsink h1 l.length listed a w hc (Region.free_spec ho h2) hr hy hS (wpMixG_E hsel hsink l _ _ w h4 (hc.set hr) (.inr hS) hk)
def mixGTop (ops : Array Oper) (l : List (Bool × Nat)) : Bool :=
  Region.noSelect ops && Region.sinkB .any ops (ops.size - 1) && (l.length == ops.size) && mixGB ops (ops.size - 1) l (Array.replicate ops.size false)
def takeA (ops : Array Oper) (i : Nat) : Array Oper := ⟨ops.toList.take (i + 1)⟩
def gB (ops : Array Oper) (i : Nat) : Bool := match ops[i]? with
  | some o => match o.guard with
    | none => true
    | some (j, _) => decide (j ≤ i)
  | none => false
theorem takeA_get {i j : Nat} (h : j ≤ i) : (takeA ops i)[j]? = ops[j]? := by
  unfold takeA
  obtain ⟨l⟩ := ops
  simp only [List.getElem?_toArray, List.getElem?_take]
  rw [if_pos (by omega)]
theorem wpOp_of_take {i : Nat} {a : Act} {w : World} {K : Act → World → Prop} (hg : gB ops i = true) (h : wpList P (takeA ops i) (NP fun _ a w => K a w) ((takeA ops i).toList.drop i) a w) : wpOp P ops (NP Q) i K a w := by
  unfold gB at hg
  split at hg
  · rename_i o ho
    have hd : (takeA ops i).toList.drop i = [o] := by
      have hl : ops.toList[i]? = some o := by simpa using ho
      have hi : i < ops.toList.length := len_of_some hl
      show (ops.toList.take (i + 1)).drop i = [o]
      rw [List.drop_take]
      rw [show i + 1 - i = 1 by omega, List.drop_eq_getElem_cons hi]
      rw [List.getElem?_eq_getElem hi] at hl
      cases hl
      rfl
    have hw : Region.wanted o (yielded (takeA ops i) a.tmps) = Region.wanted o (yielded ops a.tmps) := by
      unfold Region.wanted
      split at hg
      · rename_i hn; rw [hn]
      · rename_i j b hn
        rw [hn]
        have hj : j ≤ i := by simpa using hg
        have : yielded (takeA ops i) a.tmps j = yielded ops a.tmps j := by
          unfold yielded
          rw [takeA_get hj]
        simp only [this]
    rw [hd] at h
    unfold wpOp
    simp only [ho]
    unfold wpList at h
    rw [hw] at h
    split at h
    · rename_i hw
      rw [if_pos hw]
      rcases h with h | ⟨_, h⟩
      · exact .inl (wp_np (Oper.wp_mono (fun a w h => h) h))
      · exact (letsOut_np h).elim
    · rename_i hw
      rw [if_neg hw]
      exact h
  · cases hg
end order
theorem wpList_npA {P : Program} {ops : Array Oper} {Q Q' : Post} (hq : ∀ a w, Q .normal a w → Q' .normal a w) : ∀ (l : List Oper) {a : Act} {w : World}, wpList P ops (NP Q) l a w → wpList P ops (NP Q') l a w
  | [], _, _, h => hq _ _ h
  | o :: r, a, w, h => by
    unfold wpList at *
    split
    · rename_i hw
      rw [if_pos hw] at h
      rcases h with h | ⟨_, h⟩
      · exact .inl (wp_np (Oper.wp_mono (fun a w h => wpList_npA hq r h) h))
      · exact (letsOut_np h).elim
    · rename_i hw
      rw [if_neg hw] at h
      exact wpList_npA hq r h
section mix
variable {P : Program} {β : Bs} {N : Nat} {ops : Array Oper} {S : List HP} {l l' : List (Bool × Nat)} {fr fr' : Fr} {hps : List HP} {Q : Post} {obl : List Prop} {i : Nat} {pk : List Nat}
def TriG (P : Program) (β : Bs) (N : Nat) (ops : Array Oper) (S : List HP) (l : List (Bool × Nat)) (fr : Fr) (hps : List HP) (Q : Post) : Prop :=
  ∀ junk w, Sat β hps w → wpMixG P ops (NP Q) (Sat β S) l (mkA N fr junk) w
theorem Tri.regionMixG {id : Nat} (l : List (Bool × Nat)) (pk : List Nat) (hm : P.follows .mixedOrders = true) (hB : mixGTop ops l = true) (hn : nodupB pk = true) (hp : pickL hps pk = some S) (h : TriG P β N ops S l fr hps Q) : Tri P β N (.region id ops true) fr hps Q := by
  intro junk w hS
  unfold mixGTop at hB
  simp only [Bool.and_eq_true, beq_iff_eq] at hB
  obtain ⟨⟨⟨h1, h2⟩, h3⟩, h4⟩ := hB
  have hS' := hS.drewN 1
  have h5 := wpMixG_E (Q := Q) h1 h2 l _ _ _ h4 (fun j oj _ hl => by simp [Array.getD_eq_getD_getElem?, Array.getElem?_replicate] at hl; split at hl <;> simp at hl) (.inr (hS'.pick hn hp)) (h junk (w.drewN 1) hS')
  rw [h3] at h5
  refine Code.wp_mono (fun e a w q => ?_) (wp_region_any hm (wpAny_of_E _ _ _ _ h5))
  cases e with
  | normal => exact q
  | exit id => exact q.elim
  | goto l => exact q.elim
  | ret => exact q.elim
  | panic ch => exact q.elim
  | outgrown => exact q.elim
/-- readings, by the kernel -/
def orunsG (P : Program) (β : Bs) (N : Nat) (junk : Nat → Value) (ops : Array Oper) : List OH → List Nat → Fr → SS → Option (Fr × SS)
  | [], [], fr, S => some (fr, S)
  | h :: hs, i :: is, fr, S =>
    match ops[i]? with
    | some o =>
      match Region.wanted o (yF ops N fr junk) with
      | true =>
        match orun P β 0 true (evF N fr junk) o h S with
        | some (v, S') =>
          match plainV v with
          | true => orunsG P β N junk ops hs is (putF fr o.dst v) S'
          | false => none
        | none => none
      | false => orunsG P β N junk ops hs is (putF fr o.dst undef) S
    | none => none
  | _, _, _, _ => none
def readrunG (P : Program) (β : Bs) (N : Nat) (junk : Nat → Value) (ops : Array Oper) (hs : List OH) (is : List Nat) (fr : Fr) (S : List HP) (idx : List Nat) : Option (Fr × List Prop) :=
  match orunsG P β N junk ops hs is fr ⟨[], S, [], true⟩ with
  | some (fr', S') => some (pickF fr' junk idx, S'.obl)
  | none => none
theorem orunsG_obl {junk : Nat → Value} : ∀ {hs : List OH} {is : List Nat} {fr fr' : Fr} {S S' : SS}, orunsG P β N junk ops hs is fr S = some (fr', S') → ∀ p, p ∈ S.obl → p ∈ S'.obl
  | [], [], fr, fr', S, S', h, p, hp => by cases h; exact hp
  | h :: hs, i :: is, fr, fr', S, S', hr, p, hp => by
    unfold orunsG at hr
    repeat' split at hr
    all_goals first | (cases hr; done) | skip
    · rename_i h0 _ _
      exact orunsG_obl hr p (orun_obl h0 p hp)
    · exact orunsG_obl hr p hp
  | [], _ :: _, _, _, _, _, h, _, _ => by cases h
  | _ :: _, [], _, _, _, _, h, _, _ => by cases h
theorem orunsG_sound {junk : Nat → Value} {w : World} : ∀ {hs : List OH} {is : List Nat} {fr fr' : Fr} {T T' : SS}, orunsG P β N junk ops hs is fr T = some (fr', T') → (∀ p, p ∈ T'.obl → p) → T.used = true → T.hps = S →
    wpMixG P ops (NP Q) (Sat β S) l (mkA N fr' junk) w → wpMixG P ops (NP Q) (Sat β S) (is.map (fun i => (true, i)) ++ l) (mkA N fr junk) w
  | [], [], fr, fr', T, T', h, ho, hu, hT, hK => by cases h; exact hK
  | h :: hs, i :: is, fr, fr', T, T', hr, ho, hu, hT, hK => by
    unfold orunsG at hr
    repeat' split at hr
    all_goals first | (cases hr; done) | skip
    · rename_i o hget _ hwant _ v T1 h0 _ hv
      obtain ⟨e1, e2⟩ := orun_ro h0
      rw [List.map_cons, List.cons_append]
      unfold wpMixG
      refine ⟨o, v, hget, .inl ⟨by rw [wanted_mkA]; exact hwant, fun w' hS' => ?_⟩, ?_⟩
      · rw [mkA_eval]
        obtain ⟨w2, h1, _, _, h4⟩ := orun_sound h0 (fun p hp => ho p (orunsG_obl hr p hp)) (by rw [hT]; exact hS') (fun e => by rw [hu] at e; cases e)
        obtain ⟨ew, _⟩ := h4 rfl
        rw [ew] at h1
        rcases h1 with h1 | ⟨h1, _⟩
        · exact h1
        · exact absurd h1 (plainV_ne hv)
      · rw [mkA_put]
        exact orunsG_sound hr ho (e2.trans hu) (e1.trans hT) hK
    · rename_i o hget _ hwant
      rw [List.map_cons, List.cons_append]
      unfold wpMixG
      refine ⟨o, undef, hget, .inr ⟨by rw [wanted_mkA]; exact hwant, rfl⟩, ?_⟩
      rw [mkA_put]
      exact orunsG_sound hr ho hu hT hK
  | [], _ :: _, _, _, _, _, h, _, _, _, _ => by cases h
  | _ :: _, [], _, _, _, _, h, _, _, _, _ => by cases h
theorem TriG.reads (is : List Nat) (hs : List OH) (idx : List Nat) (h : ∀ junk, readrunG P β N junk ops hs is fr S idx = some (fr', obl)) (ho : AllP obl) (hl : l' = is.map (fun i => (true, i)) ++ l) (K : TriG P β N ops S l fr' hps Q) : TriG P β N ops S l' fr hps Q := by
  intro junk w hS
  subst hl
  have h0 := h junk
  unfold readrunG at h0
  split at h0
  · rename_i fr1 S1 h1
    cases h0
    have hK := K (lk fr1 junk) w hS
    rw [← mkA_pick] at hK
    exact orunsG_sound h1 (fun p hp => ho.mem hp) rfl rfl hK
  · cases h0
theorem TriG.cut {ι : Type} {fr' : ι → Fr} {hp' : ι → List HP} (pk : List Nat) (hg : gB ops i = true) (h : TriL P β N (takeA ops i) i fr hps (NP (Mid β N fr' hp'))) (hn : nodupB pk = true) (hp : ∀ j, pickL (hp' j) pk = some S)
    (K : ∀ j, TriG P β N ops S l (fr' j) (hp' j) Q) : TriG P β N ops S ((false, i) :: l) fr hps Q := by
  intro junk w hS
  unfold wpMixG
  refine wpOp_of_take hg (wpList_npA (Q' := _) (fun a w ⟨j, junk', ha, hS'⟩ => ?_) _ (h junk w hS))
  subst ha
  exact ⟨.inr (hS'.pick hn (hp j)), K j junk' w hS'⟩
theorem TriG.last (hg : gB ops i = true) (h : TriL P β N (takeA ops i) i fr hps (NP Q)) : TriG P β N ops S [(false, i)] fr hps Q := by
  intro junk w hS
  unfold wpMixG
  exact wpOp_of_take hg (wpList_npA (Q' := _) (fun a w hq => ⟨.inl rfl, by unfold wpMixG; exact hq⟩) _ (h junk w hS))
end mix
end Go.Proofs.Ytejnhhpjlajngaa
end
/- part Ru. PROVED HERE: the table of numbers and its reference, over plain pairs, with the rows owned. CONDITIONS: as the theorems say. No statement of the seat is proved here. -/
section
namespace Go.Proofs.Ytejnhhpjlajngaa
open Go.RowKit HeapM TabM Go.Maps
/-- a reading call, made with parts lent -/
theorem Spec.lend {P : Program} {β : Bs} {f : FuncId} {args : Array Value} {pre R : List HP} {post : Value → List HP → Prop} (h : ∀ β' : Bs, Lent β R β' → Spec P β' f args pre post) : Spec P β f args (pre ++ R) (fun v l => ∃ l0, post v l0 ∧ l = l0 ++ R) := by
  intro A w hS
  have h1 := Sat.turn hS
  rw [← List.append_assoc] at h1
  obtain ⟨β', g1, _, g3⟩ := h1.lend
  refine (h β' g1 A w (Sat.turn g3)).mono ?_
  rintro e w' ⟨v, l, h1, h2, h3⟩
  refine ⟨v, l ++ R, h1, ⟨l, h2, rfl⟩, ?_⟩
  have h4 := g1.back (Sat.turn h3)
  rw [List.append_assoc] at h4
  exact Sat.turn h4
def uV (us : Used Int) : Used Value := us.map fun q => (q.1, .int .i64 q.2)
theorem keys_uV (us : Used Int) : keys (uV us) = keys us := keys_map (fun z => Value.int .i64 z) us
theorem len_uV (us : Used Int) : (uV us).length = us.length := List.length_map ..
theorem least_uV (us : Used Int) : TabM.least (uV us) = TabM.least us := by unfold TabM.least; rw [keys_uV]
theorem get_uV (us : Used Int) (h : Int) : TabM.get (uV us) h = (TabM.get us h).map (fun z => Value.int .i64 z) := get_map (fun z => Value.int .i64 z) us h
theorem ins_uV (h x : Int) (us : Used Int) : uV (ins h x us) = ins h (.int .i64 x) (uV us) := ins_map (fun z => Value.int .i64 z) h x us
theorem del_uV (h : Int) (us : Used Int) : uV (del h us) = del h (uV us) := del_map (fun z => Value.int .i64 z) h us
theorem set_uV (h x : Int) (us : Used Int) : uV (set_ h x us) = set_ h (.int .i64 x) (uV us) := set_map (fun z => Value.int .i64 z) h x us
theorem set_len (h x : Int) (us : Used Int) : (set_ h x us).length = us.length := List.length_map ..
theorem set_keys (h x : Int) (us : Used Int) : keys (set_ h x us) = keys us := by
  unfold set_ keys
  rw [List.map_map]
  apply List.map_congr_left
  intro q _
  simp only [Function.comp]
  split <;> simp_all
theorem vls_set {us : Used Int} (hr : TabM.Rising (keys us)) {k : Nat} {h : Int} (hk : k < us.length) (hx : (keys us).getD k 0 = h) (x : Int) : vls (set_ h x us) = (vls us).set k x := by
  apply List.ext_getElem
  · rw [List.length_set, vls_len, vls_len, set_len]
  · intro j h1 h2
    have hj : j < us.length := by rw [vls_len, set_len] at h1; exact h1
    rw [List.getElem_set]
    have e1 : (keys us).getD j 0 = (us[j]).1 := by simp [keys, List.getD_eq_getElem?_getD, hj]
    have e2 : (keys us).getD k 0 = (us[k]).1 := by simp [keys, List.getD_eq_getElem?_getD, hk]
    simp only [vls, set_, List.getElem_map]
    by_cases e : k = j
    · subst e
      rw [if_pos rfl]
      have e3 : (us[k]).1 = h := e2.symm.trans hx
      simp [e3]
    · rw [if_neg e]
      have hne : ¬ (us[j]).1 = h := fun e3 => e (by
        rcases Nat.lt_trichotomy k j with g | g | g
        · have := rising_get hr g (by rw [kys_len]; exact hj); omega
        · exact g
        · have := rising_get hr g (by rw [kys_len]; exact hk); omega)
      simp [hne]
section tab
variable {β : Bs} (t : Nat) (M p : Int) (us : Used Int)
theorem sp_uput (x : Int) (hf : (us.length : Int) < M) : Spec Try.prog β 22 #[.pointer (some ⟨t, 0, none⟩), .int .i64 x] [.abs (TabA 71 t M p (uV us))] (fun v l => v = .tuple #[.int .i64 (TabM.least us), .int .i64 0] ∧ l = [.abs (TabA 71 t M (max p ((us.length : Int) + 1)) (uV (ins (TabM.least us) x us)))]) := by
  have := sp_tputI (β := β) t M p (uV us) (.int .i64 x) (by rw [len_uV]; exact hf)
  rw [least_uV, len_uV, ← ins_uV] at this
  exact this
theorem sp_ufull (x : Int) (hf : M ≤ (us.length : Int)) : Spec Try.prog β 22 #[.pointer (some ⟨t, 0, none⟩), .int .i64 x] [.abs (TabA 71 t M p (uV us))] (fun v l => v = .tuple #[.int .i64 0, .int .i64 130] ∧ l = [.abs (TabA 71 t M p (uV us))]) :=
  sp_tfullI (β := β) t M p (uV us) (.int .i64 x) (by rw [len_uV]; exact hf)
theorem sp_uget (h : Int) (hw : I64 h) (x : Int) (hg : TabM.get us h = some x) : Spec Try.prog β 27 #[.pointer (some ⟨t, 0, none⟩), .int .i64 h] [.abs (TabA 71 t M p (uV us))] (fun v l => v = .tuple #[.int .i64 x, .int .i64 0] ∧ l = [.abs (TabA 71 t M p (uV us))]) :=
  sp_tgetI (β := β) t M p (uV us) h (wf_of hw) (.int .i64 x) (by rw [get_uV, hg]; rfl)
theorem sp_umiss (h : Int) (hw : I64 h) (hg : TabM.get us h = none) : Spec Try.prog β 27 #[.pointer (some ⟨t, 0, none⟩), .int .i64 h] [.abs (TabA 71 t M p (uV us))] (fun v l => v = .tuple #[.int .i64 0, .int .i64 131] ∧ l = [.abs (TabA 71 t M p (uV us))]) :=
  sp_tmissI (β := β) t M p (uV us) h (wf_of hw) (by rw [get_uV, hg]; rfl)
theorem sp_uset (h : Int) (hw : I64 h) (y x : Int) (hg : TabM.get us h = some x) : Spec Try.prog β 28 #[.pointer (some ⟨t, 0, none⟩), .int .i64 h, .int .i64 y] [.abs (TabA 71 t M p (uV us))] (fun v l => v = .int .i64 0 ∧ l = [.abs (TabA 71 t M p (uV (set_ h y us)))]) := by
  have := sp_tsetI (β := β) t M p (uV us) h (wf_of hw) (.int .i64 y) (.int .i64 x) (by rw [get_uV, hg]; rfl)
  rw [← set_uV] at this
  exact this
theorem sp_usetNo (h : Int) (hw : I64 h) (y : Int) (hg : TabM.get us h = none) : Spec Try.prog β 28 #[.pointer (some ⟨t, 0, none⟩), .int .i64 h, .int .i64 y] [.abs (TabA 71 t M p (uV us))] (fun v l => v = .int .i64 131 ∧ l = [.abs (TabA 71 t M p (uV us))]) :=
  sp_tsetNoI (β := β) t M p (uV us) h (wf_of hw) (.int .i64 y) (by rw [get_uV, hg]; rfl)
theorem sp_udrop (h : Int) (hw : I64 h) (x : Int) (hg : TabM.get us h = some x) : Spec Try.prog β 24 #[.pointer (some ⟨t, 0, none⟩), .int .i64 h] [.abs (TabA 71 t M p (uV us))] (fun v l => v = .tuple #[.int .i64 x, .int .i64 0] ∧ l = [.abs (TabA 71 t M p (uV (del h us)))]) := by
  have := sp_tdropI (β := β) t M p (uV us) h (wf_of hw) (.int .i64 x) (by rw [get_uV, hg]; rfl)
  rw [← del_uV] at this
  exact this
theorem sp_udropNo (h : Int) (hw : I64 h) (hg : TabM.get us h = none) : Spec Try.prog β 24 #[.pointer (some ⟨t, 0, none⟩), .int .i64 h] [.abs (TabA 71 t M p (uV us))] (fun v l => v = .tuple #[.int .i64 0, .int .i64 131] ∧ l = [.abs (TabA 71 t M p (uV us))]) :=
  sp_tdropNoI (β := β) t M p (uV us) h (wf_of hw) (by rw [get_uV, hg]; rfl)
theorem sp_ulen : Spec Try.prog β 26 #[.pointer (some ⟨t, 0, none⟩)] [.abs (TabA 71 t M p (uV us))] (fun v l => v = .int .i64 ((us.length : Nat) : Int) ∧ l = [.abs (TabA 71 t M p (uV us))]) := by
  have := sp_tlenI (β := β) t M p (uV us)
  rw [len_uV] at this
  exact this
theorem sp_uhandles : Spec Try.prog β 23 #[.pointer (some ⟨t, 0, none⟩)] [.abs (TabA 71 t M p (uV us))] (fun v l => ∃ A c, v = .slice A us.length c ∧ l = [.abs (TabA 71 t M p (uV us)), .abs (RowA 3 1 A us.length c (ints (keys us)))]) := by
  have := sp_thandlesI (β := β) t M p (uV us)
  rw [keys_uV, kys_len] at this
  exact this
end tab
theorem factsU {t : Nat} {M p : Int} {us : Used Int} {F : Fp} {w : World} (h : (HP.abs (TabA 71 t M p (uV us))).h F w) : TabM.Rising (keys us) ∧ (∀ x ∈ keys us, 1 ≤ x ∧ x ≤ p) ∧ (us.length : Int) ≤ M ∧ M ≤ 1024 ∧ 0 ≤ p ∧ p ≤ 1024 := by
  have := TabA.factsI h
  rw [keys_uV, len_uV] at this
  exact this
section own
variable {β β' : Bs} {A B : Option Addr} {c d : Nat} {us : Used Int} {M p : Int}
theorem Lent.rows (h : Lent β [.abs (RowA 3 1 A us.length c (ints (keys us))), .abs (RowA 3 1 B us.length d (ints (vls us)))] β') : RowB β' A (ints (keys us)) ∧ RowB β' B (ints (vls us)) := by
  obtain ⟨F, h1, h2⟩ := h.get 0 rfl
  obtain ⟨G, g1, g2⟩ := h.get 1 rfl
  exact ⟨RowB.of_row h1 h2 rfl, RowB.of_row g1 g2 rfl⟩
theorem sp_oat (hl : us.length ≤ 16777216) (h : Int) : Spec Try.prog β 18 #[.agg #[.int .i64 M, .int .i64 p, .slice A us.length c, .slice B us.length d], .int .i64 h] [.abs (RowA 3 1 A us.length c (ints (keys us))), .abs (RowA 3 1 B us.length d (ints (vls us)))]
    (fun v l => v = .int .i64 (ixK (keys us) h) ∧ l = [.abs (RowA 3 1 A us.length c (ints (keys us))), .abs (RowA 3 1 B us.length d (ints (vls us)))]) :=
  (Spec.lend (pre := []) (fun _ g => sp_rat M p A B c d us (Lent.rows g).1 hl h)).mono (by rintro v l ⟨l0, ⟨rfl, rfl⟩, rfl⟩; exact ⟨rfl, rfl⟩)
theorem sp_oput (hl : us.length ≤ 16777216) (hr : TabM.Rising (keys us)) (hp : ∀ z ∈ keys us, 1 ≤ z) (x : Int) (hf : (us.length : Int) < M) : Spec Try.prog β 13 #[.agg #[.int .i64 M, .int .i64 p, .slice A us.length c, .slice B us.length d], .int .i64 x] [.abs (RowA 3 1 A us.length c (ints (keys us))), .abs (RowA 3 1 B us.length d (ints (vls us)))]
    (fun v l => ∃ A' c' B' d', v = .tuple #[.agg #[.int .i64 M, .int .i64 (max p ((us.length : Int) + 1)), .slice A' (ins (TabM.least us) x us).length c', .slice B' (ins (TabM.least us) x us).length d'], .int .i64 (TabM.least us), .int .i64 0] ∧ l = [.abs (RowA 3 1 A' (ins (TabM.least us) x us).length c' (ints (keys (ins (TabM.least us) x us)))), .abs (RowA 3 1 B' (ins (TabM.least us) x us).length d' (ints (vls (ins (TabM.least us) x us)))), .abs (RowA 3 1 A us.length c (ints (keys us))), .abs (RowA 3 1 B us.length d (ints (vls us)))]) :=
  (Spec.lend (pre := []) (fun _ g => sp_rput M p A B c d us (Lent.rows g).1 (Lent.rows g).2 hl hr hp x hf)).mono (by rintro v l ⟨l0, ⟨A', c', B', d', rfl, rfl⟩, rfl⟩; exact ⟨A', c', B', d', rfl, rfl⟩)
theorem sp_odrop (hl : us.length ≤ 16777216) (h : Int) (hr : TabM.Rising (keys us)) (k : Nat) (hk : k < us.length) (hix : ixK (keys us) h = (k : Int)) (hx : (keys us).getD k 0 = h) : Spec Try.prog β 16 #[.agg #[.int .i64 M, .int .i64 p, .slice A us.length c, .slice B us.length d], .int .i64 h] [.abs (RowA 3 1 A us.length c (ints (keys us))), .abs (RowA 3 1 B us.length d (ints (vls us)))]
    (fun v l => ∃ A' c' B' d', v = .tuple #[.agg #[.int .i64 M, .int .i64 p, .slice A' (del h us).length c', .slice B' (del h us).length d'], .int .i64 ((vls us).getD k 0), .int .i64 0] ∧ l = [.abs (RowA 3 1 A' (del h us).length c' (ints (keys (del h us)))), .abs (RowA 3 1 B' (del h us).length d' (ints (vls (del h us)))), .abs (RowA 3 1 A us.length c (ints (keys us))), .abs (RowA 3 1 B us.length d (ints (vls us)))]) :=
  (Spec.lend (pre := []) (fun _ g => sp_rdrop M p A B c d us (Lent.rows g).1 (Lent.rows g).2 hl h hr k hk hix hx)).mono (by rintro v l ⟨l0, ⟨A', c', B', d', rfl, rfl⟩, rfl⟩; exact ⟨A', c', B', d', rfl, rfl⟩)
theorem sp_odropNo (hl : us.length ≤ 16777216) (h : Int) (hix : ixK (keys us) h = -1) : Spec Try.prog β 16 #[.agg #[.int .i64 M, .int .i64 p, .slice A us.length c, .slice B us.length d], .int .i64 h] [.abs (RowA 3 1 A us.length c (ints (keys us))), .abs (RowA 3 1 B us.length d (ints (vls us)))]
    (fun v l => v = .tuple #[.agg #[.int .i64 M, .int .i64 p, .slice A us.length c, .slice B us.length d], .int .i64 0, .int .i64 131] ∧ l = [.abs (RowA 3 1 A us.length c (ints (keys us))), .abs (RowA 3 1 B us.length d (ints (vls us)))]) :=
  (Spec.lend (pre := []) (fun _ g => sp_rdropNo M p A B c d us (Lent.rows g).1 hl h hix)).mono (by rintro v l ⟨l0, ⟨rfl, rfl⟩, rfl⟩; exact ⟨rfl, rfl⟩)
theorem sp_osame {l1 l2 : List Int} {n1 n2 : Nat} (h1 : n1 = l1.length) (h2 : n2 = l2.length) (hl : n1 ≤ 16777216) : Spec Try.prog β 29 #[.slice A n1 c, .slice B n2 d] [.abs (RowA 3 1 A n1 c (ints l1)), .abs (RowA 3 1 B n2 d (ints l2))]
    (fun v l => v = .bool (decide (l1 = l2)) ∧ l = [.abs (RowA 3 1 A n1 c (ints l1)), .abs (RowA 3 1 B n2 d (ints l2))]) := by
  subst h1 h2
  refine (Spec.lend (pre := []) (post := fun v l => v = .bool (decide (l1 = l2)) ∧ l = []) (fun β' g => ?_)).mono (by rintro v l ⟨l0, ⟨rfl, rfl⟩, rfl⟩; exact ⟨rfl, rfl⟩)
  obtain ⟨F, h1, h2⟩ := g.get 0 rfl
  obtain ⟨G, g1, g2⟩ := g.get 1 rfl
  exact sp_sameInts A B c d l1 l2 (RowB.of_row h1 h2 rfl) (RowB.of_row g1 g2 rfl) hl
end own
theorem get_ix {us : Used Int} (hr : TabM.Rising (keys us)) {h : Int} (hm : h ∈ keys us) : ∃ k : Nat, ixK (keys us) h = (k : Int) ∧ k < us.length ∧ (keys us).getD k 0 = h ∧ TabM.get us h = some ((vls us).getD k 0) := by
  obtain ⟨k, h1, h2, h3⟩ := ixK_mem hm
  rw [kys_len] at h2
  exact ⟨k, h1, h2, h3, by rw [(keys_pr h2).2]; exact get_pr hr h2 (by rw [← (keys_pr h2).1]; exact h3)⟩
end Go.Proofs.Ytejnhhpjlajngaa
end
