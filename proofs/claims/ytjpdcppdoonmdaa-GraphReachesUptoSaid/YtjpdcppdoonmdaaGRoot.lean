/-
  PROVED HERE: do all ways upwards end?
  CONDITIONS: as the theorems say. Printed by a program of this repo (wip/v).
-/
import Derived.Test.YtjpdcppdoonmdaaGM
namespace Go.Proofs.Ytjpdcppdoonmdaa
open Go.RowKit
attribute [local irreducible] TriL TriLQ Tri TriQ
set_option maxRecDepth 100000 in
set_option maxHeartbeats 4000000 in
theorem sp_rooted {β : Bs} (m : Nat) (ps : List (Int × Int)) (hl : ps.length ≤ 1048576) (hw : ∀ z y, up ps z = some y → (-9223372036854775808 ≤ z ∧ z ≤ 9223372036854775807) ∧ (-9223372036854775808 ≤ y ∧ y ≤ 9223372036854775807)) :
    Spec Try.prog β 60 #[.map (some m)] [.abs (MapA Try.prog 3 m (mf (pf ps)) ps.length)] (fun v l => v = .bool (decide (AllEnd ps)) ∧ l = []) := by
  refine Spec.enter Try.func60 rfl Try.ntmps60 (Nat.le_of_ble_eq_true rfl) (fun R => ?_)
  refine Tri.seq ?_
  refine Tri.region ?_
  refine TriL.segK (k' := 1) (fr' := [(0, .map (some m))]) (obl := []) [o_] [0] (fun _ _ => by kernel_rfl) trivial ?_
  refine TriL.nil (by kernel_rfl) ?_
  refine TriQ.next ?_
  refine Tri.seq ?_
  refine Tri.region ?_
  refine TriL.mapMake (d := (some 11)) (t := 107) (fun _ => by kernel_rfl) Try.prog rfl 3 (fun m1 => ?_)
  refine TriL.segK (k' := 2) (fr' := [(0, .map (some m)), (3, .map (some m1))]) (obl := []) [o_] [0, 3] (fun _ _ => by kernel_rfl) trivial ?_
  refine TriL.nil (by kernel_rfl) ?_
  refine TriQ.next ?_
  refine Tri.seq ?_
  refine Tri.seq ?_
  refine Tri.region ?_
  refine TriL.partEq 2 (p := .abs (MapA Try.prog 3 m1 (fun _ => none) 0)) (p' := .abs (MapA Try.prog 3 m1 (mf (ff [])) 0)) (by kernel_rfl) (by rw [ff_nil]) ?_
  refine TriL.segK (k' := 1) (fr' := [(0, .map (some m)), (3, .map (some m1)), (12, .map (some m))]) (obl := []) [o_] [0, 3, 12] (fun _ _ => by kernel_rfl) trivial ?_
  refine TriL.mapRange 0 (d := (some 13)) (t := 107) (K := 3) (E := 3) (b := m) (n := ps.length) (f := (mf (pf ps))) (x := (.tmp 12)) (fun _ => by kernel_rfl) (by kernel_rfl) (fun _ => by kernel_rfl) lawI Try.underlying107 (fun r2 => ?_)
  refine TriL.nil (by kernel_rfl) ?_
  refine TriQ.next ?_
  refine Tri.block ?_
  refine Tri.loop (ι := (Lit → Bool) × Nat × (Option Value) × (List Int) × Nat) (fun ((left, cnt, last, fs, fn) : (Lit → Bool) × Nat × (Option Value) × (List Int) × Nat) => (cnt ≤ ps.length) ∧ (∀ x y, up ps x = some y → left (.int .i64 x) = false → Ends ps x) ∧ (∀ x, x ∈ fs → Ends ps x) ∧ (fn ≤ (ps.length - cnt) * (ps.length + 2))) (fun ((left, cnt, last, fs, fn) : (Lit → Bool) × Nat × (Option Value) × (List Int) × Nat) => cnt) (fun ((left, cnt, last, fs, fn) : (Lit → Bool) × Nat × (Option Value) × (List Int) × Nat) => [(0, .map (some m)), (3, .map (some m1)), (13, .pointer (some ⟨r2, 0, none⟩))]) (fun ((left, cnt, last, fs, fn) : (Lit → Bool) × Nat × (Option Value) × (List Int) × Nat) => [.abs (RangeA Try.prog 3 m r2 (mf (pf ps)) ps.length left cnt last), .abs (MapA Try.prog 3 m1 (mf (ff fs)) fn), .abs R]) ((fun kl => ((mf (pf ps)) kl).isSome), ps.length, none, [], 0) (idx := [0, 3, 13]) (pk := [0, 2, 1]) (show (ps.length ≤ ps.length) ∧ (∀ x y, up ps x = some y → ((fun kl => ((mf (pf ps)) kl).isSome)) (.int .i64 x) = false → Ends ps x) ∧ (∀ x, x ∈ ([]) → Ends ps x) ∧ (0 ≤ (ps.length - ps.length) * (ps.length + 2)) from ⟨Nat.le_refl _, fun x y hx h => (by have h : ((up ps x).map (Value.int .i64)).isSome = false := h; rw [hx] at h; cases h), fun x hx => (by cases hx), Nat.zero_le _⟩) (fun _ => by kernel_rfl) rfl (by kernel_rfl) ?_
  rintro ⟨left, cnt, last, fs, fn⟩ ⟨hcnt, hdone, hfs, hfn⟩
  show Tri _ _ _ _ [(0, .map (some m)), (3, .map (some m1)), (13, .pointer (some ⟨r2, 0, none⟩))] [.abs (RangeA Try.prog 3 m r2 (mf (pf ps)) ps.length left cnt last), .abs (MapA Try.prog 3 m1 (mf (ff fs)) fn), .abs R] _
  have hfb : fn ≤ 1048576 * 1048578 := Nat.le_trans hfn (Nat.mul_le_mul (by omega) (by omega))
  refine Tri.seq ?_
  refine Tri.region ?_
  refine TriL.mapNext 0 (d := (some 14)) (K := 3) (b := m) (r := r2) (f := (mf (pf ps))) (n := ps.length) (left := left) (cnt := cnt) (last := last) (x := (.tmp 13)) (fun _ => by kernel_rfl) (by kernel_rfl) (fun _ => by kernel_rfl) lawI Try.underlying3 (fun hc0 hl0 => ?_) (fun z u cnt' hlz hfz hwz hltc => ?_)
  · refine TriL.segK (k' := 2) (fr' := [(0, .map (some m)), (3, .map (some m1)), (13, .pointer (some ⟨r2, 0, none⟩)), (15, .bool false)]) (obl := []) [o_] [0, 3, 13, 15] (fun _ _ => by kernel_rfl) trivial ?_
    refine TriL.nil (by kernel_rfl) ?_
    refine TriQ.next ?_
    refine Tri.seq ?_
    refine Tri.condF (fun _ => by kernel_rfl) ?_
    refine Tri.exit ?_
    refine TriQ.passExit ?_
    refine TriQ.passExit ?_
    refine TriQ.blockHit ?_
    refine TriQ.next ?_
    refine Tri.seq ?_
    refine Tri.region ?_
    refine TriL.segK (k' := 1) (fr' := [(2, .bool true)]) (obl := []) [o_] [2] (fun _ _ => by kernel_rfl) trivial ?_
    refine TriL.nil (by kernel_rfl) ?_
    refine TriQ.next ?_
    refine Tri.ret ?_
    exact TriQ.ret (v := .bool true) (l := []) (obl := []) [] [2] (fun _ => by kernel_rfl) trivial rfl (by kernel_rfl) (⟨congrArg Value.bool (decide_eq_true (p := AllEnd ps) (fun z => by cases hu : up ps z with | none => exact ⟨0, hu⟩ | some y => exact hdone z y hu (hl0 _))).symm, rfl⟩)
  · obtain ⟨y, hy, rfl⟩ := pf_some hfz
    refine TriL.segK (k' := 2) (fr' := [(0, .map (some m)), (3, .map (some m1)), (13, .pointer (some ⟨r2, 0, none⟩)), (15, .bool true)]) (obl := []) [o_] [0, 3, 13, 15] (fun _ _ => by kernel_rfl) trivial ?_
    refine TriL.nil (by kernel_rfl) ?_
    refine TriQ.next ?_
    refine Tri.seq ?_
    refine Tri.condT (fun _ => by kernel_rfl) ?_
    refine Tri.skip ?_
    refine TriQ.next ?_
    refine Tri.block ?_
    refine Tri.seq ?_
    refine Tri.region ?_
    refine TriL.mapEntry 0 (d := (some 16)) (K := 3) (b := m) (r := r2) (f := (mf (pf ps))) (n := ps.length) (left := (fun kl => left kl && !kl.sameKey (.int .i64 z))) (cnt := cnt') (v := .tuple #[.int .i64 (z), .int .i64 (y)]) (x := (.tmp 13)) (fun _ => by kernel_rfl) (by kernel_rfl) (fun _ => by kernel_rfl) ?_
    refine TriL.segK (k' := 3) (fr' := [(0, .map (some m)), (3, .map (some m1)), (4, .int .i64 (z)), (13, .pointer (some ⟨r2, 0, none⟩))]) (obl := []) [o_, o_] [0, 3, 4, 13] (fun _ _ => by kernel_rfl) trivial ?_
    refine TriL.nil (by kernel_rfl) ?_
    refine TriQ.next ?_
    refine Tri.seq ?_
    refine Tri.region ?_
    refine TriL.segK (k' := 1) (fr' := [(0, .map (some m)), (3, .map (some m1)), (4, .int .i64 (z)), (5, .slice none (0) (0)), (13, .pointer (some ⟨r2, 0, none⟩))]) (obl := []) [o_] [0, 3, 4, 5, 13] (fun _ _ => by kernel_rfl) trivial ?_
    refine TriL.nil (by kernel_rfl) ?_
    refine TriQ.next ?_
    refine Tri.join (ι := (List Int) × (Option Addr) × Nat) (fun ((w2, A2, c2) : (List Int) × (Option Addr) × Nat) => (Ends ps z) ∧ (∀ x, x ∈ w2 → Ends ps x) ∧ (w2.length ≤ ps.length + 1) ∧ (∀ x, x ∈ w2 → -9223372036854775808 ≤ x ∧ x ≤ 9223372036854775807)) (fun ((w2, A2, c2) : (List Int) × (Option Addr) × Nat) => [(0, .map (some m)), (3, .map (some m1)), (5, .slice A2 (w2.length) (c2)), (13, .pointer (some ⟨r2, 0, none⟩))]) (fun ((w2, A2, c2) : (List Int) × (Option Addr) × Nat) => [.abs (RangeA Try.prog 3 m r2 (mf (pf ps)) ps.length (fun kl => left kl && !kl.sameKey (.int .i64 z)) cnt' (some (.tuple #[.int .i64 (z), .int .i64 (y)]))), .abs (MapA Try.prog 3 m1 (mf (ff fs)) fn), .abs (RowA 3 1 A2 w2.length c2 (intsV w2)), .abs R]) ?_ ?_
    · rintro ⟨w2, A2, c2⟩ ⟨hend, hall2, hwl2, hwb2⟩
      show Tri _ _ _ _ [(0, .map (some m)), (3, .map (some m1)), (5, .slice A2 (w2.length) (c2)), (13, .pointer (some ⟨r2, 0, none⟩))] [.abs (RangeA Try.prog 3 m r2 (mf (pf ps)) ps.length (fun kl => left kl && !kl.sameKey (.int .i64 z)) cnt' (some (.tuple #[.int .i64 (z), .int .i64 (y)]))), .abs (MapA Try.prog 3 m1 (mf (ff fs)) fn), .abs (RowA 3 1 A2 w2.length c2 (intsV w2)), .abs R] _
      refine Tri.seq ?_
      refine Tri.region ?_
      refine TriL.segK (k' := 3) (fr' := [(0, .map (some m)), (3, .map (some m1)), (13, .pointer (some ⟨r2, 0, none⟩)), (41, .slice A2 (w2.length) (c2)), (42, .int .i64 (((w2.length : Nat) : Int))), (43, .int .i64 0)]) (obl := []) [o_, o_, o_] [0, 3, 13, 41, 42, 43] (fun _ _ => by kernel_rfl) trivial ?_
      refine TriL.nil (by kernel_rfl) ?_
      refine TriQ.next ?_
      refine Tri.block ?_
      refine Tri.loop (ι := Nat × (List Int) × Nat) (fun ((j, fs2, fn2) : Nat × (List Int) × Nat) => (j ≤ w2.length) ∧ (∀ x, x ∈ fs2 → Ends ps x) ∧ (fn2 ≤ fn + j)) (fun ((j, fs2, fn2) : Nat × (List Int) × Nat) => w2.length - j) (fun ((j, fs2, fn2) : Nat × (List Int) × Nat) => [(0, .map (some m)), (3, .map (some m1)), (13, .pointer (some ⟨r2, 0, none⟩)), (41, .slice A2 (w2.length) (c2)), (42, .int .i64 (((w2.length : Nat) : Int))), (43, .int .i64 (((j : Nat) : Int)))]) (fun ((j, fs2, fn2) : Nat × (List Int) × Nat) => [.abs (RangeA Try.prog 3 m r2 (mf (pf ps)) ps.length (fun kl => left kl && !kl.sameKey (.int .i64 z)) cnt' (some (.tuple #[.int .i64 (z), .int .i64 (y)]))), .abs (MapA Try.prog 3 m1 (mf (ff fs2)) fn2), .abs (RowA 3 1 A2 w2.length c2 (intsV w2)), .abs R]) (0, fs, fn) (idx := [0, 3, 13, 41, 42, 43]) (pk := [0, 1, 2, 3]) (show (0 ≤ w2.length) ∧ (∀ x, x ∈ fs → Ends ps x) ∧ (fn ≤ fn + 0) from ⟨Nat.zero_le _, hfs, Nat.le_refl _⟩) (fun _ => by kernel_rfl) rfl (by kernel_rfl) ?_
      rintro ⟨j, fs2, fn2⟩ ⟨hj, hfs2, hfn2⟩
      show Tri _ _ _ _ [(0, .map (some m)), (3, .map (some m1)), (13, .pointer (some ⟨r2, 0, none⟩)), (41, .slice A2 (w2.length) (c2)), (42, .int .i64 (((w2.length : Nat) : Int))), (43, .int .i64 (((j : Nat) : Int)))] [.abs (RangeA Try.prog 3 m r2 (mf (pf ps)) ps.length (fun kl => left kl && !kl.sameKey (.int .i64 z)) cnt' (some (.tuple #[.int .i64 (z), .int .i64 (y)]))), .abs (MapA Try.prog 3 m1 (mf (ff fs2)) fn2), .abs (RowA 3 1 A2 w2.length c2 (intsV w2)), .abs R] _
      refine Tri.seq ?_
      refine Tri.region ?_
      refine TriL.segK (k' := 1) (fr' := [(0, .map (some m)), (3, .map (some m1)), (13, .pointer (some ⟨r2, 0, none⟩)), (41, .slice A2 (w2.length) (c2)), (42, .int .i64 (((w2.length : Nat) : Int))), (43, .int .i64 (((j : Nat) : Int))), (44, .bool (decide ((((j : Nat) : Int) : Int) < (((w2.length : Nat) : Int) : Int))))]) (obl := []) [o_] [0, 3, 13, 41, 42, 43, 44] (fun _ _ => by kernel_rfl) trivial ?_
      refine TriL.nil (by kernel_rfl) ?_
      refine TriQ.next ?_
      refine Tri.seq ?_
      refine Tri.condP (p := (((j : Nat) : Int) : Int) < (((w2.length : Nat) : Int) : Int)) (fun _ => by kernel_rfl) (fun h44 => ?_) (fun h44 => ?_)
      · refine Tri.skip ?_
        refine TriQ.next ?_
        refine Tri.seq ?_
        refine Tri.block ?_
        refine Tri.seq ?_
        refine Tri.region ?_
        refine TriL.tell (fun w hS => let ⟨F, h⟩ := hS.get (i := 2) rfl; (RowA.headB h (by omega)).1) (fun hA2 => ?_)
        refine TriL.segK (k' := 3) (fr' := [(0, .map (some m)), (3, .map (some m1)), (10, .int .i64 ((w2.getD j 0))), (13, .pointer (some ⟨r2, 0, none⟩)), (41, .slice A2 (w2.length) (c2)), (42, .int .i64 (((w2.length : Nat) : Int))), (43, .int .i64 (((j : Nat) : Int)))]) (obl := [(∀ F w, (RowA 3 1 A2 w2.length c2 (intsV w2)).h F w → w.cell? ⟨(blkOf A2), offOf A2 + j * 1, none⟩ = some (.int .i64 ((w2.getD j 0)))), ((j : Nat) : Int) = ((j : Nat) : Int), j < w2.length, (⟨(blkOf A2), offOf A2, none⟩ : Addr).spot = none, (A2 : Option Addr) = some ⟨(blkOf A2), offOf A2, none⟩]) [⟨[], some j, none, some ⟨(blkOf A2), offOf A2, none⟩, none⟩, ⟨[.view 2 (.int .i64 ((w2.getD j 0)))], none, none, none, none⟩, o_] [0, 3, 10, 13, 41, 42, 43] (fun _ _ => by kernel_rfl) ⟨RowA.cellI (by omega), rfl, by omega, rfl, hA2, trivial⟩ ?_
        refine TriL.nil (by kernel_rfl) ?_
        refine TriQ.next ?_
        refine Tri.region ?_
        refine TriL.segK (k' := 2) (fr' := [(0, .map (some m)), (3, .map (some m1)), (13, .pointer (some ⟨r2, 0, none⟩)), (41, .slice A2 (w2.length) (c2)), (42, .int .i64 (((w2.length : Nat) : Int))), (43, .int .i64 (((j : Nat) : Int))), (47, .map (some m1)), (48, .int .i64 ((w2.getD j 0)))]) (obl := []) [o_, o_] [0, 3, 13, 41, 42, 43, 47, 48] (fun _ _ => by kernel_rfl) trivial ?_
        refine TriL.mapSet 1 (d := none) (t := 107) (K := 3) (E := 3) (b := m1) (n := fn2) (f := (mf (ff fs2))) (x := (.tmp 47)) (ix := (.tmp 48)) (y := (.const (.int .i64 1))) (key := .int .i64 ((w2.getD j 0))) (u := .int .i64 1) (kl := (.int .i64 (w2.getD j 0))) (n' := (if (ff fs2 (w2.getD j 0)).isSome then fn2 else fn2 + 1)) (f' := (mf (ff ((w2.getD j 0) :: fs2)))) (fun _ => by kernel_rfl) (by kernel_rfl) (fun _ => by kernel_rfl) (fun _ => by kernel_rfl) (fun _ => by kernel_rfl) lawI Try.underlying107 (by unfold maxLen; omega) (keyI (hwb2 _ (getD_mem (by omega))).1 (hwb2 _ (getD_mem (by omega))).2) (rfl) (ff_upd _ _) ?_
        refine TriL.nil (by kernel_rfl) ?_
        refine TriQ.blockNormal ?_
        refine TriQ.next ?_
        refine Tri.region ?_
        refine TriL.segK (k' := 2) (fr' := [(0, .map (some m)), (3, .map (some m1)), (13, .pointer (some ⟨r2, 0, none⟩)), (41, .slice A2 (w2.length) (c2)), (42, .int .i64 (((w2.length : Nat) : Int))), (43, .int .i64 (((j + 1 : Nat) : Int)))]) (obl := [(Value.int .i64 (IntKind.wrap .i64 (((j : Nat) : Int) + 1))) = (.int .i64 (((j + 1 : Nat) : Int)))]) [⟨[], none, none, none, some (.int .i64 (((j + 1 : Nat) : Int)))⟩, o_] [0, 3, 13, 41, 42, 43] (fun _ _ => by kernel_rfl) ⟨wrapEq (by omega) (by omega) (by omega), trivial⟩ ?_
        refine TriL.nil (by kernel_rfl) ?_
        exact TriQ.turn ((j + 1), ((w2.getD j 0) :: fs2), (if (ff fs2 (w2.getD j 0)).isSome then fn2 else fn2 + 1)) (idx := [0, 3, 13, 41, 42, 43]) (pk := [0, 1, 2, 3]) (show (((j + 1)) ≤ w2.length) ∧ (∀ x, x ∈ (((w2.getD j 0) :: fs2)) → Ends ps x) ∧ (((if (ff fs2 (w2.getD j 0)).isSome then fn2 else fn2 + 1)) ≤ fn + ((j + 1))) from ⟨by omega, fun x hx => (List.mem_cons.1 hx).elim (fun e => e ▸ hall2 _ (getD_mem (by omega))) (hfs2 x), by split <;> omega⟩) (by show w2.length - ((j + 1)) < w2.length - j; omega) (fun _ => by kernel_rfl) rfl (by kernel_rfl)
      · refine Tri.exit ?_
        refine TriQ.passExit ?_
        refine TriQ.passExit ?_
        refine TriQ.blockHit ?_
        refine TriQ.blockNormal ?_
        exact TriQ.turn ((fun kl => left kl && !kl.sameKey (.int .i64 z)), cnt', (some (.tuple #[.int .i64 (z), .int .i64 (y)])), fs2, fn2) (idx := [0, 3, 13]) (pk := [0, 1, 3]) (show (cnt' ≤ ps.length) ∧ (∀ x y, up ps x = some y → ((fun kl => left kl && !kl.sameKey (.int .i64 z))) (.int .i64 x) = false → Ends ps x) ∧ (∀ x, x ∈ fs2 → Ends ps x) ∧ (fn2 ≤ (ps.length - cnt') * (ps.length + 2)) from ⟨by omega, range_left hdone hend, hfs2, fn_bound hfn hfn2 (by omega) hltc hcnt⟩) (by show cnt' < cnt; omega) (fun _ => by kernel_rfl) rfl (by kernel_rfl)
    · refine Tri.seq ?_
      refine Tri.region ?_
      refine TriL.mem (fun w hS => hS.rowNil (e := 3) (size := 1)) ?_
      refine TriL.segK (k' := 2) (fr' := [(0, .map (some m)), (3, .map (some m1)), (5, .slice none (0) (0)), (6, .int .i64 (z)), (13, .pointer (some ⟨r2, 0, none⟩))]) (obl := []) [o_, o_] [0, 3, 5, 6, 13] (fun _ _ => by kernel_rfl) trivial ?_
      refine TriL.nil (by kernel_rfl) ?_
      refine TriQ.next ?_
      refine Tri.block ?_
      refine Tri.loop (ι := Int × (List Int) × (Option Addr) × Nat) (fun ((at_, w, Aw, cw) : Int × (List Int) × (Option Addr) × Nat) => (Way ps z w at_) ∧ (w.length ≤ ps.length) ∧ (∀ x, x ∈ w → -9223372036854775808 ≤ x ∧ x ≤ 9223372036854775807) ∧ (-9223372036854775808 ≤ at_ ∧ at_ ≤ 9223372036854775807)) (fun ((at_, w, Aw, cw) : Int × (List Int) × (Option Addr) × Nat) => ps.length + 1 - w.length) (fun ((at_, w, Aw, cw) : Int × (List Int) × (Option Addr) × Nat) => [(0, .map (some m)), (3, .map (some m1)), (5, .slice Aw (w.length) (cw)), (6, .int .i64 (at_)), (13, .pointer (some ⟨r2, 0, none⟩))]) (fun ((at_, w, Aw, cw) : Int × (List Int) × (Option Addr) × Nat) => [.abs (RangeA Try.prog 3 m r2 (mf (pf ps)) ps.length (fun kl => left kl && !kl.sameKey (.int .i64 z)) cnt' (some (.tuple #[.int .i64 (z), .int .i64 (y)]))), .abs (MapA Try.prog 3 m1 (mf (ff fs)) fn), .abs (RowA 3 1 Aw w.length cw (intsV w)), .abs R]) (z, [], none, 0) (idx := [0, 3, 5, 6, 13]) (pk := [0, 1, 3, 2]) (show (Way ps z ([]) z) ∧ (([]).length ≤ ps.length) ∧ (∀ x, x ∈ ([]) → -9223372036854775808 ≤ x ∧ x ≤ 9223372036854775807) ∧ (-9223372036854775808 ≤ z ∧ z ≤ 9223372036854775807) from ⟨.nil, Nat.zero_le _, fun x hx => (by cases hx), (hw z y hy).1⟩) (fun _ => by kernel_rfl) rfl (by kernel_rfl) ?_
      rintro ⟨at_, w, Aw, cw⟩ ⟨hway, hwl, hwb, hab⟩
      show Tri _ _ _ _ [(0, .map (some m)), (3, .map (some m1)), (5, .slice Aw (w.length) (cw)), (6, .int .i64 (at_)), (13, .pointer (some ⟨r2, 0, none⟩))] [.abs (RangeA Try.prog 3 m r2 (mf (pf ps)) ps.length (fun kl => left kl && !kl.sameKey (.int .i64 z)) cnt' (some (.tuple #[.int .i64 (z), .int .i64 (y)]))), .abs (MapA Try.prog 3 m1 (mf (ff fs)) fn), .abs (RowA 3 1 Aw w.length cw (intsV w)), .abs R] _
      refine Tri.seq ?_
      refine Tri.seq ?_
      refine Tri.region ?_
      refine TriL.segK (k' := 2) (fr' := [(0, .map (some m)), (3, .map (some m1)), (5, .slice Aw (w.length) (cw)), (6, .int .i64 (at_)), (13, .pointer (some ⟨r2, 0, none⟩)), (19, .map (some m1)), (20, .int .i64 (at_))]) (obl := []) [o_, o_] [0, 3, 5, 6, 13, 19, 20] (fun _ _ => by kernel_rfl) trivial ?_
      by_cases hfa : at_ ∈ fs
      · refine TriL.mapLook 1 (d := (some 21)) (t := 107) (K := 3) (E := 3) (b := m1) (n := fn) (f := (mf (ff fs))) (x := (.tmp 19)) (ix := (.tmp 20)) (key := .int .i64 (at_)) (z := .int .i64 0) (kl := (.int .i64 at_)) (r := (some (.int .i64 1))) (fun _ => by kernel_rfl) (by kernel_rfl) (fun _ => by kernel_rfl) (fun _ => by kernel_rfl) lawI Try.underlying107 (fun _ => by kernel_rfl) (keyI hab.1 hab.2) (if_pos hfa) ?_
        refine TriL.segK (k' := 4) (fr' := [(0, .map (some m)), (3, .map (some m1)), (5, .slice Aw (w.length) (cw)), (6, .int .i64 (at_)), (13, .pointer (some ⟨r2, 0, none⟩)), (22, .bool false)]) (obl := []) [o_] [0, 3, 5, 6, 13, 22] (fun _ _ => by kernel_rfl) trivial ?_
        refine TriL.nil (by kernel_rfl) ?_
        refine TriQ.next ?_
        refine Tri.condF (fun _ => by kernel_rfl) ?_
        refine Tri.exit ?_
        refine TriQ.passExit ?_
        refine TriQ.passExit ?_
        refine TriQ.blockHit ?_
        exact TriQ.meet (w, Aw, cw) (idx := [0, 3, 5, 13]) (pk := [0, 1, 2, 3]) (show (Ends ps z) ∧ (∀ x, x ∈ w → Ends ps x) ∧ (w.length ≤ ps.length + 1) ∧ (∀ x, x ∈ w → -9223372036854775808 ≤ x ∧ x ≤ 9223372036854775807) from ⟨(hway.ends (hfs at_ hfa)).1, (hway.ends (hfs at_ hfa)).2, by omega, hwb⟩) (fun _ => by kernel_rfl) rfl (by kernel_rfl)
      · refine TriL.mapLook 1 (d := (some 21)) (t := 107) (K := 3) (E := 3) (b := m1) (n := fn) (f := (mf (ff fs))) (x := (.tmp 19)) (ix := (.tmp 20)) (key := .int .i64 (at_)) (z := .int .i64 0) (kl := (.int .i64 at_)) (r := none) (fun _ => by kernel_rfl) (by kernel_rfl) (fun _ => by kernel_rfl) (fun _ => by kernel_rfl) lawI Try.underlying107 (fun _ => by kernel_rfl) (keyI hab.1 hab.2) (if_neg hfa) ?_
        refine TriL.segK (k' := 4) (fr' := [(0, .map (some m)), (3, .map (some m1)), (5, .slice Aw (w.length) (cw)), (6, .int .i64 (at_)), (13, .pointer (some ⟨r2, 0, none⟩)), (22, .bool true)]) (obl := []) [o_] [0, 3, 5, 6, 13, 22] (fun _ _ => by kernel_rfl) trivial ?_
        refine TriL.nil (by kernel_rfl) ?_
        refine TriQ.next ?_
        refine Tri.condT (fun _ => by kernel_rfl) ?_
        refine Tri.skip ?_
        refine TriQ.next ?_
        refine Tri.block ?_
        refine Tri.seq ?_
        refine Tri.region ?_
        refine TriL.segN (k' := 3) (fr' := fun b3 => [(0, .map (some m)), (3, .map (some m1)), (6, .int .i64 (at_)), (13, .pointer (some ⟨r2, 0, none⟩)), (23, .slice Aw (w.length) (cw)), (25, .slice (some ⟨b3, 0, none⟩) (1) (1))]) (hps' := fun b3 => [.abs (RangeA Try.prog 3 m r2 (mf (pf ps)) ps.length (fun kl => left kl && !kl.sameKey (.int .i64 z)) cnt' (some (.tuple #[.int .i64 (z), .int .i64 (y)]))), .abs (MapA Try.prog 3 m1 (mf (ff fs)) fn), .abs (RowA 3 1 Aw w.length cw (intsV w)), .abs R, .blk b3 [.int .i64 (at_)] 3]) (obl := fun b3 => []) [o_, o_, o_] [0, 3, 6, 13, 23, 25] [0, 1, 2, 3, 4] (fun _ _ => by kernel_rfl) (fun b3 => trivial) (fun b3 => ?_)
        refine TriL.append 2 (d := (some 26)) (t := 60) (e := 3) (z := .int .i64 0) (size := 1) (bytes := 8) (n := w.length) (cap := cw) (A := Aw) (xs := (intsV w)) (s := (.tmp 23)) (x := (.tmp 25)) (ats := #[60, 60]) (A' := some ⟨b3, 0, none⟩) (m := 1) (c' := 1) (news := [.int .i64 (at_)]) (fun _ => by kernel_rfl) rfl (by kernel_rfl) (fun _ => by kernel_rfl) (fun _ => by kernel_rfl) Try.underlying60 (by kernel_rfl) rfl (by decide) (by simp) (by simp [Value.oneCell']) (src_blk (j := 4) rfl) (by unfold maxLen; omega) (by omega) (fun A4 c5 => ?_)
        refine TriL.partEq 2 (p := .abs (RowA 3 1 A4 (w.length + 1) c5 ((intsV w) ++ [.int .i64 (at_)]))) (p' := .abs (RowA 3 1 A4 ((w ++ [at_]).length) c5 (intsV (w ++ [at_])))) (by kernel_rfl) (by simp [intsV]) ?_
        refine TriL.slot 26 (.slice A4 (w.length + 1) (c5)) (.slice A4 ((w ++ [at_]).length) (c5)) (fun _ => by kernel_rfl) (by simp) ?_
        refine TriL.segK (k' := 5) (fr' := [(0, .map (some m)), (3, .map (some m1)), (5, .slice A4 ((w ++ [at_]).length) (c5)), (6, .int .i64 (at_)), (13, .pointer (some ⟨r2, 0, none⟩))]) (obl := []) [o_] [0, 3, 5, 6, 13] (fun _ _ => by kernel_rfl) trivial ?_
        refine TriL.nil (by kernel_rfl) ?_
        refine TriQ.next ?_
        refine Tri.seq ?_
        refine Tri.region ?_
        refine TriL.segK (k' := 2) (fr' := [(0, .map (some m)), (3, .map (some m1)), (5, .slice A4 ((w ++ [at_]).length) (c5)), (13, .pointer (some ⟨r2, 0, none⟩)), (28, .map (some m)), (29, .int .i64 (at_))]) (obl := []) [o_, o_] [0, 3, 5, 13, 28, 29] (fun _ _ => by kernel_rfl) trivial ?_
        rcases hup : up ps at_ with _ | y2
        · refine TriL.rangeLookOk 0 (d := (some 30)) (t := 107) (K := 3) (E := 3) (b := m) (n := ps.length) (f := (mf (pf ps))) (r := r2) (left := (fun kl => left kl && !kl.sameKey (.int .i64 z))) (cnt := cnt') (last := (some (.tuple #[.int .i64 (z), .int .i64 (y)]))) (x := (.tmp 28)) (ix := (.tmp 29)) (key := .int .i64 (at_)) (z := .int .i64 0) (kl := (.int .i64 at_)) (u := none) (fun _ => by kernel_rfl) (by kernel_rfl) (fun _ => by kernel_rfl) (fun _ => by kernel_rfl) lawI Try.underlying107 (fun _ => by kernel_rfl) (keyI hab.1 hab.2) (pf_at_none hup) ?_
          refine TriL.segK (k' := 8) (fr' := [(0, .map (some m)), (3, .map (some m1)), (5, .slice A4 ((w ++ [at_]).length) (c5)), (7, .int .i64 0), (8, .bool false), (13, .pointer (some ⟨r2, 0, none⟩))]) (obl := []) [o_, o_, o_, o_, o_] [0, 3, 5, 7, 8, 13] (fun _ _ => by kernel_rfl) trivial ?_
          refine TriL.nil (by kernel_rfl) ?_
          refine TriQ.next ?_
          refine Tri.seq ?_
          refine Tri.seq ?_
          refine Tri.region ?_
          refine TriL.segK (k' := 2) (fr' := [(0, .map (some m)), (3, .map (some m1)), (5, .slice A4 ((w ++ [at_]).length) (c5)), (7, .int .i64 0), (13, .pointer (some ⟨r2, 0, none⟩)), (34, .bool true)]) (obl := []) [o_, o_] [0, 3, 5, 7, 13, 34] (fun _ _ => by kernel_rfl) trivial ?_
          refine TriL.nil (by kernel_rfl) ?_
          refine TriQ.next ?_
          refine Tri.condT (fun _ => by kernel_rfl) ?_
          refine Tri.exit ?_
          refine TriQ.passExit ?_
          refine TriQ.blockMiss (by decide) ?_
          refine TriQ.passExit ?_
          refine TriQ.blockHit ?_
          exact TriQ.meet ((w ++ [at_]), A4, c5) (idx := [0, 3, 5, 13]) (pk := [0, 1, 2, 3]) (show (Ends ps z) ∧ (∀ x, x ∈ ((w ++ [at_])) → Ends ps x) ∧ (((w ++ [at_])).length ≤ ps.length + 1) ∧ (∀ x, x ∈ ((w ++ [at_])) → -9223372036854775808 ≤ x ∧ x ≤ 9223372036854775807) from ⟨(way_root hway hup).1, (way_root hway hup).2, by simp; omega, wb_snoc hwb hab⟩) (fun _ => by kernel_rfl) rfl (by kernel_rfl)
        · refine TriL.rangeLookOk 0 (d := (some 30)) (t := 107) (K := 3) (E := 3) (b := m) (n := ps.length) (f := (mf (pf ps))) (r := r2) (left := (fun kl => left kl && !kl.sameKey (.int .i64 z))) (cnt := cnt') (last := (some (.tuple #[.int .i64 (z), .int .i64 (y)]))) (x := (.tmp 28)) (ix := (.tmp 29)) (key := .int .i64 (at_)) (z := .int .i64 0) (kl := (.int .i64 at_)) (u := (some (.int .i64 y2))) (fun _ => by kernel_rfl) (by kernel_rfl) (fun _ => by kernel_rfl) (fun _ => by kernel_rfl) lawI Try.underlying107 (fun _ => by kernel_rfl) (keyI hab.1 hab.2) (pf_at hup) ?_
          refine TriL.segK (k' := 8) (fr' := [(0, .map (some m)), (3, .map (some m1)), (5, .slice A4 ((w ++ [at_]).length) (c5)), (7, .int .i64 (y2)), (8, .bool true), (13, .pointer (some ⟨r2, 0, none⟩))]) (obl := []) [o_, o_, o_, o_, o_] [0, 3, 5, 7, 8, 13] (fun _ _ => by kernel_rfl) trivial ?_
          refine TriL.nil (by kernel_rfl) ?_
          refine TriQ.next ?_
          refine Tri.seq ?_
          refine Tri.seq ?_
          refine Tri.region ?_
          refine TriL.segK (k' := 2) (fr' := [(0, .map (some m)), (3, .map (some m1)), (5, .slice A4 ((w ++ [at_]).length) (c5)), (7, .int .i64 (y2)), (13, .pointer (some ⟨r2, 0, none⟩)), (34, .bool false)]) (obl := []) [o_, o_] [0, 3, 5, 7, 13, 34] (fun _ _ => by kernel_rfl) trivial ?_
          refine TriL.nil (by kernel_rfl) ?_
          refine TriQ.next ?_
          refine Tri.condF (fun _ => by kernel_rfl) ?_
          refine Tri.skip ?_
          refine TriQ.next ?_
          refine Tri.seq ?_
          refine Tri.seq ?_
          refine Tri.region ?_
          refine TriL.segK (k' := 3) (fr' := [(0, .map (some m)), (3, .map (some m1)), (5, .slice A4 ((w ++ [at_]).length) (c5)), (7, .int .i64 (y2)), (13, .pointer (some ⟨r2, 0, none⟩)), (36, .int .i64 ((((w ++ [at_]).length : Nat) : Int))), (37, .map (some m))]) (obl := []) [o_, o_, o_] [0, 3, 5, 7, 13, 36, 37] (fun _ _ => by kernel_rfl) trivial ?_
          refine TriL.rangeLen 0 (d := (some 38)) (t := 107) (K := 3) (E := 3) (b := m) (n := ps.length) (f := (mf (pf ps))) (r := r2) (left := (fun kl => left kl && !kl.sameKey (.int .i64 z))) (cnt := cnt') (last := (some (.tuple #[.int .i64 (z), .int .i64 (y)]))) (x := (.tmp 37)) (ats := #[107]) (fun _ => by kernel_rfl) (by kernel_rfl) (fun _ => by kernel_rfl) rfl Try.underlying107 ?_
          refine TriL.segK (k' := 5) (fr' := [(0, .map (some m)), (3, .map (some m1)), (5, .slice A4 ((w ++ [at_]).length) (c5)), (7, .int .i64 (y2)), (13, .pointer (some ⟨r2, 0, none⟩)), (39, .bool (decide (((((w ++ [at_]).length : Nat) : Int) : Int) > (((ps.length : Nat) : Int) : Int))))]) (obl := []) [o_] [0, 3, 5, 7, 13, 39] (fun _ _ => by kernel_rfl) trivial ?_
          refine TriL.nil (by kernel_rfl) ?_
          refine TriQ.next ?_
          refine Tri.condP (p := ((((w ++ [at_]).length : Nat) : Int) : Int) > (((ps.length : Nat) : Int) : Int)) (fun _ => by kernel_rfl) (fun h39 => ?_) (fun h39 => ?_)
          · refine Tri.seq ?_
            refine Tri.region ?_
            refine TriL.segK (k' := 1) (fr' := [(2, .bool false)]) (obl := []) [o_] [2] (fun _ _ => by kernel_rfl) trivial ?_
            refine TriL.nil (by kernel_rfl) ?_
            refine TriQ.next ?_
            refine Tri.ret ?_
            refine TriQ.passRet ?_
            refine TriQ.blockRet ?_
            refine TriQ.passRet ?_
            refine TriQ.blockRet ?_
            refine TriQ.passRet ?_
            refine TriQ.blockRet ?_
            refine TriQ.passRet ?_
            refine TriQ.blockRet ?_
            refine TriQ.passRet ?_
            exact TriQ.ret (v := .bool false) (l := []) (obl := []) [] [3] (fun _ => by kernel_rfl) trivial rfl (by kernel_rfl) (⟨congrArg Value.bool (decide_eq_false (p := AllEnd ps) (fun hall => (hway.snoc hup).never (by simp at h39 ⊢; omega) (hall z))).symm, rfl⟩)
          · refine Tri.skip ?_
            refine TriQ.next ?_
            refine Tri.region ?_
            refine TriL.segK (k' := 2) (fr' := [(0, .map (some m)), (3, .map (some m1)), (5, .slice A4 ((w ++ [at_]).length) (c5)), (6, .int .i64 (y2)), (13, .pointer (some ⟨r2, 0, none⟩))]) (obl := []) [o_, o_] [0, 3, 5, 6, 13] (fun _ _ => by kernel_rfl) trivial ?_
            refine TriL.nil (by kernel_rfl) ?_
            refine TriQ.blockNormal ?_
            exact TriQ.turn (y2, (w ++ [at_]), A4, c5) (idx := [0, 3, 5, 6, 13]) (pk := [0, 1, 2, 3]) (show (Way ps z ((w ++ [at_])) y2) ∧ (((w ++ [at_])).length ≤ ps.length) ∧ (∀ x, x ∈ ((w ++ [at_])) → -9223372036854775808 ≤ x ∧ x ≤ 9223372036854775807) ∧ (-9223372036854775808 ≤ y2 ∧ y2 ≤ 9223372036854775807) from ⟨hway.snoc hup, by simp at h39 ⊢; omega, wb_snoc hwb hab, (hw at_ y2 hup).2⟩) (by show ps.length + 1 - ((w ++ [at_])).length < ps.length + 1 - w.length; simp; omega) (fun _ => by kernel_rfl) rfl (by kernel_rfl)
end Go.Proofs.Ytjpdcppdoonmdaa
