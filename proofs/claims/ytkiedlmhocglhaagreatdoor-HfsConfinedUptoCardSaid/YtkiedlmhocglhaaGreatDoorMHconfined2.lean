/-
  PROVED HERE: lemmas and contracts of functions (texts of this repo, joined; what the claim does not use is left out): GRoot, GCheck, GE, Hm, Fam, Ld, Fw, Ms, Hn, Ho, ShelfK, Free, HeapMath, Up, Down, PushPop, TabMath, Tab, Tq, TKt, TabT, Hp, Hs, Hi, Hj, Hk, Hl, Hq, Hr, Ht, Hu, TabMath2.
  CONDITIONS: as the theorems say.
-/
import Derived.Test.YtkiedlmhocglhaaGreatDoorMHconfined1
import Derived.Maps.OwnOps
import Derived.Shelf.SlGeneric
import Derived.Shelf.SlIterI.Nil
import Derived.Shelf.SortM.Plain
import Derived.Shelf.SortM.SortNone
import Derived.Ground.GgzProg
import Derived.Ground.SlgmProg
import Derived.Test.YtkiedlmhocglhaaGreatDoorProg
import Derived.RegionTactic
import Derived.Deep.QuietTactic
import Derived.BigQuiet
import Derived.BigRegion
import Derived.StillTailTactics
import Derived.WalkSpells
import Derived.Outline
import Derived.Deep.AppendLies
import Derived.Deep.RegionLaw
import Derived.LoopTactic
import Derived.LaidEqlPtr
set_option maxRecDepth 100000
set_option maxHeartbeats 4000000
namespace Go.Proofs.YtkiedlmhocglhaaGreatDoor
section
open Go.RowKit
attribute [local irreducible] aj aR af ai
theorem Gi {β : Bs} (m : Nat) (ps : List (Int × Int)) (hl : ps.length ≤ 1048576) (hw : ∀ z y, up ps z = some y → (-9223372036854775808 ≤ z ∧ z ≤ 9223372036854775807) ∧ (-9223372036854775808 ≤ y ∧ y ≤ 9223372036854775807)) :
    Spec Tryz.prog β 121 #[.map (some m)] [.abs (aE Tryz.prog 3 m (mf (pf ps)) ps.length)] (fun v l => v = .bool (decide (tZ ps)) ∧ l = []) := by
 refine Spec.enter Tryz.func121 rfl Tryz.ntmps121 (Nat.le_of_ble_eq_true rfl) (fun R => ?_)
 refine SR ?_
 refine gK 1 [] [] ?_
 refine NS ?_
 refine aj.kK (d := (some 11)) (t := 183) (fun _ => by kernel_rfl) Tryz.prog rfl 3 (fun m1 => ?_)
 refine gK 1 [(3, .map (some m1))] [] ?_
 refine NN (af.seq (SR ?_))
 refine aj.dH 2 (p := .abs (aE Tryz.prog 3 m1 (fun _ => none) 0)) (p' := .abs (aE Tryz.prog 3 m1 (mf (ff [])) 0)) (by kernel_rfl) (by rw [LK]) ?_
 refine gK 1 [(12, .map (some m))] [] ?_
 refine aj.mapRange 0 (d := (some 13)) (t := 183) (K := 3) (E := 3) (b := m) (n := ps.length) (f := (mf (pf ps))) (x := (.tmp 12)) (fun _ => by kernel_rfl) (by kernel_rfl) (fun _ => by kernel_rfl) cU Tryz.underlying183 (fun r2 => ?_)
 refine NN (af.block ?_)
 refine af.loop (ι := (Lit → Bool) × Nat × (Option Value) × (List Int) × Nat) (fun ((left, cnt, last, fs, fn) : (Lit → Bool) × Nat × (Option Value) × (List Int) × Nat) => (cnt ≤ ps.length) ∧ (∀ x y, up ps x = some y → left (.int .i64 x) = false → Ends ps x) ∧ (∀ x, x ∈ fs → Ends ps x) ∧ (fn ≤ (ps.length - cnt) * (ps.length + 2))) (fun ((left, cnt, last, fs, fn) : (Lit → Bool) × Nat × (Option Value) × (List Int) × Nat) => cnt) (fun ((left, cnt, last, fs, fn) : (Lit → Bool) × Nat × (Option Value) × (List Int) × Nat) => [(0, .map (some m)), (3, .map (some m1)), (13, vP r2)]) (fun ((left, cnt, last, fs, fn) : (Lit → Bool) × Nat × (Option Value) × (List Int) × Nat) => [.abs (fo Tryz.prog 3 m r2 (mf (pf ps)) ps.length left cnt last), .abs (aE Tryz.prog 3 m1 (mf (ff fs)) fn), .abs R]) ((fun kl => ((mf (pf ps)) kl).isSome), ps.length, none, [], 0) (idx := [0, 3, 13]) (pk := [0, 2, 1]) (show (ps.length ≤ ps.length) ∧ (∀ x y, up ps x = some y → ((fun kl => ((mf (pf ps)) kl).isSome)) (.int .i64 x) = false → Ends ps x) ∧ (∀ x, x ∈ ([]) → Ends ps x) ∧ (0 ≤ (ps.length - ps.length) * (ps.length + 2)) from ⟨Nat.le_refl _, fun x y hx h => (by have h : ((up ps x).map (Value.int .i64)).isSome = false := h; rw [hx] at h; cases h), fun x hx => (by cases hx), Nat.zero_le _⟩) (fun _ => by kernel_rfl) rfl (by kernel_rfl) ?_
 rintro ⟨left, cnt, last, fs, fn⟩ ⟨Pq, hdone, hfs, hfn⟩
 show af _ _ _ _ [(0, .map (some m)), (3, .map (some m1)), (13, vP r2)] [.abs (fo Tryz.prog 3 m r2 (mf (pf ps)) ps.length left cnt last), .abs (aE Tryz.prog 3 m1 (mf (ff fs)) fn), .abs R] _
 have RI : fn ≤ 1048576 * 1048578 := Nat.le_trans hfn (Nat.mul_le_mul (by omega) (by omega))
 refine SR ?_
 refine aj.mapNext 0 (d := (some 14)) (K := 3) (b := m) (r := r2) (f := (mf (pf ps))) (n := ps.length) (left := left) (cnt := cnt) (last := last) (x := (.tmp 13)) (fun _ => by kernel_rfl) (by kernel_rfl) (fun _ => by kernel_rfl) cU Tryz.underlying3 (fun hc0 hl0 => ?_) (fun z u cnt' hlz hfz RJ Pr => ?_)
 ·refine gK 1 [(15, .bool false)] [] ?_
  refine NN (af.seq ?_)
  refine CF ?_
  refine af.exit (ai.aT (ai.aT (ai.bX (NX (SR ?_)))))
  refine gK 1 [(2, .bool true)] [] ?_
  refine NN (af.ret ?_)
  exact RT (.bool true) [2] (⟨congrArg Value.bool (decide_eq_true (p := tZ ps) (fun z => by cases hu : up ps z with | none => exact ⟨0, hu⟩ | some y => exact hdone z y hu (hl0 _))).symm, rfl⟩)
 obtain ⟨y, hy, rfl⟩ := KV hfz
 refine gK 1 [(15, .bool true)] [] ?_
 refine NN (af.seq ?_)
 refine CT ?_
 refine af.skip (NX (af.block (SR ?_)))
 refine aj.mapEntry 0 (d := (some 16)) (K := 3) (b := m) (r := r2) (f := (mf (pf ps))) (n := ps.length) (left := (fun kl => left kl && !kl.sameKey (.int .i64 z))) (cnt := cnt') (v := .tuple #[.int .i64 (z), .int .i64 (y)]) (x := (.tmp 13)) (fun _ => by kernel_rfl) (by kernel_rfl) (fun _ => by kernel_rfl) ?_
 refine gK 2 [(4, .int .i64 (z))] [] ?_
 refine NS ?_
 refine gK 1 [(5, .slice none (0) (0))] [] ?_
 refine NN ?_
 refine af.join (ι := (List Int) × (Option Addr) × Nat) (fun ((w2, A2, c2) : (List Int) × (Option Addr) × Nat) => (Ends ps z) ∧ (∀ x, x ∈ w2 → Ends ps x) ∧ (w2.length ≤ ps.length + 1) ∧ (∀ x, x ∈ w2 → -9223372036854775808 ≤ x ∧ x ≤ 9223372036854775807)) (fun ((w2, A2, c2) : (List Int) × (Option Addr) × Nat) => [(0, .map (some m)), (3, .map (some m1)), (5, .slice A2 (w2.length) (c2)), (13, vP r2)]) (fun ((w2, A2, c2) : (List Int) × (Option Addr) × Nat) => [.abs (fo Tryz.prog 3 m r2 (mf (pf ps)) ps.length (fun kl => left kl && !kl.sameKey (.int .i64 z)) cnt' (some (.tuple #[.int .i64 (z), .int .i64 (y)]))), .abs (aE Tryz.prog 3 m1 (mf (ff fs)) fn), .abs (aI 3 1 A2 w2.length c2 (fK w2)), .abs R]) ?_ ?_
 ·rintro ⟨w2, A2, c2⟩ ⟨hend, NV, Rm, LU⟩
  show af _ _ _ _ [(0, .map (some m)), (3, .map (some m1)), (5, .slice A2 (w2.length) (c2)), (13, vP r2)] [.abs (fo Tryz.prog 3 m r2 (mf (pf ps)) ps.length (fun kl => left kl && !kl.sameKey (.int .i64 z)) cnt' (some (.tuple #[.int .i64 (z), .int .i64 (y)]))), .abs (aE Tryz.prog 3 m1 (mf (ff fs)) fn), .abs (aI 3 1 A2 w2.length c2 (fK w2)), .abs R] _
  refine SR ?_
  refine gK 3 [(41, .slice A2 (w2.length) (c2)), (42, .int .i64 ↑w2.length), (43, .int .i64 0)] [] ?_
  refine NN (af.block ?_)
  refine af.loop (ι := Nat × (List Int) × Nat) (fun ((j, oM, mU) : Nat × (List Int) × Nat) => (j ≤ w2.length) ∧ (∀ x, x ∈ oM → Ends ps x) ∧ (mU ≤ fn + j)) (fun ((j, oM, mU) : Nat × (List Int) × Nat) => w2.length - j) (fun ((j, oM, mU) : Nat × (List Int) × Nat) => [(0, .map (some m)), (3, .map (some m1)), (13, vP r2), (41, .slice A2 (w2.length) (c2)), (42, .int .i64 ↑w2.length), (43, .int .i64 ↑j)]) (fun ((j, oM, mU) : Nat × (List Int) × Nat) => [.abs (fo Tryz.prog 3 m r2 (mf (pf ps)) ps.length (fun kl => left kl && !kl.sameKey (.int .i64 z)) cnt' (some (.tuple #[.int .i64 (z), .int .i64 (y)]))), .abs (aE Tryz.prog 3 m1 (mf (ff oM)) mU), .abs (aI 3 1 A2 w2.length c2 (fK w2)), .abs R]) (0, fs, fn) (idx := [0, 3, 13, 41, 42, 43]) (pk := [0, 1, 2, 3]) (show (0 ≤ w2.length) ∧ (∀ x, x ∈ fs → Ends ps x) ∧ (fn ≤ fn + 0) from ⟨Nat.zero_le _, hfs, Nat.le_refl _⟩) (fun _ => by kernel_rfl) rfl (by kernel_rfl) ?_
  rintro ⟨j, oM, mU⟩ ⟨hj, LV, Pt⟩
  show af _ _ _ _ [(0, .map (some m)), (3, .map (some m1)), (13, vP r2), (41, .slice A2 (w2.length) (c2)), (42, .int .i64 ↑w2.length), (43, .int .i64 ↑j)] [.abs (fo Tryz.prog 3 m r2 (mf (pf ps)) ps.length (fun kl => left kl && !kl.sameKey (.int .i64 z)) cnt' (some (.tuple #[.int .i64 (z), .int .i64 (y)]))), .abs (aE Tryz.prog 3 m1 (mf (ff oM)) mU), .abs (aI 3 1 A2 w2.length c2 (fK w2)), .abs R] _
  refine SR ?_
  refine gK 1 [(44, .bool (decide ((((j : Nat) : Int) : Int) < (((w2.length : Nat) : Int) : Int))))] [] ?_
  refine NN (af.seq ?_)
  refine af.bn (p := (((j : Nat) : Int) : Int) < (((w2.length : Nat) : Int) : Int)) (fun _ => by kernel_rfl) (fun Gj => ?_) (fun Gj => ?_)
  ·refine af.skip (NX (af.seq (af.block (SR ?_))))
   refine aj.tell (fun w hS => let ⟨F, h⟩ := hS.get (i := 2) rfl; (aI.EI h (by omega)).1) (fun J8 => ?_)
   refine gK 3 [(10, .int .i64 ((w2.getD j 0)))] [(0, p_ ⟨[], some j, none, some ⟨(au A2), ar A2, none⟩, none⟩ [((j : Nat) : Int) = ((j : Nat) : Int), j < w2.length, (⟨(au A2), ar A2, none⟩ : Addr).spot = none, (A2 : Option Addr) = some ⟨(au A2), ar A2, none⟩] ⟨rfl, by omega, rfl, J8, trivial⟩), (1, p_ ⟨[.view 2 (.int .i64 ((w2.getD j 0)))], none, none, none, none⟩ [(∀ F w, (aI 3 1 A2 w2.length c2 (fK w2)).h F w → w.cell? ⟨(au A2), ar A2 + j * 1, none⟩ = some (.int .i64 ((w2.getD j 0))))] ⟨aI.NU (by omega), trivial⟩)] ?_
   refine NN (af.region ?_)
   refine gK 2 [(47, .map (some m1)), (48, .int .i64 ((w2.getD j 0)))] [] ?_
   refine aj.jW 1 (d := none) (t := 183) (K := 3) (E := 3) (b := m1) (n := mU) (f := (mf (ff oM))) (x := (.tmp 47)) (ix := (.tmp 48)) (y := (.const (.int .i64 1))) (key := .int .i64 ((w2.getD j 0))) (u := .int .i64 1) (kl := (.int .i64 (w2.getD j 0))) (n' := (if (ff oM (w2.getD j 0)).isSome then mU else mU + 1)) (f' := (mf (ff ((w2.getD j 0) :: oM)))) (fun _ => by kernel_rfl) (by kernel_rfl) (fun _ => by kernel_rfl) (fun _ => by kernel_rfl) (fun _ => by kernel_rfl) cU Tryz.underlying183 (by unfold maxLen; omega) (jM (LU _ (wE (by omega))).1 (LU _ (wE (by omega))).2) (rfl) (LM _ _) ?_
   refine NL (ai.aL (NX (af.region ?_)))
   refine gK 2 [(43, .int .i64 ↑(j + 1))] [(0, p_ ⟨[], none, none, none, some (.int .i64 ↑(j + 1))⟩ [(Value.int .i64 (IntKind.wrap .i64 (((j : Nat) : Int) + 1))) = (.int .i64 ↑(j + 1))] ⟨bE (by omega) (by omega) (by omega), trivial⟩)] ?_
   refine NL ?_
   exact ai.turn ((j + 1), ((w2.getD j 0) :: oM), (if (ff oM (w2.getD j 0)).isSome then mU else mU + 1)) (idx := [0, 3, 13, 41, 42, 43]) (pk := [0, 1, 2, 3]) (show (((j + 1)) ≤ w2.length) ∧ (∀ x, x ∈ (((w2.getD j 0) :: oM)) → Ends ps x) ∧ (((if (ff oM (w2.getD j 0)).isSome then mU else mU + 1)) ≤ fn + ((j + 1))) from ⟨by omega, fun x hx => (List.mem_cons.1 hx).elim (fun e => e ▸ NV _ (wE (by omega))) (LV x), by split <;> omega⟩) (by show w2.length - ((j + 1)) < w2.length - j; omega) (fun _ => by kernel_rfl) rfl (by kernel_rfl)
  refine af.exit (ai.aT (ai.aT (ai.bX (ai.aL ?_))))
  exact ai.turn ((fun kl => left kl && !kl.sameKey (.int .i64 z)), cnt', (some (.tuple #[.int .i64 (z), .int .i64 (y)])), oM, mU) (idx := [0, 3, 13]) (pk := [0, 1, 3]) (show (cnt' ≤ ps.length) ∧ (∀ x y, up ps x = some y → ((fun kl => left kl && !kl.sameKey (.int .i64 z))) (.int .i64 x) = false → Ends ps x) ∧ (∀ x, x ∈ oM → Ends ps x) ∧ (mU ≤ (ps.length - cnt') * (ps.length + 2)) from ⟨by omega, EN hdone hend, LV, Iz hfn Pt (by omega) Pr Pq⟩) (by show cnt' < cnt; omega) (fun _ => by kernel_rfl) rfl (by kernel_rfl)
 refine SR ?_
 refine aj.mem (fun w hS => hS.jX (e := 3) (size := 1)) ?_
 refine gK 2 [(6, .int .i64 (z))] [] ?_
 refine NN (af.block ?_)
 refine af.loop (ι := Int × (List Int) × (Option Addr) × Nat) (fun ((at_, w, Aw, cw) : Int × (List Int) × (Option Addr) × Nat) => (Way ps z w at_) ∧ (w.length ≤ ps.length) ∧ (∀ x, x ∈ w → -9223372036854775808 ≤ x ∧ x ≤ 9223372036854775807) ∧ (-9223372036854775808 ≤ at_ ∧ at_ ≤ 9223372036854775807)) (fun ((at_, w, Aw, cw) : Int × (List Int) × (Option Addr) × Nat) => ps.length + 1 - w.length) (fun ((at_, w, Aw, cw) : Int × (List Int) × (Option Addr) × Nat) => [(0, .map (some m)), (3, .map (some m1)), (5, .slice Aw (w.length) (cw)), (6, .int .i64 (at_)), (13, vP r2)]) (fun ((at_, w, Aw, cw) : Int × (List Int) × (Option Addr) × Nat) => [.abs (fo Tryz.prog 3 m r2 (mf (pf ps)) ps.length (fun kl => left kl && !kl.sameKey (.int .i64 z)) cnt' (some (.tuple #[.int .i64 (z), .int .i64 (y)]))), .abs (aE Tryz.prog 3 m1 (mf (ff fs)) fn), .abs (aI 3 1 Aw w.length cw (fK w)), .abs R]) (z, [], none, 0) (idx := [0, 3, 5, 6, 13]) (pk := [0, 1, 3, 2]) (show (Way ps z ([]) z) ∧ (([]).length ≤ ps.length) ∧ (∀ x, x ∈ ([]) → -9223372036854775808 ≤ x ∧ x ≤ 9223372036854775807) ∧ (-9223372036854775808 ≤ z ∧ z ≤ 9223372036854775807) from ⟨.nil, Nat.zero_le _, fun x hx => (by cases hx), (hw z y hy).1⟩) (fun _ => by kernel_rfl) rfl (by kernel_rfl) ?_
 rintro ⟨at_, w, Aw, cw⟩ ⟨iG, hwl, LW, hab⟩
 show af _ _ _ _ [(0, .map (some m)), (3, .map (some m1)), (5, .slice Aw (w.length) (cw)), (6, .int .i64 (at_)), (13, vP r2)] [.abs (fo Tryz.prog 3 m r2 (mf (pf ps)) ps.length (fun kl => left kl && !kl.sameKey (.int .i64 z)) cnt' (some (.tuple #[.int .i64 (z), .int .i64 (y)]))), .abs (aE Tryz.prog 3 m1 (mf (ff fs)) fn), .abs (aI 3 1 Aw w.length cw (fK w)), .abs R] _
 refine af.seq (SR ?_)
 refine gK 2 [(19, .map (some m1)), (20, .int .i64 (at_))] [] ?_
 by_cases hfa : at_ ∈ fs
 ·refine aj.dm 1 (d := (some 21)) (t := 183) (K := 3) (E := 3) (b := m1) (n := fn) (f := (mf (ff fs))) (x := (.tmp 19)) (ix := (.tmp 20)) (key := .int .i64 (at_)) (z := .int .i64 0) (kl := (.int .i64 at_)) (r := (some (.int .i64 1))) (fun _ => by kernel_rfl) (by kernel_rfl) (fun _ => by kernel_rfl) (fun _ => by kernel_rfl) cU Tryz.underlying183 (fun _ => by kernel_rfl) (jM hab.1 hab.2) (if_pos hfa) ?_
  refine gK 1 [(22, .bool false)] [] ?_
  refine NN ?_
  refine CF ?_
  refine af.exit (ai.aT (ai.aT (ai.bX ?_)))
  exact ai.meet (w, Aw, cw) (idx := [0, 3, 5, 13]) (pk := [0, 1, 2, 3]) (show (Ends ps z) ∧ (∀ x, x ∈ w → Ends ps x) ∧ (w.length ≤ ps.length + 1) ∧ (∀ x, x ∈ w → -9223372036854775808 ≤ x ∧ x ≤ 9223372036854775807) from ⟨(iG.ends (hfs at_ hfa)).1, (iG.ends (hfs at_ hfa)).2, by omega, LW⟩) (fun _ => by kernel_rfl) rfl (by kernel_rfl)
 refine aj.dm 1 (d := (some 21)) (t := 183) (K := 3) (E := 3) (b := m1) (n := fn) (f := (mf (ff fs))) (x := (.tmp 19)) (ix := (.tmp 20)) (key := .int .i64 (at_)) (z := .int .i64 0) (kl := (.int .i64 at_)) (r := none) (fun _ => by kernel_rfl) (by kernel_rfl) (fun _ => by kernel_rfl) (fun _ => by kernel_rfl) cU Tryz.underlying183 (fun _ => by kernel_rfl) (jM hab.1 hab.2) (if_neg hfa) ?_
 refine gK 1 [(22, .bool true)] [] ?_
 refine NN ?_
 refine CT ?_
 refine af.skip (NX (af.block (SR ?_)))
 refine gN 3 (fun b3 => [(23, .slice Aw (w.length) (cw)), (25, .slice (some ⟨b3, 0, none⟩) (1) (1))]) (fun _ => []) (fun _ => []) (fun b3 => .blk b3 [.int .i64 (at_)] 3) (fun b3 => ?_)
 refine aj.append 2 (d := (some 26)) (t := 52) (e := 3) (z := .int .i64 0) (size := 1) (bytes := 8) (n := w.length) (cap := cw) (A := Aw) (xs := (fK w)) (s := (.tmp 23)) (x := (.tmp 25)) (ats := #[52, 52]) (A' := some ⟨b3, 0, none⟩) (m := 1) (c' := 1) (news := [.int .i64 (at_)]) (fun _ => by kernel_rfl) rfl (by kernel_rfl) (fun _ => by kernel_rfl) (fun _ => by kernel_rfl) Tryz.underlying52 (by kernel_rfl) rfl (by decide) (by simp) (by simp [Value.oneCell']) (kL (j := 4) rfl) (by unfold maxLen; omega) (by omega) (fun A4 c5 => ?_)
 refine aj.dH 2 (p := .abs (aI 3 1 A4 (w.length + 1) c5 ((fK w) ++ [.int .i64 (at_)]))) (p' := .abs (aI 3 1 A4 ((w ++ [at_]).length) c5 (fK (w ++ [at_])))) (by kernel_rfl) (by simp [fK]) ?_
 refine aj.slot 26 (.slice A4 (w.length + 1) (c5)) (.slice A4 ((w ++ [at_]).length) (c5)) (fun _ => by kernel_rfl) (by simp) ?_
 refine gK 1 [(5, .slice A4 ((w ++ [at_]).length) (c5))] [] ?_
 refine NS ?_
 refine gK 2 [(28, .map (some m)), (29, .int .i64 (at_))] [] ?_
 rcases hup : up ps at_ with _ | y2
 ·refine aj.vT 0 (d := (some 30)) (t := 183) (K := 3) (E := 3) (b := m) (n := ps.length) (f := (mf (pf ps))) (r := r2) (left := (fun kl => left kl && !kl.sameKey (.int .i64 z))) (cnt := cnt') (last := (some (.tuple #[.int .i64 (z), .int .i64 (y)]))) (x := (.tmp 28)) (ix := (.tmp 29)) (key := .int .i64 (at_)) (z := .int .i64 0) (kl := (.int .i64 at_)) (u := none) (fun _ => by kernel_rfl) (by kernel_rfl) (fun _ => by kernel_rfl) (fun _ => by kernel_rfl) cU Tryz.underlying183 (fun _ => by kernel_rfl) (jM hab.1 hab.2) (sI hup) ?_
  refine gK 5 [(7, .int .i64 0), (8, .bool false)] [] ?_
  refine NN (af.seq (SR ?_))
  refine gK 2 [(34, .bool true)] [] ?_
  refine NN ?_
  refine CT ?_
  refine af.exit (ai.aT (ai.F8 (by decide) (ai.aT (ai.bX ?_))))
  exact ai.meet ((w ++ [at_]), A4, c5) (idx := [0, 3, 5, 13]) (pk := [0, 1, 2, 3]) (show (Ends ps z) ∧ (∀ x, x ∈ ((w ++ [at_])) → Ends ps x) ∧ (((w ++ [at_])).length ≤ ps.length + 1) ∧ (∀ x, x ∈ ((w ++ [at_])) → -9223372036854775808 ≤ x ∧ x ≤ 9223372036854775807) from ⟨(Ci iG hup).1, (Ci iG hup).2, by simp; omega, D6 LW hab⟩) (fun _ => by kernel_rfl) rfl (by kernel_rfl)
 refine aj.vT 0 (d := (some 30)) (t := 183) (K := 3) (E := 3) (b := m) (n := ps.length) (f := (mf (pf ps))) (r := r2) (left := (fun kl => left kl && !kl.sameKey (.int .i64 z))) (cnt := cnt') (last := (some (.tuple #[.int .i64 (z), .int .i64 (y)]))) (x := (.tmp 28)) (ix := (.tmp 29)) (key := .int .i64 (at_)) (z := .int .i64 0) (kl := (.int .i64 at_)) (u := (some (.int .i64 y2))) (fun _ => by kernel_rfl) (by kernel_rfl) (fun _ => by kernel_rfl) (fun _ => by kernel_rfl) cU Tryz.underlying183 (fun _ => by kernel_rfl) (jM hab.1 hab.2) (Ke hup) ?_
 refine gK 5 [(7, .int .i64 (y2)), (8, .bool true)] [] ?_
 refine NN (af.seq (SR ?_))
 refine gK 2 [(34, .bool false)] [] ?_
 refine NN ?_
 refine CF ?_
 refine af.skip (NX (af.seq (SR ?_)))
 refine gK 3 [(36, .int .i64 ↑((w ++ [at_]).length)), (37, .map (some m))] [] ?_
 refine aj.Ix 0 (d := (some 38)) (t := 183) (K := 3) (E := 3) (b := m) (n := ps.length) (f := (mf (pf ps))) (r := r2) (left := (fun kl => left kl && !kl.sameKey (.int .i64 z))) (cnt := cnt') (last := (some (.tuple #[.int .i64 (z), .int .i64 (y)]))) (x := (.tmp 37)) (ats := #[183]) (fun _ => by kernel_rfl) (by kernel_rfl) (fun _ => by kernel_rfl) rfl Tryz.underlying183 ?_
 refine gK 1 [(39, .bool (decide (((((w ++ [at_]).length : Nat) : Int) : Int) > (((ps.length : Nat) : Int) : Int))))] [] ?_
 refine NN ?_
 refine af.bn (p := ((((w ++ [at_]).length : Nat) : Int) : Int) > (((ps.length : Nat) : Int) : Int)) (fun _ => by kernel_rfl) (fun nA => ?_) (fun nA => ?_)
 ·refine SR ?_
  refine gK 1 [(2, .bool false)] [] ?_
  refine NN (af.ret (ai.aq (ai.aF (ai.aq (ai.aF (ai.aq (ai.aF (ai.aq (ai.aF (ai.aq ?_))))))))))
  exact RT (.bool false) [3] (⟨congrArg Value.bool (decide_eq_false (p := tZ ps) (fun hall => (iG.snoc hup).never (by simp at nA ⊢; omega) (hall z))).symm, rfl⟩)
 refine af.skip (NX (af.region ?_))
 refine gK 2 [(6, .int .i64 (y2))] [] ?_
 refine NL (ai.aL ?_)
 exact ai.turn (y2, (w ++ [at_]), A4, c5) (idx := [0, 3, 5, 6, 13]) (pk := [0, 1, 2, 3]) (show (Way ps z ((w ++ [at_])) y2) ∧ (((w ++ [at_])).length ≤ ps.length) ∧ (∀ x, x ∈ ((w ++ [at_])) → -9223372036854775808 ≤ x ∧ x ≤ 9223372036854775807) ∧ (-9223372036854775808 ≤ y2 ∧ y2 ≤ 9223372036854775807) from ⟨iG.snoc hup, by simp at nA ⊢; omega, D6 LW hab, (hw at_ y2 hup).2⟩) (by show ps.length + 1 - ((w ++ [at_])).length < ps.length + 1 - w.length; simp; omega) (fun _ => by kernel_rfl) rfl (by kernel_rfl)
end
section
open Go.RowKit
attribute [local irreducible] aj aR af ai
theorem qH {β : Bs} (a b c : Int) :
    Spec Tryz.prog β 150 #[vI (a), vI (b), vI (c)] [] (fun v l => v = .bool (decide (Within a b c)) ∧ l = []) := by
 refine Spec.enter Tryz.func150 rfl Tryz.ntmps150 (Nat.le_of_ble_eq_true rfl) (fun R => ?_)
 refine SR ?_
 refine gK 1 [] [] ?_
 refine NS ?_
 refine gK 4 [(10, .bool (decide ((a : Int) ≥ (b : Int))))] [] ?_
 refine aj.gA 10 ((a : Int) ≥ (b : Int)) (fun _ => by kernel_rfl) (fun h10 => ?_) (fun h10 => ?_)
 ·refine gK 5 [(6, .bool (decide ((a : Int) ≤ (c : Int))))] [] ?_
  refine NN (af.ret ?_)
  exact RT (.bool (decide ((a : Int) ≤ (c : Int)))) [0] (⟨congrArg Value.bool (decide_eq_decide.2 (by unfold Within; omega)), rfl⟩)
 refine gK 5 [(6, .bool false)] [] ?_
 refine NN (af.ret ?_)
 exact RT (.bool false) [0] (⟨congrArg Value.bool (decide_eq_false (by unfold Within; omega)).symm, rfl⟩)
theorem fT {β : Bs} (s n : Int) :
    Spec Tryz.prog β 33 #[.agg #[vI (s), vI (n)]] [] (fun v l => v = .bool (decide (cT s n)) ∧ l = []) := by
 refine Spec.enter Tryz.func33 rfl Tryz.ntmps33 (Nat.le_of_ble_eq_true rfl) (fun R => ?_)
 refine SR ?_
 refine gN 2 (fun b1 => [(1, vP b1)]) (fun _ => []) (fun _ => []) (fun b1 => .blk b1 [vI (s), vI (n)] 26) (fun b1 => ?_)
 refine NN (af.seq (SR ?_))
 refine gK 4 [(6, .bool (decide ((n : Int) < (0 : Int))))] [(1, a_ 1 b1)] ?_
 refine aj.gA 6 ((n : Int) < (0 : Int)) (fun _ => by kernel_rfl) (fun h6 => ?_) (fun h6 => ?_)
 ·refine gK 4 [(10, .bool true)] [] ?_
  refine NN ?_
  refine CT ?_
  refine SR ?_
  refine gK 1 [(2, .bool false)] [] ?_
  refine NN (af.ret (ai.aq ?_))
  exact RT (.bool false) [0] (⟨congrArg Value.bool (decide_eq_false (by unfold cT; omega)).symm, rfl⟩)
 refine gK 4 [(10, .bool (decide ((n : Int) ≥ (1000000000 : Int))))] [(1, a_ 1 b1)] ?_
 refine NN ?_
 refine af.bn (p := (n : Int) ≥ (1000000000 : Int)) (fun _ => by kernel_rfl) (fun h10 => ?_) (fun h10 => ?_)
 ·refine SR ?_
  refine gK 1 [(2, .bool false)] [] ?_
  refine NN (af.ret (ai.aq ?_))
  exact RT (.bool false) [0] (⟨congrArg Value.bool (decide_eq_false (by unfold cT; omega)).symm, rfl⟩)
 refine af.skip (NX (af.seq (SR ?_)))
 refine gK 3 [(13, .bool (decide ((s : Int) = ((-1099511627777) : Int))))] [(1, a_ 1 b1)] ?_
 refine NN ?_
 refine af.bn (p := (s : Int) = ((-1099511627777) : Int)) (fun _ => by kernel_rfl) (fun Qn => ?_) (fun Qn => ?_)
 ·refine SR ?_
  refine gK 4 [(2, .bool (decide ((n : Int) > (0 : Int))))] [(1, a_ 1 b1)] ?_
  refine NN (af.ret (ai.aq ?_))
  exact RT (.bool (decide ((n : Int) > (0 : Int)))) [0] (⟨congrArg Value.bool (decide_eq_decide.2 (by unfold cT; omega)), rfl⟩)
 refine af.skip (NX (SR ?_))
 refine gK 4 [(20, .bool (decide ((s : Int) > ((-1099511627777) : Int))))] [(1, a_ 1 b1)] ?_
 refine aj.gA 20 ((s : Int) > ((-1099511627777) : Int)) (fun _ => by kernel_rfl) (fun nB => ?_) (fun nB => ?_)
 ·refine gK 5 [(2, .bool (decide ((s : Int) ≤ (1099511627776 : Int))))] [(1, a_ 1 b1)] ?_
  refine NN (af.ret ?_)
  exact RT (.bool (decide ((s : Int) ≤ (1099511627776 : Int)))) [0] (⟨congrArg Value.bool (decide_eq_decide.2 (by unfold cT; omega)), rfl⟩)
 refine gK 5 [(2, .bool false)] [] ?_
 refine NN (af.ret ?_)
 exact RT (.bool false) [0] (⟨congrArg Value.bool (decide_eq_false (by unfold cT; omega)).symm, rfl⟩)
theorem vm {β : Bs} (A : Option Addr) (ns : List aC) (L : Lay) (hG : aA β A ns L) (i : Nat) (hi : i < ns.length) :
    Spec Tryz.prog β 151 #[.pointer (some ⟨(au A), ar A + i * 10, none⟩)] [] (fun v l => v = .bool (decide (dJ (nd ns i).kind (nd ns i).target)) ∧ l = []) := by
 refine Spec.enter Tryz.func151 rfl Tryz.ntmps151 (Nat.le_of_ble_eq_true rfl) (fun R => ?_)
 refine SR ?_
 refine gK 1 [] [] ?_
 refine NN (af.seq (SR ?_))
 refine gK 5 [(7, .bool (!(decide (((nd ns i).kind : Int) = (3 : Int)))))] [(3, p_ ⟨[.old (.int .i64 ((nd ns i).kind))], none, none, none, none⟩ [(Rd β ⟨(au A), ar A + i * 10 + 1, none⟩ (.int .i64 ((nd ns i).kind)))] ⟨aA.rd hG (i := i) (by omega) (j := 1) rfl, trivial⟩)] ?_
 refine NN ?_
 refine af.ct (p := ((nd ns i).kind : Int) = (3 : Int)) (fun _ => by kernel_rfl) (fun h7 => ?_) (fun h7 => ?_)
 ·refine SR ?_
  refine gK 6 [(2, .bool (decide (((nd ns i).target : ByteArray) = ⟨#[]⟩)))] [(3, p_ ⟨[.old (.string (nd ns i).target)], none, none, none, none⟩ [(Rd β ⟨(au A), ar A + i * 10 + 8, none⟩ (.string (nd ns i).target))] ⟨aA.rd hG (i := i) (by omega) (j := 8) rfl, trivial⟩), (4, p_ ⟨[], none, none, none, some (.bool (decide (((nd ns i).target : ByteArray) = ⟨#[]⟩)))⟩ [(Value.bool (((nd ns i).target : ByteArray).toList == (⟨#[]⟩ : ByteArray).toList)) = (.bool (decide (((nd ns i).target : ByteArray) = ⟨#[]⟩)))] ⟨rL _ _, trivial⟩)] ?_
  refine NN (af.ret (ai.aq ?_))
  exact RT (.bool (decide (((nd ns i).target : ByteArray) = ⟨#[]⟩))) [0] (⟨congrArg Value.bool (decide_eq_decide.2 (by have h0 := jL (s := (nd ns i).target); grind [dJ])), rfl⟩)
 refine af.skip (NX (SR ?_))
 refine gK 6 [(18, .bool (!(decide (((nd ns i).target : ByteArray) = ⟨#[]⟩))))] [(3, p_ ⟨[.old (.string (nd ns i).target)], none, none, none, none⟩ [(Rd β ⟨(au A), ar A + i * 10 + 8, none⟩ (.string (nd ns i).target))] ⟨aA.rd hG (i := i) (by omega) (j := 8) rfl, trivial⟩), (4, p_ ⟨[], none, none, none, some (.bool (!(decide (((nd ns i).target : ByteArray) = ⟨#[]⟩))))⟩ [(Value.bool (!(((nd ns i).target : ByteArray).toList == (⟨#[]⟩ : ByteArray).toList))) = (.bool (!(decide (((nd ns i).target : ByteArray) = ⟨#[]⟩))))] ⟨F9 _ _, trivial⟩)] ?_
 refine aj.fM 18 (((nd ns i).target : ByteArray) = ⟨#[]⟩) (fun _ => by kernel_rfl) (fun mr => ?_) (fun mr => ?_)
 ·refine gK 8 [(26, .bool (decide ((((((nd ns i).target : ByteArray).size : Nat) : Int) : Int) ≤ (4096 : Int))))] [(3, p_ ⟨[.old (.string (nd ns i).target)], none, none, none, none⟩ [(Rd β ⟨(au A), ar A + i * 10 + 8, none⟩ (.string (nd ns i).target))] ⟨aA.rd hG (i := i) (by omega) (j := 8) rfl, trivial⟩)] ?_
  refine aj.gA 26 ((((((nd ns i).target : ByteArray).size : Nat) : Int) : Int) ≤ (4096 : Int)) (fun _ => by kernel_rfl) (fun rP => ?_) (fun rP => ?_)
  ·refine gK 4 [(30, .string (nd ns i).target)] [(3, p_ ⟨[.old (.string (nd ns i).target)], none, none, none, none⟩ [(Rd β ⟨(au A), ar A + i * 10 + 8, none⟩ (.string (nd ns i).target))] ⟨aA.rd hG (i := i) (by omega) (j := 8) rfl, trivial⟩)] ?_
   refine gL (f := 146) (args := #[.string (nd ns i).target, .int .u8 0]) (pre := []) [] (Spec.quiet (fun w => Tryz.strings_IndexByte (nd ns i).target 0 w)) ?_
   rintro _ _ ⟨rfl, rfl⟩
   refine gK 3 [(2, .bool (decide ((Lib.indexByte (nd ns i).target.data.toList (0 : Int).toNat.toUInt8 : Int) < (0 : Int))))] [] ?_
   refine NN (af.ret ?_)
   exact RT (.bool (decide ((Lib.indexByte (nd ns i).target.data.toList (0 : Int).toNat.toUInt8 : Int) < (0 : Int)))) [0] (⟨congrArg Value.bool (decide_eq_decide.2 (by have h0 := jL (s := (nd ns i).target); rw [Ch]; grind [dJ])), rfl⟩)
  refine gK 8 [(2, .bool false)] [] ?_
  refine NN (af.ret ?_)
  exact RT (.bool false) [0] (⟨congrArg Value.bool (decide_eq_false (by have h0 := jL (s := (nd ns i).target); grind [dJ])).symm, rfl⟩)
 refine gK 16 [(2, .bool false)] [] ?_
 refine NN (af.ret ?_)
 exact RT (.bool false) [0] (⟨congrArg Value.bool (decide_eq_false (by have h0 := jL (s := (nd ns i).target); grind [dJ])).symm, rfl⟩)
theorem IE {β : Bs} (A : Option Addr) (ns : List aC) (L : Lay) (hG : aA β A ns L) (i : Nat) (hi : i < ns.length) :
    Spec Tryz.prog β 119 #[.pointer (some ⟨(au A), ar A + i * 10, none⟩)] [] (fun v l => v = .bool (decide (og (nd ns i))) ∧ l = []) := by
 refine Spec.enter Tryz.func119 rfl Tryz.ntmps119 (Nat.le_of_ble_eq_true rfl) (fun R => ?_)
 refine SR ?_
 refine gK 1 [] [] ?_
 refine NN (af.seq (SR ?_))
 refine gK 4 [(6, vI ((nd ns i).kind))] [(3, p_ ⟨[.old (.int .i64 ((nd ns i).kind))], none, none, none, none⟩ [(Rd β ⟨(au A), ar A + i * 10 + 1, none⟩ (.int .i64 ((nd ns i).kind)))] ⟨aA.rd hG (i := i) (by omega) (j := 1) rfl, trivial⟩)] ?_
 refine gL [] (qH ((nd ns i).kind) 1 3) ?_
 rintro _ _ ⟨rfl, rfl⟩
 refine gK 2 [(9, .bool (!(decide (Within ((nd ns i).kind) 1 3))))] [] ?_
 refine aj.fM 9 (Within ((nd ns i).kind) 1 3) (fun _ => by kernel_rfl) (fun h9 => ?_) (fun h9 => ?_)
 ·refine gK 23 [(32, .bool true)] [] ?_
  refine NN ?_
  refine CT ?_
  refine SR ?_
  refine gK 1 [(2, .bool false)] [] ?_
  refine NN (af.ret (ai.aq ?_))
  exact RT (.bool false) [0] (⟨congrArg Value.bool (decide_eq_false (by rw [dS]; unfold Within at *; grind)).symm, rfl⟩)
 refine gK 4 [(13, vI ((nd ns i).mode))] [(3, p_ ⟨[.old (.int .i64 ((nd ns i).mode))], none, none, none, none⟩ [(Rd β ⟨(au A), ar A + i * 10 + 2, none⟩ (.int .i64 ((nd ns i).mode)))] ⟨aA.rd hG (i := i) (by omega) (j := 2) rfl, trivial⟩)] ?_
 refine gL [] (qH ((nd ns i).mode) 0 4095) ?_
 rintro _ _ ⟨rfl, rfl⟩
 refine gK 3 [(17, .bool (!(decide (Within ((nd ns i).mode) 0 4095))))] [] ?_
 refine aj.fM 17 (Within ((nd ns i).mode) 0 4095) (fun _ => by kernel_rfl) (fun Qo => ?_) (fun Qo => ?_)
 ·refine gK 15 [(32, .bool true)] [] ?_
  refine NN ?_
  refine CT ?_
  refine SR ?_
  refine gK 1 [(2, .bool false)] [] ?_
  refine NN (af.ret (ai.aq ?_))
  exact RT (.bool false) [0] (⟨congrArg Value.bool (decide_eq_false (by rw [dS]; unfold Within at *; grind)).symm, rfl⟩)
 refine gK 4 [(21, vI ((nd ns i).uid))] [(3, p_ ⟨[.old (.int .i64 ((nd ns i).uid))], none, none, none, none⟩ [(Rd β ⟨(au A), ar A + i * 10 + 3, none⟩ (.int .i64 ((nd ns i).uid)))] ⟨aA.rd hG (i := i) (by omega) (j := 3) rfl, trivial⟩)] ?_
 refine gL [] (qH ((nd ns i).uid) 0 2147483647) ?_
 rintro _ _ ⟨rfl, rfl⟩
 refine gK 3 [(25, .bool (!(decide (Within ((nd ns i).uid) 0 2147483647))))] [] ?_
 refine aj.fM 25 (Within ((nd ns i).uid) 0 2147483647) (fun _ => by kernel_rfl) (fun vU => ?_) (fun vU => ?_)
 ·refine gK 7 [(32, .bool true)] [] ?_
  refine NN ?_
  refine CT ?_
  refine SR ?_
  refine gK 1 [(2, .bool false)] [] ?_
  refine NN (af.ret (ai.aq ?_))
  exact RT (.bool false) [0] (⟨congrArg Value.bool (decide_eq_false (by rw [dS]; unfold Within at *; grind)).symm, rfl⟩)
 refine gK 4 [(29, vI ((nd ns i).gid))] [(3, p_ ⟨[.old (.int .i64 ((nd ns i).gid))], none, none, none, none⟩ [(Rd β ⟨(au A), ar A + i * 10 + 4, none⟩ (.int .i64 ((nd ns i).gid)))] ⟨aA.rd hG (i := i) (by omega) (j := 4) rfl, trivial⟩)] ?_
 refine gL [] (qH ((nd ns i).gid) 0 2147483647) ?_
 rintro _ _ ⟨rfl, rfl⟩
 refine gK 2 [(32, .bool (!(decide (Within ((nd ns i).gid) 0 2147483647))))] [] ?_
 refine NN ?_
 refine af.ct (p := Within ((nd ns i).gid) 0 2147483647) (fun _ => by kernel_rfl) (fun D4 => ?_) (fun D4 => ?_)
 ·refine SR ?_
  refine gK 1 [(2, .bool false)] [] ?_
  refine NN (af.ret (ai.aq ?_))
  exact RT (.bool false) [0] (⟨congrArg Value.bool (decide_eq_false (by rw [dS]; unfold Within at *; grind)).symm, rfl⟩)
 refine af.skip (NX (af.seq (SR ?_)))
 refine gK 6 [(38, .bool (!(decide (((nd ns i).kind : Int) = (1 : Int)))))] [(3, p_ ⟨[.old (.int .i64 ((nd ns i).kind))], none, none, none, none⟩ [(Rd β ⟨(au A), ar A + i * 10 + 1, none⟩ (.int .i64 ((nd ns i).kind)))] ⟨aA.rd hG (i := i) (by omega) (j := 1) rfl, trivial⟩)] ?_
 refine aj.fM 38 (((nd ns i).kind : Int) = (1 : Int)) (fun _ => by kernel_rfl) (fun xV => ?_) (fun xV => ?_)
 ·refine gK 8 [(46, .bool (decide (((((nd ns i).data.length : Nat) : Int) : Int) > (0 : Int))))] [(3, p_ ⟨[.old (.slice (L.dA i) ((nd ns i).data.length) ((L.dC i)))], none, none, none, none⟩ [(Rd β ⟨(au A), ar A + i * 10 + 7, none⟩ (.slice (L.dA i) ((nd ns i).data.length) ((L.dC i))))] ⟨aA.rd hG (i := i) (by omega) (j := 7) rfl, trivial⟩)] ?_
  refine aj.gA 46 (((((nd ns i).data.length : Nat) : Int) : Int) > (0 : Int)) (fun _ => by kernel_rfl) (fun h46 => ?_) (fun h46 => ?_)
  ·refine gK 14 [(60, .bool true)] [] ?_
   refine NN ?_
   refine CT ?_
   refine SR ?_
   refine gK 1 [(2, .bool false)] [] ?_
   refine NN (af.ret (ai.aq ?_))
   exact RT (.bool false) [0] (⟨congrArg Value.bool (decide_eq_false (by rw [dS]; unfold Within at *; grind)).symm, rfl⟩)
  refine gK 6 [(52, .bool (!(decide (((nd ns i).kind : Int) = (2 : Int)))))] [(3, p_ ⟨[.old (.int .i64 ((nd ns i).kind))], none, none, none, none⟩ [(Rd β ⟨(au A), ar A + i * 10 + 1, none⟩ (.int .i64 ((nd ns i).kind)))] ⟨aA.rd hG (i := i) (by omega) (j := 1) rfl, trivial⟩)] ?_
  refine aj.fM 52 (((nd ns i).kind : Int) = (2 : Int)) (fun _ => by kernel_rfl) (fun LX => ?_) (fun LX => ?_)
  ·refine gK 8 [(60, .bool (decide (((((nd ns i).ah.length : Nat) : Int) : Int) > (0 : Int))))] [(3, p_ ⟨[.old (.slice (L.eA i) ((nd ns i).ah.length) ((L.eC i)))], none, none, none, none⟩ [(Rd β ⟨(au A), ar A + i * 10 + 9, none⟩ (.slice (L.eA i) ((nd ns i).ah.length) ((L.eC i))))] ⟨aA.rd hG (i := i) (by omega) (j := 9) rfl, trivial⟩)] ?_
   refine NN ?_
   refine af.bn (p := ((((nd ns i).ah.length : Nat) : Int) : Int) > (0 : Int)) (fun _ => by kernel_rfl) (fun Gl => ?_) (fun Gl => ?_)
   ·refine SR ?_
    refine gK 1 [(2, .bool false)] [] ?_
    refine NN (af.ret (ai.aq ?_))
    exact RT (.bool false) [0] (⟨congrArg Value.bool (decide_eq_false (by rw [dS]; unfold Within at *; grind)).symm, rfl⟩)
   refine af.skip (NX (SR ?_))
   refine gK 4 [(64, .agg #[vI ((nd ns i).sec), vI ((nd ns i).nano)])] [(3, p_ ⟨[.old (.int .i64 ((nd ns i).sec)), .old (.int .i64 ((nd ns i).nano))], none, none, none, none⟩ [(Rd β ⟨(au A), ar A + i * 10 + 5 + 1, none⟩ (.int .i64 ((nd ns i).nano))), (Rd β ⟨(au A), ar A + i * 10 + 5, none⟩ (.int .i64 ((nd ns i).sec)))] ⟨aA.rd hG (i := i) (by omega) (j := 6) rfl, aA.rd hG (i := i) (by omega) (j := 5) rfl, trivial⟩)] ?_
   refine gL [] (fT (nd ns i).sec (nd ns i).nano) ?_
   rintro _ _ ⟨rfl, rfl⟩
   refine gK 1 [(66, .bool (decide (cT (nd ns i).sec (nd ns i).nano)))] [] ?_
   refine aj.gA 66 (cT (nd ns i).sec (nd ns i).nano) (fun _ => by kernel_rfl) (fun Cl => ?_) (fun Cl => ?_)
   ·refine gK 1 [(67, .pointer (some ⟨(au A), ar A + i * 10, none⟩))] [] ?_
    refine gL [] (vm A ns L hG i hi) ?_
    rintro _ _ ⟨rfl, rfl⟩
    refine gK 2 [(2, .bool (decide (dJ (nd ns i).kind (nd ns i).target)))] [] ?_
    refine NN (af.ret ?_)
    exact RT (.bool (decide (dJ (nd ns i).kind (nd ns i).target))) [0] (⟨congrArg Value.bool (decide_eq_decide.2 (by rw [dS]; unfold Within at *; grind)), rfl⟩)
   refine gK 4 [(2, .bool false)] [] ?_
   refine NN (af.ret ?_)
   exact RT (.bool false) [0] (⟨congrArg Value.bool (decide_eq_false (by rw [dS]; unfold Within at *; grind)).symm, rfl⟩)
  refine gK 8 [(60, .bool false)] [] ?_
  refine NN ?_
  refine CF ?_
  refine af.skip (NX (SR ?_))
  refine gK 4 [(64, .agg #[vI ((nd ns i).sec), vI ((nd ns i).nano)])] [(3, p_ ⟨[.old (.int .i64 ((nd ns i).sec)), .old (.int .i64 ((nd ns i).nano))], none, none, none, none⟩ [(Rd β ⟨(au A), ar A + i * 10 + 5 + 1, none⟩ (.int .i64 ((nd ns i).nano))), (Rd β ⟨(au A), ar A + i * 10 + 5, none⟩ (.int .i64 ((nd ns i).sec)))] ⟨aA.rd hG (i := i) (by omega) (j := 6) rfl, aA.rd hG (i := i) (by omega) (j := 5) rfl, trivial⟩)] ?_
  refine gL [] (fT (nd ns i).sec (nd ns i).nano) ?_
  rintro _ _ ⟨rfl, rfl⟩
  refine gK 1 [(66, .bool (decide (cT (nd ns i).sec (nd ns i).nano)))] [] ?_
  refine aj.gA 66 (cT (nd ns i).sec (nd ns i).nano) (fun _ => by kernel_rfl) (fun Cl => ?_) (fun Cl => ?_)
  ·refine gK 1 [(67, .pointer (some ⟨(au A), ar A + i * 10, none⟩))] [] ?_
   refine gL [] (vm A ns L hG i hi) ?_
   rintro _ _ ⟨rfl, rfl⟩
   refine gK 2 [(2, .bool (decide (dJ (nd ns i).kind (nd ns i).target)))] [] ?_
   refine NN (af.ret ?_)
   exact RT (.bool (decide (dJ (nd ns i).kind (nd ns i).target))) [0] (⟨congrArg Value.bool (decide_eq_decide.2 (by rw [dS]; unfold Within at *; grind)), rfl⟩)
  refine gK 4 [(2, .bool false)] [] ?_
  refine NN (af.ret ?_)
  exact RT (.bool false) [0] (⟨congrArg Value.bool (decide_eq_false (by rw [dS]; unfold Within at *; grind)).symm, rfl⟩)
 refine gK 14 [(46, .bool false), (52, .bool (!(decide (((nd ns i).kind : Int) = (2 : Int)))))] [(11, p_ ⟨[.old (.int .i64 ((nd ns i).kind))], none, none, none, none⟩ [(Rd β ⟨(au A), ar A + i * 10 + 1, none⟩ (.int .i64 ((nd ns i).kind)))] ⟨aA.rd hG (i := i) (by omega) (j := 1) rfl, trivial⟩)] ?_
 refine aj.fM 52 (((nd ns i).kind : Int) = (2 : Int)) (fun _ => by kernel_rfl) (fun LX => ?_) (fun LX => ?_)
 ·refine gK 8 [(60, .bool (decide (((((nd ns i).ah.length : Nat) : Int) : Int) > (0 : Int))))] [(3, p_ ⟨[.old (.slice (L.eA i) ((nd ns i).ah.length) ((L.eC i)))], none, none, none, none⟩ [(Rd β ⟨(au A), ar A + i * 10 + 9, none⟩ (.slice (L.eA i) ((nd ns i).ah.length) ((L.eC i))))] ⟨aA.rd hG (i := i) (by omega) (j := 9) rfl, trivial⟩)] ?_
  refine NN ?_
  refine af.bn (p := ((((nd ns i).ah.length : Nat) : Int) : Int) > (0 : Int)) (fun _ => by kernel_rfl) (fun Gl => ?_) (fun Gl => ?_)
  ·refine SR ?_
   refine gK 1 [(2, .bool false)] [] ?_
   refine NN (af.ret (ai.aq ?_))
   exact RT (.bool false) [0] (⟨congrArg Value.bool (decide_eq_false (by rw [dS]; unfold Within at *; grind)).symm, rfl⟩)
  refine af.skip (NX (SR ?_))
  refine gK 4 [(64, .agg #[vI ((nd ns i).sec), vI ((nd ns i).nano)])] [(3, p_ ⟨[.old (.int .i64 ((nd ns i).sec)), .old (.int .i64 ((nd ns i).nano))], none, none, none, none⟩ [(Rd β ⟨(au A), ar A + i * 10 + 5 + 1, none⟩ (.int .i64 ((nd ns i).nano))), (Rd β ⟨(au A), ar A + i * 10 + 5, none⟩ (.int .i64 ((nd ns i).sec)))] ⟨aA.rd hG (i := i) (by omega) (j := 6) rfl, aA.rd hG (i := i) (by omega) (j := 5) rfl, trivial⟩)] ?_
  refine gL [] (fT (nd ns i).sec (nd ns i).nano) ?_
  rintro _ _ ⟨rfl, rfl⟩
  refine gK 1 [(66, .bool (decide (cT (nd ns i).sec (nd ns i).nano)))] [] ?_
  refine aj.gA 66 (cT (nd ns i).sec (nd ns i).nano) (fun _ => by kernel_rfl) (fun Cl => ?_) (fun Cl => ?_)
  ·refine gK 1 [(67, .pointer (some ⟨(au A), ar A + i * 10, none⟩))] [] ?_
   refine gL [] (vm A ns L hG i hi) ?_
   rintro _ _ ⟨rfl, rfl⟩
   refine gK 2 [(2, .bool (decide (dJ (nd ns i).kind (nd ns i).target)))] [] ?_
   refine NN (af.ret ?_)
   exact RT (.bool (decide (dJ (nd ns i).kind (nd ns i).target))) [0] (⟨congrArg Value.bool (decide_eq_decide.2 (by rw [dS]; unfold Within at *; grind)), rfl⟩)
  refine gK 4 [(2, .bool false)] [] ?_
  refine NN (af.ret ?_)
  exact RT (.bool false) [0] (⟨congrArg Value.bool (decide_eq_false (by rw [dS]; unfold Within at *; grind)).symm, rfl⟩)
 refine gK 8 [(60, .bool false)] [] ?_
 refine NN ?_
 refine CF ?_
 refine af.skip (NX (SR ?_))
 refine gK 4 [(64, .agg #[vI ((nd ns i).sec), vI ((nd ns i).nano)])] [(3, p_ ⟨[.old (.int .i64 ((nd ns i).sec)), .old (.int .i64 ((nd ns i).nano))], none, none, none, none⟩ [(Rd β ⟨(au A), ar A + i * 10 + 5 + 1, none⟩ (.int .i64 ((nd ns i).nano))), (Rd β ⟨(au A), ar A + i * 10 + 5, none⟩ (.int .i64 ((nd ns i).sec)))] ⟨aA.rd hG (i := i) (by omega) (j := 6) rfl, aA.rd hG (i := i) (by omega) (j := 5) rfl, trivial⟩)] ?_
 refine gL [] (fT (nd ns i).sec (nd ns i).nano) ?_
 rintro _ _ ⟨rfl, rfl⟩
 refine gK 1 [(66, .bool (decide (cT (nd ns i).sec (nd ns i).nano)))] [] ?_
 refine aj.gA 66 (cT (nd ns i).sec (nd ns i).nano) (fun _ => by kernel_rfl) (fun Cl => ?_) (fun Cl => ?_)
 ·refine gK 1 [(67, .pointer (some ⟨(au A), ar A + i * 10, none⟩))] [] ?_
  refine gL [] (vm A ns L hG i hi) ?_
  rintro _ _ ⟨rfl, rfl⟩
  refine gK 2 [(2, .bool (decide (dJ (nd ns i).kind (nd ns i).target)))] [] ?_
  refine NN (af.ret ?_)
  exact RT (.bool (decide (dJ (nd ns i).kind (nd ns i).target))) [0] (⟨congrArg Value.bool (decide_eq_decide.2 (by rw [dS]; unfold Within at *; grind)), rfl⟩)
 refine gK 4 [(2, .bool false)] [] ?_
 refine NN (af.ret ?_)
 exact RT (.bool false) [0] (⟨congrArg Value.bool (decide_eq_false (by rw [dS]; unfold Within at *; grind)).symm, rfl⟩)
end
section
open Go.RowKit Go.Maps
def iX (x y : ByteArray) : Prop := (Op.bytesLess x.toList y.toList || (x.toList == y.toList)) = true
instance (x y : ByteArray) : Decidable (iX x y) := inferInstanceAs (Decidable (_ = true))
theorem LY (x y : ByteArray) : Value.bool (Op.bytesLess x.toList y.toList || (x.toList == y.toList)) = Value.bool (decide (iX x y)) := by
  have h : ∀ (b : Bool) [Decidable (b = true)], b = decide (b = true) := by
    intro b _
    cases b <;> simp
  exact congrArg Value.bool (h _)
def tgt (ns : List aC) (z : Int) : Nat := (iE ns z).toNat
theorem gH {ns : List aC} {z : Int} (h : 0 ≤ iE ns z) : tgt ns z < ns.length ∧ (nd ns (tgt ns z)).id = z ∧ iE ns z = (tgt ns z : Int) := by
  unfold tgt
  unfold iE at h ⊢
  cases hf : ns.findIdx? (fun n => n.id == z) with
  | none => rw [hf] at h; simp at h
  | some k =>
    rw [List.findIdx?_eq_some_iff_getElem] at hf
    obtain ⟨h1, h2, _⟩ := hf
    refine ⟨h1, ?_, rfl⟩
    show (nd ns k).id = z
    unfold nd
    rw [List.getD_eq_getElem?_getD, List.getElem?_eq_getElem h1]
    simpa using h2
def ent (ns : List aC) (i j : Nat) : gU := en (nd ns i).ah j
def jO (ns : List aC) (i : Nat) : Nat → ByteArray
  | 0 => ⟨#[]⟩
  | j + 1 => (ent ns i j).name
structure lN (ns : List aC) (i j : Nat) : Prop where
  at_ : 0 ≤ iE ns (ent ns i j).id
  good : bB (ent ns i j).name
  ord : ¬ iX (ent ns i j).name (jO ns i j)
def Cm (ns : List aC) (i j : Nat) : List (Nat × Nat) := if (nd ns (tgt ns (ent ns i j).id)).kind = 2 then [(tgt ns (ent ns i j).id, i)] else []
def cG (ns : List aC) (i : Nat) : Nat → List (Nat × Nat)
  | 0 => []
  | j + 1 => Cm ns i j ++ cG ns i j
def dZ (ns : List aC) : Nat → List (Nat × Nat)
  | 0 => []
  | i + 1 => cG ns i (nd ns i).ah.length ++ dZ ns i
def gM (ns : List aC) (p : Nat × Nat) : Int × Int := ((nd ns p.1).id, (nd ns p.2).id)
theorem Gm {ns : List aC} {i j m : Nat} (h : j ≤ m) : ∃ l, cG ns i m = l ++ cG ns i j := by
  induction m with
  | zero => exact ⟨[], by rw [Nat.le_zero.1 h]; rfl⟩
  | succ m ih =>
    rcases Nat.lt_or_ge m j with h1 | h1
    ·have : j = m + 1 := by omega
     subst this
     exact ⟨[], rfl⟩
    obtain ⟨l, hl⟩ := ih h1
    exact ⟨Cm ns i m ++ l, by rw [cG, hl, List.append_assoc]⟩
theorem Gn {ns : List aC} {i m : Nat} (h : i ≤ m) : ∃ l, dZ ns m = l ++ dZ ns i := by
  induction m with
  | zero => exact ⟨[], by rw [Nat.le_zero.1 h]; rfl⟩
  | succ m ih =>
    rcases Nat.lt_or_ge m i with h1 | h1
    ·have : i = m + 1 := by omega
     subst this
     exact ⟨[], rfl⟩
    obtain ⟨l, hl⟩ := ih h1
    exact ⟨cG ns m (nd ns m).ah.length ++ l, by rw [dZ, hl, List.append_assoc]⟩
theorem t6 {l : List (Nat × Nat)} {k : List (Nat × Nat)} (h : ((l ++ k).map Prod.fst).Nodup) : (k.map Prod.fst).Nodup := by
  rw [List.map_append] at h
  exact (List.nodup_append.1 h).2.1
theorem bP.inj {ns : List aC} (hr : bP ns) {a b : Nat} (ha : a < ns.length) (hb : b < ns.length) (h : (nd ns a).id = (nd ns b).id) : a = b := by
  rcases Nat.lt_trichotomy a b with h1 | h1 | h1
  ·have := hr a b h1 hb; omega
  ·exact h1
  have := hr b a h1 ha; omega
theorem D7 {ns : List aC} {ps : List (Nat × Nat)} {k : Nat} (h : up (ps.map (gM ns)) (nd ns k).id = none) : k ∉ ps.map Prod.fst := by
  unfold up at h
  induction ps with
  | nil => simp
  | cons p ps ih =>
    obtain ⟨a, b⟩ := p
    rw [List.map_cons, gM, List.lookup_cons] at h
    intro hm
    rw [List.map_cons] at hm
    rcases List.mem_cons.1 hm with e | hm
    ·subst e
     simp at h
    by_cases e : ((nd ns k).id == (nd ns a).id) = true
    ·rw [e] at h; cases h
    have e : ((nd ns k).id == (nd ns a).id) = false := by simpa using e
    rw [e] at h
    exact ih h hm
theorem D8 {ns : List aC} {ps : List (Nat × Nat)} {k : Nat} {y : Int} (hr : bP ns) (hk : k < ns.length) (hp : ∀ p, p ∈ ps → p.1 < ns.length) (h : up (ps.map (gM ns)) (nd ns k).id = some y) : k ∈ ps.map Prod.fst ∧ ∃ p, p ∈ ps ∧ p.1 = k ∧ y = (nd ns p.2).id := by
  unfold up at h
  induction ps with
  | nil => cases h
  | cons p ps ih =>
    obtain ⟨a, b⟩ := p
    rw [List.map_cons, gM, List.lookup_cons] at h
    by_cases e : ((nd ns k).id == (nd ns a).id) = true
    ·rw [e] at h
     cases h
     have : k = a := hr.inj hk (hp (a, b) (List.mem_cons_self ..)) (by simpa using e)
     subst this
     exact ⟨by simp, (k, b), List.mem_cons_self .., rfl, rfl⟩
    have e : ((nd ns k).id == (nd ns a).id) = false := by simpa using e
    rw [e] at h
    obtain ⟨h1, q, hq, h2⟩ := ih (fun p hp' => hp p (List.mem_cons_of_mem _ hp')) h
    exact ⟨by rw [List.map_cons]; exact List.mem_cons_of_mem _ h1, q, List.mem_cons_of_mem _ hq, h2⟩
def bf (A : Option Addr) (ns : List aC) (k : Nat) (z : Int) : Option Value := if 0 ≤ iE ns z ∧ iE ns z < k then some (.pointer (some ⟨au A, ar A + tgt ns z * 10, none⟩)) else none
structure sJ (ns : List aC) (i : Nat) (ps : List (Nat × Nat)) : Prop where
  ah : ∀ j, j < (nd ns i).ah.length → lN ns i j
  nodup : ((cG ns i (nd ns i).ah.length ++ ps).map Prod.fst).Nodup
theorem EO {A : Option Addr} {ns : List aC} {k : Nat} {z : Int} (h : 0 ≤ iE ns z) (hk : tgt ns z < k) : mf (bf A ns k) (.int .i64 z) = some (.pointer (some ⟨au A, ar A + tgt ns z * 10, none⟩)) :=
  if_pos ⟨h, by rw [(gH h).2.2]; omega⟩
theorem D9 {A : Option Addr} {ns : List aC} {k : Nat} {z : Int} (h : ¬ 0 ≤ iE ns z) : mf (bf A ns k) (.int .i64 z) = none := if_neg (fun e => h e.1)
theorem Cn (ns : List aC) (i j : Nat) : (cG ns i j).length ≤ j := by
  induction j with
  | zero => exact Nat.le_refl _
  | succ j ih =>
    rw [cG, List.length_append]
    have : (Cm ns i j).length ≤ 1 := by
      unfold Cm
      split <;> simp
    omega
theorem qI {ns : List aC} {i j : Nat} (h : ¬ (nd ns (tgt ns (ent ns i j).id)).kind = 2) : cG ns i (j + 1) = cG ns i j := by
  rw [cG, Cm, if_neg h]; rfl
theorem nG {ns : List aC} {i j : Nat} (h : (nd ns (tgt ns (ent ns i j).id)).kind = 2) : cG ns i (j + 1) = (tgt ns (ent ns i j).id, i) :: cG ns i j := by
  rw [cG, Cm, if_pos h]; rfl
theorem DC {ns : List aC} {i j : Nat} {ps : List (Nat × Nat)} (h : sJ ns i ps) (hj : j < (nd ns i).ah.length) (hk : (nd ns (tgt ns (ent ns i j).id)).kind = 2) : tgt ns (ent ns i j).id ∉ (cG ns i j ++ ps).map Prod.fst := by
  obtain ⟨l, hl⟩ := Gm (ns := ns) (i := i) (show j + 1 ≤ (nd ns i).ah.length from hj)
  have h1 := h.nodup
  rw [hl, List.append_assoc] at h1
  have h2 := t6 h1
  rw [nG hk, List.cons_append, List.map_cons] at h2
  exact (List.nodup_cons.1 h2).1
theorem IG {ns : List aC} {i j : Nat} {ps : List (Nat × Nat)} (hat : 0 ≤ iE ns (ent ns i j).id) (hk : (nd ns (tgt ns (ent ns i j).id)).kind = 2) :
    iD (mf (pf ((cG ns i j ++ ps).map (gM ns)))) (.int .i64 (ent ns i j).id) (some (.int .i64 (nd ns i).id)) = mf (pf ((cG ns i (j + 1) ++ ps).map (gM ns))) := by
  rw [xS, nG hk, List.cons_append, List.map_cons, gM, (gH hat).2.1, KW]
theorem II {ns : List aC} {i j : Nat} {ps : List (Nat × Nat)} {f : Lit → Option Value} {kl : Lit} (hf : f kl = none) (hk : (nd ns (tgt ns (ent ns i j).id)).kind = 2) :
    (if (f kl).isSome then (cG ns i j ++ ps).length else (cG ns i j ++ ps).length + 1) = (cG ns i (j + 1) ++ ps).length := by
  rw [hf, nG hk]
  rfl
theorem EP {ns : List aC} {i j : Nat} {ps : List (Nat × Nat)} (hat : 0 ≤ iE ns (ent ns i j).id) (hk : (nd ns (tgt ns (ent ns i j).id)).kind = 2) (hup : up ((cG ns i j ++ ps).map (gM ns)) (ent ns i j).id = none) (h : ((cG ns i j ++ ps).map Prod.fst).Nodup) :
    ((cG ns i (j + 1) ++ ps).map Prod.fst).Nodup := by
  rw [nG hk, List.cons_append, List.map_cons]
  refine List.nodup_cons.2 ⟨?_, h⟩
  refine D7 (ns := ns) ?_
  rw [(gH hat).2.1]
  exact hup
theorem Co {ns : List aC} {i j : Nat} (h : ∀ t, t < j → lN ns i t) : ∀ p, p ∈ cG ns i j → p.1 < ns.length ∧ p.2 = i := by
  induction j with
  | zero => intro p hp; cases hp
  | succ j ih =>
    intro p hp
    rw [cG] at hp
    rcases List.mem_append.1 hp with hp | hp
    ·unfold Cm at hp
     split at hp
     ·rw [List.mem_singleton.1 hp]
      exact ⟨(gH (h j (Nat.lt_succ_self j)).at_).1, rfl⟩
     cases hp
    exact ih (fun t ht => h t (by omega)) p hp
theorem DE {ns : List aC} {i j : Nat} {ps : List (Nat × Nat)} {y : Int} (hr : bP ns) (hps : ∀ p, p ∈ ps → p.1 < ns.length) (hok : ∀ t, t < j → lN ns i t) (hat : 0 ≤ iE ns (ent ns i j).id) (hk : (nd ns (tgt ns (ent ns i j).id)).kind = 2)
    (hup : up ((cG ns i j ++ ps).map (gM ns)) (ent ns i j).id = some y) (hj : j < (nd ns i).ah.length) : ¬ sJ ns i ps := fun h => by
  refine DC h hj hk ?_
  rw [← (gH hat).2.1] at hup
  refine (D8 hr (gH hat).1 (fun p hp => ?_) hup).1
  rcases List.mem_append.1 hp with hp | hp
  ·exact (Co hok p hp).1
  exact hps p hp
end
section
open Go.RowKit
structure Th where
  k : Nat
  kind : Int
deriving Inhabited, DecidableEq
abbrev dU (α : Type) := List (ByteArray × α)
structure aM where
  id : Int
  mode : Int
  uid : Int
  gid : Int
  sec : Int
  nano : Int
  links : Int
  opens : Int
  gone : Bool
  kind : Int
  data : List UInt8
  target : ByteArray
  ah : dU Th
  up : Option Nat
deriving Inhabited
abbrev bK := Nat → aM
def obj (O : bK) (k : Nat) : aM := O k
def ay (O : bK) (k : Nat) (f : aM → aM) : bK := fun i => if i = k then f (O i) else O i
section iD
variable {O : bK} {k j : Nat} {f g : aM → aM}
theorem bG : obj (ay O k f) k = f (obj O k) := if_pos rfl
theorem bQ (h : j ≠ k) : obj (ay O k f) j = obj O j := if_neg h
theorem jh : obj (ay O k f) j = if j = k then f (obj O j) else obj O j := rfl
theorem KY (h : f (obj O k) = obj O k) : ay O k f = O := by
  funext i
  show (if i = k then f (O i) else O i) = O i
  split
  ·rename_i e; subst e; exact h
  rfl
theorem qJ : ay (ay O k f) k g = ay O k (fun o => g (f o)) := by
  funext i
  show (if i = k then g (if i = k then f (O i) else O i) else (if i = k then f (O i) else O i)) = if i = k then g (f (O i)) else O i
  split <;> rfl
end iD
section ah
variable {α : Type} {n p : ByteArray} {t : α} {es : dU α}
def aQ (n : ByteArray) (es : dU α) : Option α := (es.find? (fun e => decide (e.1 = n))).map (·.2)
def eF (n : ByteArray) (t : α) : dU α → dU α
  | [] => [(n, t)]
  | e :: r => if ¬ iX e.1 n then (n, t) :: e :: r else e :: eF n t r
def eG (n : ByteArray) (es : dU α) : dU α := es.filter (fun e => decide (e.1 ≠ n))
theorem fP {e : ByteArray × α} : aQ n (e :: es) = if e.1 = n then some e.2 else aQ n es := by
  unfold aQ
  rw [List.find?_cons]
  by_cases h : e.1 = n
  ·rw [if_pos h]; simp [h]
  rw [if_neg h]; simp [h]
theorem sK : aQ n es = none ↔ ∀ e ∈ es, e.1 ≠ n := by
  unfold aQ
  rw [Option.map_eq_none_iff, List.find?_eq_none]
  simp
theorem jH {es : dU α} (h : aQ n es = some t) : (n, t) ∈ es := by
  unfold aQ at h
  obtain ⟨e, h1, h2⟩ := Option.map_eq_some_iff.1 h
  have h3 := List.find?_some h1
  have h4 := List.mem_of_find?_eq_some h1
  obtain ⟨a, b⟩ := e
  simp at h3 h2
  subst h3 h2
  exact h4
theorem Cp : ∀ {es : dU α}, (eF n t es).length = es.length + 1
  | [] => rfl
  | e :: r => by
    unfold eF
    split
    ·rfl
    rw [List.length_cons, Cp]; rfl
theorem t7 (hn : aQ n es = none) : aQ p (eF n t es) = if p = n then some t else aQ p es := by
  induction es with
  | nil =>
    rw [eF, fP]
    by_cases h : n = p
    ·rw [if_pos h, if_pos h.symm]
    rw [if_neg h, if_neg (fun e => h e.symm)]
  | cons e r ih =>
    rw [fP] at hn
    have he : ¬ e.1 = n := fun h => by rw [if_pos h] at hn; cases hn
    rw [if_neg he] at hn
    rw [eF]
    split
    ·rw [fP]
     by_cases h : n = p
     ·rw [if_pos h, if_pos h.symm]
     rw [if_neg h, if_neg (fun e => h e.symm)]
    rw [fP, ih hn, fP]
    by_cases h : p = n
    ·subst h; rw [if_neg he, if_pos rfl, if_pos rfl]
    rw [if_neg h, if_neg h]
theorem oh : aQ p (eG n es) = if p = n then none else aQ p es := by
  induction es with
  | nil => simp [eG, aQ]
  | cons e r ih =>
    unfold eG at ih ⊢
    rw [List.filter_cons]
    by_cases h : e.1 = n
    ·rw [if_neg (by simp [h]), ih, fP]
     by_cases hp : p = n
     ·rw [if_pos hp, if_pos hp]
     rw [if_neg hp, if_neg hp, if_neg (fun e2 => hp (e2.symm.trans h))]
    rw [if_pos (by simp [h]), fP, ih, fP]
    by_cases hp : p = n
    ·subst hp; rw [if_neg h, if_pos rfl, if_pos rfl]
    rw [if_neg hp, if_neg hp]
def mw (es : dU α) : Prop := es.Pairwise (fun a b => a.1 ≠ b.1)
theorem IJ {es : dU α} (hd : mw es) (h : aQ n es = some t) : (eG n es).length + 1 = es.length := by
  induction es with
  | nil => cases h
  | cons e r ih =>
    obtain ⟨h1, h2⟩ := List.pairwise_cons.1 hd
    rw [fP] at h
    unfold eG at ih ⊢
    rw [List.filter_cons]
    by_cases he : e.1 = n
    ·rw [if_neg (by simp [he])]
     have : r.filter (fun e => decide (e.1 ≠ n)) = r := List.filter_eq_self.2 (fun x hx => by have := h1 x hx; simp; exact fun e2 => this (he.trans e2.symm))
     rw [this]; rfl
    rw [if_pos (by simp [he])]
    rw [if_neg he] at h
    rw [List.length_cons, List.length_cons, ih h2 h]
theorem sM {e : ByteArray × α} : ∀ {es : dU α}, e ∈ eF n t es ↔ e = (n, t) ∨ e ∈ es
  | [] => by simp [eF]
  | x :: r => by
    unfold eF
    split
    ·simp
    rw [List.mem_cons, sM, List.mem_cons]
    constructor
    ·rintro (h | h | h)
     ·exact .inr (.inl h)
     ·exact .inl h
     exact .inr (.inr h)
    rintro (h | h | h)
    ·exact .inr (.inl h)
    ·exact .inl h
    exact .inr (.inr h)
end ah
end
section
open Go.RowKit
section sat
variable {β : Bs} {l : List HP} {w : World} {p p1 p2 : HP} {i : Nat}
theorem Sat.NW (h : Sat β l w) (hp : l[i]? = some p) (hs : ∀ F, p.h F w → ∃ F1 F2, p1.h F1 w ∧ p2.h F2 w ∧ Apart F1 F2 ∧ ∀ k, F k ↔ F1 k ∨ F2 k) : Sat β (l.set i p1 ++ [p2]) w := by
  obtain ⟨ho, φ, h1, h2, h3⟩ := h
  obtain ⟨F1, F2, g1, g2, g3, g4⟩ := hs _ (h1 i p hp)
  have hi := bw hp
  have hlen : (l.set i p1 ++ [p2]).length = l.length + 1 := by simp
  refine ⟨ho, fun j => if j = l.length then F2 else if j = i then F1 else φ j, fun j q hq => ?_, fun j hj k hk hO => ?_, fun a b ha hb hne k hk hk' => ?_⟩
  ·by_cases e : j = l.length
   ·subst e
    rw [List.getElem?_append_right (by simp)] at hq
    simp at hq
    subst hq
    simpa using g2
   rw [List.getElem?_append_left (by have := bw hq; rw [hlen] at this; simp; omega)] at hq
   simp only [e, if_false]
   by_cases e2 : j = i
   ·subst e2
    rw [List.getElem?_set_self hi] at hq
    cases hq
    simpa using g1
   rw [List.getElem?_set_ne (fun e' => e2 e'.symm)] at hq
   simp only [e2, if_false]
   exact h1 j q hq
  ·rw [hlen] at hj
   have hF : ∀ k, F1 k ∨ F2 k → β.O k → False := fun k hk hO => h2 i hi k ((g4 k).2 hk) hO
   by_cases e : j = l.length
   ·simp only [e, if_true] at hk; exact hF k (.inr hk) hO
   simp only [e, if_false] at hk
   by_cases e2 : j = i
   ·simp only [e2, if_true] at hk; exact hF k (.inl hk) hO
   simp only [e2, if_false] at hk; exact h2 j (by omega) k hk hO
  rw [hlen] at ha hb
  have key : ∀ j, j < l.length → j ≠ i → ∀ k, F1 k ∨ F2 k → φ j k → False := fun j hj hne k hk hk' => h3 j i hj hi hne k hk' ((g4 k).2 hk)
  by_cases ea : a = l.length
  ·simp only [ea, if_true] at hk
   have eb : ¬ b = l.length := fun e => hne (ea.trans e.symm)
   simp only [eb, if_false] at hk'
   by_cases xW : b = i
   ·simp only [xW, if_true] at hk'; exact g3 k hk' hk
   simp only [xW, if_false] at hk'; exact key b (by omega) xW k (.inr hk) hk'
  simp only [ea, if_false] at hk
  by_cases Gp : a = i
  ·simp only [Gp, if_true] at hk
   by_cases eb : b = l.length
   ·simp only [eb, if_true] at hk'; exact g3 k hk hk'
   simp only [eb, if_false] at hk'
   have xW : ¬ b = i := fun e => hne (Gp.trans e.symm)
   simp only [xW, if_false] at hk'
   exact key b (by omega) xW k (.inl hk) hk'
  simp only [Gp, if_false] at hk
  by_cases eb : b = l.length
  ·simp only [eb, if_true] at hk'; exact key a (by omega) Gp k (.inr hk') hk
  simp only [eb, if_false] at hk'
  by_cases xW : b = i
  ·simp only [xW, if_true] at hk'; exact key a (by omega) Gp k (.inl hk') hk
  simp only [xW, if_false] at hk'; exact h3 a b (by omega) (by omega) hne k hk hk'
theorem Sat.Kf {j : Nat} {idx : List Nat} {l' : List HP} (h : Sat β l w) (hp : l[i]? = some p1) (hq : l[j]? = some p2) (hn : nodupB (i :: j :: idx) = true) (hl : bM l idx = some l') (hs : ∀ F1 F2, p1.h F1 w → p2.h F2 w → Apart F1 F2 → ∃ F, p.h F w ∧ ∀ k, F k → F1 k ∨ F2 k) : Sat β (p :: l') w := by
  have h' := h.pick (idx := i :: j :: idx) (l' := p1 :: p2 :: l') hn (by simp only [bM, hp, hq, hl])
  obtain ⟨ho, φ, h1, h2, h3⟩ := h'
  obtain ⟨F, hF, hk⟩ := hs _ _ (h1 0 p1 rfl) (h1 1 p2 rfl) (h3 0 1 (by simp) (by simp) (by decide))
  have hlen : (p1 :: p2 :: l').length = l'.length + 2 := rfl
  rw [hlen] at h2 h3
  refine ⟨ho, fun j => if j = 0 then F else φ (j + 1), fun j q hq => ?_, fun j hj k hkk hO => ?_, fun a b ha hb hne k hk1 hk2 => ?_⟩
  ·cases j with
   | zero => simp at hq; subst hq; simpa using hF
   | succ j => simpa using h1 (j + 2) q (by simpa using hq)
  ·simp only [List.length_cons] at hj
   cases j with
   | zero =>
     simp only [if_true] at hkk
     rcases hk k hkk with e | e
     ·exact h2 0 (by omega) k e hO
     exact h2 1 (by omega) k e hO
   | succ j => exact h2 (j + 2) (by omega) k (by simpa using hkk) hO
  simp only [List.length_cons] at ha hb
  have key : ∀ j, j < l'.length → F k → φ (j + 2) k → False := fun j hj e1 e2 => by
    rcases hk k e1 with e | e
    ·exact h3 0 (j + 2) (by omega) (by omega) (by omega) k e e2
    exact h3 1 (j + 2) (by omega) (by omega) (by omega) k e e2
  cases a with
  | zero =>
    cases b with
    | zero => exact hne rfl
    | succ b => exact key b (by omega) (by simpa using hk1) (by simpa using hk2)
  | succ a =>
    cases b with
    | zero => exact key a (by omega) (by simpa using hk2) (by simpa using hk1)
    | succ b => exact h3 (a + 2) (b + 2) (by omega) (by omega) (by omega) k (by simpa using hk1) (by simpa using hk2)
end sat
def fw (R : Nat → bT) (n : Nat) : bT where
  h F w := ∃ φ : Nat → Fp, (∀ i, i < n → (R i).h (φ i) w) ∧ (∀ i j, i < n → j < n → i ≠ j → Apart (φ i) (φ j)) ∧ ∀ k, F k ↔ ∃ i, i < n ∧ φ i k
  lt := fun ⟨_, h1, _, h3⟩ k hk => let ⟨i, hi, hk⟩ := (h3 k).1 hk; (R i).lt (h1 i hi) k hk
  st := fun ⟨φ, h1, h2, h3⟩ _ _ hk hn => ⟨φ, fun i hi => (R i).st (h1 i hi) hk (fun k hk => hn k ((h3 k).2 ⟨i, hi, hk⟩)), h2, h3⟩
def bT.none : bT where
  h F _ := ∀ k, ¬ F k
  lt := fun h k hk => absurd hk (h k)
  st := fun h _ _ _ _ => h
def iO (R : Nat → bT) (k : Nat) (a : bT) : Nat → bT := fun i => if i = k then a else R i
section Gq
variable {β : Bs} {l l' : List HP} {w : World} {i n k : Nat} {R R' : Nat → bT} {a : bT}
theorem fw.nil (R : Nat → bT) (w : World) : (HP.abs (fw R 0)).h (fun _ => False) w := ⟨fun _ _ => False, fun i hi => absurd hi (Nat.not_lt_zero i), fun i _ hi => absurd hi (Nat.not_lt_zero i), fun _ => ⟨fun h => h.elim, fun ⟨i, hi, _⟩ => absurd hi (Nat.not_lt_zero i)⟩⟩
theorem Sat.Gr (h : Sat β l w) (R : Nat → bT) : Sat β (l ++ [.abs (fw R 0)]) w := Sat.new h (fw.nil R w) (Keeps.refl _ _) (fun _ h => h.elim)
theorem Sat.pN {j : Nat} {idx : List Nat} (h : Sat β l w) (hp : l[i]? = some (.abs (fw R n))) (hq : l[j]? = some (.abs a)) (hn : nodupB (i :: j :: idx) = true) (hl : bM l idx = some l') (hR : ∀ x, x < n → R' x = R x) (ha : R' n = a) : Sat β (.abs (fw R' (n + 1)) :: l') w := by
  refine h.Kf hp hq hn hl ?_
  rintro F1 F2 ⟨φ, h1, h2, h3⟩ hF hap
  refine ⟨fun x => F1 x ∨ F2 x, ⟨fun i => if i = n then F2 else φ i, fun i hi => ?_, fun i j hi hj hne x hx hy => ?_, fun x => ⟨fun hx => ?_, fun ⟨i, hi, hx⟩ => ?_⟩⟩, fun x hx => hx⟩
  ·by_cases e : i = n
   ·subst e; simp only [if_true]; rw [ha]; exact hF
   simp only [e, if_false]; rw [hR i (by omega)]; exact h1 i (by omega)
  ·by_cases e1 : i = n
   ·by_cases e2 : j = n
    ·exact hne (e1.trans e2.symm)
    simp only [e1, if_true] at hx
    simp only [e2, if_false] at hy
    exact hap x ((h3 x).2 ⟨j, by omega, hy⟩) hx
   simp only [e1, if_false] at hx
   by_cases e2 : j = n
   ·simp only [e2, if_true] at hy
    exact hap x ((h3 x).2 ⟨i, by omega, hx⟩) hy
   simp only [e2, if_false] at hy
   exact h2 i j (by omega) (by omega) hne x hx hy
  ·rcases hx with hx | hx
   ·obtain ⟨i, hi, hx⟩ := (h3 x).1 hx
    exact ⟨i, by omega, by simpa [Nat.ne_of_lt hi] using hx⟩
   exact ⟨n, Nat.lt_succ_self n, by simpa using hx⟩
  by_cases e : i = n
  ·exact .inr (by simpa [e] using hx)
  exact .inl ((h3 x).2 ⟨i, by omega, by simpa [e] using hx⟩)
theorem fw.base {F : Fp} {β' : Bs} (h : (HP.abs (fw R n)).h F w) (h1 : ∀ k, F k → β'.O k) (_ : β'.w0 = w) {Φ : Nat → Bs → Prop} (BR : ∀ i, i < n → ∀ F, (R i).h F w → (∀ k, F k → β'.O k) → Φ i β') : ∀ i, i < n → Φ i β' := by
  obtain ⟨φ, g1, _, g3⟩ := h
  exact fun i hi => BR i hi (φ i) (g1 i hi) (fun k hk => h1 k ((g3 k).2 ⟨i, hi, hk⟩))
end Gq
section sF
variable {P : Program} {β : Bs} {N : Nat} {ops : Array Oper} {S : List HP} {l : List Nat} {fr : Fr} {hps : List HP} {Q : Post} {i : Nat}
end sF
end
section
open Go.RowKit
structure p6 (β : Bs) (R : List HP) (β' : Bs) : Prop where
  le : β.le β'
  fp : ∃ φ : Nat → Fp, (∀ (i : Nat) (p : HP), R[i]? = some p → p.h (φ i) β'.w0 ∧ ∀ k, φ i k → β'.O k) ∧ (∀ i, i < R.length → ∀ k, φ i k → ¬ β.O k) ∧ (∀ i j, i < R.length → j < R.length → i ≠ j → Apart (φ i) (φ j)) ∧ ∀ k, β'.O k → β.O k ∨ ∃ i, i < R.length ∧ φ i k
section Pu
variable {β β' xR : Bs} {l R : List HP} {w : World} {p : HP} {i : Nat}
theorem p6.get (h : p6 β R β') (i : Nat) (hp : R[i]? = some p) : ∃ F, p.h F β'.w0 ∧ ∀ k, F k → β'.O k := by
  obtain ⟨φ, h1, _⟩ := h.fp
  exact ⟨φ i, h1 i p hp⟩
theorem Sat.turn {a b : List HP} (h : Sat β (a ++ b) w) : Sat β (b ++ a) w := by
  obtain ⟨ho, φ, h1, h2, h3⟩ := h
  have hl : (a ++ b).length = a.length + b.length := List.length_append
  have hl' : (b ++ a).length = b.length + a.length := List.length_append
  refine ⟨ho, fun i => if i < b.length then φ (a.length + i) else φ (i - b.length), fun i p hp => ?_, fun i hi k hk hO => ?_, fun i j hi hj hne k hk hk' => ?_⟩
  ·have hi := bw hp
   by_cases e : i < b.length
   ·simp only [e, if_true]
    rw [List.getElem?_append_left e] at hp
    exact h1 _ p (by rw [List.getElem?_append_right (by omega)]; simpa using hp)
   simp only [e, if_false]
   rw [List.getElem?_append_right (by omega)] at hp
   exact h1 _ p (by rw [List.getElem?_append_left (by omega)]; exact hp)
  ·by_cases e : i < b.length
   ·simp only [e, if_true] at hk
    exact h2 _ (by omega) k hk hO
   simp only [e, if_false] at hk
   exact h2 _ (by omega) k hk hO
  by_cases e1 : i < b.length
  ·simp only [e1, if_true] at hk
   by_cases e2 : j < b.length
   ·simp only [e2, if_true] at hk'
    exact h3 _ _ (by omega) (by omega) (by omega) k hk hk'
   simp only [e2, if_false] at hk'
   exact h3 _ _ (by omega) (by omega) (by omega) k hk hk'
  simp only [e1, if_false] at hk
  by_cases e2 : j < b.length
  ·simp only [e2, if_true] at hk'
   exact h3 _ _ (by omega) (by omega) (by omega) k hk hk'
  simp only [e2, if_false] at hk'
  exact h3 _ _ (by omega) (by omega) (by omega) k hk hk'
theorem Sat.Cq (h : Sat β (l ++ R) w) : ∃ β', p6 β R β' ∧ β'.w0 = w ∧ Sat β' l w := by
  obtain ⟨ho, φ, h1, h2, h3⟩ := h
  have hl : (l ++ R).length = l.length + R.length := List.length_append
  have hR : ∀ (i : Nat) (p : HP), R[i]? = some p → p.h (φ (l.length + i)) w := fun i p hp => h1 _ p (by rw [List.getElem?_append_right (by omega)]; simpa using hp)
  refine ⟨⟨fun k => β.O k ∨ ∃ i, i < R.length ∧ φ (l.length + i) k, w⟩, ⟨⟨fun k hk => .inl hk, ho.os, ho.tape, ho.output, ho.size, fun k hk => ho.old k hk⟩, fun i => φ (l.length + i), fun i p hp => ⟨hR i p hp, fun k hk => .inr ⟨i, bw hp, hk⟩⟩, fun i hi => h2 _ (by omega), fun i j hi hj hne => h3 _ _ (by omega) (by omega) (by omega), fun k hk => hk⟩, rfl, ⟨rfl, rfl, rfl, Nat.le_refl _, fun k hk => ⟨?_, rfl⟩⟩, φ, fun i p hp => h1 i p (by rw [List.getElem?_append_left (bw hp)]; exact hp), fun i hi k hk hO => ?_, fun i j hi hj hne => h3 i j (by omega) (by omega) hne⟩
  ·rcases hk with hk | ⟨i, hi, hk⟩
   ·exact Nat.lt_of_lt_of_le (ho.old k hk).1 ho.size
   obtain ⟨p, hp⟩ := iw hi
   exact HP.lt (hR i p hp) k hk
  rcases hO with hO | ⟨j, hj, hO⟩
  ·exact h2 i (by omega) k hk hO
  exact h3 i (l.length + j) (by omega) (by omega) (by omega) k hk hO
theorem p6.back (h : p6 β R β') (hS : Sat β' l w) : Sat β (l ++ R) w := by
  obtain ⟨hle, φ, g1, g2, g3, g4⟩ := h
  obtain ⟨ho, ψ, h1, h2, h3⟩ := hS
  have hl : (l ++ R).length = l.length + R.length := List.length_append
  have hin : ∀ i, i < R.length → ∀ k, φ i k → β'.O k := fun i hi k hk => by
    obtain ⟨p, hp⟩ := iw hi
    exact (g1 i p hp).2 k hk
  have hk : ∀ i, i < R.length → Keeps (fun k => ¬ φ i k) β'.w0 w := fun i hi => ⟨ho.os, ho.tape, ho.output, ho.size, fun k _ hn => (ho.old k (hin i hi k (Classical.not_not.1 hn))).2⟩
  refine ⟨ho.le hle, fun i => if i < l.length then ψ i else φ (i - l.length), fun i p hp => ?_, fun i hi k hk hO => ?_, fun i j hi hj hne k hk hk' => ?_⟩
  ·by_cases e : i < l.length
   ·rw [List.getElem?_append_left e] at hp
    simp only [e, if_true]
    exact h1 i p hp
   rw [List.getElem?_append_right (by omega)] at hp
   simp only [e, if_false]
   exact HP.st (g1 _ p hp).1 (hk _ (bw hp)) (fun k h => fun h' => h' h)
  ·by_cases e : i < l.length
   ·simp only [e, if_true] at hk
    exact h2 i e k hk (hle.O k hO)
   simp only [e, if_false] at hk
   exact g2 _ (by omega) k hk hO
  by_cases e1 : i < l.length
  ·simp only [e1, if_true] at hk
   by_cases e2 : j < l.length
   ·simp only [e2, if_true] at hk'
    exact h3 i j e1 e2 hne k hk hk'
   simp only [e2, if_false] at hk'
   exact h2 i e1 k hk (hin _ (by omega) k hk')
  simp only [e1, if_false] at hk
  by_cases e2 : j < l.length
  ·simp only [e2, if_true] at hk'
   exact h2 j e2 k hk' (hin _ (by omega) k hk)
  simp only [e2, if_false] at hk'
  exact g3 _ _ (by omega) (by omega) (by omega) k hk hk'
end Pu
section rules
variable {P : Program} {β β' xR : Bs} {N : Nat} {ops : Array Oper} {k : Nat} {fr : Fr} {hps l R : List HP} {Q : Post} {c : Code} {e : Exit} {pk : List Nat} {f : FuncId} {args : Array Value} {pre : List HP}
end rules
end
section
open Go.RowKit
def ak (R : Nat → bT) : bT where
  h F w := ∃ φ : Nat → Fp, (∀ i, (R i).h (φ i) w) ∧ (∀ i j, i ≠ j → Apart (φ i) (φ j)) ∧ ∀ k, F k ↔ ∃ i, φ i k
  lt := fun ⟨_, h1, _, h3⟩ k hk => let ⟨i, hk⟩ := (h3 k).1 hk; (R i).lt (h1 i) k hk
  st := fun ⟨φ, h1, h2, h3⟩ _ _ hk hn => ⟨φ, fun i => (R i).st (h1 i) hk (fun k hk => hn k ((h3 k).2 ⟨i, hk⟩)), h2, h3⟩
section Gq
variable {β : Bs} {l l' : List HP} {w : World} {i n k : Nat} {R R' : Nat → bT} {a : bT}
theorem ak.at (k : Nat) {F : Fp} {w : World} (h : (ak R).h F w) : ∃ G, (R k).h G w := by
  obtain ⟨φ, h1, _⟩ := h
  exact ⟨φ k, h1 k⟩
theorem Sat.EQ (h : Sat β l w) (R : Nat → bT) (hR : ∀ k, R k = bT.none) : Sat β (l ++ [.abs (ak R)]) w := Sat.new h (p := .abs (ak R)) (F := fun _ => False) ⟨fun _ _ => False, fun i => by rw [hR]; exact fun _ h => h, fun _ _ _ _ h => h.elim, fun _ => ⟨fun h => h.elim, fun ⟨_, h⟩ => h⟩⟩ (Keeps.refl _ _) (fun _ h => h.elim)
theorem Sat.Cr (h : Sat β l w) (hp : l[i]? = some (.abs (ak R))) (k : Nat) : Sat β (l.set i (.abs (ak (iO R k bT.none))) ++ [.abs (R k)]) w := by
  refine h.NW hp ?_
  rintro F ⟨φ, h1, h2, h3⟩
  refine ⟨fun x => ∃ i, i ≠ k ∧ φ i x, φ k, ⟨fun i => if i = k then fun _ => False else φ i, fun i => ?_, fun i j hne x hx hy => ?_, fun x => ⟨fun ⟨i, hne, hx⟩ => ⟨i, by simpa [hne] using hx⟩, fun ⟨i, hx⟩ => ?_⟩⟩, h1 k, fun x ⟨i, hne, hx⟩ hy => h2 i k hne x hx hy, fun x => ⟨fun hx => ?_, fun hx => ?_⟩⟩
  ·unfold iO
   by_cases e : i = k
   ·simp only [e, if_true]; exact fun _ h => h
   simp only [e, if_false]; exact h1 i
  ·by_cases e1 : i = k
   ·simp [e1] at hx
   by_cases e2 : j = k
   ·simp [e2] at hy
   exact h2 i j hne x (by simpa [e1] using hx) (by simpa [e2] using hy)
  ·by_cases e1 : i = k
   ·simp [e1] at hx
   exact ⟨i, e1, by simpa [e1] using hx⟩
  ·obtain ⟨i, hx⟩ := (h3 x).1 hx
   by_cases e : i = k
   ·exact .inr (e ▸ hx)
   exact .inl ⟨i, e, hx⟩
  rcases hx with ⟨i, _, hx⟩ | hx
  ·exact (h3 x).2 ⟨i, hx⟩
  exact (h3 x).2 ⟨k, hx⟩
theorem Sat.o6 {j : Nat} {idx : List Nat} {q : HP} (h : Sat β l w) (hp : l[i]? = some (.abs (ak R))) (hq : l[j]? = some q) (Qp : ∀ F w, q.h F w → a.h F w) (hn : nodupB (i :: j :: idx) = true) (hl : bM l idx = some l') (k : Nat) (hR : ∀ x, x ≠ k → R' x = R x) (ha : R' k = a) : Sat β (.abs (ak R') :: l') w := by
  refine h.Kf hp hq hn hl ?_
  rintro F1 F2 ⟨φ, h1, h2, h3⟩ hF hap
  refine ⟨fun x => (∃ i, i ≠ k ∧ φ i x) ∨ F2 x, ⟨fun i => if i = k then F2 else φ i, fun i => ?_, fun i j hne x hx hy => ?_, fun x => ⟨fun hx => ?_, fun ⟨i, hx⟩ => ?_⟩⟩, fun x hx => hx.imp (fun ⟨i, _, hx⟩ => (h3 x).2 ⟨i, hx⟩) id⟩
  ·by_cases e : i = k
   ·subst e; simp only [if_true]; rw [ha]; exact Qp _ _ hF
   simp only [e, if_false]; rw [hR i e]; exact h1 i
  ·by_cases e1 : i = k
   ·by_cases e2 : j = k
    ·exact hne (e1.trans e2.symm)
    simp only [e1, if_true] at hx
    simp only [e2, if_false] at hy
    exact hap x ((h3 x).2 ⟨j, hy⟩) hx
   simp only [e1, if_false] at hx
   by_cases e2 : j = k
   ·simp only [e2, if_true] at hy
    exact hap x ((h3 x).2 ⟨i, hx⟩) hy
   simp only [e2, if_false] at hy
   exact h2 i j hne x hx hy
  ·rcases hx with ⟨i, hne, hx⟩ | hx
   ·exact ⟨i, by simpa [hne] using hx⟩
   exact ⟨k, by simpa using hx⟩
  by_cases e : i = k
  ·exact .inr (by simpa [e] using hx)
  exact .inl ⟨i, e, by simpa [e] using hx⟩
end Gq
end
section
open Go.RowKit Go.Maps
theorem wK : Keyed Tryz.prog 9 := string_keyed Tryz.underlying9
theorem zx {p : ByteArray} (h : p.size ≤ 9223372036854775807) : keyOf Tryz.prog 9 (.string p) = some (.string p.data.toList) := WideMaps.keyOf_string_mk Tryz.underlying9 (by unfold maxLen; omega)
def mS (g : ByteArray → Option Value) : Lit → Option Value
  | .string l => g ⟨l.toArray⟩
  | _ => none
theorem NY (g : ByteArray → Option Value) (p : ByteArray) : mS g (.string p.data.toList) = g p := by
  show g ⟨p.data.toList.toArray⟩ = g p
  rw [Array.toArray_toList]
theorem Gs (g : ByteArray → Option Value) (p : ByteArray) (v : Option Value) : iD (mS g) (.string p.data.toList) v = mS (fun q => if q = p then v else g q) := by
  funext x
  unfold iD mS
  cases x with
  | string l =>
    by_cases e : l = p.data.toList
    ·subst e
     have e2 : (⟨p.data.toList.toArray⟩ : ByteArray) = p := by rw [Array.toArray_toList]
     simp [Lit.sameKey]
    have e2 : ¬ (⟨l.toArray⟩ : ByteArray) = p := fun h => e (by rw [← h])
    simp [Lit.sameKey, e, e2]
  | _ => rfl
theorem KZ : mS (fun _ => none) = fun _ => none := by
  funext x
  unfold mS
  split <;> rfl
end
section
open Go.RowKit Go.Maps
def wL (b : Nat) (cs : List Value) (T : TypeId) : bT where
  h F w := (HP.blk b cs T).h F w
  lt := fun h => HP.lt h
  st := fun h _ _ hk hd => HP.st h hk hd
structure HL where
  b : Nat → Nat
  m : Nat → Nat
  dA : Nat → Option Addr
  dC : Nat → Nat
def HL.data (L : HL) (k : Nat) (A : Option Addr) (c : Nat) : HL := ⟨L.b, L.m, fun i => if i = k then A else L.dA i, fun i => if i = k then c else L.dC i⟩
def HL.put (L : HL) (k b m : Nat) (A : Option Addr) (c : Nat) : HL := ⟨fun i => if i = k then b else L.b i, fun i => if i = k then m else L.m i, fun i => if i = k then A else L.dA i, fun i => if i = k then c else L.dC i⟩
def OG (kind : Int) : TypeId := if kind = 1 then 89 else if kind = 3 then 93 else 96
def kX (kind : Int) : TypeId := if kind = 1 then 92 else if kind = 3 then 95 else 99
def cO (L : HL) (t : Th) : Value := .iface (OG t.kind) (.pointer (some ⟨L.b t.k, 0, none⟩))
def qK (L : HL) : Option Nat → Value
  | none => .pointer none
  | some d => .pointer (some ⟨L.b d, 0, none⟩)
def vn (o : aM) : List Value := [.int .i64 o.id, .int .i64 o.mode, .int .i64 o.uid, .int .i64 o.gid, .int .i64 o.sec, .int .i64 o.nano, .int .i64 o.links, .int .i64 o.opens, .bool o.gone]
def vo (L : HL) (k : Nat) (o : aM) : List Value := if o.kind = 1 then [.slice (L.dA k) o.data.length (L.dC k)] else if o.kind = 3 then [.string o.target] else [.map (some (L.m k)), qK L o.up]
def eW (L : HL) (k : Nat) (o : aM) : List Value := vn o ++ vo L k o
def fX (L : HL) (es : dU Th) : Lit → Option Value := mS (fun p => (aQ p es).map (cO L))
def aN (O : bK) (L : HL) (k : Nat) : bT := if (obj O k).kind = 0 then bT.none else wL (L.b k) (eW L k (obj O k)) (kX (obj O k).kind)
def aY (O : bK) (L : HL) (k : Nat) : bT := if (obj O k).kind = 1 then aI 5 1 (L.dA k) (obj O k).data.length (L.dC k) (bL (obj O k).data) else bT.none
def bh (O : bK) (L : HL) (k : Nat) : bT := if (obj O k).kind = 2 then aE Tryz.prog 9 (L.m k) (fX L (obj O k).ah) (obj O k).ah.length else bT.none
section sat
variable {β : Bs} {l : List HP} {w : World} {i b : Nat} {cs : List Value} {T : TypeId} {p p' : HP}
theorem Sat.same (h : Sat β l w) (hp : l[i]? = some p) (e : ∀ F w, p.h F w → p'.h F w) : Sat β (l.set i p') w := by
  obtain ⟨ho, φ, h1, h2, h3⟩ := h
  have hl : (l.set i p').length = l.length := List.length_set ..
  refine ⟨ho, φ, fun j q hq => ?_, fun j hj => h2 j (by omega), fun j k hj hk => h3 j k (by omega) (by omega)⟩
  by_cases hji : i = j
  ·subst hji
   rw [List.getElem?_set_self (bw hp)] at hq
   cases hq
   exact e _ _ (h1 _ p hp)
  rw [List.getElem?_set_ne hji] at hq
  exact h1 j q hq
end sat
section cells
variable {O : bK} {L : HL} {k j : Nat} {v : Value}
theorem jP (h : (obj O k).kind ≠ 0) : aN O L k = wL (L.b k) (eW L k (obj O k)) (kX (obj O k).kind) := if_neg h
theorem bp (hk : (obj O k).kind ≠ 0) (hv : (eW L k (obj O k))[j]? = some v) : ∀ F w, (ak (aN O L)).h F w → w.cell? ⟨L.b k, j, none⟩ = some v := by
  intro F w h
  obtain ⟨G, g⟩ := ak.at k h
  rw [jP hk] at g
  obtain ⟨g, _⟩ := g
  exact (eP g rfl rfl hv).1
theorem p8 (h : (obj O k).kind = 1) : aY O L k = aI 5 1 (L.dA k) (obj O k).data.length (L.dC k) (bL (obj O k).data) := if_pos h
theorem mz (h : (obj O k).kind = 2) : bh O L k = aE Tryz.prog 9 (L.m k) (fX L (obj O k).ah) (obj O k).ah.length := if_pos h
theorem pP (es : dU Th) (p : ByteArray) : fX L es (.string p.data.toList) = (aQ p es).map (cO L) := NY _ _
theorem IK {es : dU Th} {p : ByteArray} {t : Th} (hn : aQ p es = none) : iD (fX L es) (.string p.data.toList) (some (cO L t)) = fX L (eF p t es) := by
  unfold fX
  rw [Gs]
  congr 1
  funext q
  rw [t7 hn]
  by_cases h : q = p
  ·rw [if_pos h, if_pos h]; rfl
  rw [if_neg h, if_neg h]
theorem IL {es : dU Th} {p : ByteArray} : iD (fX L es) (.string p.data.toList) none = fX L (eG p es) := by
  unfold fX
  rw [Gs]
  congr 1
  funext q
  rw [oh]
  by_cases h : q = p
  ·rw [if_pos h, if_pos h]; rfl
  rw [if_neg h, if_neg h]
theorem IQ : fX L [] = fun _ => none := KZ
end cells
section Gq
variable {O : bK} {L : HL} {k : Nat} {f : aM → aM}
theorem rQ : aN (ay O k f) L k = if (f (obj O k)).kind = 0 then bT.none else wL (L.b k) (eW L k (f (obj O k))) (kX (f (obj O k)).kind) := by
  unfold aN; rw [bG]
theorem rR {x : Nat} (h : x ≠ k) : aN (ay O k f) L x = aN O L x := by unfold aN; rw [bQ h]
theorem kQ (h : (f (obj O k)).data = (obj O k).data) (h2 : (f (obj O k)).kind = (obj O k).kind) : aY (ay O k f) L = aY O L := by
  funext x
  unfold aY
  by_cases e : x = k
  ·subst e; rw [bG, h, h2]
  rw [bQ e]
theorem kR (h : (f (obj O k)).ah = (obj O k).ah) (h2 : (f (obj O k)).kind = (obj O k).kind) : bh (ay O k f) L = bh O L := by
  funext x
  unfold bh
  by_cases e : x = k
  ·subst e; rw [bG, h, h2]
  rw [bQ e]
theorem ud {x : Nat} (h : x ≠ k) : bh (ay O k f) L x = bh O L x := by unfold bh; rw [bQ h]
theorem uf {x : Nat} (h : x ≠ k) : aY (ay O k f) L x = aY O L x := by unfold aY; rw [bQ h]
end Gq
end
section
open Go.RowKit Go.Maps
section kinds
variable {O : bK} {L : HL} {k j : Nat} {f : aM → aM} {o : aM}
theorem iH (hf : ∀ o, (f o).kind = o.kind) : (obj (ay O j f) k).kind = (obj O k).kind := by
  rw [jh]; split
  ·exact hf _
  rfl
theorem cI {α : Type} {g : aM → α} (hf : ∀ o, g (f o) = g o) : g (obj (ay O j f) k) = g (obj O k) := by
  rw [jh]; split
  ·exact hf _
  rfl
theorem eH (h : o.kind = 1) : eW L k o = [.int .i64 o.id, .int .i64 o.mode, .int .i64 o.uid, .int .i64 o.gid, .int .i64 o.sec, .int .i64 o.nano, .int .i64 o.links, .int .i64 o.opens, .bool o.gone, .slice (L.dA k) o.data.length (L.dC k)] := by
  unfold eW vo; rw [if_pos h]; rfl
theorem ug (h : o.kind = 3) : eW L k o = [.int .i64 o.id, .int .i64 o.mode, .int .i64 o.uid, .int .i64 o.gid, .int .i64 o.sec, .int .i64 o.nano, .int .i64 o.links, .int .i64 o.opens, .bool o.gone, .string o.target] := by
  unfold eW vo; rw [if_neg (by rw [h]; decide), if_pos h]; rfl
theorem gV (h : o.kind = 2) : eW L k o = [.int .i64 o.id, .int .i64 o.mode, .int .i64 o.uid, .int .i64 o.gid, .int .i64 o.sec, .int .i64 o.nano, .int .i64 o.links, .int .i64 o.opens, .bool o.gone, .map (some (L.m k)), qK L o.up] := by
  unfold eW vo; rw [if_neg (by rw [h]; decide), if_neg (by rw [h]; decide)]; rfl
theorem Cs {es : aM → dU Th} : aN (ay O k (fun o => { o with ah := es o })) L = aN O L := by
  funext x
  unfold aN
  by_cases e : x = k
  ·subst e; rw [bG]; rfl
  rw [bQ e]
def kY (O : bK) (d : Nat) (name : ByteArray) (t : Th) : bK :=
  let O1 := ay O d (fun o => { o with ah := eF name t o.ah })
  let O2 := ay O1 t.k (fun o => { o with links := o.links + 1 })
  if t.kind = 2 then ay O2 t.k (fun o => { o with up := some d }) else O2
theorem wM {α : Type} {g : aM → α} {d : Nat} {name : ByteArray} {t : Th} (h1 : ∀ o es, g { o with ah := es } = g o) (h2 : ∀ o l, g { o with links := l } = g o) (h3 : ∀ o u, g { o with up := u } = g o) : g (obj (kY O d name t) k) = g (obj O k) := by
  unfold kY
  simp only
  split
  ·rw [cI (fun o => h3 o _), cI (fun o => h2 o _), cI (fun o => h1 o _)]
  rw [cI (fun o => h2 o _), cI (fun o => h1 o _)]
theorem uh {d : Nat} {name : ByteArray} {t : Th} : (obj (kY O d name t) k).kind = (obj O k).kind := wM (g := aM.kind) (fun _ _ => rfl) (fun _ _ => rfl) (fun _ _ => rfl)
structure FM where
  cN : Int
  cB : Int
  cH : Int
  cS : Int
  cZ : Int
  last : Int
  ah : Int
  used : Int
def mV (X : FM) (O : bK) (d : Nat) : bK := ay O d (fun o => { o with sec := X.cS, nano := X.cZ })
def bq (X : FM) (O : bK) (d : Nat) (name : ByteArray) (t : Th) : bK := mV X (kY O d name t) d
def aJ (X : FM) (O : bK) (d : Nat) (name : ByteArray) (t : Th) : bK := ay (mV X (ay O d (fun o => { o with ah := eG name o.ah })) d) t.k (fun o => { o with links := o.links - 1 })
theorem bY {X : FM} {d : Nat} {name : ByteArray} {t : Th} : (obj (aJ X O d name t) k).kind = (obj O k).kind := by
  unfold aJ mV
  exact (iH (f := fun o => { o with links := o.links - 1 }) (fun _ => rfl)).trans ((iH (f := fun o => { o with sec := X.cS, nano := X.cZ }) (fun _ => rfl)).trans (iH (f := fun o => { o with ah := eG name o.ah }) (fun _ => rfl)))
theorem DF {X : FM} {d : Nat} {name : ByteArray} {t : Th} : (obj (bq X O d name t) k).kind = (obj O k).kind := by
  unfold bq mV
  exact (iH (f := fun o => { o with sec := X.cS, nano := X.cZ }) (fun _ => rfl)).trans uh
end kinds
section sat
variable {β : Bs} {l l' : List HP} {w : World} {i j k : Nat} {O : bK} {L : HL} {f : aM → aM} {cs : List Value} {T : TypeId} {idx : List Nat}
theorem Sat.uj (h : Sat β l w) (hp : l[i]? = some (.abs (ak (aN O L)))) (h0 : (obj O k).kind ≠ 0) (hc : eW L k (obj O k) = cs) (hT : kX (obj O k).kind = T) : Sat β (l.set i (.abs (ak (iO (aN O L) k bT.none))) ++ [.blk (L.b k) cs T]) w := by
  have h1 := h.Cr hp k
  have hlen : (l.set i (HP.abs (ak (iO (aN O L) k bT.none)))).length = l.length := List.length_set ..
  have h2 := Sat.same (i := l.length) (p := .abs (aN O L k)) (p' := .blk (L.b k) cs T) h1 (by rw [List.getElem?_append_right (by omega), hlen, Nat.sub_self]; rfl) (fun F w h => by
    have h3 : (aN O L k).h F w := h
    rw [jP h0] at h3
    have h3 : (wL (L.b k) (eW L k (obj O k)) (kX (obj O k).kind)).h F w := h3
    rw [hc, hT] at h3
    exact h3)
  have e : ∀ (a : List HP) (x y : HP), (a ++ [x]).set a.length y = a ++ [y] := fun a x y => by simp
  have h4 := e (l.set i (HP.abs (ak (iO (aN O L) k bT.none)))) (.abs (aN O L k)) (.blk (L.b k) cs T)
  rw [hlen] at h4
  rw [h4] at h2
  exact h2
theorem Sat.vr {R : Nat → bT} (h : Sat β l w) (hp : l[i]? = some (.abs (ak R))) (hR : ∀ x, x ≠ k → R x = aN O L x) (hq : l[j]? = some (.blk (L.b k) cs T)) (hd : nodupB (i :: j :: idx) = true) (hl : bM l idx = some l') (h0 : (f (obj O k)).kind ≠ 0) (hc : eW L k (f (obj O k)) = cs) (hT : kX (f (obj O k)).kind = T) : Sat β (.abs (ak (aN (ay O k f) L)) :: l') w := by
  refine h.o6 (a := wL (L.b k) cs T) hp hq (fun _ _ h => h) hd hl k (fun x hx => ?_) (by rw [rQ, if_neg h0, hc, hT])
  rw [rR hx, hR x hx]
theorem mA {R : Nat → bT} {a : bT} {x : Nat} (h : x ≠ k) : iO R k a x = R x := if_neg h
theorem Sat.LZ (h : Sat β l w) (hp : l[i]? = some (.abs (ak (bh O L)))) (hd : (obj O k).kind = 2) : Sat β (l.set i (.abs (ak (iO (bh O L) k bT.none))) ++ [.abs (aE Tryz.prog 9 (L.m k) (fX L (obj O k).ah) (obj O k).ah.length)]) w := by
  have h1 := h.Cr hp k
  rw [mz hd] at h1
  exact h1
theorem Sat.L5 (h : Sat β l w) (hp : l[i]? = some (.abs (ak (iO (bh O L) k bT.none)))) (hq : l[j]? = some (.abs (aE Tryz.prog 9 (L.m k) (fX L (obj O k).ah) (obj O k).ah.length))) (hd : nodupB (i :: j :: idx) = true) (hl : bM l idx = some l') (h2 : (obj O k).kind = 2) : Sat β (.abs (ak (bh O L)) :: l') w :=
  h.o6 hp hq (fun _ _ h => h) hd hl k (fun _ hx => (mA hx).symm) (mz h2)
theorem Sat.Gt (h : Sat β l w) (hp : l[i]? = some (.abs (ak (aY O L)))) (hd : (obj O k).kind = 1) : Sat β (l.set i (.abs (ak (iO (aY O L) k bT.none))) ++ [.abs (aI 5 1 (L.dA k) (obj O k).data.length (L.dC k) (bL (obj O k).data))]) w := by
  have h1 := h.Cr hp k
  rw [p8 hd] at h1
  exact h1
end sat
end
end Go.Proofs.YtkiedlmhocglhaaGreatDoor
section
namespace Go.Proofs
open Go.Shelf
def Tryz.keysI_ren : Go.Shelf.Ren := ⟨fun | 7 => 41 | 10 => 74 | n => n, fun | 23 => 80 | 26 => 3 | 3 => 84 | 28 => 107 | 0 => 0 | 27 => 106 | 33 => 159 | 4 => 4 | n => n, fun | n => n⟩
theorem Tryz.keysI : Go.Proofs.SlLaysZI.n7 Tryz.prog Tryz.keysI_ren := {
  mixed := by kernel_rfl
  f7 := ⟨Tryz.f41.name, by decide, Tryz.func41.trans (congrArg some (by kernel_rfl))⟩
  f10 := ⟨Tryz.f74.name, by decide, Tryz.func74.trans (congrArg some (by kernel_rfl))⟩
  t0 := Tryz.underlying0
  a0 := Tryz.isAgg0
  z0 := Tryz.sizeOf0
  v0 := Tryz.zeroValue0
  t4 := Tryz.underlying4
  a4 := Tryz.isAgg4
  z4 := Tryz.sizeOf4
  v4 := Tryz.zeroValue4
  t23 := Tryz.underlying80
  a23 := Tryz.isAgg80
  z23 := Tryz.sizeOf80
  v23 := Tryz.zeroValue80
  t26 := Tryz.underlying3
  a26 := Tryz.isAgg3
  z26 := Tryz.sizeOf3
  v26 := Tryz.zeroValue3
  t27 := Tryz.underlying106
  a27 := Tryz.isAgg106
  z27 := Tryz.sizeOf106
  v27 := Tryz.zeroValue106
  t28 := Tryz.underlying107
  a28 := Tryz.isAgg107
  z28 := Tryz.sizeOf107
  v28 := Tryz.zeroValue107
  t33 := Tryz.underlying159
  a33 := Tryz.isAgg159
  z33 := Tryz.sizeOf159
  v33 := Tryz.zeroValue159 }
def Tryz.sortedI_ren : Go.Shelf.Ren := ⟨fun | 6 => 40 | 8 => 72 | 9 => 73 | 11 => 127 | 13 => 129 | 12 => 128 | 23 => 164 | 24 => 165 | 14 => 155 | 15 => 156 | 16 => 157 | 17 => 158 | 18 => 159 | 19 => 160 | 20 => 161 | 21 => 162 | 22 => 163 | 25 => 182 | 26 => 183 | 27 => 184 | 28 => 185 | 29 => 186 | 30 => 187 | 31 => 199 | n => n, fun | 26 => 3 | 28 => 107 | 24 => 52 | 0 => 0 | 3 => 3 | 37 => 195 | 48 => 224 | 50 => 226 | 4 => 4 | 40 => 218 | 39 => 217 | 45 => 213 | 5 => 5 | 9 => 9 | 51 => 236 | 55 => 240 | 57 => 252 | 58 => 253 | 33 => 159 | n => n, fun | n => n⟩
theorem Tryz.sortedI : Go.Proofs.SlLaysZI.n6 Tryz.prog Tryz.sortedI_ren := {
  mixed := by kernel_rfl
  f6 := ⟨Tryz.f40.name, by decide, Tryz.func40.trans (congrArg some (by kernel_rfl))⟩
  f8 := ⟨Tryz.f72.name, by decide, Tryz.func72.trans (congrArg some (by kernel_rfl))⟩
  f11 := ⟨Tryz.f127.name, by decide, Tryz.func127.trans (congrArg some (by kernel_rfl))⟩
  t0 := Tryz.underlying0
  a0 := Tryz.isAgg0
  z0 := Tryz.sizeOf0
  v0 := Tryz.zeroValue0
  t24 := Tryz.underlying52
  a24 := Tryz.isAgg52
  z24 := Tryz.sizeOf52
  v24 := Tryz.zeroValue52
  t26 := Tryz.underlying3
  a26 := Tryz.isAgg3
  z26 := Tryz.sizeOf3
  v26 := Tryz.zeroValue3
  t28 := Tryz.underlying107
  a28 := Tryz.isAgg107
  z28 := Tryz.sizeOf107
  v28 := Tryz.zeroValue107
  i26 := by kernel_rfl }
def Tryz.sortI_ren : Go.Shelf.Ren := ⟨fun | 5 => 73 | 8 => 129 | 7 => 128 | 19 => 164 | 20 => 165 | 10 => 155 | 11 => 156 | 12 => 157 | 13 => 158 | 14 => 159 | 15 => 160 | 16 => 161 | 17 => 162 | 18 => 163 | 30 => 182 | 31 => 183 | 32 => 184 | 33 => 185 | 34 => 186 | 35 => 187 | 40 => 199 | n => n, fun | 23 => 52 | 25 => 3 | 3 => 3 | 32 => 195 | 22 => 52 | 0 => 0 | 44 => 224 | 46 => 226 | 4 => 4 | 36 => 218 | 35 => 217 | 41 => 213 | 5 => 5 | 9 => 9 | 53 => 236 | 57 => 240 | 63 => 252 | 64 => 253 | n => n, fun | n => n⟩
theorem Tryz.sortI : Go.Proofs.SlLaysM.n5 Tryz.prog Tryz.sortI_ren := {
  mixed := by kernel_rfl
  f5 := ⟨Tryz.f73.name, by decide, Tryz.func73.trans (congrArg some (by kernel_rfl))⟩
  f7 := ⟨Tryz.f128.name, by decide, Tryz.func128.trans (congrArg some (by kernel_rfl))⟩
  f8 := Tryz.func129.trans (congrArg some (by kernel_rfl))
  f10 := ⟨Tryz.f155.name, by decide, Tryz.func155.trans (congrArg some (by kernel_rfl))⟩
  f11 := ⟨Tryz.f156.name, by decide, Tryz.func156.trans (congrArg some (by kernel_rfl))⟩
  f12 := ⟨Tryz.f157.name, by decide, Tryz.func157.trans (congrArg some (by kernel_rfl))⟩
  f13 := ⟨Tryz.f158.name, by decide, Tryz.func158.trans (congrArg some (by kernel_rfl))⟩
  f14 := ⟨Tryz.f159.name, by decide, Tryz.func159.trans (congrArg some (by kernel_rfl))⟩
  f15 := ⟨Tryz.f160.name, by decide, Tryz.func160.trans (congrArg some (by kernel_rfl))⟩
  f16 := ⟨Tryz.f161.name, by decide, Tryz.func161.trans (congrArg some (by kernel_rfl))⟩
  f17 := ⟨Tryz.f162.name, by decide, Tryz.func162.trans (congrArg some (by kernel_rfl))⟩
  f18 := ⟨Tryz.f163.name, by decide, Tryz.func163.trans (congrArg some (by kernel_rfl))⟩
  f19 := Tryz.func164.trans (congrArg some (by kernel_rfl))
  f20 := Tryz.func165.trans (congrArg some (by kernel_rfl))
  f30 := ⟨Tryz.f182.name, by decide, Tryz.func182.trans (congrArg some (by kernel_rfl))⟩
  f31 := Tryz.func183.trans (congrArg some (by kernel_rfl))
  f32 := Tryz.func184.trans (congrArg some (by kernel_rfl))
  f33 := ⟨Tryz.f185.name, by decide, Tryz.func185.trans (congrArg some (by kernel_rfl))⟩
  f34 := ⟨Tryz.f186.name, by decide, Tryz.func186.trans (congrArg some (by kernel_rfl))⟩
  f35 := ⟨Tryz.f187.name, by decide, Tryz.func187.trans (congrArg some (by kernel_rfl))⟩
  f40 := ⟨Tryz.f199.name, by decide, Tryz.func199.trans (congrArg some (by kernel_rfl))⟩
  t0 := Tryz.underlying0
  a0 := Tryz.isAgg0
  z0 := Tryz.sizeOf0
  v0 := Tryz.zeroValue0
  t3 := Tryz.underlying3
  a3 := Tryz.isAgg3
  z3 := Tryz.sizeOf3
  v3 := Tryz.zeroValue3
  t4 := Tryz.underlying4
  a4 := Tryz.isAgg4
  z4 := Tryz.sizeOf4
  v4 := Tryz.zeroValue4
  t5 := Tryz.underlying5
  a5 := Tryz.isAgg5
  z5 := Tryz.sizeOf5
  v5 := Tryz.zeroValue5
  t9 := Tryz.underlying9
  a9 := Tryz.isAgg9
  z9 := Tryz.sizeOf9
  v9 := Tryz.zeroValue9
  t22 := Tryz.underlying52
  a22 := Tryz.isAgg52
  z22 := Tryz.sizeOf52
  v22 := Tryz.zeroValue52
  t23 := Tryz.underlying52
  a23 := Tryz.isAgg52
  z23 := Tryz.sizeOf52
  v23 := Tryz.zeroValue52
  t25 := Tryz.underlying3
  a25 := Tryz.isAgg3
  z25 := Tryz.sizeOf3
  v25 := Tryz.zeroValue3
  t32 := Tryz.underlying195
  a32 := Tryz.isAgg195
  z32 := Tryz.sizeOf195
  v32 := Tryz.zeroValue195
  t35 := Tryz.underlying217
  a35 := Tryz.isAgg217
  z35 := Tryz.sizeOf217
  v35 := Tryz.zeroValue217
  t36 := Tryz.underlying218
  a36 := Tryz.isAgg218
  z36 := Tryz.sizeOf218
  v36 := Tryz.zeroValue218
  t41 := Tryz.underlying213
  a41 := Tryz.isAgg213
  z41 := Tryz.sizeOf213
  v41 := Tryz.zeroValue213
  t44 := Tryz.underlying224
  a44 := Tryz.isAgg224
  z44 := Tryz.sizeOf224
  v44 := Tryz.zeroValue224
  t46 := Tryz.underlying226
  a46 := Tryz.isAgg226
  z46 := Tryz.sizeOf226
  v46 := Tryz.zeroValue226
  t53 := Tryz.underlying236
  a53 := Tryz.isAgg236
  z53 := Tryz.sizeOf236
  v53 := Tryz.zeroValue236
  t57 := Tryz.underlying240
  a57 := Tryz.isAgg240
  z57 := Tryz.sizeOf240
  v57 := Tryz.zeroValue240
  t63 := Tryz.underlying252
  a63 := Tryz.isAgg252
  z63 := Tryz.sizeOf252
  v63 := Tryz.zeroValue252
  t64 := Tryz.underlying253
  a64 := Tryz.isAgg253
  z64 := Tryz.sizeOf253
  v64 := Tryz.zeroValue253 }
end Go.Proofs
end
namespace Go.Proofs.YtkiedlmhocglhaaGreatDoor
section
open Go.RowKit
theorem NZ (a : Addr) (v : Value) (w : World) (h : w.cell? a = some v) : (Go.method 380 234 (.pointer (some a)) "Len").run Tryz.prog w = .ok (227, v) w := by
  have e : (Go.method 380 234 (.pointer (some a)) "Len").run Tryz.prog w = ((loadVar 154 a) >>= fun v => pure (227, v) : Sem (FuncId × Value)).run Tryz.prog w := by kernel_rfl
  rw [e]
  simp [loadVar, isAgg, underlying, Tryz.underlying154, h, Result.andThen]
theorem L6 (a : Addr) (v : Value) (w : World) (h : w.cell? a = some v) : (Go.method 380 234 (.pointer (some a)) "Less").run Tryz.prog w = .ok (228, v) w := by
  have e : (Go.method 380 234 (.pointer (some a)) "Less").run Tryz.prog w = ((loadVar 154 a) >>= fun v => pure (228, v) : Sem (FuncId × Value)).run Tryz.prog w := by kernel_rfl
  rw [e]
  simp [loadVar, isAgg, underlying, Tryz.underlying154, h, Result.andThen]
theorem L7 (a : Addr) (v : Value) (w : World) (h : w.cell? a = some v) : (Go.method 380 234 (.pointer (some a)) "Swap").run Tryz.prog w = .ok (229, v) w := by
  have e : (Go.method 380 234 (.pointer (some a)) "Swap").run Tryz.prog w = ((loadVar 154 a) >>= fun v => pure (229, v) : Sem (FuncId × Value)).run Tryz.prog w := by kernel_rfl
  rw [e]
  simp [loadVar, isAgg, underlying, Tryz.underlying154, h, Result.andThen]
theorem L8 (a : Addr) (w : World) : (Go.method 380 234 (.pointer (some a)) "Push").run Tryz.prog w = .ok (231, .pointer (some a)) w := by kernel_rfl
theorem N0 (a : Addr) (w : World) : (Go.method 380 234 (.pointer (some a)) "Pop").run Tryz.prog w = .ok (230, .pointer (some a)) w := by kernel_rfl
theorem Kg (a : Addr) (w : World) : (Go.nilAhead 380 234 (.pointer (some a)) "Len").run Tryz.prog w = .ok (some false) w := by kernel_rfl
theorem Gu (a : Addr) (w : World) : (Go.nilAhead 380 234 (.pointer (some a)) "Less").run Tryz.prog w = .ok (some false) w := by kernel_rfl
theorem Ct (a : Addr) (w : World) : (Go.nilAhead 380 234 (.pointer (some a)) "Swap").run Tryz.prog w = .ok (some false) w := by kernel_rfl
theorem L9 (a : Addr) (w : World) : (Go.nilAhead 380 234 (.pointer (some a)) "Push").run Tryz.prog w = .ok (some false) w := by kernel_rfl
theorem N7 (a : Addr) (w : World) : (Go.nilAhead 380 234 (.pointer (some a)) "Pop").run Tryz.prog w = .ok (some false) w := by kernel_rfl
theorem Cu (A : Option Addr) (n c : Nat) (w : World) :
    Calls Tryz.prog 227 #[.slice A n c] w fun e w' => e = .returned (.int .i64 n) ∧ w' = w := by
  go_enter Tryz.func227, Tryz.ntmps227
  go_wp2
  go_ret
  exact ⟨rfl, rfl⟩
theorem Gv (g n c i j : Nat) (x y : Int) (w : World) (hi : i < n) (hj : j < n) (ci : w.cell? ⟨g, i, none⟩ = some (.int .i64 x)) (cj : w.cell? ⟨g, j, none⟩ = some (.int .i64 y)) :
    Calls Tryz.prog 228 #[.slice (some ⟨g, 0, none⟩) n c, .int .i64 i, .int .i64 j] w fun e w' => e = .returned (.bool (decide (x < y))) ∧ ∃ m, w' = w.drewN m := by
  have hi' : (i : Int) < (n : Int) := by omega
  have hj' : (j : Int) < (n : Int) := by omega
  go_enter Tryz.func228, Tryz.ntmps228
  go_wp2_with fail
  go_quiet (fail)
  go_wp2_with fail
  go_ret
  exact ⟨rfl, _, rfl⟩
theorem Gw (g n c i j : Nat) (x y : Int) (w : World) (hi : i < n) (hj : j < n) (hij : i ≠ j) (ci : w.cell? ⟨g, i, none⟩ = some (.int .i64 x)) (cj : w.cell? ⟨g, j, none⟩ = some (.int .i64 y))
    (fi : w.frozen? ⟨g, i, none⟩ = false) (fj : w.frozen? ⟨g, j, none⟩ = false) :
    Calls Tryz.prog 229 #[.slice (some ⟨g, 0, none⟩) n c, .int .i64 i, .int .i64 j] w fun e w' => e = .returned (.tuple #[]) ∧ ∃ m, w' = ((w.setCell ⟨g, i, none⟩ (.int .i64 y)).setCell ⟨g, j, none⟩ (.int .i64 x)).drewN m := by
  have hi' : (i : Int) < (n : Int) := by omega
  have hj' : (j : Int) < (n : Int) := by omega
  go_enter Tryz.func229, Tryz.ntmps229
  go_wp2_with fail
  go_region
  go_end0
  exact ⟨rfl, 1, rfl⟩
theorem IU : (Tryz.prog.info? 3).map (fun i => (i.zero, i.size, i.bytes)) = some (some (.int .i64 0), 1, 8) := by kernel_rfl
theorem IV (t o g n c : Nat) (x : Int) (w : World) (hc : n + 1 ≤ c) (ht : w.cell? ⟨t, o, none⟩ = some (.slice (some ⟨g, 0, none⟩) (n + 1) c)) (hf : w.frozen? ⟨t, o, none⟩ = false)
    (hx : w.cell? ⟨g, n, none⟩ = some (.int .i64 x)) (hm : n + 1 ≤ 1048576) :
    Calls Tryz.prog 230 #[.pointer (some ⟨t, o, none⟩)] w fun e w' => e = .returned (.iface 3 (.int .i64 x)) ∧ w' = w.setCell ⟨t, o, none⟩ (.slice (some ⟨g, 0, none⟩) n c) := by
  go_enter Tryz.func230, Tryz.ntmps230
  go_wp2_with fail
  go_ret
  exact ⟨rfl, rfl⟩
theorem ER (x : Int) (w : World) : (Instr.typeAssert (.iface 3 (.int .i64 x)) 20 3 false).run Tryz.prog w = .ok (.int .i64 x) w := by kernel_rfl
theorem DG (x : Int) : ∀ u ∈ [Value.int .i64 x], u.oneCell' = true := by intro u hu; simp at hu; subst hu; rfl
theorem Gx {t o : Nat} {v : Value} {w w1 : World} {ob : Obj} (ht : w.cell? ⟨t, o, none⟩ = some v) (hlt : t < w.heap.size) {row : Option Nat} (hne : row ≠ some t) (hg : (w.alloc ob).drew.grownBy w1 row) : w1.cell? ⟨t, o, none⟩ = some v := by
  rw [hg.cell_far ⟨t, o, none⟩ (by show t < (w.alloc ob).heap.size; simp; omega) (fun e => hne e.symm)]
  exact (World.cell?_alloc_lt w ob ⟨t, o, none⟩ hlt).trans ht
theorem Gy {t o : Nat} {w w1 : World} {ob : Obj} (hf : w.frozen? ⟨t, o, none⟩ = false) (hlt : t < w.heap.size) {row : Option Nat} (hne : row ≠ some t) (hg : (w.alloc ob).drew.grownBy w1 row) : w1.frozen? ⟨t, o, none⟩ = false := by
  rw [hg.frozen_far ⟨t, o, none⟩ (by show t < (w.alloc ob).heap.size; simp; omega) (fun e => hne e.symm)]
  exact (World.frozen?_alloc_old w ob ⟨t, o, none⟩ (Nat.ne_of_lt hlt)).trans hf
theorem Gz (t o base n : Nat) (v : Value) (xs : List Value) (x : Int) (w : World) (ht : w.cell? ⟨t, o, none⟩ = some v) (hf : w.frozen? ⟨t, o, none⟩ = false)
    (hown : w.ownsRow base 3 1 v n xs) (hne : v.ownBlock ≠ some t) (hm : n + 1 ≤ 1048576) (hbase : base ≤ w.heap.size) :
    Calls Tryz.prog 231 #[.pointer (some ⟨t, o, none⟩), .iface 3 (.int .i64 x)] w fun e w' => e = .returned (.tuple #[]) ∧
      ∃ g cap w1, w1.ownsRow base 3 1 (.slice (some ⟨g, 0, none⟩) (n + 1) cap) (n + 1) (xs ++ [.int .i64 x]) ∧ w.grownBy w1 v.ownBlock ∧ (v.ownBlock = some g ∨ w.heap.size ≤ g) ∧
        w' = w1.setCell ⟨t, o, none⟩ (.slice (some ⟨g, 0, none⟩) (n + 1) cap) := by
  obtain ⟨i0, hi0, hz0, hz1, hz2⟩ := info_parts IU
  have hlt : t < w.heap.size := by
    rcases Nat.lt_or_ge t w.heap.size with h | h
    ·exact h
    simp [World.cell?, Array.getElem?_eq_none h] at ht
  have RL := ER
  go_enter Tryz.func231, Tryz.ntmps231
  go_wp2_with fail
  go_region_law (refine step_append_lies _ rfl (.tmp 7) (.tmp 10) 154 rfl base 3 i0 (.int .i64 0) 1 8 Tryz.underlying154 hi0 hz0 hz1 hz2 rfl (by decide) v n xs (by simp [Act.eval]) (hown.alloc _) ⟨w.heap.size, 0, none⟩ 1 1 [.int .i64 x] (by simp [Act.eval]) rfl (cell_one_new _ _ _) (DG x) (by decide) (by unfold maxLen; omega) (by omega) (by simp; omega) (w.heap.size + 1) (by simp) ?_; intro g cap w1 hown1 hg1 ES Rn; have c1 : w1.cell? ⟨t, o, none⟩ = some v := Gx ht hlt hne hg1; have f1 : w1.frozen? ⟨t, o, none⟩ = false := Gy hf hlt hne hg1)
  all_goals
    go_end0
    refine ⟨rfl, g, cap, w1, hown1, (World.grownBy_alloc w (.cells #[.int .i64 x] 3) _).trans ⟨hg1.os, hg1.tape, hg1.output, hg1.size, hg1.block⟩, ?_, rfl⟩
    rcases ES with h | h
    ·exact .inl h
    exact .inr (by omega)
end
end Go.Proofs.YtkiedlmhocglhaaGreatDoor
section
namespace Go.Proofs.YtkiedlmhocglhaaGreatDoor.HeapM
def at_ (l : List Int) (i : Nat) : Int := l.getD i 0
def swp (l : List Int) (i j : Nat) : List Int := (l.set i (at_ l j)).set j (at_ l i)
def Hp (n : Nat) (l : List Int) : Prop := ∀ i, 0 < i → i < n → at_ l ((i - 1) / 2) ≤ at_ l i
def ul (l : List Int) : Prop := ∀ a b, a < l.length → b < l.length → at_ l a = at_ l b → a = b
def zy (l : List Int) (j : Nat) : Prop :=
  (∀ i, 0 < i → i < l.length → i ≠ j → at_ l ((i - 1) / 2) ≤ at_ l i) ∧ (∀ i, 0 < i → i < l.length → (i - 1) / 2 = j → 0 < j → at_ l ((j - 1) / 2) ≤ at_ l i)
def rS (n : Nat) (l : List Int) (i : Nat) : Prop :=
  (∀ k, 0 < k → k < n → (k - 1) / 2 ≠ i → at_ l ((k - 1) / 2) ≤ at_ l k) ∧ (∀ k, 0 < k → k < n → (k - 1) / 2 = i → 0 < i → at_ l ((i - 1) / 2) ≤ at_ l k)
structure Same (l l' : List Int) : Prop where
  len : l'.length = l.length
  mem : ∀ x, x ∈ l' ↔ x ∈ l
  inj : ul l → ul l'
theorem qf {l : List Int} {x : Int} : x ∈ l ↔ ∃ k, k < l.length ∧ at_ l k = x := by
  rw [List.mem_iff_getElem]
  constructor
  ·rintro ⟨i, h, e⟩
   exact ⟨i, h, by simp [at_, List.getD_eq_getElem?_getD, h, e]⟩
  rintro ⟨i, h, e⟩
  exact ⟨i, h, by simpa [at_, List.getD_eq_getElem?_getD, h] using e⟩
theorem jv (l : List Int) (i j : Nat) : (swp l i j).length = l.length := by simp [swp]
def sw (i j k : Nat) : Nat := if k = j then i else if k = i then j else k
theorem gZ {l : List Int} {i j : Nat} (hi : i < l.length) (hj : j < l.length) (k : Nat) : at_ (swp l i j) k = at_ l (sw i j k) := by
  unfold swp at_ sw
  simp only [List.getD_eq_getElem?_getD, List.getElem?_set, List.length_set]
  by_cases h1 : j = k
  ·subst h1; simp [hj]
  by_cases h2 : i = k
  ·subst h2; simp [h1, hi, Ne.symm h1]
  simp [h1, h2, Ne.symm h1, Ne.symm h2]
theorem ET (i j k : Nat) : sw i j (sw i j k) = k := by unfold sw; (repeat' split) <;> omega
theorem BA {i j k n : Nat} (hi : i < n) (hj : j < n) (hk : k < n) : sw i j k < n := by unfold sw; (repeat' split) <;> omega
theorem Same.refl (l : List Int) : Same l l := ⟨rfl, fun _ => Iff.rfl, fun h => h⟩
theorem Same.trans {l l' l'' : List Int} (h : Same l l') (k : Same l' l'') : Same l l'' := ⟨k.len.trans h.len, fun x => (k.mem x).trans (h.mem x), fun i => k.inj (h.inj i)⟩
theorem Same.swp {l : List Int} {i j : Nat} (hi : i < l.length) (hj : j < l.length) : Same l (swp l i j) := by
  refine ⟨jv l i j, fun x => ?_, fun inj a b ha hb e => ?_⟩
  ·rw [qf, qf, jv]
   constructor
   ·rintro ⟨k, hk, e⟩
    exact ⟨sw i j k, BA hi hj hk, by rw [← gZ hi hj]; exact e⟩
   rintro ⟨k, hk, e⟩
   exact ⟨sw i j k, BA hi hj hk, by rw [gZ hi hj, ET]; exact e⟩
  rw [jv] at ha hb
  rw [gZ hi hj, gZ hi hj] at e
  have := inj _ _ (BA hi hj ha) (BA hi hj hb) e
  rw [← ET i j a, this, ET]
theorem GA {l : List Int} {j : Nat} (h : zy l j) (he : j = 0 ∨ at_ l ((j - 1) / 2) ≤ at_ l j) : Hp l.length l := by
  intro i h0 hi
  by_cases e : i = j
  ·subst e
   rcases he with he | he
   ·omega
   exact he
  exact h.1 i h0 hi e
theorem K1 {l : List Int} {j : Nat} (h : zy l j) (h0 : 0 < j) (hj : j < l.length) (hlt : at_ l j < at_ l ((j - 1) / 2)) : zy (swp l ((j - 1) / 2) j) ((j - 1) / 2) := by
  have hp : (j - 1) / 2 < l.length := by omega
  have hne : (j - 1) / 2 ≠ j := by omega
  refine ⟨fun i i0 il OI => ?_, fun i i0 il ip p0 => ?_⟩
  ·rw [jv] at il
   rw [gZ hp hj, gZ hp hj]
   by_cases e1 : i = j
   ·subst e1
    rw [show sw ((i - 1) / 2) i ((i - 1) / 2) = i by unfold sw; rw [if_neg hne, if_pos rfl], show sw ((i - 1) / 2) i i = (i - 1) / 2 by unfold sw; rw [if_pos rfl]]
    omega
   rw [show sw ((j - 1) / 2) j i = i by unfold sw; rw [if_neg e1, if_neg OI]]
   by_cases e2 : (i - 1) / 2 = j
   ·rw [show sw ((j - 1) / 2) j ((i - 1) / 2) = (j - 1) / 2 by unfold sw; rw [if_pos e2]]
    exact h.2 i i0 il e2 h0
   by_cases e3 : (i - 1) / 2 = (j - 1) / 2
   ·rw [show sw ((j - 1) / 2) j ((i - 1) / 2) = j by unfold sw; rw [if_neg e2, if_pos e3]]
    have := h.1 i i0 il e1
    rw [e3] at this
    omega
   rw [show sw ((j - 1) / 2) j ((i - 1) / 2) = (i - 1) / 2 by unfold sw; rw [if_neg e2, if_neg e3]]
   exact h.1 i i0 il e1
  rw [jv] at il
  rw [gZ hp hj, gZ hp hj]
  have a1 := h.1 ((j - 1) / 2) p0 hp hne
  rw [show sw ((j - 1) / 2) j (((j - 1) / 2 - 1) / 2) = ((j - 1) / 2 - 1) / 2 by unfold sw; rw [if_neg (by omega), if_neg (by omega)]]
  by_cases e1 : i = j
  ·subst e1
   rw [show sw ((i - 1) / 2) i i = (i - 1) / 2 by unfold sw; rw [if_pos rfl]]
   exact a1
  have a2 := h.1 i i0 il e1
  rw [show sw ((j - 1) / 2) j i = i by unfold sw; rw [if_neg e1, if_neg (by omega)]]
  rw [ip] at a2
  omega
theorem sN {n : Nat} {l : List Int} {i : Nat} (h : rS n l i) (h1 : 2 * i + 1 < n → at_ l i ≤ at_ l (2 * i + 1)) (h2 : 2 * i + 2 < n → at_ l i ≤ at_ l (2 * i + 2)) : Hp n l := by
  intro k k0 kn
  by_cases e : (k - 1) / 2 = i
  ·rw [e]
   rcases (show k = 2 * i + 1 ∨ k = 2 * i + 2 by omega) with e1 | e1
   ·rw [e1]; exact h1 (by omega)
   rw [e1]; exact h2 (by omega)
  exact h.1 k k0 kn e
theorem um {n : Nat} {l : List Int} {i j : Nat} (h : rS n l i) (hj : j = 2 * i + 1 ∨ j = 2 * i + 2) (hjn : j < n) (hn : n ≤ l.length)
    (h1 : at_ l j ≤ at_ l (2 * i + 1)) (h2 : 2 * i + 2 < n → at_ l j ≤ at_ l (2 * i + 2)) (hlt : at_ l j < at_ l i) : rS n (swp l i j) j := by
  have hi : i < l.length := by omega
  have hjl : j < l.length := by omega
  refine ⟨fun k k0 kn Ma => ?_, fun k k0 kn ke j0 => ?_⟩
  ·rw [gZ hi hjl, gZ hi hjl]
   by_cases e1 : (k - 1) / 2 = i
   ·rw [e1, show sw i j i = j by unfold sw; rw [if_neg (by omega), if_pos rfl]]
    by_cases e2 : k = j
    ·rw [e2, show sw i j j = i by unfold sw; rw [if_pos rfl]]; omega
    rw [show sw i j k = k by unfold sw; rw [if_neg e2, if_neg (by omega)]]
    rcases (show k = 2 * i + 1 ∨ k = 2 * i + 2 by omega) with e3 | e3
    ·rw [e3]; exact h1
    rw [e3]; exact h2 (by omega)
   rw [show sw i j ((k - 1) / 2) = (k - 1) / 2 by unfold sw; rw [if_neg Ma, if_neg e1]]
   by_cases e2 : k = i
   ·rw [e2, show sw i j i = j by unfold sw; rw [if_neg (by omega), if_pos rfl], ← e2]
    have hjk : (j - 1) / 2 = i := by omega
    rw [e2]
    exact h.2 j (by omega) hjn hjk (by omega)
   rw [show sw i j k = k by unfold sw; rw [if_neg (by omega), if_neg e2]]
   exact h.1 k k0 kn e1
  rw [gZ hi hjl, gZ hi hjl]
  rw [show (j - 1) / 2 = i by omega, show sw i j i = j by unfold sw; rw [if_neg (by omega), if_pos rfl], show sw i j k = k by unfold sw; rw [if_neg (by omega), if_neg (by omega)]]
  have := h.1 k k0 kn (by omega)
  rw [ke] at this
  exact this
theorem least {n : Nat} {l : List Int} (h : Hp n l) : ∀ k, k < n → at_ l 0 ≤ at_ l k := by
  intro k
  induction k using Nat.strongRecOn with
  | _ k ih =>
    intro hk
    rcases Nat.eq_zero_or_pos k with e | e
    ·rw [e]; omega
    have a1 := ih ((k - 1) / 2) (by omega) (by omega)
    have a2 := h k e hk
    omega
theorem EU {n : Nat} {l : List Int} (h : Hp (n + 1) l) (hl : l.length = n + 1) : rS n (swp l 0 n) 0 := by
  refine ⟨fun k k0 kn Ma => ?_, fun k _ _ _ h0 => by omega⟩
  rw [gZ (by omega) (by omega), gZ (by omega) (by omega)]
  rw [show sw 0 n ((k - 1) / 2) = (k - 1) / 2 by unfold sw; rw [if_neg (by omega), if_neg Ma], show sw 0 n k = k by unfold sw; rw [if_neg (by omega), if_neg (by omega)]]
  exact h k k0 (by omega)
theorem IW {l : List Int} (h : Hp l.length l) (x : Int) : zy (l ++ [x]) l.length := by
  have e : ∀ k, k < l.length → at_ (l ++ [x]) k = at_ l k := fun k hk => by
    unfold at_
    rw [List.getD_eq_getElem?_getD, List.getD_eq_getElem?_getD, List.getElem?_append_left hk]
  refine ⟨fun i i0 il OI => ?_, fun i i0 il ip => ?_⟩
  ·rw [List.length_append, List.length_singleton] at il
   rw [e _ (by omega), e _ (by omega)]
   exact h i i0 (by omega)
  rw [List.length_append, List.length_singleton] at il
  omega
theorem K2 {l : List Int} {n : Nat} (hl : l.length = n + 1) (hi : ul l) (x : Int) : x ∈ l.take n ↔ x ∈ l ∧ x ≠ at_ l n := by
  constructor
  ·intro h
   refine ⟨List.mem_of_mem_take h, ?_⟩
   rintro rfl
   obtain ⟨k, hk, e⟩ := List.mem_iff_getElem.1 h
   simp at hk e
   have := hi k n (by omega) (by omega) (by simp [at_, List.getD_eq_getElem?_getD, show k < l.length by omega, e])
   omega
  rintro ⟨h, hne⟩
  obtain ⟨k, hk, e⟩ := qf.1 h
  have : k ≠ n := by rintro rfl; exact hne e.symm
  refine List.mem_iff_getElem.2 ⟨k, by simp; omega, ?_⟩
  simp only [at_, List.getD_eq_getElem?_getD, hk, List.getElem?_eq_getElem, Option.getD_some] at e
  simpa using e
theorem vu {l : List Int} {n k : Nat} (hk : k < n) : at_ (l.take n) k = at_ l k := by simp [at_, List.getD_eq_getElem?_getD, hk]
theorem K3 {l : List Int} {n : Nat} (h : Hp n l) : Hp n (l.take n) := fun i i0 hi => by rw [vu hi, vu (by omega)]; exact h i i0 hi
theorem IX {l : List Int} {n : Nat} (h : ul l) : ul (l.take n) := fun a b ha hb e => by
  simp at ha hb
  rw [vu (by omega), vu (by omega)] at e
  exact h a b (by omega) (by omega) e
end Go.Proofs.YtkiedlmhocglhaaGreatDoor.HeapM
end
namespace Go.Proofs.YtkiedlmhocglhaaGreatDoor
section
open Go.RowKit HeapM
def ints (l : List Int) : List Value := l.map (Value.int .i64)
theorem lp (g n c a b : Nat) (i j : Int) (hi : i = (a : Int)) (hj : j = (b : Int)) (x y : Int) (w : World) (ha : a < n) (hb : b < n) (ci : w.cell? ⟨g, a, none⟩ = some (.int .i64 x)) (cj : w.cell? ⟨g, b, none⟩ = some (.int .i64 y)) :
    Calls Tryz.prog 228 #[.slice (some ⟨g, 0, none⟩) n c, .int .i64 i, .int .i64 j] w fun e w' => e = .returned (.bool (decide (x < y))) ∧ ∃ m, w' = w.drewN m := by
  subst hi hj; exact Gv g n c a b x y w ha hb ci cj
structure HW (t o g c base : Nat) (l : List Int) (w : World) : Prop where
  cell : w.cell? ⟨t, o, none⟩ = some (.slice (some ⟨g, 0, none⟩) l.length c)
  own : w.ownsRow base 3 1 (.slice (some ⟨g, 0, none⟩) l.length c) l.length (ints l)
  ne : t ≠ g
  lt : t < w.heap.size
theorem IY {l : List Int} {k : Nat} (hk : k < l.length) : (ints l)[k]? = some (.int .i64 (at_ l k)) := by
  simp [ints, at_, List.getD_eq_getElem?_getD, hk]
section hw
variable {t o g c base : Nat} {l : List Int} {w : World}
theorem HW.at (h : HW t o g c base l w) {k : Nat} (hk : k < l.length) : w.cell? ⟨g, k, none⟩ = some (.int .i64 (at_ l k)) := by
  rw [h.own.cellAt k (by omega)]
  exact IY hk
theorem HW.drewN (h : HW t o g c base l w) (m : Nat) : HW t o g c base l (w.drewN m) := ⟨h.cell, h.own, h.ne, h.lt⟩
theorem HW.swap (h : HW t o g c base l w) (i j : Nat) :
    HW t o g c base (swp l i j) ((w.setCell ⟨g, i, none⟩ (.int .i64 (at_ l j))).setCell ⟨g, j, none⟩ (.int .i64 (at_ l i))) := by
  have e1 : ints (swp l i j) = ((ints l).set i (.int .i64 (at_ l j))).set j (.int .i64 (at_ l i)) := by
    simp [ints, swp, List.map_set]
  refine ⟨?_, ?_, h.ne, by simpa [World.setCell] using h.lt⟩
  ·rw [jv, World.cell?_setCell_other _ _ _ _ (fun e => h.ne (by injection e with e; exact e.symm)), World.cell?_setCell_other _ _ _ _ (fun e => h.ne (by injection e with e; exact e.symm))]
   exact h.cell
  rw [jv, e1]
  exact ((h.own.stored i _).1.stored j _).1
end hw
theorem lq (t o g c base : Nat) (l : List Int) (a b : Nat) (i j : Int) (hi : i = (a : Int)) (hj : j = (b : Int)) (w : World) (h : HW t o g c base l w) (ha : a < l.length) (hb : b < l.length) (hne : a ≠ b) :
    Calls Tryz.prog 229 #[.slice (some ⟨g, 0, none⟩) l.length c, .int .i64 i, .int .i64 j] w fun e w' => e = .returned (.tuple #[]) ∧ HW t o g c base (swp l a b) w' ∧ Keeps (· = g) w w' := by
  subst hi hj
  refine (Gw g l.length c a b (at_ l a) (at_ l b) w ha hb hne (h.at ha) (h.at hb) (h.own.frozenAt a) (h.own.frozenAt b)).mono fun e w' ⟨he, m, hw⟩ => ⟨he, ?_, ?_⟩
  ·rw [hw]; exact (h.swap a b).drewN m
  rw [hw]; exact (((Keeps.refl (· = g) w).setCell (p := ⟨g, a, none⟩) (.inr rfl) _).setCell (p := ⟨g, b, none⟩) (.inr rfl) _).drewN m
structure Looks (a : Addr) (V : Value) : Prop where
  less : ∀ w : World, w.cell? a = some V → (Go.method 380 234 (.pointer (some a)) "Less").run Tryz.prog w = .ok (228, V) w
  swap : ∀ w : World, w.cell? a = some V → (Go.method 380 234 (.pointer (some a)) "Swap").run Tryz.prog w = .ok (229, V) w
  len : ∀ w : World, w.cell? a = some V → (Go.method 380 234 (.pointer (some a)) "Len").run Tryz.prog w = .ok (227, V) w
theorem looks (a : Addr) (V : Value) : Looks a V := ⟨L6 a V, L7 a V, NZ a V⟩
theorem K6 (t o g c base : Nat) (l : List Int) (j : Nat) (w : World) (h : HW t o g c base l w) (hj : j < l.length) (hu : zy l j) (hm : l.length ≤ 1048576) :
    Calls Tryz.prog 193 #[.iface 234 (.pointer (some ⟨t, o, none⟩)), .int .i64 j] w fun e w' => e = .returned (.tuple #[]) ∧
      ∃ l', Same l l' ∧ Hp l'.length l' ∧ HW t o g c base l' w' ∧ Keeps (· = g) w w' := by
  have L := looks ⟨t, o, none⟩ (.slice (some ⟨g, 0, none⟩) l.length c)
  have nl := Gu ⟨t, o, none⟩
  have ns := Ct ⟨t, o, none⟩
  go_enter Tryz.func193, Tryz.ntmps193
  go_wp2_with fail
  go_loopw [1] (fun v wr => ∃ (j : Nat) (l' : List Int), v = .int .i64 j ∧ j < l'.length ∧ Same l l' ∧ zy l' j ∧ HW t o g c base l' wr ∧ Keeps (· = g) w wr) (fun v _ => (intOf v).toNat)
  case atStart => exact ⟨j, l, rfl, hj, Same.refl l, hu, h, Keeps.refl _ _⟩
  case round =>
    obtain ⟨j, l', rfl, hj', hs, hu', hw, hk⟩ := hrel
    have hc := hw.cell
    rw [hs.len] at hc
    have LL := L.less wr hc
    by_cases h0 : j = 0
    ·subst h0
     have HU := Lib.hid hu'
     clear hu'
     go_wp2_with fail
     go_end0
     exact ⟨rfl, l', hs, GA HU.out (.inl rfl), hw, hk⟩
    have nu : 1 ≤ j := by omega
    have hj2 : j ≤ 1048576 := by have := hs.len; omega
    have hi1 : (j - 1) / 2 < l'.length := by omega
    have hjn : ((((j : Int) - 1) / 2) == (j : Int)) = false := by rw [beq_eq_false_iff_ne]; omega
    have HU := Lib.hid hu'
    clear hu'
    go_wp2_with fail
    refine (lp g l.length c j ((j - 1) / 2) _ _ rfl (by omega) (at_ l' j) (at_ l' ((j - 1) / 2)) _ (by rw [← hs.len]; exact hj') (by rw [← hs.len]; exact hi1) (hw.at hj') (hw.at hi1)).mono ?_
    rintro e w1 ⟨rfl, m, rfl⟩
    have hw1 := hw.drewN m
    by_cases hlt : at_ l' j < at_ l' ((j - 1) / 2)
    ·have LS := L.swap (wr.drewN m) hc
     go_wp2_with fail
     have HL := Lib.hid hs.len
     have sw := lq t o g c base l' ((j - 1) / 2) j
     rw [hs.len] at sw
     refine (sw _ _ (by omega) rfl _ hw1 (by have := HL.out; omega) (by have := HL.out; omega) (by omega)).mono ?_
     rintro e w2 ⟨rfl, hw2, hk2⟩
     clear sw
     go_wp2_with fail
     go_roundw
     case rel => exact ⟨(j - 1) / 2, _, by go_num, by rw [jv]; exact hi1, hs.trans (Same.swp hi1 hj'), K1 HU.out nu hj' hlt, hw2, (hk.drewN m).trans hk2⟩
     case measure => simp [intOf]; omega
    have hnl : decide (at_ l' j < at_ l' ((j - 1) / 2)) = false := by simpa using hlt
    go_wp2_with fail
    go_end0
    exact ⟨rfl, l', hs, GA HU.out (.inr (by omega)), hw1, hk.drewN m⟩
end
section
open Go.RowKit HeapM
theorem Cv {l : List Int} {i j n k : Nat} (hi : i < l.length) (hj : j < l.length) (hin : i < n) (hjn : j < n) (hk : n ≤ k) : at_ (swp l i j) k = at_ l k := by
  rw [gZ hi hj]; unfold sw; rw [if_neg (by omega), if_neg (by omega)]
theorem GD (t o g c base n : Nat) (l : List Int) (w : World) (h : HW t o g c base l w) (hn : n ≤ l.length) (hd : rS n l 0) (hm : l.length ≤ 1048576) :
    Calls Tryz.prog 201 #[.iface 234 (.pointer (some ⟨t, o, none⟩)), .int .i64 0, .int .i64 n] w fun e w' => (∃ b, e = .returned (.bool b)) ∧
      ∃ l', Same l l' ∧ Hp n l' ∧ (∀ k, n ≤ k → at_ l' k = at_ l k) ∧ HW t o g c base l' w' ∧ Keeps (· = g) w w' := by
  have L := looks ⟨t, o, none⟩ (.slice (some ⟨g, 0, none⟩) l.length c)
  have nl := Gu ⟨t, o, none⟩
  have ns := Ct ⟨t, o, none⟩
  go_enter Tryz.func201, Tryz.ntmps201
  go_wp2_with fail
  go_loopw [7] (fun v wr => ∃ (i : Nat) (l' : List Int), v = .int .i64 i ∧ i ≤ n ∧ Same l l' ∧ rS n l' i ∧ Hid (∀ k, n ≤ k → at_ l' k = at_ l k) ∧ HW t o g c base l' wr ∧ Keeps (· = g) w wr) (fun v _ => n - (intOf v).toNat)
  case atStart => exact ⟨0, l, rfl, Nat.zero_le _, Same.refl l, hd, Lib.hid (fun _ _ => rfl), h, Keeps.refl _ _⟩
  case round =>
    obtain ⟨i, l', rfl, hin, hs, hd', sO, hw, hk⟩ := hrel
    have hc := hw.cell
    rw [hs.len] at hc
    have HL := Lib.hid hs.len
    have hn1 : n ≤ 1048576 := by omega
    have hnl : n ≤ l'.length := by rw [HL.out]; exact hn
    have HD := Lib.hid hd'
    clear hd'
    by_cases h1 : 2 * i + 1 < n
    ·have h1a : (2 * (i : Int) + 1) < (n : Int) := by omega
     by_cases h2 : 2 * i + 2 < n
     ·have Qq : (2 * (i : Int) + 1 + 1) < (n : Int) := by omega
      have LL := L.less wr hc
      go_wp2_with fail
      refine (lp g l.length c (2 * i + 2) (2 * i + 1) _ _ (by omega) (by omega) (at_ l' (2 * i + 2)) (at_ l' (2 * i + 1)) _ (by omega) (by omega) (hw.at (by omega)) (hw.at (by omega))).mono ?_
      rintro e w1 ⟨rfl, m, rfl⟩
      have hw1 := hw.drewN m
      have hk1 := hk.drewN m
      have LL := L.less (wr.drewN m) hc
      clear hw hk
      by_cases h3 : at_ l' (2 * i + 2) < at_ l' (2 * i + 1)
      ·go_wp2_with fail
       refine (lp g l.length c (2 * i + 2) i _ _ (by omega) (by omega) (at_ l' (2 * i + 2)) (at_ l' i) _ (by omega) (by omega) (hw1.at (by omega)) (hw1.at (by omega))).mono ?_
       rintro e w2 ⟨rfl, m2, rfl⟩
       have hw2 := hw1.drewN m2
       have hk2 := hk1.drewN m2
       rw [World.drewN_drewN] at hw2 hk2
       by_cases h4 : at_ l' (2 * i + 2) < at_ l' i
       ·have LS := L.swap _ (hw2.cell.trans (by rw [HL.out]))
        go_wp2_with fail
        have sw := lq t o g c base l' i (2 * i + 2)
        rw [hs.len] at sw
        refine (sw _ _ rfl (by omega) _ hw2 (by omega) (by omega) (by omega)).mono ?_
        rintro e w3 ⟨rfl, hw3, hk3⟩
        clear sw
        go_wp2_with fail
        go_roundw
        case rel => exact ⟨2 * i + 2, _, by go_num, by omega, hs.trans (Same.swp (by omega) (by omega)), um HD.out (by omega) (by omega) hnl (by omega) (fun _ => by omega) h4, Lib.hid (fun k hk => (Cv (by omega) (by omega) (by omega) (by omega) hk).trans (sO.out k hk)), hw3, hk2.trans hk3⟩
        case measure => simp [intOf]; omega
       have OJ : decide (at_ l' (2 * i + 2) < at_ l' i) = false := by simpa using h4
       go_wp2_with fail
       go_ret
       exact ⟨⟨_, rfl⟩, l', hs, sN HD.out (fun _ => by omega) (fun _ => by omega), sO.out, hw2, hk2⟩
      have RM : decide (at_ l' (2 * i + 2) < at_ l' (2 * i + 1)) = false := by simpa using h3
      go_wp2_with fail
      refine (lp g l.length c (2 * i + 1) i _ _ (by omega) (by omega) (at_ l' (2 * i + 1)) (at_ l' i) _ (by omega) (by omega) (hw1.at (by omega)) (hw1.at (by omega))).mono ?_
      rintro e w2 ⟨rfl, m2, rfl⟩
      have hw2 := hw1.drewN m2
      have hk2 := hk1.drewN m2
      rw [World.drewN_drewN] at hw2 hk2
      by_cases h4 : at_ l' (2 * i + 1) < at_ l' i
      ·have LS := L.swap _ (hw2.cell.trans (by rw [HL.out]))
       go_wp2_with fail
       have sw := lq t o g c base l' i (2 * i + 1)
       rw [hs.len] at sw
       refine (sw _ _ rfl (by omega) _ hw2 (by omega) (by omega) (by omega)).mono ?_
       rintro e w3 ⟨rfl, hw3, hk3⟩
       clear sw
       go_wp2_with fail
       go_roundw
       case rel => exact ⟨2 * i + 1, _, by go_num, by omega, hs.trans (Same.swp (by omega) (by omega)), um HD.out (by omega) (by omega) hnl (by omega) (fun _ => by omega) h4, Lib.hid (fun k hk => (Cv (by omega) (by omega) (by omega) (by omega) hk).trans (sO.out k hk)), hw3, hk2.trans hk3⟩
       case measure => simp [intOf]; omega
      have OJ : decide (at_ l' (2 * i + 1) < at_ l' i) = false := by simpa using h4
      go_wp2_with fail
      go_ret
      exact ⟨⟨_, rfl⟩, l', hs, sN HD.out (fun _ => by omega) (fun _ => by omega), sO.out, hw2, hk2⟩
     have Qq : decide ((2 * (i : Int) + 1 + 1) < (n : Int)) = false := by simp; omega
     have hw1 := hw
     have hk1 := hk
     have LL := L.less wr hc
     clear hw hk
     go_wp2_with fail
     refine (lp g l.length c (2 * i + 1) i _ _ (by omega) (by omega) (at_ l' (2 * i + 1)) (at_ l' i) _ (by omega) (by omega) (hw1.at (by omega)) (hw1.at (by omega))).mono ?_
     rintro e w2 ⟨rfl, m2, rfl⟩
     have hw2 := hw1.drewN m2
     have hk2 := hk1.drewN m2
     by_cases h4 : at_ l' (2 * i + 1) < at_ l' i
     ·have LS := L.swap _ (hw2.cell.trans (by rw [HL.out]))
      go_wp2_with fail
      have sw := lq t o g c base l' i (2 * i + 1)
      rw [hs.len] at sw
      refine (sw _ _ rfl (by omega) _ hw2 (by omega) (by omega) (by omega)).mono ?_
      rintro e w3 ⟨rfl, hw3, hk3⟩
      clear sw
      go_wp2_with fail
      go_roundw
      case rel => exact ⟨2 * i + 1, _, by go_num, by omega, hs.trans (Same.swp (by omega) (by omega)), um HD.out (by omega) (by omega) hnl (by omega) (fun _ => by omega) h4, Lib.hid (fun k hk => (Cv (by omega) (by omega) (by omega) (by omega) hk).trans (sO.out k hk)), hw3, hk2.trans hk3⟩
      case measure => simp [intOf]; omega
     have OJ : decide (at_ l' (2 * i + 1) < at_ l' i) = false := by simpa using h4
     go_wp2_with fail
     go_ret
     exact ⟨⟨_, rfl⟩, l', hs, sN HD.out (fun _ => by omega) (fun _ => by omega), sO.out, hw2, hk2⟩
    have h1a : ((n : Int) ≤ 2 * (i : Int) + 1) := by omega
    go_wp2_with fail
    go_ret
    exact ⟨⟨_, rfl⟩, l', hs, sN HD.out (fun h => absurd h h1) (fun h => absurd h (by omega)), sO.out, hw, hk⟩
end
section
open Go.RowKit HeapM
theorem zA (g n c i : Nat) (x : Int) (w : World) (hi : i < n) (ci : w.cell? ⟨g, i, none⟩ = some (.int .i64 x)) (fi : w.frozen? ⟨g, i, none⟩ = false) :
    Calls Tryz.prog 229 #[.slice (some ⟨g, 0, none⟩) n c, .int .i64 i, .int .i64 i] w fun e w' => e = .returned (.tuple #[]) ∧ ∃ m, w' = ((w.setCell ⟨g, i, none⟩ (.int .i64 x)).setCell ⟨g, i, none⟩ (.int .i64 x)).drewN m := by
  have hi' : (i : Int) < (n : Int) := by omega
  go_enter Tryz.func229, Tryz.ntmps229
  go_wp2_with fail
  go_region
  go_end0
  exact ⟨rfl, 1, rfl⟩
theorem zB (t o g c base n : Nat) (l : List Int) (hl : l.length = n + 1) (j : Int) (hj : j = (n : Int)) (w : World) (h : HW t o g c base l w) :
    Calls Tryz.prog 229 #[.slice (some ⟨g, 0, none⟩) (n + 1) c, .int .i64 0, .int .i64 j] w fun e w' => e = .returned (.tuple #[]) ∧ HW t o g c base (swp l 0 n) w' ∧ Keeps (· = g) w w' := by
  subst hj
  by_cases h0 : n = 0
  ·subst h0
   have := zA g 1 c 0 (at_ l 0) w (by omega) (h.at (by omega)) (h.own.frozenAt 0)
   refine this.mono fun e w' ⟨he, m, hw⟩ => ⟨he, ?_, ?_⟩
   ·rw [hw]; exact (h.swap 0 0).drewN m
   rw [hw]; exact (((Keeps.refl (· = g) w).setCell (p := ⟨g, 0, none⟩) (.inr rfl) _).setCell (p := ⟨g, 0, none⟩) (.inr rfl) _).drewN m
  have := lq t o g c base l 0 n 0 n rfl rfl w h (by omega) (by omega) (by omega)
  rw [hl] at this
  exact this
theorem HW.pop {t o g c base n : Nat} {l : List Int} {w : World} (h : HW t o g c base l w) (hl : l.length = n + 1) : w.ownsRow base 3 1 (.slice (some ⟨g, 0, none⟩) n c) n (ints (l.take n)) := by
  have e : ints l = ints (l.take n) ++ ints (l.drop n) := by simp only [ints, ← List.map_append, List.take_append_drop]
  have h1 := h.own
  rw [e, hl] at h1
  exact ownsRow_pop (by simp [ints]; omega) h1
theorem HW.cap {t o g c base : Nat} {l : List Int} {w : World} (h : HW t o g c base l w) : l.length ≤ c := by
  rcases h.own.2 with ⟨e, _⟩ | ⟨g', cap, cur, e, _, _, r, _⟩
  ·injection e with e; cases e
  injection e with e1 e2 e3
  omega
theorem IZ (t o g c base n : Nat) (l : List Int) (w : World) (h : HW t o g c base l w) (hl : l.length = n + 1) (hp : Hp (n + 1) l) (hi : ul l) (hm : n + 1 ≤ 1048576) (hf : w.frozen? ⟨t, o, none⟩ = false) :
    Calls Tryz.prog 192 #[.iface 234 (.pointer (some ⟨t, o, none⟩))] w fun e w' => e = .returned (.iface 3 (.int .i64 (at_ l 0))) ∧
      ∃ l' w1, l'.length = n ∧ Hp n l' ∧ ul l' ∧ (∀ x, x ∈ l' ↔ x ∈ l ∧ x ≠ at_ l 0) ∧ w1.ownsRow base 3 1 (.slice (some ⟨g, 0, none⟩) n c) n (ints l') ∧ Keeps (· = g) w w1 ∧
        w' = w1.setCell ⟨t, o, none⟩ (.slice (some ⟨g, 0, none⟩) n c) := by
  have L := looks ⟨t, o, none⟩ (.slice (some ⟨g, 0, none⟩) l.length c)
  have nn := Kg ⟨t, o, none⟩
  have ns := Ct ⟨t, o, none⟩
  have np := N7 ⟨t, o, none⟩
  have mp := N0 ⟨t, o, none⟩
  have LN := L.len w h.cell
  have LS := L.swap w h.cell
  have HL := Lib.hid hl
  rw [hl] at LN LS
  clear hl
  go_enter Tryz.func192, Tryz.ntmps192
  go_wp2_with fail
  refine (Cu _ _ _ _).mono ?_
  rintro e w0 ⟨rfl, rfl⟩
  go_wp2_with fail
  refine (zB t o g c base n l HL.out _ (by omega) _ h).mono ?_
  rintro e w1 ⟨rfl, hw1, hk1⟩
  go_wp2_with fail
  have hd := GD t o g c base n (swp l 0 n) w1 hw1 (by rw [jv, HL.out]; omega) (EU hp HL.out) (by rw [jv, HL.out]; exact hm)
  refine (hd.mono ?_)
  rintro e w2 ⟨⟨bb, rfl⟩, l', hs, hp', sO, hw2, hk2⟩
  clear hd
  have hlen : l'.length = n + 1 := by rw [hs.len, jv, HL.out]
  have hcell := hw2.cell
  rw [hlen] at hcell
  have hcap := hw2.cap
  have htlt := h.lt
  have hf2 : w2.frozen? ⟨t, o, none⟩ = false := by
    rw [(hk1.trans hk2).frozen (p := ⟨t, o, none⟩) htlt h.ne]
    exact hf
  have hlast : at_ l' n = at_ l 0 := by
    rw [sO n (Nat.le_refl _), gZ (by rw [HL.out]; omega) (by rw [HL.out]; omega)]
    simp [sw]
  have hx := hw2.at (k := n) (by omega)
  rw [hlast] at hx
  have EV := Lib.hid hlen
  have N8 := Lib.hid hlast
  clear hlen hlast
  go_wp2_with fail
  refine (IV t o g n c (at_ l 0) w2 (by have := EV.out; omega) hcell hf2 hx hm).mono ?_
  rintro e w3 ⟨rfl, rfl⟩
  go_wp2_with fail
  go_ret
  have sm := (Same.swp (l := l) (i := 0) (j := n) (by rw [HL.out]; omega) (by rw [HL.out]; omega)).trans hs
  refine ⟨rfl, l'.take n, w2, by simp [EV.out], K3 hp', IX (sm.inj hi), fun x => ?_, hw2.pop EV.out, hk1.trans hk2, rfl⟩
  rw [K2 EV.out (sm.inj hi), sm.mem, N8.out]
theorem DH (l : List Int) (x : Int) : ints l ++ [.int .i64 x] = ints (l ++ [x]) := by simp [ints]
theorem GF (t o base : Nat) (v : Value) (l : List Int) (x : Int) (w : World) (ht : w.cell? ⟨t, o, none⟩ = some v) (hf : w.frozen? ⟨t, o, none⟩ = false) (hown : w.ownsRow base 3 1 v l.length (ints l))
    (hne : v.ownBlock ≠ some t) (hm : l.length + 1 ≤ 1048576) (hbase : base ≤ w.heap.size) (hp : Hp l.length l) (htl : t < w.heap.size) :
    Calls Tryz.prog 176 #[.iface 234 (.pointer (some ⟨t, o, none⟩)), .iface 3 (.int .i64 x)] w fun e w' => e = .returned (.tuple #[]) ∧
      ∃ g c l', Same (l ++ [x]) l' ∧ Hp l'.length l' ∧ HW t o g c base l' w' ∧ (v.ownBlock = some g ∨ w.heap.size ≤ g) ∧
        ∃ w1, Keeps (fun k => v.ownBlock = some k) w w1 ∧ Keeps (· = g) (w1.setCell ⟨t, o, none⟩ (.slice (some ⟨g, 0, none⟩) (l.length + 1) c)) w' := by
  have nn := Kg ⟨t, o, none⟩
  have np := L9 ⟨t, o, none⟩
  have mp := L8 ⟨t, o, none⟩
  go_enter Tryz.func176, Tryz.ntmps176
  go_wp2_with fail
  refine (Gz t o base l.length v (ints l) x w ht hf hown hne hm hbase).mono ?_
  rintro e w0 ⟨rfl, g, c, w1, hown1, hg1, ES, rfl⟩
  have hk1 : Keeps (fun k => v.ownBlock = some k) w w1 := (Keeps.refl _ _).grown hg1 (fun k hk => .inr hk)
  have hgt : t ≠ g := by
    rintro rfl
    rcases ES with h | h
    ·exact hne h
    omega
  have ht1 : w1.cell? ⟨t, o, none⟩ = some v := (hk1.cell (p := ⟨t, o, none⟩) htl hne).trans ht
  have HW1 : HW t o g c base (l ++ [x]) (w1.setCell ⟨t, o, none⟩ (.slice (some ⟨g, 0, none⟩) (l.length + 1) c)) := by
    refine ⟨?_, ?_, hgt, by simpa [World.setCell] using Nat.lt_of_lt_of_le htl hk1.size⟩
    ·rw [World.cell?_setCell_same _ _ _ ht1]; simp
    rw [List.length_append, List.length_singleton, ← DH]
    refine Keeps.ownsRow (S := (· = t)) ((Keeps.refl (· = t) w1).setCell (p := ⟨t, o, none⟩) (.inr rfl) _) hown1 ?_
    intro k hk e
    simp [Value.ownBlock] at hk
    omega
  have hc := HW1.cell
  rw [List.length_append, List.length_singleton] at hc
  generalize hW : w1.setCell ⟨t, o, none⟩ (.slice (some ⟨g, 0, none⟩) (l.length + 1) c) = w2 at *
  have LN := (looks ⟨t, o, none⟩ (.slice (some ⟨g, 0, none⟩) (l.length + 1) c)).len w2 hc
  have Qr := Lib.hid hW
  clear hW ht1 hown1 hown hg1
  go_wp2_with fail
  refine (Cu _ _ _ _).mono ?_
  rintro e w3 ⟨rfl, rfl⟩
  go_wp2_with fail
  have hu := K6 t o g c base (l ++ [x]) l.length w3 HW1 (by simp) (IW hp x) (by simpa using hm)
  refine hu.mono ?_
  rintro e w4 ⟨rfl, l', hs, hp', hw4, hk4⟩
  go_wp2_with fail
  go_end0
  exact ⟨rfl, g, c, l', hs, hp', hw4, ES, w1, hk1, by rw [Qr.out]; exact hk4⟩
end
end Go.Proofs.YtkiedlmhocglhaaGreatDoor
section
namespace Go.Proofs.YtkiedlmhocglhaaGreatDoor.TabM
open HeapM
variable {V U : Type}
abbrev Used (V : Type) := List (Int × V)
def keys (us : Used V) : List Int := us.map (·.1)
def get (us : Used V) (h : Int) : Option V := (us.find? (fun p => p.1 == h)).map (·.2)
def bP : List Int → Prop := List.Pairwise (· < ·)
def fU : Int → List Int → Int
  | h, [] => h
  | h, k :: r => if k = h then fU (h + 1) r else h
def least (us : Used V) : Int := fU 1 (keys us)
def ins (h : Int) (v : V) : Used V → Used V
  | [] => [(h, v)]
  | p :: r => if h < p.1 then (h, v) :: p :: r else p :: ins h v r
def del (h : Int) (us : Used V) : Used V := us.filter (fun p => p.1 != h)
def Ro (h : Int) (v : V) (us : Used V) : Used V := us.map (fun p => if p.1 == h then (h, v) else p)
structure TI (next : Int) (l : List Int) (us : Used V) : Prop where
  rise : bP (keys us)
  pos : ∀ h ∈ keys us, 1 ≤ h ∧ h < next
  back : ∀ h ∈ l, 1 ≤ h ∧ h < next ∧ h ∉ keys us
  all : ∀ h, 1 ≤ h → h < next → h ∈ keys us ∨ h ∈ l
  count : (us.length : Int) + l.length = next - 1
  heap : Hp l.length l
  inj : ul l
theorem keys_cons (p : Int × V) (us : Used V) : keys (p :: us) = p.1 :: keys us := rfl
theorem keys_map (f : V → U) (us : Used V) : keys (us.map fun p => (p.1, f p.2)) = keys us := by simp [keys]
theorem get_none {us : Used V} {h : Int} : get us h = none ↔ h ∉ keys us := by
  unfold get keys
  rw [Option.map_eq_none_iff, List.find?_eq_none]
  simp only [List.mem_map, not_exists, not_and, beq_iff_eq]
theorem get_some {us : Used V} {h : Int} {v : V} (e : get us h = some v) : h ∈ keys us := by
  apply Classical.byContradiction
  intro hn
  rw [get_none.2 hn] at e; cases e
theorem get_map (f : V → U) (us : Used V) (h : Int) : get (us.map fun p => (p.1, f p.2)) h = (get us h).map f := by
  unfold get
  rw [List.find?_map]
  simp only [Function.comp_def, Option.map_map]
theorem jQ (h : Int) (v : V) (us : Used V) (x : Int) : x ∈ keys (ins h v us) ↔ x = h ∨ x ∈ keys us := by
  induction us with
  | nil => simp [ins, keys]
  | cons p r ih =>
    unfold ins
    split
    ·simp [keys]
    rw [keys_cons, keys_cons, List.mem_cons, List.mem_cons, ih]
    constructor
    ·rintro (h1 | h1 | h1)
     ·exact .inr (.inl h1)
     ·exact .inl h1
     exact .inr (.inr h1)
    rintro (h1 | h1 | h1)
    ·exact .inr (.inl h1)
    ·exact .inl h1
    exact .inr (.inr h1)
theorem sP {h : Int} {v : V} {us : Used V} (hr : bP (keys us)) (hn : h ∉ keys us) : bP (keys (ins h v us)) := by
  induction us with
  | nil => simp [ins, keys, bP]
  | cons p r ih =>
    unfold bP at *
    rw [keys_cons, List.pairwise_cons] at hr
    rw [keys_cons, List.mem_cons, not_or] at hn
    unfold ins
    split
    ·rename_i hlt
     rw [keys_cons, keys_cons, List.pairwise_cons, List.pairwise_cons]
     refine ⟨?_, hr⟩
     intro x hx
     rcases List.mem_cons.1 hx with e | e
     ·rw [e]; exact hlt
     have := hr.1 x e; show h < x; omega
    rename_i hlt
    rw [keys_cons, List.pairwise_cons]
    refine ⟨fun x hx => ?_, ih hr.2 hn.2⟩
    rcases (jQ h v r x).1 hx with e | e
    ·rw [e]; have := hn.1; omega
    exact hr.1 x e
theorem pQ {h : Int} {v : V} {us : Used V} (hn : h ∉ keys us) (x : Int) : get (ins h v us) x = if x = h then some v else get us x := by
  induction us with
  | nil =>
    by_cases e : x = h
    ·subst e; simp [ins, get]
    simp [ins, get, e, Ne.symm e]
  | cons p r ih =>
    rw [keys_cons, List.mem_cons, not_or] at hn
    unfold ins
    split
    ·unfold get
     by_cases e : x = h
     ·subst e; simp
     simp [e, Ne.symm e]
    have ih' := ih hn.2
    unfold get at ih' ⊢
    rw [List.find?_cons, List.find?_cons]
    by_cases e : p.1 = x
    ·have : x ≠ h := by rintro rfl; exact hn.1 e.symm
     simp [e, this]
    simp only [show (p.1 == x) = false by simpa using e]
    exact ih'
theorem gi (h : Int) (v : V) (us : Used V) : (ins h v us).length = us.length + 1 := by
  induction us with
  | nil => rfl
  | cons p r ih => unfold ins; split <;> simp [ih]
theorem I0 {h : Int} {v : V} {us : Used V} (hl : ∀ x ∈ keys us, x < h) : ins h v us = us ++ [(h, v)] := by
  induction us with
  | nil => rfl
  | cons p r ih =>
    rw [keys_cons] at hl
    have h1 := hl p.1 (by simp)
    unfold ins
    rw [if_neg (by omega), ih (fun x hx => hl x (by simp [hx]))]
    rfl
theorem Ea (f : V → U) (h : Int) (v : V) (us : Used V) : (ins h v us).map (fun p => (p.1, f p.2)) = ins h (f v) (us.map fun p => (p.1, f p.2)) := by
  induction us with
  | nil => rfl
  | cons p r ih => unfold ins; simp only [List.map_cons]; split <;> simp_all
theorem Eb (f : V → U) (h : Int) (us : Used V) : (del h us).map (fun p => (p.1, f p.2)) = del h (us.map fun p => (p.1, f p.2)) := by
  unfold del; rw [List.filter_map]; rfl
theorem lS (h : Int) (us : Used V) : keys (del h us) = (keys us).filter (· != h) := by
  unfold keys del; rw [List.filter_map]; rfl
theorem rT (h : Int) (us : Used V) (x : Int) : get (del h us) x = if x = h then none else get us x := by
  by_cases e : x = h
  ·subst e
   rw [if_pos rfl, get_none, lS]
   simp
  rw [if_neg e]
  unfold get del
  rw [List.find?_filter]
  congr 2
  funext p
  by_cases e2 : p.1 = x
  ·simp [e2, e]
  simp [e2]
theorem nH {h : Int} {us : Used V} (hr : bP (keys us)) (hm : h ∈ keys us) : (del h us).length + 1 = us.length := by
  induction us with
  | nil => simp [keys] at hm
  | cons p r ih =>
    unfold bP at *
    rw [keys_cons, List.pairwise_cons] at hr
    unfold del at ih ⊢
    rw [List.filter_cons]
    by_cases e : p.1 = h
    ·have : r.filter (fun q => q.1 != h) = r := by
       rw [List.filter_eq_self]
       intro q hq
       have := hr.1 q.1 (List.mem_map_of_mem hq)
       simp; omega
     simp [e, this]
    rw [keys_cons, List.mem_cons] at hm
    have := ih hr.2 (hm.resolve_left (Ne.symm e))
    simp [e]; omega
theorem kS : ∀ (ks : List Int) (h : Int), bP ks → (∀ x ∈ ks, h ≤ x) → h ≤ fU h ks ∧ fU h ks ∉ ks ∧ ∀ x, h ≤ x → x < fU h ks → x ∈ ks
  | [], h, _, _ => ⟨Int.le_refl _, by simp [fU], fun x h1 h2 => by simp [fU] at h2; omega⟩
  | k :: r, h, hr, hge => by
    unfold bP at hr
    rw [List.pairwise_cons] at hr
    unfold fU
    by_cases e : k = h
    ·rw [if_pos e]
     obtain ⟨i1, i2, i3⟩ := kS r (h + 1) hr.2 (fun x hx => by have := hr.1 x hx; omega)
     refine ⟨by omega, ?_, fun x h1 h2 => ?_⟩
     ·rw [List.mem_cons, not_or]; exact ⟨by omega, i2⟩
     by_cases e2 : x = h
     ·rw [e2, ← e]; simp
     exact List.mem_cons_of_mem _ (i3 x (by omega) h2)
    rw [if_neg e]
    refine ⟨Int.le_refl _, ?_, fun x h1 h2 => by omega⟩
    rw [List.mem_cons, not_or]
    refine ⟨Ne.symm e, fun hm => ?_⟩
    have h1 := hr.1 h hm
    have h2 := hge k (by simp)
    omega
theorem uo {us : Used V} (hr : bP (keys us)) (hp : ∀ x ∈ keys us, 1 ≤ x) {h : Int} (h1 : 1 ≤ h) (hn : h ∉ keys us) (hall : ∀ x, 1 ≤ x → x < h → x ∈ keys us) : least us = h := by
  obtain ⟨i1, i2, i3⟩ := kS (keys us) 1 hr hp
  unfold least
  rcases Int.lt_trichotomy (fU 1 (keys us)) h with hlt | he | hgt
  ·exact absurd (hall _ i1 hlt) i2
  ·exact he
  exact absurd (i3 h h1 hgt) hn
theorem TI.empty : TI 1 [] ([] : Used V) :=
  ⟨List.Pairwise.nil, by simp [keys], by simp, fun h h1 h2 => by omega, rfl, fun i h1 h2 => by simp at h2, fun a b h1 => by simp at h1⟩
theorem TI.xX {next : Int} {us : Used V} (h : TI next [] us) : least us = next := by
  have hc := h.count
  simp at hc
  refine uo h.rise (fun x hx => (h.pos x hx).1) (by omega) (fun hm => ?_) (fun x h1 h2 => (h.all x h1 h2).resolve_right (by simp))
  have := (h.pos _ hm).2; omega
theorem TI.I3 {next : Int} {us : Used V} (h : TI next [] us) (v : V) : TI (next + 1) [] (ins next v us) := by
  have hc := h.count
  simp at hc
  have hn : next ∉ keys us := fun hm => by have := (h.pos _ hm).2; omega
  refine ⟨sP h.rise hn, fun x hx => ?_, by simp, fun x h1 h2 => ?_, by rw [gi]; simp; omega, fun i h1 h2 => by simp at h2, fun a b h1 => by simp at h1⟩
  ·rcases (jQ next v us x).1 hx with e | e
   ·omega
   have := h.pos x e; omega
  by_cases e : x = next
  ·exact .inl ((jQ next v us x).2 (.inl e))
  exact .inl ((jQ next v us x).2 (.inr ((h.all x h1 (by omega)).resolve_right (by simp))))
theorem TI.xY {next : Int} {l : List Int} {us : Used V} (h : TI next l us) (hl : 0 < l.length) : least us = at_ l 0 := by
  have hm : at_ l 0 ∈ l := qf.2 ⟨0, hl, rfl⟩
  obtain ⟨b1, b2, b3⟩ := h.back _ hm
  refine uo h.rise (fun x hx => (h.pos x hx).1) b1 b3 (fun x h1 h2 => (h.all x h1 (by omega)).resolve_right (fun hx => ?_))
  obtain ⟨k, hk, e⟩ := qf.1 hx
  have := HeapM.least h.heap k hk
  omega
theorem TI.I4 {next : Int} {l l' : List Int} {us : Used V} (h : TI next l us) (hl : 0 < l.length) (v : V) (hlen : l'.length + 1 = l.length) (hp : Hp l'.length l') (hi : ul l') (hm : ∀ x, x ∈ l' ↔ x ∈ l ∧ x ≠ at_ l 0) :
    TI next l' (ins (at_ l 0) v us) := by
  have h0 : at_ l 0 ∈ l := qf.2 ⟨0, hl, rfl⟩
  obtain ⟨b1, b2, b3⟩ := h.back _ h0
  have hc := h.count
  refine ⟨sP h.rise b3, fun x hx => ?_, fun x hx => ?_, fun x h1 h2 => ?_, by rw [gi]; push_cast; omega, hp, hi⟩
  ·rcases (jQ _ v us x).1 hx with e | e
   ·omega
   exact h.pos x e
  ·have hx' := (hm x).1 hx
   have := h.back x hx'.1
   refine ⟨this.1, this.2.1, fun hk => ?_⟩
   rcases (jQ _ v us x).1 hk with e | e
   ·exact hx'.2 e
   exact this.2.2 e
  by_cases e : x = at_ l 0
  ·exact .inl ((jQ _ v us x).2 (.inl e))
  rcases h.all x h1 h2 with h3 | h3
  ·exact .inl ((jQ _ v us x).2 (.inr h3))
  exact .inr ((hm x).2 ⟨h3, e⟩)
theorem TI.drop {next h0 : Int} {l l' : List Int} {us : Used V} (h : TI next l us) (hm : h0 ∈ keys us) (hs : Same (l ++ [h0]) l') (hp : Hp l'.length l') : TI next l' (del h0 us) := by
  obtain ⟨p1, p2⟩ := h.pos _ hm
  have hn : h0 ∉ l := fun hx => (h.back _ hx).2.2 hm
  have hlen := hs.len
  rw [List.length_append, List.length_singleton] at hlen
  have hc := h.count
  have hd := nH h.rise hm
  refine ⟨?_, fun x hx => ?_, fun x hx => ?_, fun x h1 h2 => ?_, by omega, hp, hs.inj ?_⟩
  ·rw [lS]; exact List.Pairwise.filter _ h.rise
  ·rw [lS, List.mem_filter] at hx
   exact h.pos x hx.1
  ·rw [hs.mem, List.mem_append, List.mem_singleton] at hx
   rw [lS, List.mem_filter]
   rcases hx with hx | hx
   ·have := h.back x hx
    exact ⟨this.1, this.2.1, fun hk => this.2.2 hk.1⟩
   subst hx
   exact ⟨p1, p2, fun hk => by simp at hk⟩
  ·rw [lS, List.mem_filter, hs.mem, List.mem_append, List.mem_singleton]
   rcases h.all x h1 h2 with h3 | h3
   ·by_cases e : x = h0
    ·exact .inr (.inr e)
    exact .inl ⟨h3, by simpa using e⟩
   exact .inr (.inl h3)
  intro a b ha hb e
  rw [List.length_append, List.length_singleton] at ha hb
  have g : ∀ k, k < l.length → at_ (l ++ [h0]) k = at_ l k := fun k hk => by
    unfold at_; rw [List.getD_eq_getElem?_getD, List.getD_eq_getElem?_getD, List.getElem?_append_left hk]
  have g2 : at_ (l ++ [h0]) l.length = h0 := by unfold at_; simp [List.getD_eq_getElem?_getD]
  have inl : ∀ k, k < l.length → at_ l k ≠ h0 := fun k hk e => hn (e ▸ qf.2 ⟨k, hk, rfl⟩)
  by_cases ha' : a < l.length
  ·by_cases hb' : b < l.length
   ·rw [g a ha', g b hb'] at e; exact h.inj a b ha' hb' e
   obtain rfl : b = l.length := by omega
   rw [g a ha', g2] at e; exact absurd e (inl a ha')
  obtain rfl : a = l.length := by omega
  by_cases hb' : b < l.length
  ·rw [g b hb', g2] at e; exact absurd e.symm (inl b hb')
  omega
end Go.Proofs.YtkiedlmhocglhaaGreatDoor.TabM
end
namespace Go.Proofs.YtkiedlmhocglhaaGreatDoor
section
open Go.RowKit HeapM TabM Go.Maps
def aO (us : Used Value) : Lit → Option Value
  | .int .i64 h => TabM.get us h
  | _ => none
theorem zC {us : Used Value} {h : Int} (hn : h ∉ keys us) (v : Value) : iD (aO us) (.int .i64 h) (some v) = aO (ins h v us) := by
  funext x
  unfold iD aO
  cases x with
  | int k n =>
    by_cases hk : k = .i64
    ·subst hk
     simp only [Lit.sameKey, true_and, decide_eq_true_eq]
     rw [pQ hn]
    have e : (Lit.int k n).sameKey (.int .i64 h) = false := by simp [Lit.sameKey, hk]
    rw [e]
    cases k <;> first | rfl | exact absurd rfl hk
  | _ => rfl
theorem Ec {us : Used Value} {h : Int} : iD (aO us) (.int .i64 h) none = aO (del h us) := by
  funext x
  unfold iD aO
  cases x with
  | int k n =>
    by_cases hk : k = .i64
    ·subst hk
     simp only [Lit.sameKey, true_and, decide_eq_true_eq]
     rw [rT]
    have e : (Lit.int k n).sameKey (.int .i64 h) = false := by simp [Lit.sameKey, hk]
    rw [e]
    cases k <;> first | rfl | exact absurd rfl hk
  | _ => rfl
structure Pv (TT : TypeId) (t m base : Nat) (v : Value) (l : List Int) (next most av : Int) (us : Used Value) (w : World) : Prop where
  blk : w.heap[t]? = some (.cells #[.int .i64 most, .int .i64 av, .map (some m), v, .int .i64 next] TT (0, 0))
  map : dX Tryz.prog 3 w m (aO us) us.length
  own : w.ownsRow base 3 1 v l.length (ints l)
  ti : TI next l us
  sQ : (us.length : Int) ≤ most
  sR : most ≤ 1024
  sS : next ≤ most + 1
  tt : TT ≠ 3
  bt : base ≤ t
  bm : base ≤ m
  vw : 0 ≤ av ∧ av ≤ 1024
def RN (TT : TypeId) (t m base : Nat) (row : Option Nat) (most av : Int) (us : Used Value) (w : World) : Prop :=
  ∃ v l next, Pv TT t m base v l next most av us w ∧ v.ownBlock = row
section tab
variable {TT : TypeId} {t m base : Nat} {v : Value} {l : List Int} {next most av : Int} {us : Used Value} {w w' : World} {row : Option Nat}
end tab
end
section
open Go.RowKit HeapM TabM Go.Maps
theorem Spec.OL {P : Program} {β : Bs} {f : FuncId} {args : Array Value} {pre : List HP} {post : Value → List HP → Prop}
    (h : ∀ F w, (Proofs.YtkiedlmhocglhaaGreatDoor.bund pre).h F w → Calls P f args w fun e w' => ∃ v l, e = .returned v ∧ post v l ∧ ∃ F', (Proofs.YtkiedlmhocglhaaGreatDoor.bund l).h F' w' ∧ Step F w F' w') : Spec P β f args pre post := by
  intro R w hS
  have h1 : Sat β ([.abs (Proofs.YtkiedlmhocglhaaGreatDoor.bund pre)] ++ [.abs R]) w := Sat.turn (Sat.turn hS).bund
  have h2 : Spec P β f args [.abs (Proofs.YtkiedlmhocglhaaGreatDoor.bund pre)] (fun v l => ∃ l0, post v l0 ∧ l = [.abs (Proofs.YtkiedlmhocglhaaGreatDoor.bund l0)]) :=
    Spec.Qi (fun F w hF => (h F w hF).mono fun _ _ ⟨v, l, e, hp, hF'⟩ => ⟨v, .abs (Proofs.YtkiedlmhocglhaaGreatDoor.bund l), e, ⟨l, hp, rfl⟩, hF'⟩)
  refine (h2 R w h1).mono ?_
  rintro e w' ⟨v, l, he, ⟨l0, hp, rfl⟩, hS2⟩
  exact ⟨v, l0, he, hp, Sat.turn (Sat.turn hS2).xG⟩
theorem BB {p q : HP} {F : Fp} {w : World} : (bund [p, q]).h F w ↔ ∃ F1 F2, p.h F1 w ∧ q.h F2 w ∧ Apart F1 F2 ∧ ∀ k, F k ↔ F1 k ∨ F2 k := by
  constructor
  ·rintro ⟨φ, h1, h2, h3⟩
   refine ⟨φ 0, φ 1, h1 0 p rfl, h1 1 q rfl, h2 0 1 (by simp) (by simp) (by decide), fun k => (h3 k).trans ⟨fun ⟨i, hi, hk⟩ => ?_, fun h => ?_⟩⟩
   ·have hi : i < 2 := hi
    rcases (by omega : i = 0 ∨ i = 1) with rfl | rfl
    ·exact .inl hk
    exact .inr hk
   rcases h with h | h
   ·exact ⟨0, by simp, h⟩
   exact ⟨1, by simp, h⟩
  rintro ⟨F1, F2, h1, h2, h3, h4⟩
  refine ⟨fun i => if i = 0 then F1 else F2, fun i x hx => ?_, fun i j hi hj hne => ?_, fun k => (h4 k).trans ⟨fun h => ?_, fun ⟨i, hi, hk⟩ => ?_⟩⟩
  ·match i, hx with
   | 0, hx => cases hx; exact h1
   | 1, hx => cases hx; exact h2
  ·have hi : i < 2 := hi
   have hj : j < 2 := hj
   rcases (by omega : (i = 0 ∧ j = 1) ∨ (i = 1 ∧ j = 0)) with ⟨rfl, rfl⟩ | ⟨rfl, rfl⟩
   ·exact h3
   exact h3.symm
  ·rcases h with h | h
   ·exact ⟨0, by simp, h⟩
   exact ⟨1, by simp, h⟩
  have hi : i < 2 := hi
  rcases (by omega : i = 0 ∨ i = 1) with rfl | rfl
  ·exact .inl hk
  exact .inr hk
theorem Sat.N9 {β : Bs} {l : List HP} {w : World} {A : bT} {ι : Type} {Φ : ι → Prop} {L : ι → List HP} (h : Sat β (l ++ [.abs A]) w) (hA : ∀ F, A.h F w → ∃ i, Φ i ∧ (Proofs.YtkiedlmhocglhaaGreatDoor.bund (L i)).h F w) : ∃ i, Φ i ∧ Sat β (l ++ L i) w := by
  obtain ⟨F, hF⟩ := h.get (i := l.length) (p := .abs A) (by simp)
  have h0 := h
  obtain ⟨ho, φ, h1, h2, h3⟩ := h
  obtain ⟨i, hi, hB⟩ := hA _ (h1 l.length (.abs A) (by simp))
  refine ⟨i, hi, Sat.xG ⟨ho, φ, fun j p hp => ?_, fun j hj => h2 j (by simpa using hj), fun a b ha hb => h3 a b (by simpa using ha) (by simpa using hb)⟩⟩
  by_cases e : j < l.length
  ·rw [List.getElem?_append_left e] at hp
   exact h1 j p (by rw [List.getElem?_append_left e]; exact hp)
  have hj : j = l.length := by have := bw hp; simp at this; omega
  subst hj
  simp at hp
  subst hp
  exact hB
theorem Sat.Mb {β : Bs} {l R : List HP} {w : World} {A : bT} (h : Sat β (l ++ R) w) (hA : ∀ F, (Proofs.YtkiedlmhocglhaaGreatDoor.bund R).h F w → A.h F w) : Sat β (l ++ [.abs A]) w := by
  obtain ⟨ho, φ, h1, h2, h3⟩ := h.bund
  refine ⟨ho, φ, fun j p hp => ?_, fun j hj => h2 j (by simpa using hj), fun a b ha hb => h3 a b (by simpa using ha) (by simpa using hb)⟩
  by_cases e : j < l.length
  ·rw [List.getElem?_append_left e] at hp
   exact h1 j p (by rw [List.getElem?_append_left e]; exact hp)
  have hj : j = l.length := by have := bw hp; simp at this; omega
  subst hj
  simp at hp
  subst hp
  exact hA _ (h1 l.length (.abs (Proofs.YtkiedlmhocglhaaGreatDoor.bund R)) (by simp))
section rules
variable {P : Program} {β : Bs} {N : Nat} {ops : Array Oper} {k : Nat} {fr : Fr} {hps : List HP} {Q : Post} {c : Code} {e : Exit}
theorem af.Cw {ι : Type} {Φ : ι → Prop} {hp : ι → List HP} (h : ∀ w, Sat β hps w → ∃ i, Φ i ∧ Sat β (hp i) w) (K : ∀ i, Φ i → af P β N c fr (hp i) Q) : af P β N c fr hps Q := fun junk w hS => let ⟨i, hi, cR⟩ := h w hS; K i hi junk w cR
end rules
theorem tG {w : World} {t j : Nat} {cs : List Value} {T : TypeId} {u : Value} (h : w.heap[t]? = some (.cells ⟨cs⟩ T (0, 0))) : (w.setCell ⟨t, j, none⟩ u).heap[t]? = some (.cells ⟨cs.set j u⟩ T (0, 0)) := by
  simp [World.setCell, Array.getElem?_modify, h, Array.setIfInBounds_def]
  exact fun h => (List.set_eq_of_length_le h).symm
theorem Mc {β : Bs} {T : TypeId} {a b c e : Value} {t g cap n : Nat} {l : List Int} (hl : l.length = n + 1) (hp : Hp (n + 1) l) (hi : ul l) (hm : n + 1 ≤ 1048576) :
    Spec Tryz.prog β 192 #[.iface 234 (.pointer (some ⟨t, 3, none⟩))] [.blk t [a, b, c, .slice (some ⟨g, 0, none⟩) l.length cap, e] T, .abs (aI 3 1 (some ⟨g, 0, none⟩) l.length cap (ints l))]
      (fun v r => v = .iface 3 (.int .i64 (at_ l 0)) ∧ ∃ l' : List Int, l'.length = n ∧ Hp n l' ∧ ul l' ∧ (∀ x, x ∈ l' ↔ x ∈ l ∧ x ≠ at_ l 0) ∧ r = [.blk t [a, b, c, .slice (some ⟨g, 0, none⟩) n cap, e] T, .abs (aI 3 1 (some ⟨g, 0, none⟩) n cap (ints l'))]) := by
  refine Spec.OL (fun F w h => ?_)
  obtain ⟨F1, F2, ⟨h1, h2⟩, hr, hap, hF⟩ := BB.1 h
  have hr : (aI 3 1 (some ⟨g, 0, none⟩) l.length cap (ints l)).h F2 w := hr
  obtain ⟨hr1, hr2⟩ := hr
  have hg : F2 g := (hr2 g).2 rfl
  have hne : t ≠ g := fun e => hap t ((h2 t).2 rfl) (e ▸ hg)
  have hc : w.cell? ⟨t, 3, none⟩ = some (.slice (some ⟨g, 0, none⟩) l.length cap) ∧ w.frozen? ⟨t, 3, none⟩ = false := eP h1 rfl rfl rfl
  have hW : HW t 3 g cap 0 l w := ⟨hc.1, hr1, hne, lt_of_some h1⟩
  refine (IZ t 3 g cap 0 n l w hW hl hp hi hm hc.2).mono ?_
  rintro e' w' ⟨rfl, l', w1, g1, g2, g3, g4, g5, g6, rfl⟩
  have h1' : w1.heap[t]? = some (.cells ⟨[a, b, c, .slice (some ⟨g, 0, none⟩) l.length cap, e]⟩ T (0, 0)) := (g6.block t (lt_of_some h1) (fun e => hne e)).trans h1
  have hks : Keeps (· = t) w1 (w1.setCell ⟨t, 3, none⟩ (.slice (some ⟨g, 0, none⟩) n cap)) := (Keeps.refl (· = t) w1).setCell (p := ⟨t, 3, none⟩) (.inr rfl) _
  refine ⟨_, _, rfl, ⟨rfl, l', g1, g2, g3, g4, rfl⟩, F, BB.2 ⟨F1, F2, ⟨tG h1', h2⟩, ⟨hks.ownsRow g5 (fun k hk e => ?_), fun k => ?_⟩, hap, hF⟩, ⟨?_, fun _ h => .inl h⟩⟩
  ·cases hk; exact hne e.symm
  ·rw [hr2 k]; simp [Value.ownBlock]
  exact (g6.mono (S' := F) (fun k _ e => (hF k).2 (.inr (e ▸ hg)))).trans (hks.mono (fun k _ e => (hF k).2 (.inl ((h2 k).2 e))))
theorem K7 {β : Bs} {T : TypeId} {a b c e : Value} {t cap : Nat} {A : Option Addr} {l : List Int} (x : Int) (hp : Hp l.length l) (hm : l.length + 1 ≤ 1048576) :
    Spec Tryz.prog β 176 #[.iface 234 (.pointer (some ⟨t, 3, none⟩)), .iface 3 (.int .i64 x)] [.blk t [a, b, c, .slice A l.length cap, e] T, .abs (aI 3 1 A l.length cap (ints l))]
      (fun v r => v = .tuple #[] ∧ ∃ (g c' : Nat) (l' : List Int), Same (l ++ [x]) l' ∧ Hp l'.length l' ∧ r = [.blk t [a, b, c, .slice (some ⟨g, 0, none⟩) l'.length c', e] T, .abs (aI 3 1 (some ⟨g, 0, none⟩) l'.length c' (ints l'))]) := by
  refine Spec.OL (fun F w h => ?_)
  obtain ⟨F1, F2, ⟨h1, h2⟩, hr, hap, hF⟩ := BB.1 h
  have hr : (aI 3 1 A l.length cap (ints l)).h F2 w := hr
  obtain ⟨hr1, hr2⟩ := hr
  have hc : w.cell? ⟨t, 3, none⟩ = some (.slice A l.length cap) ∧ w.frozen? ⟨t, 3, none⟩ = false := eP h1 rfl rfl rfl
  have hne : (Value.slice A l.length cap).ownBlock ≠ some t := fun e => hap t ((h2 t).2 rfl) ((hr2 t).2 e)
  refine (GF t 3 0 (.slice A l.length cap) l x w hc.1 hc.2 hr1 hne hm (Nat.zero_le _) hp (lt_of_some h1)).mono ?_
  rintro e' w' ⟨rfl, g, c', l', g1, g2, g3, g4, w1, g5, g6⟩
  have Ed : t ≠ g := g3.ne
  have hlen : l'.length = l.length + 1 := by have := g1.len; simp at this; omega
  have h1' : w1.heap[t]? = some (.cells ⟨[a, b, c, .slice A l.length cap, e]⟩ T (0, 0)) := (g5.block t (lt_of_some h1) hne).trans h1
  have Md := tG (j := 3) (u := .slice (some ⟨g, 0, none⟩) (l.length + 1) c') h1'
  have Pw : w'.heap[t]? = some (.cells ⟨[a, b, c, .slice (some ⟨g, 0, none⟩) l'.length c', e]⟩ T (0, 0)) := by
    rw [hlen]; exact (g6.block t (lt_of_some Md) Ed).trans Md
  have hks : Keeps (· = t) w1 (w1.setCell ⟨t, 3, none⟩ (.slice (some ⟨g, 0, none⟩) (l.length + 1) c')) := (Keeps.refl (· = t) w1).setCell (p := ⟨t, 3, none⟩) (.inr rfl) _
  refine ⟨_, _, rfl, ⟨rfl, g, c', l', g1, g2, rfl⟩, fun k => F1 k ∨ k = g, BB.2 ⟨F1, fun k => k = g, ⟨Pw, h2⟩, ⟨g3.own, fun k => ?_⟩, fun k hk e => Ed (((h2 k).1 hk).symm.trans e), fun k => Iff.rfl⟩, ⟨?_, fun k hk => ?_⟩⟩
  ·simp [Value.ownBlock, eq_comm]
  ·have k1 : Keeps F w w1 := g5.mono (fun k _ hk => (hF k).2 (.inr ((hr2 k).2 hk)))
   have k2 : Keeps F w (w1.setCell ⟨t, 3, none⟩ (.slice (some ⟨g, 0, none⟩) (l.length + 1) c')) := k1.trans (hks.mono (fun k _ e => (hF k).2 (.inl ((h2 k).2 e))))
   exact k2.andThen g6 (fun i hi e => by
     rcases g4 with g4 | g4
     ·exact (hF i).2 (.inr ((hr2 i).2 (e ▸ g4)))
     subst e; omega)
  rcases hk with hk | rfl
  ·exact .inl ((hF k).2 (.inl hk))
  rcases g4 with g4 | g4
  ·exact .inl ((hF _).2 (.inr ((hr2 _).2 g4)))
  exact .inr g4
structure gD (next : Int) (l : List Int) (us : Used Value) (most av : Int) : Prop where
  ti : TI next l us
  sQ : (us.length : Int) ≤ most
  sR : most ≤ 1024
  sS : next ≤ most + 1
  xZ : next ≤ av + 1
  vw : 0 ≤ av ∧ av ≤ 1024
theorem gD.GH {next : Int} {l : List Int} {us : Used Value} {most av : Int} (h : gD next l us most av) : 1 ≤ TabM.least us ∧ TabM.least us ≤ next ∧ TabM.least us ∉ keys us ∧ next ≤ 1025 ∧ 1 ≤ next ∧ us.length ≤ 1024 ∧ l.length ≤ 1024 := by
  obtain ⟨h1, h2, h3⟩ := kS (keys us) 1 h.ti.rise (fun x hx => (h.ti.pos x hx).1)
  have hc := h.ti.count
  have m0 := h.sQ
  have m1 := h.sR
  have n1 := h.sS
  refine ⟨h1, ?_, h2, by omega, by omega, by omega, by omega⟩
  rcases Int.lt_or_le next (TabM.least us) with h4 | h4
  ·have := h3 next (by omega) h4
   have := (h.ti.pos _ this).2
   omega
  exact h4
theorem Cx : aO [] = fun _ => none := by
  funext x
  unfold aO
  split <;> rfl
theorem AO {us : Used Value} {h : Int} (hn : h ∉ keys us) : aO us (.int .i64 h) = none := get_none.2 hn
structure TX where
  m : Nat
  A : Option Addr
  c : Nat
  l : List Int
  next : Int
def lT (TT : TypeId) (t : Nat) (most av : Int) (us : Used Value) (x : TX) : List HP :=
  [.blk t [.int .i64 most, .int .i64 av, .map (some x.m), .slice x.A x.l.length x.c, .int .i64 x.next] TT, .abs (aE Tryz.prog 3 x.m (aO us) us.length), .abs (aI 3 1 x.A x.l.length x.c (ints x.l))]
def br (TT : TypeId) (t : Nat) (most av : Int) (us : Used Value) : bT where
  h F w := ∃ x : TX, gD x.next x.l us most av ∧ (bund (lT TT t most av us x)).h F w
  lt := fun ⟨_, _, h⟩ k hk => bT.lt _ h k hk
  st := fun ⟨x, h1, h⟩ _ _ hk hn => ⟨x, h1, bT.st _ h hk hn⟩
theorem Sat.rU {β : Bs} {TT : TypeId} {t : Nat} {most av : Int} {us : Used Value} {l : List HP} {w : World} (h : Sat β (l ++ [.abs (br TT t most av us)]) w) : ∃ x : TX, gD x.next x.l us most av ∧ Sat β (l ++ lT TT t most av us x) w :=
  h.N9 (fun _ h => h)
theorem Sat.lU {β : Bs} {TT : TypeId} {t : Nat} {most av : Int} {us : Used Value} {l : List HP} {w : World} (x : TX) (hx : gD x.next x.l us most av) (h : Sat β (l ++ lT TT t most av us x) w) : Sat β (l ++ [.abs (br TT t most av us)]) w :=
  h.Mb (fun _ h => ⟨x, hx, h⟩)
end
section
open Go.RowKit Go.Maps Go.Sort Go.Shelf HeapM TabM
theorem gX {z : Int} (h : (Lit.int .i64 z).wf = true) : keyOf Tryz.prog 3 (.int .i64 z) = some (.int .i64 z) :=
  keyOf_int_mk Tryz.underlying3 h
theorem AP : ∀ {l m : List Int}, l.Pairwise (· < ·) → m.Pairwise (· < ·) → (∀ z, z ∈ l ↔ z ∈ m) → l = m
  | [], [], _, _, _ => rfl
  | [], b :: m, _, _, h => by have := (h b).2 (List.mem_cons_self ..); cases this
  | a :: l, [], _, _, h => by have := (h a).1 (List.mem_cons_self ..); cases this
  | a :: l, b :: m, hl, hm, h => by
    have hl' := List.pairwise_cons.1 hl
    have hm' := List.pairwise_cons.1 hm
    have e : a = b := by
      rcases List.mem_cons.1 ((h a).1 (List.mem_cons_self ..)) with e | e
      ·exact e
      rcases List.mem_cons.1 ((h b).2 (List.mem_cons_self ..)) with e2 | e2
      ·exact e2.symm
      have := hm'.1 a e; have := hl'.1 b e2; omega
    subst e
    congr 1
    refine AP hl'.2 hm'.2 (fun z => ⟨fun hz => ?_, fun hz => ?_⟩)
    ·rcases List.mem_cons.1 ((h z).1 (List.mem_cons_of_mem _ hz)) with e | e
     ·have := hl'.1 z hz; omega
     exact e
    rcases List.mem_cons.1 ((h z).2 (List.mem_cons_of_mem _ hz)) with e | e
    ·have := hm'.1 z hz; omega
    exact e
theorem EW (x y : Int) : (if y > x then y else x) = max x y := by
  rw [Int.max_def]; split <;> split <;> omega
theorem Kh (x y : Int) : (if y < x then y else x) = min x y := by
  rw [Int.min_def]; split <;> split <;> omega
theorem GI (m : Nat) : AnyZI.SortsIn Tryz.prog Tryz.sortedI_ren Fence.wide m :=
  ⟨fun blk off cap ss W hH hblk hsz => callsIn_wide.2 (AnyM.slices_Sort_int Tryz.sortI blk off cap ss W hH hblk hsz),
   fun p cap W => callsIn_wide.2 (AnyM.slices_Sort_int_none Tryz.sortI p cap W)⟩
def x3 (bk : Nat) : Value := .func (.func 74) #[] #[.pointer (some ⟨bk, 0, none⟩)]
theorem I5 {β : Bs} (mb : Option Nat) : Spec Tryz.prog β 41 #[.map mb] [] (fun v l => ∃ bk, v = x3 bk ∧ l = [.blk bk [.map mb] 80]) :=
  Spec.xH fun W _ => by
    have h : CallsIn Fence.wide 5 Tryz.prog 41 #[.map mb] W fun e w' => e = .returned (x3 W.heap.size) ∧ w' = W.alloc (.cells #[.map mb] 80) := AnyZI.keys_in Tryz.keysI Fence.wide 5 trivial rfl mb W
    refine ((callsIn_wide (n := 5)).1 h).mono ?_
    rintro e w' ⟨rfl, rfl⟩
    refine ⟨_, _, rfl, ⟨W.heap.size, rfl, rfl⟩, (Keeps.refl _ _).alloc _, fun k => k = W.heap.size, ⟨?_, fun k => Iff.rfl⟩, fun k hk => Nat.le_of_eq hk.symm⟩
    show (W.heap.push _)[W.heap.size]? = _
    simp
structure KeysOf (f : Lit → Option Value) (ss : List Int) : Prop where
  mem : ∀ z, z ∈ ss ↔ (f (.int .i64 z)).isSome = true
  sorted : ss.Pairwise (· < ·)
theorem x5 {w : World} {b n : Nat} {K : TypeId} {f : Lit → Option Value} {D : DataW Value} (hK : Tryz.prog.underlying K = some (.int .i64)) (L : Keyed Tryz.prog K) (hown : w.ownsMap Tryz.prog K oW b n D) (hf : ∀ kl, Maps.has D kl = (f kl).isSome) {ss : List Int} (hp : ss.Perm (intKeys D)) :
    KeysOf f (ss.mergeSort (fun x y => decide (x ≤ y))) := by
  obtain ⟨es, hD, hpw, _⟩ := hown.entries L
  obtain ⟨es', hD', hko⟩ := hown.keysOf
  obtain rfl : es = es' := by rw [hD] at hD'; simpa using hD'
  have hk : ∀ p ∈ es, ∃ x, p.1 = .int .i64 x := fun p hp => by
    obtain ⟨v, hv⟩ := hko p hp
    obtain ⟨x, _, h, _⟩ := keyOf_i64 hK hv
    exact ⟨x, h⟩
  have hmem : ∀ z, z ∈ intKeys D ↔ (f (.int .i64 z)).isSome = true := fun z => by
    rw [← hf, hD]
    show z ∈ es.map (fun p => Go.intOf p.1) ↔ es.any (fun p => p.1.sameKey (.int .i64 z)) = true
    rw [List.mem_map, List.any_eq_true]
    refine ⟨fun ⟨p, hp, e⟩ => ⟨p, hp, ?_⟩, fun ⟨p, hp, e⟩ => ⟨p, hp, ?_⟩⟩
    ·obtain ⟨x, hx⟩ := hk p hp
     rw [hx] at e ⊢
     have e : x = z := e
     simp [Lit.sameKey, e]
    obtain ⟨x, hx⟩ := hk p hp
    rw [hx] at e ⊢
    show x = z
    simpa [Lit.sameKey] using e
  have hnd : (intKeys D).Nodup := by
    rw [hD]
    show (es.map fun p => Go.intOf p.1).Nodup
    rw [List.nodup_iff_pairwise_ne, List.pairwise_map]
    refine hpw.imp_of_mem (fun {p q} hp hq hne e => hne ?_)
    obtain ⟨x, hx⟩ := hk p hp
    obtain ⟨y, hy⟩ := hk q hq
    rw [hx, hy] at e ⊢
    have e : x = y := e
    rw [e]
  have tr : ∀ a b c : Int, decide (a ≤ b) = true → decide (b ≤ c) = true → decide (a ≤ c) = true := fun a b c h1 h2 => by simp only [decide_eq_true_eq] at *; omega
  have to : ∀ a b : Int, (decide (a ≤ b) || decide (b ≤ a)) = true := fun a b => by simp only [Bool.or_eq_true, decide_eq_true_eq]; omega
  have hperm := (List.mergeSort_perm ss (fun x y => decide (x ≤ y))).trans hp
  refine ⟨fun z => by rw [hperm.mem_iff, hmem], ?_⟩
  have h1 := List.pairwise_mergeSort tr to ss
  have h2 : (ss.mergeSort (fun x y => decide (x ≤ y))).Nodup := hperm.nodup_iff.2 hnd
  rw [List.nodup_iff_pairwise_ne] at h2
  refine (h1.and h2).imp (fun {a b} h => ?_)
  have h3 := h.1
  have h4 := h.2
  simp only [decide_eq_true_eq] at h3
  omega
theorem EX {β : Bs} (b bk n : Nat) (f : Lit → Option Value) (hn : n ≤ 16777216) :
    Spec Tryz.prog β 40 #[x3 bk] [.abs (aE Tryz.prog 3 b f n), .blk bk [.map (some b)] 80] (fun v l => ∃ A cap ss, v = .slice A ss.length cap ∧ KeysOf f ss ∧ ss.length = n ∧
      l = [.abs (aE Tryz.prog 3 b f n), .blk bk [.map (some b)] 80, .abs (aI 3 1 A ss.length cap (ints ss))]) := by
  intro R w hS
  obtain ⟨F1, h1⟩ := hS.get (i := 0) (p := .abs (aE Tryz.prog 3 b f n)) rfl
  obtain ⟨F2, h2⟩ := hS.get (i := 1) (p := .blk bk [.map (some b)] 80) rfl
  obtain ⟨D, hown, hsz, hhas, _⟩ := h1.1
  have hcell : w.cell? ⟨bk, 0, none⟩ = some (.map (some b)) := (eP h2.1 rfl rfl rfl).1
  have hseq : SeqGives Fence.wide 2 Tryz.prog 74 #[.pointer (some ⟨bk, 0, none⟩)] encZ (fun ss => ss.Perm (intKeys D)) (Maps.size D) w :=
    AnyZI.keys_gives (ρ := Tryz.keysI_ren) { Tryz.keysI with } Fence.wide _ trivial rfl (by omega) bk b n D w (lt_of_some h2.1) hcell hown
  have cS := AnyZI.sorted_in Tryz.sortedI Fence.wide 5 trivial trivial trivial trivial rfl (by omega) (GI _) (enters_of Tryz.func73 (by kernel_rfl) rfl) 74 #[.pointer (some ⟨bk, 0, none⟩)] trivial (enters_of Tryz.func74 (by kernel_rfl) rfl) _ _ (by rw [hsz]; unfold maxLen; omega) (by rw [hsz]; omega) _ hseq
  change CallsIn _ _ Tryz.prog 40 _ _ _ at cS
  refine ((callsIn_wide (n := 5)).1 cS).mono ?_
  rintro e w' ⟨v, ss, rfl, hp, hrow, hnil, hb⟩
  have hlen : (ss.mergeSort (fun x y => decide (x ≤ y))).length = ss.length := List.length_mergeSort ss
  have hkeys := x5 Tryz.underlying3 cU hown hhas hp
  have pX : ∃ A cap, v = .slice A ss.length cap := by
    rcases hrow.2 with ⟨e1, e2⟩ | ⟨g, cp, cur, e1, _⟩
    ·exact ⟨none, 0, by rw [e1, e2]⟩
    exact ⟨_, cp, e1⟩
  obtain ⟨A, cap, rfl⟩ := pX
  have hn1 : ss.length = n := by
    rw [hp.length_eq, ← hsz]
    obtain ⟨es, hD, _⟩ := hown.entries cU
    rw [hD]
    exact List.length_map ..
  have hq : Sat β ([.abs (aE Tryz.prog 3 b f n), .blk bk [.map (some b)] 80, .abs R] ++ [.abs (aI 3 1 A ss.length cap (ints (ss.mergeSort (fun x y => decide (x ≤ y)))))]) w' := by
    refine Sat.new (F := fun k => (Value.slice A ss.length cap).ownBlock = some k) hS ⟨?_, fun k => Iff.rfl⟩ ⟨hb.os, hb.tape, hb.output, hb.size, fun k hk _ => hb.block k hk⟩ (fun k hk => (hrow.lt k hk).1)
    refine ⟨hrow.1, ?_⟩
    rcases hrow.2 with h | ⟨g, cp, cur, e1, _, h3, h4⟩
    ·exact .inl h
    exact .inr ⟨g, cp, cur, e1, Nat.zero_le _, h3, h4⟩
  refine ⟨_, [.abs (aE Tryz.prog 3 b f n), .blk bk [.map (some b)] 80, .abs (aI 3 1 A ss.length cap (ints (ss.mergeSort (fun x y => decide (x ≤ y)))))], rfl, ⟨A, cap, ss.mergeSort (fun x y => decide (x ≤ y)), by rw [hlen], hkeys, by rw [hlen]; exact hn1, by rw [hlen]⟩, ?_⟩
  exact hq.pick (idx := [0, 1, 3, 2]) rfl rfl
end
section
open Go.RowKit HeapM TabM Go.Maps
attribute [local irreducible] aj aR af ai
theorem K8 {us : Used Value} {ss : List Int} (hr : TabM.bP (keys us)) (h : KeysOf (aO us) ss) : ss = keys us := by
  refine AP h.sorted hr (fun z => ?_)
  rw [h.mem]
  show (TabM.get us z).isSome = true ↔ z ∈ keys us
  refine ⟨fun h => ?_, fun h => ?_⟩
  ·obtain ⟨x, hx⟩ := Option.isSome_iff_exists.1 h; exact get_some hx
  cases hg : TabM.get us z with
  | some x => rfl
  | none => exact absurd h (get_none.1 hg)
theorem Cy {β : Bs} (most : Int) :
    Spec Tryz.prog β 34 #[vI (most)] [] (fun v l => ∃ t, v = vP t ∧ l = [.abs (br 156 t (min (max most 0) 1024) 0 [])]) := by
 refine Spec.enter Tryz.func34 rfl Tryz.ntmps34 (Nat.le_of_ble_eq_true rfl) (fun R => ?_)
 refine SR ?_
 refine gK 1 [] [] ?_
 refine NS ?_
 refine gK 3 [(5, vI (min (max most 0) 1024))] [(1, p_ ⟨[], none, none, none, some (vI (max most 0))⟩ [(Value.int .i64 (if 0 > most then 0 else most)) = (.int .i64 (max most 0))] ⟨congrArg (Value.int .i64) (EW _ _), trivial⟩), (2, p_ ⟨[], none, none, none, some (vI (min (max most 0) 1024))⟩ [(Value.int .i64 (if 1024 < max most 0 then 1024 else max most 0)) = (.int .i64 (min (max most 0) 1024))] ⟨congrArg (Value.int .i64) (Kh _ _), trivial⟩)] ?_
 refine aj.kK (d := (some 6)) (t := 80) (fun _ => by kernel_rfl) Tryz.prog rfl 3 (fun m1 => ?_)
 refine gN 3 (fun b2 => [(2, vP b2)]) (fun _ => []) (fun _ => []) (fun b2 => .blk b2 [vI (min (max most 0) 1024), vI 0, .map (some m1), .slice none (0) (0), vI 1] 156) (fun b2 => ?_)
 refine NN (af.ret ?_)
 refine ai.mem (aP := [.abs R, .abs (aE Tryz.prog 3 m1 (fun _ => none) 0), .blk b2 [vI (min (max most 0) 1024), vI 0, .map (some m1), .slice none (0) (0), vI 1] 156, .abs (aI 3 1 none 0 0 ([]))]) (fun w hS => hS.jX (e := 3) (size := 1)) ?_
 refine ai.mem (aP := [.abs R, .abs (br 156 b2 (min (max most 0) 1024) 0 [])]) (fun w hS => Sat.lU (l := [.abs R]) ⟨m1, none, 0, [], 1⟩ ⟨TI.empty, by show ((0 : Nat) : Int) ≤ min (max most 0) 1024; omega, by omega, by show (1 : Int) ≤ min (max most 0) 1024 + 1; omega, by show (1 : Int) ≤ 0 + 1; decide, by decide⟩ (by rw [← Cx] at hS; exact hS.pick (idx := [0, 2, 1, 3]) (l' := [.abs R] ++ lT 156 b2 (min (max most 0) 1024) 0 [] ⟨m1, none, 0, [], 1⟩) rfl rfl)) ?_
 exact RT (vP b2) [1, 0] (⟨b2, rfl, rfl⟩)
theorem jR {β : Bs} (t : Nat) (most av : Int) (us : Used Value) (h : Int) (hw : (Lit.int .i64 h).wf = true) (x : Value) (hg : TabM.get us h = some x) :
    Spec Tryz.prog β 136 #[vP t, vI (h)] [.abs (br 156 t most av us)] (fun v l => v = .tuple #[x, vI 0] ∧ l = [.abs (br 156 t most av us)]) := by
 refine Spec.enter Tryz.func136 rfl Tryz.ntmps136 (Nat.le_of_ble_eq_true rfl) (fun R => ?_)
 refine af.seq ?_
 refine af.Cw (Φ := fun x : TX => gD x.next x.l us most av) (hp := fun x => [.abs R] ++ lT 156 t most av us x) (fun w hS => (hS.pick (idx := [1, 0]) (l' := [.abs R] ++ [.abs (br 156 t most av us)]) rfl rfl).rU) (fun x hT => ?_)
 obtain ⟨m, A, c, l, next⟩ := x
 replace hT : gD next l us most av := hT
 have hb := hT.GH
 have hm0 := hT.sQ
 have hm1 := hT.sR
 have hn1 := hT.sS
 have hn2 := hT.xZ
 have GJ := hT.vw
 have Ki := hT.ti.count
 show af _ _ _ _ _ [.abs R, .blk t [vI (most), vI (av), .map (some m), .slice A (l.length) (c), vI (next)] 156, .abs (aE Tryz.prog 3 m (aO us) us.length), .abs (aI 3 1 A l.length c (ints l))] _
 refine af.region ?_
 refine gK 2 [] [] ?_
 refine NS ?_
 refine gK 5 [(12, .map (some m)), (13, vI (h))] [(3, a_ 1 t)] ?_
 refine aj.mh 2 (d := (some 14)) (t := 80) (K := 3) (E := 84) (b := m) (n := us.length) (f := (aO us)) (x := (.tmp 12)) (ix := (.tmp 13)) (key := .int .i64 (h)) (z := .nilIface) (kl := (.int .i64 h)) (r := (some x)) (fun _ => by kernel_rfl) (by kernel_rfl) (fun _ => by kernel_rfl) (fun _ => by kernel_rfl) cU Tryz.underlying80 (fun _ => by kernel_rfl) (gX hw) (hg) ?_
 refine gK 5 [(6, x), (7, .bool true)] [] ?_
 refine NN (af.seq (SR ?_))
 refine gK 2 [(18, .bool false)] [] ?_
 refine NN ?_
 refine CF ?_
 refine af.skip (NX (SR ?_))
 refine gK 3 [(4, x), (5, vI 0)] [] ?_
 refine NN (af.ret ?_)
 refine ai.mem (aP := [.abs R, .abs (br 156 t most av us)]) (fun w hS => Sat.lU (l := [.abs R]) ⟨m, A, c, l, next⟩ (show gD (next) l (us) most (av) from hT) (hS.pick (idx := [0, 1, 2, 3]) (l' := [.abs R] ++ lT 156 t most (av) (us) ⟨m, A, c, l, next⟩) rfl rfl)) ?_
 exact RT (.tuple #[x, vI 0]) [1, 0] (⟨rfl, rfl⟩)
theorem ol {β : Bs} (t : Nat) (most av : Int) (us : Used Value) (h : Int) (hw : (Lit.int .i64 h).wf = true) (hg : TabM.get us h = none) :
    Spec Tryz.prog β 136 #[vP t, vI (h)] [.abs (br 156 t most av us)] (fun v l => v = .tuple #[.nilIface, vI 131] ∧ l = [.abs (br 156 t most av us)]) := by
 refine Spec.enter Tryz.func136 rfl Tryz.ntmps136 (Nat.le_of_ble_eq_true rfl) (fun R => ?_)
 refine af.seq ?_
 refine af.Cw (Φ := fun x : TX => gD x.next x.l us most av) (hp := fun x => [.abs R] ++ lT 156 t most av us x) (fun w hS => (hS.pick (idx := [1, 0]) (l' := [.abs R] ++ [.abs (br 156 t most av us)]) rfl rfl).rU) (fun x hT => ?_)
 obtain ⟨m, A, c, l, next⟩ := x
 replace hT : gD next l us most av := hT
 have hb := hT.GH
 have hm0 := hT.sQ
 have hm1 := hT.sR
 have hn1 := hT.sS
 have hn2 := hT.xZ
 have GJ := hT.vw
 have Ki := hT.ti.count
 show af _ _ _ _ _ [.abs R, .blk t [vI (most), vI (av), .map (some m), .slice A (l.length) (c), vI (next)] 156, .abs (aE Tryz.prog 3 m (aO us) us.length), .abs (aI 3 1 A l.length c (ints l))] _
 refine af.region ?_
 refine gK 2 [] [] ?_
 refine NS ?_
 refine gK 5 [(12, .map (some m)), (13, vI (h))] [(3, a_ 1 t)] ?_
 refine aj.mh 2 (d := (some 14)) (t := 80) (K := 3) (E := 84) (b := m) (n := us.length) (f := (aO us)) (x := (.tmp 12)) (ix := (.tmp 13)) (key := .int .i64 (h)) (z := .nilIface) (kl := (.int .i64 h)) (r := none) (fun _ => by kernel_rfl) (by kernel_rfl) (fun _ => by kernel_rfl) (fun _ => by kernel_rfl) cU Tryz.underlying80 (fun _ => by kernel_rfl) (gX hw) (hg) ?_
 refine gK 5 [(6, .nilIface), (7, .bool false)] [] ?_
 refine NN (af.seq (SR ?_))
 refine gK 2 [(18, .bool true)] [] ?_
 refine NN ?_
 refine CT ?_
 refine SR ?_
 refine gK 3 [(4, .nilIface), (5, vI 131)] [] ?_
 refine NN (af.ret (ai.aq ?_))
 refine ai.mem (aP := [.abs R, .abs (br 156 t most av us)]) (fun w hS => Sat.lU (l := [.abs R]) ⟨m, A, c, l, next⟩ (show gD (next) l (us) most (av) from hT) (hS.pick (idx := [0, 1, 2, 3]) (l' := [.abs R] ++ lT 156 t most (av) (us) ⟨m, A, c, l, next⟩) rfl rfl)) ?_
 exact RT (.tuple #[.nilIface, vI 131]) [1, 0] (⟨rfl, rfl⟩)
theorem uq {β : Bs} (t : Nat) (most av : Int) (us : Used Value) (x : Value) (hf : most ≤ (us.length : Int)) :
    Spec Tryz.prog β 175 #[vP t, x] [.abs (br 156 t most av us)] (fun v l => v = .tuple #[vI 0, vI 130] ∧ l = [.abs (br 156 t most av us)]) := by
 refine Spec.enter Tryz.func175 rfl Tryz.ntmps175 (Nat.le_of_ble_eq_true rfl) (fun R => ?_)
 refine af.seq ?_
 refine af.Cw (Φ := fun x : TX => gD x.next x.l us most av) (hp := fun x => [.abs R] ++ lT 156 t most av us x) (fun w hS => (hS.pick (idx := [1, 0]) (l' := [.abs R] ++ [.abs (br 156 t most av us)]) rfl rfl).rU) (fun x hT => ?_)
 obtain ⟨m, A, c, l, next⟩ := x
 replace hT : gD next l us most av := hT
 have hb := hT.GH
 have hm0 := hT.sQ
 have hm1 := hT.sR
 have hn1 := hT.sS
 have hn2 := hT.xZ
 have GJ := hT.vw
 have Ki := hT.ti.count
 show af _ _ _ _ _ [.abs R, .blk t [vI (most), vI (av), .map (some m), .slice A (l.length) (c), vI (next)] 156, .abs (aE Tryz.prog 3 m (aO us) us.length), .abs (aI 3 1 A l.length c (ints l))] _
 refine af.region ?_
 refine gK 2 [] [] ?_
 refine NN (af.seq (af.seq ?_))
 refine af.bC (by kernel_rfl) (by kernel_rfl) ?_
 refine gQ 4 [(10, .map (some m))] [(3, a_ 1 t)] ?_
 refine aR.rM 2 (d := (some 11)) (t := 80) (K := 3) (E := 84) (b := m) (n := us.length) (f := (aO us)) (x := (.tmp 10)) (ats := #[80]) (fun _ => by kernel_rfl) (by kernel_rfl) (fun _ => by kernel_rfl) rfl Tryz.underlying80 ?_
 refine gQ 5 [(16, .bool (decide ((((us.length : Nat) : Int) : Int) ≥ (most : Int))))] [(3, a_ 1 t)] ?_
 refine NQ (NX ?_)
 refine af.bn (p := (((us.length : Nat) : Int) : Int) ≥ (most : Int)) (fun _ => by kernel_rfl) (fun x6 => ?_) (fun x6 => ?_)
 ·refine SR ?_
  refine gK 2 [(4, vI 0), (5, vI 130)] [] ?_
  refine NN (af.ret (ai.aq ?_))
  refine ai.mem (aP := [.abs R, .abs (br 156 t most av us)]) (fun w hS => Sat.lU (l := [.abs R]) ⟨m, A, c, l, next⟩ (show gD (next) l (us) most (av) from hT) (hS.pick (idx := [0, 1, 2, 3]) (l' := [.abs R] ++ lT 156 t most (av) (us) ⟨m, A, c, l, next⟩) rfl rfl)) ?_
  exact RT (.tuple #[vI 0, vI 130]) [1, 0] (⟨rfl, rfl⟩)
 exact absurd x6 (by omega)
theorem wN {β : Bs} (t : Nat) (most av : Int) (us : Used Value) (x : Value) (hf : (us.length : Int) < most) :
    Spec Tryz.prog β 175 #[vP t, x] [.abs (br 156 t most av us)] (fun v l => v = .tuple #[vI (least us), vI 0] ∧ l = [.abs (br 156 t most (max av ((us.length : Int) + 1)) (ins (least us) x us))]) := by
 refine Spec.enter Tryz.func175 rfl Tryz.ntmps175 (Nat.le_of_ble_eq_true rfl) (fun R => ?_)
 refine af.seq ?_
 refine af.Cw (Φ := fun x : TX => gD x.next x.l us most av) (hp := fun x => [.abs R] ++ lT 156 t most av us x) (fun w hS => (hS.pick (idx := [1, 0]) (l' := [.abs R] ++ [.abs (br 156 t most av us)]) rfl rfl).rU) (fun x hT => ?_)
 obtain ⟨m, A, c, l, next⟩ := x
 replace hT : gD next l us most av := hT
 have hb := hT.GH
 have hm0 := hT.sQ
 have hm1 := hT.sR
 have hn1 := hT.sS
 have hn2 := hT.xZ
 have GJ := hT.vw
 have Ki := hT.ti.count
 show af _ _ _ _ _ [.abs R, .blk t [vI (most), vI (av), .map (some m), .slice A (l.length) (c), vI (next)] 156, .abs (aE Tryz.prog 3 m (aO us) us.length), .abs (aI 3 1 A l.length c (ints l))] _
 refine af.region ?_
 refine gK 2 [] [] ?_
 refine NN (af.seq (af.seq ?_))
 refine af.bC (by kernel_rfl) (by kernel_rfl) ?_
 refine gQ 4 [(10, .map (some m))] [(3, a_ 1 t)] ?_
 refine aR.rM 2 (d := (some 11)) (t := 80) (K := 3) (E := 84) (b := m) (n := us.length) (f := (aO us)) (x := (.tmp 10)) (ats := #[80]) (fun _ => by kernel_rfl) (by kernel_rfl) (fun _ => by kernel_rfl) rfl Tryz.underlying80 ?_
 refine gQ 5 [(16, .bool (decide ((((us.length : Nat) : Int) : Int) ≥ (most : Int))))] [(3, a_ 1 t)] ?_
 refine NQ (NX ?_)
 refine af.bn (p := (((us.length : Nat) : Int) : Int) ≥ (most : Int)) (fun _ => by kernel_rfl) (fun x6 => ?_) (fun x6 => ?_)
 ·exact absurd x6 (by omega)
 refine af.skip (NX (SR ?_))
 refine gK 5 [(6, vI (next))] [(3, a_ 1 t)] ?_
 refine NN (af.seq (SR ?_))
 refine gK 6 [(26, .bool (decide ((((l.length : Nat) : Int) : Int) > (0 : Int))))] [(3, a_ 1 t)] ?_
 refine NN ?_
 refine af.bn (p := (((l.length : Nat) : Int) : Int) > (0 : Int)) (fun _ => by kernel_rfl) (fun rP => ?_) (fun rP => ?_)
 ·refine af.region ?_
  obtain ⟨n, hn⟩ : ∃ n, l.length = n + 1 := ⟨l.length - 1, by omega⟩
  refine aj.tell (p := ∃ g, A = some ⟨g, 0, none⟩) (fun w hS => let ⟨F, h⟩ := hS.get (i := 3) rfl; aI.head h (by omega)) (fun ⟨g, hg⟩ => ?_)
  subst hg
  refine gK 4 [(31, .iface 234 (.pointer (some ⟨t, 3, none⟩)))] [] ?_
  refine gL (f := 192) (args := #[.iface 234 (.pointer (some ⟨t, 3, none⟩))]) (pre := [.blk t [vI (most), vI (av), .map (some m), .slice (some ⟨g, 0, none⟩) (l.length) (c), vI (next)] 156, .abs (aI 3 1 (some ⟨g, 0, none⟩) l.length c (ints l))]) [1, 3] (Mc hn (by have := hT.ti.heap; rwa [hn] at this) hT.ti.inj (by omega)) ?_
  rintro _ _ ⟨rfl, l2, rfl, hp2, hi2, hm2, rfl⟩
  refine gK 5 [(6, vI ((at_ l 0)))] [] ?_
  refine NS ?_
  refine aj.slot 6 (.int .i64 ((at_ l 0))) (.int .i64 ((least us))) (fun _ => by kernel_rfl) (by rw [hT.ti.xY (by omega)]) ?_
  refine gK 6 [(46, .map (some m)), (47, vI ((least us))), (48, x)] [(3, a_ 0 t)] ?_
  refine aj.jW 3 (d := none) (t := 80) (K := 3) (E := 84) (b := m) (n := us.length) (f := (aO us)) (x := (.tmp 46)) (ix := (.tmp 47)) (y := (.tmp 48)) (key := .int .i64 ((least us))) (u := x) (kl := (.int .i64 (least us))) (n' := (us.length + 1)) (f' := (aO (ins (least us) x us))) (fun _ => by kernel_rfl) (by kernel_rfl) (fun _ => by kernel_rfl) (fun _ => by kernel_rfl) (fun _ => by kernel_rfl) cU Tryz.underlying80 (by unfold maxLen; omega) (jM (by omega) (by omega)) (by rw [AO hb.2.2.1]; rfl) (zC hb.2.2.1 x) ?_
  refine NN (af.seq ?_)
  refine af.rB 13 (by kernel_rfl) (by kernel_rfl) ?_
  refine fN.seg (k' := 9) (fr' := [(6, vI ((least us))), (49, vP t), (53, vI (av)), (57, .map (some m))]) (aU := [t = t, t = t]) [o_, o_, o_, o_, ⟨[.at 0], none, none, none, none⟩, o_, o_, o_, ⟨[.at 0], none, none, none, none⟩] [6, 49, 53, 57] (fun _ _ => by kernel_rfl) ⟨rfl, rfl, trivial⟩ (by decide) ?_
  refine fN.rM 3 (d := (some 58)) (t := 80) (K := 3) (E := 84) (b := m) (cnt := (us.length + 1)) (f := (aO (ins (least us) x us))) (x := (.tmp 57)) (ats := #[80]) (fun _ => by kernel_rfl) (by kernel_rfl) (fun _ => by kernel_rfl) rfl Tryz.underlying80 (by decide) ?_
  refine fN.seg (k' := 13) (fr' := [(6, vI ((least us))), (59, vI ((max av ((us.length : Int) + 1)))), (61, .pointer (some ⟨t, 1, none⟩))]) (aU := [(Value.int .i64 (if (((us.length + 1) : Nat) : Int) > av then (((us.length + 1) : Nat) : Int) else av)) = (.int .i64 ((max av ((us.length : Int) + 1))))]) [⟨[], none, none, none, some (vI ((max av ((us.length : Int) + 1))))⟩, o_, o_] [6, 59, 61] (fun _ _ => by kernel_rfl) ⟨by rw [EW]; rfl, trivial⟩ (by decide) ?_
  refine fN.done rfl ?_
  refine gC 1 [] [(0, a_ 0 t)] [(0, [(1, vI ((max av ((us.length : Int) + 1))))])] ?_
  refine NS ?_
  refine gK 3 [(4, vI ((least us))), (5, vI 0)] [] ?_
  refine NN (af.ret ?_)
  refine ai.mem (aP := [.blk t [vI (most), vI ((max av ((us.length : Int) + 1))), .map (some m), .slice (some ⟨g, 0, none⟩) (l2.length) (c), vI (next)] 156, .abs (aI 3 1 (some ⟨g, 0, none⟩) l2.length c (ints l2)), .abs R, .abs (aE Tryz.prog 3 m (aO (ins (least us) x us)) ((ins (least us) x us).length))]) (fun w hS => by rw [gi]; exact hS) ?_
  refine ai.mem (aP := [.abs R, .abs (br 156 t most (max av ((us.length : Int) + 1)) (ins (least us) x us))]) (fun w hS => Sat.lU (l := [.abs R]) ⟨m, some ⟨g, 0, none⟩, c, l2, next⟩ (show gD (next) l2 ((ins (least us) x us)) most ((max av ((us.length : Int) + 1))) from ⟨by rw [hT.ti.xY (by omega)]; exact hT.ti.I4 (by omega) x (by omega) hp2 hi2 hm2, by rw [gi]; omega, by omega, by omega, by omega, by omega⟩) (hS.pick (idx := [2, 0, 3, 1]) (l' := [.abs R] ++ lT 156 t most ((max av ((us.length : Int) + 1))) ((ins (least us) x us)) ⟨m, some ⟨g, 0, none⟩, c, l2, next⟩) rfl rfl)) ?_
  exact RT (.tuple #[vI ((least us)), vI 0]) [1, 0] (⟨rfl, rfl⟩)
 refine af.region ?_
 have hl0 : l = [] := List.eq_nil_of_length_eq_zero (by omega)
 have hl1 : l.length = 0 := by rw [hl0]; rfl
 have hl2 : TI next [] us := hl0 ▸ hT.ti
 refine gC 8 [] [(3, a_ 1 t), (4, wI (next + 1) ((next + 1))), (7, a_ 1 t)] [(1, [(4, vI ((next + 1)))])] ?_
 refine NS ?_
 refine aj.slot 6 (.int .i64 (next)) (.int .i64 ((least us))) (fun _ => by kernel_rfl) (by rw [hl2.xX]) ?_
 refine gK 6 [(46, .map (some m)), (47, vI ((least us))), (48, x)] [(3, a_ 1 t)] ?_
 refine aj.jW 2 (d := none) (t := 80) (K := 3) (E := 84) (b := m) (n := us.length) (f := (aO us)) (x := (.tmp 46)) (ix := (.tmp 47)) (y := (.tmp 48)) (key := .int .i64 ((least us))) (u := x) (kl := (.int .i64 (least us))) (n' := (us.length + 1)) (f' := (aO (ins (least us) x us))) (fun _ => by kernel_rfl) (by kernel_rfl) (fun _ => by kernel_rfl) (fun _ => by kernel_rfl) (fun _ => by kernel_rfl) cU Tryz.underlying80 (by unfold maxLen; omega) (jM (by omega) (by omega)) (by rw [AO hb.2.2.1]; rfl) (zC hb.2.2.1 x) ?_
 refine NN (af.seq ?_)
 refine af.rB 13 (by kernel_rfl) (by kernel_rfl) ?_
 refine fN.seg (k' := 9) (fr' := [(6, vI ((least us))), (49, vP t), (53, vI (av)), (57, .map (some m))]) (aU := [t = t, t = t]) [o_, o_, o_, o_, ⟨[.at 1], none, none, none, none⟩, o_, o_, o_, ⟨[.at 1], none, none, none, none⟩] [6, 49, 53, 57] (fun _ _ => by kernel_rfl) ⟨rfl, rfl, trivial⟩ (by decide) ?_
 refine fN.rM 2 (d := (some 58)) (t := 80) (K := 3) (E := 84) (b := m) (cnt := (us.length + 1)) (f := (aO (ins (least us) x us))) (x := (.tmp 57)) (ats := #[80]) (fun _ => by kernel_rfl) (by kernel_rfl) (fun _ => by kernel_rfl) rfl Tryz.underlying80 (by decide) ?_
 refine fN.seg (k' := 13) (fr' := [(6, vI ((least us))), (59, vI ((max av ((us.length : Int) + 1)))), (61, .pointer (some ⟨t, 1, none⟩))]) (aU := [(Value.int .i64 (if (((us.length + 1) : Nat) : Int) > av then (((us.length + 1) : Nat) : Int) else av)) = (.int .i64 ((max av ((us.length : Int) + 1))))]) [⟨[], none, none, none, some (vI ((max av ((us.length : Int) + 1))))⟩, o_, o_] [6, 59, 61] (fun _ _ => by kernel_rfl) ⟨by rw [EW]; rfl, trivial⟩ (by decide) ?_
 refine fN.done rfl ?_
 refine gC 1 [] [(0, a_ 1 t)] [(1, [(1, vI ((max av ((us.length : Int) + 1))))])] ?_
 refine NS ?_
 refine gK 3 [(4, vI ((least us))), (5, vI 0)] [] ?_
 refine NN (af.ret ?_)
 refine ai.mem (aP := [.abs R, .blk t [vI (most), vI ((max av ((us.length : Int) + 1))), .map (some m), .slice A (l.length) (c), vI ((next + 1))] 156, .abs (aE Tryz.prog 3 m (aO (ins (least us) x us)) ((ins (least us) x us).length)), .abs (aI 3 1 A l.length c (ints l))]) (fun w hS => by rw [gi]; exact hS) ?_
 refine ai.mem (aP := [.abs R, .abs (br 156 t most (max av ((us.length : Int) + 1)) (ins (least us) x us))]) (fun w hS => Sat.lU (l := [.abs R]) ⟨m, A, c, l, (next + 1)⟩ (show gD ((next + 1)) l ((ins (least us) x us)) most ((max av ((us.length : Int) + 1))) from ⟨by rw [hl2.xX, hl0]; exact hl2.I3 x, by rw [gi]; omega, by omega, by omega, by omega, by omega⟩) (hS.pick (idx := [0, 1, 2, 3]) (l' := [.abs R] ++ lT 156 t most ((max av ((us.length : Int) + 1))) ((ins (least us) x us)) ⟨m, A, c, l, (next + 1)⟩) rfl rfl)) ?_
 exact RT (.tuple #[vI ((least us)), vI 0]) [1, 0] (⟨rfl, rfl⟩)
theorem AQ {β : Bs} (t : Nat) (most av : Int) (us : Used Value) (h : Int) (hw : (Lit.int .i64 h).wf = true) (x : Value) (hg : TabM.get us h = some x) :
    Spec Tryz.prog β 138 #[vP t, vI (h)] [.abs (br 156 t most av us)] (fun v l => v = .tuple #[x, vI 0] ∧ l = [.abs (br 156 t most av (del h us))]) := by
 refine Spec.enter Tryz.func138 rfl Tryz.ntmps138 (Nat.le_of_ble_eq_true rfl) (fun R => ?_)
 refine SR ?_
 refine gK 2 [] [] ?_
 refine NS ?_
 refine gK 2 [(9, vP t), (10, vI (h))] [] ?_
 refine gL [0] (jR t most av us h hw x hg) ?_
 rintro _ _ ⟨rfl, rfl⟩
 refine gK 5 [(6, x), (7, vI 0)] [] ?_
 refine NN (af.seq (SR ?_))
 refine gK 2 [(15, .bool true)] [] ?_
 refine NN ?_
 refine CT ?_
 refine af.seq ?_
 refine af.Cw (Φ := fun x : TX => gD x.next x.l us most av) (hp := fun x => [.abs R] ++ lT 156 t most av us x) (fun w hS => (hS.pick (idx := [1, 0]) (l' := [.abs R] ++ [.abs (br 156 t most av us)]) rfl rfl).rU) (fun x0 hT => ?_)
 obtain ⟨m, A, c, l, next⟩ := x0
 replace hT : gD next l us most av := hT
 have hb := hT.GH
 have hm0 := hT.sQ
 have hm1 := hT.sR
 have hn1 := hT.sS
 have hn2 := hT.xZ
 have GJ := hT.vw
 have Ki := hT.ti.count
 have hk := get_some hg
 show af _ _ _ _ _ [.abs R, .blk t [vI (most), vI (av), .map (some m), .slice A (l.length) (c), vI (next)] 156, .abs (aE Tryz.prog 3 m (aO us) us.length), .abs (aI 3 1 A l.length c (ints l))] _
 refine af.region ?_
 refine gK 5 [(19, .map (some m)), (20, vI (h))] [(3, a_ 1 t)] ?_
 refine aj.xK 2 (d := none) (t := 80) (K := 3) (E := 84) (b := m) (n := us.length) (f := (aO us)) (x := (.tmp 19)) (ix := (.tmp 20)) (key := .int .i64 (h)) (kl := (.int .i64 h)) (n' := (us.length - 1)) (f' := (aO (del h us))) (ats := #[80, 3]) (fun _ => by kernel_rfl) (by kernel_rfl) (fun _ => by kernel_rfl) (fun _ => by kernel_rfl) rfl cU Tryz.underlying80 (gX hw) (by rw [show aO us (.int .i64 h) = some x from hg]; rfl) (Ec) ?_
 refine NN (af.region ?_)
 refine gK 6 [(24, .iface 234 (.pointer (some ⟨t, 3, none⟩))), (26, .iface 3 (.int .i64 (h)))] [] ?_
 refine gL (f := 176) (args := #[.iface 234 (.pointer (some ⟨t, 3, none⟩)), .iface 3 (.int .i64 (h))]) (pre := [.blk t [vI (most), vI (av), .map (some m), .slice A (l.length) (c), vI (next)] 156, .abs (aI 3 1 A l.length c (ints l))]) [1, 3] (K7 h hT.ti.heap (by omega)) ?_
 rintro _ _ ⟨rfl, g, c', l2, Qs, hp2, rfl⟩
 refine NS ?_
 refine gK 4 [(4, x), (5, vI 0)] [] ?_
 refine NN (af.ret ?_)
 have hld := nH hT.ti.rise hk
 refine ai.mem (aP := [.blk t [vI (most), vI (av), .map (some m), .slice (some ⟨g, 0, none⟩) (l2.length) (c'), vI (next)] 156, .abs (aI 3 1 (some ⟨g, 0, none⟩) l2.length c' (ints l2)), .abs R, .abs (aE Tryz.prog 3 m (aO (del h us)) ((del h us).length))]) (fun w hS => by rw [show (del h us).length = us.length - 1 by omega]; exact hS) ?_
 refine ai.mem (aP := [.abs R, .abs (br 156 t most av (del h us))]) (fun w hS => Sat.lU (l := [.abs R]) ⟨m, some ⟨g, 0, none⟩, c', l2, next⟩ (show gD (next) l2 ((del h us)) most (av) from ⟨hT.ti.drop hk Qs hp2, by omega, hm1, hn1, hn2, GJ⟩) (hS.pick (idx := [2, 0, 3, 1]) (l' := [.abs R] ++ lT 156 t most (av) ((del h us)) ⟨m, some ⟨g, 0, none⟩, c', l2, next⟩) rfl rfl)) ?_
 exact RT (.tuple #[x, vI 0]) [1, 0] (⟨rfl, rfl⟩)
theorem DI {β : Bs} (t : Nat) (most av : Int) (us : Used Value) (h : Int) (hw : (Lit.int .i64 h).wf = true) (hg : TabM.get us h = none) :
    Spec Tryz.prog β 138 #[vP t, vI (h)] [.abs (br 156 t most av us)] (fun v l => v = .tuple #[.nilIface, vI 131] ∧ l = [.abs (br 156 t most av us)]) := by
 refine Spec.enter Tryz.func138 rfl Tryz.ntmps138 (Nat.le_of_ble_eq_true rfl) (fun R => ?_)
 refine SR ?_
 refine gK 2 [] [] ?_
 refine NS ?_
 refine gK 2 [(9, vP t), (10, vI (h))] [] ?_
 refine gL [0] (ol t most av us h hw hg) ?_
 rintro _ _ ⟨rfl, rfl⟩
 refine gK 5 [(6, .nilIface), (7, vI 131)] [] ?_
 refine NN (af.seq (SR ?_))
 refine gK 2 [(15, .bool false)] [] ?_
 refine NN ?_
 refine CF ?_
 refine af.skip (NX (SR ?_))
 refine gK 4 [(4, .nilIface), (5, vI 131)] [] ?_
 refine NN (af.ret ?_)
 exact RT (.tuple #[.nilIface, vI 131]) [0, 1] (⟨rfl, rfl⟩)
end
section
open Go.RowKit Go.Maps HeapM TabM
theorem Spec.Cq {P : Program} {β : Bs} {f : FuncId} {args : Array Value} {pre R : List HP} {post : Value → List HP → Prop} (h : ∀ β' : Bs, p6 β R β' → Spec P β' f args pre post) : Spec P β f args (pre ++ R) (fun v l => ∃ l0, post v l0 ∧ l = l0 ++ R) := by
  intro A w hS
  have h1 := Sat.turn hS
  rw [← List.append_assoc] at h1
  obtain ⟨β', g1, _, g3⟩ := h1.Cq
  refine (h β' g1 A w (Sat.turn g3)).mono ?_
  rintro e w' ⟨v, l, h1, h2, h3⟩
  refine ⟨v, l ++ R, h1, ⟨l, h2, rfl⟩, ?_⟩
  have h4 := g1.back (Sat.turn h3)
  rw [List.append_assoc] at h4
  exact Sat.turn h4
def aK (L : HL) (us : Used Th) : Used Value := us.map fun q => (q.1, cO L q.2)
theorem dQ (L : HL) (us : Used Th) (h : Int) : aO (aK L us) (.int .i64 h) = (TabM.get us h).map (cO L) := get_map (cO L) us h
theorem zD {L : HL} {us : Used Th} {h : Int} : iD (aO (aK L us)) (.int .i64 h) none = aO (aK L (del h us)) := by
  rw [Ec]
  exact congrArg aO (Eb (cO L) h us).symm
theorem nI (L : HL) (us : Used Th) : (aK L us).length = us.length := List.length_map ..
theorem wO (L : HL) (us : Used Th) : keys (aK L us) = keys us := keys_map (cO L) us
def nU (O : bK) (k : Nat) : bK := ay O k (fun o => { o with gone := true })
def o7 (O : bK) (t : Th) : Prop := (obj O t.k).gone = true ∧ (obj O t.k).opens = 0
instance (O : bK) (t : Th) : Decidable (o7 O t) := inferInstanceAs (Decidable (_ ∧ _))
def freeI (O : bK) (idx : Used Th) (t : Th) : Used Th := if o7 O t then del (obj O t.k).id idx else idx
def iY (O : bK) (used : Int) (t : Th) : Int := if o7 O t then if t.kind = 1 then used - (obj O t.k).data.length else used else used
abbrev pF (f m t : Nat) (X : FM) : HP := .blk f [.int .i64 X.cN, .int .i64 X.cB, .int .i64 X.cH, .int .i64 X.cS, .int .i64 X.cZ, .map (some m), .pointer (some ⟨t, 0, none⟩), .int .i64 X.last, .int .i64 X.ah, .int .i64 X.used] 86
abbrev pI (m : Nat) (L : HL) (us : Used Th) : HP := .abs (aE Tryz.prog 3 m (aO (aK L us)) us.length)
abbrev pT (t : Nat) (most av : Int) (L : HL) (us : Used Th) : HP := .abs (br 156 t most av (aK L us))
abbrev pO (O : bK) (L : HL) : HP := .abs (ak (aN O L))
abbrev pD (O : bK) (L : HL) : HP := .abs (ak (aY O L))
abbrev pE (O : bK) (L : HL) : HP := .abs (ak (bh O L))
end
section
open Go.RowKit Go.Maps HeapM TabM
structure aG where
  X : FM
  O : bK
  idx : Used Th
  us : Used Th
  av : Int
abbrev pA (f m t : Nat) (L : HL) (S : aG) : List HP := [pF f m t S.X, pI m L S.idx, pT t S.X.cH S.av L S.us, pO S.O L, pD S.O L, pE S.O L]
structure aS where
  op : Int
  handle : Int
  other : Int
  name : ByteArray
  text : ByteArray
  dA : Option Addr
  dC : Nat
  data : List UInt8
  mode : Int
  uid : Int
  gid : Int
  sec : Int
  nano : Int
  code : Int
  answer : Int
def fZ (c : aS) : List Value := [.int .i64 c.op, .int .i64 c.handle, .int .i64 c.other, .string c.name, .string c.text, .slice c.dA c.data.length c.dC, .int .i64 c.mode, .int .i64 c.uid, .int .i64 c.gid, .int .i64 c.sec, .int .i64 c.nano, .int .i64 c.code, .int .i64 c.answer]
abbrev pC (cb : Nat) (c : aS) : HP := .blk cb (fZ c) 43
abbrev c0 (c : aS) : aS := { c with answer := 0, code := 230 }
def Px (L : HL) : Except Int Nat → Value
  | .error e => .tuple #[.pointer none, .int .i64 e]
  | .ok d => .tuple #[.pointer (some ⟨L.b d, 0, none⟩), .int .i64 0]
def Py (L : HL) : Except Int Th → Value
  | .error e => .tuple #[.nilIface, .int .i64 e]
  | .ok t => .tuple #[cO L t, .int .i64 0]
noncomputable section
def cL (O : bK) (us : Used Th) (h : Int) (name : ByteArray) (need : Int) : Except Int Nat :=
  match TabM.get us h with
  | none => .error 131
  | some t =>
    if t.kind = 2 then
      if (obj O t.k).gone = true then .error 170
      else if bB name then if bits BinOp.and .i64 (obj O t.k).mode need = need then .ok t.k else .error 175
      else .error 95
    else .error 173
def kZ (s : ByteArray) : Int :=
  if s = ⟨#[]⟩ then 90 else if s.size > 4096 then 93 else if vk s then 0 else 91
def Room (X : FM) (idx : Used Th) : Prop := (idx.length : Int) < X.cN ∧ X.last < 1099511627776 ∧ X.ah < 8192
instance (X : FM) (idx : Used Th) : Decidable (Room X idx) := inferInstanceAs (Decidable (_ ∧ _ ∧ _))
def bN (X : FM) (O : bK) (idx : Used Th) (d : Nat) (name : ByteArray) : Int :=
  if aQ name (obj O d).ah = none then if Room X idx then 0 else 177 else 171
def aB (X : FM) (kind mode : Int) : aM := ⟨X.last + 1, mode, 0, 0, X.cS, X.cZ, 0, 0, false, kind, [], ⟨#[]⟩, [], none⟩
def aD (X : FM) : Nat := (X.last + 1).toNat
def addM (S : aG) (d : Nat) (name : ByteArray) (o : aM) : aG :=
  { S with
    X := { S.X with last := S.X.last + 1, ah := S.X.ah + 1 }
    O := bq S.X (ay S.O (aD S.X) (fun _ => o)) d name ⟨aD S.X, o.kind⟩
    idx := ins (S.X.last + 1) ⟨aD S.X, o.kind⟩ S.idx }
def dropM (S : aG) (d : Nat) (name : ByteArray) (t : Th) : aG :=
  { S with
    X := { S.X with ah := S.X.ah - 1, used := if (obj (aJ S.X S.O d name t) t.k).links = 0 then iY (nU (aJ S.X S.O d name t) t.k) S.X.used t else S.X.used }
    O := if (obj (aJ S.X S.O d name t) t.k).links = 0 then nU (aJ S.X S.O d name t) t.k else aJ S.X S.O d name t
    idx := if (obj (aJ S.X S.O d name t) t.k).links = 0 then freeI (nU (aJ S.X S.O d name t) t.k) S.idx t else S.idx }
theorem om {S : aG} {d : Nat} {name : ByteArray} {t : Th} (h : (obj (aJ S.X S.O d name t) t.k).links = 0) : dropM S d name t = { S with X := { S.X with ah := S.X.ah - 1, used := iY (nU (aJ S.X S.O d name t) t.k) S.X.used t }, O := nU (aJ S.X S.O d name t) t.k, idx := freeI (nU (aJ S.X S.O d name t) t.k) S.idx t } := by
  unfold dropM
  simp only [if_pos h]
theorem oo {S : aG} {d : Nat} {name : ByteArray} {t : Th} (h : ¬ (obj (aJ S.X S.O d name t) t.k).links = 0) : dropM S d name t = { S with X := { S.X with ah := S.X.ah - 1 }, O := aJ S.X S.O d name t } := by
  unfold dropM
  simp only [if_neg h]
def mkdirM (S : aG) (d : Nat) (name : ByteArray) (mode : Int) : Int × aG :=
  if bN S.X S.O S.idx d name = 0 then (0, addM S d name (aB S.X 2 mode)) else (bN S.X S.O S.idx d name, S)
def symlinkM (S : aG) (d : Nat) (name text : ByteArray) : Int × aG :=
  if kZ text = 0 then
    if bN S.X S.O S.idx d name = 0 then (0, addM S d name { aB S.X 3 511 with target := text }) else (bN S.X S.O S.idx d name, S)
  else (kZ text, S)
def unlinkM (S : aG) (d : Nat) (name : ByteArray) : Int × aG :=
  match aQ name (obj S.O d).ah with
  | none => (170, S)
  | some t => if t.kind = 2 then (172, S) else (0, dropM S d name t)
def orphan (O : bK) (k : Nat) : bK := ay O k (fun o => { o with up := none })
def rmdirM (S : aG) (d : Nat) (name : ByteArray) : Int × aG :=
  match aQ name (obj S.O d).ah with
  | none => (170, S)
  | some t => if t.kind = 2 then if (obj S.O t.k).ah = [] then (0, { dropM S d name t with O := orphan (dropM S d name t).O t.k }) else (178, S) else (173, S)
inductive iN (O : bK) (sub : Nat) : Nat → Prop
  | here : iN O sub sub
  | up {k j : Nat} : (obj O k).up = some j → iN O sub j → iN O sub k
instance (O : bK) (sub k : Nat) : Decidable (iN O sub k) := Classical.propDecidable _
def moveM (S : aG) (d : Nat) (name : ByteArray) (to : Nat) (toName : ByteArray) (t : Th) : aG :=
  { S with X := { S.X with ah := S.X.ah - 1 + 1 }, O := bq S.X (aJ S.X S.O d name t) to toName t }
def renameM (S : aG) (d : Nat) (name : ByteArray) (to : Nat) (toName : ByteArray) : Int × aG :=
  match aQ name (obj S.O d).ah with
  | none => (170, S)
  | some t =>
    if t.kind = 2 ∧ iN S.O t.k to then (174, S)
    else match aQ toName (obj S.O to).ah with
      | none => (0, moveM S d name to toName t)
      | some o =>
        if o = t then (0, S) else if o.kind = 2 then (172, S) else if t.kind = 2 then (173, S)
        else (0, moveM (dropM S to toName o) d name to toName t)
def aW (X : FM) (n : Nat) : Nat := (min (n : Int) (X.cB - X.used)).toNat
def writeM (S : aG) (k : Nat) (bs : List UInt8) : Int × Int × aG :=
  if bs = [] then (0, 0, S)
  else if S.X.cB - S.X.used ≤ 0 then (0, 176, S)
  else ((aW S.X bs.length : Int), 0, { S with
    X := { S.X with used := S.X.used + (aW S.X bs.length : Int) }
    O := ay S.O k (fun o => { o with data := o.data ++ bs.take (aW S.X bs.length), sec := S.X.cS, nano := S.X.cZ }) })
def openM (S : aG) (t : Th) : Int × Int × aG :=
  (if (S.us.length : Int) < S.X.cH then least S.us else 0, if (S.us.length : Int) < S.X.cH then 0 else 130, { S with
    O := if (S.us.length : Int) < S.X.cH then ay S.O t.k (fun o => { o with opens := o.opens + 1 }) else S.O
    us := if (S.us.length : Int) < S.X.cH then ins (least S.us) t S.us else S.us
    av := if (S.us.length : Int) < S.X.cH then max S.av ((S.us.length : Int) + 1) else S.av })
theorem iz {S : aG} {t : Th} (h : (S.us.length : Int) < S.X.cH) : openM S t = (least S.us, 0, { S with O := ay S.O t.k (fun o => { o with opens := o.opens + 1 }), us := ins (least S.us) t S.us, av := max S.av ((S.us.length : Int) + 1) }) := by
  unfold openM
  simp only [if_pos h]
theorem jI {S : aG} {t : Th} (h : ¬ (S.us.length : Int) < S.X.cH) : openM S t = (0, 130, S) := by
  unfold openM
  simp only [if_neg h]
abbrev oO := Int × aG × aS
def iK (S : aG) (c : aS) : oO :=
  match TabM.get S.idx c.other with
  | none => (141, S, c)
  | some t => if t.kind = 2 then ((openM S t).2.1, (openM S t).2.2, { c with answer := (openM S t).1 }) else (173, S, c)
def eM (O : bK) (us : Used Th) (c : aS) : Except Int Th :=
  match cL O us c.handle c.name 64 with
  | .error e => .error e
  | .ok d => match aQ c.name (obj O d).ah with
    | none => .error 170
    | some t => .ok t
def d9 (S : aG) (c : aS) : oO :=
  match eM S.O S.us c with
  | .error e => (e, S, c)
  | .ok t => if t.kind = 3 then (174, S, c) else if t.kind = 1 then (173, S, c) else ((openM S t).2.1, (openM S t).2.2, { c with answer := (openM S t).1 })
def dP (S : aG) (c : aS) : oO :=
  match eM S.O S.us c with
  | .error e => (e, S, c)
  | .ok t => if t.kind = 3 then (174, S, c) else if t.kind = 2 then (172, S, c) else ((openM S t).2.1, (openM S t).2.2, { c with answer := (openM S t).1 })
def lu (m : Int) : Prop := 0 ≤ m ∧ m ≤ 4095
instance (m : Int) : Decidable (lu m) := inferInstanceAs (Decidable (_ ∧ _))
def eX (S : aG) (c : aS) : oO :=
  match cL S.O S.us c.handle c.name 192 with
  | .error e => (e, S, c)
  | .ok d => if lu c.mode then ((mkdirM S d c.name c.mode).1, (mkdirM S d c.name c.mode).2, c) else (120, S, c)
def createM (S : aG) (d : Nat) (name : ByteArray) (mode : Int) : Int × Int × aG :=
  if bN S.X S.O S.idx d name = 0 then
    if (S.us.length : Int) < S.X.cH then
      (least S.us, 0, addM { S with us := ins (least S.us) ⟨aD S.X, 1⟩ S.us, av := max S.av ((S.us.length : Int) + 1) } d name { aB S.X 1 mode with opens := 1 })
    else (0, 130, S)
  else (0, bN S.X S.O S.idx d name, S)
def dr (S : aG) (c : aS) : oO :=
  match cL S.O S.us c.handle c.name 192 with
  | .error e => (e, S, c)
  | .ok d => if lu c.mode then
      if bN S.X S.O S.idx d c.name = 0 then ((createM S d c.name c.mode).2.1, (createM S d c.name c.mode).2.2, { c with answer := (createM S d c.name c.mode).1 })
      else (bN S.X S.O S.idx d c.name, S, c)
    else (120, S, c)
def eS (S : aG) (c : aS) : oO :=
  match cL S.O S.us c.handle c.name 192 with
  | .error e => (e, S, c)
  | .ok d => ((symlinkM S d c.name c.text).1, (symlinkM S d c.name c.text).2, c)
def linkM (S : aG) (d : Nat) (name : ByteArray) (to : Nat) (toName : ByteArray) : Int × aG :=
  match aQ name (obj S.O d).ah with
  | none => (170, S)
  | some t => if t.kind = 2 then (172, S)
    else if aQ toName (obj S.O to).ah = none then
      if S.X.ah < 8192 then (0, { S with X := { S.X with ah := S.X.ah + 1 }, O := bq S.X S.O to toName t }) else (177, S)
    else (171, S)
def bW (S : aG) (c : aS) : oO :=
  match cL S.O S.us c.handle c.name 64 with
  | .error e => (e, S, c)
  | .ok d => match cL S.O S.us c.other c.text 192 with
    | .error e => (e, S, c)
    | .ok to => ((linkM S d c.name to c.text).1, (linkM S d c.name to c.text).2, c)
def fF (S : aG) (c : aS) : oO :=
  match cL S.O S.us c.handle c.name 192 with
  | .error e => (e, S, c)
  | .ok d => ((unlinkM S d c.name).1, (unlinkM S d c.name).2, c)
def gj (S : aG) (c : aS) : oO :=
  match cL S.O S.us c.handle c.name 192 with
  | .error e => (e, S, c)
  | .ok d => ((rmdirM S d c.name).1, (rmdirM S d c.name).2, c)
def eO (S : aG) (c : aS) : oO :=
  match cL S.O S.us c.handle c.name 192 with
  | .error e => (e, S, c)
  | .ok d => match cL S.O S.us c.other c.text 192 with
    | .error e => (e, S, c)
    | .ok to => ((renameM S d c.name to c.text).1, (renameM S d c.name to c.text).2, c)
def fC (S : aG) (c : aS) : oO :=
  match TabM.get S.us c.handle with
  | none => (131, S, c)
  | some t => if t.kind = 1 then ((writeM S t.k c.data).2.1, (writeM S t.k c.data).2.2, { c with answer := (writeM S t.k c.data).1 }) else (172, S, c)
def x7 (m : Int) : Prop := 0 ≤ m ∧ m ≤ 2147483647
instance (m : Int) : Decidable (x7 m) := inferInstanceAs (Decidable (_ ∧ _))
def bF (S : aG) (c : aS) : oO :=
  match TabM.get S.us c.handle with
  | none => (131, S, c)
  | some t =>
    if (obj S.O t.k).gone = true ∧ t.kind = 2 then (170, S, c)
    else if lu c.mode then
      if x7 c.uid ∧ x7 c.gid then
        if cT c.sec c.nano then (0, { S with O := ay S.O t.k (fun o => { o with mode := c.mode, uid := c.uid, gid := c.gid, sec := c.sec, nano := c.nano }) }, c)
        else (20, S, c)
      else (11, S, c)
    else (120, S, c)
def lP (O : bK) (c : aS) : Option Th → aS
  | none => { c with other := 0, mode := 0, uid := 0, gid := 0, sec := 0, nano := 0 }
  | some t => { c with answer := (obj O t.k).id, other := t.kind, mode := (obj O t.k).mode, uid := (obj O t.k).uid, gid := (obj O t.k).gid, sec := (obj O t.k).sec, nano := (obj O t.k).nano }
def jS (S : aG) (c : aS) : oO :=
  match TabM.get S.us c.handle with
  | none => (131, S, lP S.O c none)
  | some t => (0, S, lP S.O c (some t))
def fH (S : aG) (c : aS) : oO :=
  match eM S.O S.us c with
  | .error e => (e, S, lP S.O c none)
  | .ok t => (0, S, lP S.O c (some t))
def oq (O : bK) (k : Nat) : bK := ay O k (fun o => { o with opens := o.opens - 1 })
def iI (S : aG) (c : aS) : oO :=
  match TabM.get S.us c.handle with
  | none => (131, S, c)
  | some t => (0, { S with
      X := { S.X with used := iY (oq S.O t.k) S.X.used t }
      O := oq S.O t.k
      idx := freeI (oq S.O t.k) S.idx t
      us := del c.handle S.us }, c)
def opM (S : aG) (c : aS) : oO :=
  if c.op = 1 then iK S c else if c.op = 2 then d9 S c else if c.op = 3 then dP S c else if c.op = 4 then eX S c
  else if c.op = 5 then dr S c else if c.op = 6 then eS S c else if c.op = 7 then bW S c else if c.op = 8 then fF S c
  else if c.op = 9 then fC S c else if c.op = 10 then bF S c else if c.op = 11 then jS S c else if c.op = 12 then fH S c
  else if c.op = 13 then iI S c else if c.op = 14 then gj S c else if c.op = 15 then eO S c else (230, S, c)
def doM (S : aG) (c : aS) : aG × aS :=
  ((opM S { c with answer := 0, code := 230 }).2.1, { (opM S { c with answer := 0, code := 230 }).2.2 with code := (opM S { c with answer := 0, code := 230 }).1 })
end
end
section
open Go.RowKit Go.Maps HeapM TabM
section sums
variable {V : Type} {g g' : Int × V → Nat} {us : Used V} {h : Int} {v : V}
def cM (g : Int × V → Nat) : Used V → Nat
  | [] => 0
  | p :: r => g p + cM g r
theorem wP : cM g (ins h v us) = g (h, v) + cM g us := by
  induction us with
  | nil => rfl
  | cons p r ih =>
    unfold ins
    split
    ·rfl
    show g p + cM g (ins h v r) = g (h, v) + (g p + cM g r)
    rw [ih]; omega
theorem eT (hc : ∀ p ∈ us, g' p = g p) : cM g' us = cM g us := by
  induction us with
  | nil => rfl
  | cons p r ih =>
    show g' p + cM g' r = g p + cM g r
    rw [hc p (List.mem_cons_self ..), ih (fun q hq => hc q (List.mem_cons_of_mem _ hq))]
theorem Ee (hc : ∀ p ∈ us, g' p ≤ g p) : cM g' us ≤ cM g us := by
  induction us with
  | nil => exact Nat.le_refl _
  | cons p r ih =>
    show g' p + cM g' r ≤ g p + cM g r
    exact Nat.add_le_add (hc p (List.mem_cons_self ..)) (ih (fun q hq => hc q (List.mem_cons_of_mem _ hq)))
theorem qg {p : Int × V} {r : Used V} : TabM.get (p :: r) h = if p.1 = h then some p.2 else TabM.get r h := by
  unfold TabM.get
  rw [List.find?_cons]
  by_cases e : p.1 = h
  ·simp [e]
  have e2 : (p.1 == h) = false := by simpa using e
  rw [e2, if_neg e]
theorem get_mem {us : Used V} (e : TabM.get us h = some v) : (h, v) ∈ us := by
  induction us with
  | nil => cases e
  | cons p r ih =>
    rw [qg] at e
    split at e
    ·rename_i e2; cases e; subst e2; exact List.mem_cons_self ..
    exact List.mem_cons_of_mem _ (ih e)
theorem kT {us : Used V} (hr : TabM.bP (keys us)) (e : (h, v) ∈ us) : TabM.get us h = some v := by
  induction us with
  | nil => cases e
  | cons p r ih =>
    rw [keys_cons] at hr
    obtain ⟨h1, h2⟩ := List.pairwise_cons.1 hr
    rw [qg]
    rcases List.mem_cons.1 e with e | e
    ·subst e; rw [if_pos rfl]
    have : p.1 < h := h1 h (List.mem_map.2 ⟨(h, v), e, rfl⟩)
    rw [if_neg (by omega)]
    exact ih h2 e
theorem j5 (e : TabM.get us h = some v) : g (h, v) ≤ cM g us := by
  have hm := get_mem e
  induction us with
  | nil => cases hm
  | cons p r ih =>
    show _ ≤ g p + cM g r
    rw [qg] at e
    split at e
    ·rename_i e2; cases e; subst e2; exact Nat.le_add_right ..
    rcases List.mem_cons.1 hm with e2 | e2
    ·subst e2; exact Nat.le_add_right ..
    exact Nat.le_trans (ih e e2) (Nat.le_add_left ..)
theorem wQ (hr : TabM.bP (keys us)) (e : TabM.get us h = some v) (hc : ∀ p ∈ us, p.1 ≠ h → g' p = g p) : cM g' us + g (h, v) = cM g us + g' (h, v) := by
  induction us with
  | nil => cases e
  | cons p r ih =>
    rw [keys_cons] at hr
    obtain ⟨h1, h2⟩ := List.pairwise_cons.1 hr
    rw [qg] at e
    show g' p + cM g' r + _ = g p + cM g r + _
    split at e
    ·rename_i e2
     cases e
     have e3 : cM g' r = cM g r := eT (fun q hq => hc q (List.mem_cons_of_mem _ hq) (by
       have := h1 q.1 (List.mem_map.2 ⟨q, hq, rfl⟩); omega))
     have e4 : p = (h, p.2) := by rw [← e2]
     rw [e3, ← e4]; omega
    rename_i e2
    have := ih h2 e (fun q hq => hc q (List.mem_cons_of_mem _ hq))
    have := hc p (List.mem_cons_self ..) e2
    omega
theorem I6 {p : Int × V} {r : Used V} : del h (p :: r) = if p.1 = h then del h r else p :: del h r := by
  unfold del
  rw [List.filter_cons]
  by_cases e : p.1 = h
  ·simp [e]
  simp [e]
theorem K9 {us : Used V} (hn : h ∉ keys us) : del h us = us := by
  unfold del
  refine List.filter_eq_self.2 (fun p hp => ?_)
  have : ¬ p.1 = h := fun e => hn (List.mem_map.2 ⟨p, hp, e⟩)
  simp [this]
theorem wR (hr : TabM.bP (keys us)) (e : TabM.get us h = some v) : cM g (del h us) + g (h, v) = cM g us := by
  induction us with
  | nil => cases e
  | cons p r ih =>
    rw [keys_cons] at hr
    obtain ⟨h1, h2⟩ := List.pairwise_cons.1 hr
    rw [qg] at e
    rw [I6]
    show _ = g p + cM g r
    split at e
    ·rename_i e2
     cases e
     rw [if_pos e2, K9 (fun hm => by have := h1 h hm; omega)]
     have e4 : p = (h, p.2) := by rw [← e2]
     rw [← e4]; omega
    rename_i e2
    rw [if_neg e2]
    show g p + cM g (del h r) + _ = _
    have := ih h2 e
    omega
theorem Cz {us : Used V} (hr : TabM.bP (keys us)) : TabM.bP (keys (del h us)) := by
  rw [lS]
  exact List.Pairwise.filter _ hr
end sums
section Pz
variable {n : ByteArray} {t : Th} {es : dU Th} {q : ByteArray × Th → Bool}
theorem GK : (eF n t es).countP q = es.countP q + if q (n, t) then 1 else 0 := by
  induction es with
  | nil => simp [eF, List.countP_cons]
  | cons e r ih =>
    unfold eF
    split
    ·rw [List.countP_cons]
    rw [List.countP_cons, ih, List.countP_cons]; omega
theorem GL {es : dU Th} (hd : mw es) (h : aQ n es = some t) : (eG n es).countP q + (if q (n, t) then 1 else 0) = es.countP q := by
  induction es with
  | nil => cases h
  | cons e r ih =>
    obtain ⟨h1, h2⟩ := List.pairwise_cons.1 hd
    rw [fP] at h
    rw [List.countP_cons]
    by_cases he : e.1 = n
    ·rw [if_pos he] at h
     have e1 : eG n (e :: r) = r := by
       unfold eG
       rw [List.filter_cons, if_neg (by simp [he])]
       exact List.filter_eq_self.2 (fun x hx => by have := h1 x hx; simp; exact fun e2 => this (he.trans e2.symm))
     have e2 : e = (n, t) := by
       have : e.2 = t := Option.some.inj h
       rw [← he, ← this]
     rw [e1, ← e2]
    rw [if_neg he] at h
    have e1 : eG n (e :: r) = e :: eG n r := by
      unfold eG
      rw [List.filter_cons, if_pos (by simp [he])]
    rw [e1, List.countP_cons]
    have := ih h2 h
    omega
theorem CA {e : ByteArray × Th} {es : dU Th} (h : e ∈ eG n es) : e ∈ es ∧ e.1 ≠ n := by
  unfold eG at h
  have := List.mem_filter.1 h
  exact ⟨this.1, by simpa using this.2⟩
theorem qh {es : dU Th} (hd : mw es) (h : (n, t) ∈ es) : aQ n es = some t := by
  induction es with
  | nil => cases h
  | cons e r ih =>
    obtain ⟨h1, h2⟩ := List.pairwise_cons.1 hd
    rw [fP]
    rcases List.mem_cons.1 h with h | h
    ·subst h; rw [if_pos rfl]
    rw [if_neg (fun e2 => h1 (n, t) h e2), ih h2 h]
end Pz
def Live (idx : Used Th) (t : Th) : Prop := TabM.get idx (t.k : Int) = some t
def iL (es : dU Th) : Prop := es.Pairwise (fun a b => ¬ iX b.1 a.1)
def gh (idx : Used Th) (O : bK) (k : Nat) : Nat := cM (fun p => (obj O p.2.k).ah.countP (fun e => decide (e.2.k = k))) idx
def tot (idx : Used Th) (O : bK) : Nat := cM (fun p => (obj O p.2.k).ah.length) idx
def bytes (idx : Used Th) (O : bK) : Nat := cM (fun p => (obj O p.2.k).data.length) idx
def hnd (us : Used Th) (k : Nat) : Nat := cM (fun p => if p.2.k = k then 1 else 0) us
structure jw (o : aM) : Prop where
  mode : 0 ≤ o.mode ∧ o.mode ≤ 4095
  uid : 0 ≤ o.uid ∧ o.uid ≤ 2147483647
  gid : 0 ≤ o.gid ∧ o.gid ≤ 2147483647
  time : cT o.sec o.nano
  data : o.kind ≠ 1 → o.data = []
  ah : o.kind ≠ 2 → o.ah = []
  target : dJ o.kind o.target
structure Inv0 (S : aG) : Prop where
  cN : 0 ≤ S.X.cN ∧ S.X.cN ≤ 4096
  cB : 0 ≤ S.X.cB ∧ S.X.cB ≤ 1099511627776
  cH : 0 ≤ S.X.cH ∧ S.X.cH ≤ 1024
  now : cT S.X.cS S.X.cZ
  last : 0 ≤ S.X.last ∧ S.X.last ≤ 1099511627776
  rise : TabM.bP (keys S.idx)
  len : S.idx.length ≤ 4096
  idx : ∀ i t, TabM.get S.idx i = some t → i = (t.k : Int) ∧ 0 < i ∧ i ≤ S.X.last
  ob : ∀ t, Live S.idx t → (obj S.O t.k).id = (t.k : Int) ∧ (obj S.O t.k).kind = t.kind ∧ (t.kind = 1 ∨ t.kind = 2 ∨ t.kind = 3)
  mt : ∀ t, Live S.idx t → jw (obj S.O t.k)
  ah : ∀ t, Live S.idx t → ∀ e ∈ (obj S.O t.k).ah, bB e.1 ∧ Live S.idx e.2
  sorted : ∀ t, Live S.idx t → iL (obj S.O t.k).ah
  dead : ∀ k, (∀ t, Live S.idx t → t.k ≠ k) → (obj S.O k).ah = [] ∧ (obj S.O k).up = none
  o8 : ∀ k : Nat, S.X.last < (k : Int) → (obj S.O k).kind = 0
  total : S.X.ah = (tot S.idx S.O : Int) ∧ S.X.ah ≤ 8192
  links : ∀ t, Live S.idx t → (obj S.O t.k).links = (gh S.idx S.O t.k : Int)
  once : ∀ t, Live S.idx t → t.kind = 2 → (obj S.O t.k).links ≤ 1
  opens : ∀ t, Live S.idx t → (obj S.O t.k).opens = (hnd S.us t.k : Int)
  usr : TabM.bP (keys S.us)
  ur : ∀ x ∈ keys S.us, 1 ≤ x ∧ x ≤ S.av
  AR : (S.us.length : Int) ≤ S.X.cH
  av : 0 ≤ S.av ∧ S.av ≤ S.X.cH
  us : ∀ h t, TabM.get S.us h = some t → Live S.idx t ∧ t.kind ≠ 3
  gone : ∀ t, Live S.idx t → (obj S.O t.k).gone = true → (obj S.O t.k).links = 0 ∧ (obj S.O t.k).ah = []
  up : ∀ t, Live S.idx t → ∀ d, (obj S.O t.k).up = some d ↔ t.kind = 2 ∧ Live S.idx ⟨d, 2⟩ ∧ ∃ n, aQ n (obj S.O d).ah = some t
  deep : ∃ dp : Nat → Nat, ∀ k d, (obj S.O k).up = some d → dp d < dp k
  used : S.X.used = (bytes S.idx S.O : Int) ∧ S.X.used ≤ 140737488355328
structure Inv (S : aG) : Prop extends Inv0 S where
  full : ∀ t, Live S.idx t → (obj S.O t.k).gone = true → 0 < (obj S.O t.k).opens
end
section
open Go.RowKit Go.Maps HeapM TabM
section at_
variable {X : FM} {O : bK} {d k : Nat} {name : ByteArray} {t : Th}
theorem gI (h : t.k ≠ d) : obj (aJ X O d name t) k = if k = d then { obj O d with ah := eG name (obj O d).ah, sec := X.cS, nano := X.cZ } else if k = t.k then { obj O k with links := (obj O k).links - 1 } else obj O k := by
  unfold aJ mV
  by_cases e : k = d
  ·subst e
   rw [bQ (fun e => h e.symm), bG, bG, if_pos rfl]
  rw [if_neg e]
  by_cases e2 : k = t.k
  ·subst e2
   rw [bG, bQ e, bQ e, if_pos rfl]
  rw [bQ e2, bQ e, bQ e, if_neg e2]
theorem uw (h : t.k ≠ d) : obj (bq X O d name t) k = if k = d then { obj O d with ah := eF name t (obj O d).ah, sec := X.cS, nano := X.cZ } else if k = t.k then { obj O k with links := (obj O k).links + 1, up := if t.kind = 2 then some d else (obj O k).up } else obj O k := by
  unfold bq mV kY
  simp only
  by_cases e : k = d
  ·subst e
   rw [if_pos rfl, bG]
   split
   ·rw [bQ (fun e => h e.symm), bQ (fun e => h e.symm), bG]
   rw [bQ (fun e => h e.symm), bG]
  rw [if_neg e, bQ e]
  by_cases e2 : k = t.k
  ·subst e2
   rw [if_pos rfl]
   split
   ·rw [bG, bG, bQ e]
   rw [bG, bQ e]
  rw [if_neg e2]
  split
  ·rw [bQ e2, bQ e2, bQ e]
  rw [bQ e2, bQ e]
end at_
section counts
variable {idx : Used Th} {O O' : bK} {d k : Nat} {n : ByteArray} {t : Th}
theorem I7 {q : ByteArray × Th → Bool} (hr : TabM.bP (keys idx)) (hd : TabM.get idx (d : Int) = some ⟨d, 2⟩) (hk : ∀ i u, TabM.get idx i = some u → i = (u.k : Int)) (ho : ∀ x, x ≠ d → (obj O' x).ah = (obj O x).ah) (h1 : (obj O' d).ah = eG n (obj O d).ah) (h2 : mw (obj O d).ah) (h3 : aQ n (obj O d).ah = some t) :
    cM (fun p => (obj O' p.2.k).ah.countP q) idx + (if q (n, t) then 1 else 0) = cM (fun p => (obj O p.2.k).ah.countP q) idx := by
  have h4 := wQ (g := fun p => (obj O p.2.k).ah.countP q) (g' := fun p => (obj O' p.2.k).ah.countP q) hr hd (fun p hp hne => by
    have := hk p.1 p.2 (kT hr hp)
    show (obj O' p.2.k).ah.countP q = _
    rw [ho p.2.k (by intro e; rw [e] at this; exact hne this)])
  have h5 := GL (q := q) h2 h3
  have h6 : (obj O' d).ah.countP q = (eG n (obj O d).ah).countP q := by rw [h1]
  have h7 : cM (fun p => (obj O' p.2.k).ah.countP q) idx + (obj O d).ah.countP q = cM (fun p => (obj O p.2.k).ah.countP q) idx + (obj O' d).ah.countP q := h4
  omega
theorem I8 {q : ByteArray × Th → Bool} (hr : TabM.bP (keys idx)) (hd : TabM.get idx (d : Int) = some ⟨d, 2⟩) (hk : ∀ i u, TabM.get idx i = some u → i = (u.k : Int)) (ho : ∀ x, x ≠ d → (obj O' x).ah = (obj O x).ah) (h1 : (obj O' d).ah = eF n t (obj O d).ah) :
    cM (fun p => (obj O' p.2.k).ah.countP q) idx = cM (fun p => (obj O p.2.k).ah.countP q) idx + (if q (n, t) then 1 else 0) := by
  have h4 := wQ (g := fun p => (obj O p.2.k).ah.countP q) (g' := fun p => (obj O' p.2.k).ah.countP q) hr hd (fun p hp hne => by
    have := hk p.1 p.2 (kT hr hp)
    show (obj O' p.2.k).ah.countP q = _
    rw [ho p.2.k (by intro e; rw [e] at this; exact hne this)])
  have h5 := GK (q := q) (n := n) (t := t) (es := (obj O d).ah)
  have h6 : (obj O' d).ah.countP q = (eF n t (obj O d).ah).countP q := by rw [h1]
  have h7 : cM (fun p => (obj O' p.2.k).ah.countP q) idx + (obj O d).ah.countP q = cM (fun p => (obj O p.2.k).ah.countP q) idx + (obj O' d).ah.countP q := h4
  omega
theorem kz : tot idx O = cM (fun p => (obj O p.2.k).ah.countP (fun _ => true)) idx := eT (fun p _ => by simp)
theorem GN {q : ByteArray × Th → Bool} (ho : ∀ x, (obj O' x).ah = (obj O x).ah) : cM (fun p => (obj O' p.2.k).ah.countP q) idx = cM (fun p => (obj O p.2.k).ah.countP q) idx := eT (fun p _ => by rw [ho])
theorem GP : gh idx O k ≤ tot idx O := by
  rw [kz]
  exact Ee (fun p _ => List.countP_mono_left (fun _ _ _ => rfl))
theorem kU (hd : TabM.get idx (d : Int) = some ⟨d, 2⟩) (h : aQ n (obj O d).ah = some t) : 0 < gh idx O t.k := by
  refine Nat.lt_of_lt_of_le ?_ (j5 (g := fun p => (obj O p.2.k).ah.countP (fun e => decide (e.2.k = t.k))) hd)
  exact List.countP_pos_iff.2 ⟨(n, t), jH h, by simp⟩
theorem x9 (hr : TabM.bP (keys idx)) (h : 0 < gh idx O k) : ∃ i u, TabM.get idx i = some u ∧ ∃ e ∈ (obj O u.k).ah, e.2.k = k := by
  apply Classical.byContradiction
  intro hn
  have : gh idx O k = cM (fun _ => 0) idx := eT (fun p hp => by
    show List.countP _ _ = 0
    rw [List.countP_eq_zero]
    intro e he hk
    exact hn ⟨p.1, p.2, kT hr hp, e, he, by simpa using hk⟩)
  have h0 : ∀ us : Used Th, cM (fun _ => 0) us = 0 := fun us => by
    induction us with
    | nil => rfl
    | cons p r ih => show 0 + _ = 0; rw [ih]
  rw [this, h0] at h
  omega
end counts
end
section
open Go.RowKit Go.Maps HeapM TabM
section inv
variable {S : aG} {d k : Nat} {name : ByteArray} {t u : Th}
theorem Inv0.key (h : Inv0 S) {i : Int} (e : TabM.get S.idx i = some t) : i = (t.k : Int) := (h.idx i t e).1
theorem Inv0.live (h : Inv0 S) {i : Int} (e : TabM.get S.idx i = some t) : Live S.idx t := by
  have := h.key e
  subst this
  exact e
theorem eZ {idx : Used Th} (h1 : Live idx t) (h2 : Live idx u) (e : t.k = u.k) : t = u := by
  unfold Live at h1 h2
  rw [e, h2] at h1
  exact (Option.some.inj h1).symm
theorem Inv0.kind (h : Inv0 S) (hl : Live S.idx t) : (obj S.O t.k).kind = t.kind := (h.ob t hl).2.1
theorem EY {x : ByteArray} : iX x x := by unfold iX; simp
theorem iL.twice {es : dU Th} (h : iL es) : mw es := List.Pairwise.imp (fun {a b} hab e => hab (by rw [e]; exact EY)) h
theorem Inv0.twice (h : Inv0 S) (hl : Live S.idx t) : mw (obj S.O t.k).ah := (h.sorted t hl).twice
theorem Inv0.ent (h : Inv0 S) (hd : Live S.idx u) (hl : aQ name (obj S.O u.k).ah = some t) : bB name ∧ Live S.idx t := h.ah u hd _ (jH hl)
theorem Inv0.ne (h : Inv0 S) (hd : Live S.idx ⟨d, 2⟩) (hl : aQ name (obj S.O d).ah = some t) : t.k ≠ d := fun e => by
  have h1 := (h.ent hd hl).2
  have h2 : t = ⟨d, 2⟩ := eZ h1 hd e
  subst h2
  have h3 := (h.up _ hd d).2 ⟨rfl, hd, name, hl⟩
  obtain ⟨dp, hdp⟩ := h.deep
  have : dp d < dp d := hdp _ _ h3
  omega
theorem Inv0.free (h : Inv0 S) (hk : S.X.last < (k : Int)) (hl : Live S.idx t) : t.k ≠ k := fun e => by
  have := (h.idx _ t hl).2.2
  subst e
  omega
theorem jw.of {o o' : aM} (h : jw o) (e1 : o'.mode = o.mode) (e2 : o'.uid = o.uid) (e3 : o'.gid = o.gid) (e4 : cT o'.sec o'.nano) (e5 : o'.kind = o.kind) (e6 : o'.data = o.data ∨ o.kind = 1) (e7 : o'.ah = o.ah ∨ o.kind = 2) (e8 : o'.target = o.target) : jw o' :=
  ⟨e1 ▸ h.mode, e2 ▸ h.uid, e3 ▸ h.gid, e4, fun hk => by
    rw [e5] at hk
    rcases e6 with e | e
    ·rw [e]; exact h.data hk
    ·exact absurd e hk, fun hk => by
    rw [e5] at hk
    rcases e7 with e | e
    ·rw [e]; exact h.ah hk
    exact absurd e hk, by rw [e5, e8]; exact h.target⟩
theorem Inv0.own (h : Inv0 S) {f : aM → aM} {jq eU : Int} {us' : Used Th} (f1 : ∀ o, (f o).id = o.id) (f2 : ∀ o, (f o).kind = o.kind) (f3 : ∀ o, (f o).ah = o.ah) (f4 : ∀ o, (f o).up = o.up) (f5 : ∀ o, (f o).links = o.links) (f6 : ∀ o, (f o).gone = o.gone)
    (hm : ∀ t, Live S.idx t → t.k = k → jw (f (obj S.O k))) (ho : ∀ t, Live S.idx t → (obj (ay S.O k f) t.k).opens = (hnd us' t.k : Int))
    (u1 : TabM.bP (keys us')) (u2 : ∀ x ∈ keys us', 1 ≤ x ∧ x ≤ eU) (u3 : (us'.length : Int) ≤ S.X.cH) (u4 : 0 ≤ eU ∧ eU ≤ S.X.cH) (u5 : ∀ h t, TabM.get us' h = some t → Live S.idx t ∧ t.kind ≠ 3)
    (hu : jq = (bytes S.idx (ay S.O k f) : Int) ∧ jq ≤ 140737488355328) : Inv0 { S with X := { S.X with used := jq }, O := ay S.O k f, us := us', av := eU } := by
  have g1 : ∀ x, (obj (ay S.O k f) x).id = (obj S.O x).id := fun x => cI (g := aM.id) f1
  have g2 : ∀ x, (obj (ay S.O k f) x).kind = (obj S.O x).kind := fun x => cI (g := aM.kind) f2
  have g3 : ∀ x, (obj (ay S.O k f) x).ah = (obj S.O x).ah := fun x => cI (g := aM.ah) f3
  have g4 : ∀ x, (obj (ay S.O k f) x).up = (obj S.O x).up := fun x => cI (g := aM.up) f4
  have g5 : ∀ x, (obj (ay S.O k f) x).links = (obj S.O x).links := fun x => cI (g := aM.links) f5
  have g6 : ∀ x, (obj (ay S.O k f) x).gone = (obj S.O x).gone := fun x => cI (g := aM.gone) f6
  refine { h with ob := fun t hl => ?_, mt := fun t hl => ?_, ah := fun t hl => ?_, sorted := fun t hl => ?_, dead := fun x hx => ?_, o8 := fun x hx => by rw [g2]; exact h.o8 x hx, total := ?_, links := fun t hl => ?_, once := fun t hl => ?_, opens := ho, usr := u1, ur := u2, AR := u3, av := u4, us := u5, gone := fun t hl => ?_, up := fun t hl e => ?_, deep := ?_, used := hu }
  ·rw [g1, g2]; exact h.ob t hl
  ·show jw (obj (ay S.O k f) t.k)
   by_cases e : t.k = k
   ·rw [e, bG]; exact hm t hl e
   rw [bQ e]; exact h.mt t hl
  ·rw [g3]; exact h.ah t hl
  ·rw [g3]; exact h.sorted t hl
  ·rw [g3, g4]; exact h.dead x hx
  ·have : tot S.idx (ay S.O k f) = tot S.idx S.O := eT (fun p _ => by rw [g3])
   show S.X.ah = (tot S.idx (ay S.O k f) : Int) ∧ _
   rw [this]; exact h.total
  ·show (obj (ay S.O k f) t.k).links = (gh S.idx (ay S.O k f) t.k : Int)
   have : gh S.idx (ay S.O k f) t.k = gh S.idx S.O t.k := GN g3
   rw [g5, this]; exact h.links t hl
  ·rw [g5]; exact h.once t hl
  ·rw [g6, g5, g3]; exact h.gone t hl
  ·show (obj (ay S.O k f) t.k).up = some e ↔ t.kind = 2 ∧ Live S.idx ⟨e, 2⟩ ∧ ∃ n, aQ n (obj (ay S.O k f) e).ah = some t
   rw [g4, g3]; exact h.up t hl e
  obtain ⟨dp, hdp⟩ := h.deep
  exact ⟨dp, fun x e he => hdp x e (by rw [g4] at he; exact he)⟩
def freeM (S : aG) (t : Th) : aG := { S with X := { S.X with used := iY S.O S.X.used t }, idx := freeI S.O S.idx t }
theorem Inv0.freeM (h : Inv0 S) (ht : Live S.idx t) (hf : ∀ u, Live S.idx u → u ≠ t → (obj S.O u.k).gone = true → 0 < (obj S.O u.k).opens) : Inv (Proofs.YtkiedlmhocglhaaGreatDoor.freeM S t) := by
  by_cases hF : o7 S.O t
  ·have e1 : Proofs.YtkiedlmhocglhaaGreatDoor.freeM S t = { S with X := { S.X with used := S.X.used - (obj S.O t.k).data.length }, idx := del (t.k : Int) S.idx } := by
     unfold Proofs.YtkiedlmhocglhaaGreatDoor.freeM iY freeI
     rw [if_pos hF, if_pos hF, (h.ob t ht).1]
     split
     ·rfl
     rename_i e
     have := (h.mt t ht).data (by rw [h.kind ht]; exact e)
     rw [this]
     simp
   rw [e1]
   obtain ⟨hg, hop⟩ := hF
   obtain ⟨hlk, hen⟩ := h.gone t ht hg
   have dM : ∀ x, Live (del (t.k : Int) S.idx) x ↔ Live S.idx x ∧ x.k ≠ t.k := fun x => by
     unfold Live
     rw [rT]
     constructor
     ·intro e
      split at e
      ·cases e
      rename_i e2; exact ⟨e, fun e3 => e2 (by rw [e3])⟩
     rintro ⟨e, e2⟩
     rw [if_neg (by omega)]; exact e
   have hl0 : gh S.idx S.O t.k = 0 := by have := h.links t ht; omega
   have hne : ∀ x, Live S.idx x → ∀ e ∈ (obj S.O x.k).ah, e.2.k ≠ t.k := fun x hx e he hk => by
     have : 0 < gh S.idx S.O t.k := Nat.lt_of_lt_of_le (List.countP_pos_iff.2 ⟨e, he, by simpa using hk⟩) (j5 (g := fun p => (obj S.O p.2.k).ah.countP (fun e => decide (e.2.k = t.k))) hx)
     omega
   have hsum : ∀ q : ByteArray × Th → Bool, cM (fun p => (obj S.O p.2.k).ah.countP q) (del (t.k : Int) S.idx) = cM (fun p => (obj S.O p.2.k).ah.countP q) S.idx := fun q => by
     have h1 := wR (g := fun p : Int × Th => (obj S.O p.2.k).ah.countP q) h.rise ht
     have h2 : (obj S.O t.k).ah.countP q = 0 := by rw [hen]; rfl
     have h3 : cM (fun p : Int × Th => (obj S.O p.2.k).ah.countP q) (del (t.k : Int) S.idx) + (obj S.O t.k).ah.countP q = _ := h1
     omega
   refine { h with rise := Cz h.rise, len := ?_, idx := fun i x e => ?_, ob := fun x hx => h.ob x ((dM x).1 hx).1, mt := fun x hx => h.mt x ((dM x).1 hx).1, ah := fun x hx e he => ?_, sorted := fun x hx => h.sorted x ((dM x).1 hx).1, dead := fun x hx => ?_, total := ?_, links := fun x hx => ?_, once := fun x hx => h.once x ((dM x).1 hx).1, opens := fun x hx => h.opens x ((dM x).1 hx).1, us := fun i x e => ?_, gone := fun x hx => h.gone x ((dM x).1 hx).1, up := fun x hx e => ?_, used := ?_, full := fun x hx hg => hf x ((dM x).1 hx).1 (fun e => ((dM x).1 hx).2 (by rw [e])) hg }
   ·have h1 := nH h.rise (get_some ht)
    have h2 := h.len
    show (del (t.k : Int) S.idx).length ≤ 4096
    omega
   ·have e : TabM.get (del (t.k : Int) S.idx) i = some x := e
    rw [rT] at e
    split at e
    ·cases e
    exact h.idx i x e
   ·have hx' := ((dM x).1 hx).1
    have h1 := h.ah x hx' e he
    exact ⟨h1.1, (dM _).2 ⟨h1.2, hne x hx' e he⟩⟩
   ·by_cases e : x = t.k
    ·subst e
     refine ⟨hen, ?_⟩
     cases hu : (obj S.O t.k).up with
     | none => rfl
     | some y =>
       obtain ⟨_, h2, n, h3⟩ := (h.up t ht y).1 hu
       exact absurd rfl (hne _ h2 _ (jH h3))
    exact h.dead x (fun y hy e2 => hx y ((dM y).2 ⟨hy, fun e3 => e (e2.symm.trans e3)⟩) e2)
   ·show S.X.ah = (tot (del (t.k : Int) S.idx) S.O : Int) ∧ _
    rw [kz, hsum, ← kz]; exact h.total
   ·show _ = (gh (del (t.k : Int) S.idx) S.O x.k : Int)
    have : gh (del (t.k : Int) S.idx) S.O x.k = gh S.idx S.O x.k := hsum _
    rw [this]; exact h.links x ((dM x).1 hx).1
   ·obtain ⟨h1, h2⟩ := h.us i x e
    refine ⟨(dM x).2 ⟨h1, fun e2 => ?_⟩, h2⟩
    have h3 := h.opens t ht
    have h4 : 0 < hnd S.us t.k := Nat.lt_of_lt_of_le (by simp [e2]) (j5 (g := fun p : Int × Th => if p.2.k = t.k then 1 else 0) e)
    omega
   ·rw [h.up x ((dM x).1 hx).1 e]
    constructor
    ·rintro ⟨h1, h2, n, h3⟩
     refine ⟨h1, (dM _).2 ⟨h2, fun e2 => ?_⟩, n, h3⟩
     have e2 : e = t.k := e2
     rw [e2, hen] at h3; cases h3
    rintro ⟨h1, h2, h3⟩
    exact ⟨h1, ((dM _).1 h2).1, h3⟩
   obtain ⟨h1, h2⟩ := h.used
   have h3 : cM (fun p : Int × Th => (obj S.O p.2.k).data.length) (del (t.k : Int) S.idx) + (obj S.O t.k).data.length = cM (fun p : Int × Th => (obj S.O p.2.k).data.length) S.idx := wR (g := fun p : Int × Th => (obj S.O p.2.k).data.length) h.rise ht
   show S.X.used - ((obj S.O t.k).data.length : Int) = (bytes (del (t.k : Int) S.idx) S.O : Int) ∧ S.X.used - ((obj S.O t.k).data.length : Int) ≤ 140737488355328
   unfold bytes at h1 ⊢
   omega
  have e1 : Proofs.YtkiedlmhocglhaaGreatDoor.freeM S t = S := by
    unfold Proofs.YtkiedlmhocglhaaGreatDoor.freeM iY freeI
    rw [if_neg hF, if_neg hF]
  rw [e1]
  refine { h with full := fun u hu hg => ?_ }
  by_cases e : u = t
  ·subst e
   have h1 := h.opens u hu
   have : ¬ (obj S.O u.k).opens = 0 := fun e => hF ⟨hg, e⟩
   omega
  exact hf u hu e hg
end inv
end
section
open Go.RowKit Go.Maps HeapM TabM
section facts
variable {S : aG} {X : FM} {O : bK} {d k : Nat} {name : ByteArray} {t u : Th}
theorem cE {α : Type} {g : aM → α} (h1 : ∀ o es, g { o with ah := es } = g o) (h2 : ∀ o l, g { o with links := l } = g o) (h3 : ∀ o a b, g { o with sec := a, nano := b } = g o) : g (obj (aJ X O d name t) k) = g (obj O k) := by
  unfold aJ mV
  rw [cI (fun o => h2 o _), cI (fun o => h3 o _ _), cI (fun o => h1 o _)]
theorem kV {α : Type} {g : aM → α} (h1 : ∀ o es, g { o with ah := es } = g o) (h2 : ∀ o l, g { o with links := l } = g o) (h3 : ∀ o a b, g { o with sec := a, nano := b } = g o) (h4 : ∀ o u, g { o with up := u } = g o) : g (obj (bq X O d name t) k) = g (obj O k) := by
  unfold bq mV
  rw [cI (fun o => h3 o _ _), wM h1 h2 h4]
theorem Inv0.hX (h : Inv0 S) : 0 ≤ S.X.ah ∧ S.X.ah ≤ 1048576 ∧ -1125899906842624 ≤ S.X.used ∧ S.X.used ≤ 1125899906842624 ∧ 0 ≤ S.X.last ∧ S.X.last ≤ 1125899906842624 := by
  have := h.total; have := h.used; have := h.last
  omega
theorem Inv0.eV (h : Inv0 S) (hl : Live S.idx t) : (obj S.O t.k).ah.length ≤ 8192 := by
  have h1 := h.total
  have h2 : (obj S.O t.k).ah.length ≤ tot S.idx S.O := j5 (g := fun p : Int × Th => (obj S.O p.2.k).ah.length) hl
  omega
theorem Inv0.lb (h : Inv0 S) (hl : Live S.idx t) : 0 ≤ (obj S.O t.k).links ∧ (obj S.O t.k).links ≤ 8192 := by
  have h1 := h.total
  have h2 := h.links t hl
  have h3 : gh S.idx S.O t.k ≤ tot S.idx S.O := GP
  omega
theorem Me {us : Used Th} : hnd us k ≤ us.length := by
  have : hnd us k ≤ cM (fun _ => 1) us := Ee (fun p _ => by split <;> omega)
  have h2 : ∀ us : Used Th, cM (fun _ => 1) us = us.length := fun us => by
    induction us with
    | nil => rfl
    | cons p r ih => show 1 + _ = _; rw [ih, List.length_cons]; omega
  rw [h2] at this; exact this
theorem Inv0.AU (h : Inv0 S) (hl : Live S.idx t) : 0 ≤ (obj S.O t.k).opens ∧ (obj S.O t.k).opens ≤ 1024 := by
  have h1 := h.opens t hl
  have h2 : hnd S.us t.k ≤ S.us.length := Me
  have := h.AR; have := h.cH
  omega
theorem Inv0.CB (h : Inv0 S) (hl : Live S.idx t) : (obj S.O t.k).data.length ≤ 1125899906842624 := by
  have h1 := h.used
  have h2 : (obj S.O t.k).data.length ≤ bytes S.idx S.O := j5 (g := fun p : Int × Th => (obj S.O p.2.k).data.length) hl
  omega
theorem Inv0.EZ (h : Inv0 S) (hl : Live S.idx t) : (obj S.O t.k).data.length ≤ 140737488355328 := by
  have h1 := h.used
  have h2 : (obj S.O t.k).data.length ≤ bytes S.idx S.O := j5 (g := fun p : Int × Th => (obj S.O p.2.k).data.length) hl
  omega
theorem Inv0.GQ (h : Inv0 S) (hl : Live S.idx t) : (Lit.int .i64 (obj S.O t.k).id).wf = true := by
  have h1 := h.ob t hl
  have h2 := h.idx _ t hl
  have h3 := h.last
  exact WalkArith.wf_i64 (by omega)
theorem Inv0.kg (h : Inv0 S) (hd : Live S.idx ⟨d, 2⟩) (name : ByteArray) : aQ name (obj S.O d).ah = none ∨ (∃ k, aQ name (obj S.O d).ah = some ⟨k, 1⟩ ∧ Live S.idx ⟨k, 1⟩) ∨ (∃ k, aQ name (obj S.O d).ah = some ⟨k, 2⟩ ∧ Live S.idx ⟨k, 2⟩) ∨ ∃ k, aQ name (obj S.O d).ah = some ⟨k, 3⟩ ∧ Live S.idx ⟨k, 3⟩ := by
  cases e : aQ name (obj S.O d).ah with
  | none => exact .inl rfl
  | some t =>
    obtain ⟨k, kd⟩ := t
    have h1 := (h.ent hd e).2
    rcases (h.ob _ h1).2.2 with e2 | e2 | e2 <;> subst e2
    ·exact .inr (.inl ⟨k, rfl, h1⟩)
    ·exact .inr (.inr (.inl ⟨k, rfl, h1⟩))
    exact .inr (.inr (.inr ⟨k, rfl, h1⟩))
theorem Inv0.Mf (h : Inv0 S) (i : Int) : TabM.get S.idx i = none ∨ (∃ k, TabM.get S.idx i = some ⟨k, 1⟩ ∧ Live S.idx ⟨k, 1⟩) ∨ (∃ k, TabM.get S.idx i = some ⟨k, 2⟩ ∧ Live S.idx ⟨k, 2⟩) ∨ ∃ k, TabM.get S.idx i = some ⟨k, 3⟩ ∧ Live S.idx ⟨k, 3⟩ := by
  cases e : TabM.get S.idx i with
  | none => exact .inl rfl
  | some t =>
    obtain ⟨k, kd⟩ := t
    have h1 := h.live e
    rcases (h.ob _ h1).2.2 with e2 | e2 | e2 <;> subst e2
    ·exact .inr (.inl ⟨k, rfl, h1⟩)
    ·exact .inr (.inr (.inl ⟨k, rfl, h1⟩))
    exact .inr (.inr (.inr ⟨k, rfl, h1⟩))
theorem Inv0.hand (h : Inv0 S) (i : Int) : TabM.get S.us i = none ∨ (∃ k, TabM.get S.us i = some ⟨k, 1⟩ ∧ Live S.idx ⟨k, 1⟩) ∨ ∃ k, TabM.get S.us i = some ⟨k, 2⟩ ∧ Live S.idx ⟨k, 2⟩ := by
  cases e : TabM.get S.us i with
  | none => exact .inl rfl
  | some t =>
    obtain ⟨k, kd⟩ := t
    obtain ⟨h1, h0⟩ := h.us i _ e
    rcases (h.ob _ h1).2.2 with e2 | e2 | e2
    ·simp only at e2; subst e2; exact .inr (.inl ⟨k, rfl, h1⟩)
    ·simp only at e2; subst e2; exact .inr (.inr ⟨k, rfl, h1⟩)
    exact absurd e2 h0
theorem Inv0.Oa (h : Inv0 S) (hd : Live S.idx ⟨d, 2⟩) (hl : aQ name (obj S.O d).ah = some t) : 1 ≤ S.X.ah := by
  have h1 := h.total
  have h2 : 0 < gh S.idx S.O t.k := kU hd hl
  have h3 : gh S.idx S.O t.k ≤ tot S.idx S.O := GP
  omega
theorem Inv0.vV (h : Inv0 S) (hd : Live S.idx ⟨d, 2⟩) (hl : aQ name (obj S.O d).ah = some t) : 0 ≤ S.X.ah - 1 ∧ S.X.ah - 1 ≤ 1048576 ∧ -1125899906842624 ≤ S.X.used ∧ S.X.used ≤ 1125899906842624 ∧ 0 ≤ S.X.last ∧ S.X.last ≤ 1125899906842624 := by
  have := h.Oa hd hl; have := h.hX
  omega
theorem nJ {L : HL} {us : Used Th} {h : Int} (e : TabM.get us h = none) : TabM.get (aK L us) h = none := by
  unfold aK; rw [get_map, e]; rfl
theorem ji {L : HL} {us : Used Th} {h : Int} (e : TabM.get us h = some t) : TabM.get (aK L us) h = some (cO L t) := by
  unfold aK; rw [get_map, e]; rfl
theorem pR {L : HL} {us : Used Th} {h : Int} (hn : TabM.get us h = none) : iD (aO (aK L us)) (.int .i64 h) (some (cO L t)) = aO (aK L (ins h t us)) := by
  rw [zC (get_none.1 (nJ hn))]
  exact congrArg aO (Ea (cO L) h t us).symm
theorem GR {L : HL} {us : Used Th} : TabM.least (aK L us) = TabM.least us := by unfold TabM.least; rw [wO]
theorem zE {TT : TypeId} {L : HL} {us : Used Th} {v : Value} {l : List HP} {b : Nat} {most av : Int} (h : v = .tuple #[.int .i64 (TabM.least (aK L us)), .int .i64 0] ∧ l = [.abs (br TT b most (max av (((aK L us).length : Int) + 1)) (ins (TabM.least (aK L us)) (cO L t) (aK L us)))]) : v = .tuple #[.int .i64 (TabM.least us), .int .i64 0] ∧ l = [.abs (br TT b most (max av ((us.length : Int) + 1)) (aK L (ins (TabM.least us) t us)))] := by
  rw [GR, nI] at h
  have e : ins (TabM.least us) (cO L t) (aK L us) = aK L (ins (TabM.least us) t us) := (Ea (cO L) (TabM.least us) t us).symm
  rw [e] at h
  exact h
theorem I9 {α : Type} {es : dU α} {n : ByteArray} (h : es = []) : aQ n es = none := by rw [h]; rfl
end facts
section blocks
variable {O : bK} {L : HL} {k j : Nat} {t u : Th}
theorem vz (hk : (obj O k).kind ≠ 0) {F : Fp} {w : World} (h : (ak (aN O L)).h F w) : ∃ cs T, w.heap[L.b k]? = some (.cells cs T (0, 0)) := by
  obtain ⟨G, g⟩ := ak.at k h
  rw [jP hk] at g
  exact ⟨_, _, g.1⟩
theorem Ef (hk : (obj O k).kind ≠ 0) (hj : (obj O j).kind ≠ 0) {F : Fp} {w : World} (h : (ak (aN O L)).h F w) (e : L.b k = L.b j) : k = j := by
  apply Classical.byContradiction
  intro hne
  obtain ⟨φ, h1, h2, _⟩ := h
  have g1 := h1 k
  have g2 := h1 j
  rw [jP hk] at g1
  rw [jP hj] at g2
  exact h2 k j hne (L.b k) ((g1.2 _).2 rfl) ((g2.2 _).2 e)
theorem zF : Tryz.prog.underlying 96 = some (.pointer 99) := by kernel_rfl
theorem Ja : Tryz.prog.underlying 89 = some (.pointer 92) := by kernel_rfl
theorem Jb : Tryz.prog.underlying 93 = some (.pointer 95) := by kernel_rfl
end blocks
end
section
open Go.RowKit Go.Maps HeapM TabM
theorem Jc {s : ByteArray} : 0 ≤ Lib.indexByte s.data.toList ((0 : Int).toNat.toUInt8) ↔ ¬ vk s := by
  have hge := Lib.indexByte_ge s.data.toList ((0 : Int).toNat.toUInt8)
  constructor
  ·intro h hn
   obtain ⟨o, ho⟩ := Int.eq_ofNat_of_zero_le h
   have h1 := (Lib.indexByte_some ho).1
   obtain ⟨h2, h3⟩ := tY h1
   exact hn o h2 h3
  intro hn
  apply Classical.byContradiction
  intro hlt
  refine hn (fun j hj h0 => Lib.indexByte_none (show Lib.indexByte s.data.toList ((0 : Int).toNat.toUInt8) = -1 by omega) j ?_)
  rw [nT hj]
  congr 1
  apply UInt8.toNat_inj.1
  exact h0
theorem DJ {β : Bs} (s : ByteArray) : Spec Tryz.prog β 146 #[.string s, .int .u8 0] [] (fun v l => (∃ x : Int, v = .int .i64 x ∧ (0 ≤ x ↔ ¬ vk s)) ∧ l = []) :=
  fun _ w hS => (Tryz.strings_IndexByte s 0 w).mono fun _ _ ⟨h1, h2⟩ => ⟨_, [], h1, ⟨⟨_, rfl, Jc⟩, rfl⟩, h2 ▸ hS⟩
section ptr
variable {O : bK} {L : HL} {k j : Nat}
theorem Jd : ∃ j, Tryz.prog.info? 99 = some j ∧ j.size ≠ 0 := by
  have h : (match Tryz.prog.info? 99 with | some j => j.size != 0 | none => false) = true := by kernel_rfl
  cases e : Tryz.prog.info? 99 with
  | none => rw [e] at h; cases h
  | some j => rw [e] at h; exact ⟨j, rfl, by simpa using h⟩
theorem GS {w : World} {o : Oper} {ev : Operand → Value} {x y : Operand} (ho : o.op = .binOp .eql 96 x y 96) (hx : ev x = .pointer (some ⟨L.b k, 0, none⟩)) (hy : ev y = .pointer (some ⟨L.b j, 0, none⟩)) (hk : (obj O k).kind ≠ 0) (hj : (obj O j).kind ≠ 0) {F : Fp} (hF : (ak (aN O L)).h F w) :
    ld Tryz.prog ev o w (.bool (decide (k = j))) w := by
  obtain ⟨dst, op, type, pos, after, guard⟩ := o
  cases ho
  refine .inl ?_
  simp only [execOp, hx, hy]
  obtain ⟨ca, ta, ha⟩ := vz hk hF
  obtain ⟨cb, tb, hb⟩ := vz hj hF
  obtain ⟨i, hi, hsz⟩ := Jd
  have h1 : (binOp .eql 96 (.pointer (some ⟨L.b k, 0, none⟩)) (.pointer (some ⟨L.b j, 0, none⟩))).run Tryz.prog w = .ok (.bool (decide (k = j))) w := by
    by_cases e : k = j
    ·subst e
     rw [run_eql_ptr_same _ _ zF hi]
     simp
    rw [run_eql_ptr_other _ zF hi hsz (fun h => e (Ef hk hj hF (congrArg Addr.block h))) ha hb]
    simp [e]
  simp [go_sem, eqGuard, h1]
def CC (tp te : TypeId) : Prop := Tryz.prog.underlying tp = some (.pointer te) ∧ (∃ i, Tryz.prog.info? tp = some i ∧ i.comparable = true) ∧ ∃ j, Tryz.prog.info? te = some j ∧ j.size ≠ 0
theorem zG {tp te : TypeId} (h1 : Tryz.prog.underlying tp = some (.pointer te)) (h2 : (match Tryz.prog.info? tp with | some j => j.comparable | none => false) = true) (h3 : (match Tryz.prog.info? te with | some j => j.size != 0 | none => false) = true) : CC tp te := by
  refine ⟨h1, ?_, ?_⟩
  ·cases e : Tryz.prog.info? tp with
   | none => rw [e] at h2; cases h2
   | some j => rw [e] at h2; exact ⟨j, rfl, h2⟩
  cases e : Tryz.prog.info? te with
  | none => rw [e] at h3; cases h3
  | some j => rw [e] at h3; exact ⟨j, rfl, by simpa using h3⟩
theorem Mg : CC 89 92 := zG Ja (by kernel_rfl) (by kernel_rfl)
theorem Ob : CC 96 99 := zG zF (by kernel_rfl) (by kernel_rfl)
theorem Mh : CC 93 95 := zG Jb (by kernel_rfl) (by kernel_rfl)
theorem wS {tp te : TypeId} (hT : CC tp te) {w : World} {o : Oper} {ev : Operand → Value} {x y : Operand} (ho : o.op = .binOp .eql 84 x y 84) (hx : ev x = .iface tp (.pointer (some ⟨L.b k, 0, none⟩))) (hy : ev y = .iface tp (.pointer (some ⟨L.b j, 0, none⟩))) (hk : (obj O k).kind ≠ 0) (hj : (obj O j).kind ≠ 0) {F : Fp} (hF : (ak (aN O L)).h F w) :
    ld Tryz.prog ev o w (.bool (decide (k = j))) w := by
  obtain ⟨dst, op, type, pos, after, guard⟩ := o
  cases ho
  refine .inl ?_
  simp only [execOp, hx, hy]
  obtain ⟨ca, ta, ha⟩ := vz hk hF
  obtain ⟨cb, tb, hb⟩ := vz hj hF
  obtain ⟨g1, ⟨i, hi, hc⟩, j', hj', hsz⟩ := hT
  have h1 : (binOp .eql 84 (.iface tp (.pointer (some ⟨L.b k, 0, none⟩))) (.iface tp (.pointer (some ⟨L.b j, 0, none⟩)))).run Tryz.prog w = .ok (.bool (decide (k = j))) w := by
    by_cases e : k = j
    ·subst e
     rw [run_eql_iface_ptr_same _ _ Tryz.underlying84 g1 hi hc hj']
     simp
    rw [run_eql_iface_ptr_other _ Tryz.underlying84 g1 hi hc hj' hsz (fun h => e (Ef hk hj hF (congrArg Addr.block h))) ha hb]
    simp [e]
  simp [go_sem, eqGuard, h1]
end ptr
end
section
open Go.RowKit Go.Maps HeapM TabM
structure qL (O : bK) (idx us : Used Th) (k : Nat) : Prop where
  up : ∀ x, (obj O x).up ≠ some k
  ah : ∀ x, ∀ e ∈ (obj O x).ah, e.2.k ≠ k
  idx : ∀ p ∈ idx, p.2.k ≠ k
  us : ∀ p ∈ us, p.2.k ≠ k
section fresh
variable {S : aG} {O : bK} {idx us : Used Th} {L L' : HL} {k b m c : Nat} {A : Option Addr} {o : aM} {t : Th}
theorem mB (h : Inv0 S) : (aD S.X : Int) = S.X.last + 1 := by
  have := h.last
  unfold aD
  omega
theorem Inv0.rV (h : Inv0 S) (ht : Live S.idx t) : t.k ≠ aD S.X := h.free (by have := mB h; omega) ht
theorem Inv0.zH (h : Inv0 S) (hk : S.X.last < (k : Int)) : qL S.O S.idx S.us k := by
  have key : ∀ x, (∃ t, Live S.idx t ∧ t.k = x) ∨ (obj S.O x).ah = [] ∧ (obj S.O x).up = none := fun x => by
    by_cases hx : ∃ t, Live S.idx t ∧ t.k = x
    ·exact .inl hx
    exact .inr (h.dead x (fun t ht e => hx ⟨t, ht, e⟩))
  refine ⟨fun x e => ?_, fun x e he => ?_, fun p hp => ?_, fun p hp => ?_⟩
  ·rcases key x with ⟨t, ht, rfl⟩ | hx
   ·obtain ⟨_, h2, _⟩ := (h.up t ht _).1 e
    exact h.free hk h2 rfl
   rw [hx.2] at e; cases e
  ·rcases key x with ⟨t, ht, rfl⟩ | hx
   ·exact h.free hk (h.ah t ht e he).2
   rw [hx.1] at he; cases he
  ·exact h.free hk (h.live (kT h.rise hp))
  exact h.free hk (h.us _ _ (kT h.usr hp)).1
theorem Inv0.fresh (h : Inv0 S) : qL S.O S.idx S.us (aD S.X) := h.zH (by have := mB h; omega)
theorem sU (hL : L' = L.put k b m A c) {x : Nat} (h : x ≠ k) : L'.b x = L.b x := by subst hL; exact if_neg h
theorem yc (hL : L' = L.put k b m A c) : L'.b k = b := by subst hL; exact if_pos rfl
theorem CD (hL : L' = L.put k b m A c) : L'.m k = m := by subst hL; exact if_pos rfl
theorem GU (hL : L' = L.put k b m A c) (h : t.k ≠ k) : cO L' t = cO L t := by unfold cO; rw [sU hL h]
theorem mD (hL : L' = L.put k b m A c) (kind : Int) : cO L' ⟨k, kind⟩ = .iface (OG kind) (.pointer (some ⟨b, 0, none⟩)) := by unfold cO; rw [yc hL]
theorem fk (hL : L' = L.put k b m A c) (h : ∀ p ∈ us, p.2.k ≠ k) : aK L' us = aK L us := List.map_congr_left (fun p hp => by rw [GU hL (h p hp)])
theorem Je {es : dU Th} {n : ByteArray} (h : ∀ e ∈ es, e.2.k ≠ k) (e : aQ n es = some t) : t.k ≠ k := h _ (jH e)
theorem Jf (hL : L' = L.put k b m A c) {es : dU Th} (h : ∀ e ∈ es, e.2.k ≠ k) : fX L' es = fX L es := by
  unfold fX
  congr 1
  funext n
  cases e : aQ n es with
  | none => rfl
  | some t => exact congrArg some (GU hL (Je h e))
theorem Eg (hL : L' = L.put k b m A c) (hf : qL O idx us k) {x : Nat} (h : x ≠ k) : aN O L' x = aN O L x := by
  have e1 := sU hL h
  have e2 : eW L' x (obj O x) = eW L x (obj O x) := by
    unfold eW vo
    have h1 : qK L' (obj O x).up = qK L (obj O x).up := by
      cases hu : (obj O x).up with
      | none => rfl
      | some d => show Value.pointer _ = Value.pointer _; rw [sU hL (fun e => hf.up x (by rw [hu, e]))]
    rw [h1]
    subst hL
    simp only [HL.put, if_neg h]
  unfold aN
  rw [e1, e2]
theorem zI (hL : L' = L.put k b m A c) (hf : qL O idx us k) {x : Nat} (h : x ≠ k) : bh O L' x = bh O L x := by
  unfold bh
  rw [Jf hL (hf.ah x)]
  subst hL
  simp only [HL.put, if_neg h]
theorem vA (hL : L' = L.put k b m A c) {x : Nat} (h : x ≠ k) : aY O L' x = aY O L x := by
  unfold aY
  subst hL
  simp only [HL.put, if_neg h]
end fresh
theorem qi {O O' : bK} {L : HL} (h1 : ∀ x, (obj O' x).data = (obj O x).data) (h2 : ∀ x, (obj O' x).kind = (obj O x).kind) : aY O' L = aY O L := by
  funext x
  unfold aY
  rw [h1, h2]
theorem fI {X : FM} {O : bK} {L : HL} {d : Nat} {name : ByteArray} {t : Th} : aY (bq X O d name t) L = aY O L :=
  qi (fun _ => kV (g := aM.data) (fun _ _ => rfl) (fun _ _ => rfl) (fun _ _ _ => rfl) (fun _ _ => rfl)) (fun _ => DF)
theorem iZ {X : FM} {O : bK} {L : HL} {d : Nat} {name : ByteArray} {t : Th} : aY (aJ X O d name t) L = aY O L :=
  qi (fun _ => cE (g := aM.data) (fun _ _ => rfl) (fun _ _ => rfl) (fun _ _ _ => rfl)) (fun _ => bY)
theorem nK {α : Type} {g : aM → α} {O : bK} {k j : Nat} (h : ∀ o b, g { o with gone := b } = g o) : g (obj (nU O j) k) = g (obj O k) := cI (f := fun o => { o with gone := true }) (fun o => h o true)
theorem Jg {O : bK} {L : HL} {k : Nat} : aY (nU O k) L = aY O L := qi (fun _ => nK (g := aM.data) (fun _ _ => rfl)) (fun _ => nK (g := aM.kind) (fun _ _ => rfl))
theorem lV {S : aG} {L : HL} {d : Nat} {name : ByteArray} {t : Th} : aY (dropM S d name t).O L = aY S.O L := by
  unfold dropM
  simp only
  split
  ·exact Jg.trans iZ
  exact iZ
theorem ye {S : aG} {d k : Nat} {name : ByteArray} {t : Th} : (obj (dropM S d name t).O k).kind = (obj S.O k).kind := by
  unfold dropM
  simp only
  split
  ·exact (nK (g := aM.kind) (fun _ _ => rfl)).trans bY
  exact bY
theorem mE {X : FM} {O : bK} {idx : Used Th} {d : Nat} {name : ByteArray} (h : bN X O idx d name = 0) : aQ name (obj O d).ah = none := by
  unfold bN at h
  split at h
  ·assumption
  cases h
theorem rC {X : FM} {O : bK} {idx : Used Th} {d : Nat} {name : ByteArray} (h : bN X O idx d name = 0) : Room X idx := by
  unfold bN at h
  split at h
  ·split at h
   ·assumption
   cases h
  cases h
theorem nV {X : FM} {O : bK} {idx : Used Th} {d : Nat} {name : ByteArray} (h : bN X O idx d name = 0) : X.last < 1099511627776 := (rC h).2.1
section sat
variable {β : Bs} {l l' : List HP} {w : World} {i j k b m c : Nat} {O : bK} {us : Used Th} {idx' us' : Used Th} {L L' : HL} {cs : List Value} {T : TypeId} {ix : List Nat} {A : Option Addr} {o : aM} {R R' : Nat → bT}
theorem Sat.less {p p' : HP} (h : Sat β l w) (hp : l[i]? = some p) (hs : ∀ F, p.h F w → ∃ F', p'.h F' w ∧ ∀ x, F' x → F x) : Sat β (l.set i p') w :=
  h.set hp (fun F hF => let ⟨F', h1, h2⟩ := hs F hF; ⟨F', h1, ⟨Keeps.refl _ _, fun k hk => .inl (h2 k hk)⟩⟩)
theorem Sat.ux (h : Sat β l w) (hp : l[i]? = some (.abs (ak R))) (k : Nat) (hR : ∀ x, x ≠ k → R' x = R x) (ha : R' k = bT.none) : Sat β (l.set i (.abs (ak R'))) w := by
  refine h.less hp ?_
  rintro F ⟨φ, h1, h2, h3⟩
  refine ⟨fun x => ∃ i, i ≠ k ∧ φ i x, ⟨fun i => if i = k then fun _ => False else φ i, fun i => ?_, fun i j hne x hx hy => ?_, fun x => ⟨fun ⟨i, hne, hx⟩ => ⟨i, by simpa [hne] using hx⟩, fun ⟨i, hx⟩ => ?_⟩⟩, fun x ⟨i, _, hx⟩ => (h3 x).2 ⟨i, hx⟩⟩
  ·by_cases e : i = k
   ·subst e; simp only [if_true]; rw [ha]; exact fun _ h => h
   simp only [e, if_false]; rw [hR i e]; exact h1 i
  ·by_cases e1 : i = k
   ·simp [e1] at hx
   by_cases e2 : j = k
   ·simp [e2] at hy
   exact h2 i j hne x (by simpa [e1] using hx) (by simpa [e2] using hy)
  by_cases e1 : i = k
  ·simp [e1] at hx
  exact ⟨i, e1, by simpa [e1] using hx⟩
theorem Sat.qM (h : Sat β l w) (hL : L' = L.put k b m A c) (hf : qL O idx' us' k) (hp : l[i]? = some (.abs (ak (aN O L)))) (hq : l[j]? = some (.blk b cs T)) (hd : nodupB (i :: j :: ix) = true) (hl : bM l ix = some l') (h0 : o.kind ≠ 0) (hc : eW L' k o = cs) (hT : kX o.kind = T) : Sat β (.abs (ak (aN (ay O k (fun _ => o)) L')) :: l') w := by
  refine h.o6 (a := wL b cs T) hp hq (fun _ _ h => h) hd hl k (fun x hx => ?_) (by rw [rQ, if_neg h0, hc, hT, yc hL])
  rw [rR hx, Eg hL hf hx]
theorem Sat.Kj (h : Sat β l w) (hL : L' = L.put k b m A c) (hf : qL O idx' us' k) (hp : l[i]? = some (.abs (ak (bh O L)))) (hq : l[j]? = some (.abs (aE Tryz.prog 9 m (fun _ => none) 0))) (hd : nodupB (i :: j :: ix) = true) (hl : bM l ix = some l') (h2 : o.kind = 2) (he : o.ah = []) : Sat β (.abs (ak (bh (ay O k (fun _ => o)) L')) :: l') w := by
  refine h.o6 hp hq (fun _ _ h => h) hd hl k (fun x hx => by rw [ud hx, zI hL hf hx]) ?_
  rw [mz (by rw [bG]; exact h2), bG, he, IQ, CD hL]; rfl
theorem Sat.rW (h : Sat β l w) (hL : L' = L.put k b m A c) (hf : qL O idx' us' k) (hp : l[i]? = some (.abs (ak (bh O L)))) (h2 : o.kind ≠ 2) : Sat β (l.set i (.abs (ak (bh (ay O k (fun _ => o)) L')))) w := by
  refine h.ux hp k (fun x hx => by rw [ud hx, zI hL hf hx]) ?_
  unfold bh; rw [bG, if_neg h2]
theorem Sat.yg (h : Sat β l w) (hL : L' = L.put k b m A c) (hp : l[i]? = some (.abs (ak (aY O L)))) (h1 : o.kind ≠ 1) : Sat β (l.set i (.abs (ak (aY (ay O k (fun _ => o)) L')))) w := by
  refine h.ux hp k (fun x hx => by rw [uf hx, vA hL hx]) ?_
  unfold aY; rw [bG, if_neg h1]
theorem Sat.E0 (h : Sat β l w) (hL : L' = L.put k b m none 0) (hp : l[i]? = some (.abs (ak (aY O L)))) (hq : l[j]? = some (.abs (aI 5 1 none 0 0 []))) (hd : nodupB (i :: j :: ix) = true) (hl : bM l ix = some l') (h1 : o.kind = 1) (he : o.data = []) : Sat β (.abs (ak (aY (ay O k (fun _ => o)) L')) :: l') w := by
  refine h.o6 hp hq (fun _ _ h => h) hd hl k (fun x hx => by rw [uf hx, vA hL hx]) ?_
  rw [p8 (by rw [bG]; exact h1), bG, he]
  subst hL
  simp only [HL.put, if_true]
  rfl
end sat
end
section
open Go.RowKit Go.Maps HeapM TabM
section inv
variable {S : aG} {d : Nat} {name : ByteArray} {t : Th} {O' : bK}
theorem iL.del {es : dU Th} (h : iL es) : iL (eG name es) := List.Pairwise.filter _ h
theorem qj {x y : ByteArray} : ¬ iX x y ↔ lQ y x < 0 := by
  unfold iX
  rw [xI, Lib.toList_data, Lib.toList_data]
  have h1 := @Ay x.data.toList y.data.toList
  have h2 := @AB x y
  have h3 := tU x y
  unfold lQ at h2 h3 ⊢
  rw [Bool.or_eq_true, decide_eq_true_iff, ← h1, ← h2]
  omega
theorem iL.ins {es : dU Th} (h : iL es) (hn : aQ name es = none) : iL (eF name t es) := by
  induction es with
  | nil => exact List.pairwise_singleton ..
  | cons e r ih =>
    obtain ⟨h1, h2⟩ := List.pairwise_cons.1 h
    have hall := sK.1 hn
    unfold eF
    split
    ·rename_i hlt
     refine List.pairwise_cons.2 ⟨fun x hx => ?_, h⟩
     rcases List.mem_cons.1 hx with rfl | hx
     ·exact hlt
     have h3 := h1 x hx
     exact qj.2 (xO (qj.1 hlt) (Int.le_of_lt (qj.1 h3)))
    rename_i hle
    refine List.pairwise_cons.2 ⟨fun x hx => ?_, ih h2 (sK.2 (fun x hx => hall x (List.mem_cons_of_mem _ hx)))⟩
    rcases sM.1 hx with rfl | hx
    ·have hne : ¬ e.1 = name := hall e (List.mem_cons_self ..)
     refine qj.2 ?_
     have h4 : ¬ lQ name e.1 < 0 := fun hc => hle (qj.2 hc)
     have h5 := tU e.1 name
     have h6 : ¬ lQ e.1 name = 0 := fun hc => hne (AB.1 hc)
     show lQ e.1 name < 0
     omega
    exact h1 x hx
theorem Inv0.cut (hI : Inv0 S) (hd : Live S.idx ⟨d, 2⟩) (hl : aQ name (obj S.O d).ah = some t) {g : Bool}
    (hO : ∀ k, obj O' k = if k = d then { obj S.O d with ah := eG name (obj S.O d).ah, sec := S.X.cS, nano := S.X.cZ } else if k = t.k then { obj S.O k with links := (obj S.O k).links - 1, gone := g, up := none } else obj S.O k)
    (hg : g = (obj S.O t.k).gone ∨ (obj S.O t.k).links - 1 = 0 ∧ (t.kind = 2 → (obj S.O t.k).ah = [])) : Inv0 { S with X := { S.X with ah := S.X.ah - 1 }, O := O' } := by
  have hne := hI.ne hd hl
  have ht := (hI.ent hd hl).2
  have oD : obj O' d = { obj S.O d with ah := eG name (obj S.O d).ah, sec := S.X.cS, nano := S.X.cZ } := by rw [hO, if_pos rfl]
  have oT : obj O' t.k = { obj S.O t.k with links := (obj S.O t.k).links - 1, gone := g, up := none } := by rw [hO, if_neg hne, if_pos rfl]
  have oX : ∀ x, x ≠ d → x ≠ t.k → obj O' x = obj S.O x := fun x h1 h2 => by rw [hO, if_neg h1, if_neg h2]
  have kA : ∀ {α : Type} (G : aM → α), (∀ o es a b, G { o with ah := es, sec := a, nano := b } = G o) → (∀ o l g, G { o with links := l, gone := g, up := none } = G o) → ∀ x, G (obj O' x) = G (obj S.O x) := fun G h1 h2 x => by
    by_cases e : x = d
    ·subst e; rw [oD]; exact h1 _ _ _ _
    by_cases e2 : x = t.k
    ·subst e2; rw [oT]; exact h2 _ _ _
    rw [oX x e e2]
  have Mi := kA aM.id (fun _ _ _ _ => rfl) (fun _ _ _ => rfl)
  have yh := kA aM.kind (fun _ _ _ _ => rfl) (fun _ _ _ => rfl)
  have E4 := kA aM.data (fun _ _ _ _ => rfl) (fun _ _ _ => rfl)
  have Mj := kA aM.opens (fun _ _ _ _ => rfl) (fun _ _ _ => rfl)
  have fE : ∀ x, x ≠ d → (obj O' x).ah = (obj S.O x).ah := fun x hx => by
    by_cases e2 : x = t.k
    ·subst e2; rw [oT]
    rw [oX x hx e2]
  have vW : (obj O' d).ah = eG name (obj S.O d).ah := by rw [oD]
  have hlk : 0 < gh S.idx S.O t.k := kU hd hl
  have hlt := hI.links t ht
  have hky : ∀ i u, TabM.get S.idx i = some u → i = (u.k : Int) := fun i u e => hI.key e
  have hsum : ∀ q : ByteArray × Th → Bool, _ := fun q => I7 (q := q) hI.rise hd hky fE vW (hI.twice hd) hl
  have E5 : ∀ x, gh S.idx O' x + (if t.k = x then 1 else 0) = gh S.idx S.O x := fun x => by
    have h1 := hsum (fun e => decide (e.2.k = x))
    simp only [decide_eq_true_eq] at h1
    exact h1
  refine { hI with ob := fun x hx => ?_, mt := fun x hx => ?_, ah := fun x hx e he => ?_, sorted := fun x hx => ?_, dead := fun x hx => ?_, o8 := fun x hx => (yh x).trans (hI.o8 x hx), total := ?_, links := fun x hx => ?_, once := fun x hx hk => ?_, opens := fun x hx => ?_, gone := fun x hx gP => ?_, up := fun x hx e => ?_, deep := ?_, used := ?_ }
  ·show (obj O' x.k).id = _ ∧ (obj O' x.k).kind = _ ∧ _
   rw [Mi, yh]; exact hI.ob x hx
  ·show jw (obj O' x.k)
   have hm := hI.mt x hx
   by_cases e : x.k = d
   ·rw [e] at hm ⊢
    rw [oD]
    exact hm.of rfl rfl rfl hI.now rfl (.inl rfl) (.inr (hI.kind hd)) rfl
   by_cases e2 : x.k = t.k
   ·rw [e2] at hm ⊢
    rw [oT]
    exact hm.of rfl rfl rfl hm.time rfl (.inl rfl) (.inl rfl) rfl
   rw [oX _ e e2]; exact hm
  ·by_cases e1 : x.k = d
   ·have he : e ∈ (obj O' x.k).ah := he
    rw [e1, vW] at he
    exact hI.ah _ hd e (CA he).1
   have he : e ∈ (obj O' x.k).ah := he
   rw [fE _ e1] at he
   exact hI.ah x hx e he
  ·show iL (obj O' x.k).ah
   by_cases e1 : x.k = d
   ·rw [e1, vW]; exact iL.del (hI.sorted _ hd)
   rw [fE _ e1]; exact hI.sorted x hx
  ·show (obj O' x).ah = [] ∧ (obj O' x).up = none
   rw [oX x (fun e => hx _ hd e.symm) (fun e => hx t ht e.symm)]
   exact hI.dead x hx
  ·have h1 := hsum (fun _ => true)
   have h2 := hI.total
   rw [kz] at h2
   show S.X.ah - 1 = (tot S.idx O' : Int) ∧ S.X.ah - 1 ≤ 8192
   rw [kz]
   simp only [if_true] at h1
   omega
  ·show (obj O' x.k).links = (gh S.idx O' x.k : Int)
   have h1 := E5 x.k
   have h2 := hI.links x hx
   by_cases e2 : x.k = t.k
   ·rw [if_pos e2.symm] at h1
    rw [e2, oT]
    rw [e2] at h1
    show (obj S.O t.k).links - 1 = _
    omega
   rw [if_neg (fun e => e2 e.symm)] at h1
   have : (obj O' x.k).links = (obj S.O x.k).links := by
     by_cases e : x.k = d
     ·rw [e, oD]
     rw [oX _ e e2]
   omega
  ·show (obj O' x.k).links ≤ 1
   have h1 := hI.once x hx hk
   by_cases e2 : x.k = t.k
   ·rw [e2] at h1 ⊢
    rw [oT]
    show (obj S.O t.k).links - 1 ≤ 1
    omega
   by_cases e : x.k = d
   ·rw [e] at h1 ⊢; rw [oD]; exact h1
   rw [oX _ e e2]; exact h1
  ·show (obj O' x.k).opens = _
   rw [Mj]; exact hI.opens x hx
  ·have gP : (obj O' x.k).gone = true := gP
   show (obj O' x.k).links = 0 ∧ (obj O' x.k).ah = []
   by_cases e2 : x.k = t.k
   ·rw [e2] at gP ⊢
    rw [fE _ hne, oT]
    rw [oT] at gP
    show (obj S.O t.k).links - 1 = 0 ∧ _
    rcases hg with h | ⟨h1, h2⟩
    ·have gP : g = true := gP
     rw [h] at gP
     have := (hI.gone t ht gP).1
     omega
    refine ⟨h1, ?_⟩
    by_cases hk : t.kind = 2
    ·exact h2 hk
    exact (hI.mt t ht).ah (by rw [hI.kind ht]; exact hk)
   by_cases e : x.k = d
   ·rw [e, oD] at gP
    have := (hI.gone _ hd gP).2
    rw [I9 this] at hl; cases hl
   rw [oX _ e e2] at gP ⊢; exact hI.gone x hx gP
  ·show (obj O' x.k).up = some e ↔ x.kind = 2 ∧ Live S.idx ⟨e, 2⟩ ∧ ∃ n, aQ n (obj O' e).ah = some x
   by_cases e2 : x.k = t.k
   ·have GV : x = t := eZ hx ht e2
    subst GV
    rw [oT]
    constructor
    ·intro h; cases h
    rintro ⟨hk, hle, n, hn⟩
    have h1 := hI.once x hx hk
    have h2 := E5 x.k
    rw [if_pos rfl] at h2
    have h3 : 0 < gh S.idx O' x.k := kU hle hn
    omega
   have h1 : (obj O' x.k).up = (obj S.O x.k).up := by
     by_cases e : x.k = d
     ·rw [e, oD]
     rw [oX _ e e2]
   have h2 : ∀ n, aQ n (obj O' e).ah = some x ↔ aQ n (obj S.O e).ah = some x := fun n => by
     by_cases e3 : e = d
     ·rw [e3, vW, oh]
      by_cases hnn : n = name
      ·rw [if_pos hnn, hnn, hl]
       constructor
       ·intro h; cases h
       intro h; exact absurd (congrArg Th.k (Option.some.inj h)).symm e2
      rw [if_neg hnn]
     rw [fE _ e3]
   rw [h1, hI.up x hx e]
   simp only [h2]
  ·obtain ⟨dp, hdp⟩ := hI.deep
   refine ⟨dp, fun x e hx => ?_⟩
   have hx : (obj O' x).up = some e := hx
   by_cases e2 : x = t.k
   ·rw [e2, oT] at hx; cases hx
   by_cases e3 : x = d
   ·rw [e3, oD] at hx; rw [e3]; exact hdp _ _ hx
   rw [oX _ e3 e2] at hx; exact hdp _ _ hx
  have : bytes S.idx O' = bytes S.idx S.O := eT (fun p _ => by rw [E4])
  show S.X.used = (bytes S.idx O' : Int) ∧ _
  rw [this]; exact hI.used
theorem E6 {O O1 : bK} {s k : Nat} (h : ∀ x e, (obj O1 x).up = some e → (obj O x).up = some e) (hb : iN O1 s k) : iN O s k := by
  induction hb with
  | here => exact .here
  | up hu _ ih => exact .up (h _ _ hu) ih
theorem AV {O : bK} {s k : Nat} : iN O s k ↔ k = s ∨ ∃ e, (obj O k).up = some e ∧ iN O s e := by
  constructor
  ·rintro (_ | ⟨h1, h2⟩)
   ·exact .inl rfl
   exact .inr ⟨_, h1, h2⟩
  rintro (h | ⟨e, h1, h2⟩)
  ·subst h; exact .here
  exact .up h1 h2
theorem Inv0.put (hI : Inv0 S) (hd : Live S.idx ⟨d, 2⟩) (gy : (obj S.O d).gone = false) (hn : aQ name (obj S.O d).ah = none) (hgn : bB name) (ht : Live S.idx t) (Ed : (obj S.O t.k).gone = false) (Jh : t.kind = 2 → (obj S.O t.k).links = 0 ∧ ¬ iN S.O t.k d) (htd : t.k ≠ d) (hroom : S.X.ah < 8192) {ta tb : Int} (Qt : cT ta tb)
    (hO : ∀ k, obj O' k = if k = d then { obj S.O d with ah := eF name t (obj S.O d).ah, sec := ta, nano := tb } else if k = t.k then { obj S.O k with links := (obj S.O k).links + 1, up := if t.kind = 2 then some d else (obj S.O k).up } else obj S.O k) :
    Inv0 { S with X := { S.X with ah := S.X.ah + 1 }, O := O' } := by
  have hne := htd
  have oD : obj O' d = { obj S.O d with ah := eF name t (obj S.O d).ah, sec := ta, nano := tb } := by rw [hO, if_pos rfl]
  have oT : obj O' t.k = { obj S.O t.k with links := (obj S.O t.k).links + 1, up := if t.kind = 2 then some d else (obj S.O t.k).up } := by rw [hO, if_neg hne, if_pos rfl]
  have oX : ∀ x, x ≠ d → x ≠ t.k → obj O' x = obj S.O x := fun x h1 h2 => by rw [hO, if_neg h1, if_neg h2]
  have kA : ∀ {α : Type} (G : aM → α), (∀ o es a b, G { o with ah := es, sec := a, nano := b } = G o) → (∀ o l u, G { o with links := l, up := u } = G o) → ∀ x, G (obj O' x) = G (obj S.O x) := fun G h1 h2 x => by
    by_cases e : x = d
    ·subst e; rw [oD]; exact h1 _ _ _ _
    by_cases e2 : x = t.k
    ·subst e2; rw [oT]; exact h2 _ _ _
    rw [oX x e e2]
  have Mi := kA aM.id (fun _ _ _ _ => rfl) (fun _ _ _ => rfl)
  have yh := kA aM.kind (fun _ _ _ _ => rfl) (fun _ _ _ => rfl)
  have E4 := kA aM.data (fun _ _ _ _ => rfl) (fun _ _ _ => rfl)
  have Mj := kA aM.opens (fun _ _ _ _ => rfl) (fun _ _ _ => rfl)
  have fG := kA aM.gone (fun _ _ _ _ => rfl) (fun _ _ _ => rfl)
  have fE : ∀ x, x ≠ d → (obj O' x).ah = (obj S.O x).ah := fun x hx => by
    by_cases e2 : x = t.k
    ·subst e2; rw [oT]
    rw [oX x hx e2]
  have vW : (obj O' d).ah = eF name t (obj S.O d).ah := by rw [oD]
  have hky : ∀ i u, TabM.get S.idx i = some u → i = (u.k : Int) := fun i u e => hI.key e
  have hsum : ∀ q : ByteArray × Th → Bool, _ := fun q => I8 (q := q) hI.rise hd hky fE vW
  have E5 : ∀ x, gh S.idx O' x = gh S.idx S.O x + (if t.k = x then 1 else 0) := fun x => by
    have h1 := hsum (fun e => decide (e.2.k = x))
    simp only [decide_eq_true_eq] at h1
    exact h1
  have hlt := hI.links t ht
  have Mk : t.kind = 2 → ∀ e n, Live S.idx ⟨e, 2⟩ → aQ n (obj S.O e).ah ≠ some t := fun hk e n hle h => by
    have h1 : 0 < gh S.idx S.O t.k := kU hle h
    have := (Jh hk).1
    omega
  refine { hI with ob := fun x hx => ?_, mt := fun x hx => ?_, ah := fun x hx e he => ?_, sorted := fun x hx => ?_, dead := fun x hx => ?_, o8 := fun x hx => (yh x).trans (hI.o8 x hx), total := ?_, links := fun x hx => ?_, once := fun x hx hk => ?_, opens := fun x hx => ?_, gone := fun x hx gP => ?_, up := fun x hx e => ?_, deep := ?_, used := ?_ }
  ·show (obj O' x.k).id = _ ∧ (obj O' x.k).kind = _ ∧ _
   rw [Mi, yh]; exact hI.ob x hx
  ·show jw (obj O' x.k)
   have hm := hI.mt x hx
   by_cases e : x.k = d
   ·rw [e] at hm ⊢
    rw [oD]
    exact hm.of rfl rfl rfl Qt rfl (.inl rfl) (.inr (hI.kind hd)) rfl
   by_cases e2 : x.k = t.k
   ·rw [e2] at hm ⊢
    rw [oT]
    exact hm.of rfl rfl rfl hm.time rfl (.inl rfl) (.inl rfl) rfl
   rw [oX _ e e2]; exact hm
  ·have he : e ∈ (obj O' x.k).ah := he
   by_cases e1 : x.k = d
   ·rw [e1, vW] at he
    rcases sM.1 he with rfl | he
    ·exact ⟨hgn, ht⟩
    exact hI.ah _ hd e he
   rw [fE _ e1] at he
   exact hI.ah x hx e he
  ·show iL (obj O' x.k).ah
   by_cases e1 : x.k = d
   ·rw [e1, vW]; exact iL.ins (hI.sorted _ hd) hn
   rw [fE _ e1]; exact hI.sorted x hx
  ·show (obj O' x).ah = [] ∧ (obj O' x).up = none
   rw [oX x (fun e => hx _ hd e.symm) (fun e => hx t ht e.symm)]
   exact hI.dead x hx
  ·have h1 := hsum (fun _ => true)
   have h2 := hI.total
   rw [kz] at h2
   show S.X.ah + 1 = (tot S.idx O' : Int) ∧ S.X.ah + 1 ≤ 8192
   rw [kz]
   simp only [if_true] at h1
   omega
  ·show (obj O' x.k).links = (gh S.idx O' x.k : Int)
   have h1 := E5 x.k
   have h2 := hI.links x hx
   by_cases e2 : x.k = t.k
   ·rw [if_pos e2.symm] at h1
    rw [e2, oT]
    rw [e2] at h1
    show (obj S.O t.k).links + 1 = _
    omega
   rw [if_neg (fun e => e2 e.symm)] at h1
   have : (obj O' x.k).links = (obj S.O x.k).links := by
     by_cases e : x.k = d
     ·rw [e, oD]
     rw [oX _ e e2]
   omega
  ·show (obj O' x.k).links ≤ 1
   have h1 := hI.once x hx hk
   by_cases e2 : x.k = t.k
   ·have GV : x = t := eZ hx ht e2
    subst GV
    have := (Jh hk).1
    rw [oT]
    show (obj S.O x.k).links + 1 ≤ 1
    omega
   by_cases e : x.k = d
   ·rw [e] at h1 ⊢; rw [oD]; exact h1
   rw [oX _ e e2]; exact h1
  ·show (obj O' x.k).opens = _
   rw [Mj]; exact hI.opens x hx
  ·have gP : (obj O' x.k).gone = true := gP
   rw [fG] at gP
   show (obj O' x.k).links = 0 ∧ (obj O' x.k).ah = []
   by_cases e2 : x.k = t.k
   ·rw [e2, Ed] at gP; cases gP
   by_cases e : x.k = d
   ·rw [e, gy] at gP; cases gP
   rw [oX _ e e2]; exact hI.gone x hx gP
  ·show (obj O' x.k).up = some e ↔ x.kind = 2 ∧ Live S.idx ⟨e, 2⟩ ∧ ∃ n, aQ n (obj O' e).ah = some x
   by_cases e2 : x.k = t.k
   ·have GV : x = t := eZ hx ht e2
    subst GV
    rw [oT]
    show (if x.kind = 2 then some d else (obj S.O x.k).up) = some e ↔ _
    by_cases hk : x.kind = 2
    ·rw [if_pos hk]
     constructor
     ·intro h
      cases h
      exact ⟨hk, hd, name, by rw [vW, t7 hn, if_pos rfl]⟩
     rintro ⟨_, hle, n, h⟩
     by_cases e3 : e = d
     ·rw [e3]
     rw [fE _ e3] at h
     exact absurd h (Mk hk e n hle)
    rw [if_neg hk, hI.up x hx e]
    constructor
    ·rintro ⟨h, _⟩; exact absurd h hk
    rintro ⟨h, _⟩; exact absurd h hk
   have h1 : (obj O' x.k).up = (obj S.O x.k).up := by
     by_cases e : x.k = d
     ·rw [e, oD]
     rw [oX _ e e2]
   have h2 : ∀ n, aQ n (obj O' e).ah = some x ↔ aQ n (obj S.O e).ah = some x := fun n => by
     by_cases e3 : e = d
     ·rw [e3, vW, t7 hn]
      by_cases hnn : n = name
      ·rw [if_pos hnn, hnn, hn]
       constructor
       ·intro h; exact absurd (congrArg Th.k (Option.some.inj h)).symm e2
       intro h; cases h
      rw [if_neg hnn]
     rw [fE _ e3]
   rw [h1, hI.up x hx e]
   simp only [h2]
  ·obtain ⟨dp, hdp⟩ := hI.deep
   by_cases hk : t.kind = 2
   ·obtain ⟨hl0, hnb⟩ := Jh hk
    have Rp : (obj S.O t.k).up = none := by
      cases hu : (obj S.O t.k).up with
      | none => rfl
      | some e =>
        obtain ⟨_, h2, n, h3⟩ := (hI.up t ht e).1 hu
        exact absurd h3 (Mk hk e n h2)
    refine ⟨fun x => if iN S.O t.k x then dp x + dp d + 1 else dp x, fun x e hx => ?_⟩
    have hx : (obj O' x).up = some e := hx
    by_cases e2 : x = t.k
    ·rw [e2, oT] at hx
     have hx : (if t.kind = 2 then some d else (obj S.O t.k).up) = some e := hx
     rw [if_pos hk] at hx
     cases hx
     subst e2
     simp only [if_neg hnb, if_pos (iN.here : iN S.O t.k t.k)]
     omega
    have hx : (obj S.O x).up = some e := by
      by_cases e3 : x = d
      ·rw [e3, oD] at hx; rw [e3]; exact hx
      rw [oX _ e3 e2] at hx; exact hx
    have h1 := hdp _ _ hx
    by_cases hb : iN S.O t.k e
    ·simp only [if_pos hb, if_pos (iN.up hx hb)]; omega
    have : ¬ iN S.O t.k x := fun h => by
      rcases AV.1 h with h | ⟨e', h1, h2⟩
      ·exact e2 h
      rw [hx] at h1; cases h1; exact hb h2
    simp only [if_neg hb, if_neg this]; exact h1
   refine ⟨dp, fun x e hx => ?_⟩
   have hx : (obj O' x).up = some e := hx
   by_cases e2 : x = t.k
   ·rw [e2, oT] at hx
    have hx : (if t.kind = 2 then some d else (obj S.O t.k).up) = some e := hx
    rw [if_neg hk] at hx
    rw [e2]; exact hdp _ _ hx
   by_cases e3 : x = d
   ·rw [e3, oD] at hx; rw [e3]; exact hdp _ _ hx
   rw [oX _ e3 e2] at hx; exact hdp _ _ hx
  have : bytes S.idx O' = bytes S.idx S.O := eT (fun p _ => by rw [E4])
  show S.X.used = (bytes S.idx O' : Int) ∧ _
  rw [this]; exact hI.used
end inv
end
section
open Go.RowKit Go.Maps HeapM TabM
section new
variable {S : aG} {d : Nat} {name : ByteArray} {t : Th} {o : aM} {us' : Used Th} {eU : Int}
theorem Inv0.newAt (hI : Inv0 S) {k0 : Nat} (hlt : S.X.last < (k0 : Int)) (hle : (k0 : Int) ≤ 1099511627776) {jq : Int} (Q7 : jq = S.X.used + o.data.length ∧ jq ≤ 140737488355328) (hid : o.id = (k0 : Int)) (hk3 : o.kind = 1 ∨ o.kind = 2 ∨ o.kind = 3) (hl0 : o.links = 0) (he0 : o.ah = []) (hu0 : o.up = none) (hg0 : o.gone = false) (hm : jw o) (hlen : S.idx.length < 4096)
    (u1 : TabM.bP (keys us')) (u2 : ∀ x ∈ keys us', 1 ≤ x ∧ x ≤ eU) (u3 : (us'.length : Int) ≤ S.X.cH) (u4 : 0 ≤ eU ∧ eU ≤ S.X.cH) (u5 : ∀ h t, TabM.get us' h = some t → (Live S.idx t ∨ t = ⟨k0, o.kind⟩) ∧ t.kind ≠ 3) (u6 : ∀ k, k ≠ k0 → hnd us' k = hnd S.us k) (u7 : o.opens = (hnd us' (k0) : Int)) :
    Inv0 { S with X := { S.X with last := (k0 : Int), used := jq }, O := ay S.O (k0) (fun _ => o), idx := ins ((k0 : Int)) ⟨k0, o.kind⟩ S.idx, us := us', av := eU } := by
  have hnot : TabM.get S.idx ((k0 : Int)) = none := by
    cases e : TabM.get S.idx ((k0 : Int)) with
    | none => rfl
    | some u => have := (hI.idx _ u e).2.2; omega
  have hget : ∀ i, TabM.get (ins ((k0 : Int)) ⟨k0, o.kind⟩ S.idx) i = if i = (k0 : Int) then some ⟨k0, o.kind⟩ else TabM.get S.idx i := fun i => pQ (get_none.1 hnot) i
  have dM : ∀ x, Live (ins ((k0 : Int)) ⟨k0, o.kind⟩ S.idx) x ↔ x = ⟨k0, o.kind⟩ ∨ Live S.idx x := fun x => by
    unfold Live
    rw [hget]
    constructor
    ·intro h
     split at h
     ·exact .inl (Option.some.inj h).symm
     exact .inr h
    rintro (h | h)
    ·subst h; rw [if_pos rfl]
    rw [if_neg (by intro e; rw [e, hnot] at h; cases h)]; exact h
  have oN : obj (ay S.O (k0) (fun _ => o)) (k0) = o := bG
  have oX : ∀ x, Live S.idx x → obj (ay S.O (k0) (fun _ => o)) x.k = obj S.O x.k := fun x hx => bQ (hI.free hlt hx)
  have hfr := hI.zH hlt
  have hmem : ∀ p ∈ S.idx, obj (ay S.O (k0) (fun _ => o)) p.2.k = obj S.O p.2.k := fun p hp => bQ (hfr.idx p hp)
  have hsum : ∀ g : aM → Nat, g o = 0 → cM (fun p : Int × Th => g (obj (ay S.O (k0) (fun _ => o)) p.2.k)) (ins ((k0 : Int)) ⟨k0, o.kind⟩ S.idx) = cM (fun p : Int × Th => g (obj S.O p.2.k)) S.idx := fun g hg => by
    rw [wP]
    show g (obj _ (k0)) + _ = _
    rw [oN, hg, Nat.zero_add]
    exact eT (fun p hp => by rw [hmem p hp])
  refine { hI with last := ?_, rise := ?_, len := ?_, idx := fun i x e => ?_, ob := fun x hx => ?_, mt := fun x hx => ?_, ah := fun x hx e he => ?_, sorted := fun x hx => ?_, dead := fun x hx => ?_, o8 := fun x hx => ?_, total := ?_, links := fun x hx => ?_, once := fun x hx hk => ?_, opens := fun x hx => ?_, usr := u1, ur := u2, AR := u3, av := u4, us := fun h x e => ?_, gone := fun x hx gP => ?_, up := fun x hx e => ?_, deep := ?_, used := ?_ }
  ·have := hI.last
   show 0 ≤ (k0 : Int) ∧ (k0 : Int) ≤ 1099511627776
   omega
  ·exact sP hI.rise (get_none.1 hnot)
  ·have := hI.cN
   show (ins ((k0 : Int)) _ S.idx).length ≤ 4096
   rw [gi]; omega
  ·have e : TabM.get (ins ((k0 : Int)) ⟨k0, o.kind⟩ S.idx) i = some x := e
   rw [hget] at e
   have := hI.last
   show i = (x.k : Int) ∧ 0 < i ∧ i ≤ (k0 : Int)
   split at e
   ·cases e
    rename_i e2
    refine ⟨by rw [e2], by omega, by omega⟩
   have := hI.idx i x e
   omega
  ·show (obj (ay S.O (k0) (fun _ => o)) x.k).id = _ ∧ (obj (ay S.O (k0) (fun _ => o)) x.k).kind = _ ∧ _
   rcases (dM x).1 hx with h | h
   ·subst h; rw [oN]; exact ⟨hid, rfl, hk3⟩
   rw [oX x h]; exact hI.ob x h
  ·show jw (obj (ay S.O (k0) (fun _ => o)) x.k)
   rcases (dM x).1 hx with h | h
   ·subst h; rw [oN]; exact hm
   rw [oX x h]; exact hI.mt x h
  ·have he : e ∈ (obj (ay S.O (k0) (fun _ => o)) x.k).ah := he
   rcases (dM x).1 hx with h | h
   ·subst h; rw [oN, he0] at he; cases he
   rw [oX x h] at he
   have h1 := hI.ah x h e he
   exact ⟨h1.1, (dM _).2 (.inr h1.2)⟩
  ·show iL (obj (ay S.O (k0) (fun _ => o)) x.k).ah
   rcases (dM x).1 hx with h | h
   ·subst h; rw [oN, he0]; exact List.Pairwise.nil
   rw [oX x h]; exact hI.sorted x h
  ·show (obj (ay S.O (k0) (fun _ => o)) x).ah = [] ∧ (obj (ay S.O (k0) (fun _ => o)) x).up = none
   have h1 : x ≠ k0 := fun e => hx ⟨k0, o.kind⟩ ((dM _).2 (.inl rfl)) e.symm
   rw [bQ h1]
   exact hI.dead x (fun u hu => hx u ((dM _).2 (.inr hu)))
  ·have hx : (k0 : Int) < (x : Int) := hx
   show (obj (ay S.O (k0) (fun _ => o)) x).kind = 0
   rw [bQ (fun e => by rw [e] at hx; omega)]
   exact hI.o8 x (by omega)
  ·show S.X.ah = (tot _ _ : Int) ∧ S.X.ah ≤ 8192
   have : tot (ins ((k0 : Int)) ⟨k0, o.kind⟩ S.idx) (ay S.O (k0) (fun _ => o)) = tot S.idx S.O := hsum (fun o => o.ah.length) (by rw [he0]; rfl)
   rw [this]; exact hI.total
  ·show (obj (ay S.O (k0) (fun _ => o)) x.k).links = (gh _ _ x.k : Int)
   have : gh (ins ((k0 : Int)) ⟨k0, o.kind⟩ S.idx) (ay S.O (k0) (fun _ => o)) x.k = gh S.idx S.O x.k := hsum (fun o => o.ah.countP (fun e : ByteArray × Th => decide (e.2.k = x.k))) (by rw [he0]; rfl)
   rw [this]
   rcases (dM x).1 hx with h | h
   ·subst h
    rw [oN, hl0]
    have : gh S.idx S.O (k0) = 0 := by
      apply Classical.byContradiction
      intro hne
      obtain ⟨i, u, hu, e, he, hek⟩ := x9 hI.rise (Nat.pos_of_ne_zero hne)
      exact hfr.ah u.k e he hek
    rw [this]; rfl
   rw [oX x h]; exact hI.links x h
  ·show (obj (ay S.O (k0) (fun _ => o)) x.k).links ≤ 1
   rcases (dM x).1 hx with h | h
   ·subst h; rw [oN, hl0]; decide
   rw [oX x h]; exact hI.once x h hk
  ·show (obj (ay S.O (k0) (fun _ => o)) x.k).opens = (hnd us' x.k : Int)
   rcases (dM x).1 hx with h | h
   ·subst h; rw [oN]; exact u7
   rw [oX x h, u6 _ (hI.free hlt h)]; exact hI.opens x h
  ·obtain ⟨h1, h2⟩ := u5 h x e
   exact ⟨(dM x).2 h1.symm, h2⟩
  ·have gP : (obj (ay S.O (k0) (fun _ => o)) x.k).gone = true := gP
   show (obj (ay S.O (k0) (fun _ => o)) x.k).links = 0 ∧ (obj (ay S.O (k0) (fun _ => o)) x.k).ah = []
   rcases (dM x).1 hx with h | h
   ·subst h; rw [oN, hg0] at gP; cases gP
   rw [oX x h] at gP ⊢; exact hI.gone x h gP
  ·show (obj (ay S.O (k0) (fun _ => o)) x.k).up = some e ↔ x.kind = 2 ∧ Live _ ⟨e, 2⟩ ∧ ∃ n, aQ n (obj (ay S.O (k0) (fun _ => o)) e).ah = some x
   rcases (dM x).1 hx with h | h
   ·subst h
    rw [oN, hu0]
    constructor
    ·intro h; cases h
    rintro ⟨_, hle, n, h⟩
    by_cases e2 : e = k0
    ·rw [e2, oN, he0] at h; cases h
    rw [bQ e2] at h; exact absurd rfl (hfr.ah e _ (jH h))
   rw [oX x h, hI.up x h e]
   constructor
   ·rintro ⟨h1, h2, n, h3⟩
    exact ⟨h1, (dM _).2 (.inr h2), n, by rw [oX ⟨e, 2⟩ h2]; exact h3⟩
   rintro ⟨h1, h2, n, h3⟩
   by_cases e2 : e = k0
   ·rw [e2, oN, he0] at h3; cases h3
   rw [bQ e2] at h3
   refine ⟨h1, ?_, n, h3⟩
   rcases (dM _).1 h2 with h4 | h4
   ·exact absurd (congrArg Th.k h4) e2
   exact h4
  ·obtain ⟨dp, hdp⟩ := hI.deep
   refine ⟨dp, fun x e hx => ?_⟩
   have hx : (obj (ay S.O (k0) (fun _ => o)) x).up = some e := hx
   by_cases e2 : x = k0
   ·rw [e2, oN, hu0] at hx; cases hx
   rw [bQ e2] at hx; exact hdp _ _ hx
  show jq = (bytes _ _ : Int) ∧ _
  have h1 : bytes (ins (k0 : Int) ⟨k0, o.kind⟩ S.idx) (ay S.O k0 (fun _ => o)) = o.data.length + bytes S.idx S.O := by
    unfold bytes
    rw [wP]
    show (obj _ k0).data.length + _ = _
    rw [oN]
    congr 1
    exact eT (fun p hp => by rw [hmem p hp])
  have h2 := hI.used
  rw [h1]
  show jq = _ ∧ jq ≤ 140737488355328
  omega
theorem Inv0.new (hI : Inv0 S) (hid : o.id = S.X.last + 1) (hk3 : o.kind = 1 ∨ o.kind = 2 ∨ o.kind = 3) (hl0 : o.links = 0) (he0 : o.ah = []) (hu0 : o.up = none) (hg0 : o.gone = false) (Ml : o.data = []) (hm : jw o) (hlast : S.X.last < 1099511627776) (hlen : (S.idx.length : Int) < S.X.cN)
    (u1 : TabM.bP (keys us')) (u2 : ∀ x ∈ keys us', 1 ≤ x ∧ x ≤ eU) (u3 : (us'.length : Int) ≤ S.X.cH) (u4 : 0 ≤ eU ∧ eU ≤ S.X.cH) (u5 : ∀ h t, TabM.get us' h = some t → (Live S.idx t ∨ t = ⟨aD S.X, o.kind⟩) ∧ t.kind ≠ 3) (u6 : ∀ k, k ≠ aD S.X → hnd us' k = hnd S.us k) (u7 : o.opens = (hnd us' (aD S.X) : Int)) :
    Inv0 { S with X := { S.X with last := S.X.last + 1 }, O := ay S.O (aD S.X) (fun _ => o), idx := ins (S.X.last + 1) ⟨aD S.X, o.kind⟩ S.idx, us := us', av := eU } := by
  have hnk := mB hI
  have h := hI.newAt (k0 := aD S.X) (jq := S.X.used) (by omega) (by omega) ⟨by rw [Ml]; simp, hI.used.2⟩ (hid.trans hnk.symm) hk3 hl0 he0 hu0 hg0 hm (by have := hI.cN; omega) u1 u2 u3 u4 u5 u6 u7
  rw [hnk] at h
  exact h
theorem Inv.add (hI : Inv S) (hd : Live S.idx ⟨d, 2⟩) (gy : (obj S.O d).gone = false) (hn : aQ name (obj S.O d).ah = none) (hgn : bB name) (hroom : Room S.X S.idx)
    (hid : o.id = S.X.last + 1) (hk3 : o.kind = 1 ∨ o.kind = 2 ∨ o.kind = 3) (hl0 : o.links = 0) (he0 : o.ah = []) (hu0 : o.up = none) (hg0 : o.gone = false) (Ml : o.data = []) (hm : jw o)
    (u1 : TabM.bP (keys us')) (u2 : ∀ x ∈ keys us', 1 ≤ x ∧ x ≤ eU) (u3 : (us'.length : Int) ≤ S.X.cH) (u4 : 0 ≤ eU ∧ eU ≤ S.X.cH) (u5 : ∀ h t, TabM.get us' h = some t → (Live S.idx t ∨ t = ⟨aD S.X, o.kind⟩) ∧ t.kind ≠ 3) (u6 : ∀ k, k ≠ aD S.X → hnd us' k = hnd S.us k) (u7 : o.opens = (hnd us' (aD S.X) : Int)) :
    Inv (addM { S with us := us', av := eU } d name o) := by
  have h1 := hI.toInv0.new hid hk3 hl0 he0 hu0 hg0 Ml hm hroom.2.1 hroom.1 u1 u2 u3 u4 u5 u6 u7
  have hne : d ≠ aD S.X := hI.rV hd
  have hnk := mB hI.toInv0
  have hnot : TabM.get S.idx (S.X.last + 1) = none := by
    cases e : TabM.get S.idx (S.X.last + 1) with
    | none => rfl
    | some u => have := (hI.idx _ u e).2.2; omega
  have hget : ∀ i, TabM.get (ins (S.X.last + 1) ⟨aD S.X, o.kind⟩ S.idx) i = if i = S.X.last + 1 then some ⟨aD S.X, o.kind⟩ else TabM.get S.idx i := fun i => pQ (get_none.1 hnot) i
  have hdl : Live (ins (S.X.last + 1) ⟨aD S.X, o.kind⟩ S.idx) ⟨d, 2⟩ := by
    unfold Live
    rw [hget, if_neg (by intro e; have : TabM.get S.idx ((d : Nat) : Int) = some ⟨d, 2⟩ := hd; rw [show ((⟨d, 2⟩ : Th).k : Int) = (d : Int) from rfl] at e; rw [e, hnot] at this; cases this)]
    exact hd
  have hnl : Live (ins (S.X.last + 1) ⟨aD S.X, o.kind⟩ S.idx) ⟨aD S.X, o.kind⟩ := by
    unfold Live
    rw [hget, if_pos hnk]
  have oN : obj (ay S.O (aD S.X) (fun _ => o)) (aD S.X) = o := bG
  have oD : obj (ay S.O (aD S.X) (fun _ => o)) d = obj S.O d := bQ hne
  have hnb : ¬ iN (ay S.O (aD S.X) (fun _ => o)) (aD S.X) d := fun hb => by
    have key : ∀ x, iN (ay S.O (aD S.X) (fun _ => o)) (aD S.X) x → x = aD S.X := fun x hx => by
      induction hx with
      | here => rfl
      | @up k j hu _ ih =>
        subst ih
        by_cases e : k = aD S.X
        ·exact e
        rw [bQ e] at hu; exact absurd hu (hI.fresh.up k)
    exact hne (key d hb)
  have h2 := h1.put (d := d) (name := name) (t := ⟨aD S.X, o.kind⟩) (O' := (addM { S with us := us', av := eU } d name o).O) hdl (by rw [oD]; exact gy) (by rw [oD]; exact hn) hgn hnl (by rw [oN]; exact hg0) (fun _ => ⟨by rw [oN]; exact hl0, hnb⟩) (fun e => hne e.symm) hroom.2.2 h1.now (fun k => uw (fun e => hne e.symm))
  refine ⟨h2, fun x hx gP => ?_⟩
  have g1 : ∀ k, (obj (addM { S with us := us', av := eU } d name o).O k).gone = (obj (ay S.O (aD S.X) (fun _ => o)) k).gone := fun k => kV (g := aM.gone) (fun _ _ => rfl) (fun _ _ => rfl) (fun _ _ _ => rfl) (fun _ _ => rfl)
  have g2 : ∀ k, (obj (addM { S with us := us', av := eU } d name o).O k).opens = (obj (ay S.O (aD S.X) (fun _ => o)) k).opens := fun k => kV (g := aM.opens) (fun _ _ => rfl) (fun _ _ => rfl) (fun _ _ _ => rfl) (fun _ _ => rfl)
  rw [g1] at gP
  rw [g2]
  by_cases e : x.k = aD S.X
  ·rw [e, oN, hg0] at gP; cases gP
  rw [bQ e] at gP ⊢
  refine hI.full x ?_ gP
  have hx : TabM.get (ins (S.X.last + 1) ⟨aD S.X, o.kind⟩ S.idx) x.k = some x := hx
  rw [hget] at hx
  split at hx
  ·exact absurd (congrArg Th.k (Option.some.inj hx)).symm e
  exact hx
end new
section drop
variable {S : aG} {d : Nat} {name : ByteArray} {t : Th}
theorem gE {α : Type} {g : aM → α} {O : bK} {k j : Nat} (h : ∀ o, g { o with up := none } = g o) : g (obj (orphan O j) k) = g (obj O k) := cI (f := fun o => { o with up := none }) h
theorem uy {O : bK} {k : Nat} : o7 (orphan O k) t ↔ o7 O t := by
  unfold o7
  rw [gE (g := aM.gone) (fun _ => rfl), gE (g := aM.opens) (fun _ => rfl)]
theorem CG {O : bK} {k : Nat} {u : Int} : iY (orphan O k) u t = iY O u t := by
  unfold iY
  simp only [uy, gE (g := aM.data) (fun _ => rfl)]
theorem CH {O : bK} {k : Nat} {idx : Used Th} : freeI (orphan O k) idx t = freeI O idx t := by
  unfold freeI
  simp only [uy, gE (g := aM.id) (fun _ => rfl)]
theorem Inv.drop (hI : Inv S) (hd : Live S.idx ⟨d, 2⟩) (hl : aQ name (obj S.O d).ah = some t) (he : t.kind = 2 → (obj S.O t.k).ah = []) : Inv { dropM S d name t with O := orphan (dropM S d name t).O t.k } := by
  have hne := hI.ne hd hl
  have ht := (hI.ent hd hl).2
  have hlk : (obj (aJ S.X S.O d name t) t.k).links = (obj S.O t.k).links - 1 := by rw [gI hne, if_neg hne, if_pos rfl]
  have hfull : ∀ (O2 : bK), (∀ u, u ≠ t.k → (obj O2 u).gone = (obj S.O u).gone ∧ (obj O2 u).opens = (obj S.O u).opens) → ∀ u, Live S.idx u → u ≠ t → (obj O2 u.k).gone = true → 0 < (obj O2 u.k).opens := fun O2 h u hu hut hg => by
    have hk : u.k ≠ t.k := fun e => hut (eZ hu ht e)
    rw [(h _ hk).1] at hg
    rw [(h _ hk).2]
    exact hI.full u hu hg
  by_cases h0 : (obj (aJ S.X S.O d name t) t.k).links = 0
  ·have e1 : dropM S d name t = _ := om h0
   have hO : ∀ k, obj (orphan (nU (aJ S.X S.O d name t) t.k) t.k) k = if k = d then { obj S.O d with ah := eG name (obj S.O d).ah, sec := S.X.cS, nano := S.X.cZ } else if k = t.k then { obj S.O k with links := (obj S.O k).links - 1, gone := true, up := none } else obj S.O k := fun k => by
     unfold orphan nU
     rw [qJ, jh]
     by_cases e : k = t.k
     ·rw [if_pos e, gI hne, if_neg (fun e2 => hne (e.symm.trans e2)), if_pos e, if_neg (fun e2 => hne (e.symm.trans e2)), if_pos e]
     rw [if_neg e, gI hne, if_neg e, if_neg e]
   have h1 := hI.toInv0.cut hd hl hO (.inr ⟨by rw [← hlk]; exact h0, he⟩)
   have h2 := h1.freeM (t := t) ht (hfull _ (fun u hu => by
     rw [gE (g := aM.gone) (fun _ => rfl), gE (g := aM.opens) (fun _ => rfl)]
     show (obj (ay _ t.k _) u).gone = _ ∧ (obj (ay _ t.k _) u).opens = _
     rw [bQ hu, cE (g := aM.gone) (fun _ _ => rfl) (fun _ _ => rfl) (fun _ _ _ => rfl), cE (g := aM.opens) (fun _ _ => rfl) (fun _ _ => rfl) (fun _ _ _ => rfl)]
     exact ⟨rfl, rfl⟩))
   rw [e1]
   unfold freeM at h2
   simp only [CG, CH] at h2
   exact h2
  have e1 : dropM S d name t = _ := oo h0
  have hnd : t.kind ≠ 2 := fun hk => by
    have h1 := hI.once t ht hk
    have h2 := hI.links t ht
    have h3 : 0 < gh S.idx S.O t.k := kU hd hl
    omega
  have E7 : (obj S.O t.k).up = none := by
    cases hu : (obj S.O t.k).up with
    | none => rfl
    | some e => exact absurd ((hI.up t ht e).1 hu).1 hnd
  have hO : ∀ k, obj (orphan (aJ S.X S.O d name t) t.k) k = if k = d then { obj S.O d with ah := eG name (obj S.O d).ah, sec := S.X.cS, nano := S.X.cZ } else if k = t.k then { obj S.O k with links := (obj S.O k).links - 1, gone := (obj S.O t.k).gone, up := none } else obj S.O k := fun k => by
    unfold orphan
    rw [jh]
    by_cases e : k = t.k
    ·rw [if_pos e, gI hne, if_neg (fun e2 => hne (e.symm.trans e2)), if_pos e, if_neg (fun e2 => hne (e.symm.trans e2)), if_pos e, e]
    rw [if_neg e, gI hne, if_neg e, if_neg e]
  have h1 := hI.toInv0.cut hd hl hO (.inl rfl)
  rw [e1]
  refine ⟨h1, fun u hu hg => ?_⟩
  have hg : (obj (orphan (aJ S.X S.O d name t) t.k) u.k).gone = true := hg
  show 0 < (obj (orphan (aJ S.X S.O d name t) t.k) u.k).opens
  rw [gE (g := aM.gone) (fun _ => rfl), cE (g := aM.gone) (fun _ _ => rfl) (fun _ _ => rfl) (fun _ _ _ => rfl)] at hg
  rw [gE (g := aM.opens) (fun _ => rfl), cE (g := aM.opens) (fun _ _ => rfl) (fun _ _ => rfl) (fun _ _ _ => rfl)]
  exact hI.full u hu hg
theorem Ji {k : Nat} : (obj (dropM S d name t).O k).up = (obj S.O k).up := by
  unfold dropM
  simp only
  split
  ·exact (nK (g := aM.up) (fun _ _ => rfl)).trans (cE (g := aM.up) (fun _ _ => rfl) (fun _ _ => rfl) (fun _ _ _ => rfl))
  exact cE (g := aM.up) (fun _ _ => rfl) (fun _ _ => rfl) (fun _ _ _ => rfl)
theorem Inv.vB (hI : Inv S) (hd : Live S.idx ⟨d, 2⟩) (hl : aQ name (obj S.O d).ah = some t) (hk : t.kind ≠ 2) : Inv (dropM S d name t) := by
  have h := hI.drop hd hl (fun e => absurd e hk)
  have ht := (hI.ent hd hl).2
  have E7 : (obj S.O t.k).up = none := by
    cases hu : (obj S.O t.k).up with
    | none => rfl
    | some e => exact absurd ((hI.up t ht e).1 hu).1 hk
  have e : orphan (dropM S d name t).O t.k = (dropM S d name t).O := KY (by
    have : (obj (dropM S d name t).O t.k).up = none := Ji.trans E7
    rw [← this])
  rw [e] at h
  exact h
end drop
end
end Go.Proofs.YtkiedlmhocglhaaGreatDoor
section
namespace Go.Proofs.YtkiedlmhocglhaaGreatDoor.TabM
open HeapM
variable {V : Type}
theorem wT (us : Used V) : (keys us).length = us.length := by simp [keys]
theorem least_le {us : Used V} (hr : bP (keys us)) (hp : ∀ x ∈ keys us, 1 ≤ x) : 1 ≤ least us ∧ least us ∉ keys us ∧ ∀ x, 1 ≤ x → x < least us → x ∈ keys us := kS (keys us) 1 hr hp
theorem uz : ∀ (ks : List Int) (h : Int), fU h ks ≤ h + ks.length
  | [], h => by simp [fU]
  | k :: r, h => by
    unfold fU
    split
    ·have := uz r (h + 1); simp only [List.length_cons]; push_cast; omega
    simp only [List.length_cons]; push_cast; omega
theorem DK (us : Used V) : least us ≤ us.length + 1 := by
  have := uz (keys us) 1
  rw [wT] at this
  unfold least; omega
end Go.Proofs.YtkiedlmhocglhaaGreatDoor.TabM
end
