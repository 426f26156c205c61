/-
  PROVED HERE: lemmas and contracts of functions (texts of this repo, joined; what the claim does not use is left out): GRoot, GCheck, GE, Hm, Vw, Vy, Vz, Fam, Ld, Fw, Ms, Hn, Ho, ShelfK, Free, HeapMath, Up, Down, PushPop, TabMath, Tab, Tq, TKt, Vq, TabT, Hp, Hs, Hi, Hj.
  CONDITIONS: as the theorems say.
-/
import Derived.Test.YtkiedlmhocglhaaGreatDoorMHrefused1
import Derived.Laws.OwnMore
import Derived.Lib.Bytealg
import Derived.OrdersHeld
import Derived.Maps.OwnOps
import Derived.Shelf.SlGeneric
import Derived.Shelf.SlIterI.Nil
import Derived.Shelf.SortM.Plain
import Derived.Shelf.SortM.SortNone
import Derived.Ground.GgzProg
import Derived.Ground.SlgmProg
import Derived.Test.YtkiedlmhocglhaaGreatDoorProg
import Derived.RegionTactic
import Derived.Deep.QuietTactic
import Derived.BigQuiet
import Derived.BigRegion
import Derived.StillTailTactics
import Derived.WalkSpells
import Derived.Outline
import Derived.Deep.AppendLies
import Derived.Deep.RegionLaw
import Derived.LoopTactic
set_option maxRecDepth 100000
set_option maxHeartbeats 4000000
namespace Go.Proofs.YtkiedlmhocglhaaGreatDoor
section
open Go.RowKit
attribute [local irreducible] ai aR af aj
theorem FC {β : Bs} (m : Nat) (ps : List (Int × Int)) (hl : ps.length ≤ 1048576) (hw : ∀ z y, up ps z = some y → (-9223372036854775808 ≤ z ∧ z ≤ 9223372036854775807) ∧ (-9223372036854775808 ≤ y ∧ y ≤ 9223372036854775807)) :
    Spec Tryz.prog β 121 #[.map (some m)] [.abs (aH Tryz.prog 3 m (mf (pf ps)) ps.length)] (fun v l => v = .bool (decide (tF ps)) ∧ l = []) := by
 refine Spec.enter Tryz.func121 rfl Tryz.ntmps121 (Nat.le_of_ble_eq_true rfl) (fun R => ?_)
 refine af.seq (af.region ?_)
 refine ai.aA (k' := 1) (fr' := [(0, .map (some m))]) (aq := []) [o_] [0] (fun _ _ => by kernel_rfl) trivial ?_
 refine ai.nil (by kernel_rfl) (aj.next (af.seq (af.region ?_)))
 refine ai.lM (d := (some 11)) (t := 183) (fun _ => by kernel_rfl) Tryz.prog rfl 3 (fun m1 => ?_)
 refine ai.aA (k' := 2) (fr' := [(0, .map (some m)), (3, .map (some m1))]) (aq := []) [o_] [0, 3] (fun _ _ => by kernel_rfl) trivial ?_
 refine ai.nil (by kernel_rfl) (aj.next (af.seq (af.seq (af.region ?_))))
 refine ai.eT 2 (p := .abs (aH Tryz.prog 3 m1 (fun _ => none) 0)) (p' := .abs (aH Tryz.prog 3 m1 (mf (ff [])) 0)) (by kernel_rfl) (by rw [KT]) ?_
 refine ai.aA (k' := 1) (fr' := [(0, .map (some m)), (3, .map (some m1)), (12, .map (some m))]) (aq := []) [o_] [0, 3, 12] (fun _ _ => by kernel_rfl) trivial ?_
 refine ai.mapRange 0 (d := (some 13)) (t := 183) (K := 3) (E := 3) (b := m) (n := ps.length) (f := (mf (pf ps))) (x := (.tmp 12)) (fun _ => by kernel_rfl) (by kernel_rfl) (fun _ => by kernel_rfl) dz Tryz.underlying183 (fun r2 => ?_)
 refine ai.nil (by kernel_rfl) (aj.next (af.block ?_))
 refine af.loop (ι := (Lit → Bool) × Nat × (Option Value) × (List Int) × Nat) (fun ((left, cnt, last, fs, fn) : (Lit → Bool) × Nat × (Option Value) × (List Int) × Nat) => (cnt ≤ ps.length) ∧ (∀ x y, up ps x = some y → left (.int .i64 x) = false → Ends ps x) ∧ (∀ x, x ∈ fs → Ends ps x) ∧ (fn ≤ (ps.length - cnt) * (ps.length + 2))) (fun ((left, cnt, last, fs, fn) : (Lit → Bool) × Nat × (Option Value) × (List Int) × Nat) => cnt) (fun ((left, cnt, last, fs, fn) : (Lit → Bool) × Nat × (Option Value) × (List Int) × Nat) => [(0, .map (some m)), (3, .map (some m1)), (13, vP r2)]) (fun ((left, cnt, last, fs, fn) : (Lit → Bool) × Nat × (Option Value) × (List Int) × Nat) => [.abs (eV Tryz.prog 3 m r2 (mf (pf ps)) ps.length left cnt last), .abs (aH Tryz.prog 3 m1 (mf (ff fs)) fn), .abs R]) ((fun kl => ((mf (pf ps)) kl).isSome), ps.length, none, [], 0) (idx := [0, 3, 13]) (pk := [0, 2, 1]) (show (ps.length ≤ ps.length) ∧ (∀ x y, up ps x = some y → ((fun kl => ((mf (pf ps)) kl).isSome)) (.int .i64 x) = false → Ends ps x) ∧ (∀ x, x ∈ ([]) → Ends ps x) ∧ (0 ≤ (ps.length - ps.length) * (ps.length + 2)) from ⟨Nat.le_refl _, fun x y hx h => (by have h : ((up ps x).map (Value.int .i64)).isSome = false := h; rw [hx] at h; cases h), fun x hx => (by cases hx), Nat.zero_le _⟩) (fun _ => by kernel_rfl) rfl (by kernel_rfl) ?_
 rintro ⟨left, cnt, last, fs, fn⟩ ⟨Oh, hdone, hfs, hfn⟩
 show af _ _ _ _ [(0, .map (some m)), (3, .map (some m1)), (13, vP r2)] [.abs (eV Tryz.prog 3 m r2 (mf (pf ps)) ps.length left cnt last), .abs (aH Tryz.prog 3 m1 (mf (ff fs)) fn), .abs R] _
 have Qx : fn ≤ 1048576 * 1048578 := Nat.le_trans hfn (Nat.mul_le_mul (by omega) (by omega))
 refine af.seq (af.region ?_)
 refine ai.mapNext 0 (d := (some 14)) (K := 3) (b := m) (r := r2) (f := (mf (pf ps))) (n := ps.length) (left := left) (cnt := cnt) (last := last) (x := (.tmp 13)) (fun _ => by kernel_rfl) (by kernel_rfl) (fun _ => by kernel_rfl) dz Tryz.underlying3 (fun hc0 hl0 => ?_) (fun z u cnt' hlz hfz Qy Oi => ?_)
 ·refine ai.aA (k' := 2) (fr' := [(0, .map (some m)), (3, .map (some m1)), (13, vP r2), (15, .bool false)]) (aq := []) [o_] [0, 3, 13, 15] (fun _ _ => by kernel_rfl) trivial ?_
  refine ai.nil (by kernel_rfl) (aj.next (af.seq ?_))
  refine af.kZ (fun _ => by kernel_rfl) ?_
  refine af.exit (aj.bg (aj.bg (aj.cA (aj.next (af.seq (af.region ?_))))))
  refine ai.aA (k' := 1) (fr' := [(2, .bool true)]) (aq := []) [o_] [2] (fun _ _ => by kernel_rfl) trivial ?_
  refine ai.nil (by kernel_rfl) (aj.next (af.ret ?_))
  exact aj.ret (v := .bool true) (l := []) (aq := []) [] [2] (fun _ => by kernel_rfl) trivial rfl (by kernel_rfl) (⟨congrArg Value.bool (decide_eq_true (p := tF ps) (fun z => by cases hu : up ps z with | none => exact ⟨0, hu⟩ | some y => exact hdone z y hu (hl0 _))).symm, rfl⟩)
 obtain ⟨y, hy, rfl⟩ := J7 hfz
 refine ai.aA (k' := 2) (fr' := [(0, .map (some m)), (3, .map (some m1)), (13, vP r2), (15, .bool true)]) (aq := []) [o_] [0, 3, 13, 15] (fun _ _ => by kernel_rfl) trivial ?_
 refine ai.nil (by kernel_rfl) (aj.next (af.seq ?_))
 refine af.eG (fun _ => by kernel_rfl) ?_
 refine af.skip (aj.next (af.block (af.seq (af.region ?_))))
 refine ai.mapEntry 0 (d := (some 16)) (K := 3) (b := m) (r := r2) (f := (mf (pf ps))) (n := ps.length) (left := (fun kl => left kl && !kl.sameKey (.int .i64 z))) (cnt := cnt') (v := .tuple #[.int .i64 (z), .int .i64 (y)]) (x := (.tmp 13)) (fun _ => by kernel_rfl) (by kernel_rfl) (fun _ => by kernel_rfl) ?_
 refine ai.aA (k' := 3) (fr' := [(0, .map (some m)), (3, .map (some m1)), (4, .int .i64 (z)), (13, vP r2)]) (aq := []) [o_, o_] [0, 3, 4, 13] (fun _ _ => by kernel_rfl) trivial ?_
 refine ai.nil (by kernel_rfl) (aj.next (af.seq (af.region ?_)))
 refine ai.aA (k' := 1) (fr' := [(0, .map (some m)), (3, .map (some m1)), (4, .int .i64 (z)), (5, .slice none (0) (0)), (13, vP r2)]) (aq := []) [o_] [0, 3, 4, 5, 13] (fun _ _ => by kernel_rfl) trivial ?_
 refine ai.nil (by kernel_rfl) (aj.next ?_)
 refine af.join (ι := (List Int) × (Option Addr) × Nat) (fun ((w2, A2, c2) : (List Int) × (Option Addr) × Nat) => (Ends ps z) ∧ (∀ x, x ∈ w2 → Ends ps x) ∧ (w2.length ≤ ps.length + 1) ∧ (∀ x, x ∈ w2 → -9223372036854775808 ≤ x ∧ x ≤ 9223372036854775807)) (fun ((w2, A2, c2) : (List Int) × (Option Addr) × Nat) => [(0, .map (some m)), (3, .map (some m1)), (5, .slice A2 (w2.length) (c2)), (13, vP r2)]) (fun ((w2, A2, c2) : (List Int) × (Option Addr) × Nat) => [.abs (eV Tryz.prog 3 m r2 (mf (pf ps)) ps.length (fun kl => left kl && !kl.sameKey (.int .i64 z)) cnt' (some (.tuple #[.int .i64 (z), .int .i64 (y)]))), .abs (aH Tryz.prog 3 m1 (mf (ff fs)) fn), .abs (aF 3 1 A2 w2.length c2 (ji w2)), .abs R]) ?_ ?_
 ·rintro ⟨w2, A2, c2⟩ ⟨hend, MS, Qg, KZ⟩
  show af _ _ _ _ [(0, .map (some m)), (3, .map (some m1)), (5, .slice A2 (w2.length) (c2)), (13, vP r2)] [.abs (eV Tryz.prog 3 m r2 (mf (pf ps)) ps.length (fun kl => left kl && !kl.sameKey (.int .i64 z)) cnt' (some (.tuple #[.int .i64 (z), .int .i64 (y)]))), .abs (aH Tryz.prog 3 m1 (mf (ff fs)) fn), .abs (aF 3 1 A2 w2.length c2 (ji w2)), .abs R] _
  refine af.seq (af.region ?_)
  refine ai.aA (k' := 3) (fr' := [(0, .map (some m)), (3, .map (some m1)), (13, vP r2), (41, .slice A2 (w2.length) (c2)), (42, .int .i64 ↑w2.length), (43, .int .i64 0)]) (aq := []) [o_, o_, o_] [0, 3, 13, 41, 42, 43] (fun _ _ => by kernel_rfl) trivial ?_
  refine ai.nil (by kernel_rfl) (aj.next (af.block ?_))
  refine af.loop (ι := Nat × (List Int) × Nat) (fun ((j, oq, mo) : Nat × (List Int) × Nat) => (j ≤ w2.length) ∧ (∀ x, x ∈ oq → Ends ps x) ∧ (mo ≤ fn + j)) (fun ((j, oq, mo) : Nat × (List Int) × Nat) => w2.length - j) (fun ((j, oq, mo) : Nat × (List Int) × Nat) => [(0, .map (some m)), (3, .map (some m1)), (13, vP r2), (41, .slice A2 (w2.length) (c2)), (42, .int .i64 ↑w2.length), (43, .int .i64 ↑j)]) (fun ((j, oq, mo) : Nat × (List Int) × Nat) => [.abs (eV Tryz.prog 3 m r2 (mf (pf ps)) ps.length (fun kl => left kl && !kl.sameKey (.int .i64 z)) cnt' (some (.tuple #[.int .i64 (z), .int .i64 (y)]))), .abs (aH Tryz.prog 3 m1 (mf (ff oq)) mo), .abs (aF 3 1 A2 w2.length c2 (ji w2)), .abs R]) (0, fs, fn) (idx := [0, 3, 13, 41, 42, 43]) (pk := [0, 1, 2, 3]) (show (0 ≤ w2.length) ∧ (∀ x, x ∈ fs → Ends ps x) ∧ (fn ≤ fn + 0) from ⟨Nat.zero_le _, hfs, Nat.le_refl _⟩) (fun _ => by kernel_rfl) rfl (by kernel_rfl) ?_
  rintro ⟨j, oq, mo⟩ ⟨hj, K1, Oj⟩
  show af _ _ _ _ [(0, .map (some m)), (3, .map (some m1)), (13, vP r2), (41, .slice A2 (w2.length) (c2)), (42, .int .i64 ↑w2.length), (43, .int .i64 ↑j)] [.abs (eV Tryz.prog 3 m r2 (mf (pf ps)) ps.length (fun kl => left kl && !kl.sameKey (.int .i64 z)) cnt' (some (.tuple #[.int .i64 (z), .int .i64 (y)]))), .abs (aH Tryz.prog 3 m1 (mf (ff oq)) mo), .abs (aF 3 1 A2 w2.length c2 (ji w2)), .abs R] _
  refine af.seq (af.region ?_)
  refine ai.aA (k' := 1) (fr' := [(0, .map (some m)), (3, .map (some m1)), (13, vP r2), (41, .slice A2 (w2.length) (c2)), (42, .int .i64 ↑w2.length), (43, .int .i64 ↑j), (44, .bool (decide ((((j : Nat) : Int) : Int) < (((w2.length : Nat) : Int) : Int))))]) (aq := []) [o_] [0, 3, 13, 41, 42, 43, 44] (fun _ _ => by kernel_rfl) trivial ?_
  refine ai.nil (by kernel_rfl) (aj.next (af.seq ?_))
  refine af.bB (p := (((j : Nat) : Int) : Int) < (((w2.length : Nat) : Int) : Int)) (fun _ => by kernel_rfl) (fun FD => ?_) (fun FD => ?_)
  ·refine af.skip (aj.next (af.seq (af.block (af.seq (af.region ?_)))))
   refine ai.tell (fun w hS => let ⟨F, h⟩ := hS.get (i := 2) rfl; (aF.D9 h (by omega)).1) (fun Js => ?_)
   refine ai.aA (k' := 3) (fr' := [(0, .map (some m)), (3, .map (some m1)), (10, .int .i64 ((w2.getD j 0))), (13, vP r2), (41, .slice A2 (w2.length) (c2)), (42, .int .i64 ↑w2.length), (43, .int .i64 ↑j)]) (aq := [(∀ F w, (aF 3 1 A2 w2.length c2 (ji w2)).h F w → w.cell? ⟨(av A2), au A2 + j * 1, none⟩ = some (.int .i64 ((w2.getD j 0)))), ((j : Nat) : Int) = ((j : Nat) : Int), j < w2.length, (⟨(av A2), au A2, none⟩ : Addr).spot = none, (A2 : Option Addr) = some ⟨(av A2), au A2, none⟩]) [⟨[], some j, none, some ⟨(av A2), au A2, none⟩, none⟩, ⟨[.view 2 (.int .i64 ((w2.getD j 0)))], none, none, none, none⟩, o_] [0, 3, 10, 13, 41, 42, 43] (fun _ _ => by kernel_rfl) ⟨aF.MR (by omega), rfl, by omega, rfl, Js, trivial⟩ ?_
   refine ai.nil (by kernel_rfl) (aj.next (af.region ?_))
   refine ai.aA (k' := 2) (fr' := [(0, .map (some m)), (3, .map (some m1)), (13, vP r2), (41, .slice A2 (w2.length) (c2)), (42, .int .i64 ↑w2.length), (43, .int .i64 ↑j), (47, .map (some m1)), (48, .int .i64 ((w2.getD j 0)))]) (aq := []) [o_, o_] [0, 3, 13, 41, 42, 43, 47, 48] (fun _ _ => by kernel_rfl) trivial ?_
   refine ai.j7 1 (d := none) (t := 183) (K := 3) (E := 3) (b := m1) (n := mo) (f := (mf (ff oq))) (x := (.tmp 47)) (ix := (.tmp 48)) (y := (.const (.int .i64 1))) (key := .int .i64 ((w2.getD j 0))) (u := .int .i64 1) (kl := (.int .i64 (w2.getD j 0))) (n' := (if (ff oq (w2.getD j 0)).isSome then mo else mo + 1)) (f' := (mf (ff ((w2.getD j 0) :: oq)))) (fun _ => by kernel_rfl) (by kernel_rfl) (fun _ => by kernel_rfl) (fun _ => by kernel_rfl) (fun _ => by kernel_rfl) dz Tryz.underlying183 (by unfold maxLen; omega) (mQ (KZ _ (vU (by omega))).1 (KZ _ (vU (by omega))).2) (rfl) (KU _ _) ?_
   refine ai.nil (by kernel_rfl) (aj.aT (aj.next (af.region ?_)))
   refine ai.aA (k' := 2) (fr' := [(0, .map (some m)), (3, .map (some m1)), (13, vP r2), (41, .slice A2 (w2.length) (c2)), (42, .int .i64 ↑w2.length), (43, .int .i64 ↑(j + 1))]) (aq := [(Value.int .i64 (IntKind.wrap .i64 (((j : Nat) : Int) + 1))) = (.int .i64 ↑(j + 1))]) [⟨[], none, none, none, some (.int .i64 ↑(j + 1))⟩, o_] [0, 3, 13, 41, 42, 43] (fun _ _ => by kernel_rfl) ⟨bJ (by omega) (by omega) (by omega), trivial⟩ ?_
   refine ai.nil (by kernel_rfl) ?_
   exact aj.turn ((j + 1), ((w2.getD j 0) :: oq), (if (ff oq (w2.getD j 0)).isSome then mo else mo + 1)) (idx := [0, 3, 13, 41, 42, 43]) (pk := [0, 1, 2, 3]) (show (((j + 1)) ≤ w2.length) ∧ (∀ x, x ∈ (((w2.getD j 0) :: oq)) → Ends ps x) ∧ (((if (ff oq (w2.getD j 0)).isSome then mo else mo + 1)) ≤ fn + ((j + 1))) from ⟨by omega, fun x hx => (List.mem_cons.1 hx).elim (fun e => e ▸ MS _ (vU (by omega))) (K1 x), by split <;> omega⟩) (by show w2.length - ((j + 1)) < w2.length - j; omega) (fun _ => by kernel_rfl) rfl (by kernel_rfl)
  refine af.exit (aj.bg (aj.bg (aj.cA (aj.aT ?_))))
  exact aj.turn ((fun kl => left kl && !kl.sameKey (.int .i64 z)), cnt', (some (.tuple #[.int .i64 (z), .int .i64 (y)])), oq, mo) (idx := [0, 3, 13]) (pk := [0, 1, 3]) (show (cnt' ≤ ps.length) ∧ (∀ x y, up ps x = some y → ((fun kl => left kl && !kl.sameKey (.int .i64 z))) (.int .i64 x) = false → Ends ps x) ∧ (∀ x, x ∈ oq → Ends ps x) ∧ (mo ≤ (ps.length - cnt') * (ps.length + 2)) from ⟨by omega, Ed hdone hend, K1, Hs hfn Oj (by omega) Oi Oh⟩) (by show cnt' < cnt; omega) (fun _ => by kernel_rfl) rfl (by kernel_rfl)
 refine af.seq (af.region ?_)
 refine ai.mem (fun w hS => hS.jL (e := 3) (size := 1)) ?_
 refine ai.aA (k' := 2) (fr' := [(0, .map (some m)), (3, .map (some m1)), (5, .slice none (0) (0)), (6, .int .i64 (z)), (13, vP r2)]) (aq := []) [o_, o_] [0, 3, 5, 6, 13] (fun _ _ => by kernel_rfl) trivial ?_
 refine ai.nil (by kernel_rfl) (aj.next (af.block ?_))
 refine af.loop (ι := Int × (List Int) × (Option Addr) × Nat) (fun ((at_, w, Aw, cw) : Int × (List Int) × (Option Addr) × Nat) => (Way ps z w at_) ∧ (w.length ≤ ps.length) ∧ (∀ x, x ∈ w → -9223372036854775808 ≤ x ∧ x ≤ 9223372036854775807) ∧ (-9223372036854775808 ≤ at_ ∧ at_ ≤ 9223372036854775807)) (fun ((at_, w, Aw, cw) : Int × (List Int) × (Option Addr) × Nat) => ps.length + 1 - w.length) (fun ((at_, w, Aw, cw) : Int × (List Int) × (Option Addr) × Nat) => [(0, .map (some m)), (3, .map (some m1)), (5, .slice Aw (w.length) (cw)), (6, .int .i64 (at_)), (13, vP r2)]) (fun ((at_, w, Aw, cw) : Int × (List Int) × (Option Addr) × Nat) => [.abs (eV Tryz.prog 3 m r2 (mf (pf ps)) ps.length (fun kl => left kl && !kl.sameKey (.int .i64 z)) cnt' (some (.tuple #[.int .i64 (z), .int .i64 (y)]))), .abs (aH Tryz.prog 3 m1 (mf (ff fs)) fn), .abs (aF 3 1 Aw w.length cw (ji w)), .abs R]) (z, [], none, 0) (idx := [0, 3, 5, 6, 13]) (pk := [0, 1, 3, 2]) (show (Way ps z ([]) z) ∧ (([]).length ≤ ps.length) ∧ (∀ x, x ∈ ([]) → -9223372036854775808 ≤ x ∧ x ≤ 9223372036854775807) ∧ (-9223372036854775808 ≤ z ∧ z ≤ 9223372036854775807) from ⟨.nil, Nat.zero_le _, fun x hx => (by cases hx), (hw z y hy).1⟩) (fun _ => by kernel_rfl) rfl (by kernel_rfl) ?_
 rintro ⟨at_, w, Aw, cw⟩ ⟨iB, hwl, K2, hab⟩
 show af _ _ _ _ [(0, .map (some m)), (3, .map (some m1)), (5, .slice Aw (w.length) (cw)), (6, .int .i64 (at_)), (13, vP r2)] [.abs (eV Tryz.prog 3 m r2 (mf (pf ps)) ps.length (fun kl => left kl && !kl.sameKey (.int .i64 z)) cnt' (some (.tuple #[.int .i64 (z), .int .i64 (y)]))), .abs (aH Tryz.prog 3 m1 (mf (ff fs)) fn), .abs (aF 3 1 Aw w.length cw (ji w)), .abs R] _
 refine af.seq (af.seq (af.region ?_))
 refine ai.aA (k' := 2) (fr' := [(0, .map (some m)), (3, .map (some m1)), (5, .slice Aw (w.length) (cw)), (6, .int .i64 (at_)), (13, vP r2), (19, .map (some m1)), (20, .int .i64 (at_))]) (aq := []) [o_, o_] [0, 3, 5, 6, 13, 19, 20] (fun _ _ => by kernel_rfl) trivial ?_
 by_cases hfa : at_ ∈ fs
 ·refine ai.dN 1 (d := (some 21)) (t := 183) (K := 3) (E := 3) (b := m1) (n := fn) (f := (mf (ff fs))) (x := (.tmp 19)) (ix := (.tmp 20)) (key := .int .i64 (at_)) (z := .int .i64 0) (kl := (.int .i64 at_)) (r := (some (.int .i64 1))) (fun _ => by kernel_rfl) (by kernel_rfl) (fun _ => by kernel_rfl) (fun _ => by kernel_rfl) dz Tryz.underlying183 (fun _ => by kernel_rfl) (mQ hab.1 hab.2) (if_pos hfa) ?_
  refine ai.aA (k' := 4) (fr' := [(0, .map (some m)), (3, .map (some m1)), (5, .slice Aw (w.length) (cw)), (6, .int .i64 (at_)), (13, vP r2), (22, .bool false)]) (aq := []) [o_] [0, 3, 5, 6, 13, 22] (fun _ _ => by kernel_rfl) trivial ?_
  refine ai.nil (by kernel_rfl) (aj.next ?_)
  refine af.kZ (fun _ => by kernel_rfl) ?_
  refine af.exit (aj.bg (aj.bg (aj.cA ?_)))
  exact aj.meet (w, Aw, cw) (idx := [0, 3, 5, 13]) (pk := [0, 1, 2, 3]) (show (Ends ps z) ∧ (∀ x, x ∈ w → Ends ps x) ∧ (w.length ≤ ps.length + 1) ∧ (∀ x, x ∈ w → -9223372036854775808 ≤ x ∧ x ≤ 9223372036854775807) from ⟨(iB.ends (hfs at_ hfa)).1, (iB.ends (hfs at_ hfa)).2, by omega, K2⟩) (fun _ => by kernel_rfl) rfl (by kernel_rfl)
 refine ai.dN 1 (d := (some 21)) (t := 183) (K := 3) (E := 3) (b := m1) (n := fn) (f := (mf (ff fs))) (x := (.tmp 19)) (ix := (.tmp 20)) (key := .int .i64 (at_)) (z := .int .i64 0) (kl := (.int .i64 at_)) (r := none) (fun _ => by kernel_rfl) (by kernel_rfl) (fun _ => by kernel_rfl) (fun _ => by kernel_rfl) dz Tryz.underlying183 (fun _ => by kernel_rfl) (mQ hab.1 hab.2) (if_neg hfa) ?_
 refine ai.aA (k' := 4) (fr' := [(0, .map (some m)), (3, .map (some m1)), (5, .slice Aw (w.length) (cw)), (6, .int .i64 (at_)), (13, vP r2), (22, .bool true)]) (aq := []) [o_] [0, 3, 5, 6, 13, 22] (fun _ _ => by kernel_rfl) trivial ?_
 refine ai.nil (by kernel_rfl) (aj.next ?_)
 refine af.eG (fun _ => by kernel_rfl) ?_
 refine af.skip (aj.next (af.block (af.seq (af.region ?_))))
 refine ai.jR (k' := 3) (fr' := fun b3 => [(0, .map (some m)), (3, .map (some m1)), (6, .int .i64 (at_)), (13, vP r2), (23, .slice Aw (w.length) (cw)), (25, .slice (some ⟨b3, 0, none⟩) (1) (1))]) (aL := fun b3 => [.abs (eV Tryz.prog 3 m r2 (mf (pf ps)) ps.length (fun kl => left kl && !kl.sameKey (.int .i64 z)) cnt' (some (.tuple #[.int .i64 (z), .int .i64 (y)]))), .abs (aH Tryz.prog 3 m1 (mf (ff fs)) fn), .abs (aF 3 1 Aw w.length cw (ji w)), .abs R, .blk b3 [.int .i64 (at_)] 3]) (aq := fun b3 => []) [o_, o_, o_] [0, 3, 6, 13, 23, 25] [0, 1, 2, 3, 4] (fun _ _ => by kernel_rfl) (fun b3 => trivial) (fun b3 => ?_)
 refine ai.append 2 (d := (some 26)) (t := 52) (e := 3) (z := .int .i64 0) (size := 1) (bytes := 8) (n := w.length) (cap := cw) (A := Aw) (xs := (ji w)) (s := (.tmp 23)) (x := (.tmp 25)) (ats := #[52, 52]) (A' := some ⟨b3, 0, none⟩) (m := 1) (c' := 1) (news := [.int .i64 (at_)]) (fun _ => by kernel_rfl) rfl (by kernel_rfl) (fun _ => by kernel_rfl) (fun _ => by kernel_rfl) Tryz.underlying52 (by kernel_rfl) rfl (by decide) (by simp) (by simp [Value.oneCell']) (lN (j := 4) rfl) (by unfold maxLen; omega) (by omega) (fun A4 c5 => ?_)
 refine ai.eT 2 (p := .abs (aF 3 1 A4 (w.length + 1) c5 ((ji w) ++ [.int .i64 (at_)]))) (p' := .abs (aF 3 1 A4 ((w ++ [at_]).length) c5 (ji (w ++ [at_])))) (by kernel_rfl) (by simp [ji]) ?_
 refine ai.slot 26 (.slice A4 (w.length + 1) (c5)) (.slice A4 ((w ++ [at_]).length) (c5)) (fun _ => by kernel_rfl) (by simp) ?_
 refine ai.aA (k' := 5) (fr' := [(0, .map (some m)), (3, .map (some m1)), (5, .slice A4 ((w ++ [at_]).length) (c5)), (6, .int .i64 (at_)), (13, vP r2)]) (aq := []) [o_] [0, 3, 5, 6, 13] (fun _ _ => by kernel_rfl) trivial ?_
 refine ai.nil (by kernel_rfl) (aj.next (af.seq (af.region ?_)))
 refine ai.aA (k' := 2) (fr' := [(0, .map (some m)), (3, .map (some m1)), (5, .slice A4 ((w ++ [at_]).length) (c5)), (13, vP r2), (28, .map (some m)), (29, .int .i64 (at_))]) (aq := []) [o_, o_] [0, 3, 5, 13, 28, 29] (fun _ _ => by kernel_rfl) trivial ?_
 rcases hup : up ps at_ with _ | y2
 ·refine ai.vu 0 (d := (some 30)) (t := 183) (K := 3) (E := 3) (b := m) (n := ps.length) (f := (mf (pf ps))) (r := r2) (left := (fun kl => left kl && !kl.sameKey (.int .i64 z))) (cnt := cnt') (last := (some (.tuple #[.int .i64 (z), .int .i64 (y)]))) (x := (.tmp 28)) (ix := (.tmp 29)) (key := .int .i64 (at_)) (z := .int .i64 0) (kl := (.int .i64 at_)) (u := none) (fun _ => by kernel_rfl) (by kernel_rfl) (fun _ => by kernel_rfl) (fun _ => by kernel_rfl) dz Tryz.underlying183 (fun _ => by kernel_rfl) (mQ hab.1 hab.2) (rU hup) ?_
  refine ai.aA (k' := 8) (fr' := [(0, .map (some m)), (3, .map (some m1)), (5, .slice A4 ((w ++ [at_]).length) (c5)), (7, .int .i64 0), (8, .bool false), (13, vP r2)]) (aq := []) [o_, o_, o_, o_, o_] [0, 3, 5, 7, 8, 13] (fun _ _ => by kernel_rfl) trivial ?_
  refine ai.nil (by kernel_rfl) (aj.next (af.seq (af.seq (af.region ?_))))
  refine ai.aA (k' := 2) (fr' := [(0, .map (some m)), (3, .map (some m1)), (5, .slice A4 ((w ++ [at_]).length) (c5)), (7, .int .i64 0), (13, vP r2), (34, .bool true)]) (aq := []) [o_, o_] [0, 3, 5, 7, 13, 34] (fun _ _ => by kernel_rfl) trivial ?_
  refine ai.nil (by kernel_rfl) (aj.next ?_)
  refine af.eG (fun _ => by kernel_rfl) ?_
  refine af.exit (aj.bg (aj.Fq (by decide) (aj.bg (aj.cA ?_))))
  exact aj.meet ((w ++ [at_]), A4, c5) (idx := [0, 3, 5, 13]) (pk := [0, 1, 2, 3]) (show (Ends ps z) ∧ (∀ x, x ∈ ((w ++ [at_])) → Ends ps x) ∧ (((w ++ [at_])).length ≤ ps.length + 1) ∧ (∀ x, x ∈ ((w ++ [at_])) → -9223372036854775808 ≤ x ∧ x ≤ 9223372036854775807) from ⟨(BD iB hup).1, (BD iB hup).2, by simp; omega, Dz K2 hab⟩) (fun _ => by kernel_rfl) rfl (by kernel_rfl)
 refine ai.vu 0 (d := (some 30)) (t := 183) (K := 3) (E := 3) (b := m) (n := ps.length) (f := (mf (pf ps))) (r := r2) (left := (fun kl => left kl && !kl.sameKey (.int .i64 z))) (cnt := cnt') (last := (some (.tuple #[.int .i64 (z), .int .i64 (y)]))) (x := (.tmp 28)) (ix := (.tmp 29)) (key := .int .i64 (at_)) (z := .int .i64 0) (kl := (.int .i64 at_)) (u := (some (.int .i64 y2))) (fun _ => by kernel_rfl) (by kernel_rfl) (fun _ => by kernel_rfl) (fun _ => by kernel_rfl) dz Tryz.underlying183 (fun _ => by kernel_rfl) (mQ hab.1 hab.2) (Jv hup) ?_
 refine ai.aA (k' := 8) (fr' := [(0, .map (some m)), (3, .map (some m1)), (5, .slice A4 ((w ++ [at_]).length) (c5)), (7, .int .i64 (y2)), (8, .bool true), (13, vP r2)]) (aq := []) [o_, o_, o_, o_, o_] [0, 3, 5, 7, 8, 13] (fun _ _ => by kernel_rfl) trivial ?_
 refine ai.nil (by kernel_rfl) (aj.next (af.seq (af.seq (af.region ?_))))
 refine ai.aA (k' := 2) (fr' := [(0, .map (some m)), (3, .map (some m1)), (5, .slice A4 ((w ++ [at_]).length) (c5)), (7, .int .i64 (y2)), (13, vP r2), (34, .bool false)]) (aq := []) [o_, o_] [0, 3, 5, 7, 13, 34] (fun _ _ => by kernel_rfl) trivial ?_
 refine ai.nil (by kernel_rfl) (aj.next ?_)
 refine af.kZ (fun _ => by kernel_rfl) ?_
 refine af.skip (aj.next (af.seq (af.seq (af.region ?_))))
 refine ai.aA (k' := 3) (fr' := [(0, .map (some m)), (3, .map (some m1)), (5, .slice A4 ((w ++ [at_]).length) (c5)), (7, .int .i64 (y2)), (13, vP r2), (36, .int .i64 ↑((w ++ [at_]).length)), (37, .map (some m))]) (aq := []) [o_, o_, o_] [0, 3, 5, 7, 13, 36, 37] (fun _ _ => by kernel_rfl) trivial ?_
 refine ai.Hr 0 (d := (some 38)) (t := 183) (K := 3) (E := 3) (b := m) (n := ps.length) (f := (mf (pf ps))) (r := r2) (left := (fun kl => left kl && !kl.sameKey (.int .i64 z))) (cnt := cnt') (last := (some (.tuple #[.int .i64 (z), .int .i64 (y)]))) (x := (.tmp 37)) (ats := #[183]) (fun _ => by kernel_rfl) (by kernel_rfl) (fun _ => by kernel_rfl) rfl Tryz.underlying183 ?_
 refine ai.aA (k' := 5) (fr' := [(0, .map (some m)), (3, .map (some m1)), (5, .slice A4 ((w ++ [at_]).length) (c5)), (7, .int .i64 (y2)), (13, vP r2), (39, .bool (decide (((((w ++ [at_]).length : Nat) : Int) : Int) > (((ps.length : Nat) : Int) : Int))))]) (aq := []) [o_] [0, 3, 5, 7, 13, 39] (fun _ _ => by kernel_rfl) trivial ?_
 refine ai.nil (by kernel_rfl) (aj.next ?_)
 refine af.bB (p := ((((w ++ [at_]).length : Nat) : Int) : Int) > (((ps.length : Nat) : Int) : Int)) (fun _ => by kernel_rfl) (fun mK => ?_) (fun mK => ?_)
 ·refine af.seq (af.region ?_)
  refine ai.aA (k' := 1) (fr' := [(2, .bool false)]) (aq := []) [o_] [2] (fun _ _ => by kernel_rfl) trivial ?_
  refine ai.nil (by kernel_rfl) (aj.next (af.ret (aj.ar (aj.aG (aj.ar (aj.aG (aj.ar (aj.aG (aj.ar (aj.aG (aj.ar ?_)))))))))))
  exact aj.ret (v := .bool false) (l := []) (aq := []) [] [3] (fun _ => by kernel_rfl) trivial rfl (by kernel_rfl) (⟨congrArg Value.bool (decide_eq_false (p := tF ps) (fun hall => (iB.snoc hup).never (by simp at mK ⊢; omega) (hall z))).symm, rfl⟩)
 refine af.skip (aj.next (af.region ?_))
 refine ai.aA (k' := 2) (fr' := [(0, .map (some m)), (3, .map (some m1)), (5, .slice A4 ((w ++ [at_]).length) (c5)), (6, .int .i64 (y2)), (13, vP r2)]) (aq := []) [o_, o_] [0, 3, 5, 6, 13] (fun _ _ => by kernel_rfl) trivial ?_
 refine ai.nil (by kernel_rfl) (aj.aT ?_)
 exact aj.turn (y2, (w ++ [at_]), A4, c5) (idx := [0, 3, 5, 6, 13]) (pk := [0, 1, 2, 3]) (show (Way ps z ((w ++ [at_])) y2) ∧ (((w ++ [at_])).length ≤ ps.length) ∧ (∀ x, x ∈ ((w ++ [at_])) → -9223372036854775808 ≤ x ∧ x ≤ 9223372036854775807) ∧ (-9223372036854775808 ≤ y2 ∧ y2 ≤ 9223372036854775807) from ⟨iB.snoc hup, by simp at mK ⊢; omega, Dz K2 hab, (hw at_ y2 hup).2⟩) (by show ps.length + 1 - ((w ++ [at_])).length < ps.length + 1 - w.length; simp; omega) (fun _ => by kernel_rfl) rfl (by kernel_rfl)
end
section
open Go.RowKit
attribute [local irreducible] ai aR af aj
theorem qm {β : Bs} (a b c : Int) :
    Spec Tryz.prog β 150 #[vI (a), vI (b), vI (c)] [] (fun v l => v = .bool (decide (Within a b c)) ∧ l = []) := by
 refine Spec.enter Tryz.func150 rfl Tryz.ntmps150 (Nat.le_of_ble_eq_true rfl) (fun R => ?_)
 refine af.seq (af.region ?_)
 refine ai.aA (k' := 1) (fr' := [(0, vI (a)), (1, vI (b)), (2, vI (c))]) (aq := []) [o_] [0, 1, 2] (fun _ _ => by kernel_rfl) trivial ?_
 refine ai.nil (by kernel_rfl) (aj.next (af.seq (af.region ?_)))
 refine ai.aA (k' := 4) (fr' := [(0, vI (a)), (2, vI (c)), (10, .bool (decide ((a : Int) ≥ (b : Int))))]) (aq := []) [o_, o_, o_, o_] [0, 2, 10] (fun _ _ => by kernel_rfl) trivial ?_
 refine ai.gD 10 ((a : Int) ≥ (b : Int)) (fun _ => by kernel_rfl) (fun h10 => ?_) (fun h10 => ?_)
 ·refine ai.aA (k' := 9) (fr' := [(6, .bool (decide ((a : Int) ≤ (c : Int))))]) (aq := []) [o_, o_, o_, o_, o_] [6] (fun _ _ => by kernel_rfl) trivial ?_
  refine ai.nil (by kernel_rfl) (aj.next (af.ret ?_))
  exact aj.ret (v := .bool (decide ((a : Int) ≤ (c : Int)))) (l := []) (aq := []) [] [0] (fun _ => by kernel_rfl) trivial rfl (by kernel_rfl) (⟨congrArg Value.bool (decide_eq_decide.2 (by unfold Within; omega)), rfl⟩)
 refine ai.aA (k' := 9) (fr' := [(6, .bool false)]) (aq := []) [o_, o_, o_, o_, o_] [6] (fun _ _ => by kernel_rfl) trivial ?_
 refine ai.nil (by kernel_rfl) (aj.next (af.ret ?_))
 exact aj.ret (v := .bool false) (l := []) (aq := []) [] [0] (fun _ => by kernel_rfl) trivial rfl (by kernel_rfl) (⟨congrArg Value.bool (decide_eq_false (by unfold Within; omega)).symm, rfl⟩)
theorem fT {β : Bs} (s n : Int) :
    Spec Tryz.prog β 33 #[.agg #[vI (s), vI (n)]] [] (fun v l => v = .bool (decide (cR s n)) ∧ l = []) := by
 refine Spec.enter Tryz.func33 rfl Tryz.ntmps33 (Nat.le_of_ble_eq_true rfl) (fun R => ?_)
 refine af.seq (af.region ?_)
 refine ai.jR (k' := 2) (fr' := fun b1 => [(1, vP b1)]) (aL := fun b1 => [.abs R, .blk b1 [vI (s), vI (n)] 26]) (aq := fun b1 => []) [o_, o_] [1] [0, 1] (fun _ _ => by kernel_rfl) (fun b1 => trivial) (fun b1 => ?_)
 refine ai.nil (by kernel_rfl) (aj.next (af.seq (af.seq (af.region ?_))))
 refine ai.aA (k' := 4) (fr' := [(1, vP b1), (6, .bool (decide ((n : Int) < (0 : Int))))]) (aq := [b1 = b1]) [o_, ⟨[.at 1], none, none, none, none⟩, o_, o_] [1, 6] (fun _ _ => by kernel_rfl) ⟨rfl, trivial⟩ ?_
 refine ai.gD 6 ((n : Int) < (0 : Int)) (fun _ => by kernel_rfl) (fun h6 => ?_) (fun h6 => ?_)
 ·refine ai.aA (k' := 8) (fr' := [(1, vP b1), (10, .bool true)]) (aq := []) [o_, o_, o_, o_] [1, 10] (fun _ _ => by kernel_rfl) trivial ?_
  refine ai.nil (by kernel_rfl) (aj.next ?_)
  refine af.eG (fun _ => by kernel_rfl) ?_
  refine af.seq (af.region ?_)
  refine ai.aA (k' := 1) (fr' := [(2, .bool false)]) (aq := []) [o_] [2] (fun _ _ => by kernel_rfl) trivial ?_
  refine ai.nil (by kernel_rfl) (aj.next (af.ret (aj.ar ?_)))
  exact aj.ret (v := .bool false) (l := []) (aq := []) [] [0] (fun _ => by kernel_rfl) trivial rfl (by kernel_rfl) (⟨congrArg Value.bool (decide_eq_false (by unfold cR; omega)).symm, rfl⟩)
 refine ai.aA (k' := 8) (fr' := [(1, vP b1), (10, .bool (decide ((n : Int) ≥ (1000000000 : Int))))]) (aq := [b1 = b1]) [o_, ⟨[.at 1], none, none, none, none⟩, o_, o_] [1, 10] (fun _ _ => by kernel_rfl) ⟨rfl, trivial⟩ ?_
 refine ai.nil (by kernel_rfl) (aj.next ?_)
 refine af.bB (p := (n : Int) ≥ (1000000000 : Int)) (fun _ => by kernel_rfl) (fun h10 => ?_) (fun h10 => ?_)
 ·refine af.seq (af.region ?_)
  refine ai.aA (k' := 1) (fr' := [(2, .bool false)]) (aq := []) [o_] [2] (fun _ _ => by kernel_rfl) trivial ?_
  refine ai.nil (by kernel_rfl) (aj.next (af.ret (aj.ar ?_)))
  exact aj.ret (v := .bool false) (l := []) (aq := []) [] [0] (fun _ => by kernel_rfl) trivial rfl (by kernel_rfl) (⟨congrArg Value.bool (decide_eq_false (by unfold cR; omega)).symm, rfl⟩)
 refine af.skip (aj.next (af.seq (af.seq (af.region ?_))))
 refine ai.aA (k' := 3) (fr' := [(1, vP b1), (13, .bool (decide ((s : Int) = ((-1099511627777) : Int))))]) (aq := [b1 = b1]) [o_, ⟨[.at 1], none, none, none, none⟩, o_] [1, 13] (fun _ _ => by kernel_rfl) ⟨rfl, trivial⟩ ?_
 refine ai.nil (by kernel_rfl) (aj.next ?_)
 refine af.bB (p := (s : Int) = ((-1099511627777) : Int)) (fun _ => by kernel_rfl) (fun Pc => ?_) (fun Pc => ?_)
 ·refine af.seq (af.region ?_)
  refine ai.aA (k' := 4) (fr' := [(2, .bool (decide ((n : Int) > (0 : Int))))]) (aq := [b1 = b1]) [o_, ⟨[.at 1], none, none, none, none⟩, o_, o_] [2] (fun _ _ => by kernel_rfl) ⟨rfl, trivial⟩ ?_
  refine ai.nil (by kernel_rfl) (aj.next (af.ret (aj.ar ?_)))
  exact aj.ret (v := .bool (decide ((n : Int) > (0 : Int)))) (l := []) (aq := []) [] [0] (fun _ => by kernel_rfl) trivial rfl (by kernel_rfl) (⟨congrArg Value.bool (decide_eq_decide.2 (by unfold cR; omega)), rfl⟩)
 refine af.skip (aj.next (af.seq (af.region ?_)))
 refine ai.aA (k' := 4) (fr' := [(1, vP b1), (20, .bool (decide ((s : Int) > ((-1099511627777) : Int))))]) (aq := [b1 = b1]) [o_, ⟨[.at 1], none, none, none, none⟩, o_, o_] [1, 20] (fun _ _ => by kernel_rfl) ⟨rfl, trivial⟩ ?_
 refine ai.gD 20 ((s : Int) > ((-1099511627777) : Int)) (fun _ => by kernel_rfl) (fun mO => ?_) (fun mO => ?_)
 ·refine ai.aA (k' := 9) (fr' := [(2, .bool (decide ((s : Int) ≤ (1099511627776 : Int))))]) (aq := [b1 = b1]) [o_, ⟨[.at 1], none, none, none, none⟩, o_, o_, o_] [2] (fun _ _ => by kernel_rfl) ⟨rfl, trivial⟩ ?_
  refine ai.nil (by kernel_rfl) (aj.next (af.ret ?_))
  exact aj.ret (v := .bool (decide ((s : Int) ≤ (1099511627776 : Int)))) (l := []) (aq := []) [] [0] (fun _ => by kernel_rfl) trivial rfl (by kernel_rfl) (⟨congrArg Value.bool (decide_eq_decide.2 (by unfold cR; omega)), rfl⟩)
 refine ai.aA (k' := 9) (fr' := [(2, .bool false)]) (aq := []) [o_, o_, o_, o_, o_] [2] (fun _ _ => by kernel_rfl) trivial ?_
 refine ai.nil (by kernel_rfl) (aj.next (af.ret ?_))
 exact aj.ret (v := .bool false) (l := []) (aq := []) [] [0] (fun _ => by kernel_rfl) trivial rfl (by kernel_rfl) (⟨congrArg Value.bool (decide_eq_false (by unfold cR; omega)).symm, rfl⟩)
theorem uN {β : Bs} (A : Option Addr) (ns : List aN) (L : Lay) (hG : aC β A ns L) (i : Nat) (hi : i < ns.length) :
    Spec Tryz.prog β 151 #[.pointer (some ⟨(av A), au A + i * 10, none⟩)] [] (fun v l => v = .bool (decide (dG (nd ns i).kind (nd ns i).target)) ∧ l = []) := by
 refine Spec.enter Tryz.func151 rfl Tryz.ntmps151 (Nat.le_of_ble_eq_true rfl) (fun R => ?_)
 refine af.seq (af.region ?_)
 refine ai.aA (k' := 1) (fr' := [(0, .pointer (some ⟨(av A), au A + i * 10, none⟩))]) (aq := []) [o_] [0] (fun _ _ => by kernel_rfl) trivial ?_
 refine ai.nil (by kernel_rfl) (aj.next (af.seq (af.seq (af.region ?_))))
 refine ai.aA (k' := 5) (fr' := [(0, .pointer (some ⟨(av A), au A + i * 10, none⟩)), (7, .bool (!(decide (((nd ns i).kind : Int) = (3 : Int)))))]) (aq := [(Rd β ⟨(av A), au A + i * 10 + 1, none⟩ (vI ((nd ns i).kind)))]) [o_, o_, o_, ⟨[.old (vI ((nd ns i).kind))], none, none, none, none⟩, o_] [0, 7] (fun _ _ => by kernel_rfl) ⟨aC.rd hG (i := i) (by omega) (j := 1) rfl, trivial⟩ ?_
 refine ai.nil (by kernel_rfl) (aj.next ?_)
 refine af.cr (p := ((nd ns i).kind : Int) = (3 : Int)) (fun _ => by kernel_rfl) (fun h7 => ?_) (fun h7 => ?_)
 ·refine af.seq (af.region ?_)
  refine ai.aA (k' := 6) (fr' := [(2, .bool (decide (((nd ns i).target : ByteArray) = ⟨#[]⟩)))]) (aq := [(Value.bool (((nd ns i).target : ByteArray).toList == (⟨#[]⟩ : ByteArray).toList)) = (.bool (decide (((nd ns i).target : ByteArray) = ⟨#[]⟩))), (Rd β ⟨(av A), au A + i * 10 + 8, none⟩ (.string (nd ns i).target))]) [o_, o_, o_, ⟨[.old (.string (nd ns i).target)], none, none, none, none⟩, ⟨[], none, none, none, some (.bool (decide (((nd ns i).target : ByteArray) = ⟨#[]⟩)))⟩, o_] [2] (fun _ _ => by kernel_rfl) ⟨q6 _ _, aC.rd hG (i := i) (by omega) (j := 8) rfl, trivial⟩ ?_
  refine ai.nil (by kernel_rfl) (aj.next (af.ret (aj.ar ?_)))
  exact aj.ret (v := .bool (decide (((nd ns i).target : ByteArray) = ⟨#[]⟩))) (l := []) (aq := []) [] [0] (fun _ => by kernel_rfl) trivial rfl (by kernel_rfl) (⟨congrArg Value.bool (decide_eq_decide.2 (by have h0 := jB (s := (nd ns i).target); grind [dG])), rfl⟩)
 refine af.skip (aj.next (af.seq (af.region ?_)))
 refine ai.aA (k' := 6) (fr' := [(0, .pointer (some ⟨(av A), au A + i * 10, none⟩)), (18, .bool (!(decide (((nd ns i).target : ByteArray) = ⟨#[]⟩))))]) (aq := [(Value.bool (!(((nd ns i).target : ByteArray).toList == (⟨#[]⟩ : ByteArray).toList))) = (.bool (!(decide (((nd ns i).target : ByteArray) = ⟨#[]⟩)))), (Rd β ⟨(av A), au A + i * 10 + 8, none⟩ (.string (nd ns i).target))]) [o_, o_, o_, ⟨[.old (.string (nd ns i).target)], none, none, none, none⟩, ⟨[], none, none, none, some (.bool (!(decide (((nd ns i).target : ByteArray) = ⟨#[]⟩))))⟩, o_] [0, 18] (fun _ _ => by kernel_rfl) ⟨Fs _ _, aC.rd hG (i := i) (by omega) (j := 8) rfl, trivial⟩ ?_
 refine ai.fM 18 (((nd ns i).target : ByteArray) = ⟨#[]⟩) (fun _ => by kernel_rfl) (fun lQ => ?_) (fun lQ => ?_)
 ·refine ai.aA (k' := 14) (fr' := [(0, .pointer (some ⟨(av A), au A + i * 10, none⟩)), (26, .bool (decide ((((((nd ns i).target : ByteArray).size : Nat) : Int) : Int) ≤ (4096 : Int))))]) (aq := [(Rd β ⟨(av A), au A + i * 10 + 8, none⟩ (.string (nd ns i).target))]) [o_, o_, o_, ⟨[.old (.string (nd ns i).target)], none, none, none, none⟩, o_, o_, o_, o_] [0, 26] (fun _ _ => by kernel_rfl) ⟨aC.rd hG (i := i) (by omega) (j := 8) rfl, trivial⟩ ?_
  refine ai.gD 26 ((((((nd ns i).target : ByteArray).size : Nat) : Int) : Int) ≤ (4096 : Int)) (fun _ => by kernel_rfl) (fun zR => ?_) (fun zR => ?_)
  ·refine ai.aA (k' := 18) (fr' := [(26, .bool true), (30, .string (nd ns i).target)]) (aq := [(Rd β ⟨(av A), au A + i * 10 + 8, none⟩ (.string (nd ns i).target))]) [o_, o_, o_, ⟨[.old (.string (nd ns i).target)], none, none, none, none⟩] [26, 30] (fun _ _ => by kernel_rfl) ⟨aC.rd hG (i := i) (by omega) (j := 8) rfl, trivial⟩ ?_
   refine ai.call (f := 146) (args := #[.string (nd ns i).target, .int .u8 0]) (d := (some 31)) (pre := []) (R := [.abs R]) (pk := [0]) (fun _ => by kernel_rfl) (Spec.quiet (fun w => Tryz.strings_IndexByte (nd ns i).target 0 w)) rfl (by kernel_rfl) ?_
   rintro _ _ ⟨rfl, rfl⟩
   refine ai.aA (k' := 22) (fr' := [(2, .bool (decide ((Lib.indexByte (nd ns i).target.data.toList (0 : Int).toNat.toUInt8 : Int) < (0 : Int))))]) (aq := []) [o_, o_, o_] [2] (fun _ _ => by kernel_rfl) trivial ?_
   refine ai.nil (by kernel_rfl) (aj.next (af.ret ?_))
   exact aj.ret (v := .bool (decide ((Lib.indexByte (nd ns i).target.data.toList (0 : Int).toNat.toUInt8 : Int) < (0 : Int)))) (l := []) (aq := []) [] [0] (fun _ => by kernel_rfl) trivial rfl (by kernel_rfl) (⟨congrArg Value.bool (decide_eq_decide.2 (by have h0 := jB (s := (nd ns i).target); rw [Bx]; grind [dG])), rfl⟩)
  refine ai.aA (k' := 22) (fr' := [(2, .bool false)]) (aq := []) [o_, o_, o_, o_, o_, o_, o_, o_] [2] (fun _ _ => by kernel_rfl) trivial ?_
  refine ai.nil (by kernel_rfl) (aj.next (af.ret ?_))
  exact aj.ret (v := .bool false) (l := []) (aq := []) [] [0] (fun _ => by kernel_rfl) trivial rfl (by kernel_rfl) (⟨congrArg Value.bool (decide_eq_false (by have h0 := jB (s := (nd ns i).target); grind [dG])).symm, rfl⟩)
 refine ai.aA (k' := 22) (fr' := [(2, .bool false)]) (aq := []) [o_, o_, o_, o_, o_, o_, o_, o_, o_, o_, o_, o_, o_, o_, o_, o_] [2] (fun _ _ => by kernel_rfl) trivial ?_
 refine ai.nil (by kernel_rfl) (aj.next (af.ret ?_))
 exact aj.ret (v := .bool false) (l := []) (aq := []) [] [0] (fun _ => by kernel_rfl) trivial rfl (by kernel_rfl) (⟨congrArg Value.bool (decide_eq_false (by have h0 := jB (s := (nd ns i).target); grind [dG])).symm, rfl⟩)
theorem Hv {β : Bs} (A : Option Addr) (ns : List aN) (L : Lay) (hG : aC β A ns L) (i : Nat) (hi : i < ns.length) :
    Spec Tryz.prog β 119 #[.pointer (some ⟨(av A), au A + i * 10, none⟩)] [] (fun v l => v = .bool (decide (nM (nd ns i))) ∧ l = []) := by
 refine Spec.enter Tryz.func119 rfl Tryz.ntmps119 (Nat.le_of_ble_eq_true rfl) (fun R => ?_)
 refine af.seq (af.region ?_)
 refine ai.aA (k' := 1) (fr' := [(0, .pointer (some ⟨(av A), au A + i * 10, none⟩))]) (aq := []) [o_] [0] (fun _ _ => by kernel_rfl) trivial ?_
 refine ai.nil (by kernel_rfl) (aj.next (af.seq (af.seq (af.region ?_))))
 refine ai.aA (k' := 4) (fr' := [(0, .pointer (some ⟨(av A), au A + i * 10, none⟩)), (6, vI ((nd ns i).kind))]) (aq := [(Rd β ⟨(av A), au A + i * 10 + 1, none⟩ (vI ((nd ns i).kind)))]) [o_, o_, o_, ⟨[.old (vI ((nd ns i).kind))], none, none, none, none⟩] [0, 6] (fun _ _ => by kernel_rfl) ⟨aC.rd hG (i := i) (by omega) (j := 1) rfl, trivial⟩ ?_
 refine ai.call (f := 150) (args := #[vI ((nd ns i).kind), vI 1, vI 3]) (d := (some 7)) (pre := []) (R := [.abs R]) (pk := [0]) (fun _ => by kernel_rfl) (qm ((nd ns i).kind) 1 3) rfl (by kernel_rfl) ?_
 rintro _ _ ⟨rfl, rfl⟩
 refine ai.aA (k' := 7) (fr' := [(0, .pointer (some ⟨(av A), au A + i * 10, none⟩)), (9, .bool (!(decide (Within ((nd ns i).kind) 1 3))))]) (aq := []) [o_, o_] [0, 9] (fun _ _ => by kernel_rfl) trivial ?_
 refine ai.fM 9 (Within ((nd ns i).kind) 1 3) (fun _ => by kernel_rfl) (fun h9 => ?_) (fun h9 => ?_)
 ·refine ai.aA (k' := 30) (fr' := [(0, .pointer (some ⟨(av A), au A + i * 10, none⟩)), (32, .bool true)]) (aq := []) [o_, o_, o_, o_, o_, o_, o_, o_, o_, o_, o_, o_, o_, o_, o_, o_, o_, o_, o_, o_, o_, o_, o_] [0, 32] (fun _ _ => by kernel_rfl) trivial ?_
  refine ai.nil (by kernel_rfl) (aj.next ?_)
  refine af.eG (fun _ => by kernel_rfl) ?_
  refine af.seq (af.region ?_)
  refine ai.aA (k' := 1) (fr' := [(2, .bool false)]) (aq := []) [o_] [2] (fun _ _ => by kernel_rfl) trivial ?_
  refine ai.nil (by kernel_rfl) (aj.next (af.ret (aj.ar ?_)))
  exact aj.ret (v := .bool false) (l := []) (aq := []) [] [0] (fun _ => by kernel_rfl) trivial rfl (by kernel_rfl) (⟨congrArg Value.bool (decide_eq_false (by rw [dQ]; unfold Within at *; grind)).symm, rfl⟩)
 refine ai.aA (k' := 11) (fr' := [(0, .pointer (some ⟨(av A), au A + i * 10, none⟩)), (9, .bool false), (13, vI ((nd ns i).mode))]) (aq := [(Rd β ⟨(av A), au A + i * 10 + 2, none⟩ (vI ((nd ns i).mode)))]) [o_, o_, o_, ⟨[.old (vI ((nd ns i).mode))], none, none, none, none⟩] [0, 9, 13] (fun _ _ => by kernel_rfl) ⟨aC.rd hG (i := i) (by omega) (j := 2) rfl, trivial⟩ ?_
 refine ai.call (f := 150) (args := #[vI ((nd ns i).mode), vI 0, vI 4095]) (d := (some 14)) (pre := []) (R := [.abs R]) (pk := [0]) (fun _ => by kernel_rfl) (qm ((nd ns i).mode) 0 4095) rfl (by kernel_rfl) ?_
 rintro _ _ ⟨rfl, rfl⟩
 refine ai.aA (k' := 15) (fr' := [(0, .pointer (some ⟨(av A), au A + i * 10, none⟩)), (17, .bool (!(decide (Within ((nd ns i).mode) 0 4095))))]) (aq := []) [o_, o_, o_] [0, 17] (fun _ _ => by kernel_rfl) trivial ?_
 refine ai.fM 17 (Within ((nd ns i).mode) 0 4095) (fun _ => by kernel_rfl) (fun KR => ?_) (fun KR => ?_)
 ·refine ai.aA (k' := 30) (fr' := [(0, .pointer (some ⟨(av A), au A + i * 10, none⟩)), (32, .bool true)]) (aq := []) [o_, o_, o_, o_, o_, o_, o_, o_, o_, o_, o_, o_, o_, o_, o_] [0, 32] (fun _ _ => by kernel_rfl) trivial ?_
  refine ai.nil (by kernel_rfl) (aj.next ?_)
  refine af.eG (fun _ => by kernel_rfl) ?_
  refine af.seq (af.region ?_)
  refine ai.aA (k' := 1) (fr' := [(2, .bool false)]) (aq := []) [o_] [2] (fun _ _ => by kernel_rfl) trivial ?_
  refine ai.nil (by kernel_rfl) (aj.next (af.ret (aj.ar ?_)))
  exact aj.ret (v := .bool false) (l := []) (aq := []) [] [0] (fun _ => by kernel_rfl) trivial rfl (by kernel_rfl) (⟨congrArg Value.bool (decide_eq_false (by rw [dQ]; unfold Within at *; grind)).symm, rfl⟩)
 refine ai.aA (k' := 19) (fr' := [(0, .pointer (some ⟨(av A), au A + i * 10, none⟩)), (17, .bool false), (21, vI ((nd ns i).uid))]) (aq := [(Rd β ⟨(av A), au A + i * 10 + 3, none⟩ (vI ((nd ns i).uid)))]) [o_, o_, o_, ⟨[.old (vI ((nd ns i).uid))], none, none, none, none⟩] [0, 17, 21] (fun _ _ => by kernel_rfl) ⟨aC.rd hG (i := i) (by omega) (j := 3) rfl, trivial⟩ ?_
 refine ai.call (f := 150) (args := #[vI ((nd ns i).uid), vI 0, vI 2147483647]) (d := (some 22)) (pre := []) (R := [.abs R]) (pk := [0]) (fun _ => by kernel_rfl) (qm ((nd ns i).uid) 0 2147483647) rfl (by kernel_rfl) ?_
 rintro _ _ ⟨rfl, rfl⟩
 refine ai.aA (k' := 23) (fr' := [(0, .pointer (some ⟨(av A), au A + i * 10, none⟩)), (25, .bool (!(decide (Within ((nd ns i).uid) 0 2147483647))))]) (aq := []) [o_, o_, o_] [0, 25] (fun _ _ => by kernel_rfl) trivial ?_
 refine ai.fM 25 (Within ((nd ns i).uid) 0 2147483647) (fun _ => by kernel_rfl) (fun vr => ?_) (fun vr => ?_)
 ·refine ai.aA (k' := 30) (fr' := [(0, .pointer (some ⟨(av A), au A + i * 10, none⟩)), (32, .bool true)]) (aq := []) [o_, o_, o_, o_, o_, o_, o_] [0, 32] (fun _ _ => by kernel_rfl) trivial ?_
  refine ai.nil (by kernel_rfl) (aj.next ?_)
  refine af.eG (fun _ => by kernel_rfl) ?_
  refine af.seq (af.region ?_)
  refine ai.aA (k' := 1) (fr' := [(2, .bool false)]) (aq := []) [o_] [2] (fun _ _ => by kernel_rfl) trivial ?_
  refine ai.nil (by kernel_rfl) (aj.next (af.ret (aj.ar ?_)))
  exact aj.ret (v := .bool false) (l := []) (aq := []) [] [0] (fun _ => by kernel_rfl) trivial rfl (by kernel_rfl) (⟨congrArg Value.bool (decide_eq_false (by rw [dQ]; unfold Within at *; grind)).symm, rfl⟩)
 refine ai.aA (k' := 27) (fr' := [(0, .pointer (some ⟨(av A), au A + i * 10, none⟩)), (25, .bool false), (29, vI ((nd ns i).gid))]) (aq := [(Rd β ⟨(av A), au A + i * 10 + 4, none⟩ (vI ((nd ns i).gid)))]) [o_, o_, o_, ⟨[.old (vI ((nd ns i).gid))], none, none, none, none⟩] [0, 25, 29] (fun _ _ => by kernel_rfl) ⟨aC.rd hG (i := i) (by omega) (j := 4) rfl, trivial⟩ ?_
 refine ai.call (f := 150) (args := #[vI ((nd ns i).gid), vI 0, vI 2147483647]) (d := (some 30)) (pre := []) (R := [.abs R]) (pk := [0]) (fun _ => by kernel_rfl) (qm ((nd ns i).gid) 0 2147483647) rfl (by kernel_rfl) ?_
 rintro _ _ ⟨rfl, rfl⟩
 refine ai.aA (k' := 30) (fr' := [(0, .pointer (some ⟨(av A), au A + i * 10, none⟩)), (32, .bool (!(decide (Within ((nd ns i).gid) 0 2147483647))))]) (aq := []) [o_, o_] [0, 32] (fun _ _ => by kernel_rfl) trivial ?_
 refine ai.nil (by kernel_rfl) (aj.next ?_)
 refine af.cr (p := Within ((nd ns i).gid) 0 2147483647) (fun _ => by kernel_rfl) (fun Dv => ?_) (fun Dv => ?_)
 ·refine af.seq (af.region ?_)
  refine ai.aA (k' := 1) (fr' := [(2, .bool false)]) (aq := []) [o_] [2] (fun _ _ => by kernel_rfl) trivial ?_
  refine ai.nil (by kernel_rfl) (aj.next (af.ret (aj.ar ?_)))
  exact aj.ret (v := .bool false) (l := []) (aq := []) [] [0] (fun _ => by kernel_rfl) trivial rfl (by kernel_rfl) (⟨congrArg Value.bool (decide_eq_false (by rw [dQ]; unfold Within at *; grind)).symm, rfl⟩)
 refine af.skip (aj.next (af.seq (af.seq (af.region ?_))))
 refine ai.aA (k' := 6) (fr' := [(0, .pointer (some ⟨(av A), au A + i * 10, none⟩)), (38, .bool (!(decide (((nd ns i).kind : Int) = (1 : Int)))))]) (aq := [(Rd β ⟨(av A), au A + i * 10 + 1, none⟩ (vI ((nd ns i).kind)))]) [o_, o_, o_, ⟨[.old (vI ((nd ns i).kind))], none, none, none, none⟩, o_, o_] [0, 38] (fun _ _ => by kernel_rfl) ⟨aC.rd hG (i := i) (by omega) (j := 1) rfl, trivial⟩ ?_
 refine ai.fM 38 (((nd ns i).kind : Int) = (1 : Int)) (fun _ => by kernel_rfl) (fun tG => ?_) (fun tG => ?_)
 ·refine ai.aA (k' := 14) (fr' := [(0, .pointer (some ⟨(av A), au A + i * 10, none⟩)), (46, .bool (decide (((((nd ns i).data.length : Nat) : Int) : Int) > (0 : Int))))]) (aq := [(Rd β ⟨(av A), au A + i * 10 + 7, none⟩ (.slice (L.dA i) ((nd ns i).data.length) ((L.dC i))))]) [o_, o_, o_, ⟨[.old (.slice (L.dA i) ((nd ns i).data.length) ((L.dC i)))], none, none, none, none⟩, o_, o_, o_, o_] [0, 46] (fun _ _ => by kernel_rfl) ⟨aC.rd hG (i := i) (by omega) (j := 7) rfl, trivial⟩ ?_
  refine ai.gD 46 (((((nd ns i).data.length : Nat) : Int) : Int) > (0 : Int)) (fun _ => by kernel_rfl) (fun h46 => ?_) (fun h46 => ?_)
  ·refine ai.aA (k' := 28) (fr' := [(0, .pointer (some ⟨(av A), au A + i * 10, none⟩)), (60, .bool true)]) (aq := []) [o_, o_, o_, o_, o_, o_, o_, o_, o_, o_, o_, o_, o_, o_] [0, 60] (fun _ _ => by kernel_rfl) trivial ?_
   refine ai.nil (by kernel_rfl) (aj.next ?_)
   refine af.eG (fun _ => by kernel_rfl) ?_
   refine af.seq (af.region ?_)
   refine ai.aA (k' := 1) (fr' := [(2, .bool false)]) (aq := []) [o_] [2] (fun _ _ => by kernel_rfl) trivial ?_
   refine ai.nil (by kernel_rfl) (aj.next (af.ret (aj.ar ?_)))
   exact aj.ret (v := .bool false) (l := []) (aq := []) [] [0] (fun _ => by kernel_rfl) trivial rfl (by kernel_rfl) (⟨congrArg Value.bool (decide_eq_false (by rw [dQ]; unfold Within at *; grind)).symm, rfl⟩)
  refine ai.aA (k' := 20) (fr' := [(0, .pointer (some ⟨(av A), au A + i * 10, none⟩)), (46, .bool false), (52, .bool (!(decide (((nd ns i).kind : Int) = (2 : Int)))))]) (aq := [(Rd β ⟨(av A), au A + i * 10 + 1, none⟩ (vI ((nd ns i).kind)))]) [o_, o_, o_, ⟨[.old (vI ((nd ns i).kind))], none, none, none, none⟩, o_, o_] [0, 46, 52] (fun _ _ => by kernel_rfl) ⟨aC.rd hG (i := i) (by omega) (j := 1) rfl, trivial⟩ ?_
  refine ai.fM 52 (((nd ns i).kind : Int) = (2 : Int)) (fun _ => by kernel_rfl) (fun K3 => ?_) (fun K3 => ?_)
  ·refine ai.aA (k' := 28) (fr' := [(0, .pointer (some ⟨(av A), au A + i * 10, none⟩)), (60, .bool (decide (((((nd ns i).ah.length : Nat) : Int) : Int) > (0 : Int))))]) (aq := [(Rd β ⟨(av A), au A + i * 10 + 9, none⟩ (.slice (L.eA i) ((nd ns i).ah.length) ((L.eC i))))]) [o_, o_, o_, ⟨[.old (.slice (L.eA i) ((nd ns i).ah.length) ((L.eC i)))], none, none, none, none⟩, o_, o_, o_, o_] [0, 60] (fun _ _ => by kernel_rfl) ⟨aC.rd hG (i := i) (by omega) (j := 9) rfl, trivial⟩ ?_
   refine ai.nil (by kernel_rfl) (aj.next ?_)
   refine af.bB (p := ((((nd ns i).ah.length : Nat) : Int) : Int) > (0 : Int)) (fun _ => by kernel_rfl) (fun K6 => ?_) (fun K6 => ?_)
   ·refine af.seq (af.region ?_)
    refine ai.aA (k' := 1) (fr' := [(2, .bool false)]) (aq := []) [o_] [2] (fun _ _ => by kernel_rfl) trivial ?_
    refine ai.nil (by kernel_rfl) (aj.next (af.ret (aj.ar ?_)))
    exact aj.ret (v := .bool false) (l := []) (aq := []) [] [0] (fun _ => by kernel_rfl) trivial rfl (by kernel_rfl) (⟨congrArg Value.bool (decide_eq_false (by rw [dQ]; unfold Within at *; grind)).symm, rfl⟩)
   refine af.skip (aj.next (af.seq (af.region ?_)))
   refine ai.aA (k' := 4) (fr' := [(0, .pointer (some ⟨(av A), au A + i * 10, none⟩)), (64, .agg #[vI ((nd ns i).sec), vI ((nd ns i).nano)])]) (aq := [(Rd β ⟨(av A), au A + i * 10 + 5 + 1, none⟩ (vI ((nd ns i).nano))), (Rd β ⟨(av A), au A + i * 10 + 5, none⟩ (vI ((nd ns i).sec)))]) [o_, o_, o_, ⟨[.old (vI ((nd ns i).sec)), .old (vI ((nd ns i).nano))], none, none, none, none⟩] [0, 64] (fun _ _ => by kernel_rfl) ⟨aC.rd hG (i := i) (by omega) (j := 6) rfl, aC.rd hG (i := i) (by omega) (j := 5) rfl, trivial⟩ ?_
   refine ai.call (f := 33) (args := #[.agg #[vI ((nd ns i).sec), vI ((nd ns i).nano)]]) (d := (some 65)) (pre := []) (R := [.abs R]) (pk := [0]) (fun _ => by kernel_rfl) (fT (nd ns i).sec (nd ns i).nano) rfl (by kernel_rfl) ?_
   rintro _ _ ⟨rfl, rfl⟩
   refine ai.aA (k' := 6) (fr' := [(0, .pointer (some ⟨(av A), au A + i * 10, none⟩)), (66, .bool (decide (cR (nd ns i).sec (nd ns i).nano)))]) (aq := []) [o_] [0, 66] (fun _ _ => by kernel_rfl) trivial ?_
   refine ai.gD 66 (cR (nd ns i).sec (nd ns i).nano) (fun _ => by kernel_rfl) (fun BH => ?_) (fun BH => ?_)
   ·refine ai.aA (k' := 7) (fr' := [(66, .bool true), (67, .pointer (some ⟨(av A), au A + i * 10, none⟩))]) (aq := []) [o_] [66, 67] (fun _ _ => by kernel_rfl) trivial ?_
    refine ai.call (f := 151) (args := #[.pointer (some ⟨(av A), au A + i * 10, none⟩)]) (d := (some 68)) (pre := []) (R := [.abs R]) (pk := [0]) (fun _ => by kernel_rfl) (uN A ns L hG i hi) rfl (by kernel_rfl) ?_
    rintro _ _ ⟨rfl, rfl⟩
    refine ai.aA (k' := 10) (fr' := [(2, .bool (decide (dG (nd ns i).kind (nd ns i).target)))]) (aq := []) [o_, o_] [2] (fun _ _ => by kernel_rfl) trivial ?_
    refine ai.nil (by kernel_rfl) (aj.next (af.ret ?_))
    exact aj.ret (v := .bool (decide (dG (nd ns i).kind (nd ns i).target))) (l := []) (aq := []) [] [0] (fun _ => by kernel_rfl) trivial rfl (by kernel_rfl) (⟨congrArg Value.bool (decide_eq_decide.2 (by rw [dQ]; unfold Within at *; grind)), rfl⟩)
   refine ai.aA (k' := 10) (fr' := [(2, .bool false)]) (aq := []) [o_, o_, o_, o_] [2] (fun _ _ => by kernel_rfl) trivial ?_
   refine ai.nil (by kernel_rfl) (aj.next (af.ret ?_))
   exact aj.ret (v := .bool false) (l := []) (aq := []) [] [0] (fun _ => by kernel_rfl) trivial rfl (by kernel_rfl) (⟨congrArg Value.bool (decide_eq_false (by rw [dQ]; unfold Within at *; grind)).symm, rfl⟩)
  refine ai.aA (k' := 28) (fr' := [(0, .pointer (some ⟨(av A), au A + i * 10, none⟩)), (60, .bool false)]) (aq := []) [o_, o_, o_, o_, o_, o_, o_, o_] [0, 60] (fun _ _ => by kernel_rfl) trivial ?_
  refine ai.nil (by kernel_rfl) (aj.next ?_)
  refine af.kZ (fun _ => by kernel_rfl) ?_
  refine af.skip (aj.next (af.seq (af.region ?_)))
  refine ai.aA (k' := 4) (fr' := [(0, .pointer (some ⟨(av A), au A + i * 10, none⟩)), (64, .agg #[vI ((nd ns i).sec), vI ((nd ns i).nano)])]) (aq := [(Rd β ⟨(av A), au A + i * 10 + 5 + 1, none⟩ (vI ((nd ns i).nano))), (Rd β ⟨(av A), au A + i * 10 + 5, none⟩ (vI ((nd ns i).sec)))]) [o_, o_, o_, ⟨[.old (vI ((nd ns i).sec)), .old (vI ((nd ns i).nano))], none, none, none, none⟩] [0, 64] (fun _ _ => by kernel_rfl) ⟨aC.rd hG (i := i) (by omega) (j := 6) rfl, aC.rd hG (i := i) (by omega) (j := 5) rfl, trivial⟩ ?_
  refine ai.call (f := 33) (args := #[.agg #[vI ((nd ns i).sec), vI ((nd ns i).nano)]]) (d := (some 65)) (pre := []) (R := [.abs R]) (pk := [0]) (fun _ => by kernel_rfl) (fT (nd ns i).sec (nd ns i).nano) rfl (by kernel_rfl) ?_
  rintro _ _ ⟨rfl, rfl⟩
  refine ai.aA (k' := 6) (fr' := [(0, .pointer (some ⟨(av A), au A + i * 10, none⟩)), (66, .bool (decide (cR (nd ns i).sec (nd ns i).nano)))]) (aq := []) [o_] [0, 66] (fun _ _ => by kernel_rfl) trivial ?_
  refine ai.gD 66 (cR (nd ns i).sec (nd ns i).nano) (fun _ => by kernel_rfl) (fun BH => ?_) (fun BH => ?_)
  ·refine ai.aA (k' := 7) (fr' := [(66, .bool true), (67, .pointer (some ⟨(av A), au A + i * 10, none⟩))]) (aq := []) [o_] [66, 67] (fun _ _ => by kernel_rfl) trivial ?_
   refine ai.call (f := 151) (args := #[.pointer (some ⟨(av A), au A + i * 10, none⟩)]) (d := (some 68)) (pre := []) (R := [.abs R]) (pk := [0]) (fun _ => by kernel_rfl) (uN A ns L hG i hi) rfl (by kernel_rfl) ?_
   rintro _ _ ⟨rfl, rfl⟩
   refine ai.aA (k' := 10) (fr' := [(2, .bool (decide (dG (nd ns i).kind (nd ns i).target)))]) (aq := []) [o_, o_] [2] (fun _ _ => by kernel_rfl) trivial ?_
   refine ai.nil (by kernel_rfl) (aj.next (af.ret ?_))
   exact aj.ret (v := .bool (decide (dG (nd ns i).kind (nd ns i).target))) (l := []) (aq := []) [] [0] (fun _ => by kernel_rfl) trivial rfl (by kernel_rfl) (⟨congrArg Value.bool (decide_eq_decide.2 (by rw [dQ]; unfold Within at *; grind)), rfl⟩)
  refine ai.aA (k' := 10) (fr' := [(2, .bool false)]) (aq := []) [o_, o_, o_, o_] [2] (fun _ _ => by kernel_rfl) trivial ?_
  refine ai.nil (by kernel_rfl) (aj.next (af.ret ?_))
  exact aj.ret (v := .bool false) (l := []) (aq := []) [] [0] (fun _ => by kernel_rfl) trivial rfl (by kernel_rfl) (⟨congrArg Value.bool (decide_eq_false (by rw [dQ]; unfold Within at *; grind)).symm, rfl⟩)
 refine ai.aA (k' := 20) (fr' := [(0, .pointer (some ⟨(av A), au A + i * 10, none⟩)), (46, .bool false), (52, .bool (!(decide (((nd ns i).kind : Int) = (2 : Int)))))]) (aq := [(Rd β ⟨(av A), au A + i * 10 + 1, none⟩ (vI ((nd ns i).kind)))]) [o_, o_, o_, o_, o_, o_, o_, o_, o_, o_, o_, ⟨[.old (vI ((nd ns i).kind))], none, none, none, none⟩, o_, o_] [0, 46, 52] (fun _ _ => by kernel_rfl) ⟨aC.rd hG (i := i) (by omega) (j := 1) rfl, trivial⟩ ?_
 refine ai.fM 52 (((nd ns i).kind : Int) = (2 : Int)) (fun _ => by kernel_rfl) (fun K3 => ?_) (fun K3 => ?_)
 ·refine ai.aA (k' := 28) (fr' := [(0, .pointer (some ⟨(av A), au A + i * 10, none⟩)), (60, .bool (decide (((((nd ns i).ah.length : Nat) : Int) : Int) > (0 : Int))))]) (aq := [(Rd β ⟨(av A), au A + i * 10 + 9, none⟩ (.slice (L.eA i) ((nd ns i).ah.length) ((L.eC i))))]) [o_, o_, o_, ⟨[.old (.slice (L.eA i) ((nd ns i).ah.length) ((L.eC i)))], none, none, none, none⟩, o_, o_, o_, o_] [0, 60] (fun _ _ => by kernel_rfl) ⟨aC.rd hG (i := i) (by omega) (j := 9) rfl, trivial⟩ ?_
  refine ai.nil (by kernel_rfl) (aj.next ?_)
  refine af.bB (p := ((((nd ns i).ah.length : Nat) : Int) : Int) > (0 : Int)) (fun _ => by kernel_rfl) (fun K6 => ?_) (fun K6 => ?_)
  ·refine af.seq (af.region ?_)
   refine ai.aA (k' := 1) (fr' := [(2, .bool false)]) (aq := []) [o_] [2] (fun _ _ => by kernel_rfl) trivial ?_
   refine ai.nil (by kernel_rfl) (aj.next (af.ret (aj.ar ?_)))
   exact aj.ret (v := .bool false) (l := []) (aq := []) [] [0] (fun _ => by kernel_rfl) trivial rfl (by kernel_rfl) (⟨congrArg Value.bool (decide_eq_false (by rw [dQ]; unfold Within at *; grind)).symm, rfl⟩)
  refine af.skip (aj.next (af.seq (af.region ?_)))
  refine ai.aA (k' := 4) (fr' := [(0, .pointer (some ⟨(av A), au A + i * 10, none⟩)), (64, .agg #[vI ((nd ns i).sec), vI ((nd ns i).nano)])]) (aq := [(Rd β ⟨(av A), au A + i * 10 + 5 + 1, none⟩ (vI ((nd ns i).nano))), (Rd β ⟨(av A), au A + i * 10 + 5, none⟩ (vI ((nd ns i).sec)))]) [o_, o_, o_, ⟨[.old (vI ((nd ns i).sec)), .old (vI ((nd ns i).nano))], none, none, none, none⟩] [0, 64] (fun _ _ => by kernel_rfl) ⟨aC.rd hG (i := i) (by omega) (j := 6) rfl, aC.rd hG (i := i) (by omega) (j := 5) rfl, trivial⟩ ?_
  refine ai.call (f := 33) (args := #[.agg #[vI ((nd ns i).sec), vI ((nd ns i).nano)]]) (d := (some 65)) (pre := []) (R := [.abs R]) (pk := [0]) (fun _ => by kernel_rfl) (fT (nd ns i).sec (nd ns i).nano) rfl (by kernel_rfl) ?_
  rintro _ _ ⟨rfl, rfl⟩
  refine ai.aA (k' := 6) (fr' := [(0, .pointer (some ⟨(av A), au A + i * 10, none⟩)), (66, .bool (decide (cR (nd ns i).sec (nd ns i).nano)))]) (aq := []) [o_] [0, 66] (fun _ _ => by kernel_rfl) trivial ?_
  refine ai.gD 66 (cR (nd ns i).sec (nd ns i).nano) (fun _ => by kernel_rfl) (fun BH => ?_) (fun BH => ?_)
  ·refine ai.aA (k' := 7) (fr' := [(66, .bool true), (67, .pointer (some ⟨(av A), au A + i * 10, none⟩))]) (aq := []) [o_] [66, 67] (fun _ _ => by kernel_rfl) trivial ?_
   refine ai.call (f := 151) (args := #[.pointer (some ⟨(av A), au A + i * 10, none⟩)]) (d := (some 68)) (pre := []) (R := [.abs R]) (pk := [0]) (fun _ => by kernel_rfl) (uN A ns L hG i hi) rfl (by kernel_rfl) ?_
   rintro _ _ ⟨rfl, rfl⟩
   refine ai.aA (k' := 10) (fr' := [(2, .bool (decide (dG (nd ns i).kind (nd ns i).target)))]) (aq := []) [o_, o_] [2] (fun _ _ => by kernel_rfl) trivial ?_
   refine ai.nil (by kernel_rfl) (aj.next (af.ret ?_))
   exact aj.ret (v := .bool (decide (dG (nd ns i).kind (nd ns i).target))) (l := []) (aq := []) [] [0] (fun _ => by kernel_rfl) trivial rfl (by kernel_rfl) (⟨congrArg Value.bool (decide_eq_decide.2 (by rw [dQ]; unfold Within at *; grind)), rfl⟩)
  refine ai.aA (k' := 10) (fr' := [(2, .bool false)]) (aq := []) [o_, o_, o_, o_] [2] (fun _ _ => by kernel_rfl) trivial ?_
  refine ai.nil (by kernel_rfl) (aj.next (af.ret ?_))
  exact aj.ret (v := .bool false) (l := []) (aq := []) [] [0] (fun _ => by kernel_rfl) trivial rfl (by kernel_rfl) (⟨congrArg Value.bool (decide_eq_false (by rw [dQ]; unfold Within at *; grind)).symm, rfl⟩)
 refine ai.aA (k' := 28) (fr' := [(0, .pointer (some ⟨(av A), au A + i * 10, none⟩)), (60, .bool false)]) (aq := []) [o_, o_, o_, o_, o_, o_, o_, o_] [0, 60] (fun _ _ => by kernel_rfl) trivial ?_
 refine ai.nil (by kernel_rfl) (aj.next ?_)
 refine af.kZ (fun _ => by kernel_rfl) ?_
 refine af.skip (aj.next (af.seq (af.region ?_)))
 refine ai.aA (k' := 4) (fr' := [(0, .pointer (some ⟨(av A), au A + i * 10, none⟩)), (64, .agg #[vI ((nd ns i).sec), vI ((nd ns i).nano)])]) (aq := [(Rd β ⟨(av A), au A + i * 10 + 5 + 1, none⟩ (vI ((nd ns i).nano))), (Rd β ⟨(av A), au A + i * 10 + 5, none⟩ (vI ((nd ns i).sec)))]) [o_, o_, o_, ⟨[.old (vI ((nd ns i).sec)), .old (vI ((nd ns i).nano))], none, none, none, none⟩] [0, 64] (fun _ _ => by kernel_rfl) ⟨aC.rd hG (i := i) (by omega) (j := 6) rfl, aC.rd hG (i := i) (by omega) (j := 5) rfl, trivial⟩ ?_
 refine ai.call (f := 33) (args := #[.agg #[vI ((nd ns i).sec), vI ((nd ns i).nano)]]) (d := (some 65)) (pre := []) (R := [.abs R]) (pk := [0]) (fun _ => by kernel_rfl) (fT (nd ns i).sec (nd ns i).nano) rfl (by kernel_rfl) ?_
 rintro _ _ ⟨rfl, rfl⟩
 refine ai.aA (k' := 6) (fr' := [(0, .pointer (some ⟨(av A), au A + i * 10, none⟩)), (66, .bool (decide (cR (nd ns i).sec (nd ns i).nano)))]) (aq := []) [o_] [0, 66] (fun _ _ => by kernel_rfl) trivial ?_
 refine ai.gD 66 (cR (nd ns i).sec (nd ns i).nano) (fun _ => by kernel_rfl) (fun BH => ?_) (fun BH => ?_)
 ·refine ai.aA (k' := 7) (fr' := [(66, .bool true), (67, .pointer (some ⟨(av A), au A + i * 10, none⟩))]) (aq := []) [o_] [66, 67] (fun _ _ => by kernel_rfl) trivial ?_
  refine ai.call (f := 151) (args := #[.pointer (some ⟨(av A), au A + i * 10, none⟩)]) (d := (some 68)) (pre := []) (R := [.abs R]) (pk := [0]) (fun _ => by kernel_rfl) (uN A ns L hG i hi) rfl (by kernel_rfl) ?_
  rintro _ _ ⟨rfl, rfl⟩
  refine ai.aA (k' := 10) (fr' := [(2, .bool (decide (dG (nd ns i).kind (nd ns i).target)))]) (aq := []) [o_, o_] [2] (fun _ _ => by kernel_rfl) trivial ?_
  refine ai.nil (by kernel_rfl) (aj.next (af.ret ?_))
  exact aj.ret (v := .bool (decide (dG (nd ns i).kind (nd ns i).target))) (l := []) (aq := []) [] [0] (fun _ => by kernel_rfl) trivial rfl (by kernel_rfl) (⟨congrArg Value.bool (decide_eq_decide.2 (by rw [dQ]; unfold Within at *; grind)), rfl⟩)
 refine ai.aA (k' := 10) (fr' := [(2, .bool false)]) (aq := []) [o_, o_, o_, o_] [2] (fun _ _ => by kernel_rfl) trivial ?_
 refine ai.nil (by kernel_rfl) (aj.next (af.ret ?_))
 exact aj.ret (v := .bool false) (l := []) (aq := []) [] [0] (fun _ => by kernel_rfl) trivial rfl (by kernel_rfl) (⟨congrArg Value.bool (decide_eq_false (by rw [dQ]; unfold Within at *; grind)).symm, rfl⟩)
end
section
open Go.RowKit Go.Maps
def iU (x y : ByteArray) : Prop := (Op.bytesLess x.toList y.toList || (x.toList == y.toList)) = true
instance (x y : ByteArray) : Decidable (iU x y) := inferInstanceAs (Decidable (_ = true))
theorem K7 (x y : ByteArray) : Value.bool (Op.bytesLess x.toList y.toList || (x.toList == y.toList)) = Value.bool (decide (iU x y)) := by
  have h : ∀ (b : Bool) [Decidable (b = true)], b = decide (b = true) := by
    intro b _
    cases b <;> simp
  exact congrArg Value.bool (h _)
def tgt (ns : List aN) (z : Int) : Nat := (mM ns z).toNat
theorem kP {ns : List aN} {z : Int} (h : 0 ≤ mM ns z) : tgt ns z < ns.length ∧ (nd ns (tgt ns z)).id = z ∧ mM ns z = (tgt ns z : Int) := by
  unfold tgt
  unfold mM at h ⊢
  cases hf : ns.findIdx? (fun n => n.id == z) with
  | none => rw [hf] at h; simp at h
  | some k =>
    rw [List.findIdx?_eq_some_iff_getElem] at hf
    obtain ⟨h1, h2, _⟩ := hf
    refine ⟨h1, ?_, rfl⟩
    show (nd ns k).id = z
    unfold nd
    rw [List.getD_eq_getElem?_getD, List.getElem?_eq_getElem h1]
    simpa using h2
def ent (ns : List aN) (i j : Nat) : ic := en (nd ns i).ah j
def eW (ns : List aN) (i : Nat) : Nat → ByteArray
  | 0 => ⟨#[]⟩
  | j + 1 => (ent ns i j).name
structure lg (ns : List aN) (i j : Nat) : Prop where
  at_ : 0 ≤ mM ns (ent ns i j).id
  good : bE (ent ns i j).name
  ord : ¬ iU (ent ns i j).name (eW ns i j)
def BI (ns : List aN) (i j : Nat) : List (Nat × Nat) := if (nd ns (tgt ns (ent ns i j).id)).kind = 2 then [(tgt ns (ent ns i j).id, i)] else []
def ct (ns : List aN) (i : Nat) : Nat → List (Nat × Nat)
  | 0 => []
  | j + 1 => BI ns i j ++ ct ns i j
def dH (ns : List aN) : Nat → List (Nat × Nat)
  | 0 => []
  | i + 1 => ct ns i (nd ns i).ah.length ++ dH ns i
def fP (ns : List aN) (p : Nat × Nat) : Int × Int := ((nd ns p.1).id, (nd ns p.2).id)
theorem FE {ns : List aN} {i j m : Nat} (h : j ≤ m) : ∃ l, ct ns i m = l ++ ct ns i j := by
  induction m with
  | zero => exact ⟨[], by rw [Nat.le_zero.1 h]; rfl⟩
  | succ m ih =>
    rcases Nat.lt_or_ge m j with h1 | h1
    ·have : j = m + 1 := by omega
     subst this
     exact ⟨[], rfl⟩
    obtain ⟨l, hl⟩ := ih h1
    exact ⟨BI ns i m ++ l, by rw [ct, hl, List.append_assoc]⟩
theorem FH {ns : List aN} {i m : Nat} (h : i ≤ m) : ∃ l, dH ns m = l ++ dH ns i := by
  induction m with
  | zero => exact ⟨[], by rw [Nat.le_zero.1 h]; rfl⟩
  | succ m ih =>
    rcases Nat.lt_or_ge m i with h1 | h1
    ·have : i = m + 1 := by omega
     subst this
     exact ⟨[], rfl⟩
    obtain ⟨l, hl⟩ := ih h1
    exact ⟨ct ns m (nd ns m).ah.length ++ l, by rw [dH, hl, List.append_assoc]⟩
theorem tH {l : List (Nat × Nat)} {k : List (Nat × Nat)} (h : ((l ++ k).map Prod.fst).Nodup) : (k.map Prod.fst).Nodup := by
  rw [List.map_append] at h
  exact (List.nodup_append.1 h).2.1
theorem ck.inj {ns : List aN} (hr : ck ns) {a b : Nat} (ha : a < ns.length) (hb : b < ns.length) (h : (nd ns a).id = (nd ns b).id) : a = b := by
  rcases Nat.lt_trichotomy a b with h1 | h1 | h1
  ·have := hr a b h1 hb; omega
  ·exact h1
  have := hr b a h1 ha; omega
theorem DA {ns : List aN} {ps : List (Nat × Nat)} {k : Nat} (h : up (ps.map (fP ns)) (nd ns k).id = none) : k ∉ ps.map Prod.fst := by
  unfold up at h
  induction ps with
  | nil => simp
  | cons p ps ih =>
    obtain ⟨a, b⟩ := p
    rw [List.map_cons, fP, List.lookup_cons] at h
    intro hm
    rw [List.map_cons] at hm
    rcases List.mem_cons.1 hm with e | hm
    ·subst e
     simp at h
    by_cases e : ((nd ns k).id == (nd ns a).id) = true
    ·rw [e] at h; cases h
    have e : ((nd ns k).id == (nd ns a).id) = false := by simpa using e
    rw [e] at h
    exact ih h hm
theorem DB {ns : List aN} {ps : List (Nat × Nat)} {k : Nat} {y : Int} (hr : ck ns) (hk : k < ns.length) (hp : ∀ p, p ∈ ps → p.1 < ns.length) (h : up (ps.map (fP ns)) (nd ns k).id = some y) : k ∈ ps.map Prod.fst ∧ ∃ p, p ∈ ps ∧ p.1 = k ∧ y = (nd ns p.2).id := by
  unfold up at h
  induction ps with
  | nil => cases h
  | cons p ps ih =>
    obtain ⟨a, b⟩ := p
    rw [List.map_cons, fP, List.lookup_cons] at h
    by_cases e : ((nd ns k).id == (nd ns a).id) = true
    ·rw [e] at h
     cases h
     have : k = a := hr.inj hk (hp (a, b) (List.mem_cons_self ..)) (by simpa using e)
     subst this
     exact ⟨by simp, (k, b), List.mem_cons_self .., rfl, rfl⟩
    have e : ((nd ns k).id == (nd ns a).id) = false := by simpa using e
    rw [e] at h
    obtain ⟨h1, q, hq, h2⟩ := ih (fun p hp' => hp p (List.mem_cons_of_mem _ hp')) h
    exact ⟨by rw [List.map_cons]; exact List.mem_cons_of_mem _ h1, q, List.mem_cons_of_mem _ hq, h2⟩
def bf (A : Option Addr) (ns : List aN) (k : Nat) (z : Int) : Option Value := if 0 ≤ mM ns z ∧ mM ns z < k then some (.pointer (some ⟨av A, au A + tgt ns z * 10, none⟩)) else none
structure rV (ns : List aN) (i : Nat) (ps : List (Nat × Nat)) : Prop where
  ah : ∀ j, j < (nd ns i).ah.length → lg ns i j
  nodup : ((ct ns i (nd ns i).ah.length ++ ps).map Prod.fst).Nodup
theorem MT {A : Option Addr} {ns : List aN} {k : Nat} {z : Int} (h : 0 ≤ mM ns z) (hk : tgt ns z < k) : mf (bf A ns k) (.int .i64 z) = some (.pointer (some ⟨av A, au A + tgt ns z * 10, none⟩)) :=
  if_pos ⟨h, by rw [(kP h).2.2]; omega⟩
theorem Ka {A : Option Addr} {ns : List aN} {k : Nat} {z : Int} (h : ¬ 0 ≤ mM ns z) : mf (bf A ns k) (.int .i64 z) = none := if_neg (fun e => h e.1)
theorem BJ (ns : List aN) (i j : Nat) : (ct ns i j).length ≤ j := by
  induction j with
  | zero => exact Nat.le_refl _
  | succ j ih =>
    rw [ct, List.length_append]
    have : (BI ns i j).length ≤ 1 := by
      unfold BI
      split <;> simp
    omega
theorem qo {ns : List aN} {i j : Nat} (h : ¬ (nd ns (tgt ns (ent ns i j).id)).kind = 2) : ct ns i (j + 1) = ct ns i j := by
  rw [ct, BI, if_neg h]; rfl
theorem mT {ns : List aN} {i j : Nat} (h : (nd ns (tgt ns (ent ns i j).id)).kind = 2) : ct ns i (j + 1) = (tgt ns (ent ns i j).id, i) :: ct ns i j := by
  rw [ct, BI, if_pos h]; rfl
theorem C5 {ns : List aN} {i j : Nat} {ps : List (Nat × Nat)} (h : rV ns i ps) (hj : j < (nd ns i).ah.length) (hk : (nd ns (tgt ns (ent ns i j).id)).kind = 2) : tgt ns (ent ns i j).id ∉ (ct ns i j ++ ps).map Prod.fst := by
  obtain ⟨l, hl⟩ := FE (ns := ns) (i := i) (show j + 1 ≤ (nd ns i).ah.length from hj)
  have h1 := h.nodup
  rw [hl, List.append_assoc] at h1
  have h2 := tH h1
  rw [mT hk, List.cons_append, List.map_cons] at h2
  exact (List.nodup_cons.1 h2).1
theorem Hw {ns : List aN} {i j : Nat} {ps : List (Nat × Nat)} (hat : 0 ≤ mM ns (ent ns i j).id) (hk : (nd ns (tgt ns (ent ns i j).id)).kind = 2) :
    jK (mf (pf ((ct ns i j ++ ps).map (fP ns)))) (.int .i64 (ent ns i j).id) (some (.int .i64 (nd ns i).id)) = mf (pf ((ct ns i (j + 1) ++ ps).map (fP ns))) := by
  rw [BB, mT hk, List.cons_append, List.map_cons, fP, (kP hat).2.1, J8]
theorem Hy {ns : List aN} {i j : Nat} {ps : List (Nat × Nat)} {f : Lit → Option Value} {kl : Lit} (hf : f kl = none) (hk : (nd ns (tgt ns (ent ns i j).id)).kind = 2) :
    (if (f kl).isSome then (ct ns i j ++ ps).length else (ct ns i j ++ ps).length + 1) = (ct ns i (j + 1) ++ ps).length := by
  rw [hf, mT hk]
  rfl
theorem Ee {ns : List aN} {i j : Nat} {ps : List (Nat × Nat)} (hat : 0 ≤ mM ns (ent ns i j).id) (hk : (nd ns (tgt ns (ent ns i j).id)).kind = 2) (hup : up ((ct ns i j ++ ps).map (fP ns)) (ent ns i j).id = none) (h : ((ct ns i j ++ ps).map Prod.fst).Nodup) :
    ((ct ns i (j + 1) ++ ps).map Prod.fst).Nodup := by
  rw [mT hk, List.cons_append, List.map_cons]
  refine List.nodup_cons.2 ⟨?_, h⟩
  refine DA (ns := ns) ?_
  rw [(kP hat).2.1]
  exact hup
theorem BK {ns : List aN} {i j : Nat} (h : ∀ t, t < j → lg ns i t) : ∀ p, p ∈ ct ns i j → p.1 < ns.length ∧ p.2 = i := by
  induction j with
  | zero => intro p hp; cases hp
  | succ j ih =>
    intro p hp
    rw [ct] at hp
    rcases List.mem_append.1 hp with hp | hp
    ·unfold BI at hp
     split at hp
     ·rw [List.mem_singleton.1 hp]
      exact ⟨(kP (h j (Nat.lt_succ_self j)).at_).1, rfl⟩
     cases hp
    exact ih (fun t ht => h t (by omega)) p hp
theorem C6 {ns : List aN} {i j : Nat} {ps : List (Nat × Nat)} {y : Int} (hr : ck ns) (hps : ∀ p, p ∈ ps → p.1 < ns.length) (hok : ∀ t, t < j → lg ns i t) (hat : 0 ≤ mM ns (ent ns i j).id) (hk : (nd ns (tgt ns (ent ns i j).id)).kind = 2)
    (hup : up ((ct ns i j ++ ps).map (fP ns)) (ent ns i j).id = some y) (hj : j < (nd ns i).ah.length) : ¬ rV ns i ps := fun h => by
  refine C5 h hj hk ?_
  rw [← (kP hat).2.1] at hup
  refine (DB hr (kP hat).1 (fun p hp => ?_) hup).1
  rcases List.mem_append.1 hp with hp | hp
  ·exact (BK hok p hp).1
  exact hps p hp
end
section
open Go.RowKit
structure Th where
  k : Nat
  kind : Int
deriving Inhabited, DecidableEq
abbrev dR (α : Type) := List (ByteArray × α)
structure aS where
  id : Int
  mode : Int
  uid : Int
  gid : Int
  sec : Int
  nano : Int
  links : Int
  opens : Int
  gone : Bool
  kind : Int
  data : List UInt8
  target : ByteArray
  ah : dR Th
  up : Option Nat
deriving Inhabited
abbrev bM := Nat → aS
def obj (O : bM) (k : Nat) : aS := O k
def aB (O : bM) (k : Nat) (f : aS → aS) : bM := fun i => if i = k then f (O i) else O i
section jK
variable {O : bM} {k j : Nat} {f g : aS → aS}
theorem bH : obj (aB O k f) k = f (obj O k) := if_pos rfl
theorem bS (h : j ≠ k) : obj (aB O k f) j = obj O j := if_neg h
theorem iZ : obj (aB O k f) j = if j = k then f (obj O j) else obj O j := rfl
theorem Kb (h : f (obj O k) = obj O k) : aB O k f = O := by
  funext i
  show (if i = k then f (O i) else O i) = O i
  split
  ·rename_i e; subst e; exact h
  rfl
theorem qp : aB (aB O k f) k g = aB O k (fun o => g (f o)) := by
  funext i
  show (if i = k then g (if i = k then f (O i) else O i) else (if i = k then f (O i) else O i)) = if i = k then g (f (O i)) else O i
  split <;> rfl
end jK
section ah
variable {α : Type} {n p : ByteArray} {t : α} {es : dR α}
def aU (n : ByteArray) (es : dR α) : Option α := (es.find? (fun e => decide (e.1 = n))).map (·.2)
def eH (n : ByteArray) (t : α) : dR α → dR α
  | [] => [(n, t)]
  | e :: r => if ¬ iU e.1 n then (n, t) :: e :: r else e :: eH n t r
def eX (n : ByteArray) (es : dR α) : dR α := es.filter (fun e => decide (e.1 ≠ n))
theorem fQ {e : ByteArray × α} : aU n (e :: es) = if e.1 = n then some e.2 else aU n es := by
  unfold aU
  rw [List.find?_cons]
  by_cases h : e.1 = n
  ·rw [if_pos h]; simp [h]
  rw [if_neg h]; simp [h]
theorem rW : aU n es = none ↔ ∀ e ∈ es, e.1 ≠ n := by
  unfold aU
  rw [Option.map_eq_none_iff, List.find?_eq_none]
  simp
theorem j9 {es : dR α} (h : aU n es = some t) : (n, t) ∈ es := by
  unfold aU at h
  obtain ⟨e, h1, h2⟩ := Option.map_eq_some_iff.1 h
  have h3 := List.find?_some h1
  have h4 := List.mem_of_find?_eq_some h1
  obtain ⟨a, b⟩ := e
  simp at h3 h2
  subst h3 h2
  exact h4
theorem BL : ∀ {es : dR α}, (eH n t es).length = es.length + 1
  | [] => rfl
  | e :: r => by
    unfold eH
    split
    ·rfl
    rw [List.length_cons, BL]; rfl
theorem tI (hn : aU n es = none) : aU p (eH n t es) = if p = n then some t else aU p es := by
  induction es with
  | nil =>
    rw [eH, fQ]
    by_cases h : n = p
    ·rw [if_pos h, if_pos h.symm]
    rw [if_neg h, if_neg (fun e => h e.symm)]
  | cons e r ih =>
    rw [fQ] at hn
    have he : ¬ e.1 = n := fun h => by rw [if_pos h] at hn; cases hn
    rw [if_neg he] at hn
    rw [eH]
    split
    ·rw [fQ]
     by_cases h : n = p
     ·rw [if_pos h, if_pos h.symm]
     rw [if_neg h, if_neg (fun e => h e.symm)]
    rw [fQ, ih hn, fQ]
    by_cases h : p = n
    ·subst h; rw [if_neg he, if_pos rfl, if_pos rfl]
    rw [if_neg h, if_neg h]
theorem nN : aU p (eX n es) = if p = n then none else aU p es := by
  induction es with
  | nil => simp [eX, aU]
  | cons e r ih =>
    unfold eX at ih ⊢
    rw [List.filter_cons]
    by_cases h : e.1 = n
    ·rw [if_neg (by simp [h]), ih, fQ]
     by_cases hp : p = n
     ·rw [if_pos hp, if_pos hp]
     rw [if_neg hp, if_neg hp, if_neg (fun e2 => hp (e2.symm.trans h))]
    rw [if_pos (by simp [h]), fQ, ih, fQ]
    by_cases hp : p = n
    ·subst hp; rw [if_neg h, if_pos rfl, if_pos rfl]
    rw [if_neg hp, if_neg hp]
def lS (es : dR α) : Prop := es.Pairwise (fun a b => a.1 ≠ b.1)
theorem Hz {es : dR α} (hd : lS es) (h : aU n es = some t) : (eX n es).length + 1 = es.length := by
  induction es with
  | nil => cases h
  | cons e r ih =>
    obtain ⟨h1, h2⟩ := List.pairwise_cons.1 hd
    rw [fQ] at h
    unfold eX at ih ⊢
    rw [List.filter_cons]
    by_cases he : e.1 = n
    ·rw [if_neg (by simp [he])]
     have : r.filter (fun e => decide (e.1 ≠ n)) = r := List.filter_eq_self.2 (fun x hx => by have := h1 x hx; simp; exact fun e2 => this (he.trans e2.symm))
     rw [this]; rfl
    rw [if_pos (by simp [he])]
    rw [if_neg he] at h
    rw [List.length_cons, List.length_cons, ih h2 h]
theorem vZ {e : ByteArray × α} : ∀ {es : dR α}, e ∈ eH n t es ↔ e = (n, t) ∨ e ∈ es
  | [] => by simp [eH]
  | x :: r => by
    unfold eH
    split
    ·simp
    rw [List.mem_cons, vZ, List.mem_cons]
    constructor
    ·rintro (h | h | h)
     ·exact .inr (.inl h)
     ·exact .inl h
     exact .inr (.inr h)
    rintro (h | h | h)
    ·exact .inr (.inl h)
    ·exact .inl h
    exact .inr (.inr h)
end ah
end
section
open Go.RowKit
section mark
variable {P : Program} {β : Bs} {N : Nat} {ops : Array Oper} {k : Nat} {fr : Fr} {hps : List HP} {Q : Post} {d : Option Tmp}
end mark
section adds
variable {P : Program} {β : Bs} {N : Nat} {ops : Array Oper} {e0 k : Nat} {fr : Fr} {hps : List HP} {Q : Post} {d : Option Tmp} {t t2 : TypeId} {x y : Operand} {a b : ByteArray}
end adds
theorem aF.cellAt {e : TypeId} {A : Option Addr} {size n cap i j : Nat} {xs : List Value} {u : Value} (hi : i < n) (hj : xs[i * size + j]? = some u) : ∀ F w, (aF e size A n cap xs).h F w → w.cell? ⟨av A, au A + i * size + j, none⟩ = some u := by
  intro F w h
  obtain ⟨g, rfl⟩ := aF.head h (by omega)
  have := aF.cell hj F w h
  show w.cell? ⟨g, 0 + i * size + j, none⟩ = some u
  rw [Nat.zero_add]
  exact this
def lu (a b : ByteArray) : Int := Lib.compareBytes a.data.toList b.data.toList
theorem zS : ∀ a : List UInt8, Lib.compareBytes a a = 0
  | [] => rfl
  | a :: r => by
    have h : ¬ a < a := by intro h; exact absurd h (by simp)
    simp only [Lib.compareBytes, if_neg h]
    exact zS r
theorem zT : ∀ {a b : List UInt8}, Lib.compareBytes a b = 0 → a = b
  | [], [], _ => rfl
  | [], _ :: _, h => by simp [Lib.compareBytes] at h
  | _ :: _, [], h => by simp [Lib.compareBytes] at h
  | a :: x, b :: y, h => by
    unfold Lib.compareBytes at h
    split at h
    ·cases h
    rename_i h1
    split at h
    ·cases h
    rename_i h2
    have e : a = b := by
      apply UInt8.toNat_inj.1
      have h3 : ¬ a.toNat < b.toNat := fun h => h1 (UInt8.lt_iff_toNat_lt.2 h)
      have h4 : ¬ b.toNat < a.toNat := fun h => h2 (UInt8.lt_iff_toNat_lt.2 h)
      omega
    rw [e, zT h]
theorem zU : ∀ {a b : List UInt8}, Lib.compareBytes a b < 0 ↔ Op.bytesLess a b = true
  | [], [] => by simp [Lib.compareBytes, Op.bytesLess]
  | [], _ :: _ => by simp [Lib.compareBytes, Op.bytesLess]
  | _ :: _, [] => by simp [Lib.compareBytes, Op.bytesLess]
  | a :: x, b :: y => by
    unfold Lib.compareBytes Op.bytesLess
    by_cases h1 : a < b
    ·simp [h1]
    by_cases h2 : b < a
    ·have h3 : ¬ a = b := fun e => by subst e; exact h1 h2
     simp [h1, h2, h3]
    have e : a = b := by
      apply UInt8.toNat_inj.1
      have h3 : ¬ a.toNat < b.toNat := fun h => h1 (UInt8.lt_iff_toNat_lt.2 h)
      have h4 : ¬ b.toNat < a.toNat := fun h => h2 (UInt8.lt_iff_toNat_lt.2 h)
      omega
    subst e
    simp only [h1, if_false, decide_false, beq_self_eq_true, Bool.true_and, Bool.false_or]
    exact zU
theorem wV : ∀ {a b c : List UInt8}, Lib.compareBytes a b < 0 → Lib.compareBytes b c ≤ 0 → Lib.compareBytes a c < 0
  | [], [], _, h, _ => by simp [Lib.compareBytes] at h
  | [], _ :: _, [], _, h => by simp [Lib.compareBytes] at h
  | [], _ :: _, _ :: _, _, _ => by simp [Lib.compareBytes]
  | _ :: _, [], _, h, _ => by simp [Lib.compareBytes] at h
  | _ :: _, _ :: _, [], _, h => by simp [Lib.compareBytes] at h
  | a :: x, b :: y, c :: z, h, g => by
    unfold Lib.compareBytes at h g ⊢
    by_cases h1 : a < b
    ·by_cases g1 : b < c
     ·have : a < c := by rw [UInt8.lt_iff_toNat_lt] at *; omega
      simp [this]
     by_cases g2 : c < b
     ·simp [g1, g2] at g
     have e : b = c := by
       apply UInt8.toNat_inj.1
       rw [UInt8.lt_iff_toNat_lt] at *
       omega
     subst e
     simp [h1]
    by_cases h2 : b < a
    ·simp [h1, h2] at h
    have e : a = b := by
      apply UInt8.toNat_inj.1
      rw [UInt8.lt_iff_toNat_lt] at *
      omega
    subst e
    simp only [h1, if_false] at h
    by_cases g1 : a < c
    ·simp [g1]
    by_cases g2 : c < a
    ·simp [g1, g2] at g
    simp only [g1, g2, if_false] at g ⊢
    exact wV h g
theorem zV : ∀ {a b : List UInt8}, Lib.compareBytes b a = - Lib.compareBytes a b
  | [], [] => rfl
  | [], _ :: _ => rfl
  | _ :: _, [] => rfl
  | a :: x, b :: y => by
    unfold Lib.compareBytes
    by_cases h1 : a < b
    ·have h2 : ¬ b < a := by rw [UInt8.lt_iff_toNat_lt] at *; omega
     simp [h1, h2]
    by_cases h2 : b < a
    ·simp [h1, h2]
    simp only [h1, h2, if_false]
    exact zV
theorem zW (a : ByteArray) : lu a a = 0 := zS _
theorem zX {a b : ByteArray} : lu a b = 0 ↔ a = b := by
  refine ⟨fun h => ?_, fun h => by rw [h]; exact zW b⟩
  have := zT h
  obtain ⟨⟨a⟩⟩ := a
  obtain ⟨⟨b⟩⟩ := b
  have this : a = b := this
  rw [this]
theorem wW {a b c : ByteArray} (h : lu a b < 0) (g : lu b c ≤ 0) : lu a c < 0 := wV h g
theorem tJ (a b : ByteArray) : lu b a = - lu a b := zV
end
section
open Go.RowKit
def NP (Q : Post) : Post := fun e a w => match e with
  | .normal => Q .normal a w
  | _ => False
section order
variable {P : Program} {ops : Array Oper} {Q Q' : Post} {n : Nat} {S : World → Prop}
theorem mq (h : LetsOut (NP Q)) : False := by
  obtain ⟨a, w, h⟩ := h
  exact h
theorem AR {o : Oper} {a : Act} {w : World} {K : Act → World → Prop} (h : o.wp P a w K (NP Q)) : o.wp P a w K (NP Q') := by
  unfold Oper.wp at *
  generalize (execOp a.eval o).run P w = r at *
  cases r with
  | ok m w' =>
    cases m <;> simp only [Oper.upon] at h ⊢ <;>
      first
        | exact h
        | exact Calls.mono h (fun e w'' he => by cases e <;> first | exact he | exact (mq he).elim)
  | halt x w' => cases x <;> simp only [Oper.upon] at h ⊢; exact h
theorem fw {i : Nat} {o : Oper} {a : Act} {w : World} {K : Act → World → Prop} (hi : ops[i]? = some o) (hg : o.guard = none) (h : wpList P #[o] (NP fun _ a w => K a w) [o] a w) : wpOp P ops (NP Q) i K a w := by
  unfold wpOp
  simp only [hi]
  have hw : ∀ y, Region.wanted o y = true := fun y => by unfold Region.wanted; rw [hg]
  rw [if_pos (hw _)]
  unfold wpList at h
  rw [if_pos (hw _)] at h
  rcases h with h | ⟨_, h⟩
  ·exact .inl (AR (Oper.wp_mono (fun a w h => h) h))
  exact (mq h).elim
theorem ij {o : Oper} {a : Act} {w : World} (hq : ∀ a w, Q .normal a w → Q' .normal a w) (h : wpList P ops (NP Q) [o] a w) : wpList P ops (NP Q') [o] a w := by
  unfold wpList at *
  split
  ·rename_i hw
   rw [if_pos hw] at h
   rcases h with h | ⟨_, h⟩
   ·exact .inl (AR (Oper.wp_mono (fun a w h => hq a w h) h))
   exact (mq h).elim
  rename_i hw
  rw [if_neg hw] at h
  exact hq _ _ h
def jk (P : Program) (ops : Array Oper) (Q : Post) (n : Nat) (S : World → Prop) : Nat → Array Bool → Act → World → Prop
  | 0, listed, a, w => Region.ready .any ops listed = [] ∧ Q .normal a w
  | fuel + 1, listed, a, w => (Region.ready .any ops listed = [] → Q .normal a w) ∧
    ∀ i ∈ Region.ready .any ops listed, wpOp P ops Q i (fun a' w' => (i = n ∨ S w') ∧ jk P ops Q n S fuel (listed.setIfInBounds i true) a' w') a w
theorem mr : ∀ (fuel : Nat) (listed : Array Bool) (a : Act) (w : World), jk P ops Q n S fuel listed a w → wpAny P .any ops Q fuel listed a w
  | 0, _, _, _, h => h
  | fuel + 1, _, _, _, h => ⟨h.1, fun i hi => wpOp_mono (fun a' w' h' => mr fuel _ a' w' h'.2) (h.2 i hi)⟩
def Closed (ops : Array Oper) (listed : Array Bool) : Prop := ∀ j oj, ops[j]? = some oj → listed.getD j false = true → ∀ e ∈ oj.after, Region.binds .any e = true → listed.getD e.on false = true
theorem Closed.set {listed : Array Bool} {j : Nat} (h : Closed ops listed) (hj : j ∈ Region.ready .any ops listed) : Closed ops (listed.setIfInBounds j true) := by
  obtain ⟨_, oj, hoj, hall⟩ := mem_ready.1 hj
  intro k ok hk hl e he hb
  refine getD_set_true ?_
  by_cases hjk : j = k
  ·subst hjk
   rw [hoj] at hk
   cases hk
   exact hall e he hb
  rw [getD_set_ne false hjk] at hl
  exact h k ok hk hl e he hb
theorem zY (hs : Region.sinkB .any ops n = true) {listed : Array Bool} (hc : Closed ops listed) : ∀ (m i : Nat), n - i ≤ m → i < n → listed.getD i false = false → n ∉ Region.ready .any ops listed
  | 0, i, hm, hi, _ => by omega
  | m + 1, i, hm, hi, hu => fun hr => by
    unfold Region.sinkB at hs
    rw [List.all_eq_true] at hs
    have h1 := hs i (List.mem_range.2 hi)
    rw [List.any_eq_true] at h1
    obtain ⟨j, hj, h2⟩ := h1
    rw [Bool.and_eq_true, decide_eq_true_iff] at h2
    have hj := List.mem_range.1 hj
    obtain ⟨oj, hoj, e, he, hb, heq⟩ := Region.waitsFor_spec h2.2
    by_cases hjn : j = n
    ·subst hjn
     obtain ⟨_, oj', K8, hall⟩ := mem_ready.1 hr
     rw [hoj] at K8
     cases K8
     have := hall e he hb
     rw [heq, hu] at this
     cases this
    cases hl : listed.getD j false with
    | true =>
      have := hc j oj hoj hl e he hb
      rw [heq, hu] at this
      cases this
    | false => exact zY (by unfold Region.sinkB; rw [List.all_eq_true]; exact hs) hc m j (by omega) (by omega) hl hr
theorem ou {listed : Array Bool} {i : Nat} (h : i ∈ Region.ready .any ops listed) : listed.getD i false = false := by
  have h1 := (mem_ready.1 h).1
  rcases Nat.lt_or_ge i listed.size with h' | h'
  ·simp [h'] at h1 ⊢; exact h1
  simp [Array.getElem?_eq_none h'] at h1
theorem pG {i : Nat} {oi : Oper} {v : Value} (hi : ops[i]? = some oi) (hsel : Region.noSelect ops = true) (mw : Region.sinkB .any ops n = true) (hin : i < n) :
    ∀ (fuel : Nat) (listed : Array Bool) (a : Act) (w : World), Closed ops listed →
      (∀ j oj, ops[j]? = some oj → j ≠ i → listed.getD j true = false → (∀ e ∈ oj.after, Region.binds .any e = true → e.on ≠ i) → oi.apart ops oj = true) →
      i ∈ Region.ready .any ops listed → YieldsIf P ops S oi v a → S w →
      jk P ops (NP Q) n S fuel (listed.setIfInBounds i true) (a.put oi.dst v) w → jk P ops (NP Q) n S (fuel + 1) listed a w := by
  intro fuel
  induction fuel with
  | zero =>
    intro listed a w _ _ hr hy hS H
    refine ⟨fun h => (by rw [h] at hr; cases hr), fun j hj => ?_⟩
    by_cases hji : j = i
    ·subst hji; exact hy.wpOp hi hS ⟨.inr hS, H⟩
    have := ready_mono hj hji
    rw [H.1] at this
    cases this
  | succ fuel ih =>
    intro listed a w hcl hfree hr hy hS H
    refine ⟨fun h => (by rw [h] at hr; cases hr), fun j hj => ?_⟩
    by_cases hji : j = i
    ·subst hji; exact hy.wpOp hi hS ⟨.inr hS, H⟩
    have h1 := H.2 j (ready_mono hj hji)
    have hjn : j ≠ n := fun e => by
      subst e
      exact zY mw hcl _ i (Nat.le_refl _) hin (ou hr) hj
    obtain ⟨hjun, oj, hoj, hall⟩ := mem_ready.1 hj
    have hnot : ∀ e ∈ oj.after, Region.binds .any e = true → e.on ≠ i := fun e he hb heq => by
      have h2 := hall e he hb
      rw [heq, ou hr] at h2
      cases h2
    have h2 := wpOp_putIf (S := S) (Q := NP Q) hoj (hfree j oj hoj hji hjun hnot) (fun cs b => Region.noSelect_spec hsel i oi cs b hi) (fun cs b => Region.noSelect_spec hsel j oj cs b hoj) (fun _ _ _ h => h) hy h1
    have hfree' : ∀ k ok, ops[k]? = some ok → k ≠ i → (listed.setIfInBounds j true).getD k true = false →
        (∀ e ∈ ok.after, Region.binds .any e = true → e.on ≠ i) → oi.apart ops ok = true := fun k ok hk hki hun hno => by
      refine hfree k ok hk hki ?_ hno
      by_cases hjk : j = k
      ·subst hjk; exact hjun
      rw [getD_set_ne true hjk] at hun; exact hun
    refine wpOp_mono (fun a' w' h3 => ?_) h2
    have cK : S w' := h3.2.1.resolve_left hjn
    refine ⟨.inr cK, ih (listed.setIfInBounds j true) a' w' (hcl.set hj) hfree' (ready_mono hr (Ne.symm hji)) h3.1 cK ?_⟩
    rw [Array.setIfInBounds_comm _ _ hji]
    exact h3.2.2
def kD (P : Program) (ops : Array Oper) (Q : Post) (S : World → Prop) : Nat → List Nat → Act → World → Prop
  | _, [], a, w => Q .normal a w
  | 0, i :: l, a, w => wpOp P ops Q i (fun a' w' => (l = [] ∨ S w') ∧ kD P ops Q S 0 l a' w') a w
  | r + 1, i :: l, a, w => ∃ o v, ops[i]? = some o ∧ YieldsIf P ops S o v a ∧ kD P ops Q S r l (a.put o.dst v) w
def rX (ops : Array Oper) (n : Nat) : Nat → List Nat → Array Bool → Bool
  | _, [], listed => (Region.ready .any ops listed).isEmpty
  | 0, i :: l, listed => (Region.ready .any ops listed == [i]) && (!l.isEmpty || i == n) && rX ops n 0 l (listed.setIfInBounds i true)
  | r + 1, i :: l, listed => decide (i < n) && Region.free .any ops listed i && (Region.ready .any ops listed).contains i && rX ops n r l (listed.setIfInBounds i true)
theorem zZ (hsel : Region.noSelect ops = true) : ∀ (l : List Nat) (listed : Array Bool) (a : Act) (w : World), rX ops n 0 l listed = true → kD P ops (NP Q) S 0 l a w → jk P ops (NP Q) n S l.length listed a w
  | [], listed, a, w, hb, h => ⟨List.isEmpty_iff.1 hb, h⟩
  | i :: l, listed, a, w, hb, h => by
    unfold rX at hb
    simp only [Bool.and_eq_true, beq_iff_eq] at hb
    obtain ⟨⟨h1, h2⟩, h3⟩ := hb
    refine ⟨fun h0 => (by rw [h1] at h0; cases h0), fun j hj => ?_⟩
    rw [h1] at hj
    have hj : j = i := by simpa using hj
    subst hj
    refine wpOp_mono (fun a' w' h4 => ⟨?_, zZ hsel l _ a' w' h3 h4.2⟩) h
    rcases h4.1 with h5 | h5
    ·subst h5; exact .inl (by simpa using h2)
    exact .inr h5
theorem yS (hsel : Region.noSelect ops = true) (mw : Region.sinkB .any ops n = true) : ∀ (r : Nat) (l : List Nat) (listed : Array Bool) (a : Act) (w : World), rX ops n r l listed = true → Closed ops listed → S w → kD P ops (NP Q) S r l a w → jk P ops (NP Q) n S l.length listed a w
  | 0, l, listed, a, w, hb, _, _, h => zZ hsel l listed a w hb h
  | r + 1, [], listed, a, w, hb, _, _, h => ⟨List.isEmpty_iff.1 hb, h⟩
  | r + 1, i :: l, listed, a, w, hb, hc, hS, h => by
    unfold rX at hb
    simp only [Bool.and_eq_true, decide_eq_true_iff] at hb
    obtain ⟨⟨⟨h1, h2⟩, h3⟩, h4⟩ := hb
    obtain ⟨o, v, ho, hy, hk⟩ := h
    have hr : i ∈ Region.ready .any ops listed := by simpa using h3
    exact pG ho hsel mw h1 l.length listed a w hc (Region.free_spec ho h2) hr hy hS (yS hsel mw r l _ _ w h4 (hc.set hr) hS hk)
def wX (ops : Array Oper) (perm : List Nat) (nr : Nat) : Bool :=
  Region.noSelect ops && Region.sinkB .any ops (ops.size - 1) && (perm.length == ops.size) && rX ops (ops.size - 1) nr perm (Array.replicate ops.size false)
end order
section mix
variable {P : Program} {β : Bs} {N : Nat} {ops : Array Oper} {S : List HP} {r r' : Nat} {l l' : List Nat} {fr fr' : Fr} {hps : List HP} {Q : Post} {aq : List Prop} {d : Option Tmp} {op : Op} {v : Value} {i : Nat} {pk : List Nat}
def aJ (P : Program) (β : Bs) (N : Nat) (ops : Array Oper) (S : List HP) (r : Nat) (l : List Nat) (fr : Fr) (hps : List HP) (Q : Post) : Prop :=
  ∀ junk w, Sat β hps w → kD P ops (NP Q) (Sat β S) r l (cC N fr junk) w
theorem af.bZ {id : Nat} (perm : List Nat) (nr : Nat) (pk : List Nat) (hm : P.follows .mixedOrders = true) (hB : wX ops perm nr = true) (hn : nodupB pk = true) (hp : bN hps pk = some S) (h : aJ P β N ops S nr perm fr hps Q) : af P β N (.region id ops true) fr hps Q := by
  intro junk w hS
  unfold wX at hB
  simp only [Bool.and_eq_true, beq_iff_eq] at hB
  obtain ⟨⟨⟨h1, h2⟩, h3⟩, h4⟩ := hB
  have cK := hS.drewN 1
  have h5 := yS (Q := Q) h1 h2 nr perm _ _ _ h4 (fun j oj _ hl => by simp [Array.getD_eq_getD_getElem?, Array.getElem?_replicate] at hl; split at hl <;> simp at hl) (cK.pick hn hp) (h junk (w.drewN 1) cK)
  rw [h3] at h5
  refine Code.wp_mono (fun e a w q => ?_) (wp_region_any hm (mr _ _ _ _ h5))
  cases e with
  | normal => exact q
  | exit id => exact q.elim
  | goto l => exact q.elim
  | ret => exact q.elim
  | panic ch => exact q.elim
  | outgrown => exact q.elim
def tK : Value → Bool
  | .tuple a => decide (a.size ≠ 0)
  | _ => true
theorem qq {v : Value} (h : tK v = true) : ¬ v = undef := fun e => by subst e; exact absurd h (by decide)
def nO (P : Program) (β : Bs) (N : Nat) (junk : Nat → Value) (ops : Array Oper) : List OH → List Nat → Fr → SS → Option (Fr × SS)
  | [], [], fr, S => some (fr, S)
  | h :: hs, i :: is, fr, S =>
    match ops[i]? with
    | some o =>
      match o.guard with
      | none =>
        match o7 P β 0 true (cD N fr junk) o h S with
        | some (v, S') =>
          match tK v with
          | true => nO P β N junk ops hs is (cJ fr o.dst v) S'
          | false => none
        | none => none
      | some _ => none
    | none => none
  | _, _, _, _ => none
def uO (P : Program) (β : Bs) (N : Nat) (junk : Nat → Value) (ops : Array Oper) (hs : List OH) (is : List Nat) (fr : Fr) (S : List HP) (idx : List Nat) : Option (Fr × List Prop) :=
  match nO P β N junk ops hs is fr ⟨[], S, [], true⟩ with
  | some (fr', S') => some (gZ fr' junk idx, S'.aq)
  | none => none
theorem rY {junk : Nat → Value} : ∀ {hs : List OH} {is : List Nat} {fr fr' : Fr} {S S' : SS}, nO P β N junk ops hs is fr S = some (fr', S') → ∀ p, p ∈ S.aq → p ∈ S'.aq
  | [], [], fr, fr', S, S', h, p, hp => by cases h; exact hp
  | h :: hs, i :: is, fr, fr', S, S', hr, p, hp => by
    unfold nO at hr
    repeat' split at hr
    all_goals first | (cases hr; done) | skip
    rename_i h0 _ _
    exact rY hr p (vN h0 p hp)
  | [], _ :: _, _, _, _, _, h, _, _ => by cases h
  | _ :: _, [], _, _, _, _, h, _, _ => by cases h
theorem tL {junk : Nat → Value} {w : World} : ∀ {hs : List OH} {is : List Nat} {fr fr' : Fr} {T T' : SS}, nO P β N junk ops hs is fr T = some (fr', T') → (∀ p, p ∈ T'.aq → p) → T.used = true → T.hps = S →
    kD P ops (NP Q) (Sat β S) r l (cC N fr' junk) w → kD P ops (NP Q) (Sat β S) (is.length + r) (is ++ l) (cC N fr junk) w
  | [], [], fr, fr', T, T', h, ho, hu, hT, hK => by cases h; simpa using hK
  | h :: hs, i :: is, fr, fr', T, T', hr, ho, hu, hT, hK => by
    unfold nO at hr
    repeat' split at hr
    all_goals first | (cases hr; done) | skip
    rename_i o hget _ BM _ v T1 h0 _ hv
    obtain ⟨e1, e2⟩ := q4 h0
    have e : (i :: is).length + r = (is.length + r) + 1 := by simp; omega
    rw [e, List.cons_append]
    unfold kD
    refine ⟨o, v, hget, .inl ⟨by unfold Region.wanted; rw [BM], fun w' cK => ?_⟩, ?_⟩
    ·rw [dw]
     obtain ⟨w2, h1, _, _, h4⟩ := kB h0 (fun p hp => ho p (rY hr p hp)) (by rw [hT]; exact cK) (fun e => by rw [hu] at e; cases e)
     obtain ⟨ew, _⟩ := h4 rfl
     rw [ew] at h1
     rcases h1 with h1 | ⟨h1, _⟩
     ·exact h1
     exact absurd h1 (qq hv)
    rw [di]
    exact tL hr ho (e2.trans hu) (e1.trans hT) hK
  | [], _ :: _, _, _, _, _, h, _, _, _, _ => by cases h
  | _ :: _, [], _, _, _, _, h, _, _, _, _ => by cases h
theorem aJ.reads (is : List Nat) (hs : List OH) (idx : List Nat) (h : ∀ junk, uO P β N junk ops hs is fr S idx = some (fr', aq)) (ho : gU aq) (hr : r' = is.length + r) (hl : l' = is ++ l) (K : aJ P β N ops S r l fr' hps Q) : aJ P β N ops S r' l' fr hps Q := by
  intro junk w hS
  subst hr hl
  have h0 := h junk
  unfold uO at h0
  split at h0
  ·rename_i jg S1 h1
   cases h0
   have hK := K (lk jg junk) w hS
   rw [← gT] at hK
   exact tL h1 (fun p hp => ho.mem hp) rfl rfl hK
  cases h0
def Jw (ops : Array Oper) (i : Nat) : Option (Op × Option Tmp) := match ops[i]? with
  | some o => match o.guard with
    | none => some (o.op, o.dst)
    | some _ => none
  | none => none
theorem HB (h : Jw ops i = some (op, d)) : ∃ o, ops[i]? = some o ∧ o.guard = none ∧ o.op = op ∧ o.dst = d := by
  unfold Jw at h
  repeat' split at h
  all_goals first | (cases h; done) | skip
  rename_i o h1 _ h2
  cases h
  exact ⟨o, h1, h2, rfl, rfl⟩
theorem aJ.MU (hop : Jw ops i = some (op, d)) (h : ∀ (o : Oper) junk w, o.op = op → Sat β S w → lJ P (cD N fr junk) o w v w) (hv : tK v = true) (K : aJ P β N ops S r l (cJ fr d v) hps Q) : aJ P β N ops S (r + 1) (i :: l) fr hps Q := by
  intro junk w hS
  obtain ⟨o, h1, h2, h3, rfl⟩ := HB hop
  unfold kD
  refine ⟨o, v, h1, .inl ⟨by unfold Region.wanted; rw [h2], fun w' cK => ?_⟩, ?_⟩
  ·rw [dw]
   rcases h o junk w' h3 cK with h4 | ⟨h4, _⟩
   ·exact h4
   exact absurd h4 (qq hv)
  rw [di]
  exact K junk w hS
def jh (β : Bs) (N : Nat) {ι : Type} (fr : ι → Fr) (hp : ι → List HP) : Post := fun _ a w => ∃ i junk, a = cC N (fr i) junk ∧ Sat β (hp i) w
theorem aJ.cut {ι : Type} {fr' : ι → Fr} {hp' : ι → List HP} {o : Oper} (pk : List Nat) (hop : ops[i]? = some o) (hg : o.guard = none) (h : ai P β N #[o] 0 fr hps (NP (jh β N fr' hp'))) (hn : nodupB pk = true) (hp : ∀ j, bN (hp' j) pk = some S)
    (K : ∀ j, aJ P β N ops S 0 l (fr' j) (hp' j) Q) : aJ P β N ops S 0 (i :: l) fr hps Q := by
  intro junk w hS
  unfold kD
  refine fw hop hg ?_
  have h1 := h junk w hS
  have h2 : wpList P #[o] (NP (jh β N fr' hp')) [o] (cC N fr junk) w := h1
  refine ij (fun a w ⟨j, fL, ha, cK⟩ => ?_) h2
  subst ha
  exact ⟨.inr (cK.pick hn (hp j)), K j fL w cK⟩
theorem aJ.last {o : Oper} (hop : ops[i]? = some o) (hg : o.guard = none) (h : ai P β N #[o] 0 fr hps (NP Q)) : aJ P β N ops S 0 [i] fr hps Q := by
  intro junk w hS
  unfold kD
  refine fw hop hg ?_
  have h2 : wpList P #[o] (NP Q) [o] (cC N fr junk) w := h junk w hS
  exact ij (fun a w hq => ⟨.inl rfl, by unfold kD; exact hq⟩) h2
theorem aj.mid {ι : Type} {fr' : ι → Fr} {hp' : ι → List HP} (j : ι) {idx pk : List Nat} (hf : ∀ junk, gZ fr junk idx = fr' j) (hn : nodupB pk = true) (hp : bN hps pk = some (hp' j)) : aj β N (NP (jh β N fr' hp')) .normal fr hps :=
  fun junk _ hS => ⟨j, lk fr junk, by rw [gT N fr junk idx, hf junk], hS.pick hn hp⟩
theorem aj.np (h : aj β N Q .normal fr hps) : aj β N (NP Q) .normal fr hps := fun junk w hS => h junk w hS
section maps
open Go.Maps
variable {t K E : TypeId} {b cnt : Nat} {f : Lit → Option Value} {x ix : Operand} {key z : Value} {kl : Lit} {q : Option Value}
theorem aJ.dN (p : Nat) (hop : Jw ops i = some (.lookup t x ix false, d)) (hp : S[p]? = some (.abs (aH P K b f cnt))) (hx : ∀ junk, cD N fr junk x = .map (some b)) (hix : ∀ junk, cD N fr junk ix = key) (L : Keyed P K)
    (ht : P.underlying t = some (.map K E)) (hz : ∀ w, (zeroValue E).run P w = .ok z w) (hkey : keyOf P K key = some kl) (hr : f kl = q) (hv : tK (q.getD z) = true) (K' : aJ P β N ops S r l (cJ fr d (q.getD z)) hps Q) : aJ P β N ops S (r + 1) (i :: l) fr hps Q := by
  subst hr
  exact aJ.MU hop (fun _ junk w ho hS => rQ ho (aH.get hS hp) (hx junk) (hix junk) L ht (hz w) hkey) hv K'
end maps
end mix
end
section
open Go.RowKit
section sat
variable {β : Bs} {l : List HP} {w : World} {p p1 p2 : HP} {i : Nat}
theorem Sat.MV (h : Sat β l w) (hp : l[i]? = some p) (hs : ∀ F, p.h F w → ∃ F1 F2, p1.h F1 w ∧ p2.h F2 w ∧ Apart F1 F2 ∧ ∀ k, F k ↔ F1 k ∨ F2 k) : Sat β (l.set i p1 ++ [p2]) w := by
  obtain ⟨ho, φ, h1, h2, h3⟩ := h
  obtain ⟨F1, F2, g1, g2, g3, g4⟩ := hs _ (h1 i p hp)
  have hi := bA hp
  have hlen : (l.set i p1 ++ [p2]).length = l.length + 1 := by simp
  refine ⟨ho, fun j => if j = l.length then F2 else if j = i then F1 else φ j, fun j q hq => ?_, fun j hj k hk hO => ?_, fun a b ha hb hne k hk hk' => ?_⟩
  ·by_cases e : j = l.length
   ·subst e
    rw [List.getElem?_append_right (by simp)] at hq
    simp at hq
    subst hq
    simpa using g2
   rw [List.getElem?_append_left (by have := bA hq; rw [hlen] at this; simp; omega)] at hq
   simp only [e, if_false]
   by_cases e2 : j = i
   ·subst e2
    rw [List.getElem?_set_self hi] at hq
    cases hq
    simpa using g1
   rw [List.getElem?_set_ne (fun e' => e2 e'.symm)] at hq
   simp only [e2, if_false]
   exact h1 j q hq
  ·rw [hlen] at hj
   have hF : ∀ k, F1 k ∨ F2 k → β.O k → False := fun k hk hO => h2 i hi k ((g4 k).2 hk) hO
   by_cases e : j = l.length
   ·simp only [e, if_true] at hk; exact hF k (.inr hk) hO
   simp only [e, if_false] at hk
   by_cases e2 : j = i
   ·simp only [e2, if_true] at hk; exact hF k (.inl hk) hO
   simp only [e2, if_false] at hk; exact h2 j (by omega) k hk hO
  rw [hlen] at ha hb
  have key : ∀ j, j < l.length → j ≠ i → ∀ k, F1 k ∨ F2 k → φ j k → False := fun j hj hne k hk hk' => h3 j i hj hi hne k hk' ((g4 k).2 hk)
  by_cases ea : a = l.length
  ·simp only [ea, if_true] at hk
   have eb : ¬ b = l.length := fun e => hne (ea.trans e.symm)
   simp only [eb, if_false] at hk'
   by_cases wY : b = i
   ·simp only [wY, if_true] at hk'; exact g3 k hk' hk
   simp only [wY, if_false] at hk'; exact key b (by omega) wY k (.inr hk) hk'
  simp only [ea, if_false] at hk
  by_cases FI : a = i
  ·simp only [FI, if_true] at hk
   by_cases eb : b = l.length
   ·simp only [eb, if_true] at hk'; exact g3 k hk hk'
   simp only [eb, if_false] at hk'
   have wY : ¬ b = i := fun e => hne (FI.trans e.symm)
   simp only [wY, if_false] at hk'
   exact key b (by omega) wY k (.inl hk) hk'
  simp only [FI, if_false] at hk
  by_cases eb : b = l.length
  ·simp only [eb, if_true] at hk'; exact key a (by omega) FI k (.inr hk') hk
  simp only [eb, if_false] at hk'
  by_cases wY : b = i
  ·simp only [wY, if_true] at hk'; exact key a (by omega) FI k (.inl hk') hk
  simp only [wY, if_false] at hk'; exact h3 a b (by omega) (by omega) hne k hk hk'
theorem Sat.Jx {j : Nat} {idx : List Nat} {l' : List HP} (h : Sat β l w) (hp : l[i]? = some p1) (hq : l[j]? = some p2) (hn : nodupB (i :: j :: idx) = true) (hl : bN l idx = some l') (hs : ∀ F1 F2, p1.h F1 w → p2.h F2 w → Apart F1 F2 → ∃ F, p.h F w ∧ ∀ k, F k → F1 k ∨ F2 k) : Sat β (p :: l') w := by
  have h' := h.pick (idx := i :: j :: idx) (l' := p1 :: p2 :: l') hn (by simp only [bN, hp, hq, hl])
  obtain ⟨ho, φ, h1, h2, h3⟩ := h'
  obtain ⟨F, hF, hk⟩ := hs _ _ (h1 0 p1 rfl) (h1 1 p2 rfl) (h3 0 1 (by simp) (by simp) (by decide))
  have hlen : (p1 :: p2 :: l').length = l'.length + 2 := rfl
  rw [hlen] at h2 h3
  refine ⟨ho, fun j => if j = 0 then F else φ (j + 1), fun j q hq => ?_, fun j hj k hkk hO => ?_, fun a b ha hb hne k hk1 hk2 => ?_⟩
  ·cases j with
   | zero => simp at hq; subst hq; simpa using hF
   | succ j => simpa using h1 (j + 2) q (by simpa using hq)
  ·simp only [List.length_cons] at hj
   cases j with
   | zero =>
     simp only [if_true] at hkk
     rcases hk k hkk with e | e
     ·exact h2 0 (by omega) k e hO
     exact h2 1 (by omega) k e hO
   | succ j => exact h2 (j + 2) (by omega) k (by simpa using hkk) hO
  simp only [List.length_cons] at ha hb
  have key : ∀ j, j < l'.length → F k → φ (j + 2) k → False := fun j hj e1 e2 => by
    rcases hk k e1 with e | e
    ·exact h3 0 (j + 2) (by omega) (by omega) (by omega) k e e2
    exact h3 1 (j + 2) (by omega) (by omega) (by omega) k e e2
  cases a with
  | zero =>
    cases b with
    | zero => exact hne rfl
    | succ b => exact key b (by omega) (by simpa using hk1) (by simpa using hk2)
  | succ a =>
    cases b with
    | zero => exact key a (by omega) (by simpa using hk2) (by simpa using hk1)
    | succ b => exact h3 (a + 2) (b + 2) (by omega) (by omega) (by omega) k (by simpa using hk1) (by simpa using hk2)
end sat
def dL (R : Nat → bR) (n : Nat) : bR where
  h F w := ∃ φ : Nat → Fp, (∀ i, i < n → (R i).h (φ i) w) ∧ (∀ i j, i < n → j < n → i ≠ j → Apart (φ i) (φ j)) ∧ ∀ k, F k ↔ ∃ i, i < n ∧ φ i k
  lt := fun ⟨_, h1, _, h3⟩ k hk => let ⟨i, hi, hk⟩ := (h3 k).1 hk; (R i).lt (h1 i hi) k hk
  st := fun ⟨φ, h1, h2, h3⟩ _ _ hk hn => ⟨φ, fun i hi => (R i).st (h1 i hi) hk (fun k hk => hn k ((h3 k).2 ⟨i, hi, hk⟩)), h2, h3⟩
def bR.none : bR where
  h F _ := ∀ k, ¬ F k
  lt := fun h k hk => absurd hk (h k)
  st := fun h _ _ _ _ => h
def iK (R : Nat → bR) (k : Nat) (a : bR) : Nat → bR := fun i => if i = k then a else R i
section FJ
variable {β : Bs} {l l' : List HP} {w : World} {i n k : Nat} {R R' : Nat → bR} {a : bR}
theorem dL.nil (R : Nat → bR) (w : World) : (HP.abs (dL R 0)).h (fun _ => False) w := ⟨fun _ _ => False, fun i hi => absurd hi (Nat.not_lt_zero i), fun i _ hi => absurd hi (Nat.not_lt_zero i), fun _ => ⟨fun h => h.elim, fun ⟨i, hi, _⟩ => absurd hi (Nat.not_lt_zero i)⟩⟩
theorem Sat.FK (h : Sat β l w) (R : Nat → bR) : Sat β (l ++ [.abs (dL R 0)]) w := Sat.new h (dL.nil R w) (Keeps.refl _ _) (fun _ h => h.elim)
theorem Sat.oW {j : Nat} {idx : List Nat} (h : Sat β l w) (hp : l[i]? = some (.abs (dL R n))) (hq : l[j]? = some (.abs a)) (hn : nodupB (i :: j :: idx) = true) (hl : bN l idx = some l') (hR : ∀ x, x < n → R' x = R x) (ha : R' n = a) : Sat β (.abs (dL R' (n + 1)) :: l') w := by
  refine h.Jx hp hq hn hl ?_
  rintro F1 F2 ⟨φ, h1, h2, h3⟩ hF hap
  refine ⟨fun x => F1 x ∨ F2 x, ⟨fun i => if i = n then F2 else φ i, fun i hi => ?_, fun i j hi hj hne x hx hy => ?_, fun x => ⟨fun hx => ?_, fun ⟨i, hi, hx⟩ => ?_⟩⟩, fun x hx => hx⟩
  ·by_cases e : i = n
   ·subst e; simp only [if_true]; rw [ha]; exact hF
   simp only [e, if_false]; rw [hR i (by omega)]; exact h1 i (by omega)
  ·by_cases e1 : i = n
   ·by_cases e2 : j = n
    ·exact hne (e1.trans e2.symm)
    simp only [e1, if_true] at hx
    simp only [e2, if_false] at hy
    exact hap x ((h3 x).2 ⟨j, by omega, hy⟩) hx
   simp only [e1, if_false] at hx
   by_cases e2 : j = n
   ·simp only [e2, if_true] at hy
    exact hap x ((h3 x).2 ⟨i, by omega, hx⟩) hy
   simp only [e2, if_false] at hy
   exact h2 i j (by omega) (by omega) hne x hx hy
  ·rcases hx with hx | hx
   ·obtain ⟨i, hi, hx⟩ := (h3 x).1 hx
    exact ⟨i, by omega, by simpa [Nat.ne_of_lt hi] using hx⟩
   exact ⟨n, Nat.lt_succ_self n, by simpa using hx⟩
  by_cases e : i = n
  ·exact .inr (by simpa [e] using hx)
  exact .inl ((h3 x).2 ⟨i, by omega, by simpa [e] using hx⟩)
theorem dL.base {F : Fp} {β' : Bs} (h : (HP.abs (dL R n)).h F w) (h1 : ∀ k, F k → β'.O k) (_ : β'.w0 = w) {Φ : Nat → Bs → Prop} (Bo : ∀ i, i < n → ∀ F, (R i).h F w → (∀ k, F k → β'.O k) → Φ i β') : ∀ i, i < n → Φ i β' := by
  obtain ⟨φ, g1, _, g3⟩ := h
  exact fun i hi => Bo i hi (φ i) (g1 i hi) (fun k hk => h1 k ((g3 k).2 ⟨i, hi, hk⟩))
end FJ
section rX
variable {P : Program} {β : Bs} {N : Nat} {ops : Array Oper} {S : List HP} {l : List Nat} {fr : Fr} {hps : List HP} {Q : Post} {i : Nat}
end rX
end
section
open Go.RowKit
structure og (β : Bs) (R : List HP) (β' : Bs) : Prop where
  le : β.le β'
  fp : ∃ φ : Nat → Fp, (∀ (i : Nat) (p : HP), R[i]? = some p → p.h (φ i) β'.w0 ∧ ∀ k, φ i k → β'.O k) ∧ (∀ i, i < R.length → ∀ k, φ i k → ¬ β.O k) ∧ (∀ i j, i < R.length → j < R.length → i ≠ j → Apart (φ i) (φ j)) ∧ ∀ k, β'.O k → β.O k ∨ ∃ i, i < R.length ∧ φ i k
section Ef
variable {β β' rf : Bs} {l R : List HP} {w : World} {p : HP} {i : Nat}
theorem og.get (h : og β R β') (i : Nat) (hp : R[i]? = some p) : ∃ F, p.h F β'.w0 ∧ ∀ k, F k → β'.O k := by
  obtain ⟨φ, h1, _⟩ := h.fp
  exact ⟨φ i, h1 i p hp⟩
theorem Sat.turn {a b : List HP} (h : Sat β (a ++ b) w) : Sat β (b ++ a) w := by
  obtain ⟨ho, φ, h1, h2, h3⟩ := h
  have hl : (a ++ b).length = a.length + b.length := List.length_append
  have hl' : (b ++ a).length = b.length + a.length := List.length_append
  refine ⟨ho, fun i => if i < b.length then φ (a.length + i) else φ (i - b.length), fun i p hp => ?_, fun i hi k hk hO => ?_, fun i j hi hj hne k hk hk' => ?_⟩
  ·have hi := bA hp
   by_cases e : i < b.length
   ·simp only [e, if_true]
    rw [List.getElem?_append_left e] at hp
    exact h1 _ p (by rw [List.getElem?_append_right (by omega)]; simpa using hp)
   simp only [e, if_false]
   rw [List.getElem?_append_right (by omega)] at hp
   exact h1 _ p (by rw [List.getElem?_append_left (by omega)]; exact hp)
  ·by_cases e : i < b.length
   ·simp only [e, if_true] at hk
    exact h2 _ (by omega) k hk hO
   simp only [e, if_false] at hk
   exact h2 _ (by omega) k hk hO
  by_cases e1 : i < b.length
  ·simp only [e1, if_true] at hk
   by_cases e2 : j < b.length
   ·simp only [e2, if_true] at hk'
    exact h3 _ _ (by omega) (by omega) (by omega) k hk hk'
   simp only [e2, if_false] at hk'
   exact h3 _ _ (by omega) (by omega) (by omega) k hk hk'
  simp only [e1, if_false] at hk
  by_cases e2 : j < b.length
  ·simp only [e2, if_true] at hk'
   exact h3 _ _ (by omega) (by omega) (by omega) k hk hk'
  simp only [e2, if_false] at hk'
  exact h3 _ _ (by omega) (by omega) (by omega) k hk hk'
theorem Sat.yT (h : Sat β (l ++ R) w) : ∃ β', og β R β' ∧ β'.w0 = w ∧ Sat β' l w := by
  obtain ⟨ho, φ, h1, h2, h3⟩ := h
  have hl : (l ++ R).length = l.length + R.length := List.length_append
  have hR : ∀ (i : Nat) (p : HP), R[i]? = some p → p.h (φ (l.length + i)) w := fun i p hp => h1 _ p (by rw [List.getElem?_append_right (by omega)]; simpa using hp)
  refine ⟨⟨fun k => β.O k ∨ ∃ i, i < R.length ∧ φ (l.length + i) k, w⟩, ⟨⟨fun k hk => .inl hk, ho.os, ho.tape, ho.output, ho.size, fun k hk => ho.old k hk⟩, fun i => φ (l.length + i), fun i p hp => ⟨hR i p hp, fun k hk => .inr ⟨i, bA hp, hk⟩⟩, fun i hi => h2 _ (by omega), fun i j hi hj hne => h3 _ _ (by omega) (by omega) (by omega), fun k hk => hk⟩, rfl, ⟨rfl, rfl, rfl, Nat.le_refl _, fun k hk => ⟨?_, rfl⟩⟩, φ, fun i p hp => h1 i p (by rw [List.getElem?_append_left (bA hp)]; exact hp), fun i hi k hk hO => ?_, fun i j hi hj hne => h3 i j (by omega) (by omega) hne⟩
  ·rcases hk with hk | ⟨i, hi, hk⟩
   ·exact Nat.lt_of_lt_of_le (ho.old k hk).1 ho.size
   obtain ⟨p, hp⟩ := ig hi
   exact HP.lt (hR i p hp) k hk
  rcases hO with hO | ⟨j, hj, hO⟩
  ·exact h2 i (by omega) k hk hO
  exact h3 i (l.length + j) (by omega) (by omega) (by omega) k hk hO
theorem og.back (h : og β R β') (hS : Sat β' l w) : Sat β (l ++ R) w := by
  obtain ⟨hle, φ, g1, g2, g3, g4⟩ := h
  obtain ⟨ho, ψ, h1, h2, h3⟩ := hS
  have hl : (l ++ R).length = l.length + R.length := List.length_append
  have hin : ∀ i, i < R.length → ∀ k, φ i k → β'.O k := fun i hi k hk => by
    obtain ⟨p, hp⟩ := ig hi
    exact (g1 i p hp).2 k hk
  have hk : ∀ i, i < R.length → Keeps (fun k => ¬ φ i k) β'.w0 w := fun i hi => ⟨ho.os, ho.tape, ho.output, ho.size, fun k _ hn => (ho.old k (hin i hi k (Classical.not_not.1 hn))).2⟩
  refine ⟨ho.le hle, fun i => if i < l.length then ψ i else φ (i - l.length), fun i p hp => ?_, fun i hi k hk hO => ?_, fun i j hi hj hne k hk hk' => ?_⟩
  ·by_cases e : i < l.length
   ·rw [List.getElem?_append_left e] at hp
    simp only [e, if_true]
    exact h1 i p hp
   rw [List.getElem?_append_right (by omega)] at hp
   simp only [e, if_false]
   exact HP.st (g1 _ p hp).1 (hk _ (bA hp)) (fun k h => fun h' => h' h)
  ·by_cases e : i < l.length
   ·simp only [e, if_true] at hk
    exact h2 i e k hk (hle.O k hO)
   simp only [e, if_false] at hk
   exact g2 _ (by omega) k hk hO
  by_cases e1 : i < l.length
  ·simp only [e1, if_true] at hk
   by_cases e2 : j < l.length
   ·simp only [e2, if_true] at hk'
    exact h3 i j e1 e2 hne k hk hk'
   simp only [e2, if_false] at hk'
   exact h2 i e1 k hk (hin _ (by omega) k hk')
  simp only [e1, if_false] at hk
  by_cases e2 : j < l.length
  ·simp only [e2, if_true] at hk'
   exact h2 j e2 k hk' (hin _ (by omega) k hk)
  simp only [e2, if_false] at hk'
  exact g3 _ _ (by omega) (by omega) (by omega) k hk hk'
end Ef
section rules
variable {P : Program} {β β' rf : Bs} {N : Nat} {ops : Array Oper} {k : Nat} {fr : Fr} {hps l R : List HP} {Q : Post} {c : Code} {e : Exit} {pk : List Nat} {f : FuncId} {args : Array Value} {pre : List HP}
end rules
end
section
open Go.RowKit
def ak (R : Nat → bR) : bR where
  h F w := ∃ φ : Nat → Fp, (∀ i, (R i).h (φ i) w) ∧ (∀ i j, i ≠ j → Apart (φ i) (φ j)) ∧ ∀ k, F k ↔ ∃ i, φ i k
  lt := fun ⟨_, h1, _, h3⟩ k hk => let ⟨i, hk⟩ := (h3 k).1 hk; (R i).lt (h1 i) k hk
  st := fun ⟨φ, h1, h2, h3⟩ _ _ hk hn => ⟨φ, fun i => (R i).st (h1 i) hk (fun k hk => hn k ((h3 k).2 ⟨i, hk⟩)), h2, h3⟩
section FJ
variable {β : Bs} {l l' : List HP} {w : World} {i n k : Nat} {R R' : Nat → bR} {a : bR}
theorem ak.at (k : Nat) {F : Fp} {w : World} (h : (ak R).h F w) : ∃ G, (R k).h G w := by
  obtain ⟨φ, h1, _⟩ := h
  exact ⟨φ k, h1 k⟩
theorem Sat.Eg (h : Sat β l w) (R : Nat → bR) (hR : ∀ k, R k = bR.none) : Sat β (l ++ [.abs (ak R)]) w := Sat.new h (p := .abs (ak R)) (F := fun _ => False) ⟨fun _ _ => False, fun i => by rw [hR]; exact fun _ h => h, fun _ _ _ _ h => h.elim, fun _ => ⟨fun h => h.elim, fun ⟨_, h⟩ => h⟩⟩ (Keeps.refl _ _) (fun _ h => h.elim)
theorem Sat.BN (h : Sat β l w) (hp : l[i]? = some (.abs (ak R))) (k : Nat) : Sat β (l.set i (.abs (ak (iK R k bR.none))) ++ [.abs (R k)]) w := by
  refine h.MV hp ?_
  rintro F ⟨φ, h1, h2, h3⟩
  refine ⟨fun x => ∃ i, i ≠ k ∧ φ i x, φ k, ⟨fun i => if i = k then fun _ => False else φ i, fun i => ?_, fun i j hne x hx hy => ?_, fun x => ⟨fun ⟨i, hne, hx⟩ => ⟨i, by simpa [hne] using hx⟩, fun ⟨i, hx⟩ => ?_⟩⟩, h1 k, fun x ⟨i, hne, hx⟩ hy => h2 i k hne x hx hy, fun x => ⟨fun hx => ?_, fun hx => ?_⟩⟩
  ·unfold iK
   by_cases e : i = k
   ·simp only [e, if_true]; exact fun _ h => h
   simp only [e, if_false]; exact h1 i
  ·by_cases e1 : i = k
   ·simp [e1] at hx
   by_cases e2 : j = k
   ·simp [e2] at hy
   exact h2 i j hne x (by simpa [e1] using hx) (by simpa [e2] using hy)
  ·by_cases e1 : i = k
   ·simp [e1] at hx
   exact ⟨i, e1, by simpa [e1] using hx⟩
  ·obtain ⟨i, hx⟩ := (h3 x).1 hx
   by_cases e : i = k
   ·exact .inr (e ▸ hx)
   exact .inl ⟨i, e, hx⟩
  rcases hx with ⟨i, _, hx⟩ | hx
  ·exact (h3 x).2 ⟨i, hx⟩
  exact (h3 x).2 ⟨k, hx⟩
theorem Sat.oK {j : Nat} {idx : List Nat} {q : HP} (h : Sat β l w) (hp : l[i]? = some (.abs (ak R))) (hq : l[j]? = some q) (Pf : ∀ F w, q.h F w → a.h F w) (hn : nodupB (i :: j :: idx) = true) (hl : bN l idx = some l') (k : Nat) (hR : ∀ x, x ≠ k → R' x = R x) (ha : R' k = a) : Sat β (.abs (ak R') :: l') w := by
  refine h.Jx hp hq hn hl ?_
  rintro F1 F2 ⟨φ, h1, h2, h3⟩ hF hap
  refine ⟨fun x => (∃ i, i ≠ k ∧ φ i x) ∨ F2 x, ⟨fun i => if i = k then F2 else φ i, fun i => ?_, fun i j hne x hx hy => ?_, fun x => ⟨fun hx => ?_, fun ⟨i, hx⟩ => ?_⟩⟩, fun x hx => hx.imp (fun ⟨i, _, hx⟩ => (h3 x).2 ⟨i, hx⟩) id⟩
  ·by_cases e : i = k
   ·subst e; simp only [if_true]; rw [ha]; exact Pf _ _ hF
   simp only [e, if_false]; rw [hR i e]; exact h1 i
  ·by_cases e1 : i = k
   ·by_cases e2 : j = k
    ·exact hne (e1.trans e2.symm)
    simp only [e1, if_true] at hx
    simp only [e2, if_false] at hy
    exact hap x ((h3 x).2 ⟨j, hy⟩) hx
   simp only [e1, if_false] at hx
   by_cases e2 : j = k
   ·simp only [e2, if_true] at hy
    exact hap x ((h3 x).2 ⟨i, hx⟩) hy
   simp only [e2, if_false] at hy
   exact h2 i j hne x hx hy
  ·rcases hx with ⟨i, hne, hx⟩ | hx
   ·exact ⟨i, by simpa [hne] using hx⟩
   exact ⟨k, by simpa using hx⟩
  by_cases e : i = k
  ·exact .inr (by simpa [e] using hx)
  exact .inl ⟨i, e, by simpa [e] using hx⟩
end FJ
end
section
open Go.RowKit Go.Maps
theorem v7 : Keyed Tryz.prog 9 := string_keyed Tryz.underlying9
theorem yU {p : ByteArray} (h : p.size ≤ 9223372036854775807) : keyOf Tryz.prog 9 (.string p) = some (.string p.data.toList) := WideMaps.keyOf_string_mk Tryz.underlying9 (by unfold maxLen; omega)
def mS (g : ByteArray → Option Value) : Lit → Option Value
  | .string l => g ⟨l.toArray⟩
  | _ => none
theorem MW (g : ByteArray → Option Value) (p : ByteArray) : mS g (.string p.data.toList) = g p := by
  show g ⟨p.data.toList.toArray⟩ = g p
  rw [Array.toArray_toList]
theorem FL (g : ByteArray → Option Value) (p : ByteArray) (v : Option Value) : jK (mS g) (.string p.data.toList) v = mS (fun q => if q = p then v else g q) := by
  funext x
  unfold jK mS
  cases x with
  | string l =>
    by_cases e : l = p.data.toList
    ·subst e
     have e2 : (⟨p.data.toList.toArray⟩ : ByteArray) = p := by rw [Array.toArray_toList]
     simp [Lit.sameKey]
    have e2 : ¬ (⟨l.toArray⟩ : ByteArray) = p := fun h => e (by rw [← h])
    simp [Lit.sameKey, e, e2]
  | _ => rfl
theorem Kc : mS (fun _ => none) = fun _ => none := by
  funext x
  unfold mS
  split <;> rfl
end
section
open Go.RowKit Go.Maps
def v8 (b : Nat) (cs : List Value) (T : TypeId) : bR where
  h F w := (HP.blk b cs T).h F w
  lt := fun h => HP.lt h
  st := fun h _ _ hk hd => HP.st h hk hd
structure HL where
  b : Nat → Nat
  m : Nat → Nat
  dA : Nat → Option Addr
  dC : Nat → Nat
def HL.data (L : HL) (k : Nat) (A : Option Addr) (c : Nat) : HL := ⟨L.b, L.m, fun i => if i = k then A else L.dA i, fun i => if i = k then c else L.dC i⟩
def HL.put (L : HL) (k b m : Nat) (A : Option Addr) (c : Nat) : HL := ⟨fun i => if i = k then b else L.b i, fun i => if i = k then m else L.m i, fun i => if i = k then A else L.dA i, fun i => if i = k then c else L.dC i⟩
def Nw (kind : Int) : TypeId := if kind = 1 then 89 else if kind = 3 then 93 else 96
def kN (kind : Int) : TypeId := if kind = 1 then 92 else if kind = 3 then 95 else 99
def cG (L : HL) (t : Th) : Value := .iface (Nw t.kind) (.pointer (some ⟨L.b t.k, 0, none⟩))
def qt (L : HL) : Option Nat → Value
  | none => .pointer none
  | some d => .pointer (some ⟨L.b d, 0, none⟩)
def uP (o : aS) : List Value := [.int .i64 o.id, .int .i64 o.mode, .int .i64 o.uid, .int .i64 o.gid, .int .i64 o.sec, .int .i64 o.nano, .int .i64 o.links, .int .i64 o.opens, .bool o.gone]
def uQ (L : HL) (k : Nat) (o : aS) : List Value := if o.kind = 1 then [.slice (L.dA k) o.data.length (L.dC k)] else if o.kind = 3 then [.string o.target] else [.map (some (L.m k)), qt L o.up]
def eY (L : HL) (k : Nat) (o : aS) : List Value := uP o ++ uQ L k o
def fX (L : HL) (es : dR Th) : Lit → Option Value := mS (fun p => (aU p es).map (cG L))
def aQ (O : bM) (L : HL) (k : Nat) : bR := if (obj O k).kind = 0 then bR.none else v8 (L.b k) (eY L k (obj O k)) (kN (obj O k).kind)
def aW (O : bM) (L : HL) (k : Nat) : bR := if (obj O k).kind = 1 then aF 5 1 (L.dA k) (obj O k).data.length (L.dC k) (bL (obj O k).data) else bR.none
def bh (O : bM) (L : HL) (k : Nat) : bR := if (obj O k).kind = 2 then aH Tryz.prog 9 (L.m k) (fX L (obj O k).ah) (obj O k).ah.length else bR.none
section sat
variable {β : Bs} {l : List HP} {w : World} {i b : Nat} {cs : List Value} {T : TypeId} {p p' : HP}
theorem Sat.same (h : Sat β l w) (hp : l[i]? = some p) (e : ∀ F w, p.h F w → p'.h F w) : Sat β (l.set i p') w := by
  obtain ⟨ho, φ, h1, h2, h3⟩ := h
  have hl : (l.set i p').length = l.length := List.length_set ..
  refine ⟨ho, φ, fun j q hq => ?_, fun j hj => h2 j (by omega), fun j k hj hk => h3 j k (by omega) (by omega)⟩
  by_cases hji : i = j
  ·subst hji
   rw [List.getElem?_set_self (bA hp)] at hq
   cases hq
   exact e _ _ (h1 _ p hp)
  rw [List.getElem?_set_ne hji] at hq
  exact h1 j q hq
end sat
section cells
variable {O : bM} {L : HL} {k j : Nat} {v : Value}
theorem jD (h : (obj O k).kind ≠ 0) : aQ O L k = v8 (L.b k) (eY L k (obj O k)) (kN (obj O k).kind) := if_neg h
theorem bq (hk : (obj O k).kind ≠ 0) (hv : (eY L k (obj O k))[j]? = some v) : ∀ F w, (ak (aQ O L)).h F w → w.cell? ⟨L.b k, j, none⟩ = some v := by
  intro F w h
  obtain ⟨G, g⟩ := ak.at k h
  rw [jD hk] at g
  obtain ⟨g, _⟩ := g
  exact (fq g rfl rfl hv).1
theorem pH (h : (obj O k).kind = 1) : aW O L k = aF 5 1 (L.dA k) (obj O k).data.length (L.dC k) (bL (obj O k).data) := if_pos h
theorem lT (h : (obj O k).kind = 2) : bh O L k = aH Tryz.prog 9 (L.m k) (fX L (obj O k).ah) (obj O k).ah.length := if_pos h
theorem oY (es : dR Th) (p : ByteArray) : fX L es (.string p.data.toList) = (aU p es).map (cG L) := MW _ _
theorem HE {es : dR Th} {p : ByteArray} {t : Th} (hn : aU p es = none) : jK (fX L es) (.string p.data.toList) (some (cG L t)) = fX L (eH p t es) := by
  unfold fX
  rw [FL]
  congr 1
  funext q
  rw [tI hn]
  by_cases h : q = p
  ·rw [if_pos h, if_pos h]; rfl
  rw [if_neg h, if_neg h]
theorem HF {es : dR Th} {p : ByteArray} : jK (fX L es) (.string p.data.toList) none = fX L (eX p es) := by
  unfold fX
  rw [FL]
  congr 1
  funext q
  rw [nN]
  by_cases h : q = p
  ·rw [if_pos h, if_pos h]; rfl
  rw [if_neg h, if_neg h]
theorem HM : fX L [] = fun _ => none := Kc
end cells
section FJ
variable {O : bM} {L : HL} {k : Nat} {f : aS → aS}
theorem rz : aQ (aB O k f) L k = if (f (obj O k)).kind = 0 then bR.none else v8 (L.b k) (eY L k (f (obj O k))) (kN (f (obj O k)).kind) := by
  unfold aQ; rw [bH]
theorem rA {x : Nat} (h : x ≠ k) : aQ (aB O k f) L x = aQ O L x := by unfold aQ; rw [bS h]
theorem kE (h : (f (obj O k)).data = (obj O k).data) (h2 : (f (obj O k)).kind = (obj O k).kind) : aW (aB O k f) L = aW O L := by
  funext x
  unfold aW
  by_cases e : x = k
  ·subst e; rw [bH, h, h2]
  rw [bS e]
theorem kF (h : (f (obj O k)).ah = (obj O k).ah) (h2 : (f (obj O k)).kind = (obj O k).kind) : bh (aB O k f) L = bh O L := by
  funext x
  unfold bh
  by_cases e : x = k
  ·subst e; rw [bH, h, h2]
  rw [bS e]
theorem tM {x : Nat} (h : x ≠ k) : bh (aB O k f) L x = bh O L x := by unfold bh; rw [bS h]
theorem tN {x : Nat} (h : x ≠ k) : aW (aB O k f) L x = aW O L x := by unfold aW; rw [bS h]
end FJ
end
section
open Go.RowKit Go.Maps
section kinds
variable {O : bM} {L : HL} {k j : Nat} {f : aS → aS} {o : aS}
theorem iC (hf : ∀ o, (f o).kind = o.kind) : (obj (aB O j f) k).kind = (obj O k).kind := by
  rw [iZ]; split
  ·exact hf _
  rfl
theorem cM {α : Type} {g : aS → α} (hf : ∀ o, g (f o) = g o) : g (obj (aB O j f) k) = g (obj O k) := by
  rw [iZ]; split
  ·exact hf _
  rfl
theorem eE (h : o.kind = 1) : eY L k o = [.int .i64 o.id, .int .i64 o.mode, .int .i64 o.uid, .int .i64 o.gid, .int .i64 o.sec, .int .i64 o.nano, .int .i64 o.links, .int .i64 o.opens, .bool o.gone, .slice (L.dA k) o.data.length (L.dC k)] := by
  unfold eY uQ; rw [if_pos h]; rfl
theorem tO (h : o.kind = 3) : eY L k o = [.int .i64 o.id, .int .i64 o.mode, .int .i64 o.uid, .int .i64 o.gid, .int .i64 o.sec, .int .i64 o.nano, .int .i64 o.links, .int .i64 o.opens, .bool o.gone, .string o.target] := by
  unfold eY uQ; rw [if_neg (by rw [h]; decide), if_pos h]; rfl
theorem gV (h : o.kind = 2) : eY L k o = [.int .i64 o.id, .int .i64 o.mode, .int .i64 o.uid, .int .i64 o.gid, .int .i64 o.sec, .int .i64 o.nano, .int .i64 o.links, .int .i64 o.opens, .bool o.gone, .map (some (L.m k)), qt L o.up] := by
  unfold eY uQ; rw [if_neg (by rw [h]; decide), if_neg (by rw [h]; decide)]; rfl
theorem BO {es : aS → dR Th} : aQ (aB O k (fun o => { o with ah := es o })) L = aQ O L := by
  funext x
  unfold aQ
  by_cases e : x = k
  ·subst e; rw [bH]; rfl
  rw [bS e]
def mz (O : bM) (d : Nat) (name : ByteArray) (t : Th) : bM :=
  let O1 := aB O d (fun o => { o with ah := eH name t o.ah })
  let O2 := aB O1 t.k (fun o => { o with links := o.links + 1 })
  if t.kind = 2 then aB O2 t.k (fun o => { o with up := some d }) else O2
theorem wg {α : Type} {g : aS → α} {d : Nat} {name : ByteArray} {t : Th} (h1 : ∀ o es, g { o with ah := es } = g o) (h2 : ∀ o l, g { o with links := l } = g o) (h3 : ∀ o u, g { o with up := u } = g o) : g (obj (mz O d name t) k) = g (obj O k) := by
  unfold mz
  simp only
  split
  ·rw [cM (fun o => h3 o _), cM (fun o => h2 o _), cM (fun o => h1 o _)]
  rw [cM (fun o => h2 o _), cM (fun o => h1 o _)]
theorem tP {d : Nat} {name : ByteArray} {t : Th} : (obj (mz O d name t) k).kind = (obj O k).kind := wg (g := aS.kind) (fun _ _ => rfl) (fun _ _ => rfl) (fun _ _ => rfl)
structure FM where
  cN : Int
  cB : Int
  cH : Int
  cS : Int
  cZ : Int
  last : Int
  ah : Int
  used : Int
def nP (X : FM) (O : bM) (d : Nat) : bM := aB O d (fun o => { o with sec := X.cS, nano := X.cZ })
def br (X : FM) (O : bM) (d : Nat) (name : ByteArray) (t : Th) : bM := nP X (mz O d name t) d
def aO (X : FM) (O : bM) (d : Nat) (name : ByteArray) (t : Th) : bM := aB (nP X (aB O d (fun o => { o with ah := eX name o.ah })) d) t.k (fun o => { o with links := o.links - 1 })
theorem bX {X : FM} {d : Nat} {name : ByteArray} {t : Th} : (obj (aO X O d name t) k).kind = (obj O k).kind := by
  unfold aO nP
  exact (iC (f := fun o => { o with links := o.links - 1 }) (fun _ => rfl)).trans ((iC (f := fun o => { o with sec := X.cS, nano := X.cZ }) (fun _ => rfl)).trans (iC (f := fun o => { o with ah := eX name o.ah }) (fun _ => rfl)))
theorem C8 {X : FM} {d : Nat} {name : ByteArray} {t : Th} : (obj (br X O d name t) k).kind = (obj O k).kind := by
  unfold br nP
  exact (iC (f := fun o => { o with sec := X.cS, nano := X.cZ }) (fun _ => rfl)).trans tP
end kinds
section sat
variable {β : Bs} {l l' : List HP} {w : World} {i j k : Nat} {O : bM} {L : HL} {f : aS → aS} {cs : List Value} {T : TypeId} {idx : List Nat}
theorem Sat.tQ (h : Sat β l w) (hp : l[i]? = some (.abs (ak (aQ O L)))) (h0 : (obj O k).kind ≠ 0) (hc : eY L k (obj O k) = cs) (hT : kN (obj O k).kind = T) : Sat β (l.set i (.abs (ak (iK (aQ O L) k bR.none))) ++ [.blk (L.b k) cs T]) w := by
  have h1 := h.BN hp k
  have hlen : (l.set i (HP.abs (ak (iK (aQ O L) k bR.none)))).length = l.length := List.length_set ..
  have h2 := Sat.same (i := l.length) (p := .abs (aQ O L k)) (p' := .blk (L.b k) cs T) h1 (by rw [List.getElem?_append_right (by omega), hlen, Nat.sub_self]; rfl) (fun F w h => by
    have h3 : (aQ O L k).h F w := h
    rw [jD h0] at h3
    have h3 : (v8 (L.b k) (eY L k (obj O k)) (kN (obj O k).kind)).h F w := h3
    rw [hc, hT] at h3
    exact h3)
  have e : ∀ (a : List HP) (x y : HP), (a ++ [x]).set a.length y = a ++ [y] := fun a x y => by simp
  have h4 := e (l.set i (HP.abs (ak (iK (aQ O L) k bR.none)))) (.abs (aQ O L k)) (.blk (L.b k) cs T)
  rw [hlen] at h4
  rw [h4] at h2
  exact h2
theorem Sat.uR {R : Nat → bR} (h : Sat β l w) (hp : l[i]? = some (.abs (ak R))) (hR : ∀ x, x ≠ k → R x = aQ O L x) (hq : l[j]? = some (.blk (L.b k) cs T)) (hd : nodupB (i :: j :: idx) = true) (hl : bN l idx = some l') (h0 : (f (obj O k)).kind ≠ 0) (hc : eY L k (f (obj O k)) = cs) (hT : kN (f (obj O k)).kind = T) : Sat β (.abs (ak (aQ (aB O k f) L)) :: l') w := by
  refine h.oK (a := v8 (L.b k) cs T) hp hq (fun _ _ h => h) hd hl k (fun x hx => ?_) (by rw [rz, if_neg h0, hc, hT])
  rw [rA hx, hR x hx]
theorem lU {R : Nat → bR} {a : bR} {x : Nat} (h : x ≠ k) : iK R k a x = R x := if_neg h
theorem Sat.K9 (h : Sat β l w) (hp : l[i]? = some (.abs (ak (bh O L)))) (hd : (obj O k).kind = 2) : Sat β (l.set i (.abs (ak (iK (bh O L) k bR.none))) ++ [.abs (aH Tryz.prog 9 (L.m k) (fX L (obj O k).ah) (obj O k).ah.length)]) w := by
  have h1 := h.BN hp k
  rw [lT hd] at h1
  exact h1
theorem Sat.La (h : Sat β l w) (hp : l[i]? = some (.abs (ak (iK (bh O L) k bR.none)))) (hq : l[j]? = some (.abs (aH Tryz.prog 9 (L.m k) (fX L (obj O k).ah) (obj O k).ah.length))) (hd : nodupB (i :: j :: idx) = true) (hl : bN l idx = some l') (h2 : (obj O k).kind = 2) : Sat β (.abs (ak (bh O L)) :: l') w :=
  h.oK hp hq (fun _ _ h => h) hd hl k (fun _ hx => (lU hx).symm) (lT h2)
theorem Sat.FN (h : Sat β l w) (hp : l[i]? = some (.abs (ak (aW O L)))) (hd : (obj O k).kind = 1) : Sat β (l.set i (.abs (ak (iK (aW O L) k bR.none))) ++ [.abs (aF 5 1 (L.dA k) (obj O k).data.length (L.dC k) (bL (obj O k).data))]) w := by
  have h1 := h.BN hp k
  rw [pH hd] at h1
  exact h1
end sat
end
end Go.Proofs.YtkiedlmhocglhaaGreatDoor
section
namespace Go.Proofs
open Go.Shelf
def Tryz.keysI_ren : Go.Shelf.Ren := ⟨fun | 7 => 41 | 10 => 74 | n => n, fun | 23 => 80 | 26 => 3 | 3 => 84 | 28 => 107 | 0 => 0 | 27 => 106 | 33 => 159 | 4 => 4 | n => n, fun | n => n⟩
theorem Tryz.keysI : Go.Proofs.SlLaysZI.n7 Tryz.prog Tryz.keysI_ren := {
  mixed := by kernel_rfl
  f7 := ⟨Tryz.f41.name, by decide, Tryz.func41.trans (congrArg some (by kernel_rfl))⟩
  f10 := ⟨Tryz.f74.name, by decide, Tryz.func74.trans (congrArg some (by kernel_rfl))⟩
  t0 := Tryz.underlying0
  a0 := Tryz.isAgg0
  z0 := Tryz.sizeOf0
  v0 := Tryz.zeroValue0
  t4 := Tryz.underlying4
  a4 := Tryz.isAgg4
  z4 := Tryz.sizeOf4
  v4 := Tryz.zeroValue4
  t23 := Tryz.underlying80
  a23 := Tryz.isAgg80
  z23 := Tryz.sizeOf80
  v23 := Tryz.zeroValue80
  t26 := Tryz.underlying3
  a26 := Tryz.isAgg3
  z26 := Tryz.sizeOf3
  v26 := Tryz.zeroValue3
  t27 := Tryz.underlying106
  a27 := Tryz.isAgg106
  z27 := Tryz.sizeOf106
  v27 := Tryz.zeroValue106
  t28 := Tryz.underlying107
  a28 := Tryz.isAgg107
  z28 := Tryz.sizeOf107
  v28 := Tryz.zeroValue107
  t33 := Tryz.underlying159
  a33 := Tryz.isAgg159
  z33 := Tryz.sizeOf159
  v33 := Tryz.zeroValue159 }
def Tryz.sortedI_ren : Go.Shelf.Ren := ⟨fun | 6 => 40 | 8 => 72 | 9 => 73 | 11 => 127 | 13 => 129 | 12 => 128 | 23 => 164 | 24 => 165 | 14 => 155 | 15 => 156 | 16 => 157 | 17 => 158 | 18 => 159 | 19 => 160 | 20 => 161 | 21 => 162 | 22 => 163 | 25 => 182 | 26 => 183 | 27 => 184 | 28 => 185 | 29 => 186 | 30 => 187 | 31 => 199 | n => n, fun | 26 => 3 | 28 => 107 | 24 => 52 | 0 => 0 | 3 => 3 | 37 => 195 | 48 => 224 | 50 => 226 | 4 => 4 | 40 => 218 | 39 => 217 | 45 => 213 | 5 => 5 | 9 => 9 | 51 => 236 | 55 => 240 | 57 => 252 | 58 => 253 | 33 => 159 | n => n, fun | n => n⟩
theorem Tryz.sortedI : Go.Proofs.SlLaysZI.n6 Tryz.prog Tryz.sortedI_ren := {
  mixed := by kernel_rfl
  f6 := ⟨Tryz.f40.name, by decide, Tryz.func40.trans (congrArg some (by kernel_rfl))⟩
  f8 := ⟨Tryz.f72.name, by decide, Tryz.func72.trans (congrArg some (by kernel_rfl))⟩
  f11 := ⟨Tryz.f127.name, by decide, Tryz.func127.trans (congrArg some (by kernel_rfl))⟩
  t0 := Tryz.underlying0
  a0 := Tryz.isAgg0
  z0 := Tryz.sizeOf0
  v0 := Tryz.zeroValue0
  t24 := Tryz.underlying52
  a24 := Tryz.isAgg52
  z24 := Tryz.sizeOf52
  v24 := Tryz.zeroValue52
  t26 := Tryz.underlying3
  a26 := Tryz.isAgg3
  z26 := Tryz.sizeOf3
  v26 := Tryz.zeroValue3
  t28 := Tryz.underlying107
  a28 := Tryz.isAgg107
  z28 := Tryz.sizeOf107
  v28 := Tryz.zeroValue107
  i26 := by kernel_rfl }
def Tryz.sortI_ren : Go.Shelf.Ren := ⟨fun | 5 => 73 | 8 => 129 | 7 => 128 | 19 => 164 | 20 => 165 | 10 => 155 | 11 => 156 | 12 => 157 | 13 => 158 | 14 => 159 | 15 => 160 | 16 => 161 | 17 => 162 | 18 => 163 | 30 => 182 | 31 => 183 | 32 => 184 | 33 => 185 | 34 => 186 | 35 => 187 | 40 => 199 | n => n, fun | 23 => 52 | 25 => 3 | 3 => 3 | 32 => 195 | 22 => 52 | 0 => 0 | 44 => 224 | 46 => 226 | 4 => 4 | 36 => 218 | 35 => 217 | 41 => 213 | 5 => 5 | 9 => 9 | 53 => 236 | 57 => 240 | 63 => 252 | 64 => 253 | n => n, fun | n => n⟩
theorem Tryz.sortI : Go.Proofs.SlLaysM.n5 Tryz.prog Tryz.sortI_ren := {
  mixed := by kernel_rfl
  f5 := ⟨Tryz.f73.name, by decide, Tryz.func73.trans (congrArg some (by kernel_rfl))⟩
  f7 := ⟨Tryz.f128.name, by decide, Tryz.func128.trans (congrArg some (by kernel_rfl))⟩
  f8 := Tryz.func129.trans (congrArg some (by kernel_rfl))
  f10 := ⟨Tryz.f155.name, by decide, Tryz.func155.trans (congrArg some (by kernel_rfl))⟩
  f11 := ⟨Tryz.f156.name, by decide, Tryz.func156.trans (congrArg some (by kernel_rfl))⟩
  f12 := ⟨Tryz.f157.name, by decide, Tryz.func157.trans (congrArg some (by kernel_rfl))⟩
  f13 := ⟨Tryz.f158.name, by decide, Tryz.func158.trans (congrArg some (by kernel_rfl))⟩
  f14 := ⟨Tryz.f159.name, by decide, Tryz.func159.trans (congrArg some (by kernel_rfl))⟩
  f15 := ⟨Tryz.f160.name, by decide, Tryz.func160.trans (congrArg some (by kernel_rfl))⟩
  f16 := ⟨Tryz.f161.name, by decide, Tryz.func161.trans (congrArg some (by kernel_rfl))⟩
  f17 := ⟨Tryz.f162.name, by decide, Tryz.func162.trans (congrArg some (by kernel_rfl))⟩
  f18 := ⟨Tryz.f163.name, by decide, Tryz.func163.trans (congrArg some (by kernel_rfl))⟩
  f19 := Tryz.func164.trans (congrArg some (by kernel_rfl))
  f20 := Tryz.func165.trans (congrArg some (by kernel_rfl))
  f30 := ⟨Tryz.f182.name, by decide, Tryz.func182.trans (congrArg some (by kernel_rfl))⟩
  f31 := Tryz.func183.trans (congrArg some (by kernel_rfl))
  f32 := Tryz.func184.trans (congrArg some (by kernel_rfl))
  f33 := ⟨Tryz.f185.name, by decide, Tryz.func185.trans (congrArg some (by kernel_rfl))⟩
  f34 := ⟨Tryz.f186.name, by decide, Tryz.func186.trans (congrArg some (by kernel_rfl))⟩
  f35 := ⟨Tryz.f187.name, by decide, Tryz.func187.trans (congrArg some (by kernel_rfl))⟩
  f40 := ⟨Tryz.f199.name, by decide, Tryz.func199.trans (congrArg some (by kernel_rfl))⟩
  t0 := Tryz.underlying0
  a0 := Tryz.isAgg0
  z0 := Tryz.sizeOf0
  v0 := Tryz.zeroValue0
  t3 := Tryz.underlying3
  a3 := Tryz.isAgg3
  z3 := Tryz.sizeOf3
  v3 := Tryz.zeroValue3
  t4 := Tryz.underlying4
  a4 := Tryz.isAgg4
  z4 := Tryz.sizeOf4
  v4 := Tryz.zeroValue4
  t5 := Tryz.underlying5
  a5 := Tryz.isAgg5
  z5 := Tryz.sizeOf5
  v5 := Tryz.zeroValue5
  t9 := Tryz.underlying9
  a9 := Tryz.isAgg9
  z9 := Tryz.sizeOf9
  v9 := Tryz.zeroValue9
  t22 := Tryz.underlying52
  a22 := Tryz.isAgg52
  z22 := Tryz.sizeOf52
  v22 := Tryz.zeroValue52
  t23 := Tryz.underlying52
  a23 := Tryz.isAgg52
  z23 := Tryz.sizeOf52
  v23 := Tryz.zeroValue52
  t25 := Tryz.underlying3
  a25 := Tryz.isAgg3
  z25 := Tryz.sizeOf3
  v25 := Tryz.zeroValue3
  t32 := Tryz.underlying195
  a32 := Tryz.isAgg195
  z32 := Tryz.sizeOf195
  v32 := Tryz.zeroValue195
  t35 := Tryz.underlying217
  a35 := Tryz.isAgg217
  z35 := Tryz.sizeOf217
  v35 := Tryz.zeroValue217
  t36 := Tryz.underlying218
  a36 := Tryz.isAgg218
  z36 := Tryz.sizeOf218
  v36 := Tryz.zeroValue218
  t41 := Tryz.underlying213
  a41 := Tryz.isAgg213
  z41 := Tryz.sizeOf213
  v41 := Tryz.zeroValue213
  t44 := Tryz.underlying224
  a44 := Tryz.isAgg224
  z44 := Tryz.sizeOf224
  v44 := Tryz.zeroValue224
  t46 := Tryz.underlying226
  a46 := Tryz.isAgg226
  z46 := Tryz.sizeOf226
  v46 := Tryz.zeroValue226
  t53 := Tryz.underlying236
  a53 := Tryz.isAgg236
  z53 := Tryz.sizeOf236
  v53 := Tryz.zeroValue236
  t57 := Tryz.underlying240
  a57 := Tryz.isAgg240
  z57 := Tryz.sizeOf240
  v57 := Tryz.zeroValue240
  t63 := Tryz.underlying252
  a63 := Tryz.isAgg252
  z63 := Tryz.sizeOf252
  v63 := Tryz.zeroValue252
  t64 := Tryz.underlying253
  a64 := Tryz.isAgg253
  z64 := Tryz.sizeOf253
  v64 := Tryz.zeroValue253 }
end Go.Proofs
end
namespace Go.Proofs.YtkiedlmhocglhaaGreatDoor
section
open Go.RowKit
theorem MX (a : Addr) (v : Value) (w : World) (h : w.cell? a = some v) : (Go.method 380 234 (.pointer (some a)) "Len").run Tryz.prog w = .ok (227, v) w := by
  have e : (Go.method 380 234 (.pointer (some a)) "Len").run Tryz.prog w = ((loadVar 154 a) >>= fun v => pure (227, v) : Sem (FuncId × Value)).run Tryz.prog w := by kernel_rfl
  rw [e]
  simp [loadVar, isAgg, underlying, Tryz.underlying154, h, Result.andThen]
theorem Lb (a : Addr) (v : Value) (w : World) (h : w.cell? a = some v) : (Go.method 380 234 (.pointer (some a)) "Less").run Tryz.prog w = .ok (228, v) w := by
  have e : (Go.method 380 234 (.pointer (some a)) "Less").run Tryz.prog w = ((loadVar 154 a) >>= fun v => pure (228, v) : Sem (FuncId × Value)).run Tryz.prog w := by kernel_rfl
  rw [e]
  simp [loadVar, isAgg, underlying, Tryz.underlying154, h, Result.andThen]
theorem Lc (a : Addr) (v : Value) (w : World) (h : w.cell? a = some v) : (Go.method 380 234 (.pointer (some a)) "Swap").run Tryz.prog w = .ok (229, v) w := by
  have e : (Go.method 380 234 (.pointer (some a)) "Swap").run Tryz.prog w = ((loadVar 154 a) >>= fun v => pure (229, v) : Sem (FuncId × Value)).run Tryz.prog w := by kernel_rfl
  rw [e]
  simp [loadVar, isAgg, underlying, Tryz.underlying154, h, Result.andThen]
theorem Ld (a : Addr) (w : World) : (Go.method 380 234 (.pointer (some a)) "Push").run Tryz.prog w = .ok (231, .pointer (some a)) w := by kernel_rfl
theorem MY (a : Addr) (w : World) : (Go.method 380 234 (.pointer (some a)) "Pop").run Tryz.prog w = .ok (230, .pointer (some a)) w := by kernel_rfl
theorem Jy (a : Addr) (w : World) : (Go.nilAhead 380 234 (.pointer (some a)) "Len").run Tryz.prog w = .ok (some false) w := by kernel_rfl
theorem FO (a : Addr) (w : World) : (Go.nilAhead 380 234 (.pointer (some a)) "Less").run Tryz.prog w = .ok (some false) w := by kernel_rfl
theorem BP (a : Addr) (w : World) : (Go.nilAhead 380 234 (.pointer (some a)) "Swap").run Tryz.prog w = .ok (some false) w := by kernel_rfl
theorem Le (a : Addr) (w : World) : (Go.nilAhead 380 234 (.pointer (some a)) "Push").run Tryz.prog w = .ok (some false) w := by kernel_rfl
theorem MZ (a : Addr) (w : World) : (Go.nilAhead 380 234 (.pointer (some a)) "Pop").run Tryz.prog w = .ok (some false) w := by kernel_rfl
theorem BQ (A : Option Addr) (n c : Nat) (w : World) :
    Calls Tryz.prog 227 #[.slice A n c] w fun e w' => e = .returned (.int .i64 n) ∧ w' = w := by
  go_enter Tryz.func227, Tryz.ntmps227
  go_wp2
  go_ret
  exact ⟨rfl, rfl⟩
theorem FP (g n c i j : Nat) (x y : Int) (w : World) (hi : i < n) (hj : j < n) (ci : w.cell? ⟨g, i, none⟩ = some (.int .i64 x)) (cj : w.cell? ⟨g, j, none⟩ = some (.int .i64 y)) :
    Calls Tryz.prog 228 #[.slice (some ⟨g, 0, none⟩) n c, .int .i64 i, .int .i64 j] w fun e w' => e = .returned (.bool (decide (x < y))) ∧ ∃ m, w' = w.drewN m := by
  have hi' : (i : Int) < (n : Int) := by omega
  have hj' : (j : Int) < (n : Int) := by omega
  go_enter Tryz.func228, Tryz.ntmps228
  go_wp2_with fail
  go_quiet (fail)
  go_wp2_with fail
  go_ret
  exact ⟨rfl, _, rfl⟩
theorem FQ (g n c i j : Nat) (x y : Int) (w : World) (hi : i < n) (hj : j < n) (hij : i ≠ j) (ci : w.cell? ⟨g, i, none⟩ = some (.int .i64 x)) (cj : w.cell? ⟨g, j, none⟩ = some (.int .i64 y))
    (fi : w.frozen? ⟨g, i, none⟩ = false) (fj : w.frozen? ⟨g, j, none⟩ = false) :
    Calls Tryz.prog 229 #[.slice (some ⟨g, 0, none⟩) n c, .int .i64 i, .int .i64 j] w fun e w' => e = .returned (.tuple #[]) ∧ ∃ m, w' = ((w.setCell ⟨g, i, none⟩ (.int .i64 y)).setCell ⟨g, j, none⟩ (.int .i64 x)).drewN m := by
  have hi' : (i : Int) < (n : Int) := by omega
  have hj' : (j : Int) < (n : Int) := by omega
  go_enter Tryz.func229, Tryz.ntmps229
  go_wp2_with fail
  go_region
  go_end0
  exact ⟨rfl, 1, rfl⟩
theorem HT : (Tryz.prog.info? 3).map (fun i => (i.zero, i.size, i.bytes)) = some (some (.int .i64 0), 1, 8) := by kernel_rfl
theorem HV (t o g n c : Nat) (x : Int) (w : World) (hc : n + 1 ≤ c) (ht : w.cell? ⟨t, o, none⟩ = some (.slice (some ⟨g, 0, none⟩) (n + 1) c)) (hf : w.frozen? ⟨t, o, none⟩ = false)
    (hx : w.cell? ⟨g, n, none⟩ = some (.int .i64 x)) (hm : n + 1 ≤ 1048576) :
    Calls Tryz.prog 230 #[.pointer (some ⟨t, o, none⟩)] w fun e w' => e = .returned (.iface 3 (.int .i64 x)) ∧ w' = w.setCell ⟨t, o, none⟩ (.slice (some ⟨g, 0, none⟩) n c) := by
  go_enter Tryz.func230, Tryz.ntmps230
  go_wp2_with fail
  go_ret
  exact ⟨rfl, rfl⟩
theorem Eh (x : Int) (w : World) : (Instr.typeAssert (.iface 3 (.int .i64 x)) 20 3 false).run Tryz.prog w = .ok (.int .i64 x) w := by kernel_rfl
theorem C9 (x : Int) : ∀ u ∈ [Value.int .i64 x], u.oneCell' = true := by intro u hu; simp at hu; subst hu; rfl
theorem FR {t o : Nat} {v : Value} {w w1 : World} {ob : Obj} (ht : w.cell? ⟨t, o, none⟩ = some v) (hlt : t < w.heap.size) {row : Option Nat} (hne : row ≠ some t) (hg : (w.alloc ob).drew.grownBy w1 row) : w1.cell? ⟨t, o, none⟩ = some v := by
  rw [hg.cell_far ⟨t, o, none⟩ (by show t < (w.alloc ob).heap.size; simp; omega) (fun e => hne e.symm)]
  exact (World.cell?_alloc_lt w ob ⟨t, o, none⟩ hlt).trans ht
theorem FT {t o : Nat} {w w1 : World} {ob : Obj} (hf : w.frozen? ⟨t, o, none⟩ = false) (hlt : t < w.heap.size) {row : Option Nat} (hne : row ≠ some t) (hg : (w.alloc ob).drew.grownBy w1 row) : w1.frozen? ⟨t, o, none⟩ = false := by
  rw [hg.frozen_far ⟨t, o, none⟩ (by show t < (w.alloc ob).heap.size; simp; omega) (fun e => hne e.symm)]
  exact (World.frozen?_alloc_old w ob ⟨t, o, none⟩ (Nat.ne_of_lt hlt)).trans hf
theorem FU (t o base n : Nat) (v : Value) (xs : List Value) (x : Int) (w : World) (ht : w.cell? ⟨t, o, none⟩ = some v) (hf : w.frozen? ⟨t, o, none⟩ = false)
    (hown : w.ownsRow base 3 1 v n xs) (hne : v.ownBlock ≠ some t) (hm : n + 1 ≤ 1048576) (hbase : base ≤ w.heap.size) :
    Calls Tryz.prog 231 #[.pointer (some ⟨t, o, none⟩), .iface 3 (.int .i64 x)] w fun e w' => e = .returned (.tuple #[]) ∧
      ∃ g cap w1, w1.ownsRow base 3 1 (.slice (some ⟨g, 0, none⟩) (n + 1) cap) (n + 1) (xs ++ [.int .i64 x]) ∧ w.grownBy w1 v.ownBlock ∧ (v.ownBlock = some g ∨ w.heap.size ≤ g) ∧
        w' = w1.setCell ⟨t, o, none⟩ (.slice (some ⟨g, 0, none⟩) (n + 1) cap) := by
  obtain ⟨i0, hi0, hz0, hz1, hz2⟩ := info_parts HT
  have hlt : t < w.heap.size := by
    rcases Nat.lt_or_ge t w.heap.size with h | h
    ·exact h
    simp [World.cell?, Array.getElem?_eq_none h] at ht
  have Qz := Eh
  go_enter Tryz.func231, Tryz.ntmps231
  go_wp2_with fail
  go_region_law (refine step_append_lies _ rfl (.tmp 7) (.tmp 10) 154 rfl base 3 i0 (.int .i64 0) 1 8 Tryz.underlying154 hi0 hz0 hz1 hz2 rfl (by decide) v n xs (by simp [Act.eval]) (hown.alloc _) ⟨w.heap.size, 0, none⟩ 1 1 [.int .i64 x] (by simp [Act.eval]) rfl (cell_one_new _ _ _) (C9 x) (by decide) (by unfold maxLen; omega) (by omega) (by simp; omega) (w.heap.size + 1) (by simp) ?_; intro g cap w1 hown1 hg1 Ei Qh; have c1 : w1.cell? ⟨t, o, none⟩ = some v := FR ht hlt hne hg1; have f1 : w1.frozen? ⟨t, o, none⟩ = false := FT hf hlt hne hg1)
  all_goals
    go_end0
    refine ⟨rfl, g, cap, w1, hown1, (World.grownBy_alloc w (.cells #[.int .i64 x] 3) _).trans ⟨hg1.os, hg1.tape, hg1.output, hg1.size, hg1.block⟩, ?_, rfl⟩
    rcases Ei with h | h
    ·exact .inl h
    exact .inr (by omega)
end
end Go.Proofs.YtkiedlmhocglhaaGreatDoor
section
namespace Go.Proofs.YtkiedlmhocglhaaGreatDoor.HeapM
def at_ (l : List Int) (i : Nat) : Int := l.getD i 0
def swp (l : List Int) (i j : Nat) : List Int := (l.set i (at_ l j)).set j (at_ l i)
def Hp (n : Nat) (l : List Int) : Prop := ∀ i, 0 < i → i < n → at_ l ((i - 1) / 2) ≤ at_ l i
def tR (l : List Int) : Prop := ∀ a b, a < l.length → b < l.length → at_ l a = at_ l b → a = b
def yV (l : List Int) (j : Nat) : Prop :=
  (∀ i, 0 < i → i < l.length → i ≠ j → at_ l ((i - 1) / 2) ≤ at_ l i) ∧ (∀ i, 0 < i → i < l.length → (i - 1) / 2 = j → 0 < j → at_ l ((j - 1) / 2) ≤ at_ l i)
def rB (n : Nat) (l : List Int) (i : Nat) : Prop :=
  (∀ k, 0 < k → k < n → (k - 1) / 2 ≠ i → at_ l ((k - 1) / 2) ≤ at_ l k) ∧ (∀ k, 0 < k → k < n → (k - 1) / 2 = i → 0 < i → at_ l ((i - 1) / 2) ≤ at_ l k)
structure Same (l l' : List Int) : Prop where
  len : l'.length = l.length
  mem : ∀ x, x ∈ l' ↔ x ∈ l
  inj : tR l → tR l'
theorem pJ {l : List Int} {x : Int} : x ∈ l ↔ ∃ k, k < l.length ∧ at_ l k = x := by
  rw [List.mem_iff_getElem]
  constructor
  ·rintro ⟨i, h, e⟩
   exact ⟨i, h, by simp [at_, List.getD_eq_getElem?_getD, h, e]⟩
  rintro ⟨i, h, e⟩
  exact ⟨i, h, by simpa [at_, List.getD_eq_getElem?_getD, h] using e⟩
theorem jl (l : List Int) (i j : Nat) : (swp l i j).length = l.length := by simp [swp]
def sw (i j k : Nat) : Nat := if k = j then i else if k = i then j else k
theorem gY {l : List Int} {i j : Nat} (hi : i < l.length) (hj : j < l.length) (k : Nat) : at_ (swp l i j) k = at_ l (sw i j k) := by
  unfold swp at_ sw
  simp only [List.getD_eq_getElem?_getD, List.getElem?_set, List.length_set]
  by_cases h1 : j = k
  ·subst h1; simp [hj]
  by_cases h2 : i = k
  ·subst h2; simp [h1, hi, Ne.symm h1]
  simp [h1, h2, Ne.symm h1, Ne.symm h2]
theorem Ej (i j k : Nat) : sw i j (sw i j k) = k := by unfold sw; (repeat' split) <;> omega
theorem AU {i j k n : Nat} (hi : i < n) (hj : j < n) (hk : k < n) : sw i j k < n := by unfold sw; (repeat' split) <;> omega
theorem Same.refl (l : List Int) : Same l l := ⟨rfl, fun _ => Iff.rfl, fun h => h⟩
theorem Same.trans {l l' l'' : List Int} (h : Same l l') (k : Same l' l'') : Same l l'' := ⟨k.len.trans h.len, fun x => (k.mem x).trans (h.mem x), fun i => k.inj (h.inj i)⟩
theorem Same.swp {l : List Int} {i j : Nat} (hi : i < l.length) (hj : j < l.length) : Same l (swp l i j) := by
  refine ⟨jl l i j, fun x => ?_, fun inj a b ha hb e => ?_⟩
  ·rw [pJ, pJ, jl]
   constructor
   ·rintro ⟨k, hk, e⟩
    exact ⟨sw i j k, AU hi hj hk, by rw [← gY hi hj]; exact e⟩
   rintro ⟨k, hk, e⟩
   exact ⟨sw i j k, AU hi hj hk, by rw [gY hi hj, Ej]; exact e⟩
  rw [jl] at ha hb
  rw [gY hi hj, gY hi hj] at e
  have := inj _ _ (AU hi hj ha) (AU hi hj hb) e
  rw [← Ej i j a, this, Ej]
theorem FV {l : List Int} {j : Nat} (h : yV l j) (he : j = 0 ∨ at_ l ((j - 1) / 2) ≤ at_ l j) : Hp l.length l := by
  intro i h0 hi
  by_cases e : i = j
  ·subst e
   rcases he with he | he
   ·omega
   exact he
  exact h.1 i h0 hi e
theorem Ke {l : List Int} {j : Nat} (h : yV l j) (h0 : 0 < j) (hj : j < l.length) (hlt : at_ l j < at_ l ((j - 1) / 2)) : yV (swp l ((j - 1) / 2) j) ((j - 1) / 2) := by
  have hp : (j - 1) / 2 < l.length := by omega
  have hne : (j - 1) / 2 ≠ j := by omega
  refine ⟨fun i i0 il Nx => ?_, fun i i0 il ip p0 => ?_⟩
  ·rw [jl] at il
   rw [gY hp hj, gY hp hj]
   by_cases e1 : i = j
   ·subst e1
    rw [show sw ((i - 1) / 2) i ((i - 1) / 2) = i by unfold sw; rw [if_neg hne, if_pos rfl], show sw ((i - 1) / 2) i i = (i - 1) / 2 by unfold sw; rw [if_pos rfl]]
    omega
   rw [show sw ((j - 1) / 2) j i = i by unfold sw; rw [if_neg e1, if_neg Nx]]
   by_cases e2 : (i - 1) / 2 = j
   ·rw [show sw ((j - 1) / 2) j ((i - 1) / 2) = (j - 1) / 2 by unfold sw; rw [if_pos e2]]
    exact h.2 i i0 il e2 h0
   by_cases e3 : (i - 1) / 2 = (j - 1) / 2
   ·rw [show sw ((j - 1) / 2) j ((i - 1) / 2) = j by unfold sw; rw [if_neg e2, if_pos e3]]
    have := h.1 i i0 il e1
    rw [e3] at this
    omega
   rw [show sw ((j - 1) / 2) j ((i - 1) / 2) = (i - 1) / 2 by unfold sw; rw [if_neg e2, if_neg e3]]
   exact h.1 i i0 il e1
  rw [jl] at il
  rw [gY hp hj, gY hp hj]
  have a1 := h.1 ((j - 1) / 2) p0 hp hne
  rw [show sw ((j - 1) / 2) j (((j - 1) / 2 - 1) / 2) = ((j - 1) / 2 - 1) / 2 by unfold sw; rw [if_neg (by omega), if_neg (by omega)]]
  by_cases e1 : i = j
  ·subst e1
   rw [show sw ((i - 1) / 2) i i = (i - 1) / 2 by unfold sw; rw [if_pos rfl]]
   exact a1
  have a2 := h.1 i i0 il e1
  rw [show sw ((j - 1) / 2) j i = i by unfold sw; rw [if_neg e1, if_neg (by omega)]]
  rw [ip] at a2
  omega
theorem rZ {n : Nat} {l : List Int} {i : Nat} (h : rB n l i) (h1 : 2 * i + 1 < n → at_ l i ≤ at_ l (2 * i + 1)) (h2 : 2 * i + 2 < n → at_ l i ≤ at_ l (2 * i + 2)) : Hp n l := by
  intro k k0 kn
  by_cases e : (k - 1) / 2 = i
  ·rw [e]
   rcases (show k = 2 * i + 1 ∨ k = 2 * i + 2 by omega) with e1 | e1
   ·rw [e1]; exact h1 (by omega)
   rw [e1]; exact h2 (by omega)
  exact h.1 k k0 kn e
theorem tS {n : Nat} {l : List Int} {i j : Nat} (h : rB n l i) (hj : j = 2 * i + 1 ∨ j = 2 * i + 2) (hjn : j < n) (hn : n ≤ l.length)
    (h1 : at_ l j ≤ at_ l (2 * i + 1)) (h2 : 2 * i + 2 < n → at_ l j ≤ at_ l (2 * i + 2)) (hlt : at_ l j < at_ l i) : rB n (swp l i j) j := by
  have hi : i < l.length := by omega
  have hjl : j < l.length := by omega
  refine ⟨fun k k0 kn Lf => ?_, fun k k0 kn ke j0 => ?_⟩
  ·rw [gY hi hjl, gY hi hjl]
   by_cases e1 : (k - 1) / 2 = i
   ·rw [e1, show sw i j i = j by unfold sw; rw [if_neg (by omega), if_pos rfl]]
    by_cases e2 : k = j
    ·rw [e2, show sw i j j = i by unfold sw; rw [if_pos rfl]]; omega
    rw [show sw i j k = k by unfold sw; rw [if_neg e2, if_neg (by omega)]]
    rcases (show k = 2 * i + 1 ∨ k = 2 * i + 2 by omega) with e3 | e3
    ·rw [e3]; exact h1
    rw [e3]; exact h2 (by omega)
   rw [show sw i j ((k - 1) / 2) = (k - 1) / 2 by unfold sw; rw [if_neg Lf, if_neg e1]]
   by_cases e2 : k = i
   ·rw [e2, show sw i j i = j by unfold sw; rw [if_neg (by omega), if_pos rfl], ← e2]
    have hjk : (j - 1) / 2 = i := by omega
    rw [e2]
    exact h.2 j (by omega) hjn hjk (by omega)
   rw [show sw i j k = k by unfold sw; rw [if_neg (by omega), if_neg e2]]
   exact h.1 k k0 kn e1
  rw [gY hi hjl, gY hi hjl]
  rw [show (j - 1) / 2 = i by omega, show sw i j i = j by unfold sw; rw [if_neg (by omega), if_pos rfl], show sw i j k = k by unfold sw; rw [if_neg (by omega), if_neg (by omega)]]
  have := h.1 k k0 kn (by omega)
  rw [ke] at this
  exact this
theorem least {n : Nat} {l : List Int} (h : Hp n l) : ∀ k, k < n → at_ l 0 ≤ at_ l k := by
  intro k
  induction k using Nat.strongRecOn with
  | _ k ih =>
    intro hk
    rcases Nat.eq_zero_or_pos k with e | e
    ·rw [e]; omega
    have a1 := ih ((k - 1) / 2) (by omega) (by omega)
    have a2 := h k e hk
    omega
theorem Ek {n : Nat} {l : List Int} (h : Hp (n + 1) l) (hl : l.length = n + 1) : rB n (swp l 0 n) 0 := by
  refine ⟨fun k k0 kn Lf => ?_, fun k _ _ _ h0 => by omega⟩
  rw [gY (by omega) (by omega), gY (by omega) (by omega)]
  rw [show sw 0 n ((k - 1) / 2) = (k - 1) / 2 by unfold sw; rw [if_neg (by omega), if_neg Lf], show sw 0 n k = k by unfold sw; rw [if_neg (by omega), if_neg (by omega)]]
  exact h k k0 (by omega)
theorem HX {l : List Int} (h : Hp l.length l) (x : Int) : yV (l ++ [x]) l.length := by
  have e : ∀ k, k < l.length → at_ (l ++ [x]) k = at_ l k := fun k hk => by
    unfold at_
    rw [List.getD_eq_getElem?_getD, List.getD_eq_getElem?_getD, List.getElem?_append_left hk]
  refine ⟨fun i i0 il Nx => ?_, fun i i0 il ip => ?_⟩
  ·rw [List.length_append, List.length_singleton] at il
   rw [e _ (by omega), e _ (by omega)]
   exact h i i0 (by omega)
  rw [List.length_append, List.length_singleton] at il
  omega
theorem Kf {l : List Int} {n : Nat} (hl : l.length = n + 1) (hi : tR l) (x : Int) : x ∈ l.take n ↔ x ∈ l ∧ x ≠ at_ l n := by
  constructor
  ·intro h
   refine ⟨List.mem_of_mem_take h, ?_⟩
   rintro rfl
   obtain ⟨k, hk, e⟩ := List.mem_iff_getElem.1 h
   simp at hk e
   have := hi k n (by omega) (by omega) (by simp [at_, List.getD_eq_getElem?_getD, show k < l.length by omega, e])
   omega
  rintro ⟨h, hne⟩
  obtain ⟨k, hk, e⟩ := pJ.1 h
  have : k ≠ n := by rintro rfl; exact hne e.symm
  refine List.mem_iff_getElem.2 ⟨k, by simp; omega, ?_⟩
  simp only [at_, List.getD_eq_getElem?_getD, hk, List.getElem?_eq_getElem, Option.getD_some] at e
  simpa using e
theorem uS {l : List Int} {n k : Nat} (hk : k < n) : at_ (l.take n) k = at_ l k := by simp [at_, List.getD_eq_getElem?_getD, hk]
theorem Kg {l : List Int} {n : Nat} (h : Hp n l) : Hp n (l.take n) := fun i i0 hi => by rw [uS hi, uS (by omega)]; exact h i i0 hi
theorem HY {l : List Int} {n : Nat} (h : tR l) : tR (l.take n) := fun a b ha hb e => by
  simp at ha hb
  rw [uS (by omega), uS (by omega)] at e
  exact h a b (by omega) (by omega) e
end Go.Proofs.YtkiedlmhocglhaaGreatDoor.HeapM
end
namespace Go.Proofs.YtkiedlmhocglhaaGreatDoor
section
open Go.RowKit HeapM
def ints (l : List Int) : List Value := l.map (Value.int .i64)
theorem kQ (g n c a b : Nat) (i j : Int) (hi : i = (a : Int)) (hj : j = (b : Int)) (x y : Int) (w : World) (ha : a < n) (hb : b < n) (ci : w.cell? ⟨g, a, none⟩ = some (.int .i64 x)) (cj : w.cell? ⟨g, b, none⟩ = some (.int .i64 y)) :
    Calls Tryz.prog 228 #[.slice (some ⟨g, 0, none⟩) n c, .int .i64 i, .int .i64 j] w fun e w' => e = .returned (.bool (decide (x < y))) ∧ ∃ m, w' = w.drewN m := by
  subst hi hj; exact FP g n c a b x y w ha hb ci cj
structure HW (t o g c base : Nat) (l : List Int) (w : World) : Prop where
  cell : w.cell? ⟨t, o, none⟩ = some (.slice (some ⟨g, 0, none⟩) l.length c)
  own : w.ownsRow base 3 1 (.slice (some ⟨g, 0, none⟩) l.length c) l.length (ints l)
  ne : t ≠ g
  lt : t < w.heap.size
theorem HZ {l : List Int} {k : Nat} (hk : k < l.length) : (ints l)[k]? = some (.int .i64 (at_ l k)) := by
  simp [ints, at_, List.getD_eq_getElem?_getD, hk]
section hw
variable {t o g c base : Nat} {l : List Int} {w : World}
theorem HW.at (h : HW t o g c base l w) {k : Nat} (hk : k < l.length) : w.cell? ⟨g, k, none⟩ = some (.int .i64 (at_ l k)) := by
  rw [h.own.cellAt k (by omega)]
  exact HZ hk
theorem HW.drewN (h : HW t o g c base l w) (m : Nat) : HW t o g c base l (w.drewN m) := ⟨h.cell, h.own, h.ne, h.lt⟩
theorem HW.swap (h : HW t o g c base l w) (i j : Nat) :
    HW t o g c base (swp l i j) ((w.setCell ⟨g, i, none⟩ (.int .i64 (at_ l j))).setCell ⟨g, j, none⟩ (.int .i64 (at_ l i))) := by
  have e1 : ints (swp l i j) = ((ints l).set i (.int .i64 (at_ l j))).set j (.int .i64 (at_ l i)) := by
    simp [ints, swp, List.map_set]
  refine ⟨?_, ?_, h.ne, by simpa [World.setCell] using h.lt⟩
  ·rw [jl, World.cell?_setCell_other _ _ _ _ (fun e => h.ne (by injection e with e; exact e.symm)), World.cell?_setCell_other _ _ _ _ (fun e => h.ne (by injection e with e; exact e.symm))]
   exact h.cell
  rw [jl, e1]
  exact ((h.own.stored i _).1.stored j _).1
end hw
theorem kR (t o g c base : Nat) (l : List Int) (a b : Nat) (i j : Int) (hi : i = (a : Int)) (hj : j = (b : Int)) (w : World) (h : HW t o g c base l w) (ha : a < l.length) (hb : b < l.length) (hne : a ≠ b) :
    Calls Tryz.prog 229 #[.slice (some ⟨g, 0, none⟩) l.length c, .int .i64 i, .int .i64 j] w fun e w' => e = .returned (.tuple #[]) ∧ HW t o g c base (swp l a b) w' ∧ Keeps (· = g) w w' := by
  subst hi hj
  refine (FQ g l.length c a b (at_ l a) (at_ l b) w ha hb hne (h.at ha) (h.at hb) (h.own.frozenAt a) (h.own.frozenAt b)).mono fun e w' ⟨he, m, hw⟩ => ⟨he, ?_, ?_⟩
  ·rw [hw]; exact (h.swap a b).drewN m
  rw [hw]; exact (((Keeps.refl (· = g) w).setCell (p := ⟨g, a, none⟩) (.inr rfl) _).setCell (p := ⟨g, b, none⟩) (.inr rfl) _).drewN m
structure Looks (a : Addr) (V : Value) : Prop where
  less : ∀ w : World, w.cell? a = some V → (Go.method 380 234 (.pointer (some a)) "Less").run Tryz.prog w = .ok (228, V) w
  swap : ∀ w : World, w.cell? a = some V → (Go.method 380 234 (.pointer (some a)) "Swap").run Tryz.prog w = .ok (229, V) w
  len : ∀ w : World, w.cell? a = some V → (Go.method 380 234 (.pointer (some a)) "Len").run Tryz.prog w = .ok (227, V) w
theorem looks (a : Addr) (V : Value) : Looks a V := ⟨Lb a V, Lc a V, MX a V⟩
theorem Kh (t o g c base : Nat) (l : List Int) (j : Nat) (w : World) (h : HW t o g c base l w) (hj : j < l.length) (hu : yV l j) (hm : l.length ≤ 1048576) :
    Calls Tryz.prog 193 #[.iface 234 (.pointer (some ⟨t, o, none⟩)), .int .i64 j] w fun e w' => e = .returned (.tuple #[]) ∧
      ∃ l', Same l l' ∧ Hp l'.length l' ∧ HW t o g c base l' w' ∧ Keeps (· = g) w w' := by
  have L := looks ⟨t, o, none⟩ (.slice (some ⟨g, 0, none⟩) l.length c)
  have nl := FO ⟨t, o, none⟩
  have ns := BP ⟨t, o, none⟩
  go_enter Tryz.func193, Tryz.ntmps193
  go_wp2_with fail
  go_loopw [1] (fun v wr => ∃ (j : Nat) (l' : List Int), v = .int .i64 j ∧ j < l'.length ∧ Same l l' ∧ yV l' j ∧ HW t o g c base l' wr ∧ Keeps (· = g) w wr) (fun v _ => (intOf v).toNat)
  case atStart => exact ⟨j, l, rfl, hj, Same.refl l, hu, h, Keeps.refl _ _⟩
  case round =>
    obtain ⟨j, l', rfl, hj', hs, hu', hw, hk⟩ := hrel
    have hc := hw.cell
    rw [hs.len] at hc
    have LL := L.less wr hc
    by_cases h0 : j = 0
    ·subst h0
     have HU := Lib.hid hu'
     clear hu'
     go_wp2_with fail
     go_end0
     exact ⟨rfl, l', hs, FV HU.out (.inl rfl), hw, hk⟩
    have mJ : 1 ≤ j := by omega
    have hj2 : j ≤ 1048576 := by have := hs.len; omega
    have hi1 : (j - 1) / 2 < l'.length := by omega
    have hjn : ((((j : Int) - 1) / 2) == (j : Int)) = false := by rw [beq_eq_false_iff_ne]; omega
    have HU := Lib.hid hu'
    clear hu'
    go_wp2_with fail
    refine (kQ g l.length c j ((j - 1) / 2) _ _ rfl (by omega) (at_ l' j) (at_ l' ((j - 1) / 2)) _ (by rw [← hs.len]; exact hj') (by rw [← hs.len]; exact hi1) (hw.at hj') (hw.at hi1)).mono ?_
    rintro e w1 ⟨rfl, m, rfl⟩
    have hw1 := hw.drewN m
    by_cases hlt : at_ l' j < at_ l' ((j - 1) / 2)
    ·have LS := L.swap (wr.drewN m) hc
     go_wp2_with fail
     have HL := Lib.hid hs.len
     have sw := kR t o g c base l' ((j - 1) / 2) j
     rw [hs.len] at sw
     refine (sw _ _ (by omega) rfl _ hw1 (by have := HL.out; omega) (by have := HL.out; omega) (by omega)).mono ?_
     rintro e w2 ⟨rfl, hw2, hk2⟩
     clear sw
     go_wp2_with fail
     go_roundw
     case rel => exact ⟨(j - 1) / 2, _, by go_num, by rw [jl]; exact hi1, hs.trans (Same.swp hi1 hj'), Ke HU.out mJ hj' hlt, hw2, (hk.drewN m).trans hk2⟩
     case measure => simp [intOf]; omega
    have hnl : decide (at_ l' j < at_ l' ((j - 1) / 2)) = false := by simpa using hlt
    go_wp2_with fail
    go_end0
    exact ⟨rfl, l', hs, FV HU.out (.inr (by omega)), hw1, hk.drewN m⟩
end
section
open Go.RowKit HeapM
theorem BR {l : List Int} {i j n k : Nat} (hi : i < l.length) (hj : j < l.length) (hin : i < n) (hjn : j < n) (hk : n ≤ k) : at_ (swp l i j) k = at_ l k := by
  rw [gY hi hj]; unfold sw; rw [if_neg (by omega), if_neg (by omega)]
theorem FW (t o g c base n : Nat) (l : List Int) (w : World) (h : HW t o g c base l w) (hn : n ≤ l.length) (hd : rB n l 0) (hm : l.length ≤ 1048576) :
    Calls Tryz.prog 201 #[.iface 234 (.pointer (some ⟨t, o, none⟩)), .int .i64 0, .int .i64 n] w fun e w' => (∃ b, e = .returned (.bool b)) ∧
      ∃ l', Same l l' ∧ Hp n l' ∧ (∀ k, n ≤ k → at_ l' k = at_ l k) ∧ HW t o g c base l' w' ∧ Keeps (· = g) w w' := by
  have L := looks ⟨t, o, none⟩ (.slice (some ⟨g, 0, none⟩) l.length c)
  have nl := FO ⟨t, o, none⟩
  have ns := BP ⟨t, o, none⟩
  go_enter Tryz.func201, Tryz.ntmps201
  go_wp2_with fail
  go_loopw [7] (fun v wr => ∃ (i : Nat) (l' : List Int), v = .int .i64 i ∧ i ≤ n ∧ Same l l' ∧ rB n l' i ∧ Hid (∀ k, n ≤ k → at_ l' k = at_ l k) ∧ HW t o g c base l' wr ∧ Keeps (· = g) w wr) (fun v _ => n - (intOf v).toNat)
  case atStart => exact ⟨0, l, rfl, Nat.zero_le _, Same.refl l, hd, Lib.hid (fun _ _ => rfl), h, Keeps.refl _ _⟩
  case round =>
    obtain ⟨i, l', rfl, hin, hs, hd', r8, hw, hk⟩ := hrel
    have hc := hw.cell
    rw [hs.len] at hc
    have HL := Lib.hid hs.len
    have hn1 : n ≤ 1048576 := by omega
    have hnl : n ≤ l'.length := by rw [HL.out]; exact hn
    have HD := Lib.hid hd'
    clear hd'
    by_cases h1 : 2 * i + 1 < n
    ·have h1a : (2 * (i : Int) + 1) < (n : Int) := by omega
     by_cases h2 : 2 * i + 2 < n
     ·have Pg : (2 * (i : Int) + 1 + 1) < (n : Int) := by omega
      have LL := L.less wr hc
      go_wp2_with fail
      refine (kQ g l.length c (2 * i + 2) (2 * i + 1) _ _ (by omega) (by omega) (at_ l' (2 * i + 2)) (at_ l' (2 * i + 1)) _ (by omega) (by omega) (hw.at (by omega)) (hw.at (by omega))).mono ?_
      rintro e w1 ⟨rfl, m, rfl⟩
      have hw1 := hw.drewN m
      have hk1 := hk.drewN m
      have LL := L.less (wr.drewN m) hc
      clear hw hk
      by_cases h3 : at_ l' (2 * i + 2) < at_ l' (2 * i + 1)
      ·go_wp2_with fail
       refine (kQ g l.length c (2 * i + 2) i _ _ (by omega) (by omega) (at_ l' (2 * i + 2)) (at_ l' i) _ (by omega) (by omega) (hw1.at (by omega)) (hw1.at (by omega))).mono ?_
       rintro e w2 ⟨rfl, m2, rfl⟩
       have hw2 := hw1.drewN m2
       have hk2 := hk1.drewN m2
       rw [World.drewN_drewN] at hw2 hk2
       by_cases h4 : at_ l' (2 * i + 2) < at_ l' i
       ·have LS := L.swap _ (hw2.cell.trans (by rw [HL.out]))
        go_wp2_with fail
        have sw := kR t o g c base l' i (2 * i + 2)
        rw [hs.len] at sw
        refine (sw _ _ rfl (by omega) _ hw2 (by omega) (by omega) (by omega)).mono ?_
        rintro e w3 ⟨rfl, hw3, hk3⟩
        clear sw
        go_wp2_with fail
        go_roundw
        case rel => exact ⟨2 * i + 2, _, by go_num, by omega, hs.trans (Same.swp (by omega) (by omega)), tS HD.out (by omega) (by omega) hnl (by omega) (fun _ => by omega) h4, Lib.hid (fun k hk => (BR (by omega) (by omega) (by omega) (by omega) hk).trans (r8.out k hk)), hw3, hk2.trans hk3⟩
        case measure => simp [intOf]; omega
       have Ny : decide (at_ l' (2 * i + 2) < at_ l' i) = false := by simpa using h4
       go_wp2_with fail
       go_ret
       exact ⟨⟨_, rfl⟩, l', hs, rZ HD.out (fun _ => by omega) (fun _ => by omega), r8.out, hw2, hk2⟩
      have QA : decide (at_ l' (2 * i + 2) < at_ l' (2 * i + 1)) = false := by simpa using h3
      go_wp2_with fail
      refine (kQ g l.length c (2 * i + 1) i _ _ (by omega) (by omega) (at_ l' (2 * i + 1)) (at_ l' i) _ (by omega) (by omega) (hw1.at (by omega)) (hw1.at (by omega))).mono ?_
      rintro e w2 ⟨rfl, m2, rfl⟩
      have hw2 := hw1.drewN m2
      have hk2 := hk1.drewN m2
      rw [World.drewN_drewN] at hw2 hk2
      by_cases h4 : at_ l' (2 * i + 1) < at_ l' i
      ·have LS := L.swap _ (hw2.cell.trans (by rw [HL.out]))
       go_wp2_with fail
       have sw := kR t o g c base l' i (2 * i + 1)
       rw [hs.len] at sw
       refine (sw _ _ rfl (by omega) _ hw2 (by omega) (by omega) (by omega)).mono ?_
       rintro e w3 ⟨rfl, hw3, hk3⟩
       clear sw
       go_wp2_with fail
       go_roundw
       case rel => exact ⟨2 * i + 1, _, by go_num, by omega, hs.trans (Same.swp (by omega) (by omega)), tS HD.out (by omega) (by omega) hnl (by omega) (fun _ => by omega) h4, Lib.hid (fun k hk => (BR (by omega) (by omega) (by omega) (by omega) hk).trans (r8.out k hk)), hw3, hk2.trans hk3⟩
       case measure => simp [intOf]; omega
      have Ny : decide (at_ l' (2 * i + 1) < at_ l' i) = false := by simpa using h4
      go_wp2_with fail
      go_ret
      exact ⟨⟨_, rfl⟩, l', hs, rZ HD.out (fun _ => by omega) (fun _ => by omega), r8.out, hw2, hk2⟩
     have Pg : decide ((2 * (i : Int) + 1 + 1) < (n : Int)) = false := by simp; omega
     have hw1 := hw
     have hk1 := hk
     have LL := L.less wr hc
     clear hw hk
     go_wp2_with fail
     refine (kQ g l.length c (2 * i + 1) i _ _ (by omega) (by omega) (at_ l' (2 * i + 1)) (at_ l' i) _ (by omega) (by omega) (hw1.at (by omega)) (hw1.at (by omega))).mono ?_
     rintro e w2 ⟨rfl, m2, rfl⟩
     have hw2 := hw1.drewN m2
     have hk2 := hk1.drewN m2
     by_cases h4 : at_ l' (2 * i + 1) < at_ l' i
     ·have LS := L.swap _ (hw2.cell.trans (by rw [HL.out]))
      go_wp2_with fail
      have sw := kR t o g c base l' i (2 * i + 1)
      rw [hs.len] at sw
      refine (sw _ _ rfl (by omega) _ hw2 (by omega) (by omega) (by omega)).mono ?_
      rintro e w3 ⟨rfl, hw3, hk3⟩
      clear sw
      go_wp2_with fail
      go_roundw
      case rel => exact ⟨2 * i + 1, _, by go_num, by omega, hs.trans (Same.swp (by omega) (by omega)), tS HD.out (by omega) (by omega) hnl (by omega) (fun _ => by omega) h4, Lib.hid (fun k hk => (BR (by omega) (by omega) (by omega) (by omega) hk).trans (r8.out k hk)), hw3, hk2.trans hk3⟩
      case measure => simp [intOf]; omega
     have Ny : decide (at_ l' (2 * i + 1) < at_ l' i) = false := by simpa using h4
     go_wp2_with fail
     go_ret
     exact ⟨⟨_, rfl⟩, l', hs, rZ HD.out (fun _ => by omega) (fun _ => by omega), r8.out, hw2, hk2⟩
    have h1a : ((n : Int) ≤ 2 * (i : Int) + 1) := by omega
    go_wp2_with fail
    go_ret
    exact ⟨⟨_, rfl⟩, l', hs, rZ HD.out (fun h => absurd h h1) (fun h => absurd h (by omega)), r8.out, hw, hk⟩
end
section
open Go.RowKit HeapM
theorem yX (g n c i : Nat) (x : Int) (w : World) (hi : i < n) (ci : w.cell? ⟨g, i, none⟩ = some (.int .i64 x)) (fi : w.frozen? ⟨g, i, none⟩ = false) :
    Calls Tryz.prog 229 #[.slice (some ⟨g, 0, none⟩) n c, .int .i64 i, .int .i64 i] w fun e w' => e = .returned (.tuple #[]) ∧ ∃ m, w' = ((w.setCell ⟨g, i, none⟩ (.int .i64 x)).setCell ⟨g, i, none⟩ (.int .i64 x)).drewN m := by
  have hi' : (i : Int) < (n : Int) := by omega
  go_enter Tryz.func229, Tryz.ntmps229
  go_wp2_with fail
  go_region
  go_end0
  exact ⟨rfl, 1, rfl⟩
theorem yY (t o g c base n : Nat) (l : List Int) (hl : l.length = n + 1) (j : Int) (hj : j = (n : Int)) (w : World) (h : HW t o g c base l w) :
    Calls Tryz.prog 229 #[.slice (some ⟨g, 0, none⟩) (n + 1) c, .int .i64 0, .int .i64 j] w fun e w' => e = .returned (.tuple #[]) ∧ HW t o g c base (swp l 0 n) w' ∧ Keeps (· = g) w w' := by
  subst hj
  by_cases h0 : n = 0
  ·subst h0
   have := yX g 1 c 0 (at_ l 0) w (by omega) (h.at (by omega)) (h.own.frozenAt 0)
   refine this.mono fun e w' ⟨he, m, hw⟩ => ⟨he, ?_, ?_⟩
   ·rw [hw]; exact (h.swap 0 0).drewN m
   rw [hw]; exact (((Keeps.refl (· = g) w).setCell (p := ⟨g, 0, none⟩) (.inr rfl) _).setCell (p := ⟨g, 0, none⟩) (.inr rfl) _).drewN m
  have := kR t o g c base l 0 n 0 n rfl rfl w h (by omega) (by omega) (by omega)
  rw [hl] at this
  exact this
theorem HW.pop {t o g c base n : Nat} {l : List Int} {w : World} (h : HW t o g c base l w) (hl : l.length = n + 1) : w.ownsRow base 3 1 (.slice (some ⟨g, 0, none⟩) n c) n (ints (l.take n)) := by
  have e : ints l = ints (l.take n) ++ ints (l.drop n) := by simp only [ints, ← List.map_append, List.take_append_drop]
  have h1 := h.own
  rw [e, hl] at h1
  exact ownsRow_pop (by simp [ints]; omega) h1
theorem HW.cap {t o g c base : Nat} {l : List Int} {w : World} (h : HW t o g c base l w) : l.length ≤ c := by
  rcases h.own.2 with ⟨e, _⟩ | ⟨g', cap, cur, e, _, _, r, _⟩
  ·injection e with e; cases e
  injection e with e1 e2 e3
  omega
theorem H6 (t o g c base n : Nat) (l : List Int) (w : World) (h : HW t o g c base l w) (hl : l.length = n + 1) (hp : Hp (n + 1) l) (hi : tR l) (hm : n + 1 ≤ 1048576) (hf : w.frozen? ⟨t, o, none⟩ = false) :
    Calls Tryz.prog 192 #[.iface 234 (.pointer (some ⟨t, o, none⟩))] w fun e w' => e = .returned (.iface 3 (.int .i64 (at_ l 0))) ∧
      ∃ l' w1, l'.length = n ∧ Hp n l' ∧ tR l' ∧ (∀ x, x ∈ l' ↔ x ∈ l ∧ x ≠ at_ l 0) ∧ w1.ownsRow base 3 1 (.slice (some ⟨g, 0, none⟩) n c) n (ints l') ∧ Keeps (· = g) w w1 ∧
        w' = w1.setCell ⟨t, o, none⟩ (.slice (some ⟨g, 0, none⟩) n c) := by
  have L := looks ⟨t, o, none⟩ (.slice (some ⟨g, 0, none⟩) l.length c)
  have nn := Jy ⟨t, o, none⟩
  have ns := BP ⟨t, o, none⟩
  have np := MZ ⟨t, o, none⟩
  have mp := MY ⟨t, o, none⟩
  have LN := L.len w h.cell
  have LS := L.swap w h.cell
  have HL := Lib.hid hl
  rw [hl] at LN LS
  clear hl
  go_enter Tryz.func192, Tryz.ntmps192
  go_wp2_with fail
  refine (BQ _ _ _ _).mono ?_
  rintro e w0 ⟨rfl, rfl⟩
  go_wp2_with fail
  refine (yY t o g c base n l HL.out _ (by omega) _ h).mono ?_
  rintro e w1 ⟨rfl, hw1, hk1⟩
  go_wp2_with fail
  have hd := FW t o g c base n (swp l 0 n) w1 hw1 (by rw [jl, HL.out]; omega) (Ek hp HL.out) (by rw [jl, HL.out]; exact hm)
  refine (hd.mono ?_)
  rintro e w2 ⟨⟨bb, rfl⟩, l', hs, hp', r8, hw2, hk2⟩
  clear hd
  have hlen : l'.length = n + 1 := by rw [hs.len, jl, HL.out]
  have hcell := hw2.cell
  rw [hlen] at hcell
  have hcap := hw2.cap
  have htlt := h.lt
  have hf2 : w2.frozen? ⟨t, o, none⟩ = false := by
    rw [(hk1.trans hk2).frozen (p := ⟨t, o, none⟩) htlt h.ne]
    exact hf
  have hlast : at_ l' n = at_ l 0 := by
    rw [r8 n (Nat.le_refl _), gY (by rw [HL.out]; omega) (by rw [HL.out]; omega)]
    simp [sw]
  have hx := hw2.at (k := n) (by omega)
  rw [hlast] at hx
  have El := Lib.hid hlen
  have M0 := Lib.hid hlast
  clear hlen hlast
  go_wp2_with fail
  refine (HV t o g n c (at_ l 0) w2 (by have := El.out; omega) hcell hf2 hx hm).mono ?_
  rintro e w3 ⟨rfl, rfl⟩
  go_wp2_with fail
  go_ret
  have sm := (Same.swp (l := l) (i := 0) (j := n) (by rw [HL.out]; omega) (by rw [HL.out]; omega)).trans hs
  refine ⟨rfl, l'.take n, w2, by simp [El.out], Kg hp', HY (sm.inj hi), fun x => ?_, hw2.pop El.out, hk1.trans hk2, rfl⟩
  rw [Kf El.out (sm.inj hi), sm.mem, M0.out]
theorem Da (l : List Int) (x : Int) : ints l ++ [.int .i64 x] = ints (l ++ [x]) := by simp [ints]
theorem FX (t o base : Nat) (v : Value) (l : List Int) (x : Int) (w : World) (ht : w.cell? ⟨t, o, none⟩ = some v) (hf : w.frozen? ⟨t, o, none⟩ = false) (hown : w.ownsRow base 3 1 v l.length (ints l))
    (hne : v.ownBlock ≠ some t) (hm : l.length + 1 ≤ 1048576) (hbase : base ≤ w.heap.size) (hp : Hp l.length l) (htl : t < w.heap.size) :
    Calls Tryz.prog 176 #[.iface 234 (.pointer (some ⟨t, o, none⟩)), .iface 3 (.int .i64 x)] w fun e w' => e = .returned (.tuple #[]) ∧
      ∃ g c l', Same (l ++ [x]) l' ∧ Hp l'.length l' ∧ HW t o g c base l' w' ∧ (v.ownBlock = some g ∨ w.heap.size ≤ g) ∧
        ∃ w1, Keeps (fun k => v.ownBlock = some k) w w1 ∧ Keeps (· = g) (w1.setCell ⟨t, o, none⟩ (.slice (some ⟨g, 0, none⟩) (l.length + 1) c)) w' := by
  have nn := Jy ⟨t, o, none⟩
  have np := Le ⟨t, o, none⟩
  have mp := Ld ⟨t, o, none⟩
  go_enter Tryz.func176, Tryz.ntmps176
  go_wp2_with fail
  refine (FU t o base l.length v (ints l) x w ht hf hown hne hm hbase).mono ?_
  rintro e w0 ⟨rfl, g, c, w1, hown1, hg1, Ei, rfl⟩
  have hk1 : Keeps (fun k => v.ownBlock = some k) w w1 := (Keeps.refl _ _).grown hg1 (fun k hk => .inr hk)
  have hgt : t ≠ g := by
    rintro rfl
    rcases Ei with h | h
    ·exact hne h
    omega
  have ht1 : w1.cell? ⟨t, o, none⟩ = some v := (hk1.cell (p := ⟨t, o, none⟩) htl hne).trans ht
  have HW1 : HW t o g c base (l ++ [x]) (w1.setCell ⟨t, o, none⟩ (.slice (some ⟨g, 0, none⟩) (l.length + 1) c)) := by
    refine ⟨?_, ?_, hgt, by simpa [World.setCell] using Nat.lt_of_lt_of_le htl hk1.size⟩
    ·rw [World.cell?_setCell_same _ _ _ ht1]; simp
    rw [List.length_append, List.length_singleton, ← Da]
    refine Keeps.ownsRow (S := (· = t)) ((Keeps.refl (· = t) w1).setCell (p := ⟨t, o, none⟩) (.inr rfl) _) hown1 ?_
    intro k hk e
    simp [Value.ownBlock] at hk
    omega
  have hc := HW1.cell
  rw [List.length_append, List.length_singleton] at hc
  generalize hW : w1.setCell ⟨t, o, none⟩ (.slice (some ⟨g, 0, none⟩) (l.length + 1) c) = w2 at *
  have LN := (looks ⟨t, o, none⟩ (.slice (some ⟨g, 0, none⟩) (l.length + 1) c)).len w2 hc
  have Ph := Lib.hid hW
  clear hW ht1 hown1 hown hg1
  go_wp2_with fail
  refine (BQ _ _ _ _).mono ?_
  rintro e w3 ⟨rfl, rfl⟩
  go_wp2_with fail
  have hu := Kh t o g c base (l ++ [x]) l.length w3 HW1 (by simp) (HX hp x) (by simpa using hm)
  refine hu.mono ?_
  rintro e w4 ⟨rfl, l', hs, hp', hw4, hk4⟩
  go_wp2_with fail
  go_end0
  exact ⟨rfl, g, c, l', hs, hp', hw4, Ei, w1, hk1, by rw [Ph.out]; exact hk4⟩
end
end Go.Proofs.YtkiedlmhocglhaaGreatDoor
section
namespace Go.Proofs.YtkiedlmhocglhaaGreatDoor.TabM
open HeapM
variable {V U : Type}
abbrev Used (V : Type) := List (Int × V)
def keys (us : Used V) : List Int := us.map (·.1)
def get (us : Used V) (h : Int) : Option V := (us.find? (fun p => p.1 == h)).map (·.2)
def ck : List Int → Prop := List.Pairwise (· < ·)
def fU : Int → List Int → Int
  | h, [] => h
  | h, k :: r => if k = h then fU (h + 1) r else h
def least (us : Used V) : Int := fU 1 (keys us)
def ins (h : Int) (v : V) : Used V → Used V
  | [] => [(h, v)]
  | p :: r => if h < p.1 then (h, v) :: p :: r else p :: ins h v r
def del (h : Int) (us : Used V) : Used V := us.filter (fun p => p.1 != h)
def Qi (h : Int) (v : V) (us : Used V) : Used V := us.map (fun p => if p.1 == h then (h, v) else p)
structure TI (next : Int) (l : List Int) (us : Used V) : Prop where
  rise : ck (keys us)
  pos : ∀ h ∈ keys us, 1 ≤ h ∧ h < next
  back : ∀ h ∈ l, 1 ≤ h ∧ h < next ∧ h ∉ keys us
  all : ∀ h, 1 ≤ h → h < next → h ∈ keys us ∨ h ∈ l
  count : (us.length : Int) + l.length = next - 1
  heap : Hp l.length l
  inj : tR l
theorem keys_cons (p : Int × V) (us : Used V) : keys (p :: us) = p.1 :: keys us := rfl
theorem keys_map (f : V → U) (us : Used V) : keys (us.map fun p => (p.1, f p.2)) = keys us := by simp [keys]
theorem get_none {us : Used V} {h : Int} : get us h = none ↔ h ∉ keys us := by
  unfold get keys
  rw [Option.map_eq_none_iff, List.find?_eq_none]
  simp only [List.mem_map, not_exists, not_and, beq_iff_eq]
theorem get_some {us : Used V} {h : Int} {v : V} (e : get us h = some v) : h ∈ keys us := by
  apply Classical.byContradiction
  intro hn
  rw [get_none.2 hn] at e; cases e
theorem get_map (f : V → U) (us : Used V) (h : Int) : get (us.map fun p => (p.1, f p.2)) h = (get us h).map f := by
  unfold get
  rw [List.find?_map]
  simp only [Function.comp_def, Option.map_map]
theorem jE (h : Int) (v : V) (us : Used V) (x : Int) : x ∈ keys (ins h v us) ↔ x = h ∨ x ∈ keys us := by
  induction us with
  | nil => simp [ins, keys]
  | cons p r ih =>
    unfold ins
    split
    ·simp [keys]
    rw [keys_cons, keys_cons, List.mem_cons, List.mem_cons, ih]
    constructor
    ·rintro (h1 | h1 | h1)
     ·exact .inr (.inl h1)
     ·exact .inl h1
     exact .inr (.inr h1)
    rintro (h1 | h1 | h1)
    ·exact .inr (.inl h1)
    ·exact .inl h1
    exact .inr (.inr h1)
theorem r9 {h : Int} {v : V} {us : Used V} (hr : ck (keys us)) (hn : h ∉ keys us) : ck (keys (ins h v us)) := by
  induction us with
  | nil => simp [ins, keys, ck]
  | cons p r ih =>
    unfold ck at *
    rw [keys_cons, List.pairwise_cons] at hr
    rw [keys_cons, List.mem_cons, not_or] at hn
    unfold ins
    split
    ·rename_i hlt
     rw [keys_cons, keys_cons, List.pairwise_cons, List.pairwise_cons]
     refine ⟨?_, hr⟩
     intro x hx
     rcases List.mem_cons.1 hx with e | e
     ·rw [e]; exact hlt
     have := hr.1 x e; show h < x; omega
    rename_i hlt
    rw [keys_cons, List.pairwise_cons]
    refine ⟨fun x hx => ?_, ih hr.2 hn.2⟩
    rcases (jE h v r x).1 hx with e | e
    ·rw [e]; have := hn.1; omega
    exact hr.1 x e
theorem oZ {h : Int} {v : V} {us : Used V} (hn : h ∉ keys us) (x : Int) : get (ins h v us) x = if x = h then some v else get us x := by
  induction us with
  | nil =>
    by_cases e : x = h
    ·subst e; simp [ins, get]
    simp [ins, get, e, Ne.symm e]
  | cons p r ih =>
    rw [keys_cons, List.mem_cons, not_or] at hn
    unfold ins
    split
    ·unfold get
     by_cases e : x = h
     ·subst e; simp
     simp [e, Ne.symm e]
    have ih' := ih hn.2
    unfold get at ih' ⊢
    rw [List.find?_cons, List.find?_cons]
    by_cases e : p.1 = x
    ·have : x ≠ h := by rintro rfl; exact hn.1 e.symm
     simp [e, this]
    simp only [show (p.1 == x) = false by simpa using e]
    exact ih'
theorem gq (h : Int) (v : V) (us : Used V) : (ins h v us).length = us.length + 1 := by
  induction us with
  | nil => rfl
  | cons p r ih => unfold ins; split <;> simp [ih]
theorem H7 {h : Int} {v : V} {us : Used V} (hl : ∀ x ∈ keys us, x < h) : ins h v us = us ++ [(h, v)] := by
  induction us with
  | nil => rfl
  | cons p r ih =>
    rw [keys_cons] at hl
    have h1 := hl p.1 (by simp)
    unfold ins
    rw [if_neg (by omega), ih (fun x hx => hl x (by simp [hx]))]
    rfl
theorem DC (f : V → U) (h : Int) (v : V) (us : Used V) : (ins h v us).map (fun p => (p.1, f p.2)) = ins h (f v) (us.map fun p => (p.1, f p.2)) := by
  induction us with
  | nil => rfl
  | cons p r ih => unfold ins; simp only [List.map_cons]; split <;> simp_all
theorem DE (f : V → U) (h : Int) (us : Used V) : (del h us).map (fun p => (p.1, f p.2)) = del h (us.map fun p => (p.1, f p.2)) := by
  unfold del; rw [List.filter_map]; rfl
theorem lC (h : Int) (us : Used V) : keys (del h us) = (keys us).filter (· != h) := by
  unfold keys del; rw [List.filter_map]; rfl
theorem rC (h : Int) (us : Used V) (x : Int) : get (del h us) x = if x = h then none else get us x := by
  by_cases e : x = h
  ·subst e
   rw [if_pos rfl, get_none, lC]
   simp
  rw [if_neg e]
  unfold get del
  rw [List.find?_filter]
  congr 2
  funext p
  by_cases e2 : p.1 = x
  ·simp [e2, e]
  simp [e2]
theorem mU {h : Int} {us : Used V} (hr : ck (keys us)) (hm : h ∈ keys us) : (del h us).length + 1 = us.length := by
  induction us with
  | nil => simp [keys] at hm
  | cons p r ih =>
    unfold ck at *
    rw [keys_cons, List.pairwise_cons] at hr
    unfold del at ih ⊢
    rw [List.filter_cons]
    by_cases e : p.1 = h
    ·have : r.filter (fun q => q.1 != h) = r := by
       rw [List.filter_eq_self]
       intro q hq
       have := hr.1 q.1 (List.mem_map_of_mem hq)
       simp; omega
     simp [e, this]
    rw [keys_cons, List.mem_cons] at hm
    have := ih hr.2 (hm.resolve_left (Ne.symm e))
    simp [e]; omega
theorem kG : ∀ (ks : List Int) (h : Int), ck ks → (∀ x ∈ ks, h ≤ x) → h ≤ fU h ks ∧ fU h ks ∉ ks ∧ ∀ x, h ≤ x → x < fU h ks → x ∈ ks
  | [], h, _, _ => ⟨Int.le_refl _, by simp [fU], fun x h1 h2 => by simp [fU] at h2; omega⟩
  | k :: r, h, hr, hge => by
    unfold ck at hr
    rw [List.pairwise_cons] at hr
    unfold fU
    by_cases e : k = h
    ·rw [if_pos e]
     obtain ⟨i1, i2, i3⟩ := kG r (h + 1) hr.2 (fun x hx => by have := hr.1 x hx; omega)
     refine ⟨by omega, ?_, fun x h1 h2 => ?_⟩
     ·rw [List.mem_cons, not_or]; exact ⟨by omega, i2⟩
     by_cases e2 : x = h
     ·rw [e2, ← e]; simp
     exact List.mem_cons_of_mem _ (i3 x (by omega) h2)
    rw [if_neg e]
    refine ⟨Int.le_refl _, ?_, fun x h1 h2 => by omega⟩
    rw [List.mem_cons, not_or]
    refine ⟨Ne.symm e, fun hm => ?_⟩
    have h1 := hr.1 h hm
    have h2 := hge k (by simp)
    omega
theorem tT {us : Used V} (hr : ck (keys us)) (hp : ∀ x ∈ keys us, 1 ≤ x) {h : Int} (h1 : 1 ≤ h) (hn : h ∉ keys us) (hall : ∀ x, 1 ≤ x → x < h → x ∈ keys us) : least us = h := by
  obtain ⟨i1, i2, i3⟩ := kG (keys us) 1 hr hp
  unfold least
  rcases Int.lt_trichotomy (fU 1 (keys us)) h with hlt | he | hgt
  ·exact absurd (hall _ i1 hlt) i2
  ·exact he
  exact absurd (i3 h h1 hgt) hn
theorem TI.empty : TI 1 [] ([] : Used V) :=
  ⟨List.Pairwise.nil, by simp [keys], by simp, fun h h1 h2 => by omega, rfl, fun i h1 h2 => by simp at h2, fun a b h1 => by simp at h1⟩
theorem TI.wZ {next : Int} {us : Used V} (h : TI next [] us) : least us = next := by
  have hc := h.count
  simp at hc
  refine tT h.rise (fun x hx => (h.pos x hx).1) (by omega) (fun hm => ?_) (fun x h1 h2 => (h.all x h1 h2).resolve_right (by simp))
  have := (h.pos _ hm).2; omega
theorem TI.H9 {next : Int} {us : Used V} (h : TI next [] us) (v : V) : TI (next + 1) [] (ins next v us) := by
  have hc := h.count
  simp at hc
  have hn : next ∉ keys us := fun hm => by have := (h.pos _ hm).2; omega
  refine ⟨r9 h.rise hn, fun x hx => ?_, by simp, fun x h1 h2 => ?_, by rw [gq]; simp; omega, fun i h1 h2 => by simp at h2, fun a b h1 => by simp at h1⟩
  ·rcases (jE next v us x).1 hx with e | e
   ·omega
   have := h.pos x e; omega
  by_cases e : x = next
  ·exact .inl ((jE next v us x).2 (.inl e))
  exact .inl ((jE next v us x).2 (.inr ((h.all x h1 (by omega)).resolve_right (by simp))))
theorem TI.xg {next : Int} {l : List Int} {us : Used V} (h : TI next l us) (hl : 0 < l.length) : least us = at_ l 0 := by
  have hm : at_ l 0 ∈ l := pJ.2 ⟨0, hl, rfl⟩
  obtain ⟨b1, b2, b3⟩ := h.back _ hm
  refine tT h.rise (fun x hx => (h.pos x hx).1) b1 b3 (fun x h1 h2 => (h.all x h1 (by omega)).resolve_right (fun hx => ?_))
  obtain ⟨k, hk, e⟩ := pJ.1 hx
  have := HeapM.least h.heap k hk
  omega
theorem TI.Ia {next : Int} {l l' : List Int} {us : Used V} (h : TI next l us) (hl : 0 < l.length) (v : V) (hlen : l'.length + 1 = l.length) (hp : Hp l'.length l') (hi : tR l') (hm : ∀ x, x ∈ l' ↔ x ∈ l ∧ x ≠ at_ l 0) :
    TI next l' (ins (at_ l 0) v us) := by
  have h0 : at_ l 0 ∈ l := pJ.2 ⟨0, hl, rfl⟩
  obtain ⟨b1, b2, b3⟩ := h.back _ h0
  have hc := h.count
  refine ⟨r9 h.rise b3, fun x hx => ?_, fun x hx => ?_, fun x h1 h2 => ?_, by rw [gq]; push_cast; omega, hp, hi⟩
  ·rcases (jE _ v us x).1 hx with e | e
   ·omega
   exact h.pos x e
  ·have hx' := (hm x).1 hx
   have := h.back x hx'.1
   refine ⟨this.1, this.2.1, fun hk => ?_⟩
   rcases (jE _ v us x).1 hk with e | e
   ·exact hx'.2 e
   exact this.2.2 e
  by_cases e : x = at_ l 0
  ·exact .inl ((jE _ v us x).2 (.inl e))
  rcases h.all x h1 h2 with h3 | h3
  ·exact .inl ((jE _ v us x).2 (.inr h3))
  exact .inr ((hm x).2 ⟨h3, e⟩)
theorem TI.drop {next h0 : Int} {l l' : List Int} {us : Used V} (h : TI next l us) (hm : h0 ∈ keys us) (hs : Same (l ++ [h0]) l') (hp : Hp l'.length l') : TI next l' (del h0 us) := by
  obtain ⟨p1, p2⟩ := h.pos _ hm
  have hn : h0 ∉ l := fun hx => (h.back _ hx).2.2 hm
  have hlen := hs.len
  rw [List.length_append, List.length_singleton] at hlen
  have hc := h.count
  have hd := mU h.rise hm
  refine ⟨?_, fun x hx => ?_, fun x hx => ?_, fun x h1 h2 => ?_, by omega, hp, hs.inj ?_⟩
  ·rw [lC]; exact List.Pairwise.filter _ h.rise
  ·rw [lC, List.mem_filter] at hx
   exact h.pos x hx.1
  ·rw [hs.mem, List.mem_append, List.mem_singleton] at hx
   rw [lC, List.mem_filter]
   rcases hx with hx | hx
   ·have := h.back x hx
    exact ⟨this.1, this.2.1, fun hk => this.2.2 hk.1⟩
   subst hx
   exact ⟨p1, p2, fun hk => by simp at hk⟩
  ·rw [lC, List.mem_filter, hs.mem, List.mem_append, List.mem_singleton]
   rcases h.all x h1 h2 with h3 | h3
   ·by_cases e : x = h0
    ·exact .inr (.inr e)
    exact .inl ⟨h3, by simpa using e⟩
   exact .inr (.inl h3)
  intro a b ha hb e
  rw [List.length_append, List.length_singleton] at ha hb
  have g : ∀ k, k < l.length → at_ (l ++ [h0]) k = at_ l k := fun k hk => by
    unfold at_; rw [List.getD_eq_getElem?_getD, List.getD_eq_getElem?_getD, List.getElem?_append_left hk]
  have g2 : at_ (l ++ [h0]) l.length = h0 := by unfold at_; simp [List.getD_eq_getElem?_getD]
  have inl : ∀ k, k < l.length → at_ l k ≠ h0 := fun k hk e => hn (e ▸ pJ.2 ⟨k, hk, rfl⟩)
  by_cases ha' : a < l.length
  ·by_cases hb' : b < l.length
   ·rw [g a ha', g b hb'] at e; exact h.inj a b ha' hb' e
   obtain rfl : b = l.length := by omega
   rw [g a ha', g2] at e; exact absurd e (inl a ha')
  obtain rfl : a = l.length := by omega
  by_cases hb' : b < l.length
  ·rw [g b hb', g2] at e; exact absurd e.symm (inl b hb')
  omega
end Go.Proofs.YtkiedlmhocglhaaGreatDoor.TabM
end
namespace Go.Proofs.YtkiedlmhocglhaaGreatDoor
section
open Go.RowKit HeapM TabM Go.Maps
def aP (us : Used Value) : Lit → Option Value
  | .int .i64 h => TabM.get us h
  | _ => none
theorem yZ {us : Used Value} {h : Int} (hn : h ∉ keys us) (v : Value) : jK (aP us) (.int .i64 h) (some v) = aP (ins h v us) := by
  funext x
  unfold jK aP
  cases x with
  | int k n =>
    by_cases hk : k = .i64
    ·subst hk
     simp only [Lit.sameKey, true_and, decide_eq_true_eq]
     rw [oZ hn]
    have e : (Lit.int k n).sameKey (.int .i64 h) = false := by simp [Lit.sameKey, hk]
    rw [e]
    cases k <;> first | rfl | exact absurd rfl hk
  | _ => rfl
theorem DF {us : Used Value} {h : Int} : jK (aP us) (.int .i64 h) none = aP (del h us) := by
  funext x
  unfold jK aP
  cases x with
  | int k n =>
    by_cases hk : k = .i64
    ·subst hk
     simp only [Lit.sameKey, true_and, decide_eq_true_eq]
     rw [rC]
    have e : (Lit.int k n).sameKey (.int .i64 h) = false := by simp [Lit.sameKey, hk]
    rw [e]
    cases k <;> first | rfl | exact absurd rfl hk
  | _ => rfl
structure Ol (TT : TypeId) (t m base : Nat) (v : Value) (l : List Int) (next most ay : Int) (us : Used Value) (w : World) : Prop where
  blk : w.heap[t]? = some (.cells #[.int .i64 most, .int .i64 ay, .map (some m), v, .int .i64 next] TT (0, 0))
  map : dW Tryz.prog 3 w m (aP us) us.length
  own : w.ownsRow base 3 1 v l.length (ints l)
  ti : TI next l us
  qu : (us.length : Int) ≤ most
  qv : most ≤ 1024
  qw : next ≤ most + 1
  tt : TT ≠ 3
  bt : base ≤ t
  bm : base ≤ m
  si : 0 ≤ ay ∧ ay ≤ 1024
def QB (TT : TypeId) (t m base : Nat) (row : Option Nat) (most ay : Int) (us : Used Value) (w : World) : Prop :=
  ∃ v l next, Ol TT t m base v l next most ay us w ∧ v.ownBlock = row
section tab
variable {TT : TypeId} {t m base : Nat} {v : Value} {l : List Int} {next most ay : Int} {us : Used Value} {w w' : World} {row : Option Nat}
end tab
end
section
open Go.RowKit HeapM TabM Go.Maps
theorem Spec.Nz {P : Program} {β : Bs} {f : FuncId} {args : Array Value} {pre : List HP} {post : Value → List HP → Prop}
    (h : ∀ F w, (Proofs.YtkiedlmhocglhaaGreatDoor.bund pre).h F w → Calls P f args w fun e w' => ∃ v l, e = .returned v ∧ post v l ∧ ∃ F', (Proofs.YtkiedlmhocglhaaGreatDoor.bund l).h F' w' ∧ Step F w F' w') : Spec P β f args pre post := by
  intro R w hS
  have h1 : Sat β ([.abs (Proofs.YtkiedlmhocglhaaGreatDoor.bund pre)] ++ [.abs R]) w := Sat.turn (Sat.turn hS).bund
  have h2 : Spec P β f args [.abs (Proofs.YtkiedlmhocglhaaGreatDoor.bund pre)] (fun v l => ∃ l0, post v l0 ∧ l = [.abs (Proofs.YtkiedlmhocglhaaGreatDoor.bund l0)]) :=
    Spec.O7 (fun F w hF => (h F w hF).mono fun _ _ ⟨v, l, e, hp, hF'⟩ => ⟨v, .abs (Proofs.YtkiedlmhocglhaaGreatDoor.bund l), e, ⟨l, hp, rfl⟩, hF'⟩)
  refine (h2 R w h1).mono ?_
  rintro e w' ⟨v, l, he, ⟨l0, hp, rfl⟩, ox⟩
  exact ⟨v, l0, he, hp, Sat.turn (Sat.turn ox).wO⟩
theorem AV {p q : HP} {F : Fp} {w : World} : (bund [p, q]).h F w ↔ ∃ F1 F2, p.h F1 w ∧ q.h F2 w ∧ Apart F1 F2 ∧ ∀ k, F k ↔ F1 k ∨ F2 k := by
  constructor
  ·rintro ⟨φ, h1, h2, h3⟩
   refine ⟨φ 0, φ 1, h1 0 p rfl, h1 1 q rfl, h2 0 1 (by simp) (by simp) (by decide), fun k => (h3 k).trans ⟨fun ⟨i, hi, hk⟩ => ?_, fun h => ?_⟩⟩
   ·have hi : i < 2 := hi
    rcases (by omega : i = 0 ∨ i = 1) with rfl | rfl
    ·exact .inl hk
    exact .inr hk
   rcases h with h | h
   ·exact ⟨0, by simp, h⟩
   exact ⟨1, by simp, h⟩
  rintro ⟨F1, F2, h1, h2, h3, h4⟩
  refine ⟨fun i => if i = 0 then F1 else F2, fun i x hx => ?_, fun i j hi hj hne => ?_, fun k => (h4 k).trans ⟨fun h => ?_, fun ⟨i, hi, hk⟩ => ?_⟩⟩
  ·match i, hx with
   | 0, hx => cases hx; exact h1
   | 1, hx => cases hx; exact h2
  ·have hi : i < 2 := hi
   have hj : j < 2 := hj
   rcases (by omega : (i = 0 ∧ j = 1) ∨ (i = 1 ∧ j = 0)) with ⟨rfl, rfl⟩ | ⟨rfl, rfl⟩
   ·exact h3
   exact h3.symm
  ·rcases h with h | h
   ·exact ⟨0, by simp, h⟩
   exact ⟨1, by simp, h⟩
  have hi : i < 2 := hi
  rcases (by omega : i = 0 ∨ i = 1) with rfl | rfl
  ·exact .inl hk
  exact .inr hk
theorem Sat.M4 {β : Bs} {l : List HP} {w : World} {A : bR} {ι : Type} {Φ : ι → Prop} {L : ι → List HP} (h : Sat β (l ++ [.abs A]) w) (hA : ∀ F, A.h F w → ∃ i, Φ i ∧ (Proofs.YtkiedlmhocglhaaGreatDoor.bund (L i)).h F w) : ∃ i, Φ i ∧ Sat β (l ++ L i) w := by
  obtain ⟨F, hF⟩ := h.get (i := l.length) (p := .abs A) (by simp)
  have h0 := h
  obtain ⟨ho, φ, h1, h2, h3⟩ := h
  obtain ⟨i, hi, hB⟩ := hA _ (h1 l.length (.abs A) (by simp))
  refine ⟨i, hi, Sat.wO ⟨ho, φ, fun j p hp => ?_, fun j hj => h2 j (by simpa using hj), fun a b ha hb => h3 a b (by simpa using ha) (by simpa using hb)⟩⟩
  by_cases e : j < l.length
  ·rw [List.getElem?_append_left e] at hp
   exact h1 j p (by rw [List.getElem?_append_left e]; exact hp)
  have hj : j = l.length := by have := bA hp; simp at this; omega
  subst hj
  simp at hp
  subst hp
  exact hB
theorem Sat.Lg {β : Bs} {l R : List HP} {w : World} {A : bR} (h : Sat β (l ++ R) w) (hA : ∀ F, (Proofs.YtkiedlmhocglhaaGreatDoor.bund R).h F w → A.h F w) : Sat β (l ++ [.abs A]) w := by
  obtain ⟨ho, φ, h1, h2, h3⟩ := h.bund
  refine ⟨ho, φ, fun j p hp => ?_, fun j hj => h2 j (by simpa using hj), fun a b ha hb => h3 a b (by simpa using ha) (by simpa using hb)⟩
  by_cases e : j < l.length
  ·rw [List.getElem?_append_left e] at hp
   exact h1 j p (by rw [List.getElem?_append_left e]; exact hp)
  have hj : j = l.length := by have := bA hp; simp at this; omega
  subst hj
  simp at hp
  subst hp
  exact hA _ (h1 l.length (.abs (Proofs.YtkiedlmhocglhaaGreatDoor.bund R)) (by simp))
section rules
variable {P : Program} {β : Bs} {N : Nat} {ops : Array Oper} {k : Nat} {fr : Fr} {hps : List HP} {Q : Post} {c : Code} {e : Exit}
theorem af.y4 {ι : Type} {Φ : ι → Prop} {hp : ι → List HP} (h : ∀ w, Sat β hps w → ∃ i, Φ i ∧ Sat β (hp i) w) (K : ∀ i, Φ i → af P β N c fr (hp i) Q) : af P β N c fr hps Q := fun junk w hS => let ⟨i, hi, cK⟩ := h w hS; K i hi junk w cK
end rules
theorem sU {w : World} {t j : Nat} {cs : List Value} {T : TypeId} {u : Value} (h : w.heap[t]? = some (.cells ⟨cs⟩ T (0, 0))) : (w.setCell ⟨t, j, none⟩ u).heap[t]? = some (.cells ⟨cs.set j u⟩ T (0, 0)) := by
  simp [World.setCell, Array.getElem?_modify, h, Array.setIfInBounds_def]
  exact fun h => (List.set_eq_of_length_le h).symm
theorem Lh {β : Bs} {T : TypeId} {a b c e : Value} {t g cap n : Nat} {l : List Int} (hl : l.length = n + 1) (hp : Hp (n + 1) l) (hi : tR l) (hm : n + 1 ≤ 1048576) :
    Spec Tryz.prog β 192 #[.iface 234 (.pointer (some ⟨t, 3, none⟩))] [.blk t [a, b, c, .slice (some ⟨g, 0, none⟩) l.length cap, e] T, .abs (aF 3 1 (some ⟨g, 0, none⟩) l.length cap (ints l))]
      (fun v r => v = .iface 3 (.int .i64 (at_ l 0)) ∧ ∃ l' : List Int, l'.length = n ∧ Hp n l' ∧ tR l' ∧ (∀ x, x ∈ l' ↔ x ∈ l ∧ x ≠ at_ l 0) ∧ r = [.blk t [a, b, c, .slice (some ⟨g, 0, none⟩) n cap, e] T, .abs (aF 3 1 (some ⟨g, 0, none⟩) n cap (ints l'))]) := by
  refine Spec.Nz (fun F w h => ?_)
  obtain ⟨F1, F2, ⟨h1, h2⟩, hr, hap, hF⟩ := AV.1 h
  have hr : (aF 3 1 (some ⟨g, 0, none⟩) l.length cap (ints l)).h F2 w := hr
  obtain ⟨hr1, hr2⟩ := hr
  have hg : F2 g := (hr2 g).2 rfl
  have hne : t ≠ g := fun e => hap t ((h2 t).2 rfl) (e ▸ hg)
  have hc : w.cell? ⟨t, 3, none⟩ = some (.slice (some ⟨g, 0, none⟩) l.length cap) ∧ w.frozen? ⟨t, 3, none⟩ = false := fq h1 rfl rfl rfl
  have hW : HW t 3 g cap 0 l w := ⟨hc.1, hr1, hne, lt_of_some h1⟩
  refine (H6 t 3 g cap 0 n l w hW hl hp hi hm hc.2).mono ?_
  rintro e' w' ⟨rfl, l', w1, g1, g2, g3, g4, g5, g6, rfl⟩
  have h1' : w1.heap[t]? = some (.cells ⟨[a, b, c, .slice (some ⟨g, 0, none⟩) l.length cap, e]⟩ T (0, 0)) := (g6.block t (lt_of_some h1) (fun e => hne e)).trans h1
  have hks : Keeps (· = t) w1 (w1.setCell ⟨t, 3, none⟩ (.slice (some ⟨g, 0, none⟩) n cap)) := (Keeps.refl (· = t) w1).setCell (p := ⟨t, 3, none⟩) (.inr rfl) _
  refine ⟨_, _, rfl, ⟨rfl, l', g1, g2, g3, g4, rfl⟩, F, AV.2 ⟨F1, F2, ⟨sU h1', h2⟩, ⟨hks.ownsRow g5 (fun k hk e => ?_), fun k => ?_⟩, hap, hF⟩, ⟨?_, fun _ h => .inl h⟩⟩
  ·cases hk; exact hne e.symm
  ·rw [hr2 k]; simp [Value.ownBlock]
  exact (g6.mono (S' := F) (fun k _ e => (hF k).2 (.inr (e ▸ hg)))).trans (hks.mono (fun k _ e => (hF k).2 (.inl ((h2 k).2 e))))
theorem Ki {β : Bs} {T : TypeId} {a b c e : Value} {t cap : Nat} {A : Option Addr} {l : List Int} (x : Int) (hp : Hp l.length l) (hm : l.length + 1 ≤ 1048576) :
    Spec Tryz.prog β 176 #[.iface 234 (.pointer (some ⟨t, 3, none⟩)), .iface 3 (.int .i64 x)] [.blk t [a, b, c, .slice A l.length cap, e] T, .abs (aF 3 1 A l.length cap (ints l))]
      (fun v r => v = .tuple #[] ∧ ∃ (g c' : Nat) (l' : List Int), Same (l ++ [x]) l' ∧ Hp l'.length l' ∧ r = [.blk t [a, b, c, .slice (some ⟨g, 0, none⟩) l'.length c', e] T, .abs (aF 3 1 (some ⟨g, 0, none⟩) l'.length c' (ints l'))]) := by
  refine Spec.Nz (fun F w h => ?_)
  obtain ⟨F1, F2, ⟨h1, h2⟩, hr, hap, hF⟩ := AV.1 h
  have hr : (aF 3 1 A l.length cap (ints l)).h F2 w := hr
  obtain ⟨hr1, hr2⟩ := hr
  have hc : w.cell? ⟨t, 3, none⟩ = some (.slice A l.length cap) ∧ w.frozen? ⟨t, 3, none⟩ = false := fq h1 rfl rfl rfl
  have hne : (Value.slice A l.length cap).ownBlock ≠ some t := fun e => hap t ((h2 t).2 rfl) ((hr2 t).2 e)
  refine (FX t 3 0 (.slice A l.length cap) l x w hc.1 hc.2 hr1 hne hm (Nat.zero_le _) hp (lt_of_some h1)).mono ?_
  rintro e' w' ⟨rfl, g, c', l', g1, g2, g3, g4, w1, g5, g6⟩
  have DG : t ≠ g := g3.ne
  have hlen : l'.length = l.length + 1 := by have := g1.len; simp at this; omega
  have h1' : w1.heap[t]? = some (.cells ⟨[a, b, c, .slice A l.length cap, e]⟩ T (0, 0)) := (g5.block t (lt_of_some h1) hne).trans h1
  have Li := sU (j := 3) (u := .slice (some ⟨g, 0, none⟩) (l.length + 1) c') h1'
  have Om : w'.heap[t]? = some (.cells ⟨[a, b, c, .slice (some ⟨g, 0, none⟩) l'.length c', e]⟩ T (0, 0)) := by
    rw [hlen]; exact (g6.block t (lt_of_some Li) DG).trans Li
  have hks : Keeps (· = t) w1 (w1.setCell ⟨t, 3, none⟩ (.slice (some ⟨g, 0, none⟩) (l.length + 1) c')) := (Keeps.refl (· = t) w1).setCell (p := ⟨t, 3, none⟩) (.inr rfl) _
  refine ⟨_, _, rfl, ⟨rfl, g, c', l', g1, g2, rfl⟩, fun k => F1 k ∨ k = g, AV.2 ⟨F1, fun k => k = g, ⟨Om, h2⟩, ⟨g3.own, fun k => ?_⟩, fun k hk e => DG (((h2 k).1 hk).symm.trans e), fun k => Iff.rfl⟩, ⟨?_, fun k hk => ?_⟩⟩
  ·simp [Value.ownBlock, eq_comm]
  ·have k1 : Keeps F w w1 := g5.mono (fun k _ hk => (hF k).2 (.inr ((hr2 k).2 hk)))
   have k2 : Keeps F w (w1.setCell ⟨t, 3, none⟩ (.slice (some ⟨g, 0, none⟩) (l.length + 1) c')) := k1.trans (hks.mono (fun k _ e => (hF k).2 (.inl ((h2 k).2 e))))
   exact k2.andThen g6 (fun i hi e => by
     rcases g4 with g4 | g4
     ·exact (hF i).2 (.inr ((hr2 i).2 (e ▸ g4)))
     subst e; omega)
  rcases hk with hk | rfl
  ·exact .inl ((hF k).2 (.inl hk))
  rcases g4 with g4 | g4
  ·exact .inl ((hF _).2 (.inr ((hr2 _).2 g4)))
  exact .inr g4
structure fK (next : Int) (l : List Int) (us : Used Value) (most ay : Int) : Prop where
  ti : TI next l us
  qu : (us.length : Int) ≤ most
  qv : most ≤ 1024
  qw : next ≤ most + 1
  uT : next ≤ ay + 1
  si : 0 ≤ ay ∧ ay ≤ 1024
theorem fK.DH {next : Int} {l : List Int} {us : Used Value} {most ay : Int} (h : fK next l us most ay) : 1 ≤ TabM.least us ∧ TabM.least us ≤ next ∧ TabM.least us ∉ keys us ∧ next ≤ 1025 ∧ 1 ≤ next ∧ us.length ≤ 1024 ∧ l.length ≤ 1024 := by
  obtain ⟨h1, h2, h3⟩ := kG (keys us) 1 h.ti.rise (fun x hx => (h.ti.pos x hx).1)
  have hc := h.ti.count
  have m0 := h.qu
  have m1 := h.qv
  have n1 := h.qw
  refine ⟨h1, ?_, h2, by omega, by omega, by omega, by omega⟩
  rcases Int.lt_or_le next (TabM.least us) with h4 | h4
  ·have := h3 next (by omega) h4
   have := (h.ti.pos _ this).2
   omega
  exact h4
theorem BS : aP [] = fun _ => none := by
  funext x
  unfold aP
  split <;> rfl
theorem Aa {us : Used Value} {h : Int} (hn : h ∉ keys us) : aP us (.int .i64 h) = none := get_none.2 hn
structure TX where
  m : Nat
  A : Option Addr
  c : Nat
  l : List Int
  next : Int
def kf (TT : TypeId) (t : Nat) (most ay : Int) (us : Used Value) (x : TX) : List HP :=
  [.blk t [.int .i64 most, .int .i64 ay, .map (some x.m), .slice x.A x.l.length x.c, .int .i64 x.next] TT, .abs (aH Tryz.prog 3 x.m (aP us) us.length), .abs (aF 3 1 x.A x.l.length x.c (ints x.l))]
def aZ (TT : TypeId) (t : Nat) (most ay : Int) (us : Used Value) : bR where
  h F w := ∃ x : TX, fK x.next x.l us most ay ∧ (bund (kf TT t most ay us x)).h F w
  lt := fun ⟨_, _, h⟩ k hk => bR.lt _ h k hk
  st := fun ⟨x, h1, h⟩ _ _ hk hn => ⟨x, h1, bR.st _ h hk hn⟩
theorem Sat.o3 {β : Bs} {TT : TypeId} {t : Nat} {most ay : Int} {us : Used Value} {l : List HP} {w : World} (h : Sat β (l ++ [.abs (aZ TT t most ay us)]) w) : ∃ x : TX, fK x.next x.l us most ay ∧ Sat β (l ++ kf TT t most ay us x) w :=
  h.M4 (fun _ h => h)
theorem Sat.kg {β : Bs} {TT : TypeId} {t : Nat} {most ay : Int} {us : Used Value} {l : List HP} {w : World} (x : TX) (hx : fK x.next x.l us most ay) (h : Sat β (l ++ kf TT t most ay us x) w) : Sat β (l ++ [.abs (aZ TT t most ay us)]) w :=
  h.Lg (fun _ h => ⟨x, hx, h⟩)
end
section
open Go.RowKit Go.Maps Go.Sort Go.Shelf HeapM TabM
theorem gX {z : Int} (h : (Lit.int .i64 z).wf = true) : keyOf Tryz.prog 3 (.int .i64 z) = some (.int .i64 z) :=
  keyOf_int_mk Tryz.underlying3 h
theorem Ab : ∀ {l m : List Int}, l.Pairwise (· < ·) → m.Pairwise (· < ·) → (∀ z, z ∈ l ↔ z ∈ m) → l = m
  | [], [], _, _, _ => rfl
  | [], b :: m, _, _, h => by have := (h b).2 (List.mem_cons_self ..); cases this
  | a :: l, [], _, _, h => by have := (h a).1 (List.mem_cons_self ..); cases this
  | a :: l, b :: m, hl, hm, h => by
    have hl' := List.pairwise_cons.1 hl
    have hm' := List.pairwise_cons.1 hm
    have e : a = b := by
      rcases List.mem_cons.1 ((h a).1 (List.mem_cons_self ..)) with e | e
      ·exact e
      rcases List.mem_cons.1 ((h b).2 (List.mem_cons_self ..)) with e2 | e2
      ·exact e2.symm
      have := hm'.1 a e; have := hl'.1 b e2; omega
    subst e
    congr 1
    refine Ab hl'.2 hm'.2 (fun z => ⟨fun hz => ?_, fun hz => ?_⟩)
    ·rcases List.mem_cons.1 ((h z).1 (List.mem_cons_of_mem _ hz)) with e | e
     ·have := hl'.1 z hz; omega
     exact e
    rcases List.mem_cons.1 ((h z).2 (List.mem_cons_of_mem _ hz)) with e | e
    ·have := hm'.1 z hz; omega
    exact e
theorem Em (x y : Int) : (if y > x then y else x) = max x y := by
  rw [Int.max_def]; split <;> split <;> omega
theorem Jz (x y : Int) : (if y < x then y else x) = min x y := by
  rw [Int.min_def]; split <;> split <;> omega
theorem Lj (m : Nat) : AnyZI.SortsIn Tryz.prog Tryz.sortedI_ren Fence.wide m :=
  ⟨fun blk off cap ss W hH hblk hsz => callsIn_wide.2 (AnyM.slices_Sort_int Tryz.sortI blk off cap ss W hH hblk hsz),
   fun p cap W => callsIn_wide.2 (AnyM.slices_Sort_int_none Tryz.sortI p cap W)⟩
def xh (bk : Nat) : Value := .func (.func 74) #[] #[.pointer (some ⟨bk, 0, none⟩)]
theorem BU {β : Bs} (mb : Option Nat) : Spec Tryz.prog β 41 #[.map mb] [] (fun v l => ∃ bk, v = xh bk ∧ l = [.blk bk [.map mb] 80]) :=
  Spec.Bk fun W _ => by
    have h : CallsIn Fence.wide 5 Tryz.prog 41 #[.map mb] W fun e w' => e = .returned (xh W.heap.size) ∧ w' = W.alloc (.cells #[.map mb] 80) := AnyZI.keys_in Tryz.keysI Fence.wide 5 trivial rfl mb W
    refine ((callsIn_wide (n := 5)).1 h).mono ?_
    rintro e w' ⟨rfl, rfl⟩
    refine ⟨_, _, rfl, ⟨W.heap.size, rfl, rfl⟩, (Keeps.refl _ _).alloc _, fun k => k = W.heap.size, ⟨?_, fun k => Iff.rfl⟩, fun k hk => Nat.le_of_eq hk.symm⟩
    show (W.heap.push _)[W.heap.size]? = _
    simp
structure KeysOf (f : Lit → Option Value) (ss : List Int) : Prop where
  mem : ∀ z, z ∈ ss ↔ (f (.int .i64 z)).isSome = true
  sorted : ss.Pairwise (· < ·)
theorem En {w : World} {b n : Nat} {K : TypeId} {f : Lit → Option Value} {D : DataW Value} (hK : Tryz.prog.underlying K = some (.int .i64)) (L : Keyed Tryz.prog K) (hown : w.ownsMap Tryz.prog K oG b n D) (hf : ∀ kl, Maps.has D kl = (f kl).isSome) {ss : List Int} (hp : ss.Perm (intKeys D)) :
    KeysOf f (ss.mergeSort (fun x y => decide (x ≤ y))) := by
  obtain ⟨es, hD, hpw, _⟩ := hown.entries L
  obtain ⟨es', hD', hko⟩ := hown.keysOf
  obtain rfl : es = es' := by rw [hD] at hD'; simpa using hD'
  have hk : ∀ p ∈ es, ∃ x, p.1 = .int .i64 x := fun p hp => by
    obtain ⟨v, hv⟩ := hko p hp
    obtain ⟨x, _, h, _⟩ := keyOf_i64 hK hv
    exact ⟨x, h⟩
  have hmem : ∀ z, z ∈ intKeys D ↔ (f (.int .i64 z)).isSome = true := fun z => by
    rw [← hf, hD]
    show z ∈ es.map (fun p => Go.intOf p.1) ↔ es.any (fun p => p.1.sameKey (.int .i64 z)) = true
    rw [List.mem_map, List.any_eq_true]
    refine ⟨fun ⟨p, hp, e⟩ => ⟨p, hp, ?_⟩, fun ⟨p, hp, e⟩ => ⟨p, hp, ?_⟩⟩
    ·obtain ⟨x, hx⟩ := hk p hp
     rw [hx] at e ⊢
     have e : x = z := e
     simp [Lit.sameKey, e]
    obtain ⟨x, hx⟩ := hk p hp
    rw [hx] at e ⊢
    show x = z
    simpa [Lit.sameKey] using e
  have hnd : (intKeys D).Nodup := by
    rw [hD]
    show (es.map fun p => Go.intOf p.1).Nodup
    rw [List.nodup_iff_pairwise_ne, List.pairwise_map]
    refine hpw.imp_of_mem (fun {p q} hp hq hne e => hne ?_)
    obtain ⟨x, hx⟩ := hk p hp
    obtain ⟨y, hy⟩ := hk q hq
    rw [hx, hy] at e ⊢
    have e : x = y := e
    rw [e]
  have tr : ∀ a b c : Int, decide (a ≤ b) = true → decide (b ≤ c) = true → decide (a ≤ c) = true := fun a b c h1 h2 => by simp only [decide_eq_true_eq] at *; omega
  have to : ∀ a b : Int, (decide (a ≤ b) || decide (b ≤ a)) = true := fun a b => by simp only [Bool.or_eq_true, decide_eq_true_eq]; omega
  have hperm := (List.mergeSort_perm ss (fun x y => decide (x ≤ y))).trans hp
  refine ⟨fun z => by rw [hperm.mem_iff, hmem], ?_⟩
  have h1 := List.pairwise_mergeSort tr to ss
  have h2 : (ss.mergeSort (fun x y => decide (x ≤ y))).Nodup := hperm.nodup_iff.2 hnd
  rw [List.nodup_iff_pairwise_ne] at h2
  refine (h1.and h2).imp (fun {a b} h => ?_)
  have h3 := h.1
  have h4 := h.2
  simp only [decide_eq_true_eq] at h3
  omega
theorem xj {β : Bs} (b bk n : Nat) (f : Lit → Option Value) (hn : n ≤ 16777216) :
    Spec Tryz.prog β 40 #[xh bk] [.abs (aH Tryz.prog 3 b f n), .blk bk [.map (some b)] 80] (fun v l => ∃ A cap ss, v = .slice A ss.length cap ∧ KeysOf f ss ∧ ss.length = n ∧
      l = [.abs (aH Tryz.prog 3 b f n), .blk bk [.map (some b)] 80, .abs (aF 3 1 A ss.length cap (ints ss))]) := by
  intro R w hS
  obtain ⟨F1, h1⟩ := hS.get (i := 0) (p := .abs (aH Tryz.prog 3 b f n)) rfl
  obtain ⟨F2, h2⟩ := hS.get (i := 1) (p := .blk bk [.map (some b)] 80) rfl
  obtain ⟨D, hown, hsz, hhas, _⟩ := h1.1
  have hcell : w.cell? ⟨bk, 0, none⟩ = some (.map (some b)) := (fq h2.1 rfl rfl rfl).1
  have hseq : SeqGives Fence.wide 2 Tryz.prog 74 #[.pointer (some ⟨bk, 0, none⟩)] encZ (fun ss => ss.Perm (intKeys D)) (Maps.size D) w :=
    AnyZI.keys_gives (ρ := Tryz.keysI_ren) { Tryz.keysI with } Fence.wide _ trivial rfl (by omega) bk b n D w (lt_of_some h2.1) hcell hown
  have cS := AnyZI.sorted_in Tryz.sortedI Fence.wide 5 trivial trivial trivial trivial rfl (by omega) (Lj _) (enters_of Tryz.func73 (by kernel_rfl) rfl) 74 #[.pointer (some ⟨bk, 0, none⟩)] trivial (enters_of Tryz.func74 (by kernel_rfl) rfl) _ _ (by rw [hsz]; unfold maxLen; omega) (by rw [hsz]; omega) _ hseq
  change CallsIn _ _ Tryz.prog 40 _ _ _ at cS
  refine ((callsIn_wide (n := 5)).1 cS).mono ?_
  rintro e w' ⟨v, ss, rfl, hp, hrow, hnil, hb⟩
  have hlen : (ss.mergeSort (fun x y => decide (x ≤ y))).length = ss.length := List.length_mergeSort ss
  have hkeys := En Tryz.underlying3 dz hown hhas hp
  have tB : ∃ A cap, v = .slice A ss.length cap := by
    rcases hrow.2 with ⟨e1, e2⟩ | ⟨g, cp, cur, e1, _⟩
    ·exact ⟨none, 0, by rw [e1, e2]⟩
    exact ⟨_, cp, e1⟩
  obtain ⟨A, cap, rfl⟩ := tB
  have hn1 : ss.length = n := by
    rw [hp.length_eq, ← hsz]
    obtain ⟨es, hD, _⟩ := hown.entries dz
    rw [hD]
    exact List.length_map ..
  have hq : Sat β ([.abs (aH Tryz.prog 3 b f n), .blk bk [.map (some b)] 80, .abs R] ++ [.abs (aF 3 1 A ss.length cap (ints (ss.mergeSort (fun x y => decide (x ≤ y)))))]) w' := by
    refine Sat.new (F := fun k => (Value.slice A ss.length cap).ownBlock = some k) hS ⟨?_, fun k => Iff.rfl⟩ ⟨hb.os, hb.tape, hb.output, hb.size, fun k hk _ => hb.block k hk⟩ (fun k hk => (hrow.lt k hk).1)
    refine ⟨hrow.1, ?_⟩
    rcases hrow.2 with h | ⟨g, cp, cur, e1, _, h3, h4⟩
    ·exact .inl h
    exact .inr ⟨g, cp, cur, e1, Nat.zero_le _, h3, h4⟩
  refine ⟨_, [.abs (aH Tryz.prog 3 b f n), .blk bk [.map (some b)] 80, .abs (aF 3 1 A ss.length cap (ints (ss.mergeSort (fun x y => decide (x ≤ y)))))], rfl, ⟨A, cap, ss.mergeSort (fun x y => decide (x ≤ y)), by rw [hlen], hkeys, by rw [hlen]; exact hn1, by rw [hlen]⟩, ?_⟩
  exact hq.pick (idx := [0, 1, 3, 2]) rfl rfl
end
section
open Go.RowKit
structure OP where
  h : OH
  ps : List Prop
  pf : gU ps
def n_ : OP := ⟨o_, [], trivial⟩
def a_ (i b : Nat) : OP := ⟨⟨[.at i], none, none, none, none⟩, [b = b], rfl, trivial⟩
def v_ {A : bR} {a : Addr} {v : Value} (i : Nat) (h : ∀ F w, A.h F w → w.cell? a = some v) : OP := ⟨⟨[.view i v], none, none, none, none⟩, [∀ F w, A.h F w → w.cell? a = some v], h, trivial⟩
def w_ {v : Value} (v' : Value) (h : v = v') : OP := ⟨⟨[], none, none, none, some v'⟩, [v = v'], h, trivial⟩
def Eo {α : Type} (x : α) : Nat → List α
  | 0 => []
  | n + 1 => x :: Eo x n
theorem Ll {p : Prop} (h : p) : ∀ n, gU (Eo p n)
  | 0 => trivial
  | n + 1 => ⟨h, Ll h n⟩
def A_ (i b n : Nat) : OP := ⟨⟨Eo (.at i) n, none, none, none, none⟩, Eo (b = b) n, Ll rfl n⟩
def wI (x y : Int) (h : x = y := by first | rfl | omega) (lo : -9223372036854775808 ≤ y := by omega) (hi : y ≤ 9223372036854775807 := by omega) : OP := w_ (.int .i64 y) (bJ h lo hi)
def p_ (h : OH) (ps : List Prop) (pf : gU ps) : OP := ⟨h, ps, pf⟩
def ja : Nat → List (Nat × OP) → Nat → List OP
  | 0, _, _ => []
  | n + 1, l, i => (match l with
    | (j, p) :: r => match Nat.beq i j with
      | true => p :: ja n r (i + 1)
      | false => n_ :: ja n l (i + 1)
    | [] => n_ :: ja n [] (i + 1))
def owed : List OP → List Prop
  | [] => []
  | p :: r => owed r ++ p.ps
def mA : List OP → List OH
  | [] => []
  | p :: r => p.h :: mA r
theorem gU.app : ∀ {l r : List Prop}, gU l → gU r → gU (l ++ r)
  | [], _, _, h => h
  | _ :: _, _, h, g => ⟨h.1, gU.app h.2 g⟩
theorem wh : ∀ l : List OP, gU (owed l)
  | [] => trivial
  | p :: r => (wh r).app p.pf
def cW : Fr → List Nat
  | [] => []
  | p :: r => p.1 :: cW r
def lV (t : Nat) : List Nat → Bool
  | [] => false
  | i :: r => match Nat.beq i t with
    | true => true
    | false => lV t r
def sV (ops : Array Oper) : Nat → Nat → List Nat → List Nat → Bool
  | 0, _, _, _ => true
  | n + 1, k, add, fr => (match ops.toList[k]? with
    | some o => match o.dst with
      | some d => match lV d add with
        | true => true
        | false => !lV d fr
      | none => true
    | none => true) && sV ops n (k + 1) add fr
section fr
variable {P : Program} {β : Bs} {N : Nat} {ops : Array Oper} {fr fr' add : Fr} {junk : Nat → Value} {t : Nat} {v : Value}
theorem rE : ∀ {l : List Nat}, lV t l = true ↔ t ∈ l
  | [] => by simp [lV]
  | i :: r => by
    unfold lV
    by_cases h : i = t
    ·subst h; simp [Nat.beq_refl]
    have : Nat.beq i t = false := by
      cases hb : Nat.beq i t
      ·rfl
      exact absurd (Nat.eq_of_beq_eq_true hb) h
    rw [this, List.mem_cons, rE (l := r)]
    exact ⟨.inr, fun e => e.elim (fun e => absurd e.symm h) id⟩
theorem FY : ∀ {fr : Fr}, t ∉ cW fr → lk fr junk t = junk t
  | [], _ => rfl
  | p :: r, h => by
    rw [show p :: r = (p.1, p.2) :: r from rfl, jO, if_neg (fun e => h (by rw [← e]; exact List.mem_cons_self)), FY (fun e => h (List.mem_cons_of_mem _ e))]
theorem FZ : ∀ {add fr : Fr}, lk (add ++ fr) junk t = if t ∈ cW add then lk add junk t else lk fr junk t
  | [], fr => by simp [cW]
  | (i, v) :: r, fr => by
    have e : cW ((i, v) :: r) = i :: cW r := rfl
    rw [List.cons_append, jO, jO, FZ (add := r), e]
    by_cases h : i = t
    ·rw [if_pos h, if_pos h, if_pos (by rw [h]; exact List.mem_cons_self)]
    rw [if_neg h, if_neg h]
    by_cases h2 : t ∈ cW r
    ·rw [if_pos h2, if_pos (List.mem_cons_of_mem _ h2)]
    rw [if_neg h2, if_neg (fun e => by rcases List.mem_cons.1 e with e | e; exact h e.symm; exact h2 e)]
theorem JA : ∀ {fr : Fr} {j j' : Nat → Value}, t ∈ cW fr → lk fr j t = lk fr j' t
  | p :: r, j, j', h => by
    rw [show p :: r = (p.1, p.2) :: r from rfl, jO, jO]
    by_cases e : p.1 = t
    ·rw [if_pos e, if_pos e]
    rw [if_neg e, if_neg e]
    rcases List.mem_cons.1 h with h | h
    ·exact absurd h.symm e
    exact JA h
theorem xk : ∀ (idx : List Nat), cW (gZ fr junk idx) = idx
  | [] => rfl
  | i :: r => congrArg (i :: ·) (xk r)
theorem sj {n : Nat} {ro : Bool} {add : List Nat} {Lm : List Nat} : ∀ {hs : List OH} {k k' : Nat} {fr fr' : Fr} {S S' : SS}, iQ P β n ro N junk ops hs k fr S = some (k', fr', S') → sV ops hs.length k add Lm = true → t ∈ Lm → t ∉ add → lk fr' junk t = lk fr junk t
  | [], k, k', fr, fr', S, S', h, _, _, _ => by cases h; rfl
  | h :: hs, k, k', fr, fr', S, S', hr, hb, h0, ha => by
    unfold iQ at hr
    have hb : sV ops (hs.length + 1) k add Lm = true := hb
    unfold sV at hb
    rw [Bool.and_eq_true] at hb
    split at hr
    ·cases hr
    rename_i o hget
    have key : ∀ v, lk (cJ fr o.dst v) junk t = lk fr junk t := fun v => by
      cases hd : o.dst with
      | none => rfl
      | some d =>
        show lk ((d, v) :: fr) junk t = _
        rw [jO, if_neg]
        intro e
        subst e
        have h1 := hb.1
        rw [hget] at h1
        simp only [hd] at h1
        cases h2 : lV d add with
        | true => exact ha (rE.1 h2)
        | false =>
          rw [h2] at h1
          rw [rE.2 h0] at h1
          cases h1
    split at hr
    ·split at hr
     ·exact (sj hr hb.2 h0 ha).trans (key _)
     cases hr
    exact (sj hr hb.2 h0 ha).trans (key _)
theorem BV {idx : List Nat} {n : Nat} {ro : Bool} {hs : List OH} {k k' : Nat} {jg : Fr} {S S' : SS} (h : iQ P β n ro N junk ops hs k fr S = some (k', jg, S')) (hb : sV ops hs.length k idx (cW fr) = true) : cC N jg junk = cC N (gZ jg junk idx ++ fr) (lk jg junk) := by
  unfold cC
  have : (List.range N).map (lk jg junk) = (List.range N).map (lk (gZ jg junk idx ++ fr) (lk jg junk)) := List.map_congr_left (fun t _ => by
    rw [FZ, xk]
    by_cases h1 : t ∈ idx
    ·rw [if_pos h1, vM]
    rw [if_neg h1]
    by_cases h2 : t ∈ cW fr
    ·rw [JA (j' := junk) h2, sj h hb h2 h1]
    rw [FY h2])
  rw [this]
end fr
theorem pK : ∀ {n i : Nat} {l : List (Nat × OP)}, (mA (ja n l i)).length = n
  | 0, _, _ => rfl
  | n + 1, i, l => by
    unfold ja
    split
    ·split
     ·exact congrArg (· + 1) (pK (n := n))
     exact congrArg (· + 1) (pK (n := n))
    exact congrArg (· + 1) (pK (n := n))
def kH (l : List HP) : List (Nat × HP) → List HP
  | [] => l
  | (i, p) :: r => kH (l.set i p) r
def Ln : List Value → List (Nat × Value) → List Value
  | cs, [] => cs
  | cs, (j, u) :: r => Ln (cs.set j u) r
def Oo (ds : List (Nat × Value)) : HP → HP
  | .blk b cs T => .blk b (Ln cs ds) T
  | p => p
def Lp (ds : List (Nat × Value)) : List HP → Nat → List HP
  | [], _ => []
  | p :: r, 0 => Oo ds p :: r
  | p :: r, i + 1 => p :: Lp ds r i
def kI : List HP → List (Nat × List (Nat × Value)) → List HP
  | l, [] => l
  | l, (i, ds) :: r => kI (Lp ds l i) r
def Ac : Nat → Nat → List Nat
  | 0, _ => []
  | n + 1, i => i :: Ac n (i + 1)
section rules
variable {P : Program} {β : Bs} {N : Nat} {ops : Array Oper} {k : Nat} {fr : Fr} {hps : List HP} {Q : Post}
theorem gW (n : Nat) (add : Nat → Fr) (l : Nat → List (Nat × OP)) (aL : Nat → List HP) (K : ∀ b, ai P β N ops (k + n) (add b ++ fr) (aL b) Q)
    (h : ∀ b junk, iR P β b false N junk ops (mA (ja n (l b) 0)) k fr hps (cW (add b)) (Ac (aL b).length 0) = some (k + n, add b, aL b, owed (ja n (l b) 0)))
    (hb : ∀ b, sV ops n k (cW (add b)) (cW fr) = true) : ai P β N ops k fr hps Q := by
  intro junk w hS
  obtain ⟨jg, S, h1, h2, h3, h4, h5⟩ := o8 (h w.heap.size junk)
  refine nB h1 (fun p hp => (wh (ja n (l w.heap.size) 0)).mem (h5 ▸ hp)) hS (fun _ => rfl) (fun w' cK => ?_)
  have hk := K w.heap.size (lk jg junk) w' (cK.pick h2 h3)
  rw [h4, ← BV h1 (by rw [pK]; exact hb _)] at hk
  exact hk
theorem gN (n : Nat) (add : Nat → Fr) (l : Nat → List (Nat × OP)) (ds : Nat → List (Nat × List (Nat × Value))) (new : Nat → HP) (K : ∀ b, ai P β N ops (k + n) (add b ++ fr) (kI hps (ds b) ++ [new b]) Q)
    (h : ∀ b junk, iR P β b false N junk ops (mA (ja n (l b) 0)) k fr hps (cW (add b)) (Ac (kI hps (ds b) ++ [new b]).length 0) = some (k + n, add b, kI hps (ds b) ++ [new b], owed (ja n (l b) 0)) := by intro _ _; kernel_rfl)
    (hb : ∀ b, sV ops n k (cW (add b)) (cW fr) = true := by intro _; kernel_rfl) : ai P β N ops k fr hps Q := gW n add l _ K h hb
theorem gC (n : Nat) (add : Fr) (l : List (Nat × OP)) (ds : List (Nat × List (Nat × Value))) (K : ai P β N ops (k + n) (add ++ fr) (kI hps ds) Q)
    (h : ∀ b junk, iR P β b false N junk ops (mA (ja n l 0)) k fr hps (cW add) (Ac (kI hps ds).length 0) = some (k + n, add, kI hps ds, owed (ja n l 0)) := by intro _ _; kernel_rfl)
    (hb : sV ops n k (cW add) (cW fr) = true := by kernel_rfl) : ai P β N ops k fr hps Q :=
  gW n (fun _ => add) (fun _ => l) (fun _ => kI hps ds) (fun _ => K) h (fun _ => hb)
theorem gK (n : Nat) (add : Fr) (l : List (Nat × OP)) (K : ai P β N ops (k + n) (add ++ fr) hps Q)
    (h : ∀ b junk, iR P β b false N junk ops (mA (ja n l 0)) k fr hps (cW add) (Ac hps.length 0) = some (k + n, add, hps, owed (ja n l 0)) := by intro _ _; kernel_rfl)
    (hb : sV ops n k (cW add) (cW fr) = true := by kernel_rfl) : ai P β N ops k fr hps Q := gW n (fun _ => add) (fun _ => l) (fun _ => hps) (fun _ => K) h (fun _ => hb)
theorem gQ (n : Nat) (add : Fr) (l : List (Nat × OP)) (K : aR P β N ops (k + n) (add ++ fr) hps Q)
    (h : ∀ b junk, iR P β b true N junk ops (mA (ja n l 0)) k fr hps (cW add) (Ac hps.length 0) = some (k + n, add, hps, owed (ja n l 0)) := by intro _ _; kernel_rfl)
    (hb : sV ops n k (cW add) (cW fr) = true := by kernel_rfl) : aR P β N ops k fr hps Q := by
  intro junk
  obtain ⟨jg, S, h1, h2, h3, h4, h5⟩ := o8 (h 0 junk)
  refine nC h1 (fun p hp => (wh (ja n l 0)).mem (h5 ▸ hp)) rfl (fun _ => ?_)
  have hk := K (lk jg junk)
  rw [h4, ← BV h1 (by rw [pK]; exact hb)] at hk
  exact hk
theorem NL (K : aj β N Q .normal fr hps) (h : ops.toList.drop k = [] := by kernel_rfl) : ai P β N ops k fr hps Q := ai.nil h K
theorem NQ (K : aj β N Q .normal fr hps) (h : ops.toList.drop k = [] := by kernel_rfl) : aR P β N ops k fr hps Q := aR.nil h K
variable {c x y z : Code} {o : Operand} {id id' : Nat} {ops' : Array Oper} {e : Exit}
theorem SR {f : Bool} (h : ai P β N ops' 0 fr hps (Exit.then (y.wp P Q) Q)) (hf : f = false := by rfl) : af P β N (.seq (.region id ops' f) y) fr hps Q := by
  subst hf; exact af.seq (af.region h)
theorem NX (h : af P β N y fr hps Q) : aj β N (Exit.then (y.wp P Q) Q) .normal fr hps := aj.next h
theorem NN (K : af P β N y fr hps Q) (h : ops.toList.drop k = [] := by kernel_rfl) : ai P β N ops k fr hps (Exit.then (y.wp P Q) Q) := NL (NX K) h
theorem NS {f : Bool} (K : ai P β N ops' 0 fr hps (Exit.then (y.wp P Q) Q)) (h : ops.toList.drop k = [] := by kernel_rfl) (hf : f = false := by rfl) : ai P β N ops k fr hps (Exit.then ((Code.seq (.region id ops' f) y).wp P Q) Q) := NN (SR K hf) h
theorem CT (ht : af P β N x fr hps Q) (h : ∀ junk, cD N fr junk o = .bool true := by intro _; kernel_rfl) : af P β N (.cond o x y) fr hps Q := af.eG h ht
theorem CF (hf : af P β N y fr hps Q) (h : ∀ junk, cD N fr junk o = .bool false := by intro _; kernel_rfl) : af P β N (.cond o x y) fr hps Q := af.kZ h hf
def oL (pre : List Nat) (l : List HP) : Nat → List HP
  | i => match l with
    | [] => []
    | p :: r => match lV i pre with
      | true => oL pre r (i + 1)
      | false => p :: oL pre r (i + 1)
def uU (pre : List Nat) : Nat → Nat → List Nat
  | 0, _ => []
  | n + 1, i => match lV i pre with
    | true => uU pre n (i + 1)
    | false => i :: uU pre n (i + 1)
def gG (ops : Array Oper) (k : Nat) : Option Tmp := match ops.toList[k]? with
  | some o => o.dst
  | none => none
variable {f : FuncId} {args : Array Value} {pre : List HP} {post : Value → List HP → Prop}
theorem gL (ix : List Nat) (hs : Spec P β f args pre post) (K : ∀ v l, post v l → ai P β N ops (k + 1) (cJ fr (gG ops k) v) (l ++ oL ix hps 0) Q)
    (hc : ∀ junk, o9 P β N junk ops fr k = some (f, args, gG ops k) := by intro _; kernel_rfl) (hn : nodupB (ix ++ uU ix hps.length 0) = true := by kernel_rfl) (hp : bN hps (ix ++ uU ix hps.length 0) = some (pre ++ oL ix hps 0) := by kernel_rfl) : ai P β N ops k fr hps Q :=
  ai.call hc hs hn hp K
variable {R : bR} {fn : Func} {l : List HP} {v : Value}
theorem RT (v : Value) (pk : List Nat) (hpost : post v l) (hr : ∀ junk, qj P β N junk fn fr hps [] = some (v, []) := by intro _; kernel_rfl) (hn : nodupB pk = true := by kernel_rfl) (hp : bN hps pk = some (l ++ [.abs R]) := by kernel_rfl) :
    aj β N (bodyPost P fn (yI β R post)) .ret fr hps := aj.ret [] pk hr trivial hn hp hpost
theorem RF (v : Value) (pk : List Nat) (hpost : post v l) (hr : ∀ junk, qj P β N junk fn fr hps [] = some (v, []) := by intro _; kernel_rfl) (hn : nodupB pk = true := by kernel_rfl) (hp : bN hps pk = some (l ++ [.abs R]) := by kernel_rfl) :
    aj β N (bodyPost P fn (yI β R post)) .normal fr hps := aj.fin [] pk hr trivial hn hp hpost
theorem MD {ι : Type} {fr' : ι → Fr} {hp' : ι → List HP} (j : ι) (idx pk : List Nat) (hf : ∀ junk, gZ fr junk idx = fr' j := by intro _; kernel_rfl) (hn : nodupB pk = true := by kernel_rfl) (hp : bN hps pk = some (hp' j) := by kernel_rfl) : aj β N (NP (jh β N fr' hp')) .normal fr hps := aj.mid j hf hn hp
variable {S : List HP} {i : Nat} {lm : List Nat} {o' : Oper}
theorem BW {ι : Type} {fr' : ι → Fr} {hp' : ι → List HP} (j : ι) : aj β N (NP (jh β N fr' hp')) .normal (fr' j) (hp' j) := fun junk _ hS => ⟨j, junk, rfl, hS⟩
theorem mC (pk : List Nat) (add : Fr) (l' : List (Nat × OP)) (ds : List (Nat × List (Nat × Value))) (K : aJ P β N ops S 0 lm (add ++ fr) (kI hps ds) Q) (hop : ops[i]? = some o' := by rfl) (hg : o'.guard = none := by rfl)
    (h : ∀ b junk, iR P β b false N junk #[o'] (mA (ja 1 l' 0)) 0 fr hps (cW add) (Ac (kI hps ds).length 0) = some (0 + 1, add, kI hps ds, owed (ja 1 l' 0)) := by intro _ _; kernel_rfl)
    (hb : sV #[o'] 1 0 (cW add) (cW fr) = true := by kernel_rfl) (hn : nodupB pk = true := by kernel_rfl) (hp : bN (kI hps ds) pk = some S := by kernel_rfl) : aJ P β N ops S 0 (i :: lm) fr hps Q :=
  aJ.cut (ι := Unit) (fr' := fun _ => add ++ fr) (hp' := fun _ => kI hps ds) pk hop hg (gC 1 add l' ds (ai.nil rfl (BW ())) h hb) hn (fun _ => hp) (fun _ => K)
theorem mN (pk : List Nat) (add : Nat → Fr) (l' : Nat → List (Nat × OP)) (new : Nat → HP) (K : ∀ b, aJ P β N ops S 0 lm (add b ++ fr) (hps ++ [new b]) Q) (hop : ops[i]? = some o' := by rfl) (hg : o'.guard = none := by rfl)
    (h : ∀ b junk, iR P β b false N junk #[o'] (mA (ja 1 (l' b) 0)) 0 fr hps (cW (add b)) (Ac (hps ++ [new b]).length 0) = some (0 + 1, add b, hps ++ [new b], owed (ja 1 (l' b) 0)) := by intro _ _; kernel_rfl)
    (hb : ∀ b, sV #[o'] 1 0 (cW (add b)) (cW fr) = true := by intro _; kernel_rfl) (hn : nodupB pk = true := by kernel_rfl) (hp : ∀ b, bN (hps ++ [new b]) pk = some S := by intro _; kernel_rfl) : aJ P β N ops S 0 (i :: lm) fr hps Q :=
  aJ.cut (ι := Nat) (fr' := fun b => add b ++ fr) (hp' := fun b => hps ++ [new b]) pk hop hg (gW 1 add l' (fun b => hps ++ [new b]) (fun b => ai.nil rfl (BW (fr' := fun b => add b ++ fr) (hp' := fun b => hps ++ [new b]) b)) h hb) hn hp K
theorem mL (pk ix : List Nat) (hs : Spec P β f args pre post) (K : ∀ v l, post v l → aJ P β N ops S 0 lm (cJ fr (gG #[o'] 0) v) (l ++ oL ix hps 0) Q) (hp : ∀ v l, post v l → bN (l ++ oL ix hps 0) pk = some S) (hop : ops[i]? = some o' := by rfl) (hg : o'.guard = none := by rfl)
    (hc : ∀ junk, o9 P β N junk #[o'] fr 0 = some (f, args, gG #[o'] 0) := by intro _; kernel_rfl) (hn' : nodupB (ix ++ uU ix hps.length 0) = true := by kernel_rfl) (hp' : bN hps (ix ++ uU ix hps.length 0) = some (pre ++ oL ix hps 0) := by kernel_rfl) (hn : nodupB pk = true := by kernel_rfl) : aJ P β N ops S 0 (i :: lm) fr hps Q :=
  aJ.cut (ι := { x : Value × List HP // post x.1 x.2 }) (fr' := fun j => cJ fr (gG #[o'] 0) j.1.1) (hp' := fun j => j.1.2 ++ oL ix hps 0) pk hop hg (gL ix hs (fun v l hv => ai.nil rfl (BW (fr' := fun j : { x : Value × List HP // post x.1 x.2 } => cJ fr (gG #[o'] 0) j.1.1) (hp' := fun j => j.1.2 ++ oL ix hps 0) ⟨(v, l), hv⟩)) hc hn' hp') hn (fun j => hp _ _ j.2) (fun j => K _ _ j.2)
end rules
end
section
open Go.RowKit HeapM TabM Go.Maps
attribute [local irreducible] ai aR af aj
theorem DI {us : Used Value} {ss : List Int} (hr : TabM.ck (keys us)) (h : KeysOf (aP us) ss) : ss = keys us := by
  refine Ab h.sorted hr (fun z => ?_)
  rw [h.mem]
  show (TabM.get us z).isSome = true ↔ z ∈ keys us
  refine ⟨fun h => ?_, fun h => ?_⟩
  ·obtain ⟨x, hx⟩ := Option.isSome_iff_exists.1 h; exact get_some hx
  cases hg : TabM.get us z with
  | some x => rfl
  | none => exact absurd h (get_none.1 hg)
theorem BX {β : Bs} (most : Int) :
    Spec Tryz.prog β 34 #[vI (most)] [] (fun v l => ∃ t, v = vP t ∧ l = [.abs (aZ 156 t (min (max most 0) 1024) 0 [])]) := by
 refine Spec.enter Tryz.func34 rfl Tryz.ntmps34 (Nat.le_of_ble_eq_true rfl) (fun R => ?_)
 refine SR ?_
 refine gK 1 [] [] ?_
 refine NS ?_
 refine gK 3 [(5, vI (min (max most 0) 1024))] [(1, p_ ⟨[], none, none, none, some (vI (max most 0))⟩ [(Value.int .i64 (if 0 > most then 0 else most)) = (vI (max most 0))] ⟨congrArg (Value.int .i64) (Em _ _), trivial⟩), (2, p_ ⟨[], none, none, none, some (vI (min (max most 0) 1024))⟩ [(Value.int .i64 (if 1024 < max most 0 then 1024 else max most 0)) = (vI (min (max most 0) 1024))] ⟨congrArg (Value.int .i64) (Jz _ _), trivial⟩)] ?_
 refine ai.lM (d := (some 6)) (t := 80) (fun _ => by kernel_rfl) Tryz.prog rfl 3 (fun m1 => ?_)
 refine gN 3 (fun b2 => [(2, vP b2)]) (fun _ => []) (fun _ => []) (fun b2 => .blk b2 [vI (min (max most 0) 1024), vI 0, .map (some m1), .slice none (0) (0), vI 1] 156) (fun b2 => ?_)
 refine NN (af.ret ?_)
 refine aj.mem (aL := [.abs R, .abs (aH Tryz.prog 3 m1 (fun _ => none) 0), .blk b2 [vI (min (max most 0) 1024), vI 0, .map (some m1), .slice none (0) (0), vI 1] 156, .abs (aF 3 1 none 0 0 ([]))]) (fun w hS => hS.jL (e := 3) (size := 1)) ?_
 refine aj.mem (aL := [.abs R, .abs (aZ 156 b2 (min (max most 0) 1024) 0 [])]) (fun w hS => Sat.kg (l := [.abs R]) ⟨m1, none, 0, [], 1⟩ ⟨TI.empty, by show ((0 : Nat) : Int) ≤ min (max most 0) 1024; omega, by omega, by show (1 : Int) ≤ min (max most 0) 1024 + 1; omega, by show (1 : Int) ≤ 0 + 1; decide, by decide⟩ (by rw [← BS] at hS; exact hS.pick (idx := [0, 2, 1, 3]) (l' := [.abs R] ++ kf 156 b2 (min (max most 0) 1024) 0 [] ⟨m1, none, 0, [], 1⟩) rfl rfl)) ?_
 exact RT (vP b2) [1, 0] (⟨b2, rfl, rfl⟩)
theorem jF {β : Bs} (t : Nat) (most ay : Int) (us : Used Value) (h : Int) (hw : (Lit.int .i64 h).wf = true) (x : Value) (hg : TabM.get us h = some x) :
    Spec Tryz.prog β 136 #[vP t, vI (h)] [.abs (aZ 156 t most ay us)] (fun v l => v = .tuple #[x, vI 0] ∧ l = [.abs (aZ 156 t most ay us)]) := by
 refine Spec.enter Tryz.func136 rfl Tryz.ntmps136 (Nat.le_of_ble_eq_true rfl) (fun R => ?_)
 refine af.seq ?_
 refine af.y4 (Φ := fun x : TX => fK x.next x.l us most ay) (hp := fun x => [.abs R] ++ kf 156 t most ay us x) (fun w hS => (hS.pick (idx := [1, 0]) (l' := [.abs R] ++ [.abs (aZ 156 t most ay us)]) rfl rfl).o3) (fun x hT => ?_)
 obtain ⟨m, A, c, l, next⟩ := x
 replace hT : fK next l us most ay := hT
 have hb := hT.DH
 have hm0 := hT.qu
 have hm1 := hT.qv
 have hn1 := hT.qw
 have hn2 := hT.uT
 have DJ := hT.si
 have F5 := hT.ti.count
 show af _ _ _ _ _ [.abs R, .blk t [vI (most), vI (ay), .map (some m), .slice A (l.length) (c), vI (next)] 156, .abs (aH Tryz.prog 3 m (aP us) us.length), .abs (aF 3 1 A l.length c (ints l))] _
 refine af.region ?_
 refine gK 2 [] [] ?_
 refine NS ?_
 refine gK 5 [(12, .map (some m)), (13, vI (h))] [(3, a_ 1 t)] ?_
 refine ai.ql 2 (d := (some 14)) (t := 80) (K := 3) (E := 84) (b := m) (n := us.length) (f := (aP us)) (x := (.tmp 12)) (ix := (.tmp 13)) (key := vI (h)) (z := .nilIface) (kl := (.int .i64 h)) (r := (some x)) (fun _ => by kernel_rfl) (by kernel_rfl) (fun _ => by kernel_rfl) (fun _ => by kernel_rfl) dz Tryz.underlying80 (fun _ => by kernel_rfl) (gX hw) (hg) ?_
 refine gK 5 [(6, x), (7, .bool true)] [] ?_
 refine NN (af.seq (SR ?_))
 refine gK 2 [(18, .bool false)] [] ?_
 refine NN ?_
 refine CF ?_
 refine af.skip (NX (SR ?_))
 refine gK 3 [(4, x), (5, vI 0)] [] ?_
 refine NN (af.ret ?_)
 refine aj.mem (aL := [.abs R, .abs (aZ 156 t most ay us)]) (fun w hS => Sat.kg (l := [.abs R]) ⟨m, A, c, l, next⟩ (show fK (next) l (us) most (ay) from hT) (hS.pick (idx := [0, 1, 2, 3]) (l' := [.abs R] ++ kf 156 t most (ay) (us) ⟨m, A, c, l, next⟩) rfl rfl)) ?_
 exact RT (.tuple #[x, vI 0]) [1, 0] (⟨rfl, rfl⟩)
theorem nQ {β : Bs} (t : Nat) (most ay : Int) (us : Used Value) (h : Int) (hw : (Lit.int .i64 h).wf = true) (hg : TabM.get us h = none) :
    Spec Tryz.prog β 136 #[vP t, vI (h)] [.abs (aZ 156 t most ay us)] (fun v l => v = .tuple #[.nilIface, vI 131] ∧ l = [.abs (aZ 156 t most ay us)]) := by
 refine Spec.enter Tryz.func136 rfl Tryz.ntmps136 (Nat.le_of_ble_eq_true rfl) (fun R => ?_)
 refine af.seq ?_
 refine af.y4 (Φ := fun x : TX => fK x.next x.l us most ay) (hp := fun x => [.abs R] ++ kf 156 t most ay us x) (fun w hS => (hS.pick (idx := [1, 0]) (l' := [.abs R] ++ [.abs (aZ 156 t most ay us)]) rfl rfl).o3) (fun x hT => ?_)
 obtain ⟨m, A, c, l, next⟩ := x
 replace hT : fK next l us most ay := hT
 have hb := hT.DH
 have hm0 := hT.qu
 have hm1 := hT.qv
 have hn1 := hT.qw
 have hn2 := hT.uT
 have DJ := hT.si
 have F5 := hT.ti.count
 show af _ _ _ _ _ [.abs R, .blk t [vI (most), vI (ay), .map (some m), .slice A (l.length) (c), vI (next)] 156, .abs (aH Tryz.prog 3 m (aP us) us.length), .abs (aF 3 1 A l.length c (ints l))] _
 refine af.region ?_
 refine gK 2 [] [] ?_
 refine NS ?_
 refine gK 5 [(12, .map (some m)), (13, vI (h))] [(3, a_ 1 t)] ?_
 refine ai.ql 2 (d := (some 14)) (t := 80) (K := 3) (E := 84) (b := m) (n := us.length) (f := (aP us)) (x := (.tmp 12)) (ix := (.tmp 13)) (key := vI (h)) (z := .nilIface) (kl := (.int .i64 h)) (r := none) (fun _ => by kernel_rfl) (by kernel_rfl) (fun _ => by kernel_rfl) (fun _ => by kernel_rfl) dz Tryz.underlying80 (fun _ => by kernel_rfl) (gX hw) (hg) ?_
 refine gK 5 [(6, .nilIface), (7, .bool false)] [] ?_
 refine NN (af.seq (SR ?_))
 refine gK 2 [(18, .bool true)] [] ?_
 refine NN ?_
 refine CT ?_
 refine SR ?_
 refine gK 3 [(4, .nilIface), (5, vI 131)] [] ?_
 refine NN (af.ret (aj.ar ?_))
 refine aj.mem (aL := [.abs R, .abs (aZ 156 t most ay us)]) (fun w hS => Sat.kg (l := [.abs R]) ⟨m, A, c, l, next⟩ (show fK (next) l (us) most (ay) from hT) (hS.pick (idx := [0, 1, 2, 3]) (l' := [.abs R] ++ kf 156 t most (ay) (us) ⟨m, A, c, l, next⟩) rfl rfl)) ?_
 exact RT (.tuple #[.nilIface, vI 131]) [1, 0] (⟨rfl, rfl⟩)
theorem tU {β : Bs} (t : Nat) (most ay : Int) (us : Used Value) (x : Value) (hf : most ≤ (us.length : Int)) :
    Spec Tryz.prog β 175 #[vP t, x] [.abs (aZ 156 t most ay us)] (fun v l => v = .tuple #[vI 0, vI 130] ∧ l = [.abs (aZ 156 t most ay us)]) := by
 refine Spec.enter Tryz.func175 rfl Tryz.ntmps175 (Nat.le_of_ble_eq_true rfl) (fun R => ?_)
 refine af.seq ?_
 refine af.y4 (Φ := fun x : TX => fK x.next x.l us most ay) (hp := fun x => [.abs R] ++ kf 156 t most ay us x) (fun w hS => (hS.pick (idx := [1, 0]) (l' := [.abs R] ++ [.abs (aZ 156 t most ay us)]) rfl rfl).o3) (fun x hT => ?_)
 obtain ⟨m, A, c, l, next⟩ := x
 replace hT : fK next l us most ay := hT
 have hb := hT.DH
 have hm0 := hT.qu
 have hm1 := hT.qv
 have hn1 := hT.qw
 have hn2 := hT.uT
 have DJ := hT.si
 have F5 := hT.ti.count
 show af _ _ _ _ _ [.abs R, .blk t [vI (most), vI (ay), .map (some m), .slice A (l.length) (c), vI (next)] 156, .abs (aH Tryz.prog 3 m (aP us) us.length), .abs (aF 3 1 A l.length c (ints l))] _
 refine af.region ?_
 refine gK 2 [] [] ?_
 refine NN (af.seq (af.seq ?_))
 refine af.bF (by kernel_rfl) (by kernel_rfl) ?_
 refine gQ 4 [(10, .map (some m))] [(3, a_ 1 t)] ?_
 refine aR.q8 2 (d := (some 11)) (t := 80) (K := 3) (E := 84) (b := m) (n := us.length) (f := (aP us)) (x := (.tmp 10)) (ats := #[80]) (fun _ => by kernel_rfl) (by kernel_rfl) (fun _ => by kernel_rfl) rfl Tryz.underlying80 ?_
 refine gQ 5 [(16, .bool (decide ((((us.length : Nat) : Int) : Int) ≥ (most : Int))))] [(3, a_ 1 t)] ?_
 refine NQ (NX ?_)
 refine af.bB (p := (((us.length : Nat) : Int) : Int) ≥ (most : Int)) (fun _ => by kernel_rfl) (fun xq => ?_) (fun xq => ?_)
 ·refine SR ?_
  refine gK 2 [(4, vI 0), (5, vI 130)] [] ?_
  refine NN (af.ret (aj.ar ?_))
  refine aj.mem (aL := [.abs R, .abs (aZ 156 t most ay us)]) (fun w hS => Sat.kg (l := [.abs R]) ⟨m, A, c, l, next⟩ (show fK (next) l (us) most (ay) from hT) (hS.pick (idx := [0, 1, 2, 3]) (l' := [.abs R] ++ kf 156 t most (ay) (us) ⟨m, A, c, l, next⟩) rfl rfl)) ?_
  exact RT (.tuple #[vI 0, vI 130]) [1, 0] (⟨rfl, rfl⟩)
 exact absurd xq (by omega)
theorem wi {β : Bs} (t : Nat) (most ay : Int) (us : Used Value) (x : Value) (hf : (us.length : Int) < most) :
    Spec Tryz.prog β 175 #[vP t, x] [.abs (aZ 156 t most ay us)] (fun v l => v = .tuple #[vI (least us), vI 0] ∧ l = [.abs (aZ 156 t most (max ay ((us.length : Int) + 1)) (ins (least us) x us))]) := by
 refine Spec.enter Tryz.func175 rfl Tryz.ntmps175 (Nat.le_of_ble_eq_true rfl) (fun R => ?_)
 refine af.seq ?_
 refine af.y4 (Φ := fun x : TX => fK x.next x.l us most ay) (hp := fun x => [.abs R] ++ kf 156 t most ay us x) (fun w hS => (hS.pick (idx := [1, 0]) (l' := [.abs R] ++ [.abs (aZ 156 t most ay us)]) rfl rfl).o3) (fun x hT => ?_)
 obtain ⟨m, A, c, l, next⟩ := x
 replace hT : fK next l us most ay := hT
 have hb := hT.DH
 have hm0 := hT.qu
 have hm1 := hT.qv
 have hn1 := hT.qw
 have hn2 := hT.uT
 have DJ := hT.si
 have F5 := hT.ti.count
 show af _ _ _ _ _ [.abs R, .blk t [vI (most), vI (ay), .map (some m), .slice A (l.length) (c), vI (next)] 156, .abs (aH Tryz.prog 3 m (aP us) us.length), .abs (aF 3 1 A l.length c (ints l))] _
 refine af.region ?_
 refine gK 2 [] [] ?_
 refine NN (af.seq (af.seq ?_))
 refine af.bF (by kernel_rfl) (by kernel_rfl) ?_
 refine gQ 4 [(10, .map (some m))] [(3, a_ 1 t)] ?_
 refine aR.q8 2 (d := (some 11)) (t := 80) (K := 3) (E := 84) (b := m) (n := us.length) (f := (aP us)) (x := (.tmp 10)) (ats := #[80]) (fun _ => by kernel_rfl) (by kernel_rfl) (fun _ => by kernel_rfl) rfl Tryz.underlying80 ?_
 refine gQ 5 [(16, .bool (decide ((((us.length : Nat) : Int) : Int) ≥ (most : Int))))] [(3, a_ 1 t)] ?_
 refine NQ (NX ?_)
 refine af.bB (p := (((us.length : Nat) : Int) : Int) ≥ (most : Int)) (fun _ => by kernel_rfl) (fun xq => ?_) (fun xq => ?_)
 ·exact absurd xq (by omega)
 refine af.skip (NX (SR ?_))
 refine gK 5 [(6, vI (next))] [(3, a_ 1 t)] ?_
 refine NN (af.seq (SR ?_))
 refine gK 6 [(26, .bool (decide ((((l.length : Nat) : Int) : Int) > (0 : Int))))] [(3, a_ 1 t)] ?_
 refine NN ?_
 refine af.bB (p := (((l.length : Nat) : Int) : Int) > (0 : Int)) (fun _ => by kernel_rfl) (fun zR => ?_) (fun zR => ?_)
 ·refine af.region ?_
  obtain ⟨n, hn⟩ : ∃ n, l.length = n + 1 := ⟨l.length - 1, by omega⟩
  refine ai.tell (p := ∃ g, A = some ⟨g, 0, none⟩) (fun w hS => let ⟨F, h⟩ := hS.get (i := 3) rfl; aF.head h (by omega)) (fun ⟨g, hg⟩ => ?_)
  subst hg
  refine gK 4 [(31, .iface 234 (.pointer (some ⟨t, 3, none⟩)))] [] ?_
  refine gL (f := 192) (args := #[.iface 234 (.pointer (some ⟨t, 3, none⟩))]) (pre := [.blk t [vI (most), vI (ay), .map (some m), .slice (some ⟨g, 0, none⟩) (l.length) (c), vI (next)] 156, .abs (aF 3 1 (some ⟨g, 0, none⟩) l.length c (ints l))]) [1, 3] (Lh hn (by have := hT.ti.heap; rwa [hn] at this) hT.ti.inj (by omega)) ?_
  rintro _ _ ⟨rfl, l2, rfl, hp2, hi2, hm2, rfl⟩
  refine gK 5 [(6, vI ((at_ l 0)))] [] ?_
  refine NS ?_
  refine ai.slot 6 (vI ((at_ l 0))) (vI ((least us))) (fun _ => by kernel_rfl) (by rw [hT.ti.xg (by omega)]) ?_
  refine gK 6 [(46, .map (some m)), (47, vI ((least us))), (48, x)] [(3, a_ 0 t)] ?_
  refine ai.j7 3 (d := none) (t := 80) (K := 3) (E := 84) (b := m) (n := us.length) (f := (aP us)) (x := (.tmp 46)) (ix := (.tmp 47)) (y := (.tmp 48)) (key := vI ((least us))) (u := x) (kl := (.int .i64 (least us))) (n' := (us.length + 1)) (f' := (aP (ins (least us) x us))) (fun _ => by kernel_rfl) (by kernel_rfl) (fun _ => by kernel_rfl) (fun _ => by kernel_rfl) (fun _ => by kernel_rfl) dz Tryz.underlying80 (by unfold maxLen; omega) (mQ (by omega) (by omega)) (by rw [Aa hb.2.2.1]; rfl) (yZ hb.2.2.1 x) ?_
  refine NN (af.seq ?_)
  refine af.qP 13 (by kernel_rfl) (by kernel_rfl) ?_
  refine fN.seg (k' := 9) (fr' := [(6, vI ((least us))), (49, vP t), (53, vI (ay)), (57, .map (some m))]) (aq := [t = t, t = t]) [o_, o_, o_, o_, ⟨[.at 0], none, none, none, none⟩, o_, o_, o_, ⟨[.at 0], none, none, none, none⟩] [6, 49, 53, 57] (fun _ _ => by kernel_rfl) ⟨rfl, rfl, trivial⟩ (by decide) ?_
  refine fN.q8 3 (d := (some 58)) (t := 80) (K := 3) (E := 84) (b := m) (cnt := (us.length + 1)) (f := (aP (ins (least us) x us))) (x := (.tmp 57)) (ats := #[80]) (fun _ => by kernel_rfl) (by kernel_rfl) (fun _ => by kernel_rfl) rfl Tryz.underlying80 (by decide) ?_
  refine fN.seg (k' := 13) (fr' := [(6, vI ((least us))), (59, vI ((max ay ((us.length : Int) + 1)))), (61, .pointer (some ⟨t, 1, none⟩))]) (aq := [(Value.int .i64 (if (((us.length + 1) : Nat) : Int) > ay then (((us.length + 1) : Nat) : Int) else ay)) = (vI ((max ay ((us.length : Int) + 1))))]) [⟨[], none, none, none, some (vI ((max ay ((us.length : Int) + 1))))⟩, o_, o_] [6, 59, 61] (fun _ _ => by kernel_rfl) ⟨by rw [Em]; rfl, trivial⟩ (by decide) ?_
  refine fN.done rfl ?_
  refine gC 1 [] [(0, a_ 0 t)] [(0, [(1, vI ((max ay ((us.length : Int) + 1))))])] ?_
  refine NS ?_
  refine gK 3 [(4, vI ((least us))), (5, vI 0)] [] ?_
  refine NN (af.ret ?_)
  refine aj.mem (aL := [.blk t [vI (most), vI ((max ay ((us.length : Int) + 1))), .map (some m), .slice (some ⟨g, 0, none⟩) (l2.length) (c), vI (next)] 156, .abs (aF 3 1 (some ⟨g, 0, none⟩) l2.length c (ints l2)), .abs R, .abs (aH Tryz.prog 3 m (aP (ins (least us) x us)) ((ins (least us) x us).length))]) (fun w hS => by rw [gq]; exact hS) ?_
  refine aj.mem (aL := [.abs R, .abs (aZ 156 t most (max ay ((us.length : Int) + 1)) (ins (least us) x us))]) (fun w hS => Sat.kg (l := [.abs R]) ⟨m, some ⟨g, 0, none⟩, c, l2, next⟩ (show fK (next) l2 ((ins (least us) x us)) most ((max ay ((us.length : Int) + 1))) from ⟨by rw [hT.ti.xg (by omega)]; exact hT.ti.Ia (by omega) x (by omega) hp2 hi2 hm2, by rw [gq]; omega, by omega, by omega, by omega, by omega⟩) (hS.pick (idx := [2, 0, 3, 1]) (l' := [.abs R] ++ kf 156 t most ((max ay ((us.length : Int) + 1))) ((ins (least us) x us)) ⟨m, some ⟨g, 0, none⟩, c, l2, next⟩) rfl rfl)) ?_
  exact RT (.tuple #[vI ((least us)), vI 0]) [1, 0] (⟨rfl, rfl⟩)
 refine af.region ?_
 have hl0 : l = [] := List.eq_nil_of_length_eq_zero (by omega)
 have hl1 : l.length = 0 := by rw [hl0]; rfl
 have hl2 : TI next [] us := hl0 ▸ hT.ti
 refine gC 8 [] [(3, a_ 1 t), (4, wI (next + 1) ((next + 1))), (7, a_ 1 t)] [(1, [(4, vI ((next + 1)))])] ?_
 refine NS ?_
 refine ai.slot 6 (vI (next)) (vI ((least us))) (fun _ => by kernel_rfl) (by rw [hl2.wZ]) ?_
 refine gK 6 [(46, .map (some m)), (47, vI ((least us))), (48, x)] [(3, a_ 1 t)] ?_
 refine ai.j7 2 (d := none) (t := 80) (K := 3) (E := 84) (b := m) (n := us.length) (f := (aP us)) (x := (.tmp 46)) (ix := (.tmp 47)) (y := (.tmp 48)) (key := vI ((least us))) (u := x) (kl := (.int .i64 (least us))) (n' := (us.length + 1)) (f' := (aP (ins (least us) x us))) (fun _ => by kernel_rfl) (by kernel_rfl) (fun _ => by kernel_rfl) (fun _ => by kernel_rfl) (fun _ => by kernel_rfl) dz Tryz.underlying80 (by unfold maxLen; omega) (mQ (by omega) (by omega)) (by rw [Aa hb.2.2.1]; rfl) (yZ hb.2.2.1 x) ?_
 refine NN (af.seq ?_)
 refine af.qP 13 (by kernel_rfl) (by kernel_rfl) ?_
 refine fN.seg (k' := 9) (fr' := [(6, vI ((least us))), (49, vP t), (53, vI (ay)), (57, .map (some m))]) (aq := [t = t, t = t]) [o_, o_, o_, o_, ⟨[.at 1], none, none, none, none⟩, o_, o_, o_, ⟨[.at 1], none, none, none, none⟩] [6, 49, 53, 57] (fun _ _ => by kernel_rfl) ⟨rfl, rfl, trivial⟩ (by decide) ?_
 refine fN.q8 2 (d := (some 58)) (t := 80) (K := 3) (E := 84) (b := m) (cnt := (us.length + 1)) (f := (aP (ins (least us) x us))) (x := (.tmp 57)) (ats := #[80]) (fun _ => by kernel_rfl) (by kernel_rfl) (fun _ => by kernel_rfl) rfl Tryz.underlying80 (by decide) ?_
 refine fN.seg (k' := 13) (fr' := [(6, vI ((least us))), (59, vI ((max ay ((us.length : Int) + 1)))), (61, .pointer (some ⟨t, 1, none⟩))]) (aq := [(Value.int .i64 (if (((us.length + 1) : Nat) : Int) > ay then (((us.length + 1) : Nat) : Int) else ay)) = (vI ((max ay ((us.length : Int) + 1))))]) [⟨[], none, none, none, some (vI ((max ay ((us.length : Int) + 1))))⟩, o_, o_] [6, 59, 61] (fun _ _ => by kernel_rfl) ⟨by rw [Em]; rfl, trivial⟩ (by decide) ?_
 refine fN.done rfl ?_
 refine gC 1 [] [(0, a_ 1 t)] [(1, [(1, vI ((max ay ((us.length : Int) + 1))))])] ?_
 refine NS ?_
 refine gK 3 [(4, vI ((least us))), (5, vI 0)] [] ?_
 refine NN (af.ret ?_)
 refine aj.mem (aL := [.abs R, .blk t [vI (most), vI ((max ay ((us.length : Int) + 1))), .map (some m), .slice A (l.length) (c), vI ((next + 1))] 156, .abs (aH Tryz.prog 3 m (aP (ins (least us) x us)) ((ins (least us) x us).length)), .abs (aF 3 1 A l.length c (ints l))]) (fun w hS => by rw [gq]; exact hS) ?_
 refine aj.mem (aL := [.abs R, .abs (aZ 156 t most (max ay ((us.length : Int) + 1)) (ins (least us) x us))]) (fun w hS => Sat.kg (l := [.abs R]) ⟨m, A, c, l, (next + 1)⟩ (show fK ((next + 1)) l ((ins (least us) x us)) most ((max ay ((us.length : Int) + 1))) from ⟨by rw [hl2.wZ, hl0]; exact hl2.H9 x, by rw [gq]; omega, by omega, by omega, by omega, by omega⟩) (hS.pick (idx := [0, 1, 2, 3]) (l' := [.abs R] ++ kf 156 t most ((max ay ((us.length : Int) + 1))) ((ins (least us) x us)) ⟨m, A, c, l, (next + 1)⟩) rfl rfl)) ?_
 exact RT (.tuple #[vI ((least us)), vI 0]) [1, 0] (⟨rfl, rfl⟩)
theorem Ad {β : Bs} (t : Nat) (most ay : Int) (us : Used Value) (h : Int) (hw : (Lit.int .i64 h).wf = true) (x : Value) (hg : TabM.get us h = some x) :
    Spec Tryz.prog β 138 #[vP t, vI (h)] [.abs (aZ 156 t most ay us)] (fun v l => v = .tuple #[x, vI 0] ∧ l = [.abs (aZ 156 t most ay (del h us))]) := by
 refine Spec.enter Tryz.func138 rfl Tryz.ntmps138 (Nat.le_of_ble_eq_true rfl) (fun R => ?_)
 refine SR ?_
 refine gK 2 [] [] ?_
 refine NS ?_
 refine gK 2 [(9, vP t), (10, vI (h))] [] ?_
 refine gL [0] (jF t most ay us h hw x hg) ?_
 rintro _ _ ⟨rfl, rfl⟩
 refine gK 5 [(6, x), (7, vI 0)] [] ?_
 refine NN (af.seq (SR ?_))
 refine gK 2 [(15, .bool true)] [] ?_
 refine NN ?_
 refine CT ?_
 refine af.seq ?_
 refine af.y4 (Φ := fun x : TX => fK x.next x.l us most ay) (hp := fun x => [.abs R] ++ kf 156 t most ay us x) (fun w hS => (hS.pick (idx := [1, 0]) (l' := [.abs R] ++ [.abs (aZ 156 t most ay us)]) rfl rfl).o3) (fun x0 hT => ?_)
 obtain ⟨m, A, c, l, next⟩ := x0
 replace hT : fK next l us most ay := hT
 have hb := hT.DH
 have hm0 := hT.qu
 have hm1 := hT.qv
 have hn1 := hT.qw
 have hn2 := hT.uT
 have DJ := hT.si
 have F5 := hT.ti.count
 have hk := get_some hg
 show af _ _ _ _ _ [.abs R, .blk t [vI (most), vI (ay), .map (some m), .slice A (l.length) (c), vI (next)] 156, .abs (aH Tryz.prog 3 m (aP us) us.length), .abs (aF 3 1 A l.length c (ints l))] _
 refine af.region ?_
 refine gK 5 [(19, .map (some m)), (20, vI (h))] [(3, a_ 1 t)] ?_
 refine ai.wR 2 (d := none) (t := 80) (K := 3) (E := 84) (b := m) (n := us.length) (f := (aP us)) (x := (.tmp 19)) (ix := (.tmp 20)) (key := vI (h)) (kl := (.int .i64 h)) (n' := (us.length - 1)) (f' := (aP (del h us))) (ats := #[80, 3]) (fun _ => by kernel_rfl) (by kernel_rfl) (fun _ => by kernel_rfl) (fun _ => by kernel_rfl) rfl dz Tryz.underlying80 (gX hw) (by rw [show aP us (vI h) = some x from hg]; rfl) (DF) ?_
 refine NN (af.region ?_)
 refine gK 6 [(24, .iface 234 (.pointer (some ⟨t, 3, none⟩))), (26, .iface 3 (vI (h)))] [] ?_
 refine gL (f := 176) (args := #[.iface 234 (.pointer (some ⟨t, 3, none⟩)), .iface 3 (vI (h))]) (pre := [.blk t [vI (most), vI (ay), .map (some m), .slice A (l.length) (c), vI (next)] 156, .abs (aF 3 1 A l.length c (ints l))]) [1, 3] (Ki h hT.ti.heap (by omega)) ?_
 rintro _ _ ⟨rfl, g, c', l2, Pj, hp2, rfl⟩
 refine NS ?_
 refine gK 4 [(4, x), (5, vI 0)] [] ?_
 refine NN (af.ret ?_)
 have hld := mU hT.ti.rise hk
 refine aj.mem (aL := [.blk t [vI (most), vI (ay), .map (some m), .slice (some ⟨g, 0, none⟩) (l2.length) (c'), vI (next)] 156, .abs (aF 3 1 (some ⟨g, 0, none⟩) l2.length c' (ints l2)), .abs R, .abs (aH Tryz.prog 3 m (aP (del h us)) ((del h us).length))]) (fun w hS => by rw [show (del h us).length = us.length - 1 by omega]; exact hS) ?_
 refine aj.mem (aL := [.abs R, .abs (aZ 156 t most ay (del h us))]) (fun w hS => Sat.kg (l := [.abs R]) ⟨m, some ⟨g, 0, none⟩, c', l2, next⟩ (show fK (next) l2 ((del h us)) most (ay) from ⟨hT.ti.drop hk Pj hp2, by omega, hm1, hn1, hn2, DJ⟩) (hS.pick (idx := [2, 0, 3, 1]) (l' := [.abs R] ++ kf 156 t most (ay) ((del h us)) ⟨m, some ⟨g, 0, none⟩, c', l2, next⟩) rfl rfl)) ?_
 exact RT (.tuple #[x, vI 0]) [1, 0] (⟨rfl, rfl⟩)
theorem Db {β : Bs} (t : Nat) (most ay : Int) (us : Used Value) (h : Int) (hw : (Lit.int .i64 h).wf = true) (hg : TabM.get us h = none) :
    Spec Tryz.prog β 138 #[vP t, vI (h)] [.abs (aZ 156 t most ay us)] (fun v l => v = .tuple #[.nilIface, vI 131] ∧ l = [.abs (aZ 156 t most ay us)]) := by
 refine Spec.enter Tryz.func138 rfl Tryz.ntmps138 (Nat.le_of_ble_eq_true rfl) (fun R => ?_)
 refine SR ?_
 refine gK 2 [] [] ?_
 refine NS ?_
 refine gK 2 [(9, vP t), (10, vI (h))] [] ?_
 refine gL [0] (nQ t most ay us h hw hg) ?_
 rintro _ _ ⟨rfl, rfl⟩
 refine gK 5 [(6, .nilIface), (7, vI 131)] [] ?_
 refine NN (af.seq (SR ?_))
 refine gK 2 [(15, .bool false)] [] ?_
 refine NN ?_
 refine CF ?_
 refine af.skip (NX (SR ?_))
 refine gK 4 [(4, .nilIface), (5, vI 131)] [] ?_
 refine NN (af.ret ?_)
 exact RT (.tuple #[.nilIface, vI 131]) [0, 1] (⟨rfl, rfl⟩)
theorem BZ {β : Bs} (t : Nat) (most ay : Int) (us : Used Value) :
    Spec Tryz.prog β 45 #[vP t] [.abs (aZ 156 t most ay us)] (fun v l => ∃ A c, v = .slice A (keys us).length c ∧ l = [.abs (aZ 156 t most ay us), .abs (aF 3 1 A (keys us).length c (ints (keys us)))]) := by
 refine Spec.enter Tryz.func45 rfl Tryz.ntmps45 (Nat.le_of_ble_eq_true rfl) (fun R => ?_)
 refine af.seq ?_
 refine af.y4 (Φ := fun x : TX => fK x.next x.l us most ay) (hp := fun x => [.abs R] ++ kf 156 t most ay us x) (fun w hS => (hS.pick (idx := [1, 0]) (l' := [.abs R] ++ [.abs (aZ 156 t most ay us)]) rfl rfl).o3) (fun x hT => ?_)
 obtain ⟨m, A, c, l, next⟩ := x
 replace hT : fK next l us most ay := hT
 have hb := hT.DH
 have hm0 := hT.qu
 have hm1 := hT.qv
 have hn1 := hT.qw
 have hn2 := hT.uT
 have DJ := hT.si
 have F5 := hT.ti.count
 show af _ _ _ _ _ [.abs R, .blk t [vI (most), vI (ay), .map (some m), .slice A (l.length) (c), vI (next)] 156, .abs (aH Tryz.prog 3 m (aP us) us.length), .abs (aF 3 1 A l.length c (ints l))] _
 refine af.region ?_
 refine gK 1 [] [] ?_
 refine NS ?_
 refine gK 4 [(6, .map (some m))] [(3, a_ 1 t)] ?_
 refine gL [] (BU (some m)) ?_
 rintro _ _ ⟨bk, rfl, rfl⟩
 refine gL [3, 0] (xj m bk us.length (aP us) (by omega)) ?_
 rintro _ _ ⟨A2, c2, ss, rfl, hks, hsl, rfl⟩
 refine gK 1 [(2, .slice A2 (ss.length) (c2))] [] ?_
 refine NN (af.ret ?_)
 have hkk := DI hT.ti.rise hks
 refine aj.mem (aL := [.abs R, .abs (aF 3 1 A2 ss.length c2 (ints ss)), .abs (aZ 156 t most ay us)]) (fun w hS => Sat.kg (l := [.abs R, .abs (aF 3 1 A2 ss.length c2 (ints ss))]) ⟨m, A, c, l, next⟩ (show fK (next) l (us) most (ay) from hT) (hS.pick (idx := [3, 2, 4, 0, 5]) (l' := [.abs R, .abs (aF 3 1 A2 ss.length c2 (ints ss))] ++ kf 156 t most (ay) (us) ⟨m, A, c, l, next⟩) rfl rfl)) ?_
 exact RT (l := [.abs (aZ 156 t most ay us), .abs (aF 3 1 A2 ss.length c2 (ints ss))]) (.slice A2 (ss.length) (c2)) [2, 1, 0] (⟨A2, c2, by rw [hkk], by rw [hkk]⟩)
end
section
open Go.RowKit Go.Maps HeapM TabM
theorem Spec.yT {P : Program} {β : Bs} {f : FuncId} {args : Array Value} {pre R : List HP} {post : Value → List HP → Prop} (h : ∀ β' : Bs, og β R β' → Spec P β' f args pre post) : Spec P β f args (pre ++ R) (fun v l => ∃ l0, post v l0 ∧ l = l0 ++ R) := by
  intro A w hS
  have h1 := Sat.turn hS
  rw [← List.append_assoc] at h1
  obtain ⟨β', g1, _, g3⟩ := h1.yT
  refine (h β' g1 A w (Sat.turn g3)).mono ?_
  rintro e w' ⟨v, l, h1, h2, h3⟩
  refine ⟨v, l ++ R, h1, ⟨l, h2, rfl⟩, ?_⟩
  have h4 := g1.back (Sat.turn h3)
  rw [List.append_assoc] at h4
  exact Sat.turn h4
def aK (L : HL) (us : Used Th) : Used Value := us.map fun q => (q.1, cG L q.2)
theorem dO (L : HL) (us : Used Th) (h : Int) : aP (aK L us) (.int .i64 h) = (TabM.get us h).map (cG L) := get_map (cG L) us h
theorem y5 {L : HL} {us : Used Th} {h : Int} : jK (aP (aK L us)) (.int .i64 h) none = aP (aK L (del h us)) := by
  rw [DF]
  exact congrArg aP (DE (cG L) h us).symm
theorem mV (L : HL) (us : Used Th) : (aK L us).length = us.length := List.length_map ..
theorem wj (L : HL) (us : Used Th) : keys (aK L us) = keys us := keys_map (cG L) us
def nH (O : bM) (k : Nat) : bM := aB O k (fun o => { o with gone := true })
def oM (O : bM) (t : Th) : Prop := (obj O t.k).gone = true ∧ (obj O t.k).opens = 0
instance (O : bM) (t : Th) : Decidable (oM O t) := inferInstanceAs (Decidable (_ ∧ _))
def iF (O : bM) (idx : Used Th) (t : Th) : Used Th := if oM O t then del (obj O t.k).id idx else idx
def iV (O : bM) (used : Int) (t : Th) : Int := if oM O t then if t.kind = 1 then used - (obj O t.k).data.length else used else used
abbrev pF (f m t : Nat) (X : FM) : HP := .blk f [.int .i64 X.cN, .int .i64 X.cB, .int .i64 X.cH, .int .i64 X.cS, .int .i64 X.cZ, .map (some m), .pointer (some ⟨t, 0, none⟩), .int .i64 X.last, .int .i64 X.ah, .int .i64 X.used] 86
abbrev pI (m : Nat) (L : HL) (us : Used Th) : HP := .abs (aH Tryz.prog 3 m (aP (aK L us)) us.length)
abbrev pT (t : Nat) (most ay : Int) (L : HL) (us : Used Th) : HP := .abs (aZ 156 t most ay (aK L us))
abbrev pO (O : bM) (L : HL) : HP := .abs (ak (aQ O L))
abbrev pD (O : bM) (L : HL) : HP := .abs (ak (aW O L))
abbrev pE (O : bM) (L : HL) : HP := .abs (ak (bh O L))
end
section
open Go.RowKit Go.Maps HeapM TabM
structure aI where
  X : FM
  O : bM
  idx : Used Th
  us : Used Th
  ay : Int
abbrev pA (f m t : Nat) (L : HL) (S : aI) : List HP := [pF f m t S.X, pI m L S.idx, pT t S.X.cH S.ay L S.us, pO S.O L, pD S.O L, pE S.O L]
structure aV where
  op : Int
  handle : Int
  other : Int
  name : ByteArray
  text : ByteArray
  dA : Option Addr
  dC : Nat
  data : List UInt8
  mode : Int
  uid : Int
  gid : Int
  sec : Int
  nano : Int
  code : Int
  answer : Int
def gh (c : aV) : List Value := [.int .i64 c.op, .int .i64 c.handle, .int .i64 c.other, .string c.name, .string c.text, .slice c.dA c.data.length c.dC, .int .i64 c.mode, .int .i64 c.uid, .int .i64 c.gid, .int .i64 c.sec, .int .i64 c.nano, .int .i64 c.code, .int .i64 c.answer]
abbrev pC (cb : Nat) (c : aV) : HP := .blk cb (gh c) 43
abbrev c0 (c : aV) : aV := { c with answer := 0, code := 230 }
def Oq (L : HL) : Except Int Nat → Value
  | .error e => .tuple #[.pointer none, .int .i64 e]
  | .ok d => .tuple #[.pointer (some ⟨L.b d, 0, none⟩), .int .i64 0]
def Ot (L : HL) : Except Int Th → Value
  | .error e => .tuple #[.nilIface, .int .i64 e]
  | .ok t => .tuple #[cG L t, .int .i64 0]
noncomputable section
def cO (O : bM) (us : Used Th) (h : Int) (name : ByteArray) (need : Int) : Except Int Nat :=
  match TabM.get us h with
  | none => .error 131
  | some t =>
    if t.kind = 2 then
      if (obj O t.k).gone = true then .error 170
      else if bE name then if bits BinOp.and .i64 (obj O t.k).mode need = need then .ok t.k else .error 175
      else .error 95
    else .error 173
def kO (s : ByteArray) : Int :=
  if s = ⟨#[]⟩ then 90 else if s.size > 4096 then 93 else if uM s then 0 else 91
def Room (X : FM) (idx : Used Th) : Prop := (idx.length : Int) < X.cN ∧ X.last < 1099511627776 ∧ X.ah < 8192
instance (X : FM) (idx : Used Th) : Decidable (Room X idx) := inferInstanceAs (Decidable (_ ∧ _ ∧ _))
def bO (X : FM) (O : bM) (idx : Used Th) (d : Nat) (name : ByteArray) : Int :=
  if aU name (obj O d).ah = none then if Room X idx then 0 else 177 else 171
def aD (X : FM) (kind mode : Int) : aS := ⟨X.last + 1, mode, 0, 0, X.cS, X.cZ, 0, 0, false, kind, [], ⟨#[]⟩, [], none⟩
def aE (X : FM) : Nat := (X.last + 1).toNat
def bD (S : aI) (d : Nat) (name : ByteArray) (o : aS) : aI :=
  { S with
    X := { S.X with last := S.X.last + 1, ah := S.X.ah + 1 }
    O := br S.X (aB S.O (aE S.X) (fun _ => o)) d name ⟨aE S.X, o.kind⟩
    idx := ins (S.X.last + 1) ⟨aE S.X, o.kind⟩ S.idx }
def ax (S : aI) (d : Nat) (name : ByteArray) (t : Th) : aI :=
  { S with
    X := { S.X with ah := S.X.ah - 1, used := if (obj (aO S.X S.O d name t) t.k).links = 0 then iV (nH (aO S.X S.O d name t) t.k) S.X.used t else S.X.used }
    O := if (obj (aO S.X S.O d name t) t.k).links = 0 then nH (aO S.X S.O d name t) t.k else aO S.X S.O d name t
    idx := if (obj (aO S.X S.O d name t) t.k).links = 0 then iF (nH (aO S.X S.O d name t) t.k) S.idx t else S.idx }
theorem qx {S : aI} {d : Nat} {name : ByteArray} {t : Th} (h : (obj (aO S.X S.O d name t) t.k).links = 0) : ax S d name t = { S with X := { S.X with ah := S.X.ah - 1, used := iV (nH (aO S.X S.O d name t) t.k) S.X.used t }, O := nH (aO S.X S.O d name t) t.k, idx := iF (nH (aO S.X S.O d name t) t.k) S.idx t } := by
  unfold ax
  simp only [if_pos h]
theorem qy {S : aI} {d : Nat} {name : ByteArray} {t : Th} (h : ¬ (obj (aO S.X S.O d name t) t.k).links = 0) : ax S d name t = { S with X := { S.X with ah := S.X.ah - 1 }, O := aO S.X S.O d name t } := by
  unfold ax
  simp only [if_neg h]
def mkdirM (S : aI) (d : Nat) (name : ByteArray) (mode : Int) : Int × aI :=
  if bO S.X S.O S.idx d name = 0 then (0, bD S d name (aD S.X 2 mode)) else (bO S.X S.O S.idx d name, S)
def symlinkM (S : aI) (d : Nat) (name text : ByteArray) : Int × aI :=
  if kO text = 0 then
    if bO S.X S.O S.idx d name = 0 then (0, bD S d name { aD S.X 3 511 with target := text }) else (bO S.X S.O S.idx d name, S)
  else (kO text, S)
def unlinkM (S : aI) (d : Nat) (name : ByteArray) : Int × aI :=
  match aU name (obj S.O d).ah with
  | none => (170, S)
  | some t => if t.kind = 2 then (172, S) else (0, ax S d name t)
def orphan (O : bM) (k : Nat) : bM := aB O k (fun o => { o with up := none })
def rmdirM (S : aI) (d : Nat) (name : ByteArray) : Int × aI :=
  match aU name (obj S.O d).ah with
  | none => (170, S)
  | some t => if t.kind = 2 then if (obj S.O t.k).ah = [] then (0, { ax S d name t with O := orphan (ax S d name t).O t.k }) else (178, S) else (173, S)
inductive iJ (O : bM) (sub : Nat) : Nat → Prop
  | here : iJ O sub sub
  | up {k j : Nat} : (obj O k).up = some j → iJ O sub j → iJ O sub k
instance (O : bM) (sub k : Nat) : Decidable (iJ O sub k) := Classical.propDecidable _
def lp (S : aI) (d : Nat) (name : ByteArray) (to : Nat) (toName : ByteArray) (t : Th) : aI :=
  { S with X := { S.X with ah := S.X.ah - 1 + 1 }, O := br S.X (aO S.X S.O d name t) to toName t }
def renameM (S : aI) (d : Nat) (name : ByteArray) (to : Nat) (toName : ByteArray) : Int × aI :=
  match aU name (obj S.O d).ah with
  | none => (170, S)
  | some t =>
    if t.kind = 2 ∧ iJ S.O t.k to then (174, S)
    else match aU toName (obj S.O to).ah with
      | none => (0, lp S d name to toName t)
      | some o =>
        if o = t then (0, S) else if o.kind = 2 then (172, S) else if t.kind = 2 then (173, S)
        else (0, lp (ax S to toName o) d name to toName t)
def aX (X : FM) (n : Nat) : Nat := (min (n : Int) (X.cB - X.used)).toNat
def writeM (S : aI) (k : Nat) (bs : List UInt8) : Int × Int × aI :=
  if bs = [] then (0, 0, S)
  else if S.X.cB - S.X.used ≤ 0 then (0, 176, S)
  else ((aX S.X bs.length : Int), 0, { S with
    X := { S.X with used := S.X.used + (aX S.X bs.length : Int) }
    O := aB S.O k (fun o => { o with data := o.data ++ bs.take (aX S.X bs.length), sec := S.X.cS, nano := S.X.cZ }) })
def openM (S : aI) (t : Th) : Int × Int × aI :=
  (if (S.us.length : Int) < S.X.cH then least S.us else 0, if (S.us.length : Int) < S.X.cH then 0 else 130, { S with
    O := if (S.us.length : Int) < S.X.cH then aB S.O t.k (fun o => { o with opens := o.opens + 1 }) else S.O
    us := if (S.us.length : Int) < S.X.cH then ins (least S.us) t S.us else S.us
    ay := if (S.us.length : Int) < S.X.cH then max S.ay ((S.us.length : Int) + 1) else S.ay })
theorem iq {S : aI} {t : Th} (h : (S.us.length : Int) < S.X.cH) : openM S t = (least S.us, 0, { S with O := aB S.O t.k (fun o => { o with opens := o.opens + 1 }), us := ins (least S.us) t S.us, ay := max S.ay ((S.us.length : Int) + 1) }) := by
  unfold openM
  simp only [if_pos h]
theorem jw {S : aI} {t : Th} (h : ¬ (S.us.length : Int) < S.X.cH) : openM S t = (0, 130, S) := by
  unfold openM
  simp only [if_neg h]
abbrev oy := Int × aI × aV
def iG (S : aI) (c : aV) : oy :=
  match TabM.get S.idx c.other with
  | none => (141, S, c)
  | some t => if t.kind = 2 then ((openM S t).2.1, (openM S t).2.2, { c with answer := (openM S t).1 }) else (173, S, c)
def fA (O : bM) (us : Used Th) (c : aV) : Except Int Th :=
  match cO O us c.handle c.name 64 with
  | .error e => .error e
  | .ok d => match aU c.name (obj O d).ah with
    | none => .error 170
    | some t => .ok t
def dY (S : aI) (c : aV) : oy :=
  match fA S.O S.us c with
  | .error e => (e, S, c)
  | .ok t => if t.kind = 3 then (174, S, c) else if t.kind = 1 then (173, S, c) else ((openM S t).2.1, (openM S t).2.2, { c with answer := (openM S t).1 })
def dM (S : aI) (c : aV) : oy :=
  match fA S.O S.us c with
  | .error e => (e, S, c)
  | .ok t => if t.kind = 3 then (174, S, c) else if t.kind = 2 then (172, S, c) else ((openM S t).2.1, (openM S t).2.2, { c with answer := (openM S t).1 })
def kS (m : Int) : Prop := 0 ≤ m ∧ m ≤ 4095
instance (m : Int) : Decidable (kS m) := inferInstanceAs (Decidable (_ ∧ _))
def eZ (S : aI) (c : aV) : oy :=
  match cO S.O S.us c.handle c.name 192 with
  | .error e => (e, S, c)
  | .ok d => if kS c.mode then ((mkdirM S d c.name c.mode).1, (mkdirM S d c.name c.mode).2, c) else (120, S, c)
def createM (S : aI) (d : Nat) (name : ByteArray) (mode : Int) : Int × Int × aI :=
  if bO S.X S.O S.idx d name = 0 then
    if (S.us.length : Int) < S.X.cH then
      (least S.us, 0, bD { S with us := ins (least S.us) ⟨aE S.X, 1⟩ S.us, ay := max S.ay ((S.us.length : Int) + 1) } d name { aD S.X 1 mode with opens := 1 })
    else (0, 130, S)
  else (0, bO S.X S.O S.idx d name, S)
def dm (S : aI) (c : aV) : oy :=
  match cO S.O S.us c.handle c.name 192 with
  | .error e => (e, S, c)
  | .ok d => if kS c.mode then
      if bO S.X S.O S.idx d c.name = 0 then ((createM S d c.name c.mode).2.1, (createM S d c.name c.mode).2.2, { c with answer := (createM S d c.name c.mode).1 })
      else (bO S.X S.O S.idx d c.name, S, c)
    else (120, S, c)
def eM (S : aI) (c : aV) : oy :=
  match cO S.O S.us c.handle c.name 192 with
  | .error e => (e, S, c)
  | .ok d => ((symlinkM S d c.name c.text).1, (symlinkM S d c.name c.text).2, c)
def linkM (S : aI) (d : Nat) (name : ByteArray) (to : Nat) (toName : ByteArray) : Int × aI :=
  match aU name (obj S.O d).ah with
  | none => (170, S)
  | some t => if t.kind = 2 then (172, S)
    else if aU toName (obj S.O to).ah = none then
      if S.X.ah < 8192 then (0, { S with X := { S.X with ah := S.X.ah + 1 }, O := br S.X S.O to toName t }) else (177, S)
    else (171, S)
def bW (S : aI) (c : aV) : oy :=
  match cO S.O S.us c.handle c.name 64 with
  | .error e => (e, S, c)
  | .ok d => match cO S.O S.us c.other c.text 192 with
    | .error e => (e, S, c)
    | .ok to => ((linkM S d c.name to c.text).1, (linkM S d c.name to c.text).2, c)
def fF (S : aI) (c : aV) : oy :=
  match cO S.O S.us c.handle c.name 192 with
  | .error e => (e, S, c)
  | .ok d => ((unlinkM S d c.name).1, (unlinkM S d c.name).2, c)
def gu (S : aI) (c : aV) : oy :=
  match cO S.O S.us c.handle c.name 192 with
  | .error e => (e, S, c)
  | .ok d => ((rmdirM S d c.name).1, (rmdirM S d c.name).2, c)
def eF (S : aI) (c : aV) : oy :=
  match cO S.O S.us c.handle c.name 192 with
  | .error e => (e, S, c)
  | .ok d => match cO S.O S.us c.other c.text 192 with
    | .error e => (e, S, c)
    | .ok to => ((renameM S d c.name to c.text).1, (renameM S d c.name to c.text).2, c)
def fD (S : aI) (c : aV) : oy :=
  match TabM.get S.us c.handle with
  | none => (131, S, c)
  | some t => if t.kind = 1 then ((writeM S t.k c.data).2.1, (writeM S t.k c.data).2.2, { c with answer := (writeM S t.k c.data).1 }) else (172, S, c)
def xu (m : Int) : Prop := 0 ≤ m ∧ m ≤ 2147483647
instance (m : Int) : Decidable (xu m) := inferInstanceAs (Decidable (_ ∧ _))
def bG (S : aI) (c : aV) : oy :=
  match TabM.get S.us c.handle with
  | none => (131, S, c)
  | some t =>
    if (obj S.O t.k).gone = true ∧ t.kind = 2 then (170, S, c)
    else if kS c.mode then
      if xu c.uid ∧ xu c.gid then
        if cR c.sec c.nano then (0, { S with O := aB S.O t.k (fun o => { o with mode := c.mode, uid := c.uid, gid := c.gid, sec := c.sec, nano := c.nano }) }, c)
        else (20, S, c)
      else (11, S, c)
    else (120, S, c)
def lq (O : bM) (c : aV) : Option Th → aV
  | none => { c with other := 0, mode := 0, uid := 0, gid := 0, sec := 0, nano := 0 }
  | some t => { c with answer := (obj O t.k).id, other := t.kind, mode := (obj O t.k).mode, uid := (obj O t.k).uid, gid := (obj O t.k).gid, sec := (obj O t.k).sec, nano := (obj O t.k).nano }
def jG (S : aI) (c : aV) : oy :=
  match TabM.get S.us c.handle with
  | none => (131, S, lq S.O c none)
  | some t => (0, S, lq S.O c (some t))
def fH (S : aI) (c : aV) : oy :=
  match fA S.O S.us c with
  | .error e => (e, S, lq S.O c none)
  | .ok t => (0, S, lq S.O c (some t))
def nR (O : bM) (k : Nat) : bM := aB O k (fun o => { o with opens := o.opens - 1 })
def iD (S : aI) (c : aV) : oy :=
  match TabM.get S.us c.handle with
  | none => (131, S, c)
  | some t => (0, { S with
      X := { S.X with used := iV (nR S.O t.k) S.X.used t }
      O := nR S.O t.k
      idx := iF (nR S.O t.k) S.idx t
      us := del c.handle S.us }, c)
def opM (S : aI) (c : aV) : oy :=
  if c.op = 1 then iG S c else if c.op = 2 then dY S c else if c.op = 3 then dM S c else if c.op = 4 then eZ S c
  else if c.op = 5 then dm S c else if c.op = 6 then eM S c else if c.op = 7 then bW S c else if c.op = 8 then fF S c
  else if c.op = 9 then fD S c else if c.op = 10 then bG S c else if c.op = 11 then jG S c else if c.op = 12 then fH S c
  else if c.op = 13 then iD S c else if c.op = 14 then gu S c else if c.op = 15 then eF S c else (230, S, c)
def doM (S : aI) (c : aV) : aI × aV :=
  ((opM S { c with answer := 0, code := 230 }).2.1, { (opM S { c with answer := 0, code := 230 }).2.2 with code := (opM S { c with answer := 0, code := 230 }).1 })
end
end
section
open Go.RowKit Go.Maps HeapM TabM
section sums
variable {V : Type} {g g' : Int × V → Nat} {us : Used V} {h : Int} {v : V}
def cI (g : Int × V → Nat) : Used V → Nat
  | [] => 0
  | p :: r => g p + cI g r
theorem wk : cI g (ins h v us) = g (h, v) + cI g us := by
  induction us with
  | nil => rfl
  | cons p r ih =>
    unfold ins
    split
    ·rfl
    show g p + cI g (ins h v r) = g (h, v) + (g p + cI g r)
    rw [ih]; omega
theorem eO (hc : ∀ p ∈ us, g' p = g p) : cI g' us = cI g us := by
  induction us with
  | nil => rfl
  | cons p r ih =>
    show g' p + cI g' r = g p + cI g r
    rw [hc p (List.mem_cons_self ..), ih (fun q hq => hc q (List.mem_cons_of_mem _ hq))]
theorem DK (hc : ∀ p ∈ us, g' p ≤ g p) : cI g' us ≤ cI g us := by
  induction us with
  | nil => exact Nat.le_refl _
  | cons p r ih =>
    show g' p + cI g' r ≤ g p + cI g r
    exact Nat.add_le_add (hc p (List.mem_cons_self ..)) (ih (fun q hq => hc q (List.mem_cons_of_mem _ hq)))
theorem pN {p : Int × V} {r : Used V} : TabM.get (p :: r) h = if p.1 = h then some p.2 else TabM.get r h := by
  unfold TabM.get
  rw [List.find?_cons]
  by_cases e : p.1 = h
  ·simp [e]
  have e2 : (p.1 == h) = false := by simpa using e
  rw [e2, if_neg e]
theorem get_mem {us : Used V} (e : TabM.get us h = some v) : (h, v) ∈ us := by
  induction us with
  | nil => cases e
  | cons p r ih =>
    rw [pN] at e
    split at e
    ·rename_i e2; cases e; subst e2; exact List.mem_cons_self ..
    exact List.mem_cons_of_mem _ (ih e)
theorem lW {us : Used V} (hr : TabM.ck (keys us)) (e : (h, v) ∈ us) : TabM.get us h = some v := by
  induction us with
  | nil => cases e
  | cons p r ih =>
    rw [keys_cons] at hr
    obtain ⟨h1, h2⟩ := List.pairwise_cons.1 hr
    rw [pN]
    rcases List.mem_cons.1 e with e | e
    ·subst e; rw [if_pos rfl]
    have : p.1 < h := h1 h (List.mem_map.2 ⟨(h, v), e, rfl⟩)
    rw [if_neg (by omega)]
    exact ih h2 e
theorem jQ (e : TabM.get us h = some v) : g (h, v) ≤ cI g us := by
  have hm := get_mem e
  induction us with
  | nil => cases hm
  | cons p r ih =>
    show _ ≤ g p + cI g r
    rw [pN] at e
    split at e
    ·rename_i e2; cases e; subst e2; exact Nat.le_add_right ..
    rcases List.mem_cons.1 hm with e2 | e2
    ·subst e2; exact Nat.le_add_right ..
    exact Nat.le_trans (ih e e2) (Nat.le_add_left ..)
theorem wm (hr : TabM.ck (keys us)) (e : TabM.get us h = some v) (hc : ∀ p ∈ us, p.1 ≠ h → g' p = g p) : cI g' us + g (h, v) = cI g us + g' (h, v) := by
  induction us with
  | nil => cases e
  | cons p r ih =>
    rw [keys_cons] at hr
    obtain ⟨h1, h2⟩ := List.pairwise_cons.1 hr
    rw [pN] at e
    show g' p + cI g' r + _ = g p + cI g r + _
    split at e
    ·rename_i e2
     cases e
     have e3 : cI g' r = cI g r := eO (fun q hq => hc q (List.mem_cons_of_mem _ hq) (by
       have := h1 q.1 (List.mem_map.2 ⟨q, hq, rfl⟩); omega))
     have e4 : p = (h, p.2) := by rw [← e2]
     rw [e3, ← e4]; omega
    rename_i e2
    have := ih h2 e (fun q hq => hc q (List.mem_cons_of_mem _ hq))
    have := hc p (List.mem_cons_self ..) e2
    omega
theorem Ib {p : Int × V} {r : Used V} : del h (p :: r) = if p.1 = h then del h r else p :: del h r := by
  unfold del
  rw [List.filter_cons]
  by_cases e : p.1 = h
  ·simp [e]
  simp [e]
theorem Kj {us : Used V} (hn : h ∉ keys us) : del h us = us := by
  unfold del
  refine List.filter_eq_self.2 (fun p hp => ?_)
  have : ¬ p.1 = h := fun e => hn (List.mem_map.2 ⟨p, hp, e⟩)
  simp [this]
theorem wo (hr : TabM.ck (keys us)) (e : TabM.get us h = some v) : cI g (del h us) + g (h, v) = cI g us := by
  induction us with
  | nil => cases e
  | cons p r ih =>
    rw [keys_cons] at hr
    obtain ⟨h1, h2⟩ := List.pairwise_cons.1 hr
    rw [pN] at e
    rw [Ib]
    show _ = g p + cI g r
    split at e
    ·rename_i e2
     cases e
     rw [if_pos e2, Kj (fun hm => by have := h1 h hm; omega)]
     have e4 : p = (h, p.2) := by rw [← e2]
     rw [← e4]; omega
    rename_i e2
    rw [if_neg e2]
    show g p + cI g (del h r) + _ = _
    have := ih h2 e
    omega
theorem Ca {us : Used V} (hr : TabM.ck (keys us)) : TabM.ck (keys (del h us)) := by
  rw [lC]
  exact List.Pairwise.filter _ hr
end sums
section Ou
variable {n : ByteArray} {t : Th} {es : dR Th} {q : ByteArray × Th → Bool}
theorem F6 : (eH n t es).countP q = es.countP q + if q (n, t) then 1 else 0 := by
  induction es with
  | nil => simp [eH, List.countP_cons]
  | cons e r ih =>
    unfold eH
    split
    ·rw [List.countP_cons]
    rw [List.countP_cons, ih, List.countP_cons]; omega
theorem F7 {es : dR Th} (hd : lS es) (h : aU n es = some t) : (eX n es).countP q + (if q (n, t) then 1 else 0) = es.countP q := by
  induction es with
  | nil => cases h
  | cons e r ih =>
    obtain ⟨h1, h2⟩ := List.pairwise_cons.1 hd
    rw [fQ] at h
    rw [List.countP_cons]
    by_cases he : e.1 = n
    ·rw [if_pos he] at h
     have e1 : eX n (e :: r) = r := by
       unfold eX
       rw [List.filter_cons, if_neg (by simp [he])]
       exact List.filter_eq_self.2 (fun x hx => by have := h1 x hx; simp; exact fun e2 => this (he.trans e2.symm))
     have e2 : e = (n, t) := by
       have : e.2 = t := Option.some.inj h
       rw [← he, ← this]
     rw [e1, ← e2]
    rw [if_neg he] at h
    have e1 : eX n (e :: r) = e :: eX n r := by
      unfold eX
      rw [List.filter_cons, if_pos (by simp [he])]
    rw [e1, List.countP_cons]
    have := ih h2 h
    omega
theorem Ic {e : ByteArray × Th} {es : dR Th} (h : e ∈ eX n es) : e ∈ es ∧ e.1 ≠ n := by
  unfold eX at h
  have := List.mem_filter.1 h
  exact ⟨this.1, by simpa using this.2⟩
theorem tV {es : dR Th} (hd : lS es) (h : (n, t) ∈ es) : aU n es = some t := by
  induction es with
  | nil => cases h
  | cons e r ih =>
    obtain ⟨h1, h2⟩ := List.pairwise_cons.1 hd
    rw [fQ]
    rcases List.mem_cons.1 h with h | h
    ·subst h; rw [if_pos rfl]
    rw [if_neg (fun e2 => h1 (n, t) h e2), ih h2 h]
end Ou
def Live (idx : Used Th) (t : Th) : Prop := TabM.get idx (t.k : Int) = some t
def iH (es : dR Th) : Prop := es.Pairwise (fun a b => ¬ iU b.1 a.1)
def gj (idx : Used Th) (O : bM) (k : Nat) : Nat := cI (fun p => (obj O p.2.k).ah.countP (fun e => decide (e.2.k = k))) idx
def tot (idx : Used Th) (O : bM) : Nat := cI (fun p => (obj O p.2.k).ah.length) idx
def bytes (idx : Used Th) (O : bM) : Nat := cI (fun p => (obj O p.2.k).data.length) idx
def hnd (us : Used Th) (k : Nat) : Nat := cI (fun p => if p.2.k = k then 1 else 0) us
structure jm (o : aS) : Prop where
  mode : 0 ≤ o.mode ∧ o.mode ≤ 4095
  uid : 0 ≤ o.uid ∧ o.uid ≤ 2147483647
  gid : 0 ≤ o.gid ∧ o.gid ≤ 2147483647
  time : cR o.sec o.nano
  data : o.kind ≠ 1 → o.data = []
  ah : o.kind ≠ 2 → o.ah = []
  target : dG o.kind o.target
structure Inv0 (S : aI) : Prop where
  cN : 0 ≤ S.X.cN ∧ S.X.cN ≤ 4096
  cB : 0 ≤ S.X.cB ∧ S.X.cB ≤ 1099511627776
  cH : 0 ≤ S.X.cH ∧ S.X.cH ≤ 1024
  now : cR S.X.cS S.X.cZ
  last : 0 ≤ S.X.last ∧ S.X.last ≤ 1099511627776
  rise : TabM.ck (keys S.idx)
  len : S.idx.length ≤ 4096
  idx : ∀ i t, TabM.get S.idx i = some t → i = (t.k : Int) ∧ 0 < i ∧ i ≤ S.X.last
  ob : ∀ t, Live S.idx t → (obj S.O t.k).id = (t.k : Int) ∧ (obj S.O t.k).kind = t.kind ∧ (t.kind = 1 ∨ t.kind = 2 ∨ t.kind = 3)
  mt : ∀ t, Live S.idx t → jm (obj S.O t.k)
  ah : ∀ t, Live S.idx t → ∀ e ∈ (obj S.O t.k).ah, bE e.1 ∧ Live S.idx e.2
  sorted : ∀ t, Live S.idx t → iH (obj S.O t.k).ah
  dead : ∀ k, (∀ t, Live S.idx t → t.k ≠ k) → (obj S.O k).ah = [] ∧ (obj S.O k).up = none
  oO : ∀ k : Nat, S.X.last < (k : Int) → (obj S.O k).kind = 0
  total : S.X.ah = (tot S.idx S.O : Int) ∧ S.X.ah ≤ 8192
  links : ∀ t, Live S.idx t → (obj S.O t.k).links = (gj S.idx S.O t.k : Int)
  once : ∀ t, Live S.idx t → t.kind = 2 → (obj S.O t.k).links ≤ 1
  opens : ∀ t, Live S.idx t → (obj S.O t.k).opens = (hnd S.us t.k : Int)
  usr : TabM.ck (keys S.us)
  tW : ∀ x ∈ keys S.us, 1 ≤ x ∧ x ≤ S.ay
  xw : (S.us.length : Int) ≤ S.X.cH
  ay : 0 ≤ S.ay ∧ S.ay ≤ S.X.cH
  us : ∀ h t, TabM.get S.us h = some t → Live S.idx t ∧ t.kind ≠ 3
  gone : ∀ t, Live S.idx t → (obj S.O t.k).gone = true → (obj S.O t.k).links = 0 ∧ (obj S.O t.k).ah = []
  up : ∀ t, Live S.idx t → ∀ d, (obj S.O t.k).up = some d ↔ t.kind = 2 ∧ Live S.idx ⟨d, 2⟩ ∧ ∃ n, aU n (obj S.O d).ah = some t
  deep : ∃ dp : Nat → Nat, ∀ k d, (obj S.O k).up = some d → dp d < dp k
  used : S.X.used = (bytes S.idx S.O : Int) ∧ S.X.used ≤ 140737488355328
structure Inv (S : aI) : Prop extends Inv0 S where
  full : ∀ t, Live S.idx t → (obj S.O t.k).gone = true → 0 < (obj S.O t.k).opens
end
section
open Go.RowKit Go.Maps HeapM TabM
section at_
variable {X : FM} {O : bM} {d k : Nat} {name : ByteArray} {t : Th}
theorem gH (h : t.k ≠ d) : obj (aO X O d name t) k = if k = d then { obj O d with ah := eX name (obj O d).ah, sec := X.cS, nano := X.cZ } else if k = t.k then { obj O k with links := (obj O k).links - 1 } else obj O k := by
  unfold aO nP
  by_cases e : k = d
  ·subst e
   rw [bS (fun e => h e.symm), bH, bH, if_pos rfl]
  rw [if_neg e]
  by_cases e2 : k = t.k
  ·subst e2
   rw [bH, bS e, bS e, if_pos rfl]
  rw [bS e2, bS e, bS e, if_neg e2]
theorem tX (h : t.k ≠ d) : obj (br X O d name t) k = if k = d then { obj O d with ah := eH name t (obj O d).ah, sec := X.cS, nano := X.cZ } else if k = t.k then { obj O k with links := (obj O k).links + 1, up := if t.kind = 2 then some d else (obj O k).up } else obj O k := by
  unfold br nP mz
  simp only
  by_cases e : k = d
  ·subst e
   rw [if_pos rfl, bH]
   split
   ·rw [bS (fun e => h e.symm), bS (fun e => h e.symm), bH]
   rw [bS (fun e => h e.symm), bH]
  rw [if_neg e, bS e]
  by_cases e2 : k = t.k
  ·subst e2
   rw [if_pos rfl]
   split
   ·rw [bH, bH, bS e]
   rw [bH, bS e]
  rw [if_neg e2]
  split
  ·rw [bS e2, bS e2, bS e]
  rw [bS e2, bS e]
end at_
section counts
variable {idx : Used Th} {O O' : bM} {d k : Nat} {n : ByteArray} {t : Th}
theorem Ie {q : ByteArray × Th → Bool} (hr : TabM.ck (keys idx)) (hd : TabM.get idx (d : Int) = some ⟨d, 2⟩) (hk : ∀ i u, TabM.get idx i = some u → i = (u.k : Int)) (ho : ∀ x, x ≠ d → (obj O' x).ah = (obj O x).ah) (h1 : (obj O' d).ah = eX n (obj O d).ah) (h2 : lS (obj O d).ah) (h3 : aU n (obj O d).ah = some t) :
    cI (fun p => (obj O' p.2.k).ah.countP q) idx + (if q (n, t) then 1 else 0) = cI (fun p => (obj O p.2.k).ah.countP q) idx := by
  have h4 := wm (g := fun p => (obj O p.2.k).ah.countP q) (g' := fun p => (obj O' p.2.k).ah.countP q) hr hd (fun p hp hne => by
    have := hk p.1 p.2 (lW hr hp)
    show (obj O' p.2.k).ah.countP q = _
    rw [ho p.2.k (by intro e; rw [e] at this; exact hne this)])
  have h5 := F7 (q := q) h2 h3
  have h6 : (obj O' d).ah.countP q = (eX n (obj O d).ah).countP q := by rw [h1]
  have h7 : cI (fun p => (obj O' p.2.k).ah.countP q) idx + (obj O d).ah.countP q = cI (fun p => (obj O p.2.k).ah.countP q) idx + (obj O' d).ah.countP q := h4
  omega
theorem Ig {q : ByteArray × Th → Bool} (hr : TabM.ck (keys idx)) (hd : TabM.get idx (d : Int) = some ⟨d, 2⟩) (hk : ∀ i u, TabM.get idx i = some u → i = (u.k : Int)) (ho : ∀ x, x ≠ d → (obj O' x).ah = (obj O x).ah) (h1 : (obj O' d).ah = eH n t (obj O d).ah) :
    cI (fun p => (obj O' p.2.k).ah.countP q) idx = cI (fun p => (obj O p.2.k).ah.countP q) idx + (if q (n, t) then 1 else 0) := by
  have h4 := wm (g := fun p => (obj O p.2.k).ah.countP q) (g' := fun p => (obj O' p.2.k).ah.countP q) hr hd (fun p hp hne => by
    have := hk p.1 p.2 (lW hr hp)
    show (obj O' p.2.k).ah.countP q = _
    rw [ho p.2.k (by intro e; rw [e] at this; exact hne this)])
  have h5 := F6 (q := q) (n := n) (t := t) (es := (obj O d).ah)
  have h6 : (obj O' d).ah.countP q = (eH n t (obj O d).ah).countP q := by rw [h1]
  have h7 : cI (fun p => (obj O' p.2.k).ah.countP q) idx + (obj O d).ah.countP q = cI (fun p => (obj O p.2.k).ah.countP q) idx + (obj O' d).ah.countP q := h4
  omega
theorem ko : tot idx O = cI (fun p => (obj O p.2.k).ah.countP (fun _ => true)) idx := eO (fun p _ => by simp)
theorem F8 {q : ByteArray × Th → Bool} (ho : ∀ x, (obj O' x).ah = (obj O x).ah) : cI (fun p => (obj O' p.2.k).ah.countP q) idx = cI (fun p => (obj O p.2.k).ah.countP q) idx := eO (fun p _ => by rw [ho])
theorem F9 : gj idx O k ≤ tot idx O := by
  rw [ko]
  exact DK (fun p _ => List.countP_mono_left (fun _ _ _ => rfl))
theorem kJ (hd : TabM.get idx (d : Int) = some ⟨d, 2⟩) (h : aU n (obj O d).ah = some t) : 0 < gj idx O t.k := by
  refine Nat.lt_of_lt_of_le ?_ (jQ (g := fun p => (obj O p.2.k).ah.countP (fun e => decide (e.2.k = t.k))) hd)
  exact List.countP_pos_iff.2 ⟨(n, t), j9 h, by simp⟩
theorem xA (hr : TabM.ck (keys idx)) (h : 0 < gj idx O k) : ∃ i u, TabM.get idx i = some u ∧ ∃ e ∈ (obj O u.k).ah, e.2.k = k := by
  apply Classical.byContradiction
  intro hn
  have : gj idx O k = cI (fun _ => 0) idx := eO (fun p hp => by
    show List.countP _ _ = 0
    rw [List.countP_eq_zero]
    intro e he hk
    exact hn ⟨p.1, p.2, lW hr hp, e, he, by simpa using hk⟩)
  have h0 : ∀ us : Used Th, cI (fun _ => 0) us = 0 := fun us => by
    induction us with
    | nil => rfl
    | cons p r ih => show 0 + _ = 0; rw [ih]
  rw [this, h0] at h
  omega
end counts
end
end Go.Proofs.YtkiedlmhocglhaaGreatDoor
