/-
  PROVED HERE: lemmas and contracts of functions (texts of this repo, joined; what the claim does not use is left out): H7, Vg, H8, H9, Vh, HD, H10, ShelfS, SK, HG, Vp.
  CONDITIONS: as the theorems say.
-/
import Derived.Test.YtkiedlmhocglhaaGreatDoorMHrefused3
import Derived.Shelf.SlGeneric
import Derived.Shelf.SlIter.Nil
import Derived.Shelf.SortM.Plain
import Derived.Shelf.SortM.SortNone
import Derived.Ground.GgzProg
import Derived.Ground.SlgmProg
import Derived.Test.YtkiedlmhocglhaaGreatDoorProg
set_option maxRecDepth 100000
set_option maxHeartbeats 4000000
namespace Go.Proofs.YtkiedlmhocglhaaGreatDoor
section
open Go.RowKit Go.Maps HeapM TabM
attribute [local irreducible] aj aS af ai
abbrev jG (t) (S : aF) (L : HL) := (pT t S.X.cH S.au L S.us : HP)
abbrev lU (m : Nat) (L : HL) (S : aF) (cb : Nat) (c) (R : bP) := ([pI m L S.idx, pD S.O L, pE S.O L, pC cb c, .abs R] : List HP)
abbrev JM (f : Nat) (c : aT) := ([(8, vP f), (12, vI (c.handle)), (16, .string c.name)] : Fr)
abbrev Cs (L : HL) (d : Nat) := ([(5, vP (L.b d)), (6, vI 0)] : Fr)
abbrev mJ (f : Nat) (m : Nat) (t) (S : aF) (L : HL) := ([pF f m t S.X, jG t S L, pO S.O L] : List HP)
abbrev Gt (e) := ([(5, .pointer none), (6, vI (e))] : Fr)
theorem fP {β : Bs} (S : aF) (L : HL) (f m t : Nat) (hI : Inv S) (cb : Nat) (c : aT) (hC : fB β c) :
    Spec Tryz.prog β 133 #[vP f, vP cb] ((pA f m t L S) ++ [pC cb c]) (fun v l => v = Oo L (eY S.O S.us c) ∧ l = ((pA f m t L S) ++ [pC cb c])) := by
 refine Spec.enter Tryz.func133 rfl Tryz.ntmps133 (Nat.le_of_ble_eq_true rfl) (fun R => ?_)
 refine SR ?_
 refine gK 2 [] [] ?_
 refine NN (af.seq ?_)
 refine af.bD (by kernel_rfl) (by kernel_rfl) ?_
 refine gQ 9 [(10, vP f), (14, vI (c.handle)), (18, .string c.name)] [(4, a_ 6 cb), (8, a_ 6 cb)] ?_
 rcases jF hI.toInv0 c.handle c.name 64 with ⟨e, hab, hne⟩ | ⟨d, hab, hd, fZ, hgn, cD⟩
 ·refine aS.call (f := 134) (args := #[vP f, vI (c.handle), .string c.name, vI 64]) (d := (some 19)) (pre := (mJ f m t S L)) (R := (lU m L S cb c R)) (pk := [0, 2, 3, 1, 4, 5, 6, 7]) (gA := [0, 3, 1, 2, 4, 5, 6, 7]) (v0 := .tuple #[.pointer none, vI (e)]) (fun _ => by kernel_rfl) ((by have h := cW S L f m t hI c.handle hC.hw c.name hC.nm 64 (β := β); rw [hab] at h; exact h)) rfl (by kernel_rfl) rfl (by kernel_rfl) (fun _ _ h => h) ?_
  refine gQ 5 [(6, .pointer none), (7, vI (e))] [] ?_
  refine NQ (NX (af.seq (SR ?_)))
  refine gK 2 [(23, .bool (!(decide ((e : Int) = (0 : Int)))))] [] ?_
  refine NN ?_
  refine af.cq (p := (e : Int) = (0 : Int)) (fun _ => by kernel_rfl) (fun h23 => ?_) (fun h23 => ?_)
  ·refine SR ?_
   refine gK 3 [(4, .nilIface), (5, vI (e))] [] ?_
   refine NN (af.ret (ai.aq ?_))
   exact RT (.tuple #[.nilIface, vI (e)]) [0, 1, 2, 3, 4, 5, 6, 7] (⟨by rw [show eY S.O S.us c = .error e by unfold eY; rw [hab]]; rfl, rfl⟩)
  exact absurd h23 hne
 have hkd : (obj S.O d).kind = 2 := hI.kind hd
 refine aS.call (f := 134) (args := #[vP f, vI (c.handle), .string c.name, vI 64]) (d := (some 19)) (pre := (mJ f m t S L)) (R := (lU m L S cb c R)) (pk := [0, 2, 3, 1, 4, 5, 6, 7]) (gA := [0, 3, 1, 2, 4, 5, 6, 7]) (v0 := .tuple #[vP (L.b d), vI 0]) (fun _ => by kernel_rfl) ((by have h := cW S L f m t hI c.handle hC.hw c.name hC.nm 64 (β := β); rw [hab] at h; exact h)) rfl (by kernel_rfl) rfl (by kernel_rfl) (fun _ _ h => h) ?_
 refine gQ 5 [(6, vP (L.b d)), (7, vI 0)] [] ?_
 refine NQ (NX (af.seq (SR ?_)))
 refine gK 2 [(23, .bool false)] [] ?_
 refine NN ?_
 refine CF ?_
 refine af.skip (NX (af.seq ?_))
 have hel : (obj S.O d).ah.length ≤ 8192 := hI.eH hd
 have Nh := hC.nm
 rcases hI.jS hd c.name with hlk | ⟨tk, hlk, hlv⟩ | ⟨tk, hlk, hlv⟩ | ⟨tk, hlk, hlv⟩
 ·refine af.bD (by kernel_rfl) (by kernel_rfl) ?_
  refine gQ 8 [(28, .map (some (L.m d))), (32, .string c.name)] [(3, v_ 3 (bA L hkd)), (7, a_ 6 cb)] ?_
  refine om 5 hkd hlk ?_
  refine gQ 1 [(8, .nilIface)] [] ?_
  refine NQ (NX (af.seq (SR ?_)))
  refine gK 2 [(35, .bool true)] [] ?_
  refine NN ?_
  refine CT ?_
  refine SR ?_
  refine gK 2 [(4, .nilIface), (5, vI 170)] [] ?_
  refine NN (af.ret (ai.aq ?_))
  exact RT (.tuple #[.nilIface, vI 170]) [0, 1, 2, 3, 4, 5, 6, 7] (⟨by rw [show eY S.O S.us c = .error 170 by unfold eY; rw [hab]; simp only; rw [hlk]]; rfl, rfl⟩)
 ·have hkt : (obj S.O tk).kind = 1 := hI.kind hlv
  refine af.bD (by kernel_rfl) (by kernel_rfl) ?_
  refine gQ 8 [(28, .map (some (L.m d))), (32, .string c.name)] [(3, v_ 3 (bA L hkd)), (7, a_ 6 cb)] ?_
  refine om 5 hkd hlk ?_
  refine gQ 1 [(8, .iface 89 (vP (L.b tk)))] [] ?_
  refine NQ (NX (af.seq (SR ?_)))
  refine gK 2 [(35, .bool false)] [] ?_
  refine NN ?_
  refine CF ?_
  refine af.skip (NX (SR ?_))
  refine gK 3 [(4, .iface 89 (vP (L.b tk))), (5, vI 0)] [] ?_
  refine NN (af.ret ?_)
  exact RT (.tuple #[.iface 89 (vP (L.b tk)), vI 0]) [0, 1, 2, 3, 4, 5, 6, 7] (⟨by rw [show eY S.O S.us c = .ok ⟨tk, 1⟩ by unfold eY; rw [hab]; simp only; rw [hlk]]; rfl, rfl⟩)
 ·have hkt : (obj S.O tk).kind = 2 := hI.kind hlv
  refine af.bD (by kernel_rfl) (by kernel_rfl) ?_
  refine gQ 8 [(28, .map (some (L.m d))), (32, .string c.name)] [(3, v_ 3 (bA L hkd)), (7, a_ 6 cb)] ?_
  refine om 5 hkd hlk ?_
  refine gQ 1 [(8, .iface 96 (vP (L.b tk)))] [] ?_
  refine NQ (NX (af.seq (SR ?_)))
  refine gK 2 [(35, .bool false)] [] ?_
  refine NN ?_
  refine CF ?_
  refine af.skip (NX (SR ?_))
  refine gK 3 [(4, .iface 96 (vP (L.b tk))), (5, vI 0)] [] ?_
  refine NN (af.ret ?_)
  exact RT (.tuple #[.iface 96 (vP (L.b tk)), vI 0]) [0, 1, 2, 3, 4, 5, 6, 7] (⟨by rw [show eY S.O S.us c = .ok ⟨tk, 2⟩ by unfold eY; rw [hab]; simp only; rw [hlk]]; rfl, rfl⟩)
 have hkt : (obj S.O tk).kind = 3 := hI.kind hlv
 refine af.bD (by kernel_rfl) (by kernel_rfl) ?_
 refine gQ 8 [(28, .map (some (L.m d))), (32, .string c.name)] [(3, v_ 3 (bA L hkd)), (7, a_ 6 cb)] ?_
 refine om 5 hkd hlk ?_
 refine gQ 1 [(8, .iface 93 (vP (L.b tk)))] [] ?_
 refine NQ (NX (af.seq (SR ?_)))
 refine gK 2 [(35, .bool false)] [] ?_
 refine NN ?_
 refine CF ?_
 refine af.skip (NX (SR ?_))
 refine gK 3 [(4, .iface 93 (vP (L.b tk))), (5, vI 0)] [] ?_
 refine NN (af.ret ?_)
 exact RT (.tuple #[.iface 93 (vP (L.b tk)), vI 0]) [0, 1, 2, 3, 4, 5, 6, 7] (⟨by rw [show eY S.O S.us c = .ok ⟨tk, 3⟩ by unfold eY; rw [hab]; simp only; rw [hlk]]; rfl, rfl⟩)
theorem EM {β : Bs} (S : aF) (L : HL) (f m t : Nat) (hI : Inv S) (cb : Nat) (c : aT) (hC : fB β c) :
    Spec Tryz.prog β 78 #[vP f, vP cb] ((pA f m t L S) ++ [pC cb c]) (fun v l => ∃ L2, v = vI (iw S c).1 ∧ l = ((pA f m t L2 ((iw S c).2.1)) ++ [.blk cb (fT ((iw S c).2.2)) 43])) := by
 have hX := hI.hX
 refine Spec.enter Tryz.func78 rfl Tryz.ntmps78 (Nat.le_of_ble_eq_true rfl) (fun R => ?_)
 refine SR ?_
 refine gK 1 [] [] ?_
 refine NN (af.seq ?_)
 rcases hI.Lm c.other with hix | ⟨tk, hix, hlv⟩ | ⟨tk, hix, hlv⟩ | ⟨tk, hix, hlv⟩
 ·refine af.bD (by kernel_rfl) (by kernel_rfl) ?_
  refine gQ 8 [(10, .map (some m)), (14, vI (c.other))] [(3, a_ 0 f), (7, a_ 6 cb)] ?_
  refine aS.dJ 1 (d := (some 15)) (t := 80) (K := 3) (E := 84) (b := m) (n := S.idx.length) (f := (aM (aI L S.idx))) (x := (.tmp 10)) (ix := (.tmp 14)) (key := .int .i64 (c.other)) (z := .nilIface) (kl := (.int .i64 c.other)) (r := none) (fun _ => by kernel_rfl) (by kernel_rfl) (fun _ => by kernel_rfl) (fun _ => by kernel_rfl) dr Tryz.underlying80 (fun _ => by kernel_rfl) (gH hC.ow) (by rw [dK, hix]; rfl) ?_
  refine gQ 1 [(5, .nilIface)] [] ?_
  refine NQ (NX (af.seq (SR ?_)))
  refine gK 2 [(17, .bool true)] [] ?_
  refine NN ?_
  refine CT ?_
  refine SR ?_
  refine gK 1 [(4, vI 141)] [] ?_
  refine NN (af.ret (ai.aq ?_))
  exact RT (vI 141) [0, 1, 2, 3, 4, 5, 6, 7] (⟨L, by rw [show (iw S c) = (141, S, c) by unfold iw; rw [hix]] <;> exact ⟨rfl, rfl⟩⟩)
 ·have hkt : (obj S.O tk).kind = 1 := hI.kind hlv
  refine af.bD (by kernel_rfl) (by kernel_rfl) ?_
  refine gQ 8 [(10, .map (some m)), (14, vI (c.other))] [(3, a_ 0 f), (7, a_ 6 cb)] ?_
  refine aS.dJ 1 (d := (some 15)) (t := 80) (K := 3) (E := 84) (b := m) (n := S.idx.length) (f := (aM (aI L S.idx))) (x := (.tmp 10)) (ix := (.tmp 14)) (key := .int .i64 (c.other)) (z := .nilIface) (kl := (.int .i64 c.other)) (r := (some (cE L ⟨tk, 1⟩))) (fun _ => by kernel_rfl) (by kernel_rfl) (fun _ => by kernel_rfl) (fun _ => by kernel_rfl) dr Tryz.underlying80 (fun _ => by kernel_rfl) (gH hC.ow) (by rw [dK, hix]; rfl) ?_
  refine gQ 1 [(5, .iface 89 (vP (L.b tk)))] [] ?_
  refine NQ (NX (af.seq (SR ?_)))
  refine gK 2 [(17, .bool false)] [] ?_
  refine NN ?_
  refine CF ?_
  refine af.skip (NX (af.seq (SR ?_)))
  refine gK 1 [(18, .iface 89 (vP (L.b tk)))] [] ?_
  refine gL [] (jw (vP (L.b tk))) ?_
  rintro _ _ ⟨rfl, rfl⟩
  refine gK 1 [(20, .bool true)] [] ?_
  refine NN ?_
  refine CT ?_
  refine SR ?_
  refine gK 1 [(4, vI 173)] [] ?_
  refine NN (af.ret (ai.aq ?_))
  exact RT (vI 173) [0, 1, 2, 3, 4, 5, 6, 7] (⟨L, by rw [show (iw S c) = (173, S, c) by unfold iw; rw [hix]; exact if_neg (by simp)] <;> exact ⟨rfl, rfl⟩⟩)
 ·have hkt : (obj S.O tk).kind = 2 := hI.kind hlv
  refine af.bD (by kernel_rfl) (by kernel_rfl) ?_
  refine gQ 8 [(10, .map (some m)), (14, vI (c.other))] [(3, a_ 0 f), (7, a_ 6 cb)] ?_
  refine aS.dJ 1 (d := (some 15)) (t := 80) (K := 3) (E := 84) (b := m) (n := S.idx.length) (f := (aM (aI L S.idx))) (x := (.tmp 10)) (ix := (.tmp 14)) (key := .int .i64 (c.other)) (z := .nilIface) (kl := (.int .i64 c.other)) (r := (some (cE L ⟨tk, 2⟩))) (fun _ => by kernel_rfl) (by kernel_rfl) (fun _ => by kernel_rfl) (fun _ => by kernel_rfl) dr Tryz.underlying80 (fun _ => by kernel_rfl) (gH hC.ow) (by rw [dK, hix]; rfl) ?_
  refine gQ 1 [(5, .iface 96 (vP (L.b tk)))] [] ?_
  refine NQ (NX (af.seq (SR ?_)))
  refine gK 2 [(17, .bool false)] [] ?_
  refine NN ?_
  refine CF ?_
  refine af.skip (NX (af.seq (SR ?_)))
  refine gK 1 [(18, .iface 96 (vP (L.b tk)))] [] ?_
  refine gL [] (jA (vP (L.b tk))) ?_
  rintro _ _ ⟨rfl, rfl⟩
  refine gK 1 [(20, .bool false)] [] ?_
  refine NN ?_
  refine CF ?_
  refine af.skip (NX (SR ?_))
  refine gK 1 [] [] ?_
  refine NS ?_
  refine gK 3 [(22, vP cb), (23, vP f), (24, .iface 96 (vP (L.b tk)))] [] ?_
  refine gL [0, 2, 3] (pK S L f m t ⟨tk, 2⟩ hkt (by simp) (by have := hI.Aa hlv; simp only at this ⊢; omega)) ?_
  rintro _ _ ⟨rfl, rfl⟩
  refine gC 7 [(6, vI ((openM S ⟨tk, 2⟩).2.1))] [(5, a_ 6 cb)] [(6, [(12, vI ((openM S ⟨tk, 2⟩).1))])] ?_
  refine NS ?_
  refine aj.mem (aQ := [.blk f [vI (S.X.cN), vI (S.X.cB), vI (S.X.cH), vI (S.X.cS), vI (S.X.cZ), .map (some m), vP t, vI (S.X.last), vI (S.X.ah), vI (S.X.used)] 86, .abs (aY 156 t S.X.cH ((openM S ⟨tk, 2⟩).2.2.au) (aI L ((openM S ⟨tk, 2⟩).2.2.us))), .abs (ak (aN ((openM S ⟨tk, 2⟩).2.2.O) L)), .abs (aH Tryz.prog 3 m (aM (aI L S.idx)) S.idx.length), .abs (ak (aV ((openM S ⟨tk, 2⟩).2.2.O) L)), .abs (ak (bg ((openM S ⟨tk, 2⟩).2.2.O) L)), .blk cb [vI (c.op), vI (c.handle), vI (c.other), .string c.name, .string c.text, .slice c.dA (c.data.length) (c.dC), vI (c.mode), vI (c.uid), vI (c.gid), vI (c.sec), vI (c.nano), vI (c.code), vI ((openM S ⟨tk, 2⟩).1)] 43, .abs R]) (fun w hS => by rw [wk, wm]; exact hS) ?_
  refine gK 2 [(4, vI ((openM S ⟨tk, 2⟩).2.1))] [] ?_
  refine NN (af.ret ?_)
  exact RT (vI ((openM S ⟨tk, 2⟩).2.1)) [0, 3, 1, 2, 4, 5, 6, 7] (⟨L, by rw [show (iw S c) = ((openM S ⟨tk, 2⟩).2.1, (openM S ⟨tk, 2⟩).2.2, { c with answer := (openM S ⟨tk, 2⟩).1 }) by unfold iw; rw [hix]; exact if_pos rfl] <;> exact ⟨rfl, rfl⟩⟩)
 have hkt : (obj S.O tk).kind = 3 := hI.kind hlv
 refine af.bD (by kernel_rfl) (by kernel_rfl) ?_
 refine gQ 8 [(10, .map (some m)), (14, vI (c.other))] [(3, a_ 0 f), (7, a_ 6 cb)] ?_
 refine aS.dJ 1 (d := (some 15)) (t := 80) (K := 3) (E := 84) (b := m) (n := S.idx.length) (f := (aM (aI L S.idx))) (x := (.tmp 10)) (ix := (.tmp 14)) (key := .int .i64 (c.other)) (z := .nilIface) (kl := (.int .i64 c.other)) (r := (some (cE L ⟨tk, 3⟩))) (fun _ => by kernel_rfl) (by kernel_rfl) (fun _ => by kernel_rfl) (fun _ => by kernel_rfl) dr Tryz.underlying80 (fun _ => by kernel_rfl) (gH hC.ow) (by rw [dK, hix]; rfl) ?_
 refine gQ 1 [(5, .iface 93 (vP (L.b tk)))] [] ?_
 refine NQ (NX (af.seq (SR ?_)))
 refine gK 2 [(17, .bool false)] [] ?_
 refine NN ?_
 refine CF ?_
 refine af.skip (NX (af.seq (SR ?_)))
 refine gK 1 [(18, .iface 93 (vP (L.b tk)))] [] ?_
 refine gL [] (j8 (vP (L.b tk))) ?_
 rintro _ _ ⟨rfl, rfl⟩
 refine gK 1 [(20, .bool true)] [] ?_
 refine NN ?_
 refine CT ?_
 refine SR ?_
 refine gK 1 [(4, vI 173)] [] ?_
 refine NN (af.ret (ai.aq ?_))
 exact RT (vI 173) [0, 1, 2, 3, 4, 5, 6, 7] (⟨L, by rw [show (iw S c) = (173, S, c) by unfold iw; rw [hix]; exact if_neg (by simp)] <;> exact ⟨rfl, rfl⟩⟩)
theorem Az {β : Bs} (S : aF) (L : HL) (f m t : Nat) (hI : Inv S) (cb : Nat) (c : aT) (hC : fB β c) :
    Spec Tryz.prog β 79 #[vP f, vP cb] ((pA f m t L S) ++ [pC cb c]) (fun v l => ∃ L2, v = vI (dV S c).1 ∧ l = ((pA f m t L2 ((dV S c).2.1)) ++ [.blk cb (fT ((dV S c).2.2)) 43])) := by
 have hX := hI.hX
 refine Spec.enter Tryz.func79 rfl Tryz.ntmps79 (Nat.le_of_ble_eq_true rfl) (fun R => ?_)
 refine SR ?_
 refine gK 1 [] [] ?_
 refine NS ?_
 refine gK 2 [(8, vP f), (9, vP cb)] [] ?_
 rcases xD hI.toInv0 c with ⟨e, hnm, hne⟩ | ⟨tk, hnm, hlv⟩ | ⟨tk, hnm, hlv⟩ | ⟨tk, hnm, hlv⟩
 ·refine gL (f := 133) (args := #[vP f, vP cb]) (pre := ((pA f m t L S) ++ [pC cb c])) [0, 1, 2, 3, 4, 5, 6] ((by have h := fP S L f m t hI cb c hC (β := β); rw [hnm] at h; exact h)) ?_
  rintro _ _ ⟨rfl, rfl⟩
  refine gK 5 [(5, .nilIface), (6, vI (e))] [] ?_
  refine NN (af.seq (SR ?_))
  refine gK 2 [(14, .bool (!(decide ((e : Int) = (0 : Int)))))] [] ?_
  refine NN ?_
  refine af.cq (p := (e : Int) = (0 : Int)) (fun _ => by kernel_rfl) (fun fU => ?_) (fun fU => ?_)
  ·refine SR ?_
   refine gK 2 [(4, vI (e))] [] ?_
   refine NN (af.ret (ai.aq ?_))
   exact RT (vI (e)) [0, 1, 2, 3, 4, 5, 6, 7] (⟨L, by rw [show (dV S c) = (e, S, c) by unfold dV; rw [hnm]] <;> exact ⟨rfl, rfl⟩⟩)
  exact absurd fU hne
 ·have hkt : (obj S.O tk).kind = 1 := hI.kind hlv
  refine gL (f := 133) (args := #[vP f, vP cb]) (pre := ((pA f m t L S) ++ [pC cb c])) [0, 1, 2, 3, 4, 5, 6] ((by have h := fP S L f m t hI cb c hC (β := β); rw [hnm] at h; exact h)) ?_
  rintro _ _ ⟨rfl, rfl⟩
  refine gK 5 [(5, .iface 89 (vP (L.b tk))), (6, vI 0)] [] ?_
  refine NN (af.seq (SR ?_))
  refine gK 2 [(14, .bool false)] [] ?_
  refine NN ?_
  refine CF ?_
  refine af.skip (NX (af.seq (SR ?_)))
  refine gK 1 [(16, .iface 89 (vP (L.b tk)))] [] ?_
  refine NN (af.block (SR ?_))
  refine gK 3 [(18, .bool false)] [] ?_
  refine NN ?_
  refine CF ?_
  refine SR ?_
  refine gK 3 [(21, .bool true)] [] ?_
  refine NN ?_
  refine CT ?_
  refine SR ?_
  refine gK 1 [(4, vI 173)] [] ?_
  refine NN (af.ret (ai.aD (ai.aq ?_)))
  exact RT (vI 173) [0, 1, 2, 3, 4, 5, 6, 7] (⟨L, by rw [show (dV S c) = (173, S, c) by unfold dV; rw [hnm]; exact (if_neg (by simp)).trans (if_pos rfl)] <;> exact ⟨rfl, rfl⟩⟩)
 ·have hkt : (obj S.O tk).kind = 2 := hI.kind hlv
  refine gL (f := 133) (args := #[vP f, vP cb]) (pre := ((pA f m t L S) ++ [pC cb c])) [0, 1, 2, 3, 4, 5, 6] ((by have h := fP S L f m t hI cb c hC (β := β); rw [hnm] at h; exact h)) ?_
  rintro _ _ ⟨rfl, rfl⟩
  refine gK 5 [(5, .iface 96 (vP (L.b tk))), (6, vI 0)] [] ?_
  refine NN (af.seq (SR ?_))
  refine gK 2 [(14, .bool false)] [] ?_
  refine NN ?_
  refine CF ?_
  refine af.skip (NX (af.seq (SR ?_)))
  refine gK 1 [(16, .iface 96 (vP (L.b tk)))] [] ?_
  refine NN (af.block (SR ?_))
  refine gK 3 [(18, .bool false)] [] ?_
  refine NN ?_
  refine CF ?_
  refine SR ?_
  refine gK 3 [(21, .bool false)] [] ?_
  refine NN ?_
  refine CF ?_
  refine af.skip (ai.aP (NX (SR ?_)))
  refine gK 3 [(24, vP cb), (25, vP f), (26, .iface 96 (vP (L.b tk)))] [] ?_
  refine gL [0, 2, 3] (pK S L f m t ⟨tk, 2⟩ hkt (by simp) (by have := hI.Aa hlv; simp only at this ⊢; omega)) ?_
  rintro _ _ ⟨rfl, rfl⟩
  refine gC 7 [(6, vI ((openM S ⟨tk, 2⟩).2.1))] [(5, a_ 6 cb)] [(6, [(12, vI ((openM S ⟨tk, 2⟩).1))])] ?_
  refine NS ?_
  refine aj.mem (aQ := [.blk f [vI (S.X.cN), vI (S.X.cB), vI (S.X.cH), vI (S.X.cS), vI (S.X.cZ), .map (some m), vP t, vI (S.X.last), vI (S.X.ah), vI (S.X.used)] 86, .abs (aY 156 t S.X.cH ((openM S ⟨tk, 2⟩).2.2.au) (aI L ((openM S ⟨tk, 2⟩).2.2.us))), .abs (ak (aN ((openM S ⟨tk, 2⟩).2.2.O) L)), .abs (aH Tryz.prog 3 m (aM (aI L S.idx)) S.idx.length), .abs (ak (aV ((openM S ⟨tk, 2⟩).2.2.O) L)), .abs (ak (bg ((openM S ⟨tk, 2⟩).2.2.O) L)), .blk cb [vI (c.op), vI (c.handle), vI (c.other), .string c.name, .string c.text, .slice c.dA (c.data.length) (c.dC), vI (c.mode), vI (c.uid), vI (c.gid), vI (c.sec), vI (c.nano), vI (c.code), vI ((openM S ⟨tk, 2⟩).1)] 43, .abs R]) (fun w hS => by rw [wk, wm]; exact hS) ?_
  refine gK 2 [(4, vI ((openM S ⟨tk, 2⟩).2.1))] [] ?_
  refine NN (af.ret ?_)
  exact RT (vI ((openM S ⟨tk, 2⟩).2.1)) [0, 3, 1, 2, 4, 5, 6, 7] (⟨L, by rw [show (dV S c) = ((openM S ⟨tk, 2⟩).2.1, (openM S ⟨tk, 2⟩).2.2, { c with answer := (openM S ⟨tk, 2⟩).1 }) by unfold dV; rw [hnm]; exact (if_neg (by simp)).trans (if_neg (by simp))] <;> exact ⟨rfl, rfl⟩⟩)
 have hkt : (obj S.O tk).kind = 3 := hI.kind hlv
 refine gL (f := 133) (args := #[vP f, vP cb]) (pre := ((pA f m t L S) ++ [pC cb c])) [0, 1, 2, 3, 4, 5, 6] ((by have h := fP S L f m t hI cb c hC (β := β); rw [hnm] at h; exact h)) ?_
 rintro _ _ ⟨rfl, rfl⟩
 refine gK 5 [(5, .iface 93 (vP (L.b tk))), (6, vI 0)] [] ?_
 refine NN (af.seq (SR ?_))
 refine gK 2 [(14, .bool false)] [] ?_
 refine NN ?_
 refine CF ?_
 refine af.skip (NX (af.seq (SR ?_)))
 refine gK 1 [(16, .iface 93 (vP (L.b tk)))] [] ?_
 refine NN (af.block (SR ?_))
 refine gK 3 [(18, .bool true)] [] ?_
 refine NN ?_
 refine CT ?_
 refine SR ?_
 refine gK 1 [(4, vI 174)] [] ?_
 refine NN (af.ret (ai.aD (ai.aq ?_)))
 exact RT (vI 174) [0, 1, 2, 3, 4, 5, 6, 7] (⟨L, by rw [show (dV S c) = (174, S, c) by unfold dV; rw [hnm]; exact if_pos rfl] <;> exact ⟨rfl, rfl⟩⟩)
theorem zk {β : Bs} (S : aF) (L : HL) (f m t : Nat) (hI : Inv S) (cb : Nat) (c : aT) (hC : fB β c) :
    Spec Tryz.prog β 80 #[vP f, vP cb] ((pA f m t L S) ++ [pC cb c]) (fun v l => ∃ L2, v = vI (dI S c).1 ∧ l = ((pA f m t L2 ((dI S c).2.1)) ++ [.blk cb (fT ((dI S c).2.2)) 43])) := by
 have hX := hI.hX
 refine Spec.enter Tryz.func80 rfl Tryz.ntmps80 (Nat.le_of_ble_eq_true rfl) (fun R => ?_)
 refine SR ?_
 refine gK 1 [] [] ?_
 refine NS ?_
 refine gK 2 [(8, vP f), (9, vP cb)] [] ?_
 rcases xD hI.toInv0 c with ⟨e, hnm, hne⟩ | ⟨tk, hnm, hlv⟩ | ⟨tk, hnm, hlv⟩ | ⟨tk, hnm, hlv⟩
 ·refine gL (f := 133) (args := #[vP f, vP cb]) (pre := ((pA f m t L S) ++ [pC cb c])) [0, 1, 2, 3, 4, 5, 6] ((by have h := fP S L f m t hI cb c hC (β := β); rw [hnm] at h; exact h)) ?_
  rintro _ _ ⟨rfl, rfl⟩
  refine gK 5 [(5, .nilIface), (6, vI (e))] [] ?_
  refine NN (af.seq (SR ?_))
  refine gK 2 [(14, .bool (!(decide ((e : Int) = (0 : Int)))))] [] ?_
  refine NN ?_
  refine af.cq (p := (e : Int) = (0 : Int)) (fun _ => by kernel_rfl) (fun fU => ?_) (fun fU => ?_)
  ·refine SR ?_
   refine gK 2 [(4, vI (e))] [] ?_
   refine NN (af.ret (ai.aq ?_))
   exact RT (vI (e)) [0, 1, 2, 3, 4, 5, 6, 7] (⟨L, by rw [show (dI S c) = (e, S, c) by unfold dI; rw [hnm]] <;> exact ⟨rfl, rfl⟩⟩)
  exact absurd fU hne
 ·have hkt : (obj S.O tk).kind = 1 := hI.kind hlv
  refine gL (f := 133) (args := #[vP f, vP cb]) (pre := ((pA f m t L S) ++ [pC cb c])) [0, 1, 2, 3, 4, 5, 6] ((by have h := fP S L f m t hI cb c hC (β := β); rw [hnm] at h; exact h)) ?_
  rintro _ _ ⟨rfl, rfl⟩
  refine gK 5 [(5, .iface 89 (vP (L.b tk))), (6, vI 0)] [] ?_
  refine NN (af.seq (SR ?_))
  refine gK 2 [(14, .bool false)] [] ?_
  refine NN ?_
  refine CF ?_
  refine af.skip (NX (af.seq (SR ?_)))
  refine gK 1 [(16, .iface 89 (vP (L.b tk)))] [] ?_
  refine NN (af.block (SR ?_))
  refine gK 3 [(18, .bool false)] [] ?_
  refine NN ?_
  refine CF ?_
  refine SR ?_
  refine gK 3 [(21, .bool false)] [] ?_
  refine NN ?_
  refine CF ?_
  refine af.skip (ai.aP (NX (SR ?_)))
  refine gK 3 [(24, vP cb), (25, vP f), (26, .iface 89 (vP (L.b tk)))] [] ?_
  refine gL [0, 2, 3] (pK S L f m t ⟨tk, 1⟩ hkt (by simp) (by have := hI.Aa hlv; simp only at this ⊢; omega)) ?_
  rintro _ _ ⟨rfl, rfl⟩
  refine gC 7 [(6, vI ((openM S ⟨tk, 1⟩).2.1))] [(5, a_ 6 cb)] [(6, [(12, vI ((openM S ⟨tk, 1⟩).1))])] ?_
  refine NS ?_
  refine aj.mem (aQ := [.blk f [vI (S.X.cN), vI (S.X.cB), vI (S.X.cH), vI (S.X.cS), vI (S.X.cZ), .map (some m), vP t, vI (S.X.last), vI (S.X.ah), vI (S.X.used)] 86, .abs (aY 156 t S.X.cH ((openM S ⟨tk, 1⟩).2.2.au) (aI L ((openM S ⟨tk, 1⟩).2.2.us))), .abs (ak (aN ((openM S ⟨tk, 1⟩).2.2.O) L)), .abs (aH Tryz.prog 3 m (aM (aI L S.idx)) S.idx.length), .abs (ak (aV ((openM S ⟨tk, 1⟩).2.2.O) L)), .abs (ak (bg ((openM S ⟨tk, 1⟩).2.2.O) L)), .blk cb [vI (c.op), vI (c.handle), vI (c.other), .string c.name, .string c.text, .slice c.dA (c.data.length) (c.dC), vI (c.mode), vI (c.uid), vI (c.gid), vI (c.sec), vI (c.nano), vI (c.code), vI ((openM S ⟨tk, 1⟩).1)] 43, .abs R]) (fun w hS => by rw [wk, wm]; exact hS) ?_
  refine gK 2 [(4, vI ((openM S ⟨tk, 1⟩).2.1))] [] ?_
  refine NN (af.ret ?_)
  exact RT (vI ((openM S ⟨tk, 1⟩).2.1)) [0, 3, 1, 2, 4, 5, 6, 7] (⟨L, by rw [show (dI S c) = ((openM S ⟨tk, 1⟩).2.1, (openM S ⟨tk, 1⟩).2.2, { c with answer := (openM S ⟨tk, 1⟩).1 }) by unfold dI; rw [hnm]; exact (if_neg (by simp)).trans (if_neg (by simp))] <;> exact ⟨rfl, rfl⟩⟩)
 ·have hkt : (obj S.O tk).kind = 2 := hI.kind hlv
  refine gL (f := 133) (args := #[vP f, vP cb]) (pre := ((pA f m t L S) ++ [pC cb c])) [0, 1, 2, 3, 4, 5, 6] ((by have h := fP S L f m t hI cb c hC (β := β); rw [hnm] at h; exact h)) ?_
  rintro _ _ ⟨rfl, rfl⟩
  refine gK 5 [(5, .iface 96 (vP (L.b tk))), (6, vI 0)] [] ?_
  refine NN (af.seq (SR ?_))
  refine gK 2 [(14, .bool false)] [] ?_
  refine NN ?_
  refine CF ?_
  refine af.skip (NX (af.seq (SR ?_)))
  refine gK 1 [(16, .iface 96 (vP (L.b tk)))] [] ?_
  refine NN (af.block (SR ?_))
  refine gK 3 [(18, .bool false)] [] ?_
  refine NN ?_
  refine CF ?_
  refine SR ?_
  refine gK 3 [(21, .bool true)] [] ?_
  refine NN ?_
  refine CT ?_
  refine SR ?_
  refine gK 1 [(4, vI 172)] [] ?_
  refine NN (af.ret (ai.aD (ai.aq ?_)))
  exact RT (vI 172) [0, 1, 2, 3, 4, 5, 6, 7] (⟨L, by rw [show (dI S c) = (172, S, c) by unfold dI; rw [hnm]; exact (if_neg (by simp)).trans (if_pos rfl)] <;> exact ⟨rfl, rfl⟩⟩)
 have hkt : (obj S.O tk).kind = 3 := hI.kind hlv
 refine gL (f := 133) (args := #[vP f, vP cb]) (pre := ((pA f m t L S) ++ [pC cb c])) [0, 1, 2, 3, 4, 5, 6] ((by have h := fP S L f m t hI cb c hC (β := β); rw [hnm] at h; exact h)) ?_
 rintro _ _ ⟨rfl, rfl⟩
 refine gK 5 [(5, .iface 93 (vP (L.b tk))), (6, vI 0)] [] ?_
 refine NN (af.seq (SR ?_))
 refine gK 2 [(14, .bool false)] [] ?_
 refine NN ?_
 refine CF ?_
 refine af.skip (NX (af.seq (SR ?_)))
 refine gK 1 [(16, .iface 93 (vP (L.b tk)))] [] ?_
 refine NN (af.block (SR ?_))
 refine gK 3 [(18, .bool true)] [] ?_
 refine NN ?_
 refine CT ?_
 refine SR ?_
 refine gK 1 [(4, vI 174)] [] ?_
 refine NN (af.ret (ai.aD (ai.aq ?_)))
 exact RT (vI 174) [0, 1, 2, 3, 4, 5, 6, 7] (⟨L, by rw [show (dI S c) = (174, S, c) by unfold dI; rw [hnm]; exact if_pos rfl] <;> exact ⟨rfl, rfl⟩⟩)
theorem Dh {β : Bs} (S : aF) (L : HL) (f m t : Nat) (hI : Inv S) (cb : Nat) (c : aT) (hC : fB β c) :
    Spec Tryz.prog β 81 #[vP f, vP cb] ((pA f m t L S) ++ [pC cb c]) (fun v l => ∃ L2, v = vI (eS S c).1 ∧ l = ((pA f m t L2 ((eS S c).2.1)) ++ [.blk cb (fT ((eS S c).2.2)) 43])) := by
 have hX := hI.hX
 refine Spec.enter Tryz.func81 rfl Tryz.ntmps81 (Nat.le_of_ble_eq_true rfl) (fun R => ?_)
 refine SR ?_
 refine gK 1 [] [] ?_
 refine NN (af.seq ?_)
 refine af.bD (by kernel_rfl) (by kernel_rfl) ?_
 refine gQ 9 (JM f c) [(4, a_ 6 cb), (8, a_ 6 cb)] ?_
 rcases jF hI.toInv0 c.handle c.name 192 with ⟨e, hab, hne⟩ | ⟨d, hab, hd, fZ, hgn, cD⟩
 ·refine aS.call (f := 134) (args := #[vP f, vI (c.handle), .string c.name, vI 192]) (d := (some 17)) (pre := (mJ f m t S L)) (R := (lU m L S cb c R)) (pk := [0, 2, 3, 1, 4, 5, 6, 7]) (gA := [0, 3, 1, 2, 4, 5, 6, 7]) (v0 := .tuple #[.pointer none, vI (e)]) (fun _ => by kernel_rfl) ((by have h := cW S L f m t hI c.handle hC.hw c.name hC.nm 192 (β := β); rw [hab] at h; exact h)) rfl (by kernel_rfl) rfl (by kernel_rfl) (fun _ _ h => h) ?_
  refine gQ 5 (Gt e) [] ?_
  refine NQ (NX (af.seq (SR ?_)))
  refine gK 2 [(21, .bool (!(decide ((e : Int) = (0 : Int)))))] [] ?_
  refine NN ?_
  refine af.cq (p := (e : Int) = (0 : Int)) (fun _ => by kernel_rfl) (fun rF => ?_) (fun rF => ?_)
  ·refine SR ?_
   refine gK 2 [(4, vI (e))] [] ?_
   refine NN (af.ret (ai.aq ?_))
   exact RT (vI (e)) [0, 1, 2, 3, 4, 5, 6, 7] (⟨L, by rw [show (eS S c) = (e, S, c) by unfold eS; rw [hab]] <;> exact ⟨rfl, rfl⟩⟩)
  exact absurd rF hne
 have hkd : (obj S.O d).kind = 2 := hI.kind hd
 refine aS.call (f := 134) (args := #[vP f, vI (c.handle), .string c.name, vI 192]) (d := (some 17)) (pre := (mJ f m t S L)) (R := (lU m L S cb c R)) (pk := [0, 2, 3, 1, 4, 5, 6, 7]) (gA := [0, 3, 1, 2, 4, 5, 6, 7]) (v0 := .tuple #[vP (L.b d), vI 0]) (fun _ => by kernel_rfl) ((by have h := cW S L f m t hI c.handle hC.hw c.name hC.nm 192 (β := β); rw [hab] at h; exact h)) rfl (by kernel_rfl) rfl (by kernel_rfl) (fun _ _ h => h) ?_
 refine gQ 5 (Cs L d) [] ?_
 refine NQ (NX (af.seq (SR ?_)))
 refine gK 2 [(21, .bool false)] [] ?_
 refine NN ?_
 refine CF ?_
 refine af.skip (NX (af.seq (SR ?_)))
 refine gK 4 [(26, vI (c.mode))] [(3, a_ 6 cb)] ?_
 refine gL [] (dX (c.mode) 4095) ?_
 rintro _ _ ⟨rfl, rfl⟩
 refine gK 1 [(28, .bool (!(decide (0 ≤ c.mode ∧ c.mode ≤ 4095))))] [] ?_
 refine NN ?_
 refine af.cq (p := 0 ≤ c.mode ∧ c.mode ≤ 4095) (fun _ => by kernel_rfl) (fun LR => ?_) (fun LR => ?_)
 ·refine SR ?_
  refine gK 1 [(4, vI 120)] [] ?_
  refine NN (af.ret (ai.aq ?_))
  exact RT (vI 120) [0, 1, 2, 3, 4, 5, 6, 7] (⟨L, by rw [show (eS S c) = (120, S, c) by unfold eS; rw [hab]; exact if_neg LR] <;> exact ⟨rfl, rfl⟩⟩)
 refine af.skip (NX (af.seq ?_))
 refine af.bY (S := [pC cb c]) [0, 1, 2, 3, 4, 5, 6, 7, 8, 9, 10, 11] 10 [6] (by kernel_rfl) (by kernel_rfl) rfl (by kernel_rfl) ?_
 refine aG.reads (r := 0) (l := [10, 11]) (fr' := [(29, vP f), (30, vP (L.b d)), (34, .string c.name), (38, vI (c.mode))]) (aU := [cb = cb, cb = cb]) [0, 1, 2, 3, 4, 5, 6, 7, 8, 9] [o_, o_, o_, o_, o_, ⟨[.at 0], none, none, none, none⟩, o_, o_, o_, ⟨[.at 0], none, none, none, none⟩] [29, 30, 34, 38] (fun _ => by kernel_rfl) ⟨rfl, rfl, trivial⟩ rfl rfl ?_
 refine mL [6] [0, 1, 2, 3, 4, 5] (Ac S L f m t hI d hd c.name hC.nm c.mode) ?_ (by rintro _ _ ⟨L2, rfl, rfl⟩; rfl)
 rintro _ _ ⟨L2, rfl, rfl⟩
 refine aG.last rfl rfl ?_
 refine gK 1 [(4, vI ((mkdirM S d c.name c.mode).1))] [] ?_
 refine NL (ai.np (NX (af.ret ?_)))
 exact RT (vI ((mkdirM S d c.name c.mode).1)) [0, 1, 2, 3, 4, 5, 6, 7] (⟨L2, by rw [show (eS S c) = ((mkdirM S d c.name c.mode).1, (mkdirM S d c.name c.mode).2, c) by unfold eS; rw [hab]; exact if_pos LR] <;> exact ⟨rfl, rfl⟩⟩)
theorem AA {β : Bs} (S : aF) (L : HL) (f m t : Nat) (hI : Inv S) (cb : Nat) (c : aT) (hC : fB β c) :
    Spec Tryz.prog β 83 #[vP f, vP cb] ((pA f m t L S) ++ [pC cb c]) (fun v l => ∃ L2, v = vI (eE S c).1 ∧ l = ((pA f m t L2 ((eE S c).2.1)) ++ [.blk cb (fT ((eE S c).2.2)) 43])) := by
 have hX := hI.hX
 refine Spec.enter Tryz.func83 rfl Tryz.ntmps83 (Nat.le_of_ble_eq_true rfl) (fun R => ?_)
 refine SR ?_
 refine gK 1 [] [] ?_
 refine NN (af.seq ?_)
 refine af.bD (by kernel_rfl) (by kernel_rfl) ?_
 refine gQ 9 (JM f c) [(4, a_ 6 cb), (8, a_ 6 cb)] ?_
 rcases jF hI.toInv0 c.handle c.name 192 with ⟨e, hab, hne⟩ | ⟨d, hab, hd, fZ, hgn, cD⟩
 ·refine aS.call (f := 134) (args := #[vP f, vI (c.handle), .string c.name, vI 192]) (d := (some 17)) (pre := (mJ f m t S L)) (R := (lU m L S cb c R)) (pk := [0, 2, 3, 1, 4, 5, 6, 7]) (gA := [0, 3, 1, 2, 4, 5, 6, 7]) (v0 := .tuple #[.pointer none, vI (e)]) (fun _ => by kernel_rfl) ((by have h := cW S L f m t hI c.handle hC.hw c.name hC.nm 192 (β := β); rw [hab] at h; exact h)) rfl (by kernel_rfl) rfl (by kernel_rfl) (fun _ _ h => h) ?_
  refine gQ 5 (Gt e) [] ?_
  refine NQ (NX (af.seq (SR ?_)))
  refine gK 2 [(21, .bool (!(decide ((e : Int) = (0 : Int)))))] [] ?_
  refine NN ?_
  refine af.cq (p := (e : Int) = (0 : Int)) (fun _ => by kernel_rfl) (fun rF => ?_) (fun rF => ?_)
  ·refine SR ?_
   refine gK 2 [(4, vI (e))] [] ?_
   refine NN (af.ret (ai.aq ?_))
   exact RT (vI (e)) [0, 1, 2, 3, 4, 5, 6, 7] (⟨L, by rw [show (eE S c) = (e, S, c) by unfold eE; rw [hab]] <;> exact ⟨rfl, rfl⟩⟩)
  exact absurd rF hne
 have hkd : (obj S.O d).kind = 2 := hI.kind hd
 refine aS.call (f := 134) (args := #[vP f, vI (c.handle), .string c.name, vI 192]) (d := (some 17)) (pre := (mJ f m t S L)) (R := (lU m L S cb c R)) (pk := [0, 2, 3, 1, 4, 5, 6, 7]) (gA := [0, 3, 1, 2, 4, 5, 6, 7]) (v0 := .tuple #[vP (L.b d), vI 0]) (fun _ => by kernel_rfl) ((by have h := cW S L f m t hI c.handle hC.hw c.name hC.nm 192 (β := β); rw [hab] at h; exact h)) rfl (by kernel_rfl) rfl (by kernel_rfl) (fun _ _ h => h) ?_
 refine gQ 5 (Cs L d) [] ?_
 refine NQ (NX (af.seq (SR ?_)))
 refine gK 2 [(21, .bool false)] [] ?_
 refine NN ?_
 refine CF ?_
 refine af.skip (NX (af.seq ?_))
 refine af.bY (S := [pC cb c]) [0, 1, 2, 3, 4, 5, 6, 7, 8, 9, 10, 11] 10 [6] (by kernel_rfl) (by kernel_rfl) rfl (by kernel_rfl) ?_
 refine aG.reads (r := 0) (l := [10, 11]) (fr' := [(23, vP f), (24, vP (L.b d)), (28, .string c.name), (32, .string c.text)]) (aU := [cb = cb, cb = cb]) [0, 1, 2, 3, 4, 5, 6, 7, 8, 9] [o_, o_, o_, o_, o_, ⟨[.at 0], none, none, none, none⟩, o_, o_, o_, ⟨[.at 0], none, none, none, none⟩] [23, 24, 28, 32] (fun _ => by kernel_rfl) ⟨rfl, rfl, trivial⟩ rfl rfl ?_
 refine mL [6] [0, 1, 2, 3, 4, 5] (vA S L f m t hI d hd c.name hC.nm c.text hC.tx) ?_ (by rintro _ _ ⟨L2, rfl, rfl⟩; rfl)
 rintro _ _ ⟨L2, rfl, rfl⟩
 refine aG.last rfl rfl ?_
 refine gK 1 [(4, vI ((symlinkM S d c.name c.text).1))] [] ?_
 refine NL (ai.np (NX (af.ret ?_)))
 exact RT (vI ((symlinkM S d c.name c.text).1)) [0, 1, 2, 3, 4, 5, 6, 7] (⟨L2, by rw [show (eE S c) = ((symlinkM S d c.name c.text).1, (symlinkM S d c.name c.text).2, c) by unfold eE; rw [hab]] <;> exact ⟨rfl, rfl⟩⟩)
theorem Ct {β : Bs} (S : aF) (L : HL) (f m t : Nat) (hI : Inv S) (cb : Nat) (c : aT) (hC : fB β c) :
    Spec Tryz.prog β 85 #[vP f, vP cb] ((pA f m t L S) ++ [pC cb c]) (fun v l => ∃ L2, v = vI (fq S c).1 ∧ l = ((pA f m t L2 ((fq S c).2.1)) ++ [.blk cb (fT ((fq S c).2.2)) 43])) := by
 have hX := hI.hX
 refine Spec.enter Tryz.func85 rfl Tryz.ntmps85 (Nat.le_of_ble_eq_true rfl) (fun R => ?_)
 refine SR ?_
 refine gK 1 [] [] ?_
 refine NN (af.seq ?_)
 refine af.bD (by kernel_rfl) (by kernel_rfl) ?_
 refine gQ 9 (JM f c) [(4, a_ 6 cb), (8, a_ 6 cb)] ?_
 rcases jF hI.toInv0 c.handle c.name 192 with ⟨e, hab, hne⟩ | ⟨d, hab, hd, fZ, hgn, cD⟩
 ·refine aS.call (f := 134) (args := #[vP f, vI (c.handle), .string c.name, vI 192]) (d := (some 17)) (pre := (mJ f m t S L)) (R := (lU m L S cb c R)) (pk := [0, 2, 3, 1, 4, 5, 6, 7]) (gA := [0, 3, 1, 2, 4, 5, 6, 7]) (v0 := .tuple #[.pointer none, vI (e)]) (fun _ => by kernel_rfl) ((by have h := cW S L f m t hI c.handle hC.hw c.name hC.nm 192 (β := β); rw [hab] at h; exact h)) rfl (by kernel_rfl) rfl (by kernel_rfl) (fun _ _ h => h) ?_
  refine gQ 5 (Gt e) [] ?_
  refine NQ (NX (af.seq (SR ?_)))
  refine gK 2 [(21, .bool (!(decide ((e : Int) = (0 : Int)))))] [] ?_
  refine NN ?_
  refine af.cq (p := (e : Int) = (0 : Int)) (fun _ => by kernel_rfl) (fun rF => ?_) (fun rF => ?_)
  ·refine SR ?_
   refine gK 2 [(4, vI (e))] [] ?_
   refine NN (af.ret (ai.aq ?_))
   exact RT (vI (e)) [0, 1, 2, 3, 4, 5, 6, 7] (⟨L, by rw [show (fq S c) = (e, S, c) by unfold fq; rw [hab]] <;> exact ⟨rfl, rfl⟩⟩)
  exact absurd rF hne
 have hkd : (obj S.O d).kind = 2 := hI.kind hd
 refine aS.call (f := 134) (args := #[vP f, vI (c.handle), .string c.name, vI 192]) (d := (some 17)) (pre := (mJ f m t S L)) (R := (lU m L S cb c R)) (pk := [0, 2, 3, 1, 4, 5, 6, 7]) (gA := [0, 3, 1, 2, 4, 5, 6, 7]) (v0 := .tuple #[vP (L.b d), vI 0]) (fun _ => by kernel_rfl) ((by have h := cW S L f m t hI c.handle hC.hw c.name hC.nm 192 (β := β); rw [hab] at h; exact h)) rfl (by kernel_rfl) rfl (by kernel_rfl) (fun _ _ h => h) ?_
 refine gQ 5 (Cs L d) [] ?_
 refine NQ (NX (af.seq (SR ?_)))
 refine gK 2 [(21, .bool false)] [] ?_
 refine NN ?_
 refine CF ?_
 refine af.skip (NX (SR ?_))
 refine gK 6 [(23, vP f), (24, vP (L.b d)), (28, .string c.name)] [(5, a_ 6 cb)] ?_
 refine gL [0, 1, 2, 3, 4, 5] (xZ S L f m t hI d hd c.name hC.nm) ?_
 rintro _ _ ⟨L2, rfl, rfl⟩
 refine gK 1 [(4, vI ((unlinkM S d c.name).1))] [] ?_
 refine NN (af.ret ?_)
 exact RT (vI ((unlinkM S d c.name).1)) [0, 1, 2, 3, 4, 5, 6, 7] (⟨L2, by rw [show (fq S c) = ((unlinkM S d c.name).1, (unlinkM S d c.name).2, c) by unfold fq; rw [hab]] <;> exact ⟨rfl, rfl⟩⟩)
theorem Di {β : Bs} (S : aF) (L : HL) (f m t : Nat) (hI : Inv S) (cb : Nat) (c : aT) (hC : fB β c) :
    Spec Tryz.prog β 91 #[vP f, vP cb] ((pA f m t L S) ++ [pC cb c]) (fun v l => ∃ L2, v = vI (fX S c).1 ∧ l = ((pA f m t L2 ((fX S c).2.1)) ++ [.blk cb (fT ((fX S c).2.2)) 43])) := by
 have hX := hI.hX
 refine Spec.enter Tryz.func91 rfl Tryz.ntmps91 (Nat.le_of_ble_eq_true rfl) (fun R => ?_)
 refine SR ?_
 refine gK 1 [] [] ?_
 refine NN (af.seq ?_)
 refine af.bD (by kernel_rfl) (by kernel_rfl) ?_
 refine gQ 9 (JM f c) [(4, a_ 6 cb), (8, a_ 6 cb)] ?_
 rcases jF hI.toInv0 c.handle c.name 192 with ⟨e, hab, hne⟩ | ⟨d, hab, hd, fZ, hgn, cD⟩
 ·refine aS.call (f := 134) (args := #[vP f, vI (c.handle), .string c.name, vI 192]) (d := (some 17)) (pre := (mJ f m t S L)) (R := (lU m L S cb c R)) (pk := [0, 2, 3, 1, 4, 5, 6, 7]) (gA := [0, 3, 1, 2, 4, 5, 6, 7]) (v0 := .tuple #[.pointer none, vI (e)]) (fun _ => by kernel_rfl) ((by have h := cW S L f m t hI c.handle hC.hw c.name hC.nm 192 (β := β); rw [hab] at h; exact h)) rfl (by kernel_rfl) rfl (by kernel_rfl) (fun _ _ h => h) ?_
  refine gQ 5 (Gt e) [] ?_
  refine NQ (NX (af.seq (SR ?_)))
  refine gK 2 [(21, .bool (!(decide ((e : Int) = (0 : Int)))))] [] ?_
  refine NN ?_
  refine af.cq (p := (e : Int) = (0 : Int)) (fun _ => by kernel_rfl) (fun rF => ?_) (fun rF => ?_)
  ·refine SR ?_
   refine gK 2 [(4, vI (e))] [] ?_
   refine NN (af.ret (ai.aq ?_))
   exact RT (vI (e)) [0, 1, 2, 3, 4, 5, 6, 7] (⟨L, by rw [show (fX S c) = (e, S, c) by unfold fX; rw [hab]] <;> exact ⟨rfl, rfl⟩⟩)
  exact absurd rF hne
 have hkd : (obj S.O d).kind = 2 := hI.kind hd
 refine aS.call (f := 134) (args := #[vP f, vI (c.handle), .string c.name, vI 192]) (d := (some 17)) (pre := (mJ f m t S L)) (R := (lU m L S cb c R)) (pk := [0, 2, 3, 1, 4, 5, 6, 7]) (gA := [0, 3, 1, 2, 4, 5, 6, 7]) (v0 := .tuple #[vP (L.b d), vI 0]) (fun _ => by kernel_rfl) ((by have h := cW S L f m t hI c.handle hC.hw c.name hC.nm 192 (β := β); rw [hab] at h; exact h)) rfl (by kernel_rfl) rfl (by kernel_rfl) (fun _ _ h => h) ?_
 refine gQ 5 (Cs L d) [] ?_
 refine NQ (NX (af.seq (SR ?_)))
 refine gK 2 [(21, .bool false)] [] ?_
 refine NN ?_
 refine CF ?_
 refine af.skip (NX (SR ?_))
 refine gK 6 [(23, vP f), (24, vP (L.b d)), (28, .string c.name)] [(5, a_ 6 cb)] ?_
 refine gL [0, 1, 2, 3, 4, 5] (Ad S L f m t hI d hd c.name hC.nm) ?_
 rintro _ _ ⟨L2, rfl, rfl⟩
 refine gK 1 [(4, vI ((rmdirM S d c.name).1))] [] ?_
 refine NN (af.ret ?_)
 exact RT (vI ((rmdirM S d c.name).1)) [0, 1, 2, 3, 4, 5, 6, 7] (⟨L2, by rw [show (fX S c) = ((rmdirM S d c.name).1, (rmdirM S d c.name).2, c) by unfold fX; rw [hab]] <;> exact ⟨rfl, rfl⟩⟩)
theorem Cu {β : Bs} (S : aF) (L : HL) (f m t : Nat) (hI : Inv S) (cb : Nat) (c : aT) (hC : fB β c) :
    Spec Tryz.prog β 92 #[vP f, vP cb] ((pA f m t L S) ++ [pC cb c]) (fun v l => ∃ L2, v = vI (eu S c).1 ∧ l = ((pA f m t L2 ((eu S c).2.1)) ++ [.blk cb (fT ((eu S c).2.2)) 43])) := by
 have hX := hI.hX
 refine Spec.enter Tryz.func92 rfl Tryz.ntmps92 (Nat.le_of_ble_eq_true rfl) (fun R => ?_)
 refine SR ?_
 refine gK 1 [] [] ?_
 refine NN (af.seq ?_)
 refine af.bD (by kernel_rfl) (by kernel_rfl) ?_
 refine gQ 9 [(9, vP f), (13, vI (c.handle)), (17, .string c.name)] [(4, a_ 6 cb), (8, a_ 6 cb)] ?_
 rcases jF hI.toInv0 c.handle c.name 192 with ⟨e, hab, hne⟩ | ⟨d, hab, hd, fZ, hgn, cD⟩
 ·refine aS.call (f := 134) (args := #[vP f, vI (c.handle), .string c.name, vI 192]) (d := (some 18)) (pre := (mJ f m t S L)) (R := (lU m L S cb c R)) (pk := [0, 2, 3, 1, 4, 5, 6, 7]) (gA := [0, 3, 1, 2, 4, 5, 6, 7]) (v0 := .tuple #[.pointer none, vI (e)]) (fun _ => by kernel_rfl) ((by have h := cW S L f m t hI c.handle hC.hw c.name hC.nm 192 (β := β); rw [hab] at h; exact h)) rfl (by kernel_rfl) rfl (by kernel_rfl) (fun _ _ h => h) ?_
  refine gQ 5 (Gt e) [] ?_
  refine NQ (NX (af.seq (SR ?_)))
  refine gK 2 [(22, .bool (!(decide ((e : Int) = (0 : Int)))))] [] ?_
  refine NN ?_
  refine af.cq (p := (e : Int) = (0 : Int)) (fun _ => by kernel_rfl) (fun JN => ?_) (fun JN => ?_)
  ·refine SR ?_
   refine gK 2 [(4, vI (e))] [] ?_
   refine NN (af.ret (ai.aq ?_))
   exact RT (vI (e)) [0, 1, 2, 3, 4, 5, 6, 7] (⟨L, by rw [show (eu S c) = (e, S, c) by unfold eu; rw [hab]] <;> exact ⟨rfl, rfl⟩⟩)
  exact absurd JN hne
 have hkd : (obj S.O d).kind = 2 := hI.kind hd
 refine aS.call (f := 134) (args := #[vP f, vI (c.handle), .string c.name, vI 192]) (d := (some 18)) (pre := (mJ f m t S L)) (R := (lU m L S cb c R)) (pk := [0, 2, 3, 1, 4, 5, 6, 7]) (gA := [0, 3, 1, 2, 4, 5, 6, 7]) (v0 := .tuple #[vP (L.b d), vI 0]) (fun _ => by kernel_rfl) ((by have h := cW S L f m t hI c.handle hC.hw c.name hC.nm 192 (β := β); rw [hab] at h; exact h)) rfl (by kernel_rfl) rfl (by kernel_rfl) (fun _ _ h => h) ?_
 refine gQ 5 (Cs L d) [] ?_
 refine NQ (NX (af.seq (SR ?_)))
 refine gK 2 [(22, .bool false)] [] ?_
 refine NN ?_
 refine CF ?_
 refine af.skip (NX (af.seq ?_))
 refine af.bD (by kernel_rfl) (by kernel_rfl) ?_
 refine gQ 9 [(25, vP f), (29, vI (c.other)), (33, .string c.text)] [(4, a_ 6 cb), (8, a_ 6 cb)] ?_
 rcases jF hI.toInv0 c.other c.text 192 with ⟨e2, iF, Cv⟩ | ⟨to, iF, hd2, LU, IB, OC⟩
 ·refine aS.call (f := 134) (args := #[vP f, vI (c.other), .string c.text, vI 192]) (d := (some 34)) (pre := (mJ f m t S L)) (R := (lU m L S cb c R)) (pk := [0, 2, 3, 1, 4, 5, 6, 7]) (gA := [0, 3, 1, 2, 4, 5, 6, 7]) (v0 := .tuple #[.pointer none, vI (e2)]) (fun _ => by kernel_rfl) ((by have h := cW S L f m t hI c.other hC.ow c.text hC.tx 192 (β := β); rw [iF] at h; exact h)) rfl (by kernel_rfl) rfl (by kernel_rfl) (fun _ _ h => h) ?_
  refine gQ 5 [(6, vI (e2)), (7, .pointer none)] [] ?_
  refine NQ (NX (af.seq (SR ?_)))
  refine gK 2 [(38, .bool (!(decide ((e2 : Int) = (0 : Int)))))] [] ?_
  refine NN ?_
  refine af.cq (p := (e2 : Int) = (0 : Int)) (fun _ => by kernel_rfl) (fun tE => ?_) (fun tE => ?_)
  ·refine SR ?_
   refine gK 2 [(4, vI (e2))] [] ?_
   refine NN (af.ret (ai.aq ?_))
   exact RT (vI (e2)) [0, 1, 2, 3, 4, 5, 6, 7] (⟨L, by rw [show (eu S c) = (e2, S, c) by unfold eu; rw [hab]; simp only; rw [iF]] <;> exact ⟨rfl, rfl⟩⟩)
  exact absurd tE Cv
 have cX : (obj S.O to).kind = 2 := hI.kind hd2
 refine aS.call (f := 134) (args := #[vP f, vI (c.other), .string c.text, vI 192]) (d := (some 34)) (pre := (mJ f m t S L)) (R := (lU m L S cb c R)) (pk := [0, 2, 3, 1, 4, 5, 6, 7]) (gA := [0, 3, 1, 2, 4, 5, 6, 7]) (v0 := .tuple #[vP (L.b to), vI 0]) (fun _ => by kernel_rfl) ((by have h := cW S L f m t hI c.other hC.ow c.text hC.tx 192 (β := β); rw [iF] at h; exact h)) rfl (by kernel_rfl) rfl (by kernel_rfl) (fun _ _ h => h) ?_
 refine gQ 5 [(6, vI 0), (7, vP (L.b to))] [] ?_
 refine NQ (NX (af.seq (SR ?_)))
 refine gK 2 [(38, .bool false)] [] ?_
 refine NN ?_
 refine CF ?_
 refine af.skip (NX (af.seq ?_))
 refine af.bY (S := [pC cb c]) [0, 1, 2, 3, 4, 5, 6, 7, 8, 9, 10, 11, 12] 11 [6] (by kernel_rfl) (by kernel_rfl) rfl (by kernel_rfl) ?_
 refine aG.reads (r := 0) (l := [11, 12]) (fr' := [(40, vP f), (41, vP (L.b d)), (45, .string c.name), (46, vP (L.b to)), (50, .string c.text)]) (aU := [cb = cb, cb = cb]) [0, 1, 2, 3, 4, 5, 6, 7, 8, 9, 10] [o_, o_, o_, o_, o_, ⟨[.at 0], none, none, none, none⟩, o_, o_, o_, o_, ⟨[.at 0], none, none, none, none⟩] [40, 41, 45, 46, 50] (fun _ => by kernel_rfl) ⟨rfl, rfl, trivial⟩ rfl rfl ?_
 refine mL [6] [0, 1, 2, 3, 4, 5] (x3 S L f m t hI d hd c.name hC.nm to hd2 c.text hC.tx) ?_ (by rintro _ _ ⟨L2, rfl, rfl⟩; rfl)
 rintro _ _ ⟨L2, rfl, rfl⟩
 refine aG.last rfl rfl ?_
 refine gK 1 [(4, vI ((renameM S d c.name to c.text).1))] [] ?_
 refine NL (ai.np (NX (af.ret ?_)))
 exact RT (vI ((renameM S d c.name to c.text).1)) [0, 1, 2, 3, 4, 5, 6, 7] (⟨L2, by rw [show (eu S c) = ((renameM S d c.name to c.text).1, (renameM S d c.name to c.text).2, c) by unfold eu; rw [hab]; simp only; rw [iF]] <;> exact ⟨rfl, rfl⟩⟩)
end
section
open Go.RowKit
section order
variable {P : Program} {ops : Array Oper} {Q Q' : Post} {n : Nat} {S : World → Prop}
def kg (P : Program) (ops : Array Oper) (Q : Post) (S : World → Prop) : List (Bool × Nat) → Act → World → Prop
  | [], a, w => Q .normal a w
  | (false, i) :: l, a, w => wpOp P ops Q i (fun a' w' => (l = [] ∨ S w') ∧ kg P ops Q S l a' w') a w
  | (true, i) :: l, a, w => ∃ o v, ops[i]? = some o ∧ YieldsIf P ops S o v a ∧ kg P ops Q S l (a.put o.dst v) w
def uU (ops : Array Oper) (n : Nat) : List (Bool × Nat) → Array Bool → Bool
  | [], listed => (Region.ready .any ops listed).isEmpty
  | (false, i) :: l, listed => (Region.ready .any ops listed == [i]) && (!l.isEmpty || i == n) && uU ops n l (listed.setIfInBounds i true)
  | (true, i) :: l, listed => decide (i < n) && Region.free .any ops listed i && (Region.ready .any ops listed).contains i && uU ops n l (listed.setIfInBounds i true)
theorem wz (hsel : Region.noSelect ops = true) (lZ : Region.sinkB .any ops n = true) : ∀ (l : List (Bool × Nat)) (listed : Array Bool) (a : Act) (w : World), uU ops n l listed = true → Closed ops listed → (l = [] ∨ S w) → kg P ops (NP Q) S l a w → ja P ops (NP Q) n S l.length listed a w
  | [], listed, a, w, hb, _, _, h => ⟨List.isEmpty_iff.1 hb, h⟩
  | (false, i) :: l, listed, a, w, hb, hc, _, h => by
    unfold uU at hb
    simp only [Bool.and_eq_true, beq_iff_eq] at hb
    obtain ⟨⟨h1, h2⟩, h3⟩ := hb
    refine ⟨fun h0 => (by rw [h1] at h0; cases h0), fun j hj => ?_⟩
    have hr := hj
    rw [h1] at hj
    have hj : j = i := by simpa using hj
    subst hj
    refine wpOp_mono (fun a' w' h4 => ⟨?_, wz hsel lZ l _ a' w' h3 (hc.set hr) h4.1 h4.2⟩) h
    rcases h4.1 with h5 | h5
    ·subst h5; exact .inl (by simpa using h2)
    exact .inr h5
  | (true, i) :: l, listed, a, w, hb, hc, hS, h => by
    unfold uU at hb
    simp only [Bool.and_eq_true, decide_eq_true_iff] at hb
    obtain ⟨⟨⟨h1, h2⟩, h3⟩, h4⟩ := hb
    obtain ⟨o, v, ho, hy, hk⟩ := h
    have hS : S w := hS.resolve_left (by simp)
    have hr : i ∈ Region.ready .any ops listed := by simpa using h3
    exact o6 ho hsel lZ h1 l.length listed a w hc (Region.free_spec ho h2) hr hy hS (wz hsel lZ l _ _ w h4 (hc.set hr) (.inr hS) hk)
def DR (ops : Array Oper) (l : List (Bool × Nat)) : Bool :=
  Region.noSelect ops && Region.sinkB .any ops (ops.size - 1) && (l.length == ops.size) && uU ops (ops.size - 1) l (Array.replicate ops.size false)
def oK (ops : Array Oper) (i : Nat) : Array Oper := ⟨ops.toList.take (i + 1)⟩
def gB (ops : Array Oper) (i : Nat) : Bool := match ops[i]? with
  | some o => match o.guard with
    | none => true
    | some (j, _) => decide (j ≤ i)
  | none => false
theorem Gu {i j : Nat} (h : j ≤ i) : (oK ops i)[j]? = ops[j]? := by
  unfold oK
  obtain ⟨l⟩ := ops
  simp only [List.getElem?_toArray, List.getElem?_take]
  rw [if_pos (by omega)]
theorem uj {i : Nat} {a : Act} {w : World} {K : Act → World → Prop} (hg : gB ops i = true) (h : wpList P (oK ops i) (NP fun _ a w => K a w) ((oK ops i).toList.drop i) a w) : wpOp P ops (NP Q) i K a w := by
  unfold gB at hg
  split at hg
  ·rename_i o ho
   have hd : (oK ops i).toList.drop i = [o] := by
     have hl : ops.toList[i]? = some o := by simpa using ho
     have hi : i < ops.toList.length := br hl
     show (ops.toList.take (i + 1)).drop i = [o]
     rw [List.drop_take]
     rw [show i + 1 - i = 1 by omega, List.drop_eq_getElem_cons hi]
     rw [List.getElem?_eq_getElem hi] at hl
     cases hl
     rfl
   have hw : Region.wanted o (yielded (oK ops i) a.tmps) = Region.wanted o (yielded ops a.tmps) := by
     unfold Region.wanted
     split at hg
     ·rename_i hn; rw [hn]
     rename_i j b hn
     rw [hn]
     have hj : j ≤ i := by simpa using hg
     have : yielded (oK ops i) a.tmps j = yielded ops a.tmps j := by
       unfold yielded
       rw [Gu hj]
     simp only [this]
   rw [hd] at h
   unfold wpOp
   simp only [ho]
   unfold wpList at h
   rw [hw] at h
   split at h
   ·rename_i hw
    rw [if_pos hw]
    rcases h with h | ⟨_, h⟩
    ·exact .inl (AL (Oper.wp_mono (fun a w h => h) h))
    exact (lX h).elim
   rename_i hw
   rw [if_neg hw]
   exact h
  cases hg
end order
theorem oL {P : Program} {ops : Array Oper} {Q Q' : Post} (hq : ∀ a w, Q .normal a w → Q' .normal a w) : ∀ (l : List Oper) {a : Act} {w : World}, wpList P ops (NP Q) l a w → wpList P ops (NP Q') l a w
  | [], _, _, h => hq _ _ h
  | o :: r, a, w, h => by
    unfold wpList at *
    split
    ·rename_i hw
     rw [if_pos hw] at h
     rcases h with h | ⟨_, h⟩
     ·exact .inl (AL (Oper.wp_mono (fun a w h => oL hq r h) h))
     exact (lX h).elim
    rename_i hw
    rw [if_neg hw] at h
    exact oL hq r h
section mix
variable {P : Program} {β : Bs} {N : Nat} {ops : Array Oper} {S : List HP} {l l' : List (Bool × Nat)} {fr fr' : Fr} {hps : List HP} {Q : Post} {aU : List Prop} {i : Nat} {pk : List Nat}
def dO (P : Program) (β : Bs) (N : Nat) (ops : Array Oper) (S : List HP) (l : List (Bool × Nat)) (fr : Fr) (hps : List HP) (Q : Post) : Prop :=
  ∀ junk w, Sat β hps w → kg P ops (NP Q) (Sat β S) l (cu N fr junk) w
theorem af.kG {id : Nat} (l : List (Bool × Nat)) (pk : List Nat) (hm : P.follows .mixedOrders = true) (hB : DR ops l = true) (hn : nodupB pk = true) (hp : bL hps pk = some S) (h : dO P β N ops S l fr hps Q) : af P β N (.region id ops true) fr hps Q := by
  intro junk w hS
  unfold DR at hB
  simp only [Bool.and_eq_true, beq_iff_eq] at hB
  obtain ⟨⟨⟨h1, h2⟩, h3⟩, h4⟩ := hB
  have cO := hS.drewN 1
  have h5 := wz (Q := Q) h1 h2 l _ _ _ h4 (fun j oj _ hl => by simp [Array.getD_eq_getD_getElem?, Array.getElem?_replicate] at hl; split at hl <;> simp at hl) (.inr (cO.pick hn hp)) (h junk (w.drewN 1) cO)
  rw [h3] at h5
  refine Code.wp_mono (fun e a w q => ?_) (wp_region_any hm (lY _ _ _ _ h5))
  cases e with
  | normal => exact q
  | exit id => exact q.elim
  | goto l => exact q.elim
  | ret => exact q.elim
  | panic ch => exact q.elim
  | outgrown => exact q.elim
def pN (P : Program) (β : Bs) (N : Nat) (junk : Nat → Value) (ops : Array Oper) : List OH → List Nat → Fr → SS → Option (Fr × SS)
  | [], [], fr, S => some (fr, S)
  | h :: hs, i :: is, fr, S =>
    match ops[i]? with
    | some o =>
      match Region.wanted o (yF ops N fr junk) with
      | true =>
        match oZ P β 0 true (cA N fr junk) o h S with
        | some (v, S') =>
          match tA v with
          | true => pN P β N junk ops hs is (cG fr o.dst v) S'
          | false => none
        | none => none
      | false => pN P β N junk ops hs is (cG fr o.dst undef) S
    | none => none
  | _, _, _, _ => none
def Cw (P : Program) (β : Bs) (N : Nat) (junk : Nat → Value) (ops : Array Oper) (hs : List OH) (is : List Nat) (fr : Fr) (S : List HP) (idx : List Nat) : Option (Fr × List Prop) :=
  match pN P β N junk ops hs is fr ⟨[], S, [], true⟩ with
  | some (fr', S') => some (gJ fr' junk idx, S'.aU)
  | none => none
theorem r9 {junk : Nat → Value} : ∀ {hs : List OH} {is : List Nat} {fr fr' : Fr} {S S' : SS}, pN P β N junk ops hs is fr S = some (fr', S') → ∀ p, p ∈ S.aU → p ∈ S'.aU
  | [], [], fr, fr', S, S', h, p, hp => by cases h; exact hp
  | h :: hs, i :: is, fr, fr', S, S', hr, p, hp => by
    unfold pN at hr
    repeat' split at hr
    all_goals first | (cases hr; done) | skip
    ·rename_i h0 _ _
     exact r9 hr p (vH h0 p hp)
    exact r9 hr p hp
  | [], _ :: _, _, _, _, _, h, _, _ => by cases h
  | _ :: _, [], _, _, _, _, h, _, _ => by cases h
theorem pP {junk : Nat → Value} {w : World} : ∀ {hs : List OH} {is : List Nat} {fr fr' : Fr} {T T' : SS}, pN P β N junk ops hs is fr T = some (fr', T') → (∀ p, p ∈ T'.aU → p) → T.used = true → T.hps = S →
    kg P ops (NP Q) (Sat β S) l (cu N fr' junk) w → kg P ops (NP Q) (Sat β S) (is.map (fun i => (true, i)) ++ l) (cu N fr junk) w
  | [], [], fr, fr', T, T', h, ho, hu, hT, hK => by cases h; exact hK
  | h :: hs, i :: is, fr, fr', T, T', hr, ho, hu, hT, hK => by
    unfold pN at hr
    repeat' split at hr
    all_goals first | (cases hr; done) | skip
    ·rename_i o hget _ hwant _ v T1 h0 _ hv
     obtain ⟨e1, e2⟩ := qV h0
     rw [List.map_cons, List.cons_append]
     unfold kg
     refine ⟨o, v, hget, .inl ⟨by rw [dL]; exact hwant, fun w' cO => ?_⟩, ?_⟩
     ·rw [di]
      obtain ⟨w2, h1, _, _, h4⟩ := ko h0 (fun p hp => ho p (r9 hr p hp)) (by rw [hT]; exact cO) (fun e => by rw [hu] at e; cases e)
      obtain ⟨ew, _⟩ := h4 rfl
      rw [ew] at h1
      rcases h1 with h1 | ⟨h1, _⟩
      ·exact h1
      exact absurd h1 (p8 hv)
     rw [cY]
     exact pP hr ho (e2.trans hu) (e1.trans hT) hK
    rename_i o hget _ hwant
    rw [List.map_cons, List.cons_append]
    unfold kg
    refine ⟨o, undef, hget, .inr ⟨by rw [dL]; exact hwant, rfl⟩, ?_⟩
    rw [cY]
    exact pP hr ho hu hT hK
  | [], _ :: _, _, _, _, _, h, _, _, _, _ => by cases h
  | _ :: _, [], _, _, _, _, h, _, _, _, _ => by cases h
theorem dO.reads (is : List Nat) (hs : List OH) (idx : List Nat) (h : ∀ junk, Cw P β N junk ops hs is fr S idx = some (fr', aU)) (ho : iP aU) (hl : l' = is.map (fun i => (true, i)) ++ l) (K : dO P β N ops S l fr' hps Q) : dO P β N ops S l' fr hps Q := by
  intro junk w hS
  subst hl
  have h0 := h junk
  unfold Cw at h0
  split at h0
  ·rename_i jR S1 h1
   cases h0
   have hK := K (lk jR junk) w hS
   rw [← iO] at hK
   exact pP h1 (fun p hp => ho.mem hp) rfl rfl hK
  cases h0
theorem dO.cut {ι : Type} {fr' : ι → Fr} {hp' : ι → List HP} (pk : List Nat) (hg : gB ops i = true) (h : aj P β N (oK ops i) i fr hps (NP (iY β N fr' hp'))) (hn : nodupB pk = true) (hp : ∀ j, bL (hp' j) pk = some S)
    (K : ∀ j, dO P β N ops S l (fr' j) (hp' j) Q) : dO P β N ops S ((false, i) :: l) fr hps Q := by
  intro junk w hS
  unfold kg
  refine uj hg (oL (Q' := _) (fun a w ⟨j, fD, ha, cO⟩ => ?_) _ (h junk w hS))
  subst ha
  exact ⟨.inr (cO.pick hn (hp j)), K j fD w cO⟩
theorem dO.last (hg : gB ops i = true) (h : aj P β N (oK ops i) i fr hps (NP Q)) : dO P β N ops S [(false, i)] fr hps Q := by
  intro junk w hS
  unfold kg
  exact uj hg (oL (Q' := _) (fun a w hq => ⟨.inl rfl, by unfold kg; exact hq⟩) _ (h junk w hS))
end mix
end
section
open Go.RowKit Go.Maps HeapM TabM
attribute [local irreducible] aj aS af ai
abbrev DS (cb : Nat) (c : aT) := (pC cb { c with other := 0, mode := 0, uid := 0, gid := 0, sec := 0, nano := 0 } : HP)
abbrev DT (cb : Nat) (c : aT) (S : aF) (tk : Nat) := (pC cb { c with other := 0, mode := 0, uid := 0, gid := 0, sec := 0, nano := 0, answer := (obj S.O tk).id } : HP)
abbrev NE (cb : Nat) (c : aT) (S : aF) (tk : Nat) := (pC cb { c with other := 1, mode := (obj S.O tk).mode, uid := (obj S.O tk).uid, gid := 0, sec := 0, nano := 0, answer := (obj S.O tk).id } : HP)
abbrev NG (cb : Nat) (c : aT) (S : aF) (tk : Nat) := (pC cb { c with other := 1, mode := (obj S.O tk).mode, uid := (obj S.O tk).uid, gid := (obj S.O tk).gid, sec := 0, nano := 0, answer := (obj S.O tk).id } : HP)
abbrev NH (cb : Nat) (c : aT) (S : aF) (tk : Nat) := (pC cb { c with other := 2, mode := (obj S.O tk).mode, uid := (obj S.O tk).uid, gid := 0, sec := 0, nano := 0, answer := (obj S.O tk).id } : HP)
abbrev NI (cb : Nat) (c : aT) (S : aF) (tk : Nat) := (pC cb { c with other := 2, mode := (obj S.O tk).mode, uid := (obj S.O tk).uid, gid := (obj S.O tk).gid, sec := 0, nano := 0, answer := (obj S.O tk).id } : HP)
abbrev NJ (cb : Nat) (c : aT) (S : aF) (tk : Nat) := (pC cb { c with other := 3, mode := (obj S.O tk).mode, uid := (obj S.O tk).uid, gid := 0, sec := 0, nano := 0, answer := (obj S.O tk).id } : HP)
abbrev NK (cb : Nat) (c : aT) (S : aF) (tk : Nat) := (pC cb { c with other := 3, mode := (obj S.O tk).mode, uid := (obj S.O tk).uid, gid := (obj S.O tk).gid, sec := 0, nano := 0, answer := (obj S.O tk).id } : HP)
abbrev kP (S : aF) (tk : Nat) := ([(40, vI ((obj S.O tk).mode)), (44, vI ((obj S.O tk).uid)), (48, vI ((obj S.O tk).gid)), (52, .agg #[vI ((obj S.O tk).sec), vI ((obj S.O tk).nano)])] : Fr)
abbrev nW (S : aF) (tk : Nat) := ([(48, vI ((obj S.O tk).gid)), (52, .agg #[vI ((obj S.O tk).sec), vI ((obj S.O tk).nano)])] : Fr)
abbrev si (cb : Nat) (S : aF) (tk : Nat) := ([(26, vP cb), (27, vP cb), (28, vP cb), (29, vP cb), (30, vP cb), (34, vI ((obj S.O tk).id))] : Fr)
abbrev nX (f : Nat) (m : Nat) (t) (S : aF) (L : HL) (cb : Nat) (c) (R : bP) := ([pF f m t S.X, pI m L S.idx, pO S.O L, pD S.O L, pE S.O L, pC cb c, .abs R] : List HP)
abbrev EN := ([(2, vI 0), (6, vI 0), (7, vI 0), (8, vI 0), (9, vI 0), (10, vI 0)] : Fr)
abbrev nY (cb : Nat) := ([(28, vP cb), (29, vP cb), (30, vP cb)] : Fr)
abbrev ul (L : HL) (to : Nat) (c : aT) := ([(61, .map (some (L.m to))), (65, .string c.text)] : Fr)
abbrev zl (cb : Nat) (S : aF) (tk : Nat) := ([(29, vP cb), (30, vP cb), (44, vI ((obj S.O tk).uid))] : Fr)
abbrev IC (S : aF) (tk : Nat) (cb : Nat) := ([(52, .agg #[vI ((obj S.O tk).sec), vI ((obj S.O tk).nano)]), (64, .pointer (some ⟨cb, 9, none⟩))] : Fr)
abbrev EO (L : HL) (tk : Nat) := ([(5, .iface 89 (vP (L.b tk))), (6, vI 0)] : Fr)
abbrev EP (L : HL) (tk : Nat) := ([(5, .iface 96 (vP (L.b tk))), (6, vI 0)] : Fr)
abbrev IE (t) (c : aT) := ([(13, vP t), (17, vI (c.handle))] : Fr)
abbrev IG (t) (c : aT) := ([(11, vP t), (15, vI (c.handle))] : Fr)
abbrev II (S : aF) (tk : Nat) := ([(9, vI ((obj S.O tk).sec)), (10, vI ((obj S.O tk).nano))] : Fr)
theorem EQ {β : Bs} (S : aF) (L : HL) (f m t : Nat) (hI : Inv S) (cb : Nat) (c : aT) (hC : fB β c) :
    Spec Tryz.prog β 84 #[vP f, vP cb] ((pA f m t L S) ++ [pC cb c]) (fun v l => ∃ L2, v = vI (bV S c).1 ∧ l = ((pA f m t L2 ((bV S c).2.1)) ++ [.blk cb (fT ((bV S c).2.2)) 43])) := by
 have hX := hI.hX
 refine Spec.enter Tryz.func84 rfl Tryz.ntmps84 (Nat.le_of_ble_eq_true rfl) (fun R => ?_)
 refine SR ?_
 refine gK 1 [] [] ?_
 refine NN (af.seq ?_)
 refine af.bD (by kernel_rfl) (by kernel_rfl) ?_
 refine gQ 9 [(10, vP f), (14, vI (c.handle)), (18, .string c.name)] [(4, a_ 6 cb), (8, a_ 6 cb)] ?_
 rcases jF hI.toInv0 c.handle c.name 64 with ⟨e, hab, hne⟩ | ⟨d, hab, hd, fZ, hgn, cD⟩
 ·refine aS.call (f := 134) (args := #[vP f, vI (c.handle), .string c.name, vI 64]) (d := (some 19)) (pre := (mJ f m t S L)) (R := (lU m L S cb c R)) (pk := [0, 2, 3, 1, 4, 5, 6, 7]) (gA := [0, 3, 1, 2, 4, 5, 6, 7]) (v0 := .tuple #[.pointer none, vI (e)]) (fun _ => by kernel_rfl) ((by have h := cW S L f m t hI c.handle hC.hw c.name hC.nm 64 (β := β); rw [hab] at h; exact h)) rfl (by kernel_rfl) rfl (by kernel_rfl) (fun _ _ h => h) ?_
  refine gQ 5 [(5, .pointer none), (6, vI (e))] [] ?_
  refine NQ (NX (af.seq (SR ?_)))
  refine gK 2 [(23, .bool (!(decide ((e : Int) = (0 : Int)))))] [] ?_
  refine NN ?_
  refine af.cq (p := (e : Int) = (0 : Int)) (fun _ => by kernel_rfl) (fun h23 => ?_) (fun h23 => ?_)
  ·refine SR ?_
   refine gK 2 [(4, vI (e))] [] ?_
   refine NN (af.ret (ai.aq ?_))
   exact RT (vI (e)) [0, 1, 2, 3, 4, 5, 6, 7] (⟨L, by rw [show (bV S c) = (e, S, c) by unfold bV; rw [hab]] <;> exact ⟨rfl, rfl⟩⟩)
  exact absurd h23 hne
 have hkd : (obj S.O d).kind = 2 := hI.kind hd
 refine aS.call (f := 134) (args := #[vP f, vI (c.handle), .string c.name, vI 64]) (d := (some 19)) (pre := (mJ f m t S L)) (R := (lU m L S cb c R)) (pk := [0, 2, 3, 1, 4, 5, 6, 7]) (gA := [0, 3, 1, 2, 4, 5, 6, 7]) (v0 := .tuple #[vP (L.b d), vI 0]) (fun _ => by kernel_rfl) ((by have h := cW S L f m t hI c.handle hC.hw c.name hC.nm 64 (β := β); rw [hab] at h; exact h)) rfl (by kernel_rfl) rfl (by kernel_rfl) (fun _ _ h => h) ?_
 refine gQ 5 (Cs L d) [] ?_
 refine NQ (NX (af.seq (SR ?_)))
 refine gK 2 [(23, .bool false)] [] ?_
 refine NN ?_
 refine CF ?_
 refine af.skip (NX (af.seq ?_))
 refine af.bD (by kernel_rfl) (by kernel_rfl) ?_
 refine gQ 9 [(26, vP f), (30, vI (c.other)), (34, .string c.text)] [(4, a_ 6 cb), (8, a_ 6 cb)] ?_
 rcases jF hI.toInv0 c.other c.text 192 with ⟨e2, iF, Cv⟩ | ⟨to, iF, hd2, LU, IB, OC⟩
 ·refine aS.call (f := 134) (args := #[vP f, vI (c.other), .string c.text, vI 192]) (d := (some 35)) (pre := (mJ f m t S L)) (R := (lU m L S cb c R)) (pk := [0, 2, 3, 1, 4, 5, 6, 7]) (gA := [0, 3, 1, 2, 4, 5, 6, 7]) (v0 := .tuple #[.pointer none, vI (e2)]) (fun _ => by kernel_rfl) ((by have h := cW S L f m t hI c.other hC.ow c.text hC.tx 192 (β := β); rw [iF] at h; exact h)) rfl (by kernel_rfl) rfl (by kernel_rfl) (fun _ _ h => h) ?_
  refine gQ 5 [(6, vI (e2)), (7, .pointer none)] [] ?_
  refine NQ (NX (af.seq (SR ?_)))
  refine gK 2 [(39, .bool (!(decide ((e2 : Int) = (0 : Int)))))] [] ?_
  refine NN ?_
  refine af.cq (p := (e2 : Int) = (0 : Int)) (fun _ => by kernel_rfl) (fun mG => ?_) (fun mG => ?_)
  ·refine SR ?_
   refine gK 2 [(4, vI (e2))] [] ?_
   refine NN (af.ret (ai.aq ?_))
   exact RT (vI (e2)) [0, 1, 2, 3, 4, 5, 6, 7] (⟨L, by rw [show (bV S c) = (e2, S, c) by unfold bV; rw [hab]; simp only; rw [iF]] <;> exact ⟨rfl, rfl⟩⟩)
  exact absurd mG Cv
 have cX : (obj S.O to).kind = 2 := hI.kind hd2
 refine aS.call (f := 134) (args := #[vP f, vI (c.other), .string c.text, vI 192]) (d := (some 35)) (pre := (mJ f m t S L)) (R := (lU m L S cb c R)) (pk := [0, 2, 3, 1, 4, 5, 6, 7]) (gA := [0, 3, 1, 2, 4, 5, 6, 7]) (v0 := .tuple #[vP (L.b to), vI 0]) (fun _ => by kernel_rfl) ((by have h := cW S L f m t hI c.other hC.ow c.text hC.tx 192 (β := β); rw [iF] at h; exact h)) rfl (by kernel_rfl) rfl (by kernel_rfl) (fun _ _ h => h) ?_
 refine gQ 5 [(6, vI 0), (7, vP (L.b to))] [] ?_
 refine NQ (NX (af.seq (SR ?_)))
 refine gK 2 [(39, .bool false)] [] ?_
 refine NN ?_
 refine CF ?_
 refine af.skip (NX (af.seq ?_))
 have hel : (obj S.O d).ah.length ≤ 8192 := hI.eH hd
 have Nh := hC.nm
 rcases hI.jS hd c.name with hlk | ⟨tk, hlk, hlv⟩ | ⟨tk, hlk, hlv⟩ | ⟨tk, hlk, hlv⟩
 ·refine af.bD (by kernel_rfl) (by kernel_rfl) ?_
  refine gQ 8 [(44, .map (some (L.m d))), (48, .string c.name)] [(3, v_ 3 (bA L hkd)), (7, a_ 6 cb)] ?_
  refine om 5 hkd hlk ?_
  refine gQ 1 [(8, .nilIface)] [] ?_
  refine NQ (NX (af.seq (af.block (SR ?_))))
  refine gK 3 [(50, .bool true)] [] ?_
  refine NN ?_
  refine CT ?_
  refine SR ?_
  refine gK 1 [(4, vI 170)] [] ?_
  refine NN (af.ret (ai.aD (ai.aq ?_)))
  exact RT (vI 170) [0, 1, 2, 3, 4, 5, 6, 7] (⟨L, by rw [show (bV S c) = (170, S, c) by unfold bV; rw [hab]; simp only; rw [iF]; simp only; rw [show (linkM S d c.name to c.text) = (170, S) by unfold linkM; rw [hlk]]] <;> exact ⟨rfl, rfl⟩⟩)
 ·have hkt : (obj S.O tk).kind = 1 := hI.kind hlv
  refine af.bD (by kernel_rfl) (by kernel_rfl) ?_
  refine gQ 8 [(44, .map (some (L.m d))), (48, .string c.name)] [(3, v_ 3 (bA L hkd)), (7, a_ 6 cb)] ?_
  refine om 5 hkd hlk ?_
  refine gQ 1 [(8, .iface 89 (vP (L.b tk)))] [] ?_
  refine NQ (NX (af.seq (af.block (SR ?_))))
  refine gK 3 [(50, .bool false)] [] ?_
  refine NN ?_
  refine CF ?_
  refine SR ?_
  refine gK 1 [(54, .iface 89 (vP (L.b tk)))] [] ?_
  refine gL [] (jw (vP (L.b tk))) ?_
  rintro _ _ ⟨rfl, rfl⟩
  refine gK 2 [(53, .bool false)] [] ?_
  refine NN ?_
  refine CF ?_
  refine af.seq ?_
  have wA : (obj S.O to).ah.length ≤ 8192 := hI.eH hd2
  have Gv := hC.tx
  rcases hI.jS hd2 c.text with bn | ⟨ok, bn, dh⟩ | ⟨ok, bn, dh⟩ | ⟨ok, bn, dh⟩
  ·refine af.bD (by kernel_rfl) (by kernel_rfl) ?_
   refine gQ 8 (ul L to c) [(3, v_ 3 (bA L cX)), (7, a_ 6 cb)] ?_
   refine om 5 cX bn ?_
   refine gQ 2 [(57, .bool false)] [] ?_
   refine NQ (NX ?_)
   refine CF ?_
   refine SR ?_
   refine gK 1 [(69, vP f)] [] ?_
   refine gL [0] (qM S.X f m t) ?_
   rintro _ _ ⟨rfl, rfl⟩
   refine gK 2 [(68, .bool (!(decide (S.X.ah < 8192))))] [] ?_
   refine NN ?_
   refine af.cq (p := S.X.ah < 8192) (fun _ => by kernel_rfl) (fun h68 => ?_) (fun h68 => ?_)
   ·refine SR ?_
    refine gK 1 [(4, vI 177)] [] ?_
    refine NN (af.ret (ai.aD (ai.aq ?_)))
    exact RT (vI 177) [0, 1, 2, 3, 4, 5, 6, 7] (⟨L, by rw [show (bV S c) = (177, S, c) by unfold bV; rw [hab]; simp only; rw [iF]; simp only; rw [show (linkM S d c.name to c.text) = (177, S) by unfold linkM; rw [hlk]; exact (if_neg (by simp)).trans ((if_pos bn).trans (if_neg h68))]] <;> exact ⟨rfl, rfl⟩⟩)
   refine af.skip (ai.aP (NX (SR ?_)))
   refine gK 7 [(72, vP f), (73, vP (L.b to)), (77, .string c.text), (78, .iface 89 (vP (L.b tk)))] [(5, a_ 6 cb)] ?_
   refine gL [0, 3, 5] (fO S.X f m t hX S.O L to cX c.text hC.tx bn (by omega) ⟨tk, 1⟩ hkt (by simp) (by have := hI.lb hlv; simp only at this ⊢; omega)) ?_
   rintro _ _ ⟨rfl, rfl⟩
   refine NS ?_
   refine aj.mem (aQ := [.blk f [vI (S.X.cN), vI (S.X.cB), vI (S.X.cH), vI (S.X.cS), vI (S.X.cZ), .map (some m), vP t, vI (S.X.last), vI (S.X.ah + 1), vI (S.X.used)] 86, .abs (ak (aN (bq S.X S.O to c.text ⟨tk, 1⟩) L)), .abs (ak (bg (bq S.X S.O to c.text ⟨tk, 1⟩) L)), .abs (aH Tryz.prog 3 m (aM (aI L S.idx)) S.idx.length), .abs (aY 156 t S.X.cH S.au (aI L S.us)), .abs (ak (aV (bq S.X S.O to c.text ⟨tk, 1⟩) L)), .blk cb [vI (c.op), vI (c.handle), vI (c.other), .string c.name, .string c.text, .slice c.dA (c.data.length) (c.dC), vI (c.mode), vI (c.uid), vI (c.gid), vI (c.sec), vI (c.nano), vI (c.code), vI (c.answer)] 43, .abs R]) (fun w hS => by rw [show aV (bq S.X S.O to c.text ⟨tk, 1⟩) L = aV S.O L from fA]; exact hS) ?_
   refine gK 1 [(4, vI 0)] [] ?_
   refine NN (af.ret ?_)
   exact RT (vI 0) [0, 3, 4, 1, 5, 2, 6, 7] (⟨L, by rw [show (bV S c) = (0, { S with X := { S.X with ah := S.X.ah + 1 }, O := bq S.X S.O to c.text ⟨tk, 1⟩ }, c) by unfold bV; rw [hab]; simp only; rw [iF]; simp only; rw [show (linkM S d c.name to c.text) = (0, { S with X := { S.X with ah := S.X.ah + 1 }, O := bq S.X S.O to c.text ⟨tk, 1⟩ }) by unfold linkM; rw [hlk]; exact (if_neg (by simp)).trans ((if_pos bn).trans (if_pos h68))]] <;> exact ⟨rfl, rfl⟩⟩)
  ·have jg : (obj S.O ok).kind = 1 := hI.kind dh
   refine af.bD (by kernel_rfl) (by kernel_rfl) ?_
   refine gQ 8 (ul L to c) [(3, v_ 3 (bA L cX)), (7, a_ 6 cb)] ?_
   refine om 5 cX bn ?_
   refine gQ 2 [(57, .bool true)] [] ?_
   refine NQ (NX ?_)
   refine CT ?_
   refine SR ?_
   refine gK 1 [(4, vI 171)] [] ?_
   refine NN (af.ret (ai.aD (ai.aq ?_)))
   exact RT (vI 171) [0, 1, 2, 3, 4, 5, 6, 7] (⟨L, by rw [show (bV S c) = (171, S, c) by unfold bV; rw [hab]; simp only; rw [iF]; simp only; rw [show (linkM S d c.name to c.text) = (171, S) by unfold linkM; rw [hlk]; exact (if_neg (by simp)).trans (if_neg (by rw [bn]; simp))]] <;> exact ⟨rfl, rfl⟩⟩)
  ·have jg : (obj S.O ok).kind = 2 := hI.kind dh
   refine af.bD (by kernel_rfl) (by kernel_rfl) ?_
   refine gQ 8 (ul L to c) [(3, v_ 3 (bA L cX)), (7, a_ 6 cb)] ?_
   refine om 5 cX bn ?_
   refine gQ 2 [(57, .bool true)] [] ?_
   refine NQ (NX ?_)
   refine CT ?_
   refine SR ?_
   refine gK 1 [(4, vI 171)] [] ?_
   refine NN (af.ret (ai.aD (ai.aq ?_)))
   exact RT (vI 171) [0, 1, 2, 3, 4, 5, 6, 7] (⟨L, by rw [show (bV S c) = (171, S, c) by unfold bV; rw [hab]; simp only; rw [iF]; simp only; rw [show (linkM S d c.name to c.text) = (171, S) by unfold linkM; rw [hlk]; exact (if_neg (by simp)).trans (if_neg (by rw [bn]; simp))]] <;> exact ⟨rfl, rfl⟩⟩)
  have jg : (obj S.O ok).kind = 3 := hI.kind dh
  refine af.bD (by kernel_rfl) (by kernel_rfl) ?_
  refine gQ 8 (ul L to c) [(3, v_ 3 (bA L cX)), (7, a_ 6 cb)] ?_
  refine om 5 cX bn ?_
  refine gQ 2 [(57, .bool true)] [] ?_
  refine NQ (NX ?_)
  refine CT ?_
  refine SR ?_
  refine gK 1 [(4, vI 171)] [] ?_
  refine NN (af.ret (ai.aD (ai.aq ?_)))
  exact RT (vI 171) [0, 1, 2, 3, 4, 5, 6, 7] (⟨L, by rw [show (bV S c) = (171, S, c) by unfold bV; rw [hab]; simp only; rw [iF]; simp only; rw [show (linkM S d c.name to c.text) = (171, S) by unfold linkM; rw [hlk]; exact (if_neg (by simp)).trans (if_neg (by rw [bn]; simp))]] <;> exact ⟨rfl, rfl⟩⟩)
 ·have hkt : (obj S.O tk).kind = 2 := hI.kind hlv
  refine af.bD (by kernel_rfl) (by kernel_rfl) ?_
  refine gQ 8 [(44, .map (some (L.m d))), (48, .string c.name)] [(3, v_ 3 (bA L hkd)), (7, a_ 6 cb)] ?_
  refine om 5 hkd hlk ?_
  refine gQ 1 [(8, .iface 96 (vP (L.b tk)))] [] ?_
  refine NQ (NX (af.seq (af.block (SR ?_))))
  refine gK 3 [(50, .bool false)] [] ?_
  refine NN ?_
  refine CF ?_
  refine SR ?_
  refine gK 1 [(54, .iface 96 (vP (L.b tk)))] [] ?_
  refine gL [] (jA (vP (L.b tk))) ?_
  rintro _ _ ⟨rfl, rfl⟩
  refine gK 2 [(53, .bool true)] [] ?_
  refine NN ?_
  refine CT ?_
  refine SR ?_
  refine gK 1 [(4, vI 172)] [] ?_
  refine NN (af.ret (ai.aD (ai.aq ?_)))
  exact RT (vI 172) [0, 1, 2, 3, 4, 5, 6, 7] (⟨L, by rw [show (bV S c) = (172, S, c) by unfold bV; rw [hab]; simp only; rw [iF]; simp only; rw [show (linkM S d c.name to c.text) = (172, S) by unfold linkM; rw [hlk]; exact if_pos rfl]] <;> exact ⟨rfl, rfl⟩⟩)
 have hkt : (obj S.O tk).kind = 3 := hI.kind hlv
 refine af.bD (by kernel_rfl) (by kernel_rfl) ?_
 refine gQ 8 [(44, .map (some (L.m d))), (48, .string c.name)] [(3, v_ 3 (bA L hkd)), (7, a_ 6 cb)] ?_
 refine om 5 hkd hlk ?_
 refine gQ 1 [(8, .iface 93 (vP (L.b tk)))] [] ?_
 refine NQ (NX (af.seq (af.block (SR ?_))))
 refine gK 3 [(50, .bool false)] [] ?_
 refine NN ?_
 refine CF ?_
 refine SR ?_
 refine gK 1 [(54, .iface 93 (vP (L.b tk)))] [] ?_
 refine gL [] (j8 (vP (L.b tk))) ?_
 rintro _ _ ⟨rfl, rfl⟩
 refine gK 2 [(53, .bool false)] [] ?_
 refine NN ?_
 refine CF ?_
 refine af.seq ?_
 have wA : (obj S.O to).ah.length ≤ 8192 := hI.eH hd2
 have Gv := hC.tx
 rcases hI.jS hd2 c.text with bn | ⟨ok, bn, dh⟩ | ⟨ok, bn, dh⟩ | ⟨ok, bn, dh⟩
 ·refine af.bD (by kernel_rfl) (by kernel_rfl) ?_
  refine gQ 8 (ul L to c) [(3, v_ 3 (bA L cX)), (7, a_ 6 cb)] ?_
  refine om 5 cX bn ?_
  refine gQ 2 [(57, .bool false)] [] ?_
  refine NQ (NX ?_)
  refine CF ?_
  refine SR ?_
  refine gK 1 [(69, vP f)] [] ?_
  refine gL [0] (qM S.X f m t) ?_
  rintro _ _ ⟨rfl, rfl⟩
  refine gK 2 [(68, .bool (!(decide (S.X.ah < 8192))))] [] ?_
  refine NN ?_
  refine af.cq (p := S.X.ah < 8192) (fun _ => by kernel_rfl) (fun h68 => ?_) (fun h68 => ?_)
  ·refine SR ?_
   refine gK 1 [(4, vI 177)] [] ?_
   refine NN (af.ret (ai.aD (ai.aq ?_)))
   exact RT (vI 177) [0, 1, 2, 3, 4, 5, 6, 7] (⟨L, by rw [show (bV S c) = (177, S, c) by unfold bV; rw [hab]; simp only; rw [iF]; simp only; rw [show (linkM S d c.name to c.text) = (177, S) by unfold linkM; rw [hlk]; exact (if_neg (by simp)).trans ((if_pos bn).trans (if_neg h68))]] <;> exact ⟨rfl, rfl⟩⟩)
  refine af.skip (ai.aP (NX (SR ?_)))
  refine gK 7 [(72, vP f), (73, vP (L.b to)), (77, .string c.text), (78, .iface 93 (vP (L.b tk)))] [(5, a_ 6 cb)] ?_
  refine gL [0, 3, 5] (fO S.X f m t hX S.O L to cX c.text hC.tx bn (by omega) ⟨tk, 3⟩ hkt (by simp) (by have := hI.lb hlv; simp only at this ⊢; omega)) ?_
  rintro _ _ ⟨rfl, rfl⟩
  refine NS ?_
  refine aj.mem (aQ := [.blk f [vI (S.X.cN), vI (S.X.cB), vI (S.X.cH), vI (S.X.cS), vI (S.X.cZ), .map (some m), vP t, vI (S.X.last), vI (S.X.ah + 1), vI (S.X.used)] 86, .abs (ak (aN (bq S.X S.O to c.text ⟨tk, 3⟩) L)), .abs (ak (bg (bq S.X S.O to c.text ⟨tk, 3⟩) L)), .abs (aH Tryz.prog 3 m (aM (aI L S.idx)) S.idx.length), .abs (aY 156 t S.X.cH S.au (aI L S.us)), .abs (ak (aV (bq S.X S.O to c.text ⟨tk, 3⟩) L)), .blk cb [vI (c.op), vI (c.handle), vI (c.other), .string c.name, .string c.text, .slice c.dA (c.data.length) (c.dC), vI (c.mode), vI (c.uid), vI (c.gid), vI (c.sec), vI (c.nano), vI (c.code), vI (c.answer)] 43, .abs R]) (fun w hS => by rw [show aV (bq S.X S.O to c.text ⟨tk, 3⟩) L = aV S.O L from fA]; exact hS) ?_
  refine gK 1 [(4, vI 0)] [] ?_
  refine NN (af.ret ?_)
  exact RT (vI 0) [0, 3, 4, 1, 5, 2, 6, 7] (⟨L, by rw [show (bV S c) = (0, { S with X := { S.X with ah := S.X.ah + 1 }, O := bq S.X S.O to c.text ⟨tk, 3⟩ }, c) by unfold bV; rw [hab]; simp only; rw [iF]; simp only; rw [show (linkM S d c.name to c.text) = (0, { S with X := { S.X with ah := S.X.ah + 1 }, O := bq S.X S.O to c.text ⟨tk, 3⟩ }) by unfold linkM; rw [hlk]; exact (if_neg (by simp)).trans ((if_pos bn).trans (if_pos h68))]] <;> exact ⟨rfl, rfl⟩⟩)
 ·have jg : (obj S.O ok).kind = 1 := hI.kind dh
  refine af.bD (by kernel_rfl) (by kernel_rfl) ?_
  refine gQ 8 (ul L to c) [(3, v_ 3 (bA L cX)), (7, a_ 6 cb)] ?_
  refine om 5 cX bn ?_
  refine gQ 2 [(57, .bool true)] [] ?_
  refine NQ (NX ?_)
  refine CT ?_
  refine SR ?_
  refine gK 1 [(4, vI 171)] [] ?_
  refine NN (af.ret (ai.aD (ai.aq ?_)))
  exact RT (vI 171) [0, 1, 2, 3, 4, 5, 6, 7] (⟨L, by rw [show (bV S c) = (171, S, c) by unfold bV; rw [hab]; simp only; rw [iF]; simp only; rw [show (linkM S d c.name to c.text) = (171, S) by unfold linkM; rw [hlk]; exact (if_neg (by simp)).trans (if_neg (by rw [bn]; simp))]] <;> exact ⟨rfl, rfl⟩⟩)
 ·have jg : (obj S.O ok).kind = 2 := hI.kind dh
  refine af.bD (by kernel_rfl) (by kernel_rfl) ?_
  refine gQ 8 (ul L to c) [(3, v_ 3 (bA L cX)), (7, a_ 6 cb)] ?_
  refine om 5 cX bn ?_
  refine gQ 2 [(57, .bool true)] [] ?_
  refine NQ (NX ?_)
  refine CT ?_
  refine SR ?_
  refine gK 1 [(4, vI 171)] [] ?_
  refine NN (af.ret (ai.aD (ai.aq ?_)))
  exact RT (vI 171) [0, 1, 2, 3, 4, 5, 6, 7] (⟨L, by rw [show (bV S c) = (171, S, c) by unfold bV; rw [hab]; simp only; rw [iF]; simp only; rw [show (linkM S d c.name to c.text) = (171, S) by unfold linkM; rw [hlk]; exact (if_neg (by simp)).trans (if_neg (by rw [bn]; simp))]] <;> exact ⟨rfl, rfl⟩⟩)
 have jg : (obj S.O ok).kind = 3 := hI.kind dh
 refine af.bD (by kernel_rfl) (by kernel_rfl) ?_
 refine gQ 8 (ul L to c) [(3, v_ 3 (bA L cX)), (7, a_ 6 cb)] ?_
 refine om 5 cX bn ?_
 refine gQ 2 [(57, .bool true)] [] ?_
 refine NQ (NX ?_)
 refine CT ?_
 refine SR ?_
 refine gK 1 [(4, vI 171)] [] ?_
 refine NN (af.ret (ai.aD (ai.aq ?_)))
 exact RT (vI 171) [0, 1, 2, 3, 4, 5, 6, 7] (⟨L, by rw [show (bV S c) = (171, S, c) by unfold bV; rw [hab]; simp only; rw [iF]; simp only; rw [show (linkM S d c.name to c.text) = (171, S) by unfold linkM; rw [hlk]; exact (if_neg (by simp)).trans (if_neg (by rw [bn]; simp))]] <;> exact ⟨rfl, rfl⟩⟩)
theorem Dj {β : Bs} (S : aF) (L : HL) (f m t : Nat) (hI : Inv S) (cb : Nat) (c : aT) (hC : fB β c) :
    Spec Tryz.prog β 86 #[vP f, vP cb] ((pA f m t L S) ++ [pC cb c]) (fun v l => ∃ L2, v = vI (fo S c).1 ∧ l = ((pA f m t L2 ((fo S c).2.1)) ++ [.blk cb (fT ((fo S c).2.2)) 43])) := by
 have hX := hI.hX
 refine Spec.enter Tryz.func86 rfl Tryz.ntmps86 (Nat.le_of_ble_eq_true rfl) (fun R => ?_)
 refine af.seq ?_
 rcases hI.hand c.handle with cD | ⟨tk, cD, hlv⟩ | ⟨tk, cD, hlv⟩
 ·refine af.region ?_
  refine gK 1 [] [] ?_
  refine NN (af.seq ?_)
  refine af.bD (by kernel_rfl) (by kernel_rfl) ?_
  refine gQ 8 (IE t c) [(3, a_ 0 f), (7, a_ 6 cb)] ?_
  refine aS.call (f := 136) (args := #[vP t, vI (c.handle)]) (d := (some 18)) (pre := [jG t S L]) (R := (nX f m t S L cb c R)) (pk := [2, 0, 1, 3, 4, 5, 6, 7]) (gA := [1, 2, 0, 3, 4, 5, 6, 7]) (v0 := .tuple #[.nilIface, vI 131]) (fun _ => by kernel_rfl) (nJ t S.X.cH S.au (aI L S.us) c.handle hC.hw (mR cD)) rfl (by kernel_rfl) rfl (by kernel_rfl) (fun _ _ h => h) ?_
  refine gQ 5 [(5, .nilIface), (6, vI 131)] [] ?_
  refine NQ (NX (af.seq (SR ?_)))
  refine gK 2 [(22, .bool true)] [] ?_
  refine NN ?_
  refine CT ?_
  refine SR ?_
  refine gK 2 [(4, vI 131)] [] ?_
  refine NN (af.ret (ai.aq ?_))
  exact RT (vI 131) [0, 1, 2, 3, 4, 5, 6, 7] (⟨L, by rw [show (fo S c) = (131, S, c) by unfold fo; rw [cD]] <;> exact ⟨rfl, rfl⟩⟩)
 ·have hkt : (obj S.O tk).kind = 1 := hI.kind hlv
  refine af.region ?_
  refine gK 1 [] [] ?_
  refine NN (af.seq ?_)
  refine af.bD (by kernel_rfl) (by kernel_rfl) ?_
  refine gQ 8 (IE t c) [(3, a_ 0 f), (7, a_ 6 cb)] ?_
  refine aS.call (f := 136) (args := #[vP t, vI (c.handle)]) (d := (some 18)) (pre := [jG t S L]) (R := (nX f m t S L cb c R)) (pk := [2, 0, 1, 3, 4, 5, 6, 7]) (gA := [1, 2, 0, 3, 4, 5, 6, 7]) (v0 := .tuple #[.iface 89 (vP (L.b tk)), vI 0]) (fun _ => by kernel_rfl) (ju t S.X.cH S.au (aI L S.us) c.handle hC.hw (cE L ⟨tk, 1⟩) (iT cD)) rfl (by kernel_rfl) rfl (by kernel_rfl) (fun _ _ h => h) ?_
  refine gQ 5 (EO L tk) [] ?_
  refine NQ (NX (af.seq (SR ?_)))
  refine gK 2 [(22, .bool false)] [] ?_
  refine NN ?_
  refine CF ?_
  refine af.skip (NX (SR ?_))
  refine gK 7 [(7, vP (L.b tk)), (8, .bool true)] [] ?_
  refine NN (af.seq (SR ?_))
  refine gK 2 [(30, .bool false)] [] ?_
  refine NN ?_
  refine CF ?_
  refine af.skip (NX (SR ?_))
  refine gK 7 [(32, vP cb), (33, vP f), (34, vP (L.b tk)), (38, .slice c.dA (c.data.length) (c.dC))] [(6, a_ 6 cb)] ?_
  refine gL [0, 1, 2, 3, 4, 5] (Af S L f m t hI tk hlv c.dA c.dC c.data hC.da hC.dl hC.dc) ?_
  rintro _ _ ⟨L2, rfl, rfl⟩
  refine gC 7 [(6, vI ((writeM S tk c.data).2.1))] [(5, a_ 6 cb)] [(6, [(12, vI ((writeM S tk c.data).1))])] ?_
  refine NS ?_
  refine gK 2 [(4, vI ((writeM S tk c.data).2.1))] [] ?_
  refine NN (af.ret ?_)
  exact RT (vI ((writeM S tk c.data).2.1)) [0, 1, 2, 3, 4, 5, 6, 7] (⟨L2, by rw [show (fo S c) = ((writeM S tk c.data).2.1, (writeM S tk c.data).2.2, { c with answer := (writeM S tk c.data).1 }) by unfold fo; rw [cD]; exact if_pos rfl] <;> exact ⟨rfl, rfl⟩⟩)
 have hkt : (obj S.O tk).kind = 2 := hI.kind hlv
 refine af.region ?_
 refine gK 1 [] [] ?_
 refine NN (af.seq ?_)
 refine af.bD (by kernel_rfl) (by kernel_rfl) ?_
 refine gQ 8 (IE t c) [(3, a_ 0 f), (7, a_ 6 cb)] ?_
 refine aS.call (f := 136) (args := #[vP t, vI (c.handle)]) (d := (some 18)) (pre := [jG t S L]) (R := (nX f m t S L cb c R)) (pk := [2, 0, 1, 3, 4, 5, 6, 7]) (gA := [1, 2, 0, 3, 4, 5, 6, 7]) (v0 := .tuple #[.iface 96 (vP (L.b tk)), vI 0]) (fun _ => by kernel_rfl) (ju t S.X.cH S.au (aI L S.us) c.handle hC.hw (cE L ⟨tk, 2⟩) (iT cD)) rfl (by kernel_rfl) rfl (by kernel_rfl) (fun _ _ h => h) ?_
 refine gQ 5 (EP L tk) [] ?_
 refine NQ (NX (af.seq (SR ?_)))
 refine gK 2 [(22, .bool false)] [] ?_
 refine NN ?_
 refine CF ?_
 refine af.skip (NX (SR ?_))
 refine gK 7 [(7, .pointer none), (8, .bool false)] [] ?_
 refine NN (af.seq (SR ?_))
 refine gK 2 [(30, .bool true)] [] ?_
 refine NN ?_
 refine CT ?_
 refine SR ?_
 refine gK 1 [(4, vI 172)] [] ?_
 refine NN (af.ret (ai.aq ?_))
 exact RT (vI 172) [0, 1, 2, 3, 4, 5, 6, 7] (⟨L, by rw [show (fo S c) = (172, S, c) by unfold fo; rw [cD]; exact if_neg (by simp)] <;> exact ⟨rfl, rfl⟩⟩)
theorem lp {β : Bs} (S : aF) (L : HL) (hI : Inv S) (cb : Nat) (c : aT) (ot : Option Th) (ht : ot = none ∨ (∃ k, ot = some ⟨k, 1⟩ ∧ Live S.idx ⟨k, 1⟩) ∨ (∃ k, ot = some ⟨k, 2⟩ ∧ Live S.idx ⟨k, 2⟩) ∨ ∃ k, ot = some ⟨k, 3⟩ ∧ Live S.idx ⟨k, 3⟩) :
    Spec Tryz.prog β 137 #[vP cb, (match ot with | none => .nilIface | some th => cE L th)] [pO S.O L, pC cb c] (fun v l => v = .tuple #[] ∧ l = [pO S.O L, .blk cb (fT (kY S.O c ot)) 43]) := by
 refine Spec.enter Tryz.func137 rfl Tryz.ntmps137 (Nat.le_of_ble_eq_true rfl) (fun R => ?_)
 refine af.seq ?_
 rcases ht with rfl | ⟨tk, rfl, hlv⟩ | ⟨tk, rfl, hlv⟩ | ⟨tk, rfl, hlv⟩
 ·refine af.region ?_
  refine gC 21 [] [(8, a_ 1 cb), (11, a_ 1 cb), (14, a_ 1 cb), (17, a_ 1 cb), (20, A_ 1 cb 2)] [(1, (EN))] ?_
  refine NN (af.seq (SR ?_))
  refine gK 2 [(22, .bool true)] [] ?_
  refine NN ?_
  refine CT ?_
  refine af.ret (ai.aq ?_)
  exact RT (.tuple #[]) [0, 1, 2] (⟨rfl, rfl⟩)
 ·have hkt : (obj S.O tk).kind = 1 := hI.kind hlv
  refine af.region ?_
  refine gC 21 [] [(8, a_ 1 cb), (11, a_ 1 cb), (14, a_ 1 cb), (17, a_ 1 cb), (20, A_ 1 cb 2)] [(1, (EN))] ?_
  refine NN (af.seq (SR ?_))
  refine gK 2 [(22, .bool false)] [] ?_
  refine NN ?_
  refine CF ?_
  refine af.skip (NX (SR ?_))
  refine gK 1 [(23, .iface 89 (vP (L.b tk)))] [] ?_
  refine gL [] (ck (L.b tk)) ?_
  rintro _ _ ⟨rfl, rfl⟩
  refine gK 1 [(4, vP (L.b tk))] [] ?_
  refine NN ?_
  refine af.bY (S := [pO S.O L]) [0, 1, 2, 3, 4, 5, 6, 7, 8, 9, 10, 12, 13, 14, 15, 16, 17, 18, 19, 20, 21, 22, 23, 24, 25, 26, 27, 11, 28, 29, 30, 31, 32, 33, 34, 35, 36, 37, 38, 39, 40, 41, 42, 43, 44, 45] 27 [0] (by kernel_rfl) (by kernel_rfl) rfl (by kernel_rfl) ?_
  refine aG.reads (r := 0) (l := [11, 28, 29, 30, 31, 32, 33, 34, 35, 36, 37, 38, 39, 40, 41, 42, 43, 44, 45]) (fr' := ([(25, vP cb)] ++ si cb S tk ++ [(35, .iface 89 (vP (L.b tk)))] ++ kP S tk)) (aU := [(∀ F w, (ak (aN S.O L)).h F w → w.cell? ⟨(L.b tk), 5, none⟩ = some (vI ((obj S.O tk).nano))), (∀ F w, (ak (aN S.O L)).h F w → w.cell? ⟨(L.b tk), 4, none⟩ = some (vI ((obj S.O tk).sec))), (∀ F w, (ak (aN S.O L)).h F w → w.cell? ⟨(L.b tk), 3, none⟩ = some (vI ((obj S.O tk).gid))), (∀ F w, (ak (aN S.O L)).h F w → w.cell? ⟨(L.b tk), 2, none⟩ = some (vI ((obj S.O tk).uid))), (∀ F w, (ak (aN S.O L)).h F w → w.cell? ⟨(L.b tk), 1, none⟩ = some (vI ((obj S.O tk).mode))), (∀ F w, (ak (aN S.O L)).h F w → w.cell? ⟨(L.b tk), 0, none⟩ = some (vI ((obj S.O tk).id)))]) [0, 1, 2, 3, 4, 5, 6, 7, 8, 9, 10, 12, 13, 14, 15, 16, 17, 18, 19, 20, 21, 22, 23, 24, 25, 26, 27] [o_, o_, o_, o_, o_, o_, o_, o_, o_, ⟨[.view 0 (.int .i64 ((obj S.O tk).id))], none, none, none, none⟩, o_, o_, o_, o_, ⟨[.view 0 (.int .i64 ((obj S.O tk).mode))], none, none, none, none⟩, o_, o_, o_, ⟨[.view 0 (.int .i64 ((obj S.O tk).uid))], none, none, none, none⟩, o_, o_, o_, ⟨[.view 0 (.int .i64 ((obj S.O tk).gid))], none, none, none, none⟩, o_, o_, o_, ⟨[.view 0 (.int .i64 ((obj S.O tk).sec)), .view 0 (.int .i64 ((obj S.O tk).nano))], none, none, none, none⟩] [25, 26, 27, 28, 29, 30, 34, 35, 40, 44, 48, 52] (fun _ => by kernel_rfl) ⟨bp (by rw [hkt]; decide) (rfl), bp (by rw [hkt]; decide) (rfl), bp (by rw [hkt]; decide) (rfl), bp (by rw [hkt]; decide) (rfl), bp (by rw [hkt]; decide) (rfl), bp (by rw [hkt]; decide) (rfl), trivial⟩ rfl rfl ?_
  refine mL [0] [] (jw (vP (L.b tk))) ?_ (by rintro _ _ ⟨rfl, rfl⟩; rfl)
  rintro _ _ ⟨rfl, rfl⟩
  refine aG.cut (ι := Unit) (fr' := fun (_ : Unit) => (si cb S tk ++ [(36, vI 1)] ++ kP S tk ++ [(53, vP cb)])) (hp' := fun (_ : Unit) => [pO S.O L, DS cb c, .abs R]) [0] rfl rfl ?_ rfl (fun _ => by kernel_rfl) ?_
  ·refine gK 1 [(53, vP cb)] [] ?_
   refine NL ?_
   exact MD () [26, 27, 28, 29, 30, 34, 36, 40, 44, 48, 52, 53] [0, 1, 2]
  rintro _
  refine aG.cut (ι := Unit) (fr' := fun (_ : Unit) => (si cb S tk ++ [(36, vI 1)] ++ kP S tk ++ [(54, .pointer (some ⟨cb, 12, none⟩))])) (hp' := fun (_ : Unit) => [pO S.O L, DS cb c, .abs R]) [0] rfl rfl ?_ rfl (fun _ => by kernel_rfl) ?_
  ·refine gK 1 [(54, .pointer (some ⟨cb, 12, none⟩))] [] ?_
   refine NL ?_
   exact MD () [26, 27, 28, 29, 30, 34, 36, 40, 44, 48, 52, 54] [0, 1, 2]
  rintro _
  refine mC [0] [] [(0, a_ 1 cb)] [(1, [(12, vI ((obj S.O tk).id))])] ?_
  refine aG.cut (ι := Unit) (fr' := fun (_ : Unit) => ([(27, vP cb)] ++ nY cb ++ [(36, vI 1)] ++ kP S tk ++ [(55, vP cb)])) (hp' := fun (_ : Unit) => [pO S.O L, DT cb c S tk, .abs R]) [0] rfl rfl ?_ rfl (fun _ => by kernel_rfl) ?_
  ·refine gK 1 [(55, vP cb)] [] ?_
   refine NL ?_
   exact MD () [27, 28, 29, 30, 36, 40, 44, 48, 52, 55] [0, 1, 2]
  rintro _
  refine aG.cut (ι := Unit) (fr' := fun (_ : Unit) => ([(27, vP cb)] ++ nY cb ++ [(36, vI 1)] ++ kP S tk ++ [(56, .pointer (some ⟨cb, 2, none⟩))])) (hp' := fun (_ : Unit) => [pO S.O L, DT cb c S tk, .abs R]) [0] rfl rfl ?_ rfl (fun _ => by kernel_rfl) ?_
  ·refine gK 1 [(56, .pointer (some ⟨cb, 2, none⟩))] [] ?_
   refine NL ?_
   exact MD () [27, 28, 29, 30, 36, 40, 44, 48, 52, 56] [0, 1, 2]
  rintro _
  refine mC [0] [] [(0, a_ 1 cb)] [(1, [(2, vI 1)])] ?_
  refine aG.cut (ι := Unit) (fr' := fun (_ : Unit) => (nY cb ++ kP S tk ++ [(57, vP cb)])) (hp' := fun (_ : Unit) => [pO S.O L, pC cb { c with other := 1, mode := 0, uid := 0, gid := 0, sec := 0, nano := 0, answer := (obj S.O tk).id }, .abs R]) [0] rfl rfl ?_ rfl (fun _ => by kernel_rfl) ?_
  ·refine gK 1 [(57, vP cb)] [] ?_
   refine NL ?_
   exact MD () [28, 29, 30, 40, 44, 48, 52, 57] [0, 1, 2]
  rintro _
  refine aG.cut (ι := Unit) (fr' := fun (_ : Unit) => (nY cb ++ kP S tk ++ [(58, .pointer (some ⟨cb, 6, none⟩))])) (hp' := fun (_ : Unit) => [pO S.O L, pC cb { c with other := 1, mode := 0, uid := 0, gid := 0, sec := 0, nano := 0, answer := (obj S.O tk).id }, .abs R]) [0] rfl rfl ?_ rfl (fun _ => by kernel_rfl) ?_
  ·refine gK 1 [(58, .pointer (some ⟨cb, 6, none⟩))] [] ?_
   refine NL ?_
   exact MD () [28, 29, 30, 40, 44, 48, 52, 58] [0, 1, 2]
  rintro _
  refine mC [0] [] [(0, a_ 1 cb)] [(1, [(6, vI ((obj S.O tk).mode))])] ?_
  refine aG.cut (ι := Unit) (fr' := fun (_ : Unit) => (zl cb S tk ++ nW S tk ++ [(59, vP cb)])) (hp' := fun (_ : Unit) => [pO S.O L, pC cb { c with other := 1, mode := (obj S.O tk).mode, uid := 0, gid := 0, sec := 0, nano := 0, answer := (obj S.O tk).id }, .abs R]) [0] rfl rfl ?_ rfl (fun _ => by kernel_rfl) ?_
  ·refine gK 1 [(59, vP cb)] [] ?_
   refine NL ?_
   exact MD () [29, 30, 44, 48, 52, 59] [0, 1, 2]
  rintro _
  refine aG.cut (ι := Unit) (fr' := fun (_ : Unit) => (zl cb S tk ++ nW S tk ++ [(60, .pointer (some ⟨cb, 7, none⟩))])) (hp' := fun (_ : Unit) => [pO S.O L, pC cb { c with other := 1, mode := (obj S.O tk).mode, uid := 0, gid := 0, sec := 0, nano := 0, answer := (obj S.O tk).id }, .abs R]) [0] rfl rfl ?_ rfl (fun _ => by kernel_rfl) ?_
  ·refine gK 1 [(60, .pointer (some ⟨cb, 7, none⟩))] [] ?_
   refine NL ?_
   exact MD () [29, 30, 44, 48, 52, 60] [0, 1, 2]
  rintro _
  refine mC [0] [] [(0, a_ 1 cb)] [(1, [(7, vI ((obj S.O tk).uid))])] ?_
  refine aG.cut (ι := Unit) (fr' := fun (_ : Unit) => ([(30, vP cb)] ++ nW S tk ++ [(61, vP cb)])) (hp' := fun (_ : Unit) => [pO S.O L, NE cb c S tk, .abs R]) [0] rfl rfl ?_ rfl (fun _ => by kernel_rfl) ?_
  ·refine gK 1 [(61, vP cb)] [] ?_
   refine NL ?_
   exact MD () [30, 48, 52, 61] [0, 1, 2]
  rintro _
  refine aG.cut (ι := Unit) (fr' := fun (_ : Unit) => ([(30, vP cb)] ++ nW S tk ++ [(62, .pointer (some ⟨cb, 8, none⟩))])) (hp' := fun (_ : Unit) => [pO S.O L, NE cb c S tk, .abs R]) [0] rfl rfl ?_ rfl (fun _ => by kernel_rfl) ?_
  ·refine gK 1 [(62, .pointer (some ⟨cb, 8, none⟩))] [] ?_
   refine NL ?_
   exact MD () [30, 48, 52, 62] [0, 1, 2]
  rintro _
  refine mC [0] [] [(0, a_ 1 cb)] [(1, [(8, vI ((obj S.O tk).gid))])] ?_
  refine aG.cut (ι := Unit) (fr' := fun (_ : Unit) => [(52, .agg #[vI ((obj S.O tk).sec), vI ((obj S.O tk).nano)]), (63, vP cb)]) (hp' := fun (_ : Unit) => [pO S.O L, NG cb c S tk, .abs R]) [0] rfl rfl ?_ rfl (fun _ => by kernel_rfl) ?_
  ·refine gK 1 [(63, vP cb)] [] ?_
   refine NL ?_
   exact MD () [52, 63] [0, 1, 2]
  rintro _
  refine aG.cut (ι := Unit) (fr' := fun (_ : Unit) => (IC S tk cb)) (hp' := fun (_ : Unit) => [pO S.O L, NG cb c S tk, .abs R]) [0] rfl rfl ?_ rfl (fun _ => by kernel_rfl) ?_
  ·refine gK 1 [(64, .pointer (some ⟨cb, 9, none⟩))] [] ?_
   refine NL ?_
   exact MD () [52, 64] [0, 1, 2]
  rintro _
  refine aG.last rfl rfl ?_
  refine gC 1 [] [(0, A_ 1 cb 2)] [(1, (II S tk))] ?_
  refine NL (ai.np ?_)
  exact RF (.tuple #[]) [0, 1, 2] (⟨rfl, rfl⟩)
 ·have hkt : (obj S.O tk).kind = 2 := hI.kind hlv
  refine af.region ?_
  refine gC 21 [] [(8, a_ 1 cb), (11, a_ 1 cb), (14, a_ 1 cb), (17, a_ 1 cb), (20, A_ 1 cb 2)] [(1, (EN))] ?_
  refine NN (af.seq (SR ?_))
  refine gK 2 [(22, .bool false)] [] ?_
  refine NN ?_
  refine CF ?_
  refine af.skip (NX (SR ?_))
  refine gK 1 [(23, .iface 96 (vP (L.b tk)))] [] ?_
  refine gL [] (ck (L.b tk)) ?_
  rintro _ _ ⟨rfl, rfl⟩
  refine gK 1 [(4, vP (L.b tk))] [] ?_
  refine NN ?_
  refine af.bY (S := [pO S.O L]) [0, 1, 2, 3, 4, 5, 6, 7, 8, 9, 10, 12, 13, 14, 15, 16, 17, 18, 19, 20, 21, 22, 23, 24, 25, 26, 27, 11, 28, 29, 30, 31, 32, 33, 34, 35, 36, 37, 38, 39, 40, 41, 42, 43, 44, 45] 27 [0] (by kernel_rfl) (by kernel_rfl) rfl (by kernel_rfl) ?_
  refine aG.reads (r := 0) (l := [11, 28, 29, 30, 31, 32, 33, 34, 35, 36, 37, 38, 39, 40, 41, 42, 43, 44, 45]) (fr' := ([(25, vP cb)] ++ si cb S tk ++ [(35, .iface 96 (vP (L.b tk)))] ++ kP S tk)) (aU := [(∀ F w, (ak (aN S.O L)).h F w → w.cell? ⟨(L.b tk), 5, none⟩ = some (vI ((obj S.O tk).nano))), (∀ F w, (ak (aN S.O L)).h F w → w.cell? ⟨(L.b tk), 4, none⟩ = some (vI ((obj S.O tk).sec))), (∀ F w, (ak (aN S.O L)).h F w → w.cell? ⟨(L.b tk), 3, none⟩ = some (vI ((obj S.O tk).gid))), (∀ F w, (ak (aN S.O L)).h F w → w.cell? ⟨(L.b tk), 2, none⟩ = some (vI ((obj S.O tk).uid))), (∀ F w, (ak (aN S.O L)).h F w → w.cell? ⟨(L.b tk), 1, none⟩ = some (vI ((obj S.O tk).mode))), (∀ F w, (ak (aN S.O L)).h F w → w.cell? ⟨(L.b tk), 0, none⟩ = some (vI ((obj S.O tk).id)))]) [0, 1, 2, 3, 4, 5, 6, 7, 8, 9, 10, 12, 13, 14, 15, 16, 17, 18, 19, 20, 21, 22, 23, 24, 25, 26, 27] [o_, o_, o_, o_, o_, o_, o_, o_, o_, ⟨[.view 0 (.int .i64 ((obj S.O tk).id))], none, none, none, none⟩, o_, o_, o_, o_, ⟨[.view 0 (.int .i64 ((obj S.O tk).mode))], none, none, none, none⟩, o_, o_, o_, ⟨[.view 0 (.int .i64 ((obj S.O tk).uid))], none, none, none, none⟩, o_, o_, o_, ⟨[.view 0 (.int .i64 ((obj S.O tk).gid))], none, none, none, none⟩, o_, o_, o_, ⟨[.view 0 (.int .i64 ((obj S.O tk).sec)), .view 0 (.int .i64 ((obj S.O tk).nano))], none, none, none, none⟩] [25, 26, 27, 28, 29, 30, 34, 35, 40, 44, 48, 52] (fun _ => by kernel_rfl) ⟨bp (by rw [hkt]; decide) (rfl), bp (by rw [hkt]; decide) (rfl), bp (by rw [hkt]; decide) (rfl), bp (by rw [hkt]; decide) (rfl), bp (by rw [hkt]; decide) (rfl), bp (by rw [hkt]; decide) (rfl), trivial⟩ rfl rfl ?_
  refine mL [0] [] (jA (vP (L.b tk))) ?_ (by rintro _ _ ⟨rfl, rfl⟩; rfl)
  rintro _ _ ⟨rfl, rfl⟩
  refine aG.cut (ι := Unit) (fr' := fun (_ : Unit) => (si cb S tk ++ [(36, vI 2)] ++ kP S tk ++ [(53, vP cb)])) (hp' := fun (_ : Unit) => [pO S.O L, DS cb c, .abs R]) [0] rfl rfl ?_ rfl (fun _ => by kernel_rfl) ?_
  ·refine gK 1 [(53, vP cb)] [] ?_
   refine NL ?_
   exact MD () [26, 27, 28, 29, 30, 34, 36, 40, 44, 48, 52, 53] [0, 1, 2]
  rintro _
  refine aG.cut (ι := Unit) (fr' := fun (_ : Unit) => (si cb S tk ++ [(36, vI 2)] ++ kP S tk ++ [(54, .pointer (some ⟨cb, 12, none⟩))])) (hp' := fun (_ : Unit) => [pO S.O L, DS cb c, .abs R]) [0] rfl rfl ?_ rfl (fun _ => by kernel_rfl) ?_
  ·refine gK 1 [(54, .pointer (some ⟨cb, 12, none⟩))] [] ?_
   refine NL ?_
   exact MD () [26, 27, 28, 29, 30, 34, 36, 40, 44, 48, 52, 54] [0, 1, 2]
  rintro _
  refine mC [0] [] [(0, a_ 1 cb)] [(1, [(12, vI ((obj S.O tk).id))])] ?_
  refine aG.cut (ι := Unit) (fr' := fun (_ : Unit) => ([(27, vP cb)] ++ nY cb ++ [(36, vI 2)] ++ kP S tk ++ [(55, vP cb)])) (hp' := fun (_ : Unit) => [pO S.O L, DT cb c S tk, .abs R]) [0] rfl rfl ?_ rfl (fun _ => by kernel_rfl) ?_
  ·refine gK 1 [(55, vP cb)] [] ?_
   refine NL ?_
   exact MD () [27, 28, 29, 30, 36, 40, 44, 48, 52, 55] [0, 1, 2]
  rintro _
  refine aG.cut (ι := Unit) (fr' := fun (_ : Unit) => ([(27, vP cb)] ++ nY cb ++ [(36, vI 2)] ++ kP S tk ++ [(56, .pointer (some ⟨cb, 2, none⟩))])) (hp' := fun (_ : Unit) => [pO S.O L, DT cb c S tk, .abs R]) [0] rfl rfl ?_ rfl (fun _ => by kernel_rfl) ?_
  ·refine gK 1 [(56, .pointer (some ⟨cb, 2, none⟩))] [] ?_
   refine NL ?_
   exact MD () [27, 28, 29, 30, 36, 40, 44, 48, 52, 56] [0, 1, 2]
  rintro _
  refine mC [0] [] [(0, a_ 1 cb)] [(1, [(2, vI 2)])] ?_
  refine aG.cut (ι := Unit) (fr' := fun (_ : Unit) => (nY cb ++ kP S tk ++ [(57, vP cb)])) (hp' := fun (_ : Unit) => [pO S.O L, pC cb { c with other := 2, mode := 0, uid := 0, gid := 0, sec := 0, nano := 0, answer := (obj S.O tk).id }, .abs R]) [0] rfl rfl ?_ rfl (fun _ => by kernel_rfl) ?_
  ·refine gK 1 [(57, vP cb)] [] ?_
   refine NL ?_
   exact MD () [28, 29, 30, 40, 44, 48, 52, 57] [0, 1, 2]
  rintro _
  refine aG.cut (ι := Unit) (fr' := fun (_ : Unit) => (nY cb ++ kP S tk ++ [(58, .pointer (some ⟨cb, 6, none⟩))])) (hp' := fun (_ : Unit) => [pO S.O L, pC cb { c with other := 2, mode := 0, uid := 0, gid := 0, sec := 0, nano := 0, answer := (obj S.O tk).id }, .abs R]) [0] rfl rfl ?_ rfl (fun _ => by kernel_rfl) ?_
  ·refine gK 1 [(58, .pointer (some ⟨cb, 6, none⟩))] [] ?_
   refine NL ?_
   exact MD () [28, 29, 30, 40, 44, 48, 52, 58] [0, 1, 2]
  rintro _
  refine mC [0] [] [(0, a_ 1 cb)] [(1, [(6, vI ((obj S.O tk).mode))])] ?_
  refine aG.cut (ι := Unit) (fr' := fun (_ : Unit) => (zl cb S tk ++ nW S tk ++ [(59, vP cb)])) (hp' := fun (_ : Unit) => [pO S.O L, pC cb { c with other := 2, mode := (obj S.O tk).mode, uid := 0, gid := 0, sec := 0, nano := 0, answer := (obj S.O tk).id }, .abs R]) [0] rfl rfl ?_ rfl (fun _ => by kernel_rfl) ?_
  ·refine gK 1 [(59, vP cb)] [] ?_
   refine NL ?_
   exact MD () [29, 30, 44, 48, 52, 59] [0, 1, 2]
  rintro _
  refine aG.cut (ι := Unit) (fr' := fun (_ : Unit) => (zl cb S tk ++ nW S tk ++ [(60, .pointer (some ⟨cb, 7, none⟩))])) (hp' := fun (_ : Unit) => [pO S.O L, pC cb { c with other := 2, mode := (obj S.O tk).mode, uid := 0, gid := 0, sec := 0, nano := 0, answer := (obj S.O tk).id }, .abs R]) [0] rfl rfl ?_ rfl (fun _ => by kernel_rfl) ?_
  ·refine gK 1 [(60, .pointer (some ⟨cb, 7, none⟩))] [] ?_
   refine NL ?_
   exact MD () [29, 30, 44, 48, 52, 60] [0, 1, 2]
  rintro _
  refine mC [0] [] [(0, a_ 1 cb)] [(1, [(7, vI ((obj S.O tk).uid))])] ?_
  refine aG.cut (ι := Unit) (fr' := fun (_ : Unit) => ([(30, vP cb)] ++ nW S tk ++ [(61, vP cb)])) (hp' := fun (_ : Unit) => [pO S.O L, NH cb c S tk, .abs R]) [0] rfl rfl ?_ rfl (fun _ => by kernel_rfl) ?_
  ·refine gK 1 [(61, vP cb)] [] ?_
   refine NL ?_
   exact MD () [30, 48, 52, 61] [0, 1, 2]
  rintro _
  refine aG.cut (ι := Unit) (fr' := fun (_ : Unit) => ([(30, vP cb)] ++ nW S tk ++ [(62, .pointer (some ⟨cb, 8, none⟩))])) (hp' := fun (_ : Unit) => [pO S.O L, NH cb c S tk, .abs R]) [0] rfl rfl ?_ rfl (fun _ => by kernel_rfl) ?_
  ·refine gK 1 [(62, .pointer (some ⟨cb, 8, none⟩))] [] ?_
   refine NL ?_
   exact MD () [30, 48, 52, 62] [0, 1, 2]
  rintro _
  refine mC [0] [] [(0, a_ 1 cb)] [(1, [(8, vI ((obj S.O tk).gid))])] ?_
  refine aG.cut (ι := Unit) (fr' := fun (_ : Unit) => [(52, .agg #[vI ((obj S.O tk).sec), vI ((obj S.O tk).nano)]), (63, vP cb)]) (hp' := fun (_ : Unit) => [pO S.O L, NI cb c S tk, .abs R]) [0] rfl rfl ?_ rfl (fun _ => by kernel_rfl) ?_
  ·refine gK 1 [(63, vP cb)] [] ?_
   refine NL ?_
   exact MD () [52, 63] [0, 1, 2]
  rintro _
  refine aG.cut (ι := Unit) (fr' := fun (_ : Unit) => (IC S tk cb)) (hp' := fun (_ : Unit) => [pO S.O L, NI cb c S tk, .abs R]) [0] rfl rfl ?_ rfl (fun _ => by kernel_rfl) ?_
  ·refine gK 1 [(64, .pointer (some ⟨cb, 9, none⟩))] [] ?_
   refine NL ?_
   exact MD () [52, 64] [0, 1, 2]
  rintro _
  refine aG.last rfl rfl ?_
  refine gC 1 [] [(0, A_ 1 cb 2)] [(1, (II S tk))] ?_
  refine NL (ai.np ?_)
  exact RF (.tuple #[]) [0, 1, 2] (⟨rfl, rfl⟩)
 have hkt : (obj S.O tk).kind = 3 := hI.kind hlv
 refine af.region ?_
 refine gC 21 [] [(8, a_ 1 cb), (11, a_ 1 cb), (14, a_ 1 cb), (17, a_ 1 cb), (20, A_ 1 cb 2)] [(1, (EN))] ?_
 refine NN (af.seq (SR ?_))
 refine gK 2 [(22, .bool false)] [] ?_
 refine NN ?_
 refine CF ?_
 refine af.skip (NX (SR ?_))
 refine gK 1 [(23, .iface 93 (vP (L.b tk)))] [] ?_
 refine gL [] (ck (L.b tk)) ?_
 rintro _ _ ⟨rfl, rfl⟩
 refine gK 1 [(4, vP (L.b tk))] [] ?_
 refine NN ?_
 refine af.bY (S := [pO S.O L]) [0, 1, 2, 3, 4, 5, 6, 7, 8, 9, 10, 12, 13, 14, 15, 16, 17, 18, 19, 20, 21, 22, 23, 24, 25, 26, 27, 11, 28, 29, 30, 31, 32, 33, 34, 35, 36, 37, 38, 39, 40, 41, 42, 43, 44, 45] 27 [0] (by kernel_rfl) (by kernel_rfl) rfl (by kernel_rfl) ?_
 refine aG.reads (r := 0) (l := [11, 28, 29, 30, 31, 32, 33, 34, 35, 36, 37, 38, 39, 40, 41, 42, 43, 44, 45]) (fr' := ([(25, vP cb)] ++ si cb S tk ++ [(35, .iface 93 (vP (L.b tk)))] ++ kP S tk)) (aU := [(∀ F w, (ak (aN S.O L)).h F w → w.cell? ⟨(L.b tk), 5, none⟩ = some (vI ((obj S.O tk).nano))), (∀ F w, (ak (aN S.O L)).h F w → w.cell? ⟨(L.b tk), 4, none⟩ = some (vI ((obj S.O tk).sec))), (∀ F w, (ak (aN S.O L)).h F w → w.cell? ⟨(L.b tk), 3, none⟩ = some (vI ((obj S.O tk).gid))), (∀ F w, (ak (aN S.O L)).h F w → w.cell? ⟨(L.b tk), 2, none⟩ = some (vI ((obj S.O tk).uid))), (∀ F w, (ak (aN S.O L)).h F w → w.cell? ⟨(L.b tk), 1, none⟩ = some (vI ((obj S.O tk).mode))), (∀ F w, (ak (aN S.O L)).h F w → w.cell? ⟨(L.b tk), 0, none⟩ = some (vI ((obj S.O tk).id)))]) [0, 1, 2, 3, 4, 5, 6, 7, 8, 9, 10, 12, 13, 14, 15, 16, 17, 18, 19, 20, 21, 22, 23, 24, 25, 26, 27] [o_, o_, o_, o_, o_, o_, o_, o_, o_, ⟨[.view 0 (.int .i64 ((obj S.O tk).id))], none, none, none, none⟩, o_, o_, o_, o_, ⟨[.view 0 (.int .i64 ((obj S.O tk).mode))], none, none, none, none⟩, o_, o_, o_, ⟨[.view 0 (.int .i64 ((obj S.O tk).uid))], none, none, none, none⟩, o_, o_, o_, ⟨[.view 0 (.int .i64 ((obj S.O tk).gid))], none, none, none, none⟩, o_, o_, o_, ⟨[.view 0 (.int .i64 ((obj S.O tk).sec)), .view 0 (.int .i64 ((obj S.O tk).nano))], none, none, none, none⟩] [25, 26, 27, 28, 29, 30, 34, 35, 40, 44, 48, 52] (fun _ => by kernel_rfl) ⟨bp (by rw [hkt]; decide) (rfl), bp (by rw [hkt]; decide) (rfl), bp (by rw [hkt]; decide) (rfl), bp (by rw [hkt]; decide) (rfl), bp (by rw [hkt]; decide) (rfl), bp (by rw [hkt]; decide) (rfl), trivial⟩ rfl rfl ?_
 refine mL [0] [] (j8 (vP (L.b tk))) ?_ (by rintro _ _ ⟨rfl, rfl⟩; rfl)
 rintro _ _ ⟨rfl, rfl⟩
 refine aG.cut (ι := Unit) (fr' := fun (_ : Unit) => (si cb S tk ++ [(36, vI 3)] ++ kP S tk ++ [(53, vP cb)])) (hp' := fun (_ : Unit) => [pO S.O L, DS cb c, .abs R]) [0] rfl rfl ?_ rfl (fun _ => by kernel_rfl) ?_
 ·refine gK 1 [(53, vP cb)] [] ?_
  refine NL ?_
  exact MD () [26, 27, 28, 29, 30, 34, 36, 40, 44, 48, 52, 53] [0, 1, 2]
 rintro _
 refine aG.cut (ι := Unit) (fr' := fun (_ : Unit) => (si cb S tk ++ [(36, vI 3)] ++ kP S tk ++ [(54, .pointer (some ⟨cb, 12, none⟩))])) (hp' := fun (_ : Unit) => [pO S.O L, DS cb c, .abs R]) [0] rfl rfl ?_ rfl (fun _ => by kernel_rfl) ?_
 ·refine gK 1 [(54, .pointer (some ⟨cb, 12, none⟩))] [] ?_
  refine NL ?_
  exact MD () [26, 27, 28, 29, 30, 34, 36, 40, 44, 48, 52, 54] [0, 1, 2]
 rintro _
 refine mC [0] [] [(0, a_ 1 cb)] [(1, [(12, vI ((obj S.O tk).id))])] ?_
 refine aG.cut (ι := Unit) (fr' := fun (_ : Unit) => ([(27, vP cb)] ++ nY cb ++ [(36, vI 3)] ++ kP S tk ++ [(55, vP cb)])) (hp' := fun (_ : Unit) => [pO S.O L, DT cb c S tk, .abs R]) [0] rfl rfl ?_ rfl (fun _ => by kernel_rfl) ?_
 ·refine gK 1 [(55, vP cb)] [] ?_
  refine NL ?_
  exact MD () [27, 28, 29, 30, 36, 40, 44, 48, 52, 55] [0, 1, 2]
 rintro _
 refine aG.cut (ι := Unit) (fr' := fun (_ : Unit) => ([(27, vP cb)] ++ nY cb ++ [(36, vI 3)] ++ kP S tk ++ [(56, .pointer (some ⟨cb, 2, none⟩))])) (hp' := fun (_ : Unit) => [pO S.O L, DT cb c S tk, .abs R]) [0] rfl rfl ?_ rfl (fun _ => by kernel_rfl) ?_
 ·refine gK 1 [(56, .pointer (some ⟨cb, 2, none⟩))] [] ?_
  refine NL ?_
  exact MD () [27, 28, 29, 30, 36, 40, 44, 48, 52, 56] [0, 1, 2]
 rintro _
 refine mC [0] [] [(0, a_ 1 cb)] [(1, [(2, vI 3)])] ?_
 refine aG.cut (ι := Unit) (fr' := fun (_ : Unit) => (nY cb ++ kP S tk ++ [(57, vP cb)])) (hp' := fun (_ : Unit) => [pO S.O L, pC cb { c with other := 3, mode := 0, uid := 0, gid := 0, sec := 0, nano := 0, answer := (obj S.O tk).id }, .abs R]) [0] rfl rfl ?_ rfl (fun _ => by kernel_rfl) ?_
 ·refine gK 1 [(57, vP cb)] [] ?_
  refine NL ?_
  exact MD () [28, 29, 30, 40, 44, 48, 52, 57] [0, 1, 2]
 rintro _
 refine aG.cut (ι := Unit) (fr' := fun (_ : Unit) => (nY cb ++ kP S tk ++ [(58, .pointer (some ⟨cb, 6, none⟩))])) (hp' := fun (_ : Unit) => [pO S.O L, pC cb { c with other := 3, mode := 0, uid := 0, gid := 0, sec := 0, nano := 0, answer := (obj S.O tk).id }, .abs R]) [0] rfl rfl ?_ rfl (fun _ => by kernel_rfl) ?_
 ·refine gK 1 [(58, .pointer (some ⟨cb, 6, none⟩))] [] ?_
  refine NL ?_
  exact MD () [28, 29, 30, 40, 44, 48, 52, 58] [0, 1, 2]
 rintro _
 refine mC [0] [] [(0, a_ 1 cb)] [(1, [(6, vI ((obj S.O tk).mode))])] ?_
 refine aG.cut (ι := Unit) (fr' := fun (_ : Unit) => (zl cb S tk ++ nW S tk ++ [(59, vP cb)])) (hp' := fun (_ : Unit) => [pO S.O L, pC cb { c with other := 3, mode := (obj S.O tk).mode, uid := 0, gid := 0, sec := 0, nano := 0, answer := (obj S.O tk).id }, .abs R]) [0] rfl rfl ?_ rfl (fun _ => by kernel_rfl) ?_
 ·refine gK 1 [(59, vP cb)] [] ?_
  refine NL ?_
  exact MD () [29, 30, 44, 48, 52, 59] [0, 1, 2]
 rintro _
 refine aG.cut (ι := Unit) (fr' := fun (_ : Unit) => (zl cb S tk ++ nW S tk ++ [(60, .pointer (some ⟨cb, 7, none⟩))])) (hp' := fun (_ : Unit) => [pO S.O L, pC cb { c with other := 3, mode := (obj S.O tk).mode, uid := 0, gid := 0, sec := 0, nano := 0, answer := (obj S.O tk).id }, .abs R]) [0] rfl rfl ?_ rfl (fun _ => by kernel_rfl) ?_
 ·refine gK 1 [(60, .pointer (some ⟨cb, 7, none⟩))] [] ?_
  refine NL ?_
  exact MD () [29, 30, 44, 48, 52, 60] [0, 1, 2]
 rintro _
 refine mC [0] [] [(0, a_ 1 cb)] [(1, [(7, vI ((obj S.O tk).uid))])] ?_
 refine aG.cut (ι := Unit) (fr' := fun (_ : Unit) => ([(30, vP cb)] ++ nW S tk ++ [(61, vP cb)])) (hp' := fun (_ : Unit) => [pO S.O L, NJ cb c S tk, .abs R]) [0] rfl rfl ?_ rfl (fun _ => by kernel_rfl) ?_
 ·refine gK 1 [(61, vP cb)] [] ?_
  refine NL ?_
  exact MD () [30, 48, 52, 61] [0, 1, 2]
 rintro _
 refine aG.cut (ι := Unit) (fr' := fun (_ : Unit) => ([(30, vP cb)] ++ nW S tk ++ [(62, .pointer (some ⟨cb, 8, none⟩))])) (hp' := fun (_ : Unit) => [pO S.O L, NJ cb c S tk, .abs R]) [0] rfl rfl ?_ rfl (fun _ => by kernel_rfl) ?_
 ·refine gK 1 [(62, .pointer (some ⟨cb, 8, none⟩))] [] ?_
  refine NL ?_
  exact MD () [30, 48, 52, 62] [0, 1, 2]
 rintro _
 refine mC [0] [] [(0, a_ 1 cb)] [(1, [(8, vI ((obj S.O tk).gid))])] ?_
 refine aG.cut (ι := Unit) (fr' := fun (_ : Unit) => [(52, .agg #[vI ((obj S.O tk).sec), vI ((obj S.O tk).nano)]), (63, vP cb)]) (hp' := fun (_ : Unit) => [pO S.O L, NK cb c S tk, .abs R]) [0] rfl rfl ?_ rfl (fun _ => by kernel_rfl) ?_
 ·refine gK 1 [(63, vP cb)] [] ?_
  refine NL ?_
  exact MD () [52, 63] [0, 1, 2]
 rintro _
 refine aG.cut (ι := Unit) (fr' := fun (_ : Unit) => (IC S tk cb)) (hp' := fun (_ : Unit) => [pO S.O L, NK cb c S tk, .abs R]) [0] rfl rfl ?_ rfl (fun _ => by kernel_rfl) ?_
 ·refine gK 1 [(64, .pointer (some ⟨cb, 9, none⟩))] [] ?_
  refine NL ?_
  exact MD () [52, 64] [0, 1, 2]
 rintro _
 refine aG.last rfl rfl ?_
 refine gC 1 [] [(0, A_ 1 cb 2)] [(1, (II S tk))] ?_
 refine NL (ai.np ?_)
 exact RF (.tuple #[]) [0, 1, 2] (⟨rfl, rfl⟩)
theorem ER {β : Bs} (S : aF) (L : HL) (f m t : Nat) (hI : Inv S) (cb : Nat) (c : aT) (hC : fB β c) :
    Spec Tryz.prog β 88 #[vP f, vP cb] ((pA f m t L S) ++ [pC cb c]) (fun v l => ∃ L2, v = vI (jv S c).1 ∧ l = ((pA f m t L2 ((jv S c).2.1)) ++ [.blk cb (fT ((jv S c).2.2)) 43])) := by
 have hX := hI.hX
 refine Spec.enter Tryz.func88 rfl Tryz.ntmps88 (Nat.le_of_ble_eq_true rfl) (fun R => ?_)
 refine af.seq ?_
 rcases hI.hand c.handle with cD | ⟨tk, cD, hlv⟩ | ⟨tk, cD, hlv⟩
 ·refine af.region ?_
  refine gK 1 [] [] ?_
  refine NN (af.seq ?_)
  refine af.bD (by kernel_rfl) (by kernel_rfl) ?_
  refine gQ 8 (IG t c) [(3, a_ 0 f), (7, a_ 6 cb)] ?_
  refine aS.call (f := 136) (args := #[vP t, vI (c.handle)]) (d := (some 16)) (pre := [jG t S L]) (R := (nX f m t S L cb c R)) (pk := [2, 0, 1, 3, 4, 5, 6, 7]) (gA := [1, 2, 0, 3, 4, 5, 6, 7]) (v0 := .tuple #[.nilIface, vI 131]) (fun _ => by kernel_rfl) (nJ t S.X.cH S.au (aI L S.us) c.handle hC.hw (mR cD)) rfl (by kernel_rfl) rfl (by kernel_rfl) (fun _ _ h => h) ?_
  refine gQ 5 [(5, .nilIface), (6, vI 131)] [] ?_
  refine NQ (NX (SR ?_))
  refine gK 2 [(19, vP cb), (20, .nilIface)] [] ?_
  refine gL [3, 6] (lp S L hI cb c none (.inl rfl)) ?_
  rintro _ _ ⟨rfl, rfl⟩
  refine NS ?_
  refine gK 2 [(4, vI 131)] [] ?_
  refine NN (af.ret ?_)
  exact RT (vI 131) [2, 3, 4, 0, 5, 6, 1, 7] (⟨L, by rw [show (jv S c) = (131, S, kY S.O c none) by unfold jv; rw [cD]] <;> exact ⟨rfl, rfl⟩⟩)
 ·have hkt : (obj S.O tk).kind = 1 := hI.kind hlv
  refine af.region ?_
  refine gK 1 [] [] ?_
  refine NN (af.seq ?_)
  refine af.bD (by kernel_rfl) (by kernel_rfl) ?_
  refine gQ 8 (IG t c) [(3, a_ 0 f), (7, a_ 6 cb)] ?_
  refine aS.call (f := 136) (args := #[vP t, vI (c.handle)]) (d := (some 16)) (pre := [jG t S L]) (R := (nX f m t S L cb c R)) (pk := [2, 0, 1, 3, 4, 5, 6, 7]) (gA := [1, 2, 0, 3, 4, 5, 6, 7]) (v0 := .tuple #[.iface 89 (vP (L.b tk)), vI 0]) (fun _ => by kernel_rfl) (ju t S.X.cH S.au (aI L S.us) c.handle hC.hw (cE L ⟨tk, 1⟩) (iT cD)) rfl (by kernel_rfl) rfl (by kernel_rfl) (fun _ _ h => h) ?_
  refine gQ 5 (EO L tk) [] ?_
  refine NQ (NX (SR ?_))
  refine gK 2 [(19, vP cb), (20, .iface 89 (vP (L.b tk)))] [] ?_
  refine gL [3, 6] (lp S L hI cb c (some ⟨tk, 1⟩) (.inr (.inl ⟨tk, rfl, hlv⟩))) ?_
  rintro _ _ ⟨rfl, rfl⟩
  refine NS ?_
  refine gK 2 [(4, vI 0)] [] ?_
  refine NN (af.ret ?_)
  exact RT (vI 0) [2, 3, 4, 0, 5, 6, 1, 7] (⟨L, by rw [show (jv S c) = (0, S, kY S.O c (some ⟨tk, 1⟩)) by unfold jv; rw [cD]] <;> exact ⟨rfl, rfl⟩⟩)
 have hkt : (obj S.O tk).kind = 2 := hI.kind hlv
 refine af.region ?_
 refine gK 1 [] [] ?_
 refine NN (af.seq ?_)
 refine af.bD (by kernel_rfl) (by kernel_rfl) ?_
 refine gQ 8 (IG t c) [(3, a_ 0 f), (7, a_ 6 cb)] ?_
 refine aS.call (f := 136) (args := #[vP t, vI (c.handle)]) (d := (some 16)) (pre := [jG t S L]) (R := (nX f m t S L cb c R)) (pk := [2, 0, 1, 3, 4, 5, 6, 7]) (gA := [1, 2, 0, 3, 4, 5, 6, 7]) (v0 := .tuple #[.iface 96 (vP (L.b tk)), vI 0]) (fun _ => by kernel_rfl) (ju t S.X.cH S.au (aI L S.us) c.handle hC.hw (cE L ⟨tk, 2⟩) (iT cD)) rfl (by kernel_rfl) rfl (by kernel_rfl) (fun _ _ h => h) ?_
 refine gQ 5 (EP L tk) [] ?_
 refine NQ (NX (SR ?_))
 refine gK 2 [(19, vP cb), (20, .iface 96 (vP (L.b tk)))] [] ?_
 refine gL [3, 6] (lp S L hI cb c (some ⟨tk, 2⟩) (.inr (.inr (.inl ⟨tk, rfl, hlv⟩)))) ?_
 rintro _ _ ⟨rfl, rfl⟩
 refine NS ?_
 refine gK 2 [(4, vI 0)] [] ?_
 refine NN (af.ret ?_)
 exact RT (vI 0) [2, 3, 4, 0, 5, 6, 1, 7] (⟨L, by rw [show (jv S c) = (0, S, kY S.O c (some ⟨tk, 2⟩)) by unfold jv; rw [cD]] <;> exact ⟨rfl, rfl⟩⟩)
theorem Cx {β : Bs} (S : aF) (L : HL) (f m t : Nat) (hI : Inv S) (cb : Nat) (c : aT) (hC : fB β c) :
    Spec Tryz.prog β 89 #[vP f, vP cb] ((pA f m t L S) ++ [pC cb c]) (fun v l => ∃ L2, v = vI (fw S c).1 ∧ l = ((pA f m t L2 ((fw S c).2.1)) ++ [.blk cb (fT ((fw S c).2.2)) 43])) := by
 have hX := hI.hX
 refine Spec.enter Tryz.func89 rfl Tryz.ntmps89 (Nat.le_of_ble_eq_true rfl) (fun R => ?_)
 refine SR ?_
 refine gK 1 [] [] ?_
 refine NS ?_
 refine gK 2 [(8, vP f), (9, vP cb)] [] ?_
 rcases xD hI.toInv0 c with ⟨e, hnm, hne⟩ | ⟨tk, hnm, hlv⟩ | ⟨tk, hnm, hlv⟩ | ⟨tk, hnm, hlv⟩
 ·refine gL (f := 133) (args := #[vP f, vP cb]) (pre := ((pA f m t L S) ++ [pC cb c])) [0, 1, 2, 3, 4, 5, 6] ((by have h := fP S L f m t hI cb c hC (β := β); rw [hnm] at h; exact h)) ?_
  rintro _ _ ⟨rfl, rfl⟩
  refine gK 5 [(5, .nilIface), (6, vI (e))] [] ?_
  refine NS ?_
  refine gK 2 [(13, vP cb), (14, .nilIface)] [] ?_
  refine gL [3, 6] (lp S L hI cb c none (.inl rfl)) ?_
  rintro _ _ ⟨rfl, rfl⟩
  refine NS ?_
  refine gK 2 [(4, vI (e))] [] ?_
  refine NN (af.ret ?_)
  exact RT (vI (e)) [2, 3, 4, 0, 5, 6, 1, 7] (⟨L, by rw [show (fw S c) = (e, S, kY S.O c none) by unfold fw; rw [hnm]] <;> exact ⟨rfl, rfl⟩⟩)
 ·have hkt : (obj S.O tk).kind = 1 := hI.kind hlv
  refine gL (f := 133) (args := #[vP f, vP cb]) (pre := ((pA f m t L S) ++ [pC cb c])) [0, 1, 2, 3, 4, 5, 6] ((by have h := fP S L f m t hI cb c hC (β := β); rw [hnm] at h; exact h)) ?_
  rintro _ _ ⟨rfl, rfl⟩
  refine gK 5 (EO L tk) [] ?_
  refine NS ?_
  refine gK 2 [(13, vP cb), (14, .iface 89 (vP (L.b tk)))] [] ?_
  refine gL [3, 6] (lp S L hI cb c (some ⟨tk, 1⟩) (.inr (.inl ⟨tk, rfl, hlv⟩))) ?_
  rintro _ _ ⟨rfl, rfl⟩
  refine NS ?_
  refine gK 2 [(4, vI 0)] [] ?_
  refine NN (af.ret ?_)
  exact RT (vI 0) [2, 3, 4, 0, 5, 6, 1, 7] (⟨L, by rw [show (fw S c) = (0, S, kY S.O c (some ⟨tk, 1⟩)) by unfold fw; rw [hnm]] <;> exact ⟨rfl, rfl⟩⟩)
 ·have hkt : (obj S.O tk).kind = 2 := hI.kind hlv
  refine gL (f := 133) (args := #[vP f, vP cb]) (pre := ((pA f m t L S) ++ [pC cb c])) [0, 1, 2, 3, 4, 5, 6] ((by have h := fP S L f m t hI cb c hC (β := β); rw [hnm] at h; exact h)) ?_
  rintro _ _ ⟨rfl, rfl⟩
  refine gK 5 (EP L tk) [] ?_
  refine NS ?_
  refine gK 2 [(13, vP cb), (14, .iface 96 (vP (L.b tk)))] [] ?_
  refine gL [3, 6] (lp S L hI cb c (some ⟨tk, 2⟩) (.inr (.inr (.inl ⟨tk, rfl, hlv⟩)))) ?_
  rintro _ _ ⟨rfl, rfl⟩
  refine NS ?_
  refine gK 2 [(4, vI 0)] [] ?_
  refine NN (af.ret ?_)
  exact RT (vI 0) [2, 3, 4, 0, 5, 6, 1, 7] (⟨L, by rw [show (fw S c) = (0, S, kY S.O c (some ⟨tk, 2⟩)) by unfold fw; rw [hnm]] <;> exact ⟨rfl, rfl⟩⟩)
 have hkt : (obj S.O tk).kind = 3 := hI.kind hlv
 refine gL (f := 133) (args := #[vP f, vP cb]) (pre := ((pA f m t L S) ++ [pC cb c])) [0, 1, 2, 3, 4, 5, 6] ((by have h := fP S L f m t hI cb c hC (β := β); rw [hnm] at h; exact h)) ?_
 rintro _ _ ⟨rfl, rfl⟩
 refine gK 5 [(5, .iface 93 (vP (L.b tk))), (6, vI 0)] [] ?_
 refine NS ?_
 refine gK 2 [(13, vP cb), (14, .iface 93 (vP (L.b tk)))] [] ?_
 refine gL [3, 6] (lp S L hI cb c (some ⟨tk, 3⟩) (.inr (.inr (.inr ⟨tk, rfl, hlv⟩)))) ?_
 rintro _ _ ⟨rfl, rfl⟩
 refine NS ?_
 refine gK 2 [(4, vI 0)] [] ?_
 refine NN (af.ret ?_)
 exact RT (vI 0) [2, 3, 4, 0, 5, 6, 1, 7] (⟨L, by rw [show (fw S c) = (0, S, kY S.O c (some ⟨tk, 3⟩)) by unfold fw; rw [hnm]] <;> exact ⟨rfl, rfl⟩⟩)
theorem Dk {β : Bs} (S : aF) (L : HL) (f m t : Nat) (hI : Inv S) (cb : Nat) (c : aT) (hC : fB β c) :
    Spec Tryz.prog β 90 #[vP f, vP cb] ((pA f m t L S) ++ [pC cb c]) (fun v l => ∃ L2, v = vI (ij S c).1 ∧ l = ((pA f m t L2 ((ij S c).2.1)) ++ [.blk cb (fT ((ij S c).2.2)) 43])) := by
 have hX := hI.hX
 refine Spec.enter Tryz.func90 rfl Tryz.ntmps90 (Nat.le_of_ble_eq_true rfl) (fun R => ?_)
 refine af.seq ?_
 rcases hI.hand c.handle with cD | ⟨tk, cD, hlv⟩ | ⟨tk, cD, hlv⟩
 ·refine af.region ?_
  refine gK 1 [] [] ?_
  refine NN (af.seq ?_)
  refine af.kG (S := [pF f m t S.X, pC cb c]) [(true, 0), (true, 1), (true, 2), (true, 3), (true, 4), (true, 5), (true, 6), (true, 7), (false, 8), (true, 9), (true, 10), (true, 11), (true, 12), (false, 13)] [0, 6] (by kernel_rfl) (by kernel_rfl) rfl (by kernel_rfl) ?_
  refine dO.reads (l := [(false, 8), (true, 9), (true, 10), (true, 11), (true, 12), (false, 13)]) (fr' := [(0, vP f), (11, vP t), (15, vI (c.handle))]) (aU := [cb = cb, f = f]) [0, 1, 2, 3, 4, 5, 6, 7] [o_, o_, o_, ⟨[.at 0], none, none, none, none⟩, o_, o_, o_, ⟨[.at 1], none, none, none, none⟩] [0, 11, 15] (fun _ => by kernel_rfl) ⟨rfl, rfl, trivial⟩ rfl ?_
  refine dO.cut (ι := Unit) (fr' := fun (_ : Unit) => [(0, vP f), (16, .tuple #[.nilIface, vI 131])]) (hp' := fun (_ : Unit) => ([jG t S L] ++ nX f m t S L cb c R)) [1, 6] (by kernel_rfl) ?_ rfl (fun _ => by kernel_rfl) ?_
  ·refine gL [2] (C6 t S.X.cH S.au (aI L S.us) c.handle hC.hw (mR cD)) ?_
   rintro _ _ ⟨rfl, rfl⟩
   refine NL ?_
   exact MD () [0, 16] [0, 1, 2, 3, 4, 5, 6, 7]
  rintro _
  refine dO.reads (l := [(false, 13)]) (fr' := [(0, vP f), (5, .nilIface), (18, vI 131)]) (aU := []) [9, 10, 11, 12] [o_, o_, o_, o_] [0, 5, 18] (fun _ => by kernel_rfl) trivial rfl ?_
  refine dO.last (by kernel_rfl) ?_
  refine gK 1 [(6, vI 131)] [] ?_
  refine NL (ai.np (NX (af.seq (SR ?_))))
  refine gK 2 [(20, .bool true)] [] ?_
  refine NN ?_
  refine CT ?_
  refine SR ?_
  refine gK 2 [(4, vI 131)] [] ?_
  refine NN (af.ret (ai.aq ?_))
  exact RT (vI 131) [1, 2, 0, 3, 4, 5, 6, 7] (⟨L, by rw [show (ij S c) = (131, S, c) by unfold ij; rw [cD]] <;> exact ⟨rfl, rfl⟩⟩)
 ·have hkt : (obj S.O tk).kind = 1 := hI.kind hlv
  have hid := hI.ob _ hlv
  have mX := hI.FZ hlv
  have hdl := hI.BW hlv
  have hop : 0 < (obj S.O tk).opens ∧ (obj S.O tk).opens ≤ 1024 := ⟨by have h1 := hI.opens _ hlv; have h2 := DM cD; simp only at h1 h2; omega, (hI.Aa hlv).2⟩
  refine af.region ?_
  refine gK 1 [] [] ?_
  refine NN (af.seq ?_)
  refine af.kG (S := [pF f m t S.X, pC cb c]) [(true, 0), (true, 1), (true, 2), (true, 3), (true, 4), (true, 5), (true, 6), (true, 7), (false, 8), (true, 9), (true, 10), (true, 11), (true, 12), (false, 13)] [0, 6] (by kernel_rfl) (by kernel_rfl) rfl (by kernel_rfl) ?_
  refine dO.reads (l := [(false, 8), (true, 9), (true, 10), (true, 11), (true, 12), (false, 13)]) (fr' := [(0, vP f), (11, vP t), (15, vI (c.handle))]) (aU := [cb = cb, f = f]) [0, 1, 2, 3, 4, 5, 6, 7] [o_, o_, o_, ⟨[.at 0], none, none, none, none⟩, o_, o_, o_, ⟨[.at 1], none, none, none, none⟩] [0, 11, 15] (fun _ => by kernel_rfl) ⟨rfl, rfl, trivial⟩ rfl ?_
  refine dO.cut (ι := Unit) (fr' := fun (_ : Unit) => [(0, vP f), (16, .tuple #[.iface 89 (vP (L.b tk)), vI 0])]) (hp' := fun (_ : Unit) => ([pT t S.X.cH S.au L (del c.handle S.us)] ++ nX f m t S L cb c R)) [1, 6] (by kernel_rfl) ?_ rfl (fun _ => by kernel_rfl) ?_
  ·refine gL (f := 138) (args := #[vP t, vI (c.handle)]) (pre := [jG t S L]) [2] ((by have h := zZ (β := β) t S.X.cH S.au (aI L S.us) c.handle hC.hw (cE L ⟨tk, 1⟩) (iT cD); rw [← Cd] at h; exact h)) ?_
   rintro _ _ ⟨rfl, rfl⟩
   refine NL ?_
   exact MD () [0, 16] [0, 1, 2, 3, 4, 5, 6, 7]
  rintro _
  refine dO.reads (l := [(false, 13)]) (fr' := [(0, vP f), (5, .iface 89 (vP (L.b tk))), (18, vI 0)]) (aU := []) [9, 10, 11, 12] [o_, o_, o_, o_] [0, 5, 18] (fun _ => by kernel_rfl) trivial rfl ?_
  refine dO.last (by kernel_rfl) ?_
  refine gK 1 [(6, vI 0)] [] ?_
  refine NL (ai.np (NX (af.seq (SR ?_))))
  refine gK 2 [(20, .bool false)] [] ?_
  refine NN ?_
  refine CF ?_
  refine af.skip (NX (SR ?_))
  refine gK 1 [(22, .iface 89 (vP (L.b tk)))] [] ?_
  refine gL [] (ck (L.b tk)) ?_
  rintro _ _ ⟨rfl, rfl⟩
  refine gK 6 [(27, vI ((obj S.O tk).opens - 1)), (29, .pointer (some ⟨(L.b tk), 7, none⟩))] [(2, v_ 3 (iG L hkt)), (3, p_ ⟨[], none, none, none, some (vI ((obj S.O tk).opens - 1))⟩ [(Value.int .i64 (IntKind.wrap .i64 ((obj S.O tk).opens - 1))) = (.int .i64 ((obj S.O tk).opens - 1))] ⟨bH (by omega) (by omega) (by omega), trivial⟩)] ?_
  refine pH 3 [(5, 1), (4, 2)] tk 7 (fun o => { o with opens := o.opens - 1 }) hkt (fun bI bN => ?_)
  have iE := ku bN hkt
  have hf2 : (obj bI tk).id = (obj S.O tk).id := fu aO.id bN rfl
  have hf3 : (obj bI tk).data = (obj S.O tk).data := fu aO.data bN rfl
  refine NS ?_
  have IJ : (obj bI tk).opens = (obj S.O tk).opens - 1 := by rw [bN]; exact congrArg aO.opens bF
  refine gK 2 [(30, vP f), (31, .iface 89 (vP (L.b tk)))] [] ?_
  refine gL [3, 1, 2] (nO S.X f m t hX bI L S.idx hI.rise ⟨tk, 1⟩ iE (by simp) (by rw [IJ]; omega) (fun _ => by rw [hf2, hid.1]; exact hlv) (by rw [hf2]; exact mX) (by rw [hf3]; exact hdl)) ?_
  rintro _ _ ⟨rfl, rfl⟩
  refine NS ?_
  refine gK 1 [(4, vI 0)] [] ?_
  refine NN (af.ret ?_)
  exact RT (l := [pF f m t { S.X with used := iK bI S.X.used ⟨tk, 1⟩ }, pI m L (iq bI S.idx ⟨tk, 1⟩), pT t S.X.cH S.au L (del c.handle S.us), pO bI L, pD bI L, pE bI L, pC cb c]) (.int .i64 0) [1, 2, 3, 0, 4, 5, 6, 7] (⟨L, by subst bN; rw [show ij S c = (0, _, c) by unfold ij; rw [cD]]; exact ⟨rfl, rfl⟩⟩)
 have hkt : (obj S.O tk).kind = 2 := hI.kind hlv
 have hid := hI.ob _ hlv
 have mX := hI.FZ hlv
 have hdl := hI.BW hlv
 have hop : 0 < (obj S.O tk).opens ∧ (obj S.O tk).opens ≤ 1024 := ⟨by have h1 := hI.opens _ hlv; have h2 := DM cD; simp only at h1 h2; omega, (hI.Aa hlv).2⟩
 refine af.region ?_
 refine gK 1 [] [] ?_
 refine NN (af.seq ?_)
 refine af.kG (S := [pF f m t S.X, pC cb c]) [(true, 0), (true, 1), (true, 2), (true, 3), (true, 4), (true, 5), (true, 6), (true, 7), (false, 8), (true, 9), (true, 10), (true, 11), (true, 12), (false, 13)] [0, 6] (by kernel_rfl) (by kernel_rfl) rfl (by kernel_rfl) ?_
 refine dO.reads (l := [(false, 8), (true, 9), (true, 10), (true, 11), (true, 12), (false, 13)]) (fr' := [(0, vP f), (11, vP t), (15, vI (c.handle))]) (aU := [cb = cb, f = f]) [0, 1, 2, 3, 4, 5, 6, 7] [o_, o_, o_, ⟨[.at 0], none, none, none, none⟩, o_, o_, o_, ⟨[.at 1], none, none, none, none⟩] [0, 11, 15] (fun _ => by kernel_rfl) ⟨rfl, rfl, trivial⟩ rfl ?_
 refine dO.cut (ι := Unit) (fr' := fun (_ : Unit) => [(0, vP f), (16, .tuple #[.iface 96 (vP (L.b tk)), vI 0])]) (hp' := fun (_ : Unit) => ([pT t S.X.cH S.au L (del c.handle S.us)] ++ nX f m t S L cb c R)) [1, 6] (by kernel_rfl) ?_ rfl (fun _ => by kernel_rfl) ?_
 ·refine gL (f := 138) (args := #[vP t, vI (c.handle)]) (pre := [jG t S L]) [2] ((by have h := zZ (β := β) t S.X.cH S.au (aI L S.us) c.handle hC.hw (cE L ⟨tk, 2⟩) (iT cD); rw [← Cd] at h; exact h)) ?_
  rintro _ _ ⟨rfl, rfl⟩
  refine NL ?_
  exact MD () [0, 16] [0, 1, 2, 3, 4, 5, 6, 7]
 rintro _
 refine dO.reads (l := [(false, 13)]) (fr' := [(0, vP f), (5, .iface 96 (vP (L.b tk))), (18, vI 0)]) (aU := []) [9, 10, 11, 12] [o_, o_, o_, o_] [0, 5, 18] (fun _ => by kernel_rfl) trivial rfl ?_
 refine dO.last (by kernel_rfl) ?_
 refine gK 1 [(6, vI 0)] [] ?_
 refine NL (ai.np (NX (af.seq (SR ?_))))
 refine gK 2 [(20, .bool false)] [] ?_
 refine NN ?_
 refine CF ?_
 refine af.skip (NX (SR ?_))
 refine gK 1 [(22, .iface 96 (vP (L.b tk)))] [] ?_
 refine gL [] (ck (L.b tk)) ?_
 rintro _ _ ⟨rfl, rfl⟩
 refine gK 6 [(27, vI ((obj S.O tk).opens - 1)), (29, .pointer (some ⟨(L.b tk), 7, none⟩))] [(2, v_ 3 (iG L hkt)), (3, p_ ⟨[], none, none, none, some (vI ((obj S.O tk).opens - 1))⟩ [(Value.int .i64 (IntKind.wrap .i64 ((obj S.O tk).opens - 1))) = (.int .i64 ((obj S.O tk).opens - 1))] ⟨bH (by omega) (by omega) (by omega), trivial⟩)] ?_
 refine pH 3 [(5, 1), (4, 2)] tk 7 (fun o => { o with opens := o.opens - 1 }) hkt (fun bI bN => ?_)
 have tZ := ku bN hkt
 have Gp : (obj bI tk).id = (obj S.O tk).id := fu aO.id bN rfl
 have LJ : (obj bI tk).data = (obj S.O tk).data := fu aO.data bN rfl
 refine NS ?_
 have IJ : (obj bI tk).opens = (obj S.O tk).opens - 1 := by rw [bN]; exact congrArg aO.opens bF
 refine gK 2 [(30, vP f), (31, .iface 96 (vP (L.b tk)))] [] ?_
 refine gL [3, 1, 2] (nO S.X f m t hX bI L S.idx hI.rise ⟨tk, 2⟩ tZ (by simp) (by rw [IJ]; omega) (fun _ => by rw [Gp, hid.1]; exact hlv) (by rw [Gp]; exact mX) (by rw [LJ]; exact hdl)) ?_
 rintro _ _ ⟨rfl, rfl⟩
 refine NS ?_
 refine gK 1 [(4, vI 0)] [] ?_
 refine NN (af.ret ?_)
 exact RT (l := [pF f m t { S.X with used := iK bI S.X.used ⟨tk, 2⟩ }, pI m L (iq bI S.idx ⟨tk, 2⟩), pT t S.X.cH S.au L (del c.handle S.us), pO bI L, pD bI L, pE bI L, pC cb c]) (.int .i64 0) [1, 2, 3, 0, 4, 5, 6, 7] (⟨L, by subst bN; rw [show ij S c = (0, _, c) by unfold ij; rw [cD]]; exact ⟨rfl, rfl⟩⟩)
end
section
open Go.RowKit Go.Maps HeapM TabM
attribute [local irreducible] aj aS af ai
abbrev Po (S : aF) (L : HL) (tk : Nat) := (.abs (ak (iB (aN S.O L) tk bP.none)) : HP)
abbrev JO (L : HL) (tk : Nat) (S : aF) (c : aT) := (.blk (L.b tk) [vI ((obj S.O tk).id), vI (c.mode), vI ((obj S.O tk).uid), vI ((obj S.O tk).gid), vI ((obj S.O tk).sec), vI ((obj S.O tk).nano), vI ((obj S.O tk).links), vI ((obj S.O tk).opens), .bool (obj S.O tk).gone, .slice (L.dA tk) ((obj S.O tk).data.length) ((L.dC tk))] 92 : HP)
abbrev JQ (L : HL) (tk : Nat) (S : aF) (c : aT) := (.blk (L.b tk) [vI ((obj S.O tk).id), vI (c.mode), vI (c.uid), vI ((obj S.O tk).gid), vI ((obj S.O tk).sec), vI ((obj S.O tk).nano), vI ((obj S.O tk).links), vI ((obj S.O tk).opens), .bool (obj S.O tk).gone, .slice (L.dA tk) ((obj S.O tk).data.length) ((L.dC tk))] 92 : HP)
abbrev JR (L : HL) (tk : Nat) (S : aF) (c : aT) := (.blk (L.b tk) [vI ((obj S.O tk).id), vI (c.mode), vI (c.uid), vI (c.gid), vI ((obj S.O tk).sec), vI ((obj S.O tk).nano), vI ((obj S.O tk).links), vI ((obj S.O tk).opens), .bool (obj S.O tk).gone, .slice (L.dA tk) ((obj S.O tk).data.length) ((L.dC tk))] 92 : HP)
abbrev NM (L : HL) (tk : Nat) (S : aF) (c : aT) := (.blk (L.b tk) [vI ((obj S.O tk).id), vI (c.mode), vI ((obj S.O tk).uid), vI ((obj S.O tk).gid), vI ((obj S.O tk).sec), vI ((obj S.O tk).nano), vI ((obj S.O tk).links), vI ((obj S.O tk).opens), .bool (obj S.O tk).gone, .map (some (L.m tk)), (qi L (obj S.O tk).up)] 99 : HP)
abbrev NR (L : HL) (tk : Nat) (S : aF) (c : aT) := (.blk (L.b tk) [vI ((obj S.O tk).id), vI (c.mode), vI (c.uid), vI ((obj S.O tk).gid), vI ((obj S.O tk).sec), vI ((obj S.O tk).nano), vI ((obj S.O tk).links), vI ((obj S.O tk).opens), .bool (obj S.O tk).gone, .map (some (L.m tk)), (qi L (obj S.O tk).up)] 99 : HP)
abbrev NT (L : HL) (tk : Nat) (S : aF) (c : aT) := (.blk (L.b tk) [vI ((obj S.O tk).id), vI (c.mode), vI (c.uid), vI (c.gid), vI ((obj S.O tk).sec), vI ((obj S.O tk).nano), vI ((obj S.O tk).links), vI ((obj S.O tk).opens), .bool (obj S.O tk).gone, .map (some (L.m tk)), (qi L (obj S.O tk).up)] 99 : HP)
abbrev LV (S : aF) (c : aT) (L2 : HL) := (pO (ay S.O (aC S.X) (fun _ => (⟨0, c.mode, 0, 0, 0, 0, 0, 0, false, 1, [], ⟨#[]⟩, [], none⟩ : aO))) L2 : HP)
abbrev Pp (S : aF) (c : aT) (L2 : HL) := (pE (ay S.O (aC S.X) (fun _ => (⟨0, c.mode, 0, 0, 0, 0, 0, 0, false, 1, [], ⟨#[]⟩, [], none⟩ : aO))) L2 : HP)
abbrev LW (S : aF) (c : aT) (L2 : HL) := (pD (ay S.O (aC S.X) (fun _ => (⟨0, c.mode, 0, 0, 0, 0, 0, 0, false, 1, [], ⟨#[]⟩, [], none⟩ : aO))) L2 : HP)
abbrev jN (f : Nat) (m : Nat) (t) (S : aF) (L : HL) (tk : Nat) (cb : Nat) (c) (R : bP) := ([pF f m t S.X, pI m L S.idx, jG t S L, Po S L tk, pD S.O L, pE S.O L, pC cb c, .abs R] : List HP)
abbrev lq (c : aT) := ([(79, vI (c.gid)), (83, .agg #[vI (c.sec), vI (c.nano)])] : Fr)
abbrev zm (L : HL) (tk : Nat) (c : aT) := ([(66, vP (L.b tk)), (67, vP (L.b tk)), (75, vI (c.uid))] : Fr)
abbrev IK (L : HL) (tk : Nat) (c : aT) := ([(65, vP (L.b tk)), (66, vP (L.b tk)), (67, vP (L.b tk)), (71, vI (c.mode)), (75, vI (c.uid))] : Fr)
abbrev zn (S : aF) (c) (L2 : HL) (f : Nat) (m : Nat) (t) (L : HL) := ([LV S c L2, pF f m t S.X, pI m L S.idx, Pp S c L2, jG t S L] : List HP)
abbrev IL (c : aT) (L : HL) (tk : Nat) := ([(83, .agg #[vI (c.sec), vI (c.nano)]), (91, .pointer (some ⟨(L.b tk), 4, none⟩))] : Fr)
abbrev IQ (t) (c : aT) := ([(12, vP t), (16, vI (c.handle))] : Fr)
abbrev LX (cb : Nat) (f : Nat) (b4 : Nat) := ([(49, vP cb), (50, vP f), (52, .iface 89 (vP b4))] : Fr)
theorem AB {β : Bs} (S : aF) (L : HL) (f m t : Nat) (hI : Inv S) (cb : Nat) (c : aT) (hC : fB β c) :
    Spec Tryz.prog β 87 #[vP f, vP cb] ((pA f m t L S) ++ [pC cb c]) (fun v l => ∃ L2, v = vI (bE S c).1 ∧ l = ((pA f m t L2 ((bE S c).2.1)) ++ [.blk cb (fT ((bE S c).2.2)) 43])) := by
 have hX := hI.hX
 refine Spec.enter Tryz.func87 rfl Tryz.ntmps87 (Nat.le_of_ble_eq_true rfl) (fun R => ?_)
 refine af.seq ?_
 rcases hI.hand c.handle with cD | ⟨tk, cD, hlv⟩ | ⟨tk, cD, hlv⟩
 ·refine af.region ?_
  refine gK 1 [] [] ?_
  refine NN (af.seq ?_)
  refine af.bD (by kernel_rfl) (by kernel_rfl) ?_
  refine gQ 8 (IQ t c) [(3, a_ 0 f), (7, a_ 6 cb)] ?_
  refine aS.call (f := 136) (args := #[vP t, vI (c.handle)]) (d := (some 17)) (pre := [jG t S L]) (R := (nX f m t S L cb c R)) (pk := [2, 0, 1, 3, 4, 5, 6, 7]) (gA := [1, 2, 0, 3, 4, 5, 6, 7]) (v0 := .tuple #[.nilIface, vI 131]) (fun _ => by kernel_rfl) (nJ t S.X.cH S.au (aI L S.us) c.handle hC.hw (mR cD)) rfl (by kernel_rfl) rfl (by kernel_rfl) (fun _ _ h => h) ?_
  refine gQ 5 [(5, .nilIface), (6, vI 131)] [] ?_
  refine NQ (NX (af.seq (SR ?_)))
  refine gK 2 [(21, .bool true)] [] ?_
  refine NN ?_
  refine CT ?_
  refine SR ?_
  refine gK 2 [(4, vI 131)] [] ?_
  refine NN (af.ret (ai.aq ?_))
  exact RT (vI 131) [0, 1, 2, 3, 4, 5, 6, 7] (⟨L, by rw [show (bE S c) = (131, S, c) by unfold bE; rw [cD]] <;> exact ⟨rfl, rfl⟩⟩)
 ·have hkt : (obj S.O tk).kind = 1 := hI.kind hlv
  refine af.region ?_
  refine gK 1 [] [] ?_
  refine NN (af.seq ?_)
  refine af.bD (by kernel_rfl) (by kernel_rfl) ?_
  refine gQ 8 (IQ t c) [(3, a_ 0 f), (7, a_ 6 cb)] ?_
  refine aS.call (f := 136) (args := #[vP t, vI (c.handle)]) (d := (some 17)) (pre := [jG t S L]) (R := (nX f m t S L cb c R)) (pk := [2, 0, 1, 3, 4, 5, 6, 7]) (gA := [1, 2, 0, 3, 4, 5, 6, 7]) (v0 := .tuple #[.iface 89 (vP (L.b tk)), vI 0]) (fun _ => by kernel_rfl) (ju t S.X.cH S.au (aI L S.us) c.handle hC.hw (cE L ⟨tk, 1⟩) (iT cD)) rfl (by kernel_rfl) rfl (by kernel_rfl) (fun _ _ h => h) ?_
  refine gQ 5 (EO L tk) [] ?_
  refine NQ (NX (af.seq (SR ?_)))
  refine gK 2 [(21, .bool false)] [] ?_
  refine NN ?_
  refine CF ?_
  refine af.skip (NX (SR ?_))
  refine gK 1 [(23, .iface 89 (vP (L.b tk)))] [] ?_
  refine gL [] (ck (L.b tk)) ?_
  rintro _ _ ⟨rfl, rfl⟩
  refine gK 1 [(7, vP (L.b tk))] [] ?_
  refine NN (af.seq (af.block (SR ?_)))
  refine gK 5 [(30, .bool (obj S.O tk).gone)] [(3, v_ 3 (kO L hkt))] ?_
  refine aj.kU 30 (obj S.O tk).gone (fun _ => by kernel_rfl) (fun kf => ?_) (fun kf => ?_)
  ·refine gK 1 [(31, .iface 89 (vP (L.b tk)))] [] ?_
   refine gL [] (jw (vP (L.b tk))) ?_
   rintro _ _ ⟨rfl, rfl⟩
   refine gK 3 [(25, .bool false)] [] ?_
   refine NN ?_
   refine CF ?_
   refine SR ?_
   refine gK 4 [(39, vI (c.mode))] [(3, a_ 6 cb)] ?_
   refine gL [] (dX (c.mode) 4095) ?_
   rintro _ _ ⟨rfl, rfl⟩
   refine gK 2 [(35, .bool (!(decide (0 ≤ c.mode ∧ c.mode ≤ 4095))))] [] ?_
   refine NN ?_
   refine af.cq (p := 0 ≤ c.mode ∧ c.mode ≤ 4095) (fun _ => by kernel_rfl) (fun jT => ?_) (fun jT => ?_)
   ·refine SR ?_
    refine gK 1 [(4, vI 120)] [] ?_
    refine NN (af.ret (ai.aD (ai.aq ?_)))
    exact RT (vI 120) [0, 1, 2, 3, 4, 5, 6, 7] (⟨L, by rw [show (bE S c) = (120, S, c) by unfold bE; rw [cD]; exact (if_neg (fun h => absurd h.2 (by simp))).trans (if_neg jT)] <;> exact ⟨rfl, rfl⟩⟩)
   refine SR ?_
   refine gK 4 [(46, vI (c.uid))] [(3, a_ 6 cb)] ?_
   refine gL [] (dX (c.uid) 2147483647) ?_
   rintro _ _ ⟨rfl, rfl⟩
   refine gK 2 [(49, .bool (!(decide (0 ≤ c.uid ∧ c.uid ≤ 2147483647))))] [] ?_
   refine aj.fF 49 (0 ≤ c.uid ∧ c.uid ≤ 2147483647) (fun _ => by kernel_rfl) (fun qz => ?_) (fun qz => ?_)
   ·refine gK 8 [(42, .bool true)] [] ?_
    refine NN ?_
    refine CT ?_
    refine SR ?_
    refine gK 1 [(4, vI 11)] [] ?_
    refine NN (af.ret (ai.aD (ai.aq ?_)))
    exact RT (vI 11) [0, 1, 2, 3, 4, 5, 6, 7] (⟨L, by rw [show (bE S c) = (11, S, c) by unfold bE; rw [cD]; exact (if_neg (fun h => absurd h.2 (by simp))).trans ((if_pos jT).trans (if_neg (fun h => qz h.1)))] <;> exact ⟨rfl, rfl⟩⟩)
   refine gK 4 [(53, vI (c.gid))] [(3, a_ 6 cb)] ?_
   refine gL [] (dX (c.gid) 2147483647) ?_
   rintro _ _ ⟨rfl, rfl⟩
   refine gK 3 [(42, .bool (!(decide (0 ≤ c.gid ∧ c.gid ≤ 2147483647))))] [] ?_
   refine NN ?_
   refine af.cq (p := 0 ≤ c.gid ∧ c.gid ≤ 2147483647) (fun _ => by kernel_rfl) (fun qA => ?_) (fun qA => ?_)
   ·refine SR ?_
    refine gK 1 [(4, vI 11)] [] ?_
    refine NN (af.ret (ai.aD (ai.aq ?_)))
    exact RT (vI 11) [0, 1, 2, 3, 4, 5, 6, 7] (⟨L, by rw [show (bE S c) = (11, S, c) by unfold bE; rw [cD]; exact (if_neg (fun h => absurd h.2 (by simp))).trans ((if_pos jT).trans (if_neg (fun h => qA h.2)))] <;> exact ⟨rfl, rfl⟩⟩)
   refine SR ?_
   refine gK 4 [(61, .agg #[vI (c.sec), vI (c.nano)])] [(3, A_ 6 cb 2)] ?_
   refine gL [] (fM c.sec c.nano) ?_
   rintro _ _ ⟨rfl, rfl⟩
   refine gK 2 [(57, .bool (!(decide (cP c.sec c.nano))))] [] ?_
   refine NN ?_
   refine af.cq (p := cP c.sec c.nano) (fun _ => by kernel_rfl) (fun um => ?_) (fun um => ?_)
   ·refine SR ?_
    refine gK 1 [(4, vI 20)] [] ?_
    refine NN (af.ret (ai.aD (ai.aq ?_)))
    exact RT (vI 20) [0, 1, 2, 3, 4, 5, 6, 7] (⟨L, by rw [show (bE S c) = (20, S, c) by unfold bE; rw [cD]; exact (if_neg (fun h => absurd h.2 (by simp))).trans ((if_pos jT).trans ((if_pos ⟨qz, qA⟩).trans (if_neg um)))] <;> exact ⟨rfl, rfl⟩⟩)
   refine af.skip (ai.aP (NX (af.seq ?_)))
   skip
   refine af.mem (aQ := [.blk f [vI (S.X.cN), vI (S.X.cB), vI (S.X.cH), vI (S.X.cS), vI (S.X.cZ), .map (some m), vP t, vI (S.X.last), vI (S.X.ah), vI (S.X.used)] 86, .abs (aH Tryz.prog 3 m (aM (aI L S.idx)) S.idx.length), .abs (aY 156 t S.X.cH S.au (aI L S.us)), .abs (ak (iB (aN S.O L) tk bP.none)), .abs (ak (aV S.O L)), .abs (ak (bg S.O L)), .blk cb [vI (c.op), vI (c.handle), vI (c.other), .string c.name, .string c.text, .slice c.dA (c.data.length) (c.dC), vI (c.mode), vI (c.uid), vI (c.gid), vI (c.sec), vI (c.nano), vI (c.code), vI (c.answer)] 43, .abs R, .blk (L.b tk) [vI ((obj S.O tk).id), vI ((obj S.O tk).mode), vI ((obj S.O tk).uid), vI ((obj S.O tk).gid), vI ((obj S.O tk).sec), vI ((obj S.O tk).nano), vI ((obj S.O tk).links), vI ((obj S.O tk).opens), .bool (obj S.O tk).gone, .slice (L.dA tk) ((obj S.O tk).data.length) ((L.dC tk))] 92]) (fun w hS => hS.tL (i := 3) (k := tk) rfl (by rw [hkt]; decide) (ef (hkt)) (by rw [hkt]; rfl)) ?_
   refine af.bY (S := [pC cb c]) [0, 1, 2, 3, 4, 5, 6, 7, 8, 9, 10, 11, 12, 13, 14, 15, 16, 17, 18, 19, 20, 21, 22, 23, 24, 25, 26, 27, 28, 29, 30, 31] 22 [6] (by kernel_rfl) (by kernel_rfl) rfl (by kernel_rfl) ?_
   refine aG.reads (r := 0) (l := [22, 23, 24, 25, 26, 27, 28, 29, 30, 31]) (fr' := (IK L tk c ++ lq c ++ [(85, .pointer (some ⟨(L.b tk), 1, none⟩))])) (aU := [cb = cb, cb = cb, cb = cb, cb = cb, cb = cb]) [0, 1, 2, 3, 4, 5, 6, 7, 8, 9, 10, 11, 12, 13, 14, 15, 16, 17, 18, 19, 20, 21] [o_, o_, o_, o_, o_, o_, o_, ⟨[.at 0], none, none, none, none⟩, o_, o_, o_, ⟨[.at 0], none, none, none, none⟩, o_, o_, o_, ⟨[.at 0], none, none, none, none⟩, o_, o_, o_, ⟨[.at 0, .at 0], none, none, none, none⟩, o_, o_] [65, 66, 67, 71, 75, 79, 83, 85] (fun _ => by kernel_rfl) ⟨rfl, rfl, rfl, rfl, rfl, trivial⟩ rfl rfl ?_
   refine mC [6] [] [(0, a_ 8 (L.b tk))] [(8, [(1, vI (c.mode))])] ?_
   refine aG.cut (ι := Unit) (fr' := fun (_ : Unit) => (zm L tk c ++ lq c ++ [(86, vP (L.b tk))])) (hp' := fun (_ : Unit) => (jN f m t S L tk cb c R ++ [JO L tk S c])) [6] rfl rfl ?_ rfl (fun _ => by kernel_rfl) ?_
   ·refine gK 1 [(86, vP (L.b tk))] [] ?_
    refine NL ?_
    exact MD () [66, 67, 75, 79, 83, 86] [0, 1, 2, 3, 4, 5, 6, 7, 8]
   rintro _
   refine aG.cut (ι := Unit) (fr' := fun (_ : Unit) => (zm L tk c ++ lq c ++ [(87, .pointer (some ⟨(L.b tk), 2, none⟩))])) (hp' := fun (_ : Unit) => (jN f m t S L tk cb c R ++ [JO L tk S c])) [6] rfl rfl ?_ rfl (fun _ => by kernel_rfl) ?_
   ·refine gK 1 [(87, .pointer (some ⟨(L.b tk), 2, none⟩))] [] ?_
    refine NL ?_
    exact MD () [66, 67, 75, 79, 83, 87] [0, 1, 2, 3, 4, 5, 6, 7, 8]
   rintro _
   refine mC [6] [] [(0, a_ 8 (L.b tk))] [(8, [(2, vI (c.uid))])] ?_
   refine aG.cut (ι := Unit) (fr' := fun (_ : Unit) => ([(67, vP (L.b tk))] ++ lq c ++ [(88, vP (L.b tk))])) (hp' := fun (_ : Unit) => (jN f m t S L tk cb c R ++ [JQ L tk S c])) [6] rfl rfl ?_ rfl (fun _ => by kernel_rfl) ?_
   ·refine gK 1 [(88, vP (L.b tk))] [] ?_
    refine NL ?_
    exact MD () [67, 79, 83, 88] [0, 1, 2, 3, 4, 5, 6, 7, 8]
   rintro _
   refine aG.cut (ι := Unit) (fr' := fun (_ : Unit) => ([(67, vP (L.b tk))] ++ lq c ++ [(89, .pointer (some ⟨(L.b tk), 3, none⟩))])) (hp' := fun (_ : Unit) => (jN f m t S L tk cb c R ++ [JQ L tk S c])) [6] rfl rfl ?_ rfl (fun _ => by kernel_rfl) ?_
   ·refine gK 1 [(89, .pointer (some ⟨(L.b tk), 3, none⟩))] [] ?_
    refine NL ?_
    exact MD () [67, 79, 83, 89] [0, 1, 2, 3, 4, 5, 6, 7, 8]
   rintro _
   refine mC [6] [] [(0, a_ 8 (L.b tk))] [(8, [(3, vI (c.gid))])] ?_
   refine aG.cut (ι := Unit) (fr' := fun (_ : Unit) => [(83, .agg #[vI (c.sec), vI (c.nano)]), (90, vP (L.b tk))]) (hp' := fun (_ : Unit) => (jN f m t S L tk cb c R ++ [JR L tk S c])) [6] rfl rfl ?_ rfl (fun _ => by kernel_rfl) ?_
   ·refine gK 1 [(90, vP (L.b tk))] [] ?_
    refine NL ?_
    exact MD () [83, 90] [0, 1, 2, 3, 4, 5, 6, 7, 8]
   rintro _
   refine aG.cut (ι := Unit) (fr' := fun (_ : Unit) => (IL c L tk)) (hp' := fun (_ : Unit) => (jN f m t S L tk cb c R ++ [JR L tk S c])) [6] rfl rfl ?_ rfl (fun _ => by kernel_rfl) ?_
   ·refine gK 1 [(91, .pointer (some ⟨(L.b tk), 4, none⟩))] [] ?_
    refine NL ?_
    exact MD () [83, 91] [0, 1, 2, 3, 4, 5, 6, 7, 8]
   rintro _
   refine aG.last rfl rfl ?_
   refine gC 1 [] [(0, A_ 8 (L.b tk) 2)] [(8, [(4, vI (c.sec)), (5, vI (c.nano))])] ?_
   refine NL (ai.np (NX (SR ?_)))
   refine aj.mem (aQ := [.abs (ak (aN (ay S.O tk (fun o => { o with mode := c.mode, uid := c.uid, gid := c.gid, sec := c.sec, nano := c.nano })) L)), .blk f [vI (S.X.cN), vI (S.X.cB), vI (S.X.cH), vI (S.X.cS), vI (S.X.cZ), .map (some m), vP t, vI (S.X.last), vI (S.X.ah), vI (S.X.used)] 86, .abs (aH Tryz.prog 3 m (aM (aI L S.idx)) S.idx.length), .abs (aY 156 t S.X.cH S.au (aI L S.us)), .abs (ak (aV (ay S.O tk (fun o => { o with mode := c.mode, uid := c.uid, gid := c.gid, sec := c.sec, nano := c.nano })) L)), .abs (ak (bg (ay S.O tk (fun o => { o with mode := c.mode, uid := c.uid, gid := c.gid, sec := c.sec, nano := c.nano })) L)), .blk cb [vI (c.op), vI (c.handle), vI (c.other), .string c.name, .string c.text, .slice c.dA (c.data.length) (c.dC), vI (c.mode), vI (c.uid), vI (c.gid), vI (c.sec), vI (c.nano), vI (c.code), vI (c.answer)] 43, .abs R]) (fun w hS => by have h := hS.uN (O := S.O) (L := L) (i := 3) (j := 8) (idx := [0, 1, 2, 4, 5, 6, 7]) (k := tk) (f := (fun o => { o with mode := c.mode, uid := c.uid, gid := c.gid, sec := c.sec, nano := c.nano })) rfl (fun _ hx => lN hx) rfl (by kernel_rfl) rfl (by show (obj S.O tk).kind ≠ 0; rw [hkt]; decide) ((ef (o := (fun o => { o with mode := c.mode, uid := c.uid, gid := c.gid, sec := c.sec, nano := c.nano }) (obj S.O tk)) (hkt)).trans rfl) (by show kH (obj S.O tk).kind = _; rw [hkt]; rfl); rw [kA (O := S.O) (k := tk) (f := (fun o => { o with mode := c.mode, uid := c.uid, gid := c.gid, sec := c.sec, nano := c.nano })) rfl rfl, kB (O := S.O) (k := tk) (f := (fun o => { o with mode := c.mode, uid := c.uid, gid := c.gid, sec := c.sec, nano := c.nano })) rfl rfl]; exact h) ?_
   have iE : (obj (ay S.O tk (fun o => { o with mode := c.mode, uid := c.uid, gid := c.gid, sec := c.sec, nano := c.nano })) tk).kind = 1 := (ig (f := (fun o => { o with mode := c.mode, uid := c.uid, gid := c.gid, sec := c.sec, nano := c.nano })) (fun _ => rfl)).trans (hkt)
   generalize bN : (ay S.O tk (fun o => { o with mode := c.mode, uid := c.uid, gid := c.gid, sec := c.sec, nano := c.nano })) = bI at iE ⊢
   refine gK 1 [(4, vI 0)] [] ?_
   refine NN (af.ret ?_)
   exact RT (l := [pF f m t S.X, pI m L S.idx, jG t S L, pO bI L, pD bI L, pE bI L, pC cb c]) (.int .i64 0) [1, 2, 3, 0, 4, 5, 6, 7] (⟨L, by subst bN; rw [show (bE S c) = (0, { S with O := ay S.O tk (fun o => { o with mode := c.mode, uid := c.uid, gid := c.gid, sec := c.sec, nano := c.nano }) }, c) by unfold bE; rw [cD]; exact (if_neg (fun h => absurd h.2 (by simp))).trans ((if_pos jT).trans ((if_pos ⟨qz, qA⟩).trans (if_pos um)))] <;> exact ⟨rfl, rfl⟩⟩)
  refine gK 5 [(25, .bool false)] [] ?_
  refine NN ?_
  refine CF ?_
  refine SR ?_
  refine gK 4 [(39, vI (c.mode))] [(3, a_ 6 cb)] ?_
  refine gL [] (dX (c.mode) 4095) ?_
  rintro _ _ ⟨rfl, rfl⟩
  refine gK 2 [(35, .bool (!(decide (0 ≤ c.mode ∧ c.mode ≤ 4095))))] [] ?_
  refine NN ?_
  refine af.cq (p := 0 ≤ c.mode ∧ c.mode ≤ 4095) (fun _ => by kernel_rfl) (fun jT => ?_) (fun jT => ?_)
  ·refine SR ?_
   refine gK 1 [(4, vI 120)] [] ?_
   refine NN (af.ret (ai.aD (ai.aq ?_)))
   exact RT (vI 120) [0, 1, 2, 3, 4, 5, 6, 7] (⟨L, by rw [show (bE S c) = (120, S, c) by unfold bE; rw [cD]; exact (if_neg (fun h => absurd h.2 (by simp))).trans (if_neg jT)] <;> exact ⟨rfl, rfl⟩⟩)
  refine SR ?_
  refine gK 4 [(46, vI (c.uid))] [(3, a_ 6 cb)] ?_
  refine gL [] (dX (c.uid) 2147483647) ?_
  rintro _ _ ⟨rfl, rfl⟩
  refine gK 2 [(49, .bool (!(decide (0 ≤ c.uid ∧ c.uid ≤ 2147483647))))] [] ?_
  refine aj.fF 49 (0 ≤ c.uid ∧ c.uid ≤ 2147483647) (fun _ => by kernel_rfl) (fun qz => ?_) (fun qz => ?_)
  ·refine gK 8 [(42, .bool true)] [] ?_
   refine NN ?_
   refine CT ?_
   refine SR ?_
   refine gK 1 [(4, vI 11)] [] ?_
   refine NN (af.ret (ai.aD (ai.aq ?_)))
   exact RT (vI 11) [0, 1, 2, 3, 4, 5, 6, 7] (⟨L, by rw [show (bE S c) = (11, S, c) by unfold bE; rw [cD]; exact (if_neg (fun h => absurd h.2 (by simp))).trans ((if_pos jT).trans (if_neg (fun h => qz h.1)))] <;> exact ⟨rfl, rfl⟩⟩)
  refine gK 4 [(53, vI (c.gid))] [(3, a_ 6 cb)] ?_
  refine gL [] (dX (c.gid) 2147483647) ?_
  rintro _ _ ⟨rfl, rfl⟩
  refine gK 3 [(42, .bool (!(decide (0 ≤ c.gid ∧ c.gid ≤ 2147483647))))] [] ?_
  refine NN ?_
  refine af.cq (p := 0 ≤ c.gid ∧ c.gid ≤ 2147483647) (fun _ => by kernel_rfl) (fun qA => ?_) (fun qA => ?_)
  ·refine SR ?_
   refine gK 1 [(4, vI 11)] [] ?_
   refine NN (af.ret (ai.aD (ai.aq ?_)))
   exact RT (vI 11) [0, 1, 2, 3, 4, 5, 6, 7] (⟨L, by rw [show (bE S c) = (11, S, c) by unfold bE; rw [cD]; exact (if_neg (fun h => absurd h.2 (by simp))).trans ((if_pos jT).trans (if_neg (fun h => qA h.2)))] <;> exact ⟨rfl, rfl⟩⟩)
  refine SR ?_
  refine gK 4 [(61, .agg #[vI (c.sec), vI (c.nano)])] [(3, A_ 6 cb 2)] ?_
  refine gL [] (fM c.sec c.nano) ?_
  rintro _ _ ⟨rfl, rfl⟩
  refine gK 2 [(57, .bool (!(decide (cP c.sec c.nano))))] [] ?_
  refine NN ?_
  refine af.cq (p := cP c.sec c.nano) (fun _ => by kernel_rfl) (fun um => ?_) (fun um => ?_)
  ·refine SR ?_
   refine gK 1 [(4, vI 20)] [] ?_
   refine NN (af.ret (ai.aD (ai.aq ?_)))
   exact RT (vI 20) [0, 1, 2, 3, 4, 5, 6, 7] (⟨L, by rw [show (bE S c) = (20, S, c) by unfold bE; rw [cD]; exact (if_neg (fun h => absurd h.2 (by simp))).trans ((if_pos jT).trans ((if_pos ⟨qz, qA⟩).trans (if_neg um)))] <;> exact ⟨rfl, rfl⟩⟩)
  refine af.skip (ai.aP (NX (af.seq ?_)))
  skip
  refine af.mem (aQ := [.blk f [vI (S.X.cN), vI (S.X.cB), vI (S.X.cH), vI (S.X.cS), vI (S.X.cZ), .map (some m), vP t, vI (S.X.last), vI (S.X.ah), vI (S.X.used)] 86, .abs (aH Tryz.prog 3 m (aM (aI L S.idx)) S.idx.length), .abs (aY 156 t S.X.cH S.au (aI L S.us)), .abs (ak (iB (aN S.O L) tk bP.none)), .abs (ak (aV S.O L)), .abs (ak (bg S.O L)), .blk cb [vI (c.op), vI (c.handle), vI (c.other), .string c.name, .string c.text, .slice c.dA (c.data.length) (c.dC), vI (c.mode), vI (c.uid), vI (c.gid), vI (c.sec), vI (c.nano), vI (c.code), vI (c.answer)] 43, .abs R, .blk (L.b tk) [vI ((obj S.O tk).id), vI ((obj S.O tk).mode), vI ((obj S.O tk).uid), vI ((obj S.O tk).gid), vI ((obj S.O tk).sec), vI ((obj S.O tk).nano), vI ((obj S.O tk).links), vI ((obj S.O tk).opens), .bool (obj S.O tk).gone, .slice (L.dA tk) ((obj S.O tk).data.length) ((L.dC tk))] 92]) (fun w hS => hS.tL (i := 3) (k := tk) rfl (by rw [hkt]; decide) (ef (hkt)) (by rw [hkt]; rfl)) ?_
  refine af.bY (S := [pC cb c]) [0, 1, 2, 3, 4, 5, 6, 7, 8, 9, 10, 11, 12, 13, 14, 15, 16, 17, 18, 19, 20, 21, 22, 23, 24, 25, 26, 27, 28, 29, 30, 31] 22 [6] (by kernel_rfl) (by kernel_rfl) rfl (by kernel_rfl) ?_
  refine aG.reads (r := 0) (l := [22, 23, 24, 25, 26, 27, 28, 29, 30, 31]) (fr' := (IK L tk c ++ lq c ++ [(85, .pointer (some ⟨(L.b tk), 1, none⟩))])) (aU := [cb = cb, cb = cb, cb = cb, cb = cb, cb = cb]) [0, 1, 2, 3, 4, 5, 6, 7, 8, 9, 10, 11, 12, 13, 14, 15, 16, 17, 18, 19, 20, 21] [o_, o_, o_, o_, o_, o_, o_, ⟨[.at 0], none, none, none, none⟩, o_, o_, o_, ⟨[.at 0], none, none, none, none⟩, o_, o_, o_, ⟨[.at 0], none, none, none, none⟩, o_, o_, o_, ⟨[.at 0, .at 0], none, none, none, none⟩, o_, o_] [65, 66, 67, 71, 75, 79, 83, 85] (fun _ => by kernel_rfl) ⟨rfl, rfl, rfl, rfl, rfl, trivial⟩ rfl rfl ?_
  refine mC [6] [] [(0, a_ 8 (L.b tk))] [(8, [(1, vI (c.mode))])] ?_
  refine aG.cut (ι := Unit) (fr' := fun (_ : Unit) => (zm L tk c ++ lq c ++ [(86, vP (L.b tk))])) (hp' := fun (_ : Unit) => (jN f m t S L tk cb c R ++ [JO L tk S c])) [6] rfl rfl ?_ rfl (fun _ => by kernel_rfl) ?_
  ·refine gK 1 [(86, vP (L.b tk))] [] ?_
   refine NL ?_
   exact MD () [66, 67, 75, 79, 83, 86] [0, 1, 2, 3, 4, 5, 6, 7, 8]
  rintro _
  refine aG.cut (ι := Unit) (fr' := fun (_ : Unit) => (zm L tk c ++ lq c ++ [(87, .pointer (some ⟨(L.b tk), 2, none⟩))])) (hp' := fun (_ : Unit) => (jN f m t S L tk cb c R ++ [JO L tk S c])) [6] rfl rfl ?_ rfl (fun _ => by kernel_rfl) ?_
  ·refine gK 1 [(87, .pointer (some ⟨(L.b tk), 2, none⟩))] [] ?_
   refine NL ?_
   exact MD () [66, 67, 75, 79, 83, 87] [0, 1, 2, 3, 4, 5, 6, 7, 8]
  rintro _
  refine mC [6] [] [(0, a_ 8 (L.b tk))] [(8, [(2, vI (c.uid))])] ?_
  refine aG.cut (ι := Unit) (fr' := fun (_ : Unit) => ([(67, vP (L.b tk))] ++ lq c ++ [(88, vP (L.b tk))])) (hp' := fun (_ : Unit) => (jN f m t S L tk cb c R ++ [JQ L tk S c])) [6] rfl rfl ?_ rfl (fun _ => by kernel_rfl) ?_
  ·refine gK 1 [(88, vP (L.b tk))] [] ?_
   refine NL ?_
   exact MD () [67, 79, 83, 88] [0, 1, 2, 3, 4, 5, 6, 7, 8]
  rintro _
  refine aG.cut (ι := Unit) (fr' := fun (_ : Unit) => ([(67, vP (L.b tk))] ++ lq c ++ [(89, .pointer (some ⟨(L.b tk), 3, none⟩))])) (hp' := fun (_ : Unit) => (jN f m t S L tk cb c R ++ [JQ L tk S c])) [6] rfl rfl ?_ rfl (fun _ => by kernel_rfl) ?_
  ·refine gK 1 [(89, .pointer (some ⟨(L.b tk), 3, none⟩))] [] ?_
   refine NL ?_
   exact MD () [67, 79, 83, 89] [0, 1, 2, 3, 4, 5, 6, 7, 8]
  rintro _
  refine mC [6] [] [(0, a_ 8 (L.b tk))] [(8, [(3, vI (c.gid))])] ?_
  refine aG.cut (ι := Unit) (fr' := fun (_ : Unit) => [(83, .agg #[vI (c.sec), vI (c.nano)]), (90, vP (L.b tk))]) (hp' := fun (_ : Unit) => (jN f m t S L tk cb c R ++ [JR L tk S c])) [6] rfl rfl ?_ rfl (fun _ => by kernel_rfl) ?_
  ·refine gK 1 [(90, vP (L.b tk))] [] ?_
   refine NL ?_
   exact MD () [83, 90] [0, 1, 2, 3, 4, 5, 6, 7, 8]
  rintro _
  refine aG.cut (ι := Unit) (fr' := fun (_ : Unit) => (IL c L tk)) (hp' := fun (_ : Unit) => (jN f m t S L tk cb c R ++ [JR L tk S c])) [6] rfl rfl ?_ rfl (fun _ => by kernel_rfl) ?_
  ·refine gK 1 [(91, .pointer (some ⟨(L.b tk), 4, none⟩))] [] ?_
   refine NL ?_
   exact MD () [83, 91] [0, 1, 2, 3, 4, 5, 6, 7, 8]
  rintro _
  refine aG.last rfl rfl ?_
  refine gC 1 [] [(0, A_ 8 (L.b tk) 2)] [(8, [(4, vI (c.sec)), (5, vI (c.nano))])] ?_
  refine NL (ai.np (NX (SR ?_)))
  refine aj.mem (aQ := [.abs (ak (aN (ay S.O tk (fun o => { o with mode := c.mode, uid := c.uid, gid := c.gid, sec := c.sec, nano := c.nano })) L)), .blk f [vI (S.X.cN), vI (S.X.cB), vI (S.X.cH), vI (S.X.cS), vI (S.X.cZ), .map (some m), vP t, vI (S.X.last), vI (S.X.ah), vI (S.X.used)] 86, .abs (aH Tryz.prog 3 m (aM (aI L S.idx)) S.idx.length), .abs (aY 156 t S.X.cH S.au (aI L S.us)), .abs (ak (aV (ay S.O tk (fun o => { o with mode := c.mode, uid := c.uid, gid := c.gid, sec := c.sec, nano := c.nano })) L)), .abs (ak (bg (ay S.O tk (fun o => { o with mode := c.mode, uid := c.uid, gid := c.gid, sec := c.sec, nano := c.nano })) L)), .blk cb [vI (c.op), vI (c.handle), vI (c.other), .string c.name, .string c.text, .slice c.dA (c.data.length) (c.dC), vI (c.mode), vI (c.uid), vI (c.gid), vI (c.sec), vI (c.nano), vI (c.code), vI (c.answer)] 43, .abs R]) (fun w hS => by have h := hS.uN (O := S.O) (L := L) (i := 3) (j := 8) (idx := [0, 1, 2, 4, 5, 6, 7]) (k := tk) (f := (fun o => { o with mode := c.mode, uid := c.uid, gid := c.gid, sec := c.sec, nano := c.nano })) rfl (fun _ hx => lN hx) rfl (by kernel_rfl) rfl (by show (obj S.O tk).kind ≠ 0; rw [hkt]; decide) ((ef (o := (fun o => { o with mode := c.mode, uid := c.uid, gid := c.gid, sec := c.sec, nano := c.nano }) (obj S.O tk)) (hkt)).trans rfl) (by show kH (obj S.O tk).kind = _; rw [hkt]; rfl); rw [kA (O := S.O) (k := tk) (f := (fun o => { o with mode := c.mode, uid := c.uid, gid := c.gid, sec := c.sec, nano := c.nano })) rfl rfl, kB (O := S.O) (k := tk) (f := (fun o => { o with mode := c.mode, uid := c.uid, gid := c.gid, sec := c.sec, nano := c.nano })) rfl rfl]; exact h) ?_
  have j9 : (obj (ay S.O tk (fun o => { o with mode := c.mode, uid := c.uid, gid := c.gid, sec := c.sec, nano := c.nano })) tk).kind = 1 := (ig (f := (fun o => { o with mode := c.mode, uid := c.uid, gid := c.gid, sec := c.sec, nano := c.nano })) (fun _ => rfl)).trans (hkt)
  generalize bN : (ay S.O tk (fun o => { o with mode := c.mode, uid := c.uid, gid := c.gid, sec := c.sec, nano := c.nano })) = bI at j9 ⊢
  refine gK 1 [(4, vI 0)] [] ?_
  refine NN (af.ret ?_)
  exact RT (l := [pF f m t S.X, pI m L S.idx, jG t S L, pO bI L, pD bI L, pE bI L, pC cb c]) (.int .i64 0) [1, 2, 3, 0, 4, 5, 6, 7] (⟨L, by subst bN; rw [show (bE S c) = (0, { S with O := ay S.O tk (fun o => { o with mode := c.mode, uid := c.uid, gid := c.gid, sec := c.sec, nano := c.nano }) }, c) by unfold bE; rw [cD]; exact (if_neg (fun h => absurd h.2 (by simp))).trans ((if_pos jT).trans ((if_pos ⟨qz, qA⟩).trans (if_pos um)))] <;> exact ⟨rfl, rfl⟩⟩)
 have hkt : (obj S.O tk).kind = 2 := hI.kind hlv
 refine af.region ?_
 refine gK 1 [] [] ?_
 refine NN (af.seq ?_)
 refine af.bD (by kernel_rfl) (by kernel_rfl) ?_
 refine gQ 8 (IQ t c) [(3, a_ 0 f), (7, a_ 6 cb)] ?_
 refine aS.call (f := 136) (args := #[vP t, vI (c.handle)]) (d := (some 17)) (pre := [jG t S L]) (R := (nX f m t S L cb c R)) (pk := [2, 0, 1, 3, 4, 5, 6, 7]) (gA := [1, 2, 0, 3, 4, 5, 6, 7]) (v0 := .tuple #[.iface 96 (vP (L.b tk)), vI 0]) (fun _ => by kernel_rfl) (ju t S.X.cH S.au (aI L S.us) c.handle hC.hw (cE L ⟨tk, 2⟩) (iT cD)) rfl (by kernel_rfl) rfl (by kernel_rfl) (fun _ _ h => h) ?_
 refine gQ 5 (EP L tk) [] ?_
 refine NQ (NX (af.seq (SR ?_)))
 refine gK 2 [(21, .bool false)] [] ?_
 refine NN ?_
 refine CF ?_
 refine af.skip (NX (SR ?_))
 refine gK 1 [(23, .iface 96 (vP (L.b tk)))] [] ?_
 refine gL [] (ck (L.b tk)) ?_
 rintro _ _ ⟨rfl, rfl⟩
 refine gK 1 [(7, vP (L.b tk))] [] ?_
 refine NN (af.seq (af.block (SR ?_)))
 refine gK 5 [(30, .bool (obj S.O tk).gone)] [(3, v_ 3 (kO L hkt))] ?_
 refine aj.kU 30 (obj S.O tk).gone (fun _ => by kernel_rfl) (fun kf => ?_) (fun kf => ?_)
 ·refine gK 1 [(31, .iface 96 (vP (L.b tk)))] [] ?_
  refine gL [] (jA (vP (L.b tk))) ?_
  rintro _ _ ⟨rfl, rfl⟩
  refine gK 3 [(25, .bool true)] [] ?_
  refine NN ?_
  refine CT ?_
  refine SR ?_
  refine gK 1 [(4, vI 170)] [] ?_
  refine NN (af.ret (ai.aD (ai.aq ?_)))
  exact RT (vI 170) [0, 1, 2, 3, 4, 5, 6, 7] (⟨L, by rw [show (bE S c) = (170, S, c) by unfold bE; rw [cD]; exact if_pos ⟨kf, rfl⟩] <;> exact ⟨rfl, rfl⟩⟩)
 refine gK 5 [(25, .bool false)] [] ?_
 refine NN ?_
 refine CF ?_
 refine SR ?_
 refine gK 4 [(39, vI (c.mode))] [(3, a_ 6 cb)] ?_
 refine gL [] (dX (c.mode) 4095) ?_
 rintro _ _ ⟨rfl, rfl⟩
 refine gK 2 [(35, .bool (!(decide (0 ≤ c.mode ∧ c.mode ≤ 4095))))] [] ?_
 refine NN ?_
 refine af.cq (p := 0 ≤ c.mode ∧ c.mode ≤ 4095) (fun _ => by kernel_rfl) (fun jT => ?_) (fun jT => ?_)
 ·refine SR ?_
  refine gK 1 [(4, vI 120)] [] ?_
  refine NN (af.ret (ai.aD (ai.aq ?_)))
  exact RT (vI 120) [0, 1, 2, 3, 4, 5, 6, 7] (⟨L, by rw [show (bE S c) = (120, S, c) by unfold bE; rw [cD]; exact (if_neg (fun h => absurd h.1 (by rw [kf]; decide))).trans (if_neg jT)] <;> exact ⟨rfl, rfl⟩⟩)
 refine SR ?_
 refine gK 4 [(46, vI (c.uid))] [(3, a_ 6 cb)] ?_
 refine gL [] (dX (c.uid) 2147483647) ?_
 rintro _ _ ⟨rfl, rfl⟩
 refine gK 2 [(49, .bool (!(decide (0 ≤ c.uid ∧ c.uid ≤ 2147483647))))] [] ?_
 refine aj.fF 49 (0 ≤ c.uid ∧ c.uid ≤ 2147483647) (fun _ => by kernel_rfl) (fun qz => ?_) (fun qz => ?_)
 ·refine gK 8 [(42, .bool true)] [] ?_
  refine NN ?_
  refine CT ?_
  refine SR ?_
  refine gK 1 [(4, vI 11)] [] ?_
  refine NN (af.ret (ai.aD (ai.aq ?_)))
  exact RT (vI 11) [0, 1, 2, 3, 4, 5, 6, 7] (⟨L, by rw [show (bE S c) = (11, S, c) by unfold bE; rw [cD]; exact (if_neg (fun h => absurd h.1 (by rw [kf]; decide))).trans ((if_pos jT).trans (if_neg (fun h => qz h.1)))] <;> exact ⟨rfl, rfl⟩⟩)
 refine gK 4 [(53, vI (c.gid))] [(3, a_ 6 cb)] ?_
 refine gL [] (dX (c.gid) 2147483647) ?_
 rintro _ _ ⟨rfl, rfl⟩
 refine gK 3 [(42, .bool (!(decide (0 ≤ c.gid ∧ c.gid ≤ 2147483647))))] [] ?_
 refine NN ?_
 refine af.cq (p := 0 ≤ c.gid ∧ c.gid ≤ 2147483647) (fun _ => by kernel_rfl) (fun qA => ?_) (fun qA => ?_)
 ·refine SR ?_
  refine gK 1 [(4, vI 11)] [] ?_
  refine NN (af.ret (ai.aD (ai.aq ?_)))
  exact RT (vI 11) [0, 1, 2, 3, 4, 5, 6, 7] (⟨L, by rw [show (bE S c) = (11, S, c) by unfold bE; rw [cD]; exact (if_neg (fun h => absurd h.1 (by rw [kf]; decide))).trans ((if_pos jT).trans (if_neg (fun h => qA h.2)))] <;> exact ⟨rfl, rfl⟩⟩)
 refine SR ?_
 refine gK 4 [(61, .agg #[vI (c.sec), vI (c.nano)])] [(3, A_ 6 cb 2)] ?_
 refine gL [] (fM c.sec c.nano) ?_
 rintro _ _ ⟨rfl, rfl⟩
 refine gK 2 [(57, .bool (!(decide (cP c.sec c.nano))))] [] ?_
 refine NN ?_
 refine af.cq (p := cP c.sec c.nano) (fun _ => by kernel_rfl) (fun um => ?_) (fun um => ?_)
 ·refine SR ?_
  refine gK 1 [(4, vI 20)] [] ?_
  refine NN (af.ret (ai.aD (ai.aq ?_)))
  exact RT (vI 20) [0, 1, 2, 3, 4, 5, 6, 7] (⟨L, by rw [show (bE S c) = (20, S, c) by unfold bE; rw [cD]; exact (if_neg (fun h => absurd h.1 (by rw [kf]; decide))).trans ((if_pos jT).trans ((if_pos ⟨qz, qA⟩).trans (if_neg um)))] <;> exact ⟨rfl, rfl⟩⟩)
 refine af.skip (ai.aP (NX (af.seq ?_)))
 skip
 refine af.mem (aQ := [.blk f [vI (S.X.cN), vI (S.X.cB), vI (S.X.cH), vI (S.X.cS), vI (S.X.cZ), .map (some m), vP t, vI (S.X.last), vI (S.X.ah), vI (S.X.used)] 86, .abs (aH Tryz.prog 3 m (aM (aI L S.idx)) S.idx.length), .abs (aY 156 t S.X.cH S.au (aI L S.us)), .abs (ak (iB (aN S.O L) tk bP.none)), .abs (ak (aV S.O L)), .abs (ak (bg S.O L)), .blk cb [vI (c.op), vI (c.handle), vI (c.other), .string c.name, .string c.text, .slice c.dA (c.data.length) (c.dC), vI (c.mode), vI (c.uid), vI (c.gid), vI (c.sec), vI (c.nano), vI (c.code), vI (c.answer)] 43, .abs R, .blk (L.b tk) [vI ((obj S.O tk).id), vI ((obj S.O tk).mode), vI ((obj S.O tk).uid), vI ((obj S.O tk).gid), vI ((obj S.O tk).sec), vI ((obj S.O tk).nano), vI ((obj S.O tk).links), vI ((obj S.O tk).opens), .bool (obj S.O tk).gone, .map (some (L.m tk)), (qi L (obj S.O tk).up)] 99]) (fun w hS => hS.tL (i := 3) (k := tk) rfl (by rw [hkt]; decide) (gG (hkt)) (by rw [hkt]; rfl)) ?_
 refine af.bY (S := [pC cb c]) [0, 1, 2, 3, 4, 5, 6, 7, 8, 9, 10, 11, 12, 13, 14, 15, 16, 17, 18, 19, 20, 21, 22, 23, 24, 25, 26, 27, 28, 29, 30, 31] 22 [6] (by kernel_rfl) (by kernel_rfl) rfl (by kernel_rfl) ?_
 refine aG.reads (r := 0) (l := [22, 23, 24, 25, 26, 27, 28, 29, 30, 31]) (fr' := (IK L tk c ++ lq c ++ [(85, .pointer (some ⟨(L.b tk), 1, none⟩))])) (aU := [cb = cb, cb = cb, cb = cb, cb = cb, cb = cb]) [0, 1, 2, 3, 4, 5, 6, 7, 8, 9, 10, 11, 12, 13, 14, 15, 16, 17, 18, 19, 20, 21] [o_, o_, o_, o_, o_, o_, o_, ⟨[.at 0], none, none, none, none⟩, o_, o_, o_, ⟨[.at 0], none, none, none, none⟩, o_, o_, o_, ⟨[.at 0], none, none, none, none⟩, o_, o_, o_, ⟨[.at 0, .at 0], none, none, none, none⟩, o_, o_] [65, 66, 67, 71, 75, 79, 83, 85] (fun _ => by kernel_rfl) ⟨rfl, rfl, rfl, rfl, rfl, trivial⟩ rfl rfl ?_
 refine mC [6] [] [(0, a_ 8 (L.b tk))] [(8, [(1, vI (c.mode))])] ?_
 refine aG.cut (ι := Unit) (fr' := fun (_ : Unit) => (zm L tk c ++ lq c ++ [(86, vP (L.b tk))])) (hp' := fun (_ : Unit) => (jN f m t S L tk cb c R ++ [NM L tk S c])) [6] rfl rfl ?_ rfl (fun _ => by kernel_rfl) ?_
 ·refine gK 1 [(86, vP (L.b tk))] [] ?_
  refine NL ?_
  exact MD () [66, 67, 75, 79, 83, 86] [0, 1, 2, 3, 4, 5, 6, 7, 8]
 rintro _
 refine aG.cut (ι := Unit) (fr' := fun (_ : Unit) => (zm L tk c ++ lq c ++ [(87, .pointer (some ⟨(L.b tk), 2, none⟩))])) (hp' := fun (_ : Unit) => (jN f m t S L tk cb c R ++ [NM L tk S c])) [6] rfl rfl ?_ rfl (fun _ => by kernel_rfl) ?_
 ·refine gK 1 [(87, .pointer (some ⟨(L.b tk), 2, none⟩))] [] ?_
  refine NL ?_
  exact MD () [66, 67, 75, 79, 83, 87] [0, 1, 2, 3, 4, 5, 6, 7, 8]
 rintro _
 refine mC [6] [] [(0, a_ 8 (L.b tk))] [(8, [(2, vI (c.uid))])] ?_
 refine aG.cut (ι := Unit) (fr' := fun (_ : Unit) => ([(67, vP (L.b tk))] ++ lq c ++ [(88, vP (L.b tk))])) (hp' := fun (_ : Unit) => (jN f m t S L tk cb c R ++ [NR L tk S c])) [6] rfl rfl ?_ rfl (fun _ => by kernel_rfl) ?_
 ·refine gK 1 [(88, vP (L.b tk))] [] ?_
  refine NL ?_
  exact MD () [67, 79, 83, 88] [0, 1, 2, 3, 4, 5, 6, 7, 8]
 rintro _
 refine aG.cut (ι := Unit) (fr' := fun (_ : Unit) => ([(67, vP (L.b tk))] ++ lq c ++ [(89, .pointer (some ⟨(L.b tk), 3, none⟩))])) (hp' := fun (_ : Unit) => (jN f m t S L tk cb c R ++ [NR L tk S c])) [6] rfl rfl ?_ rfl (fun _ => by kernel_rfl) ?_
 ·refine gK 1 [(89, .pointer (some ⟨(L.b tk), 3, none⟩))] [] ?_
  refine NL ?_
  exact MD () [67, 79, 83, 89] [0, 1, 2, 3, 4, 5, 6, 7, 8]
 rintro _
 refine mC [6] [] [(0, a_ 8 (L.b tk))] [(8, [(3, vI (c.gid))])] ?_
 refine aG.cut (ι := Unit) (fr' := fun (_ : Unit) => [(83, .agg #[vI (c.sec), vI (c.nano)]), (90, vP (L.b tk))]) (hp' := fun (_ : Unit) => (jN f m t S L tk cb c R ++ [NT L tk S c])) [6] rfl rfl ?_ rfl (fun _ => by kernel_rfl) ?_
 ·refine gK 1 [(90, vP (L.b tk))] [] ?_
  refine NL ?_
  exact MD () [83, 90] [0, 1, 2, 3, 4, 5, 6, 7, 8]
 rintro _
 refine aG.cut (ι := Unit) (fr' := fun (_ : Unit) => (IL c L tk)) (hp' := fun (_ : Unit) => (jN f m t S L tk cb c R ++ [NT L tk S c])) [6] rfl rfl ?_ rfl (fun _ => by kernel_rfl) ?_
 ·refine gK 1 [(91, .pointer (some ⟨(L.b tk), 4, none⟩))] [] ?_
  refine NL ?_
  exact MD () [83, 91] [0, 1, 2, 3, 4, 5, 6, 7, 8]
 rintro _
 refine aG.last rfl rfl ?_
 refine gC 1 [] [(0, A_ 8 (L.b tk) 2)] [(8, [(4, vI (c.sec)), (5, vI (c.nano))])] ?_
 refine NL (ai.np (NX (SR ?_)))
 refine aj.mem (aQ := [.abs (ak (aN (ay S.O tk (fun o => { o with mode := c.mode, uid := c.uid, gid := c.gid, sec := c.sec, nano := c.nano })) L)), .blk f [vI (S.X.cN), vI (S.X.cB), vI (S.X.cH), vI (S.X.cS), vI (S.X.cZ), .map (some m), vP t, vI (S.X.last), vI (S.X.ah), vI (S.X.used)] 86, .abs (aH Tryz.prog 3 m (aM (aI L S.idx)) S.idx.length), .abs (aY 156 t S.X.cH S.au (aI L S.us)), .abs (ak (aV (ay S.O tk (fun o => { o with mode := c.mode, uid := c.uid, gid := c.gid, sec := c.sec, nano := c.nano })) L)), .abs (ak (bg (ay S.O tk (fun o => { o with mode := c.mode, uid := c.uid, gid := c.gid, sec := c.sec, nano := c.nano })) L)), .blk cb [vI (c.op), vI (c.handle), vI (c.other), .string c.name, .string c.text, .slice c.dA (c.data.length) (c.dC), vI (c.mode), vI (c.uid), vI (c.gid), vI (c.sec), vI (c.nano), vI (c.code), vI (c.answer)] 43, .abs R]) (fun w hS => by have h := hS.uN (O := S.O) (L := L) (i := 3) (j := 8) (idx := [0, 1, 2, 4, 5, 6, 7]) (k := tk) (f := (fun o => { o with mode := c.mode, uid := c.uid, gid := c.gid, sec := c.sec, nano := c.nano })) rfl (fun _ hx => lN hx) rfl (by kernel_rfl) rfl (by show (obj S.O tk).kind ≠ 0; rw [hkt]; decide) ((gG (o := (fun o => { o with mode := c.mode, uid := c.uid, gid := c.gid, sec := c.sec, nano := c.nano }) (obj S.O tk)) (hkt)).trans rfl) (by show kH (obj S.O tk).kind = _; rw [hkt]; rfl); rw [kA (O := S.O) (k := tk) (f := (fun o => { o with mode := c.mode, uid := c.uid, gid := c.gid, sec := c.sec, nano := c.nano })) rfl rfl, kB (O := S.O) (k := tk) (f := (fun o => { o with mode := c.mode, uid := c.uid, gid := c.gid, sec := c.sec, nano := c.nano })) rfl rfl]; exact h) ?_
 have zf : (obj (ay S.O tk (fun o => { o with mode := c.mode, uid := c.uid, gid := c.gid, sec := c.sec, nano := c.nano })) tk).kind = 2 := (ig (f := (fun o => { o with mode := c.mode, uid := c.uid, gid := c.gid, sec := c.sec, nano := c.nano })) (fun _ => rfl)).trans (hkt)
 generalize bN : (ay S.O tk (fun o => { o with mode := c.mode, uid := c.uid, gid := c.gid, sec := c.sec, nano := c.nano })) = bI at zf ⊢
 refine gK 1 [(4, vI 0)] [] ?_
 refine NN (af.ret ?_)
 exact RT (l := [pF f m t S.X, pI m L S.idx, jG t S L, pO bI L, pD bI L, pE bI L, pC cb c]) (.int .i64 0) [1, 2, 3, 0, 4, 5, 6, 7] (⟨L, by subst bN; rw [show (bE S c) = (0, { S with O := ay S.O tk (fun o => { o with mode := c.mode, uid := c.uid, gid := c.gid, sec := c.sec, nano := c.nano }) }, c) by unfold bE; rw [cD]; exact (if_neg (fun h => absurd h.1 (by rw [kf]; decide))).trans ((if_pos jT).trans ((if_pos ⟨qz, qA⟩).trans (if_pos um)))] <;> exact ⟨rfl, rfl⟩⟩)
theorem Cy {β : Bs} (S : aF) (L : HL) (f m t : Nat) (hI : Inv S) (cb : Nat) (c : aT) (hC : fB β c) :
    Spec Tryz.prog β 82 #[vP f, vP cb] ((pA f m t L S) ++ [pC cb c]) (fun v l => ∃ L2, v = vI (dg S c).1 ∧ l = ((pA f m t L2 ((dg S c).2.1)) ++ [.blk cb (fT ((dg S c).2.2)) 43])) := by
 have hX := hI.hX
 refine Spec.enter Tryz.func82 rfl Tryz.ntmps82 (Nat.le_of_ble_eq_true rfl) (fun R => ?_)
 refine SR ?_
 refine gK 1 [] [] ?_
 refine NN (af.seq ?_)
 refine af.bD (by kernel_rfl) (by kernel_rfl) ?_
 refine gQ 9 [(10, vP f), (14, vI (c.handle)), (18, .string c.name)] [(4, a_ 6 cb), (8, a_ 6 cb)] ?_
 rcases jF hI.toInv0 c.handle c.name 192 with ⟨e, hab, hne⟩ | ⟨d, hab, hd, fZ, hgn, cD⟩
 ·refine aS.call (f := 134) (args := #[vP f, vI (c.handle), .string c.name, vI 192]) (d := (some 19)) (pre := [pF f m t S.X, jG t S L, pO S.O L]) (R := (lU m L S cb c R)) (pk := [0, 2, 3, 1, 4, 5, 6, 7]) (gA := [0, 3, 1, 2, 4, 5, 6, 7]) (v0 := .tuple #[.pointer none, vI (e)]) (fun _ => by kernel_rfl) ((by have h := cW S L f m t hI c.handle hC.hw c.name hC.nm 192 (β := β); rw [hab] at h; exact h)) rfl (by kernel_rfl) rfl (by kernel_rfl) (fun _ _ h => h) ?_
  refine gQ 5 [(5, .pointer none), (6, vI (e))] [] ?_
  refine NQ (NX (af.seq (SR ?_)))
  refine gK 2 [(23, .bool (!(decide ((e : Int) = (0 : Int)))))] [] ?_
  refine NN ?_
  refine af.cq (p := (e : Int) = (0 : Int)) (fun _ => by kernel_rfl) (fun h23 => ?_) (fun h23 => ?_)
  ·refine SR ?_
   refine gK 2 [(4, vI (e))] [] ?_
   refine NN (af.ret (ai.aq ?_))
   exact RT (vI (e)) [0, 1, 2, 3, 4, 5, 6, 7] (⟨L, by rw [show (dg S c) = (e, S, c) by unfold dg; rw [hab]] <;> exact ⟨rfl, rfl⟩⟩)
  exact absurd h23 hne
 have hkd : (obj S.O d).kind = 2 := hI.kind hd
 refine aS.call (f := 134) (args := #[vP f, vI (c.handle), .string c.name, vI 192]) (d := (some 19)) (pre := [pF f m t S.X, jG t S L, pO S.O L]) (R := (lU m L S cb c R)) (pk := [0, 2, 3, 1, 4, 5, 6, 7]) (gA := [0, 3, 1, 2, 4, 5, 6, 7]) (v0 := .tuple #[vP (L.b d), vI 0]) (fun _ => by kernel_rfl) ((by have h := cW S L f m t hI c.handle hC.hw c.name hC.nm 192 (β := β); rw [hab] at h; exact h)) rfl (by kernel_rfl) rfl (by kernel_rfl) (fun _ _ h => h) ?_
 refine gQ 5 (Cs L d) [] ?_
 refine NQ (NX (af.seq (SR ?_)))
 refine gK 2 [(23, .bool false)] [] ?_
 refine NN ?_
 refine CF ?_
 refine af.skip (NX (af.seq (SR ?_)))
 refine gK 4 [(28, vI (c.mode))] [(3, a_ 6 cb)] ?_
 refine gL [] (dX (c.mode) 4095) ?_
 rintro _ _ ⟨rfl, rfl⟩
 refine gK 1 [(30, .bool (!(decide (0 ≤ c.mode ∧ c.mode ≤ 4095))))] [] ?_
 refine NN ?_
 refine af.cq (p := 0 ≤ c.mode ∧ c.mode ≤ 4095) (fun _ => by kernel_rfl) (fun kf => ?_) (fun kf => ?_)
 ·refine SR ?_
  refine gK 1 [(4, vI 120)] [] ?_
  refine NN (af.ret (ai.aq ?_))
  exact RT (vI 120) [0, 1, 2, 3, 4, 5, 6, 7] (⟨L, by rw [show (dg S c) = (120, S, c) by unfold dg; rw [hab]; exact if_neg kf] <;> exact ⟨rfl, rfl⟩⟩)
 refine af.skip (NX (af.seq (SR ?_)))
 refine gK 6 [(31, vP f), (32, vP (L.b d)), (36, .string c.name)] [(5, a_ 6 cb)] ?_
 refine gL [0, 1, 5, 3] (qw S L f m t hI d hd c.name hC.nm) ?_
 rintro _ _ ⟨rfl, rfl⟩
 refine gK 1 [(6, vI ((bM S.X S.O S.idx d c.name)))] [] ?_
 refine NS ?_
 refine gK 2 [(39, .bool (!(decide (((bM S.X S.O S.idx d c.name) : Int) = (0 : Int)))))] [] ?_
 refine NN ?_
 refine af.cq (p := ((bM S.X S.O S.idx d c.name) : Int) = (0 : Int)) (fun _ => by kernel_rfl) (fun h0 => ?_) (fun h0 => ?_)
 ·refine SR ?_
  refine gK 2 [(4, vI ((bM S.X S.O S.idx d c.name)))] [] ?_
  refine NN (af.ret (ai.aq ?_))
  exact RT (vI ((bM S.X S.O S.idx d c.name))) [0, 1, 4, 3, 5, 2, 6, 7] (⟨L, by rw [show (dg S c) = (bM S.X S.O S.idx d c.name, S, c) by unfold dg; rw [hab]; exact (if_pos kf).trans (if_neg h0)] <;> exact ⟨rfl, rfl⟩⟩)
 have hno := lS h0
 refine af.skip (NX (SR ?_))
 refine gN 8 (fun b4 => [(7, vP b4)]) (fun b4 => [(3, a_ 6 cb)]) (fun _ => []) (fun b4 => .blk b4 [vI 0, vI (c.mode), vI 0, vI 0, vI 0, vI 0, vI 0, vI 0, .bool false, .slice none (0) (0)] 92) (fun b4 => ?_)
 refine NN (af.seq (af.seq ?_))
 rcases Int.lt_or_le (S.us.length : Int) S.X.cH with qx | qx
 ·refine af.region ?_
  refine gK 4 (LX cb f b4) [] ?_
  obtain ⟨L2, hL2⟩ : ∃ L2 : HL, L2 = L.put (aC S.X) b4 0 none 0 := ⟨_, rfl⟩
  have hfr := hI.toInv0.fresh
  refine aj.mem (aQ := [.abs (ak (aN (ay S.O (aC S.X) (fun _ => (⟨0, c.mode, 0, 0, 0, 0, 0, 0, false, 1, [], ⟨#[]⟩, [], none⟩ : aO))) L2)), .blk f [vI (S.X.cN), vI (S.X.cB), vI (S.X.cH), vI (S.X.cS), vI (S.X.cZ), .map (some m), vP t, vI (S.X.last), vI (S.X.ah), vI (S.X.used)] 86, .abs (aH Tryz.prog 3 m (aM (aI L S.idx)) S.idx.length), .abs (ak (bg S.O L)), .abs (aY 156 t S.X.cH S.au (aI L S.us)), .abs (ak (aV S.O L)), .blk cb [vI (c.op), vI (c.handle), vI (c.other), .string c.name, .string c.text, .slice c.dA (c.data.length) (c.dC), vI (c.mode), vI (c.uid), vI (c.gid), vI (c.sec), vI (c.nano), vI (c.code), vI (c.answer)] 43, .abs R]) (fun w hS => hS.qt hL2 hfr (o := (⟨0, c.mode, 0, 0, 0, 0, 0, 0, false, 1, [], ⟨#[]⟩, [], none⟩ : aO)) (i := 3) (j := 8) (ix := [0, 1, 2, 4, 5, 6, 7]) rfl rfl (by kernel_rfl) rfl (by show (1 : Int) ≠ 0; decide) ((ef (L := L2) (k := (aC S.X)) (o := (⟨0, c.mode, 0, 0, 0, 0, 0, 0, false, 1, [], ⟨#[]⟩, [], none⟩ : aO)) rfl).trans (by rw [show L2.dA (aC S.X) = none by rw [hL2]; exact if_pos rfl, show L2.dC (aC S.X) = 0 by rw [hL2]; exact if_pos rfl]; rfl)) rfl) ?_
  refine aj.mem (aQ := (zn S c L2 f m t L ++ [pD S.O L, pC cb c, .abs R])) (fun w hS => hS.rA hL2 hfr (o := (⟨0, c.mode, 0, 0, 0, 0, 0, 0, false, 1, [], ⟨#[]⟩, [], none⟩ : aO)) (i := 3) rfl (by show (1 : Int) ≠ 2; decide)) ?_
  refine aj.mem (aQ := (zn S c L2 f m t L ++ [pD S.O L, pC cb c, .abs R, .abs (aE 5 1 none 0 0 ([]))])) (fun w hS => hS.jD (e := 5) (size := 1)) ?_
  refine aj.mem (aQ := ([LW S c L2] ++ zn S c L2 f m t L ++ [pC cb c, .abs R])) (fun w hS => hS.En hL2 (o := (⟨0, c.mode, 0, 0, 0, 0, 0, 0, false, 1, [], ⟨#[]⟩, [], none⟩ : aO)) (i := 5) (j := 8) (ix := [0, 1, 2, 3, 4, 6, 7]) rfl rfl (by kernel_rfl) rfl rfl rfl) ?_
  refine aj.mem (aQ := [.abs (ak (aV (ay S.O (aC S.X) (fun _ => (⟨0, c.mode, 0, 0, 0, 0, 0, 0, false, 1, [], ⟨#[]⟩, [], none⟩ : aO))) L2)), .abs (ak (aN (ay S.O (aC S.X) (fun _ => (⟨0, c.mode, 0, 0, 0, 0, 0, 0, false, 1, [], ⟨#[]⟩, [], none⟩ : aO))) L2)), .blk f [vI (S.X.cN), vI (S.X.cB), vI (S.X.cH), vI (S.X.cS), vI (S.X.cZ), .map (some m), vP t, vI (S.X.last), vI (S.X.ah), vI (S.X.used)] 86, .abs (aH Tryz.prog 3 m (aM (aI L2 S.idx)) S.idx.length), .abs (ak (bg (ay S.O (aC S.X) (fun _ => (⟨0, c.mode, 0, 0, 0, 0, 0, 0, false, 1, [], ⟨#[]⟩, [], none⟩ : aO))) L2)), .abs (aY 156 t S.X.cH S.au (aI L2 S.us)), .blk cb [vI (c.op), vI (c.handle), vI (c.other), .string c.name, .string c.text, .slice c.dA (c.data.length) (c.dC), vI (c.mode), vI (c.uid), vI (c.gid), vI (c.sec), vI (c.nano), vI (c.code), vI (c.answer)] 43, .abs R]) (fun w hS => by rw [eU hL2 hfr.idx, eU hL2 hfr.us]; exact hS) ?_
  refine gL (f := 132) (args := #[vP f, .iface 89 (vP b4)]) (pre := [pF f m t S.X, jG t S L2, LV S c L2]) [2, 5, 1] ((by have h := pK (β := β) { S with O := (ay S.O (aC S.X) (fun _ => (⟨0, c.mode, 0, 0, 0, 0, 0, 0, false, 1, [], ⟨#[]⟩, [], none⟩ : aO))) } L2 f m t ⟨(aC S.X), 1⟩ (by show (obj (ay S.O (aC S.X) (fun _ => (⟨0, c.mode, 0, 0, 0, 0, 0, 0, false, 1, [], ⟨#[]⟩, [], none⟩ : aO))) (aC S.X)).kind = 1; rw [bF]) (by simp) (by show 0 ≤ (obj (ay S.O (aC S.X) (fun _ => (⟨0, c.mode, 0, 0, 0, 0, 0, 0, false, 1, [], ⟨#[]⟩, [], none⟩ : aO))) (aC S.X)).opens ∧ (obj (ay S.O (aC S.X) (fun _ => (⟨0, c.mode, 0, 0, 0, 0, 0, 0, false, 1, [], ⟨#[]⟩, [], none⟩ : aO))) (aC S.X)).opens ≤ 1048576; rw [bF]; exact ⟨Int.le_refl _, by show (0 : Int) ≤ 1048576; decide⟩); rw [lQ hL2, gV (S := { S with O := (ay S.O (aC S.X) (fun _ => (⟨0, c.mode, 0, 0, 0, 0, 0, 0, false, 1, [], ⟨#[]⟩, [], none⟩ : aO))) }) (t := ⟨(aC S.X), 1⟩) qx] at h; exact h)) ?_
  rintro _ _ ⟨rfl, rfl⟩
  refine gC 7 [(6, vI 0)] [(5, a_ 6 cb)] [(6, [(12, vI ((TabM.least S.us)))])] ?_
  refine NS ?_
  refine gK 2 [(59, .bool false)] [] ?_
  refine NN ?_
  refine CF ?_
  refine af.skip (NX (SR ?_))
  refine aj.slot 7 (vP b4) (vP (L2.b (aC S.X))) (fun _ => by kernel_rfl) (by rw [xq hL2]) ?_
  refine aj.mem (aQ := [.blk f [vI (S.X.cN), vI (S.X.cB), vI (S.X.cH), vI (S.X.cS), vI (S.X.cZ), .map (some m), vP t, vI (S.X.last), vI (S.X.ah), vI (S.X.used)] 86, .abs (aY 156 t S.X.cH (max S.au ((S.us.length : Int) + 1)) (aI L2 (ins (TabM.least S.us) ⟨(aC S.X), 1⟩ S.us))), .abs (ak (aN (ay (ay S.O (aC S.X) (fun _ => (⟨0, c.mode, 0, 0, 0, 0, 0, 0, false, 1, [], ⟨#[]⟩, [], none⟩ : aO))) (aC S.X) (fun o => { o with opens := o.opens + 1 })) L2)), .abs (ak (aV (ay (ay S.O (aC S.X) (fun _ => (⟨0, c.mode, 0, 0, 0, 0, 0, 0, false, 1, [], ⟨#[]⟩, [], none⟩ : aO))) (aC S.X) (fun o => { o with opens := o.opens + 1 })) L2)), .abs (aH Tryz.prog 3 m (aM (aI L2 S.idx)) S.idx.length), .abs (ak (bg (ay (ay S.O (aC S.X) (fun _ => (⟨0, c.mode, 0, 0, 0, 0, 0, 0, false, 1, [], ⟨#[]⟩, [], none⟩ : aO))) (aC S.X) (fun o => { o with opens := o.opens + 1 })) L2)), .blk cb [vI (c.op), vI (c.handle), vI (c.other), .string c.name, .string c.text, .slice c.dA (c.data.length) (c.dC), vI (c.mode), vI (c.uid), vI (c.gid), vI (c.sec), vI (c.nano), vI (c.code), vI ((TabM.least S.us))] 43, .abs R]) (fun w hS => by rw [kA (O := (ay S.O (aC S.X) (fun _ => (⟨0, c.mode, 0, 0, 0, 0, 0, 0, false, 1, [], ⟨#[]⟩, [], none⟩ : aO)))) (k := (aC S.X)) (f := (fun o => { o with opens := o.opens + 1 })) rfl rfl, kB (O := (ay S.O (aC S.X) (fun _ => (⟨0, c.mode, 0, 0, 0, 0, 0, 0, false, 1, [], ⟨#[]⟩, [], none⟩ : aO)))) (k := (aC S.X)) (f := (fun o => { o with opens := o.opens + 1 })) rfl rfl]; exact hS) ?_
  have hkN : (obj (ay (ay S.O (aC S.X) (fun _ => (⟨0, c.mode, 0, 0, 0, 0, 0, 0, false, 1, [], ⟨#[]⟩, [], none⟩ : aO))) (aC S.X) (fun o => { o with opens := o.opens + 1 })) (aC S.X)).kind = 1 := by rw [bF, bF]
  have NU : (obj (ay (ay S.O (aC S.X) (fun _ => (⟨0, c.mode, 0, 0, 0, 0, 0, 0, false, 1, [], ⟨#[]⟩, [], none⟩ : aO))) (aC S.X) (fun o => { o with opens := o.opens + 1 })) (aC S.X)).opens = 1 := by rw [bF, bF]; rfl
  generalize bN : (ay (ay S.O (aC S.X) (fun _ => (⟨0, c.mode, 0, 0, 0, 0, 0, 0, false, 1, [], ⟨#[]⟩, [], none⟩ : aO))) (aC S.X) (fun o => { o with opens := o.opens + 1 })) = bI at hkN NU ⊢
  refine gK 6 [(8, vI ((obj bI (aC S.X)).opens))] [(4, v_ 2 (iG L2 hkN))] ?_
  refine NS ?_
  refine gK 6 [(66, vP (L2.b (aC S.X))), (67, vP f), (71, vI (c.mode))] [(5, a_ 6 cb)] ?_
  refine gL [0] (qv S.X f m t hX c.mode) ?_
  rintro _ _ ⟨rfl, rfl⟩
  refine gK 2 [(74, vP (L2.b (aC S.X)))] [] ?_
  refine aj.mem (aQ := [.blk f [vI (S.X.cN), vI (S.X.cB), vI (S.X.cH), vI (S.X.cS), vI (S.X.cZ), .map (some m), vP t, vI (S.X.last + 1), vI (S.X.ah), vI (S.X.used)] 86, .abs (aY 156 t S.X.cH (max S.au ((S.us.length : Int) + 1)) (aI L2 (ins (TabM.least S.us) ⟨(aC S.X), 1⟩ S.us))), .abs (ak (iB (aN bI L2) (aC S.X) bP.none)), .abs (ak (aV bI L2)), .abs (aH Tryz.prog 3 m (aM (aI L2 S.idx)) S.idx.length), .abs (ak (bg bI L2)), .blk cb [vI (c.op), vI (c.handle), vI (c.other), .string c.name, .string c.text, .slice c.dA (c.data.length) (c.dC), vI (c.mode), vI (c.uid), vI (c.gid), vI (c.sec), vI (c.nano), vI (c.code), vI ((TabM.least S.us))] 43, .abs R, .blk (L2.b (aC S.X)) [vI ((obj bI (aC S.X)).id), vI ((obj bI (aC S.X)).mode), vI ((obj bI (aC S.X)).uid), vI ((obj bI (aC S.X)).gid), vI ((obj bI (aC S.X)).sec), vI ((obj bI (aC S.X)).nano), vI ((obj bI (aC S.X)).links), vI ((obj bI (aC S.X)).opens), .bool (obj bI (aC S.X)).gone, .slice (L2.dA (aC S.X)) ((obj bI (aC S.X)).data.length) ((L2.dC (aC S.X)))] 92]) (fun w hS => hS.tL (i := 2) (k := (aC S.X)) rfl (by rw [hkN]; decide) (ef (hkN)) (by rw [hkN]; rfl)) ?_
  refine gC 1 [] [(0, A_ 8 (L2.b (aC S.X)) 9)] [(8, [(0, vI (S.X.last + 1)), (1, vI (c.mode)), (2, vI 0), (3, vI 0), (4, vI (S.X.cS)), (5, vI (S.X.cZ)), (6, vI 0), (7, vI 0), (8, .bool false)])] ?_
  refine aj.mem (aQ := [.abs (ak (aN (ay bI (aC S.X) (fun o => { o with id := S.X.last + 1, mode := c.mode, uid := 0, gid := 0, sec := S.X.cS, nano := S.X.cZ, links := 0, opens := 0, gone := false })) L2)), .blk f [vI (S.X.cN), vI (S.X.cB), vI (S.X.cH), vI (S.X.cS), vI (S.X.cZ), .map (some m), vP t, vI (S.X.last + 1), vI (S.X.ah), vI (S.X.used)] 86, .abs (aY 156 t S.X.cH (max S.au ((S.us.length : Int) + 1)) (aI L2 (ins (TabM.least S.us) ⟨(aC S.X), 1⟩ S.us))), .abs (ak (aV (ay bI (aC S.X) (fun o => { o with id := S.X.last + 1, mode := c.mode, uid := 0, gid := 0, sec := S.X.cS, nano := S.X.cZ, links := 0, opens := 0, gone := false })) L2)), .abs (aH Tryz.prog 3 m (aM (aI L2 S.idx)) S.idx.length), .abs (ak (bg (ay bI (aC S.X) (fun o => { o with id := S.X.last + 1, mode := c.mode, uid := 0, gid := 0, sec := S.X.cS, nano := S.X.cZ, links := 0, opens := 0, gone := false })) L2)), .blk cb [vI (c.op), vI (c.handle), vI (c.other), .string c.name, .string c.text, .slice c.dA (c.data.length) (c.dC), vI (c.mode), vI (c.uid), vI (c.gid), vI (c.sec), vI (c.nano), vI (c.code), vI ((TabM.least S.us))] 43, .abs R]) (fun w hS => by have h := hS.uN (O := bI) (L := L2) (i := 2) (j := 8) (idx := [0, 1, 3, 4, 5, 6, 7]) (k := (aC S.X)) (f := (fun o => { o with id := S.X.last + 1, mode := c.mode, uid := 0, gid := 0, sec := S.X.cS, nano := S.X.cZ, links := 0, opens := 0, gone := false })) rfl (fun _ hx => lN hx) rfl (by kernel_rfl) rfl (by show (obj bI (aC S.X)).kind ≠ 0; rw [hkN]; decide) ((ef (o := (fun o => { o with id := S.X.last + 1, mode := c.mode, uid := 0, gid := 0, sec := S.X.cS, nano := S.X.cZ, links := 0, opens := 0, gone := false }) (obj bI (aC S.X))) (hkN)).trans rfl) (by show kH (obj bI (aC S.X)).kind = _; rw [hkN]; rfl); rw [kA (O := bI) (k := (aC S.X)) (f := (fun o => { o with id := S.X.last + 1, mode := c.mode, uid := 0, gid := 0, sec := S.X.cS, nano := S.X.cZ, links := 0, opens := 0, gone := false })) rfl rfl, kB (O := bI) (k := (aC S.X)) (f := (fun o => { o with id := S.X.last + 1, mode := c.mode, uid := 0, gid := 0, sec := S.X.cS, nano := S.X.cZ, links := 0, opens := 0, gone := false })) rfl rfl]; exact h) ?_
  have t6 : (obj (ay bI (aC S.X) (fun o => { o with id := S.X.last + 1, mode := c.mode, uid := 0, gid := 0, sec := S.X.cS, nano := S.X.cZ, links := 0, opens := 0, gone := false })) (aC S.X)).kind = 1 := (ig (f := (fun o => { o with id := S.X.last + 1, mode := c.mode, uid := 0, gid := 0, sec := S.X.cS, nano := S.X.cZ, links := 0, opens := 0, gone := false })) (fun _ => rfl)).trans (hkN)
  generalize cr : (ay bI (aC S.X) (fun o => { o with id := S.X.last + 1, mode := c.mode, uid := 0, gid := 0, sec := S.X.cS, nano := S.X.cZ, links := 0, opens := 0, gone := false })) = cV at t6 ⊢
  refine NS ?_
  refine gK 5 [(76, vI ((obj bI (aC S.X)).opens)), (79, .pointer (some ⟨(L2.b (aC S.X)), 7, none⟩))] [] ?_
  refine pH 0 [(5, 1), (3, 2)] (aC S.X) 7 (fun o => { o with opens := (obj bI (aC S.X)).opens }) t6 (fun rE jL => ?_)
  have Ix := ku jL t6
  refine NS ?_
  have hfin : rE = ay S.O (aC S.X) (fun _ => { aB S.X 1 c.mode with opens := 1 }) := by subst jL; subst cr; rw [NU]; subst bN; simp only [qh]; rfl
  subst hfin
  show aj _ _ _ _ _ _ [pO (ay S.O (aC S.X) (fun _ => { aB S.X 1 c.mode with opens := 1 })) L2, xY f m t S, pT t S.X.cH (max S.au ((S.us.length : Int) + 1)) L2 (ins (TabM.least S.us) ⟨(aC S.X), 1⟩ S.us), pD (ay S.O (aC S.X) (fun _ => { aB S.X 1 c.mode with opens := 1 })) L2, pI m L2 S.idx, pE (ay S.O (aC S.X) (fun _ => { aB S.X 1 c.mode with opens := 1 })) L2, pC cb { c with answer := TabM.least S.us }, .abs R] _
  refine gK 8 [(80, vP f), (81, vP (L.b d)), (85, .string c.name), (87, .iface 89 (vP (L2.b (aC S.X))))] [(5, a_ 6 cb)] ?_
  refine gL (f := 56) (args := #[vP f, vP (L.b d), .string c.name, .iface 89 (vP (L2.b (aC S.X)))]) (pre := [xY f m t S, pI m L2 S.idx, pO (ay S.O (aC S.X) (fun _ => { aB S.X 1 c.mode with opens := 1 })) L2, pE (ay S.O (aC S.X) (fun _ => { aB S.X 1 c.mode with opens := 1 })) L2]) [1, 4, 0, 5] ((by have h := oJ (β := β) S L2 f m t hI.toInv0 d hd c.name hC.nm hno { aB S.X 1 c.mode with opens := 1 } rfl (by simp [aB]) rfl (nB h0); rw [rZ hL2 (hI.rz hd)] at h; exact h)) ?_
  rintro _ _ ⟨rfl, rfl⟩
  refine NS ?_
  refine aj.mem (aQ := [.blk f [vI ((bB S d c.name { aB S.X 1 c.mode with opens := 1 }).X.cN), vI ((bB S d c.name { aB S.X 1 c.mode with opens := 1 }).X.cB), vI ((bB S d c.name { aB S.X 1 c.mode with opens := 1 }).X.cH), vI ((bB S d c.name { aB S.X 1 c.mode with opens := 1 }).X.cS), vI ((bB S d c.name { aB S.X 1 c.mode with opens := 1 }).X.cZ), .map (some m), vP t, vI ((bB S d c.name { aB S.X 1 c.mode with opens := 1 }).X.last), vI ((bB S d c.name { aB S.X 1 c.mode with opens := 1 }).X.ah), vI ((bB S d c.name { aB S.X 1 c.mode with opens := 1 }).X.used)] 86, .abs (aH Tryz.prog 3 m (aM (aI L2 (bB S d c.name { aB S.X 1 c.mode with opens := 1 }).idx)) ((bB S d c.name { aB S.X 1 c.mode with opens := 1 }).idx.length)), .abs (ak (aN ((bB S d c.name { aB S.X 1 c.mode with opens := 1 }).O) L2)), .abs (ak (bg ((bB S d c.name { aB S.X 1 c.mode with opens := 1 }).O) L2)), .abs (aY 156 t S.X.cH (max S.au ((S.us.length : Int) + 1)) (aI L2 (ins (TabM.least S.us) ⟨(aC S.X), 1⟩ S.us))), .abs (ak (aV ((bB S d c.name { aB S.X 1 c.mode with opens := 1 }).O) L2)), .blk cb [vI (c.op), vI (c.handle), vI (c.other), .string c.name, .string c.text, .slice c.dA (c.data.length) (c.dC), vI (c.mode), vI (c.uid), vI (c.gid), vI (c.sec), vI (c.nano), vI (c.code), vI ((TabM.least S.us))] 43, .abs R]) (fun w hS => by rw [show aV ((bB S d c.name { aB S.X 1 c.mode with opens := 1 }).O) L2 = aV (ay S.O (aC S.X) (fun _ => { aB S.X 1 c.mode with opens := 1 })) L2 from fA]; exact hS) ?_
  refine gK 1 [(4, vI 0)] [] ?_
  refine NN (af.ret ?_)
  exact RT (vI 0) [0, 1, 4, 2, 5, 3, 6, 7] (⟨L2, by rw [show (dg S c) = (0, (bB { S with us := (ins (TabM.least S.us) ⟨(aC S.X), 1⟩ S.us), au := (max S.au ((S.us.length : Int) + 1)) } d c.name { aB S.X 1 c.mode with opens := 1 }), { c with answer := TabM.least S.us }) by unfold dg; rw [hab]; exact (if_pos kf).trans ((if_pos h0).trans (by rw [show createM S d c.name c.mode = (TabM.least S.us, 0, (bB { S with us := (ins (TabM.least S.us) ⟨(aC S.X), 1⟩ S.us), au := (max S.au ((S.us.length : Int) + 1)) } d c.name { aB S.X 1 c.mode with opens := 1 })) from (if_pos h0).trans (if_pos qx)]))] <;> exact ⟨rfl, rfl⟩⟩)
 refine af.region ?_
 refine gK 4 (LX cb f b4) [] ?_
 obtain ⟨L2, hL2⟩ : ∃ L2 : HL, L2 = L.put (aC S.X) b4 0 none 0 := ⟨_, rfl⟩
 have hfr := hI.toInv0.fresh
 refine aj.mem (aQ := [.abs (ak (aN (ay S.O (aC S.X) (fun _ => (⟨0, c.mode, 0, 0, 0, 0, 0, 0, false, 1, [], ⟨#[]⟩, [], none⟩ : aO))) L2)), .blk f [vI (S.X.cN), vI (S.X.cB), vI (S.X.cH), vI (S.X.cS), vI (S.X.cZ), .map (some m), vP t, vI (S.X.last), vI (S.X.ah), vI (S.X.used)] 86, .abs (aH Tryz.prog 3 m (aM (aI L S.idx)) S.idx.length), .abs (ak (bg S.O L)), .abs (aY 156 t S.X.cH S.au (aI L S.us)), .abs (ak (aV S.O L)), .blk cb [vI (c.op), vI (c.handle), vI (c.other), .string c.name, .string c.text, .slice c.dA (c.data.length) (c.dC), vI (c.mode), vI (c.uid), vI (c.gid), vI (c.sec), vI (c.nano), vI (c.code), vI (c.answer)] 43, .abs R]) (fun w hS => hS.qt hL2 hfr (o := (⟨0, c.mode, 0, 0, 0, 0, 0, 0, false, 1, [], ⟨#[]⟩, [], none⟩ : aO)) (i := 3) (j := 8) (ix := [0, 1, 2, 4, 5, 6, 7]) rfl rfl (by kernel_rfl) rfl (by show (1 : Int) ≠ 0; decide) ((ef (L := L2) (k := (aC S.X)) (o := (⟨0, c.mode, 0, 0, 0, 0, 0, 0, false, 1, [], ⟨#[]⟩, [], none⟩ : aO)) rfl).trans (by rw [show L2.dA (aC S.X) = none by rw [hL2]; exact if_pos rfl, show L2.dC (aC S.X) = 0 by rw [hL2]; exact if_pos rfl]; rfl)) rfl) ?_
 refine aj.mem (aQ := (zn S c L2 f m t L ++ [pD S.O L, pC cb c, .abs R])) (fun w hS => hS.rA hL2 hfr (o := (⟨0, c.mode, 0, 0, 0, 0, 0, 0, false, 1, [], ⟨#[]⟩, [], none⟩ : aO)) (i := 3) rfl (by show (1 : Int) ≠ 2; decide)) ?_
 refine aj.mem (aQ := (zn S c L2 f m t L ++ [pD S.O L, pC cb c, .abs R, .abs (aE 5 1 none 0 0 ([]))])) (fun w hS => hS.jD (e := 5) (size := 1)) ?_
 refine aj.mem (aQ := ([LW S c L2] ++ zn S c L2 f m t L ++ [pC cb c, .abs R])) (fun w hS => hS.En hL2 (o := (⟨0, c.mode, 0, 0, 0, 0, 0, 0, false, 1, [], ⟨#[]⟩, [], none⟩ : aO)) (i := 5) (j := 8) (ix := [0, 1, 2, 3, 4, 6, 7]) rfl rfl (by kernel_rfl) rfl rfl rfl) ?_
 refine aj.mem (aQ := [.abs (ak (aV (ay S.O (aC S.X) (fun _ => (⟨0, c.mode, 0, 0, 0, 0, 0, 0, false, 1, [], ⟨#[]⟩, [], none⟩ : aO))) L2)), .abs (ak (aN (ay S.O (aC S.X) (fun _ => (⟨0, c.mode, 0, 0, 0, 0, 0, 0, false, 1, [], ⟨#[]⟩, [], none⟩ : aO))) L2)), .blk f [vI (S.X.cN), vI (S.X.cB), vI (S.X.cH), vI (S.X.cS), vI (S.X.cZ), .map (some m), vP t, vI (S.X.last), vI (S.X.ah), vI (S.X.used)] 86, .abs (aH Tryz.prog 3 m (aM (aI L2 S.idx)) S.idx.length), .abs (ak (bg (ay S.O (aC S.X) (fun _ => (⟨0, c.mode, 0, 0, 0, 0, 0, 0, false, 1, [], ⟨#[]⟩, [], none⟩ : aO))) L2)), .abs (aY 156 t S.X.cH S.au (aI L2 S.us)), .blk cb [vI (c.op), vI (c.handle), vI (c.other), .string c.name, .string c.text, .slice c.dA (c.data.length) (c.dC), vI (c.mode), vI (c.uid), vI (c.gid), vI (c.sec), vI (c.nano), vI (c.code), vI (c.answer)] 43, .abs R]) (fun w hS => by rw [eU hL2 hfr.idx, eU hL2 hfr.us]; exact hS) ?_
 refine gL (f := 132) (args := #[vP f, .iface 89 (vP b4)]) (pre := [pF f m t S.X, jG t S L2, LV S c L2]) [2, 5, 1] ((by have h := pK (β := β) { S with O := (ay S.O (aC S.X) (fun _ => (⟨0, c.mode, 0, 0, 0, 0, 0, 0, false, 1, [], ⟨#[]⟩, [], none⟩ : aO))) } L2 f m t ⟨(aC S.X), 1⟩ (by show (obj (ay S.O (aC S.X) (fun _ => (⟨0, c.mode, 0, 0, 0, 0, 0, 0, false, 1, [], ⟨#[]⟩, [], none⟩ : aO))) (aC S.X)).kind = 1; rw [bF]) (by simp) (by show 0 ≤ (obj (ay S.O (aC S.X) (fun _ => (⟨0, c.mode, 0, 0, 0, 0, 0, 0, false, 1, [], ⟨#[]⟩, [], none⟩ : aO))) (aC S.X)).opens ∧ (obj (ay S.O (aC S.X) (fun _ => (⟨0, c.mode, 0, 0, 0, 0, 0, 0, false, 1, [], ⟨#[]⟩, [], none⟩ : aO))) (aC S.X)).opens ≤ 1048576; rw [bF]; exact ⟨Int.le_refl _, by show (0 : Int) ≤ 1048576; decide⟩); rw [lQ hL2, jj (S := { S with O := (ay S.O (aC S.X) (fun _ => (⟨0, c.mode, 0, 0, 0, 0, 0, 0, false, 1, [], ⟨#[]⟩, [], none⟩ : aO))) }) (t := ⟨(aC S.X), 1⟩) (by show ¬ (S.us.length : Int) < S.X.cH; omega)] at h; exact h)) ?_
 rintro _ _ ⟨rfl, rfl⟩
 refine gC 7 [(6, vI 130)] [(5, a_ 6 cb)] [(6, [(12, vI 0)])] ?_
 refine NS ?_
 refine gK 2 [(59, .bool true)] [] ?_
 refine NN ?_
 refine CT ?_
 refine SR ?_
 have hk0 : (obj S.O (aC S.X)).kind = 0 := hI.oI _ (by have := mT hI.toInv0; omega)
 refine aj.mem (aQ := [.blk f [vI (S.X.cN), vI (S.X.cB), vI (S.X.cH), vI (S.X.cS), vI (S.X.cZ), .map (some m), vP t, vI (S.X.last), vI (S.X.ah), vI (S.X.used)] 86, .abs (aY 156 t S.X.cH S.au (aI L2 S.us)), .abs (ak (aN S.O L)), .abs (ak (aV (ay S.O (aC S.X) (fun _ => (⟨0, c.mode, 0, 0, 0, 0, 0, 0, false, 1, [], ⟨#[]⟩, [], none⟩ : aO))) L2)), .abs (aH Tryz.prog 3 m (aM (aI L2 S.idx)) S.idx.length), .abs (ak (bg (ay S.O (aC S.X) (fun _ => (⟨0, c.mode, 0, 0, 0, 0, 0, 0, false, 1, [], ⟨#[]⟩, [], none⟩ : aO))) L2)), .blk cb [vI (c.op), vI (c.handle), vI (c.other), .string c.name, .string c.text, .slice c.dA (c.data.length) (c.dC), vI (c.mode), vI (c.uid), vI (c.gid), vI (c.sec), vI (c.nano), vI (c.code), vI 0] 43, .abs R]) (fun w hS => hS.tT (i := 2) rfl (aC S.X) (fun x hx => by rw [q8 hx, DI hL2 hfr hx]) (by unfold aN; rw [hk0]; rfl)) ?_
 refine aj.mem (aQ := [.blk f [vI (S.X.cN), vI (S.X.cB), vI (S.X.cH), vI (S.X.cS), vI (S.X.cZ), .map (some m), vP t, vI (S.X.last), vI (S.X.ah), vI (S.X.used)] 86, .abs (aY 156 t S.X.cH S.au (aI L2 S.us)), .abs (ak (aN S.O L)), .abs (ak (aV (ay S.O (aC S.X) (fun _ => (⟨0, c.mode, 0, 0, 0, 0, 0, 0, false, 1, [], ⟨#[]⟩, [], none⟩ : aO))) L2)), .abs (aH Tryz.prog 3 m (aM (aI L2 S.idx)) S.idx.length), .abs (ak (bg S.O L)), .blk cb [vI (c.op), vI (c.handle), vI (c.other), .string c.name, .string c.text, .slice c.dA (c.data.length) (c.dC), vI (c.mode), vI (c.uid), vI (c.gid), vI (c.sec), vI (c.nano), vI (c.code), vI 0] 43, .abs R]) (fun w hS => hS.tT (i := 5) rfl (aC S.X) (fun x hx => by rw [tH hx, y6 hL2 hfr hx]) (by unfold bg; rw [hk0]; rfl)) ?_
 refine aj.mem (aQ := [.blk f [vI (S.X.cN), vI (S.X.cB), vI (S.X.cH), vI (S.X.cS), vI (S.X.cZ), .map (some m), vP t, vI (S.X.last), vI (S.X.ah), vI (S.X.used)] 86, .abs (aY 156 t S.X.cH S.au (aI L2 S.us)), .abs (ak (aN S.O L)), .abs (ak (aV S.O L)), .abs (aH Tryz.prog 3 m (aM (aI L2 S.idx)) S.idx.length), .abs (ak (bg S.O L)), .blk cb [vI (c.op), vI (c.handle), vI (c.other), .string c.name, .string c.text, .slice c.dA (c.data.length) (c.dC), vI (c.mode), vI (c.uid), vI (c.gid), vI (c.sec), vI (c.nano), vI (c.code), vI 0] 43, .abs R]) (fun w hS => hS.tT (i := 3) rfl (aC S.X) (fun x hx => by rw [tI hx, uR hL2 hx]) (by unfold aV; rw [hk0]; rfl)) ?_
 refine aj.mem (aQ := [.blk f [vI (S.X.cN), vI (S.X.cB), vI (S.X.cH), vI (S.X.cS), vI (S.X.cZ), .map (some m), vP t, vI (S.X.last), vI (S.X.ah), vI (S.X.used)] 86, .abs (aY 156 t S.X.cH S.au (aI L S.us)), .abs (ak (aN S.O L)), .abs (ak (aV S.O L)), .abs (aH Tryz.prog 3 m (aM (aI L S.idx)) S.idx.length), .abs (ak (bg S.O L)), .blk cb [vI (c.op), vI (c.handle), vI (c.other), .string c.name, .string c.text, .slice c.dA (c.data.length) (c.dC), vI (c.mode), vI (c.uid), vI (c.gid), vI (c.sec), vI (c.nano), vI (c.code), vI 0] 43, .abs R]) (fun w hS => by rw [eU hL2 hfr.idx, eU hL2 hfr.us] at hS; exact hS) ?_
 refine gK 2 [(4, vI 130)] [] ?_
 refine NN (af.ret (ai.aq ?_))
 exact RT (vI 130) [0, 4, 1, 2, 3, 5, 6, 7] (⟨L, by rw [show (dg S c) = (130, S, { c with answer := 0 }) by unfold dg; rw [hab]; exact (if_pos kf).trans ((if_pos h0).trans (by rw [show createM S d c.name c.mode = (0, 130, S) from (if_pos h0).trans (if_neg (by omega))]))] <;> exact ⟨rfl, rfl⟩⟩)
end
section
open Go.RowKit
def rG (b : Nat) (v : Value) : bP where
  h F w := ∃ cs T, cs[0]? = some v ∧ (HP.blk b cs T).h F w
  lt := fun ⟨_, _, _, h⟩ => HP.lt h
  st := fun ⟨cs, T, hv, h⟩ _ _ hk hd => ⟨cs, T, hv, HP.st h hk hd⟩
theorem rG.cell {b : Nat} {v : Value} : ∀ F w, (rG b v).h F w → w.cell? ⟨b, 0, none⟩ = some v := by
  rintro F w ⟨cs, T, hv, h⟩
  exact (eV h.1 rfl rfl hv).1
theorem Sat.first {β : Bs} {l : List HP} {w : World} {i b : Nat} {cs : List Value} {T : TypeId} {v : Value} (h : Sat β l w) (hp : l[i]? = some (.blk b cs T)) (hv : cs[0]? = some v) : Sat β [.abs (rG b v)] w := by
  obtain ⟨ho, φ, h1, h2, h3⟩ := h
  have hi := br hp
  refine ⟨ho, fun _ => φ i, fun j q hq => ?_, fun j hj => h2 i hi, fun j k hj hk hne => ?_⟩
  ·have hj := br hq
   simp at hj
   subst hj
   simp at hq
   subst hq
   exact ⟨cs, T, hv, h1 i _ hp⟩
  simp at hj hk
  omega
section mix
variable {P : Program} {β : Bs} {N : Nat} {ops : Array Oper} {S : List HP} {l : List Nat} {fr : Fr} {hps : List HP} {Q : Post} {i : Nat}
theorem af.ES {id : Nat} (perm : List Nat) (nr : Nat) (hm : P.follows .mixedOrders = true) (hB : wR ops perm nr = true) (hp : ∀ w, Sat β hps w → Sat β S w) (h : aG P β N ops S nr perm fr hps Q) : af P β N (.region id ops true) fr hps Q := by
  intro junk w hS
  unfold wR at hB
  simp only [Bool.and_eq_true, beq_iff_eq] at hB
  obtain ⟨⟨⟨h1, h2⟩, h3⟩, h4⟩ := hB
  have cO := hS.drewN 1
  have h5 := yH (Q := Q) h1 h2 nr perm _ _ _ h4 (fun j oj _ hl => by simp [Array.getD_eq_getD_getElem?, Array.getElem?_replicate] at hl; split at hl <;> simp at hl) (hp _ cO) (h junk (w.drewN 1) cO)
  rw [h3] at h5
  refine Code.wp_mono (fun e a w q => ?_) (wp_region_any hm (lY _ _ _ _ h5))
  cases e with
  | normal => exact q
  | exit id => exact q.elim
  | goto l => exact q.elim
  | ret => exact q.elim
  | panic ch => exact q.elim
  | outgrown => exact q.elim
theorem aG.ET {ι : Type} {fr' : ι → Fr} {hp' : ι → List HP} {o : Oper} (hop : ops[i]? = some o) (hg : o.guard = none) (h : aj P β N #[o] 0 fr hps (NP (iY β N fr' hp'))) (hp : ∀ j w, Sat β (hp' j) w → Sat β S w)
    (K : ∀ j, aG P β N ops S 0 l (fr' j) (hp' j) Q) : aG P β N ops S 0 (i :: l) fr hps Q := by
  intro junk w hS
  unfold kq
  refine eX hop hg ?_
  have h1 := h junk w hS
  have h2 : wpList P #[o] (NP (iY β N fr' hp')) [o] (cu N fr junk) w := h1
  refine gT (fun a w ⟨j, fD, ha, cO⟩ => ?_) h2
  subst ha
  exact ⟨.inr (hp j _ cO), K j fD w cO⟩
end mix
end
section
open Go.RowKit Go.Maps HeapM TabM
def Gw : List Nat := [78, 79, 80, 81, 82, 83, 84, 85, 86, 87, 88, 89, 90, 91, 92]
def NV : Value := .agg ⟨.nilFunc :: Gw.map (fun f => .func (.func f) #[] #[])⟩
theorem EU {n : Int} (h : 1 ≤ n ∧ n ≤ 15) : n = 1 ∨ n = 2 ∨ n = 3 ∨ n = 4 ∨ n = 5 ∨ n = 6 ∨ n = 7 ∨ n = 8 ∨ n = 9 ∨ n = 10 ∨ n = 11 ∨ n = 12 ∨ n = 13 ∨ n = 14 ∨ n = 15 := by omega
theorem LY {w : World} {o : Oper} {ev : Operand → Value} {x y : Operand} {n : Int} (ho : o.op = .index 118 x y) (hx : ev x = NV) (hy : ev y = .int .i64 n) (hn : 1 ≤ n ∧ n ≤ 15) : lD Tryz.prog ev o w (.func (.func (Gw.getD (n.toNat - 1) 0)) #[] #[]) w := by
  obtain ⟨dst, op, type, pos, after, guard⟩ := o
  cases ho
  refine .inl ?_
  simp only [execOp, hx, hy]
  rcases EU hn with h | h | h | h | h | h | h | h | h | h | h | h | h | h | h <;> subst h <;> kernel_rfl
theorem aj.hn {β : Bs} {N k : Nat} {ops : Array Oper} {fr : Fr} {hps : List HP} {Q : Post} {d : Option Tmp} {x y : Operand} {n : Int} (hn : 1 ≤ n ∧ n ≤ 15) (K : aj Tryz.prog β N ops (k + 1) (cG fr d (.func (.func (Gw.getD (n.toNat - 1) 0)) #[] #[])) hps Q)
    (hop : ∀ junk, dQ N junk ops fr k = some (.index 118 x y, d) := by intro _; kernel_rfl) (hx : ∀ junk, cA N fr junk x = NV := by intro _; kernel_rfl) (hy : ∀ junk, cA N fr junk y = .int .i64 n := by intro _; kernel_rfl) : aj Tryz.prog β N ops k fr hps Q :=
  aj.gM hop (fun _ junk w ho hS => ⟨w, LY ho (hx junk) (hy junk) hn, hS⟩) K
theorem Ni {β : Bs} {S : aF} {L : HL} {f m t b : Nat} {c : aT} (n : Int) (hI : Inv S) (hC : fB β c) (h : 1 ≤ n ∧ n ≤ 15) (he : c.op = n) : Spec Tryz.prog β (Gw.getD (n.toNat - 1) 0) #[vP f, vP b] (pA f m t L S ++ [pC b c]) (fun v l => ∃ L2, v = vI (opM S c).1 ∧ l = pA f m t L2 (opM S c).2.1 ++ [pC b (opM S c).2.2]) := by
  subst he
  rcases EU h with h | h | h | h | h | h | h | h | h | h | h | h | h | h | h <;> rw [h]
  ·rw [xE h]; exact EM S L f m t hI b c hC
  ·rw [xG h]; exact Az S L f m t hI b c hC
  ·rw [AQ h]; exact zk S L f m t hI b c hC
  ·rw [xH h]; exact Dh S L f m t hI b c hC
  ·rw [AR h]; exact Cy S L f m t hI b c hC
  ·rw [AU h]; exact AA S L f m t hI b c hC
  ·rw [AV h]; exact EQ S L f m t hI b c hC
  ·rw [AX h]; exact Ct S L f m t hI b c hC
  ·rw [AY h]; exact Dj S L f m t hI b c hC
  ·rw [xI h]; exact AB S L f m t hI b c hC
  ·rw [xJ h]; exact ER S L f m t hI b c hC
  ·rw [xK h]; exact Cx S L f m t hI b c hC
  ·rw [xL h]; exact Dk S L f m t hI b c hC
  ·rw [xM h]; exact Di S L f m t hI b c hC
  rw [xO h]; exact Cu S L f m t hI b c hC
theorem Gx {S : aF} {c : aT} (h : 1 ≤ c.op ∧ c.op ≤ 15) : (opM S c).2.2.op = c.op := by
  rcases EU h with h | h | h | h | h | h | h | h | h | h | h | h | h | h | h
  ·rw [xE h]; exact Kh
  ·rw [xG h]; exact Eu
  ·rw [AQ h]; exact Da
  ·rw [xH h]; exact Ev
  ·rw [AR h]; exact Db
  ·rw [AU h]; exact Ce
  ·rw [AV h]; exact Gd
  ·rw [AX h]; exact Dc
  ·rw [AY h]; exact Ey
  ·rw [xI h]; exact Ez
  ·rw [xJ h]; exact Ki
  ·rw [xK h]; exact Ge
  ·rw [xL h]; exact Iq
  ·rw [xM h]; exact Ew
  rw [xO h]; exact Dd
end
section
open Go.RowKit Go.Maps HeapM TabM
attribute [local irreducible] aj aS af ai
abbrev JS (b3 : Nat) := (.blk b3 [vI 0, vI 0, vI 0, .string ⟨#[]⟩, .string ⟨#[]⟩, .slice none (0) (0), vI 0, vI 0, vI 0, vI 0, vI 0, vI 0, vI 0] 43 : HP)
abbrev NW (c : aT) := ([(0, vI (c.op)), (1, vI (c.handle)), (2, vI (c.other)), (3, .string c.name), (4, .string c.text), (5, .slice c.dA (c.data.length) (c.dC)), (6, vI (c.mode)), (7, vI (c.uid)), (8, vI (c.gid)), (9, vI (c.sec)), (10, vI (c.nano)), (11, vI 230)] : Fr)
theorem Dl {β : Bs} : Spec Tryz.prog β 44 #[] [] (fun v l => v = .agg #[.nilFunc, .func (.func 78) #[] #[], .func (.func 79) #[] #[], .func (.func 80) #[] #[], .func (.func 81) #[] #[], .func (.func 82) #[] #[], .func (.func 83) #[] #[], .func (.func 84) #[] #[], .func (.func 85) #[] #[], .func (.func 86) #[] #[], .func (.func 87) #[] #[], .func (.func 88) #[] #[], .func (.func 89) #[] #[], .func (.func 90) #[] #[], .func (.func 91) #[] #[], .func (.func 92) #[] #[]] ∧ l = []) := by
 refine Spec.enter Tryz.func44 rfl Tryz.ntmps44 (Nat.le_of_ble_eq_true rfl) (fun R => ?_)
 refine SR ?_
 refine gN 1 (fun b1 => [(0, vP b1)]) (fun _ => []) (fun _ => []) (fun b1 => .blk b1 [.nilFunc, .nilFunc, .nilFunc, .nilFunc, .nilFunc, .nilFunc, .nilFunc, .nilFunc, .nilFunc, .nilFunc, .nilFunc, .nilFunc, .nilFunc, .nilFunc, .nilFunc, .nilFunc] 118) (fun b1 => ?_)
 refine NS ?_
 refine gC 2 [] [(1, A_ 1 b1 16)] [(1, [(1, .func (.func 78) #[] #[]), (2, .func (.func 79) #[] #[]), (3, .func (.func 80) #[] #[]), (4, .func (.func 81) #[] #[]), (5, .func (.func 82) #[] #[]), (6, .func (.func 83) #[] #[]), (7, .func (.func 84) #[] #[]), (8, .func (.func 85) #[] #[]), (9, .func (.func 86) #[] #[]), (10, .func (.func 87) #[] #[]), (11, .func (.func 88) #[] #[]), (12, .func (.func 89) #[] #[]), (13, .func (.func 90) #[] #[]), (14, .func (.func 91) #[] #[]), (15, .func (.func 92) #[] #[])])] ?_
 refine NN (af.ret ?_)
 exact ai.ret (v := .agg #[.nilFunc, .func (.func 78) #[] #[], .func (.func 79) #[] #[], .func (.func 80) #[] #[], .func (.func 81) #[] #[], .func (.func 82) #[] #[], .func (.func 83) #[] #[], .func (.func 84) #[] #[], .func (.func 85) #[] #[], .func (.func 86) #[] #[], .func (.func 87) #[] #[], .func (.func 88) #[] #[], .func (.func 89) #[] #[], .func (.func 90) #[] #[], .func (.func 91) #[] #[], .func (.func 92) #[] #[]]) (l := []) (aU := [b1 = b1, b1 = b1, b1 = b1, b1 = b1, b1 = b1, b1 = b1, b1 = b1, b1 = b1, b1 = b1, b1 = b1, b1 = b1, b1 = b1, b1 = b1, b1 = b1, b1 = b1, b1 = b1]) [.at 1, .at 1, .at 1, .at 1, .at 1, .at 1, .at 1, .at 1, .at 1, .at 1, .at 1, .at 1, .at 1, .at 1, .at 1, .at 1] [0] (fun _ => by kernel_rfl) ⟨rfl, rfl, rfl, rfl, rfl, rfl, rfl, rfl, rfl, rfl, rfl, rfl, rfl, rfl, rfl, rfl, trivial⟩ rfl (by kernel_rfl) (⟨rfl, rfl⟩)
theorem Gy {β : Bs} (S : aF) (L : HL) (f m t : Nat) (hI : Inv S) (c : aT) (hC : fB β c) :
    Spec Tryz.prog β 16 #[vP f, .agg #[vI (c.op), vI (c.handle), vI (c.other), .string c.name, .string c.text, .slice c.dA (c.data.length) (c.dC), vI (c.mode), vI (c.uid), vI (c.gid), vI (c.sec), vI (c.nano), vI (c.code), vI (c.answer)]] (pA f m t L S) (fun v l => ∃ L2, v = .agg ⟨fT (doM S c).2⟩ ∧ l = (pA f m t L2 ((doM S c).1))) := by
 have hX := hI.hX
 refine Spec.enter Tryz.func16 rfl Tryz.ntmps16 (Nat.le_of_ble_eq_true rfl) (fun R => ?_)
 refine SR ?_
 refine gN 1 (fun b2 => [(3, vP b2)]) (fun _ => []) (fun _ => []) (fun b2 => pC b2 c) (fun b2 => ?_)
 refine gN 1 (fun b3 => [(4, vP b3)]) (fun _ => []) (fun _ => []) (fun b3 => .blk b3 [vI 0, vI 0, vI 0, .string ⟨#[]⟩, .string ⟨#[]⟩, .slice none (0) (0), vI 0, vI 0, vI 0, vI 0, vI 0, vI 0, vI 0] 43) (fun b3 => ?_)
 refine NS ?_
 refine gC 2 [] [(1, a_ 7 b2)] [(7, [(12, vI 0)])] ?_
 refine NS ?_
 refine gC 2 [] [(1, a_ 7 b2)] [(7, [(11, vI 230)])] ?_
 refine NN (af.seq (SR ?_))
 refine gK 4 [(10, .bool (decide ((c.op : Int) ≥ (1 : Int))))] [(1, a_ 7 b2)] ?_
 refine aj.gh 10 ((c.op : Int) ≥ (1 : Int)) (fun _ => by kernel_rfl) (fun h10 => ?_) (fun h10 => ?_)
 ·refine gK 4 [(14, .bool (decide ((c.op : Int) ≤ (15 : Int))))] [(1, a_ 7 b2)] ?_
  refine NN ?_
  refine af.bw (p := (c.op : Int) ≤ (15 : Int)) (fun _ => by kernel_rfl) (fun fU => ?_) (fun fU => ?_)
  ·have hop : 1 ≤ c.op ∧ c.op ≤ 15 := ⟨h10, fU⟩
   refine af.ES (S := [.abs (rG b2 (.int .i64 c.op))]) [1, 2, 4, 0, 3, 5, 6, 7] 3 (by kernel_rfl) (by kernel_rfl) (fun w hS => hS.first (i := 7) (b := b2) rfl rfl) ?_
   refine aG.reads (r := 0) (l := [0, 3, 5, 6, 7]) (fr' := [(3, vP b2), (4, vP b3), (17, vI (c.op)), (19, vP f)]) (aU := [(∀ F w, (rG b2 (.int .i64 c.op)).h F w → w.cell? ⟨b2, 0, none⟩ = some (vI (c.op)))]) [1, 2, 4] [o_, ⟨[.view 0 (.int .i64 (c.op))], none, none, none, none⟩, o_] [3, 4, 17, 19] (fun _ => by kernel_rfl) ⟨rG.cell, trivial⟩ rfl rfl ?_
   refine aG.ET (ι := Unit) (fr' := fun (_ : Unit) => [(3, vP b2), (4, vP b3), (15, .agg #[.nilFunc, .func (.func 78) #[] #[], .func (.func 79) #[] #[], .func (.func 80) #[] #[], .func (.func 81) #[] #[], .func (.func 82) #[] #[], .func (.func 83) #[] #[], .func (.func 84) #[] #[], .func (.func 85) #[] #[], .func (.func 86) #[] #[], .func (.func 87) #[] #[], .func (.func 88) #[] #[], .func (.func 89) #[] #[], .func (.func 90) #[] #[], .func (.func 91) #[] #[], .func (.func 92) #[] #[]]), (17, vI (c.op)), (19, vP f)]) (hp' := fun (_ : Unit) => ((pA f m t L S) ++ [.abs R, pC b2 (c0 c), JS b3])) rfl rfl ?_ (by rintro _ w hS; exact hS.first (i := 7) (b := b2) rfl rfl) ?_
   ·refine gL [] (Dl) ?_
    rintro _ _ ⟨rfl, rfl⟩
    refine NL ?_
    exact MD () [3, 4, 15, 17, 19] [0, 1, 2, 3, 4, 5, 6, 7, 8]
   rintro _
   refine aG.ET (ι := Unit) (fr' := fun (_ : Unit) => [(3, vP b2), (4, vP b3), (18, .func (.func (Gw.getD (c.op.toNat - 1) 0)) #[] #[]), (19, vP f)]) (hp' := fun (_ : Unit) => ((pA f m t L S) ++ [.abs R, pC b2 (c0 c), JS b3])) rfl rfl ?_ (by rintro _ w hS; exact hS.first (i := 7) (b := b2) rfl rfl) ?_
   ·refine aj.hn (x := (.tmp 15)) (y := (.tmp 17)) (d := (some 18)) hop ?_
    refine NL ?_
    exact MD () [3, 4, 18, 19] [0, 1, 2, 3, 4, 5, 6, 7, 8]
   rintro _
   refine aG.ET (ι := HL) (fr' := fun (L2 : HL) => [(3, vP b2), (4, vP b3), (20, vI ((opM S (c0 c)).1))]) (hp' := fun (L2 : HL) => ((pA f m t L2 ((opM S (c0 c)).2.1)) ++ [pC b2 ((opM S (c0 c)).2.2), .abs R, JS b3])) rfl rfl ?_ (by rintro L2 w hS; exact hS.first (i := 6) (b := b2) rfl (congrArg (fun z => some (Value.int .i64 z)) (Gx (c := (c0 c)) hop))) ?_
   ·refine gL [0, 1, 2, 3, 4, 5, 7] (Ni (S := S) (L := L) (f := f) (m := m) (t := t) (b := b2) (c := (c0 c)) c.op hI ⟨hC.hw, hC.ow, hC.nm, hC.tx, hC.da, hC.dl, hC.dc⟩ hop rfl) ?_ (by intro _; rcases EU hop with h | h | h | h | h | h | h | h | h | h | h | h | h | h | h <;> rw [h] <;> kernel_rfl)
    rintro _ _ ⟨L2, rfl, rfl⟩
    refine NL ?_
    exact MD L2 [3, 4, 20] [0, 1, 2, 3, 4, 5, 6, 7, 8]
   rintro L2
   refine aG.ET (ι := Unit) (fr' := fun (_ : Unit) => [(3, vP b2), (4, vP b3), (20, vI ((opM S (c0 c)).1)), (21, .pointer (some ⟨b2, 11, none⟩))]) (hp' := fun (_ : Unit) => ((pA f m t L2 ((opM S (c0 c)).2.1)) ++ [pC b2 ((opM S (c0 c)).2.2), .abs R, JS b3])) rfl rfl ?_ (by rintro _ w hS; exact hS.first (i := 6) (b := b2) rfl (congrArg (fun z => some (Value.int .i64 z)) (Gx (c := (c0 c)) hop))) ?_
   ·refine gK 1 [(21, .pointer (some ⟨b2, 11, none⟩))] [] ?_
    refine NL ?_
    exact MD () [3, 4, 20, 21] [0, 1, 2, 3, 4, 5, 6, 7, 8]
   rintro _
   refine aG.last rfl rfl ?_
   refine gC 1 [] [(0, a_ 6 b2)] [(6, [(11, vI ((opM S (c0 c)).1))])] ?_
   refine NL (ai.np (NX (SR ?_)))
   refine gC 2 [] [(0, A_ 6 b2 13), (1, A_ 8 b3 13)] [(8, [(0, vI ((opM S (c0 c)).2.2.op)), (1, vI ((opM S (c0 c)).2.2.handle)), (2, vI ((opM S (c0 c)).2.2.other)), (3, .string (opM S (c0 c)).2.2.name), (4, .string (opM S (c0 c)).2.2.text), (5, .slice (opM S (c0 c)).2.2.dA ((opM S (c0 c)).2.2.data.length) ((opM S (c0 c)).2.2.dC)), (6, vI ((opM S (c0 c)).2.2.mode)), (7, vI ((opM S (c0 c)).2.2.uid)), (8, vI ((opM S (c0 c)).2.2.gid)), (9, vI ((opM S (c0 c)).2.2.sec)), (10, vI ((opM S (c0 c)).2.2.nano)), (11, vI ((opM S (c0 c)).1)), (12, vI ((opM S (c0 c)).2.2.answer))])] ?_
   refine NN (af.ret ?_)
   exact ai.ret (v := .agg #[vI ((opM S (c0 c)).2.2.op), vI ((opM S (c0 c)).2.2.handle), vI ((opM S (c0 c)).2.2.other), .string (opM S (c0 c)).2.2.name, .string (opM S (c0 c)).2.2.text, .slice (opM S (c0 c)).2.2.dA ((opM S (c0 c)).2.2.data.length) ((opM S (c0 c)).2.2.dC), vI ((opM S (c0 c)).2.2.mode), vI ((opM S (c0 c)).2.2.uid), vI ((opM S (c0 c)).2.2.gid), vI ((opM S (c0 c)).2.2.sec), vI ((opM S (c0 c)).2.2.nano), vI ((opM S (c0 c)).1), vI ((opM S (c0 c)).2.2.answer)]) (l := (pA f m t L2 ((opM S (c0 c)).2.1))) (aU := [b3 = b3, b3 = b3, b3 = b3, b3 = b3, b3 = b3, b3 = b3, b3 = b3, b3 = b3, b3 = b3, b3 = b3, b3 = b3, b3 = b3, b3 = b3]) [.at 8, .at 8, .at 8, .at 8, .at 8, .at 8, .at 8, .at 8, .at 8, .at 8, .at 8, .at 8, .at 8] [0, 1, 2, 3, 4, 5, 7] (fun _ => by kernel_rfl) ⟨rfl, rfl, rfl, rfl, rfl, rfl, rfl, rfl, rfl, rfl, rfl, rfl, rfl, trivial⟩ rfl (by kernel_rfl) (⟨L2, rfl, rfl⟩)
  refine af.skip (NX (SR ?_))
  refine gC 2 [] [(0, A_ 7 b2 13), (1, A_ 8 b3 13)] [(8, (NW c))] ?_
  refine NN (af.ret ?_)
  exact ai.ret (v := .agg #[vI (c.op), vI (c.handle), vI (c.other), .string c.name, .string c.text, .slice c.dA (c.data.length) (c.dC), vI (c.mode), vI (c.uid), vI (c.gid), vI (c.sec), vI (c.nano), vI 230, vI 0]) (l := (pA f m t L S)) (aU := [b3 = b3, b3 = b3, b3 = b3, b3 = b3, b3 = b3, b3 = b3, b3 = b3, b3 = b3, b3 = b3, b3 = b3, b3 = b3, b3 = b3, b3 = b3]) [.at 8, .at 8, .at 8, .at 8, .at 8, .at 8, .at 8, .at 8, .at 8, .at 8, .at 8, .at 8, .at 8] [0, 1, 2, 3, 4, 5, 6] (fun _ => by kernel_rfl) ⟨rfl, rfl, rfl, rfl, rfl, rfl, rfl, rfl, rfl, rfl, rfl, rfl, rfl, trivial⟩ rfl (by kernel_rfl) (⟨L, by unfold doM; rw [xP (S := S) (c := (c0 c)) (by show ¬ (1 ≤ c.op ∧ c.op ≤ 15); omega)]; exact ⟨rfl, rfl⟩⟩)
 refine gK 4 [(14, .bool false)] [] ?_
 refine NN ?_
 refine CF ?_
 refine af.skip (NX (SR ?_))
 refine gC 2 [] [(0, A_ 7 b2 13), (1, A_ 8 b3 13)] [(8, (NW c))] ?_
 refine NN (af.ret ?_)
 exact ai.ret (v := .agg #[vI (c.op), vI (c.handle), vI (c.other), .string c.name, .string c.text, .slice c.dA (c.data.length) (c.dC), vI (c.mode), vI (c.uid), vI (c.gid), vI (c.sec), vI (c.nano), vI 230, vI 0]) (l := (pA f m t L S)) (aU := [b3 = b3, b3 = b3, b3 = b3, b3 = b3, b3 = b3, b3 = b3, b3 = b3, b3 = b3, b3 = b3, b3 = b3, b3 = b3, b3 = b3, b3 = b3]) [.at 8, .at 8, .at 8, .at 8, .at 8, .at 8, .at 8, .at 8, .at 8, .at 8, .at 8, .at 8, .at 8] [0, 1, 2, 3, 4, 5, 6] (fun _ => by kernel_rfl) ⟨rfl, rfl, rfl, rfl, rfl, rfl, rfl, rfl, rfl, rfl, rfl, rfl, rfl, trivial⟩ rfl (by kernel_rfl) (⟨L, by unfold doM; rw [xP (S := S) (c := (c0 c)) (by show ¬ (1 ≤ c.op ∧ c.op ≤ 15); omega)]; exact ⟨rfl, rfl⟩⟩)
end
end Go.Proofs.YtkiedlmhocglhaaGreatDoor
section
namespace Go.Proofs
open Go.Shelf
def Tryz.keysS_ren : Go.Shelf.Ren := ⟨fun | 7 => 43 | 10 => 77 | n => n, fun | 23 => 97 | 26 => 9 | 3 => 84 | 28 => 114 | 0 => 0 | 27 => 113 | 33 => 38 | 4 => 4 | n => n, fun | n => n⟩
theorem Tryz.keysS : Go.Proofs.SlLaysZ.n7 Tryz.prog Tryz.keysS_ren := {
  mixed := by kernel_rfl
  f7 := ⟨Tryz.f43.name, by decide, Tryz.func43.trans (congrArg some (by kernel_rfl))⟩
  f10 := ⟨Tryz.f77.name, by decide, Tryz.func77.trans (congrArg some (by kernel_rfl))⟩
  t0 := Tryz.underlying0
  a0 := Tryz.isAgg0
  z0 := Tryz.sizeOf0
  v0 := Tryz.zeroValue0
  t4 := Tryz.underlying4
  a4 := Tryz.isAgg4
  z4 := Tryz.sizeOf4
  v4 := Tryz.zeroValue4
  t23 := Tryz.underlying97
  a23 := Tryz.isAgg97
  z23 := Tryz.sizeOf97
  v23 := Tryz.zeroValue97
  t26 := Tryz.underlying9
  a26 := Tryz.isAgg9
  z26 := Tryz.sizeOf9
  v26 := Tryz.zeroValue9
  t27 := Tryz.underlying113
  a27 := Tryz.isAgg113
  z27 := Tryz.sizeOf113
  v27 := Tryz.zeroValue113
  t28 := Tryz.underlying114
  a28 := Tryz.isAgg114
  z28 := Tryz.sizeOf114
  v28 := Tryz.zeroValue114
  t33 := Tryz.underlying38
  a33 := Tryz.isAgg38
  z33 := Tryz.sizeOf38
  v33 := Tryz.zeroValue38 }
def Tryz.sortedS_ren : Go.Shelf.Ren := ⟨fun | 6 => 42 | 8 => 75 | 9 => 76 | 11 => 130 | 13 => 129 | 12 => 131 | 23 => 164 | 24 => 165 | 14 => 166 | 15 => 167 | 16 => 168 | 17 => 169 | 18 => 170 | 19 => 171 | 20 => 172 | 21 => 173 | 22 => 174 | 25 => 188 | 26 => 183 | 27 => 184 | 28 => 189 | 29 => 190 | 30 => 191 | 31 => 200 | n => n, fun | 26 => 9 | 28 => 114 | 24 => 111 | 0 => 0 | 3 => 3 | 37 => 195 | 48 => 224 | 50 => 226 | 4 => 4 | 40 => 218 | 39 => 217 | 45 => 213 | 5 => 5 | 9 => 9 | 51 => 236 | 55 => 240 | 57 => 252 | 58 => 253 | 33 => 38 | n => n, fun | n => n⟩
theorem Tryz.sortedS : Go.Proofs.SlLaysZ.n6 Tryz.prog Tryz.sortedS_ren := {
  mixed := by kernel_rfl
  f6 := ⟨Tryz.f42.name, by decide, Tryz.func42.trans (congrArg some (by kernel_rfl))⟩
  f8 := ⟨Tryz.f75.name, by decide, Tryz.func75.trans (congrArg some (by kernel_rfl))⟩
  f11 := ⟨Tryz.f130.name, by decide, Tryz.func130.trans (congrArg some (by kernel_rfl))⟩
  t0 := Tryz.underlying0
  a0 := Tryz.isAgg0
  z0 := Tryz.sizeOf0
  v0 := Tryz.zeroValue0
  t24 := Tryz.underlying111
  a24 := Tryz.isAgg111
  z24 := Tryz.sizeOf111
  v24 := Tryz.zeroValue111
  t26 := Tryz.underlying9
  a26 := Tryz.isAgg9
  z26 := Tryz.sizeOf9
  v26 := Tryz.zeroValue9
  t28 := Tryz.underlying114
  a28 := Tryz.isAgg114
  z28 := Tryz.sizeOf114
  v28 := Tryz.zeroValue114
  i26 := by kernel_rfl }
def Tryz.sortS_ren : Go.Shelf.Ren := ⟨fun | 6 => 76 | 8 => 129 | 9 => 131 | 19 => 164 | 20 => 165 | 21 => 166 | 22 => 167 | 23 => 168 | 24 => 169 | 25 => 170 | 26 => 171 | 27 => 172 | 28 => 173 | 29 => 174 | 36 => 188 | 31 => 183 | 32 => 184 | 37 => 189 | 38 => 190 | 39 => 191 | 41 => 200 | n => n, fun | 27 => 111 | 29 => 9 | 3 => 3 | 32 => 195 | 26 => 111 | 0 => 0 | 44 => 224 | 46 => 226 | 4 => 4 | 36 => 218 | 35 => 217 | 41 => 213 | 5 => 5 | 9 => 9 | 53 => 236 | 57 => 240 | 63 => 252 | 64 => 253 | n => n, fun | n => n⟩
theorem Tryz.sortS : Go.Proofs.SlLaysM.n6 Tryz.prog Tryz.sortS_ren := {
  mixed := by kernel_rfl
  f6 := ⟨Tryz.f76.name, by decide, Tryz.func76.trans (congrArg some (by kernel_rfl))⟩
  f8 := Tryz.func129.trans (congrArg some (by kernel_rfl))
  f9 := ⟨Tryz.f131.name, by decide, Tryz.func131.trans (congrArg some (by kernel_rfl))⟩
  f19 := Tryz.func164.trans (congrArg some (by kernel_rfl))
  f20 := Tryz.func165.trans (congrArg some (by kernel_rfl))
  f21 := ⟨Tryz.f166.name, by decide, Tryz.func166.trans (congrArg some (by kernel_rfl))⟩
  f22 := ⟨Tryz.f167.name, by decide, Tryz.func167.trans (congrArg some (by kernel_rfl))⟩
  f23 := ⟨Tryz.f168.name, by decide, Tryz.func168.trans (congrArg some (by kernel_rfl))⟩
  f24 := ⟨Tryz.f169.name, by decide, Tryz.func169.trans (congrArg some (by kernel_rfl))⟩
  f25 := ⟨Tryz.f170.name, by decide, Tryz.func170.trans (congrArg some (by kernel_rfl))⟩
  f26 := ⟨Tryz.f171.name, by decide, Tryz.func171.trans (congrArg some (by kernel_rfl))⟩
  f27 := ⟨Tryz.f172.name, by decide, Tryz.func172.trans (congrArg some (by kernel_rfl))⟩
  f28 := ⟨Tryz.f173.name, by decide, Tryz.func173.trans (congrArg some (by kernel_rfl))⟩
  f29 := ⟨Tryz.f174.name, by decide, Tryz.func174.trans (congrArg some (by kernel_rfl))⟩
  f31 := Tryz.func183.trans (congrArg some (by kernel_rfl))
  f32 := Tryz.func184.trans (congrArg some (by kernel_rfl))
  f36 := ⟨Tryz.f188.name, by decide, Tryz.func188.trans (congrArg some (by kernel_rfl))⟩
  f37 := ⟨Tryz.f189.name, by decide, Tryz.func189.trans (congrArg some (by kernel_rfl))⟩
  f38 := ⟨Tryz.f190.name, by decide, Tryz.func190.trans (congrArg some (by kernel_rfl))⟩
  f39 := ⟨Tryz.f191.name, by decide, Tryz.func191.trans (congrArg some (by kernel_rfl))⟩
  f41 := ⟨Tryz.f200.name, by decide, Tryz.func200.trans (congrArg some (by kernel_rfl))⟩
  t0 := Tryz.underlying0
  a0 := Tryz.isAgg0
  z0 := Tryz.sizeOf0
  v0 := Tryz.zeroValue0
  t3 := Tryz.underlying3
  a3 := Tryz.isAgg3
  z3 := Tryz.sizeOf3
  v3 := Tryz.zeroValue3
  t4 := Tryz.underlying4
  a4 := Tryz.isAgg4
  z4 := Tryz.sizeOf4
  v4 := Tryz.zeroValue4
  t5 := Tryz.underlying5
  a5 := Tryz.isAgg5
  z5 := Tryz.sizeOf5
  v5 := Tryz.zeroValue5
  t9 := Tryz.underlying9
  a9 := Tryz.isAgg9
  z9 := Tryz.sizeOf9
  v9 := Tryz.zeroValue9
  t26 := Tryz.underlying111
  a26 := Tryz.isAgg111
  z26 := Tryz.sizeOf111
  v26 := Tryz.zeroValue111
  t27 := Tryz.underlying111
  a27 := Tryz.isAgg111
  z27 := Tryz.sizeOf111
  v27 := Tryz.zeroValue111
  t29 := Tryz.underlying9
  a29 := Tryz.isAgg9
  z29 := Tryz.sizeOf9
  v29 := Tryz.zeroValue9
  t32 := Tryz.underlying195
  a32 := Tryz.isAgg195
  z32 := Tryz.sizeOf195
  v32 := Tryz.zeroValue195
  t35 := Tryz.underlying217
  a35 := Tryz.isAgg217
  z35 := Tryz.sizeOf217
  v35 := Tryz.zeroValue217
  t36 := Tryz.underlying218
  a36 := Tryz.isAgg218
  z36 := Tryz.sizeOf218
  v36 := Tryz.zeroValue218
  t41 := Tryz.underlying213
  a41 := Tryz.isAgg213
  z41 := Tryz.sizeOf213
  v41 := Tryz.zeroValue213
  t44 := Tryz.underlying224
  a44 := Tryz.isAgg224
  z44 := Tryz.sizeOf224
  v44 := Tryz.zeroValue224
  t46 := Tryz.underlying226
  a46 := Tryz.isAgg226
  z46 := Tryz.sizeOf226
  v46 := Tryz.zeroValue226
  t53 := Tryz.underlying236
  a53 := Tryz.isAgg236
  z53 := Tryz.sizeOf236
  v53 := Tryz.zeroValue236
  t57 := Tryz.underlying240
  a57 := Tryz.isAgg240
  z57 := Tryz.sizeOf240
  v57 := Tryz.zeroValue240
  t63 := Tryz.underlying252
  a63 := Tryz.isAgg252
  z63 := Tryz.sizeOf252
  v63 := Tryz.zeroValue252
  t64 := Tryz.underlying253
  a64 := Tryz.isAgg253
  z64 := Tryz.sizeOf253
  v64 := Tryz.zeroValue253 }
end Go.Proofs
end
namespace Go.Proofs.YtkiedlmhocglhaaGreatDoor
section
open Go.RowKit Go.Maps Go.Sort Go.Shelf
theorem LZ (m : Nat) : AnyZ.SortsIn Tryz.prog Tryz.sortedS_ren Fence.wide m :=
  ⟨fun blk off cap ss W hH hblk hsz => callsIn_wide.2 (AnyM.slices_Sort_string Tryz.sortS blk off cap ss W hH hblk hsz),
   fun p cap W => callsIn_wide.2 (AnyM.slices_Sort_string_none Tryz.sortS p cap W)⟩
def zo (bk : Nat) : Value := .func (.func 77) #[] #[.pointer (some ⟨bk, 0, none⟩)]
theorem IU {β : Bs} (mb : Option Nat) : Spec Tryz.prog β 43 #[.map mb] [] (fun v l => ∃ bk, v = zo bk ∧ l = [.blk bk [.map mb] 97]) :=
  Spec.Bf fun W _ => by
    have h : CallsIn Fence.wide 5 Tryz.prog 43 #[.map mb] W fun e w' => e = .returned (zo W.heap.size) ∧ w' = W.alloc (.cells #[.map mb] 97) := AnyZ.keys_in Tryz.keysS Fence.wide 5 trivial rfl mb W
    refine ((callsIn_wide (n := 5)).1 h).mono ?_
    rintro e w' ⟨rfl, rfl⟩
    refine ⟨_, _, rfl, ⟨W.heap.size, rfl, rfl⟩, (Keeps.refl _ _).alloc _, fun k => k = W.heap.size, ⟨?_, fun k => Iff.rfl⟩, fun k hk => Nat.le_of_eq hk.symm⟩
    show (W.heap.push _)[W.heap.size]? = _
    simp
def mw (es : dN Th) : List Value := es.map (fun e => .string e.1)
theorem Dm {es : dN Th} (h : iy es) : (es.map (fun e => e.1.data.toList)).Pairwise (· < ·) := by
  refine List.pairwise_map.2 (h.imp (fun {a b} hab => ?_))
  unfold iJ at hab
  have h1 : ¬ Op.bytesLess b.1.toList a.1.toList = true := fun e => hab (by rw [e]; rfl)
  have h2 : ¬ b.1.toList = a.1.toList := fun e => hab (by rw [e]; simp)
  rw [bytesLess_eq, Lib.toList_data, Lib.toList_data] at h1
  rw [Lib.toList_data, Lib.toList_data] at h2
  by_cases e : a.1.data.toList < b.1.data.toList
  ·exact e
  exfalso
  have e := List.not_lt.1 e
  rcases List.le_iff_lt_or_eq.1 e with e | e
  ·exact h1 (by simpa using e)
  exact h2 e
theorem IV {w : World} {b n : Nat} {L : HL} {es : dN Th} {D : DataW Value} (hr : iy es) (hown : w.ownsMap Tryz.prog 9 oy b n D) (hf : ∀ kl, Maps.has D kl = (fQ L es kl).isSome) {ss : List (List UInt8)} (hp : ss.Perm (strKeys D)) :
    ss.mergeSort (fun x y => decide (x ≤ y)) = es.map (fun e => e.1.data.toList) := by
  have hsort := Dm hr
  obtain ⟨es', hD, hpw, _⟩ := hown.entries vX
  obtain ⟨Pq, Jr, hko⟩ := hown.keysOf
  obtain rfl : es' = Pq := by rw [hD] at Jr; simpa using Jr
  have hp2 : (es.map (fun e => e.1.data.toList)).Perm (strKeys D) := by
    rw [hD]
    refine perm_strKeys hpw (fun p hp => ?_) (hsort.imp (fun {a b} h e => by subst e; exact absurd h (List.lt_irrefl a))) (fun x => ?_)
    ·obtain ⟨v, hv⟩ := hko p hp
     obtain ⟨x, _, h, _⟩ := keyOf_str Tryz.underlying9 hv
     exact ⟨x, h⟩
    rw [← hD, hf]
    show _ ↔ ((aR ⟨x.toArray⟩ es).map (cE L)).isSome = true
    rw [Option.isSome_map]
    constructor
    ·intro hx
     obtain ⟨e, he, rfl⟩ := List.mem_map.1 hx
     have h1 : (⟨e.1.data.toList.toArray⟩ : ByteArray) = e.1 := by rw [Array.toArray_toList]
     rw [h1, tQ (t := e.2) (iy.twice hr) he]; rfl
    intro hx
    obtain ⟨t, ht⟩ := Option.isSome_iff_exists.1 hx
    exact List.mem_map.2 ⟨_, j3 ht, by simp⟩
  have h3 := mergeSort_of_perm (hp.trans hp2.symm)
  have h4 : (es.map (fun e => e.1.data.toList)).mergeSort leB = es.map (fun e => e.1.data.toList) := List.mergeSort_of_pairwise (hsort.imp (fun {a b} h => by simp only [leB, decide_eq_true_eq]; exact List.le_of_lt h))
  exact h3.trans h4
theorem EV {β : Bs} (L : HL) (b bk n : Nat) (es : dN Th) (hr : iy es) (hn : n ≤ 8192) :
    Spec Tryz.prog β 42 #[zo bk] [.abs (aH Tryz.prog 9 b (fQ L es) n), .blk bk [.map (some b)] 97] (fun v l => ∃ A cap, v = .slice A es.length cap ∧
      l = [.abs (aH Tryz.prog 9 b (fQ L es) n), .blk bk [.map (some b)] 97, .abs (aE 9 1 A es.length cap (mw es))]) := by
  intro R w hS
  obtain ⟨F1, h1⟩ := hS.get (i := 0) (p := .abs (aH Tryz.prog 9 b (fQ L es) n)) rfl
  obtain ⟨F2, h2⟩ := hS.get (i := 1) (p := .blk bk [.map (some b)] 97) rfl
  obtain ⟨D, hown, hsz, hhas, _⟩ := h1.1
  have hcell : w.cell? ⟨bk, 0, none⟩ = some (.map (some b)) := (eV h2.1 rfl rfl rfl).1
  have hseq : SeqGives Fence.wide 2 Tryz.prog 77 #[.pointer (some ⟨bk, 0, none⟩)] encStr (fun ss => ss.Perm (strKeys D)) (Maps.size D) w :=
    AnyZ.keys_gives (ρ := Tryz.keysS_ren) { Tryz.keysS with } Fence.wide _ trivial rfl (by omega) bk b n D w (lt_of_some h2.1) hcell hown
  have cS := AnyZ.sorted_in Tryz.sortedS Fence.wide 5 trivial trivial trivial trivial rfl (by omega) (LZ _) (enters_of Tryz.func76 (by kernel_rfl) rfl) 77 #[.pointer (some ⟨bk, 0, none⟩)] trivial (enters_of Tryz.func77 (by kernel_rfl) rfl)
    (fun ss => ss.Perm (strKeys D)) (Maps.size D) (by rw [hsz]; unfold maxLen; omega) (by rw [hsz]; omega) w hseq
  change CallsIn _ _ Tryz.prog 42 _ _ _ at cS
  refine ((callsIn_wide (n := 5)).1 cS).mono ?_
  rintro e w' ⟨v, ss, rfl, hp, hrow, hnil, hb⟩
  have hkeys := IV hr hown hhas hp
  have hl2 : ss.length = es.length := by
    have h3 : (ss.mergeSort (fun x y => decide (x ≤ y))).length = ss.length := List.length_mergeSort ss
    rw [hkeys, List.length_map] at h3
    exact h3.symm
  rw [hkeys, hl2] at hrow
  have tj : ∃ A cap, v = .slice A es.length cap := by
    rcases hrow.2 with ⟨e1, e2⟩ | ⟨g, cp, cur, e1, _⟩
    ·exact ⟨none, 0, by rw [e1, e2]⟩
    exact ⟨_, cp, e1⟩
  obtain ⟨A, cap, rfl⟩ := tj
  have Pr : (es.map (fun e => e.1.data.toList)).map encStr = mw es := by
    rw [List.map_map]
    refine List.map_congr_left (fun e _ => ?_)
    show encStr e.1.data.toList = .string e.1
    unfold encStr
    rw [Array.toArray_toList]
  rw [Pr] at hrow
  have hq : Sat β ([.abs (aH Tryz.prog 9 b (fQ L es) n), .blk bk [.map (some b)] 97, .abs R] ++ [.abs (aE 9 1 A es.length cap (mw es))]) w' := by
    refine Sat.new (F := fun k => (Value.slice A es.length cap).ownBlock = some k) hS ⟨?_, fun k => Iff.rfl⟩ ⟨hb.os, hb.tape, hb.output, hb.size, fun k hk _ => hb.block k hk⟩ (fun k hk => (hrow.lt k hk).1)
    refine ⟨hrow.1, ?_⟩
    rcases hrow.2 with h | ⟨g, cp, cur, e1, _, h3, h4⟩
    ·exact .inl h
    exact .inr ⟨g, cp, cur, e1, Nat.zero_le _, h3, h4⟩
  exact ⟨_, [.abs (aH Tryz.prog 9 b (fQ L es) n), .blk bk [.map (some b)] 97, .abs (aE 9 1 A es.length cap (mw es))], rfl, ⟨A, cap, rfl, rfl⟩, hq.pick (idx := [0, 1, 3, 2]) rfl rfl⟩
end
section
open Go.RowKit Go.Maps HeapM TabM
theorem DU {ns : List aK} {n : aK} {k : Nat} (h : k < ns.length) : nd (ns ++ [n]) k = nd ns k := by
  unfold nd; rw [List.getD_eq_getElem?_getD, List.getD_eq_getElem?_getD, List.getElem?_append_left h]
theorem zq {ns : List aK} {n : aK} : nd (ns ++ [n]) ns.length = n := by
  unfold nd; rw [List.getD_eq_getElem?_getD, List.getElem?_append_right (Nat.le_refl _)]; simp
def zu : Lay := ⟨fun _ => none, fun _ => none, fun _ => 0, fun _ => 0⟩
def gy (ns : List aK) (L : Lay) (k : Nat) : bP := aE 101 2 (L.eA k) (nd ns k).ah.length (L.eC k) (eZ (nd ns k).ah)
def fR (ns : List aK) (L : Lay) (k : Nat) : bP := aE 5 1 (L.dA k) (nd ns k).data.length (L.dC k) (bJ (nd ns k).data)
def OD (A : Option Addr) (c : Nat) (ns : List aK) (L : Lay) : HP := .abs (aE 70 10 A ns.length c (bU L ns))
def EW (A : Option Addr) (c : Nat) (ns : List aK) (L : Lay) : List HP := [OD A c ns L, .abs (dH (gy ns L) ns.length), .abs (dH (fR ns L) ns.length)]
theorem nV.graph {β β' : Bs} {A : Option Addr} {c : Nat} {ns : List aK} {L : Lay} (h : nV β (EW A c ns L) β') : aA β' A ns L := by
  obtain ⟨F, h1, h2⟩ := h.get 0 rfl
  obtain ⟨G, g1, g2⟩ := h.get 1 rfl
  obtain ⟨K, k1, k2⟩ := h.get 2 rfl
  exact ⟨dS.jZ h1 h2 rfl,
    dH.base k1 k2 rfl (Φ := fun i b => bG b (L.dA i) (nd ns i).data) (fun i _ F hF hO => dS.jZ (show (HP.abs (aE 5 1 (L.dA i) (nd ns i).data.length (L.dC i) (bJ (nd ns i).data))).h F _ from hF) hO rfl),
    dH.base g1 g2 rfl (Φ := fun i b => cI b (L.eA i) (nd ns i).ah) (fun i _ F hF hO => dS.jZ (show (HP.abs (aE 101 2 (L.eA i) (nd ns i).ah.length (L.eC i) (eZ (nd ns i).ah))).h F _ from hF) hO rfl)⟩
theorem Dn {L : Lay} {ns : List aK} {n : aK} {dA eA : Option Addr} {dC eC : Nat} : bU L ns ++ [.int .i64 n.id, .int .i64 n.kind, .int .i64 n.mode, .int .i64 n.uid, .int .i64 n.gid, .int .i64 n.sec, .int .i64 n.nano, .slice dA n.data.length dC, .string n.target, .slice eA n.ah.length eC] = bU (L.put ns.length dA dC eA eC) (ns ++ [n]) := by
  have h := wO (ns := ns ++ [n]) (L := L) (k := ns.length) (by simp) dA dC eA eC
  rw [zq, List.take_left, List.take_of_length_le (by simp)] at h
  exact h
theorem Ak {ns : List aK} {L : Lay} {n : aK} {dA eA : Option Addr} {dC eC : Nat} : (∀ x, x < ns.length → fR (ns ++ [n]) (L.put ns.length dA dC eA eC) x = fR ns L x) ∧ fR (ns ++ [n]) (L.put ns.length dA dC eA eC) ns.length = aE 5 1 dA n.data.length dC (bJ n.data) := by
  refine ⟨fun x hx => ?_, ?_⟩
  ·unfold fR Lay.put
   rw [DU hx]
   have : ¬ x = ns.length := by omega
   simp [this]
  unfold fR Lay.put
  rw [zq]
  simp
theorem Al {ns : List aK} {L : Lay} {n : aK} {dA eA : Option Addr} {dC eC : Nat} : (∀ x, x < ns.length → gy (ns ++ [n]) (L.put ns.length dA dC eA eC) x = gy ns L x) ∧ gy (ns ++ [n]) (L.put ns.length dA dC eA eC) ns.length = aE 101 2 eA n.ah.length eC (eZ n.ah) := by
  refine ⟨fun x hx => ?_, ?_⟩
  ·unfold gy Lay.put
   rw [DU hx]
   have : ¬ x = ns.length := by omega
   simp [this]
  unfold gy Lay.put
  rw [zq]
  simp
def jO (O : bK) (e : ByteArray × Th) : gP := ⟨e.1, (obj O e.2.k).id⟩
def uV (O : bK) (id : Int) (t : Th) : aK := ⟨id, t.kind, (obj O t.k).mode, (obj O t.k).uid, (obj O t.k).gid, (obj O t.k).sec, (obj O t.k).nano, (obj O t.k).data, (obj O t.k).target, (obj O t.k).ah.map (jO O)⟩
def aJ (S : aF) : List aK := S.idx.map (fun p => uV S.O p.1 p.2)
theorem mz {S : aF} : (aJ S).length = S.idx.length := List.length_map ..
def jP (S : aF) (i : Nat) : Th := (S.idx.getD i (0, ⟨0, 0⟩)).2
def bX (S : aF) (i : Nat) : Int := (S.idx.getD i (0, ⟨0, 0⟩)).1
section at_
variable {S : aF} {i : Nat}
theorem x9 (hi : i < S.idx.length) : S.idx[i]? = some (bX S i, jP S i) := by
  unfold bX jP
  rw [List.getD_eq_getElem?_getD, List.getElem?_eq_getElem hi]; rfl
theorem get_at (h : Inv0 S) (hi : i < S.idx.length) : TabM.get S.idx (bX S i) = some (jP S i) := lP h.rise (List.mem_of_getElem? (x9 hi))
theorem DV (h : Inv0 S) (hi : i < S.idx.length) : Live S.idx (jP S i) ∧ bX S i = ((jP S i).k : Int) := ⟨h.live (get_at h hi), h.key (get_at h hi)⟩
theorem L5 (hi : i < S.idx.length) : (keys S.idx)[i]? = some (bX S i) := by
  unfold keys
  rw [List.getElem?_map, x9 hi]; rfl
theorem sj (hi : i < S.idx.length) : (aJ S).take (i + 1) = (aJ S).take i ++ [uV S.O (bX S i) (jP S i)] := by
  rw [List.take_add_one]
  congr 1
  unfold aJ
  rw [List.getElem?_map, x9 hi]; rfl
theorem cL (hi : i ≤ S.idx.length) : ((aJ S).take i).length = i := by rw [List.length_take, mz]; omega
end at_
section sat
variable {β : Bs} {l l' : List HP} {w : World} {i j k : Nat} {O : bK} {L : HL} {ix : List Nat}
theorem Sat.L6 (h : Sat β l w) (hp : l[i]? = some (.abs (ak (iB (aV O L) k bP.none)))) (hq : l[j]? = some (.abs (aE 5 1 (L.dA k) (obj O k).data.length (L.dC k) (bJ (obj O k).data)))) (hd : nodupB (i :: j :: ix) = true) (hl : bL l ix = some l') (h2 : (obj O k).kind = 1) : Sat β (.abs (ak (aV O L)) :: l') w :=
  h.oG hp hq (fun _ _ h => h) hd hl k (fun _ hx => (lN hx).symm) (o9 h2)
end sat
theorem EX {es : List gP} {e : gP} : eZ es ++ [.string e.name, .int .i64 e.id] = eZ (es ++ [e]) := (rO e es 0).symm
section grow
variable {ns G' : List aK} {n : aK} {L : Lay} {i dn en : Nat} {dA eA : Option Addr} {dC eC : Nat}
theorem su (hl : ns.length = i) (hG : G' = ns ++ [n]) (hd : n.data.length = dn) (he : n.ah.length = en) : bU L ns ++ [.int .i64 n.id, .int .i64 n.kind, .int .i64 n.mode, .int .i64 n.uid, .int .i64 n.gid, .int .i64 n.sec, .int .i64 n.nano, .slice dA dn dC, .string n.target, .slice eA en eC] = bU (L.put i dA dC eA eC) G' := by
  subst hl hG hd he; exact Dn
theorem wB (hl : ns.length = i) (hG : G' = ns ++ [n]) : ∀ x, x < i → fR G' (L.put i dA dC eA eC) x = fR ns L x := by
  subst hl hG; exact Ak.1
theorem uo (hl : ns.length = i) (hG : G' = ns ++ [n]) (hd : n.data.length = dn) : fR G' (L.put i dA dC eA eC) i = aE 5 1 dA dn dC (bJ n.data) := by
  subst hl hG hd; exact Ak.2
theorem wC (hl : ns.length = i) (hG : G' = ns ++ [n]) : ∀ x, x < i → gy G' (L.put i dA dC eA eC) x = gy ns L x := by
  subst hl hG; exact Al.1
theorem uq (hl : ns.length = i) (hG : G' = ns ++ [n]) (he : n.ah.length = en) : gy G' (L.put i dA dC eA eC) i = aE 101 2 eA en eC (eZ n.ah) := by
  subst hl hG he; exact Al.2
end grow
section more
variable {S : aF} {i j k : Nat}
theorem Nj (h : Inv0 S) (hi : i < S.idx.length) : (∃ k, jP S i = ⟨k, 1⟩ ∧ Live S.idx ⟨k, 1⟩) ∨ (∃ k, jP S i = ⟨k, 2⟩ ∧ Live S.idx ⟨k, 2⟩) ∨ ∃ k, jP S i = ⟨k, 3⟩ ∧ Live S.idx ⟨k, 3⟩ := by
  have h1 := (DV h hi).1
  generalize jP S i = t at h1 ⊢
  obtain ⟨k, kd⟩ := t
  rcases (h.ob _ h1).2.2 with e | e | e <;> simp only at e <;> subst e
  ·exact .inl ⟨k, rfl, h1⟩
  ·exact .inr (.inl ⟨k, rfl, h1⟩)
  exact .inr (.inr ⟨k, rfl, h1⟩)
theorem zw (h : Inv0 S) (hi : i < S.idx.length) : (Lit.int .i64 (bX S i)).wf = true := by
  have h1 := h.idx _ _ (get_at h hi)
  have h2 := h.last
  exact WalkArith.wf_i64 (by omega)
theorem IW (hi : i < S.idx.length) : (ints (keys S.idx))[i * 1 + 0]? = some (.int .i64 (bX S i)) := by
  rw [Nat.mul_one, Nat.add_zero]
  unfold ints
  rw [List.getElem?_map, L5 hi]; rfl
theorem Cz (h : Inv0 S) {t : Th} (hl : Live S.idx t) (hk : t.kind ≠ 3) : (obj S.O t.k).target = ⟨#[]⟩ := by
  rcases (h.mt t hl).target with e | e
  ·exact e.2
  exact absurd (h.kind hl ▸ e.1) hk
theorem nP (h : Inv0 S) (hi : i < S.idx.length) (jk : jP S i = ⟨k, 1⟩) (hl : Live S.idx ⟨k, 1⟩) : (aJ S).take (i + 1) = (aJ S).take i ++ [⟨bX S i, 1, (obj S.O k).mode, (obj S.O k).uid, (obj S.O k).gid, (obj S.O k).sec, (obj S.O k).nano, (obj S.O k).data, ⟨#[]⟩, []⟩] := by
  rw [sj hi, jk]
  unfold uV
  rw [show (obj S.O k).target = ⟨#[]⟩ from Cz h hl (by simp), show (obj S.O k).ah = [] from (h.mt _ hl).ah (by rw [h.kind hl]; simp)]; rfl
theorem nQ (h : Inv0 S) (hi : i < S.idx.length) (jk : jP S i = ⟨k, 3⟩) (hl : Live S.idx ⟨k, 3⟩) : (aJ S).take (i + 1) = (aJ S).take i ++ [⟨bX S i, 3, (obj S.O k).mode, (obj S.O k).uid, (obj S.O k).gid, (obj S.O k).sec, (obj S.O k).nano, [], (obj S.O k).target, []⟩] := by
  rw [sj hi, jk]
  unfold uV
  rw [show (obj S.O k).data = [] from (h.mt _ hl).data (by rw [h.kind hl]; simp), show (obj S.O k).ah = [] from (h.mt _ hl).ah (by rw [h.kind hl]; simp)]; rfl
theorem pQ (h : Inv0 S) (hi : i < S.idx.length) (jk : jP S i = ⟨k, 2⟩) (hl : Live S.idx ⟨k, 2⟩) : (aJ S).take (i + 1) = (aJ S).take i ++ [⟨bX S i, 2, (obj S.O k).mode, (obj S.O k).uid, (obj S.O k).gid, (obj S.O k).sec, (obj S.O k).nano, [], ⟨#[]⟩, (obj S.O k).ah.map (jO S.O)⟩] := by
  rw [sj hi, jk]
  unfold uV
  rw [show (obj S.O k).target = ⟨#[]⟩ from Cz h hl (by simp), show (obj S.O k).data = [] from (h.mt _ hl).data (by rw [h.kind hl]; simp)]
def dP (es : dN Th) (j : Nat) : ByteArray := (es.getD j (⟨#[]⟩, ⟨0, 0⟩)).1
def wD (es : dN Th) (j : Nat) : Th := (es.getD j (⟨#[]⟩, ⟨0, 0⟩)).2
theorem EY {es : dN Th} (hj : j < es.length) : es[j]? = some (dP es j, wD es j) := by
  unfold dP wD
  rw [List.getD_eq_getElem?_getD, List.getElem?_eq_getElem hj]; rfl
theorem EZ {es : dN Th} (hj : j < es.length) : (mw es)[j * 1 + 0]? = some (.string (dP es j)) := by
  rw [Nat.mul_one, Nat.add_zero]
  unfold mw
  rw [List.getElem?_map, EY hj]; rfl
theorem OE (h : Inv0 S) {t : Th} (hl : Live S.idx t) (hj : j < (obj S.O t.k).ah.length) : bC (dP (obj S.O t.k).ah j) ∧ ((∃ k, aR (dP (obj S.O t.k).ah j) (obj S.O t.k).ah = some ⟨k, 1⟩ ∧ Live S.idx ⟨k, 1⟩ ∧ wD (obj S.O t.k).ah j = ⟨k, 1⟩) ∨ (∃ k, aR (dP (obj S.O t.k).ah j) (obj S.O t.k).ah = some ⟨k, 2⟩ ∧ Live S.idx ⟨k, 2⟩ ∧ wD (obj S.O t.k).ah j = ⟨k, 2⟩) ∨ ∃ k, aR (dP (obj S.O t.k).ah j) (obj S.O t.k).ah = some ⟨k, 3⟩ ∧ Live S.idx ⟨k, 3⟩ ∧ wD (obj S.O t.k).ah j = ⟨k, 3⟩) := by
  have hm := List.mem_of_getElem? (EY hj)
  have h1 := h.ah t hl _ hm
  have h2 := tQ (h.twice hl) hm
  refine ⟨h1.1, ?_⟩
  have h3 := h1.2
  generalize wD (obj S.O t.k).ah j = u at h2 h3 ⊢
  obtain ⟨k, kd⟩ := u
  rcases (h.ob _ h3).2.2 with e | e | e <;> simp only at e <;> subst e
  ·exact .inl ⟨k, h2, h3, rfl⟩
  ·exact .inr (.inl ⟨k, h2, h3, rfl⟩)
  exact .inr (.inr ⟨k, h2, h3, rfl⟩)
theorem ur {O : bK} {es : dN Th} {kd : Int} (hj : j < es.length) (he : wD es j = ⟨k, kd⟩) : eZ ((es.take j).map (jO O)) ++ [.string (dP es j), .int .i64 (obj O k).id] = eZ ((es.take (j + 1)).map (jO O)) := by
  rw [List.take_add_one, EY hj, he, List.map_append]
  exact EX (es := (es.take j).map (jO O)) (e := ⟨dP es j, (obj O k).id⟩)
end more
theorem nV.bytes {β β' : Bs} {A : Option Addr} {n c : Nat} {d : List UInt8} (h : nV β [.abs (aE 5 1 A n c (bJ d))] β') : bG β' A d := by
  obtain ⟨F, h1, h2⟩ := h.get 0 rfl
  exact dS.jZ h1 h2 rfl
end
section
open Go.RowKit
section order
variable {P : Program} {ops : Array Oper} {Q Q' : Post} {n : Nat} {S : World → Prop}
inductive pR
  | one (i : Nat)
  | two (i j : Nat)
  | three (i k j : Nat)
  | perm (G : List Nat)
def CA (P : Program) (ops : Array Oper) (Q : Post) (S : World → Prop) (K : Act → World → Prop) : Nat → List Nat → Act → World → Prop
  | 0, _, a, w => K a w
  | n + 1, G, a, w => ∀ i ∈ G, wpOp P ops Q i (fun a' w' => S w' ∧ CA P ops Q S K n (G.erase i) a' w') a w
def A8 (ops : Array Oper) (f : Array Bool → Bool) : Nat → List Nat → Array Bool → Bool
  | 0, _, listed => f listed
  | n + 1, G, listed => (Region.ready .any ops listed == G) && !G.isEmpty && G.all (fun i => A8 ops f n (G.erase i) (listed.setIfInBounds i true))
def jB (P : Program) (ops : Array Oper) (Q : Post) (S : World → Prop) : List pR → Act → World → Prop
  | [], a, w => Q .normal a w
  | .one i :: l, a, w => wpOp P ops Q i (fun a' w' => (l = [] ∨ S w') ∧ jB P ops Q S l a' w') a w
  | .two i j :: l, a, w =>
    wpOp P ops Q i (fun a' w' => S w' ∧ wpOp P ops Q j (fun a2 w2 => S w2 ∧ jB P ops Q S l a2 w2) a' w') a w ∧
    wpOp P ops Q j (fun a' w' => S w' ∧ wpOp P ops Q i (fun a2 w2 => S w2 ∧ jB P ops Q S l a2 w2) a' w') a w
  | .three i k j :: l, a, w =>
    wpOp P ops Q i (fun a1 w1 => S w1 ∧ wpOp P ops Q k (fun a2 w2 => S w2 ∧ wpOp P ops Q j (fun a3 w3 => S w3 ∧ jB P ops Q S l a3 w3) a2 w2) a1 w1 ∧
      wpOp P ops Q j (fun a2 w2 => S w2 ∧ wpOp P ops Q k (fun a3 w3 => S w3 ∧ jB P ops Q S l a3 w3) a2 w2) a1 w1) a w ∧
    wpOp P ops Q j (fun a1 w1 => S w1 ∧ wpOp P ops Q i (fun a2 w2 => S w2 ∧ wpOp P ops Q k (fun a3 w3 => S w3 ∧ jB P ops Q S l a3 w3) a2 w2) a1 w1) a w
  | .perm G :: l, a, w => CA P ops Q S (jB P ops Q S l) G.length G a w
def sA (ops : Array Oper) (n : Nat) : List pR → Array Bool → Bool
  | [], listed => (Region.ready .any ops listed).isEmpty
  | .one i :: l, listed => (Region.ready .any ops listed == [i]) && (!l.isEmpty || i == n) && sA ops n l (listed.setIfInBounds i true)
  | .two i j :: l, listed => (Region.ready .any ops listed == [i, j]) && (Region.ready .any ops (listed.setIfInBounds i true) == [j]) && (Region.ready .any ops (listed.setIfInBounds j true) == [i]) && decide (i ≠ j) && sA ops n l ((listed.setIfInBounds i true).setIfInBounds j true)
  | .three i k j :: l, listed => (Region.ready .any ops listed == [i, j]) && (Region.ready .any ops (listed.setIfInBounds i true) == [k, j]) && (Region.ready .any ops ((listed.setIfInBounds i true).setIfInBounds k true) == [j]) && (Region.ready .any ops ((listed.setIfInBounds i true).setIfInBounds j true) == [k]) &&
    (Region.ready .any ops (listed.setIfInBounds j true) == [i]) && decide (i ≠ j) && decide (k ≠ j) && sA ops n l (((listed.setIfInBounds i true).setIfInBounds k true).setIfInBounds j true)
  | .perm G :: l, listed => A8 ops (sA ops n l) G.length G listed
def qN : List pR → Nat
  | [] => 0
  | .one _ :: l => qN l + 1
  | .two _ _ :: l => qN l + 2
  | .three _ _ _ :: l => qN l + 3
  | .perm G :: l => qN l + G.length
theorem CB {K : Act → World → Prop} {f : Array Bool → Bool} {m : Nat} (hK : ∀ listed a w, f listed = true → K a w → ja P ops (NP Q) n S m listed a w) : ∀ (k : Nat) (G : List Nat) (listed : Array Bool) (a : Act) (w : World), A8 ops f k G listed = true → CA P ops (NP Q) S K k G a w → ja P ops (NP Q) n S (m + k) listed a w
  | 0, G, listed, a, w, hb, h => hK listed a w hb h
  | k + 1, G, listed, a, w, hb, h => by
    unfold A8 at hb
    simp only [Bool.and_eq_true, beq_iff_eq] at hb
    obtain ⟨⟨h1, h2⟩, h3⟩ := hb
    refine ⟨fun h0 => (by rw [h1] at h0; rw [h0] at h2; cases h2), fun j hj => ?_⟩
    rw [h1] at hj
    exact wpOp_mono (fun a' w' g => ⟨.inr g.1, CB hK k (G.erase j) _ a' w' (List.all_eq_true.1 h3 j hj) g.2⟩) (h j hj)
theorem lV : ∀ (l : List pR) (listed : Array Bool) (a : Act) (w : World), sA ops n l listed = true → jB P ops (NP Q) S l a w → ja P ops (NP Q) n S (qN l) listed a w
  | [], listed, a, w, hb, h => ⟨List.isEmpty_iff.1 hb, h⟩
  | .one i :: l, listed, a, w, hb, h => by
    unfold sA at hb
    simp only [Bool.and_eq_true, beq_iff_eq] at hb
    obtain ⟨⟨h1, h2⟩, h3⟩ := hb
    refine ⟨fun h0 => (by rw [h1] at h0; cases h0), fun j hj => ?_⟩
    rw [h1] at hj
    have hj : j = i := by simpa using hj
    subst hj
    refine wpOp_mono (fun a' w' h4 => ⟨?_, lV l _ a' w' h3 h4.2⟩) h
    rcases h4.1 with h5 | h5
    ·subst h5; exact .inl (by simpa using h2)
    exact .inr h5
  | .two i j :: l, listed, a, w, hb, h => by
    unfold sA at hb
    simp only [Bool.and_eq_true, beq_iff_eq, decide_eq_true_iff] at hb
    obtain ⟨⟨⟨⟨h1, h2⟩, h3⟩, hij⟩, h4⟩ := hb
    refine ⟨fun h0 => (by rw [h1] at h0; cases h0), fun k hk => ?_⟩
    rw [h1] at hk
    have hk : k = i ∨ k = j := by simpa using hk
    rcases hk with rfl | rfl
    ·refine wpOp_mono (fun a' w' h5 => ⟨.inr h5.1, fun h0 => (by rw [h2] at h0; cases h0), fun k' hk' => ?_⟩) h.1
     rw [h2] at hk'
     have hk' : k' = j := by simpa using hk'
     subst hk'
     exact wpOp_mono (fun a2 w2 h6 => ⟨.inr h6.1, lV l _ a2 w2 h4 h6.2⟩) h5.2
    refine wpOp_mono (fun a' w' h5 => ⟨.inr h5.1, fun h0 => (by rw [h3] at h0; cases h0), fun k' hk' => ?_⟩) h.2
    rw [h3] at hk'
    have hk' : k' = i := by simpa using hk'
    subst hk'
    refine wpOp_mono (fun a2 w2 h6 => ⟨.inr h6.1, ?_⟩) h5.2
    rw [Array.setIfInBounds_comm _ _ (fun e => hij e.symm)]
    exact lV l _ a2 w2 h4 h6.2
  | .three i k j :: l, listed, a, w, hb, h => by
    unfold sA at hb
    simp only [Bool.and_eq_true, beq_iff_eq, decide_eq_true_iff] at hb
    obtain ⟨⟨⟨⟨⟨⟨⟨h1, h2⟩, h3⟩, h4⟩, h5⟩, hij⟩, hkj⟩, h6⟩ := hb
    have one : ∀ {x : Nat} {ls : Array Bool} {fuel : Nat} {a : Act} {w : World}, Region.ready .any ops ls = [x] → wpOp P ops (NP Q) x (fun a' w' => S w' ∧ ja P ops (NP Q) n S fuel (ls.setIfInBounds x true) a' w') a w → ja P ops (NP Q) n S (fuel + 1) ls a w := fun {x ls fuel a w} hr hx => by
      refine ⟨fun h0 => (by rw [hr] at h0; cases h0), fun y hy => ?_⟩
      rw [hr] at hy
      have hy : y = x := by simpa using hy
      subst hy
      exact wpOp_mono (fun a' w' h => ⟨.inr h.1, h.2⟩) hx
    have e1 : (((listed.setIfInBounds i true).setIfInBounds j true).setIfInBounds k true) = (((listed.setIfInBounds i true).setIfInBounds k true).setIfInBounds j true) := Array.setIfInBounds_comm _ _ (fun e => hkj e.symm)
    have e2 : ((listed.setIfInBounds j true).setIfInBounds i true) = ((listed.setIfInBounds i true).setIfInBounds j true) := Array.setIfInBounds_comm _ _ (fun e => hij e.symm)
    refine ⟨fun h0 => (by rw [h1] at h0; cases h0), fun x hx => ?_⟩
    rw [h1] at hx
    have hx : x = i ∨ x = j := by simpa using hx
    rcases hx with rfl | rfl
    ·refine wpOp_mono (fun a1 w1 g => ⟨.inr g.1, fun h0 => (by rw [h2] at h0; cases h0), fun y hy => ?_⟩) h.1
     rw [h2] at hy
     have hy : y = k ∨ y = j := by simpa using hy
     rcases hy with rfl | rfl
     ·exact wpOp_mono (fun a2 w2 g2 => ⟨.inr g2.1, one h3 (wpOp_mono (fun a3 w3 g3 => ⟨g3.1, lV l _ a3 w3 h6 g3.2⟩) g2.2)⟩) g.2.1
     exact wpOp_mono (fun a2 w2 g2 => ⟨.inr g2.1, one h4 (wpOp_mono (fun a3 w3 g3 => ⟨g3.1, by rw [e1]; exact lV l _ a3 w3 h6 g3.2⟩) g2.2)⟩) g.2.2
    refine wpOp_mono (fun a1 w1 g => ⟨.inr g.1, one h5 (wpOp_mono (fun a2 w2 g2 => ⟨g2.1, ?_⟩) g.2)⟩) h.2
    rw [e2]
    exact one h4 (wpOp_mono (fun a3 w3 g3 => ⟨g3.1, by rw [e1]; exact lV l _ a3 w3 h6 g3.2⟩) g2.2)
  | .perm G :: l, listed, a, w, hb, h => CB (m := qN l) (fun ls a w hb h => lV l ls a w hb h) G.length G listed a w hb h
def kQ (P : Program) (ops : Array Oper) (Q : Post) (S : World → Prop) (es : List pR) : List Nat → Act → World → Prop
  | [], a, w => jB P ops Q S es a w
  | i :: l, a, w => ∃ o v, ops[i]? = some o ∧ YieldsIf P ops S o v a ∧ kQ P ops Q S es l (a.put o.dst v) w
def Ba (ops : Array Oper) (n : Nat) (es : List pR) : List Nat → Array Bool → Bool
  | [], listed => sA ops n es listed
  | i :: l, listed => decide (i < n) && Region.free .any ops listed i && (Region.ready .any ops listed).contains i && Ba ops n es l (listed.setIfInBounds i true)
theorem CC {es : List pR} (hsel : Region.noSelect ops = true) (lZ : Region.sinkB .any ops n = true) : ∀ (l : List Nat) (listed : Array Bool) (a : Act) (w : World), Ba ops n es l listed = true → Closed ops listed → S w → kQ P ops (NP Q) S es l a w → ja P ops (NP Q) n S (l.length + qN es) listed a w
  | [], listed, a, w, hb, _, _, h => by
    rw [List.length_nil, Nat.zero_add]
    exact lV es listed a w hb h
  | i :: l, listed, a, w, hb, hc, hS, h => by
    unfold Ba at hb
    simp only [Bool.and_eq_true, decide_eq_true_iff] at hb
    obtain ⟨⟨⟨h1, h2⟩, h3⟩, h4⟩ := hb
    obtain ⟨o, v, ho, hy, hk⟩ := h
    have hr : i ∈ Region.ready .any ops listed := by simpa using h3
    have e : (i :: l).length + qN es = (l.length + qN es) + 1 := by rw [List.length_cons]; omega
    rw [e]
    exact o6 ho hsel lZ h1 _ listed a w hc (Region.free_spec ho h2) hr hy hS (CC hsel lZ l _ _ w h4 (hc.set hr) hS hk)
def DW (ops : Array Oper) (rs : List Nat) (es : List pR) : Bool :=
  Region.noSelect ops && Region.sinkB .any ops (ops.size - 1) && (rs.length + qN es == ops.size) && Ba ops (ops.size - 1) es rs (Array.replicate ops.size false)
end order
section mix
variable {P : Program} {β : Bs} {N : Nat} {ops : Array Oper} {S : List HP} {rs : List Nat} {es : List pR} {fr fr' : Fr} {hps : List HP} {Q : Post} {aU : List Prop} {i j : Nat}
def fL (P : Program) (β : Bs) (N : Nat) (ops : Array Oper) (S : List HP) (es : List pR) (rs : List Nat) (fr : Fr) (hps : List HP) (Q : Post) : Prop :=
  ∀ junk w, Sat β hps w → kQ P ops (NP Q) (Sat β S) es rs (cu N fr junk) w
theorem af.oM {id : Nat} (rs : List Nat) (es : List pR) (pk : List Nat) (hm : P.follows .mixedOrders = true) (hB : DW ops rs es = true) (hn : nodupB pk = true) (hp : bL hps pk = some S) (h : fL P β N ops S es rs fr hps Q) : af P β N (.region id ops true) fr hps Q := by
  intro junk w hS
  unfold DW at hB
  simp only [Bool.and_eq_true, beq_iff_eq] at hB
  obtain ⟨⟨⟨h1, h2⟩, h3⟩, h4⟩ := hB
  have cO := hS.drewN 1
  have h5 := CC (Q := Q) h1 h2 rs _ _ _ h4 (fun j oj _ hl => by simp [Array.getD_eq_getD_getElem?, Array.getElem?_replicate] at hl; split at hl <;> simp at hl) (cO.pick hn hp) (h junk (w.drewN 1) cO)
  rw [h3] at h5
  refine Code.wp_mono (fun e a w q => ?_) (wp_region_any hm (lY _ _ _ _ h5))
  cases e with
  | normal => exact q
  | exit id => exact q.elim
  | goto l => exact q.elim
  | ret => exact q.elim
  | panic ch => exact q.elim
  | outgrown => exact q.elim
theorem sU {junk : Nat → Value} {w : World} : ∀ {hs : List OH} {is : List Nat} {fr fr' : Fr} {T T' : SS}, nE P β N junk ops hs is fr T = some (fr', T') → (∀ p, p ∈ T'.aU → p) → T.used = true → T.hps = S →
    kQ P ops (NP Q) (Sat β S) es rs (cu N fr' junk) w → kQ P ops (NP Q) (Sat β S) es (is ++ rs) (cu N fr junk) w
  | [], [], fr, fr', T, T', h, ho, hu, hT, hK => by cases h; exact hK
  | h :: hs, i :: is, fr, fr', T, T', hr, ho, hu, hT, hK => by
    unfold nE at hr
    repeat' split at hr
    all_goals first | (cases hr; done) | skip
    rename_i o hget _ Bp _ v T1 h0 _ hv
    obtain ⟨e1, e2⟩ := qV h0
    rw [List.cons_append]
    unfold kQ
    refine ⟨o, v, hget, .inl ⟨by unfold Region.wanted; rw [Bp], fun w' cO => ?_⟩, ?_⟩
    ·rw [di]
     obtain ⟨w2, h1, _, _, h4⟩ := ko h0 (fun p hp => ho p (rQ hr p hp)) (by rw [hT]; exact cO) (fun e => by rw [hu] at e; cases e)
     obtain ⟨ew, _⟩ := h4 rfl
     rw [ew] at h1
     rcases h1 with h1 | ⟨h1, _⟩
     ·exact h1
     exact absurd h1 (p8 hv)
    rw [cY]
    exact sU hr ho (e2.trans hu) (e1.trans hT) hK
  | [], _ :: _, _, _, _, _, h, _, _, _, _ => by cases h
  | _ :: _, [], _, _, _, _, h, _, _, _, _ => by cases h
theorem fL.reads (is : List Nat) (hs : List OH) (idx : List Nat) (h : ∀ junk, uH P β N junk ops hs is fr S idx = some (fr', aU)) (ho : iP aU) (K : fL P β N ops S es rs fr' hps Q) : fL P β N ops S es (is ++ rs) fr hps Q := by
  intro junk w hS
  have h0 := h junk
  unfold uH at h0
  split at h0
  ·rename_i jR S1 h1
   cases h0
   have hK := K (lk jR junk) w hS
   rw [← iO] at hK
   exact sU h1 (fun p hp => ho.mem hp) rfl rfl hK
  cases h0
theorem fL.pair {ι L7 L8 : Type} {Gz : L7 → Fr} {hpi : L7 → List HP} {GA : L8 → Fr} {GD : L8 → List HP} {fr' : ι → Fr} {hp' : ι → List HP} {oi oj : Oper} (NY NZ pk : List Nat)
    (hi : ops[i]? = some oi) (CD : oi.guard = none) (hj : ops[j]? = some oj) (DX : oj.guard = none)
    (h1 : aj P β N #[oi] 0 fr hps (NP (iY β N Gz hpi))) (h2 : ∀ a, aj P β N #[oj] 0 (Gz a) (hpi a) (NP (iY β N fr' hp')))
    (h3 : aj P β N #[oj] 0 fr hps (NP (iY β N GA GD))) (h4 : ∀ a, aj P β N #[oi] 0 (GA a) (GD a) (NP (iY β N fr' hp')))
    (hni : nodupB NY = true) (OG : ∀ a, bL (hpi a) NY = some S) (Pt : nodupB NZ = true) (OI : ∀ a, bL (GD a) NZ = some S) (hn : nodupB pk = true) (hp : ∀ a, bL (hp' a) pk = some S)
    (K : ∀ a, fL P β N ops S es [] (fr' a) (hp' a) Q) : fL P β N ops S (.two i j :: es) [] fr hps Q := by
  intro junk w hS
  unfold kQ jB
  refine ⟨eX hi CD (gT (fun a w ⟨x, fD, ha, cO⟩ => ?_) (show wpList P #[oi] (NP (iY β N Gz hpi)) [oi] (cu N fr junk) w from h1 junk w hS)), eX hj DX (gT (fun a w ⟨x, fD, ha, cO⟩ => ?_) (show wpList P #[oj] (NP (iY β N GA GD)) [oj] (cu N fr junk) w from h3 junk w hS))⟩
  ·subst ha
   refine ⟨cO.pick hni (OG x), eX hj DX (gT (fun a w ⟨y, E0, ha, oh⟩ => ?_) (show wpList P #[oj] (NP (iY β N fr' hp')) [oj] (cu N (Gz x) fD) w from h2 x fD w cO))⟩
   subst ha
   exact ⟨oh.pick hn (hp y), K y E0 _ oh⟩
  subst ha
  refine ⟨cO.pick Pt (OI x), eX hi CD (gT (fun a w ⟨y, E0, ha, oh⟩ => ?_) (show wpList P #[oi] (NP (iY β N fr' hp')) [oi] (cu N (GA x) fD) w from h4 x fD w cO))⟩
  subst ha
  exact ⟨oh.pick hn (hp y), K y E0 _ oh⟩
theorem fL.three {k : Nat} {ι GF GH GI GJ GK : Type} {fa : GF → Fr} {ha : GF → List HP} {fb : GH → Fr} {hb : GH → List HP} {fc : GI → Fr} {hc : GI → List HP} {fd : GJ → Fr} {hd : GJ → List HP} {fe : GK → Fr} {he : GK → List HP} {fr' : ι → Fr} {hp' : ι → List HP} {oi ok oj : Oper} (pa pb pc pd pe pk : List Nat)
    (hi : ops[i]? = some oi) (CD : oi.guard = none) (hk : ops[k]? = some ok) (L9 : ok.guard = none) (hj : ops[j]? = some oj) (DX : oj.guard = none)
    (h1 : aj P β N #[oi] 0 fr hps (NP (iY β N fa ha))) (h2 : ∀ x, aj P β N #[ok] 0 (fa x) (ha x) (NP (iY β N fb hb))) (h3 : ∀ x, aj P β N #[oj] 0 (fb x) (hb x) (NP (iY β N fr' hp')))
    (h4 : ∀ x, aj P β N #[oj] 0 (fa x) (ha x) (NP (iY β N fc hc))) (h5 : ∀ x, aj P β N #[ok] 0 (fc x) (hc x) (NP (iY β N fr' hp')))
    (h6 : aj P β N #[oj] 0 fr hps (NP (iY β N fd hd))) (h7 : ∀ x, aj P β N #[oi] 0 (fd x) (hd x) (NP (iY β N fe he))) (h8 : ∀ x, aj P β N #[ok] 0 (fe x) (he x) (NP (iY β N fr' hp')))
    (na : nodupB pa = true) (qa : ∀ x, bL (ha x) pa = some S) (nb : nodupB pb = true) (qb : ∀ x, bL (hb x) pb = some S) (nc : nodupB pc = true) (qc : ∀ x, bL (hc x) pc = some S) (nd : nodupB pd = true) (qd : ∀ x, bL (hd x) pd = some S) (ne : nodupB pe = true) (qe : ∀ x, bL (he x) pe = some S) (hn : nodupB pk = true) (hp : ∀ x, bL (hp' x) pk = some S)
    (K : ∀ a, fL P β N ops S es [] (fr' a) (hp' a) Q) : fL P β N ops S (.three i k j :: es) [] fr hps Q := by
  have step : ∀ {κ : Type} {g : κ → Fr} {hg : κ → List HP} {x : Nat} {o : Oper} {pg : List Nat} {f0 : Fr} {h0 : List HP} {junk : Nat → Value} {w : World} {R : Act → World → Prop}, ops[x]? = some o → o.guard = none → aj P β N #[o] 0 f0 h0 (NP (iY β N g hg)) → nodupB pg = true → (∀ y, bL (hg y) pg = some S) → Sat β h0 w →
      (∀ y junk w, Sat β (hg y) w → R (cu N (g y) junk) w) → wpOp P ops (NP Q) x (fun a w => Sat β S w ∧ R a w) (cu N f0 junk) w := fun {κ g hg x o pg f0 h0 junk w R} e1 e2 e3 e4 e5 e6 e7 =>
    eX e1 e2 (gT (fun a w ⟨y, fD, ea, cO⟩ => by subst ea; exact ⟨cO.pick e4 (e5 y), e7 y fD w cO⟩) (show wpList P #[o] (NP (iY β N g hg)) [o] (cu N f0 junk) w from e3 junk w e6))
  intro junk w hS
  unfold kQ jB
  have fin : ∀ y junk w, Sat β (hp' y) w → jB P ops (NP Q) (Sat β S) es (cu N (fr' y) junk) w := fun y junk w h => K y junk w h
  refine ⟨step hi CD h1 na qa hS (fun x jx wx sx => ⟨?_, ?_⟩), step hj DX h6 nd qd hS (fun x jx wx sx => step hi CD (h7 x) ne qe sx (fun y jy wy sy => step hk L9 (h8 y) hn hp sy fin))⟩
  ·exact step hk L9 (h2 x) nb qb sx (fun y jy wy sy => step hj DX (h3 y) hn hp sy fin)
  exact step hj DX (h4 x) nc qc sx (fun y jy wy sy => step hk L9 (h5 y) hn hp sy fin)
theorem fL.cut {ι : Type} {fr' : ι → Fr} {hp' : ι → List HP} {o : Oper} (pk : List Nat) (hop : ops[i]? = some o) (hg : o.guard = none) (h : aj P β N #[o] 0 fr hps (NP (iY β N fr' hp'))) (hn : nodupB pk = true) (hp : ∀ j, bL (hp' j) pk = some S)
    (K : ∀ j, fL P β N ops S es [] (fr' j) (hp' j) Q) : fL P β N ops S (.one i :: es) [] fr hps Q := by
  intro junk w hS
  unfold kQ jB
  refine eX hop hg (gT (fun a w ⟨j, fD, ha, cO⟩ => ?_) (show wpList P #[o] (NP (iY β N fr' hp')) [o] (cu N fr junk) w from h junk w hS))
  subst ha
  exact ⟨.inr (cO.pick hn (hp j)), K j fD _ cO⟩
def Qo (P : Program) (β : Bs) (N : Nat) (ops : Array Oper) (Q : Post) (i d : Nat) (ds : List Nat) (fr : Fr) (pre : List HP) (post : Value → List HP → Prop) : Prop :=
  ∀ junk w (A : bP), Sat β (pre ++ [.abs A]) w → wpOp P ops (NP Q) i (fun a' w' => ∃ v l fD, post v l ∧ a' = cu N fr fD ∧ fD d = v ∧ (∀ t ∈ ds, t ≠ d → fD t = junk t) ∧ Sat β (l ++ [.abs A]) w') (cu N fr junk) w
def QC (Pu : List Nat) (u : Nat → Value) : Fr := Pu.map fun t => (t, u t)
theorem fL.last {o : Oper} (hop : ops[i]? = some o) (hg : o.guard = none) (h : aj P β N #[o] 0 fr hps (NP Q)) : fL P β N ops S [.one i] [] fr hps Q := by
  intro junk w hS
  unfold kQ jB
  exact eX hop hg (gT (fun a w hq => ⟨.inl rfl, by unfold jB; exact hq⟩) (show wpList P #[o] (NP Q) [o] (cu N fr junk) w from h junk w hS))
end mix
end
end Go.Proofs.YtkiedlmhocglhaaGreatDoor
