/-
  PROVED HERE: lemmas and contracts of functions (texts of this repo, joined; what the claim does not use is left out): H7, Vg, H8, H9, Vh, HD, H10, ShelfS, SK, HG, Vp.
  CONDITIONS: as the theorems say.
-/
import Derived.Test.YtkiedlmhocglhaaGreatDoorMHconfined3
import Derived.Shelf.SlGeneric
import Derived.Shelf.SlIter.Nil
import Derived.Shelf.SortM.Plain
import Derived.Shelf.SortM.SortNone
import Derived.Ground.GgzProg
import Derived.Ground.SlgmProg
import Derived.Test.YtkiedlmhocglhaaGreatDoorProg
set_option maxRecDepth 100000
set_option maxHeartbeats 4000000
namespace Go.Proofs.YtkiedlmhocglhaaGreatDoor
section
open Go.RowKit Go.Maps HeapM TabM
attribute [local irreducible] aj aR af ai
abbrev jY (t) (S : aG) (L : HL) := (pT t S.X.cH S.av L S.us : HP)
abbrev mG (m : Nat) (L : HL) (S : aG) (cb : Nat) (c) (R : bT) := ([pI m L S.idx, pD S.O L, pE S.O L, pC cb c, .abs R] : List HP)
abbrev Kz (f : Nat) (c : aS) := ([(8, vP f), (12, vI (c.handle)), (16, .string c.name)] : Fr)
abbrev CZ (L : HL) (d : Nat) := ([(5, vP (L.b d)), (6, vI 0)] : Fr)
abbrev nC (f : Nat) (m : Nat) (t) (S : aG) (L : HL) := ([pF f m t S.X, jY t S L, pO S.O L] : List HP)
abbrev Hj (e) := ([(5, .pointer none), (6, vI (e))] : Fr)
theorem fW {β : Bs} (S : aG) (L : HL) (f m t : Nat) (hI : Inv S) (cb : Nat) (c : aS) (hC : fJ β c) :
    Spec Tryz.prog β 133 #[vP f, vP cb] ((pA f m t L S) ++ [pC cb c]) (fun v l => v = Py L (eM S.O S.us c) ∧ l = ((pA f m t L S) ++ [pC cb c])) := by
 refine Spec.enter Tryz.func133 rfl Tryz.ntmps133 (Nat.le_of_ble_eq_true rfl) (fun R => ?_)
 refine SR ?_
 refine gK 2 [] [] ?_
 refine NN (af.seq ?_)
 refine af.bC (by kernel_rfl) (by kernel_rfl) ?_
 refine gQ 9 [(10, vP f), (14, vI (c.handle)), (18, .string c.name)] [(4, a_ 6 cb), (8, a_ 6 cb)] ?_
 rcases jA hI.toInv0 c.handle c.name 64 with ⟨e, hab, hne⟩ | ⟨d, hab, hd, gy, hgn, cK⟩
 ·refine aR.call (f := 134) (args := #[vP f, vI (c.handle), .string c.name, vI 64]) (d := (some 19)) (pre := (nC f m t S L)) (R := (mG m L S cb c R)) (pk := [0, 2, 3, 1, 4, 5, 6, 7]) (gJ := [0, 3, 1, 2, 4, 5, 6, 7]) (v0 := .tuple #[.pointer none, vI (e)]) (fun _ => by kernel_rfl) ((by have h := dg S L f m t hI c.handle hC.hw c.name hC.nm 64 (β := β); rw [hab] at h; exact h)) rfl (by kernel_rfl) rfl (by kernel_rfl) (fun _ _ h => h) ?_
  refine gQ 5 [(6, .pointer none), (7, vI (e))] [] ?_
  refine NQ (NX (af.seq (SR ?_)))
  refine gK 2 [(23, .bool (!(decide ((e : Int) = (0 : Int)))))] [] ?_
  refine NN ?_
  refine af.ct (p := (e : Int) = (0 : Int)) (fun _ => by kernel_rfl) (fun h23 => ?_) (fun h23 => ?_)
  ·refine SR ?_
   refine gK 3 [(4, .nilIface), (5, vI (e))] [] ?_
   refine NN (af.ret (ai.aq ?_))
   exact RT (.tuple #[.nilIface, vI (e)]) [0, 1, 2, 3, 4, 5, 6, 7] (⟨by rw [show eM S.O S.us c = .error e by unfold eM; rw [hab]]; rfl, rfl⟩)
  exact absurd h23 hne
 have hkd : (obj S.O d).kind = 2 := hI.kind hd
 refine aR.call (f := 134) (args := #[vP f, vI (c.handle), .string c.name, vI 64]) (d := (some 19)) (pre := (nC f m t S L)) (R := (mG m L S cb c R)) (pk := [0, 2, 3, 1, 4, 5, 6, 7]) (gJ := [0, 3, 1, 2, 4, 5, 6, 7]) (v0 := .tuple #[vP (L.b d), vI 0]) (fun _ => by kernel_rfl) ((by have h := dg S L f m t hI c.handle hC.hw c.name hC.nm 64 (β := β); rw [hab] at h; exact h)) rfl (by kernel_rfl) rfl (by kernel_rfl) (fun _ _ h => h) ?_
 refine gQ 5 [(6, vP (L.b d)), (7, vI 0)] [] ?_
 refine NQ (NX (af.seq (SR ?_)))
 refine gK 2 [(23, .bool false)] [] ?_
 refine NN ?_
 refine CF ?_
 refine af.skip (NX (af.seq ?_))
 have hel : (obj S.O d).ah.length ≤ 8192 := hI.eV hd
 have Ot := hC.nm
 rcases hI.kg hd c.name with hlk | ⟨tk, hlk, hlv⟩ | ⟨tk, hlk, hlv⟩ | ⟨tk, hlk, hlv⟩
 ·refine af.bC (by kernel_rfl) (by kernel_rfl) ?_
  refine gQ 8 [(28, .map (some (L.m d))), (32, .string c.name)] [(3, v_ 3 (bA L hkd)), (7, a_ 6 cb)] ?_
  refine oP 5 hkd hlk ?_
  refine gQ 1 [(8, .nilIface)] [] ?_
  refine NQ (NX (af.seq (SR ?_)))
  refine gK 2 [(35, .bool true)] [] ?_
  refine NN ?_
  refine CT ?_
  refine SR ?_
  refine gK 2 [(4, .nilIface), (5, vI 170)] [] ?_
  refine NN (af.ret (ai.aq ?_))
  exact RT (.tuple #[.nilIface, vI 170]) [0, 1, 2, 3, 4, 5, 6, 7] (⟨by rw [show eM S.O S.us c = .error 170 by unfold eM; rw [hab]; simp only; rw [hlk]]; rfl, rfl⟩)
 ·have hkt : (obj S.O tk).kind = 1 := hI.kind hlv
  refine af.bC (by kernel_rfl) (by kernel_rfl) ?_
  refine gQ 8 [(28, .map (some (L.m d))), (32, .string c.name)] [(3, v_ 3 (bA L hkd)), (7, a_ 6 cb)] ?_
  refine oP 5 hkd hlk ?_
  refine gQ 1 [(8, .iface 89 (vP (L.b tk)))] [] ?_
  refine NQ (NX (af.seq (SR ?_)))
  refine gK 2 [(35, .bool false)] [] ?_
  refine NN ?_
  refine CF ?_
  refine af.skip (NX (SR ?_))
  refine gK 3 [(4, .iface 89 (vP (L.b tk))), (5, vI 0)] [] ?_
  refine NN (af.ret ?_)
  exact RT (.tuple #[.iface 89 (vP (L.b tk)), vI 0]) [0, 1, 2, 3, 4, 5, 6, 7] (⟨by rw [show eM S.O S.us c = .ok ⟨tk, 1⟩ by unfold eM; rw [hab]; simp only; rw [hlk]]; rfl, rfl⟩)
 ·have hkt : (obj S.O tk).kind = 2 := hI.kind hlv
  refine af.bC (by kernel_rfl) (by kernel_rfl) ?_
  refine gQ 8 [(28, .map (some (L.m d))), (32, .string c.name)] [(3, v_ 3 (bA L hkd)), (7, a_ 6 cb)] ?_
  refine oP 5 hkd hlk ?_
  refine gQ 1 [(8, .iface 96 (vP (L.b tk)))] [] ?_
  refine NQ (NX (af.seq (SR ?_)))
  refine gK 2 [(35, .bool false)] [] ?_
  refine NN ?_
  refine CF ?_
  refine af.skip (NX (SR ?_))
  refine gK 3 [(4, .iface 96 (vP (L.b tk))), (5, vI 0)] [] ?_
  refine NN (af.ret ?_)
  exact RT (.tuple #[.iface 96 (vP (L.b tk)), vI 0]) [0, 1, 2, 3, 4, 5, 6, 7] (⟨by rw [show eM S.O S.us c = .ok ⟨tk, 2⟩ by unfold eM; rw [hab]; simp only; rw [hlk]]; rfl, rfl⟩)
 have hkt : (obj S.O tk).kind = 3 := hI.kind hlv
 refine af.bC (by kernel_rfl) (by kernel_rfl) ?_
 refine gQ 8 [(28, .map (some (L.m d))), (32, .string c.name)] [(3, v_ 3 (bA L hkd)), (7, a_ 6 cb)] ?_
 refine oP 5 hkd hlk ?_
 refine gQ 1 [(8, .iface 93 (vP (L.b tk)))] [] ?_
 refine NQ (NX (af.seq (SR ?_)))
 refine gK 2 [(35, .bool false)] [] ?_
 refine NN ?_
 refine CF ?_
 refine af.skip (NX (SR ?_))
 refine gK 3 [(4, .iface 93 (vP (L.b tk))), (5, vI 0)] [] ?_
 refine NN (af.ret ?_)
 exact RT (.tuple #[.iface 93 (vP (L.b tk)), vI 0]) [0, 1, 2, 3, 4, 5, 6, 7] (⟨by rw [show eM S.O S.us c = .ok ⟨tk, 3⟩ by unfold eM; rw [hab]; simp only; rw [hlk]]; rfl, rfl⟩)
theorem Fv {β : Bs} (S : aG) (L : HL) (f m t : Nat) (hI : Inv S) (cb : Nat) (c : aS) (hC : fJ β c) :
    Spec Tryz.prog β 78 #[vP f, vP cb] ((pA f m t L S) ++ [pC cb c]) (fun v l => ∃ L2, v = vI (iK S c).1 ∧ l = ((pA f m t L2 ((iK S c).2.1)) ++ [.blk cb (fZ ((iK S c).2.2)) 43])) := by
 have hX := hI.hX
 refine Spec.enter Tryz.func78 rfl Tryz.ntmps78 (Nat.le_of_ble_eq_true rfl) (fun R => ?_)
 refine SR ?_
 refine gK 1 [] [] ?_
 refine NN (af.seq ?_)
 rcases hI.Mf c.other with hix | ⟨tk, hix, hlv⟩ | ⟨tk, hix, hlv⟩ | ⟨tk, hix, hlv⟩
 ·refine af.bC (by kernel_rfl) (by kernel_rfl) ?_
  refine gQ 8 [(10, .map (some m)), (14, vI (c.other))] [(3, a_ 0 f), (7, a_ 6 cb)] ?_
  refine aR.dm 1 (d := (some 15)) (t := 80) (K := 3) (E := 84) (b := m) (n := S.idx.length) (f := (aO (aK L S.idx))) (x := (.tmp 10)) (ix := (.tmp 14)) (key := .int .i64 (c.other)) (z := .nilIface) (kl := (.int .i64 c.other)) (r := none) (fun _ => by kernel_rfl) (by kernel_rfl) (fun _ => by kernel_rfl) (fun _ => by kernel_rfl) cU Tryz.underlying80 (fun _ => by kernel_rfl) (gX hC.ow) (by rw [dQ, hix]; rfl) ?_
  refine gQ 1 [(5, .nilIface)] [] ?_
  refine NQ (NX (af.seq (SR ?_)))
  refine gK 2 [(17, .bool true)] [] ?_
  refine NN ?_
  refine CT ?_
  refine SR ?_
  refine gK 1 [(4, vI 141)] [] ?_
  refine NN (af.ret (ai.aq ?_))
  exact RT (vI 141) [0, 1, 2, 3, 4, 5, 6, 7] (⟨L, by rw [show (iK S c) = (141, S, c) by unfold iK; rw [hix]] <;> exact ⟨rfl, rfl⟩⟩)
 ·have hkt : (obj S.O tk).kind = 1 := hI.kind hlv
  refine af.bC (by kernel_rfl) (by kernel_rfl) ?_
  refine gQ 8 [(10, .map (some m)), (14, vI (c.other))] [(3, a_ 0 f), (7, a_ 6 cb)] ?_
  refine aR.dm 1 (d := (some 15)) (t := 80) (K := 3) (E := 84) (b := m) (n := S.idx.length) (f := (aO (aK L S.idx))) (x := (.tmp 10)) (ix := (.tmp 14)) (key := .int .i64 (c.other)) (z := .nilIface) (kl := (.int .i64 c.other)) (r := (some (cO L ⟨tk, 1⟩))) (fun _ => by kernel_rfl) (by kernel_rfl) (fun _ => by kernel_rfl) (fun _ => by kernel_rfl) cU Tryz.underlying80 (fun _ => by kernel_rfl) (gX hC.ow) (by rw [dQ, hix]; rfl) ?_
  refine gQ 1 [(5, .iface 89 (vP (L.b tk)))] [] ?_
  refine NQ (NX (af.seq (SR ?_)))
  refine gK 2 [(17, .bool false)] [] ?_
  refine NN ?_
  refine CF ?_
  refine af.skip (NX (af.seq (SR ?_)))
  refine gK 1 [(18, .iface 89 (vP (L.b tk)))] [] ?_
  refine gL [] (jT (vP (L.b tk))) ?_
  rintro _ _ ⟨rfl, rfl⟩
  refine gK 1 [(20, .bool true)] [] ?_
  refine NN ?_
  refine CT ?_
  refine SR ?_
  refine gK 1 [(4, vI 173)] [] ?_
  refine NN (af.ret (ai.aq ?_))
  exact RT (vI 173) [0, 1, 2, 3, 4, 5, 6, 7] (⟨L, by rw [show (iK S c) = (173, S, c) by unfold iK; rw [hix]; exact if_neg (by simp)] <;> exact ⟨rfl, rfl⟩⟩)
 ·have hkt : (obj S.O tk).kind = 2 := hI.kind hlv
  refine af.bC (by kernel_rfl) (by kernel_rfl) ?_
  refine gQ 8 [(10, .map (some m)), (14, vI (c.other))] [(3, a_ 0 f), (7, a_ 6 cb)] ?_
  refine aR.dm 1 (d := (some 15)) (t := 80) (K := 3) (E := 84) (b := m) (n := S.idx.length) (f := (aO (aK L S.idx))) (x := (.tmp 10)) (ix := (.tmp 14)) (key := .int .i64 (c.other)) (z := .nilIface) (kl := (.int .i64 c.other)) (r := (some (cO L ⟨tk, 2⟩))) (fun _ => by kernel_rfl) (by kernel_rfl) (fun _ => by kernel_rfl) (fun _ => by kernel_rfl) cU Tryz.underlying80 (fun _ => by kernel_rfl) (gX hC.ow) (by rw [dQ, hix]; rfl) ?_
  refine gQ 1 [(5, .iface 96 (vP (L.b tk)))] [] ?_
  refine NQ (NX (af.seq (SR ?_)))
  refine gK 2 [(17, .bool false)] [] ?_
  refine NN ?_
  refine CF ?_
  refine af.skip (NX (af.seq (SR ?_)))
  refine gK 1 [(18, .iface 96 (vP (L.b tk)))] [] ?_
  refine gL [] (jU (vP (L.b tk))) ?_
  rintro _ _ ⟨rfl, rfl⟩
  refine gK 1 [(20, .bool false)] [] ?_
  refine NN ?_
  refine CF ?_
  refine af.skip (NX (SR ?_))
  refine gK 1 [] [] ?_
  refine NS ?_
  refine gK 3 [(22, vP cb), (23, vP f), (24, .iface 96 (vP (L.b tk)))] [] ?_
  refine gL [0, 2, 3] (qo S L f m t ⟨tk, 2⟩ hkt (by simp) (by have := hI.AU hlv; simp only at this ⊢; omega)) ?_
  rintro _ _ ⟨rfl, rfl⟩
  refine gC 7 [(6, vI ((openM S ⟨tk, 2⟩).2.1))] [(5, a_ 6 cb)] [(6, [(12, vI ((openM S ⟨tk, 2⟩).1))])] ?_
  refine NS ?_
  refine aj.mem (aP := [.blk f [vI (S.X.cN), vI (S.X.cB), vI (S.X.cH), vI (S.X.cS), vI (S.X.cZ), .map (some m), vP t, vI (S.X.last), vI (S.X.ah), vI (S.X.used)] 86, .abs (br 156 t S.X.cH ((openM S ⟨tk, 2⟩).2.2.av) (aK L ((openM S ⟨tk, 2⟩).2.2.us))), .abs (ak (aN ((openM S ⟨tk, 2⟩).2.2.O) L)), .abs (aE Tryz.prog 3 m (aO (aK L S.idx)) S.idx.length), .abs (ak (aY ((openM S ⟨tk, 2⟩).2.2.O) L)), .abs (ak (bh ((openM S ⟨tk, 2⟩).2.2.O) L)), .blk cb [vI (c.op), vI (c.handle), vI (c.other), .string c.name, .string c.text, .slice c.dA (c.data.length) (c.dC), vI (c.mode), vI (c.uid), vI (c.gid), vI (c.sec), vI (c.nano), vI (c.code), vI ((openM S ⟨tk, 2⟩).1)] 43, .abs R]) (fun w hS => by rw [wU, wV]; exact hS) ?_
  refine gK 2 [(4, vI ((openM S ⟨tk, 2⟩).2.1))] [] ?_
  refine NN (af.ret ?_)
  exact RT (vI ((openM S ⟨tk, 2⟩).2.1)) [0, 3, 1, 2, 4, 5, 6, 7] (⟨L, by rw [show (iK S c) = ((openM S ⟨tk, 2⟩).2.1, (openM S ⟨tk, 2⟩).2.2, { c with answer := (openM S ⟨tk, 2⟩).1 }) by unfold iK; rw [hix]; exact if_pos rfl] <;> exact ⟨rfl, rfl⟩⟩)
 have hkt : (obj S.O tk).kind = 3 := hI.kind hlv
 refine af.bC (by kernel_rfl) (by kernel_rfl) ?_
 refine gQ 8 [(10, .map (some m)), (14, vI (c.other))] [(3, a_ 0 f), (7, a_ 6 cb)] ?_
 refine aR.dm 1 (d := (some 15)) (t := 80) (K := 3) (E := 84) (b := m) (n := S.idx.length) (f := (aO (aK L S.idx))) (x := (.tmp 10)) (ix := (.tmp 14)) (key := .int .i64 (c.other)) (z := .nilIface) (kl := (.int .i64 c.other)) (r := (some (cO L ⟨tk, 3⟩))) (fun _ => by kernel_rfl) (by kernel_rfl) (fun _ => by kernel_rfl) (fun _ => by kernel_rfl) cU Tryz.underlying80 (fun _ => by kernel_rfl) (gX hC.ow) (by rw [dQ, hix]; rfl) ?_
 refine gQ 1 [(5, .iface 93 (vP (L.b tk)))] [] ?_
 refine NQ (NX (af.seq (SR ?_)))
 refine gK 2 [(17, .bool false)] [] ?_
 refine NN ?_
 refine CF ?_
 refine af.skip (NX (af.seq (SR ?_)))
 refine gK 1 [(18, .iface 93 (vP (L.b tk)))] [] ?_
 refine gL [] (kC (vP (L.b tk))) ?_
 rintro _ _ ⟨rfl, rfl⟩
 refine gK 1 [(20, .bool true)] [] ?_
 refine NN ?_
 refine CT ?_
 refine SR ?_
 refine gK 1 [(4, vI 173)] [] ?_
 refine NN (af.ret (ai.aq ?_))
 exact RT (vI 173) [0, 1, 2, 3, 4, 5, 6, 7] (⟨L, by rw [show (iK S c) = (173, S, c) by unfold iK; rw [hix]; exact if_neg (by simp)] <;> exact ⟨rfl, rfl⟩⟩)
theorem Br {β : Bs} (S : aG) (L : HL) (f m t : Nat) (hI : Inv S) (cb : Nat) (c : aS) (hC : fJ β c) :
    Spec Tryz.prog β 79 #[vP f, vP cb] ((pA f m t L S) ++ [pC cb c]) (fun v l => ∃ L2, v = vI (d9 S c).1 ∧ l = ((pA f m t L2 ((d9 S c).2.1)) ++ [.blk cb (fZ ((d9 S c).2.2)) 43])) := by
 have hX := hI.hX
 refine Spec.enter Tryz.func79 rfl Tryz.ntmps79 (Nat.le_of_ble_eq_true rfl) (fun R => ?_)
 refine SR ?_
 refine gK 1 [] [] ?_
 refine NS ?_
 refine gK 2 [(8, vP f), (9, vP cb)] [] ?_
 rcases yt hI.toInv0 c with ⟨e, hnm, hne⟩ | ⟨tk, hnm, hlv⟩ | ⟨tk, hnm, hlv⟩ | ⟨tk, hnm, hlv⟩
 ·refine gL (f := 133) (args := #[vP f, vP cb]) (pre := ((pA f m t L S) ++ [pC cb c])) [0, 1, 2, 3, 4, 5, 6] ((by have h := fW S L f m t hI cb c hC (β := β); rw [hnm] at h; exact h)) ?_
  rintro _ _ ⟨rfl, rfl⟩
  refine gK 5 [(5, .nilIface), (6, vI (e))] [] ?_
  refine NN (af.seq (SR ?_))
  refine gK 2 [(14, .bool (!(decide ((e : Int) = (0 : Int)))))] [] ?_
  refine NN ?_
  refine af.ct (p := (e : Int) = (0 : Int)) (fun _ => by kernel_rfl) (fun gG => ?_) (fun gG => ?_)
  ·refine SR ?_
   refine gK 2 [(4, vI (e))] [] ?_
   refine NN (af.ret (ai.aq ?_))
   exact RT (vI (e)) [0, 1, 2, 3, 4, 5, 6, 7] (⟨L, by rw [show (d9 S c) = (e, S, c) by unfold d9; rw [hnm]] <;> exact ⟨rfl, rfl⟩⟩)
  exact absurd gG hne
 ·have hkt : (obj S.O tk).kind = 1 := hI.kind hlv
  refine gL (f := 133) (args := #[vP f, vP cb]) (pre := ((pA f m t L S) ++ [pC cb c])) [0, 1, 2, 3, 4, 5, 6] ((by have h := fW S L f m t hI cb c hC (β := β); rw [hnm] at h; exact h)) ?_
  rintro _ _ ⟨rfl, rfl⟩
  refine gK 5 [(5, .iface 89 (vP (L.b tk))), (6, vI 0)] [] ?_
  refine NN (af.seq (SR ?_))
  refine gK 2 [(14, .bool false)] [] ?_
  refine NN ?_
  refine CF ?_
  refine af.skip (NX (af.seq (SR ?_)))
  refine gK 1 [(16, .iface 89 (vP (L.b tk)))] [] ?_
  refine NN (af.block (SR ?_))
  refine gK 3 [(18, .bool false)] [] ?_
  refine NN ?_
  refine CF ?_
  refine SR ?_
  refine gK 3 [(21, .bool true)] [] ?_
  refine NN ?_
  refine CT ?_
  refine SR ?_
  refine gK 1 [(4, vI 173)] [] ?_
  refine NN (af.ret (ai.aF (ai.aq ?_)))
  exact RT (vI 173) [0, 1, 2, 3, 4, 5, 6, 7] (⟨L, by rw [show (d9 S c) = (173, S, c) by unfold d9; rw [hnm]; exact (if_neg (by simp)).trans (if_pos rfl)] <;> exact ⟨rfl, rfl⟩⟩)
 ·have hkt : (obj S.O tk).kind = 2 := hI.kind hlv
  refine gL (f := 133) (args := #[vP f, vP cb]) (pre := ((pA f m t L S) ++ [pC cb c])) [0, 1, 2, 3, 4, 5, 6] ((by have h := fW S L f m t hI cb c hC (β := β); rw [hnm] at h; exact h)) ?_
  rintro _ _ ⟨rfl, rfl⟩
  refine gK 5 [(5, .iface 96 (vP (L.b tk))), (6, vI 0)] [] ?_
  refine NN (af.seq (SR ?_))
  refine gK 2 [(14, .bool false)] [] ?_
  refine NN ?_
  refine CF ?_
  refine af.skip (NX (af.seq (SR ?_)))
  refine gK 1 [(16, .iface 96 (vP (L.b tk)))] [] ?_
  refine NN (af.block (SR ?_))
  refine gK 3 [(18, .bool false)] [] ?_
  refine NN ?_
  refine CF ?_
  refine SR ?_
  refine gK 3 [(21, .bool false)] [] ?_
  refine NN ?_
  refine CF ?_
  refine af.skip (ai.aL (NX (SR ?_)))
  refine gK 3 [(24, vP cb), (25, vP f), (26, .iface 96 (vP (L.b tk)))] [] ?_
  refine gL [0, 2, 3] (qo S L f m t ⟨tk, 2⟩ hkt (by simp) (by have := hI.AU hlv; simp only at this ⊢; omega)) ?_
  rintro _ _ ⟨rfl, rfl⟩
  refine gC 7 [(6, vI ((openM S ⟨tk, 2⟩).2.1))] [(5, a_ 6 cb)] [(6, [(12, vI ((openM S ⟨tk, 2⟩).1))])] ?_
  refine NS ?_
  refine aj.mem (aP := [.blk f [vI (S.X.cN), vI (S.X.cB), vI (S.X.cH), vI (S.X.cS), vI (S.X.cZ), .map (some m), vP t, vI (S.X.last), vI (S.X.ah), vI (S.X.used)] 86, .abs (br 156 t S.X.cH ((openM S ⟨tk, 2⟩).2.2.av) (aK L ((openM S ⟨tk, 2⟩).2.2.us))), .abs (ak (aN ((openM S ⟨tk, 2⟩).2.2.O) L)), .abs (aE Tryz.prog 3 m (aO (aK L S.idx)) S.idx.length), .abs (ak (aY ((openM S ⟨tk, 2⟩).2.2.O) L)), .abs (ak (bh ((openM S ⟨tk, 2⟩).2.2.O) L)), .blk cb [vI (c.op), vI (c.handle), vI (c.other), .string c.name, .string c.text, .slice c.dA (c.data.length) (c.dC), vI (c.mode), vI (c.uid), vI (c.gid), vI (c.sec), vI (c.nano), vI (c.code), vI ((openM S ⟨tk, 2⟩).1)] 43, .abs R]) (fun w hS => by rw [wU, wV]; exact hS) ?_
  refine gK 2 [(4, vI ((openM S ⟨tk, 2⟩).2.1))] [] ?_
  refine NN (af.ret ?_)
  exact RT (vI ((openM S ⟨tk, 2⟩).2.1)) [0, 3, 1, 2, 4, 5, 6, 7] (⟨L, by rw [show (d9 S c) = ((openM S ⟨tk, 2⟩).2.1, (openM S ⟨tk, 2⟩).2.2, { c with answer := (openM S ⟨tk, 2⟩).1 }) by unfold d9; rw [hnm]; exact (if_neg (by simp)).trans (if_neg (by simp))] <;> exact ⟨rfl, rfl⟩⟩)
 have hkt : (obj S.O tk).kind = 3 := hI.kind hlv
 refine gL (f := 133) (args := #[vP f, vP cb]) (pre := ((pA f m t L S) ++ [pC cb c])) [0, 1, 2, 3, 4, 5, 6] ((by have h := fW S L f m t hI cb c hC (β := β); rw [hnm] at h; exact h)) ?_
 rintro _ _ ⟨rfl, rfl⟩
 refine gK 5 [(5, .iface 93 (vP (L.b tk))), (6, vI 0)] [] ?_
 refine NN (af.seq (SR ?_))
 refine gK 2 [(14, .bool false)] [] ?_
 refine NN ?_
 refine CF ?_
 refine af.skip (NX (af.seq (SR ?_)))
 refine gK 1 [(16, .iface 93 (vP (L.b tk)))] [] ?_
 refine NN (af.block (SR ?_))
 refine gK 3 [(18, .bool true)] [] ?_
 refine NN ?_
 refine CT ?_
 refine SR ?_
 refine gK 1 [(4, vI 174)] [] ?_
 refine NN (af.ret (ai.aF (ai.aq ?_)))
 exact RT (vI 174) [0, 1, 2, 3, 4, 5, 6, 7] (⟨L, by rw [show (d9 S c) = (174, S, c) by unfold d9; rw [hnm]; exact if_pos rfl] <;> exact ⟨rfl, rfl⟩⟩)
theorem zR {β : Bs} (S : aG) (L : HL) (f m t : Nat) (hI : Inv S) (cb : Nat) (c : aS) (hC : fJ β c) :
    Spec Tryz.prog β 80 #[vP f, vP cb] ((pA f m t L S) ++ [pC cb c]) (fun v l => ∃ L2, v = vI (dP S c).1 ∧ l = ((pA f m t L2 ((dP S c).2.1)) ++ [.blk cb (fZ ((dP S c).2.2)) 43])) := by
 have hX := hI.hX
 refine Spec.enter Tryz.func80 rfl Tryz.ntmps80 (Nat.le_of_ble_eq_true rfl) (fun R => ?_)
 refine SR ?_
 refine gK 1 [] [] ?_
 refine NS ?_
 refine gK 2 [(8, vP f), (9, vP cb)] [] ?_
 rcases yt hI.toInv0 c with ⟨e, hnm, hne⟩ | ⟨tk, hnm, hlv⟩ | ⟨tk, hnm, hlv⟩ | ⟨tk, hnm, hlv⟩
 ·refine gL (f := 133) (args := #[vP f, vP cb]) (pre := ((pA f m t L S) ++ [pC cb c])) [0, 1, 2, 3, 4, 5, 6] ((by have h := fW S L f m t hI cb c hC (β := β); rw [hnm] at h; exact h)) ?_
  rintro _ _ ⟨rfl, rfl⟩
  refine gK 5 [(5, .nilIface), (6, vI (e))] [] ?_
  refine NN (af.seq (SR ?_))
  refine gK 2 [(14, .bool (!(decide ((e : Int) = (0 : Int)))))] [] ?_
  refine NN ?_
  refine af.ct (p := (e : Int) = (0 : Int)) (fun _ => by kernel_rfl) (fun gG => ?_) (fun gG => ?_)
  ·refine SR ?_
   refine gK 2 [(4, vI (e))] [] ?_
   refine NN (af.ret (ai.aq ?_))
   exact RT (vI (e)) [0, 1, 2, 3, 4, 5, 6, 7] (⟨L, by rw [show (dP S c) = (e, S, c) by unfold dP; rw [hnm]] <;> exact ⟨rfl, rfl⟩⟩)
  exact absurd gG hne
 ·have hkt : (obj S.O tk).kind = 1 := hI.kind hlv
  refine gL (f := 133) (args := #[vP f, vP cb]) (pre := ((pA f m t L S) ++ [pC cb c])) [0, 1, 2, 3, 4, 5, 6] ((by have h := fW S L f m t hI cb c hC (β := β); rw [hnm] at h; exact h)) ?_
  rintro _ _ ⟨rfl, rfl⟩
  refine gK 5 [(5, .iface 89 (vP (L.b tk))), (6, vI 0)] [] ?_
  refine NN (af.seq (SR ?_))
  refine gK 2 [(14, .bool false)] [] ?_
  refine NN ?_
  refine CF ?_
  refine af.skip (NX (af.seq (SR ?_)))
  refine gK 1 [(16, .iface 89 (vP (L.b tk)))] [] ?_
  refine NN (af.block (SR ?_))
  refine gK 3 [(18, .bool false)] [] ?_
  refine NN ?_
  refine CF ?_
  refine SR ?_
  refine gK 3 [(21, .bool false)] [] ?_
  refine NN ?_
  refine CF ?_
  refine af.skip (ai.aL (NX (SR ?_)))
  refine gK 3 [(24, vP cb), (25, vP f), (26, .iface 89 (vP (L.b tk)))] [] ?_
  refine gL [0, 2, 3] (qo S L f m t ⟨tk, 1⟩ hkt (by simp) (by have := hI.AU hlv; simp only at this ⊢; omega)) ?_
  rintro _ _ ⟨rfl, rfl⟩
  refine gC 7 [(6, vI ((openM S ⟨tk, 1⟩).2.1))] [(5, a_ 6 cb)] [(6, [(12, vI ((openM S ⟨tk, 1⟩).1))])] ?_
  refine NS ?_
  refine aj.mem (aP := [.blk f [vI (S.X.cN), vI (S.X.cB), vI (S.X.cH), vI (S.X.cS), vI (S.X.cZ), .map (some m), vP t, vI (S.X.last), vI (S.X.ah), vI (S.X.used)] 86, .abs (br 156 t S.X.cH ((openM S ⟨tk, 1⟩).2.2.av) (aK L ((openM S ⟨tk, 1⟩).2.2.us))), .abs (ak (aN ((openM S ⟨tk, 1⟩).2.2.O) L)), .abs (aE Tryz.prog 3 m (aO (aK L S.idx)) S.idx.length), .abs (ak (aY ((openM S ⟨tk, 1⟩).2.2.O) L)), .abs (ak (bh ((openM S ⟨tk, 1⟩).2.2.O) L)), .blk cb [vI (c.op), vI (c.handle), vI (c.other), .string c.name, .string c.text, .slice c.dA (c.data.length) (c.dC), vI (c.mode), vI (c.uid), vI (c.gid), vI (c.sec), vI (c.nano), vI (c.code), vI ((openM S ⟨tk, 1⟩).1)] 43, .abs R]) (fun w hS => by rw [wU, wV]; exact hS) ?_
  refine gK 2 [(4, vI ((openM S ⟨tk, 1⟩).2.1))] [] ?_
  refine NN (af.ret ?_)
  exact RT (vI ((openM S ⟨tk, 1⟩).2.1)) [0, 3, 1, 2, 4, 5, 6, 7] (⟨L, by rw [show (dP S c) = ((openM S ⟨tk, 1⟩).2.1, (openM S ⟨tk, 1⟩).2.2, { c with answer := (openM S ⟨tk, 1⟩).1 }) by unfold dP; rw [hnm]; exact (if_neg (by simp)).trans (if_neg (by simp))] <;> exact ⟨rfl, rfl⟩⟩)
 ·have hkt : (obj S.O tk).kind = 2 := hI.kind hlv
  refine gL (f := 133) (args := #[vP f, vP cb]) (pre := ((pA f m t L S) ++ [pC cb c])) [0, 1, 2, 3, 4, 5, 6] ((by have h := fW S L f m t hI cb c hC (β := β); rw [hnm] at h; exact h)) ?_
  rintro _ _ ⟨rfl, rfl⟩
  refine gK 5 [(5, .iface 96 (vP (L.b tk))), (6, vI 0)] [] ?_
  refine NN (af.seq (SR ?_))
  refine gK 2 [(14, .bool false)] [] ?_
  refine NN ?_
  refine CF ?_
  refine af.skip (NX (af.seq (SR ?_)))
  refine gK 1 [(16, .iface 96 (vP (L.b tk)))] [] ?_
  refine NN (af.block (SR ?_))
  refine gK 3 [(18, .bool false)] [] ?_
  refine NN ?_
  refine CF ?_
  refine SR ?_
  refine gK 3 [(21, .bool true)] [] ?_
  refine NN ?_
  refine CT ?_
  refine SR ?_
  refine gK 1 [(4, vI 172)] [] ?_
  refine NN (af.ret (ai.aF (ai.aq ?_)))
  exact RT (vI 172) [0, 1, 2, 3, 4, 5, 6, 7] (⟨L, by rw [show (dP S c) = (172, S, c) by unfold dP; rw [hnm]; exact (if_neg (by simp)).trans (if_pos rfl)] <;> exact ⟨rfl, rfl⟩⟩)
 have hkt : (obj S.O tk).kind = 3 := hI.kind hlv
 refine gL (f := 133) (args := #[vP f, vP cb]) (pre := ((pA f m t L S) ++ [pC cb c])) [0, 1, 2, 3, 4, 5, 6] ((by have h := fW S L f m t hI cb c hC (β := β); rw [hnm] at h; exact h)) ?_
 rintro _ _ ⟨rfl, rfl⟩
 refine gK 5 [(5, .iface 93 (vP (L.b tk))), (6, vI 0)] [] ?_
 refine NN (af.seq (SR ?_))
 refine gK 2 [(14, .bool false)] [] ?_
 refine NN ?_
 refine CF ?_
 refine af.skip (NX (af.seq (SR ?_)))
 refine gK 1 [(16, .iface 93 (vP (L.b tk)))] [] ?_
 refine NN (af.block (SR ?_))
 refine gK 3 [(18, .bool true)] [] ?_
 refine NN ?_
 refine CT ?_
 refine SR ?_
 refine gK 1 [(4, vI 174)] [] ?_
 refine NN (af.ret (ai.aF (ai.aq ?_)))
 exact RT (vI 174) [0, 1, 2, 3, 4, 5, 6, 7] (⟨L, by rw [show (dP S c) = (174, S, c) by unfold dP; rw [hnm]; exact if_pos rfl] <;> exact ⟨rfl, rfl⟩⟩)
theorem DR {β : Bs} (S : aG) (L : HL) (f m t : Nat) (hI : Inv S) (cb : Nat) (c : aS) (hC : fJ β c) :
    Spec Tryz.prog β 81 #[vP f, vP cb] ((pA f m t L S) ++ [pC cb c]) (fun v l => ∃ L2, v = vI (eX S c).1 ∧ l = ((pA f m t L2 ((eX S c).2.1)) ++ [.blk cb (fZ ((eX S c).2.2)) 43])) := by
 have hX := hI.hX
 refine Spec.enter Tryz.func81 rfl Tryz.ntmps81 (Nat.le_of_ble_eq_true rfl) (fun R => ?_)
 refine SR ?_
 refine gK 1 [] [] ?_
 refine NN (af.seq ?_)
 refine af.bC (by kernel_rfl) (by kernel_rfl) ?_
 refine gQ 9 (Kz f c) [(4, a_ 6 cb), (8, a_ 6 cb)] ?_
 rcases jA hI.toInv0 c.handle c.name 192 with ⟨e, hab, hne⟩ | ⟨d, hab, hd, gy, hgn, cK⟩
 ·refine aR.call (f := 134) (args := #[vP f, vI (c.handle), .string c.name, vI 192]) (d := (some 17)) (pre := (nC f m t S L)) (R := (mG m L S cb c R)) (pk := [0, 2, 3, 1, 4, 5, 6, 7]) (gJ := [0, 3, 1, 2, 4, 5, 6, 7]) (v0 := .tuple #[.pointer none, vI (e)]) (fun _ => by kernel_rfl) ((by have h := dg S L f m t hI c.handle hC.hw c.name hC.nm 192 (β := β); rw [hab] at h; exact h)) rfl (by kernel_rfl) rfl (by kernel_rfl) (fun _ _ h => h) ?_
  refine gQ 5 (Hj e) [] ?_
  refine NQ (NX (af.seq (SR ?_)))
  refine gK 2 [(21, .bool (!(decide ((e : Int) = (0 : Int)))))] [] ?_
  refine NN ?_
  refine af.ct (p := (e : Int) = (0 : Int)) (fun _ => by kernel_rfl) (fun r9 => ?_) (fun r9 => ?_)
  ·refine SR ?_
   refine gK 2 [(4, vI (e))] [] ?_
   refine NN (af.ret (ai.aq ?_))
   exact RT (vI (e)) [0, 1, 2, 3, 4, 5, 6, 7] (⟨L, by rw [show (eX S c) = (e, S, c) by unfold eX; rw [hab]] <;> exact ⟨rfl, rfl⟩⟩)
  exact absurd r9 hne
 have hkd : (obj S.O d).kind = 2 := hI.kind hd
 refine aR.call (f := 134) (args := #[vP f, vI (c.handle), .string c.name, vI 192]) (d := (some 17)) (pre := (nC f m t S L)) (R := (mG m L S cb c R)) (pk := [0, 2, 3, 1, 4, 5, 6, 7]) (gJ := [0, 3, 1, 2, 4, 5, 6, 7]) (v0 := .tuple #[vP (L.b d), vI 0]) (fun _ => by kernel_rfl) ((by have h := dg S L f m t hI c.handle hC.hw c.name hC.nm 192 (β := β); rw [hab] at h; exact h)) rfl (by kernel_rfl) rfl (by kernel_rfl) (fun _ _ h => h) ?_
 refine gQ 5 (CZ L d) [] ?_
 refine NQ (NX (af.seq (SR ?_)))
 refine gK 2 [(21, .bool false)] [] ?_
 refine NN ?_
 refine CF ?_
 refine af.skip (NX (af.seq (SR ?_)))
 refine gK 4 [(26, vI (c.mode))] [(3, a_ 6 cb)] ?_
 refine gL [] (ef (c.mode) 4095) ?_
 rintro _ _ ⟨rfl, rfl⟩
 refine gK 1 [(28, .bool (!(decide (0 ≤ c.mode ∧ c.mode ≤ 4095))))] [] ?_
 refine NN ?_
 refine af.ct (p := 0 ≤ c.mode ∧ c.mode ≤ 4095) (fun _ => by kernel_rfl) (fun MJ => ?_) (fun MJ => ?_)
 ·refine SR ?_
  refine gK 1 [(4, vI 120)] [] ?_
  refine NN (af.ret (ai.aq ?_))
  exact RT (vI 120) [0, 1, 2, 3, 4, 5, 6, 7] (⟨L, by rw [show (eX S c) = (120, S, c) by unfold eX; rw [hab]; exact if_neg MJ] <;> exact ⟨rfl, rfl⟩⟩)
 refine af.skip (NX (af.seq ?_))
 refine af.ck (S := [pC cb c]) [0, 1, 2, 3, 4, 5, 6, 7, 8, 9, 10, 11] 10 [6] (by kernel_rfl) (by kernel_rfl) rfl (by kernel_rfl) ?_
 refine aH.reads (r := 0) (l := [10, 11]) (fr' := [(29, vP f), (30, vP (L.b d)), (34, .string c.name), (38, vI (c.mode))]) (aU := [cb = cb, cb = cb]) [0, 1, 2, 3, 4, 5, 6, 7, 8, 9] [o_, o_, o_, o_, o_, ⟨[.at 0], none, none, none, none⟩, o_, o_, o_, ⟨[.at 0], none, none, none, none⟩] [29, 30, 34, 38] (fun _ => by kernel_rfl) ⟨rfl, rfl, trivial⟩ rfl rfl ?_
 refine mL [6] [0, 1, 2, 3, 4, 5] (AX S L f m t hI d hd c.name hC.nm c.mode) ?_ (by rintro _ _ ⟨L2, rfl, rfl⟩; rfl)
 rintro _ _ ⟨L2, rfl, rfl⟩
 refine aH.last rfl rfl ?_
 refine gK 1 [(4, vI ((mkdirM S d c.name c.mode).1))] [] ?_
 refine NL (ai.np (NX (af.ret ?_)))
 exact RT (vI ((mkdirM S d c.name c.mode).1)) [0, 1, 2, 3, 4, 5, 6, 7] (⟨L2, by rw [show (eX S c) = ((mkdirM S d c.name c.mode).1, (mkdirM S d c.name c.mode).2, c) by unfold eX; rw [hab]; exact if_pos MJ] <;> exact ⟨rfl, rfl⟩⟩)
theorem Bt {β : Bs} (S : aG) (L : HL) (f m t : Nat) (hI : Inv S) (cb : Nat) (c : aS) (hC : fJ β c) :
    Spec Tryz.prog β 83 #[vP f, vP cb] ((pA f m t L S) ++ [pC cb c]) (fun v l => ∃ L2, v = vI (eS S c).1 ∧ l = ((pA f m t L2 ((eS S c).2.1)) ++ [.blk cb (fZ ((eS S c).2.2)) 43])) := by
 have hX := hI.hX
 refine Spec.enter Tryz.func83 rfl Tryz.ntmps83 (Nat.le_of_ble_eq_true rfl) (fun R => ?_)
 refine SR ?_
 refine gK 1 [] [] ?_
 refine NN (af.seq ?_)
 refine af.bC (by kernel_rfl) (by kernel_rfl) ?_
 refine gQ 9 (Kz f c) [(4, a_ 6 cb), (8, a_ 6 cb)] ?_
 rcases jA hI.toInv0 c.handle c.name 192 with ⟨e, hab, hne⟩ | ⟨d, hab, hd, gy, hgn, cK⟩
 ·refine aR.call (f := 134) (args := #[vP f, vI (c.handle), .string c.name, vI 192]) (d := (some 17)) (pre := (nC f m t S L)) (R := (mG m L S cb c R)) (pk := [0, 2, 3, 1, 4, 5, 6, 7]) (gJ := [0, 3, 1, 2, 4, 5, 6, 7]) (v0 := .tuple #[.pointer none, vI (e)]) (fun _ => by kernel_rfl) ((by have h := dg S L f m t hI c.handle hC.hw c.name hC.nm 192 (β := β); rw [hab] at h; exact h)) rfl (by kernel_rfl) rfl (by kernel_rfl) (fun _ _ h => h) ?_
  refine gQ 5 (Hj e) [] ?_
  refine NQ (NX (af.seq (SR ?_)))
  refine gK 2 [(21, .bool (!(decide ((e : Int) = (0 : Int)))))] [] ?_
  refine NN ?_
  refine af.ct (p := (e : Int) = (0 : Int)) (fun _ => by kernel_rfl) (fun r9 => ?_) (fun r9 => ?_)
  ·refine SR ?_
   refine gK 2 [(4, vI (e))] [] ?_
   refine NN (af.ret (ai.aq ?_))
   exact RT (vI (e)) [0, 1, 2, 3, 4, 5, 6, 7] (⟨L, by rw [show (eS S c) = (e, S, c) by unfold eS; rw [hab]] <;> exact ⟨rfl, rfl⟩⟩)
  exact absurd r9 hne
 have hkd : (obj S.O d).kind = 2 := hI.kind hd
 refine aR.call (f := 134) (args := #[vP f, vI (c.handle), .string c.name, vI 192]) (d := (some 17)) (pre := (nC f m t S L)) (R := (mG m L S cb c R)) (pk := [0, 2, 3, 1, 4, 5, 6, 7]) (gJ := [0, 3, 1, 2, 4, 5, 6, 7]) (v0 := .tuple #[vP (L.b d), vI 0]) (fun _ => by kernel_rfl) ((by have h := dg S L f m t hI c.handle hC.hw c.name hC.nm 192 (β := β); rw [hab] at h; exact h)) rfl (by kernel_rfl) rfl (by kernel_rfl) (fun _ _ h => h) ?_
 refine gQ 5 (CZ L d) [] ?_
 refine NQ (NX (af.seq (SR ?_)))
 refine gK 2 [(21, .bool false)] [] ?_
 refine NN ?_
 refine CF ?_
 refine af.skip (NX (af.seq ?_))
 refine af.ck (S := [pC cb c]) [0, 1, 2, 3, 4, 5, 6, 7, 8, 9, 10, 11] 10 [6] (by kernel_rfl) (by kernel_rfl) rfl (by kernel_rfl) ?_
 refine aH.reads (r := 0) (l := [10, 11]) (fr' := [(23, vP f), (24, vP (L.b d)), (28, .string c.name), (32, .string c.text)]) (aU := [cb = cb, cb = cb]) [0, 1, 2, 3, 4, 5, 6, 7, 8, 9] [o_, o_, o_, o_, o_, ⟨[.at 0], none, none, none, none⟩, o_, o_, o_, ⟨[.at 0], none, none, none, none⟩] [23, 24, 28, 32] (fun _ => by kernel_rfl) ⟨rfl, rfl, trivial⟩ rfl rfl ?_
 refine mL [6] [0, 1, 2, 3, 4, 5] (vZ S L f m t hI d hd c.name hC.nm c.text hC.tx) ?_ (by rintro _ _ ⟨L2, rfl, rfl⟩; rfl)
 rintro _ _ ⟨L2, rfl, rfl⟩
 refine aH.last rfl rfl ?_
 refine gK 1 [(4, vI ((symlinkM S d c.name c.text).1))] [] ?_
 refine NL (ai.np (NX (af.ret ?_)))
 exact RT (vI ((symlinkM S d c.name c.text).1)) [0, 1, 2, 3, 4, 5, 6, 7] (⟨L2, by rw [show (eS S c) = ((symlinkM S d c.name c.text).1, (symlinkM S d c.name c.text).2, c) by unfold eS; rw [hab]] <;> exact ⟨rfl, rfl⟩⟩)
theorem C0 {β : Bs} (S : aG) (L : HL) (f m t : Nat) (hI : Inv S) (cb : Nat) (c : aS) (hC : fJ β c) :
    Spec Tryz.prog β 85 #[vP f, vP cb] ((pA f m t L S) ++ [pC cb c]) (fun v l => ∃ L2, v = vI (fF S c).1 ∧ l = ((pA f m t L2 ((fF S c).2.1)) ++ [.blk cb (fZ ((fF S c).2.2)) 43])) := by
 have hX := hI.hX
 refine Spec.enter Tryz.func85 rfl Tryz.ntmps85 (Nat.le_of_ble_eq_true rfl) (fun R => ?_)
 refine SR ?_
 refine gK 1 [] [] ?_
 refine NN (af.seq ?_)
 refine af.bC (by kernel_rfl) (by kernel_rfl) ?_
 refine gQ 9 (Kz f c) [(4, a_ 6 cb), (8, a_ 6 cb)] ?_
 rcases jA hI.toInv0 c.handle c.name 192 with ⟨e, hab, hne⟩ | ⟨d, hab, hd, gy, hgn, cK⟩
 ·refine aR.call (f := 134) (args := #[vP f, vI (c.handle), .string c.name, vI 192]) (d := (some 17)) (pre := (nC f m t S L)) (R := (mG m L S cb c R)) (pk := [0, 2, 3, 1, 4, 5, 6, 7]) (gJ := [0, 3, 1, 2, 4, 5, 6, 7]) (v0 := .tuple #[.pointer none, vI (e)]) (fun _ => by kernel_rfl) ((by have h := dg S L f m t hI c.handle hC.hw c.name hC.nm 192 (β := β); rw [hab] at h; exact h)) rfl (by kernel_rfl) rfl (by kernel_rfl) (fun _ _ h => h) ?_
  refine gQ 5 (Hj e) [] ?_
  refine NQ (NX (af.seq (SR ?_)))
  refine gK 2 [(21, .bool (!(decide ((e : Int) = (0 : Int)))))] [] ?_
  refine NN ?_
  refine af.ct (p := (e : Int) = (0 : Int)) (fun _ => by kernel_rfl) (fun r9 => ?_) (fun r9 => ?_)
  ·refine SR ?_
   refine gK 2 [(4, vI (e))] [] ?_
   refine NN (af.ret (ai.aq ?_))
   exact RT (vI (e)) [0, 1, 2, 3, 4, 5, 6, 7] (⟨L, by rw [show (fF S c) = (e, S, c) by unfold fF; rw [hab]] <;> exact ⟨rfl, rfl⟩⟩)
  exact absurd r9 hne
 have hkd : (obj S.O d).kind = 2 := hI.kind hd
 refine aR.call (f := 134) (args := #[vP f, vI (c.handle), .string c.name, vI 192]) (d := (some 17)) (pre := (nC f m t S L)) (R := (mG m L S cb c R)) (pk := [0, 2, 3, 1, 4, 5, 6, 7]) (gJ := [0, 3, 1, 2, 4, 5, 6, 7]) (v0 := .tuple #[vP (L.b d), vI 0]) (fun _ => by kernel_rfl) ((by have h := dg S L f m t hI c.handle hC.hw c.name hC.nm 192 (β := β); rw [hab] at h; exact h)) rfl (by kernel_rfl) rfl (by kernel_rfl) (fun _ _ h => h) ?_
 refine gQ 5 (CZ L d) [] ?_
 refine NQ (NX (af.seq (SR ?_)))
 refine gK 2 [(21, .bool false)] [] ?_
 refine NN ?_
 refine CF ?_
 refine af.skip (NX (SR ?_))
 refine gK 6 [(23, vP f), (24, vP (L.b d)), (28, .string c.name)] [(5, a_ 6 cb)] ?_
 refine gL [0, 1, 2, 3, 4, 5] (yO S L f m t hI d hd c.name hC.nm) ?_
 rintro _ _ ⟨L2, rfl, rfl⟩
 refine gK 1 [(4, vI ((unlinkM S d c.name).1))] [] ?_
 refine NN (af.ret ?_)
 exact RT (vI ((unlinkM S d c.name).1)) [0, 1, 2, 3, 4, 5, 6, 7] (⟨L2, by rw [show (fF S c) = ((unlinkM S d c.name).1, (unlinkM S d c.name).2, c) by unfold fF; rw [hab]] <;> exact ⟨rfl, rfl⟩⟩)
theorem DS {β : Bs} (S : aG) (L : HL) (f m t : Nat) (hI : Inv S) (cb : Nat) (c : aS) (hC : fJ β c) :
    Spec Tryz.prog β 91 #[vP f, vP cb] ((pA f m t L S) ++ [pC cb c]) (fun v l => ∃ L2, v = vI (gj S c).1 ∧ l = ((pA f m t L2 ((gj S c).2.1)) ++ [.blk cb (fZ ((gj S c).2.2)) 43])) := by
 have hX := hI.hX
 refine Spec.enter Tryz.func91 rfl Tryz.ntmps91 (Nat.le_of_ble_eq_true rfl) (fun R => ?_)
 refine SR ?_
 refine gK 1 [] [] ?_
 refine NN (af.seq ?_)
 refine af.bC (by kernel_rfl) (by kernel_rfl) ?_
 refine gQ 9 (Kz f c) [(4, a_ 6 cb), (8, a_ 6 cb)] ?_
 rcases jA hI.toInv0 c.handle c.name 192 with ⟨e, hab, hne⟩ | ⟨d, hab, hd, gy, hgn, cK⟩
 ·refine aR.call (f := 134) (args := #[vP f, vI (c.handle), .string c.name, vI 192]) (d := (some 17)) (pre := (nC f m t S L)) (R := (mG m L S cb c R)) (pk := [0, 2, 3, 1, 4, 5, 6, 7]) (gJ := [0, 3, 1, 2, 4, 5, 6, 7]) (v0 := .tuple #[.pointer none, vI (e)]) (fun _ => by kernel_rfl) ((by have h := dg S L f m t hI c.handle hC.hw c.name hC.nm 192 (β := β); rw [hab] at h; exact h)) rfl (by kernel_rfl) rfl (by kernel_rfl) (fun _ _ h => h) ?_
  refine gQ 5 (Hj e) [] ?_
  refine NQ (NX (af.seq (SR ?_)))
  refine gK 2 [(21, .bool (!(decide ((e : Int) = (0 : Int)))))] [] ?_
  refine NN ?_
  refine af.ct (p := (e : Int) = (0 : Int)) (fun _ => by kernel_rfl) (fun r9 => ?_) (fun r9 => ?_)
  ·refine SR ?_
   refine gK 2 [(4, vI (e))] [] ?_
   refine NN (af.ret (ai.aq ?_))
   exact RT (vI (e)) [0, 1, 2, 3, 4, 5, 6, 7] (⟨L, by rw [show (gj S c) = (e, S, c) by unfold gj; rw [hab]] <;> exact ⟨rfl, rfl⟩⟩)
  exact absurd r9 hne
 have hkd : (obj S.O d).kind = 2 := hI.kind hd
 refine aR.call (f := 134) (args := #[vP f, vI (c.handle), .string c.name, vI 192]) (d := (some 17)) (pre := (nC f m t S L)) (R := (mG m L S cb c R)) (pk := [0, 2, 3, 1, 4, 5, 6, 7]) (gJ := [0, 3, 1, 2, 4, 5, 6, 7]) (v0 := .tuple #[vP (L.b d), vI 0]) (fun _ => by kernel_rfl) ((by have h := dg S L f m t hI c.handle hC.hw c.name hC.nm 192 (β := β); rw [hab] at h; exact h)) rfl (by kernel_rfl) rfl (by kernel_rfl) (fun _ _ h => h) ?_
 refine gQ 5 (CZ L d) [] ?_
 refine NQ (NX (af.seq (SR ?_)))
 refine gK 2 [(21, .bool false)] [] ?_
 refine NN ?_
 refine CF ?_
 refine af.skip (NX (SR ?_))
 refine gK 6 [(23, vP f), (24, vP (L.b d)), (28, .string c.name)] [(5, a_ 6 cb)] ?_
 refine gL [0, 1, 2, 3, 4, 5] (AY S L f m t hI d hd c.name hC.nm) ?_
 rintro _ _ ⟨L2, rfl, rfl⟩
 refine gK 1 [(4, vI ((rmdirM S d c.name).1))] [] ?_
 refine NN (af.ret ?_)
 exact RT (vI ((rmdirM S d c.name).1)) [0, 1, 2, 3, 4, 5, 6, 7] (⟨L2, by rw [show (gj S c) = ((rmdirM S d c.name).1, (rmdirM S d c.name).2, c) by unfold gj; rw [hab]] <;> exact ⟨rfl, rfl⟩⟩)
theorem C2 {β : Bs} (S : aG) (L : HL) (f m t : Nat) (hI : Inv S) (cb : Nat) (c : aS) (hC : fJ β c) :
    Spec Tryz.prog β 92 #[vP f, vP cb] ((pA f m t L S) ++ [pC cb c]) (fun v l => ∃ L2, v = vI (eO S c).1 ∧ l = ((pA f m t L2 ((eO S c).2.1)) ++ [.blk cb (fZ ((eO S c).2.2)) 43])) := by
 have hX := hI.hX
 refine Spec.enter Tryz.func92 rfl Tryz.ntmps92 (Nat.le_of_ble_eq_true rfl) (fun R => ?_)
 refine SR ?_
 refine gK 1 [] [] ?_
 refine NN (af.seq ?_)
 refine af.bC (by kernel_rfl) (by kernel_rfl) ?_
 refine gQ 9 [(9, vP f), (13, vI (c.handle)), (17, .string c.name)] [(4, a_ 6 cb), (8, a_ 6 cb)] ?_
 rcases jA hI.toInv0 c.handle c.name 192 with ⟨e, hab, hne⟩ | ⟨d, hab, hd, gy, hgn, cK⟩
 ·refine aR.call (f := 134) (args := #[vP f, vI (c.handle), .string c.name, vI 192]) (d := (some 18)) (pre := (nC f m t S L)) (R := (mG m L S cb c R)) (pk := [0, 2, 3, 1, 4, 5, 6, 7]) (gJ := [0, 3, 1, 2, 4, 5, 6, 7]) (v0 := .tuple #[.pointer none, vI (e)]) (fun _ => by kernel_rfl) ((by have h := dg S L f m t hI c.handle hC.hw c.name hC.nm 192 (β := β); rw [hab] at h; exact h)) rfl (by kernel_rfl) rfl (by kernel_rfl) (fun _ _ h => h) ?_
  refine gQ 5 (Hj e) [] ?_
  refine NQ (NX (af.seq (SR ?_)))
  refine gK 2 [(22, .bool (!(decide ((e : Int) = (0 : Int)))))] [] ?_
  refine NN ?_
  refine af.ct (p := (e : Int) = (0 : Int)) (fun _ => by kernel_rfl) (fun KA => ?_) (fun KA => ?_)
  ·refine SR ?_
   refine gK 2 [(4, vI (e))] [] ?_
   refine NN (af.ret (ai.aq ?_))
   exact RT (vI (e)) [0, 1, 2, 3, 4, 5, 6, 7] (⟨L, by rw [show (eO S c) = (e, S, c) by unfold eO; rw [hab]] <;> exact ⟨rfl, rfl⟩⟩)
  exact absurd KA hne
 have hkd : (obj S.O d).kind = 2 := hI.kind hd
 refine aR.call (f := 134) (args := #[vP f, vI (c.handle), .string c.name, vI 192]) (d := (some 18)) (pre := (nC f m t S L)) (R := (mG m L S cb c R)) (pk := [0, 2, 3, 1, 4, 5, 6, 7]) (gJ := [0, 3, 1, 2, 4, 5, 6, 7]) (v0 := .tuple #[vP (L.b d), vI 0]) (fun _ => by kernel_rfl) ((by have h := dg S L f m t hI c.handle hC.hw c.name hC.nm 192 (β := β); rw [hab] at h; exact h)) rfl (by kernel_rfl) rfl (by kernel_rfl) (fun _ _ h => h) ?_
 refine gQ 5 (CZ L d) [] ?_
 refine NQ (NX (af.seq (SR ?_)))
 refine gK 2 [(22, .bool false)] [] ?_
 refine NN ?_
 refine CF ?_
 refine af.skip (NX (af.seq ?_))
 refine af.bC (by kernel_rfl) (by kernel_rfl) ?_
 refine gQ 9 [(25, vP f), (29, vI (c.other)), (33, .string c.text)] [(4, a_ 6 cb), (8, a_ 6 cb)] ?_
 rcases jA hI.toInv0 c.other c.text 192 with ⟨e2, iR, C3⟩ | ⟨to, iR, hd2, MK, Ju, PL⟩
 ·refine aR.call (f := 134) (args := #[vP f, vI (c.other), .string c.text, vI 192]) (d := (some 34)) (pre := (nC f m t S L)) (R := (mG m L S cb c R)) (pk := [0, 2, 3, 1, 4, 5, 6, 7]) (gJ := [0, 3, 1, 2, 4, 5, 6, 7]) (v0 := .tuple #[.pointer none, vI (e2)]) (fun _ => by kernel_rfl) ((by have h := dg S L f m t hI c.other hC.ow c.text hC.tx 192 (β := β); rw [iR] at h; exact h)) rfl (by kernel_rfl) rfl (by kernel_rfl) (fun _ _ h => h) ?_
  refine gQ 5 [(6, vI (e2)), (7, .pointer none)] [] ?_
  refine NQ (NX (af.seq (SR ?_)))
  refine gK 2 [(38, .bool (!(decide ((e2 : Int) = (0 : Int)))))] [] ?_
  refine NN ?_
  refine af.ct (p := (e2 : Int) = (0 : Int)) (fun _ => by kernel_rfl) (fun xV => ?_) (fun xV => ?_)
  ·refine SR ?_
   refine gK 2 [(4, vI (e2))] [] ?_
   refine NN (af.ret (ai.aq ?_))
   exact RT (vI (e2)) [0, 1, 2, 3, 4, 5, 6, 7] (⟨L, by rw [show (eO S c) = (e2, S, c) by unfold eO; rw [hab]; simp only; rw [iR]] <;> exact ⟨rfl, rfl⟩⟩)
  exact absurd xV C3
 have dh : (obj S.O to).kind = 2 := hI.kind hd2
 refine aR.call (f := 134) (args := #[vP f, vI (c.other), .string c.text, vI 192]) (d := (some 34)) (pre := (nC f m t S L)) (R := (mG m L S cb c R)) (pk := [0, 2, 3, 1, 4, 5, 6, 7]) (gJ := [0, 3, 1, 2, 4, 5, 6, 7]) (v0 := .tuple #[vP (L.b to), vI 0]) (fun _ => by kernel_rfl) ((by have h := dg S L f m t hI c.other hC.ow c.text hC.tx 192 (β := β); rw [iR] at h; exact h)) rfl (by kernel_rfl) rfl (by kernel_rfl) (fun _ _ h => h) ?_
 refine gQ 5 [(6, vI 0), (7, vP (L.b to))] [] ?_
 refine NQ (NX (af.seq (SR ?_)))
 refine gK 2 [(38, .bool false)] [] ?_
 refine NN ?_
 refine CF ?_
 refine af.skip (NX (af.seq ?_))
 refine af.ck (S := [pC cb c]) [0, 1, 2, 3, 4, 5, 6, 7, 8, 9, 10, 11, 12] 11 [6] (by kernel_rfl) (by kernel_rfl) rfl (by kernel_rfl) ?_
 refine aH.reads (r := 0) (l := [11, 12]) (fr' := [(40, vP f), (41, vP (L.b d)), (45, .string c.name), (46, vP (L.b to)), (50, .string c.text)]) (aU := [cb = cb, cb = cb]) [0, 1, 2, 3, 4, 5, 6, 7, 8, 9, 10] [o_, o_, o_, o_, o_, ⟨[.at 0], none, none, none, none⟩, o_, o_, o_, o_, ⟨[.at 0], none, none, none, none⟩] [40, 41, 45, 46, 50] (fun _ => by kernel_rfl) ⟨rfl, rfl, trivial⟩ rfl rfl ?_
 refine mL [6] [0, 1, 2, 3, 4, 5] (yP S L f m t hI d hd c.name hC.nm to hd2 c.text hC.tx) ?_ (by rintro _ _ ⟨L2, rfl, rfl⟩; rfl)
 rintro _ _ ⟨L2, rfl, rfl⟩
 refine aH.last rfl rfl ?_
 refine gK 1 [(4, vI ((renameM S d c.name to c.text).1))] [] ?_
 refine NL (ai.np (NX (af.ret ?_)))
 exact RT (vI ((renameM S d c.name to c.text).1)) [0, 1, 2, 3, 4, 5, 6, 7] (⟨L2, by rw [show (eO S c) = ((renameM S d c.name to c.text).1, (renameM S d c.name to c.text).2, c) by unfold eO; rw [hab]; simp only; rw [iR]] <;> exact ⟨rfl, rfl⟩⟩)
end
section
open Go.RowKit
section order
variable {P : Program} {ops : Array Oper} {Q Q' : Post} {n : Nat} {S : World → Prop}
def kF (P : Program) (ops : Array Oper) (Q : Post) (S : World → Prop) : List (Bool × Nat) → Act → World → Prop
  | [], a, w => Q .normal a w
  | (false, i) :: l, a, w => wpOp P ops Q i (fun a' w' => (l = [] ∨ S w') ∧ kF P ops Q S l a' w') a w
  | (true, i) :: l, a, w => ∃ o v, ops[i]? = some o ∧ YieldsIf P ops S o v a ∧ kF P ops Q S l (a.put o.dst v) w
def vD (ops : Array Oper) (n : Nat) : List (Bool × Nat) → Array Bool → Bool
  | [], listed => (Region.ready .any ops listed).isEmpty
  | (false, i) :: l, listed => (Region.ready .any ops listed == [i]) && (!l.isEmpty || i == n) && vD ops n l (listed.setIfInBounds i true)
  | (true, i) :: l, listed => decide (i < n) && Region.free .any ops listed i && (Region.ready .any ops listed).contains i && vD ops n l (listed.setIfInBounds i true)
theorem xg (hsel : Region.noSelect ops = true) (mQ : Region.sinkB .any ops n = true) : ∀ (l : List (Bool × Nat)) (listed : Array Bool) (a : Act) (w : World), vD ops n l listed = true → Closed ops listed → (l = [] ∨ S w) → kF P ops (NP Q) S l a w → ju P ops (NP Q) n S l.length listed a w
  | [], listed, a, w, hb, _, _, h => ⟨List.isEmpty_iff.1 hb, h⟩
  | (false, i) :: l, listed, a, w, hb, hc, _, h => by
    unfold vD at hb
    simp only [Bool.and_eq_true, beq_iff_eq] at hb
    obtain ⟨⟨h1, h2⟩, h3⟩ := hb
    refine ⟨fun h0 => (by rw [h1] at h0; cases h0), fun j hj => ?_⟩
    have hr := hj
    rw [h1] at hj
    have hj : j = i := by simpa using hj
    subst hj
    refine wpOp_mono (fun a' w' h4 => ⟨?_, xg hsel mQ l _ a' w' h3 (hc.set hr) h4.1 h4.2⟩) h
    rcases h4.1 with h5 | h5
    ·subst h5; exact .inl (by simpa using h2)
    exact .inr h5
  | (true, i) :: l, listed, a, w, hb, hc, hS, h => by
    unfold vD at hb
    simp only [Bool.and_eq_true, decide_eq_true_iff] at hb
    obtain ⟨⟨⟨h1, h2⟩, h3⟩, h4⟩ := hb
    obtain ⟨o, v, ho, hy, hk⟩ := h
    have hS : S w := hS.resolve_left (by simp)
    have hr : i ∈ Region.ready .any ops listed := by simpa using h3
    exact pY ho hsel mQ h1 l.length listed a w hc (Region.free_spec ho h2) hr hy hS (xg hsel mQ l _ _ w h4 (hc.set hr) (.inr hS) hk)
def Er (ops : Array Oper) (l : List (Bool × Nat)) : Bool :=
  Region.noSelect ops && Region.sinkB .any ops (ops.size - 1) && (l.length == ops.size) && vD ops (ops.size - 1) l (Array.replicate ops.size false)
def pq (ops : Array Oper) (i : Nat) : Array Oper := ⟨ops.toList.take (i + 1)⟩
def gB (ops : Array Oper) (i : Nat) : Bool := match ops[i]? with
  | some o => match o.guard with
    | none => true
    | some (j, _) => decide (j ≤ i)
  | none => false
theorem Hl {i j : Nat} (h : j ≤ i) : (pq ops i)[j]? = ops[j]? := by
  unfold pq
  obtain ⟨l⟩ := ops
  simp only [List.getElem?_toArray, List.getElem?_take]
  rw [if_pos (by omega)]
theorem uL {i : Nat} {a : Act} {w : World} {K : Act → World → Prop} (hg : gB ops i = true) (h : wpList P (pq ops i) (NP fun _ a w => K a w) ((pq ops i).toList.drop i) a w) : wpOp P ops (NP Q) i K a w := by
  unfold gB at hg
  split at hg
  ·rename_i o ho
   have hd : (pq ops i).toList.drop i = [o] := by
     have hl : ops.toList[i]? = some o := by simpa using ho
     have hi : i < ops.toList.length := bw hl
     show (ops.toList.take (i + 1)).drop i = [o]
     rw [List.drop_take]
     rw [show i + 1 - i = 1 by omega, List.drop_eq_getElem_cons hi]
     rw [List.getElem?_eq_getElem hi] at hl
     cases hl
     rfl
   have hw : Region.wanted o (yielded (pq ops i) a.tmps) = Region.wanted o (yielded ops a.tmps) := by
     unfold Region.wanted
     split at hg
     ·rename_i hn; rw [hn]
     rename_i j b hn
     rw [hn]
     have hj : j ≤ i := by simpa using hg
     have : yielded (pq ops i) a.tmps j = yielded ops a.tmps j := by
       unfold yielded
       rw [Hl hj]
     simp only [this]
   rw [hd] at h
   unfold wpOp
   simp only [ho]
   unfold wpList at h
   rw [hw] at h
   split at h
   ·rename_i hw
    rw [if_pos hw]
    rcases h with h | ⟨_, h⟩
    ·exact .inl (Bz (Oper.wp_mono (fun a w h => h) h))
    exact (mO h).elim
   rename_i hw
   rw [if_neg hw]
   exact h
  cases hg
end order
theorem pu {P : Program} {ops : Array Oper} {Q Q' : Post} (hq : ∀ a w, Q .normal a w → Q' .normal a w) : ∀ (l : List Oper) {a : Act} {w : World}, wpList P ops (NP Q) l a w → wpList P ops (NP Q') l a w
  | [], _, _, h => hq _ _ h
  | o :: r, a, w, h => by
    unfold wpList at *
    split
    ·rename_i hw
     rw [if_pos hw] at h
     rcases h with h | ⟨_, h⟩
     ·exact .inl (Bz (Oper.wp_mono (fun a w h => pu hq r h) h))
     exact (mO h).elim
    rename_i hw
    rw [if_neg hw] at h
    exact pu hq r h
section mix
variable {P : Program} {β : Bs} {N : Nat} {ops : Array Oper} {S : List HP} {l l' : List (Bool × Nat)} {fr fr' : Fr} {hps : List HP} {Q : Post} {aU : List Prop} {i : Nat} {pk : List Nat}
def fD (P : Program) (β : Bs) (N : Nat) (ops : Array Oper) (S : List HP) (l : List (Bool × Nat)) (fr : Fr) (hps : List HP) (Q : Post) : Prop :=
  ∀ junk w, Sat β hps w → kF P ops (NP Q) (Sat β S) l (cD N fr junk) w
theorem af.mY {id : Nat} (l : List (Bool × Nat)) (pk : List Nat) (hm : P.follows .mixedOrders = true) (hB : Er ops l = true) (hn : nodupB pk = true) (hp : bM hps pk = some S) (h : fD P β N ops S l fr hps Q) : af P β N (.region id ops true) fr hps Q := by
  intro junk w hS
  unfold Er at hB
  simp only [Bool.and_eq_true, beq_iff_eq] at hB
  obtain ⟨⟨⟨h1, h2⟩, h3⟩, h4⟩ := hB
  have cR := hS.drewN 1
  have h5 := xg (Q := Q) h1 h2 l _ _ _ h4 (fun j oj _ hl => by simp [Array.getD_eq_getD_getElem?, Array.getElem?_replicate] at hl; split at hl <;> simp at hl) (.inr (cR.pick hn hp)) (h junk (w.drewN 1) cR)
  rw [h3] at h5
  refine Code.wp_mono (fun e a w q => ?_) (wp_region_any hm (mP _ _ _ _ h5))
  cases e with
  | normal => exact q
  | exit id => exact q.elim
  | goto l => exact q.elim
  | ret => exact q.elim
  | panic ch => exact q.elim
  | outgrown => exact q.elim
def qp (P : Program) (β : Bs) (N : Nat) (junk : Nat → Value) (ops : Array Oper) : List OH → List Nat → Fr → SS → Option (Fr × SS)
  | [], [], fr, S => some (fr, S)
  | h :: hs, i :: is, fr, S =>
    match ops[i]? with
    | some o =>
      match Region.wanted o (yF ops N fr junk) with
      | true =>
        match pV P β 0 true (cC N fr junk) o h S with
        | some (v, S') =>
          match tV v with
          | true => qp P β N junk ops hs is (cJ fr o.dst v) S'
          | false => none
        | none => none
      | false => qp P β N junk ops hs is (cJ fr o.dst undef) S
    | none => none
  | _, _, _, _ => none
def C4 (P : Program) (β : Bs) (N : Nat) (junk : Nat → Value) (ops : Array Oper) (hs : List OH) (is : List Nat) (fr : Fr) (S : List HP) (idx : List Nat) : Option (Fr × List Prop) :=
  match qp P β N junk ops hs is fr ⟨[], S, [], true⟩ with
  | some (fr', S') => some (ia fr' junk idx, S'.aU)
  | none => none
theorem sW {junk : Nat → Value} : ∀ {hs : List OH} {is : List Nat} {fr fr' : Fr} {S S' : SS}, qp P β N junk ops hs is fr S = some (fr', S') → ∀ p, p ∈ S.aU → p ∈ S'.aU
  | [], [], fr, fr', S, S', h, p, hp => by cases h; exact hp
  | h :: hs, i :: is, fr, fr', S, S', hr, p, hp => by
    unfold qp at hr
    repeat' split at hr
    all_goals first | (cases hr; done) | skip
    ·rename_i h0 _ _
     exact sW hr p (wu h0 p hp)
    exact sW hr p hp
  | [], _ :: _, _, _, _, _, h, _, _ => by cases h
  | _ :: _, [], _, _, _, _, h, _, _ => by cases h
theorem qq {junk : Nat → Value} {w : World} : ∀ {hs : List OH} {is : List Nat} {fr fr' : Fr} {T T' : SS}, qp P β N junk ops hs is fr T = some (fr', T') → (∀ p, p ∈ T'.aU → p) → T.used = true → T.hps = S →
    kF P ops (NP Q) (Sat β S) l (cD N fr' junk) w → kF P ops (NP Q) (Sat β S) (is.map (fun i => (true, i)) ++ l) (cD N fr junk) w
  | [], [], fr, fr', T, T', h, ho, hu, hT, hK => by cases h; exact hK
  | h :: hs, i :: is, fr, fr', T, T', hr, ho, hu, hT, hK => by
    unfold qp at hr
    repeat' split at hr
    all_goals first | (cases hr; done) | skip
    ·rename_i o hget _ hwant _ v T1 h0 _ hv
     obtain ⟨e1, e2⟩ := rK h0
     rw [List.map_cons, List.cons_append]
     unfold kF
     refine ⟨o, v, hget, .inl ⟨by rw [dR]; exact hwant, fun w' cR => ?_⟩, ?_⟩
     ·rw [dz]
      obtain ⟨w2, h1, _, _, h4⟩ := kJ h0 (fun p hp => ho p (sW hr p hp)) (by rw [hT]; exact cR) (fun e => by rw [hu] at e; cases e)
      obtain ⟨ew, _⟩ := h4 rfl
      rw [ew] at h1
      rcases h1 with h1 | ⟨h1, _⟩
      ·exact h1
      exact absurd h1 (qG hv)
     rw [di]
     exact qq hr ho (e2.trans hu) (e1.trans hT) hK
    rename_i o hget _ hwant
    rw [List.map_cons, List.cons_append]
    unfold kF
    refine ⟨o, undef, hget, .inr ⟨by rw [dR]; exact hwant, rfl⟩, ?_⟩
    rw [di]
    exact qq hr ho hu hT hK
  | [], _ :: _, _, _, _, _, h, _, _, _, _ => by cases h
  | _ :: _, [], _, _, _, _, h, _, _, _, _ => by cases h
theorem fD.reads (is : List Nat) (hs : List OH) (idx : List Nat) (h : ∀ junk, C4 P β N junk ops hs is fr S idx = some (fr', aU)) (ho : je aU) (hl : l' = is.map (fun i => (true, i)) ++ l) (K : fD P β N ops S l fr' hps Q) : fD P β N ops S l' fr hps Q := by
  intro junk w hS
  subst hl
  have h0 := h junk
  unfold C4 at h0
  split at h0
  ·rename_i kf S1 h1
   cases h0
   have hK := K (lk kf junk) w hS
   rw [← jd] at hK
   exact qq h1 (fun p hp => ho.mem hp) rfl rfl hK
  cases h0
theorem fD.cut {ι : Type} {fr' : ι → Fr} {hp' : ι → List HP} (pk : List Nat) (hg : gB ops i = true) (h : aj P β N (pq ops i) i fr hps (NP (jo β N fr' hp'))) (hn : nodupB pk = true) (hp : ∀ j, bM (hp' j) pk = some S)
    (K : ∀ j, fD P β N ops S l (fr' j) (hp' j) Q) : fD P β N ops S ((false, i) :: l) fr hps Q := by
  intro junk w hS
  unfold kF
  refine uL hg (pu (Q' := _) (fun a w ⟨j, fL, ha, cR⟩ => ?_) _ (h junk w hS))
  subst ha
  exact ⟨.inr (cR.pick hn (hp j)), K j fL w cR⟩
theorem fD.last (hg : gB ops i = true) (h : aj P β N (pq ops i) i fr hps (NP Q)) : fD P β N ops S [(false, i)] fr hps Q := by
  intro junk w hS
  unfold kF
  exact uL hg (pu (Q' := _) (fun a w hq => ⟨.inl rfl, by unfold kF; exact hq⟩) _ (h junk w hS))
end mix
end
section
open Go.RowKit Go.Maps HeapM TabM
attribute [local irreducible] aj aR af ai
abbrev Es (cb : Nat) (c : aS) := (pC cb { c with other := 0, mode := 0, uid := 0, gid := 0, sec := 0, nano := 0 } : HP)
abbrev Et (cb : Nat) (c : aS) (S : aG) (tk : Nat) := (pC cb { c with other := 0, mode := 0, uid := 0, gid := 0, sec := 0, nano := 0, answer := (obj S.O tk).id } : HP)
abbrev OU (cb : Nat) (c : aS) (S : aG) (tk : Nat) := (pC cb { c with other := 1, mode := (obj S.O tk).mode, uid := (obj S.O tk).uid, gid := 0, sec := 0, nano := 0, answer := (obj S.O tk).id } : HP)
abbrev OV (cb : Nat) (c : aS) (S : aG) (tk : Nat) := (pC cb { c with other := 1, mode := (obj S.O tk).mode, uid := (obj S.O tk).uid, gid := (obj S.O tk).gid, sec := 0, nano := 0, answer := (obj S.O tk).id } : HP)
abbrev OW (cb : Nat) (c : aS) (S : aG) (tk : Nat) := (pC cb { c with other := 2, mode := (obj S.O tk).mode, uid := (obj S.O tk).uid, gid := 0, sec := 0, nano := 0, answer := (obj S.O tk).id } : HP)
abbrev OX (cb : Nat) (c : aS) (S : aG) (tk : Nat) := (pC cb { c with other := 2, mode := (obj S.O tk).mode, uid := (obj S.O tk).uid, gid := (obj S.O tk).gid, sec := 0, nano := 0, answer := (obj S.O tk).id } : HP)
abbrev OY (cb : Nat) (c : aS) (S : aG) (tk : Nat) := (pC cb { c with other := 3, mode := (obj S.O tk).mode, uid := (obj S.O tk).uid, gid := 0, sec := 0, nano := 0, answer := (obj S.O tk).id } : HP)
abbrev OZ (cb : Nat) (c : aS) (S : aG) (tk : Nat) := (pC cb { c with other := 3, mode := (obj S.O tk).mode, uid := (obj S.O tk).uid, gid := (obj S.O tk).gid, sec := 0, nano := 0, answer := (obj S.O tk).id } : HP)
abbrev lD (S : aG) (tk : Nat) := ([(40, vI ((obj S.O tk).mode)), (44, vI ((obj S.O tk).uid)), (48, vI ((obj S.O tk).gid)), (52, .agg #[vI ((obj S.O tk).sec), vI ((obj S.O tk).nano)])] : Fr)
abbrev oG (S : aG) (tk : Nat) := ([(48, vI ((obj S.O tk).gid)), (52, .agg #[vI ((obj S.O tk).sec), vI ((obj S.O tk).nano)])] : Fr)
abbrev sX (cb : Nat) (S : aG) (tk : Nat) := ([(26, vP cb), (27, vP cb), (28, vP cb), (29, vP cb), (30, vP cb), (34, vI ((obj S.O tk).id))] : Fr)
abbrev oH (f : Nat) (m : Nat) (t) (S : aG) (L : HL) (cb : Nat) (c) (R : bT) := ([pF f m t S.X, pI m L S.idx, pO S.O L, pD S.O L, pE S.O L, pC cb c, .abs R] : List HP)
abbrev Fw := ([(2, vI 0), (6, vI 0), (7, vI 0), (8, vI 0), (9, vI 0), (10, vI 0)] : Fr)
abbrev oI (cb : Nat) := ([(28, vP cb), (29, vP cb), (30, vP cb)] : Fr)
abbrev uM (L : HL) (to : Nat) (c : aS) := ([(61, .map (some (L.m to))), (65, .string c.text)] : Fr)
abbrev zS (cb : Nat) (S : aG) (tk : Nat) := ([(29, vP cb), (30, vP cb), (44, vI ((obj S.O tk).uid))] : Fr)
abbrev Jv (S : aG) (tk : Nat) (cb : Nat) := ([(52, .agg #[vI ((obj S.O tk).sec), vI ((obj S.O tk).nano)]), (64, .pointer (some ⟨cb, 9, none⟩))] : Fr)
abbrev Fx (L : HL) (tk : Nat) := ([(5, .iface 89 (vP (L.b tk))), (6, vI 0)] : Fr)
abbrev Fy (L : HL) (tk : Nat) := ([(5, .iface 96 (vP (L.b tk))), (6, vI 0)] : Fr)
abbrev Jw (t) (c : aS) := ([(13, vP t), (17, vI (c.handle))] : Fr)
abbrev Jx (t) (c : aS) := ([(11, vP t), (15, vI (c.handle))] : Fr)
abbrev Jy (S : aG) (tk : Nat) := ([(9, vI ((obj S.O tk).sec)), (10, vI ((obj S.O tk).nano))] : Fr)
theorem Fz {β : Bs} (S : aG) (L : HL) (f m t : Nat) (hI : Inv S) (cb : Nat) (c : aS) (hC : fJ β c) :
    Spec Tryz.prog β 84 #[vP f, vP cb] ((pA f m t L S) ++ [pC cb c]) (fun v l => ∃ L2, v = vI (bW S c).1 ∧ l = ((pA f m t L2 ((bW S c).2.1)) ++ [.blk cb (fZ ((bW S c).2.2)) 43])) := by
 have hX := hI.hX
 refine Spec.enter Tryz.func84 rfl Tryz.ntmps84 (Nat.le_of_ble_eq_true rfl) (fun R => ?_)
 refine SR ?_
 refine gK 1 [] [] ?_
 refine NN (af.seq ?_)
 refine af.bC (by kernel_rfl) (by kernel_rfl) ?_
 refine gQ 9 [(10, vP f), (14, vI (c.handle)), (18, .string c.name)] [(4, a_ 6 cb), (8, a_ 6 cb)] ?_
 rcases jA hI.toInv0 c.handle c.name 64 with ⟨e, hab, hne⟩ | ⟨d, hab, hd, gy, hgn, cK⟩
 ·refine aR.call (f := 134) (args := #[vP f, vI (c.handle), .string c.name, vI 64]) (d := (some 19)) (pre := (nC f m t S L)) (R := (mG m L S cb c R)) (pk := [0, 2, 3, 1, 4, 5, 6, 7]) (gJ := [0, 3, 1, 2, 4, 5, 6, 7]) (v0 := .tuple #[.pointer none, vI (e)]) (fun _ => by kernel_rfl) ((by have h := dg S L f m t hI c.handle hC.hw c.name hC.nm 64 (β := β); rw [hab] at h; exact h)) rfl (by kernel_rfl) rfl (by kernel_rfl) (fun _ _ h => h) ?_
  refine gQ 5 [(5, .pointer none), (6, vI (e))] [] ?_
  refine NQ (NX (af.seq (SR ?_)))
  refine gK 2 [(23, .bool (!(decide ((e : Int) = (0 : Int)))))] [] ?_
  refine NN ?_
  refine af.ct (p := (e : Int) = (0 : Int)) (fun _ => by kernel_rfl) (fun h23 => ?_) (fun h23 => ?_)
  ·refine SR ?_
   refine gK 2 [(4, vI (e))] [] ?_
   refine NN (af.ret (ai.aq ?_))
   exact RT (vI (e)) [0, 1, 2, 3, 4, 5, 6, 7] (⟨L, by rw [show (bW S c) = (e, S, c) by unfold bW; rw [hab]] <;> exact ⟨rfl, rfl⟩⟩)
  exact absurd h23 hne
 have hkd : (obj S.O d).kind = 2 := hI.kind hd
 refine aR.call (f := 134) (args := #[vP f, vI (c.handle), .string c.name, vI 64]) (d := (some 19)) (pre := (nC f m t S L)) (R := (mG m L S cb c R)) (pk := [0, 2, 3, 1, 4, 5, 6, 7]) (gJ := [0, 3, 1, 2, 4, 5, 6, 7]) (v0 := .tuple #[vP (L.b d), vI 0]) (fun _ => by kernel_rfl) ((by have h := dg S L f m t hI c.handle hC.hw c.name hC.nm 64 (β := β); rw [hab] at h; exact h)) rfl (by kernel_rfl) rfl (by kernel_rfl) (fun _ _ h => h) ?_
 refine gQ 5 (CZ L d) [] ?_
 refine NQ (NX (af.seq (SR ?_)))
 refine gK 2 [(23, .bool false)] [] ?_
 refine NN ?_
 refine CF ?_
 refine af.skip (NX (af.seq ?_))
 refine af.bC (by kernel_rfl) (by kernel_rfl) ?_
 refine gQ 9 [(26, vP f), (30, vI (c.other)), (34, .string c.text)] [(4, a_ 6 cb), (8, a_ 6 cb)] ?_
 rcases jA hI.toInv0 c.other c.text 192 with ⟨e2, iR, C3⟩ | ⟨to, iR, hd2, MK, Ju, PL⟩
 ·refine aR.call (f := 134) (args := #[vP f, vI (c.other), .string c.text, vI 192]) (d := (some 35)) (pre := (nC f m t S L)) (R := (mG m L S cb c R)) (pk := [0, 2, 3, 1, 4, 5, 6, 7]) (gJ := [0, 3, 1, 2, 4, 5, 6, 7]) (v0 := .tuple #[.pointer none, vI (e2)]) (fun _ => by kernel_rfl) ((by have h := dg S L f m t hI c.other hC.ow c.text hC.tx 192 (β := β); rw [iR] at h; exact h)) rfl (by kernel_rfl) rfl (by kernel_rfl) (fun _ _ h => h) ?_
  refine gQ 5 [(6, vI (e2)), (7, .pointer none)] [] ?_
  refine NQ (NX (af.seq (SR ?_)))
  refine gK 2 [(39, .bool (!(decide ((e2 : Int) = (0 : Int)))))] [] ?_
  refine NN ?_
  refine af.ct (p := (e2 : Int) = (0 : Int)) (fun _ => by kernel_rfl) (fun nA => ?_) (fun nA => ?_)
  ·refine SR ?_
   refine gK 2 [(4, vI (e2))] [] ?_
   refine NN (af.ret (ai.aq ?_))
   exact RT (vI (e2)) [0, 1, 2, 3, 4, 5, 6, 7] (⟨L, by rw [show (bW S c) = (e2, S, c) by unfold bW; rw [hab]; simp only; rw [iR]] <;> exact ⟨rfl, rfl⟩⟩)
  exact absurd nA C3
 have dh : (obj S.O to).kind = 2 := hI.kind hd2
 refine aR.call (f := 134) (args := #[vP f, vI (c.other), .string c.text, vI 192]) (d := (some 35)) (pre := (nC f m t S L)) (R := (mG m L S cb c R)) (pk := [0, 2, 3, 1, 4, 5, 6, 7]) (gJ := [0, 3, 1, 2, 4, 5, 6, 7]) (v0 := .tuple #[vP (L.b to), vI 0]) (fun _ => by kernel_rfl) ((by have h := dg S L f m t hI c.other hC.ow c.text hC.tx 192 (β := β); rw [iR] at h; exact h)) rfl (by kernel_rfl) rfl (by kernel_rfl) (fun _ _ h => h) ?_
 refine gQ 5 [(6, vI 0), (7, vP (L.b to))] [] ?_
 refine NQ (NX (af.seq (SR ?_)))
 refine gK 2 [(39, .bool false)] [] ?_
 refine NN ?_
 refine CF ?_
 refine af.skip (NX (af.seq ?_))
 have hel : (obj S.O d).ah.length ≤ 8192 := hI.eV hd
 have Ot := hC.nm
 rcases hI.kg hd c.name with hlk | ⟨tk, hlk, hlv⟩ | ⟨tk, hlk, hlv⟩ | ⟨tk, hlk, hlv⟩
 ·refine af.bC (by kernel_rfl) (by kernel_rfl) ?_
  refine gQ 8 [(44, .map (some (L.m d))), (48, .string c.name)] [(3, v_ 3 (bA L hkd)), (7, a_ 6 cb)] ?_
  refine oP 5 hkd hlk ?_
  refine gQ 1 [(8, .nilIface)] [] ?_
  refine NQ (NX (af.seq (af.block (SR ?_))))
  refine gK 3 [(50, .bool true)] [] ?_
  refine NN ?_
  refine CT ?_
  refine SR ?_
  refine gK 1 [(4, vI 170)] [] ?_
  refine NN (af.ret (ai.aF (ai.aq ?_)))
  exact RT (vI 170) [0, 1, 2, 3, 4, 5, 6, 7] (⟨L, by rw [show (bW S c) = (170, S, c) by unfold bW; rw [hab]; simp only; rw [iR]; simp only; rw [show (linkM S d c.name to c.text) = (170, S) by unfold linkM; rw [hlk]]] <;> exact ⟨rfl, rfl⟩⟩)
 ·have hkt : (obj S.O tk).kind = 1 := hI.kind hlv
  refine af.bC (by kernel_rfl) (by kernel_rfl) ?_
  refine gQ 8 [(44, .map (some (L.m d))), (48, .string c.name)] [(3, v_ 3 (bA L hkd)), (7, a_ 6 cb)] ?_
  refine oP 5 hkd hlk ?_
  refine gQ 1 [(8, .iface 89 (vP (L.b tk)))] [] ?_
  refine NQ (NX (af.seq (af.block (SR ?_))))
  refine gK 3 [(50, .bool false)] [] ?_
  refine NN ?_
  refine CF ?_
  refine SR ?_
  refine gK 1 [(54, .iface 89 (vP (L.b tk)))] [] ?_
  refine gL [] (jT (vP (L.b tk))) ?_
  rintro _ _ ⟨rfl, rfl⟩
  refine gK 2 [(53, .bool false)] [] ?_
  refine NN ?_
  refine CF ?_
  refine af.seq ?_
  have xh : (obj S.O to).ah.length ≤ 8192 := hI.eV hd2
  have Ho := hC.tx
  rcases hI.kg hd2 c.text with bg | ⟨ok, bg, dw⟩ | ⟨ok, bg, dw⟩ | ⟨ok, bg, dw⟩
  ·refine af.bC (by kernel_rfl) (by kernel_rfl) ?_
   refine gQ 8 (uM L to c) [(3, v_ 3 (bA L dh)), (7, a_ 6 cb)] ?_
   refine oP 5 dh bg ?_
   refine gQ 2 [(57, .bool false)] [] ?_
   refine NQ (NX ?_)
   refine CF ?_
   refine SR ?_
   refine gK 1 [(69, vP f)] [] ?_
   refine gL [0] (rE S.X f m t) ?_
   rintro _ _ ⟨rfl, rfl⟩
   refine gK 2 [(68, .bool (!(decide (S.X.ah < 8192))))] [] ?_
   refine NN ?_
   refine af.ct (p := S.X.ah < 8192) (fun _ => by kernel_rfl) (fun h68 => ?_) (fun h68 => ?_)
   ·refine SR ?_
    refine gK 1 [(4, vI 177)] [] ?_
    refine NN (af.ret (ai.aF (ai.aq ?_)))
    exact RT (vI 177) [0, 1, 2, 3, 4, 5, 6, 7] (⟨L, by rw [show (bW S c) = (177, S, c) by unfold bW; rw [hab]; simp only; rw [iR]; simp only; rw [show (linkM S d c.name to c.text) = (177, S) by unfold linkM; rw [hlk]; exact (if_neg (by simp)).trans ((if_pos bg).trans (if_neg h68))]] <;> exact ⟨rfl, rfl⟩⟩)
   refine af.skip (ai.aL (NX (SR ?_)))
   refine gK 7 [(72, vP f), (73, vP (L.b to)), (77, .string c.text), (78, .iface 89 (vP (L.b tk)))] [(5, a_ 6 cb)] ?_
   refine gL [0, 3, 5] (fV S.X f m t hX S.O L to dh c.text hC.tx bg (by omega) ⟨tk, 1⟩ hkt (by simp) (by have := hI.lb hlv; simp only at this ⊢; omega)) ?_
   rintro _ _ ⟨rfl, rfl⟩
   refine NS ?_
   refine aj.mem (aP := [.blk f [vI (S.X.cN), vI (S.X.cB), vI (S.X.cH), vI (S.X.cS), vI (S.X.cZ), .map (some m), vP t, vI (S.X.last), vI (S.X.ah + 1), vI (S.X.used)] 86, .abs (ak (aN (bq S.X S.O to c.text ⟨tk, 1⟩) L)), .abs (ak (bh (bq S.X S.O to c.text ⟨tk, 1⟩) L)), .abs (aE Tryz.prog 3 m (aO (aK L S.idx)) S.idx.length), .abs (br 156 t S.X.cH S.av (aK L S.us)), .abs (ak (aY (bq S.X S.O to c.text ⟨tk, 1⟩) L)), .blk cb [vI (c.op), vI (c.handle), vI (c.other), .string c.name, .string c.text, .slice c.dA (c.data.length) (c.dC), vI (c.mode), vI (c.uid), vI (c.gid), vI (c.sec), vI (c.nano), vI (c.code), vI (c.answer)] 43, .abs R]) (fun w hS => by rw [show aY (bq S.X S.O to c.text ⟨tk, 1⟩) L = aY S.O L from fI]; exact hS) ?_
   refine gK 1 [(4, vI 0)] [] ?_
   refine NN (af.ret ?_)
   exact RT (vI 0) [0, 3, 4, 1, 5, 2, 6, 7] (⟨L, by rw [show (bW S c) = (0, { S with X := { S.X with ah := S.X.ah + 1 }, O := bq S.X S.O to c.text ⟨tk, 1⟩ }, c) by unfold bW; rw [hab]; simp only; rw [iR]; simp only; rw [show (linkM S d c.name to c.text) = (0, { S with X := { S.X with ah := S.X.ah + 1 }, O := bq S.X S.O to c.text ⟨tk, 1⟩ }) by unfold linkM; rw [hlk]; exact (if_neg (by simp)).trans ((if_pos bg).trans (if_pos h68))]] <;> exact ⟨rfl, rfl⟩⟩)
  ·have jE : (obj S.O ok).kind = 1 := hI.kind dw
   refine af.bC (by kernel_rfl) (by kernel_rfl) ?_
   refine gQ 8 (uM L to c) [(3, v_ 3 (bA L dh)), (7, a_ 6 cb)] ?_
   refine oP 5 dh bg ?_
   refine gQ 2 [(57, .bool true)] [] ?_
   refine NQ (NX ?_)
   refine CT ?_
   refine SR ?_
   refine gK 1 [(4, vI 171)] [] ?_
   refine NN (af.ret (ai.aF (ai.aq ?_)))
   exact RT (vI 171) [0, 1, 2, 3, 4, 5, 6, 7] (⟨L, by rw [show (bW S c) = (171, S, c) by unfold bW; rw [hab]; simp only; rw [iR]; simp only; rw [show (linkM S d c.name to c.text) = (171, S) by unfold linkM; rw [hlk]; exact (if_neg (by simp)).trans (if_neg (by rw [bg]; simp))]] <;> exact ⟨rfl, rfl⟩⟩)
  ·have jE : (obj S.O ok).kind = 2 := hI.kind dw
   refine af.bC (by kernel_rfl) (by kernel_rfl) ?_
   refine gQ 8 (uM L to c) [(3, v_ 3 (bA L dh)), (7, a_ 6 cb)] ?_
   refine oP 5 dh bg ?_
   refine gQ 2 [(57, .bool true)] [] ?_
   refine NQ (NX ?_)
   refine CT ?_
   refine SR ?_
   refine gK 1 [(4, vI 171)] [] ?_
   refine NN (af.ret (ai.aF (ai.aq ?_)))
   exact RT (vI 171) [0, 1, 2, 3, 4, 5, 6, 7] (⟨L, by rw [show (bW S c) = (171, S, c) by unfold bW; rw [hab]; simp only; rw [iR]; simp only; rw [show (linkM S d c.name to c.text) = (171, S) by unfold linkM; rw [hlk]; exact (if_neg (by simp)).trans (if_neg (by rw [bg]; simp))]] <;> exact ⟨rfl, rfl⟩⟩)
  have jE : (obj S.O ok).kind = 3 := hI.kind dw
  refine af.bC (by kernel_rfl) (by kernel_rfl) ?_
  refine gQ 8 (uM L to c) [(3, v_ 3 (bA L dh)), (7, a_ 6 cb)] ?_
  refine oP 5 dh bg ?_
  refine gQ 2 [(57, .bool true)] [] ?_
  refine NQ (NX ?_)
  refine CT ?_
  refine SR ?_
  refine gK 1 [(4, vI 171)] [] ?_
  refine NN (af.ret (ai.aF (ai.aq ?_)))
  exact RT (vI 171) [0, 1, 2, 3, 4, 5, 6, 7] (⟨L, by rw [show (bW S c) = (171, S, c) by unfold bW; rw [hab]; simp only; rw [iR]; simp only; rw [show (linkM S d c.name to c.text) = (171, S) by unfold linkM; rw [hlk]; exact (if_neg (by simp)).trans (if_neg (by rw [bg]; simp))]] <;> exact ⟨rfl, rfl⟩⟩)
 ·have hkt : (obj S.O tk).kind = 2 := hI.kind hlv
  refine af.bC (by kernel_rfl) (by kernel_rfl) ?_
  refine gQ 8 [(44, .map (some (L.m d))), (48, .string c.name)] [(3, v_ 3 (bA L hkd)), (7, a_ 6 cb)] ?_
  refine oP 5 hkd hlk ?_
  refine gQ 1 [(8, .iface 96 (vP (L.b tk)))] [] ?_
  refine NQ (NX (af.seq (af.block (SR ?_))))
  refine gK 3 [(50, .bool false)] [] ?_
  refine NN ?_
  refine CF ?_
  refine SR ?_
  refine gK 1 [(54, .iface 96 (vP (L.b tk)))] [] ?_
  refine gL [] (jU (vP (L.b tk))) ?_
  rintro _ _ ⟨rfl, rfl⟩
  refine gK 2 [(53, .bool true)] [] ?_
  refine NN ?_
  refine CT ?_
  refine SR ?_
  refine gK 1 [(4, vI 172)] [] ?_
  refine NN (af.ret (ai.aF (ai.aq ?_)))
  exact RT (vI 172) [0, 1, 2, 3, 4, 5, 6, 7] (⟨L, by rw [show (bW S c) = (172, S, c) by unfold bW; rw [hab]; simp only; rw [iR]; simp only; rw [show (linkM S d c.name to c.text) = (172, S) by unfold linkM; rw [hlk]; exact if_pos rfl]] <;> exact ⟨rfl, rfl⟩⟩)
 have hkt : (obj S.O tk).kind = 3 := hI.kind hlv
 refine af.bC (by kernel_rfl) (by kernel_rfl) ?_
 refine gQ 8 [(44, .map (some (L.m d))), (48, .string c.name)] [(3, v_ 3 (bA L hkd)), (7, a_ 6 cb)] ?_
 refine oP 5 hkd hlk ?_
 refine gQ 1 [(8, .iface 93 (vP (L.b tk)))] [] ?_
 refine NQ (NX (af.seq (af.block (SR ?_))))
 refine gK 3 [(50, .bool false)] [] ?_
 refine NN ?_
 refine CF ?_
 refine SR ?_
 refine gK 1 [(54, .iface 93 (vP (L.b tk)))] [] ?_
 refine gL [] (kC (vP (L.b tk))) ?_
 rintro _ _ ⟨rfl, rfl⟩
 refine gK 2 [(53, .bool false)] [] ?_
 refine NN ?_
 refine CF ?_
 refine af.seq ?_
 have xh : (obj S.O to).ah.length ≤ 8192 := hI.eV hd2
 have Ho := hC.tx
 rcases hI.kg hd2 c.text with bg | ⟨ok, bg, dw⟩ | ⟨ok, bg, dw⟩ | ⟨ok, bg, dw⟩
 ·refine af.bC (by kernel_rfl) (by kernel_rfl) ?_
  refine gQ 8 (uM L to c) [(3, v_ 3 (bA L dh)), (7, a_ 6 cb)] ?_
  refine oP 5 dh bg ?_
  refine gQ 2 [(57, .bool false)] [] ?_
  refine NQ (NX ?_)
  refine CF ?_
  refine SR ?_
  refine gK 1 [(69, vP f)] [] ?_
  refine gL [0] (rE S.X f m t) ?_
  rintro _ _ ⟨rfl, rfl⟩
  refine gK 2 [(68, .bool (!(decide (S.X.ah < 8192))))] [] ?_
  refine NN ?_
  refine af.ct (p := S.X.ah < 8192) (fun _ => by kernel_rfl) (fun h68 => ?_) (fun h68 => ?_)
  ·refine SR ?_
   refine gK 1 [(4, vI 177)] [] ?_
   refine NN (af.ret (ai.aF (ai.aq ?_)))
   exact RT (vI 177) [0, 1, 2, 3, 4, 5, 6, 7] (⟨L, by rw [show (bW S c) = (177, S, c) by unfold bW; rw [hab]; simp only; rw [iR]; simp only; rw [show (linkM S d c.name to c.text) = (177, S) by unfold linkM; rw [hlk]; exact (if_neg (by simp)).trans ((if_pos bg).trans (if_neg h68))]] <;> exact ⟨rfl, rfl⟩⟩)
  refine af.skip (ai.aL (NX (SR ?_)))
  refine gK 7 [(72, vP f), (73, vP (L.b to)), (77, .string c.text), (78, .iface 93 (vP (L.b tk)))] [(5, a_ 6 cb)] ?_
  refine gL [0, 3, 5] (fV S.X f m t hX S.O L to dh c.text hC.tx bg (by omega) ⟨tk, 3⟩ hkt (by simp) (by have := hI.lb hlv; simp only at this ⊢; omega)) ?_
  rintro _ _ ⟨rfl, rfl⟩
  refine NS ?_
  refine aj.mem (aP := [.blk f [vI (S.X.cN), vI (S.X.cB), vI (S.X.cH), vI (S.X.cS), vI (S.X.cZ), .map (some m), vP t, vI (S.X.last), vI (S.X.ah + 1), vI (S.X.used)] 86, .abs (ak (aN (bq S.X S.O to c.text ⟨tk, 3⟩) L)), .abs (ak (bh (bq S.X S.O to c.text ⟨tk, 3⟩) L)), .abs (aE Tryz.prog 3 m (aO (aK L S.idx)) S.idx.length), .abs (br 156 t S.X.cH S.av (aK L S.us)), .abs (ak (aY (bq S.X S.O to c.text ⟨tk, 3⟩) L)), .blk cb [vI (c.op), vI (c.handle), vI (c.other), .string c.name, .string c.text, .slice c.dA (c.data.length) (c.dC), vI (c.mode), vI (c.uid), vI (c.gid), vI (c.sec), vI (c.nano), vI (c.code), vI (c.answer)] 43, .abs R]) (fun w hS => by rw [show aY (bq S.X S.O to c.text ⟨tk, 3⟩) L = aY S.O L from fI]; exact hS) ?_
  refine gK 1 [(4, vI 0)] [] ?_
  refine NN (af.ret ?_)
  exact RT (vI 0) [0, 3, 4, 1, 5, 2, 6, 7] (⟨L, by rw [show (bW S c) = (0, { S with X := { S.X with ah := S.X.ah + 1 }, O := bq S.X S.O to c.text ⟨tk, 3⟩ }, c) by unfold bW; rw [hab]; simp only; rw [iR]; simp only; rw [show (linkM S d c.name to c.text) = (0, { S with X := { S.X with ah := S.X.ah + 1 }, O := bq S.X S.O to c.text ⟨tk, 3⟩ }) by unfold linkM; rw [hlk]; exact (if_neg (by simp)).trans ((if_pos bg).trans (if_pos h68))]] <;> exact ⟨rfl, rfl⟩⟩)
 ·have jE : (obj S.O ok).kind = 1 := hI.kind dw
  refine af.bC (by kernel_rfl) (by kernel_rfl) ?_
  refine gQ 8 (uM L to c) [(3, v_ 3 (bA L dh)), (7, a_ 6 cb)] ?_
  refine oP 5 dh bg ?_
  refine gQ 2 [(57, .bool true)] [] ?_
  refine NQ (NX ?_)
  refine CT ?_
  refine SR ?_
  refine gK 1 [(4, vI 171)] [] ?_
  refine NN (af.ret (ai.aF (ai.aq ?_)))
  exact RT (vI 171) [0, 1, 2, 3, 4, 5, 6, 7] (⟨L, by rw [show (bW S c) = (171, S, c) by unfold bW; rw [hab]; simp only; rw [iR]; simp only; rw [show (linkM S d c.name to c.text) = (171, S) by unfold linkM; rw [hlk]; exact (if_neg (by simp)).trans (if_neg (by rw [bg]; simp))]] <;> exact ⟨rfl, rfl⟩⟩)
 ·have jE : (obj S.O ok).kind = 2 := hI.kind dw
  refine af.bC (by kernel_rfl) (by kernel_rfl) ?_
  refine gQ 8 (uM L to c) [(3, v_ 3 (bA L dh)), (7, a_ 6 cb)] ?_
  refine oP 5 dh bg ?_
  refine gQ 2 [(57, .bool true)] [] ?_
  refine NQ (NX ?_)
  refine CT ?_
  refine SR ?_
  refine gK 1 [(4, vI 171)] [] ?_
  refine NN (af.ret (ai.aF (ai.aq ?_)))
  exact RT (vI 171) [0, 1, 2, 3, 4, 5, 6, 7] (⟨L, by rw [show (bW S c) = (171, S, c) by unfold bW; rw [hab]; simp only; rw [iR]; simp only; rw [show (linkM S d c.name to c.text) = (171, S) by unfold linkM; rw [hlk]; exact (if_neg (by simp)).trans (if_neg (by rw [bg]; simp))]] <;> exact ⟨rfl, rfl⟩⟩)
 have jE : (obj S.O ok).kind = 3 := hI.kind dw
 refine af.bC (by kernel_rfl) (by kernel_rfl) ?_
 refine gQ 8 (uM L to c) [(3, v_ 3 (bA L dh)), (7, a_ 6 cb)] ?_
 refine oP 5 dh bg ?_
 refine gQ 2 [(57, .bool true)] [] ?_
 refine NQ (NX ?_)
 refine CT ?_
 refine SR ?_
 refine gK 1 [(4, vI 171)] [] ?_
 refine NN (af.ret (ai.aF (ai.aq ?_)))
 exact RT (vI 171) [0, 1, 2, 3, 4, 5, 6, 7] (⟨L, by rw [show (bW S c) = (171, S, c) by unfold bW; rw [hab]; simp only; rw [iR]; simp only; rw [show (linkM S d c.name to c.text) = (171, S) by unfold linkM; rw [hlk]; exact (if_neg (by simp)).trans (if_neg (by rw [bg]; simp))]] <;> exact ⟨rfl, rfl⟩⟩)
theorem DT {β : Bs} (S : aG) (L : HL) (f m t : Nat) (hI : Inv S) (cb : Nat) (c : aS) (hC : fJ β c) :
    Spec Tryz.prog β 86 #[vP f, vP cb] ((pA f m t L S) ++ [pC cb c]) (fun v l => ∃ L2, v = vI (fC S c).1 ∧ l = ((pA f m t L2 ((fC S c).2.1)) ++ [.blk cb (fZ ((fC S c).2.2)) 43])) := by
 have hX := hI.hX
 refine Spec.enter Tryz.func86 rfl Tryz.ntmps86 (Nat.le_of_ble_eq_true rfl) (fun R => ?_)
 refine af.seq ?_
 rcases hI.hand c.handle with cK | ⟨tk, cK, hlv⟩ | ⟨tk, cK, hlv⟩
 ·refine af.region ?_
  refine gK 1 [] [] ?_
  refine NN (af.seq ?_)
  refine af.bC (by kernel_rfl) (by kernel_rfl) ?_
  refine gQ 8 (Jw t c) [(3, a_ 0 f), (7, a_ 6 cb)] ?_
  refine aR.call (f := 136) (args := #[vP t, vI (c.handle)]) (d := (some 18)) (pre := [jY t S L]) (R := (oH f m t S L cb c R)) (pk := [2, 0, 1, 3, 4, 5, 6, 7]) (gJ := [1, 2, 0, 3, 4, 5, 6, 7]) (v0 := .tuple #[.nilIface, vI 131]) (fun _ => by kernel_rfl) (ol t S.X.cH S.av (aK L S.us) c.handle hC.hw (nJ cK)) rfl (by kernel_rfl) rfl (by kernel_rfl) (fun _ _ h => h) ?_
  refine gQ 5 [(5, .nilIface), (6, vI 131)] [] ?_
  refine NQ (NX (af.seq (SR ?_)))
  refine gK 2 [(22, .bool true)] [] ?_
  refine NN ?_
  refine CT ?_
  refine SR ?_
  refine gK 2 [(4, vI 131)] [] ?_
  refine NN (af.ret (ai.aq ?_))
  exact RT (vI 131) [0, 1, 2, 3, 4, 5, 6, 7] (⟨L, by rw [show (fC S c) = (131, S, c) by unfold fC; rw [cK]] <;> exact ⟨rfl, rfl⟩⟩)
 ·have hkt : (obj S.O tk).kind = 1 := hI.kind hlv
  refine af.region ?_
  refine gK 1 [] [] ?_
  refine NN (af.seq ?_)
  refine af.bC (by kernel_rfl) (by kernel_rfl) ?_
  refine gQ 8 (Jw t c) [(3, a_ 0 f), (7, a_ 6 cb)] ?_
  refine aR.call (f := 136) (args := #[vP t, vI (c.handle)]) (d := (some 18)) (pre := [jY t S L]) (R := (oH f m t S L cb c R)) (pk := [2, 0, 1, 3, 4, 5, 6, 7]) (gJ := [1, 2, 0, 3, 4, 5, 6, 7]) (v0 := .tuple #[.iface 89 (vP (L.b tk)), vI 0]) (fun _ => by kernel_rfl) (jR t S.X.cH S.av (aK L S.us) c.handle hC.hw (cO L ⟨tk, 1⟩) (ji cK)) rfl (by kernel_rfl) rfl (by kernel_rfl) (fun _ _ h => h) ?_
  refine gQ 5 (Fx L tk) [] ?_
  refine NQ (NX (af.seq (SR ?_)))
  refine gK 2 [(22, .bool false)] [] ?_
  refine NN ?_
  refine CF ?_
  refine af.skip (NX (SR ?_))
  refine gK 7 [(7, vP (L.b tk)), (8, .bool true)] [] ?_
  refine NN (af.seq (SR ?_))
  refine gK 2 [(30, .bool false)] [] ?_
  refine NN ?_
  refine CF ?_
  refine af.skip (NX (SR ?_))
  refine gK 7 [(32, vP cb), (33, vP f), (34, vP (L.b tk)), (38, .slice c.dA (c.data.length) (c.dC))] [(6, a_ 6 cb)] ?_
  refine gL [0, 1, 2, 3, 4, 5] (AZ S L f m t hI tk hlv c.dA c.dC c.data hC.da hC.dl hC.dc) ?_
  rintro _ _ ⟨L2, rfl, rfl⟩
  refine gC 7 [(6, vI ((writeM S tk c.data).2.1))] [(5, a_ 6 cb)] [(6, [(12, vI ((writeM S tk c.data).1))])] ?_
  refine NS ?_
  refine gK 2 [(4, vI ((writeM S tk c.data).2.1))] [] ?_
  refine NN (af.ret ?_)
  exact RT (vI ((writeM S tk c.data).2.1)) [0, 1, 2, 3, 4, 5, 6, 7] (⟨L2, by rw [show (fC S c) = ((writeM S tk c.data).2.1, (writeM S tk c.data).2.2, { c with answer := (writeM S tk c.data).1 }) by unfold fC; rw [cK]; exact if_pos rfl] <;> exact ⟨rfl, rfl⟩⟩)
 have hkt : (obj S.O tk).kind = 2 := hI.kind hlv
 refine af.region ?_
 refine gK 1 [] [] ?_
 refine NN (af.seq ?_)
 refine af.bC (by kernel_rfl) (by kernel_rfl) ?_
 refine gQ 8 (Jw t c) [(3, a_ 0 f), (7, a_ 6 cb)] ?_
 refine aR.call (f := 136) (args := #[vP t, vI (c.handle)]) (d := (some 18)) (pre := [jY t S L]) (R := (oH f m t S L cb c R)) (pk := [2, 0, 1, 3, 4, 5, 6, 7]) (gJ := [1, 2, 0, 3, 4, 5, 6, 7]) (v0 := .tuple #[.iface 96 (vP (L.b tk)), vI 0]) (fun _ => by kernel_rfl) (jR t S.X.cH S.av (aK L S.us) c.handle hC.hw (cO L ⟨tk, 2⟩) (ji cK)) rfl (by kernel_rfl) rfl (by kernel_rfl) (fun _ _ h => h) ?_
 refine gQ 5 (Fy L tk) [] ?_
 refine NQ (NX (af.seq (SR ?_)))
 refine gK 2 [(22, .bool false)] [] ?_
 refine NN ?_
 refine CF ?_
 refine af.skip (NX (SR ?_))
 refine gK 7 [(7, .pointer none), (8, .bool false)] [] ?_
 refine NN (af.seq (SR ?_))
 refine gK 2 [(30, .bool true)] [] ?_
 refine NN ?_
 refine CT ?_
 refine SR ?_
 refine gK 1 [(4, vI 172)] [] ?_
 refine NN (af.ret (ai.aq ?_))
 exact RT (vI 172) [0, 1, 2, 3, 4, 5, 6, 7] (⟨L, by rw [show (fC S c) = (172, S, c) by unfold fC; rw [cK]; exact if_neg (by simp)] <;> exact ⟨rfl, rfl⟩⟩)
theorem lX {β : Bs} (S : aG) (L : HL) (hI : Inv S) (cb : Nat) (c : aS) (ot : Option Th) (ht : ot = none ∨ (∃ k, ot = some ⟨k, 1⟩ ∧ Live S.idx ⟨k, 1⟩) ∨ (∃ k, ot = some ⟨k, 2⟩ ∧ Live S.idx ⟨k, 2⟩) ∨ ∃ k, ot = some ⟨k, 3⟩ ∧ Live S.idx ⟨k, 3⟩) :
    Spec Tryz.prog β 137 #[vP cb, (match ot with | none => .nilIface | some th => cO L th)] [pO S.O L, pC cb c] (fun v l => v = .tuple #[] ∧ l = [pO S.O L, .blk cb (fZ (lP S.O c ot)) 43]) := by
 refine Spec.enter Tryz.func137 rfl Tryz.ntmps137 (Nat.le_of_ble_eq_true rfl) (fun R => ?_)
 refine af.seq ?_
 rcases ht with rfl | ⟨tk, rfl, hlv⟩ | ⟨tk, rfl, hlv⟩ | ⟨tk, rfl, hlv⟩
 ·refine af.region ?_
  refine gC 21 [] [(8, a_ 1 cb), (11, a_ 1 cb), (14, a_ 1 cb), (17, a_ 1 cb), (20, A_ 1 cb 2)] [(1, (Fw))] ?_
  refine NN (af.seq (SR ?_))
  refine gK 2 [(22, .bool true)] [] ?_
  refine NN ?_
  refine CT ?_
  refine af.ret (ai.aq ?_)
  exact RT (.tuple #[]) [0, 1, 2] (⟨rfl, rfl⟩)
 ·have hkt : (obj S.O tk).kind = 1 := hI.kind hlv
  refine af.region ?_
  refine gC 21 [] [(8, a_ 1 cb), (11, a_ 1 cb), (14, a_ 1 cb), (17, a_ 1 cb), (20, A_ 1 cb 2)] [(1, (Fw))] ?_
  refine NN (af.seq (SR ?_))
  refine gK 2 [(22, .bool false)] [] ?_
  refine NN ?_
  refine CF ?_
  refine af.skip (NX (SR ?_))
  refine gK 1 [(23, .iface 89 (vP (L.b tk)))] [] ?_
  refine gL [] (cu (L.b tk)) ?_
  rintro _ _ ⟨rfl, rfl⟩
  refine gK 1 [(4, vP (L.b tk))] [] ?_
  refine NN ?_
  refine af.ck (S := [pO S.O L]) [0, 1, 2, 3, 4, 5, 6, 7, 8, 9, 10, 12, 13, 14, 15, 16, 17, 18, 19, 20, 21, 22, 23, 24, 25, 26, 27, 11, 28, 29, 30, 31, 32, 33, 34, 35, 36, 37, 38, 39, 40, 41, 42, 43, 44, 45] 27 [0] (by kernel_rfl) (by kernel_rfl) rfl (by kernel_rfl) ?_
  refine aH.reads (r := 0) (l := [11, 28, 29, 30, 31, 32, 33, 34, 35, 36, 37, 38, 39, 40, 41, 42, 43, 44, 45]) (fr' := ([(25, vP cb)] ++ sX cb S tk ++ [(35, .iface 89 (vP (L.b tk)))] ++ lD S tk)) (aU := [(∀ F w, (ak (aN S.O L)).h F w → w.cell? ⟨(L.b tk), 5, none⟩ = some (vI ((obj S.O tk).nano))), (∀ F w, (ak (aN S.O L)).h F w → w.cell? ⟨(L.b tk), 4, none⟩ = some (vI ((obj S.O tk).sec))), (∀ F w, (ak (aN S.O L)).h F w → w.cell? ⟨(L.b tk), 3, none⟩ = some (vI ((obj S.O tk).gid))), (∀ F w, (ak (aN S.O L)).h F w → w.cell? ⟨(L.b tk), 2, none⟩ = some (vI ((obj S.O tk).uid))), (∀ F w, (ak (aN S.O L)).h F w → w.cell? ⟨(L.b tk), 1, none⟩ = some (vI ((obj S.O tk).mode))), (∀ F w, (ak (aN S.O L)).h F w → w.cell? ⟨(L.b tk), 0, none⟩ = some (vI ((obj S.O tk).id)))]) [0, 1, 2, 3, 4, 5, 6, 7, 8, 9, 10, 12, 13, 14, 15, 16, 17, 18, 19, 20, 21, 22, 23, 24, 25, 26, 27] [o_, o_, o_, o_, o_, o_, o_, o_, o_, ⟨[.view 0 (.int .i64 ((obj S.O tk).id))], none, none, none, none⟩, o_, o_, o_, o_, ⟨[.view 0 (.int .i64 ((obj S.O tk).mode))], none, none, none, none⟩, o_, o_, o_, ⟨[.view 0 (.int .i64 ((obj S.O tk).uid))], none, none, none, none⟩, o_, o_, o_, ⟨[.view 0 (.int .i64 ((obj S.O tk).gid))], none, none, none, none⟩, o_, o_, o_, ⟨[.view 0 (.int .i64 ((obj S.O tk).sec)), .view 0 (.int .i64 ((obj S.O tk).nano))], none, none, none, none⟩] [25, 26, 27, 28, 29, 30, 34, 35, 40, 44, 48, 52] (fun _ => by kernel_rfl) ⟨bp (by rw [hkt]; decide) (rfl), bp (by rw [hkt]; decide) (rfl), bp (by rw [hkt]; decide) (rfl), bp (by rw [hkt]; decide) (rfl), bp (by rw [hkt]; decide) (rfl), bp (by rw [hkt]; decide) (rfl), trivial⟩ rfl rfl ?_
  refine mL [0] [] (jT (vP (L.b tk))) ?_ (by rintro _ _ ⟨rfl, rfl⟩; rfl)
  rintro _ _ ⟨rfl, rfl⟩
  refine aH.cut (ι := Unit) (fr' := fun (_ : Unit) => (sX cb S tk ++ [(36, vI 1)] ++ lD S tk ++ [(53, vP cb)])) (hp' := fun (_ : Unit) => [pO S.O L, Es cb c, .abs R]) [0] rfl rfl ?_ rfl (fun _ => by kernel_rfl) ?_
  ·refine gK 1 [(53, vP cb)] [] ?_
   refine NL ?_
   exact MD () [26, 27, 28, 29, 30, 34, 36, 40, 44, 48, 52, 53] [0, 1, 2]
  rintro _
  refine aH.cut (ι := Unit) (fr' := fun (_ : Unit) => (sX cb S tk ++ [(36, vI 1)] ++ lD S tk ++ [(54, .pointer (some ⟨cb, 12, none⟩))])) (hp' := fun (_ : Unit) => [pO S.O L, Es cb c, .abs R]) [0] rfl rfl ?_ rfl (fun _ => by kernel_rfl) ?_
  ·refine gK 1 [(54, .pointer (some ⟨cb, 12, none⟩))] [] ?_
   refine NL ?_
   exact MD () [26, 27, 28, 29, 30, 34, 36, 40, 44, 48, 52, 54] [0, 1, 2]
  rintro _
  refine mC [0] [] [(0, a_ 1 cb)] [(1, [(12, vI ((obj S.O tk).id))])] ?_
  refine aH.cut (ι := Unit) (fr' := fun (_ : Unit) => ([(27, vP cb)] ++ oI cb ++ [(36, vI 1)] ++ lD S tk ++ [(55, vP cb)])) (hp' := fun (_ : Unit) => [pO S.O L, Et cb c S tk, .abs R]) [0] rfl rfl ?_ rfl (fun _ => by kernel_rfl) ?_
  ·refine gK 1 [(55, vP cb)] [] ?_
   refine NL ?_
   exact MD () [27, 28, 29, 30, 36, 40, 44, 48, 52, 55] [0, 1, 2]
  rintro _
  refine aH.cut (ι := Unit) (fr' := fun (_ : Unit) => ([(27, vP cb)] ++ oI cb ++ [(36, vI 1)] ++ lD S tk ++ [(56, .pointer (some ⟨cb, 2, none⟩))])) (hp' := fun (_ : Unit) => [pO S.O L, Et cb c S tk, .abs R]) [0] rfl rfl ?_ rfl (fun _ => by kernel_rfl) ?_
  ·refine gK 1 [(56, .pointer (some ⟨cb, 2, none⟩))] [] ?_
   refine NL ?_
   exact MD () [27, 28, 29, 30, 36, 40, 44, 48, 52, 56] [0, 1, 2]
  rintro _
  refine mC [0] [] [(0, a_ 1 cb)] [(1, [(2, vI 1)])] ?_
  refine aH.cut (ι := Unit) (fr' := fun (_ : Unit) => (oI cb ++ lD S tk ++ [(57, vP cb)])) (hp' := fun (_ : Unit) => [pO S.O L, pC cb { c with other := 1, mode := 0, uid := 0, gid := 0, sec := 0, nano := 0, answer := (obj S.O tk).id }, .abs R]) [0] rfl rfl ?_ rfl (fun _ => by kernel_rfl) ?_
  ·refine gK 1 [(57, vP cb)] [] ?_
   refine NL ?_
   exact MD () [28, 29, 30, 40, 44, 48, 52, 57] [0, 1, 2]
  rintro _
  refine aH.cut (ι := Unit) (fr' := fun (_ : Unit) => (oI cb ++ lD S tk ++ [(58, .pointer (some ⟨cb, 6, none⟩))])) (hp' := fun (_ : Unit) => [pO S.O L, pC cb { c with other := 1, mode := 0, uid := 0, gid := 0, sec := 0, nano := 0, answer := (obj S.O tk).id }, .abs R]) [0] rfl rfl ?_ rfl (fun _ => by kernel_rfl) ?_
  ·refine gK 1 [(58, .pointer (some ⟨cb, 6, none⟩))] [] ?_
   refine NL ?_
   exact MD () [28, 29, 30, 40, 44, 48, 52, 58] [0, 1, 2]
  rintro _
  refine mC [0] [] [(0, a_ 1 cb)] [(1, [(6, vI ((obj S.O tk).mode))])] ?_
  refine aH.cut (ι := Unit) (fr' := fun (_ : Unit) => (zS cb S tk ++ oG S tk ++ [(59, vP cb)])) (hp' := fun (_ : Unit) => [pO S.O L, pC cb { c with other := 1, mode := (obj S.O tk).mode, uid := 0, gid := 0, sec := 0, nano := 0, answer := (obj S.O tk).id }, .abs R]) [0] rfl rfl ?_ rfl (fun _ => by kernel_rfl) ?_
  ·refine gK 1 [(59, vP cb)] [] ?_
   refine NL ?_
   exact MD () [29, 30, 44, 48, 52, 59] [0, 1, 2]
  rintro _
  refine aH.cut (ι := Unit) (fr' := fun (_ : Unit) => (zS cb S tk ++ oG S tk ++ [(60, .pointer (some ⟨cb, 7, none⟩))])) (hp' := fun (_ : Unit) => [pO S.O L, pC cb { c with other := 1, mode := (obj S.O tk).mode, uid := 0, gid := 0, sec := 0, nano := 0, answer := (obj S.O tk).id }, .abs R]) [0] rfl rfl ?_ rfl (fun _ => by kernel_rfl) ?_
  ·refine gK 1 [(60, .pointer (some ⟨cb, 7, none⟩))] [] ?_
   refine NL ?_
   exact MD () [29, 30, 44, 48, 52, 60] [0, 1, 2]
  rintro _
  refine mC [0] [] [(0, a_ 1 cb)] [(1, [(7, vI ((obj S.O tk).uid))])] ?_
  refine aH.cut (ι := Unit) (fr' := fun (_ : Unit) => ([(30, vP cb)] ++ oG S tk ++ [(61, vP cb)])) (hp' := fun (_ : Unit) => [pO S.O L, OU cb c S tk, .abs R]) [0] rfl rfl ?_ rfl (fun _ => by kernel_rfl) ?_
  ·refine gK 1 [(61, vP cb)] [] ?_
   refine NL ?_
   exact MD () [30, 48, 52, 61] [0, 1, 2]
  rintro _
  refine aH.cut (ι := Unit) (fr' := fun (_ : Unit) => ([(30, vP cb)] ++ oG S tk ++ [(62, .pointer (some ⟨cb, 8, none⟩))])) (hp' := fun (_ : Unit) => [pO S.O L, OU cb c S tk, .abs R]) [0] rfl rfl ?_ rfl (fun _ => by kernel_rfl) ?_
  ·refine gK 1 [(62, .pointer (some ⟨cb, 8, none⟩))] [] ?_
   refine NL ?_
   exact MD () [30, 48, 52, 62] [0, 1, 2]
  rintro _
  refine mC [0] [] [(0, a_ 1 cb)] [(1, [(8, vI ((obj S.O tk).gid))])] ?_
  refine aH.cut (ι := Unit) (fr' := fun (_ : Unit) => [(52, .agg #[vI ((obj S.O tk).sec), vI ((obj S.O tk).nano)]), (63, vP cb)]) (hp' := fun (_ : Unit) => [pO S.O L, OV cb c S tk, .abs R]) [0] rfl rfl ?_ rfl (fun _ => by kernel_rfl) ?_
  ·refine gK 1 [(63, vP cb)] [] ?_
   refine NL ?_
   exact MD () [52, 63] [0, 1, 2]
  rintro _
  refine aH.cut (ι := Unit) (fr' := fun (_ : Unit) => (Jv S tk cb)) (hp' := fun (_ : Unit) => [pO S.O L, OV cb c S tk, .abs R]) [0] rfl rfl ?_ rfl (fun _ => by kernel_rfl) ?_
  ·refine gK 1 [(64, .pointer (some ⟨cb, 9, none⟩))] [] ?_
   refine NL ?_
   exact MD () [52, 64] [0, 1, 2]
  rintro _
  refine aH.last rfl rfl ?_
  refine gC 1 [] [(0, A_ 1 cb 2)] [(1, (Jy S tk))] ?_
  refine NL (ai.np ?_)
  exact RF (.tuple #[]) [0, 1, 2] (⟨rfl, rfl⟩)
 ·have hkt : (obj S.O tk).kind = 2 := hI.kind hlv
  refine af.region ?_
  refine gC 21 [] [(8, a_ 1 cb), (11, a_ 1 cb), (14, a_ 1 cb), (17, a_ 1 cb), (20, A_ 1 cb 2)] [(1, (Fw))] ?_
  refine NN (af.seq (SR ?_))
  refine gK 2 [(22, .bool false)] [] ?_
  refine NN ?_
  refine CF ?_
  refine af.skip (NX (SR ?_))
  refine gK 1 [(23, .iface 96 (vP (L.b tk)))] [] ?_
  refine gL [] (cu (L.b tk)) ?_
  rintro _ _ ⟨rfl, rfl⟩
  refine gK 1 [(4, vP (L.b tk))] [] ?_
  refine NN ?_
  refine af.ck (S := [pO S.O L]) [0, 1, 2, 3, 4, 5, 6, 7, 8, 9, 10, 12, 13, 14, 15, 16, 17, 18, 19, 20, 21, 22, 23, 24, 25, 26, 27, 11, 28, 29, 30, 31, 32, 33, 34, 35, 36, 37, 38, 39, 40, 41, 42, 43, 44, 45] 27 [0] (by kernel_rfl) (by kernel_rfl) rfl (by kernel_rfl) ?_
  refine aH.reads (r := 0) (l := [11, 28, 29, 30, 31, 32, 33, 34, 35, 36, 37, 38, 39, 40, 41, 42, 43, 44, 45]) (fr' := ([(25, vP cb)] ++ sX cb S tk ++ [(35, .iface 96 (vP (L.b tk)))] ++ lD S tk)) (aU := [(∀ F w, (ak (aN S.O L)).h F w → w.cell? ⟨(L.b tk), 5, none⟩ = some (vI ((obj S.O tk).nano))), (∀ F w, (ak (aN S.O L)).h F w → w.cell? ⟨(L.b tk), 4, none⟩ = some (vI ((obj S.O tk).sec))), (∀ F w, (ak (aN S.O L)).h F w → w.cell? ⟨(L.b tk), 3, none⟩ = some (vI ((obj S.O tk).gid))), (∀ F w, (ak (aN S.O L)).h F w → w.cell? ⟨(L.b tk), 2, none⟩ = some (vI ((obj S.O tk).uid))), (∀ F w, (ak (aN S.O L)).h F w → w.cell? ⟨(L.b tk), 1, none⟩ = some (vI ((obj S.O tk).mode))), (∀ F w, (ak (aN S.O L)).h F w → w.cell? ⟨(L.b tk), 0, none⟩ = some (vI ((obj S.O tk).id)))]) [0, 1, 2, 3, 4, 5, 6, 7, 8, 9, 10, 12, 13, 14, 15, 16, 17, 18, 19, 20, 21, 22, 23, 24, 25, 26, 27] [o_, o_, o_, o_, o_, o_, o_, o_, o_, ⟨[.view 0 (.int .i64 ((obj S.O tk).id))], none, none, none, none⟩, o_, o_, o_, o_, ⟨[.view 0 (.int .i64 ((obj S.O tk).mode))], none, none, none, none⟩, o_, o_, o_, ⟨[.view 0 (.int .i64 ((obj S.O tk).uid))], none, none, none, none⟩, o_, o_, o_, ⟨[.view 0 (.int .i64 ((obj S.O tk).gid))], none, none, none, none⟩, o_, o_, o_, ⟨[.view 0 (.int .i64 ((obj S.O tk).sec)), .view 0 (.int .i64 ((obj S.O tk).nano))], none, none, none, none⟩] [25, 26, 27, 28, 29, 30, 34, 35, 40, 44, 48, 52] (fun _ => by kernel_rfl) ⟨bp (by rw [hkt]; decide) (rfl), bp (by rw [hkt]; decide) (rfl), bp (by rw [hkt]; decide) (rfl), bp (by rw [hkt]; decide) (rfl), bp (by rw [hkt]; decide) (rfl), bp (by rw [hkt]; decide) (rfl), trivial⟩ rfl rfl ?_
  refine mL [0] [] (jU (vP (L.b tk))) ?_ (by rintro _ _ ⟨rfl, rfl⟩; rfl)
  rintro _ _ ⟨rfl, rfl⟩
  refine aH.cut (ι := Unit) (fr' := fun (_ : Unit) => (sX cb S tk ++ [(36, vI 2)] ++ lD S tk ++ [(53, vP cb)])) (hp' := fun (_ : Unit) => [pO S.O L, Es cb c, .abs R]) [0] rfl rfl ?_ rfl (fun _ => by kernel_rfl) ?_
  ·refine gK 1 [(53, vP cb)] [] ?_
   refine NL ?_
   exact MD () [26, 27, 28, 29, 30, 34, 36, 40, 44, 48, 52, 53] [0, 1, 2]
  rintro _
  refine aH.cut (ι := Unit) (fr' := fun (_ : Unit) => (sX cb S tk ++ [(36, vI 2)] ++ lD S tk ++ [(54, .pointer (some ⟨cb, 12, none⟩))])) (hp' := fun (_ : Unit) => [pO S.O L, Es cb c, .abs R]) [0] rfl rfl ?_ rfl (fun _ => by kernel_rfl) ?_
  ·refine gK 1 [(54, .pointer (some ⟨cb, 12, none⟩))] [] ?_
   refine NL ?_
   exact MD () [26, 27, 28, 29, 30, 34, 36, 40, 44, 48, 52, 54] [0, 1, 2]
  rintro _
  refine mC [0] [] [(0, a_ 1 cb)] [(1, [(12, vI ((obj S.O tk).id))])] ?_
  refine aH.cut (ι := Unit) (fr' := fun (_ : Unit) => ([(27, vP cb)] ++ oI cb ++ [(36, vI 2)] ++ lD S tk ++ [(55, vP cb)])) (hp' := fun (_ : Unit) => [pO S.O L, Et cb c S tk, .abs R]) [0] rfl rfl ?_ rfl (fun _ => by kernel_rfl) ?_
  ·refine gK 1 [(55, vP cb)] [] ?_
   refine NL ?_
   exact MD () [27, 28, 29, 30, 36, 40, 44, 48, 52, 55] [0, 1, 2]
  rintro _
  refine aH.cut (ι := Unit) (fr' := fun (_ : Unit) => ([(27, vP cb)] ++ oI cb ++ [(36, vI 2)] ++ lD S tk ++ [(56, .pointer (some ⟨cb, 2, none⟩))])) (hp' := fun (_ : Unit) => [pO S.O L, Et cb c S tk, .abs R]) [0] rfl rfl ?_ rfl (fun _ => by kernel_rfl) ?_
  ·refine gK 1 [(56, .pointer (some ⟨cb, 2, none⟩))] [] ?_
   refine NL ?_
   exact MD () [27, 28, 29, 30, 36, 40, 44, 48, 52, 56] [0, 1, 2]
  rintro _
  refine mC [0] [] [(0, a_ 1 cb)] [(1, [(2, vI 2)])] ?_
  refine aH.cut (ι := Unit) (fr' := fun (_ : Unit) => (oI cb ++ lD S tk ++ [(57, vP cb)])) (hp' := fun (_ : Unit) => [pO S.O L, pC cb { c with other := 2, mode := 0, uid := 0, gid := 0, sec := 0, nano := 0, answer := (obj S.O tk).id }, .abs R]) [0] rfl rfl ?_ rfl (fun _ => by kernel_rfl) ?_
  ·refine gK 1 [(57, vP cb)] [] ?_
   refine NL ?_
   exact MD () [28, 29, 30, 40, 44, 48, 52, 57] [0, 1, 2]
  rintro _
  refine aH.cut (ι := Unit) (fr' := fun (_ : Unit) => (oI cb ++ lD S tk ++ [(58, .pointer (some ⟨cb, 6, none⟩))])) (hp' := fun (_ : Unit) => [pO S.O L, pC cb { c with other := 2, mode := 0, uid := 0, gid := 0, sec := 0, nano := 0, answer := (obj S.O tk).id }, .abs R]) [0] rfl rfl ?_ rfl (fun _ => by kernel_rfl) ?_
  ·refine gK 1 [(58, .pointer (some ⟨cb, 6, none⟩))] [] ?_
   refine NL ?_
   exact MD () [28, 29, 30, 40, 44, 48, 52, 58] [0, 1, 2]
  rintro _
  refine mC [0] [] [(0, a_ 1 cb)] [(1, [(6, vI ((obj S.O tk).mode))])] ?_
  refine aH.cut (ι := Unit) (fr' := fun (_ : Unit) => (zS cb S tk ++ oG S tk ++ [(59, vP cb)])) (hp' := fun (_ : Unit) => [pO S.O L, pC cb { c with other := 2, mode := (obj S.O tk).mode, uid := 0, gid := 0, sec := 0, nano := 0, answer := (obj S.O tk).id }, .abs R]) [0] rfl rfl ?_ rfl (fun _ => by kernel_rfl) ?_
  ·refine gK 1 [(59, vP cb)] [] ?_
   refine NL ?_
   exact MD () [29, 30, 44, 48, 52, 59] [0, 1, 2]
  rintro _
  refine aH.cut (ι := Unit) (fr' := fun (_ : Unit) => (zS cb S tk ++ oG S tk ++ [(60, .pointer (some ⟨cb, 7, none⟩))])) (hp' := fun (_ : Unit) => [pO S.O L, pC cb { c with other := 2, mode := (obj S.O tk).mode, uid := 0, gid := 0, sec := 0, nano := 0, answer := (obj S.O tk).id }, .abs R]) [0] rfl rfl ?_ rfl (fun _ => by kernel_rfl) ?_
  ·refine gK 1 [(60, .pointer (some ⟨cb, 7, none⟩))] [] ?_
   refine NL ?_
   exact MD () [29, 30, 44, 48, 52, 60] [0, 1, 2]
  rintro _
  refine mC [0] [] [(0, a_ 1 cb)] [(1, [(7, vI ((obj S.O tk).uid))])] ?_
  refine aH.cut (ι := Unit) (fr' := fun (_ : Unit) => ([(30, vP cb)] ++ oG S tk ++ [(61, vP cb)])) (hp' := fun (_ : Unit) => [pO S.O L, OW cb c S tk, .abs R]) [0] rfl rfl ?_ rfl (fun _ => by kernel_rfl) ?_
  ·refine gK 1 [(61, vP cb)] [] ?_
   refine NL ?_
   exact MD () [30, 48, 52, 61] [0, 1, 2]
  rintro _
  refine aH.cut (ι := Unit) (fr' := fun (_ : Unit) => ([(30, vP cb)] ++ oG S tk ++ [(62, .pointer (some ⟨cb, 8, none⟩))])) (hp' := fun (_ : Unit) => [pO S.O L, OW cb c S tk, .abs R]) [0] rfl rfl ?_ rfl (fun _ => by kernel_rfl) ?_
  ·refine gK 1 [(62, .pointer (some ⟨cb, 8, none⟩))] [] ?_
   refine NL ?_
   exact MD () [30, 48, 52, 62] [0, 1, 2]
  rintro _
  refine mC [0] [] [(0, a_ 1 cb)] [(1, [(8, vI ((obj S.O tk).gid))])] ?_
  refine aH.cut (ι := Unit) (fr' := fun (_ : Unit) => [(52, .agg #[vI ((obj S.O tk).sec), vI ((obj S.O tk).nano)]), (63, vP cb)]) (hp' := fun (_ : Unit) => [pO S.O L, OX cb c S tk, .abs R]) [0] rfl rfl ?_ rfl (fun _ => by kernel_rfl) ?_
  ·refine gK 1 [(63, vP cb)] [] ?_
   refine NL ?_
   exact MD () [52, 63] [0, 1, 2]
  rintro _
  refine aH.cut (ι := Unit) (fr' := fun (_ : Unit) => (Jv S tk cb)) (hp' := fun (_ : Unit) => [pO S.O L, OX cb c S tk, .abs R]) [0] rfl rfl ?_ rfl (fun _ => by kernel_rfl) ?_
  ·refine gK 1 [(64, .pointer (some ⟨cb, 9, none⟩))] [] ?_
   refine NL ?_
   exact MD () [52, 64] [0, 1, 2]
  rintro _
  refine aH.last rfl rfl ?_
  refine gC 1 [] [(0, A_ 1 cb 2)] [(1, (Jy S tk))] ?_
  refine NL (ai.np ?_)
  exact RF (.tuple #[]) [0, 1, 2] (⟨rfl, rfl⟩)
 have hkt : (obj S.O tk).kind = 3 := hI.kind hlv
 refine af.region ?_
 refine gC 21 [] [(8, a_ 1 cb), (11, a_ 1 cb), (14, a_ 1 cb), (17, a_ 1 cb), (20, A_ 1 cb 2)] [(1, (Fw))] ?_
 refine NN (af.seq (SR ?_))
 refine gK 2 [(22, .bool false)] [] ?_
 refine NN ?_
 refine CF ?_
 refine af.skip (NX (SR ?_))
 refine gK 1 [(23, .iface 93 (vP (L.b tk)))] [] ?_
 refine gL [] (cu (L.b tk)) ?_
 rintro _ _ ⟨rfl, rfl⟩
 refine gK 1 [(4, vP (L.b tk))] [] ?_
 refine NN ?_
 refine af.ck (S := [pO S.O L]) [0, 1, 2, 3, 4, 5, 6, 7, 8, 9, 10, 12, 13, 14, 15, 16, 17, 18, 19, 20, 21, 22, 23, 24, 25, 26, 27, 11, 28, 29, 30, 31, 32, 33, 34, 35, 36, 37, 38, 39, 40, 41, 42, 43, 44, 45] 27 [0] (by kernel_rfl) (by kernel_rfl) rfl (by kernel_rfl) ?_
 refine aH.reads (r := 0) (l := [11, 28, 29, 30, 31, 32, 33, 34, 35, 36, 37, 38, 39, 40, 41, 42, 43, 44, 45]) (fr' := ([(25, vP cb)] ++ sX cb S tk ++ [(35, .iface 93 (vP (L.b tk)))] ++ lD S tk)) (aU := [(∀ F w, (ak (aN S.O L)).h F w → w.cell? ⟨(L.b tk), 5, none⟩ = some (vI ((obj S.O tk).nano))), (∀ F w, (ak (aN S.O L)).h F w → w.cell? ⟨(L.b tk), 4, none⟩ = some (vI ((obj S.O tk).sec))), (∀ F w, (ak (aN S.O L)).h F w → w.cell? ⟨(L.b tk), 3, none⟩ = some (vI ((obj S.O tk).gid))), (∀ F w, (ak (aN S.O L)).h F w → w.cell? ⟨(L.b tk), 2, none⟩ = some (vI ((obj S.O tk).uid))), (∀ F w, (ak (aN S.O L)).h F w → w.cell? ⟨(L.b tk), 1, none⟩ = some (vI ((obj S.O tk).mode))), (∀ F w, (ak (aN S.O L)).h F w → w.cell? ⟨(L.b tk), 0, none⟩ = some (vI ((obj S.O tk).id)))]) [0, 1, 2, 3, 4, 5, 6, 7, 8, 9, 10, 12, 13, 14, 15, 16, 17, 18, 19, 20, 21, 22, 23, 24, 25, 26, 27] [o_, o_, o_, o_, o_, o_, o_, o_, o_, ⟨[.view 0 (.int .i64 ((obj S.O tk).id))], none, none, none, none⟩, o_, o_, o_, o_, ⟨[.view 0 (.int .i64 ((obj S.O tk).mode))], none, none, none, none⟩, o_, o_, o_, ⟨[.view 0 (.int .i64 ((obj S.O tk).uid))], none, none, none, none⟩, o_, o_, o_, ⟨[.view 0 (.int .i64 ((obj S.O tk).gid))], none, none, none, none⟩, o_, o_, o_, ⟨[.view 0 (.int .i64 ((obj S.O tk).sec)), .view 0 (.int .i64 ((obj S.O tk).nano))], none, none, none, none⟩] [25, 26, 27, 28, 29, 30, 34, 35, 40, 44, 48, 52] (fun _ => by kernel_rfl) ⟨bp (by rw [hkt]; decide) (rfl), bp (by rw [hkt]; decide) (rfl), bp (by rw [hkt]; decide) (rfl), bp (by rw [hkt]; decide) (rfl), bp (by rw [hkt]; decide) (rfl), bp (by rw [hkt]; decide) (rfl), trivial⟩ rfl rfl ?_
 refine mL [0] [] (kC (vP (L.b tk))) ?_ (by rintro _ _ ⟨rfl, rfl⟩; rfl)
 rintro _ _ ⟨rfl, rfl⟩
 refine aH.cut (ι := Unit) (fr' := fun (_ : Unit) => (sX cb S tk ++ [(36, vI 3)] ++ lD S tk ++ [(53, vP cb)])) (hp' := fun (_ : Unit) => [pO S.O L, Es cb c, .abs R]) [0] rfl rfl ?_ rfl (fun _ => by kernel_rfl) ?_
 ·refine gK 1 [(53, vP cb)] [] ?_
  refine NL ?_
  exact MD () [26, 27, 28, 29, 30, 34, 36, 40, 44, 48, 52, 53] [0, 1, 2]
 rintro _
 refine aH.cut (ι := Unit) (fr' := fun (_ : Unit) => (sX cb S tk ++ [(36, vI 3)] ++ lD S tk ++ [(54, .pointer (some ⟨cb, 12, none⟩))])) (hp' := fun (_ : Unit) => [pO S.O L, Es cb c, .abs R]) [0] rfl rfl ?_ rfl (fun _ => by kernel_rfl) ?_
 ·refine gK 1 [(54, .pointer (some ⟨cb, 12, none⟩))] [] ?_
  refine NL ?_
  exact MD () [26, 27, 28, 29, 30, 34, 36, 40, 44, 48, 52, 54] [0, 1, 2]
 rintro _
 refine mC [0] [] [(0, a_ 1 cb)] [(1, [(12, vI ((obj S.O tk).id))])] ?_
 refine aH.cut (ι := Unit) (fr' := fun (_ : Unit) => ([(27, vP cb)] ++ oI cb ++ [(36, vI 3)] ++ lD S tk ++ [(55, vP cb)])) (hp' := fun (_ : Unit) => [pO S.O L, Et cb c S tk, .abs R]) [0] rfl rfl ?_ rfl (fun _ => by kernel_rfl) ?_
 ·refine gK 1 [(55, vP cb)] [] ?_
  refine NL ?_
  exact MD () [27, 28, 29, 30, 36, 40, 44, 48, 52, 55] [0, 1, 2]
 rintro _
 refine aH.cut (ι := Unit) (fr' := fun (_ : Unit) => ([(27, vP cb)] ++ oI cb ++ [(36, vI 3)] ++ lD S tk ++ [(56, .pointer (some ⟨cb, 2, none⟩))])) (hp' := fun (_ : Unit) => [pO S.O L, Et cb c S tk, .abs R]) [0] rfl rfl ?_ rfl (fun _ => by kernel_rfl) ?_
 ·refine gK 1 [(56, .pointer (some ⟨cb, 2, none⟩))] [] ?_
  refine NL ?_
  exact MD () [27, 28, 29, 30, 36, 40, 44, 48, 52, 56] [0, 1, 2]
 rintro _
 refine mC [0] [] [(0, a_ 1 cb)] [(1, [(2, vI 3)])] ?_
 refine aH.cut (ι := Unit) (fr' := fun (_ : Unit) => (oI cb ++ lD S tk ++ [(57, vP cb)])) (hp' := fun (_ : Unit) => [pO S.O L, pC cb { c with other := 3, mode := 0, uid := 0, gid := 0, sec := 0, nano := 0, answer := (obj S.O tk).id }, .abs R]) [0] rfl rfl ?_ rfl (fun _ => by kernel_rfl) ?_
 ·refine gK 1 [(57, vP cb)] [] ?_
  refine NL ?_
  exact MD () [28, 29, 30, 40, 44, 48, 52, 57] [0, 1, 2]
 rintro _
 refine aH.cut (ι := Unit) (fr' := fun (_ : Unit) => (oI cb ++ lD S tk ++ [(58, .pointer (some ⟨cb, 6, none⟩))])) (hp' := fun (_ : Unit) => [pO S.O L, pC cb { c with other := 3, mode := 0, uid := 0, gid := 0, sec := 0, nano := 0, answer := (obj S.O tk).id }, .abs R]) [0] rfl rfl ?_ rfl (fun _ => by kernel_rfl) ?_
 ·refine gK 1 [(58, .pointer (some ⟨cb, 6, none⟩))] [] ?_
  refine NL ?_
  exact MD () [28, 29, 30, 40, 44, 48, 52, 58] [0, 1, 2]
 rintro _
 refine mC [0] [] [(0, a_ 1 cb)] [(1, [(6, vI ((obj S.O tk).mode))])] ?_
 refine aH.cut (ι := Unit) (fr' := fun (_ : Unit) => (zS cb S tk ++ oG S tk ++ [(59, vP cb)])) (hp' := fun (_ : Unit) => [pO S.O L, pC cb { c with other := 3, mode := (obj S.O tk).mode, uid := 0, gid := 0, sec := 0, nano := 0, answer := (obj S.O tk).id }, .abs R]) [0] rfl rfl ?_ rfl (fun _ => by kernel_rfl) ?_
 ·refine gK 1 [(59, vP cb)] [] ?_
  refine NL ?_
  exact MD () [29, 30, 44, 48, 52, 59] [0, 1, 2]
 rintro _
 refine aH.cut (ι := Unit) (fr' := fun (_ : Unit) => (zS cb S tk ++ oG S tk ++ [(60, .pointer (some ⟨cb, 7, none⟩))])) (hp' := fun (_ : Unit) => [pO S.O L, pC cb { c with other := 3, mode := (obj S.O tk).mode, uid := 0, gid := 0, sec := 0, nano := 0, answer := (obj S.O tk).id }, .abs R]) [0] rfl rfl ?_ rfl (fun _ => by kernel_rfl) ?_
 ·refine gK 1 [(60, .pointer (some ⟨cb, 7, none⟩))] [] ?_
  refine NL ?_
  exact MD () [29, 30, 44, 48, 52, 60] [0, 1, 2]
 rintro _
 refine mC [0] [] [(0, a_ 1 cb)] [(1, [(7, vI ((obj S.O tk).uid))])] ?_
 refine aH.cut (ι := Unit) (fr' := fun (_ : Unit) => ([(30, vP cb)] ++ oG S tk ++ [(61, vP cb)])) (hp' := fun (_ : Unit) => [pO S.O L, OY cb c S tk, .abs R]) [0] rfl rfl ?_ rfl (fun _ => by kernel_rfl) ?_
 ·refine gK 1 [(61, vP cb)] [] ?_
  refine NL ?_
  exact MD () [30, 48, 52, 61] [0, 1, 2]
 rintro _
 refine aH.cut (ι := Unit) (fr' := fun (_ : Unit) => ([(30, vP cb)] ++ oG S tk ++ [(62, .pointer (some ⟨cb, 8, none⟩))])) (hp' := fun (_ : Unit) => [pO S.O L, OY cb c S tk, .abs R]) [0] rfl rfl ?_ rfl (fun _ => by kernel_rfl) ?_
 ·refine gK 1 [(62, .pointer (some ⟨cb, 8, none⟩))] [] ?_
  refine NL ?_
  exact MD () [30, 48, 52, 62] [0, 1, 2]
 rintro _
 refine mC [0] [] [(0, a_ 1 cb)] [(1, [(8, vI ((obj S.O tk).gid))])] ?_
 refine aH.cut (ι := Unit) (fr' := fun (_ : Unit) => [(52, .agg #[vI ((obj S.O tk).sec), vI ((obj S.O tk).nano)]), (63, vP cb)]) (hp' := fun (_ : Unit) => [pO S.O L, OZ cb c S tk, .abs R]) [0] rfl rfl ?_ rfl (fun _ => by kernel_rfl) ?_
 ·refine gK 1 [(63, vP cb)] [] ?_
  refine NL ?_
  exact MD () [52, 63] [0, 1, 2]
 rintro _
 refine aH.cut (ι := Unit) (fr' := fun (_ : Unit) => (Jv S tk cb)) (hp' := fun (_ : Unit) => [pO S.O L, OZ cb c S tk, .abs R]) [0] rfl rfl ?_ rfl (fun _ => by kernel_rfl) ?_
 ·refine gK 1 [(64, .pointer (some ⟨cb, 9, none⟩))] [] ?_
  refine NL ?_
  exact MD () [52, 64] [0, 1, 2]
 rintro _
 refine aH.last rfl rfl ?_
 refine gC 1 [] [(0, A_ 1 cb 2)] [(1, (Jy S tk))] ?_
 refine NL (ai.np ?_)
 exact RF (.tuple #[]) [0, 1, 2] (⟨rfl, rfl⟩)
theorem FA {β : Bs} (S : aG) (L : HL) (f m t : Nat) (hI : Inv S) (cb : Nat) (c : aS) (hC : fJ β c) :
    Spec Tryz.prog β 88 #[vP f, vP cb] ((pA f m t L S) ++ [pC cb c]) (fun v l => ∃ L2, v = vI (jS S c).1 ∧ l = ((pA f m t L2 ((jS S c).2.1)) ++ [.blk cb (fZ ((jS S c).2.2)) 43])) := by
 have hX := hI.hX
 refine Spec.enter Tryz.func88 rfl Tryz.ntmps88 (Nat.le_of_ble_eq_true rfl) (fun R => ?_)
 refine af.seq ?_
 rcases hI.hand c.handle with cK | ⟨tk, cK, hlv⟩ | ⟨tk, cK, hlv⟩
 ·refine af.region ?_
  refine gK 1 [] [] ?_
  refine NN (af.seq ?_)
  refine af.bC (by kernel_rfl) (by kernel_rfl) ?_
  refine gQ 8 (Jx t c) [(3, a_ 0 f), (7, a_ 6 cb)] ?_
  refine aR.call (f := 136) (args := #[vP t, vI (c.handle)]) (d := (some 16)) (pre := [jY t S L]) (R := (oH f m t S L cb c R)) (pk := [2, 0, 1, 3, 4, 5, 6, 7]) (gJ := [1, 2, 0, 3, 4, 5, 6, 7]) (v0 := .tuple #[.nilIface, vI 131]) (fun _ => by kernel_rfl) (ol t S.X.cH S.av (aK L S.us) c.handle hC.hw (nJ cK)) rfl (by kernel_rfl) rfl (by kernel_rfl) (fun _ _ h => h) ?_
  refine gQ 5 [(5, .nilIface), (6, vI 131)] [] ?_
  refine NQ (NX (SR ?_))
  refine gK 2 [(19, vP cb), (20, .nilIface)] [] ?_
  refine gL [3, 6] (lX S L hI cb c none (.inl rfl)) ?_
  rintro _ _ ⟨rfl, rfl⟩
  refine NS ?_
  refine gK 2 [(4, vI 131)] [] ?_
  refine NN (af.ret ?_)
  exact RT (vI 131) [2, 3, 4, 0, 5, 6, 1, 7] (⟨L, by rw [show (jS S c) = (131, S, lP S.O c none) by unfold jS; rw [cK]] <;> exact ⟨rfl, rfl⟩⟩)
 ·have hkt : (obj S.O tk).kind = 1 := hI.kind hlv
  refine af.region ?_
  refine gK 1 [] [] ?_
  refine NN (af.seq ?_)
  refine af.bC (by kernel_rfl) (by kernel_rfl) ?_
  refine gQ 8 (Jx t c) [(3, a_ 0 f), (7, a_ 6 cb)] ?_
  refine aR.call (f := 136) (args := #[vP t, vI (c.handle)]) (d := (some 16)) (pre := [jY t S L]) (R := (oH f m t S L cb c R)) (pk := [2, 0, 1, 3, 4, 5, 6, 7]) (gJ := [1, 2, 0, 3, 4, 5, 6, 7]) (v0 := .tuple #[.iface 89 (vP (L.b tk)), vI 0]) (fun _ => by kernel_rfl) (jR t S.X.cH S.av (aK L S.us) c.handle hC.hw (cO L ⟨tk, 1⟩) (ji cK)) rfl (by kernel_rfl) rfl (by kernel_rfl) (fun _ _ h => h) ?_
  refine gQ 5 (Fx L tk) [] ?_
  refine NQ (NX (SR ?_))
  refine gK 2 [(19, vP cb), (20, .iface 89 (vP (L.b tk)))] [] ?_
  refine gL [3, 6] (lX S L hI cb c (some ⟨tk, 1⟩) (.inr (.inl ⟨tk, rfl, hlv⟩))) ?_
  rintro _ _ ⟨rfl, rfl⟩
  refine NS ?_
  refine gK 2 [(4, vI 0)] [] ?_
  refine NN (af.ret ?_)
  exact RT (vI 0) [2, 3, 4, 0, 5, 6, 1, 7] (⟨L, by rw [show (jS S c) = (0, S, lP S.O c (some ⟨tk, 1⟩)) by unfold jS; rw [cK]] <;> exact ⟨rfl, rfl⟩⟩)
 have hkt : (obj S.O tk).kind = 2 := hI.kind hlv
 refine af.region ?_
 refine gK 1 [] [] ?_
 refine NN (af.seq ?_)
 refine af.bC (by kernel_rfl) (by kernel_rfl) ?_
 refine gQ 8 (Jx t c) [(3, a_ 0 f), (7, a_ 6 cb)] ?_
 refine aR.call (f := 136) (args := #[vP t, vI (c.handle)]) (d := (some 16)) (pre := [jY t S L]) (R := (oH f m t S L cb c R)) (pk := [2, 0, 1, 3, 4, 5, 6, 7]) (gJ := [1, 2, 0, 3, 4, 5, 6, 7]) (v0 := .tuple #[.iface 96 (vP (L.b tk)), vI 0]) (fun _ => by kernel_rfl) (jR t S.X.cH S.av (aK L S.us) c.handle hC.hw (cO L ⟨tk, 2⟩) (ji cK)) rfl (by kernel_rfl) rfl (by kernel_rfl) (fun _ _ h => h) ?_
 refine gQ 5 (Fy L tk) [] ?_
 refine NQ (NX (SR ?_))
 refine gK 2 [(19, vP cb), (20, .iface 96 (vP (L.b tk)))] [] ?_
 refine gL [3, 6] (lX S L hI cb c (some ⟨tk, 2⟩) (.inr (.inr (.inl ⟨tk, rfl, hlv⟩)))) ?_
 rintro _ _ ⟨rfl, rfl⟩
 refine NS ?_
 refine gK 2 [(4, vI 0)] [] ?_
 refine NN (af.ret ?_)
 exact RT (vI 0) [2, 3, 4, 0, 5, 6, 1, 7] (⟨L, by rw [show (jS S c) = (0, S, lP S.O c (some ⟨tk, 2⟩)) by unfold jS; rw [cK]] <;> exact ⟨rfl, rfl⟩⟩)
theorem C5 {β : Bs} (S : aG) (L : HL) (f m t : Nat) (hI : Inv S) (cb : Nat) (c : aS) (hC : fJ β c) :
    Spec Tryz.prog β 89 #[vP f, vP cb] ((pA f m t L S) ++ [pC cb c]) (fun v l => ∃ L2, v = vI (fH S c).1 ∧ l = ((pA f m t L2 ((fH S c).2.1)) ++ [.blk cb (fZ ((fH S c).2.2)) 43])) := by
 have hX := hI.hX
 refine Spec.enter Tryz.func89 rfl Tryz.ntmps89 (Nat.le_of_ble_eq_true rfl) (fun R => ?_)
 refine SR ?_
 refine gK 1 [] [] ?_
 refine NS ?_
 refine gK 2 [(8, vP f), (9, vP cb)] [] ?_
 rcases yt hI.toInv0 c with ⟨e, hnm, hne⟩ | ⟨tk, hnm, hlv⟩ | ⟨tk, hnm, hlv⟩ | ⟨tk, hnm, hlv⟩
 ·refine gL (f := 133) (args := #[vP f, vP cb]) (pre := ((pA f m t L S) ++ [pC cb c])) [0, 1, 2, 3, 4, 5, 6] ((by have h := fW S L f m t hI cb c hC (β := β); rw [hnm] at h; exact h)) ?_
  rintro _ _ ⟨rfl, rfl⟩
  refine gK 5 [(5, .nilIface), (6, vI (e))] [] ?_
  refine NS ?_
  refine gK 2 [(13, vP cb), (14, .nilIface)] [] ?_
  refine gL [3, 6] (lX S L hI cb c none (.inl rfl)) ?_
  rintro _ _ ⟨rfl, rfl⟩
  refine NS ?_
  refine gK 2 [(4, vI (e))] [] ?_
  refine NN (af.ret ?_)
  exact RT (vI (e)) [2, 3, 4, 0, 5, 6, 1, 7] (⟨L, by rw [show (fH S c) = (e, S, lP S.O c none) by unfold fH; rw [hnm]] <;> exact ⟨rfl, rfl⟩⟩)
 ·have hkt : (obj S.O tk).kind = 1 := hI.kind hlv
  refine gL (f := 133) (args := #[vP f, vP cb]) (pre := ((pA f m t L S) ++ [pC cb c])) [0, 1, 2, 3, 4, 5, 6] ((by have h := fW S L f m t hI cb c hC (β := β); rw [hnm] at h; exact h)) ?_
  rintro _ _ ⟨rfl, rfl⟩
  refine gK 5 (Fx L tk) [] ?_
  refine NS ?_
  refine gK 2 [(13, vP cb), (14, .iface 89 (vP (L.b tk)))] [] ?_
  refine gL [3, 6] (lX S L hI cb c (some ⟨tk, 1⟩) (.inr (.inl ⟨tk, rfl, hlv⟩))) ?_
  rintro _ _ ⟨rfl, rfl⟩
  refine NS ?_
  refine gK 2 [(4, vI 0)] [] ?_
  refine NN (af.ret ?_)
  exact RT (vI 0) [2, 3, 4, 0, 5, 6, 1, 7] (⟨L, by rw [show (fH S c) = (0, S, lP S.O c (some ⟨tk, 1⟩)) by unfold fH; rw [hnm]] <;> exact ⟨rfl, rfl⟩⟩)
 ·have hkt : (obj S.O tk).kind = 2 := hI.kind hlv
  refine gL (f := 133) (args := #[vP f, vP cb]) (pre := ((pA f m t L S) ++ [pC cb c])) [0, 1, 2, 3, 4, 5, 6] ((by have h := fW S L f m t hI cb c hC (β := β); rw [hnm] at h; exact h)) ?_
  rintro _ _ ⟨rfl, rfl⟩
  refine gK 5 (Fy L tk) [] ?_
  refine NS ?_
  refine gK 2 [(13, vP cb), (14, .iface 96 (vP (L.b tk)))] [] ?_
  refine gL [3, 6] (lX S L hI cb c (some ⟨tk, 2⟩) (.inr (.inr (.inl ⟨tk, rfl, hlv⟩)))) ?_
  rintro _ _ ⟨rfl, rfl⟩
  refine NS ?_
  refine gK 2 [(4, vI 0)] [] ?_
  refine NN (af.ret ?_)
  exact RT (vI 0) [2, 3, 4, 0, 5, 6, 1, 7] (⟨L, by rw [show (fH S c) = (0, S, lP S.O c (some ⟨tk, 2⟩)) by unfold fH; rw [hnm]] <;> exact ⟨rfl, rfl⟩⟩)
 have hkt : (obj S.O tk).kind = 3 := hI.kind hlv
 refine gL (f := 133) (args := #[vP f, vP cb]) (pre := ((pA f m t L S) ++ [pC cb c])) [0, 1, 2, 3, 4, 5, 6] ((by have h := fW S L f m t hI cb c hC (β := β); rw [hnm] at h; exact h)) ?_
 rintro _ _ ⟨rfl, rfl⟩
 refine gK 5 [(5, .iface 93 (vP (L.b tk))), (6, vI 0)] [] ?_
 refine NS ?_
 refine gK 2 [(13, vP cb), (14, .iface 93 (vP (L.b tk)))] [] ?_
 refine gL [3, 6] (lX S L hI cb c (some ⟨tk, 3⟩) (.inr (.inr (.inr ⟨tk, rfl, hlv⟩)))) ?_
 rintro _ _ ⟨rfl, rfl⟩
 refine NS ?_
 refine gK 2 [(4, vI 0)] [] ?_
 refine NN (af.ret ?_)
 exact RT (vI 0) [2, 3, 4, 0, 5, 6, 1, 7] (⟨L, by rw [show (fH S c) = (0, S, lP S.O c (some ⟨tk, 3⟩)) by unfold fH; rw [hnm]] <;> exact ⟨rfl, rfl⟩⟩)
theorem DU {β : Bs} (S : aG) (L : HL) (f m t : Nat) (hI : Inv S) (cb : Nat) (c : aS) (hC : fJ β c) :
    Spec Tryz.prog β 90 #[vP f, vP cb] ((pA f m t L S) ++ [pC cb c]) (fun v l => ∃ L2, v = vI (iI S c).1 ∧ l = ((pA f m t L2 ((iI S c).2.1)) ++ [.blk cb (fZ ((iI S c).2.2)) 43])) := by
 have hX := hI.hX
 refine Spec.enter Tryz.func90 rfl Tryz.ntmps90 (Nat.le_of_ble_eq_true rfl) (fun R => ?_)
 refine af.seq ?_
 rcases hI.hand c.handle with cK | ⟨tk, cK, hlv⟩ | ⟨tk, cK, hlv⟩
 ·refine af.region ?_
  refine gK 1 [] [] ?_
  refine NN (af.seq ?_)
  refine af.mY (S := [pF f m t S.X, pC cb c]) [(true, 0), (true, 1), (true, 2), (true, 3), (true, 4), (true, 5), (true, 6), (true, 7), (false, 8), (true, 9), (true, 10), (true, 11), (true, 12), (false, 13)] [0, 6] (by kernel_rfl) (by kernel_rfl) rfl (by kernel_rfl) ?_
  refine fD.reads (l := [(false, 8), (true, 9), (true, 10), (true, 11), (true, 12), (false, 13)]) (fr' := [(0, vP f), (11, vP t), (15, vI (c.handle))]) (aU := [cb = cb, f = f]) [0, 1, 2, 3, 4, 5, 6, 7] [o_, o_, o_, ⟨[.at 0], none, none, none, none⟩, o_, o_, o_, ⟨[.at 1], none, none, none, none⟩] [0, 11, 15] (fun _ => by kernel_rfl) ⟨rfl, rfl, trivial⟩ rfl ?_
  refine fD.cut (ι := Unit) (fr' := fun (_ : Unit) => [(0, vP f), (16, .tuple #[.nilIface, vI 131])]) (hp' := fun (_ : Unit) => ([jY t S L] ++ oH f m t S L cb c R)) [1, 6] (by kernel_rfl) ?_ rfl (fun _ => by kernel_rfl) ?_
  ·refine gL [2] (DI t S.X.cH S.av (aK L S.us) c.handle hC.hw (nJ cK)) ?_
   rintro _ _ ⟨rfl, rfl⟩
   refine NL ?_
   exact MD () [0, 16] [0, 1, 2, 3, 4, 5, 6, 7]
  rintro _
  refine fD.reads (l := [(false, 13)]) (fr' := [(0, vP f), (5, .nilIface), (18, vI 131)]) (aU := []) [9, 10, 11, 12] [o_, o_, o_, o_] [0, 5, 18] (fun _ => by kernel_rfl) trivial rfl ?_
  refine fD.last (by kernel_rfl) ?_
  refine gK 1 [(6, vI 131)] [] ?_
  refine NL (ai.np (NX (af.seq (SR ?_))))
  refine gK 2 [(20, .bool true)] [] ?_
  refine NN ?_
  refine CT ?_
  refine SR ?_
  refine gK 2 [(4, vI 131)] [] ?_
  refine NN (af.ret (ai.aq ?_))
  exact RT (vI 131) [1, 2, 0, 3, 4, 5, 6, 7] (⟨L, by rw [show (iI S c) = (131, S, c) by unfold iI; rw [cK]] <;> exact ⟨rfl, rfl⟩⟩)
 ·have hkt : (obj S.O tk).kind = 1 := hI.kind hlv
  have hid := hI.ob _ hlv
  have nM := hI.GQ hlv
  have hdl := hI.CB hlv
  have hop : 0 < (obj S.O tk).opens ∧ (obj S.O tk).opens ≤ 1024 := ⟨by have h1 := hI.opens _ hlv; have h2 := Ek cK; simp only at h1 h2; omega, (hI.AU hlv).2⟩
  refine af.region ?_
  refine gK 1 [] [] ?_
  refine NN (af.seq ?_)
  refine af.mY (S := [pF f m t S.X, pC cb c]) [(true, 0), (true, 1), (true, 2), (true, 3), (true, 4), (true, 5), (true, 6), (true, 7), (false, 8), (true, 9), (true, 10), (true, 11), (true, 12), (false, 13)] [0, 6] (by kernel_rfl) (by kernel_rfl) rfl (by kernel_rfl) ?_
  refine fD.reads (l := [(false, 8), (true, 9), (true, 10), (true, 11), (true, 12), (false, 13)]) (fr' := [(0, vP f), (11, vP t), (15, vI (c.handle))]) (aU := [cb = cb, f = f]) [0, 1, 2, 3, 4, 5, 6, 7] [o_, o_, o_, ⟨[.at 0], none, none, none, none⟩, o_, o_, o_, ⟨[.at 1], none, none, none, none⟩] [0, 11, 15] (fun _ => by kernel_rfl) ⟨rfl, rfl, trivial⟩ rfl ?_
  refine fD.cut (ι := Unit) (fr' := fun (_ : Unit) => [(0, vP f), (16, .tuple #[.iface 89 (vP (L.b tk)), vI 0])]) (hp' := fun (_ : Unit) => ([pT t S.X.cH S.av L (del c.handle S.us)] ++ oH f m t S L cb c R)) [1, 6] (by kernel_rfl) ?_ rfl (fun _ => by kernel_rfl) ?_
  ·refine gL (f := 138) (args := #[vP t, vI (c.handle)]) (pre := [jY t S L]) [2] ((by have h := AQ (β := β) t S.X.cH S.av (aK L S.us) c.handle hC.hw (cO L ⟨tk, 1⟩) (ji cK); rw [← CJ] at h; exact h)) ?_
   rintro _ _ ⟨rfl, rfl⟩
   refine NL ?_
   exact MD () [0, 16] [0, 1, 2, 3, 4, 5, 6, 7]
  rintro _
  refine fD.reads (l := [(false, 13)]) (fr' := [(0, vP f), (5, .iface 89 (vP (L.b tk))), (18, vI 0)]) (aU := []) [9, 10, 11, 12] [o_, o_, o_, o_] [0, 5, 18] (fun _ => by kernel_rfl) trivial rfl ?_
  refine fD.last (by kernel_rfl) ?_
  refine gK 1 [(6, vI 0)] [] ?_
  refine NL (ai.np (NX (af.seq (SR ?_))))
  refine gK 2 [(20, .bool false)] [] ?_
  refine NN ?_
  refine CF ?_
  refine af.skip (NX (SR ?_))
  refine gK 1 [(22, .iface 89 (vP (L.b tk)))] [] ?_
  refine gL [] (cu (L.b tk)) ?_
  rintro _ _ ⟨rfl, rfl⟩
  refine gK 6 [(27, vI ((obj S.O tk).opens - 1)), (29, .pointer (some ⟨(L.b tk), 7, none⟩))] [(2, v_ 3 (iU L hkt)), (3, p_ ⟨[], none, none, none, some (vI ((obj S.O tk).opens - 1))⟩ [(Value.int .i64 (IntKind.wrap .i64 ((obj S.O tk).opens - 1))) = (.int .i64 ((obj S.O tk).opens - 1))] ⟨bE (by omega) (by omega) (by omega), trivial⟩)] ?_
  refine ql 3 [(5, 1), (4, 2)] tk 7 (fun o => { o with opens := o.opens - 1 }) hkt (fun bJ bO => ?_)
  have iQ := ku bO hkt
  have hf2 : (obj bJ tk).id = (obj S.O tk).id := fu aM.id bO rfl
  have hf3 : (obj bJ tk).data = (obj S.O tk).data := fu aM.data bO rfl
  refine NS ?_
  have Jz : (obj bJ tk).opens = (obj S.O tk).opens - 1 := by rw [bO]; exact congrArg aM.opens bG
  refine gK 2 [(30, vP f), (31, .iface 89 (vP (L.b tk)))] [] ?_
  refine gL [3, 1, 2] (oz S.X f m t hX bJ L S.idx hI.rise ⟨tk, 1⟩ iQ (by simp) (by rw [Jz]; omega) (fun _ => by rw [hf2, hid.1]; exact hlv) (by rw [hf2]; exact nM) (by rw [hf3]; exact hdl)) ?_
  rintro _ _ ⟨rfl, rfl⟩
  refine NS ?_
  refine gK 1 [(4, vI 0)] [] ?_
  refine NN (af.ret ?_)
  exact RT (l := [pF f m t { S.X with used := iY bJ S.X.used ⟨tk, 1⟩ }, pI m L (freeI bJ S.idx ⟨tk, 1⟩), pT t S.X.cH S.av L (del c.handle S.us), pO bJ L, pD bJ L, pE bJ L, pC cb c]) (.int .i64 0) [1, 2, 3, 0, 4, 5, 6, 7] (⟨L, by subst bO; rw [show iI S c = (0, _, c) by unfold iI; rw [cK]]; exact ⟨rfl, rfl⟩⟩)
 have hkt : (obj S.O tk).kind = 2 := hI.kind hlv
 have hid := hI.ob _ hlv
 have nM := hI.GQ hlv
 have hdl := hI.CB hlv
 have hop : 0 < (obj S.O tk).opens ∧ (obj S.O tk).opens ≤ 1024 := ⟨by have h1 := hI.opens _ hlv; have h2 := Ek cK; simp only at h1 h2; omega, (hI.AU hlv).2⟩
 refine af.region ?_
 refine gK 1 [] [] ?_
 refine NN (af.seq ?_)
 refine af.mY (S := [pF f m t S.X, pC cb c]) [(true, 0), (true, 1), (true, 2), (true, 3), (true, 4), (true, 5), (true, 6), (true, 7), (false, 8), (true, 9), (true, 10), (true, 11), (true, 12), (false, 13)] [0, 6] (by kernel_rfl) (by kernel_rfl) rfl (by kernel_rfl) ?_
 refine fD.reads (l := [(false, 8), (true, 9), (true, 10), (true, 11), (true, 12), (false, 13)]) (fr' := [(0, vP f), (11, vP t), (15, vI (c.handle))]) (aU := [cb = cb, f = f]) [0, 1, 2, 3, 4, 5, 6, 7] [o_, o_, o_, ⟨[.at 0], none, none, none, none⟩, o_, o_, o_, ⟨[.at 1], none, none, none, none⟩] [0, 11, 15] (fun _ => by kernel_rfl) ⟨rfl, rfl, trivial⟩ rfl ?_
 refine fD.cut (ι := Unit) (fr' := fun (_ : Unit) => [(0, vP f), (16, .tuple #[.iface 96 (vP (L.b tk)), vI 0])]) (hp' := fun (_ : Unit) => ([pT t S.X.cH S.av L (del c.handle S.us)] ++ oH f m t S L cb c R)) [1, 6] (by kernel_rfl) ?_ rfl (fun _ => by kernel_rfl) ?_
 ·refine gL (f := 138) (args := #[vP t, vI (c.handle)]) (pre := [jY t S L]) [2] ((by have h := AQ (β := β) t S.X.cH S.av (aK L S.us) c.handle hC.hw (cO L ⟨tk, 2⟩) (ji cK); rw [← CJ] at h; exact h)) ?_
  rintro _ _ ⟨rfl, rfl⟩
  refine NL ?_
  exact MD () [0, 16] [0, 1, 2, 3, 4, 5, 6, 7]
 rintro _
 refine fD.reads (l := [(false, 13)]) (fr' := [(0, vP f), (5, .iface 96 (vP (L.b tk))), (18, vI 0)]) (aU := []) [9, 10, 11, 12] [o_, o_, o_, o_] [0, 5, 18] (fun _ => by kernel_rfl) trivial rfl ?_
 refine fD.last (by kernel_rfl) ?_
 refine gK 1 [(6, vI 0)] [] ?_
 refine NL (ai.np (NX (af.seq (SR ?_))))
 refine gK 2 [(20, .bool false)] [] ?_
 refine NN ?_
 refine CF ?_
 refine af.skip (NX (SR ?_))
 refine gK 1 [(22, .iface 96 (vP (L.b tk)))] [] ?_
 refine gL [] (cu (L.b tk)) ?_
 rintro _ _ ⟨rfl, rfl⟩
 refine gK 6 [(27, vI ((obj S.O tk).opens - 1)), (29, .pointer (some ⟨(L.b tk), 7, none⟩))] [(2, v_ 3 (iU L hkt)), (3, p_ ⟨[], none, none, none, some (vI ((obj S.O tk).opens - 1))⟩ [(Value.int .i64 (IntKind.wrap .i64 ((obj S.O tk).opens - 1))) = (.int .i64 ((obj S.O tk).opens - 1))] ⟨bE (by omega) (by omega) (by omega), trivial⟩)] ?_
 refine ql 3 [(5, 1), (4, 2)] tk 7 (fun o => { o with opens := o.opens - 1 }) hkt (fun bJ bO => ?_)
 have uE := ku bO hkt
 have G9 : (obj bJ tk).id = (obj S.O tk).id := fu aM.id bO rfl
 have MC : (obj bJ tk).data = (obj S.O tk).data := fu aM.data bO rfl
 refine NS ?_
 have Jz : (obj bJ tk).opens = (obj S.O tk).opens - 1 := by rw [bO]; exact congrArg aM.opens bG
 refine gK 2 [(30, vP f), (31, .iface 96 (vP (L.b tk)))] [] ?_
 refine gL [3, 1, 2] (oz S.X f m t hX bJ L S.idx hI.rise ⟨tk, 2⟩ uE (by simp) (by rw [Jz]; omega) (fun _ => by rw [G9, hid.1]; exact hlv) (by rw [G9]; exact nM) (by rw [MC]; exact hdl)) ?_
 rintro _ _ ⟨rfl, rfl⟩
 refine NS ?_
 refine gK 1 [(4, vI 0)] [] ?_
 refine NN (af.ret ?_)
 exact RT (l := [pF f m t { S.X with used := iY bJ S.X.used ⟨tk, 2⟩ }, pI m L (freeI bJ S.idx ⟨tk, 2⟩), pT t S.X.cH S.av L (del c.handle S.us), pO bJ L, pD bJ L, pE bJ L, pC cb c]) (.int .i64 0) [1, 2, 3, 0, 4, 5, 6, 7] (⟨L, by subst bO; rw [show iI S c = (0, _, c) by unfold iI; rw [cK]]; exact ⟨rfl, rfl⟩⟩)
end
section
open Go.RowKit Go.Maps HeapM TabM
attribute [local irreducible] aj aR af ai
abbrev Qx (S : aG) (L : HL) (tk : Nat) := (.abs (ak (iO (aN S.O L) tk bT.none)) : HP)
abbrev KC (L : HL) (tk : Nat) (S : aG) (c : aS) := (.blk (L.b tk) [vI ((obj S.O tk).id), vI (c.mode), vI ((obj S.O tk).uid), vI ((obj S.O tk).gid), vI ((obj S.O tk).sec), vI ((obj S.O tk).nano), vI ((obj S.O tk).links), vI ((obj S.O tk).opens), .bool (obj S.O tk).gone, .slice (L.dA tk) ((obj S.O tk).data.length) ((L.dC tk))] 92 : HP)
abbrev KD (L : HL) (tk : Nat) (S : aG) (c : aS) := (.blk (L.b tk) [vI ((obj S.O tk).id), vI (c.mode), vI (c.uid), vI ((obj S.O tk).gid), vI ((obj S.O tk).sec), vI ((obj S.O tk).nano), vI ((obj S.O tk).links), vI ((obj S.O tk).opens), .bool (obj S.O tk).gone, .slice (L.dA tk) ((obj S.O tk).data.length) ((L.dC tk))] 92 : HP)
abbrev KE (L : HL) (tk : Nat) (S : aG) (c : aS) := (.blk (L.b tk) [vI ((obj S.O tk).id), vI (c.mode), vI (c.uid), vI (c.gid), vI ((obj S.O tk).sec), vI ((obj S.O tk).nano), vI ((obj S.O tk).links), vI ((obj S.O tk).opens), .bool (obj S.O tk).gone, .slice (L.dA tk) ((obj S.O tk).data.length) ((L.dC tk))] 92 : HP)
abbrev O3 (L : HL) (tk : Nat) (S : aG) (c : aS) := (.blk (L.b tk) [vI ((obj S.O tk).id), vI (c.mode), vI ((obj S.O tk).uid), vI ((obj S.O tk).gid), vI ((obj S.O tk).sec), vI ((obj S.O tk).nano), vI ((obj S.O tk).links), vI ((obj S.O tk).opens), .bool (obj S.O tk).gone, .map (some (L.m tk)), (qK L (obj S.O tk).up)] 99 : HP)
abbrev O4 (L : HL) (tk : Nat) (S : aG) (c : aS) := (.blk (L.b tk) [vI ((obj S.O tk).id), vI (c.mode), vI (c.uid), vI ((obj S.O tk).gid), vI ((obj S.O tk).sec), vI ((obj S.O tk).nano), vI ((obj S.O tk).links), vI ((obj S.O tk).opens), .bool (obj S.O tk).gone, .map (some (L.m tk)), (qK L (obj S.O tk).up)] 99 : HP)
abbrev O5 (L : HL) (tk : Nat) (S : aG) (c : aS) := (.blk (L.b tk) [vI ((obj S.O tk).id), vI (c.mode), vI (c.uid), vI (c.gid), vI ((obj S.O tk).sec), vI ((obj S.O tk).nano), vI ((obj S.O tk).links), vI ((obj S.O tk).opens), .bool (obj S.O tk).gone, .map (some (L.m tk)), (qK L (obj S.O tk).up)] 99 : HP)
abbrev ML (S : aG) (c : aS) (L2 : HL) := (pO (ay S.O (aD S.X) (fun _ => (⟨0, c.mode, 0, 0, 0, 0, 0, 0, false, 1, [], ⟨#[]⟩, [], none⟩ : aM))) L2 : HP)
abbrev Qy (S : aG) (c : aS) (L2 : HL) := (pE (ay S.O (aD S.X) (fun _ => (⟨0, c.mode, 0, 0, 0, 0, 0, 0, false, 1, [], ⟨#[]⟩, [], none⟩ : aM))) L2 : HP)
abbrev MN (S : aG) (c : aS) (L2 : HL) := (pD (ay S.O (aD S.X) (fun _ => (⟨0, c.mode, 0, 0, 0, 0, 0, 0, false, 1, [], ⟨#[]⟩, [], none⟩ : aM))) L2 : HP)
abbrev j8 (f : Nat) (m : Nat) (t) (S : aG) (L : HL) (tk : Nat) (cb : Nat) (c) (R : bT) := ([pF f m t S.X, pI m L S.idx, jY t S L, Qx S L tk, pD S.O L, pE S.O L, pC cb c, .abs R] : List HP)
abbrev lY (c : aS) := ([(79, vI (c.gid)), (83, .agg #[vI (c.sec), vI (c.nano)])] : Fr)
abbrev zT (L : HL) (tk : Nat) (c : aS) := ([(66, vP (L.b tk)), (67, vP (L.b tk)), (75, vI (c.uid))] : Fr)
abbrev JA (L : HL) (tk : Nat) (c : aS) := ([(65, vP (L.b tk)), (66, vP (L.b tk)), (67, vP (L.b tk)), (71, vI (c.mode)), (75, vI (c.uid))] : Fr)
abbrev zU (S : aG) (c) (L2 : HL) (f : Nat) (m : Nat) (t) (L : HL) := ([ML S c L2, pF f m t S.X, pI m L S.idx, Qy S c L2, jY t S L] : List HP)
abbrev JB (c : aS) (L : HL) (tk : Nat) := ([(83, .agg #[vI (c.sec), vI (c.nano)]), (91, .pointer (some ⟨(L.b tk), 4, none⟩))] : Fr)
abbrev JC (t) (c : aS) := ([(12, vP t), (16, vI (c.handle))] : Fr)
abbrev MO (cb : Nat) (f : Nat) (b4 : Nat) := ([(49, vP cb), (50, vP f), (52, .iface 89 (vP b4))] : Fr)
theorem Bu {β : Bs} (S : aG) (L : HL) (f m t : Nat) (hI : Inv S) (cb : Nat) (c : aS) (hC : fJ β c) :
    Spec Tryz.prog β 87 #[vP f, vP cb] ((pA f m t L S) ++ [pC cb c]) (fun v l => ∃ L2, v = vI (bF S c).1 ∧ l = ((pA f m t L2 ((bF S c).2.1)) ++ [.blk cb (fZ ((bF S c).2.2)) 43])) := by
 have hX := hI.hX
 refine Spec.enter Tryz.func87 rfl Tryz.ntmps87 (Nat.le_of_ble_eq_true rfl) (fun R => ?_)
 refine af.seq ?_
 rcases hI.hand c.handle with cK | ⟨tk, cK, hlv⟩ | ⟨tk, cK, hlv⟩
 ·refine af.region ?_
  refine gK 1 [] [] ?_
  refine NN (af.seq ?_)
  refine af.bC (by kernel_rfl) (by kernel_rfl) ?_
  refine gQ 8 (JC t c) [(3, a_ 0 f), (7, a_ 6 cb)] ?_
  refine aR.call (f := 136) (args := #[vP t, vI (c.handle)]) (d := (some 17)) (pre := [jY t S L]) (R := (oH f m t S L cb c R)) (pk := [2, 0, 1, 3, 4, 5, 6, 7]) (gJ := [1, 2, 0, 3, 4, 5, 6, 7]) (v0 := .tuple #[.nilIface, vI 131]) (fun _ => by kernel_rfl) (ol t S.X.cH S.av (aK L S.us) c.handle hC.hw (nJ cK)) rfl (by kernel_rfl) rfl (by kernel_rfl) (fun _ _ h => h) ?_
  refine gQ 5 [(5, .nilIface), (6, vI 131)] [] ?_
  refine NQ (NX (af.seq (SR ?_)))
  refine gK 2 [(21, .bool true)] [] ?_
  refine NN ?_
  refine CT ?_
  refine SR ?_
  refine gK 2 [(4, vI 131)] [] ?_
  refine NN (af.ret (ai.aq ?_))
  exact RT (vI 131) [0, 1, 2, 3, 4, 5, 6, 7] (⟨L, by rw [show (bF S c) = (131, S, c) by unfold bF; rw [cK]] <;> exact ⟨rfl, rfl⟩⟩)
 ·have hkt : (obj S.O tk).kind = 1 := hI.kind hlv
  refine af.region ?_
  refine gK 1 [] [] ?_
  refine NN (af.seq ?_)
  refine af.bC (by kernel_rfl) (by kernel_rfl) ?_
  refine gQ 8 (JC t c) [(3, a_ 0 f), (7, a_ 6 cb)] ?_
  refine aR.call (f := 136) (args := #[vP t, vI (c.handle)]) (d := (some 17)) (pre := [jY t S L]) (R := (oH f m t S L cb c R)) (pk := [2, 0, 1, 3, 4, 5, 6, 7]) (gJ := [1, 2, 0, 3, 4, 5, 6, 7]) (v0 := .tuple #[.iface 89 (vP (L.b tk)), vI 0]) (fun _ => by kernel_rfl) (jR t S.X.cH S.av (aK L S.us) c.handle hC.hw (cO L ⟨tk, 1⟩) (ji cK)) rfl (by kernel_rfl) rfl (by kernel_rfl) (fun _ _ h => h) ?_
  refine gQ 5 (Fx L tk) [] ?_
  refine NQ (NX (af.seq (SR ?_)))
  refine gK 2 [(21, .bool false)] [] ?_
  refine NN ?_
  refine CF ?_
  refine af.skip (NX (SR ?_))
  refine gK 1 [(23, .iface 89 (vP (L.b tk)))] [] ?_
  refine gL [] (cu (L.b tk)) ?_
  rintro _ _ ⟨rfl, rfl⟩
  refine gK 1 [(7, vP (L.b tk))] [] ?_
  refine NN (af.seq (af.block (SR ?_)))
  refine gK 5 [(30, .bool (obj S.O tk).gone)] [(3, v_ 3 (lC L hkt))] ?_
  refine aj.lJ 30 (obj S.O tk).gone (fun _ => by kernel_rfl) (fun kE => ?_) (fun kE => ?_)
  ·refine gK 1 [(31, .iface 89 (vP (L.b tk)))] [] ?_
   refine gL [] (jT (vP (L.b tk))) ?_
   rintro _ _ ⟨rfl, rfl⟩
   refine gK 3 [(25, .bool false)] [] ?_
   refine NN ?_
   refine CF ?_
   refine SR ?_
   refine gK 4 [(39, vI (c.mode))] [(3, a_ 6 cb)] ?_
   refine gL [] (ef (c.mode) 4095) ?_
   rintro _ _ ⟨rfl, rfl⟩
   refine gK 2 [(35, .bool (!(decide (0 ≤ c.mode ∧ c.mode ≤ 4095))))] [] ?_
   refine NN ?_
   refine af.ct (p := 0 ≤ c.mode ∧ c.mode ≤ 4095) (fun _ => by kernel_rfl) (fun ko => ?_) (fun ko => ?_)
   ·refine SR ?_
    refine gK 1 [(4, vI 120)] [] ?_
    refine NN (af.ret (ai.aF (ai.aq ?_)))
    exact RT (vI 120) [0, 1, 2, 3, 4, 5, 6, 7] (⟨L, by rw [show (bF S c) = (120, S, c) by unfold bF; rw [cK]; exact (if_neg (fun h => absurd h.2 (by simp))).trans (if_neg ko)] <;> exact ⟨rfl, rfl⟩⟩)
   refine SR ?_
   refine gK 4 [(46, vI (c.uid))] [(3, a_ 6 cb)] ?_
   refine gL [] (ef (c.uid) 2147483647) ?_
   rintro _ _ ⟨rfl, rfl⟩
   refine gK 2 [(49, .bool (!(decide (0 ≤ c.uid ∧ c.uid ≤ 2147483647))))] [] ?_
   refine aj.fM 49 (0 ≤ c.uid ∧ c.uid ≤ 2147483647) (fun _ => by kernel_rfl) (fun qU => ?_) (fun qU => ?_)
   ·refine gK 8 [(42, .bool true)] [] ?_
    refine NN ?_
    refine CT ?_
    refine SR ?_
    refine gK 1 [(4, vI 11)] [] ?_
    refine NN (af.ret (ai.aF (ai.aq ?_)))
    exact RT (vI 11) [0, 1, 2, 3, 4, 5, 6, 7] (⟨L, by rw [show (bF S c) = (11, S, c) by unfold bF; rw [cK]; exact (if_neg (fun h => absurd h.2 (by simp))).trans ((if_pos ko).trans (if_neg (fun h => qU h.1)))] <;> exact ⟨rfl, rfl⟩⟩)
   refine gK 4 [(53, vI (c.gid))] [(3, a_ 6 cb)] ?_
   refine gL [] (ef (c.gid) 2147483647) ?_
   rintro _ _ ⟨rfl, rfl⟩
   refine gK 3 [(42, .bool (!(decide (0 ≤ c.gid ∧ c.gid ≤ 2147483647))))] [] ?_
   refine NN ?_
   refine af.ct (p := 0 ≤ c.gid ∧ c.gid ≤ 2147483647) (fun _ => by kernel_rfl) (fun qV => ?_) (fun qV => ?_)
   ·refine SR ?_
    refine gK 1 [(4, vI 11)] [] ?_
    refine NN (af.ret (ai.aF (ai.aq ?_)))
    exact RT (vI 11) [0, 1, 2, 3, 4, 5, 6, 7] (⟨L, by rw [show (bF S c) = (11, S, c) by unfold bF; rw [cK]; exact (if_neg (fun h => absurd h.2 (by simp))).trans ((if_pos ko).trans (if_neg (fun h => qV h.2)))] <;> exact ⟨rfl, rfl⟩⟩)
   refine SR ?_
   refine gK 4 [(61, .agg #[vI (c.sec), vI (c.nano)])] [(3, A_ 6 cb 2)] ?_
   refine gL [] (fT c.sec c.nano) ?_
   rintro _ _ ⟨rfl, rfl⟩
   refine gK 2 [(57, .bool (!(decide (cT c.sec c.nano))))] [] ?_
   refine NN ?_
   refine af.ct (p := cT c.sec c.nano) (fun _ => by kernel_rfl) (fun uN => ?_) (fun uN => ?_)
   ·refine SR ?_
    refine gK 1 [(4, vI 20)] [] ?_
    refine NN (af.ret (ai.aF (ai.aq ?_)))
    exact RT (vI 20) [0, 1, 2, 3, 4, 5, 6, 7] (⟨L, by rw [show (bF S c) = (20, S, c) by unfold bF; rw [cK]; exact (if_neg (fun h => absurd h.2 (by simp))).trans ((if_pos ko).trans ((if_pos ⟨qU, qV⟩).trans (if_neg uN)))] <;> exact ⟨rfl, rfl⟩⟩)
   refine af.skip (ai.aL (NX (af.seq ?_)))
   skip
   refine af.mem (aP := [.blk f [vI (S.X.cN), vI (S.X.cB), vI (S.X.cH), vI (S.X.cS), vI (S.X.cZ), .map (some m), vP t, vI (S.X.last), vI (S.X.ah), vI (S.X.used)] 86, .abs (aE Tryz.prog 3 m (aO (aK L S.idx)) S.idx.length), .abs (br 156 t S.X.cH S.av (aK L S.us)), .abs (ak (iO (aN S.O L) tk bT.none)), .abs (ak (aY S.O L)), .abs (ak (bh S.O L)), .blk cb [vI (c.op), vI (c.handle), vI (c.other), .string c.name, .string c.text, .slice c.dA (c.data.length) (c.dC), vI (c.mode), vI (c.uid), vI (c.gid), vI (c.sec), vI (c.nano), vI (c.code), vI (c.answer)] 43, .abs R, .blk (L.b tk) [vI ((obj S.O tk).id), vI ((obj S.O tk).mode), vI ((obj S.O tk).uid), vI ((obj S.O tk).gid), vI ((obj S.O tk).sec), vI ((obj S.O tk).nano), vI ((obj S.O tk).links), vI ((obj S.O tk).opens), .bool (obj S.O tk).gone, .slice (L.dA tk) ((obj S.O tk).data.length) ((L.dC tk))] 92]) (fun w hS => hS.uj (i := 3) (k := tk) rfl (by rw [hkt]; decide) (eH (hkt)) (by rw [hkt]; rfl)) ?_
   refine af.ck (S := [pC cb c]) [0, 1, 2, 3, 4, 5, 6, 7, 8, 9, 10, 11, 12, 13, 14, 15, 16, 17, 18, 19, 20, 21, 22, 23, 24, 25, 26, 27, 28, 29, 30, 31] 22 [6] (by kernel_rfl) (by kernel_rfl) rfl (by kernel_rfl) ?_
   refine aH.reads (r := 0) (l := [22, 23, 24, 25, 26, 27, 28, 29, 30, 31]) (fr' := (JA L tk c ++ lY c ++ [(85, .pointer (some ⟨(L.b tk), 1, none⟩))])) (aU := [cb = cb, cb = cb, cb = cb, cb = cb, cb = cb]) [0, 1, 2, 3, 4, 5, 6, 7, 8, 9, 10, 11, 12, 13, 14, 15, 16, 17, 18, 19, 20, 21] [o_, o_, o_, o_, o_, o_, o_, ⟨[.at 0], none, none, none, none⟩, o_, o_, o_, ⟨[.at 0], none, none, none, none⟩, o_, o_, o_, ⟨[.at 0], none, none, none, none⟩, o_, o_, o_, ⟨[.at 0, .at 0], none, none, none, none⟩, o_, o_] [65, 66, 67, 71, 75, 79, 83, 85] (fun _ => by kernel_rfl) ⟨rfl, rfl, rfl, rfl, rfl, trivial⟩ rfl rfl ?_
   refine mC [6] [] [(0, a_ 8 (L.b tk))] [(8, [(1, vI (c.mode))])] ?_
   refine aH.cut (ι := Unit) (fr' := fun (_ : Unit) => (zT L tk c ++ lY c ++ [(86, vP (L.b tk))])) (hp' := fun (_ : Unit) => (j8 f m t S L tk cb c R ++ [KC L tk S c])) [6] rfl rfl ?_ rfl (fun _ => by kernel_rfl) ?_
   ·refine gK 1 [(86, vP (L.b tk))] [] ?_
    refine NL ?_
    exact MD () [66, 67, 75, 79, 83, 86] [0, 1, 2, 3, 4, 5, 6, 7, 8]
   rintro _
   refine aH.cut (ι := Unit) (fr' := fun (_ : Unit) => (zT L tk c ++ lY c ++ [(87, .pointer (some ⟨(L.b tk), 2, none⟩))])) (hp' := fun (_ : Unit) => (j8 f m t S L tk cb c R ++ [KC L tk S c])) [6] rfl rfl ?_ rfl (fun _ => by kernel_rfl) ?_
   ·refine gK 1 [(87, .pointer (some ⟨(L.b tk), 2, none⟩))] [] ?_
    refine NL ?_
    exact MD () [66, 67, 75, 79, 83, 87] [0, 1, 2, 3, 4, 5, 6, 7, 8]
   rintro _
   refine mC [6] [] [(0, a_ 8 (L.b tk))] [(8, [(2, vI (c.uid))])] ?_
   refine aH.cut (ι := Unit) (fr' := fun (_ : Unit) => ([(67, vP (L.b tk))] ++ lY c ++ [(88, vP (L.b tk))])) (hp' := fun (_ : Unit) => (j8 f m t S L tk cb c R ++ [KD L tk S c])) [6] rfl rfl ?_ rfl (fun _ => by kernel_rfl) ?_
   ·refine gK 1 [(88, vP (L.b tk))] [] ?_
    refine NL ?_
    exact MD () [67, 79, 83, 88] [0, 1, 2, 3, 4, 5, 6, 7, 8]
   rintro _
   refine aH.cut (ι := Unit) (fr' := fun (_ : Unit) => ([(67, vP (L.b tk))] ++ lY c ++ [(89, .pointer (some ⟨(L.b tk), 3, none⟩))])) (hp' := fun (_ : Unit) => (j8 f m t S L tk cb c R ++ [KD L tk S c])) [6] rfl rfl ?_ rfl (fun _ => by kernel_rfl) ?_
   ·refine gK 1 [(89, .pointer (some ⟨(L.b tk), 3, none⟩))] [] ?_
    refine NL ?_
    exact MD () [67, 79, 83, 89] [0, 1, 2, 3, 4, 5, 6, 7, 8]
   rintro _
   refine mC [6] [] [(0, a_ 8 (L.b tk))] [(8, [(3, vI (c.gid))])] ?_
   refine aH.cut (ι := Unit) (fr' := fun (_ : Unit) => [(83, .agg #[vI (c.sec), vI (c.nano)]), (90, vP (L.b tk))]) (hp' := fun (_ : Unit) => (j8 f m t S L tk cb c R ++ [KE L tk S c])) [6] rfl rfl ?_ rfl (fun _ => by kernel_rfl) ?_
   ·refine gK 1 [(90, vP (L.b tk))] [] ?_
    refine NL ?_
    exact MD () [83, 90] [0, 1, 2, 3, 4, 5, 6, 7, 8]
   rintro _
   refine aH.cut (ι := Unit) (fr' := fun (_ : Unit) => (JB c L tk)) (hp' := fun (_ : Unit) => (j8 f m t S L tk cb c R ++ [KE L tk S c])) [6] rfl rfl ?_ rfl (fun _ => by kernel_rfl) ?_
   ·refine gK 1 [(91, .pointer (some ⟨(L.b tk), 4, none⟩))] [] ?_
    refine NL ?_
    exact MD () [83, 91] [0, 1, 2, 3, 4, 5, 6, 7, 8]
   rintro _
   refine aH.last rfl rfl ?_
   refine gC 1 [] [(0, A_ 8 (L.b tk) 2)] [(8, [(4, vI (c.sec)), (5, vI (c.nano))])] ?_
   refine NL (ai.np (NX (SR ?_)))
   refine aj.mem (aP := [.abs (ak (aN (ay S.O tk (fun o => { o with mode := c.mode, uid := c.uid, gid := c.gid, sec := c.sec, nano := c.nano })) L)), .blk f [vI (S.X.cN), vI (S.X.cB), vI (S.X.cH), vI (S.X.cS), vI (S.X.cZ), .map (some m), vP t, vI (S.X.last), vI (S.X.ah), vI (S.X.used)] 86, .abs (aE Tryz.prog 3 m (aO (aK L S.idx)) S.idx.length), .abs (br 156 t S.X.cH S.av (aK L S.us)), .abs (ak (aY (ay S.O tk (fun o => { o with mode := c.mode, uid := c.uid, gid := c.gid, sec := c.sec, nano := c.nano })) L)), .abs (ak (bh (ay S.O tk (fun o => { o with mode := c.mode, uid := c.uid, gid := c.gid, sec := c.sec, nano := c.nano })) L)), .blk cb [vI (c.op), vI (c.handle), vI (c.other), .string c.name, .string c.text, .slice c.dA (c.data.length) (c.dC), vI (c.mode), vI (c.uid), vI (c.gid), vI (c.sec), vI (c.nano), vI (c.code), vI (c.answer)] 43, .abs R]) (fun w hS => by have h := hS.vr (O := S.O) (L := L) (i := 3) (j := 8) (idx := [0, 1, 2, 4, 5, 6, 7]) (k := tk) (f := (fun o => { o with mode := c.mode, uid := c.uid, gid := c.gid, sec := c.sec, nano := c.nano })) rfl (fun _ hx => mA hx) rfl (by kernel_rfl) rfl (by show (obj S.O tk).kind ≠ 0; rw [hkt]; decide) ((eH (o := (fun o => { o with mode := c.mode, uid := c.uid, gid := c.gid, sec := c.sec, nano := c.nano }) (obj S.O tk)) (hkt)).trans rfl) (by show kX (obj S.O tk).kind = _; rw [hkt]; rfl); rw [kQ (O := S.O) (k := tk) (f := (fun o => { o with mode := c.mode, uid := c.uid, gid := c.gid, sec := c.sec, nano := c.nano })) rfl rfl, kR (O := S.O) (k := tk) (f := (fun o => { o with mode := c.mode, uid := c.uid, gid := c.gid, sec := c.sec, nano := c.nano })) rfl rfl]; exact h) ?_
   have iQ : (obj (ay S.O tk (fun o => { o with mode := c.mode, uid := c.uid, gid := c.gid, sec := c.sec, nano := c.nano })) tk).kind = 1 := (iH (f := (fun o => { o with mode := c.mode, uid := c.uid, gid := c.gid, sec := c.sec, nano := c.nano })) (fun _ => rfl)).trans (hkt)
   generalize bO : (ay S.O tk (fun o => { o with mode := c.mode, uid := c.uid, gid := c.gid, sec := c.sec, nano := c.nano })) = bJ at iQ ⊢
   refine gK 1 [(4, vI 0)] [] ?_
   refine NN (af.ret ?_)
   exact RT (l := [pF f m t S.X, pI m L S.idx, jY t S L, pO bJ L, pD bJ L, pE bJ L, pC cb c]) (.int .i64 0) [1, 2, 3, 0, 4, 5, 6, 7] (⟨L, by subst bO; rw [show (bF S c) = (0, { S with O := ay S.O tk (fun o => { o with mode := c.mode, uid := c.uid, gid := c.gid, sec := c.sec, nano := c.nano }) }, c) by unfold bF; rw [cK]; exact (if_neg (fun h => absurd h.2 (by simp))).trans ((if_pos ko).trans ((if_pos ⟨qU, qV⟩).trans (if_pos uN)))] <;> exact ⟨rfl, rfl⟩⟩)
  refine gK 5 [(25, .bool false)] [] ?_
  refine NN ?_
  refine CF ?_
  refine SR ?_
  refine gK 4 [(39, vI (c.mode))] [(3, a_ 6 cb)] ?_
  refine gL [] (ef (c.mode) 4095) ?_
  rintro _ _ ⟨rfl, rfl⟩
  refine gK 2 [(35, .bool (!(decide (0 ≤ c.mode ∧ c.mode ≤ 4095))))] [] ?_
  refine NN ?_
  refine af.ct (p := 0 ≤ c.mode ∧ c.mode ≤ 4095) (fun _ => by kernel_rfl) (fun ko => ?_) (fun ko => ?_)
  ·refine SR ?_
   refine gK 1 [(4, vI 120)] [] ?_
   refine NN (af.ret (ai.aF (ai.aq ?_)))
   exact RT (vI 120) [0, 1, 2, 3, 4, 5, 6, 7] (⟨L, by rw [show (bF S c) = (120, S, c) by unfold bF; rw [cK]; exact (if_neg (fun h => absurd h.2 (by simp))).trans (if_neg ko)] <;> exact ⟨rfl, rfl⟩⟩)
  refine SR ?_
  refine gK 4 [(46, vI (c.uid))] [(3, a_ 6 cb)] ?_
  refine gL [] (ef (c.uid) 2147483647) ?_
  rintro _ _ ⟨rfl, rfl⟩
  refine gK 2 [(49, .bool (!(decide (0 ≤ c.uid ∧ c.uid ≤ 2147483647))))] [] ?_
  refine aj.fM 49 (0 ≤ c.uid ∧ c.uid ≤ 2147483647) (fun _ => by kernel_rfl) (fun qU => ?_) (fun qU => ?_)
  ·refine gK 8 [(42, .bool true)] [] ?_
   refine NN ?_
   refine CT ?_
   refine SR ?_
   refine gK 1 [(4, vI 11)] [] ?_
   refine NN (af.ret (ai.aF (ai.aq ?_)))
   exact RT (vI 11) [0, 1, 2, 3, 4, 5, 6, 7] (⟨L, by rw [show (bF S c) = (11, S, c) by unfold bF; rw [cK]; exact (if_neg (fun h => absurd h.2 (by simp))).trans ((if_pos ko).trans (if_neg (fun h => qU h.1)))] <;> exact ⟨rfl, rfl⟩⟩)
  refine gK 4 [(53, vI (c.gid))] [(3, a_ 6 cb)] ?_
  refine gL [] (ef (c.gid) 2147483647) ?_
  rintro _ _ ⟨rfl, rfl⟩
  refine gK 3 [(42, .bool (!(decide (0 ≤ c.gid ∧ c.gid ≤ 2147483647))))] [] ?_
  refine NN ?_
  refine af.ct (p := 0 ≤ c.gid ∧ c.gid ≤ 2147483647) (fun _ => by kernel_rfl) (fun qV => ?_) (fun qV => ?_)
  ·refine SR ?_
   refine gK 1 [(4, vI 11)] [] ?_
   refine NN (af.ret (ai.aF (ai.aq ?_)))
   exact RT (vI 11) [0, 1, 2, 3, 4, 5, 6, 7] (⟨L, by rw [show (bF S c) = (11, S, c) by unfold bF; rw [cK]; exact (if_neg (fun h => absurd h.2 (by simp))).trans ((if_pos ko).trans (if_neg (fun h => qV h.2)))] <;> exact ⟨rfl, rfl⟩⟩)
  refine SR ?_
  refine gK 4 [(61, .agg #[vI (c.sec), vI (c.nano)])] [(3, A_ 6 cb 2)] ?_
  refine gL [] (fT c.sec c.nano) ?_
  rintro _ _ ⟨rfl, rfl⟩
  refine gK 2 [(57, .bool (!(decide (cT c.sec c.nano))))] [] ?_
  refine NN ?_
  refine af.ct (p := cT c.sec c.nano) (fun _ => by kernel_rfl) (fun uN => ?_) (fun uN => ?_)
  ·refine SR ?_
   refine gK 1 [(4, vI 20)] [] ?_
   refine NN (af.ret (ai.aF (ai.aq ?_)))
   exact RT (vI 20) [0, 1, 2, 3, 4, 5, 6, 7] (⟨L, by rw [show (bF S c) = (20, S, c) by unfold bF; rw [cK]; exact (if_neg (fun h => absurd h.2 (by simp))).trans ((if_pos ko).trans ((if_pos ⟨qU, qV⟩).trans (if_neg uN)))] <;> exact ⟨rfl, rfl⟩⟩)
  refine af.skip (ai.aL (NX (af.seq ?_)))
  skip
  refine af.mem (aP := [.blk f [vI (S.X.cN), vI (S.X.cB), vI (S.X.cH), vI (S.X.cS), vI (S.X.cZ), .map (some m), vP t, vI (S.X.last), vI (S.X.ah), vI (S.X.used)] 86, .abs (aE Tryz.prog 3 m (aO (aK L S.idx)) S.idx.length), .abs (br 156 t S.X.cH S.av (aK L S.us)), .abs (ak (iO (aN S.O L) tk bT.none)), .abs (ak (aY S.O L)), .abs (ak (bh S.O L)), .blk cb [vI (c.op), vI (c.handle), vI (c.other), .string c.name, .string c.text, .slice c.dA (c.data.length) (c.dC), vI (c.mode), vI (c.uid), vI (c.gid), vI (c.sec), vI (c.nano), vI (c.code), vI (c.answer)] 43, .abs R, .blk (L.b tk) [vI ((obj S.O tk).id), vI ((obj S.O tk).mode), vI ((obj S.O tk).uid), vI ((obj S.O tk).gid), vI ((obj S.O tk).sec), vI ((obj S.O tk).nano), vI ((obj S.O tk).links), vI ((obj S.O tk).opens), .bool (obj S.O tk).gone, .slice (L.dA tk) ((obj S.O tk).data.length) ((L.dC tk))] 92]) (fun w hS => hS.uj (i := 3) (k := tk) rfl (by rw [hkt]; decide) (eH (hkt)) (by rw [hkt]; rfl)) ?_
  refine af.ck (S := [pC cb c]) [0, 1, 2, 3, 4, 5, 6, 7, 8, 9, 10, 11, 12, 13, 14, 15, 16, 17, 18, 19, 20, 21, 22, 23, 24, 25, 26, 27, 28, 29, 30, 31] 22 [6] (by kernel_rfl) (by kernel_rfl) rfl (by kernel_rfl) ?_
  refine aH.reads (r := 0) (l := [22, 23, 24, 25, 26, 27, 28, 29, 30, 31]) (fr' := (JA L tk c ++ lY c ++ [(85, .pointer (some ⟨(L.b tk), 1, none⟩))])) (aU := [cb = cb, cb = cb, cb = cb, cb = cb, cb = cb]) [0, 1, 2, 3, 4, 5, 6, 7, 8, 9, 10, 11, 12, 13, 14, 15, 16, 17, 18, 19, 20, 21] [o_, o_, o_, o_, o_, o_, o_, ⟨[.at 0], none, none, none, none⟩, o_, o_, o_, ⟨[.at 0], none, none, none, none⟩, o_, o_, o_, ⟨[.at 0], none, none, none, none⟩, o_, o_, o_, ⟨[.at 0, .at 0], none, none, none, none⟩, o_, o_] [65, 66, 67, 71, 75, 79, 83, 85] (fun _ => by kernel_rfl) ⟨rfl, rfl, rfl, rfl, rfl, trivial⟩ rfl rfl ?_
  refine mC [6] [] [(0, a_ 8 (L.b tk))] [(8, [(1, vI (c.mode))])] ?_
  refine aH.cut (ι := Unit) (fr' := fun (_ : Unit) => (zT L tk c ++ lY c ++ [(86, vP (L.b tk))])) (hp' := fun (_ : Unit) => (j8 f m t S L tk cb c R ++ [KC L tk S c])) [6] rfl rfl ?_ rfl (fun _ => by kernel_rfl) ?_
  ·refine gK 1 [(86, vP (L.b tk))] [] ?_
   refine NL ?_
   exact MD () [66, 67, 75, 79, 83, 86] [0, 1, 2, 3, 4, 5, 6, 7, 8]
  rintro _
  refine aH.cut (ι := Unit) (fr' := fun (_ : Unit) => (zT L tk c ++ lY c ++ [(87, .pointer (some ⟨(L.b tk), 2, none⟩))])) (hp' := fun (_ : Unit) => (j8 f m t S L tk cb c R ++ [KC L tk S c])) [6] rfl rfl ?_ rfl (fun _ => by kernel_rfl) ?_
  ·refine gK 1 [(87, .pointer (some ⟨(L.b tk), 2, none⟩))] [] ?_
   refine NL ?_
   exact MD () [66, 67, 75, 79, 83, 87] [0, 1, 2, 3, 4, 5, 6, 7, 8]
  rintro _
  refine mC [6] [] [(0, a_ 8 (L.b tk))] [(8, [(2, vI (c.uid))])] ?_
  refine aH.cut (ι := Unit) (fr' := fun (_ : Unit) => ([(67, vP (L.b tk))] ++ lY c ++ [(88, vP (L.b tk))])) (hp' := fun (_ : Unit) => (j8 f m t S L tk cb c R ++ [KD L tk S c])) [6] rfl rfl ?_ rfl (fun _ => by kernel_rfl) ?_
  ·refine gK 1 [(88, vP (L.b tk))] [] ?_
   refine NL ?_
   exact MD () [67, 79, 83, 88] [0, 1, 2, 3, 4, 5, 6, 7, 8]
  rintro _
  refine aH.cut (ι := Unit) (fr' := fun (_ : Unit) => ([(67, vP (L.b tk))] ++ lY c ++ [(89, .pointer (some ⟨(L.b tk), 3, none⟩))])) (hp' := fun (_ : Unit) => (j8 f m t S L tk cb c R ++ [KD L tk S c])) [6] rfl rfl ?_ rfl (fun _ => by kernel_rfl) ?_
  ·refine gK 1 [(89, .pointer (some ⟨(L.b tk), 3, none⟩))] [] ?_
   refine NL ?_
   exact MD () [67, 79, 83, 89] [0, 1, 2, 3, 4, 5, 6, 7, 8]
  rintro _
  refine mC [6] [] [(0, a_ 8 (L.b tk))] [(8, [(3, vI (c.gid))])] ?_
  refine aH.cut (ι := Unit) (fr' := fun (_ : Unit) => [(83, .agg #[vI (c.sec), vI (c.nano)]), (90, vP (L.b tk))]) (hp' := fun (_ : Unit) => (j8 f m t S L tk cb c R ++ [KE L tk S c])) [6] rfl rfl ?_ rfl (fun _ => by kernel_rfl) ?_
  ·refine gK 1 [(90, vP (L.b tk))] [] ?_
   refine NL ?_
   exact MD () [83, 90] [0, 1, 2, 3, 4, 5, 6, 7, 8]
  rintro _
  refine aH.cut (ι := Unit) (fr' := fun (_ : Unit) => (JB c L tk)) (hp' := fun (_ : Unit) => (j8 f m t S L tk cb c R ++ [KE L tk S c])) [6] rfl rfl ?_ rfl (fun _ => by kernel_rfl) ?_
  ·refine gK 1 [(91, .pointer (some ⟨(L.b tk), 4, none⟩))] [] ?_
   refine NL ?_
   exact MD () [83, 91] [0, 1, 2, 3, 4, 5, 6, 7, 8]
  rintro _
  refine aH.last rfl rfl ?_
  refine gC 1 [] [(0, A_ 8 (L.b tk) 2)] [(8, [(4, vI (c.sec)), (5, vI (c.nano))])] ?_
  refine NL (ai.np (NX (SR ?_)))
  refine aj.mem (aP := [.abs (ak (aN (ay S.O tk (fun o => { o with mode := c.mode, uid := c.uid, gid := c.gid, sec := c.sec, nano := c.nano })) L)), .blk f [vI (S.X.cN), vI (S.X.cB), vI (S.X.cH), vI (S.X.cS), vI (S.X.cZ), .map (some m), vP t, vI (S.X.last), vI (S.X.ah), vI (S.X.used)] 86, .abs (aE Tryz.prog 3 m (aO (aK L S.idx)) S.idx.length), .abs (br 156 t S.X.cH S.av (aK L S.us)), .abs (ak (aY (ay S.O tk (fun o => { o with mode := c.mode, uid := c.uid, gid := c.gid, sec := c.sec, nano := c.nano })) L)), .abs (ak (bh (ay S.O tk (fun o => { o with mode := c.mode, uid := c.uid, gid := c.gid, sec := c.sec, nano := c.nano })) L)), .blk cb [vI (c.op), vI (c.handle), vI (c.other), .string c.name, .string c.text, .slice c.dA (c.data.length) (c.dC), vI (c.mode), vI (c.uid), vI (c.gid), vI (c.sec), vI (c.nano), vI (c.code), vI (c.answer)] 43, .abs R]) (fun w hS => by have h := hS.vr (O := S.O) (L := L) (i := 3) (j := 8) (idx := [0, 1, 2, 4, 5, 6, 7]) (k := tk) (f := (fun o => { o with mode := c.mode, uid := c.uid, gid := c.gid, sec := c.sec, nano := c.nano })) rfl (fun _ hx => mA hx) rfl (by kernel_rfl) rfl (by show (obj S.O tk).kind ≠ 0; rw [hkt]; decide) ((eH (o := (fun o => { o with mode := c.mode, uid := c.uid, gid := c.gid, sec := c.sec, nano := c.nano }) (obj S.O tk)) (hkt)).trans rfl) (by show kX (obj S.O tk).kind = _; rw [hkt]; rfl); rw [kQ (O := S.O) (k := tk) (f := (fun o => { o with mode := c.mode, uid := c.uid, gid := c.gid, sec := c.sec, nano := c.nano })) rfl rfl, kR (O := S.O) (k := tk) (f := (fun o => { o with mode := c.mode, uid := c.uid, gid := c.gid, sec := c.sec, nano := c.nano })) rfl rfl]; exact h) ?_
  have kD : (obj (ay S.O tk (fun o => { o with mode := c.mode, uid := c.uid, gid := c.gid, sec := c.sec, nano := c.nano })) tk).kind = 1 := (iH (f := (fun o => { o with mode := c.mode, uid := c.uid, gid := c.gid, sec := c.sec, nano := c.nano })) (fun _ => rfl)).trans (hkt)
  generalize bO : (ay S.O tk (fun o => { o with mode := c.mode, uid := c.uid, gid := c.gid, sec := c.sec, nano := c.nano })) = bJ at kD ⊢
  refine gK 1 [(4, vI 0)] [] ?_
  refine NN (af.ret ?_)
  exact RT (l := [pF f m t S.X, pI m L S.idx, jY t S L, pO bJ L, pD bJ L, pE bJ L, pC cb c]) (.int .i64 0) [1, 2, 3, 0, 4, 5, 6, 7] (⟨L, by subst bO; rw [show (bF S c) = (0, { S with O := ay S.O tk (fun o => { o with mode := c.mode, uid := c.uid, gid := c.gid, sec := c.sec, nano := c.nano }) }, c) by unfold bF; rw [cK]; exact (if_neg (fun h => absurd h.2 (by simp))).trans ((if_pos ko).trans ((if_pos ⟨qU, qV⟩).trans (if_pos uN)))] <;> exact ⟨rfl, rfl⟩⟩)
 have hkt : (obj S.O tk).kind = 2 := hI.kind hlv
 refine af.region ?_
 refine gK 1 [] [] ?_
 refine NN (af.seq ?_)
 refine af.bC (by kernel_rfl) (by kernel_rfl) ?_
 refine gQ 8 (JC t c) [(3, a_ 0 f), (7, a_ 6 cb)] ?_
 refine aR.call (f := 136) (args := #[vP t, vI (c.handle)]) (d := (some 17)) (pre := [jY t S L]) (R := (oH f m t S L cb c R)) (pk := [2, 0, 1, 3, 4, 5, 6, 7]) (gJ := [1, 2, 0, 3, 4, 5, 6, 7]) (v0 := .tuple #[.iface 96 (vP (L.b tk)), vI 0]) (fun _ => by kernel_rfl) (jR t S.X.cH S.av (aK L S.us) c.handle hC.hw (cO L ⟨tk, 2⟩) (ji cK)) rfl (by kernel_rfl) rfl (by kernel_rfl) (fun _ _ h => h) ?_
 refine gQ 5 (Fy L tk) [] ?_
 refine NQ (NX (af.seq (SR ?_)))
 refine gK 2 [(21, .bool false)] [] ?_
 refine NN ?_
 refine CF ?_
 refine af.skip (NX (SR ?_))
 refine gK 1 [(23, .iface 96 (vP (L.b tk)))] [] ?_
 refine gL [] (cu (L.b tk)) ?_
 rintro _ _ ⟨rfl, rfl⟩
 refine gK 1 [(7, vP (L.b tk))] [] ?_
 refine NN (af.seq (af.block (SR ?_)))
 refine gK 5 [(30, .bool (obj S.O tk).gone)] [(3, v_ 3 (lC L hkt))] ?_
 refine aj.lJ 30 (obj S.O tk).gone (fun _ => by kernel_rfl) (fun kE => ?_) (fun kE => ?_)
 ·refine gK 1 [(31, .iface 96 (vP (L.b tk)))] [] ?_
  refine gL [] (jU (vP (L.b tk))) ?_
  rintro _ _ ⟨rfl, rfl⟩
  refine gK 3 [(25, .bool true)] [] ?_
  refine NN ?_
  refine CT ?_
  refine SR ?_
  refine gK 1 [(4, vI 170)] [] ?_
  refine NN (af.ret (ai.aF (ai.aq ?_)))
  exact RT (vI 170) [0, 1, 2, 3, 4, 5, 6, 7] (⟨L, by rw [show (bF S c) = (170, S, c) by unfold bF; rw [cK]; exact if_pos ⟨kE, rfl⟩] <;> exact ⟨rfl, rfl⟩⟩)
 refine gK 5 [(25, .bool false)] [] ?_
 refine NN ?_
 refine CF ?_
 refine SR ?_
 refine gK 4 [(39, vI (c.mode))] [(3, a_ 6 cb)] ?_
 refine gL [] (ef (c.mode) 4095) ?_
 rintro _ _ ⟨rfl, rfl⟩
 refine gK 2 [(35, .bool (!(decide (0 ≤ c.mode ∧ c.mode ≤ 4095))))] [] ?_
 refine NN ?_
 refine af.ct (p := 0 ≤ c.mode ∧ c.mode ≤ 4095) (fun _ => by kernel_rfl) (fun ko => ?_) (fun ko => ?_)
 ·refine SR ?_
  refine gK 1 [(4, vI 120)] [] ?_
  refine NN (af.ret (ai.aF (ai.aq ?_)))
  exact RT (vI 120) [0, 1, 2, 3, 4, 5, 6, 7] (⟨L, by rw [show (bF S c) = (120, S, c) by unfold bF; rw [cK]; exact (if_neg (fun h => absurd h.1 (by rw [kE]; decide))).trans (if_neg ko)] <;> exact ⟨rfl, rfl⟩⟩)
 refine SR ?_
 refine gK 4 [(46, vI (c.uid))] [(3, a_ 6 cb)] ?_
 refine gL [] (ef (c.uid) 2147483647) ?_
 rintro _ _ ⟨rfl, rfl⟩
 refine gK 2 [(49, .bool (!(decide (0 ≤ c.uid ∧ c.uid ≤ 2147483647))))] [] ?_
 refine aj.fM 49 (0 ≤ c.uid ∧ c.uid ≤ 2147483647) (fun _ => by kernel_rfl) (fun qU => ?_) (fun qU => ?_)
 ·refine gK 8 [(42, .bool true)] [] ?_
  refine NN ?_
  refine CT ?_
  refine SR ?_
  refine gK 1 [(4, vI 11)] [] ?_
  refine NN (af.ret (ai.aF (ai.aq ?_)))
  exact RT (vI 11) [0, 1, 2, 3, 4, 5, 6, 7] (⟨L, by rw [show (bF S c) = (11, S, c) by unfold bF; rw [cK]; exact (if_neg (fun h => absurd h.1 (by rw [kE]; decide))).trans ((if_pos ko).trans (if_neg (fun h => qU h.1)))] <;> exact ⟨rfl, rfl⟩⟩)
 refine gK 4 [(53, vI (c.gid))] [(3, a_ 6 cb)] ?_
 refine gL [] (ef (c.gid) 2147483647) ?_
 rintro _ _ ⟨rfl, rfl⟩
 refine gK 3 [(42, .bool (!(decide (0 ≤ c.gid ∧ c.gid ≤ 2147483647))))] [] ?_
 refine NN ?_
 refine af.ct (p := 0 ≤ c.gid ∧ c.gid ≤ 2147483647) (fun _ => by kernel_rfl) (fun qV => ?_) (fun qV => ?_)
 ·refine SR ?_
  refine gK 1 [(4, vI 11)] [] ?_
  refine NN (af.ret (ai.aF (ai.aq ?_)))
  exact RT (vI 11) [0, 1, 2, 3, 4, 5, 6, 7] (⟨L, by rw [show (bF S c) = (11, S, c) by unfold bF; rw [cK]; exact (if_neg (fun h => absurd h.1 (by rw [kE]; decide))).trans ((if_pos ko).trans (if_neg (fun h => qV h.2)))] <;> exact ⟨rfl, rfl⟩⟩)
 refine SR ?_
 refine gK 4 [(61, .agg #[vI (c.sec), vI (c.nano)])] [(3, A_ 6 cb 2)] ?_
 refine gL [] (fT c.sec c.nano) ?_
 rintro _ _ ⟨rfl, rfl⟩
 refine gK 2 [(57, .bool (!(decide (cT c.sec c.nano))))] [] ?_
 refine NN ?_
 refine af.ct (p := cT c.sec c.nano) (fun _ => by kernel_rfl) (fun uN => ?_) (fun uN => ?_)
 ·refine SR ?_
  refine gK 1 [(4, vI 20)] [] ?_
  refine NN (af.ret (ai.aF (ai.aq ?_)))
  exact RT (vI 20) [0, 1, 2, 3, 4, 5, 6, 7] (⟨L, by rw [show (bF S c) = (20, S, c) by unfold bF; rw [cK]; exact (if_neg (fun h => absurd h.1 (by rw [kE]; decide))).trans ((if_pos ko).trans ((if_pos ⟨qU, qV⟩).trans (if_neg uN)))] <;> exact ⟨rfl, rfl⟩⟩)
 refine af.skip (ai.aL (NX (af.seq ?_)))
 skip
 refine af.mem (aP := [.blk f [vI (S.X.cN), vI (S.X.cB), vI (S.X.cH), vI (S.X.cS), vI (S.X.cZ), .map (some m), vP t, vI (S.X.last), vI (S.X.ah), vI (S.X.used)] 86, .abs (aE Tryz.prog 3 m (aO (aK L S.idx)) S.idx.length), .abs (br 156 t S.X.cH S.av (aK L S.us)), .abs (ak (iO (aN S.O L) tk bT.none)), .abs (ak (aY S.O L)), .abs (ak (bh S.O L)), .blk cb [vI (c.op), vI (c.handle), vI (c.other), .string c.name, .string c.text, .slice c.dA (c.data.length) (c.dC), vI (c.mode), vI (c.uid), vI (c.gid), vI (c.sec), vI (c.nano), vI (c.code), vI (c.answer)] 43, .abs R, .blk (L.b tk) [vI ((obj S.O tk).id), vI ((obj S.O tk).mode), vI ((obj S.O tk).uid), vI ((obj S.O tk).gid), vI ((obj S.O tk).sec), vI ((obj S.O tk).nano), vI ((obj S.O tk).links), vI ((obj S.O tk).opens), .bool (obj S.O tk).gone, .map (some (L.m tk)), (qK L (obj S.O tk).up)] 99]) (fun w hS => hS.uj (i := 3) (k := tk) rfl (by rw [hkt]; decide) (gV (hkt)) (by rw [hkt]; rfl)) ?_
 refine af.ck (S := [pC cb c]) [0, 1, 2, 3, 4, 5, 6, 7, 8, 9, 10, 11, 12, 13, 14, 15, 16, 17, 18, 19, 20, 21, 22, 23, 24, 25, 26, 27, 28, 29, 30, 31] 22 [6] (by kernel_rfl) (by kernel_rfl) rfl (by kernel_rfl) ?_
 refine aH.reads (r := 0) (l := [22, 23, 24, 25, 26, 27, 28, 29, 30, 31]) (fr' := (JA L tk c ++ lY c ++ [(85, .pointer (some ⟨(L.b tk), 1, none⟩))])) (aU := [cb = cb, cb = cb, cb = cb, cb = cb, cb = cb]) [0, 1, 2, 3, 4, 5, 6, 7, 8, 9, 10, 11, 12, 13, 14, 15, 16, 17, 18, 19, 20, 21] [o_, o_, o_, o_, o_, o_, o_, ⟨[.at 0], none, none, none, none⟩, o_, o_, o_, ⟨[.at 0], none, none, none, none⟩, o_, o_, o_, ⟨[.at 0], none, none, none, none⟩, o_, o_, o_, ⟨[.at 0, .at 0], none, none, none, none⟩, o_, o_] [65, 66, 67, 71, 75, 79, 83, 85] (fun _ => by kernel_rfl) ⟨rfl, rfl, rfl, rfl, rfl, trivial⟩ rfl rfl ?_
 refine mC [6] [] [(0, a_ 8 (L.b tk))] [(8, [(1, vI (c.mode))])] ?_
 refine aH.cut (ι := Unit) (fr' := fun (_ : Unit) => (zT L tk c ++ lY c ++ [(86, vP (L.b tk))])) (hp' := fun (_ : Unit) => (j8 f m t S L tk cb c R ++ [O3 L tk S c])) [6] rfl rfl ?_ rfl (fun _ => by kernel_rfl) ?_
 ·refine gK 1 [(86, vP (L.b tk))] [] ?_
  refine NL ?_
  exact MD () [66, 67, 75, 79, 83, 86] [0, 1, 2, 3, 4, 5, 6, 7, 8]
 rintro _
 refine aH.cut (ι := Unit) (fr' := fun (_ : Unit) => (zT L tk c ++ lY c ++ [(87, .pointer (some ⟨(L.b tk), 2, none⟩))])) (hp' := fun (_ : Unit) => (j8 f m t S L tk cb c R ++ [O3 L tk S c])) [6] rfl rfl ?_ rfl (fun _ => by kernel_rfl) ?_
 ·refine gK 1 [(87, .pointer (some ⟨(L.b tk), 2, none⟩))] [] ?_
  refine NL ?_
  exact MD () [66, 67, 75, 79, 83, 87] [0, 1, 2, 3, 4, 5, 6, 7, 8]
 rintro _
 refine mC [6] [] [(0, a_ 8 (L.b tk))] [(8, [(2, vI (c.uid))])] ?_
 refine aH.cut (ι := Unit) (fr' := fun (_ : Unit) => ([(67, vP (L.b tk))] ++ lY c ++ [(88, vP (L.b tk))])) (hp' := fun (_ : Unit) => (j8 f m t S L tk cb c R ++ [O4 L tk S c])) [6] rfl rfl ?_ rfl (fun _ => by kernel_rfl) ?_
 ·refine gK 1 [(88, vP (L.b tk))] [] ?_
  refine NL ?_
  exact MD () [67, 79, 83, 88] [0, 1, 2, 3, 4, 5, 6, 7, 8]
 rintro _
 refine aH.cut (ι := Unit) (fr' := fun (_ : Unit) => ([(67, vP (L.b tk))] ++ lY c ++ [(89, .pointer (some ⟨(L.b tk), 3, none⟩))])) (hp' := fun (_ : Unit) => (j8 f m t S L tk cb c R ++ [O4 L tk S c])) [6] rfl rfl ?_ rfl (fun _ => by kernel_rfl) ?_
 ·refine gK 1 [(89, .pointer (some ⟨(L.b tk), 3, none⟩))] [] ?_
  refine NL ?_
  exact MD () [67, 79, 83, 89] [0, 1, 2, 3, 4, 5, 6, 7, 8]
 rintro _
 refine mC [6] [] [(0, a_ 8 (L.b tk))] [(8, [(3, vI (c.gid))])] ?_
 refine aH.cut (ι := Unit) (fr' := fun (_ : Unit) => [(83, .agg #[vI (c.sec), vI (c.nano)]), (90, vP (L.b tk))]) (hp' := fun (_ : Unit) => (j8 f m t S L tk cb c R ++ [O5 L tk S c])) [6] rfl rfl ?_ rfl (fun _ => by kernel_rfl) ?_
 ·refine gK 1 [(90, vP (L.b tk))] [] ?_
  refine NL ?_
  exact MD () [83, 90] [0, 1, 2, 3, 4, 5, 6, 7, 8]
 rintro _
 refine aH.cut (ι := Unit) (fr' := fun (_ : Unit) => (JB c L tk)) (hp' := fun (_ : Unit) => (j8 f m t S L tk cb c R ++ [O5 L tk S c])) [6] rfl rfl ?_ rfl (fun _ => by kernel_rfl) ?_
 ·refine gK 1 [(91, .pointer (some ⟨(L.b tk), 4, none⟩))] [] ?_
  refine NL ?_
  exact MD () [83, 91] [0, 1, 2, 3, 4, 5, 6, 7, 8]
 rintro _
 refine aH.last rfl rfl ?_
 refine gC 1 [] [(0, A_ 8 (L.b tk) 2)] [(8, [(4, vI (c.sec)), (5, vI (c.nano))])] ?_
 refine NL (ai.np (NX (SR ?_)))
 refine aj.mem (aP := [.abs (ak (aN (ay S.O tk (fun o => { o with mode := c.mode, uid := c.uid, gid := c.gid, sec := c.sec, nano := c.nano })) L)), .blk f [vI (S.X.cN), vI (S.X.cB), vI (S.X.cH), vI (S.X.cS), vI (S.X.cZ), .map (some m), vP t, vI (S.X.last), vI (S.X.ah), vI (S.X.used)] 86, .abs (aE Tryz.prog 3 m (aO (aK L S.idx)) S.idx.length), .abs (br 156 t S.X.cH S.av (aK L S.us)), .abs (ak (aY (ay S.O tk (fun o => { o with mode := c.mode, uid := c.uid, gid := c.gid, sec := c.sec, nano := c.nano })) L)), .abs (ak (bh (ay S.O tk (fun o => { o with mode := c.mode, uid := c.uid, gid := c.gid, sec := c.sec, nano := c.nano })) L)), .blk cb [vI (c.op), vI (c.handle), vI (c.other), .string c.name, .string c.text, .slice c.dA (c.data.length) (c.dC), vI (c.mode), vI (c.uid), vI (c.gid), vI (c.sec), vI (c.nano), vI (c.code), vI (c.answer)] 43, .abs R]) (fun w hS => by have h := hS.vr (O := S.O) (L := L) (i := 3) (j := 8) (idx := [0, 1, 2, 4, 5, 6, 7]) (k := tk) (f := (fun o => { o with mode := c.mode, uid := c.uid, gid := c.gid, sec := c.sec, nano := c.nano })) rfl (fun _ hx => mA hx) rfl (by kernel_rfl) rfl (by show (obj S.O tk).kind ≠ 0; rw [hkt]; decide) ((gV (o := (fun o => { o with mode := c.mode, uid := c.uid, gid := c.gid, sec := c.sec, nano := c.nano }) (obj S.O tk)) (hkt)).trans rfl) (by show kX (obj S.O tk).kind = _; rw [hkt]; rfl); rw [kQ (O := S.O) (k := tk) (f := (fun o => { o with mode := c.mode, uid := c.uid, gid := c.gid, sec := c.sec, nano := c.nano })) rfl rfl, kR (O := S.O) (k := tk) (f := (fun o => { o with mode := c.mode, uid := c.uid, gid := c.gid, sec := c.sec, nano := c.nano })) rfl rfl]; exact h) ?_
 have zN : (obj (ay S.O tk (fun o => { o with mode := c.mode, uid := c.uid, gid := c.gid, sec := c.sec, nano := c.nano })) tk).kind = 2 := (iH (f := (fun o => { o with mode := c.mode, uid := c.uid, gid := c.gid, sec := c.sec, nano := c.nano })) (fun _ => rfl)).trans (hkt)
 generalize bO : (ay S.O tk (fun o => { o with mode := c.mode, uid := c.uid, gid := c.gid, sec := c.sec, nano := c.nano })) = bJ at zN ⊢
 refine gK 1 [(4, vI 0)] [] ?_
 refine NN (af.ret ?_)
 exact RT (l := [pF f m t S.X, pI m L S.idx, jY t S L, pO bJ L, pD bJ L, pE bJ L, pC cb c]) (.int .i64 0) [1, 2, 3, 0, 4, 5, 6, 7] (⟨L, by subst bO; rw [show (bF S c) = (0, { S with O := ay S.O tk (fun o => { o with mode := c.mode, uid := c.uid, gid := c.gid, sec := c.sec, nano := c.nano }) }, c) by unfold bF; rw [cK]; exact (if_neg (fun h => absurd h.1 (by rw [kE]; decide))).trans ((if_pos ko).trans ((if_pos ⟨qU, qV⟩).trans (if_pos uN)))] <;> exact ⟨rfl, rfl⟩⟩)
theorem C6 {β : Bs} (S : aG) (L : HL) (f m t : Nat) (hI : Inv S) (cb : Nat) (c : aS) (hC : fJ β c) :
    Spec Tryz.prog β 82 #[vP f, vP cb] ((pA f m t L S) ++ [pC cb c]) (fun v l => ∃ L2, v = vI (dr S c).1 ∧ l = ((pA f m t L2 ((dr S c).2.1)) ++ [.blk cb (fZ ((dr S c).2.2)) 43])) := by
 have hX := hI.hX
 refine Spec.enter Tryz.func82 rfl Tryz.ntmps82 (Nat.le_of_ble_eq_true rfl) (fun R => ?_)
 refine SR ?_
 refine gK 1 [] [] ?_
 refine NN (af.seq ?_)
 refine af.bC (by kernel_rfl) (by kernel_rfl) ?_
 refine gQ 9 [(10, vP f), (14, vI (c.handle)), (18, .string c.name)] [(4, a_ 6 cb), (8, a_ 6 cb)] ?_
 rcases jA hI.toInv0 c.handle c.name 192 with ⟨e, hab, hne⟩ | ⟨d, hab, hd, gy, hgn, cK⟩
 ·refine aR.call (f := 134) (args := #[vP f, vI (c.handle), .string c.name, vI 192]) (d := (some 19)) (pre := [pF f m t S.X, jY t S L, pO S.O L]) (R := (mG m L S cb c R)) (pk := [0, 2, 3, 1, 4, 5, 6, 7]) (gJ := [0, 3, 1, 2, 4, 5, 6, 7]) (v0 := .tuple #[.pointer none, vI (e)]) (fun _ => by kernel_rfl) ((by have h := dg S L f m t hI c.handle hC.hw c.name hC.nm 192 (β := β); rw [hab] at h; exact h)) rfl (by kernel_rfl) rfl (by kernel_rfl) (fun _ _ h => h) ?_
  refine gQ 5 [(5, .pointer none), (6, vI (e))] [] ?_
  refine NQ (NX (af.seq (SR ?_)))
  refine gK 2 [(23, .bool (!(decide ((e : Int) = (0 : Int)))))] [] ?_
  refine NN ?_
  refine af.ct (p := (e : Int) = (0 : Int)) (fun _ => by kernel_rfl) (fun h23 => ?_) (fun h23 => ?_)
  ·refine SR ?_
   refine gK 2 [(4, vI (e))] [] ?_
   refine NN (af.ret (ai.aq ?_))
   exact RT (vI (e)) [0, 1, 2, 3, 4, 5, 6, 7] (⟨L, by rw [show (dr S c) = (e, S, c) by unfold dr; rw [hab]] <;> exact ⟨rfl, rfl⟩⟩)
  exact absurd h23 hne
 have hkd : (obj S.O d).kind = 2 := hI.kind hd
 refine aR.call (f := 134) (args := #[vP f, vI (c.handle), .string c.name, vI 192]) (d := (some 19)) (pre := [pF f m t S.X, jY t S L, pO S.O L]) (R := (mG m L S cb c R)) (pk := [0, 2, 3, 1, 4, 5, 6, 7]) (gJ := [0, 3, 1, 2, 4, 5, 6, 7]) (v0 := .tuple #[vP (L.b d), vI 0]) (fun _ => by kernel_rfl) ((by have h := dg S L f m t hI c.handle hC.hw c.name hC.nm 192 (β := β); rw [hab] at h; exact h)) rfl (by kernel_rfl) rfl (by kernel_rfl) (fun _ _ h => h) ?_
 refine gQ 5 (CZ L d) [] ?_
 refine NQ (NX (af.seq (SR ?_)))
 refine gK 2 [(23, .bool false)] [] ?_
 refine NN ?_
 refine CF ?_
 refine af.skip (NX (af.seq (SR ?_)))
 refine gK 4 [(28, vI (c.mode))] [(3, a_ 6 cb)] ?_
 refine gL [] (ef (c.mode) 4095) ?_
 rintro _ _ ⟨rfl, rfl⟩
 refine gK 1 [(30, .bool (!(decide (0 ≤ c.mode ∧ c.mode ≤ 4095))))] [] ?_
 refine NN ?_
 refine af.ct (p := 0 ≤ c.mode ∧ c.mode ≤ 4095) (fun _ => by kernel_rfl) (fun kE => ?_) (fun kE => ?_)
 ·refine SR ?_
  refine gK 1 [(4, vI 120)] [] ?_
  refine NN (af.ret (ai.aq ?_))
  exact RT (vI 120) [0, 1, 2, 3, 4, 5, 6, 7] (⟨L, by rw [show (dr S c) = (120, S, c) by unfold dr; rw [hab]; exact if_neg kE] <;> exact ⟨rfl, rfl⟩⟩)
 refine af.skip (NX (af.seq (SR ?_)))
 refine gK 6 [(31, vP f), (32, vP (L.b d)), (36, .string c.name)] [(5, a_ 6 cb)] ?_
 refine gL [0, 1, 5, 3] (qP S L f m t hI d hd c.name hC.nm) ?_
 rintro _ _ ⟨rfl, rfl⟩
 refine gK 1 [(6, vI ((bN S.X S.O S.idx d c.name)))] [] ?_
 refine NS ?_
 refine gK 2 [(39, .bool (!(decide (((bN S.X S.O S.idx d c.name) : Int) = (0 : Int)))))] [] ?_
 refine NN ?_
 refine af.ct (p := ((bN S.X S.O S.idx d c.name) : Int) = (0 : Int)) (fun _ => by kernel_rfl) (fun h0 => ?_) (fun h0 => ?_)
 ·refine SR ?_
  refine gK 2 [(4, vI ((bN S.X S.O S.idx d c.name)))] [] ?_
  refine NN (af.ret (ai.aq ?_))
  exact RT (vI ((bN S.X S.O S.idx d c.name))) [0, 1, 4, 3, 5, 2, 6, 7] (⟨L, by rw [show (dr S c) = (bN S.X S.O S.idx d c.name, S, c) by unfold dr; rw [hab]; exact (if_pos kE).trans (if_neg h0)] <;> exact ⟨rfl, rfl⟩⟩)
 have hno := mE h0
 refine af.skip (NX (SR ?_))
 refine gN 8 (fun b4 => [(7, vP b4)]) (fun b4 => [(3, a_ 6 cb)]) (fun _ => []) (fun b4 => .blk b4 [vI 0, vI (c.mode), vI 0, vI 0, vI 0, vI 0, vI 0, vI 0, .bool false, .slice none (0) (0)] 92) (fun b4 => ?_)
 refine NN (af.seq (af.seq ?_))
 rcases Int.lt_or_le (S.us.length : Int) S.X.cH with qQ | qQ
 ·refine af.region ?_
  refine gK 4 (MO cb f b4) [] ?_
  obtain ⟨L2, hL2⟩ : ∃ L2 : HL, L2 = L.put (aD S.X) b4 0 none 0 := ⟨_, rfl⟩
  have hfr := hI.toInv0.fresh
  refine aj.mem (aP := [.abs (ak (aN (ay S.O (aD S.X) (fun _ => (⟨0, c.mode, 0, 0, 0, 0, 0, 0, false, 1, [], ⟨#[]⟩, [], none⟩ : aM))) L2)), .blk f [vI (S.X.cN), vI (S.X.cB), vI (S.X.cH), vI (S.X.cS), vI (S.X.cZ), .map (some m), vP t, vI (S.X.last), vI (S.X.ah), vI (S.X.used)] 86, .abs (aE Tryz.prog 3 m (aO (aK L S.idx)) S.idx.length), .abs (ak (bh S.O L)), .abs (br 156 t S.X.cH S.av (aK L S.us)), .abs (ak (aY S.O L)), .blk cb [vI (c.op), vI (c.handle), vI (c.other), .string c.name, .string c.text, .slice c.dA (c.data.length) (c.dC), vI (c.mode), vI (c.uid), vI (c.gid), vI (c.sec), vI (c.nano), vI (c.code), vI (c.answer)] 43, .abs R]) (fun w hS => hS.qM hL2 hfr (o := (⟨0, c.mode, 0, 0, 0, 0, 0, 0, false, 1, [], ⟨#[]⟩, [], none⟩ : aM)) (i := 3) (j := 8) (ix := [0, 1, 2, 4, 5, 6, 7]) rfl rfl (by kernel_rfl) rfl (by show (1 : Int) ≠ 0; decide) ((eH (L := L2) (k := (aD S.X)) (o := (⟨0, c.mode, 0, 0, 0, 0, 0, 0, false, 1, [], ⟨#[]⟩, [], none⟩ : aM)) rfl).trans (by rw [show L2.dA (aD S.X) = none by rw [hL2]; exact if_pos rfl, show L2.dC (aD S.X) = 0 by rw [hL2]; exact if_pos rfl]; rfl)) rfl) ?_
  refine aj.mem (aP := (zU S c L2 f m t L ++ [pD S.O L, pC cb c, .abs R])) (fun w hS => hS.rW hL2 hfr (o := (⟨0, c.mode, 0, 0, 0, 0, 0, 0, false, 1, [], ⟨#[]⟩, [], none⟩ : aM)) (i := 3) rfl (by show (1 : Int) ≠ 2; decide)) ?_
  refine aj.mem (aP := (zU S c L2 f m t L ++ [pD S.O L, pC cb c, .abs R, .abs (aI 5 1 none 0 0 ([]))])) (fun w hS => hS.jX (e := 5) (size := 1)) ?_
  refine aj.mem (aP := ([MN S c L2] ++ zU S c L2 f m t L ++ [pC cb c, .abs R])) (fun w hS => hS.E0 hL2 (o := (⟨0, c.mode, 0, 0, 0, 0, 0, 0, false, 1, [], ⟨#[]⟩, [], none⟩ : aM)) (i := 5) (j := 8) (ix := [0, 1, 2, 3, 4, 6, 7]) rfl rfl (by kernel_rfl) rfl rfl rfl) ?_
  refine aj.mem (aP := [.abs (ak (aY (ay S.O (aD S.X) (fun _ => (⟨0, c.mode, 0, 0, 0, 0, 0, 0, false, 1, [], ⟨#[]⟩, [], none⟩ : aM))) L2)), .abs (ak (aN (ay S.O (aD S.X) (fun _ => (⟨0, c.mode, 0, 0, 0, 0, 0, 0, false, 1, [], ⟨#[]⟩, [], none⟩ : aM))) L2)), .blk f [vI (S.X.cN), vI (S.X.cB), vI (S.X.cH), vI (S.X.cS), vI (S.X.cZ), .map (some m), vP t, vI (S.X.last), vI (S.X.ah), vI (S.X.used)] 86, .abs (aE Tryz.prog 3 m (aO (aK L2 S.idx)) S.idx.length), .abs (ak (bh (ay S.O (aD S.X) (fun _ => (⟨0, c.mode, 0, 0, 0, 0, 0, 0, false, 1, [], ⟨#[]⟩, [], none⟩ : aM))) L2)), .abs (br 156 t S.X.cH S.av (aK L2 S.us)), .blk cb [vI (c.op), vI (c.handle), vI (c.other), .string c.name, .string c.text, .slice c.dA (c.data.length) (c.dC), vI (c.mode), vI (c.uid), vI (c.gid), vI (c.sec), vI (c.nano), vI (c.code), vI (c.answer)] 43, .abs R]) (fun w hS => by rw [fk hL2 hfr.idx, fk hL2 hfr.us]; exact hS) ?_
  refine gL (f := 132) (args := #[vP f, .iface 89 (vP b4)]) (pre := [pF f m t S.X, jY t S L2, ML S c L2]) [2, 5, 1] ((by have h := qo (β := β) { S with O := (ay S.O (aD S.X) (fun _ => (⟨0, c.mode, 0, 0, 0, 0, 0, 0, false, 1, [], ⟨#[]⟩, [], none⟩ : aM))) } L2 f m t ⟨(aD S.X), 1⟩ (by show (obj (ay S.O (aD S.X) (fun _ => (⟨0, c.mode, 0, 0, 0, 0, 0, 0, false, 1, [], ⟨#[]⟩, [], none⟩ : aM))) (aD S.X)).kind = 1; rw [bG]) (by simp) (by show 0 ≤ (obj (ay S.O (aD S.X) (fun _ => (⟨0, c.mode, 0, 0, 0, 0, 0, 0, false, 1, [], ⟨#[]⟩, [], none⟩ : aM))) (aD S.X)).opens ∧ (obj (ay S.O (aD S.X) (fun _ => (⟨0, c.mode, 0, 0, 0, 0, 0, 0, false, 1, [], ⟨#[]⟩, [], none⟩ : aM))) (aD S.X)).opens ≤ 1048576; rw [bG]; exact ⟨Int.le_refl _, by show (0 : Int) ≤ 1048576; decide⟩); rw [mD hL2, iz (S := { S with O := (ay S.O (aD S.X) (fun _ => (⟨0, c.mode, 0, 0, 0, 0, 0, 0, false, 1, [], ⟨#[]⟩, [], none⟩ : aM))) }) (t := ⟨(aD S.X), 1⟩) qQ] at h; exact h)) ?_
  rintro _ _ ⟨rfl, rfl⟩
  refine gC 7 [(6, vI 0)] [(5, a_ 6 cb)] [(6, [(12, vI ((TabM.least S.us)))])] ?_
  refine NS ?_
  refine gK 2 [(59, .bool false)] [] ?_
  refine NN ?_
  refine CF ?_
  refine af.skip (NX (SR ?_))
  refine aj.slot 7 (vP b4) (vP (L2.b (aD S.X))) (fun _ => by kernel_rfl) (by rw [yc hL2]) ?_
  refine aj.mem (aP := [.blk f [vI (S.X.cN), vI (S.X.cB), vI (S.X.cH), vI (S.X.cS), vI (S.X.cZ), .map (some m), vP t, vI (S.X.last), vI (S.X.ah), vI (S.X.used)] 86, .abs (br 156 t S.X.cH (max S.av ((S.us.length : Int) + 1)) (aK L2 (ins (TabM.least S.us) ⟨(aD S.X), 1⟩ S.us))), .abs (ak (aN (ay (ay S.O (aD S.X) (fun _ => (⟨0, c.mode, 0, 0, 0, 0, 0, 0, false, 1, [], ⟨#[]⟩, [], none⟩ : aM))) (aD S.X) (fun o => { o with opens := o.opens + 1 })) L2)), .abs (ak (aY (ay (ay S.O (aD S.X) (fun _ => (⟨0, c.mode, 0, 0, 0, 0, 0, 0, false, 1, [], ⟨#[]⟩, [], none⟩ : aM))) (aD S.X) (fun o => { o with opens := o.opens + 1 })) L2)), .abs (aE Tryz.prog 3 m (aO (aK L2 S.idx)) S.idx.length), .abs (ak (bh (ay (ay S.O (aD S.X) (fun _ => (⟨0, c.mode, 0, 0, 0, 0, 0, 0, false, 1, [], ⟨#[]⟩, [], none⟩ : aM))) (aD S.X) (fun o => { o with opens := o.opens + 1 })) L2)), .blk cb [vI (c.op), vI (c.handle), vI (c.other), .string c.name, .string c.text, .slice c.dA (c.data.length) (c.dC), vI (c.mode), vI (c.uid), vI (c.gid), vI (c.sec), vI (c.nano), vI (c.code), vI ((TabM.least S.us))] 43, .abs R]) (fun w hS => by rw [kQ (O := (ay S.O (aD S.X) (fun _ => (⟨0, c.mode, 0, 0, 0, 0, 0, 0, false, 1, [], ⟨#[]⟩, [], none⟩ : aM)))) (k := (aD S.X)) (f := (fun o => { o with opens := o.opens + 1 })) rfl rfl, kR (O := (ay S.O (aD S.X) (fun _ => (⟨0, c.mode, 0, 0, 0, 0, 0, 0, false, 1, [], ⟨#[]⟩, [], none⟩ : aM)))) (k := (aD S.X)) (f := (fun o => { o with opens := o.opens + 1 })) rfl rfl]; exact hS) ?_
  have hkN : (obj (ay (ay S.O (aD S.X) (fun _ => (⟨0, c.mode, 0, 0, 0, 0, 0, 0, false, 1, [], ⟨#[]⟩, [], none⟩ : aM))) (aD S.X) (fun o => { o with opens := o.opens + 1 })) (aD S.X)).kind = 1 := by rw [bG, bG]
  have O6 : (obj (ay (ay S.O (aD S.X) (fun _ => (⟨0, c.mode, 0, 0, 0, 0, 0, 0, false, 1, [], ⟨#[]⟩, [], none⟩ : aM))) (aD S.X) (fun o => { o with opens := o.opens + 1 })) (aD S.X)).opens = 1 := by rw [bG, bG]; rfl
  generalize bO : (ay (ay S.O (aD S.X) (fun _ => (⟨0, c.mode, 0, 0, 0, 0, 0, 0, false, 1, [], ⟨#[]⟩, [], none⟩ : aM))) (aD S.X) (fun o => { o with opens := o.opens + 1 })) = bJ at hkN O6 ⊢
  refine gK 6 [(8, vI ((obj bJ (aD S.X)).opens))] [(4, v_ 2 (iU L2 hkN))] ?_
  refine NS ?_
  refine gK 6 [(66, vP (L2.b (aD S.X))), (67, vP f), (71, vI (c.mode))] [(5, a_ 6 cb)] ?_
  refine gL [0] (qO S.X f m t hX c.mode) ?_
  rintro _ _ ⟨rfl, rfl⟩
  refine gK 2 [(74, vP (L2.b (aD S.X)))] [] ?_
  refine aj.mem (aP := [.blk f [vI (S.X.cN), vI (S.X.cB), vI (S.X.cH), vI (S.X.cS), vI (S.X.cZ), .map (some m), vP t, vI (S.X.last + 1), vI (S.X.ah), vI (S.X.used)] 86, .abs (br 156 t S.X.cH (max S.av ((S.us.length : Int) + 1)) (aK L2 (ins (TabM.least S.us) ⟨(aD S.X), 1⟩ S.us))), .abs (ak (iO (aN bJ L2) (aD S.X) bT.none)), .abs (ak (aY bJ L2)), .abs (aE Tryz.prog 3 m (aO (aK L2 S.idx)) S.idx.length), .abs (ak (bh bJ L2)), .blk cb [vI (c.op), vI (c.handle), vI (c.other), .string c.name, .string c.text, .slice c.dA (c.data.length) (c.dC), vI (c.mode), vI (c.uid), vI (c.gid), vI (c.sec), vI (c.nano), vI (c.code), vI ((TabM.least S.us))] 43, .abs R, .blk (L2.b (aD S.X)) [vI ((obj bJ (aD S.X)).id), vI ((obj bJ (aD S.X)).mode), vI ((obj bJ (aD S.X)).uid), vI ((obj bJ (aD S.X)).gid), vI ((obj bJ (aD S.X)).sec), vI ((obj bJ (aD S.X)).nano), vI ((obj bJ (aD S.X)).links), vI ((obj bJ (aD S.X)).opens), .bool (obj bJ (aD S.X)).gone, .slice (L2.dA (aD S.X)) ((obj bJ (aD S.X)).data.length) ((L2.dC (aD S.X)))] 92]) (fun w hS => hS.uj (i := 2) (k := (aD S.X)) rfl (by rw [hkN]; decide) (eH (hkN)) (by rw [hkN]; rfl)) ?_
  refine gC 1 [] [(0, A_ 8 (L2.b (aD S.X)) 9)] [(8, [(0, vI (S.X.last + 1)), (1, vI (c.mode)), (2, vI 0), (3, vI 0), (4, vI (S.X.cS)), (5, vI (S.X.cZ)), (6, vI 0), (7, vI 0), (8, .bool false)])] ?_
  refine aj.mem (aP := [.abs (ak (aN (ay bJ (aD S.X) (fun o => { o with id := S.X.last + 1, mode := c.mode, uid := 0, gid := 0, sec := S.X.cS, nano := S.X.cZ, links := 0, opens := 0, gone := false })) L2)), .blk f [vI (S.X.cN), vI (S.X.cB), vI (S.X.cH), vI (S.X.cS), vI (S.X.cZ), .map (some m), vP t, vI (S.X.last + 1), vI (S.X.ah), vI (S.X.used)] 86, .abs (br 156 t S.X.cH (max S.av ((S.us.length : Int) + 1)) (aK L2 (ins (TabM.least S.us) ⟨(aD S.X), 1⟩ S.us))), .abs (ak (aY (ay bJ (aD S.X) (fun o => { o with id := S.X.last + 1, mode := c.mode, uid := 0, gid := 0, sec := S.X.cS, nano := S.X.cZ, links := 0, opens := 0, gone := false })) L2)), .abs (aE Tryz.prog 3 m (aO (aK L2 S.idx)) S.idx.length), .abs (ak (bh (ay bJ (aD S.X) (fun o => { o with id := S.X.last + 1, mode := c.mode, uid := 0, gid := 0, sec := S.X.cS, nano := S.X.cZ, links := 0, opens := 0, gone := false })) L2)), .blk cb [vI (c.op), vI (c.handle), vI (c.other), .string c.name, .string c.text, .slice c.dA (c.data.length) (c.dC), vI (c.mode), vI (c.uid), vI (c.gid), vI (c.sec), vI (c.nano), vI (c.code), vI ((TabM.least S.us))] 43, .abs R]) (fun w hS => by have h := hS.vr (O := bJ) (L := L2) (i := 2) (j := 8) (idx := [0, 1, 3, 4, 5, 6, 7]) (k := (aD S.X)) (f := (fun o => { o with id := S.X.last + 1, mode := c.mode, uid := 0, gid := 0, sec := S.X.cS, nano := S.X.cZ, links := 0, opens := 0, gone := false })) rfl (fun _ hx => mA hx) rfl (by kernel_rfl) rfl (by show (obj bJ (aD S.X)).kind ≠ 0; rw [hkN]; decide) ((eH (o := (fun o => { o with id := S.X.last + 1, mode := c.mode, uid := 0, gid := 0, sec := S.X.cS, nano := S.X.cZ, links := 0, opens := 0, gone := false }) (obj bJ (aD S.X))) (hkN)).trans rfl) (by show kX (obj bJ (aD S.X)).kind = _; rw [hkN]; rfl); rw [kQ (O := bJ) (k := (aD S.X)) (f := (fun o => { o with id := S.X.last + 1, mode := c.mode, uid := 0, gid := 0, sec := S.X.cS, nano := S.X.cZ, links := 0, opens := 0, gone := false })) rfl rfl, kR (O := bJ) (k := (aD S.X)) (f := (fun o => { o with id := S.X.last + 1, mode := c.mode, uid := 0, gid := 0, sec := S.X.cS, nano := S.X.cZ, links := 0, opens := 0, gone := false })) rfl rfl]; exact h) ?_
  have uF : (obj (ay bJ (aD S.X) (fun o => { o with id := S.X.last + 1, mode := c.mode, uid := 0, gid := 0, sec := S.X.cS, nano := S.X.cZ, links := 0, opens := 0, gone := false })) (aD S.X)).kind = 1 := (iH (f := (fun o => { o with id := S.X.last + 1, mode := c.mode, uid := 0, gid := 0, sec := S.X.cS, nano := S.X.cZ, links := 0, opens := 0, gone := false })) (fun _ => rfl)).trans (hkN)
  generalize cA : (ay bJ (aD S.X) (fun o => { o with id := S.X.last + 1, mode := c.mode, uid := 0, gid := 0, sec := S.X.cS, nano := S.X.cZ, links := 0, opens := 0, gone := false })) = cY at uF ⊢
  refine NS ?_
  refine gK 5 [(76, vI ((obj bJ (aD S.X)).opens)), (79, .pointer (some ⟨(L2.b (aD S.X)), 7, none⟩))] [] ?_
  refine ql 0 [(5, 1), (3, 2)] (aD S.X) 7 (fun o => { o with opens := (obj bJ (aD S.X)).opens }) uF (fun r8 j6 => ?_)
  have Jr := ku j6 uF
  refine NS ?_
  have hfin : r8 = ay S.O (aD S.X) (fun _ => { aB S.X 1 c.mode with opens := 1 }) := by subst j6; subst cA; rw [O6]; subst bO; simp only [qJ]; rfl
  subst hfin
  show aj _ _ _ _ _ _ [pO (ay S.O (aD S.X) (fun _ => { aB S.X 1 c.mode with opens := 1 })) L2, yN f m t S, pT t S.X.cH (max S.av ((S.us.length : Int) + 1)) L2 (ins (TabM.least S.us) ⟨(aD S.X), 1⟩ S.us), pD (ay S.O (aD S.X) (fun _ => { aB S.X 1 c.mode with opens := 1 })) L2, pI m L2 S.idx, pE (ay S.O (aD S.X) (fun _ => { aB S.X 1 c.mode with opens := 1 })) L2, pC cb { c with answer := TabM.least S.us }, .abs R] _
  refine gK 8 [(80, vP f), (81, vP (L.b d)), (85, .string c.name), (87, .iface 89 (vP (L2.b (aD S.X))))] [(5, a_ 6 cb)] ?_
  refine gL (f := 56) (args := #[vP f, vP (L.b d), .string c.name, .iface 89 (vP (L2.b (aD S.X)))]) (pre := [yN f m t S, pI m L2 S.idx, pO (ay S.O (aD S.X) (fun _ => { aB S.X 1 c.mode with opens := 1 })) L2, pE (ay S.O (aD S.X) (fun _ => { aB S.X 1 c.mode with opens := 1 })) L2]) [1, 4, 0, 5] ((by have h := o9 (β := β) S L2 f m t hI.toInv0 d hd c.name hC.nm hno { aB S.X 1 c.mode with opens := 1 } rfl (by simp [aB]) rfl (nV h0); rw [sU hL2 (hI.rV hd)] at h; exact h)) ?_
  rintro _ _ ⟨rfl, rfl⟩
  refine NS ?_
  refine aj.mem (aP := [.blk f [vI ((addM S d c.name { aB S.X 1 c.mode with opens := 1 }).X.cN), vI ((addM S d c.name { aB S.X 1 c.mode with opens := 1 }).X.cB), vI ((addM S d c.name { aB S.X 1 c.mode with opens := 1 }).X.cH), vI ((addM S d c.name { aB S.X 1 c.mode with opens := 1 }).X.cS), vI ((addM S d c.name { aB S.X 1 c.mode with opens := 1 }).X.cZ), .map (some m), vP t, vI ((addM S d c.name { aB S.X 1 c.mode with opens := 1 }).X.last), vI ((addM S d c.name { aB S.X 1 c.mode with opens := 1 }).X.ah), vI ((addM S d c.name { aB S.X 1 c.mode with opens := 1 }).X.used)] 86, .abs (aE Tryz.prog 3 m (aO (aK L2 (addM S d c.name { aB S.X 1 c.mode with opens := 1 }).idx)) ((addM S d c.name { aB S.X 1 c.mode with opens := 1 }).idx.length)), .abs (ak (aN ((addM S d c.name { aB S.X 1 c.mode with opens := 1 }).O) L2)), .abs (ak (bh ((addM S d c.name { aB S.X 1 c.mode with opens := 1 }).O) L2)), .abs (br 156 t S.X.cH (max S.av ((S.us.length : Int) + 1)) (aK L2 (ins (TabM.least S.us) ⟨(aD S.X), 1⟩ S.us))), .abs (ak (aY ((addM S d c.name { aB S.X 1 c.mode with opens := 1 }).O) L2)), .blk cb [vI (c.op), vI (c.handle), vI (c.other), .string c.name, .string c.text, .slice c.dA (c.data.length) (c.dC), vI (c.mode), vI (c.uid), vI (c.gid), vI (c.sec), vI (c.nano), vI (c.code), vI ((TabM.least S.us))] 43, .abs R]) (fun w hS => by rw [show aY ((addM S d c.name { aB S.X 1 c.mode with opens := 1 }).O) L2 = aY (ay S.O (aD S.X) (fun _ => { aB S.X 1 c.mode with opens := 1 })) L2 from fI]; exact hS) ?_
  refine gK 1 [(4, vI 0)] [] ?_
  refine NN (af.ret ?_)
  exact RT (vI 0) [0, 1, 4, 2, 5, 3, 6, 7] (⟨L2, by rw [show (dr S c) = (0, (addM { S with us := (ins (TabM.least S.us) ⟨(aD S.X), 1⟩ S.us), av := (max S.av ((S.us.length : Int) + 1)) } d c.name { aB S.X 1 c.mode with opens := 1 }), { c with answer := TabM.least S.us }) by unfold dr; rw [hab]; exact (if_pos kE).trans ((if_pos h0).trans (by rw [show createM S d c.name c.mode = (TabM.least S.us, 0, (addM { S with us := (ins (TabM.least S.us) ⟨(aD S.X), 1⟩ S.us), av := (max S.av ((S.us.length : Int) + 1)) } d c.name { aB S.X 1 c.mode with opens := 1 })) from (if_pos h0).trans (if_pos qQ)]))] <;> exact ⟨rfl, rfl⟩⟩)
 refine af.region ?_
 refine gK 4 (MO cb f b4) [] ?_
 obtain ⟨L2, hL2⟩ : ∃ L2 : HL, L2 = L.put (aD S.X) b4 0 none 0 := ⟨_, rfl⟩
 have hfr := hI.toInv0.fresh
 refine aj.mem (aP := [.abs (ak (aN (ay S.O (aD S.X) (fun _ => (⟨0, c.mode, 0, 0, 0, 0, 0, 0, false, 1, [], ⟨#[]⟩, [], none⟩ : aM))) L2)), .blk f [vI (S.X.cN), vI (S.X.cB), vI (S.X.cH), vI (S.X.cS), vI (S.X.cZ), .map (some m), vP t, vI (S.X.last), vI (S.X.ah), vI (S.X.used)] 86, .abs (aE Tryz.prog 3 m (aO (aK L S.idx)) S.idx.length), .abs (ak (bh S.O L)), .abs (br 156 t S.X.cH S.av (aK L S.us)), .abs (ak (aY S.O L)), .blk cb [vI (c.op), vI (c.handle), vI (c.other), .string c.name, .string c.text, .slice c.dA (c.data.length) (c.dC), vI (c.mode), vI (c.uid), vI (c.gid), vI (c.sec), vI (c.nano), vI (c.code), vI (c.answer)] 43, .abs R]) (fun w hS => hS.qM hL2 hfr (o := (⟨0, c.mode, 0, 0, 0, 0, 0, 0, false, 1, [], ⟨#[]⟩, [], none⟩ : aM)) (i := 3) (j := 8) (ix := [0, 1, 2, 4, 5, 6, 7]) rfl rfl (by kernel_rfl) rfl (by show (1 : Int) ≠ 0; decide) ((eH (L := L2) (k := (aD S.X)) (o := (⟨0, c.mode, 0, 0, 0, 0, 0, 0, false, 1, [], ⟨#[]⟩, [], none⟩ : aM)) rfl).trans (by rw [show L2.dA (aD S.X) = none by rw [hL2]; exact if_pos rfl, show L2.dC (aD S.X) = 0 by rw [hL2]; exact if_pos rfl]; rfl)) rfl) ?_
 refine aj.mem (aP := (zU S c L2 f m t L ++ [pD S.O L, pC cb c, .abs R])) (fun w hS => hS.rW hL2 hfr (o := (⟨0, c.mode, 0, 0, 0, 0, 0, 0, false, 1, [], ⟨#[]⟩, [], none⟩ : aM)) (i := 3) rfl (by show (1 : Int) ≠ 2; decide)) ?_
 refine aj.mem (aP := (zU S c L2 f m t L ++ [pD S.O L, pC cb c, .abs R, .abs (aI 5 1 none 0 0 ([]))])) (fun w hS => hS.jX (e := 5) (size := 1)) ?_
 refine aj.mem (aP := ([MN S c L2] ++ zU S c L2 f m t L ++ [pC cb c, .abs R])) (fun w hS => hS.E0 hL2 (o := (⟨0, c.mode, 0, 0, 0, 0, 0, 0, false, 1, [], ⟨#[]⟩, [], none⟩ : aM)) (i := 5) (j := 8) (ix := [0, 1, 2, 3, 4, 6, 7]) rfl rfl (by kernel_rfl) rfl rfl rfl) ?_
 refine aj.mem (aP := [.abs (ak (aY (ay S.O (aD S.X) (fun _ => (⟨0, c.mode, 0, 0, 0, 0, 0, 0, false, 1, [], ⟨#[]⟩, [], none⟩ : aM))) L2)), .abs (ak (aN (ay S.O (aD S.X) (fun _ => (⟨0, c.mode, 0, 0, 0, 0, 0, 0, false, 1, [], ⟨#[]⟩, [], none⟩ : aM))) L2)), .blk f [vI (S.X.cN), vI (S.X.cB), vI (S.X.cH), vI (S.X.cS), vI (S.X.cZ), .map (some m), vP t, vI (S.X.last), vI (S.X.ah), vI (S.X.used)] 86, .abs (aE Tryz.prog 3 m (aO (aK L2 S.idx)) S.idx.length), .abs (ak (bh (ay S.O (aD S.X) (fun _ => (⟨0, c.mode, 0, 0, 0, 0, 0, 0, false, 1, [], ⟨#[]⟩, [], none⟩ : aM))) L2)), .abs (br 156 t S.X.cH S.av (aK L2 S.us)), .blk cb [vI (c.op), vI (c.handle), vI (c.other), .string c.name, .string c.text, .slice c.dA (c.data.length) (c.dC), vI (c.mode), vI (c.uid), vI (c.gid), vI (c.sec), vI (c.nano), vI (c.code), vI (c.answer)] 43, .abs R]) (fun w hS => by rw [fk hL2 hfr.idx, fk hL2 hfr.us]; exact hS) ?_
 refine gL (f := 132) (args := #[vP f, .iface 89 (vP b4)]) (pre := [pF f m t S.X, jY t S L2, ML S c L2]) [2, 5, 1] ((by have h := qo (β := β) { S with O := (ay S.O (aD S.X) (fun _ => (⟨0, c.mode, 0, 0, 0, 0, 0, 0, false, 1, [], ⟨#[]⟩, [], none⟩ : aM))) } L2 f m t ⟨(aD S.X), 1⟩ (by show (obj (ay S.O (aD S.X) (fun _ => (⟨0, c.mode, 0, 0, 0, 0, 0, 0, false, 1, [], ⟨#[]⟩, [], none⟩ : aM))) (aD S.X)).kind = 1; rw [bG]) (by simp) (by show 0 ≤ (obj (ay S.O (aD S.X) (fun _ => (⟨0, c.mode, 0, 0, 0, 0, 0, 0, false, 1, [], ⟨#[]⟩, [], none⟩ : aM))) (aD S.X)).opens ∧ (obj (ay S.O (aD S.X) (fun _ => (⟨0, c.mode, 0, 0, 0, 0, 0, 0, false, 1, [], ⟨#[]⟩, [], none⟩ : aM))) (aD S.X)).opens ≤ 1048576; rw [bG]; exact ⟨Int.le_refl _, by show (0 : Int) ≤ 1048576; decide⟩); rw [mD hL2, jI (S := { S with O := (ay S.O (aD S.X) (fun _ => (⟨0, c.mode, 0, 0, 0, 0, 0, 0, false, 1, [], ⟨#[]⟩, [], none⟩ : aM))) }) (t := ⟨(aD S.X), 1⟩) (by show ¬ (S.us.length : Int) < S.X.cH; omega)] at h; exact h)) ?_
 rintro _ _ ⟨rfl, rfl⟩
 refine gC 7 [(6, vI 130)] [(5, a_ 6 cb)] [(6, [(12, vI 0)])] ?_
 refine NS ?_
 refine gK 2 [(59, .bool true)] [] ?_
 refine NN ?_
 refine CT ?_
 refine SR ?_
 have hk0 : (obj S.O (aD S.X)).kind = 0 := hI.o8 _ (by have := mB hI.toInv0; omega)
 refine aj.mem (aP := [.blk f [vI (S.X.cN), vI (S.X.cB), vI (S.X.cH), vI (S.X.cS), vI (S.X.cZ), .map (some m), vP t, vI (S.X.last), vI (S.X.ah), vI (S.X.used)] 86, .abs (br 156 t S.X.cH S.av (aK L2 S.us)), .abs (ak (aN S.O L)), .abs (ak (aY (ay S.O (aD S.X) (fun _ => (⟨0, c.mode, 0, 0, 0, 0, 0, 0, false, 1, [], ⟨#[]⟩, [], none⟩ : aM))) L2)), .abs (aE Tryz.prog 3 m (aO (aK L2 S.idx)) S.idx.length), .abs (ak (bh (ay S.O (aD S.X) (fun _ => (⟨0, c.mode, 0, 0, 0, 0, 0, 0, false, 1, [], ⟨#[]⟩, [], none⟩ : aM))) L2)), .blk cb [vI (c.op), vI (c.handle), vI (c.other), .string c.name, .string c.text, .slice c.dA (c.data.length) (c.dC), vI (c.mode), vI (c.uid), vI (c.gid), vI (c.sec), vI (c.nano), vI (c.code), vI 0] 43, .abs R]) (fun w hS => hS.ux (i := 2) rfl (aD S.X) (fun x hx => by rw [rR hx, Eg hL2 hfr hx]) (by unfold aN; rw [hk0]; rfl)) ?_
 refine aj.mem (aP := [.blk f [vI (S.X.cN), vI (S.X.cB), vI (S.X.cH), vI (S.X.cS), vI (S.X.cZ), .map (some m), vP t, vI (S.X.last), vI (S.X.ah), vI (S.X.used)] 86, .abs (br 156 t S.X.cH S.av (aK L2 S.us)), .abs (ak (aN S.O L)), .abs (ak (aY (ay S.O (aD S.X) (fun _ => (⟨0, c.mode, 0, 0, 0, 0, 0, 0, false, 1, [], ⟨#[]⟩, [], none⟩ : aM))) L2)), .abs (aE Tryz.prog 3 m (aO (aK L2 S.idx)) S.idx.length), .abs (ak (bh S.O L)), .blk cb [vI (c.op), vI (c.handle), vI (c.other), .string c.name, .string c.text, .slice c.dA (c.data.length) (c.dC), vI (c.mode), vI (c.uid), vI (c.gid), vI (c.sec), vI (c.nano), vI (c.code), vI 0] 43, .abs R]) (fun w hS => hS.ux (i := 5) rfl (aD S.X) (fun x hx => by rw [ud hx, zI hL2 hfr hx]) (by unfold bh; rw [hk0]; rfl)) ?_
 refine aj.mem (aP := [.blk f [vI (S.X.cN), vI (S.X.cB), vI (S.X.cH), vI (S.X.cS), vI (S.X.cZ), .map (some m), vP t, vI (S.X.last), vI (S.X.ah), vI (S.X.used)] 86, .abs (br 156 t S.X.cH S.av (aK L2 S.us)), .abs (ak (aN S.O L)), .abs (ak (aY S.O L)), .abs (aE Tryz.prog 3 m (aO (aK L2 S.idx)) S.idx.length), .abs (ak (bh S.O L)), .blk cb [vI (c.op), vI (c.handle), vI (c.other), .string c.name, .string c.text, .slice c.dA (c.data.length) (c.dC), vI (c.mode), vI (c.uid), vI (c.gid), vI (c.sec), vI (c.nano), vI (c.code), vI 0] 43, .abs R]) (fun w hS => hS.ux (i := 3) rfl (aD S.X) (fun x hx => by rw [uf hx, vA hL2 hx]) (by unfold aY; rw [hk0]; rfl)) ?_
 refine aj.mem (aP := [.blk f [vI (S.X.cN), vI (S.X.cB), vI (S.X.cH), vI (S.X.cS), vI (S.X.cZ), .map (some m), vP t, vI (S.X.last), vI (S.X.ah), vI (S.X.used)] 86, .abs (br 156 t S.X.cH S.av (aK L S.us)), .abs (ak (aN S.O L)), .abs (ak (aY S.O L)), .abs (aE Tryz.prog 3 m (aO (aK L S.idx)) S.idx.length), .abs (ak (bh S.O L)), .blk cb [vI (c.op), vI (c.handle), vI (c.other), .string c.name, .string c.text, .slice c.dA (c.data.length) (c.dC), vI (c.mode), vI (c.uid), vI (c.gid), vI (c.sec), vI (c.nano), vI (c.code), vI 0] 43, .abs R]) (fun w hS => by rw [fk hL2 hfr.idx, fk hL2 hfr.us] at hS; exact hS) ?_
 refine gK 2 [(4, vI 130)] [] ?_
 refine NN (af.ret (ai.aq ?_))
 exact RT (vI 130) [0, 4, 1, 2, 3, 5, 6, 7] (⟨L, by rw [show (dr S c) = (130, S, { c with answer := 0 }) by unfold dr; rw [hab]; exact (if_pos kE).trans ((if_pos h0).trans (by rw [show createM S d c.name c.mode = (0, 130, S) from (if_pos h0).trans (if_neg (by omega))]))] <;> exact ⟨rfl, rfl⟩⟩)
end
section
open Go.RowKit
def si (b : Nat) (v : Value) : bT where
  h F w := ∃ cs T, cs[0]? = some v ∧ (HP.blk b cs T).h F w
  lt := fun ⟨_, _, _, h⟩ => HP.lt h
  st := fun ⟨cs, T, hv, h⟩ _ _ hk hd => ⟨cs, T, hv, HP.st h hk hd⟩
theorem si.cell {b : Nat} {v : Value} : ∀ F w, (si b v).h F w → w.cell? ⟨b, 0, none⟩ = some v := by
  rintro F w ⟨cs, T, hv, h⟩
  exact (eP h.1 rfl rfl hv).1
theorem Sat.first {β : Bs} {l : List HP} {w : World} {i b : Nat} {cs : List Value} {T : TypeId} {v : Value} (h : Sat β l w) (hp : l[i]? = some (.blk b cs T)) (hv : cs[0]? = some v) : Sat β [.abs (si b v)] w := by
  obtain ⟨ho, φ, h1, h2, h3⟩ := h
  have hi := bw hp
  refine ⟨ho, fun _ => φ i, fun j q hq => ?_, fun j hj => h2 i hi, fun j k hj hk hne => ?_⟩
  ·have hj := bw hq
   simp at hj
   subst hj
   simp at hq
   subst hq
   exact ⟨cs, T, hv, h1 i _ hp⟩
  simp at hj hk
  omega
section mix
variable {P : Program} {β : Bs} {N : Nat} {ops : Array Oper} {S : List HP} {l : List Nat} {fr : Fr} {hps : List HP} {Q : Post} {i : Nat}
theorem af.FB {id : Nat} (perm : List Nat) (nr : Nat) (hm : P.follows .mixedOrders = true) (hB : xP ops perm nr = true) (hp : ∀ w, Sat β hps w → Sat β S w) (h : aH P β N ops S nr perm fr hps Q) : af P β N (.region id ops true) fr hps Q := by
  intro junk w hS
  unfold xP at hB
  simp only [Bool.and_eq_true, beq_iff_eq] at hB
  obtain ⟨⟨⟨h1, h2⟩, h3⟩, h4⟩ := hB
  have cR := hS.drewN 1
  have h5 := zl (Q := Q) h1 h2 nr perm _ _ _ h4 (fun j oj _ hl => by simp [Array.getD_eq_getD_getElem?, Array.getElem?_replicate] at hl; split at hl <;> simp at hl) (hp _ cR) (h junk (w.drewN 1) cR)
  rw [h3] at h5
  refine Code.wp_mono (fun e a w q => ?_) (wp_region_any hm (mP _ _ _ _ h5))
  cases e with
  | normal => exact q
  | exit id => exact q.elim
  | goto l => exact q.elim
  | ret => exact q.elim
  | panic ch => exact q.elim
  | outgrown => exact q.elim
theorem aH.FC {ι : Type} {fr' : ι → Fr} {hp' : ι → List HP} {o : Oper} (hop : ops[i]? = some o) (hg : o.guard = none) (h : aj P β N #[o] 0 fr hps (NP (jo β N fr' hp'))) (hp : ∀ j w, Sat β (hp' j) w → Sat β S w)
    (K : ∀ j, aH P β N ops S 0 l (fr' j) (hp' j) Q) : aH P β N ops S 0 (i :: l) fr hps Q := by
  intro junk w hS
  unfold kM
  refine fq hop hg ?_
  have h1 := h junk w hS
  have h2 : wpList P #[o] (NP (jo β N fr' hp')) [o] (cD N fr junk) w := h1
  refine iy (fun a w ⟨j, fL, ha, cR⟩ => ?_) h2
  subst ha
  exact ⟨.inr (hp j _ cR), K j fL w cR⟩
end mix
end
section
open Go.RowKit Go.Maps HeapM TabM
def Hq : List Nat := [78, 79, 80, 81, 82, 83, 84, 85, 86, 87, 88, 89, 90, 91, 92]
def O7 : Value := .agg ⟨.nilFunc :: Hq.map (fun f => .func (.func f) #[] #[])⟩
theorem FD {n : Int} (h : 1 ≤ n ∧ n ≤ 15) : n = 1 ∨ n = 2 ∨ n = 3 ∨ n = 4 ∨ n = 5 ∨ n = 6 ∨ n = 7 ∨ n = 8 ∨ n = 9 ∨ n = 10 ∨ n = 11 ∨ n = 12 ∨ n = 13 ∨ n = 14 ∨ n = 15 := by omega
theorem MP {w : World} {o : Oper} {ev : Operand → Value} {x y : Operand} {n : Int} (ho : o.op = .index 118 x y) (hx : ev x = O7) (hy : ev y = .int .i64 n) (hn : 1 ≤ n ∧ n ≤ 15) : ld Tryz.prog ev o w (.func (.func (Hq.getD (n.toNat - 1) 0)) #[] #[]) w := by
  obtain ⟨dst, op, type, pos, after, guard⟩ := o
  cases ho
  refine .inl ?_
  simp only [execOp, hx, hy]
  rcases FD hn with h | h | h | h | h | h | h | h | h | h | h | h | h | h | h <;> subst h <;> kernel_rfl
theorem aj.hn {β : Bs} {N k : Nat} {ops : Array Oper} {fr : Fr} {hps : List HP} {Q : Post} {d : Option Tmp} {x y : Operand} {n : Int} (hn : 1 ≤ n ∧ n ≤ 15) (K : aj Tryz.prog β N ops (k + 1) (cJ fr d (.func (.func (Hq.getD (n.toNat - 1) 0)) #[] #[])) hps Q)
    (hop : ∀ junk, dO N junk ops fr k = some (.index 118 x y, d) := by intro _; kernel_rfl) (hx : ∀ junk, cC N fr junk x = O7 := by intro _; kernel_rfl) (hy : ∀ junk, cC N fr junk y = .int .i64 n := by intro _; kernel_rfl) : aj Tryz.prog β N ops k fr hps Q :=
  aj.ic hop (fun _ junk w ho hS => ⟨w, MP ho (hx junk) (hy junk) hn, hS⟩) K
theorem Ou {β : Bs} {S : aG} {L : HL} {f m t b : Nat} {c : aS} (n : Int) (hI : Inv S) (hC : fJ β c) (h : 1 ≤ n ∧ n ≤ 15) (he : c.op = n) : Spec Tryz.prog β (Hq.getD (n.toNat - 1) 0) #[vP f, vP b] (pA f m t L S ++ [pC b c]) (fun v l => ∃ L2, v = vI (opM S c).1 ∧ l = pA f m t L2 (opM S c).2.1 ++ [pC b (opM S c).2.2]) := by
  subst he
  rcases FD h with h | h | h | h | h | h | h | h | h | h | h | h | h | h | h <;> rw [h]
  ·rw [yu h]; exact Fv S L f m t hI b c hC
  ·rw [yw h]; exact Br S L f m t hI b c hC
  ·rw [BD h]; exact zR S L f m t hI b c hC
  ·rw [yx h]; exact DR S L f m t hI b c hC
  ·rw [BF h]; exact C6 S L f m t hI b c hC
  ·rw [BG h]; exact Bt S L f m t hI b c hC
  ·rw [BH h]; exact Fz S L f m t hI b c hC
  ·rw [BI h]; exact C0 S L f m t hI b c hC
  ·rw [BJ h]; exact DT S L f m t hI b c hC
  ·rw [yA h]; exact Bu S L f m t hI b c hC
  ·rw [yB h]; exact FA S L f m t hI b c hC
  ·rw [yC h]; exact C5 S L f m t hI b c hC
  ·rw [yD h]; exact DU S L f m t hI b c hC
  ·rw [yE h]; exact DS S L f m t hI b c hC
  rw [yG h]; exact C2 S L f m t hI b c hC
theorem Hr {S : aG} {c : aS} (h : 1 ≤ c.op ∧ c.op ≤ 15) : (opM S c).2.2.op = c.op := by
  rcases FD h with h | h | h | h | h | h | h | h | h | h | h | h | h | h | h
  ·rw [yu h]; exact Lb
  ·rw [yw h]; exact E9
  ·rw [BD h]; exact DL
  ·rw [yx h]; exact Fa
  ·rw [BF h]; exact DM
  ·rw [BG h]; exact CK
  ·rw [BH h]; exact G0
  ·rw [BI h]; exact DN
  ·rw [BJ h]; exact Fc
  ·rw [yA h]; exact Fe
  ·rw [yB h]; exact Lc
  ·rw [yC h]; exact G1
  ·rw [yD h]; exact Jo
  ·rw [yE h]; exact Fb
  rw [yG h]; exact DP
end
section
open Go.RowKit Go.Maps HeapM TabM
attribute [local irreducible] aj aR af ai
abbrev KF (b3 : Nat) := (.blk b3 [vI 0, vI 0, vI 0, .string ⟨#[]⟩, .string ⟨#[]⟩, .slice none (0) (0), vI 0, vI 0, vI 0, vI 0, vI 0, vI 0, vI 0] 43 : HP)
abbrev O8 (c : aS) := ([(0, vI (c.op)), (1, vI (c.handle)), (2, vI (c.other)), (3, .string c.name), (4, .string c.text), (5, .slice c.dA (c.data.length) (c.dC)), (6, vI (c.mode)), (7, vI (c.uid)), (8, vI (c.gid)), (9, vI (c.sec)), (10, vI (c.nano)), (11, vI 230)] : Fr)
theorem DV {β : Bs} : Spec Tryz.prog β 44 #[] [] (fun v l => v = .agg #[.nilFunc, .func (.func 78) #[] #[], .func (.func 79) #[] #[], .func (.func 80) #[] #[], .func (.func 81) #[] #[], .func (.func 82) #[] #[], .func (.func 83) #[] #[], .func (.func 84) #[] #[], .func (.func 85) #[] #[], .func (.func 86) #[] #[], .func (.func 87) #[] #[], .func (.func 88) #[] #[], .func (.func 89) #[] #[], .func (.func 90) #[] #[], .func (.func 91) #[] #[], .func (.func 92) #[] #[]] ∧ l = []) := by
 refine Spec.enter Tryz.func44 rfl Tryz.ntmps44 (Nat.le_of_ble_eq_true rfl) (fun R => ?_)
 refine SR ?_
 refine gN 1 (fun b1 => [(0, vP b1)]) (fun _ => []) (fun _ => []) (fun b1 => .blk b1 [.nilFunc, .nilFunc, .nilFunc, .nilFunc, .nilFunc, .nilFunc, .nilFunc, .nilFunc, .nilFunc, .nilFunc, .nilFunc, .nilFunc, .nilFunc, .nilFunc, .nilFunc, .nilFunc] 118) (fun b1 => ?_)
 refine NS ?_
 refine gC 2 [] [(1, A_ 1 b1 16)] [(1, [(1, .func (.func 78) #[] #[]), (2, .func (.func 79) #[] #[]), (3, .func (.func 80) #[] #[]), (4, .func (.func 81) #[] #[]), (5, .func (.func 82) #[] #[]), (6, .func (.func 83) #[] #[]), (7, .func (.func 84) #[] #[]), (8, .func (.func 85) #[] #[]), (9, .func (.func 86) #[] #[]), (10, .func (.func 87) #[] #[]), (11, .func (.func 88) #[] #[]), (12, .func (.func 89) #[] #[]), (13, .func (.func 90) #[] #[]), (14, .func (.func 91) #[] #[]), (15, .func (.func 92) #[] #[])])] ?_
 refine NN (af.ret ?_)
 exact ai.ret (v := .agg #[.nilFunc, .func (.func 78) #[] #[], .func (.func 79) #[] #[], .func (.func 80) #[] #[], .func (.func 81) #[] #[], .func (.func 82) #[] #[], .func (.func 83) #[] #[], .func (.func 84) #[] #[], .func (.func 85) #[] #[], .func (.func 86) #[] #[], .func (.func 87) #[] #[], .func (.func 88) #[] #[], .func (.func 89) #[] #[], .func (.func 90) #[] #[], .func (.func 91) #[] #[], .func (.func 92) #[] #[]]) (l := []) (aU := [b1 = b1, b1 = b1, b1 = b1, b1 = b1, b1 = b1, b1 = b1, b1 = b1, b1 = b1, b1 = b1, b1 = b1, b1 = b1, b1 = b1, b1 = b1, b1 = b1, b1 = b1, b1 = b1]) [.at 1, .at 1, .at 1, .at 1, .at 1, .at 1, .at 1, .at 1, .at 1, .at 1, .at 1, .at 1, .at 1, .at 1, .at 1, .at 1] [0] (fun _ => by kernel_rfl) ⟨rfl, rfl, rfl, rfl, rfl, rfl, rfl, rfl, rfl, rfl, rfl, rfl, rfl, rfl, rfl, rfl, trivial⟩ rfl (by kernel_rfl) (⟨rfl, rfl⟩)
theorem C8 {β : Bs} (S : aG) (L : HL) (f m t : Nat) (hI : Inv S) (c : aS) (hC : fJ β c) :
    Spec Tryz.prog β 16 #[vP f, .agg #[vI (c.op), vI (c.handle), vI (c.other), .string c.name, .string c.text, .slice c.dA (c.data.length) (c.dC), vI (c.mode), vI (c.uid), vI (c.gid), vI (c.sec), vI (c.nano), vI (c.code), vI (c.answer)]] (pA f m t L S) (fun v l => ∃ L2, v = .agg ⟨fZ (doM S c).2⟩ ∧ l = (pA f m t L2 ((doM S c).1))) := by
 have hX := hI.hX
 refine Spec.enter Tryz.func16 rfl Tryz.ntmps16 (Nat.le_of_ble_eq_true rfl) (fun R => ?_)
 refine SR ?_
 refine gN 1 (fun b2 => [(3, vP b2)]) (fun _ => []) (fun _ => []) (fun b2 => pC b2 c) (fun b2 => ?_)
 refine gN 1 (fun b3 => [(4, vP b3)]) (fun _ => []) (fun _ => []) (fun b3 => .blk b3 [vI 0, vI 0, vI 0, .string ⟨#[]⟩, .string ⟨#[]⟩, .slice none (0) (0), vI 0, vI 0, vI 0, vI 0, vI 0, vI 0, vI 0] 43) (fun b3 => ?_)
 refine NS ?_
 refine gC 2 [] [(1, a_ 7 b2)] [(7, [(12, vI 0)])] ?_
 refine NS ?_
 refine gC 2 [] [(1, a_ 7 b2)] [(7, [(11, vI 230)])] ?_
 refine NN (af.seq (SR ?_))
 refine gK 4 [(10, .bool (decide ((c.op : Int) ≥ (1 : Int))))] [(1, a_ 7 b2)] ?_
 refine aj.gA 10 ((c.op : Int) ≥ (1 : Int)) (fun _ => by kernel_rfl) (fun h10 => ?_) (fun h10 => ?_)
 ·refine gK 4 [(14, .bool (decide ((c.op : Int) ≤ (15 : Int))))] [(1, a_ 7 b2)] ?_
  refine NN ?_
  refine af.bn (p := (c.op : Int) ≤ (15 : Int)) (fun _ => by kernel_rfl) (fun gG => ?_) (fun gG => ?_)
  ·have hop : 1 ≤ c.op ∧ c.op ≤ 15 := ⟨h10, gG⟩
   refine af.FB (S := [.abs (si b2 (.int .i64 c.op))]) [1, 2, 4, 0, 3, 5, 6, 7] 3 (by kernel_rfl) (by kernel_rfl) (fun w hS => hS.first (i := 7) (b := b2) rfl rfl) ?_
   refine aH.reads (r := 0) (l := [0, 3, 5, 6, 7]) (fr' := [(3, vP b2), (4, vP b3), (17, vI (c.op)), (19, vP f)]) (aU := [(∀ F w, (si b2 (.int .i64 c.op)).h F w → w.cell? ⟨b2, 0, none⟩ = some (vI (c.op)))]) [1, 2, 4] [o_, ⟨[.view 0 (.int .i64 (c.op))], none, none, none, none⟩, o_] [3, 4, 17, 19] (fun _ => by kernel_rfl) ⟨si.cell, trivial⟩ rfl rfl ?_
   refine aH.FC (ι := Unit) (fr' := fun (_ : Unit) => [(3, vP b2), (4, vP b3), (15, .agg #[.nilFunc, .func (.func 78) #[] #[], .func (.func 79) #[] #[], .func (.func 80) #[] #[], .func (.func 81) #[] #[], .func (.func 82) #[] #[], .func (.func 83) #[] #[], .func (.func 84) #[] #[], .func (.func 85) #[] #[], .func (.func 86) #[] #[], .func (.func 87) #[] #[], .func (.func 88) #[] #[], .func (.func 89) #[] #[], .func (.func 90) #[] #[], .func (.func 91) #[] #[], .func (.func 92) #[] #[]]), (17, vI (c.op)), (19, vP f)]) (hp' := fun (_ : Unit) => ((pA f m t L S) ++ [.abs R, pC b2 (c0 c), KF b3])) rfl rfl ?_ (by rintro _ w hS; exact hS.first (i := 7) (b := b2) rfl rfl) ?_
   ·refine gL [] (DV) ?_
    rintro _ _ ⟨rfl, rfl⟩
    refine NL ?_
    exact MD () [3, 4, 15, 17, 19] [0, 1, 2, 3, 4, 5, 6, 7, 8]
   rintro _
   refine aH.FC (ι := Unit) (fr' := fun (_ : Unit) => [(3, vP b2), (4, vP b3), (18, .func (.func (Hq.getD (c.op.toNat - 1) 0)) #[] #[]), (19, vP f)]) (hp' := fun (_ : Unit) => ((pA f m t L S) ++ [.abs R, pC b2 (c0 c), KF b3])) rfl rfl ?_ (by rintro _ w hS; exact hS.first (i := 7) (b := b2) rfl rfl) ?_
   ·refine aj.hn (x := (.tmp 15)) (y := (.tmp 17)) (d := (some 18)) hop ?_
    refine NL ?_
    exact MD () [3, 4, 18, 19] [0, 1, 2, 3, 4, 5, 6, 7, 8]
   rintro _
   refine aH.FC (ι := HL) (fr' := fun (L2 : HL) => [(3, vP b2), (4, vP b3), (20, vI ((opM S (c0 c)).1))]) (hp' := fun (L2 : HL) => ((pA f m t L2 ((opM S (c0 c)).2.1)) ++ [pC b2 ((opM S (c0 c)).2.2), .abs R, KF b3])) rfl rfl ?_ (by rintro L2 w hS; exact hS.first (i := 6) (b := b2) rfl (congrArg (fun z => some (Value.int .i64 z)) (Hr (c := (c0 c)) hop))) ?_
   ·refine gL [0, 1, 2, 3, 4, 5, 7] (Ou (S := S) (L := L) (f := f) (m := m) (t := t) (b := b2) (c := (c0 c)) c.op hI ⟨hC.hw, hC.ow, hC.nm, hC.tx, hC.da, hC.dl, hC.dc⟩ hop rfl) ?_ (by intro _; rcases FD hop with h | h | h | h | h | h | h | h | h | h | h | h | h | h | h <;> rw [h] <;> kernel_rfl)
    rintro _ _ ⟨L2, rfl, rfl⟩
    refine NL ?_
    exact MD L2 [3, 4, 20] [0, 1, 2, 3, 4, 5, 6, 7, 8]
   rintro L2
   refine aH.FC (ι := Unit) (fr' := fun (_ : Unit) => [(3, vP b2), (4, vP b3), (20, vI ((opM S (c0 c)).1)), (21, .pointer (some ⟨b2, 11, none⟩))]) (hp' := fun (_ : Unit) => ((pA f m t L2 ((opM S (c0 c)).2.1)) ++ [pC b2 ((opM S (c0 c)).2.2), .abs R, KF b3])) rfl rfl ?_ (by rintro _ w hS; exact hS.first (i := 6) (b := b2) rfl (congrArg (fun z => some (Value.int .i64 z)) (Hr (c := (c0 c)) hop))) ?_
   ·refine gK 1 [(21, .pointer (some ⟨b2, 11, none⟩))] [] ?_
    refine NL ?_
    exact MD () [3, 4, 20, 21] [0, 1, 2, 3, 4, 5, 6, 7, 8]
   rintro _
   refine aH.last rfl rfl ?_
   refine gC 1 [] [(0, a_ 6 b2)] [(6, [(11, vI ((opM S (c0 c)).1))])] ?_
   refine NL (ai.np (NX (SR ?_)))
   refine gC 2 [] [(0, A_ 6 b2 13), (1, A_ 8 b3 13)] [(8, [(0, vI ((opM S (c0 c)).2.2.op)), (1, vI ((opM S (c0 c)).2.2.handle)), (2, vI ((opM S (c0 c)).2.2.other)), (3, .string (opM S (c0 c)).2.2.name), (4, .string (opM S (c0 c)).2.2.text), (5, .slice (opM S (c0 c)).2.2.dA ((opM S (c0 c)).2.2.data.length) ((opM S (c0 c)).2.2.dC)), (6, vI ((opM S (c0 c)).2.2.mode)), (7, vI ((opM S (c0 c)).2.2.uid)), (8, vI ((opM S (c0 c)).2.2.gid)), (9, vI ((opM S (c0 c)).2.2.sec)), (10, vI ((opM S (c0 c)).2.2.nano)), (11, vI ((opM S (c0 c)).1)), (12, vI ((opM S (c0 c)).2.2.answer))])] ?_
   refine NN (af.ret ?_)
   exact ai.ret (v := .agg #[vI ((opM S (c0 c)).2.2.op), vI ((opM S (c0 c)).2.2.handle), vI ((opM S (c0 c)).2.2.other), .string (opM S (c0 c)).2.2.name, .string (opM S (c0 c)).2.2.text, .slice (opM S (c0 c)).2.2.dA ((opM S (c0 c)).2.2.data.length) ((opM S (c0 c)).2.2.dC), vI ((opM S (c0 c)).2.2.mode), vI ((opM S (c0 c)).2.2.uid), vI ((opM S (c0 c)).2.2.gid), vI ((opM S (c0 c)).2.2.sec), vI ((opM S (c0 c)).2.2.nano), vI ((opM S (c0 c)).1), vI ((opM S (c0 c)).2.2.answer)]) (l := (pA f m t L2 ((opM S (c0 c)).2.1))) (aU := [b3 = b3, b3 = b3, b3 = b3, b3 = b3, b3 = b3, b3 = b3, b3 = b3, b3 = b3, b3 = b3, b3 = b3, b3 = b3, b3 = b3, b3 = b3]) [.at 8, .at 8, .at 8, .at 8, .at 8, .at 8, .at 8, .at 8, .at 8, .at 8, .at 8, .at 8, .at 8] [0, 1, 2, 3, 4, 5, 7] (fun _ => by kernel_rfl) ⟨rfl, rfl, rfl, rfl, rfl, rfl, rfl, rfl, rfl, rfl, rfl, rfl, rfl, trivial⟩ rfl (by kernel_rfl) (⟨L2, rfl, rfl⟩)
  refine af.skip (NX (SR ?_))
  refine gC 2 [] [(0, A_ 7 b2 13), (1, A_ 8 b3 13)] [(8, (O8 c))] ?_
  refine NN (af.ret ?_)
  exact ai.ret (v := .agg #[vI (c.op), vI (c.handle), vI (c.other), .string c.name, .string c.text, .slice c.dA (c.data.length) (c.dC), vI (c.mode), vI (c.uid), vI (c.gid), vI (c.sec), vI (c.nano), vI 230, vI 0]) (l := (pA f m t L S)) (aU := [b3 = b3, b3 = b3, b3 = b3, b3 = b3, b3 = b3, b3 = b3, b3 = b3, b3 = b3, b3 = b3, b3 = b3, b3 = b3, b3 = b3, b3 = b3]) [.at 8, .at 8, .at 8, .at 8, .at 8, .at 8, .at 8, .at 8, .at 8, .at 8, .at 8, .at 8, .at 8] [0, 1, 2, 3, 4, 5, 6] (fun _ => by kernel_rfl) ⟨rfl, rfl, rfl, rfl, rfl, rfl, rfl, rfl, rfl, rfl, rfl, rfl, rfl, trivial⟩ rfl (by kernel_rfl) (⟨L, by unfold doM; rw [yH (S := S) (c := (c0 c)) (by show ¬ (1 ≤ c.op ∧ c.op ≤ 15); omega)]; exact ⟨rfl, rfl⟩⟩)
 refine gK 4 [(14, .bool false)] [] ?_
 refine NN ?_
 refine CF ?_
 refine af.skip (NX (SR ?_))
 refine gC 2 [] [(0, A_ 7 b2 13), (1, A_ 8 b3 13)] [(8, (O8 c))] ?_
 refine NN (af.ret ?_)
 exact ai.ret (v := .agg #[vI (c.op), vI (c.handle), vI (c.other), .string c.name, .string c.text, .slice c.dA (c.data.length) (c.dC), vI (c.mode), vI (c.uid), vI (c.gid), vI (c.sec), vI (c.nano), vI 230, vI 0]) (l := (pA f m t L S)) (aU := [b3 = b3, b3 = b3, b3 = b3, b3 = b3, b3 = b3, b3 = b3, b3 = b3, b3 = b3, b3 = b3, b3 = b3, b3 = b3, b3 = b3, b3 = b3]) [.at 8, .at 8, .at 8, .at 8, .at 8, .at 8, .at 8, .at 8, .at 8, .at 8, .at 8, .at 8, .at 8] [0, 1, 2, 3, 4, 5, 6] (fun _ => by kernel_rfl) ⟨rfl, rfl, rfl, rfl, rfl, rfl, rfl, rfl, rfl, rfl, rfl, rfl, rfl, trivial⟩ rfl (by kernel_rfl) (⟨L, by unfold doM; rw [yH (S := S) (c := (c0 c)) (by show ¬ (1 ≤ c.op ∧ c.op ≤ 15); omega)]; exact ⟨rfl, rfl⟩⟩)
end
end Go.Proofs.YtkiedlmhocglhaaGreatDoor
section
namespace Go.Proofs
open Go.Shelf
def Tryz.keysS_ren : Go.Shelf.Ren := ⟨fun | 7 => 43 | 10 => 77 | n => n, fun | 23 => 97 | 26 => 9 | 3 => 84 | 28 => 114 | 0 => 0 | 27 => 113 | 33 => 38 | 4 => 4 | n => n, fun | n => n⟩
theorem Tryz.keysS : Go.Proofs.SlLaysZ.n7 Tryz.prog Tryz.keysS_ren := {
  mixed := by kernel_rfl
  f7 := ⟨Tryz.f43.name, by decide, Tryz.func43.trans (congrArg some (by kernel_rfl))⟩
  f10 := ⟨Tryz.f77.name, by decide, Tryz.func77.trans (congrArg some (by kernel_rfl))⟩
  t0 := Tryz.underlying0
  a0 := Tryz.isAgg0
  z0 := Tryz.sizeOf0
  v0 := Tryz.zeroValue0
  t4 := Tryz.underlying4
  a4 := Tryz.isAgg4
  z4 := Tryz.sizeOf4
  v4 := Tryz.zeroValue4
  t23 := Tryz.underlying97
  a23 := Tryz.isAgg97
  z23 := Tryz.sizeOf97
  v23 := Tryz.zeroValue97
  t26 := Tryz.underlying9
  a26 := Tryz.isAgg9
  z26 := Tryz.sizeOf9
  v26 := Tryz.zeroValue9
  t27 := Tryz.underlying113
  a27 := Tryz.isAgg113
  z27 := Tryz.sizeOf113
  v27 := Tryz.zeroValue113
  t28 := Tryz.underlying114
  a28 := Tryz.isAgg114
  z28 := Tryz.sizeOf114
  v28 := Tryz.zeroValue114
  t33 := Tryz.underlying38
  a33 := Tryz.isAgg38
  z33 := Tryz.sizeOf38
  v33 := Tryz.zeroValue38 }
def Tryz.sortedS_ren : Go.Shelf.Ren := ⟨fun | 6 => 42 | 8 => 75 | 9 => 76 | 11 => 130 | 13 => 129 | 12 => 131 | 23 => 164 | 24 => 165 | 14 => 166 | 15 => 167 | 16 => 168 | 17 => 169 | 18 => 170 | 19 => 171 | 20 => 172 | 21 => 173 | 22 => 174 | 25 => 188 | 26 => 183 | 27 => 184 | 28 => 189 | 29 => 190 | 30 => 191 | 31 => 200 | n => n, fun | 26 => 9 | 28 => 114 | 24 => 111 | 0 => 0 | 3 => 3 | 37 => 195 | 48 => 224 | 50 => 226 | 4 => 4 | 40 => 218 | 39 => 217 | 45 => 213 | 5 => 5 | 9 => 9 | 51 => 236 | 55 => 240 | 57 => 252 | 58 => 253 | 33 => 38 | n => n, fun | n => n⟩
theorem Tryz.sortedS : Go.Proofs.SlLaysZ.n6 Tryz.prog Tryz.sortedS_ren := {
  mixed := by kernel_rfl
  f6 := ⟨Tryz.f42.name, by decide, Tryz.func42.trans (congrArg some (by kernel_rfl))⟩
  f8 := ⟨Tryz.f75.name, by decide, Tryz.func75.trans (congrArg some (by kernel_rfl))⟩
  f11 := ⟨Tryz.f130.name, by decide, Tryz.func130.trans (congrArg some (by kernel_rfl))⟩
  t0 := Tryz.underlying0
  a0 := Tryz.isAgg0
  z0 := Tryz.sizeOf0
  v0 := Tryz.zeroValue0
  t24 := Tryz.underlying111
  a24 := Tryz.isAgg111
  z24 := Tryz.sizeOf111
  v24 := Tryz.zeroValue111
  t26 := Tryz.underlying9
  a26 := Tryz.isAgg9
  z26 := Tryz.sizeOf9
  v26 := Tryz.zeroValue9
  t28 := Tryz.underlying114
  a28 := Tryz.isAgg114
  z28 := Tryz.sizeOf114
  v28 := Tryz.zeroValue114
  i26 := by kernel_rfl }
def Tryz.sortS_ren : Go.Shelf.Ren := ⟨fun | 6 => 76 | 8 => 129 | 9 => 131 | 19 => 164 | 20 => 165 | 21 => 166 | 22 => 167 | 23 => 168 | 24 => 169 | 25 => 170 | 26 => 171 | 27 => 172 | 28 => 173 | 29 => 174 | 36 => 188 | 31 => 183 | 32 => 184 | 37 => 189 | 38 => 190 | 39 => 191 | 41 => 200 | n => n, fun | 27 => 111 | 29 => 9 | 3 => 3 | 32 => 195 | 26 => 111 | 0 => 0 | 44 => 224 | 46 => 226 | 4 => 4 | 36 => 218 | 35 => 217 | 41 => 213 | 5 => 5 | 9 => 9 | 53 => 236 | 57 => 240 | 63 => 252 | 64 => 253 | n => n, fun | n => n⟩
theorem Tryz.sortS : Go.Proofs.SlLaysM.n6 Tryz.prog Tryz.sortS_ren := {
  mixed := by kernel_rfl
  f6 := ⟨Tryz.f76.name, by decide, Tryz.func76.trans (congrArg some (by kernel_rfl))⟩
  f8 := Tryz.func129.trans (congrArg some (by kernel_rfl))
  f9 := ⟨Tryz.f131.name, by decide, Tryz.func131.trans (congrArg some (by kernel_rfl))⟩
  f19 := Tryz.func164.trans (congrArg some (by kernel_rfl))
  f20 := Tryz.func165.trans (congrArg some (by kernel_rfl))
  f21 := ⟨Tryz.f166.name, by decide, Tryz.func166.trans (congrArg some (by kernel_rfl))⟩
  f22 := ⟨Tryz.f167.name, by decide, Tryz.func167.trans (congrArg some (by kernel_rfl))⟩
  f23 := ⟨Tryz.f168.name, by decide, Tryz.func168.trans (congrArg some (by kernel_rfl))⟩
  f24 := ⟨Tryz.f169.name, by decide, Tryz.func169.trans (congrArg some (by kernel_rfl))⟩
  f25 := ⟨Tryz.f170.name, by decide, Tryz.func170.trans (congrArg some (by kernel_rfl))⟩
  f26 := ⟨Tryz.f171.name, by decide, Tryz.func171.trans (congrArg some (by kernel_rfl))⟩
  f27 := ⟨Tryz.f172.name, by decide, Tryz.func172.trans (congrArg some (by kernel_rfl))⟩
  f28 := ⟨Tryz.f173.name, by decide, Tryz.func173.trans (congrArg some (by kernel_rfl))⟩
  f29 := ⟨Tryz.f174.name, by decide, Tryz.func174.trans (congrArg some (by kernel_rfl))⟩
  f31 := Tryz.func183.trans (congrArg some (by kernel_rfl))
  f32 := Tryz.func184.trans (congrArg some (by kernel_rfl))
  f36 := ⟨Tryz.f188.name, by decide, Tryz.func188.trans (congrArg some (by kernel_rfl))⟩
  f37 := ⟨Tryz.f189.name, by decide, Tryz.func189.trans (congrArg some (by kernel_rfl))⟩
  f38 := ⟨Tryz.f190.name, by decide, Tryz.func190.trans (congrArg some (by kernel_rfl))⟩
  f39 := ⟨Tryz.f191.name, by decide, Tryz.func191.trans (congrArg some (by kernel_rfl))⟩
  f41 := ⟨Tryz.f200.name, by decide, Tryz.func200.trans (congrArg some (by kernel_rfl))⟩
  t0 := Tryz.underlying0
  a0 := Tryz.isAgg0
  z0 := Tryz.sizeOf0
  v0 := Tryz.zeroValue0
  t3 := Tryz.underlying3
  a3 := Tryz.isAgg3
  z3 := Tryz.sizeOf3
  v3 := Tryz.zeroValue3
  t4 := Tryz.underlying4
  a4 := Tryz.isAgg4
  z4 := Tryz.sizeOf4
  v4 := Tryz.zeroValue4
  t5 := Tryz.underlying5
  a5 := Tryz.isAgg5
  z5 := Tryz.sizeOf5
  v5 := Tryz.zeroValue5
  t9 := Tryz.underlying9
  a9 := Tryz.isAgg9
  z9 := Tryz.sizeOf9
  v9 := Tryz.zeroValue9
  t26 := Tryz.underlying111
  a26 := Tryz.isAgg111
  z26 := Tryz.sizeOf111
  v26 := Tryz.zeroValue111
  t27 := Tryz.underlying111
  a27 := Tryz.isAgg111
  z27 := Tryz.sizeOf111
  v27 := Tryz.zeroValue111
  t29 := Tryz.underlying9
  a29 := Tryz.isAgg9
  z29 := Tryz.sizeOf9
  v29 := Tryz.zeroValue9
  t32 := Tryz.underlying195
  a32 := Tryz.isAgg195
  z32 := Tryz.sizeOf195
  v32 := Tryz.zeroValue195
  t35 := Tryz.underlying217
  a35 := Tryz.isAgg217
  z35 := Tryz.sizeOf217
  v35 := Tryz.zeroValue217
  t36 := Tryz.underlying218
  a36 := Tryz.isAgg218
  z36 := Tryz.sizeOf218
  v36 := Tryz.zeroValue218
  t41 := Tryz.underlying213
  a41 := Tryz.isAgg213
  z41 := Tryz.sizeOf213
  v41 := Tryz.zeroValue213
  t44 := Tryz.underlying224
  a44 := Tryz.isAgg224
  z44 := Tryz.sizeOf224
  v44 := Tryz.zeroValue224
  t46 := Tryz.underlying226
  a46 := Tryz.isAgg226
  z46 := Tryz.sizeOf226
  v46 := Tryz.zeroValue226
  t53 := Tryz.underlying236
  a53 := Tryz.isAgg236
  z53 := Tryz.sizeOf236
  v53 := Tryz.zeroValue236
  t57 := Tryz.underlying240
  a57 := Tryz.isAgg240
  z57 := Tryz.sizeOf240
  v57 := Tryz.zeroValue240
  t63 := Tryz.underlying252
  a63 := Tryz.isAgg252
  z63 := Tryz.sizeOf252
  v63 := Tryz.zeroValue252
  t64 := Tryz.underlying253
  a64 := Tryz.isAgg253
  z64 := Tryz.sizeOf253
  v64 := Tryz.zeroValue253 }
end Go.Proofs
end
namespace Go.Proofs.YtkiedlmhocglhaaGreatDoor
section
open Go.RowKit Go.Maps Go.Sort Go.Shelf
theorem MQ (m : Nat) : AnyZ.SortsIn Tryz.prog Tryz.sortedS_ren Fence.wide m :=
  ⟨fun blk off cap ss W hH hblk hsz => callsIn_wide.2 (AnyM.slices_Sort_string Tryz.sortS blk off cap ss W hH hblk hsz),
   fun p cap W => callsIn_wide.2 (AnyM.slices_Sort_string_none Tryz.sortS p cap W)⟩
def zV (bk : Nat) : Value := .func (.func 77) #[] #[.pointer (some ⟨bk, 0, none⟩)]
theorem JD {β : Bs} (mb : Option Nat) : Spec Tryz.prog β 43 #[.map mb] [] (fun v l => ∃ bk, v = zV bk ∧ l = [.blk bk [.map mb] 97]) :=
  Spec.xH fun W _ => by
    have h : CallsIn Fence.wide 5 Tryz.prog 43 #[.map mb] W fun e w' => e = .returned (zV W.heap.size) ∧ w' = W.alloc (.cells #[.map mb] 97) := AnyZ.keys_in Tryz.keysS Fence.wide 5 trivial rfl mb W
    refine ((callsIn_wide (n := 5)).1 h).mono ?_
    rintro e w' ⟨rfl, rfl⟩
    refine ⟨_, _, rfl, ⟨W.heap.size, rfl, rfl⟩, (Keeps.refl _ _).alloc _, fun k => k = W.heap.size, ⟨?_, fun k => Iff.rfl⟩, fun k hk => Nat.le_of_eq hk.symm⟩
    show (W.heap.push _)[W.heap.size]? = _
    simp
def mZ (es : dU Th) : List Value := es.map (fun e => .string e.1)
theorem DW {es : dU Th} (h : iL es) : (es.map (fun e => e.1.data.toList)).Pairwise (· < ·) := by
  refine List.pairwise_map.2 (h.imp (fun {a b} hab => ?_))
  unfold iX at hab
  have h1 : ¬ Op.bytesLess b.1.toList a.1.toList = true := fun e => hab (by rw [e]; rfl)
  have h2 : ¬ b.1.toList = a.1.toList := fun e => hab (by rw [e]; simp)
  rw [bytesLess_eq, Lib.toList_data, Lib.toList_data] at h1
  rw [Lib.toList_data, Lib.toList_data] at h2
  by_cases e : a.1.data.toList < b.1.data.toList
  ·exact e
  exfalso
  have e := List.not_lt.1 e
  rcases List.le_iff_lt_or_eq.1 e with e | e
  ·exact h1 (by simpa using e)
  exact h2 e
theorem JE {w : World} {b n : Nat} {L : HL} {es : dU Th} {D : DataW Value} (hr : iL es) (hown : w.ownsMap Tryz.prog 9 oW b n D) (hf : ∀ kl, Maps.has D kl = (fX L es kl).isSome) {ss : List (List UInt8)} (hp : ss.Perm (strKeys D)) :
    ss.mergeSort (fun x y => decide (x ≤ y)) = es.map (fun e => e.1.data.toList) := by
  have hsort := DW hr
  obtain ⟨es', hD, hpw, _⟩ := hown.entries wK
  obtain ⟨Qz, Kb, hko⟩ := hown.keysOf
  obtain rfl : es' = Qz := by rw [hD] at Kb; simpa using Kb
  have hp2 : (es.map (fun e => e.1.data.toList)).Perm (strKeys D) := by
    rw [hD]
    refine perm_strKeys hpw (fun p hp => ?_) (hsort.imp (fun {a b} h e => by subst e; exact absurd h (List.lt_irrefl a))) (fun x => ?_)
    ·obtain ⟨v, hv⟩ := hko p hp
     obtain ⟨x, _, h, _⟩ := keyOf_str Tryz.underlying9 hv
     exact ⟨x, h⟩
    rw [← hD, hf]
    show _ ↔ ((aQ ⟨x.toArray⟩ es).map (cO L)).isSome = true
    rw [Option.isSome_map]
    constructor
    ·intro hx
     obtain ⟨e, he, rfl⟩ := List.mem_map.1 hx
     have h1 : (⟨e.1.data.toList.toArray⟩ : ByteArray) = e.1 := by rw [Array.toArray_toList]
     rw [h1, qh (t := e.2) (iL.twice hr) he]; rfl
    intro hx
    obtain ⟨t, ht⟩ := Option.isSome_iff_exists.1 hx
    exact List.mem_map.2 ⟨_, jH ht, by simp⟩
  have h3 := mergeSort_of_perm (hp.trans hp2.symm)
  have h4 : (es.map (fun e => e.1.data.toList)).mergeSort leB = es.map (fun e => e.1.data.toList) := List.mergeSort_of_pairwise (hsort.imp (fun {a b} h => by simp only [leB, decide_eq_true_eq]; exact List.le_of_lt h))
  exact h3.trans h4
theorem FE {β : Bs} (L : HL) (b bk n : Nat) (es : dU Th) (hr : iL es) (hn : n ≤ 8192) :
    Spec Tryz.prog β 42 #[zV bk] [.abs (aE Tryz.prog 9 b (fX L es) n), .blk bk [.map (some b)] 97] (fun v l => ∃ A cap, v = .slice A es.length cap ∧
      l = [.abs (aE Tryz.prog 9 b (fX L es) n), .blk bk [.map (some b)] 97, .abs (aI 9 1 A es.length cap (mZ es))]) := by
  intro R w hS
  obtain ⟨F1, h1⟩ := hS.get (i := 0) (p := .abs (aE Tryz.prog 9 b (fX L es) n)) rfl
  obtain ⟨F2, h2⟩ := hS.get (i := 1) (p := .blk bk [.map (some b)] 97) rfl
  obtain ⟨D, hown, hsz, hhas, _⟩ := h1.1
  have hcell : w.cell? ⟨bk, 0, none⟩ = some (.map (some b)) := (eP h2.1 rfl rfl rfl).1
  have hseq : SeqGives Fence.wide 2 Tryz.prog 77 #[.pointer (some ⟨bk, 0, none⟩)] encStr (fun ss => ss.Perm (strKeys D)) (Maps.size D) w :=
    AnyZ.keys_gives (ρ := Tryz.keysS_ren) { Tryz.keysS with } Fence.wide _ trivial rfl (by omega) bk b n D w (lt_of_some h2.1) hcell hown
  have cS := AnyZ.sorted_in Tryz.sortedS Fence.wide 5 trivial trivial trivial trivial rfl (by omega) (MQ _) (enters_of Tryz.func76 (by kernel_rfl) rfl) 77 #[.pointer (some ⟨bk, 0, none⟩)] trivial (enters_of Tryz.func77 (by kernel_rfl) rfl)
    (fun ss => ss.Perm (strKeys D)) (Maps.size D) (by rw [hsz]; unfold maxLen; omega) (by rw [hsz]; omega) w hseq
  change CallsIn _ _ Tryz.prog 42 _ _ _ at cS
  refine ((callsIn_wide (n := 5)).1 cS).mono ?_
  rintro e w' ⟨v, ss, rfl, hp, hrow, hnil, hb⟩
  have hkeys := JE hr hown hhas hp
  have hl2 : ss.length = es.length := by
    have h3 : (ss.mergeSort (fun x y => decide (x ≤ y))).length = ss.length := List.length_mergeSort ss
    rw [hkeys, List.length_map] at h3
    exact h3.symm
  rw [hkeys, hl2] at hrow
  have pX : ∃ A cap, v = .slice A es.length cap := by
    rcases hrow.2 with ⟨e1, e2⟩ | ⟨g, cp, cur, e1, _⟩
    ·exact ⟨none, 0, by rw [e1, e2]⟩
    exact ⟨_, cp, e1⟩
  obtain ⟨A, cap, rfl⟩ := pX
  have QA : (es.map (fun e => e.1.data.toList)).map encStr = mZ es := by
    rw [List.map_map]
    refine List.map_congr_left (fun e _ => ?_)
    show encStr e.1.data.toList = .string e.1
    unfold encStr
    rw [Array.toArray_toList]
  rw [QA] at hrow
  have hq : Sat β ([.abs (aE Tryz.prog 9 b (fX L es) n), .blk bk [.map (some b)] 97, .abs R] ++ [.abs (aI 9 1 A es.length cap (mZ es))]) w' := by
    refine Sat.new (F := fun k => (Value.slice A es.length cap).ownBlock = some k) hS ⟨?_, fun k => Iff.rfl⟩ ⟨hb.os, hb.tape, hb.output, hb.size, fun k hk _ => hb.block k hk⟩ (fun k hk => (hrow.lt k hk).1)
    refine ⟨hrow.1, ?_⟩
    rcases hrow.2 with h | ⟨g, cp, cur, e1, _, h3, h4⟩
    ·exact .inl h
    exact .inr ⟨g, cp, cur, e1, Nat.zero_le _, h3, h4⟩
  exact ⟨_, [.abs (aE Tryz.prog 9 b (fX L es) n), .blk bk [.map (some b)] 97, .abs (aI 9 1 A es.length cap (mZ es))], rfl, ⟨A, cap, rfl, rfl⟩, hq.pick (idx := [0, 1, 3, 2]) rfl rfl⟩
end
section
open Go.RowKit Go.Maps HeapM TabM
theorem Eu {ns : List aC} {n : aC} {k : Nat} (h : k < ns.length) : nd (ns ++ [n]) k = nd ns k := by
  unfold nd; rw [List.getD_eq_getElem?_getD, List.getD_eq_getElem?_getD, List.getElem?_append_left h]
theorem zW {ns : List aC} {n : aC} : nd (ns ++ [n]) ns.length = n := by
  unfold nd; rw [List.getD_eq_getElem?_getD, List.getElem?_append_right (Nat.le_refl _)]; simp
def zX : Lay := ⟨fun _ => none, fun _ => none, fun _ => 0, fun _ => 0⟩
def iT (ns : List aC) (L : Lay) (k : Nat) : bT := aI 101 2 (L.eA k) (nd ns k).ah.length (L.eC k) (fA (nd ns k).ah)
def ig (ns : List aC) (L : Lay) (k : Nat) : bT := aI 5 1 (L.dA k) (nd ns k).data.length (L.dC k) (bL (nd ns k).data)
def PN (A : Option Addr) (c : Nat) (ns : List aC) (L : Lay) : HP := .abs (aI 70 10 A ns.length c (cr L ns))
def MR (A : Option Addr) (c : Nat) (ns : List aC) (L : Lay) : List HP := [PN A c ns L, .abs (fw (iT ns L) ns.length), .abs (fw (ig ns L) ns.length)]
theorem p6.graph {β β' : Bs} {A : Option Addr} {c : Nat} {ns : List aC} {L : Lay} (h : p6 β (MR A c ns L) β') : aA β' A ns L := by
  obtain ⟨F, h1, h2⟩ := h.get 0 rfl
  obtain ⟨G, g1, g2⟩ := h.get 1 rfl
  obtain ⟨K, k1, k2⟩ := h.get 2 rfl
  exact ⟨dI.lg h1 h2 rfl,
    fw.base k1 k2 rfl (Φ := fun i b => bH b (L.dA i) (nd ns i).data) (fun i _ F hF hO => dI.lg (show (HP.abs (aI 5 1 (L.dA i) (nd ns i).data.length (L.dC i) (bL (nd ns i).data))).h F _ from hF) hO rfl),
    fw.base g1 g2 rfl (Φ := fun i b => cF b (L.eA i) (nd ns i).ah) (fun i _ F hF hO => dI.lg (show (HP.abs (aI 101 2 (L.eA i) (nd ns i).ah.length (L.eC i) (fA (nd ns i).ah))).h F _ from hF) hO rfl)⟩
theorem DX {L : Lay} {ns : List aC} {n : aC} {dA eA : Option Addr} {dC eC : Nat} : cr L ns ++ [.int .i64 n.id, .int .i64 n.kind, .int .i64 n.mode, .int .i64 n.uid, .int .i64 n.gid, .int .i64 n.sec, .int .i64 n.nano, .slice dA n.data.length dC, .string n.target, .slice eA n.ah.length eC] = cr (L.put ns.length dA dC eA eC) (ns ++ [n]) := by
  have h := xL (ns := ns ++ [n]) (L := L) (k := ns.length) (by simp) dA dC eA eC
  rw [zW, List.take_left, List.take_of_length_le (by simp)] at h
  exact h
theorem Bb {ns : List aC} {L : Lay} {n : aC} {dA eA : Option Addr} {dC eC : Nat} : (∀ x, x < ns.length → ig (ns ++ [n]) (L.put ns.length dA dC eA eC) x = ig ns L x) ∧ ig (ns ++ [n]) (L.put ns.length dA dC eA eC) ns.length = aI 5 1 dA n.data.length dC (bL n.data) := by
  refine ⟨fun x hx => ?_, ?_⟩
  ·unfold ig Lay.put
   rw [Eu hx]
   have : ¬ x = ns.length := by omega
   simp [this]
  unfold ig Lay.put
  rw [zW]
  simp
theorem Bc {ns : List aC} {L : Lay} {n : aC} {dA eA : Option Addr} {dC eC : Nat} : (∀ x, x < ns.length → iT (ns ++ [n]) (L.put ns.length dA dC eA eC) x = iT ns L x) ∧ iT (ns ++ [n]) (L.put ns.length dA dC eA eC) ns.length = aI 101 2 eA n.ah.length eC (fA n.ah) := by
  refine ⟨fun x hx => ?_, ?_⟩
  ·unfold iT Lay.put
   rw [Eu hx]
   have : ¬ x = ns.length := by omega
   simp [this]
  unfold iT Lay.put
  rw [zW]
  simp
def iJ (O : bK) (e : ByteArray × Th) : gU := ⟨e.1, (obj O e.2.k).id⟩
def pz (O : bK) (id : Int) (t : Th) : aC := ⟨id, t.kind, (obj O t.k).mode, (obj O t.k).uid, (obj O t.k).gid, (obj O t.k).sec, (obj O t.k).nano, (obj O t.k).data, (obj O t.k).target, (obj O t.k).ah.map (iJ O)⟩
def ax (S : aG) : List aC := S.idx.map (fun p => pz S.O p.1 p.2)
theorem fR {S : aG} : (ax S).length = S.idx.length := List.length_map ..
def dV (S : aG) (i : Nat) : Th := (S.idx.getD i (0, ⟨0, 0⟩)).2
def bS (S : aG) (i : Nat) : Int := (S.idx.getD i (0, ⟨0, 0⟩)).1
section at_
variable {S : aG} {i : Nat}
theorem qt (hi : i < S.idx.length) : S.idx[i]? = some (bS S i, dV S i) := by
  unfold bS dV
  rw [List.getD_eq_getElem?_getD, List.getElem?_eq_getElem hi]; rfl
theorem get_at (h : Inv0 S) (hi : i < S.idx.length) : TabM.get S.idx (bS S i) = some (dV S i) := kT h.rise (List.mem_of_getElem? (qt hi))
theorem mH (h : Inv0 S) (hi : i < S.idx.length) : Live S.idx (dV S i) ∧ bS S i = ((dV S i).k : Int) := ⟨h.live (get_at h hi), h.key (get_at h hi)⟩
theorem C9 (hi : i < S.idx.length) : (keys S.idx)[i]? = some (bS S i) := by
  unfold keys
  rw [List.getElem?_map, qt hi]; rfl
theorem sY (hi : i < S.idx.length) : (ax S).take (i + 1) = (ax S).take i ++ [pz S.O (bS S i) (dV S i)] := by
  rw [List.take_add_one]
  congr 1
  unfold ax
  rw [List.getElem?_map, qt hi]; rfl
theorem cP (hi : i ≤ S.idx.length) : ((ax S).take i).length = i := by rw [List.length_take, fR]; omega
end at_
section sat
variable {β : Bs} {l l' : List HP} {w : World} {i j k : Nat} {O : bK} {L : HL} {ix : List Nat}
theorem Sat.MS (h : Sat β l w) (hp : l[i]? = some (.abs (ak (iO (aY O L) k bT.none)))) (hq : l[j]? = some (.abs (aI 5 1 (L.dA k) (obj O k).data.length (L.dC k) (bL (obj O k).data)))) (hd : nodupB (i :: j :: ix) = true) (hl : bM l ix = some l') (h2 : (obj O k).kind = 1) : Sat β (.abs (ak (aY O L)) :: l') w :=
  h.o6 hp hq (fun _ _ h => h) hd hl k (fun _ hx => (mA hx).symm) (p8 h2)
end sat
theorem FH {es : List gU} {e : gU} : fA es ++ [.string e.name, .int .i64 e.id] = fA (es ++ [e]) := (sE e es 0).symm
section grow
variable {ns G' : List aC} {n : aC} {L : Lay} {i dn en : Nat} {dA eA : Option Addr} {dC eC : Nat}
theorem sZ (hl : ns.length = i) (hG : G' = ns ++ [n]) (hd : n.data.length = dn) (he : n.ah.length = en) : cr L ns ++ [.int .i64 n.id, .int .i64 n.kind, .int .i64 n.mode, .int .i64 n.uid, .int .i64 n.gid, .int .i64 n.sec, .int .i64 n.nano, .slice dA dn dC, .string n.target, .slice eA en eC] = cr (L.put i dA dC eA eC) G' := by
  subst hl hG hd he; exact DX
theorem xj (hl : ns.length = i) (hG : G' = ns ++ [n]) : ∀ x, x < i → ig G' (L.put i dA dC eA eC) x = ig ns L x := by
  subst hl hG; exact Bb.1
theorem uO (hl : ns.length = i) (hG : G' = ns ++ [n]) (hd : n.data.length = dn) : ig G' (L.put i dA dC eA eC) i = aI 5 1 dA dn dC (bL n.data) := by
  subst hl hG hd; exact Bb.2
theorem xk (hl : ns.length = i) (hG : G' = ns ++ [n]) : ∀ x, x < i → iT G' (L.put i dA dC eA eC) x = iT ns L x := by
  subst hl hG; exact Bc.1
theorem uP (hl : ns.length = i) (hG : G' = ns ++ [n]) (he : n.ah.length = en) : iT G' (L.put i dA dC eA eC) i = aI 101 2 eA en eC (fA n.ah) := by
  subst hl hG he; exact Bc.2
end grow
section more
variable {S : aG} {i j k : Nat}
theorem Ov (h : Inv0 S) (hi : i < S.idx.length) : (∃ k, dV S i = ⟨k, 1⟩ ∧ Live S.idx ⟨k, 1⟩) ∨ (∃ k, dV S i = ⟨k, 2⟩ ∧ Live S.idx ⟨k, 2⟩) ∨ ∃ k, dV S i = ⟨k, 3⟩ ∧ Live S.idx ⟨k, 3⟩ := by
  have h1 := (mH h hi).1
  generalize dV S i = t at h1 ⊢
  obtain ⟨k, kd⟩ := t
  rcases (h.ob _ h1).2.2 with e | e | e <;> simp only at e <;> subst e
  ·exact .inl ⟨k, rfl, h1⟩
  ·exact .inr (.inl ⟨k, rfl, h1⟩)
  exact .inr (.inr ⟨k, rfl, h1⟩)
theorem zY (h : Inv0 S) (hi : i < S.idx.length) : (Lit.int .i64 (bS S i)).wf = true := by
  have h1 := h.idx _ _ (get_at h hi)
  have h2 := h.last
  exact WalkArith.wf_i64 (by omega)
theorem JF (hi : i < S.idx.length) : (ints (keys S.idx))[i * 1 + 0]? = some (.int .i64 (bS S i)) := by
  rw [Nat.mul_one, Nat.add_zero]
  unfold ints
  rw [List.getElem?_map, C9 hi]; rfl
theorem Da (h : Inv0 S) {t : Th} (hl : Live S.idx t) (hk : t.kind ≠ 3) : (obj S.O t.k).target = ⟨#[]⟩ := by
  rcases (h.mt t hl).target with e | e
  ·exact e.2
  exact absurd (h.kind hl ▸ e.1) hk
theorem oA (h : Inv0 S) (hi : i < S.idx.length) (jJ : dV S i = ⟨k, 1⟩) (hl : Live S.idx ⟨k, 1⟩) : (ax S).take (i + 1) = (ax S).take i ++ [⟨bS S i, 1, (obj S.O k).mode, (obj S.O k).uid, (obj S.O k).gid, (obj S.O k).sec, (obj S.O k).nano, (obj S.O k).data, ⟨#[]⟩, []⟩] := by
  rw [sY hi, jJ]
  unfold pz
  rw [show (obj S.O k).target = ⟨#[]⟩ from Da h hl (by simp), show (obj S.O k).ah = [] from (h.mt _ hl).ah (by rw [h.kind hl]; simp)]; rfl
theorem oB (h : Inv0 S) (hi : i < S.idx.length) (jJ : dV S i = ⟨k, 3⟩) (hl : Live S.idx ⟨k, 3⟩) : (ax S).take (i + 1) = (ax S).take i ++ [⟨bS S i, 3, (obj S.O k).mode, (obj S.O k).uid, (obj S.O k).gid, (obj S.O k).sec, (obj S.O k).nano, [], (obj S.O k).target, []⟩] := by
  rw [sY hi, jJ]
  unfold pz
  rw [show (obj S.O k).data = [] from (h.mt _ hl).data (by rw [h.kind hl]; simp), show (obj S.O k).ah = [] from (h.mt _ hl).ah (by rw [h.kind hl]; simp)]; rfl
theorem qu (h : Inv0 S) (hi : i < S.idx.length) (jJ : dV S i = ⟨k, 2⟩) (hl : Live S.idx ⟨k, 2⟩) : (ax S).take (i + 1) = (ax S).take i ++ [⟨bS S i, 2, (obj S.O k).mode, (obj S.O k).uid, (obj S.O k).gid, (obj S.O k).sec, (obj S.O k).nano, [], ⟨#[]⟩, (obj S.O k).ah.map (iJ S.O)⟩] := by
  rw [sY hi, jJ]
  unfold pz
  rw [show (obj S.O k).target = ⟨#[]⟩ from Da h hl (by simp), show (obj S.O k).data = [] from (h.mt _ hl).data (by rw [h.kind hl]; simp)]
def dG (es : dU Th) (j : Nat) : ByteArray := (es.getD j (⟨#[]⟩, ⟨0, 0⟩)).1
def oJ (es : dU Th) (j : Nat) : Th := (es.getD j (⟨#[]⟩, ⟨0, 0⟩)).2
theorem vE {es : dU Th} (hj : j < es.length) : es[j]? = some (dG es j, oJ es j) := by
  unfold dG oJ
  rw [List.getD_eq_getElem?_getD, List.getElem?_eq_getElem hj]; rfl
theorem FI {es : dU Th} (hj : j < es.length) : (mZ es)[j * 1 + 0]? = some (.string (dG es j)) := by
  rw [Nat.mul_one, Nat.add_zero]
  unfold mZ
  rw [List.getElem?_map, vE hj]; rfl
theorem PO (h : Inv0 S) {t : Th} (hl : Live S.idx t) (hj : j < (obj S.O t.k).ah.length) : bB (dG (obj S.O t.k).ah j) ∧ ((∃ k, aQ (dG (obj S.O t.k).ah j) (obj S.O t.k).ah = some ⟨k, 1⟩ ∧ Live S.idx ⟨k, 1⟩ ∧ oJ (obj S.O t.k).ah j = ⟨k, 1⟩) ∨ (∃ k, aQ (dG (obj S.O t.k).ah j) (obj S.O t.k).ah = some ⟨k, 2⟩ ∧ Live S.idx ⟨k, 2⟩ ∧ oJ (obj S.O t.k).ah j = ⟨k, 2⟩) ∨ ∃ k, aQ (dG (obj S.O t.k).ah j) (obj S.O t.k).ah = some ⟨k, 3⟩ ∧ Live S.idx ⟨k, 3⟩ ∧ oJ (obj S.O t.k).ah j = ⟨k, 3⟩) := by
  have hm := List.mem_of_getElem? (vE hj)
  have h1 := h.ah t hl _ hm
  have h2 := qh (h.twice hl) hm
  refine ⟨h1.1, ?_⟩
  have h3 := h1.2
  generalize oJ (obj S.O t.k).ah j = u at h2 h3 ⊢
  obtain ⟨k, kd⟩ := u
  rcases (h.ob _ h3).2.2 with e | e | e <;> simp only at e <;> subst e
  ·exact .inl ⟨k, h2, h3, rfl⟩
  ·exact .inr (.inl ⟨k, h2, h3, rfl⟩)
  exact .inr (.inr ⟨k, h2, h3, rfl⟩)
theorem uQ {O : bK} {es : dU Th} {kd : Int} (hj : j < es.length) (he : oJ es j = ⟨k, kd⟩) : fA ((es.take j).map (iJ O)) ++ [.string (dG es j), .int .i64 (obj O k).id] = fA ((es.take (j + 1)).map (iJ O)) := by
  rw [List.take_add_one, vE hj, he, List.map_append]
  exact FH (es := (es.take j).map (iJ O)) (e := ⟨dG es j, (obj O k).id⟩)
end more
theorem p6.bytes {β β' : Bs} {A : Option Addr} {n c : Nat} {d : List UInt8} (h : p6 β [.abs (aI 5 1 A n c (bL d))] β') : bH β' A d := by
  obtain ⟨F, h1, h2⟩ := h.get 0 rfl
  exact dI.lg h1 h2 rfl
end
section
open Go.RowKit
section order
variable {P : Program} {ops : Array Oper} {Q Q' : Post} {n : Nat} {S : World → Prop}
inductive qv
  | one (i : Nat)
  | two (i j : Nat)
  | three (i k j : Nat)
  | perm (G : List Nat)
def Db (P : Program) (ops : Array Oper) (Q : Post) (S : World → Prop) (K : Act → World → Prop) : Nat → List Nat → Act → World → Prop
  | 0, _, a, w => K a w
  | n + 1, G, a, w => ∀ i ∈ G, wpOp P ops Q i (fun a' w' => S w' ∧ Db P ops Q S K n (G.erase i) a' w') a w
def BM (ops : Array Oper) (f : Array Bool → Bool) : Nat → List Nat → Array Bool → Bool
  | 0, _, listed => f listed
  | n + 1, G, listed => (Region.ready .any ops listed == G) && !G.isEmpty && G.all (fun i => BM ops f n (G.erase i) (listed.setIfInBounds i true))
def jV (P : Program) (ops : Array Oper) (Q : Post) (S : World → Prop) : List qv → Act → World → Prop
  | [], a, w => Q .normal a w
  | .one i :: l, a, w => wpOp P ops Q i (fun a' w' => (l = [] ∨ S w') ∧ jV P ops Q S l a' w') a w
  | .two i j :: l, a, w =>
    wpOp P ops Q i (fun a' w' => S w' ∧ wpOp P ops Q j (fun a2 w2 => S w2 ∧ jV P ops Q S l a2 w2) a' w') a w ∧
    wpOp P ops Q j (fun a' w' => S w' ∧ wpOp P ops Q i (fun a2 w2 => S w2 ∧ jV P ops Q S l a2 w2) a' w') a w
  | .three i k j :: l, a, w =>
    wpOp P ops Q i (fun a1 w1 => S w1 ∧ wpOp P ops Q k (fun a2 w2 => S w2 ∧ wpOp P ops Q j (fun a3 w3 => S w3 ∧ jV P ops Q S l a3 w3) a2 w2) a1 w1 ∧
      wpOp P ops Q j (fun a2 w2 => S w2 ∧ wpOp P ops Q k (fun a3 w3 => S w3 ∧ jV P ops Q S l a3 w3) a2 w2) a1 w1) a w ∧
    wpOp P ops Q j (fun a1 w1 => S w1 ∧ wpOp P ops Q i (fun a2 w2 => S w2 ∧ wpOp P ops Q k (fun a3 w3 => S w3 ∧ jV P ops Q S l a3 w3) a2 w2) a1 w1) a w
  | .perm G :: l, a, w => Db P ops Q S (jV P ops Q S l) G.length G a w
def s5 (ops : Array Oper) (n : Nat) : List qv → Array Bool → Bool
  | [], listed => (Region.ready .any ops listed).isEmpty
  | .one i :: l, listed => (Region.ready .any ops listed == [i]) && (!l.isEmpty || i == n) && s5 ops n l (listed.setIfInBounds i true)
  | .two i j :: l, listed => (Region.ready .any ops listed == [i, j]) && (Region.ready .any ops (listed.setIfInBounds i true) == [j]) && (Region.ready .any ops (listed.setIfInBounds j true) == [i]) && decide (i ≠ j) && s5 ops n l ((listed.setIfInBounds i true).setIfInBounds j true)
  | .three i k j :: l, listed => (Region.ready .any ops listed == [i, j]) && (Region.ready .any ops (listed.setIfInBounds i true) == [k, j]) && (Region.ready .any ops ((listed.setIfInBounds i true).setIfInBounds k true) == [j]) && (Region.ready .any ops ((listed.setIfInBounds i true).setIfInBounds j true) == [k]) &&
    (Region.ready .any ops (listed.setIfInBounds j true) == [i]) && decide (i ≠ j) && decide (k ≠ j) && s5 ops n l (((listed.setIfInBounds i true).setIfInBounds k true).setIfInBounds j true)
  | .perm G :: l, listed => BM ops (s5 ops n l) G.length G listed
def rF : List qv → Nat
  | [] => 0
  | .one _ :: l => rF l + 1
  | .two _ _ :: l => rF l + 2
  | .three _ _ _ :: l => rF l + 3
  | .perm G :: l => rF l + G.length
theorem Dc {K : Act → World → Prop} {f : Array Bool → Bool} {m : Nat} (hK : ∀ listed a w, f listed = true → K a w → ju P ops (NP Q) n S m listed a w) : ∀ (k : Nat) (G : List Nat) (listed : Array Bool) (a : Act) (w : World), BM ops f k G listed = true → Db P ops (NP Q) S K k G a w → ju P ops (NP Q) n S (m + k) listed a w
  | 0, G, listed, a, w, hb, h => hK listed a w hb h
  | k + 1, G, listed, a, w, hb, h => by
    unfold BM at hb
    simp only [Bool.and_eq_true, beq_iff_eq] at hb
    obtain ⟨⟨h1, h2⟩, h3⟩ := hb
    refine ⟨fun h0 => (by rw [h1] at h0; rw [h0] at h2; cases h2), fun j hj => ?_⟩
    rw [h1] at hj
    exact wpOp_mono (fun a' w' g => ⟨.inr g.1, Dc hK k (G.erase j) _ a' w' (List.all_eq_true.1 h3 j hj) g.2⟩) (h j hj)
theorem mI : ∀ (l : List qv) (listed : Array Bool) (a : Act) (w : World), s5 ops n l listed = true → jV P ops (NP Q) S l a w → ju P ops (NP Q) n S (rF l) listed a w
  | [], listed, a, w, hb, h => ⟨List.isEmpty_iff.1 hb, h⟩
  | .one i :: l, listed, a, w, hb, h => by
    unfold s5 at hb
    simp only [Bool.and_eq_true, beq_iff_eq] at hb
    obtain ⟨⟨h1, h2⟩, h3⟩ := hb
    refine ⟨fun h0 => (by rw [h1] at h0; cases h0), fun j hj => ?_⟩
    rw [h1] at hj
    have hj : j = i := by simpa using hj
    subst hj
    refine wpOp_mono (fun a' w' h4 => ⟨?_, mI l _ a' w' h3 h4.2⟩) h
    rcases h4.1 with h5 | h5
    ·subst h5; exact .inl (by simpa using h2)
    exact .inr h5
  | .two i j :: l, listed, a, w, hb, h => by
    unfold s5 at hb
    simp only [Bool.and_eq_true, beq_iff_eq, decide_eq_true_iff] at hb
    obtain ⟨⟨⟨⟨h1, h2⟩, h3⟩, hij⟩, h4⟩ := hb
    refine ⟨fun h0 => (by rw [h1] at h0; cases h0), fun k hk => ?_⟩
    rw [h1] at hk
    have hk : k = i ∨ k = j := by simpa using hk
    rcases hk with rfl | rfl
    ·refine wpOp_mono (fun a' w' h5 => ⟨.inr h5.1, fun h0 => (by rw [h2] at h0; cases h0), fun k' hk' => ?_⟩) h.1
     rw [h2] at hk'
     have hk' : k' = j := by simpa using hk'
     subst hk'
     exact wpOp_mono (fun a2 w2 h6 => ⟨.inr h6.1, mI l _ a2 w2 h4 h6.2⟩) h5.2
    refine wpOp_mono (fun a' w' h5 => ⟨.inr h5.1, fun h0 => (by rw [h3] at h0; cases h0), fun k' hk' => ?_⟩) h.2
    rw [h3] at hk'
    have hk' : k' = i := by simpa using hk'
    subst hk'
    refine wpOp_mono (fun a2 w2 h6 => ⟨.inr h6.1, ?_⟩) h5.2
    rw [Array.setIfInBounds_comm _ _ (fun e => hij e.symm)]
    exact mI l _ a2 w2 h4 h6.2
  | .three i k j :: l, listed, a, w, hb, h => by
    unfold s5 at hb
    simp only [Bool.and_eq_true, beq_iff_eq, decide_eq_true_iff] at hb
    obtain ⟨⟨⟨⟨⟨⟨⟨h1, h2⟩, h3⟩, h4⟩, h5⟩, hij⟩, hkj⟩, h6⟩ := hb
    have one : ∀ {x : Nat} {ls : Array Bool} {fuel : Nat} {a : Act} {w : World}, Region.ready .any ops ls = [x] → wpOp P ops (NP Q) x (fun a' w' => S w' ∧ ju P ops (NP Q) n S fuel (ls.setIfInBounds x true) a' w') a w → ju P ops (NP Q) n S (fuel + 1) ls a w := fun {x ls fuel a w} hr hx => by
      refine ⟨fun h0 => (by rw [hr] at h0; cases h0), fun y hy => ?_⟩
      rw [hr] at hy
      have hy : y = x := by simpa using hy
      subst hy
      exact wpOp_mono (fun a' w' h => ⟨.inr h.1, h.2⟩) hx
    have e1 : (((listed.setIfInBounds i true).setIfInBounds j true).setIfInBounds k true) = (((listed.setIfInBounds i true).setIfInBounds k true).setIfInBounds j true) := Array.setIfInBounds_comm _ _ (fun e => hkj e.symm)
    have e2 : ((listed.setIfInBounds j true).setIfInBounds i true) = ((listed.setIfInBounds i true).setIfInBounds j true) := Array.setIfInBounds_comm _ _ (fun e => hij e.symm)
    refine ⟨fun h0 => (by rw [h1] at h0; cases h0), fun x hx => ?_⟩
    rw [h1] at hx
    have hx : x = i ∨ x = j := by simpa using hx
    rcases hx with rfl | rfl
    ·refine wpOp_mono (fun a1 w1 g => ⟨.inr g.1, fun h0 => (by rw [h2] at h0; cases h0), fun y hy => ?_⟩) h.1
     rw [h2] at hy
     have hy : y = k ∨ y = j := by simpa using hy
     rcases hy with rfl | rfl
     ·exact wpOp_mono (fun a2 w2 g2 => ⟨.inr g2.1, one h3 (wpOp_mono (fun a3 w3 g3 => ⟨g3.1, mI l _ a3 w3 h6 g3.2⟩) g2.2)⟩) g.2.1
     exact wpOp_mono (fun a2 w2 g2 => ⟨.inr g2.1, one h4 (wpOp_mono (fun a3 w3 g3 => ⟨g3.1, by rw [e1]; exact mI l _ a3 w3 h6 g3.2⟩) g2.2)⟩) g.2.2
    refine wpOp_mono (fun a1 w1 g => ⟨.inr g.1, one h5 (wpOp_mono (fun a2 w2 g2 => ⟨g2.1, ?_⟩) g.2)⟩) h.2
    rw [e2]
    exact one h4 (wpOp_mono (fun a3 w3 g3 => ⟨g3.1, by rw [e1]; exact mI l _ a3 w3 h6 g3.2⟩) g2.2)
  | .perm G :: l, listed, a, w, hb, h => Dc (m := rF l) (fun ls a w hb h => mI l ls a w hb h) G.length G listed a w hb h
def lE (P : Program) (ops : Array Oper) (Q : Post) (S : World → Prop) (es : List qv) : List Nat → Act → World → Prop
  | [], a, w => jV P ops Q S es a w
  | i :: l, a, w => ∃ o v, ops[i]? = some o ∧ YieldsIf P ops S o v a ∧ lE P ops Q S es l (a.put o.dst v) w
def BN (ops : Array Oper) (n : Nat) (es : List qv) : List Nat → Array Bool → Bool
  | [], listed => s5 ops n es listed
  | i :: l, listed => decide (i < n) && Region.free .any ops listed i && (Region.ready .any ops listed).contains i && BN ops n es l (listed.setIfInBounds i true)
theorem Dd {es : List qv} (hsel : Region.noSelect ops = true) (mQ : Region.sinkB .any ops n = true) : ∀ (l : List Nat) (listed : Array Bool) (a : Act) (w : World), BN ops n es l listed = true → Closed ops listed → S w → lE P ops (NP Q) S es l a w → ju P ops (NP Q) n S (l.length + rF es) listed a w
  | [], listed, a, w, hb, _, _, h => by
    rw [List.length_nil, Nat.zero_add]
    exact mI es listed a w hb h
  | i :: l, listed, a, w, hb, hc, hS, h => by
    unfold BN at hb
    simp only [Bool.and_eq_true, decide_eq_true_iff] at hb
    obtain ⟨⟨⟨h1, h2⟩, h3⟩, h4⟩ := hb
    obtain ⟨o, v, ho, hy, hk⟩ := h
    have hr : i ∈ Region.ready .any ops listed := by simpa using h3
    have e : (i :: l).length + rF es = (l.length + rF es) + 1 := by rw [List.length_cons]; omega
    rw [e]
    exact pY ho hsel mQ h1 _ listed a w hc (Region.free_spec ho h2) hr hy hS (Dd hsel mQ l _ _ w h4 (hc.set hr) hS hk)
def Ev (ops : Array Oper) (rs : List Nat) (es : List qv) : Bool :=
  Region.noSelect ops && Region.sinkB .any ops (ops.size - 1) && (rs.length + rF es == ops.size) && BN ops (ops.size - 1) es rs (Array.replicate ops.size false)
end order
section mix
variable {P : Program} {β : Bs} {N : Nat} {ops : Array Oper} {S : List HP} {rs : List Nat} {es : List qv} {fr fr' : Fr} {hps : List HP} {Q : Post} {aU : List Prop} {i j : Nat}
def fS (P : Program) (β : Bs) (N : Nat) (ops : Array Oper) (S : List HP) (es : List qv) (rs : List Nat) (fr : Fr) (hps : List HP) (Q : Post) : Prop :=
  ∀ junk w, Sat β hps w → lE P ops (NP Q) (Sat β S) es rs (cD N fr junk) w
theorem af.pG {id : Nat} (rs : List Nat) (es : List qv) (pk : List Nat) (hm : P.follows .mixedOrders = true) (hB : Ev ops rs es = true) (hn : nodupB pk = true) (hp : bM hps pk = some S) (h : fS P β N ops S es rs fr hps Q) : af P β N (.region id ops true) fr hps Q := by
  intro junk w hS
  unfold Ev at hB
  simp only [Bool.and_eq_true, beq_iff_eq] at hB
  obtain ⟨⟨⟨h1, h2⟩, h3⟩, h4⟩ := hB
  have cR := hS.drewN 1
  have h5 := Dd (Q := Q) h1 h2 rs _ _ _ h4 (fun j oj _ hl => by simp [Array.getD_eq_getD_getElem?, Array.getElem?_replicate] at hl; split at hl <;> simp at hl) (cR.pick hn hp) (h junk (w.drewN 1) cR)
  rw [h3] at h5
  refine Code.wp_mono (fun e a w q => ?_) (wp_region_any hm (mP _ _ _ _ h5))
  cases e with
  | normal => exact q
  | exit id => exact q.elim
  | goto l => exact q.elim
  | ret => exact q.elim
  | panic ch => exact q.elim
  | outgrown => exact q.elim
theorem tL {junk : Nat → Value} {w : World} : ∀ {hs : List OH} {is : List Nat} {fr fr' : Fr} {T T' : SS}, nZ P β N junk ops hs is fr T = some (fr', T') → (∀ p, p ∈ T'.aU → p) → T.used = true → T.hps = S →
    lE P ops (NP Q) (Sat β S) es rs (cD N fr' junk) w → lE P ops (NP Q) (Sat β S) es (is ++ rs) (cD N fr junk) w
  | [], [], fr, fr', T, T', h, ho, hu, hT, hK => by cases h; exact hK
  | h :: hs, i :: is, fr, fr', T, T', hr, ho, hu, hT, hK => by
    unfold nZ at hr
    repeat' split at hr
    all_goals first | (cases hr; done) | skip
    rename_i o hget _ BZ _ v T1 h0 _ hv
    obtain ⟨e1, e2⟩ := rK h0
    rw [List.cons_append]
    unfold lE
    refine ⟨o, v, hget, .inl ⟨by unfold Region.wanted; rw [BZ], fun w' cR => ?_⟩, ?_⟩
    ·rw [dz]
     obtain ⟨w2, h1, _, _, h4⟩ := kJ h0 (fun p hp => ho p (sG hr p hp)) (by rw [hT]; exact cR) (fun e => by rw [hu] at e; cases e)
     obtain ⟨ew, _⟩ := h4 rfl
     rw [ew] at h1
     rcases h1 with h1 | ⟨h1, _⟩
     ·exact h1
     exact absurd h1 (qG hv)
    rw [di]
    exact tL hr ho (e2.trans hu) (e1.trans hT) hK
  | [], _ :: _, _, _, _, _, h, _, _, _, _ => by cases h
  | _ :: _, [], _, _, _, _, h, _, _, _, _ => by cases h
theorem fS.reads (is : List Nat) (hs : List OH) (idx : List Nat) (h : ∀ junk, vf P β N junk ops hs is fr S idx = some (fr', aU)) (ho : je aU) (K : fS P β N ops S es rs fr' hps Q) : fS P β N ops S es (is ++ rs) fr hps Q := by
  intro junk w hS
  have h0 := h junk
  unfold vf at h0
  split at h0
  ·rename_i kf S1 h1
   cases h0
   have hK := K (lk kf junk) w hS
   rw [← jd] at hK
   exact tL h1 (fun p hp => ho.mem hp) rfl rfl hK
  cases h0
theorem fS.pair {ι MT MU : Type} {Hs : MT → Fr} {hpi : MT → List HP} {Ht : MU → Fr} {Hu : MU → List HP} {fr' : ι → Fr} {hp' : ι → List HP} {oi oj : Oper} (O9 Pa pk : List Nat)
    (hi : ops[i]? = some oi) (Df : oi.guard = none) (hj : ops[j]? = some oj) (Ew : oj.guard = none)
    (h1 : aj P β N #[oi] 0 fr hps (NP (jo β N Hs hpi))) (h2 : ∀ a, aj P β N #[oj] 0 (Hs a) (hpi a) (NP (jo β N fr' hp')))
    (h3 : aj P β N #[oj] 0 fr hps (NP (jo β N Ht Hu))) (h4 : ∀ a, aj P β N #[oi] 0 (Ht a) (Hu a) (NP (jo β N fr' hp')))
    (hni : nodupB O9 = true) (PS : ∀ a, bM (hpi a) O9 = some S) (QB : nodupB Pa = true) (PU : ∀ a, bM (Hu a) Pa = some S) (hn : nodupB pk = true) (hp : ∀ a, bM (hp' a) pk = some S)
    (K : ∀ a, fS P β N ops S es [] (fr' a) (hp' a) Q) : fS P β N ops S (.two i j :: es) [] fr hps Q := by
  intro junk w hS
  unfold lE jV
  refine ⟨fq hi Df (iy (fun a w ⟨x, fL, ha, cR⟩ => ?_) (show wpList P #[oi] (NP (jo β N Hs hpi)) [oi] (cD N fr junk) w from h1 junk w hS)), fq hj Ew (iy (fun a w ⟨x, fL, ha, cR⟩ => ?_) (show wpList P #[oj] (NP (jo β N Ht Hu)) [oj] (cD N fr junk) w from h3 junk w hS))⟩
  ·subst ha
   refine ⟨cR.pick hni (PS x), fq hj Ew (iy (fun a w ⟨y, FJ, ha, hS2⟩ => ?_) (show wpList P #[oj] (NP (jo β N fr' hp')) [oj] (cD N (Hs x) fL) w from h2 x fL w cR))⟩
   subst ha
   exact ⟨hS2.pick hn (hp y), K y FJ _ hS2⟩
  subst ha
  refine ⟨cR.pick QB (PU x), fq hi Df (iy (fun a w ⟨y, FJ, ha, hS2⟩ => ?_) (show wpList P #[oi] (NP (jo β N fr' hp')) [oi] (cD N (Ht x) fL) w from h4 x fL w cR))⟩
  subst ha
  exact ⟨hS2.pick hn (hp y), K y FJ _ hS2⟩
theorem fS.three {k : Nat} {ι Hv Hw Hy Hz HB : Type} {fa : Hv → Fr} {ha : Hv → List HP} {fb : Hw → Fr} {hb : Hw → List HP} {fc : Hy → Fr} {hc : Hy → List HP} {fd : Hz → Fr} {hd : Hz → List HP} {fe : HB → Fr} {he : HB → List HP} {fr' : ι → Fr} {hp' : ι → List HP} {oi ok oj : Oper} (pa pb pc pd pe pk : List Nat)
    (hi : ops[i]? = some oi) (Df : oi.guard = none) (hk : ops[k]? = some ok) (MV : ok.guard = none) (hj : ops[j]? = some oj) (Ew : oj.guard = none)
    (h1 : aj P β N #[oi] 0 fr hps (NP (jo β N fa ha))) (h2 : ∀ x, aj P β N #[ok] 0 (fa x) (ha x) (NP (jo β N fb hb))) (h3 : ∀ x, aj P β N #[oj] 0 (fb x) (hb x) (NP (jo β N fr' hp')))
    (h4 : ∀ x, aj P β N #[oj] 0 (fa x) (ha x) (NP (jo β N fc hc))) (h5 : ∀ x, aj P β N #[ok] 0 (fc x) (hc x) (NP (jo β N fr' hp')))
    (h6 : aj P β N #[oj] 0 fr hps (NP (jo β N fd hd))) (h7 : ∀ x, aj P β N #[oi] 0 (fd x) (hd x) (NP (jo β N fe he))) (h8 : ∀ x, aj P β N #[ok] 0 (fe x) (he x) (NP (jo β N fr' hp')))
    (na : nodupB pa = true) (qa : ∀ x, bM (ha x) pa = some S) (nb : nodupB pb = true) (qb : ∀ x, bM (hb x) pb = some S) (nc : nodupB pc = true) (qc : ∀ x, bM (hc x) pc = some S) (nd : nodupB pd = true) (qd : ∀ x, bM (hd x) pd = some S) (ne : nodupB pe = true) (qe : ∀ x, bM (he x) pe = some S) (hn : nodupB pk = true) (hp : ∀ x, bM (hp' x) pk = some S)
    (K : ∀ a, fS P β N ops S es [] (fr' a) (hp' a) Q) : fS P β N ops S (.three i k j :: es) [] fr hps Q := by
  have step : ∀ {κ : Type} {g : κ → Fr} {hg : κ → List HP} {x : Nat} {o : Oper} {pg : List Nat} {f0 : Fr} {h0 : List HP} {junk : Nat → Value} {w : World} {R : Act → World → Prop}, ops[x]? = some o → o.guard = none → aj P β N #[o] 0 f0 h0 (NP (jo β N g hg)) → nodupB pg = true → (∀ y, bM (hg y) pg = some S) → Sat β h0 w →
      (∀ y junk w, Sat β (hg y) w → R (cD N (g y) junk) w) → wpOp P ops (NP Q) x (fun a w => Sat β S w ∧ R a w) (cD N f0 junk) w := fun {κ g hg x o pg f0 h0 junk w R} e1 e2 e3 e4 e5 e6 e7 =>
    fq e1 e2 (iy (fun a w ⟨y, fL, ea, cR⟩ => by subst ea; exact ⟨cR.pick e4 (e5 y), e7 y fL w cR⟩) (show wpList P #[o] (NP (jo β N g hg)) [o] (cD N f0 junk) w from e3 junk w e6))
  intro junk w hS
  unfold lE jV
  have fin : ∀ y junk w, Sat β (hp' y) w → jV P ops (NP Q) (Sat β S) es (cD N (fr' y) junk) w := fun y junk w h => K y junk w h
  refine ⟨step hi Df h1 na qa hS (fun x jx wx sx => ⟨?_, ?_⟩), step hj Ew h6 nd qd hS (fun x jx wx sx => step hi Df (h7 x) ne qe sx (fun y jy wy sy => step hk MV (h8 y) hn hp sy fin))⟩
  ·exact step hk MV (h2 x) nb qb sx (fun y jy wy sy => step hj Ew (h3 y) hn hp sy fin)
  exact step hj Ew (h4 x) nc qc sx (fun y jy wy sy => step hk MV (h5 y) hn hp sy fin)
theorem fS.cut {ι : Type} {fr' : ι → Fr} {hp' : ι → List HP} {o : Oper} (pk : List Nat) (hop : ops[i]? = some o) (hg : o.guard = none) (h : aj P β N #[o] 0 fr hps (NP (jo β N fr' hp'))) (hn : nodupB pk = true) (hp : ∀ j, bM (hp' j) pk = some S)
    (K : ∀ j, fS P β N ops S es [] (fr' j) (hp' j) Q) : fS P β N ops S (.one i :: es) [] fr hps Q := by
  intro junk w hS
  unfold lE jV
  refine fq hop hg (iy (fun a w ⟨j, fL, ha, cR⟩ => ?_) (show wpList P #[o] (NP (jo β N fr' hp')) [o] (cD N fr junk) w from h junk w hS))
  subst ha
  exact ⟨.inr (cR.pick hn (hp j)), K j fL _ cR⟩
def Rx (P : Program) (β : Bs) (N : Nat) (ops : Array Oper) (Q : Post) (i d : Nat) (ds : List Nat) (fr : Fr) (pre : List HP) (post : Value → List HP → Prop) : Prop :=
  ∀ junk w (A : bT), Sat β (pre ++ [.abs A]) w → wpOp P ops (NP Q) i (fun a' w' => ∃ v l fL, post v l ∧ a' = cD N fr fL ∧ fL d = v ∧ (∀ t ∈ ds, t ≠ d → fL t = junk t) ∧ Sat β (l ++ [.abs A]) w') (cD N fr junk) w
def RQ (QC : List Nat) (u : Nat → Value) : Fr := QC.map fun t => (t, u t)
theorem fS.last {o : Oper} (hop : ops[i]? = some o) (hg : o.guard = none) (h : aj P β N #[o] 0 fr hps (NP Q)) : fS P β N ops S [.one i] [] fr hps Q := by
  intro junk w hS
  unfold lE jV
  exact fq hop hg (iy (fun a w hq => ⟨.inl rfl, by unfold jV; exact hq⟩) (show wpList P #[o] (NP Q) [o] (cD N fr junk) w from h junk w hS))
end mix
end
end Go.Proofs.YtkiedlmhocglhaaGreatDoor
