/-
  PROVED HERE: lemmas and contracts of functions (texts of this repo, joined; what the claim does not use is left out): H7, Vg, H8, H9, Vh, HD, H10, ShelfS, SK, HG, Vp.
  CONDITIONS: as the theorems say.
-/
import Derived.Test.YtkiedlmhocglhaaGreatDoorMHnames3
import Derived.Shelf.SlGeneric
import Derived.Shelf.SlIter.Nil
import Derived.Shelf.SortM.Plain
import Derived.Shelf.SortM.SortNone
import Derived.Ground.GgzProg
import Derived.Ground.SlgmProg
import Derived.Test.YtkiedlmhocglhaaGreatDoorProg
set_option maxRecDepth 100000
set_option maxHeartbeats 4000000
namespace Go.Proofs.YtkiedlmhocglhaaGreatDoor
section
open Go.RowKit Go.Maps HeapM TabM
attribute [local irreducible] aj aT af ai
abbrev jF (t) (S : aG) (L : HL) := (pT t S.X.cH S.au L S.us : HP)
abbrev lU (m : Nat) (L : HL) (S : aG) (cb : Nat) (c) (R : bR) := ([pI m L S.idx, pD S.O L, pE S.O L, pC cb c, .abs R] : List HP)
abbrev JF (f : Nat) (c : aU) := ([(8, vP f), (12, vI (c.handle)), (16, .string c.name)] : Fr)
abbrev Cl (L : HL) (d : Nat) := ([(5, vP (L.b d)), (6, vI 0)] : Fr)
abbrev mM (f : Nat) (m : Nat) (t) (S : aG) (L : HL) := ([pF f m t S.X, jF t S L, pO S.O L] : List HP)
abbrev Gm (e) := ([(5, .pointer none), (6, vI (e))] : Fr)
theorem fP {β : Bs} (S : aG) (L : HL) (f m t : Nat) (hI : Inv S) (cb : Nat) (c : aU) (hC : fB β c) :
    Spec Tryz.prog β 133 #[vP f, vP cb] ((pA f m t L S) ++ [pC cb c]) (fun v l => v = Og L (ez S.O S.us c) ∧ l = ((pA f m t L S) ++ [pC cb c])) := by
 refine Spec.enter Tryz.func133 rfl Tryz.ntmps133 (Nat.le_of_ble_eq_true rfl) (fun R => ?_)
 refine SR ?_
 refine gK 2 [] [] ?_
 refine NN (af.seq ?_)
 refine af.bG (by kernel_rfl) (by kernel_rfl) ?_
 refine gQ 9 [(10, vP f), (14, vI (c.handle)), (18, .string c.name)] [(4, a_ 6 cb), (8, a_ 6 cb)] ?_
 rcases jd hI.toInv0 c.handle c.name 64 with ⟨e, hab, hne⟩ | ⟨d, hab, hd, fY, hgn, cE⟩
 ·refine aT.call (f := 134) (args := #[vP f, vI (c.handle), .string c.name, vI 64]) (d := (some 19)) (pre := (mM f m t S L)) (R := (lU m L S cb c R)) (pk := [0, 2, 3, 1, 4, 5, 6, 7]) (gy := [0, 3, 1, 2, 4, 5, 6, 7]) (v0 := .tuple #[.pointer none, vI (e)]) (fun _ => by kernel_rfl) ((by have h := cX S L f m t hI c.handle hC.hw c.name hC.nm 64 (β := β); rw [hab] at h; exact h)) rfl (by kernel_rfl) rfl (by kernel_rfl) (fun _ _ h => h) ?_
  refine gQ 5 [(6, .pointer none), (7, vI (e))] [] ?_
  refine NQ (NX (af.seq (SR ?_)))
  refine gK 2 [(23, .bool (!(decide ((e : Int) = (0 : Int)))))] [] ?_
  refine NN ?_
  refine af.ct (p := (e : Int) = (0 : Int)) (fun _ => by kernel_rfl) (fun h23 => ?_) (fun h23 => ?_)
  ·refine SR ?_
   refine gK 3 [(4, .nilIface), (5, vI (e))] [] ?_
   refine NN (af.ret (ai.aq ?_))
   exact RT (.tuple #[.nilIface, vI (e)]) [0, 1, 2, 3, 4, 5, 6, 7] (⟨by rw [show ez S.O S.us c = .error e by unfold ez; rw [hab]]; rfl, rfl⟩)
  exact absurd h23 hne
 have hkd : (obj S.O d).kind = 2 := hI.kind hd
 refine aT.call (f := 134) (args := #[vP f, vI (c.handle), .string c.name, vI 64]) (d := (some 19)) (pre := (mM f m t S L)) (R := (lU m L S cb c R)) (pk := [0, 2, 3, 1, 4, 5, 6, 7]) (gy := [0, 3, 1, 2, 4, 5, 6, 7]) (v0 := .tuple #[vP (L.b d), vI 0]) (fun _ => by kernel_rfl) ((by have h := cX S L f m t hI c.handle hC.hw c.name hC.nm 64 (β := β); rw [hab] at h; exact h)) rfl (by kernel_rfl) rfl (by kernel_rfl) (fun _ _ h => h) ?_
 refine gQ 5 [(6, vP (L.b d)), (7, vI 0)] [] ?_
 refine NQ (NX (af.seq (SR ?_)))
 refine gK 2 [(23, .bool false)] [] ?_
 refine NN ?_
 refine CF ?_
 refine af.skip (NX (af.seq ?_))
 have hel : (obj S.O d).ah.length ≤ 8192 := hI.eM hd
 have Na := hC.nm
 rcases hI.jS hd c.name with hlk | ⟨tk, hlk, hlv⟩ | ⟨tk, hlk, hlv⟩ | ⟨tk, hlk, hlv⟩
 ·refine af.bG (by kernel_rfl) (by kernel_rfl) ?_
  refine gQ 8 [(28, .map (some (L.m d))), (32, .string c.name)] [(3, v_ 3 (bC L hkd)), (7, a_ 6 cb)] ?_
  refine oo 5 hkd hlk ?_
  refine gQ 1 [(8, .nilIface)] [] ?_
  refine NQ (NX (af.seq (SR ?_)))
  refine gK 2 [(35, .bool true)] [] ?_
  refine NN ?_
  refine CT ?_
  refine SR ?_
  refine gK 2 [(4, .nilIface), (5, vI 170)] [] ?_
  refine NN (af.ret (ai.aq ?_))
  exact RT (.tuple #[.nilIface, vI 170]) [0, 1, 2, 3, 4, 5, 6, 7] (⟨by rw [show ez S.O S.us c = .error 170 by unfold ez; rw [hab]; simp only; rw [hlk]]; rfl, rfl⟩)
 ·have hkt : (obj S.O tk).kind = 1 := hI.kind hlv
  refine af.bG (by kernel_rfl) (by kernel_rfl) ?_
  refine gQ 8 [(28, .map (some (L.m d))), (32, .string c.name)] [(3, v_ 3 (bC L hkd)), (7, a_ 6 cb)] ?_
  refine oo 5 hkd hlk ?_
  refine gQ 1 [(8, .iface 89 (vP (L.b tk)))] [] ?_
  refine NQ (NX (af.seq (SR ?_)))
  refine gK 2 [(35, .bool false)] [] ?_
  refine NN ?_
  refine CF ?_
  refine af.skip (NX (SR ?_))
  refine gK 3 [(4, .iface 89 (vP (L.b tk))), (5, vI 0)] [] ?_
  refine NN (af.ret ?_)
  exact RT (.tuple #[.iface 89 (vP (L.b tk)), vI 0]) [0, 1, 2, 3, 4, 5, 6, 7] (⟨by rw [show ez S.O S.us c = .ok ⟨tk, 1⟩ by unfold ez; rw [hab]; simp only; rw [hlk]]; rfl, rfl⟩)
 ·have hkt : (obj S.O tk).kind = 2 := hI.kind hlv
  refine af.bG (by kernel_rfl) (by kernel_rfl) ?_
  refine gQ 8 [(28, .map (some (L.m d))), (32, .string c.name)] [(3, v_ 3 (bC L hkd)), (7, a_ 6 cb)] ?_
  refine oo 5 hkd hlk ?_
  refine gQ 1 [(8, .iface 96 (vP (L.b tk)))] [] ?_
  refine NQ (NX (af.seq (SR ?_)))
  refine gK 2 [(35, .bool false)] [] ?_
  refine NN ?_
  refine CF ?_
  refine af.skip (NX (SR ?_))
  refine gK 3 [(4, .iface 96 (vP (L.b tk))), (5, vI 0)] [] ?_
  refine NN (af.ret ?_)
  exact RT (.tuple #[.iface 96 (vP (L.b tk)), vI 0]) [0, 1, 2, 3, 4, 5, 6, 7] (⟨by rw [show ez S.O S.us c = .ok ⟨tk, 2⟩ by unfold ez; rw [hab]; simp only; rw [hlk]]; rfl, rfl⟩)
 have hkt : (obj S.O tk).kind = 3 := hI.kind hlv
 refine af.bG (by kernel_rfl) (by kernel_rfl) ?_
 refine gQ 8 [(28, .map (some (L.m d))), (32, .string c.name)] [(3, v_ 3 (bC L hkd)), (7, a_ 6 cb)] ?_
 refine oo 5 hkd hlk ?_
 refine gQ 1 [(8, .iface 93 (vP (L.b tk)))] [] ?_
 refine NQ (NX (af.seq (SR ?_)))
 refine gK 2 [(35, .bool false)] [] ?_
 refine NN ?_
 refine CF ?_
 refine af.skip (NX (SR ?_))
 refine gK 3 [(4, .iface 93 (vP (L.b tk))), (5, vI 0)] [] ?_
 refine NN (af.ret ?_)
 exact RT (.tuple #[.iface 93 (vP (L.b tk)), vI 0]) [0, 1, 2, 3, 4, 5, 6, 7] (⟨by rw [show ez S.O S.us c = .ok ⟨tk, 3⟩ by unfold ez; rw [hab]; simp only; rw [hlk]]; rfl, rfl⟩)
theorem EF {β : Bs} (S : aG) (L : HL) (f m t : Nat) (hI : Inv S) (cb : Nat) (c : aU) (hC : fB β c) :
    Spec Tryz.prog β 78 #[vP f, vP cb] ((pA f m t L S) ++ [pC cb c]) (fun v l => ∃ L2, v = vI (iy S c).1 ∧ l = ((pA f m t L2 ((iy S c).2.1)) ++ [.blk cb (fT ((iy S c).2.2)) 43])) := by
 have hX := hI.hX
 refine Spec.enter Tryz.func78 rfl Tryz.ntmps78 (Nat.le_of_ble_eq_true rfl) (fun R => ?_)
 refine SR ?_
 refine gK 1 [] [] ?_
 refine NN (af.seq ?_)
 rcases hI.Ld c.other with hix | ⟨tk, hix, hlv⟩ | ⟨tk, hix, hlv⟩ | ⟨tk, hix, hlv⟩
 ·refine af.bG (by kernel_rfl) (by kernel_rfl) ?_
  refine gQ 8 [(10, .map (some m)), (14, vI (c.other))] [(3, a_ 0 f), (7, a_ 6 cb)] ?_
  refine aT.dI 1 (d := (some 15)) (t := 80) (K := 3) (E := 84) (b := m) (n := S.idx.length) (f := (aM (aJ L S.idx))) (x := (.tmp 10)) (ix := (.tmp 14)) (key := .int .i64 (c.other)) (z := .nilIface) (kl := (.int .i64 c.other)) (r := none) (fun _ => by kernel_rfl) (by kernel_rfl) (fun _ => by kernel_rfl) (fun _ => by kernel_rfl) dr Tryz.underlying80 (fun _ => by kernel_rfl) (gG hC.ow) (by rw [dJ, hix]; rfl) ?_
  refine gQ 1 [(5, .nilIface)] [] ?_
  refine NQ (NX (af.seq (SR ?_)))
  refine gK 2 [(17, .bool true)] [] ?_
  refine NN ?_
  refine CT ?_
  refine SR ?_
  refine gK 1 [(4, vI 141)] [] ?_
  refine NN (af.ret (ai.aq ?_))
  exact RT (vI 141) [0, 1, 2, 3, 4, 5, 6, 7] (⟨L, by rw [show (iy S c) = (141, S, c) by unfold iy; rw [hix]] <;> exact ⟨rfl, rfl⟩⟩)
 ·have hkt : (obj S.O tk).kind = 1 := hI.kind hlv
  refine af.bG (by kernel_rfl) (by kernel_rfl) ?_
  refine gQ 8 [(10, .map (some m)), (14, vI (c.other))] [(3, a_ 0 f), (7, a_ 6 cb)] ?_
  refine aT.dI 1 (d := (some 15)) (t := 80) (K := 3) (E := 84) (b := m) (n := S.idx.length) (f := (aM (aJ L S.idx))) (x := (.tmp 10)) (ix := (.tmp 14)) (key := .int .i64 (c.other)) (z := .nilIface) (kl := (.int .i64 c.other)) (r := (some (cI L ⟨tk, 1⟩))) (fun _ => by kernel_rfl) (by kernel_rfl) (fun _ => by kernel_rfl) (fun _ => by kernel_rfl) dr Tryz.underlying80 (fun _ => by kernel_rfl) (gG hC.ow) (by rw [dJ, hix]; rfl) ?_
  refine gQ 1 [(5, .iface 89 (vP (L.b tk)))] [] ?_
  refine NQ (NX (af.seq (SR ?_)))
  refine gK 2 [(17, .bool false)] [] ?_
  refine NN ?_
  refine CF ?_
  refine af.skip (NX (af.seq (SR ?_)))
  refine gK 1 [(18, .iface 89 (vP (L.b tk)))] [] ?_
  refine gL [] (jw (vP (L.b tk))) ?_
  rintro _ _ ⟨rfl, rfl⟩
  refine gK 1 [(20, .bool true)] [] ?_
  refine NN ?_
  refine CT ?_
  refine SR ?_
  refine gK 1 [(4, vI 173)] [] ?_
  refine NN (af.ret (ai.aq ?_))
  exact RT (vI 173) [0, 1, 2, 3, 4, 5, 6, 7] (⟨L, by rw [show (iy S c) = (173, S, c) by unfold iy; rw [hix]; exact if_neg (by simp)] <;> exact ⟨rfl, rfl⟩⟩)
 ·have hkt : (obj S.O tk).kind = 2 := hI.kind hlv
  refine af.bG (by kernel_rfl) (by kernel_rfl) ?_
  refine gQ 8 [(10, .map (some m)), (14, vI (c.other))] [(3, a_ 0 f), (7, a_ 6 cb)] ?_
  refine aT.dI 1 (d := (some 15)) (t := 80) (K := 3) (E := 84) (b := m) (n := S.idx.length) (f := (aM (aJ L S.idx))) (x := (.tmp 10)) (ix := (.tmp 14)) (key := .int .i64 (c.other)) (z := .nilIface) (kl := (.int .i64 c.other)) (r := (some (cI L ⟨tk, 2⟩))) (fun _ => by kernel_rfl) (by kernel_rfl) (fun _ => by kernel_rfl) (fun _ => by kernel_rfl) dr Tryz.underlying80 (fun _ => by kernel_rfl) (gG hC.ow) (by rw [dJ, hix]; rfl) ?_
  refine gQ 1 [(5, .iface 96 (vP (L.b tk)))] [] ?_
  refine NQ (NX (af.seq (SR ?_)))
  refine gK 2 [(17, .bool false)] [] ?_
  refine NN ?_
  refine CF ?_
  refine af.skip (NX (af.seq (SR ?_)))
  refine gK 1 [(18, .iface 96 (vP (L.b tk)))] [] ?_
  refine gL [] (jA (vP (L.b tk))) ?_
  rintro _ _ ⟨rfl, rfl⟩
  refine gK 1 [(20, .bool false)] [] ?_
  refine NN ?_
  refine CF ?_
  refine af.skip (NX (SR ?_))
  refine gK 1 [] [] ?_
  refine NS ?_
  refine gK 3 [(22, vP cb), (23, vP f), (24, .iface 96 (vP (L.b tk)))] [] ?_
  refine gL [0, 2, 3] (pK S L f m t ⟨tk, 2⟩ hkt (by simp) (by have := hI.zX hlv; simp only at this ⊢; omega)) ?_
  rintro _ _ ⟨rfl, rfl⟩
  refine gC 7 [(6, vI ((openM S ⟨tk, 2⟩).2.1))] [(5, a_ 6 cb)] [(6, [(12, vI ((openM S ⟨tk, 2⟩).1))])] ?_
  refine NS ?_
  refine aj.mem (aR := [.blk f [vI (S.X.cN), vI (S.X.cB), vI (S.X.cH), vI (S.X.cS), vI (S.X.cZ), .map (some m), vP t, vI (S.X.last), vI (S.X.ah), vI (S.X.used)] 86, .abs (bp 156 t S.X.cH ((openM S ⟨tk, 2⟩).2.2.au) (aJ L ((openM S ⟨tk, 2⟩).2.2.us))), .abs (ak (aN ((openM S ⟨tk, 2⟩).2.2.O) L)), .abs (aI Tryz.prog 3 m (aM (aJ L S.idx)) S.idx.length), .abs (ak (aY ((openM S ⟨tk, 2⟩).2.2.O) L)), .abs (ak (bg ((openM S ⟨tk, 2⟩).2.2.O) L)), .blk cb [vI (c.op), vI (c.handle), vI (c.other), .string c.name, .string c.text, .slice c.dA (c.data.length) (c.dC), vI (c.mode), vI (c.uid), vI (c.gid), vI (c.sec), vI (c.nano), vI (c.code), vI ((openM S ⟨tk, 2⟩).1)] 43, .abs R]) (fun w hS => by rw [wk, wm]; exact hS) ?_
  refine gK 2 [(4, vI ((openM S ⟨tk, 2⟩).2.1))] [] ?_
  refine NN (af.ret ?_)
  exact RT (vI ((openM S ⟨tk, 2⟩).2.1)) [0, 3, 1, 2, 4, 5, 6, 7] (⟨L, by rw [show (iy S c) = ((openM S ⟨tk, 2⟩).2.1, (openM S ⟨tk, 2⟩).2.2, { c with answer := (openM S ⟨tk, 2⟩).1 }) by unfold iy; rw [hix]; exact if_pos rfl] <;> exact ⟨rfl, rfl⟩⟩)
 have hkt : (obj S.O tk).kind = 3 := hI.kind hlv
 refine af.bG (by kernel_rfl) (by kernel_rfl) ?_
 refine gQ 8 [(10, .map (some m)), (14, vI (c.other))] [(3, a_ 0 f), (7, a_ 6 cb)] ?_
 refine aT.dI 1 (d := (some 15)) (t := 80) (K := 3) (E := 84) (b := m) (n := S.idx.length) (f := (aM (aJ L S.idx))) (x := (.tmp 10)) (ix := (.tmp 14)) (key := .int .i64 (c.other)) (z := .nilIface) (kl := (.int .i64 c.other)) (r := (some (cI L ⟨tk, 3⟩))) (fun _ => by kernel_rfl) (by kernel_rfl) (fun _ => by kernel_rfl) (fun _ => by kernel_rfl) dr Tryz.underlying80 (fun _ => by kernel_rfl) (gG hC.ow) (by rw [dJ, hix]; rfl) ?_
 refine gQ 1 [(5, .iface 93 (vP (L.b tk)))] [] ?_
 refine NQ (NX (af.seq (SR ?_)))
 refine gK 2 [(17, .bool false)] [] ?_
 refine NN ?_
 refine CF ?_
 refine af.skip (NX (af.seq (SR ?_)))
 refine gK 1 [(18, .iface 93 (vP (L.b tk)))] [] ?_
 refine gL [] (j5 (vP (L.b tk))) ?_
 rintro _ _ ⟨rfl, rfl⟩
 refine gK 1 [(20, .bool true)] [] ?_
 refine NN ?_
 refine CT ?_
 refine SR ?_
 refine gK 1 [(4, vI 173)] [] ?_
 refine NN (af.ret (ai.aq ?_))
 exact RT (vI 173) [0, 1, 2, 3, 4, 5, 6, 7] (⟨L, by rw [show (iy S c) = (173, S, c) by unfold iy; rw [hix]; exact if_neg (by simp)] <;> exact ⟨rfl, rfl⟩⟩)
theorem Av {β : Bs} (S : aG) (L : HL) (f m t : Nat) (hI : Inv S) (cb : Nat) (c : aU) (hC : fB β c) :
    Spec Tryz.prog β 79 #[vP f, vP cb] ((pA f m t L S) ++ [pC cb c]) (fun v l => ∃ L2, v = vI (dN S c).1 ∧ l = ((pA f m t L2 ((dN S c).2.1)) ++ [.blk cb (fT ((dN S c).2.2)) 43])) := by
 have hX := hI.hX
 refine Spec.enter Tryz.func79 rfl Tryz.ntmps79 (Nat.le_of_ble_eq_true rfl) (fun R => ?_)
 refine SR ?_
 refine gK 1 [] [] ?_
 refine NS ?_
 refine gK 2 [(8, vP f), (9, vP cb)] [] ?_
 rcases xC hI.toInv0 c with ⟨e, hnm, hne⟩ | ⟨tk, hnm, hlv⟩ | ⟨tk, hnm, hlv⟩ | ⟨tk, hnm, hlv⟩
 ·refine gL (f := 133) (args := #[vP f, vP cb]) (pre := ((pA f m t L S) ++ [pC cb c])) [0, 1, 2, 3, 4, 5, 6] ((by have h := fP S L f m t hI cb c hC (β := β); rw [hnm] at h; exact h)) ?_
  rintro _ _ ⟨rfl, rfl⟩
  refine gK 5 [(5, .nilIface), (6, vI (e))] [] ?_
  refine NN (af.seq (SR ?_))
  refine gK 2 [(14, .bool (!(decide ((e : Int) = (0 : Int)))))] [] ?_
  refine NN ?_
  refine af.ct (p := (e : Int) = (0 : Int)) (fun _ => by kernel_rfl) (fun gj => ?_) (fun gj => ?_)
  ·refine SR ?_
   refine gK 2 [(4, vI (e))] [] ?_
   refine NN (af.ret (ai.aq ?_))
   exact RT (vI (e)) [0, 1, 2, 3, 4, 5, 6, 7] (⟨L, by rw [show (dN S c) = (e, S, c) by unfold dN; rw [hnm]] <;> exact ⟨rfl, rfl⟩⟩)
  exact absurd gj hne
 ·have hkt : (obj S.O tk).kind = 1 := hI.kind hlv
  refine gL (f := 133) (args := #[vP f, vP cb]) (pre := ((pA f m t L S) ++ [pC cb c])) [0, 1, 2, 3, 4, 5, 6] ((by have h := fP S L f m t hI cb c hC (β := β); rw [hnm] at h; exact h)) ?_
  rintro _ _ ⟨rfl, rfl⟩
  refine gK 5 [(5, .iface 89 (vP (L.b tk))), (6, vI 0)] [] ?_
  refine NN (af.seq (SR ?_))
  refine gK 2 [(14, .bool false)] [] ?_
  refine NN ?_
  refine CF ?_
  refine af.skip (NX (af.seq (SR ?_)))
  refine gK 1 [(16, .iface 89 (vP (L.b tk)))] [] ?_
  refine NN (af.block (SR ?_))
  refine gK 3 [(18, .bool false)] [] ?_
  refine NN ?_
  refine CF ?_
  refine SR ?_
  refine gK 3 [(21, .bool true)] [] ?_
  refine NN ?_
  refine CT ?_
  refine SR ?_
  refine gK 1 [(4, vI 173)] [] ?_
  refine NN (af.ret (ai.aE (ai.aq ?_)))
  exact RT (vI 173) [0, 1, 2, 3, 4, 5, 6, 7] (⟨L, by rw [show (dN S c) = (173, S, c) by unfold dN; rw [hnm]; exact (if_neg (by simp)).trans (if_pos rfl)] <;> exact ⟨rfl, rfl⟩⟩)
 ·have hkt : (obj S.O tk).kind = 2 := hI.kind hlv
  refine gL (f := 133) (args := #[vP f, vP cb]) (pre := ((pA f m t L S) ++ [pC cb c])) [0, 1, 2, 3, 4, 5, 6] ((by have h := fP S L f m t hI cb c hC (β := β); rw [hnm] at h; exact h)) ?_
  rintro _ _ ⟨rfl, rfl⟩
  refine gK 5 [(5, .iface 96 (vP (L.b tk))), (6, vI 0)] [] ?_
  refine NN (af.seq (SR ?_))
  refine gK 2 [(14, .bool false)] [] ?_
  refine NN ?_
  refine CF ?_
  refine af.skip (NX (af.seq (SR ?_)))
  refine gK 1 [(16, .iface 96 (vP (L.b tk)))] [] ?_
  refine NN (af.block (SR ?_))
  refine gK 3 [(18, .bool false)] [] ?_
  refine NN ?_
  refine CF ?_
  refine SR ?_
  refine gK 3 [(21, .bool false)] [] ?_
  refine NN ?_
  refine CF ?_
  refine af.skip (ai.aQ (NX (SR ?_)))
  refine gK 3 [(24, vP cb), (25, vP f), (26, .iface 96 (vP (L.b tk)))] [] ?_
  refine gL [0, 2, 3] (pK S L f m t ⟨tk, 2⟩ hkt (by simp) (by have := hI.zX hlv; simp only at this ⊢; omega)) ?_
  rintro _ _ ⟨rfl, rfl⟩
  refine gC 7 [(6, vI ((openM S ⟨tk, 2⟩).2.1))] [(5, a_ 6 cb)] [(6, [(12, vI ((openM S ⟨tk, 2⟩).1))])] ?_
  refine NS ?_
  refine aj.mem (aR := [.blk f [vI (S.X.cN), vI (S.X.cB), vI (S.X.cH), vI (S.X.cS), vI (S.X.cZ), .map (some m), vP t, vI (S.X.last), vI (S.X.ah), vI (S.X.used)] 86, .abs (bp 156 t S.X.cH ((openM S ⟨tk, 2⟩).2.2.au) (aJ L ((openM S ⟨tk, 2⟩).2.2.us))), .abs (ak (aN ((openM S ⟨tk, 2⟩).2.2.O) L)), .abs (aI Tryz.prog 3 m (aM (aJ L S.idx)) S.idx.length), .abs (ak (aY ((openM S ⟨tk, 2⟩).2.2.O) L)), .abs (ak (bg ((openM S ⟨tk, 2⟩).2.2.O) L)), .blk cb [vI (c.op), vI (c.handle), vI (c.other), .string c.name, .string c.text, .slice c.dA (c.data.length) (c.dC), vI (c.mode), vI (c.uid), vI (c.gid), vI (c.sec), vI (c.nano), vI (c.code), vI ((openM S ⟨tk, 2⟩).1)] 43, .abs R]) (fun w hS => by rw [wk, wm]; exact hS) ?_
  refine gK 2 [(4, vI ((openM S ⟨tk, 2⟩).2.1))] [] ?_
  refine NN (af.ret ?_)
  exact RT (vI ((openM S ⟨tk, 2⟩).2.1)) [0, 3, 1, 2, 4, 5, 6, 7] (⟨L, by rw [show (dN S c) = ((openM S ⟨tk, 2⟩).2.1, (openM S ⟨tk, 2⟩).2.2, { c with answer := (openM S ⟨tk, 2⟩).1 }) by unfold dN; rw [hnm]; exact (if_neg (by simp)).trans (if_neg (by simp))] <;> exact ⟨rfl, rfl⟩⟩)
 have hkt : (obj S.O tk).kind = 3 := hI.kind hlv
 refine gL (f := 133) (args := #[vP f, vP cb]) (pre := ((pA f m t L S) ++ [pC cb c])) [0, 1, 2, 3, 4, 5, 6] ((by have h := fP S L f m t hI cb c hC (β := β); rw [hnm] at h; exact h)) ?_
 rintro _ _ ⟨rfl, rfl⟩
 refine gK 5 [(5, .iface 93 (vP (L.b tk))), (6, vI 0)] [] ?_
 refine NN (af.seq (SR ?_))
 refine gK 2 [(14, .bool false)] [] ?_
 refine NN ?_
 refine CF ?_
 refine af.skip (NX (af.seq (SR ?_)))
 refine gK 1 [(16, .iface 93 (vP (L.b tk)))] [] ?_
 refine NN (af.block (SR ?_))
 refine gK 3 [(18, .bool true)] [] ?_
 refine NN ?_
 refine CT ?_
 refine SR ?_
 refine gK 1 [(4, vI 174)] [] ?_
 refine NN (af.ret (ai.aE (ai.aq ?_)))
 exact RT (vI 174) [0, 1, 2, 3, 4, 5, 6, 7] (⟨L, by rw [show (dN S c) = (174, S, c) by unfold dN; rw [hnm]; exact if_pos rfl] <;> exact ⟨rfl, rfl⟩⟩)
theorem zf {β : Bs} (S : aG) (L : HL) (f m t : Nat) (hI : Inv S) (cb : Nat) (c : aU) (hC : fB β c) :
    Spec Tryz.prog β 80 #[vP f, vP cb] ((pA f m t L S) ++ [pC cb c]) (fun v l => ∃ L2, v = vI (dw S c).1 ∧ l = ((pA f m t L2 ((dw S c).2.1)) ++ [.blk cb (fT ((dw S c).2.2)) 43])) := by
 have hX := hI.hX
 refine Spec.enter Tryz.func80 rfl Tryz.ntmps80 (Nat.le_of_ble_eq_true rfl) (fun R => ?_)
 refine SR ?_
 refine gK 1 [] [] ?_
 refine NS ?_
 refine gK 2 [(8, vP f), (9, vP cb)] [] ?_
 rcases xC hI.toInv0 c with ⟨e, hnm, hne⟩ | ⟨tk, hnm, hlv⟩ | ⟨tk, hnm, hlv⟩ | ⟨tk, hnm, hlv⟩
 ·refine gL (f := 133) (args := #[vP f, vP cb]) (pre := ((pA f m t L S) ++ [pC cb c])) [0, 1, 2, 3, 4, 5, 6] ((by have h := fP S L f m t hI cb c hC (β := β); rw [hnm] at h; exact h)) ?_
  rintro _ _ ⟨rfl, rfl⟩
  refine gK 5 [(5, .nilIface), (6, vI (e))] [] ?_
  refine NN (af.seq (SR ?_))
  refine gK 2 [(14, .bool (!(decide ((e : Int) = (0 : Int)))))] [] ?_
  refine NN ?_
  refine af.ct (p := (e : Int) = (0 : Int)) (fun _ => by kernel_rfl) (fun gj => ?_) (fun gj => ?_)
  ·refine SR ?_
   refine gK 2 [(4, vI (e))] [] ?_
   refine NN (af.ret (ai.aq ?_))
   exact RT (vI (e)) [0, 1, 2, 3, 4, 5, 6, 7] (⟨L, by rw [show (dw S c) = (e, S, c) by unfold dw; rw [hnm]] <;> exact ⟨rfl, rfl⟩⟩)
  exact absurd gj hne
 ·have hkt : (obj S.O tk).kind = 1 := hI.kind hlv
  refine gL (f := 133) (args := #[vP f, vP cb]) (pre := ((pA f m t L S) ++ [pC cb c])) [0, 1, 2, 3, 4, 5, 6] ((by have h := fP S L f m t hI cb c hC (β := β); rw [hnm] at h; exact h)) ?_
  rintro _ _ ⟨rfl, rfl⟩
  refine gK 5 [(5, .iface 89 (vP (L.b tk))), (6, vI 0)] [] ?_
  refine NN (af.seq (SR ?_))
  refine gK 2 [(14, .bool false)] [] ?_
  refine NN ?_
  refine CF ?_
  refine af.skip (NX (af.seq (SR ?_)))
  refine gK 1 [(16, .iface 89 (vP (L.b tk)))] [] ?_
  refine NN (af.block (SR ?_))
  refine gK 3 [(18, .bool false)] [] ?_
  refine NN ?_
  refine CF ?_
  refine SR ?_
  refine gK 3 [(21, .bool false)] [] ?_
  refine NN ?_
  refine CF ?_
  refine af.skip (ai.aQ (NX (SR ?_)))
  refine gK 3 [(24, vP cb), (25, vP f), (26, .iface 89 (vP (L.b tk)))] [] ?_
  refine gL [0, 2, 3] (pK S L f m t ⟨tk, 1⟩ hkt (by simp) (by have := hI.zX hlv; simp only at this ⊢; omega)) ?_
  rintro _ _ ⟨rfl, rfl⟩
  refine gC 7 [(6, vI ((openM S ⟨tk, 1⟩).2.1))] [(5, a_ 6 cb)] [(6, [(12, vI ((openM S ⟨tk, 1⟩).1))])] ?_
  refine NS ?_
  refine aj.mem (aR := [.blk f [vI (S.X.cN), vI (S.X.cB), vI (S.X.cH), vI (S.X.cS), vI (S.X.cZ), .map (some m), vP t, vI (S.X.last), vI (S.X.ah), vI (S.X.used)] 86, .abs (bp 156 t S.X.cH ((openM S ⟨tk, 1⟩).2.2.au) (aJ L ((openM S ⟨tk, 1⟩).2.2.us))), .abs (ak (aN ((openM S ⟨tk, 1⟩).2.2.O) L)), .abs (aI Tryz.prog 3 m (aM (aJ L S.idx)) S.idx.length), .abs (ak (aY ((openM S ⟨tk, 1⟩).2.2.O) L)), .abs (ak (bg ((openM S ⟨tk, 1⟩).2.2.O) L)), .blk cb [vI (c.op), vI (c.handle), vI (c.other), .string c.name, .string c.text, .slice c.dA (c.data.length) (c.dC), vI (c.mode), vI (c.uid), vI (c.gid), vI (c.sec), vI (c.nano), vI (c.code), vI ((openM S ⟨tk, 1⟩).1)] 43, .abs R]) (fun w hS => by rw [wk, wm]; exact hS) ?_
  refine gK 2 [(4, vI ((openM S ⟨tk, 1⟩).2.1))] [] ?_
  refine NN (af.ret ?_)
  exact RT (vI ((openM S ⟨tk, 1⟩).2.1)) [0, 3, 1, 2, 4, 5, 6, 7] (⟨L, by rw [show (dw S c) = ((openM S ⟨tk, 1⟩).2.1, (openM S ⟨tk, 1⟩).2.2, { c with answer := (openM S ⟨tk, 1⟩).1 }) by unfold dw; rw [hnm]; exact (if_neg (by simp)).trans (if_neg (by simp))] <;> exact ⟨rfl, rfl⟩⟩)
 ·have hkt : (obj S.O tk).kind = 2 := hI.kind hlv
  refine gL (f := 133) (args := #[vP f, vP cb]) (pre := ((pA f m t L S) ++ [pC cb c])) [0, 1, 2, 3, 4, 5, 6] ((by have h := fP S L f m t hI cb c hC (β := β); rw [hnm] at h; exact h)) ?_
  rintro _ _ ⟨rfl, rfl⟩
  refine gK 5 [(5, .iface 96 (vP (L.b tk))), (6, vI 0)] [] ?_
  refine NN (af.seq (SR ?_))
  refine gK 2 [(14, .bool false)] [] ?_
  refine NN ?_
  refine CF ?_
  refine af.skip (NX (af.seq (SR ?_)))
  refine gK 1 [(16, .iface 96 (vP (L.b tk)))] [] ?_
  refine NN (af.block (SR ?_))
  refine gK 3 [(18, .bool false)] [] ?_
  refine NN ?_
  refine CF ?_
  refine SR ?_
  refine gK 3 [(21, .bool true)] [] ?_
  refine NN ?_
  refine CT ?_
  refine SR ?_
  refine gK 1 [(4, vI 172)] [] ?_
  refine NN (af.ret (ai.aE (ai.aq ?_)))
  exact RT (vI 172) [0, 1, 2, 3, 4, 5, 6, 7] (⟨L, by rw [show (dw S c) = (172, S, c) by unfold dw; rw [hnm]; exact (if_neg (by simp)).trans (if_pos rfl)] <;> exact ⟨rfl, rfl⟩⟩)
 have hkt : (obj S.O tk).kind = 3 := hI.kind hlv
 refine gL (f := 133) (args := #[vP f, vP cb]) (pre := ((pA f m t L S) ++ [pC cb c])) [0, 1, 2, 3, 4, 5, 6] ((by have h := fP S L f m t hI cb c hC (β := β); rw [hnm] at h; exact h)) ?_
 rintro _ _ ⟨rfl, rfl⟩
 refine gK 5 [(5, .iface 93 (vP (L.b tk))), (6, vI 0)] [] ?_
 refine NN (af.seq (SR ?_))
 refine gK 2 [(14, .bool false)] [] ?_
 refine NN ?_
 refine CF ?_
 refine af.skip (NX (af.seq (SR ?_)))
 refine gK 1 [(16, .iface 93 (vP (L.b tk)))] [] ?_
 refine NN (af.block (SR ?_))
 refine gK 3 [(18, .bool true)] [] ?_
 refine NN ?_
 refine CT ?_
 refine SR ?_
 refine gK 1 [(4, vI 174)] [] ?_
 refine NN (af.ret (ai.aE (ai.aq ?_)))
 exact RT (vI 174) [0, 1, 2, 3, 4, 5, 6, 7] (⟨L, by rw [show (dw S c) = (174, S, c) by unfold dw; rw [hnm]; exact if_pos rfl] <;> exact ⟨rfl, rfl⟩⟩)
theorem Db {β : Bs} (S : aG) (L : HL) (f m t : Nat) (hI : Inv S) (cb : Nat) (c : aU) (hC : fB β c) :
    Spec Tryz.prog β 81 #[vP f, vP cb] ((pA f m t L S) ++ [pC cb c]) (fun v l => ∃ L2, v = vI (eE S c).1 ∧ l = ((pA f m t L2 ((eE S c).2.1)) ++ [.blk cb (fT ((eE S c).2.2)) 43])) := by
 have hX := hI.hX
 refine Spec.enter Tryz.func81 rfl Tryz.ntmps81 (Nat.le_of_ble_eq_true rfl) (fun R => ?_)
 refine SR ?_
 refine gK 1 [] [] ?_
 refine NN (af.seq ?_)
 refine af.bG (by kernel_rfl) (by kernel_rfl) ?_
 refine gQ 9 (JF f c) [(4, a_ 6 cb), (8, a_ 6 cb)] ?_
 rcases jd hI.toInv0 c.handle c.name 192 with ⟨e, hab, hne⟩ | ⟨d, hab, hd, fY, hgn, cE⟩
 ·refine aT.call (f := 134) (args := #[vP f, vI (c.handle), .string c.name, vI 192]) (d := (some 17)) (pre := (mM f m t S L)) (R := (lU m L S cb c R)) (pk := [0, 2, 3, 1, 4, 5, 6, 7]) (gy := [0, 3, 1, 2, 4, 5, 6, 7]) (v0 := .tuple #[.pointer none, vI (e)]) (fun _ => by kernel_rfl) ((by have h := cX S L f m t hI c.handle hC.hw c.name hC.nm 192 (β := β); rw [hab] at h; exact h)) rfl (by kernel_rfl) rfl (by kernel_rfl) (fun _ _ h => h) ?_
  refine gQ 5 (Gm e) [] ?_
  refine NQ (NX (af.seq (SR ?_)))
  refine gK 2 [(21, .bool (!(decide ((e : Int) = (0 : Int)))))] [] ?_
  refine NN ?_
  refine af.ct (p := (e : Int) = (0 : Int)) (fun _ => by kernel_rfl) (fun rB => ?_) (fun rB => ?_)
  ·refine SR ?_
   refine gK 2 [(4, vI (e))] [] ?_
   refine NN (af.ret (ai.aq ?_))
   exact RT (vI (e)) [0, 1, 2, 3, 4, 5, 6, 7] (⟨L, by rw [show (eE S c) = (e, S, c) by unfold eE; rw [hab]] <;> exact ⟨rfl, rfl⟩⟩)
  exact absurd rB hne
 have hkd : (obj S.O d).kind = 2 := hI.kind hd
 refine aT.call (f := 134) (args := #[vP f, vI (c.handle), .string c.name, vI 192]) (d := (some 17)) (pre := (mM f m t S L)) (R := (lU m L S cb c R)) (pk := [0, 2, 3, 1, 4, 5, 6, 7]) (gy := [0, 3, 1, 2, 4, 5, 6, 7]) (v0 := .tuple #[vP (L.b d), vI 0]) (fun _ => by kernel_rfl) ((by have h := cX S L f m t hI c.handle hC.hw c.name hC.nm 192 (β := β); rw [hab] at h; exact h)) rfl (by kernel_rfl) rfl (by kernel_rfl) (fun _ _ h => h) ?_
 refine gQ 5 (Cl L d) [] ?_
 refine NQ (NX (af.seq (SR ?_)))
 refine gK 2 [(21, .bool false)] [] ?_
 refine NN ?_
 refine CF ?_
 refine af.skip (NX (af.seq (SR ?_)))
 refine gK 4 [(26, vI (c.mode))] [(3, a_ 6 cb)] ?_
 refine gL [] (dW (c.mode) 4095) ?_
 rintro _ _ ⟨rfl, rfl⟩
 refine gK 1 [(28, .bool (!(decide (0 ≤ c.mode ∧ c.mode ≤ 4095))))] [] ?_
 refine NN ?_
 refine af.ct (p := 0 ≤ c.mode ∧ c.mode ≤ 4095) (fun _ => by kernel_rfl) (fun LH => ?_) (fun LH => ?_)
 ·refine SR ?_
  refine gK 1 [(4, vI 120)] [] ?_
  refine NN (af.ret (ai.aq ?_))
  exact RT (vI 120) [0, 1, 2, 3, 4, 5, 6, 7] (⟨L, by rw [show (eE S c) = (120, S, c) by unfold eE; rw [hab]; exact if_neg LH] <;> exact ⟨rfl, rfl⟩⟩)
 refine af.skip (NX (af.seq ?_))
 refine af.bZ (S := [pC cb c]) [0, 1, 2, 3, 4, 5, 6, 7, 8, 9, 10, 11] 10 [6] (by kernel_rfl) (by kernel_rfl) rfl (by kernel_rfl) ?_
 refine aF.reads (r := 0) (l := [10, 11]) (fr' := [(29, vP f), (30, vP (L.b d)), (34, .string c.name), (38, vI (c.mode))]) (aV := [cb = cb, cb = cb]) [0, 1, 2, 3, 4, 5, 6, 7, 8, 9] [o_, o_, o_, o_, o_, ⟨[.at 0], none, none, none, none⟩, o_, o_, o_, ⟨[.at 0], none, none, none, none⟩] [29, 30, 34, 38] (fun _ => by kernel_rfl) ⟨rfl, rfl, trivial⟩ rfl rfl ?_
 refine mL [6] [0, 1, 2, 3, 4, 5] (zZ S L f m t hI d hd c.name hC.nm c.mode) ?_ (by rintro _ _ ⟨L2, rfl, rfl⟩; rfl)
 rintro _ _ ⟨L2, rfl, rfl⟩
 refine aF.last rfl rfl ?_
 refine gK 1 [(4, vI ((mkdirM S d c.name c.mode).1))] [] ?_
 refine NL (ai.np (NX (af.ret ?_)))
 exact RT (vI ((mkdirM S d c.name c.mode).1)) [0, 1, 2, 3, 4, 5, 6, 7] (⟨L2, by rw [show (eE S c) = ((mkdirM S d c.name c.mode).1, (mkdirM S d c.name c.mode).2, c) by unfold eE; rw [hab]; exact if_pos LH] <;> exact ⟨rfl, rfl⟩⟩)
theorem Ax {β : Bs} (S : aG) (L : HL) (f m t : Nat) (hI : Inv S) (cb : Nat) (c : aU) (hC : fB β c) :
    Spec Tryz.prog β 83 #[vP f, vP cb] ((pA f m t L S) ++ [pC cb c]) (fun v l => ∃ L2, v = vI (dV S c).1 ∧ l = ((pA f m t L2 ((dV S c).2.1)) ++ [.blk cb (fT ((dV S c).2.2)) 43])) := by
 have hX := hI.hX
 refine Spec.enter Tryz.func83 rfl Tryz.ntmps83 (Nat.le_of_ble_eq_true rfl) (fun R => ?_)
 refine SR ?_
 refine gK 1 [] [] ?_
 refine NN (af.seq ?_)
 refine af.bG (by kernel_rfl) (by kernel_rfl) ?_
 refine gQ 9 (JF f c) [(4, a_ 6 cb), (8, a_ 6 cb)] ?_
 rcases jd hI.toInv0 c.handle c.name 192 with ⟨e, hab, hne⟩ | ⟨d, hab, hd, fY, hgn, cE⟩
 ·refine aT.call (f := 134) (args := #[vP f, vI (c.handle), .string c.name, vI 192]) (d := (some 17)) (pre := (mM f m t S L)) (R := (lU m L S cb c R)) (pk := [0, 2, 3, 1, 4, 5, 6, 7]) (gy := [0, 3, 1, 2, 4, 5, 6, 7]) (v0 := .tuple #[.pointer none, vI (e)]) (fun _ => by kernel_rfl) ((by have h := cX S L f m t hI c.handle hC.hw c.name hC.nm 192 (β := β); rw [hab] at h; exact h)) rfl (by kernel_rfl) rfl (by kernel_rfl) (fun _ _ h => h) ?_
  refine gQ 5 (Gm e) [] ?_
  refine NQ (NX (af.seq (SR ?_)))
  refine gK 2 [(21, .bool (!(decide ((e : Int) = (0 : Int)))))] [] ?_
  refine NN ?_
  refine af.ct (p := (e : Int) = (0 : Int)) (fun _ => by kernel_rfl) (fun rB => ?_) (fun rB => ?_)
  ·refine SR ?_
   refine gK 2 [(4, vI (e))] [] ?_
   refine NN (af.ret (ai.aq ?_))
   exact RT (vI (e)) [0, 1, 2, 3, 4, 5, 6, 7] (⟨L, by rw [show (dV S c) = (e, S, c) by unfold dV; rw [hab]] <;> exact ⟨rfl, rfl⟩⟩)
  exact absurd rB hne
 have hkd : (obj S.O d).kind = 2 := hI.kind hd
 refine aT.call (f := 134) (args := #[vP f, vI (c.handle), .string c.name, vI 192]) (d := (some 17)) (pre := (mM f m t S L)) (R := (lU m L S cb c R)) (pk := [0, 2, 3, 1, 4, 5, 6, 7]) (gy := [0, 3, 1, 2, 4, 5, 6, 7]) (v0 := .tuple #[vP (L.b d), vI 0]) (fun _ => by kernel_rfl) ((by have h := cX S L f m t hI c.handle hC.hw c.name hC.nm 192 (β := β); rw [hab] at h; exact h)) rfl (by kernel_rfl) rfl (by kernel_rfl) (fun _ _ h => h) ?_
 refine gQ 5 (Cl L d) [] ?_
 refine NQ (NX (af.seq (SR ?_)))
 refine gK 2 [(21, .bool false)] [] ?_
 refine NN ?_
 refine CF ?_
 refine af.skip (NX (af.seq ?_))
 refine af.bZ (S := [pC cb c]) [0, 1, 2, 3, 4, 5, 6, 7, 8, 9, 10, 11] 10 [6] (by kernel_rfl) (by kernel_rfl) rfl (by kernel_rfl) ?_
 refine aF.reads (r := 0) (l := [10, 11]) (fr' := [(23, vP f), (24, vP (L.b d)), (28, .string c.name), (32, .string c.text)]) (aV := [cb = cb, cb = cb]) [0, 1, 2, 3, 4, 5, 6, 7, 8, 9] [o_, o_, o_, o_, o_, ⟨[.at 0], none, none, none, none⟩, o_, o_, o_, ⟨[.at 0], none, none, none, none⟩] [23, 24, 28, 32] (fun _ => by kernel_rfl) ⟨rfl, rfl, trivial⟩ rfl rfl ?_
 refine mL [6] [0, 1, 2, 3, 4, 5] (vw S L f m t hI d hd c.name hC.nm c.text hC.tx) ?_ (by rintro _ _ ⟨L2, rfl, rfl⟩; rfl)
 rintro _ _ ⟨L2, rfl, rfl⟩
 refine aF.last rfl rfl ?_
 refine gK 1 [(4, vI ((symlinkM S d c.name c.text).1))] [] ?_
 refine NL (ai.np (NX (af.ret ?_)))
 exact RT (vI ((symlinkM S d c.name c.text).1)) [0, 1, 2, 3, 4, 5, 6, 7] (⟨L2, by rw [show (dV S c) = ((symlinkM S d c.name c.text).1, (symlinkM S d c.name c.text).2, c) by unfold dV; rw [hab]] <;> exact ⟨rfl, rfl⟩⟩)
theorem Cm {β : Bs} (S : aG) (L : HL) (f m t : Nat) (hI : Inv S) (cb : Nat) (c : aU) (hC : fB β c) :
    Spec Tryz.prog β 85 #[vP f, vP cb] ((pA f m t L S) ++ [pC cb c]) (fun v l => ∃ L2, v = vI (eT S c).1 ∧ l = ((pA f m t L2 ((eT S c).2.1)) ++ [.blk cb (fT ((eT S c).2.2)) 43])) := by
 have hX := hI.hX
 refine Spec.enter Tryz.func85 rfl Tryz.ntmps85 (Nat.le_of_ble_eq_true rfl) (fun R => ?_)
 refine SR ?_
 refine gK 1 [] [] ?_
 refine NN (af.seq ?_)
 refine af.bG (by kernel_rfl) (by kernel_rfl) ?_
 refine gQ 9 (JF f c) [(4, a_ 6 cb), (8, a_ 6 cb)] ?_
 rcases jd hI.toInv0 c.handle c.name 192 with ⟨e, hab, hne⟩ | ⟨d, hab, hd, fY, hgn, cE⟩
 ·refine aT.call (f := 134) (args := #[vP f, vI (c.handle), .string c.name, vI 192]) (d := (some 17)) (pre := (mM f m t S L)) (R := (lU m L S cb c R)) (pk := [0, 2, 3, 1, 4, 5, 6, 7]) (gy := [0, 3, 1, 2, 4, 5, 6, 7]) (v0 := .tuple #[.pointer none, vI (e)]) (fun _ => by kernel_rfl) ((by have h := cX S L f m t hI c.handle hC.hw c.name hC.nm 192 (β := β); rw [hab] at h; exact h)) rfl (by kernel_rfl) rfl (by kernel_rfl) (fun _ _ h => h) ?_
  refine gQ 5 (Gm e) [] ?_
  refine NQ (NX (af.seq (SR ?_)))
  refine gK 2 [(21, .bool (!(decide ((e : Int) = (0 : Int)))))] [] ?_
  refine NN ?_
  refine af.ct (p := (e : Int) = (0 : Int)) (fun _ => by kernel_rfl) (fun rB => ?_) (fun rB => ?_)
  ·refine SR ?_
   refine gK 2 [(4, vI (e))] [] ?_
   refine NN (af.ret (ai.aq ?_))
   exact RT (vI (e)) [0, 1, 2, 3, 4, 5, 6, 7] (⟨L, by rw [show (eT S c) = (e, S, c) by unfold eT; rw [hab]] <;> exact ⟨rfl, rfl⟩⟩)
  exact absurd rB hne
 have hkd : (obj S.O d).kind = 2 := hI.kind hd
 refine aT.call (f := 134) (args := #[vP f, vI (c.handle), .string c.name, vI 192]) (d := (some 17)) (pre := (mM f m t S L)) (R := (lU m L S cb c R)) (pk := [0, 2, 3, 1, 4, 5, 6, 7]) (gy := [0, 3, 1, 2, 4, 5, 6, 7]) (v0 := .tuple #[vP (L.b d), vI 0]) (fun _ => by kernel_rfl) ((by have h := cX S L f m t hI c.handle hC.hw c.name hC.nm 192 (β := β); rw [hab] at h; exact h)) rfl (by kernel_rfl) rfl (by kernel_rfl) (fun _ _ h => h) ?_
 refine gQ 5 (Cl L d) [] ?_
 refine NQ (NX (af.seq (SR ?_)))
 refine gK 2 [(21, .bool false)] [] ?_
 refine NN ?_
 refine CF ?_
 refine af.skip (NX (SR ?_))
 refine gK 6 [(23, vP f), (24, vP (L.b d)), (28, .string c.name)] [(5, a_ 6 cb)] ?_
 refine gL [0, 1, 2, 3, 4, 5] (xU S L f m t hI d hd c.name hC.nm) ?_
 rintro _ _ ⟨L2, rfl, rfl⟩
 refine gK 1 [(4, vI ((unlinkM S d c.name).1))] [] ?_
 refine NN (af.ret ?_)
 exact RT (vI ((unlinkM S d c.name).1)) [0, 1, 2, 3, 4, 5, 6, 7] (⟨L2, by rw [show (eT S c) = ((unlinkM S d c.name).1, (unlinkM S d c.name).2, c) by unfold eT; rw [hab]] <;> exact ⟨rfl, rfl⟩⟩)
theorem Dc {β : Bs} (S : aG) (L : HL) (f m t : Nat) (hI : Inv S) (cb : Nat) (c : aU) (hC : fB β c) :
    Spec Tryz.prog β 91 #[vP f, vP cb] ((pA f m t L S) ++ [pC cb c]) (fun v l => ∃ L2, v = vI (fJ S c).1 ∧ l = ((pA f m t L2 ((fJ S c).2.1)) ++ [.blk cb (fT ((fJ S c).2.2)) 43])) := by
 have hX := hI.hX
 refine Spec.enter Tryz.func91 rfl Tryz.ntmps91 (Nat.le_of_ble_eq_true rfl) (fun R => ?_)
 refine SR ?_
 refine gK 1 [] [] ?_
 refine NN (af.seq ?_)
 refine af.bG (by kernel_rfl) (by kernel_rfl) ?_
 refine gQ 9 (JF f c) [(4, a_ 6 cb), (8, a_ 6 cb)] ?_
 rcases jd hI.toInv0 c.handle c.name 192 with ⟨e, hab, hne⟩ | ⟨d, hab, hd, fY, hgn, cE⟩
 ·refine aT.call (f := 134) (args := #[vP f, vI (c.handle), .string c.name, vI 192]) (d := (some 17)) (pre := (mM f m t S L)) (R := (lU m L S cb c R)) (pk := [0, 2, 3, 1, 4, 5, 6, 7]) (gy := [0, 3, 1, 2, 4, 5, 6, 7]) (v0 := .tuple #[.pointer none, vI (e)]) (fun _ => by kernel_rfl) ((by have h := cX S L f m t hI c.handle hC.hw c.name hC.nm 192 (β := β); rw [hab] at h; exact h)) rfl (by kernel_rfl) rfl (by kernel_rfl) (fun _ _ h => h) ?_
  refine gQ 5 (Gm e) [] ?_
  refine NQ (NX (af.seq (SR ?_)))
  refine gK 2 [(21, .bool (!(decide ((e : Int) = (0 : Int)))))] [] ?_
  refine NN ?_
  refine af.ct (p := (e : Int) = (0 : Int)) (fun _ => by kernel_rfl) (fun rB => ?_) (fun rB => ?_)
  ·refine SR ?_
   refine gK 2 [(4, vI (e))] [] ?_
   refine NN (af.ret (ai.aq ?_))
   exact RT (vI (e)) [0, 1, 2, 3, 4, 5, 6, 7] (⟨L, by rw [show (fJ S c) = (e, S, c) by unfold fJ; rw [hab]] <;> exact ⟨rfl, rfl⟩⟩)
  exact absurd rB hne
 have hkd : (obj S.O d).kind = 2 := hI.kind hd
 refine aT.call (f := 134) (args := #[vP f, vI (c.handle), .string c.name, vI 192]) (d := (some 17)) (pre := (mM f m t S L)) (R := (lU m L S cb c R)) (pk := [0, 2, 3, 1, 4, 5, 6, 7]) (gy := [0, 3, 1, 2, 4, 5, 6, 7]) (v0 := .tuple #[vP (L.b d), vI 0]) (fun _ => by kernel_rfl) ((by have h := cX S L f m t hI c.handle hC.hw c.name hC.nm 192 (β := β); rw [hab] at h; exact h)) rfl (by kernel_rfl) rfl (by kernel_rfl) (fun _ _ h => h) ?_
 refine gQ 5 (Cl L d) [] ?_
 refine NQ (NX (af.seq (SR ?_)))
 refine gK 2 [(21, .bool false)] [] ?_
 refine NN ?_
 refine CF ?_
 refine af.skip (NX (SR ?_))
 refine gK 6 [(23, vP f), (24, vP (L.b d)), (28, .string c.name)] [(5, a_ 6 cb)] ?_
 refine gL [0, 1, 2, 3, 4, 5] (Aa S L f m t hI d hd c.name hC.nm) ?_
 rintro _ _ ⟨L2, rfl, rfl⟩
 refine gK 1 [(4, vI ((rmdirM S d c.name).1))] [] ?_
 refine NN (af.ret ?_)
 exact RT (vI ((rmdirM S d c.name).1)) [0, 1, 2, 3, 4, 5, 6, 7] (⟨L2, by rw [show (fJ S c) = ((rmdirM S d c.name).1, (rmdirM S d c.name).2, c) by unfold fJ; rw [hab]] <;> exact ⟨rfl, rfl⟩⟩)
theorem Cn {β : Bs} (S : aG) (L : HL) (f m t : Nat) (hI : Inv S) (cb : Nat) (c : aU) (hC : fB β c) :
    Spec Tryz.prog β 92 #[vP f, vP cb] ((pA f m t L S) ++ [pC cb c]) (fun v l => ∃ L2, v = vI (dS S c).1 ∧ l = ((pA f m t L2 ((dS S c).2.1)) ++ [.blk cb (fT ((dS S c).2.2)) 43])) := by
 have hX := hI.hX
 refine Spec.enter Tryz.func92 rfl Tryz.ntmps92 (Nat.le_of_ble_eq_true rfl) (fun R => ?_)
 refine SR ?_
 refine gK 1 [] [] ?_
 refine NN (af.seq ?_)
 refine af.bG (by kernel_rfl) (by kernel_rfl) ?_
 refine gQ 9 [(9, vP f), (13, vI (c.handle)), (17, .string c.name)] [(4, a_ 6 cb), (8, a_ 6 cb)] ?_
 rcases jd hI.toInv0 c.handle c.name 192 with ⟨e, hab, hne⟩ | ⟨d, hab, hd, fY, hgn, cE⟩
 ·refine aT.call (f := 134) (args := #[vP f, vI (c.handle), .string c.name, vI 192]) (d := (some 18)) (pre := (mM f m t S L)) (R := (lU m L S cb c R)) (pk := [0, 2, 3, 1, 4, 5, 6, 7]) (gy := [0, 3, 1, 2, 4, 5, 6, 7]) (v0 := .tuple #[.pointer none, vI (e)]) (fun _ => by kernel_rfl) ((by have h := cX S L f m t hI c.handle hC.hw c.name hC.nm 192 (β := β); rw [hab] at h; exact h)) rfl (by kernel_rfl) rfl (by kernel_rfl) (fun _ _ h => h) ?_
  refine gQ 5 (Gm e) [] ?_
  refine NQ (NX (af.seq (SR ?_)))
  refine gK 2 [(22, .bool (!(decide ((e : Int) = (0 : Int)))))] [] ?_
  refine NN ?_
  refine af.ct (p := (e : Int) = (0 : Int)) (fun _ => by kernel_rfl) (fun JG => ?_) (fun JG => ?_)
  ·refine SR ?_
   refine gK 2 [(4, vI (e))] [] ?_
   refine NN (af.ret (ai.aq ?_))
   exact RT (vI (e)) [0, 1, 2, 3, 4, 5, 6, 7] (⟨L, by rw [show (dS S c) = (e, S, c) by unfold dS; rw [hab]] <;> exact ⟨rfl, rfl⟩⟩)
  exact absurd JG hne
 have hkd : (obj S.O d).kind = 2 := hI.kind hd
 refine aT.call (f := 134) (args := #[vP f, vI (c.handle), .string c.name, vI 192]) (d := (some 18)) (pre := (mM f m t S L)) (R := (lU m L S cb c R)) (pk := [0, 2, 3, 1, 4, 5, 6, 7]) (gy := [0, 3, 1, 2, 4, 5, 6, 7]) (v0 := .tuple #[vP (L.b d), vI 0]) (fun _ => by kernel_rfl) ((by have h := cX S L f m t hI c.handle hC.hw c.name hC.nm 192 (β := β); rw [hab] at h; exact h)) rfl (by kernel_rfl) rfl (by kernel_rfl) (fun _ _ h => h) ?_
 refine gQ 5 (Cl L d) [] ?_
 refine NQ (NX (af.seq (SR ?_)))
 refine gK 2 [(22, .bool false)] [] ?_
 refine NN ?_
 refine CF ?_
 refine af.skip (NX (af.seq ?_))
 refine af.bG (by kernel_rfl) (by kernel_rfl) ?_
 refine gQ 9 [(25, vP f), (29, vI (c.other)), (33, .string c.text)] [(4, a_ 6 cb), (8, a_ 6 cb)] ?_
 rcases jd hI.toInv0 c.other c.text 192 with ⟨e2, iG, Co⟩ | ⟨to, iG, hd2, LI, Iq, Ow⟩
 ·refine aT.call (f := 134) (args := #[vP f, vI (c.other), .string c.text, vI 192]) (d := (some 34)) (pre := (mM f m t S L)) (R := (lU m L S cb c R)) (pk := [0, 2, 3, 1, 4, 5, 6, 7]) (gy := [0, 3, 1, 2, 4, 5, 6, 7]) (v0 := .tuple #[.pointer none, vI (e2)]) (fun _ => by kernel_rfl) ((by have h := cX S L f m t hI c.other hC.ow c.text hC.tx 192 (β := β); rw [iG] at h; exact h)) rfl (by kernel_rfl) rfl (by kernel_rfl) (fun _ _ h => h) ?_
  refine gQ 5 [(6, vI (e2)), (7, .pointer none)] [] ?_
  refine NQ (NX (af.seq (SR ?_)))
  refine gK 2 [(38, .bool (!(decide ((e2 : Int) = (0 : Int)))))] [] ?_
  refine NN ?_
  refine af.ct (p := (e2 : Int) = (0 : Int)) (fun _ => by kernel_rfl) (fun wU => ?_) (fun wU => ?_)
  ·refine SR ?_
   refine gK 2 [(4, vI (e2))] [] ?_
   refine NN (af.ret (ai.aq ?_))
   exact RT (vI (e2)) [0, 1, 2, 3, 4, 5, 6, 7] (⟨L, by rw [show (dS S c) = (e2, S, c) by unfold dS; rw [hab]; simp only; rw [iG]] <;> exact ⟨rfl, rfl⟩⟩)
  exact absurd wU Co
 have cY : (obj S.O to).kind = 2 := hI.kind hd2
 refine aT.call (f := 134) (args := #[vP f, vI (c.other), .string c.text, vI 192]) (d := (some 34)) (pre := (mM f m t S L)) (R := (lU m L S cb c R)) (pk := [0, 2, 3, 1, 4, 5, 6, 7]) (gy := [0, 3, 1, 2, 4, 5, 6, 7]) (v0 := .tuple #[vP (L.b to), vI 0]) (fun _ => by kernel_rfl) ((by have h := cX S L f m t hI c.other hC.ow c.text hC.tx 192 (β := β); rw [iG] at h; exact h)) rfl (by kernel_rfl) rfl (by kernel_rfl) (fun _ _ h => h) ?_
 refine gQ 5 [(6, vI 0), (7, vP (L.b to))] [] ?_
 refine NQ (NX (af.seq (SR ?_)))
 refine gK 2 [(38, .bool false)] [] ?_
 refine NN ?_
 refine CF ?_
 refine af.skip (NX (af.seq ?_))
 refine af.bZ (S := [pC cb c]) [0, 1, 2, 3, 4, 5, 6, 7, 8, 9, 10, 11, 12] 11 [6] (by kernel_rfl) (by kernel_rfl) rfl (by kernel_rfl) ?_
 refine aF.reads (r := 0) (l := [11, 12]) (fr' := [(40, vP f), (41, vP (L.b d)), (45, .string c.name), (46, vP (L.b to)), (50, .string c.text)]) (aV := [cb = cb, cb = cb]) [0, 1, 2, 3, 4, 5, 6, 7, 8, 9, 10] [o_, o_, o_, o_, o_, ⟨[.at 0], none, none, none, none⟩, o_, o_, o_, o_, ⟨[.at 0], none, none, none, none⟩] [40, 41, 45, 46, 50] (fun _ => by kernel_rfl) ⟨rfl, rfl, trivial⟩ rfl rfl ?_
 refine mL [6] [0, 1, 2, 3, 4, 5] (xV S L f m t hI d hd c.name hC.nm to hd2 c.text hC.tx) ?_ (by rintro _ _ ⟨L2, rfl, rfl⟩; rfl)
 rintro _ _ ⟨L2, rfl, rfl⟩
 refine aF.last rfl rfl ?_
 refine gK 1 [(4, vI ((renameM S d c.name to c.text).1))] [] ?_
 refine NL (ai.np (NX (af.ret ?_)))
 exact RT (vI ((renameM S d c.name to c.text).1)) [0, 1, 2, 3, 4, 5, 6, 7] (⟨L2, by rw [show (dS S c) = ((renameM S d c.name to c.text).1, (renameM S d c.name to c.text).2, c) by unfold dS; rw [hab]; simp only; rw [iG]] <;> exact ⟨rfl, rfl⟩⟩)
end
section
open Go.RowKit
section order
variable {P : Program} {ops : Array Oper} {Q Q' : Post} {n : Nat} {S : World → Prop}
def j8 (P : Program) (ops : Array Oper) (Q : Post) (S : World → Prop) : List (Bool × Nat) → Act → World → Prop
  | [], a, w => Q .normal a w
  | (false, i) :: l, a, w => wpOp P ops Q i (fun a' w' => (l = [] ∨ S w') ∧ j8 P ops Q S l a' w') a w
  | (true, i) :: l, a, w => ∃ o v, ops[i]? = some o ∧ YieldsIf P ops S o v a ∧ j8 P ops Q S l (a.put o.dst v) w
def uV (ops : Array Oper) (n : Nat) : List (Bool × Nat) → Array Bool → Bool
  | [], listed => (Region.ready .any ops listed).isEmpty
  | (false, i) :: l, listed => (Region.ready .any ops listed == [i]) && (!l.isEmpty || i == n) && uV ops n l (listed.setIfInBounds i true)
  | (true, i) :: l, listed => decide (i < n) && Region.free .any ops listed i && (Region.ready .any ops listed).contains i && uV ops n l (listed.setIfInBounds i true)
theorem wv (hsel : Region.noSelect ops = true) (l6 : Region.sinkB .any ops n = true) : ∀ (l : List (Bool × Nat)) (listed : Array Bool) (a : Act) (w : World), uV ops n l listed = true → Closed ops listed → (l = [] ∨ S w) → j8 P ops (NP Q) S l a w → ja P ops (NP Q) n S l.length listed a w
  | [], listed, a, w, hb, _, _, h => ⟨List.isEmpty_iff.1 hb, h⟩
  | (false, i) :: l, listed, a, w, hb, hc, _, h => by
    unfold uV at hb
    simp only [Bool.and_eq_true, beq_iff_eq] at hb
    obtain ⟨⟨h1, h2⟩, h3⟩ := hb
    refine ⟨fun h0 => (by rw [h1] at h0; cases h0), fun j hj => ?_⟩
    have hr := hj
    rw [h1] at hj
    have hj : j = i := by simpa using hj
    subst hj
    refine wpOp_mono (fun a' w' h4 => ⟨?_, wv hsel l6 l _ a' w' h3 (hc.set hr) h4.1 h4.2⟩) h
    rcases h4.1 with h5 | h5
    ·subst h5; exact .inl (by simpa using h2)
    exact .inr h5
  | (true, i) :: l, listed, a, w, hb, hc, hS, h => by
    unfold uV at hb
    simp only [Bool.and_eq_true, decide_eq_true_iff] at hb
    obtain ⟨⟨⟨h1, h2⟩, h3⟩, h4⟩ := hb
    obtain ⟨o, v, ho, hy, hk⟩ := h
    have hS : S w := hS.resolve_left (by simp)
    have hr : i ∈ Region.ready .any ops listed := by simpa using h3
    exact o7 ho hsel l6 h1 l.length listed a w hc (Region.free_spec ho h2) hr hy hS (wv hsel l6 l _ _ w h4 (hc.set hr) (.inr hS) hk)
def DH (ops : Array Oper) (l : List (Bool × Nat)) : Bool :=
  Region.noSelect ops && Region.sinkB .any ops (ops.size - 1) && (l.length == ops.size) && uV ops (ops.size - 1) l (Array.replicate ops.size false)
def oM (ops : Array Oper) (i : Nat) : Array Oper := ⟨ops.toList.take (i + 1)⟩
def gB (ops : Array Oper) (i : Nat) : Bool := match ops[i]? with
  | some o => match o.guard with
    | none => true
    | some (j, _) => decide (j ≤ i)
  | none => false
theorem Gn {i j : Nat} (h : j ≤ i) : (oM ops i)[j]? = ops[j]? := by
  unfold oM
  obtain ⟨l⟩ := ops
  simp only [List.getElem?_toArray, List.getElem?_take]
  rw [if_pos (by omega)]
theorem uh {i : Nat} {a : Act} {w : World} {K : Act → World → Prop} (hg : gB ops i = true) (h : wpList P (oM ops i) (NP fun _ a w => K a w) ((oM ops i).toList.drop i) a w) : wpOp P ops (NP Q) i K a w := by
  unfold gB at hg
  split at hg
  ·rename_i o ho
   have hd : (oM ops i).toList.drop i = [o] := by
     have hl : ops.toList[i]? = some o := by simpa using ho
     have hi : i < ops.toList.length := bA hl
     show (ops.toList.take (i + 1)).drop i = [o]
     rw [List.drop_take]
     rw [show i + 1 - i = 1 by omega, List.drop_eq_getElem_cons hi]
     rw [List.getElem?_eq_getElem hi] at hl
     cases hl
     rfl
   have hw : Region.wanted o (yielded (oM ops i) a.tmps) = Region.wanted o (yielded ops a.tmps) := by
     unfold Region.wanted
     split at hg
     ·rename_i hn; rw [hn]
     rename_i j b hn
     rw [hn]
     have hj : j ≤ i := by simpa using hg
     have : yielded (oM ops i) a.tmps j = yielded ops a.tmps j := by
       unfold yielded
       rw [Gn hj]
     simp only [this]
   rw [hd] at h
   unfold wpOp
   simp only [ho]
   unfold wpList at h
   rw [hw] at h
   split at h
   ·rename_i hw
    rw [if_pos hw]
    rcases h with h | ⟨_, h⟩
    ·exact .inl (AF (Oper.wp_mono (fun a w h => h) h))
    exact (lY h).elim
   rename_i hw
   rw [if_neg hw]
   exact h
  cases hg
end order
theorem oO {P : Program} {ops : Array Oper} {Q Q' : Post} (hq : ∀ a w, Q .normal a w → Q' .normal a w) : ∀ (l : List Oper) {a : Act} {w : World}, wpList P ops (NP Q) l a w → wpList P ops (NP Q') l a w
  | [], _, _, h => hq _ _ h
  | o :: r, a, w, h => by
    unfold wpList at *
    split
    ·rename_i hw
     rw [if_pos hw] at h
     rcases h with h | ⟨_, h⟩
     ·exact .inl (AF (Oper.wp_mono (fun a w h => oO hq r h) h))
     exact (lY h).elim
    rename_i hw
    rw [if_neg hw] at h
    exact oO hq r h
section mix
variable {P : Program} {β : Bs} {N : Nat} {ops : Array Oper} {S : List HP} {l l' : List (Bool × Nat)} {fr fr' : Fr} {hps : List HP} {Q : Post} {aV : List Prop} {i : Nat} {pk : List Nat}
def dQ (P : Program) (β : Bs) (N : Nat) (ops : Array Oper) (S : List HP) (l : List (Bool × Nat)) (fr : Fr) (hps : List HP) (Q : Post) : Prop :=
  ∀ junk w, Sat β hps w → j8 P ops (NP Q) (Sat β S) l (cx N fr junk) w
theorem af.kE {id : Nat} (l : List (Bool × Nat)) (pk : List Nat) (hm : P.follows .mixedOrders = true) (hB : DH ops l = true) (hn : nodupB pk = true) (hp : bN hps pk = some S) (h : dQ P β N ops S l fr hps Q) : af P β N (.region id ops true) fr hps Q := by
  intro junk w hS
  unfold DH at hB
  simp only [Bool.and_eq_true, beq_iff_eq] at hB
  obtain ⟨⟨⟨h1, h2⟩, h3⟩, h4⟩ := hB
  have cP := hS.drewN 1
  have h5 := wv (Q := Q) h1 h2 l _ _ _ h4 (fun j oj _ hl => by simp [Array.getD_eq_getD_getElem?, Array.getElem?_replicate] at hl; split at hl <;> simp at hl) (.inr (cP.pick hn hp)) (h junk (w.drewN 1) cP)
  rw [h3] at h5
  refine Code.wp_mono (fun e a w q => ?_) (wp_region_any hm (lZ _ _ _ _ h5))
  cases e with
  | normal => exact q
  | exit id => exact q.elim
  | goto l => exact q.elim
  | ret => exact q.elim
  | panic ch => exact q.elim
  | outgrown => exact q.elim
def pN (P : Program) (β : Bs) (N : Nat) (junk : Nat → Value) (ops : Array Oper) : List OH → List Nat → Fr → SS → Option (Fr × SS)
  | [], [], fr, S => some (fr, S)
  | h :: hs, i :: is, fr, S =>
    match ops[i]? with
    | some o =>
      match Region.wanted o (yF ops N fr junk) with
      | true =>
        match o3 P β 0 true (cC N fr junk) o h S with
        | some (v, S') =>
          match tq v with
          | true => pN P β N junk ops hs is (cJ fr o.dst v) S'
          | false => none
        | none => none
      | false => pN P β N junk ops hs is (cJ fr o.dst undef) S
    | none => none
  | _, _, _, _ => none
def Cp (P : Program) (β : Bs) (N : Nat) (junk : Nat → Value) (ops : Array Oper) (hs : List OH) (is : List Nat) (fr : Fr) (S : List HP) (idx : List Nat) : Option (Fr × List Prop) :=
  match pN P β N junk ops hs is fr ⟨[], S, [], true⟩ with
  | some (fr', S') => some (gI fr' junk idx, S'.aV)
  | none => none
theorem r9 {junk : Nat → Value} : ∀ {hs : List OH} {is : List Nat} {fr fr' : Fr} {S S' : SS}, pN P β N junk ops hs is fr S = some (fr', S') → ∀ p, p ∈ S.aV → p ∈ S'.aV
  | [], [], fr, fr', S, S', h, p, hp => by cases h; exact hp
  | h :: hs, i :: is, fr, fr', S, S', hr, p, hp => by
    unfold pN at hr
    repeat' split at hr
    all_goals first | (cases hr; done) | skip
    ·rename_i h0 _ _
     exact r9 hr p (vG h0 p hp)
    exact r9 hr p hp
  | [], _ :: _, _, _, _, _, h, _, _ => by cases h
  | _ :: _, [], _, _, _, _, h, _, _ => by cases h
theorem pP {junk : Nat → Value} {w : World} : ∀ {hs : List OH} {is : List Nat} {fr fr' : Fr} {T T' : SS}, pN P β N junk ops hs is fr T = some (fr', T') → (∀ p, p ∈ T'.aV → p) → T.used = true → T.hps = S →
    j8 P ops (NP Q) (Sat β S) l (cx N fr' junk) w → j8 P ops (NP Q) (Sat β S) (is.map (fun i => (true, i)) ++ l) (cx N fr junk) w
  | [], [], fr, fr', T, T', h, ho, hu, hT, hK => by cases h; exact hK
  | h :: hs, i :: is, fr, fr', T, T', hr, ho, hu, hT, hK => by
    unfold pN at hr
    repeat' split at hr
    all_goals first | (cases hr; done) | skip
    ·rename_i o hget _ hwant _ v T1 h0 _ hv
     obtain ⟨e1, e2⟩ := qN h0
     rw [List.map_cons, List.cons_append]
     unfold j8
     refine ⟨o, v, hget, .inl ⟨by rw [dK]; exact hwant, fun w' cP => ?_⟩, ?_⟩
     ·rw [di]
      obtain ⟨w2, h1, _, _, h4⟩ := kf h0 (fun p hp => ho p (r9 hr p hp)) (by rw [hT]; exact cP) (fun e => by rw [hu] at e; cases e)
      obtain ⟨ew, _⟩ := h4 rfl
      rw [ew] at h1
      rcases h1 with h1 | ⟨h1, _⟩
      ·exact h1
      exact absurd h1 (p6 hv)
     rw [dg]
     exact pP hr ho (e2.trans hu) (e1.trans hT) hK
    rename_i o hget _ hwant
    rw [List.map_cons, List.cons_append]
    unfold j8
    refine ⟨o, undef, hget, .inr ⟨by rw [dK]; exact hwant, rfl⟩, ?_⟩
    rw [dg]
    exact pP hr ho hu hT hK
  | [], _ :: _, _, _, _, _, h, _, _, _, _ => by cases h
  | _ :: _, [], _, _, _, _, h, _, _, _, _ => by cases h
theorem dQ.reads (is : List Nat) (hs : List OH) (idx : List Nat) (h : ∀ junk, Cp P β N junk ops hs is fr S idx = some (fr', aV)) (ho : iP aV) (hl : l' = is.map (fun i => (true, i)) ++ l) (K : dQ P β N ops S l fr' hps Q) : dQ P β N ops S l' fr hps Q := by
  intro junk w hS
  subst hl
  have h0 := h junk
  unfold Cp at h0
  split at h0
  ·rename_i jR S1 h1
   cases h0
   have hK := K (lk jR junk) w hS
   rw [← iO] at hK
   exact pP h1 (fun p hp => ho.mem hp) rfl rfl hK
  cases h0
theorem dQ.cut {ι : Type} {fr' : ι → Fr} {hp' : ι → List HP} (pk : List Nat) (hg : gB ops i = true) (h : aj P β N (oM ops i) i fr hps (NP (iY β N fr' hp'))) (hn : nodupB pk = true) (hp : ∀ j, bN (hp' j) pk = some S)
    (K : ∀ j, dQ P β N ops S l (fr' j) (hp' j) Q) : dQ P β N ops S ((false, i) :: l) fr hps Q := by
  intro junk w hS
  unfold j8
  refine uh hg (oO (Q' := _) (fun a w ⟨j, fC, ha, cP⟩ => ?_) _ (h junk w hS))
  subst ha
  exact ⟨.inr (cP.pick hn (hp j)), K j fC w cP⟩
theorem dQ.last (hg : gB ops i = true) (h : aj P β N (oM ops i) i fr hps (NP Q)) : dQ P β N ops S [(false, i)] fr hps Q := by
  intro junk w hS
  unfold j8
  exact uh hg (oO (Q' := _) (fun a w hq => ⟨.inl rfl, by unfold j8; exact hq⟩) _ (h junk w hS))
end mix
end
section
open Go.RowKit Go.Maps HeapM TabM
attribute [local irreducible] aj aT af ai
abbrev DI (cb : Nat) (c : aU) := (pC cb { c with other := 0, mode := 0, uid := 0, gid := 0, sec := 0, nano := 0 } : HP)
abbrev DJ (cb : Nat) (c : aU) (S : aG) (tk : Nat) := (pC cb { c with other := 0, mode := 0, uid := 0, gid := 0, sec := 0, nano := 0, answer := (obj S.O tk).id } : HP)
abbrev Nx (cb : Nat) (c : aU) (S : aG) (tk : Nat) := (pC cb { c with other := 1, mode := (obj S.O tk).mode, uid := (obj S.O tk).uid, gid := 0, sec := 0, nano := 0, answer := (obj S.O tk).id } : HP)
abbrev Ny (cb : Nat) (c : aU) (S : aG) (tk : Nat) := (pC cb { c with other := 1, mode := (obj S.O tk).mode, uid := (obj S.O tk).uid, gid := (obj S.O tk).gid, sec := 0, nano := 0, answer := (obj S.O tk).id } : HP)
abbrev Nz (cb : Nat) (c : aU) (S : aG) (tk : Nat) := (pC cb { c with other := 2, mode := (obj S.O tk).mode, uid := (obj S.O tk).uid, gid := 0, sec := 0, nano := 0, answer := (obj S.O tk).id } : HP)
abbrev NA (cb : Nat) (c : aU) (S : aG) (tk : Nat) := (pC cb { c with other := 2, mode := (obj S.O tk).mode, uid := (obj S.O tk).uid, gid := (obj S.O tk).gid, sec := 0, nano := 0, answer := (obj S.O tk).id } : HP)
abbrev NC (cb : Nat) (c : aU) (S : aG) (tk : Nat) := (pC cb { c with other := 3, mode := (obj S.O tk).mode, uid := (obj S.O tk).uid, gid := 0, sec := 0, nano := 0, answer := (obj S.O tk).id } : HP)
abbrev ND (cb : Nat) (c : aU) (S : aG) (tk : Nat) := (pC cb { c with other := 3, mode := (obj S.O tk).mode, uid := (obj S.O tk).uid, gid := (obj S.O tk).gid, sec := 0, nano := 0, answer := (obj S.O tk).id } : HP)
abbrev kN (S : aG) (tk : Nat) := ([(40, vI ((obj S.O tk).mode)), (44, vI ((obj S.O tk).uid)), (48, vI ((obj S.O tk).gid)), (52, .agg #[vI ((obj S.O tk).sec), vI ((obj S.O tk).nano)])] : Fr)
abbrev nY (S : aG) (tk : Nat) := ([(48, vI ((obj S.O tk).gid)), (52, .agg #[vI ((obj S.O tk).sec), vI ((obj S.O tk).nano)])] : Fr)
abbrev si (cb : Nat) (S : aG) (tk : Nat) := ([(26, vP cb), (27, vP cb), (28, vP cb), (29, vP cb), (30, vP cb), (34, vI ((obj S.O tk).id))] : Fr)
abbrev nZ (f : Nat) (m : Nat) (t) (S : aG) (L : HL) (cb : Nat) (c) (R : bR) := ([pF f m t S.X, pI m L S.idx, pO S.O L, pD S.O L, pE S.O L, pC cb c, .abs R] : List HP)
abbrev EG := ([(2, vI 0), (6, vI 0), (7, vI 0), (8, vI 0), (9, vI 0), (10, vI 0)] : Fr)
abbrev oe (cb : Nat) := ([(28, vP cb), (29, vP cb), (30, vP cb)] : Fr)
abbrev uj (L : HL) (to : Nat) (c : aU) := ([(61, .map (some (L.m to))), (65, .string c.text)] : Fr)
abbrev zh (cb : Nat) (S : aG) (tk : Nat) := ([(29, vP cb), (30, vP cb), (44, vI ((obj S.O tk).uid))] : Fr)
abbrev Ir (S : aG) (tk : Nat) (cb : Nat) := ([(52, .agg #[vI ((obj S.O tk).sec), vI ((obj S.O tk).nano)]), (64, .pointer (some ⟨cb, 9, none⟩))] : Fr)
abbrev EH (L : HL) (tk : Nat) := ([(5, .iface 89 (vP (L.b tk))), (6, vI 0)] : Fr)
abbrev EI (L : HL) (tk : Nat) := ([(5, .iface 96 (vP (L.b tk))), (6, vI 0)] : Fr)
abbrev Iu (t) (c : aU) := ([(13, vP t), (17, vI (c.handle))] : Fr)
abbrev Iw (t) (c : aU) := ([(11, vP t), (15, vI (c.handle))] : Fr)
abbrev Ix (S : aG) (tk : Nat) := ([(9, vI ((obj S.O tk).sec)), (10, vI ((obj S.O tk).nano))] : Fr)
theorem EJ {β : Bs} (S : aG) (L : HL) (f m t : Nat) (hI : Inv S) (cb : Nat) (c : aU) (hC : fB β c) :
    Spec Tryz.prog β 84 #[vP f, vP cb] ((pA f m t L S) ++ [pC cb c]) (fun v l => ∃ L2, v = vI (bW S c).1 ∧ l = ((pA f m t L2 ((bW S c).2.1)) ++ [.blk cb (fT ((bW S c).2.2)) 43])) := by
 have hX := hI.hX
 refine Spec.enter Tryz.func84 rfl Tryz.ntmps84 (Nat.le_of_ble_eq_true rfl) (fun R => ?_)
 refine SR ?_
 refine gK 1 [] [] ?_
 refine NN (af.seq ?_)
 refine af.bG (by kernel_rfl) (by kernel_rfl) ?_
 refine gQ 9 [(10, vP f), (14, vI (c.handle)), (18, .string c.name)] [(4, a_ 6 cb), (8, a_ 6 cb)] ?_
 rcases jd hI.toInv0 c.handle c.name 64 with ⟨e, hab, hne⟩ | ⟨d, hab, hd, fY, hgn, cE⟩
 ·refine aT.call (f := 134) (args := #[vP f, vI (c.handle), .string c.name, vI 64]) (d := (some 19)) (pre := (mM f m t S L)) (R := (lU m L S cb c R)) (pk := [0, 2, 3, 1, 4, 5, 6, 7]) (gy := [0, 3, 1, 2, 4, 5, 6, 7]) (v0 := .tuple #[.pointer none, vI (e)]) (fun _ => by kernel_rfl) ((by have h := cX S L f m t hI c.handle hC.hw c.name hC.nm 64 (β := β); rw [hab] at h; exact h)) rfl (by kernel_rfl) rfl (by kernel_rfl) (fun _ _ h => h) ?_
  refine gQ 5 [(5, .pointer none), (6, vI (e))] [] ?_
  refine NQ (NX (af.seq (SR ?_)))
  refine gK 2 [(23, .bool (!(decide ((e : Int) = (0 : Int)))))] [] ?_
  refine NN ?_
  refine af.ct (p := (e : Int) = (0 : Int)) (fun _ => by kernel_rfl) (fun h23 => ?_) (fun h23 => ?_)
  ·refine SR ?_
   refine gK 2 [(4, vI (e))] [] ?_
   refine NN (af.ret (ai.aq ?_))
   exact RT (vI (e)) [0, 1, 2, 3, 4, 5, 6, 7] (⟨L, by rw [show (bW S c) = (e, S, c) by unfold bW; rw [hab]] <;> exact ⟨rfl, rfl⟩⟩)
  exact absurd h23 hne
 have hkd : (obj S.O d).kind = 2 := hI.kind hd
 refine aT.call (f := 134) (args := #[vP f, vI (c.handle), .string c.name, vI 64]) (d := (some 19)) (pre := (mM f m t S L)) (R := (lU m L S cb c R)) (pk := [0, 2, 3, 1, 4, 5, 6, 7]) (gy := [0, 3, 1, 2, 4, 5, 6, 7]) (v0 := .tuple #[vP (L.b d), vI 0]) (fun _ => by kernel_rfl) ((by have h := cX S L f m t hI c.handle hC.hw c.name hC.nm 64 (β := β); rw [hab] at h; exact h)) rfl (by kernel_rfl) rfl (by kernel_rfl) (fun _ _ h => h) ?_
 refine gQ 5 (Cl L d) [] ?_
 refine NQ (NX (af.seq (SR ?_)))
 refine gK 2 [(23, .bool false)] [] ?_
 refine NN ?_
 refine CF ?_
 refine af.skip (NX (af.seq ?_))
 refine af.bG (by kernel_rfl) (by kernel_rfl) ?_
 refine gQ 9 [(26, vP f), (30, vI (c.other)), (34, .string c.text)] [(4, a_ 6 cb), (8, a_ 6 cb)] ?_
 rcases jd hI.toInv0 c.other c.text 192 with ⟨e2, iG, Co⟩ | ⟨to, iG, hd2, LI, Iq, Ow⟩
 ·refine aT.call (f := 134) (args := #[vP f, vI (c.other), .string c.text, vI 192]) (d := (some 35)) (pre := (mM f m t S L)) (R := (lU m L S cb c R)) (pk := [0, 2, 3, 1, 4, 5, 6, 7]) (gy := [0, 3, 1, 2, 4, 5, 6, 7]) (v0 := .tuple #[.pointer none, vI (e2)]) (fun _ => by kernel_rfl) ((by have h := cX S L f m t hI c.other hC.ow c.text hC.tx 192 (β := β); rw [iG] at h; exact h)) rfl (by kernel_rfl) rfl (by kernel_rfl) (fun _ _ h => h) ?_
  refine gQ 5 [(6, vI (e2)), (7, .pointer none)] [] ?_
  refine NQ (NX (af.seq (SR ?_)))
  refine gK 2 [(39, .bool (!(decide ((e2 : Int) = (0 : Int)))))] [] ?_
  refine NN ?_
  refine af.ct (p := (e2 : Int) = (0 : Int)) (fun _ => by kernel_rfl) (fun mI => ?_) (fun mI => ?_)
  ·refine SR ?_
   refine gK 2 [(4, vI (e2))] [] ?_
   refine NN (af.ret (ai.aq ?_))
   exact RT (vI (e2)) [0, 1, 2, 3, 4, 5, 6, 7] (⟨L, by rw [show (bW S c) = (e2, S, c) by unfold bW; rw [hab]; simp only; rw [iG]] <;> exact ⟨rfl, rfl⟩⟩)
  exact absurd mI Co
 have cY : (obj S.O to).kind = 2 := hI.kind hd2
 refine aT.call (f := 134) (args := #[vP f, vI (c.other), .string c.text, vI 192]) (d := (some 35)) (pre := (mM f m t S L)) (R := (lU m L S cb c R)) (pk := [0, 2, 3, 1, 4, 5, 6, 7]) (gy := [0, 3, 1, 2, 4, 5, 6, 7]) (v0 := .tuple #[vP (L.b to), vI 0]) (fun _ => by kernel_rfl) ((by have h := cX S L f m t hI c.other hC.ow c.text hC.tx 192 (β := β); rw [iG] at h; exact h)) rfl (by kernel_rfl) rfl (by kernel_rfl) (fun _ _ h => h) ?_
 refine gQ 5 [(6, vI 0), (7, vP (L.b to))] [] ?_
 refine NQ (NX (af.seq (SR ?_)))
 refine gK 2 [(39, .bool false)] [] ?_
 refine NN ?_
 refine CF ?_
 refine af.skip (NX (af.seq ?_))
 have hel : (obj S.O d).ah.length ≤ 8192 := hI.eM hd
 have Na := hC.nm
 rcases hI.jS hd c.name with hlk | ⟨tk, hlk, hlv⟩ | ⟨tk, hlk, hlv⟩ | ⟨tk, hlk, hlv⟩
 ·refine af.bG (by kernel_rfl) (by kernel_rfl) ?_
  refine gQ 8 [(44, .map (some (L.m d))), (48, .string c.name)] [(3, v_ 3 (bC L hkd)), (7, a_ 6 cb)] ?_
  refine oo 5 hkd hlk ?_
  refine gQ 1 [(8, .nilIface)] [] ?_
  refine NQ (NX (af.seq (af.block (SR ?_))))
  refine gK 3 [(50, .bool true)] [] ?_
  refine NN ?_
  refine CT ?_
  refine SR ?_
  refine gK 1 [(4, vI 170)] [] ?_
  refine NN (af.ret (ai.aE (ai.aq ?_)))
  exact RT (vI 170) [0, 1, 2, 3, 4, 5, 6, 7] (⟨L, by rw [show (bW S c) = (170, S, c) by unfold bW; rw [hab]; simp only; rw [iG]; simp only; rw [show (linkM S d c.name to c.text) = (170, S) by unfold linkM; rw [hlk]]] <;> exact ⟨rfl, rfl⟩⟩)
 ·have hkt : (obj S.O tk).kind = 1 := hI.kind hlv
  refine af.bG (by kernel_rfl) (by kernel_rfl) ?_
  refine gQ 8 [(44, .map (some (L.m d))), (48, .string c.name)] [(3, v_ 3 (bC L hkd)), (7, a_ 6 cb)] ?_
  refine oo 5 hkd hlk ?_
  refine gQ 1 [(8, .iface 89 (vP (L.b tk)))] [] ?_
  refine NQ (NX (af.seq (af.block (SR ?_))))
  refine gK 3 [(50, .bool false)] [] ?_
  refine NN ?_
  refine CF ?_
  refine SR ?_
  refine gK 1 [(54, .iface 89 (vP (L.b tk)))] [] ?_
  refine gL [] (jw (vP (L.b tk))) ?_
  rintro _ _ ⟨rfl, rfl⟩
  refine gK 2 [(53, .bool false)] [] ?_
  refine NN ?_
  refine CF ?_
  refine af.seq ?_
  have wz : (obj S.O to).ah.length ≤ 8192 := hI.eM hd2
  have Gp := hC.tx
  rcases hI.jS hd2 c.text with bn | ⟨ok, bn, dh⟩ | ⟨ok, bn, dh⟩ | ⟨ok, bn, dh⟩
  ·refine af.bG (by kernel_rfl) (by kernel_rfl) ?_
   refine gQ 8 (uj L to c) [(3, v_ 3 (bC L cY)), (7, a_ 6 cb)] ?_
   refine oo 5 cY bn ?_
   refine gQ 2 [(57, .bool false)] [] ?_
   refine NQ (NX ?_)
   refine CF ?_
   refine SR ?_
   refine gK 1 [(69, vP f)] [] ?_
   refine gL [0] (qH S.X f m t) ?_
   rintro _ _ ⟨rfl, rfl⟩
   refine gK 2 [(68, .bool (!(decide (S.X.ah < 8192))))] [] ?_
   refine NN ?_
   refine af.ct (p := S.X.ah < 8192) (fun _ => by kernel_rfl) (fun h68 => ?_) (fun h68 => ?_)
   ·refine SR ?_
    refine gK 1 [(4, vI 177)] [] ?_
    refine NN (af.ret (ai.aE (ai.aq ?_)))
    exact RT (vI 177) [0, 1, 2, 3, 4, 5, 6, 7] (⟨L, by rw [show (bW S c) = (177, S, c) by unfold bW; rw [hab]; simp only; rw [iG]; simp only; rw [show (linkM S d c.name to c.text) = (177, S) by unfold linkM; rw [hlk]; exact (if_neg (by simp)).trans ((if_pos bn).trans (if_neg h68))]] <;> exact ⟨rfl, rfl⟩⟩)
   refine af.skip (ai.aQ (NX (SR ?_)))
   refine gK 7 [(72, vP f), (73, vP (L.b to)), (77, .string c.text), (78, .iface 89 (vP (L.b tk)))] [(5, a_ 6 cb)] ?_
   refine gL [0, 3, 5] (fO S.X f m t hX S.O L to cY c.text hC.tx bn (by omega) ⟨tk, 1⟩ hkt (by simp) (by have := hI.lb hlv; simp only at this ⊢; omega)) ?_
   rintro _ _ ⟨rfl, rfl⟩
   refine NS ?_
   refine aj.mem (aR := [.blk f [vI (S.X.cN), vI (S.X.cB), vI (S.X.cH), vI (S.X.cS), vI (S.X.cZ), .map (some m), vP t, vI (S.X.last), vI (S.X.ah + 1), vI (S.X.used)] 86, .abs (ak (aN (br S.X S.O to c.text ⟨tk, 1⟩) L)), .abs (ak (bg (br S.X S.O to c.text ⟨tk, 1⟩) L)), .abs (aI Tryz.prog 3 m (aM (aJ L S.idx)) S.idx.length), .abs (bp 156 t S.X.cH S.au (aJ L S.us)), .abs (ak (aY (br S.X S.O to c.text ⟨tk, 1⟩) L)), .blk cb [vI (c.op), vI (c.handle), vI (c.other), .string c.name, .string c.text, .slice c.dA (c.data.length) (c.dC), vI (c.mode), vI (c.uid), vI (c.gid), vI (c.sec), vI (c.nano), vI (c.code), vI (c.answer)] 43, .abs R]) (fun w hS => by rw [show aY (br S.X S.O to c.text ⟨tk, 1⟩) L = aY S.O L from fA]; exact hS) ?_
   refine gK 1 [(4, vI 0)] [] ?_
   refine NN (af.ret ?_)
   exact RT (vI 0) [0, 3, 4, 1, 5, 2, 6, 7] (⟨L, by rw [show (bW S c) = (0, { S with X := { S.X with ah := S.X.ah + 1 }, O := br S.X S.O to c.text ⟨tk, 1⟩ }, c) by unfold bW; rw [hab]; simp only; rw [iG]; simp only; rw [show (linkM S d c.name to c.text) = (0, { S with X := { S.X with ah := S.X.ah + 1 }, O := br S.X S.O to c.text ⟨tk, 1⟩ }) by unfold linkM; rw [hlk]; exact (if_neg (by simp)).trans ((if_pos bn).trans (if_pos h68))]] <;> exact ⟨rfl, rfl⟩⟩)
  ·have jh : (obj S.O ok).kind = 1 := hI.kind dh
   refine af.bG (by kernel_rfl) (by kernel_rfl) ?_
   refine gQ 8 (uj L to c) [(3, v_ 3 (bC L cY)), (7, a_ 6 cb)] ?_
   refine oo 5 cY bn ?_
   refine gQ 2 [(57, .bool true)] [] ?_
   refine NQ (NX ?_)
   refine CT ?_
   refine SR ?_
   refine gK 1 [(4, vI 171)] [] ?_
   refine NN (af.ret (ai.aE (ai.aq ?_)))
   exact RT (vI 171) [0, 1, 2, 3, 4, 5, 6, 7] (⟨L, by rw [show (bW S c) = (171, S, c) by unfold bW; rw [hab]; simp only; rw [iG]; simp only; rw [show (linkM S d c.name to c.text) = (171, S) by unfold linkM; rw [hlk]; exact (if_neg (by simp)).trans (if_neg (by rw [bn]; simp))]] <;> exact ⟨rfl, rfl⟩⟩)
  ·have jh : (obj S.O ok).kind = 2 := hI.kind dh
   refine af.bG (by kernel_rfl) (by kernel_rfl) ?_
   refine gQ 8 (uj L to c) [(3, v_ 3 (bC L cY)), (7, a_ 6 cb)] ?_
   refine oo 5 cY bn ?_
   refine gQ 2 [(57, .bool true)] [] ?_
   refine NQ (NX ?_)
   refine CT ?_
   refine SR ?_
   refine gK 1 [(4, vI 171)] [] ?_
   refine NN (af.ret (ai.aE (ai.aq ?_)))
   exact RT (vI 171) [0, 1, 2, 3, 4, 5, 6, 7] (⟨L, by rw [show (bW S c) = (171, S, c) by unfold bW; rw [hab]; simp only; rw [iG]; simp only; rw [show (linkM S d c.name to c.text) = (171, S) by unfold linkM; rw [hlk]; exact (if_neg (by simp)).trans (if_neg (by rw [bn]; simp))]] <;> exact ⟨rfl, rfl⟩⟩)
  have jh : (obj S.O ok).kind = 3 := hI.kind dh
  refine af.bG (by kernel_rfl) (by kernel_rfl) ?_
  refine gQ 8 (uj L to c) [(3, v_ 3 (bC L cY)), (7, a_ 6 cb)] ?_
  refine oo 5 cY bn ?_
  refine gQ 2 [(57, .bool true)] [] ?_
  refine NQ (NX ?_)
  refine CT ?_
  refine SR ?_
  refine gK 1 [(4, vI 171)] [] ?_
  refine NN (af.ret (ai.aE (ai.aq ?_)))
  exact RT (vI 171) [0, 1, 2, 3, 4, 5, 6, 7] (⟨L, by rw [show (bW S c) = (171, S, c) by unfold bW; rw [hab]; simp only; rw [iG]; simp only; rw [show (linkM S d c.name to c.text) = (171, S) by unfold linkM; rw [hlk]; exact (if_neg (by simp)).trans (if_neg (by rw [bn]; simp))]] <;> exact ⟨rfl, rfl⟩⟩)
 ·have hkt : (obj S.O tk).kind = 2 := hI.kind hlv
  refine af.bG (by kernel_rfl) (by kernel_rfl) ?_
  refine gQ 8 [(44, .map (some (L.m d))), (48, .string c.name)] [(3, v_ 3 (bC L hkd)), (7, a_ 6 cb)] ?_
  refine oo 5 hkd hlk ?_
  refine gQ 1 [(8, .iface 96 (vP (L.b tk)))] [] ?_
  refine NQ (NX (af.seq (af.block (SR ?_))))
  refine gK 3 [(50, .bool false)] [] ?_
  refine NN ?_
  refine CF ?_
  refine SR ?_
  refine gK 1 [(54, .iface 96 (vP (L.b tk)))] [] ?_
  refine gL [] (jA (vP (L.b tk))) ?_
  rintro _ _ ⟨rfl, rfl⟩
  refine gK 2 [(53, .bool true)] [] ?_
  refine NN ?_
  refine CT ?_
  refine SR ?_
  refine gK 1 [(4, vI 172)] [] ?_
  refine NN (af.ret (ai.aE (ai.aq ?_)))
  exact RT (vI 172) [0, 1, 2, 3, 4, 5, 6, 7] (⟨L, by rw [show (bW S c) = (172, S, c) by unfold bW; rw [hab]; simp only; rw [iG]; simp only; rw [show (linkM S d c.name to c.text) = (172, S) by unfold linkM; rw [hlk]; exact if_pos rfl]] <;> exact ⟨rfl, rfl⟩⟩)
 have hkt : (obj S.O tk).kind = 3 := hI.kind hlv
 refine af.bG (by kernel_rfl) (by kernel_rfl) ?_
 refine gQ 8 [(44, .map (some (L.m d))), (48, .string c.name)] [(3, v_ 3 (bC L hkd)), (7, a_ 6 cb)] ?_
 refine oo 5 hkd hlk ?_
 refine gQ 1 [(8, .iface 93 (vP (L.b tk)))] [] ?_
 refine NQ (NX (af.seq (af.block (SR ?_))))
 refine gK 3 [(50, .bool false)] [] ?_
 refine NN ?_
 refine CF ?_
 refine SR ?_
 refine gK 1 [(54, .iface 93 (vP (L.b tk)))] [] ?_
 refine gL [] (j5 (vP (L.b tk))) ?_
 rintro _ _ ⟨rfl, rfl⟩
 refine gK 2 [(53, .bool false)] [] ?_
 refine NN ?_
 refine CF ?_
 refine af.seq ?_
 have wz : (obj S.O to).ah.length ≤ 8192 := hI.eM hd2
 have Gp := hC.tx
 rcases hI.jS hd2 c.text with bn | ⟨ok, bn, dh⟩ | ⟨ok, bn, dh⟩ | ⟨ok, bn, dh⟩
 ·refine af.bG (by kernel_rfl) (by kernel_rfl) ?_
  refine gQ 8 (uj L to c) [(3, v_ 3 (bC L cY)), (7, a_ 6 cb)] ?_
  refine oo 5 cY bn ?_
  refine gQ 2 [(57, .bool false)] [] ?_
  refine NQ (NX ?_)
  refine CF ?_
  refine SR ?_
  refine gK 1 [(69, vP f)] [] ?_
  refine gL [0] (qH S.X f m t) ?_
  rintro _ _ ⟨rfl, rfl⟩
  refine gK 2 [(68, .bool (!(decide (S.X.ah < 8192))))] [] ?_
  refine NN ?_
  refine af.ct (p := S.X.ah < 8192) (fun _ => by kernel_rfl) (fun h68 => ?_) (fun h68 => ?_)
  ·refine SR ?_
   refine gK 1 [(4, vI 177)] [] ?_
   refine NN (af.ret (ai.aE (ai.aq ?_)))
   exact RT (vI 177) [0, 1, 2, 3, 4, 5, 6, 7] (⟨L, by rw [show (bW S c) = (177, S, c) by unfold bW; rw [hab]; simp only; rw [iG]; simp only; rw [show (linkM S d c.name to c.text) = (177, S) by unfold linkM; rw [hlk]; exact (if_neg (by simp)).trans ((if_pos bn).trans (if_neg h68))]] <;> exact ⟨rfl, rfl⟩⟩)
  refine af.skip (ai.aQ (NX (SR ?_)))
  refine gK 7 [(72, vP f), (73, vP (L.b to)), (77, .string c.text), (78, .iface 93 (vP (L.b tk)))] [(5, a_ 6 cb)] ?_
  refine gL [0, 3, 5] (fO S.X f m t hX S.O L to cY c.text hC.tx bn (by omega) ⟨tk, 3⟩ hkt (by simp) (by have := hI.lb hlv; simp only at this ⊢; omega)) ?_
  rintro _ _ ⟨rfl, rfl⟩
  refine NS ?_
  refine aj.mem (aR := [.blk f [vI (S.X.cN), vI (S.X.cB), vI (S.X.cH), vI (S.X.cS), vI (S.X.cZ), .map (some m), vP t, vI (S.X.last), vI (S.X.ah + 1), vI (S.X.used)] 86, .abs (ak (aN (br S.X S.O to c.text ⟨tk, 3⟩) L)), .abs (ak (bg (br S.X S.O to c.text ⟨tk, 3⟩) L)), .abs (aI Tryz.prog 3 m (aM (aJ L S.idx)) S.idx.length), .abs (bp 156 t S.X.cH S.au (aJ L S.us)), .abs (ak (aY (br S.X S.O to c.text ⟨tk, 3⟩) L)), .blk cb [vI (c.op), vI (c.handle), vI (c.other), .string c.name, .string c.text, .slice c.dA (c.data.length) (c.dC), vI (c.mode), vI (c.uid), vI (c.gid), vI (c.sec), vI (c.nano), vI (c.code), vI (c.answer)] 43, .abs R]) (fun w hS => by rw [show aY (br S.X S.O to c.text ⟨tk, 3⟩) L = aY S.O L from fA]; exact hS) ?_
  refine gK 1 [(4, vI 0)] [] ?_
  refine NN (af.ret ?_)
  exact RT (vI 0) [0, 3, 4, 1, 5, 2, 6, 7] (⟨L, by rw [show (bW S c) = (0, { S with X := { S.X with ah := S.X.ah + 1 }, O := br S.X S.O to c.text ⟨tk, 3⟩ }, c) by unfold bW; rw [hab]; simp only; rw [iG]; simp only; rw [show (linkM S d c.name to c.text) = (0, { S with X := { S.X with ah := S.X.ah + 1 }, O := br S.X S.O to c.text ⟨tk, 3⟩ }) by unfold linkM; rw [hlk]; exact (if_neg (by simp)).trans ((if_pos bn).trans (if_pos h68))]] <;> exact ⟨rfl, rfl⟩⟩)
 ·have jh : (obj S.O ok).kind = 1 := hI.kind dh
  refine af.bG (by kernel_rfl) (by kernel_rfl) ?_
  refine gQ 8 (uj L to c) [(3, v_ 3 (bC L cY)), (7, a_ 6 cb)] ?_
  refine oo 5 cY bn ?_
  refine gQ 2 [(57, .bool true)] [] ?_
  refine NQ (NX ?_)
  refine CT ?_
  refine SR ?_
  refine gK 1 [(4, vI 171)] [] ?_
  refine NN (af.ret (ai.aE (ai.aq ?_)))
  exact RT (vI 171) [0, 1, 2, 3, 4, 5, 6, 7] (⟨L, by rw [show (bW S c) = (171, S, c) by unfold bW; rw [hab]; simp only; rw [iG]; simp only; rw [show (linkM S d c.name to c.text) = (171, S) by unfold linkM; rw [hlk]; exact (if_neg (by simp)).trans (if_neg (by rw [bn]; simp))]] <;> exact ⟨rfl, rfl⟩⟩)
 ·have jh : (obj S.O ok).kind = 2 := hI.kind dh
  refine af.bG (by kernel_rfl) (by kernel_rfl) ?_
  refine gQ 8 (uj L to c) [(3, v_ 3 (bC L cY)), (7, a_ 6 cb)] ?_
  refine oo 5 cY bn ?_
  refine gQ 2 [(57, .bool true)] [] ?_
  refine NQ (NX ?_)
  refine CT ?_
  refine SR ?_
  refine gK 1 [(4, vI 171)] [] ?_
  refine NN (af.ret (ai.aE (ai.aq ?_)))
  exact RT (vI 171) [0, 1, 2, 3, 4, 5, 6, 7] (⟨L, by rw [show (bW S c) = (171, S, c) by unfold bW; rw [hab]; simp only; rw [iG]; simp only; rw [show (linkM S d c.name to c.text) = (171, S) by unfold linkM; rw [hlk]; exact (if_neg (by simp)).trans (if_neg (by rw [bn]; simp))]] <;> exact ⟨rfl, rfl⟩⟩)
 have jh : (obj S.O ok).kind = 3 := hI.kind dh
 refine af.bG (by kernel_rfl) (by kernel_rfl) ?_
 refine gQ 8 (uj L to c) [(3, v_ 3 (bC L cY)), (7, a_ 6 cb)] ?_
 refine oo 5 cY bn ?_
 refine gQ 2 [(57, .bool true)] [] ?_
 refine NQ (NX ?_)
 refine CT ?_
 refine SR ?_
 refine gK 1 [(4, vI 171)] [] ?_
 refine NN (af.ret (ai.aE (ai.aq ?_)))
 exact RT (vI 171) [0, 1, 2, 3, 4, 5, 6, 7] (⟨L, by rw [show (bW S c) = (171, S, c) by unfold bW; rw [hab]; simp only; rw [iG]; simp only; rw [show (linkM S d c.name to c.text) = (171, S) by unfold linkM; rw [hlk]; exact (if_neg (by simp)).trans (if_neg (by rw [bn]; simp))]] <;> exact ⟨rfl, rfl⟩⟩)
theorem Dd {β : Bs} (S : aG) (L : HL) (f m t : Nat) (hI : Inv S) (cb : Nat) (c : aU) (hC : fB β c) :
    Spec Tryz.prog β 86 #[vP f, vP cb] ((pA f m t L S) ++ [pC cb c]) (fun v l => ∃ L2, v = vI (fw S c).1 ∧ l = ((pA f m t L2 ((fw S c).2.1)) ++ [.blk cb (fT ((fw S c).2.2)) 43])) := by
 have hX := hI.hX
 refine Spec.enter Tryz.func86 rfl Tryz.ntmps86 (Nat.le_of_ble_eq_true rfl) (fun R => ?_)
 refine af.seq ?_
 rcases hI.hand c.handle with cE | ⟨tk, cE, hlv⟩ | ⟨tk, cE, hlv⟩
 ·refine af.region ?_
  refine gK 1 [] [] ?_
  refine NN (af.seq ?_)
  refine af.bG (by kernel_rfl) (by kernel_rfl) ?_
  refine gQ 8 (Iu t c) [(3, a_ 0 f), (7, a_ 6 cb)] ?_
  refine aT.call (f := 136) (args := #[vP t, vI (c.handle)]) (d := (some 18)) (pre := [jF t S L]) (R := (nZ f m t S L cb c R)) (pk := [2, 0, 1, 3, 4, 5, 6, 7]) (gy := [1, 2, 0, 3, 4, 5, 6, 7]) (v0 := .tuple #[.nilIface, vI 131]) (fun _ => by kernel_rfl) (nK t S.X.cH S.au (aJ L S.us) c.handle hC.hw (mU cE)) rfl (by kernel_rfl) rfl (by kernel_rfl) (fun _ _ h => h) ?_
  refine gQ 5 [(5, .nilIface), (6, vI 131)] [] ?_
  refine NQ (NX (af.seq (SR ?_)))
  refine gK 2 [(22, .bool true)] [] ?_
  refine NN ?_
  refine CT ?_
  refine SR ?_
  refine gK 2 [(4, vI 131)] [] ?_
  refine NN (af.ret (ai.aq ?_))
  exact RT (vI 131) [0, 1, 2, 3, 4, 5, 6, 7] (⟨L, by rw [show (fw S c) = (131, S, c) by unfold fw; rw [cE]] <;> exact ⟨rfl, rfl⟩⟩)
 ·have hkt : (obj S.O tk).kind = 1 := hI.kind hlv
  refine af.region ?_
  refine gK 1 [] [] ?_
  refine NN (af.seq ?_)
  refine af.bG (by kernel_rfl) (by kernel_rfl) ?_
  refine gQ 8 (Iu t c) [(3, a_ 0 f), (7, a_ 6 cb)] ?_
  refine aT.call (f := 136) (args := #[vP t, vI (c.handle)]) (d := (some 18)) (pre := [jF t S L]) (R := (nZ f m t S L cb c R)) (pk := [2, 0, 1, 3, 4, 5, 6, 7]) (gy := [1, 2, 0, 3, 4, 5, 6, 7]) (v0 := .tuple #[.iface 89 (vP (L.b tk)), vI 0]) (fun _ => by kernel_rfl) (ju t S.X.cH S.au (aJ L S.us) c.handle hC.hw (cI L ⟨tk, 1⟩) (iT cE)) rfl (by kernel_rfl) rfl (by kernel_rfl) (fun _ _ h => h) ?_
  refine gQ 5 (EH L tk) [] ?_
  refine NQ (NX (af.seq (SR ?_)))
  refine gK 2 [(22, .bool false)] [] ?_
  refine NN ?_
  refine CF ?_
  refine af.skip (NX (SR ?_))
  refine gK 7 [(7, vP (L.b tk)), (8, .bool true)] [] ?_
  refine NN (af.seq (SR ?_))
  refine gK 2 [(30, .bool false)] [] ?_
  refine NN ?_
  refine CF ?_
  refine af.skip (NX (SR ?_))
  refine gK 7 [(32, vP cb), (33, vP f), (34, vP (L.b tk)), (38, .slice c.dA (c.data.length) (c.dC))] [(6, a_ 6 cb)] ?_
  refine gL [0, 1, 2, 3, 4, 5] (Ab S L f m t hI tk hlv c.dA c.dC c.data hC.da hC.dl hC.dc) ?_
  rintro _ _ ⟨L2, rfl, rfl⟩
  refine gC 7 [(6, vI ((writeM S tk c.data).2.1))] [(5, a_ 6 cb)] [(6, [(12, vI ((writeM S tk c.data).1))])] ?_
  refine NS ?_
  refine gK 2 [(4, vI ((writeM S tk c.data).2.1))] [] ?_
  refine NN (af.ret ?_)
  exact RT (vI ((writeM S tk c.data).2.1)) [0, 1, 2, 3, 4, 5, 6, 7] (⟨L2, by rw [show (fw S c) = ((writeM S tk c.data).2.1, (writeM S tk c.data).2.2, { c with answer := (writeM S tk c.data).1 }) by unfold fw; rw [cE]; exact if_pos rfl] <;> exact ⟨rfl, rfl⟩⟩)
 have hkt : (obj S.O tk).kind = 2 := hI.kind hlv
 refine af.region ?_
 refine gK 1 [] [] ?_
 refine NN (af.seq ?_)
 refine af.bG (by kernel_rfl) (by kernel_rfl) ?_
 refine gQ 8 (Iu t c) [(3, a_ 0 f), (7, a_ 6 cb)] ?_
 refine aT.call (f := 136) (args := #[vP t, vI (c.handle)]) (d := (some 18)) (pre := [jF t S L]) (R := (nZ f m t S L cb c R)) (pk := [2, 0, 1, 3, 4, 5, 6, 7]) (gy := [1, 2, 0, 3, 4, 5, 6, 7]) (v0 := .tuple #[.iface 96 (vP (L.b tk)), vI 0]) (fun _ => by kernel_rfl) (ju t S.X.cH S.au (aJ L S.us) c.handle hC.hw (cI L ⟨tk, 2⟩) (iT cE)) rfl (by kernel_rfl) rfl (by kernel_rfl) (fun _ _ h => h) ?_
 refine gQ 5 (EI L tk) [] ?_
 refine NQ (NX (af.seq (SR ?_)))
 refine gK 2 [(22, .bool false)] [] ?_
 refine NN ?_
 refine CF ?_
 refine af.skip (NX (SR ?_))
 refine gK 7 [(7, .pointer none), (8, .bool false)] [] ?_
 refine NN (af.seq (SR ?_))
 refine gK 2 [(30, .bool true)] [] ?_
 refine NN ?_
 refine CT ?_
 refine SR ?_
 refine gK 1 [(4, vI 172)] [] ?_
 refine NN (af.ret (ai.aq ?_))
 exact RT (vI 172) [0, 1, 2, 3, 4, 5, 6, 7] (⟨L, by rw [show (fw S c) = (172, S, c) by unfold fw; rw [cE]; exact if_neg (by simp)] <;> exact ⟨rfl, rfl⟩⟩)
theorem lq {β : Bs} (S : aG) (L : HL) (hI : Inv S) (cb : Nat) (c : aU) (ot : Option Th) (ht : ot = none ∨ (∃ k, ot = some ⟨k, 1⟩ ∧ Live S.idx ⟨k, 1⟩) ∨ (∃ k, ot = some ⟨k, 2⟩ ∧ Live S.idx ⟨k, 2⟩) ∨ ∃ k, ot = some ⟨k, 3⟩ ∧ Live S.idx ⟨k, 3⟩) :
    Spec Tryz.prog β 137 #[vP cb, (match ot with | none => .nilIface | some th => cI L th)] [pO S.O L, pC cb c] (fun v l => v = .tuple #[] ∧ l = [pO S.O L, .blk cb (fT (kX S.O c ot)) 43]) := by
 refine Spec.enter Tryz.func137 rfl Tryz.ntmps137 (Nat.le_of_ble_eq_true rfl) (fun R => ?_)
 refine af.seq ?_
 rcases ht with rfl | ⟨tk, rfl, hlv⟩ | ⟨tk, rfl, hlv⟩ | ⟨tk, rfl, hlv⟩
 ·refine af.region ?_
  refine gC 21 [] [(8, a_ 1 cb), (11, a_ 1 cb), (14, a_ 1 cb), (17, a_ 1 cb), (20, A_ 1 cb 2)] [(1, (EG))] ?_
  refine NN (af.seq (SR ?_))
  refine gK 2 [(22, .bool true)] [] ?_
  refine NN ?_
  refine CT ?_
  refine af.ret (ai.aq ?_)
  exact RT (.tuple #[]) [0, 1, 2] (⟨rfl, rfl⟩)
 ·have hkt : (obj S.O tk).kind = 1 := hI.kind hlv
  refine af.region ?_
  refine gC 21 [] [(8, a_ 1 cb), (11, a_ 1 cb), (14, a_ 1 cb), (17, a_ 1 cb), (20, A_ 1 cb 2)] [(1, (EG))] ?_
  refine NN (af.seq (SR ?_))
  refine gK 2 [(22, .bool false)] [] ?_
  refine NN ?_
  refine CF ?_
  refine af.skip (NX (SR ?_))
  refine gK 1 [(23, .iface 89 (vP (L.b tk)))] [] ?_
  refine gL [] (cr (L.b tk)) ?_
  rintro _ _ ⟨rfl, rfl⟩
  refine gK 1 [(4, vP (L.b tk))] [] ?_
  refine NN ?_
  refine af.bZ (S := [pO S.O L]) [0, 1, 2, 3, 4, 5, 6, 7, 8, 9, 10, 12, 13, 14, 15, 16, 17, 18, 19, 20, 21, 22, 23, 24, 25, 26, 27, 11, 28, 29, 30, 31, 32, 33, 34, 35, 36, 37, 38, 39, 40, 41, 42, 43, 44, 45] 27 [0] (by kernel_rfl) (by kernel_rfl) rfl (by kernel_rfl) ?_
  refine aF.reads (r := 0) (l := [11, 28, 29, 30, 31, 32, 33, 34, 35, 36, 37, 38, 39, 40, 41, 42, 43, 44, 45]) (fr' := ([(25, vP cb)] ++ si cb S tk ++ [(35, .iface 89 (vP (L.b tk)))] ++ kN S tk)) (aV := [(∀ F w, (ak (aN S.O L)).h F w → w.cell? ⟨(L.b tk), 5, none⟩ = some (vI ((obj S.O tk).nano))), (∀ F w, (ak (aN S.O L)).h F w → w.cell? ⟨(L.b tk), 4, none⟩ = some (vI ((obj S.O tk).sec))), (∀ F w, (ak (aN S.O L)).h F w → w.cell? ⟨(L.b tk), 3, none⟩ = some (vI ((obj S.O tk).gid))), (∀ F w, (ak (aN S.O L)).h F w → w.cell? ⟨(L.b tk), 2, none⟩ = some (vI ((obj S.O tk).uid))), (∀ F w, (ak (aN S.O L)).h F w → w.cell? ⟨(L.b tk), 1, none⟩ = some (vI ((obj S.O tk).mode))), (∀ F w, (ak (aN S.O L)).h F w → w.cell? ⟨(L.b tk), 0, none⟩ = some (vI ((obj S.O tk).id)))]) [0, 1, 2, 3, 4, 5, 6, 7, 8, 9, 10, 12, 13, 14, 15, 16, 17, 18, 19, 20, 21, 22, 23, 24, 25, 26, 27] [o_, o_, o_, o_, o_, o_, o_, o_, o_, ⟨[.view 0 (.int .i64 ((obj S.O tk).id))], none, none, none, none⟩, o_, o_, o_, o_, ⟨[.view 0 (.int .i64 ((obj S.O tk).mode))], none, none, none, none⟩, o_, o_, o_, ⟨[.view 0 (.int .i64 ((obj S.O tk).uid))], none, none, none, none⟩, o_, o_, o_, ⟨[.view 0 (.int .i64 ((obj S.O tk).gid))], none, none, none, none⟩, o_, o_, o_, ⟨[.view 0 (.int .i64 ((obj S.O tk).sec)), .view 0 (.int .i64 ((obj S.O tk).nano))], none, none, none, none⟩] [25, 26, 27, 28, 29, 30, 34, 35, 40, 44, 48, 52] (fun _ => by kernel_rfl) ⟨bq (by rw [hkt]; decide) (rfl), bq (by rw [hkt]; decide) (rfl), bq (by rw [hkt]; decide) (rfl), bq (by rw [hkt]; decide) (rfl), bq (by rw [hkt]; decide) (rfl), bq (by rw [hkt]; decide) (rfl), trivial⟩ rfl rfl ?_
  refine mL [0] [] (jw (vP (L.b tk))) ?_ (by rintro _ _ ⟨rfl, rfl⟩; rfl)
  rintro _ _ ⟨rfl, rfl⟩
  refine aF.cut (ι := Unit) (fr' := fun (_ : Unit) => (si cb S tk ++ [(36, vI 1)] ++ kN S tk ++ [(53, vP cb)])) (hp' := fun (_ : Unit) => [pO S.O L, DI cb c, .abs R]) [0] rfl rfl ?_ rfl (fun _ => by kernel_rfl) ?_
  ·refine gK 1 [(53, vP cb)] [] ?_
   refine NL ?_
   exact MD () [26, 27, 28, 29, 30, 34, 36, 40, 44, 48, 52, 53] [0, 1, 2]
  rintro _
  refine aF.cut (ι := Unit) (fr' := fun (_ : Unit) => (si cb S tk ++ [(36, vI 1)] ++ kN S tk ++ [(54, .pointer (some ⟨cb, 12, none⟩))])) (hp' := fun (_ : Unit) => [pO S.O L, DI cb c, .abs R]) [0] rfl rfl ?_ rfl (fun _ => by kernel_rfl) ?_
  ·refine gK 1 [(54, .pointer (some ⟨cb, 12, none⟩))] [] ?_
   refine NL ?_
   exact MD () [26, 27, 28, 29, 30, 34, 36, 40, 44, 48, 52, 54] [0, 1, 2]
  rintro _
  refine mC [0] [] [(0, a_ 1 cb)] [(1, [(12, vI ((obj S.O tk).id))])] ?_
  refine aF.cut (ι := Unit) (fr' := fun (_ : Unit) => ([(27, vP cb)] ++ oe cb ++ [(36, vI 1)] ++ kN S tk ++ [(55, vP cb)])) (hp' := fun (_ : Unit) => [pO S.O L, DJ cb c S tk, .abs R]) [0] rfl rfl ?_ rfl (fun _ => by kernel_rfl) ?_
  ·refine gK 1 [(55, vP cb)] [] ?_
   refine NL ?_
   exact MD () [27, 28, 29, 30, 36, 40, 44, 48, 52, 55] [0, 1, 2]
  rintro _
  refine aF.cut (ι := Unit) (fr' := fun (_ : Unit) => ([(27, vP cb)] ++ oe cb ++ [(36, vI 1)] ++ kN S tk ++ [(56, .pointer (some ⟨cb, 2, none⟩))])) (hp' := fun (_ : Unit) => [pO S.O L, DJ cb c S tk, .abs R]) [0] rfl rfl ?_ rfl (fun _ => by kernel_rfl) ?_
  ·refine gK 1 [(56, .pointer (some ⟨cb, 2, none⟩))] [] ?_
   refine NL ?_
   exact MD () [27, 28, 29, 30, 36, 40, 44, 48, 52, 56] [0, 1, 2]
  rintro _
  refine mC [0] [] [(0, a_ 1 cb)] [(1, [(2, vI 1)])] ?_
  refine aF.cut (ι := Unit) (fr' := fun (_ : Unit) => (oe cb ++ kN S tk ++ [(57, vP cb)])) (hp' := fun (_ : Unit) => [pO S.O L, pC cb { c with other := 1, mode := 0, uid := 0, gid := 0, sec := 0, nano := 0, answer := (obj S.O tk).id }, .abs R]) [0] rfl rfl ?_ rfl (fun _ => by kernel_rfl) ?_
  ·refine gK 1 [(57, vP cb)] [] ?_
   refine NL ?_
   exact MD () [28, 29, 30, 40, 44, 48, 52, 57] [0, 1, 2]
  rintro _
  refine aF.cut (ι := Unit) (fr' := fun (_ : Unit) => (oe cb ++ kN S tk ++ [(58, .pointer (some ⟨cb, 6, none⟩))])) (hp' := fun (_ : Unit) => [pO S.O L, pC cb { c with other := 1, mode := 0, uid := 0, gid := 0, sec := 0, nano := 0, answer := (obj S.O tk).id }, .abs R]) [0] rfl rfl ?_ rfl (fun _ => by kernel_rfl) ?_
  ·refine gK 1 [(58, .pointer (some ⟨cb, 6, none⟩))] [] ?_
   refine NL ?_
   exact MD () [28, 29, 30, 40, 44, 48, 52, 58] [0, 1, 2]
  rintro _
  refine mC [0] [] [(0, a_ 1 cb)] [(1, [(6, vI ((obj S.O tk).mode))])] ?_
  refine aF.cut (ι := Unit) (fr' := fun (_ : Unit) => (zh cb S tk ++ nY S tk ++ [(59, vP cb)])) (hp' := fun (_ : Unit) => [pO S.O L, pC cb { c with other := 1, mode := (obj S.O tk).mode, uid := 0, gid := 0, sec := 0, nano := 0, answer := (obj S.O tk).id }, .abs R]) [0] rfl rfl ?_ rfl (fun _ => by kernel_rfl) ?_
  ·refine gK 1 [(59, vP cb)] [] ?_
   refine NL ?_
   exact MD () [29, 30, 44, 48, 52, 59] [0, 1, 2]
  rintro _
  refine aF.cut (ι := Unit) (fr' := fun (_ : Unit) => (zh cb S tk ++ nY S tk ++ [(60, .pointer (some ⟨cb, 7, none⟩))])) (hp' := fun (_ : Unit) => [pO S.O L, pC cb { c with other := 1, mode := (obj S.O tk).mode, uid := 0, gid := 0, sec := 0, nano := 0, answer := (obj S.O tk).id }, .abs R]) [0] rfl rfl ?_ rfl (fun _ => by kernel_rfl) ?_
  ·refine gK 1 [(60, .pointer (some ⟨cb, 7, none⟩))] [] ?_
   refine NL ?_
   exact MD () [29, 30, 44, 48, 52, 60] [0, 1, 2]
  rintro _
  refine mC [0] [] [(0, a_ 1 cb)] [(1, [(7, vI ((obj S.O tk).uid))])] ?_
  refine aF.cut (ι := Unit) (fr' := fun (_ : Unit) => ([(30, vP cb)] ++ nY S tk ++ [(61, vP cb)])) (hp' := fun (_ : Unit) => [pO S.O L, Nx cb c S tk, .abs R]) [0] rfl rfl ?_ rfl (fun _ => by kernel_rfl) ?_
  ·refine gK 1 [(61, vP cb)] [] ?_
   refine NL ?_
   exact MD () [30, 48, 52, 61] [0, 1, 2]
  rintro _
  refine aF.cut (ι := Unit) (fr' := fun (_ : Unit) => ([(30, vP cb)] ++ nY S tk ++ [(62, .pointer (some ⟨cb, 8, none⟩))])) (hp' := fun (_ : Unit) => [pO S.O L, Nx cb c S tk, .abs R]) [0] rfl rfl ?_ rfl (fun _ => by kernel_rfl) ?_
  ·refine gK 1 [(62, .pointer (some ⟨cb, 8, none⟩))] [] ?_
   refine NL ?_
   exact MD () [30, 48, 52, 62] [0, 1, 2]
  rintro _
  refine mC [0] [] [(0, a_ 1 cb)] [(1, [(8, vI ((obj S.O tk).gid))])] ?_
  refine aF.cut (ι := Unit) (fr' := fun (_ : Unit) => [(52, .agg #[vI ((obj S.O tk).sec), vI ((obj S.O tk).nano)]), (63, vP cb)]) (hp' := fun (_ : Unit) => [pO S.O L, Ny cb c S tk, .abs R]) [0] rfl rfl ?_ rfl (fun _ => by kernel_rfl) ?_
  ·refine gK 1 [(63, vP cb)] [] ?_
   refine NL ?_
   exact MD () [52, 63] [0, 1, 2]
  rintro _
  refine aF.cut (ι := Unit) (fr' := fun (_ : Unit) => (Ir S tk cb)) (hp' := fun (_ : Unit) => [pO S.O L, Ny cb c S tk, .abs R]) [0] rfl rfl ?_ rfl (fun _ => by kernel_rfl) ?_
  ·refine gK 1 [(64, .pointer (some ⟨cb, 9, none⟩))] [] ?_
   refine NL ?_
   exact MD () [52, 64] [0, 1, 2]
  rintro _
  refine aF.last rfl rfl ?_
  refine gC 1 [] [(0, A_ 1 cb 2)] [(1, (Ix S tk))] ?_
  refine NL (ai.np ?_)
  exact RF (.tuple #[]) [0, 1, 2] (⟨rfl, rfl⟩)
 ·have hkt : (obj S.O tk).kind = 2 := hI.kind hlv
  refine af.region ?_
  refine gC 21 [] [(8, a_ 1 cb), (11, a_ 1 cb), (14, a_ 1 cb), (17, a_ 1 cb), (20, A_ 1 cb 2)] [(1, (EG))] ?_
  refine NN (af.seq (SR ?_))
  refine gK 2 [(22, .bool false)] [] ?_
  refine NN ?_
  refine CF ?_
  refine af.skip (NX (SR ?_))
  refine gK 1 [(23, .iface 96 (vP (L.b tk)))] [] ?_
  refine gL [] (cr (L.b tk)) ?_
  rintro _ _ ⟨rfl, rfl⟩
  refine gK 1 [(4, vP (L.b tk))] [] ?_
  refine NN ?_
  refine af.bZ (S := [pO S.O L]) [0, 1, 2, 3, 4, 5, 6, 7, 8, 9, 10, 12, 13, 14, 15, 16, 17, 18, 19, 20, 21, 22, 23, 24, 25, 26, 27, 11, 28, 29, 30, 31, 32, 33, 34, 35, 36, 37, 38, 39, 40, 41, 42, 43, 44, 45] 27 [0] (by kernel_rfl) (by kernel_rfl) rfl (by kernel_rfl) ?_
  refine aF.reads (r := 0) (l := [11, 28, 29, 30, 31, 32, 33, 34, 35, 36, 37, 38, 39, 40, 41, 42, 43, 44, 45]) (fr' := ([(25, vP cb)] ++ si cb S tk ++ [(35, .iface 96 (vP (L.b tk)))] ++ kN S tk)) (aV := [(∀ F w, (ak (aN S.O L)).h F w → w.cell? ⟨(L.b tk), 5, none⟩ = some (vI ((obj S.O tk).nano))), (∀ F w, (ak (aN S.O L)).h F w → w.cell? ⟨(L.b tk), 4, none⟩ = some (vI ((obj S.O tk).sec))), (∀ F w, (ak (aN S.O L)).h F w → w.cell? ⟨(L.b tk), 3, none⟩ = some (vI ((obj S.O tk).gid))), (∀ F w, (ak (aN S.O L)).h F w → w.cell? ⟨(L.b tk), 2, none⟩ = some (vI ((obj S.O tk).uid))), (∀ F w, (ak (aN S.O L)).h F w → w.cell? ⟨(L.b tk), 1, none⟩ = some (vI ((obj S.O tk).mode))), (∀ F w, (ak (aN S.O L)).h F w → w.cell? ⟨(L.b tk), 0, none⟩ = some (vI ((obj S.O tk).id)))]) [0, 1, 2, 3, 4, 5, 6, 7, 8, 9, 10, 12, 13, 14, 15, 16, 17, 18, 19, 20, 21, 22, 23, 24, 25, 26, 27] [o_, o_, o_, o_, o_, o_, o_, o_, o_, ⟨[.view 0 (.int .i64 ((obj S.O tk).id))], none, none, none, none⟩, o_, o_, o_, o_, ⟨[.view 0 (.int .i64 ((obj S.O tk).mode))], none, none, none, none⟩, o_, o_, o_, ⟨[.view 0 (.int .i64 ((obj S.O tk).uid))], none, none, none, none⟩, o_, o_, o_, ⟨[.view 0 (.int .i64 ((obj S.O tk).gid))], none, none, none, none⟩, o_, o_, o_, ⟨[.view 0 (.int .i64 ((obj S.O tk).sec)), .view 0 (.int .i64 ((obj S.O tk).nano))], none, none, none, none⟩] [25, 26, 27, 28, 29, 30, 34, 35, 40, 44, 48, 52] (fun _ => by kernel_rfl) ⟨bq (by rw [hkt]; decide) (rfl), bq (by rw [hkt]; decide) (rfl), bq (by rw [hkt]; decide) (rfl), bq (by rw [hkt]; decide) (rfl), bq (by rw [hkt]; decide) (rfl), bq (by rw [hkt]; decide) (rfl), trivial⟩ rfl rfl ?_
  refine mL [0] [] (jA (vP (L.b tk))) ?_ (by rintro _ _ ⟨rfl, rfl⟩; rfl)
  rintro _ _ ⟨rfl, rfl⟩
  refine aF.cut (ι := Unit) (fr' := fun (_ : Unit) => (si cb S tk ++ [(36, vI 2)] ++ kN S tk ++ [(53, vP cb)])) (hp' := fun (_ : Unit) => [pO S.O L, DI cb c, .abs R]) [0] rfl rfl ?_ rfl (fun _ => by kernel_rfl) ?_
  ·refine gK 1 [(53, vP cb)] [] ?_
   refine NL ?_
   exact MD () [26, 27, 28, 29, 30, 34, 36, 40, 44, 48, 52, 53] [0, 1, 2]
  rintro _
  refine aF.cut (ι := Unit) (fr' := fun (_ : Unit) => (si cb S tk ++ [(36, vI 2)] ++ kN S tk ++ [(54, .pointer (some ⟨cb, 12, none⟩))])) (hp' := fun (_ : Unit) => [pO S.O L, DI cb c, .abs R]) [0] rfl rfl ?_ rfl (fun _ => by kernel_rfl) ?_
  ·refine gK 1 [(54, .pointer (some ⟨cb, 12, none⟩))] [] ?_
   refine NL ?_
   exact MD () [26, 27, 28, 29, 30, 34, 36, 40, 44, 48, 52, 54] [0, 1, 2]
  rintro _
  refine mC [0] [] [(0, a_ 1 cb)] [(1, [(12, vI ((obj S.O tk).id))])] ?_
  refine aF.cut (ι := Unit) (fr' := fun (_ : Unit) => ([(27, vP cb)] ++ oe cb ++ [(36, vI 2)] ++ kN S tk ++ [(55, vP cb)])) (hp' := fun (_ : Unit) => [pO S.O L, DJ cb c S tk, .abs R]) [0] rfl rfl ?_ rfl (fun _ => by kernel_rfl) ?_
  ·refine gK 1 [(55, vP cb)] [] ?_
   refine NL ?_
   exact MD () [27, 28, 29, 30, 36, 40, 44, 48, 52, 55] [0, 1, 2]
  rintro _
  refine aF.cut (ι := Unit) (fr' := fun (_ : Unit) => ([(27, vP cb)] ++ oe cb ++ [(36, vI 2)] ++ kN S tk ++ [(56, .pointer (some ⟨cb, 2, none⟩))])) (hp' := fun (_ : Unit) => [pO S.O L, DJ cb c S tk, .abs R]) [0] rfl rfl ?_ rfl (fun _ => by kernel_rfl) ?_
  ·refine gK 1 [(56, .pointer (some ⟨cb, 2, none⟩))] [] ?_
   refine NL ?_
   exact MD () [27, 28, 29, 30, 36, 40, 44, 48, 52, 56] [0, 1, 2]
  rintro _
  refine mC [0] [] [(0, a_ 1 cb)] [(1, [(2, vI 2)])] ?_
  refine aF.cut (ι := Unit) (fr' := fun (_ : Unit) => (oe cb ++ kN S tk ++ [(57, vP cb)])) (hp' := fun (_ : Unit) => [pO S.O L, pC cb { c with other := 2, mode := 0, uid := 0, gid := 0, sec := 0, nano := 0, answer := (obj S.O tk).id }, .abs R]) [0] rfl rfl ?_ rfl (fun _ => by kernel_rfl) ?_
  ·refine gK 1 [(57, vP cb)] [] ?_
   refine NL ?_
   exact MD () [28, 29, 30, 40, 44, 48, 52, 57] [0, 1, 2]
  rintro _
  refine aF.cut (ι := Unit) (fr' := fun (_ : Unit) => (oe cb ++ kN S tk ++ [(58, .pointer (some ⟨cb, 6, none⟩))])) (hp' := fun (_ : Unit) => [pO S.O L, pC cb { c with other := 2, mode := 0, uid := 0, gid := 0, sec := 0, nano := 0, answer := (obj S.O tk).id }, .abs R]) [0] rfl rfl ?_ rfl (fun _ => by kernel_rfl) ?_
  ·refine gK 1 [(58, .pointer (some ⟨cb, 6, none⟩))] [] ?_
   refine NL ?_
   exact MD () [28, 29, 30, 40, 44, 48, 52, 58] [0, 1, 2]
  rintro _
  refine mC [0] [] [(0, a_ 1 cb)] [(1, [(6, vI ((obj S.O tk).mode))])] ?_
  refine aF.cut (ι := Unit) (fr' := fun (_ : Unit) => (zh cb S tk ++ nY S tk ++ [(59, vP cb)])) (hp' := fun (_ : Unit) => [pO S.O L, pC cb { c with other := 2, mode := (obj S.O tk).mode, uid := 0, gid := 0, sec := 0, nano := 0, answer := (obj S.O tk).id }, .abs R]) [0] rfl rfl ?_ rfl (fun _ => by kernel_rfl) ?_
  ·refine gK 1 [(59, vP cb)] [] ?_
   refine NL ?_
   exact MD () [29, 30, 44, 48, 52, 59] [0, 1, 2]
  rintro _
  refine aF.cut (ι := Unit) (fr' := fun (_ : Unit) => (zh cb S tk ++ nY S tk ++ [(60, .pointer (some ⟨cb, 7, none⟩))])) (hp' := fun (_ : Unit) => [pO S.O L, pC cb { c with other := 2, mode := (obj S.O tk).mode, uid := 0, gid := 0, sec := 0, nano := 0, answer := (obj S.O tk).id }, .abs R]) [0] rfl rfl ?_ rfl (fun _ => by kernel_rfl) ?_
  ·refine gK 1 [(60, .pointer (some ⟨cb, 7, none⟩))] [] ?_
   refine NL ?_
   exact MD () [29, 30, 44, 48, 52, 60] [0, 1, 2]
  rintro _
  refine mC [0] [] [(0, a_ 1 cb)] [(1, [(7, vI ((obj S.O tk).uid))])] ?_
  refine aF.cut (ι := Unit) (fr' := fun (_ : Unit) => ([(30, vP cb)] ++ nY S tk ++ [(61, vP cb)])) (hp' := fun (_ : Unit) => [pO S.O L, Nz cb c S tk, .abs R]) [0] rfl rfl ?_ rfl (fun _ => by kernel_rfl) ?_
  ·refine gK 1 [(61, vP cb)] [] ?_
   refine NL ?_
   exact MD () [30, 48, 52, 61] [0, 1, 2]
  rintro _
  refine aF.cut (ι := Unit) (fr' := fun (_ : Unit) => ([(30, vP cb)] ++ nY S tk ++ [(62, .pointer (some ⟨cb, 8, none⟩))])) (hp' := fun (_ : Unit) => [pO S.O L, Nz cb c S tk, .abs R]) [0] rfl rfl ?_ rfl (fun _ => by kernel_rfl) ?_
  ·refine gK 1 [(62, .pointer (some ⟨cb, 8, none⟩))] [] ?_
   refine NL ?_
   exact MD () [30, 48, 52, 62] [0, 1, 2]
  rintro _
  refine mC [0] [] [(0, a_ 1 cb)] [(1, [(8, vI ((obj S.O tk).gid))])] ?_
  refine aF.cut (ι := Unit) (fr' := fun (_ : Unit) => [(52, .agg #[vI ((obj S.O tk).sec), vI ((obj S.O tk).nano)]), (63, vP cb)]) (hp' := fun (_ : Unit) => [pO S.O L, NA cb c S tk, .abs R]) [0] rfl rfl ?_ rfl (fun _ => by kernel_rfl) ?_
  ·refine gK 1 [(63, vP cb)] [] ?_
   refine NL ?_
   exact MD () [52, 63] [0, 1, 2]
  rintro _
  refine aF.cut (ι := Unit) (fr' := fun (_ : Unit) => (Ir S tk cb)) (hp' := fun (_ : Unit) => [pO S.O L, NA cb c S tk, .abs R]) [0] rfl rfl ?_ rfl (fun _ => by kernel_rfl) ?_
  ·refine gK 1 [(64, .pointer (some ⟨cb, 9, none⟩))] [] ?_
   refine NL ?_
   exact MD () [52, 64] [0, 1, 2]
  rintro _
  refine aF.last rfl rfl ?_
  refine gC 1 [] [(0, A_ 1 cb 2)] [(1, (Ix S tk))] ?_
  refine NL (ai.np ?_)
  exact RF (.tuple #[]) [0, 1, 2] (⟨rfl, rfl⟩)
 have hkt : (obj S.O tk).kind = 3 := hI.kind hlv
 refine af.region ?_
 refine gC 21 [] [(8, a_ 1 cb), (11, a_ 1 cb), (14, a_ 1 cb), (17, a_ 1 cb), (20, A_ 1 cb 2)] [(1, (EG))] ?_
 refine NN (af.seq (SR ?_))
 refine gK 2 [(22, .bool false)] [] ?_
 refine NN ?_
 refine CF ?_
 refine af.skip (NX (SR ?_))
 refine gK 1 [(23, .iface 93 (vP (L.b tk)))] [] ?_
 refine gL [] (cr (L.b tk)) ?_
 rintro _ _ ⟨rfl, rfl⟩
 refine gK 1 [(4, vP (L.b tk))] [] ?_
 refine NN ?_
 refine af.bZ (S := [pO S.O L]) [0, 1, 2, 3, 4, 5, 6, 7, 8, 9, 10, 12, 13, 14, 15, 16, 17, 18, 19, 20, 21, 22, 23, 24, 25, 26, 27, 11, 28, 29, 30, 31, 32, 33, 34, 35, 36, 37, 38, 39, 40, 41, 42, 43, 44, 45] 27 [0] (by kernel_rfl) (by kernel_rfl) rfl (by kernel_rfl) ?_
 refine aF.reads (r := 0) (l := [11, 28, 29, 30, 31, 32, 33, 34, 35, 36, 37, 38, 39, 40, 41, 42, 43, 44, 45]) (fr' := ([(25, vP cb)] ++ si cb S tk ++ [(35, .iface 93 (vP (L.b tk)))] ++ kN S tk)) (aV := [(∀ F w, (ak (aN S.O L)).h F w → w.cell? ⟨(L.b tk), 5, none⟩ = some (vI ((obj S.O tk).nano))), (∀ F w, (ak (aN S.O L)).h F w → w.cell? ⟨(L.b tk), 4, none⟩ = some (vI ((obj S.O tk).sec))), (∀ F w, (ak (aN S.O L)).h F w → w.cell? ⟨(L.b tk), 3, none⟩ = some (vI ((obj S.O tk).gid))), (∀ F w, (ak (aN S.O L)).h F w → w.cell? ⟨(L.b tk), 2, none⟩ = some (vI ((obj S.O tk).uid))), (∀ F w, (ak (aN S.O L)).h F w → w.cell? ⟨(L.b tk), 1, none⟩ = some (vI ((obj S.O tk).mode))), (∀ F w, (ak (aN S.O L)).h F w → w.cell? ⟨(L.b tk), 0, none⟩ = some (vI ((obj S.O tk).id)))]) [0, 1, 2, 3, 4, 5, 6, 7, 8, 9, 10, 12, 13, 14, 15, 16, 17, 18, 19, 20, 21, 22, 23, 24, 25, 26, 27] [o_, o_, o_, o_, o_, o_, o_, o_, o_, ⟨[.view 0 (.int .i64 ((obj S.O tk).id))], none, none, none, none⟩, o_, o_, o_, o_, ⟨[.view 0 (.int .i64 ((obj S.O tk).mode))], none, none, none, none⟩, o_, o_, o_, ⟨[.view 0 (.int .i64 ((obj S.O tk).uid))], none, none, none, none⟩, o_, o_, o_, ⟨[.view 0 (.int .i64 ((obj S.O tk).gid))], none, none, none, none⟩, o_, o_, o_, ⟨[.view 0 (.int .i64 ((obj S.O tk).sec)), .view 0 (.int .i64 ((obj S.O tk).nano))], none, none, none, none⟩] [25, 26, 27, 28, 29, 30, 34, 35, 40, 44, 48, 52] (fun _ => by kernel_rfl) ⟨bq (by rw [hkt]; decide) (rfl), bq (by rw [hkt]; decide) (rfl), bq (by rw [hkt]; decide) (rfl), bq (by rw [hkt]; decide) (rfl), bq (by rw [hkt]; decide) (rfl), bq (by rw [hkt]; decide) (rfl), trivial⟩ rfl rfl ?_
 refine mL [0] [] (j5 (vP (L.b tk))) ?_ (by rintro _ _ ⟨rfl, rfl⟩; rfl)
 rintro _ _ ⟨rfl, rfl⟩
 refine aF.cut (ι := Unit) (fr' := fun (_ : Unit) => (si cb S tk ++ [(36, vI 3)] ++ kN S tk ++ [(53, vP cb)])) (hp' := fun (_ : Unit) => [pO S.O L, DI cb c, .abs R]) [0] rfl rfl ?_ rfl (fun _ => by kernel_rfl) ?_
 ·refine gK 1 [(53, vP cb)] [] ?_
  refine NL ?_
  exact MD () [26, 27, 28, 29, 30, 34, 36, 40, 44, 48, 52, 53] [0, 1, 2]
 rintro _
 refine aF.cut (ι := Unit) (fr' := fun (_ : Unit) => (si cb S tk ++ [(36, vI 3)] ++ kN S tk ++ [(54, .pointer (some ⟨cb, 12, none⟩))])) (hp' := fun (_ : Unit) => [pO S.O L, DI cb c, .abs R]) [0] rfl rfl ?_ rfl (fun _ => by kernel_rfl) ?_
 ·refine gK 1 [(54, .pointer (some ⟨cb, 12, none⟩))] [] ?_
  refine NL ?_
  exact MD () [26, 27, 28, 29, 30, 34, 36, 40, 44, 48, 52, 54] [0, 1, 2]
 rintro _
 refine mC [0] [] [(0, a_ 1 cb)] [(1, [(12, vI ((obj S.O tk).id))])] ?_
 refine aF.cut (ι := Unit) (fr' := fun (_ : Unit) => ([(27, vP cb)] ++ oe cb ++ [(36, vI 3)] ++ kN S tk ++ [(55, vP cb)])) (hp' := fun (_ : Unit) => [pO S.O L, DJ cb c S tk, .abs R]) [0] rfl rfl ?_ rfl (fun _ => by kernel_rfl) ?_
 ·refine gK 1 [(55, vP cb)] [] ?_
  refine NL ?_
  exact MD () [27, 28, 29, 30, 36, 40, 44, 48, 52, 55] [0, 1, 2]
 rintro _
 refine aF.cut (ι := Unit) (fr' := fun (_ : Unit) => ([(27, vP cb)] ++ oe cb ++ [(36, vI 3)] ++ kN S tk ++ [(56, .pointer (some ⟨cb, 2, none⟩))])) (hp' := fun (_ : Unit) => [pO S.O L, DJ cb c S tk, .abs R]) [0] rfl rfl ?_ rfl (fun _ => by kernel_rfl) ?_
 ·refine gK 1 [(56, .pointer (some ⟨cb, 2, none⟩))] [] ?_
  refine NL ?_
  exact MD () [27, 28, 29, 30, 36, 40, 44, 48, 52, 56] [0, 1, 2]
 rintro _
 refine mC [0] [] [(0, a_ 1 cb)] [(1, [(2, vI 3)])] ?_
 refine aF.cut (ι := Unit) (fr' := fun (_ : Unit) => (oe cb ++ kN S tk ++ [(57, vP cb)])) (hp' := fun (_ : Unit) => [pO S.O L, pC cb { c with other := 3, mode := 0, uid := 0, gid := 0, sec := 0, nano := 0, answer := (obj S.O tk).id }, .abs R]) [0] rfl rfl ?_ rfl (fun _ => by kernel_rfl) ?_
 ·refine gK 1 [(57, vP cb)] [] ?_
  refine NL ?_
  exact MD () [28, 29, 30, 40, 44, 48, 52, 57] [0, 1, 2]
 rintro _
 refine aF.cut (ι := Unit) (fr' := fun (_ : Unit) => (oe cb ++ kN S tk ++ [(58, .pointer (some ⟨cb, 6, none⟩))])) (hp' := fun (_ : Unit) => [pO S.O L, pC cb { c with other := 3, mode := 0, uid := 0, gid := 0, sec := 0, nano := 0, answer := (obj S.O tk).id }, .abs R]) [0] rfl rfl ?_ rfl (fun _ => by kernel_rfl) ?_
 ·refine gK 1 [(58, .pointer (some ⟨cb, 6, none⟩))] [] ?_
  refine NL ?_
  exact MD () [28, 29, 30, 40, 44, 48, 52, 58] [0, 1, 2]
 rintro _
 refine mC [0] [] [(0, a_ 1 cb)] [(1, [(6, vI ((obj S.O tk).mode))])] ?_
 refine aF.cut (ι := Unit) (fr' := fun (_ : Unit) => (zh cb S tk ++ nY S tk ++ [(59, vP cb)])) (hp' := fun (_ : Unit) => [pO S.O L, pC cb { c with other := 3, mode := (obj S.O tk).mode, uid := 0, gid := 0, sec := 0, nano := 0, answer := (obj S.O tk).id }, .abs R]) [0] rfl rfl ?_ rfl (fun _ => by kernel_rfl) ?_
 ·refine gK 1 [(59, vP cb)] [] ?_
  refine NL ?_
  exact MD () [29, 30, 44, 48, 52, 59] [0, 1, 2]
 rintro _
 refine aF.cut (ι := Unit) (fr' := fun (_ : Unit) => (zh cb S tk ++ nY S tk ++ [(60, .pointer (some ⟨cb, 7, none⟩))])) (hp' := fun (_ : Unit) => [pO S.O L, pC cb { c with other := 3, mode := (obj S.O tk).mode, uid := 0, gid := 0, sec := 0, nano := 0, answer := (obj S.O tk).id }, .abs R]) [0] rfl rfl ?_ rfl (fun _ => by kernel_rfl) ?_
 ·refine gK 1 [(60, .pointer (some ⟨cb, 7, none⟩))] [] ?_
  refine NL ?_
  exact MD () [29, 30, 44, 48, 52, 60] [0, 1, 2]
 rintro _
 refine mC [0] [] [(0, a_ 1 cb)] [(1, [(7, vI ((obj S.O tk).uid))])] ?_
 refine aF.cut (ι := Unit) (fr' := fun (_ : Unit) => ([(30, vP cb)] ++ nY S tk ++ [(61, vP cb)])) (hp' := fun (_ : Unit) => [pO S.O L, NC cb c S tk, .abs R]) [0] rfl rfl ?_ rfl (fun _ => by kernel_rfl) ?_
 ·refine gK 1 [(61, vP cb)] [] ?_
  refine NL ?_
  exact MD () [30, 48, 52, 61] [0, 1, 2]
 rintro _
 refine aF.cut (ι := Unit) (fr' := fun (_ : Unit) => ([(30, vP cb)] ++ nY S tk ++ [(62, .pointer (some ⟨cb, 8, none⟩))])) (hp' := fun (_ : Unit) => [pO S.O L, NC cb c S tk, .abs R]) [0] rfl rfl ?_ rfl (fun _ => by kernel_rfl) ?_
 ·refine gK 1 [(62, .pointer (some ⟨cb, 8, none⟩))] [] ?_
  refine NL ?_
  exact MD () [30, 48, 52, 62] [0, 1, 2]
 rintro _
 refine mC [0] [] [(0, a_ 1 cb)] [(1, [(8, vI ((obj S.O tk).gid))])] ?_
 refine aF.cut (ι := Unit) (fr' := fun (_ : Unit) => [(52, .agg #[vI ((obj S.O tk).sec), vI ((obj S.O tk).nano)]), (63, vP cb)]) (hp' := fun (_ : Unit) => [pO S.O L, ND cb c S tk, .abs R]) [0] rfl rfl ?_ rfl (fun _ => by kernel_rfl) ?_
 ·refine gK 1 [(63, vP cb)] [] ?_
  refine NL ?_
  exact MD () [52, 63] [0, 1, 2]
 rintro _
 refine aF.cut (ι := Unit) (fr' := fun (_ : Unit) => (Ir S tk cb)) (hp' := fun (_ : Unit) => [pO S.O L, ND cb c S tk, .abs R]) [0] rfl rfl ?_ rfl (fun _ => by kernel_rfl) ?_
 ·refine gK 1 [(64, .pointer (some ⟨cb, 9, none⟩))] [] ?_
  refine NL ?_
  exact MD () [52, 64] [0, 1, 2]
 rintro _
 refine aF.last rfl rfl ?_
 refine gC 1 [] [(0, A_ 1 cb 2)] [(1, (Ix S tk))] ?_
 refine NL (ai.np ?_)
 exact RF (.tuple #[]) [0, 1, 2] (⟨rfl, rfl⟩)
theorem EK {β : Bs} (S : aG) (L : HL) (f m t : Nat) (hI : Inv S) (cb : Nat) (c : aU) (hC : fB β c) :
    Spec Tryz.prog β 88 #[vP f, vP cb] ((pA f m t L S) ++ [pC cb c]) (fun v l => ∃ L2, v = vI (jv S c).1 ∧ l = ((pA f m t L2 ((jv S c).2.1)) ++ [.blk cb (fT ((jv S c).2.2)) 43])) := by
 have hX := hI.hX
 refine Spec.enter Tryz.func88 rfl Tryz.ntmps88 (Nat.le_of_ble_eq_true rfl) (fun R => ?_)
 refine af.seq ?_
 rcases hI.hand c.handle with cE | ⟨tk, cE, hlv⟩ | ⟨tk, cE, hlv⟩
 ·refine af.region ?_
  refine gK 1 [] [] ?_
  refine NN (af.seq ?_)
  refine af.bG (by kernel_rfl) (by kernel_rfl) ?_
  refine gQ 8 (Iw t c) [(3, a_ 0 f), (7, a_ 6 cb)] ?_
  refine aT.call (f := 136) (args := #[vP t, vI (c.handle)]) (d := (some 16)) (pre := [jF t S L]) (R := (nZ f m t S L cb c R)) (pk := [2, 0, 1, 3, 4, 5, 6, 7]) (gy := [1, 2, 0, 3, 4, 5, 6, 7]) (v0 := .tuple #[.nilIface, vI 131]) (fun _ => by kernel_rfl) (nK t S.X.cH S.au (aJ L S.us) c.handle hC.hw (mU cE)) rfl (by kernel_rfl) rfl (by kernel_rfl) (fun _ _ h => h) ?_
  refine gQ 5 [(5, .nilIface), (6, vI 131)] [] ?_
  refine NQ (NX (SR ?_))
  refine gK 2 [(19, vP cb), (20, .nilIface)] [] ?_
  refine gL [3, 6] (lq S L hI cb c none (.inl rfl)) ?_
  rintro _ _ ⟨rfl, rfl⟩
  refine NS ?_
  refine gK 2 [(4, vI 131)] [] ?_
  refine NN (af.ret ?_)
  exact RT (vI 131) [2, 3, 4, 0, 5, 6, 1, 7] (⟨L, by rw [show (jv S c) = (131, S, kX S.O c none) by unfold jv; rw [cE]] <;> exact ⟨rfl, rfl⟩⟩)
 ·have hkt : (obj S.O tk).kind = 1 := hI.kind hlv
  refine af.region ?_
  refine gK 1 [] [] ?_
  refine NN (af.seq ?_)
  refine af.bG (by kernel_rfl) (by kernel_rfl) ?_
  refine gQ 8 (Iw t c) [(3, a_ 0 f), (7, a_ 6 cb)] ?_
  refine aT.call (f := 136) (args := #[vP t, vI (c.handle)]) (d := (some 16)) (pre := [jF t S L]) (R := (nZ f m t S L cb c R)) (pk := [2, 0, 1, 3, 4, 5, 6, 7]) (gy := [1, 2, 0, 3, 4, 5, 6, 7]) (v0 := .tuple #[.iface 89 (vP (L.b tk)), vI 0]) (fun _ => by kernel_rfl) (ju t S.X.cH S.au (aJ L S.us) c.handle hC.hw (cI L ⟨tk, 1⟩) (iT cE)) rfl (by kernel_rfl) rfl (by kernel_rfl) (fun _ _ h => h) ?_
  refine gQ 5 (EH L tk) [] ?_
  refine NQ (NX (SR ?_))
  refine gK 2 [(19, vP cb), (20, .iface 89 (vP (L.b tk)))] [] ?_
  refine gL [3, 6] (lq S L hI cb c (some ⟨tk, 1⟩) (.inr (.inl ⟨tk, rfl, hlv⟩))) ?_
  rintro _ _ ⟨rfl, rfl⟩
  refine NS ?_
  refine gK 2 [(4, vI 0)] [] ?_
  refine NN (af.ret ?_)
  exact RT (vI 0) [2, 3, 4, 0, 5, 6, 1, 7] (⟨L, by rw [show (jv S c) = (0, S, kX S.O c (some ⟨tk, 1⟩)) by unfold jv; rw [cE]] <;> exact ⟨rfl, rfl⟩⟩)
 have hkt : (obj S.O tk).kind = 2 := hI.kind hlv
 refine af.region ?_
 refine gK 1 [] [] ?_
 refine NN (af.seq ?_)
 refine af.bG (by kernel_rfl) (by kernel_rfl) ?_
 refine gQ 8 (Iw t c) [(3, a_ 0 f), (7, a_ 6 cb)] ?_
 refine aT.call (f := 136) (args := #[vP t, vI (c.handle)]) (d := (some 16)) (pre := [jF t S L]) (R := (nZ f m t S L cb c R)) (pk := [2, 0, 1, 3, 4, 5, 6, 7]) (gy := [1, 2, 0, 3, 4, 5, 6, 7]) (v0 := .tuple #[.iface 96 (vP (L.b tk)), vI 0]) (fun _ => by kernel_rfl) (ju t S.X.cH S.au (aJ L S.us) c.handle hC.hw (cI L ⟨tk, 2⟩) (iT cE)) rfl (by kernel_rfl) rfl (by kernel_rfl) (fun _ _ h => h) ?_
 refine gQ 5 (EI L tk) [] ?_
 refine NQ (NX (SR ?_))
 refine gK 2 [(19, vP cb), (20, .iface 96 (vP (L.b tk)))] [] ?_
 refine gL [3, 6] (lq S L hI cb c (some ⟨tk, 2⟩) (.inr (.inr (.inl ⟨tk, rfl, hlv⟩)))) ?_
 rintro _ _ ⟨rfl, rfl⟩
 refine NS ?_
 refine gK 2 [(4, vI 0)] [] ?_
 refine NN (af.ret ?_)
 exact RT (vI 0) [2, 3, 4, 0, 5, 6, 1, 7] (⟨L, by rw [show (jv S c) = (0, S, kX S.O c (some ⟨tk, 2⟩)) by unfold jv; rw [cE]] <;> exact ⟨rfl, rfl⟩⟩)
theorem Cq {β : Bs} (S : aG) (L : HL) (f m t : Nat) (hI : Inv S) (cb : Nat) (c : aU) (hC : fB β c) :
    Spec Tryz.prog β 89 #[vP f, vP cb] ((pA f m t L S) ++ [pC cb c]) (fun v l => ∃ L2, v = vI (eU S c).1 ∧ l = ((pA f m t L2 ((eU S c).2.1)) ++ [.blk cb (fT ((eU S c).2.2)) 43])) := by
 have hX := hI.hX
 refine Spec.enter Tryz.func89 rfl Tryz.ntmps89 (Nat.le_of_ble_eq_true rfl) (fun R => ?_)
 refine SR ?_
 refine gK 1 [] [] ?_
 refine NS ?_
 refine gK 2 [(8, vP f), (9, vP cb)] [] ?_
 rcases xC hI.toInv0 c with ⟨e, hnm, hne⟩ | ⟨tk, hnm, hlv⟩ | ⟨tk, hnm, hlv⟩ | ⟨tk, hnm, hlv⟩
 ·refine gL (f := 133) (args := #[vP f, vP cb]) (pre := ((pA f m t L S) ++ [pC cb c])) [0, 1, 2, 3, 4, 5, 6] ((by have h := fP S L f m t hI cb c hC (β := β); rw [hnm] at h; exact h)) ?_
  rintro _ _ ⟨rfl, rfl⟩
  refine gK 5 [(5, .nilIface), (6, vI (e))] [] ?_
  refine NS ?_
  refine gK 2 [(13, vP cb), (14, .nilIface)] [] ?_
  refine gL [3, 6] (lq S L hI cb c none (.inl rfl)) ?_
  rintro _ _ ⟨rfl, rfl⟩
  refine NS ?_
  refine gK 2 [(4, vI (e))] [] ?_
  refine NN (af.ret ?_)
  exact RT (vI (e)) [2, 3, 4, 0, 5, 6, 1, 7] (⟨L, by rw [show (eU S c) = (e, S, kX S.O c none) by unfold eU; rw [hnm]] <;> exact ⟨rfl, rfl⟩⟩)
 ·have hkt : (obj S.O tk).kind = 1 := hI.kind hlv
  refine gL (f := 133) (args := #[vP f, vP cb]) (pre := ((pA f m t L S) ++ [pC cb c])) [0, 1, 2, 3, 4, 5, 6] ((by have h := fP S L f m t hI cb c hC (β := β); rw [hnm] at h; exact h)) ?_
  rintro _ _ ⟨rfl, rfl⟩
  refine gK 5 (EH L tk) [] ?_
  refine NS ?_
  refine gK 2 [(13, vP cb), (14, .iface 89 (vP (L.b tk)))] [] ?_
  refine gL [3, 6] (lq S L hI cb c (some ⟨tk, 1⟩) (.inr (.inl ⟨tk, rfl, hlv⟩))) ?_
  rintro _ _ ⟨rfl, rfl⟩
  refine NS ?_
  refine gK 2 [(4, vI 0)] [] ?_
  refine NN (af.ret ?_)
  exact RT (vI 0) [2, 3, 4, 0, 5, 6, 1, 7] (⟨L, by rw [show (eU S c) = (0, S, kX S.O c (some ⟨tk, 1⟩)) by unfold eU; rw [hnm]] <;> exact ⟨rfl, rfl⟩⟩)
 ·have hkt : (obj S.O tk).kind = 2 := hI.kind hlv
  refine gL (f := 133) (args := #[vP f, vP cb]) (pre := ((pA f m t L S) ++ [pC cb c])) [0, 1, 2, 3, 4, 5, 6] ((by have h := fP S L f m t hI cb c hC (β := β); rw [hnm] at h; exact h)) ?_
  rintro _ _ ⟨rfl, rfl⟩
  refine gK 5 (EI L tk) [] ?_
  refine NS ?_
  refine gK 2 [(13, vP cb), (14, .iface 96 (vP (L.b tk)))] [] ?_
  refine gL [3, 6] (lq S L hI cb c (some ⟨tk, 2⟩) (.inr (.inr (.inl ⟨tk, rfl, hlv⟩)))) ?_
  rintro _ _ ⟨rfl, rfl⟩
  refine NS ?_
  refine gK 2 [(4, vI 0)] [] ?_
  refine NN (af.ret ?_)
  exact RT (vI 0) [2, 3, 4, 0, 5, 6, 1, 7] (⟨L, by rw [show (eU S c) = (0, S, kX S.O c (some ⟨tk, 2⟩)) by unfold eU; rw [hnm]] <;> exact ⟨rfl, rfl⟩⟩)
 have hkt : (obj S.O tk).kind = 3 := hI.kind hlv
 refine gL (f := 133) (args := #[vP f, vP cb]) (pre := ((pA f m t L S) ++ [pC cb c])) [0, 1, 2, 3, 4, 5, 6] ((by have h := fP S L f m t hI cb c hC (β := β); rw [hnm] at h; exact h)) ?_
 rintro _ _ ⟨rfl, rfl⟩
 refine gK 5 [(5, .iface 93 (vP (L.b tk))), (6, vI 0)] [] ?_
 refine NS ?_
 refine gK 2 [(13, vP cb), (14, .iface 93 (vP (L.b tk)))] [] ?_
 refine gL [3, 6] (lq S L hI cb c (some ⟨tk, 3⟩) (.inr (.inr (.inr ⟨tk, rfl, hlv⟩)))) ?_
 rintro _ _ ⟨rfl, rfl⟩
 refine NS ?_
 refine gK 2 [(4, vI 0)] [] ?_
 refine NN (af.ret ?_)
 exact RT (vI 0) [2, 3, 4, 0, 5, 6, 1, 7] (⟨L, by rw [show (eU S c) = (0, S, kX S.O c (some ⟨tk, 3⟩)) by unfold eU; rw [hnm]] <;> exact ⟨rfl, rfl⟩⟩)
theorem Df {β : Bs} (S : aG) (L : HL) (f m t : Nat) (hI : Inv S) (cb : Nat) (c : aU) (hC : fB β c) :
    Spec Tryz.prog β 90 #[vP f, vP cb] ((pA f m t L S) ++ [pC cb c]) (fun v l => ∃ L2, v = vI (iq S c).1 ∧ l = ((pA f m t L2 ((iq S c).2.1)) ++ [.blk cb (fT ((iq S c).2.2)) 43])) := by
 have hX := hI.hX
 refine Spec.enter Tryz.func90 rfl Tryz.ntmps90 (Nat.le_of_ble_eq_true rfl) (fun R => ?_)
 refine af.seq ?_
 rcases hI.hand c.handle with cE | ⟨tk, cE, hlv⟩ | ⟨tk, cE, hlv⟩
 ·refine af.region ?_
  refine gK 1 [] [] ?_
  refine NN (af.seq ?_)
  refine af.kE (S := [pF f m t S.X, pC cb c]) [(true, 0), (true, 1), (true, 2), (true, 3), (true, 4), (true, 5), (true, 6), (true, 7), (false, 8), (true, 9), (true, 10), (true, 11), (true, 12), (false, 13)] [0, 6] (by kernel_rfl) (by kernel_rfl) rfl (by kernel_rfl) ?_
  refine dQ.reads (l := [(false, 8), (true, 9), (true, 10), (true, 11), (true, 12), (false, 13)]) (fr' := [(0, vP f), (11, vP t), (15, vI (c.handle))]) (aV := [cb = cb, f = f]) [0, 1, 2, 3, 4, 5, 6, 7] [o_, o_, o_, ⟨[.at 0], none, none, none, none⟩, o_, o_, o_, ⟨[.at 1], none, none, none, none⟩] [0, 11, 15] (fun _ => by kernel_rfl) ⟨rfl, rfl, trivial⟩ rfl ?_
  refine dQ.cut (ι := Unit) (fr' := fun (_ : Unit) => [(0, vP f), (16, .tuple #[.nilIface, vI 131])]) (hp' := fun (_ : Unit) => ([jF t S L] ++ nZ f m t S L cb c R)) [1, 6] (by kernel_rfl) ?_ rfl (fun _ => by kernel_rfl) ?_
  ·refine gL [2] (CY t S.X.cH S.au (aJ L S.us) c.handle hC.hw (mU cE)) ?_
   rintro _ _ ⟨rfl, rfl⟩
   refine NL ?_
   exact MD () [0, 16] [0, 1, 2, 3, 4, 5, 6, 7]
  rintro _
  refine dQ.reads (l := [(false, 13)]) (fr' := [(0, vP f), (5, .nilIface), (18, vI 131)]) (aV := []) [9, 10, 11, 12] [o_, o_, o_, o_] [0, 5, 18] (fun _ => by kernel_rfl) trivial rfl ?_
  refine dQ.last (by kernel_rfl) ?_
  refine gK 1 [(6, vI 131)] [] ?_
  refine NL (ai.np (NX (af.seq (SR ?_))))
  refine gK 2 [(20, .bool true)] [] ?_
  refine NN ?_
  refine CT ?_
  refine SR ?_
  refine gK 2 [(4, vI 131)] [] ?_
  refine NN (af.ret (ai.aq ?_))
  exact RT (vI 131) [1, 2, 0, 3, 4, 5, 6, 7] (⟨L, by rw [show (iq S c) = (131, S, c) by unfold iq; rw [cE]] <;> exact ⟨rfl, rfl⟩⟩)
 ·have hkt : (obj S.O tk).kind = 1 := hI.kind hlv
  have hid := hI.ob _ hlv
  have mY := hI.FT hlv
  have hdl := hI.BN hlv
  have hop : 0 < (obj S.O tk).opens ∧ (obj S.O tk).opens ≤ 1024 := ⟨by have h1 := hI.opens _ hlv; have h2 := DC cE; simp only at h1 h2; omega, (hI.zX hlv).2⟩
  refine af.region ?_
  refine gK 1 [] [] ?_
  refine NN (af.seq ?_)
  refine af.kE (S := [pF f m t S.X, pC cb c]) [(true, 0), (true, 1), (true, 2), (true, 3), (true, 4), (true, 5), (true, 6), (true, 7), (false, 8), (true, 9), (true, 10), (true, 11), (true, 12), (false, 13)] [0, 6] (by kernel_rfl) (by kernel_rfl) rfl (by kernel_rfl) ?_
  refine dQ.reads (l := [(false, 8), (true, 9), (true, 10), (true, 11), (true, 12), (false, 13)]) (fr' := [(0, vP f), (11, vP t), (15, vI (c.handle))]) (aV := [cb = cb, f = f]) [0, 1, 2, 3, 4, 5, 6, 7] [o_, o_, o_, ⟨[.at 0], none, none, none, none⟩, o_, o_, o_, ⟨[.at 1], none, none, none, none⟩] [0, 11, 15] (fun _ => by kernel_rfl) ⟨rfl, rfl, trivial⟩ rfl ?_
  refine dQ.cut (ι := Unit) (fr' := fun (_ : Unit) => [(0, vP f), (16, .tuple #[.iface 89 (vP (L.b tk)), vI 0])]) (hp' := fun (_ : Unit) => ([pT t S.X.cH S.au L (del c.handle S.us)] ++ nZ f m t S L cb c R)) [1, 6] (by kernel_rfl) ?_ rfl (fun _ => by kernel_rfl) ?_
  ·refine gL (f := 138) (args := #[vP t, vI (c.handle)]) (pre := [jF t S L]) [2] ((by have h := zV (β := β) t S.X.cH S.au (aJ L S.us) c.handle hC.hw (cI L ⟨tk, 1⟩) (iT cE); rw [← BU] at h; exact h)) ?_
   rintro _ _ ⟨rfl, rfl⟩
   refine NL ?_
   exact MD () [0, 16] [0, 1, 2, 3, 4, 5, 6, 7]
  rintro _
  refine dQ.reads (l := [(false, 13)]) (fr' := [(0, vP f), (5, .iface 89 (vP (L.b tk))), (18, vI 0)]) (aV := []) [9, 10, 11, 12] [o_, o_, o_, o_] [0, 5, 18] (fun _ => by kernel_rfl) trivial rfl ?_
  refine dQ.last (by kernel_rfl) ?_
  refine gK 1 [(6, vI 0)] [] ?_
  refine NL (ai.np (NX (af.seq (SR ?_))))
  refine gK 2 [(20, .bool false)] [] ?_
  refine NN ?_
  refine CF ?_
  refine af.skip (NX (SR ?_))
  refine gK 1 [(22, .iface 89 (vP (L.b tk)))] [] ?_
  refine gL [] (cr (L.b tk)) ?_
  rintro _ _ ⟨rfl, rfl⟩
  refine gK 6 [(27, vI ((obj S.O tk).opens - 1)), (29, .pointer (some ⟨(L.b tk), 7, none⟩))] [(2, v_ 3 (iH L hkt)), (3, p_ ⟨[], none, none, none, some (vI ((obj S.O tk).opens - 1))⟩ [(Value.int .i64 (IntKind.wrap .i64 ((obj S.O tk).opens - 1))) = (.int .i64 ((obj S.O tk).opens - 1))] ⟨bI (by omega) (by omega) (by omega), trivial⟩)] ?_
  refine pH 3 [(5, 1), (4, 2)] tk 7 (fun o => { o with opens := o.opens - 1 }) hkt (fun bK bP => ?_)
  have iF := ku bP hkt
  have hf2 : (obj bK tk).id = (obj S.O tk).id := fu aP.id bP rfl
  have hf3 : (obj bK tk).data = (obj S.O tk).data := fu aP.data bP rfl
  refine NS ?_
  have Iy : (obj bK tk).opens = (obj S.O tk).opens - 1 := by rw [bP]; exact congrArg aP.opens bH
  refine gK 2 [(30, vP f), (31, .iface 89 (vP (L.b tk)))] [] ?_
  refine gL [3, 1, 2] (nP S.X f m t hX bK L S.idx hI.rise ⟨tk, 1⟩ iF (by simp) (by rw [Iy]; omega) (fun _ => by rw [hf2, hid.1]; exact hlv) (by rw [hf2]; exact mY) (by rw [hf3]; exact hdl)) ?_
  rintro _ _ ⟨rfl, rfl⟩
  refine NS ?_
  refine gK 1 [(4, vI 0)] [] ?_
  refine NN (af.ret ?_)
  exact RT (l := [pF f m t { S.X with used := iL bK S.X.used ⟨tk, 1⟩ }, pI m L (iw bK S.idx ⟨tk, 1⟩), pT t S.X.cH S.au L (del c.handle S.us), pO bK L, pD bK L, pE bK L, pC cb c]) (.int .i64 0) [1, 2, 3, 0, 4, 5, 6, 7] (⟨L, by subst bP; rw [show iq S c = (0, _, c) by unfold iq; rw [cE]]; exact ⟨rfl, rfl⟩⟩)
 have hkt : (obj S.O tk).kind = 2 := hI.kind hlv
 have hid := hI.ob _ hlv
 have mY := hI.FT hlv
 have hdl := hI.BN hlv
 have hop : 0 < (obj S.O tk).opens ∧ (obj S.O tk).opens ≤ 1024 := ⟨by have h1 := hI.opens _ hlv; have h2 := DC cE; simp only at h1 h2; omega, (hI.zX hlv).2⟩
 refine af.region ?_
 refine gK 1 [] [] ?_
 refine NN (af.seq ?_)
 refine af.kE (S := [pF f m t S.X, pC cb c]) [(true, 0), (true, 1), (true, 2), (true, 3), (true, 4), (true, 5), (true, 6), (true, 7), (false, 8), (true, 9), (true, 10), (true, 11), (true, 12), (false, 13)] [0, 6] (by kernel_rfl) (by kernel_rfl) rfl (by kernel_rfl) ?_
 refine dQ.reads (l := [(false, 8), (true, 9), (true, 10), (true, 11), (true, 12), (false, 13)]) (fr' := [(0, vP f), (11, vP t), (15, vI (c.handle))]) (aV := [cb = cb, f = f]) [0, 1, 2, 3, 4, 5, 6, 7] [o_, o_, o_, ⟨[.at 0], none, none, none, none⟩, o_, o_, o_, ⟨[.at 1], none, none, none, none⟩] [0, 11, 15] (fun _ => by kernel_rfl) ⟨rfl, rfl, trivial⟩ rfl ?_
 refine dQ.cut (ι := Unit) (fr' := fun (_ : Unit) => [(0, vP f), (16, .tuple #[.iface 96 (vP (L.b tk)), vI 0])]) (hp' := fun (_ : Unit) => ([pT t S.X.cH S.au L (del c.handle S.us)] ++ nZ f m t S L cb c R)) [1, 6] (by kernel_rfl) ?_ rfl (fun _ => by kernel_rfl) ?_
 ·refine gL (f := 138) (args := #[vP t, vI (c.handle)]) (pre := [jF t S L]) [2] ((by have h := zV (β := β) t S.X.cH S.au (aJ L S.us) c.handle hC.hw (cI L ⟨tk, 2⟩) (iT cE); rw [← BU] at h; exact h)) ?_
  rintro _ _ ⟨rfl, rfl⟩
  refine NL ?_
  exact MD () [0, 16] [0, 1, 2, 3, 4, 5, 6, 7]
 rintro _
 refine dQ.reads (l := [(false, 13)]) (fr' := [(0, vP f), (5, .iface 96 (vP (L.b tk))), (18, vI 0)]) (aV := []) [9, 10, 11, 12] [o_, o_, o_, o_] [0, 5, 18] (fun _ => by kernel_rfl) trivial rfl ?_
 refine dQ.last (by kernel_rfl) ?_
 refine gK 1 [(6, vI 0)] [] ?_
 refine NL (ai.np (NX (af.seq (SR ?_))))
 refine gK 2 [(20, .bool false)] [] ?_
 refine NN ?_
 refine CF ?_
 refine af.skip (NX (SR ?_))
 refine gK 1 [(22, .iface 96 (vP (L.b tk)))] [] ?_
 refine gL [] (cr (L.b tk)) ?_
 rintro _ _ ⟨rfl, rfl⟩
 refine gK 6 [(27, vI ((obj S.O tk).opens - 1)), (29, .pointer (some ⟨(L.b tk), 7, none⟩))] [(2, v_ 3 (iH L hkt)), (3, p_ ⟨[], none, none, none, some (vI ((obj S.O tk).opens - 1))⟩ [(Value.int .i64 (IntKind.wrap .i64 ((obj S.O tk).opens - 1))) = (.int .i64 ((obj S.O tk).opens - 1))] ⟨bI (by omega) (by omega) (by omega), trivial⟩)] ?_
 refine pH 3 [(5, 1), (4, 2)] tk 7 (fun o => { o with opens := o.opens - 1 }) hkt (fun bK bP => ?_)
 have tY := ku bP hkt
 have Gh : (obj bK tk).id = (obj S.O tk).id := fu aP.id bP rfl
 have LA : (obj bK tk).data = (obj S.O tk).data := fu aP.data bP rfl
 refine NS ?_
 have Iy : (obj bK tk).opens = (obj S.O tk).opens - 1 := by rw [bP]; exact congrArg aP.opens bH
 refine gK 2 [(30, vP f), (31, .iface 96 (vP (L.b tk)))] [] ?_
 refine gL [3, 1, 2] (nP S.X f m t hX bK L S.idx hI.rise ⟨tk, 2⟩ tY (by simp) (by rw [Iy]; omega) (fun _ => by rw [Gh, hid.1]; exact hlv) (by rw [Gh]; exact mY) (by rw [LA]; exact hdl)) ?_
 rintro _ _ ⟨rfl, rfl⟩
 refine NS ?_
 refine gK 1 [(4, vI 0)] [] ?_
 refine NN (af.ret ?_)
 exact RT (l := [pF f m t { S.X with used := iL bK S.X.used ⟨tk, 2⟩ }, pI m L (iw bK S.idx ⟨tk, 2⟩), pT t S.X.cH S.au L (del c.handle S.us), pO bK L, pD bK L, pE bK L, pC cb c]) (.int .i64 0) [1, 2, 3, 0, 4, 5, 6, 7] (⟨L, by subst bP; rw [show iq S c = (0, _, c) by unfold iq; rw [cE]]; exact ⟨rfl, rfl⟩⟩)
end
section
open Go.RowKit Go.Maps HeapM TabM
attribute [local irreducible] aj aT af ai
abbrev Pg (S : aG) (L : HL) (tk : Nat) := (.abs (ak (iC (aN S.O L) tk bR.none)) : HP)
abbrev JH (L : HL) (tk : Nat) (S : aG) (c : aU) := (.blk (L.b tk) [vI ((obj S.O tk).id), vI (c.mode), vI ((obj S.O tk).uid), vI ((obj S.O tk).gid), vI ((obj S.O tk).sec), vI ((obj S.O tk).nano), vI ((obj S.O tk).links), vI ((obj S.O tk).opens), .bool (obj S.O tk).gone, .slice (L.dA tk) ((obj S.O tk).data.length) ((L.dC tk))] 92 : HP)
abbrev JI (L : HL) (tk : Nat) (S : aG) (c : aU) := (.blk (L.b tk) [vI ((obj S.O tk).id), vI (c.mode), vI (c.uid), vI ((obj S.O tk).gid), vI ((obj S.O tk).sec), vI ((obj S.O tk).nano), vI ((obj S.O tk).links), vI ((obj S.O tk).opens), .bool (obj S.O tk).gone, .slice (L.dA tk) ((obj S.O tk).data.length) ((L.dC tk))] 92 : HP)
abbrev JJ (L : HL) (tk : Nat) (S : aG) (c : aU) := (.blk (L.b tk) [vI ((obj S.O tk).id), vI (c.mode), vI (c.uid), vI (c.gid), vI ((obj S.O tk).sec), vI ((obj S.O tk).nano), vI ((obj S.O tk).links), vI ((obj S.O tk).opens), .bool (obj S.O tk).gone, .slice (L.dA tk) ((obj S.O tk).data.length) ((L.dC tk))] 92 : HP)
abbrev NE (L : HL) (tk : Nat) (S : aG) (c : aU) := (.blk (L.b tk) [vI ((obj S.O tk).id), vI (c.mode), vI ((obj S.O tk).uid), vI ((obj S.O tk).gid), vI ((obj S.O tk).sec), vI ((obj S.O tk).nano), vI ((obj S.O tk).links), vI ((obj S.O tk).opens), .bool (obj S.O tk).gone, .map (some (L.m tk)), (qh L (obj S.O tk).up)] 99 : HP)
abbrev NG (L : HL) (tk : Nat) (S : aG) (c : aU) := (.blk (L.b tk) [vI ((obj S.O tk).id), vI (c.mode), vI (c.uid), vI ((obj S.O tk).gid), vI ((obj S.O tk).sec), vI ((obj S.O tk).nano), vI ((obj S.O tk).links), vI ((obj S.O tk).opens), .bool (obj S.O tk).gone, .map (some (L.m tk)), (qh L (obj S.O tk).up)] 99 : HP)
abbrev NH (L : HL) (tk : Nat) (S : aG) (c : aU) := (.blk (L.b tk) [vI ((obj S.O tk).id), vI (c.mode), vI (c.uid), vI (c.gid), vI ((obj S.O tk).sec), vI ((obj S.O tk).nano), vI ((obj S.O tk).links), vI ((obj S.O tk).opens), .bool (obj S.O tk).gone, .map (some (L.m tk)), (qh L (obj S.O tk).up)] 99 : HP)
abbrev LJ (S : aG) (c : aU) (L2 : HL) := (pO (ay S.O (aD S.X) (fun _ => (⟨0, c.mode, 0, 0, 0, 0, 0, 0, false, 1, [], ⟨#[]⟩, [], none⟩ : aP))) L2 : HP)
abbrev Ph (S : aG) (c : aU) (L2 : HL) := (pE (ay S.O (aD S.X) (fun _ => (⟨0, c.mode, 0, 0, 0, 0, 0, 0, false, 1, [], ⟨#[]⟩, [], none⟩ : aP))) L2 : HP)
abbrev LK (S : aG) (c : aU) (L2 : HL) := (pD (ay S.O (aD S.X) (fun _ => (⟨0, c.mode, 0, 0, 0, 0, 0, 0, false, 1, [], ⟨#[]⟩, [], none⟩ : aP))) L2 : HP)
abbrev jN (f : Nat) (m : Nat) (t) (S : aG) (L : HL) (tk : Nat) (cb : Nat) (c) (R : bR) := ([pF f m t S.X, pI m L S.idx, jF t S L, Pg S L tk, pD S.O L, pE S.O L, pC cb c, .abs R] : List HP)
abbrev lu (c : aU) := ([(79, vI (c.gid)), (83, .agg #[vI (c.sec), vI (c.nano)])] : Fr)
abbrev zi (L : HL) (tk : Nat) (c : aU) := ([(66, vP (L.b tk)), (67, vP (L.b tk)), (75, vI (c.uid))] : Fr)
abbrev Iz (L : HL) (tk : Nat) (c : aU) := ([(65, vP (L.b tk)), (66, vP (L.b tk)), (67, vP (L.b tk)), (71, vI (c.mode)), (75, vI (c.uid))] : Fr)
abbrev zj (S : aG) (c) (L2 : HL) (f : Nat) (m : Nat) (t) (L : HL) := ([LJ S c L2, pF f m t S.X, pI m L S.idx, Ph S c L2, jF t S L] : List HP)
abbrev IB (c : aU) (L : HL) (tk : Nat) := ([(83, .agg #[vI (c.sec), vI (c.nano)]), (91, .pointer (some ⟨(L.b tk), 4, none⟩))] : Fr)
abbrev IC (t) (c : aU) := ([(12, vP t), (16, vI (c.handle))] : Fr)
abbrev LM (cb : Nat) (f : Nat) (b4 : Nat) := ([(49, vP cb), (50, vP f), (52, .iface 89 (vP b4))] : Fr)
theorem Ay {β : Bs} (S : aG) (L : HL) (f m t : Nat) (hI : Inv S) (cb : Nat) (c : aU) (hC : fB β c) :
    Spec Tryz.prog β 87 #[vP f, vP cb] ((pA f m t L S) ++ [pC cb c]) (fun v l => ∃ L2, v = vI (bF S c).1 ∧ l = ((pA f m t L2 ((bF S c).2.1)) ++ [.blk cb (fT ((bF S c).2.2)) 43])) := by
 have hX := hI.hX
 refine Spec.enter Tryz.func87 rfl Tryz.ntmps87 (Nat.le_of_ble_eq_true rfl) (fun R => ?_)
 refine af.seq ?_
 rcases hI.hand c.handle with cE | ⟨tk, cE, hlv⟩ | ⟨tk, cE, hlv⟩
 ·refine af.region ?_
  refine gK 1 [] [] ?_
  refine NN (af.seq ?_)
  refine af.bG (by kernel_rfl) (by kernel_rfl) ?_
  refine gQ 8 (IC t c) [(3, a_ 0 f), (7, a_ 6 cb)] ?_
  refine aT.call (f := 136) (args := #[vP t, vI (c.handle)]) (d := (some 17)) (pre := [jF t S L]) (R := (nZ f m t S L cb c R)) (pk := [2, 0, 1, 3, 4, 5, 6, 7]) (gy := [1, 2, 0, 3, 4, 5, 6, 7]) (v0 := .tuple #[.nilIface, vI 131]) (fun _ => by kernel_rfl) (nK t S.X.cH S.au (aJ L S.us) c.handle hC.hw (mU cE)) rfl (by kernel_rfl) rfl (by kernel_rfl) (fun _ _ h => h) ?_
  refine gQ 5 [(5, .nilIface), (6, vI 131)] [] ?_
  refine NQ (NX (af.seq (SR ?_)))
  refine gK 2 [(21, .bool true)] [] ?_
  refine NN ?_
  refine CT ?_
  refine SR ?_
  refine gK 2 [(4, vI 131)] [] ?_
  refine NN (af.ret (ai.aq ?_))
  exact RT (vI 131) [0, 1, 2, 3, 4, 5, 6, 7] (⟨L, by rw [show (bF S c) = (131, S, c) by unfold bF; rw [cE]] <;> exact ⟨rfl, rfl⟩⟩)
 ·have hkt : (obj S.O tk).kind = 1 := hI.kind hlv
  refine af.region ?_
  refine gK 1 [] [] ?_
  refine NN (af.seq ?_)
  refine af.bG (by kernel_rfl) (by kernel_rfl) ?_
  refine gQ 8 (IC t c) [(3, a_ 0 f), (7, a_ 6 cb)] ?_
  refine aT.call (f := 136) (args := #[vP t, vI (c.handle)]) (d := (some 17)) (pre := [jF t S L]) (R := (nZ f m t S L cb c R)) (pk := [2, 0, 1, 3, 4, 5, 6, 7]) (gy := [1, 2, 0, 3, 4, 5, 6, 7]) (v0 := .tuple #[.iface 89 (vP (L.b tk)), vI 0]) (fun _ => by kernel_rfl) (ju t S.X.cH S.au (aJ L S.us) c.handle hC.hw (cI L ⟨tk, 1⟩) (iT cE)) rfl (by kernel_rfl) rfl (by kernel_rfl) (fun _ _ h => h) ?_
  refine gQ 5 (EH L tk) [] ?_
  refine NQ (NX (af.seq (SR ?_)))
  refine gK 2 [(21, .bool false)] [] ?_
  refine NN ?_
  refine CF ?_
  refine af.skip (NX (SR ?_))
  refine gK 1 [(23, .iface 89 (vP (L.b tk)))] [] ?_
  refine gL [] (cr (L.b tk)) ?_
  rintro _ _ ⟨rfl, rfl⟩
  refine gK 1 [(7, vP (L.b tk))] [] ?_
  refine NN (af.seq (af.block (SR ?_)))
  refine gK 5 [(30, .bool (obj S.O tk).gone)] [(3, v_ 3 (kM L hkt))] ?_
  refine aj.kT 30 (obj S.O tk).gone (fun _ => by kernel_rfl) (fun j7 => ?_) (fun j7 => ?_)
  ·refine gK 1 [(31, .iface 89 (vP (L.b tk)))] [] ?_
   refine gL [] (jw (vP (L.b tk))) ?_
   rintro _ _ ⟨rfl, rfl⟩
   refine gK 3 [(25, .bool false)] [] ?_
   refine NN ?_
   refine CF ?_
   refine SR ?_
   refine gK 4 [(39, vI (c.mode))] [(3, a_ 6 cb)] ?_
   refine gL [] (dW (c.mode) 4095) ?_
   rintro _ _ ⟨rfl, rfl⟩
   refine gK 2 [(35, .bool (!(decide (0 ≤ c.mode ∧ c.mode ≤ 4095))))] [] ?_
   refine NN ?_
   refine af.ct (p := 0 ≤ c.mode ∧ c.mode ≤ 4095) (fun _ => by kernel_rfl) (fun jT => ?_) (fun jT => ?_)
   ·refine SR ?_
    refine gK 1 [(4, vI 120)] [] ?_
    refine NN (af.ret (ai.aE (ai.aq ?_)))
    exact RT (vI 120) [0, 1, 2, 3, 4, 5, 6, 7] (⟨L, by rw [show (bF S c) = (120, S, c) by unfold bF; rw [cE]; exact (if_neg (fun h => absurd h.2 (by simp))).trans (if_neg jT)] <;> exact ⟨rfl, rfl⟩⟩)
   refine SR ?_
   refine gK 4 [(46, vI (c.uid))] [(3, a_ 6 cb)] ?_
   refine gL [] (dW (c.uid) 2147483647) ?_
   rintro _ _ ⟨rfl, rfl⟩
   refine gK 2 [(49, .bool (!(decide (0 ≤ c.uid ∧ c.uid ≤ 2147483647))))] [] ?_
   refine aj.fD 49 (0 ≤ c.uid ∧ c.uid ≤ 2147483647) (fun _ => by kernel_rfl) (fun qv => ?_) (fun qv => ?_)
   ·refine gK 8 [(42, .bool true)] [] ?_
    refine NN ?_
    refine CT ?_
    refine SR ?_
    refine gK 1 [(4, vI 11)] [] ?_
    refine NN (af.ret (ai.aE (ai.aq ?_)))
    exact RT (vI 11) [0, 1, 2, 3, 4, 5, 6, 7] (⟨L, by rw [show (bF S c) = (11, S, c) by unfold bF; rw [cE]; exact (if_neg (fun h => absurd h.2 (by simp))).trans ((if_pos jT).trans (if_neg (fun h => qv h.1)))] <;> exact ⟨rfl, rfl⟩⟩)
   refine gK 4 [(53, vI (c.gid))] [(3, a_ 6 cb)] ?_
   refine gL [] (dW (c.gid) 2147483647) ?_
   rintro _ _ ⟨rfl, rfl⟩
   refine gK 3 [(42, .bool (!(decide (0 ≤ c.gid ∧ c.gid ≤ 2147483647))))] [] ?_
   refine NN ?_
   refine af.ct (p := 0 ≤ c.gid ∧ c.gid ≤ 2147483647) (fun _ => by kernel_rfl) (fun oq => ?_) (fun oq => ?_)
   ·refine SR ?_
    refine gK 1 [(4, vI 11)] [] ?_
    refine NN (af.ret (ai.aE (ai.aq ?_)))
    exact RT (vI 11) [0, 1, 2, 3, 4, 5, 6, 7] (⟨L, by rw [show (bF S c) = (11, S, c) by unfold bF; rw [cE]; exact (if_neg (fun h => absurd h.2 (by simp))).trans ((if_pos jT).trans (if_neg (fun h => oq h.2)))] <;> exact ⟨rfl, rfl⟩⟩)
   refine SR ?_
   refine gK 4 [(61, .agg #[vI (c.sec), vI (c.nano)])] [(3, A_ 6 cb 2)] ?_
   refine gL [] (fM c.sec c.nano) ?_
   rintro _ _ ⟨rfl, rfl⟩
   refine gK 2 [(57, .bool (!(decide (cQ c.sec c.nano))))] [] ?_
   refine NN ?_
   refine af.ct (p := cQ c.sec c.nano) (fun _ => by kernel_rfl) (fun ul => ?_) (fun ul => ?_)
   ·refine SR ?_
    refine gK 1 [(4, vI 20)] [] ?_
    refine NN (af.ret (ai.aE (ai.aq ?_)))
    exact RT (vI 20) [0, 1, 2, 3, 4, 5, 6, 7] (⟨L, by rw [show (bF S c) = (20, S, c) by unfold bF; rw [cE]; exact (if_neg (fun h => absurd h.2 (by simp))).trans ((if_pos jT).trans ((if_pos ⟨qv, oq⟩).trans (if_neg ul)))] <;> exact ⟨rfl, rfl⟩⟩)
   refine af.skip (ai.aQ (NX (af.seq ?_)))
   skip
   refine af.mem (aR := [.blk f [vI (S.X.cN), vI (S.X.cB), vI (S.X.cH), vI (S.X.cS), vI (S.X.cZ), .map (some m), vP t, vI (S.X.last), vI (S.X.ah), vI (S.X.used)] 86, .abs (aI Tryz.prog 3 m (aM (aJ L S.idx)) S.idx.length), .abs (bp 156 t S.X.cH S.au (aJ L S.us)), .abs (ak (iC (aN S.O L) tk bR.none)), .abs (ak (aY S.O L)), .abs (ak (bg S.O L)), .blk cb [vI (c.op), vI (c.handle), vI (c.other), .string c.name, .string c.text, .slice c.dA (c.data.length) (c.dC), vI (c.mode), vI (c.uid), vI (c.gid), vI (c.sec), vI (c.nano), vI (c.code), vI (c.answer)] 43, .abs R, .blk (L.b tk) [vI ((obj S.O tk).id), vI ((obj S.O tk).mode), vI ((obj S.O tk).uid), vI ((obj S.O tk).gid), vI ((obj S.O tk).sec), vI ((obj S.O tk).nano), vI ((obj S.O tk).links), vI ((obj S.O tk).opens), .bool (obj S.O tk).gone, .slice (L.dA tk) ((obj S.O tk).data.length) ((L.dC tk))] 92]) (fun w hS => hS.tH (i := 3) (k := tk) rfl (by rw [hkt]; decide) (eu (hkt)) (by rw [hkt]; rfl)) ?_
   refine af.bZ (S := [pC cb c]) [0, 1, 2, 3, 4, 5, 6, 7, 8, 9, 10, 11, 12, 13, 14, 15, 16, 17, 18, 19, 20, 21, 22, 23, 24, 25, 26, 27, 28, 29, 30, 31] 22 [6] (by kernel_rfl) (by kernel_rfl) rfl (by kernel_rfl) ?_
   refine aF.reads (r := 0) (l := [22, 23, 24, 25, 26, 27, 28, 29, 30, 31]) (fr' := (Iz L tk c ++ lu c ++ [(85, .pointer (some ⟨(L.b tk), 1, none⟩))])) (aV := [cb = cb, cb = cb, cb = cb, cb = cb, cb = cb]) [0, 1, 2, 3, 4, 5, 6, 7, 8, 9, 10, 11, 12, 13, 14, 15, 16, 17, 18, 19, 20, 21] [o_, o_, o_, o_, o_, o_, o_, ⟨[.at 0], none, none, none, none⟩, o_, o_, o_, ⟨[.at 0], none, none, none, none⟩, o_, o_, o_, ⟨[.at 0], none, none, none, none⟩, o_, o_, o_, ⟨[.at 0, .at 0], none, none, none, none⟩, o_, o_] [65, 66, 67, 71, 75, 79, 83, 85] (fun _ => by kernel_rfl) ⟨rfl, rfl, rfl, rfl, rfl, trivial⟩ rfl rfl ?_
   refine mC [6] [] [(0, a_ 8 (L.b tk))] [(8, [(1, vI (c.mode))])] ?_
   refine aF.cut (ι := Unit) (fr' := fun (_ : Unit) => (zi L tk c ++ lu c ++ [(86, vP (L.b tk))])) (hp' := fun (_ : Unit) => (jN f m t S L tk cb c R ++ [JH L tk S c])) [6] rfl rfl ?_ rfl (fun _ => by kernel_rfl) ?_
   ·refine gK 1 [(86, vP (L.b tk))] [] ?_
    refine NL ?_
    exact MD () [66, 67, 75, 79, 83, 86] [0, 1, 2, 3, 4, 5, 6, 7, 8]
   rintro _
   refine aF.cut (ι := Unit) (fr' := fun (_ : Unit) => (zi L tk c ++ lu c ++ [(87, .pointer (some ⟨(L.b tk), 2, none⟩))])) (hp' := fun (_ : Unit) => (jN f m t S L tk cb c R ++ [JH L tk S c])) [6] rfl rfl ?_ rfl (fun _ => by kernel_rfl) ?_
   ·refine gK 1 [(87, .pointer (some ⟨(L.b tk), 2, none⟩))] [] ?_
    refine NL ?_
    exact MD () [66, 67, 75, 79, 83, 87] [0, 1, 2, 3, 4, 5, 6, 7, 8]
   rintro _
   refine mC [6] [] [(0, a_ 8 (L.b tk))] [(8, [(2, vI (c.uid))])] ?_
   refine aF.cut (ι := Unit) (fr' := fun (_ : Unit) => ([(67, vP (L.b tk))] ++ lu c ++ [(88, vP (L.b tk))])) (hp' := fun (_ : Unit) => (jN f m t S L tk cb c R ++ [JI L tk S c])) [6] rfl rfl ?_ rfl (fun _ => by kernel_rfl) ?_
   ·refine gK 1 [(88, vP (L.b tk))] [] ?_
    refine NL ?_
    exact MD () [67, 79, 83, 88] [0, 1, 2, 3, 4, 5, 6, 7, 8]
   rintro _
   refine aF.cut (ι := Unit) (fr' := fun (_ : Unit) => ([(67, vP (L.b tk))] ++ lu c ++ [(89, .pointer (some ⟨(L.b tk), 3, none⟩))])) (hp' := fun (_ : Unit) => (jN f m t S L tk cb c R ++ [JI L tk S c])) [6] rfl rfl ?_ rfl (fun _ => by kernel_rfl) ?_
   ·refine gK 1 [(89, .pointer (some ⟨(L.b tk), 3, none⟩))] [] ?_
    refine NL ?_
    exact MD () [67, 79, 83, 89] [0, 1, 2, 3, 4, 5, 6, 7, 8]
   rintro _
   refine mC [6] [] [(0, a_ 8 (L.b tk))] [(8, [(3, vI (c.gid))])] ?_
   refine aF.cut (ι := Unit) (fr' := fun (_ : Unit) => [(83, .agg #[vI (c.sec), vI (c.nano)]), (90, vP (L.b tk))]) (hp' := fun (_ : Unit) => (jN f m t S L tk cb c R ++ [JJ L tk S c])) [6] rfl rfl ?_ rfl (fun _ => by kernel_rfl) ?_
   ·refine gK 1 [(90, vP (L.b tk))] [] ?_
    refine NL ?_
    exact MD () [83, 90] [0, 1, 2, 3, 4, 5, 6, 7, 8]
   rintro _
   refine aF.cut (ι := Unit) (fr' := fun (_ : Unit) => (IB c L tk)) (hp' := fun (_ : Unit) => (jN f m t S L tk cb c R ++ [JJ L tk S c])) [6] rfl rfl ?_ rfl (fun _ => by kernel_rfl) ?_
   ·refine gK 1 [(91, .pointer (some ⟨(L.b tk), 4, none⟩))] [] ?_
    refine NL ?_
    exact MD () [83, 91] [0, 1, 2, 3, 4, 5, 6, 7, 8]
   rintro _
   refine aF.last rfl rfl ?_
   refine gC 1 [] [(0, A_ 8 (L.b tk) 2)] [(8, [(4, vI (c.sec)), (5, vI (c.nano))])] ?_
   refine NL (ai.np (NX (SR ?_)))
   refine aj.mem (aR := [.abs (ak (aN (ay S.O tk (fun o => { o with mode := c.mode, uid := c.uid, gid := c.gid, sec := c.sec, nano := c.nano })) L)), .blk f [vI (S.X.cN), vI (S.X.cB), vI (S.X.cH), vI (S.X.cS), vI (S.X.cZ), .map (some m), vP t, vI (S.X.last), vI (S.X.ah), vI (S.X.used)] 86, .abs (aI Tryz.prog 3 m (aM (aJ L S.idx)) S.idx.length), .abs (bp 156 t S.X.cH S.au (aJ L S.us)), .abs (ak (aY (ay S.O tk (fun o => { o with mode := c.mode, uid := c.uid, gid := c.gid, sec := c.sec, nano := c.nano })) L)), .abs (ak (bg (ay S.O tk (fun o => { o with mode := c.mode, uid := c.uid, gid := c.gid, sec := c.sec, nano := c.nano })) L)), .blk cb [vI (c.op), vI (c.handle), vI (c.other), .string c.name, .string c.text, .slice c.dA (c.data.length) (c.dC), vI (c.mode), vI (c.uid), vI (c.gid), vI (c.sec), vI (c.nano), vI (c.code), vI (c.answer)] 43, .abs R]) (fun w hS => by have h := hS.uM (O := S.O) (L := L) (i := 3) (j := 8) (idx := [0, 1, 2, 4, 5, 6, 7]) (k := tk) (f := (fun o => { o with mode := c.mode, uid := c.uid, gid := c.gid, sec := c.sec, nano := c.nano })) rfl (fun _ hx => lN hx) rfl (by kernel_rfl) rfl (by show (obj S.O tk).kind ≠ 0; rw [hkt]; decide) ((eu (o := (fun o => { o with mode := c.mode, uid := c.uid, gid := c.gid, sec := c.sec, nano := c.nano }) (obj S.O tk)) (hkt)).trans rfl) (by show kF (obj S.O tk).kind = _; rw [hkt]; rfl); rw [kx (O := S.O) (k := tk) (f := (fun o => { o with mode := c.mode, uid := c.uid, gid := c.gid, sec := c.sec, nano := c.nano })) rfl rfl, kz (O := S.O) (k := tk) (f := (fun o => { o with mode := c.mode, uid := c.uid, gid := c.gid, sec := c.sec, nano := c.nano })) rfl rfl]; exact h) ?_
   have iF : (obj (ay S.O tk (fun o => { o with mode := c.mode, uid := c.uid, gid := c.gid, sec := c.sec, nano := c.nano })) tk).kind = 1 := (ij (f := (fun o => { o with mode := c.mode, uid := c.uid, gid := c.gid, sec := c.sec, nano := c.nano })) (fun _ => rfl)).trans (hkt)
   generalize bP : (ay S.O tk (fun o => { o with mode := c.mode, uid := c.uid, gid := c.gid, sec := c.sec, nano := c.nano })) = bK at iF ⊢
   refine gK 1 [(4, vI 0)] [] ?_
   refine NN (af.ret ?_)
   exact RT (l := [pF f m t S.X, pI m L S.idx, jF t S L, pO bK L, pD bK L, pE bK L, pC cb c]) (.int .i64 0) [1, 2, 3, 0, 4, 5, 6, 7] (⟨L, by subst bP; rw [show (bF S c) = (0, { S with O := ay S.O tk (fun o => { o with mode := c.mode, uid := c.uid, gid := c.gid, sec := c.sec, nano := c.nano }) }, c) by unfold bF; rw [cE]; exact (if_neg (fun h => absurd h.2 (by simp))).trans ((if_pos jT).trans ((if_pos ⟨qv, oq⟩).trans (if_pos ul)))] <;> exact ⟨rfl, rfl⟩⟩)
  refine gK 5 [(25, .bool false)] [] ?_
  refine NN ?_
  refine CF ?_
  refine SR ?_
  refine gK 4 [(39, vI (c.mode))] [(3, a_ 6 cb)] ?_
  refine gL [] (dW (c.mode) 4095) ?_
  rintro _ _ ⟨rfl, rfl⟩
  refine gK 2 [(35, .bool (!(decide (0 ≤ c.mode ∧ c.mode ≤ 4095))))] [] ?_
  refine NN ?_
  refine af.ct (p := 0 ≤ c.mode ∧ c.mode ≤ 4095) (fun _ => by kernel_rfl) (fun jT => ?_) (fun jT => ?_)
  ·refine SR ?_
   refine gK 1 [(4, vI 120)] [] ?_
   refine NN (af.ret (ai.aE (ai.aq ?_)))
   exact RT (vI 120) [0, 1, 2, 3, 4, 5, 6, 7] (⟨L, by rw [show (bF S c) = (120, S, c) by unfold bF; rw [cE]; exact (if_neg (fun h => absurd h.2 (by simp))).trans (if_neg jT)] <;> exact ⟨rfl, rfl⟩⟩)
  refine SR ?_
  refine gK 4 [(46, vI (c.uid))] [(3, a_ 6 cb)] ?_
  refine gL [] (dW (c.uid) 2147483647) ?_
  rintro _ _ ⟨rfl, rfl⟩
  refine gK 2 [(49, .bool (!(decide (0 ≤ c.uid ∧ c.uid ≤ 2147483647))))] [] ?_
  refine aj.fD 49 (0 ≤ c.uid ∧ c.uid ≤ 2147483647) (fun _ => by kernel_rfl) (fun qv => ?_) (fun qv => ?_)
  ·refine gK 8 [(42, .bool true)] [] ?_
   refine NN ?_
   refine CT ?_
   refine SR ?_
   refine gK 1 [(4, vI 11)] [] ?_
   refine NN (af.ret (ai.aE (ai.aq ?_)))
   exact RT (vI 11) [0, 1, 2, 3, 4, 5, 6, 7] (⟨L, by rw [show (bF S c) = (11, S, c) by unfold bF; rw [cE]; exact (if_neg (fun h => absurd h.2 (by simp))).trans ((if_pos jT).trans (if_neg (fun h => qv h.1)))] <;> exact ⟨rfl, rfl⟩⟩)
  refine gK 4 [(53, vI (c.gid))] [(3, a_ 6 cb)] ?_
  refine gL [] (dW (c.gid) 2147483647) ?_
  rintro _ _ ⟨rfl, rfl⟩
  refine gK 3 [(42, .bool (!(decide (0 ≤ c.gid ∧ c.gid ≤ 2147483647))))] [] ?_
  refine NN ?_
  refine af.ct (p := 0 ≤ c.gid ∧ c.gid ≤ 2147483647) (fun _ => by kernel_rfl) (fun oq => ?_) (fun oq => ?_)
  ·refine SR ?_
   refine gK 1 [(4, vI 11)] [] ?_
   refine NN (af.ret (ai.aE (ai.aq ?_)))
   exact RT (vI 11) [0, 1, 2, 3, 4, 5, 6, 7] (⟨L, by rw [show (bF S c) = (11, S, c) by unfold bF; rw [cE]; exact (if_neg (fun h => absurd h.2 (by simp))).trans ((if_pos jT).trans (if_neg (fun h => oq h.2)))] <;> exact ⟨rfl, rfl⟩⟩)
  refine SR ?_
  refine gK 4 [(61, .agg #[vI (c.sec), vI (c.nano)])] [(3, A_ 6 cb 2)] ?_
  refine gL [] (fM c.sec c.nano) ?_
  rintro _ _ ⟨rfl, rfl⟩
  refine gK 2 [(57, .bool (!(decide (cQ c.sec c.nano))))] [] ?_
  refine NN ?_
  refine af.ct (p := cQ c.sec c.nano) (fun _ => by kernel_rfl) (fun ul => ?_) (fun ul => ?_)
  ·refine SR ?_
   refine gK 1 [(4, vI 20)] [] ?_
   refine NN (af.ret (ai.aE (ai.aq ?_)))
   exact RT (vI 20) [0, 1, 2, 3, 4, 5, 6, 7] (⟨L, by rw [show (bF S c) = (20, S, c) by unfold bF; rw [cE]; exact (if_neg (fun h => absurd h.2 (by simp))).trans ((if_pos jT).trans ((if_pos ⟨qv, oq⟩).trans (if_neg ul)))] <;> exact ⟨rfl, rfl⟩⟩)
  refine af.skip (ai.aQ (NX (af.seq ?_)))
  skip
  refine af.mem (aR := [.blk f [vI (S.X.cN), vI (S.X.cB), vI (S.X.cH), vI (S.X.cS), vI (S.X.cZ), .map (some m), vP t, vI (S.X.last), vI (S.X.ah), vI (S.X.used)] 86, .abs (aI Tryz.prog 3 m (aM (aJ L S.idx)) S.idx.length), .abs (bp 156 t S.X.cH S.au (aJ L S.us)), .abs (ak (iC (aN S.O L) tk bR.none)), .abs (ak (aY S.O L)), .abs (ak (bg S.O L)), .blk cb [vI (c.op), vI (c.handle), vI (c.other), .string c.name, .string c.text, .slice c.dA (c.data.length) (c.dC), vI (c.mode), vI (c.uid), vI (c.gid), vI (c.sec), vI (c.nano), vI (c.code), vI (c.answer)] 43, .abs R, .blk (L.b tk) [vI ((obj S.O tk).id), vI ((obj S.O tk).mode), vI ((obj S.O tk).uid), vI ((obj S.O tk).gid), vI ((obj S.O tk).sec), vI ((obj S.O tk).nano), vI ((obj S.O tk).links), vI ((obj S.O tk).opens), .bool (obj S.O tk).gone, .slice (L.dA tk) ((obj S.O tk).data.length) ((L.dC tk))] 92]) (fun w hS => hS.tH (i := 3) (k := tk) rfl (by rw [hkt]; decide) (eu (hkt)) (by rw [hkt]; rfl)) ?_
  refine af.bZ (S := [pC cb c]) [0, 1, 2, 3, 4, 5, 6, 7, 8, 9, 10, 11, 12, 13, 14, 15, 16, 17, 18, 19, 20, 21, 22, 23, 24, 25, 26, 27, 28, 29, 30, 31] 22 [6] (by kernel_rfl) (by kernel_rfl) rfl (by kernel_rfl) ?_
  refine aF.reads (r := 0) (l := [22, 23, 24, 25, 26, 27, 28, 29, 30, 31]) (fr' := (Iz L tk c ++ lu c ++ [(85, .pointer (some ⟨(L.b tk), 1, none⟩))])) (aV := [cb = cb, cb = cb, cb = cb, cb = cb, cb = cb]) [0, 1, 2, 3, 4, 5, 6, 7, 8, 9, 10, 11, 12, 13, 14, 15, 16, 17, 18, 19, 20, 21] [o_, o_, o_, o_, o_, o_, o_, ⟨[.at 0], none, none, none, none⟩, o_, o_, o_, ⟨[.at 0], none, none, none, none⟩, o_, o_, o_, ⟨[.at 0], none, none, none, none⟩, o_, o_, o_, ⟨[.at 0, .at 0], none, none, none, none⟩, o_, o_] [65, 66, 67, 71, 75, 79, 83, 85] (fun _ => by kernel_rfl) ⟨rfl, rfl, rfl, rfl, rfl, trivial⟩ rfl rfl ?_
  refine mC [6] [] [(0, a_ 8 (L.b tk))] [(8, [(1, vI (c.mode))])] ?_
  refine aF.cut (ι := Unit) (fr' := fun (_ : Unit) => (zi L tk c ++ lu c ++ [(86, vP (L.b tk))])) (hp' := fun (_ : Unit) => (jN f m t S L tk cb c R ++ [JH L tk S c])) [6] rfl rfl ?_ rfl (fun _ => by kernel_rfl) ?_
  ·refine gK 1 [(86, vP (L.b tk))] [] ?_
   refine NL ?_
   exact MD () [66, 67, 75, 79, 83, 86] [0, 1, 2, 3, 4, 5, 6, 7, 8]
  rintro _
  refine aF.cut (ι := Unit) (fr' := fun (_ : Unit) => (zi L tk c ++ lu c ++ [(87, .pointer (some ⟨(L.b tk), 2, none⟩))])) (hp' := fun (_ : Unit) => (jN f m t S L tk cb c R ++ [JH L tk S c])) [6] rfl rfl ?_ rfl (fun _ => by kernel_rfl) ?_
  ·refine gK 1 [(87, .pointer (some ⟨(L.b tk), 2, none⟩))] [] ?_
   refine NL ?_
   exact MD () [66, 67, 75, 79, 83, 87] [0, 1, 2, 3, 4, 5, 6, 7, 8]
  rintro _
  refine mC [6] [] [(0, a_ 8 (L.b tk))] [(8, [(2, vI (c.uid))])] ?_
  refine aF.cut (ι := Unit) (fr' := fun (_ : Unit) => ([(67, vP (L.b tk))] ++ lu c ++ [(88, vP (L.b tk))])) (hp' := fun (_ : Unit) => (jN f m t S L tk cb c R ++ [JI L tk S c])) [6] rfl rfl ?_ rfl (fun _ => by kernel_rfl) ?_
  ·refine gK 1 [(88, vP (L.b tk))] [] ?_
   refine NL ?_
   exact MD () [67, 79, 83, 88] [0, 1, 2, 3, 4, 5, 6, 7, 8]
  rintro _
  refine aF.cut (ι := Unit) (fr' := fun (_ : Unit) => ([(67, vP (L.b tk))] ++ lu c ++ [(89, .pointer (some ⟨(L.b tk), 3, none⟩))])) (hp' := fun (_ : Unit) => (jN f m t S L tk cb c R ++ [JI L tk S c])) [6] rfl rfl ?_ rfl (fun _ => by kernel_rfl) ?_
  ·refine gK 1 [(89, .pointer (some ⟨(L.b tk), 3, none⟩))] [] ?_
   refine NL ?_
   exact MD () [67, 79, 83, 89] [0, 1, 2, 3, 4, 5, 6, 7, 8]
  rintro _
  refine mC [6] [] [(0, a_ 8 (L.b tk))] [(8, [(3, vI (c.gid))])] ?_
  refine aF.cut (ι := Unit) (fr' := fun (_ : Unit) => [(83, .agg #[vI (c.sec), vI (c.nano)]), (90, vP (L.b tk))]) (hp' := fun (_ : Unit) => (jN f m t S L tk cb c R ++ [JJ L tk S c])) [6] rfl rfl ?_ rfl (fun _ => by kernel_rfl) ?_
  ·refine gK 1 [(90, vP (L.b tk))] [] ?_
   refine NL ?_
   exact MD () [83, 90] [0, 1, 2, 3, 4, 5, 6, 7, 8]
  rintro _
  refine aF.cut (ι := Unit) (fr' := fun (_ : Unit) => (IB c L tk)) (hp' := fun (_ : Unit) => (jN f m t S L tk cb c R ++ [JJ L tk S c])) [6] rfl rfl ?_ rfl (fun _ => by kernel_rfl) ?_
  ·refine gK 1 [(91, .pointer (some ⟨(L.b tk), 4, none⟩))] [] ?_
   refine NL ?_
   exact MD () [83, 91] [0, 1, 2, 3, 4, 5, 6, 7, 8]
  rintro _
  refine aF.last rfl rfl ?_
  refine gC 1 [] [(0, A_ 8 (L.b tk) 2)] [(8, [(4, vI (c.sec)), (5, vI (c.nano))])] ?_
  refine NL (ai.np (NX (SR ?_)))
  refine aj.mem (aR := [.abs (ak (aN (ay S.O tk (fun o => { o with mode := c.mode, uid := c.uid, gid := c.gid, sec := c.sec, nano := c.nano })) L)), .blk f [vI (S.X.cN), vI (S.X.cB), vI (S.X.cH), vI (S.X.cS), vI (S.X.cZ), .map (some m), vP t, vI (S.X.last), vI (S.X.ah), vI (S.X.used)] 86, .abs (aI Tryz.prog 3 m (aM (aJ L S.idx)) S.idx.length), .abs (bp 156 t S.X.cH S.au (aJ L S.us)), .abs (ak (aY (ay S.O tk (fun o => { o with mode := c.mode, uid := c.uid, gid := c.gid, sec := c.sec, nano := c.nano })) L)), .abs (ak (bg (ay S.O tk (fun o => { o with mode := c.mode, uid := c.uid, gid := c.gid, sec := c.sec, nano := c.nano })) L)), .blk cb [vI (c.op), vI (c.handle), vI (c.other), .string c.name, .string c.text, .slice c.dA (c.data.length) (c.dC), vI (c.mode), vI (c.uid), vI (c.gid), vI (c.sec), vI (c.nano), vI (c.code), vI (c.answer)] 43, .abs R]) (fun w hS => by have h := hS.uM (O := S.O) (L := L) (i := 3) (j := 8) (idx := [0, 1, 2, 4, 5, 6, 7]) (k := tk) (f := (fun o => { o with mode := c.mode, uid := c.uid, gid := c.gid, sec := c.sec, nano := c.nano })) rfl (fun _ hx => lN hx) rfl (by kernel_rfl) rfl (by show (obj S.O tk).kind ≠ 0; rw [hkt]; decide) ((eu (o := (fun o => { o with mode := c.mode, uid := c.uid, gid := c.gid, sec := c.sec, nano := c.nano }) (obj S.O tk)) (hkt)).trans rfl) (by show kF (obj S.O tk).kind = _; rw [hkt]; rfl); rw [kx (O := S.O) (k := tk) (f := (fun o => { o with mode := c.mode, uid := c.uid, gid := c.gid, sec := c.sec, nano := c.nano })) rfl rfl, kz (O := S.O) (k := tk) (f := (fun o => { o with mode := c.mode, uid := c.uid, gid := c.gid, sec := c.sec, nano := c.nano })) rfl rfl]; exact h) ?_
  have j6 : (obj (ay S.O tk (fun o => { o with mode := c.mode, uid := c.uid, gid := c.gid, sec := c.sec, nano := c.nano })) tk).kind = 1 := (ij (f := (fun o => { o with mode := c.mode, uid := c.uid, gid := c.gid, sec := c.sec, nano := c.nano })) (fun _ => rfl)).trans (hkt)
  generalize bP : (ay S.O tk (fun o => { o with mode := c.mode, uid := c.uid, gid := c.gid, sec := c.sec, nano := c.nano })) = bK at j6 ⊢
  refine gK 1 [(4, vI 0)] [] ?_
  refine NN (af.ret ?_)
  exact RT (l := [pF f m t S.X, pI m L S.idx, jF t S L, pO bK L, pD bK L, pE bK L, pC cb c]) (.int .i64 0) [1, 2, 3, 0, 4, 5, 6, 7] (⟨L, by subst bP; rw [show (bF S c) = (0, { S with O := ay S.O tk (fun o => { o with mode := c.mode, uid := c.uid, gid := c.gid, sec := c.sec, nano := c.nano }) }, c) by unfold bF; rw [cE]; exact (if_neg (fun h => absurd h.2 (by simp))).trans ((if_pos jT).trans ((if_pos ⟨qv, oq⟩).trans (if_pos ul)))] <;> exact ⟨rfl, rfl⟩⟩)
 have hkt : (obj S.O tk).kind = 2 := hI.kind hlv
 refine af.region ?_
 refine gK 1 [] [] ?_
 refine NN (af.seq ?_)
 refine af.bG (by kernel_rfl) (by kernel_rfl) ?_
 refine gQ 8 (IC t c) [(3, a_ 0 f), (7, a_ 6 cb)] ?_
 refine aT.call (f := 136) (args := #[vP t, vI (c.handle)]) (d := (some 17)) (pre := [jF t S L]) (R := (nZ f m t S L cb c R)) (pk := [2, 0, 1, 3, 4, 5, 6, 7]) (gy := [1, 2, 0, 3, 4, 5, 6, 7]) (v0 := .tuple #[.iface 96 (vP (L.b tk)), vI 0]) (fun _ => by kernel_rfl) (ju t S.X.cH S.au (aJ L S.us) c.handle hC.hw (cI L ⟨tk, 2⟩) (iT cE)) rfl (by kernel_rfl) rfl (by kernel_rfl) (fun _ _ h => h) ?_
 refine gQ 5 (EI L tk) [] ?_
 refine NQ (NX (af.seq (SR ?_)))
 refine gK 2 [(21, .bool false)] [] ?_
 refine NN ?_
 refine CF ?_
 refine af.skip (NX (SR ?_))
 refine gK 1 [(23, .iface 96 (vP (L.b tk)))] [] ?_
 refine gL [] (cr (L.b tk)) ?_
 rintro _ _ ⟨rfl, rfl⟩
 refine gK 1 [(7, vP (L.b tk))] [] ?_
 refine NN (af.seq (af.block (SR ?_)))
 refine gK 5 [(30, .bool (obj S.O tk).gone)] [(3, v_ 3 (kM L hkt))] ?_
 refine aj.kT 30 (obj S.O tk).gone (fun _ => by kernel_rfl) (fun j7 => ?_) (fun j7 => ?_)
 ·refine gK 1 [(31, .iface 96 (vP (L.b tk)))] [] ?_
  refine gL [] (jA (vP (L.b tk))) ?_
  rintro _ _ ⟨rfl, rfl⟩
  refine gK 3 [(25, .bool true)] [] ?_
  refine NN ?_
  refine CT ?_
  refine SR ?_
  refine gK 1 [(4, vI 170)] [] ?_
  refine NN (af.ret (ai.aE (ai.aq ?_)))
  exact RT (vI 170) [0, 1, 2, 3, 4, 5, 6, 7] (⟨L, by rw [show (bF S c) = (170, S, c) by unfold bF; rw [cE]; exact if_pos ⟨j7, rfl⟩] <;> exact ⟨rfl, rfl⟩⟩)
 refine gK 5 [(25, .bool false)] [] ?_
 refine NN ?_
 refine CF ?_
 refine SR ?_
 refine gK 4 [(39, vI (c.mode))] [(3, a_ 6 cb)] ?_
 refine gL [] (dW (c.mode) 4095) ?_
 rintro _ _ ⟨rfl, rfl⟩
 refine gK 2 [(35, .bool (!(decide (0 ≤ c.mode ∧ c.mode ≤ 4095))))] [] ?_
 refine NN ?_
 refine af.ct (p := 0 ≤ c.mode ∧ c.mode ≤ 4095) (fun _ => by kernel_rfl) (fun jT => ?_) (fun jT => ?_)
 ·refine SR ?_
  refine gK 1 [(4, vI 120)] [] ?_
  refine NN (af.ret (ai.aE (ai.aq ?_)))
  exact RT (vI 120) [0, 1, 2, 3, 4, 5, 6, 7] (⟨L, by rw [show (bF S c) = (120, S, c) by unfold bF; rw [cE]; exact (if_neg (fun h => absurd h.1 (by rw [j7]; decide))).trans (if_neg jT)] <;> exact ⟨rfl, rfl⟩⟩)
 refine SR ?_
 refine gK 4 [(46, vI (c.uid))] [(3, a_ 6 cb)] ?_
 refine gL [] (dW (c.uid) 2147483647) ?_
 rintro _ _ ⟨rfl, rfl⟩
 refine gK 2 [(49, .bool (!(decide (0 ≤ c.uid ∧ c.uid ≤ 2147483647))))] [] ?_
 refine aj.fD 49 (0 ≤ c.uid ∧ c.uid ≤ 2147483647) (fun _ => by kernel_rfl) (fun qv => ?_) (fun qv => ?_)
 ·refine gK 8 [(42, .bool true)] [] ?_
  refine NN ?_
  refine CT ?_
  refine SR ?_
  refine gK 1 [(4, vI 11)] [] ?_
  refine NN (af.ret (ai.aE (ai.aq ?_)))
  exact RT (vI 11) [0, 1, 2, 3, 4, 5, 6, 7] (⟨L, by rw [show (bF S c) = (11, S, c) by unfold bF; rw [cE]; exact (if_neg (fun h => absurd h.1 (by rw [j7]; decide))).trans ((if_pos jT).trans (if_neg (fun h => qv h.1)))] <;> exact ⟨rfl, rfl⟩⟩)
 refine gK 4 [(53, vI (c.gid))] [(3, a_ 6 cb)] ?_
 refine gL [] (dW (c.gid) 2147483647) ?_
 rintro _ _ ⟨rfl, rfl⟩
 refine gK 3 [(42, .bool (!(decide (0 ≤ c.gid ∧ c.gid ≤ 2147483647))))] [] ?_
 refine NN ?_
 refine af.ct (p := 0 ≤ c.gid ∧ c.gid ≤ 2147483647) (fun _ => by kernel_rfl) (fun oq => ?_) (fun oq => ?_)
 ·refine SR ?_
  refine gK 1 [(4, vI 11)] [] ?_
  refine NN (af.ret (ai.aE (ai.aq ?_)))
  exact RT (vI 11) [0, 1, 2, 3, 4, 5, 6, 7] (⟨L, by rw [show (bF S c) = (11, S, c) by unfold bF; rw [cE]; exact (if_neg (fun h => absurd h.1 (by rw [j7]; decide))).trans ((if_pos jT).trans (if_neg (fun h => oq h.2)))] <;> exact ⟨rfl, rfl⟩⟩)
 refine SR ?_
 refine gK 4 [(61, .agg #[vI (c.sec), vI (c.nano)])] [(3, A_ 6 cb 2)] ?_
 refine gL [] (fM c.sec c.nano) ?_
 rintro _ _ ⟨rfl, rfl⟩
 refine gK 2 [(57, .bool (!(decide (cQ c.sec c.nano))))] [] ?_
 refine NN ?_
 refine af.ct (p := cQ c.sec c.nano) (fun _ => by kernel_rfl) (fun ul => ?_) (fun ul => ?_)
 ·refine SR ?_
  refine gK 1 [(4, vI 20)] [] ?_
  refine NN (af.ret (ai.aE (ai.aq ?_)))
  exact RT (vI 20) [0, 1, 2, 3, 4, 5, 6, 7] (⟨L, by rw [show (bF S c) = (20, S, c) by unfold bF; rw [cE]; exact (if_neg (fun h => absurd h.1 (by rw [j7]; decide))).trans ((if_pos jT).trans ((if_pos ⟨qv, oq⟩).trans (if_neg ul)))] <;> exact ⟨rfl, rfl⟩⟩)
 refine af.skip (ai.aQ (NX (af.seq ?_)))
 skip
 refine af.mem (aR := [.blk f [vI (S.X.cN), vI (S.X.cB), vI (S.X.cH), vI (S.X.cS), vI (S.X.cZ), .map (some m), vP t, vI (S.X.last), vI (S.X.ah), vI (S.X.used)] 86, .abs (aI Tryz.prog 3 m (aM (aJ L S.idx)) S.idx.length), .abs (bp 156 t S.X.cH S.au (aJ L S.us)), .abs (ak (iC (aN S.O L) tk bR.none)), .abs (ak (aY S.O L)), .abs (ak (bg S.O L)), .blk cb [vI (c.op), vI (c.handle), vI (c.other), .string c.name, .string c.text, .slice c.dA (c.data.length) (c.dC), vI (c.mode), vI (c.uid), vI (c.gid), vI (c.sec), vI (c.nano), vI (c.code), vI (c.answer)] 43, .abs R, .blk (L.b tk) [vI ((obj S.O tk).id), vI ((obj S.O tk).mode), vI ((obj S.O tk).uid), vI ((obj S.O tk).gid), vI ((obj S.O tk).sec), vI ((obj S.O tk).nano), vI ((obj S.O tk).links), vI ((obj S.O tk).opens), .bool (obj S.O tk).gone, .map (some (L.m tk)), (qh L (obj S.O tk).up)] 99]) (fun w hS => hS.tH (i := 3) (k := tk) rfl (by rw [hkt]; decide) (gF (hkt)) (by rw [hkt]; rfl)) ?_
 refine af.bZ (S := [pC cb c]) [0, 1, 2, 3, 4, 5, 6, 7, 8, 9, 10, 11, 12, 13, 14, 15, 16, 17, 18, 19, 20, 21, 22, 23, 24, 25, 26, 27, 28, 29, 30, 31] 22 [6] (by kernel_rfl) (by kernel_rfl) rfl (by kernel_rfl) ?_
 refine aF.reads (r := 0) (l := [22, 23, 24, 25, 26, 27, 28, 29, 30, 31]) (fr' := (Iz L tk c ++ lu c ++ [(85, .pointer (some ⟨(L.b tk), 1, none⟩))])) (aV := [cb = cb, cb = cb, cb = cb, cb = cb, cb = cb]) [0, 1, 2, 3, 4, 5, 6, 7, 8, 9, 10, 11, 12, 13, 14, 15, 16, 17, 18, 19, 20, 21] [o_, o_, o_, o_, o_, o_, o_, ⟨[.at 0], none, none, none, none⟩, o_, o_, o_, ⟨[.at 0], none, none, none, none⟩, o_, o_, o_, ⟨[.at 0], none, none, none, none⟩, o_, o_, o_, ⟨[.at 0, .at 0], none, none, none, none⟩, o_, o_] [65, 66, 67, 71, 75, 79, 83, 85] (fun _ => by kernel_rfl) ⟨rfl, rfl, rfl, rfl, rfl, trivial⟩ rfl rfl ?_
 refine mC [6] [] [(0, a_ 8 (L.b tk))] [(8, [(1, vI (c.mode))])] ?_
 refine aF.cut (ι := Unit) (fr' := fun (_ : Unit) => (zi L tk c ++ lu c ++ [(86, vP (L.b tk))])) (hp' := fun (_ : Unit) => (jN f m t S L tk cb c R ++ [NE L tk S c])) [6] rfl rfl ?_ rfl (fun _ => by kernel_rfl) ?_
 ·refine gK 1 [(86, vP (L.b tk))] [] ?_
  refine NL ?_
  exact MD () [66, 67, 75, 79, 83, 86] [0, 1, 2, 3, 4, 5, 6, 7, 8]
 rintro _
 refine aF.cut (ι := Unit) (fr' := fun (_ : Unit) => (zi L tk c ++ lu c ++ [(87, .pointer (some ⟨(L.b tk), 2, none⟩))])) (hp' := fun (_ : Unit) => (jN f m t S L tk cb c R ++ [NE L tk S c])) [6] rfl rfl ?_ rfl (fun _ => by kernel_rfl) ?_
 ·refine gK 1 [(87, .pointer (some ⟨(L.b tk), 2, none⟩))] [] ?_
  refine NL ?_
  exact MD () [66, 67, 75, 79, 83, 87] [0, 1, 2, 3, 4, 5, 6, 7, 8]
 rintro _
 refine mC [6] [] [(0, a_ 8 (L.b tk))] [(8, [(2, vI (c.uid))])] ?_
 refine aF.cut (ι := Unit) (fr' := fun (_ : Unit) => ([(67, vP (L.b tk))] ++ lu c ++ [(88, vP (L.b tk))])) (hp' := fun (_ : Unit) => (jN f m t S L tk cb c R ++ [NG L tk S c])) [6] rfl rfl ?_ rfl (fun _ => by kernel_rfl) ?_
 ·refine gK 1 [(88, vP (L.b tk))] [] ?_
  refine NL ?_
  exact MD () [67, 79, 83, 88] [0, 1, 2, 3, 4, 5, 6, 7, 8]
 rintro _
 refine aF.cut (ι := Unit) (fr' := fun (_ : Unit) => ([(67, vP (L.b tk))] ++ lu c ++ [(89, .pointer (some ⟨(L.b tk), 3, none⟩))])) (hp' := fun (_ : Unit) => (jN f m t S L tk cb c R ++ [NG L tk S c])) [6] rfl rfl ?_ rfl (fun _ => by kernel_rfl) ?_
 ·refine gK 1 [(89, .pointer (some ⟨(L.b tk), 3, none⟩))] [] ?_
  refine NL ?_
  exact MD () [67, 79, 83, 89] [0, 1, 2, 3, 4, 5, 6, 7, 8]
 rintro _
 refine mC [6] [] [(0, a_ 8 (L.b tk))] [(8, [(3, vI (c.gid))])] ?_
 refine aF.cut (ι := Unit) (fr' := fun (_ : Unit) => [(83, .agg #[vI (c.sec), vI (c.nano)]), (90, vP (L.b tk))]) (hp' := fun (_ : Unit) => (jN f m t S L tk cb c R ++ [NH L tk S c])) [6] rfl rfl ?_ rfl (fun _ => by kernel_rfl) ?_
 ·refine gK 1 [(90, vP (L.b tk))] [] ?_
  refine NL ?_
  exact MD () [83, 90] [0, 1, 2, 3, 4, 5, 6, 7, 8]
 rintro _
 refine aF.cut (ι := Unit) (fr' := fun (_ : Unit) => (IB c L tk)) (hp' := fun (_ : Unit) => (jN f m t S L tk cb c R ++ [NH L tk S c])) [6] rfl rfl ?_ rfl (fun _ => by kernel_rfl) ?_
 ·refine gK 1 [(91, .pointer (some ⟨(L.b tk), 4, none⟩))] [] ?_
  refine NL ?_
  exact MD () [83, 91] [0, 1, 2, 3, 4, 5, 6, 7, 8]
 rintro _
 refine aF.last rfl rfl ?_
 refine gC 1 [] [(0, A_ 8 (L.b tk) 2)] [(8, [(4, vI (c.sec)), (5, vI (c.nano))])] ?_
 refine NL (ai.np (NX (SR ?_)))
 refine aj.mem (aR := [.abs (ak (aN (ay S.O tk (fun o => { o with mode := c.mode, uid := c.uid, gid := c.gid, sec := c.sec, nano := c.nano })) L)), .blk f [vI (S.X.cN), vI (S.X.cB), vI (S.X.cH), vI (S.X.cS), vI (S.X.cZ), .map (some m), vP t, vI (S.X.last), vI (S.X.ah), vI (S.X.used)] 86, .abs (aI Tryz.prog 3 m (aM (aJ L S.idx)) S.idx.length), .abs (bp 156 t S.X.cH S.au (aJ L S.us)), .abs (ak (aY (ay S.O tk (fun o => { o with mode := c.mode, uid := c.uid, gid := c.gid, sec := c.sec, nano := c.nano })) L)), .abs (ak (bg (ay S.O tk (fun o => { o with mode := c.mode, uid := c.uid, gid := c.gid, sec := c.sec, nano := c.nano })) L)), .blk cb [vI (c.op), vI (c.handle), vI (c.other), .string c.name, .string c.text, .slice c.dA (c.data.length) (c.dC), vI (c.mode), vI (c.uid), vI (c.gid), vI (c.sec), vI (c.nano), vI (c.code), vI (c.answer)] 43, .abs R]) (fun w hS => by have h := hS.uM (O := S.O) (L := L) (i := 3) (j := 8) (idx := [0, 1, 2, 4, 5, 6, 7]) (k := tk) (f := (fun o => { o with mode := c.mode, uid := c.uid, gid := c.gid, sec := c.sec, nano := c.nano })) rfl (fun _ hx => lN hx) rfl (by kernel_rfl) rfl (by show (obj S.O tk).kind ≠ 0; rw [hkt]; decide) ((gF (o := (fun o => { o with mode := c.mode, uid := c.uid, gid := c.gid, sec := c.sec, nano := c.nano }) (obj S.O tk)) (hkt)).trans rfl) (by show kF (obj S.O tk).kind = _; rw [hkt]; rfl); rw [kx (O := S.O) (k := tk) (f := (fun o => { o with mode := c.mode, uid := c.uid, gid := c.gid, sec := c.sec, nano := c.nano })) rfl rfl, kz (O := S.O) (k := tk) (f := (fun o => { o with mode := c.mode, uid := c.uid, gid := c.gid, sec := c.sec, nano := c.nano })) rfl rfl]; exact h) ?_
 have y8 : (obj (ay S.O tk (fun o => { o with mode := c.mode, uid := c.uid, gid := c.gid, sec := c.sec, nano := c.nano })) tk).kind = 2 := (ij (f := (fun o => { o with mode := c.mode, uid := c.uid, gid := c.gid, sec := c.sec, nano := c.nano })) (fun _ => rfl)).trans (hkt)
 generalize bP : (ay S.O tk (fun o => { o with mode := c.mode, uid := c.uid, gid := c.gid, sec := c.sec, nano := c.nano })) = bK at y8 ⊢
 refine gK 1 [(4, vI 0)] [] ?_
 refine NN (af.ret ?_)
 exact RT (l := [pF f m t S.X, pI m L S.idx, jF t S L, pO bK L, pD bK L, pE bK L, pC cb c]) (.int .i64 0) [1, 2, 3, 0, 4, 5, 6, 7] (⟨L, by subst bP; rw [show (bF S c) = (0, { S with O := ay S.O tk (fun o => { o with mode := c.mode, uid := c.uid, gid := c.gid, sec := c.sec, nano := c.nano }) }, c) by unfold bF; rw [cE]; exact (if_neg (fun h => absurd h.1 (by rw [j7]; decide))).trans ((if_pos jT).trans ((if_pos ⟨qv, oq⟩).trans (if_pos ul)))] <;> exact ⟨rfl, rfl⟩⟩)
theorem Cr {β : Bs} (S : aG) (L : HL) (f m t : Nat) (hI : Inv S) (cb : Nat) (c : aU) (hC : fB β c) :
    Spec Tryz.prog β 82 #[vP f, vP cb] ((pA f m t L S) ++ [pC cb c]) (fun v l => ∃ L2, v = vI (cW S c).1 ∧ l = ((pA f m t L2 ((cW S c).2.1)) ++ [.blk cb (fT ((cW S c).2.2)) 43])) := by
 have hX := hI.hX
 refine Spec.enter Tryz.func82 rfl Tryz.ntmps82 (Nat.le_of_ble_eq_true rfl) (fun R => ?_)
 refine SR ?_
 refine gK 1 [] [] ?_
 refine NN (af.seq ?_)
 refine af.bG (by kernel_rfl) (by kernel_rfl) ?_
 refine gQ 9 [(10, vP f), (14, vI (c.handle)), (18, .string c.name)] [(4, a_ 6 cb), (8, a_ 6 cb)] ?_
 rcases jd hI.toInv0 c.handle c.name 192 with ⟨e, hab, hne⟩ | ⟨d, hab, hd, fY, hgn, cE⟩
 ·refine aT.call (f := 134) (args := #[vP f, vI (c.handle), .string c.name, vI 192]) (d := (some 19)) (pre := [pF f m t S.X, jF t S L, pO S.O L]) (R := (lU m L S cb c R)) (pk := [0, 2, 3, 1, 4, 5, 6, 7]) (gy := [0, 3, 1, 2, 4, 5, 6, 7]) (v0 := .tuple #[.pointer none, vI (e)]) (fun _ => by kernel_rfl) ((by have h := cX S L f m t hI c.handle hC.hw c.name hC.nm 192 (β := β); rw [hab] at h; exact h)) rfl (by kernel_rfl) rfl (by kernel_rfl) (fun _ _ h => h) ?_
  refine gQ 5 [(5, .pointer none), (6, vI (e))] [] ?_
  refine NQ (NX (af.seq (SR ?_)))
  refine gK 2 [(23, .bool (!(decide ((e : Int) = (0 : Int)))))] [] ?_
  refine NN ?_
  refine af.ct (p := (e : Int) = (0 : Int)) (fun _ => by kernel_rfl) (fun h23 => ?_) (fun h23 => ?_)
  ·refine SR ?_
   refine gK 2 [(4, vI (e))] [] ?_
   refine NN (af.ret (ai.aq ?_))
   exact RT (vI (e)) [0, 1, 2, 3, 4, 5, 6, 7] (⟨L, by rw [show (cW S c) = (e, S, c) by unfold cW; rw [hab]] <;> exact ⟨rfl, rfl⟩⟩)
  exact absurd h23 hne
 have hkd : (obj S.O d).kind = 2 := hI.kind hd
 refine aT.call (f := 134) (args := #[vP f, vI (c.handle), .string c.name, vI 192]) (d := (some 19)) (pre := [pF f m t S.X, jF t S L, pO S.O L]) (R := (lU m L S cb c R)) (pk := [0, 2, 3, 1, 4, 5, 6, 7]) (gy := [0, 3, 1, 2, 4, 5, 6, 7]) (v0 := .tuple #[vP (L.b d), vI 0]) (fun _ => by kernel_rfl) ((by have h := cX S L f m t hI c.handle hC.hw c.name hC.nm 192 (β := β); rw [hab] at h; exact h)) rfl (by kernel_rfl) rfl (by kernel_rfl) (fun _ _ h => h) ?_
 refine gQ 5 (Cl L d) [] ?_
 refine NQ (NX (af.seq (SR ?_)))
 refine gK 2 [(23, .bool false)] [] ?_
 refine NN ?_
 refine CF ?_
 refine af.skip (NX (af.seq (SR ?_)))
 refine gK 4 [(28, vI (c.mode))] [(3, a_ 6 cb)] ?_
 refine gL [] (dW (c.mode) 4095) ?_
 rintro _ _ ⟨rfl, rfl⟩
 refine gK 1 [(30, .bool (!(decide (0 ≤ c.mode ∧ c.mode ≤ 4095))))] [] ?_
 refine NN ?_
 refine af.ct (p := 0 ≤ c.mode ∧ c.mode ≤ 4095) (fun _ => by kernel_rfl) (fun j7 => ?_) (fun j7 => ?_)
 ·refine SR ?_
  refine gK 1 [(4, vI 120)] [] ?_
  refine NN (af.ret (ai.aq ?_))
  exact RT (vI 120) [0, 1, 2, 3, 4, 5, 6, 7] (⟨L, by rw [show (cW S c) = (120, S, c) by unfold cW; rw [hab]; exact if_neg j7] <;> exact ⟨rfl, rfl⟩⟩)
 refine af.skip (NX (af.seq (SR ?_)))
 refine gK 6 [(31, vP f), (32, vP (L.b d)), (36, .string c.name)] [(5, a_ 6 cb)] ?_
 refine gL [0, 1, 5, 3] (qq S L f m t hI d hd c.name hC.nm) ?_
 rintro _ _ ⟨rfl, rfl⟩
 refine gK 1 [(6, vI ((bO S.X S.O S.idx d c.name)))] [] ?_
 refine NS ?_
 refine gK 2 [(39, .bool (!(decide (((bO S.X S.O S.idx d c.name) : Int) = (0 : Int)))))] [] ?_
 refine NN ?_
 refine af.ct (p := ((bO S.X S.O S.idx d c.name) : Int) = (0 : Int)) (fun _ => by kernel_rfl) (fun h0 => ?_) (fun h0 => ?_)
 ·refine SR ?_
  refine gK 2 [(4, vI ((bO S.X S.O S.idx d c.name)))] [] ?_
  refine NN (af.ret (ai.aq ?_))
  exact RT (vI ((bO S.X S.O S.idx d c.name))) [0, 1, 4, 3, 5, 2, 6, 7] (⟨L, by rw [show (cW S c) = (bO S.X S.O S.idx d c.name, S, c) by unfold cW; rw [hab]; exact (if_pos j7).trans (if_neg h0)] <;> exact ⟨rfl, rfl⟩⟩)
 have hno := lS h0
 refine af.skip (NX (SR ?_))
 refine gN 8 (fun b4 => [(7, vP b4)]) (fun b4 => [(3, a_ 6 cb)]) (fun _ => []) (fun b4 => .blk b4 [vI 0, vI (c.mode), vI 0, vI 0, vI 0, vI 0, vI 0, vI 0, .bool false, .slice none (0) (0)] 92) (fun b4 => ?_)
 refine NN (af.seq (af.seq ?_))
 rcases Int.lt_or_le (S.us.length : Int) S.X.cH with qt | qt
 ·refine af.region ?_
  refine gK 4 (LM cb f b4) [] ?_
  obtain ⟨L2, hL2⟩ : ∃ L2 : HL, L2 = L.put (aD S.X) b4 0 none 0 := ⟨_, rfl⟩
  have hfr := hI.toInv0.fresh
  refine aj.mem (aR := [.abs (ak (aN (ay S.O (aD S.X) (fun _ => (⟨0, c.mode, 0, 0, 0, 0, 0, 0, false, 1, [], ⟨#[]⟩, [], none⟩ : aP))) L2)), .blk f [vI (S.X.cN), vI (S.X.cB), vI (S.X.cH), vI (S.X.cS), vI (S.X.cZ), .map (some m), vP t, vI (S.X.last), vI (S.X.ah), vI (S.X.used)] 86, .abs (aI Tryz.prog 3 m (aM (aJ L S.idx)) S.idx.length), .abs (ak (bg S.O L)), .abs (bp 156 t S.X.cH S.au (aJ L S.us)), .abs (ak (aY S.O L)), .blk cb [vI (c.op), vI (c.handle), vI (c.other), .string c.name, .string c.text, .slice c.dA (c.data.length) (c.dC), vI (c.mode), vI (c.uid), vI (c.gid), vI (c.sec), vI (c.nano), vI (c.code), vI (c.answer)] 43, .abs R]) (fun w hS => hS.qm hL2 hfr (o := (⟨0, c.mode, 0, 0, 0, 0, 0, 0, false, 1, [], ⟨#[]⟩, [], none⟩ : aP)) (i := 3) (j := 8) (ix := [0, 1, 2, 4, 5, 6, 7]) rfl rfl (by kernel_rfl) rfl (by show (1 : Int) ≠ 0; decide) ((eu (L := L2) (k := (aD S.X)) (o := (⟨0, c.mode, 0, 0, 0, 0, 0, 0, false, 1, [], ⟨#[]⟩, [], none⟩ : aP)) rfl).trans (by rw [show L2.dA (aD S.X) = none by rw [hL2]; exact if_pos rfl, show L2.dC (aD S.X) = 0 by rw [hL2]; exact if_pos rfl]; rfl)) rfl) ?_
  refine aj.mem (aR := (zj S c L2 f m t L ++ [pD S.O L, pC cb c, .abs R])) (fun w hS => hS.rf hL2 hfr (o := (⟨0, c.mode, 0, 0, 0, 0, 0, 0, false, 1, [], ⟨#[]⟩, [], none⟩ : aP)) (i := 3) rfl (by show (1 : Int) ≠ 2; decide)) ?_
  refine aj.mem (aR := (zj S c L2 f m t L ++ [pD S.O L, pC cb c, .abs R, .abs (aH 5 1 none 0 0 ([]))])) (fun w hS => hS.jD (e := 5) (size := 1)) ?_
  refine aj.mem (aR := ([LK S c L2] ++ zj S c L2 f m t L ++ [pC cb c, .abs R])) (fun w hS => hS.Ed hL2 (o := (⟨0, c.mode, 0, 0, 0, 0, 0, 0, false, 1, [], ⟨#[]⟩, [], none⟩ : aP)) (i := 5) (j := 8) (ix := [0, 1, 2, 3, 4, 6, 7]) rfl rfl (by kernel_rfl) rfl rfl rfl) ?_
  refine aj.mem (aR := [.abs (ak (aY (ay S.O (aD S.X) (fun _ => (⟨0, c.mode, 0, 0, 0, 0, 0, 0, false, 1, [], ⟨#[]⟩, [], none⟩ : aP))) L2)), .abs (ak (aN (ay S.O (aD S.X) (fun _ => (⟨0, c.mode, 0, 0, 0, 0, 0, 0, false, 1, [], ⟨#[]⟩, [], none⟩ : aP))) L2)), .blk f [vI (S.X.cN), vI (S.X.cB), vI (S.X.cH), vI (S.X.cS), vI (S.X.cZ), .map (some m), vP t, vI (S.X.last), vI (S.X.ah), vI (S.X.used)] 86, .abs (aI Tryz.prog 3 m (aM (aJ L2 S.idx)) S.idx.length), .abs (ak (bg (ay S.O (aD S.X) (fun _ => (⟨0, c.mode, 0, 0, 0, 0, 0, 0, false, 1, [], ⟨#[]⟩, [], none⟩ : aP))) L2)), .abs (bp 156 t S.X.cH S.au (aJ L2 S.us)), .blk cb [vI (c.op), vI (c.handle), vI (c.other), .string c.name, .string c.text, .slice c.dA (c.data.length) (c.dC), vI (c.mode), vI (c.uid), vI (c.gid), vI (c.sec), vI (c.nano), vI (c.code), vI (c.answer)] 43, .abs R]) (fun w hS => by rw [eW hL2 hfr.idx, eW hL2 hfr.us]; exact hS) ?_
  refine gL (f := 132) (args := #[vP f, .iface 89 (vP b4)]) (pre := [pF f m t S.X, jF t S L2, LJ S c L2]) [2, 5, 1] ((by have h := pK (β := β) { S with O := (ay S.O (aD S.X) (fun _ => (⟨0, c.mode, 0, 0, 0, 0, 0, 0, false, 1, [], ⟨#[]⟩, [], none⟩ : aP))) } L2 f m t ⟨(aD S.X), 1⟩ (by show (obj (ay S.O (aD S.X) (fun _ => (⟨0, c.mode, 0, 0, 0, 0, 0, 0, false, 1, [], ⟨#[]⟩, [], none⟩ : aP))) (aD S.X)).kind = 1; rw [bH]) (by simp) (by show 0 ≤ (obj (ay S.O (aD S.X) (fun _ => (⟨0, c.mode, 0, 0, 0, 0, 0, 0, false, 1, [], ⟨#[]⟩, [], none⟩ : aP))) (aD S.X)).opens ∧ (obj (ay S.O (aD S.X) (fun _ => (⟨0, c.mode, 0, 0, 0, 0, 0, 0, false, 1, [], ⟨#[]⟩, [], none⟩ : aP))) (aD S.X)).opens ≤ 1048576; rw [bH]; exact ⟨Int.le_refl _, by show (0 : Int) ≤ 1048576; decide⟩); rw [lQ hL2, gX (S := { S with O := (ay S.O (aD S.X) (fun _ => (⟨0, c.mode, 0, 0, 0, 0, 0, 0, false, 1, [], ⟨#[]⟩, [], none⟩ : aP))) }) (t := ⟨(aD S.X), 1⟩) qt] at h; exact h)) ?_
  rintro _ _ ⟨rfl, rfl⟩
  refine gC 7 [(6, vI 0)] [(5, a_ 6 cb)] [(6, [(12, vI ((TabM.least S.us)))])] ?_
  refine NS ?_
  refine gK 2 [(59, .bool false)] [] ?_
  refine NN ?_
  refine CF ?_
  refine af.skip (NX (SR ?_))
  refine aj.slot 7 (vP b4) (vP (L2.b (aD S.X))) (fun _ => by kernel_rfl) (by rw [xk hL2]) ?_
  refine aj.mem (aR := [.blk f [vI (S.X.cN), vI (S.X.cB), vI (S.X.cH), vI (S.X.cS), vI (S.X.cZ), .map (some m), vP t, vI (S.X.last), vI (S.X.ah), vI (S.X.used)] 86, .abs (bp 156 t S.X.cH (max S.au ((S.us.length : Int) + 1)) (aJ L2 (ins (TabM.least S.us) ⟨(aD S.X), 1⟩ S.us))), .abs (ak (aN (ay (ay S.O (aD S.X) (fun _ => (⟨0, c.mode, 0, 0, 0, 0, 0, 0, false, 1, [], ⟨#[]⟩, [], none⟩ : aP))) (aD S.X) (fun o => { o with opens := o.opens + 1 })) L2)), .abs (ak (aY (ay (ay S.O (aD S.X) (fun _ => (⟨0, c.mode, 0, 0, 0, 0, 0, 0, false, 1, [], ⟨#[]⟩, [], none⟩ : aP))) (aD S.X) (fun o => { o with opens := o.opens + 1 })) L2)), .abs (aI Tryz.prog 3 m (aM (aJ L2 S.idx)) S.idx.length), .abs (ak (bg (ay (ay S.O (aD S.X) (fun _ => (⟨0, c.mode, 0, 0, 0, 0, 0, 0, false, 1, [], ⟨#[]⟩, [], none⟩ : aP))) (aD S.X) (fun o => { o with opens := o.opens + 1 })) L2)), .blk cb [vI (c.op), vI (c.handle), vI (c.other), .string c.name, .string c.text, .slice c.dA (c.data.length) (c.dC), vI (c.mode), vI (c.uid), vI (c.gid), vI (c.sec), vI (c.nano), vI (c.code), vI ((TabM.least S.us))] 43, .abs R]) (fun w hS => by rw [kx (O := (ay S.O (aD S.X) (fun _ => (⟨0, c.mode, 0, 0, 0, 0, 0, 0, false, 1, [], ⟨#[]⟩, [], none⟩ : aP)))) (k := (aD S.X)) (f := (fun o => { o with opens := o.opens + 1 })) rfl rfl, kz (O := (ay S.O (aD S.X) (fun _ => (⟨0, c.mode, 0, 0, 0, 0, 0, 0, false, 1, [], ⟨#[]⟩, [], none⟩ : aP)))) (k := (aD S.X)) (f := (fun o => { o with opens := o.opens + 1 })) rfl rfl]; exact hS) ?_
  have hkN : (obj (ay (ay S.O (aD S.X) (fun _ => (⟨0, c.mode, 0, 0, 0, 0, 0, 0, false, 1, [], ⟨#[]⟩, [], none⟩ : aP))) (aD S.X) (fun o => { o with opens := o.opens + 1 })) (aD S.X)).kind = 1 := by rw [bH, bH]
  have NI : (obj (ay (ay S.O (aD S.X) (fun _ => (⟨0, c.mode, 0, 0, 0, 0, 0, 0, false, 1, [], ⟨#[]⟩, [], none⟩ : aP))) (aD S.X) (fun o => { o with opens := o.opens + 1 })) (aD S.X)).opens = 1 := by rw [bH, bH]; rfl
  generalize bP : (ay (ay S.O (aD S.X) (fun _ => (⟨0, c.mode, 0, 0, 0, 0, 0, 0, false, 1, [], ⟨#[]⟩, [], none⟩ : aP))) (aD S.X) (fun o => { o with opens := o.opens + 1 })) = bK at hkN NI ⊢
  refine gK 6 [(8, vI ((obj bK (aD S.X)).opens))] [(4, v_ 2 (iH L2 hkN))] ?_
  refine NS ?_
  refine gK 6 [(66, vP (L2.b (aD S.X))), (67, vP f), (71, vI (c.mode))] [(5, a_ 6 cb)] ?_
  refine gL [0] (qp S.X f m t hX c.mode) ?_
  rintro _ _ ⟨rfl, rfl⟩
  refine gK 2 [(74, vP (L2.b (aD S.X)))] [] ?_
  refine aj.mem (aR := [.blk f [vI (S.X.cN), vI (S.X.cB), vI (S.X.cH), vI (S.X.cS), vI (S.X.cZ), .map (some m), vP t, vI (S.X.last + 1), vI (S.X.ah), vI (S.X.used)] 86, .abs (bp 156 t S.X.cH (max S.au ((S.us.length : Int) + 1)) (aJ L2 (ins (TabM.least S.us) ⟨(aD S.X), 1⟩ S.us))), .abs (ak (iC (aN bK L2) (aD S.X) bR.none)), .abs (ak (aY bK L2)), .abs (aI Tryz.prog 3 m (aM (aJ L2 S.idx)) S.idx.length), .abs (ak (bg bK L2)), .blk cb [vI (c.op), vI (c.handle), vI (c.other), .string c.name, .string c.text, .slice c.dA (c.data.length) (c.dC), vI (c.mode), vI (c.uid), vI (c.gid), vI (c.sec), vI (c.nano), vI (c.code), vI ((TabM.least S.us))] 43, .abs R, .blk (L2.b (aD S.X)) [vI ((obj bK (aD S.X)).id), vI ((obj bK (aD S.X)).mode), vI ((obj bK (aD S.X)).uid), vI ((obj bK (aD S.X)).gid), vI ((obj bK (aD S.X)).sec), vI ((obj bK (aD S.X)).nano), vI ((obj bK (aD S.X)).links), vI ((obj bK (aD S.X)).opens), .bool (obj bK (aD S.X)).gone, .slice (L2.dA (aD S.X)) ((obj bK (aD S.X)).data.length) ((L2.dC (aD S.X)))] 92]) (fun w hS => hS.tH (i := 2) (k := (aD S.X)) rfl (by rw [hkN]; decide) (eu (hkN)) (by rw [hkN]; rfl)) ?_
  refine gC 1 [] [(0, A_ 8 (L2.b (aD S.X)) 9)] [(8, [(0, vI (S.X.last + 1)), (1, vI (c.mode)), (2, vI 0), (3, vI 0), (4, vI (S.X.cS)), (5, vI (S.X.cZ)), (6, vI 0), (7, vI 0), (8, .bool false)])] ?_
  refine aj.mem (aR := [.abs (ak (aN (ay bK (aD S.X) (fun o => { o with id := S.X.last + 1, mode := c.mode, uid := 0, gid := 0, sec := S.X.cS, nano := S.X.cZ, links := 0, opens := 0, gone := false })) L2)), .blk f [vI (S.X.cN), vI (S.X.cB), vI (S.X.cH), vI (S.X.cS), vI (S.X.cZ), .map (some m), vP t, vI (S.X.last + 1), vI (S.X.ah), vI (S.X.used)] 86, .abs (bp 156 t S.X.cH (max S.au ((S.us.length : Int) + 1)) (aJ L2 (ins (TabM.least S.us) ⟨(aD S.X), 1⟩ S.us))), .abs (ak (aY (ay bK (aD S.X) (fun o => { o with id := S.X.last + 1, mode := c.mode, uid := 0, gid := 0, sec := S.X.cS, nano := S.X.cZ, links := 0, opens := 0, gone := false })) L2)), .abs (aI Tryz.prog 3 m (aM (aJ L2 S.idx)) S.idx.length), .abs (ak (bg (ay bK (aD S.X) (fun o => { o with id := S.X.last + 1, mode := c.mode, uid := 0, gid := 0, sec := S.X.cS, nano := S.X.cZ, links := 0, opens := 0, gone := false })) L2)), .blk cb [vI (c.op), vI (c.handle), vI (c.other), .string c.name, .string c.text, .slice c.dA (c.data.length) (c.dC), vI (c.mode), vI (c.uid), vI (c.gid), vI (c.sec), vI (c.nano), vI (c.code), vI ((TabM.least S.us))] 43, .abs R]) (fun w hS => by have h := hS.uM (O := bK) (L := L2) (i := 2) (j := 8) (idx := [0, 1, 3, 4, 5, 6, 7]) (k := (aD S.X)) (f := (fun o => { o with id := S.X.last + 1, mode := c.mode, uid := 0, gid := 0, sec := S.X.cS, nano := S.X.cZ, links := 0, opens := 0, gone := false })) rfl (fun _ hx => lN hx) rfl (by kernel_rfl) rfl (by show (obj bK (aD S.X)).kind ≠ 0; rw [hkN]; decide) ((eu (o := (fun o => { o with id := S.X.last + 1, mode := c.mode, uid := 0, gid := 0, sec := S.X.cS, nano := S.X.cZ, links := 0, opens := 0, gone := false }) (obj bK (aD S.X))) (hkN)).trans rfl) (by show kF (obj bK (aD S.X)).kind = _; rw [hkN]; rfl); rw [kx (O := bK) (k := (aD S.X)) (f := (fun o => { o with id := S.X.last + 1, mode := c.mode, uid := 0, gid := 0, sec := S.X.cS, nano := S.X.cZ, links := 0, opens := 0, gone := false })) rfl rfl, kz (O := bK) (k := (aD S.X)) (f := (fun o => { o with id := S.X.last + 1, mode := c.mode, uid := 0, gid := 0, sec := S.X.cS, nano := S.X.cZ, links := 0, opens := 0, gone := false })) rfl rfl]; exact h) ?_
  have tZ : (obj (ay bK (aD S.X) (fun o => { o with id := S.X.last + 1, mode := c.mode, uid := 0, gid := 0, sec := S.X.cS, nano := S.X.cZ, links := 0, opens := 0, gone := false })) (aD S.X)).kind = 1 := (ij (f := (fun o => { o with id := S.X.last + 1, mode := c.mode, uid := 0, gid := 0, sec := S.X.cS, nano := S.X.cZ, links := 0, opens := 0, gone := false })) (fun _ => rfl)).trans (hkN)
  generalize cu : (ay bK (aD S.X) (fun o => { o with id := S.X.last + 1, mode := c.mode, uid := 0, gid := 0, sec := S.X.cS, nano := S.X.cZ, links := 0, opens := 0, gone := false })) = cV at tZ ⊢
  refine NS ?_
  refine gK 5 [(76, vI ((obj bK (aD S.X)).opens)), (79, .pointer (some ⟨(L2.b (aD S.X)), 7, none⟩))] [] ?_
  refine pH 0 [(5, 1), (3, 2)] (aD S.X) 7 (fun o => { o with opens := (obj bK (aD S.X)).opens }) tZ (fun rA jL => ?_)
  have Im := ku jL tZ
  refine NS ?_
  have hfin : rA = ay S.O (aD S.X) (fun _ => { aC S.X 1 c.mode with opens := 1 }) := by subst jL; subst cu; rw [NI]; subst bP; simp only [qg]; rfl
  subst hfin
  show aj _ _ _ _ _ _ [pO (ay S.O (aD S.X) (fun _ => { aC S.X 1 c.mode with opens := 1 })) L2, xT f m t S, pT t S.X.cH (max S.au ((S.us.length : Int) + 1)) L2 (ins (TabM.least S.us) ⟨(aD S.X), 1⟩ S.us), pD (ay S.O (aD S.X) (fun _ => { aC S.X 1 c.mode with opens := 1 })) L2, pI m L2 S.idx, pE (ay S.O (aD S.X) (fun _ => { aC S.X 1 c.mode with opens := 1 })) L2, pC cb { c with answer := TabM.least S.us }, .abs R] _
  refine gK 8 [(80, vP f), (81, vP (L.b d)), (85, .string c.name), (87, .iface 89 (vP (L2.b (aD S.X))))] [(5, a_ 6 cb)] ?_
  refine gL (f := 56) (args := #[vP f, vP (L.b d), .string c.name, .iface 89 (vP (L2.b (aD S.X)))]) (pre := [xT f m t S, pI m L2 S.idx, pO (ay S.O (aD S.X) (fun _ => { aC S.X 1 c.mode with opens := 1 })) L2, pE (ay S.O (aD S.X) (fun _ => { aC S.X 1 c.mode with opens := 1 })) L2]) [1, 4, 0, 5] ((by have h := oL (β := β) S L2 f m t hI.toInv0 d hd c.name hC.nm hno { aC S.X 1 c.mode with opens := 1 } rfl (by simp [aC]) rfl (nC h0); rw [rZ hL2 (hI.q8 hd)] at h; exact h)) ?_
  rintro _ _ ⟨rfl, rfl⟩
  refine NS ?_
  refine aj.mem (aR := [.blk f [vI ((bE S d c.name { aC S.X 1 c.mode with opens := 1 }).X.cN), vI ((bE S d c.name { aC S.X 1 c.mode with opens := 1 }).X.cB), vI ((bE S d c.name { aC S.X 1 c.mode with opens := 1 }).X.cH), vI ((bE S d c.name { aC S.X 1 c.mode with opens := 1 }).X.cS), vI ((bE S d c.name { aC S.X 1 c.mode with opens := 1 }).X.cZ), .map (some m), vP t, vI ((bE S d c.name { aC S.X 1 c.mode with opens := 1 }).X.last), vI ((bE S d c.name { aC S.X 1 c.mode with opens := 1 }).X.ah), vI ((bE S d c.name { aC S.X 1 c.mode with opens := 1 }).X.used)] 86, .abs (aI Tryz.prog 3 m (aM (aJ L2 (bE S d c.name { aC S.X 1 c.mode with opens := 1 }).idx)) ((bE S d c.name { aC S.X 1 c.mode with opens := 1 }).idx.length)), .abs (ak (aN ((bE S d c.name { aC S.X 1 c.mode with opens := 1 }).O) L2)), .abs (ak (bg ((bE S d c.name { aC S.X 1 c.mode with opens := 1 }).O) L2)), .abs (bp 156 t S.X.cH (max S.au ((S.us.length : Int) + 1)) (aJ L2 (ins (TabM.least S.us) ⟨(aD S.X), 1⟩ S.us))), .abs (ak (aY ((bE S d c.name { aC S.X 1 c.mode with opens := 1 }).O) L2)), .blk cb [vI (c.op), vI (c.handle), vI (c.other), .string c.name, .string c.text, .slice c.dA (c.data.length) (c.dC), vI (c.mode), vI (c.uid), vI (c.gid), vI (c.sec), vI (c.nano), vI (c.code), vI ((TabM.least S.us))] 43, .abs R]) (fun w hS => by rw [show aY ((bE S d c.name { aC S.X 1 c.mode with opens := 1 }).O) L2 = aY (ay S.O (aD S.X) (fun _ => { aC S.X 1 c.mode with opens := 1 })) L2 from fA]; exact hS) ?_
  refine gK 1 [(4, vI 0)] [] ?_
  refine NN (af.ret ?_)
  exact RT (vI 0) [0, 1, 4, 2, 5, 3, 6, 7] (⟨L2, by rw [show (cW S c) = (0, (bE { S with us := (ins (TabM.least S.us) ⟨(aD S.X), 1⟩ S.us), au := (max S.au ((S.us.length : Int) + 1)) } d c.name { aC S.X 1 c.mode with opens := 1 }), { c with answer := TabM.least S.us }) by unfold cW; rw [hab]; exact (if_pos j7).trans ((if_pos h0).trans (by rw [show createM S d c.name c.mode = (TabM.least S.us, 0, (bE { S with us := (ins (TabM.least S.us) ⟨(aD S.X), 1⟩ S.us), au := (max S.au ((S.us.length : Int) + 1)) } d c.name { aC S.X 1 c.mode with opens := 1 })) from (if_pos h0).trans (if_pos qt)]))] <;> exact ⟨rfl, rfl⟩⟩)
 refine af.region ?_
 refine gK 4 (LM cb f b4) [] ?_
 obtain ⟨L2, hL2⟩ : ∃ L2 : HL, L2 = L.put (aD S.X) b4 0 none 0 := ⟨_, rfl⟩
 have hfr := hI.toInv0.fresh
 refine aj.mem (aR := [.abs (ak (aN (ay S.O (aD S.X) (fun _ => (⟨0, c.mode, 0, 0, 0, 0, 0, 0, false, 1, [], ⟨#[]⟩, [], none⟩ : aP))) L2)), .blk f [vI (S.X.cN), vI (S.X.cB), vI (S.X.cH), vI (S.X.cS), vI (S.X.cZ), .map (some m), vP t, vI (S.X.last), vI (S.X.ah), vI (S.X.used)] 86, .abs (aI Tryz.prog 3 m (aM (aJ L S.idx)) S.idx.length), .abs (ak (bg S.O L)), .abs (bp 156 t S.X.cH S.au (aJ L S.us)), .abs (ak (aY S.O L)), .blk cb [vI (c.op), vI (c.handle), vI (c.other), .string c.name, .string c.text, .slice c.dA (c.data.length) (c.dC), vI (c.mode), vI (c.uid), vI (c.gid), vI (c.sec), vI (c.nano), vI (c.code), vI (c.answer)] 43, .abs R]) (fun w hS => hS.qm hL2 hfr (o := (⟨0, c.mode, 0, 0, 0, 0, 0, 0, false, 1, [], ⟨#[]⟩, [], none⟩ : aP)) (i := 3) (j := 8) (ix := [0, 1, 2, 4, 5, 6, 7]) rfl rfl (by kernel_rfl) rfl (by show (1 : Int) ≠ 0; decide) ((eu (L := L2) (k := (aD S.X)) (o := (⟨0, c.mode, 0, 0, 0, 0, 0, 0, false, 1, [], ⟨#[]⟩, [], none⟩ : aP)) rfl).trans (by rw [show L2.dA (aD S.X) = none by rw [hL2]; exact if_pos rfl, show L2.dC (aD S.X) = 0 by rw [hL2]; exact if_pos rfl]; rfl)) rfl) ?_
 refine aj.mem (aR := (zj S c L2 f m t L ++ [pD S.O L, pC cb c, .abs R])) (fun w hS => hS.rf hL2 hfr (o := (⟨0, c.mode, 0, 0, 0, 0, 0, 0, false, 1, [], ⟨#[]⟩, [], none⟩ : aP)) (i := 3) rfl (by show (1 : Int) ≠ 2; decide)) ?_
 refine aj.mem (aR := (zj S c L2 f m t L ++ [pD S.O L, pC cb c, .abs R, .abs (aH 5 1 none 0 0 ([]))])) (fun w hS => hS.jD (e := 5) (size := 1)) ?_
 refine aj.mem (aR := ([LK S c L2] ++ zj S c L2 f m t L ++ [pC cb c, .abs R])) (fun w hS => hS.Ed hL2 (o := (⟨0, c.mode, 0, 0, 0, 0, 0, 0, false, 1, [], ⟨#[]⟩, [], none⟩ : aP)) (i := 5) (j := 8) (ix := [0, 1, 2, 3, 4, 6, 7]) rfl rfl (by kernel_rfl) rfl rfl rfl) ?_
 refine aj.mem (aR := [.abs (ak (aY (ay S.O (aD S.X) (fun _ => (⟨0, c.mode, 0, 0, 0, 0, 0, 0, false, 1, [], ⟨#[]⟩, [], none⟩ : aP))) L2)), .abs (ak (aN (ay S.O (aD S.X) (fun _ => (⟨0, c.mode, 0, 0, 0, 0, 0, 0, false, 1, [], ⟨#[]⟩, [], none⟩ : aP))) L2)), .blk f [vI (S.X.cN), vI (S.X.cB), vI (S.X.cH), vI (S.X.cS), vI (S.X.cZ), .map (some m), vP t, vI (S.X.last), vI (S.X.ah), vI (S.X.used)] 86, .abs (aI Tryz.prog 3 m (aM (aJ L2 S.idx)) S.idx.length), .abs (ak (bg (ay S.O (aD S.X) (fun _ => (⟨0, c.mode, 0, 0, 0, 0, 0, 0, false, 1, [], ⟨#[]⟩, [], none⟩ : aP))) L2)), .abs (bp 156 t S.X.cH S.au (aJ L2 S.us)), .blk cb [vI (c.op), vI (c.handle), vI (c.other), .string c.name, .string c.text, .slice c.dA (c.data.length) (c.dC), vI (c.mode), vI (c.uid), vI (c.gid), vI (c.sec), vI (c.nano), vI (c.code), vI (c.answer)] 43, .abs R]) (fun w hS => by rw [eW hL2 hfr.idx, eW hL2 hfr.us]; exact hS) ?_
 refine gL (f := 132) (args := #[vP f, .iface 89 (vP b4)]) (pre := [pF f m t S.X, jF t S L2, LJ S c L2]) [2, 5, 1] ((by have h := pK (β := β) { S with O := (ay S.O (aD S.X) (fun _ => (⟨0, c.mode, 0, 0, 0, 0, 0, 0, false, 1, [], ⟨#[]⟩, [], none⟩ : aP))) } L2 f m t ⟨(aD S.X), 1⟩ (by show (obj (ay S.O (aD S.X) (fun _ => (⟨0, c.mode, 0, 0, 0, 0, 0, 0, false, 1, [], ⟨#[]⟩, [], none⟩ : aP))) (aD S.X)).kind = 1; rw [bH]) (by simp) (by show 0 ≤ (obj (ay S.O (aD S.X) (fun _ => (⟨0, c.mode, 0, 0, 0, 0, 0, 0, false, 1, [], ⟨#[]⟩, [], none⟩ : aP))) (aD S.X)).opens ∧ (obj (ay S.O (aD S.X) (fun _ => (⟨0, c.mode, 0, 0, 0, 0, 0, 0, false, 1, [], ⟨#[]⟩, [], none⟩ : aP))) (aD S.X)).opens ≤ 1048576; rw [bH]; exact ⟨Int.le_refl _, by show (0 : Int) ≤ 1048576; decide⟩); rw [lQ hL2, jj (S := { S with O := (ay S.O (aD S.X) (fun _ => (⟨0, c.mode, 0, 0, 0, 0, 0, 0, false, 1, [], ⟨#[]⟩, [], none⟩ : aP))) }) (t := ⟨(aD S.X), 1⟩) (by show ¬ (S.us.length : Int) < S.X.cH; omega)] at h; exact h)) ?_
 rintro _ _ ⟨rfl, rfl⟩
 refine gC 7 [(6, vI 130)] [(5, a_ 6 cb)] [(6, [(12, vI 0)])] ?_
 refine NS ?_
 refine gK 2 [(59, .bool true)] [] ?_
 refine NN ?_
 refine CT ?_
 refine SR ?_
 have hk0 : (obj S.O (aD S.X)).kind = 0 := hI.oK _ (by have := mV hI.toInv0; omega)
 refine aj.mem (aR := [.blk f [vI (S.X.cN), vI (S.X.cB), vI (S.X.cH), vI (S.X.cS), vI (S.X.cZ), .map (some m), vP t, vI (S.X.last), vI (S.X.ah), vI (S.X.used)] 86, .abs (bp 156 t S.X.cH S.au (aJ L2 S.us)), .abs (ak (aN S.O L)), .abs (ak (aY (ay S.O (aD S.X) (fun _ => (⟨0, c.mode, 0, 0, 0, 0, 0, 0, false, 1, [], ⟨#[]⟩, [], none⟩ : aP))) L2)), .abs (aI Tryz.prog 3 m (aM (aJ L2 S.idx)) S.idx.length), .abs (ak (bg (ay S.O (aD S.X) (fun _ => (⟨0, c.mode, 0, 0, 0, 0, 0, 0, false, 1, [], ⟨#[]⟩, [], none⟩ : aP))) L2)), .blk cb [vI (c.op), vI (c.handle), vI (c.other), .string c.name, .string c.text, .slice c.dA (c.data.length) (c.dC), vI (c.mode), vI (c.uid), vI (c.gid), vI (c.sec), vI (c.nano), vI (c.code), vI 0] 43, .abs R]) (fun w hS => hS.tP (i := 2) rfl (aD S.X) (fun x hx => by rw [qX hx, Dy hL2 hfr hx]) (by unfold aN; rw [hk0]; rfl)) ?_
 refine aj.mem (aR := [.blk f [vI (S.X.cN), vI (S.X.cB), vI (S.X.cH), vI (S.X.cS), vI (S.X.cZ), .map (some m), vP t, vI (S.X.last), vI (S.X.ah), vI (S.X.used)] 86, .abs (bp 156 t S.X.cH S.au (aJ L2 S.us)), .abs (ak (aN S.O L)), .abs (ak (aY (ay S.O (aD S.X) (fun _ => (⟨0, c.mode, 0, 0, 0, 0, 0, 0, false, 1, [], ⟨#[]⟩, [], none⟩ : aP))) L2)), .abs (aI Tryz.prog 3 m (aM (aJ L2 S.idx)) S.idx.length), .abs (ak (bg S.O L)), .blk cb [vI (c.op), vI (c.handle), vI (c.other), .string c.name, .string c.text, .slice c.dA (c.data.length) (c.dC), vI (c.mode), vI (c.uid), vI (c.gid), vI (c.sec), vI (c.nano), vI (c.code), vI 0] 43, .abs R]) (fun w hS => hS.tP (i := 5) rfl (aD S.X) (fun x hx => by rw [tD hx, yX hL2 hfr hx]) (by unfold bg; rw [hk0]; rfl)) ?_
 refine aj.mem (aR := [.blk f [vI (S.X.cN), vI (S.X.cB), vI (S.X.cH), vI (S.X.cS), vI (S.X.cZ), .map (some m), vP t, vI (S.X.last), vI (S.X.ah), vI (S.X.used)] 86, .abs (bp 156 t S.X.cH S.au (aJ L2 S.us)), .abs (ak (aN S.O L)), .abs (ak (aY S.O L)), .abs (aI Tryz.prog 3 m (aM (aJ L2 S.idx)) S.idx.length), .abs (ak (bg S.O L)), .blk cb [vI (c.op), vI (c.handle), vI (c.other), .string c.name, .string c.text, .slice c.dA (c.data.length) (c.dC), vI (c.mode), vI (c.uid), vI (c.gid), vI (c.sec), vI (c.nano), vI (c.code), vI 0] 43, .abs R]) (fun w hS => hS.tP (i := 3) rfl (aD S.X) (fun x hx => by rw [tE hx, uQ hL2 hx]) (by unfold aY; rw [hk0]; rfl)) ?_
 refine aj.mem (aR := [.blk f [vI (S.X.cN), vI (S.X.cB), vI (S.X.cH), vI (S.X.cS), vI (S.X.cZ), .map (some m), vP t, vI (S.X.last), vI (S.X.ah), vI (S.X.used)] 86, .abs (bp 156 t S.X.cH S.au (aJ L S.us)), .abs (ak (aN S.O L)), .abs (ak (aY S.O L)), .abs (aI Tryz.prog 3 m (aM (aJ L S.idx)) S.idx.length), .abs (ak (bg S.O L)), .blk cb [vI (c.op), vI (c.handle), vI (c.other), .string c.name, .string c.text, .slice c.dA (c.data.length) (c.dC), vI (c.mode), vI (c.uid), vI (c.gid), vI (c.sec), vI (c.nano), vI (c.code), vI 0] 43, .abs R]) (fun w hS => by rw [eW hL2 hfr.idx, eW hL2 hfr.us] at hS; exact hS) ?_
 refine gK 2 [(4, vI 130)] [] ?_
 refine NN (af.ret (ai.aq ?_))
 exact RT (vI 130) [0, 4, 1, 2, 3, 5, 6, 7] (⟨L, by rw [show (cW S c) = (130, S, { c with answer := 0 }) by unfold cW; rw [hab]; exact (if_pos j7).trans ((if_pos h0).trans (by rw [show createM S d c.name c.mode = (0, 130, S) from (if_pos h0).trans (if_neg (by omega))]))] <;> exact ⟨rfl, rfl⟩⟩)
end
section
open Go.RowKit
def rC (b : Nat) (v : Value) : bR where
  h F w := ∃ cs T, cs[0]? = some v ∧ (HP.blk b cs T).h F w
  lt := fun ⟨_, _, _, h⟩ => HP.lt h
  st := fun ⟨cs, T, hv, h⟩ _ _ hk hd => ⟨cs, T, hv, HP.st h hk hd⟩
theorem rC.cell {b : Nat} {v : Value} : ∀ F w, (rC b v).h F w → w.cell? ⟨b, 0, none⟩ = some v := by
  rintro F w ⟨cs, T, hv, h⟩
  exact (eX h.1 rfl rfl hv).1
theorem Sat.first {β : Bs} {l : List HP} {w : World} {i b : Nat} {cs : List Value} {T : TypeId} {v : Value} (h : Sat β l w) (hp : l[i]? = some (.blk b cs T)) (hv : cs[0]? = some v) : Sat β [.abs (rC b v)] w := by
  obtain ⟨ho, φ, h1, h2, h3⟩ := h
  have hi := bA hp
  refine ⟨ho, fun _ => φ i, fun j q hq => ?_, fun j hj => h2 i hi, fun j k hj hk hne => ?_⟩
  ·have hj := bA hq
   simp at hj
   subst hj
   simp at hq
   subst hq
   exact ⟨cs, T, hv, h1 i _ hp⟩
  simp at hj hk
  omega
section mix
variable {P : Program} {β : Bs} {N : Nat} {ops : Array Oper} {S : List HP} {l : List Nat} {fr : Fr} {hps : List HP} {Q : Post} {i : Nat}
theorem af.EL {id : Nat} (perm : List Nat) (nr : Nat) (hm : P.follows .mixedOrders = true) (hB : wQ ops perm nr = true) (hp : ∀ w, Sat β hps w → Sat β S w) (h : aF P β N ops S nr perm fr hps Q) : af P β N (.region id ops true) fr hps Q := by
  intro junk w hS
  unfold wQ at hB
  simp only [Bool.and_eq_true, beq_iff_eq] at hB
  obtain ⟨⟨⟨h1, h2⟩, h3⟩, h4⟩ := hB
  have cP := hS.drewN 1
  have h5 := yC (Q := Q) h1 h2 nr perm _ _ _ h4 (fun j oj _ hl => by simp [Array.getD_eq_getD_getElem?, Array.getElem?_replicate] at hl; split at hl <;> simp at hl) (hp _ cP) (h junk (w.drewN 1) cP)
  rw [h3] at h5
  refine Code.wp_mono (fun e a w q => ?_) (wp_region_any hm (lZ _ _ _ _ h5))
  cases e with
  | normal => exact q
  | exit id => exact q.elim
  | goto l => exact q.elim
  | ret => exact q.elim
  | panic ch => exact q.elim
  | outgrown => exact q.elim
theorem aF.EM {ι : Type} {fr' : ι → Fr} {hp' : ι → List HP} {o : Oper} (hop : ops[i]? = some o) (hg : o.guard = none) (h : aj P β N #[o] 0 fr hps (NP (iY β N fr' hp'))) (hp : ∀ j w, Sat β (hp' j) w → Sat β S w)
    (K : ∀ j, aF P β N ops S 0 l (fr' j) (hp' j) Q) : aF P β N ops S 0 (i :: l) fr hps Q := by
  intro junk w hS
  unfold kg
  refine eZ hop hg ?_
  have h1 := h junk w hS
  have h2 : wpList P #[o] (NP (iY β N fr' hp')) [o] (cx N fr junk) w := h1
  refine gU (fun a w ⟨j, fC, ha, cP⟩ => ?_) h2
  subst ha
  exact ⟨.inr (hp j _ cP), K j fC w cP⟩
end mix
end
section
open Go.RowKit Go.Maps HeapM TabM
def Gq : List Nat := [78, 79, 80, 81, 82, 83, 84, 85, 86, 87, 88, 89, 90, 91, 92]
def NJ : Value := .agg ⟨.nilFunc :: Gq.map (fun f => .func (.func f) #[] #[])⟩
theorem EN {n : Int} (h : 1 ≤ n ∧ n ≤ 15) : n = 1 ∨ n = 2 ∨ n = 3 ∨ n = 4 ∨ n = 5 ∨ n = 6 ∨ n = 7 ∨ n = 8 ∨ n = 9 ∨ n = 10 ∨ n = 11 ∨ n = 12 ∨ n = 13 ∨ n = 14 ∨ n = 15 := by omega
theorem LO {w : World} {o : Oper} {ev : Operand → Value} {x y : Operand} {n : Int} (ho : o.op = .index 118 x y) (hx : ev x = NJ) (hy : ev y = .int .i64 n) (hn : 1 ≤ n ∧ n ≤ 15) : lD Tryz.prog ev o w (.func (.func (Gq.getD (n.toNat - 1) 0)) #[] #[]) w := by
  obtain ⟨dst, op, type, pos, after, guard⟩ := o
  cases ho
  refine .inl ?_
  simp only [execOp, hx, hy]
  rcases EN hn with h | h | h | h | h | h | h | h | h | h | h | h | h | h | h <;> subst h <;> kernel_rfl
theorem aj.hn {β : Bs} {N k : Nat} {ops : Array Oper} {fr : Fr} {hps : List HP} {Q : Post} {d : Option Tmp} {x y : Operand} {n : Int} (hn : 1 ≤ n ∧ n ≤ 15) (K : aj Tryz.prog β N ops (k + 1) (cJ fr d (.func (.func (Gq.getD (n.toNat - 1) 0)) #[] #[])) hps Q)
    (hop : ∀ junk, dP N junk ops fr k = some (.index 118 x y, d) := by intro _; kernel_rfl) (hx : ∀ junk, cC N fr junk x = NJ := by intro _; kernel_rfl) (hy : ∀ junk, cC N fr junk y = .int .i64 n := by intro _; kernel_rfl) : aj Tryz.prog β N ops k fr hps Q :=
  aj.gJ hop (fun _ junk w ho hS => ⟨w, LO ho (hx junk) (hy junk) hn, hS⟩) K
theorem Nb {β : Bs} {S : aG} {L : HL} {f m t b : Nat} {c : aU} (n : Int) (hI : Inv S) (hC : fB β c) (h : 1 ≤ n ∧ n ≤ 15) (he : c.op = n) : Spec Tryz.prog β (Gq.getD (n.toNat - 1) 0) #[vP f, vP b] (pA f m t L S ++ [pC b c]) (fun v l => ∃ L2, v = vI (opM S c).1 ∧ l = pA f m t L2 (opM S c).2.1 ++ [pC b (opM S c).2.2]) := by
  subst he
  rcases EN h with h | h | h | h | h | h | h | h | h | h | h | h | h | h | h <;> rw [h]
  ·rw [xD h]; exact EF S L f m t hI b c hC
  ·rw [uS h]; exact Av S L f m t hI b c hC
  ·rw [xE h]; exact zf S L f m t hI b c hC
  ·rw [uT h]; exact Db S L f m t hI b c hC
  ·rw [xG h]; exact Cr S L f m t hI b c hC
  ·rw [xH h]; exact Ax S L f m t hI b c hC
  ·rw [xI h]; exact EJ S L f m t hI b c hC
  ·rw [xJ h]; exact Cm S L f m t hI b c hC
  ·rw [AL h]; exact Dd S L f m t hI b c hC
  ·rw [xK h]; exact Ay S L f m t hI b c hC
  ·rw [xL h]; exact EK S L f m t hI b c hC
  ·rw [tT h]; exact Cq S L f m t hI b c hC
  ·rw [xM h]; exact Df S L f m t hI b c hC
  ·rw [tU h]; exact Dc S L f m t hI b c hC
  rw [tV h]; exact Cn S L f m t hI b c hC
theorem Gr {S : aG} {c : aU} (h : 1 ≤ c.op ∧ c.op ≤ 15) : (opM S c).2.2.op = c.op := by
  rcases EN h with h | h | h | h | h | h | h | h | h | h | h | h | h | h | h
  ·rw [xD h]; exact Kb
  ·rw [uS h]; exact Ej
  ·rw [xE h]; exact C2
  ·rw [uT h]; exact Ek
  ·rw [xG h]; exact C3
  ·rw [xH h]; exact BV
  ·rw [xI h]; exact F7
  ·rw [xJ h]; exact C4
  ·rw [AL h]; exact Em
  ·rw [xK h]; exact En
  ·rw [xL h]; exact Kc
  ·rw [tT h]; exact F8
  ·rw [xM h]; exact Ij
  ·rw [tU h]; exact El
  rw [tV h]; exact C5
end
section
open Go.RowKit Go.Maps HeapM TabM
attribute [local irreducible] aj aT af ai
abbrev JK (b3 : Nat) := (.blk b3 [vI 0, vI 0, vI 0, .string ⟨#[]⟩, .string ⟨#[]⟩, .slice none (0) (0), vI 0, vI 0, vI 0, vI 0, vI 0, vI 0, vI 0] 43 : HP)
abbrev NK (c : aU) := ([(0, vI (c.op)), (1, vI (c.handle)), (2, vI (c.other)), (3, .string c.name), (4, .string c.text), (5, .slice c.dA (c.data.length) (c.dC)), (6, vI (c.mode)), (7, vI (c.uid)), (8, vI (c.gid)), (9, vI (c.sec)), (10, vI (c.nano)), (11, vI 230)] : Fr)
theorem Dg {β : Bs} : Spec Tryz.prog β 44 #[] [] (fun v l => v = .agg #[.nilFunc, .func (.func 78) #[] #[], .func (.func 79) #[] #[], .func (.func 80) #[] #[], .func (.func 81) #[] #[], .func (.func 82) #[] #[], .func (.func 83) #[] #[], .func (.func 84) #[] #[], .func (.func 85) #[] #[], .func (.func 86) #[] #[], .func (.func 87) #[] #[], .func (.func 88) #[] #[], .func (.func 89) #[] #[], .func (.func 90) #[] #[], .func (.func 91) #[] #[], .func (.func 92) #[] #[]] ∧ l = []) := by
 refine Spec.enter Tryz.func44 rfl Tryz.ntmps44 (Nat.le_of_ble_eq_true rfl) (fun R => ?_)
 refine SR ?_
 refine gN 1 (fun b1 => [(0, vP b1)]) (fun _ => []) (fun _ => []) (fun b1 => .blk b1 [.nilFunc, .nilFunc, .nilFunc, .nilFunc, .nilFunc, .nilFunc, .nilFunc, .nilFunc, .nilFunc, .nilFunc, .nilFunc, .nilFunc, .nilFunc, .nilFunc, .nilFunc, .nilFunc] 118) (fun b1 => ?_)
 refine NS ?_
 refine gC 2 [] [(1, A_ 1 b1 16)] [(1, [(1, .func (.func 78) #[] #[]), (2, .func (.func 79) #[] #[]), (3, .func (.func 80) #[] #[]), (4, .func (.func 81) #[] #[]), (5, .func (.func 82) #[] #[]), (6, .func (.func 83) #[] #[]), (7, .func (.func 84) #[] #[]), (8, .func (.func 85) #[] #[]), (9, .func (.func 86) #[] #[]), (10, .func (.func 87) #[] #[]), (11, .func (.func 88) #[] #[]), (12, .func (.func 89) #[] #[]), (13, .func (.func 90) #[] #[]), (14, .func (.func 91) #[] #[]), (15, .func (.func 92) #[] #[])])] ?_
 refine NN (af.ret ?_)
 exact ai.ret (v := .agg #[.nilFunc, .func (.func 78) #[] #[], .func (.func 79) #[] #[], .func (.func 80) #[] #[], .func (.func 81) #[] #[], .func (.func 82) #[] #[], .func (.func 83) #[] #[], .func (.func 84) #[] #[], .func (.func 85) #[] #[], .func (.func 86) #[] #[], .func (.func 87) #[] #[], .func (.func 88) #[] #[], .func (.func 89) #[] #[], .func (.func 90) #[] #[], .func (.func 91) #[] #[], .func (.func 92) #[] #[]]) (l := []) (aV := [b1 = b1, b1 = b1, b1 = b1, b1 = b1, b1 = b1, b1 = b1, b1 = b1, b1 = b1, b1 = b1, b1 = b1, b1 = b1, b1 = b1, b1 = b1, b1 = b1, b1 = b1, b1 = b1]) [.at 1, .at 1, .at 1, .at 1, .at 1, .at 1, .at 1, .at 1, .at 1, .at 1, .at 1, .at 1, .at 1, .at 1, .at 1, .at 1] [0] (fun _ => by kernel_rfl) ⟨rfl, rfl, rfl, rfl, rfl, rfl, rfl, rfl, rfl, rfl, rfl, rfl, rfl, rfl, rfl, rfl, trivial⟩ rfl (by kernel_rfl) (⟨rfl, rfl⟩)
theorem Cs {β : Bs} (S : aG) (L : HL) (f m t : Nat) (hI : Inv S) (c : aU) (hC : fB β c) :
    Spec Tryz.prog β 16 #[vP f, .agg #[vI (c.op), vI (c.handle), vI (c.other), .string c.name, .string c.text, .slice c.dA (c.data.length) (c.dC), vI (c.mode), vI (c.uid), vI (c.gid), vI (c.sec), vI (c.nano), vI (c.code), vI (c.answer)]] (pA f m t L S) (fun v l => ∃ L2, v = .agg ⟨fT (doM S c).2⟩ ∧ l = (pA f m t L2 ((doM S c).1))) := by
 have hX := hI.hX
 refine Spec.enter Tryz.func16 rfl Tryz.ntmps16 (Nat.le_of_ble_eq_true rfl) (fun R => ?_)
 refine SR ?_
 refine gN 1 (fun b2 => [(3, vP b2)]) (fun _ => []) (fun _ => []) (fun b2 => pC b2 c) (fun b2 => ?_)
 refine gN 1 (fun b3 => [(4, vP b3)]) (fun _ => []) (fun _ => []) (fun b3 => .blk b3 [vI 0, vI 0, vI 0, .string ⟨#[]⟩, .string ⟨#[]⟩, .slice none (0) (0), vI 0, vI 0, vI 0, vI 0, vI 0, vI 0, vI 0] 43) (fun b3 => ?_)
 refine NS ?_
 refine gC 2 [] [(1, a_ 7 b2)] [(7, [(12, vI 0)])] ?_
 refine NS ?_
 refine gC 2 [] [(1, a_ 7 b2)] [(7, [(11, vI 230)])] ?_
 refine NN (af.seq (SR ?_))
 refine gK 4 [(10, .bool (decide ((c.op : Int) ≥ (1 : Int))))] [(1, a_ 7 b2)] ?_
 refine aj.fk 10 ((c.op : Int) ≥ (1 : Int)) (fun _ => by kernel_rfl) (fun h10 => ?_) (fun h10 => ?_)
 ·refine gK 4 [(14, .bool (decide ((c.op : Int) ≤ (15 : Int))))] [(1, a_ 7 b2)] ?_
  refine NN ?_
  refine af.bB (p := (c.op : Int) ≤ (15 : Int)) (fun _ => by kernel_rfl) (fun gj => ?_) (fun gj => ?_)
  ·have hop : 1 ≤ c.op ∧ c.op ≤ 15 := ⟨h10, gj⟩
   refine af.EL (S := [.abs (rC b2 (.int .i64 c.op))]) [1, 2, 4, 0, 3, 5, 6, 7] 3 (by kernel_rfl) (by kernel_rfl) (fun w hS => hS.first (i := 7) (b := b2) rfl rfl) ?_
   refine aF.reads (r := 0) (l := [0, 3, 5, 6, 7]) (fr' := [(3, vP b2), (4, vP b3), (17, vI (c.op)), (19, vP f)]) (aV := [(∀ F w, (rC b2 (.int .i64 c.op)).h F w → w.cell? ⟨b2, 0, none⟩ = some (vI (c.op)))]) [1, 2, 4] [o_, ⟨[.view 0 (.int .i64 (c.op))], none, none, none, none⟩, o_] [3, 4, 17, 19] (fun _ => by kernel_rfl) ⟨rC.cell, trivial⟩ rfl rfl ?_
   refine aF.EM (ι := Unit) (fr' := fun (_ : Unit) => [(3, vP b2), (4, vP b3), (15, .agg #[.nilFunc, .func (.func 78) #[] #[], .func (.func 79) #[] #[], .func (.func 80) #[] #[], .func (.func 81) #[] #[], .func (.func 82) #[] #[], .func (.func 83) #[] #[], .func (.func 84) #[] #[], .func (.func 85) #[] #[], .func (.func 86) #[] #[], .func (.func 87) #[] #[], .func (.func 88) #[] #[], .func (.func 89) #[] #[], .func (.func 90) #[] #[], .func (.func 91) #[] #[], .func (.func 92) #[] #[]]), (17, vI (c.op)), (19, vP f)]) (hp' := fun (_ : Unit) => ((pA f m t L S) ++ [.abs R, pC b2 (c0 c), JK b3])) rfl rfl ?_ (by rintro _ w hS; exact hS.first (i := 7) (b := b2) rfl rfl) ?_
   ·refine gL [] (Dg) ?_
    rintro _ _ ⟨rfl, rfl⟩
    refine NL ?_
    exact MD () [3, 4, 15, 17, 19] [0, 1, 2, 3, 4, 5, 6, 7, 8]
   rintro _
   refine aF.EM (ι := Unit) (fr' := fun (_ : Unit) => [(3, vP b2), (4, vP b3), (18, .func (.func (Gq.getD (c.op.toNat - 1) 0)) #[] #[]), (19, vP f)]) (hp' := fun (_ : Unit) => ((pA f m t L S) ++ [.abs R, pC b2 (c0 c), JK b3])) rfl rfl ?_ (by rintro _ w hS; exact hS.first (i := 7) (b := b2) rfl rfl) ?_
   ·refine aj.hn (x := (.tmp 15)) (y := (.tmp 17)) (d := (some 18)) hop ?_
    refine NL ?_
    exact MD () [3, 4, 18, 19] [0, 1, 2, 3, 4, 5, 6, 7, 8]
   rintro _
   refine aF.EM (ι := HL) (fr' := fun (L2 : HL) => [(3, vP b2), (4, vP b3), (20, vI ((opM S (c0 c)).1))]) (hp' := fun (L2 : HL) => ((pA f m t L2 ((opM S (c0 c)).2.1)) ++ [pC b2 ((opM S (c0 c)).2.2), .abs R, JK b3])) rfl rfl ?_ (by rintro L2 w hS; exact hS.first (i := 6) (b := b2) rfl (congrArg (fun z => some (Value.int .i64 z)) (Gr (c := (c0 c)) hop))) ?_
   ·refine gL [0, 1, 2, 3, 4, 5, 7] (Nb (S := S) (L := L) (f := f) (m := m) (t := t) (b := b2) (c := (c0 c)) c.op hI ⟨hC.hw, hC.ow, hC.nm, hC.tx, hC.da, hC.dl, hC.dc⟩ hop rfl) ?_ (by intro _; rcases EN hop with h | h | h | h | h | h | h | h | h | h | h | h | h | h | h <;> rw [h] <;> kernel_rfl)
    rintro _ _ ⟨L2, rfl, rfl⟩
    refine NL ?_
    exact MD L2 [3, 4, 20] [0, 1, 2, 3, 4, 5, 6, 7, 8]
   rintro L2
   refine aF.EM (ι := Unit) (fr' := fun (_ : Unit) => [(3, vP b2), (4, vP b3), (20, vI ((opM S (c0 c)).1)), (21, .pointer (some ⟨b2, 11, none⟩))]) (hp' := fun (_ : Unit) => ((pA f m t L2 ((opM S (c0 c)).2.1)) ++ [pC b2 ((opM S (c0 c)).2.2), .abs R, JK b3])) rfl rfl ?_ (by rintro _ w hS; exact hS.first (i := 6) (b := b2) rfl (congrArg (fun z => some (Value.int .i64 z)) (Gr (c := (c0 c)) hop))) ?_
   ·refine gK 1 [(21, .pointer (some ⟨b2, 11, none⟩))] [] ?_
    refine NL ?_
    exact MD () [3, 4, 20, 21] [0, 1, 2, 3, 4, 5, 6, 7, 8]
   rintro _
   refine aF.last rfl rfl ?_
   refine gC 1 [] [(0, a_ 6 b2)] [(6, [(11, vI ((opM S (c0 c)).1))])] ?_
   refine NL (ai.np (NX (SR ?_)))
   refine gC 2 [] [(0, A_ 6 b2 13), (1, A_ 8 b3 13)] [(8, [(0, vI ((opM S (c0 c)).2.2.op)), (1, vI ((opM S (c0 c)).2.2.handle)), (2, vI ((opM S (c0 c)).2.2.other)), (3, .string (opM S (c0 c)).2.2.name), (4, .string (opM S (c0 c)).2.2.text), (5, .slice (opM S (c0 c)).2.2.dA ((opM S (c0 c)).2.2.data.length) ((opM S (c0 c)).2.2.dC)), (6, vI ((opM S (c0 c)).2.2.mode)), (7, vI ((opM S (c0 c)).2.2.uid)), (8, vI ((opM S (c0 c)).2.2.gid)), (9, vI ((opM S (c0 c)).2.2.sec)), (10, vI ((opM S (c0 c)).2.2.nano)), (11, vI ((opM S (c0 c)).1)), (12, vI ((opM S (c0 c)).2.2.answer))])] ?_
   refine NN (af.ret ?_)
   exact ai.ret (v := .agg #[vI ((opM S (c0 c)).2.2.op), vI ((opM S (c0 c)).2.2.handle), vI ((opM S (c0 c)).2.2.other), .string (opM S (c0 c)).2.2.name, .string (opM S (c0 c)).2.2.text, .slice (opM S (c0 c)).2.2.dA ((opM S (c0 c)).2.2.data.length) ((opM S (c0 c)).2.2.dC), vI ((opM S (c0 c)).2.2.mode), vI ((opM S (c0 c)).2.2.uid), vI ((opM S (c0 c)).2.2.gid), vI ((opM S (c0 c)).2.2.sec), vI ((opM S (c0 c)).2.2.nano), vI ((opM S (c0 c)).1), vI ((opM S (c0 c)).2.2.answer)]) (l := (pA f m t L2 ((opM S (c0 c)).2.1))) (aV := [b3 = b3, b3 = b3, b3 = b3, b3 = b3, b3 = b3, b3 = b3, b3 = b3, b3 = b3, b3 = b3, b3 = b3, b3 = b3, b3 = b3, b3 = b3]) [.at 8, .at 8, .at 8, .at 8, .at 8, .at 8, .at 8, .at 8, .at 8, .at 8, .at 8, .at 8, .at 8] [0, 1, 2, 3, 4, 5, 7] (fun _ => by kernel_rfl) ⟨rfl, rfl, rfl, rfl, rfl, rfl, rfl, rfl, rfl, rfl, rfl, rfl, rfl, trivial⟩ rfl (by kernel_rfl) (⟨L2, rfl, rfl⟩)
  refine af.skip (NX (SR ?_))
  refine gC 2 [] [(0, A_ 7 b2 13), (1, A_ 8 b3 13)] [(8, (NK c))] ?_
  refine NN (af.ret ?_)
  exact ai.ret (v := .agg #[vI (c.op), vI (c.handle), vI (c.other), .string c.name, .string c.text, .slice c.dA (c.data.length) (c.dC), vI (c.mode), vI (c.uid), vI (c.gid), vI (c.sec), vI (c.nano), vI 230, vI 0]) (l := (pA f m t L S)) (aV := [b3 = b3, b3 = b3, b3 = b3, b3 = b3, b3 = b3, b3 = b3, b3 = b3, b3 = b3, b3 = b3, b3 = b3, b3 = b3, b3 = b3, b3 = b3]) [.at 8, .at 8, .at 8, .at 8, .at 8, .at 8, .at 8, .at 8, .at 8, .at 8, .at 8, .at 8, .at 8] [0, 1, 2, 3, 4, 5, 6] (fun _ => by kernel_rfl) ⟨rfl, rfl, rfl, rfl, rfl, rfl, rfl, rfl, rfl, rfl, rfl, rfl, rfl, trivial⟩ rfl (by kernel_rfl) (⟨L, by unfold doM; rw [tW (S := S) (c := (c0 c)) (by show ¬ (1 ≤ c.op ∧ c.op ≤ 15); omega)]; exact ⟨rfl, rfl⟩⟩)
 refine gK 4 [(14, .bool false)] [] ?_
 refine NN ?_
 refine CF ?_
 refine af.skip (NX (SR ?_))
 refine gC 2 [] [(0, A_ 7 b2 13), (1, A_ 8 b3 13)] [(8, (NK c))] ?_
 refine NN (af.ret ?_)
 exact ai.ret (v := .agg #[vI (c.op), vI (c.handle), vI (c.other), .string c.name, .string c.text, .slice c.dA (c.data.length) (c.dC), vI (c.mode), vI (c.uid), vI (c.gid), vI (c.sec), vI (c.nano), vI 230, vI 0]) (l := (pA f m t L S)) (aV := [b3 = b3, b3 = b3, b3 = b3, b3 = b3, b3 = b3, b3 = b3, b3 = b3, b3 = b3, b3 = b3, b3 = b3, b3 = b3, b3 = b3, b3 = b3]) [.at 8, .at 8, .at 8, .at 8, .at 8, .at 8, .at 8, .at 8, .at 8, .at 8, .at 8, .at 8, .at 8] [0, 1, 2, 3, 4, 5, 6] (fun _ => by kernel_rfl) ⟨rfl, rfl, rfl, rfl, rfl, rfl, rfl, rfl, rfl, rfl, rfl, rfl, rfl, trivial⟩ rfl (by kernel_rfl) (⟨L, by unfold doM; rw [tW (S := S) (c := (c0 c)) (by show ¬ (1 ≤ c.op ∧ c.op ≤ 15); omega)]; exact ⟨rfl, rfl⟩⟩)
end
end Go.Proofs.YtkiedlmhocglhaaGreatDoor
section
namespace Go.Proofs
open Go.Shelf
def Tryz.keysS_ren : Go.Shelf.Ren := ⟨fun | 7 => 43 | 10 => 77 | n => n, fun | 23 => 97 | 26 => 9 | 3 => 84 | 28 => 114 | 0 => 0 | 27 => 113 | 33 => 38 | 4 => 4 | n => n, fun | n => n⟩
theorem Tryz.keysS : Go.Proofs.SlLaysZ.n7 Tryz.prog Tryz.keysS_ren := {
  mixed := by kernel_rfl
  f7 := ⟨Tryz.f43.name, by decide, Tryz.func43.trans (congrArg some (by kernel_rfl))⟩
  f10 := ⟨Tryz.f77.name, by decide, Tryz.func77.trans (congrArg some (by kernel_rfl))⟩
  t0 := Tryz.underlying0
  a0 := Tryz.isAgg0
  z0 := Tryz.sizeOf0
  v0 := Tryz.zeroValue0
  t4 := Tryz.underlying4
  a4 := Tryz.isAgg4
  z4 := Tryz.sizeOf4
  v4 := Tryz.zeroValue4
  t23 := Tryz.underlying97
  a23 := Tryz.isAgg97
  z23 := Tryz.sizeOf97
  v23 := Tryz.zeroValue97
  t26 := Tryz.underlying9
  a26 := Tryz.isAgg9
  z26 := Tryz.sizeOf9
  v26 := Tryz.zeroValue9
  t27 := Tryz.underlying113
  a27 := Tryz.isAgg113
  z27 := Tryz.sizeOf113
  v27 := Tryz.zeroValue113
  t28 := Tryz.underlying114
  a28 := Tryz.isAgg114
  z28 := Tryz.sizeOf114
  v28 := Tryz.zeroValue114
  t33 := Tryz.underlying38
  a33 := Tryz.isAgg38
  z33 := Tryz.sizeOf38
  v33 := Tryz.zeroValue38 }
def Tryz.sortedS_ren : Go.Shelf.Ren := ⟨fun | 6 => 42 | 8 => 75 | 9 => 76 | 11 => 130 | 13 => 129 | 12 => 131 | 23 => 164 | 24 => 165 | 14 => 166 | 15 => 167 | 16 => 168 | 17 => 169 | 18 => 170 | 19 => 171 | 20 => 172 | 21 => 173 | 22 => 174 | 25 => 188 | 26 => 183 | 27 => 184 | 28 => 189 | 29 => 190 | 30 => 191 | 31 => 200 | n => n, fun | 26 => 9 | 28 => 114 | 24 => 111 | 0 => 0 | 3 => 3 | 37 => 195 | 48 => 224 | 50 => 226 | 4 => 4 | 40 => 218 | 39 => 217 | 45 => 213 | 5 => 5 | 9 => 9 | 51 => 236 | 55 => 240 | 57 => 252 | 58 => 253 | 33 => 38 | n => n, fun | n => n⟩
theorem Tryz.sortedS : Go.Proofs.SlLaysZ.n6 Tryz.prog Tryz.sortedS_ren := {
  mixed := by kernel_rfl
  f6 := ⟨Tryz.f42.name, by decide, Tryz.func42.trans (congrArg some (by kernel_rfl))⟩
  f8 := ⟨Tryz.f75.name, by decide, Tryz.func75.trans (congrArg some (by kernel_rfl))⟩
  f11 := ⟨Tryz.f130.name, by decide, Tryz.func130.trans (congrArg some (by kernel_rfl))⟩
  t0 := Tryz.underlying0
  a0 := Tryz.isAgg0
  z0 := Tryz.sizeOf0
  v0 := Tryz.zeroValue0
  t24 := Tryz.underlying111
  a24 := Tryz.isAgg111
  z24 := Tryz.sizeOf111
  v24 := Tryz.zeroValue111
  t26 := Tryz.underlying9
  a26 := Tryz.isAgg9
  z26 := Tryz.sizeOf9
  v26 := Tryz.zeroValue9
  t28 := Tryz.underlying114
  a28 := Tryz.isAgg114
  z28 := Tryz.sizeOf114
  v28 := Tryz.zeroValue114
  i26 := by kernel_rfl }
def Tryz.sortS_ren : Go.Shelf.Ren := ⟨fun | 6 => 76 | 8 => 129 | 9 => 131 | 19 => 164 | 20 => 165 | 21 => 166 | 22 => 167 | 23 => 168 | 24 => 169 | 25 => 170 | 26 => 171 | 27 => 172 | 28 => 173 | 29 => 174 | 36 => 188 | 31 => 183 | 32 => 184 | 37 => 189 | 38 => 190 | 39 => 191 | 41 => 200 | n => n, fun | 27 => 111 | 29 => 9 | 3 => 3 | 32 => 195 | 26 => 111 | 0 => 0 | 44 => 224 | 46 => 226 | 4 => 4 | 36 => 218 | 35 => 217 | 41 => 213 | 5 => 5 | 9 => 9 | 53 => 236 | 57 => 240 | 63 => 252 | 64 => 253 | n => n, fun | n => n⟩
theorem Tryz.sortS : Go.Proofs.SlLaysM.n6 Tryz.prog Tryz.sortS_ren := {
  mixed := by kernel_rfl
  f6 := ⟨Tryz.f76.name, by decide, Tryz.func76.trans (congrArg some (by kernel_rfl))⟩
  f8 := Tryz.func129.trans (congrArg some (by kernel_rfl))
  f9 := ⟨Tryz.f131.name, by decide, Tryz.func131.trans (congrArg some (by kernel_rfl))⟩
  f19 := Tryz.func164.trans (congrArg some (by kernel_rfl))
  f20 := Tryz.func165.trans (congrArg some (by kernel_rfl))
  f21 := ⟨Tryz.f166.name, by decide, Tryz.func166.trans (congrArg some (by kernel_rfl))⟩
  f22 := ⟨Tryz.f167.name, by decide, Tryz.func167.trans (congrArg some (by kernel_rfl))⟩
  f23 := ⟨Tryz.f168.name, by decide, Tryz.func168.trans (congrArg some (by kernel_rfl))⟩
  f24 := ⟨Tryz.f169.name, by decide, Tryz.func169.trans (congrArg some (by kernel_rfl))⟩
  f25 := ⟨Tryz.f170.name, by decide, Tryz.func170.trans (congrArg some (by kernel_rfl))⟩
  f26 := ⟨Tryz.f171.name, by decide, Tryz.func171.trans (congrArg some (by kernel_rfl))⟩
  f27 := ⟨Tryz.f172.name, by decide, Tryz.func172.trans (congrArg some (by kernel_rfl))⟩
  f28 := ⟨Tryz.f173.name, by decide, Tryz.func173.trans (congrArg some (by kernel_rfl))⟩
  f29 := ⟨Tryz.f174.name, by decide, Tryz.func174.trans (congrArg some (by kernel_rfl))⟩
  f31 := Tryz.func183.trans (congrArg some (by kernel_rfl))
  f32 := Tryz.func184.trans (congrArg some (by kernel_rfl))
  f36 := ⟨Tryz.f188.name, by decide, Tryz.func188.trans (congrArg some (by kernel_rfl))⟩
  f37 := ⟨Tryz.f189.name, by decide, Tryz.func189.trans (congrArg some (by kernel_rfl))⟩
  f38 := ⟨Tryz.f190.name, by decide, Tryz.func190.trans (congrArg some (by kernel_rfl))⟩
  f39 := ⟨Tryz.f191.name, by decide, Tryz.func191.trans (congrArg some (by kernel_rfl))⟩
  f41 := ⟨Tryz.f200.name, by decide, Tryz.func200.trans (congrArg some (by kernel_rfl))⟩
  t0 := Tryz.underlying0
  a0 := Tryz.isAgg0
  z0 := Tryz.sizeOf0
  v0 := Tryz.zeroValue0
  t3 := Tryz.underlying3
  a3 := Tryz.isAgg3
  z3 := Tryz.sizeOf3
  v3 := Tryz.zeroValue3
  t4 := Tryz.underlying4
  a4 := Tryz.isAgg4
  z4 := Tryz.sizeOf4
  v4 := Tryz.zeroValue4
  t5 := Tryz.underlying5
  a5 := Tryz.isAgg5
  z5 := Tryz.sizeOf5
  v5 := Tryz.zeroValue5
  t9 := Tryz.underlying9
  a9 := Tryz.isAgg9
  z9 := Tryz.sizeOf9
  v9 := Tryz.zeroValue9
  t26 := Tryz.underlying111
  a26 := Tryz.isAgg111
  z26 := Tryz.sizeOf111
  v26 := Tryz.zeroValue111
  t27 := Tryz.underlying111
  a27 := Tryz.isAgg111
  z27 := Tryz.sizeOf111
  v27 := Tryz.zeroValue111
  t29 := Tryz.underlying9
  a29 := Tryz.isAgg9
  z29 := Tryz.sizeOf9
  v29 := Tryz.zeroValue9
  t32 := Tryz.underlying195
  a32 := Tryz.isAgg195
  z32 := Tryz.sizeOf195
  v32 := Tryz.zeroValue195
  t35 := Tryz.underlying217
  a35 := Tryz.isAgg217
  z35 := Tryz.sizeOf217
  v35 := Tryz.zeroValue217
  t36 := Tryz.underlying218
  a36 := Tryz.isAgg218
  z36 := Tryz.sizeOf218
  v36 := Tryz.zeroValue218
  t41 := Tryz.underlying213
  a41 := Tryz.isAgg213
  z41 := Tryz.sizeOf213
  v41 := Tryz.zeroValue213
  t44 := Tryz.underlying224
  a44 := Tryz.isAgg224
  z44 := Tryz.sizeOf224
  v44 := Tryz.zeroValue224
  t46 := Tryz.underlying226
  a46 := Tryz.isAgg226
  z46 := Tryz.sizeOf226
  v46 := Tryz.zeroValue226
  t53 := Tryz.underlying236
  a53 := Tryz.isAgg236
  z53 := Tryz.sizeOf236
  v53 := Tryz.zeroValue236
  t57 := Tryz.underlying240
  a57 := Tryz.isAgg240
  z57 := Tryz.sizeOf240
  v57 := Tryz.zeroValue240
  t63 := Tryz.underlying252
  a63 := Tryz.isAgg252
  z63 := Tryz.sizeOf252
  v63 := Tryz.zeroValue252
  t64 := Tryz.underlying253
  a64 := Tryz.isAgg253
  z64 := Tryz.sizeOf253
  v64 := Tryz.zeroValue253 }
end Go.Proofs
end
namespace Go.Proofs.YtkiedlmhocglhaaGreatDoor
section
open Go.RowKit Go.Maps Go.Sort Go.Shelf
theorem LP (m : Nat) : AnyZ.SortsIn Tryz.prog Tryz.sortedS_ren Fence.wide m :=
  ⟨fun blk off cap ss W hH hblk hsz => callsIn_wide.2 (AnyM.slices_Sort_string Tryz.sortS blk off cap ss W hH hblk hsz),
   fun p cap W => callsIn_wide.2 (AnyM.slices_Sort_string_none Tryz.sortS p cap W)⟩
def zk (bk : Nat) : Value := .func (.func 77) #[] #[.pointer (some ⟨bk, 0, none⟩)]
theorem IE {β : Bs} (mb : Option Nat) : Spec Tryz.prog β 43 #[.map mb] [] (fun v l => ∃ bk, v = zk bk ∧ l = [.blk bk [.map mb] 97]) :=
  Spec.AZ fun W _ => by
    have h : CallsIn Fence.wide 5 Tryz.prog 43 #[.map mb] W fun e w' => e = .returned (zk W.heap.size) ∧ w' = W.alloc (.cells #[.map mb] 97) := AnyZ.keys_in Tryz.keysS Fence.wide 5 trivial rfl mb W
    refine ((callsIn_wide (n := 5)).1 h).mono ?_
    rintro e w' ⟨rfl, rfl⟩
    refine ⟨_, _, rfl, ⟨W.heap.size, rfl, rfl⟩, (Keeps.refl _ _).alloc _, fun k => k = W.heap.size, ⟨?_, fun k => Iff.rfl⟩, fun k hk => Nat.le_of_eq hk.symm⟩
    show (W.heap.push _)[W.heap.size]? = _
    simp
def mA (es : dM Th) : List Value := es.map (fun e => .string e.1)
theorem Dh {es : dM Th} (h : iz es) : (es.map (fun e => e.1.data.toList)).Pairwise (· < ·) := by
  refine List.pairwise_map.2 (h.imp (fun {a b} hab => ?_))
  unfold iK at hab
  have h1 : ¬ Op.bytesLess b.1.toList a.1.toList = true := fun e => hab (by rw [e]; rfl)
  have h2 : ¬ b.1.toList = a.1.toList := fun e => hab (by rw [e]; simp)
  rw [bytesLess_eq, Lib.toList_data, Lib.toList_data] at h1
  rw [Lib.toList_data, Lib.toList_data] at h2
  by_cases e : a.1.data.toList < b.1.data.toList
  ·exact e
  exfalso
  have e := List.not_lt.1 e
  rcases List.le_iff_lt_or_eq.1 e with e | e
  ·exact h1 (by simpa using e)
  exact h2 e
theorem IG {w : World} {b n : Nat} {L : HL} {es : dM Th} {D : DataW Value} (hr : iz es) (hown : w.ownsMap Tryz.prog 9 oA b n D) (hf : ∀ kl, Maps.has D kl = (fR L es kl).isSome) {ss : List (List UInt8)} (hp : ss.Perm (strKeys D)) :
    ss.mergeSort (fun x y => decide (x ≤ y)) = es.map (fun e => e.1.data.toList) := by
  have hsort := Dh hr
  obtain ⟨es', hD, hpw, _⟩ := hown.entries vW
  obtain ⟨Pj, Ji, hko⟩ := hown.keysOf
  obtain rfl : es' = Pj := by rw [hD] at Ji; simpa using Ji
  have hp2 : (es.map (fun e => e.1.data.toList)).Perm (strKeys D) := by
    rw [hD]
    refine perm_strKeys hpw (fun p hp => ?_) (hsort.imp (fun {a b} h e => by subst e; exact absurd h (List.lt_irrefl a))) (fun x => ?_)
    ·obtain ⟨v, hv⟩ := hko p hp
     obtain ⟨x, _, h, _⟩ := keyOf_str Tryz.underlying9 hv
     exact ⟨x, h⟩
    rw [← hD, hf]
    show _ ↔ ((aS ⟨x.toArray⟩ es).map (cI L)).isSome = true
    rw [Option.isSome_map]
    constructor
    ·intro hx
     obtain ⟨e, he, rfl⟩ := List.mem_map.1 hx
     have h1 : (⟨e.1.data.toList.toArray⟩ : ByteArray) = e.1 := by rw [Array.toArray_toList]
     rw [h1, tM (t := e.2) (iz.twice hr) he]; rfl
    intro hx
    obtain ⟨t, ht⟩ := Option.isSome_iff_exists.1 hx
    exact List.mem_map.2 ⟨_, jZ ht, by simp⟩
  have h3 := mergeSort_of_perm (hp.trans hp2.symm)
  have h4 : (es.map (fun e => e.1.data.toList)).mergeSort leB = es.map (fun e => e.1.data.toList) := List.mergeSort_of_pairwise (hsort.imp (fun {a b} h => by simp only [leB, decide_eq_true_eq]; exact List.le_of_lt h))
  exact h3.trans h4
theorem EO {β : Bs} (L : HL) (b bk n : Nat) (es : dM Th) (hr : iz es) (hn : n ≤ 8192) :
    Spec Tryz.prog β 42 #[zk bk] [.abs (aI Tryz.prog 9 b (fR L es) n), .blk bk [.map (some b)] 97] (fun v l => ∃ A cap, v = .slice A es.length cap ∧
      l = [.abs (aI Tryz.prog 9 b (fR L es) n), .blk bk [.map (some b)] 97, .abs (aH 9 1 A es.length cap (mA es))]) := by
  intro R w hS
  obtain ⟨F1, h1⟩ := hS.get (i := 0) (p := .abs (aI Tryz.prog 9 b (fR L es) n)) rfl
  obtain ⟨F2, h2⟩ := hS.get (i := 1) (p := .blk bk [.map (some b)] 97) rfl
  obtain ⟨D, hown, hsz, hhas, _⟩ := h1.1
  have hcell : w.cell? ⟨bk, 0, none⟩ = some (.map (some b)) := (eX h2.1 rfl rfl rfl).1
  have hseq : SeqGives Fence.wide 2 Tryz.prog 77 #[.pointer (some ⟨bk, 0, none⟩)] encStr (fun ss => ss.Perm (strKeys D)) (Maps.size D) w :=
    AnyZ.keys_gives (ρ := Tryz.keysS_ren) { Tryz.keysS with } Fence.wide _ trivial rfl (by omega) bk b n D w (lt_of_some h2.1) hcell hown
  have cS := AnyZ.sorted_in Tryz.sortedS Fence.wide 5 trivial trivial trivial trivial rfl (by omega) (LP _) (enters_of Tryz.func76 (by kernel_rfl) rfl) 77 #[.pointer (some ⟨bk, 0, none⟩)] trivial (enters_of Tryz.func77 (by kernel_rfl) rfl)
    (fun ss => ss.Perm (strKeys D)) (Maps.size D) (by rw [hsz]; unfold maxLen; omega) (by rw [hsz]; omega) w hseq
  change CallsIn _ _ Tryz.prog 42 _ _ _ at cS
  refine ((callsIn_wide (n := 5)).1 cS).mono ?_
  rintro e w' ⟨v, ss, rfl, hp, hrow, hnil, hb⟩
  have hkeys := IG hr hown hhas hp
  have hl2 : ss.length = es.length := by
    have h3 : (ss.mergeSort (fun x y => decide (x ≤ y))).length = ss.length := List.length_mergeSort ss
    rw [hkeys, List.length_map] at h3
    exact h3.symm
  rw [hkeys, hl2] at hrow
  have sZ : ∃ A cap, v = .slice A es.length cap := by
    rcases hrow.2 with ⟨e1, e2⟩ | ⟨g, cp, cur, e1, _⟩
    ·exact ⟨none, 0, by rw [e1, e2]⟩
    exact ⟨_, cp, e1⟩
  obtain ⟨A, cap, rfl⟩ := sZ
  have Pk : (es.map (fun e => e.1.data.toList)).map encStr = mA es := by
    rw [List.map_map]
    refine List.map_congr_left (fun e _ => ?_)
    show encStr e.1.data.toList = .string e.1
    unfold encStr
    rw [Array.toArray_toList]
  rw [Pk] at hrow
  have hq : Sat β ([.abs (aI Tryz.prog 9 b (fR L es) n), .blk bk [.map (some b)] 97, .abs R] ++ [.abs (aH 9 1 A es.length cap (mA es))]) w' := by
    refine Sat.new (F := fun k => (Value.slice A es.length cap).ownBlock = some k) hS ⟨?_, fun k => Iff.rfl⟩ ⟨hb.os, hb.tape, hb.output, hb.size, fun k hk _ => hb.block k hk⟩ (fun k hk => (hrow.lt k hk).1)
    refine ⟨hrow.1, ?_⟩
    rcases hrow.2 with h | ⟨g, cp, cur, e1, _, h3, h4⟩
    ·exact .inl h
    exact .inr ⟨g, cp, cur, e1, Nat.zero_le _, h3, h4⟩
  exact ⟨_, [.abs (aI Tryz.prog 9 b (fR L es) n), .blk bk [.map (some b)] 97, .abs (aH 9 1 A es.length cap (mA es))], rfl, ⟨A, cap, rfl, rfl⟩, hq.pick (idx := [0, 1, 3, 2]) rfl rfl⟩
end
section
open Go.RowKit Go.Maps HeapM TabM
theorem DK {ns : List aK} {n : aK} {k : Nat} (h : k < ns.length) : nd (ns ++ [n]) k = nd ns k := by
  unfold nd; rw [List.getD_eq_getElem?_getD, List.getD_eq_getElem?_getD, List.getElem?_append_left h]
theorem zl {ns : List aK} {n : aK} : nd (ns ++ [n]) ns.length = n := by
  unfold nd; rw [List.getD_eq_getElem?_getD, List.getElem?_append_right (Nat.le_refl _)]; simp
def zm : Lay := ⟨fun _ => none, fun _ => none, fun _ => 0, fun _ => 0⟩
def gS (ns : List aK) (L : Lay) (k : Nat) : bR := aH 101 2 (L.eA k) (nd ns k).ah.length (L.eC k) (fo (nd ns k).ah)
def gu (ns : List aK) (L : Lay) (k : Nat) : bR := aH 5 1 (L.dA k) (nd ns k).data.length (L.dC k) (bL (nd ns k).data)
def Ox (A : Option Addr) (c : Nat) (ns : List aK) (L : Lay) : HP := .abs (aH 70 10 A ns.length c (cg L ns))
def EP (A : Option Addr) (c : Nat) (ns : List aK) (L : Lay) : List HP := [Ox A c ns L, .abs (dY (gS ns L) ns.length), .abs (dY (gu ns L) ns.length)]
theorem nX.graph {β β' : Bs} {A : Option Addr} {c : Nat} {ns : List aK} {L : Lay} (h : nX β (EP A c ns L) β') : aB β' A ns L := by
  obtain ⟨F, h1, h2⟩ := h.get 0 rfl
  obtain ⟨G, g1, g2⟩ := h.get 1 rfl
  obtain ⟨K, k1, k2⟩ := h.get 2 rfl
  exact ⟨fQ.lW h1 h2 rfl,
    dY.base k1 k2 rfl (Φ := fun i b => bJ b (L.dA i) (nd ns i).data) (fun i _ F hF hO => fQ.lW (show (HP.abs (aH 5 1 (L.dA i) (nd ns i).data.length (L.dC i) (bL (nd ns i).data))).h F _ from hF) hO rfl),
    dY.base g1 g2 rfl (Φ := fun i b => cK b (L.eA i) (nd ns i).ah) (fun i _ F hF hO => fQ.lW (show (HP.abs (aH 101 2 (L.eA i) (nd ns i).ah.length (L.eC i) (fo (nd ns i).ah))).h F _ from hF) hO rfl)⟩
theorem Di {L : Lay} {ns : List aK} {n : aK} {dA eA : Option Addr} {dC eC : Nat} : cg L ns ++ [.int .i64 n.id, .int .i64 n.kind, .int .i64 n.mode, .int .i64 n.uid, .int .i64 n.gid, .int .i64 n.sec, .int .i64 n.nano, .slice dA n.data.length dC, .string n.target, .slice eA n.ah.length eC] = cg (L.put ns.length dA dC eA eC) (ns ++ [n]) := by
  have h := wN (ns := ns ++ [n]) (L := L) (k := ns.length) (by simp) dA dC eA eC
  rw [zl, List.take_left, List.take_of_length_le (by simp)] at h
  exact h
theorem Ag {ns : List aK} {L : Lay} {n : aK} {dA eA : Option Addr} {dC eC : Nat} : (∀ x, x < ns.length → gu (ns ++ [n]) (L.put ns.length dA dC eA eC) x = gu ns L x) ∧ gu (ns ++ [n]) (L.put ns.length dA dC eA eC) ns.length = aH 5 1 dA n.data.length dC (bL n.data) := by
  refine ⟨fun x hx => ?_, ?_⟩
  ·unfold gu Lay.put
   rw [DK hx]
   have : ¬ x = ns.length := by omega
   simp [this]
  unfold gu Lay.put
  rw [zl]
  simp
theorem Ah {ns : List aK} {L : Lay} {n : aK} {dA eA : Option Addr} {dC eC : Nat} : (∀ x, x < ns.length → gS (ns ++ [n]) (L.put ns.length dA dC eA eC) x = gS ns L x) ∧ gS (ns ++ [n]) (L.put ns.length dA dC eA eC) ns.length = aH 101 2 eA n.ah.length eC (fo n.ah) := by
  refine ⟨fun x hx => ?_, ?_⟩
  ·unfold gS Lay.put
   rw [DK hx]
   have : ¬ x = ns.length := by omega
   simp [this]
  unfold gS Lay.put
  rw [zl]
  simp
def jO (O : bM) (e : ByteArray × Th) : gM := ⟨e.1, (obj O e.2.k).id⟩
def uW (O : bM) (id : Int) (t : Th) : aK := ⟨id, t.kind, (obj O t.k).mode, (obj O t.k).uid, (obj O t.k).gid, (obj O t.k).sec, (obj O t.k).nano, (obj O t.k).data, (obj O t.k).target, (obj O t.k).ah.map (jO O)⟩
def aO (S : aG) : List aK := S.idx.map (fun p => uW S.O p.1 p.2)
theorem mB {S : aG} : (aO S).length = S.idx.length := List.length_map ..
def jP (S : aG) (i : Nat) : Th := (S.idx.getD i (0, ⟨0, 0⟩)).2
def bY (S : aG) (i : Nat) : Int := (S.idx.getD i (0, ⟨0, 0⟩)).1
section at_
variable {S : aG} {i : Nat}
theorem xZ (hi : i < S.idx.length) : S.idx[i]? = some (bY S i, jP S i) := by
  unfold bY jP
  rw [List.getD_eq_getElem?_getD, List.getElem?_eq_getElem hi]; rfl
theorem get_at (h : Inv0 S) (hi : i < S.idx.length) : TabM.get S.idx (bY S i) = some (jP S i) := lP h.rise (List.mem_of_getElem? (xZ hi))
theorem DL (h : Inv0 S) (hi : i < S.idx.length) : Live S.idx (jP S i) ∧ bY S i = ((jP S i).k : Int) := ⟨h.live (get_at h hi), h.key (get_at h hi)⟩
theorem LQ (hi : i < S.idx.length) : (keys S.idx)[i]? = some (bY S i) := by
  unfold keys
  rw [List.getElem?_map, xZ hi]; rfl
theorem sj (hi : i < S.idx.length) : (aO S).take (i + 1) = (aO S).take i ++ [uW S.O (bY S i) (jP S i)] := by
  rw [List.take_add_one]
  congr 1
  unfold aO
  rw [List.getElem?_map, xZ hi]; rfl
theorem cM (hi : i ≤ S.idx.length) : ((aO S).take i).length = i := by rw [List.length_take, mB]; omega
end at_
section sat
variable {β : Bs} {l l' : List HP} {w : World} {i j k : Nat} {O : bM} {L : HL} {ix : List Nat}
theorem Sat.LR (h : Sat β l w) (hp : l[i]? = some (.abs (ak (iC (aY O L) k bR.none)))) (hq : l[j]? = some (.abs (aH 5 1 (L.dA k) (obj O k).data.length (L.dC k) (bL (obj O k).data)))) (hd : nodupB (i :: j :: ix) = true) (hl : bN l ix = some l') (h2 : (obj O k).kind = 1) : Sat β (.abs (ak (aY O L)) :: l') w :=
  h.oI hp hq (fun _ _ h => h) hd hl k (fun _ hx => (lN hx).symm) (o9 h2)
end sat
theorem EQ {es : List gM} {e : gM} : fo es ++ [.string e.name, .int .i64 e.id] = fo (es ++ [e]) := (rM e es 0).symm
section grow
variable {ns G' : List aK} {n : aK} {L : Lay} {i dn en : Nat} {dA eA : Option Addr} {dC eC : Nat}
theorem su (hl : ns.length = i) (hG : G' = ns ++ [n]) (hd : n.data.length = dn) (he : n.ah.length = en) : cg L ns ++ [.int .i64 n.id, .int .i64 n.kind, .int .i64 n.mode, .int .i64 n.uid, .int .i64 n.gid, .int .i64 n.sec, .int .i64 n.nano, .slice dA dn dC, .string n.target, .slice eA en eC] = cg (L.put i dA dC eA eC) G' := by
  subst hl hG hd he; exact Di
theorem wA (hl : ns.length = i) (hG : G' = ns ++ [n]) : ∀ x, x < i → gu G' (L.put i dA dC eA eC) x = gu ns L x := by
  subst hl hG; exact Ag.1
theorem um (hl : ns.length = i) (hG : G' = ns ++ [n]) (hd : n.data.length = dn) : gu G' (L.put i dA dC eA eC) i = aH 5 1 dA dn dC (bL n.data) := by
  subst hl hG hd; exact Ag.2
theorem wB (hl : ns.length = i) (hG : G' = ns ++ [n]) : ∀ x, x < i → gS G' (L.put i dA dC eA eC) x = gS ns L x := by
  subst hl hG; exact Ah.1
theorem uo (hl : ns.length = i) (hG : G' = ns ++ [n]) (he : n.ah.length = en) : gS G' (L.put i dA dC eA eC) i = aH 101 2 eA en eC (fo n.ah) := by
  subst hl hG he; exact Ah.2
end grow
section more
variable {S : aG} {i j k : Nat}
theorem Nc (h : Inv0 S) (hi : i < S.idx.length) : (∃ k, jP S i = ⟨k, 1⟩ ∧ Live S.idx ⟨k, 1⟩) ∨ (∃ k, jP S i = ⟨k, 2⟩ ∧ Live S.idx ⟨k, 2⟩) ∨ ∃ k, jP S i = ⟨k, 3⟩ ∧ Live S.idx ⟨k, 3⟩ := by
  have h1 := (DL h hi).1
  generalize jP S i = t at h1 ⊢
  obtain ⟨k, kd⟩ := t
  rcases (h.ob _ h1).2.2 with e | e | e <;> simp only at e <;> subst e
  ·exact .inl ⟨k, rfl, h1⟩
  ·exact .inr (.inl ⟨k, rfl, h1⟩)
  exact .inr (.inr ⟨k, rfl, h1⟩)
theorem zn (h : Inv0 S) (hi : i < S.idx.length) : (Lit.int .i64 (bY S i)).wf = true := by
  have h1 := h.idx _ _ (get_at h hi)
  have h2 := h.last
  exact WalkArith.wf_i64 (by omega)
theorem II (hi : i < S.idx.length) : (ints (keys S.idx))[i * 1 + 0]? = some (.int .i64 (bY S i)) := by
  rw [Nat.mul_one, Nat.add_zero]
  unfold ints
  rw [List.getElem?_map, LQ hi]; rfl
theorem Ct (h : Inv0 S) {t : Th} (hl : Live S.idx t) (hk : t.kind ≠ 3) : (obj S.O t.k).target = ⟨#[]⟩ := by
  rcases (h.mt t hl).target with e | e
  ·exact e.2
  exact absurd (h.kind hl ▸ e.1) hk
theorem nQ (h : Inv0 S) (hi : i < S.idx.length) (jk : jP S i = ⟨k, 1⟩) (hl : Live S.idx ⟨k, 1⟩) : (aO S).take (i + 1) = (aO S).take i ++ [⟨bY S i, 1, (obj S.O k).mode, (obj S.O k).uid, (obj S.O k).gid, (obj S.O k).sec, (obj S.O k).nano, (obj S.O k).data, ⟨#[]⟩, []⟩] := by
  rw [sj hi, jk]
  unfold uW
  rw [show (obj S.O k).target = ⟨#[]⟩ from Ct h hl (by simp), show (obj S.O k).ah = [] from (h.mt _ hl).ah (by rw [h.kind hl]; simp)]; rfl
theorem nR (h : Inv0 S) (hi : i < S.idx.length) (jk : jP S i = ⟨k, 3⟩) (hl : Live S.idx ⟨k, 3⟩) : (aO S).take (i + 1) = (aO S).take i ++ [⟨bY S i, 3, (obj S.O k).mode, (obj S.O k).uid, (obj S.O k).gid, (obj S.O k).sec, (obj S.O k).nano, [], (obj S.O k).target, []⟩] := by
  rw [sj hi, jk]
  unfold uW
  rw [show (obj S.O k).data = [] from (h.mt _ hl).data (by rw [h.kind hl]; simp), show (obj S.O k).ah = [] from (h.mt _ hl).ah (by rw [h.kind hl]; simp)]; rfl
theorem pQ (h : Inv0 S) (hi : i < S.idx.length) (jk : jP S i = ⟨k, 2⟩) (hl : Live S.idx ⟨k, 2⟩) : (aO S).take (i + 1) = (aO S).take i ++ [⟨bY S i, 2, (obj S.O k).mode, (obj S.O k).uid, (obj S.O k).gid, (obj S.O k).sec, (obj S.O k).nano, [], ⟨#[]⟩, (obj S.O k).ah.map (jO S.O)⟩] := by
  rw [sj hi, jk]
  unfold uW
  rw [show (obj S.O k).target = ⟨#[]⟩ from Ct h hl (by simp), show (obj S.O k).data = [] from (h.mt _ hl).data (by rw [h.kind hl]; simp)]
def dO (es : dM Th) (j : Nat) : ByteArray := (es.getD j (⟨#[]⟩, ⟨0, 0⟩)).1
def wC (es : dM Th) (j : Nat) : Th := (es.getD j (⟨#[]⟩, ⟨0, 0⟩)).2
theorem ER {es : dM Th} (hj : j < es.length) : es[j]? = some (dO es j, wC es j) := by
  unfold dO wC
  rw [List.getD_eq_getElem?_getD, List.getElem?_eq_getElem hj]; rfl
theorem ES {es : dM Th} (hj : j < es.length) : (mA es)[j * 1 + 0]? = some (.string (dO es j)) := by
  rw [Nat.mul_one, Nat.add_zero]
  unfold mA
  rw [List.getElem?_map, ER hj]; rfl
theorem Oy (h : Inv0 S) {t : Th} (hl : Live S.idx t) (hj : j < (obj S.O t.k).ah.length) : bw (dO (obj S.O t.k).ah j) ∧ ((∃ k, aS (dO (obj S.O t.k).ah j) (obj S.O t.k).ah = some ⟨k, 1⟩ ∧ Live S.idx ⟨k, 1⟩ ∧ wC (obj S.O t.k).ah j = ⟨k, 1⟩) ∨ (∃ k, aS (dO (obj S.O t.k).ah j) (obj S.O t.k).ah = some ⟨k, 2⟩ ∧ Live S.idx ⟨k, 2⟩ ∧ wC (obj S.O t.k).ah j = ⟨k, 2⟩) ∨ ∃ k, aS (dO (obj S.O t.k).ah j) (obj S.O t.k).ah = some ⟨k, 3⟩ ∧ Live S.idx ⟨k, 3⟩ ∧ wC (obj S.O t.k).ah j = ⟨k, 3⟩) := by
  have hm := List.mem_of_getElem? (ER hj)
  have h1 := h.ah t hl _ hm
  have h2 := tM (h.twice hl) hm
  refine ⟨h1.1, ?_⟩
  have h3 := h1.2
  generalize wC (obj S.O t.k).ah j = u at h2 h3 ⊢
  obtain ⟨k, kd⟩ := u
  rcases (h.ob _ h3).2.2 with e | e | e <;> simp only at e <;> subst e
  ·exact .inl ⟨k, h2, h3, rfl⟩
  ·exact .inr (.inl ⟨k, h2, h3, rfl⟩)
  exact .inr (.inr ⟨k, h2, h3, rfl⟩)
theorem uq {O : bM} {es : dM Th} {kd : Int} (hj : j < es.length) (he : wC es j = ⟨k, kd⟩) : fo ((es.take j).map (jO O)) ++ [.string (dO es j), .int .i64 (obj O k).id] = fo ((es.take (j + 1)).map (jO O)) := by
  rw [List.take_add_one, ER hj, he, List.map_append]
  exact EQ (es := (es.take j).map (jO O)) (e := ⟨dO es j, (obj O k).id⟩)
end more
theorem nX.bytes {β β' : Bs} {A : Option Addr} {n c : Nat} {d : List UInt8} (h : nX β [.abs (aH 5 1 A n c (bL d))] β') : bJ β' A d := by
  obtain ⟨F, h1, h2⟩ := h.get 0 rfl
  exact fQ.lW h1 h2 rfl
end
section
open Go.RowKit
section order
variable {P : Program} {ops : Array Oper} {Q Q' : Post} {n : Nat} {S : World → Prop}
inductive pR
  | one (i : Nat)
  | two (i j : Nat)
  | three (i k j : Nat)
  | perm (G : List Nat)
def Cu (P : Program) (ops : Array Oper) (Q : Post) (S : World → Prop) (K : Act → World → Prop) : Nat → List Nat → Act → World → Prop
  | 0, _, a, w => K a w
  | n + 1, G, a, w => ∀ i ∈ G, wpOp P ops Q i (fun a' w' => S w' ∧ Cu P ops Q S K n (G.erase i) a' w') a w
def AQ (ops : Array Oper) (f : Array Bool → Bool) : Nat → List Nat → Array Bool → Bool
  | 0, _, listed => f listed
  | n + 1, G, listed => (Region.ready .any ops listed == G) && !G.isEmpty && G.all (fun i => AQ ops f n (G.erase i) (listed.setIfInBounds i true))
def jB (P : Program) (ops : Array Oper) (Q : Post) (S : World → Prop) : List pR → Act → World → Prop
  | [], a, w => Q .normal a w
  | .one i :: l, a, w => wpOp P ops Q i (fun a' w' => (l = [] ∨ S w') ∧ jB P ops Q S l a' w') a w
  | .two i j :: l, a, w =>
    wpOp P ops Q i (fun a' w' => S w' ∧ wpOp P ops Q j (fun a2 w2 => S w2 ∧ jB P ops Q S l a2 w2) a' w') a w ∧
    wpOp P ops Q j (fun a' w' => S w' ∧ wpOp P ops Q i (fun a2 w2 => S w2 ∧ jB P ops Q S l a2 w2) a' w') a w
  | .three i k j :: l, a, w =>
    wpOp P ops Q i (fun a1 w1 => S w1 ∧ wpOp P ops Q k (fun a2 w2 => S w2 ∧ wpOp P ops Q j (fun a3 w3 => S w3 ∧ jB P ops Q S l a3 w3) a2 w2) a1 w1 ∧
      wpOp P ops Q j (fun a2 w2 => S w2 ∧ wpOp P ops Q k (fun a3 w3 => S w3 ∧ jB P ops Q S l a3 w3) a2 w2) a1 w1) a w ∧
    wpOp P ops Q j (fun a1 w1 => S w1 ∧ wpOp P ops Q i (fun a2 w2 => S w2 ∧ wpOp P ops Q k (fun a3 w3 => S w3 ∧ jB P ops Q S l a3 w3) a2 w2) a1 w1) a w
  | .perm G :: l, a, w => Cu P ops Q S (jB P ops Q S l) G.length G a w
def sA (ops : Array Oper) (n : Nat) : List pR → Array Bool → Bool
  | [], listed => (Region.ready .any ops listed).isEmpty
  | .one i :: l, listed => (Region.ready .any ops listed == [i]) && (!l.isEmpty || i == n) && sA ops n l (listed.setIfInBounds i true)
  | .two i j :: l, listed => (Region.ready .any ops listed == [i, j]) && (Region.ready .any ops (listed.setIfInBounds i true) == [j]) && (Region.ready .any ops (listed.setIfInBounds j true) == [i]) && decide (i ≠ j) && sA ops n l ((listed.setIfInBounds i true).setIfInBounds j true)
  | .three i k j :: l, listed => (Region.ready .any ops listed == [i, j]) && (Region.ready .any ops (listed.setIfInBounds i true) == [k, j]) && (Region.ready .any ops ((listed.setIfInBounds i true).setIfInBounds k true) == [j]) && (Region.ready .any ops ((listed.setIfInBounds i true).setIfInBounds j true) == [k]) &&
    (Region.ready .any ops (listed.setIfInBounds j true) == [i]) && decide (i ≠ j) && decide (k ≠ j) && sA ops n l (((listed.setIfInBounds i true).setIfInBounds k true).setIfInBounds j true)
  | .perm G :: l, listed => AQ ops (sA ops n l) G.length G listed
def qI : List pR → Nat
  | [] => 0
  | .one _ :: l => qI l + 1
  | .two _ _ :: l => qI l + 2
  | .three _ _ _ :: l => qI l + 3
  | .perm G :: l => qI l + G.length
theorem Cv {K : Act → World → Prop} {f : Array Bool → Bool} {m : Nat} (hK : ∀ listed a w, f listed = true → K a w → ja P ops (NP Q) n S m listed a w) : ∀ (k : Nat) (G : List Nat) (listed : Array Bool) (a : Act) (w : World), AQ ops f k G listed = true → Cu P ops (NP Q) S K k G a w → ja P ops (NP Q) n S (m + k) listed a w
  | 0, G, listed, a, w, hb, h => hK listed a w hb h
  | k + 1, G, listed, a, w, hb, h => by
    unfold AQ at hb
    simp only [Bool.and_eq_true, beq_iff_eq] at hb
    obtain ⟨⟨h1, h2⟩, h3⟩ := hb
    refine ⟨fun h0 => (by rw [h1] at h0; rw [h0] at h2; cases h2), fun j hj => ?_⟩
    rw [h1] at hj
    exact wpOp_mono (fun a' w' g => ⟨.inr g.1, Cv hK k (G.erase j) _ a' w' (List.all_eq_true.1 h3 j hj) g.2⟩) (h j hj)
theorem lV : ∀ (l : List pR) (listed : Array Bool) (a : Act) (w : World), sA ops n l listed = true → jB P ops (NP Q) S l a w → ja P ops (NP Q) n S (qI l) listed a w
  | [], listed, a, w, hb, h => ⟨List.isEmpty_iff.1 hb, h⟩
  | .one i :: l, listed, a, w, hb, h => by
    unfold sA at hb
    simp only [Bool.and_eq_true, beq_iff_eq] at hb
    obtain ⟨⟨h1, h2⟩, h3⟩ := hb
    refine ⟨fun h0 => (by rw [h1] at h0; cases h0), fun j hj => ?_⟩
    rw [h1] at hj
    have hj : j = i := by simpa using hj
    subst hj
    refine wpOp_mono (fun a' w' h4 => ⟨?_, lV l _ a' w' h3 h4.2⟩) h
    rcases h4.1 with h5 | h5
    ·subst h5; exact .inl (by simpa using h2)
    exact .inr h5
  | .two i j :: l, listed, a, w, hb, h => by
    unfold sA at hb
    simp only [Bool.and_eq_true, beq_iff_eq, decide_eq_true_iff] at hb
    obtain ⟨⟨⟨⟨h1, h2⟩, h3⟩, hij⟩, h4⟩ := hb
    refine ⟨fun h0 => (by rw [h1] at h0; cases h0), fun k hk => ?_⟩
    rw [h1] at hk
    have hk : k = i ∨ k = j := by simpa using hk
    rcases hk with rfl | rfl
    ·refine wpOp_mono (fun a' w' h5 => ⟨.inr h5.1, fun h0 => (by rw [h2] at h0; cases h0), fun k' hk' => ?_⟩) h.1
     rw [h2] at hk'
     have hk' : k' = j := by simpa using hk'
     subst hk'
     exact wpOp_mono (fun a2 w2 h6 => ⟨.inr h6.1, lV l _ a2 w2 h4 h6.2⟩) h5.2
    refine wpOp_mono (fun a' w' h5 => ⟨.inr h5.1, fun h0 => (by rw [h3] at h0; cases h0), fun k' hk' => ?_⟩) h.2
    rw [h3] at hk'
    have hk' : k' = i := by simpa using hk'
    subst hk'
    refine wpOp_mono (fun a2 w2 h6 => ⟨.inr h6.1, ?_⟩) h5.2
    rw [Array.setIfInBounds_comm _ _ (fun e => hij e.symm)]
    exact lV l _ a2 w2 h4 h6.2
  | .three i k j :: l, listed, a, w, hb, h => by
    unfold sA at hb
    simp only [Bool.and_eq_true, beq_iff_eq, decide_eq_true_iff] at hb
    obtain ⟨⟨⟨⟨⟨⟨⟨h1, h2⟩, h3⟩, h4⟩, h5⟩, hij⟩, hkj⟩, h6⟩ := hb
    have one : ∀ {x : Nat} {ls : Array Bool} {fuel : Nat} {a : Act} {w : World}, Region.ready .any ops ls = [x] → wpOp P ops (NP Q) x (fun a' w' => S w' ∧ ja P ops (NP Q) n S fuel (ls.setIfInBounds x true) a' w') a w → ja P ops (NP Q) n S (fuel + 1) ls a w := fun {x ls fuel a w} hr hx => by
      refine ⟨fun h0 => (by rw [hr] at h0; cases h0), fun y hy => ?_⟩
      rw [hr] at hy
      have hy : y = x := by simpa using hy
      subst hy
      exact wpOp_mono (fun a' w' h => ⟨.inr h.1, h.2⟩) hx
    have e1 : (((listed.setIfInBounds i true).setIfInBounds j true).setIfInBounds k true) = (((listed.setIfInBounds i true).setIfInBounds k true).setIfInBounds j true) := Array.setIfInBounds_comm _ _ (fun e => hkj e.symm)
    have e2 : ((listed.setIfInBounds j true).setIfInBounds i true) = ((listed.setIfInBounds i true).setIfInBounds j true) := Array.setIfInBounds_comm _ _ (fun e => hij e.symm)
    refine ⟨fun h0 => (by rw [h1] at h0; cases h0), fun x hx => ?_⟩
    rw [h1] at hx
    have hx : x = i ∨ x = j := by simpa using hx
    rcases hx with rfl | rfl
    ·refine wpOp_mono (fun a1 w1 g => ⟨.inr g.1, fun h0 => (by rw [h2] at h0; cases h0), fun y hy => ?_⟩) h.1
     rw [h2] at hy
     have hy : y = k ∨ y = j := by simpa using hy
     rcases hy with rfl | rfl
     ·exact wpOp_mono (fun a2 w2 g2 => ⟨.inr g2.1, one h3 (wpOp_mono (fun a3 w3 g3 => ⟨g3.1, lV l _ a3 w3 h6 g3.2⟩) g2.2)⟩) g.2.1
     exact wpOp_mono (fun a2 w2 g2 => ⟨.inr g2.1, one h4 (wpOp_mono (fun a3 w3 g3 => ⟨g3.1, by rw [e1]; exact lV l _ a3 w3 h6 g3.2⟩) g2.2)⟩) g.2.2
    refine wpOp_mono (fun a1 w1 g => ⟨.inr g.1, one h5 (wpOp_mono (fun a2 w2 g2 => ⟨g2.1, ?_⟩) g.2)⟩) h.2
    rw [e2]
    exact one h4 (wpOp_mono (fun a3 w3 g3 => ⟨g3.1, by rw [e1]; exact lV l _ a3 w3 h6 g3.2⟩) g2.2)
  | .perm G :: l, listed, a, w, hb, h => Cv (m := qI l) (fun ls a w hb h => lV l ls a w hb h) G.length G listed a w hb h
def kO (P : Program) (ops : Array Oper) (Q : Post) (S : World → Prop) (es : List pR) : List Nat → Act → World → Prop
  | [], a, w => jB P ops Q S es a w
  | i :: l, a, w => ∃ o v, ops[i]? = some o ∧ YieldsIf P ops S o v a ∧ kO P ops Q S es l (a.put o.dst v) w
def AR (ops : Array Oper) (n : Nat) (es : List pR) : List Nat → Array Bool → Bool
  | [], listed => sA ops n es listed
  | i :: l, listed => decide (i < n) && Region.free .any ops listed i && (Region.ready .any ops listed).contains i && AR ops n es l (listed.setIfInBounds i true)
theorem Cw {es : List pR} (hsel : Region.noSelect ops = true) (l6 : Region.sinkB .any ops n = true) : ∀ (l : List Nat) (listed : Array Bool) (a : Act) (w : World), AR ops n es l listed = true → Closed ops listed → S w → kO P ops (NP Q) S es l a w → ja P ops (NP Q) n S (l.length + qI es) listed a w
  | [], listed, a, w, hb, _, _, h => by
    rw [List.length_nil, Nat.zero_add]
    exact lV es listed a w hb h
  | i :: l, listed, a, w, hb, hc, hS, h => by
    unfold AR at hb
    simp only [Bool.and_eq_true, decide_eq_true_iff] at hb
    obtain ⟨⟨⟨h1, h2⟩, h3⟩, h4⟩ := hb
    obtain ⟨o, v, ho, hy, hk⟩ := h
    have hr : i ∈ Region.ready .any ops listed := by simpa using h3
    have e : (i :: l).length + qI es = (l.length + qI es) + 1 := by rw [List.length_cons]; omega
    rw [e]
    exact o7 ho hsel l6 h1 _ listed a w hc (Region.free_spec ho h2) hr hy hS (Cw hsel l6 l _ _ w h4 (hc.set hr) hS hk)
def DM (ops : Array Oper) (rs : List Nat) (es : List pR) : Bool :=
  Region.noSelect ops && Region.sinkB .any ops (ops.size - 1) && (rs.length + qI es == ops.size) && AR ops (ops.size - 1) es rs (Array.replicate ops.size false)
end order
section mix
variable {P : Program} {β : Bs} {N : Nat} {ops : Array Oper} {S : List HP} {rs : List Nat} {es : List pR} {fr fr' : Fr} {hps : List HP} {Q : Post} {aV : List Prop} {i j : Nat}
def fL (P : Program) (β : Bs) (N : Nat) (ops : Array Oper) (S : List HP) (es : List pR) (rs : List Nat) (fr : Fr) (hps : List HP) (Q : Post) : Prop :=
  ∀ junk w, Sat β hps w → kO P ops (NP Q) (Sat β S) es rs (cx N fr junk) w
theorem af.oP {id : Nat} (rs : List Nat) (es : List pR) (pk : List Nat) (hm : P.follows .mixedOrders = true) (hB : DM ops rs es = true) (hn : nodupB pk = true) (hp : bN hps pk = some S) (h : fL P β N ops S es rs fr hps Q) : af P β N (.region id ops true) fr hps Q := by
  intro junk w hS
  unfold DM at hB
  simp only [Bool.and_eq_true, beq_iff_eq] at hB
  obtain ⟨⟨⟨h1, h2⟩, h3⟩, h4⟩ := hB
  have cP := hS.drewN 1
  have h5 := Cw (Q := Q) h1 h2 rs _ _ _ h4 (fun j oj _ hl => by simp [Array.getD_eq_getD_getElem?, Array.getElem?_replicate] at hl; split at hl <;> simp at hl) (cP.pick hn hp) (h junk (w.drewN 1) cP)
  rw [h3] at h5
  refine Code.wp_mono (fun e a w q => ?_) (wp_region_any hm (lZ _ _ _ _ h5))
  cases e with
  | normal => exact q
  | exit id => exact q.elim
  | goto l => exact q.elim
  | ret => exact q.elim
  | panic ch => exact q.elim
  | outgrown => exact q.elim
theorem sR {junk : Nat → Value} {w : World} : ∀ {hs : List OH} {is : List Nat} {fr fr' : Fr} {T T' : SS}, nF P β N junk ops hs is fr T = some (fr', T') → (∀ p, p ∈ T'.aV → p) → T.used = true → T.hps = S →
    kO P ops (NP Q) (Sat β S) es rs (cx N fr' junk) w → kO P ops (NP Q) (Sat β S) es (is ++ rs) (cx N fr junk) w
  | [], [], fr, fr', T, T', h, ho, hu, hT, hK => by cases h; exact hK
  | h :: hs, i :: is, fr, fr', T, T', hr, ho, hu, hT, hK => by
    unfold nF at hr
    repeat' split at hr
    all_goals first | (cases hr; done) | skip
    rename_i o hget _ Bg _ v T1 h0 _ hv
    obtain ⟨e1, e2⟩ := qN h0
    rw [List.cons_append]
    unfold kO
    refine ⟨o, v, hget, .inl ⟨by unfold Region.wanted; rw [Bg], fun w' cP => ?_⟩, ?_⟩
    ·rw [di]
     obtain ⟨w2, h1, _, _, h4⟩ := kf h0 (fun p hp => ho p (rO hr p hp)) (by rw [hT]; exact cP) (fun e => by rw [hu] at e; cases e)
     obtain ⟨ew, _⟩ := h4 rfl
     rw [ew] at h1
     rcases h1 with h1 | ⟨h1, _⟩
     ·exact h1
     exact absurd h1 (p6 hv)
    rw [dg]
    exact sR hr ho (e2.trans hu) (e1.trans hT) hK
  | [], _ :: _, _, _, _, _, h, _, _, _, _ => by cases h
  | _ :: _, [], _, _, _, _, h, _, _, _, _ => by cases h
theorem fL.reads (is : List Nat) (hs : List OH) (idx : List Nat) (h : ∀ junk, uG P β N junk ops hs is fr S idx = some (fr', aV)) (ho : iP aV) (K : fL P β N ops S es rs fr' hps Q) : fL P β N ops S es (is ++ rs) fr hps Q := by
  intro junk w hS
  have h0 := h junk
  unfold uG at h0
  split at h0
  ·rename_i jR S1 h1
   cases h0
   have hK := K (lk jR junk) w hS
   rw [← iO] at hK
   exact sR h1 (fun p hp => ho.mem hp) rfl rfl hK
  cases h0
theorem fL.pair {ι LU LV : Type} {Gs : LU → Fr} {hpi : LU → List HP} {Gt : LV → Fr} {Gu : LV → List HP} {fr' : ι → Fr} {hp' : ι → List HP} {oi oj : Oper} (NM NR pk : List Nat)
    (hi : ops[i]? = some oi) (Cx : oi.guard = none) (hj : ops[j]? = some oj) (DN : oj.guard = none)
    (h1 : aj P β N #[oi] 0 fr hps (NP (iY β N Gs hpi))) (h2 : ∀ a, aj P β N #[oj] 0 (Gs a) (hpi a) (NP (iY β N fr' hp')))
    (h3 : aj P β N #[oj] 0 fr hps (NP (iY β N Gt Gu))) (h4 : ∀ a, aj P β N #[oi] 0 (Gt a) (Gu a) (NP (iY β N fr' hp')))
    (hni : nodupB NM = true) (Oz : ∀ a, bN (hpi a) NM = some S) (Pm : nodupB NR = true) (OA : ∀ a, bN (Gu a) NR = some S) (hn : nodupB pk = true) (hp : ∀ a, bN (hp' a) pk = some S)
    (K : ∀ a, fL P β N ops S es [] (fr' a) (hp' a) Q) : fL P β N ops S (.two i j :: es) [] fr hps Q := by
  intro junk w hS
  unfold kO jB
  refine ⟨eZ hi Cx (gU (fun a w ⟨x, fC, ha, cP⟩ => ?_) (show wpList P #[oi] (NP (iY β N Gs hpi)) [oi] (cx N fr junk) w from h1 junk w hS)), eZ hj DN (gU (fun a w ⟨x, fC, ha, cP⟩ => ?_) (show wpList P #[oj] (NP (iY β N Gt Gu)) [oj] (cx N fr junk) w from h3 junk w hS))⟩
  ·subst ha
   refine ⟨cP.pick hni (Oz x), eZ hj DN (gU (fun a w ⟨y, ET, ha, q4⟩ => ?_) (show wpList P #[oj] (NP (iY β N fr' hp')) [oj] (cx N (Gs x) fC) w from h2 x fC w cP))⟩
   subst ha
   exact ⟨q4.pick hn (hp y), K y ET _ q4⟩
  subst ha
  refine ⟨cP.pick Pm (OA x), eZ hi Cx (gU (fun a w ⟨y, ET, ha, q4⟩ => ?_) (show wpList P #[oi] (NP (iY β N fr' hp')) [oi] (cx N (Gt x) fC) w from h4 x fC w cP))⟩
  subst ha
  exact ⟨q4.pick hn (hp y), K y ET _ q4⟩
theorem fL.three {k : Nat} {ι Gv Gw Gx Gy Gz : Type} {fa : Gv → Fr} {ha : Gv → List HP} {fb : Gw → Fr} {hb : Gw → List HP} {fc : Gx → Fr} {hc : Gx → List HP} {fd : Gy → Fr} {hd : Gy → List HP} {fe : Gz → Fr} {he : Gz → List HP} {fr' : ι → Fr} {hp' : ι → List HP} {oi ok oj : Oper} (pa pb pc pd pe pk : List Nat)
    (hi : ops[i]? = some oi) (Cx : oi.guard = none) (hk : ops[k]? = some ok) (LW : ok.guard = none) (hj : ops[j]? = some oj) (DN : oj.guard = none)
    (h1 : aj P β N #[oi] 0 fr hps (NP (iY β N fa ha))) (h2 : ∀ x, aj P β N #[ok] 0 (fa x) (ha x) (NP (iY β N fb hb))) (h3 : ∀ x, aj P β N #[oj] 0 (fb x) (hb x) (NP (iY β N fr' hp')))
    (h4 : ∀ x, aj P β N #[oj] 0 (fa x) (ha x) (NP (iY β N fc hc))) (h5 : ∀ x, aj P β N #[ok] 0 (fc x) (hc x) (NP (iY β N fr' hp')))
    (h6 : aj P β N #[oj] 0 fr hps (NP (iY β N fd hd))) (h7 : ∀ x, aj P β N #[oi] 0 (fd x) (hd x) (NP (iY β N fe he))) (h8 : ∀ x, aj P β N #[ok] 0 (fe x) (he x) (NP (iY β N fr' hp')))
    (na : nodupB pa = true) (qa : ∀ x, bN (ha x) pa = some S) (nb : nodupB pb = true) (qb : ∀ x, bN (hb x) pb = some S) (nc : nodupB pc = true) (qc : ∀ x, bN (hc x) pc = some S) (nd : nodupB pd = true) (qd : ∀ x, bN (hd x) pd = some S) (ne : nodupB pe = true) (qe : ∀ x, bN (he x) pe = some S) (hn : nodupB pk = true) (hp : ∀ x, bN (hp' x) pk = some S)
    (K : ∀ a, fL P β N ops S es [] (fr' a) (hp' a) Q) : fL P β N ops S (.three i k j :: es) [] fr hps Q := by
  have step : ∀ {κ : Type} {g : κ → Fr} {hg : κ → List HP} {x : Nat} {o : Oper} {pg : List Nat} {f0 : Fr} {h0 : List HP} {junk : Nat → Value} {w : World} {R : Act → World → Prop}, ops[x]? = some o → o.guard = none → aj P β N #[o] 0 f0 h0 (NP (iY β N g hg)) → nodupB pg = true → (∀ y, bN (hg y) pg = some S) → Sat β h0 w →
      (∀ y junk w, Sat β (hg y) w → R (cx N (g y) junk) w) → wpOp P ops (NP Q) x (fun a w => Sat β S w ∧ R a w) (cx N f0 junk) w := fun {κ g hg x o pg f0 h0 junk w R} e1 e2 e3 e4 e5 e6 e7 =>
    eZ e1 e2 (gU (fun a w ⟨y, fC, ea, cP⟩ => by subst ea; exact ⟨cP.pick e4 (e5 y), e7 y fC w cP⟩) (show wpList P #[o] (NP (iY β N g hg)) [o] (cx N f0 junk) w from e3 junk w e6))
  intro junk w hS
  unfold kO jB
  have fin : ∀ y junk w, Sat β (hp' y) w → jB P ops (NP Q) (Sat β S) es (cx N (fr' y) junk) w := fun y junk w h => K y junk w h
  refine ⟨step hi Cx h1 na qa hS (fun x jx wx sx => ⟨?_, ?_⟩), step hj DN h6 nd qd hS (fun x jx wx sx => step hi Cx (h7 x) ne qe sx (fun y jy wy sy => step hk LW (h8 y) hn hp sy fin))⟩
  ·exact step hk LW (h2 x) nb qb sx (fun y jy wy sy => step hj DN (h3 y) hn hp sy fin)
  exact step hj DN (h4 x) nc qc sx (fun y jy wy sy => step hk LW (h5 y) hn hp sy fin)
theorem fL.cut {ι : Type} {fr' : ι → Fr} {hp' : ι → List HP} {o : Oper} (pk : List Nat) (hop : ops[i]? = some o) (hg : o.guard = none) (h : aj P β N #[o] 0 fr hps (NP (iY β N fr' hp'))) (hn : nodupB pk = true) (hp : ∀ j, bN (hp' j) pk = some S)
    (K : ∀ j, fL P β N ops S es [] (fr' j) (hp' j) Q) : fL P β N ops S (.one i :: es) [] fr hps Q := by
  intro junk w hS
  unfold kO jB
  refine eZ hop hg (gU (fun a w ⟨j, fC, ha, cP⟩ => ?_) (show wpList P #[o] (NP (iY β N fr' hp')) [o] (cx N fr junk) w from h junk w hS))
  subst ha
  exact ⟨.inr (cP.pick hn (hp j)), K j fC _ cP⟩
def Qk (P : Program) (β : Bs) (N : Nat) (ops : Array Oper) (Q : Post) (i d : Nat) (ds : List Nat) (fr : Fr) (pre : List HP) (post : Value → List HP → Prop) : Prop :=
  ∀ junk w (A : bR), Sat β (pre ++ [.abs A]) w → wpOp P ops (NP Q) i (fun a' w' => ∃ v l fC, post v l ∧ a' = cx N fr fC ∧ fC d = v ∧ (∀ t ∈ ds, t ≠ d → fC t = junk t) ∧ Sat β (l ++ [.abs A]) w') (cx N fr junk) w
def Qy (Pn : List Nat) (u : Nat → Value) : Fr := Pn.map fun t => (t, u t)
theorem fL.last {o : Oper} (hop : ops[i]? = some o) (hg : o.guard = none) (h : aj P β N #[o] 0 fr hps (NP Q)) : fL P β N ops S [.one i] [] fr hps Q := by
  intro junk w hS
  unfold kO jB
  exact eZ hop hg (gU (fun a w hq => ⟨.inl rfl, by unfold jB; exact hq⟩) (show wpList P #[o] (NP Q) [o] (cx N fr junk) w from h junk w hS))
end mix
end
end Go.Proofs.YtkiedlmhocglhaaGreatDoor
