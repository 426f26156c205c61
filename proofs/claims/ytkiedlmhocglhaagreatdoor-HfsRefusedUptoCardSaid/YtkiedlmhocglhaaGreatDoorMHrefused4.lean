/-
  PROVED HERE: lemmas and contracts of functions (texts of this repo, joined; what the claim does not use is left out): H5, H6, ShelfP, As, H7, Vg, H8, H9, Vh, HD, H10, ShelfS, SK.
  CONDITIONS: as the theorems say.
-/
import Derived.Test.YtkiedlmhocglhaaGreatDoorMHrefused3
import Derived.Shelf.Strings.Split
import Derived.Test.YtkiedlmhocglhaaGreatDoorProg
import Derived.Laws.IdiomStrings
import Derived.Lib.SplitLaws
import Derived.Shelf.SlGeneric
import Derived.Shelf.SlIter.Nil
import Derived.Shelf.SortM.Plain
import Derived.Shelf.SortM.SortNone
import Derived.Ground.GgzProg
import Derived.Ground.SlgmProg
set_option maxRecDepth 100000
set_option maxHeartbeats 4000000
namespace Go.Proofs.YtkiedlmhocglhaaGreatDoor
section
open Go.RowKit Go.Maps HeapM TabM
attribute [local irreducible] ai aR af aj
abbrev Cr (f : Nat) (L : HL) (d : Nat) (name) := ([(61, vP f), (62, vP (L.b d)), (63, .string name)] : Fr)
abbrev Cs (f : Nat) (L : HL) (to : Nat) (toName) := ([(65, vP f), (66, vP (L.b to)), (67, .string toName)] : Fr)
abbrev JM (f : Nat) (L : HL) (d : Nat) (name) (to : Nat) (toName) := ([(0, vP f), (1, vP (L.b d)), (2, .string name), (3, vP (L.b to)), (4, .string toName)] : Fr)
abbrev sY (L : HL) (to : Nat) (toName) := ([(45, .map (some (L.m to))), (46, .string toName)] : Fr)
abbrev JN (f : Nat) (L : HL) (to : Nat) (toName) := ([(57, vP f), (58, vP (L.b to)), (59, .string toName)] : Fr)
abbrev JO (L : HL) (to : Nat) := ([(12, .pointer none), (13, .bool false), (14, vP (L.b to))] : Fr)
theorem x9 {β : Bs} (S : aI) (L : HL) (f m t : Nat) (hI : Inv S) (d : Nat) (hd : Live S.idx ⟨d, 2⟩) (name : ByteArray) (hsz : name.size ≤ 1048576) (to : Nat) (hto : Live S.idx ⟨to, 2⟩) (toName : ByteArray) (mD : toName.size ≤ 1048576) :
    Spec Tryz.prog β 62 #[vP f, vP (L.b d), .string name, vP (L.b to), .string toName] (pA f m t L S) (fun v l => ∃ L2, v = vI (renameM S d name to toName).1 ∧ l = (pA f m t L2 ((renameM S d name to toName).2))) := by
 have hX := hI.hX
 have hel : (obj S.O d).ah.length ≤ 8192 := hI.eS hd
 have hkd : (obj S.O d).kind = 2 := hI.kind hd
 have dg : (obj S.O to).kind = 2 := hI.kind hto
 have Qd : (obj S.O to).ah.length ≤ 8192 := hI.eS hto
 refine Spec.enter Tryz.func62 rfl Tryz.ntmps62 (Nat.le_of_ble_eq_true rfl) (fun R => ?_)
 refine af.seq ?_
 rcases hI.jY hd name with hlk | ⟨tk, hlk, hlv⟩ | ⟨tk, hlk, hlv⟩ | ⟨tk, hlk, hlv⟩
 ·refine af.region ?_
  refine gK 1 [] [] ?_
  refine NS ?_
  refine gK 5 [(19, .map (some (L.m d))), (20, .string name)] [(3, v_ 3 (bC L hkd))] ?_
  refine fR 5 hkd hlk ?_
  refine gK 1 [(11, .nilIface)] [] ?_
  refine NN (af.seq (SR ?_))
  refine gK 2 [(23, .bool true)] [] ?_
  refine NN ?_
  refine CT ?_
  refine SR ?_
  refine gK 1 [(10, vI 170)] [] ?_
  refine NN (af.ret (aj.ar ?_))
  exact RT (vI 170) [0, 1, 2, 3, 4, 5, 6] (⟨L, by rw [show renameM S d name to toName = (170, S) by unfold renameM; rw [hlk]] <;> exact ⟨rfl, rfl⟩⟩)
 ·have hkt : (obj S.O tk).kind = 1 := hI.kind hlv
  refine af.region ?_
  refine gK 1 [] [] ?_
  refine NS ?_
  refine gK 5 [(19, .map (some (L.m d))), (20, .string name)] [(3, v_ 3 (bC L hkd))] ?_
  refine fR 5 hkd hlk ?_
  refine gK 1 [(11, .iface 89 (vP (L.b tk)))] [] ?_
  refine NN (af.seq (SR ?_))
  refine gK 2 [(23, .bool false)] [] ?_
  refine NN ?_
  refine CF ?_
  refine af.skip (NX (SR ?_))
  refine gK 7 [(12, .pointer none), (13, .bool false)] [] ?_
  refine NN (af.seq (SR ?_))
  refine gK 2 [(14, vP (L.b to))] [] ?_
  refine NN (af.block ?_)
  refine af.loop (ι := Unit) (fun (u : Unit) => True) (fun (u : Unit) => 0) (fun (u : Unit) => (JM f L d name to toName ++ [(11, .iface 89 (vP (L.b tk)))] ++ JO L to)) (fun (u : Unit) => ((pA f m t L S) ++ [.abs R])) () (idx := [0, 1, 2, 3, 4, 11, 12, 13, 14]) (pk := [0, 1, 2, 3, 4, 5, 6]) (show True from trivial) (fun _ => by kernel_rfl) rfl (by kernel_rfl) ?_
  rintro u _
  show af _ _ _ _ (JM f L d name to toName ++ [(11, .iface 89 (vP (L.b tk)))] ++ JO L to) ((pA f m t L S) ++ [.abs R]) _
  refine af.seq (SR ?_)
  refine gK 5 [(34, .bool false)] [] ?_
  refine NN ?_
  refine CF ?_
  refine af.exit (aj.bg (aj.bg (aj.cA (NX (af.seq ?_)))))
  skip
  rcases hI.jY hto toName with bp | ⟨ok, bp, dr⟩ | ⟨ok, bp, dr⟩ | ⟨ok, bp, dr⟩
  ·refine af.region ?_
   refine gK 5 (sY L to toName) [(3, v_ 3 (bC L dg))] ?_
   refine fR 5 dg bp ?_
   refine gK 1 [(15, .nilIface)] [] ?_
   refine NN (af.seq (SR ?_))
   refine gK 3 [(50, .bool false)] [] ?_
   refine NN ?_
   refine CF ?_
   refine af.skip (NX (af.seq (SR ?_)))
   refine gK 2 [(52, .bool false)] [] ?_
   refine NN ?_
   refine CF ?_
   refine af.skip (NX (SR ?_))
   have bT : Inv S := hI
   have hd1 := hd
   have dI := hlk
   have nj := bp
   have iL := hto
   have iN : (obj S.O d).kind = 2 := bT.kind hd1
   have nk : (obj S.O to).kind = 2 := bT.kind iL
   have jo : Live S.idx ⟨tk, 1⟩ := (bT.ent hd1 dI).2
   have jq : (obj S.O tk).kind = 1 := bT.kind jo
   have zl : (obj S.O d).ah.length ≤ 8192 := bT.eS hd1
   have zm : (obj S.O to).ah.length ≤ 8192 := bT.eS iL
   have nu := bT.lb jo
   have jr : tk ≠ d := bT.ne hd1 dI
   refine gK 3 (Cr f L d name) [] ?_
   refine gL [0, 3, 5] (iy S.X f m t bT.hX S.O L d iN name hsz ⟨tk, 1⟩ jq (by simp) dI (bT.twice hd1) (by omega) (by simp only at nu ⊢; omega)) ?_
   rintro _ _ ⟨rfl, rfl⟩
   refine NS ?_
   refine gK 4 (Cs f L to toName ++ [(68, .iface 89 (vP (L.b tk)))]) [] ?_
   refine gL [0, 1, 2] (fV { S.X with ah := S.X.ah - 1 } f m t (bT.vw hd1 dI) (aO S.X S.O d name ⟨tk, 1⟩) L to (bX.trans nk) toName mD (iX jr nj) (Nat.le_trans (kq jr) (by omega)) ⟨tk, 1⟩ (bX.trans jq) (by simp) (jc bT.toInv0 hd1 dI)) ?_
   rintro _ _ ⟨rfl, rfl⟩
   refine NS ?_
   refine ai.mem (aL := [.blk f [vI (S.X.cN), vI (S.X.cB), vI (S.X.cH), vI (S.X.cS), vI (S.X.cZ), .map (some m), vP t, vI (S.X.last), vI (S.X.ah - 1 + 1), vI (S.X.used)] 86, .abs (ak (aQ (br S.X (aO S.X S.O d name ⟨tk, 1⟩) to toName ⟨tk, 1⟩) L)), .abs (ak (bh (br S.X (aO S.X S.O d name ⟨tk, 1⟩) to toName ⟨tk, 1⟩) L)), .abs (aH Tryz.prog 3 m (aP (aK L S.idx)) S.idx.length), .abs (aZ 156 t S.X.cH S.ay (aK L S.us)), .abs (ak (aW (br S.X (aO S.X S.O d name ⟨tk, 1⟩) to toName ⟨tk, 1⟩) L)), .abs R]) (fun w hS => by rw [show aW (br S.X (aO S.X S.O d name ⟨tk, 1⟩) to toName ⟨tk, 1⟩) L = aW S.O L from fI.trans iW]; exact hS) ?_
   refine gK 1 [(10, vI 0)] [] ?_
   refine NN (af.ret ?_)
   exact RT (vI 0) [0, 3, 4, 1, 5, 2, 6] (⟨L, by rw [show renameM S d name to toName = (0, lp S d name to toName ⟨tk, 1⟩) by unfold renameM; rw [hlk]; refine (if_neg (fun h => absurd h.1 (by simp))).trans ?_; rw [bp]] <;> exact ⟨rfl, rfl⟩⟩)
  ·have jt : (obj S.O ok).kind = 1 := hI.kind dr
   refine af.region ?_
   refine gK 5 (sY L to toName) [(3, v_ 3 (bC L dg))] ?_
   refine fR 5 dg bp ?_
   refine gK 1 [(15, .iface 89 (vP (L.b ok)))] [] ?_
   refine NN (af.seq (SR ?_))
   refine gK 2 [(48, .iface 89 (vP (L.b ok))), (49, .iface 89 (vP (L.b tk)))] [] ?_
   refine ai.ia (d := (some 50)) (op := .binOp .eql 84 (.tmp 48) (.tmp 49) 84) (v := .bool (decide (ok = tk))) (fun _ => by kernel_rfl) (fun o junk w ho hS => by obtain ⟨F, hF⟩ := hS.get (i := 3) rfl; exact ⟨w, wq Lu ho (by kernel_rfl) (by kernel_rfl) (by rw [jt]; decide) (by rw [hkt]; decide) hF, hS⟩) ?_
   refine NN ?_
   refine af.bB (p := ok = tk) (fun _ => by kernel_rfl) (fun h50 => ?_) (fun h50 => ?_)
   ·refine SR ?_
    refine gK 1 [(10, vI 0)] [] ?_
    refine NN (af.ret (aj.ar ?_))
    exact RT (vI 0) [0, 1, 2, 3, 4, 5, 6] (⟨L, by rw [show renameM S d name to toName = (0, S) by unfold renameM; rw [hlk]; refine (if_neg (fun h => absurd h.1 (by simp))).trans ?_; rw [bp]; exact if_pos (by rw [h50])] <;> exact ⟨rfl, rfl⟩⟩)
   refine af.skip (NX (af.seq (SR ?_)))
   refine gK 2 [(52, .bool true)] [] ?_
   refine NN ?_
   refine CT ?_
   refine af.seq (SR ?_)
   refine gK 1 [(53, .iface 89 (vP (L.b ok)))] [] ?_
   refine gL [] (jH (vP (L.b ok))) ?_
   rintro _ _ ⟨rfl, rfl⟩
   refine gK 1 [(55, .bool false)] [] ?_
   refine NN ?_
   refine CF ?_
   refine af.skip (NX (af.seq (SR ?_)))
   refine gK 1 [(56, .bool false)] [] ?_
   refine NN ?_
   refine CF ?_
   refine af.skip (NX (af.region ?_))
   refine gK 3 (JN f L to toName) [] ?_
   refine gL [0, 3, 5, 1] (lE S L f m t hI to hto toName mD ⟨ok, 1⟩ bp) ?_
   rintro _ _ ⟨rfl, rfl⟩
   refine NS ?_
   have bT : Inv (ax S to toName ⟨ok, 1⟩) := hI.uX hto bp (by simp)
   have hot : (⟨ok, 1⟩ : Th) ≠ ⟨tk, 1⟩ := fun e => h50 (congrArg Th.k e)
   have hd1 : Live (ax S to toName ⟨ok, 1⟩).idx ⟨d, 2⟩ := iw hI.toInv0 hto bp hd (fun e => by have := fk hd dr e; cases this)
   have iL : Live (ax S to toName ⟨ok, 1⟩).idx ⟨to, 2⟩ := iw hI.toInv0 hto bp hto (fun e => by have := fk hto dr e; cases this)
   have dI : aU name (obj (ax S to toName ⟨ok, 1⟩).O d).ah = some ⟨tk, 1⟩ := nS hI.toInv0 hto bp hlk hot
   have nj : aU toName (obj (ax S to toName ⟨ok, 1⟩).O to).ah = none := nT hI.toInv0 hto bp
   have iN : (obj (ax S to toName ⟨ok, 1⟩).O d).kind = 2 := bT.kind hd1
   have nk : (obj (ax S to toName ⟨ok, 1⟩).O to).kind = 2 := bT.kind iL
   have jo : Live (ax S to toName ⟨ok, 1⟩).idx ⟨tk, 1⟩ := (bT.ent hd1 dI).2
   have jq : (obj (ax S to toName ⟨ok, 1⟩).O tk).kind = 1 := bT.kind jo
   have zl : (obj (ax S to toName ⟨ok, 1⟩).O d).ah.length ≤ 8192 := bT.eS hd1
   have zm : (obj (ax S to toName ⟨ok, 1⟩).O to).ah.length ≤ 8192 := bT.eS iL
   have nu := bT.lb jo
   have jr : tk ≠ d := bT.ne hd1 dI
   refine gK 3 (Cr f L d name) [] ?_
   refine gL [0, 1, 2] (iy (ax S to toName ⟨ok, 1⟩).X f m t bT.hX (ax S to toName ⟨ok, 1⟩).O L d iN name hsz ⟨tk, 1⟩ jq (by simp) dI (bT.twice hd1) (by omega) (by simp only at nu ⊢; omega)) ?_
   rintro _ _ ⟨rfl, rfl⟩
   refine NS ?_
   refine gK 4 (Cs f L to toName ++ [(68, .iface 89 (vP (L.b tk)))]) [] ?_
   refine gL [0, 1, 2] (fV { (ax S to toName ⟨ok, 1⟩).X with ah := (ax S to toName ⟨ok, 1⟩).X.ah - 1 } f m t (bT.vw hd1 dI) (aO (ax S to toName ⟨ok, 1⟩).X (ax S to toName ⟨ok, 1⟩).O d name ⟨tk, 1⟩) L to (bX.trans nk) toName mD (iX jr nj) (Nat.le_trans (kq jr) (by omega)) ⟨tk, 1⟩ (bX.trans jq) (by simp) (jc bT.toInv0 hd1 dI)) ?_
   rintro _ _ ⟨rfl, rfl⟩
   refine NS ?_
   refine ai.mem (aL := [.blk f [vI ((ax S to toName ⟨ok, 1⟩).X.cN), vI ((ax S to toName ⟨ok, 1⟩).X.cB), vI ((ax S to toName ⟨ok, 1⟩).X.cH), vI ((ax S to toName ⟨ok, 1⟩).X.cS), vI ((ax S to toName ⟨ok, 1⟩).X.cZ), .map (some m), vP t, vI ((ax S to toName ⟨ok, 1⟩).X.last), vI ((ax S to toName ⟨ok, 1⟩).X.ah - 1 + 1), vI ((ax S to toName ⟨ok, 1⟩).X.used)] 86, .abs (ak (aQ (br (ax S to toName ⟨ok, 1⟩).X (aO (ax S to toName ⟨ok, 1⟩).X (ax S to toName ⟨ok, 1⟩).O d name ⟨tk, 1⟩) to toName ⟨tk, 1⟩) L)), .abs (ak (bh (br (ax S to toName ⟨ok, 1⟩).X (aO (ax S to toName ⟨ok, 1⟩).X (ax S to toName ⟨ok, 1⟩).O d name ⟨tk, 1⟩) to toName ⟨tk, 1⟩) L)), .abs (aH Tryz.prog 3 m (aP (aK L ((ax S to toName ⟨ok, 1⟩).idx))) (((ax S to toName ⟨ok, 1⟩).idx).length)), .abs (aZ 156 t S.X.cH S.ay (aK L S.us)), .abs (ak (aW (br (ax S to toName ⟨ok, 1⟩).X (aO (ax S to toName ⟨ok, 1⟩).X (ax S to toName ⟨ok, 1⟩).O d name ⟨tk, 1⟩) to toName ⟨tk, 1⟩) L)), .abs R]) (fun w hS => by rw [show aW (br (ax S to toName ⟨ok, 1⟩).X (aO (ax S to toName ⟨ok, 1⟩).X (ax S to toName ⟨ok, 1⟩).O d name ⟨tk, 1⟩) to toName ⟨tk, 1⟩) L = aW S.O L from fI.trans (iW.trans lD)]; exact hS) ?_
   refine gK 1 [(10, vI 0)] [] ?_
   refine NN (af.ret ?_)
   exact RT (vI 0) [0, 3, 4, 1, 5, 2, 6] (⟨L, by rw [show renameM S d name to toName = (0, lp (ax S to toName ⟨ok, 1⟩) d name to toName ⟨tk, 1⟩) by unfold renameM; rw [hlk]; refine (if_neg (fun h => absurd h.1 (by simp))).trans ?_; rw [bp]; exact (if_neg (fun e => h50 (congrArg Th.k e))).trans ((if_neg (by simp)).trans (if_neg (by simp)))] <;> exact ⟨rfl, rfl⟩⟩)
  ·have jt : (obj S.O ok).kind = 2 := hI.kind dr
   refine af.region ?_
   refine gK 5 (sY L to toName) [(3, v_ 3 (bC L dg))] ?_
   refine fR 5 dg bp ?_
   refine gK 1 [(15, .iface 96 (vP (L.b ok)))] [] ?_
   refine NN (af.seq (SR ?_))
   refine gK 3 [(50, .bool false)] [] ?_
   refine NN ?_
   refine CF ?_
   refine af.skip (NX (af.seq (SR ?_)))
   refine gK 2 [(52, .bool true)] [] ?_
   refine NN ?_
   refine CT ?_
   refine af.seq (SR ?_)
   refine gK 1 [(53, .iface 96 (vP (L.b ok)))] [] ?_
   refine gL [] (jI (vP (L.b ok))) ?_
   rintro _ _ ⟨rfl, rfl⟩
   refine gK 1 [(55, .bool true)] [] ?_
   refine NN ?_
   refine CT ?_
   refine SR ?_
   refine gK 1 [(10, vI 172)] [] ?_
   refine NN (af.ret (aj.ar (aj.ar ?_)))
   exact RT (vI 172) [0, 1, 2, 3, 4, 5, 6] (⟨L, by rw [show renameM S d name to toName = (172, S) by unfold renameM; rw [hlk]; refine (if_neg (fun h => absurd h.1 (by simp))).trans ?_; rw [bp]; exact (if_neg (fun e => by cases e)).trans (if_pos rfl)] <;> exact ⟨rfl, rfl⟩⟩)
  have jt : (obj S.O ok).kind = 3 := hI.kind dr
  refine af.region ?_
  refine gK 5 (sY L to toName) [(3, v_ 3 (bC L dg))] ?_
  refine fR 5 dg bp ?_
  refine gK 1 [(15, .iface 93 (vP (L.b ok)))] [] ?_
  refine NN (af.seq (SR ?_))
  refine gK 3 [(50, .bool false)] [] ?_
  refine NN ?_
  refine CF ?_
  refine af.skip (NX (af.seq (SR ?_)))
  refine gK 2 [(52, .bool true)] [] ?_
  refine NN ?_
  refine CT ?_
  refine af.seq (SR ?_)
  refine gK 1 [(53, .iface 93 (vP (L.b ok)))] [] ?_
  refine gL [] (kr (vP (L.b ok))) ?_
  rintro _ _ ⟨rfl, rfl⟩
  refine gK 1 [(55, .bool false)] [] ?_
  refine NN ?_
  refine CF ?_
  refine af.skip (NX (af.seq (SR ?_)))
  refine gK 1 [(56, .bool false)] [] ?_
  refine NN ?_
  refine CF ?_
  refine af.skip (NX (af.region ?_))
  refine gK 3 (JN f L to toName) [] ?_
  refine gL [0, 3, 5, 1] (lE S L f m t hI to hto toName mD ⟨ok, 3⟩ bp) ?_
  rintro _ _ ⟨rfl, rfl⟩
  refine NS ?_
  have bT : Inv (ax S to toName ⟨ok, 3⟩) := hI.uX hto bp (by simp)
  have hot : (⟨ok, 3⟩ : Th) ≠ ⟨tk, 1⟩ := fun e => by cases e
  have hd1 : Live (ax S to toName ⟨ok, 3⟩).idx ⟨d, 2⟩ := iw hI.toInv0 hto bp hd (fun e => by have := fk hd dr e; cases this)
  have iL : Live (ax S to toName ⟨ok, 3⟩).idx ⟨to, 2⟩ := iw hI.toInv0 hto bp hto (fun e => by have := fk hto dr e; cases this)
  have dI : aU name (obj (ax S to toName ⟨ok, 3⟩).O d).ah = some ⟨tk, 1⟩ := nS hI.toInv0 hto bp hlk hot
  have nj : aU toName (obj (ax S to toName ⟨ok, 3⟩).O to).ah = none := nT hI.toInv0 hto bp
  have iN : (obj (ax S to toName ⟨ok, 3⟩).O d).kind = 2 := bT.kind hd1
  have nk : (obj (ax S to toName ⟨ok, 3⟩).O to).kind = 2 := bT.kind iL
  have jo : Live (ax S to toName ⟨ok, 3⟩).idx ⟨tk, 1⟩ := (bT.ent hd1 dI).2
  have jq : (obj (ax S to toName ⟨ok, 3⟩).O tk).kind = 1 := bT.kind jo
  have zl : (obj (ax S to toName ⟨ok, 3⟩).O d).ah.length ≤ 8192 := bT.eS hd1
  have zm : (obj (ax S to toName ⟨ok, 3⟩).O to).ah.length ≤ 8192 := bT.eS iL
  have nu := bT.lb jo
  have jr : tk ≠ d := bT.ne hd1 dI
  refine gK 3 (Cr f L d name) [] ?_
  refine gL [0, 1, 2] (iy (ax S to toName ⟨ok, 3⟩).X f m t bT.hX (ax S to toName ⟨ok, 3⟩).O L d iN name hsz ⟨tk, 1⟩ jq (by simp) dI (bT.twice hd1) (by omega) (by simp only at nu ⊢; omega)) ?_
  rintro _ _ ⟨rfl, rfl⟩
  refine NS ?_
  refine gK 4 (Cs f L to toName ++ [(68, .iface 89 (vP (L.b tk)))]) [] ?_
  refine gL [0, 1, 2] (fV { (ax S to toName ⟨ok, 3⟩).X with ah := (ax S to toName ⟨ok, 3⟩).X.ah - 1 } f m t (bT.vw hd1 dI) (aO (ax S to toName ⟨ok, 3⟩).X (ax S to toName ⟨ok, 3⟩).O d name ⟨tk, 1⟩) L to (bX.trans nk) toName mD (iX jr nj) (Nat.le_trans (kq jr) (by omega)) ⟨tk, 1⟩ (bX.trans jq) (by simp) (jc bT.toInv0 hd1 dI)) ?_
  rintro _ _ ⟨rfl, rfl⟩
  refine NS ?_
  refine ai.mem (aL := [.blk f [vI ((ax S to toName ⟨ok, 3⟩).X.cN), vI ((ax S to toName ⟨ok, 3⟩).X.cB), vI ((ax S to toName ⟨ok, 3⟩).X.cH), vI ((ax S to toName ⟨ok, 3⟩).X.cS), vI ((ax S to toName ⟨ok, 3⟩).X.cZ), .map (some m), vP t, vI ((ax S to toName ⟨ok, 3⟩).X.last), vI ((ax S to toName ⟨ok, 3⟩).X.ah - 1 + 1), vI ((ax S to toName ⟨ok, 3⟩).X.used)] 86, .abs (ak (aQ (br (ax S to toName ⟨ok, 3⟩).X (aO (ax S to toName ⟨ok, 3⟩).X (ax S to toName ⟨ok, 3⟩).O d name ⟨tk, 1⟩) to toName ⟨tk, 1⟩) L)), .abs (ak (bh (br (ax S to toName ⟨ok, 3⟩).X (aO (ax S to toName ⟨ok, 3⟩).X (ax S to toName ⟨ok, 3⟩).O d name ⟨tk, 1⟩) to toName ⟨tk, 1⟩) L)), .abs (aH Tryz.prog 3 m (aP (aK L ((ax S to toName ⟨ok, 3⟩).idx))) (((ax S to toName ⟨ok, 3⟩).idx).length)), .abs (aZ 156 t S.X.cH S.ay (aK L S.us)), .abs (ak (aW (br (ax S to toName ⟨ok, 3⟩).X (aO (ax S to toName ⟨ok, 3⟩).X (ax S to toName ⟨ok, 3⟩).O d name ⟨tk, 1⟩) to toName ⟨tk, 1⟩) L)), .abs R]) (fun w hS => by rw [show aW (br (ax S to toName ⟨ok, 3⟩).X (aO (ax S to toName ⟨ok, 3⟩).X (ax S to toName ⟨ok, 3⟩).O d name ⟨tk, 1⟩) to toName ⟨tk, 1⟩) L = aW S.O L from fI.trans (iW.trans lD)]; exact hS) ?_
  refine gK 1 [(10, vI 0)] [] ?_
  refine NN (af.ret ?_)
  exact RT (vI 0) [0, 3, 4, 1, 5, 2, 6] (⟨L, by rw [show renameM S d name to toName = (0, lp (ax S to toName ⟨ok, 3⟩) d name to toName ⟨tk, 1⟩) by unfold renameM; rw [hlk]; refine (if_neg (fun h => absurd h.1 (by simp))).trans ?_; rw [bp]; exact (if_neg (fun e => by cases e)).trans ((if_neg (by simp)).trans (if_neg (by simp)))] <;> exact ⟨rfl, rfl⟩⟩)
 ·have hkt : (obj S.O tk).kind = 2 := hI.kind hlv
  refine af.region ?_
  refine gK 1 [] [] ?_
  refine NS ?_
  refine gK 5 [(19, .map (some (L.m d))), (20, .string name)] [(3, v_ 3 (bC L hkd))] ?_
  refine fR 5 hkd hlk ?_
  refine gK 1 [(11, .iface 96 (vP (L.b tk)))] [] ?_
  refine NN (af.seq (SR ?_))
  refine gK 2 [(23, .bool false)] [] ?_
  refine NN ?_
  refine CF ?_
  refine af.skip (NX (SR ?_))
  refine gK 7 [(12, vP (L.b tk)), (13, .bool true)] [] ?_
  refine NN (af.seq (SR ?_))
  refine gK 2 [(14, vP (L.b to))] [] ?_
  refine NN (af.block ?_)
  obtain ⟨dp, hdp⟩ := hI.deep
  refine af.loop (ι := (Option Nat)) (fun (x : Option Nat) => (iJ S.O tk to ↔ ∃ z0, x = some z0 ∧ iJ S.O tk z0) ∧ (∀ z0, x = some z0 → Live S.idx ⟨z0, 2⟩)) (fun (x : Option Nat) => t7 dp x) (fun (x : Option Nat) => [(0, vP f), (1, vP (L.b d)), (2, .string name), (3, vP (L.b to)), (4, .string toName), (11, .iface 96 (vP (L.b tk))), (12, vP (L.b tk)), (13, .bool true), (14, (qt L x))]) (fun (x : Option Nat) => ((pA f m t L S) ++ [.abs R])) ((some to)) (idx := [0, 1, 2, 3, 4, 11, 12, 13, 14]) (pk := [0, 1, 2, 3, 4, 5, 6]) (show (iJ S.O tk to ↔ ∃ z0, ((some to)) = some z0 ∧ iJ S.O tk z0) ∧ (∀ z0, ((some to)) = some z0 → Live S.idx ⟨z0, 2⟩) from ⟨⟨fun h => ⟨to, rfl, h⟩, fun ⟨y, e, h⟩ => by cases e; exact h⟩, fun y e => by cases e; exact hto⟩) (fun _ => by kernel_rfl) rfl (by kernel_rfl) ?_
  rintro x ⟨hbx, hlx⟩
  show af _ _ _ _ [(0, vP f), (1, vP (L.b d)), (2, .string name), (3, vP (L.b to)), (4, .string toName), (11, .iface 96 (vP (L.b tk))), (12, vP (L.b tk)), (13, .bool true), (14, (qt L x))] ((pA f m t L S) ++ [.abs R]) _
  refine af.seq (af.seq ?_)
  rcases hx : x with _ | y
  ·refine af.region ?_
   refine gK 5 [(34, .bool false)] [] ?_
   refine NN ?_
   refine CF ?_
   refine af.exit (aj.bg (aj.bg (aj.cA (NX (af.seq ?_)))))
   have hnb : ¬ iJ S.O tk to := fun h => by obtain ⟨y, e, _⟩ := hbx.1 h; rw [hx] at e; cases e
   rcases hI.jY hto toName with bp | ⟨ok, bp, dr⟩ | ⟨ok, bp, dr⟩ | ⟨ok, bp, dr⟩
   ·refine af.region ?_
    refine gK 5 (sY L to toName) [(3, v_ 3 (bC L dg))] ?_
    refine fR 5 dg bp ?_
    refine gK 1 [(15, .nilIface)] [] ?_
    refine NN (af.seq (SR ?_))
    refine gK 3 [(50, .bool false)] [] ?_
    refine NN ?_
    refine CF ?_
    refine af.skip (NX (af.seq (SR ?_)))
    refine gK 2 [(52, .bool false)] [] ?_
    refine NN ?_
    refine CF ?_
    refine af.skip (NX (SR ?_))
    have bT : Inv S := hI
    have hd1 := hd
    have dI := hlk
    have nj := bp
    have iL := hto
    have iN : (obj S.O d).kind = 2 := bT.kind hd1
    have nk : (obj S.O to).kind = 2 := bT.kind iL
    have jo : Live S.idx ⟨tk, 2⟩ := (bT.ent hd1 dI).2
    have jq : (obj S.O tk).kind = 2 := bT.kind jo
    have zl : (obj S.O d).ah.length ≤ 8192 := bT.eS hd1
    have zm : (obj S.O to).ah.length ≤ 8192 := bT.eS iL
    have nu := bT.lb jo
    have jr : tk ≠ d := bT.ne hd1 dI
    refine gK 3 (Cr f L d name) [] ?_
    refine gL [0, 3, 5] (iy S.X f m t bT.hX S.O L d iN name hsz ⟨tk, 2⟩ jq (by simp) dI (bT.twice hd1) (by omega) (by simp only at nu ⊢; omega)) ?_
    rintro _ _ ⟨rfl, rfl⟩
    refine NS ?_
    refine gK 4 (Cs f L to toName ++ [(68, .iface 96 (vP (L.b tk)))]) [] ?_
    refine gL [0, 1, 2] (fV { S.X with ah := S.X.ah - 1 } f m t (bT.vw hd1 dI) (aO S.X S.O d name ⟨tk, 2⟩) L to (bX.trans nk) toName mD (iX jr nj) (Nat.le_trans (kq jr) (by omega)) ⟨tk, 2⟩ (bX.trans jq) (by simp) (jc bT.toInv0 hd1 dI)) ?_
    rintro _ _ ⟨rfl, rfl⟩
    refine NS ?_
    refine ai.mem (aL := [.blk f [vI (S.X.cN), vI (S.X.cB), vI (S.X.cH), vI (S.X.cS), vI (S.X.cZ), .map (some m), vP t, vI (S.X.last), vI (S.X.ah - 1 + 1), vI (S.X.used)] 86, .abs (ak (aQ (br S.X (aO S.X S.O d name ⟨tk, 2⟩) to toName ⟨tk, 2⟩) L)), .abs (ak (bh (br S.X (aO S.X S.O d name ⟨tk, 2⟩) to toName ⟨tk, 2⟩) L)), .abs (aH Tryz.prog 3 m (aP (aK L S.idx)) S.idx.length), .abs (aZ 156 t S.X.cH S.ay (aK L S.us)), .abs (ak (aW (br S.X (aO S.X S.O d name ⟨tk, 2⟩) to toName ⟨tk, 2⟩) L)), .abs R]) (fun w hS => by rw [show aW (br S.X (aO S.X S.O d name ⟨tk, 2⟩) to toName ⟨tk, 2⟩) L = aW S.O L from fI.trans iW]; exact hS) ?_
    refine gK 1 [(10, vI 0)] [] ?_
    refine NN (af.ret ?_)
    exact RT (vI 0) [0, 3, 4, 1, 5, 2, 6] (⟨L, by rw [show renameM S d name to toName = (0, lp S d name to toName ⟨tk, 2⟩) by unfold renameM; rw [hlk]; refine (if_neg (fun h => hnb h.2)).trans ?_; rw [bp]] <;> exact ⟨rfl, rfl⟩⟩)
   ·have jt : (obj S.O ok).kind = 1 := hI.kind dr
    refine af.region ?_
    refine gK 5 (sY L to toName) [(3, v_ 3 (bC L dg))] ?_
    refine fR 5 dg bp ?_
    refine gK 1 [(15, .iface 89 (vP (L.b ok)))] [] ?_
    refine NN (af.seq (SR ?_))
    refine gK 3 [(50, .bool false)] [] ?_
    refine NN ?_
    refine CF ?_
    refine af.skip (NX (af.seq (SR ?_)))
    refine gK 2 [(52, .bool true)] [] ?_
    refine NN ?_
    refine CT ?_
    refine af.seq (SR ?_)
    refine gK 1 [(53, .iface 89 (vP (L.b ok)))] [] ?_
    refine gL [] (jH (vP (L.b ok))) ?_
    rintro _ _ ⟨rfl, rfl⟩
    refine gK 1 [(55, .bool false)] [] ?_
    refine NN ?_
    refine CF ?_
    refine af.skip (NX (af.seq (SR ?_)))
    refine gK 1 [(56, .bool true)] [] ?_
    refine NN ?_
    refine CT ?_
    refine SR ?_
    refine gK 1 [(10, vI 173)] [] ?_
    refine NN (af.ret (aj.ar (aj.ar ?_)))
    exact RT (vI 173) [0, 1, 2, 3, 4, 5, 6] (⟨L, by rw [show renameM S d name to toName = (173, S) by unfold renameM; rw [hlk]; refine (if_neg (fun h => hnb h.2)).trans ?_; rw [bp]; exact (if_neg (fun e => by cases e)).trans ((if_neg (by simp)).trans (if_pos rfl))] <;> exact ⟨rfl, rfl⟩⟩)
   ·have jt : (obj S.O ok).kind = 2 := hI.kind dr
    refine af.region ?_
    refine gK 5 (sY L to toName) [(3, v_ 3 (bC L dg))] ?_
    refine fR 5 dg bp ?_
    refine gK 1 [(15, .iface 96 (vP (L.b ok)))] [] ?_
    refine NN (af.seq (SR ?_))
    refine gK 2 [(48, .iface 96 (vP (L.b ok))), (49, .iface 96 (vP (L.b tk)))] [] ?_
    refine ai.ia (d := (some 50)) (op := .binOp .eql 84 (.tmp 48) (.tmp 49) 84) (v := .bool (decide (ok = tk))) (fun _ => by kernel_rfl) (fun o junk w ho hS => by obtain ⟨F, hF⟩ := hS.get (i := 3) rfl; exact ⟨w, wq M6 ho (by kernel_rfl) (by kernel_rfl) (by rw [jt]; decide) (by rw [hkt]; decide) hF, hS⟩) ?_
    refine NN ?_
    refine af.bB (p := ok = tk) (fun _ => by kernel_rfl) (fun h50 => ?_) (fun h50 => ?_)
    ·refine SR ?_
     refine gK 1 [(10, vI 0)] [] ?_
     refine NN (af.ret (aj.ar ?_))
     exact RT (vI 0) [0, 1, 2, 3, 4, 5, 6] (⟨L, by rw [show renameM S d name to toName = (0, S) by unfold renameM; rw [hlk]; refine (if_neg (fun h => hnb h.2)).trans ?_; rw [bp]; exact if_pos (by rw [h50])] <;> exact ⟨rfl, rfl⟩⟩)
    refine af.skip (NX (af.seq (SR ?_)))
    refine gK 2 [(52, .bool true)] [] ?_
    refine NN ?_
    refine CT ?_
    refine af.seq (SR ?_)
    refine gK 1 [(53, .iface 96 (vP (L.b ok)))] [] ?_
    refine gL [] (jI (vP (L.b ok))) ?_
    rintro _ _ ⟨rfl, rfl⟩
    refine gK 1 [(55, .bool true)] [] ?_
    refine NN ?_
    refine CT ?_
    refine SR ?_
    refine gK 1 [(10, vI 172)] [] ?_
    refine NN (af.ret (aj.ar (aj.ar ?_)))
    exact RT (vI 172) [0, 1, 2, 3, 4, 5, 6] (⟨L, by rw [show renameM S d name to toName = (172, S) by unfold renameM; rw [hlk]; refine (if_neg (fun h => hnb h.2)).trans ?_; rw [bp]; exact (if_neg (fun e => h50 (congrArg Th.k e))).trans (if_pos rfl)] <;> exact ⟨rfl, rfl⟩⟩)
   have jt : (obj S.O ok).kind = 3 := hI.kind dr
   refine af.region ?_
   refine gK 5 (sY L to toName) [(3, v_ 3 (bC L dg))] ?_
   refine fR 5 dg bp ?_
   refine gK 1 [(15, .iface 93 (vP (L.b ok)))] [] ?_
   refine NN (af.seq (SR ?_))
   refine gK 3 [(50, .bool false)] [] ?_
   refine NN ?_
   refine CF ?_
   refine af.skip (NX (af.seq (SR ?_)))
   refine gK 2 [(52, .bool true)] [] ?_
   refine NN ?_
   refine CT ?_
   refine af.seq (SR ?_)
   refine gK 1 [(53, .iface 93 (vP (L.b ok)))] [] ?_
   refine gL [] (kr (vP (L.b ok))) ?_
   rintro _ _ ⟨rfl, rfl⟩
   refine gK 1 [(55, .bool false)] [] ?_
   refine NN ?_
   refine CF ?_
   refine af.skip (NX (af.seq (SR ?_)))
   refine gK 1 [(56, .bool true)] [] ?_
   refine NN ?_
   refine CT ?_
   refine SR ?_
   refine gK 1 [(10, vI 173)] [] ?_
   refine NN (af.ret (aj.ar (aj.ar ?_)))
   exact RT (vI 173) [0, 1, 2, 3, 4, 5, 6] (⟨L, by rw [show renameM S d name to toName = (173, S) by unfold renameM; rw [hlk]; refine (if_neg (fun h => hnb h.2)).trans ?_; rw [bp]; exact (if_neg (fun e => by cases e)).trans ((if_neg (by simp)).trans (if_pos rfl))] <;> exact ⟨rfl, rfl⟩⟩)
  have hky : (obj S.O y).kind = 2 := hI.kind (hlx y hx)
  refine af.region ?_
  refine gK 5 [(34, .bool true)] [] ?_
  refine NN ?_
  refine CT ?_
  refine af.skip (NX (af.seq (af.block (SR ?_))))
  refine gK 2 [(39, vP (L.b y)), (40, vP (L.b tk))] [] ?_
  refine ai.ia (d := (some 41)) (op := .binOp .eql 96 (.tmp 39) (.tmp 40) 96) (v := .bool (decide (y = tk))) (fun _ => by kernel_rfl) (fun o junk w ho hS => by obtain ⟨F, hF⟩ := hS.get (i := 3) rfl; exact ⟨w, Gc ho (by kernel_rfl) (by kernel_rfl) (by rw [hky]; decide) (by rw [hkt]; decide) hF, hS⟩) ?_
  refine NN ?_
  refine af.bB (p := y = tk) (fun _ => by kernel_rfl) (fun JQ => ?_) (fun JQ => ?_)
  ·refine SR ?_
   refine gK 1 [(10, vI 174)] [] ?_
   refine NN (af.ret (aj.aG (aj.ar (aj.ar (aj.aG (aj.ar ?_))))))
   exact RT (vI 174) [0, 1, 2, 3, 4, 5, 6] (⟨L, by rw [show renameM S d name to toName = (174, S) by unfold renameM; rw [hlk]; exact if_pos ⟨rfl, hbx.2 ⟨y, hx, by rw [JQ]; exact .here⟩⟩] <;> exact ⟨rfl, rfl⟩⟩)
  refine af.skip (aj.aT (NX (af.region ?_)))
  refine gK 5 [(14, (qt L (obj S.O y).up))] [(3, v_ 3 (Ow L hky))] ?_
  refine NL ?_
  exact aj.turn (((obj S.O y).up)) (idx := [0, 1, 2, 3, 4, 11, 12, 13, 14]) (pk := [0, 1, 2, 3, 4, 5, 6]) (show (iJ S.O tk to ↔ ∃ z0, (((obj S.O y).up)) = some z0 ∧ iJ S.O tk z0) ∧ (∀ z0, (((obj S.O y).up)) = some z0 → Live S.idx ⟨z0, 2⟩) from ⟨hbx.trans ⟨fun ⟨y2, e, h⟩ => by rw [hx] at e; cases e; exact (xG JQ).1 h, fun h => ⟨y, hx, (xG JQ).2 h⟩⟩, fun z e => ((hI.up ⟨y, 2⟩ (hlx y hx) z).1 e).2.1⟩) (by show t7 dp (((obj S.O y).up)) < t7 dp (some y); exact Gf hdp) (fun _ => by kernel_rfl) rfl (by kernel_rfl)
 have hkt : (obj S.O tk).kind = 3 := hI.kind hlv
 refine af.region ?_
 refine gK 1 [] [] ?_
 refine NS ?_
 refine gK 5 [(19, .map (some (L.m d))), (20, .string name)] [(3, v_ 3 (bC L hkd))] ?_
 refine fR 5 hkd hlk ?_
 refine gK 1 [(11, .iface 93 (vP (L.b tk)))] [] ?_
 refine NN (af.seq (SR ?_))
 refine gK 2 [(23, .bool false)] [] ?_
 refine NN ?_
 refine CF ?_
 refine af.skip (NX (SR ?_))
 refine gK 7 [(12, .pointer none), (13, .bool false)] [] ?_
 refine NN (af.seq (SR ?_))
 refine gK 2 [(14, vP (L.b to))] [] ?_
 refine NN (af.block ?_)
 refine af.loop (ι := Unit) (fun (u : Unit) => True) (fun (u : Unit) => 0) (fun (u : Unit) => (JM f L d name to toName ++ [(11, .iface 93 (vP (L.b tk)))] ++ JO L to)) (fun (u : Unit) => ((pA f m t L S) ++ [.abs R])) () (idx := [0, 1, 2, 3, 4, 11, 12, 13, 14]) (pk := [0, 1, 2, 3, 4, 5, 6]) (show True from trivial) (fun _ => by kernel_rfl) rfl (by kernel_rfl) ?_
 rintro u _
 show af _ _ _ _ (JM f L d name to toName ++ [(11, .iface 93 (vP (L.b tk)))] ++ JO L to) ((pA f m t L S) ++ [.abs R]) _
 refine af.seq (SR ?_)
 refine gK 5 [(34, .bool false)] [] ?_
 refine NN ?_
 refine CF ?_
 refine af.exit (aj.bg (aj.bg (aj.cA (NX (af.seq ?_)))))
 skip
 rcases hI.jY hto toName with bp | ⟨ok, bp, dr⟩ | ⟨ok, bp, dr⟩ | ⟨ok, bp, dr⟩
 ·refine af.region ?_
  refine gK 5 (sY L to toName) [(3, v_ 3 (bC L dg))] ?_
  refine fR 5 dg bp ?_
  refine gK 1 [(15, .nilIface)] [] ?_
  refine NN (af.seq (SR ?_))
  refine gK 3 [(50, .bool false)] [] ?_
  refine NN ?_
  refine CF ?_
  refine af.skip (NX (af.seq (SR ?_)))
  refine gK 2 [(52, .bool false)] [] ?_
  refine NN ?_
  refine CF ?_
  refine af.skip (NX (SR ?_))
  have bT : Inv S := hI
  have hd1 := hd
  have dI := hlk
  have nj := bp
  have iL := hto
  have iN : (obj S.O d).kind = 2 := bT.kind hd1
  have nk : (obj S.O to).kind = 2 := bT.kind iL
  have jo : Live S.idx ⟨tk, 3⟩ := (bT.ent hd1 dI).2
  have jq : (obj S.O tk).kind = 3 := bT.kind jo
  have zl : (obj S.O d).ah.length ≤ 8192 := bT.eS hd1
  have zm : (obj S.O to).ah.length ≤ 8192 := bT.eS iL
  have nu := bT.lb jo
  have jr : tk ≠ d := bT.ne hd1 dI
  refine gK 3 (Cr f L d name) [] ?_
  refine gL [0, 3, 5] (iy S.X f m t bT.hX S.O L d iN name hsz ⟨tk, 3⟩ jq (by simp) dI (bT.twice hd1) (by omega) (by simp only at nu ⊢; omega)) ?_
  rintro _ _ ⟨rfl, rfl⟩
  refine NS ?_
  refine gK 4 (Cs f L to toName ++ [(68, .iface 93 (vP (L.b tk)))]) [] ?_
  refine gL [0, 1, 2] (fV { S.X with ah := S.X.ah - 1 } f m t (bT.vw hd1 dI) (aO S.X S.O d name ⟨tk, 3⟩) L to (bX.trans nk) toName mD (iX jr nj) (Nat.le_trans (kq jr) (by omega)) ⟨tk, 3⟩ (bX.trans jq) (by simp) (jc bT.toInv0 hd1 dI)) ?_
  rintro _ _ ⟨rfl, rfl⟩
  refine NS ?_
  refine ai.mem (aL := [.blk f [vI (S.X.cN), vI (S.X.cB), vI (S.X.cH), vI (S.X.cS), vI (S.X.cZ), .map (some m), vP t, vI (S.X.last), vI (S.X.ah - 1 + 1), vI (S.X.used)] 86, .abs (ak (aQ (br S.X (aO S.X S.O d name ⟨tk, 3⟩) to toName ⟨tk, 3⟩) L)), .abs (ak (bh (br S.X (aO S.X S.O d name ⟨tk, 3⟩) to toName ⟨tk, 3⟩) L)), .abs (aH Tryz.prog 3 m (aP (aK L S.idx)) S.idx.length), .abs (aZ 156 t S.X.cH S.ay (aK L S.us)), .abs (ak (aW (br S.X (aO S.X S.O d name ⟨tk, 3⟩) to toName ⟨tk, 3⟩) L)), .abs R]) (fun w hS => by rw [show aW (br S.X (aO S.X S.O d name ⟨tk, 3⟩) to toName ⟨tk, 3⟩) L = aW S.O L from fI.trans iW]; exact hS) ?_
  refine gK 1 [(10, vI 0)] [] ?_
  refine NN (af.ret ?_)
  exact RT (vI 0) [0, 3, 4, 1, 5, 2, 6] (⟨L, by rw [show renameM S d name to toName = (0, lp S d name to toName ⟨tk, 3⟩) by unfold renameM; rw [hlk]; refine (if_neg (fun h => absurd h.1 (by simp))).trans ?_; rw [bp]] <;> exact ⟨rfl, rfl⟩⟩)
 ·have jt : (obj S.O ok).kind = 1 := hI.kind dr
  refine af.region ?_
  refine gK 5 (sY L to toName) [(3, v_ 3 (bC L dg))] ?_
  refine fR 5 dg bp ?_
  refine gK 1 [(15, .iface 89 (vP (L.b ok)))] [] ?_
  refine NN (af.seq (SR ?_))
  refine gK 3 [(50, .bool false)] [] ?_
  refine NN ?_
  refine CF ?_
  refine af.skip (NX (af.seq (SR ?_)))
  refine gK 2 [(52, .bool true)] [] ?_
  refine NN ?_
  refine CT ?_
  refine af.seq (SR ?_)
  refine gK 1 [(53, .iface 89 (vP (L.b ok)))] [] ?_
  refine gL [] (jH (vP (L.b ok))) ?_
  rintro _ _ ⟨rfl, rfl⟩
  refine gK 1 [(55, .bool false)] [] ?_
  refine NN ?_
  refine CF ?_
  refine af.skip (NX (af.seq (SR ?_)))
  refine gK 1 [(56, .bool false)] [] ?_
  refine NN ?_
  refine CF ?_
  refine af.skip (NX (af.region ?_))
  refine gK 3 (JN f L to toName) [] ?_
  refine gL [0, 3, 5, 1] (lE S L f m t hI to hto toName mD ⟨ok, 1⟩ bp) ?_
  rintro _ _ ⟨rfl, rfl⟩
  refine NS ?_
  have bT : Inv (ax S to toName ⟨ok, 1⟩) := hI.uX hto bp (by simp)
  have hot : (⟨ok, 1⟩ : Th) ≠ ⟨tk, 3⟩ := fun e => by cases e
  have hd1 : Live (ax S to toName ⟨ok, 1⟩).idx ⟨d, 2⟩ := iw hI.toInv0 hto bp hd (fun e => by have := fk hd dr e; cases this)
  have iL : Live (ax S to toName ⟨ok, 1⟩).idx ⟨to, 2⟩ := iw hI.toInv0 hto bp hto (fun e => by have := fk hto dr e; cases this)
  have dI : aU name (obj (ax S to toName ⟨ok, 1⟩).O d).ah = some ⟨tk, 3⟩ := nS hI.toInv0 hto bp hlk hot
  have nj : aU toName (obj (ax S to toName ⟨ok, 1⟩).O to).ah = none := nT hI.toInv0 hto bp
  have iN : (obj (ax S to toName ⟨ok, 1⟩).O d).kind = 2 := bT.kind hd1
  have nk : (obj (ax S to toName ⟨ok, 1⟩).O to).kind = 2 := bT.kind iL
  have jo : Live (ax S to toName ⟨ok, 1⟩).idx ⟨tk, 3⟩ := (bT.ent hd1 dI).2
  have jq : (obj (ax S to toName ⟨ok, 1⟩).O tk).kind = 3 := bT.kind jo
  have zl : (obj (ax S to toName ⟨ok, 1⟩).O d).ah.length ≤ 8192 := bT.eS hd1
  have zm : (obj (ax S to toName ⟨ok, 1⟩).O to).ah.length ≤ 8192 := bT.eS iL
  have nu := bT.lb jo
  have jr : tk ≠ d := bT.ne hd1 dI
  refine gK 3 (Cr f L d name) [] ?_
  refine gL [0, 1, 2] (iy (ax S to toName ⟨ok, 1⟩).X f m t bT.hX (ax S to toName ⟨ok, 1⟩).O L d iN name hsz ⟨tk, 3⟩ jq (by simp) dI (bT.twice hd1) (by omega) (by simp only at nu ⊢; omega)) ?_
  rintro _ _ ⟨rfl, rfl⟩
  refine NS ?_
  refine gK 4 (Cs f L to toName ++ [(68, .iface 93 (vP (L.b tk)))]) [] ?_
  refine gL [0, 1, 2] (fV { (ax S to toName ⟨ok, 1⟩).X with ah := (ax S to toName ⟨ok, 1⟩).X.ah - 1 } f m t (bT.vw hd1 dI) (aO (ax S to toName ⟨ok, 1⟩).X (ax S to toName ⟨ok, 1⟩).O d name ⟨tk, 3⟩) L to (bX.trans nk) toName mD (iX jr nj) (Nat.le_trans (kq jr) (by omega)) ⟨tk, 3⟩ (bX.trans jq) (by simp) (jc bT.toInv0 hd1 dI)) ?_
  rintro _ _ ⟨rfl, rfl⟩
  refine NS ?_
  refine ai.mem (aL := [.blk f [vI ((ax S to toName ⟨ok, 1⟩).X.cN), vI ((ax S to toName ⟨ok, 1⟩).X.cB), vI ((ax S to toName ⟨ok, 1⟩).X.cH), vI ((ax S to toName ⟨ok, 1⟩).X.cS), vI ((ax S to toName ⟨ok, 1⟩).X.cZ), .map (some m), vP t, vI ((ax S to toName ⟨ok, 1⟩).X.last), vI ((ax S to toName ⟨ok, 1⟩).X.ah - 1 + 1), vI ((ax S to toName ⟨ok, 1⟩).X.used)] 86, .abs (ak (aQ (br (ax S to toName ⟨ok, 1⟩).X (aO (ax S to toName ⟨ok, 1⟩).X (ax S to toName ⟨ok, 1⟩).O d name ⟨tk, 3⟩) to toName ⟨tk, 3⟩) L)), .abs (ak (bh (br (ax S to toName ⟨ok, 1⟩).X (aO (ax S to toName ⟨ok, 1⟩).X (ax S to toName ⟨ok, 1⟩).O d name ⟨tk, 3⟩) to toName ⟨tk, 3⟩) L)), .abs (aH Tryz.prog 3 m (aP (aK L ((ax S to toName ⟨ok, 1⟩).idx))) (((ax S to toName ⟨ok, 1⟩).idx).length)), .abs (aZ 156 t S.X.cH S.ay (aK L S.us)), .abs (ak (aW (br (ax S to toName ⟨ok, 1⟩).X (aO (ax S to toName ⟨ok, 1⟩).X (ax S to toName ⟨ok, 1⟩).O d name ⟨tk, 3⟩) to toName ⟨tk, 3⟩) L)), .abs R]) (fun w hS => by rw [show aW (br (ax S to toName ⟨ok, 1⟩).X (aO (ax S to toName ⟨ok, 1⟩).X (ax S to toName ⟨ok, 1⟩).O d name ⟨tk, 3⟩) to toName ⟨tk, 3⟩) L = aW S.O L from fI.trans (iW.trans lD)]; exact hS) ?_
  refine gK 1 [(10, vI 0)] [] ?_
  refine NN (af.ret ?_)
  exact RT (vI 0) [0, 3, 4, 1, 5, 2, 6] (⟨L, by rw [show renameM S d name to toName = (0, lp (ax S to toName ⟨ok, 1⟩) d name to toName ⟨tk, 3⟩) by unfold renameM; rw [hlk]; refine (if_neg (fun h => absurd h.1 (by simp))).trans ?_; rw [bp]; exact (if_neg (fun e => by cases e)).trans ((if_neg (by simp)).trans (if_neg (by simp)))] <;> exact ⟨rfl, rfl⟩⟩)
 ·have jt : (obj S.O ok).kind = 2 := hI.kind dr
  refine af.region ?_
  refine gK 5 (sY L to toName) [(3, v_ 3 (bC L dg))] ?_
  refine fR 5 dg bp ?_
  refine gK 1 [(15, .iface 96 (vP (L.b ok)))] [] ?_
  refine NN (af.seq (SR ?_))
  refine gK 3 [(50, .bool false)] [] ?_
  refine NN ?_
  refine CF ?_
  refine af.skip (NX (af.seq (SR ?_)))
  refine gK 2 [(52, .bool true)] [] ?_
  refine NN ?_
  refine CT ?_
  refine af.seq (SR ?_)
  refine gK 1 [(53, .iface 96 (vP (L.b ok)))] [] ?_
  refine gL [] (jI (vP (L.b ok))) ?_
  rintro _ _ ⟨rfl, rfl⟩
  refine gK 1 [(55, .bool true)] [] ?_
  refine NN ?_
  refine CT ?_
  refine SR ?_
  refine gK 1 [(10, vI 172)] [] ?_
  refine NN (af.ret (aj.ar (aj.ar ?_)))
  exact RT (vI 172) [0, 1, 2, 3, 4, 5, 6] (⟨L, by rw [show renameM S d name to toName = (172, S) by unfold renameM; rw [hlk]; refine (if_neg (fun h => absurd h.1 (by simp))).trans ?_; rw [bp]; exact (if_neg (fun e => by cases e)).trans (if_pos rfl)] <;> exact ⟨rfl, rfl⟩⟩)
 have jt : (obj S.O ok).kind = 3 := hI.kind dr
 refine af.region ?_
 refine gK 5 (sY L to toName) [(3, v_ 3 (bC L dg))] ?_
 refine fR 5 dg bp ?_
 refine gK 1 [(15, .iface 93 (vP (L.b ok)))] [] ?_
 refine NN (af.seq (SR ?_))
 refine gK 2 [(48, .iface 93 (vP (L.b ok))), (49, .iface 93 (vP (L.b tk)))] [] ?_
 refine ai.ia (d := (some 50)) (op := .binOp .eql 84 (.tmp 48) (.tmp 49) 84) (v := .bool (decide (ok = tk))) (fun _ => by kernel_rfl) (fun o junk w ho hS => by obtain ⟨F, hF⟩ := hS.get (i := 3) rfl; exact ⟨w, wq Lv ho (by kernel_rfl) (by kernel_rfl) (by rw [jt]; decide) (by rw [hkt]; decide) hF, hS⟩) ?_
 refine NN ?_
 refine af.bB (p := ok = tk) (fun _ => by kernel_rfl) (fun h50 => ?_) (fun h50 => ?_)
 ·refine SR ?_
  refine gK 1 [(10, vI 0)] [] ?_
  refine NN (af.ret (aj.ar ?_))
  exact RT (vI 0) [0, 1, 2, 3, 4, 5, 6] (⟨L, by rw [show renameM S d name to toName = (0, S) by unfold renameM; rw [hlk]; refine (if_neg (fun h => absurd h.1 (by simp))).trans ?_; rw [bp]; exact if_pos (by rw [h50])] <;> exact ⟨rfl, rfl⟩⟩)
 refine af.skip (NX (af.seq (SR ?_)))
 refine gK 2 [(52, .bool true)] [] ?_
 refine NN ?_
 refine CT ?_
 refine af.seq (SR ?_)
 refine gK 1 [(53, .iface 93 (vP (L.b ok)))] [] ?_
 refine gL [] (kr (vP (L.b ok))) ?_
 rintro _ _ ⟨rfl, rfl⟩
 refine gK 1 [(55, .bool false)] [] ?_
 refine NN ?_
 refine CF ?_
 refine af.skip (NX (af.seq (SR ?_)))
 refine gK 1 [(56, .bool false)] [] ?_
 refine NN ?_
 refine CF ?_
 refine af.skip (NX (af.region ?_))
 refine gK 3 (JN f L to toName) [] ?_
 refine gL [0, 3, 5, 1] (lE S L f m t hI to hto toName mD ⟨ok, 3⟩ bp) ?_
 rintro _ _ ⟨rfl, rfl⟩
 refine NS ?_
 have bT : Inv (ax S to toName ⟨ok, 3⟩) := hI.uX hto bp (by simp)
 have hot : (⟨ok, 3⟩ : Th) ≠ ⟨tk, 3⟩ := fun e => h50 (congrArg Th.k e)
 have hd1 : Live (ax S to toName ⟨ok, 3⟩).idx ⟨d, 2⟩ := iw hI.toInv0 hto bp hd (fun e => by have := fk hd dr e; cases this)
 have iL : Live (ax S to toName ⟨ok, 3⟩).idx ⟨to, 2⟩ := iw hI.toInv0 hto bp hto (fun e => by have := fk hto dr e; cases this)
 have dI : aU name (obj (ax S to toName ⟨ok, 3⟩).O d).ah = some ⟨tk, 3⟩ := nS hI.toInv0 hto bp hlk hot
 have nj : aU toName (obj (ax S to toName ⟨ok, 3⟩).O to).ah = none := nT hI.toInv0 hto bp
 have iN : (obj (ax S to toName ⟨ok, 3⟩).O d).kind = 2 := bT.kind hd1
 have nk : (obj (ax S to toName ⟨ok, 3⟩).O to).kind = 2 := bT.kind iL
 have jo : Live (ax S to toName ⟨ok, 3⟩).idx ⟨tk, 3⟩ := (bT.ent hd1 dI).2
 have jq : (obj (ax S to toName ⟨ok, 3⟩).O tk).kind = 3 := bT.kind jo
 have zl : (obj (ax S to toName ⟨ok, 3⟩).O d).ah.length ≤ 8192 := bT.eS hd1
 have zm : (obj (ax S to toName ⟨ok, 3⟩).O to).ah.length ≤ 8192 := bT.eS iL
 have nu := bT.lb jo
 have jr : tk ≠ d := bT.ne hd1 dI
 refine gK 3 (Cr f L d name) [] ?_
 refine gL [0, 1, 2] (iy (ax S to toName ⟨ok, 3⟩).X f m t bT.hX (ax S to toName ⟨ok, 3⟩).O L d iN name hsz ⟨tk, 3⟩ jq (by simp) dI (bT.twice hd1) (by omega) (by simp only at nu ⊢; omega)) ?_
 rintro _ _ ⟨rfl, rfl⟩
 refine NS ?_
 refine gK 4 (Cs f L to toName ++ [(68, .iface 93 (vP (L.b tk)))]) [] ?_
 refine gL [0, 1, 2] (fV { (ax S to toName ⟨ok, 3⟩).X with ah := (ax S to toName ⟨ok, 3⟩).X.ah - 1 } f m t (bT.vw hd1 dI) (aO (ax S to toName ⟨ok, 3⟩).X (ax S to toName ⟨ok, 3⟩).O d name ⟨tk, 3⟩) L to (bX.trans nk) toName mD (iX jr nj) (Nat.le_trans (kq jr) (by omega)) ⟨tk, 3⟩ (bX.trans jq) (by simp) (jc bT.toInv0 hd1 dI)) ?_
 rintro _ _ ⟨rfl, rfl⟩
 refine NS ?_
 refine ai.mem (aL := [.blk f [vI ((ax S to toName ⟨ok, 3⟩).X.cN), vI ((ax S to toName ⟨ok, 3⟩).X.cB), vI ((ax S to toName ⟨ok, 3⟩).X.cH), vI ((ax S to toName ⟨ok, 3⟩).X.cS), vI ((ax S to toName ⟨ok, 3⟩).X.cZ), .map (some m), vP t, vI ((ax S to toName ⟨ok, 3⟩).X.last), vI ((ax S to toName ⟨ok, 3⟩).X.ah - 1 + 1), vI ((ax S to toName ⟨ok, 3⟩).X.used)] 86, .abs (ak (aQ (br (ax S to toName ⟨ok, 3⟩).X (aO (ax S to toName ⟨ok, 3⟩).X (ax S to toName ⟨ok, 3⟩).O d name ⟨tk, 3⟩) to toName ⟨tk, 3⟩) L)), .abs (ak (bh (br (ax S to toName ⟨ok, 3⟩).X (aO (ax S to toName ⟨ok, 3⟩).X (ax S to toName ⟨ok, 3⟩).O d name ⟨tk, 3⟩) to toName ⟨tk, 3⟩) L)), .abs (aH Tryz.prog 3 m (aP (aK L ((ax S to toName ⟨ok, 3⟩).idx))) (((ax S to toName ⟨ok, 3⟩).idx).length)), .abs (aZ 156 t S.X.cH S.ay (aK L S.us)), .abs (ak (aW (br (ax S to toName ⟨ok, 3⟩).X (aO (ax S to toName ⟨ok, 3⟩).X (ax S to toName ⟨ok, 3⟩).O d name ⟨tk, 3⟩) to toName ⟨tk, 3⟩) L)), .abs R]) (fun w hS => by rw [show aW (br (ax S to toName ⟨ok, 3⟩).X (aO (ax S to toName ⟨ok, 3⟩).X (ax S to toName ⟨ok, 3⟩).O d name ⟨tk, 3⟩) to toName ⟨tk, 3⟩) L = aW S.O L from fI.trans (iW.trans lD)]; exact hS) ?_
 refine gK 1 [(10, vI 0)] [] ?_
 refine NN (af.ret ?_)
 exact RT (vI 0) [0, 3, 4, 1, 5, 2, 6] (⟨L, by rw [show renameM S d name to toName = (0, lp (ax S to toName ⟨ok, 3⟩) d name to toName ⟨tk, 3⟩) by unfold renameM; rw [hlk]; refine (if_neg (fun h => absurd h.1 (by simp))).trans ?_; rw [bp]; exact (if_neg (fun e => h50 (congrArg Th.k e))).trans ((if_neg (by simp)).trans (if_neg (by simp)))] <;> exact ⟨rfl, rfl⟩⟩)
end
section
open Go.RowKit Go.Maps HeapM TabM
attribute [local irreducible] ai aR af aj
abbrev NG (S : aI) (L : HL) (k : Nat) := (.abs (ak (iK (aW S.O L) k bR.none)) : HP)
abbrev LW (A1 : Option Addr) (S : aI) (k : Nat) (bs : List UInt8) (c2 : Nat) := (.abs (aF 5 1 A1 (((obj S.O k).data ++ bs.take (aX S.X bs.length)).length) c2 (bL ((obj S.O k).data ++ bs.take (aX S.X bs.length)))) : HP)
abbrev Gw (f : Nat) (m : Nat) (t) (S : aI) (L : HL) (k : Nat) (R : bR) := ([pF f m t S.X, pI m L S.idx, pT t S.X.cH S.ay L S.us, pO S.O L, NG S L k, pE S.O L, .abs R] : List HP)
theorem Ak {β : Bs} (S : aI) (L : HL) (f m t : Nat) (hI : Inv S) (k : Nat) (hk : Live S.idx ⟨k, 1⟩) (A : Option Addr) (c : Nat) (bs : List UInt8) (hA : bI β A bs) (hbl : bs.length ≤ 1099511627776) (hbc : bs.length ≤ c) :
    Spec Tryz.prog β 57 #[vP f, vP (L.b k), .slice A (bs.length) (c)] (pA f m t L S) (fun v l => ∃ L2, v = .tuple #[vI (writeM S k bs).1, vI (writeM S k bs).2.1] ∧ l = (pA f m t L2 ((writeM S k bs).2.2))) := by
 have hX := hI.hX
 have hkk : (obj S.O k).kind = 1 := hI.kind hk
 have QD : ((obj S.O k).data.length : Int) ≤ S.X.used := hI.M9 hk
 have hcB := hI.cB
 refine Spec.enter Tryz.func57 rfl Tryz.ntmps57 (Nat.le_of_ble_eq_true rfl) (fun R => ?_)
 refine SR ?_
 refine gK 2 [] [] ?_
 refine NN (af.seq (SR ?_))
 refine gK 3 [(12, .bool (decide ((((bs.length : Nat) : Int) : Int) = (0 : Int))))] [] ?_
 refine NN ?_
 refine af.bB (p := (((bs.length : Nat) : Int) : Int) = (0 : Int)) (fun _ => by kernel_rfl) (fun h12 => ?_) (fun h12 => ?_)
 ·have he : bs = [] := List.eq_nil_of_length_eq_zero (by omega)
  refine SR ?_
  refine gK 2 [(6, vI 0), (7, vI 0)] [] ?_
  refine NN (af.ret (aj.ar ?_))
  exact RT (.tuple #[vI 0, vI 0]) [0, 1, 2, 3, 4, 5, 6] (⟨L, by rw [show writeM S k bs = (0, 0, S) from if_pos he] <;> exact ⟨rfl, rfl⟩⟩)
 have hlen : 0 < bs.length := by omega
 refine af.skip (NX (af.seq ?_))
 refine af.bF (by kernel_rfl) (by kernel_rfl) ?_
 refine gQ 11 [(8, vI (S.X.cB - S.X.used))] [(4, a_ 0 f), (8, a_ 0 f), (9, p_ ⟨[], none, none, none, some (vI (S.X.cB - S.X.used))⟩ [(Value.int .i64 (IntKind.wrap .i64 (S.X.cB - S.X.used))) = (vI (S.X.cB - S.X.used))] ⟨bJ (by omega) (by omega) (by omega), trivial⟩)] ?_
 refine NQ (NX (af.seq (SR ?_)))
 refine gK 2 [(24, .bool (decide ((S.X.cB - S.X.used : Int) ≤ (0 : Int))))] [] ?_
 refine NN ?_
 refine af.bB (p := (S.X.cB - S.X.used : Int) ≤ (0 : Int)) (fun _ => by kernel_rfl) (fun yc => ?_) (fun yc => ?_)
 ·refine SR ?_
  refine gK 2 [(6, vI 0), (7, vI 176)] [] ?_
  refine NN (af.ret (aj.ar ?_))
  exact RT (.tuple #[vI 0, vI 176]) [0, 1, 2, 3, 4, 5, 6] (⟨L, by rw [show writeM S k bs = (0, 176, S) from (if_neg (fun e => by rw [e] at hlen; exact absurd hlen (by simp))).trans (if_pos yc)] <;> exact ⟨rfl, rfl⟩⟩)
 refine af.skip (NX (SR ?_))
 refine gK 4 [(28, vI (min ((bs.length : Nat) : Int) (S.X.cB - S.X.used)))] [(3, p_ ⟨[], none, none, none, some (vI (min ((bs.length : Nat) : Int) (S.X.cB - S.X.used)))⟩ [(Value.int .i64 (if S.X.cB - S.X.used < ((bs.length : Nat) : Int) then S.X.cB - S.X.used else ((bs.length : Nat) : Int))) = (vI (min ((bs.length : Nat) : Int) (S.X.cB - S.X.used)))] ⟨congrArg (Value.int .i64) (Jz _ _), trivial⟩)] ?_
 refine ai.slot 28 (vI (min ((bs.length : Nat) : Int) (S.X.cB - S.X.used))) (vI ↑(aX S.X bs.length)) (fun _ => by kernel_rfl) (congrArg (Value.int .i64) (Gg (by omega))) ?_
 refine gK 1 [(9, vI ↑(aX S.X bs.length))] [] ?_
 refine NN (af.seq ?_)
 have hwl := Gh (X := S.X) (n := bs.length) (by omega)
 refine af.mem (aL := (Gw f m t S L k R ++ [.abs (aF 5 1 (L.dA k) ((obj S.O k).data.length) (L.dC k) (bL (obj S.O k).data))])) (fun w hS => hS.FN (i := 4) (k := k) rfl hkk) ?_
 refine af.bZ (S := (Gw f m t S L k R)) [0, 1, 2, 3, 4, 5, 6, 7, 8, 9, 10, 11] 8 [0, 1, 2, 3, 4, 5, 6] (by kernel_rfl) (by kernel_rfl) rfl (by kernel_rfl) ?_
 refine aJ.reads (r := 0) (l := [8, 9, 10, 11]) (fr' := [(0, vP f), (1, vP (L.b k)), (9, vI ↑(aX S.X bs.length)), (29, vP (L.b k)), (33, .slice (L.dA k) ((obj S.O k).data.length) ((L.dC k))), (36, .slice A ((aX S.X bs.length)) (c))]) (aq := [(((aX S.X bs.length) : Nat) : Int) = (((aX S.X bs.length) : Nat) : Int), (aX S.X bs.length) ≤ c, (∀ F w, (ak (aQ S.O L)).h F w → w.cell? ⟨(L.b k), 9, none⟩ = some (.slice (L.dA k) ((obj S.O k).data.length) ((L.dC k))))]) [0, 1, 2, 3, 4, 5, 6, 7] [o_, o_, o_, o_, ⟨[.view 3 (.slice (L.dA k) ((obj S.O k).data.length) ((L.dC k)))], none, none, none, none⟩, o_, o_, ⟨[], some (aX S.X bs.length), none, none, none⟩] [0, 1, 9, 29, 33, 36] (fun _ => by kernel_rfl) ⟨rfl, by omega, bq (by rw [hkk]; decide) (by rw [eE (hkk)]; rfl), trivial⟩ rfl rfl ?_
 refine aJ.cut (ι := (Option Addr) × Nat) (fr' := fun ((A1, c2) : (Option Addr) × Nat) => [(0, vP f), (1, vP (L.b k)), (9, vI ↑(aX S.X bs.length)), (29, vP (L.b k)), (37, .slice A1 (((obj S.O k).data ++ bs.take (aX S.X bs.length)).length) (c2))]) (hp' := fun ((A1, c2) : (Option Addr) × Nat) => (Gw f m t S L k R ++ [LW A1 S k bs c2])) [0, 1, 2, 3, 4, 5, 6] rfl rfl ?_ rfl (fun _ => by kernel_rfl) ?_
 ·refine ai.append 7 (d := (some 37)) (t := 41) (e := 5) (z := .int .u8 0) (size := 1) (bytes := 1) (n := (obj S.O k).data.length) (cap := (L.dC k)) (A := (L.dA k)) (xs := (bL (obj S.O k).data)) (s := (.tmp 33)) (x := (.tmp 36)) (ats := #[41, 41]) (A' := A) (m := (aX S.X bs.length)) (c' := c) (news := (bL (bs.take (aX S.X bs.length)))) (fun _ => by kernel_rfl) rfl (by kernel_rfl) (fun _ => by kernel_rfl) (fun _ => by kernel_rfl) Tryz.underlying41 (by kernel_rfl) rfl (by decide) (by rw [oJ, List.length_take, Nat.min_eq_left hwl.1, Nat.mul_one]) (lf (bs.take (aX S.X bs.length))) ((hA.take (aX S.X bs.length)).src) (by unfold maxLen; omega) (by omega) (fun A1 c2 => ?_)
  refine ai.eT 7 (p := .abs (aF 5 1 A1 (((obj S.O k).data.length) + (aX S.X bs.length)) c2 ((bL (obj S.O k).data) ++ (bL (bs.take (aX S.X bs.length)))))) (p' := .abs (aF 5 1 A1 (((obj S.O k).data ++ bs.take (aX S.X bs.length)).length) c2 (bL ((obj S.O k).data ++ bs.take (aX S.X bs.length))))) (by kernel_rfl) (by rw [Ey, List.length_append, List.length_take, Nat.min_eq_left hwl.1]) ?_
  refine ai.slot 37 (.slice A1 (((obj S.O k).data.length) + (aX S.X bs.length)) (c2)) (.slice A1 (((obj S.O k).data ++ bs.take (aX S.X bs.length)).length) (c2)) (fun _ => by kernel_rfl) (by rw [List.length_append, List.length_take, Nat.min_eq_left hwl.1]) ?_
  refine NL ?_
  exact MD (A1, c2) [0, 1, 9, 29, 37] [0, 1, 2, 3, 4, 5, 6, 7]
 rintro ⟨A1, c2⟩
 refine aJ.cut (ι := Unit) (fr' := fun (_ : Unit) => [(0, vP f), (1, vP (L.b k)), (9, vI ↑(aX S.X bs.length)), (37, .slice A1 (((obj S.O k).data ++ bs.take (aX S.X bs.length)).length) (c2)), (38, vP (L.b k))]) (hp' := fun (_ : Unit) => (Gw f m t S L k R ++ [LW A1 S k bs c2])) [0, 1, 2, 3, 4, 5, 6] rfl rfl ?_ rfl (fun _ => by kernel_rfl) ?_
 ·refine gK 1 [(38, vP (L.b k))] [] ?_
  refine NL ?_
  exact MD () [0, 1, 9, 37, 38] [0, 1, 2, 3, 4, 5, 6, 7]
 rintro _
 refine aJ.cut (ι := Unit) (fr' := fun (_ : Unit) => [(0, vP f), (1, vP (L.b k)), (9, vI ↑(aX S.X bs.length)), (37, .slice A1 (((obj S.O k).data ++ bs.take (aX S.X bs.length)).length) (c2)), (39, .pointer (some ⟨(L.b k), 9, none⟩))]) (hp' := fun (_ : Unit) => (Gw f m t S L k R ++ [LW A1 S k bs c2])) [0, 1, 2, 3, 4, 5, 6] rfl rfl ?_ rfl (fun _ => by kernel_rfl) ?_
 ·refine gK 1 [(39, .pointer (some ⟨(L.b k), 9, none⟩))] [] ?_
  refine NL ?_
  exact MD () [0, 1, 9, 37, 39] [0, 1, 2, 3, 4, 5, 6, 7]
 rintro _
 refine aJ.last rfl rfl ?_
 refine ai.mem (aL := [.blk f [vI (S.X.cN), vI (S.X.cB), vI (S.X.cH), vI (S.X.cS), vI (S.X.cZ), .map (some m), vP t, vI (S.X.last), vI (S.X.ah), vI (S.X.used)] 86, .abs (aH Tryz.prog 3 m (aP (aK L S.idx)) S.idx.length), .abs (aZ 156 t S.X.cH S.ay (aK L S.us)), .abs (ak (iK (aQ S.O L) k bR.none)), .abs (ak (iK (aW S.O L) k bR.none)), .abs (ak (bh S.O L)), .abs R, .abs (aF 5 1 A1 (((obj S.O k).data ++ bs.take (aX S.X bs.length)).length) c2 (bL ((obj S.O k).data ++ bs.take (aX S.X bs.length)))), .blk (L.b k) [vI ((obj S.O k).id), vI ((obj S.O k).mode), vI ((obj S.O k).uid), vI ((obj S.O k).gid), vI ((obj S.O k).sec), vI ((obj S.O k).nano), vI ((obj S.O k).links), vI ((obj S.O k).opens), .bool (obj S.O k).gone, .slice (L.dA k) ((obj S.O k).data.length) ((L.dC k))] 92]) (fun w hS => hS.tQ (i := 3) (k := k) rfl (by rw [hkk]; decide) (eE (hkk)) (by rw [hkk]; rfl)) ?_
 refine gC 1 [] [(0, a_ 8 (L.b k))] [(8, [(9, .slice A1 (((obj S.O k).data ++ bs.take (aX S.X bs.length)).length) (c2))])] ?_
 obtain ⟨L2, hL2⟩ : ∃ L2 : HL, L2 = L.data k A1 c2 := ⟨_, rfl⟩
 refine ai.mem (aL := [.abs (ak (aQ (aB S.O k (fun o => { o with data := o.data ++ bs.take (aX S.X bs.length) })) L2)), .blk f [vI (S.X.cN), vI (S.X.cB), vI (S.X.cH), vI (S.X.cS), vI (S.X.cZ), .map (some m), vP t, vI (S.X.last), vI (S.X.ah), vI (S.X.used)] 86, .abs (aH Tryz.prog 3 m (aP (aK L S.idx)) S.idx.length), .abs (aZ 156 t S.X.cH S.ay (aK L S.us)), .abs (ak (iK (aW S.O L) k bR.none)), .abs (ak (bh S.O L)), .abs R, .abs (aF 5 1 A1 (((obj S.O k).data ++ bs.take (aX S.X bs.length)).length) c2 (bL ((obj S.O k).data ++ bs.take (aX S.X bs.length))))]) (fun w hS => hS.LB hL2 (f := (fun o => { o with data := o.data ++ bs.take (aX S.X bs.length) })) (i := 3) (j := 8) (ix := [0, 1, 2, 4, 5, 6, 7]) rfl rfl (by kernel_rfl) rfl (by show (obj S.O k).kind ≠ 0; rw [hkk]; decide) ((eE (L := L2) (k := k) (o := (fun o => { o with data := o.data ++ bs.take (aX S.X bs.length) }) (obj S.O k)) hkk).trans (by rw [DP hL2, DQ hL2] <;> rfl)) (by show kN (obj S.O k).kind = _; rw [hkk]; rfl)) ?_
 refine ai.mem (aL := [pD (aB S.O k (fun o => { o with data := o.data ++ bs.take (aX S.X bs.length) })) L2, pO (aB S.O k (fun o => { o with data := o.data ++ bs.take (aX S.X bs.length) })) L2, pF f m t S.X, pI m L S.idx, pT t S.X.cH S.ay L S.us, pE S.O L, .abs R]) (fun w hS => hS.LC hL2 (f := (fun o => { o with data := o.data ++ bs.take (aX S.X bs.length) })) (i := 4) (j := 7) (ix := [0, 1, 2, 3, 5, 6]) rfl rfl (by kernel_rfl) rfl hkk rfl rfl) ?_
 refine ai.mem (aL := [.abs (ak (aW (aB S.O k (fun o => { o with data := o.data ++ bs.take (aX S.X bs.length) })) L2)), .abs (ak (aQ (aB S.O k (fun o => { o with data := o.data ++ bs.take (aX S.X bs.length) })) L2)), .blk f [vI (S.X.cN), vI (S.X.cB), vI (S.X.cH), vI (S.X.cS), vI (S.X.cZ), .map (some m), vP t, vI (S.X.last), vI (S.X.ah), vI (S.X.used)] 86, .abs (aH Tryz.prog 3 m (aP (aK L2 S.idx)) S.idx.length), .abs (aZ 156 t S.X.cH S.ay (aK L2 S.us)), .abs (ak (bh (aB S.O k (fun o => { o with data := o.data ++ bs.take (aX S.X bs.length) })) L2)), .abs R]) (fun w hS => by rw [Ch hL2, Ch hL2, show bh (aB S.O k (fun o => { o with data := o.data ++ bs.take (aX S.X bs.length) })) L2 = bh S.O L from (kF (O := S.O) (k := k) (f := (fun o => { o with data := o.data ++ bs.take (aX S.X bs.length) })) rfl rfl).trans (Iw hL2)]; exact hS) ?_
 have zk : (obj (aB S.O k (fun o => { o with data := o.data ++ bs.take (aX S.X bs.length) })) k).kind = 1 := (iC (f := (fun o => { o with data := o.data ++ bs.take (aX S.X bs.length) })) (fun _ => rfl)).trans hkk
 have hbk : L2.b k = L.b k := Gi hL2
 generalize bP : (aB S.O k (fun o => { o with data := o.data ++ bs.take (aX S.X bs.length) })) = bK at zk ⊢
 refine NL (aj.np (NX (SR ?_)))
 refine gK 1 [(40, vP (L.b k))] [] ?_
 refine ai.slot 40 (vP (L.b k)) (vP (L2.b k)) (fun _ => by kernel_rfl) (by rw [hbk]) ?_
 refine gK 8 [(45, .agg #[vI (S.X.cS), vI (S.X.cZ)]), (48, .pointer (some ⟨(L2.b k), 4, none⟩))] [(4, A_ 2 f 2)] ?_
 refine Gq 1 [(5, 1), (0, 2)] k S.X.cS S.X.cZ zk (fun cX cu => ?_)
 have ug := ku cu zk
 refine NS ?_
 refine gC 9 [] [(3, a_ 2 f), (5, p_ ⟨[], none, none, none, some (vI (S.X.used + (((aX S.X bs.length) : Nat) : Int)))⟩ [(Value.int .i64 (IntKind.wrap .i64 (S.X.used + (((aX S.X bs.length) : Nat) : Int)))) = (vI (S.X.used + (((aX S.X bs.length) : Nat) : Int)))] ⟨bJ (by omega) (by omega) (by omega), trivial⟩), (8, a_ 2 f)] [(2, [(9, vI (S.X.used + (((aX S.X bs.length) : Nat) : Int)))])] ?_
 refine NS ?_
 refine gK 3 [(6, vI ↑(aX S.X bs.length)), (7, vI 0)] [] ?_
 refine NN (af.ret ?_)
 exact RT (l := [pF f m t { S.X with used := S.X.used + (((aX S.X bs.length) : Nat) : Int) }, pI m L2 S.idx, pT t S.X.cH S.ay L2 S.us, pO cX L2, pD cX L2, pE cX L2]) (.tuple #[vI ↑(aX S.X bs.length), vI 0]) [2, 3, 4, 1, 0, 5, 6] (⟨L2, by subst cu; subst bP; rw [show writeM S k bs = _ from (if_neg (fun e => by rw [e] at hlen; exact absurd hlen (by simp))).trans (if_neg yc)]; exact ⟨rfl, by rw [qp]⟩⟩)
end
end Go.Proofs.YtkiedlmhocglhaaGreatDoor
section
namespace Go.Proofs
open Go.Shelf
def Tryz.lays146_ren : Go.Shelf.Ren := ⟨fun | 146 => 102 | 221 => 145 | 268 => 178 | 138 => 179 | 143 => 180 | 195 => 194 | 197 => 195 | 218 => 196 | 219 => 197 | 260 => 202 | 217 => 181 | 225 => 154 | 224 => 153 | 267 => 203 | 266 => 198 | 314 => 204 | n => n, fun | 9 => 9 | 31 => 111 | 3 => 3 | 4 => 4 | 0 => 0 | 105 => 250 | 21 => 21 | 5 => 5 | 46 => 195 | 119 => 259 | 139 => 262 | 138 => 261 | 146 => 263 | 51 => 224 | n => n, fun | 1 => 0 | 3 => 1 | 4 => 2 | n => n⟩
theorem Tryz.lays146 : Go.Proofs.Lays.n146 Tryz.prog Tryz.lays146_ren := {
  mixed := by kernel_rfl
  f138 := Tryz.func179.trans (congrArg some (by kernel_rfl))
  f143 := Tryz.func180.trans (congrArg some (by kernel_rfl))
  f146 := Tryz.func102.trans (congrArg some (by kernel_rfl))
  f195 := Tryz.func194.trans (congrArg some (by kernel_rfl))
  f197 := Tryz.func195.trans (congrArg some (by kernel_rfl))
  f217 := Tryz.func181.trans (congrArg some (by kernel_rfl))
  f218 := Tryz.func196.trans (congrArg some (by kernel_rfl))
  f219 := Tryz.func197.trans (congrArg some (by kernel_rfl))
  f221 := Tryz.func145.trans (congrArg some (by kernel_rfl))
  f224 := Tryz.func153.trans (congrArg some (by kernel_rfl))
  f225 := Tryz.func154.trans (congrArg some (by kernel_rfl))
  f260 := Tryz.func202.trans (congrArg some (by kernel_rfl))
  f266 := Tryz.func198.trans (congrArg some (by kernel_rfl))
  f267 := Tryz.func203.trans (congrArg some (by kernel_rfl))
  f268 := Tryz.func178.trans (congrArg some (by kernel_rfl))
  f314 := Tryz.func204.trans (congrArg some (by kernel_rfl))
  t0 := Tryz.underlying0
  a0 := Tryz.isAgg0
  z0 := Tryz.sizeOf0
  v0 := Tryz.zeroValue0
  t3 := Tryz.underlying3
  a3 := Tryz.isAgg3
  z3 := Tryz.sizeOf3
  v3 := Tryz.zeroValue3
  t4 := Tryz.underlying4
  a4 := Tryz.isAgg4
  z4 := Tryz.sizeOf4
  v4 := Tryz.zeroValue4
  t5 := Tryz.underlying5
  a5 := Tryz.isAgg5
  z5 := Tryz.sizeOf5
  v5 := Tryz.zeroValue5
  t9 := Tryz.underlying9
  a9 := Tryz.isAgg9
  z9 := Tryz.sizeOf9
  v9 := Tryz.zeroValue9
  t21 := Tryz.underlying21
  a21 := Tryz.isAgg21
  z21 := Tryz.sizeOf21
  v21 := Tryz.zeroValue21
  t31 := Tryz.underlying111
  a31 := Tryz.isAgg111
  z31 := Tryz.sizeOf111
  v31 := Tryz.zeroValue111
  t46 := Tryz.underlying195
  a46 := Tryz.isAgg195
  z46 := Tryz.sizeOf195
  v46 := Tryz.zeroValue195
  t51 := Tryz.underlying224
  a51 := Tryz.isAgg224
  z51 := Tryz.sizeOf224
  v51 := Tryz.zeroValue224
  t105 := Tryz.underlying250
  a105 := Tryz.isAgg250
  z105 := Tryz.sizeOf250
  v105 := Tryz.zeroValue250
  t119 := Tryz.underlying259
  a119 := Tryz.isAgg259
  z119 := Tryz.sizeOf259
  t138 := Tryz.underlying261
  a138 := Tryz.isAgg261
  z138 := Tryz.sizeOf261
  v138 := Tryz.zeroValue261
  t139 := Tryz.underlying262
  a139 := Tryz.isAgg262
  z139 := Tryz.sizeOf262
  v139 := Tryz.zeroValue262
  t146 := Tryz.underlying263
  a146 := Tryz.isAgg263
  z146 := Tryz.sizeOf263
  v146 := Tryz.zeroValue263
  g1 := by kernel_rfl
  g3 := by kernel_rfl
  g4 := by kernel_rfl }
open Go.RowKit Go.Lib in
theorem Tryz.strings_Split (s sep : ByteArray) (m : Int) (w : World) (hs : s.size < 4294967281) (hm : w.cell? ⟨0, 0, none⟩ = some (.int .i64 m)) (h1 : 1 ≤ sep.size) :
    Calls Tryz.prog 102 #[.string s, .string sep] w fun e w' =>
      e = .returned (.slice (some ⟨w.heap.size, 0, none⟩) (Lib.countB s sep + 1) (Lib.countB s sep + 1)) ∧ w' = w.alloc (.cells ((Lib.splitB sep 0 (Lib.countB s sep) s).map Value.string).toArray 9) := Any.strings_Split Tryz.lays146 (by kernel_rfl) s sep m w hs hm h1
end Go.Proofs
end
namespace Go.Proofs.YtkiedlmhocglhaaGreatDoor
section
open Go.RowKit Go.Maps HeapM TabM
def iY (β : Bs) : Prop := ∃ m, Rd β ⟨0, 0, none⟩ (.int .i64 m)
theorem iY.le {β β' : Bs} (h : iY β) (hle : β.le β') : iY β' := h.imp fun _ h => h.le hle
theorem ye (s : ByteArray) : (gS s).length = Lib.countB s slash + 1 := Lib.splitB_all slash (by decide) 0 _ s rfl
theorem uq (s : ByteArray) : Lib.countB s slash ≤ s.size := Lib.countB_le slash (by decide) _ s (Nat.le_refl _)
theorem vG (sep : ByteArray) : ∀ (k : Nat) (s : ByteArray), ∀ p ∈ Lib.splitB sep 0 k s, p.size ≤ s.size
  | 0, s, p, hp => by
    rw [Lib.splitB_zero] at hp
    rw [List.mem_singleton.1 hp]; exact Nat.le_refl _
  | k + 1, s, p, hp => by
    rcases Lib.indexB_cases s sep with hix | ⟨i, hix, _⟩
    ·rw [Lib.splitB_miss sep 0 (k + 1) s hix] at hp
     rw [List.mem_singleton.1 hp]; exact Nat.le_refl _
    rw [Lib.splitB_hit sep 0 k s i hix] at hp
    rcases List.mem_cons.1 hp with rfl | hp
    ·rw [ByteArray.size_extract]; omega
    have := vG sep k _ p hp
    rw [ByteArray.size_extract] at this
    omega
theorem Dk {s p : ByteArray} (hp : p ∈ gS s) : p.size ≤ s.size := vG slash _ s p hp
def jT (ps : List ByteArray) : List Value := ps.map Value.string
theorem IJ {β : Bs} (hg : iY β) (s : ByteArray) (hs : s.size ≤ 1048576) : Spec Tryz.prog β 102 #[.string s, .string ⟨#[47]⟩] [] (fun v l => ∃ b, v = .slice (some ⟨b, 0, none⟩) (gS s).length (gS s).length ∧ l = [.abs (aF 9 1 (some ⟨b, 0, none⟩) (gS s).length (gS s).length (jT (gS s)))]) :=
  Spec.Bk fun W hW => by
    obtain ⟨m, hg⟩ := hg
    have hm : W.cell? ⟨0, 0, none⟩ = some (.int .i64 m) := (World.cell?_of_block (w := β.w0) (hW.old _ hg.1).2).trans hg.2
    have hl := ye s
    have hc := uq s
    refine (Tryz.strings_Split s slash m W (by omega) hm (by decide)).mono ?_
    rintro e w' ⟨rfl, rfl⟩
    refine ⟨_, _, rfl, ⟨W.heap.size, by rw [hl], rfl⟩, (Keeps.refl _ _).alloc _, fun k => k = W.heap.size, ⟨⟨?_, .inr ⟨W.heap.size, (gS s).length, (jT (gS s)).toArray, rfl, Nat.zero_le _, ?_, Nat.le_refl _, ?_, ?_, ?_⟩⟩, fun k => ?_⟩, fun k hk => Nat.le_of_eq hk.symm⟩
    ·simp [jT]
    ·show (W.heap.push _)[W.heap.size]? = _
     simp [jT, gS]
    ·unfold maxLen; omega
    ·first | (simp [jT]; done) | (simp [jT]; exact List.take_of_length_le (by simp))
    ·first | (simp [jT]; done) | (simp [jT]; exact List.take_of_length_le (by simp))
    simp [Value.ownBlock, eq_comm]
theorem Gx {β : Bs} {ps : List ByteArray} (hg : iY β) (s : ByteArray) (hs : s.size ≤ 1048576) (hp : ps = gS s) : Spec Tryz.prog β 102 #[.string s, .string ⟨#[47]⟩] [] (fun v l => ∃ b, v = .slice (some ⟨b, 0, none⟩) ps.length ps.length ∧ l = [.abs (aF 9 1 (some ⟨b, 0, none⟩) ps.length ps.length (jT ps))]) := by
  subst hp; exact IJ hg s hs
def pc (ps : List ByteArray) (j : Nat) : ByteArray := ps.getD j ⟨#[]⟩
theorem Gy {ps : List ByteArray} {j : Nat} (hj : j < ps.length) : pc ps j ∈ ps := by
  unfold pc
  rw [List.getD_eq_getElem?_getD, List.getElem?_eq_getElem hj]
  exact List.getElem_mem _
theorem wB {ps : List ByteArray} {j : Nat} (hj : j < ps.length) : (jT ps)[j]? = some (.string (pc ps j)) := by
  unfold jT pc
  rw [List.getElem?_map, List.getD_eq_getElem?_getD, List.getElem?_eq_getElem hj]
  rfl
theorem zn {ps : List ByteArray} {j : Nat} (hj : j < ps.length) : ps.drop j = pc ps j :: ps.drop (j + 1) := by
  unfold pc
  rw [List.getD_eq_getElem?_getD, List.getElem?_eq_getElem hj]
  exact List.drop_eq_getElem_cons hj
theorem Ct {ps : List ByteArray} : (∀ p ∈ ps, bE p) ↔ ∀ j, j < ps.length → bE (pc ps j) := by
  refine ⟨fun h j hj => h _ (Gy hj), fun h p hp => ?_⟩
  obtain ⟨j, hj, rfl⟩ := List.getElem_of_mem hp
  have := h j hj
  unfold pc at this
  rw [List.getD_eq_getElem?_getD, List.getElem?_eq_getElem hj] at this
  exact this
theorem Al {n : ByteArray} (h : bE n) : n.size ≤ 1048576 := Nat.le_trans h.2.1 (by decide)
theorem Cu {O : bM} : ∀ {ps : List ByteArray} {d : Nat} {e : Int}, iM O d ps = .error e → e ≠ 0
  | [], d, e, h => by cases h; decide
  | [p], d, e, h => by
    unfold iM at h
    split at h
    ·cases h; decide
    cases h
  | p :: q :: r, d, e, h => by
    unfold iM at h
    split at h
    ·cases h; decide
    split at h
    ·cases h; decide
    split at h
    ·cases h; decide
    exact Cu h
theorem Am {S : aI} {d : Nat} (hI : Inv S) (hd : Live S.idx ⟨d, 2⟩) (path : ByteArray) : (∃ e, gI S.O d path = .error e ∧ e ≠ 0) ∨ ∃ d' name, gI S.O d path = .ok (d', name) ∧ Live S.idx ⟨d', 2⟩ ∧ (obj S.O d').gone = false ∧ bE name := by
  cases h : gI S.O d path with
  | error e =>
    refine .inl ⟨e, rfl, ?_⟩
    unfold gI at h
    split at h
    ·exact Cu h
    cases h; decide
  | ok x =>
    obtain ⟨d', name⟩ := x
    exact .inr ⟨d', name, rfl, zf hI.toInv0 hd h⟩
section way
variable {O : bM} {d : Nat} {ps : List ByteArray} {j : Nat}
theorem Ap (hj : j + 1 = ps.length) : iM O d (ps.drop j) = if (obj O d).gone = true then .error 170 else .ok (d, pc ps j) := by
  rw [zn (by omega), List.drop_of_length_le (by omega)]
  rfl
theorem qF (hj : j + 1 < ps.length) : iM O d (ps.drop j) = match aU (pc ps j) (obj O d).ah with
    | none => .error 170
    | some t => if t.kind = 3 then .error 174 else if t.kind = 1 then .error 173 else iM O t.k (ps.drop (j + 1)) := by
  rw [zn (j := j) (by omega), zn (j := j + 1) hj]
  rfl
end way
section bytes
variable {P : Program} {β : Bs} {N : Nat} {ops : Array Oper} {k : Nat} {fr : Fr} {hps : List HP} {Q : Post} {d : Option Tmp} {s : ByteArray}
theorem Bs.ok.Kv {β : Bs} {w : World} (h : β.ok w) (F : Nat → Prop) : β.le ⟨fun k => β.O k ∨ F k, w⟩ := ⟨fun _ h => .inl h, h.os, h.tape, h.output, h.size, fun k hk => h.old k hk⟩
theorem ai.Cv {t1 t2 e : TypeId} {x : Operand} (hop : ∀ junk, dV N junk ops fr k = some (.convert t1 t2 x, d)) (hx : ∀ junk, cD N fr junk x = .string s) (h1 : P.underlying t1 = some .string) (h2 : P.underlying t2 = some (.slice e)) (h3 : P.underlying e = some (.int .u8))
    (K : ∀ b cap, s.data.toList.length ≤ cap → ai P β N ops (k + 1) (cJ fr d (.slice (some ⟨b, 0, none⟩) s.data.toList.length cap)) (hps ++ [.abs (mB β (fun β' => bI β' (some ⟨b, 0, none⟩) s.data.toList))]) Q) : ai P β N ops k fr hps Q := by
  refine ai.Bn (ι := { p : Nat × Nat // s.data.toList.length ≤ p.2 }) (v := fun p => .slice (some ⟨p.1.1, 0, none⟩) s.data.toList.length p.1.2) (hp' := fun p => hps ++ [.abs (mB β (fun β' => bI β' (some ⟨p.1.1, 0, none⟩) s.data.toList))]) hop (fun o junk w ho hS => ?_) (fun p => K p.1.1 p.1.2 p.2)
  have hr := run_bytes_of_string (P := P) w t1 t2 e s h1 h2 h3
  have hsz : s.data.toList.length = s.size := Array.length_toList ..
  generalize hw : (w.drew.alloc (.cells (bytesRow s (grownCap w s.size 0 e)) e ((bytesRow s (grownCap w s.size 0 e)).size, (bytesRow s (grownCap w s.size 0 e)).size + 1))) = w' at hr
  have hk : Keeps (fun _ => False) w w' := by rw [← hw]; exact (Keeps.refl _ _).drew.alloc _
  have hok := hS.1.keeps hk (fun _ _ h => h)
  have hheap : w'.heap[w.heap.size]? = some (.cells (bytesRow s (grownCap w s.size 0 e)) e ((bytesRow s (grownCap w s.size 0 e)).size, (bytesRow s (grownCap w s.size 0 e)).size + 1)) := by
    rw [← hw]
    show (w.heap.push _)[w.heap.size]? = _
    simp
  have hsize : w.heap.size < w'.heap.size := by
    have := (Array.getElem?_eq_some_iff.1 hheap).1
    exact this
  refine ⟨⟨(w.heap.size, grownCap w s.size 0 e), by rw [hsz]; exact grownCap_ge w s.size 0 e⟩, w', .inl ?_, hS.new (F := fun k => k = w.heap.size) ?_ hk (fun k e => Nat.le_of_eq e.symm)⟩
  ·obtain ⟨dst, op, type, pos, after, guard⟩ := o
   cases ho
   have hr2 : (convert t1 t2 (.string s)).run P w = .ok (.slice (some ⟨w.heap.size, 0, none⟩) s.data.toList.length (grownCap w s.size 0 e)) w' := by rw [hr, hsz]
   simp only [execOp, hx]
   simp [hr2, Result.andThen]
  refine ⟨⟨fun k => β.O k ∨ k = w.heap.size, w'⟩, hok.Kv _, fun _ h => h, fun _ h => .inr h, Nat.le_refl _, fun k hk => ⟨by rw [hk]; exact hsize, rfl⟩, fun j v hj => ⟨rfl, .inr rfl, ?_⟩⟩
  show World.cell? w' ⟨w.heap.size, 0 + j, none⟩ = some v
  have hj2 := bA hj
  unfold World.cell?
  rw [hheap]
  unfold bL at hj hj2
  rw [List.length_map] at hj2
  rw [List.getElem?_map, List.getElem?_eq_getElem hj2] at hj
  simp only [Option.map_some, Option.some.injEq] at hj
  subst hj
  unfold bytesRow
  rw [Nat.zero_add]
  simp only [Option.isSome_none, Bool.false_eq_true, if_false]
  have hj3 : j < s.data.size := by rw [← Array.length_toList]; exact hj2
  rw [Array.getElem?_append_left (by simpa using hj3)]
  simp [rS]
  exact ⟨_, Array.getElem?_eq_getElem hj3, rfl⟩
end bytes
theorem yg {β : Bs} (S : aI) (L : HL) (f m t : Nat) (hI : Inv S) (k : Nat) (hk : Live S.idx ⟨k, 1⟩) (A : Option Addr) (c : Nat) (bs : List UInt8) (hbl : bs.length ≤ 1099511627776) (hbc : bs.length ≤ c) :
    Spec Tryz.prog β 57 #[vP f, vP (L.b k), .slice A bs.length c] (.abs (mB β (fun β' => bI β' A bs)) :: pA f m t L S) (fun v l => ∃ L2, v = .tuple #[vI (writeM S k bs).1, vI (writeM S k bs).2.1] ∧ l = pA f m t L2 (writeM S k bs).2.2) :=
  Spec.EG fun _ _ hA => Ak S L f m t hI k hk A c bs hA hbl hbc
def wC (L : HL) : Except Int (Nat × ByteArray) → Value
  | .error e => .tuple #[.pointer none, .string ⟨#[]⟩, .int .i64 e]
  | .ok (d, p) => .tuple #[.pointer (some ⟨L.b d, 0, none⟩), .string p, .int .i64 0]
end
section
open Go.RowKit Go.Maps HeapM TabM
attribute [local irreducible] ai aR af aj
abbrev jN (t) (S : aI) (L : HL) := (pT t S.X.cH S.ay L S.us : HP)
abbrev l6 (m : Nat) (L : HL) (S : aI) (cb : Nat) (c) (R : bR) := ([pI m L S.idx, pD S.O L, pE S.O L, pC cb c, .abs R] : List HP)
abbrev JR (f : Nat) (c : aV) := ([(8, vP f), (12, vI (c.handle)), (16, .string c.name)] : Fr)
abbrev Cw (L : HL) (d : Nat) := ([(5, vP (L.b d)), (6, vI 0)] : Fr)
abbrev mP (f : Nat) (m : Nat) (t) (S : aI) (L : HL) := ([pF f m t S.X, jN t S L, pO S.O L] : List HP)
abbrev Gz (e) := ([(5, .pointer none), (6, vI (e))] : Fr)
theorem fW {β : Bs} (S : aI) (L : HL) (f m t : Nat) (hI : Inv S) (cb : Nat) (c : aV) (hC : fJ β c) :
    Spec Tryz.prog β 133 #[vP f, vP cb] ((pA f m t L S) ++ [pC cb c]) (fun v l => v = Ot L (fA S.O S.us c) ∧ l = ((pA f m t L S) ++ [pC cb c])) := by
 refine Spec.enter Tryz.func133 rfl Tryz.ntmps133 (Nat.le_of_ble_eq_true rfl) (fun R => ?_)
 refine SR ?_
 refine gK 2 [] [] ?_
 refine NN (af.seq ?_)
 refine af.bF (by kernel_rfl) (by kernel_rfl) ?_
 refine gQ 9 [(10, vP f), (14, vI (c.handle)), (18, .string c.name)] [(4, a_ 6 cb), (8, a_ 6 cb)] ?_
 rcases jM hI.toInv0 c.handle c.name 64 with ⟨e, hab, hne⟩ | ⟨d, hab, hd, gA, hgn, cF⟩
 ·refine aR.call (f := 134) (args := #[vP f, vI (c.handle), .string c.name, vI 64]) (d := (some 19)) (pre := (mP f m t S L)) (R := (l6 m L S cb c R)) (pk := [0, 2, 3, 1, 4, 5, 6, 7]) (gM := [0, 3, 1, 2, 4, 5, 6, 7]) (v0 := .tuple #[.pointer none, vI (e)]) (fun _ => by kernel_rfl) ((by have h := cY S L f m t hI c.handle hC.hw c.name hC.nm 64 (β := β); rw [hab] at h; exact h)) rfl (by kernel_rfl) rfl (by kernel_rfl) (fun _ _ h => h) ?_
  refine gQ 5 [(6, .pointer none), (7, vI (e))] [] ?_
  refine NQ (NX (af.seq (SR ?_)))
  refine gK 2 [(23, .bool (!(decide ((e : Int) = (0 : Int)))))] [] ?_
  refine NN ?_
  refine af.cr (p := (e : Int) = (0 : Int)) (fun _ => by kernel_rfl) (fun h23 => ?_) (fun h23 => ?_)
  ·refine SR ?_
   refine gK 3 [(4, .nilIface), (5, vI (e))] [] ?_
   refine NN (af.ret (aj.ar ?_))
   exact RT (.tuple #[.nilIface, vI (e)]) [0, 1, 2, 3, 4, 5, 6, 7] (⟨by rw [show fA S.O S.us c = .error e by unfold fA; rw [hab]]; rfl, rfl⟩)
  exact absurd h23 hne
 have hkd : (obj S.O d).kind = 2 := hI.kind hd
 refine aR.call (f := 134) (args := #[vP f, vI (c.handle), .string c.name, vI 64]) (d := (some 19)) (pre := (mP f m t S L)) (R := (l6 m L S cb c R)) (pk := [0, 2, 3, 1, 4, 5, 6, 7]) (gM := [0, 3, 1, 2, 4, 5, 6, 7]) (v0 := .tuple #[vP (L.b d), vI 0]) (fun _ => by kernel_rfl) ((by have h := cY S L f m t hI c.handle hC.hw c.name hC.nm 64 (β := β); rw [hab] at h; exact h)) rfl (by kernel_rfl) rfl (by kernel_rfl) (fun _ _ h => h) ?_
 refine gQ 5 [(6, vP (L.b d)), (7, vI 0)] [] ?_
 refine NQ (NX (af.seq (SR ?_)))
 refine gK 2 [(23, .bool false)] [] ?_
 refine NN ?_
 refine CF ?_
 refine af.skip (NX (af.seq ?_))
 have hel : (obj S.O d).ah.length ≤ 8192 := hI.eS hd
 have Nj := hC.nm
 rcases hI.jY hd c.name with hlk | ⟨tk, hlk, hlv⟩ | ⟨tk, hlk, hlv⟩ | ⟨tk, hlk, hlv⟩
 ·refine af.bF (by kernel_rfl) (by kernel_rfl) ?_
  refine gQ 8 [(28, .map (some (L.m d))), (32, .string c.name)] [(3, v_ 3 (bC L hkd)), (7, a_ 6 cb)] ?_
  refine oz 5 hkd hlk ?_
  refine gQ 1 [(8, .nilIface)] [] ?_
  refine NQ (NX (af.seq (SR ?_)))
  refine gK 2 [(35, .bool true)] [] ?_
  refine NN ?_
  refine CT ?_
  refine SR ?_
  refine gK 2 [(4, .nilIface), (5, vI 170)] [] ?_
  refine NN (af.ret (aj.ar ?_))
  exact RT (.tuple #[.nilIface, vI 170]) [0, 1, 2, 3, 4, 5, 6, 7] (⟨by rw [show fA S.O S.us c = .error 170 by unfold fA; rw [hab]; simp only; rw [hlk]]; rfl, rfl⟩)
 ·have hkt : (obj S.O tk).kind = 1 := hI.kind hlv
  refine af.bF (by kernel_rfl) (by kernel_rfl) ?_
  refine gQ 8 [(28, .map (some (L.m d))), (32, .string c.name)] [(3, v_ 3 (bC L hkd)), (7, a_ 6 cb)] ?_
  refine oz 5 hkd hlk ?_
  refine gQ 1 [(8, .iface 89 (vP (L.b tk)))] [] ?_
  refine NQ (NX (af.seq (SR ?_)))
  refine gK 2 [(35, .bool false)] [] ?_
  refine NN ?_
  refine CF ?_
  refine af.skip (NX (SR ?_))
  refine gK 3 [(4, .iface 89 (vP (L.b tk))), (5, vI 0)] [] ?_
  refine NN (af.ret ?_)
  exact RT (.tuple #[.iface 89 (vP (L.b tk)), vI 0]) [0, 1, 2, 3, 4, 5, 6, 7] (⟨by rw [show fA S.O S.us c = .ok ⟨tk, 1⟩ by unfold fA; rw [hab]; simp only; rw [hlk]]; rfl, rfl⟩)
 ·have hkt : (obj S.O tk).kind = 2 := hI.kind hlv
  refine af.bF (by kernel_rfl) (by kernel_rfl) ?_
  refine gQ 8 [(28, .map (some (L.m d))), (32, .string c.name)] [(3, v_ 3 (bC L hkd)), (7, a_ 6 cb)] ?_
  refine oz 5 hkd hlk ?_
  refine gQ 1 [(8, .iface 96 (vP (L.b tk)))] [] ?_
  refine NQ (NX (af.seq (SR ?_)))
  refine gK 2 [(35, .bool false)] [] ?_
  refine NN ?_
  refine CF ?_
  refine af.skip (NX (SR ?_))
  refine gK 3 [(4, .iface 96 (vP (L.b tk))), (5, vI 0)] [] ?_
  refine NN (af.ret ?_)
  exact RT (.tuple #[.iface 96 (vP (L.b tk)), vI 0]) [0, 1, 2, 3, 4, 5, 6, 7] (⟨by rw [show fA S.O S.us c = .ok ⟨tk, 2⟩ by unfold fA; rw [hab]; simp only; rw [hlk]]; rfl, rfl⟩)
 have hkt : (obj S.O tk).kind = 3 := hI.kind hlv
 refine af.bF (by kernel_rfl) (by kernel_rfl) ?_
 refine gQ 8 [(28, .map (some (L.m d))), (32, .string c.name)] [(3, v_ 3 (bC L hkd)), (7, a_ 6 cb)] ?_
 refine oz 5 hkd hlk ?_
 refine gQ 1 [(8, .iface 93 (vP (L.b tk)))] [] ?_
 refine NQ (NX (af.seq (SR ?_)))
 refine gK 2 [(35, .bool false)] [] ?_
 refine NN ?_
 refine CF ?_
 refine af.skip (NX (SR ?_))
 refine gK 3 [(4, .iface 93 (vP (L.b tk))), (5, vI 0)] [] ?_
 refine NN (af.ret ?_)
 exact RT (.tuple #[.iface 93 (vP (L.b tk)), vI 0]) [0, 1, 2, 3, 4, 5, 6, 7] (⟨by rw [show fA S.O S.us c = .ok ⟨tk, 3⟩ by unfold fA; rw [hab]; simp only; rw [hlk]]; rfl, rfl⟩)
theorem EQ {β : Bs} (S : aI) (L : HL) (f m t : Nat) (hI : Inv S) (cb : Nat) (c : aV) (hC : fJ β c) :
    Spec Tryz.prog β 78 #[vP f, vP cb] ((pA f m t L S) ++ [pC cb c]) (fun v l => ∃ L2, v = vI (iG S c).1 ∧ l = ((pA f m t L2 ((iG S c).2.1)) ++ [.blk cb (gh ((iG S c).2.2)) 43])) := by
 have hX := hI.hX
 refine Spec.enter Tryz.func78 rfl Tryz.ntmps78 (Nat.le_of_ble_eq_true rfl) (fun R => ?_)
 refine SR ?_
 refine gK 1 [] [] ?_
 refine NN (af.seq ?_)
 rcases hI.Ls c.other with hix | ⟨tk, hix, hlv⟩ | ⟨tk, hix, hlv⟩ | ⟨tk, hix, hlv⟩
 ·refine af.bF (by kernel_rfl) (by kernel_rfl) ?_
  refine gQ 8 [(10, .map (some m)), (14, vI (c.other))] [(3, a_ 0 f), (7, a_ 6 cb)] ?_
  refine aR.dN 1 (d := (some 15)) (t := 80) (K := 3) (E := 84) (b := m) (n := S.idx.length) (f := (aP (aK L S.idx))) (x := (.tmp 10)) (ix := (.tmp 14)) (key := vI (c.other)) (z := .nilIface) (kl := (.int .i64 c.other)) (r := none) (fun _ => by kernel_rfl) (by kernel_rfl) (fun _ => by kernel_rfl) (fun _ => by kernel_rfl) dz Tryz.underlying80 (fun _ => by kernel_rfl) (gX hC.ow) (by rw [dO, hix]; rfl) ?_
  refine gQ 1 [(5, .nilIface)] [] ?_
  refine NQ (NX (af.seq (SR ?_)))
  refine gK 2 [(17, .bool true)] [] ?_
  refine NN ?_
  refine CT ?_
  refine SR ?_
  refine gK 1 [(4, vI 141)] [] ?_
  refine NN (af.ret (aj.ar ?_))
  exact RT (vI 141) [0, 1, 2, 3, 4, 5, 6, 7] (⟨L, by rw [show (iG S c) = (141, S, c) by unfold iG; rw [hix]] <;> exact ⟨rfl, rfl⟩⟩)
 ·have hkt : (obj S.O tk).kind = 1 := hI.kind hlv
  refine af.bF (by kernel_rfl) (by kernel_rfl) ?_
  refine gQ 8 [(10, .map (some m)), (14, vI (c.other))] [(3, a_ 0 f), (7, a_ 6 cb)] ?_
  refine aR.dN 1 (d := (some 15)) (t := 80) (K := 3) (E := 84) (b := m) (n := S.idx.length) (f := (aP (aK L S.idx))) (x := (.tmp 10)) (ix := (.tmp 14)) (key := vI (c.other)) (z := .nilIface) (kl := (.int .i64 c.other)) (r := (some (cG L ⟨tk, 1⟩))) (fun _ => by kernel_rfl) (by kernel_rfl) (fun _ => by kernel_rfl) (fun _ => by kernel_rfl) dz Tryz.underlying80 (fun _ => by kernel_rfl) (gX hC.ow) (by rw [dO, hix]; rfl) ?_
  refine gQ 1 [(5, .iface 89 (vP (L.b tk)))] [] ?_
  refine NQ (NX (af.seq (SR ?_)))
  refine gK 2 [(17, .bool false)] [] ?_
  refine NN ?_
  refine CF ?_
  refine af.skip (NX (af.seq (SR ?_)))
  refine gK 1 [(18, .iface 89 (vP (L.b tk)))] [] ?_
  refine gL [] (jH (vP (L.b tk))) ?_
  rintro _ _ ⟨rfl, rfl⟩
  refine gK 1 [(20, .bool true)] [] ?_
  refine NN ?_
  refine CT ?_
  refine SR ?_
  refine gK 1 [(4, vI 173)] [] ?_
  refine NN (af.ret (aj.ar ?_))
  exact RT (vI 173) [0, 1, 2, 3, 4, 5, 6, 7] (⟨L, by rw [show (iG S c) = (173, S, c) by unfold iG; rw [hix]; exact if_neg (by simp)] <;> exact ⟨rfl, rfl⟩⟩)
 ·have hkt : (obj S.O tk).kind = 2 := hI.kind hlv
  refine af.bF (by kernel_rfl) (by kernel_rfl) ?_
  refine gQ 8 [(10, .map (some m)), (14, vI (c.other))] [(3, a_ 0 f), (7, a_ 6 cb)] ?_
  refine aR.dN 1 (d := (some 15)) (t := 80) (K := 3) (E := 84) (b := m) (n := S.idx.length) (f := (aP (aK L S.idx))) (x := (.tmp 10)) (ix := (.tmp 14)) (key := vI (c.other)) (z := .nilIface) (kl := (.int .i64 c.other)) (r := (some (cG L ⟨tk, 2⟩))) (fun _ => by kernel_rfl) (by kernel_rfl) (fun _ => by kernel_rfl) (fun _ => by kernel_rfl) dz Tryz.underlying80 (fun _ => by kernel_rfl) (gX hC.ow) (by rw [dO, hix]; rfl) ?_
  refine gQ 1 [(5, .iface 96 (vP (L.b tk)))] [] ?_
  refine NQ (NX (af.seq (SR ?_)))
  refine gK 2 [(17, .bool false)] [] ?_
  refine NN ?_
  refine CF ?_
  refine af.skip (NX (af.seq (SR ?_)))
  refine gK 1 [(18, .iface 96 (vP (L.b tk)))] [] ?_
  refine gL [] (jI (vP (L.b tk))) ?_
  rintro _ _ ⟨rfl, rfl⟩
  refine gK 1 [(20, .bool false)] [] ?_
  refine NN ?_
  refine CF ?_
  refine af.skip (NX (SR ?_))
  refine gK 1 [] [] ?_
  refine NS ?_
  refine gK 3 [(22, vP cb), (23, vP f), (24, .iface 96 (vP (L.b tk)))] [] ?_
  refine gL [0, 2, 3] (pU S L f m t ⟨tk, 2⟩ hkt (by simp) (by have := hI.Af hlv; simp only at this ⊢; omega)) ?_
  rintro _ _ ⟨rfl, rfl⟩
  refine gC 7 [(6, vI ((openM S ⟨tk, 2⟩).2.1))] [(5, a_ 6 cb)] [(6, [(12, vI ((openM S ⟨tk, 2⟩).1))])] ?_
  refine NS ?_
  refine ai.mem (aL := [.blk f [vI (S.X.cN), vI (S.X.cB), vI (S.X.cH), vI (S.X.cS), vI (S.X.cZ), .map (some m), vP t, vI (S.X.last), vI (S.X.ah), vI (S.X.used)] 86, .abs (aZ 156 t S.X.cH ((openM S ⟨tk, 2⟩).2.2.ay) (aK L ((openM S ⟨tk, 2⟩).2.2.us))), .abs (ak (aQ ((openM S ⟨tk, 2⟩).2.2.O) L)), .abs (aH Tryz.prog 3 m (aP (aK L S.idx)) S.idx.length), .abs (ak (aW ((openM S ⟨tk, 2⟩).2.2.O) L)), .abs (ak (bh ((openM S ⟨tk, 2⟩).2.2.O) L)), .blk cb [vI (c.op), vI (c.handle), vI (c.other), .string c.name, .string c.text, .slice c.dA (c.data.length) (c.dC), vI (c.mode), vI (c.uid), vI (c.gid), vI (c.sec), vI (c.nano), vI (c.code), vI ((openM S ⟨tk, 2⟩).1)] 43, .abs R]) (fun w hS => by rw [wu, wv]; exact hS) ?_
  refine gK 2 [(4, vI ((openM S ⟨tk, 2⟩).2.1))] [] ?_
  refine NN (af.ret ?_)
  exact RT (vI ((openM S ⟨tk, 2⟩).2.1)) [0, 3, 1, 2, 4, 5, 6, 7] (⟨L, by rw [show (iG S c) = ((openM S ⟨tk, 2⟩).2.1, (openM S ⟨tk, 2⟩).2.2, { c with answer := (openM S ⟨tk, 2⟩).1 }) by unfold iG; rw [hix]; exact if_pos rfl] <;> exact ⟨rfl, rfl⟩⟩)
 have hkt : (obj S.O tk).kind = 3 := hI.kind hlv
 refine af.bF (by kernel_rfl) (by kernel_rfl) ?_
 refine gQ 8 [(10, .map (some m)), (14, vI (c.other))] [(3, a_ 0 f), (7, a_ 6 cb)] ?_
 refine aR.dN 1 (d := (some 15)) (t := 80) (K := 3) (E := 84) (b := m) (n := S.idx.length) (f := (aP (aK L S.idx))) (x := (.tmp 10)) (ix := (.tmp 14)) (key := vI (c.other)) (z := .nilIface) (kl := (.int .i64 c.other)) (r := (some (cG L ⟨tk, 3⟩))) (fun _ => by kernel_rfl) (by kernel_rfl) (fun _ => by kernel_rfl) (fun _ => by kernel_rfl) dz Tryz.underlying80 (fun _ => by kernel_rfl) (gX hC.ow) (by rw [dO, hix]; rfl) ?_
 refine gQ 1 [(5, .iface 93 (vP (L.b tk)))] [] ?_
 refine NQ (NX (af.seq (SR ?_)))
 refine gK 2 [(17, .bool false)] [] ?_
 refine NN ?_
 refine CF ?_
 refine af.skip (NX (af.seq (SR ?_)))
 refine gK 1 [(18, .iface 93 (vP (L.b tk)))] [] ?_
 refine gL [] (kr (vP (L.b tk))) ?_
 rintro _ _ ⟨rfl, rfl⟩
 refine gK 1 [(20, .bool true)] [] ?_
 refine NN ?_
 refine CT ?_
 refine SR ?_
 refine gK 1 [(4, vI 173)] [] ?_
 refine NN (af.ret (aj.ar ?_))
 exact RT (vI 173) [0, 1, 2, 3, 4, 5, 6, 7] (⟨L, by rw [show (iG S c) = (173, S, c) by unfold iG; rw [hix]; exact if_neg (by simp)] <;> exact ⟨rfl, rfl⟩⟩)
theorem AJ {β : Bs} (S : aI) (L : HL) (f m t : Nat) (hI : Inv S) (cb : Nat) (c : aV) (hC : fJ β c) :
    Spec Tryz.prog β 79 #[vP f, vP cb] ((pA f m t L S) ++ [pC cb c]) (fun v l => ∃ L2, v = vI (dY S c).1 ∧ l = ((pA f m t L2 ((dY S c).2.1)) ++ [.blk cb (gh ((dY S c).2.2)) 43])) := by
 have hX := hI.hX
 refine Spec.enter Tryz.func79 rfl Tryz.ntmps79 (Nat.le_of_ble_eq_true rfl) (fun R => ?_)
 refine SR ?_
 refine gK 1 [] [] ?_
 refine NS ?_
 refine gK 2 [(8, vP f), (9, vP cb)] [] ?_
 rcases xI hI.toInv0 c with ⟨e, hnm, hne⟩ | ⟨tk, hnm, hlv⟩ | ⟨tk, hnm, hlv⟩ | ⟨tk, hnm, hlv⟩
 ·refine gL (f := 133) (args := #[vP f, vP cb]) (pre := ((pA f m t L S) ++ [pC cb c])) [0, 1, 2, 3, 4, 5, 6] ((by have h := fW S L f m t hI cb c hC (β := β); rw [hnm] at h; exact h)) ?_
  rintro _ _ ⟨rfl, rfl⟩
  refine gK 5 [(5, .nilIface), (6, vI (e))] [] ?_
  refine NN (af.seq (SR ?_))
  refine gK 2 [(14, .bool (!(decide ((e : Int) = (0 : Int)))))] [] ?_
  refine NN ?_
  refine af.cr (p := (e : Int) = (0 : Int)) (fun _ => by kernel_rfl) (fun gi => ?_) (fun gi => ?_)
  ·refine SR ?_
   refine gK 2 [(4, vI (e))] [] ?_
   refine NN (af.ret (aj.ar ?_))
   exact RT (vI (e)) [0, 1, 2, 3, 4, 5, 6, 7] (⟨L, by rw [show (dY S c) = (e, S, c) by unfold dY; rw [hnm]] <;> exact ⟨rfl, rfl⟩⟩)
  exact absurd gi hne
 ·have hkt : (obj S.O tk).kind = 1 := hI.kind hlv
  refine gL (f := 133) (args := #[vP f, vP cb]) (pre := ((pA f m t L S) ++ [pC cb c])) [0, 1, 2, 3, 4, 5, 6] ((by have h := fW S L f m t hI cb c hC (β := β); rw [hnm] at h; exact h)) ?_
  rintro _ _ ⟨rfl, rfl⟩
  refine gK 5 [(5, .iface 89 (vP (L.b tk))), (6, vI 0)] [] ?_
  refine NN (af.seq (SR ?_))
  refine gK 2 [(14, .bool false)] [] ?_
  refine NN ?_
  refine CF ?_
  refine af.skip (NX (af.seq (SR ?_)))
  refine gK 1 [(16, .iface 89 (vP (L.b tk)))] [] ?_
  refine NN (af.block (SR ?_))
  refine gK 3 [(18, .bool false)] [] ?_
  refine NN ?_
  refine CF ?_
  refine SR ?_
  refine gK 3 [(21, .bool true)] [] ?_
  refine NN ?_
  refine CT ?_
  refine SR ?_
  refine gK 1 [(4, vI 173)] [] ?_
  refine NN (af.ret (aj.aG (aj.ar ?_)))
  exact RT (vI 173) [0, 1, 2, 3, 4, 5, 6, 7] (⟨L, by rw [show (dY S c) = (173, S, c) by unfold dY; rw [hnm]; exact (if_neg (by simp)).trans (if_pos rfl)] <;> exact ⟨rfl, rfl⟩⟩)
 ·have hkt : (obj S.O tk).kind = 2 := hI.kind hlv
  refine gL (f := 133) (args := #[vP f, vP cb]) (pre := ((pA f m t L S) ++ [pC cb c])) [0, 1, 2, 3, 4, 5, 6] ((by have h := fW S L f m t hI cb c hC (β := β); rw [hnm] at h; exact h)) ?_
  rintro _ _ ⟨rfl, rfl⟩
  refine gK 5 [(5, .iface 96 (vP (L.b tk))), (6, vI 0)] [] ?_
  refine NN (af.seq (SR ?_))
  refine gK 2 [(14, .bool false)] [] ?_
  refine NN ?_
  refine CF ?_
  refine af.skip (NX (af.seq (SR ?_)))
  refine gK 1 [(16, .iface 96 (vP (L.b tk)))] [] ?_
  refine NN (af.block (SR ?_))
  refine gK 3 [(18, .bool false)] [] ?_
  refine NN ?_
  refine CF ?_
  refine SR ?_
  refine gK 3 [(21, .bool false)] [] ?_
  refine NN ?_
  refine CF ?_
  refine af.skip (aj.aT (NX (SR ?_)))
  refine gK 3 [(24, vP cb), (25, vP f), (26, .iface 96 (vP (L.b tk)))] [] ?_
  refine gL [0, 2, 3] (pU S L f m t ⟨tk, 2⟩ hkt (by simp) (by have := hI.Af hlv; simp only at this ⊢; omega)) ?_
  rintro _ _ ⟨rfl, rfl⟩
  refine gC 7 [(6, vI ((openM S ⟨tk, 2⟩).2.1))] [(5, a_ 6 cb)] [(6, [(12, vI ((openM S ⟨tk, 2⟩).1))])] ?_
  refine NS ?_
  refine ai.mem (aL := [.blk f [vI (S.X.cN), vI (S.X.cB), vI (S.X.cH), vI (S.X.cS), vI (S.X.cZ), .map (some m), vP t, vI (S.X.last), vI (S.X.ah), vI (S.X.used)] 86, .abs (aZ 156 t S.X.cH ((openM S ⟨tk, 2⟩).2.2.ay) (aK L ((openM S ⟨tk, 2⟩).2.2.us))), .abs (ak (aQ ((openM S ⟨tk, 2⟩).2.2.O) L)), .abs (aH Tryz.prog 3 m (aP (aK L S.idx)) S.idx.length), .abs (ak (aW ((openM S ⟨tk, 2⟩).2.2.O) L)), .abs (ak (bh ((openM S ⟨tk, 2⟩).2.2.O) L)), .blk cb [vI (c.op), vI (c.handle), vI (c.other), .string c.name, .string c.text, .slice c.dA (c.data.length) (c.dC), vI (c.mode), vI (c.uid), vI (c.gid), vI (c.sec), vI (c.nano), vI (c.code), vI ((openM S ⟨tk, 2⟩).1)] 43, .abs R]) (fun w hS => by rw [wu, wv]; exact hS) ?_
  refine gK 2 [(4, vI ((openM S ⟨tk, 2⟩).2.1))] [] ?_
  refine NN (af.ret ?_)
  exact RT (vI ((openM S ⟨tk, 2⟩).2.1)) [0, 3, 1, 2, 4, 5, 6, 7] (⟨L, by rw [show (dY S c) = ((openM S ⟨tk, 2⟩).2.1, (openM S ⟨tk, 2⟩).2.2, { c with answer := (openM S ⟨tk, 2⟩).1 }) by unfold dY; rw [hnm]; exact (if_neg (by simp)).trans (if_neg (by simp))] <;> exact ⟨rfl, rfl⟩⟩)
 have hkt : (obj S.O tk).kind = 3 := hI.kind hlv
 refine gL (f := 133) (args := #[vP f, vP cb]) (pre := ((pA f m t L S) ++ [pC cb c])) [0, 1, 2, 3, 4, 5, 6] ((by have h := fW S L f m t hI cb c hC (β := β); rw [hnm] at h; exact h)) ?_
 rintro _ _ ⟨rfl, rfl⟩
 refine gK 5 [(5, .iface 93 (vP (L.b tk))), (6, vI 0)] [] ?_
 refine NN (af.seq (SR ?_))
 refine gK 2 [(14, .bool false)] [] ?_
 refine NN ?_
 refine CF ?_
 refine af.skip (NX (af.seq (SR ?_)))
 refine gK 1 [(16, .iface 93 (vP (L.b tk)))] [] ?_
 refine NN (af.block (SR ?_))
 refine gK 3 [(18, .bool true)] [] ?_
 refine NN ?_
 refine CT ?_
 refine SR ?_
 refine gK 1 [(4, vI 174)] [] ?_
 refine NN (af.ret (aj.aG (aj.ar ?_)))
 exact RT (vI 174) [0, 1, 2, 3, 4, 5, 6, 7] (⟨L, by rw [show (dY S c) = (174, S, c) by unfold dY; rw [hnm]; exact if_pos rfl] <;> exact ⟨rfl, rfl⟩⟩)
theorem zo {β : Bs} (S : aI) (L : HL) (f m t : Nat) (hI : Inv S) (cb : Nat) (c : aV) (hC : fJ β c) :
    Spec Tryz.prog β 80 #[vP f, vP cb] ((pA f m t L S) ++ [pC cb c]) (fun v l => ∃ L2, v = vI (dM S c).1 ∧ l = ((pA f m t L2 ((dM S c).2.1)) ++ [.blk cb (gh ((dM S c).2.2)) 43])) := by
 have hX := hI.hX
 refine Spec.enter Tryz.func80 rfl Tryz.ntmps80 (Nat.le_of_ble_eq_true rfl) (fun R => ?_)
 refine SR ?_
 refine gK 1 [] [] ?_
 refine NS ?_
 refine gK 2 [(8, vP f), (9, vP cb)] [] ?_
 rcases xI hI.toInv0 c with ⟨e, hnm, hne⟩ | ⟨tk, hnm, hlv⟩ | ⟨tk, hnm, hlv⟩ | ⟨tk, hnm, hlv⟩
 ·refine gL (f := 133) (args := #[vP f, vP cb]) (pre := ((pA f m t L S) ++ [pC cb c])) [0, 1, 2, 3, 4, 5, 6] ((by have h := fW S L f m t hI cb c hC (β := β); rw [hnm] at h; exact h)) ?_
  rintro _ _ ⟨rfl, rfl⟩
  refine gK 5 [(5, .nilIface), (6, vI (e))] [] ?_
  refine NN (af.seq (SR ?_))
  refine gK 2 [(14, .bool (!(decide ((e : Int) = (0 : Int)))))] [] ?_
  refine NN ?_
  refine af.cr (p := (e : Int) = (0 : Int)) (fun _ => by kernel_rfl) (fun gi => ?_) (fun gi => ?_)
  ·refine SR ?_
   refine gK 2 [(4, vI (e))] [] ?_
   refine NN (af.ret (aj.ar ?_))
   exact RT (vI (e)) [0, 1, 2, 3, 4, 5, 6, 7] (⟨L, by rw [show (dM S c) = (e, S, c) by unfold dM; rw [hnm]] <;> exact ⟨rfl, rfl⟩⟩)
  exact absurd gi hne
 ·have hkt : (obj S.O tk).kind = 1 := hI.kind hlv
  refine gL (f := 133) (args := #[vP f, vP cb]) (pre := ((pA f m t L S) ++ [pC cb c])) [0, 1, 2, 3, 4, 5, 6] ((by have h := fW S L f m t hI cb c hC (β := β); rw [hnm] at h; exact h)) ?_
  rintro _ _ ⟨rfl, rfl⟩
  refine gK 5 [(5, .iface 89 (vP (L.b tk))), (6, vI 0)] [] ?_
  refine NN (af.seq (SR ?_))
  refine gK 2 [(14, .bool false)] [] ?_
  refine NN ?_
  refine CF ?_
  refine af.skip (NX (af.seq (SR ?_)))
  refine gK 1 [(16, .iface 89 (vP (L.b tk)))] [] ?_
  refine NN (af.block (SR ?_))
  refine gK 3 [(18, .bool false)] [] ?_
  refine NN ?_
  refine CF ?_
  refine SR ?_
  refine gK 3 [(21, .bool false)] [] ?_
  refine NN ?_
  refine CF ?_
  refine af.skip (aj.aT (NX (SR ?_)))
  refine gK 3 [(24, vP cb), (25, vP f), (26, .iface 89 (vP (L.b tk)))] [] ?_
  refine gL [0, 2, 3] (pU S L f m t ⟨tk, 1⟩ hkt (by simp) (by have := hI.Af hlv; simp only at this ⊢; omega)) ?_
  rintro _ _ ⟨rfl, rfl⟩
  refine gC 7 [(6, vI ((openM S ⟨tk, 1⟩).2.1))] [(5, a_ 6 cb)] [(6, [(12, vI ((openM S ⟨tk, 1⟩).1))])] ?_
  refine NS ?_
  refine ai.mem (aL := [.blk f [vI (S.X.cN), vI (S.X.cB), vI (S.X.cH), vI (S.X.cS), vI (S.X.cZ), .map (some m), vP t, vI (S.X.last), vI (S.X.ah), vI (S.X.used)] 86, .abs (aZ 156 t S.X.cH ((openM S ⟨tk, 1⟩).2.2.ay) (aK L ((openM S ⟨tk, 1⟩).2.2.us))), .abs (ak (aQ ((openM S ⟨tk, 1⟩).2.2.O) L)), .abs (aH Tryz.prog 3 m (aP (aK L S.idx)) S.idx.length), .abs (ak (aW ((openM S ⟨tk, 1⟩).2.2.O) L)), .abs (ak (bh ((openM S ⟨tk, 1⟩).2.2.O) L)), .blk cb [vI (c.op), vI (c.handle), vI (c.other), .string c.name, .string c.text, .slice c.dA (c.data.length) (c.dC), vI (c.mode), vI (c.uid), vI (c.gid), vI (c.sec), vI (c.nano), vI (c.code), vI ((openM S ⟨tk, 1⟩).1)] 43, .abs R]) (fun w hS => by rw [wu, wv]; exact hS) ?_
  refine gK 2 [(4, vI ((openM S ⟨tk, 1⟩).2.1))] [] ?_
  refine NN (af.ret ?_)
  exact RT (vI ((openM S ⟨tk, 1⟩).2.1)) [0, 3, 1, 2, 4, 5, 6, 7] (⟨L, by rw [show (dM S c) = ((openM S ⟨tk, 1⟩).2.1, (openM S ⟨tk, 1⟩).2.2, { c with answer := (openM S ⟨tk, 1⟩).1 }) by unfold dM; rw [hnm]; exact (if_neg (by simp)).trans (if_neg (by simp))] <;> exact ⟨rfl, rfl⟩⟩)
 ·have hkt : (obj S.O tk).kind = 2 := hI.kind hlv
  refine gL (f := 133) (args := #[vP f, vP cb]) (pre := ((pA f m t L S) ++ [pC cb c])) [0, 1, 2, 3, 4, 5, 6] ((by have h := fW S L f m t hI cb c hC (β := β); rw [hnm] at h; exact h)) ?_
  rintro _ _ ⟨rfl, rfl⟩
  refine gK 5 [(5, .iface 96 (vP (L.b tk))), (6, vI 0)] [] ?_
  refine NN (af.seq (SR ?_))
  refine gK 2 [(14, .bool false)] [] ?_
  refine NN ?_
  refine CF ?_
  refine af.skip (NX (af.seq (SR ?_)))
  refine gK 1 [(16, .iface 96 (vP (L.b tk)))] [] ?_
  refine NN (af.block (SR ?_))
  refine gK 3 [(18, .bool false)] [] ?_
  refine NN ?_
  refine CF ?_
  refine SR ?_
  refine gK 3 [(21, .bool true)] [] ?_
  refine NN ?_
  refine CT ?_
  refine SR ?_
  refine gK 1 [(4, vI 172)] [] ?_
  refine NN (af.ret (aj.aG (aj.ar ?_)))
  exact RT (vI 172) [0, 1, 2, 3, 4, 5, 6, 7] (⟨L, by rw [show (dM S c) = (172, S, c) by unfold dM; rw [hnm]; exact (if_neg (by simp)).trans (if_pos rfl)] <;> exact ⟨rfl, rfl⟩⟩)
 have hkt : (obj S.O tk).kind = 3 := hI.kind hlv
 refine gL (f := 133) (args := #[vP f, vP cb]) (pre := ((pA f m t L S) ++ [pC cb c])) [0, 1, 2, 3, 4, 5, 6] ((by have h := fW S L f m t hI cb c hC (β := β); rw [hnm] at h; exact h)) ?_
 rintro _ _ ⟨rfl, rfl⟩
 refine gK 5 [(5, .iface 93 (vP (L.b tk))), (6, vI 0)] [] ?_
 refine NN (af.seq (SR ?_))
 refine gK 2 [(14, .bool false)] [] ?_
 refine NN ?_
 refine CF ?_
 refine af.skip (NX (af.seq (SR ?_)))
 refine gK 1 [(16, .iface 93 (vP (L.b tk)))] [] ?_
 refine NN (af.block (SR ?_))
 refine gK 3 [(18, .bool true)] [] ?_
 refine NN ?_
 refine CT ?_
 refine SR ?_
 refine gK 1 [(4, vI 174)] [] ?_
 refine NN (af.ret (aj.aG (aj.ar ?_)))
 exact RT (vI 174) [0, 1, 2, 3, 4, 5, 6, 7] (⟨L, by rw [show (dM S c) = (174, S, c) by unfold dM; rw [hnm]; exact if_pos rfl] <;> exact ⟨rfl, rfl⟩⟩)
theorem Dl {β : Bs} (S : aI) (L : HL) (f m t : Nat) (hI : Inv S) (cb : Nat) (c : aV) (hC : fJ β c) :
    Spec Tryz.prog β 81 #[vP f, vP cb] ((pA f m t L S) ++ [pC cb c]) (fun v l => ∃ L2, v = vI (eZ S c).1 ∧ l = ((pA f m t L2 ((eZ S c).2.1)) ++ [.blk cb (gh ((eZ S c).2.2)) 43])) := by
 have hX := hI.hX
 refine Spec.enter Tryz.func81 rfl Tryz.ntmps81 (Nat.le_of_ble_eq_true rfl) (fun R => ?_)
 refine SR ?_
 refine gK 1 [] [] ?_
 refine NN (af.seq ?_)
 refine af.bF (by kernel_rfl) (by kernel_rfl) ?_
 refine gQ 9 (JR f c) [(4, a_ 6 cb), (8, a_ 6 cb)] ?_
 rcases jM hI.toInv0 c.handle c.name 192 with ⟨e, hab, hne⟩ | ⟨d, hab, hd, gA, hgn, cF⟩
 ·refine aR.call (f := 134) (args := #[vP f, vI (c.handle), .string c.name, vI 192]) (d := (some 17)) (pre := (mP f m t S L)) (R := (l6 m L S cb c R)) (pk := [0, 2, 3, 1, 4, 5, 6, 7]) (gM := [0, 3, 1, 2, 4, 5, 6, 7]) (v0 := .tuple #[.pointer none, vI (e)]) (fun _ => by kernel_rfl) ((by have h := cY S L f m t hI c.handle hC.hw c.name hC.nm 192 (β := β); rw [hab] at h; exact h)) rfl (by kernel_rfl) rfl (by kernel_rfl) (fun _ _ h => h) ?_
  refine gQ 5 (Gz e) [] ?_
  refine NQ (NX (af.seq (SR ?_)))
  refine gK 2 [(21, .bool (!(decide ((e : Int) = (0 : Int)))))] [] ?_
  refine NN ?_
  refine af.cr (p := (e : Int) = (0 : Int)) (fun _ => by kernel_rfl) (fun rK => ?_) (fun rK => ?_)
  ·refine SR ?_
   refine gK 2 [(4, vI (e))] [] ?_
   refine NN (af.ret (aj.ar ?_))
   exact RT (vI (e)) [0, 1, 2, 3, 4, 5, 6, 7] (⟨L, by rw [show (eZ S c) = (e, S, c) by unfold eZ; rw [hab]] <;> exact ⟨rfl, rfl⟩⟩)
  exact absurd rK hne
 have hkd : (obj S.O d).kind = 2 := hI.kind hd
 refine aR.call (f := 134) (args := #[vP f, vI (c.handle), .string c.name, vI 192]) (d := (some 17)) (pre := (mP f m t S L)) (R := (l6 m L S cb c R)) (pk := [0, 2, 3, 1, 4, 5, 6, 7]) (gM := [0, 3, 1, 2, 4, 5, 6, 7]) (v0 := .tuple #[vP (L.b d), vI 0]) (fun _ => by kernel_rfl) ((by have h := cY S L f m t hI c.handle hC.hw c.name hC.nm 192 (β := β); rw [hab] at h; exact h)) rfl (by kernel_rfl) rfl (by kernel_rfl) (fun _ _ h => h) ?_
 refine gQ 5 (Cw L d) [] ?_
 refine NQ (NX (af.seq (SR ?_)))
 refine gK 2 [(21, .bool false)] [] ?_
 refine NN ?_
 refine CF ?_
 refine af.skip (NX (af.seq (SR ?_)))
 refine gK 4 [(26, vI (c.mode))] [(3, a_ 6 cb)] ?_
 refine gL [] (d9 (c.mode) 4095) ?_
 rintro _ _ ⟨rfl, rfl⟩
 refine gK 1 [(28, .bool (!(decide (0 ≤ c.mode ∧ c.mode ≤ 4095))))] [] ?_
 refine NN ?_
 refine af.cr (p := 0 ≤ c.mode ∧ c.mode ≤ 4095) (fun _ => by kernel_rfl) (fun LX => ?_) (fun LX => ?_)
 ·refine SR ?_
  refine gK 1 [(4, vI 120)] [] ?_
  refine NN (af.ret (aj.ar ?_))
  exact RT (vI 120) [0, 1, 2, 3, 4, 5, 6, 7] (⟨L, by rw [show (eZ S c) = (120, S, c) by unfold eZ; rw [hab]; exact if_neg LX] <;> exact ⟨rfl, rfl⟩⟩)
 refine af.skip (NX (af.seq ?_))
 refine af.bZ (S := [pC cb c]) [0, 1, 2, 3, 4, 5, 6, 7, 8, 9, 10, 11] 10 [6] (by kernel_rfl) (by kernel_rfl) rfl (by kernel_rfl) ?_
 refine aJ.reads (r := 0) (l := [10, 11]) (fr' := [(29, vP f), (30, vP (L.b d)), (34, .string c.name), (38, vI (c.mode))]) (aq := [cb = cb, cb = cb]) [0, 1, 2, 3, 4, 5, 6, 7, 8, 9] [o_, o_, o_, o_, o_, ⟨[.at 0], none, none, none, none⟩, o_, o_, o_, ⟨[.at 0], none, none, none, none⟩] [29, 30, 34, 38] (fun _ => by kernel_rfl) ⟨rfl, rfl, trivial⟩ rfl rfl ?_
 refine mL [6] [0, 1, 2, 3, 4, 5] (Ai S L f m t hI d hd c.name hC.nm c.mode) ?_ (by rintro _ _ ⟨L2, rfl, rfl⟩; rfl)
 rintro _ _ ⟨L2, rfl, rfl⟩
 refine aJ.last rfl rfl ?_
 refine gK 1 [(4, vI ((mkdirM S d c.name c.mode).1))] [] ?_
 refine NL (aj.np (NX (af.ret ?_)))
 exact RT (vI ((mkdirM S d c.name c.mode).1)) [0, 1, 2, 3, 4, 5, 6, 7] (⟨L2, by rw [show (eZ S c) = ((mkdirM S d c.name c.mode).1, (mkdirM S d c.name c.mode).2, c) by unfold eZ; rw [hab]; exact if_pos LX] <;> exact ⟨rfl, rfl⟩⟩)
theorem AK {β : Bs} (S : aI) (L : HL) (f m t : Nat) (hI : Inv S) (cb : Nat) (c : aV) (hC : fJ β c) :
    Spec Tryz.prog β 83 #[vP f, vP cb] ((pA f m t L S) ++ [pC cb c]) (fun v l => ∃ L2, v = vI (eM S c).1 ∧ l = ((pA f m t L2 ((eM S c).2.1)) ++ [.blk cb (gh ((eM S c).2.2)) 43])) := by
 have hX := hI.hX
 refine Spec.enter Tryz.func83 rfl Tryz.ntmps83 (Nat.le_of_ble_eq_true rfl) (fun R => ?_)
 refine SR ?_
 refine gK 1 [] [] ?_
 refine NN (af.seq ?_)
 refine af.bF (by kernel_rfl) (by kernel_rfl) ?_
 refine gQ 9 (JR f c) [(4, a_ 6 cb), (8, a_ 6 cb)] ?_
 rcases jM hI.toInv0 c.handle c.name 192 with ⟨e, hab, hne⟩ | ⟨d, hab, hd, gA, hgn, cF⟩
 ·refine aR.call (f := 134) (args := #[vP f, vI (c.handle), .string c.name, vI 192]) (d := (some 17)) (pre := (mP f m t S L)) (R := (l6 m L S cb c R)) (pk := [0, 2, 3, 1, 4, 5, 6, 7]) (gM := [0, 3, 1, 2, 4, 5, 6, 7]) (v0 := .tuple #[.pointer none, vI (e)]) (fun _ => by kernel_rfl) ((by have h := cY S L f m t hI c.handle hC.hw c.name hC.nm 192 (β := β); rw [hab] at h; exact h)) rfl (by kernel_rfl) rfl (by kernel_rfl) (fun _ _ h => h) ?_
  refine gQ 5 (Gz e) [] ?_
  refine NQ (NX (af.seq (SR ?_)))
  refine gK 2 [(21, .bool (!(decide ((e : Int) = (0 : Int)))))] [] ?_
  refine NN ?_
  refine af.cr (p := (e : Int) = (0 : Int)) (fun _ => by kernel_rfl) (fun rK => ?_) (fun rK => ?_)
  ·refine SR ?_
   refine gK 2 [(4, vI (e))] [] ?_
   refine NN (af.ret (aj.ar ?_))
   exact RT (vI (e)) [0, 1, 2, 3, 4, 5, 6, 7] (⟨L, by rw [show (eM S c) = (e, S, c) by unfold eM; rw [hab]] <;> exact ⟨rfl, rfl⟩⟩)
  exact absurd rK hne
 have hkd : (obj S.O d).kind = 2 := hI.kind hd
 refine aR.call (f := 134) (args := #[vP f, vI (c.handle), .string c.name, vI 192]) (d := (some 17)) (pre := (mP f m t S L)) (R := (l6 m L S cb c R)) (pk := [0, 2, 3, 1, 4, 5, 6, 7]) (gM := [0, 3, 1, 2, 4, 5, 6, 7]) (v0 := .tuple #[vP (L.b d), vI 0]) (fun _ => by kernel_rfl) ((by have h := cY S L f m t hI c.handle hC.hw c.name hC.nm 192 (β := β); rw [hab] at h; exact h)) rfl (by kernel_rfl) rfl (by kernel_rfl) (fun _ _ h => h) ?_
 refine gQ 5 (Cw L d) [] ?_
 refine NQ (NX (af.seq (SR ?_)))
 refine gK 2 [(21, .bool false)] [] ?_
 refine NN ?_
 refine CF ?_
 refine af.skip (NX (af.seq ?_))
 refine af.bZ (S := [pC cb c]) [0, 1, 2, 3, 4, 5, 6, 7, 8, 9, 10, 11] 10 [6] (by kernel_rfl) (by kernel_rfl) rfl (by kernel_rfl) ?_
 refine aJ.reads (r := 0) (l := [10, 11]) (fr' := [(23, vP f), (24, vP (L.b d)), (28, .string c.name), (32, .string c.text)]) (aq := [cb = cb, cb = cb]) [0, 1, 2, 3, 4, 5, 6, 7, 8, 9] [o_, o_, o_, o_, o_, ⟨[.at 0], none, none, none, none⟩, o_, o_, o_, ⟨[.at 0], none, none, none, none⟩] [23, 24, 28, 32] (fun _ => by kernel_rfl) ⟨rfl, rfl, trivial⟩ rfl rfl ?_
 refine mL [6] [0, 1, 2, 3, 4, 5] (vF S L f m t hI d hd c.name hC.nm c.text hC.tx) ?_ (by rintro _ _ ⟨L2, rfl, rfl⟩; rfl)
 rintro _ _ ⟨L2, rfl, rfl⟩
 refine aJ.last rfl rfl ?_
 refine gK 1 [(4, vI ((symlinkM S d c.name c.text).1))] [] ?_
 refine NL (aj.np (NX (af.ret ?_)))
 exact RT (vI ((symlinkM S d c.name c.text).1)) [0, 1, 2, 3, 4, 5, 6, 7] (⟨L2, by rw [show (eM S c) = ((symlinkM S d c.name c.text).1, (symlinkM S d c.name c.text).2, c) by unfold eM; rw [hab]] <;> exact ⟨rfl, rfl⟩⟩)
theorem Cx {β : Bs} (S : aI) (L : HL) (f m t : Nat) (hI : Inv S) (cb : Nat) (c : aV) (hC : fJ β c) :
    Spec Tryz.prog β 85 #[vP f, vP cb] ((pA f m t L S) ++ [pC cb c]) (fun v l => ∃ L2, v = vI (fF S c).1 ∧ l = ((pA f m t L2 ((fF S c).2.1)) ++ [.blk cb (gh ((fF S c).2.2)) 43])) := by
 have hX := hI.hX
 refine Spec.enter Tryz.func85 rfl Tryz.ntmps85 (Nat.le_of_ble_eq_true rfl) (fun R => ?_)
 refine SR ?_
 refine gK 1 [] [] ?_
 refine NN (af.seq ?_)
 refine af.bF (by kernel_rfl) (by kernel_rfl) ?_
 refine gQ 9 (JR f c) [(4, a_ 6 cb), (8, a_ 6 cb)] ?_
 rcases jM hI.toInv0 c.handle c.name 192 with ⟨e, hab, hne⟩ | ⟨d, hab, hd, gA, hgn, cF⟩
 ·refine aR.call (f := 134) (args := #[vP f, vI (c.handle), .string c.name, vI 192]) (d := (some 17)) (pre := (mP f m t S L)) (R := (l6 m L S cb c R)) (pk := [0, 2, 3, 1, 4, 5, 6, 7]) (gM := [0, 3, 1, 2, 4, 5, 6, 7]) (v0 := .tuple #[.pointer none, vI (e)]) (fun _ => by kernel_rfl) ((by have h := cY S L f m t hI c.handle hC.hw c.name hC.nm 192 (β := β); rw [hab] at h; exact h)) rfl (by kernel_rfl) rfl (by kernel_rfl) (fun _ _ h => h) ?_
  refine gQ 5 (Gz e) [] ?_
  refine NQ (NX (af.seq (SR ?_)))
  refine gK 2 [(21, .bool (!(decide ((e : Int) = (0 : Int)))))] [] ?_
  refine NN ?_
  refine af.cr (p := (e : Int) = (0 : Int)) (fun _ => by kernel_rfl) (fun rK => ?_) (fun rK => ?_)
  ·refine SR ?_
   refine gK 2 [(4, vI (e))] [] ?_
   refine NN (af.ret (aj.ar ?_))
   exact RT (vI (e)) [0, 1, 2, 3, 4, 5, 6, 7] (⟨L, by rw [show (fF S c) = (e, S, c) by unfold fF; rw [hab]] <;> exact ⟨rfl, rfl⟩⟩)
  exact absurd rK hne
 have hkd : (obj S.O d).kind = 2 := hI.kind hd
 refine aR.call (f := 134) (args := #[vP f, vI (c.handle), .string c.name, vI 192]) (d := (some 17)) (pre := (mP f m t S L)) (R := (l6 m L S cb c R)) (pk := [0, 2, 3, 1, 4, 5, 6, 7]) (gM := [0, 3, 1, 2, 4, 5, 6, 7]) (v0 := .tuple #[vP (L.b d), vI 0]) (fun _ => by kernel_rfl) ((by have h := cY S L f m t hI c.handle hC.hw c.name hC.nm 192 (β := β); rw [hab] at h; exact h)) rfl (by kernel_rfl) rfl (by kernel_rfl) (fun _ _ h => h) ?_
 refine gQ 5 (Cw L d) [] ?_
 refine NQ (NX (af.seq (SR ?_)))
 refine gK 2 [(21, .bool false)] [] ?_
 refine NN ?_
 refine CF ?_
 refine af.skip (NX (SR ?_))
 refine gK 6 [(23, vP f), (24, vP (L.b d)), (28, .string c.name)] [(5, a_ 6 cb)] ?_
 refine gL [0, 1, 2, 3, 4, 5] (x7 S L f m t hI d hd c.name hC.nm) ?_
 rintro _ _ ⟨L2, rfl, rfl⟩
 refine gK 1 [(4, vI ((unlinkM S d c.name).1))] [] ?_
 refine NN (af.ret ?_)
 exact RT (vI ((unlinkM S d c.name).1)) [0, 1, 2, 3, 4, 5, 6, 7] (⟨L2, by rw [show (fF S c) = ((unlinkM S d c.name).1, (unlinkM S d c.name).2, c) by unfold fF; rw [hab]] <;> exact ⟨rfl, rfl⟩⟩)
theorem Dm {β : Bs} (S : aI) (L : HL) (f m t : Nat) (hI : Inv S) (cb : Nat) (c : aV) (hC : fJ β c) :
    Spec Tryz.prog β 91 #[vP f, vP cb] ((pA f m t L S) ++ [pC cb c]) (fun v l => ∃ L2, v = vI (gu S c).1 ∧ l = ((pA f m t L2 ((gu S c).2.1)) ++ [.blk cb (gh ((gu S c).2.2)) 43])) := by
 have hX := hI.hX
 refine Spec.enter Tryz.func91 rfl Tryz.ntmps91 (Nat.le_of_ble_eq_true rfl) (fun R => ?_)
 refine SR ?_
 refine gK 1 [] [] ?_
 refine NN (af.seq ?_)
 refine af.bF (by kernel_rfl) (by kernel_rfl) ?_
 refine gQ 9 (JR f c) [(4, a_ 6 cb), (8, a_ 6 cb)] ?_
 rcases jM hI.toInv0 c.handle c.name 192 with ⟨e, hab, hne⟩ | ⟨d, hab, hd, gA, hgn, cF⟩
 ·refine aR.call (f := 134) (args := #[vP f, vI (c.handle), .string c.name, vI 192]) (d := (some 17)) (pre := (mP f m t S L)) (R := (l6 m L S cb c R)) (pk := [0, 2, 3, 1, 4, 5, 6, 7]) (gM := [0, 3, 1, 2, 4, 5, 6, 7]) (v0 := .tuple #[.pointer none, vI (e)]) (fun _ => by kernel_rfl) ((by have h := cY S L f m t hI c.handle hC.hw c.name hC.nm 192 (β := β); rw [hab] at h; exact h)) rfl (by kernel_rfl) rfl (by kernel_rfl) (fun _ _ h => h) ?_
  refine gQ 5 (Gz e) [] ?_
  refine NQ (NX (af.seq (SR ?_)))
  refine gK 2 [(21, .bool (!(decide ((e : Int) = (0 : Int)))))] [] ?_
  refine NN ?_
  refine af.cr (p := (e : Int) = (0 : Int)) (fun _ => by kernel_rfl) (fun rK => ?_) (fun rK => ?_)
  ·refine SR ?_
   refine gK 2 [(4, vI (e))] [] ?_
   refine NN (af.ret (aj.ar ?_))
   exact RT (vI (e)) [0, 1, 2, 3, 4, 5, 6, 7] (⟨L, by rw [show (gu S c) = (e, S, c) by unfold gu; rw [hab]] <;> exact ⟨rfl, rfl⟩⟩)
  exact absurd rK hne
 have hkd : (obj S.O d).kind = 2 := hI.kind hd
 refine aR.call (f := 134) (args := #[vP f, vI (c.handle), .string c.name, vI 192]) (d := (some 17)) (pre := (mP f m t S L)) (R := (l6 m L S cb c R)) (pk := [0, 2, 3, 1, 4, 5, 6, 7]) (gM := [0, 3, 1, 2, 4, 5, 6, 7]) (v0 := .tuple #[vP (L.b d), vI 0]) (fun _ => by kernel_rfl) ((by have h := cY S L f m t hI c.handle hC.hw c.name hC.nm 192 (β := β); rw [hab] at h; exact h)) rfl (by kernel_rfl) rfl (by kernel_rfl) (fun _ _ h => h) ?_
 refine gQ 5 (Cw L d) [] ?_
 refine NQ (NX (af.seq (SR ?_)))
 refine gK 2 [(21, .bool false)] [] ?_
 refine NN ?_
 refine CF ?_
 refine af.skip (NX (SR ?_))
 refine gK 6 [(23, vP f), (24, vP (L.b d)), (28, .string c.name)] [(5, a_ 6 cb)] ?_
 refine gL [0, 1, 2, 3, 4, 5] (Aj S L f m t hI d hd c.name hC.nm) ?_
 rintro _ _ ⟨L2, rfl, rfl⟩
 refine gK 1 [(4, vI ((rmdirM S d c.name).1))] [] ?_
 refine NN (af.ret ?_)
 exact RT (vI ((rmdirM S d c.name).1)) [0, 1, 2, 3, 4, 5, 6, 7] (⟨L2, by rw [show (gu S c) = ((rmdirM S d c.name).1, (rmdirM S d c.name).2, c) by unfold gu; rw [hab]] <;> exact ⟨rfl, rfl⟩⟩)
theorem Cy {β : Bs} (S : aI) (L : HL) (f m t : Nat) (hI : Inv S) (cb : Nat) (c : aV) (hC : fJ β c) :
    Spec Tryz.prog β 92 #[vP f, vP cb] ((pA f m t L S) ++ [pC cb c]) (fun v l => ∃ L2, v = vI (eF S c).1 ∧ l = ((pA f m t L2 ((eF S c).2.1)) ++ [.blk cb (gh ((eF S c).2.2)) 43])) := by
 have hX := hI.hX
 refine Spec.enter Tryz.func92 rfl Tryz.ntmps92 (Nat.le_of_ble_eq_true rfl) (fun R => ?_)
 refine SR ?_
 refine gK 1 [] [] ?_
 refine NN (af.seq ?_)
 refine af.bF (by kernel_rfl) (by kernel_rfl) ?_
 refine gQ 9 [(9, vP f), (13, vI (c.handle)), (17, .string c.name)] [(4, a_ 6 cb), (8, a_ 6 cb)] ?_
 rcases jM hI.toInv0 c.handle c.name 192 with ⟨e, hab, hne⟩ | ⟨d, hab, hd, gA, hgn, cF⟩
 ·refine aR.call (f := 134) (args := #[vP f, vI (c.handle), .string c.name, vI 192]) (d := (some 18)) (pre := (mP f m t S L)) (R := (l6 m L S cb c R)) (pk := [0, 2, 3, 1, 4, 5, 6, 7]) (gM := [0, 3, 1, 2, 4, 5, 6, 7]) (v0 := .tuple #[.pointer none, vI (e)]) (fun _ => by kernel_rfl) ((by have h := cY S L f m t hI c.handle hC.hw c.name hC.nm 192 (β := β); rw [hab] at h; exact h)) rfl (by kernel_rfl) rfl (by kernel_rfl) (fun _ _ h => h) ?_
  refine gQ 5 (Gz e) [] ?_
  refine NQ (NX (af.seq (SR ?_)))
  refine gK 2 [(22, .bool (!(decide ((e : Int) = (0 : Int)))))] [] ?_
  refine NN ?_
  refine af.cr (p := (e : Int) = (0 : Int)) (fun _ => by kernel_rfl) (fun JS => ?_) (fun JS => ?_)
  ·refine SR ?_
   refine gK 2 [(4, vI (e))] [] ?_
   refine NN (af.ret (aj.ar ?_))
   exact RT (vI (e)) [0, 1, 2, 3, 4, 5, 6, 7] (⟨L, by rw [show (eF S c) = (e, S, c) by unfold eF; rw [hab]] <;> exact ⟨rfl, rfl⟩⟩)
  exact absurd JS hne
 have hkd : (obj S.O d).kind = 2 := hI.kind hd
 refine aR.call (f := 134) (args := #[vP f, vI (c.handle), .string c.name, vI 192]) (d := (some 18)) (pre := (mP f m t S L)) (R := (l6 m L S cb c R)) (pk := [0, 2, 3, 1, 4, 5, 6, 7]) (gM := [0, 3, 1, 2, 4, 5, 6, 7]) (v0 := .tuple #[vP (L.b d), vI 0]) (fun _ => by kernel_rfl) ((by have h := cY S L f m t hI c.handle hC.hw c.name hC.nm 192 (β := β); rw [hab] at h; exact h)) rfl (by kernel_rfl) rfl (by kernel_rfl) (fun _ _ h => h) ?_
 refine gQ 5 (Cw L d) [] ?_
 refine NQ (NX (af.seq (SR ?_)))
 refine gK 2 [(22, .bool false)] [] ?_
 refine NN ?_
 refine CF ?_
 refine af.skip (NX (af.seq ?_))
 refine af.bF (by kernel_rfl) (by kernel_rfl) ?_
 refine gQ 9 [(25, vP f), (29, vI (c.other)), (33, .string c.text)] [(4, a_ 6 cb), (8, a_ 6 cb)] ?_
 rcases jM hI.toInv0 c.other c.text 192 with ⟨e2, iO, Cz⟩ | ⟨to, iO, hd2, LY, IK, OE⟩
 ·refine aR.call (f := 134) (args := #[vP f, vI (c.other), .string c.text, vI 192]) (d := (some 34)) (pre := (mP f m t S L)) (R := (l6 m L S cb c R)) (pk := [0, 2, 3, 1, 4, 5, 6, 7]) (gM := [0, 3, 1, 2, 4, 5, 6, 7]) (v0 := .tuple #[.pointer none, vI (e2)]) (fun _ => by kernel_rfl) ((by have h := cY S L f m t hI c.other hC.ow c.text hC.tx 192 (β := β); rw [iO] at h; exact h)) rfl (by kernel_rfl) rfl (by kernel_rfl) (fun _ _ h => h) ?_
  refine gQ 5 [(6, vI (e2)), (7, .pointer none)] [] ?_
  refine NQ (NX (af.seq (SR ?_)))
  refine gK 2 [(38, .bool (!(decide ((e2 : Int) = (0 : Int)))))] [] ?_
  refine NN ?_
  refine af.cr (p := (e2 : Int) = (0 : Int)) (fun _ => by kernel_rfl) (fun tG => ?_) (fun tG => ?_)
  ·refine SR ?_
   refine gK 2 [(4, vI (e2))] [] ?_
   refine NN (af.ret (aj.ar ?_))
   exact RT (vI (e2)) [0, 1, 2, 3, 4, 5, 6, 7] (⟨L, by rw [show (eF S c) = (e2, S, c) by unfold eF; rw [hab]; simp only; rw [iO]] <;> exact ⟨rfl, rfl⟩⟩)
  exact absurd tG Cz
 have dg : (obj S.O to).kind = 2 := hI.kind hd2
 refine aR.call (f := 134) (args := #[vP f, vI (c.other), .string c.text, vI 192]) (d := (some 34)) (pre := (mP f m t S L)) (R := (l6 m L S cb c R)) (pk := [0, 2, 3, 1, 4, 5, 6, 7]) (gM := [0, 3, 1, 2, 4, 5, 6, 7]) (v0 := .tuple #[vP (L.b to), vI 0]) (fun _ => by kernel_rfl) ((by have h := cY S L f m t hI c.other hC.ow c.text hC.tx 192 (β := β); rw [iO] at h; exact h)) rfl (by kernel_rfl) rfl (by kernel_rfl) (fun _ _ h => h) ?_
 refine gQ 5 [(6, vI 0), (7, vP (L.b to))] [] ?_
 refine NQ (NX (af.seq (SR ?_)))
 refine gK 2 [(38, .bool false)] [] ?_
 refine NN ?_
 refine CF ?_
 refine af.skip (NX (af.seq ?_))
 refine af.bZ (S := [pC cb c]) [0, 1, 2, 3, 4, 5, 6, 7, 8, 9, 10, 11, 12] 11 [6] (by kernel_rfl) (by kernel_rfl) rfl (by kernel_rfl) ?_
 refine aJ.reads (r := 0) (l := [11, 12]) (fr' := [(40, vP f), (41, vP (L.b d)), (45, .string c.name), (46, vP (L.b to)), (50, .string c.text)]) (aq := [cb = cb, cb = cb]) [0, 1, 2, 3, 4, 5, 6, 7, 8, 9, 10] [o_, o_, o_, o_, o_, ⟨[.at 0], none, none, none, none⟩, o_, o_, o_, o_, ⟨[.at 0], none, none, none, none⟩] [40, 41, 45, 46, 50] (fun _ => by kernel_rfl) ⟨rfl, rfl, trivial⟩ rfl rfl ?_
 refine mL [6] [0, 1, 2, 3, 4, 5] (x9 S L f m t hI d hd c.name hC.nm to hd2 c.text hC.tx) ?_ (by rintro _ _ ⟨L2, rfl, rfl⟩; rfl)
 rintro _ _ ⟨L2, rfl, rfl⟩
 refine aJ.last rfl rfl ?_
 refine gK 1 [(4, vI ((renameM S d c.name to c.text).1))] [] ?_
 refine NL (aj.np (NX (af.ret ?_)))
 exact RT (vI ((renameM S d c.name to c.text).1)) [0, 1, 2, 3, 4, 5, 6, 7] (⟨L2, by rw [show (eF S c) = ((renameM S d c.name to c.text).1, (renameM S d c.name to c.text).2, c) by unfold eF; rw [hab]; simp only; rw [iO]] <;> exact ⟨rfl, rfl⟩⟩)
end
section
open Go.RowKit
section order
variable {P : Program} {ops : Array Oper} {Q Q' : Post} {n : Nat} {S : World → Prop}
def kA (P : Program) (ops : Array Oper) (Q : Post) (S : World → Prop) : List (Bool × Nat) → Act → World → Prop
  | [], a, w => Q .normal a w
  | (false, i) :: l, a, w => wpOp P ops Q i (fun a' w' => (l = [] ∨ S w') ∧ kA P ops Q S l a' w') a w
  | (true, i) :: l, a, w => ∃ o v, ops[i]? = some o ∧ YieldsIf P ops S o v a ∧ kA P ops Q S l (a.put o.dst v) w
def uZ (ops : Array Oper) (n : Nat) : List (Bool × Nat) → Array Bool → Bool
  | [], listed => (Region.ready .any ops listed).isEmpty
  | (false, i) :: l, listed => (Region.ready .any ops listed == [i]) && (!l.isEmpty || i == n) && uZ ops n l (listed.setIfInBounds i true)
  | (true, i) :: l, listed => decide (i < n) && Region.free .any ops listed i && (Region.ready .any ops listed).contains i && uZ ops n l (listed.setIfInBounds i true)
theorem wD (hsel : Region.noSelect ops = true) (mw : Region.sinkB .any ops n = true) : ∀ (l : List (Bool × Nat)) (listed : Array Bool) (a : Act) (w : World), uZ ops n l listed = true → Closed ops listed → (l = [] ∨ S w) → kA P ops (NP Q) S l a w → jk P ops (NP Q) n S l.length listed a w
  | [], listed, a, w, hb, _, _, h => ⟨List.isEmpty_iff.1 hb, h⟩
  | (false, i) :: l, listed, a, w, hb, hc, _, h => by
    unfold uZ at hb
    simp only [Bool.and_eq_true, beq_iff_eq] at hb
    obtain ⟨⟨h1, h2⟩, h3⟩ := hb
    refine ⟨fun h0 => (by rw [h1] at h0; cases h0), fun j hj => ?_⟩
    have hr := hj
    rw [h1] at hj
    have hj : j = i := by simpa using hj
    subst hj
    refine wpOp_mono (fun a' w' h4 => ⟨?_, wD hsel mw l _ a' w' h3 (hc.set hr) h4.1 h4.2⟩) h
    rcases h4.1 with h5 | h5
    ·subst h5; exact .inl (by simpa using h2)
    exact .inr h5
  | (true, i) :: l, listed, a, w, hb, hc, hS, h => by
    unfold uZ at hb
    simp only [Bool.and_eq_true, decide_eq_true_iff] at hb
    obtain ⟨⟨⟨h1, h2⟩, h3⟩, h4⟩ := hb
    obtain ⟨o, v, ho, hy, hk⟩ := h
    have hS : S w := hS.resolve_left (by simp)
    have hr : i ∈ Region.ready .any ops listed := by simpa using h3
    exact pG ho hsel mw h1 l.length listed a w hc (Region.free_spec ho h2) hr hy hS (wD hsel mw l _ _ w h4 (hc.set hr) (.inr hS) hk)
def DV (ops : Array Oper) (l : List (Bool × Nat)) : Bool :=
  Region.noSelect ops && Region.sinkB .any ops (ops.size - 1) && (l.length == ops.size) && uZ ops (ops.size - 1) l (Array.replicate ops.size false)
def oQ (ops : Array Oper) (i : Nat) : Array Oper := ⟨ops.toList.take (i + 1)⟩
def gB (ops : Array Oper) (i : Nat) : Bool := match ops[i]? with
  | some o => match o.guard with
    | none => true
    | some (j, _) => decide (j ≤ i)
  | none => false
theorem GA {i j : Nat} (h : j ≤ i) : (oQ ops i)[j]? = ops[j]? := by
  unfold oQ
  obtain ⟨l⟩ := ops
  simp only [List.getElem?_toArray, List.getElem?_take]
  rw [if_pos (by omega)]
theorem ur {i : Nat} {a : Act} {w : World} {K : Act → World → Prop} (hg : gB ops i = true) (h : wpList P (oQ ops i) (NP fun _ a w => K a w) ((oQ ops i).toList.drop i) a w) : wpOp P ops (NP Q) i K a w := by
  unfold gB at hg
  split at hg
  ·rename_i o ho
   have hd : (oQ ops i).toList.drop i = [o] := by
     have hl : ops.toList[i]? = some o := by simpa using ho
     have hi : i < ops.toList.length := bA hl
     show (ops.toList.take (i + 1)).drop i = [o]
     rw [List.drop_take]
     rw [show i + 1 - i = 1 by omega, List.drop_eq_getElem_cons hi]
     rw [List.getElem?_eq_getElem hi] at hl
     cases hl
     rfl
   have hw : Region.wanted o (yielded (oQ ops i) a.tmps) = Region.wanted o (yielded ops a.tmps) := by
     unfold Region.wanted
     split at hg
     ·rename_i hn; rw [hn]
     rename_i j b hn
     rw [hn]
     have hj : j ≤ i := by simpa using hg
     have : yielded (oQ ops i) a.tmps j = yielded ops a.tmps j := by
       unfold yielded
       rw [GA hj]
     simp only [this]
   rw [hd] at h
   unfold wpOp
   simp only [ho]
   unfold wpList at h
   rw [hw] at h
   split at h
   ·rename_i hw
    rw [if_pos hw]
    rcases h with h | ⟨_, h⟩
    ·exact .inl (AR (Oper.wp_mono (fun a w h => h) h))
    exact (mq h).elim
   rename_i hw
   rw [if_neg hw]
   exact h
  cases hg
end order
theorem oR {P : Program} {ops : Array Oper} {Q Q' : Post} (hq : ∀ a w, Q .normal a w → Q' .normal a w) : ∀ (l : List Oper) {a : Act} {w : World}, wpList P ops (NP Q) l a w → wpList P ops (NP Q') l a w
  | [], _, _, h => hq _ _ h
  | o :: r, a, w, h => by
    unfold wpList at *
    split
    ·rename_i hw
     rw [if_pos hw] at h
     rcases h with h | ⟨_, h⟩
     ·exact .inl (AR (Oper.wp_mono (fun a w h => oR hq r h) h))
     exact (mq h).elim
    rename_i hw
    rw [if_neg hw] at h
    exact oR hq r h
section mix
variable {P : Program} {β : Bs} {N : Nat} {ops : Array Oper} {S : List HP} {l l' : List (Bool × Nat)} {fr fr' : Fr} {hps : List HP} {Q : Post} {aq : List Prop} {i : Nat} {pk : List Nat}
def dS (P : Program) (β : Bs) (N : Nat) (ops : Array Oper) (S : List HP) (l : List (Bool × Nat)) (fr : Fr) (hps : List HP) (Q : Post) : Prop :=
  ∀ junk w, Sat β hps w → kA P ops (NP Q) (Sat β S) l (cC N fr junk) w
theorem af.kM {id : Nat} (l : List (Bool × Nat)) (pk : List Nat) (hm : P.follows .mixedOrders = true) (hB : DV ops l = true) (hn : nodupB pk = true) (hp : bN hps pk = some S) (h : dS P β N ops S l fr hps Q) : af P β N (.region id ops true) fr hps Q := by
  intro junk w hS
  unfold DV at hB
  simp only [Bool.and_eq_true, beq_iff_eq] at hB
  obtain ⟨⟨⟨h1, h2⟩, h3⟩, h4⟩ := hB
  have cK := hS.drewN 1
  have h5 := wD (Q := Q) h1 h2 l _ _ _ h4 (fun j oj _ hl => by simp [Array.getD_eq_getD_getElem?, Array.getElem?_replicate] at hl; split at hl <;> simp at hl) (.inr (cK.pick hn hp)) (h junk (w.drewN 1) cK)
  rw [h3] at h5
  refine Code.wp_mono (fun e a w q => ?_) (wp_region_any hm (mr _ _ _ _ h5))
  cases e with
  | normal => exact q
  | exit id => exact q.elim
  | goto l => exact q.elim
  | ret => exact q.elim
  | panic ch => exact q.elim
  | outgrown => exact q.elim
def pV (P : Program) (β : Bs) (N : Nat) (junk : Nat → Value) (ops : Array Oper) : List OH → List Nat → Fr → SS → Option (Fr × SS)
  | [], [], fr, S => some (fr, S)
  | h :: hs, i :: is, fr, S =>
    match ops[i]? with
    | some o =>
      match Region.wanted o (yF ops N fr junk) with
      | true =>
        match o7 P β 0 true (cD N fr junk) o h S with
        | some (v, S') =>
          match tK v with
          | true => pV P β N junk ops hs is (cJ fr o.dst v) S'
          | false => none
        | none => none
      | false => pV P β N junk ops hs is (cJ fr o.dst undef) S
    | none => none
  | _, _, _, _ => none
def CA (P : Program) (β : Bs) (N : Nat) (junk : Nat → Value) (ops : Array Oper) (hs : List OH) (is : List Nat) (fr : Fr) (S : List HP) (idx : List Nat) : Option (Fr × List Prop) :=
  match pV P β N junk ops hs is fr ⟨[], S, [], true⟩ with
  | some (fr', S') => some (gZ fr' junk idx, S'.aq)
  | none => none
theorem sB {junk : Nat → Value} : ∀ {hs : List OH} {is : List Nat} {fr fr' : Fr} {S S' : SS}, pV P β N junk ops hs is fr S = some (fr', S') → ∀ p, p ∈ S.aq → p ∈ S'.aq
  | [], [], fr, fr', S, S', h, p, hp => by cases h; exact hp
  | h :: hs, i :: is, fr, fr', S, S', hr, p, hp => by
    unfold pV at hr
    repeat' split at hr
    all_goals first | (cases hr; done) | skip
    ·rename_i h0 _ _
     exact sB hr p (vN h0 p hp)
    exact sB hr p hp
  | [], _ :: _, _, _, _, _, h, _, _ => by cases h
  | _ :: _, [], _, _, _, _, h, _, _ => by cases h
theorem pW {junk : Nat → Value} {w : World} : ∀ {hs : List OH} {is : List Nat} {fr fr' : Fr} {T T' : SS}, pV P β N junk ops hs is fr T = some (fr', T') → (∀ p, p ∈ T'.aq → p) → T.used = true → T.hps = S →
    kA P ops (NP Q) (Sat β S) l (cC N fr' junk) w → kA P ops (NP Q) (Sat β S) (is.map (fun i => (true, i)) ++ l) (cC N fr junk) w
  | [], [], fr, fr', T, T', h, ho, hu, hT, hK => by cases h; exact hK
  | h :: hs, i :: is, fr, fr', T, T', hr, ho, hu, hT, hK => by
    unfold pV at hr
    repeat' split at hr
    all_goals first | (cases hr; done) | skip
    ·rename_i o hget _ hwant _ v T1 h0 _ hv
     obtain ⟨e1, e2⟩ := q4 h0
     rw [List.map_cons, List.cons_append]
     unfold kA
     refine ⟨o, v, hget, .inl ⟨by rw [dP]; exact hwant, fun w' cK => ?_⟩, ?_⟩
     ·rw [dw]
      obtain ⟨w2, h1, _, _, h4⟩ := kB h0 (fun p hp => ho p (sB hr p hp)) (by rw [hT]; exact cK) (fun e => by rw [hu] at e; cases e)
      obtain ⟨ew, _⟩ := h4 rfl
      rw [ew] at h1
      rcases h1 with h1 | ⟨h1, _⟩
      ·exact h1
      exact absurd h1 (qq hv)
     rw [di]
     exact pW hr ho (e2.trans hu) (e1.trans hT) hK
    rename_i o hget _ hwant
    rw [List.map_cons, List.cons_append]
    unfold kA
    refine ⟨o, undef, hget, .inr ⟨by rw [dP]; exact hwant, rfl⟩, ?_⟩
    rw [di]
    exact pW hr ho hu hT hK
  | [], _ :: _, _, _, _, _, h, _, _, _, _ => by cases h
  | _ :: _, [], _, _, _, _, h, _, _, _, _ => by cases h
theorem dS.reads (is : List Nat) (hs : List OH) (idx : List Nat) (h : ∀ junk, CA P β N junk ops hs is fr S idx = some (fr', aq)) (ho : gU aq) (hl : l' = is.map (fun i => (true, i)) ++ l) (K : dS P β N ops S l fr' hps Q) : dS P β N ops S l' fr hps Q := by
  intro junk w hS
  subst hl
  have h0 := h junk
  unfold CA at h0
  split at h0
  ·rename_i jg S1 h1
   cases h0
   have hK := K (lk jg junk) w hS
   rw [← gT] at hK
   exact pW h1 (fun p hp => ho.mem hp) rfl rfl hK
  cases h0
theorem dS.cut {ι : Type} {fr' : ι → Fr} {hp' : ι → List HP} (pk : List Nat) (hg : gB ops i = true) (h : ai P β N (oQ ops i) i fr hps (NP (jh β N fr' hp'))) (hn : nodupB pk = true) (hp : ∀ j, bN (hp' j) pk = some S)
    (K : ∀ j, dS P β N ops S l (fr' j) (hp' j) Q) : dS P β N ops S ((false, i) :: l) fr hps Q := by
  intro junk w hS
  unfold kA
  refine ur hg (oR (Q' := _) (fun a w ⟨j, fL, ha, cK⟩ => ?_) _ (h junk w hS))
  subst ha
  exact ⟨.inr (cK.pick hn (hp j)), K j fL w cK⟩
theorem dS.last (hg : gB ops i = true) (h : ai P β N (oQ ops i) i fr hps (NP Q)) : dS P β N ops S [(false, i)] fr hps Q := by
  intro junk w hS
  unfold kA
  exact ur hg (oR (Q' := _) (fun a w hq => ⟨.inl rfl, by unfold kA; exact hq⟩) _ (h junk w hS))
end mix
end
section
open Go.RowKit Go.Maps HeapM TabM
attribute [local irreducible] ai aR af aj
abbrev DW (cb : Nat) (c : aV) := (pC cb { c with other := 0, mode := 0, uid := 0, gid := 0, sec := 0, nano := 0 } : HP)
abbrev DX (cb : Nat) (c : aV) (S : aI) (tk : Nat) := (pC cb { c with other := 0, mode := 0, uid := 0, gid := 0, sec := 0, nano := 0, answer := (obj S.O tk).id } : HP)
abbrev NH (cb : Nat) (c : aV) (S : aI) (tk : Nat) := (pC cb { c with other := 1, mode := (obj S.O tk).mode, uid := (obj S.O tk).uid, gid := 0, sec := 0, nano := 0, answer := (obj S.O tk).id } : HP)
abbrev NI (cb : Nat) (c : aV) (S : aI) (tk : Nat) := (pC cb { c with other := 1, mode := (obj S.O tk).mode, uid := (obj S.O tk).uid, gid := (obj S.O tk).gid, sec := 0, nano := 0, answer := (obj S.O tk).id } : HP)
abbrev NJ (cb : Nat) (c : aV) (S : aI) (tk : Nat) := (pC cb { c with other := 2, mode := (obj S.O tk).mode, uid := (obj S.O tk).uid, gid := 0, sec := 0, nano := 0, answer := (obj S.O tk).id } : HP)
abbrev NK (cb : Nat) (c : aV) (S : aI) (tk : Nat) := (pC cb { c with other := 2, mode := (obj S.O tk).mode, uid := (obj S.O tk).uid, gid := (obj S.O tk).gid, sec := 0, nano := 0, answer := (obj S.O tk).id } : HP)
abbrev NM (cb : Nat) (c : aV) (S : aI) (tk : Nat) := (pC cb { c with other := 3, mode := (obj S.O tk).mode, uid := (obj S.O tk).uid, gid := 0, sec := 0, nano := 0, answer := (obj S.O tk).id } : HP)
abbrev NR (cb : Nat) (c : aV) (S : aI) (tk : Nat) := (pC cb { c with other := 3, mode := (obj S.O tk).mode, uid := (obj S.O tk).uid, gid := (obj S.O tk).gid, sec := 0, nano := 0, answer := (obj S.O tk).id } : HP)
abbrev kU (S : aI) (tk : Nat) := ([(40, vI ((obj S.O tk).mode)), (44, vI ((obj S.O tk).uid)), (48, vI ((obj S.O tk).gid)), (52, .agg #[vI ((obj S.O tk).sec), vI ((obj S.O tk).nano)])] : Fr)
abbrev oh (S : aI) (tk : Nat) := ([(48, vI ((obj S.O tk).gid)), (52, .agg #[vI ((obj S.O tk).sec), vI ((obj S.O tk).nano)])] : Fr)
abbrev sC (cb : Nat) (S : aI) (tk : Nat) := ([(26, vP cb), (27, vP cb), (28, vP cb), (29, vP cb), (30, vP cb), (34, vI ((obj S.O tk).id))] : Fr)
abbrev ol (f : Nat) (m : Nat) (t) (S : aI) (L : HL) (cb : Nat) (c) (R : bR) := ([pF f m t S.X, pI m L S.idx, pO S.O L, pD S.O L, pE S.O L, pC cb c, .abs R] : List HP)
abbrev ER := ([(2, vI 0), (6, vI 0), (7, vI 0), (8, vI 0), (9, vI 0), (10, vI 0)] : Fr)
abbrev om (cb : Nat) := ([(28, vP cb), (29, vP cb), (30, vP cb)] : Fr)
abbrev uw (L : HL) (to : Nat) (c : aV) := ([(61, .map (some (L.m to))), (65, .string c.text)] : Fr)
abbrev zq (cb : Nat) (S : aI) (tk : Nat) := ([(29, vP cb), (30, vP cb), (44, vI ((obj S.O tk).uid))] : Fr)
abbrev IL (S : aI) (tk : Nat) (cb : Nat) := ([(52, .agg #[vI ((obj S.O tk).sec), vI ((obj S.O tk).nano)]), (64, .pointer (some ⟨cb, 9, none⟩))] : Fr)
abbrev ES (L : HL) (tk : Nat) := ([(5, .iface 89 (vP (L.b tk))), (6, vI 0)] : Fr)
abbrev ET (L : HL) (tk : Nat) := ([(5, .iface 96 (vP (L.b tk))), (6, vI 0)] : Fr)
abbrev IQ (t) (c : aV) := ([(13, vP t), (17, vI (c.handle))] : Fr)
abbrev IU (t) (c : aV) := ([(11, vP t), (15, vI (c.handle))] : Fr)
abbrev IV (S : aI) (tk : Nat) := ([(9, vI ((obj S.O tk).sec)), (10, vI ((obj S.O tk).nano))] : Fr)
theorem EU {β : Bs} (S : aI) (L : HL) (f m t : Nat) (hI : Inv S) (cb : Nat) (c : aV) (hC : fJ β c) :
    Spec Tryz.prog β 84 #[vP f, vP cb] ((pA f m t L S) ++ [pC cb c]) (fun v l => ∃ L2, v = vI (bW S c).1 ∧ l = ((pA f m t L2 ((bW S c).2.1)) ++ [.blk cb (gh ((bW S c).2.2)) 43])) := by
 have hX := hI.hX
 refine Spec.enter Tryz.func84 rfl Tryz.ntmps84 (Nat.le_of_ble_eq_true rfl) (fun R => ?_)
 refine SR ?_
 refine gK 1 [] [] ?_
 refine NN (af.seq ?_)
 refine af.bF (by kernel_rfl) (by kernel_rfl) ?_
 refine gQ 9 [(10, vP f), (14, vI (c.handle)), (18, .string c.name)] [(4, a_ 6 cb), (8, a_ 6 cb)] ?_
 rcases jM hI.toInv0 c.handle c.name 64 with ⟨e, hab, hne⟩ | ⟨d, hab, hd, gA, hgn, cF⟩
 ·refine aR.call (f := 134) (args := #[vP f, vI (c.handle), .string c.name, vI 64]) (d := (some 19)) (pre := (mP f m t S L)) (R := (l6 m L S cb c R)) (pk := [0, 2, 3, 1, 4, 5, 6, 7]) (gM := [0, 3, 1, 2, 4, 5, 6, 7]) (v0 := .tuple #[.pointer none, vI (e)]) (fun _ => by kernel_rfl) ((by have h := cY S L f m t hI c.handle hC.hw c.name hC.nm 64 (β := β); rw [hab] at h; exact h)) rfl (by kernel_rfl) rfl (by kernel_rfl) (fun _ _ h => h) ?_
  refine gQ 5 [(5, .pointer none), (6, vI (e))] [] ?_
  refine NQ (NX (af.seq (SR ?_)))
  refine gK 2 [(23, .bool (!(decide ((e : Int) = (0 : Int)))))] [] ?_
  refine NN ?_
  refine af.cr (p := (e : Int) = (0 : Int)) (fun _ => by kernel_rfl) (fun h23 => ?_) (fun h23 => ?_)
  ·refine SR ?_
   refine gK 2 [(4, vI (e))] [] ?_
   refine NN (af.ret (aj.ar ?_))
   exact RT (vI (e)) [0, 1, 2, 3, 4, 5, 6, 7] (⟨L, by rw [show (bW S c) = (e, S, c) by unfold bW; rw [hab]] <;> exact ⟨rfl, rfl⟩⟩)
  exact absurd h23 hne
 have hkd : (obj S.O d).kind = 2 := hI.kind hd
 refine aR.call (f := 134) (args := #[vP f, vI (c.handle), .string c.name, vI 64]) (d := (some 19)) (pre := (mP f m t S L)) (R := (l6 m L S cb c R)) (pk := [0, 2, 3, 1, 4, 5, 6, 7]) (gM := [0, 3, 1, 2, 4, 5, 6, 7]) (v0 := .tuple #[vP (L.b d), vI 0]) (fun _ => by kernel_rfl) ((by have h := cY S L f m t hI c.handle hC.hw c.name hC.nm 64 (β := β); rw [hab] at h; exact h)) rfl (by kernel_rfl) rfl (by kernel_rfl) (fun _ _ h => h) ?_
 refine gQ 5 (Cw L d) [] ?_
 refine NQ (NX (af.seq (SR ?_)))
 refine gK 2 [(23, .bool false)] [] ?_
 refine NN ?_
 refine CF ?_
 refine af.skip (NX (af.seq ?_))
 refine af.bF (by kernel_rfl) (by kernel_rfl) ?_
 refine gQ 9 [(26, vP f), (30, vI (c.other)), (34, .string c.text)] [(4, a_ 6 cb), (8, a_ 6 cb)] ?_
 rcases jM hI.toInv0 c.other c.text 192 with ⟨e2, iO, Cz⟩ | ⟨to, iO, hd2, LY, IK, OE⟩
 ·refine aR.call (f := 134) (args := #[vP f, vI (c.other), .string c.text, vI 192]) (d := (some 35)) (pre := (mP f m t S L)) (R := (l6 m L S cb c R)) (pk := [0, 2, 3, 1, 4, 5, 6, 7]) (gM := [0, 3, 1, 2, 4, 5, 6, 7]) (v0 := .tuple #[.pointer none, vI (e2)]) (fun _ => by kernel_rfl) ((by have h := cY S L f m t hI c.other hC.ow c.text hC.tx 192 (β := β); rw [iO] at h; exact h)) rfl (by kernel_rfl) rfl (by kernel_rfl) (fun _ _ h => h) ?_
  refine gQ 5 [(6, vI (e2)), (7, .pointer none)] [] ?_
  refine NQ (NX (af.seq (SR ?_)))
  refine gK 2 [(39, .bool (!(decide ((e2 : Int) = (0 : Int)))))] [] ?_
  refine NN ?_
  refine af.cr (p := (e2 : Int) = (0 : Int)) (fun _ => by kernel_rfl) (fun mK => ?_) (fun mK => ?_)
  ·refine SR ?_
   refine gK 2 [(4, vI (e2))] [] ?_
   refine NN (af.ret (aj.ar ?_))
   exact RT (vI (e2)) [0, 1, 2, 3, 4, 5, 6, 7] (⟨L, by rw [show (bW S c) = (e2, S, c) by unfold bW; rw [hab]; simp only; rw [iO]] <;> exact ⟨rfl, rfl⟩⟩)
  exact absurd mK Cz
 have dg : (obj S.O to).kind = 2 := hI.kind hd2
 refine aR.call (f := 134) (args := #[vP f, vI (c.other), .string c.text, vI 192]) (d := (some 35)) (pre := (mP f m t S L)) (R := (l6 m L S cb c R)) (pk := [0, 2, 3, 1, 4, 5, 6, 7]) (gM := [0, 3, 1, 2, 4, 5, 6, 7]) (v0 := .tuple #[vP (L.b to), vI 0]) (fun _ => by kernel_rfl) ((by have h := cY S L f m t hI c.other hC.ow c.text hC.tx 192 (β := β); rw [iO] at h; exact h)) rfl (by kernel_rfl) rfl (by kernel_rfl) (fun _ _ h => h) ?_
 refine gQ 5 [(6, vI 0), (7, vP (L.b to))] [] ?_
 refine NQ (NX (af.seq (SR ?_)))
 refine gK 2 [(39, .bool false)] [] ?_
 refine NN ?_
 refine CF ?_
 refine af.skip (NX (af.seq ?_))
 have hel : (obj S.O d).ah.length ≤ 8192 := hI.eS hd
 have Nj := hC.nm
 rcases hI.jY hd c.name with hlk | ⟨tk, hlk, hlv⟩ | ⟨tk, hlk, hlv⟩ | ⟨tk, hlk, hlv⟩
 ·refine af.bF (by kernel_rfl) (by kernel_rfl) ?_
  refine gQ 8 [(44, .map (some (L.m d))), (48, .string c.name)] [(3, v_ 3 (bC L hkd)), (7, a_ 6 cb)] ?_
  refine oz 5 hkd hlk ?_
  refine gQ 1 [(8, .nilIface)] [] ?_
  refine NQ (NX (af.seq (af.block (SR ?_))))
  refine gK 3 [(50, .bool true)] [] ?_
  refine NN ?_
  refine CT ?_
  refine SR ?_
  refine gK 1 [(4, vI 170)] [] ?_
  refine NN (af.ret (aj.aG (aj.ar ?_)))
  exact RT (vI 170) [0, 1, 2, 3, 4, 5, 6, 7] (⟨L, by rw [show (bW S c) = (170, S, c) by unfold bW; rw [hab]; simp only; rw [iO]; simp only; rw [show (linkM S d c.name to c.text) = (170, S) by unfold linkM; rw [hlk]]] <;> exact ⟨rfl, rfl⟩⟩)
 ·have hkt : (obj S.O tk).kind = 1 := hI.kind hlv
  refine af.bF (by kernel_rfl) (by kernel_rfl) ?_
  refine gQ 8 [(44, .map (some (L.m d))), (48, .string c.name)] [(3, v_ 3 (bC L hkd)), (7, a_ 6 cb)] ?_
  refine oz 5 hkd hlk ?_
  refine gQ 1 [(8, .iface 89 (vP (L.b tk)))] [] ?_
  refine NQ (NX (af.seq (af.block (SR ?_))))
  refine gK 3 [(50, .bool false)] [] ?_
  refine NN ?_
  refine CF ?_
  refine SR ?_
  refine gK 1 [(54, .iface 89 (vP (L.b tk)))] [] ?_
  refine gL [] (jH (vP (L.b tk))) ?_
  rintro _ _ ⟨rfl, rfl⟩
  refine gK 2 [(53, .bool false)] [] ?_
  refine NN ?_
  refine CF ?_
  refine af.seq ?_
  have wE : (obj S.O to).ah.length ≤ 8192 := hI.eS hd2
  have GD := hC.tx
  rcases hI.jY hd2 c.text with bp | ⟨ok, bp, dr⟩ | ⟨ok, bp, dr⟩ | ⟨ok, bp, dr⟩
  ·refine af.bF (by kernel_rfl) (by kernel_rfl) ?_
   refine gQ 8 (uw L to c) [(3, v_ 3 (bC L dg)), (7, a_ 6 cb)] ?_
   refine oz 5 dg bp ?_
   refine gQ 2 [(57, .bool false)] [] ?_
   refine NQ (NX ?_)
   refine CF ?_
   refine SR ?_
   refine gK 1 [(69, vP f)] [] ?_
   refine gL [0] (qR S.X f m t) ?_
   rintro _ _ ⟨rfl, rfl⟩
   refine gK 2 [(68, .bool (!(decide (S.X.ah < 8192))))] [] ?_
   refine NN ?_
   refine af.cr (p := S.X.ah < 8192) (fun _ => by kernel_rfl) (fun h68 => ?_) (fun h68 => ?_)
   ·refine SR ?_
    refine gK 1 [(4, vI 177)] [] ?_
    refine NN (af.ret (aj.aG (aj.ar ?_)))
    exact RT (vI 177) [0, 1, 2, 3, 4, 5, 6, 7] (⟨L, by rw [show (bW S c) = (177, S, c) by unfold bW; rw [hab]; simp only; rw [iO]; simp only; rw [show (linkM S d c.name to c.text) = (177, S) by unfold linkM; rw [hlk]; exact (if_neg (by simp)).trans ((if_pos bp).trans (if_neg h68))]] <;> exact ⟨rfl, rfl⟩⟩)
   refine af.skip (aj.aT (NX (SR ?_)))
   refine gK 7 [(72, vP f), (73, vP (L.b to)), (77, .string c.text), (78, .iface 89 (vP (L.b tk)))] [(5, a_ 6 cb)] ?_
   refine gL [0, 3, 5] (fV S.X f m t hX S.O L to dg c.text hC.tx bp (by omega) ⟨tk, 1⟩ hkt (by simp) (by have := hI.lb hlv; simp only at this ⊢; omega)) ?_
   rintro _ _ ⟨rfl, rfl⟩
   refine NS ?_
   refine ai.mem (aL := [.blk f [vI (S.X.cN), vI (S.X.cB), vI (S.X.cH), vI (S.X.cS), vI (S.X.cZ), .map (some m), vP t, vI (S.X.last), vI (S.X.ah + 1), vI (S.X.used)] 86, .abs (ak (aQ (br S.X S.O to c.text ⟨tk, 1⟩) L)), .abs (ak (bh (br S.X S.O to c.text ⟨tk, 1⟩) L)), .abs (aH Tryz.prog 3 m (aP (aK L S.idx)) S.idx.length), .abs (aZ 156 t S.X.cH S.ay (aK L S.us)), .abs (ak (aW (br S.X S.O to c.text ⟨tk, 1⟩) L)), .blk cb [vI (c.op), vI (c.handle), vI (c.other), .string c.name, .string c.text, .slice c.dA (c.data.length) (c.dC), vI (c.mode), vI (c.uid), vI (c.gid), vI (c.sec), vI (c.nano), vI (c.code), vI (c.answer)] 43, .abs R]) (fun w hS => by rw [show aW (br S.X S.O to c.text ⟨tk, 1⟩) L = aW S.O L from fI]; exact hS) ?_
   refine gK 1 [(4, vI 0)] [] ?_
   refine NN (af.ret ?_)
   exact RT (vI 0) [0, 3, 4, 1, 5, 2, 6, 7] (⟨L, by rw [show (bW S c) = (0, { S with X := { S.X with ah := S.X.ah + 1 }, O := br S.X S.O to c.text ⟨tk, 1⟩ }, c) by unfold bW; rw [hab]; simp only; rw [iO]; simp only; rw [show (linkM S d c.name to c.text) = (0, { S with X := { S.X with ah := S.X.ah + 1 }, O := br S.X S.O to c.text ⟨tk, 1⟩ }) by unfold linkM; rw [hlk]; exact (if_neg (by simp)).trans ((if_pos bp).trans (if_pos h68))]] <;> exact ⟨rfl, rfl⟩⟩)
  ·have jt : (obj S.O ok).kind = 1 := hI.kind dr
   refine af.bF (by kernel_rfl) (by kernel_rfl) ?_
   refine gQ 8 (uw L to c) [(3, v_ 3 (bC L dg)), (7, a_ 6 cb)] ?_
   refine oz 5 dg bp ?_
   refine gQ 2 [(57, .bool true)] [] ?_
   refine NQ (NX ?_)
   refine CT ?_
   refine SR ?_
   refine gK 1 [(4, vI 171)] [] ?_
   refine NN (af.ret (aj.aG (aj.ar ?_)))
   exact RT (vI 171) [0, 1, 2, 3, 4, 5, 6, 7] (⟨L, by rw [show (bW S c) = (171, S, c) by unfold bW; rw [hab]; simp only; rw [iO]; simp only; rw [show (linkM S d c.name to c.text) = (171, S) by unfold linkM; rw [hlk]; exact (if_neg (by simp)).trans (if_neg (by rw [bp]; simp))]] <;> exact ⟨rfl, rfl⟩⟩)
  ·have jt : (obj S.O ok).kind = 2 := hI.kind dr
   refine af.bF (by kernel_rfl) (by kernel_rfl) ?_
   refine gQ 8 (uw L to c) [(3, v_ 3 (bC L dg)), (7, a_ 6 cb)] ?_
   refine oz 5 dg bp ?_
   refine gQ 2 [(57, .bool true)] [] ?_
   refine NQ (NX ?_)
   refine CT ?_
   refine SR ?_
   refine gK 1 [(4, vI 171)] [] ?_
   refine NN (af.ret (aj.aG (aj.ar ?_)))
   exact RT (vI 171) [0, 1, 2, 3, 4, 5, 6, 7] (⟨L, by rw [show (bW S c) = (171, S, c) by unfold bW; rw [hab]; simp only; rw [iO]; simp only; rw [show (linkM S d c.name to c.text) = (171, S) by unfold linkM; rw [hlk]; exact (if_neg (by simp)).trans (if_neg (by rw [bp]; simp))]] <;> exact ⟨rfl, rfl⟩⟩)
  have jt : (obj S.O ok).kind = 3 := hI.kind dr
  refine af.bF (by kernel_rfl) (by kernel_rfl) ?_
  refine gQ 8 (uw L to c) [(3, v_ 3 (bC L dg)), (7, a_ 6 cb)] ?_
  refine oz 5 dg bp ?_
  refine gQ 2 [(57, .bool true)] [] ?_
  refine NQ (NX ?_)
  refine CT ?_
  refine SR ?_
  refine gK 1 [(4, vI 171)] [] ?_
  refine NN (af.ret (aj.aG (aj.ar ?_)))
  exact RT (vI 171) [0, 1, 2, 3, 4, 5, 6, 7] (⟨L, by rw [show (bW S c) = (171, S, c) by unfold bW; rw [hab]; simp only; rw [iO]; simp only; rw [show (linkM S d c.name to c.text) = (171, S) by unfold linkM; rw [hlk]; exact (if_neg (by simp)).trans (if_neg (by rw [bp]; simp))]] <;> exact ⟨rfl, rfl⟩⟩)
 ·have hkt : (obj S.O tk).kind = 2 := hI.kind hlv
  refine af.bF (by kernel_rfl) (by kernel_rfl) ?_
  refine gQ 8 [(44, .map (some (L.m d))), (48, .string c.name)] [(3, v_ 3 (bC L hkd)), (7, a_ 6 cb)] ?_
  refine oz 5 hkd hlk ?_
  refine gQ 1 [(8, .iface 96 (vP (L.b tk)))] [] ?_
  refine NQ (NX (af.seq (af.block (SR ?_))))
  refine gK 3 [(50, .bool false)] [] ?_
  refine NN ?_
  refine CF ?_
  refine SR ?_
  refine gK 1 [(54, .iface 96 (vP (L.b tk)))] [] ?_
  refine gL [] (jI (vP (L.b tk))) ?_
  rintro _ _ ⟨rfl, rfl⟩
  refine gK 2 [(53, .bool true)] [] ?_
  refine NN ?_
  refine CT ?_
  refine SR ?_
  refine gK 1 [(4, vI 172)] [] ?_
  refine NN (af.ret (aj.aG (aj.ar ?_)))
  exact RT (vI 172) [0, 1, 2, 3, 4, 5, 6, 7] (⟨L, by rw [show (bW S c) = (172, S, c) by unfold bW; rw [hab]; simp only; rw [iO]; simp only; rw [show (linkM S d c.name to c.text) = (172, S) by unfold linkM; rw [hlk]; exact if_pos rfl]] <;> exact ⟨rfl, rfl⟩⟩)
 have hkt : (obj S.O tk).kind = 3 := hI.kind hlv
 refine af.bF (by kernel_rfl) (by kernel_rfl) ?_
 refine gQ 8 [(44, .map (some (L.m d))), (48, .string c.name)] [(3, v_ 3 (bC L hkd)), (7, a_ 6 cb)] ?_
 refine oz 5 hkd hlk ?_
 refine gQ 1 [(8, .iface 93 (vP (L.b tk)))] [] ?_
 refine NQ (NX (af.seq (af.block (SR ?_))))
 refine gK 3 [(50, .bool false)] [] ?_
 refine NN ?_
 refine CF ?_
 refine SR ?_
 refine gK 1 [(54, .iface 93 (vP (L.b tk)))] [] ?_
 refine gL [] (kr (vP (L.b tk))) ?_
 rintro _ _ ⟨rfl, rfl⟩
 refine gK 2 [(53, .bool false)] [] ?_
 refine NN ?_
 refine CF ?_
 refine af.seq ?_
 have wE : (obj S.O to).ah.length ≤ 8192 := hI.eS hd2
 have GD := hC.tx
 rcases hI.jY hd2 c.text with bp | ⟨ok, bp, dr⟩ | ⟨ok, bp, dr⟩ | ⟨ok, bp, dr⟩
 ·refine af.bF (by kernel_rfl) (by kernel_rfl) ?_
  refine gQ 8 (uw L to c) [(3, v_ 3 (bC L dg)), (7, a_ 6 cb)] ?_
  refine oz 5 dg bp ?_
  refine gQ 2 [(57, .bool false)] [] ?_
  refine NQ (NX ?_)
  refine CF ?_
  refine SR ?_
  refine gK 1 [(69, vP f)] [] ?_
  refine gL [0] (qR S.X f m t) ?_
  rintro _ _ ⟨rfl, rfl⟩
  refine gK 2 [(68, .bool (!(decide (S.X.ah < 8192))))] [] ?_
  refine NN ?_
  refine af.cr (p := S.X.ah < 8192) (fun _ => by kernel_rfl) (fun h68 => ?_) (fun h68 => ?_)
  ·refine SR ?_
   refine gK 1 [(4, vI 177)] [] ?_
   refine NN (af.ret (aj.aG (aj.ar ?_)))
   exact RT (vI 177) [0, 1, 2, 3, 4, 5, 6, 7] (⟨L, by rw [show (bW S c) = (177, S, c) by unfold bW; rw [hab]; simp only; rw [iO]; simp only; rw [show (linkM S d c.name to c.text) = (177, S) by unfold linkM; rw [hlk]; exact (if_neg (by simp)).trans ((if_pos bp).trans (if_neg h68))]] <;> exact ⟨rfl, rfl⟩⟩)
  refine af.skip (aj.aT (NX (SR ?_)))
  refine gK 7 [(72, vP f), (73, vP (L.b to)), (77, .string c.text), (78, .iface 93 (vP (L.b tk)))] [(5, a_ 6 cb)] ?_
  refine gL [0, 3, 5] (fV S.X f m t hX S.O L to dg c.text hC.tx bp (by omega) ⟨tk, 3⟩ hkt (by simp) (by have := hI.lb hlv; simp only at this ⊢; omega)) ?_
  rintro _ _ ⟨rfl, rfl⟩
  refine NS ?_
  refine ai.mem (aL := [.blk f [vI (S.X.cN), vI (S.X.cB), vI (S.X.cH), vI (S.X.cS), vI (S.X.cZ), .map (some m), vP t, vI (S.X.last), vI (S.X.ah + 1), vI (S.X.used)] 86, .abs (ak (aQ (br S.X S.O to c.text ⟨tk, 3⟩) L)), .abs (ak (bh (br S.X S.O to c.text ⟨tk, 3⟩) L)), .abs (aH Tryz.prog 3 m (aP (aK L S.idx)) S.idx.length), .abs (aZ 156 t S.X.cH S.ay (aK L S.us)), .abs (ak (aW (br S.X S.O to c.text ⟨tk, 3⟩) L)), .blk cb [vI (c.op), vI (c.handle), vI (c.other), .string c.name, .string c.text, .slice c.dA (c.data.length) (c.dC), vI (c.mode), vI (c.uid), vI (c.gid), vI (c.sec), vI (c.nano), vI (c.code), vI (c.answer)] 43, .abs R]) (fun w hS => by rw [show aW (br S.X S.O to c.text ⟨tk, 3⟩) L = aW S.O L from fI]; exact hS) ?_
  refine gK 1 [(4, vI 0)] [] ?_
  refine NN (af.ret ?_)
  exact RT (vI 0) [0, 3, 4, 1, 5, 2, 6, 7] (⟨L, by rw [show (bW S c) = (0, { S with X := { S.X with ah := S.X.ah + 1 }, O := br S.X S.O to c.text ⟨tk, 3⟩ }, c) by unfold bW; rw [hab]; simp only; rw [iO]; simp only; rw [show (linkM S d c.name to c.text) = (0, { S with X := { S.X with ah := S.X.ah + 1 }, O := br S.X S.O to c.text ⟨tk, 3⟩ }) by unfold linkM; rw [hlk]; exact (if_neg (by simp)).trans ((if_pos bp).trans (if_pos h68))]] <;> exact ⟨rfl, rfl⟩⟩)
 ·have jt : (obj S.O ok).kind = 1 := hI.kind dr
  refine af.bF (by kernel_rfl) (by kernel_rfl) ?_
  refine gQ 8 (uw L to c) [(3, v_ 3 (bC L dg)), (7, a_ 6 cb)] ?_
  refine oz 5 dg bp ?_
  refine gQ 2 [(57, .bool true)] [] ?_
  refine NQ (NX ?_)
  refine CT ?_
  refine SR ?_
  refine gK 1 [(4, vI 171)] [] ?_
  refine NN (af.ret (aj.aG (aj.ar ?_)))
  exact RT (vI 171) [0, 1, 2, 3, 4, 5, 6, 7] (⟨L, by rw [show (bW S c) = (171, S, c) by unfold bW; rw [hab]; simp only; rw [iO]; simp only; rw [show (linkM S d c.name to c.text) = (171, S) by unfold linkM; rw [hlk]; exact (if_neg (by simp)).trans (if_neg (by rw [bp]; simp))]] <;> exact ⟨rfl, rfl⟩⟩)
 ·have jt : (obj S.O ok).kind = 2 := hI.kind dr
  refine af.bF (by kernel_rfl) (by kernel_rfl) ?_
  refine gQ 8 (uw L to c) [(3, v_ 3 (bC L dg)), (7, a_ 6 cb)] ?_
  refine oz 5 dg bp ?_
  refine gQ 2 [(57, .bool true)] [] ?_
  refine NQ (NX ?_)
  refine CT ?_
  refine SR ?_
  refine gK 1 [(4, vI 171)] [] ?_
  refine NN (af.ret (aj.aG (aj.ar ?_)))
  exact RT (vI 171) [0, 1, 2, 3, 4, 5, 6, 7] (⟨L, by rw [show (bW S c) = (171, S, c) by unfold bW; rw [hab]; simp only; rw [iO]; simp only; rw [show (linkM S d c.name to c.text) = (171, S) by unfold linkM; rw [hlk]; exact (if_neg (by simp)).trans (if_neg (by rw [bp]; simp))]] <;> exact ⟨rfl, rfl⟩⟩)
 have jt : (obj S.O ok).kind = 3 := hI.kind dr
 refine af.bF (by kernel_rfl) (by kernel_rfl) ?_
 refine gQ 8 (uw L to c) [(3, v_ 3 (bC L dg)), (7, a_ 6 cb)] ?_
 refine oz 5 dg bp ?_
 refine gQ 2 [(57, .bool true)] [] ?_
 refine NQ (NX ?_)
 refine CT ?_
 refine SR ?_
 refine gK 1 [(4, vI 171)] [] ?_
 refine NN (af.ret (aj.aG (aj.ar ?_)))
 exact RT (vI 171) [0, 1, 2, 3, 4, 5, 6, 7] (⟨L, by rw [show (bW S c) = (171, S, c) by unfold bW; rw [hab]; simp only; rw [iO]; simp only; rw [show (linkM S d c.name to c.text) = (171, S) by unfold linkM; rw [hlk]; exact (if_neg (by simp)).trans (if_neg (by rw [bp]; simp))]] <;> exact ⟨rfl, rfl⟩⟩)
theorem Dn {β : Bs} (S : aI) (L : HL) (f m t : Nat) (hI : Inv S) (cb : Nat) (c : aV) (hC : fJ β c) :
    Spec Tryz.prog β 86 #[vP f, vP cb] ((pA f m t L S) ++ [pC cb c]) (fun v l => ∃ L2, v = vI (fD S c).1 ∧ l = ((pA f m t L2 ((fD S c).2.1)) ++ [.blk cb (gh ((fD S c).2.2)) 43])) := by
 have hX := hI.hX
 refine Spec.enter Tryz.func86 rfl Tryz.ntmps86 (Nat.le_of_ble_eq_true rfl) (fun R => ?_)
 refine af.seq ?_
 rcases hI.hand c.handle with cF | ⟨tk, cF, hlv⟩ | ⟨tk, cF, hlv⟩
 ·refine af.region ?_
  refine gK 1 [] [] ?_
  refine NN (af.seq ?_)
  refine af.bF (by kernel_rfl) (by kernel_rfl) ?_
  refine gQ 8 (IQ t c) [(3, a_ 0 f), (7, a_ 6 cb)] ?_
  refine aR.call (f := 136) (args := #[vP t, vI (c.handle)]) (d := (some 18)) (pre := [jN t S L]) (R := (ol f m t S L cb c R)) (pk := [2, 0, 1, 3, 4, 5, 6, 7]) (gM := [1, 2, 0, 3, 4, 5, 6, 7]) (v0 := .tuple #[.nilIface, vI 131]) (fun _ => by kernel_rfl) (nQ t S.X.cH S.ay (aK L S.us) c.handle hC.hw (mW cF)) rfl (by kernel_rfl) rfl (by kernel_rfl) (fun _ _ h => h) ?_
  refine gQ 5 [(5, .nilIface), (6, vI 131)] [] ?_
  refine NQ (NX (af.seq (SR ?_)))
  refine gK 2 [(22, .bool true)] [] ?_
  refine NN ?_
  refine CT ?_
  refine SR ?_
  refine gK 2 [(4, vI 131)] [] ?_
  refine NN (af.ret (aj.ar ?_))
  exact RT (vI 131) [0, 1, 2, 3, 4, 5, 6, 7] (⟨L, by rw [show (fD S c) = (131, S, c) by unfold fD; rw [cF]] <;> exact ⟨rfl, rfl⟩⟩)
 ·have hkt : (obj S.O tk).kind = 1 := hI.kind hlv
  refine af.region ?_
  refine gK 1 [] [] ?_
  refine NN (af.seq ?_)
  refine af.bF (by kernel_rfl) (by kernel_rfl) ?_
  refine gQ 8 (IQ t c) [(3, a_ 0 f), (7, a_ 6 cb)] ?_
  refine aR.call (f := 136) (args := #[vP t, vI (c.handle)]) (d := (some 18)) (pre := [jN t S L]) (R := (ol f m t S L cb c R)) (pk := [2, 0, 1, 3, 4, 5, 6, 7]) (gM := [1, 2, 0, 3, 4, 5, 6, 7]) (v0 := .tuple #[.iface 89 (vP (L.b tk)), vI 0]) (fun _ => by kernel_rfl) (jF t S.X.cH S.ay (aK L S.us) c.handle hC.hw (cG L ⟨tk, 1⟩) (jb cF)) rfl (by kernel_rfl) rfl (by kernel_rfl) (fun _ _ h => h) ?_
  refine gQ 5 (ES L tk) [] ?_
  refine NQ (NX (af.seq (SR ?_)))
  refine gK 2 [(22, .bool false)] [] ?_
  refine NN ?_
  refine CF ?_
  refine af.skip (NX (SR ?_))
  refine gK 7 [(7, vP (L.b tk)), (8, .bool true)] [] ?_
  refine NN (af.seq (SR ?_))
  refine gK 2 [(30, .bool false)] [] ?_
  refine NN ?_
  refine CF ?_
  refine af.skip (NX (SR ?_))
  refine gK 7 [(32, vP cb), (33, vP f), (34, vP (L.b tk)), (38, .slice c.dA (c.data.length) (c.dC))] [(6, a_ 6 cb)] ?_
  refine gL [0, 1, 2, 3, 4, 5] (Ak S L f m t hI tk hlv c.dA c.dC c.data hC.da hC.dl hC.dc) ?_
  rintro _ _ ⟨L2, rfl, rfl⟩
  refine gC 7 [(6, vI ((writeM S tk c.data).2.1))] [(5, a_ 6 cb)] [(6, [(12, vI ((writeM S tk c.data).1))])] ?_
  refine NS ?_
  refine gK 2 [(4, vI ((writeM S tk c.data).2.1))] [] ?_
  refine NN (af.ret ?_)
  exact RT (vI ((writeM S tk c.data).2.1)) [0, 1, 2, 3, 4, 5, 6, 7] (⟨L2, by rw [show (fD S c) = ((writeM S tk c.data).2.1, (writeM S tk c.data).2.2, { c with answer := (writeM S tk c.data).1 }) by unfold fD; rw [cF]; exact if_pos rfl] <;> exact ⟨rfl, rfl⟩⟩)
 have hkt : (obj S.O tk).kind = 2 := hI.kind hlv
 refine af.region ?_
 refine gK 1 [] [] ?_
 refine NN (af.seq ?_)
 refine af.bF (by kernel_rfl) (by kernel_rfl) ?_
 refine gQ 8 (IQ t c) [(3, a_ 0 f), (7, a_ 6 cb)] ?_
 refine aR.call (f := 136) (args := #[vP t, vI (c.handle)]) (d := (some 18)) (pre := [jN t S L]) (R := (ol f m t S L cb c R)) (pk := [2, 0, 1, 3, 4, 5, 6, 7]) (gM := [1, 2, 0, 3, 4, 5, 6, 7]) (v0 := .tuple #[.iface 96 (vP (L.b tk)), vI 0]) (fun _ => by kernel_rfl) (jF t S.X.cH S.ay (aK L S.us) c.handle hC.hw (cG L ⟨tk, 2⟩) (jb cF)) rfl (by kernel_rfl) rfl (by kernel_rfl) (fun _ _ h => h) ?_
 refine gQ 5 (ET L tk) [] ?_
 refine NQ (NX (af.seq (SR ?_)))
 refine gK 2 [(22, .bool false)] [] ?_
 refine NN ?_
 refine CF ?_
 refine af.skip (NX (SR ?_))
 refine gK 7 [(7, .pointer none), (8, .bool false)] [] ?_
 refine NN (af.seq (SR ?_))
 refine gK 2 [(30, .bool true)] [] ?_
 refine NN ?_
 refine CT ?_
 refine SR ?_
 refine gK 1 [(4, vI 172)] [] ?_
 refine NN (af.ret (aj.ar ?_))
 exact RT (vI 172) [0, 1, 2, 3, 4, 5, 6, 7] (⟨L, by rw [show (fD S c) = (172, S, c) by unfold fD; rw [cF]; exact if_neg (by simp)] <;> exact ⟨rfl, rfl⟩⟩)
theorem lF {β : Bs} (S : aI) (L : HL) (hI : Inv S) (cb : Nat) (c : aV) (ot : Option Th) (ht : ot = none ∨ (∃ k, ot = some ⟨k, 1⟩ ∧ Live S.idx ⟨k, 1⟩) ∨ (∃ k, ot = some ⟨k, 2⟩ ∧ Live S.idx ⟨k, 2⟩) ∨ ∃ k, ot = some ⟨k, 3⟩ ∧ Live S.idx ⟨k, 3⟩) :
    Spec Tryz.prog β 137 #[vP cb, (match ot with | none => .nilIface | some th => cG L th)] [pO S.O L, pC cb c] (fun v l => v = .tuple #[] ∧ l = [pO S.O L, .blk cb (gh (lq S.O c ot)) 43]) := by
 refine Spec.enter Tryz.func137 rfl Tryz.ntmps137 (Nat.le_of_ble_eq_true rfl) (fun R => ?_)
 refine af.seq ?_
 rcases ht with rfl | ⟨tk, rfl, hlv⟩ | ⟨tk, rfl, hlv⟩ | ⟨tk, rfl, hlv⟩
 ·refine af.region ?_
  refine gC 21 [] [(8, a_ 1 cb), (11, a_ 1 cb), (14, a_ 1 cb), (17, a_ 1 cb), (20, A_ 1 cb 2)] [(1, (ER))] ?_
  refine NN (af.seq (SR ?_))
  refine gK 2 [(22, .bool true)] [] ?_
  refine NN ?_
  refine CT ?_
  refine af.ret (aj.ar ?_)
  exact RT (.tuple #[]) [0, 1, 2] (⟨rfl, rfl⟩)
 ·have hkt : (obj S.O tk).kind = 1 := hI.kind hlv
  refine af.region ?_
  refine gC 21 [] [(8, a_ 1 cb), (11, a_ 1 cb), (14, a_ 1 cb), (17, a_ 1 cb), (20, A_ 1 cb 2)] [(1, (ER))] ?_
  refine NN (af.seq (SR ?_))
  refine gK 2 [(22, .bool false)] [] ?_
  refine NN ?_
  refine CF ?_
  refine af.skip (NX (SR ?_))
  refine gK 1 [(23, .iface 89 (vP (L.b tk)))] [] ?_
  refine gL [] (cq (L.b tk)) ?_
  rintro _ _ ⟨rfl, rfl⟩
  refine gK 1 [(4, vP (L.b tk))] [] ?_
  refine NN ?_
  refine af.bZ (S := [pO S.O L]) [0, 1, 2, 3, 4, 5, 6, 7, 8, 9, 10, 12, 13, 14, 15, 16, 17, 18, 19, 20, 21, 22, 23, 24, 25, 26, 27, 11, 28, 29, 30, 31, 32, 33, 34, 35, 36, 37, 38, 39, 40, 41, 42, 43, 44, 45] 27 [0] (by kernel_rfl) (by kernel_rfl) rfl (by kernel_rfl) ?_
  refine aJ.reads (r := 0) (l := [11, 28, 29, 30, 31, 32, 33, 34, 35, 36, 37, 38, 39, 40, 41, 42, 43, 44, 45]) (fr' := ([(25, vP cb)] ++ sC cb S tk ++ [(35, .iface 89 (vP (L.b tk)))] ++ kU S tk)) (aq := [(∀ F w, (ak (aQ S.O L)).h F w → w.cell? ⟨(L.b tk), 5, none⟩ = some (vI ((obj S.O tk).nano))), (∀ F w, (ak (aQ S.O L)).h F w → w.cell? ⟨(L.b tk), 4, none⟩ = some (vI ((obj S.O tk).sec))), (∀ F w, (ak (aQ S.O L)).h F w → w.cell? ⟨(L.b tk), 3, none⟩ = some (vI ((obj S.O tk).gid))), (∀ F w, (ak (aQ S.O L)).h F w → w.cell? ⟨(L.b tk), 2, none⟩ = some (vI ((obj S.O tk).uid))), (∀ F w, (ak (aQ S.O L)).h F w → w.cell? ⟨(L.b tk), 1, none⟩ = some (vI ((obj S.O tk).mode))), (∀ F w, (ak (aQ S.O L)).h F w → w.cell? ⟨(L.b tk), 0, none⟩ = some (vI ((obj S.O tk).id)))]) [0, 1, 2, 3, 4, 5, 6, 7, 8, 9, 10, 12, 13, 14, 15, 16, 17, 18, 19, 20, 21, 22, 23, 24, 25, 26, 27] [o_, o_, o_, o_, o_, o_, o_, o_, o_, ⟨[.view 0 (vI ((obj S.O tk).id))], none, none, none, none⟩, o_, o_, o_, o_, ⟨[.view 0 (vI ((obj S.O tk).mode))], none, none, none, none⟩, o_, o_, o_, ⟨[.view 0 (vI ((obj S.O tk).uid))], none, none, none, none⟩, o_, o_, o_, ⟨[.view 0 (vI ((obj S.O tk).gid))], none, none, none, none⟩, o_, o_, o_, ⟨[.view 0 (vI ((obj S.O tk).sec)), .view 0 (vI ((obj S.O tk).nano))], none, none, none, none⟩] [25, 26, 27, 28, 29, 30, 34, 35, 40, 44, 48, 52] (fun _ => by kernel_rfl) ⟨bq (by rw [hkt]; decide) (rfl), bq (by rw [hkt]; decide) (rfl), bq (by rw [hkt]; decide) (rfl), bq (by rw [hkt]; decide) (rfl), bq (by rw [hkt]; decide) (rfl), bq (by rw [hkt]; decide) (rfl), trivial⟩ rfl rfl ?_
  refine mL [0] [] (jH (vP (L.b tk))) ?_ (by rintro _ _ ⟨rfl, rfl⟩; rfl)
  rintro _ _ ⟨rfl, rfl⟩
  refine aJ.cut (ι := Unit) (fr' := fun (_ : Unit) => (sC cb S tk ++ [(36, vI 1)] ++ kU S tk ++ [(53, vP cb)])) (hp' := fun (_ : Unit) => [pO S.O L, DW cb c, .abs R]) [0] rfl rfl ?_ rfl (fun _ => by kernel_rfl) ?_
  ·refine gK 1 [(53, vP cb)] [] ?_
   refine NL ?_
   exact MD () [26, 27, 28, 29, 30, 34, 36, 40, 44, 48, 52, 53] [0, 1, 2]
  rintro _
  refine aJ.cut (ι := Unit) (fr' := fun (_ : Unit) => (sC cb S tk ++ [(36, vI 1)] ++ kU S tk ++ [(54, .pointer (some ⟨cb, 12, none⟩))])) (hp' := fun (_ : Unit) => [pO S.O L, DW cb c, .abs R]) [0] rfl rfl ?_ rfl (fun _ => by kernel_rfl) ?_
  ·refine gK 1 [(54, .pointer (some ⟨cb, 12, none⟩))] [] ?_
   refine NL ?_
   exact MD () [26, 27, 28, 29, 30, 34, 36, 40, 44, 48, 52, 54] [0, 1, 2]
  rintro _
  refine mC [0] [] [(0, a_ 1 cb)] [(1, [(12, vI ((obj S.O tk).id))])] ?_
  refine aJ.cut (ι := Unit) (fr' := fun (_ : Unit) => ([(27, vP cb)] ++ om cb ++ [(36, vI 1)] ++ kU S tk ++ [(55, vP cb)])) (hp' := fun (_ : Unit) => [pO S.O L, DX cb c S tk, .abs R]) [0] rfl rfl ?_ rfl (fun _ => by kernel_rfl) ?_
  ·refine gK 1 [(55, vP cb)] [] ?_
   refine NL ?_
   exact MD () [27, 28, 29, 30, 36, 40, 44, 48, 52, 55] [0, 1, 2]
  rintro _
  refine aJ.cut (ι := Unit) (fr' := fun (_ : Unit) => ([(27, vP cb)] ++ om cb ++ [(36, vI 1)] ++ kU S tk ++ [(56, .pointer (some ⟨cb, 2, none⟩))])) (hp' := fun (_ : Unit) => [pO S.O L, DX cb c S tk, .abs R]) [0] rfl rfl ?_ rfl (fun _ => by kernel_rfl) ?_
  ·refine gK 1 [(56, .pointer (some ⟨cb, 2, none⟩))] [] ?_
   refine NL ?_
   exact MD () [27, 28, 29, 30, 36, 40, 44, 48, 52, 56] [0, 1, 2]
  rintro _
  refine mC [0] [] [(0, a_ 1 cb)] [(1, [(2, vI 1)])] ?_
  refine aJ.cut (ι := Unit) (fr' := fun (_ : Unit) => (om cb ++ kU S tk ++ [(57, vP cb)])) (hp' := fun (_ : Unit) => [pO S.O L, pC cb { c with other := 1, mode := 0, uid := 0, gid := 0, sec := 0, nano := 0, answer := (obj S.O tk).id }, .abs R]) [0] rfl rfl ?_ rfl (fun _ => by kernel_rfl) ?_
  ·refine gK 1 [(57, vP cb)] [] ?_
   refine NL ?_
   exact MD () [28, 29, 30, 40, 44, 48, 52, 57] [0, 1, 2]
  rintro _
  refine aJ.cut (ι := Unit) (fr' := fun (_ : Unit) => (om cb ++ kU S tk ++ [(58, .pointer (some ⟨cb, 6, none⟩))])) (hp' := fun (_ : Unit) => [pO S.O L, pC cb { c with other := 1, mode := 0, uid := 0, gid := 0, sec := 0, nano := 0, answer := (obj S.O tk).id }, .abs R]) [0] rfl rfl ?_ rfl (fun _ => by kernel_rfl) ?_
  ·refine gK 1 [(58, .pointer (some ⟨cb, 6, none⟩))] [] ?_
   refine NL ?_
   exact MD () [28, 29, 30, 40, 44, 48, 52, 58] [0, 1, 2]
  rintro _
  refine mC [0] [] [(0, a_ 1 cb)] [(1, [(6, vI ((obj S.O tk).mode))])] ?_
  refine aJ.cut (ι := Unit) (fr' := fun (_ : Unit) => (zq cb S tk ++ oh S tk ++ [(59, vP cb)])) (hp' := fun (_ : Unit) => [pO S.O L, pC cb { c with other := 1, mode := (obj S.O tk).mode, uid := 0, gid := 0, sec := 0, nano := 0, answer := (obj S.O tk).id }, .abs R]) [0] rfl rfl ?_ rfl (fun _ => by kernel_rfl) ?_
  ·refine gK 1 [(59, vP cb)] [] ?_
   refine NL ?_
   exact MD () [29, 30, 44, 48, 52, 59] [0, 1, 2]
  rintro _
  refine aJ.cut (ι := Unit) (fr' := fun (_ : Unit) => (zq cb S tk ++ oh S tk ++ [(60, .pointer (some ⟨cb, 7, none⟩))])) (hp' := fun (_ : Unit) => [pO S.O L, pC cb { c with other := 1, mode := (obj S.O tk).mode, uid := 0, gid := 0, sec := 0, nano := 0, answer := (obj S.O tk).id }, .abs R]) [0] rfl rfl ?_ rfl (fun _ => by kernel_rfl) ?_
  ·refine gK 1 [(60, .pointer (some ⟨cb, 7, none⟩))] [] ?_
   refine NL ?_
   exact MD () [29, 30, 44, 48, 52, 60] [0, 1, 2]
  rintro _
  refine mC [0] [] [(0, a_ 1 cb)] [(1, [(7, vI ((obj S.O tk).uid))])] ?_
  refine aJ.cut (ι := Unit) (fr' := fun (_ : Unit) => ([(30, vP cb)] ++ oh S tk ++ [(61, vP cb)])) (hp' := fun (_ : Unit) => [pO S.O L, NH cb c S tk, .abs R]) [0] rfl rfl ?_ rfl (fun _ => by kernel_rfl) ?_
  ·refine gK 1 [(61, vP cb)] [] ?_
   refine NL ?_
   exact MD () [30, 48, 52, 61] [0, 1, 2]
  rintro _
  refine aJ.cut (ι := Unit) (fr' := fun (_ : Unit) => ([(30, vP cb)] ++ oh S tk ++ [(62, .pointer (some ⟨cb, 8, none⟩))])) (hp' := fun (_ : Unit) => [pO S.O L, NH cb c S tk, .abs R]) [0] rfl rfl ?_ rfl (fun _ => by kernel_rfl) ?_
  ·refine gK 1 [(62, .pointer (some ⟨cb, 8, none⟩))] [] ?_
   refine NL ?_
   exact MD () [30, 48, 52, 62] [0, 1, 2]
  rintro _
  refine mC [0] [] [(0, a_ 1 cb)] [(1, [(8, vI ((obj S.O tk).gid))])] ?_
  refine aJ.cut (ι := Unit) (fr' := fun (_ : Unit) => [(52, .agg #[vI ((obj S.O tk).sec), vI ((obj S.O tk).nano)]), (63, vP cb)]) (hp' := fun (_ : Unit) => [pO S.O L, NI cb c S tk, .abs R]) [0] rfl rfl ?_ rfl (fun _ => by kernel_rfl) ?_
  ·refine gK 1 [(63, vP cb)] [] ?_
   refine NL ?_
   exact MD () [52, 63] [0, 1, 2]
  rintro _
  refine aJ.cut (ι := Unit) (fr' := fun (_ : Unit) => (IL S tk cb)) (hp' := fun (_ : Unit) => [pO S.O L, NI cb c S tk, .abs R]) [0] rfl rfl ?_ rfl (fun _ => by kernel_rfl) ?_
  ·refine gK 1 [(64, .pointer (some ⟨cb, 9, none⟩))] [] ?_
   refine NL ?_
   exact MD () [52, 64] [0, 1, 2]
  rintro _
  refine aJ.last rfl rfl ?_
  refine gC 1 [] [(0, A_ 1 cb 2)] [(1, (IV S tk))] ?_
  refine NL (aj.np ?_)
  exact RF (.tuple #[]) [0, 1, 2] (⟨rfl, rfl⟩)
 ·have hkt : (obj S.O tk).kind = 2 := hI.kind hlv
  refine af.region ?_
  refine gC 21 [] [(8, a_ 1 cb), (11, a_ 1 cb), (14, a_ 1 cb), (17, a_ 1 cb), (20, A_ 1 cb 2)] [(1, (ER))] ?_
  refine NN (af.seq (SR ?_))
  refine gK 2 [(22, .bool false)] [] ?_
  refine NN ?_
  refine CF ?_
  refine af.skip (NX (SR ?_))
  refine gK 1 [(23, .iface 96 (vP (L.b tk)))] [] ?_
  refine gL [] (cq (L.b tk)) ?_
  rintro _ _ ⟨rfl, rfl⟩
  refine gK 1 [(4, vP (L.b tk))] [] ?_
  refine NN ?_
  refine af.bZ (S := [pO S.O L]) [0, 1, 2, 3, 4, 5, 6, 7, 8, 9, 10, 12, 13, 14, 15, 16, 17, 18, 19, 20, 21, 22, 23, 24, 25, 26, 27, 11, 28, 29, 30, 31, 32, 33, 34, 35, 36, 37, 38, 39, 40, 41, 42, 43, 44, 45] 27 [0] (by kernel_rfl) (by kernel_rfl) rfl (by kernel_rfl) ?_
  refine aJ.reads (r := 0) (l := [11, 28, 29, 30, 31, 32, 33, 34, 35, 36, 37, 38, 39, 40, 41, 42, 43, 44, 45]) (fr' := ([(25, vP cb)] ++ sC cb S tk ++ [(35, .iface 96 (vP (L.b tk)))] ++ kU S tk)) (aq := [(∀ F w, (ak (aQ S.O L)).h F w → w.cell? ⟨(L.b tk), 5, none⟩ = some (vI ((obj S.O tk).nano))), (∀ F w, (ak (aQ S.O L)).h F w → w.cell? ⟨(L.b tk), 4, none⟩ = some (vI ((obj S.O tk).sec))), (∀ F w, (ak (aQ S.O L)).h F w → w.cell? ⟨(L.b tk), 3, none⟩ = some (vI ((obj S.O tk).gid))), (∀ F w, (ak (aQ S.O L)).h F w → w.cell? ⟨(L.b tk), 2, none⟩ = some (vI ((obj S.O tk).uid))), (∀ F w, (ak (aQ S.O L)).h F w → w.cell? ⟨(L.b tk), 1, none⟩ = some (vI ((obj S.O tk).mode))), (∀ F w, (ak (aQ S.O L)).h F w → w.cell? ⟨(L.b tk), 0, none⟩ = some (vI ((obj S.O tk).id)))]) [0, 1, 2, 3, 4, 5, 6, 7, 8, 9, 10, 12, 13, 14, 15, 16, 17, 18, 19, 20, 21, 22, 23, 24, 25, 26, 27] [o_, o_, o_, o_, o_, o_, o_, o_, o_, ⟨[.view 0 (vI ((obj S.O tk).id))], none, none, none, none⟩, o_, o_, o_, o_, ⟨[.view 0 (vI ((obj S.O tk).mode))], none, none, none, none⟩, o_, o_, o_, ⟨[.view 0 (vI ((obj S.O tk).uid))], none, none, none, none⟩, o_, o_, o_, ⟨[.view 0 (vI ((obj S.O tk).gid))], none, none, none, none⟩, o_, o_, o_, ⟨[.view 0 (vI ((obj S.O tk).sec)), .view 0 (vI ((obj S.O tk).nano))], none, none, none, none⟩] [25, 26, 27, 28, 29, 30, 34, 35, 40, 44, 48, 52] (fun _ => by kernel_rfl) ⟨bq (by rw [hkt]; decide) (rfl), bq (by rw [hkt]; decide) (rfl), bq (by rw [hkt]; decide) (rfl), bq (by rw [hkt]; decide) (rfl), bq (by rw [hkt]; decide) (rfl), bq (by rw [hkt]; decide) (rfl), trivial⟩ rfl rfl ?_
  refine mL [0] [] (jI (vP (L.b tk))) ?_ (by rintro _ _ ⟨rfl, rfl⟩; rfl)
  rintro _ _ ⟨rfl, rfl⟩
  refine aJ.cut (ι := Unit) (fr' := fun (_ : Unit) => (sC cb S tk ++ [(36, vI 2)] ++ kU S tk ++ [(53, vP cb)])) (hp' := fun (_ : Unit) => [pO S.O L, DW cb c, .abs R]) [0] rfl rfl ?_ rfl (fun _ => by kernel_rfl) ?_
  ·refine gK 1 [(53, vP cb)] [] ?_
   refine NL ?_
   exact MD () [26, 27, 28, 29, 30, 34, 36, 40, 44, 48, 52, 53] [0, 1, 2]
  rintro _
  refine aJ.cut (ι := Unit) (fr' := fun (_ : Unit) => (sC cb S tk ++ [(36, vI 2)] ++ kU S tk ++ [(54, .pointer (some ⟨cb, 12, none⟩))])) (hp' := fun (_ : Unit) => [pO S.O L, DW cb c, .abs R]) [0] rfl rfl ?_ rfl (fun _ => by kernel_rfl) ?_
  ·refine gK 1 [(54, .pointer (some ⟨cb, 12, none⟩))] [] ?_
   refine NL ?_
   exact MD () [26, 27, 28, 29, 30, 34, 36, 40, 44, 48, 52, 54] [0, 1, 2]
  rintro _
  refine mC [0] [] [(0, a_ 1 cb)] [(1, [(12, vI ((obj S.O tk).id))])] ?_
  refine aJ.cut (ι := Unit) (fr' := fun (_ : Unit) => ([(27, vP cb)] ++ om cb ++ [(36, vI 2)] ++ kU S tk ++ [(55, vP cb)])) (hp' := fun (_ : Unit) => [pO S.O L, DX cb c S tk, .abs R]) [0] rfl rfl ?_ rfl (fun _ => by kernel_rfl) ?_
  ·refine gK 1 [(55, vP cb)] [] ?_
   refine NL ?_
   exact MD () [27, 28, 29, 30, 36, 40, 44, 48, 52, 55] [0, 1, 2]
  rintro _
  refine aJ.cut (ι := Unit) (fr' := fun (_ : Unit) => ([(27, vP cb)] ++ om cb ++ [(36, vI 2)] ++ kU S tk ++ [(56, .pointer (some ⟨cb, 2, none⟩))])) (hp' := fun (_ : Unit) => [pO S.O L, DX cb c S tk, .abs R]) [0] rfl rfl ?_ rfl (fun _ => by kernel_rfl) ?_
  ·refine gK 1 [(56, .pointer (some ⟨cb, 2, none⟩))] [] ?_
   refine NL ?_
   exact MD () [27, 28, 29, 30, 36, 40, 44, 48, 52, 56] [0, 1, 2]
  rintro _
  refine mC [0] [] [(0, a_ 1 cb)] [(1, [(2, vI 2)])] ?_
  refine aJ.cut (ι := Unit) (fr' := fun (_ : Unit) => (om cb ++ kU S tk ++ [(57, vP cb)])) (hp' := fun (_ : Unit) => [pO S.O L, pC cb { c with other := 2, mode := 0, uid := 0, gid := 0, sec := 0, nano := 0, answer := (obj S.O tk).id }, .abs R]) [0] rfl rfl ?_ rfl (fun _ => by kernel_rfl) ?_
  ·refine gK 1 [(57, vP cb)] [] ?_
   refine NL ?_
   exact MD () [28, 29, 30, 40, 44, 48, 52, 57] [0, 1, 2]
  rintro _
  refine aJ.cut (ι := Unit) (fr' := fun (_ : Unit) => (om cb ++ kU S tk ++ [(58, .pointer (some ⟨cb, 6, none⟩))])) (hp' := fun (_ : Unit) => [pO S.O L, pC cb { c with other := 2, mode := 0, uid := 0, gid := 0, sec := 0, nano := 0, answer := (obj S.O tk).id }, .abs R]) [0] rfl rfl ?_ rfl (fun _ => by kernel_rfl) ?_
  ·refine gK 1 [(58, .pointer (some ⟨cb, 6, none⟩))] [] ?_
   refine NL ?_
   exact MD () [28, 29, 30, 40, 44, 48, 52, 58] [0, 1, 2]
  rintro _
  refine mC [0] [] [(0, a_ 1 cb)] [(1, [(6, vI ((obj S.O tk).mode))])] ?_
  refine aJ.cut (ι := Unit) (fr' := fun (_ : Unit) => (zq cb S tk ++ oh S tk ++ [(59, vP cb)])) (hp' := fun (_ : Unit) => [pO S.O L, pC cb { c with other := 2, mode := (obj S.O tk).mode, uid := 0, gid := 0, sec := 0, nano := 0, answer := (obj S.O tk).id }, .abs R]) [0] rfl rfl ?_ rfl (fun _ => by kernel_rfl) ?_
  ·refine gK 1 [(59, vP cb)] [] ?_
   refine NL ?_
   exact MD () [29, 30, 44, 48, 52, 59] [0, 1, 2]
  rintro _
  refine aJ.cut (ι := Unit) (fr' := fun (_ : Unit) => (zq cb S tk ++ oh S tk ++ [(60, .pointer (some ⟨cb, 7, none⟩))])) (hp' := fun (_ : Unit) => [pO S.O L, pC cb { c with other := 2, mode := (obj S.O tk).mode, uid := 0, gid := 0, sec := 0, nano := 0, answer := (obj S.O tk).id }, .abs R]) [0] rfl rfl ?_ rfl (fun _ => by kernel_rfl) ?_
  ·refine gK 1 [(60, .pointer (some ⟨cb, 7, none⟩))] [] ?_
   refine NL ?_
   exact MD () [29, 30, 44, 48, 52, 60] [0, 1, 2]
  rintro _
  refine mC [0] [] [(0, a_ 1 cb)] [(1, [(7, vI ((obj S.O tk).uid))])] ?_
  refine aJ.cut (ι := Unit) (fr' := fun (_ : Unit) => ([(30, vP cb)] ++ oh S tk ++ [(61, vP cb)])) (hp' := fun (_ : Unit) => [pO S.O L, NJ cb c S tk, .abs R]) [0] rfl rfl ?_ rfl (fun _ => by kernel_rfl) ?_
  ·refine gK 1 [(61, vP cb)] [] ?_
   refine NL ?_
   exact MD () [30, 48, 52, 61] [0, 1, 2]
  rintro _
  refine aJ.cut (ι := Unit) (fr' := fun (_ : Unit) => ([(30, vP cb)] ++ oh S tk ++ [(62, .pointer (some ⟨cb, 8, none⟩))])) (hp' := fun (_ : Unit) => [pO S.O L, NJ cb c S tk, .abs R]) [0] rfl rfl ?_ rfl (fun _ => by kernel_rfl) ?_
  ·refine gK 1 [(62, .pointer (some ⟨cb, 8, none⟩))] [] ?_
   refine NL ?_
   exact MD () [30, 48, 52, 62] [0, 1, 2]
  rintro _
  refine mC [0] [] [(0, a_ 1 cb)] [(1, [(8, vI ((obj S.O tk).gid))])] ?_
  refine aJ.cut (ι := Unit) (fr' := fun (_ : Unit) => [(52, .agg #[vI ((obj S.O tk).sec), vI ((obj S.O tk).nano)]), (63, vP cb)]) (hp' := fun (_ : Unit) => [pO S.O L, NK cb c S tk, .abs R]) [0] rfl rfl ?_ rfl (fun _ => by kernel_rfl) ?_
  ·refine gK 1 [(63, vP cb)] [] ?_
   refine NL ?_
   exact MD () [52, 63] [0, 1, 2]
  rintro _
  refine aJ.cut (ι := Unit) (fr' := fun (_ : Unit) => (IL S tk cb)) (hp' := fun (_ : Unit) => [pO S.O L, NK cb c S tk, .abs R]) [0] rfl rfl ?_ rfl (fun _ => by kernel_rfl) ?_
  ·refine gK 1 [(64, .pointer (some ⟨cb, 9, none⟩))] [] ?_
   refine NL ?_
   exact MD () [52, 64] [0, 1, 2]
  rintro _
  refine aJ.last rfl rfl ?_
  refine gC 1 [] [(0, A_ 1 cb 2)] [(1, (IV S tk))] ?_
  refine NL (aj.np ?_)
  exact RF (.tuple #[]) [0, 1, 2] (⟨rfl, rfl⟩)
 have hkt : (obj S.O tk).kind = 3 := hI.kind hlv
 refine af.region ?_
 refine gC 21 [] [(8, a_ 1 cb), (11, a_ 1 cb), (14, a_ 1 cb), (17, a_ 1 cb), (20, A_ 1 cb 2)] [(1, (ER))] ?_
 refine NN (af.seq (SR ?_))
 refine gK 2 [(22, .bool false)] [] ?_
 refine NN ?_
 refine CF ?_
 refine af.skip (NX (SR ?_))
 refine gK 1 [(23, .iface 93 (vP (L.b tk)))] [] ?_
 refine gL [] (cq (L.b tk)) ?_
 rintro _ _ ⟨rfl, rfl⟩
 refine gK 1 [(4, vP (L.b tk))] [] ?_
 refine NN ?_
 refine af.bZ (S := [pO S.O L]) [0, 1, 2, 3, 4, 5, 6, 7, 8, 9, 10, 12, 13, 14, 15, 16, 17, 18, 19, 20, 21, 22, 23, 24, 25, 26, 27, 11, 28, 29, 30, 31, 32, 33, 34, 35, 36, 37, 38, 39, 40, 41, 42, 43, 44, 45] 27 [0] (by kernel_rfl) (by kernel_rfl) rfl (by kernel_rfl) ?_
 refine aJ.reads (r := 0) (l := [11, 28, 29, 30, 31, 32, 33, 34, 35, 36, 37, 38, 39, 40, 41, 42, 43, 44, 45]) (fr' := ([(25, vP cb)] ++ sC cb S tk ++ [(35, .iface 93 (vP (L.b tk)))] ++ kU S tk)) (aq := [(∀ F w, (ak (aQ S.O L)).h F w → w.cell? ⟨(L.b tk), 5, none⟩ = some (vI ((obj S.O tk).nano))), (∀ F w, (ak (aQ S.O L)).h F w → w.cell? ⟨(L.b tk), 4, none⟩ = some (vI ((obj S.O tk).sec))), (∀ F w, (ak (aQ S.O L)).h F w → w.cell? ⟨(L.b tk), 3, none⟩ = some (vI ((obj S.O tk).gid))), (∀ F w, (ak (aQ S.O L)).h F w → w.cell? ⟨(L.b tk), 2, none⟩ = some (vI ((obj S.O tk).uid))), (∀ F w, (ak (aQ S.O L)).h F w → w.cell? ⟨(L.b tk), 1, none⟩ = some (vI ((obj S.O tk).mode))), (∀ F w, (ak (aQ S.O L)).h F w → w.cell? ⟨(L.b tk), 0, none⟩ = some (vI ((obj S.O tk).id)))]) [0, 1, 2, 3, 4, 5, 6, 7, 8, 9, 10, 12, 13, 14, 15, 16, 17, 18, 19, 20, 21, 22, 23, 24, 25, 26, 27] [o_, o_, o_, o_, o_, o_, o_, o_, o_, ⟨[.view 0 (vI ((obj S.O tk).id))], none, none, none, none⟩, o_, o_, o_, o_, ⟨[.view 0 (vI ((obj S.O tk).mode))], none, none, none, none⟩, o_, o_, o_, ⟨[.view 0 (vI ((obj S.O tk).uid))], none, none, none, none⟩, o_, o_, o_, ⟨[.view 0 (vI ((obj S.O tk).gid))], none, none, none, none⟩, o_, o_, o_, ⟨[.view 0 (vI ((obj S.O tk).sec)), .view 0 (vI ((obj S.O tk).nano))], none, none, none, none⟩] [25, 26, 27, 28, 29, 30, 34, 35, 40, 44, 48, 52] (fun _ => by kernel_rfl) ⟨bq (by rw [hkt]; decide) (rfl), bq (by rw [hkt]; decide) (rfl), bq (by rw [hkt]; decide) (rfl), bq (by rw [hkt]; decide) (rfl), bq (by rw [hkt]; decide) (rfl), bq (by rw [hkt]; decide) (rfl), trivial⟩ rfl rfl ?_
 refine mL [0] [] (kr (vP (L.b tk))) ?_ (by rintro _ _ ⟨rfl, rfl⟩; rfl)
 rintro _ _ ⟨rfl, rfl⟩
 refine aJ.cut (ι := Unit) (fr' := fun (_ : Unit) => (sC cb S tk ++ [(36, vI 3)] ++ kU S tk ++ [(53, vP cb)])) (hp' := fun (_ : Unit) => [pO S.O L, DW cb c, .abs R]) [0] rfl rfl ?_ rfl (fun _ => by kernel_rfl) ?_
 ·refine gK 1 [(53, vP cb)] [] ?_
  refine NL ?_
  exact MD () [26, 27, 28, 29, 30, 34, 36, 40, 44, 48, 52, 53] [0, 1, 2]
 rintro _
 refine aJ.cut (ι := Unit) (fr' := fun (_ : Unit) => (sC cb S tk ++ [(36, vI 3)] ++ kU S tk ++ [(54, .pointer (some ⟨cb, 12, none⟩))])) (hp' := fun (_ : Unit) => [pO S.O L, DW cb c, .abs R]) [0] rfl rfl ?_ rfl (fun _ => by kernel_rfl) ?_
 ·refine gK 1 [(54, .pointer (some ⟨cb, 12, none⟩))] [] ?_
  refine NL ?_
  exact MD () [26, 27, 28, 29, 30, 34, 36, 40, 44, 48, 52, 54] [0, 1, 2]
 rintro _
 refine mC [0] [] [(0, a_ 1 cb)] [(1, [(12, vI ((obj S.O tk).id))])] ?_
 refine aJ.cut (ι := Unit) (fr' := fun (_ : Unit) => ([(27, vP cb)] ++ om cb ++ [(36, vI 3)] ++ kU S tk ++ [(55, vP cb)])) (hp' := fun (_ : Unit) => [pO S.O L, DX cb c S tk, .abs R]) [0] rfl rfl ?_ rfl (fun _ => by kernel_rfl) ?_
 ·refine gK 1 [(55, vP cb)] [] ?_
  refine NL ?_
  exact MD () [27, 28, 29, 30, 36, 40, 44, 48, 52, 55] [0, 1, 2]
 rintro _
 refine aJ.cut (ι := Unit) (fr' := fun (_ : Unit) => ([(27, vP cb)] ++ om cb ++ [(36, vI 3)] ++ kU S tk ++ [(56, .pointer (some ⟨cb, 2, none⟩))])) (hp' := fun (_ : Unit) => [pO S.O L, DX cb c S tk, .abs R]) [0] rfl rfl ?_ rfl (fun _ => by kernel_rfl) ?_
 ·refine gK 1 [(56, .pointer (some ⟨cb, 2, none⟩))] [] ?_
  refine NL ?_
  exact MD () [27, 28, 29, 30, 36, 40, 44, 48, 52, 56] [0, 1, 2]
 rintro _
 refine mC [0] [] [(0, a_ 1 cb)] [(1, [(2, vI 3)])] ?_
 refine aJ.cut (ι := Unit) (fr' := fun (_ : Unit) => (om cb ++ kU S tk ++ [(57, vP cb)])) (hp' := fun (_ : Unit) => [pO S.O L, pC cb { c with other := 3, mode := 0, uid := 0, gid := 0, sec := 0, nano := 0, answer := (obj S.O tk).id }, .abs R]) [0] rfl rfl ?_ rfl (fun _ => by kernel_rfl) ?_
 ·refine gK 1 [(57, vP cb)] [] ?_
  refine NL ?_
  exact MD () [28, 29, 30, 40, 44, 48, 52, 57] [0, 1, 2]
 rintro _
 refine aJ.cut (ι := Unit) (fr' := fun (_ : Unit) => (om cb ++ kU S tk ++ [(58, .pointer (some ⟨cb, 6, none⟩))])) (hp' := fun (_ : Unit) => [pO S.O L, pC cb { c with other := 3, mode := 0, uid := 0, gid := 0, sec := 0, nano := 0, answer := (obj S.O tk).id }, .abs R]) [0] rfl rfl ?_ rfl (fun _ => by kernel_rfl) ?_
 ·refine gK 1 [(58, .pointer (some ⟨cb, 6, none⟩))] [] ?_
  refine NL ?_
  exact MD () [28, 29, 30, 40, 44, 48, 52, 58] [0, 1, 2]
 rintro _
 refine mC [0] [] [(0, a_ 1 cb)] [(1, [(6, vI ((obj S.O tk).mode))])] ?_
 refine aJ.cut (ι := Unit) (fr' := fun (_ : Unit) => (zq cb S tk ++ oh S tk ++ [(59, vP cb)])) (hp' := fun (_ : Unit) => [pO S.O L, pC cb { c with other := 3, mode := (obj S.O tk).mode, uid := 0, gid := 0, sec := 0, nano := 0, answer := (obj S.O tk).id }, .abs R]) [0] rfl rfl ?_ rfl (fun _ => by kernel_rfl) ?_
 ·refine gK 1 [(59, vP cb)] [] ?_
  refine NL ?_
  exact MD () [29, 30, 44, 48, 52, 59] [0, 1, 2]
 rintro _
 refine aJ.cut (ι := Unit) (fr' := fun (_ : Unit) => (zq cb S tk ++ oh S tk ++ [(60, .pointer (some ⟨cb, 7, none⟩))])) (hp' := fun (_ : Unit) => [pO S.O L, pC cb { c with other := 3, mode := (obj S.O tk).mode, uid := 0, gid := 0, sec := 0, nano := 0, answer := (obj S.O tk).id }, .abs R]) [0] rfl rfl ?_ rfl (fun _ => by kernel_rfl) ?_
 ·refine gK 1 [(60, .pointer (some ⟨cb, 7, none⟩))] [] ?_
  refine NL ?_
  exact MD () [29, 30, 44, 48, 52, 60] [0, 1, 2]
 rintro _
 refine mC [0] [] [(0, a_ 1 cb)] [(1, [(7, vI ((obj S.O tk).uid))])] ?_
 refine aJ.cut (ι := Unit) (fr' := fun (_ : Unit) => ([(30, vP cb)] ++ oh S tk ++ [(61, vP cb)])) (hp' := fun (_ : Unit) => [pO S.O L, NM cb c S tk, .abs R]) [0] rfl rfl ?_ rfl (fun _ => by kernel_rfl) ?_
 ·refine gK 1 [(61, vP cb)] [] ?_
  refine NL ?_
  exact MD () [30, 48, 52, 61] [0, 1, 2]
 rintro _
 refine aJ.cut (ι := Unit) (fr' := fun (_ : Unit) => ([(30, vP cb)] ++ oh S tk ++ [(62, .pointer (some ⟨cb, 8, none⟩))])) (hp' := fun (_ : Unit) => [pO S.O L, NM cb c S tk, .abs R]) [0] rfl rfl ?_ rfl (fun _ => by kernel_rfl) ?_
 ·refine gK 1 [(62, .pointer (some ⟨cb, 8, none⟩))] [] ?_
  refine NL ?_
  exact MD () [30, 48, 52, 62] [0, 1, 2]
 rintro _
 refine mC [0] [] [(0, a_ 1 cb)] [(1, [(8, vI ((obj S.O tk).gid))])] ?_
 refine aJ.cut (ι := Unit) (fr' := fun (_ : Unit) => [(52, .agg #[vI ((obj S.O tk).sec), vI ((obj S.O tk).nano)]), (63, vP cb)]) (hp' := fun (_ : Unit) => [pO S.O L, NR cb c S tk, .abs R]) [0] rfl rfl ?_ rfl (fun _ => by kernel_rfl) ?_
 ·refine gK 1 [(63, vP cb)] [] ?_
  refine NL ?_
  exact MD () [52, 63] [0, 1, 2]
 rintro _
 refine aJ.cut (ι := Unit) (fr' := fun (_ : Unit) => (IL S tk cb)) (hp' := fun (_ : Unit) => [pO S.O L, NR cb c S tk, .abs R]) [0] rfl rfl ?_ rfl (fun _ => by kernel_rfl) ?_
 ·refine gK 1 [(64, .pointer (some ⟨cb, 9, none⟩))] [] ?_
  refine NL ?_
  exact MD () [52, 64] [0, 1, 2]
 rintro _
 refine aJ.last rfl rfl ?_
 refine gC 1 [] [(0, A_ 1 cb 2)] [(1, (IV S tk))] ?_
 refine NL (aj.np ?_)
 exact RF (.tuple #[]) [0, 1, 2] (⟨rfl, rfl⟩)
theorem EV {β : Bs} (S : aI) (L : HL) (f m t : Nat) (hI : Inv S) (cb : Nat) (c : aV) (hC : fJ β c) :
    Spec Tryz.prog β 88 #[vP f, vP cb] ((pA f m t L S) ++ [pC cb c]) (fun v l => ∃ L2, v = vI (jG S c).1 ∧ l = ((pA f m t L2 ((jG S c).2.1)) ++ [.blk cb (gh ((jG S c).2.2)) 43])) := by
 have hX := hI.hX
 refine Spec.enter Tryz.func88 rfl Tryz.ntmps88 (Nat.le_of_ble_eq_true rfl) (fun R => ?_)
 refine af.seq ?_
 rcases hI.hand c.handle with cF | ⟨tk, cF, hlv⟩ | ⟨tk, cF, hlv⟩
 ·refine af.region ?_
  refine gK 1 [] [] ?_
  refine NN (af.seq ?_)
  refine af.bF (by kernel_rfl) (by kernel_rfl) ?_
  refine gQ 8 (IU t c) [(3, a_ 0 f), (7, a_ 6 cb)] ?_
  refine aR.call (f := 136) (args := #[vP t, vI (c.handle)]) (d := (some 16)) (pre := [jN t S L]) (R := (ol f m t S L cb c R)) (pk := [2, 0, 1, 3, 4, 5, 6, 7]) (gM := [1, 2, 0, 3, 4, 5, 6, 7]) (v0 := .tuple #[.nilIface, vI 131]) (fun _ => by kernel_rfl) (nQ t S.X.cH S.ay (aK L S.us) c.handle hC.hw (mW cF)) rfl (by kernel_rfl) rfl (by kernel_rfl) (fun _ _ h => h) ?_
  refine gQ 5 [(5, .nilIface), (6, vI 131)] [] ?_
  refine NQ (NX (SR ?_))
  refine gK 2 [(19, vP cb), (20, .nilIface)] [] ?_
  refine gL [3, 6] (lF S L hI cb c none (.inl rfl)) ?_
  rintro _ _ ⟨rfl, rfl⟩
  refine NS ?_
  refine gK 2 [(4, vI 131)] [] ?_
  refine NN (af.ret ?_)
  exact RT (vI 131) [2, 3, 4, 0, 5, 6, 1, 7] (⟨L, by rw [show (jG S c) = (131, S, lq S.O c none) by unfold jG; rw [cF]] <;> exact ⟨rfl, rfl⟩⟩)
 ·have hkt : (obj S.O tk).kind = 1 := hI.kind hlv
  refine af.region ?_
  refine gK 1 [] [] ?_
  refine NN (af.seq ?_)
  refine af.bF (by kernel_rfl) (by kernel_rfl) ?_
  refine gQ 8 (IU t c) [(3, a_ 0 f), (7, a_ 6 cb)] ?_
  refine aR.call (f := 136) (args := #[vP t, vI (c.handle)]) (d := (some 16)) (pre := [jN t S L]) (R := (ol f m t S L cb c R)) (pk := [2, 0, 1, 3, 4, 5, 6, 7]) (gM := [1, 2, 0, 3, 4, 5, 6, 7]) (v0 := .tuple #[.iface 89 (vP (L.b tk)), vI 0]) (fun _ => by kernel_rfl) (jF t S.X.cH S.ay (aK L S.us) c.handle hC.hw (cG L ⟨tk, 1⟩) (jb cF)) rfl (by kernel_rfl) rfl (by kernel_rfl) (fun _ _ h => h) ?_
  refine gQ 5 (ES L tk) [] ?_
  refine NQ (NX (SR ?_))
  refine gK 2 [(19, vP cb), (20, .iface 89 (vP (L.b tk)))] [] ?_
  refine gL [3, 6] (lF S L hI cb c (some ⟨tk, 1⟩) (.inr (.inl ⟨tk, rfl, hlv⟩))) ?_
  rintro _ _ ⟨rfl, rfl⟩
  refine NS ?_
  refine gK 2 [(4, vI 0)] [] ?_
  refine NN (af.ret ?_)
  exact RT (vI 0) [2, 3, 4, 0, 5, 6, 1, 7] (⟨L, by rw [show (jG S c) = (0, S, lq S.O c (some ⟨tk, 1⟩)) by unfold jG; rw [cF]] <;> exact ⟨rfl, rfl⟩⟩)
 have hkt : (obj S.O tk).kind = 2 := hI.kind hlv
 refine af.region ?_
 refine gK 1 [] [] ?_
 refine NN (af.seq ?_)
 refine af.bF (by kernel_rfl) (by kernel_rfl) ?_
 refine gQ 8 (IU t c) [(3, a_ 0 f), (7, a_ 6 cb)] ?_
 refine aR.call (f := 136) (args := #[vP t, vI (c.handle)]) (d := (some 16)) (pre := [jN t S L]) (R := (ol f m t S L cb c R)) (pk := [2, 0, 1, 3, 4, 5, 6, 7]) (gM := [1, 2, 0, 3, 4, 5, 6, 7]) (v0 := .tuple #[.iface 96 (vP (L.b tk)), vI 0]) (fun _ => by kernel_rfl) (jF t S.X.cH S.ay (aK L S.us) c.handle hC.hw (cG L ⟨tk, 2⟩) (jb cF)) rfl (by kernel_rfl) rfl (by kernel_rfl) (fun _ _ h => h) ?_
 refine gQ 5 (ET L tk) [] ?_
 refine NQ (NX (SR ?_))
 refine gK 2 [(19, vP cb), (20, .iface 96 (vP (L.b tk)))] [] ?_
 refine gL [3, 6] (lF S L hI cb c (some ⟨tk, 2⟩) (.inr (.inr (.inl ⟨tk, rfl, hlv⟩)))) ?_
 rintro _ _ ⟨rfl, rfl⟩
 refine NS ?_
 refine gK 2 [(4, vI 0)] [] ?_
 refine NN (af.ret ?_)
 exact RT (vI 0) [2, 3, 4, 0, 5, 6, 1, 7] (⟨L, by rw [show (jG S c) = (0, S, lq S.O c (some ⟨tk, 2⟩)) by unfold jG; rw [cF]] <;> exact ⟨rfl, rfl⟩⟩)
theorem CB {β : Bs} (S : aI) (L : HL) (f m t : Nat) (hI : Inv S) (cb : Nat) (c : aV) (hC : fJ β c) :
    Spec Tryz.prog β 89 #[vP f, vP cb] ((pA f m t L S) ++ [pC cb c]) (fun v l => ∃ L2, v = vI (fH S c).1 ∧ l = ((pA f m t L2 ((fH S c).2.1)) ++ [.blk cb (gh ((fH S c).2.2)) 43])) := by
 have hX := hI.hX
 refine Spec.enter Tryz.func89 rfl Tryz.ntmps89 (Nat.le_of_ble_eq_true rfl) (fun R => ?_)
 refine SR ?_
 refine gK 1 [] [] ?_
 refine NS ?_
 refine gK 2 [(8, vP f), (9, vP cb)] [] ?_
 rcases xI hI.toInv0 c with ⟨e, hnm, hne⟩ | ⟨tk, hnm, hlv⟩ | ⟨tk, hnm, hlv⟩ | ⟨tk, hnm, hlv⟩
 ·refine gL (f := 133) (args := #[vP f, vP cb]) (pre := ((pA f m t L S) ++ [pC cb c])) [0, 1, 2, 3, 4, 5, 6] ((by have h := fW S L f m t hI cb c hC (β := β); rw [hnm] at h; exact h)) ?_
  rintro _ _ ⟨rfl, rfl⟩
  refine gK 5 [(5, .nilIface), (6, vI (e))] [] ?_
  refine NS ?_
  refine gK 2 [(13, vP cb), (14, .nilIface)] [] ?_
  refine gL [3, 6] (lF S L hI cb c none (.inl rfl)) ?_
  rintro _ _ ⟨rfl, rfl⟩
  refine NS ?_
  refine gK 2 [(4, vI (e))] [] ?_
  refine NN (af.ret ?_)
  exact RT (vI (e)) [2, 3, 4, 0, 5, 6, 1, 7] (⟨L, by rw [show (fH S c) = (e, S, lq S.O c none) by unfold fH; rw [hnm]] <;> exact ⟨rfl, rfl⟩⟩)
 ·have hkt : (obj S.O tk).kind = 1 := hI.kind hlv
  refine gL (f := 133) (args := #[vP f, vP cb]) (pre := ((pA f m t L S) ++ [pC cb c])) [0, 1, 2, 3, 4, 5, 6] ((by have h := fW S L f m t hI cb c hC (β := β); rw [hnm] at h; exact h)) ?_
  rintro _ _ ⟨rfl, rfl⟩
  refine gK 5 (ES L tk) [] ?_
  refine NS ?_
  refine gK 2 [(13, vP cb), (14, .iface 89 (vP (L.b tk)))] [] ?_
  refine gL [3, 6] (lF S L hI cb c (some ⟨tk, 1⟩) (.inr (.inl ⟨tk, rfl, hlv⟩))) ?_
  rintro _ _ ⟨rfl, rfl⟩
  refine NS ?_
  refine gK 2 [(4, vI 0)] [] ?_
  refine NN (af.ret ?_)
  exact RT (vI 0) [2, 3, 4, 0, 5, 6, 1, 7] (⟨L, by rw [show (fH S c) = (0, S, lq S.O c (some ⟨tk, 1⟩)) by unfold fH; rw [hnm]] <;> exact ⟨rfl, rfl⟩⟩)
 ·have hkt : (obj S.O tk).kind = 2 := hI.kind hlv
  refine gL (f := 133) (args := #[vP f, vP cb]) (pre := ((pA f m t L S) ++ [pC cb c])) [0, 1, 2, 3, 4, 5, 6] ((by have h := fW S L f m t hI cb c hC (β := β); rw [hnm] at h; exact h)) ?_
  rintro _ _ ⟨rfl, rfl⟩
  refine gK 5 (ET L tk) [] ?_
  refine NS ?_
  refine gK 2 [(13, vP cb), (14, .iface 96 (vP (L.b tk)))] [] ?_
  refine gL [3, 6] (lF S L hI cb c (some ⟨tk, 2⟩) (.inr (.inr (.inl ⟨tk, rfl, hlv⟩)))) ?_
  rintro _ _ ⟨rfl, rfl⟩
  refine NS ?_
  refine gK 2 [(4, vI 0)] [] ?_
  refine NN (af.ret ?_)
  exact RT (vI 0) [2, 3, 4, 0, 5, 6, 1, 7] (⟨L, by rw [show (fH S c) = (0, S, lq S.O c (some ⟨tk, 2⟩)) by unfold fH; rw [hnm]] <;> exact ⟨rfl, rfl⟩⟩)
 have hkt : (obj S.O tk).kind = 3 := hI.kind hlv
 refine gL (f := 133) (args := #[vP f, vP cb]) (pre := ((pA f m t L S) ++ [pC cb c])) [0, 1, 2, 3, 4, 5, 6] ((by have h := fW S L f m t hI cb c hC (β := β); rw [hnm] at h; exact h)) ?_
 rintro _ _ ⟨rfl, rfl⟩
 refine gK 5 [(5, .iface 93 (vP (L.b tk))), (6, vI 0)] [] ?_
 refine NS ?_
 refine gK 2 [(13, vP cb), (14, .iface 93 (vP (L.b tk)))] [] ?_
 refine gL [3, 6] (lF S L hI cb c (some ⟨tk, 3⟩) (.inr (.inr (.inr ⟨tk, rfl, hlv⟩)))) ?_
 rintro _ _ ⟨rfl, rfl⟩
 refine NS ?_
 refine gK 2 [(4, vI 0)] [] ?_
 refine NN (af.ret ?_)
 exact RT (vI 0) [2, 3, 4, 0, 5, 6, 1, 7] (⟨L, by rw [show (fH S c) = (0, S, lq S.O c (some ⟨tk, 3⟩)) by unfold fH; rw [hnm]] <;> exact ⟨rfl, rfl⟩⟩)
theorem Dp {β : Bs} (S : aI) (L : HL) (f m t : Nat) (hI : Inv S) (cb : Nat) (c : aV) (hC : fJ β c) :
    Spec Tryz.prog β 90 #[vP f, vP cb] ((pA f m t L S) ++ [pC cb c]) (fun v l => ∃ L2, v = vI (iD S c).1 ∧ l = ((pA f m t L2 ((iD S c).2.1)) ++ [.blk cb (gh ((iD S c).2.2)) 43])) := by
 have hX := hI.hX
 refine Spec.enter Tryz.func90 rfl Tryz.ntmps90 (Nat.le_of_ble_eq_true rfl) (fun R => ?_)
 refine af.seq ?_
 rcases hI.hand c.handle with cF | ⟨tk, cF, hlv⟩ | ⟨tk, cF, hlv⟩
 ·refine af.region ?_
  refine gK 1 [] [] ?_
  refine NN (af.seq ?_)
  refine af.kM (S := [pF f m t S.X, pC cb c]) [(true, 0), (true, 1), (true, 2), (true, 3), (true, 4), (true, 5), (true, 6), (true, 7), (false, 8), (true, 9), (true, 10), (true, 11), (true, 12), (false, 13)] [0, 6] (by kernel_rfl) (by kernel_rfl) rfl (by kernel_rfl) ?_
  refine dS.reads (l := [(false, 8), (true, 9), (true, 10), (true, 11), (true, 12), (false, 13)]) (fr' := [(0, vP f), (11, vP t), (15, vI (c.handle))]) (aq := [cb = cb, f = f]) [0, 1, 2, 3, 4, 5, 6, 7] [o_, o_, o_, ⟨[.at 0], none, none, none, none⟩, o_, o_, o_, ⟨[.at 1], none, none, none, none⟩] [0, 11, 15] (fun _ => by kernel_rfl) ⟨rfl, rfl, trivial⟩ rfl ?_
  refine dS.cut (ι := Unit) (fr' := fun (_ : Unit) => [(0, vP f), (16, .tuple #[.nilIface, vI 131])]) (hp' := fun (_ : Unit) => ([jN t S L] ++ ol f m t S L cb c R)) [1, 6] (by kernel_rfl) ?_ rfl (fun _ => by kernel_rfl) ?_
  ·refine gL [2] (Db t S.X.cH S.ay (aK L S.us) c.handle hC.hw (mW cF)) ?_
   rintro _ _ ⟨rfl, rfl⟩
   refine NL ?_
   exact MD () [0, 16] [0, 1, 2, 3, 4, 5, 6, 7]
  rintro _
  refine dS.reads (l := [(false, 13)]) (fr' := [(0, vP f), (5, .nilIface), (18, vI 131)]) (aq := []) [9, 10, 11, 12] [o_, o_, o_, o_] [0, 5, 18] (fun _ => by kernel_rfl) trivial rfl ?_
  refine dS.last (by kernel_rfl) ?_
  refine gK 1 [(6, vI 131)] [] ?_
  refine NL (aj.np (NX (af.seq (SR ?_))))
  refine gK 2 [(20, .bool true)] [] ?_
  refine NN ?_
  refine CT ?_
  refine SR ?_
  refine gK 2 [(4, vI 131)] [] ?_
  refine NN (af.ret (aj.ar ?_))
  exact RT (vI 131) [1, 2, 0, 3, 4, 5, 6, 7] (⟨L, by rw [show (iD S c) = (131, S, c) by unfold iD; rw [cF]] <;> exact ⟨rfl, rfl⟩⟩)
 ·have hkt : (obj S.O tk).kind = 1 := hI.kind hlv
  have hid := hI.ob _ hlv
  have ni := hI.Ga hlv
  have hdl := hI.Cb hlv
  have hop : 0 < (obj S.O tk).opens ∧ (obj S.O tk).opens ≤ 1024 := ⟨by have h1 := hI.opens _ hlv; have h2 := DR cF; simp only at h1 h2; omega, (hI.Af hlv).2⟩
  refine af.region ?_
  refine gK 1 [] [] ?_
  refine NN (af.seq ?_)
  refine af.kM (S := [pF f m t S.X, pC cb c]) [(true, 0), (true, 1), (true, 2), (true, 3), (true, 4), (true, 5), (true, 6), (true, 7), (false, 8), (true, 9), (true, 10), (true, 11), (true, 12), (false, 13)] [0, 6] (by kernel_rfl) (by kernel_rfl) rfl (by kernel_rfl) ?_
  refine dS.reads (l := [(false, 8), (true, 9), (true, 10), (true, 11), (true, 12), (false, 13)]) (fr' := [(0, vP f), (11, vP t), (15, vI (c.handle))]) (aq := [cb = cb, f = f]) [0, 1, 2, 3, 4, 5, 6, 7] [o_, o_, o_, ⟨[.at 0], none, none, none, none⟩, o_, o_, o_, ⟨[.at 1], none, none, none, none⟩] [0, 11, 15] (fun _ => by kernel_rfl) ⟨rfl, rfl, trivial⟩ rfl ?_
  refine dS.cut (ι := Unit) (fr' := fun (_ : Unit) => [(0, vP f), (16, .tuple #[.iface 89 (vP (L.b tk)), vI 0])]) (hp' := fun (_ : Unit) => ([pT t S.X.cH S.ay L (del c.handle S.us)] ++ ol f m t S L cb c R)) [1, 6] (by kernel_rfl) ?_ rfl (fun _ => by kernel_rfl) ?_
  ·refine gL (f := 138) (args := #[vP t, vI (c.handle)]) (pre := [jN t S L]) [2] ((by have h := Ad (β := β) t S.X.cH S.ay (aK L S.us) c.handle hC.hw (cG L ⟨tk, 1⟩) (jb cF); rw [← Ci] at h; exact h)) ?_
   rintro _ _ ⟨rfl, rfl⟩
   refine NL ?_
   exact MD () [0, 16] [0, 1, 2, 3, 4, 5, 6, 7]
  rintro _
  refine dS.reads (l := [(false, 13)]) (fr' := [(0, vP f), (5, .iface 89 (vP (L.b tk))), (18, vI 0)]) (aq := []) [9, 10, 11, 12] [o_, o_, o_, o_] [0, 5, 18] (fun _ => by kernel_rfl) trivial rfl ?_
  refine dS.last (by kernel_rfl) ?_
  refine gK 1 [(6, vI 0)] [] ?_
  refine NL (aj.np (NX (af.seq (SR ?_))))
  refine gK 2 [(20, .bool false)] [] ?_
  refine NN ?_
  refine CF ?_
  refine af.skip (NX (SR ?_))
  refine gK 1 [(22, .iface 89 (vP (L.b tk)))] [] ?_
  refine gL [] (cq (L.b tk)) ?_
  rintro _ _ ⟨rfl, rfl⟩
  refine gK 6 [(27, vI ((obj S.O tk).opens - 1)), (29, .pointer (some ⟨(L.b tk), 7, none⟩))] [(2, v_ 3 (iP L hkt)), (3, p_ ⟨[], none, none, none, some (vI ((obj S.O tk).opens - 1))⟩ [(Value.int .i64 (IntKind.wrap .i64 ((obj S.O tk).opens - 1))) = (vI ((obj S.O tk).opens - 1))] ⟨bJ (by omega) (by omega) (by omega), trivial⟩)] ?_
  refine pR 3 [(5, 1), (4, 2)] tk 7 (fun o => { o with opens := o.opens - 1 }) hkt (fun bK bP => ?_)
  have iN := ku bP hkt
  have hf2 : (obj bK tk).id = (obj S.O tk).id := fu aS.id bP rfl
  have hf3 : (obj bK tk).data = (obj S.O tk).data := fu aS.data bP rfl
  refine NS ?_
  have IW : (obj bK tk).opens = (obj S.O tk).opens - 1 := by rw [bP]; exact congrArg aS.opens bH
  refine gK 2 [(30, vP f), (31, .iface 89 (vP (L.b tk)))] [] ?_
  refine gL [3, 1, 2] (nV S.X f m t hX bK L S.idx hI.rise ⟨tk, 1⟩ iN (by simp) (by rw [IW]; omega) (fun _ => by rw [hf2, hid.1]; exact hlv) (by rw [hf2]; exact ni) (by rw [hf3]; exact hdl)) ?_
  rintro _ _ ⟨rfl, rfl⟩
  refine NS ?_
  refine gK 1 [(4, vI 0)] [] ?_
  refine NN (af.ret ?_)
  exact RT (l := [pF f m t { S.X with used := iV bK S.X.used ⟨tk, 1⟩ }, pI m L (iF bK S.idx ⟨tk, 1⟩), pT t S.X.cH S.ay L (del c.handle S.us), pO bK L, pD bK L, pE bK L, pC cb c]) (vI 0) [1, 2, 3, 0, 4, 5, 6, 7] (⟨L, by subst bP; rw [show iD S c = (0, _, c) by unfold iD; rw [cF]]; exact ⟨rfl, rfl⟩⟩)
 have hkt : (obj S.O tk).kind = 2 := hI.kind hlv
 have hid := hI.ob _ hlv
 have ni := hI.Ga hlv
 have hdl := hI.Cb hlv
 have hop : 0 < (obj S.O tk).opens ∧ (obj S.O tk).opens ≤ 1024 := ⟨by have h1 := hI.opens _ hlv; have h2 := DR cF; simp only at h1 h2; omega, (hI.Af hlv).2⟩
 refine af.region ?_
 refine gK 1 [] [] ?_
 refine NN (af.seq ?_)
 refine af.kM (S := [pF f m t S.X, pC cb c]) [(true, 0), (true, 1), (true, 2), (true, 3), (true, 4), (true, 5), (true, 6), (true, 7), (false, 8), (true, 9), (true, 10), (true, 11), (true, 12), (false, 13)] [0, 6] (by kernel_rfl) (by kernel_rfl) rfl (by kernel_rfl) ?_
 refine dS.reads (l := [(false, 8), (true, 9), (true, 10), (true, 11), (true, 12), (false, 13)]) (fr' := [(0, vP f), (11, vP t), (15, vI (c.handle))]) (aq := [cb = cb, f = f]) [0, 1, 2, 3, 4, 5, 6, 7] [o_, o_, o_, ⟨[.at 0], none, none, none, none⟩, o_, o_, o_, ⟨[.at 1], none, none, none, none⟩] [0, 11, 15] (fun _ => by kernel_rfl) ⟨rfl, rfl, trivial⟩ rfl ?_
 refine dS.cut (ι := Unit) (fr' := fun (_ : Unit) => [(0, vP f), (16, .tuple #[.iface 96 (vP (L.b tk)), vI 0])]) (hp' := fun (_ : Unit) => ([pT t S.X.cH S.ay L (del c.handle S.us)] ++ ol f m t S L cb c R)) [1, 6] (by kernel_rfl) ?_ rfl (fun _ => by kernel_rfl) ?_
 ·refine gL (f := 138) (args := #[vP t, vI (c.handle)]) (pre := [jN t S L]) [2] ((by have h := Ad (β := β) t S.X.cH S.ay (aK L S.us) c.handle hC.hw (cG L ⟨tk, 2⟩) (jb cF); rw [← Ci] at h; exact h)) ?_
  rintro _ _ ⟨rfl, rfl⟩
  refine NL ?_
  exact MD () [0, 16] [0, 1, 2, 3, 4, 5, 6, 7]
 rintro _
 refine dS.reads (l := [(false, 13)]) (fr' := [(0, vP f), (5, .iface 96 (vP (L.b tk))), (18, vI 0)]) (aq := []) [9, 10, 11, 12] [o_, o_, o_, o_] [0, 5, 18] (fun _ => by kernel_rfl) trivial rfl ?_
 refine dS.last (by kernel_rfl) ?_
 refine gK 1 [(6, vI 0)] [] ?_
 refine NL (aj.np (NX (af.seq (SR ?_))))
 refine gK 2 [(20, .bool false)] [] ?_
 refine NN ?_
 refine CF ?_
 refine af.skip (NX (SR ?_))
 refine gK 1 [(22, .iface 96 (vP (L.b tk)))] [] ?_
 refine gL [] (cq (L.b tk)) ?_
 rintro _ _ ⟨rfl, rfl⟩
 refine gK 6 [(27, vI ((obj S.O tk).opens - 1)), (29, .pointer (some ⟨(L.b tk), 7, none⟩))] [(2, v_ 3 (iP L hkt)), (3, p_ ⟨[], none, none, none, some (vI ((obj S.O tk).opens - 1))⟩ [(Value.int .i64 (IntKind.wrap .i64 ((obj S.O tk).opens - 1))) = (vI ((obj S.O tk).opens - 1))] ⟨bJ (by omega) (by omega) (by omega), trivial⟩)] ?_
 refine pR 3 [(5, 1), (4, 2)] tk 7 (fun o => { o with opens := o.opens - 1 }) hkt (fun bK bP => ?_)
 have ug := ku bP hkt
 have Gv : (obj bK tk).id = (obj S.O tk).id := fu aS.id bP rfl
 have LP : (obj bK tk).data = (obj S.O tk).data := fu aS.data bP rfl
 refine NS ?_
 have IW : (obj bK tk).opens = (obj S.O tk).opens - 1 := by rw [bP]; exact congrArg aS.opens bH
 refine gK 2 [(30, vP f), (31, .iface 96 (vP (L.b tk)))] [] ?_
 refine gL [3, 1, 2] (nV S.X f m t hX bK L S.idx hI.rise ⟨tk, 2⟩ ug (by simp) (by rw [IW]; omega) (fun _ => by rw [Gv, hid.1]; exact hlv) (by rw [Gv]; exact ni) (by rw [LP]; exact hdl)) ?_
 rintro _ _ ⟨rfl, rfl⟩
 refine NS ?_
 refine gK 1 [(4, vI 0)] [] ?_
 refine NN (af.ret ?_)
 exact RT (l := [pF f m t { S.X with used := iV bK S.X.used ⟨tk, 2⟩ }, pI m L (iF bK S.idx ⟨tk, 2⟩), pT t S.X.cH S.ay L (del c.handle S.us), pO bK L, pD bK L, pE bK L, pC cb c]) (vI 0) [1, 2, 3, 0, 4, 5, 6, 7] (⟨L, by subst bP; rw [show iD S c = (0, _, c) by unfold iD; rw [cF]]; exact ⟨rfl, rfl⟩⟩)
end
section
open Go.RowKit Go.Maps HeapM TabM
attribute [local irreducible] ai aR af aj
abbrev Pq (S : aI) (L : HL) (tk : Nat) := (.abs (ak (iK (aQ S.O L) tk bR.none)) : HP)
abbrev JT (L : HL) (tk : Nat) (S : aI) (c : aV) := (.blk (L.b tk) [vI ((obj S.O tk).id), vI (c.mode), vI ((obj S.O tk).uid), vI ((obj S.O tk).gid), vI ((obj S.O tk).sec), vI ((obj S.O tk).nano), vI ((obj S.O tk).links), vI ((obj S.O tk).opens), .bool (obj S.O tk).gone, .slice (L.dA tk) ((obj S.O tk).data.length) ((L.dC tk))] 92 : HP)
abbrev JU (L : HL) (tk : Nat) (S : aI) (c : aV) := (.blk (L.b tk) [vI ((obj S.O tk).id), vI (c.mode), vI (c.uid), vI ((obj S.O tk).gid), vI ((obj S.O tk).sec), vI ((obj S.O tk).nano), vI ((obj S.O tk).links), vI ((obj S.O tk).opens), .bool (obj S.O tk).gone, .slice (L.dA tk) ((obj S.O tk).data.length) ((L.dC tk))] 92 : HP)
abbrev JV (L : HL) (tk : Nat) (S : aI) (c : aV) := (.blk (L.b tk) [vI ((obj S.O tk).id), vI (c.mode), vI (c.uid), vI (c.gid), vI ((obj S.O tk).sec), vI ((obj S.O tk).nano), vI ((obj S.O tk).links), vI ((obj S.O tk).opens), .bool (obj S.O tk).gone, .slice (L.dA tk) ((obj S.O tk).data.length) ((L.dC tk))] 92 : HP)
abbrev NT (L : HL) (tk : Nat) (S : aI) (c : aV) := (.blk (L.b tk) [vI ((obj S.O tk).id), vI (c.mode), vI ((obj S.O tk).uid), vI ((obj S.O tk).gid), vI ((obj S.O tk).sec), vI ((obj S.O tk).nano), vI ((obj S.O tk).links), vI ((obj S.O tk).opens), .bool (obj S.O tk).gone, .map (some (L.m tk)), (qt L (obj S.O tk).up)] 99 : HP)
abbrev NU (L : HL) (tk : Nat) (S : aI) (c : aV) := (.blk (L.b tk) [vI ((obj S.O tk).id), vI (c.mode), vI (c.uid), vI ((obj S.O tk).gid), vI ((obj S.O tk).sec), vI ((obj S.O tk).nano), vI ((obj S.O tk).links), vI ((obj S.O tk).opens), .bool (obj S.O tk).gone, .map (some (L.m tk)), (qt L (obj S.O tk).up)] 99 : HP)
abbrev NV (L : HL) (tk : Nat) (S : aI) (c : aV) := (.blk (L.b tk) [vI ((obj S.O tk).id), vI (c.mode), vI (c.uid), vI (c.gid), vI ((obj S.O tk).sec), vI ((obj S.O tk).nano), vI ((obj S.O tk).links), vI ((obj S.O tk).opens), .bool (obj S.O tk).gone, .map (some (L.m tk)), (qt L (obj S.O tk).up)] 99 : HP)
abbrev LZ (S : aI) (c : aV) (L2 : HL) := (pO (aB S.O (aE S.X) (fun _ => (⟨0, c.mode, 0, 0, 0, 0, 0, 0, false, 1, [], ⟨#[]⟩, [], none⟩ : aS))) L2 : HP)
abbrev Pr (S : aI) (c : aV) (L2 : HL) := (pE (aB S.O (aE S.X) (fun _ => (⟨0, c.mode, 0, 0, 0, 0, 0, 0, false, 1, [], ⟨#[]⟩, [], none⟩ : aS))) L2 : HP)
abbrev L5 (S : aI) (c : aV) (L2 : HL) := (pD (aB S.O (aE S.X) (fun _ => (⟨0, c.mode, 0, 0, 0, 0, 0, 0, false, 1, [], ⟨#[]⟩, [], none⟩ : aS))) L2 : HP)
abbrev jU (f : Nat) (m : Nat) (t) (S : aI) (L : HL) (tk : Nat) (cb : Nat) (c) (R : bR) := ([pF f m t S.X, pI m L S.idx, jN t S L, Pq S L tk, pD S.O L, pE S.O L, pC cb c, .abs R] : List HP)
abbrev lG (c : aV) := ([(79, vI (c.gid)), (83, .agg #[vI (c.sec), vI (c.nano)])] : Fr)
abbrev zu (L : HL) (tk : Nat) (c : aV) := ([(66, vP (L.b tk)), (67, vP (L.b tk)), (75, vI (c.uid))] : Fr)
abbrev IX (L : HL) (tk : Nat) (c : aV) := ([(65, vP (L.b tk)), (66, vP (L.b tk)), (67, vP (L.b tk)), (71, vI (c.mode)), (75, vI (c.uid))] : Fr)
abbrev zw (S : aI) (c) (L2 : HL) (f : Nat) (m : Nat) (t) (L : HL) := ([LZ S c L2, pF f m t S.X, pI m L S.idx, Pr S c L2, jN t S L] : List HP)
abbrev IY (c : aV) (L : HL) (tk : Nat) := ([(83, .agg #[vI (c.sec), vI (c.nano)]), (91, .pointer (some ⟨(L.b tk), 4, none⟩))] : Fr)
abbrev IZ (t) (c : aV) := ([(12, vP t), (16, vI (c.handle))] : Fr)
abbrev L6 (cb : Nat) (f : Nat) (b4 : Nat) := ([(49, vP cb), (50, vP f), (52, .iface 89 (vP b4))] : Fr)
theorem AL {β : Bs} (S : aI) (L : HL) (f m t : Nat) (hI : Inv S) (cb : Nat) (c : aV) (hC : fJ β c) :
    Spec Tryz.prog β 87 #[vP f, vP cb] ((pA f m t L S) ++ [pC cb c]) (fun v l => ∃ L2, v = vI (bG S c).1 ∧ l = ((pA f m t L2 ((bG S c).2.1)) ++ [.blk cb (gh ((bG S c).2.2)) 43])) := by
 have hX := hI.hX
 refine Spec.enter Tryz.func87 rfl Tryz.ntmps87 (Nat.le_of_ble_eq_true rfl) (fun R => ?_)
 refine af.seq ?_
 rcases hI.hand c.handle with cF | ⟨tk, cF, hlv⟩ | ⟨tk, cF, hlv⟩
 ·refine af.region ?_
  refine gK 1 [] [] ?_
  refine NN (af.seq ?_)
  refine af.bF (by kernel_rfl) (by kernel_rfl) ?_
  refine gQ 8 (IZ t c) [(3, a_ 0 f), (7, a_ 6 cb)] ?_
  refine aR.call (f := 136) (args := #[vP t, vI (c.handle)]) (d := (some 17)) (pre := [jN t S L]) (R := (ol f m t S L cb c R)) (pk := [2, 0, 1, 3, 4, 5, 6, 7]) (gM := [1, 2, 0, 3, 4, 5, 6, 7]) (v0 := .tuple #[.nilIface, vI 131]) (fun _ => by kernel_rfl) (nQ t S.X.cH S.ay (aK L S.us) c.handle hC.hw (mW cF)) rfl (by kernel_rfl) rfl (by kernel_rfl) (fun _ _ h => h) ?_
  refine gQ 5 [(5, .nilIface), (6, vI 131)] [] ?_
  refine NQ (NX (af.seq (SR ?_)))
  refine gK 2 [(21, .bool true)] [] ?_
  refine NN ?_
  refine CT ?_
  refine SR ?_
  refine gK 2 [(4, vI 131)] [] ?_
  refine NN (af.ret (aj.ar ?_))
  exact RT (vI 131) [0, 1, 2, 3, 4, 5, 6, 7] (⟨L, by rw [show (bG S c) = (131, S, c) by unfold bG; rw [cF]] <;> exact ⟨rfl, rfl⟩⟩)
 ·have hkt : (obj S.O tk).kind = 1 := hI.kind hlv
  refine af.region ?_
  refine gK 1 [] [] ?_
  refine NN (af.seq ?_)
  refine af.bF (by kernel_rfl) (by kernel_rfl) ?_
  refine gQ 8 (IZ t c) [(3, a_ 0 f), (7, a_ 6 cb)] ?_
  refine aR.call (f := 136) (args := #[vP t, vI (c.handle)]) (d := (some 17)) (pre := [jN t S L]) (R := (ol f m t S L cb c R)) (pk := [2, 0, 1, 3, 4, 5, 6, 7]) (gM := [1, 2, 0, 3, 4, 5, 6, 7]) (v0 := .tuple #[.iface 89 (vP (L.b tk)), vI 0]) (fun _ => by kernel_rfl) (jF t S.X.cH S.ay (aK L S.us) c.handle hC.hw (cG L ⟨tk, 1⟩) (jb cF)) rfl (by kernel_rfl) rfl (by kernel_rfl) (fun _ _ h => h) ?_
  refine gQ 5 (ES L tk) [] ?_
  refine NQ (NX (af.seq (SR ?_)))
  refine gK 2 [(21, .bool false)] [] ?_
  refine NN ?_
  refine CF ?_
  refine af.skip (NX (SR ?_))
  refine gK 1 [(23, .iface 89 (vP (L.b tk)))] [] ?_
  refine gL [] (cq (L.b tk)) ?_
  rintro _ _ ⟨rfl, rfl⟩
  refine gK 1 [(7, vP (L.b tk))] [] ?_
  refine NN (af.seq (af.block (SR ?_)))
  refine gK 5 [(30, .bool (obj S.O tk).gone)] [(3, v_ 3 (kT L hkt))] ?_
  refine ai.ld 30 (obj S.O tk).gone (fun _ => by kernel_rfl) (fun kz => ?_) (fun kz => ?_)
  ·refine gK 1 [(31, .iface 89 (vP (L.b tk)))] [] ?_
   refine gL [] (jH (vP (L.b tk))) ?_
   rintro _ _ ⟨rfl, rfl⟩
   refine gK 3 [(25, .bool false)] [] ?_
   refine NN ?_
   refine CF ?_
   refine SR ?_
   refine gK 4 [(39, vI (c.mode))] [(3, a_ 6 cb)] ?_
   refine gL [] (d9 (c.mode) 4095) ?_
   rintro _ _ ⟨rfl, rfl⟩
   refine gK 2 [(35, .bool (!(decide (0 ≤ c.mode ∧ c.mode ≤ 4095))))] [] ?_
   refine NN ?_
   refine af.cr (p := 0 ≤ c.mode ∧ c.mode ≤ 4095) (fun _ => by kernel_rfl) (fun jZ => ?_) (fun jZ => ?_)
   ·refine SR ?_
    refine gK 1 [(4, vI 120)] [] ?_
    refine NN (af.ret (aj.aG (aj.ar ?_)))
    exact RT (vI 120) [0, 1, 2, 3, 4, 5, 6, 7] (⟨L, by rw [show (bG S c) = (120, S, c) by unfold bG; rw [cF]; exact (if_neg (fun h => absurd h.2 (by simp))).trans (if_neg jZ)] <;> exact ⟨rfl, rfl⟩⟩)
   refine SR ?_
   refine gK 4 [(46, vI (c.uid))] [(3, a_ 6 cb)] ?_
   refine gL [] (d9 (c.uid) 2147483647) ?_
   rintro _ _ ⟨rfl, rfl⟩
   refine gK 2 [(49, .bool (!(decide (0 ≤ c.uid ∧ c.uid ≤ 2147483647))))] [] ?_
   refine ai.fM 49 (0 ≤ c.uid ∧ c.uid ≤ 2147483647) (fun _ => by kernel_rfl) (fun qG => ?_) (fun qG => ?_)
   ·refine gK 8 [(42, .bool true)] [] ?_
    refine NN ?_
    refine CT ?_
    refine SR ?_
    refine gK 1 [(4, vI 11)] [] ?_
    refine NN (af.ret (aj.aG (aj.ar ?_)))
    exact RT (vI 11) [0, 1, 2, 3, 4, 5, 6, 7] (⟨L, by rw [show (bG S c) = (11, S, c) by unfold bG; rw [cF]; exact (if_neg (fun h => absurd h.2 (by simp))).trans ((if_pos jZ).trans (if_neg (fun h => qG h.1)))] <;> exact ⟨rfl, rfl⟩⟩)
   refine gK 4 [(53, vI (c.gid))] [(3, a_ 6 cb)] ?_
   refine gL [] (d9 (c.gid) 2147483647) ?_
   rintro _ _ ⟨rfl, rfl⟩
   refine gK 3 [(42, .bool (!(decide (0 ≤ c.gid ∧ c.gid ≤ 2147483647))))] [] ?_
   refine NN ?_
   refine af.cr (p := 0 ≤ c.gid ∧ c.gid ≤ 2147483647) (fun _ => by kernel_rfl) (fun qH => ?_) (fun qH => ?_)
   ·refine SR ?_
    refine gK 1 [(4, vI 11)] [] ?_
    refine NN (af.ret (aj.aG (aj.ar ?_)))
    exact RT (vI 11) [0, 1, 2, 3, 4, 5, 6, 7] (⟨L, by rw [show (bG S c) = (11, S, c) by unfold bG; rw [cF]; exact (if_neg (fun h => absurd h.2 (by simp))).trans ((if_pos jZ).trans (if_neg (fun h => qH h.2)))] <;> exact ⟨rfl, rfl⟩⟩)
   refine SR ?_
   refine gK 4 [(61, .agg #[vI (c.sec), vI (c.nano)])] [(3, A_ 6 cb 2)] ?_
   refine gL [] (fT c.sec c.nano) ?_
   rintro _ _ ⟨rfl, rfl⟩
   refine gK 2 [(57, .bool (!(decide (cR c.sec c.nano))))] [] ?_
   refine NN ?_
   refine af.cr (p := cR c.sec c.nano) (fun _ => by kernel_rfl) (fun ux => ?_) (fun ux => ?_)
   ·refine SR ?_
    refine gK 1 [(4, vI 20)] [] ?_
    refine NN (af.ret (aj.aG (aj.ar ?_)))
    exact RT (vI 20) [0, 1, 2, 3, 4, 5, 6, 7] (⟨L, by rw [show (bG S c) = (20, S, c) by unfold bG; rw [cF]; exact (if_neg (fun h => absurd h.2 (by simp))).trans ((if_pos jZ).trans ((if_pos ⟨qG, qH⟩).trans (if_neg ux)))] <;> exact ⟨rfl, rfl⟩⟩)
   refine af.skip (aj.aT (NX (af.seq ?_)))
   skip
   refine af.mem (aL := [.blk f [vI (S.X.cN), vI (S.X.cB), vI (S.X.cH), vI (S.X.cS), vI (S.X.cZ), .map (some m), vP t, vI (S.X.last), vI (S.X.ah), vI (S.X.used)] 86, .abs (aH Tryz.prog 3 m (aP (aK L S.idx)) S.idx.length), .abs (aZ 156 t S.X.cH S.ay (aK L S.us)), .abs (ak (iK (aQ S.O L) tk bR.none)), .abs (ak (aW S.O L)), .abs (ak (bh S.O L)), .blk cb [vI (c.op), vI (c.handle), vI (c.other), .string c.name, .string c.text, .slice c.dA (c.data.length) (c.dC), vI (c.mode), vI (c.uid), vI (c.gid), vI (c.sec), vI (c.nano), vI (c.code), vI (c.answer)] 43, .abs R, .blk (L.b tk) [vI ((obj S.O tk).id), vI ((obj S.O tk).mode), vI ((obj S.O tk).uid), vI ((obj S.O tk).gid), vI ((obj S.O tk).sec), vI ((obj S.O tk).nano), vI ((obj S.O tk).links), vI ((obj S.O tk).opens), .bool (obj S.O tk).gone, .slice (L.dA tk) ((obj S.O tk).data.length) ((L.dC tk))] 92]) (fun w hS => hS.tQ (i := 3) (k := tk) rfl (by rw [hkt]; decide) (eE (hkt)) (by rw [hkt]; rfl)) ?_
   refine af.bZ (S := [pC cb c]) [0, 1, 2, 3, 4, 5, 6, 7, 8, 9, 10, 11, 12, 13, 14, 15, 16, 17, 18, 19, 20, 21, 22, 23, 24, 25, 26, 27, 28, 29, 30, 31] 22 [6] (by kernel_rfl) (by kernel_rfl) rfl (by kernel_rfl) ?_
   refine aJ.reads (r := 0) (l := [22, 23, 24, 25, 26, 27, 28, 29, 30, 31]) (fr' := (IX L tk c ++ lG c ++ [(85, .pointer (some ⟨(L.b tk), 1, none⟩))])) (aq := [cb = cb, cb = cb, cb = cb, cb = cb, cb = cb]) [0, 1, 2, 3, 4, 5, 6, 7, 8, 9, 10, 11, 12, 13, 14, 15, 16, 17, 18, 19, 20, 21] [o_, o_, o_, o_, o_, o_, o_, ⟨[.at 0], none, none, none, none⟩, o_, o_, o_, ⟨[.at 0], none, none, none, none⟩, o_, o_, o_, ⟨[.at 0], none, none, none, none⟩, o_, o_, o_, ⟨[.at 0, .at 0], none, none, none, none⟩, o_, o_] [65, 66, 67, 71, 75, 79, 83, 85] (fun _ => by kernel_rfl) ⟨rfl, rfl, rfl, rfl, rfl, trivial⟩ rfl rfl ?_
   refine mC [6] [] [(0, a_ 8 (L.b tk))] [(8, [(1, vI (c.mode))])] ?_
   refine aJ.cut (ι := Unit) (fr' := fun (_ : Unit) => (zu L tk c ++ lG c ++ [(86, vP (L.b tk))])) (hp' := fun (_ : Unit) => (jU f m t S L tk cb c R ++ [JT L tk S c])) [6] rfl rfl ?_ rfl (fun _ => by kernel_rfl) ?_
   ·refine gK 1 [(86, vP (L.b tk))] [] ?_
    refine NL ?_
    exact MD () [66, 67, 75, 79, 83, 86] [0, 1, 2, 3, 4, 5, 6, 7, 8]
   rintro _
   refine aJ.cut (ι := Unit) (fr' := fun (_ : Unit) => (zu L tk c ++ lG c ++ [(87, .pointer (some ⟨(L.b tk), 2, none⟩))])) (hp' := fun (_ : Unit) => (jU f m t S L tk cb c R ++ [JT L tk S c])) [6] rfl rfl ?_ rfl (fun _ => by kernel_rfl) ?_
   ·refine gK 1 [(87, .pointer (some ⟨(L.b tk), 2, none⟩))] [] ?_
    refine NL ?_
    exact MD () [66, 67, 75, 79, 83, 87] [0, 1, 2, 3, 4, 5, 6, 7, 8]
   rintro _
   refine mC [6] [] [(0, a_ 8 (L.b tk))] [(8, [(2, vI (c.uid))])] ?_
   refine aJ.cut (ι := Unit) (fr' := fun (_ : Unit) => ([(67, vP (L.b tk))] ++ lG c ++ [(88, vP (L.b tk))])) (hp' := fun (_ : Unit) => (jU f m t S L tk cb c R ++ [JU L tk S c])) [6] rfl rfl ?_ rfl (fun _ => by kernel_rfl) ?_
   ·refine gK 1 [(88, vP (L.b tk))] [] ?_
    refine NL ?_
    exact MD () [67, 79, 83, 88] [0, 1, 2, 3, 4, 5, 6, 7, 8]
   rintro _
   refine aJ.cut (ι := Unit) (fr' := fun (_ : Unit) => ([(67, vP (L.b tk))] ++ lG c ++ [(89, .pointer (some ⟨(L.b tk), 3, none⟩))])) (hp' := fun (_ : Unit) => (jU f m t S L tk cb c R ++ [JU L tk S c])) [6] rfl rfl ?_ rfl (fun _ => by kernel_rfl) ?_
   ·refine gK 1 [(89, .pointer (some ⟨(L.b tk), 3, none⟩))] [] ?_
    refine NL ?_
    exact MD () [67, 79, 83, 89] [0, 1, 2, 3, 4, 5, 6, 7, 8]
   rintro _
   refine mC [6] [] [(0, a_ 8 (L.b tk))] [(8, [(3, vI (c.gid))])] ?_
   refine aJ.cut (ι := Unit) (fr' := fun (_ : Unit) => [(83, .agg #[vI (c.sec), vI (c.nano)]), (90, vP (L.b tk))]) (hp' := fun (_ : Unit) => (jU f m t S L tk cb c R ++ [JV L tk S c])) [6] rfl rfl ?_ rfl (fun _ => by kernel_rfl) ?_
   ·refine gK 1 [(90, vP (L.b tk))] [] ?_
    refine NL ?_
    exact MD () [83, 90] [0, 1, 2, 3, 4, 5, 6, 7, 8]
   rintro _
   refine aJ.cut (ι := Unit) (fr' := fun (_ : Unit) => (IY c L tk)) (hp' := fun (_ : Unit) => (jU f m t S L tk cb c R ++ [JV L tk S c])) [6] rfl rfl ?_ rfl (fun _ => by kernel_rfl) ?_
   ·refine gK 1 [(91, .pointer (some ⟨(L.b tk), 4, none⟩))] [] ?_
    refine NL ?_
    exact MD () [83, 91] [0, 1, 2, 3, 4, 5, 6, 7, 8]
   rintro _
   refine aJ.last rfl rfl ?_
   refine gC 1 [] [(0, A_ 8 (L.b tk) 2)] [(8, [(4, vI (c.sec)), (5, vI (c.nano))])] ?_
   refine NL (aj.np (NX (SR ?_)))
   refine ai.mem (aL := [.abs (ak (aQ (aB S.O tk (fun o => { o with mode := c.mode, uid := c.uid, gid := c.gid, sec := c.sec, nano := c.nano })) L)), .blk f [vI (S.X.cN), vI (S.X.cB), vI (S.X.cH), vI (S.X.cS), vI (S.X.cZ), .map (some m), vP t, vI (S.X.last), vI (S.X.ah), vI (S.X.used)] 86, .abs (aH Tryz.prog 3 m (aP (aK L S.idx)) S.idx.length), .abs (aZ 156 t S.X.cH S.ay (aK L S.us)), .abs (ak (aW (aB S.O tk (fun o => { o with mode := c.mode, uid := c.uid, gid := c.gid, sec := c.sec, nano := c.nano })) L)), .abs (ak (bh (aB S.O tk (fun o => { o with mode := c.mode, uid := c.uid, gid := c.gid, sec := c.sec, nano := c.nano })) L)), .blk cb [vI (c.op), vI (c.handle), vI (c.other), .string c.name, .string c.text, .slice c.dA (c.data.length) (c.dC), vI (c.mode), vI (c.uid), vI (c.gid), vI (c.sec), vI (c.nano), vI (c.code), vI (c.answer)] 43, .abs R]) (fun w hS => by have h := hS.uR (O := S.O) (L := L) (i := 3) (j := 8) (idx := [0, 1, 2, 4, 5, 6, 7]) (k := tk) (f := (fun o => { o with mode := c.mode, uid := c.uid, gid := c.gid, sec := c.sec, nano := c.nano })) rfl (fun _ hx => lU hx) rfl (by kernel_rfl) rfl (by show (obj S.O tk).kind ≠ 0; rw [hkt]; decide) ((eE (o := (fun o => { o with mode := c.mode, uid := c.uid, gid := c.gid, sec := c.sec, nano := c.nano }) (obj S.O tk)) (hkt)).trans rfl) (by show kN (obj S.O tk).kind = _; rw [hkt]; rfl); rw [kE (O := S.O) (k := tk) (f := (fun o => { o with mode := c.mode, uid := c.uid, gid := c.gid, sec := c.sec, nano := c.nano })) rfl rfl, kF (O := S.O) (k := tk) (f := (fun o => { o with mode := c.mode, uid := c.uid, gid := c.gid, sec := c.sec, nano := c.nano })) rfl rfl]; exact h) ?_
   have iN : (obj (aB S.O tk (fun o => { o with mode := c.mode, uid := c.uid, gid := c.gid, sec := c.sec, nano := c.nano })) tk).kind = 1 := (iC (f := (fun o => { o with mode := c.mode, uid := c.uid, gid := c.gid, sec := c.sec, nano := c.nano })) (fun _ => rfl)).trans (hkt)
   generalize bP : (aB S.O tk (fun o => { o with mode := c.mode, uid := c.uid, gid := c.gid, sec := c.sec, nano := c.nano })) = bK at iN ⊢
   refine gK 1 [(4, vI 0)] [] ?_
   refine NN (af.ret ?_)
   exact RT (l := [pF f m t S.X, pI m L S.idx, jN t S L, pO bK L, pD bK L, pE bK L, pC cb c]) (vI 0) [1, 2, 3, 0, 4, 5, 6, 7] (⟨L, by subst bP; rw [show (bG S c) = (0, { S with O := aB S.O tk (fun o => { o with mode := c.mode, uid := c.uid, gid := c.gid, sec := c.sec, nano := c.nano }) }, c) by unfold bG; rw [cF]; exact (if_neg (fun h => absurd h.2 (by simp))).trans ((if_pos jZ).trans ((if_pos ⟨qG, qH⟩).trans (if_pos ux)))] <;> exact ⟨rfl, rfl⟩⟩)
  refine gK 5 [(25, .bool false)] [] ?_
  refine NN ?_
  refine CF ?_
  refine SR ?_
  refine gK 4 [(39, vI (c.mode))] [(3, a_ 6 cb)] ?_
  refine gL [] (d9 (c.mode) 4095) ?_
  rintro _ _ ⟨rfl, rfl⟩
  refine gK 2 [(35, .bool (!(decide (0 ≤ c.mode ∧ c.mode ≤ 4095))))] [] ?_
  refine NN ?_
  refine af.cr (p := 0 ≤ c.mode ∧ c.mode ≤ 4095) (fun _ => by kernel_rfl) (fun jZ => ?_) (fun jZ => ?_)
  ·refine SR ?_
   refine gK 1 [(4, vI 120)] [] ?_
   refine NN (af.ret (aj.aG (aj.ar ?_)))
   exact RT (vI 120) [0, 1, 2, 3, 4, 5, 6, 7] (⟨L, by rw [show (bG S c) = (120, S, c) by unfold bG; rw [cF]; exact (if_neg (fun h => absurd h.2 (by simp))).trans (if_neg jZ)] <;> exact ⟨rfl, rfl⟩⟩)
  refine SR ?_
  refine gK 4 [(46, vI (c.uid))] [(3, a_ 6 cb)] ?_
  refine gL [] (d9 (c.uid) 2147483647) ?_
  rintro _ _ ⟨rfl, rfl⟩
  refine gK 2 [(49, .bool (!(decide (0 ≤ c.uid ∧ c.uid ≤ 2147483647))))] [] ?_
  refine ai.fM 49 (0 ≤ c.uid ∧ c.uid ≤ 2147483647) (fun _ => by kernel_rfl) (fun qG => ?_) (fun qG => ?_)
  ·refine gK 8 [(42, .bool true)] [] ?_
   refine NN ?_
   refine CT ?_
   refine SR ?_
   refine gK 1 [(4, vI 11)] [] ?_
   refine NN (af.ret (aj.aG (aj.ar ?_)))
   exact RT (vI 11) [0, 1, 2, 3, 4, 5, 6, 7] (⟨L, by rw [show (bG S c) = (11, S, c) by unfold bG; rw [cF]; exact (if_neg (fun h => absurd h.2 (by simp))).trans ((if_pos jZ).trans (if_neg (fun h => qG h.1)))] <;> exact ⟨rfl, rfl⟩⟩)
  refine gK 4 [(53, vI (c.gid))] [(3, a_ 6 cb)] ?_
  refine gL [] (d9 (c.gid) 2147483647) ?_
  rintro _ _ ⟨rfl, rfl⟩
  refine gK 3 [(42, .bool (!(decide (0 ≤ c.gid ∧ c.gid ≤ 2147483647))))] [] ?_
  refine NN ?_
  refine af.cr (p := 0 ≤ c.gid ∧ c.gid ≤ 2147483647) (fun _ => by kernel_rfl) (fun qH => ?_) (fun qH => ?_)
  ·refine SR ?_
   refine gK 1 [(4, vI 11)] [] ?_
   refine NN (af.ret (aj.aG (aj.ar ?_)))
   exact RT (vI 11) [0, 1, 2, 3, 4, 5, 6, 7] (⟨L, by rw [show (bG S c) = (11, S, c) by unfold bG; rw [cF]; exact (if_neg (fun h => absurd h.2 (by simp))).trans ((if_pos jZ).trans (if_neg (fun h => qH h.2)))] <;> exact ⟨rfl, rfl⟩⟩)
  refine SR ?_
  refine gK 4 [(61, .agg #[vI (c.sec), vI (c.nano)])] [(3, A_ 6 cb 2)] ?_
  refine gL [] (fT c.sec c.nano) ?_
  rintro _ _ ⟨rfl, rfl⟩
  refine gK 2 [(57, .bool (!(decide (cR c.sec c.nano))))] [] ?_
  refine NN ?_
  refine af.cr (p := cR c.sec c.nano) (fun _ => by kernel_rfl) (fun ux => ?_) (fun ux => ?_)
  ·refine SR ?_
   refine gK 1 [(4, vI 20)] [] ?_
   refine NN (af.ret (aj.aG (aj.ar ?_)))
   exact RT (vI 20) [0, 1, 2, 3, 4, 5, 6, 7] (⟨L, by rw [show (bG S c) = (20, S, c) by unfold bG; rw [cF]; exact (if_neg (fun h => absurd h.2 (by simp))).trans ((if_pos jZ).trans ((if_pos ⟨qG, qH⟩).trans (if_neg ux)))] <;> exact ⟨rfl, rfl⟩⟩)
  refine af.skip (aj.aT (NX (af.seq ?_)))
  skip
  refine af.mem (aL := [.blk f [vI (S.X.cN), vI (S.X.cB), vI (S.X.cH), vI (S.X.cS), vI (S.X.cZ), .map (some m), vP t, vI (S.X.last), vI (S.X.ah), vI (S.X.used)] 86, .abs (aH Tryz.prog 3 m (aP (aK L S.idx)) S.idx.length), .abs (aZ 156 t S.X.cH S.ay (aK L S.us)), .abs (ak (iK (aQ S.O L) tk bR.none)), .abs (ak (aW S.O L)), .abs (ak (bh S.O L)), .blk cb [vI (c.op), vI (c.handle), vI (c.other), .string c.name, .string c.text, .slice c.dA (c.data.length) (c.dC), vI (c.mode), vI (c.uid), vI (c.gid), vI (c.sec), vI (c.nano), vI (c.code), vI (c.answer)] 43, .abs R, .blk (L.b tk) [vI ((obj S.O tk).id), vI ((obj S.O tk).mode), vI ((obj S.O tk).uid), vI ((obj S.O tk).gid), vI ((obj S.O tk).sec), vI ((obj S.O tk).nano), vI ((obj S.O tk).links), vI ((obj S.O tk).opens), .bool (obj S.O tk).gone, .slice (L.dA tk) ((obj S.O tk).data.length) ((L.dC tk))] 92]) (fun w hS => hS.tQ (i := 3) (k := tk) rfl (by rw [hkt]; decide) (eE (hkt)) (by rw [hkt]; rfl)) ?_
  refine af.bZ (S := [pC cb c]) [0, 1, 2, 3, 4, 5, 6, 7, 8, 9, 10, 11, 12, 13, 14, 15, 16, 17, 18, 19, 20, 21, 22, 23, 24, 25, 26, 27, 28, 29, 30, 31] 22 [6] (by kernel_rfl) (by kernel_rfl) rfl (by kernel_rfl) ?_
  refine aJ.reads (r := 0) (l := [22, 23, 24, 25, 26, 27, 28, 29, 30, 31]) (fr' := (IX L tk c ++ lG c ++ [(85, .pointer (some ⟨(L.b tk), 1, none⟩))])) (aq := [cb = cb, cb = cb, cb = cb, cb = cb, cb = cb]) [0, 1, 2, 3, 4, 5, 6, 7, 8, 9, 10, 11, 12, 13, 14, 15, 16, 17, 18, 19, 20, 21] [o_, o_, o_, o_, o_, o_, o_, ⟨[.at 0], none, none, none, none⟩, o_, o_, o_, ⟨[.at 0], none, none, none, none⟩, o_, o_, o_, ⟨[.at 0], none, none, none, none⟩, o_, o_, o_, ⟨[.at 0, .at 0], none, none, none, none⟩, o_, o_] [65, 66, 67, 71, 75, 79, 83, 85] (fun _ => by kernel_rfl) ⟨rfl, rfl, rfl, rfl, rfl, trivial⟩ rfl rfl ?_
  refine mC [6] [] [(0, a_ 8 (L.b tk))] [(8, [(1, vI (c.mode))])] ?_
  refine aJ.cut (ι := Unit) (fr' := fun (_ : Unit) => (zu L tk c ++ lG c ++ [(86, vP (L.b tk))])) (hp' := fun (_ : Unit) => (jU f m t S L tk cb c R ++ [JT L tk S c])) [6] rfl rfl ?_ rfl (fun _ => by kernel_rfl) ?_
  ·refine gK 1 [(86, vP (L.b tk))] [] ?_
   refine NL ?_
   exact MD () [66, 67, 75, 79, 83, 86] [0, 1, 2, 3, 4, 5, 6, 7, 8]
  rintro _
  refine aJ.cut (ι := Unit) (fr' := fun (_ : Unit) => (zu L tk c ++ lG c ++ [(87, .pointer (some ⟨(L.b tk), 2, none⟩))])) (hp' := fun (_ : Unit) => (jU f m t S L tk cb c R ++ [JT L tk S c])) [6] rfl rfl ?_ rfl (fun _ => by kernel_rfl) ?_
  ·refine gK 1 [(87, .pointer (some ⟨(L.b tk), 2, none⟩))] [] ?_
   refine NL ?_
   exact MD () [66, 67, 75, 79, 83, 87] [0, 1, 2, 3, 4, 5, 6, 7, 8]
  rintro _
  refine mC [6] [] [(0, a_ 8 (L.b tk))] [(8, [(2, vI (c.uid))])] ?_
  refine aJ.cut (ι := Unit) (fr' := fun (_ : Unit) => ([(67, vP (L.b tk))] ++ lG c ++ [(88, vP (L.b tk))])) (hp' := fun (_ : Unit) => (jU f m t S L tk cb c R ++ [JU L tk S c])) [6] rfl rfl ?_ rfl (fun _ => by kernel_rfl) ?_
  ·refine gK 1 [(88, vP (L.b tk))] [] ?_
   refine NL ?_
   exact MD () [67, 79, 83, 88] [0, 1, 2, 3, 4, 5, 6, 7, 8]
  rintro _
  refine aJ.cut (ι := Unit) (fr' := fun (_ : Unit) => ([(67, vP (L.b tk))] ++ lG c ++ [(89, .pointer (some ⟨(L.b tk), 3, none⟩))])) (hp' := fun (_ : Unit) => (jU f m t S L tk cb c R ++ [JU L tk S c])) [6] rfl rfl ?_ rfl (fun _ => by kernel_rfl) ?_
  ·refine gK 1 [(89, .pointer (some ⟨(L.b tk), 3, none⟩))] [] ?_
   refine NL ?_
   exact MD () [67, 79, 83, 89] [0, 1, 2, 3, 4, 5, 6, 7, 8]
  rintro _
  refine mC [6] [] [(0, a_ 8 (L.b tk))] [(8, [(3, vI (c.gid))])] ?_
  refine aJ.cut (ι := Unit) (fr' := fun (_ : Unit) => [(83, .agg #[vI (c.sec), vI (c.nano)]), (90, vP (L.b tk))]) (hp' := fun (_ : Unit) => (jU f m t S L tk cb c R ++ [JV L tk S c])) [6] rfl rfl ?_ rfl (fun _ => by kernel_rfl) ?_
  ·refine gK 1 [(90, vP (L.b tk))] [] ?_
   refine NL ?_
   exact MD () [83, 90] [0, 1, 2, 3, 4, 5, 6, 7, 8]
  rintro _
  refine aJ.cut (ι := Unit) (fr' := fun (_ : Unit) => (IY c L tk)) (hp' := fun (_ : Unit) => (jU f m t S L tk cb c R ++ [JV L tk S c])) [6] rfl rfl ?_ rfl (fun _ => by kernel_rfl) ?_
  ·refine gK 1 [(91, .pointer (some ⟨(L.b tk), 4, none⟩))] [] ?_
   refine NL ?_
   exact MD () [83, 91] [0, 1, 2, 3, 4, 5, 6, 7, 8]
  rintro _
  refine aJ.last rfl rfl ?_
  refine gC 1 [] [(0, A_ 8 (L.b tk) 2)] [(8, [(4, vI (c.sec)), (5, vI (c.nano))])] ?_
  refine NL (aj.np (NX (SR ?_)))
  refine ai.mem (aL := [.abs (ak (aQ (aB S.O tk (fun o => { o with mode := c.mode, uid := c.uid, gid := c.gid, sec := c.sec, nano := c.nano })) L)), .blk f [vI (S.X.cN), vI (S.X.cB), vI (S.X.cH), vI (S.X.cS), vI (S.X.cZ), .map (some m), vP t, vI (S.X.last), vI (S.X.ah), vI (S.X.used)] 86, .abs (aH Tryz.prog 3 m (aP (aK L S.idx)) S.idx.length), .abs (aZ 156 t S.X.cH S.ay (aK L S.us)), .abs (ak (aW (aB S.O tk (fun o => { o with mode := c.mode, uid := c.uid, gid := c.gid, sec := c.sec, nano := c.nano })) L)), .abs (ak (bh (aB S.O tk (fun o => { o with mode := c.mode, uid := c.uid, gid := c.gid, sec := c.sec, nano := c.nano })) L)), .blk cb [vI (c.op), vI (c.handle), vI (c.other), .string c.name, .string c.text, .slice c.dA (c.data.length) (c.dC), vI (c.mode), vI (c.uid), vI (c.gid), vI (c.sec), vI (c.nano), vI (c.code), vI (c.answer)] 43, .abs R]) (fun w hS => by have h := hS.uR (O := S.O) (L := L) (i := 3) (j := 8) (idx := [0, 1, 2, 4, 5, 6, 7]) (k := tk) (f := (fun o => { o with mode := c.mode, uid := c.uid, gid := c.gid, sec := c.sec, nano := c.nano })) rfl (fun _ hx => lU hx) rfl (by kernel_rfl) rfl (by show (obj S.O tk).kind ≠ 0; rw [hkt]; decide) ((eE (o := (fun o => { o with mode := c.mode, uid := c.uid, gid := c.gid, sec := c.sec, nano := c.nano }) (obj S.O tk)) (hkt)).trans rfl) (by show kN (obj S.O tk).kind = _; rw [hkt]; rfl); rw [kE (O := S.O) (k := tk) (f := (fun o => { o with mode := c.mode, uid := c.uid, gid := c.gid, sec := c.sec, nano := c.nano })) rfl rfl, kF (O := S.O) (k := tk) (f := (fun o => { o with mode := c.mode, uid := c.uid, gid := c.gid, sec := c.sec, nano := c.nano })) rfl rfl]; exact h) ?_
  have kx : (obj (aB S.O tk (fun o => { o with mode := c.mode, uid := c.uid, gid := c.gid, sec := c.sec, nano := c.nano })) tk).kind = 1 := (iC (f := (fun o => { o with mode := c.mode, uid := c.uid, gid := c.gid, sec := c.sec, nano := c.nano })) (fun _ => rfl)).trans (hkt)
  generalize bP : (aB S.O tk (fun o => { o with mode := c.mode, uid := c.uid, gid := c.gid, sec := c.sec, nano := c.nano })) = bK at kx ⊢
  refine gK 1 [(4, vI 0)] [] ?_
  refine NN (af.ret ?_)
  exact RT (l := [pF f m t S.X, pI m L S.idx, jN t S L, pO bK L, pD bK L, pE bK L, pC cb c]) (vI 0) [1, 2, 3, 0, 4, 5, 6, 7] (⟨L, by subst bP; rw [show (bG S c) = (0, { S with O := aB S.O tk (fun o => { o with mode := c.mode, uid := c.uid, gid := c.gid, sec := c.sec, nano := c.nano }) }, c) by unfold bG; rw [cF]; exact (if_neg (fun h => absurd h.2 (by simp))).trans ((if_pos jZ).trans ((if_pos ⟨qG, qH⟩).trans (if_pos ux)))] <;> exact ⟨rfl, rfl⟩⟩)
 have hkt : (obj S.O tk).kind = 2 := hI.kind hlv
 refine af.region ?_
 refine gK 1 [] [] ?_
 refine NN (af.seq ?_)
 refine af.bF (by kernel_rfl) (by kernel_rfl) ?_
 refine gQ 8 (IZ t c) [(3, a_ 0 f), (7, a_ 6 cb)] ?_
 refine aR.call (f := 136) (args := #[vP t, vI (c.handle)]) (d := (some 17)) (pre := [jN t S L]) (R := (ol f m t S L cb c R)) (pk := [2, 0, 1, 3, 4, 5, 6, 7]) (gM := [1, 2, 0, 3, 4, 5, 6, 7]) (v0 := .tuple #[.iface 96 (vP (L.b tk)), vI 0]) (fun _ => by kernel_rfl) (jF t S.X.cH S.ay (aK L S.us) c.handle hC.hw (cG L ⟨tk, 2⟩) (jb cF)) rfl (by kernel_rfl) rfl (by kernel_rfl) (fun _ _ h => h) ?_
 refine gQ 5 (ET L tk) [] ?_
 refine NQ (NX (af.seq (SR ?_)))
 refine gK 2 [(21, .bool false)] [] ?_
 refine NN ?_
 refine CF ?_
 refine af.skip (NX (SR ?_))
 refine gK 1 [(23, .iface 96 (vP (L.b tk)))] [] ?_
 refine gL [] (cq (L.b tk)) ?_
 rintro _ _ ⟨rfl, rfl⟩
 refine gK 1 [(7, vP (L.b tk))] [] ?_
 refine NN (af.seq (af.block (SR ?_)))
 refine gK 5 [(30, .bool (obj S.O tk).gone)] [(3, v_ 3 (kT L hkt))] ?_
 refine ai.ld 30 (obj S.O tk).gone (fun _ => by kernel_rfl) (fun kz => ?_) (fun kz => ?_)
 ·refine gK 1 [(31, .iface 96 (vP (L.b tk)))] [] ?_
  refine gL [] (jI (vP (L.b tk))) ?_
  rintro _ _ ⟨rfl, rfl⟩
  refine gK 3 [(25, .bool true)] [] ?_
  refine NN ?_
  refine CT ?_
  refine SR ?_
  refine gK 1 [(4, vI 170)] [] ?_
  refine NN (af.ret (aj.aG (aj.ar ?_)))
  exact RT (vI 170) [0, 1, 2, 3, 4, 5, 6, 7] (⟨L, by rw [show (bG S c) = (170, S, c) by unfold bG; rw [cF]; exact if_pos ⟨kz, rfl⟩] <;> exact ⟨rfl, rfl⟩⟩)
 refine gK 5 [(25, .bool false)] [] ?_
 refine NN ?_
 refine CF ?_
 refine SR ?_
 refine gK 4 [(39, vI (c.mode))] [(3, a_ 6 cb)] ?_
 refine gL [] (d9 (c.mode) 4095) ?_
 rintro _ _ ⟨rfl, rfl⟩
 refine gK 2 [(35, .bool (!(decide (0 ≤ c.mode ∧ c.mode ≤ 4095))))] [] ?_
 refine NN ?_
 refine af.cr (p := 0 ≤ c.mode ∧ c.mode ≤ 4095) (fun _ => by kernel_rfl) (fun jZ => ?_) (fun jZ => ?_)
 ·refine SR ?_
  refine gK 1 [(4, vI 120)] [] ?_
  refine NN (af.ret (aj.aG (aj.ar ?_)))
  exact RT (vI 120) [0, 1, 2, 3, 4, 5, 6, 7] (⟨L, by rw [show (bG S c) = (120, S, c) by unfold bG; rw [cF]; exact (if_neg (fun h => absurd h.1 (by rw [kz]; decide))).trans (if_neg jZ)] <;> exact ⟨rfl, rfl⟩⟩)
 refine SR ?_
 refine gK 4 [(46, vI (c.uid))] [(3, a_ 6 cb)] ?_
 refine gL [] (d9 (c.uid) 2147483647) ?_
 rintro _ _ ⟨rfl, rfl⟩
 refine gK 2 [(49, .bool (!(decide (0 ≤ c.uid ∧ c.uid ≤ 2147483647))))] [] ?_
 refine ai.fM 49 (0 ≤ c.uid ∧ c.uid ≤ 2147483647) (fun _ => by kernel_rfl) (fun qG => ?_) (fun qG => ?_)
 ·refine gK 8 [(42, .bool true)] [] ?_
  refine NN ?_
  refine CT ?_
  refine SR ?_
  refine gK 1 [(4, vI 11)] [] ?_
  refine NN (af.ret (aj.aG (aj.ar ?_)))
  exact RT (vI 11) [0, 1, 2, 3, 4, 5, 6, 7] (⟨L, by rw [show (bG S c) = (11, S, c) by unfold bG; rw [cF]; exact (if_neg (fun h => absurd h.1 (by rw [kz]; decide))).trans ((if_pos jZ).trans (if_neg (fun h => qG h.1)))] <;> exact ⟨rfl, rfl⟩⟩)
 refine gK 4 [(53, vI (c.gid))] [(3, a_ 6 cb)] ?_
 refine gL [] (d9 (c.gid) 2147483647) ?_
 rintro _ _ ⟨rfl, rfl⟩
 refine gK 3 [(42, .bool (!(decide (0 ≤ c.gid ∧ c.gid ≤ 2147483647))))] [] ?_
 refine NN ?_
 refine af.cr (p := 0 ≤ c.gid ∧ c.gid ≤ 2147483647) (fun _ => by kernel_rfl) (fun qH => ?_) (fun qH => ?_)
 ·refine SR ?_
  refine gK 1 [(4, vI 11)] [] ?_
  refine NN (af.ret (aj.aG (aj.ar ?_)))
  exact RT (vI 11) [0, 1, 2, 3, 4, 5, 6, 7] (⟨L, by rw [show (bG S c) = (11, S, c) by unfold bG; rw [cF]; exact (if_neg (fun h => absurd h.1 (by rw [kz]; decide))).trans ((if_pos jZ).trans (if_neg (fun h => qH h.2)))] <;> exact ⟨rfl, rfl⟩⟩)
 refine SR ?_
 refine gK 4 [(61, .agg #[vI (c.sec), vI (c.nano)])] [(3, A_ 6 cb 2)] ?_
 refine gL [] (fT c.sec c.nano) ?_
 rintro _ _ ⟨rfl, rfl⟩
 refine gK 2 [(57, .bool (!(decide (cR c.sec c.nano))))] [] ?_
 refine NN ?_
 refine af.cr (p := cR c.sec c.nano) (fun _ => by kernel_rfl) (fun ux => ?_) (fun ux => ?_)
 ·refine SR ?_
  refine gK 1 [(4, vI 20)] [] ?_
  refine NN (af.ret (aj.aG (aj.ar ?_)))
  exact RT (vI 20) [0, 1, 2, 3, 4, 5, 6, 7] (⟨L, by rw [show (bG S c) = (20, S, c) by unfold bG; rw [cF]; exact (if_neg (fun h => absurd h.1 (by rw [kz]; decide))).trans ((if_pos jZ).trans ((if_pos ⟨qG, qH⟩).trans (if_neg ux)))] <;> exact ⟨rfl, rfl⟩⟩)
 refine af.skip (aj.aT (NX (af.seq ?_)))
 skip
 refine af.mem (aL := [.blk f [vI (S.X.cN), vI (S.X.cB), vI (S.X.cH), vI (S.X.cS), vI (S.X.cZ), .map (some m), vP t, vI (S.X.last), vI (S.X.ah), vI (S.X.used)] 86, .abs (aH Tryz.prog 3 m (aP (aK L S.idx)) S.idx.length), .abs (aZ 156 t S.X.cH S.ay (aK L S.us)), .abs (ak (iK (aQ S.O L) tk bR.none)), .abs (ak (aW S.O L)), .abs (ak (bh S.O L)), .blk cb [vI (c.op), vI (c.handle), vI (c.other), .string c.name, .string c.text, .slice c.dA (c.data.length) (c.dC), vI (c.mode), vI (c.uid), vI (c.gid), vI (c.sec), vI (c.nano), vI (c.code), vI (c.answer)] 43, .abs R, .blk (L.b tk) [vI ((obj S.O tk).id), vI ((obj S.O tk).mode), vI ((obj S.O tk).uid), vI ((obj S.O tk).gid), vI ((obj S.O tk).sec), vI ((obj S.O tk).nano), vI ((obj S.O tk).links), vI ((obj S.O tk).opens), .bool (obj S.O tk).gone, .map (some (L.m tk)), (qt L (obj S.O tk).up)] 99]) (fun w hS => hS.tQ (i := 3) (k := tk) rfl (by rw [hkt]; decide) (gV (hkt)) (by rw [hkt]; rfl)) ?_
 refine af.bZ (S := [pC cb c]) [0, 1, 2, 3, 4, 5, 6, 7, 8, 9, 10, 11, 12, 13, 14, 15, 16, 17, 18, 19, 20, 21, 22, 23, 24, 25, 26, 27, 28, 29, 30, 31] 22 [6] (by kernel_rfl) (by kernel_rfl) rfl (by kernel_rfl) ?_
 refine aJ.reads (r := 0) (l := [22, 23, 24, 25, 26, 27, 28, 29, 30, 31]) (fr' := (IX L tk c ++ lG c ++ [(85, .pointer (some ⟨(L.b tk), 1, none⟩))])) (aq := [cb = cb, cb = cb, cb = cb, cb = cb, cb = cb]) [0, 1, 2, 3, 4, 5, 6, 7, 8, 9, 10, 11, 12, 13, 14, 15, 16, 17, 18, 19, 20, 21] [o_, o_, o_, o_, o_, o_, o_, ⟨[.at 0], none, none, none, none⟩, o_, o_, o_, ⟨[.at 0], none, none, none, none⟩, o_, o_, o_, ⟨[.at 0], none, none, none, none⟩, o_, o_, o_, ⟨[.at 0, .at 0], none, none, none, none⟩, o_, o_] [65, 66, 67, 71, 75, 79, 83, 85] (fun _ => by kernel_rfl) ⟨rfl, rfl, rfl, rfl, rfl, trivial⟩ rfl rfl ?_
 refine mC [6] [] [(0, a_ 8 (L.b tk))] [(8, [(1, vI (c.mode))])] ?_
 refine aJ.cut (ι := Unit) (fr' := fun (_ : Unit) => (zu L tk c ++ lG c ++ [(86, vP (L.b tk))])) (hp' := fun (_ : Unit) => (jU f m t S L tk cb c R ++ [NT L tk S c])) [6] rfl rfl ?_ rfl (fun _ => by kernel_rfl) ?_
 ·refine gK 1 [(86, vP (L.b tk))] [] ?_
  refine NL ?_
  exact MD () [66, 67, 75, 79, 83, 86] [0, 1, 2, 3, 4, 5, 6, 7, 8]
 rintro _
 refine aJ.cut (ι := Unit) (fr' := fun (_ : Unit) => (zu L tk c ++ lG c ++ [(87, .pointer (some ⟨(L.b tk), 2, none⟩))])) (hp' := fun (_ : Unit) => (jU f m t S L tk cb c R ++ [NT L tk S c])) [6] rfl rfl ?_ rfl (fun _ => by kernel_rfl) ?_
 ·refine gK 1 [(87, .pointer (some ⟨(L.b tk), 2, none⟩))] [] ?_
  refine NL ?_
  exact MD () [66, 67, 75, 79, 83, 87] [0, 1, 2, 3, 4, 5, 6, 7, 8]
 rintro _
 refine mC [6] [] [(0, a_ 8 (L.b tk))] [(8, [(2, vI (c.uid))])] ?_
 refine aJ.cut (ι := Unit) (fr' := fun (_ : Unit) => ([(67, vP (L.b tk))] ++ lG c ++ [(88, vP (L.b tk))])) (hp' := fun (_ : Unit) => (jU f m t S L tk cb c R ++ [NU L tk S c])) [6] rfl rfl ?_ rfl (fun _ => by kernel_rfl) ?_
 ·refine gK 1 [(88, vP (L.b tk))] [] ?_
  refine NL ?_
  exact MD () [67, 79, 83, 88] [0, 1, 2, 3, 4, 5, 6, 7, 8]
 rintro _
 refine aJ.cut (ι := Unit) (fr' := fun (_ : Unit) => ([(67, vP (L.b tk))] ++ lG c ++ [(89, .pointer (some ⟨(L.b tk), 3, none⟩))])) (hp' := fun (_ : Unit) => (jU f m t S L tk cb c R ++ [NU L tk S c])) [6] rfl rfl ?_ rfl (fun _ => by kernel_rfl) ?_
 ·refine gK 1 [(89, .pointer (some ⟨(L.b tk), 3, none⟩))] [] ?_
  refine NL ?_
  exact MD () [67, 79, 83, 89] [0, 1, 2, 3, 4, 5, 6, 7, 8]
 rintro _
 refine mC [6] [] [(0, a_ 8 (L.b tk))] [(8, [(3, vI (c.gid))])] ?_
 refine aJ.cut (ι := Unit) (fr' := fun (_ : Unit) => [(83, .agg #[vI (c.sec), vI (c.nano)]), (90, vP (L.b tk))]) (hp' := fun (_ : Unit) => (jU f m t S L tk cb c R ++ [NV L tk S c])) [6] rfl rfl ?_ rfl (fun _ => by kernel_rfl) ?_
 ·refine gK 1 [(90, vP (L.b tk))] [] ?_
  refine NL ?_
  exact MD () [83, 90] [0, 1, 2, 3, 4, 5, 6, 7, 8]
 rintro _
 refine aJ.cut (ι := Unit) (fr' := fun (_ : Unit) => (IY c L tk)) (hp' := fun (_ : Unit) => (jU f m t S L tk cb c R ++ [NV L tk S c])) [6] rfl rfl ?_ rfl (fun _ => by kernel_rfl) ?_
 ·refine gK 1 [(91, .pointer (some ⟨(L.b tk), 4, none⟩))] [] ?_
  refine NL ?_
  exact MD () [83, 91] [0, 1, 2, 3, 4, 5, 6, 7, 8]
 rintro _
 refine aJ.last rfl rfl ?_
 refine gC 1 [] [(0, A_ 8 (L.b tk) 2)] [(8, [(4, vI (c.sec)), (5, vI (c.nano))])] ?_
 refine NL (aj.np (NX (SR ?_)))
 refine ai.mem (aL := [.abs (ak (aQ (aB S.O tk (fun o => { o with mode := c.mode, uid := c.uid, gid := c.gid, sec := c.sec, nano := c.nano })) L)), .blk f [vI (S.X.cN), vI (S.X.cB), vI (S.X.cH), vI (S.X.cS), vI (S.X.cZ), .map (some m), vP t, vI (S.X.last), vI (S.X.ah), vI (S.X.used)] 86, .abs (aH Tryz.prog 3 m (aP (aK L S.idx)) S.idx.length), .abs (aZ 156 t S.X.cH S.ay (aK L S.us)), .abs (ak (aW (aB S.O tk (fun o => { o with mode := c.mode, uid := c.uid, gid := c.gid, sec := c.sec, nano := c.nano })) L)), .abs (ak (bh (aB S.O tk (fun o => { o with mode := c.mode, uid := c.uid, gid := c.gid, sec := c.sec, nano := c.nano })) L)), .blk cb [vI (c.op), vI (c.handle), vI (c.other), .string c.name, .string c.text, .slice c.dA (c.data.length) (c.dC), vI (c.mode), vI (c.uid), vI (c.gid), vI (c.sec), vI (c.nano), vI (c.code), vI (c.answer)] 43, .abs R]) (fun w hS => by have h := hS.uR (O := S.O) (L := L) (i := 3) (j := 8) (idx := [0, 1, 2, 4, 5, 6, 7]) (k := tk) (f := (fun o => { o with mode := c.mode, uid := c.uid, gid := c.gid, sec := c.sec, nano := c.nano })) rfl (fun _ hx => lU hx) rfl (by kernel_rfl) rfl (by show (obj S.O tk).kind ≠ 0; rw [hkt]; decide) ((gV (o := (fun o => { o with mode := c.mode, uid := c.uid, gid := c.gid, sec := c.sec, nano := c.nano }) (obj S.O tk)) (hkt)).trans rfl) (by show kN (obj S.O tk).kind = _; rw [hkt]; rfl); rw [kE (O := S.O) (k := tk) (f := (fun o => { o with mode := c.mode, uid := c.uid, gid := c.gid, sec := c.sec, nano := c.nano })) rfl rfl, kF (O := S.O) (k := tk) (f := (fun o => { o with mode := c.mode, uid := c.uid, gid := c.gid, sec := c.sec, nano := c.nano })) rfl rfl]; exact h) ?_
 have zk : (obj (aB S.O tk (fun o => { o with mode := c.mode, uid := c.uid, gid := c.gid, sec := c.sec, nano := c.nano })) tk).kind = 2 := (iC (f := (fun o => { o with mode := c.mode, uid := c.uid, gid := c.gid, sec := c.sec, nano := c.nano })) (fun _ => rfl)).trans (hkt)
 generalize bP : (aB S.O tk (fun o => { o with mode := c.mode, uid := c.uid, gid := c.gid, sec := c.sec, nano := c.nano })) = bK at zk ⊢
 refine gK 1 [(4, vI 0)] [] ?_
 refine NN (af.ret ?_)
 exact RT (l := [pF f m t S.X, pI m L S.idx, jN t S L, pO bK L, pD bK L, pE bK L, pC cb c]) (vI 0) [1, 2, 3, 0, 4, 5, 6, 7] (⟨L, by subst bP; rw [show (bG S c) = (0, { S with O := aB S.O tk (fun o => { o with mode := c.mode, uid := c.uid, gid := c.gid, sec := c.sec, nano := c.nano }) }, c) by unfold bG; rw [cF]; exact (if_neg (fun h => absurd h.1 (by rw [kz]; decide))).trans ((if_pos jZ).trans ((if_pos ⟨qG, qH⟩).trans (if_pos ux)))] <;> exact ⟨rfl, rfl⟩⟩)
theorem CC {β : Bs} (S : aI) (L : HL) (f m t : Nat) (hI : Inv S) (cb : Nat) (c : aV) (hC : fJ β c) :
    Spec Tryz.prog β 82 #[vP f, vP cb] ((pA f m t L S) ++ [pC cb c]) (fun v l => ∃ L2, v = vI (dm S c).1 ∧ l = ((pA f m t L2 ((dm S c).2.1)) ++ [.blk cb (gh ((dm S c).2.2)) 43])) := by
 have hX := hI.hX
 refine Spec.enter Tryz.func82 rfl Tryz.ntmps82 (Nat.le_of_ble_eq_true rfl) (fun R => ?_)
 refine SR ?_
 refine gK 1 [] [] ?_
 refine NN (af.seq ?_)
 refine af.bF (by kernel_rfl) (by kernel_rfl) ?_
 refine gQ 9 [(10, vP f), (14, vI (c.handle)), (18, .string c.name)] [(4, a_ 6 cb), (8, a_ 6 cb)] ?_
 rcases jM hI.toInv0 c.handle c.name 192 with ⟨e, hab, hne⟩ | ⟨d, hab, hd, gA, hgn, cF⟩
 ·refine aR.call (f := 134) (args := #[vP f, vI (c.handle), .string c.name, vI 192]) (d := (some 19)) (pre := [pF f m t S.X, jN t S L, pO S.O L]) (R := (l6 m L S cb c R)) (pk := [0, 2, 3, 1, 4, 5, 6, 7]) (gM := [0, 3, 1, 2, 4, 5, 6, 7]) (v0 := .tuple #[.pointer none, vI (e)]) (fun _ => by kernel_rfl) ((by have h := cY S L f m t hI c.handle hC.hw c.name hC.nm 192 (β := β); rw [hab] at h; exact h)) rfl (by kernel_rfl) rfl (by kernel_rfl) (fun _ _ h => h) ?_
  refine gQ 5 [(5, .pointer none), (6, vI (e))] [] ?_
  refine NQ (NX (af.seq (SR ?_)))
  refine gK 2 [(23, .bool (!(decide ((e : Int) = (0 : Int)))))] [] ?_
  refine NN ?_
  refine af.cr (p := (e : Int) = (0 : Int)) (fun _ => by kernel_rfl) (fun h23 => ?_) (fun h23 => ?_)
  ·refine SR ?_
   refine gK 2 [(4, vI (e))] [] ?_
   refine NN (af.ret (aj.ar ?_))
   exact RT (vI (e)) [0, 1, 2, 3, 4, 5, 6, 7] (⟨L, by rw [show (dm S c) = (e, S, c) by unfold dm; rw [hab]] <;> exact ⟨rfl, rfl⟩⟩)
  exact absurd h23 hne
 have hkd : (obj S.O d).kind = 2 := hI.kind hd
 refine aR.call (f := 134) (args := #[vP f, vI (c.handle), .string c.name, vI 192]) (d := (some 19)) (pre := [pF f m t S.X, jN t S L, pO S.O L]) (R := (l6 m L S cb c R)) (pk := [0, 2, 3, 1, 4, 5, 6, 7]) (gM := [0, 3, 1, 2, 4, 5, 6, 7]) (v0 := .tuple #[vP (L.b d), vI 0]) (fun _ => by kernel_rfl) ((by have h := cY S L f m t hI c.handle hC.hw c.name hC.nm 192 (β := β); rw [hab] at h; exact h)) rfl (by kernel_rfl) rfl (by kernel_rfl) (fun _ _ h => h) ?_
 refine gQ 5 (Cw L d) [] ?_
 refine NQ (NX (af.seq (SR ?_)))
 refine gK 2 [(23, .bool false)] [] ?_
 refine NN ?_
 refine CF ?_
 refine af.skip (NX (af.seq (SR ?_)))
 refine gK 4 [(28, vI (c.mode))] [(3, a_ 6 cb)] ?_
 refine gL [] (d9 (c.mode) 4095) ?_
 rintro _ _ ⟨rfl, rfl⟩
 refine gK 1 [(30, .bool (!(decide (0 ≤ c.mode ∧ c.mode ≤ 4095))))] [] ?_
 refine NN ?_
 refine af.cr (p := 0 ≤ c.mode ∧ c.mode ≤ 4095) (fun _ => by kernel_rfl) (fun kz => ?_) (fun kz => ?_)
 ·refine SR ?_
  refine gK 1 [(4, vI 120)] [] ?_
  refine NN (af.ret (aj.ar ?_))
  exact RT (vI 120) [0, 1, 2, 3, 4, 5, 6, 7] (⟨L, by rw [show (dm S c) = (120, S, c) by unfold dm; rw [hab]; exact if_neg kz] <;> exact ⟨rfl, rfl⟩⟩)
 refine af.skip (NX (af.seq (SR ?_)))
 refine gK 6 [(31, vP f), (32, vP (L.b d)), (36, .string c.name)] [(5, a_ 6 cb)] ?_
 refine gL [0, 1, 5, 3] (qD S L f m t hI d hd c.name hC.nm) ?_
 rintro _ _ ⟨rfl, rfl⟩
 refine gK 1 [(6, vI ((bO S.X S.O S.idx d c.name)))] [] ?_
 refine NS ?_
 refine gK 2 [(39, .bool (!(decide (((bO S.X S.O S.idx d c.name) : Int) = (0 : Int)))))] [] ?_
 refine NN ?_
 refine af.cr (p := ((bO S.X S.O S.idx d c.name) : Int) = (0 : Int)) (fun _ => by kernel_rfl) (fun h0 => ?_) (fun h0 => ?_)
 ·refine SR ?_
  refine gK 2 [(4, vI ((bO S.X S.O S.idx d c.name)))] [] ?_
  refine NN (af.ret (aj.ar ?_))
  exact RT (vI ((bO S.X S.O S.idx d c.name))) [0, 1, 4, 3, 5, 2, 6, 7] (⟨L, by rw [show (dm S c) = (bO S.X S.O S.idx d c.name, S, c) by unfold dm; rw [hab]; exact (if_pos kz).trans (if_neg h0)] <;> exact ⟨rfl, rfl⟩⟩)
 have hno := lY h0
 refine af.skip (NX (SR ?_))
 refine gN 8 (fun b4 => [(7, vP b4)]) (fun b4 => [(3, a_ 6 cb)]) (fun _ => []) (fun b4 => .blk b4 [vI 0, vI (c.mode), vI 0, vI 0, vI 0, vI 0, vI 0, vI 0, .bool false, .slice none (0) (0)] 92) (fun b4 => ?_)
 refine NN (af.seq (af.seq ?_))
 rcases Int.lt_or_le (S.us.length : Int) S.X.cH with qE | qE
 ·refine af.region ?_
  refine gK 4 (L6 cb f b4) [] ?_
  obtain ⟨L2, hL2⟩ : ∃ L2 : HL, L2 = L.put (aE S.X) b4 0 none 0 := ⟨_, rfl⟩
  have hfr := hI.toInv0.fresh
  refine ai.mem (aL := [.abs (ak (aQ (aB S.O (aE S.X) (fun _ => (⟨0, c.mode, 0, 0, 0, 0, 0, 0, false, 1, [], ⟨#[]⟩, [], none⟩ : aS))) L2)), .blk f [vI (S.X.cN), vI (S.X.cB), vI (S.X.cH), vI (S.X.cS), vI (S.X.cZ), .map (some m), vP t, vI (S.X.last), vI (S.X.ah), vI (S.X.used)] 86, .abs (aH Tryz.prog 3 m (aP (aK L S.idx)) S.idx.length), .abs (ak (bh S.O L)), .abs (aZ 156 t S.X.cH S.ay (aK L S.us)), .abs (ak (aW S.O L)), .blk cb [vI (c.op), vI (c.handle), vI (c.other), .string c.name, .string c.text, .slice c.dA (c.data.length) (c.dC), vI (c.mode), vI (c.uid), vI (c.gid), vI (c.sec), vI (c.nano), vI (c.code), vI (c.answer)] 43, .abs R]) (fun w hS => hS.qA hL2 hfr (o := (⟨0, c.mode, 0, 0, 0, 0, 0, 0, false, 1, [], ⟨#[]⟩, [], none⟩ : aS)) (i := 3) (j := 8) (ix := [0, 1, 2, 4, 5, 6, 7]) rfl rfl (by kernel_rfl) rfl (by show (1 : Int) ≠ 0; decide) ((eE (L := L2) (k := (aE S.X)) (o := (⟨0, c.mode, 0, 0, 0, 0, 0, 0, false, 1, [], ⟨#[]⟩, [], none⟩ : aS)) rfl).trans (by rw [show L2.dA (aE S.X) = none by rw [hL2]; exact if_pos rfl, show L2.dC (aE S.X) = 0 by rw [hL2]; exact if_pos rfl]; rfl)) rfl) ?_
  refine ai.mem (aL := (zw S c L2 f m t L ++ [pD S.O L, pC cb c, .abs R])) (fun w hS => hS.rG hL2 hfr (o := (⟨0, c.mode, 0, 0, 0, 0, 0, 0, false, 1, [], ⟨#[]⟩, [], none⟩ : aS)) (i := 3) rfl (by show (1 : Int) ≠ 2; decide)) ?_
  refine ai.mem (aL := (zw S c L2 f m t L ++ [pD S.O L, pC cb c, .abs R, .abs (aF 5 1 none 0 0 ([]))])) (fun w hS => hS.jL (e := 5) (size := 1)) ?_
  refine ai.mem (aL := ([L5 S c L2] ++ zw S c L2 f m t L ++ [pC cb c, .abs R])) (fun w hS => hS.Es hL2 (o := (⟨0, c.mode, 0, 0, 0, 0, 0, 0, false, 1, [], ⟨#[]⟩, [], none⟩ : aS)) (i := 5) (j := 8) (ix := [0, 1, 2, 3, 4, 6, 7]) rfl rfl (by kernel_rfl) rfl rfl rfl) ?_
  refine ai.mem (aL := [.abs (ak (aW (aB S.O (aE S.X) (fun _ => (⟨0, c.mode, 0, 0, 0, 0, 0, 0, false, 1, [], ⟨#[]⟩, [], none⟩ : aS))) L2)), .abs (ak (aQ (aB S.O (aE S.X) (fun _ => (⟨0, c.mode, 0, 0, 0, 0, 0, 0, false, 1, [], ⟨#[]⟩, [], none⟩ : aS))) L2)), .blk f [vI (S.X.cN), vI (S.X.cB), vI (S.X.cH), vI (S.X.cS), vI (S.X.cZ), .map (some m), vP t, vI (S.X.last), vI (S.X.ah), vI (S.X.used)] 86, .abs (aH Tryz.prog 3 m (aP (aK L2 S.idx)) S.idx.length), .abs (ak (bh (aB S.O (aE S.X) (fun _ => (⟨0, c.mode, 0, 0, 0, 0, 0, 0, false, 1, [], ⟨#[]⟩, [], none⟩ : aS))) L2)), .abs (aZ 156 t S.X.cH S.ay (aK L2 S.us)), .blk cb [vI (c.op), vI (c.handle), vI (c.other), .string c.name, .string c.text, .slice c.dA (c.data.length) (c.dC), vI (c.mode), vI (c.uid), vI (c.gid), vI (c.sec), vI (c.nano), vI (c.code), vI (c.answer)] 43, .abs R]) (fun w hS => by rw [fo hL2 hfr.idx, fo hL2 hfr.us]; exact hS) ?_
  refine gL (f := 132) (args := #[vP f, .iface 89 (vP b4)]) (pre := [pF f m t S.X, jN t S L2, LZ S c L2]) [2, 5, 1] ((by have h := pU (β := β) { S with O := (aB S.O (aE S.X) (fun _ => (⟨0, c.mode, 0, 0, 0, 0, 0, 0, false, 1, [], ⟨#[]⟩, [], none⟩ : aS))) } L2 f m t ⟨(aE S.X), 1⟩ (by show (obj (aB S.O (aE S.X) (fun _ => (⟨0, c.mode, 0, 0, 0, 0, 0, 0, false, 1, [], ⟨#[]⟩, [], none⟩ : aS))) (aE S.X)).kind = 1; rw [bH]) (by simp) (by show 0 ≤ (obj (aB S.O (aE S.X) (fun _ => (⟨0, c.mode, 0, 0, 0, 0, 0, 0, false, 1, [], ⟨#[]⟩, [], none⟩ : aS))) (aE S.X)).opens ∧ (obj (aB S.O (aE S.X) (fun _ => (⟨0, c.mode, 0, 0, 0, 0, 0, 0, false, 1, [], ⟨#[]⟩, [], none⟩ : aS))) (aE S.X)).opens ≤ 1048576; rw [bH]; exact ⟨Int.le_refl _, by show (0 : Int) ≤ 1048576; decide⟩); rw [lX hL2, iq (S := { S with O := (aB S.O (aE S.X) (fun _ => (⟨0, c.mode, 0, 0, 0, 0, 0, 0, false, 1, [], ⟨#[]⟩, [], none⟩ : aS))) }) (t := ⟨(aE S.X), 1⟩) qE] at h; exact h)) ?_
  rintro _ _ ⟨rfl, rfl⟩
  refine gC 7 [(6, vI 0)] [(5, a_ 6 cb)] [(6, [(12, vI ((TabM.least S.us)))])] ?_
  refine NS ?_
  refine gK 2 [(59, .bool false)] [] ?_
  refine NN ?_
  refine CF ?_
  refine af.skip (NX (SR ?_))
  refine ai.slot 7 (vP b4) (vP (L2.b (aE S.X))) (fun _ => by kernel_rfl) (by rw [xB hL2]) ?_
  refine ai.mem (aL := [.blk f [vI (S.X.cN), vI (S.X.cB), vI (S.X.cH), vI (S.X.cS), vI (S.X.cZ), .map (some m), vP t, vI (S.X.last), vI (S.X.ah), vI (S.X.used)] 86, .abs (aZ 156 t S.X.cH (max S.ay ((S.us.length : Int) + 1)) (aK L2 (ins (TabM.least S.us) ⟨(aE S.X), 1⟩ S.us))), .abs (ak (aQ (aB (aB S.O (aE S.X) (fun _ => (⟨0, c.mode, 0, 0, 0, 0, 0, 0, false, 1, [], ⟨#[]⟩, [], none⟩ : aS))) (aE S.X) (fun o => { o with opens := o.opens + 1 })) L2)), .abs (ak (aW (aB (aB S.O (aE S.X) (fun _ => (⟨0, c.mode, 0, 0, 0, 0, 0, 0, false, 1, [], ⟨#[]⟩, [], none⟩ : aS))) (aE S.X) (fun o => { o with opens := o.opens + 1 })) L2)), .abs (aH Tryz.prog 3 m (aP (aK L2 S.idx)) S.idx.length), .abs (ak (bh (aB (aB S.O (aE S.X) (fun _ => (⟨0, c.mode, 0, 0, 0, 0, 0, 0, false, 1, [], ⟨#[]⟩, [], none⟩ : aS))) (aE S.X) (fun o => { o with opens := o.opens + 1 })) L2)), .blk cb [vI (c.op), vI (c.handle), vI (c.other), .string c.name, .string c.text, .slice c.dA (c.data.length) (c.dC), vI (c.mode), vI (c.uid), vI (c.gid), vI (c.sec), vI (c.nano), vI (c.code), vI ((TabM.least S.us))] 43, .abs R]) (fun w hS => by rw [kE (O := (aB S.O (aE S.X) (fun _ => (⟨0, c.mode, 0, 0, 0, 0, 0, 0, false, 1, [], ⟨#[]⟩, [], none⟩ : aS)))) (k := (aE S.X)) (f := (fun o => { o with opens := o.opens + 1 })) rfl rfl, kF (O := (aB S.O (aE S.X) (fun _ => (⟨0, c.mode, 0, 0, 0, 0, 0, 0, false, 1, [], ⟨#[]⟩, [], none⟩ : aS)))) (k := (aE S.X)) (f := (fun o => { o with opens := o.opens + 1 })) rfl rfl]; exact hS) ?_
  have hkN : (obj (aB (aB S.O (aE S.X) (fun _ => (⟨0, c.mode, 0, 0, 0, 0, 0, 0, false, 1, [], ⟨#[]⟩, [], none⟩ : aS))) (aE S.X) (fun o => { o with opens := o.opens + 1 })) (aE S.X)).kind = 1 := by rw [bH, bH]
  have NW : (obj (aB (aB S.O (aE S.X) (fun _ => (⟨0, c.mode, 0, 0, 0, 0, 0, 0, false, 1, [], ⟨#[]⟩, [], none⟩ : aS))) (aE S.X) (fun o => { o with opens := o.opens + 1 })) (aE S.X)).opens = 1 := by rw [bH, bH]; rfl
  generalize bP : (aB (aB S.O (aE S.X) (fun _ => (⟨0, c.mode, 0, 0, 0, 0, 0, 0, false, 1, [], ⟨#[]⟩, [], none⟩ : aS))) (aE S.X) (fun o => { o with opens := o.opens + 1 })) = bK at hkN NW ⊢
  refine gK 6 [(8, vI ((obj bK (aE S.X)).opens))] [(4, v_ 2 (iP L2 hkN))] ?_
  refine NS ?_
  refine gK 6 [(66, vP (L2.b (aE S.X))), (67, vP f), (71, vI (c.mode))] [(5, a_ 6 cb)] ?_
  refine gL [0] (qC S.X f m t hX c.mode) ?_
  rintro _ _ ⟨rfl, rfl⟩
  refine gK 2 [(74, vP (L2.b (aE S.X)))] [] ?_
  refine ai.mem (aL := [.blk f [vI (S.X.cN), vI (S.X.cB), vI (S.X.cH), vI (S.X.cS), vI (S.X.cZ), .map (some m), vP t, vI (S.X.last + 1), vI (S.X.ah), vI (S.X.used)] 86, .abs (aZ 156 t S.X.cH (max S.ay ((S.us.length : Int) + 1)) (aK L2 (ins (TabM.least S.us) ⟨(aE S.X), 1⟩ S.us))), .abs (ak (iK (aQ bK L2) (aE S.X) bR.none)), .abs (ak (aW bK L2)), .abs (aH Tryz.prog 3 m (aP (aK L2 S.idx)) S.idx.length), .abs (ak (bh bK L2)), .blk cb [vI (c.op), vI (c.handle), vI (c.other), .string c.name, .string c.text, .slice c.dA (c.data.length) (c.dC), vI (c.mode), vI (c.uid), vI (c.gid), vI (c.sec), vI (c.nano), vI (c.code), vI ((TabM.least S.us))] 43, .abs R, .blk (L2.b (aE S.X)) [vI ((obj bK (aE S.X)).id), vI ((obj bK (aE S.X)).mode), vI ((obj bK (aE S.X)).uid), vI ((obj bK (aE S.X)).gid), vI ((obj bK (aE S.X)).sec), vI ((obj bK (aE S.X)).nano), vI ((obj bK (aE S.X)).links), vI ((obj bK (aE S.X)).opens), .bool (obj bK (aE S.X)).gone, .slice (L2.dA (aE S.X)) ((obj bK (aE S.X)).data.length) ((L2.dC (aE S.X)))] 92]) (fun w hS => hS.tQ (i := 2) (k := (aE S.X)) rfl (by rw [hkN]; decide) (eE (hkN)) (by rw [hkN]; rfl)) ?_
  refine gC 1 [] [(0, A_ 8 (L2.b (aE S.X)) 9)] [(8, [(0, vI (S.X.last + 1)), (1, vI (c.mode)), (2, vI 0), (3, vI 0), (4, vI (S.X.cS)), (5, vI (S.X.cZ)), (6, vI 0), (7, vI 0), (8, .bool false)])] ?_
  refine ai.mem (aL := [.abs (ak (aQ (aB bK (aE S.X) (fun o => { o with id := S.X.last + 1, mode := c.mode, uid := 0, gid := 0, sec := S.X.cS, nano := S.X.cZ, links := 0, opens := 0, gone := false })) L2)), .blk f [vI (S.X.cN), vI (S.X.cB), vI (S.X.cH), vI (S.X.cS), vI (S.X.cZ), .map (some m), vP t, vI (S.X.last + 1), vI (S.X.ah), vI (S.X.used)] 86, .abs (aZ 156 t S.X.cH (max S.ay ((S.us.length : Int) + 1)) (aK L2 (ins (TabM.least S.us) ⟨(aE S.X), 1⟩ S.us))), .abs (ak (aW (aB bK (aE S.X) (fun o => { o with id := S.X.last + 1, mode := c.mode, uid := 0, gid := 0, sec := S.X.cS, nano := S.X.cZ, links := 0, opens := 0, gone := false })) L2)), .abs (aH Tryz.prog 3 m (aP (aK L2 S.idx)) S.idx.length), .abs (ak (bh (aB bK (aE S.X) (fun o => { o with id := S.X.last + 1, mode := c.mode, uid := 0, gid := 0, sec := S.X.cS, nano := S.X.cZ, links := 0, opens := 0, gone := false })) L2)), .blk cb [vI (c.op), vI (c.handle), vI (c.other), .string c.name, .string c.text, .slice c.dA (c.data.length) (c.dC), vI (c.mode), vI (c.uid), vI (c.gid), vI (c.sec), vI (c.nano), vI (c.code), vI ((TabM.least S.us))] 43, .abs R]) (fun w hS => by have h := hS.uR (O := bK) (L := L2) (i := 2) (j := 8) (idx := [0, 1, 3, 4, 5, 6, 7]) (k := (aE S.X)) (f := (fun o => { o with id := S.X.last + 1, mode := c.mode, uid := 0, gid := 0, sec := S.X.cS, nano := S.X.cZ, links := 0, opens := 0, gone := false })) rfl (fun _ hx => lU hx) rfl (by kernel_rfl) rfl (by show (obj bK (aE S.X)).kind ≠ 0; rw [hkN]; decide) ((eE (o := (fun o => { o with id := S.X.last + 1, mode := c.mode, uid := 0, gid := 0, sec := S.X.cS, nano := S.X.cZ, links := 0, opens := 0, gone := false }) (obj bK (aE S.X))) (hkN)).trans rfl) (by show kN (obj bK (aE S.X)).kind = _; rw [hkN]; rfl); rw [kE (O := bK) (k := (aE S.X)) (f := (fun o => { o with id := S.X.last + 1, mode := c.mode, uid := 0, gid := 0, sec := S.X.cS, nano := S.X.cZ, links := 0, opens := 0, gone := false })) rfl rfl, kF (O := bK) (k := (aE S.X)) (f := (fun o => { o with id := S.X.last + 1, mode := c.mode, uid := 0, gid := 0, sec := S.X.cS, nano := S.X.cZ, links := 0, opens := 0, gone := false })) rfl rfl]; exact h) ?_
  have uh : (obj (aB bK (aE S.X) (fun o => { o with id := S.X.last + 1, mode := c.mode, uid := 0, gid := 0, sec := S.X.cS, nano := S.X.cZ, links := 0, opens := 0, gone := false })) (aE S.X)).kind = 1 := (iC (f := (fun o => { o with id := S.X.last + 1, mode := c.mode, uid := 0, gid := 0, sec := S.X.cS, nano := S.X.cZ, links := 0, opens := 0, gone := false })) (fun _ => rfl)).trans (hkN)
  generalize cu : (aB bK (aE S.X) (fun o => { o with id := S.X.last + 1, mode := c.mode, uid := 0, gid := 0, sec := S.X.cS, nano := S.X.cZ, links := 0, opens := 0, gone := false })) = cX at uh ⊢
  refine NS ?_
  refine gK 5 [(76, vI ((obj bK (aE S.X)).opens)), (79, .pointer (some ⟨(L2.b (aE S.X)), 7, none⟩))] [] ?_
  refine pR 0 [(5, 1), (3, 2)] (aE S.X) 7 (fun o => { o with opens := (obj bK (aE S.X)).opens }) uh (fun rJ jS => ?_)
  have IG := ku jS uh
  refine NS ?_
  have hfin : rJ = aB S.O (aE S.X) (fun _ => { aD S.X 1 c.mode with opens := 1 }) := by subst jS; subst cu; rw [NW]; subst bP; simp only [qp]; rfl
  subst hfin
  show ai _ _ _ _ _ _ [pO (aB S.O (aE S.X) (fun _ => { aD S.X 1 c.mode with opens := 1 })) L2, x6 f m t S, pT t S.X.cH (max S.ay ((S.us.length : Int) + 1)) L2 (ins (TabM.least S.us) ⟨(aE S.X), 1⟩ S.us), pD (aB S.O (aE S.X) (fun _ => { aD S.X 1 c.mode with opens := 1 })) L2, pI m L2 S.idx, pE (aB S.O (aE S.X) (fun _ => { aD S.X 1 c.mode with opens := 1 })) L2, pC cb { c with answer := TabM.least S.us }, .abs R] _
  refine gK 8 [(80, vP f), (81, vP (L.b d)), (85, .string c.name), (87, .iface 89 (vP (L2.b (aE S.X))))] [(5, a_ 6 cb)] ?_
  refine gL (f := 56) (args := #[vP f, vP (L.b d), .string c.name, .iface 89 (vP (L2.b (aE S.X)))]) (pre := [x6 f m t S, pI m L2 S.idx, pO (aB S.O (aE S.X) (fun _ => { aD S.X 1 c.mode with opens := 1 })) L2, pE (aB S.O (aE S.X) (fun _ => { aD S.X 1 c.mode with opens := 1 })) L2]) [1, 4, 0, 5] ((by have h := oP (β := β) S L2 f m t hI.toInv0 d hd c.name hC.nm hno { aD S.X 1 c.mode with opens := 1 } rfl (by simp [aD]) rfl (nI h0); rw [su hL2 (hI.rF hd)] at h; exact h)) ?_
  rintro _ _ ⟨rfl, rfl⟩
  refine NS ?_
  refine ai.mem (aL := [.blk f [vI ((bD S d c.name { aD S.X 1 c.mode with opens := 1 }).X.cN), vI ((bD S d c.name { aD S.X 1 c.mode with opens := 1 }).X.cB), vI ((bD S d c.name { aD S.X 1 c.mode with opens := 1 }).X.cH), vI ((bD S d c.name { aD S.X 1 c.mode with opens := 1 }).X.cS), vI ((bD S d c.name { aD S.X 1 c.mode with opens := 1 }).X.cZ), .map (some m), vP t, vI ((bD S d c.name { aD S.X 1 c.mode with opens := 1 }).X.last), vI ((bD S d c.name { aD S.X 1 c.mode with opens := 1 }).X.ah), vI ((bD S d c.name { aD S.X 1 c.mode with opens := 1 }).X.used)] 86, .abs (aH Tryz.prog 3 m (aP (aK L2 (bD S d c.name { aD S.X 1 c.mode with opens := 1 }).idx)) ((bD S d c.name { aD S.X 1 c.mode with opens := 1 }).idx.length)), .abs (ak (aQ ((bD S d c.name { aD S.X 1 c.mode with opens := 1 }).O) L2)), .abs (ak (bh ((bD S d c.name { aD S.X 1 c.mode with opens := 1 }).O) L2)), .abs (aZ 156 t S.X.cH (max S.ay ((S.us.length : Int) + 1)) (aK L2 (ins (TabM.least S.us) ⟨(aE S.X), 1⟩ S.us))), .abs (ak (aW ((bD S d c.name { aD S.X 1 c.mode with opens := 1 }).O) L2)), .blk cb [vI (c.op), vI (c.handle), vI (c.other), .string c.name, .string c.text, .slice c.dA (c.data.length) (c.dC), vI (c.mode), vI (c.uid), vI (c.gid), vI (c.sec), vI (c.nano), vI (c.code), vI ((TabM.least S.us))] 43, .abs R]) (fun w hS => by rw [show aW ((bD S d c.name { aD S.X 1 c.mode with opens := 1 }).O) L2 = aW (aB S.O (aE S.X) (fun _ => { aD S.X 1 c.mode with opens := 1 })) L2 from fI]; exact hS) ?_
  refine gK 1 [(4, vI 0)] [] ?_
  refine NN (af.ret ?_)
  exact RT (vI 0) [0, 1, 4, 2, 5, 3, 6, 7] (⟨L2, by rw [show (dm S c) = (0, (bD { S with us := (ins (TabM.least S.us) ⟨(aE S.X), 1⟩ S.us), ay := (max S.ay ((S.us.length : Int) + 1)) } d c.name { aD S.X 1 c.mode with opens := 1 }), { c with answer := TabM.least S.us }) by unfold dm; rw [hab]; exact (if_pos kz).trans ((if_pos h0).trans (by rw [show createM S d c.name c.mode = (TabM.least S.us, 0, (bD { S with us := (ins (TabM.least S.us) ⟨(aE S.X), 1⟩ S.us), ay := (max S.ay ((S.us.length : Int) + 1)) } d c.name { aD S.X 1 c.mode with opens := 1 })) from (if_pos h0).trans (if_pos qE)]))] <;> exact ⟨rfl, rfl⟩⟩)
 refine af.region ?_
 refine gK 4 (L6 cb f b4) [] ?_
 obtain ⟨L2, hL2⟩ : ∃ L2 : HL, L2 = L.put (aE S.X) b4 0 none 0 := ⟨_, rfl⟩
 have hfr := hI.toInv0.fresh
 refine ai.mem (aL := [.abs (ak (aQ (aB S.O (aE S.X) (fun _ => (⟨0, c.mode, 0, 0, 0, 0, 0, 0, false, 1, [], ⟨#[]⟩, [], none⟩ : aS))) L2)), .blk f [vI (S.X.cN), vI (S.X.cB), vI (S.X.cH), vI (S.X.cS), vI (S.X.cZ), .map (some m), vP t, vI (S.X.last), vI (S.X.ah), vI (S.X.used)] 86, .abs (aH Tryz.prog 3 m (aP (aK L S.idx)) S.idx.length), .abs (ak (bh S.O L)), .abs (aZ 156 t S.X.cH S.ay (aK L S.us)), .abs (ak (aW S.O L)), .blk cb [vI (c.op), vI (c.handle), vI (c.other), .string c.name, .string c.text, .slice c.dA (c.data.length) (c.dC), vI (c.mode), vI (c.uid), vI (c.gid), vI (c.sec), vI (c.nano), vI (c.code), vI (c.answer)] 43, .abs R]) (fun w hS => hS.qA hL2 hfr (o := (⟨0, c.mode, 0, 0, 0, 0, 0, 0, false, 1, [], ⟨#[]⟩, [], none⟩ : aS)) (i := 3) (j := 8) (ix := [0, 1, 2, 4, 5, 6, 7]) rfl rfl (by kernel_rfl) rfl (by show (1 : Int) ≠ 0; decide) ((eE (L := L2) (k := (aE S.X)) (o := (⟨0, c.mode, 0, 0, 0, 0, 0, 0, false, 1, [], ⟨#[]⟩, [], none⟩ : aS)) rfl).trans (by rw [show L2.dA (aE S.X) = none by rw [hL2]; exact if_pos rfl, show L2.dC (aE S.X) = 0 by rw [hL2]; exact if_pos rfl]; rfl)) rfl) ?_
 refine ai.mem (aL := (zw S c L2 f m t L ++ [pD S.O L, pC cb c, .abs R])) (fun w hS => hS.rG hL2 hfr (o := (⟨0, c.mode, 0, 0, 0, 0, 0, 0, false, 1, [], ⟨#[]⟩, [], none⟩ : aS)) (i := 3) rfl (by show (1 : Int) ≠ 2; decide)) ?_
 refine ai.mem (aL := (zw S c L2 f m t L ++ [pD S.O L, pC cb c, .abs R, .abs (aF 5 1 none 0 0 ([]))])) (fun w hS => hS.jL (e := 5) (size := 1)) ?_
 refine ai.mem (aL := ([L5 S c L2] ++ zw S c L2 f m t L ++ [pC cb c, .abs R])) (fun w hS => hS.Es hL2 (o := (⟨0, c.mode, 0, 0, 0, 0, 0, 0, false, 1, [], ⟨#[]⟩, [], none⟩ : aS)) (i := 5) (j := 8) (ix := [0, 1, 2, 3, 4, 6, 7]) rfl rfl (by kernel_rfl) rfl rfl rfl) ?_
 refine ai.mem (aL := [.abs (ak (aW (aB S.O (aE S.X) (fun _ => (⟨0, c.mode, 0, 0, 0, 0, 0, 0, false, 1, [], ⟨#[]⟩, [], none⟩ : aS))) L2)), .abs (ak (aQ (aB S.O (aE S.X) (fun _ => (⟨0, c.mode, 0, 0, 0, 0, 0, 0, false, 1, [], ⟨#[]⟩, [], none⟩ : aS))) L2)), .blk f [vI (S.X.cN), vI (S.X.cB), vI (S.X.cH), vI (S.X.cS), vI (S.X.cZ), .map (some m), vP t, vI (S.X.last), vI (S.X.ah), vI (S.X.used)] 86, .abs (aH Tryz.prog 3 m (aP (aK L2 S.idx)) S.idx.length), .abs (ak (bh (aB S.O (aE S.X) (fun _ => (⟨0, c.mode, 0, 0, 0, 0, 0, 0, false, 1, [], ⟨#[]⟩, [], none⟩ : aS))) L2)), .abs (aZ 156 t S.X.cH S.ay (aK L2 S.us)), .blk cb [vI (c.op), vI (c.handle), vI (c.other), .string c.name, .string c.text, .slice c.dA (c.data.length) (c.dC), vI (c.mode), vI (c.uid), vI (c.gid), vI (c.sec), vI (c.nano), vI (c.code), vI (c.answer)] 43, .abs R]) (fun w hS => by rw [fo hL2 hfr.idx, fo hL2 hfr.us]; exact hS) ?_
 refine gL (f := 132) (args := #[vP f, .iface 89 (vP b4)]) (pre := [pF f m t S.X, jN t S L2, LZ S c L2]) [2, 5, 1] ((by have h := pU (β := β) { S with O := (aB S.O (aE S.X) (fun _ => (⟨0, c.mode, 0, 0, 0, 0, 0, 0, false, 1, [], ⟨#[]⟩, [], none⟩ : aS))) } L2 f m t ⟨(aE S.X), 1⟩ (by show (obj (aB S.O (aE S.X) (fun _ => (⟨0, c.mode, 0, 0, 0, 0, 0, 0, false, 1, [], ⟨#[]⟩, [], none⟩ : aS))) (aE S.X)).kind = 1; rw [bH]) (by simp) (by show 0 ≤ (obj (aB S.O (aE S.X) (fun _ => (⟨0, c.mode, 0, 0, 0, 0, 0, 0, false, 1, [], ⟨#[]⟩, [], none⟩ : aS))) (aE S.X)).opens ∧ (obj (aB S.O (aE S.X) (fun _ => (⟨0, c.mode, 0, 0, 0, 0, 0, 0, false, 1, [], ⟨#[]⟩, [], none⟩ : aS))) (aE S.X)).opens ≤ 1048576; rw [bH]; exact ⟨Int.le_refl _, by show (0 : Int) ≤ 1048576; decide⟩); rw [lX hL2, jw (S := { S with O := (aB S.O (aE S.X) (fun _ => (⟨0, c.mode, 0, 0, 0, 0, 0, 0, false, 1, [], ⟨#[]⟩, [], none⟩ : aS))) }) (t := ⟨(aE S.X), 1⟩) (by show ¬ (S.us.length : Int) < S.X.cH; omega)] at h; exact h)) ?_
 rintro _ _ ⟨rfl, rfl⟩
 refine gC 7 [(6, vI 130)] [(5, a_ 6 cb)] [(6, [(12, vI 0)])] ?_
 refine NS ?_
 refine gK 2 [(59, .bool true)] [] ?_
 refine NN ?_
 refine CT ?_
 refine SR ?_
 have hk0 : (obj S.O (aE S.X)).kind = 0 := hI.oO _ (by have := mX hI.toInv0; omega)
 refine ai.mem (aL := [.blk f [vI (S.X.cN), vI (S.X.cB), vI (S.X.cH), vI (S.X.cS), vI (S.X.cZ), .map (some m), vP t, vI (S.X.last), vI (S.X.ah), vI (S.X.used)] 86, .abs (aZ 156 t S.X.cH S.ay (aK L2 S.us)), .abs (ak (aQ S.O L)), .abs (ak (aW (aB S.O (aE S.X) (fun _ => (⟨0, c.mode, 0, 0, 0, 0, 0, 0, false, 1, [], ⟨#[]⟩, [], none⟩ : aS))) L2)), .abs (aH Tryz.prog 3 m (aP (aK L2 S.idx)) S.idx.length), .abs (ak (bh (aB S.O (aE S.X) (fun _ => (⟨0, c.mode, 0, 0, 0, 0, 0, 0, false, 1, [], ⟨#[]⟩, [], none⟩ : aS))) L2)), .blk cb [vI (c.op), vI (c.handle), vI (c.other), .string c.name, .string c.text, .slice c.dA (c.data.length) (c.dC), vI (c.mode), vI (c.uid), vI (c.gid), vI (c.sec), vI (c.nano), vI (c.code), vI 0] 43, .abs R]) (fun w hS => hS.tY (i := 2) rfl (aE S.X) (fun x hx => by rw [rA hx, DM hL2 hfr hx]) (by unfold aQ; rw [hk0]; rfl)) ?_
 refine ai.mem (aL := [.blk f [vI (S.X.cN), vI (S.X.cB), vI (S.X.cH), vI (S.X.cS), vI (S.X.cZ), .map (some m), vP t, vI (S.X.last), vI (S.X.ah), vI (S.X.used)] 86, .abs (aZ 156 t S.X.cH S.ay (aK L2 S.us)), .abs (ak (aQ S.O L)), .abs (ak (aW (aB S.O (aE S.X) (fun _ => (⟨0, c.mode, 0, 0, 0, 0, 0, 0, false, 1, [], ⟨#[]⟩, [], none⟩ : aS))) L2)), .abs (aH Tryz.prog 3 m (aP (aK L2 S.idx)) S.idx.length), .abs (ak (bh S.O L)), .blk cb [vI (c.op), vI (c.handle), vI (c.other), .string c.name, .string c.text, .slice c.dA (c.data.length) (c.dC), vI (c.mode), vI (c.uid), vI (c.gid), vI (c.sec), vI (c.nano), vI (c.code), vI 0] 43, .abs R]) (fun w hS => hS.tY (i := 5) rfl (aE S.X) (fun x hx => by rw [tM hx, za hL2 hfr hx]) (by unfold bh; rw [hk0]; rfl)) ?_
 refine ai.mem (aL := [.blk f [vI (S.X.cN), vI (S.X.cB), vI (S.X.cH), vI (S.X.cS), vI (S.X.cZ), .map (some m), vP t, vI (S.X.last), vI (S.X.ah), vI (S.X.used)] 86, .abs (aZ 156 t S.X.cH S.ay (aK L2 S.us)), .abs (ak (aQ S.O L)), .abs (ak (aW S.O L)), .abs (aH Tryz.prog 3 m (aP (aK L2 S.idx)) S.idx.length), .abs (ak (bh S.O L)), .blk cb [vI (c.op), vI (c.handle), vI (c.other), .string c.name, .string c.text, .slice c.dA (c.data.length) (c.dC), vI (c.mode), vI (c.uid), vI (c.gid), vI (c.sec), vI (c.nano), vI (c.code), vI 0] 43, .abs R]) (fun w hS => hS.tY (i := 3) rfl (aE S.X) (fun x hx => by rw [tN hx, uW hL2 hx]) (by unfold aW; rw [hk0]; rfl)) ?_
 refine ai.mem (aL := [.blk f [vI (S.X.cN), vI (S.X.cB), vI (S.X.cH), vI (S.X.cS), vI (S.X.cZ), .map (some m), vP t, vI (S.X.last), vI (S.X.ah), vI (S.X.used)] 86, .abs (aZ 156 t S.X.cH S.ay (aK L S.us)), .abs (ak (aQ S.O L)), .abs (ak (aW S.O L)), .abs (aH Tryz.prog 3 m (aP (aK L S.idx)) S.idx.length), .abs (ak (bh S.O L)), .blk cb [vI (c.op), vI (c.handle), vI (c.other), .string c.name, .string c.text, .slice c.dA (c.data.length) (c.dC), vI (c.mode), vI (c.uid), vI (c.gid), vI (c.sec), vI (c.nano), vI (c.code), vI 0] 43, .abs R]) (fun w hS => by rw [fo hL2 hfr.idx, fo hL2 hfr.us] at hS; exact hS) ?_
 refine gK 2 [(4, vI 130)] [] ?_
 refine NN (af.ret (aj.ar ?_))
 exact RT (vI 130) [0, 4, 1, 2, 3, 5, 6, 7] (⟨L, by rw [show (dm S c) = (130, S, { c with answer := 0 }) by unfold dm; rw [hab]; exact (if_pos kz).trans ((if_pos h0).trans (by rw [show createM S d c.name c.mode = (0, 130, S) from (if_pos h0).trans (if_neg (by omega))]))] <;> exact ⟨rfl, rfl⟩⟩)
end
section
open Go.RowKit
def rL (b : Nat) (v : Value) : bR where
  h F w := ∃ cs T, cs[0]? = some v ∧ (HP.blk b cs T).h F w
  lt := fun ⟨_, _, _, h⟩ => HP.lt h
  st := fun ⟨cs, T, hv, h⟩ _ _ hk hd => ⟨cs, T, hv, HP.st h hk hd⟩
theorem rL.cell {b : Nat} {v : Value} : ∀ F w, (rL b v).h F w → w.cell? ⟨b, 0, none⟩ = some v := by
  rintro F w ⟨cs, T, hv, h⟩
  exact (fq h.1 rfl rfl hv).1
theorem Sat.first {β : Bs} {l : List HP} {w : World} {i b : Nat} {cs : List Value} {T : TypeId} {v : Value} (h : Sat β l w) (hp : l[i]? = some (.blk b cs T)) (hv : cs[0]? = some v) : Sat β [.abs (rL b v)] w := by
  obtain ⟨ho, φ, h1, h2, h3⟩ := h
  have hi := bA hp
  refine ⟨ho, fun _ => φ i, fun j q hq => ?_, fun j hj => h2 i hi, fun j k hj hk hne => ?_⟩
  ·have hj := bA hq
   simp at hj
   subst hj
   simp at hq
   subst hq
   exact ⟨cs, T, hv, h1 i _ hp⟩
  simp at hj hk
  omega
section mix
variable {P : Program} {β : Bs} {N : Nat} {ops : Array Oper} {S : List HP} {l : List Nat} {fr : Fr} {hps : List HP} {Q : Post} {i : Nat}
theorem af.EW {id : Nat} (perm : List Nat) (nr : Nat) (hm : P.follows .mixedOrders = true) (hB : wX ops perm nr = true) (hp : ∀ w, Sat β hps w → Sat β S w) (h : aJ P β N ops S nr perm fr hps Q) : af P β N (.region id ops true) fr hps Q := by
  intro junk w hS
  unfold wX at hB
  simp only [Bool.and_eq_true, beq_iff_eq] at hB
  obtain ⟨⟨⟨h1, h2⟩, h3⟩, h4⟩ := hB
  have cK := hS.drewN 1
  have h5 := yS (Q := Q) h1 h2 nr perm _ _ _ h4 (fun j oj _ hl => by simp [Array.getD_eq_getD_getElem?, Array.getElem?_replicate] at hl; split at hl <;> simp at hl) (hp _ cK) (h junk (w.drewN 1) cK)
  rw [h3] at h5
  refine Code.wp_mono (fun e a w q => ?_) (wp_region_any hm (mr _ _ _ _ h5))
  cases e with
  | normal => exact q
  | exit id => exact q.elim
  | goto l => exact q.elim
  | ret => exact q.elim
  | panic ch => exact q.elim
  | outgrown => exact q.elim
theorem aJ.EX {ι : Type} {fr' : ι → Fr} {hp' : ι → List HP} {o : Oper} (hop : ops[i]? = some o) (hg : o.guard = none) (h : ai P β N #[o] 0 fr hps (NP (jh β N fr' hp'))) (hp : ∀ j w, Sat β (hp' j) w → Sat β S w)
    (K : ∀ j, aJ P β N ops S 0 l (fr' j) (hp' j) Q) : aJ P β N ops S 0 (i :: l) fr hps Q := by
  intro junk w hS
  unfold kD
  refine fw hop hg ?_
  have h1 := h junk w hS
  have h2 : wpList P #[o] (NP (jh β N fr' hp')) [o] (cC N fr junk) w := h1
  refine ij (fun a w ⟨j, fL, ha, cK⟩ => ?_) h2
  subst ha
  exact ⟨.inr (hp j _ cK), K j fL w cK⟩
end mix
end
section
open Go.RowKit Go.Maps HeapM TabM
def GF : List Nat := [78, 79, 80, 81, 82, 83, 84, 85, 86, 87, 88, 89, 90, 91, 92]
def NY : Value := .agg ⟨.nilFunc :: GF.map (fun f => .func (.func f) #[] #[])⟩
theorem EY {n : Int} (h : 1 ≤ n ∧ n ≤ 15) : n = 1 ∨ n = 2 ∨ n = 3 ∨ n = 4 ∨ n = 5 ∨ n = 6 ∨ n = 7 ∨ n = 8 ∨ n = 9 ∨ n = 10 ∨ n = 11 ∨ n = 12 ∨ n = 13 ∨ n = 14 ∨ n = 15 := by omega
theorem L7 {w : World} {o : Oper} {ev : Operand → Value} {x y : Operand} {n : Int} (ho : o.op = .index 118 x y) (hx : ev x = NY) (hy : ev y = .int .i64 n) (hn : 1 ≤ n ∧ n ≤ 15) : lJ Tryz.prog ev o w (.func (.func (GF.getD (n.toNat - 1) 0)) #[] #[]) w := by
  obtain ⟨dst, op, type, pos, after, guard⟩ := o
  cases ho
  refine .inl ?_
  simp only [execOp, hx, hy]
  rcases EY hn with h | h | h | h | h | h | h | h | h | h | h | h | h | h | h <;> subst h <;> kernel_rfl
theorem ai.hn {β : Bs} {N k : Nat} {ops : Array Oper} {fr : Fr} {hps : List HP} {Q : Post} {d : Option Tmp} {x y : Operand} {n : Int} (hn : 1 ≤ n ∧ n ≤ 15) (K : ai Tryz.prog β N ops (k + 1) (cJ fr d (.func (.func (GF.getD (n.toNat - 1) 0)) #[] #[])) hps Q)
    (hop : ∀ junk, dV N junk ops fr k = some (.index 118 x y, d) := by intro _; kernel_rfl) (hx : ∀ junk, cD N fr junk x = NY := by intro _; kernel_rfl) (hy : ∀ junk, cD N fr junk y = .int .i64 n := by intro _; kernel_rfl) : ai Tryz.prog β N ops k fr hps Q :=
  ai.ia hop (fun _ junk w ho hS => ⟨w, L7 ho (hx junk) (hy junk) hn, hS⟩) K
theorem Nk {β : Bs} {S : aI} {L : HL} {f m t b : Nat} {c : aV} (n : Int) (hI : Inv S) (hC : fJ β c) (h : 1 ≤ n ∧ n ≤ 15) (he : c.op = n) : Spec Tryz.prog β (GF.getD (n.toNat - 1) 0) #[vP f, vP b] (pA f m t L S ++ [pC b c]) (fun v l => ∃ L2, v = vI (opM S c).1 ∧ l = pA f m t L2 (opM S c).2.1 ++ [pC b (opM S c).2.2]) := by
  subst he
  rcases EY h with h | h | h | h | h | h | h | h | h | h | h | h | h | h | h <;> rw [h]
  ·rw [xJ h]; exact EQ S L f m t hI b c hC
  ·rw [xK h]; exact AJ S L f m t hI b c hC
  ·rw [AX h]; exact zo S L f m t hI b c hC
  ·rw [xL h]; exact Dl S L f m t hI b c hC
  ·rw [AY h]; exact CC S L f m t hI b c hC
  ·rw [AZ h]; exact AK S L f m t hI b c hC
  ·rw [A6 h]; exact EU S L f m t hI b c hC
  ·rw [A8 h]; exact Cx S L f m t hI b c hC
  ·rw [Ba h]; exact Dn S L f m t hI b c hC
  ·rw [xM h]; exact AL S L f m t hI b c hC
  ·rw [xO h]; exact EV S L f m t hI b c hC
  ·rw [xP h]; exact CB S L f m t hI b c hC
  ·rw [xQ h]; exact Dp S L f m t hI b c hC
  ·rw [xR h]; exact Dm S L f m t hI b c hC
  rw [xS h]; exact Cy S L f m t hI b c hC
theorem GH {S : aI} {c : aV} (h : 1 ≤ c.op ∧ c.op ≤ 15) : (opM S c).2.2.op = c.op := by
  rcases EY h with h | h | h | h | h | h | h | h | h | h | h | h | h | h | h
  ·rw [xJ h]; exact Kl
  ·rw [xK h]; exact Ez
  ·rw [AX h]; exact Df
  ·rw [xL h]; exact EA
  ·rw [AY h]; exact Dg
  ·rw [AZ h]; exact Cj
  ·rw [A6 h]; exact Gj
  ·rw [A8 h]; exact Dh
  ·rw [Ba h]; exact EC
  ·rw [xM h]; exact ED
  ·rw [xO h]; exact Km
  ·rw [xP h]; exact Gl
  ·rw [xQ h]; exact Iz
  ·rw [xR h]; exact EB
  rw [xS h]; exact Di
end
section
open Go.RowKit Go.Maps HeapM TabM
attribute [local irreducible] ai aR af aj
abbrev JW (b3 : Nat) := (.blk b3 [vI 0, vI 0, vI 0, .string ⟨#[]⟩, .string ⟨#[]⟩, .slice none (0) (0), vI 0, vI 0, vI 0, vI 0, vI 0, vI 0, vI 0] 43 : HP)
abbrev NZ (c : aV) := ([(0, vI (c.op)), (1, vI (c.handle)), (2, vI (c.other)), (3, .string c.name), (4, .string c.text), (5, .slice c.dA (c.data.length) (c.dC)), (6, vI (c.mode)), (7, vI (c.uid)), (8, vI (c.gid)), (9, vI (c.sec)), (10, vI (c.nano)), (11, vI 230)] : Fr)
theorem Dq {β : Bs} : Spec Tryz.prog β 44 #[] [] (fun v l => v = .agg #[.nilFunc, .func (.func 78) #[] #[], .func (.func 79) #[] #[], .func (.func 80) #[] #[], .func (.func 81) #[] #[], .func (.func 82) #[] #[], .func (.func 83) #[] #[], .func (.func 84) #[] #[], .func (.func 85) #[] #[], .func (.func 86) #[] #[], .func (.func 87) #[] #[], .func (.func 88) #[] #[], .func (.func 89) #[] #[], .func (.func 90) #[] #[], .func (.func 91) #[] #[], .func (.func 92) #[] #[]] ∧ l = []) := by
 refine Spec.enter Tryz.func44 rfl Tryz.ntmps44 (Nat.le_of_ble_eq_true rfl) (fun R => ?_)
 refine SR ?_
 refine gN 1 (fun b1 => [(0, vP b1)]) (fun _ => []) (fun _ => []) (fun b1 => .blk b1 [.nilFunc, .nilFunc, .nilFunc, .nilFunc, .nilFunc, .nilFunc, .nilFunc, .nilFunc, .nilFunc, .nilFunc, .nilFunc, .nilFunc, .nilFunc, .nilFunc, .nilFunc, .nilFunc] 118) (fun b1 => ?_)
 refine NS ?_
 refine gC 2 [] [(1, A_ 1 b1 16)] [(1, [(1, .func (.func 78) #[] #[]), (2, .func (.func 79) #[] #[]), (3, .func (.func 80) #[] #[]), (4, .func (.func 81) #[] #[]), (5, .func (.func 82) #[] #[]), (6, .func (.func 83) #[] #[]), (7, .func (.func 84) #[] #[]), (8, .func (.func 85) #[] #[]), (9, .func (.func 86) #[] #[]), (10, .func (.func 87) #[] #[]), (11, .func (.func 88) #[] #[]), (12, .func (.func 89) #[] #[]), (13, .func (.func 90) #[] #[]), (14, .func (.func 91) #[] #[]), (15, .func (.func 92) #[] #[])])] ?_
 refine NN (af.ret ?_)
 exact aj.ret (v := .agg #[.nilFunc, .func (.func 78) #[] #[], .func (.func 79) #[] #[], .func (.func 80) #[] #[], .func (.func 81) #[] #[], .func (.func 82) #[] #[], .func (.func 83) #[] #[], .func (.func 84) #[] #[], .func (.func 85) #[] #[], .func (.func 86) #[] #[], .func (.func 87) #[] #[], .func (.func 88) #[] #[], .func (.func 89) #[] #[], .func (.func 90) #[] #[], .func (.func 91) #[] #[], .func (.func 92) #[] #[]]) (l := []) (aq := [b1 = b1, b1 = b1, b1 = b1, b1 = b1, b1 = b1, b1 = b1, b1 = b1, b1 = b1, b1 = b1, b1 = b1, b1 = b1, b1 = b1, b1 = b1, b1 = b1, b1 = b1, b1 = b1]) [.at 1, .at 1, .at 1, .at 1, .at 1, .at 1, .at 1, .at 1, .at 1, .at 1, .at 1, .at 1, .at 1, .at 1, .at 1, .at 1] [0] (fun _ => by kernel_rfl) ⟨rfl, rfl, rfl, rfl, rfl, rfl, rfl, rfl, rfl, rfl, rfl, rfl, rfl, rfl, rfl, rfl, trivial⟩ rfl (by kernel_rfl) (⟨rfl, rfl⟩)
theorem GI {β : Bs} (S : aI) (L : HL) (f m t : Nat) (hI : Inv S) (c : aV) (hC : fJ β c) :
    Spec Tryz.prog β 16 #[vP f, .agg #[vI (c.op), vI (c.handle), vI (c.other), .string c.name, .string c.text, .slice c.dA (c.data.length) (c.dC), vI (c.mode), vI (c.uid), vI (c.gid), vI (c.sec), vI (c.nano), vI (c.code), vI (c.answer)]] (pA f m t L S) (fun v l => ∃ L2, v = .agg ⟨gh (doM S c).2⟩ ∧ l = (pA f m t L2 ((doM S c).1))) := by
 have hX := hI.hX
 refine Spec.enter Tryz.func16 rfl Tryz.ntmps16 (Nat.le_of_ble_eq_true rfl) (fun R => ?_)
 refine SR ?_
 refine gN 1 (fun b2 => [(3, vP b2)]) (fun _ => []) (fun _ => []) (fun b2 => pC b2 c) (fun b2 => ?_)
 refine gN 1 (fun b3 => [(4, vP b3)]) (fun _ => []) (fun _ => []) (fun b3 => .blk b3 [vI 0, vI 0, vI 0, .string ⟨#[]⟩, .string ⟨#[]⟩, .slice none (0) (0), vI 0, vI 0, vI 0, vI 0, vI 0, vI 0, vI 0] 43) (fun b3 => ?_)
 refine NS ?_
 refine gC 2 [] [(1, a_ 7 b2)] [(7, [(12, vI 0)])] ?_
 refine NS ?_
 refine gC 2 [] [(1, a_ 7 b2)] [(7, [(11, vI 230)])] ?_
 refine NN (af.seq (SR ?_))
 refine gK 4 [(10, .bool (decide ((c.op : Int) ≥ (1 : Int))))] [(1, a_ 7 b2)] ?_
 refine ai.gD 10 ((c.op : Int) ≥ (1 : Int)) (fun _ => by kernel_rfl) (fun h10 => ?_) (fun h10 => ?_)
 ·refine gK 4 [(14, .bool (decide ((c.op : Int) ≤ (15 : Int))))] [(1, a_ 7 b2)] ?_
  refine NN ?_
  refine af.bB (p := (c.op : Int) ≤ (15 : Int)) (fun _ => by kernel_rfl) (fun gi => ?_) (fun gi => ?_)
  ·have hop : 1 ≤ c.op ∧ c.op ≤ 15 := ⟨h10, gi⟩
   refine af.EW (S := [.abs (rL b2 (vI c.op))]) [1, 2, 4, 0, 3, 5, 6, 7] 3 (by kernel_rfl) (by kernel_rfl) (fun w hS => hS.first (i := 7) (b := b2) rfl rfl) ?_
   refine aJ.reads (r := 0) (l := [0, 3, 5, 6, 7]) (fr' := [(3, vP b2), (4, vP b3), (17, vI (c.op)), (19, vP f)]) (aq := [(∀ F w, (rL b2 (vI c.op)).h F w → w.cell? ⟨b2, 0, none⟩ = some (vI (c.op)))]) [1, 2, 4] [o_, ⟨[.view 0 (vI (c.op))], none, none, none, none⟩, o_] [3, 4, 17, 19] (fun _ => by kernel_rfl) ⟨rL.cell, trivial⟩ rfl rfl ?_
   refine aJ.EX (ι := Unit) (fr' := fun (_ : Unit) => [(3, vP b2), (4, vP b3), (15, .agg #[.nilFunc, .func (.func 78) #[] #[], .func (.func 79) #[] #[], .func (.func 80) #[] #[], .func (.func 81) #[] #[], .func (.func 82) #[] #[], .func (.func 83) #[] #[], .func (.func 84) #[] #[], .func (.func 85) #[] #[], .func (.func 86) #[] #[], .func (.func 87) #[] #[], .func (.func 88) #[] #[], .func (.func 89) #[] #[], .func (.func 90) #[] #[], .func (.func 91) #[] #[], .func (.func 92) #[] #[]]), (17, vI (c.op)), (19, vP f)]) (hp' := fun (_ : Unit) => ((pA f m t L S) ++ [.abs R, pC b2 (c0 c), JW b3])) rfl rfl ?_ (by rintro _ w hS; exact hS.first (i := 7) (b := b2) rfl rfl) ?_
   ·refine gL [] (Dq) ?_
    rintro _ _ ⟨rfl, rfl⟩
    refine NL ?_
    exact MD () [3, 4, 15, 17, 19] [0, 1, 2, 3, 4, 5, 6, 7, 8]
   rintro _
   refine aJ.EX (ι := Unit) (fr' := fun (_ : Unit) => [(3, vP b2), (4, vP b3), (18, .func (.func (GF.getD (c.op.toNat - 1) 0)) #[] #[]), (19, vP f)]) (hp' := fun (_ : Unit) => ((pA f m t L S) ++ [.abs R, pC b2 (c0 c), JW b3])) rfl rfl ?_ (by rintro _ w hS; exact hS.first (i := 7) (b := b2) rfl rfl) ?_
   ·refine ai.hn (x := (.tmp 15)) (y := (.tmp 17)) (d := (some 18)) hop ?_
    refine NL ?_
    exact MD () [3, 4, 18, 19] [0, 1, 2, 3, 4, 5, 6, 7, 8]
   rintro _
   refine aJ.EX (ι := HL) (fr' := fun (L2 : HL) => [(3, vP b2), (4, vP b3), (20, vI ((opM S (c0 c)).1))]) (hp' := fun (L2 : HL) => ((pA f m t L2 ((opM S (c0 c)).2.1)) ++ [pC b2 ((opM S (c0 c)).2.2), .abs R, JW b3])) rfl rfl ?_ (by rintro L2 w hS; exact hS.first (i := 6) (b := b2) rfl (congrArg (fun z => some (Value.int .i64 z)) (GH (c := (c0 c)) hop))) ?_
   ·refine gL [0, 1, 2, 3, 4, 5, 7] (Nk (S := S) (L := L) (f := f) (m := m) (t := t) (b := b2) (c := (c0 c)) c.op hI ⟨hC.hw, hC.ow, hC.nm, hC.tx, hC.da, hC.dl, hC.dc⟩ hop rfl) ?_ (by intro _; rcases EY hop with h | h | h | h | h | h | h | h | h | h | h | h | h | h | h <;> rw [h] <;> kernel_rfl)
    rintro _ _ ⟨L2, rfl, rfl⟩
    refine NL ?_
    exact MD L2 [3, 4, 20] [0, 1, 2, 3, 4, 5, 6, 7, 8]
   rintro L2
   refine aJ.EX (ι := Unit) (fr' := fun (_ : Unit) => [(3, vP b2), (4, vP b3), (20, vI ((opM S (c0 c)).1)), (21, .pointer (some ⟨b2, 11, none⟩))]) (hp' := fun (_ : Unit) => ((pA f m t L2 ((opM S (c0 c)).2.1)) ++ [pC b2 ((opM S (c0 c)).2.2), .abs R, JW b3])) rfl rfl ?_ (by rintro _ w hS; exact hS.first (i := 6) (b := b2) rfl (congrArg (fun z => some (Value.int .i64 z)) (GH (c := (c0 c)) hop))) ?_
   ·refine gK 1 [(21, .pointer (some ⟨b2, 11, none⟩))] [] ?_
    refine NL ?_
    exact MD () [3, 4, 20, 21] [0, 1, 2, 3, 4, 5, 6, 7, 8]
   rintro _
   refine aJ.last rfl rfl ?_
   refine gC 1 [] [(0, a_ 6 b2)] [(6, [(11, vI ((opM S (c0 c)).1))])] ?_
   refine NL (aj.np (NX (SR ?_)))
   refine gC 2 [] [(0, A_ 6 b2 13), (1, A_ 8 b3 13)] [(8, [(0, vI ((opM S (c0 c)).2.2.op)), (1, vI ((opM S (c0 c)).2.2.handle)), (2, vI ((opM S (c0 c)).2.2.other)), (3, .string (opM S (c0 c)).2.2.name), (4, .string (opM S (c0 c)).2.2.text), (5, .slice (opM S (c0 c)).2.2.dA ((opM S (c0 c)).2.2.data.length) ((opM S (c0 c)).2.2.dC)), (6, vI ((opM S (c0 c)).2.2.mode)), (7, vI ((opM S (c0 c)).2.2.uid)), (8, vI ((opM S (c0 c)).2.2.gid)), (9, vI ((opM S (c0 c)).2.2.sec)), (10, vI ((opM S (c0 c)).2.2.nano)), (11, vI ((opM S (c0 c)).1)), (12, vI ((opM S (c0 c)).2.2.answer))])] ?_
   refine NN (af.ret ?_)
   exact aj.ret (v := .agg #[vI ((opM S (c0 c)).2.2.op), vI ((opM S (c0 c)).2.2.handle), vI ((opM S (c0 c)).2.2.other), .string (opM S (c0 c)).2.2.name, .string (opM S (c0 c)).2.2.text, .slice (opM S (c0 c)).2.2.dA ((opM S (c0 c)).2.2.data.length) ((opM S (c0 c)).2.2.dC), vI ((opM S (c0 c)).2.2.mode), vI ((opM S (c0 c)).2.2.uid), vI ((opM S (c0 c)).2.2.gid), vI ((opM S (c0 c)).2.2.sec), vI ((opM S (c0 c)).2.2.nano), vI ((opM S (c0 c)).1), vI ((opM S (c0 c)).2.2.answer)]) (l := (pA f m t L2 ((opM S (c0 c)).2.1))) (aq := [b3 = b3, b3 = b3, b3 = b3, b3 = b3, b3 = b3, b3 = b3, b3 = b3, b3 = b3, b3 = b3, b3 = b3, b3 = b3, b3 = b3, b3 = b3]) [.at 8, .at 8, .at 8, .at 8, .at 8, .at 8, .at 8, .at 8, .at 8, .at 8, .at 8, .at 8, .at 8] [0, 1, 2, 3, 4, 5, 7] (fun _ => by kernel_rfl) ⟨rfl, rfl, rfl, rfl, rfl, rfl, rfl, rfl, rfl, rfl, rfl, rfl, rfl, trivial⟩ rfl (by kernel_rfl) (⟨L2, rfl, rfl⟩)
  refine af.skip (NX (SR ?_))
  refine gC 2 [] [(0, A_ 7 b2 13), (1, A_ 8 b3 13)] [(8, (NZ c))] ?_
  refine NN (af.ret ?_)
  exact aj.ret (v := .agg #[vI (c.op), vI (c.handle), vI (c.other), .string c.name, .string c.text, .slice c.dA (c.data.length) (c.dC), vI (c.mode), vI (c.uid), vI (c.gid), vI (c.sec), vI (c.nano), vI 230, vI 0]) (l := (pA f m t L S)) (aq := [b3 = b3, b3 = b3, b3 = b3, b3 = b3, b3 = b3, b3 = b3, b3 = b3, b3 = b3, b3 = b3, b3 = b3, b3 = b3, b3 = b3, b3 = b3]) [.at 8, .at 8, .at 8, .at 8, .at 8, .at 8, .at 8, .at 8, .at 8, .at 8, .at 8, .at 8, .at 8] [0, 1, 2, 3, 4, 5, 6] (fun _ => by kernel_rfl) ⟨rfl, rfl, rfl, rfl, rfl, rfl, rfl, rfl, rfl, rfl, rfl, rfl, rfl, trivial⟩ rfl (by kernel_rfl) (⟨L, by unfold doM; rw [xT (S := S) (c := (c0 c)) (by show ¬ (1 ≤ c.op ∧ c.op ≤ 15); omega)]; exact ⟨rfl, rfl⟩⟩)
 refine gK 4 [(14, .bool false)] [] ?_
 refine NN ?_
 refine CF ?_
 refine af.skip (NX (SR ?_))
 refine gC 2 [] [(0, A_ 7 b2 13), (1, A_ 8 b3 13)] [(8, (NZ c))] ?_
 refine NN (af.ret ?_)
 exact aj.ret (v := .agg #[vI (c.op), vI (c.handle), vI (c.other), .string c.name, .string c.text, .slice c.dA (c.data.length) (c.dC), vI (c.mode), vI (c.uid), vI (c.gid), vI (c.sec), vI (c.nano), vI 230, vI 0]) (l := (pA f m t L S)) (aq := [b3 = b3, b3 = b3, b3 = b3, b3 = b3, b3 = b3, b3 = b3, b3 = b3, b3 = b3, b3 = b3, b3 = b3, b3 = b3, b3 = b3, b3 = b3]) [.at 8, .at 8, .at 8, .at 8, .at 8, .at 8, .at 8, .at 8, .at 8, .at 8, .at 8, .at 8, .at 8] [0, 1, 2, 3, 4, 5, 6] (fun _ => by kernel_rfl) ⟨rfl, rfl, rfl, rfl, rfl, rfl, rfl, rfl, rfl, rfl, rfl, rfl, rfl, trivial⟩ rfl (by kernel_rfl) (⟨L, by unfold doM; rw [xT (S := S) (c := (c0 c)) (by show ¬ (1 ≤ c.op ∧ c.op ≤ 15); omega)]; exact ⟨rfl, rfl⟩⟩)
end
end Go.Proofs.YtkiedlmhocglhaaGreatDoor
section
namespace Go.Proofs
open Go.Shelf
def Tryz.keysS_ren : Go.Shelf.Ren := ⟨fun | 7 => 43 | 10 => 77 | n => n, fun | 23 => 97 | 26 => 9 | 3 => 84 | 28 => 114 | 0 => 0 | 27 => 113 | 33 => 38 | 4 => 4 | n => n, fun | n => n⟩
theorem Tryz.keysS : Go.Proofs.SlLaysZ.n7 Tryz.prog Tryz.keysS_ren := {
  mixed := by kernel_rfl
  f7 := ⟨Tryz.f43.name, by decide, Tryz.func43.trans (congrArg some (by kernel_rfl))⟩
  f10 := ⟨Tryz.f77.name, by decide, Tryz.func77.trans (congrArg some (by kernel_rfl))⟩
  t0 := Tryz.underlying0
  a0 := Tryz.isAgg0
  z0 := Tryz.sizeOf0
  v0 := Tryz.zeroValue0
  t4 := Tryz.underlying4
  a4 := Tryz.isAgg4
  z4 := Tryz.sizeOf4
  v4 := Tryz.zeroValue4
  t23 := Tryz.underlying97
  a23 := Tryz.isAgg97
  z23 := Tryz.sizeOf97
  v23 := Tryz.zeroValue97
  t26 := Tryz.underlying9
  a26 := Tryz.isAgg9
  z26 := Tryz.sizeOf9
  v26 := Tryz.zeroValue9
  t27 := Tryz.underlying113
  a27 := Tryz.isAgg113
  z27 := Tryz.sizeOf113
  v27 := Tryz.zeroValue113
  t28 := Tryz.underlying114
  a28 := Tryz.isAgg114
  z28 := Tryz.sizeOf114
  v28 := Tryz.zeroValue114
  t33 := Tryz.underlying38
  a33 := Tryz.isAgg38
  z33 := Tryz.sizeOf38
  v33 := Tryz.zeroValue38 }
def Tryz.sortedS_ren : Go.Shelf.Ren := ⟨fun | 6 => 42 | 8 => 75 | 9 => 76 | 11 => 130 | 13 => 129 | 12 => 131 | 23 => 164 | 24 => 165 | 14 => 166 | 15 => 167 | 16 => 168 | 17 => 169 | 18 => 170 | 19 => 171 | 20 => 172 | 21 => 173 | 22 => 174 | 25 => 188 | 26 => 183 | 27 => 184 | 28 => 189 | 29 => 190 | 30 => 191 | 31 => 200 | n => n, fun | 26 => 9 | 28 => 114 | 24 => 111 | 0 => 0 | 3 => 3 | 37 => 195 | 48 => 224 | 50 => 226 | 4 => 4 | 40 => 218 | 39 => 217 | 45 => 213 | 5 => 5 | 9 => 9 | 51 => 236 | 55 => 240 | 57 => 252 | 58 => 253 | 33 => 38 | n => n, fun | n => n⟩
theorem Tryz.sortedS : Go.Proofs.SlLaysZ.n6 Tryz.prog Tryz.sortedS_ren := {
  mixed := by kernel_rfl
  f6 := ⟨Tryz.f42.name, by decide, Tryz.func42.trans (congrArg some (by kernel_rfl))⟩
  f8 := ⟨Tryz.f75.name, by decide, Tryz.func75.trans (congrArg some (by kernel_rfl))⟩
  f11 := ⟨Tryz.f130.name, by decide, Tryz.func130.trans (congrArg some (by kernel_rfl))⟩
  t0 := Tryz.underlying0
  a0 := Tryz.isAgg0
  z0 := Tryz.sizeOf0
  v0 := Tryz.zeroValue0
  t24 := Tryz.underlying111
  a24 := Tryz.isAgg111
  z24 := Tryz.sizeOf111
  v24 := Tryz.zeroValue111
  t26 := Tryz.underlying9
  a26 := Tryz.isAgg9
  z26 := Tryz.sizeOf9
  v26 := Tryz.zeroValue9
  t28 := Tryz.underlying114
  a28 := Tryz.isAgg114
  z28 := Tryz.sizeOf114
  v28 := Tryz.zeroValue114
  i26 := by kernel_rfl }
def Tryz.sortS_ren : Go.Shelf.Ren := ⟨fun | 6 => 76 | 8 => 129 | 9 => 131 | 19 => 164 | 20 => 165 | 21 => 166 | 22 => 167 | 23 => 168 | 24 => 169 | 25 => 170 | 26 => 171 | 27 => 172 | 28 => 173 | 29 => 174 | 36 => 188 | 31 => 183 | 32 => 184 | 37 => 189 | 38 => 190 | 39 => 191 | 41 => 200 | n => n, fun | 27 => 111 | 29 => 9 | 3 => 3 | 32 => 195 | 26 => 111 | 0 => 0 | 44 => 224 | 46 => 226 | 4 => 4 | 36 => 218 | 35 => 217 | 41 => 213 | 5 => 5 | 9 => 9 | 53 => 236 | 57 => 240 | 63 => 252 | 64 => 253 | n => n, fun | n => n⟩
theorem Tryz.sortS : Go.Proofs.SlLaysM.n6 Tryz.prog Tryz.sortS_ren := {
  mixed := by kernel_rfl
  f6 := ⟨Tryz.f76.name, by decide, Tryz.func76.trans (congrArg some (by kernel_rfl))⟩
  f8 := Tryz.func129.trans (congrArg some (by kernel_rfl))
  f9 := ⟨Tryz.f131.name, by decide, Tryz.func131.trans (congrArg some (by kernel_rfl))⟩
  f19 := Tryz.func164.trans (congrArg some (by kernel_rfl))
  f20 := Tryz.func165.trans (congrArg some (by kernel_rfl))
  f21 := ⟨Tryz.f166.name, by decide, Tryz.func166.trans (congrArg some (by kernel_rfl))⟩
  f22 := ⟨Tryz.f167.name, by decide, Tryz.func167.trans (congrArg some (by kernel_rfl))⟩
  f23 := ⟨Tryz.f168.name, by decide, Tryz.func168.trans (congrArg some (by kernel_rfl))⟩
  f24 := ⟨Tryz.f169.name, by decide, Tryz.func169.trans (congrArg some (by kernel_rfl))⟩
  f25 := ⟨Tryz.f170.name, by decide, Tryz.func170.trans (congrArg some (by kernel_rfl))⟩
  f26 := ⟨Tryz.f171.name, by decide, Tryz.func171.trans (congrArg some (by kernel_rfl))⟩
  f27 := ⟨Tryz.f172.name, by decide, Tryz.func172.trans (congrArg some (by kernel_rfl))⟩
  f28 := ⟨Tryz.f173.name, by decide, Tryz.func173.trans (congrArg some (by kernel_rfl))⟩
  f29 := ⟨Tryz.f174.name, by decide, Tryz.func174.trans (congrArg some (by kernel_rfl))⟩
  f31 := Tryz.func183.trans (congrArg some (by kernel_rfl))
  f32 := Tryz.func184.trans (congrArg some (by kernel_rfl))
  f36 := ⟨Tryz.f188.name, by decide, Tryz.func188.trans (congrArg some (by kernel_rfl))⟩
  f37 := ⟨Tryz.f189.name, by decide, Tryz.func189.trans (congrArg some (by kernel_rfl))⟩
  f38 := ⟨Tryz.f190.name, by decide, Tryz.func190.trans (congrArg some (by kernel_rfl))⟩
  f39 := ⟨Tryz.f191.name, by decide, Tryz.func191.trans (congrArg some (by kernel_rfl))⟩
  f41 := ⟨Tryz.f200.name, by decide, Tryz.func200.trans (congrArg some (by kernel_rfl))⟩
  t0 := Tryz.underlying0
  a0 := Tryz.isAgg0
  z0 := Tryz.sizeOf0
  v0 := Tryz.zeroValue0
  t3 := Tryz.underlying3
  a3 := Tryz.isAgg3
  z3 := Tryz.sizeOf3
  v3 := Tryz.zeroValue3
  t4 := Tryz.underlying4
  a4 := Tryz.isAgg4
  z4 := Tryz.sizeOf4
  v4 := Tryz.zeroValue4
  t5 := Tryz.underlying5
  a5 := Tryz.isAgg5
  z5 := Tryz.sizeOf5
  v5 := Tryz.zeroValue5
  t9 := Tryz.underlying9
  a9 := Tryz.isAgg9
  z9 := Tryz.sizeOf9
  v9 := Tryz.zeroValue9
  t26 := Tryz.underlying111
  a26 := Tryz.isAgg111
  z26 := Tryz.sizeOf111
  v26 := Tryz.zeroValue111
  t27 := Tryz.underlying111
  a27 := Tryz.isAgg111
  z27 := Tryz.sizeOf111
  v27 := Tryz.zeroValue111
  t29 := Tryz.underlying9
  a29 := Tryz.isAgg9
  z29 := Tryz.sizeOf9
  v29 := Tryz.zeroValue9
  t32 := Tryz.underlying195
  a32 := Tryz.isAgg195
  z32 := Tryz.sizeOf195
  v32 := Tryz.zeroValue195
  t35 := Tryz.underlying217
  a35 := Tryz.isAgg217
  z35 := Tryz.sizeOf217
  v35 := Tryz.zeroValue217
  t36 := Tryz.underlying218
  a36 := Tryz.isAgg218
  z36 := Tryz.sizeOf218
  v36 := Tryz.zeroValue218
  t41 := Tryz.underlying213
  a41 := Tryz.isAgg213
  z41 := Tryz.sizeOf213
  v41 := Tryz.zeroValue213
  t44 := Tryz.underlying224
  a44 := Tryz.isAgg224
  z44 := Tryz.sizeOf224
  v44 := Tryz.zeroValue224
  t46 := Tryz.underlying226
  a46 := Tryz.isAgg226
  z46 := Tryz.sizeOf226
  v46 := Tryz.zeroValue226
  t53 := Tryz.underlying236
  a53 := Tryz.isAgg236
  z53 := Tryz.sizeOf236
  v53 := Tryz.zeroValue236
  t57 := Tryz.underlying240
  a57 := Tryz.isAgg240
  z57 := Tryz.sizeOf240
  v57 := Tryz.zeroValue240
  t63 := Tryz.underlying252
  a63 := Tryz.isAgg252
  z63 := Tryz.sizeOf252
  v63 := Tryz.zeroValue252
  t64 := Tryz.underlying253
  a64 := Tryz.isAgg253
  z64 := Tryz.sizeOf253
  v64 := Tryz.zeroValue253 }
end Go.Proofs
end
namespace Go.Proofs.YtkiedlmhocglhaaGreatDoor
section
open Go.RowKit Go.Maps Go.Sort Go.Shelf
theorem L8 (m : Nat) : AnyZ.SortsIn Tryz.prog Tryz.sortedS_ren Fence.wide m :=
  ⟨fun blk off cap ss W hH hblk hsz => callsIn_wide.2 (AnyM.slices_Sort_string Tryz.sortS blk off cap ss W hH hblk hsz),
   fun p cap W => callsIn_wide.2 (AnyM.slices_Sort_string_none Tryz.sortS p cap W)⟩
def zx (bk : Nat) : Value := .func (.func 77) #[] #[.pointer (some ⟨bk, 0, none⟩)]
theorem I0 {β : Bs} (mb : Option Nat) : Spec Tryz.prog β 43 #[.map mb] [] (fun v l => ∃ bk, v = zx bk ∧ l = [.blk bk [.map mb] 97]) :=
  Spec.Bk fun W _ => by
    have h : CallsIn Fence.wide 5 Tryz.prog 43 #[.map mb] W fun e w' => e = .returned (zx W.heap.size) ∧ w' = W.alloc (.cells #[.map mb] 97) := AnyZ.keys_in Tryz.keysS Fence.wide 5 trivial rfl mb W
    refine ((callsIn_wide (n := 5)).1 h).mono ?_
    rintro e w' ⟨rfl, rfl⟩
    refine ⟨_, _, rfl, ⟨W.heap.size, rfl, rfl⟩, (Keeps.refl _ _).alloc _, fun k => k = W.heap.size, ⟨?_, fun k => Iff.rfl⟩, fun k hk => Nat.le_of_eq hk.symm⟩
    show (W.heap.push _)[W.heap.size]? = _
    simp
def mE (es : dR Th) : List Value := es.map (fun e => .string e.1)
theorem Dr {es : dR Th} (h : iH es) : (es.map (fun e => e.1.data.toList)).Pairwise (· < ·) := by
  refine List.pairwise_map.2 (h.imp (fun {a b} hab => ?_))
  unfold iU at hab
  have h1 : ¬ Op.bytesLess b.1.toList a.1.toList = true := fun e => hab (by rw [e]; rfl)
  have h2 : ¬ b.1.toList = a.1.toList := fun e => hab (by rw [e]; simp)
  rw [bytesLess_eq, Lib.toList_data, Lib.toList_data] at h1
  rw [Lib.toList_data, Lib.toList_data] at h2
  by_cases e : a.1.data.toList < b.1.data.toList
  ·exact e
  exfalso
  have e := List.not_lt.1 e
  rcases List.le_iff_lt_or_eq.1 e with e | e
  ·exact h1 (by simpa using e)
  exact h2 e
theorem I3 {w : World} {b n : Nat} {L : HL} {es : dR Th} {D : DataW Value} (hr : iH es) (hown : w.ownsMap Tryz.prog 9 oG b n D) (hf : ∀ kl, Maps.has D kl = (fX L es kl).isSome) {ss : List (List UInt8)} (hp : ss.Perm (strKeys D)) :
    ss.mergeSort (fun x y => decide (x ≤ y)) = es.map (fun e => e.1.data.toList) := by
  have hsort := Dr hr
  obtain ⟨es', hD, hpw, _⟩ := hown.entries v7
  obtain ⟨Pt, Jt, hko⟩ := hown.keysOf
  obtain rfl : es' = Pt := by rw [hD] at Jt; simpa using Jt
  have hp2 : (es.map (fun e => e.1.data.toList)).Perm (strKeys D) := by
    rw [hD]
    refine perm_strKeys hpw (fun p hp => ?_) (hsort.imp (fun {a b} h e => by subst e; exact absurd h (List.lt_irrefl a))) (fun x => ?_)
    ·obtain ⟨v, hv⟩ := hko p hp
     obtain ⟨x, _, h, _⟩ := keyOf_str Tryz.underlying9 hv
     exact ⟨x, h⟩
    rw [← hD, hf]
    show _ ↔ ((aU ⟨x.toArray⟩ es).map (cG L)).isSome = true
    rw [Option.isSome_map]
    constructor
    ·intro hx
     obtain ⟨e, he, rfl⟩ := List.mem_map.1 hx
     have h1 : (⟨e.1.data.toList.toArray⟩ : ByteArray) = e.1 := by rw [Array.toArray_toList]
     rw [h1, tV (t := e.2) (iH.twice hr) he]; rfl
    intro hx
    obtain ⟨t, ht⟩ := Option.isSome_iff_exists.1 hx
    exact List.mem_map.2 ⟨_, j9 ht, by simp⟩
  have h3 := mergeSort_of_perm (hp.trans hp2.symm)
  have h4 : (es.map (fun e => e.1.data.toList)).mergeSort leB = es.map (fun e => e.1.data.toList) := List.mergeSort_of_pairwise (hsort.imp (fun {a b} h => by simp only [leB, decide_eq_true_eq]; exact List.le_of_lt h))
  exact h3.trans h4
theorem EZ {β : Bs} (L : HL) (b bk n : Nat) (es : dR Th) (hr : iH es) (hn : n ≤ 8192) :
    Spec Tryz.prog β 42 #[zx bk] [.abs (aH Tryz.prog 9 b (fX L es) n), .blk bk [.map (some b)] 97] (fun v l => ∃ A cap, v = .slice A es.length cap ∧
      l = [.abs (aH Tryz.prog 9 b (fX L es) n), .blk bk [.map (some b)] 97, .abs (aF 9 1 A es.length cap (mE es))]) := by
  intro R w hS
  obtain ⟨F1, h1⟩ := hS.get (i := 0) (p := .abs (aH Tryz.prog 9 b (fX L es) n)) rfl
  obtain ⟨F2, h2⟩ := hS.get (i := 1) (p := .blk bk [.map (some b)] 97) rfl
  obtain ⟨D, hown, hsz, hhas, _⟩ := h1.1
  have hcell : w.cell? ⟨bk, 0, none⟩ = some (.map (some b)) := (fq h2.1 rfl rfl rfl).1
  have hseq : SeqGives Fence.wide 2 Tryz.prog 77 #[.pointer (some ⟨bk, 0, none⟩)] encStr (fun ss => ss.Perm (strKeys D)) (Maps.size D) w :=
    AnyZ.keys_gives (ρ := Tryz.keysS_ren) { Tryz.keysS with } Fence.wide _ trivial rfl (by omega) bk b n D w (lt_of_some h2.1) hcell hown
  have cS := AnyZ.sorted_in Tryz.sortedS Fence.wide 5 trivial trivial trivial trivial rfl (by omega) (L8 _) (enters_of Tryz.func76 (by kernel_rfl) rfl) 77 #[.pointer (some ⟨bk, 0, none⟩)] trivial (enters_of Tryz.func77 (by kernel_rfl) rfl)
    (fun ss => ss.Perm (strKeys D)) (Maps.size D) (by rw [hsz]; unfold maxLen; omega) (by rw [hsz]; omega) w hseq
  change CallsIn _ _ Tryz.prog 42 _ _ _ at cS
  refine ((callsIn_wide (n := 5)).1 cS).mono ?_
  rintro e w' ⟨v, ss, rfl, hp, hrow, hnil, hb⟩
  have hkeys := I3 hr hown hhas hp
  have hl2 : ss.length = es.length := by
    have h3 : (ss.mergeSort (fun x y => decide (x ≤ y))).length = ss.length := List.length_mergeSort ss
    rw [hkeys, List.length_map] at h3
    exact h3.symm
  rw [hkeys, hl2] at hrow
  have tB : ∃ A cap, v = .slice A es.length cap := by
    rcases hrow.2 with ⟨e1, e2⟩ | ⟨g, cp, cur, e1, _⟩
    ·exact ⟨none, 0, by rw [e1, e2]⟩
    exact ⟨_, cp, e1⟩
  obtain ⟨A, cap, rfl⟩ := tB
  have Pu : (es.map (fun e => e.1.data.toList)).map encStr = mE es := by
    rw [List.map_map]
    refine List.map_congr_left (fun e _ => ?_)
    show encStr e.1.data.toList = .string e.1
    unfold encStr
    rw [Array.toArray_toList]
  rw [Pu] at hrow
  have hq : Sat β ([.abs (aH Tryz.prog 9 b (fX L es) n), .blk bk [.map (some b)] 97, .abs R] ++ [.abs (aF 9 1 A es.length cap (mE es))]) w' := by
    refine Sat.new (F := fun k => (Value.slice A es.length cap).ownBlock = some k) hS ⟨?_, fun k => Iff.rfl⟩ ⟨hb.os, hb.tape, hb.output, hb.size, fun k hk _ => hb.block k hk⟩ (fun k hk => (hrow.lt k hk).1)
    refine ⟨hrow.1, ?_⟩
    rcases hrow.2 with h | ⟨g, cp, cur, e1, _, h3, h4⟩
    ·exact .inl h
    exact .inr ⟨g, cp, cur, e1, Nat.zero_le _, h3, h4⟩
  exact ⟨_, [.abs (aH Tryz.prog 9 b (fX L es) n), .blk bk [.map (some b)] 97, .abs (aF 9 1 A es.length cap (mE es))], rfl, ⟨A, cap, rfl, rfl⟩, hq.pick (idx := [0, 1, 3, 2]) rfl rfl⟩
end
end Go.Proofs.YtkiedlmhocglhaaGreatDoor
