/-
  PROVED HERE: lemmas and contracts of functions (texts of this repo, joined; what the claim does not use is left out): H5, H6, ShelfP, As, Rs, GOk, Nw, Wn, WD, H7, Vg, H8, H9, Vh, HD, H10, H11.
  CONDITIONS: as the theorems say.
-/
import Derived.Test.YtiehgnlnofhbaaaGreatDoorMRfinds3
import Derived.Shelf.Strings.Split
import Derived.Test.YtiehgnlnofhbaaaGreatDoorProg
import Derived.Laws.IdiomStrings
import Derived.Lib.SplitLaws
set_option maxRecDepth 100000
set_option maxHeartbeats 4000000
namespace Go.Proofs.YtiehgnlnofhbaaaGreatDoor
section
open Go.RowKit Go.Maps bq aF
attribute [local irreducible] ak aU af aj
abbrev Hr (f:Nat) (L:HL) (d:Nat) (name):=([(61,vP f),(62,vP (L.b d)),(63,.string name)]:Fr)
abbrev Hs (f:Nat) (L:HL) (to:Nat) (toName):=([(65,vP f),(66,vP (L.b to)),(67,.string toName)]:Fr)
abbrev xP (L:HL) (to:Nat) (toName):=([(45,.map (some (L.m to))),(46,.string toName)]:Fr)
abbrev Rj (f:Nat) (L:HL) (to:Nat) (toName):=([(57,vP f),(58,vP (L.b to)),(59,.string toName)]:Fr)
abbrev Rk (L:HL) (to:Nat):=([(12,.pointer none),(13,.bool false),(14,vP (L.b to))]:Fr)
abbrev Rl (L:HL) (to:Nat) (toName):=([(3,vP (L.b to)),(4,.string toName)]:Fr)
theorem Lw {β:Bs} (S:aJ) (L:HL) (f m t:Nat) (hI:Inv S) (d:Nat) (hd:Live S.idx ⟨d,2⟩) (name:ByteArray) (hsz:name.size<=1048576) (to:Nat) (hto:Live S.idx ⟨to,2⟩) (toName:ByteArray) (pX:toName.size<=1048576) :
    Spec Tryz.prog β 204 #[vP f,vP (L.b d),.string name,vP (L.b to),.string toName] (pA f m t L S) (fun v l=>∃ L2,v=vI (bL S d name to toName).1/\l=(pA f m t L2 ((bL S d name to toName).2))):=by
 have hX:=hI.hX
 have hel:(obj S.O d).ah.length<=8192:=hI.iT hd
 have hkd:(obj S.O d).kind=2:=hI.kind hd
 have jJ:(obj S.O to).kind=2:=hI.kind hto
 have Y1:(obj S.O to).ah.length<=8192:=hI.iT hto
 refine Spec.enter Tryz.func204 rfl Tryz.ntmps204 (Nat.le_of_ble_eq_true rfl) (fun R=>?_)
 refine af.seq ?_
 rcases hI.pR hd name with hlk|⟨tk,hlk,hlv⟩|⟨tk,hlk,hlv⟩|⟨tk,hlk,hlv⟩
 ·refine af.region (gK 1 [] [] ?_)
  refine NS (gK 5 [(19,.map (some (L.m d))),(20,.string name)] [(3,v_ 3 (bQ L hkd))] ?_)
  refine jg 5 hkd hlk ?_
  refine gK 1 [(11,.nilIface)] [] ?_
  refine NN (af.seq (SR (gK 2 [(23,.bool true)] [] ?_)))
  refine NN (CT (SR (gK 1 [(10,vI 170)] [] ?_)))
  refine NN (af.ret (aj.aq ?_))
  exact RT (vI 170) [0,1,2,3,4,5,6] (⟨L,by rw [show bL S d name to toName=(170,S) by unfold bL;rw [hlk]]<;>exact⟨rfl,rfl⟩⟩)
 ·have hkt:(obj S.O tk).kind=1:=hI.kind hlv
  refine af.region (gK 1 [] [] ?_)
  refine NS (gK 5 [(19,.map (some (L.m d))),(20,.string name)] [(3,v_ 3 (bQ L hkd))] ?_)
  refine jg 5 hkd hlk ?_
  refine gK 1 [(11,.iface 162 (vP (L.b tk)))] [] ?_
  refine NN (af.seq (SR (gK 2 [(23,.bool false)] [] ?_)))
  refine NN (CF (af.skip (NX (SR (gK 7 [(12,.pointer none),(13,.bool false)] [] ?_)))))
  refine NN (af.seq (SR (gK 2 [(14,vP (L.b to))] [] ?_)))
  refine NN (af.block ?_)
  refine af.loop (ι:=Unit) (fun (u:Unit)=>True) (fun (u:Unit)=>0) (fun (u:Unit)=>(Ho f L d name++Rl L to toName++[(11,.iface 162 (vP (L.b tk)))]++Rk L to)) (fun (u:Unit)=>((pA f m t L S)++[.abs R])) () (idx:=[0,1,2,3,4,11,12,13,14]) (pk:=[0,1,2,3,4,5,6]) (show True from trivial) (fun _=>by kernel_rfl) rfl (by kernel_rfl) ?_
  rintro u _
  show af _ _ _ _ (Ho f L d name++Rl L to toName++[(11,.iface 162 (vP (L.b tk)))]++Rk L to) ((pA f m t L S)++[.abs R]) _
  refine af.seq (SR (gK 5 [(34,.bool false)] [] ?_))
  refine NN (CF (af.exit (aj.aV (aj.aV (aj.cL (NX (af.seq ?_)))))))
  skip
  rcases hI.pR hto toName with bV|⟨ok,bV,iN⟩|⟨ok,bV,iN⟩|⟨ok,bV,iN⟩
  ·refine af.region (gK 5 (xP L to toName) [(3,v_ 3 (bQ L jJ))] ?_)
   refine jg 5 jJ bV ?_
   refine gK 1 [(15,.nilIface)] [] ?_
   refine NN (af.seq (SR (gK 3 [(50,.bool false)] [] ?_)))
   refine NN (CF (af.skip (NX (af.seq (SR (gK 2 [(52,.bool false)] [] ?_))))))
   refine NN (CF (af.skip (NX (SR ?_))))
   have bY:Inv S:=hI
   have hd1:=hd
   have fQ:=hlk
   have qI:=bV
   have kz:=hto
   have lE:(obj S.O d).kind=2:=bY.kind hd1
   have qJ:(obj S.O to).kind=2:=bY.kind kz
   have lF:Live S.idx ⟨tk,1⟩:=(bY.ent hd1 fQ).2
   have lG:(obj S.O tk).kind=1:=bY.kind lF
   have Eg:(obj S.O d).ah.length<=8192:=bY.iT hd1
   have Eh:(obj S.O to).ah.length<=8192:=bY.iT kz
   have qK:=bY.lb lF
   have lH:tk≠d:=bY.ne hd1 fQ
   refine gK 3 (Hr f L d name) [] ?_
   refine gL [0,3,5] (j3 S.X f m t bY.hX S.O L d lE name hsz ⟨tk,1⟩ lG (by simp) fQ (bY.twice hd1) (by omega) (by simp only at qK ⊢;omega)) ?_
   rintro _ _ ⟨rfl,rfl⟩
   refine NS (gK 4 (Hs f L to toName++[(68,.iface 162 (vP (L.b tk)))]) [] ?_)
   refine gL [0,1,2] (jZ { S.X with ah:=S.X.ah - 1 } f m t (bY.Az hd1 fQ) (aR S.X S.O d name ⟨tk,1⟩) L to (cP.trans qJ) toName pX (kK lH qI) (Nat.le_trans (mZ lH) (by omega)) ⟨tk,1⟩ (cP.trans lG) (by simp) (kQ bY.toInv0 hd1 fQ)) ?_
   rintro _ _ ⟨rfl,rfl⟩
   refine NS (ak.fo [(5,.abs (aG (cg (dX S.X (aR S.X S.O d name ⟨tk,1⟩) to toName ⟨tk,1⟩) L)))] (fun w hS=>by rw [show cg (dX S.X (aR S.X S.O d name ⟨tk,1⟩) to toName ⟨tk,1⟩) L=cg S.O L from jX.trans kJ];exact hS) ?_)
   refine gK 1 [(10,vI 0)] [] ?_
   refine NN (af.ret ?_)
   exact RT (vI 0) [0,3,4,1,5,2,6] (⟨L,by rw [show bL S d name to toName=(0,oh S d name to toName ⟨tk,1⟩) by unfold bL;rw [hlk];refine (if_neg (fun h=>absurd h.1 (by simp))).trans ?_;rw [bV]]<;>exact⟨rfl,rfl⟩⟩)
  ·have pY:(obj S.O ok).kind=1:=hI.kind iN
   refine af.region (gK 5 (xP L to toName) [(3,v_ 3 (bQ L jJ))] ?_)
   refine jg 5 jJ bV ?_
   refine gK 1 [(15,.iface 162 (vP (L.b ok)))] [] ?_
   refine NN (af.seq (SR (gK 2 [(48,.iface 162 (vP (L.b ok))),(49,.iface 162 (vP (L.b tk)))] [] ?_)))
   refine ak.jH (d:=(some 50)) (op:=.binOp .eql 156 (.tmp 48) (.tmp 49) 156) (v:=.bool (decide (ok=tk))) (fun _=>by kernel_rfl) (fun o junk w ho hS=>by obtain⟨F,hF⟩:=hS.get (i:=3) rfl;exact⟨w,BH TD ho (by kernel_rfl) (by kernel_rfl) (by rw [pY];decide) (by rw [hkt];decide) hF,hS⟩) ?_
   refine NN (af.aW (p:=ok=tk) (fun _=>by kernel_rfl) (fun h50=>?_) (fun h50=>?_))
   ·refine SR (gK 1 [(10,vI 0)] [] ?_)
    refine NN (af.ret (aj.aq ?_))
    exact RT (vI 0) [0,1,2,3,4,5,6] (⟨L,by rw [show bL S d name to toName=(0,S) by unfold bL;rw [hlk];refine (if_neg (fun h=>absurd h.1 (by simp))).trans ?_;rw [bV];exact if_pos (by rw [h50])]<;>exact⟨rfl,rfl⟩⟩)
   refine af.skip (NX (af.seq (SR (gK 2 [(52,.bool true)] [] ?_))))
   refine NN (CT (af.seq (SR (gK 1 [(53,.iface 162 (vP (L.b ok)))] [] ?_))))
   refine gL [] (qE (vP (L.b ok))) ?_
   rintro _ _ ⟨rfl,rfl⟩
   refine gK 1 [(55,.bool false)] [] ?_
   refine NN (CF (af.skip (NX (af.seq (SR (gK 1 [(56,.bool false)] [] ?_))))))
   refine NN (CF (af.skip (NX (af.region (gK 3 (Rj f L to toName) [] ?_)))))
   refine gL [0,3,5,1] (oH S L f m t hI to hto toName pX ⟨ok,1⟩ bV) ?_
   rintro _ _ ⟨rfl,rfl⟩
   refine NS ?_
   have bY:Inv (aL S to toName ⟨ok,1⟩):=hI.zZ hto bV (by simp)
   have hot:(⟨ok,1⟩:Th)≠⟨tk,1⟩:=fun e=>h50 (congrArg Th.k e)
   have hd1:Live (aL S to toName ⟨ok,1⟩).idx ⟨d,2⟩:=jY hI.toInv0 hto bV hd (fun e=>by have:=iH hd iN e;cases this)
   have kz:Live (aL S to toName ⟨ok,1⟩).idx ⟨to,2⟩:=jY hI.toInv0 hto bV hto (fun e=>by have:=iH hto iN e;cases this)
   have fQ:aT name (obj (aL S to toName ⟨ok,1⟩).O d).ah=some ⟨tk,1⟩:=rG hI.toInv0 hto bV hlk hot
   have qI:aT toName (obj (aL S to toName ⟨ok,1⟩).O to).ah=none:=rH hI.toInv0 hto bV
   have lE:(obj (aL S to toName ⟨ok,1⟩).O d).kind=2:=bY.kind hd1
   have qJ:(obj (aL S to toName ⟨ok,1⟩).O to).kind=2:=bY.kind kz
   have lF:Live (aL S to toName ⟨ok,1⟩).idx ⟨tk,1⟩:=(bY.ent hd1 fQ).2
   have lG:(obj (aL S to toName ⟨ok,1⟩).O tk).kind=1:=bY.kind lF
   have Eg:(obj (aL S to toName ⟨ok,1⟩).O d).ah.length<=8192:=bY.iT hd1
   have Eh:(obj (aL S to toName ⟨ok,1⟩).O to).ah.length<=8192:=bY.iT kz
   have qK:=bY.lb lF
   have lH:tk≠d:=bY.ne hd1 fQ
   refine gK 3 (Hr f L d name) [] ?_
   refine gL [0,1,2] (j3 (aL S to toName ⟨ok,1⟩).X f m t bY.hX (aL S to toName ⟨ok,1⟩).O L d lE name hsz ⟨tk,1⟩ lG (by simp) fQ (bY.twice hd1) (by omega) (by simp only at qK ⊢;omega)) ?_
   rintro _ _ ⟨rfl,rfl⟩
   refine NS (gK 4 (Hs f L to toName++[(68,.iface 162 (vP (L.b tk)))]) [] ?_)
   refine gL [0,1,2] (jZ { (aL S to toName ⟨ok,1⟩).X with ah:=(aL S to toName ⟨ok,1⟩).X.ah - 1 } f m t (bY.Az hd1 fQ) (aR (aL S to toName ⟨ok,1⟩).X (aL S to toName ⟨ok,1⟩).O d name ⟨tk,1⟩) L to (cP.trans qJ) toName pX (kK lH qI) (Nat.le_trans (mZ lH) (by omega)) ⟨tk,1⟩ (cP.trans lG) (by simp) (kQ bY.toInv0 hd1 fQ)) ?_
   rintro _ _ ⟨rfl,rfl⟩
   refine NS (ak.fo [(5,.abs (aG (cg (dX (aL S to toName ⟨ok,1⟩).X (aR (aL S to toName ⟨ok,1⟩).X (aL S to toName ⟨ok,1⟩).O d name ⟨tk,1⟩) to toName ⟨tk,1⟩) L)))] (fun w hS=>by rw [show cg (dX (aL S to toName ⟨ok,1⟩).X (aR (aL S to toName ⟨ok,1⟩).X (aL S to toName ⟨ok,1⟩).O d name ⟨tk,1⟩) to toName ⟨tk,1⟩) L=cg S.O L from jX.trans (kJ.trans oC)];exact hS) ?_)
   refine gK 1 [(10,vI 0)] [] ?_
   refine NN (af.ret ?_)
   exact RT (vI 0) [0,3,4,1,5,2,6] (⟨L,by rw [show bL S d name to toName=(0,oh (aL S to toName ⟨ok,1⟩) d name to toName ⟨tk,1⟩) by unfold bL;rw [hlk];refine (if_neg (fun h=>absurd h.1 (by simp))).trans ?_;rw [bV];exact (if_neg (fun e=>h50 (congrArg Th.k e))).trans ((if_neg (by simp)).trans (if_neg (by simp)))]<;>exact⟨rfl,rfl⟩⟩)
  ·have pY:(obj S.O ok).kind=2:=hI.kind iN
   refine af.region (gK 5 (xP L to toName) [(3,v_ 3 (bQ L jJ))] ?_)
   refine jg 5 jJ bV ?_
   refine gK 1 [(15,.iface 169 (vP (L.b ok)))] [] ?_
   refine NN (af.seq (SR (gK 3 [(50,.bool false)] [] ?_)))
   refine NN (CF (af.skip (NX (af.seq (SR (gK 2 [(52,.bool true)] [] ?_))))))
   refine NN (CT (af.seq (SR (gK 1 [(53,.iface 169 (vP (L.b ok)))] [] ?_))))
   refine gL [] (qF (vP (L.b ok))) ?_
   rintro _ _ ⟨rfl,rfl⟩
   refine gK 1 [(55,.bool true)] [] ?_
   refine NN (CT (SR (gK 1 [(10,vI 172)] [] ?_)))
   refine NN (af.ret (aj.aq (aj.aq ?_)))
   exact RT (vI 172) [0,1,2,3,4,5,6] (⟨L,by rw [show bL S d name to toName=(172,S) by unfold bL;rw [hlk];refine (if_neg (fun h=>absurd h.1 (by simp))).trans ?_;rw [bV];exact (if_neg (fun e=>by cases e)).trans (if_pos rfl)]<;>exact⟨rfl,rfl⟩⟩)
  have pY:(obj S.O ok).kind=3:=hI.kind iN
  refine af.region (gK 5 (xP L to toName) [(3,v_ 3 (bQ L jJ))] ?_)
  refine jg 5 jJ bV ?_
  refine gK 1 [(15,.iface 166 (vP (L.b ok)))] [] ?_
  refine NN (af.seq (SR (gK 3 [(50,.bool false)] [] ?_)))
  refine NN (CF (af.skip (NX (af.seq (SR (gK 2 [(52,.bool true)] [] ?_))))))
  refine NN (CT (af.seq (SR (gK 1 [(53,.iface 166 (vP (L.b ok)))] [] ?_))))
  refine gL [] (qG (vP (L.b ok))) ?_
  rintro _ _ ⟨rfl,rfl⟩
  refine gK 1 [(55,.bool false)] [] ?_
  refine NN (CF (af.skip (NX (af.seq (SR (gK 1 [(56,.bool false)] [] ?_))))))
  refine NN (CF (af.skip (NX (af.region (gK 3 (Rj f L to toName) [] ?_)))))
  refine gL [0,3,5,1] (oH S L f m t hI to hto toName pX ⟨ok,3⟩ bV) ?_
  rintro _ _ ⟨rfl,rfl⟩
  refine NS ?_
  have bY:Inv (aL S to toName ⟨ok,3⟩):=hI.zZ hto bV (by simp)
  have hot:(⟨ok,3⟩:Th)≠⟨tk,1⟩:=fun e=>by cases e
  have hd1:Live (aL S to toName ⟨ok,3⟩).idx ⟨d,2⟩:=jY hI.toInv0 hto bV hd (fun e=>by have:=iH hd iN e;cases this)
  have kz:Live (aL S to toName ⟨ok,3⟩).idx ⟨to,2⟩:=jY hI.toInv0 hto bV hto (fun e=>by have:=iH hto iN e;cases this)
  have fQ:aT name (obj (aL S to toName ⟨ok,3⟩).O d).ah=some ⟨tk,1⟩:=rG hI.toInv0 hto bV hlk hot
  have qI:aT toName (obj (aL S to toName ⟨ok,3⟩).O to).ah=none:=rH hI.toInv0 hto bV
  have lE:(obj (aL S to toName ⟨ok,3⟩).O d).kind=2:=bY.kind hd1
  have qJ:(obj (aL S to toName ⟨ok,3⟩).O to).kind=2:=bY.kind kz
  have lF:Live (aL S to toName ⟨ok,3⟩).idx ⟨tk,1⟩:=(bY.ent hd1 fQ).2
  have lG:(obj (aL S to toName ⟨ok,3⟩).O tk).kind=1:=bY.kind lF
  have Eg:(obj (aL S to toName ⟨ok,3⟩).O d).ah.length<=8192:=bY.iT hd1
  have Eh:(obj (aL S to toName ⟨ok,3⟩).O to).ah.length<=8192:=bY.iT kz
  have qK:=bY.lb lF
  have lH:tk≠d:=bY.ne hd1 fQ
  refine gK 3 (Hr f L d name) [] ?_
  refine gL [0,1,2] (j3 (aL S to toName ⟨ok,3⟩).X f m t bY.hX (aL S to toName ⟨ok,3⟩).O L d lE name hsz ⟨tk,1⟩ lG (by simp) fQ (bY.twice hd1) (by omega) (by simp only at qK ⊢;omega)) ?_
  rintro _ _ ⟨rfl,rfl⟩
  refine NS (gK 4 (Hs f L to toName++[(68,.iface 162 (vP (L.b tk)))]) [] ?_)
  refine gL [0,1,2] (jZ { (aL S to toName ⟨ok,3⟩).X with ah:=(aL S to toName ⟨ok,3⟩).X.ah - 1 } f m t (bY.Az hd1 fQ) (aR (aL S to toName ⟨ok,3⟩).X (aL S to toName ⟨ok,3⟩).O d name ⟨tk,1⟩) L to (cP.trans qJ) toName pX (kK lH qI) (Nat.le_trans (mZ lH) (by omega)) ⟨tk,1⟩ (cP.trans lG) (by simp) (kQ bY.toInv0 hd1 fQ)) ?_
  rintro _ _ ⟨rfl,rfl⟩
  refine NS (ak.fo [(5,.abs (aG (cg (dX (aL S to toName ⟨ok,3⟩).X (aR (aL S to toName ⟨ok,3⟩).X (aL S to toName ⟨ok,3⟩).O d name ⟨tk,1⟩) to toName ⟨tk,1⟩) L)))] (fun w hS=>by rw [show cg (dX (aL S to toName ⟨ok,3⟩).X (aR (aL S to toName ⟨ok,3⟩).X (aL S to toName ⟨ok,3⟩).O d name ⟨tk,1⟩) to toName ⟨tk,1⟩) L=cg S.O L from jX.trans (kJ.trans oC)];exact hS) ?_)
  refine gK 1 [(10,vI 0)] [] ?_
  refine NN (af.ret ?_)
  exact RT (vI 0) [0,3,4,1,5,2,6] (⟨L,by rw [show bL S d name to toName=(0,oh (aL S to toName ⟨ok,3⟩) d name to toName ⟨tk,1⟩) by unfold bL;rw [hlk];refine (if_neg (fun h=>absurd h.1 (by simp))).trans ?_;rw [bV];exact (if_neg (fun e=>by cases e)).trans ((if_neg (by simp)).trans (if_neg (by simp)))]<;>exact⟨rfl,rfl⟩⟩)
 ·have hkt:(obj S.O tk).kind=2:=hI.kind hlv
  refine af.region (gK 1 [] [] ?_)
  refine NS (gK 5 [(19,.map (some (L.m d))),(20,.string name)] [(3,v_ 3 (bQ L hkd))] ?_)
  refine jg 5 hkd hlk ?_
  refine gK 1 [(11,.iface 169 (vP (L.b tk)))] [] ?_
  refine NN (af.seq (SR (gK 2 [(23,.bool false)] [] ?_)))
  refine NN (CF (af.skip (NX (SR (gK 7 [(12,vP (L.b tk)),(13,.bool true)] [] ?_)))))
  refine NN (af.seq (SR (gK 2 [(14,vP (L.b to))] [] ?_)))
  refine NN (af.block ?_)
  obtain⟨dp,hdp⟩:=hI.deep
  refine af.loop (ι:=(Option Nat)) (fun (x:Option Nat)=>(jM S.O tk to↔∃ z0,x=some z0/\jM S.O tk z0)/\(∀ z0,x=some z0->Live S.idx ⟨z0,2⟩)) (fun (x:Option Nat)=>yN dp x) (fun (x:Option Nat)=>[(0,vP f),(1,vP (L.b d)),(2,.string name),(3,vP (L.b to)),(4,.string toName),(11,.iface 169 (vP (L.b tk))),(12,vP (L.b tk)),(13,.bool true),(14,(Ay L x))]) (fun (x:Option Nat)=>((pA f m t L S)++[.abs R])) ((some to)) (idx:=[0,1,2,3,4,11,12,13,14]) (pk:=[0,1,2,3,4,5,6]) (show (jM S.O tk to↔∃ z0,((some to))=some z0/\jM S.O tk z0)/\(∀ z0,((some to))=some z0->Live S.idx ⟨z0,2⟩) from ⟨⟨fun h=>⟨to,rfl,h⟩,fun ⟨y,e,h⟩=>by cases e;exact h⟩,fun y e=>by cases e;exact hto⟩) (fun _=>by kernel_rfl) rfl (by kernel_rfl) ?_
  rintro x ⟨hbx,hlx⟩
  show af _ _ _ _ [(0,vP f),(1,vP (L.b d)),(2,.string name),(3,vP (L.b to)),(4,.string toName),(11,.iface 169 (vP (L.b tk))),(12,vP (L.b tk)),(13,.bool true),(14,(Ay L x))] ((pA f m t L S)++[.abs R]) _
  refine af.seq (af.seq ?_)
  rcases hx:x with _|y
  ·refine af.region (gK 5 [(34,.bool false)] [] ?_)
   refine NN (CF (af.exit (aj.aV (aj.aV (aj.cL (NX (af.seq ?_)))))))
   have hnb:¬ jM S.O tk to:=fun h=>by obtain⟨y,e,_⟩:=hbx.1 h;rw [hx] at e;cases e
   rcases hI.pR hto toName with bV|⟨ok,bV,iN⟩|⟨ok,bV,iN⟩|⟨ok,bV,iN⟩
   ·refine af.region (gK 5 (xP L to toName) [(3,v_ 3 (bQ L jJ))] ?_)
    refine jg 5 jJ bV ?_
    refine gK 1 [(15,.nilIface)] [] ?_
    refine NN (af.seq (SR (gK 3 [(50,.bool false)] [] ?_)))
    refine NN (CF (af.skip (NX (af.seq (SR (gK 2 [(52,.bool false)] [] ?_))))))
    refine NN (CF (af.skip (NX (SR ?_))))
    have bY:Inv S:=hI
    have hd1:=hd
    have fQ:=hlk
    have qI:=bV
    have kz:=hto
    have lE:(obj S.O d).kind=2:=bY.kind hd1
    have qJ:(obj S.O to).kind=2:=bY.kind kz
    have lF:Live S.idx ⟨tk,2⟩:=(bY.ent hd1 fQ).2
    have lG:(obj S.O tk).kind=2:=bY.kind lF
    have Eg:(obj S.O d).ah.length<=8192:=bY.iT hd1
    have Eh:(obj S.O to).ah.length<=8192:=bY.iT kz
    have qK:=bY.lb lF
    have lH:tk≠d:=bY.ne hd1 fQ
    refine gK 3 (Hr f L d name) [] ?_
    refine gL [0,3,5] (j3 S.X f m t bY.hX S.O L d lE name hsz ⟨tk,2⟩ lG (by simp) fQ (bY.twice hd1) (by omega) (by simp only at qK ⊢;omega)) ?_
    rintro _ _ ⟨rfl,rfl⟩
    refine NS (gK 4 (Hs f L to toName++[(68,.iface 169 (vP (L.b tk)))]) [] ?_)
    refine gL [0,1,2] (jZ { S.X with ah:=S.X.ah - 1 } f m t (bY.Az hd1 fQ) (aR S.X S.O d name ⟨tk,2⟩) L to (cP.trans qJ) toName pX (kK lH qI) (Nat.le_trans (mZ lH) (by omega)) ⟨tk,2⟩ (cP.trans lG) (by simp) (kQ bY.toInv0 hd1 fQ)) ?_
    rintro _ _ ⟨rfl,rfl⟩
    refine NS (ak.fo [(5,.abs (aG (cg (dX S.X (aR S.X S.O d name ⟨tk,2⟩) to toName ⟨tk,2⟩) L)))] (fun w hS=>by rw [show cg (dX S.X (aR S.X S.O d name ⟨tk,2⟩) to toName ⟨tk,2⟩) L=cg S.O L from jX.trans kJ];exact hS) ?_)
    refine gK 1 [(10,vI 0)] [] ?_
    refine NN (af.ret ?_)
    exact RT (vI 0) [0,3,4,1,5,2,6] (⟨L,by rw [show bL S d name to toName=(0,oh S d name to toName ⟨tk,2⟩) by unfold bL;rw [hlk];refine (if_neg (fun h=>hnb h.2)).trans ?_;rw [bV]]<;>exact⟨rfl,rfl⟩⟩)
   ·have pY:(obj S.O ok).kind=1:=hI.kind iN
    refine af.region (gK 5 (xP L to toName) [(3,v_ 3 (bQ L jJ))] ?_)
    refine jg 5 jJ bV ?_
    refine gK 1 [(15,.iface 162 (vP (L.b ok)))] [] ?_
    refine NN (af.seq (SR (gK 3 [(50,.bool false)] [] ?_)))
    refine NN (CF (af.skip (NX (af.seq (SR (gK 2 [(52,.bool true)] [] ?_))))))
    refine NN (CT (af.seq (SR (gK 1 [(53,.iface 162 (vP (L.b ok)))] [] ?_))))
    refine gL [] (qE (vP (L.b ok))) ?_
    rintro _ _ ⟨rfl,rfl⟩
    refine gK 1 [(55,.bool false)] [] ?_
    refine NN (CF (af.skip (NX (af.seq (SR (gK 1 [(56,.bool true)] [] ?_))))))
    refine NN (CT (SR (gK 1 [(10,vI 173)] [] ?_)))
    refine NN (af.ret (aj.aq (aj.aq ?_)))
    exact RT (vI 173) [0,1,2,3,4,5,6] (⟨L,by rw [show bL S d name to toName=(173,S) by unfold bL;rw [hlk];refine (if_neg (fun h=>hnb h.2)).trans ?_;rw [bV];exact (if_neg (fun e=>by cases e)).trans ((if_neg (by simp)).trans (if_pos rfl))]<;>exact⟨rfl,rfl⟩⟩)
   ·have pY:(obj S.O ok).kind=2:=hI.kind iN
    refine af.region (gK 5 (xP L to toName) [(3,v_ 3 (bQ L jJ))] ?_)
    refine jg 5 jJ bV ?_
    refine gK 1 [(15,.iface 169 (vP (L.b ok)))] [] ?_
    refine NN (af.seq (SR (gK 2 [(48,.iface 169 (vP (L.b ok))),(49,.iface 169 (vP (L.b tk)))] [] ?_)))
    refine ak.jH (d:=(some 50)) (op:=.binOp .eql 156 (.tmp 48) (.tmp 49) 156) (v:=.bool (decide (ok=tk))) (fun _=>by kernel_rfl) (fun o junk w ho hS=>by obtain⟨F,hF⟩:=hS.get (i:=3) rfl;exact⟨w,BH Vs ho (by kernel_rfl) (by kernel_rfl) (by rw [pY];decide) (by rw [hkt];decide) hF,hS⟩) ?_
    refine NN (af.aW (p:=ok=tk) (fun _=>by kernel_rfl) (fun h50=>?_) (fun h50=>?_))
    ·refine SR (gK 1 [(10,vI 0)] [] ?_)
     refine NN (af.ret (aj.aq ?_))
     exact RT (vI 0) [0,1,2,3,4,5,6] (⟨L,by rw [show bL S d name to toName=(0,S) by unfold bL;rw [hlk];refine (if_neg (fun h=>hnb h.2)).trans ?_;rw [bV];exact if_pos (by rw [h50])]<;>exact⟨rfl,rfl⟩⟩)
    refine af.skip (NX (af.seq (SR (gK 2 [(52,.bool true)] [] ?_))))
    refine NN (CT (af.seq (SR (gK 1 [(53,.iface 169 (vP (L.b ok)))] [] ?_))))
    refine gL [] (qF (vP (L.b ok))) ?_
    rintro _ _ ⟨rfl,rfl⟩
    refine gK 1 [(55,.bool true)] [] ?_
    refine NN (CT (SR (gK 1 [(10,vI 172)] [] ?_)))
    refine NN (af.ret (aj.aq (aj.aq ?_)))
    exact RT (vI 172) [0,1,2,3,4,5,6] (⟨L,by rw [show bL S d name to toName=(172,S) by unfold bL;rw [hlk];refine (if_neg (fun h=>hnb h.2)).trans ?_;rw [bV];exact (if_neg (fun e=>h50 (congrArg Th.k e))).trans (if_pos rfl)]<;>exact⟨rfl,rfl⟩⟩)
   have pY:(obj S.O ok).kind=3:=hI.kind iN
   refine af.region (gK 5 (xP L to toName) [(3,v_ 3 (bQ L jJ))] ?_)
   refine jg 5 jJ bV ?_
   refine gK 1 [(15,.iface 166 (vP (L.b ok)))] [] ?_
   refine NN (af.seq (SR (gK 3 [(50,.bool false)] [] ?_)))
   refine NN (CF (af.skip (NX (af.seq (SR (gK 2 [(52,.bool true)] [] ?_))))))
   refine NN (CT (af.seq (SR (gK 1 [(53,.iface 166 (vP (L.b ok)))] [] ?_))))
   refine gL [] (qG (vP (L.b ok))) ?_
   rintro _ _ ⟨rfl,rfl⟩
   refine gK 1 [(55,.bool false)] [] ?_
   refine NN (CF (af.skip (NX (af.seq (SR (gK 1 [(56,.bool true)] [] ?_))))))
   refine NN (CT (SR (gK 1 [(10,vI 173)] [] ?_)))
   refine NN (af.ret (aj.aq (aj.aq ?_)))
   exact RT (vI 173) [0,1,2,3,4,5,6] (⟨L,by rw [show bL S d name to toName=(173,S) by unfold bL;rw [hlk];refine (if_neg (fun h=>hnb h.2)).trans ?_;rw [bV];exact (if_neg (fun e=>by cases e)).trans ((if_neg (by simp)).trans (if_pos rfl))]<;>exact⟨rfl,rfl⟩⟩)
  have hky:(obj S.O y).kind=2:=hI.kind (hlx y hx)
  refine af.region (gK 5 [(34,.bool true)] [] ?_)
  refine NN (CT (af.skip (NX (af.seq (af.block (SR ?_))))))
  refine gK 2 [(39,vP (L.b y)),(40,vP (L.b tk))] [] ?_
  refine ak.jH (d:=(some 41)) (op:=.binOp .eql 169 (.tmp 39) (.tmp 40) 169) (v:=.bool (decide (y=tk))) (fun _=>by kernel_rfl) (fun o junk w ho hS=>by obtain⟨F,hF⟩:=hS.get (i:=3) rfl;exact⟨w,MZ ho (by kernel_rfl) (by kernel_rfl) (by rw [hky];decide) (by rw [hkt];decide) hF,hS⟩) ?_
  refine NN (af.aW (p:=y=tk) (fun _=>by kernel_rfl) (fun C5=>?_) (fun C5=>?_))
  ·refine SR (gK 1 [(10,vI 174)] [] ?_)
   refine NN (af.ret (aj.aK (aj.aq (aj.aq (aj.aK (aj.aq ?_))))))
   exact RT (vI 174) [0,1,2,3,4,5,6] (⟨L,by rw [show bL S d name to toName=(174,S) by unfold bL;rw [hlk];exact if_pos ⟨rfl,hbx.2 ⟨y,hx,by rw [C5];exact .here⟩⟩]<;>exact⟨rfl,rfl⟩⟩)
  refine af.skip (aj.aO (NX (af.region ?_)))
  refine gK 5 [(14,(Ay L (obj S.O y).up))] [(3,v_ 3 (Xl L hky))] ?_
  refine NL ?_
  exact aj.turn (((obj S.O y).up)) (idx:=[0,1,2,3,4,11,12,13,14]) (pk:=[0,1,2,3,4,5,6]) (show (jM S.O tk to↔∃ z0,(((obj S.O y).up))=some z0/\jM S.O tk z0)/\(∀ z0,(((obj S.O y).up))=some z0->Live S.idx ⟨z0,2⟩) from ⟨hbx.trans ⟨fun ⟨y2,e,h⟩=>by rw [hx] at e;cases e;exact (CG C5).1 h,fun h=>⟨y,hx,(CG C5).2 h⟩⟩,fun z e=>((hI.up ⟨y,2⟩ (hlx y hx) z).1 e).2.1⟩) (by show yN dp (((obj S.O y).up)) < yN dp (some y);exact M6 hdp) (fun _=>by kernel_rfl) rfl (by kernel_rfl)
 have hkt:(obj S.O tk).kind=3:=hI.kind hlv
 refine af.region (gK 1 [] [] ?_)
 refine NS (gK 5 [(19,.map (some (L.m d))),(20,.string name)] [(3,v_ 3 (bQ L hkd))] ?_)
 refine jg 5 hkd hlk ?_
 refine gK 1 [(11,.iface 166 (vP (L.b tk)))] [] ?_
 refine NN (af.seq (SR (gK 2 [(23,.bool false)] [] ?_)))
 refine NN (CF (af.skip (NX (SR (gK 7 [(12,.pointer none),(13,.bool false)] [] ?_)))))
 refine NN (af.seq (SR (gK 2 [(14,vP (L.b to))] [] ?_)))
 refine NN (af.block ?_)
 refine af.loop (ι:=Unit) (fun (u:Unit)=>True) (fun (u:Unit)=>0) (fun (u:Unit)=>(Ho f L d name++Rl L to toName++[(11,.iface 166 (vP (L.b tk)))]++Rk L to)) (fun (u:Unit)=>((pA f m t L S)++[.abs R])) () (idx:=[0,1,2,3,4,11,12,13,14]) (pk:=[0,1,2,3,4,5,6]) (show True from trivial) (fun _=>by kernel_rfl) rfl (by kernel_rfl) ?_
 rintro u _
 show af _ _ _ _ (Ho f L d name++Rl L to toName++[(11,.iface 166 (vP (L.b tk)))]++Rk L to) ((pA f m t L S)++[.abs R]) _
 refine af.seq (SR (gK 5 [(34,.bool false)] [] ?_))
 refine NN (CF (af.exit (aj.aV (aj.aV (aj.cL (NX (af.seq ?_)))))))
 skip
 rcases hI.pR hto toName with bV|⟨ok,bV,iN⟩|⟨ok,bV,iN⟩|⟨ok,bV,iN⟩
 ·refine af.region (gK 5 (xP L to toName) [(3,v_ 3 (bQ L jJ))] ?_)
  refine jg 5 jJ bV ?_
  refine gK 1 [(15,.nilIface)] [] ?_
  refine NN (af.seq (SR (gK 3 [(50,.bool false)] [] ?_)))
  refine NN (CF (af.skip (NX (af.seq (SR (gK 2 [(52,.bool false)] [] ?_))))))
  refine NN (CF (af.skip (NX (SR ?_))))
  have bY:Inv S:=hI
  have hd1:=hd
  have fQ:=hlk
  have qI:=bV
  have kz:=hto
  have lE:(obj S.O d).kind=2:=bY.kind hd1
  have qJ:(obj S.O to).kind=2:=bY.kind kz
  have lF:Live S.idx ⟨tk,3⟩:=(bY.ent hd1 fQ).2
  have lG:(obj S.O tk).kind=3:=bY.kind lF
  have Eg:(obj S.O d).ah.length<=8192:=bY.iT hd1
  have Eh:(obj S.O to).ah.length<=8192:=bY.iT kz
  have qK:=bY.lb lF
  have lH:tk≠d:=bY.ne hd1 fQ
  refine gK 3 (Hr f L d name) [] ?_
  refine gL [0,3,5] (j3 S.X f m t bY.hX S.O L d lE name hsz ⟨tk,3⟩ lG (by simp) fQ (bY.twice hd1) (by omega) (by simp only at qK ⊢;omega)) ?_
  rintro _ _ ⟨rfl,rfl⟩
  refine NS (gK 4 (Hs f L to toName++[(68,.iface 166 (vP (L.b tk)))]) [] ?_)
  refine gL [0,1,2] (jZ { S.X with ah:=S.X.ah - 1 } f m t (bY.Az hd1 fQ) (aR S.X S.O d name ⟨tk,3⟩) L to (cP.trans qJ) toName pX (kK lH qI) (Nat.le_trans (mZ lH) (by omega)) ⟨tk,3⟩ (cP.trans lG) (by simp) (kQ bY.toInv0 hd1 fQ)) ?_
  rintro _ _ ⟨rfl,rfl⟩
  refine NS (ak.fo [(5,.abs (aG (cg (dX S.X (aR S.X S.O d name ⟨tk,3⟩) to toName ⟨tk,3⟩) L)))] (fun w hS=>by rw [show cg (dX S.X (aR S.X S.O d name ⟨tk,3⟩) to toName ⟨tk,3⟩) L=cg S.O L from jX.trans kJ];exact hS) ?_)
  refine gK 1 [(10,vI 0)] [] ?_
  refine NN (af.ret ?_)
  exact RT (vI 0) [0,3,4,1,5,2,6] (⟨L,by rw [show bL S d name to toName=(0,oh S d name to toName ⟨tk,3⟩) by unfold bL;rw [hlk];refine (if_neg (fun h=>absurd h.1 (by simp))).trans ?_;rw [bV]]<;>exact⟨rfl,rfl⟩⟩)
 ·have pY:(obj S.O ok).kind=1:=hI.kind iN
  refine af.region (gK 5 (xP L to toName) [(3,v_ 3 (bQ L jJ))] ?_)
  refine jg 5 jJ bV ?_
  refine gK 1 [(15,.iface 162 (vP (L.b ok)))] [] ?_
  refine NN (af.seq (SR (gK 3 [(50,.bool false)] [] ?_)))
  refine NN (CF (af.skip (NX (af.seq (SR (gK 2 [(52,.bool true)] [] ?_))))))
  refine NN (CT (af.seq (SR (gK 1 [(53,.iface 162 (vP (L.b ok)))] [] ?_))))
  refine gL [] (qE (vP (L.b ok))) ?_
  rintro _ _ ⟨rfl,rfl⟩
  refine gK 1 [(55,.bool false)] [] ?_
  refine NN (CF (af.skip (NX (af.seq (SR (gK 1 [(56,.bool false)] [] ?_))))))
  refine NN (CF (af.skip (NX (af.region (gK 3 (Rj f L to toName) [] ?_)))))
  refine gL [0,3,5,1] (oH S L f m t hI to hto toName pX ⟨ok,1⟩ bV) ?_
  rintro _ _ ⟨rfl,rfl⟩
  refine NS ?_
  have bY:Inv (aL S to toName ⟨ok,1⟩):=hI.zZ hto bV (by simp)
  have hot:(⟨ok,1⟩:Th)≠⟨tk,3⟩:=fun e=>by cases e
  have hd1:Live (aL S to toName ⟨ok,1⟩).idx ⟨d,2⟩:=jY hI.toInv0 hto bV hd (fun e=>by have:=iH hd iN e;cases this)
  have kz:Live (aL S to toName ⟨ok,1⟩).idx ⟨to,2⟩:=jY hI.toInv0 hto bV hto (fun e=>by have:=iH hto iN e;cases this)
  have fQ:aT name (obj (aL S to toName ⟨ok,1⟩).O d).ah=some ⟨tk,3⟩:=rG hI.toInv0 hto bV hlk hot
  have qI:aT toName (obj (aL S to toName ⟨ok,1⟩).O to).ah=none:=rH hI.toInv0 hto bV
  have lE:(obj (aL S to toName ⟨ok,1⟩).O d).kind=2:=bY.kind hd1
  have qJ:(obj (aL S to toName ⟨ok,1⟩).O to).kind=2:=bY.kind kz
  have lF:Live (aL S to toName ⟨ok,1⟩).idx ⟨tk,3⟩:=(bY.ent hd1 fQ).2
  have lG:(obj (aL S to toName ⟨ok,1⟩).O tk).kind=3:=bY.kind lF
  have Eg:(obj (aL S to toName ⟨ok,1⟩).O d).ah.length<=8192:=bY.iT hd1
  have Eh:(obj (aL S to toName ⟨ok,1⟩).O to).ah.length<=8192:=bY.iT kz
  have qK:=bY.lb lF
  have lH:tk≠d:=bY.ne hd1 fQ
  refine gK 3 (Hr f L d name) [] ?_
  refine gL [0,1,2] (j3 (aL S to toName ⟨ok,1⟩).X f m t bY.hX (aL S to toName ⟨ok,1⟩).O L d lE name hsz ⟨tk,3⟩ lG (by simp) fQ (bY.twice hd1) (by omega) (by simp only at qK ⊢;omega)) ?_
  rintro _ _ ⟨rfl,rfl⟩
  refine NS (gK 4 (Hs f L to toName++[(68,.iface 166 (vP (L.b tk)))]) [] ?_)
  refine gL [0,1,2] (jZ { (aL S to toName ⟨ok,1⟩).X with ah:=(aL S to toName ⟨ok,1⟩).X.ah - 1 } f m t (bY.Az hd1 fQ) (aR (aL S to toName ⟨ok,1⟩).X (aL S to toName ⟨ok,1⟩).O d name ⟨tk,3⟩) L to (cP.trans qJ) toName pX (kK lH qI) (Nat.le_trans (mZ lH) (by omega)) ⟨tk,3⟩ (cP.trans lG) (by simp) (kQ bY.toInv0 hd1 fQ)) ?_
  rintro _ _ ⟨rfl,rfl⟩
  refine NS (ak.fo [(5,.abs (aG (cg (dX (aL S to toName ⟨ok,1⟩).X (aR (aL S to toName ⟨ok,1⟩).X (aL S to toName ⟨ok,1⟩).O d name ⟨tk,3⟩) to toName ⟨tk,3⟩) L)))] (fun w hS=>by rw [show cg (dX (aL S to toName ⟨ok,1⟩).X (aR (aL S to toName ⟨ok,1⟩).X (aL S to toName ⟨ok,1⟩).O d name ⟨tk,3⟩) to toName ⟨tk,3⟩) L=cg S.O L from jX.trans (kJ.trans oC)];exact hS) ?_)
  refine gK 1 [(10,vI 0)] [] ?_
  refine NN (af.ret ?_)
  exact RT (vI 0) [0,3,4,1,5,2,6] (⟨L,by rw [show bL S d name to toName=(0,oh (aL S to toName ⟨ok,1⟩) d name to toName ⟨tk,3⟩) by unfold bL;rw [hlk];refine (if_neg (fun h=>absurd h.1 (by simp))).trans ?_;rw [bV];exact (if_neg (fun e=>by cases e)).trans ((if_neg (by simp)).trans (if_neg (by simp)))]<;>exact⟨rfl,rfl⟩⟩)
 ·have pY:(obj S.O ok).kind=2:=hI.kind iN
  refine af.region (gK 5 (xP L to toName) [(3,v_ 3 (bQ L jJ))] ?_)
  refine jg 5 jJ bV ?_
  refine gK 1 [(15,.iface 169 (vP (L.b ok)))] [] ?_
  refine NN (af.seq (SR (gK 3 [(50,.bool false)] [] ?_)))
  refine NN (CF (af.skip (NX (af.seq (SR (gK 2 [(52,.bool true)] [] ?_))))))
  refine NN (CT (af.seq (SR (gK 1 [(53,.iface 169 (vP (L.b ok)))] [] ?_))))
  refine gL [] (qF (vP (L.b ok))) ?_
  rintro _ _ ⟨rfl,rfl⟩
  refine gK 1 [(55,.bool true)] [] ?_
  refine NN (CT (SR (gK 1 [(10,vI 172)] [] ?_)))
  refine NN (af.ret (aj.aq (aj.aq ?_)))
  exact RT (vI 172) [0,1,2,3,4,5,6] (⟨L,by rw [show bL S d name to toName=(172,S) by unfold bL;rw [hlk];refine (if_neg (fun h=>absurd h.1 (by simp))).trans ?_;rw [bV];exact (if_neg (fun e=>by cases e)).trans (if_pos rfl)]<;>exact⟨rfl,rfl⟩⟩)
 have pY:(obj S.O ok).kind=3:=hI.kind iN
 refine af.region (gK 5 (xP L to toName) [(3,v_ 3 (bQ L jJ))] ?_)
 refine jg 5 jJ bV ?_
 refine gK 1 [(15,.iface 166 (vP (L.b ok)))] [] ?_
 refine NN (af.seq (SR (gK 2 [(48,.iface 166 (vP (L.b ok))),(49,.iface 166 (vP (L.b tk)))] [] ?_)))
 refine ak.jH (d:=(some 50)) (op:=.binOp .eql 156 (.tmp 48) (.tmp 49) 156) (v:=.bool (decide (ok=tk))) (fun _=>by kernel_rfl) (fun o junk w ho hS=>by obtain⟨F,hF⟩:=hS.get (i:=3) rfl;exact⟨w,BH TF ho (by kernel_rfl) (by kernel_rfl) (by rw [pY];decide) (by rw [hkt];decide) hF,hS⟩) ?_
 refine NN (af.aW (p:=ok=tk) (fun _=>by kernel_rfl) (fun h50=>?_) (fun h50=>?_))
 ·refine SR (gK 1 [(10,vI 0)] [] ?_)
  refine NN (af.ret (aj.aq ?_))
  exact RT (vI 0) [0,1,2,3,4,5,6] (⟨L,by rw [show bL S d name to toName=(0,S) by unfold bL;rw [hlk];refine (if_neg (fun h=>absurd h.1 (by simp))).trans ?_;rw [bV];exact if_pos (by rw [h50])]<;>exact⟨rfl,rfl⟩⟩)
 refine af.skip (NX (af.seq (SR (gK 2 [(52,.bool true)] [] ?_))))
 refine NN (CT (af.seq (SR (gK 1 [(53,.iface 166 (vP (L.b ok)))] [] ?_))))
 refine gL [] (qG (vP (L.b ok))) ?_
 rintro _ _ ⟨rfl,rfl⟩
 refine gK 1 [(55,.bool false)] [] ?_
 refine NN (CF (af.skip (NX (af.seq (SR (gK 1 [(56,.bool false)] [] ?_))))))
 refine NN (CF (af.skip (NX (af.region (gK 3 (Rj f L to toName) [] ?_)))))
 refine gL [0,3,5,1] (oH S L f m t hI to hto toName pX ⟨ok,3⟩ bV) ?_
 rintro _ _ ⟨rfl,rfl⟩
 refine NS ?_
 have bY:Inv (aL S to toName ⟨ok,3⟩):=hI.zZ hto bV (by simp)
 have hot:(⟨ok,3⟩:Th)≠⟨tk,3⟩:=fun e=>h50 (congrArg Th.k e)
 have hd1:Live (aL S to toName ⟨ok,3⟩).idx ⟨d,2⟩:=jY hI.toInv0 hto bV hd (fun e=>by have:=iH hd iN e;cases this)
 have kz:Live (aL S to toName ⟨ok,3⟩).idx ⟨to,2⟩:=jY hI.toInv0 hto bV hto (fun e=>by have:=iH hto iN e;cases this)
 have fQ:aT name (obj (aL S to toName ⟨ok,3⟩).O d).ah=some ⟨tk,3⟩:=rG hI.toInv0 hto bV hlk hot
 have qI:aT toName (obj (aL S to toName ⟨ok,3⟩).O to).ah=none:=rH hI.toInv0 hto bV
 have lE:(obj (aL S to toName ⟨ok,3⟩).O d).kind=2:=bY.kind hd1
 have qJ:(obj (aL S to toName ⟨ok,3⟩).O to).kind=2:=bY.kind kz
 have lF:Live (aL S to toName ⟨ok,3⟩).idx ⟨tk,3⟩:=(bY.ent hd1 fQ).2
 have lG:(obj (aL S to toName ⟨ok,3⟩).O tk).kind=3:=bY.kind lF
 have Eg:(obj (aL S to toName ⟨ok,3⟩).O d).ah.length<=8192:=bY.iT hd1
 have Eh:(obj (aL S to toName ⟨ok,3⟩).O to).ah.length<=8192:=bY.iT kz
 have qK:=bY.lb lF
 have lH:tk≠d:=bY.ne hd1 fQ
 refine gK 3 (Hr f L d name) [] ?_
 refine gL [0,1,2] (j3 (aL S to toName ⟨ok,3⟩).X f m t bY.hX (aL S to toName ⟨ok,3⟩).O L d lE name hsz ⟨tk,3⟩ lG (by simp) fQ (bY.twice hd1) (by omega) (by simp only at qK ⊢;omega)) ?_
 rintro _ _ ⟨rfl,rfl⟩
 refine NS (gK 4 (Hs f L to toName++[(68,.iface 166 (vP (L.b tk)))]) [] ?_)
 refine gL [0,1,2] (jZ { (aL S to toName ⟨ok,3⟩).X with ah:=(aL S to toName ⟨ok,3⟩).X.ah - 1 } f m t (bY.Az hd1 fQ) (aR (aL S to toName ⟨ok,3⟩).X (aL S to toName ⟨ok,3⟩).O d name ⟨tk,3⟩) L to (cP.trans qJ) toName pX (kK lH qI) (Nat.le_trans (mZ lH) (by omega)) ⟨tk,3⟩ (cP.trans lG) (by simp) (kQ bY.toInv0 hd1 fQ)) ?_
 rintro _ _ ⟨rfl,rfl⟩
 refine NS (ak.fo [(5,.abs (aG (cg (dX (aL S to toName ⟨ok,3⟩).X (aR (aL S to toName ⟨ok,3⟩).X (aL S to toName ⟨ok,3⟩).O d name ⟨tk,3⟩) to toName ⟨tk,3⟩) L)))] (fun w hS=>by rw [show cg (dX (aL S to toName ⟨ok,3⟩).X (aR (aL S to toName ⟨ok,3⟩).X (aL S to toName ⟨ok,3⟩).O d name ⟨tk,3⟩) to toName ⟨tk,3⟩) L=cg S.O L from jX.trans (kJ.trans oC)];exact hS) ?_)
 refine gK 1 [(10,vI 0)] [] ?_
 refine NN (af.ret ?_)
 exact RT (vI 0) [0,3,4,1,5,2,6] (⟨L,by rw [show bL S d name to toName=(0,oh (aL S to toName ⟨ok,3⟩) d name to toName ⟨tk,3⟩) by unfold bL;rw [hlk];refine (if_neg (fun h=>absurd h.1 (by simp))).trans ?_;rw [bV];exact (if_neg (fun e=>h50 (congrArg Th.k e))).trans ((if_neg (by simp)).trans (if_neg (by simp)))]<;>exact⟨rfl,rfl⟩⟩)
end
section
open Go.RowKit Go.Maps bq aF
attribute [local irreducible] ak aU af aj
abbrev Wg (S:aJ) (L:HL) (k:Nat):=(.abs (aG (kX (cg S.O L) k bW.none)):HP)
abbrev Un (A1:Option Addr) (S:aJ) (k:Nat) (bs:List UInt8) (c2:Nat):=(.abs (aH 5 1 A1 (((obj S.O k).data++bs.take (br S.X bs.length)).length) c2 (cG ((obj S.O k).data++bs.take (br S.X bs.length)))):HP)
abbrev Ny (f:Nat) (m:Nat) (t) (S:aJ) (L:HL) (k:Nat) (R:bW):=([pF f m t S.X,pI m L S.idx,pT t S.X.cH S.aD L S.us,pO S.O L,Wg S L k,pE S.O L,.abs R]:List HP)
theorem Nz {β:Bs} (S:aJ) (L:HL) (f m t:Nat) (hI:Inv S) (k:Nat) (hk:Live S.idx ⟨k,1⟩) (A:Option Addr) (c:Nat) (bs:List UInt8) (hA:bG β A bs) (hbl:bs.length<=1099511627776) (hbc:bs.length<=c) :
    Spec Tryz.prog β 199 #[vP f,vP (L.b k),.slice A (bs.length) (c)] (pA f m t L S) (fun v l=>∃ L2,v=.tuple #[vI (fe S k bs).1,vI (fe S k bs).2.1]/\l=(pA f m t L2 ((fe S k bs).2.2))):=by
 have hX:=hI.hX
 have hkk:(obj S.O k).kind=1:=hI.kind hk
 have ZF:((obj S.O k).data.length:Int)<=S.X.used:=hI.Vw hk
 have hcB:=hI.cB
 refine Spec.enter Tryz.func199 rfl Tryz.ntmps199 (Nat.le_of_ble_eq_true rfl) (fun R=>?_)
 refine SR (gK 2 [] [] ?_)
 refine NN (af.seq (SR (gK 3 [(12,.bool (decide ((((bs.length:Nat):Int):Int)=(0:Int))))] [] ?_)))
 refine NN (af.aW (p:=(((bs.length:Nat):Int):Int)=(0:Int)) (fun _=>by kernel_rfl) (fun h12=>?_) (fun h12=>?_))
 ·have he:bs=[]:=List.eq_nil_of_length_eq_zero (by omega)
  refine SR (gK 2 [(6,vI 0),(7,vI 0)] [] ?_)
  refine NN (af.ret (aj.aq ?_))
  exact RT (.tuple #[vI 0,vI 0]) [0,1,2,3,4,5,6] (⟨L,by rw [show fe S k bs=(0,0,S) from if_pos he]<;>exact⟨rfl,rfl⟩⟩)
 have hlen:0 < bs.length:=by omega
 refine af.skip (NX (af.seq (af.eM (by kernel_rfl) (by kernel_rfl) ?_)))
 refine gQ 11 [(8,vI (S.X.cB - S.X.used))] [(4,a_ 0 f),(8,a_ 0 f),(9,p_ ⟨[],none,none,none,some (vI (S.X.cB - S.X.used))⟩ [(Value.int .i64 (IntKind.wrap .i64 (S.X.cB - S.X.used)))=(.int .i64 (S.X.cB - S.X.used))] ⟨bC (by omega) (by omega) (by omega),trivial⟩)] ?_
 refine NQ (NX (af.seq (SR ?_)))
 refine gK 2 [(24,.bool (decide ((S.X.cB - S.X.used:Int)<=(0:Int))))] [] ?_
 refine NN (af.aW (p:=(S.X.cB - S.X.used:Int)<=(0:Int)) (fun _=>by kernel_rfl) (fun C6=>?_) (fun C6=>?_))
 ·refine SR (gK 2 [(6,vI 0),(7,vI 176)] [] ?_)
  refine NN (af.ret (aj.aq ?_))
  exact RT (.tuple #[vI 0,vI 176]) [0,1,2,3,4,5,6] (⟨L,by rw [show fe S k bs=(0,176,S) from (if_neg (fun e=>by rw [e] at hlen;exact absurd hlen (by simp))).trans (if_pos C6)]<;>exact⟨rfl,rfl⟩⟩)
 refine af.skip (NX (SR (gK 4 [(28,vI (min ((bs.length:Nat):Int) (S.X.cB - S.X.used)))] [(3,p_ ⟨[],none,none,none,some (vI (min ((bs.length:Nat):Int) (S.X.cB - S.X.used)))⟩ [(Value.int .i64 (if S.X.cB - S.X.used < ((bs.length:Nat):Int) then S.X.cB - S.X.used else ((bs.length:Nat):Int)))=(.int .i64 (min ((bs.length:Nat):Int) (S.X.cB - S.X.used)))] ⟨congrArg (Value.int .i64) (QS _ _),trivial⟩)] ?_)))
 refine ak.slot 28 (.int .i64 (min ((bs.length:Nat):Int) (S.X.cB - S.X.used))) (.int .i64 ↑(br S.X bs.length)) (fun _=>by kernel_rfl) (congrArg (Value.int .i64) (M7 (by omega))) ?_
 refine gK 1 [(9,vI ↑(br S.X bs.length))] [] ?_
 refine NN (af.seq ?_)
 have hwl:=M8 (X:=S.X) (n:=bs.length) (by omega)
 refine af.mem (dm:=(Ny f m t S L k R++[.abs (aH 5 1 (L.dA k) ((obj S.O k).data.length) (L.dC k) (cG (obj S.O k).data))])) (fun w hS=>hS.MG (i:=4) (k:=k) rfl hkk) ?_
 refine af.ck (S:=(Ny f m t S L k R)) [0,1,2,3,4,5,6,7,8,9,10,11] 8 [0,1,2,3,4,5,6] (by kernel_rfl) (by kernel_rfl) rfl (by kernel_rfl) ?_
 refine gR 0 [8,9,10,11] [(0,vP f),(1,vP (L.b k)),(9,vI ↑(br S.X bs.length)),(29,vP (L.b k)),(33,.slice (L.dA k) ((obj S.O k).data.length) ((L.dC k))),(36,.slice A ((br S.X bs.length)) (c))] [0,1,2,3,4,5,6,7] [(4,v_ 3 (G9 L hkk)),(7,p_ ⟨[],some (br S.X bs.length),none,none,none⟩ [(((br S.X bs.length):Nat):Int)=(((br S.X bs.length):Nat):Int),(br S.X bs.length)<=c] ⟨rfl,by omega,trivial⟩)] ?_
 refine aQ.cut (ι:=(Option Addr)×Nat) (fr':=fun ((A1,c2):(Option Addr)×Nat)=>[(0,vP f),(1,vP (L.b k)),(9,vI ↑(br S.X bs.length)),(29,vP (L.b k)),(37,.slice A1 (((obj S.O k).data++bs.take (br S.X bs.length)).length) (c2))]) (hp':=fun ((A1,c2):(Option Addr)×Nat)=>(Ny f m t S L k R++[Un A1 S k bs c2])) [0,1,2,3,4,5,6] rfl rfl ?_ rfl (fun _=>by kernel_rfl) ?_
 ·refine ak.append 7 (d:=(some 37)) (t:=86) (e:=5) (z:=.int .u8 0) (size:=1) (bytes:=1) (n:=(obj S.O k).data.length) (cap:=(L.dC k)) (A:=(L.dA k)) (xs:=(cG (obj S.O k).data)) (s:=(.tmp 33)) (x:=(.tmp 36)) (ats:=#[86,86]) (A':=A) (m:=(br S.X bs.length)) (c':=c) (news:=(cG (bs.take (br S.X bs.length)))) (fun _=>by kernel_rfl) rfl (by kernel_rfl) (fun _=>by kernel_rfl) (fun _=>by kernel_rfl) Tryz.underlying86 (by kernel_rfl) rfl (by decide) (by rw [wq,List.length_take,Nat.min_eq_left hwl.1,Nat.mul_one]) (rW (bs.take (br S.X bs.length))) ((hA.take (br S.X bs.length)).src) (by unfold maxLen;omega) (by omega) (fun A1 c2=>?_)
  refine ak.dV 7 (p:=.abs (aH 5 1 A1 (((obj S.O k).data.length)+(br S.X bs.length)) c2 ((cG (obj S.O k).data)++(cG (bs.take (br S.X bs.length)))))) (p':=.abs (aH 5 1 A1 (((obj S.O k).data++bs.take (br S.X bs.length)).length) c2 (cG ((obj S.O k).data++bs.take (br S.X bs.length))))) (by kernel_rfl) (by rw [KV,List.length_append,List.length_take,Nat.min_eq_left hwl.1]) ?_
  refine ak.slot 37 (.slice A1 (((obj S.O k).data.length)+(br S.X bs.length)) (c2)) (.slice A1 (((obj S.O k).data++bs.take (br S.X bs.length)).length) (c2)) (fun _=>by kernel_rfl) (by rw [List.length_append,List.length_take,Nat.min_eq_left hwl.1]) ?_
  refine NL ?_
  exact MD (A1,c2) [0,1,9,29,37] [0,1,2,3,4,5,6,7]
 rintro⟨A1,c2⟩
 refine aQ.cut (ι:=Unit) (fr':=fun (_:Unit)=>[(0,vP f),(1,vP (L.b k)),(9,vI ↑(br S.X bs.length)),(37,.slice A1 (((obj S.O k).data++bs.take (br S.X bs.length)).length) (c2)),(38,vP (L.b k))]) (hp':=fun (_:Unit)=>(Ny f m t S L k R++[Un A1 S k bs c2])) [0,1,2,3,4,5,6] rfl rfl ?_ rfl (fun _=>by kernel_rfl) ?_
 ·refine gK 1 [(38,vP (L.b k))] [] ?_
  refine NL ?_
  exact MD () [0,1,9,37,38] [0,1,2,3,4,5,6,7]
 rintro _
 refine aQ.cut (ι:=Unit) (fr':=fun (_:Unit)=>[(0,vP f),(1,vP (L.b k)),(9,vI ↑(br S.X bs.length)),(37,.slice A1 (((obj S.O k).data++bs.take (br S.X bs.length)).length) (c2)),(39,.pointer (some ⟨(L.b k),9,none⟩))]) (hp':=fun (_:Unit)=>(Ny f m t S L k R++[Un A1 S k bs c2])) [0,1,2,3,4,5,6] rfl rfl ?_ rfl (fun _=>by kernel_rfl) ?_
 ·refine gK 1 [(39,.pointer (some ⟨(L.b k),9,none⟩))] [] ?_
  refine NL ?_
  exact MD () [0,1,9,37,39] [0,1,2,3,4,5,6,7]
 rintro _
 refine aQ.last rfl rfl ?_
 refine ak.mem (fun w hS=>hS.Tm (i:=3) (k:=k) rfl (by rw [hkk];decide) (rB (hkk)) (congrArg rX (hkk))) ?_
 refine gC 1 [] [(0,a_ 8 (L.b k))] [(8,[(9,.slice A1 (((obj S.O k).data++bs.take (br S.X bs.length)).length) (c2))])] ?_
 obtain⟨L2,hL2⟩:∃ L2:HL,L2=L.data k A1 c2:=⟨_,rfl⟩
 refine ak.mem (dm:=[.abs (aG (bS (aN S.O k (fun o=>{ o with data:=o.data++bs.take (br S.X bs.length) })) L2)),.blk f [vI (S.X.cN),vI (S.X.cB),vI (S.X.cH),vI (S.X.cS),vI (S.X.cZ),.map (some m),vP t,vI (S.X.last),vI (S.X.ah),vI (S.X.used)] 154,.abs (aP Tryz.prog 3 m (bA (bH L S.idx)) S.idx.length),.abs (dx 212 t S.X.cH S.aD (bH L S.us)),.abs (aG (kX (cg S.O L) k bW.none)),.abs (aG (cY S.O L)),.abs R,.abs (aH 5 1 A1 (((obj S.O k).data++bs.take (br S.X bs.length)).length) c2 (cG ((obj S.O k).data++bs.take (br S.X bs.length))))]) (fun w hS=>hS.TL hL2 (f:=(fun o=>{ o with data:=o.data++bs.take (br S.X bs.length) })) (i:=3) (j:=8) (ix:=[0,1,2,4,5,6,7]) rfl rfl (by kernel_rfl) rfl (by show (obj S.O k).kind≠0;rw [hkk];decide) ((rB (L:=L2) (k:=k) (o:=(fun o=>{ o with data:=o.data++bs.take (br S.X bs.length) }) (obj S.O k)) hkk).trans (by rw [JV hL2,JW hL2]<;>rfl)) (by show rX (obj S.O k).kind=_;rw [hkk]<;>rfl)) ?_
 refine ak.mem (dm:=[pD (aN S.O k (fun o=>{ o with data:=o.data++bs.take (br S.X bs.length) })) L2,pO (aN S.O k (fun o=>{ o with data:=o.data++bs.take (br S.X bs.length) })) L2,pF f m t S.X,pI m L S.idx,pT t S.X.cH S.aD L S.us,pE S.O L,.abs R]) (fun w hS=>hS.TM hL2 (f:=(fun o=>{ o with data:=o.data++bs.take (br S.X bs.length) })) (i:=4) (j:=7) (ix:=[0,1,2,3,5,6]) rfl rfl (by kernel_rfl) rfl hkk rfl rfl) ?_
 refine ak.fo [(3,.abs (aP Tryz.prog 3 m (bA (bH L2 S.idx)) S.idx.length)),(4,.abs (dx 212 t S.X.cH S.aD (bH L2 S.us))),(5,.abs (aG (cY (aN S.O k (fun o=>{ o with data:=o.data++bs.take (br S.X bs.length) })) L2)))] (fun w hS=>by rw [GN hL2,GN hL2,show cY (aN S.O k (fun o=>{ o with data:=o.data++bs.take (br S.X bs.length) })) L2=cY S.O L from (zQ (O:=S.O) (k:=k) (f:=(fun o=>{ o with data:=o.data++bs.take (br S.X bs.length) })) rfl rfl).trans (PI hL2)];exact hS) ?_
 have Lu:(obj (aN S.O k (fun o=>{ o with data:=o.data++bs.take (br S.X bs.length) })) k).kind=1:=(oq (f:=(fun o=>{ o with data:=o.data++bs.take (br S.X bs.length) })) (fun _=>rfl)).trans hkk
 have hbk:L2.b k=L.b k:=M9 hL2
 generalize cT:(aN S.O k (fun o=>{ o with data:=o.data++bs.take (br S.X bs.length) }))=ez at Lu ⊢
 refine NL (aj.np (NX (SR ?_)))
 refine gK 1 [(40,vP (L.b k))] [] ?_
 refine ak.slot 40 (vP (L.b k)) (vP (L2.b k)) (fun _=>by kernel_rfl) (by rw [hbk]) ?_
 refine gK 8 [(45,.agg #[vI (S.X.cS),vI (S.X.cZ)]),(48,.pointer (some ⟨(L2.b k),4,none⟩))] [(4,A_ 2 f 2)] ?_
 refine Nr 1 [(5,1),(0,2)] k S.X.cS S.X.cZ Lu (fun eZ dK=>?_)
 have yZ:=ku dK Lu
 refine NS (gC 9 [] [(3,a_ 2 f),(5,p_ ⟨[],none,none,none,some (vI (S.X.used+(((br S.X bs.length):Nat):Int)))⟩ [(Value.int .i64 (IntKind.wrap .i64 (S.X.used+(((br S.X bs.length):Nat):Int))))=(.int .i64 (S.X.used+(((br S.X bs.length):Nat):Int)))] ⟨bC (by omega) (by omega) (by omega),trivial⟩),(8,a_ 2 f)] [(2,[(9,vI (S.X.used+(((br S.X bs.length):Nat):Int)))])] ?_)
 refine NS (gK 3 [(6,vI ↑(br S.X bs.length)),(7,vI 0)] [] ?_)
 refine NN (af.ret ?_)
 exact RT (l:=[pF f m t { S.X with used:=S.X.used+(((br S.X bs.length):Nat):Int) },pI m L2 S.idx,pT t S.X.cH S.aD L2 S.us,pO eZ L2,pD eZ L2,pE eZ L2]) (.tuple #[vI ↑(br S.X bs.length),vI 0]) [2,3,4,1,0,5,6] (⟨L2,by subst dK;subst cT;rw [show fe S k bs=_ from (if_neg (fun e=>by rw [e] at hlen;exact absurd hlen (by simp))).trans (if_neg C6)];exact⟨rfl,by rw [yw]⟩⟩)
end
end Go.Proofs.YtiehgnlnofhbaaaGreatDoor
section
namespace Go.Proofs
open Go.Shelf
def Tryz.lays146_ren:Go.Shelf.Ren:=⟨fun|146=>231|221=>232|268=>233|138=>234|143=>235|195=>236|197=>219|218=>237|219=>238|260=>221|217=>122|225=>137|224=>136|267=>239|266=>129|314=>240|n=>n,fun|9=>9|31=>35|3=>3|4=>4|0=>0|105=>329|21=>21|5=>5|46=>193|119=>333|139=>336|138=>335|146=>351|51=>235|n=>n,fun|1=>1|3=>5|4=>6|n=>n⟩
theorem Tryz.lays146:Go.Proofs.Lays.n146 Tryz.prog Tryz.lays146_ren:={
  mixed:=by kernel_rfl
  f138:=Tryz.func234.trans (congrArg some (by kernel_rfl))
  f143:=Tryz.func235.trans (congrArg some (by kernel_rfl))
  f146:=Tryz.func231.trans (congrArg some (by kernel_rfl))
  f195:=Tryz.func236.trans (congrArg some (by kernel_rfl))
  f197:=Tryz.func219.trans (congrArg some (by kernel_rfl))
  f217:=Tryz.func122.trans (congrArg some (by kernel_rfl))
  f218:=Tryz.func237.trans (congrArg some (by kernel_rfl))
  f219:=Tryz.func238.trans (congrArg some (by kernel_rfl))
  f221:=Tryz.func232.trans (congrArg some (by kernel_rfl))
  f224:=Tryz.func136.trans (congrArg some (by kernel_rfl))
  f225:=Tryz.func137.trans (congrArg some (by kernel_rfl))
  f260:=Tryz.func221.trans (congrArg some (by kernel_rfl))
  f266:=Tryz.func129.trans (congrArg some (by kernel_rfl))
  f267:=Tryz.func239.trans (congrArg some (by kernel_rfl))
  f268:=Tryz.func233.trans (congrArg some (by kernel_rfl))
  f314:=Tryz.func240.trans (congrArg some (by kernel_rfl))
  t0:=Tryz.underlying0
  a0:=Tryz.isAgg0
  z0:=Tryz.sizeOf0
  v0:=Tryz.zeroValue0
  t3:=Tryz.underlying3
  a3:=Tryz.isAgg3
  z3:=Tryz.sizeOf3
  v3:=Tryz.zeroValue3
  t4:=Tryz.underlying4
  a4:=Tryz.isAgg4
  z4:=Tryz.sizeOf4
  v4:=Tryz.zeroValue4
  t5:=Tryz.underlying5
  a5:=Tryz.isAgg5
  z5:=Tryz.sizeOf5
  v5:=Tryz.zeroValue5
  t9:=Tryz.underlying9
  a9:=Tryz.isAgg9
  z9:=Tryz.sizeOf9
  v9:=Tryz.zeroValue9
  t21:=Tryz.underlying21
  a21:=Tryz.isAgg21
  z21:=Tryz.sizeOf21
  v21:=Tryz.zeroValue21
  t31:=Tryz.underlying35
  a31:=Tryz.isAgg35
  z31:=Tryz.sizeOf35
  v31:=Tryz.zeroValue35
  t46:=Tryz.underlying193
  a46:=Tryz.isAgg193
  z46:=Tryz.sizeOf193
  v46:=Tryz.zeroValue193
  t51:=Tryz.underlying235
  a51:=Tryz.isAgg235
  z51:=Tryz.sizeOf235
  v51:=Tryz.zeroValue235
  t105:=Tryz.underlying329
  a105:=Tryz.isAgg329
  z105:=Tryz.sizeOf329
  v105:=Tryz.zeroValue329
  t119:=Tryz.underlying333
  a119:=Tryz.isAgg333
  z119:=Tryz.sizeOf333
  t138:=Tryz.underlying335
  a138:=Tryz.isAgg335
  z138:=Tryz.sizeOf335
  v138:=Tryz.zeroValue335
  t139:=Tryz.underlying336
  a139:=Tryz.isAgg336
  z139:=Tryz.sizeOf336
  v139:=Tryz.zeroValue336
  t146:=Tryz.underlying351
  a146:=Tryz.isAgg351
  z146:=Tryz.sizeOf351
  v146:=Tryz.zeroValue351
  g1:=by kernel_rfl
  g3:=by kernel_rfl
  g4:=by kernel_rfl }
open Go.RowKit Go.Lib in
theorem Tryz.strings_Split (s sep:ByteArray) (m:Int) (w:World) (hs:s.size < 4294967281) (hm:w.cell? ⟨1,0,none⟩=some (.int .i64 m)) (h1:1<=sep.size) :
    Calls Tryz.prog 231 #[.string s,.string sep] w fun e w'=>
      e=.returned (.slice (some ⟨w.heap.size,0,none⟩) (Lib.countB s sep+1) (Lib.countB s sep+1))/\w'=w.alloc (.cells ((Lib.splitB sep 0 (Lib.countB s sep) s).map Value.string).toArray 9):=Any.strings_Split Tryz.lays146 (by kernel_rfl) s sep m w hs hm h1
end Go.Proofs
end
namespace Go.Proofs.YtiehgnlnofhbaaaGreatDoor
section
open Go.RowKit Go.Maps bq aF
def dQ (β:Bs):Prop:=∃ m,Rd β ⟨1,0,none⟩ (.int .i64 m)
theorem dQ.le {β β':Bs} (h:dQ β) (hle:β.le β'):dQ β':=h.imp fun _ h=>h.le hle
theorem C8 (s:ByteArray):(jG s).length=Lib.countB s slash+1:=Lib.splitB_all slash (by decide) 0 _ s rfl
theorem ze (s:ByteArray):Lib.countB s slash<=s.size:=Lib.countB_le slash (by decide) _ s (Nat.le_refl _)
theorem AO (sep:ByteArray):∀ (k:Nat) (s:ByteArray),∀ p∈Lib.splitB sep 0 k s,p.size<=s.size
  | 0,s,p,hp=>by
    rw [Lib.splitB_zero] at hp
    rw [List.mem_singleton.1 hp];exact Nat.le_refl _
  | k+1,s,p,hp=>by
    rcases Lib.indexB_cases s sep with hix|⟨i,hix,_⟩
    ·rw [Lib.splitB_miss sep 0 (k+1) s hix] at hp
     rw [List.mem_singleton.1 hp];exact Nat.le_refl _
    rw [Lib.splitB_hit sep 0 k s i hix] at hp
    rcases List.mem_cons.1 hp with rfl|hp
    ·rw [ByteArray.size_extract];omega
    have:=AO sep k _ p hp
    rw [ByteArray.size_extract] at this
    omega
theorem Jp {s p:ByteArray} (hp:p∈jG s):p.size<=s.size:=AO slash _ s p hp
def gZ (ps:List ByteArray):List Value:=ps.map Value.string
theorem P8 {β:Bs} (hg:dQ β) (s:ByteArray) (hs:s.size<=1048576):Spec Tryz.prog β 231 #[.string s,.string ⟨#[47]⟩] [] (fun v l=>∃ b,v=.slice (some ⟨b,0,none⟩) (jG s).length (jG s).length/\l=[.abs (aH 9 1 (some ⟨b,0,none⟩) (jG s).length (jG s).length (gZ (jG s)))]):=
  Spec.FT fun W hW=>by
    obtain⟨m,hg⟩:=hg
    have hm:W.cell? ⟨1,0,none⟩=some (.int .i64 m):=(World.cell?_of_block (w:=β.w0) (hW.old _ hg.1).2).trans hg.2
    have hl:=C8 s
    have hc:=ze s
    refine (Tryz.strings_Split s slash m W (by omega) hm (by decide)).mono ?_
    rintro e w' ⟨rfl,rfl⟩
    refine⟨_,_,rfl,⟨W.heap.size,by rw [hl],rfl⟩,(Keeps.refl _ _).alloc _,fun k=>k=W.heap.size,⟨⟨?_,.inr ⟨W.heap.size,(jG s).length,(gZ (jG s)).toArray,rfl,Nat.zero_le _,?_,Nat.le_refl _,?_,?_,?_⟩⟩,fun k=>?_⟩,fun k hk=>Nat.le_of_eq hk.symm⟩
    ·simp [gZ]
    ·show (W.heap.push _)[W.heap.size]?=_
     simp [gZ,jG]
    ·unfold maxLen;omega
    ·first|(simp [gZ];done)|(simp [gZ];exact List.take_of_length_le (by simp))
    ·first|(simp [gZ];done)|(simp [gZ];exact List.take_of_length_le (by simp))
    simp [Value.ownBlock,eq_comm]
theorem NA {β:Bs} {ps:List ByteArray} (hg:dQ β) (s:ByteArray) (hs:s.size<=1048576) (hp:ps=jG s):Spec Tryz.prog β 231 #[.string s,.string ⟨#[47]⟩] [] (fun v l=>∃ b,v=.slice (some ⟨b,0,none⟩) ps.length ps.length/\l=[.abs (aH 9 1 (some ⟨b,0,none⟩) ps.length ps.length (gZ ps))]):=by
  subst hp;exact P8 hg s hs
def pc (ps:List ByteArray) (j:Nat):ByteArray:=ps.getD j ⟨#[]⟩
theorem NC {ps:List ByteArray} {j:Nat} (hj:j < ps.length):pc ps j∈ps:=by
  unfold pc
  rw [List.getD_eq_getElem?_getD,List.getElem?_eq_getElem hj]
  exact List.getElem_mem _
theorem wV {ps:List ByteArray} {j:Nat} (hj:j < ps.length):(gZ ps)[j]?=some (.string (pc ps j)):=by
  unfold gZ pc
  rw [List.getElem?_map,List.getD_eq_getElem?_getD,List.getElem?_eq_getElem hj]
  rfl
theorem o5 {ps:List ByteArray} {j:Nat} (hj:j < ps.length):ps.drop j=pc ps j::ps.drop (j+1):=by
  unfold pc
  rw [List.getD_eq_getElem?_getD,List.getElem?_eq_getElem hj]
  exact List.drop_eq_getElem_cons hj
theorem Ht {ps:List ByteArray}:(∀ p∈ps,bD p)↔∀ j,j < ps.length->bD (pc ps j):=by
  refine⟨fun h j hj=>h _ (NC hj),fun h p hp=>?_⟩
  obtain⟨j,hj,rfl⟩:=List.getElem_of_mem hp
  have:=h j hj
  unfold pc at this
  rw [List.getD_eq_getElem?_getD,List.getElem?_eq_getElem hj] at this
  exact this
theorem E0 {n:ByteArray} (h:bD n):n.size<=1048576:=Nat.le_trans h.2.1 (by decide)
theorem Hu {O:bU}:∀ {ps:List ByteArray} {d:Nat} {e:Int},kA O d ps=.error e->e≠0
  | [],d,e,h=>by cases h;decide
  | [p],d,e,h=>by
    unfold kA at h
    split at h
    ·cases h;decide
    cases h
  | p::q::r,d,e,h=>by
    unfold kA at h
    split at h
    ·cases h;decide
    split at h
    ·cases h;decide
    split at h
    ·cases h;decide
    exact Hu h
theorem E4 {S:aJ} {d:Nat} (hI:Inv S) (hd:Live S.idx ⟨d,2⟩) (path:ByteArray):(∃ e,jP S.O d path=.error e/\e≠0)\/∃ d' name,jP S.O d path=.ok (d',name)/\Live S.idx ⟨d',2⟩/\(obj S.O d').gone=false/\bD name:=by
  cases h:jP S.O d path with
  | error e=>
    refine .inl ⟨e,rfl,?_⟩
    unfold jP at h
    split at h
    ·exact Hu h
    cases h;decide
  | ok x=>
    obtain⟨d',name⟩:=x
    exact .inr ⟨d',name,rfl,D9 hI.toInv0 hd h⟩
section way
variable {O:bU} {d:Nat} {ps:List ByteArray} {j:Nat}
theorem E5 (hj:j+1=ps.length):kA O d (ps.drop j)=if (obj O d).gone=true then .error 170 else .ok (d,pc ps j):=by
  rw [o5 (by omega),List.drop_of_length_le (by omega)]
  rfl
theorem uO (hj:j+1 < ps.length):kA O d (ps.drop j)=match aT (pc ps j) (obj O d).ah with
    | none=>.error 170
    | some t=>if t.kind=3 then .error 174 else if t.kind=1 then .error 173 else kA O t.k (ps.drop (j+1)):=by
  rw [o5 (j:=j) (by omega),o5 (j:=j+1) hj]
  rfl
end way
section bytes
variable {P:Program} {β:Bs} {N:dG} {ops:Array Oper} {k:Nat} {fr:Fr} {hps:List HP} {Q:Post} {d:Option Tmp} {s:ByteArray}
theorem Bs.ok.Si {β:Bs} {w:World} (h:β.ok w) (F:Nat->Prop):β.le ⟨fun k=>β.O k\/F k,w⟩:=⟨fun _ h=>.inl h,h.os,h.tape,h.output,h.size,fun k hk=>h.old k hk⟩
theorem ak.Hv {t1 t2 e:TypeId} {x:Operand} (hop:∀ junk,fW N junk ops fr k=some (.convert t1 t2 x,d)) (hx:∀ junk,dL N fr junk x=.string s) (h1:P.underlying t1=some .string) (h2:P.underlying t2=some (.slice e)) (h3:P.underlying e=some (.int .u8))
    (K:∀ b cap,s.data.toList.length<=cap->ak P β N ops (k+1) (dw fr d (.slice (some ⟨b,0,none⟩) s.data.toList.length cap)) (hps++[.abs (lC β (fun β'=>bG β' (some ⟨b,0,none⟩) s.data.toList))]) Q):ak P β N ops k fr hps Q:=by
  refine ak.FU (ι:={ p:Nat×Nat // s.data.toList.length<=p.2 }) (v:=fun p=>.slice (some ⟨p.1.1,0,none⟩) s.data.toList.length p.1.2) (hp':=fun p=>hps++[.abs (lC β (fun β'=>bG β' (some ⟨p.1.1,0,none⟩) s.data.toList))]) hop (fun o junk w ho hS=>?_) (fun p=>K p.1.1 p.1.2 p.2)
  have hr:=run_bytes_of_string (P:=P) w t1 t2 e s h1 h2 h3
  have hsz:s.data.toList.length=s.size:=Array.length_toList ..
  generalize hw:(w.drew.alloc (.cells (bytesRow s (grownCap w s.size 0 e)) e ((bytesRow s (grownCap w s.size 0 e)).size,(bytesRow s (grownCap w s.size 0 e)).size+1)))=w' at hr
  have hk:Keeps (fun _=>False) w w':=by rw [← hw];exact (Keeps.refl _ _).drew.alloc _
  have hok:=hS.1.keeps hk (fun _ _ h=>h)
  have hheap:w'.heap[w.heap.size]?=some (.cells (bytesRow s (grownCap w s.size 0 e)) e ((bytesRow s (grownCap w s.size 0 e)).size,(bytesRow s (grownCap w s.size 0 e)).size+1)):=by
    rw [← hw]
    show (w.heap.push _)[w.heap.size]?=_
    simp
  have hsize:w.heap.size < w'.heap.size:=by
    have:=(Array.getElem?_eq_some_iff.1 hheap).1
    exact this
  refine⟨⟨(w.heap.size,grownCap w s.size 0 e),by rw [hsz];exact grownCap_ge w s.size 0 e⟩,w',.inl ?_,hS.new (F:=fun k=>k=w.heap.size) ?_ hk (fun k e=>Nat.le_of_eq e.symm)⟩
  ·obtain⟨dst,op,type,pos,after,guard⟩:=o
   cases ho
   have hr2:(convert t1 t2 (.string s)).run P w=.ok (.slice (some ⟨w.heap.size,0,none⟩) s.data.toList.length (grownCap w s.size 0 e)) w':=by rw [hr,hsz]
   simp only [execOp,hx]
   simp [hr2,Result.andThen]
  refine⟨⟨fun k=>β.O k\/k=w.heap.size,w'⟩,hok.Si _,fun _ h=>h,fun _ h=>.inr h,Nat.le_refl _,fun k hk=>⟨by rw [hk];exact hsize,rfl⟩,fun j v hj=>⟨rfl,.inr rfl,?_⟩⟩
  show World.cell? w' ⟨w.heap.size,0+j,none⟩=some v
  have hj2:=bw hj
  unfold World.cell?
  rw [hheap]
  unfold cG at hj hj2
  rw [List.length_map] at hj2
  rw [List.getElem?_map,List.getElem?_eq_getElem hj2] at hj
  simp only [Option.map_some,Option.some.injEq] at hj
  subst hj
  unfold bytesRow
  rw [Nat.zero_add]
  simp only [Option.isSome_none,Bool.false_eq_true,if_false]
  have hj3:j < s.data.size:=by rw [← Array.length_toList];exact hj2
  rw [Array.getElem?_append_left (by simpa using hj3)]
  simp [wm]
  exact⟨_,Array.getElem?_eq_getElem hj3,rfl⟩
end bytes
theorem C9 {β:Bs} (S:aJ) (L:HL) (f m t:Nat) (hI:Inv S) (k:Nat) (hk:Live S.idx ⟨k,1⟩) (A:Option Addr) (c:Nat) (bs:List UInt8) (hbl:bs.length<=1099511627776) (hbc:bs.length<=c) :
    Spec Tryz.prog β 199 #[vP f,vP (L.b k),.slice A bs.length c] (.abs (lC β (fun β'=>bG β' A bs))::pA f m t L S) (fun v l=>∃ L2,v=.tuple #[vI (fe S k bs).1,vI (fe S k bs).2.1]/\l=pA f m t L2 (fe S k bs).2.2):=
  Spec.Le fun _ _ hA=>Nz S L f m t hI k hk A c bs hA hbl hbc
def BO (L:HL):Except Int (Nat×ByteArray)->Value
  | .error e=>.tuple #[.pointer none,.string ⟨#[]⟩,.int .i64 e]
  | .ok (d,p)=>.tuple #[.pointer (some ⟨L.b d,0,none⟩),.string p,.int .i64 0]
end
section
open Go.RowKit Go.Maps bq aF
noncomputable section
abbrev eP (h:Int) (name:ByteArray):aB:=⟨2,h,0,name,⟨#[]⟩,none,0,[],0,0,0,0,0,0,0⟩
abbrev zf (h:Int) (name:ByteArray) (mode:Int):aB:=⟨4,h,0,name,⟨#[]⟩,none,0,[],mode,0,0,0,0,0,0⟩
abbrev dU (h:Int):aB:=⟨13,h,0,⟨#[]⟩,⟨#[]⟩,none,0,[],0,0,0,0,0,0,0⟩
structure Lx where
  S:aJ
  n:Nat
  next:Int
  made:Bool
  code:Int
section
variable (fs:List bh) (xs:List bK) (root:Int)
def dh (S:aJ) (n:Nat) (cur:Int) (part:ByteArray) (mode:Int):Lx:=
  let a:=aS fs xs root (n+1) S (eP cur part)
  if a.2.code=0 then ⟨a.1,n+1,a.2.answer,false,0⟩
  else if ¬ a.2.code=170\/mode < 0 then ⟨a.1,n+1,0,false,a.2.code⟩
  else
    let b:=aS fs xs root (n+2) a.1 (zf cur part mode)
    if ¬ b.2.code=0/\¬ b.2.code=171 then ⟨b.1,n+2,0,false,b.2.code⟩
    else
      let d:=aS fs xs root (n+3) b.1 (eP cur part)
      if d.2.code=0 then ⟨d.1,n+3,d.2.answer,decide (b.2.code=0),0⟩ else ⟨d.1,n+3,0,decide (b.2.code=0),d.2.code⟩
structure Hw where
  S:aJ
  n:Nat
  cur:Int
  own:Bool
  made:Int
  code:Int
  at_:Int
def kf (S:aJ) (n:Nat) (cur:Int) (own:Bool) (made code at_:Int):Hw:=
  if own=true then ⟨(aS fs xs root (n+1) S (dU cur)).1,n+1,0,false,made,code,at_⟩ else ⟨S,n,0,false,made,code,at_⟩
def gD (mode:Int):List ByteArray->Int->aJ->Nat->Int->Bool->Int->Hw
  | [],_,S,n,cur,own,made=>⟨S,n,cur,own,made,0,0⟩
  | p::r,i,S,n,cur,own,made=>
    let a:=dh fs xs root S n cur p mode
    let m2:=if a.made=true then made+1 else made
    if a.code=0 then if own=true then
      let b:=aS fs xs root (a.n+1) a.S (dU cur)
      if b.2.code=0 then gD mode r (i+1) b.1 (a.n+1) a.next true m2
      else kf fs xs root b.1 (a.n+1) a.next true m2 b.2.code i
    else gD mode r (i+1) a.S a.n a.next true m2
    else kf fs xs root a.S a.n cur own m2 a.code i
end
section
variable {fs:List bh} {xs:List bK} {root:Int} {S S2:aJ} {c2:aB} {n:Nat} {cur mode made i:Int} {own:Bool} {p:ByteArray} {r:List ByteArray} {h:Int} {name:ByteArray}
theorem zh:gD fs xs root mode [] i S n cur own made=⟨S,n,cur,own,made,0,0⟩:=rfl
theorem rQ (h:¬ (dh fs xs root S n cur p mode).code=0):gD fs xs root mode (p::r) i S n cur own made=kf fs xs root (dh fs xs root S n cur p mode).S (dh fs xs root S n cur p mode).n cur own (if (dh fs xs root S n cur p mode).made=true then made+1 else made) (dh fs xs root S n cur p mode).code i:=if_neg h
theorem uP (h:(dh fs xs root S n cur p mode).code=0) (ho:own=true) (h2:(aS fs xs root ((dh fs xs root S n cur p mode).n+1) (dh fs xs root S n cur p mode).S (dU cur)).2.code=0):gD fs xs root mode (p::r) i S n cur own made=gD fs xs root mode r (i+1) (aS fs xs root ((dh fs xs root S n cur p mode).n+1) (dh fs xs root S n cur p mode).S (dU cur)).1 ((dh fs xs root S n cur p mode).n+1) (dh fs xs root S n cur p mode).next true (if (dh fs xs root S n cur p mode).made=true then made+1 else made):=
  (if_pos h).trans ((if_pos ho).trans (if_pos h2))
theorem Da (h:(dh fs xs root S n cur p mode).code=0) (ho:own=true) (h2:¬ (aS fs xs root ((dh fs xs root S n cur p mode).n+1) (dh fs xs root S n cur p mode).S (dU cur)).2.code=0):gD fs xs root mode (p::r) i S n cur own made=kf fs xs root (aS fs xs root ((dh fs xs root S n cur p mode).n+1) (dh fs xs root S n cur p mode).S (dU cur)).1 ((dh fs xs root S n cur p mode).n+1) (dh fs xs root S n cur p mode).next true (if (dh fs xs root S n cur p mode).made=true then made+1 else made) (aS fs xs root ((dh fs xs root S n cur p mode).n+1) (dh fs xs root S n cur p mode).S (dU cur)).2.code i:=
  (if_pos h).trans ((if_pos ho).trans (if_neg h2))
theorem wW (h:(dh fs xs root S n cur p mode).code=0) (ho:¬ own=true):gD fs xs root mode (p::r) i S n cur own made=gD fs xs root mode r (i+1) (dh fs xs root S n cur p mode).S (dh fs xs root S n cur p mode).n (dh fs xs root S n cur p mode).next true (if (dh fs xs root S n cur p mode).made=true then made+1 else made):=
  (if_pos h).trans (if_neg ho)
theorem E6 {k:Nat} {bs:List UInt8}:(fe S k bs).2.2.us=S.us/\(fe S k bs).2.2.aD=S.aD:=by
  unfold fe;(repeat' split)<;>exact⟨rfl,rfl⟩
theorem Sj {a:bK}:(cI S root a).2.us=S.us/\(cI S root a).2.aD=S.aD:=by
  unfold cI
  split
  ·exact⟨rfl,rfl⟩
  split
  ·exact⟨rfl,rfl⟩
  split
  ·split
   ·exact⟨rfl,rfl⟩
   unfold mD
   split
   ·unfold rJ;split
    ·exact E6
    exact⟨rfl,rfl⟩
   split
   ·unfold gY;split<;>exact⟨rfl,rfl⟩
   split
   ·unfold gF;(repeat' split)<;>exact⟨rfl,rfl⟩
   split
   ·unfold fP;(repeat' split)<;>exact⟨rfl,rfl⟩
   split
   ·unfold gq;(repeat' split)<;>exact⟨rfl,rfl⟩
   split
   ·split
    ·exact⟨rfl,rfl⟩
    unfold bL;(repeat' split)<;>exact⟨rfl,rfl⟩
   unfold kR;split
   ·exact⟨rfl,rfl⟩
   split
   ·exact⟨rfl,rfl⟩
   split
   ·exact⟨rfl,rfl⟩
   exact E6
  exact⟨rfl,rfl⟩
theorem tQ:∀ {xs:List bK} {S:aJ},(fK root S xs).us=S.us/\(fK root S xs).aD=S.aD
  | [],_=>⟨rfl,rfl⟩
  | a::r,S=>by
    have h1:=Sj (S:=S) (root:=root) (a:=a)
    have h2:=tQ (xs:=r) (S:=(cI S root a).2)
    exact⟨h2.1.trans h1.1,h2.2.trans h1.2⟩
theorem vw {c:aB} (h1:c.op≠1) (h9:c.op≠9):aS fs xs root n S c=bI (fK root S (bF xs n)) c\/∃ e,(e=180\/e=176)/\aS fs xs root n S c=(if c.op=13 then (bI (fK root S (bF xs n)) c).1 else fK root S (bF xs n),cK c e):=by
  have hr:nI root c=c:=if_neg h1
  unfold aS
  rw [hr]
  unfold bE
  split
  ·exact .inr ⟨180,.inl rfl,rfl⟩
  split
  ·rename_i q;exact .inr ⟨176,.inr rfl,by rw [if_neg (by omega)]⟩
  split
  ·rename_i q;exact absurd q.2.1 h9
  exact .inl rfl
theorem ND {O:bU} {us:Used Th} {need e:Int} (h':dP O us h name need=.error e):e≠0:=by
  unfold dP at h'
  (repeat' split at h')<;>(first|cases h'|skip)<;>decide
theorem NE {O:bU} {us:Used Th} {c:aB} {e:Int} (h':fC O us c=.error e):e≠0:=by
  unfold fC at h'
  split at h'
  ·rename_i h2;cases h';exact ND h2
  split at h'
  ·cases h';decide
  cases h'
theorem Hy {S2:aJ} {c2:aB} (e:bI S (eP h name)=(S2,c2)) :
    (c2.code=0/\∃ t,c2.answer=least S.us/\S2.us=ins (least S.us) t S.us/\S2.aD=max S.aD ((S.us.length:Int)+1))\/(c2.code≠0/\c2.answer=0/\S2=S):=by
  unfold bI at e
  rw [qW (c:={ eP h name with answer:=0,code:=230 }) rfl] at e
  unfold eF at e
  split at e
  ·rename_i h1;cases e;exact .inr ⟨NE h1,rfl,rfl⟩
  split at e
  ·cases e;exact .inr ⟨by show (174:Int)≠0;decide,rfl,rfl⟩
  split at e
  ·cases e;exact .inr ⟨by show (173:Int)≠0;decide,rfl,rfl⟩
  rename_i t h1 h3 h2
  by_cases hl:(S.us.length:Int) < S.X.cH
  ·rw [jD hl] at e
   cases e
   exact .inl ⟨rfl,t,rfl,rfl,rfl⟩
  rw [jW hl] at e
  cases e
  exact .inr ⟨by show (130:Int)≠0;decide,rfl,rfl⟩
theorem AP {S2:aJ} {c2:aB} (e:aS fs xs root n S (eP h name)=(S2,c2)) :
    (c2.code=0/\∃ t,c2.answer=least S.us/\S2.us=ins (least S.us) t S.us/\S2.aD=max S.aD ((S.us.length:Int)+1))\/(c2.code≠0/\c2.answer=0/\S2.us=S.us/\S2.aD=S.aD):=by
  have hu:=tQ (root:=root) (S:=S) (xs:=bF xs n)
  rcases vw (fs:=fs) (xs:=xs) (root:=root) (n:=n) (S:=S) (c:=eP h name) (by show (2:Int)≠1;decide) (by show (2:Int)≠9;decide) with h1|⟨k,hk,h1⟩
  ·rw [h1] at e
   rcases Hy e with h|⟨h2,h3,h4⟩
   ·rw [hu.1,hu.2] at h;exact .inl h
   exact .inr ⟨h2,h3,by rw [h4];exact hu.1,by rw [h4];exact hu.2⟩
  rw [h1] at e
  cases e
  exact .inr ⟨by show k≠0;omega,rfl,hu.1,hu.2⟩
theorem Hz {V:Type}:∀ (us:List (Int×V)) (h:Int),iF h (keys us)<=h+us.length
  | [],h=>by show h<=_;simp
  | p::r,h=>by
    show (if p.1=h then iF (h+1) (keys r) else h)<=_
    have:=Hz r (h+1)
    rw [List.length_cons]
    split<;>omega
theorem HE (hI:Inv S) {S2:aJ} {c2:aB} (e:aS fs xs root n S (eP h name)=(S2,c2)):(Lit.int .i64 c2.answer).wf=true:=by
  rcases AP e with ⟨_,t,h1,_⟩|⟨_,h1,_⟩
  ·rw [h1]
   have a1:=Hz S.us 1
   have a2:=(least_le hI.usr (fun x hx=>(hI.su x hx).1)).1
   have a3:=hI.Cy
   have a4:=hI.cH
   unfold aF.least at a2 ⊢
   exact WalkArith.wf_i64 (by omega)
  rw [h1];rfl
attribute [local irreducible] aS
section ways
variable {S1 S2 S3:aJ} {c1 c2 c3:aB}
theorem wX (e1:aS fs xs root (n+1) S (eP cur p)=(S1,c1)) (h1:c1.code=0):dh fs xs root S n cur p mode=⟨S1,n+1,c1.answer,false,0⟩:=by
  unfold dh;simp only [e1,if_pos h1]
theorem rR (e1:aS fs xs root (n+1) S (eP cur p)=(S1,c1)) (h1:¬ c1.code=0) (h2:¬ c1.code=170\/mode < 0):dh fs xs root S n cur p mode=⟨S1,n+1,0,false,c1.code⟩:=by
  unfold dh;simp only [e1,if_neg h1,if_pos h2]
theorem E7 (e1:aS fs xs root (n+1) S (eP cur p)=(S1,c1)) (h1:¬ c1.code=0) (h2:¬ (¬ c1.code=170\/mode < 0)) (e2:aS fs xs root (n+2) S1 (zf cur p mode)=(S2,c2)) (h3:¬ c2.code=0/\¬ c2.code=171):dh fs xs root S n cur p mode=⟨S2,n+2,0,false,c2.code⟩:=by
  unfold dh;simp only [e1,e2,if_neg h1,if_neg h2,if_pos h3]
theorem wY (e1:aS fs xs root (n+1) S (eP cur p)=(S1,c1)) (h1:¬ c1.code=0) (h2:¬ (¬ c1.code=170\/mode < 0)) (e2:aS fs xs root (n+2) S1 (zf cur p mode)=(S2,c2)) (h3:¬ (¬ c2.code=0/\¬ c2.code=171)) (e3:aS fs xs root (n+3) S2 (eP cur p)=(S3,c3)) (h4:c3.code=0):dh fs xs root S n cur p mode=⟨S3,n+3,c3.answer,decide (c2.code=0),0⟩:=by
  unfold dh;simp only [e1,e2,e3,if_neg h1,if_neg h2,if_neg h3,if_pos h4]
theorem zi (e1:aS fs xs root (n+1) S (eP cur p)=(S1,c1)) (h1:¬ c1.code=0) (h2:¬ (¬ c1.code=170\/mode < 0)) (e2:aS fs xs root (n+2) S1 (zf cur p mode)=(S2,c2)) (h3:¬ (¬ c2.code=0/\¬ c2.code=171)) (e3:aS fs xs root (n+3) S2 (eP cur p)=(S3,c3)) (h4:¬ c3.code=0):dh fs xs root S n cur p mode=⟨S3,n+3,0,decide (c2.code=0),c3.code⟩:=by
  unfold dh;simp only [e1,e2,e3,if_neg h1,if_neg h2,if_neg h3,if_neg h4]
end ways
theorem HF:(dh fs xs root S n cur p mode).n<=n+3:=by
  unfold dh
  simp only
  repeat' split
  all_goals (simp only;omega)
theorem BP (hI:Inv S):Inv (dh fs xs root S n cur p mode).S:=by
  unfold dh
  simp only
  repeat' split
  all_goals first|exact hI.aS|exact hI.aS.aS|exact hI.aS.aS.aS
theorem Sk:(Lit.int .i64 0).wf=true:=by decide
theorem J5 (hI:Inv S):(Lit.int .i64 (dh fs xs root S n cur p mode).next).wf=true:=by
  unfold dh
  simp only
  repeat' split
  all_goals first|exact HE hI rfl|exact HE hI.aS.aS rfl|exact Sk
theorem wZ (e1:aS fs xs root (n+1) S (dU cur)=(S2,c2)) {code at_:Int}:kf fs xs root S n cur true made code at_=⟨S2,n+1,0,false,made,code,at_⟩:=by
  unfold kf;rw [if_pos rfl,e1]
theorem BQ {code at_:Int}:kf fs xs root S n cur false made code at_=⟨S,n,0,false,made,code,at_⟩:=rfl
theorem HM {d:List ByteArray}:∀ u∈gZ d,u.oneCell'=true:=by
  intro u hu
  obtain⟨b,_,rfl⟩:=List.mem_map.1 hu
  rfl
theorem E8 {d:List ByteArray}:(gZ d).length=d.length:=by simp [gZ]
def dR (β:Bs) (A:Option Addr) (ps:List ByteArray):Prop:=cM β A (gZ ps)
variable {β β':Bs} {A:Option Addr} {ps:List ByteArray} {j:Nat}
theorem dR.le (h:dR β A ps) (hle:β.le β'):dR β' A ps:=cM.le h hle
theorem dR.get (h:dR β A ps) (hj:j < ps.length):A=some ⟨ay A,ax A,none⟩/\Rd β ⟨ay A,ax A+j * 1,none⟩ (.string (pc ps j)):=by
  have:=h j _ (wV hj)
  rw [Nat.mul_one]
  exact this
theorem dR.hd (h:dR β A ps) (hj:j < ps.length):A=some ⟨ay A,ax A,none⟩:=(h.get hj).1
theorem dR.rd (h:dR β A ps) (hj:j < ps.length):Rd β ⟨ay A,ax A+j * 1,none⟩ (.string (pc ps j)):=(h.get hj).2
end
end
end
section
open Go.RowKit Go.Maps
structure Ei (ns:List aI) (i j:Nat):Prop where
  Rm:i < ns.length
  sx:j < (nd ns i).ah.length
  dir:(nd ns (tgt ns (ent ns i j).id)).kind=2
section
variable {ns:List aI}
theorem oI {i m:Nat} {p:Nat×Nat}:p∈dJ ns i m↔∃ j,j < m/\(nd ns (tgt ns (ent ns i j).id)).kind=2/\p=(tgt ns (ent ns i j).id,i):=by
  induction m with
  | zero=>simp [dJ]
  | succ m ih=>
    by_cases h:(nd ns (tgt ns (ent ns i m).id)).kind=2
    ·rw [oo h,List.mem_cons,ih]
     refine⟨fun hp=>?_,fun ⟨j,hj,h1,h2⟩=>?_⟩
     ·rcases hp with rfl|⟨j,hj,h1,h2⟩
      ·exact⟨m,Nat.lt_succ_self m,h,rfl⟩
      exact⟨j,Nat.lt_succ_of_lt hj,h1,h2⟩
     rcases Nat.lt_succ_iff_lt_or_eq.1 hj with e|e
     ·exact .inr ⟨j,e,h1,h2⟩
     subst e;exact .inl h2
    rw [rz h,ih]
    refine⟨fun ⟨j,hj,h1⟩=>⟨j,Nat.lt_succ_of_lt hj,h1⟩,fun ⟨j,hj,h1,h2⟩=>?_⟩
    rcases Nat.lt_succ_iff_lt_or_eq.1 hj with e|e
    ·exact⟨j,e,h1,h2⟩
    subst e;exact absurd h1 h
theorem oJ {m:Nat} {p:Nat×Nat}:p∈fA ns m↔∃ i j,i < m/\j < (nd ns i).ah.length/\(nd ns (tgt ns (ent ns i j).id)).kind=2/\p=(tgt ns (ent ns i j).id,i):=by
  induction m with
  | zero=>simp [fA]
  | succ m ih=>
    rw [fA,List.mem_append,oI,ih]
    refine⟨fun h=>?_,fun ⟨i,j,hi,hj,h1,h2⟩=>?_⟩
    ·rcases h with ⟨j,hj,h1,h2⟩|⟨i,j,hi,h⟩
     ·exact⟨m,j,Nat.lt_succ_self m,hj,h1,h2⟩
     exact⟨i,j,Nat.lt_succ_of_lt hi,h⟩
    rcases Nat.lt_succ_iff_lt_or_eq.1 hi with e|e
    ·exact .inr ⟨i,j,e,hj,h1,h2⟩
    subst e;exact .inl ⟨j,hj,h1,h2⟩
theorem Ei.mem {i j:Nat} (h:Ei ns i j):(tgt ns (ent ns i j).id,i)∈fA ns ns.length:=oJ.2 ⟨i,j,h.Rm,h.sx,h.dir,rfl⟩
def FO (ns:List aI) (m:Nat):Prop:=∀ i j i' j',Ei ns i j->Ei ns i' j'->i < m->i' < m->tgt ns (ent ns i j).id=tgt ns (ent ns i' j').id->i=i'/\j=j'
theorem Lz {i m:Nat} (h:∀ j j',j < m->j' < m->(nd ns (tgt ns (ent ns i j).id)).kind=2->(nd ns (tgt ns (ent ns i j').id)).kind=2->tgt ns (ent ns i j).id=tgt ns (ent ns i j').id->j=j'):((dJ ns i m).map Prod.fst).Nodup:=by
  induction m with
  | zero=>simp [dJ]
  | succ m ih=>
    have ih:=ih (fun j j' h1 h2=>h j j' (by omega) (by omega))
    by_cases hk:(nd ns (tgt ns (ent ns i m).id)).kind=2
    ·rw [oo hk,List.map_cons,List.nodup_cons]
     refine⟨fun hm=>?_,ih⟩
     obtain⟨p,hp,e⟩:=List.mem_map.1 hm
     obtain⟨j,hj,h1,rfl⟩:=oI.1 hp
     have:=h j m (by omega) (by omega) h1 hk e
     omega
    rw [rz hk];exact ih
theorem NG {i m:Nat} (h:((dJ ns i m).map Prod.fst).Nodup):∀ j j',j < m->j' < m->(nd ns (tgt ns (ent ns i j).id)).kind=2->(nd ns (tgt ns (ent ns i j').id)).kind=2->tgt ns (ent ns i j).id=tgt ns (ent ns i j').id->j=j':=by
  induction m with
  | zero=>intro j j' hj;omega
  | succ m ih=>
    intro j j' hj hj' hk hk' e
    by_cases hm:(nd ns (tgt ns (ent ns i m).id)).kind=2
    ·rw [oo hm,List.map_cons,List.nodup_cons] at h
     rcases Nat.lt_succ_iff_lt_or_eq.1 hj with e1|e1
     ·rcases Nat.lt_succ_iff_lt_or_eq.1 hj' with e2|e2
      ·exact ih h.2 j j' e1 e2 hk hk' e
      subst e2;exact absurd (List.mem_map.2 ⟨_,oI.2 ⟨j,e1,hk,rfl⟩,e⟩) h.1
     rcases Nat.lt_succ_iff_lt_or_eq.1 hj' with e2|e2
     ·subst e1;exact absurd (List.mem_map.2 ⟨_,oI.2 ⟨j',e2,hk',rfl⟩,e.symm⟩) h.1
     omega
    rw [rz hm] at h
    rcases Nat.lt_succ_iff_lt_or_eq.1 hj with e1|e1
    ·rcases Nat.lt_succ_iff_lt_or_eq.1 hj' with e2|e2
     ·exact ih h j j' e1 e2 hk hk' e
     subst e2;exact absurd hk' hm
    subst e1;exact absurd hk hm
theorem LA {m:Nat} (hm:m<=ns.length) (h:FO ns m):((fA ns m).map Prod.fst).Nodup:=by
  induction m with
  | zero=>simp [fA]
  | succ m ih=>
    have ih:=ih (by omega) (fun i j i' j' h1 h2 h3 h4=>h i j i' j' h1 h2 (by omega) (by omega))
    rw [fA,List.map_append]
    refine List.nodup_append.2 ⟨Lz fun j j' hj hj' hk hk' e=>(h m j m j' ⟨by omega,hj,hk⟩ ⟨by omega,hj',hk'⟩ (by omega) (by omega) e).2,ih,fun a ha b hb e=>?_⟩
    obtain⟨p,hp,rfl⟩:=List.mem_map.1 ha
    obtain⟨q,hq,rfl⟩:=List.mem_map.1 hb
    obtain⟨j,hj,hk,rfl⟩:=oI.1 hp
    obtain⟨i',j',hi',hj',hk',rfl⟩:=oJ.1 hq
    have:=(h m j i' j' ⟨by omega,hj,hk⟩ ⟨by omega,hj',hk'⟩ (by omega) (by omega) e).1
    omega
theorem NH {m:Nat} (h:((fA ns m).map Prod.fst).Nodup):FO ns m:=by
  induction m with
  | zero=>intro i j i' j' _ _ hi;omega
  | succ m ih=>
    rw [fA,List.map_append] at h
    obtain⟨h1,h2,h3⟩:=List.nodup_append.1 h
    intro i j i' j' g g' hi hi' e
    rcases Nat.lt_succ_iff_lt_or_eq.1 hi with e1|e1
    ·rcases Nat.lt_succ_iff_lt_or_eq.1 hi' with e2|e2
     ·exact ih h2 i j i' j' g g' e1 e2 e
     subst e2
     exact absurd e.symm (h3 _ (List.mem_map.2 ⟨_,oI.2 ⟨j',g'.sx,g'.dir,rfl⟩,rfl⟩) _ (List.mem_map.2 ⟨_,oJ.2 ⟨i,j,e1,g.sx,g.dir,rfl⟩,rfl⟩))
    rcases Nat.lt_succ_iff_lt_or_eq.1 hi' with e2|e2
    ·subst e1
     exact absurd e (h3 _ (List.mem_map.2 ⟨_,oI.2 ⟨j,g.sx,g.dir,rfl⟩,rfl⟩) _ (List.mem_map.2 ⟨_,oJ.2 ⟨i',j',e2,g'.sx,g'.dir,rfl⟩,rfl⟩))
    subst e1;subst e2
    exact⟨rfl,NG h1 j j' g.sx g'.sx g.dir g'.dir e⟩
def Ej (ns:List aI) (d:Nat->Nat):Prop:=∀ i j,Ei ns i j->d i < d (tgt ns (ent ns i j).id)
theorem bB.Sl (h1:ns.length<=4096) (h2:∀ i,i < ns.length->nW (nd ns i)) (h3:∀ i,i < ns.length->1<=(nd ns i).id/\(nd ns i).id<=1099511627776) (h4:cJ ns) (h5:eU ns ns.length<=8192)
    (h6:∀ i,i < ns.length->∀ j,j < (nd ns i).ah.length->lY ns i j) (h7:FO ns ns.length) {d:Nat->Nat} (h8:Ej ns d):bB ns:=by
  refine⟨h1,h2,h3,h4,h5,h6,LA (Nat.le_refl _) h7,?_⟩
  have hp:=wF (ns:=ns) (Nat.le_refl _) h6
  refine Mz (fun p hp'=>(hp p hp').1) ?_
  have key:∀ n i,d i<=n->i < ns.length->Ends ((fA ns ns.length).map (iW ns)) (nd ns i).id:=by
    intro n
    induction n with
    | zero=>
      intro i hd hi
      cases hu:up ((fA ns ns.length).map (iW ns)) (nd ns i).id with
      | none=>exact⟨0,hu⟩
      | some y=>
        obtain⟨_,p,g1,g2,_⟩:=zL h4 hi (fun p hp'=>(hp p hp').1) hu
        obtain⟨a,j,ha,hj,hk,rfl⟩:=oJ.1 g1
        have:=h8 a j ⟨ha,hj,hk⟩
        have g2:tgt ns (ent ns a j).id=i:=g2
        rw [g2] at this
        omega
    | succ n ih=>
      intro i hd hi
      cases hu:up ((fA ns ns.length).map (iW ns)) (nd ns i).id with
      | none=>exact⟨0,hu⟩
      | some y=>
        obtain⟨_,p,g1,g2,g3⟩:=zL h4 hi (fun p hp'=>(hp p hp').1) hu
        obtain⟨a,j,ha,hj,hk,rfl⟩:=oJ.1 g1
        have:=h8 a j ⟨ha,hj,hk⟩
        have g2:tgt ns (ent ns a j).id=i:=g2
        rw [g2] at this
        obtain⟨m,hm⟩:=ih a (by omega) ha
        exact⟨m+1,y,hu,by rw [g3];exact hm⟩
  exact fun i hi=>key (d i) i (Nat.le_refl _) hi
theorem bB.uniq (h:bB ns):FO ns ns.length:=NH h.nodup
theorem bB.deep (h:bB ns):∃ d,Ej ns d:=by
  refine⟨fun k=>Classical.choose (h.ends (nd ns k).id),fun i j g=>?_⟩
  have hp:=wF (ns:=ns) (Nat.le_refl _) h.ah
  have hat:=(h.ah i g.Rm j g.sx).at_
  have htl:=kW hat
  have e1:=Classical.choose_spec (h.ends (nd ns i).id)
  have e2:=Classical.choose_spec (h.ends (nd ns (tgt ns (ent ns i j).id)).id)
  show Classical.choose (h.ends (nd ns i).id) < Classical.choose (h.ends (nd ns (tgt ns (ent ns i j).id)).id)
  generalize Classical.choose (h.ends (nd ns i).id)=x at e1 ⊢
  generalize Classical.choose (h.ends (nd ns (tgt ns (ent ns i j).id)).id)=y at e2 ⊢
  cases hu:up ((fA ns ns.length).map (iW ns)) (nd ns (tgt ns (ent ns i j).id)).id with
  | none=>
    have:=JH hu
    exact absurd (List.mem_map.2 ⟨_,g.mem,rfl⟩) this
  | some z=>
    obtain⟨_,p,g1,g2,g3⟩:=zL h.rise htl.1 (fun p hp'=>(hp p hp').1) hu
    obtain⟨a,b,ha,hb,hk,rfl⟩:=oJ.1 g1
    have g2:tgt ns (ent ns a b).id=tgt ns (ent ns i j).id:=g2
    obtain⟨rfl,rfl⟩:=h.uniq a b i j ⟨ha,hb,hk⟩ g ha g.Rm g2
    have g3:z=(nd ns a).id:=g3
    cases y with
    | zero=>
      have e2:up _ _=none:=e2
      rw [hu] at e2;cases e2
    | succ y=>
      obtain⟨z',h1,h2⟩:=e2
      rw [hu] at h1
      cases h1
      rw [g3] at h2
      have:=e1.uniq h2
      show x < y+1
      omega
end
end
section
open Go.RowKit Go.Maps bq aF
structure jQ (X:FM):Prop where
  cN:0<=X.cN/\X.cN<=4096
  cB:0<=X.cB/\X.cB<=1099511627776
  cH:0<=X.cH/\X.cH<=1024
  now:fO X.cS X.cZ
def fR (n:aI):Nat:=n.id.toNat
def nO (n:aI):Th:=⟨fR n,n.kind⟩
def qm (n:aI):aY:=⟨n.id,n.mode,n.uid,n.gid,n.sec,n.nano,0,0,false,n.kind,n.data,n.target,[],none⟩
def FP:aY:=⟨0,0,0,0,0,0,0,0,false,0,[],⟨#[]⟩,[],none⟩
def iQ (X:FM):aJ:=⟨{ X with last:=0,ah:=0,used:=0 },fun _=>FP,[],[],0⟩
def cC (S:aJ) (n:aI):aJ:={ S with X:={ S.X with last:=n.id,used:=S.X.used+n.data.length },O:=aN S.O (fR n) (fun _=>qm n),idx:=ins n.id (nO n) S.idx }
def lI (ns:List aI) (e:gV):Th:=nO (nd ns (tgt ns e.id))
def lJ (ns:List aI) (S:aJ) (n:aI) (e:gV):aJ:={ S with X:={ S.X with ah:=S.X.ah+1 },O:=pQ S.O (fR n) e.name (lI ns e) }
def tS (ns:List aI):Nat->Nat
  | 0=>0
  | k+1=>tS ns k+(nd ns k).data.length
def zj (ns:List aI):Used Th:=ns.map (fun n=>(n.id,nO n))
structure mG (X:FM) (ns:List aI) (k:Nat) (S:aJ):Prop where
  inv:Inv0 S
  idx:S.idx=zj (ns.take k)
  us:S.us=[]
  aD:S.aD=0
  cap:S.X={ X with last:=mw ns k,ah:=0,used:=(tS ns k:Int) }
  ob:∀ a,a < k->obj S.O (fR (nd ns a))=qm (nd ns a)
  free:∀ x,(∀ a,a < k->x≠fR (nd ns a))->obj S.O x=FP
section base
variable {X:FM} {ns:List aI} {i j k a b:Nat} {S:aJ}
theorem zk (h:bB ns) (hk:k < ns.length):(fR (nd ns k):Int)=(nd ns k).id:=by
  have:=h.ids k hk
  unfold fR;omega
theorem sZ (h:bB ns) (ha:a < ns.length) (hb:b < ns.length) (e:fR (nd ns a)=fR (nd ns b)):a=b:=
  h.rise.inj ha hb (by rw [← zk h ha,← zk h hb,e])
theorem zl (hk:k < ns.length):ns[k]?=some (nd ns k):=getD_some hk
theorem Sm (hk:k < ns.length):ns.take (k+1)=ns.take k++[nd ns k]:=by
  rw [List.take_add_one,zl hk];rfl
theorem NI (hX:jQ X):mG X ns 0 (iQ X):=by
  refine⟨?_,rfl,rfl,rfl,rfl,fun a h=>absurd h (Nat.not_lt_zero a),fun _ _=>rfl⟩
  have hn:∀ t,¬ Live ([]:Used Th) t:=fun t h=>by cases h
  exact⟨hX.cN,hX.cB,hX.cH,hX.now,by show (0:Int)<=0/\(0:Int)<=_;omega,.nil,Nat.zero_le _,fun _ _ e=>(by cases e),fun t h=>absurd h (hn t),fun t h=>absurd h (hn t),fun t h=>absurd h (hn t),fun t h=>absurd h (hn t),
    fun _ _=>⟨rfl,rfl⟩,fun _ _=>rfl,⟨rfl,by show (0:Int)<=8192;omega⟩,fun t h=>absurd h (hn t),fun t h=>absurd h (hn t),fun t h=>absurd h (hn t),.nil,fun x hx=>(by cases hx),(by show ((0:Nat):Int)<=X.cH;have:=hX.cH;omega),⟨Int.le_refl _,hX.cH.1⟩,fun _ _ e=>(by cases e),fun t h=>absurd h (hn t),fun t h=>absurd h (hn t),⟨fun _=>0,fun k d e=>(by cases e)⟩,⟨rfl,by show (0:Int)<=_;omega⟩⟩
theorem J6 (h:bB ns) (hk:k < ns.length):∀ x∈keys (zj (ns.take k)),x < (nd ns k).id:=by
  intro x hx
  obtain⟨p,hp,rfl⟩:=List.mem_map.1 hx
  obtain⟨n,hn,rfl⟩:=List.mem_map.1 hp
  obtain⟨a,ha,e⟩:=List.mem_iff_getElem.1 hn
  rw [List.length_take] at ha
  rw [List.getElem_take] at e
  have e2:nd ns a=n:=by
    have:=zl (ns:=ns) (k:=a) (by omega)
    rw [List.getElem?_eq_getElem (by omega),e] at this
    exact (Option.some.inj this).symm
  rw [← e2]
  exact h.rise a k (by omega) hk
theorem E9 (hd:∀ i,i < ns.length->(nd ns i).data.length<=1048576) (hk:k<=ns.length):tS ns k<=1048576 * k:=by
  induction k with
  | zero=>exact Nat.le_refl _
  | succ k ih=>
    have h1:=ih (by omega)
    have h2:=hd k hk
    show tS ns k+(nd ns k).data.length<=_
    omega
theorem zm (h:bB ns) (hd:∀ i,i < ns.length->(nd ns i).data.length<=1048576) (hk:k < ns.length) (hB:mG X ns k S):mG X ns (k+1) (cC S (nd ns k)):=by
  have hs:=E9 hd (Nat.le_of_lt hk)
  have hn:=h.node k hk
  have hid:=zk h hk
  have P9:=h.ids k hk
  have hu:S.X.used=(tS ns k:Int):=by rw [hB.cap]
  have hl:S.X.last=mw ns k:=by rw [hB.cap]
  have hlen:=h.len
  have hdk:=hd k hk
  have Y2:S.idx.length=k:=by
    rw [hB.idx];unfold zj;rw [List.length_map,List.length_take];omega
  have h1:=hB.inv.newAt (k0:=fR (nd ns k)) (o:=qm (nd ns k)) (kT:=S.X.used+(nd ns k).data.length) (us':=S.us) (iq:=S.aD) (by rw [hid,hl];exact h.last hk) (by rw [hid];exact P9.2) ⟨rfl,by rw [hu];omega⟩ hid.symm
    (by have:=hn.kind;show (nd ns k).kind=1\/(nd ns k).kind=2\/(nd ns k).kind=3;omega) rfl rfl rfl rfl
    ⟨hn.mode,hn.uid,hn.gid,hn.time,fun e=>List.eq_nil_of_length_eq_zero (hn.data e),fun _=>rfl,hn.target⟩ (by omega)
    hB.inv.usr hB.inv.su hB.inv.Cy hB.inv.aD (fun h t e=>⟨.inl (hB.inv.us h t e).1,(hB.inv.us h t e).2⟩) (fun _ _=>rfl) (by rw [hB.us];rfl)
  rw [hid] at h1
  refine⟨h1,?_,hB.us,hB.aD,?_,fun a ha=>?_,fun x hx=>(show obj (aN S.O (fR (nd ns k)) fun _=>qm (nd ns k)) x=FP from (ct (hx k (Nat.lt_succ_self k))).trans (hB.free x fun a ha=>hx a (Nat.lt_succ_of_lt ha)))⟩
  ·show ins (nd ns k).id (nO (nd ns k)) S.idx=_
   rw [hB.idx,Pn (J6 h hk),Sm hk]
   unfold zj;rw [List.map_append];rfl
  ·show ({ S.X with last:=(nd ns k).id,used:=S.X.used+((nd ns k).data.length:Int) }:FM)=_
   rw [hu,hB.cap]
   show (⟨_,_,_,_,_,_,_,_⟩:FM)=⟨_,_,_,_,_,_,_,_⟩
   congr 1
  show obj (aN S.O (fR (nd ns k)) (fun _=>qm (nd ns k))) (fR (nd ns a))=_
  rcases Nat.lt_succ_iff_lt_or_eq.1 ha with e|e
  ·rw [ct (fun e2=>by have:=sZ h (by omega) hk e2;omega)]
   exact hB.ob a e
  subst e;exact cA
theorem mG.fresh (h:bB ns) (hk:k < ns.length) (hB:mG X ns k S):uG S.O S.idx S.us (fR (nd ns k)):=hB.inv.D6 (by rw [zk h hk,hB.cap];exact h.last hk)
theorem mG.new (h:bB ns) (hk:k < ns.length) (hB:mG X ns k S):aF.get S.idx (nd ns k).id=none:=get_none.2 (fun hm=>by
  rw [hB.idx] at hm
  exact absurd (J6 h hk _ hm) (by omega))
theorem BR (X:FM) (L:HL):(∀ k,bS (iQ X).O L k=bW.none)/\(∀ k,cg (iQ X).O L k=bW.none)/\∀ k,cY (iQ X).O L k=bW.none:=⟨fun _=>if_pos rfl,fun _=>if_neg (by show ¬ (0:Int)=1;omega),fun _=>if_neg (by show ¬ (0:Int)=2;omega)⟩
theorem Sat.VK {β:Bs} {l l':List HP} {w:World} {i j b m c:Nat} {ix:List Nat} {O:bU} {L L':HL} {A:Option Addr} {o:aY} (h:Sat β l w) (hL:L'=L.put k b m A c) (hp:l[i]?=some (.abs (aG (cg O L)))) (hq:l[j]?=some (.abs (aH 5 1 A o.data.length c (cG o.data)))) (hd:nodupB (i::j::ix)=true) (hl:bN l ix=some l') (h1:o.kind=1):Sat β (.abs (aG (cg (aN O k (fun _=>o)) L'))::l') w:=by
  refine h.sH hp hq (fun _ _ h=>h) hd hl k (fun x hx=>by rw [Cr hx,D7 hL hx]) ?_
  rw [tE (by rw [cA];exact h1),cA]
  subst hL
  simp only [HL.put,if_true]
end base
theorem Sn {O:bU} {L:HL} {d:Nat} {name:ByteArray} {t:Th}:cg (pQ O d name t) L=cg O L:=
  tJ (fun _=>Bz (g:=aY.data) (fun _ _=>rfl) (fun _ _=>rfl) (fun _ _=>rfl)) (fun _=>yC)
def nj (ns:List aI) (i j a:Nat):Nat:=if a < i then (nd ns a).ah.length else if a=i then j else 0
def pZ (ns:List aI) (a m:Nat):fY Th:=((nd ns a).ah.take m).map (fun e=>(e.name,lI ns e))
structure fS (X:FM) (ns:List aI) (i j:Nat) (S:aJ):Prop where
  inv:Inv0 S
  idx:S.idx=zj ns
  us:S.us=[]
  aD:S.aD=0
  cap:S.X={ X with last:=mw ns ns.length,ah:=((eU ns i+j:Nat):Int),used:=(tS ns ns.length:Int) }
  ob:∀ a,a < ns.length->∃ l u,obj S.O (fR (nd ns a))={ qm (nd ns a) with links:=l,ah:=pZ ns a (nj ns i j a),up:=u }
  free:∀ x,(∀ a,a < ns.length->x≠fR (nd ns a))->obj S.O x=FP
section ah
variable {X:FM} {ns:List aI} {i j k a b m:Nat} {S:aJ} {t:Th}
theorem mG.ah (h:mG X ns ns.length S):fS X ns 0 0 S:=by
  refine⟨h.inv,by rw [h.idx,List.take_of_length_le (Nat.le_refl _)],h.us,h.aD,h.cap,fun a ha=>⟨0,none,?_⟩,h.free⟩
  rw [h.ob a ha]
  have:nj ns 0 0 a=0:=by
    unfold nj;rw [if_neg (Nat.not_lt_zero a)];split<;>rfl
  rw [this];rfl
theorem fS.get (h:fS X ns i j S) (ha:a < ns.length):aF.get S.idx (nd ns a).id=some (nO (nd ns a)):=by
  refine oY h.inv.rise ?_
  rw [h.idx]
  exact List.mem_map.2 ⟨nd ns a,List.mem_of_getElem? (zl ha),rfl⟩
theorem fS.live (hG:bB ns) (h:fS X ns i j S) (ha:a < ns.length):Live S.idx (nO (nd ns a)):=by
  have:=h.get ha
  rw [← zk hG ha] at this
  exact this
theorem fS.of (h:fS X ns i j S) {x:Int} (e:aF.get S.idx x=some t):∃ a,a < ns.length/\t=nO (nd ns a):=by
  have hm:=get_mem e
  rw [h.idx] at hm
  obtain⟨n,hn,e2⟩:=List.mem_map.1 hm
  obtain⟨a,ha,e3⟩:=List.mem_iff_getElem.1 hn
  have e4:nd ns a=n:=by
    have:=zl ha
    rw [List.getElem?_eq_getElem ha,e3] at this
    exact (Option.some.inj this).symm
  cases e2
  exact⟨a,ha,by rw [e4]⟩
theorem HT {es:List gV} {q:Nat} (hq:q < es.length):es[q]?=some (en es q):=getD_some hq
theorem w9 {e:ByteArray×Th} (h:e∈pZ ns a m):∃ q,q < m/\q < (nd ns a).ah.length/\e.1=(ent ns a q).name/\e.2=lI ns (ent ns a q):=by
  obtain⟨x,hx,rfl⟩:=List.mem_map.1 h
  obtain⟨q,hq,e⟩:=List.mem_iff_getElem.1 hx
  rw [List.length_take] at hq
  rw [List.getElem_take] at e
  have e2:ent ns a q=x:=by
    have:=HT (es:=(nd ns a).ah) (q:=q) (by omega)
    rw [List.getElem?_eq_getElem (by omega),e] at this
    exact (Option.some.inj this).symm
  exact⟨q,by omega,by omega,by rw [e2],by rw [e2]⟩
theorem NJ (hj:j < (nd ns i).ah.length):pZ ns i (j+1)=pZ ns i j++[((ent ns i j).name,lI ns (ent ns i j))]:=by
  unfold pZ
  rw [List.take_add_one,HT hj,List.map_append];rfl
theorem Ek (hG:bB ns) (hi:i < ns.length) {q:Nat}:∀ {j},q < j->j < (nd ns i).ah.length->fk (ent ns i q).name (ent ns i j).name < 0
  | 0,h,_=>absurd h (Nat.not_lt_zero q)
  | j+1,h,hj=>by
    have h1:=tK.1 (hG.ah i hi (j+1) hj).ord
    have h1:fk (ent ns i j).name (ent ns i (j+1)).name < 0:=h1
    rcases Nat.lt_succ_iff_lt_or_eq.1 h with e|e
    ·exact pz (Ek hG hi e (by omega)) (Int.le_of_lt h1)
    rw [e];exact h1
theorem Qa (hG:bB ns) (hi:i < ns.length) (hj:j < (nd ns i).ah.length):aT (ent ns i j).name (pZ ns i j)=none:=by
  refine sG.2 (fun e he e1=>?_)
  obtain⟨q,h1,h2,h3,_⟩:=w9 he
  have:=Ek hG hi h1 hj
  rw [← h3,e1] at this
  have h4:=oR (ent ns i j).name
  omega
theorem Fa {n:ByteArray}:∀ {es:fY Th},(∀ e∈es,fk e.1 n < 0)->iA n t es=es++[(n,t)]
  | [],_=>rfl
  | e::r,h=>by
    have h1:=h e (List.mem_cons_self ..)
    unfold iA
    rw [if_neg (fun hc=>by have:=tK.1 hc;have:=uq e.1 n;omega),Fa (fun x hx=>h x (List.mem_cons_of_mem _ hx))];rfl
theorem Qb (hG:bB ns) (hi:i < ns.length) (hj:j < (nd ns i).ah.length):iA (ent ns i j).name (lI ns (ent ns i j)) (pZ ns i j)=pZ ns i (j+1):=by
  rw [NJ hj]
  refine Fa (fun e he=>?_)
  obtain⟨q,h1,_,h3,_⟩:=w9 he
  rw [h3]
  exact Ek hG hi h1 hj
theorem tT (hG:bB ns) (hi:i < ns.length) (hj:j < (nd ns i).ah.length):tgt ns (ent ns i j).id < ns.length/\(nd ns (tgt ns (ent ns i j).id)).id=(ent ns i j).id:=by
  have:=kW (hG.ah i hi j hj).at_
  exact⟨this.1,this.2.1⟩
theorem El {O:bU} {d x:Nat} {name:ByteArray} (h:t.k≠d):obj (pQ O d name t) x=if x=d then { obj O d with ah:=iA name t (obj O d).ah } else if x=t.k then { obj O x with links:=(obj O x).links+1,up:=if t.kind=2 then some d else (obj O x).up } else obj O x:=by
  have key:∀ O2:bU,O2=aN (aN O d (fun o=>{ o with ah:=iA name t o.ah })) t.k (fun o=>{ o with links:=o.links+1 })->obj (if t.kind=2 then aN O2 t.k (fun o=>{ o with up:=some d }) else O2) x=if x=d then { obj O d with ah:=iA name t (obj O d).ah } else if x=t.k then { obj O x with links:=(obj O x).links+1,up:=if t.kind=2 then some d else (obj O x).up } else obj O x:=by
    intro O2 e
    by_cases hk:t.kind=2
    ·rw [if_pos hk,if_pos hk,kP,e,kP,kP]
     by_cases e1:x=d
     ·subst e1;rw [if_neg (fun e=>h e.symm),if_neg (fun e=>h e.symm),if_pos rfl,if_pos rfl]
     by_cases e2:x=t.k
     ·rw [if_pos e2,if_pos e2,if_neg e1,if_neg e1,if_pos e2]
     rw [if_neg e2,if_neg e2,if_neg e1,if_neg e1,if_neg e2]
    rw [if_neg hk,if_neg hk,e,kP,kP]
    by_cases e1:x=d
    ·subst e1;rw [if_neg (fun e=>h e.symm),if_pos rfl,if_pos rfl]
    by_cases e2:x=t.k
    ·rw [if_pos e2,if_neg e1,if_neg e1,if_pos e2]
    rw [if_neg e2,if_neg e1,if_neg e1,if_neg e2]
  exact key _ rfl
theorem fS.Xt (hG:bB ns) (h:fS X ns i j S) {d:Nat} (hd:Live S.idx ⟨d,2⟩) {n:ByteArray} (ha:a < ns.length) (hk:(nd ns a).kind=2) (hl:aT n (obj S.O d).ah=some (nO (nd ns a))):∃ b q,b < ns.length/\d=fR (nd ns b)/\Ei ns b q/\tgt ns (ent ns b q).id=a:=by
  obtain⟨b,hb,e⟩:=h.of hd
  have e:(⟨d,2⟩:Th)=⟨fR (nd ns b),(nd ns b).kind⟩:=e
  have e1:d=fR (nd ns b):=congrArg Th.k e
  subst e1
  obtain⟨l,u,ho⟩:=h.ob b hb
  have hm:=lN hl
  rw [ho] at hm
  obtain⟨q,h1,h2,_,h4⟩:=w9 hm
  have ht:=tT hG hb h2
  have h5:fR (nd ns a)=fR (nd ns (tgt ns (ent ns b q).id)):=congrArg Th.k h4
  have h6:=sZ hG ha ht.1 h5
  exact⟨b,q,hb,rfl,⟨hb,h2,by rw [← h6];exact hk⟩,h6.symm⟩
theorem fS.below (hG:bB ns) (h:fS X ns i j S) {dp:Nat->Nat} (hdp:Ej ns dp) {s k:Nat} (hb:jM S.O s k):∀ {a b},a < ns.length->k=fR (nd ns a)->b < ns.length->s=fR (nd ns b)->dp b<=dp a:=by
  induction hb with
  | here=>
    intro a b ha e1 hb e2
    have:=sZ hG ha hb (by rw [← e1,← e2])
    rw [this];exact Nat.le_refl _
  | up hup _ ih=>
    intro a b ha e1 hb e2
    subst e1
    have hlv:=h.live hG ha
    obtain⟨h1,h2,n,h3⟩:=(h.inv.up _ hlv _).1 hup
    obtain⟨c,q,hc,e3,hD,e4⟩:=h.Xt hG h2 ha h1 h3
    have h5:=hdp c q hD
    rw [e4] at h5
    have:=ih hc e3 hb e2
    omega
theorem fS.links (hG:bB ns) (h:fS X ns i j S) (hi:i < ns.length) (hj:j < (nd ns i).ah.length) (hk:(lI ns (ent ns i j)).kind=2):(obj S.O (lI ns (ent ns i j)).k).links=0:=by
  have ht:=tT hG hi hj
  have hlv:Live S.idx (lI ns (ent ns i j)):=h.live hG ht.1
  rw [h.inv.links _ hlv]
  cases hz:jl S.idx S.O (lI ns (ent ns i j)).k with
  | zero=>rfl
  | succ z=>
    exfalso
    obtain⟨x,u,hu,e,he,e1⟩:=Cz h.inv.rise (show 0 < jl S.idx S.O (lI ns (ent ns i j)).k by omega)
    obtain⟨b,hb,rfl⟩:=h.of hu
    obtain⟨l,u,ho⟩:=h.ob b hb
    have he:e∈(obj S.O (fR (nd ns b))).ah:=he
    rw [ho] at he
    obtain⟨q,h1,h2,_,h4⟩:=w9 he
    have ht2:=tT hG hb h2
    have h5:fR (nd ns (tgt ns (ent ns b q).id))=fR (nd ns (tgt ns (ent ns i j).id)):=by
      rw [h4] at e1;exact e1
    have h6:=sZ hG ht2.1 ht.1 h5
    obtain⟨rfl,rfl⟩:=hG.uniq b q i j ⟨hb,h2,by rw [h6];exact hk⟩ ⟨hi,hj,hk⟩ hb hi h6
    unfold nj at h1
    rw [if_neg (Nat.lt_irrefl _),if_pos rfl] at h1
    omega
theorem fS.look (hG:bB ns) (h:fS X ns i j S) (hi:i < ns.length) (hj:j < (nd ns i).ah.length):(obj S.O (fR (nd ns i))).ah=pZ ns i j/\aT (ent ns i j).name (obj S.O (fR (nd ns i))).ah=none/\(nd ns i).kind=2:=by
  obtain⟨l,u,ho⟩:=h.ob i hi
  have e1:(obj S.O (fR (nd ns i))).ah=pZ ns i j:=by
    rw [ho]
    show pZ ns i (nj ns i j i)=_
    unfold nj;rw [if_neg (Nat.lt_irrefl _),if_pos rfl]
  refine⟨e1,by rw [e1];exact Qa hG hi hj,?_⟩
  cases Decidable.em ((nd ns i).kind=2) with
  | inl h=>exact h
  | inr h=>have:=(hG.node i hi).ah h;omega
theorem fS.gone (h:fS X ns i j S) (ha:a < ns.length):(obj S.O (fR (nd ns a))).gone=false:=by
  obtain⟨l,u,ho⟩:=h.ob a ha
  rw [ho];rfl
theorem fS.ne (hG:bB ns) (hi:i < ns.length) (hj:j < (nd ns i).ah.length) (hk:(nd ns i).kind=2):(lI ns (ent ns i j)).k≠fR (nd ns i):=fun e=>by
  have ht:=tT hG hi hj
  have h1:=sZ hG ht.1 hi e
  obtain⟨dp,hdp⟩:=hG.deep
  have:=hdp i j ⟨hi,hj,by rw [h1];exact hk⟩
  rw [h1] at this
  exact Nat.lt_irrefl _ this
theorem fS.step (hG:bB ns) (h:fS X ns i j S) (hi:i < ns.length) (hj:j < (nd ns i).ah.length):fS X ns i (j+1) (lJ ns S (nd ns i) (ent ns i j)):=by
  obtain⟨l1,l2,l3⟩:=h.look hG hi hj
  have ht:=tT hG hi hj
  have hne:=fS.ne hG hi hj l3
  have hld:Live S.idx ⟨fR (nd ns i),2⟩:=by
    have:=h.live hG hi
    unfold nO at this
    rw [l3] at this
    exact this
  have hlt:Live S.idx (lI ns (ent ns i j)):=h.live hG ht.1
  have hX:S.X.ah=((eU ns i+j:Nat):Int):=by rw [h.cap]
  have hsum:eU ns i+j < 8192:=by
    have h1:eU ns (i+1)<=eU ns ns.length:=vn hi
    have h2:eU ns (i+1)=eU ns i+(nd ns i).ah.length:=rfl
    have h3:=hG.sum
    omega
  have h1:=h.inv.put (O':=pQ S.O (fR (nd ns i)) (ent ns i j).name (lI ns (ent ns i j))) (ta:=(obj S.O (fR (nd ns i))).sec) (tb:=(obj S.O (fR (nd ns i))).nano) hld (h.gone hi) l2 (hG.ah i hi j hj).good hlt (h.gone ht.1) (fun hk=>⟨h.links hG hi hj hk,fun hb=>by
      obtain⟨dp,hdp⟩:=hG.deep
      have h2:=h.below hG hdp hb hi rfl ht.1 rfl
      have h3:=hdp i j ⟨hi,hj,hk⟩
      omega⟩) hne (by rw [hX];omega) (h.inv.mt _ hld).time (fun x=>El hne)
  refine⟨h1,h.idx,h.us,h.aD,?_,fun a ha=>?_,fun x hx=>(El hne).trans (by rw [if_neg (hx i hi),if_neg (show ¬ x=(lI ns (ent ns i j)).k from hx _ ht.1)];exact h.free x hx)⟩
  ·show ({ S.X with ah:=S.X.ah+1 }:FM)=_
   rw [hX,h.cap]
   show (⟨_,_,_,_,_,_,_,_⟩:FM)=⟨_,_,_,_,_,_,_,_⟩
   congr 1
  obtain⟨l,u,ho⟩:=h.ob a ha
  show ∃ l u,obj (pQ S.O (fR (nd ns i)) (ent ns i j).name (lI ns (ent ns i j))) (fR (nd ns a))=_
  rw [El hne]
  by_cases e:a=i
  ·subst e
   refine⟨l,u,?_⟩
   rw [if_pos rfl,l1,Qb hG hi hj,ho]
   have hc:nj ns a (j+1) a=j+1:=by unfold nj;rw [if_neg (Nat.lt_irrefl _),if_pos rfl]
   rw [hc]
  have hc:nj ns i (j+1) a=nj ns i j a:=by
    unfold nj;rw [if_neg e,if_neg e]
  rw [if_neg (fun e2=>e (sZ hG ha hi e2)),hc]
  split
  ·rw [ho];exact⟨_,_,rfl⟩
  exact⟨l,u,ho⟩
theorem fS.next (h:fS X ns i (nd ns i).ah.length S):fS X ns (i+1) 0 S:=by
  refine⟨h.inv,h.idx,h.us,h.aD,h.cap,fun a ha=>?_,h.free⟩
  obtain⟨l,u,ho⟩:=h.ob a ha
  refine⟨l,u,?_⟩
  rw [ho]
  have:nj ns (i+1) 0 a=nj ns i (nd ns i).ah.length a:=by
    unfold nj
    by_cases e:a=i
    ·subst e;rw [if_pos (by omega),if_neg (by omega),if_pos rfl]
    by_cases e2:a < i
    ·rw [if_pos (by omega),if_pos e2]
    rw [if_neg (by omega),if_neg e2,if_neg e];split<;>rfl
  rw [this]
theorem fS.full (h:fS X ns i j S):Inv S:=by
  refine⟨h.inv,fun t ht hg=>?_⟩
  obtain⟨a,ha,rfl⟩:=h.of ht
  have:(obj S.O (fR (nd ns a))).gone=true:=hg
  rw [h.gone ha] at this
  cases this
theorem fS.graph (hG:bB ns) (h:fS X ns ns.length 0 S):av S=ns:=by
  unfold av
  rw [h.idx]
  unfold zj
  rw [List.map_map]
  refine List.ext_getElem? (fun a=>?_)
  rw [List.getElem?_map]
  by_cases ha:a < ns.length
  ·rw [zl ha]
   refine congrArg some ?_
   show pU S.O (nd ns a).id ⟨fR (nd ns a),(nd ns a).kind⟩=nd ns a
   unfold pU
   obtain⟨l,u,ho⟩:=h.ob a ha
   rw [ho]
   have he:(pZ ns a (nj ns ns.length 0 a)).map (jI S.O)=(nd ns a).ah:=by
     unfold nj
     rw [if_pos ha]
     unfold pZ
     rw [List.take_of_length_le (Nat.le_refl _),List.map_map]
     refine List.ext_getElem? (fun q=>?_)
     rw [List.getElem?_map]
     by_cases hq:q < (nd ns a).ah.length
     ·rw [HT hq]
      refine congrArg some ?_
      have ht:=tT hG ha hq
      obtain⟨l,u,ho⟩:=h.ob _ ht.1
      have e1:(obj S.O (lI ns (en (nd ns a).ah q)).k).id=(en (nd ns a).ah q).id:=by
        show (obj S.O (fR (nd ns (tgt ns (ent ns a q).id)))).id=(ent ns a q).id
        rw [ho];exact ht.2
      show (⟨(en (nd ns a).ah q).name,(obj S.O (lI ns (en (nd ns a).ah q)).k).id⟩:gV)=_
      rw [e1]
     rw [List.getElem?_eq_none (by omega)];rfl
   show (⟨_,_,_,_,_,_,_,_,_,List.map (jI S.O) (pZ ns a (nj ns ns.length 0 a))⟩:aI)=_
   rw [he]
   rfl
  rw [List.getElem?_eq_none (by omega)];rfl
end ah
end
section
open Go.RowKit Go.Maps bq aF
noncomputable def cU (X:FM) (ns:List aI) (root:Int):Int:=
  open Classical in
  if jQ X then if bB ns then
    match ns.find? (fun n=>decide (n.id=root)) with
    | none=>141
    | some n=>if n.kind=2 then 0 else 173
  else 140 else 179
def tU (ns:List aI) (root:Int) (i:Nat):Prop:=i < ns.length/\(nd ns i).id=root/\∀ q,q < i->(nd ns q).id≠root
section n
variable {X:FM} {ns:List aI} {root:Int} {i:Nat}
theorem Qc (ns:List aI) (root:Int):(∃ i,tU ns root i)\/∀ q,q < ns.length->(nd ns q).id≠root:=by
  have key:∀ n,n<=ns.length->(∃ i,tU ns root i)\/∀ q,q < n->(nd ns q).id≠root:=fun n=>by
    induction n with
    | zero=>exact fun _=>.inr fun q h=>absurd h (Nat.not_lt_zero q)
    | succ n ih=>
      intro h
      rcases ih (by omega) with h1|h1
      ·exact .inl h1
      by_cases e:(nd ns n).id=root
      ·exact .inl ⟨n,by omega,e,h1⟩
      exact .inr fun q hq=>(Nat.lt_succ_iff_lt_or_eq.1 hq).elim (h1 q) (fun e2=>e2 ▸ e)
  exact key _ (Nat.le_refl _)
theorem Db (h:tU ns root i):ns.find? (fun n=>decide (n.id=root))=some (nd ns i):=by
  obtain⟨h1,h2,h3⟩:=h
  rw [List.find?_eq_some_iff_getElem]
  have e:=getD_some (x:=default) h1
  have e2:ns[i]=nd ns i:=by rw [List.getElem?_eq_getElem h1] at e;exact Option.some.inj e
  refine⟨by simpa using h2,i,h1,e2,fun j hj=>?_⟩
  have e3:ns[j]=nd ns j:=by
    have:=getD_some (x:=default) (show j < ns.length by omega)
    rw [List.getElem?_eq_getElem (by omega)] at this;exact Option.some.inj this
  rw [e3]
  simpa using h3 j hj
theorem NK (h:∀ q,q < ns.length->(nd ns q).id≠root):ns.find? (fun n=>decide (n.id=root))=none:=by
  rw [List.find?_eq_none]
  intro n hn
  obtain⟨q,hq,e⟩:=List.mem_iff_getElem.1 hn
  have e3:ns[q]=nd ns q:=by
    have:=getD_some (x:=default) hq
    rw [List.getElem?_eq_getElem hq] at this;exact Option.some.inj this
  rw [← e,e3]
  simpa using h q hq
theorem Dc (h:¬ jQ X):cU X ns root=179:=if_neg h
theorem zn (h:jQ X) (h2:¬ bB ns):cU X ns root=140:=(if_pos h).trans (if_neg h2)
theorem AQ (h:jQ X) (h2:bB ns) (h3:∀ q,q < ns.length->(nd ns q).id≠root):cU X ns root=141:=(if_pos h).trans ((if_pos h2).trans (by rw [NK h3]))
theorem Dd (h:jQ X) (h2:bB ns) (h3:tU ns root i) (h4:(nd ns i).kind=2):cU X ns root=0:=(if_pos h).trans ((if_pos h2).trans (by rw [Db h3];exact if_pos h4))
theorem Df (h:jQ X) (h2:bB ns) (h3:tU ns root i) (h4:¬ (nd ns i).kind=2):cU X ns root=173:=(if_pos h).trans ((if_pos h2).trans (by rw [Db h3];exact if_neg h4))
theorem zo (h:cU X ns root=0):jQ X/\bB ns:=by
  by_cases h1:jQ X
  ·by_cases h2:bB ns
   ·exact⟨h1,h2⟩
   rw [zn h1 h2] at h;exact absurd h (by decide)
  rw [Dc h1] at h;exact absurd h (by decide)
end n
end
section
open Go.RowKit Go.Maps bq aF
attribute [local irreducible] ak aU af aj
noncomputable abbrev tV (b:Nat) (root):=(.blk b [vI (root)] 3:HP)
theorem Qd {β:Bs} (b:Nat) (root z:Int) (v1 v2 v3 v4 v5 v6 v7 v8 v9:Value) :
    Spec Tryz.prog β 50 #[.agg #[vI (z),v1,v2,v3,v4,v5,v6,v7,v8,v9],vP b] [tV b root] (fun v l=>v=.bool (decide (z=root))/\l=[tV b root]):=by
 refine Spec.enter Tryz.func50 rfl Tryz.ntmps50 (Nat.le_of_ble_eq_true rfl) (fun R=>?_)
 refine SR (gN 2 (fun b1=>[(2,vP b1)]) (fun _=>[]) (fun _=>[]) (fun b1=>.blk b1 [vI (z),v1,v2,v3,v4,v5,v6,v7,v8,v9] 108) (fun b1=>?_))
 refine NS (gK 5 [(3,.bool (decide ((z:Int)=(root:Int))))] [(1,a_ 2 b1),(2,a_ 0 b)] ?_)
 refine NN (af.ret ?_)
 exact RT (.bool (decide ((z:Int)=(root:Int)))) [0,1] (⟨rfl,rfl⟩)
theorem HV {β:Bs} (A:Option Addr) (c:Nat) (ns:List aI) (Y:Lay) (hG:aE β A ns Y) (hl:ns.length<=1048576) (b:Nat) (root:Int) :
    Spec Tryz.prog β 49 #[.slice A (ns.length) (c),.func (.func 50) #[] #[vP b]] [tV b root] (fun v l=>(∃ i:Nat,tU ns root i/\v=vI (i:Int)/\l=[tV b root])\/((∀ q,q < ns.length->(nd ns q).id≠root)/\v=vI (-1)/\l=[tV b root])):=by
 refine Spec.enter Tryz.func49 rfl Tryz.ntmps49 (Nat.le_of_ble_eq_true rfl) (fun R=>?_)
 refine SR (gK 1 [] [] ?_)
 refine NN (af.seq (SR (gK 3 [(7,vI ↑ns.length),(8,vI 0)] [] ?_)))
 refine NN (af.block ?_)
 refine af.loop (ι:=Nat) (fun (i:Nat)=>(i<=ns.length)/\(∀ q,q < i->(nd ns q).id≠root)) (fun (i:Nat)=>ns.length - i) (fun (i:Nat)=>[(0,.slice A (ns.length) (c)),(1,.func (.func 50) #[] #[vP b]),(7,vI ↑ns.length),(8,vI ↑i)]) (fun (i:Nat)=>[tV b root,.abs R]) 0 (idx:=[0,1,7,8]) (pk:=[0,1]) (show (0<=ns.length)/\(∀ q,q < 0->(nd ns q).id≠root) from ⟨Nat.zero_le _,fun q h=>absurd h (Nat.not_lt_zero q)⟩) (fun _=>by kernel_rfl) rfl (by kernel_rfl) ?_
 rintro i ⟨hi,hlt⟩
 show af _ _ _ _ [(0,.slice A (ns.length) (c)),(1,.func (.func 50) #[] #[vP b]),(7,vI ↑ns.length),(8,vI ↑i)] [tV b root,.abs R] _
 refine SR (gK 1 [(9,.bool (decide ((((i:Nat):Int):Int) < (((ns.length:Nat):Int):Int))))] [] ?_)
 refine NN (af.seq (af.aW (p:=(((i:Nat):Int):Int) < (((ns.length:Nat):Int):Int)) (fun _=>by kernel_rfl) (fun h9=>?_) (fun h9=>?_)))
 ·refine af.skip (NX (af.seq (af.block (SR ?_))))
  refine gK 2 [(5,vI ↑i)] [] ?_
  refine NS (gK 5 [(11,.func (.func 50) #[] #[vP b]),(15,.agg #[vI ((nd ns i).id),vI ((nd ns i).kind),vI ((nd ns i).mode),vI ((nd ns i).uid),vI ((nd ns i).gid),vI ((nd ns i).sec),vI ((nd ns i).nano),.slice (Y.dA i) ((nd ns i).data.length) ((Y.dC i)),.string (nd ns i).target,.slice (Y.eA i) ((nd ns i).ah.length) ((Y.eC i))])] [(3,p_ ⟨[],some i,none,some ⟨(ay A),ax A,none⟩,none⟩ [((i:Nat):Int)=((i:Nat):Int),i < ns.length,(⟨(ay A),ax A,none⟩:Addr).spot=none,(A:Option Addr)=some ⟨(ay A),ax A,none⟩] ⟨rfl,by omega,rfl,aE.hd hG (i:=i) (by omega),trivial⟩),(4,p_ ⟨[.old (.int .i64 ((nd ns i).id)),.old (.int .i64 ((nd ns i).kind)),.old (.int .i64 ((nd ns i).mode)),.old (.int .i64 ((nd ns i).uid)),.old (.int .i64 ((nd ns i).gid)),.old (.int .i64 ((nd ns i).sec)),.old (.int .i64 ((nd ns i).nano)),.old (.slice (Y.dA i) ((nd ns i).data.length) ((Y.dC i))),.old (.string (nd ns i).target),.old (.slice (Y.eA i) ((nd ns i).ah.length) ((Y.eC i)))],none,none,none,none⟩ [(Rd β ⟨(ay A),ax A+i * 10+9,none⟩ (.slice (Y.eA i) ((nd ns i).ah.length) ((Y.eC i)))),(Rd β ⟨(ay A),ax A+i * 10+8,none⟩ (.string (nd ns i).target)),(Rd β ⟨(ay A),ax A+i * 10+7,none⟩ (.slice (Y.dA i) ((nd ns i).data.length) ((Y.dC i)))),(Rd β ⟨(ay A),ax A+i * 10+6,none⟩ (.int .i64 ((nd ns i).nano))),(Rd β ⟨(ay A),ax A+i * 10+5,none⟩ (.int .i64 ((nd ns i).sec))),(Rd β ⟨(ay A),ax A+i * 10+4,none⟩ (.int .i64 ((nd ns i).gid))),(Rd β ⟨(ay A),ax A+i * 10+3,none⟩ (.int .i64 ((nd ns i).uid))),(Rd β ⟨(ay A),ax A+i * 10+2,none⟩ (.int .i64 ((nd ns i).mode))),(Rd β ⟨(ay A),ax A+i * 10+1,none⟩ (.int .i64 ((nd ns i).kind))),(Rd β ⟨(ay A),ax A+i * 10,none⟩ (.int .i64 ((nd ns i).id)))] ⟨aE.rd hG (i:=i) (by omega) (j:=9) rfl,aE.rd hG (i:=i) (by omega) (j:=8) rfl,aE.rd hG (i:=i) (by omega) (j:=7) rfl,aE.rd hG (i:=i) (by omega) (j:=6) rfl,aE.rd hG (i:=i) (by omega) (j:=5) rfl,aE.rd hG (i:=i) (by omega) (j:=4) rfl,aE.rd hG (i:=i) (by omega) (j:=3) rfl,aE.rd hG (i:=i) (by omega) (j:=2) rfl,aE.rd hG (i:=i) (by omega) (j:=1) rfl,aE.rd hG (i:=i) (by omega) (j:=0) rfl,trivial⟩)] ?_)
  refine gL [0] (Qd b root ((nd ns i).id) (.int .i64 ((nd ns i).kind)) (.int .i64 ((nd ns i).mode)) (.int .i64 ((nd ns i).uid)) (.int .i64 ((nd ns i).gid)) (.int .i64 ((nd ns i).sec)) (.int .i64 ((nd ns i).nano)) (.slice (Y.dA i) ((nd ns i).data.length) ((Y.dC i))) (.string (nd ns i).target) (.slice (Y.eA i) ((nd ns i).ah.length) ((Y.eC i)))) ?_
  rintro _ _ ⟨rfl,rfl⟩
  refine NN (af.aW (p:=(nd ns i).id=root) (fun _=>by kernel_rfl) (fun vK=>?_) (fun vK=>?_))
  ·refine SR (gK 2 [(4,vI ↑i)] [] ?_)
   refine NN (af.ret (aj.aK (aj.aq (aj.aq (aj.aK (aj.aq ?_))))))
   exact RT (vI ↑i) [0,1] (.inl ⟨i,⟨by omega,vK,hlt⟩,rfl,rfl⟩)
  refine af.skip (aj.aO (NX (af.region ?_)))
  refine gK 2 [(8,vI ↑(i+1))] [(0,p_ ⟨[],none,none,none,some (vI ↑(i+1))⟩ [(Value.int .i64 (IntKind.wrap .i64 (((i:Nat):Int)+1)))=(.int .i64 ↑(i+1))] ⟨bC (by omega) (by omega) (by omega),trivial⟩)] ?_
  refine NL ?_
  exact aj.turn ((i+1)) (idx:=[0,1,7,8]) (pk:=[0,1]) (show (((i+1))<=ns.length)/\(∀ q,q < ((i+1))->(nd ns q).id≠root) from ⟨by omega,fun q hq=>(Nat.lt_succ_iff_lt_or_eq.1 hq).elim (hlt q) (fun e=>e ▸ vK)⟩) (by show ns.length - ((i+1)) < ns.length - i;omega) (fun _=>by kernel_rfl) rfl (by kernel_rfl)
 refine af.exit (aj.aV (aj.aV (aj.cL (NX (SR ?_)))))
 refine gK 1 [(4,vI (-1))] [] ?_
 refine NN (af.ret ?_)
 exact RT (vI (-1)) [0,1] (.inr ⟨fun q hq=>hlt q (by omega),rfl,rfl⟩)
theorem Uo {β:Bs} (b:Nat) :
    Spec Tryz.prog β 51 #[.iface 39 (vP b)] [] (fun v l=>v=.agg #[.iface 39 (vP b)]/\l=[]):=by
 refine Spec.enter Tryz.func51 rfl Tryz.ntmps51 (Nat.le_of_ble_eq_true rfl) (fun R=>?_)
 refine SR (gN 1 (fun b2=>[(2,vP b2)]) (fun _=>[]) (fun _=>[]) (fun b2=>.blk b2 [.nilIface] 48) (fun b2=>?_))
 refine NS (gC 3 [] [(2,a_ 1 b2)] [(1,[(0,.iface 39 (vP b))])] ?_)
 refine NN (af.ret ?_)
 exact aj.ret (v:=.agg #[.iface 39 (vP b)]) (l:=[]) (aZ:=[b2=b2]) [.at 1] [0] (fun _=>by kernel_rfl) ⟨rfl,trivial⟩ rfl (by kernel_rfl) (⟨rfl,rfl⟩)
end
section
open Go.RowKit Go.Maps bq aF
attribute [local irreducible] ak aU af aj
abbrev xQ (t)(S:aJ) (L:HL):=(pT t S.X.cH S.aD L S.us:HP)
abbrev Rn (m:Nat) (L:HL) (S:aJ) (cb:Nat) (c) (R:bW):=([pI m L S.idx,pD S.O L,pE S.O L,pC cb c,.abs R]:List HP)
abbrev Yh (f:Nat) (c:aB):=([(8,vP f),(12,vI (c.handle)),(16,.string c.name)]:Fr)
abbrev Yi (L:HL) (d:Nat):=([(5,vP (L.b d)),(6,vI 0)]:Fr)
abbrev Ro (f:Nat) (m:Nat) (t) (S:aJ) (L:HL):=([pF f m t S.X,xQ t S L,pO S.O L]:List HP)
abbrev Yj (e):=([(5,.pointer none),(6,vI (e))]:Fr)
theorem uQ {β:Bs} (S:aJ) (L:HL) (f m t:Nat) (hI:Inv S) (cb:Nat) (c:aB) (hC:lg β c) :
    Spec Tryz.prog β 188 #[vP f,vP cb] ((pA f m t L S)++[pC cb c]) (fun v l=>v=Xe L (fC S.O S.us c)/\l=((pA f m t L S)++[pC cb c])):=by
 refine Spec.enter Tryz.func188 rfl Tryz.ntmps188 (Nat.le_of_ble_eq_true rfl) (fun R=>?_)
 refine SR (gK 2 [] [] ?_)
 refine NN (af.seq (af.eM (by kernel_rfl) (by kernel_rfl) ?_))
 refine gQ 9 [(10,vP f),(14,vI (c.handle)),(18,.string c.name)] [(4,a_ 6 cb),(8,a_ 6 cb)] ?_
 rcases CI hI.toInv0 c.handle c.name 64 with ⟨e,hab,hne⟩|⟨d,hab,hd,ko,hgn,jw⟩
 ·refine aU.call (f:=189) (args:=#[vP f,vI (c.handle),.string c.name,vI 64]) (d:=(some 19)) (pre:=(Ro f m t S L)) (R:=(Rn m L S cb c R)) (pk:=[0,2,3,1,4,5,6,7]) (xC:=[0,3,1,2,4,5,6,7]) (v0:=.tuple #[.pointer none,vI (e)]) (fun _=>by kernel_rfl) ((by have h:=uM S L f m t hI c.handle hC.hw c.name hC.nm 64 (β:=β);rw [hab] at h;exact h)) rfl (by kernel_rfl) rfl (by kernel_rfl) (fun _ _ h=>h) ?_
  refine gQ 5 [(6,.pointer none),(7,vI (e))] [] ?_
  refine NQ (NX (af.seq (SR ?_)))
  refine gK 2 [(23,.bool (!(decide ((e:Int)=(0:Int)))))] [] ?_
  refine NN (af.fI (p:=(e:Int)=(0:Int)) (fun _=>by kernel_rfl) (fun h23=>?_) (fun h23=>?_))
  ·refine SR (gK 3 [(4,.nilIface),(5,vI (e))] [] ?_)
   refine NN (af.ret (aj.aq ?_))
   exact RT (.tuple #[.nilIface,vI (e)]) [0,1,2,3,4,5,6,7] (⟨by rw [show fC S.O S.us c=.error e by unfold fC;rw [hab]];rfl,rfl⟩)
  exact absurd h23 hne
 have hkd:(obj S.O d).kind=2:=hI.kind hd
 refine aU.call (f:=189) (args:=#[vP f,vI (c.handle),.string c.name,vI 64]) (d:=(some 19)) (pre:=(Ro f m t S L)) (R:=(Rn m L S cb c R)) (pk:=[0,2,3,1,4,5,6,7]) (xC:=[0,3,1,2,4,5,6,7]) (v0:=.tuple #[vP (L.b d),vI 0]) (fun _=>by kernel_rfl) ((by have h:=uM S L f m t hI c.handle hC.hw c.name hC.nm 64 (β:=β);rw [hab] at h;exact h)) rfl (by kernel_rfl) rfl (by kernel_rfl) (fun _ _ h=>h) ?_
 refine gQ 5 [(6,vP (L.b d)),(7,vI 0)] [] ?_
 refine NQ (NX (af.seq (SR ?_)))
 refine gK 2 [(23,.bool false)] [] ?_
 refine NN (CF (af.skip (NX (af.seq ?_))))
 have hel:(obj S.O d).ah.length<=8192:=hI.iT hd
 have Y3:=hC.nm
 rcases hI.pR hd c.name with hlk|⟨tk,hlk,hlv⟩|⟨tk,hlk,hlv⟩|⟨tk,hlk,hlv⟩
 ·refine af.eM (by kernel_rfl) (by kernel_rfl) ?_
  refine gQ 8 [(28,.map (some (L.m d))),(32,.string c.name)] [(3,v_ 3 (bQ L hkd)),(7,a_ 6 cb)] ?_
  refine Q8 5 hkd hlk ?_
  refine gQ 1 [(8,.nilIface)] [] ?_
  refine NQ (NX (af.seq (SR ?_)))
  refine gK 2 [(35,.bool true)] [] ?_
  refine NN (CT (SR (gK 2 [(4,.nilIface),(5,vI 170)] [] ?_)))
  refine NN (af.ret (aj.aq ?_))
  exact RT (.tuple #[.nilIface,vI 170]) [0,1,2,3,4,5,6,7] (⟨by rw [show fC S.O S.us c=.error 170 by unfold fC;rw [hab];simp only;rw [hlk]];rfl,rfl⟩)
 ·have hkt:(obj S.O tk).kind=1:=hI.kind hlv
  refine af.eM (by kernel_rfl) (by kernel_rfl) ?_
  refine gQ 8 [(28,.map (some (L.m d))),(32,.string c.name)] [(3,v_ 3 (bQ L hkd)),(7,a_ 6 cb)] ?_
  refine Q8 5 hkd hlk ?_
  refine gQ 1 [(8,.iface 162 (vP (L.b tk)))] [] ?_
  refine NQ (NX (af.seq (SR ?_)))
  refine gK 2 [(35,.bool false)] [] ?_
  refine NN (CF (af.skip (NX (SR (gK 3 [(4,.iface 162 (vP (L.b tk))),(5,vI 0)] [] ?_)))))
  refine NN (af.ret ?_)
  exact RT (.tuple #[.iface 162 (vP (L.b tk)),vI 0]) [0,1,2,3,4,5,6,7] (⟨by rw [show fC S.O S.us c=.ok ⟨tk,1⟩ by unfold fC;rw [hab];simp only;rw [hlk]];rfl,rfl⟩)
 ·have hkt:(obj S.O tk).kind=2:=hI.kind hlv
  refine af.eM (by kernel_rfl) (by kernel_rfl) ?_
  refine gQ 8 [(28,.map (some (L.m d))),(32,.string c.name)] [(3,v_ 3 (bQ L hkd)),(7,a_ 6 cb)] ?_
  refine Q8 5 hkd hlk ?_
  refine gQ 1 [(8,.iface 169 (vP (L.b tk)))] [] ?_
  refine NQ (NX (af.seq (SR ?_)))
  refine gK 2 [(35,.bool false)] [] ?_
  refine NN (CF (af.skip (NX (SR (gK 3 [(4,.iface 169 (vP (L.b tk))),(5,vI 0)] [] ?_)))))
  refine NN (af.ret ?_)
  exact RT (.tuple #[.iface 169 (vP (L.b tk)),vI 0]) [0,1,2,3,4,5,6,7] (⟨by rw [show fC S.O S.us c=.ok ⟨tk,2⟩ by unfold fC;rw [hab];simp only;rw [hlk]];rfl,rfl⟩)
 have hkt:(obj S.O tk).kind=3:=hI.kind hlv
 refine af.eM (by kernel_rfl) (by kernel_rfl) ?_
 refine gQ 8 [(28,.map (some (L.m d))),(32,.string c.name)] [(3,v_ 3 (bQ L hkd)),(7,a_ 6 cb)] ?_
 refine Q8 5 hkd hlk ?_
 refine gQ 1 [(8,.iface 166 (vP (L.b tk)))] [] ?_
 refine NQ (NX (af.seq (SR ?_)))
 refine gK 2 [(35,.bool false)] [] ?_
 refine NN (CF (af.skip (NX (SR (gK 3 [(4,.iface 166 (vP (L.b tk))),(5,vI 0)] [] ?_)))))
 refine NN (af.ret ?_)
 exact RT (.tuple #[.iface 166 (vP (L.b tk)),vI 0]) [0,1,2,3,4,5,6,7] (⟨by rw [show fC S.O S.us c=.ok ⟨tk,3⟩ by unfold fC;rw [hab];simp only;rw [hlk]];rfl,rfl⟩)
theorem LB {β:Bs} (S:aJ) (L:HL) (f m t:Nat) (hI:Inv S) (cb:Nat) (c:aB) (hC:lg β c) :
    Spec Tryz.prog β 172 #[vP f,vP cb] ((pA f m t L S)++[pC cb c]) (fun v l=>∃ L2,v=vI (jq S c).1/\l=((pA f m t L2 ((jq S c).2.1))++[.blk cb (dr ((jq S c).2.2)) 88])):=by
 have hX:=hI.hX
 refine Spec.enter Tryz.func172 rfl Tryz.ntmps172 (Nat.le_of_ble_eq_true rfl) (fun R=>?_)
 refine SR (gK 1 [] [] ?_)
 refine NN (af.seq ?_)
 rcases hI.TB c.other with hix|⟨tk,hix,hlv⟩|⟨tk,hix,hlv⟩|⟨tk,hix,hlv⟩
 ·refine af.eM (by kernel_rfl) (by kernel_rfl) ?_
  refine gQ 8 [(10,.map (some m)),(14,vI (c.other))] [(3,a_ 0 f),(7,a_ 6 cb)] ?_
  refine aU.dW 1 (d:=(some 15)) (t:=151) (K:=3) (E:=156) (b:=m) (n:=S.idx.length) (f:=(bA (bH L S.idx))) (x:=(.tmp 10)) (ix:=(.tmp 14)) (key:=.int .i64 (c.other)) (z:=.nilIface) (kl:=(.int .i64 c.other)) (r:=none) (fun _=>by kernel_rfl) (by kernel_rfl) (fun _=>by kernel_rfl) (fun _=>by kernel_rfl) dZ Tryz.underlying151 (fun _=>by kernel_rfl) (iR hC.ow) (by rw [fV,hix];rfl) ?_
  refine gQ 1 [(5,.nilIface)] [] ?_
  refine NQ (NX (af.seq (SR ?_)))
  refine gK 2 [(17,.bool true)] [] ?_
  refine NN (CT (SR (gK 1 [(4,vI 141)] [] ?_)))
  refine NN (af.ret (aj.aq ?_))
  exact RT (vI 141) [0,1,2,3,4,5,6,7] (⟨L,by rw [show (jq S c)=(141,S,c) by unfold jq;rw [hix]]<;>exact⟨rfl,rfl⟩⟩)
 ·have hkt:(obj S.O tk).kind=1:=hI.kind hlv
  refine af.eM (by kernel_rfl) (by kernel_rfl) ?_
  refine gQ 8 [(10,.map (some m)),(14,vI (c.other))] [(3,a_ 0 f),(7,a_ 6 cb)] ?_
  refine aU.dW 1 (d:=(some 15)) (t:=151) (K:=3) (E:=156) (b:=m) (n:=S.idx.length) (f:=(bA (bH L S.idx))) (x:=(.tmp 10)) (ix:=(.tmp 14)) (key:=.int .i64 (c.other)) (z:=.nilIface) (kl:=(.int .i64 c.other)) (r:=(some (eu L ⟨tk,1⟩))) (fun _=>by kernel_rfl) (by kernel_rfl) (fun _=>by kernel_rfl) (fun _=>by kernel_rfl) dZ Tryz.underlying151 (fun _=>by kernel_rfl) (iR hC.ow) (by rw [fV,hix];rfl) ?_
  refine gQ 1 [(5,.iface 162 (vP (L.b tk)))] [] ?_
  refine NQ (NX (af.seq (SR ?_)))
  refine gK 2 [(17,.bool false)] [] ?_
  refine NN (CF (af.skip (NX (af.seq (SR (gK 1 [(18,.iface 162 (vP (L.b tk)))] [] ?_))))))
  refine gL [] (qE (vP (L.b tk))) ?_
  rintro _ _ ⟨rfl,rfl⟩
  refine gK 1 [(20,.bool true)] [] ?_
  refine NN (CT (SR (gK 1 [(4,vI 173)] [] ?_)))
  refine NN (af.ret (aj.aq ?_))
  exact RT (vI 173) [0,1,2,3,4,5,6,7] (⟨L,by rw [show (jq S c)=(173,S,c) by unfold jq;rw [hix];exact if_neg (by simp)]<;>exact⟨rfl,rfl⟩⟩)
 ·have hkt:(obj S.O tk).kind=2:=hI.kind hlv
  refine af.eM (by kernel_rfl) (by kernel_rfl) ?_
  refine gQ 8 [(10,.map (some m)),(14,vI (c.other))] [(3,a_ 0 f),(7,a_ 6 cb)] ?_
  refine aU.dW 1 (d:=(some 15)) (t:=151) (K:=3) (E:=156) (b:=m) (n:=S.idx.length) (f:=(bA (bH L S.idx))) (x:=(.tmp 10)) (ix:=(.tmp 14)) (key:=.int .i64 (c.other)) (z:=.nilIface) (kl:=(.int .i64 c.other)) (r:=(some (eu L ⟨tk,2⟩))) (fun _=>by kernel_rfl) (by kernel_rfl) (fun _=>by kernel_rfl) (fun _=>by kernel_rfl) dZ Tryz.underlying151 (fun _=>by kernel_rfl) (iR hC.ow) (by rw [fV,hix];rfl) ?_
  refine gQ 1 [(5,.iface 169 (vP (L.b tk)))] [] ?_
  refine NQ (NX (af.seq (SR ?_)))
  refine gK 2 [(17,.bool false)] [] ?_
  refine NN (CF (af.skip (NX (af.seq (SR (gK 1 [(18,.iface 169 (vP (L.b tk)))] [] ?_))))))
  refine gL [] (qF (vP (L.b tk))) ?_
  rintro _ _ ⟨rfl,rfl⟩
  refine gK 1 [(20,.bool false)] [] ?_
  refine NN (CF (af.skip (NX (SR (gK 1 [] [] ?_)))))
  refine NS (gK 3 [(22,vP cb),(23,vP f),(24,.iface 169 (vP (L.b tk)))] [] ?_)
  refine gL [0,2,3] (Hq S L f m t ⟨tk,2⟩ hkt (by simp) (by have:=hI.GD hlv;simp only at this ⊢;omega)) ?_
  rintro _ _ ⟨rfl,rfl⟩
  refine gC 7 [(6,vI ((dg S ⟨tk,2⟩).2.1))] [(5,a_ 6 cb)] [(6,[(12,vI ((dg S ⟨tk,2⟩).1))])] ?_
  refine NS (ak.fo [(4,.abs (aG (cg ((dg S ⟨tk,2⟩).2.2.O) L))),(5,.abs (aG (cY ((dg S ⟨tk,2⟩).2.2.O) L)))] (fun w hS=>by rw [GQ,GR];exact hS) ?_)
  refine gK 2 [(4,vI ((dg S ⟨tk,2⟩).2.1))] [] ?_
  refine NN (af.ret ?_)
  exact RT (vI ((dg S ⟨tk,2⟩).2.1)) [0,3,1,2,4,5,6,7] (⟨L,by rw [show (jq S c)=((dg S ⟨tk,2⟩).2.1,(dg S ⟨tk,2⟩).2.2,{ c with answer:=(dg S ⟨tk,2⟩).1 }) by unfold jq;rw [hix];exact if_pos rfl]<;>exact⟨rfl,rfl⟩⟩)
 have hkt:(obj S.O tk).kind=3:=hI.kind hlv
 refine af.eM (by kernel_rfl) (by kernel_rfl) ?_
 refine gQ 8 [(10,.map (some m)),(14,vI (c.other))] [(3,a_ 0 f),(7,a_ 6 cb)] ?_
 refine aU.dW 1 (d:=(some 15)) (t:=151) (K:=3) (E:=156) (b:=m) (n:=S.idx.length) (f:=(bA (bH L S.idx))) (x:=(.tmp 10)) (ix:=(.tmp 14)) (key:=.int .i64 (c.other)) (z:=.nilIface) (kl:=(.int .i64 c.other)) (r:=(some (eu L ⟨tk,3⟩))) (fun _=>by kernel_rfl) (by kernel_rfl) (fun _=>by kernel_rfl) (fun _=>by kernel_rfl) dZ Tryz.underlying151 (fun _=>by kernel_rfl) (iR hC.ow) (by rw [fV,hix];rfl) ?_
 refine gQ 1 [(5,.iface 166 (vP (L.b tk)))] [] ?_
 refine NQ (NX (af.seq (SR ?_)))
 refine gK 2 [(17,.bool false)] [] ?_
 refine NN (CF (af.skip (NX (af.seq (SR (gK 1 [(18,.iface 166 (vP (L.b tk)))] [] ?_))))))
 refine gL [] (qG (vP (L.b tk))) ?_
 rintro _ _ ⟨rfl,rfl⟩
 refine gK 1 [(20,.bool true)] [] ?_
 refine NN (CT (SR (gK 1 [(4,vI 173)] [] ?_)))
 refine NN (af.ret (aj.aq ?_))
 exact RT (vI 173) [0,1,2,3,4,5,6,7] (⟨L,by rw [show (jq S c)=(173,S,c) by unfold jq;rw [hix];exact if_neg (by simp)]<;>exact⟨rfl,rfl⟩⟩)
theorem Fx {β:Bs} (S:aJ) (L:HL) (f m t:Nat) (hI:Inv S) (cb:Nat) (c:aB) (hC:lg β c) :
    Spec Tryz.prog β 173 #[vP f,vP cb] ((pA f m t L S)++[pC cb c]) (fun v l=>∃ L2,v=vI (eF S c).1/\l=((pA f m t L2 ((eF S c).2.1))++[.blk cb (dr ((eF S c).2.2)) 88])):=by
 have hX:=hI.hX
 refine Spec.enter Tryz.func173 rfl Tryz.ntmps173 (Nat.le_of_ble_eq_true rfl) (fun R=>?_)
 refine SR (gK 1 [] [] ?_)
 refine NS (gK 2 [(8,vP f),(9,vP cb)] [] ?_)
 rcases Na hI.toInv0 c with ⟨e,hnm,hne⟩|⟨tk,hnm,hlv⟩|⟨tk,hnm,hlv⟩|⟨tk,hnm,hlv⟩
 ·refine gL (f:=188) (args:=#[vP f,vP cb]) (pre:=((pA f m t L S)++[pC cb c])) [0,1,2,3,4,5,6] ((by have h:=uQ S L f m t hI cb c hC (β:=β);rw [hnm] at h;exact h)) ?_
  rintro _ _ ⟨rfl,rfl⟩
  refine gK 5 [(5,.nilIface),(6,vI (e))] [] ?_
  refine NN (af.seq (SR (gK 2 [(14,.bool (!(decide ((e:Int)=(0:Int)))))] [] ?_)))
  refine NN (af.fI (p:=(e:Int)=(0:Int)) (fun _=>by kernel_rfl) (fun jV=>?_) (fun jV=>?_))
  ·refine SR (gK 2 [(4,vI (e))] [] ?_)
   refine NN (af.ret (aj.aq ?_))
   exact RT (vI (e)) [0,1,2,3,4,5,6,7] (⟨L,by rw [show (eF S c)=(e,S,c) by unfold eF;rw [hnm]]<;>exact⟨rfl,rfl⟩⟩)
  exact absurd jV hne
 ·have hkt:(obj S.O tk).kind=1:=hI.kind hlv
  refine gL (f:=188) (args:=#[vP f,vP cb]) (pre:=((pA f m t L S)++[pC cb c])) [0,1,2,3,4,5,6] ((by have h:=uQ S L f m t hI cb c hC (β:=β);rw [hnm] at h;exact h)) ?_
  rintro _ _ ⟨rfl,rfl⟩
  refine gK 5 [(5,.iface 162 (vP (L.b tk))),(6,vI 0)] [] ?_
  refine NN (af.seq (SR (gK 2 [(14,.bool false)] [] ?_)))
  refine NN (CF (af.skip (NX (af.seq (SR (gK 1 [(16,.iface 162 (vP (L.b tk)))] [] ?_))))))
  refine NN (af.block (SR ?_))
  refine gK 3 [(18,.bool false)] [] ?_
  refine NN (CF (SR (gK 3 [(21,.bool true)] [] ?_)))
  refine NN (CT (SR (gK 1 [(4,vI 173)] [] ?_)))
  refine NN (af.ret (aj.aK (aj.aq ?_)))
  exact RT (vI 173) [0,1,2,3,4,5,6,7] (⟨L,by rw [show (eF S c)=(173,S,c) by unfold eF;rw [hnm];exact (if_neg (by simp)).trans (if_pos rfl)]<;>exact⟨rfl,rfl⟩⟩)
 ·have hkt:(obj S.O tk).kind=2:=hI.kind hlv
  refine gL (f:=188) (args:=#[vP f,vP cb]) (pre:=((pA f m t L S)++[pC cb c])) [0,1,2,3,4,5,6] ((by have h:=uQ S L f m t hI cb c hC (β:=β);rw [hnm] at h;exact h)) ?_
  rintro _ _ ⟨rfl,rfl⟩
  refine gK 5 [(5,.iface 169 (vP (L.b tk))),(6,vI 0)] [] ?_
  refine NN (af.seq (SR (gK 2 [(14,.bool false)] [] ?_)))
  refine NN (CF (af.skip (NX (af.seq (SR (gK 1 [(16,.iface 169 (vP (L.b tk)))] [] ?_))))))
  refine NN (af.block (SR ?_))
  refine gK 3 [(18,.bool false)] [] ?_
  refine NN (CF (SR (gK 3 [(21,.bool false)] [] ?_)))
  refine NN (CF (af.skip (aj.aO (NX (SR ?_)))))
  refine gK 3 [(24,vP cb),(25,vP f),(26,.iface 169 (vP (L.b tk)))] [] ?_
  refine gL [0,2,3] (Hq S L f m t ⟨tk,2⟩ hkt (by simp) (by have:=hI.GD hlv;simp only at this ⊢;omega)) ?_
  rintro _ _ ⟨rfl,rfl⟩
  refine gC 7 [(6,vI ((dg S ⟨tk,2⟩).2.1))] [(5,a_ 6 cb)] [(6,[(12,vI ((dg S ⟨tk,2⟩).1))])] ?_
  refine NS (ak.fo [(4,.abs (aG (cg ((dg S ⟨tk,2⟩).2.2.O) L))),(5,.abs (aG (cY ((dg S ⟨tk,2⟩).2.2.O) L)))] (fun w hS=>by rw [GQ,GR];exact hS) ?_)
  refine gK 2 [(4,vI ((dg S ⟨tk,2⟩).2.1))] [] ?_
  refine NN (af.ret ?_)
  exact RT (vI ((dg S ⟨tk,2⟩).2.1)) [0,3,1,2,4,5,6,7] (⟨L,by rw [show (eF S c)=((dg S ⟨tk,2⟩).2.1,(dg S ⟨tk,2⟩).2.2,{ c with answer:=(dg S ⟨tk,2⟩).1 }) by unfold eF;rw [hnm];exact (if_neg (by simp)).trans (if_neg (by simp))]<;>exact⟨rfl,rfl⟩⟩)
 have hkt:(obj S.O tk).kind=3:=hI.kind hlv
 refine gL (f:=188) (args:=#[vP f,vP cb]) (pre:=((pA f m t L S)++[pC cb c])) [0,1,2,3,4,5,6] ((by have h:=uQ S L f m t hI cb c hC (β:=β);rw [hnm] at h;exact h)) ?_
 rintro _ _ ⟨rfl,rfl⟩
 refine gK 5 [(5,.iface 166 (vP (L.b tk))),(6,vI 0)] [] ?_
 refine NN (af.seq (SR (gK 2 [(14,.bool false)] [] ?_)))
 refine NN (CF (af.skip (NX (af.seq (SR (gK 1 [(16,.iface 166 (vP (L.b tk)))] [] ?_))))))
 refine NN (af.block (SR ?_))
 refine gK 3 [(18,.bool true)] [] ?_
 refine NN (CT (SR (gK 1 [(4,vI 174)] [] ?_)))
 refine NN (af.ret (aj.aK (aj.aq ?_)))
 exact RT (vI 174) [0,1,2,3,4,5,6,7] (⟨L,by rw [show (eF S c)=(174,S,c) by unfold eF;rw [hnm];exact if_pos rfl]<;>exact⟨rfl,rfl⟩⟩)
theorem Jq {β:Bs} (S:aJ) (L:HL) (f m t:Nat) (hI:Inv S) (cb:Nat) (c:aB) (hC:lg β c) :
    Spec Tryz.prog β 175 #[vP f,vP cb] ((pA f m t L S)++[pC cb c]) (fun v l=>∃ L2,v=vI (gI S c).1/\l=((pA f m t L2 ((gI S c).2.1))++[.blk cb (dr ((gI S c).2.2)) 88])):=by
 have hX:=hI.hX
 refine Spec.enter Tryz.func175 rfl Tryz.ntmps175 (Nat.le_of_ble_eq_true rfl) (fun R=>?_)
 refine SR (gK 1 [] [] ?_)
 refine NN (af.seq (af.eM (by kernel_rfl) (by kernel_rfl) ?_))
 refine gQ 9 (Yh f c) [(4,a_ 6 cb),(8,a_ 6 cb)] ?_
 rcases CI hI.toInv0 c.handle c.name 192 with ⟨e,hab,hne⟩|⟨d,hab,hd,ko,hgn,jw⟩
 ·refine aU.call (f:=189) (args:=#[vP f,vI (c.handle),.string c.name,vI 192]) (d:=(some 17)) (pre:=(Ro f m t S L)) (R:=(Rn m L S cb c R)) (pk:=[0,2,3,1,4,5,6,7]) (xC:=[0,3,1,2,4,5,6,7]) (v0:=.tuple #[.pointer none,vI (e)]) (fun _=>by kernel_rfl) ((by have h:=uM S L f m t hI c.handle hC.hw c.name hC.nm 192 (β:=β);rw [hab] at h;exact h)) rfl (by kernel_rfl) rfl (by kernel_rfl) (fun _ _ h=>h) ?_
  refine gQ 5 (Yj e) [] ?_
  refine NQ (NX (af.seq (SR ?_)))
  refine gK 2 [(21,.bool (!(decide ((e:Int)=(0:Int)))))] [] ?_
  refine NN (af.fI (p:=(e:Int)=(0:Int)) (fun _=>by kernel_rfl) (fun Rg=>?_) (fun Rg=>?_))
  ·refine SR (gK 2 [(4,vI (e))] [] ?_)
   refine NN (af.ret (aj.aq ?_))
   exact RT (vI (e)) [0,1,2,3,4,5,6,7] (⟨L,by rw [show (gI S c)=(e,S,c) by unfold gI;rw [hab]]<;>exact⟨rfl,rfl⟩⟩)
  exact absurd Rg hne
 have hkd:(obj S.O d).kind=2:=hI.kind hd
 refine aU.call (f:=189) (args:=#[vP f,vI (c.handle),.string c.name,vI 192]) (d:=(some 17)) (pre:=(Ro f m t S L)) (R:=(Rn m L S cb c R)) (pk:=[0,2,3,1,4,5,6,7]) (xC:=[0,3,1,2,4,5,6,7]) (v0:=.tuple #[vP (L.b d),vI 0]) (fun _=>by kernel_rfl) ((by have h:=uM S L f m t hI c.handle hC.hw c.name hC.nm 192 (β:=β);rw [hab] at h;exact h)) rfl (by kernel_rfl) rfl (by kernel_rfl) (fun _ _ h=>h) ?_
 refine gQ 5 (Yi L d) [] ?_
 refine NQ (NX (af.seq (SR ?_)))
 refine gK 2 [(21,.bool false)] [] ?_
 refine NN (CF (af.skip (NX (af.seq (SR (gK 4 [(26,vI (c.mode))] [(3,a_ 6 cb)] ?_))))))
 refine gL [] (sO (c.mode) 4095) ?_
 rintro _ _ ⟨rfl,rfl⟩
 refine gK 1 [(28,.bool (!(decide (0<=c.mode/\c.mode<=4095))))] [] ?_
 refine NN (af.fI (p:=0<=c.mode/\c.mode<=4095) (fun _=>by kernel_rfl) (fun Fb=>?_) (fun Fb=>?_))
 ·refine SR (gK 1 [(4,vI 120)] [] ?_)
  refine NN (af.ret (aj.aq ?_))
  exact RT (vI 120) [0,1,2,3,4,5,6,7] (⟨L,by rw [show (gI S c)=(120,S,c) by unfold gI;rw [hab];exact if_neg Fb]<;>exact⟨rfl,rfl⟩⟩)
 refine af.skip (NX (af.seq (af.ck (S:=[pC cb c]) [0,1,2,3,4,5,6,7,8,9,10,11] 10 [6] (by kernel_rfl) (by kernel_rfl) rfl (by kernel_rfl) ?_)))
 refine gR 0 [10,11] [(29,vP f),(30,vP (L.b d)),(34,.string c.name),(38,vI (c.mode))] [0,1,2,3,4,5,6,7,8,9] [(5,a_ 0 cb),(9,a_ 0 cb)] ?_
 refine mL [6] [0,1,2,3,4,5] (EZ S L f m t hI d hd c.name hC.nm c.mode) ?_ (by rintro _ _ ⟨L2,rfl,rfl⟩;rfl)
 rintro _ _ ⟨L2,rfl,rfl⟩
 refine aQ.last rfl rfl ?_
 refine gK 1 [(4,vI ((gY S d c.name c.mode).1))] [] ?_
 refine NL (aj.np (NX (af.ret ?_)))
 exact RT (vI ((gY S d c.name c.mode).1)) [0,1,2,3,4,5,6,7] (⟨L2,by rw [show (gI S c)=((gY S d c.name c.mode).1,(gY S d c.name c.mode).2,c) by unfold gI;rw [hab];exact if_pos Fb]<;>exact⟨rfl,rfl⟩⟩)
end
section
open Go.RowKit
section order
variable {P:Program} {ops:Array Oper} {Q Q':Post} {n:Nat} {S:World->Prop}
def gu (P:Program) (ops:Array Oper) (Q:Post) (S:World->Prop):List (Bool×Nat)->Act->World->Prop
  | [],a,w=>Q .normal a w
  | (false,i)::l,a,w=>wpOp P ops Q i (fun a' w'=>(l=[]\/S w')/\gu P ops Q S l a' w') a w
  | (true,i)::l,a,w=>∃ o v,ops[i]?=some o/\YieldsIf P ops S o v a/\gu P ops Q S l (a.put o.dst v) w
def uR (ops:Array Oper) (n:Nat):List (Bool×Nat)->Array Bool->Bool
  | [],listed=>(Region.ready .any ops listed).isEmpty
  | (false,i)::l,listed=>(Region.ready .any ops listed == [i]) && (!l.isEmpty || i == n) && uR ops n l (listed.setIfInBounds i true)
  | (true,i)::l,listed=>decide (i < n) && Region.free .any ops listed i && (Region.ready .any ops listed).contains i && uR ops n l (listed.setIfInBounds i true)
theorem qL (hsel:Region.noSelect ops=true) (kH:Region.sinkB .any ops n=true):∀ (l:List (Bool×Nat)) (listed:Array Bool) (a:Act) (w:World),uR ops n l listed=true->Closed ops listed->(l=[]\/S w)->gu P ops (NP Q) S l a w->iU P ops (NP Q) n S l.length listed a w
  | [],listed,a,w,hb,_,_,h=>⟨List.isEmpty_iff.1 hb,h⟩
  | (false,i)::l,listed,a,w,hb,hc,_,h=>by
    unfold uR at hb
    simp only [Bool.and_eq_true,beq_iff_eq] at hb
    obtain⟨⟨h1,h2⟩,h3⟩:=hb
    refine⟨fun h0=>(by rw [h1] at h0;cases h0),fun j hj=>?_⟩
    have hr:=hj
    rw [h1] at hj
    have hj:j=i:=by simpa using hj
    subst hj
    refine wpOp_mono (fun a' w' h4=>⟨?_,qL hsel kH l _ a' w' h3 (hc.set hr) h4.1 h4.2⟩) h
    rcases h4.1 with h5|h5
    ·subst h5;exact .inl (by simpa using h2)
    exact .inr h5
  | (true,i)::l,listed,a,w,hb,hc,hS,h=>by
    unfold uR at hb
    simp only [Bool.and_eq_true,decide_eq_true_iff] at hb
    obtain⟨⟨⟨h1,h2⟩,h3⟩,h4⟩:=hb
    obtain⟨o,v,ho,hy,hk⟩:=h
    have hS:S w:=hS.resolve_left (by simp)
    have hr:i∈Region.ready .any ops listed:=by simpa using h3
    exact pH ho hsel kH h1 l.length listed a w hc (Region.free_spec ho h2) hr hy hS (qL hsel kH l _ _ w h4 (hc.set hr) (.inr hS) hk)
def Ad (ops:Array Oper) (l:List (Bool×Nat)):Bool:=
  Region.noSelect ops && Region.sinkB .any ops (ops.size - 1) && (l.length == ops.size) && uR ops (ops.size - 1) l (Array.replicate ops.size false)
def mH (ops:Array Oper) (i:Nat):Array Oper:=⟨ops.toList.take (i+1)⟩
def gB (ops:Array Oper) (i:Nat):Bool:=match ops[i]? with
  | some o=>match o.guard with
    | none=>true
    | some (j,_)=>decide (j<=i)
  | none=>false
theorem NM {i j:Nat} (h:j<=i):(mH ops i)[j]?=ops[j]?:=by
  unfold mH
  obtain⟨l⟩:=ops
  simp only [List.getElem?_toArray,List.getElem?_take]
  rw [if_pos (by omega)]
theorem j7 {i:Nat} {a:Act} {w:World} {K:Act->World->Prop} (hg:gB ops i=true) (h:wpList P (mH ops i) (NP fun _ a w=>K a w) ((mH ops i).toList.drop i) a w):wpOp P ops (NP Q) i K a w:=by
  unfold gB at hg
  split at hg
  ·rename_i o ho
   have hd:(mH ops i).toList.drop i=[o]:=by
     have hl:ops.toList[i]?=some o:=by simpa using ho
     have hi:i < ops.toList.length:=bw hl
     show (ops.toList.take (i+1)).drop i=[o]
     rw [List.drop_take]
     rw [show i+1 - i=1 by omega,List.drop_eq_getElem_cons hi]
     rw [List.getElem?_eq_getElem hi] at hl
     cases hl
     rfl
   have hw:Region.wanted o (yielded (mH ops i) a.tmps)=Region.wanted o (yielded ops a.tmps):=by
     unfold Region.wanted
     split at hg
     ·rename_i hn;rw [hn]
     rename_i j b hn
     rw [hn]
     have hj:j<=i:=by simpa using hg
     have:yielded (mH ops i) a.tmps j=yielded ops a.tmps j:=by
       unfold yielded
       rw [NM hj]
     simp only [this]
   rw [hd] at h
   unfold wpOp
   simp only [ho]
   unfold wpList at h
   rw [hw] at h
   split at h
   ·rename_i hw
    rw [if_pos hw]
    rcases h with h|⟨_,h⟩
    ·exact .inl (Fz (Oper.wp_mono (fun a w h=>h) h))
    exact (pG h).elim
   rename_i hw
   rw [if_neg hw]
   exact h
  cases hg
end order
theorem jR {P:Program} {ops:Array Oper} {Q Q':Post} (hq:∀ a w,Q .normal a w->Q' .normal a w):∀ (l:List Oper) {a:Act} {w:World},wpList P ops (NP Q) l a w->wpList P ops (NP Q') l a w
  | [],_,_,h=>hq _ _ h
  | o::r,a,w,h=>by
    unfold wpList at *
    split
    ·rename_i hw
     rw [if_pos hw] at h
     rcases h with h|⟨_,h⟩
     ·exact .inl (Fz (Oper.wp_mono (fun a w h=>jR hq r h) h))
     exact (pG h).elim
    rename_i hw
    rw [if_neg hw] at h
    exact jR hq r h
section mix
variable {P:Program} {β:Bs} {N:dG} {ops:Array Oper} {S:List HP} {l l':List (Bool×Nat)} {fr fr':Fr} {hps:List HP} {Q:Post} {aZ:List Prop} {i:Nat} {pk:List Nat}
def eO (P:Program) (β:Bs) (N:dG) (ops:Array Oper) (S:List HP) (l:List (Bool×Nat)) (fr:Fr) (hps:List HP) (Q:Post):Prop:=
  ∀ junk w,Sat β hps w->gu P ops (NP Q) (Sat β S) l (bM N fr junk) w
theorem af.jS {id:Nat} (l:List (Bool×Nat)) (pk:List Nat) (hm:P.follows .mixedOrders=true) (hB:Ad ops l=true) (hn:nodupB pk=true) (hp:bN hps pk=some S) (h:eO P β N ops S l fr hps Q):af P β N (.region id ops true) fr hps Q:=by
  intro junk w hS
  unfold Ad at hB
  simp only [Bool.and_eq_true,beq_iff_eq] at hB
  obtain⟨⟨⟨h1,h2⟩,h3⟩,h4⟩:=hB
  have cE:=hS.drewN 1
  have h5:=qL (Q:=Q) h1 h2 l _ _ _ h4 (fun j oj _ hl=>by simp [Array.getD_eq_getD_getElem?,Array.getElem?_replicate] at hl;split at hl<;>simp at hl) (.inr (cE.pick hn hp)) (h junk (w.drewN 1) cE)
  rw [h3] at h5
  refine Code.wp_mono (fun e a w q=>?_) (wp_region_any hm (lT _ _ _ _ h5))
  cases e with
  | normal=>exact q
  | exit id=>exact q.elim
  | goto l=>exact q.elim
  | ret=>exact q.elim
  | panic ch=>exact q.elim
  | outgrown=>exact q.elim
def kL (P:Program) (β:Bs) (N:dG) (junk:Nat->Value) (ops:Array Oper):List OH->List Nat->Fr->SS->Option (Fr×SS)
  | [],[],fr,S=>some (fr,S)
  | h::hs,i::is,fr,S=>
    match ops[i]? with
    | some o=>
      match Region.wanted o (yF ops N fr junk) with
      | true=>
        match tf P β 0 true (dL N fr junk) o h S with
        | some (v,S')=>
          match ye v with
          | true=>kL P β N junk ops hs is (dw fr o.dst v) S'
          | false=>none
        | none=>none
      | false=>kL P β N junk ops hs is (dw fr o.dst undef) S
    | none=>none
  | _,_,_,_=>none
def mh (P:Program) (β:Bs) (N:dG) (junk:Nat->Value) (ops:Array Oper) (hs:List OH) (is:List Nat) (fr:Fr) (S:List HP) (idx:List Nat):Option (Fr×List Prop):=
  match kL P β N junk ops hs is fr ⟨[],S,[],true⟩ with
  | some (fr',S')=>some (iD fr' junk idx,S'.aZ)
  | none=>none
theorem p4 {junk:Nat->Value}:∀ {hs:List OH} {is:List Nat} {fr fr':Fr} {S S':SS},kL P β N junk ops hs is fr S=some (fr',S')->∀ p,p∈S.aZ->p∈S'.aZ
  | [],[],fr,fr',S,S',h,p,hp=>by cases h;exact hp
  | h::hs,i::is,fr,fr',S,S',hr,p,hp=>by
    unfold kL at hr
    repeat' split at hr
    all_goals first|(cases hr;done)|skip
    ·rename_i h0 _ _
     exact p4 hr p (Bj h0 p hp)
    exact p4 hr p hp
  | [],_::_,_,_,_,_,h,_,_=>by cases h
  | _::_,[],_,_,_,_,h,_,_=>by cases h
theorem tW {junk:Nat->Value} {w:World}:∀ {hs:List OH} {is:List Nat} {fr fr':Fr} {T T':SS},kL P β N junk ops hs is fr T=some (fr',T')->(∀ p,p∈T'.aZ->p)->T.used=true->T.hps=S →
    gu P ops (NP Q) (Sat β S) l (bM N fr' junk) w->gu P ops (NP Q) (Sat β S) (is.map (fun i=>(true,i))++l) (bM N fr junk) w
  | [],[],fr,fr',T,T',h,ho,hu,hT,hK=>by cases h;exact hK
  | h::hs,i::is,fr,fr',T,T',hr,ho,hu,hT,hK=>by
    unfold kL at hr
    repeat' split at hr
    all_goals first|(cases hr;done)|skip
    ·rename_i o hget _ hwant _ v T1 h0 _ hv
     obtain⟨e1,e2⟩:=qo h0
     rw [List.map_cons,List.cons_append]
     unfold gu
     refine⟨o,v,hget,.inl ⟨by rw [dO];exact hwant,fun w' cE=>?_⟩,?_⟩
     ·rw [dY]
      obtain⟨w2,h1,_,_,h4⟩:=jN h0 (fun p hp=>ho p (p4 hr p hp)) (by rw [hT];exact cE) (fun e=>by rw [hu] at e;cases e)
      obtain⟨ew,_⟩:=h4 rfl
      rw [ew] at h1
      rcases h1 with h1|⟨h1,_⟩
      ·exact h1
      exact absurd h1 (mM hv)
     rw [dM]
     exact tW hr ho (e2.trans hu) (e1.trans hT) hK
    rename_i o hget _ hwant
    rw [List.map_cons,List.cons_append]
    unfold gu
    refine⟨o,undef,hget,.inr ⟨by rw [dO];exact hwant,rfl⟩,?_⟩
    rw [dM]
    exact tW hr ho hu hT hK
  | [],_::_,_,_,_,_,h,_,_,_,_=>by cases h
  | _::_,[],_,_,_,_,h,_,_,_,_=>by cases h
theorem eO.reads (is:List Nat) (hs:List OH) (idx:List Nat) (h:∀ junk,mh P β N junk ops hs is fr S idx=some (fr',aZ)) (ho:kx aZ) (hl:l'=is.map (fun i=>(true,i))++l) (K:eO P β N ops S l fr' hps Q):eO P β N ops S l' fr hps Q:=by
  intro junk w hS
  subst hl
  have h0:=h junk
  unfold mh at h0
  split at h0
  ·rename_i kG S1 h1
   cases h0
   have hK:=K (lk kG junk) w hS
   rw [← ju] at hK
   exact tW h1 (fun p hp=>ho.mem hp) rfl rfl hK
  cases h0
theorem gG (l2:List (Bool×Nat)) (lM:Fr) (is:List Nat) (os:List (Nat×OP)) (K:eO P β N ops S l2 lM hps Q)
    (h:∀ junk,mh P β N junk ops (jB (ic is.length os 0)) is fr S (bn lM)=some (lM,owed (ic is.length os 0)):=by intro _;kernel_rfl) (hl:l'=is.map (fun i=>(true,i))++l2:=by rfl):eO P β N ops S l' fr hps Q:=
  eO.reads is (jB (ic is.length os 0)) (bn lM) h (mO _) hl K
theorem eO.cut {ι:Type} {fr':ι->Fr} {hp':ι->List HP} (pk:List Nat) (hg:gB ops i=true) (h:ak P β N (mH ops i) i fr hps (NP (nM β N fr' hp'))) (hn:nodupB pk=true) (hp:∀ j,bN (hp' j) pk=some S)
    (K:∀ j,eO P β N ops S l (fr' j) (hp' j) Q):eO P β N ops S ((false,i)::l) fr hps Q:=by
  intro junk w hS
  unfold gu
  refine j7 hg (jR (Q':=_) (fun a w ⟨j,fH,ha,cE⟩=>?_) _ (h junk w hS))
  subst ha
  exact⟨.inr (cE.pick hn (hp j)),K j fH w cE⟩
theorem eO.last (hg:gB ops i=true) (h:ak P β N (mH ops i) i fr hps (NP Q)):eO P β N ops S [(false,i)] fr hps Q:=by
  intro junk w hS
  unfold gu
  exact j7 hg (jR (Q':=_) (fun a w hq=>⟨.inl rfl,by unfold gu;exact hq⟩) _ (h junk w hS))
end mix
end
section
open Go.RowKit Go.Maps bq aF
attribute [local irreducible] ak aU af aj
abbrev J7 (cb:Nat) (c:aB):=(pC cb { c with other:=0,mode:=0,uid:=0,gid:=0,sec:=0,nano:=0 }:HP)
abbrev J8 (cb:Nat) (c:aB) (S:aJ) (tk:Nat):=(pC cb { c with other:=0,mode:=0,uid:=0,gid:=0,sec:=0,nano:=0,answer:=(obj S.O tk).id }:HP)
abbrev Wh (cb:Nat) (c:aB) (S:aJ) (tk:Nat):=(pC cb { c with other:=1,mode:=(obj S.O tk).mode,uid:=(obj S.O tk).uid,gid:=0,sec:=0,nano:=0,answer:=(obj S.O tk).id }:HP)
abbrev Wi (cb:Nat) (c:aB) (S:aJ) (tk:Nat):=(pC cb { c with other:=1,mode:=(obj S.O tk).mode,uid:=(obj S.O tk).uid,gid:=(obj S.O tk).gid,sec:=0,nano:=0,answer:=(obj S.O tk).id }:HP)
abbrev Wj (cb:Nat) (c:aB) (S:aJ) (tk:Nat):=(pC cb { c with other:=2,mode:=(obj S.O tk).mode,uid:=(obj S.O tk).uid,gid:=0,sec:=0,nano:=0,answer:=(obj S.O tk).id }:HP)
abbrev Wk (cb:Nat) (c:aB) (S:aJ) (tk:Nat):=(pC cb { c with other:=2,mode:=(obj S.O tk).mode,uid:=(obj S.O tk).uid,gid:=(obj S.O tk).gid,sec:=0,nano:=0,answer:=(obj S.O tk).id }:HP)
abbrev Wl (cb:Nat) (c:aB) (S:aJ) (tk:Nat):=(pC cb { c with other:=3,mode:=(obj S.O tk).mode,uid:=(obj S.O tk).uid,gid:=0,sec:=0,nano:=0,answer:=(obj S.O tk).id }:HP)
abbrev Wm (cb:Nat) (c:aB) (S:aJ) (tk:Nat):=(pC cb { c with other:=3,mode:=(obj S.O tk).mode,uid:=(obj S.O tk).uid,gid:=(obj S.O tk).gid,sec:=0,nano:=0,answer:=(obj S.O tk).id }:HP)
abbrev mI (S:aJ) (tk:Nat):=([(44,vI ((obj S.O tk).uid)),(48,vI ((obj S.O tk).gid)),(52,.agg #[vI ((obj S.O tk).sec),vI ((obj S.O tk).nano)])]:Fr)
abbrev Qe (cb:Nat) (S:aJ) (tk:Nat):=([(25,vP cb),(26,vP cb),(27,vP cb),(28,vP cb),(29,vP cb),(30,vP cb),(34,vI ((obj S.O tk).id))]:Fr)
abbrev Em (cb:Nat) (S:aJ) (tk:Nat):=([(30,vP cb),(48,vI ((obj S.O tk).gid)),(52,.agg #[vI ((obj S.O tk).sec),vI ((obj S.O tk).nano)])]:Fr)
abbrev r8 (cb:Nat):=([(27,vP cb),(28,vP cb),(29,vP cb),(30,vP cb)]:Fr)
abbrev Qf (S:aJ) (tk:Nat):=([(40,vI ((obj S.O tk).mode)),(44,vI ((obj S.O tk).uid)),(48,vI ((obj S.O tk).gid)),(52,.agg #[vI ((obj S.O tk).sec),vI ((obj S.O tk).nano)])]:Fr)
abbrev En (f:Nat) (m:Nat) (t) (S:aJ) (L:HL) (cb:Nat) (c) (R:bW):=([pF f m t S.X,pI m L S.idx,pO S.O L,pD S.O L,pE S.O L,pC cb c,.abs R]:List HP)
abbrev Eo:=([(2,vI 0),(6,vI 0),(7,vI 0),(8,vI 0),(9,vI 0),(10,vI 0)]:Fr)
abbrev Ep (t)(c:aB):=([(11,vP t),(15,vI (c.handle))]:Fr)
abbrev Er (cb:Nat) (S:aJ) (tk:Nat):=([(28,vP cb),(29,vP cb),(30,vP cb),(40,vI ((obj S.O tk).mode))]:Fr)
abbrev Qg (S:aJ) (tk:Nat) (cb:Nat):=([(52,.agg #[vI ((obj S.O tk).sec),vI ((obj S.O tk).nano)]),(64,.pointer (some ⟨cb,9,none⟩))]:Fr)
abbrev Xu (L:HL) (tk:Nat):=([(5,.iface 162 (vP (L.b tk))),(6,vI 0)]:Fr)
abbrev Xv (L:HL) (tk:Nat):=([(5,.iface 169 (vP (L.b tk))),(6,vI 0)]:Fr)
abbrev Qh (S:aJ) (tk:Nat):=([(9,vI ((obj S.O tk).sec)),(10,vI ((obj S.O tk).nano))]:Fr)
theorem BS {β:Bs} (S:aJ) (L:HL) (hI:Inv S) (cb:Nat) (c:aB) (ot:Option Th) (ht:ot=none\/(∃ k,ot=some ⟨k,1⟩/\Live S.idx ⟨k,1⟩)\/(∃ k,ot=some ⟨k,2⟩/\Live S.idx ⟨k,2⟩)\/∃ k,ot=some ⟨k,3⟩/\Live S.idx ⟨k,3⟩) :
    Spec Tryz.prog β 200 #[vP cb,(match ot with|none=>.nilIface|some th=>eu L th)] [pO S.O L,pC cb c] (fun v l=>v=.tuple #[]/\l=[pO S.O L,.blk cb (dr (qV S.O c ot)) 88]):=by
 refine Spec.enter Tryz.func200 rfl Tryz.ntmps200 (Nat.le_of_ble_eq_true rfl) (fun R=>?_)
 refine af.seq ?_
 rcases ht with rfl|⟨tk,rfl,hlv⟩|⟨tk,rfl,hlv⟩|⟨tk,rfl,hlv⟩
 ·refine af.region (gC 21 [] [(8,a_ 1 cb),(11,a_ 1 cb),(14,a_ 1 cb),(17,a_ 1 cb),(20,A_ 1 cb 2)] [(1,(Eo))] ?_)
  refine NN (af.seq (SR (gK 2 [(22,.bool true)] [] ?_)))
  refine NN (CT (af.ret (aj.aq ?_)))
  exact RT (.tuple #[]) [0,1,2] (⟨rfl,rfl⟩)
 ·have hkt:(obj S.O tk).kind=1:=hI.kind hlv
  refine af.region (gC 21 [] [(8,a_ 1 cb),(11,a_ 1 cb),(14,a_ 1 cb),(17,a_ 1 cb),(20,A_ 1 cb 2)] [(1,(Eo))] ?_)
  refine NN (af.seq (SR (gK 2 [(22,.bool false)] [] ?_)))
  refine NN (CF (af.skip (NX (SR (gK 1 [(23,.iface 162 (vP (L.b tk)))] [] ?_)))))
  refine gL [] (dN (L.b tk)) ?_
  rintro _ _ ⟨rfl,rfl⟩
  refine gK 1 [(4,vP (L.b tk))] [] ?_
  refine NN (af.ck (S:=[pO S.O L]) [0,1,2,3,4,5,6,7,8,9,10,12,13,14,15,16,17,18,19,20,21,22,23,24,25,26,27,11,28,29,30,31,32,33,34,35,36,37,38,39,40,41,42,43,44,45] 27 [0] (by kernel_rfl) (by kernel_rfl) rfl (by kernel_rfl) ?_)
  refine gR 0 [11,28,29,30,31,32,33,34,35,36,37,38,39,40,41,42,43,44,45] (Qe cb S tk++[(35,.iface 162 (vP (L.b tk)))]++Qf S tk) [0,1,2,3,4,5,6,7,8,9,10,12,13,14,15,16,17,18,19,20,21,22,23,24,25,26,27] [(9,v_ 0 (rZ L hkt)),(14,v_ 0 (tO L hkt)),(18,v_ 0 (z8 L hkt)),(22,v_ 0 (Ab L hkt)),(26,p_ ⟨[.view 0 (.int .i64 ((obj S.O tk).sec)),.view 0 (.int .i64 ((obj S.O tk).nano))],none,none,none,none⟩ [(∀ F w,(aG (bS S.O L)).h F w->w.cell? ⟨(L.b tk),5,none⟩=some (vI ((obj S.O tk).nano))),(∀ F w,(aG (bS S.O L)).h F w->w.cell? ⟨(L.b tk),4,none⟩=some (vI ((obj S.O tk).sec)))] ⟨eV (by rw [hkt];decide) (rfl),eV (by rw [hkt];decide) (rfl),trivial⟩)] ?_
  refine mL [0] [] (qE (vP (L.b tk))) ?_ (by rintro _ _ ⟨rfl,rfl⟩;rfl)
  rintro _ _ ⟨rfl,rfl⟩
  refine aQ.cut (ι:=Unit) (fr':=fun (_:Unit)=>([(26,vP cb)]++r8 cb++[(34,vI ((obj S.O tk).id)),(36,vI 1),(40,vI ((obj S.O tk).mode))]++mI S tk++[(53,vP cb)])) (hp':=fun (_:Unit)=>[pO S.O L,J7 cb c,.abs R]) [0] rfl rfl ?_ rfl (fun _=>by kernel_rfl) ?_
  ·refine gK 1 [(53,vP cb)] [] ?_
   refine NL ?_
   exact MD () [26,27,28,29,30,34,36,40,44,48,52,53] [0,1,2]
  rintro _
  refine aQ.cut (ι:=Unit) (fr':=fun (_:Unit)=>([(26,vP cb)]++r8 cb++[(34,vI ((obj S.O tk).id)),(36,vI 1),(40,vI ((obj S.O tk).mode))]++mI S tk++[(54,.pointer (some ⟨cb,12,none⟩))])) (hp':=fun (_:Unit)=>[pO S.O L,J7 cb c,.abs R]) [0] rfl rfl ?_ rfl (fun _=>by kernel_rfl) ?_
  ·refine gK 1 [(54,.pointer (some ⟨cb,12,none⟩))] [] ?_
   refine NL ?_
   exact MD () [26,27,28,29,30,34,36,40,44,48,52,54] [0,1,2]
  rintro _
  refine mC [0] [] [(0,a_ 1 cb)] [(1,[(12,vI ((obj S.O tk).id))])] ?_
  refine aQ.cut (ι:=Unit) (fr':=fun (_:Unit)=>(r8 cb++[(36,vI 1),(40,vI ((obj S.O tk).mode))]++mI S tk++[(55,vP cb)])) (hp':=fun (_:Unit)=>[pO S.O L,J8 cb c S tk,.abs R]) [0] rfl rfl ?_ rfl (fun _=>by kernel_rfl) ?_
  ·refine gK 1 [(55,vP cb)] [] ?_
   refine NL ?_
   exact MD () [27,28,29,30,36,40,44,48,52,55] [0,1,2]
  rintro _
  refine aQ.cut (ι:=Unit) (fr':=fun (_:Unit)=>(r8 cb++[(36,vI 1),(40,vI ((obj S.O tk).mode))]++mI S tk++[(56,.pointer (some ⟨cb,2,none⟩))])) (hp':=fun (_:Unit)=>[pO S.O L,J8 cb c S tk,.abs R]) [0] rfl rfl ?_ rfl (fun _=>by kernel_rfl) ?_
  ·refine gK 1 [(56,.pointer (some ⟨cb,2,none⟩))] [] ?_
   refine NL ?_
   exact MD () [27,28,29,30,36,40,44,48,52,56] [0,1,2]
  rintro _
  refine mC [0] [] [(0,a_ 1 cb)] [(1,[(2,vI 1)])] ?_
  refine aQ.cut (ι:=Unit) (fr':=fun (_:Unit)=>(Er cb S tk++mI S tk++[(57,vP cb)])) (hp':=fun (_:Unit)=>[pO S.O L,pC cb { c with other:=1,mode:=0,uid:=0,gid:=0,sec:=0,nano:=0,answer:=(obj S.O tk).id },.abs R]) [0] rfl rfl ?_ rfl (fun _=>by kernel_rfl) ?_
  ·refine gK 1 [(57,vP cb)] [] ?_
   refine NL ?_
   exact MD () [28,29,30,40,44,48,52,57] [0,1,2]
  rintro _
  refine aQ.cut (ι:=Unit) (fr':=fun (_:Unit)=>(Er cb S tk++mI S tk++[(58,.pointer (some ⟨cb,6,none⟩))])) (hp':=fun (_:Unit)=>[pO S.O L,pC cb { c with other:=1,mode:=0,uid:=0,gid:=0,sec:=0,nano:=0,answer:=(obj S.O tk).id },.abs R]) [0] rfl rfl ?_ rfl (fun _=>by kernel_rfl) ?_
  ·refine gK 1 [(58,.pointer (some ⟨cb,6,none⟩))] [] ?_
   refine NL ?_
   exact MD () [28,29,30,40,44,48,52,58] [0,1,2]
  rintro _
  refine mC [0] [] [(0,a_ 1 cb)] [(1,[(6,vI ((obj S.O tk).mode))])] ?_
  refine aQ.cut (ι:=Unit) (fr':=fun (_:Unit)=>([(29,vP cb),(30,vP cb)]++mI S tk++[(59,vP cb)])) (hp':=fun (_:Unit)=>[pO S.O L,pC cb { c with other:=1,mode:=(obj S.O tk).mode,uid:=0,gid:=0,sec:=0,nano:=0,answer:=(obj S.O tk).id },.abs R]) [0] rfl rfl ?_ rfl (fun _=>by kernel_rfl) ?_
  ·refine gK 1 [(59,vP cb)] [] ?_
   refine NL ?_
   exact MD () [29,30,44,48,52,59] [0,1,2]
  rintro _
  refine aQ.cut (ι:=Unit) (fr':=fun (_:Unit)=>([(29,vP cb),(30,vP cb)]++mI S tk++[(60,.pointer (some ⟨cb,7,none⟩))])) (hp':=fun (_:Unit)=>[pO S.O L,pC cb { c with other:=1,mode:=(obj S.O tk).mode,uid:=0,gid:=0,sec:=0,nano:=0,answer:=(obj S.O tk).id },.abs R]) [0] rfl rfl ?_ rfl (fun _=>by kernel_rfl) ?_
  ·refine gK 1 [(60,.pointer (some ⟨cb,7,none⟩))] [] ?_
   refine NL ?_
   exact MD () [29,30,44,48,52,60] [0,1,2]
  rintro _
  refine mC [0] [] [(0,a_ 1 cb)] [(1,[(7,vI ((obj S.O tk).uid))])] ?_
  refine aQ.cut (ι:=Unit) (fr':=fun (_:Unit)=>(Em cb S tk++[(61,vP cb)])) (hp':=fun (_:Unit)=>[pO S.O L,Wh cb c S tk,.abs R]) [0] rfl rfl ?_ rfl (fun _=>by kernel_rfl) ?_
  ·refine gK 1 [(61,vP cb)] [] ?_
   refine NL ?_
   exact MD () [30,48,52,61] [0,1,2]
  rintro _
  refine aQ.cut (ι:=Unit) (fr':=fun (_:Unit)=>(Em cb S tk++[(62,.pointer (some ⟨cb,8,none⟩))])) (hp':=fun (_:Unit)=>[pO S.O L,Wh cb c S tk,.abs R]) [0] rfl rfl ?_ rfl (fun _=>by kernel_rfl) ?_
  ·refine gK 1 [(62,.pointer (some ⟨cb,8,none⟩))] [] ?_
   refine NL ?_
   exact MD () [30,48,52,62] [0,1,2]
  rintro _
  refine mC [0] [] [(0,a_ 1 cb)] [(1,[(8,vI ((obj S.O tk).gid))])] ?_
  refine aQ.cut (ι:=Unit) (fr':=fun (_:Unit)=>[(52,.agg #[vI ((obj S.O tk).sec),vI ((obj S.O tk).nano)]),(63,vP cb)]) (hp':=fun (_:Unit)=>[pO S.O L,Wi cb c S tk,.abs R]) [0] rfl rfl ?_ rfl (fun _=>by kernel_rfl) ?_
  ·refine gK 1 [(63,vP cb)] [] ?_
   refine NL ?_
   exact MD () [52,63] [0,1,2]
  rintro _
  refine aQ.cut (ι:=Unit) (fr':=fun (_:Unit)=>(Qg S tk cb)) (hp':=fun (_:Unit)=>[pO S.O L,Wi cb c S tk,.abs R]) [0] rfl rfl ?_ rfl (fun _=>by kernel_rfl) ?_
  ·refine gK 1 [(64,.pointer (some ⟨cb,9,none⟩))] [] ?_
   refine NL ?_
   exact MD () [52,64] [0,1,2]
  rintro _
  refine aQ.last rfl rfl ?_
  refine gC 1 [] [(0,A_ 1 cb 2)] [(1,(Qh S tk))] ?_
  refine NL (aj.np ?_)
  exact RF (.tuple #[]) [0,1,2] (⟨rfl,rfl⟩)
 ·have hkt:(obj S.O tk).kind=2:=hI.kind hlv
  refine af.region (gC 21 [] [(8,a_ 1 cb),(11,a_ 1 cb),(14,a_ 1 cb),(17,a_ 1 cb),(20,A_ 1 cb 2)] [(1,(Eo))] ?_)
  refine NN (af.seq (SR (gK 2 [(22,.bool false)] [] ?_)))
  refine NN (CF (af.skip (NX (SR (gK 1 [(23,.iface 169 (vP (L.b tk)))] [] ?_)))))
  refine gL [] (dN (L.b tk)) ?_
  rintro _ _ ⟨rfl,rfl⟩
  refine gK 1 [(4,vP (L.b tk))] [] ?_
  refine NN (af.ck (S:=[pO S.O L]) [0,1,2,3,4,5,6,7,8,9,10,12,13,14,15,16,17,18,19,20,21,22,23,24,25,26,27,11,28,29,30,31,32,33,34,35,36,37,38,39,40,41,42,43,44,45] 27 [0] (by kernel_rfl) (by kernel_rfl) rfl (by kernel_rfl) ?_)
  refine gR 0 [11,28,29,30,31,32,33,34,35,36,37,38,39,40,41,42,43,44,45] (Qe cb S tk++[(35,.iface 169 (vP (L.b tk)))]++Qf S tk) [0,1,2,3,4,5,6,7,8,9,10,12,13,14,15,16,17,18,19,20,21,22,23,24,25,26,27] [(9,v_ 0 (rZ L hkt)),(14,v_ 0 (tO L hkt)),(18,v_ 0 (z8 L hkt)),(22,v_ 0 (Ab L hkt)),(26,p_ ⟨[.view 0 (.int .i64 ((obj S.O tk).sec)),.view 0 (.int .i64 ((obj S.O tk).nano))],none,none,none,none⟩ [(∀ F w,(aG (bS S.O L)).h F w->w.cell? ⟨(L.b tk),5,none⟩=some (vI ((obj S.O tk).nano))),(∀ F w,(aG (bS S.O L)).h F w->w.cell? ⟨(L.b tk),4,none⟩=some (vI ((obj S.O tk).sec)))] ⟨eV (by rw [hkt];decide) (rfl),eV (by rw [hkt];decide) (rfl),trivial⟩)] ?_
  refine mL [0] [] (qF (vP (L.b tk))) ?_ (by rintro _ _ ⟨rfl,rfl⟩;rfl)
  rintro _ _ ⟨rfl,rfl⟩
  refine aQ.cut (ι:=Unit) (fr':=fun (_:Unit)=>([(26,vP cb)]++r8 cb++[(34,vI ((obj S.O tk).id)),(36,vI 2),(40,vI ((obj S.O tk).mode))]++mI S tk++[(53,vP cb)])) (hp':=fun (_:Unit)=>[pO S.O L,J7 cb c,.abs R]) [0] rfl rfl ?_ rfl (fun _=>by kernel_rfl) ?_
  ·refine gK 1 [(53,vP cb)] [] ?_
   refine NL ?_
   exact MD () [26,27,28,29,30,34,36,40,44,48,52,53] [0,1,2]
  rintro _
  refine aQ.cut (ι:=Unit) (fr':=fun (_:Unit)=>([(26,vP cb)]++r8 cb++[(34,vI ((obj S.O tk).id)),(36,vI 2),(40,vI ((obj S.O tk).mode))]++mI S tk++[(54,.pointer (some ⟨cb,12,none⟩))])) (hp':=fun (_:Unit)=>[pO S.O L,J7 cb c,.abs R]) [0] rfl rfl ?_ rfl (fun _=>by kernel_rfl) ?_
  ·refine gK 1 [(54,.pointer (some ⟨cb,12,none⟩))] [] ?_
   refine NL ?_
   exact MD () [26,27,28,29,30,34,36,40,44,48,52,54] [0,1,2]
  rintro _
  refine mC [0] [] [(0,a_ 1 cb)] [(1,[(12,vI ((obj S.O tk).id))])] ?_
  refine aQ.cut (ι:=Unit) (fr':=fun (_:Unit)=>(r8 cb++[(36,vI 2),(40,vI ((obj S.O tk).mode))]++mI S tk++[(55,vP cb)])) (hp':=fun (_:Unit)=>[pO S.O L,J8 cb c S tk,.abs R]) [0] rfl rfl ?_ rfl (fun _=>by kernel_rfl) ?_
  ·refine gK 1 [(55,vP cb)] [] ?_
   refine NL ?_
   exact MD () [27,28,29,30,36,40,44,48,52,55] [0,1,2]
  rintro _
  refine aQ.cut (ι:=Unit) (fr':=fun (_:Unit)=>(r8 cb++[(36,vI 2),(40,vI ((obj S.O tk).mode))]++mI S tk++[(56,.pointer (some ⟨cb,2,none⟩))])) (hp':=fun (_:Unit)=>[pO S.O L,J8 cb c S tk,.abs R]) [0] rfl rfl ?_ rfl (fun _=>by kernel_rfl) ?_
  ·refine gK 1 [(56,.pointer (some ⟨cb,2,none⟩))] [] ?_
   refine NL ?_
   exact MD () [27,28,29,30,36,40,44,48,52,56] [0,1,2]
  rintro _
  refine mC [0] [] [(0,a_ 1 cb)] [(1,[(2,vI 2)])] ?_
  refine aQ.cut (ι:=Unit) (fr':=fun (_:Unit)=>(Er cb S tk++mI S tk++[(57,vP cb)])) (hp':=fun (_:Unit)=>[pO S.O L,pC cb { c with other:=2,mode:=0,uid:=0,gid:=0,sec:=0,nano:=0,answer:=(obj S.O tk).id },.abs R]) [0] rfl rfl ?_ rfl (fun _=>by kernel_rfl) ?_
  ·refine gK 1 [(57,vP cb)] [] ?_
   refine NL ?_
   exact MD () [28,29,30,40,44,48,52,57] [0,1,2]
  rintro _
  refine aQ.cut (ι:=Unit) (fr':=fun (_:Unit)=>(Er cb S tk++mI S tk++[(58,.pointer (some ⟨cb,6,none⟩))])) (hp':=fun (_:Unit)=>[pO S.O L,pC cb { c with other:=2,mode:=0,uid:=0,gid:=0,sec:=0,nano:=0,answer:=(obj S.O tk).id },.abs R]) [0] rfl rfl ?_ rfl (fun _=>by kernel_rfl) ?_
  ·refine gK 1 [(58,.pointer (some ⟨cb,6,none⟩))] [] ?_
   refine NL ?_
   exact MD () [28,29,30,40,44,48,52,58] [0,1,2]
  rintro _
  refine mC [0] [] [(0,a_ 1 cb)] [(1,[(6,vI ((obj S.O tk).mode))])] ?_
  refine aQ.cut (ι:=Unit) (fr':=fun (_:Unit)=>([(29,vP cb),(30,vP cb)]++mI S tk++[(59,vP cb)])) (hp':=fun (_:Unit)=>[pO S.O L,pC cb { c with other:=2,mode:=(obj S.O tk).mode,uid:=0,gid:=0,sec:=0,nano:=0,answer:=(obj S.O tk).id },.abs R]) [0] rfl rfl ?_ rfl (fun _=>by kernel_rfl) ?_
  ·refine gK 1 [(59,vP cb)] [] ?_
   refine NL ?_
   exact MD () [29,30,44,48,52,59] [0,1,2]
  rintro _
  refine aQ.cut (ι:=Unit) (fr':=fun (_:Unit)=>([(29,vP cb),(30,vP cb)]++mI S tk++[(60,.pointer (some ⟨cb,7,none⟩))])) (hp':=fun (_:Unit)=>[pO S.O L,pC cb { c with other:=2,mode:=(obj S.O tk).mode,uid:=0,gid:=0,sec:=0,nano:=0,answer:=(obj S.O tk).id },.abs R]) [0] rfl rfl ?_ rfl (fun _=>by kernel_rfl) ?_
  ·refine gK 1 [(60,.pointer (some ⟨cb,7,none⟩))] [] ?_
   refine NL ?_
   exact MD () [29,30,44,48,52,60] [0,1,2]
  rintro _
  refine mC [0] [] [(0,a_ 1 cb)] [(1,[(7,vI ((obj S.O tk).uid))])] ?_
  refine aQ.cut (ι:=Unit) (fr':=fun (_:Unit)=>(Em cb S tk++[(61,vP cb)])) (hp':=fun (_:Unit)=>[pO S.O L,Wj cb c S tk,.abs R]) [0] rfl rfl ?_ rfl (fun _=>by kernel_rfl) ?_
  ·refine gK 1 [(61,vP cb)] [] ?_
   refine NL ?_
   exact MD () [30,48,52,61] [0,1,2]
  rintro _
  refine aQ.cut (ι:=Unit) (fr':=fun (_:Unit)=>(Em cb S tk++[(62,.pointer (some ⟨cb,8,none⟩))])) (hp':=fun (_:Unit)=>[pO S.O L,Wj cb c S tk,.abs R]) [0] rfl rfl ?_ rfl (fun _=>by kernel_rfl) ?_
  ·refine gK 1 [(62,.pointer (some ⟨cb,8,none⟩))] [] ?_
   refine NL ?_
   exact MD () [30,48,52,62] [0,1,2]
  rintro _
  refine mC [0] [] [(0,a_ 1 cb)] [(1,[(8,vI ((obj S.O tk).gid))])] ?_
  refine aQ.cut (ι:=Unit) (fr':=fun (_:Unit)=>[(52,.agg #[vI ((obj S.O tk).sec),vI ((obj S.O tk).nano)]),(63,vP cb)]) (hp':=fun (_:Unit)=>[pO S.O L,Wk cb c S tk,.abs R]) [0] rfl rfl ?_ rfl (fun _=>by kernel_rfl) ?_
  ·refine gK 1 [(63,vP cb)] [] ?_
   refine NL ?_
   exact MD () [52,63] [0,1,2]
  rintro _
  refine aQ.cut (ι:=Unit) (fr':=fun (_:Unit)=>(Qg S tk cb)) (hp':=fun (_:Unit)=>[pO S.O L,Wk cb c S tk,.abs R]) [0] rfl rfl ?_ rfl (fun _=>by kernel_rfl) ?_
  ·refine gK 1 [(64,.pointer (some ⟨cb,9,none⟩))] [] ?_
   refine NL ?_
   exact MD () [52,64] [0,1,2]
  rintro _
  refine aQ.last rfl rfl ?_
  refine gC 1 [] [(0,A_ 1 cb 2)] [(1,(Qh S tk))] ?_
  refine NL (aj.np ?_)
  exact RF (.tuple #[]) [0,1,2] (⟨rfl,rfl⟩)
 have hkt:(obj S.O tk).kind=3:=hI.kind hlv
 refine af.region (gC 21 [] [(8,a_ 1 cb),(11,a_ 1 cb),(14,a_ 1 cb),(17,a_ 1 cb),(20,A_ 1 cb 2)] [(1,(Eo))] ?_)
 refine NN (af.seq (SR (gK 2 [(22,.bool false)] [] ?_)))
 refine NN (CF (af.skip (NX (SR (gK 1 [(23,.iface 166 (vP (L.b tk)))] [] ?_)))))
 refine gL [] (dN (L.b tk)) ?_
 rintro _ _ ⟨rfl,rfl⟩
 refine gK 1 [(4,vP (L.b tk))] [] ?_
 refine NN (af.ck (S:=[pO S.O L]) [0,1,2,3,4,5,6,7,8,9,10,12,13,14,15,16,17,18,19,20,21,22,23,24,25,26,27,11,28,29,30,31,32,33,34,35,36,37,38,39,40,41,42,43,44,45] 27 [0] (by kernel_rfl) (by kernel_rfl) rfl (by kernel_rfl) ?_)
 refine gR 0 [11,28,29,30,31,32,33,34,35,36,37,38,39,40,41,42,43,44,45] (Qe cb S tk++[(35,.iface 166 (vP (L.b tk)))]++Qf S tk) [0,1,2,3,4,5,6,7,8,9,10,12,13,14,15,16,17,18,19,20,21,22,23,24,25,26,27] [(9,v_ 0 (rZ L hkt)),(14,v_ 0 (tO L hkt)),(18,v_ 0 (z8 L hkt)),(22,v_ 0 (Ab L hkt)),(26,p_ ⟨[.view 0 (.int .i64 ((obj S.O tk).sec)),.view 0 (.int .i64 ((obj S.O tk).nano))],none,none,none,none⟩ [(∀ F w,(aG (bS S.O L)).h F w->w.cell? ⟨(L.b tk),5,none⟩=some (vI ((obj S.O tk).nano))),(∀ F w,(aG (bS S.O L)).h F w->w.cell? ⟨(L.b tk),4,none⟩=some (vI ((obj S.O tk).sec)))] ⟨eV (by rw [hkt];decide) (rfl),eV (by rw [hkt];decide) (rfl),trivial⟩)] ?_
 refine mL [0] [] (qG (vP (L.b tk))) ?_ (by rintro _ _ ⟨rfl,rfl⟩;rfl)
 rintro _ _ ⟨rfl,rfl⟩
 refine aQ.cut (ι:=Unit) (fr':=fun (_:Unit)=>([(26,vP cb)]++r8 cb++[(34,vI ((obj S.O tk).id)),(36,vI 3),(40,vI ((obj S.O tk).mode))]++mI S tk++[(53,vP cb)])) (hp':=fun (_:Unit)=>[pO S.O L,J7 cb c,.abs R]) [0] rfl rfl ?_ rfl (fun _=>by kernel_rfl) ?_
 ·refine gK 1 [(53,vP cb)] [] ?_
  refine NL ?_
  exact MD () [26,27,28,29,30,34,36,40,44,48,52,53] [0,1,2]
 rintro _
 refine aQ.cut (ι:=Unit) (fr':=fun (_:Unit)=>([(26,vP cb)]++r8 cb++[(34,vI ((obj S.O tk).id)),(36,vI 3),(40,vI ((obj S.O tk).mode))]++mI S tk++[(54,.pointer (some ⟨cb,12,none⟩))])) (hp':=fun (_:Unit)=>[pO S.O L,J7 cb c,.abs R]) [0] rfl rfl ?_ rfl (fun _=>by kernel_rfl) ?_
 ·refine gK 1 [(54,.pointer (some ⟨cb,12,none⟩))] [] ?_
  refine NL ?_
  exact MD () [26,27,28,29,30,34,36,40,44,48,52,54] [0,1,2]
 rintro _
 refine mC [0] [] [(0,a_ 1 cb)] [(1,[(12,vI ((obj S.O tk).id))])] ?_
 refine aQ.cut (ι:=Unit) (fr':=fun (_:Unit)=>(r8 cb++[(36,vI 3),(40,vI ((obj S.O tk).mode))]++mI S tk++[(55,vP cb)])) (hp':=fun (_:Unit)=>[pO S.O L,J8 cb c S tk,.abs R]) [0] rfl rfl ?_ rfl (fun _=>by kernel_rfl) ?_
 ·refine gK 1 [(55,vP cb)] [] ?_
  refine NL ?_
  exact MD () [27,28,29,30,36,40,44,48,52,55] [0,1,2]
 rintro _
 refine aQ.cut (ι:=Unit) (fr':=fun (_:Unit)=>(r8 cb++[(36,vI 3),(40,vI ((obj S.O tk).mode))]++mI S tk++[(56,.pointer (some ⟨cb,2,none⟩))])) (hp':=fun (_:Unit)=>[pO S.O L,J8 cb c S tk,.abs R]) [0] rfl rfl ?_ rfl (fun _=>by kernel_rfl) ?_
 ·refine gK 1 [(56,.pointer (some ⟨cb,2,none⟩))] [] ?_
  refine NL ?_
  exact MD () [27,28,29,30,36,40,44,48,52,56] [0,1,2]
 rintro _
 refine mC [0] [] [(0,a_ 1 cb)] [(1,[(2,vI 3)])] ?_
 refine aQ.cut (ι:=Unit) (fr':=fun (_:Unit)=>(Er cb S tk++mI S tk++[(57,vP cb)])) (hp':=fun (_:Unit)=>[pO S.O L,pC cb { c with other:=3,mode:=0,uid:=0,gid:=0,sec:=0,nano:=0,answer:=(obj S.O tk).id },.abs R]) [0] rfl rfl ?_ rfl (fun _=>by kernel_rfl) ?_
 ·refine gK 1 [(57,vP cb)] [] ?_
  refine NL ?_
  exact MD () [28,29,30,40,44,48,52,57] [0,1,2]
 rintro _
 refine aQ.cut (ι:=Unit) (fr':=fun (_:Unit)=>(Er cb S tk++mI S tk++[(58,.pointer (some ⟨cb,6,none⟩))])) (hp':=fun (_:Unit)=>[pO S.O L,pC cb { c with other:=3,mode:=0,uid:=0,gid:=0,sec:=0,nano:=0,answer:=(obj S.O tk).id },.abs R]) [0] rfl rfl ?_ rfl (fun _=>by kernel_rfl) ?_
 ·refine gK 1 [(58,.pointer (some ⟨cb,6,none⟩))] [] ?_
  refine NL ?_
  exact MD () [28,29,30,40,44,48,52,58] [0,1,2]
 rintro _
 refine mC [0] [] [(0,a_ 1 cb)] [(1,[(6,vI ((obj S.O tk).mode))])] ?_
 refine aQ.cut (ι:=Unit) (fr':=fun (_:Unit)=>([(29,vP cb),(30,vP cb)]++mI S tk++[(59,vP cb)])) (hp':=fun (_:Unit)=>[pO S.O L,pC cb { c with other:=3,mode:=(obj S.O tk).mode,uid:=0,gid:=0,sec:=0,nano:=0,answer:=(obj S.O tk).id },.abs R]) [0] rfl rfl ?_ rfl (fun _=>by kernel_rfl) ?_
 ·refine gK 1 [(59,vP cb)] [] ?_
  refine NL ?_
  exact MD () [29,30,44,48,52,59] [0,1,2]
 rintro _
 refine aQ.cut (ι:=Unit) (fr':=fun (_:Unit)=>([(29,vP cb),(30,vP cb)]++mI S tk++[(60,.pointer (some ⟨cb,7,none⟩))])) (hp':=fun (_:Unit)=>[pO S.O L,pC cb { c with other:=3,mode:=(obj S.O tk).mode,uid:=0,gid:=0,sec:=0,nano:=0,answer:=(obj S.O tk).id },.abs R]) [0] rfl rfl ?_ rfl (fun _=>by kernel_rfl) ?_
 ·refine gK 1 [(60,.pointer (some ⟨cb,7,none⟩))] [] ?_
  refine NL ?_
  exact MD () [29,30,44,48,52,60] [0,1,2]
 rintro _
 refine mC [0] [] [(0,a_ 1 cb)] [(1,[(7,vI ((obj S.O tk).uid))])] ?_
 refine aQ.cut (ι:=Unit) (fr':=fun (_:Unit)=>(Em cb S tk++[(61,vP cb)])) (hp':=fun (_:Unit)=>[pO S.O L,Wl cb c S tk,.abs R]) [0] rfl rfl ?_ rfl (fun _=>by kernel_rfl) ?_
 ·refine gK 1 [(61,vP cb)] [] ?_
  refine NL ?_
  exact MD () [30,48,52,61] [0,1,2]
 rintro _
 refine aQ.cut (ι:=Unit) (fr':=fun (_:Unit)=>(Em cb S tk++[(62,.pointer (some ⟨cb,8,none⟩))])) (hp':=fun (_:Unit)=>[pO S.O L,Wl cb c S tk,.abs R]) [0] rfl rfl ?_ rfl (fun _=>by kernel_rfl) ?_
 ·refine gK 1 [(62,.pointer (some ⟨cb,8,none⟩))] [] ?_
  refine NL ?_
  exact MD () [30,48,52,62] [0,1,2]
 rintro _
 refine mC [0] [] [(0,a_ 1 cb)] [(1,[(8,vI ((obj S.O tk).gid))])] ?_
 refine aQ.cut (ι:=Unit) (fr':=fun (_:Unit)=>[(52,.agg #[vI ((obj S.O tk).sec),vI ((obj S.O tk).nano)]),(63,vP cb)]) (hp':=fun (_:Unit)=>[pO S.O L,Wm cb c S tk,.abs R]) [0] rfl rfl ?_ rfl (fun _=>by kernel_rfl) ?_
 ·refine gK 1 [(63,vP cb)] [] ?_
  refine NL ?_
  exact MD () [52,63] [0,1,2]
 rintro _
 refine aQ.cut (ι:=Unit) (fr':=fun (_:Unit)=>(Qg S tk cb)) (hp':=fun (_:Unit)=>[pO S.O L,Wm cb c S tk,.abs R]) [0] rfl rfl ?_ rfl (fun _=>by kernel_rfl) ?_
 ·refine gK 1 [(64,.pointer (some ⟨cb,9,none⟩))] [] ?_
  refine NL ?_
  exact MD () [52,64] [0,1,2]
 rintro _
 refine aQ.last rfl rfl ?_
 refine gC 1 [] [(0,A_ 1 cb 2)] [(1,(Qh S tk))] ?_
 refine NL (aj.np ?_)
 exact RF (.tuple #[]) [0,1,2] (⟨rfl,rfl⟩)
theorem LC {β:Bs} (S:aJ) (L:HL) (f m t:Nat) (hI:Inv S) (cb:Nat) (c:aB) (hC:lg β c) :
    Spec Tryz.prog β 182 #[vP f,vP cb] ((pA f m t L S)++[pC cb c]) (fun v l=>∃ L2,v=vI (kI S c).1/\l=((pA f m t L2 ((kI S c).2.1))++[.blk cb (dr ((kI S c).2.2)) 88])):=by
 have hX:=hI.hX
 refine Spec.enter Tryz.func182 rfl Tryz.ntmps182 (Nat.le_of_ble_eq_true rfl) (fun R=>?_)
 refine af.seq ?_
 rcases hI.hand c.handle with jw|⟨tk,jw,hlv⟩|⟨tk,jw,hlv⟩
 ·refine af.region (gK 1 [] [] ?_)
  refine NN (af.seq (af.eM (by kernel_rfl) (by kernel_rfl) ?_))
  refine gQ 8 (Ep t c) [(3,a_ 0 f),(7,a_ 6 cb)] ?_
  refine aU.call (f:=198) (args:=#[vP t,vI (c.handle)]) (d:=(some 16)) (pre:=[xQ t S L]) (R:=(En f m t S L cb c R)) (pk:=[2,0,1,3,4,5,6,7]) (xC:=[1,2,0,3,4,5,6,7]) (v0:=.tuple #[.nilIface,vI 131]) (fun _=>by kernel_rfl) (yH t S.X.cH S.aD (bH L S.us) c.handle hC.hw (wL jw)) rfl (by kernel_rfl) rfl (by kernel_rfl) (fun _ _ h=>h) ?_
  refine gQ 5 [(5,.nilIface),(6,vI 131)] [] ?_
  refine NQ (NX (SR ?_))
  refine gK 2 [(19,vP cb),(20,.nilIface)] [] ?_
  refine gL [3,6] (BS S L hI cb c none (.inl rfl)) ?_
  rintro _ _ ⟨rfl,rfl⟩
  refine NS (gK 2 [(4,vI 131)] [] ?_)
  refine NN (af.ret ?_)
  exact RT (vI 131) [2,3,4,0,5,6,1,7] (⟨L,by rw [show (kI S c)=(131,S,qV S.O c none) by unfold kI;rw [jw]]<;>exact⟨rfl,rfl⟩⟩)
 ·have hkt:(obj S.O tk).kind=1:=hI.kind hlv
  refine af.region (gK 1 [] [] ?_)
  refine NN (af.seq (af.eM (by kernel_rfl) (by kernel_rfl) ?_))
  refine gQ 8 (Ep t c) [(3,a_ 0 f),(7,a_ 6 cb)] ?_
  refine aU.call (f:=198) (args:=#[vP t,vI (c.handle)]) (d:=(some 16)) (pre:=[xQ t S L]) (R:=(En f m t S L cb c R)) (pk:=[2,0,1,3,4,5,6,7]) (xC:=[1,2,0,3,4,5,6,7]) (v0:=.tuple #[.iface 162 (vP (L.b tk)),vI 0]) (fun _=>by kernel_rfl) (tG t S.X.cH S.aD (bH L S.us) c.handle hC.hw (eu L ⟨tk,1⟩) (qA jw)) rfl (by kernel_rfl) rfl (by kernel_rfl) (fun _ _ h=>h) ?_
  refine gQ 5 (Xu L tk) [] ?_
  refine NQ (NX (SR ?_))
  refine gK 2 [(19,vP cb),(20,.iface 162 (vP (L.b tk)))] [] ?_
  refine gL [3,6] (BS S L hI cb c (some ⟨tk,1⟩) (.inr (.inl ⟨tk,rfl,hlv⟩))) ?_
  rintro _ _ ⟨rfl,rfl⟩
  refine NS (gK 2 [(4,vI 0)] [] ?_)
  refine NN (af.ret ?_)
  exact RT (vI 0) [2,3,4,0,5,6,1,7] (⟨L,by rw [show (kI S c)=(0,S,qV S.O c (some ⟨tk,1⟩)) by unfold kI;rw [jw]]<;>exact⟨rfl,rfl⟩⟩)
 have hkt:(obj S.O tk).kind=2:=hI.kind hlv
 refine af.region (gK 1 [] [] ?_)
 refine NN (af.seq (af.eM (by kernel_rfl) (by kernel_rfl) ?_))
 refine gQ 8 (Ep t c) [(3,a_ 0 f),(7,a_ 6 cb)] ?_
 refine aU.call (f:=198) (args:=#[vP t,vI (c.handle)]) (d:=(some 16)) (pre:=[xQ t S L]) (R:=(En f m t S L cb c R)) (pk:=[2,0,1,3,4,5,6,7]) (xC:=[1,2,0,3,4,5,6,7]) (v0:=.tuple #[.iface 169 (vP (L.b tk)),vI 0]) (fun _=>by kernel_rfl) (tG t S.X.cH S.aD (bH L S.us) c.handle hC.hw (eu L ⟨tk,2⟩) (qA jw)) rfl (by kernel_rfl) rfl (by kernel_rfl) (fun _ _ h=>h) ?_
 refine gQ 5 (Xv L tk) [] ?_
 refine NQ (NX (SR ?_))
 refine gK 2 [(19,vP cb),(20,.iface 169 (vP (L.b tk)))] [] ?_
 refine gL [3,6] (BS S L hI cb c (some ⟨tk,2⟩) (.inr (.inr (.inl ⟨tk,rfl,hlv⟩)))) ?_
 rintro _ _ ⟨rfl,rfl⟩
 refine NS (gK 2 [(4,vI 0)] [] ?_)
 refine NN (af.ret ?_)
 exact RT (vI 0) [2,3,4,0,5,6,1,7] (⟨L,by rw [show (kI S c)=(0,S,qV S.O c (some ⟨tk,2⟩)) by unfold kI;rw [jw]]<;>exact⟨rfl,rfl⟩⟩)
theorem Jr {β:Bs} (S:aJ) (L:HL) (f m t:Nat) (hI:Inv S) (cb:Nat) (c:aB) (hC:lg β c) :
    Spec Tryz.prog β 184 #[vP f,vP cb] ((pA f m t L S)++[pC cb c]) (fun v l=>∃ L2,v=vI (jt S c).1/\l=((pA f m t L2 ((jt S c).2.1))++[.blk cb (dr ((jt S c).2.2)) 88])):=by
 have hX:=hI.hX
 refine Spec.enter Tryz.func184 rfl Tryz.ntmps184 (Nat.le_of_ble_eq_true rfl) (fun R=>?_)
 refine af.seq ?_
 rcases hI.hand c.handle with jw|⟨tk,jw,hlv⟩|⟨tk,jw,hlv⟩
 ·refine af.region (gK 1 [] [] ?_)
  refine NN (af.seq (af.jS (S:=[pF f m t S.X,pC cb c]) [(true,0),(true,1),(true,2),(true,3),(true,4),(true,5),(true,6),(true,7),(false,8),(true,9),(true,10),(true,11),(true,12),(false,13)] [0,6] (by kernel_rfl) (by kernel_rfl) rfl (by kernel_rfl) ?_))
  refine gG [(false,8),(true,9),(true,10),(true,11),(true,12),(false,13)] ([(0,vP f)]++Ep t c) [0,1,2,3,4,5,6,7] [(3,a_ 0 f),(7,a_ 1 cb)] ?_
  refine eO.cut (ι:=Unit) (fr':=fun (_:Unit)=>[(0,vP f),(16,.tuple #[.nilIface,vI 131])]) (hp':=fun (_:Unit)=>([xQ t S L]++En f m t S L cb c R)) [1,6] (by kernel_rfl) ?_ rfl (fun _=>by kernel_rfl) ?_
  ·refine gL [2] (I9 t S.X.cH S.aD (bH L S.us) c.handle hC.hw (wL jw)) ?_
   rintro _ _ ⟨rfl,rfl⟩
   refine NL ?_
   exact MD () [0,16] [0,1,2,3,4,5,6,7]
  rintro _
  refine gG [(false,13)] [(0,vP f),(5,.nilIface),(18,vI 131)] [9,10,11,12] [] ?_
  refine eO.last (by kernel_rfl) ?_
  refine gK 1 [(6,vI 131)] [] ?_
  refine NL (aj.np (NX (af.seq (SR ?_))))
  refine gK 2 [(20,.bool true)] [] ?_
  refine NN (CT (SR (gK 2 [(4,vI 131)] [] ?_)))
  refine NN (af.ret (aj.aq ?_))
  exact RT (vI 131) [1,2,0,3,4,5,6,7] (⟨L,by rw [show (jt S c)=(131,S,c) by unfold jt;rw [jw]]<;>exact⟨rfl,rfl⟩⟩)
 ·have hkt:(obj S.O tk).kind=1:=hI.kind hlv
  have hid:=hI.ob _ hlv
  have qH:=hI.MX hlv
  have hdl:=hI.GF hlv
  have hop:0 < (obj S.O tk).opens/\(obj S.O tk).opens<=1024:=⟨by have h1:=hI.opens _ hlv;have h2:=JX jw;simp only at h1 h2;omega,(hI.GD hlv).2⟩
  refine af.region (gK 1 [] [] ?_)
  refine NN (af.seq (af.jS (S:=[pF f m t S.X,pC cb c]) [(true,0),(true,1),(true,2),(true,3),(true,4),(true,5),(true,6),(true,7),(false,8),(true,9),(true,10),(true,11),(true,12),(false,13)] [0,6] (by kernel_rfl) (by kernel_rfl) rfl (by kernel_rfl) ?_))
  refine gG [(false,8),(true,9),(true,10),(true,11),(true,12),(false,13)] ([(0,vP f)]++Ep t c) [0,1,2,3,4,5,6,7] [(3,a_ 0 f),(7,a_ 1 cb)] ?_
  refine eO.cut (ι:=Unit) (fr':=fun (_:Unit)=>[(0,vP f),(16,.tuple #[.iface 162 (vP (L.b tk)),vI 0])]) (hp':=fun (_:Unit)=>([pT t S.X.cH S.aD L (del c.handle S.us)]++En f m t S L cb c R)) [1,6] (by kernel_rfl) ?_ rfl (fun _=>by kernel_rfl) ?_
  ·refine gL (f:=201) (args:=#[vP t,vI (c.handle)]) (pre:=[xQ t S L]) [2] ((by have h:=EQ (β:=β) t S.X.cH S.aD (bH L S.us) c.handle hC.hw (eu L ⟨tk,1⟩) (qA jw);rw [← GP] at h;exact h)) ?_
   rintro _ _ ⟨rfl,rfl⟩
   refine NL ?_
   exact MD () [0,16] [0,1,2,3,4,5,6,7]
  rintro _
  refine gG [(false,13)] [(0,vP f),(5,.iface 162 (vP (L.b tk))),(18,vI 0)] [9,10,11,12] [] ?_
  refine eO.last (by kernel_rfl) ?_
  refine gK 1 [(6,vI 0)] [] ?_
  refine NL (aj.np (NX (af.seq (SR ?_))))
  refine gK 2 [(20,.bool false)] [] ?_
  refine NN (CF (af.skip (NX (SR (gK 1 [(22,.iface 162 (vP (L.b tk)))] [] ?_)))))
  refine gL [] (dN (L.b tk)) ?_
  rintro _ _ ⟨rfl,rfl⟩
  refine gK 6 [(27,vI ((obj S.O tk).opens - 1)),(29,.pointer (some ⟨(L.b tk),7,none⟩))] [(2,v_ 3 (lD L hkt)),(3,p_ ⟨[],none,none,none,some (vI ((obj S.O tk).opens - 1))⟩ [(Value.int .i64 (IntKind.wrap .i64 ((obj S.O tk).opens - 1)))=(.int .i64 ((obj S.O tk).opens - 1))] ⟨bC (by omega) (by omega) (by omega),trivial⟩)] ?_
  refine uL 3 [(5,1),(4,2)] tk 7 (fun o=>{ o with opens:=o.opens - 1 }) hkt (fun ez cT=>?_)
  have lE:=ku cT hkt
  have hf2:(obj ez tk).id=(obj S.O tk).id:=fu aY.id cT rfl
  have hf3:(obj ez tk).data=(obj S.O tk).data:=fu aY.data cT rfl
  refine NS ?_
  have Qi:(obj ez tk).opens=(obj S.O tk).opens - 1:=by rw [cT];exact congrArg aY.opens cA
  refine gK 2 [(30,vP f),(31,.iface 162 (vP (L.b tk)))] [] ?_
  refine gL [3,1,2] (rP S.X f m t hX ez L S.idx hI.rise ⟨tk,1⟩ lE (by simp) (by rw [Qi];omega) (fun _=>by rw [hf2,hid.1];exact hlv) (by rw [hf2];exact qH) (by rw [hf3];exact hdl)) ?_
  rintro _ _ ⟨rfl,rfl⟩
  refine NS (gK 1 [(4,vI 0)] [] ?_)
  refine NN (af.ret ?_)
  exact RT (l:=[pF f m t { S.X with used:=jO ez S.X.used ⟨tk,1⟩ },pI m L (iP ez S.idx ⟨tk,1⟩),pT t S.X.cH S.aD L (del c.handle S.us),pO ez L,pD ez L,pE ez L,pC cb c]) (.int .i64 0) [1,2,3,0,4,5,6,7] (⟨L,by subst cT;rw [show jt S c=(0,_,c) by unfold jt;rw [jw]];exact⟨rfl,rfl⟩⟩)
 have hkt:(obj S.O tk).kind=2:=hI.kind hlv
 have hid:=hI.ob _ hlv
 have qH:=hI.MX hlv
 have hdl:=hI.GF hlv
 have hop:0 < (obj S.O tk).opens/\(obj S.O tk).opens<=1024:=⟨by have h1:=hI.opens _ hlv;have h2:=JX jw;simp only at h1 h2;omega,(hI.GD hlv).2⟩
 refine af.region (gK 1 [] [] ?_)
 refine NN (af.seq (af.jS (S:=[pF f m t S.X,pC cb c]) [(true,0),(true,1),(true,2),(true,3),(true,4),(true,5),(true,6),(true,7),(false,8),(true,9),(true,10),(true,11),(true,12),(false,13)] [0,6] (by kernel_rfl) (by kernel_rfl) rfl (by kernel_rfl) ?_))
 refine gG [(false,8),(true,9),(true,10),(true,11),(true,12),(false,13)] ([(0,vP f)]++Ep t c) [0,1,2,3,4,5,6,7] [(3,a_ 0 f),(7,a_ 1 cb)] ?_
 refine eO.cut (ι:=Unit) (fr':=fun (_:Unit)=>[(0,vP f),(16,.tuple #[.iface 169 (vP (L.b tk)),vI 0])]) (hp':=fun (_:Unit)=>([pT t S.X.cH S.aD L (del c.handle S.us)]++En f m t S L cb c R)) [1,6] (by kernel_rfl) ?_ rfl (fun _=>by kernel_rfl) ?_
 ·refine gL (f:=201) (args:=#[vP t,vI (c.handle)]) (pre:=[xQ t S L]) [2] ((by have h:=EQ (β:=β) t S.X.cH S.aD (bH L S.us) c.handle hC.hw (eu L ⟨tk,2⟩) (qA jw);rw [← GP] at h;exact h)) ?_
  rintro _ _ ⟨rfl,rfl⟩
  refine NL ?_
  exact MD () [0,16] [0,1,2,3,4,5,6,7]
 rintro _
 refine gG [(false,13)] [(0,vP f),(5,.iface 169 (vP (L.b tk))),(18,vI 0)] [9,10,11,12] [] ?_
 refine eO.last (by kernel_rfl) ?_
 refine gK 1 [(6,vI 0)] [] ?_
 refine NL (aj.np (NX (af.seq (SR ?_))))
 refine gK 2 [(20,.bool false)] [] ?_
 refine NN (CF (af.skip (NX (SR (gK 1 [(22,.iface 169 (vP (L.b tk)))] [] ?_)))))
 refine gL [] (dN (L.b tk)) ?_
 rintro _ _ ⟨rfl,rfl⟩
 refine gK 6 [(27,vI ((obj S.O tk).opens - 1)),(29,.pointer (some ⟨(L.b tk),7,none⟩))] [(2,v_ 3 (lD L hkt)),(3,p_ ⟨[],none,none,none,some (vI ((obj S.O tk).opens - 1))⟩ [(Value.int .i64 (IntKind.wrap .i64 ((obj S.O tk).opens - 1)))=(.int .i64 ((obj S.O tk).opens - 1))] ⟨bC (by omega) (by omega) (by omega),trivial⟩)] ?_
 refine uL 3 [(5,1),(4,2)] tk 7 (fun o=>{ o with opens:=o.opens - 1 }) hkt (fun ez cT=>?_)
 have yZ:=ku cT hkt
 have Nw:(obj ez tk).id=(obj S.O tk).id:=fu aY.id cT rfl
 have Uj:(obj ez tk).data=(obj S.O tk).data:=fu aY.data cT rfl
 refine NS ?_
 have Qi:(obj ez tk).opens=(obj S.O tk).opens - 1:=by rw [cT];exact congrArg aY.opens cA
 refine gK 2 [(30,vP f),(31,.iface 169 (vP (L.b tk)))] [] ?_
 refine gL [3,1,2] (rP S.X f m t hX ez L S.idx hI.rise ⟨tk,2⟩ yZ (by simp) (by rw [Qi];omega) (fun _=>by rw [Nw,hid.1];exact hlv) (by rw [Nw];exact qH) (by rw [Uj];exact hdl)) ?_
 rintro _ _ ⟨rfl,rfl⟩
 refine NS (gK 1 [(4,vI 0)] [] ?_)
 refine NN (af.ret ?_)
 exact RT (l:=[pF f m t { S.X with used:=jO ez S.X.used ⟨tk,2⟩ },pI m L (iP ez S.idx ⟨tk,2⟩),pT t S.X.cH S.aD L (del c.handle S.us),pO ez L,pD ez L,pE ez L,pC cb c]) (.int .i64 0) [1,2,3,0,4,5,6,7] (⟨L,by subst cT;rw [show jt S c=(0,_,c) by unfold jt;rw [jw]];exact⟨rfl,rfl⟩⟩)
end
section
open Go.RowKit
def vS (b:Nat) (v:Value):bW where
  h F w:=∃ cs T,cs[0]?=some v/\(HP.blk b cs T).h F w
  lt:=fun ⟨_,_,_,h⟩=>HP.lt h
  st:=fun ⟨cs,T,hv,h⟩ _ _ hk hd=>⟨cs,T,hv,HP.st h hk hd⟩
theorem vS.cell {b:Nat} {v:Value}:∀ F w,(vS b v).h F w->w.cell? ⟨b,0,none⟩=some v:=by
  rintro F w ⟨cs,T,hv,h⟩
  exact (ia h.1 rfl rfl hv).1
theorem Sat.first {β:Bs} {l:List HP} {w:World} {i b:Nat} {cs:List Value} {T:TypeId} {v:Value} (h:Sat β l w) (hp:l[i]?=some (.blk b cs T)) (hv:cs[0]?=some v):Sat β [.abs (vS b v)] w:=by
  obtain⟨ho,φ,h1,h2,h3⟩:=h
  have hi:=bw hp
  refine⟨ho,fun _=>φ i,fun j q hq=>?_,fun j hj=>h2 i hi,fun j k hj hk hne=>?_⟩
  ·have hj:=bw hq
   simp at hj
   subst hj
   simp at hq
   subst hq
   exact⟨cs,T,hv,h1 i _ hp⟩
  simp at hj hk
  omega
section mix
variable {P:Program} {β:Bs} {N:dG} {ops:Array Oper} {S:List HP} {l:List Nat} {fr:Fr} {hps:List HP} {Q:Post} {i:Nat}
theorem af.LD {id:Nat} (perm:List Nat) (nr:Nat) (hm:P.follows .mixedOrders=true) (hB:Ci ops perm nr=true) (hp:∀ w,Sat β hps w->Sat β S w) (h:aQ P β N ops S nr perm fr hps Q):af P β N (.region id ops true) fr hps Q:=by
  intro junk w hS
  unfold Ci at hB
  simp only [Bool.and_eq_true,beq_iff_eq] at hB
  obtain⟨⟨⟨h1,h2⟩,h3⟩,h4⟩:=hB
  have cE:=hS.drewN 1
  have h5:=DL (Q:=Q) h1 h2 nr perm _ _ _ h4 (fun j oj _ hl=>by simp [Array.getD_eq_getD_getElem?,Array.getElem?_replicate] at hl;split at hl<;>simp at hl) (hp _ cE) (h junk (w.drewN 1) cE)
  rw [h3] at h5
  refine Code.wp_mono (fun e a w q=>?_) (wp_region_any hm (lT _ _ _ _ h5))
  cases e with
  | normal=>exact q
  | exit id=>exact q.elim
  | goto l=>exact q.elim
  | ret=>exact q.elim
  | panic ch=>exact q.elim
  | outgrown=>exact q.elim
theorem aQ.LF {ι:Type} {fr':ι->Fr} {hp':ι->List HP} {o:Oper} (hop:ops[i]?=some o) (hg:o.guard=none) (h:ak P β N #[o] 0 fr hps (NP (nM β N fr' hp'))) (hp:∀ j w,Sat β (hp' j) w->Sat β S w)
    (K:∀ j,aQ P β N ops S 0 l (fr' j) (hp' j) Q):aQ P β N ops S 0 (i::l) fr hps Q:=by
  intro junk w hS
  unfold nB
  refine iJ hop hg ?_
  have h1:=h junk w hS
  have h2:wpList P #[o] (NP (nM β N fr' hp')) [o] (bM N fr junk) w:=h1
  refine jU (fun a w ⟨j,fH,ha,cE⟩=>?_) h2
  subst ha
  exact⟨.inr (hp j _ cE),K j fH w cE⟩
end mix
end
section
open Go.RowKit Go.Maps bq aF
def NR:List Nat:=[172,173,174,175,176,177,178,179,180,181,182,183,184,185,186]
def Wn:Value:=.agg ⟨.nilFunc::NR.map (fun f=>.func (.func f) #[] #[])⟩
theorem LG {n:Int} (h:1<=n/\n<=15):n=1\/n=2\/n=3\/n=4\/n=5\/n=6\/n=7\/n=8\/n=9\/n=10\/n=11\/n=12\/n=13\/n=14\/n=15:=by omega
theorem Uq {w:World} {o:Oper} {ev:Operand->Value} {x y:Operand} {n:Int} (ho:o.op=.index 292 x y) (hx:ev x=Wn) (hy:ev y=.int .i64 n) (hn:1<=n/\n<=15):oP Tryz.prog ev o w (.func (.func (NR.getD (n.toNat - 1) 0)) #[] #[]) w:=by
  obtain⟨dst,op,type,pos,after,guard⟩:=o
  cases ho
  refine .inl ?_
  simp only [execOp,hx,hy]
  rcases LG hn with h|h|h|h|h|h|h|h|h|h|h|h|h|h|h<;>subst h<;>kernel_rfl
theorem ak.hn {β:Bs} {N:dG} {k:Nat} {ops:Array Oper} {fr:Fr} {hps:List HP} {Q:Post} {d:Option Tmp} {x y:Operand} {n:Int} (hn:1<=n/\n<=15) (K:ak Tryz.prog β N ops (k+1) (dw fr d (.func (.func (NR.getD (n.toNat - 1) 0)) #[] #[])) hps Q)
    (hop:∀ junk,fW N junk ops fr k=some (.index 292 x y,d):=by intro _;kernel_rfl) (hx:∀ junk,dL N fr junk x=Wn:=by intro _;kernel_rfl) (hy:∀ junk,dL N fr junk y=.int .i64 n:=by intro _;kernel_rfl):ak Tryz.prog β N ops k fr hps Q:=
  ak.jH hop (fun _ junk w ho hS=>⟨w,Uq ho (hx junk) (hy junk) hn,hS⟩) K
theorem VL {β:Bs} {S:aJ} {L:HL} {f m t b:Nat} {c:aB} (n:Int) (hI:Inv S) (hC:lg β c) (h:1<=n/\n<=15) (he:c.op=n):Spec Tryz.prog β (NR.getD (n.toNat - 1) 0) #[vP f,vP b] (pA f m t L S++[pC b c]) (fun v l=>∃ L2,v=vI (cR S c).1/\l=pA f m t L2 (cR S c).2.1++[pC b (cR S c).2.2]):=by
  subst he
  rcases LG h with h|h|h|h|h|h|h|h|h|h|h|h|h|h|h<;>rw [h]
  ·rw [sK h];exact LB S L f m t hI b c hC
  ·rw [qW h];exact Fx S L f m t hI b c hC
  ·exact absurd hC.op (by rw [h];unfold lP;decide)
  ·rw [uH h];exact Jq S L f m t hI b c hC
  ·exact absurd hC.op (by rw [h];unfold lP;decide)
  ·exact absurd hC.op (by rw [h];unfold lP;decide)
  ·exact absurd hC.op (by rw [h];unfold lP;decide)
  ·exact absurd hC.op (by rw [h];unfold lP;decide)
  ·exact absurd hC.op (by rw [h];unfold lP;decide)
  ·exact absurd hC.op (by rw [h];unfold lP;decide)
  ·rw [tL h];exact LC S L f m t hI b c hC
  ·exact absurd hC.op (by rw [h];unfold lP;decide)
  ·rw [rI h];exact Jr S L f m t hI b c hC
  ·exact absurd hC.op (by rw [h];unfold lP;decide)
  exact absurd hC.op (by rw [h];unfold lP;decide)
theorem NT {S:aJ} {c:aB} (h:1<=c.op/\c.op<=15):(cR S c).2.2.op=c.op:=by
  rcases LG h with h|h|h|h|h|h|h|h|h|h|h|h|h|h|h
  ·rw [sK h];exact R6
  ·rw [qW h];exact KW
  ·rw [CJ h];exact Jc
  ·rw [uH h];exact KX
  ·rw [CK h];exact Jd
  ·rw [CM h];exact GS
  ·rw [CN h];exact Nb
  ·rw [CO h];exact Je
  ·rw [CP h];exact KZ
  ·rw [yO h];exact K1
  ·rw [tL h];exact R7
  ·rw [yP h];exact Nc
  ·rw [rI h];exact PL
  ·rw [yQ h];exact KY
  rw [yR h];exact Jf
end
section
open Go.RowKit Go.Maps bq aF
attribute [local irreducible] ak aU af aj
abbrev rS (b3:Nat):=(.blk b3 [vI 0,vI 0,vI 0,.string ⟨#[]⟩,.string ⟨#[]⟩,.slice none (0) (0),vI 0,vI 0,vI 0,vI 0,vI 0,vI 0,vI 0] 88:HP)
abbrev Wo (c:aB):=([(0,vI (c.op)),(1,vI (c.handle)),(2,vI (c.other)),(3,.string c.name),(4,.string c.text),(5,.slice c.dA (c.data.length) (c.dC)),(6,vI (c.mode)),(7,vI (c.uid)),(8,vI (c.gid)),(9,vI (c.sec)),(10,vI (c.nano)),(11,vI 230)]:Fr)
theorem Js {β:Bs}:Spec Tryz.prog β 171 #[] [] (fun v l=>v=.agg #[.nilFunc,.func (.func 172) #[] #[],.func (.func 173) #[] #[],.func (.func 174) #[] #[],.func (.func 175) #[] #[],.func (.func 176) #[] #[],.func (.func 177) #[] #[],.func (.func 178) #[] #[],.func (.func 179) #[] #[],.func (.func 180) #[] #[],.func (.func 181) #[] #[],.func (.func 182) #[] #[],.func (.func 183) #[] #[],.func (.func 184) #[] #[],.func (.func 185) #[] #[],.func (.func 186) #[] #[]]/\l=[]):=by
 refine Spec.enter Tryz.func171 rfl Tryz.ntmps171 (Nat.le_of_ble_eq_true rfl) (fun R=>?_)
 refine SR (gN 1 (fun b1=>[(0,vP b1)]) (fun _=>[]) (fun _=>[]) (fun b1=>.blk b1 [.nilFunc,.nilFunc,.nilFunc,.nilFunc,.nilFunc,.nilFunc,.nilFunc,.nilFunc,.nilFunc,.nilFunc,.nilFunc,.nilFunc,.nilFunc,.nilFunc,.nilFunc,.nilFunc] 292) (fun b1=>?_))
 refine NS (gC 2 [] [(1,A_ 1 b1 16)] [(1,[(1,.func (.func 172) #[] #[]),(2,.func (.func 173) #[] #[]),(3,.func (.func 174) #[] #[]),(4,.func (.func 175) #[] #[]),(5,.func (.func 176) #[] #[]),(6,.func (.func 177) #[] #[]),(7,.func (.func 178) #[] #[]),(8,.func (.func 179) #[] #[]),(9,.func (.func 180) #[] #[]),(10,.func (.func 181) #[] #[]),(11,.func (.func 182) #[] #[]),(12,.func (.func 183) #[] #[]),(13,.func (.func 184) #[] #[]),(14,.func (.func 185) #[] #[]),(15,.func (.func 186) #[] #[])])] ?_)
 refine NN (af.ret ?_)
 exact aj.ret (v:=.agg #[.nilFunc,.func (.func 172) #[] #[],.func (.func 173) #[] #[],.func (.func 174) #[] #[],.func (.func 175) #[] #[],.func (.func 176) #[] #[],.func (.func 177) #[] #[],.func (.func 178) #[] #[],.func (.func 179) #[] #[],.func (.func 180) #[] #[],.func (.func 181) #[] #[],.func (.func 182) #[] #[],.func (.func 183) #[] #[],.func (.func 184) #[] #[],.func (.func 185) #[] #[],.func (.func 186) #[] #[]]) (l:=[]) (aZ:=[b1=b1,b1=b1,b1=b1,b1=b1,b1=b1,b1=b1,b1=b1,b1=b1,b1=b1,b1=b1,b1=b1,b1=b1,b1=b1,b1=b1,b1=b1,b1=b1]) [.at 1,.at 1,.at 1,.at 1,.at 1,.at 1,.at 1,.at 1,.at 1,.at 1,.at 1,.at 1,.at 1,.at 1,.at 1,.at 1] [0] (fun _=>by kernel_rfl) ⟨rfl,rfl,rfl,rfl,rfl,rfl,rfl,rfl,rfl,rfl,rfl,rfl,rfl,rfl,rfl,rfl,trivial⟩ rfl (by kernel_rfl) (⟨rfl,rfl⟩)
theorem HX {β:Bs} (S:aJ) (L:HL) (f m t:Nat) (hI:Inv S) (c:aB) (hC:lg β c) :
    Spec Tryz.prog β 170 #[vP f,.agg #[vI (c.op),vI (c.handle),vI (c.other),.string c.name,.string c.text,.slice c.dA (c.data.length) (c.dC),vI (c.mode),vI (c.uid),vI (c.gid),vI (c.sec),vI (c.nano),vI (c.code),vI (c.answer)]] (pA f m t L S) (fun v l=>∃ L2,v=.agg ⟨dr (bI S c).2⟩/\l=(pA f m t L2 ((bI S c).1))):=by
 have hX:=hI.hX
 refine Spec.enter Tryz.func170 rfl Tryz.ntmps170 (Nat.le_of_ble_eq_true rfl) (fun R=>?_)
 refine SR (gN 1 (fun b2=>[(3,vP b2)]) (fun _=>[]) (fun _=>[]) (fun b2=>pC b2 c) (fun b2=>?_))
 refine gN 1 (fun b3=>[(4,vP b3)]) (fun _=>[]) (fun _=>[]) (fun b3=>.blk b3 [vI 0,vI 0,vI 0,.string ⟨#[]⟩,.string ⟨#[]⟩,.slice none (0) (0),vI 0,vI 0,vI 0,vI 0,vI 0,vI 0,vI 0] 88) (fun b3=>?_)
 refine NS (gC 2 [] [(1,a_ 7 b2)] [(7,[(12,vI 0)])] ?_)
 refine NS (gC 2 [] [(1,a_ 7 b2)] [(7,[(11,vI 230)])] ?_)
 refine NN (af.seq (SR (gK 4 [(10,.bool (decide ((c.op:Int) ≥ (1:Int))))] [(1,a_ 7 b2)] ?_)))
 refine ak.iE 10 ((c.op:Int) ≥ (1:Int)) (fun _=>by kernel_rfl) (fun h10=>?_) (fun h10=>?_)
 ·refine gK 4 [(14,.bool (decide ((c.op:Int)<=(15:Int))))] [(1,a_ 7 b2)] ?_
  refine NN (af.aW (p:=(c.op:Int)<=(15:Int)) (fun _=>by kernel_rfl) (fun jV=>?_) (fun jV=>?_))
  ·have hop:1<=c.op/\c.op<=15:=⟨h10,jV⟩
   refine af.LD (S:=[.abs (vS b2 (.int .i64 c.op))]) [1,2,4,0,3,5,6,7] 3 (by kernel_rfl) (by kernel_rfl) (fun w hS=>hS.first (i:=7) (b:=b2) rfl rfl) ?_
   refine gR 0 [0,3,5,6,7] [(3,vP b2),(4,vP b3),(17,vI (c.op)),(19,vP f)] [1,2,4] [(1,p_ ⟨[.view 0 (.int .i64 (c.op))],none,none,none,none⟩ [(∀ F w,(vS b2 (.int .i64 c.op)).h F w->w.cell? ⟨b2,0,none⟩=some (vI (c.op)))] ⟨vS.cell,trivial⟩)] ?_
   refine aQ.LF (ι:=Unit) (fr':=fun (_:Unit)=>[(3,vP b2),(4,vP b3),(15,.agg #[.nilFunc,.func (.func 172) #[] #[],.func (.func 173) #[] #[],.func (.func 174) #[] #[],.func (.func 175) #[] #[],.func (.func 176) #[] #[],.func (.func 177) #[] #[],.func (.func 178) #[] #[],.func (.func 179) #[] #[],.func (.func 180) #[] #[],.func (.func 181) #[] #[],.func (.func 182) #[] #[],.func (.func 183) #[] #[],.func (.func 184) #[] #[],.func (.func 185) #[] #[],.func (.func 186) #[] #[]]),(17,vI (c.op)),(19,vP f)]) (hp':=fun (_:Unit)=>((pA f m t L S)++[.abs R,pC b2 (c0 c),rS b3])) rfl rfl ?_ (by rintro _ w hS;exact hS.first (i:=7) (b:=b2) rfl rfl) ?_
   ·refine gL [] (Js) ?_
    rintro _ _ ⟨rfl,rfl⟩
    refine NL ?_
    exact MD () [3,4,15,17,19] [0,1,2,3,4,5,6,7,8]
   rintro _
   refine aQ.LF (ι:=Unit) (fr':=fun (_:Unit)=>[(3,vP b2),(4,vP b3),(18,.func (.func (NR.getD (c.op.toNat - 1) 0)) #[] #[]),(19,vP f)]) (hp':=fun (_:Unit)=>((pA f m t L S)++[.abs R,pC b2 (c0 c),rS b3])) rfl rfl ?_ (by rintro _ w hS;exact hS.first (i:=7) (b:=b2) rfl rfl) ?_
   ·refine ak.hn (x:=(.tmp 15)) (y:=(.tmp 17)) (d:=(some 18)) hop ?_
    refine NL ?_
    exact MD () [3,4,18,19] [0,1,2,3,4,5,6,7,8]
   rintro _
   refine aQ.LF (ι:=HL) (fr':=fun (L2:HL)=>[(3,vP b2),(4,vP b3),(20,vI ((cR S (c0 c)).1))]) (hp':=fun (L2:HL)=>((pA f m t L2 ((cR S (c0 c)).2.1))++[pC b2 ((cR S (c0 c)).2.2),.abs R,rS b3])) rfl rfl ?_ (by rintro L2 w hS;exact hS.first (i:=6) (b:=b2) rfl (congrArg (fun z=>some (Value.int .i64 z)) (NT (c:=(c0 c)) hop))) ?_
   ·refine gL [0,1,2,3,4,5,7] (VL (S:=S) (L:=L) (f:=f) (m:=m) (t:=t) (b:=b2) (c:=(c0 c)) c.op hI ⟨hC.hw,hC.ow,hC.nm,hC.tx,hC.da,hC.dl,hC.dc,hC.op⟩ hop rfl) ?_ (by intro _;rcases LG hop with h|h|h|h|h|h|h|h|h|h|h|h|h|h|h<;>rw [h]<;>kernel_rfl)
    rintro _ _ ⟨L2,rfl,rfl⟩
    refine NL ?_
    exact MD L2 [3,4,20] [0,1,2,3,4,5,6,7,8]
   rintro L2
   refine aQ.LF (ι:=Unit) (fr':=fun (_:Unit)=>[(3,vP b2),(4,vP b3),(20,vI ((cR S (c0 c)).1)),(21,.pointer (some ⟨b2,11,none⟩))]) (hp':=fun (_:Unit)=>((pA f m t L2 ((cR S (c0 c)).2.1))++[pC b2 ((cR S (c0 c)).2.2),.abs R,rS b3])) rfl rfl ?_ (by rintro _ w hS;exact hS.first (i:=6) (b:=b2) rfl (congrArg (fun z=>some (Value.int .i64 z)) (NT (c:=(c0 c)) hop))) ?_
   ·refine gK 1 [(21,.pointer (some ⟨b2,11,none⟩))] [] ?_
    refine NL ?_
    exact MD () [3,4,20,21] [0,1,2,3,4,5,6,7,8]
   rintro _
   refine aQ.last rfl rfl ?_
   refine gC 1 [] [(0,a_ 6 b2)] [(6,[(11,vI ((cR S (c0 c)).1))])] ?_
   refine NL (aj.np (NX (SR ?_)))
   refine gC 2 [] [(0,A_ 6 b2 13),(1,A_ 8 b3 13)] [(8,[(0,vI ((cR S (c0 c)).2.2.op)),(1,vI ((cR S (c0 c)).2.2.handle)),(2,vI ((cR S (c0 c)).2.2.other)),(3,.string (cR S (c0 c)).2.2.name),(4,.string (cR S (c0 c)).2.2.text),(5,.slice (cR S (c0 c)).2.2.dA ((cR S (c0 c)).2.2.data.length) ((cR S (c0 c)).2.2.dC)),(6,vI ((cR S (c0 c)).2.2.mode)),(7,vI ((cR S (c0 c)).2.2.uid)),(8,vI ((cR S (c0 c)).2.2.gid)),(9,vI ((cR S (c0 c)).2.2.sec)),(10,vI ((cR S (c0 c)).2.2.nano)),(11,vI ((cR S (c0 c)).1)),(12,vI ((cR S (c0 c)).2.2.answer))])] ?_
   refine NN (af.ret ?_)
   exact aj.ret (v:=.agg #[vI ((cR S (c0 c)).2.2.op),vI ((cR S (c0 c)).2.2.handle),vI ((cR S (c0 c)).2.2.other),.string (cR S (c0 c)).2.2.name,.string (cR S (c0 c)).2.2.text,.slice (cR S (c0 c)).2.2.dA ((cR S (c0 c)).2.2.data.length) ((cR S (c0 c)).2.2.dC),vI ((cR S (c0 c)).2.2.mode),vI ((cR S (c0 c)).2.2.uid),vI ((cR S (c0 c)).2.2.gid),vI ((cR S (c0 c)).2.2.sec),vI ((cR S (c0 c)).2.2.nano),vI ((cR S (c0 c)).1),vI ((cR S (c0 c)).2.2.answer)]) (l:=(pA f m t L2 ((cR S (c0 c)).2.1))) (aZ:=[b3=b3,b3=b3,b3=b3,b3=b3,b3=b3,b3=b3,b3=b3,b3=b3,b3=b3,b3=b3,b3=b3,b3=b3,b3=b3]) [.at 8,.at 8,.at 8,.at 8,.at 8,.at 8,.at 8,.at 8,.at 8,.at 8,.at 8,.at 8,.at 8] [0,1,2,3,4,5,7] (fun _=>by kernel_rfl) ⟨rfl,rfl,rfl,rfl,rfl,rfl,rfl,rfl,rfl,rfl,rfl,rfl,rfl,trivial⟩ rfl (by kernel_rfl) (⟨L2,rfl,rfl⟩)
  refine af.skip (NX (SR (gC 2 [] [(0,A_ 7 b2 13),(1,A_ 8 b3 13)] [(8,(Wo c))] ?_)))
  refine NN (af.ret ?_)
  exact aj.ret (v:=.agg #[vI (c.op),vI (c.handle),vI (c.other),.string c.name,.string c.text,.slice c.dA (c.data.length) (c.dC),vI (c.mode),vI (c.uid),vI (c.gid),vI (c.sec),vI (c.nano),vI 230,vI 0]) (l:=(pA f m t L S)) (aZ:=[b3=b3,b3=b3,b3=b3,b3=b3,b3=b3,b3=b3,b3=b3,b3=b3,b3=b3,b3=b3,b3=b3,b3=b3,b3=b3]) [.at 8,.at 8,.at 8,.at 8,.at 8,.at 8,.at 8,.at 8,.at 8,.at 8,.at 8,.at 8,.at 8] [0,1,2,3,4,5,6] (fun _=>by kernel_rfl) ⟨rfl,rfl,rfl,rfl,rfl,rfl,rfl,rfl,rfl,rfl,rfl,rfl,rfl,trivial⟩ rfl (by kernel_rfl) (⟨L,by unfold bI;rw [vL (S:=S) (c:=(c0 c)) (by show ¬ (1<=c.op/\c.op<=15);omega)];exact⟨rfl,rfl⟩⟩)
 refine gK 4 [(14,.bool false)] [] ?_
 refine NN (CF (af.skip (NX (SR (gC 2 [] [(0,A_ 7 b2 13),(1,A_ 8 b3 13)] [(8,(Wo c))] ?_)))))
 refine NN (af.ret ?_)
 exact aj.ret (v:=.agg #[vI (c.op),vI (c.handle),vI (c.other),.string c.name,.string c.text,.slice c.dA (c.data.length) (c.dC),vI (c.mode),vI (c.uid),vI (c.gid),vI (c.sec),vI (c.nano),vI 230,vI 0]) (l:=(pA f m t L S)) (aZ:=[b3=b3,b3=b3,b3=b3,b3=b3,b3=b3,b3=b3,b3=b3,b3=b3,b3=b3,b3=b3,b3=b3,b3=b3,b3=b3]) [.at 8,.at 8,.at 8,.at 8,.at 8,.at 8,.at 8,.at 8,.at 8,.at 8,.at 8,.at 8,.at 8] [0,1,2,3,4,5,6] (fun _=>by kernel_rfl) ⟨rfl,rfl,rfl,rfl,rfl,rfl,rfl,rfl,rfl,rfl,rfl,rfl,rfl,trivial⟩ rfl (by kernel_rfl) (⟨L,by unfold bI;rw [vL (S:=S) (c:=(c0 c)) (by show ¬ (1<=c.op/\c.op<=15);omega)];exact⟨rfl,rfl⟩⟩)
end
section
open Go.RowKit Go.Maps bq aF
attribute [local irreducible] ak aU af aj
abbrev J9 (B)(d:List UInt8) (cap):=(.abs (aH 5 1 B d.length cap (cG d)):HP)
abbrev Wp (b5:Nat) (An:Option Addr) (i:Nat) (cn:Nat):=(.blk b5 [.slice An (i) (cn)] 24:HP)
abbrev Wq (An:Option Addr) (i:Nat) (cn:Nat) (K) (S:aJ):=(.abs (aH 108 10 An i cn (bP K ((av S).take i))):HP)
abbrev Wr (S:aJ) (i:Nat) (K):=(.abs (cW (fZ ((av S).take i) K) i):HP)
abbrev Ws (S:aJ) (i:Nat) (K):=(.abs (cW (gh ((av S).take i) K) i):HP)
abbrev Wt (A7:Option Addr) (S:aJ) (c8:Nat):=(.abs (aH 3 1 A7 ((keys S.idx).length) c8 (ints (keys S.idx))):HP)
abbrev Wu (b4:Nat):=(.blk b4 [.slice none (0) (0)] 24:HP)
abbrev Ur (b9:Nat):=(.blk b9 [vI 0,vI 0,vI 0,vI 0,vI 0,vI 0,vI 0,.slice none (0) (0),.string ⟨#[]⟩,.slice none (0) (0)] 108:HP)
abbrev Wv (b9:Nat) (S:aJ) (i:Nat) (tk:Nat):=(.blk b9 [vI ((bZ S i)),vI 1,vI ((obj S.O tk).mode),vI ((obj S.O tk).uid),vI ((obj S.O tk).gid),vI ((obj S.O tk).sec),vI ((obj S.O tk).nano),.slice none (0) (0),.string ⟨#[]⟩,.slice none (0) (0)] 108:HP)
abbrev Us (S:aJ) (L:HL) (tk:Nat):=(.abs (aG (kX (cY S.O L) tk bW.none)):HP)
abbrev HY (L:HL) (tk:Nat) (S:aJ):=(.abs (aP Tryz.prog 9 (L.m tk) (jm L (obj S.O tk).ah) ((obj S.O tk).ah.length)):HP)
abbrev jT (b15:Nat) (S:aJ) (i:Nat) (tk:Nat) (Ae:Option Addr) (j:Nat) (ce:Nat):=(.blk b15 [vI ((bZ S i)),vI 2,vI ((obj S.O tk).mode),vI ((obj S.O tk).uid),vI ((obj S.O tk).gid),vI ((obj S.O tk).sec),vI ((obj S.O tk).nano),.slice none (0) (0),.string ⟨#[]⟩,.slice Ae (j) (ce)] 108:HP)
abbrev oK (Ae:Option Addr) (j:Nat) (ce:Nat) (S:aJ) (tk:Nat):=(.abs (aH 110 2 Ae j ce (iO (((obj S.O tk).ah.take j).map (jI S.O)))):HP)
abbrev Ut (b16:Nat) (L:HL) (tk:Nat):=(.blk b16 [.map (some (L.m tk))] 174:HP)
abbrev Uu (eH:Option Addr) (S:aJ) (tk:Nat) (c18:Nat):=(.abs (aH 9 1 eH ((obj S.O tk).ah.length) c18 (rK (obj S.O tk).ah)):HP)
abbrev Es (nU:Option Addr) (j:Nat) (nV:Nat) (S:aJ) (tk:Nat):=(.abs (aH 110 2 nU (j+1) nV (iO (((obj S.O tk).ah.take (j+1)).map (jI S.O)))):HP)
abbrev Et (b19:Nat) (S:aJ) (tk:Nat) (j:Nat) (ek:Nat):=(.blk b19 [.string (fB (obj S.O tk).ah j),vI ((obj S.O ek).id)] 110:HP)
abbrev mE (f:Nat) (b4:Nat) (b5:Nat) (b15:Nat) (L:HL) (tk:Nat) (A7:Option Addr) (S:aJ) (c8:Nat) (i:Nat) (eH:Option Addr) (c18:Nat) (j:Nat):=([(0,vP f),(2,vP b4),(3,vP b5),(8,vP b15),(11,vP (L.b tk)),(19,.slice A7 ((keys S.idx).length) (c8)),(20,vI ↑((keys S.idx).length)),(21,vI ↑i),(79,.slice eH ((obj S.O tk).ah.length) (c18)),(80,vI ↑((obj S.O tk).ah.length)),(81,vI ↑j)]:Fr)
abbrev lK (L:HL) (tk:Nat) (S:aJ) (b16:Nat) (eH:Option Addr) (c18:Nat) (b5:Nat) (An:Option Addr) (i:Nat) (cn:Nat) (K) (A7:Option Addr) (c8:Nat) (b4:Nat) (f:Nat) (m:Nat) (t) (R:bW):=([HY L tk S,Ut b16 L tk,Uu eH S tk c18,Wp b5 An i cn,Wq An i cn K S,Wr S i K,Ws S i K,Wt A7 S c8,Wu b4,pF f m t S.X,pI m L S.idx,pO S.O L,pD S.O L,Us S L tk,.abs R]:List HP)
abbrev HZ (f:Nat) (b4:Nat) (b5:Nat) (b15:Nat) (L:HL) (tk:Nat) (A7:Option Addr) (S:aJ) (c8:Nat) (i:Nat) (eH:Option Addr) (c18:Nat) (j:Nat):=([(0,vP f),(2,vP b4),(3,vP b5),(8,vP b15),(11,vP (L.b tk)),(19,.slice A7 ((keys S.idx).length) (c8)),(20,vI ↑((keys S.idx).length)),(21,vI ↑i),(79,.slice eH ((obj S.O tk).ah.length) (c18)),(80,vI ↑((obj S.O tk).ah.length)),(81,vI ↑j)]:Fr)
abbrev Eu (S:aJ) (tk:Nat):=([(39,vI ((obj S.O tk).mode)),(43,vI ((obj S.O tk).uid)),(47,vI ((obj S.O tk).gid)),(51,.agg #[vI ((obj S.O tk).sec),vI ((obj S.O tk).nano)])]:Fr)
abbrev zq (f:Nat) (b4:Nat) (b5:Nat):=([(0,vP f),(2,vP b4),(3,vP b5)]:Fr)
abbrev zu (A7:Option Addr) (S:aJ) (c8:Nat) (i:Nat):=([(19,.slice A7 ((keys S.idx).length) (c8)),(20,vI ↑((keys S.idx).length)),(21,vI ↑i)]:Fr)
abbrev xg (b5:Nat) (An:Option Addr) (i:Nat) (cn:Nat) (K) (S:aJ) (A7:Option Addr) (c8:Nat) (b4:Nat) (f:Nat) (m:Nat) (t) (L:HL):=([Wp b5 An i cn,Wq An i cn K S,Wr S i K,Ws S i K,Wt A7 S c8,Wu b4,pF f m t S.X,pI m L S.idx,pO S.O L]:List HP)
abbrev r9 (Ae:Option Addr) (j:Nat) (ce:Nat) (S:aJ) (tk:Nat):=([(86,.slice Ae (j) (ce)),(87,.string (fB (obj S.O tk).ah j))]:Fr)
abbrev Qj (S:aJ) (tk:Nat):=([(2,vI ((obj S.O tk).mode)),(3,vI ((obj S.O tk).uid)),(4,vI ((obj S.O tk).gid)),(5,vI ((obj S.O tk).sec)),(6,vI ((obj S.O tk).nano))]:Fr)
theorem Ev {β:Bs} (c:Nat):Spec Tryz.prog β 58 #[.slice none 0 c] [] (fun v l=>∃ B cap,v=.slice B 0 cap/\l=[.abs (aH 5 1 B 0 cap [])]):=by
 refine Spec.enter Tryz.func58 rfl Tryz.ntmps58 (Nat.le_of_ble_eq_true rfl) (fun R=>?_)
 refine SR (gK 1 [] [] ?_)
 refine NN (af.seq (SR (gK 2 [(4,.bool true)] [] ?_)))
 refine NN (CT (SR (gK 1 [(2,.slice none (0) (0))] [] ?_)))
 refine NN (af.ret (aj.aq (aj.mem (fun w hS=>(hS.mo (e:=5) (size:=1)).pick (idx:=[1,0]) (l':=[.abs (aH 5 1 none 0 0 ([])),.abs R]) rfl (by kernel_rfl)) ?_)))
 exact RT (.slice none (0) (0)) [0,1] (⟨none,0,rfl,rfl⟩)
theorem Dg {β:Bs} (a:Addr) (c:Nat) (d:List UInt8) (hA:bG β (some a) d) (hl:d.length<=140737488355328):Spec Tryz.prog β 58 #[.slice (some a) d.length c] [] (fun v l=>∃ B cap,v=.slice B d.length cap/\l=[J9 B d cap]):=by
 refine Spec.enter Tryz.func58 rfl Tryz.ntmps58 (Nat.le_of_ble_eq_true rfl) (fun R=>?_)
 refine SR (gK 1 [] [] ?_)
 refine NN (af.seq (SR (gK 2 [(4,.bool false)] [] ?_)))
 refine NN (CF (af.skip (NX (SR (gN 1 (fun b1=>[(5,.slice (some ⟨b1,0,none⟩) (0) (0))]) (fun _=>[]) (fun _=>[]) (fun b1=>.blk b1 [] 5) (fun b1=>?_))))))
 refine ak.mem (fun w hS=>hS.og (i:=1) (b:=b1) (cs:=[]) (e:=5) 1 0 (by kernel_rfl) rfl (by decide)) ?_
 refine gK 1 [(6,.slice (some a) (d.length) (c))] [] ?_
 refine ak.append 1 (d:=(some 7)) (t:=86) (e:=5) (z:=.int .u8 0) (size:=1) (bytes:=1) (n:=0) (cap:=0) (A:=some ⟨b1,0,none⟩) (xs:=[]) (s:=(.tmp 5)) (x:=(.tmp 6)) (ats:=#[86,86]) (A':=(some a)) (m:=d.length) (c':=c) (news:=(cG d)) (fun _=>by kernel_rfl) rfl (by kernel_rfl) (fun _=>by kernel_rfl) (fun _=>by kernel_rfl) Tryz.underlying86 (by kernel_rfl) rfl (by decide) (by rw [wq,Nat.mul_one]) (rW d) (hA.src) (by unfold maxLen;omega) (by omega) (fun A2 c3=>?_)
 refine ak.dV 1 (p:=.abs (aH 5 1 A2 (0+d.length) c3 ([]++(cG d)))) (p':=.abs (aH 5 1 A2 d.length c3 (cG d))) (by kernel_rfl) (by rw [Nat.zero_add,List.nil_append]) ?_
 refine ak.slot 7 (.slice A2 (0+d.length) (c3)) (.slice A2 (d.length) (c3)) (fun _=>by kernel_rfl) (by rw [Nat.zero_add]) ?_
 refine gK 1 [(2,.slice A2 (d.length) (c3))] [] ?_
 refine NN (af.ret ?_)
 exact RT (.slice A2 (d.length) (c3)) [1,0] (⟨A2,c3,rfl,rfl⟩)
theorem vz {β:Bs} (A:Option Addr) (c:Nat) (d:List UInt8) (hA:bG β A d) (hl:d.length<=140737488355328):Spec Tryz.prog β 58 #[.slice A d.length c] [] (fun v l=>∃ B cap,v=.slice B d.length cap/\l=[J9 B d cap]):=by
  cases A with
  | some a=>exact Dg a c d hA hl
  | none=>
    cases d with
    | nil=>exact Ev c
    | cons b r=>have h:=bG.hd hA (j:=0) (by simp);cases h
theorem H6 {β:Bs} (A:Option Addr) (c:Nat) (d:List UInt8) (hl:d.length<=140737488355328):Spec Tryz.prog β 58 #[.slice A d.length c] [J9 A d c] (fun v l=>∃ B cap,v=.slice B d.length cap/\l=[J9 B d cap,J9 A d c]):=
  (Spec.yA (pre:=[]) (R:=[J9 A d c]) (fun _ h=>vz A c d h.bytes hl)).mono (by rintro v l ⟨l0,⟨B,cap,rfl,rfl⟩,rfl⟩;exact⟨B,cap,rfl,rfl⟩)
theorem H7 {β:Bs} (L:HL) (b bk:Nat) (idx:Used Th) (hr:aF.cJ (keys idx)) (hn:idx.length<=4096) :
    Spec Tryz.prog β 37 #[Cv bk] [pI b L idx,.blk bk [.map (some b)] 151] (fun v l=>∃ A cap,v=.slice A (keys idx).length cap/\l=[pI b L idx,.blk bk [.map (some b)] 151,.abs (aH 3 1 A (keys idx).length cap (ints (keys idx)))]):=
  (Cw b bk idx.length (bA (bH L idx)) (by omega)).mono (by
    rintro v l ⟨A,cap,ss,rfl,hk,_,rfl⟩
    have e:=JO (us:=bH L idx) (by rw [BB];exact hr) hk
    rw [BB] at e
    subst e
    exact⟨A,cap,rfl,rfl⟩)
theorem NU {β:Bs} (S:aJ) (L:HL) (f m t:Nat) (hI:Inv S) :
    Spec Tryz.prog β 35 #[vP f] [pF f m t S.X,pI m L S.idx,pO S.O L,pD S.O L,pE S.O L] (fun v l=>∃ A c K,v=.agg #[.slice A (av S).length c]/\l=[pF f m t S.X,pI m L S.idx,pO S.O L,pD S.O L,pE S.O L]++GZ A c (av S) K):=by
 have hX:=hI.hX
 have hkl:(keys S.idx).length=S.idx.length:=BI _
 have hil:=hI.len
 refine Spec.enter Tryz.func35 rfl Tryz.ntmps35 (Nat.le_of_ble_eq_true rfl) (fun R=>?_)
 refine SR (gN 1 (fun b4=>[(2,vP b4)]) (fun _=>[]) (fun _=>[]) (fun b4=>.blk b4 [.slice none (0) (0)] 24) (fun b4=>?_))
 refine NS (gN 1 (fun b5=>[(3,vP b5)]) (fun _=>[]) (fun _=>[]) (fun b5=>.blk b5 [.slice none (0) (0)] 24) (fun b5=>?_))
 refine NN (af.seq (SR (gK 4 [(17,.map (some m))] [(3,a_ 0 f)] ?_)))
 refine gL [] (Gx (some m)) ?_
 rintro _ _ ⟨b6,rfl,rfl⟩
 refine gL [2,0] (H7 L m b6 S.idx hI.rise hI.len) ?_
 rintro _ _ ⟨A7,c8,rfl,rfl⟩
 refine gK 1 [(20,vI ↑((keys S.idx).length))] [] ?_
 refine ak.mem (fun w hS=>hS.mo (e:=108) (size:=10)) ?_
 refine ak.mem (fun w hS=>hS.ME (fZ [] PW)) ?_
 refine ak.mem (fun w hS=>hS.ME (gh [] PW)) ?_
 refine gK 1 [(21,vI 0)] [] ?_
 refine NN (af.block ?_)
 refine af.loop (ι:=Nat×(Option Addr)×Nat×Lay) (fun ((i,An,cn,K):Nat×(Option Addr)×Nat×Lay)=>(i<=S.idx.length)) (fun ((i,An,cn,K):Nat×(Option Addr)×Nat×Lay)=>S.idx.length - i) (fun ((i,An,cn,K):Nat×(Option Addr)×Nat×Lay)=>(zq f b4 b5++zu A7 S c8 i)) (fun ((i,An,cn,K):Nat×(Option Addr)×Nat×Lay)=>(xg b5 An i cn K S A7 c8 b4 f m t L++[pD S.O L,pE S.O L,.abs R])) (0,none,0,PW) (idx:=[0,2,3,19,20,21]) (pk:=[9,10,11,12,2,8,3,0,4,5,6,7]) (show (0<=S.idx.length) from (Nat.zero_le _)) (fun _=>by kernel_rfl) rfl (by kernel_rfl) ?_
 rintro⟨i,An,cn,K⟩ hi
 show af _ _ _ _ (zq f b4 b5++zu A7 S c8 i) (xg b5 An i cn K S A7 c8 b4 f m t L++[pD S.O L,pE S.O L,.abs R]) _
 refine SR (gK 1 [(22,.bool (decide ((((i:Nat):Int):Int) < ((((keys S.idx).length:Nat):Int):Int))))] [] ?_)
 refine NN (af.seq (af.aW (p:=(((i:Nat):Int):Int) < ((((keys S.idx).length:Nat):Int):Int)) (fun _=>by kernel_rfl) (fun Dh=>?_) (fun Dh=>?_)))
 ·have hi2:i < S.idx.length:=by omega
  refine af.skip (NX (af.seq (af.block (SR ?_))))
  refine ak.tell (p:=(A7=some ⟨ay A7,ax A7,none⟩)) (fun w hS=>let ⟨F,h⟩:=hS.get (i:=4) rfl;(aH.Kw h (by omega)).1) (fun hAk=>?_)
  refine gK 3 [(5,vI ((bZ S i)))] [(0,p_ ⟨[],some i,none,some ⟨(ay A7),ax A7,none⟩,none⟩ [((i:Nat):Int)=((i:Nat):Int),i < (keys S.idx).length,(⟨(ay A7),ax A7,none⟩:Addr).spot=none,(A7:Option Addr)=some ⟨(ay A7),ax A7,none⟩] ⟨rfl,by omega,rfl,hAk,trivial⟩),(1,p_ ⟨[.view 4 (.int .i64 ((bZ S i)))],none,none,none,none⟩ [(∀ F w,(aH 3 1 A7 ((keys S.idx).length) c8 (ints (keys S.idx))).h F w->w.cell? ⟨(ay A7),ax A7+i * 1,none⟩=some (vI ((bZ S i))))] ⟨aH.cellAt (i:=i) (j:=0) (by omega) (PX hi2),trivial⟩)] ?_
  refine NN (af.seq ?_)
  have Zi:=(lq hI.toInv0 hi2).1
  have hget:=get_at hI.toInv0 hi2
  rcases Vz hI.toInv0 hi2 with ⟨tk,lQ,hlv⟩|⟨tk,lQ,hlv⟩|⟨tk,lQ,hlv⟩
  ·have hkt:(obj S.O tk).kind=1:=hI.kind hlv
   have hel:(obj S.O tk).ah.length<=8192:=hI.iT hlv
   have hdl:(obj S.O tk).data.length<=140737488355328:=hI.KQ hlv
   refine af.region (gK 5 [(28,.map (some m)),(29,vI ((bZ S i)))] [(3,a_ 6 f)] ?_)
   refine ak.dW 7 (d:=(some 30)) (t:=151) (K:=3) (E:=156) (b:=m) (n:=S.idx.length) (f:=(bA (bH L S.idx))) (x:=(.tmp 28)) (ix:=(.tmp 29)) (key:=.int .i64 ((bZ S i))) (z:=.nilIface) (kl:=(.int .i64 (bZ S i))) (r:=(some (eu L ⟨tk,1⟩))) (fun _=>by kernel_rfl) (by kernel_rfl) (fun _=>by kernel_rfl) (fun _=>by kernel_rfl) dZ Tryz.underlying151 (fun _=>by kernel_rfl) (iR (Ed hI.toInv0 hi2)) (by rw [fV,hget,lQ];rfl) ?_
   refine gK 1 [(6,.iface 162 (vP (L.b tk)))] [] ?_
   refine NS (gK 1 [(31,.iface 162 (vP (L.b tk)))] [] ?_)
   refine gL [] (dN (L.b tk)) ?_
   rintro _ _ ⟨rfl,rfl⟩
   refine gK 1 [(7,vP (L.b tk))] [] ?_
   refine NN (af.seq (af.sN (S:=[pO S.O L]) [0,1,3,4,5,6,7,8,9,10,11,12,13,14,15,16,17,18] [.beside [2,19] 20,.one 21] [8] (by kernel_rfl) (by kernel_rfl) rfl (by kernel_rfl) ?_))
   refine gP (zq f b4 b5++[(6,.iface 162 (vP (L.b tk)))]++zu A7 S c8 i++[(33,vI ((bZ S i))),(34,.iface 162 (vP (L.b tk)))]++Eu S tk) [0,1,3,4,5,6,7,8,9,10,11,12,13,14,15,16,17,18] [(5,v_ 0 (tO L hkt)),(9,v_ 0 (z8 L hkt)),(13,v_ 0 (Ab L hkt)),(17,p_ ⟨[.view 0 (.int .i64 ((obj S.O tk).sec)),.view 0 (.int .i64 ((obj S.O tk).nano))],none,none,none,none⟩ [(∀ F w,(aG (bS S.O L)).h F w->w.cell? ⟨(L.b tk),5,none⟩=some (vI ((obj S.O tk).nano))),(∀ F w,(aG (bS S.O L)).h F w->w.cell? ⟨(L.b tk),4,none⟩=some (vI ((obj S.O tk).sec)))] ⟨eV (by rw [hkt];decide) (rfl),eV (by rw [hkt];decide) (rfl),trivial⟩)] ?_
   refine jo.beside (j:=20) (dj:=8) (R:=fun f_ l_=>f_=([(52,.agg #[vI ((bZ S i)),vI 1,vI ((obj S.O tk).mode),vI ((obj S.O tk).uid),vI ((obj S.O tk).gid),vI ((obj S.O tk).sec),vI ((obj S.O tk).nano),.slice none (0) (0),.string ⟨#[]⟩,.slice none (0) (0)]),(35,vI 1)]++zq f b4 b5++[(6,.iface 162 (vP (L.b tk)))]++zu A7 S c8 i++[(33,vI ((bZ S i))),(34,.iface 162 (vP (L.b tk)))]++Eu S tk)/\l_=[]) [0,1,2,3,4,5,6,7,8,9,10,11] [8] [(2,35),(19,52)] rfl (pc:=[]) (pj:=[]) (Z:=(xg b5 An i cn K S A7 c8 b4 f m t L++[pD S.O L,pE S.O L,.abs R])) (by kernel_rfl) rfl (by kernel_rfl) rfl rfl (iM.of (ι:=Nat) (v:=fun (b9:Nat)=>vP b9) (l:=fun (b9:Nat)=>[Ur b9]) [35,52] rfl rfl rfl rfl ?_) ?_ ?_
   ·intro u Aq
    show ak _ _ _ _ _ [(35,(u 35)),(52,(u 52)),(0,vP f),(2,vP b4),(3,vP b5),(6,.iface 162 (vP (L.b tk))),(19,.slice A7 ((keys S.idx).length) (c8)),(20,vI ↑((keys S.idx).length)),(21,vI ↑i),(33,vI ((bZ S i))),(34,.iface 162 (vP (L.b tk))),(39,vI ((obj S.O tk).mode)),(43,vI ((obj S.O tk).uid)),(47,vI ((obj S.O tk).gid)),(51,.agg #[vI ((obj S.O tk).sec),vI ((obj S.O tk).nano)])] [.abs Aq] _
    refine gN 1 (fun b9=>[(8,vP b9)]) (fun _=>[]) (fun _=>[]) (fun b9=>.blk b9 [vI 0,vI 0,vI 0,vI 0,vI 0,vI 0,vI 0,.slice none (0) (0),.string ⟨#[]⟩,.slice none (0) (0)] 108) (fun b9=>?_)
    refine NL ?_
    exact MD b9 [8,35,52,0,2,3,6,19,20,21,33,34,39,43,47,51] [1,0]
   ·refine lu.step (iM.of (ι:=Unit) (v:=fun (_:Unit)=>.int .i64 1) (l:=fun (_:Unit)=>[]) [8] rfl rfl rfl rfl ?_) rfl ?_
    ·intro u Aq
     show ak _ _ _ _ _ [(8,(u 8)),(0,vP f),(2,vP b4),(3,vP b5),(6,.iface 162 (vP (L.b tk))),(19,.slice A7 ((keys S.idx).length) (c8)),(20,vI ↑((keys S.idx).length)),(21,vI ↑i),(33,vI ((bZ S i))),(34,.iface 162 (vP (L.b tk))),(39,vI ((obj S.O tk).mode)),(43,vI ((obj S.O tk).uid)),(47,vI ((obj S.O tk).gid)),(51,.agg #[vI ((obj S.O tk).sec),vI ((obj S.O tk).nano)])] [.abs Aq] _
     refine gL [] (qE (vP (L.b tk))) ?_
     rintro _ _ ⟨rfl,rfl⟩
     refine NL ?_
     exact MD () [35,8,0,2,3,6,19,20,21,33,34,39,43,47,51] [0]
    rintro _ _ ⟨_,rfl,rfl⟩
    refine lu.step (iM.of (ι:=Unit) (v:=fun (_:Unit)=>.agg #[vI ((bZ S i)),vI 1,vI ((obj S.O tk).mode),vI ((obj S.O tk).uid),vI ((obj S.O tk).gid),vI ((obj S.O tk).sec),vI ((obj S.O tk).nano),.slice none (0) (0),.string ⟨#[]⟩,.slice none (0) (0)]) (l:=fun (_:Unit)=>[]) [8] rfl rfl rfl rfl ?_) rfl ?_
    ·intro u Aq
     show ak _ _ _ _ _ [(8,(u 8)),(35,vI 1),(0,vP f),(2,vP b4),(3,vP b5),(6,.iface 162 (vP (L.b tk))),(19,.slice A7 ((keys S.idx).length) (c8)),(20,vI ↑((keys S.idx).length)),(21,vI ↑i),(33,vI ((bZ S i))),(34,.iface 162 (vP (L.b tk))),(39,vI ((obj S.O tk).mode)),(43,vI ((obj S.O tk).uid)),(47,vI ((obj S.O tk).gid)),(51,.agg #[vI ((obj S.O tk).sec),vI ((obj S.O tk).nano)])] [.abs Aq] _
     refine gK 1 [(52,.agg #[vI ((bZ S i)),vI 1,vI ((obj S.O tk).mode),vI ((obj S.O tk).uid),vI ((obj S.O tk).gid),vI ((obj S.O tk).sec),vI ((obj S.O tk).nano),.slice none (0) (0),.string ⟨#[]⟩,.slice none (0) (0)])] [] ?_
     refine NL ?_
     exact MD () [52,8,35,0,2,3,6,19,20,21,33,34,39,43,47,51] [0]
    rintro _ _ ⟨_,rfl,rfl⟩
    exact⟨rfl,rfl⟩
   rintro _ _ ⟨rfl,rfl⟩ _ _ ⟨b9,rfl,rfl⟩
   refine jo.last rfl rfl ?_
   refine gC 1 [] [(0,A_ 0 b9 10)] [(0,([(0,vI ((bZ S i))),(1,vI 1)]++Qj S tk))] ?_
   refine NL (aj.np (NX (af.seq (SR ?_))))
   refine gK 1 [(53,.iface 162 (vP (L.b tk)))] [] ?_
   refine NN (af.block (SR ?_))
   refine gK 3 [(55,.bool true),(56,vP (L.b tk))] [] ?_
   refine NN (CT (SR (gK 1 [(9,vP (L.b tk))] [] ?_)))
   refine NN (af.region (gK 4 [(60,.slice (L.dA tk) ((obj S.O tk).data.length) ((L.dC tk)))] [(3,v_ 9 (G9 L hkt))] ?_))
   refine ak.mem (dm:=([Wv b9 S i tk]++xg b5 An i cn K S A7 c8 b4 f m t L++[Wg S L tk,pE S.O L,.abs R,.abs (aH 5 1 (L.dA tk) ((obj S.O tk).data.length) (L.dC tk) (cG (obj S.O tk).data))])) (fun w hS=>hS.MG (i:=10) (k:=tk) rfl hkt) ?_
   refine gL [13] (H6 (L.dA tk) (L.dC tk) (obj S.O tk).data hdl) ?_
   rintro _ _ ⟨p6,c11,rfl,rfl⟩
   refine ak.mem (dm:=([pD S.O L,.abs (aH 5 1 p6 ((obj S.O tk).data.length) c11 (cG (obj S.O tk).data)),Wv b9 S i tk]++xg b5 An i cn K S A7 c8 b4 f m t L++[pE S.O L,.abs R])) (fun w hS=>hS.TS (i:=12) (j:=1) (ix:=[0,2,3,4,5,6,7,8,9,10,11,13,14]) rfl rfl (by kernel_rfl) rfl hkt) ?_
   refine gC 2 [] [(1,a_ 2 b9)] [(2,[(7,.slice p6 ((obj S.O tk).data.length) (c11))])] ?_
   refine NL (aj.aO (NX (af.region ?_)))
   refine gN 4 (fun b12=>[(104,.slice An (i) (cn)),(106,.slice (some ⟨b12,0,none⟩) (1) (1))]) (fun b12=>[(1,a_ 3 b5),(2,A_ 2 b9 10)]) (fun _=>[]) (fun b12=>.blk b12 [vI ((bZ S i)),vI 1,vI ((obj S.O tk).mode),vI ((obj S.O tk).uid),vI ((obj S.O tk).gid),vI ((obj S.O tk).sec),vI ((obj S.O tk).nano),.slice p6 ((obj S.O tk).data.length) (c11),.string ⟨#[]⟩,.slice none (0) (0)] 108) (fun b12=>?_)
   refine ak.append 4 (d:=(some 107)) (t:=22) (e:=108) (z:=.agg #[vI 0,vI 0,vI 0,vI 0,vI 0,vI 0,vI 0,.slice none (0) (0),.string ⟨#[]⟩,.slice none (0) (0)]) (size:=10) (bytes:=120) (n:=i) (cap:=cn) (A:=An) (xs:=(bP K ((av S).take i))) (s:=(.tmp 104)) (x:=(.tmp 106)) (ats:=#[22,22]) (A':=some ⟨b12,0,none⟩) (m:=1) (c':=1) (news:=[vI ((bZ S i)),vI 1,vI ((obj S.O tk).mode),vI ((obj S.O tk).uid),vI ((obj S.O tk).gid),vI ((obj S.O tk).sec),vI ((obj S.O tk).nano),.slice p6 ((obj S.O tk).data.length) (c11),.string ⟨#[]⟩,.slice none (0) (0)]) (fun _=>by kernel_rfl) rfl (by kernel_rfl) (fun _=>by kernel_rfl) (fun _=>by kernel_rfl) Tryz.underlying22 (by kernel_rfl) rfl (by decide) (rfl) (by simp [Value.oneCell']) (mA (j:=14) rfl) (by unfold maxLen;omega) (by omega) (fun Ka c14=>?_)
   refine ak.dV 4 (p:=.abs (aH 108 10 Ka (i+1) c14 ((bP K ((av S).take i))++[vI ((bZ S i)),vI 1,vI ((obj S.O tk).mode),vI ((obj S.O tk).uid),vI ((obj S.O tk).gid),vI ((obj S.O tk).sec),vI ((obj S.O tk).nano),.slice p6 ((obj S.O tk).data.length) (c11),.string ⟨#[]⟩,.slice none (0) (0)]))) (p':=.abs (aH 108 10 Ka (i+1) c14 (bP (K.put i p6 c11 none 0) ((av S).take (i+1))))) (by kernel_rfl) (congrArg (fun x=>HP.abs (aH 108 10 _ _ _ x)) (wN (d9 (by omega)) (rL hI.toInv0 hi2 lQ hlv) rfl rfl)) ?_
   refine ak.slot 107 (.slice Ka (i+1) (c14)) (.slice Ka ((i+1)) (c14)) (fun _=>by kernel_rfl) (rfl) ?_
   refine gC 2 [] [(1,a_ 3 b5)] [(3,[(0,.slice Ka ((i+1)) (c14))])] ?_
   refine NL (aj.aO (NX (af.region ?_)))
   refine gK 2 [(21,vI ↑(i+1))] [(0,p_ ⟨[],none,none,none,some (vI ↑(i+1))⟩ [(Value.int .i64 (IntKind.wrap .i64 (((i:Nat):Int)+1)))=(.int .i64 ↑(i+1))] ⟨bC (by omega) (by omega) (by omega),trivial⟩)] ?_
   refine NL (aj.mem (fun w hS=>hS.mo (e:=110) (size:=2)) ?_)
   refine aj.mem (fun w hS=>hS.sR (R':=(gh ((av S).take (i+1)) (K.put i p6 c11 none 0))) (i:=6) (j:=1) (idx:=[0,2,3,4,5,7,8,9,10,11,12,13,14,15]) rfl rfl (by kernel_rfl) rfl (BJ (d9 (by omega)) (rL hI.toInv0 hi2 lQ hlv)) (yT (d9 (by omega)) (rL hI.toInv0 hi2 lQ hlv) rfl)) ?_
   refine aj.mem (fun w hS=>hS.sR (R':=(fZ ((av S).take (i+1)) (K.put i p6 c11 none 0))) (i:=5) (j:=14) (idx:=[0,1,2,3,4,6,7,8,9,10,11,12,13]) rfl rfl (by kernel_rfl) rfl (BK (d9 (by omega)) (rL hI.toInv0 hi2 lQ hlv)) ((yU (d9 (by omega)) (rL hI.toInv0 hi2 lQ hlv) rfl))) ?_
   exact aj.turn ((i+1),Ka,c14,(K.put i p6 c11 none 0)) (idx:=[0,2,3,19,20,21]) (pk:=[4,5,0,1,6,7,8,9,10,2,11,12]) (show (((i+1))<=S.idx.length) from (by omega)) (by show S.idx.length - ((i+1)) < S.idx.length - i;omega) (fun _=>by kernel_rfl) rfl (by kernel_rfl)
  ·have hkt:(obj S.O tk).kind=2:=hI.kind hlv
   have hel:(obj S.O tk).ah.length<=8192:=hI.iT hlv
   have hdl:(obj S.O tk).data.length<=140737488355328:=hI.KQ hlv
   refine af.region (gK 5 [(28,.map (some m)),(29,vI ((bZ S i)))] [(3,a_ 6 f)] ?_)
   refine ak.dW 7 (d:=(some 30)) (t:=151) (K:=3) (E:=156) (b:=m) (n:=S.idx.length) (f:=(bA (bH L S.idx))) (x:=(.tmp 28)) (ix:=(.tmp 29)) (key:=.int .i64 ((bZ S i))) (z:=.nilIface) (kl:=(.int .i64 (bZ S i))) (r:=(some (eu L ⟨tk,2⟩))) (fun _=>by kernel_rfl) (by kernel_rfl) (fun _=>by kernel_rfl) (fun _=>by kernel_rfl) dZ Tryz.underlying151 (fun _=>by kernel_rfl) (iR (Ed hI.toInv0 hi2)) (by rw [fV,hget,lQ];rfl) ?_
   refine gK 1 [(6,.iface 169 (vP (L.b tk)))] [] ?_
   refine NS (gK 1 [(31,.iface 169 (vP (L.b tk)))] [] ?_)
   refine gL [] (dN (L.b tk)) ?_
   rintro _ _ ⟨rfl,rfl⟩
   refine gK 1 [(7,vP (L.b tk))] [] ?_
   refine NN (af.seq (af.sN (S:=[pO S.O L]) [0,1,3,4,5,6,7,8,9,10,11,12,13,14,15,16,17,18] [.beside [2,19] 20,.one 21] [8] (by kernel_rfl) (by kernel_rfl) rfl (by kernel_rfl) ?_))
   refine gP (zq f b4 b5++[(6,.iface 169 (vP (L.b tk)))]++zu A7 S c8 i++[(33,vI ((bZ S i))),(34,.iface 169 (vP (L.b tk)))]++Eu S tk) [0,1,3,4,5,6,7,8,9,10,11,12,13,14,15,16,17,18] [(5,v_ 0 (tO L hkt)),(9,v_ 0 (z8 L hkt)),(13,v_ 0 (Ab L hkt)),(17,p_ ⟨[.view 0 (.int .i64 ((obj S.O tk).sec)),.view 0 (.int .i64 ((obj S.O tk).nano))],none,none,none,none⟩ [(∀ F w,(aG (bS S.O L)).h F w->w.cell? ⟨(L.b tk),5,none⟩=some (vI ((obj S.O tk).nano))),(∀ F w,(aG (bS S.O L)).h F w->w.cell? ⟨(L.b tk),4,none⟩=some (vI ((obj S.O tk).sec)))] ⟨eV (by rw [hkt];decide) (rfl),eV (by rw [hkt];decide) (rfl),trivial⟩)] ?_
   refine jo.beside (j:=20) (dj:=8) (R:=fun f_ l_=>f_=([(52,.agg #[vI ((bZ S i)),vI 2,vI ((obj S.O tk).mode),vI ((obj S.O tk).uid),vI ((obj S.O tk).gid),vI ((obj S.O tk).sec),vI ((obj S.O tk).nano),.slice none (0) (0),.string ⟨#[]⟩,.slice none (0) (0)]),(35,vI 2)]++zq f b4 b5++[(6,.iface 169 (vP (L.b tk)))]++zu A7 S c8 i++[(33,vI ((bZ S i))),(34,.iface 169 (vP (L.b tk)))]++Eu S tk)/\l_=[]) [0,1,2,3,4,5,6,7,8,9,10,11] [8] [(2,35),(19,52)] rfl (pc:=[]) (pj:=[]) (Z:=(xg b5 An i cn K S A7 c8 b4 f m t L++[pD S.O L,pE S.O L,.abs R])) (by kernel_rfl) rfl (by kernel_rfl) rfl rfl (iM.of (ι:=Nat) (v:=fun (b15:Nat)=>vP b15) (l:=fun (b15:Nat)=>[Ur b15]) [35,52] rfl rfl rfl rfl ?_) ?_ ?_
   ·intro u Aq
    show ak _ _ _ _ _ [(35,(u 35)),(52,(u 52)),(0,vP f),(2,vP b4),(3,vP b5),(6,.iface 169 (vP (L.b tk))),(19,.slice A7 ((keys S.idx).length) (c8)),(20,vI ↑((keys S.idx).length)),(21,vI ↑i),(33,vI ((bZ S i))),(34,.iface 169 (vP (L.b tk))),(39,vI ((obj S.O tk).mode)),(43,vI ((obj S.O tk).uid)),(47,vI ((obj S.O tk).gid)),(51,.agg #[vI ((obj S.O tk).sec),vI ((obj S.O tk).nano)])] [.abs Aq] _
    refine gN 1 (fun b15=>[(8,vP b15)]) (fun _=>[]) (fun _=>[]) (fun b15=>.blk b15 [vI 0,vI 0,vI 0,vI 0,vI 0,vI 0,vI 0,.slice none (0) (0),.string ⟨#[]⟩,.slice none (0) (0)] 108) (fun b15=>?_)
    refine NL ?_
    exact MD b15 [8,35,52,0,2,3,6,19,20,21,33,34,39,43,47,51] [1,0]
   ·refine lu.step (iM.of (ι:=Unit) (v:=fun (_:Unit)=>.int .i64 2) (l:=fun (_:Unit)=>[]) [8] rfl rfl rfl rfl ?_) rfl ?_
    ·intro u Aq
     show ak _ _ _ _ _ [(8,(u 8)),(0,vP f),(2,vP b4),(3,vP b5),(6,.iface 169 (vP (L.b tk))),(19,.slice A7 ((keys S.idx).length) (c8)),(20,vI ↑((keys S.idx).length)),(21,vI ↑i),(33,vI ((bZ S i))),(34,.iface 169 (vP (L.b tk))),(39,vI ((obj S.O tk).mode)),(43,vI ((obj S.O tk).uid)),(47,vI ((obj S.O tk).gid)),(51,.agg #[vI ((obj S.O tk).sec),vI ((obj S.O tk).nano)])] [.abs Aq] _
     refine gL [] (qF (vP (L.b tk))) ?_
     rintro _ _ ⟨rfl,rfl⟩
     refine NL ?_
     exact MD () [35,8,0,2,3,6,19,20,21,33,34,39,43,47,51] [0]
    rintro _ _ ⟨_,rfl,rfl⟩
    refine lu.step (iM.of (ι:=Unit) (v:=fun (_:Unit)=>.agg #[vI ((bZ S i)),vI 2,vI ((obj S.O tk).mode),vI ((obj S.O tk).uid),vI ((obj S.O tk).gid),vI ((obj S.O tk).sec),vI ((obj S.O tk).nano),.slice none (0) (0),.string ⟨#[]⟩,.slice none (0) (0)]) (l:=fun (_:Unit)=>[]) [8] rfl rfl rfl rfl ?_) rfl ?_
    ·intro u Aq
     show ak _ _ _ _ _ [(8,(u 8)),(35,vI 2),(0,vP f),(2,vP b4),(3,vP b5),(6,.iface 169 (vP (L.b tk))),(19,.slice A7 ((keys S.idx).length) (c8)),(20,vI ↑((keys S.idx).length)),(21,vI ↑i),(33,vI ((bZ S i))),(34,.iface 169 (vP (L.b tk))),(39,vI ((obj S.O tk).mode)),(43,vI ((obj S.O tk).uid)),(47,vI ((obj S.O tk).gid)),(51,.agg #[vI ((obj S.O tk).sec),vI ((obj S.O tk).nano)])] [.abs Aq] _
     refine gK 1 [(52,.agg #[vI ((bZ S i)),vI 2,vI ((obj S.O tk).mode),vI ((obj S.O tk).uid),vI ((obj S.O tk).gid),vI ((obj S.O tk).sec),vI ((obj S.O tk).nano),.slice none (0) (0),.string ⟨#[]⟩,.slice none (0) (0)])] [] ?_
     refine NL ?_
     exact MD () [52,8,35,0,2,3,6,19,20,21,33,34,39,43,47,51] [0]
    rintro _ _ ⟨_,rfl,rfl⟩
    exact⟨rfl,rfl⟩
   rintro _ _ ⟨rfl,rfl⟩ _ _ ⟨b15,rfl,rfl⟩
   refine jo.last rfl rfl ?_
   refine gC 1 [] [(0,A_ 0 b15 10)] [(0,([(0,vI ((bZ S i))),(1,vI 2)]++Qj S tk))] ?_
   refine NL (aj.np (NX (af.seq (SR ?_))))
   refine gK 1 [(53,.iface 169 (vP (L.b tk)))] [] ?_
   refine NN (af.block (SR ?_))
   refine gK 3 [(55,.bool false),(56,.pointer none)] [] ?_
   refine NN (CF (SR (gK 3 [(64,.bool false),(65,.pointer none)] [] ?_)))
   refine NN (CF (SR (gK 3 [(72,.bool true),(73,vP (L.b tk))] [] ?_)))
   refine NN (CT (SR (gK 1 [(11,vP (L.b tk))] [] ?_)))
   refine NS (gK 4 [(77,.map (some (L.m tk)))] [(3,v_ 9 (bQ L hkt))] ?_)
   refine ak.mem (dm:=([.blk b15 [vI ((bZ S i)),vI 2,vI ((obj S.O tk).mode),vI ((obj S.O tk).uid),vI ((obj S.O tk).gid),vI ((obj S.O tk).sec),vI ((obj S.O tk).nano),.slice none (0) (0),.string ⟨#[]⟩,.slice none (0) (0)] 108]++xg b5 An i cn K S A7 c8 b4 f m t L++[pD S.O L,Us S L tk,.abs R,HY L tk S])) (fun w hS=>hS.Tn (i:=11) (k:=tk) rfl (hkt)) ?_
   refine gL [] (PU (some (L.m tk))) ?_
   rintro _ _ ⟨b16,rfl,rfl⟩
   refine gL [14,0] (Lb L (L.m tk) b16 (obj S.O tk).ah.length (obj S.O tk).ah (hI.sorted _ hlv) hel) ?_
   rintro _ _ ⟨eH,c18,rfl,rfl⟩
   refine gK 1 [(80,vI ↑((obj S.O tk).ah.length))] [] ?_
   refine ak.mem (fun w hS=>hS.mo (e:=110) (size:=2)) ?_
   refine gK 1 [(81,vI 0)] [] ?_
   refine NN (af.block ?_)
   refine af.loop (ι:=Nat×(Option Addr)×Nat) (fun ((j,Ae,ce):Nat×(Option Addr)×Nat)=>(j<=(obj S.O tk).ah.length)) (fun ((j,Ae,ce):Nat×(Option Addr)×Nat)=>(obj S.O tk).ah.length - j) (fun ((j,Ae,ce):Nat×(Option Addr)×Nat)=>(HZ f b4 b5 b15 L tk A7 S c8 i eH c18 j)) (fun ((j,Ae,ce):Nat×(Option Addr)×Nat)=>([jT b15 S i tk Ae j ce,oK Ae j ce S tk]++lK L tk S b16 eH c18 b5 An i cn K A7 c8 b4 f m t R)) (0,none,0) (idx:=[0,2,3,8,11,19,20,21,79,80,81]) (pk:=[3,16,0,1,2,4,5,6,7,8,9,10,11,12,13,14,15]) (show (0<=(obj S.O tk).ah.length) from (Nat.zero_le _)) (fun _=>by kernel_rfl) rfl (by kernel_rfl) ?_
   rintro⟨j,Ae,ce⟩ hj
   show af _ _ _ _ (HZ f b4 b5 b15 L tk A7 S c8 i eH c18 j) ([jT b15 S i tk Ae j ce,oK Ae j ce S tk]++lK L tk S b16 eH c18 b5 An i cn K A7 c8 b4 f m t R) _
   refine SR (gK 1 [(82,.bool (decide ((((j:Nat):Int):Int) < ((((obj S.O tk).ah.length:Nat):Int):Int))))] [] ?_)
   refine NN (af.seq (af.aW (p:=(((j:Nat):Int):Int) < ((((obj S.O tk).ah.length:Nat):Int):Int)) (fun _=>by kernel_rfl) (fun Yk=>?_) (fun Yk=>?_)))
   ·have hj2:j < (obj S.O tk).ah.length:=by omega
    refine af.skip (NX (af.seq (af.block (SR ?_))))
    refine ak.tell (p:=(eH=some ⟨ay eH,ax eH,none⟩)) (fun w hS=>let ⟨F,h⟩:=hS.get (i:=4) rfl;(aH.Kw h (by omega)).1) (fun Yl=>?_)
    refine gK 3 [(13,.string (fB (obj S.O tk).ah j))] [(0,p_ ⟨[],some j,none,some ⟨(ay eH),ax eH,none⟩,none⟩ [((j:Nat):Int)=((j:Nat):Int),j < (obj S.O tk).ah.length,(⟨(ay eH),ax eH,none⟩:Addr).spot=none,(eH:Option Addr)=some ⟨(ay eH),ax eH,none⟩] ⟨rfl,by omega,rfl,Yl,trivial⟩),(1,p_ ⟨[.view 4 (.string (fB (obj S.O tk).ah j))],none,none,none,none⟩ [(∀ F w,(aH 9 1 eH ((obj S.O tk).ah.length) c18 (rK (obj S.O tk).ah)).h F w->w.cell? ⟨(ay eH),ax eH+j * 1,none⟩=some (.string (fB (obj S.O tk).ah j)))] ⟨aH.cellAt (i:=j) (j:=0) (by omega) (Ld hj2),trivial⟩)] ?_
    refine NN ?_
    obtain⟨hgd,h4⟩:=Xh hI.toInv0 hlv hj2
    have hgs:(fB (obj S.O tk).ah j).size<=255:=hgd.2.1
    rcases h4 with ⟨ek,hle,H8,NV⟩|⟨ek,hle,H8,NV⟩|⟨ek,hle,H8,NV⟩
    ·have hke:(obj S.O ek).kind=1:=hI.kind H8
     refine af.ck (S:=[HY L tk S,pO S.O L,jT b15 S i tk Ae j ce]) [0,1,2,3,4,5,6,7,8,9,10,11,12,13,14,15,16,17] 9 [2,13,0] (by kernel_rfl) (by kernel_rfl) rfl (by kernel_rfl) ?_
     refine gR 1 [8,9,10,11,12,13,14,15,16,17] (HZ f b4 b5 b15 L tk A7 S c8 i eH c18 j++r9 Ae j ce S tk++[(91,.map (some (L.m tk))),(92,.string (fB (obj S.O tk).ah j))]) [0,1,2,3,4,5,6,7] [(1,a_ 2 b15),(6,v_ 1 (bQ L hkt))] ?_
     refine aQ.dW 0 (d:=(some 93)) (t:=174) (K:=9) (E:=156) (b:=(L.m tk)) (cnt:=(obj S.O tk).ah.length) (f:=(jm L (obj S.O tk).ah)) (x:=(.tmp 91)) (ix:=(.tmp 92)) (key:=.string (fB (obj S.O tk).ah j)) (z:=.nilIface) (kl:=(.string (fB (obj S.O tk).ah j).data.toList)) (q:=(some (eu L ⟨ek,1⟩))) (by kernel_rfl) (by kernel_rfl) (fun _=>by kernel_rfl) (fun _=>by kernel_rfl) Bx Tryz.underlying174 (fun _=>by kernel_rfl) (DU (by omega)) (by rw [sS,hle];rfl) (by kernel_rfl) ?_
     refine mL [2,13,0] [] (dN (L.b ek)) ?_ (by rintro _ _ ⟨rfl,rfl⟩;rfl)
     rintro _ _ ⟨rfl,rfl⟩
     refine aQ.cut (ι:=Unit) (fr':=fun (_:Unit)=>(mE f b4 b5 b15 L tk A7 S c8 i eH c18 j++r9 Ae j ce S tk++[(95,vP (L.b ek))])) (hp':=fun (_:Unit)=>([jT b15 S i tk Ae j ce,oK Ae j ce S tk]++lK L tk S b16 eH c18 b5 An i cn K A7 c8 b4 f m t R)) [2,13,0] rfl rfl ?_ rfl (fun _=>by kernel_rfl) ?_
     ·refine gK 1 [(95,vP (L.b ek))] [] ?_
      refine NL ?_
      exact MD () [0,2,3,8,11,19,20,21,79,80,81,86,87,95] [0,1,2,3,4,5,6,7,8,9,10,11,12,13,14,15,16]
     rintro _
     refine aQ.cut (ι:=Unit) (fr':=fun (_:Unit)=>(mE f b4 b5 b15 L tk A7 S c8 i eH c18 j++r9 Ae j ce S tk++[(96,vP (L.b ek))])) (hp':=fun (_:Unit)=>([jT b15 S i tk Ae j ce,oK Ae j ce S tk]++lK L tk S b16 eH c18 b5 An i cn K A7 c8 b4 f m t R)) [2,13,0] rfl rfl ?_ rfl (fun _=>by kernel_rfl) ?_
     ·refine gK 1 [(96,vP (L.b ek))] [] ?_
      refine NL ?_
      exact MD () [0,2,3,8,11,19,20,21,79,80,81,86,87,96] [0,1,2,3,4,5,6,7,8,9,10,11,12,13,14,15,16]
     rintro _
     refine aQ.cut (ι:=Unit) (fr':=fun (_:Unit)=>(mE f b4 b5 b15 L tk A7 S c8 i eH c18 j++r9 Ae j ce S tk++[(97,vI ((obj S.O ek).id))])) (hp':=fun (_:Unit)=>([jT b15 S i tk Ae j ce,oK Ae j ce S tk]++lK L tk S b16 eH c18 b5 An i cn K A7 c8 b4 f m t R)) [2,13,0] rfl rfl ?_ rfl (fun _=>by kernel_rfl) ?_
     ·refine gK 1 [(97,vI ((obj S.O ek).id))] [(0,v_ 13 (rZ L hke))] ?_
      refine NL ?_
      exact MD () [0,2,3,8,11,19,20,21,79,80,81,86,87,97] [0,1,2,3,4,5,6,7,8,9,10,11,12,13,14,15,16]
     rintro _
     refine aQ.cut (ι:=Unit) (fr':=fun (_:Unit)=>(mE f b4 b5 b15 L tk A7 S c8 i eH c18 j++[(86,.slice Ae (j) (ce)),(98,.agg #[.string (fB (obj S.O tk).ah j),vI ((obj S.O ek).id)])])) (hp':=fun (_:Unit)=>([jT b15 S i tk Ae j ce,oK Ae j ce S tk]++lK L tk S b16 eH c18 b5 An i cn K A7 c8 b4 f m t R)) [2,13,0] rfl rfl ?_ rfl (fun _=>by kernel_rfl) ?_
     ·refine gK 1 [(98,.agg #[.string (fB (obj S.O tk).ah j),vI ((obj S.O ek).id)])] [] ?_
      refine NL ?_
      exact MD () [0,2,3,8,11,19,20,21,79,80,81,86,98] [0,1,2,3,4,5,6,7,8,9,10,11,12,13,14,15,16]
     rintro _
     refine mN [2,13,0] (fun b19=>[(99,.slice (some ⟨b19,0,none⟩) (1) (1))]) (fun _=>[]) (fun b19=>.blk b19 [.string (fB (obj S.O tk).ah j),vI ((obj S.O ek).id)] 110) (fun b19=>?_)
     refine aQ.cut (ι:=(Option Addr)×Nat) (fr':=fun ((nU,nV):(Option Addr)×Nat)=>(mE f b4 b5 b15 L tk A7 S c8 i eH c18 j++[(100,.slice nU ((j+1)) (nV))])) (hp':=fun ((nU,nV):(Option Addr)×Nat)=>([jT b15 S i tk Ae j ce,Es nU j nV S tk]++lK L tk S b16 eH c18 b5 An i cn K A7 c8 b4 f m t R++[Et b19 S tk j ek])) [2,13,0] rfl rfl ?_ rfl (fun _=>by kernel_rfl) ?_
     ·refine ak.append 1 (d:=(some 100)) (t:=106) (e:=110) (z:=.agg #[.string ⟨#[]⟩,vI 0]) (size:=2) (bytes:=24) (n:=j) (cap:=ce) (A:=Ae) (xs:=(iO (((obj S.O tk).ah.take j).map (jI S.O)))) (s:=(.tmp 86)) (x:=(.tmp 99)) (ats:=#[106,106]) (A':=some ⟨b19,0,none⟩) (m:=1) (c':=1) (news:=[.string (fB (obj S.O tk).ah j),vI ((obj S.O ek).id)]) (fun _=>by kernel_rfl) rfl (by kernel_rfl) (fun _=>by kernel_rfl) (fun _=>by kernel_rfl) Tryz.underlying106 (by kernel_rfl) rfl (by decide) (rfl) (by simp [Value.oneCell']) (mA (j:=17) rfl) (by unfold maxLen;omega) (by omega) (fun nU nV=>?_)
      refine ak.dV 1 (p:=.abs (aH 110 2 nU (j+1) nV ((iO (((obj S.O tk).ah.take j).map (jI S.O)))++[.string (fB (obj S.O tk).ah j),vI ((obj S.O ek).id)]))) (p':=.abs (aH 110 2 nU (j+1) nV (iO (((obj S.O tk).ah.take (j+1)).map (jI S.O))))) (by kernel_rfl) (congrArg (fun x=>HP.abs (aH 110 2 _ _ _ x)) (yV hj2 NV)) ?_
      refine ak.slot 100 (.slice nU (j+1) (nV)) (.slice nU ((j+1)) (nV)) (fun _=>by kernel_rfl) (rfl) ?_
      refine NL ?_
      exact MD (nU,nV) [0,2,3,8,11,19,20,21,79,80,81,100] [0,1,2,3,4,5,6,7,8,9,10,11,12,13,14,15,16,17]
     rintro⟨nU,nV⟩
     refine aQ.cut (ι:=Unit) (fr':=fun (_:Unit)=>(mE f b4 b5 b15 L tk A7 S c8 i eH c18 j++[(100,.slice nU ((j+1)) (nV)),(101,.pointer (some ⟨b15,9,none⟩))])) (hp':=fun (_:Unit)=>([jT b15 S i tk Ae j ce,Es nU j nV S tk]++lK L tk S b16 eH c18 b5 An i cn K A7 c8 b4 f m t R++[Et b19 S tk j ek])) [2,13,0] rfl rfl ?_ rfl (fun _=>by kernel_rfl) ?_
     ·refine gK 1 [(101,.pointer (some ⟨b15,9,none⟩))] [] ?_
      refine NL ?_
      exact MD () [0,2,3,8,11,19,20,21,79,80,81,100,101] [0,1,2,3,4,5,6,7,8,9,10,11,12,13,14,15,16,17]
     rintro _
     refine aQ.last rfl rfl ?_
     refine gC 1 [] [(0,a_ 0 b15)] [(0,[(9,.slice nU ((j+1)) (nV))])] ?_
     refine NL (aj.np (aj.aO (NX (af.region ?_))))
     refine gK 2 [(81,vI ↑(j+1))] [(0,p_ ⟨[],none,none,none,some (vI ↑(j+1))⟩ [(Value.int .i64 (IntKind.wrap .i64 (((j:Nat):Int)+1)))=(.int .i64 ↑(j+1))] ⟨bC (by omega) (by omega) (by omega),trivial⟩)] ?_
     refine NL ?_
     exact aj.turn ((j+1),nU,nV) (idx:=[0,2,3,8,11,19,20,21,79,80,81]) (pk:=[0,1,2,3,4,5,6,7,8,9,10,11,12,13,14,15,16]) (show (((j+1))<=(obj S.O tk).ah.length) from (by omega)) (by show (obj S.O tk).ah.length - ((j+1)) < (obj S.O tk).ah.length - j;omega) (fun _=>by kernel_rfl) rfl (by kernel_rfl)
    ·have hke:(obj S.O ek).kind=2:=hI.kind H8
     refine af.ck (S:=[HY L tk S,pO S.O L,jT b15 S i tk Ae j ce]) [0,1,2,3,4,5,6,7,8,9,10,11,12,13,14,15,16,17] 9 [2,13,0] (by kernel_rfl) (by kernel_rfl) rfl (by kernel_rfl) ?_
     refine gR 1 [8,9,10,11,12,13,14,15,16,17] (HZ f b4 b5 b15 L tk A7 S c8 i eH c18 j++r9 Ae j ce S tk++[(91,.map (some (L.m tk))),(92,.string (fB (obj S.O tk).ah j))]) [0,1,2,3,4,5,6,7] [(1,a_ 2 b15),(6,v_ 1 (bQ L hkt))] ?_
     refine aQ.dW 0 (d:=(some 93)) (t:=174) (K:=9) (E:=156) (b:=(L.m tk)) (cnt:=(obj S.O tk).ah.length) (f:=(jm L (obj S.O tk).ah)) (x:=(.tmp 91)) (ix:=(.tmp 92)) (key:=.string (fB (obj S.O tk).ah j)) (z:=.nilIface) (kl:=(.string (fB (obj S.O tk).ah j).data.toList)) (q:=(some (eu L ⟨ek,2⟩))) (by kernel_rfl) (by kernel_rfl) (fun _=>by kernel_rfl) (fun _=>by kernel_rfl) Bx Tryz.underlying174 (fun _=>by kernel_rfl) (DU (by omega)) (by rw [sS,hle];rfl) (by kernel_rfl) ?_
     refine mL [2,13,0] [] (dN (L.b ek)) ?_ (by rintro _ _ ⟨rfl,rfl⟩;rfl)
     rintro _ _ ⟨rfl,rfl⟩
     refine aQ.cut (ι:=Unit) (fr':=fun (_:Unit)=>(mE f b4 b5 b15 L tk A7 S c8 i eH c18 j++r9 Ae j ce S tk++[(95,vP (L.b ek))])) (hp':=fun (_:Unit)=>([jT b15 S i tk Ae j ce,oK Ae j ce S tk]++lK L tk S b16 eH c18 b5 An i cn K A7 c8 b4 f m t R)) [2,13,0] rfl rfl ?_ rfl (fun _=>by kernel_rfl) ?_
     ·refine gK 1 [(95,vP (L.b ek))] [] ?_
      refine NL ?_
      exact MD () [0,2,3,8,11,19,20,21,79,80,81,86,87,95] [0,1,2,3,4,5,6,7,8,9,10,11,12,13,14,15,16]
     rintro _
     refine aQ.cut (ι:=Unit) (fr':=fun (_:Unit)=>(mE f b4 b5 b15 L tk A7 S c8 i eH c18 j++r9 Ae j ce S tk++[(96,vP (L.b ek))])) (hp':=fun (_:Unit)=>([jT b15 S i tk Ae j ce,oK Ae j ce S tk]++lK L tk S b16 eH c18 b5 An i cn K A7 c8 b4 f m t R)) [2,13,0] rfl rfl ?_ rfl (fun _=>by kernel_rfl) ?_
     ·refine gK 1 [(96,vP (L.b ek))] [] ?_
      refine NL ?_
      exact MD () [0,2,3,8,11,19,20,21,79,80,81,86,87,96] [0,1,2,3,4,5,6,7,8,9,10,11,12,13,14,15,16]
     rintro _
     refine aQ.cut (ι:=Unit) (fr':=fun (_:Unit)=>(mE f b4 b5 b15 L tk A7 S c8 i eH c18 j++r9 Ae j ce S tk++[(97,vI ((obj S.O ek).id))])) (hp':=fun (_:Unit)=>([jT b15 S i tk Ae j ce,oK Ae j ce S tk]++lK L tk S b16 eH c18 b5 An i cn K A7 c8 b4 f m t R)) [2,13,0] rfl rfl ?_ rfl (fun _=>by kernel_rfl) ?_
     ·refine gK 1 [(97,vI ((obj S.O ek).id))] [(0,v_ 13 (rZ L hke))] ?_
      refine NL ?_
      exact MD () [0,2,3,8,11,19,20,21,79,80,81,86,87,97] [0,1,2,3,4,5,6,7,8,9,10,11,12,13,14,15,16]
     rintro _
     refine aQ.cut (ι:=Unit) (fr':=fun (_:Unit)=>(mE f b4 b5 b15 L tk A7 S c8 i eH c18 j++[(86,.slice Ae (j) (ce)),(98,.agg #[.string (fB (obj S.O tk).ah j),vI ((obj S.O ek).id)])])) (hp':=fun (_:Unit)=>([jT b15 S i tk Ae j ce,oK Ae j ce S tk]++lK L tk S b16 eH c18 b5 An i cn K A7 c8 b4 f m t R)) [2,13,0] rfl rfl ?_ rfl (fun _=>by kernel_rfl) ?_
     ·refine gK 1 [(98,.agg #[.string (fB (obj S.O tk).ah j),vI ((obj S.O ek).id)])] [] ?_
      refine NL ?_
      exact MD () [0,2,3,8,11,19,20,21,79,80,81,86,98] [0,1,2,3,4,5,6,7,8,9,10,11,12,13,14,15,16]
     rintro _
     refine mN [2,13,0] (fun H9=>[(99,.slice (some ⟨H9,0,none⟩) (1) (1))]) (fun _=>[]) (fun H9=>.blk H9 [.string (fB (obj S.O tk).ah j),vI ((obj S.O ek).id)] 110) (fun H9=>?_)
     refine aQ.cut (ι:=(Option Addr)×Nat) (fr':=fun ((uS,uT):(Option Addr)×Nat)=>(mE f b4 b5 b15 L tk A7 S c8 i eH c18 j++[(100,.slice uS ((j+1)) (uT))])) (hp':=fun ((uS,uT):(Option Addr)×Nat)=>([jT b15 S i tk Ae j ce,Es uS j uT S tk]++lK L tk S b16 eH c18 b5 An i cn K A7 c8 b4 f m t R++[Et H9 S tk j ek])) [2,13,0] rfl rfl ?_ rfl (fun _=>by kernel_rfl) ?_
     ·refine ak.append 1 (d:=(some 100)) (t:=106) (e:=110) (z:=.agg #[.string ⟨#[]⟩,vI 0]) (size:=2) (bytes:=24) (n:=j) (cap:=ce) (A:=Ae) (xs:=(iO (((obj S.O tk).ah.take j).map (jI S.O)))) (s:=(.tmp 86)) (x:=(.tmp 99)) (ats:=#[106,106]) (A':=some ⟨H9,0,none⟩) (m:=1) (c':=1) (news:=[.string (fB (obj S.O tk).ah j),vI ((obj S.O ek).id)]) (fun _=>by kernel_rfl) rfl (by kernel_rfl) (fun _=>by kernel_rfl) (fun _=>by kernel_rfl) Tryz.underlying106 (by kernel_rfl) rfl (by decide) (rfl) (by simp [Value.oneCell']) (mA (j:=17) rfl) (by unfold maxLen;omega) (by omega) (fun uS uT=>?_)
      refine ak.dV 1 (p:=.abs (aH 110 2 uS (j+1) uT ((iO (((obj S.O tk).ah.take j).map (jI S.O)))++[.string (fB (obj S.O tk).ah j),vI ((obj S.O ek).id)]))) (p':=.abs (aH 110 2 uS (j+1) uT (iO (((obj S.O tk).ah.take (j+1)).map (jI S.O))))) (by kernel_rfl) (congrArg (fun x=>HP.abs (aH 110 2 _ _ _ x)) (yV hj2 NV)) ?_
      refine ak.slot 100 (.slice uS (j+1) (uT)) (.slice uS ((j+1)) (uT)) (fun _=>by kernel_rfl) (rfl) ?_
      refine NL ?_
      exact MD (uS,uT) [0,2,3,8,11,19,20,21,79,80,81,100] [0,1,2,3,4,5,6,7,8,9,10,11,12,13,14,15,16,17]
     rintro⟨uS,uT⟩
     refine aQ.cut (ι:=Unit) (fr':=fun (_:Unit)=>(mE f b4 b5 b15 L tk A7 S c8 i eH c18 j++[(100,.slice uS ((j+1)) (uT)),(101,.pointer (some ⟨b15,9,none⟩))])) (hp':=fun (_:Unit)=>([jT b15 S i tk Ae j ce,Es uS j uT S tk]++lK L tk S b16 eH c18 b5 An i cn K A7 c8 b4 f m t R++[Et H9 S tk j ek])) [2,13,0] rfl rfl ?_ rfl (fun _=>by kernel_rfl) ?_
     ·refine gK 1 [(101,.pointer (some ⟨b15,9,none⟩))] [] ?_
      refine NL ?_
      exact MD () [0,2,3,8,11,19,20,21,79,80,81,100,101] [0,1,2,3,4,5,6,7,8,9,10,11,12,13,14,15,16,17]
     rintro _
     refine aQ.last rfl rfl ?_
     refine gC 1 [] [(0,a_ 0 b15)] [(0,[(9,.slice uS ((j+1)) (uT))])] ?_
     refine NL (aj.np (aj.aO (NX (af.region ?_))))
     refine gK 2 [(81,vI ↑(j+1))] [(0,p_ ⟨[],none,none,none,some (vI ↑(j+1))⟩ [(Value.int .i64 (IntKind.wrap .i64 (((j:Nat):Int)+1)))=(.int .i64 ↑(j+1))] ⟨bC (by omega) (by omega) (by omega),trivial⟩)] ?_
     refine NL ?_
     exact aj.turn ((j+1),uS,uT) (idx:=[0,2,3,8,11,19,20,21,79,80,81]) (pk:=[0,1,2,3,4,5,6,7,8,9,10,11,12,13,14,15,16]) (show (((j+1))<=(obj S.O tk).ah.length) from (by omega)) (by show (obj S.O tk).ah.length - ((j+1)) < (obj S.O tk).ah.length - j;omega) (fun _=>by kernel_rfl) rfl (by kernel_rfl)
    have hke:(obj S.O ek).kind=3:=hI.kind H8
    refine af.ck (S:=[HY L tk S,pO S.O L,jT b15 S i tk Ae j ce]) [0,1,2,3,4,5,6,7,8,9,10,11,12,13,14,15,16,17] 9 [2,13,0] (by kernel_rfl) (by kernel_rfl) rfl (by kernel_rfl) ?_
    refine gR 1 [8,9,10,11,12,13,14,15,16,17] (HZ f b4 b5 b15 L tk A7 S c8 i eH c18 j++r9 Ae j ce S tk++[(91,.map (some (L.m tk))),(92,.string (fB (obj S.O tk).ah j))]) [0,1,2,3,4,5,6,7] [(1,a_ 2 b15),(6,v_ 1 (bQ L hkt))] ?_
    refine aQ.dW 0 (d:=(some 93)) (t:=174) (K:=9) (E:=156) (b:=(L.m tk)) (cnt:=(obj S.O tk).ah.length) (f:=(jm L (obj S.O tk).ah)) (x:=(.tmp 91)) (ix:=(.tmp 92)) (key:=.string (fB (obj S.O tk).ah j)) (z:=.nilIface) (kl:=(.string (fB (obj S.O tk).ah j).data.toList)) (q:=(some (eu L ⟨ek,3⟩))) (by kernel_rfl) (by kernel_rfl) (fun _=>by kernel_rfl) (fun _=>by kernel_rfl) Bx Tryz.underlying174 (fun _=>by kernel_rfl) (DU (by omega)) (by rw [sS,hle];rfl) (by kernel_rfl) ?_
    refine mL [2,13,0] [] (dN (L.b ek)) ?_ (by rintro _ _ ⟨rfl,rfl⟩;rfl)
    rintro _ _ ⟨rfl,rfl⟩
    refine aQ.cut (ι:=Unit) (fr':=fun (_:Unit)=>(mE f b4 b5 b15 L tk A7 S c8 i eH c18 j++r9 Ae j ce S tk++[(95,vP (L.b ek))])) (hp':=fun (_:Unit)=>([jT b15 S i tk Ae j ce,oK Ae j ce S tk]++lK L tk S b16 eH c18 b5 An i cn K A7 c8 b4 f m t R)) [2,13,0] rfl rfl ?_ rfl (fun _=>by kernel_rfl) ?_
    ·refine gK 1 [(95,vP (L.b ek))] [] ?_
     refine NL ?_
     exact MD () [0,2,3,8,11,19,20,21,79,80,81,86,87,95] [0,1,2,3,4,5,6,7,8,9,10,11,12,13,14,15,16]
    rintro _
    refine aQ.cut (ι:=Unit) (fr':=fun (_:Unit)=>(mE f b4 b5 b15 L tk A7 S c8 i eH c18 j++r9 Ae j ce S tk++[(96,vP (L.b ek))])) (hp':=fun (_:Unit)=>([jT b15 S i tk Ae j ce,oK Ae j ce S tk]++lK L tk S b16 eH c18 b5 An i cn K A7 c8 b4 f m t R)) [2,13,0] rfl rfl ?_ rfl (fun _=>by kernel_rfl) ?_
    ·refine gK 1 [(96,vP (L.b ek))] [] ?_
     refine NL ?_
     exact MD () [0,2,3,8,11,19,20,21,79,80,81,86,87,96] [0,1,2,3,4,5,6,7,8,9,10,11,12,13,14,15,16]
    rintro _
    refine aQ.cut (ι:=Unit) (fr':=fun (_:Unit)=>(mE f b4 b5 b15 L tk A7 S c8 i eH c18 j++r9 Ae j ce S tk++[(97,vI ((obj S.O ek).id))])) (hp':=fun (_:Unit)=>([jT b15 S i tk Ae j ce,oK Ae j ce S tk]++lK L tk S b16 eH c18 b5 An i cn K A7 c8 b4 f m t R)) [2,13,0] rfl rfl ?_ rfl (fun _=>by kernel_rfl) ?_
    ·refine gK 1 [(97,vI ((obj S.O ek).id))] [(0,v_ 13 (rZ L hke))] ?_
     refine NL ?_
     exact MD () [0,2,3,8,11,19,20,21,79,80,81,86,87,97] [0,1,2,3,4,5,6,7,8,9,10,11,12,13,14,15,16]
    rintro _
    refine aQ.cut (ι:=Unit) (fr':=fun (_:Unit)=>(mE f b4 b5 b15 L tk A7 S c8 i eH c18 j++[(86,.slice Ae (j) (ce)),(98,.agg #[.string (fB (obj S.O tk).ah j),vI ((obj S.O ek).id)])])) (hp':=fun (_:Unit)=>([jT b15 S i tk Ae j ce,oK Ae j ce S tk]++lK L tk S b16 eH c18 b5 An i cn K A7 c8 b4 f m t R)) [2,13,0] rfl rfl ?_ rfl (fun _=>by kernel_rfl) ?_
    ·refine gK 1 [(98,.agg #[.string (fB (obj S.O tk).ah j),vI ((obj S.O ek).id)])] [] ?_
     refine NL ?_
     exact MD () [0,2,3,8,11,19,20,21,79,80,81,86,98] [0,1,2,3,4,5,6,7,8,9,10,11,12,13,14,15,16]
    rintro _
    refine mN [2,13,0] (fun Ia=>[(99,.slice (some ⟨Ia,0,none⟩) (1) (1))]) (fun _=>[]) (fun Ia=>.blk Ia [.string (fB (obj S.O tk).ah j),vI ((obj S.O ek).id)] 110) (fun Ia=>?_)
    refine aQ.cut (ι:=(Option Addr)×Nat) (fr':=fun ((uU,uV):(Option Addr)×Nat)=>(mE f b4 b5 b15 L tk A7 S c8 i eH c18 j++[(100,.slice uU ((j+1)) (uV))])) (hp':=fun ((uU,uV):(Option Addr)×Nat)=>([jT b15 S i tk Ae j ce,Es uU j uV S tk]++lK L tk S b16 eH c18 b5 An i cn K A7 c8 b4 f m t R++[Et Ia S tk j ek])) [2,13,0] rfl rfl ?_ rfl (fun _=>by kernel_rfl) ?_
    ·refine ak.append 1 (d:=(some 100)) (t:=106) (e:=110) (z:=.agg #[.string ⟨#[]⟩,vI 0]) (size:=2) (bytes:=24) (n:=j) (cap:=ce) (A:=Ae) (xs:=(iO (((obj S.O tk).ah.take j).map (jI S.O)))) (s:=(.tmp 86)) (x:=(.tmp 99)) (ats:=#[106,106]) (A':=some ⟨Ia,0,none⟩) (m:=1) (c':=1) (news:=[.string (fB (obj S.O tk).ah j),vI ((obj S.O ek).id)]) (fun _=>by kernel_rfl) rfl (by kernel_rfl) (fun _=>by kernel_rfl) (fun _=>by kernel_rfl) Tryz.underlying106 (by kernel_rfl) rfl (by decide) (rfl) (by simp [Value.oneCell']) (mA (j:=17) rfl) (by unfold maxLen;omega) (by omega) (fun uU uV=>?_)
     refine ak.dV 1 (p:=.abs (aH 110 2 uU (j+1) uV ((iO (((obj S.O tk).ah.take j).map (jI S.O)))++[.string (fB (obj S.O tk).ah j),vI ((obj S.O ek).id)]))) (p':=.abs (aH 110 2 uU (j+1) uV (iO (((obj S.O tk).ah.take (j+1)).map (jI S.O))))) (by kernel_rfl) (congrArg (fun x=>HP.abs (aH 110 2 _ _ _ x)) (yV hj2 NV)) ?_
     refine ak.slot 100 (.slice uU (j+1) (uV)) (.slice uU ((j+1)) (uV)) (fun _=>by kernel_rfl) (rfl) ?_
     refine NL ?_
     exact MD (uU,uV) [0,2,3,8,11,19,20,21,79,80,81,100] [0,1,2,3,4,5,6,7,8,9,10,11,12,13,14,15,16,17]
    rintro⟨uU,uV⟩
    refine aQ.cut (ι:=Unit) (fr':=fun (_:Unit)=>(mE f b4 b5 b15 L tk A7 S c8 i eH c18 j++[(100,.slice uU ((j+1)) (uV)),(101,.pointer (some ⟨b15,9,none⟩))])) (hp':=fun (_:Unit)=>([jT b15 S i tk Ae j ce,Es uU j uV S tk]++lK L tk S b16 eH c18 b5 An i cn K A7 c8 b4 f m t R++[Et Ia S tk j ek])) [2,13,0] rfl rfl ?_ rfl (fun _=>by kernel_rfl) ?_
    ·refine gK 1 [(101,.pointer (some ⟨b15,9,none⟩))] [] ?_
     refine NL ?_
     exact MD () [0,2,3,8,11,19,20,21,79,80,81,100,101] [0,1,2,3,4,5,6,7,8,9,10,11,12,13,14,15,16,17]
    rintro _
    refine aQ.last rfl rfl ?_
    refine gC 1 [] [(0,a_ 0 b15)] [(0,[(9,.slice uU ((j+1)) (uV))])] ?_
    refine NL (aj.np (aj.aO (NX (af.region ?_))))
    refine gK 2 [(81,vI ↑(j+1))] [(0,p_ ⟨[],none,none,none,some (vI ↑(j+1))⟩ [(Value.int .i64 (IntKind.wrap .i64 (((j:Nat):Int)+1)))=(.int .i64 ↑(j+1))] ⟨bC (by omega) (by omega) (by omega),trivial⟩)] ?_
    refine NL ?_
    exact aj.turn ((j+1),uU,uV) (idx:=[0,2,3,8,11,19,20,21,79,80,81]) (pk:=[0,1,2,3,4,5,6,7,8,9,10,11,12,13,14,15,16]) (show (((j+1))<=(obj S.O tk).ah.length) from (by omega)) (by show (obj S.O tk).ah.length - ((j+1)) < (obj S.O tk).ah.length - j;omega) (fun _=>by kernel_rfl) rfl (by kernel_rfl)
   refine af.exit (aj.aV (aj.aV (aj.cL (aj.aO (NX (af.region ?_))))))
   have hjl:j=(obj S.O tk).ah.length:=by omega
   refine ak.mem (dm:=([pE S.O L,jT b15 S i tk Ae j ce,oK Ae j ce S tk,Ut b16 L tk,Uu eH S tk c18]++xg b5 An i cn K S A7 c8 b4 f m t L++[pD S.O L,.abs R])) (fun w hS=>hS.Tp (i:=15) (j:=2) (idx:=[0,1,3,4,5,6,7,8,9,10,11,12,13,14,16]) (k:=tk) rfl rfl (by kernel_rfl) rfl (hkt)) ?_
   refine gN 4 (fun Kb=>[(104,.slice An (i) (cn)),(106,.slice (some ⟨Kb,0,none⟩) (1) (1))]) (fun Kb=>[(1,a_ 5 b5),(2,A_ 1 b15 10)]) (fun _=>[]) (fun Kb=>.blk Kb [vI ((bZ S i)),vI 2,vI ((obj S.O tk).mode),vI ((obj S.O tk).uid),vI ((obj S.O tk).gid),vI ((obj S.O tk).sec),vI ((obj S.O tk).nano),.slice none (0) (0),.string ⟨#[]⟩,.slice Ae (j) (ce)] 108) (fun Kb=>?_)
   refine ak.append 6 (d:=(some 107)) (t:=22) (e:=108) (z:=.agg #[vI 0,vI 0,vI 0,vI 0,vI 0,vI 0,vI 0,.slice none (0) (0),.string ⟨#[]⟩,.slice none (0) (0)]) (size:=10) (bytes:=120) (n:=i) (cap:=cn) (A:=An) (xs:=(bP K ((av S).take i))) (s:=(.tmp 104)) (x:=(.tmp 106)) (ats:=#[22,22]) (A':=some ⟨Kb,0,none⟩) (m:=1) (c':=1) (news:=[vI ((bZ S i)),vI 2,vI ((obj S.O tk).mode),vI ((obj S.O tk).uid),vI ((obj S.O tk).gid),vI ((obj S.O tk).sec),vI ((obj S.O tk).nano),.slice none (0) (0),.string ⟨#[]⟩,.slice Ae (j) (ce)]) (fun _=>by kernel_rfl) rfl (by kernel_rfl) (fun _=>by kernel_rfl) (fun _=>by kernel_rfl) Tryz.underlying22 (by kernel_rfl) rfl (by decide) (rfl) (by simp [Value.oneCell']) (mA (j:=16) rfl) (by unfold maxLen;omega) (by omega) (fun Kc Ke=>?_)
   refine ak.dV 6 (p:=.abs (aH 108 10 Kc (i+1) Ke ((bP K ((av S).take i))++[vI ((bZ S i)),vI 2,vI ((obj S.O tk).mode),vI ((obj S.O tk).uid),vI ((obj S.O tk).gid),vI ((obj S.O tk).sec),vI ((obj S.O tk).nano),.slice none (0) (0),.string ⟨#[]⟩,.slice Ae (j) (ce)]))) (p':=.abs (aH 108 10 Kc (i+1) Ke (bP (K.put i none 0 Ae ce) ((av S).take (i+1))))) (by kernel_rfl) (congrArg (fun x=>HP.abs (aH 108 10 _ _ _ x)) (wN (d9 (by omega)) (tM hI.toInv0 hi2 lQ hlv) rfl (by show ((obj S.O tk).ah.map (jI S.O)).length=j;rw [List.length_map,hjl]))) ?_
   refine ak.slot 107 (.slice Kc (i+1) (Ke)) (.slice Kc ((i+1)) (Ke)) (fun _=>by kernel_rfl) (rfl) ?_
   refine gC 2 [] [(1,a_ 5 b5)] [(5,[(0,.slice Kc ((i+1)) (Ke))])] ?_
   refine NL (aj.aO (NX (af.region ?_)))
   refine gK 2 [(21,vI ↑(i+1))] [(0,p_ ⟨[],none,none,none,some (vI ↑(i+1))⟩ [(Value.int .i64 (IntKind.wrap .i64 (((i:Nat):Int)+1)))=(.int .i64 ↑(i+1))] ⟨bC (by omega) (by omega) (by omega),trivial⟩)] ?_
   refine NL (aj.mem (fun w hS=>hS.mo (e:=5) (size:=1)) ?_)
   refine aj.mem (fun w hS=>hS.sR (R':=(gh ((av S).take (i+1)) (K.put i none 0 Ae ce))) (i:=8) (j:=17) (idx:=[0,1,2,3,4,5,6,7,9,10,11,12,13,14,15,16]) rfl rfl (by kernel_rfl) rfl (BJ (d9 (by omega)) (tM hI.toInv0 hi2 lQ hlv)) (yT (d9 (by omega)) (tM hI.toInv0 hi2 lQ hlv) rfl)) ?_
   refine aj.mem (fun w hS=>hS.sR (R':=(fZ ((av S).take (i+1)) (K.put i none 0 Ae ce))) (i:=8) (j:=3) (idx:=[0,1,2,4,5,6,7,9,10,11,12,13,14,15,16]) rfl rfl (by kernel_rfl) rfl (BK (d9 (by omega)) (tM hI.toInv0 hi2 lQ hlv)) ((yU (d9 (by omega)) (tM hI.toInv0 hi2 lQ hlv) (by show ((obj S.O tk).ah.map (jI S.O)).length=j;rw [List.length_map,hjl])).trans (by rw [hjl,List.take_length]))) ?_
   exact aj.turn ((i+1),Kc,Ke,(K.put i none 0 Ae ce)) (idx:=[0,2,3,19,20,21]) (pk:=[6,7,0,1,8,9,10,11,12,13,2,14]) (show (((i+1))<=S.idx.length) from (by omega)) (by show S.idx.length - ((i+1)) < S.idx.length - i;omega) (fun _=>by kernel_rfl) rfl (by kernel_rfl)
  have hkt:(obj S.O tk).kind=3:=hI.kind hlv
  have hel:(obj S.O tk).ah.length<=8192:=hI.iT hlv
  have hdl:(obj S.O tk).data.length<=140737488355328:=hI.KQ hlv
  refine af.region (gK 5 [(28,.map (some m)),(29,vI ((bZ S i)))] [(3,a_ 6 f)] ?_)
  refine ak.dW 7 (d:=(some 30)) (t:=151) (K:=3) (E:=156) (b:=m) (n:=S.idx.length) (f:=(bA (bH L S.idx))) (x:=(.tmp 28)) (ix:=(.tmp 29)) (key:=.int .i64 ((bZ S i))) (z:=.nilIface) (kl:=(.int .i64 (bZ S i))) (r:=(some (eu L ⟨tk,3⟩))) (fun _=>by kernel_rfl) (by kernel_rfl) (fun _=>by kernel_rfl) (fun _=>by kernel_rfl) dZ Tryz.underlying151 (fun _=>by kernel_rfl) (iR (Ed hI.toInv0 hi2)) (by rw [fV,hget,lQ];rfl) ?_
  refine gK 1 [(6,.iface 166 (vP (L.b tk)))] [] ?_
  refine NS (gK 1 [(31,.iface 166 (vP (L.b tk)))] [] ?_)
  refine gL [] (dN (L.b tk)) ?_
  rintro _ _ ⟨rfl,rfl⟩
  refine gK 1 [(7,vP (L.b tk))] [] ?_
  refine NN (af.seq (af.sN (S:=[pO S.O L]) [0,1,3,4,5,6,7,8,9,10,11,12,13,14,15,16,17,18] [.beside [2,19] 20,.one 21] [8] (by kernel_rfl) (by kernel_rfl) rfl (by kernel_rfl) ?_))
  refine gP (zq f b4 b5++[(6,.iface 166 (vP (L.b tk)))]++zu A7 S c8 i++[(33,vI ((bZ S i))),(34,.iface 166 (vP (L.b tk)))]++Eu S tk) [0,1,3,4,5,6,7,8,9,10,11,12,13,14,15,16,17,18] [(5,v_ 0 (tO L hkt)),(9,v_ 0 (z8 L hkt)),(13,v_ 0 (Ab L hkt)),(17,p_ ⟨[.view 0 (.int .i64 ((obj S.O tk).sec)),.view 0 (.int .i64 ((obj S.O tk).nano))],none,none,none,none⟩ [(∀ F w,(aG (bS S.O L)).h F w->w.cell? ⟨(L.b tk),5,none⟩=some (vI ((obj S.O tk).nano))),(∀ F w,(aG (bS S.O L)).h F w->w.cell? ⟨(L.b tk),4,none⟩=some (vI ((obj S.O tk).sec)))] ⟨eV (by rw [hkt];decide) (rfl),eV (by rw [hkt];decide) (rfl),trivial⟩)] ?_
  refine jo.beside (j:=20) (dj:=8) (R:=fun f_ l_=>f_=([(52,.agg #[vI ((bZ S i)),vI 3,vI ((obj S.O tk).mode),vI ((obj S.O tk).uid),vI ((obj S.O tk).gid),vI ((obj S.O tk).sec),vI ((obj S.O tk).nano),.slice none (0) (0),.string ⟨#[]⟩,.slice none (0) (0)]),(35,vI 3)]++zq f b4 b5++[(6,.iface 166 (vP (L.b tk)))]++zu A7 S c8 i++[(33,vI ((bZ S i))),(34,.iface 166 (vP (L.b tk)))]++Eu S tk)/\l_=[]) [0,1,2,3,4,5,6,7,8,9,10,11] [8] [(2,35),(19,52)] rfl (pc:=[]) (pj:=[]) (Z:=(xg b5 An i cn K S A7 c8 b4 f m t L++[pD S.O L,pE S.O L,.abs R])) (by kernel_rfl) rfl (by kernel_rfl) rfl rfl (iM.of (ι:=Nat) (v:=fun (vT:Nat)=>vP vT) (l:=fun (vT:Nat)=>[Ur vT]) [35,52] rfl rfl rfl rfl ?_) ?_ ?_
  ·intro u Aq
   show ak _ _ _ _ _ [(35,(u 35)),(52,(u 52)),(0,vP f),(2,vP b4),(3,vP b5),(6,.iface 166 (vP (L.b tk))),(19,.slice A7 ((keys S.idx).length) (c8)),(20,vI ↑((keys S.idx).length)),(21,vI ↑i),(33,vI ((bZ S i))),(34,.iface 166 (vP (L.b tk))),(39,vI ((obj S.O tk).mode)),(43,vI ((obj S.O tk).uid)),(47,vI ((obj S.O tk).gid)),(51,.agg #[vI ((obj S.O tk).sec),vI ((obj S.O tk).nano)])] [.abs Aq] _
   refine gN 1 (fun vT=>[(8,vP vT)]) (fun _=>[]) (fun _=>[]) (fun vT=>.blk vT [vI 0,vI 0,vI 0,vI 0,vI 0,vI 0,vI 0,.slice none (0) (0),.string ⟨#[]⟩,.slice none (0) (0)] 108) (fun vT=>?_)
   refine NL ?_
   exact MD vT [8,35,52,0,2,3,6,19,20,21,33,34,39,43,47,51] [1,0]
  ·refine lu.step (iM.of (ι:=Unit) (v:=fun (_:Unit)=>.int .i64 3) (l:=fun (_:Unit)=>[]) [8] rfl rfl rfl rfl ?_) rfl ?_
   ·intro u Aq
    show ak _ _ _ _ _ [(8,(u 8)),(0,vP f),(2,vP b4),(3,vP b5),(6,.iface 166 (vP (L.b tk))),(19,.slice A7 ((keys S.idx).length) (c8)),(20,vI ↑((keys S.idx).length)),(21,vI ↑i),(33,vI ((bZ S i))),(34,.iface 166 (vP (L.b tk))),(39,vI ((obj S.O tk).mode)),(43,vI ((obj S.O tk).uid)),(47,vI ((obj S.O tk).gid)),(51,.agg #[vI ((obj S.O tk).sec),vI ((obj S.O tk).nano)])] [.abs Aq] _
    refine gL [] (qG (vP (L.b tk))) ?_
    rintro _ _ ⟨rfl,rfl⟩
    refine NL ?_
    exact MD () [35,8,0,2,3,6,19,20,21,33,34,39,43,47,51] [0]
   rintro _ _ ⟨_,rfl,rfl⟩
   refine lu.step (iM.of (ι:=Unit) (v:=fun (_:Unit)=>.agg #[vI ((bZ S i)),vI 3,vI ((obj S.O tk).mode),vI ((obj S.O tk).uid),vI ((obj S.O tk).gid),vI ((obj S.O tk).sec),vI ((obj S.O tk).nano),.slice none (0) (0),.string ⟨#[]⟩,.slice none (0) (0)]) (l:=fun (_:Unit)=>[]) [8] rfl rfl rfl rfl ?_) rfl ?_
   ·intro u Aq
    show ak _ _ _ _ _ [(8,(u 8)),(35,vI 3),(0,vP f),(2,vP b4),(3,vP b5),(6,.iface 166 (vP (L.b tk))),(19,.slice A7 ((keys S.idx).length) (c8)),(20,vI ↑((keys S.idx).length)),(21,vI ↑i),(33,vI ((bZ S i))),(34,.iface 166 (vP (L.b tk))),(39,vI ((obj S.O tk).mode)),(43,vI ((obj S.O tk).uid)),(47,vI ((obj S.O tk).gid)),(51,.agg #[vI ((obj S.O tk).sec),vI ((obj S.O tk).nano)])] [.abs Aq] _
    refine gK 1 [(52,.agg #[vI ((bZ S i)),vI 3,vI ((obj S.O tk).mode),vI ((obj S.O tk).uid),vI ((obj S.O tk).gid),vI ((obj S.O tk).sec),vI ((obj S.O tk).nano),.slice none (0) (0),.string ⟨#[]⟩,.slice none (0) (0)])] [] ?_
    refine NL ?_
    exact MD () [52,8,35,0,2,3,6,19,20,21,33,34,39,43,47,51] [0]
   rintro _ _ ⟨_,rfl,rfl⟩
   exact⟨rfl,rfl⟩
  rintro _ _ ⟨rfl,rfl⟩ _ _ ⟨vT,rfl,rfl⟩
  refine jo.last rfl rfl ?_
  refine gC 1 [] [(0,A_ 0 vT 10)] [(0,([(0,vI ((bZ S i))),(1,vI 3)]++Qj S tk))] ?_
  refine NL (aj.np (NX (af.seq (SR ?_))))
  refine gK 1 [(53,.iface 166 (vP (L.b tk)))] [] ?_
  refine NN (af.block (SR ?_))
  refine gK 3 [(55,.bool false),(56,.pointer none)] [] ?_
  refine NN (CF (SR (gK 3 [(64,.bool true),(65,vP (L.b tk))] [] ?_)))
  refine NN (CT (SR (gK 1 [(10,vP (L.b tk))] [] ?_)))
  refine NN (af.region (gC 6 [] [(3,v_ 9 (VB L hkt)),(5,a_ 0 vT)] [(0,[(8,.string (obj S.O tk).target)])] ?_))
  refine NL (aj.aO (NX (af.region ?_)))
  refine gN 4 (fun b32=>[(104,.slice An (i) (cn)),(106,.slice (some ⟨b32,0,none⟩) (1) (1))]) (fun b32=>[(1,a_ 1 b5),(2,A_ 0 vT 10)]) (fun _=>[]) (fun b32=>.blk b32 [vI ((bZ S i)),vI 3,vI ((obj S.O tk).mode),vI ((obj S.O tk).uid),vI ((obj S.O tk).gid),vI ((obj S.O tk).sec),vI ((obj S.O tk).nano),.slice none (0) (0),.string (obj S.O tk).target,.slice none (0) (0)] 108) (fun b32=>?_)
  refine ak.append 2 (d:=(some 107)) (t:=22) (e:=108) (z:=.agg #[vI 0,vI 0,vI 0,vI 0,vI 0,vI 0,vI 0,.slice none (0) (0),.string ⟨#[]⟩,.slice none (0) (0)]) (size:=10) (bytes:=120) (n:=i) (cap:=cn) (A:=An) (xs:=(bP K ((av S).take i))) (s:=(.tmp 104)) (x:=(.tmp 106)) (ats:=#[22,22]) (A':=some ⟨b32,0,none⟩) (m:=1) (c':=1) (news:=[vI ((bZ S i)),vI 3,vI ((obj S.O tk).mode),vI ((obj S.O tk).uid),vI ((obj S.O tk).gid),vI ((obj S.O tk).sec),vI ((obj S.O tk).nano),.slice none (0) (0),.string (obj S.O tk).target,.slice none (0) (0)]) (fun _=>by kernel_rfl) rfl (by kernel_rfl) (fun _=>by kernel_rfl) (fun _=>by kernel_rfl) Tryz.underlying22 (by kernel_rfl) rfl (by decide) (rfl) (by simp [Value.oneCell']) (mA (j:=13) rfl) (by unfold maxLen;omega) (by omega) (fun Kf Kg=>?_)
  refine ak.dV 2 (p:=.abs (aH 108 10 Kf (i+1) Kg ((bP K ((av S).take i))++[vI ((bZ S i)),vI 3,vI ((obj S.O tk).mode),vI ((obj S.O tk).uid),vI ((obj S.O tk).gid),vI ((obj S.O tk).sec),vI ((obj S.O tk).nano),.slice none (0) (0),.string (obj S.O tk).target,.slice none (0) (0)]))) (p':=.abs (aH 108 10 Kf (i+1) Kg (bP (K.put i none 0 none 0) ((av S).take (i+1))))) (by kernel_rfl) (congrArg (fun x=>HP.abs (aH 108 10 _ _ _ x)) (wN (d9 (by omega)) (rM hI.toInv0 hi2 lQ hlv) rfl rfl)) ?_
  refine ak.slot 107 (.slice Kf (i+1) (Kg)) (.slice Kf ((i+1)) (Kg)) (fun _=>by kernel_rfl) (rfl) ?_
  refine gC 2 [] [(1,a_ 1 b5)] [(1,[(0,.slice Kf ((i+1)) (Kg))])] ?_
  refine NL (aj.aO (NX (af.region ?_)))
  refine gK 2 [(21,vI ↑(i+1))] [(0,p_ ⟨[],none,none,none,some (vI ↑(i+1))⟩ [(Value.int .i64 (IntKind.wrap .i64 (((i:Nat):Int)+1)))=(.int .i64 ↑(i+1))] ⟨bC (by omega) (by omega) (by omega),trivial⟩)] ?_
  refine NL (aj.mem (fun w hS=>hS.mo (e:=5) (size:=1)) ?_)
  refine aj.mem (fun w hS=>hS.mo (e:=110) (size:=2)) ?_
  refine aj.mem (fun w hS=>hS.sR (R':=(gh ((av S).take (i+1)) (K.put i none 0 none 0))) (i:=4) (j:=14) (idx:=[0,1,2,3,5,6,7,8,9,10,11,12,13,15]) rfl rfl (by kernel_rfl) rfl (BJ (d9 (by omega)) (rM hI.toInv0 hi2 lQ hlv)) (yT (d9 (by omega)) (rM hI.toInv0 hi2 lQ hlv) rfl)) ?_
  refine aj.mem (fun w hS=>hS.sR (R':=(fZ ((av S).take (i+1)) (K.put i none 0 none 0))) (i:=4) (j:=14) (idx:=[0,1,2,3,5,6,7,8,9,10,11,12,13]) rfl rfl (by kernel_rfl) rfl (BK (d9 (by omega)) (rM hI.toInv0 hi2 lQ hlv)) ((yU (d9 (by omega)) (rM hI.toInv0 hi2 lQ hlv) rfl))) ?_
  exact aj.turn ((i+1),Kf,Kg,(K.put i none 0 none 0)) (idx:=[0,2,3,19,20,21]) (pk:=[3,4,0,1,5,6,7,8,9,10,11,12]) (show (((i+1))<=S.idx.length) from (by omega)) (by show S.idx.length - ((i+1)) < S.idx.length - i;omega) (fun _=>by kernel_rfl) rfl (by kernel_rfl)
 refine af.exit (aj.aV (aj.aV (aj.cL (NX (SR ?_)))))
 have hie:(av S).length=i:=by rw [eX];omega
 have hgt:((av S).take i)=(av S):=by rw [← hie,List.take_length]
 refine ak.dV 1 (p:=.abs (aH 108 10 An i cn (bP K ((av S).take i)))) (p':=.abs (aH 108 10 An ((av S).length) cn (bP K (av S)))) (by kernel_rfl) (by rw [hgt,hie]) ?_
 refine ak.dV 2 (p:=.abs (cW (fZ ((av S).take i) K) i)) (p':=.abs (cW (fZ (av S) K) ((av S).length))) (by kernel_rfl) (by rw [hgt,hie]) ?_
 refine ak.dV 3 (p:=.abs (cW (gh ((av S).take i) K) i)) (p':=.abs (cW (gh (av S) K) ((av S).length))) (by kernel_rfl) (by rw [hgt,hie]) ?_
 refine gC 2 [] [(0,a_ 0 b5),(1,a_ 5 b4)] [(5,[(0,.slice An (i) (cn))])] ?_
 refine NN (af.ret ?_)
 exact aj.ret (v:=.agg #[.slice An (i) (cn)]) (l:=[pF f m t S.X,pI m L S.idx,pO S.O L,pD S.O L,pE S.O L,.abs (aH 108 10 An ((av S).length) cn (bP K (av S))),.abs (cW (fZ (av S) K) ((av S).length)),.abs (cW (gh (av S) K) ((av S).length))]) (aZ:=[b4=b4]) [.at 5] [6,7,8,9,10,1,2,3,11] (fun _=>by kernel_rfl) ⟨rfl,trivial⟩ rfl (by kernel_rfl) (⟨An,cn,K,by rw [hie],rfl⟩)
end
end Go.Proofs.YtiehgnlnofhbaaaGreatDoor
