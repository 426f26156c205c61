/-
  PROVED HERE: lemmas and contracts of functions (texts of this repo, joined; what the claim does not use is left out): H5, H6, H7, Vg, H8, H9, Vh, HD, H10, H11.
  CONDITIONS: as the theorems say.
-/
import Derived.Test.YtidjcblbdmfalaaGreatMWconfined3
set_option maxRecDepth 100000
set_option maxHeartbeats 4000000
namespace Go.Proofs.YtidjcblbdmfalaaGreat
section
open Go.RowKit Go.Maps bD aE
attribute [local irreducible] aj aP af ai
abbrev FB (f:Nat) (L:HL) (d:Nat) (name):=([(61,vP f),(62,vP (L.b d)),(63,.string name)]:Fr)
abbrev FC (f:Nat) (L:HL) (to:Nat) (toName):=([(65,vP f),(66,vP (L.b to)),(67,.string toName)]:Fr)
abbrev wL (L:HL) (to:Nat) (toName):=([(45,.map (some (L.m to))),(46,.string toName)]:Fr)
abbrev Ox (f:Nat) (L:HL) (to:Nat) (toName):=([(57,vP f),(58,vP (L.b to)),(59,.string toName)]:Fr)
abbrev Oy (L:HL) (to:Nat):=([(12,.pointer none),(13,.bool false),(14,vP (L.b to))]:Fr)
abbrev Oz (L:HL) (to:Nat) (toName):=([(3,vP (L.b to)),(4,.string toName)]:Fr)
theorem BM {β:Bs} (S:aH) (L:HL) (f m t:Nat) (hI:Inv S) (d:Nat) (hd:Live S.idx ⟨d,2⟩) (name:ByteArray) (hsz:name.size<=1048576) (to:Nat) (hto:Live S.idx ⟨to,2⟩) (toName:ByteArray) (o3:toName.size<=1048576) :
    Spec Tryz.prog β 138 #[vP f,vP (L.b d),.string name,vP (L.b to),.string toName] (pA f m t L S) (fun v l=>∃ L2,v=vI (bq S d name to toName).1/\l=(pA f m t L2 ((bq S d name to toName).2))):=by
 have hX:=hI.hX
 have hel:(obj S.O d).ah.length<=8192:=hI.gy hd
 have hkd:(obj S.O d).kind=2:=hI.kind hd
 have eG:(obj S.O to).kind=2:=hI.kind hto
 have Wh:(obj S.O to).ah.length<=8192:=hI.gy hto
 refine Spec.enter Tryz.func138 rfl Tryz.ntmps138 (Nat.le_of_ble_eq_true rfl) (fun R=>?_)
 refine af.seq ?_
 rcases hI.mr hd name with hlk|⟨tk,hlk,hlv⟩|⟨tk,hlk,hlv⟩|⟨tk,hlk,hlv⟩
 ·refine af.region (gK 1 [] [] ?_)
  refine NS (gK 5 [(19,.map (some (L.m d))),(20,.string name)] [(3,v_ 3 (bw L hkd))] ?_)
  refine iD 5 hkd hlk ?_
  refine gK 1 [(11,.nilIface)] [] ?_
  refine NN (af.seq (SR (gK 2 [(23,.bool true)] [] ?_)))
  refine NN (CT (SR (gK 1 [(10,vI 170)] [] ?_)))
  refine NN (af.ret (ai.ak ?_))
  exact RT (vI 170) [0,1,2,3,4,5,6] (⟨L,by rw [show bq S d name to toName=(170,S) by unfold bq;rw [hlk]]<;>exact⟨rfl,rfl⟩⟩)
 ·have hkt:(obj S.O tk).kind=1:=hI.kind hlv
  refine af.region (gK 1 [] [] ?_)
  refine NS (gK 5 [(19,.map (some (L.m d))),(20,.string name)] [(3,v_ 3 (bw L hkd))] ?_)
  refine iD 5 hkd hlk ?_
  refine gK 1 [(11,.iface 129 (vP (L.b tk)))] [] ?_
  refine NN (af.seq (SR (gK 2 [(23,.bool false)] [] ?_)))
  refine NN (CF (af.skip (NX (SR (gK 7 [(12,.pointer none),(13,.bool false)] [] ?_)))))
  refine NN (af.seq (SR (gK 2 [(14,vP (L.b to))] [] ?_)))
  refine NN (af.block ?_)
  refine af.loop (ι:=Unit) (fun (u:Unit)=>True) (fun (u:Unit)=>0) (fun (u:Unit)=>(FA f L d name++Oz L to toName++[(11,.iface 129 (vP (L.b tk)))]++Oy L to)) (fun (u:Unit)=>((pA f m t L S)++[.abs R])) () (idx:=[0,1,2,3,4,11,12,13,14]) (pk:=[0,1,2,3,4,5,6]) (show True from trivial) (fun _=>by kernel_rfl) rfl (by kernel_rfl) ?_
  rintro u _
  show af _ _ _ _ (FA f L d name++Oz L to toName++[(11,.iface 129 (vP (L.b tk)))]++Oy L to) ((pA f m t L S)++[.abs R]) _
  refine af.seq (SR (gK 5 [(34,.bool false)] [] ?_))
  refine NN (CF (af.exit (ai.aS (ai.aS (ai.cD (NX (af.seq ?_)))))))
  skip
  rcases hI.mr hto toName with bg|⟨ok,bg,eS⟩|⟨ok,bg,eS⟩|⟨ok,bg,eS⟩
  ·refine af.region (gK 5 (wL L to toName) [(3,v_ 3 (bw L eG))] ?_)
   refine iD 5 eG bg ?_
   refine gK 1 [(15,.nilIface)] [] ?_
   refine NN (af.seq (SR (gK 3 [(50,.bool false)] [] ?_)))
   refine NN (CF (af.skip (NX (af.seq (SR (gK 2 [(52,.bool false)] [] ?_))))))
   refine NN (CF (af.skip (NX (SR ?_))))
   have bU:Inv S:=hI
   have hd1:=hd
   have eZ:=hlk
   have qc:=bg
   have jW:=hto
   have jY:(obj S.O d).kind=2:=bU.kind hd1
   have qd:(obj S.O to).kind=2:=bU.kind jW
   have kZ:Live S.idx ⟨tk,1⟩:=(bU.ent hd1 eZ).2
   have ld:(obj S.O tk).kind=1:=bU.kind kZ
   have CR:(obj S.O d).ah.length<=8192:=bU.gy hd1
   have CS:(obj S.O to).ah.length<=8192:=bU.gy jW
   have qf:=bU.lb kZ
   have lf:tk≠d:=bU.ne hd1 eZ
   refine gK 3 (FB f L d name) [] ?_
   refine gL [0,3,5] (jI S.X f m t bU.hX S.O L d jY name hsz ⟨tk,1⟩ ld (by simp) eZ (bU.twice hd1) (by omega) (by simp only at qf ⊢;omega)) ?_
   rintro _ _ ⟨rfl,rfl⟩
   refine NS (gK 4 (FC f L to toName++[(68,.iface 129 (vP (L.b tk)))]) [] ?_)
   refine gL [0,1,2] (iJ { S.X with ah:=S.X.ah - 1 } f m t (bU.y8 hd1 eZ) (aQ S.X S.O d name ⟨tk,1⟩) L to (cQ.trans qd) toName o3 (kq lf qc) (Nat.le_trans (mF lf) (by omega)) ⟨tk,1⟩ (cQ.trans ld) (by simp) (kG bU.toInv0 hd1 eZ)) ?_
   rintro _ _ ⟨rfl,rfl⟩
   refine NS (aj.dx [(5,.abs (ax (bJ (cU S.X (aQ S.X S.O d name ⟨tk,1⟩) to toName ⟨tk,1⟩) L)))] (fun w hS=>by rw [show bJ (cU S.X (aQ S.X S.O d name ⟨tk,1⟩) to toName ⟨tk,1⟩) L=bJ S.O L from ic.trans ko];exact hS) ?_)
   refine gK 1 [(10,vI 0)] [] ?_
   refine NN (af.ret ?_)
   exact RT (vI 0) [0,3,4,1,5,2,6] (⟨L,by rw [show bq S d name to toName=(0,kK S d name to toName ⟨tk,1⟩) by unfold bq;rw [hlk];refine (if_neg (fun h=>absurd h.1 (by simp))).trans ?_;rw [bg]]<;>exact⟨rfl,rfl⟩⟩)
  ·have lg:(obj S.O ok).kind=1:=hI.kind eS
   refine af.region (gK 5 (wL L to toName) [(3,v_ 3 (bw L eG))] ?_)
   refine iD 5 eG bg ?_
   refine gK 1 [(15,.iface 129 (vP (L.b ok)))] [] ?_
   refine NN (af.seq (SR (gK 2 [(48,.iface 129 (vP (L.b ok))),(49,.iface 129 (vP (L.b tk)))] [] ?_)))
   refine aj.jy (d:=(some 50)) (op:=.binOp .eql 124 (.tmp 48) (.tmp 49) 124) (v:=.bool (decide (ok=tk))) (fun _=>by kernel_rfl) (fun o junk w ho hS=>by obtain⟨F,hF⟩:=hS.get (i:=3) rfl;exact⟨w,zU Qr ho (by kernel_rfl) (by kernel_rfl) (by rw [lg];decide) (by rw [hkt];decide) hF,hS⟩) ?_
   refine NN (af.aV (p:=ok=tk) (fun _=>by kernel_rfl) (fun h50=>?_) (fun h50=>?_))
   ·refine SR (gK 1 [(10,vI 0)] [] ?_)
    refine NN (af.ret (ai.ak ?_))
    exact RT (vI 0) [0,1,2,3,4,5,6] (⟨L,by rw [show bq S d name to toName=(0,S) by unfold bq;rw [hlk];refine (if_neg (fun h=>absurd h.1 (by simp))).trans ?_;rw [bg];exact if_pos (by rw [h50])]<;>exact⟨rfl,rfl⟩⟩)
   refine af.skip (NX (af.seq (SR (gK 2 [(52,.bool true)] [] ?_))))
   refine NN (CT (af.seq (SR (gK 1 [(53,.iface 129 (vP (L.b ok)))] [] ?_))))
   refine gL [] (mI (vP (L.b ok))) ?_
   rintro _ _ ⟨rfl,rfl⟩
   refine gK 1 [(55,.bool false)] [] ?_
   refine NN (CF (af.skip (NX (af.seq (SR (gK 1 [(56,.bool false)] [] ?_))))))
   refine NN (CF (af.skip (NX (af.region (gK 3 (Ox f L to toName) [] ?_)))))
   refine gL [0,3,5,1] (nZ S L f m t hI to hto toName o3 ⟨ok,1⟩ bg) ?_
   rintro _ _ ⟨rfl,rfl⟩
   refine NS ?_
   have bU:Inv (aI S to toName ⟨ok,1⟩):=hI.yM hto bg (by simp)
   have hot:(⟨ok,1⟩:Th)≠⟨tk,1⟩:=fun e=>h50 (congrArg Th.k e)
   have hd1:Live (aI S to toName ⟨ok,1⟩).idx ⟨d,2⟩:=jH hI.toInv0 hto bg hd (fun e=>by have:=gI hd eS e;cases this)
   have jW:Live (aI S to toName ⟨ok,1⟩).idx ⟨to,2⟩:=jH hI.toInv0 hto bg hto (fun e=>by have:=gI hto eS e;cases this)
   have eZ:aT name (obj (aI S to toName ⟨ok,1⟩).O d).ah=some ⟨tk,1⟩:=qI hI.toInv0 hto bg hlk hot
   have qc:aT toName (obj (aI S to toName ⟨ok,1⟩).O to).ah=none:=qJ hI.toInv0 hto bg
   have jY:(obj (aI S to toName ⟨ok,1⟩).O d).kind=2:=bU.kind hd1
   have qd:(obj (aI S to toName ⟨ok,1⟩).O to).kind=2:=bU.kind jW
   have kZ:Live (aI S to toName ⟨ok,1⟩).idx ⟨tk,1⟩:=(bU.ent hd1 eZ).2
   have ld:(obj (aI S to toName ⟨ok,1⟩).O tk).kind=1:=bU.kind kZ
   have CR:(obj (aI S to toName ⟨ok,1⟩).O d).ah.length<=8192:=bU.gy hd1
   have CS:(obj (aI S to toName ⟨ok,1⟩).O to).ah.length<=8192:=bU.gy jW
   have qf:=bU.lb kZ
   have lf:tk≠d:=bU.ne hd1 eZ
   refine gK 3 (FB f L d name) [] ?_
   refine gL [0,1,2] (jI (aI S to toName ⟨ok,1⟩).X f m t bU.hX (aI S to toName ⟨ok,1⟩).O L d jY name hsz ⟨tk,1⟩ ld (by simp) eZ (bU.twice hd1) (by omega) (by simp only at qf ⊢;omega)) ?_
   rintro _ _ ⟨rfl,rfl⟩
   refine NS (gK 4 (FC f L to toName++[(68,.iface 129 (vP (L.b tk)))]) [] ?_)
   refine gL [0,1,2] (iJ { (aI S to toName ⟨ok,1⟩).X with ah:=(aI S to toName ⟨ok,1⟩).X.ah - 1 } f m t (bU.y8 hd1 eZ) (aQ (aI S to toName ⟨ok,1⟩).X (aI S to toName ⟨ok,1⟩).O d name ⟨tk,1⟩) L to (cQ.trans qd) toName o3 (kq lf qc) (Nat.le_trans (mF lf) (by omega)) ⟨tk,1⟩ (cQ.trans ld) (by simp) (kG bU.toInv0 hd1 eZ)) ?_
   rintro _ _ ⟨rfl,rfl⟩
   refine NS (aj.dx [(5,.abs (ax (bJ (cU (aI S to toName ⟨ok,1⟩).X (aQ (aI S to toName ⟨ok,1⟩).X (aI S to toName ⟨ok,1⟩).O d name ⟨tk,1⟩) to toName ⟨tk,1⟩) L)))] (fun w hS=>by rw [show bJ (cU (aI S to toName ⟨ok,1⟩).X (aQ (aI S to toName ⟨ok,1⟩).X (aI S to toName ⟨ok,1⟩).O d name ⟨tk,1⟩) to toName ⟨tk,1⟩) L=bJ S.O L from ic.trans (ko.trans nX)];exact hS) ?_)
   refine gK 1 [(10,vI 0)] [] ?_
   refine NN (af.ret ?_)
   exact RT (vI 0) [0,3,4,1,5,2,6] (⟨L,by rw [show bq S d name to toName=(0,kK (aI S to toName ⟨ok,1⟩) d name to toName ⟨tk,1⟩) by unfold bq;rw [hlk];refine (if_neg (fun h=>absurd h.1 (by simp))).trans ?_;rw [bg];exact (if_neg (fun e=>h50 (congrArg Th.k e))).trans ((if_neg (by simp)).trans (if_neg (by simp)))]<;>exact⟨rfl,rfl⟩⟩)
  ·have lg:(obj S.O ok).kind=2:=hI.kind eS
   refine af.region (gK 5 (wL L to toName) [(3,v_ 3 (bw L eG))] ?_)
   refine iD 5 eG bg ?_
   refine gK 1 [(15,.iface 135 (vP (L.b ok)))] [] ?_
   refine NN (af.seq (SR (gK 3 [(50,.bool false)] [] ?_)))
   refine NN (CF (af.skip (NX (af.seq (SR (gK 2 [(52,.bool true)] [] ?_))))))
   refine NN (CT (af.seq (SR (gK 1 [(53,.iface 135 (vP (L.b ok)))] [] ?_))))
   refine gL [] (mJ (vP (L.b ok))) ?_
   rintro _ _ ⟨rfl,rfl⟩
   refine gK 1 [(55,.bool true)] [] ?_
   refine NN (CT (SR (gK 1 [(10,vI 172)] [] ?_)))
   refine NN (af.ret (ai.ak (ai.ak ?_)))
   exact RT (vI 172) [0,1,2,3,4,5,6] (⟨L,by rw [show bq S d name to toName=(172,S) by unfold bq;rw [hlk];refine (if_neg (fun h=>absurd h.1 (by simp))).trans ?_;rw [bg];exact (if_neg (fun e=>by cases e)).trans (if_pos rfl)]<;>exact⟨rfl,rfl⟩⟩)
  have lg:(obj S.O ok).kind=3:=hI.kind eS
  refine af.region (gK 5 (wL L to toName) [(3,v_ 3 (bw L eG))] ?_)
  refine iD 5 eG bg ?_
  refine gK 1 [(15,.iface 132 (vP (L.b ok)))] [] ?_
  refine NN (af.seq (SR (gK 3 [(50,.bool false)] [] ?_)))
  refine NN (CF (af.skip (NX (af.seq (SR (gK 2 [(52,.bool true)] [] ?_))))))
  refine NN (CT (af.seq (SR (gK 1 [(53,.iface 132 (vP (L.b ok)))] [] ?_))))
  refine gL [] (nY (vP (L.b ok))) ?_
  rintro _ _ ⟨rfl,rfl⟩
  refine gK 1 [(55,.bool false)] [] ?_
  refine NN (CF (af.skip (NX (af.seq (SR (gK 1 [(56,.bool false)] [] ?_))))))
  refine NN (CF (af.skip (NX (af.region (gK 3 (Ox f L to toName) [] ?_)))))
  refine gL [0,3,5,1] (nZ S L f m t hI to hto toName o3 ⟨ok,3⟩ bg) ?_
  rintro _ _ ⟨rfl,rfl⟩
  refine NS ?_
  have bU:Inv (aI S to toName ⟨ok,3⟩):=hI.yM hto bg (by simp)
  have hot:(⟨ok,3⟩:Th)≠⟨tk,1⟩:=fun e=>by cases e
  have hd1:Live (aI S to toName ⟨ok,3⟩).idx ⟨d,2⟩:=jH hI.toInv0 hto bg hd (fun e=>by have:=gI hd eS e;cases this)
  have jW:Live (aI S to toName ⟨ok,3⟩).idx ⟨to,2⟩:=jH hI.toInv0 hto bg hto (fun e=>by have:=gI hto eS e;cases this)
  have eZ:aT name (obj (aI S to toName ⟨ok,3⟩).O d).ah=some ⟨tk,1⟩:=qI hI.toInv0 hto bg hlk hot
  have qc:aT toName (obj (aI S to toName ⟨ok,3⟩).O to).ah=none:=qJ hI.toInv0 hto bg
  have jY:(obj (aI S to toName ⟨ok,3⟩).O d).kind=2:=bU.kind hd1
  have qd:(obj (aI S to toName ⟨ok,3⟩).O to).kind=2:=bU.kind jW
  have kZ:Live (aI S to toName ⟨ok,3⟩).idx ⟨tk,1⟩:=(bU.ent hd1 eZ).2
  have ld:(obj (aI S to toName ⟨ok,3⟩).O tk).kind=1:=bU.kind kZ
  have CR:(obj (aI S to toName ⟨ok,3⟩).O d).ah.length<=8192:=bU.gy hd1
  have CS:(obj (aI S to toName ⟨ok,3⟩).O to).ah.length<=8192:=bU.gy jW
  have qf:=bU.lb kZ
  have lf:tk≠d:=bU.ne hd1 eZ
  refine gK 3 (FB f L d name) [] ?_
  refine gL [0,1,2] (jI (aI S to toName ⟨ok,3⟩).X f m t bU.hX (aI S to toName ⟨ok,3⟩).O L d jY name hsz ⟨tk,1⟩ ld (by simp) eZ (bU.twice hd1) (by omega) (by simp only at qf ⊢;omega)) ?_
  rintro _ _ ⟨rfl,rfl⟩
  refine NS (gK 4 (FC f L to toName++[(68,.iface 129 (vP (L.b tk)))]) [] ?_)
  refine gL [0,1,2] (iJ { (aI S to toName ⟨ok,3⟩).X with ah:=(aI S to toName ⟨ok,3⟩).X.ah - 1 } f m t (bU.y8 hd1 eZ) (aQ (aI S to toName ⟨ok,3⟩).X (aI S to toName ⟨ok,3⟩).O d name ⟨tk,1⟩) L to (cQ.trans qd) toName o3 (kq lf qc) (Nat.le_trans (mF lf) (by omega)) ⟨tk,1⟩ (cQ.trans ld) (by simp) (kG bU.toInv0 hd1 eZ)) ?_
  rintro _ _ ⟨rfl,rfl⟩
  refine NS (aj.dx [(5,.abs (ax (bJ (cU (aI S to toName ⟨ok,3⟩).X (aQ (aI S to toName ⟨ok,3⟩).X (aI S to toName ⟨ok,3⟩).O d name ⟨tk,1⟩) to toName ⟨tk,1⟩) L)))] (fun w hS=>by rw [show bJ (cU (aI S to toName ⟨ok,3⟩).X (aQ (aI S to toName ⟨ok,3⟩).X (aI S to toName ⟨ok,3⟩).O d name ⟨tk,1⟩) to toName ⟨tk,1⟩) L=bJ S.O L from ic.trans (ko.trans nX)];exact hS) ?_)
  refine gK 1 [(10,vI 0)] [] ?_
  refine NN (af.ret ?_)
  exact RT (vI 0) [0,3,4,1,5,2,6] (⟨L,by rw [show bq S d name to toName=(0,kK (aI S to toName ⟨ok,3⟩) d name to toName ⟨tk,1⟩) by unfold bq;rw [hlk];refine (if_neg (fun h=>absurd h.1 (by simp))).trans ?_;rw [bg];exact (if_neg (fun e=>by cases e)).trans ((if_neg (by simp)).trans (if_neg (by simp)))]<;>exact⟨rfl,rfl⟩⟩)
 ·have hkt:(obj S.O tk).kind=2:=hI.kind hlv
  refine af.region (gK 1 [] [] ?_)
  refine NS (gK 5 [(19,.map (some (L.m d))),(20,.string name)] [(3,v_ 3 (bw L hkd))] ?_)
  refine iD 5 hkd hlk ?_
  refine gK 1 [(11,.iface 135 (vP (L.b tk)))] [] ?_
  refine NN (af.seq (SR (gK 2 [(23,.bool false)] [] ?_)))
  refine NN (CF (af.skip (NX (SR (gK 7 [(12,vP (L.b tk)),(13,.bool true)] [] ?_)))))
  refine NN (af.seq (SR (gK 2 [(14,vP (L.b to))] [] ?_)))
  refine NN (af.block ?_)
  obtain⟨dp,hdp⟩:=hI.deep
  refine af.loop (ι:=(Option Nat)) (fun (x:Option Nat)=>(jS S.O tk to↔∃ z0,x=some z0/\jS S.O tk z0)/\(∀ z0,x=some z0->Live S.idx ⟨z0,2⟩)) (fun (x:Option Nat)=>xO dp x) (fun (x:Option Nat)=>[(0,vP f),(1,vP (L.b d)),(2,.string name),(3,vP (L.b to)),(4,.string toName),(11,.iface 135 (vP (L.b tk))),(12,vP (L.b tk)),(13,.bool true),(14,(uL L x))]) (fun (x:Option Nat)=>((pA f m t L S)++[.abs R])) ((some to)) (idx:=[0,1,2,3,4,11,12,13,14]) (pk:=[0,1,2,3,4,5,6]) (show (jS S.O tk to↔∃ z0,((some to))=some z0/\jS S.O tk z0)/\(∀ z0,((some to))=some z0->Live S.idx ⟨z0,2⟩) from ⟨⟨fun h=>⟨to,rfl,h⟩,fun ⟨y,e,h⟩=>by cases e;exact h⟩,fun y e=>by cases e;exact hto⟩) (fun _=>by kernel_rfl) rfl (by kernel_rfl) ?_
  rintro x ⟨Q6,hlx⟩
  show af _ _ _ _ [(0,vP f),(1,vP (L.b d)),(2,.string name),(3,vP (L.b to)),(4,.string toName),(11,.iface 135 (vP (L.b tk))),(12,vP (L.b tk)),(13,.bool true),(14,(uL L x))] ((pA f m t L S)++[.abs R]) _
  refine af.seq (af.seq ?_)
  rcases hx:x with _|y
  ·refine af.region (gK 5 [(34,.bool false)] [] ?_)
   refine NN (CF (af.exit (ai.aS (ai.aS (ai.cD (NX (af.seq ?_)))))))
   have hnb:¬ jS S.O tk to:=fun h=>by obtain⟨y,e,_⟩:=Q6.1 h;rw [hx] at e;cases e
   rcases hI.mr hto toName with bg|⟨ok,bg,eS⟩|⟨ok,bg,eS⟩|⟨ok,bg,eS⟩
   ·refine af.region (gK 5 (wL L to toName) [(3,v_ 3 (bw L eG))] ?_)
    refine iD 5 eG bg ?_
    refine gK 1 [(15,.nilIface)] [] ?_
    refine NN (af.seq (SR (gK 3 [(50,.bool false)] [] ?_)))
    refine NN (CF (af.skip (NX (af.seq (SR (gK 2 [(52,.bool false)] [] ?_))))))
    refine NN (CF (af.skip (NX (SR ?_))))
    have bU:Inv S:=hI
    have hd1:=hd
    have eZ:=hlk
    have qc:=bg
    have jW:=hto
    have jY:(obj S.O d).kind=2:=bU.kind hd1
    have qd:(obj S.O to).kind=2:=bU.kind jW
    have kZ:Live S.idx ⟨tk,2⟩:=(bU.ent hd1 eZ).2
    have ld:(obj S.O tk).kind=2:=bU.kind kZ
    have CR:(obj S.O d).ah.length<=8192:=bU.gy hd1
    have CS:(obj S.O to).ah.length<=8192:=bU.gy jW
    have qf:=bU.lb kZ
    have lf:tk≠d:=bU.ne hd1 eZ
    refine gK 3 (FB f L d name) [] ?_
    refine gL [0,3,5] (jI S.X f m t bU.hX S.O L d jY name hsz ⟨tk,2⟩ ld (by simp) eZ (bU.twice hd1) (by omega) (by simp only at qf ⊢;omega)) ?_
    rintro _ _ ⟨rfl,rfl⟩
    refine NS (gK 4 (FC f L to toName++[(68,.iface 135 (vP (L.b tk)))]) [] ?_)
    refine gL [0,1,2] (iJ { S.X with ah:=S.X.ah - 1 } f m t (bU.y8 hd1 eZ) (aQ S.X S.O d name ⟨tk,2⟩) L to (cQ.trans qd) toName o3 (kq lf qc) (Nat.le_trans (mF lf) (by omega)) ⟨tk,2⟩ (cQ.trans ld) (by simp) (kG bU.toInv0 hd1 eZ)) ?_
    rintro _ _ ⟨rfl,rfl⟩
    refine NS (aj.dx [(5,.abs (ax (bJ (cU S.X (aQ S.X S.O d name ⟨tk,2⟩) to toName ⟨tk,2⟩) L)))] (fun w hS=>by rw [show bJ (cU S.X (aQ S.X S.O d name ⟨tk,2⟩) to toName ⟨tk,2⟩) L=bJ S.O L from ic.trans ko];exact hS) ?_)
    refine gK 1 [(10,vI 0)] [] ?_
    refine NN (af.ret ?_)
    exact RT (vI 0) [0,3,4,1,5,2,6] (⟨L,by rw [show bq S d name to toName=(0,kK S d name to toName ⟨tk,2⟩) by unfold bq;rw [hlk];refine (if_neg (fun h=>hnb h.2)).trans ?_;rw [bg]]<;>exact⟨rfl,rfl⟩⟩)
   ·have lg:(obj S.O ok).kind=1:=hI.kind eS
    refine af.region (gK 5 (wL L to toName) [(3,v_ 3 (bw L eG))] ?_)
    refine iD 5 eG bg ?_
    refine gK 1 [(15,.iface 129 (vP (L.b ok)))] [] ?_
    refine NN (af.seq (SR (gK 3 [(50,.bool false)] [] ?_)))
    refine NN (CF (af.skip (NX (af.seq (SR (gK 2 [(52,.bool true)] [] ?_))))))
    refine NN (CT (af.seq (SR (gK 1 [(53,.iface 129 (vP (L.b ok)))] [] ?_))))
    refine gL [] (mI (vP (L.b ok))) ?_
    rintro _ _ ⟨rfl,rfl⟩
    refine gK 1 [(55,.bool false)] [] ?_
    refine NN (CF (af.skip (NX (af.seq (SR (gK 1 [(56,.bool true)] [] ?_))))))
    refine NN (CT (SR (gK 1 [(10,vI 173)] [] ?_)))
    refine NN (af.ret (ai.ak (ai.ak ?_)))
    exact RT (vI 173) [0,1,2,3,4,5,6] (⟨L,by rw [show bq S d name to toName=(173,S) by unfold bq;rw [hlk];refine (if_neg (fun h=>hnb h.2)).trans ?_;rw [bg];exact (if_neg (fun e=>by cases e)).trans ((if_neg (by simp)).trans (if_pos rfl))]<;>exact⟨rfl,rfl⟩⟩)
   ·have lg:(obj S.O ok).kind=2:=hI.kind eS
    refine af.region (gK 5 (wL L to toName) [(3,v_ 3 (bw L eG))] ?_)
    refine iD 5 eG bg ?_
    refine gK 1 [(15,.iface 135 (vP (L.b ok)))] [] ?_
    refine NN (af.seq (SR (gK 2 [(48,.iface 135 (vP (L.b ok))),(49,.iface 135 (vP (L.b tk)))] [] ?_)))
    refine aj.jy (d:=(some 50)) (op:=.binOp .eql 124 (.tmp 48) (.tmp 49) 124) (v:=.bool (decide (ok=tk))) (fun _=>by kernel_rfl) (fun o junk w ho hS=>by obtain⟨F,hF⟩:=hS.get (i:=3) rfl;exact⟨w,zU Sv ho (by kernel_rfl) (by kernel_rfl) (by rw [lg];decide) (by rw [hkt];decide) hF,hS⟩) ?_
    refine NN (af.aV (p:=ok=tk) (fun _=>by kernel_rfl) (fun h50=>?_) (fun h50=>?_))
    ·refine SR (gK 1 [(10,vI 0)] [] ?_)
     refine NN (af.ret (ai.ak ?_))
     exact RT (vI 0) [0,1,2,3,4,5,6] (⟨L,by rw [show bq S d name to toName=(0,S) by unfold bq;rw [hlk];refine (if_neg (fun h=>hnb h.2)).trans ?_;rw [bg];exact if_pos (by rw [h50])]<;>exact⟨rfl,rfl⟩⟩)
    refine af.skip (NX (af.seq (SR (gK 2 [(52,.bool true)] [] ?_))))
    refine NN (CT (af.seq (SR (gK 1 [(53,.iface 135 (vP (L.b ok)))] [] ?_))))
    refine gL [] (mJ (vP (L.b ok))) ?_
    rintro _ _ ⟨rfl,rfl⟩
    refine gK 1 [(55,.bool true)] [] ?_
    refine NN (CT (SR (gK 1 [(10,vI 172)] [] ?_)))
    refine NN (af.ret (ai.ak (ai.ak ?_)))
    exact RT (vI 172) [0,1,2,3,4,5,6] (⟨L,by rw [show bq S d name to toName=(172,S) by unfold bq;rw [hlk];refine (if_neg (fun h=>hnb h.2)).trans ?_;rw [bg];exact (if_neg (fun e=>h50 (congrArg Th.k e))).trans (if_pos rfl)]<;>exact⟨rfl,rfl⟩⟩)
   have lg:(obj S.O ok).kind=3:=hI.kind eS
   refine af.region (gK 5 (wL L to toName) [(3,v_ 3 (bw L eG))] ?_)
   refine iD 5 eG bg ?_
   refine gK 1 [(15,.iface 132 (vP (L.b ok)))] [] ?_
   refine NN (af.seq (SR (gK 3 [(50,.bool false)] [] ?_)))
   refine NN (CF (af.skip (NX (af.seq (SR (gK 2 [(52,.bool true)] [] ?_))))))
   refine NN (CT (af.seq (SR (gK 1 [(53,.iface 132 (vP (L.b ok)))] [] ?_))))
   refine gL [] (nY (vP (L.b ok))) ?_
   rintro _ _ ⟨rfl,rfl⟩
   refine gK 1 [(55,.bool false)] [] ?_
   refine NN (CF (af.skip (NX (af.seq (SR (gK 1 [(56,.bool true)] [] ?_))))))
   refine NN (CT (SR (gK 1 [(10,vI 173)] [] ?_)))
   refine NN (af.ret (ai.ak (ai.ak ?_)))
   exact RT (vI 173) [0,1,2,3,4,5,6] (⟨L,by rw [show bq S d name to toName=(173,S) by unfold bq;rw [hlk];refine (if_neg (fun h=>hnb h.2)).trans ?_;rw [bg];exact (if_neg (fun e=>by cases e)).trans ((if_neg (by simp)).trans (if_pos rfl))]<;>exact⟨rfl,rfl⟩⟩)
  have hky:(obj S.O y).kind=2:=hI.kind (hlx y hx)
  refine af.region (gK 5 [(34,.bool true)] [] ?_)
  refine NN (CT (af.skip (NX (af.seq (af.block (SR ?_))))))
  refine gK 2 [(39,vP (L.b y)),(40,vP (L.b tk))] [] ?_
  refine aj.jy (d:=(some 41)) (op:=.binOp .eql 135 (.tmp 39) (.tmp 40) 135) (v:=.bool (decide (y=tk))) (fun _=>by kernel_rfl) (fun o junk w ho hS=>by obtain⟨F,hF⟩:=hS.get (i:=3) rfl;exact⟨w,Kt ho (by kernel_rfl) (by kernel_rfl) (by rw [hky];decide) (by rw [hkt];decide) hF,hS⟩) ?_
  refine NN (af.aV (p:=y=tk) (fun _=>by kernel_rfl) (fun BN=>?_) (fun BN=>?_))
  ·refine SR (gK 1 [(10,vI 174)] [] ?_)
   refine NN (af.ret (ai.aG (ai.ak (ai.ak (ai.aG (ai.ak ?_))))))
   exact RT (vI 174) [0,1,2,3,4,5,6] (⟨L,by rw [show bq S d name to toName=(174,S) by unfold bq;rw [hlk];exact if_pos ⟨rfl,Q6.2 ⟨y,hx,by rw [BN];exact .here⟩⟩]<;>exact⟨rfl,rfl⟩⟩)
  refine af.skip (ai.aJ (NX (af.region ?_)))
  refine gK 5 [(14,(uL L (obj S.O y).up))] [(3,v_ 3 (UB L hky))] ?_
  refine NL ?_
  exact ai.turn (((obj S.O y).up)) (idx:=[0,1,2,3,4,11,12,13,14]) (pk:=[0,1,2,3,4,5,6]) (show (jS S.O tk to↔∃ z0,(((obj S.O y).up))=some z0/\jS S.O tk z0)/\(∀ z0,(((obj S.O y).up))=some z0->Live S.idx ⟨z0,2⟩) from ⟨Q6.trans ⟨fun ⟨y2,e,h⟩=>by rw [hx] at e;cases e;exact (Br BN).1 h,fun h=>⟨y,hx,(Br BN).2 h⟩⟩,fun z e=>((hI.up ⟨y,2⟩ (hlx y hx) z).1 e).2.1⟩) (by show xO dp (((obj S.O y).up)) < xO dp (some y);exact Kw hdp) (fun _=>by kernel_rfl) rfl (by kernel_rfl)
 have hkt:(obj S.O tk).kind=3:=hI.kind hlv
 refine af.region (gK 1 [] [] ?_)
 refine NS (gK 5 [(19,.map (some (L.m d))),(20,.string name)] [(3,v_ 3 (bw L hkd))] ?_)
 refine iD 5 hkd hlk ?_
 refine gK 1 [(11,.iface 132 (vP (L.b tk)))] [] ?_
 refine NN (af.seq (SR (gK 2 [(23,.bool false)] [] ?_)))
 refine NN (CF (af.skip (NX (SR (gK 7 [(12,.pointer none),(13,.bool false)] [] ?_)))))
 refine NN (af.seq (SR (gK 2 [(14,vP (L.b to))] [] ?_)))
 refine NN (af.block ?_)
 refine af.loop (ι:=Unit) (fun (u:Unit)=>True) (fun (u:Unit)=>0) (fun (u:Unit)=>(FA f L d name++Oz L to toName++[(11,.iface 132 (vP (L.b tk)))]++Oy L to)) (fun (u:Unit)=>((pA f m t L S)++[.abs R])) () (idx:=[0,1,2,3,4,11,12,13,14]) (pk:=[0,1,2,3,4,5,6]) (show True from trivial) (fun _=>by kernel_rfl) rfl (by kernel_rfl) ?_
 rintro u _
 show af _ _ _ _ (FA f L d name++Oz L to toName++[(11,.iface 132 (vP (L.b tk)))]++Oy L to) ((pA f m t L S)++[.abs R]) _
 refine af.seq (SR (gK 5 [(34,.bool false)] [] ?_))
 refine NN (CF (af.exit (ai.aS (ai.aS (ai.cD (NX (af.seq ?_)))))))
 skip
 rcases hI.mr hto toName with bg|⟨ok,bg,eS⟩|⟨ok,bg,eS⟩|⟨ok,bg,eS⟩
 ·refine af.region (gK 5 (wL L to toName) [(3,v_ 3 (bw L eG))] ?_)
  refine iD 5 eG bg ?_
  refine gK 1 [(15,.nilIface)] [] ?_
  refine NN (af.seq (SR (gK 3 [(50,.bool false)] [] ?_)))
  refine NN (CF (af.skip (NX (af.seq (SR (gK 2 [(52,.bool false)] [] ?_))))))
  refine NN (CF (af.skip (NX (SR ?_))))
  have bU:Inv S:=hI
  have hd1:=hd
  have eZ:=hlk
  have qc:=bg
  have jW:=hto
  have jY:(obj S.O d).kind=2:=bU.kind hd1
  have qd:(obj S.O to).kind=2:=bU.kind jW
  have kZ:Live S.idx ⟨tk,3⟩:=(bU.ent hd1 eZ).2
  have ld:(obj S.O tk).kind=3:=bU.kind kZ
  have CR:(obj S.O d).ah.length<=8192:=bU.gy hd1
  have CS:(obj S.O to).ah.length<=8192:=bU.gy jW
  have qf:=bU.lb kZ
  have lf:tk≠d:=bU.ne hd1 eZ
  refine gK 3 (FB f L d name) [] ?_
  refine gL [0,3,5] (jI S.X f m t bU.hX S.O L d jY name hsz ⟨tk,3⟩ ld (by simp) eZ (bU.twice hd1) (by omega) (by simp only at qf ⊢;omega)) ?_
  rintro _ _ ⟨rfl,rfl⟩
  refine NS (gK 4 (FC f L to toName++[(68,.iface 132 (vP (L.b tk)))]) [] ?_)
  refine gL [0,1,2] (iJ { S.X with ah:=S.X.ah - 1 } f m t (bU.y8 hd1 eZ) (aQ S.X S.O d name ⟨tk,3⟩) L to (cQ.trans qd) toName o3 (kq lf qc) (Nat.le_trans (mF lf) (by omega)) ⟨tk,3⟩ (cQ.trans ld) (by simp) (kG bU.toInv0 hd1 eZ)) ?_
  rintro _ _ ⟨rfl,rfl⟩
  refine NS (aj.dx [(5,.abs (ax (bJ (cU S.X (aQ S.X S.O d name ⟨tk,3⟩) to toName ⟨tk,3⟩) L)))] (fun w hS=>by rw [show bJ (cU S.X (aQ S.X S.O d name ⟨tk,3⟩) to toName ⟨tk,3⟩) L=bJ S.O L from ic.trans ko];exact hS) ?_)
  refine gK 1 [(10,vI 0)] [] ?_
  refine NN (af.ret ?_)
  exact RT (vI 0) [0,3,4,1,5,2,6] (⟨L,by rw [show bq S d name to toName=(0,kK S d name to toName ⟨tk,3⟩) by unfold bq;rw [hlk];refine (if_neg (fun h=>absurd h.1 (by simp))).trans ?_;rw [bg]]<;>exact⟨rfl,rfl⟩⟩)
 ·have lg:(obj S.O ok).kind=1:=hI.kind eS
  refine af.region (gK 5 (wL L to toName) [(3,v_ 3 (bw L eG))] ?_)
  refine iD 5 eG bg ?_
  refine gK 1 [(15,.iface 129 (vP (L.b ok)))] [] ?_
  refine NN (af.seq (SR (gK 3 [(50,.bool false)] [] ?_)))
  refine NN (CF (af.skip (NX (af.seq (SR (gK 2 [(52,.bool true)] [] ?_))))))
  refine NN (CT (af.seq (SR (gK 1 [(53,.iface 129 (vP (L.b ok)))] [] ?_))))
  refine gL [] (mI (vP (L.b ok))) ?_
  rintro _ _ ⟨rfl,rfl⟩
  refine gK 1 [(55,.bool false)] [] ?_
  refine NN (CF (af.skip (NX (af.seq (SR (gK 1 [(56,.bool false)] [] ?_))))))
  refine NN (CF (af.skip (NX (af.region (gK 3 (Ox f L to toName) [] ?_)))))
  refine gL [0,3,5,1] (nZ S L f m t hI to hto toName o3 ⟨ok,1⟩ bg) ?_
  rintro _ _ ⟨rfl,rfl⟩
  refine NS ?_
  have bU:Inv (aI S to toName ⟨ok,1⟩):=hI.yM hto bg (by simp)
  have hot:(⟨ok,1⟩:Th)≠⟨tk,3⟩:=fun e=>by cases e
  have hd1:Live (aI S to toName ⟨ok,1⟩).idx ⟨d,2⟩:=jH hI.toInv0 hto bg hd (fun e=>by have:=gI hd eS e;cases this)
  have jW:Live (aI S to toName ⟨ok,1⟩).idx ⟨to,2⟩:=jH hI.toInv0 hto bg hto (fun e=>by have:=gI hto eS e;cases this)
  have eZ:aT name (obj (aI S to toName ⟨ok,1⟩).O d).ah=some ⟨tk,3⟩:=qI hI.toInv0 hto bg hlk hot
  have qc:aT toName (obj (aI S to toName ⟨ok,1⟩).O to).ah=none:=qJ hI.toInv0 hto bg
  have jY:(obj (aI S to toName ⟨ok,1⟩).O d).kind=2:=bU.kind hd1
  have qd:(obj (aI S to toName ⟨ok,1⟩).O to).kind=2:=bU.kind jW
  have kZ:Live (aI S to toName ⟨ok,1⟩).idx ⟨tk,3⟩:=(bU.ent hd1 eZ).2
  have ld:(obj (aI S to toName ⟨ok,1⟩).O tk).kind=3:=bU.kind kZ
  have CR:(obj (aI S to toName ⟨ok,1⟩).O d).ah.length<=8192:=bU.gy hd1
  have CS:(obj (aI S to toName ⟨ok,1⟩).O to).ah.length<=8192:=bU.gy jW
  have qf:=bU.lb kZ
  have lf:tk≠d:=bU.ne hd1 eZ
  refine gK 3 (FB f L d name) [] ?_
  refine gL [0,1,2] (jI (aI S to toName ⟨ok,1⟩).X f m t bU.hX (aI S to toName ⟨ok,1⟩).O L d jY name hsz ⟨tk,3⟩ ld (by simp) eZ (bU.twice hd1) (by omega) (by simp only at qf ⊢;omega)) ?_
  rintro _ _ ⟨rfl,rfl⟩
  refine NS (gK 4 (FC f L to toName++[(68,.iface 132 (vP (L.b tk)))]) [] ?_)
  refine gL [0,1,2] (iJ { (aI S to toName ⟨ok,1⟩).X with ah:=(aI S to toName ⟨ok,1⟩).X.ah - 1 } f m t (bU.y8 hd1 eZ) (aQ (aI S to toName ⟨ok,1⟩).X (aI S to toName ⟨ok,1⟩).O d name ⟨tk,3⟩) L to (cQ.trans qd) toName o3 (kq lf qc) (Nat.le_trans (mF lf) (by omega)) ⟨tk,3⟩ (cQ.trans ld) (by simp) (kG bU.toInv0 hd1 eZ)) ?_
  rintro _ _ ⟨rfl,rfl⟩
  refine NS (aj.dx [(5,.abs (ax (bJ (cU (aI S to toName ⟨ok,1⟩).X (aQ (aI S to toName ⟨ok,1⟩).X (aI S to toName ⟨ok,1⟩).O d name ⟨tk,3⟩) to toName ⟨tk,3⟩) L)))] (fun w hS=>by rw [show bJ (cU (aI S to toName ⟨ok,1⟩).X (aQ (aI S to toName ⟨ok,1⟩).X (aI S to toName ⟨ok,1⟩).O d name ⟨tk,3⟩) to toName ⟨tk,3⟩) L=bJ S.O L from ic.trans (ko.trans nX)];exact hS) ?_)
  refine gK 1 [(10,vI 0)] [] ?_
  refine NN (af.ret ?_)
  exact RT (vI 0) [0,3,4,1,5,2,6] (⟨L,by rw [show bq S d name to toName=(0,kK (aI S to toName ⟨ok,1⟩) d name to toName ⟨tk,3⟩) by unfold bq;rw [hlk];refine (if_neg (fun h=>absurd h.1 (by simp))).trans ?_;rw [bg];exact (if_neg (fun e=>by cases e)).trans ((if_neg (by simp)).trans (if_neg (by simp)))]<;>exact⟨rfl,rfl⟩⟩)
 ·have lg:(obj S.O ok).kind=2:=hI.kind eS
  refine af.region (gK 5 (wL L to toName) [(3,v_ 3 (bw L eG))] ?_)
  refine iD 5 eG bg ?_
  refine gK 1 [(15,.iface 135 (vP (L.b ok)))] [] ?_
  refine NN (af.seq (SR (gK 3 [(50,.bool false)] [] ?_)))
  refine NN (CF (af.skip (NX (af.seq (SR (gK 2 [(52,.bool true)] [] ?_))))))
  refine NN (CT (af.seq (SR (gK 1 [(53,.iface 135 (vP (L.b ok)))] [] ?_))))
  refine gL [] (mJ (vP (L.b ok))) ?_
  rintro _ _ ⟨rfl,rfl⟩
  refine gK 1 [(55,.bool true)] [] ?_
  refine NN (CT (SR (gK 1 [(10,vI 172)] [] ?_)))
  refine NN (af.ret (ai.ak (ai.ak ?_)))
  exact RT (vI 172) [0,1,2,3,4,5,6] (⟨L,by rw [show bq S d name to toName=(172,S) by unfold bq;rw [hlk];refine (if_neg (fun h=>absurd h.1 (by simp))).trans ?_;rw [bg];exact (if_neg (fun e=>by cases e)).trans (if_pos rfl)]<;>exact⟨rfl,rfl⟩⟩)
 have lg:(obj S.O ok).kind=3:=hI.kind eS
 refine af.region (gK 5 (wL L to toName) [(3,v_ 3 (bw L eG))] ?_)
 refine iD 5 eG bg ?_
 refine gK 1 [(15,.iface 132 (vP (L.b ok)))] [] ?_
 refine NN (af.seq (SR (gK 2 [(48,.iface 132 (vP (L.b ok))),(49,.iface 132 (vP (L.b tk)))] [] ?_)))
 refine aj.jy (d:=(some 50)) (op:=.binOp .eql 124 (.tmp 48) (.tmp 49) 124) (v:=.bool (decide (ok=tk))) (fun _=>by kernel_rfl) (fun o junk w ho hS=>by obtain⟨F,hF⟩:=hS.get (i:=3) rfl;exact⟨w,zU Qs ho (by kernel_rfl) (by kernel_rfl) (by rw [lg];decide) (by rw [hkt];decide) hF,hS⟩) ?_
 refine NN (af.aV (p:=ok=tk) (fun _=>by kernel_rfl) (fun h50=>?_) (fun h50=>?_))
 ·refine SR (gK 1 [(10,vI 0)] [] ?_)
  refine NN (af.ret (ai.ak ?_))
  exact RT (vI 0) [0,1,2,3,4,5,6] (⟨L,by rw [show bq S d name to toName=(0,S) by unfold bq;rw [hlk];refine (if_neg (fun h=>absurd h.1 (by simp))).trans ?_;rw [bg];exact if_pos (by rw [h50])]<;>exact⟨rfl,rfl⟩⟩)
 refine af.skip (NX (af.seq (SR (gK 2 [(52,.bool true)] [] ?_))))
 refine NN (CT (af.seq (SR (gK 1 [(53,.iface 132 (vP (L.b ok)))] [] ?_))))
 refine gL [] (nY (vP (L.b ok))) ?_
 rintro _ _ ⟨rfl,rfl⟩
 refine gK 1 [(55,.bool false)] [] ?_
 refine NN (CF (af.skip (NX (af.seq (SR (gK 1 [(56,.bool false)] [] ?_))))))
 refine NN (CF (af.skip (NX (af.region (gK 3 (Ox f L to toName) [] ?_)))))
 refine gL [0,3,5,1] (nZ S L f m t hI to hto toName o3 ⟨ok,3⟩ bg) ?_
 rintro _ _ ⟨rfl,rfl⟩
 refine NS ?_
 have bU:Inv (aI S to toName ⟨ok,3⟩):=hI.yM hto bg (by simp)
 have hot:(⟨ok,3⟩:Th)≠⟨tk,3⟩:=fun e=>h50 (congrArg Th.k e)
 have hd1:Live (aI S to toName ⟨ok,3⟩).idx ⟨d,2⟩:=jH hI.toInv0 hto bg hd (fun e=>by have:=gI hd eS e;cases this)
 have jW:Live (aI S to toName ⟨ok,3⟩).idx ⟨to,2⟩:=jH hI.toInv0 hto bg hto (fun e=>by have:=gI hto eS e;cases this)
 have eZ:aT name (obj (aI S to toName ⟨ok,3⟩).O d).ah=some ⟨tk,3⟩:=qI hI.toInv0 hto bg hlk hot
 have qc:aT toName (obj (aI S to toName ⟨ok,3⟩).O to).ah=none:=qJ hI.toInv0 hto bg
 have jY:(obj (aI S to toName ⟨ok,3⟩).O d).kind=2:=bU.kind hd1
 have qd:(obj (aI S to toName ⟨ok,3⟩).O to).kind=2:=bU.kind jW
 have kZ:Live (aI S to toName ⟨ok,3⟩).idx ⟨tk,3⟩:=(bU.ent hd1 eZ).2
 have ld:(obj (aI S to toName ⟨ok,3⟩).O tk).kind=3:=bU.kind kZ
 have CR:(obj (aI S to toName ⟨ok,3⟩).O d).ah.length<=8192:=bU.gy hd1
 have CS:(obj (aI S to toName ⟨ok,3⟩).O to).ah.length<=8192:=bU.gy jW
 have qf:=bU.lb kZ
 have lf:tk≠d:=bU.ne hd1 eZ
 refine gK 3 (FB f L d name) [] ?_
 refine gL [0,1,2] (jI (aI S to toName ⟨ok,3⟩).X f m t bU.hX (aI S to toName ⟨ok,3⟩).O L d jY name hsz ⟨tk,3⟩ ld (by simp) eZ (bU.twice hd1) (by omega) (by simp only at qf ⊢;omega)) ?_
 rintro _ _ ⟨rfl,rfl⟩
 refine NS (gK 4 (FC f L to toName++[(68,.iface 132 (vP (L.b tk)))]) [] ?_)
 refine gL [0,1,2] (iJ { (aI S to toName ⟨ok,3⟩).X with ah:=(aI S to toName ⟨ok,3⟩).X.ah - 1 } f m t (bU.y8 hd1 eZ) (aQ (aI S to toName ⟨ok,3⟩).X (aI S to toName ⟨ok,3⟩).O d name ⟨tk,3⟩) L to (cQ.trans qd) toName o3 (kq lf qc) (Nat.le_trans (mF lf) (by omega)) ⟨tk,3⟩ (cQ.trans ld) (by simp) (kG bU.toInv0 hd1 eZ)) ?_
 rintro _ _ ⟨rfl,rfl⟩
 refine NS (aj.dx [(5,.abs (ax (bJ (cU (aI S to toName ⟨ok,3⟩).X (aQ (aI S to toName ⟨ok,3⟩).X (aI S to toName ⟨ok,3⟩).O d name ⟨tk,3⟩) to toName ⟨tk,3⟩) L)))] (fun w hS=>by rw [show bJ (cU (aI S to toName ⟨ok,3⟩).X (aQ (aI S to toName ⟨ok,3⟩).X (aI S to toName ⟨ok,3⟩).O d name ⟨tk,3⟩) to toName ⟨tk,3⟩) L=bJ S.O L from ic.trans (ko.trans nX)];exact hS) ?_)
 refine gK 1 [(10,vI 0)] [] ?_
 refine NN (af.ret ?_)
 exact RT (vI 0) [0,3,4,1,5,2,6] (⟨L,by rw [show bq S d name to toName=(0,kK (aI S to toName ⟨ok,3⟩) d name to toName ⟨tk,3⟩) by unfold bq;rw [hlk];refine (if_neg (fun h=>absurd h.1 (by simp))).trans ?_;rw [bg];exact (if_neg (fun e=>h50 (congrArg Th.k e))).trans ((if_neg (by simp)).trans (if_neg (by simp)))]<;>exact⟨rfl,rfl⟩⟩)
end
section
open Go.RowKit Go.Maps bD aE
attribute [local irreducible] aj aP af ai
abbrev Tk (S:aH) (L:HL) (k:Nat):=(.abs (ax (kD (bJ S.O L) k cr.none)):HP)
abbrev Q7 (A1:Option Addr) (S:aH) (k:Nat) (bs:List UInt8) (c2:Nat):=(.abs (aK 5 1 A1 (((obj S.O k).data++bs.take (aZ S.X bs.length)).length) c2 (bY ((obj S.O k).data++bs.take (aZ S.X bs.length)))):HP)
abbrev K2 (f:Nat) (m:Nat) (t) (S:aH) (L:HL) (k:Nat) (R:cr):=([pF f m t S.X,pI m L S.idx,pT t S.X.cH S.ay L S.us,pO S.O L,Tk S L k,pE S.O L,.abs R]:List HP)
theorem DH {β:Bs} (S:aH) (L:HL) (f m t:Nat) (hI:Inv S) (k:Nat) (hk:Live S.idx ⟨k,1⟩) (A:Option Addr) (c:Nat) (bs:List UInt8) (hA:bA β A bs) (hbl:bs.length<=1099511627776) (hbc:bs.length<=c) :
    Spec Tryz.prog β 133 #[vP f,vP (L.b k),.slice A (bs.length) (c)] (pA f m t L S) (fun v l=>∃ L2,v=.tuple #[vI (cW S k bs).1,vI (cW S k bs).2.1]/\l=(pA f m t L2 ((cW S k bs).2.2))):=by
 have hX:=hI.hX
 have hkk:(obj S.O k).kind=1:=hI.kind hk
 have WX:((obj S.O k).data.length:Int)<=S.X.used:=hI.Sz hk
 have hcB:=hI.cB
 refine Spec.enter Tryz.func133 rfl Tryz.ntmps133 (Nat.le_of_ble_eq_true rfl) (fun R=>?_)
 refine SR (gK 2 [] [] ?_)
 refine NN (af.seq (SR (gK 3 [(12,.bool (decide ((((bs.length:Nat):Int):Int)=(0:Int))))] [] ?_)))
 refine NN (af.aV (p:=(((bs.length:Nat):Int):Int)=(0:Int)) (fun _=>by kernel_rfl) (fun h12=>?_) (fun h12=>?_))
 ·have he:bs=[]:=List.eq_nil_of_length_eq_zero (by omega)
  refine SR (gK 2 [(6,vI 0),(7,vI 0)] [] ?_)
  refine NN (af.ret (ai.ak ?_))
  exact RT (.tuple #[vI 0,vI 0]) [0,1,2,3,4,5,6] (⟨L,by rw [show cW S k bs=(0,0,S) from if_pos he]<;>exact⟨rfl,rfl⟩⟩)
 have hlen:0 < bs.length:=by omega
 refine af.skip (NX (af.seq (af.bF (by kernel_rfl) (by kernel_rfl) ?_)))
 refine gQ 11 [(8,vI (S.X.cB - S.X.used))] [(4,a_ 0 f),(8,a_ 0 f),(9,p_ ⟨[],none,none,none,some (vI (S.X.cB - S.X.used))⟩ [(Value.int .i64 (IntKind.wrap .i64 (S.X.cB - S.X.used)))=(.int .i64 (S.X.cB - S.X.used))] ⟨bn (by omega) (by omega) (by omega),trivial⟩)] ?_
 refine NQ (NX (af.seq (SR ?_)))
 refine gK 2 [(24,.bool (decide ((S.X.cB - S.X.used:Int)<=(0:Int))))] [] ?_
 refine NN (af.aV (p:=(S.X.cB - S.X.used:Int)<=(0:Int)) (fun _=>by kernel_rfl) (fun wM=>?_) (fun wM=>?_))
 ·refine SR (gK 2 [(6,vI 0),(7,vI 176)] [] ?_)
  refine NN (af.ret (ai.ak ?_))
  exact RT (.tuple #[vI 0,vI 176]) [0,1,2,3,4,5,6] (⟨L,by rw [show cW S k bs=(0,176,S) from (if_neg (fun e=>by rw [e] at hlen;exact absurd hlen (by simp))).trans (if_pos wM)]<;>exact⟨rfl,rfl⟩⟩)
 refine af.skip (NX (SR (gK 4 [(28,vI (min ((bs.length:Nat):Int) (S.X.cB - S.X.used)))] [(3,p_ ⟨[],none,none,none,some (vI (min ((bs.length:Nat):Int) (S.X.cB - S.X.used)))⟩ [(Value.int .i64 (if S.X.cB - S.X.used < ((bs.length:Nat):Int) then S.X.cB - S.X.used else ((bs.length:Nat):Int)))=(.int .i64 (min ((bs.length:Nat):Int) (S.X.cB - S.X.used)))] ⟨congrArg (Value.int .i64) (N7 _ _),trivial⟩)] ?_)))
 refine aj.slot 28 (.int .i64 (min ((bs.length:Nat):Int) (S.X.cB - S.X.used))) (.int .i64 ↑(aZ S.X bs.length)) (fun _=>by kernel_rfl) (congrArg (Value.int .i64) (Kx (by omega))) ?_
 refine gK 1 [(9,vI ↑(aZ S.X bs.length))] [] ?_
 refine NN (af.seq ?_)
 have hwl:=Ky (X:=S.X) (n:=bs.length) (by omega)
 refine af.mem (cR:=(K2 f m t S L k R++[.abs (aK 5 1 (L.dA k) ((obj S.O k).data.length) (L.dC k) (bY (obj S.O k).data))])) (fun w hS=>hS.J6 (i:=4) (k:=k) rfl hkk) ?_
 refine af.bM (S:=(K2 f m t S L k R)) [0,1,2,3,4,5,6,7,8,9,10,11] 8 [0,1,2,3,4,5,6] (by kernel_rfl) (by kernel_rfl) rfl (by kernel_rfl) ?_
 refine gR 0 [8,9,10,11] [(0,vP f),(1,vP (L.b k)),(9,vI ↑(aZ S.X bs.length)),(29,vP (L.b k)),(33,.slice (L.dA k) ((obj S.O k).data.length) ((L.dC k))),(36,.slice A ((aZ S.X bs.length)) (c))] [0,1,2,3,4,5,6,7] [(4,v_ 3 (Fu L hkk)),(7,p_ ⟨[],some (aZ S.X bs.length),none,none,none⟩ [(((aZ S.X bs.length):Nat):Int)=(((aZ S.X bs.length):Nat):Int),(aZ S.X bs.length)<=c] ⟨rfl,by omega,trivial⟩)] ?_
 refine aN.cut (ι:=(Option Addr)×Nat) (fr':=fun ((A1,c2):(Option Addr)×Nat)=>[(0,vP f),(1,vP (L.b k)),(9,vI ↑(aZ S.X bs.length)),(29,vP (L.b k)),(37,.slice A1 (((obj S.O k).data++bs.take (aZ S.X bs.length)).length) (c2))]) (hp':=fun ((A1,c2):(Option Addr)×Nat)=>(K2 f m t S L k R++[Q7 A1 S k bs c2])) [0,1,2,3,4,5,6] rfl rfl ?_ rfl (fun _=>by kernel_rfl) ?_
 ·refine aj.append 7 (d:=(some 37)) (t:=46) (e:=5) (z:=.int .u8 0) (size:=1) (bytes:=1) (n:=(obj S.O k).data.length) (cap:=(L.dC k)) (A:=(L.dA k)) (xs:=(bY (obj S.O k).data)) (s:=(.tmp 33)) (x:=(.tmp 36)) (ats:=#[46,46]) (A':=A) (m:=(aZ S.X bs.length)) (c':=c) (news:=(bY (bs.take (aZ S.X bs.length)))) (fun _=>by kernel_rfl) rfl (by kernel_rfl) (fun _=>by kernel_rfl) (fun _=>by kernel_rfl) Tryz.underlying46 (by kernel_rfl) rfl (by decide) (by rw [rI,List.length_take,Nat.min_eq_left hwl.1,Nat.mul_one]) (nO (bs.take (aZ S.X bs.length))) ((hA.take (aZ S.X bs.length)).src) (by unfold maxLen;omega) (by omega) (fun A1 c2=>?_)
  refine aj.dm 7 (p:=.abs (aK 5 1 A1 (((obj S.O k).data.length)+(aZ S.X bs.length)) c2 ((bY (obj S.O k).data)++(bY (bs.take (aZ S.X bs.length)))))) (p':=.abs (aK 5 1 A1 (((obj S.O k).data++bs.take (aZ S.X bs.length)).length) c2 (bY ((obj S.O k).data++bs.take (aZ S.X bs.length))))) (by kernel_rfl) (by rw [IW,List.length_append,List.length_take,Nat.min_eq_left hwl.1]) ?_
  refine aj.slot 37 (.slice A1 (((obj S.O k).data.length)+(aZ S.X bs.length)) (c2)) (.slice A1 (((obj S.O k).data++bs.take (aZ S.X bs.length)).length) (c2)) (fun _=>by kernel_rfl) (by rw [List.length_append,List.length_take,Nat.min_eq_left hwl.1]) ?_
  refine NL ?_
  exact MD (A1,c2) [0,1,9,29,37] [0,1,2,3,4,5,6,7]
 rintro⟨A1,c2⟩
 refine aN.cut (ι:=Unit) (fr':=fun (_:Unit)=>[(0,vP f),(1,vP (L.b k)),(9,vI ↑(aZ S.X bs.length)),(37,.slice A1 (((obj S.O k).data++bs.take (aZ S.X bs.length)).length) (c2)),(38,vP (L.b k))]) (hp':=fun (_:Unit)=>(K2 f m t S L k R++[Q7 A1 S k bs c2])) [0,1,2,3,4,5,6] rfl rfl ?_ rfl (fun _=>by kernel_rfl) ?_
 ·refine gK 1 [(38,vP (L.b k))] [] ?_
  refine NL ?_
  exact MD () [0,1,9,37,38] [0,1,2,3,4,5,6,7]
 rintro _
 refine aN.cut (ι:=Unit) (fr':=fun (_:Unit)=>[(0,vP f),(1,vP (L.b k)),(9,vI ↑(aZ S.X bs.length)),(37,.slice A1 (((obj S.O k).data++bs.take (aZ S.X bs.length)).length) (c2)),(39,.pointer (some ⟨(L.b k),9,none⟩))]) (hp':=fun (_:Unit)=>(K2 f m t S L k R++[Q7 A1 S k bs c2])) [0,1,2,3,4,5,6] rfl rfl ?_ rfl (fun _=>by kernel_rfl) ?_
 ·refine gK 1 [(39,.pointer (some ⟨(L.b k),9,none⟩))] [] ?_
  refine NL ?_
  exact MD () [0,1,9,37,39] [0,1,2,3,4,5,6,7]
 rintro _
 refine aN.last rfl rfl ?_
 refine aj.mem (fun w hS=>hS.xC (i:=3) (k:=k) rfl (by rw [hkk];decide) (ia (hkk)) (congrArg kE (hkk))) ?_
 refine gC 1 [] [(0,a_ 8 (L.b k))] [(8,[(9,.slice A1 (((obj S.O k).data++bs.take (aZ S.X bs.length)).length) (c2))])] ?_
 obtain⟨L2,hL2⟩:∃ L2:HL,L2=L.data k A1 c2:=⟨_,rfl⟩
 refine aj.mem (cR:=[.abs (ax (bI (aD S.O k (fun o=>{ o with data:=o.data++bs.take (aZ S.X bs.length) })) L2)),.blk f [vI (S.X.cN),vI (S.X.cB),vI (S.X.cH),vI (S.X.cS),vI (S.X.cZ),.map (some m),vP t,vI (S.X.last),vI (S.X.ah),vI (S.X.used)] 126,.abs (aL Tryz.prog 3 m (aX (aY L S.idx)) S.idx.length),.abs (cV 197 t S.X.cH S.ay (aY L S.us)),.abs (ax (kD (bJ S.O L) k cr.none)),.abs (ax (cK S.O L)),.abs R,.abs (aK 5 1 A1 (((obj S.O k).data++bs.take (aZ S.X bs.length)).length) c2 (bY ((obj S.O k).data++bs.take (aZ S.X bs.length))))]) (fun w hS=>hS.Qx hL2 (f:=(fun o=>{ o with data:=o.data++bs.take (aZ S.X bs.length) })) (i:=3) (j:=8) (ix:=[0,1,2,4,5,6,7]) rfl rfl (by kernel_rfl) rfl (by show (obj S.O k).kind≠0;rw [hkk];decide) ((ia (L:=L2) (k:=k) (o:=(fun o=>{ o with data:=o.data++bs.take (aZ S.X bs.length) }) (obj S.O k)) hkk).trans (by rw [He hL2,Hf hL2]<;>rfl)) (by show kE (obj S.O k).kind=_;rw [hkk]<;>rfl)) ?_
 refine aj.mem (cR:=[pD (aD S.O k (fun o=>{ o with data:=o.data++bs.take (aZ S.X bs.length) })) L2,pO (aD S.O k (fun o=>{ o with data:=o.data++bs.take (aZ S.X bs.length) })) L2,pF f m t S.X,pI m L S.idx,pT t S.X.cH S.ay L S.us,pE S.O L,.abs R]) (fun w hS=>hS.Qy hL2 (f:=(fun o=>{ o with data:=o.data++bs.take (aZ S.X bs.length) })) (i:=4) (j:=7) (ix:=[0,1,2,3,5,6]) rfl rfl (by kernel_rfl) rfl hkk rfl rfl) ?_
 refine aj.dx [(3,.abs (aL Tryz.prog 3 m (aX (aY L2 S.idx)) S.idx.length)),(4,.abs (cV 197 t S.X.cH S.ay (aY L2 S.us))),(5,.abs (ax (cK (aD S.O k (fun o=>{ o with data:=o.data++bs.take (aZ S.X bs.length) })) L2)))] (fun w hS=>by rw [E4 hL2,E4 hL2,show cK (aD S.O k (fun o=>{ o with data:=o.data++bs.take (aZ S.X bs.length) })) L2=cK S.O L from (mW (O:=S.O) (k:=k) (f:=(fun o=>{ o with data:=o.data++bs.take (aZ S.X bs.length) })) rfl rfl).trans (Mw hL2)];exact hS) ?_
 have CQ:(obj (aD S.O k (fun o=>{ o with data:=o.data++bs.take (aZ S.X bs.length) })) k).kind=1:=(jO (f:=(fun o=>{ o with data:=o.data++bs.take (aZ S.X bs.length) })) (fun _=>rfl)).trans hkk
 have hbk:L2.b k=L.b k:=Kz hL2
 generalize cq:(aD S.O k (fun o=>{ o with data:=o.data++bs.take (aZ S.X bs.length) }))=cI at CQ ⊢
 refine NL (ai.np (NX (SR ?_)))
 refine gK 1 [(40,vP (L.b k))] [] ?_
 refine aj.slot 40 (vP (L.b k)) (vP (L2.b k)) (fun _=>by kernel_rfl) (by rw [hbk]) ?_
 refine gK 8 [(45,.agg #[vI (S.X.cS),vI (S.X.cZ)]),(48,.pointer (some ⟨(L2.b k),4,none⟩))] [(4,A_ 2 f 2)] ?_
 refine KV 1 [(5,1),(0,2)] k S.X.cS S.X.cZ CQ (fun ef dh=>?_)
 have x3:=ku dh CQ
 refine NS (gC 9 [] [(3,a_ 2 f),(5,p_ ⟨[],none,none,none,some (vI (S.X.used+(((aZ S.X bs.length):Nat):Int)))⟩ [(Value.int .i64 (IntKind.wrap .i64 (S.X.used+(((aZ S.X bs.length):Nat):Int))))=(.int .i64 (S.X.used+(((aZ S.X bs.length):Nat):Int)))] ⟨bn (by omega) (by omega) (by omega),trivial⟩),(8,a_ 2 f)] [(2,[(9,vI (S.X.used+(((aZ S.X bs.length):Nat):Int)))])] ?_)
 refine NS (gK 3 [(6,vI ↑(aZ S.X bs.length)),(7,vI 0)] [] ?_)
 refine NN (af.ret ?_)
 exact RT (l:=[pF f m t { S.X with used:=S.X.used+(((aZ S.X bs.length):Nat):Int) },pI m L2 S.idx,pT t S.X.cH S.ay L2 S.us,pO ef L2,pD ef L2,pE ef L2]) (.tuple #[vI ↑(aZ S.X bs.length),vI 0]) [2,3,4,1,0,5,6] (⟨L2,by subst dh;subst cq;rw [show cW S k bs=_ from (if_neg (fun e=>by rw [e] at hlen;exact absurd hlen (by simp))).trans (if_neg wM)];exact⟨rfl,by rw [tQ]⟩⟩)
end
section
open Go.RowKit Go.Maps bD aE
attribute [local irreducible] aj aP af ai
abbrev kx (t)(S:aH) (L:HL):=(pT t S.X.cH S.ay L S.us:HP)
abbrev oJ (m:Nat) (L:HL) (S:aH) (cb:Nat) (c) (R:cr):=([pI m L S.idx,pD S.O L,pE S.O L,pC cb c,.abs R]:List HP)
abbrev OA (f:Nat) (c:aF):=([(8,vP f),(12,vI (c.handle)),(16,.string c.name)]:Fr)
abbrev FD (L:HL) (d:Nat):=([(5,vP (L.b d)),(6,vI 0)]:Fr)
abbrev Q8 (f:Nat) (L:HL) (d:Nat) (c:aF):=([(23,vP f),(24,vP (L.b d)),(28,.string c.name)]:Fr)
abbrev pJ (f:Nat) (m:Nat) (t) (S:aH) (L:HL):=([pF f m t S.X,kx t S L,pO S.O L]:List HP)
abbrev K3 (e):=([(5,.pointer none),(6,vI (e))]:Fr)
theorem iK {β:Bs} (S:aH) (L:HL) (f m t:Nat) (hI:Inv S) (cb:Nat) (c:aF) (hC:gh β c) :
    Spec Tryz.prog β 122 #[vP f,vP cb] ((pA f m t L S)++[pC cb c]) (fun v l=>v=Ut L (fK S.O S.us c)/\l=((pA f m t L S)++[pC cb c])):=by
 refine Spec.enter Tryz.func122 rfl Tryz.ntmps122 (Nat.le_of_ble_eq_true rfl) (fun R=>?_)
 refine SR (gK 2 [] [] ?_)
 refine NN (af.seq (af.bF (by kernel_rfl) (by kernel_rfl) ?_))
 refine gQ 9 [(10,vP f),(14,vI (c.handle)),(18,.string c.name)] [(4,a_ 6 cb),(8,a_ 6 cb)] ?_
 rcases kT hI.toInv0 c.handle c.name 64 with ⟨e,hab,hne⟩|⟨d,hab,hd,iX,iP,dL⟩
 ·refine aP.call (f:=123) (args:=#[vP f,vI (c.handle),.string c.name,vI 64]) (d:=(some 19)) (pre:=(pJ f m t S L)) (R:=(oJ m L S cb c R)) (pk:=[0,2,3,1,4,5,6,7]) (ji:=[0,3,1,2,4,5,6,7]) (v0:=.tuple #[.pointer none,vI (e)]) (fun _=>by kernel_rfl) ((by have h:=eE S L f m t hI c.handle hC.hw c.name hC.nm 64 (β:=β);rw [hab] at h;exact h)) rfl (by kernel_rfl) rfl (by kernel_rfl) (fun _ _ h=>h) ?_
  refine gQ 5 [(6,.pointer none),(7,vI (e))] [] ?_
  refine NQ (NX (af.seq (SR ?_)))
  refine gK 2 [(23,.bool (!(decide ((e:Int)=(0:Int)))))] [] ?_
  refine NN (af.cX (p:=(e:Int)=(0:Int)) (fun _=>by kernel_rfl) (fun h23=>?_) (fun h23=>?_))
  ·refine SR (gK 3 [(4,.nilIface),(5,vI (e))] [] ?_)
   refine NN (af.ret (ai.ak ?_))
   exact RT (.tuple #[.nilIface,vI (e)]) [0,1,2,3,4,5,6,7] (⟨by rw [show fK S.O S.us c=.error e by unfold fK;rw [hab]];rfl,rfl⟩)
  exact absurd h23 hne
 have hkd:(obj S.O d).kind=2:=hI.kind hd
 refine aP.call (f:=123) (args:=#[vP f,vI (c.handle),.string c.name,vI 64]) (d:=(some 19)) (pre:=(pJ f m t S L)) (R:=(oJ m L S cb c R)) (pk:=[0,2,3,1,4,5,6,7]) (ji:=[0,3,1,2,4,5,6,7]) (v0:=.tuple #[vP (L.b d),vI 0]) (fun _=>by kernel_rfl) ((by have h:=eE S L f m t hI c.handle hC.hw c.name hC.nm 64 (β:=β);rw [hab] at h;exact h)) rfl (by kernel_rfl) rfl (by kernel_rfl) (fun _ _ h=>h) ?_
 refine gQ 5 [(6,vP (L.b d)),(7,vI 0)] [] ?_
 refine NQ (NX (af.seq (SR ?_)))
 refine gK 2 [(23,.bool false)] [] ?_
 refine NN (CF (af.skip (NX (af.seq ?_))))
 have hel:(obj S.O d).ah.length<=8192:=hI.gy hd
 have SN:=hC.nm
 rcases hI.mr hd c.name with hlk|⟨tk,hlk,hlv⟩|⟨tk,hlk,hlv⟩|⟨tk,hlk,hlv⟩
 ·refine af.bF (by kernel_rfl) (by kernel_rfl) ?_
  refine gQ 8 [(28,.map (some (L.m d))),(32,.string c.name)] [(3,v_ 3 (bw L hkd)),(7,a_ 6 cb)] ?_
  refine rz 5 hkd hlk ?_
  refine gQ 1 [(8,.nilIface)] [] ?_
  refine NQ (NX (af.seq (SR ?_)))
  refine gK 2 [(35,.bool true)] [] ?_
  refine NN (CT (SR (gK 2 [(4,.nilIface),(5,vI 170)] [] ?_)))
  refine NN (af.ret (ai.ak ?_))
  exact RT (.tuple #[.nilIface,vI 170]) [0,1,2,3,4,5,6,7] (⟨by rw [show fK S.O S.us c=.error 170 by unfold fK;rw [hab];simp only;rw [hlk]];rfl,rfl⟩)
 ·have hkt:(obj S.O tk).kind=1:=hI.kind hlv
  refine af.bF (by kernel_rfl) (by kernel_rfl) ?_
  refine gQ 8 [(28,.map (some (L.m d))),(32,.string c.name)] [(3,v_ 3 (bw L hkd)),(7,a_ 6 cb)] ?_
  refine rz 5 hkd hlk ?_
  refine gQ 1 [(8,.iface 129 (vP (L.b tk)))] [] ?_
  refine NQ (NX (af.seq (SR ?_)))
  refine gK 2 [(35,.bool false)] [] ?_
  refine NN (CF (af.skip (NX (SR (gK 3 [(4,.iface 129 (vP (L.b tk))),(5,vI 0)] [] ?_)))))
  refine NN (af.ret ?_)
  exact RT (.tuple #[.iface 129 (vP (L.b tk)),vI 0]) [0,1,2,3,4,5,6,7] (⟨by rw [show fK S.O S.us c=.ok ⟨tk,1⟩ by unfold fK;rw [hab];simp only;rw [hlk]];rfl,rfl⟩)
 ·have hkt:(obj S.O tk).kind=2:=hI.kind hlv
  refine af.bF (by kernel_rfl) (by kernel_rfl) ?_
  refine gQ 8 [(28,.map (some (L.m d))),(32,.string c.name)] [(3,v_ 3 (bw L hkd)),(7,a_ 6 cb)] ?_
  refine rz 5 hkd hlk ?_
  refine gQ 1 [(8,.iface 135 (vP (L.b tk)))] [] ?_
  refine NQ (NX (af.seq (SR ?_)))
  refine gK 2 [(35,.bool false)] [] ?_
  refine NN (CF (af.skip (NX (SR (gK 3 [(4,.iface 135 (vP (L.b tk))),(5,vI 0)] [] ?_)))))
  refine NN (af.ret ?_)
  exact RT (.tuple #[.iface 135 (vP (L.b tk)),vI 0]) [0,1,2,3,4,5,6,7] (⟨by rw [show fK S.O S.us c=.ok ⟨tk,2⟩ by unfold fK;rw [hab];simp only;rw [hlk]];rfl,rfl⟩)
 have hkt:(obj S.O tk).kind=3:=hI.kind hlv
 refine af.bF (by kernel_rfl) (by kernel_rfl) ?_
 refine gQ 8 [(28,.map (some (L.m d))),(32,.string c.name)] [(3,v_ 3 (bw L hkd)),(7,a_ 6 cb)] ?_
 refine rz 5 hkd hlk ?_
 refine gQ 1 [(8,.iface 132 (vP (L.b tk)))] [] ?_
 refine NQ (NX (af.seq (SR ?_)))
 refine gK 2 [(35,.bool false)] [] ?_
 refine NN (CF (af.skip (NX (SR (gK 3 [(4,.iface 132 (vP (L.b tk))),(5,vI 0)] [] ?_)))))
 refine NN (af.ret ?_)
 exact RT (.tuple #[.iface 132 (vP (L.b tk)),vI 0]) [0,1,2,3,4,5,6,7] (⟨by rw [show fK S.O S.us c=.ok ⟨tk,3⟩ by unfold fK;rw [hab];simp only;rw [hlk]];rfl,rfl⟩)
theorem Jq {β:Bs} (S:aH) (L:HL) (f m t:Nat) (hI:Inv S) (cb:Nat) (c:aF) (hC:gh β c) :
    Spec Tryz.prog β 89 #[vP f,vP cb] ((pA f m t L S)++[pC cb c]) (fun v l=>∃ L2,v=vI (jl S c).1/\l=((pA f m t L2 ((jl S c).2.1))++[.blk cb (bN ((jl S c).2.2)) 48])):=by
 have hX:=hI.hX
 refine Spec.enter Tryz.func89 rfl Tryz.ntmps89 (Nat.le_of_ble_eq_true rfl) (fun R=>?_)
 refine SR (gK 1 [] [] ?_)
 refine NN (af.seq ?_)
 rcases hI.Qq c.other with hix|⟨tk,hix,hlv⟩|⟨tk,hix,hlv⟩|⟨tk,hix,hlv⟩
 ·refine af.bF (by kernel_rfl) (by kernel_rfl) ?_
  refine gQ 8 [(10,.map (some m)),(14,vI (c.other))] [(3,a_ 0 f),(7,a_ 6 cb)] ?_
  refine aP.dR 1 (d:=(some 15)) (t:=120) (K:=3) (E:=124) (b:=m) (n:=S.idx.length) (f:=(aX (aY L S.idx))) (x:=(.tmp 10)) (ix:=(.tmp 14)) (key:=.int .i64 (c.other)) (z:=.nilIface) (kl:=(.int .i64 c.other)) (r:=none) (fun _=>by kernel_rfl) (by kernel_rfl) (fun _=>by kernel_rfl) (fun _=>by kernel_rfl) dw Tryz.underlying120 (fun _=>by kernel_rfl) (gY hC.ow) (by rw [fC,hix];rfl) ?_
  refine gQ 1 [(5,.nilIface)] [] ?_
  refine NQ (NX (af.seq (SR ?_)))
  refine gK 2 [(17,.bool true)] [] ?_
  refine NN (CT (SR (gK 1 [(4,vI 141)] [] ?_)))
  refine NN (af.ret (ai.ak ?_))
  exact RT (vI 141) [0,1,2,3,4,5,6,7] (⟨L,by rw [show (jl S c)=(141,S,c) by unfold jl;rw [hix]]<;>exact⟨rfl,rfl⟩⟩)
 ·have hkt:(obj S.O tk).kind=1:=hI.kind hlv
  refine af.bF (by kernel_rfl) (by kernel_rfl) ?_
  refine gQ 8 [(10,.map (some m)),(14,vI (c.other))] [(3,a_ 0 f),(7,a_ 6 cb)] ?_
  refine aP.dR 1 (d:=(some 15)) (t:=120) (K:=3) (E:=124) (b:=m) (n:=S.idx.length) (f:=(aX (aY L S.idx))) (x:=(.tmp 10)) (ix:=(.tmp 14)) (key:=.int .i64 (c.other)) (z:=.nilIface) (kl:=(.int .i64 c.other)) (r:=(some (dQ L ⟨tk,1⟩))) (fun _=>by kernel_rfl) (by kernel_rfl) (fun _=>by kernel_rfl) (fun _=>by kernel_rfl) dw Tryz.underlying120 (fun _=>by kernel_rfl) (gY hC.ow) (by rw [fC,hix];rfl) ?_
  refine gQ 1 [(5,.iface 129 (vP (L.b tk)))] [] ?_
  refine NQ (NX (af.seq (SR ?_)))
  refine gK 2 [(17,.bool false)] [] ?_
  refine NN (CF (af.skip (NX (af.seq (SR (gK 1 [(18,.iface 129 (vP (L.b tk)))] [] ?_))))))
  refine gL [] (mI (vP (L.b tk))) ?_
  rintro _ _ ⟨rfl,rfl⟩
  refine gK 1 [(20,.bool true)] [] ?_
  refine NN (CT (SR (gK 1 [(4,vI 173)] [] ?_)))
  refine NN (af.ret (ai.ak ?_))
  exact RT (vI 173) [0,1,2,3,4,5,6,7] (⟨L,by rw [show (jl S c)=(173,S,c) by unfold jl;rw [hix];exact if_neg (by simp)]<;>exact⟨rfl,rfl⟩⟩)
 ·have hkt:(obj S.O tk).kind=2:=hI.kind hlv
  refine af.bF (by kernel_rfl) (by kernel_rfl) ?_
  refine gQ 8 [(10,.map (some m)),(14,vI (c.other))] [(3,a_ 0 f),(7,a_ 6 cb)] ?_
  refine aP.dR 1 (d:=(some 15)) (t:=120) (K:=3) (E:=124) (b:=m) (n:=S.idx.length) (f:=(aX (aY L S.idx))) (x:=(.tmp 10)) (ix:=(.tmp 14)) (key:=.int .i64 (c.other)) (z:=.nilIface) (kl:=(.int .i64 c.other)) (r:=(some (dQ L ⟨tk,2⟩))) (fun _=>by kernel_rfl) (by kernel_rfl) (fun _=>by kernel_rfl) (fun _=>by kernel_rfl) dw Tryz.underlying120 (fun _=>by kernel_rfl) (gY hC.ow) (by rw [fC,hix];rfl) ?_
  refine gQ 1 [(5,.iface 135 (vP (L.b tk)))] [] ?_
  refine NQ (NX (af.seq (SR ?_)))
  refine gK 2 [(17,.bool false)] [] ?_
  refine NN (CF (af.skip (NX (af.seq (SR (gK 1 [(18,.iface 135 (vP (L.b tk)))] [] ?_))))))
  refine gL [] (mJ (vP (L.b tk))) ?_
  rintro _ _ ⟨rfl,rfl⟩
  refine gK 1 [(20,.bool false)] [] ?_
  refine NN (CF (af.skip (NX (SR (gK 1 [] [] ?_)))))
  refine NS (gK 3 [(22,vP cb),(23,vP f),(24,.iface 135 (vP (L.b tk)))] [] ?_)
  refine gL [0,2,3] (tB S L f m t ⟨tk,2⟩ hkt (by simp) (by have:=hI.Dr hlv;simp only at this ⊢;omega)) ?_
  rintro _ _ ⟨rfl,rfl⟩
  refine gC 7 [(6,vI ((bR S ⟨tk,2⟩).2.1))] [(5,a_ 6 cb)] [(6,[(12,vI ((bR S ⟨tk,2⟩).1))])] ?_
  refine NS (aj.dx [(4,.abs (ax (bJ ((bR S ⟨tk,2⟩).2.2.O) L))),(5,.abs (ax (cK ((bR S ⟨tk,2⟩).2.2.O) L)))] (fun w hS=>by rw [zW,zX];exact hS) ?_)
  refine gK 2 [(4,vI ((bR S ⟨tk,2⟩).2.1))] [] ?_
  refine NN (af.ret ?_)
  exact RT (vI ((bR S ⟨tk,2⟩).2.1)) [0,3,1,2,4,5,6,7] (⟨L,by rw [show (jl S c)=((bR S ⟨tk,2⟩).2.1,(bR S ⟨tk,2⟩).2.2,{ c with answer:=(bR S ⟨tk,2⟩).1 }) by unfold jl;rw [hix];exact if_pos rfl]<;>exact⟨rfl,rfl⟩⟩)
 have hkt:(obj S.O tk).kind=3:=hI.kind hlv
 refine af.bF (by kernel_rfl) (by kernel_rfl) ?_
 refine gQ 8 [(10,.map (some m)),(14,vI (c.other))] [(3,a_ 0 f),(7,a_ 6 cb)] ?_
 refine aP.dR 1 (d:=(some 15)) (t:=120) (K:=3) (E:=124) (b:=m) (n:=S.idx.length) (f:=(aX (aY L S.idx))) (x:=(.tmp 10)) (ix:=(.tmp 14)) (key:=.int .i64 (c.other)) (z:=.nilIface) (kl:=(.int .i64 c.other)) (r:=(some (dQ L ⟨tk,3⟩))) (fun _=>by kernel_rfl) (by kernel_rfl) (fun _=>by kernel_rfl) (fun _=>by kernel_rfl) dw Tryz.underlying120 (fun _=>by kernel_rfl) (gY hC.ow) (by rw [fC,hix];rfl) ?_
 refine gQ 1 [(5,.iface 132 (vP (L.b tk)))] [] ?_
 refine NQ (NX (af.seq (SR ?_)))
 refine gK 2 [(17,.bool false)] [] ?_
 refine NN (CF (af.skip (NX (af.seq (SR (gK 1 [(18,.iface 132 (vP (L.b tk)))] [] ?_))))))
 refine gL [] (nY (vP (L.b tk))) ?_
 rintro _ _ ⟨rfl,rfl⟩
 refine gK 1 [(20,.bool true)] [] ?_
 refine NN (CT (SR (gK 1 [(4,vI 173)] [] ?_)))
 refine NN (af.ret (ai.ak ?_))
 exact RT (vI 173) [0,1,2,3,4,5,6,7] (⟨L,by rw [show (jl S c)=(173,S,c) by unfold jl;rw [hix];exact if_neg (by simp)]<;>exact⟨rfl,rfl⟩⟩)
theorem D1 {β:Bs} (S:aH) (L:HL) (f m t:Nat) (hI:Inv S) (cb:Nat) (c:aF) (hC:gh β c) :
    Spec Tryz.prog β 90 #[vP f,vP cb] ((pA f m t L S)++[pC cb c]) (fun v l=>∃ L2,v=vI (fH S c).1/\l=((pA f m t L2 ((fH S c).2.1))++[.blk cb (bN ((fH S c).2.2)) 48])):=by
 have hX:=hI.hX
 refine Spec.enter Tryz.func90 rfl Tryz.ntmps90 (Nat.le_of_ble_eq_true rfl) (fun R=>?_)
 refine SR (gK 1 [] [] ?_)
 refine NS (gK 2 [(8,vP f),(9,vP cb)] [] ?_)
 rcases Bu hI.toInv0 c with ⟨e,hnm,hne⟩|⟨tk,hnm,hlv⟩|⟨tk,hnm,hlv⟩|⟨tk,hnm,hlv⟩
 ·refine gL (f:=122) (args:=#[vP f,vP cb]) (pre:=((pA f m t L S)++[pC cb c])) [0,1,2,3,4,5,6] ((by have h:=iK S L f m t hI cb c hC (β:=β);rw [hnm] at h;exact h)) ?_
  rintro _ _ ⟨rfl,rfl⟩
  refine gK 5 [(5,.nilIface),(6,vI (e))] [] ?_
  refine NN (af.seq (SR (gK 2 [(14,.bool (!(decide ((e:Int)=(0:Int)))))] [] ?_)))
  refine NN (af.cX (p:=(e:Int)=(0:Int)) (fun _=>by kernel_rfl) (fun jc=>?_) (fun jc=>?_))
  ·refine SR (gK 2 [(4,vI (e))] [] ?_)
   refine NN (af.ret (ai.ak ?_))
   exact RT (vI (e)) [0,1,2,3,4,5,6,7] (⟨L,by rw [show (fH S c)=(e,S,c) by unfold fH;rw [hnm]]<;>exact⟨rfl,rfl⟩⟩)
  exact absurd jc hne
 ·have hkt:(obj S.O tk).kind=1:=hI.kind hlv
  refine gL (f:=122) (args:=#[vP f,vP cb]) (pre:=((pA f m t L S)++[pC cb c])) [0,1,2,3,4,5,6] ((by have h:=iK S L f m t hI cb c hC (β:=β);rw [hnm] at h;exact h)) ?_
  rintro _ _ ⟨rfl,rfl⟩
  refine gK 5 [(5,.iface 129 (vP (L.b tk))),(6,vI 0)] [] ?_
  refine NN (af.seq (SR (gK 2 [(14,.bool false)] [] ?_)))
  refine NN (CF (af.skip (NX (af.seq (SR (gK 1 [(16,.iface 129 (vP (L.b tk)))] [] ?_))))))
  refine NN (af.block (SR ?_))
  refine gK 3 [(18,.bool false)] [] ?_
  refine NN (CF (SR (gK 3 [(21,.bool true)] [] ?_)))
  refine NN (CT (SR (gK 1 [(4,vI 173)] [] ?_)))
  refine NN (af.ret (ai.aG (ai.ak ?_)))
  exact RT (vI 173) [0,1,2,3,4,5,6,7] (⟨L,by rw [show (fH S c)=(173,S,c) by unfold fH;rw [hnm];exact (if_neg (by simp)).trans (if_pos rfl)]<;>exact⟨rfl,rfl⟩⟩)
 ·have hkt:(obj S.O tk).kind=2:=hI.kind hlv
  refine gL (f:=122) (args:=#[vP f,vP cb]) (pre:=((pA f m t L S)++[pC cb c])) [0,1,2,3,4,5,6] ((by have h:=iK S L f m t hI cb c hC (β:=β);rw [hnm] at h;exact h)) ?_
  rintro _ _ ⟨rfl,rfl⟩
  refine gK 5 [(5,.iface 135 (vP (L.b tk))),(6,vI 0)] [] ?_
  refine NN (af.seq (SR (gK 2 [(14,.bool false)] [] ?_)))
  refine NN (CF (af.skip (NX (af.seq (SR (gK 1 [(16,.iface 135 (vP (L.b tk)))] [] ?_))))))
  refine NN (af.block (SR ?_))
  refine gK 3 [(18,.bool false)] [] ?_
  refine NN (CF (SR (gK 3 [(21,.bool false)] [] ?_)))
  refine NN (CF (af.skip (ai.aJ (NX (SR ?_)))))
  refine gK 3 [(24,vP cb),(25,vP f),(26,.iface 135 (vP (L.b tk)))] [] ?_
  refine gL [0,2,3] (tB S L f m t ⟨tk,2⟩ hkt (by simp) (by have:=hI.Dr hlv;simp only at this ⊢;omega)) ?_
  rintro _ _ ⟨rfl,rfl⟩
  refine gC 7 [(6,vI ((bR S ⟨tk,2⟩).2.1))] [(5,a_ 6 cb)] [(6,[(12,vI ((bR S ⟨tk,2⟩).1))])] ?_
  refine NS (aj.dx [(4,.abs (ax (bJ ((bR S ⟨tk,2⟩).2.2.O) L))),(5,.abs (ax (cK ((bR S ⟨tk,2⟩).2.2.O) L)))] (fun w hS=>by rw [zW,zX];exact hS) ?_)
  refine gK 2 [(4,vI ((bR S ⟨tk,2⟩).2.1))] [] ?_
  refine NN (af.ret ?_)
  exact RT (vI ((bR S ⟨tk,2⟩).2.1)) [0,3,1,2,4,5,6,7] (⟨L,by rw [show (fH S c)=((bR S ⟨tk,2⟩).2.1,(bR S ⟨tk,2⟩).2.2,{ c with answer:=(bR S ⟨tk,2⟩).1 }) by unfold fH;rw [hnm];exact (if_neg (by simp)).trans (if_neg (by simp))]<;>exact⟨rfl,rfl⟩⟩)
 have hkt:(obj S.O tk).kind=3:=hI.kind hlv
 refine gL (f:=122) (args:=#[vP f,vP cb]) (pre:=((pA f m t L S)++[pC cb c])) [0,1,2,3,4,5,6] ((by have h:=iK S L f m t hI cb c hC (β:=β);rw [hnm] at h;exact h)) ?_
 rintro _ _ ⟨rfl,rfl⟩
 refine gK 5 [(5,.iface 132 (vP (L.b tk))),(6,vI 0)] [] ?_
 refine NN (af.seq (SR (gK 2 [(14,.bool false)] [] ?_)))
 refine NN (CF (af.skip (NX (af.seq (SR (gK 1 [(16,.iface 132 (vP (L.b tk)))] [] ?_))))))
 refine NN (af.block (SR ?_))
 refine gK 3 [(18,.bool true)] [] ?_
 refine NN (CT (SR (gK 1 [(4,vI 174)] [] ?_)))
 refine NN (af.ret (ai.aG (ai.ak ?_)))
 exact RT (vI 174) [0,1,2,3,4,5,6,7] (⟨L,by rw [show (fH S c)=(174,S,c) by unfold fH;rw [hnm];exact if_pos rfl]<;>exact⟨rfl,rfl⟩⟩)
theorem CU {β:Bs} (S:aH) (L:HL) (f m t:Nat) (hI:Inv S) (cb:Nat) (c:aF) (hC:gh β c) :
    Spec Tryz.prog β 91 #[vP f,vP cb] ((pA f m t L S)++[pC cb c]) (fun v l=>∃ L2,v=vI (eP S c).1/\l=((pA f m t L2 ((eP S c).2.1))++[.blk cb (bN ((eP S c).2.2)) 48])):=by
 have hX:=hI.hX
 refine Spec.enter Tryz.func91 rfl Tryz.ntmps91 (Nat.le_of_ble_eq_true rfl) (fun R=>?_)
 refine SR (gK 1 [] [] ?_)
 refine NS (gK 2 [(8,vP f),(9,vP cb)] [] ?_)
 rcases Bu hI.toInv0 c with ⟨e,hnm,hne⟩|⟨tk,hnm,hlv⟩|⟨tk,hnm,hlv⟩|⟨tk,hnm,hlv⟩
 ·refine gL (f:=122) (args:=#[vP f,vP cb]) (pre:=((pA f m t L S)++[pC cb c])) [0,1,2,3,4,5,6] ((by have h:=iK S L f m t hI cb c hC (β:=β);rw [hnm] at h;exact h)) ?_
  rintro _ _ ⟨rfl,rfl⟩
  refine gK 5 [(5,.nilIface),(6,vI (e))] [] ?_
  refine NN (af.seq (SR (gK 2 [(14,.bool (!(decide ((e:Int)=(0:Int)))))] [] ?_)))
  refine NN (af.cX (p:=(e:Int)=(0:Int)) (fun _=>by kernel_rfl) (fun jc=>?_) (fun jc=>?_))
  ·refine SR (gK 2 [(4,vI (e))] [] ?_)
   refine NN (af.ret (ai.ak ?_))
   exact RT (vI (e)) [0,1,2,3,4,5,6,7] (⟨L,by rw [show (eP S c)=(e,S,c) by unfold eP;rw [hnm]]<;>exact⟨rfl,rfl⟩⟩)
  exact absurd jc hne
 ·have hkt:(obj S.O tk).kind=1:=hI.kind hlv
  refine gL (f:=122) (args:=#[vP f,vP cb]) (pre:=((pA f m t L S)++[pC cb c])) [0,1,2,3,4,5,6] ((by have h:=iK S L f m t hI cb c hC (β:=β);rw [hnm] at h;exact h)) ?_
  rintro _ _ ⟨rfl,rfl⟩
  refine gK 5 [(5,.iface 129 (vP (L.b tk))),(6,vI 0)] [] ?_
  refine NN (af.seq (SR (gK 2 [(14,.bool false)] [] ?_)))
  refine NN (CF (af.skip (NX (af.seq (SR (gK 1 [(16,.iface 129 (vP (L.b tk)))] [] ?_))))))
  refine NN (af.block (SR ?_))
  refine gK 3 [(18,.bool false)] [] ?_
  refine NN (CF (SR (gK 3 [(21,.bool false)] [] ?_)))
  refine NN (CF (af.skip (ai.aJ (NX (SR ?_)))))
  refine gK 3 [(24,vP cb),(25,vP f),(26,.iface 129 (vP (L.b tk)))] [] ?_
  refine gL [0,2,3] (tB S L f m t ⟨tk,1⟩ hkt (by simp) (by have:=hI.Dr hlv;simp only at this ⊢;omega)) ?_
  rintro _ _ ⟨rfl,rfl⟩
  refine gC 7 [(6,vI ((bR S ⟨tk,1⟩).2.1))] [(5,a_ 6 cb)] [(6,[(12,vI ((bR S ⟨tk,1⟩).1))])] ?_
  refine NS (aj.dx [(4,.abs (ax (bJ ((bR S ⟨tk,1⟩).2.2.O) L))),(5,.abs (ax (cK ((bR S ⟨tk,1⟩).2.2.O) L)))] (fun w hS=>by rw [zW,zX];exact hS) ?_)
  refine gK 2 [(4,vI ((bR S ⟨tk,1⟩).2.1))] [] ?_
  refine NN (af.ret ?_)
  exact RT (vI ((bR S ⟨tk,1⟩).2.1)) [0,3,1,2,4,5,6,7] (⟨L,by rw [show (eP S c)=((bR S ⟨tk,1⟩).2.1,(bR S ⟨tk,1⟩).2.2,{ c with answer:=(bR S ⟨tk,1⟩).1 }) by unfold eP;rw [hnm];exact (if_neg (by simp)).trans (if_neg (by simp))]<;>exact⟨rfl,rfl⟩⟩)
 ·have hkt:(obj S.O tk).kind=2:=hI.kind hlv
  refine gL (f:=122) (args:=#[vP f,vP cb]) (pre:=((pA f m t L S)++[pC cb c])) [0,1,2,3,4,5,6] ((by have h:=iK S L f m t hI cb c hC (β:=β);rw [hnm] at h;exact h)) ?_
  rintro _ _ ⟨rfl,rfl⟩
  refine gK 5 [(5,.iface 135 (vP (L.b tk))),(6,vI 0)] [] ?_
  refine NN (af.seq (SR (gK 2 [(14,.bool false)] [] ?_)))
  refine NN (CF (af.skip (NX (af.seq (SR (gK 1 [(16,.iface 135 (vP (L.b tk)))] [] ?_))))))
  refine NN (af.block (SR ?_))
  refine gK 3 [(18,.bool false)] [] ?_
  refine NN (CF (SR (gK 3 [(21,.bool true)] [] ?_)))
  refine NN (CT (SR (gK 1 [(4,vI 172)] [] ?_)))
  refine NN (af.ret (ai.aG (ai.ak ?_)))
  exact RT (vI 172) [0,1,2,3,4,5,6,7] (⟨L,by rw [show (eP S c)=(172,S,c) by unfold eP;rw [hnm];exact (if_neg (by simp)).trans (if_pos rfl)]<;>exact⟨rfl,rfl⟩⟩)
 have hkt:(obj S.O tk).kind=3:=hI.kind hlv
 refine gL (f:=122) (args:=#[vP f,vP cb]) (pre:=((pA f m t L S)++[pC cb c])) [0,1,2,3,4,5,6] ((by have h:=iK S L f m t hI cb c hC (β:=β);rw [hnm] at h;exact h)) ?_
 rintro _ _ ⟨rfl,rfl⟩
 refine gK 5 [(5,.iface 132 (vP (L.b tk))),(6,vI 0)] [] ?_
 refine NN (af.seq (SR (gK 2 [(14,.bool false)] [] ?_)))
 refine NN (CF (af.skip (NX (af.seq (SR (gK 1 [(16,.iface 132 (vP (L.b tk)))] [] ?_))))))
 refine NN (af.block (SR ?_))
 refine gK 3 [(18,.bool true)] [] ?_
 refine NN (CT (SR (gK 1 [(4,vI 174)] [] ?_)))
 refine NN (af.ret (ai.aG (ai.ak ?_)))
 exact RT (vI 174) [0,1,2,3,4,5,6,7] (⟨L,by rw [show (eP S c)=(174,S,c) by unfold eP;rw [hnm];exact if_pos rfl]<;>exact⟨rfl,rfl⟩⟩)
theorem GD {β:Bs} (S:aH) (L:HL) (f m t:Nat) (hI:Inv S) (cb:Nat) (c:aF) (hC:gh β c) :
    Spec Tryz.prog β 92 #[vP f,vP cb] ((pA f m t L S)++[pC cb c]) (fun v l=>∃ L2,v=vI (fP S c).1/\l=((pA f m t L2 ((fP S c).2.1))++[.blk cb (bN ((fP S c).2.2)) 48])):=by
 have hX:=hI.hX
 refine Spec.enter Tryz.func92 rfl Tryz.ntmps92 (Nat.le_of_ble_eq_true rfl) (fun R=>?_)
 refine SR (gK 1 [] [] ?_)
 refine NN (af.seq (af.bF (by kernel_rfl) (by kernel_rfl) ?_))
 refine gQ 9 (OA f c) [(4,a_ 6 cb),(8,a_ 6 cb)] ?_
 rcases kT hI.toInv0 c.handle c.name 192 with ⟨e,hab,hne⟩|⟨d,hab,hd,iX,iP,dL⟩
 ·refine aP.call (f:=123) (args:=#[vP f,vI (c.handle),.string c.name,vI 192]) (d:=(some 17)) (pre:=(pJ f m t S L)) (R:=(oJ m L S cb c R)) (pk:=[0,2,3,1,4,5,6,7]) (ji:=[0,3,1,2,4,5,6,7]) (v0:=.tuple #[.pointer none,vI (e)]) (fun _=>by kernel_rfl) ((by have h:=eE S L f m t hI c.handle hC.hw c.name hC.nm 192 (β:=β);rw [hab] at h;exact h)) rfl (by kernel_rfl) rfl (by kernel_rfl) (fun _ _ h=>h) ?_
  refine gQ 5 (K3 e) [] ?_
  refine NQ (NX (af.seq (SR ?_)))
  refine gK 2 [(21,.bool (!(decide ((e:Int)=(0:Int)))))] [] ?_
  refine NN (af.cX (p:=(e:Int)=(0:Int)) (fun _=>by kernel_rfl) (fun vf=>?_) (fun vf=>?_))
  ·refine SR (gK 2 [(4,vI (e))] [] ?_)
   refine NN (af.ret (ai.ak ?_))
   exact RT (vI (e)) [0,1,2,3,4,5,6,7] (⟨L,by rw [show (fP S c)=(e,S,c) by unfold fP;rw [hab]]<;>exact⟨rfl,rfl⟩⟩)
  exact absurd vf hne
 have hkd:(obj S.O d).kind=2:=hI.kind hd
 refine aP.call (f:=123) (args:=#[vP f,vI (c.handle),.string c.name,vI 192]) (d:=(some 17)) (pre:=(pJ f m t S L)) (R:=(oJ m L S cb c R)) (pk:=[0,2,3,1,4,5,6,7]) (ji:=[0,3,1,2,4,5,6,7]) (v0:=.tuple #[vP (L.b d),vI 0]) (fun _=>by kernel_rfl) ((by have h:=eE S L f m t hI c.handle hC.hw c.name hC.nm 192 (β:=β);rw [hab] at h;exact h)) rfl (by kernel_rfl) rfl (by kernel_rfl) (fun _ _ h=>h) ?_
 refine gQ 5 (FD L d) [] ?_
 refine NQ (NX (af.seq (SR ?_)))
 refine gK 2 [(21,.bool false)] [] ?_
 refine NN (CF (af.skip (NX (af.seq (SR (gK 4 [(26,vI (c.mode))] [(3,a_ 6 cb)] ?_))))))
 refine gL [] (fR (c.mode) 4095) ?_
 rintro _ _ ⟨rfl,rfl⟩
 refine gK 1 [(28,.bool (!(decide (0<=c.mode/\c.mode<=4095))))] [] ?_
 refine NN (af.cX (p:=0<=c.mode/\c.mode<=4095) (fun _=>by kernel_rfl) (fun Q9=>?_) (fun Q9=>?_))
 ·refine SR (gK 1 [(4,vI 120)] [] ?_)
  refine NN (af.ret (ai.ak ?_))
  exact RT (vI 120) [0,1,2,3,4,5,6,7] (⟨L,by rw [show (fP S c)=(120,S,c) by unfold fP;rw [hab];exact if_neg Q9]<;>exact⟨rfl,rfl⟩⟩)
 refine af.skip (NX (af.seq (af.bM (S:=[pC cb c]) [0,1,2,3,4,5,6,7,8,9,10,11] 10 [6] (by kernel_rfl) (by kernel_rfl) rfl (by kernel_rfl) ?_)))
 refine gR 0 [10,11] [(29,vP f),(30,vP (L.b d)),(34,.string c.name),(38,vI (c.mode))] [0,1,2,3,4,5,6,7,8,9] [(5,a_ 0 cb),(9,a_ 0 cb)] ?_
 refine mL [6] [0,1,2,3,4,5] (DF S L f m t hI d hd c.name hC.nm c.mode) ?_ (by rintro _ _ ⟨L2,rfl,rfl⟩;rfl)
 rintro _ _ ⟨L2,rfl,rfl⟩
 refine aN.last rfl rfl ?_
 refine gK 1 [(4,vI ((fq S d c.name c.mode).1))] [] ?_
 refine NL (ai.np (NX (af.ret ?_)))
 exact RT (vI ((fq S d c.name c.mode).1)) [0,1,2,3,4,5,6,7] (⟨L2,by rw [show (fP S c)=((fq S d c.name c.mode).1,(fq S d c.name c.mode).2,c) by unfold fP;rw [hab];exact if_pos Q9]<;>exact⟨rfl,rfl⟩⟩)
theorem D2 {β:Bs} (S:aH) (L:HL) (f m t:Nat) (hI:Inv S) (cb:Nat) (c:aF) (hC:gh β c) :
    Spec Tryz.prog β 94 #[vP f,vP cb] ((pA f m t L S)++[pC cb c]) (fun v l=>∃ L2,v=vI (fI S c).1/\l=((pA f m t L2 ((fI S c).2.1))++[.blk cb (bN ((fI S c).2.2)) 48])):=by
 have hX:=hI.hX
 refine Spec.enter Tryz.func94 rfl Tryz.ntmps94 (Nat.le_of_ble_eq_true rfl) (fun R=>?_)
 refine SR (gK 1 [] [] ?_)
 refine NN (af.seq (af.bF (by kernel_rfl) (by kernel_rfl) ?_))
 refine gQ 9 (OA f c) [(4,a_ 6 cb),(8,a_ 6 cb)] ?_
 rcases kT hI.toInv0 c.handle c.name 192 with ⟨e,hab,hne⟩|⟨d,hab,hd,iX,iP,dL⟩
 ·refine aP.call (f:=123) (args:=#[vP f,vI (c.handle),.string c.name,vI 192]) (d:=(some 17)) (pre:=(pJ f m t S L)) (R:=(oJ m L S cb c R)) (pk:=[0,2,3,1,4,5,6,7]) (ji:=[0,3,1,2,4,5,6,7]) (v0:=.tuple #[.pointer none,vI (e)]) (fun _=>by kernel_rfl) ((by have h:=eE S L f m t hI c.handle hC.hw c.name hC.nm 192 (β:=β);rw [hab] at h;exact h)) rfl (by kernel_rfl) rfl (by kernel_rfl) (fun _ _ h=>h) ?_
  refine gQ 5 (K3 e) [] ?_
  refine NQ (NX (af.seq (SR ?_)))
  refine gK 2 [(21,.bool (!(decide ((e:Int)=(0:Int)))))] [] ?_
  refine NN (af.cX (p:=(e:Int)=(0:Int)) (fun _=>by kernel_rfl) (fun vf=>?_) (fun vf=>?_))
  ·refine SR (gK 2 [(4,vI (e))] [] ?_)
   refine NN (af.ret (ai.ak ?_))
   exact RT (vI (e)) [0,1,2,3,4,5,6,7] (⟨L,by rw [show (fI S c)=(e,S,c) by unfold fI;rw [hab]]<;>exact⟨rfl,rfl⟩⟩)
  exact absurd vf hne
 have hkd:(obj S.O d).kind=2:=hI.kind hd
 refine aP.call (f:=123) (args:=#[vP f,vI (c.handle),.string c.name,vI 192]) (d:=(some 17)) (pre:=(pJ f m t S L)) (R:=(oJ m L S cb c R)) (pk:=[0,2,3,1,4,5,6,7]) (ji:=[0,3,1,2,4,5,6,7]) (v0:=.tuple #[vP (L.b d),vI 0]) (fun _=>by kernel_rfl) ((by have h:=eE S L f m t hI c.handle hC.hw c.name hC.nm 192 (β:=β);rw [hab] at h;exact h)) rfl (by kernel_rfl) rfl (by kernel_rfl) (fun _ _ h=>h) ?_
 refine gQ 5 (FD L d) [] ?_
 refine NQ (NX (af.seq (SR ?_)))
 refine gK 2 [(21,.bool false)] [] ?_
 refine NN (CF (af.skip (NX (af.seq (af.bM (S:=[pC cb c]) [0,1,2,3,4,5,6,7,8,9,10,11] 10 [6] (by kernel_rfl) (by kernel_rfl) rfl (by kernel_rfl) ?_)))))
 refine gR 0 [10,11] (Q8 f L d c++[(32,.string c.text)]) [0,1,2,3,4,5,6,7,8,9] [(5,a_ 0 cb),(9,a_ 0 cb)] ?_
 refine mL [6] [0,1,2,3,4,5] (zi S L f m t hI d hd c.name hC.nm c.text hC.tx) ?_ (by rintro _ _ ⟨L2,rfl,rfl⟩;rfl)
 rintro _ _ ⟨L2,rfl,rfl⟩
 refine aN.last rfl rfl ?_
 refine gK 1 [(4,vI ((dO S d c.name c.text).1))] [] ?_
 refine NL (ai.np (NX (af.ret ?_)))
 exact RT (vI ((dO S d c.name c.text).1)) [0,1,2,3,4,5,6,7] (⟨L2,by rw [show (fI S c)=((dO S d c.name c.text).1,(dO S d c.name c.text).2,c) by unfold fI;rw [hab]]<;>exact⟨rfl,rfl⟩⟩)
theorem FE {β:Bs} (S:aH) (L:HL) (f m t:Nat) (hI:Inv S) (cb:Nat) (c:aF) (hC:gh β c) :
    Spec Tryz.prog β 96 #[vP f,vP cb] ((pA f m t L S)++[pC cb c]) (fun v l=>∃ L2,v=vI (fY S c).1/\l=((pA f m t L2 ((fY S c).2.1))++[.blk cb (bN ((fY S c).2.2)) 48])):=by
 have hX:=hI.hX
 refine Spec.enter Tryz.func96 rfl Tryz.ntmps96 (Nat.le_of_ble_eq_true rfl) (fun R=>?_)
 refine SR (gK 1 [] [] ?_)
 refine NN (af.seq (af.bF (by kernel_rfl) (by kernel_rfl) ?_))
 refine gQ 9 (OA f c) [(4,a_ 6 cb),(8,a_ 6 cb)] ?_
 rcases kT hI.toInv0 c.handle c.name 192 with ⟨e,hab,hne⟩|⟨d,hab,hd,iX,iP,dL⟩
 ·refine aP.call (f:=123) (args:=#[vP f,vI (c.handle),.string c.name,vI 192]) (d:=(some 17)) (pre:=(pJ f m t S L)) (R:=(oJ m L S cb c R)) (pk:=[0,2,3,1,4,5,6,7]) (ji:=[0,3,1,2,4,5,6,7]) (v0:=.tuple #[.pointer none,vI (e)]) (fun _=>by kernel_rfl) ((by have h:=eE S L f m t hI c.handle hC.hw c.name hC.nm 192 (β:=β);rw [hab] at h;exact h)) rfl (by kernel_rfl) rfl (by kernel_rfl) (fun _ _ h=>h) ?_
  refine gQ 5 (K3 e) [] ?_
  refine NQ (NX (af.seq (SR ?_)))
  refine gK 2 [(21,.bool (!(decide ((e:Int)=(0:Int)))))] [] ?_
  refine NN (af.cX (p:=(e:Int)=(0:Int)) (fun _=>by kernel_rfl) (fun vf=>?_) (fun vf=>?_))
  ·refine SR (gK 2 [(4,vI (e))] [] ?_)
   refine NN (af.ret (ai.ak ?_))
   exact RT (vI (e)) [0,1,2,3,4,5,6,7] (⟨L,by rw [show (fY S c)=(e,S,c) by unfold fY;rw [hab]]<;>exact⟨rfl,rfl⟩⟩)
  exact absurd vf hne
 have hkd:(obj S.O d).kind=2:=hI.kind hd
 refine aP.call (f:=123) (args:=#[vP f,vI (c.handle),.string c.name,vI 192]) (d:=(some 17)) (pre:=(pJ f m t S L)) (R:=(oJ m L S cb c R)) (pk:=[0,2,3,1,4,5,6,7]) (ji:=[0,3,1,2,4,5,6,7]) (v0:=.tuple #[vP (L.b d),vI 0]) (fun _=>by kernel_rfl) ((by have h:=eE S L f m t hI c.handle hC.hw c.name hC.nm 192 (β:=β);rw [hab] at h;exact h)) rfl (by kernel_rfl) rfl (by kernel_rfl) (fun _ _ h=>h) ?_
 refine gQ 5 (FD L d) [] ?_
 refine NQ (NX (af.seq (SR ?_)))
 refine gK 2 [(21,.bool false)] [] ?_
 refine NN (CF (af.skip (NX (SR (gK 6 (Q8 f L d c) [(5,a_ 6 cb)] ?_)))))
 refine gL [0,1,2,3,4,5] (BL S L f m t hI d hd c.name hC.nm) ?_
 rintro _ _ ⟨L2,rfl,rfl⟩
 refine gK 1 [(4,vI ((dG S d c.name).1))] [] ?_
 refine NN (af.ret ?_)
 exact RT (vI ((dG S d c.name).1)) [0,1,2,3,4,5,6,7] (⟨L2,by rw [show (fY S c)=((dG S d c.name).1,(dG S d c.name).2,c) by unfold fY;rw [hab]]<;>exact⟨rfl,rfl⟩⟩)
theorem GF {β:Bs} (S:aH) (L:HL) (f m t:Nat) (hI:Inv S) (cb:Nat) (c:aF) (hC:gh β c) :
    Spec Tryz.prog β 102 #[vP f,vP cb] ((pA f m t L S)++[pC cb c]) (fun v l=>∃ L2,v=vI (gZ S c).1/\l=((pA f m t L2 ((gZ S c).2.1))++[.blk cb (bN ((gZ S c).2.2)) 48])):=by
 have hX:=hI.hX
 refine Spec.enter Tryz.func102 rfl Tryz.ntmps102 (Nat.le_of_ble_eq_true rfl) (fun R=>?_)
 refine SR (gK 1 [] [] ?_)
 refine NN (af.seq (af.bF (by kernel_rfl) (by kernel_rfl) ?_))
 refine gQ 9 (OA f c) [(4,a_ 6 cb),(8,a_ 6 cb)] ?_
 rcases kT hI.toInv0 c.handle c.name 192 with ⟨e,hab,hne⟩|⟨d,hab,hd,iX,iP,dL⟩
 ·refine aP.call (f:=123) (args:=#[vP f,vI (c.handle),.string c.name,vI 192]) (d:=(some 17)) (pre:=(pJ f m t S L)) (R:=(oJ m L S cb c R)) (pk:=[0,2,3,1,4,5,6,7]) (ji:=[0,3,1,2,4,5,6,7]) (v0:=.tuple #[.pointer none,vI (e)]) (fun _=>by kernel_rfl) ((by have h:=eE S L f m t hI c.handle hC.hw c.name hC.nm 192 (β:=β);rw [hab] at h;exact h)) rfl (by kernel_rfl) rfl (by kernel_rfl) (fun _ _ h=>h) ?_
  refine gQ 5 (K3 e) [] ?_
  refine NQ (NX (af.seq (SR ?_)))
  refine gK 2 [(21,.bool (!(decide ((e:Int)=(0:Int)))))] [] ?_
  refine NN (af.cX (p:=(e:Int)=(0:Int)) (fun _=>by kernel_rfl) (fun vf=>?_) (fun vf=>?_))
  ·refine SR (gK 2 [(4,vI (e))] [] ?_)
   refine NN (af.ret (ai.ak ?_))
   exact RT (vI (e)) [0,1,2,3,4,5,6,7] (⟨L,by rw [show (gZ S c)=(e,S,c) by unfold gZ;rw [hab]]<;>exact⟨rfl,rfl⟩⟩)
  exact absurd vf hne
 have hkd:(obj S.O d).kind=2:=hI.kind hd
 refine aP.call (f:=123) (args:=#[vP f,vI (c.handle),.string c.name,vI 192]) (d:=(some 17)) (pre:=(pJ f m t S L)) (R:=(oJ m L S cb c R)) (pk:=[0,2,3,1,4,5,6,7]) (ji:=[0,3,1,2,4,5,6,7]) (v0:=.tuple #[vP (L.b d),vI 0]) (fun _=>by kernel_rfl) ((by have h:=eE S L f m t hI c.handle hC.hw c.name hC.nm 192 (β:=β);rw [hab] at h;exact h)) rfl (by kernel_rfl) rfl (by kernel_rfl) (fun _ _ h=>h) ?_
 refine gQ 5 (FD L d) [] ?_
 refine NQ (NX (af.seq (SR ?_)))
 refine gK 2 [(21,.bool false)] [] ?_
 refine NN (CF (af.skip (NX (SR (gK 6 (Q8 f L d c) [(5,a_ 6 cb)] ?_)))))
 refine gL [0,1,2,3,4,5] (DG S L f m t hI d hd c.name hC.nm) ?_
 rintro _ _ ⟨L2,rfl,rfl⟩
 refine gK 1 [(4,vI ((dV S d c.name).1))] [] ?_
 refine NN (af.ret ?_)
 exact RT (vI ((dV S d c.name).1)) [0,1,2,3,4,5,6,7] (⟨L2,by rw [show (gZ S c)=((dV S d c.name).1,(dV S d c.name).2,c) by unfold gZ;rw [hab]]<;>exact⟨rfl,rfl⟩⟩)
theorem FH {β:Bs} (S:aH) (L:HL) (f m t:Nat) (hI:Inv S) (cb:Nat) (c:aF) (hC:gh β c) :
    Spec Tryz.prog β 103 #[vP f,vP cb] ((pA f m t L S)++[pC cb c]) (fun v l=>∃ L2,v=vI (fw S c).1/\l=((pA f m t L2 ((fw S c).2.1))++[.blk cb (bN ((fw S c).2.2)) 48])):=by
 have hX:=hI.hX
 refine Spec.enter Tryz.func103 rfl Tryz.ntmps103 (Nat.le_of_ble_eq_true rfl) (fun R=>?_)
 refine SR (gK 1 [] [] ?_)
 refine NN (af.seq (af.bF (by kernel_rfl) (by kernel_rfl) ?_))
 refine gQ 9 [(9,vP f),(13,vI (c.handle)),(17,.string c.name)] [(4,a_ 6 cb),(8,a_ 6 cb)] ?_
 rcases kT hI.toInv0 c.handle c.name 192 with ⟨e,hab,hne⟩|⟨d,hab,hd,iX,iP,dL⟩
 ·refine aP.call (f:=123) (args:=#[vP f,vI (c.handle),.string c.name,vI 192]) (d:=(some 18)) (pre:=(pJ f m t S L)) (R:=(oJ m L S cb c R)) (pk:=[0,2,3,1,4,5,6,7]) (ji:=[0,3,1,2,4,5,6,7]) (v0:=.tuple #[.pointer none,vI (e)]) (fun _=>by kernel_rfl) ((by have h:=eE S L f m t hI c.handle hC.hw c.name hC.nm 192 (β:=β);rw [hab] at h;exact h)) rfl (by kernel_rfl) rfl (by kernel_rfl) (fun _ _ h=>h) ?_
  refine gQ 5 (K3 e) [] ?_
  refine NQ (NX (af.seq (SR ?_)))
  refine gK 2 [(22,.bool (!(decide ((e:Int)=(0:Int)))))] [] ?_
  refine NN (af.cX (p:=(e:Int)=(0:Int)) (fun _=>by kernel_rfl) (fun wN=>?_) (fun wN=>?_))
  ·refine SR (gK 2 [(4,vI (e))] [] ?_)
   refine NN (af.ret (ai.ak ?_))
   exact RT (vI (e)) [0,1,2,3,4,5,6,7] (⟨L,by rw [show (fw S c)=(e,S,c) by unfold fw;rw [hab]]<;>exact⟨rfl,rfl⟩⟩)
  exact absurd wN hne
 have hkd:(obj S.O d).kind=2:=hI.kind hd
 refine aP.call (f:=123) (args:=#[vP f,vI (c.handle),.string c.name,vI 192]) (d:=(some 18)) (pre:=(pJ f m t S L)) (R:=(oJ m L S cb c R)) (pk:=[0,2,3,1,4,5,6,7]) (ji:=[0,3,1,2,4,5,6,7]) (v0:=.tuple #[vP (L.b d),vI 0]) (fun _=>by kernel_rfl) ((by have h:=eE S L f m t hI c.handle hC.hw c.name hC.nm 192 (β:=β);rw [hab] at h;exact h)) rfl (by kernel_rfl) rfl (by kernel_rfl) (fun _ _ h=>h) ?_
 refine gQ 5 (FD L d) [] ?_
 refine NQ (NX (af.seq (SR ?_)))
 refine gK 2 [(22,.bool false)] [] ?_
 refine NN (CF (af.skip (NX (af.seq (af.bF (by kernel_rfl) (by kernel_rfl) ?_)))))
 refine gQ 9 [(25,vP f),(29,vI (c.other)),(33,.string c.text)] [(4,a_ 6 cb),(8,a_ 6 cb)] ?_
 rcases kT hI.toInv0 c.other c.text 192 with ⟨e2,jZ,FI⟩|⟨to,jZ,hd2,Ra,MZ,UJ⟩
 ·refine aP.call (f:=123) (args:=#[vP f,vI (c.other),.string c.text,vI 192]) (d:=(some 34)) (pre:=(pJ f m t S L)) (R:=(oJ m L S cb c R)) (pk:=[0,2,3,1,4,5,6,7]) (ji:=[0,3,1,2,4,5,6,7]) (v0:=.tuple #[.pointer none,vI (e2)]) (fun _=>by kernel_rfl) ((by have h:=eE S L f m t hI c.other hC.ow c.text hC.tx 192 (β:=β);rw [jZ] at h;exact h)) rfl (by kernel_rfl) rfl (by kernel_rfl) (fun _ _ h=>h) ?_
  refine gQ 5 [(6,vI (e2)),(7,.pointer none)] [] ?_
  refine NQ (NX (af.seq (SR ?_)))
  refine gK 2 [(38,.bool (!(decide ((e2:Int)=(0:Int)))))] [] ?_
  refine NN (af.cX (p:=(e2:Int)=(0:Int)) (fun _=>by kernel_rfl) (fun AX=>?_) (fun AX=>?_))
  ·refine SR (gK 2 [(4,vI (e2))] [] ?_)
   refine NN (af.ret (ai.ak ?_))
   exact RT (vI (e2)) [0,1,2,3,4,5,6,7] (⟨L,by rw [show (fw S c)=(e2,S,c) by unfold fw;rw [hab];simp only;rw [jZ]]<;>exact⟨rfl,rfl⟩⟩)
  exact absurd AX FI
 have eG:(obj S.O to).kind=2:=hI.kind hd2
 refine aP.call (f:=123) (args:=#[vP f,vI (c.other),.string c.text,vI 192]) (d:=(some 34)) (pre:=(pJ f m t S L)) (R:=(oJ m L S cb c R)) (pk:=[0,2,3,1,4,5,6,7]) (ji:=[0,3,1,2,4,5,6,7]) (v0:=.tuple #[vP (L.b to),vI 0]) (fun _=>by kernel_rfl) ((by have h:=eE S L f m t hI c.other hC.ow c.text hC.tx 192 (β:=β);rw [jZ] at h;exact h)) rfl (by kernel_rfl) rfl (by kernel_rfl) (fun _ _ h=>h) ?_
 refine gQ 5 [(6,vI 0),(7,vP (L.b to))] [] ?_
 refine NQ (NX (af.seq (SR ?_)))
 refine gK 2 [(38,.bool false)] [] ?_
 refine NN (CF (af.skip (NX (af.seq (af.bM (S:=[pC cb c]) [0,1,2,3,4,5,6,7,8,9,10,11,12] 11 [6] (by kernel_rfl) (by kernel_rfl) rfl (by kernel_rfl) ?_)))))
 refine gR 0 [11,12] [(40,vP f),(41,vP (L.b d)),(45,.string c.name),(46,vP (L.b to)),(50,.string c.text)] [0,1,2,3,4,5,6,7,8,9,10] [(5,a_ 0 cb),(10,a_ 0 cb)] ?_
 refine mL [6] [0,1,2,3,4,5] (BM S L f m t hI d hd c.name hC.nm to hd2 c.text hC.tx) ?_ (by rintro _ _ ⟨L2,rfl,rfl⟩;rfl)
 rintro _ _ ⟨L2,rfl,rfl⟩
 refine aN.last rfl rfl ?_
 refine gK 1 [(4,vI ((bq S d c.name to c.text).1))] [] ?_
 refine NL (ai.np (NX (af.ret ?_)))
 exact RT (vI ((bq S d c.name to c.text).1)) [0,1,2,3,4,5,6,7] (⟨L2,by rw [show (fw S c)=((bq S d c.name to c.text).1,(bq S d c.name to c.text).2,c) by unfold fw;rw [hab];simp only;rw [jZ]]<;>exact⟨rfl,rfl⟩⟩)
end
section
open Go.RowKit
section order
variable {P:Program} {ops:Array Oper} {Q Q':Post} {n:Nat} {S:World->Prop}
def kz (P:Program) (ops:Array Oper) (Q:Post) (S:World->Prop):List (Bool×Nat)->Act->World->Prop
  | [],a,w=>Q .normal a w
  | (false,i)::l,a,w=>wpOp P ops Q i (fun a' w'=>(l=[]\/S w')/\kz P ops Q S l a' w') a w
  | (true,i)::l,a,w=>∃ o v,ops[i]?=some o/\YieldsIf P ops S o v a/\kz P ops Q S l (a.put o.dst v) w
def yS (ops:Array Oper) (n:Nat):List (Bool×Nat)->Array Bool->Bool
  | [],listed=>(Region.ready .any ops listed).isEmpty
  | (false,i)::l,listed=>(Region.ready .any ops listed == [i]) && (!l.isEmpty || i == n) && yS ops n l (listed.setIfInBounds i true)
  | (true,i)::l,listed=>decide (i < n) && Region.free .any ops listed i && (Region.ready .any ops listed).contains i && yS ops n l (listed.setIfInBounds i true)
theorem Ah (hsel:Region.noSelect ops=true) (oQ:Region.sinkB .any ops n=true):∀ (l:List (Bool×Nat)) (listed:Array Bool) (a:Act) (w:World),yS ops n l listed=true->Closed ops listed->(l=[]\/S w)->kz P ops (NP Q) S l a w->iw P ops (NP Q) n S l.length listed a w
  | [],listed,a,w,hb,_,_,h=>⟨List.isEmpty_iff.1 hb,h⟩
  | (false,i)::l,listed,a,w,hb,hc,_,h=>by
    unfold yS at hb
    simp only [Bool.and_eq_true,beq_iff_eq] at hb
    obtain⟨⟨h1,h2⟩,h3⟩:=hb
    refine⟨fun h0=>(by rw [h1] at h0;cases h0),fun j hj=>?_⟩
    have hr:=hj
    rw [h1] at hj
    have hj:j=i:=by simpa using hj
    subst hj
    refine wpOp_mono (fun a' w' h4=>⟨?_,Ah hsel oQ l _ a' w' h3 (hc.set hr) h4.1 h4.2⟩) h
    rcases h4.1 with h5|h5
    ·subst h5;exact .inl (by simpa using h2)
    exact .inr h5
  | (true,i)::l,listed,a,w,hb,hc,hS,h=>by
    unfold yS at hb
    simp only [Bool.and_eq_true,decide_eq_true_iff] at hb
    obtain⟨⟨⟨h1,h2⟩,h3⟩,h4⟩:=hb
    obtain⟨o,v,ho,hy,hk⟩:=h
    have hS:S w:=hS.resolve_left (by simp)
    have hr:i∈Region.ready .any ops listed:=by simpa using h3
    exact sD ho hsel oQ h1 l.length listed a w hc (Region.free_spec ho h2) hr hy hS (Ah hsel oQ l _ _ w h4 (hc.set hr) (.inr hS) hk)
def HB (ops:Array Oper) (l:List (Bool×Nat)):Bool:=
  Region.noSelect ops && Region.sinkB .any ops (ops.size - 1) && (l.length == ops.size) && yS ops (ops.size - 1) l (Array.replicate ops.size false)
def o4 (ops:Array Oper) (i:Nat):Array Oper:=⟨ops.toList.take (i+1)⟩
def gB (ops:Array Oper) (i:Nat):Bool:=match ops[i]? with
  | some o=>match o.guard with
    | none=>true
    | some (j,_)=>decide (j<=i)
  | none=>false
theorem K5 {i j:Nat} (h:j<=i):(o4 ops i)[j]?=ops[j]?:=by
  unfold o4
  obtain⟨l⟩:=ops
  simp only [List.getElem?_toArray,List.getElem?_take]
  rw [if_pos (by omega)]
theorem o5 {i:Nat} {a:Act} {w:World} {K:Act->World->Prop} (hg:gB ops i=true) (h:wpList P (o4 ops i) (NP fun _ a w=>K a w) ((o4 ops i).toList.drop i) a w):wpOp P ops (NP Q) i K a w:=by
  unfold gB at hg
  split at hg
  ·rename_i o ho
   have hd:(o4 ops i).toList.drop i=[o]:=by
     have hl:ops.toList[i]?=some o:=by simpa using ho
     have hi:i < ops.toList.length:=bp hl
     show (ops.toList.take (i+1)).drop i=[o]
     rw [List.drop_take]
     rw [show i+1 - i=1 by omega,List.drop_eq_getElem_cons hi]
     rw [List.getElem?_eq_getElem hi] at hl
     cases hl
     rfl
   have hw:Region.wanted o (yielded (o4 ops i) a.tmps)=Region.wanted o (yielded ops a.tmps):=by
     unfold Region.wanted
     split at hg
     ·rename_i hn;rw [hn]
     rename_i j b hn
     rw [hn]
     have hj:j<=i:=by simpa using hg
     have:yielded (o4 ops i) a.tmps j=yielded ops a.tmps j:=by
       unfold yielded
       rw [K5 hj]
     simp only [this]
   rw [hd] at h
   unfold wpOp
   simp only [ho]
   unfold wpList at h
   rw [hw] at h
   split at h
   ·rename_i hw
    rw [if_pos hw]
    rcases h with h|⟨_,h⟩
    ·exact .inl (D7 (Oper.wp_mono (fun a w h=>h) h))
    exact (oO h).elim
   rename_i hw
   rw [if_neg hw]
   exact h
  cases hg
end order
theorem nj {P:Program} {ops:Array Oper} {Q Q':Post} (hq:∀ a w,Q .normal a w->Q' .normal a w):∀ (l:List Oper) {a:Act} {w:World},wpList P ops (NP Q) l a w->wpList P ops (NP Q') l a w
  | [],_,_,h=>hq _ _ h
  | o::r,a,w,h=>by
    unfold wpList at *
    split
    ·rename_i hw
     rw [if_pos hw] at h
     rcases h with h|⟨_,h⟩
     ·exact .inl (D7 (Oper.wp_mono (fun a w h=>nj hq r h) h))
     exact (oO h).elim
    rename_i hw
    rw [if_neg hw] at h
    exact nj hq r h
section mix
variable {P:Program} {β:Bs} {N:Nat} {ops:Array Oper} {S:List HP} {l l':List (Bool×Nat)} {fr fr':Fr} {hps:List HP} {Q:Post} {bC:List Prop} {i:Nat} {pk:List Nat}
def iE (P:Program) (β:Bs) (N:Nat) (ops:Array Oper) (S:List HP) (l:List (Bool×Nat)) (fr:Fr) (hps:List HP) (Q:Post):Prop:=
  ∀ junk w,Sat β hps w->kz P ops (NP Q) (Sat β S) l (bX N fr junk) w
theorem af.nk {id:Nat} (l:List (Bool×Nat)) (pk:List Nat) (hm:P.follows .mixedOrders=true) (hB:HB ops l=true) (hn:bB pk=true) (hp:bQ hps pk=some S) (h:iE P β N ops S l fr hps Q):af P β N (.region id ops true) fr hps Q:=by
  intro junk w hS
  unfold HB at hB
  simp only [Bool.and_eq_true,beq_iff_eq] at hB
  obtain⟨⟨⟨h1,h2⟩,h3⟩,h4⟩:=hB
  have dM:=hS.drewN 1
  have h5:=Ah (Q:=Q) h1 h2 l _ _ _ h4 (fun j oj _ hl=>by simp [Array.getD_eq_getD_getElem?,Array.getElem?_replicate] at hl;split at hl<;>simp at hl) (.inr (dM.pick hn hp)) (h junk (w.drewN 1) dM)
  rw [h3] at h5
  refine Code.wp_mono (fun e a w q=>?_) (wp_region_any hm (oP _ _ _ _ h5))
  cases e with
  | normal=>exact q
  | exit id=>exact q.elim
  | goto l=>exact q.elim
  | ret=>exact q.elim
  | panic ch=>exact q.elim
  | outgrown=>exact q.elim
def o6 (P:Program) (β:Bs) (N:Nat) (junk:Nat->Value) (ops:Array Oper):List OH->List Nat->Fr->SS->Option (Fr×SS)
  | [],[],fr,S=>some (fr,S)
  | h::hs,i::is,fr,S=>
    match ops[i]? with
    | some o=>
      match Region.wanted o (yF ops N fr junk) with
      | true=>
        match sA P β 0 true (di N fr junk) o h S with
        | some (v,S')=>
          match wX v with
          | true=>o6 P β N junk ops hs is (dJ fr o.dst v) S'
          | false=>none
        | none=>none
      | false=>o6 P β N junk ops hs is (dJ fr o.dst undef) S
    | none=>none
  | _,_,_,_=>none
def tD (P:Program) (β:Bs) (N:Nat) (junk:Nat->Value) (ops:Array Oper) (hs:List OH) (is:List Nat) (fr:Fr) (S:List HP) (idx:List Nat):Option (Fr×List Prop):=
  match o6 P β N junk ops hs is fr ⟨[],S,[],true⟩ with
  | some (fr',S')=>some (jh fr' junk idx,S'.bC)
  | none=>none
theorem rT {junk:Nat->Value}:∀ {hs:List OH} {is:List Nat} {fr fr':Fr} {S S':SS},o6 P β N junk ops hs is fr S=some (fr',S')->∀ p,p∈S.bC->p∈S'.bC
  | [],[],fr,fr',S,S',h,p,hp=>by cases h;exact hp
  | h::hs,i::is,fr,fr',S,S',hr,p,hp=>by
    unfold o6 at hr
    repeat' split at hr
    all_goals first|(cases hr;done)|skip
    ·rename_i h0 _ _
     exact rT hr p (zx h0 p hp)
    exact rT hr p hp
  | [],_::_,_,_,_,_,h,_,_=>by cases h
  | _::_,[],_,_,_,_,h,_,_=>by cases h
theorem tE {junk:Nat->Value} {w:World}:∀ {hs:List OH} {is:List Nat} {fr fr':Fr} {T T':SS},o6 P β N junk ops hs is fr T=some (fr',T')->(∀ p,p∈T'.bC->p)->T.used=true->T.hps=S →
    kz P ops (NP Q) (Sat β S) l (bX N fr' junk) w->kz P ops (NP Q) (Sat β S) (is.map (fun i=>(true,i))++l) (bX N fr junk) w
  | [],[],fr,fr',T,T',h,ho,hu,hT,hK=>by cases h;exact hK
  | h::hs,i::is,fr,fr',T,T',hr,ho,hu,hT,hK=>by
    unfold o6 at hr
    repeat' split at hr
    all_goals first|(cases hr;done)|skip
    ·rename_i o hget _ wq _ v T1 h0 _ hv
     obtain⟨e1,e2⟩:=rW h0
     rw [List.map_cons,List.cons_append]
     unfold kz
     refine⟨o,v,hget,.inl ⟨by rw [eM];exact wq,fun w' dM=>?_⟩,?_⟩
     ·rw [eF]
      obtain⟨w2,h1,_,_,h4⟩:=lF h0 (fun p hp=>ho p (rT hr p hp)) (by rw [hT];exact dM) (fun e=>by rw [hu] at e;cases e)
      obtain⟨ew,_⟩:=h4 rfl
      rw [ew] at h1
      rcases h1 with h1|⟨h1,_⟩
      ·exact h1
      exact absurd h1 (qx hv)
     rw [d6]
     exact tE hr ho (e2.trans hu) (e1.trans hT) hK
    rename_i o hget _ wq
    rw [List.map_cons,List.cons_append]
    unfold kz
    refine⟨o,undef,hget,.inr ⟨by rw [eM];exact wq,rfl⟩,?_⟩
    rw [d6]
    exact tE hr ho hu hT hK
  | [],_::_,_,_,_,_,h,_,_,_,_=>by cases h
  | _::_,[],_,_,_,_,h,_,_,_,_=>by cases h
theorem iE.reads (is:List Nat) (hs:List OH) (idx:List Nat) (h:∀ junk,tD P β N junk ops hs is fr S idx=some (fr',bC)) (ho:kA bC) (hl:l'=is.map (fun i=>(true,i))++l) (K:iE P β N ops S l fr' hps Q):iE P β N ops S l' fr hps Q:=by
  intro junk w hS
  subst hl
  have h0:=h junk
  unfold tD at h0
  split at h0
  ·rename_i lu S1 h1
   cases h0
   have hK:=K (lk lu junk) w hS
   rw [← jr] at hK
   exact tE h1 (fun p hp=>ho.mem hp) rfl rfl hK
  cases h0
theorem gG (l2:List (Bool×Nat)) (nu:Fr) (is:List Nat) (os:List (Nat×OP)) (K:iE P β N ops S l2 nu hps Q)
    (h:∀ junk,tD P β N junk ops (jv (gT is.length os 0)) is fr S (bO nu)=some (nu,owed (gT is.length os 0)):=by intro _;kernel_rfl) (hl:l'=is.map (fun i=>(true,i))++l2:=by rfl):iE P β N ops S l' fr hps Q:=
  iE.reads is (jv (gT is.length os 0)) (bO nu) h (nT _) hl K
theorem iE.cut {ι:Type} {fr':ι->Fr} {hp':ι->List HP} (pk:List Nat) (hg:gB ops i=true) (h:aj P β N (o4 ops i) i fr hps (NP (oq β N fr' hp'))) (hn:bB pk=true) (hp:∀ j,bQ (hp' j) pk=some S)
    (K:∀ j,iE P β N ops S l (fr' j) (hp' j) Q):iE P β N ops S ((false,i)::l) fr hps Q:=by
  intro junk w hS
  unfold kz
  refine o5 hg (nj (Q':=_) (fun a w ⟨j,gj,ha,dM⟩=>?_) _ (h junk w hS))
  subst ha
  exact⟨.inr (dM.pick hn (hp j)),K j gj w dM⟩
theorem iE.last (hg:gB ops i=true) (h:aj P β N (o4 ops i) i fr hps (NP Q)):iE P β N ops S [(false,i)] fr hps Q:=by
  intro junk w hS
  unfold kz
  exact o5 hg (nj (Q':=_) (fun a w hq=>⟨.inl rfl,by unfold kz;exact hq⟩) _ (h junk w hS))
end mix
end
section
open Go.RowKit Go.Maps bD aE
attribute [local irreducible] aj aP af ai
abbrev HE (cb:Nat) (c:aF):=(pC cb { c with other:=0,mode:=0,uid:=0,gid:=0,sec:=0,nano:=0 }:HP)
abbrev HF (cb:Nat) (c:aF) (S:aH) (tk:Nat):=(pC cb { c with other:=0,mode:=0,uid:=0,gid:=0,sec:=0,nano:=0,answer:=(obj S.O tk).id }:HP)
abbrev Tl (cb:Nat) (c:aF) (S:aH) (tk:Nat):=(pC cb { c with other:=1,mode:=(obj S.O tk).mode,uid:=(obj S.O tk).uid,gid:=0,sec:=0,nano:=0,answer:=(obj S.O tk).id }:HP)
abbrev Tm (cb:Nat) (c:aF) (S:aH) (tk:Nat):=(pC cb { c with other:=1,mode:=(obj S.O tk).mode,uid:=(obj S.O tk).uid,gid:=(obj S.O tk).gid,sec:=0,nano:=0,answer:=(obj S.O tk).id }:HP)
abbrev Tn (cb:Nat) (c:aF) (S:aH) (tk:Nat):=(pC cb { c with other:=2,mode:=(obj S.O tk).mode,uid:=(obj S.O tk).uid,gid:=0,sec:=0,nano:=0,answer:=(obj S.O tk).id }:HP)
abbrev Tp (cb:Nat) (c:aF) (S:aH) (tk:Nat):=(pC cb { c with other:=2,mode:=(obj S.O tk).mode,uid:=(obj S.O tk).uid,gid:=(obj S.O tk).gid,sec:=0,nano:=0,answer:=(obj S.O tk).id }:HP)
abbrev Tq (cb:Nat) (c:aF) (S:aH) (tk:Nat):=(pC cb { c with other:=3,mode:=(obj S.O tk).mode,uid:=(obj S.O tk).uid,gid:=0,sec:=0,nano:=0,answer:=(obj S.O tk).id }:HP)
abbrev Tr (cb:Nat) (c:aF) (S:aH) (tk:Nat):=(pC cb { c with other:=3,mode:=(obj S.O tk).mode,uid:=(obj S.O tk).uid,gid:=(obj S.O tk).gid,sec:=0,nano:=0,answer:=(obj S.O tk).id }:HP)
abbrev mz (S:aH) (tk:Nat):=([(44,vI ((obj S.O tk).uid)),(48,vI ((obj S.O tk).gid)),(52,.agg #[vI ((obj S.O tk).sec),vI ((obj S.O tk).nano)])]:Fr)
abbrev M0 (cb:Nat) (S:aH) (tk:Nat):=([(25,vP cb),(26,vP cb),(27,vP cb),(28,vP cb),(29,vP cb),(30,vP cb),(34,vI ((obj S.O tk).id))]:Fr)
abbrev CV (cb:Nat) (S:aH) (tk:Nat):=([(30,vP cb),(48,vI ((obj S.O tk).gid)),(52,.agg #[vI ((obj S.O tk).sec),vI ((obj S.O tk).nano)])]:Fr)
abbrev qY (cb:Nat):=([(27,vP cb),(28,vP cb),(29,vP cb),(30,vP cb)]:Fr)
abbrev M4 (S:aH) (tk:Nat):=([(40,vI ((obj S.O tk).mode)),(44,vI ((obj S.O tk).uid)),(48,vI ((obj S.O tk).gid)),(52,.agg #[vI ((obj S.O tk).sec),vI ((obj S.O tk).nano)])]:Fr)
abbrev qZ (f:Nat) (m:Nat) (t) (S:aH) (L:HL) (cb:Nat) (c) (R:cr):=([pF f m t S.X,pI m L S.idx,pO S.O L,pD S.O L,pE S.O L,pC cb c,.abs R]:List HP)
abbrev CW:=([(2,vI 0),(6,vI 0),(7,vI 0),(8,vI 0),(9,vI 0),(10,vI 0)]:Fr)
abbrev CX (t)(c:aF):=([(11,vP t),(15,vI (c.handle))]:Fr)
abbrev CY (cb:Nat) (S:aH) (tk:Nat):=([(28,vP cb),(29,vP cb),(30,vP cb),(40,vI ((obj S.O tk).mode))]:Fr)
abbrev ye (L:HL) (to:Nat) (c:aF):=([(61,.map (some (L.m to))),(65,.string c.text)]:Fr)
abbrev M5 (S:aH) (tk:Nat) (cb:Nat):=([(52,.agg #[vI ((obj S.O tk).sec),vI ((obj S.O tk).nano)]),(64,.pointer (some ⟨cb,9,none⟩))]:Fr)
abbrev Jr (L:HL) (tk:Nat):=([(5,.iface 129 (vP (L.b tk))),(6,vI 0)]:Fr)
abbrev Js (L:HL) (tk:Nat):=([(5,.iface 135 (vP (L.b tk))),(6,vI 0)]:Fr)
abbrev M6 (t)(c:aF):=([(13,vP t),(17,vI (c.handle))]:Fr)
abbrev M7 (S:aH) (tk:Nat):=([(9,vI ((obj S.O tk).sec)),(10,vI ((obj S.O tk).nano))]:Fr)
theorem Jt {β:Bs} (S:aH) (L:HL) (f m t:Nat) (hI:Inv S) (cb:Nat) (c:aF) (hC:gh β c) :
    Spec Tryz.prog β 95 #[vP f,vP cb] ((pA f m t L S)++[pC cb c]) (fun v l=>∃ L2,v=vI (cM S c).1/\l=((pA f m t L2 ((cM S c).2.1))++[.blk cb (bN ((cM S c).2.2)) 48])):=by
 have hX:=hI.hX
 refine Spec.enter Tryz.func95 rfl Tryz.ntmps95 (Nat.le_of_ble_eq_true rfl) (fun R=>?_)
 refine SR (gK 1 [] [] ?_)
 refine NN (af.seq (af.bF (by kernel_rfl) (by kernel_rfl) ?_))
 refine gQ 9 [(10,vP f),(14,vI (c.handle)),(18,.string c.name)] [(4,a_ 6 cb),(8,a_ 6 cb)] ?_
 rcases kT hI.toInv0 c.handle c.name 64 with ⟨e,hab,hne⟩|⟨d,hab,hd,iX,iP,dL⟩
 ·refine aP.call (f:=123) (args:=#[vP f,vI (c.handle),.string c.name,vI 64]) (d:=(some 19)) (pre:=(pJ f m t S L)) (R:=(oJ m L S cb c R)) (pk:=[0,2,3,1,4,5,6,7]) (ji:=[0,3,1,2,4,5,6,7]) (v0:=.tuple #[.pointer none,vI (e)]) (fun _=>by kernel_rfl) ((by have h:=eE S L f m t hI c.handle hC.hw c.name hC.nm 64 (β:=β);rw [hab] at h;exact h)) rfl (by kernel_rfl) rfl (by kernel_rfl) (fun _ _ h=>h) ?_
  refine gQ 5 [(5,.pointer none),(6,vI (e))] [] ?_
  refine NQ (NX (af.seq (SR ?_)))
  refine gK 2 [(23,.bool (!(decide ((e:Int)=(0:Int)))))] [] ?_
  refine NN (af.cX (p:=(e:Int)=(0:Int)) (fun _=>by kernel_rfl) (fun h23=>?_) (fun h23=>?_))
  ·refine SR (gK 2 [(4,vI (e))] [] ?_)
   refine NN (af.ret (ai.ak ?_))
   exact RT (vI (e)) [0,1,2,3,4,5,6,7] (⟨L,by rw [show (cM S c)=(e,S,c) by unfold cM;rw [hab]]<;>exact⟨rfl,rfl⟩⟩)
  exact absurd h23 hne
 have hkd:(obj S.O d).kind=2:=hI.kind hd
 refine aP.call (f:=123) (args:=#[vP f,vI (c.handle),.string c.name,vI 64]) (d:=(some 19)) (pre:=(pJ f m t S L)) (R:=(oJ m L S cb c R)) (pk:=[0,2,3,1,4,5,6,7]) (ji:=[0,3,1,2,4,5,6,7]) (v0:=.tuple #[vP (L.b d),vI 0]) (fun _=>by kernel_rfl) ((by have h:=eE S L f m t hI c.handle hC.hw c.name hC.nm 64 (β:=β);rw [hab] at h;exact h)) rfl (by kernel_rfl) rfl (by kernel_rfl) (fun _ _ h=>h) ?_
 refine gQ 5 (FD L d) [] ?_
 refine NQ (NX (af.seq (SR ?_)))
 refine gK 2 [(23,.bool false)] [] ?_
 refine NN (CF (af.skip (NX (af.seq (af.bF (by kernel_rfl) (by kernel_rfl) ?_)))))
 refine gQ 9 [(26,vP f),(30,vI (c.other)),(34,.string c.text)] [(4,a_ 6 cb),(8,a_ 6 cb)] ?_
 rcases kT hI.toInv0 c.other c.text 192 with ⟨e2,jZ,FI⟩|⟨to,jZ,hd2,Ra,MZ,UJ⟩
 ·refine aP.call (f:=123) (args:=#[vP f,vI (c.other),.string c.text,vI 192]) (d:=(some 35)) (pre:=(pJ f m t S L)) (R:=(oJ m L S cb c R)) (pk:=[0,2,3,1,4,5,6,7]) (ji:=[0,3,1,2,4,5,6,7]) (v0:=.tuple #[.pointer none,vI (e2)]) (fun _=>by kernel_rfl) ((by have h:=eE S L f m t hI c.other hC.ow c.text hC.tx 192 (β:=β);rw [jZ] at h;exact h)) rfl (by kernel_rfl) rfl (by kernel_rfl) (fun _ _ h=>h) ?_
  refine gQ 5 [(6,vI (e2)),(7,.pointer none)] [] ?_
  refine NQ (NX (af.seq (SR ?_)))
  refine gK 2 [(39,.bool (!(decide ((e2:Int)=(0:Int)))))] [] ?_
  refine NN (af.cX (p:=(e2:Int)=(0:Int)) (fun _=>by kernel_rfl) (fun jj=>?_) (fun jj=>?_))
  ·refine SR (gK 2 [(4,vI (e2))] [] ?_)
   refine NN (af.ret (ai.ak ?_))
   exact RT (vI (e2)) [0,1,2,3,4,5,6,7] (⟨L,by rw [show (cM S c)=(e2,S,c) by unfold cM;rw [hab];simp only;rw [jZ]]<;>exact⟨rfl,rfl⟩⟩)
  exact absurd jj FI
 have eG:(obj S.O to).kind=2:=hI.kind hd2
 refine aP.call (f:=123) (args:=#[vP f,vI (c.other),.string c.text,vI 192]) (d:=(some 35)) (pre:=(pJ f m t S L)) (R:=(oJ m L S cb c R)) (pk:=[0,2,3,1,4,5,6,7]) (ji:=[0,3,1,2,4,5,6,7]) (v0:=.tuple #[vP (L.b to),vI 0]) (fun _=>by kernel_rfl) ((by have h:=eE S L f m t hI c.other hC.ow c.text hC.tx 192 (β:=β);rw [jZ] at h;exact h)) rfl (by kernel_rfl) rfl (by kernel_rfl) (fun _ _ h=>h) ?_
 refine gQ 5 [(6,vI 0),(7,vP (L.b to))] [] ?_
 refine NQ (NX (af.seq (SR ?_)))
 refine gK 2 [(39,.bool false)] [] ?_
 refine NN (CF (af.skip (NX (af.seq ?_))))
 have hel:(obj S.O d).ah.length<=8192:=hI.gy hd
 have SN:=hC.nm
 rcases hI.mr hd c.name with hlk|⟨tk,hlk,hlv⟩|⟨tk,hlk,hlv⟩|⟨tk,hlk,hlv⟩
 ·refine af.bF (by kernel_rfl) (by kernel_rfl) ?_
  refine gQ 8 [(44,.map (some (L.m d))),(48,.string c.name)] [(3,v_ 3 (bw L hkd)),(7,a_ 6 cb)] ?_
  refine rz 5 hkd hlk ?_
  refine gQ 1 [(8,.nilIface)] [] ?_
  refine NQ (NX (af.seq (af.block (SR ?_))))
  refine gK 3 [(50,.bool true)] [] ?_
  refine NN (CT (SR (gK 1 [(4,vI 170)] [] ?_)))
  refine NN (af.ret (ai.aG (ai.ak ?_)))
  exact RT (vI 170) [0,1,2,3,4,5,6,7] (⟨L,by rw [show (cM S c)=(170,S,c) by unfold cM;rw [hab];simp only;rw [jZ];simp only;rw [show (eT S d c.name to c.text)=(170,S) by unfold eT;rw [hlk]]]<;>exact⟨rfl,rfl⟩⟩)
 ·have hkt:(obj S.O tk).kind=1:=hI.kind hlv
  refine af.bF (by kernel_rfl) (by kernel_rfl) ?_
  refine gQ 8 [(44,.map (some (L.m d))),(48,.string c.name)] [(3,v_ 3 (bw L hkd)),(7,a_ 6 cb)] ?_
  refine rz 5 hkd hlk ?_
  refine gQ 1 [(8,.iface 129 (vP (L.b tk)))] [] ?_
  refine NQ (NX (af.seq (af.block (SR ?_))))
  refine gK 3 [(50,.bool false)] [] ?_
  refine NN (CF (SR (gK 1 [(54,.iface 129 (vP (L.b tk)))] [] ?_)))
  refine gL [] (mI (vP (L.b tk))) ?_
  rintro _ _ ⟨rfl,rfl⟩
  refine gK 2 [(53,.bool false)] [] ?_
  refine NN (CF (af.seq ?_))
  have Ai:(obj S.O to).ah.length<=8192:=hI.gy hd2
  have K7:=hC.tx
  rcases hI.mr hd2 c.text with bg|⟨ok,bg,eS⟩|⟨ok,bg,eS⟩|⟨ok,bg,eS⟩
  ·refine af.bF (by kernel_rfl) (by kernel_rfl) ?_
   refine gQ 8 (ye L to c) [(3,v_ 3 (bw L eG)),(7,a_ 6 cb)] ?_
   refine rz 5 eG bg ?_
   refine gQ 2 [(57,.bool false)] [] ?_
   refine NQ (NX ?_)
   refine CF (SR (gK 1 [(69,vP f)] [] ?_))
   refine gL [0] (uE S.X f m t) ?_
   rintro _ _ ⟨rfl,rfl⟩
   refine gK 2 [(68,.bool (!(decide (S.X.ah < 8192))))] [] ?_
   refine NN (af.cX (p:=S.X.ah < 8192) (fun _=>by kernel_rfl) (fun h68=>?_) (fun h68=>?_))
   ·refine SR (gK 1 [(4,vI 177)] [] ?_)
    refine NN (af.ret (ai.aG (ai.ak ?_)))
    exact RT (vI 177) [0,1,2,3,4,5,6,7] (⟨L,by rw [show (cM S c)=(177,S,c) by unfold cM;rw [hab];simp only;rw [jZ];simp only;rw [show (eT S d c.name to c.text)=(177,S) by unfold eT;rw [hlk];exact (if_neg (by simp)).trans ((if_pos bg).trans (if_neg h68))]]<;>exact⟨rfl,rfl⟩⟩)
   refine af.skip (ai.aJ (NX (SR ?_)))
   refine gK 7 [(72,vP f),(73,vP (L.b to)),(77,.string c.text),(78,.iface 129 (vP (L.b tk)))] [(5,a_ 6 cb)] ?_
   refine gL [0,3,5] (iJ S.X f m t hX S.O L to eG c.text hC.tx bg (by omega) ⟨tk,1⟩ hkt (by simp) (by have:=hI.lb hlv;simp only at this ⊢;omega)) ?_
   rintro _ _ ⟨rfl,rfl⟩
   refine NS (aj.dx [(5,.abs (ax (bJ (cU S.X S.O to c.text ⟨tk,1⟩) L)))] (fun w hS=>by rw [show bJ (cU S.X S.O to c.text ⟨tk,1⟩) L=bJ S.O L from ic];exact hS) ?_)
   refine gK 1 [(4,vI 0)] [] ?_
   refine NN (af.ret ?_)
   exact RT (vI 0) [0,3,4,1,5,2,6,7] (⟨L,by rw [show (cM S c)=(0,{ S with X:={ S.X with ah:=S.X.ah+1 },O:=cU S.X S.O to c.text ⟨tk,1⟩ },c) by unfold cM;rw [hab];simp only;rw [jZ];simp only;rw [show (eT S d c.name to c.text)=(0,{ S with X:={ S.X with ah:=S.X.ah+1 },O:=cU S.X S.O to c.text ⟨tk,1⟩ }) by unfold eT;rw [hlk];exact (if_neg (by simp)).trans ((if_pos bg).trans (if_pos h68))]]<;>exact⟨rfl,rfl⟩⟩)
  ·have lg:(obj S.O ok).kind=1:=hI.kind eS
   refine af.bF (by kernel_rfl) (by kernel_rfl) ?_
   refine gQ 8 (ye L to c) [(3,v_ 3 (bw L eG)),(7,a_ 6 cb)] ?_
   refine rz 5 eG bg ?_
   refine gQ 2 [(57,.bool true)] [] ?_
   refine NQ (NX ?_)
   refine CT (SR (gK 1 [(4,vI 171)] [] ?_))
   refine NN (af.ret (ai.aG (ai.ak ?_)))
   exact RT (vI 171) [0,1,2,3,4,5,6,7] (⟨L,by rw [show (cM S c)=(171,S,c) by unfold cM;rw [hab];simp only;rw [jZ];simp only;rw [show (eT S d c.name to c.text)=(171,S) by unfold eT;rw [hlk];exact (if_neg (by simp)).trans (if_neg (by rw [bg];simp))]]<;>exact⟨rfl,rfl⟩⟩)
  ·have lg:(obj S.O ok).kind=2:=hI.kind eS
   refine af.bF (by kernel_rfl) (by kernel_rfl) ?_
   refine gQ 8 (ye L to c) [(3,v_ 3 (bw L eG)),(7,a_ 6 cb)] ?_
   refine rz 5 eG bg ?_
   refine gQ 2 [(57,.bool true)] [] ?_
   refine NQ (NX ?_)
   refine CT (SR (gK 1 [(4,vI 171)] [] ?_))
   refine NN (af.ret (ai.aG (ai.ak ?_)))
   exact RT (vI 171) [0,1,2,3,4,5,6,7] (⟨L,by rw [show (cM S c)=(171,S,c) by unfold cM;rw [hab];simp only;rw [jZ];simp only;rw [show (eT S d c.name to c.text)=(171,S) by unfold eT;rw [hlk];exact (if_neg (by simp)).trans (if_neg (by rw [bg];simp))]]<;>exact⟨rfl,rfl⟩⟩)
  have lg:(obj S.O ok).kind=3:=hI.kind eS
  refine af.bF (by kernel_rfl) (by kernel_rfl) ?_
  refine gQ 8 (ye L to c) [(3,v_ 3 (bw L eG)),(7,a_ 6 cb)] ?_
  refine rz 5 eG bg ?_
  refine gQ 2 [(57,.bool true)] [] ?_
  refine NQ (NX ?_)
  refine CT (SR (gK 1 [(4,vI 171)] [] ?_))
  refine NN (af.ret (ai.aG (ai.ak ?_)))
  exact RT (vI 171) [0,1,2,3,4,5,6,7] (⟨L,by rw [show (cM S c)=(171,S,c) by unfold cM;rw [hab];simp only;rw [jZ];simp only;rw [show (eT S d c.name to c.text)=(171,S) by unfold eT;rw [hlk];exact (if_neg (by simp)).trans (if_neg (by rw [bg];simp))]]<;>exact⟨rfl,rfl⟩⟩)
 ·have hkt:(obj S.O tk).kind=2:=hI.kind hlv
  refine af.bF (by kernel_rfl) (by kernel_rfl) ?_
  refine gQ 8 [(44,.map (some (L.m d))),(48,.string c.name)] [(3,v_ 3 (bw L hkd)),(7,a_ 6 cb)] ?_
  refine rz 5 hkd hlk ?_
  refine gQ 1 [(8,.iface 135 (vP (L.b tk)))] [] ?_
  refine NQ (NX (af.seq (af.block (SR ?_))))
  refine gK 3 [(50,.bool false)] [] ?_
  refine NN (CF (SR (gK 1 [(54,.iface 135 (vP (L.b tk)))] [] ?_)))
  refine gL [] (mJ (vP (L.b tk))) ?_
  rintro _ _ ⟨rfl,rfl⟩
  refine gK 2 [(53,.bool true)] [] ?_
  refine NN (CT (SR (gK 1 [(4,vI 172)] [] ?_)))
  refine NN (af.ret (ai.aG (ai.ak ?_)))
  exact RT (vI 172) [0,1,2,3,4,5,6,7] (⟨L,by rw [show (cM S c)=(172,S,c) by unfold cM;rw [hab];simp only;rw [jZ];simp only;rw [show (eT S d c.name to c.text)=(172,S) by unfold eT;rw [hlk];exact if_pos rfl]]<;>exact⟨rfl,rfl⟩⟩)
 have hkt:(obj S.O tk).kind=3:=hI.kind hlv
 refine af.bF (by kernel_rfl) (by kernel_rfl) ?_
 refine gQ 8 [(44,.map (some (L.m d))),(48,.string c.name)] [(3,v_ 3 (bw L hkd)),(7,a_ 6 cb)] ?_
 refine rz 5 hkd hlk ?_
 refine gQ 1 [(8,.iface 132 (vP (L.b tk)))] [] ?_
 refine NQ (NX (af.seq (af.block (SR ?_))))
 refine gK 3 [(50,.bool false)] [] ?_
 refine NN (CF (SR (gK 1 [(54,.iface 132 (vP (L.b tk)))] [] ?_)))
 refine gL [] (nY (vP (L.b tk))) ?_
 rintro _ _ ⟨rfl,rfl⟩
 refine gK 2 [(53,.bool false)] [] ?_
 refine NN (CF (af.seq ?_))
 have Ai:(obj S.O to).ah.length<=8192:=hI.gy hd2
 have K7:=hC.tx
 rcases hI.mr hd2 c.text with bg|⟨ok,bg,eS⟩|⟨ok,bg,eS⟩|⟨ok,bg,eS⟩
 ·refine af.bF (by kernel_rfl) (by kernel_rfl) ?_
  refine gQ 8 (ye L to c) [(3,v_ 3 (bw L eG)),(7,a_ 6 cb)] ?_
  refine rz 5 eG bg ?_
  refine gQ 2 [(57,.bool false)] [] ?_
  refine NQ (NX ?_)
  refine CF (SR (gK 1 [(69,vP f)] [] ?_))
  refine gL [0] (uE S.X f m t) ?_
  rintro _ _ ⟨rfl,rfl⟩
  refine gK 2 [(68,.bool (!(decide (S.X.ah < 8192))))] [] ?_
  refine NN (af.cX (p:=S.X.ah < 8192) (fun _=>by kernel_rfl) (fun h68=>?_) (fun h68=>?_))
  ·refine SR (gK 1 [(4,vI 177)] [] ?_)
   refine NN (af.ret (ai.aG (ai.ak ?_)))
   exact RT (vI 177) [0,1,2,3,4,5,6,7] (⟨L,by rw [show (cM S c)=(177,S,c) by unfold cM;rw [hab];simp only;rw [jZ];simp only;rw [show (eT S d c.name to c.text)=(177,S) by unfold eT;rw [hlk];exact (if_neg (by simp)).trans ((if_pos bg).trans (if_neg h68))]]<;>exact⟨rfl,rfl⟩⟩)
  refine af.skip (ai.aJ (NX (SR ?_)))
  refine gK 7 [(72,vP f),(73,vP (L.b to)),(77,.string c.text),(78,.iface 132 (vP (L.b tk)))] [(5,a_ 6 cb)] ?_
  refine gL [0,3,5] (iJ S.X f m t hX S.O L to eG c.text hC.tx bg (by omega) ⟨tk,3⟩ hkt (by simp) (by have:=hI.lb hlv;simp only at this ⊢;omega)) ?_
  rintro _ _ ⟨rfl,rfl⟩
  refine NS (aj.dx [(5,.abs (ax (bJ (cU S.X S.O to c.text ⟨tk,3⟩) L)))] (fun w hS=>by rw [show bJ (cU S.X S.O to c.text ⟨tk,3⟩) L=bJ S.O L from ic];exact hS) ?_)
  refine gK 1 [(4,vI 0)] [] ?_
  refine NN (af.ret ?_)
  exact RT (vI 0) [0,3,4,1,5,2,6,7] (⟨L,by rw [show (cM S c)=(0,{ S with X:={ S.X with ah:=S.X.ah+1 },O:=cU S.X S.O to c.text ⟨tk,3⟩ },c) by unfold cM;rw [hab];simp only;rw [jZ];simp only;rw [show (eT S d c.name to c.text)=(0,{ S with X:={ S.X with ah:=S.X.ah+1 },O:=cU S.X S.O to c.text ⟨tk,3⟩ }) by unfold eT;rw [hlk];exact (if_neg (by simp)).trans ((if_pos bg).trans (if_pos h68))]]<;>exact⟨rfl,rfl⟩⟩)
 ·have lg:(obj S.O ok).kind=1:=hI.kind eS
  refine af.bF (by kernel_rfl) (by kernel_rfl) ?_
  refine gQ 8 (ye L to c) [(3,v_ 3 (bw L eG)),(7,a_ 6 cb)] ?_
  refine rz 5 eG bg ?_
  refine gQ 2 [(57,.bool true)] [] ?_
  refine NQ (NX ?_)
  refine CT (SR (gK 1 [(4,vI 171)] [] ?_))
  refine NN (af.ret (ai.aG (ai.ak ?_)))
  exact RT (vI 171) [0,1,2,3,4,5,6,7] (⟨L,by rw [show (cM S c)=(171,S,c) by unfold cM;rw [hab];simp only;rw [jZ];simp only;rw [show (eT S d c.name to c.text)=(171,S) by unfold eT;rw [hlk];exact (if_neg (by simp)).trans (if_neg (by rw [bg];simp))]]<;>exact⟨rfl,rfl⟩⟩)
 ·have lg:(obj S.O ok).kind=2:=hI.kind eS
  refine af.bF (by kernel_rfl) (by kernel_rfl) ?_
  refine gQ 8 (ye L to c) [(3,v_ 3 (bw L eG)),(7,a_ 6 cb)] ?_
  refine rz 5 eG bg ?_
  refine gQ 2 [(57,.bool true)] [] ?_
  refine NQ (NX ?_)
  refine CT (SR (gK 1 [(4,vI 171)] [] ?_))
  refine NN (af.ret (ai.aG (ai.ak ?_)))
  exact RT (vI 171) [0,1,2,3,4,5,6,7] (⟨L,by rw [show (cM S c)=(171,S,c) by unfold cM;rw [hab];simp only;rw [jZ];simp only;rw [show (eT S d c.name to c.text)=(171,S) by unfold eT;rw [hlk];exact (if_neg (by simp)).trans (if_neg (by rw [bg];simp))]]<;>exact⟨rfl,rfl⟩⟩)
 have lg:(obj S.O ok).kind=3:=hI.kind eS
 refine af.bF (by kernel_rfl) (by kernel_rfl) ?_
 refine gQ 8 (ye L to c) [(3,v_ 3 (bw L eG)),(7,a_ 6 cb)] ?_
 refine rz 5 eG bg ?_
 refine gQ 2 [(57,.bool true)] [] ?_
 refine NQ (NX ?_)
 refine CT (SR (gK 1 [(4,vI 171)] [] ?_))
 refine NN (af.ret (ai.aG (ai.ak ?_)))
 exact RT (vI 171) [0,1,2,3,4,5,6,7] (⟨L,by rw [show (cM S c)=(171,S,c) by unfold cM;rw [hab];simp only;rw [jZ];simp only;rw [show (eT S d c.name to c.text)=(171,S) by unfold eT;rw [hlk];exact (if_neg (by simp)).trans (if_neg (by rw [bg];simp))]]<;>exact⟨rfl,rfl⟩⟩)
theorem GH {β:Bs} (S:aH) (L:HL) (f m t:Nat) (hI:Inv S) (cb:Nat) (c:aF) (hC:gh β c) :
    Spec Tryz.prog β 97 #[vP f,vP cb] ((pA f m t L S)++[pC cb c]) (fun v l=>∃ L2,v=vI (fZ S c).1/\l=((pA f m t L2 ((fZ S c).2.1))++[.blk cb (bN ((fZ S c).2.2)) 48])):=by
 have hX:=hI.hX
 refine Spec.enter Tryz.func97 rfl Tryz.ntmps97 (Nat.le_of_ble_eq_true rfl) (fun R=>?_)
 refine af.seq ?_
 rcases hI.hand c.handle with dL|⟨tk,dL,hlv⟩|⟨tk,dL,hlv⟩
 ·refine af.region (gK 1 [] [] ?_)
  refine NN (af.seq (af.bF (by kernel_rfl) (by kernel_rfl) ?_))
  refine gQ 8 (M6 t c) [(3,a_ 0 f),(7,a_ 6 cb)] ?_
  refine aP.call (f:=132) (args:=#[vP t,vI (c.handle)]) (d:=(some 18)) (pre:=[kx t S L]) (R:=(qZ f m t S L cb c R)) (pk:=[2,0,1,3,4,5,6,7]) (ji:=[1,2,0,3,4,5,6,7]) (v0:=.tuple #[.nilIface,vI 131]) (fun _=>by kernel_rfl) (qE t S.X.cH S.ay (aY L S.us) c.handle hC.hw (p4 dL)) rfl (by kernel_rfl) rfl (by kernel_rfl) (fun _ _ h=>h) ?_
  refine gQ 5 [(5,.nilIface),(6,vI 131)] [] ?_
  refine NQ (NX (af.seq (SR ?_)))
  refine gK 2 [(22,.bool true)] [] ?_
  refine NN (CT (SR (gK 2 [(4,vI 131)] [] ?_)))
  refine NN (af.ret (ai.ak ?_))
  exact RT (vI 131) [0,1,2,3,4,5,6,7] (⟨L,by rw [show (fZ S c)=(131,S,c) by unfold fZ;rw [dL]]<;>exact⟨rfl,rfl⟩⟩)
 ·have hkt:(obj S.O tk).kind=1:=hI.kind hlv
  refine af.region (gK 1 [] [] ?_)
  refine NN (af.seq (af.bF (by kernel_rfl) (by kernel_rfl) ?_))
  refine gQ 8 (M6 t c) [(3,a_ 0 f),(7,a_ 6 cb)] ?_
  refine aP.call (f:=132) (args:=#[vP t,vI (c.handle)]) (d:=(some 18)) (pre:=[kx t S L]) (R:=(qZ f m t S L cb c R)) (pk:=[2,0,1,3,4,5,6,7]) (ji:=[1,2,0,3,4,5,6,7]) (v0:=.tuple #[.iface 129 (vP (L.b tk)),vI 0]) (fun _=>by kernel_rfl) (lP t S.X.cH S.ay (aY L S.us) c.handle hC.hw (dQ L ⟨tk,1⟩) (kF dL)) rfl (by kernel_rfl) rfl (by kernel_rfl) (fun _ _ h=>h) ?_
  refine gQ 5 (Jr L tk) [] ?_
  refine NQ (NX (af.seq (SR ?_)))
  refine gK 2 [(22,.bool false)] [] ?_
  refine NN (CF (af.skip (NX (SR (gK 7 [(7,vP (L.b tk)),(8,.bool true)] [] ?_)))))
  refine NN (af.seq (SR (gK 2 [(30,.bool false)] [] ?_)))
  refine NN (CF (af.skip (NX (SR (gK 7 [(32,vP cb),(33,vP f),(34,vP (L.b tk)),(38,.slice c.dA (c.data.length) (c.dC))] [(6,a_ 6 cb)] ?_)))))
  refine gL [0,1,2,3,4,5] (DH S L f m t hI tk hlv c.dA c.dC c.data hC.da hC.dl hC.dc) ?_
  rintro _ _ ⟨L2,rfl,rfl⟩
  refine gC 7 [(6,vI ((cW S tk c.data).2.1))] [(5,a_ 6 cb)] [(6,[(12,vI ((cW S tk c.data).1))])] ?_
  refine NS (gK 2 [(4,vI ((cW S tk c.data).2.1))] [] ?_)
  refine NN (af.ret ?_)
  exact RT (vI ((cW S tk c.data).2.1)) [0,1,2,3,4,5,6,7] (⟨L2,by rw [show (fZ S c)=((cW S tk c.data).2.1,(cW S tk c.data).2.2,{ c with answer:=(cW S tk c.data).1 }) by unfold fZ;rw [dL];exact if_pos rfl]<;>exact⟨rfl,rfl⟩⟩)
 have hkt:(obj S.O tk).kind=2:=hI.kind hlv
 refine af.region (gK 1 [] [] ?_)
 refine NN (af.seq (af.bF (by kernel_rfl) (by kernel_rfl) ?_))
 refine gQ 8 (M6 t c) [(3,a_ 0 f),(7,a_ 6 cb)] ?_
 refine aP.call (f:=132) (args:=#[vP t,vI (c.handle)]) (d:=(some 18)) (pre:=[kx t S L]) (R:=(qZ f m t S L cb c R)) (pk:=[2,0,1,3,4,5,6,7]) (ji:=[1,2,0,3,4,5,6,7]) (v0:=.tuple #[.iface 135 (vP (L.b tk)),vI 0]) (fun _=>by kernel_rfl) (lP t S.X.cH S.ay (aY L S.us) c.handle hC.hw (dQ L ⟨tk,2⟩) (kF dL)) rfl (by kernel_rfl) rfl (by kernel_rfl) (fun _ _ h=>h) ?_
 refine gQ 5 (Js L tk) [] ?_
 refine NQ (NX (af.seq (SR ?_)))
 refine gK 2 [(22,.bool false)] [] ?_
 refine NN (CF (af.skip (NX (SR (gK 7 [(7,.pointer none),(8,.bool false)] [] ?_)))))
 refine NN (af.seq (SR (gK 2 [(30,.bool true)] [] ?_)))
 refine NN (CT (SR (gK 1 [(4,vI 172)] [] ?_)))
 refine NN (af.ret (ai.ak ?_))
 exact RT (vI 172) [0,1,2,3,4,5,6,7] (⟨L,by rw [show (fZ S c)=(172,S,c) by unfold fZ;rw [dL];exact if_neg (by simp)]<;>exact⟨rfl,rfl⟩⟩)
theorem oe {β:Bs} (S:aH) (L:HL) (hI:Inv S) (cb:Nat) (c:aF) (ot:Option Th) (ht:ot=none\/(∃ k,ot=some ⟨k,1⟩/\Live S.idx ⟨k,1⟩)\/(∃ k,ot=some ⟨k,2⟩/\Live S.idx ⟨k,2⟩)\/∃ k,ot=some ⟨k,3⟩/\Live S.idx ⟨k,3⟩) :
    Spec Tryz.prog β 134 #[vP cb,(match ot with|none=>.nilIface|some th=>dQ L th)] [pO S.O L,pC cb c] (fun v l=>v=.tuple #[]/\l=[pO S.O L,.blk cb (bN (mq S.O c ot)) 48]):=by
 refine Spec.enter Tryz.func134 rfl Tryz.ntmps134 (Nat.le_of_ble_eq_true rfl) (fun R=>?_)
 refine af.seq ?_
 rcases ht with rfl|⟨tk,rfl,hlv⟩|⟨tk,rfl,hlv⟩|⟨tk,rfl,hlv⟩
 ·refine af.region (gC 21 [] [(8,a_ 1 cb),(11,a_ 1 cb),(14,a_ 1 cb),(17,a_ 1 cb),(20,A_ 1 cb 2)] [(1,(CW))] ?_)
  refine NN (af.seq (SR (gK 2 [(22,.bool true)] [] ?_)))
  refine NN (CT (af.ret (ai.ak ?_)))
  exact RT (.tuple #[]) [0,1,2] (⟨rfl,rfl⟩)
 ·have hkt:(obj S.O tk).kind=1:=hI.kind hlv
  refine af.region (gC 21 [] [(8,a_ 1 cb),(11,a_ 1 cb),(14,a_ 1 cb),(17,a_ 1 cb),(20,A_ 1 cb 2)] [(1,(CW))] ?_)
  refine NN (af.seq (SR (gK 2 [(22,.bool false)] [] ?_)))
  refine NN (CF (af.skip (NX (SR (gK 1 [(23,.iface 129 (vP (L.b tk)))] [] ?_)))))
  refine gL [] (dg (L.b tk)) ?_
  rintro _ _ ⟨rfl,rfl⟩
  refine gK 1 [(4,vP (L.b tk))] [] ?_
  refine NN (af.bM (S:=[pO S.O L]) [0,1,2,3,4,5,6,7,8,9,10,12,13,14,15,16,17,18,19,20,21,22,23,24,25,26,27,11,28,29,30,31,32,33,34,35,36,37,38,39,40,41,42,43,44,45] 27 [0] (by kernel_rfl) (by kernel_rfl) rfl (by kernel_rfl) ?_)
  refine gR 0 [11,28,29,30,31,32,33,34,35,36,37,38,39,40,41,42,43,44,45] (M0 cb S tk++[(35,.iface 129 (vP (L.b tk)))]++M4 S tk) [0,1,2,3,4,5,6,7,8,9,10,12,13,14,15,16,17,18,19,20,21,22,23,24,25,26,27] [(9,v_ 0 (qX L hkt)),(14,v_ 0 (tq L hkt)),(18,v_ 0 (yP L hkt)),(22,v_ 0 (yQ L hkt)),(26,p_ ⟨[.view 0 (.int .i64 ((obj S.O tk).sec)),.view 0 (.int .i64 ((obj S.O tk).nano))],none,none,none,none⟩ [(∀ F w,(ax (bI S.O L)).h F w->w.cell? ⟨(L.b tk),5,none⟩=some (vI ((obj S.O tk).nano))),(∀ F w,(ax (bI S.O L)).h F w->w.cell? ⟨(L.b tk),4,none⟩=some (vI ((obj S.O tk).sec)))] ⟨d8 (by rw [hkt];decide) (rfl),d8 (by rw [hkt];decide) (rfl),trivial⟩)] ?_
  refine mL [0] [] (mI (vP (L.b tk))) ?_ (by rintro _ _ ⟨rfl,rfl⟩;rfl)
  rintro _ _ ⟨rfl,rfl⟩
  refine aN.cut (ι:=Unit) (fr':=fun (_:Unit)=>([(26,vP cb)]++qY cb++[(34,vI ((obj S.O tk).id)),(36,vI 1),(40,vI ((obj S.O tk).mode))]++mz S tk++[(53,vP cb)])) (hp':=fun (_:Unit)=>[pO S.O L,HE cb c,.abs R]) [0] rfl rfl ?_ rfl (fun _=>by kernel_rfl) ?_
  ·refine gK 1 [(53,vP cb)] [] ?_
   refine NL ?_
   exact MD () [26,27,28,29,30,34,36,40,44,48,52,53] [0,1,2]
  rintro _
  refine aN.cut (ι:=Unit) (fr':=fun (_:Unit)=>([(26,vP cb)]++qY cb++[(34,vI ((obj S.O tk).id)),(36,vI 1),(40,vI ((obj S.O tk).mode))]++mz S tk++[(54,.pointer (some ⟨cb,12,none⟩))])) (hp':=fun (_:Unit)=>[pO S.O L,HE cb c,.abs R]) [0] rfl rfl ?_ rfl (fun _=>by kernel_rfl) ?_
  ·refine gK 1 [(54,.pointer (some ⟨cb,12,none⟩))] [] ?_
   refine NL ?_
   exact MD () [26,27,28,29,30,34,36,40,44,48,52,54] [0,1,2]
  rintro _
  refine mC [0] [] [(0,a_ 1 cb)] [(1,[(12,vI ((obj S.O tk).id))])] ?_
  refine aN.cut (ι:=Unit) (fr':=fun (_:Unit)=>(qY cb++[(36,vI 1),(40,vI ((obj S.O tk).mode))]++mz S tk++[(55,vP cb)])) (hp':=fun (_:Unit)=>[pO S.O L,HF cb c S tk,.abs R]) [0] rfl rfl ?_ rfl (fun _=>by kernel_rfl) ?_
  ·refine gK 1 [(55,vP cb)] [] ?_
   refine NL ?_
   exact MD () [27,28,29,30,36,40,44,48,52,55] [0,1,2]
  rintro _
  refine aN.cut (ι:=Unit) (fr':=fun (_:Unit)=>(qY cb++[(36,vI 1),(40,vI ((obj S.O tk).mode))]++mz S tk++[(56,.pointer (some ⟨cb,2,none⟩))])) (hp':=fun (_:Unit)=>[pO S.O L,HF cb c S tk,.abs R]) [0] rfl rfl ?_ rfl (fun _=>by kernel_rfl) ?_
  ·refine gK 1 [(56,.pointer (some ⟨cb,2,none⟩))] [] ?_
   refine NL ?_
   exact MD () [27,28,29,30,36,40,44,48,52,56] [0,1,2]
  rintro _
  refine mC [0] [] [(0,a_ 1 cb)] [(1,[(2,vI 1)])] ?_
  refine aN.cut (ι:=Unit) (fr':=fun (_:Unit)=>(CY cb S tk++mz S tk++[(57,vP cb)])) (hp':=fun (_:Unit)=>[pO S.O L,pC cb { c with other:=1,mode:=0,uid:=0,gid:=0,sec:=0,nano:=0,answer:=(obj S.O tk).id },.abs R]) [0] rfl rfl ?_ rfl (fun _=>by kernel_rfl) ?_
  ·refine gK 1 [(57,vP cb)] [] ?_
   refine NL ?_
   exact MD () [28,29,30,40,44,48,52,57] [0,1,2]
  rintro _
  refine aN.cut (ι:=Unit) (fr':=fun (_:Unit)=>(CY cb S tk++mz S tk++[(58,.pointer (some ⟨cb,6,none⟩))])) (hp':=fun (_:Unit)=>[pO S.O L,pC cb { c with other:=1,mode:=0,uid:=0,gid:=0,sec:=0,nano:=0,answer:=(obj S.O tk).id },.abs R]) [0] rfl rfl ?_ rfl (fun _=>by kernel_rfl) ?_
  ·refine gK 1 [(58,.pointer (some ⟨cb,6,none⟩))] [] ?_
   refine NL ?_
   exact MD () [28,29,30,40,44,48,52,58] [0,1,2]
  rintro _
  refine mC [0] [] [(0,a_ 1 cb)] [(1,[(6,vI ((obj S.O tk).mode))])] ?_
  refine aN.cut (ι:=Unit) (fr':=fun (_:Unit)=>([(29,vP cb),(30,vP cb)]++mz S tk++[(59,vP cb)])) (hp':=fun (_:Unit)=>[pO S.O L,pC cb { c with other:=1,mode:=(obj S.O tk).mode,uid:=0,gid:=0,sec:=0,nano:=0,answer:=(obj S.O tk).id },.abs R]) [0] rfl rfl ?_ rfl (fun _=>by kernel_rfl) ?_
  ·refine gK 1 [(59,vP cb)] [] ?_
   refine NL ?_
   exact MD () [29,30,44,48,52,59] [0,1,2]
  rintro _
  refine aN.cut (ι:=Unit) (fr':=fun (_:Unit)=>([(29,vP cb),(30,vP cb)]++mz S tk++[(60,.pointer (some ⟨cb,7,none⟩))])) (hp':=fun (_:Unit)=>[pO S.O L,pC cb { c with other:=1,mode:=(obj S.O tk).mode,uid:=0,gid:=0,sec:=0,nano:=0,answer:=(obj S.O tk).id },.abs R]) [0] rfl rfl ?_ rfl (fun _=>by kernel_rfl) ?_
  ·refine gK 1 [(60,.pointer (some ⟨cb,7,none⟩))] [] ?_
   refine NL ?_
   exact MD () [29,30,44,48,52,60] [0,1,2]
  rintro _
  refine mC [0] [] [(0,a_ 1 cb)] [(1,[(7,vI ((obj S.O tk).uid))])] ?_
  refine aN.cut (ι:=Unit) (fr':=fun (_:Unit)=>(CV cb S tk++[(61,vP cb)])) (hp':=fun (_:Unit)=>[pO S.O L,Tl cb c S tk,.abs R]) [0] rfl rfl ?_ rfl (fun _=>by kernel_rfl) ?_
  ·refine gK 1 [(61,vP cb)] [] ?_
   refine NL ?_
   exact MD () [30,48,52,61] [0,1,2]
  rintro _
  refine aN.cut (ι:=Unit) (fr':=fun (_:Unit)=>(CV cb S tk++[(62,.pointer (some ⟨cb,8,none⟩))])) (hp':=fun (_:Unit)=>[pO S.O L,Tl cb c S tk,.abs R]) [0] rfl rfl ?_ rfl (fun _=>by kernel_rfl) ?_
  ·refine gK 1 [(62,.pointer (some ⟨cb,8,none⟩))] [] ?_
   refine NL ?_
   exact MD () [30,48,52,62] [0,1,2]
  rintro _
  refine mC [0] [] [(0,a_ 1 cb)] [(1,[(8,vI ((obj S.O tk).gid))])] ?_
  refine aN.cut (ι:=Unit) (fr':=fun (_:Unit)=>[(52,.agg #[vI ((obj S.O tk).sec),vI ((obj S.O tk).nano)]),(63,vP cb)]) (hp':=fun (_:Unit)=>[pO S.O L,Tm cb c S tk,.abs R]) [0] rfl rfl ?_ rfl (fun _=>by kernel_rfl) ?_
  ·refine gK 1 [(63,vP cb)] [] ?_
   refine NL ?_
   exact MD () [52,63] [0,1,2]
  rintro _
  refine aN.cut (ι:=Unit) (fr':=fun (_:Unit)=>(M5 S tk cb)) (hp':=fun (_:Unit)=>[pO S.O L,Tm cb c S tk,.abs R]) [0] rfl rfl ?_ rfl (fun _=>by kernel_rfl) ?_
  ·refine gK 1 [(64,.pointer (some ⟨cb,9,none⟩))] [] ?_
   refine NL ?_
   exact MD () [52,64] [0,1,2]
  rintro _
  refine aN.last rfl rfl ?_
  refine gC 1 [] [(0,A_ 1 cb 2)] [(1,(M7 S tk))] ?_
  refine NL (ai.np ?_)
  exact RF (.tuple #[]) [0,1,2] (⟨rfl,rfl⟩)
 ·have hkt:(obj S.O tk).kind=2:=hI.kind hlv
  refine af.region (gC 21 [] [(8,a_ 1 cb),(11,a_ 1 cb),(14,a_ 1 cb),(17,a_ 1 cb),(20,A_ 1 cb 2)] [(1,(CW))] ?_)
  refine NN (af.seq (SR (gK 2 [(22,.bool false)] [] ?_)))
  refine NN (CF (af.skip (NX (SR (gK 1 [(23,.iface 135 (vP (L.b tk)))] [] ?_)))))
  refine gL [] (dg (L.b tk)) ?_
  rintro _ _ ⟨rfl,rfl⟩
  refine gK 1 [(4,vP (L.b tk))] [] ?_
  refine NN (af.bM (S:=[pO S.O L]) [0,1,2,3,4,5,6,7,8,9,10,12,13,14,15,16,17,18,19,20,21,22,23,24,25,26,27,11,28,29,30,31,32,33,34,35,36,37,38,39,40,41,42,43,44,45] 27 [0] (by kernel_rfl) (by kernel_rfl) rfl (by kernel_rfl) ?_)
  refine gR 0 [11,28,29,30,31,32,33,34,35,36,37,38,39,40,41,42,43,44,45] (M0 cb S tk++[(35,.iface 135 (vP (L.b tk)))]++M4 S tk) [0,1,2,3,4,5,6,7,8,9,10,12,13,14,15,16,17,18,19,20,21,22,23,24,25,26,27] [(9,v_ 0 (qX L hkt)),(14,v_ 0 (tq L hkt)),(18,v_ 0 (yP L hkt)),(22,v_ 0 (yQ L hkt)),(26,p_ ⟨[.view 0 (.int .i64 ((obj S.O tk).sec)),.view 0 (.int .i64 ((obj S.O tk).nano))],none,none,none,none⟩ [(∀ F w,(ax (bI S.O L)).h F w->w.cell? ⟨(L.b tk),5,none⟩=some (vI ((obj S.O tk).nano))),(∀ F w,(ax (bI S.O L)).h F w->w.cell? ⟨(L.b tk),4,none⟩=some (vI ((obj S.O tk).sec)))] ⟨d8 (by rw [hkt];decide) (rfl),d8 (by rw [hkt];decide) (rfl),trivial⟩)] ?_
  refine mL [0] [] (mJ (vP (L.b tk))) ?_ (by rintro _ _ ⟨rfl,rfl⟩;rfl)
  rintro _ _ ⟨rfl,rfl⟩
  refine aN.cut (ι:=Unit) (fr':=fun (_:Unit)=>([(26,vP cb)]++qY cb++[(34,vI ((obj S.O tk).id)),(36,vI 2),(40,vI ((obj S.O tk).mode))]++mz S tk++[(53,vP cb)])) (hp':=fun (_:Unit)=>[pO S.O L,HE cb c,.abs R]) [0] rfl rfl ?_ rfl (fun _=>by kernel_rfl) ?_
  ·refine gK 1 [(53,vP cb)] [] ?_
   refine NL ?_
   exact MD () [26,27,28,29,30,34,36,40,44,48,52,53] [0,1,2]
  rintro _
  refine aN.cut (ι:=Unit) (fr':=fun (_:Unit)=>([(26,vP cb)]++qY cb++[(34,vI ((obj S.O tk).id)),(36,vI 2),(40,vI ((obj S.O tk).mode))]++mz S tk++[(54,.pointer (some ⟨cb,12,none⟩))])) (hp':=fun (_:Unit)=>[pO S.O L,HE cb c,.abs R]) [0] rfl rfl ?_ rfl (fun _=>by kernel_rfl) ?_
  ·refine gK 1 [(54,.pointer (some ⟨cb,12,none⟩))] [] ?_
   refine NL ?_
   exact MD () [26,27,28,29,30,34,36,40,44,48,52,54] [0,1,2]
  rintro _
  refine mC [0] [] [(0,a_ 1 cb)] [(1,[(12,vI ((obj S.O tk).id))])] ?_
  refine aN.cut (ι:=Unit) (fr':=fun (_:Unit)=>(qY cb++[(36,vI 2),(40,vI ((obj S.O tk).mode))]++mz S tk++[(55,vP cb)])) (hp':=fun (_:Unit)=>[pO S.O L,HF cb c S tk,.abs R]) [0] rfl rfl ?_ rfl (fun _=>by kernel_rfl) ?_
  ·refine gK 1 [(55,vP cb)] [] ?_
   refine NL ?_
   exact MD () [27,28,29,30,36,40,44,48,52,55] [0,1,2]
  rintro _
  refine aN.cut (ι:=Unit) (fr':=fun (_:Unit)=>(qY cb++[(36,vI 2),(40,vI ((obj S.O tk).mode))]++mz S tk++[(56,.pointer (some ⟨cb,2,none⟩))])) (hp':=fun (_:Unit)=>[pO S.O L,HF cb c S tk,.abs R]) [0] rfl rfl ?_ rfl (fun _=>by kernel_rfl) ?_
  ·refine gK 1 [(56,.pointer (some ⟨cb,2,none⟩))] [] ?_
   refine NL ?_
   exact MD () [27,28,29,30,36,40,44,48,52,56] [0,1,2]
  rintro _
  refine mC [0] [] [(0,a_ 1 cb)] [(1,[(2,vI 2)])] ?_
  refine aN.cut (ι:=Unit) (fr':=fun (_:Unit)=>(CY cb S tk++mz S tk++[(57,vP cb)])) (hp':=fun (_:Unit)=>[pO S.O L,pC cb { c with other:=2,mode:=0,uid:=0,gid:=0,sec:=0,nano:=0,answer:=(obj S.O tk).id },.abs R]) [0] rfl rfl ?_ rfl (fun _=>by kernel_rfl) ?_
  ·refine gK 1 [(57,vP cb)] [] ?_
   refine NL ?_
   exact MD () [28,29,30,40,44,48,52,57] [0,1,2]
  rintro _
  refine aN.cut (ι:=Unit) (fr':=fun (_:Unit)=>(CY cb S tk++mz S tk++[(58,.pointer (some ⟨cb,6,none⟩))])) (hp':=fun (_:Unit)=>[pO S.O L,pC cb { c with other:=2,mode:=0,uid:=0,gid:=0,sec:=0,nano:=0,answer:=(obj S.O tk).id },.abs R]) [0] rfl rfl ?_ rfl (fun _=>by kernel_rfl) ?_
  ·refine gK 1 [(58,.pointer (some ⟨cb,6,none⟩))] [] ?_
   refine NL ?_
   exact MD () [28,29,30,40,44,48,52,58] [0,1,2]
  rintro _
  refine mC [0] [] [(0,a_ 1 cb)] [(1,[(6,vI ((obj S.O tk).mode))])] ?_
  refine aN.cut (ι:=Unit) (fr':=fun (_:Unit)=>([(29,vP cb),(30,vP cb)]++mz S tk++[(59,vP cb)])) (hp':=fun (_:Unit)=>[pO S.O L,pC cb { c with other:=2,mode:=(obj S.O tk).mode,uid:=0,gid:=0,sec:=0,nano:=0,answer:=(obj S.O tk).id },.abs R]) [0] rfl rfl ?_ rfl (fun _=>by kernel_rfl) ?_
  ·refine gK 1 [(59,vP cb)] [] ?_
   refine NL ?_
   exact MD () [29,30,44,48,52,59] [0,1,2]
  rintro _
  refine aN.cut (ι:=Unit) (fr':=fun (_:Unit)=>([(29,vP cb),(30,vP cb)]++mz S tk++[(60,.pointer (some ⟨cb,7,none⟩))])) (hp':=fun (_:Unit)=>[pO S.O L,pC cb { c with other:=2,mode:=(obj S.O tk).mode,uid:=0,gid:=0,sec:=0,nano:=0,answer:=(obj S.O tk).id },.abs R]) [0] rfl rfl ?_ rfl (fun _=>by kernel_rfl) ?_
  ·refine gK 1 [(60,.pointer (some ⟨cb,7,none⟩))] [] ?_
   refine NL ?_
   exact MD () [29,30,44,48,52,60] [0,1,2]
  rintro _
  refine mC [0] [] [(0,a_ 1 cb)] [(1,[(7,vI ((obj S.O tk).uid))])] ?_
  refine aN.cut (ι:=Unit) (fr':=fun (_:Unit)=>(CV cb S tk++[(61,vP cb)])) (hp':=fun (_:Unit)=>[pO S.O L,Tn cb c S tk,.abs R]) [0] rfl rfl ?_ rfl (fun _=>by kernel_rfl) ?_
  ·refine gK 1 [(61,vP cb)] [] ?_
   refine NL ?_
   exact MD () [30,48,52,61] [0,1,2]
  rintro _
  refine aN.cut (ι:=Unit) (fr':=fun (_:Unit)=>(CV cb S tk++[(62,.pointer (some ⟨cb,8,none⟩))])) (hp':=fun (_:Unit)=>[pO S.O L,Tn cb c S tk,.abs R]) [0] rfl rfl ?_ rfl (fun _=>by kernel_rfl) ?_
  ·refine gK 1 [(62,.pointer (some ⟨cb,8,none⟩))] [] ?_
   refine NL ?_
   exact MD () [30,48,52,62] [0,1,2]
  rintro _
  refine mC [0] [] [(0,a_ 1 cb)] [(1,[(8,vI ((obj S.O tk).gid))])] ?_
  refine aN.cut (ι:=Unit) (fr':=fun (_:Unit)=>[(52,.agg #[vI ((obj S.O tk).sec),vI ((obj S.O tk).nano)]),(63,vP cb)]) (hp':=fun (_:Unit)=>[pO S.O L,Tp cb c S tk,.abs R]) [0] rfl rfl ?_ rfl (fun _=>by kernel_rfl) ?_
  ·refine gK 1 [(63,vP cb)] [] ?_
   refine NL ?_
   exact MD () [52,63] [0,1,2]
  rintro _
  refine aN.cut (ι:=Unit) (fr':=fun (_:Unit)=>(M5 S tk cb)) (hp':=fun (_:Unit)=>[pO S.O L,Tp cb c S tk,.abs R]) [0] rfl rfl ?_ rfl (fun _=>by kernel_rfl) ?_
  ·refine gK 1 [(64,.pointer (some ⟨cb,9,none⟩))] [] ?_
   refine NL ?_
   exact MD () [52,64] [0,1,2]
  rintro _
  refine aN.last rfl rfl ?_
  refine gC 1 [] [(0,A_ 1 cb 2)] [(1,(M7 S tk))] ?_
  refine NL (ai.np ?_)
  exact RF (.tuple #[]) [0,1,2] (⟨rfl,rfl⟩)
 have hkt:(obj S.O tk).kind=3:=hI.kind hlv
 refine af.region (gC 21 [] [(8,a_ 1 cb),(11,a_ 1 cb),(14,a_ 1 cb),(17,a_ 1 cb),(20,A_ 1 cb 2)] [(1,(CW))] ?_)
 refine NN (af.seq (SR (gK 2 [(22,.bool false)] [] ?_)))
 refine NN (CF (af.skip (NX (SR (gK 1 [(23,.iface 132 (vP (L.b tk)))] [] ?_)))))
 refine gL [] (dg (L.b tk)) ?_
 rintro _ _ ⟨rfl,rfl⟩
 refine gK 1 [(4,vP (L.b tk))] [] ?_
 refine NN (af.bM (S:=[pO S.O L]) [0,1,2,3,4,5,6,7,8,9,10,12,13,14,15,16,17,18,19,20,21,22,23,24,25,26,27,11,28,29,30,31,32,33,34,35,36,37,38,39,40,41,42,43,44,45] 27 [0] (by kernel_rfl) (by kernel_rfl) rfl (by kernel_rfl) ?_)
 refine gR 0 [11,28,29,30,31,32,33,34,35,36,37,38,39,40,41,42,43,44,45] (M0 cb S tk++[(35,.iface 132 (vP (L.b tk)))]++M4 S tk) [0,1,2,3,4,5,6,7,8,9,10,12,13,14,15,16,17,18,19,20,21,22,23,24,25,26,27] [(9,v_ 0 (qX L hkt)),(14,v_ 0 (tq L hkt)),(18,v_ 0 (yP L hkt)),(22,v_ 0 (yQ L hkt)),(26,p_ ⟨[.view 0 (.int .i64 ((obj S.O tk).sec)),.view 0 (.int .i64 ((obj S.O tk).nano))],none,none,none,none⟩ [(∀ F w,(ax (bI S.O L)).h F w->w.cell? ⟨(L.b tk),5,none⟩=some (vI ((obj S.O tk).nano))),(∀ F w,(ax (bI S.O L)).h F w->w.cell? ⟨(L.b tk),4,none⟩=some (vI ((obj S.O tk).sec)))] ⟨d8 (by rw [hkt];decide) (rfl),d8 (by rw [hkt];decide) (rfl),trivial⟩)] ?_
 refine mL [0] [] (nY (vP (L.b tk))) ?_ (by rintro _ _ ⟨rfl,rfl⟩;rfl)
 rintro _ _ ⟨rfl,rfl⟩
 refine aN.cut (ι:=Unit) (fr':=fun (_:Unit)=>([(26,vP cb)]++qY cb++[(34,vI ((obj S.O tk).id)),(36,vI 3),(40,vI ((obj S.O tk).mode))]++mz S tk++[(53,vP cb)])) (hp':=fun (_:Unit)=>[pO S.O L,HE cb c,.abs R]) [0] rfl rfl ?_ rfl (fun _=>by kernel_rfl) ?_
 ·refine gK 1 [(53,vP cb)] [] ?_
  refine NL ?_
  exact MD () [26,27,28,29,30,34,36,40,44,48,52,53] [0,1,2]
 rintro _
 refine aN.cut (ι:=Unit) (fr':=fun (_:Unit)=>([(26,vP cb)]++qY cb++[(34,vI ((obj S.O tk).id)),(36,vI 3),(40,vI ((obj S.O tk).mode))]++mz S tk++[(54,.pointer (some ⟨cb,12,none⟩))])) (hp':=fun (_:Unit)=>[pO S.O L,HE cb c,.abs R]) [0] rfl rfl ?_ rfl (fun _=>by kernel_rfl) ?_
 ·refine gK 1 [(54,.pointer (some ⟨cb,12,none⟩))] [] ?_
  refine NL ?_
  exact MD () [26,27,28,29,30,34,36,40,44,48,52,54] [0,1,2]
 rintro _
 refine mC [0] [] [(0,a_ 1 cb)] [(1,[(12,vI ((obj S.O tk).id))])] ?_
 refine aN.cut (ι:=Unit) (fr':=fun (_:Unit)=>(qY cb++[(36,vI 3),(40,vI ((obj S.O tk).mode))]++mz S tk++[(55,vP cb)])) (hp':=fun (_:Unit)=>[pO S.O L,HF cb c S tk,.abs R]) [0] rfl rfl ?_ rfl (fun _=>by kernel_rfl) ?_
 ·refine gK 1 [(55,vP cb)] [] ?_
  refine NL ?_
  exact MD () [27,28,29,30,36,40,44,48,52,55] [0,1,2]
 rintro _
 refine aN.cut (ι:=Unit) (fr':=fun (_:Unit)=>(qY cb++[(36,vI 3),(40,vI ((obj S.O tk).mode))]++mz S tk++[(56,.pointer (some ⟨cb,2,none⟩))])) (hp':=fun (_:Unit)=>[pO S.O L,HF cb c S tk,.abs R]) [0] rfl rfl ?_ rfl (fun _=>by kernel_rfl) ?_
 ·refine gK 1 [(56,.pointer (some ⟨cb,2,none⟩))] [] ?_
  refine NL ?_
  exact MD () [27,28,29,30,36,40,44,48,52,56] [0,1,2]
 rintro _
 refine mC [0] [] [(0,a_ 1 cb)] [(1,[(2,vI 3)])] ?_
 refine aN.cut (ι:=Unit) (fr':=fun (_:Unit)=>(CY cb S tk++mz S tk++[(57,vP cb)])) (hp':=fun (_:Unit)=>[pO S.O L,pC cb { c with other:=3,mode:=0,uid:=0,gid:=0,sec:=0,nano:=0,answer:=(obj S.O tk).id },.abs R]) [0] rfl rfl ?_ rfl (fun _=>by kernel_rfl) ?_
 ·refine gK 1 [(57,vP cb)] [] ?_
  refine NL ?_
  exact MD () [28,29,30,40,44,48,52,57] [0,1,2]
 rintro _
 refine aN.cut (ι:=Unit) (fr':=fun (_:Unit)=>(CY cb S tk++mz S tk++[(58,.pointer (some ⟨cb,6,none⟩))])) (hp':=fun (_:Unit)=>[pO S.O L,pC cb { c with other:=3,mode:=0,uid:=0,gid:=0,sec:=0,nano:=0,answer:=(obj S.O tk).id },.abs R]) [0] rfl rfl ?_ rfl (fun _=>by kernel_rfl) ?_
 ·refine gK 1 [(58,.pointer (some ⟨cb,6,none⟩))] [] ?_
  refine NL ?_
  exact MD () [28,29,30,40,44,48,52,58] [0,1,2]
 rintro _
 refine mC [0] [] [(0,a_ 1 cb)] [(1,[(6,vI ((obj S.O tk).mode))])] ?_
 refine aN.cut (ι:=Unit) (fr':=fun (_:Unit)=>([(29,vP cb),(30,vP cb)]++mz S tk++[(59,vP cb)])) (hp':=fun (_:Unit)=>[pO S.O L,pC cb { c with other:=3,mode:=(obj S.O tk).mode,uid:=0,gid:=0,sec:=0,nano:=0,answer:=(obj S.O tk).id },.abs R]) [0] rfl rfl ?_ rfl (fun _=>by kernel_rfl) ?_
 ·refine gK 1 [(59,vP cb)] [] ?_
  refine NL ?_
  exact MD () [29,30,44,48,52,59] [0,1,2]
 rintro _
 refine aN.cut (ι:=Unit) (fr':=fun (_:Unit)=>([(29,vP cb),(30,vP cb)]++mz S tk++[(60,.pointer (some ⟨cb,7,none⟩))])) (hp':=fun (_:Unit)=>[pO S.O L,pC cb { c with other:=3,mode:=(obj S.O tk).mode,uid:=0,gid:=0,sec:=0,nano:=0,answer:=(obj S.O tk).id },.abs R]) [0] rfl rfl ?_ rfl (fun _=>by kernel_rfl) ?_
 ·refine gK 1 [(60,.pointer (some ⟨cb,7,none⟩))] [] ?_
  refine NL ?_
  exact MD () [29,30,44,48,52,60] [0,1,2]
 rintro _
 refine mC [0] [] [(0,a_ 1 cb)] [(1,[(7,vI ((obj S.O tk).uid))])] ?_
 refine aN.cut (ι:=Unit) (fr':=fun (_:Unit)=>(CV cb S tk++[(61,vP cb)])) (hp':=fun (_:Unit)=>[pO S.O L,Tq cb c S tk,.abs R]) [0] rfl rfl ?_ rfl (fun _=>by kernel_rfl) ?_
 ·refine gK 1 [(61,vP cb)] [] ?_
  refine NL ?_
  exact MD () [30,48,52,61] [0,1,2]
 rintro _
 refine aN.cut (ι:=Unit) (fr':=fun (_:Unit)=>(CV cb S tk++[(62,.pointer (some ⟨cb,8,none⟩))])) (hp':=fun (_:Unit)=>[pO S.O L,Tq cb c S tk,.abs R]) [0] rfl rfl ?_ rfl (fun _=>by kernel_rfl) ?_
 ·refine gK 1 [(62,.pointer (some ⟨cb,8,none⟩))] [] ?_
  refine NL ?_
  exact MD () [30,48,52,62] [0,1,2]
 rintro _
 refine mC [0] [] [(0,a_ 1 cb)] [(1,[(8,vI ((obj S.O tk).gid))])] ?_
 refine aN.cut (ι:=Unit) (fr':=fun (_:Unit)=>[(52,.agg #[vI ((obj S.O tk).sec),vI ((obj S.O tk).nano)]),(63,vP cb)]) (hp':=fun (_:Unit)=>[pO S.O L,Tr cb c S tk,.abs R]) [0] rfl rfl ?_ rfl (fun _=>by kernel_rfl) ?_
 ·refine gK 1 [(63,vP cb)] [] ?_
  refine NL ?_
  exact MD () [52,63] [0,1,2]
 rintro _
 refine aN.cut (ι:=Unit) (fr':=fun (_:Unit)=>(M5 S tk cb)) (hp':=fun (_:Unit)=>[pO S.O L,Tr cb c S tk,.abs R]) [0] rfl rfl ?_ rfl (fun _=>by kernel_rfl) ?_
 ·refine gK 1 [(64,.pointer (some ⟨cb,9,none⟩))] [] ?_
  refine NL ?_
  exact MD () [52,64] [0,1,2]
 rintro _
 refine aN.last rfl rfl ?_
 refine gC 1 [] [(0,A_ 1 cb 2)] [(1,(M7 S tk))] ?_
 refine NL (ai.np ?_)
 exact RF (.tuple #[]) [0,1,2] (⟨rfl,rfl⟩)
theorem Ju {β:Bs} (S:aH) (L:HL) (f m t:Nat) (hI:Inv S) (cb:Nat) (c:aF) (hC:gh β c) :
    Spec Tryz.prog β 99 #[vP f,vP cb] ((pA f m t L S)++[pC cb c]) (fun v l=>∃ L2,v=vI (kg S c).1/\l=((pA f m t L2 ((kg S c).2.1))++[.blk cb (bN ((kg S c).2.2)) 48])):=by
 have hX:=hI.hX
 refine Spec.enter Tryz.func99 rfl Tryz.ntmps99 (Nat.le_of_ble_eq_true rfl) (fun R=>?_)
 refine af.seq ?_
 rcases hI.hand c.handle with dL|⟨tk,dL,hlv⟩|⟨tk,dL,hlv⟩
 ·refine af.region (gK 1 [] [] ?_)
  refine NN (af.seq (af.bF (by kernel_rfl) (by kernel_rfl) ?_))
  refine gQ 8 (CX t c) [(3,a_ 0 f),(7,a_ 6 cb)] ?_
  refine aP.call (f:=132) (args:=#[vP t,vI (c.handle)]) (d:=(some 16)) (pre:=[kx t S L]) (R:=(qZ f m t S L cb c R)) (pk:=[2,0,1,3,4,5,6,7]) (ji:=[1,2,0,3,4,5,6,7]) (v0:=.tuple #[.nilIface,vI 131]) (fun _=>by kernel_rfl) (qE t S.X.cH S.ay (aY L S.us) c.handle hC.hw (p4 dL)) rfl (by kernel_rfl) rfl (by kernel_rfl) (fun _ _ h=>h) ?_
  refine gQ 5 [(5,.nilIface),(6,vI 131)] [] ?_
  refine NQ (NX (SR ?_))
  refine gK 2 [(19,vP cb),(20,.nilIface)] [] ?_
  refine gL [3,6] (oe S L hI cb c none (.inl rfl)) ?_
  rintro _ _ ⟨rfl,rfl⟩
  refine NS (gK 2 [(4,vI 131)] [] ?_)
  refine NN (af.ret ?_)
  exact RT (vI 131) [2,3,4,0,5,6,1,7] (⟨L,by rw [show (kg S c)=(131,S,mq S.O c none) by unfold kg;rw [dL]]<;>exact⟨rfl,rfl⟩⟩)
 ·have hkt:(obj S.O tk).kind=1:=hI.kind hlv
  refine af.region (gK 1 [] [] ?_)
  refine NN (af.seq (af.bF (by kernel_rfl) (by kernel_rfl) ?_))
  refine gQ 8 (CX t c) [(3,a_ 0 f),(7,a_ 6 cb)] ?_
  refine aP.call (f:=132) (args:=#[vP t,vI (c.handle)]) (d:=(some 16)) (pre:=[kx t S L]) (R:=(qZ f m t S L cb c R)) (pk:=[2,0,1,3,4,5,6,7]) (ji:=[1,2,0,3,4,5,6,7]) (v0:=.tuple #[.iface 129 (vP (L.b tk)),vI 0]) (fun _=>by kernel_rfl) (lP t S.X.cH S.ay (aY L S.us) c.handle hC.hw (dQ L ⟨tk,1⟩) (kF dL)) rfl (by kernel_rfl) rfl (by kernel_rfl) (fun _ _ h=>h) ?_
  refine gQ 5 (Jr L tk) [] ?_
  refine NQ (NX (SR ?_))
  refine gK 2 [(19,vP cb),(20,.iface 129 (vP (L.b tk)))] [] ?_
  refine gL [3,6] (oe S L hI cb c (some ⟨tk,1⟩) (.inr (.inl ⟨tk,rfl,hlv⟩))) ?_
  rintro _ _ ⟨rfl,rfl⟩
  refine NS (gK 2 [(4,vI 0)] [] ?_)
  refine NN (af.ret ?_)
  exact RT (vI 0) [2,3,4,0,5,6,1,7] (⟨L,by rw [show (kg S c)=(0,S,mq S.O c (some ⟨tk,1⟩)) by unfold kg;rw [dL]]<;>exact⟨rfl,rfl⟩⟩)
 have hkt:(obj S.O tk).kind=2:=hI.kind hlv
 refine af.region (gK 1 [] [] ?_)
 refine NN (af.seq (af.bF (by kernel_rfl) (by kernel_rfl) ?_))
 refine gQ 8 (CX t c) [(3,a_ 0 f),(7,a_ 6 cb)] ?_
 refine aP.call (f:=132) (args:=#[vP t,vI (c.handle)]) (d:=(some 16)) (pre:=[kx t S L]) (R:=(qZ f m t S L cb c R)) (pk:=[2,0,1,3,4,5,6,7]) (ji:=[1,2,0,3,4,5,6,7]) (v0:=.tuple #[.iface 135 (vP (L.b tk)),vI 0]) (fun _=>by kernel_rfl) (lP t S.X.cH S.ay (aY L S.us) c.handle hC.hw (dQ L ⟨tk,2⟩) (kF dL)) rfl (by kernel_rfl) rfl (by kernel_rfl) (fun _ _ h=>h) ?_
 refine gQ 5 (Js L tk) [] ?_
 refine NQ (NX (SR ?_))
 refine gK 2 [(19,vP cb),(20,.iface 135 (vP (L.b tk)))] [] ?_
 refine gL [3,6] (oe S L hI cb c (some ⟨tk,2⟩) (.inr (.inr (.inl ⟨tk,rfl,hlv⟩)))) ?_
 rintro _ _ ⟨rfl,rfl⟩
 refine NS (gK 2 [(4,vI 0)] [] ?_)
 refine NN (af.ret ?_)
 exact RT (vI 0) [2,3,4,0,5,6,1,7] (⟨L,by rw [show (kg S c)=(0,S,mq S.O c (some ⟨tk,2⟩)) by unfold kg;rw [dL]]<;>exact⟨rfl,rfl⟩⟩)
theorem FJ {β:Bs} (S:aH) (L:HL) (f m t:Nat) (hI:Inv S) (cb:Nat) (c:aF) (hC:gh β c) :
    Spec Tryz.prog β 100 #[vP f,vP cb] ((pA f m t L S)++[pC cb c]) (fun v l=>∃ L2,v=vI (gn S c).1/\l=((pA f m t L2 ((gn S c).2.1))++[.blk cb (bN ((gn S c).2.2)) 48])):=by
 have hX:=hI.hX
 refine Spec.enter Tryz.func100 rfl Tryz.ntmps100 (Nat.le_of_ble_eq_true rfl) (fun R=>?_)
 refine SR (gK 1 [] [] ?_)
 refine NS (gK 2 [(8,vP f),(9,vP cb)] [] ?_)
 rcases Bu hI.toInv0 c with ⟨e,hnm,hne⟩|⟨tk,hnm,hlv⟩|⟨tk,hnm,hlv⟩|⟨tk,hnm,hlv⟩
 ·refine gL (f:=122) (args:=#[vP f,vP cb]) (pre:=((pA f m t L S)++[pC cb c])) [0,1,2,3,4,5,6] ((by have h:=iK S L f m t hI cb c hC (β:=β);rw [hnm] at h;exact h)) ?_
  rintro _ _ ⟨rfl,rfl⟩
  refine gK 5 [(5,.nilIface),(6,vI (e))] [] ?_
  refine NS (gK 2 [(13,vP cb),(14,.nilIface)] [] ?_)
  refine gL [3,6] (oe S L hI cb c none (.inl rfl)) ?_
  rintro _ _ ⟨rfl,rfl⟩
  refine NS (gK 2 [(4,vI (e))] [] ?_)
  refine NN (af.ret ?_)
  exact RT (vI (e)) [2,3,4,0,5,6,1,7] (⟨L,by rw [show (gn S c)=(e,S,mq S.O c none) by unfold gn;rw [hnm]]<;>exact⟨rfl,rfl⟩⟩)
 ·have hkt:(obj S.O tk).kind=1:=hI.kind hlv
  refine gL (f:=122) (args:=#[vP f,vP cb]) (pre:=((pA f m t L S)++[pC cb c])) [0,1,2,3,4,5,6] ((by have h:=iK S L f m t hI cb c hC (β:=β);rw [hnm] at h;exact h)) ?_
  rintro _ _ ⟨rfl,rfl⟩
  refine gK 5 (Jr L tk) [] ?_
  refine NS (gK 2 [(13,vP cb),(14,.iface 129 (vP (L.b tk)))] [] ?_)
  refine gL [3,6] (oe S L hI cb c (some ⟨tk,1⟩) (.inr (.inl ⟨tk,rfl,hlv⟩))) ?_
  rintro _ _ ⟨rfl,rfl⟩
  refine NS (gK 2 [(4,vI 0)] [] ?_)
  refine NN (af.ret ?_)
  exact RT (vI 0) [2,3,4,0,5,6,1,7] (⟨L,by rw [show (gn S c)=(0,S,mq S.O c (some ⟨tk,1⟩)) by unfold gn;rw [hnm]]<;>exact⟨rfl,rfl⟩⟩)
 ·have hkt:(obj S.O tk).kind=2:=hI.kind hlv
  refine gL (f:=122) (args:=#[vP f,vP cb]) (pre:=((pA f m t L S)++[pC cb c])) [0,1,2,3,4,5,6] ((by have h:=iK S L f m t hI cb c hC (β:=β);rw [hnm] at h;exact h)) ?_
  rintro _ _ ⟨rfl,rfl⟩
  refine gK 5 (Js L tk) [] ?_
  refine NS (gK 2 [(13,vP cb),(14,.iface 135 (vP (L.b tk)))] [] ?_)
  refine gL [3,6] (oe S L hI cb c (some ⟨tk,2⟩) (.inr (.inr (.inl ⟨tk,rfl,hlv⟩)))) ?_
  rintro _ _ ⟨rfl,rfl⟩
  refine NS (gK 2 [(4,vI 0)] [] ?_)
  refine NN (af.ret ?_)
  exact RT (vI 0) [2,3,4,0,5,6,1,7] (⟨L,by rw [show (gn S c)=(0,S,mq S.O c (some ⟨tk,2⟩)) by unfold gn;rw [hnm]]<;>exact⟨rfl,rfl⟩⟩)
 have hkt:(obj S.O tk).kind=3:=hI.kind hlv
 refine gL (f:=122) (args:=#[vP f,vP cb]) (pre:=((pA f m t L S)++[pC cb c])) [0,1,2,3,4,5,6] ((by have h:=iK S L f m t hI cb c hC (β:=β);rw [hnm] at h;exact h)) ?_
 rintro _ _ ⟨rfl,rfl⟩
 refine gK 5 [(5,.iface 132 (vP (L.b tk))),(6,vI 0)] [] ?_
 refine NS (gK 2 [(13,vP cb),(14,.iface 132 (vP (L.b tk)))] [] ?_)
 refine gL [3,6] (oe S L hI cb c (some ⟨tk,3⟩) (.inr (.inr (.inr ⟨tk,rfl,hlv⟩)))) ?_
 rintro _ _ ⟨rfl,rfl⟩
 refine NS (gK 2 [(4,vI 0)] [] ?_)
 refine NN (af.ret ?_)
 exact RT (vI 0) [2,3,4,0,5,6,1,7] (⟨L,by rw [show (gn S c)=(0,S,mq S.O c (some ⟨tk,3⟩)) by unfold gn;rw [hnm]]<;>exact⟨rfl,rfl⟩⟩)
theorem GI {β:Bs} (S:aH) (L:HL) (f m t:Nat) (hI:Inv S) (cb:Nat) (c:aF) (hC:gh β c) :
    Spec Tryz.prog β 101 #[vP f,vP cb] ((pA f m t L S)++[pC cb c]) (fun v l=>∃ L2,v=vI (je S c).1/\l=((pA f m t L2 ((je S c).2.1))++[.blk cb (bN ((je S c).2.2)) 48])):=by
 have hX:=hI.hX
 refine Spec.enter Tryz.func101 rfl Tryz.ntmps101 (Nat.le_of_ble_eq_true rfl) (fun R=>?_)
 refine af.seq ?_
 rcases hI.hand c.handle with dL|⟨tk,dL,hlv⟩|⟨tk,dL,hlv⟩
 ·refine af.region (gK 1 [] [] ?_)
  refine NN (af.seq (af.nk (S:=[pF f m t S.X,pC cb c]) [(true,0),(true,1),(true,2),(true,3),(true,4),(true,5),(true,6),(true,7),(false,8),(true,9),(true,10),(true,11),(true,12),(false,13)] [0,6] (by kernel_rfl) (by kernel_rfl) rfl (by kernel_rfl) ?_))
  refine gG [(false,8),(true,9),(true,10),(true,11),(true,12),(false,13)] ([(0,vP f)]++CX t c) [0,1,2,3,4,5,6,7] [(3,a_ 0 f),(7,a_ 1 cb)] ?_
  refine iE.cut (ι:=Unit) (fr':=fun (_:Unit)=>[(0,vP f),(16,.tuple #[.nilIface,vI 131])]) (hp':=fun (_:Unit)=>([kx t S L]++qZ f m t S L cb c R)) [1,6] (by kernel_rfl) ?_ rfl (fun _=>by kernel_rfl) ?_
  ·refine gL [2] (Gn t S.X.cH S.ay (aY L S.us) c.handle hC.hw (p4 dL)) ?_
   rintro _ _ ⟨rfl,rfl⟩
   refine NL ?_
   exact MD () [0,16] [0,1,2,3,4,5,6,7]
  rintro _
  refine gG [(false,13)] [(0,vP f),(5,.nilIface),(18,vI 131)] [9,10,11,12] [] ?_
  refine iE.last (by kernel_rfl) ?_
  refine gK 1 [(6,vI 131)] [] ?_
  refine NL (ai.np (NX (af.seq (SR ?_))))
  refine gK 2 [(20,.bool true)] [] ?_
  refine NN (CT (SR (gK 2 [(4,vI 131)] [] ?_)))
  refine NN (af.ret (ai.ak ?_))
  exact RT (vI 131) [1,2,0,3,4,5,6,7] (⟨L,by rw [show (je S c)=(131,S,c) by unfold je;rw [dL]]<;>exact⟨rfl,rfl⟩⟩)
 ·have hkt:(obj S.O tk).kind=1:=hI.kind hlv
  have hid:=hI.ob _ hlv
  have qb:=hI.Kq hlv
  have hdl:=hI.EW hlv
  have hop:0 < (obj S.O tk).opens/\(obj S.O tk).opens<=1024:=⟨by have h1:=hI.opens _ hlv;have h2:=Hg dL;simp only at h1 h2;omega,(hI.Dr hlv).2⟩
  refine af.region (gK 1 [] [] ?_)
  refine NN (af.seq (af.nk (S:=[pF f m t S.X,pC cb c]) [(true,0),(true,1),(true,2),(true,3),(true,4),(true,5),(true,6),(true,7),(false,8),(true,9),(true,10),(true,11),(true,12),(false,13)] [0,6] (by kernel_rfl) (by kernel_rfl) rfl (by kernel_rfl) ?_))
  refine gG [(false,8),(true,9),(true,10),(true,11),(true,12),(false,13)] ([(0,vP f)]++CX t c) [0,1,2,3,4,5,6,7] [(3,a_ 0 f),(7,a_ 1 cb)] ?_
  refine iE.cut (ι:=Unit) (fr':=fun (_:Unit)=>[(0,vP f),(16,.tuple #[.iface 129 (vP (L.b tk)),vI 0])]) (hp':=fun (_:Unit)=>([pT t S.X.cH S.ay L (del c.handle S.us)]++qZ f m t S L cb c R)) [1,6] (by kernel_rfl) ?_ rfl (fun _=>by kernel_rfl) ?_
  ·refine gL (f:=135) (args:=#[vP t,vI (c.handle)]) (pre:=[kx t S L]) [2] ((by have h:=Dp (β:=β) t S.X.cH S.ay (aY L S.us) c.handle hC.hw (dQ L ⟨tk,1⟩) (kF dL);rw [← E5] at h;exact h)) ?_
   rintro _ _ ⟨rfl,rfl⟩
   refine NL ?_
   exact MD () [0,16] [0,1,2,3,4,5,6,7]
  rintro _
  refine gG [(false,13)] [(0,vP f),(5,.iface 129 (vP (L.b tk))),(18,vI 0)] [9,10,11,12] [] ?_
  refine iE.last (by kernel_rfl) ?_
  refine gK 1 [(6,vI 0)] [] ?_
  refine NL (ai.np (NX (af.seq (SR ?_))))
  refine gK 2 [(20,.bool false)] [] ?_
  refine NN (CF (af.skip (NX (SR (gK 1 [(22,.iface 129 (vP (L.b tk)))] [] ?_)))))
  refine gL [] (dg (L.b tk)) ?_
  rintro _ _ ⟨rfl,rfl⟩
  refine gK 6 [(27,vI ((obj S.O tk).opens - 1)),(29,.pointer (some ⟨(L.b tk),7,none⟩))] [(2,v_ 3 (j3 L hkt)),(3,p_ ⟨[],none,none,none,some (vI ((obj S.O tk).opens - 1))⟩ [(Value.int .i64 (IntKind.wrap .i64 ((obj S.O tk).opens - 1)))=(.int .i64 ((obj S.O tk).opens - 1))] ⟨bn (by omega) (by omega) (by omega),trivial⟩)] ?_
  refine tu 3 [(5,1),(4,2)] tk 7 (fun o=>{ o with opens:=o.opens - 1 }) hkt (fun cI cq=>?_)
  have jY:=ku cq hkt
  have hf2:(obj cI tk).id=(obj S.O tk).id:=fu aR.id cq rfl
  have hf3:(obj cI tk).data=(obj S.O tk).data:=fu aR.data cq rfl
  refine NS ?_
  have M8:(obj cI tk).opens=(obj S.O tk).opens - 1:=by rw [cq];exact congrArg aR.opens bL
  refine gK 2 [(30,vP f),(31,.iface 129 (vP (L.b tk)))] [] ?_
  refine gL [3,1,2] (qP S.X f m t hX cI L S.idx hI.rise ⟨tk,1⟩ jY (by simp) (by rw [M8];omega) (fun _=>by rw [hf2,hid.1];exact hlv) (by rw [hf2];exact qb) (by rw [hf3];exact hdl)) ?_
  rintro _ _ ⟨rfl,rfl⟩
  refine NS (gK 1 [(4,vI 0)] [] ?_)
  refine NN (af.ret ?_)
  exact RT (l:=[pF f m t { S.X with used:=j9 cI S.X.used ⟨tk,1⟩ },pI m L (iA cI S.idx ⟨tk,1⟩),pT t S.X.cH S.ay L (del c.handle S.us),pO cI L,pD cI L,pE cI L,pC cb c]) (.int .i64 0) [1,2,3,0,4,5,6,7] (⟨L,by subst cq;rw [show je S c=(0,_,c) by unfold je;rw [dL]];exact⟨rfl,rfl⟩⟩)
 have hkt:(obj S.O tk).kind=2:=hI.kind hlv
 have hid:=hI.ob _ hlv
 have qb:=hI.Kq hlv
 have hdl:=hI.EW hlv
 have hop:0 < (obj S.O tk).opens/\(obj S.O tk).opens<=1024:=⟨by have h1:=hI.opens _ hlv;have h2:=Hg dL;simp only at h1 h2;omega,(hI.Dr hlv).2⟩
 refine af.region (gK 1 [] [] ?_)
 refine NN (af.seq (af.nk (S:=[pF f m t S.X,pC cb c]) [(true,0),(true,1),(true,2),(true,3),(true,4),(true,5),(true,6),(true,7),(false,8),(true,9),(true,10),(true,11),(true,12),(false,13)] [0,6] (by kernel_rfl) (by kernel_rfl) rfl (by kernel_rfl) ?_))
 refine gG [(false,8),(true,9),(true,10),(true,11),(true,12),(false,13)] ([(0,vP f)]++CX t c) [0,1,2,3,4,5,6,7] [(3,a_ 0 f),(7,a_ 1 cb)] ?_
 refine iE.cut (ι:=Unit) (fr':=fun (_:Unit)=>[(0,vP f),(16,.tuple #[.iface 135 (vP (L.b tk)),vI 0])]) (hp':=fun (_:Unit)=>([pT t S.X.cH S.ay L (del c.handle S.us)]++qZ f m t S L cb c R)) [1,6] (by kernel_rfl) ?_ rfl (fun _=>by kernel_rfl) ?_
 ·refine gL (f:=135) (args:=#[vP t,vI (c.handle)]) (pre:=[kx t S L]) [2] ((by have h:=Dp (β:=β) t S.X.cH S.ay (aY L S.us) c.handle hC.hw (dQ L ⟨tk,2⟩) (kF dL);rw [← E5] at h;exact h)) ?_
  rintro _ _ ⟨rfl,rfl⟩
  refine NL ?_
  exact MD () [0,16] [0,1,2,3,4,5,6,7]
 rintro _
 refine gG [(false,13)] [(0,vP f),(5,.iface 135 (vP (L.b tk))),(18,vI 0)] [9,10,11,12] [] ?_
 refine iE.last (by kernel_rfl) ?_
 refine gK 1 [(6,vI 0)] [] ?_
 refine NL (ai.np (NX (af.seq (SR ?_))))
 refine gK 2 [(20,.bool false)] [] ?_
 refine NN (CF (af.skip (NX (SR (gK 1 [(22,.iface 135 (vP (L.b tk)))] [] ?_)))))
 refine gL [] (dg (L.b tk)) ?_
 rintro _ _ ⟨rfl,rfl⟩
 refine gK 6 [(27,vI ((obj S.O tk).opens - 1)),(29,.pointer (some ⟨(L.b tk),7,none⟩))] [(2,v_ 3 (j3 L hkt)),(3,p_ ⟨[],none,none,none,some (vI ((obj S.O tk).opens - 1))⟩ [(Value.int .i64 (IntKind.wrap .i64 ((obj S.O tk).opens - 1)))=(.int .i64 ((obj S.O tk).opens - 1))] ⟨bn (by omega) (by omega) (by omega),trivial⟩)] ?_
 refine tu 3 [(5,1),(4,2)] tk 7 (fun o=>{ o with opens:=o.opens - 1 }) hkt (fun cI cq=>?_)
 have x3:=ku cq hkt
 have K1:(obj cI tk).id=(obj S.O tk).id:=fu aR.id cq rfl
 have QY:(obj cI tk).data=(obj S.O tk).data:=fu aR.data cq rfl
 refine NS ?_
 have M8:(obj cI tk).opens=(obj S.O tk).opens - 1:=by rw [cq];exact congrArg aR.opens bL
 refine gK 2 [(30,vP f),(31,.iface 135 (vP (L.b tk)))] [] ?_
 refine gL [3,1,2] (qP S.X f m t hX cI L S.idx hI.rise ⟨tk,2⟩ x3 (by simp) (by rw [M8];omega) (fun _=>by rw [K1,hid.1];exact hlv) (by rw [K1];exact qb) (by rw [QY];exact hdl)) ?_
 rintro _ _ ⟨rfl,rfl⟩
 refine NS (gK 1 [(4,vI 0)] [] ?_)
 refine NN (af.ret ?_)
 exact RT (l:=[pF f m t { S.X with used:=j9 cI S.X.used ⟨tk,2⟩ },pI m L (iA cI S.idx ⟨tk,2⟩),pT t S.X.cH S.ay L (del c.handle S.us),pO cI L,pD cI L,pE cI L,pC cb c]) (.int .i64 0) [1,2,3,0,4,5,6,7] (⟨L,by subst cq;rw [show je S c=(0,_,c) by unfold je;rw [dL]];exact⟨rfl,rfl⟩⟩)
end
section
open Go.RowKit Go.Maps bD aE
attribute [local irreducible] aj aP af ai
abbrev Vx (S:aH) (L:HL) (tk:Nat):=(.abs (ax (kD (bI S.O L) tk cr.none)):HP)
abbrev OB (L:HL) (tk:Nat) (S:aH) (c:aF):=(.blk (L.b tk) [vI ((obj S.O tk).id),vI (c.mode),vI ((obj S.O tk).uid),vI ((obj S.O tk).gid),vI ((obj S.O tk).sec),vI ((obj S.O tk).nano),vI ((obj S.O tk).links),vI ((obj S.O tk).opens),.bool (obj S.O tk).gone,.slice (L.dA tk) ((obj S.O tk).data.length) ((L.dC tk))] 131:HP)
abbrev OC (L:HL) (tk:Nat) (S:aH) (c:aF):=(.blk (L.b tk) [vI ((obj S.O tk).id),vI (c.mode),vI (c.uid),vI ((obj S.O tk).gid),vI ((obj S.O tk).sec),vI ((obj S.O tk).nano),vI ((obj S.O tk).links),vI ((obj S.O tk).opens),.bool (obj S.O tk).gone,.slice (L.dA tk) ((obj S.O tk).data.length) ((L.dC tk))] 131:HP)
abbrev OD (L:HL) (tk:Nat) (S:aH) (c:aF):=(.blk (L.b tk) [vI ((obj S.O tk).id),vI (c.mode),vI (c.uid),vI (c.gid),vI ((obj S.O tk).sec),vI ((obj S.O tk).nano),vI ((obj S.O tk).links),vI ((obj S.O tk).opens),.bool (obj S.O tk).gone,.slice (L.dA tk) ((obj S.O tk).data.length) ((L.dC tk))] 131:HP)
abbrev Ts (L:HL) (tk:Nat) (S:aH) (c:aF):=(.blk (L.b tk) [vI ((obj S.O tk).id),vI (c.mode),vI ((obj S.O tk).uid),vI ((obj S.O tk).gid),vI ((obj S.O tk).sec),vI ((obj S.O tk).nano),vI ((obj S.O tk).links),vI ((obj S.O tk).opens),.bool (obj S.O tk).gone,.map (some (L.m tk)),(uL L (obj S.O tk).up)] 138:HP)
abbrev Tt (L:HL) (tk:Nat) (S:aH) (c:aF):=(.blk (L.b tk) [vI ((obj S.O tk).id),vI (c.mode),vI (c.uid),vI ((obj S.O tk).gid),vI ((obj S.O tk).sec),vI ((obj S.O tk).nano),vI ((obj S.O tk).links),vI ((obj S.O tk).opens),.bool (obj S.O tk).gone,.map (some (L.m tk)),(uL L (obj S.O tk).up)] 138:HP)
abbrev Tv (L:HL) (tk:Nat) (S:aH) (c:aF):=(.blk (L.b tk) [vI ((obj S.O tk).id),vI (c.mode),vI (c.uid),vI (c.gid),vI ((obj S.O tk).sec),vI ((obj S.O tk).nano),vI ((obj S.O tk).links),vI ((obj S.O tk).opens),.bool (obj S.O tk).gone,.map (some (L.m tk)),(uL L (obj S.O tk).up)] 138:HP)
abbrev Tw (S:aH) (c:aF) (L2:HL):=(pO (aD S.O (aO S.X) (fun _=>(⟨0,c.mode,0,0,0,0,0,0,false,1,[],⟨#[]⟩,[],none⟩:aR))) L2:HP)
abbrev pK (f:Nat) (m:Nat) (t) (S:aH) (L:HL) (tk:Nat) (cb:Nat) (c) (R:cr):=([pF f m t S.X,pI m L S.idx,kx t S L,Vx S L tk,pD S.O L,pE S.O L,pC cb c,.abs R]:List HP)
abbrev M9 (L:HL) (tk:Nat) (c:aF):=([(65,vP (L.b tk)),(66,vP (L.b tk)),(67,vP (L.b tk)),(71,vI (c.mode)),(75,vI (c.uid)),(79,vI (c.gid)),(83,.agg #[vI (c.sec),vI (c.nano)]),(85,.pointer (some ⟨(L.b tk),1,none⟩))]:Fr)
abbrev q4 (c:aF):=([(79,vI (c.gid)),(83,.agg #[vI (c.sec),vI (c.nano)])]:Fr)
abbrev CZ (L:HL) (tk:Nat) (c:aF):=([(66,vP (L.b tk)),(67,vP (L.b tk)),(75,vI (c.uid))]:Fr)
abbrev Na (c:aF) (L:HL) (tk:Nat):=([(83,.agg #[vI (c.sec),vI (c.nano)]),(91,.pointer (some ⟨(L.b tk),4,none⟩))]:Fr)
abbrev Nb (t)(c:aF):=([(12,vP t),(16,vI (c.handle))]:Fr)
abbrev Rb (cb:Nat) (f:Nat) (b4:Nat):=([(49,vP cb),(50,vP f),(52,.iface 129 (vP b4))]:Fr)
theorem D3 {β:Bs} (S:aH) (L:HL) (f m t:Nat) (hI:Inv S) (cb:Nat) (c:aF) (hC:gh β c) :
    Spec Tryz.prog β 98 #[vP f,vP cb] ((pA f m t L S)++[pC cb c]) (fun v l=>∃ L2,v=vI (bH S c).1/\l=((pA f m t L2 ((bH S c).2.1))++[.blk cb (bN ((bH S c).2.2)) 48])):=by
 have hX:=hI.hX
 refine Spec.enter Tryz.func98 rfl Tryz.ntmps98 (Nat.le_of_ble_eq_true rfl) (fun R=>?_)
 refine af.seq ?_
 rcases hI.hand c.handle with dL|⟨tk,dL,hlv⟩|⟨tk,dL,hlv⟩
 ·refine af.region (gK 1 [] [] ?_)
  refine NN (af.seq (af.bF (by kernel_rfl) (by kernel_rfl) ?_))
  refine gQ 8 (Nb t c) [(3,a_ 0 f),(7,a_ 6 cb)] ?_
  refine aP.call (f:=132) (args:=#[vP t,vI (c.handle)]) (d:=(some 17)) (pre:=[kx t S L]) (R:=(qZ f m t S L cb c R)) (pk:=[2,0,1,3,4,5,6,7]) (ji:=[1,2,0,3,4,5,6,7]) (v0:=.tuple #[.nilIface,vI 131]) (fun _=>by kernel_rfl) (qE t S.X.cH S.ay (aY L S.us) c.handle hC.hw (p4 dL)) rfl (by kernel_rfl) rfl (by kernel_rfl) (fun _ _ h=>h) ?_
  refine gQ 5 [(5,.nilIface),(6,vI 131)] [] ?_
  refine NQ (NX (af.seq (SR ?_)))
  refine gK 2 [(21,.bool true)] [] ?_
  refine NN (CT (SR (gK 2 [(4,vI 131)] [] ?_)))
  refine NN (af.ret (ai.ak ?_))
  exact RT (vI 131) [0,1,2,3,4,5,6,7] (⟨L,by rw [show (bH S c)=(131,S,c) by unfold bH;rw [dL]]<;>exact⟨rfl,rfl⟩⟩)
 ·have hkt:(obj S.O tk).kind=1:=hI.kind hlv
  refine af.region (gK 1 [] [] ?_)
  refine NN (af.seq (af.bF (by kernel_rfl) (by kernel_rfl) ?_))
  refine gQ 8 (Nb t c) [(3,a_ 0 f),(7,a_ 6 cb)] ?_
  refine aP.call (f:=132) (args:=#[vP t,vI (c.handle)]) (d:=(some 17)) (pre:=[kx t S L]) (R:=(qZ f m t S L cb c R)) (pk:=[2,0,1,3,4,5,6,7]) (ji:=[1,2,0,3,4,5,6,7]) (v0:=.tuple #[.iface 129 (vP (L.b tk)),vI 0]) (fun _=>by kernel_rfl) (lP t S.X.cH S.ay (aY L S.us) c.handle hC.hw (dQ L ⟨tk,1⟩) (kF dL)) rfl (by kernel_rfl) rfl (by kernel_rfl) (fun _ _ h=>h) ?_
  refine gQ 5 (Jr L tk) [] ?_
  refine NQ (NX (af.seq (SR ?_)))
  refine gK 2 [(21,.bool false)] [] ?_
  refine NN (CF (af.skip (NX (SR (gK 1 [(23,.iface 129 (vP (L.b tk)))] [] ?_)))))
  refine gL [] (dg (L.b tk)) ?_
  rintro _ _ ⟨rfl,rfl⟩
  refine gK 1 [(7,vP (L.b tk))] [] ?_
  refine NN (af.seq (af.block (SR ?_)))
  refine gK 5 [(30,.bool (obj S.O tk).gone)] [(3,v_ 3 (nK L hkt))] ?_
  refine aj.nN 30 (obj S.O tk).gone (fun _=>by kernel_rfl) (fun mM=>?_) (fun mM=>?_)
  ·refine gK 1 [(31,.iface 129 (vP (L.b tk)))] [] ?_
   refine gL [] (mI (vP (L.b tk))) ?_
   rintro _ _ ⟨rfl,rfl⟩
   refine gK 3 [(25,.bool false)] [] ?_
   refine NN (CF (SR (gK 4 [(39,vI (c.mode))] [(3,a_ 6 cb)] ?_)))
   refine gL [] (fR (c.mode) 4095) ?_
   rintro _ _ ⟨rfl,rfl⟩
   refine gK 2 [(35,.bool (!(decide (0<=c.mode/\c.mode<=4095))))] [] ?_
   refine NN (af.cX (p:=0<=c.mode/\c.mode<=4095) (fun _=>by kernel_rfl) (fun jU=>?_) (fun jU=>?_))
   ·refine SR (gK 1 [(4,vI 120)] [] ?_)
    refine NN (af.ret (ai.aG (ai.ak ?_)))
    exact RT (vI 120) [0,1,2,3,4,5,6,7] (⟨L,by rw [show (bH S c)=(120,S,c) by unfold bH;rw [dL];exact (if_neg (fun h=>absurd h.2 (by simp))).trans (if_neg jU)]<;>exact⟨rfl,rfl⟩⟩)
   refine SR (gK 4 [(46,vI (c.uid))] [(3,a_ 6 cb)] ?_)
   refine gL [] (fR (c.uid) 2147483647) ?_
   rintro _ _ ⟨rfl,rfl⟩
   refine gK 2 [(49,.bool (!(decide (0<=c.uid/\c.uid<=2147483647))))] [] ?_
   refine aj.iO 49 (0<=c.uid/\c.uid<=2147483647) (fun _=>by kernel_rfl) (fun rA=>?_) (fun rA=>?_)
   ·refine gK 8 [(42,.bool true)] [] ?_
    refine NN (CT (SR (gK 1 [(4,vI 11)] [] ?_)))
    refine NN (af.ret (ai.aG (ai.ak ?_)))
    exact RT (vI 11) [0,1,2,3,4,5,6,7] (⟨L,by rw [show (bH S c)=(11,S,c) by unfold bH;rw [dL];exact (if_neg (fun h=>absurd h.2 (by simp))).trans ((if_pos jU).trans (if_neg (fun h=>rA h.1)))]<;>exact⟨rfl,rfl⟩⟩)
   refine gK 4 [(53,vI (c.gid))] [(3,a_ 6 cb)] ?_
   refine gL [] (fR (c.gid) 2147483647) ?_
   rintro _ _ ⟨rfl,rfl⟩
   refine gK 3 [(42,.bool (!(decide (0<=c.gid/\c.gid<=2147483647))))] [] ?_
   refine NN (af.cX (p:=0<=c.gid/\c.gid<=2147483647) (fun _=>by kernel_rfl) (fun ud=>?_) (fun ud=>?_))
   ·refine SR (gK 1 [(4,vI 11)] [] ?_)
    refine NN (af.ret (ai.aG (ai.ak ?_)))
    exact RT (vI 11) [0,1,2,3,4,5,6,7] (⟨L,by rw [show (bH S c)=(11,S,c) by unfold bH;rw [dL];exact (if_neg (fun h=>absurd h.2 (by simp))).trans ((if_pos jU).trans (if_neg (fun h=>ud h.2)))]<;>exact⟨rfl,rfl⟩⟩)
   refine SR (gK 4 [(61,.agg #[vI (c.sec),vI (c.nano)])] [(3,A_ 6 cb 2)] ?_)
   refine gL [] (iH c.sec c.nano) ?_
   rintro _ _ ⟨rfl,rfl⟩
   refine gK 2 [(57,.bool (!(decide (dU c.sec c.nano))))] [] ?_
   refine NN (af.cX (p:=dU c.sec c.nano) (fun _=>by kernel_rfl) (fun vg=>?_) (fun vg=>?_))
   ·refine SR (gK 1 [(4,vI 20)] [] ?_)
    refine NN (af.ret (ai.aG (ai.ak ?_)))
    exact RT (vI 20) [0,1,2,3,4,5,6,7] (⟨L,by rw [show (bH S c)=(20,S,c) by unfold bH;rw [dL];exact (if_neg (fun h=>absurd h.2 (by simp))).trans ((if_pos jU).trans ((if_pos ⟨rA,ud⟩).trans (if_neg vg)))]<;>exact⟨rfl,rfl⟩⟩)
   refine af.skip (ai.aJ (NX (af.seq ?_)))
   skip
   refine af.mem (fun w hS=>hS.xC (i:=3) (k:=tk) rfl (by rw [hkt];decide) (ia (hkt)) (congrArg kE (hkt))) ?_
   refine af.bM (S:=[pC cb c]) [0,1,2,3,4,5,6,7,8,9,10,11,12,13,14,15,16,17,18,19,20,21,22,23,24,25,26,27,28,29,30,31] 22 [6] (by kernel_rfl) (by kernel_rfl) rfl (by kernel_rfl) ?_
   refine gR 0 [22,23,24,25,26,27,28,29,30,31] (M9 L tk c) [0,1,2,3,4,5,6,7,8,9,10,11,12,13,14,15,16,17,18,19,20,21] [(7,a_ 0 cb),(11,a_ 0 cb),(15,a_ 0 cb),(19,A_ 0 cb 2)] ?_
   refine mC [6] [] [(0,a_ 8 (L.b tk))] [(8,[(1,vI (c.mode))])] ?_
   refine aN.cut (ι:=Unit) (fr':=fun (_:Unit)=>(CZ L tk c++q4 c++[(86,vP (L.b tk))])) (hp':=fun (_:Unit)=>(pK f m t S L tk cb c R++[OB L tk S c])) [6] rfl rfl ?_ rfl (fun _=>by kernel_rfl) ?_
   ·refine gK 1 [(86,vP (L.b tk))] [] ?_
    refine NL ?_
    exact MD () [66,67,75,79,83,86] [0,1,2,3,4,5,6,7,8]
   rintro _
   refine aN.cut (ι:=Unit) (fr':=fun (_:Unit)=>(CZ L tk c++q4 c++[(87,.pointer (some ⟨(L.b tk),2,none⟩))])) (hp':=fun (_:Unit)=>(pK f m t S L tk cb c R++[OB L tk S c])) [6] rfl rfl ?_ rfl (fun _=>by kernel_rfl) ?_
   ·refine gK 1 [(87,.pointer (some ⟨(L.b tk),2,none⟩))] [] ?_
    refine NL ?_
    exact MD () [66,67,75,79,83,87] [0,1,2,3,4,5,6,7,8]
   rintro _
   refine mC [6] [] [(0,a_ 8 (L.b tk))] [(8,[(2,vI (c.uid))])] ?_
   refine aN.cut (ι:=Unit) (fr':=fun (_:Unit)=>([(67,vP (L.b tk))]++q4 c++[(88,vP (L.b tk))])) (hp':=fun (_:Unit)=>(pK f m t S L tk cb c R++[OC L tk S c])) [6] rfl rfl ?_ rfl (fun _=>by kernel_rfl) ?_
   ·refine gK 1 [(88,vP (L.b tk))] [] ?_
    refine NL ?_
    exact MD () [67,79,83,88] [0,1,2,3,4,5,6,7,8]
   rintro _
   refine aN.cut (ι:=Unit) (fr':=fun (_:Unit)=>([(67,vP (L.b tk))]++q4 c++[(89,.pointer (some ⟨(L.b tk),3,none⟩))])) (hp':=fun (_:Unit)=>(pK f m t S L tk cb c R++[OC L tk S c])) [6] rfl rfl ?_ rfl (fun _=>by kernel_rfl) ?_
   ·refine gK 1 [(89,.pointer (some ⟨(L.b tk),3,none⟩))] [] ?_
    refine NL ?_
    exact MD () [67,79,83,89] [0,1,2,3,4,5,6,7,8]
   rintro _
   refine mC [6] [] [(0,a_ 8 (L.b tk))] [(8,[(3,vI (c.gid))])] ?_
   refine aN.cut (ι:=Unit) (fr':=fun (_:Unit)=>[(83,.agg #[vI (c.sec),vI (c.nano)]),(90,vP (L.b tk))]) (hp':=fun (_:Unit)=>(pK f m t S L tk cb c R++[OD L tk S c])) [6] rfl rfl ?_ rfl (fun _=>by kernel_rfl) ?_
   ·refine gK 1 [(90,vP (L.b tk))] [] ?_
    refine NL ?_
    exact MD () [83,90] [0,1,2,3,4,5,6,7,8]
   rintro _
   refine aN.cut (ι:=Unit) (fr':=fun (_:Unit)=>(Na c L tk)) (hp':=fun (_:Unit)=>(pK f m t S L tk cb c R++[OD L tk S c])) [6] rfl rfl ?_ rfl (fun _=>by kernel_rfl) ?_
   ·refine gK 1 [(91,.pointer (some ⟨(L.b tk),4,none⟩))] [] ?_
    refine NL ?_
    exact MD () [83,91] [0,1,2,3,4,5,6,7,8]
   rintro _
   refine aN.last rfl rfl ?_
   refine gC 1 [] [(0,A_ 8 (L.b tk) 2)] [(8,[(4,vI (c.sec)),(5,vI (c.nano))])] ?_
   refine NL (ai.np (NX (SR ?_)))
   refine aj.mem (cR:=[.abs (ax (bI (aD S.O tk (fun o=>{ o with mode:=c.mode,uid:=c.uid,gid:=c.gid,sec:=c.sec,nano:=c.nano })) L)),.blk f [vI (S.X.cN),vI (S.X.cB),vI (S.X.cH),vI (S.X.cS),vI (S.X.cZ),.map (some m),vP t,vI (S.X.last),vI (S.X.ah),vI (S.X.used)] 126,.abs (aL Tryz.prog 3 m (aX (aY L S.idx)) S.idx.length),.abs (cV 197 t S.X.cH S.ay (aY L S.us)),.abs (ax (bJ (aD S.O tk (fun o=>{ o with mode:=c.mode,uid:=c.uid,gid:=c.gid,sec:=c.sec,nano:=c.nano })) L)),.abs (ax (cK (aD S.O tk (fun o=>{ o with mode:=c.mode,uid:=c.uid,gid:=c.gid,sec:=c.sec,nano:=c.nano })) L)),.blk cb [vI (c.op),vI (c.handle),vI (c.other),.string c.name,.string c.text,.slice c.dA (c.data.length) (c.dC),vI (c.mode),vI (c.uid),vI (c.gid),vI (c.sec),vI (c.nano),vI (c.code),vI (c.answer)] 48,.abs R]) (fun w hS=>by have h:=hS.yH (O:=S.O) (L:=L) (i:=3) (j:=8) (idx:=[0,1,2,4,5,6,7]) (k:=tk) (f:=(fun o=>{ o with mode:=c.mode,uid:=c.uid,gid:=c.gid,sec:=c.sec,nano:=c.nano })) rfl (fun _ hx=>oz hx) rfl (by kernel_rfl) rfl (by show (obj S.O tk).kind≠0;rw [hkt];decide) ((ia (o:=(fun o=>{ o with mode:=c.mode,uid:=c.uid,gid:=c.gid,sec:=c.sec,nano:=c.nano }) (obj S.O tk)) (hkt)).trans rfl) (by show kE (obj S.O tk).kind=_;rw [hkt]<;>rfl);rw [mV (O:=S.O) (k:=tk) (f:=(fun o=>{ o with mode:=c.mode,uid:=c.uid,gid:=c.gid,sec:=c.sec,nano:=c.nano })) rfl rfl,mW (O:=S.O) (k:=tk) (f:=(fun o=>{ o with mode:=c.mode,uid:=c.uid,gid:=c.gid,sec:=c.sec,nano:=c.nano })) rfl rfl];exact h) ?_
   have jY:(obj (aD S.O tk (fun o=>{ o with mode:=c.mode,uid:=c.uid,gid:=c.gid,sec:=c.sec,nano:=c.nano })) tk).kind=1:=(jO (f:=(fun o=>{ o with mode:=c.mode,uid:=c.uid,gid:=c.gid,sec:=c.sec,nano:=c.nano })) (fun _=>rfl)).trans (hkt)
   generalize cq:(aD S.O tk (fun o=>{ o with mode:=c.mode,uid:=c.uid,gid:=c.gid,sec:=c.sec,nano:=c.nano }))=cI at jY ⊢
   refine gK 1 [(4,vI 0)] [] ?_
   refine NN (af.ret ?_)
   exact RT (l:=[pF f m t S.X,pI m L S.idx,kx t S L,pO cI L,pD cI L,pE cI L,pC cb c]) (.int .i64 0) [1,2,3,0,4,5,6,7] (⟨L,by subst cq;rw [show (bH S c)=(0,{ S with O:=aD S.O tk (fun o=>{ o with mode:=c.mode,uid:=c.uid,gid:=c.gid,sec:=c.sec,nano:=c.nano }) },c) by unfold bH;rw [dL];exact (if_neg (fun h=>absurd h.2 (by simp))).trans ((if_pos jU).trans ((if_pos ⟨rA,ud⟩).trans (if_pos vg)))]<;>exact⟨rfl,rfl⟩⟩)
  refine gK 5 [(25,.bool false)] [] ?_
  refine NN (CF (SR (gK 4 [(39,vI (c.mode))] [(3,a_ 6 cb)] ?_)))
  refine gL [] (fR (c.mode) 4095) ?_
  rintro _ _ ⟨rfl,rfl⟩
  refine gK 2 [(35,.bool (!(decide (0<=c.mode/\c.mode<=4095))))] [] ?_
  refine NN (af.cX (p:=0<=c.mode/\c.mode<=4095) (fun _=>by kernel_rfl) (fun jU=>?_) (fun jU=>?_))
  ·refine SR (gK 1 [(4,vI 120)] [] ?_)
   refine NN (af.ret (ai.aG (ai.ak ?_)))
   exact RT (vI 120) [0,1,2,3,4,5,6,7] (⟨L,by rw [show (bH S c)=(120,S,c) by unfold bH;rw [dL];exact (if_neg (fun h=>absurd h.2 (by simp))).trans (if_neg jU)]<;>exact⟨rfl,rfl⟩⟩)
  refine SR (gK 4 [(46,vI (c.uid))] [(3,a_ 6 cb)] ?_)
  refine gL [] (fR (c.uid) 2147483647) ?_
  rintro _ _ ⟨rfl,rfl⟩
  refine gK 2 [(49,.bool (!(decide (0<=c.uid/\c.uid<=2147483647))))] [] ?_
  refine aj.iO 49 (0<=c.uid/\c.uid<=2147483647) (fun _=>by kernel_rfl) (fun rA=>?_) (fun rA=>?_)
  ·refine gK 8 [(42,.bool true)] [] ?_
   refine NN (CT (SR (gK 1 [(4,vI 11)] [] ?_)))
   refine NN (af.ret (ai.aG (ai.ak ?_)))
   exact RT (vI 11) [0,1,2,3,4,5,6,7] (⟨L,by rw [show (bH S c)=(11,S,c) by unfold bH;rw [dL];exact (if_neg (fun h=>absurd h.2 (by simp))).trans ((if_pos jU).trans (if_neg (fun h=>rA h.1)))]<;>exact⟨rfl,rfl⟩⟩)
  refine gK 4 [(53,vI (c.gid))] [(3,a_ 6 cb)] ?_
  refine gL [] (fR (c.gid) 2147483647) ?_
  rintro _ _ ⟨rfl,rfl⟩
  refine gK 3 [(42,.bool (!(decide (0<=c.gid/\c.gid<=2147483647))))] [] ?_
  refine NN (af.cX (p:=0<=c.gid/\c.gid<=2147483647) (fun _=>by kernel_rfl) (fun ud=>?_) (fun ud=>?_))
  ·refine SR (gK 1 [(4,vI 11)] [] ?_)
   refine NN (af.ret (ai.aG (ai.ak ?_)))
   exact RT (vI 11) [0,1,2,3,4,5,6,7] (⟨L,by rw [show (bH S c)=(11,S,c) by unfold bH;rw [dL];exact (if_neg (fun h=>absurd h.2 (by simp))).trans ((if_pos jU).trans (if_neg (fun h=>ud h.2)))]<;>exact⟨rfl,rfl⟩⟩)
  refine SR (gK 4 [(61,.agg #[vI (c.sec),vI (c.nano)])] [(3,A_ 6 cb 2)] ?_)
  refine gL [] (iH c.sec c.nano) ?_
  rintro _ _ ⟨rfl,rfl⟩
  refine gK 2 [(57,.bool (!(decide (dU c.sec c.nano))))] [] ?_
  refine NN (af.cX (p:=dU c.sec c.nano) (fun _=>by kernel_rfl) (fun vg=>?_) (fun vg=>?_))
  ·refine SR (gK 1 [(4,vI 20)] [] ?_)
   refine NN (af.ret (ai.aG (ai.ak ?_)))
   exact RT (vI 20) [0,1,2,3,4,5,6,7] (⟨L,by rw [show (bH S c)=(20,S,c) by unfold bH;rw [dL];exact (if_neg (fun h=>absurd h.2 (by simp))).trans ((if_pos jU).trans ((if_pos ⟨rA,ud⟩).trans (if_neg vg)))]<;>exact⟨rfl,rfl⟩⟩)
  refine af.skip (ai.aJ (NX (af.seq ?_)))
  skip
  refine af.mem (fun w hS=>hS.xC (i:=3) (k:=tk) rfl (by rw [hkt];decide) (ia (hkt)) (congrArg kE (hkt))) ?_
  refine af.bM (S:=[pC cb c]) [0,1,2,3,4,5,6,7,8,9,10,11,12,13,14,15,16,17,18,19,20,21,22,23,24,25,26,27,28,29,30,31] 22 [6] (by kernel_rfl) (by kernel_rfl) rfl (by kernel_rfl) ?_
  refine gR 0 [22,23,24,25,26,27,28,29,30,31] (M9 L tk c) [0,1,2,3,4,5,6,7,8,9,10,11,12,13,14,15,16,17,18,19,20,21] [(7,a_ 0 cb),(11,a_ 0 cb),(15,a_ 0 cb),(19,A_ 0 cb 2)] ?_
  refine mC [6] [] [(0,a_ 8 (L.b tk))] [(8,[(1,vI (c.mode))])] ?_
  refine aN.cut (ι:=Unit) (fr':=fun (_:Unit)=>(CZ L tk c++q4 c++[(86,vP (L.b tk))])) (hp':=fun (_:Unit)=>(pK f m t S L tk cb c R++[OB L tk S c])) [6] rfl rfl ?_ rfl (fun _=>by kernel_rfl) ?_
  ·refine gK 1 [(86,vP (L.b tk))] [] ?_
   refine NL ?_
   exact MD () [66,67,75,79,83,86] [0,1,2,3,4,5,6,7,8]
  rintro _
  refine aN.cut (ι:=Unit) (fr':=fun (_:Unit)=>(CZ L tk c++q4 c++[(87,.pointer (some ⟨(L.b tk),2,none⟩))])) (hp':=fun (_:Unit)=>(pK f m t S L tk cb c R++[OB L tk S c])) [6] rfl rfl ?_ rfl (fun _=>by kernel_rfl) ?_
  ·refine gK 1 [(87,.pointer (some ⟨(L.b tk),2,none⟩))] [] ?_
   refine NL ?_
   exact MD () [66,67,75,79,83,87] [0,1,2,3,4,5,6,7,8]
  rintro _
  refine mC [6] [] [(0,a_ 8 (L.b tk))] [(8,[(2,vI (c.uid))])] ?_
  refine aN.cut (ι:=Unit) (fr':=fun (_:Unit)=>([(67,vP (L.b tk))]++q4 c++[(88,vP (L.b tk))])) (hp':=fun (_:Unit)=>(pK f m t S L tk cb c R++[OC L tk S c])) [6] rfl rfl ?_ rfl (fun _=>by kernel_rfl) ?_
  ·refine gK 1 [(88,vP (L.b tk))] [] ?_
   refine NL ?_
   exact MD () [67,79,83,88] [0,1,2,3,4,5,6,7,8]
  rintro _
  refine aN.cut (ι:=Unit) (fr':=fun (_:Unit)=>([(67,vP (L.b tk))]++q4 c++[(89,.pointer (some ⟨(L.b tk),3,none⟩))])) (hp':=fun (_:Unit)=>(pK f m t S L tk cb c R++[OC L tk S c])) [6] rfl rfl ?_ rfl (fun _=>by kernel_rfl) ?_
  ·refine gK 1 [(89,.pointer (some ⟨(L.b tk),3,none⟩))] [] ?_
   refine NL ?_
   exact MD () [67,79,83,89] [0,1,2,3,4,5,6,7,8]
  rintro _
  refine mC [6] [] [(0,a_ 8 (L.b tk))] [(8,[(3,vI (c.gid))])] ?_
  refine aN.cut (ι:=Unit) (fr':=fun (_:Unit)=>[(83,.agg #[vI (c.sec),vI (c.nano)]),(90,vP (L.b tk))]) (hp':=fun (_:Unit)=>(pK f m t S L tk cb c R++[OD L tk S c])) [6] rfl rfl ?_ rfl (fun _=>by kernel_rfl) ?_
  ·refine gK 1 [(90,vP (L.b tk))] [] ?_
   refine NL ?_
   exact MD () [83,90] [0,1,2,3,4,5,6,7,8]
  rintro _
  refine aN.cut (ι:=Unit) (fr':=fun (_:Unit)=>(Na c L tk)) (hp':=fun (_:Unit)=>(pK f m t S L tk cb c R++[OD L tk S c])) [6] rfl rfl ?_ rfl (fun _=>by kernel_rfl) ?_
  ·refine gK 1 [(91,.pointer (some ⟨(L.b tk),4,none⟩))] [] ?_
   refine NL ?_
   exact MD () [83,91] [0,1,2,3,4,5,6,7,8]
  rintro _
  refine aN.last rfl rfl ?_
  refine gC 1 [] [(0,A_ 8 (L.b tk) 2)] [(8,[(4,vI (c.sec)),(5,vI (c.nano))])] ?_
  refine NL (ai.np (NX (SR ?_)))
  refine aj.mem (cR:=[.abs (ax (bI (aD S.O tk (fun o=>{ o with mode:=c.mode,uid:=c.uid,gid:=c.gid,sec:=c.sec,nano:=c.nano })) L)),.blk f [vI (S.X.cN),vI (S.X.cB),vI (S.X.cH),vI (S.X.cS),vI (S.X.cZ),.map (some m),vP t,vI (S.X.last),vI (S.X.ah),vI (S.X.used)] 126,.abs (aL Tryz.prog 3 m (aX (aY L S.idx)) S.idx.length),.abs (cV 197 t S.X.cH S.ay (aY L S.us)),.abs (ax (bJ (aD S.O tk (fun o=>{ o with mode:=c.mode,uid:=c.uid,gid:=c.gid,sec:=c.sec,nano:=c.nano })) L)),.abs (ax (cK (aD S.O tk (fun o=>{ o with mode:=c.mode,uid:=c.uid,gid:=c.gid,sec:=c.sec,nano:=c.nano })) L)),.blk cb [vI (c.op),vI (c.handle),vI (c.other),.string c.name,.string c.text,.slice c.dA (c.data.length) (c.dC),vI (c.mode),vI (c.uid),vI (c.gid),vI (c.sec),vI (c.nano),vI (c.code),vI (c.answer)] 48,.abs R]) (fun w hS=>by have h:=hS.yH (O:=S.O) (L:=L) (i:=3) (j:=8) (idx:=[0,1,2,4,5,6,7]) (k:=tk) (f:=(fun o=>{ o with mode:=c.mode,uid:=c.uid,gid:=c.gid,sec:=c.sec,nano:=c.nano })) rfl (fun _ hx=>oz hx) rfl (by kernel_rfl) rfl (by show (obj S.O tk).kind≠0;rw [hkt];decide) ((ia (o:=(fun o=>{ o with mode:=c.mode,uid:=c.uid,gid:=c.gid,sec:=c.sec,nano:=c.nano }) (obj S.O tk)) (hkt)).trans rfl) (by show kE (obj S.O tk).kind=_;rw [hkt]<;>rfl);rw [mV (O:=S.O) (k:=tk) (f:=(fun o=>{ o with mode:=c.mode,uid:=c.uid,gid:=c.gid,sec:=c.sec,nano:=c.nano })) rfl rfl,mW (O:=S.O) (k:=tk) (f:=(fun o=>{ o with mode:=c.mode,uid:=c.uid,gid:=c.gid,sec:=c.sec,nano:=c.nano })) rfl rfl];exact h) ?_
  have mK:(obj (aD S.O tk (fun o=>{ o with mode:=c.mode,uid:=c.uid,gid:=c.gid,sec:=c.sec,nano:=c.nano })) tk).kind=1:=(jO (f:=(fun o=>{ o with mode:=c.mode,uid:=c.uid,gid:=c.gid,sec:=c.sec,nano:=c.nano })) (fun _=>rfl)).trans (hkt)
  generalize cq:(aD S.O tk (fun o=>{ o with mode:=c.mode,uid:=c.uid,gid:=c.gid,sec:=c.sec,nano:=c.nano }))=cI at mK ⊢
  refine gK 1 [(4,vI 0)] [] ?_
  refine NN (af.ret ?_)
  exact RT (l:=[pF f m t S.X,pI m L S.idx,kx t S L,pO cI L,pD cI L,pE cI L,pC cb c]) (.int .i64 0) [1,2,3,0,4,5,6,7] (⟨L,by subst cq;rw [show (bH S c)=(0,{ S with O:=aD S.O tk (fun o=>{ o with mode:=c.mode,uid:=c.uid,gid:=c.gid,sec:=c.sec,nano:=c.nano }) },c) by unfold bH;rw [dL];exact (if_neg (fun h=>absurd h.2 (by simp))).trans ((if_pos jU).trans ((if_pos ⟨rA,ud⟩).trans (if_pos vg)))]<;>exact⟨rfl,rfl⟩⟩)
 have hkt:(obj S.O tk).kind=2:=hI.kind hlv
 refine af.region (gK 1 [] [] ?_)
 refine NN (af.seq (af.bF (by kernel_rfl) (by kernel_rfl) ?_))
 refine gQ 8 (Nb t c) [(3,a_ 0 f),(7,a_ 6 cb)] ?_
 refine aP.call (f:=132) (args:=#[vP t,vI (c.handle)]) (d:=(some 17)) (pre:=[kx t S L]) (R:=(qZ f m t S L cb c R)) (pk:=[2,0,1,3,4,5,6,7]) (ji:=[1,2,0,3,4,5,6,7]) (v0:=.tuple #[.iface 135 (vP (L.b tk)),vI 0]) (fun _=>by kernel_rfl) (lP t S.X.cH S.ay (aY L S.us) c.handle hC.hw (dQ L ⟨tk,2⟩) (kF dL)) rfl (by kernel_rfl) rfl (by kernel_rfl) (fun _ _ h=>h) ?_
 refine gQ 5 (Js L tk) [] ?_
 refine NQ (NX (af.seq (SR ?_)))
 refine gK 2 [(21,.bool false)] [] ?_
 refine NN (CF (af.skip (NX (SR (gK 1 [(23,.iface 135 (vP (L.b tk)))] [] ?_)))))
 refine gL [] (dg (L.b tk)) ?_
 rintro _ _ ⟨rfl,rfl⟩
 refine gK 1 [(7,vP (L.b tk))] [] ?_
 refine NN (af.seq (af.block (SR ?_)))
 refine gK 5 [(30,.bool (obj S.O tk).gone)] [(3,v_ 3 (nK L hkt))] ?_
 refine aj.nN 30 (obj S.O tk).gone (fun _=>by kernel_rfl) (fun mM=>?_) (fun mM=>?_)
 ·refine gK 1 [(31,.iface 135 (vP (L.b tk)))] [] ?_
  refine gL [] (mJ (vP (L.b tk))) ?_
  rintro _ _ ⟨rfl,rfl⟩
  refine gK 3 [(25,.bool true)] [] ?_
  refine NN (CT (SR (gK 1 [(4,vI 170)] [] ?_)))
  refine NN (af.ret (ai.aG (ai.ak ?_)))
  exact RT (vI 170) [0,1,2,3,4,5,6,7] (⟨L,by rw [show (bH S c)=(170,S,c) by unfold bH;rw [dL];exact if_pos ⟨mM,rfl⟩]<;>exact⟨rfl,rfl⟩⟩)
 refine gK 5 [(25,.bool false)] [] ?_
 refine NN (CF (SR (gK 4 [(39,vI (c.mode))] [(3,a_ 6 cb)] ?_)))
 refine gL [] (fR (c.mode) 4095) ?_
 rintro _ _ ⟨rfl,rfl⟩
 refine gK 2 [(35,.bool (!(decide (0<=c.mode/\c.mode<=4095))))] [] ?_
 refine NN (af.cX (p:=0<=c.mode/\c.mode<=4095) (fun _=>by kernel_rfl) (fun jU=>?_) (fun jU=>?_))
 ·refine SR (gK 1 [(4,vI 120)] [] ?_)
  refine NN (af.ret (ai.aG (ai.ak ?_)))
  exact RT (vI 120) [0,1,2,3,4,5,6,7] (⟨L,by rw [show (bH S c)=(120,S,c) by unfold bH;rw [dL];exact (if_neg (fun h=>absurd h.1 (by rw [mM];decide))).trans (if_neg jU)]<;>exact⟨rfl,rfl⟩⟩)
 refine SR (gK 4 [(46,vI (c.uid))] [(3,a_ 6 cb)] ?_)
 refine gL [] (fR (c.uid) 2147483647) ?_
 rintro _ _ ⟨rfl,rfl⟩
 refine gK 2 [(49,.bool (!(decide (0<=c.uid/\c.uid<=2147483647))))] [] ?_
 refine aj.iO 49 (0<=c.uid/\c.uid<=2147483647) (fun _=>by kernel_rfl) (fun rA=>?_) (fun rA=>?_)
 ·refine gK 8 [(42,.bool true)] [] ?_
  refine NN (CT (SR (gK 1 [(4,vI 11)] [] ?_)))
  refine NN (af.ret (ai.aG (ai.ak ?_)))
  exact RT (vI 11) [0,1,2,3,4,5,6,7] (⟨L,by rw [show (bH S c)=(11,S,c) by unfold bH;rw [dL];exact (if_neg (fun h=>absurd h.1 (by rw [mM];decide))).trans ((if_pos jU).trans (if_neg (fun h=>rA h.1)))]<;>exact⟨rfl,rfl⟩⟩)
 refine gK 4 [(53,vI (c.gid))] [(3,a_ 6 cb)] ?_
 refine gL [] (fR (c.gid) 2147483647) ?_
 rintro _ _ ⟨rfl,rfl⟩
 refine gK 3 [(42,.bool (!(decide (0<=c.gid/\c.gid<=2147483647))))] [] ?_
 refine NN (af.cX (p:=0<=c.gid/\c.gid<=2147483647) (fun _=>by kernel_rfl) (fun ud=>?_) (fun ud=>?_))
 ·refine SR (gK 1 [(4,vI 11)] [] ?_)
  refine NN (af.ret (ai.aG (ai.ak ?_)))
  exact RT (vI 11) [0,1,2,3,4,5,6,7] (⟨L,by rw [show (bH S c)=(11,S,c) by unfold bH;rw [dL];exact (if_neg (fun h=>absurd h.1 (by rw [mM];decide))).trans ((if_pos jU).trans (if_neg (fun h=>ud h.2)))]<;>exact⟨rfl,rfl⟩⟩)
 refine SR (gK 4 [(61,.agg #[vI (c.sec),vI (c.nano)])] [(3,A_ 6 cb 2)] ?_)
 refine gL [] (iH c.sec c.nano) ?_
 rintro _ _ ⟨rfl,rfl⟩
 refine gK 2 [(57,.bool (!(decide (dU c.sec c.nano))))] [] ?_
 refine NN (af.cX (p:=dU c.sec c.nano) (fun _=>by kernel_rfl) (fun vg=>?_) (fun vg=>?_))
 ·refine SR (gK 1 [(4,vI 20)] [] ?_)
  refine NN (af.ret (ai.aG (ai.ak ?_)))
  exact RT (vI 20) [0,1,2,3,4,5,6,7] (⟨L,by rw [show (bH S c)=(20,S,c) by unfold bH;rw [dL];exact (if_neg (fun h=>absurd h.1 (by rw [mM];decide))).trans ((if_pos jU).trans ((if_pos ⟨rA,ud⟩).trans (if_neg vg)))]<;>exact⟨rfl,rfl⟩⟩)
 refine af.skip (ai.aJ (NX (af.seq ?_)))
 skip
 refine af.mem (fun w hS=>hS.xC (i:=3) (k:=tk) rfl (by rw [hkt];decide) (lM (hkt)) (congrArg kE (hkt))) ?_
 refine af.bM (S:=[pC cb c]) [0,1,2,3,4,5,6,7,8,9,10,11,12,13,14,15,16,17,18,19,20,21,22,23,24,25,26,27,28,29,30,31] 22 [6] (by kernel_rfl) (by kernel_rfl) rfl (by kernel_rfl) ?_
 refine gR 0 [22,23,24,25,26,27,28,29,30,31] (M9 L tk c) [0,1,2,3,4,5,6,7,8,9,10,11,12,13,14,15,16,17,18,19,20,21] [(7,a_ 0 cb),(11,a_ 0 cb),(15,a_ 0 cb),(19,A_ 0 cb 2)] ?_
 refine mC [6] [] [(0,a_ 8 (L.b tk))] [(8,[(1,vI (c.mode))])] ?_
 refine aN.cut (ι:=Unit) (fr':=fun (_:Unit)=>(CZ L tk c++q4 c++[(86,vP (L.b tk))])) (hp':=fun (_:Unit)=>(pK f m t S L tk cb c R++[Ts L tk S c])) [6] rfl rfl ?_ rfl (fun _=>by kernel_rfl) ?_
 ·refine gK 1 [(86,vP (L.b tk))] [] ?_
  refine NL ?_
  exact MD () [66,67,75,79,83,86] [0,1,2,3,4,5,6,7,8]
 rintro _
 refine aN.cut (ι:=Unit) (fr':=fun (_:Unit)=>(CZ L tk c++q4 c++[(87,.pointer (some ⟨(L.b tk),2,none⟩))])) (hp':=fun (_:Unit)=>(pK f m t S L tk cb c R++[Ts L tk S c])) [6] rfl rfl ?_ rfl (fun _=>by kernel_rfl) ?_
 ·refine gK 1 [(87,.pointer (some ⟨(L.b tk),2,none⟩))] [] ?_
  refine NL ?_
  exact MD () [66,67,75,79,83,87] [0,1,2,3,4,5,6,7,8]
 rintro _
 refine mC [6] [] [(0,a_ 8 (L.b tk))] [(8,[(2,vI (c.uid))])] ?_
 refine aN.cut (ι:=Unit) (fr':=fun (_:Unit)=>([(67,vP (L.b tk))]++q4 c++[(88,vP (L.b tk))])) (hp':=fun (_:Unit)=>(pK f m t S L tk cb c R++[Tt L tk S c])) [6] rfl rfl ?_ rfl (fun _=>by kernel_rfl) ?_
 ·refine gK 1 [(88,vP (L.b tk))] [] ?_
  refine NL ?_
  exact MD () [67,79,83,88] [0,1,2,3,4,5,6,7,8]
 rintro _
 refine aN.cut (ι:=Unit) (fr':=fun (_:Unit)=>([(67,vP (L.b tk))]++q4 c++[(89,.pointer (some ⟨(L.b tk),3,none⟩))])) (hp':=fun (_:Unit)=>(pK f m t S L tk cb c R++[Tt L tk S c])) [6] rfl rfl ?_ rfl (fun _=>by kernel_rfl) ?_
 ·refine gK 1 [(89,.pointer (some ⟨(L.b tk),3,none⟩))] [] ?_
  refine NL ?_
  exact MD () [67,79,83,89] [0,1,2,3,4,5,6,7,8]
 rintro _
 refine mC [6] [] [(0,a_ 8 (L.b tk))] [(8,[(3,vI (c.gid))])] ?_
 refine aN.cut (ι:=Unit) (fr':=fun (_:Unit)=>[(83,.agg #[vI (c.sec),vI (c.nano)]),(90,vP (L.b tk))]) (hp':=fun (_:Unit)=>(pK f m t S L tk cb c R++[Tv L tk S c])) [6] rfl rfl ?_ rfl (fun _=>by kernel_rfl) ?_
 ·refine gK 1 [(90,vP (L.b tk))] [] ?_
  refine NL ?_
  exact MD () [83,90] [0,1,2,3,4,5,6,7,8]
 rintro _
 refine aN.cut (ι:=Unit) (fr':=fun (_:Unit)=>(Na c L tk)) (hp':=fun (_:Unit)=>(pK f m t S L tk cb c R++[Tv L tk S c])) [6] rfl rfl ?_ rfl (fun _=>by kernel_rfl) ?_
 ·refine gK 1 [(91,.pointer (some ⟨(L.b tk),4,none⟩))] [] ?_
  refine NL ?_
  exact MD () [83,91] [0,1,2,3,4,5,6,7,8]
 rintro _
 refine aN.last rfl rfl ?_
 refine gC 1 [] [(0,A_ 8 (L.b tk) 2)] [(8,[(4,vI (c.sec)),(5,vI (c.nano))])] ?_
 refine NL (ai.np (NX (SR ?_)))
 refine aj.mem (cR:=[.abs (ax (bI (aD S.O tk (fun o=>{ o with mode:=c.mode,uid:=c.uid,gid:=c.gid,sec:=c.sec,nano:=c.nano })) L)),.blk f [vI (S.X.cN),vI (S.X.cB),vI (S.X.cH),vI (S.X.cS),vI (S.X.cZ),.map (some m),vP t,vI (S.X.last),vI (S.X.ah),vI (S.X.used)] 126,.abs (aL Tryz.prog 3 m (aX (aY L S.idx)) S.idx.length),.abs (cV 197 t S.X.cH S.ay (aY L S.us)),.abs (ax (bJ (aD S.O tk (fun o=>{ o with mode:=c.mode,uid:=c.uid,gid:=c.gid,sec:=c.sec,nano:=c.nano })) L)),.abs (ax (cK (aD S.O tk (fun o=>{ o with mode:=c.mode,uid:=c.uid,gid:=c.gid,sec:=c.sec,nano:=c.nano })) L)),.blk cb [vI (c.op),vI (c.handle),vI (c.other),.string c.name,.string c.text,.slice c.dA (c.data.length) (c.dC),vI (c.mode),vI (c.uid),vI (c.gid),vI (c.sec),vI (c.nano),vI (c.code),vI (c.answer)] 48,.abs R]) (fun w hS=>by have h:=hS.yH (O:=S.O) (L:=L) (i:=3) (j:=8) (idx:=[0,1,2,4,5,6,7]) (k:=tk) (f:=(fun o=>{ o with mode:=c.mode,uid:=c.uid,gid:=c.gid,sec:=c.sec,nano:=c.nano })) rfl (fun _ hx=>oz hx) rfl (by kernel_rfl) rfl (by show (obj S.O tk).kind≠0;rw [hkt];decide) ((lM (o:=(fun o=>{ o with mode:=c.mode,uid:=c.uid,gid:=c.gid,sec:=c.sec,nano:=c.nano }) (obj S.O tk)) (hkt)).trans rfl) (by show kE (obj S.O tk).kind=_;rw [hkt]<;>rfl);rw [mV (O:=S.O) (k:=tk) (f:=(fun o=>{ o with mode:=c.mode,uid:=c.uid,gid:=c.gid,sec:=c.sec,nano:=c.nano })) rfl rfl,mW (O:=S.O) (k:=tk) (f:=(fun o=>{ o with mode:=c.mode,uid:=c.uid,gid:=c.gid,sec:=c.sec,nano:=c.nano })) rfl rfl];exact h) ?_
 have CQ:(obj (aD S.O tk (fun o=>{ o with mode:=c.mode,uid:=c.uid,gid:=c.gid,sec:=c.sec,nano:=c.nano })) tk).kind=2:=(jO (f:=(fun o=>{ o with mode:=c.mode,uid:=c.uid,gid:=c.gid,sec:=c.sec,nano:=c.nano })) (fun _=>rfl)).trans (hkt)
 generalize cq:(aD S.O tk (fun o=>{ o with mode:=c.mode,uid:=c.uid,gid:=c.gid,sec:=c.sec,nano:=c.nano }))=cI at CQ ⊢
 refine gK 1 [(4,vI 0)] [] ?_
 refine NN (af.ret ?_)
 exact RT (l:=[pF f m t S.X,pI m L S.idx,kx t S L,pO cI L,pD cI L,pE cI L,pC cb c]) (.int .i64 0) [1,2,3,0,4,5,6,7] (⟨L,by subst cq;rw [show (bH S c)=(0,{ S with O:=aD S.O tk (fun o=>{ o with mode:=c.mode,uid:=c.uid,gid:=c.gid,sec:=c.sec,nano:=c.nano }) },c) by unfold bH;rw [dL];exact (if_neg (fun h=>absurd h.1 (by rw [mM];decide))).trans ((if_pos jU).trans ((if_pos ⟨rA,ud⟩).trans (if_pos vg)))]<;>exact⟨rfl,rfl⟩⟩)
theorem FL {β:Bs} (S:aH) (L:HL) (f m t:Nat) (hI:Inv S) (cb:Nat) (c:aF) (hC:gh β c) :
    Spec Tryz.prog β 93 #[vP f,vP cb] ((pA f m t L S)++[pC cb c]) (fun v l=>∃ L2,v=vI (dY S c).1/\l=((pA f m t L2 ((dY S c).2.1))++[.blk cb (bN ((dY S c).2.2)) 48])):=by
 have hX:=hI.hX
 refine Spec.enter Tryz.func93 rfl Tryz.ntmps93 (Nat.le_of_ble_eq_true rfl) (fun R=>?_)
 refine SR (gK 1 [] [] ?_)
 refine NN (af.seq (af.bF (by kernel_rfl) (by kernel_rfl) ?_))
 refine gQ 9 [(10,vP f),(14,vI (c.handle)),(18,.string c.name)] [(4,a_ 6 cb),(8,a_ 6 cb)] ?_
 rcases kT hI.toInv0 c.handle c.name 192 with ⟨e,hab,hne⟩|⟨d,hab,hd,iX,iP,dL⟩
 ·refine aP.call (f:=123) (args:=#[vP f,vI (c.handle),.string c.name,vI 192]) (d:=(some 19)) (pre:=[pF f m t S.X,kx t S L,pO S.O L]) (R:=(oJ m L S cb c R)) (pk:=[0,2,3,1,4,5,6,7]) (ji:=[0,3,1,2,4,5,6,7]) (v0:=.tuple #[.pointer none,vI (e)]) (fun _=>by kernel_rfl) ((by have h:=eE S L f m t hI c.handle hC.hw c.name hC.nm 192 (β:=β);rw [hab] at h;exact h)) rfl (by kernel_rfl) rfl (by kernel_rfl) (fun _ _ h=>h) ?_
  refine gQ 5 [(5,.pointer none),(6,vI (e))] [] ?_
  refine NQ (NX (af.seq (SR ?_)))
  refine gK 2 [(23,.bool (!(decide ((e:Int)=(0:Int)))))] [] ?_
  refine NN (af.cX (p:=(e:Int)=(0:Int)) (fun _=>by kernel_rfl) (fun h23=>?_) (fun h23=>?_))
  ·refine SR (gK 2 [(4,vI (e))] [] ?_)
   refine NN (af.ret (ai.ak ?_))
   exact RT (vI (e)) [0,1,2,3,4,5,6,7] (⟨L,by rw [show (dY S c)=(e,S,c) by unfold dY;rw [hab]]<;>exact⟨rfl,rfl⟩⟩)
  exact absurd h23 hne
 have hkd:(obj S.O d).kind=2:=hI.kind hd
 refine aP.call (f:=123) (args:=#[vP f,vI (c.handle),.string c.name,vI 192]) (d:=(some 19)) (pre:=[pF f m t S.X,kx t S L,pO S.O L]) (R:=(oJ m L S cb c R)) (pk:=[0,2,3,1,4,5,6,7]) (ji:=[0,3,1,2,4,5,6,7]) (v0:=.tuple #[vP (L.b d),vI 0]) (fun _=>by kernel_rfl) ((by have h:=eE S L f m t hI c.handle hC.hw c.name hC.nm 192 (β:=β);rw [hab] at h;exact h)) rfl (by kernel_rfl) rfl (by kernel_rfl) (fun _ _ h=>h) ?_
 refine gQ 5 (FD L d) [] ?_
 refine NQ (NX (af.seq (SR ?_)))
 refine gK 2 [(23,.bool false)] [] ?_
 refine NN (CF (af.skip (NX (af.seq (SR (gK 4 [(28,vI (c.mode))] [(3,a_ 6 cb)] ?_))))))
 refine gL [] (fR (c.mode) 4095) ?_
 rintro _ _ ⟨rfl,rfl⟩
 refine gK 1 [(30,.bool (!(decide (0<=c.mode/\c.mode<=4095))))] [] ?_
 refine NN (af.cX (p:=0<=c.mode/\c.mode<=4095) (fun _=>by kernel_rfl) (fun mM=>?_) (fun mM=>?_))
 ·refine SR (gK 1 [(4,vI 120)] [] ?_)
  refine NN (af.ret (ai.ak ?_))
  exact RT (vI 120) [0,1,2,3,4,5,6,7] (⟨L,by rw [show (dY S c)=(120,S,c) by unfold dY;rw [hab];exact if_neg mM]<;>exact⟨rfl,rfl⟩⟩)
 refine af.skip (NX (af.seq (SR (gK 6 [(31,vP f),(32,vP (L.b d)),(36,.string c.name)] [(5,a_ 6 cb)] ?_))))
 refine gL [0,1,5,3] (t7 S L f m t hI d hd c.name hC.nm) ?_
 rintro _ _ ⟨rfl,rfl⟩
 refine gK 1 [(6,vI ((ck S.X S.O S.idx d c.name)))] [] ?_
 refine NS (gK 2 [(39,.bool (!(decide (((ck S.X S.O S.idx d c.name):Int)=(0:Int)))))] [] ?_)
 refine NN (af.cX (p:=((ck S.X S.O S.idx d c.name):Int)=(0:Int)) (fun _=>by kernel_rfl) (fun h0=>?_) (fun h0=>?_))
 ·refine SR (gK 2 [(4,vI ((ck S.X S.O S.idx d c.name)))] [] ?_)
  refine NN (af.ret (ai.ak ?_))
  exact RT (vI ((ck S.X S.O S.idx d c.name))) [0,1,4,3,5,2,6,7] (⟨L,by rw [show (dY S c)=(ck S.X S.O S.idx d c.name,S,c) by unfold dY;rw [hab];exact (if_pos mM).trans (if_neg h0)]<;>exact⟨rfl,rfl⟩⟩)
 have hno:=oF h0
 refine af.skip (NX (SR (gN 8 (fun b4=>[(7,vP b4)]) (fun b4=>[(3,a_ 6 cb)]) (fun _=>[]) (fun b4=>.blk b4 [vI 0,vI (c.mode),vI 0,vI 0,vI 0,vI 0,vI 0,vI 0,.bool false,.slice none (0) (0)] 131) (fun b4=>?_))))
 refine NN (af.seq (af.seq ?_))
 rcases Int.lt_or_le (S.us.length:Int) S.X.cH with t8|t8
 ·refine af.region (gK 4 (Rb cb f b4) [] ?_)
  obtain⟨L2,hL2⟩:∃ L2:HL,L2=L.put (aO S.X) b4 0 none 0:=⟨_,rfl⟩
  have hfr:=hI.toInv0.fresh
  refine aj.mem (fun w hS=>hS.tU hL2 hfr (o:=(⟨0,c.mode,0,0,0,0,0,0,false,1,[],⟨#[]⟩,[],none⟩:aR)) (i:=3) (j:=8) (ix:=[0,1,2,4,5,6,7]) rfl rfl (by kernel_rfl) rfl (by show (1:Int)≠0;decide) ((ia (L:=L2) (k:=(aO S.X)) (o:=(⟨0,c.mode,0,0,0,0,0,0,false,1,[],⟨#[]⟩,[],none⟩:aR)) rfl).trans (by rw [show L2.dA (aO S.X)=none by rw [hL2];exact if_pos rfl,show L2.dC (aO S.X)=0 by rw [hL2];exact if_pos rfl];rfl)) rfl) ?_
  refine aj.dx [(3,pE (aD S.O (aO S.X) (fun _=>(⟨0,c.mode,0,0,0,0,0,0,false,1,[],⟨#[]⟩,[],none⟩:aR))) L2)] (fun w hS=>hS.uU hL2 hfr (o:=(⟨0,c.mode,0,0,0,0,0,0,false,1,[],⟨#[]⟩,[],none⟩:aR)) (i:=3) rfl (by show (1:Int)≠2;decide)) ?_
  refine aj.mem (fun w hS=>hS.j7 (e:=5) (size:=1)) ?_
  refine aj.mem (fun w hS=>hS.IK hL2 (o:=(⟨0,c.mode,0,0,0,0,0,0,false,1,[],⟨#[]⟩,[],none⟩:aR)) (i:=5) (j:=8) (ix:=[0,1,2,3,4,6,7]) rfl rfl (by kernel_rfl) rfl rfl rfl) ?_
  refine aj.dx [(3,.abs (aL Tryz.prog 3 m (aX (aY L2 S.idx)) S.idx.length)),(5,.abs (cV 197 t S.X.cH S.ay (aY L2 S.us)))] (fun w hS=>by rw [gJ hL2 hfr.idx,gJ hL2 hfr.us];exact hS) ?_
  refine gL (f:=121) (args:=#[vP f,.iface 129 (vP b4)]) (pre:=[pF f m t S.X,kx t S L2,Tw S c L2]) [2,5,1] ((by have h:=tB (β:=β) { S with O:=(aD S.O (aO S.X) (fun _=>(⟨0,c.mode,0,0,0,0,0,0,false,1,[],⟨#[]⟩,[],none⟩:aR))) } L2 f m t ⟨(aO S.X),1⟩ (by show (obj (aD S.O (aO S.X) (fun _=>(⟨0,c.mode,0,0,0,0,0,0,false,1,[],⟨#[]⟩,[],none⟩:aR))) (aO S.X)).kind=1;rw [bL]) (by simp) (by show 0<=(obj (aD S.O (aO S.X) (fun _=>(⟨0,c.mode,0,0,0,0,0,0,false,1,[],⟨#[]⟩,[],none⟩:aR))) (aO S.X)).opens/\(obj (aD S.O (aO S.X) (fun _=>(⟨0,c.mode,0,0,0,0,0,0,false,1,[],⟨#[]⟩,[],none⟩:aR))) (aO S.X)).opens<=1048576;rw [bL];exact⟨Int.le_refl _,by show (0:Int)<=1048576;decide⟩);rw [oC hL2,kf (S:={ S with O:=(aD S.O (aO S.X) (fun _=>(⟨0,c.mode,0,0,0,0,0,0,false,1,[],⟨#[]⟩,[],none⟩:aR))) }) (t:=⟨(aO S.X),1⟩) t8] at h;exact h)) ?_
  rintro _ _ ⟨rfl,rfl⟩
  refine gC 7 [(6,vI 0)] [(5,a_ 6 cb)] [(6,[(12,vI ((aE.least S.us)))])] ?_
  refine NS (gK 2 [(59,.bool false)] [] ?_)
  refine NN (CF (af.skip (NX (SR (aj.slot 7 (vP b4) (vP (L2.b (aO S.X))) (fun _=>by kernel_rfl) (by rw [Bn hL2]) ?_)))))
  refine aj.dx [(3,.abs (ax (bJ (aD (aD S.O (aO S.X) (fun _=>(⟨0,c.mode,0,0,0,0,0,0,false,1,[],⟨#[]⟩,[],none⟩:aR))) (aO S.X) (fun o=>{ o with opens:=o.opens+1 })) L2))),(5,.abs (ax (cK (aD (aD S.O (aO S.X) (fun _=>(⟨0,c.mode,0,0,0,0,0,0,false,1,[],⟨#[]⟩,[],none⟩:aR))) (aO S.X) (fun o=>{ o with opens:=o.opens+1 })) L2)))] (fun w hS=>by rw [mV (O:=(aD S.O (aO S.X) (fun _=>(⟨0,c.mode,0,0,0,0,0,0,false,1,[],⟨#[]⟩,[],none⟩:aR)))) (k:=(aO S.X)) (f:=(fun o=>{ o with opens:=o.opens+1 })) rfl rfl,mW (O:=(aD S.O (aO S.X) (fun _=>(⟨0,c.mode,0,0,0,0,0,0,false,1,[],⟨#[]⟩,[],none⟩:aR)))) (k:=(aO S.X)) (f:=(fun o=>{ o with opens:=o.opens+1 })) rfl rfl];exact hS) ?_
  have hkN:(obj (aD (aD S.O (aO S.X) (fun _=>(⟨0,c.mode,0,0,0,0,0,0,false,1,[],⟨#[]⟩,[],none⟩:aR))) (aO S.X) (fun o=>{ o with opens:=o.opens+1 })) (aO S.X)).kind=1:=by rw [bL,bL]
  have Tx:(obj (aD (aD S.O (aO S.X) (fun _=>(⟨0,c.mode,0,0,0,0,0,0,false,1,[],⟨#[]⟩,[],none⟩:aR))) (aO S.X) (fun o=>{ o with opens:=o.opens+1 })) (aO S.X)).opens=1:=by rw [bL,bL];rfl
  generalize cq:(aD (aD S.O (aO S.X) (fun _=>(⟨0,c.mode,0,0,0,0,0,0,false,1,[],⟨#[]⟩,[],none⟩:aR))) (aO S.X) (fun o=>{ o with opens:=o.opens+1 }))=cI at hkN Tx ⊢
  refine gK 6 [(8,vI ((obj cI (aO S.X)).opens))] [(4,v_ 2 (j3 L2 hkN))] ?_
  refine NS (gK 6 [(66,vP (L2.b (aO S.X))),(67,vP f),(71,vI (c.mode))] [(5,a_ 6 cb)] ?_)
  refine gL [0] (t6 S.X f m t hX c.mode) ?_
  rintro _ _ ⟨rfl,rfl⟩
  refine gK 2 [(74,vP (L2.b (aO S.X)))] [] ?_
  refine aj.mem (fun w hS=>hS.xC (i:=2) (k:=(aO S.X)) rfl (by rw [hkN];decide) (ia (hkN)) (congrArg kE (hkN))) ?_
  refine gC 1 [] [(0,A_ 8 (L2.b (aO S.X)) 9)] [(8,[(0,vI (S.X.last+1)),(1,vI (c.mode)),(2,vI 0),(3,vI 0),(4,vI (S.X.cS)),(5,vI (S.X.cZ)),(6,vI 0),(7,vI 0),(8,.bool false)])] ?_
  refine aj.mem (cR:=[.abs (ax (bI (aD cI (aO S.X) (fun o=>{ o with id:=S.X.last+1,mode:=c.mode,uid:=0,gid:=0,sec:=S.X.cS,nano:=S.X.cZ,links:=0,opens:=0,gone:=false })) L2)),.blk f [vI (S.X.cN),vI (S.X.cB),vI (S.X.cH),vI (S.X.cS),vI (S.X.cZ),.map (some m),vP t,vI (S.X.last+1),vI (S.X.ah),vI (S.X.used)] 126,.abs (cV 197 t S.X.cH (max S.ay ((S.us.length:Int)+1)) (aY L2 (ins (aE.least S.us) ⟨(aO S.X),1⟩ S.us))),.abs (ax (bJ (aD cI (aO S.X) (fun o=>{ o with id:=S.X.last+1,mode:=c.mode,uid:=0,gid:=0,sec:=S.X.cS,nano:=S.X.cZ,links:=0,opens:=0,gone:=false })) L2)),.abs (aL Tryz.prog 3 m (aX (aY L2 S.idx)) S.idx.length),.abs (ax (cK (aD cI (aO S.X) (fun o=>{ o with id:=S.X.last+1,mode:=c.mode,uid:=0,gid:=0,sec:=S.X.cS,nano:=S.X.cZ,links:=0,opens:=0,gone:=false })) L2)),.blk cb [vI (c.op),vI (c.handle),vI (c.other),.string c.name,.string c.text,.slice c.dA (c.data.length) (c.dC),vI (c.mode),vI (c.uid),vI (c.gid),vI (c.sec),vI (c.nano),vI (c.code),vI ((aE.least S.us))] 48,.abs R]) (fun w hS=>by have h:=hS.yH (O:=cI) (L:=L2) (i:=2) (j:=8) (idx:=[0,1,3,4,5,6,7]) (k:=(aO S.X)) (f:=(fun o=>{ o with id:=S.X.last+1,mode:=c.mode,uid:=0,gid:=0,sec:=S.X.cS,nano:=S.X.cZ,links:=0,opens:=0,gone:=false })) rfl (fun _ hx=>oz hx) rfl (by kernel_rfl) rfl (by show (obj cI (aO S.X)).kind≠0;rw [hkN];decide) ((ia (o:=(fun o=>{ o with id:=S.X.last+1,mode:=c.mode,uid:=0,gid:=0,sec:=S.X.cS,nano:=S.X.cZ,links:=0,opens:=0,gone:=false }) (obj cI (aO S.X))) (hkN)).trans rfl) (by show kE (obj cI (aO S.X)).kind=_;rw [hkN]<;>rfl);rw [mV (O:=cI) (k:=(aO S.X)) (f:=(fun o=>{ o with id:=S.X.last+1,mode:=c.mode,uid:=0,gid:=0,sec:=S.X.cS,nano:=S.X.cZ,links:=0,opens:=0,gone:=false })) rfl rfl,mW (O:=cI) (k:=(aO S.X)) (f:=(fun o=>{ o with id:=S.X.last+1,mode:=c.mode,uid:=0,gid:=0,sec:=S.X.cS,nano:=S.X.cZ,links:=0,opens:=0,gone:=false })) rfl rfl];exact h) ?_
  have x5:(obj (aD cI (aO S.X) (fun o=>{ o with id:=S.X.last+1,mode:=c.mode,uid:=0,gid:=0,sec:=S.X.cS,nano:=S.X.cZ,links:=0,opens:=0,gone:=false })) (aO S.X)).kind=1:=(jO (f:=(fun o=>{ o with id:=S.X.last+1,mode:=c.mode,uid:=0,gid:=0,sec:=S.X.cS,nano:=S.X.cZ,links:=0,opens:=0,gone:=false })) (fun _=>rfl)).trans (hkN)
  generalize dh:(aD cI (aO S.X) (fun o=>{ o with id:=S.X.last+1,mode:=c.mode,uid:=0,gid:=0,sec:=S.X.cS,nano:=S.X.cZ,links:=0,opens:=0,gone:=false }))=ef at x5 ⊢
  refine NS (gK 5 [(76,vI ((obj cI (aO S.X)).opens)),(79,.pointer (some ⟨(L2.b (aO S.X)),7,none⟩))] [] ?_)
  refine tu 0 [(5,1),(3,2)] (aO S.X) 7 (fun o=>{ o with opens:=(obj cI (aO S.X)).opens }) x5 (fun uZ l6=>?_)
  have MX:=ku l6 x5
  refine NS ?_
  have hfin:uZ=aD S.O (aO S.X) (fun _=>{ aU S.X 1 c.mode with opens:=1 }):=by subst l6;subst dh;rw [Tx];subst cq;simp only [tQ];rfl
  subst hfin
  show aj _ _ _ _ _ _ [pO (aD S.O (aO S.X) (fun _=>{ aU S.X 1 c.mode with opens:=1 })) L2,pF f m t { S.X with last:=S.X.last+1 },pT t S.X.cH (max S.ay ((S.us.length:Int)+1)) L2 (ins (aE.least S.us) ⟨(aO S.X),1⟩ S.us),pD (aD S.O (aO S.X) (fun _=>{ aU S.X 1 c.mode with opens:=1 })) L2,pI m L2 S.idx,pE (aD S.O (aO S.X) (fun _=>{ aU S.X 1 c.mode with opens:=1 })) L2,pC cb { c with answer:=aE.least S.us },.abs R] _
  refine gK 8 [(80,vP f),(81,vP (L.b d)),(85,.string c.name),(87,.iface 129 (vP (L2.b (aO S.X))))] [(5,a_ 6 cb)] ?_
  refine gL (f:=127) (args:=#[vP f,vP (L.b d),.string c.name,.iface 129 (vP (L2.b (aO S.X)))]) (pre:=[pF f m t { S.X with last:=S.X.last+1 },pI m L2 S.idx,pO (aD S.O (aO S.X) (fun _=>{ aU S.X 1 c.mode with opens:=1 })) L2,pE (aD S.O (aO S.X) (fun _=>{ aU S.X 1 c.mode with opens:=1 })) L2]) [1,4,0,5] ((by have h:=rS (β:=β) S L2 f m t hI.toInv0 d hd c.name hC.nm hno { aU S.X 1 c.mode with opens:=1 } rfl (by simp [aU]) rfl (qq h0);rw [vO hL2 (hI.uT hd)] at h;exact h)) ?_
  rintro _ _ ⟨rfl,rfl⟩
  refine NS (aj.dx [(5,.abs (ax (bJ ((d9 S d c.name { aU S.X 1 c.mode with opens:=1 }).O) L2)))] (fun w hS=>by rw [show bJ ((d9 S d c.name { aU S.X 1 c.mode with opens:=1 }).O) L2=bJ (aD S.O (aO S.X) (fun _=>{ aU S.X 1 c.mode with opens:=1 })) L2 from ic];exact hS) ?_)
  refine gK 1 [(4,vI 0)] [] ?_
  refine NN (af.ret ?_)
  exact RT (vI 0) [0,1,4,2,5,3,6,7] (⟨L2,by rw [show (dY S c)=(0,(d9 { S with us:=(ins (aE.least S.us) ⟨(aO S.X),1⟩ S.us),ay:=(max S.ay ((S.us.length:Int)+1)) } d c.name { aU S.X 1 c.mode with opens:=1 }),{ c with answer:=aE.least S.us }) by unfold dY;rw [hab];exact (if_pos mM).trans ((if_pos h0).trans (by rw [show jJ S d c.name c.mode=(aE.least S.us,0,(d9 { S with us:=(ins (aE.least S.us) ⟨(aO S.X),1⟩ S.us),ay:=(max S.ay ((S.us.length:Int)+1)) } d c.name { aU S.X 1 c.mode with opens:=1 })) from (if_pos h0).trans (if_pos t8)]))]<;>exact⟨rfl,rfl⟩⟩)
 refine af.region (gK 4 (Rb cb f b4) [] ?_)
 obtain⟨L2,hL2⟩:∃ L2:HL,L2=L.put (aO S.X) b4 0 none 0:=⟨_,rfl⟩
 have hfr:=hI.toInv0.fresh
 refine aj.mem (fun w hS=>hS.tU hL2 hfr (o:=(⟨0,c.mode,0,0,0,0,0,0,false,1,[],⟨#[]⟩,[],none⟩:aR)) (i:=3) (j:=8) (ix:=[0,1,2,4,5,6,7]) rfl rfl (by kernel_rfl) rfl (by show (1:Int)≠0;decide) ((ia (L:=L2) (k:=(aO S.X)) (o:=(⟨0,c.mode,0,0,0,0,0,0,false,1,[],⟨#[]⟩,[],none⟩:aR)) rfl).trans (by rw [show L2.dA (aO S.X)=none by rw [hL2];exact if_pos rfl,show L2.dC (aO S.X)=0 by rw [hL2];exact if_pos rfl];rfl)) rfl) ?_
 refine aj.dx [(3,pE (aD S.O (aO S.X) (fun _=>(⟨0,c.mode,0,0,0,0,0,0,false,1,[],⟨#[]⟩,[],none⟩:aR))) L2)] (fun w hS=>hS.uU hL2 hfr (o:=(⟨0,c.mode,0,0,0,0,0,0,false,1,[],⟨#[]⟩,[],none⟩:aR)) (i:=3) rfl (by show (1:Int)≠2;decide)) ?_
 refine aj.mem (fun w hS=>hS.j7 (e:=5) (size:=1)) ?_
 refine aj.mem (fun w hS=>hS.IK hL2 (o:=(⟨0,c.mode,0,0,0,0,0,0,false,1,[],⟨#[]⟩,[],none⟩:aR)) (i:=5) (j:=8) (ix:=[0,1,2,3,4,6,7]) rfl rfl (by kernel_rfl) rfl rfl rfl) ?_
 refine aj.dx [(3,.abs (aL Tryz.prog 3 m (aX (aY L2 S.idx)) S.idx.length)),(5,.abs (cV 197 t S.X.cH S.ay (aY L2 S.us)))] (fun w hS=>by rw [gJ hL2 hfr.idx,gJ hL2 hfr.us];exact hS) ?_
 refine gL (f:=121) (args:=#[vP f,.iface 129 (vP b4)]) (pre:=[pF f m t S.X,kx t S L2,Tw S c L2]) [2,5,1] ((by have h:=tB (β:=β) { S with O:=(aD S.O (aO S.X) (fun _=>(⟨0,c.mode,0,0,0,0,0,0,false,1,[],⟨#[]⟩,[],none⟩:aR))) } L2 f m t ⟨(aO S.X),1⟩ (by show (obj (aD S.O (aO S.X) (fun _=>(⟨0,c.mode,0,0,0,0,0,0,false,1,[],⟨#[]⟩,[],none⟩:aR))) (aO S.X)).kind=1;rw [bL]) (by simp) (by show 0<=(obj (aD S.O (aO S.X) (fun _=>(⟨0,c.mode,0,0,0,0,0,0,false,1,[],⟨#[]⟩,[],none⟩:aR))) (aO S.X)).opens/\(obj (aD S.O (aO S.X) (fun _=>(⟨0,c.mode,0,0,0,0,0,0,false,1,[],⟨#[]⟩,[],none⟩:aR))) (aO S.X)).opens<=1048576;rw [bL];exact⟨Int.le_refl _,by show (0:Int)<=1048576;decide⟩);rw [oC hL2,lD (S:={ S with O:=(aD S.O (aO S.X) (fun _=>(⟨0,c.mode,0,0,0,0,0,0,false,1,[],⟨#[]⟩,[],none⟩:aR))) }) (t:=⟨(aO S.X),1⟩) (by show ¬ (S.us.length:Int) < S.X.cH;omega)] at h;exact h)) ?_
 rintro _ _ ⟨rfl,rfl⟩
 refine gC 7 [(6,vI 130)] [(5,a_ 6 cb)] [(6,[(12,vI 0)])] ?_
 refine NS (gK 2 [(59,.bool true)] [] ?_)
 refine NN (CT (SR ?_))
 have hk0:(obj S.O (aO S.X)).kind=0:=hI.rM _ (by have:=oA hI.toInv0;omega)
 refine aj.dx [(2,.abs (ax (bI S.O L)))] (fun w hS=>hS.xK (i:=2) rfl (aO S.X) (fun x hx=>by rw [uN hx,G8 hL2 hfr hx]) (by unfold bI;rw [hk0];rfl)) ?_
 refine aj.dx [(5,.abs (ax (cK S.O L)))] (fun w hS=>hS.xK (i:=5) rfl (aO S.X) (fun x hx=>by rw [xu hx,CB hL2 hfr hx]) (by unfold cK;rw [hk0];rfl)) ?_
 refine aj.mem (cR:=[.blk f [vI (S.X.cN),vI (S.X.cB),vI (S.X.cH),vI (S.X.cS),vI (S.X.cZ),.map (some m),vP t,vI (S.X.last),vI (S.X.ah),vI (S.X.used)] 126,.abs (cV 197 t S.X.cH S.ay (aY L2 S.us)),.abs (ax (bI S.O L)),.abs (ax (bJ S.O L)),.abs (aL Tryz.prog 3 m (aX (aY L2 S.idx)) S.idx.length),.abs (ax (cK S.O L)),.blk cb [vI (c.op),vI (c.handle),vI (c.other),.string c.name,.string c.text,.slice c.dA (c.data.length) (c.dC),vI (c.mode),vI (c.uid),vI (c.gid),vI (c.sec),vI (c.nano),vI (c.code),vI 0] 48,.abs R]) (fun w hS=>hS.xK (i:=3) rfl (aO S.X) (fun x hx=>by rw [xw hx,yL hL2 hx]) (by unfold bJ;rw [hk0];rfl)) ?_
 refine aj.mem (cR:=[.blk f [vI (S.X.cN),vI (S.X.cB),vI (S.X.cH),vI (S.X.cS),vI (S.X.cZ),.map (some m),vP t,vI (S.X.last),vI (S.X.ah),vI (S.X.used)] 126,.abs (cV 197 t S.X.cH S.ay (aY L S.us)),.abs (ax (bI S.O L)),.abs (ax (bJ S.O L)),.abs (aL Tryz.prog 3 m (aX (aY L S.idx)) S.idx.length),.abs (ax (cK S.O L)),.blk cb [vI (c.op),vI (c.handle),vI (c.other),.string c.name,.string c.text,.slice c.dA (c.data.length) (c.dC),vI (c.mode),vI (c.uid),vI (c.gid),vI (c.sec),vI (c.nano),vI (c.code),vI 0] 48,.abs R]) (fun w hS=>by rw [gJ hL2 hfr.idx,gJ hL2 hfr.us] at hS;exact hS) ?_
 refine gK 2 [(4,vI 130)] [] ?_
 refine NN (af.ret (ai.ak ?_))
 exact RT (vI 130) [0,4,1,2,3,5,6,7] (⟨L,by rw [show (dY S c)=(130,S,{ c with answer:=0 }) by unfold dY;rw [hab];exact (if_pos mM).trans ((if_pos h0).trans (by rw [show jJ S d c.name c.mode=(0,130,S) from (if_pos h0).trans (if_neg (by omega))]))]<;>exact⟨rfl,rfl⟩⟩)
end
section
open Go.RowKit
def vk (b:Nat) (v:Value):cr where
  h F w:=∃ cs T,cs[0]?=some v/\(HP.blk b cs T).h F w
  lt:=fun ⟨_,_,_,h⟩=>HP.lt h
  st:=fun ⟨cs,T,hv,h⟩ _ _ hk hd=>⟨cs,T,hv,HP.st h hk hd⟩
theorem vk.cell {b:Nat} {v:Value}:∀ F w,(vk b v).h F w->w.cell? ⟨b,0,none⟩=some v:=by
  rintro F w ⟨cs,T,hv,h⟩
  exact (gi h.1 rfl rfl hv).1
theorem Sat.first {β:Bs} {l:List HP} {w:World} {i b:Nat} {cs:List Value} {T:TypeId} {v:Value} (h:Sat β l w) (hp:l[i]?=some (.blk b cs T)) (hv:cs[0]?=some v):Sat β [.abs (vk b v)] w:=by
  obtain⟨ho,φ,h1,h2,h3⟩:=h
  have hi:=bp hp
  refine⟨ho,fun _=>φ i,fun j q hq=>?_,fun j hj=>h2 i hi,fun j k hj hk hne=>?_⟩
  ·have hj:=bp hq
   simp at hj
   subst hj
   simp at hq
   subst hq
   exact⟨cs,T,hv,h1 i _ hp⟩
  simp at hj hk
  omega
section mix
variable {P:Program} {β:Bs} {N:Nat} {ops:Array Oper} {S:List HP} {l:List Nat} {fr:Fr} {hps:List HP} {Q:Post} {i:Nat}
theorem af.Jv {id:Nat} (perm:List Nat) (nr:Nat) (hm:P.follows .mixedOrders=true) (hB:AP ops perm nr=true) (hp:∀ w,Sat β hps w->Sat β S w) (h:aN P β N ops S nr perm fr hps Q):af P β N (.region id ops true) fr hps Q:=by
  intro junk w hS
  unfold AP at hB
  simp only [Bool.and_eq_true,beq_iff_eq] at hB
  obtain⟨⟨⟨h1,h2⟩,h3⟩,h4⟩:=hB
  have dM:=hS.drewN 1
  have h5:=Cj (Q:=Q) h1 h2 nr perm _ _ _ h4 (fun j oj _ hl=>by simp [Array.getD_eq_getD_getElem?,Array.getElem?_replicate] at hl;split at hl<;>simp at hl) (hp _ dM) (h junk (w.drewN 1) dM)
  rw [h3] at h5
  refine Code.wp_mono (fun e a w q=>?_) (wp_region_any hm (oP _ _ _ _ h5))
  cases e with
  | normal=>exact q
  | exit id=>exact q.elim
  | goto l=>exact q.elim
  | ret=>exact q.elim
  | panic ch=>exact q.elim
  | outgrown=>exact q.elim
theorem aN.Jw {ι:Type} {fr':ι->Fr} {hp':ι->List HP} {o:Oper} (hop:ops[i]?=some o) (hg:o.guard=none) (h:aj P β N #[o] 0 fr hps (NP (oq β N fr' hp'))) (hp:∀ j w,Sat β (hp' j) w->Sat β S w)
    (K:∀ j,aN P β N ops S 0 l (fr' j) (hp' j) Q):aN P β N ops S 0 (i::l) fr hps Q:=by
  intro junk w hS
  unfold mR
  refine gS hop hg ?_
  have h1:=h junk w hS
  have h2:wpList P #[o] (NP (oq β N fr' hp')) [o] (bX N fr junk) w:=h1
  refine jG (fun a w ⟨j,gj,ha,dM⟩=>?_) h2
  subst ha
  exact⟨.inr (hp j _ dM),K j gj w dM⟩
end mix
end
section
open Go.RowKit Go.Maps bD aE
def K8:List Nat:=[89,90,91,92,93,94,95,96,97,98,99,100,101,102,103]
def Ty:Value:=.agg ⟨.nilFunc::K8.map (fun f=>.func (.func f) #[] #[])⟩
theorem Jx {n:Int} (h:1<=n/\n<=15):n=1\/n=2\/n=3\/n=4\/n=5\/n=6\/n=7\/n=8\/n=9\/n=10\/n=11\/n=12\/n=13\/n=14\/n=15:=by omega
theorem Rc {w:World} {o:Oper} {ev:Operand->Value} {x y:Operand} {n:Int} (ho:o.op=.index 145 x y) (hx:ev x=Ty) (hy:ev y=.int .i64 n) (hn:1<=n/\n<=15):nC Tryz.prog ev o w (.func (.func (K8.getD (n.toNat - 1) 0)) #[] #[]) w:=by
  obtain⟨dst,op,type,pos,after,guard⟩:=o
  cases ho
  refine .inl ?_
  simp only [execOp,hx,hy]
  rcases Jx hn with h|h|h|h|h|h|h|h|h|h|h|h|h|h|h<;>subst h<;>kernel_rfl
theorem aj.hn {β:Bs} {N k:Nat} {ops:Array Oper} {fr:Fr} {hps:List HP} {Q:Post} {d:Option Tmp} {x y:Operand} {n:Int} (hn:1<=n/\n<=15) (K:aj Tryz.prog β N ops (k+1) (dJ fr d (.func (.func (K8.getD (n.toNat - 1) 0)) #[] #[])) hps Q)
    (hop:∀ junk,fo N junk ops fr k=some (.index 145 x y,d):=by intro _;kernel_rfl) (hx:∀ junk,di N fr junk x=Ty:=by intro _;kernel_rfl) (hy:∀ junk,di N fr junk y=.int .i64 n:=by intro _;kernel_rfl):aj Tryz.prog β N ops k fr hps Q:=
  aj.jy hop (fun _ junk w ho hS=>⟨w,Rc ho (hx junk) (hy junk) hn,hS⟩) K
theorem SQ {β:Bs} {S:aH} {L:HL} {f m t b:Nat} {c:aF} (n:Int) (hI:Inv S) (hC:gh β c) (h:1<=n/\n<=15) (he:c.op=n):Spec Tryz.prog β (K8.getD (n.toNat - 1) 0) #[vP f,vP b] (pA f m t L S++[pC b c]) (fun v l=>∃ L2,v=vI (cP S c).1/\l=pA f m t L2 (cP S c).2.1++[pC b (cP S c).2.2]):=by
  subst he
  rcases Jx h with h|h|h|h|h|h|h|h|h|h|h|h|h|h|h<;>rw [h]
  ·rw [tV h];exact Jq S L f m t hI b c hC
  ·rw [vQ h];exact D1 S L f m t hI b c hC
  ·rw [vR h];exact CU S L f m t hI b c hC
  ·rw [tW h];exact GD S L f m t hI b c hC
  ·rw [vS h];exact FL S L f m t hI b c hC
  ·rw [vT h];exact D2 S L f m t hI b c hC
  ·rw [vU h];exact Jt S L f m t hI b c hC
  ·rw [vV h];exact FE S L f m t hI b c hC
  ·rw [vW h];exact GH S L f m t hI b c hC
  ·rw [sN h];exact D3 S L f m t hI b c hC
  ·rw [sO h];exact Ju S L f m t hI b c hC
  ·rw [sP h];exact FJ S L f m t hI b c hC
  ·rw [sQ h];exact GI S L f m t hI b c hC
  ·rw [sR h];exact GF S L f m t hI b c hC
  rw [sS h];exact FH S L f m t hI b c hC
theorem K9 {S:aH} {c:aF} (h:1<=c.op/\c.op<=15):(cP S c).2.2.op=c.op:=by
  rcases Jx h with h|h|h|h|h|h|h|h|h|h|h|h|h|h|h
  ·rw [tV h];exact Pj
  ·rw [vQ h];exact IX
  ·rw [vR h];exact Gr
  ·rw [tW h];exact IY
  ·rw [vS h];exact Gs
  ·rw [vT h];exact E6
  ·rw [vU h];exact KA
  ·rw [vV h];exact Gt
  ·rw [vW h];exact I0
  ·rw [sN h];exact I3
  ·rw [sO h];exact Pk
  ·rw [sP h];exact KC
  ·rw [sQ h];exact MB
  ·rw [sR h];exact IZ
  rw [sS h];exact Gu
end
section
open Go.RowKit Go.Maps bD aE
attribute [local irreducible] aj aP af ai
abbrev pN (b3:Nat):=(.blk b3 [vI 0,vI 0,vI 0,.string ⟨#[]⟩,.string ⟨#[]⟩,.slice none (0) (0),vI 0,vI 0,vI 0,vI 0,vI 0,vI 0,vI 0] 48:HP)
abbrev Tz (c:aF):=([(0,vI (c.op)),(1,vI (c.handle)),(2,vI (c.other)),(3,.string c.name),(4,.string c.text),(5,.slice c.dA (c.data.length) (c.dC)),(6,vI (c.mode)),(7,vI (c.uid)),(8,vI (c.gid)),(9,vI (c.sec)),(10,vI (c.nano)),(11,vI 230)]:Fr)
theorem GJ {β:Bs}:Spec Tryz.prog β 65 #[] [] (fun v l=>v=.agg #[.nilFunc,.func (.func 89) #[] #[],.func (.func 90) #[] #[],.func (.func 91) #[] #[],.func (.func 92) #[] #[],.func (.func 93) #[] #[],.func (.func 94) #[] #[],.func (.func 95) #[] #[],.func (.func 96) #[] #[],.func (.func 97) #[] #[],.func (.func 98) #[] #[],.func (.func 99) #[] #[],.func (.func 100) #[] #[],.func (.func 101) #[] #[],.func (.func 102) #[] #[],.func (.func 103) #[] #[]]/\l=[]):=by
 refine Spec.enter Tryz.func65 rfl Tryz.ntmps65 (Nat.le_of_ble_eq_true rfl) (fun R=>?_)
 refine SR (gN 1 (fun b1=>[(0,vP b1)]) (fun _=>[]) (fun _=>[]) (fun b1=>.blk b1 [.nilFunc,.nilFunc,.nilFunc,.nilFunc,.nilFunc,.nilFunc,.nilFunc,.nilFunc,.nilFunc,.nilFunc,.nilFunc,.nilFunc,.nilFunc,.nilFunc,.nilFunc,.nilFunc] 145) (fun b1=>?_))
 refine NS (gC 2 [] [(1,A_ 1 b1 16)] [(1,[(1,.func (.func 89) #[] #[]),(2,.func (.func 90) #[] #[]),(3,.func (.func 91) #[] #[]),(4,.func (.func 92) #[] #[]),(5,.func (.func 93) #[] #[]),(6,.func (.func 94) #[] #[]),(7,.func (.func 95) #[] #[]),(8,.func (.func 96) #[] #[]),(9,.func (.func 97) #[] #[]),(10,.func (.func 98) #[] #[]),(11,.func (.func 99) #[] #[]),(12,.func (.func 100) #[] #[]),(13,.func (.func 101) #[] #[]),(14,.func (.func 102) #[] #[]),(15,.func (.func 103) #[] #[])])] ?_)
 refine NN (af.ret ?_)
 exact ai.ret (v:=.agg #[.nilFunc,.func (.func 89) #[] #[],.func (.func 90) #[] #[],.func (.func 91) #[] #[],.func (.func 92) #[] #[],.func (.func 93) #[] #[],.func (.func 94) #[] #[],.func (.func 95) #[] #[],.func (.func 96) #[] #[],.func (.func 97) #[] #[],.func (.func 98) #[] #[],.func (.func 99) #[] #[],.func (.func 100) #[] #[],.func (.func 101) #[] #[],.func (.func 102) #[] #[],.func (.func 103) #[] #[]]) (l:=[]) (bC:=[b1=b1,b1=b1,b1=b1,b1=b1,b1=b1,b1=b1,b1=b1,b1=b1,b1=b1,b1=b1,b1=b1,b1=b1,b1=b1,b1=b1,b1=b1,b1=b1]) [.at 1,.at 1,.at 1,.at 1,.at 1,.at 1,.at 1,.at 1,.at 1,.at 1,.at 1,.at 1,.at 1,.at 1,.at 1,.at 1] [0] (fun _=>by kernel_rfl) ⟨rfl,rfl,rfl,rfl,rfl,rfl,rfl,rfl,rfl,rfl,rfl,rfl,rfl,rfl,rfl,rfl,trivial⟩ rfl (by kernel_rfl) (⟨rfl,rfl⟩)
theorem FN {β:Bs} (S:aH) (L:HL) (f m t:Nat) (hI:Inv S) (c:aF) (hC:gh β c) :
    Spec Tryz.prog β 24 #[vP f,.agg #[vI (c.op),vI (c.handle),vI (c.other),.string c.name,.string c.text,.slice c.dA (c.data.length) (c.dC),vI (c.mode),vI (c.uid),vI (c.gid),vI (c.sec),vI (c.nano),vI (c.code),vI (c.answer)]] (pA f m t L S) (fun v l=>∃ L2,v=.agg ⟨bN (cA S c).2⟩/\l=(pA f m t L2 ((cA S c).1))):=by
 have hX:=hI.hX
 refine Spec.enter Tryz.func24 rfl Tryz.ntmps24 (Nat.le_of_ble_eq_true rfl) (fun R=>?_)
 refine SR (gN 1 (fun b2=>[(3,vP b2)]) (fun _=>[]) (fun _=>[]) (fun b2=>pC b2 c) (fun b2=>?_))
 refine gN 1 (fun b3=>[(4,vP b3)]) (fun _=>[]) (fun _=>[]) (fun b3=>.blk b3 [vI 0,vI 0,vI 0,.string ⟨#[]⟩,.string ⟨#[]⟩,.slice none (0) (0),vI 0,vI 0,vI 0,vI 0,vI 0,vI 0,vI 0] 48) (fun b3=>?_)
 refine NS (gC 2 [] [(1,a_ 7 b2)] [(7,[(12,vI 0)])] ?_)
 refine NS (gC 2 [] [(1,a_ 7 b2)] [(7,[(11,vI 230)])] ?_)
 refine NN (af.seq (SR (gK 4 [(10,.bool (decide ((c.op:Int) ≥ (1:Int))))] [(1,a_ 7 b2)] ?_)))
 refine aj.gE 10 ((c.op:Int) ≥ (1:Int)) (fun _=>by kernel_rfl) (fun h10=>?_) (fun h10=>?_)
 ·refine gK 4 [(14,.bool (decide ((c.op:Int)<=(15:Int))))] [(1,a_ 7 b2)] ?_
  refine NN (af.aV (p:=(c.op:Int)<=(15:Int)) (fun _=>by kernel_rfl) (fun jc=>?_) (fun jc=>?_))
  ·have hop:1<=c.op/\c.op<=15:=⟨h10,jc⟩
   refine af.Jv (S:=[.abs (vk b2 (.int .i64 c.op))]) [1,2,4,0,3,5,6,7] 3 (by kernel_rfl) (by kernel_rfl) (fun w hS=>hS.first (i:=7) (b:=b2) rfl rfl) ?_
   refine gR 0 [0,3,5,6,7] [(3,vP b2),(4,vP b3),(17,vI (c.op)),(19,vP f)] [1,2,4] [(1,p_ ⟨[.view 0 (.int .i64 (c.op))],none,none,none,none⟩ [(∀ F w,(vk b2 (.int .i64 c.op)).h F w->w.cell? ⟨b2,0,none⟩=some (vI (c.op)))] ⟨vk.cell,trivial⟩)] ?_
   refine aN.Jw (ι:=Unit) (fr':=fun (_:Unit)=>[(3,vP b2),(4,vP b3),(15,.agg #[.nilFunc,.func (.func 89) #[] #[],.func (.func 90) #[] #[],.func (.func 91) #[] #[],.func (.func 92) #[] #[],.func (.func 93) #[] #[],.func (.func 94) #[] #[],.func (.func 95) #[] #[],.func (.func 96) #[] #[],.func (.func 97) #[] #[],.func (.func 98) #[] #[],.func (.func 99) #[] #[],.func (.func 100) #[] #[],.func (.func 101) #[] #[],.func (.func 102) #[] #[],.func (.func 103) #[] #[]]),(17,vI (c.op)),(19,vP f)]) (hp':=fun (_:Unit)=>((pA f m t L S)++[.abs R,pC b2 (c0 c),pN b3])) rfl rfl ?_ (by rintro _ w hS;exact hS.first (i:=7) (b:=b2) rfl rfl) ?_
   ·refine gL [] (GJ) ?_
    rintro _ _ ⟨rfl,rfl⟩
    refine NL ?_
    exact MD () [3,4,15,17,19] [0,1,2,3,4,5,6,7,8]
   rintro _
   refine aN.Jw (ι:=Unit) (fr':=fun (_:Unit)=>[(3,vP b2),(4,vP b3),(18,.func (.func (K8.getD (c.op.toNat - 1) 0)) #[] #[]),(19,vP f)]) (hp':=fun (_:Unit)=>((pA f m t L S)++[.abs R,pC b2 (c0 c),pN b3])) rfl rfl ?_ (by rintro _ w hS;exact hS.first (i:=7) (b:=b2) rfl rfl) ?_
   ·refine aj.hn (x:=(.tmp 15)) (y:=(.tmp 17)) (d:=(some 18)) hop ?_
    refine NL ?_
    exact MD () [3,4,18,19] [0,1,2,3,4,5,6,7,8]
   rintro _
   refine aN.Jw (ι:=HL) (fr':=fun (L2:HL)=>[(3,vP b2),(4,vP b3),(20,vI ((cP S (c0 c)).1))]) (hp':=fun (L2:HL)=>((pA f m t L2 ((cP S (c0 c)).2.1))++[pC b2 ((cP S (c0 c)).2.2),.abs R,pN b3])) rfl rfl ?_ (by rintro L2 w hS;exact hS.first (i:=6) (b:=b2) rfl (congrArg (fun z=>some (Value.int .i64 z)) (K9 (c:=(c0 c)) hop))) ?_
   ·refine gL [0,1,2,3,4,5,7] (SQ (S:=S) (L:=L) (f:=f) (m:=m) (t:=t) (b:=b2) (c:=(c0 c)) c.op hI ⟨hC.hw,hC.ow,hC.nm,hC.tx,hC.da,hC.dl,hC.dc⟩ hop rfl) ?_ (by intro _;rcases Jx hop with h|h|h|h|h|h|h|h|h|h|h|h|h|h|h<;>rw [h]<;>kernel_rfl)
    rintro _ _ ⟨L2,rfl,rfl⟩
    refine NL ?_
    exact MD L2 [3,4,20] [0,1,2,3,4,5,6,7,8]
   rintro L2
   refine aN.Jw (ι:=Unit) (fr':=fun (_:Unit)=>[(3,vP b2),(4,vP b3),(20,vI ((cP S (c0 c)).1)),(21,.pointer (some ⟨b2,11,none⟩))]) (hp':=fun (_:Unit)=>((pA f m t L2 ((cP S (c0 c)).2.1))++[pC b2 ((cP S (c0 c)).2.2),.abs R,pN b3])) rfl rfl ?_ (by rintro _ w hS;exact hS.first (i:=6) (b:=b2) rfl (congrArg (fun z=>some (Value.int .i64 z)) (K9 (c:=(c0 c)) hop))) ?_
   ·refine gK 1 [(21,.pointer (some ⟨b2,11,none⟩))] [] ?_
    refine NL ?_
    exact MD () [3,4,20,21] [0,1,2,3,4,5,6,7,8]
   rintro _
   refine aN.last rfl rfl ?_
   refine gC 1 [] [(0,a_ 6 b2)] [(6,[(11,vI ((cP S (c0 c)).1))])] ?_
   refine NL (ai.np (NX (SR ?_)))
   refine gC 2 [] [(0,A_ 6 b2 13),(1,A_ 8 b3 13)] [(8,[(0,vI ((cP S (c0 c)).2.2.op)),(1,vI ((cP S (c0 c)).2.2.handle)),(2,vI ((cP S (c0 c)).2.2.other)),(3,.string (cP S (c0 c)).2.2.name),(4,.string (cP S (c0 c)).2.2.text),(5,.slice (cP S (c0 c)).2.2.dA ((cP S (c0 c)).2.2.data.length) ((cP S (c0 c)).2.2.dC)),(6,vI ((cP S (c0 c)).2.2.mode)),(7,vI ((cP S (c0 c)).2.2.uid)),(8,vI ((cP S (c0 c)).2.2.gid)),(9,vI ((cP S (c0 c)).2.2.sec)),(10,vI ((cP S (c0 c)).2.2.nano)),(11,vI ((cP S (c0 c)).1)),(12,vI ((cP S (c0 c)).2.2.answer))])] ?_
   refine NN (af.ret ?_)
   exact ai.ret (v:=.agg #[vI ((cP S (c0 c)).2.2.op),vI ((cP S (c0 c)).2.2.handle),vI ((cP S (c0 c)).2.2.other),.string (cP S (c0 c)).2.2.name,.string (cP S (c0 c)).2.2.text,.slice (cP S (c0 c)).2.2.dA ((cP S (c0 c)).2.2.data.length) ((cP S (c0 c)).2.2.dC),vI ((cP S (c0 c)).2.2.mode),vI ((cP S (c0 c)).2.2.uid),vI ((cP S (c0 c)).2.2.gid),vI ((cP S (c0 c)).2.2.sec),vI ((cP S (c0 c)).2.2.nano),vI ((cP S (c0 c)).1),vI ((cP S (c0 c)).2.2.answer)]) (l:=(pA f m t L2 ((cP S (c0 c)).2.1))) (bC:=[b3=b3,b3=b3,b3=b3,b3=b3,b3=b3,b3=b3,b3=b3,b3=b3,b3=b3,b3=b3,b3=b3,b3=b3,b3=b3]) [.at 8,.at 8,.at 8,.at 8,.at 8,.at 8,.at 8,.at 8,.at 8,.at 8,.at 8,.at 8,.at 8] [0,1,2,3,4,5,7] (fun _=>by kernel_rfl) ⟨rfl,rfl,rfl,rfl,rfl,rfl,rfl,rfl,rfl,rfl,rfl,rfl,rfl,trivial⟩ rfl (by kernel_rfl) (⟨L2,rfl,rfl⟩)
  refine af.skip (NX (SR (gC 2 [] [(0,A_ 7 b2 13),(1,A_ 8 b3 13)] [(8,(Tz c))] ?_)))
  refine NN (af.ret ?_)
  exact ai.ret (v:=.agg #[vI (c.op),vI (c.handle),vI (c.other),.string c.name,.string c.text,.slice c.dA (c.data.length) (c.dC),vI (c.mode),vI (c.uid),vI (c.gid),vI (c.sec),vI (c.nano),vI 230,vI 0]) (l:=(pA f m t L S)) (bC:=[b3=b3,b3=b3,b3=b3,b3=b3,b3=b3,b3=b3,b3=b3,b3=b3,b3=b3,b3=b3,b3=b3,b3=b3,b3=b3]) [.at 8,.at 8,.at 8,.at 8,.at 8,.at 8,.at 8,.at 8,.at 8,.at 8,.at 8,.at 8,.at 8] [0,1,2,3,4,5,6] (fun _=>by kernel_rfl) ⟨rfl,rfl,rfl,rfl,rfl,rfl,rfl,rfl,rfl,rfl,rfl,rfl,rfl,trivial⟩ rfl (by kernel_rfl) (⟨L,by unfold cA;rw [sU (S:=S) (c:=(c0 c)) (by show ¬ (1<=c.op/\c.op<=15);omega)];exact⟨rfl,rfl⟩⟩)
 refine gK 4 [(14,.bool false)] [] ?_
 refine NN (CF (af.skip (NX (SR (gC 2 [] [(0,A_ 7 b2 13),(1,A_ 8 b3 13)] [(8,(Tz c))] ?_)))))
 refine NN (af.ret ?_)
 exact ai.ret (v:=.agg #[vI (c.op),vI (c.handle),vI (c.other),.string c.name,.string c.text,.slice c.dA (c.data.length) (c.dC),vI (c.mode),vI (c.uid),vI (c.gid),vI (c.sec),vI (c.nano),vI 230,vI 0]) (l:=(pA f m t L S)) (bC:=[b3=b3,b3=b3,b3=b3,b3=b3,b3=b3,b3=b3,b3=b3,b3=b3,b3=b3,b3=b3,b3=b3,b3=b3,b3=b3]) [.at 8,.at 8,.at 8,.at 8,.at 8,.at 8,.at 8,.at 8,.at 8,.at 8,.at 8,.at 8,.at 8] [0,1,2,3,4,5,6] (fun _=>by kernel_rfl) ⟨rfl,rfl,rfl,rfl,rfl,rfl,rfl,rfl,rfl,rfl,rfl,rfl,rfl,trivial⟩ rfl (by kernel_rfl) (⟨L,by unfold cA;rw [sU (S:=S) (c:=(c0 c)) (by show ¬ (1<=c.op/\c.op<=15);omega)];exact⟨rfl,rfl⟩⟩)
end
section
open Go.RowKit Go.Maps bD aE
attribute [local irreducible] aj aP af ai
abbrev HM (B)(d:List UInt8) (cap):=(.abs (aK 5 1 B d.length cap (bY d)):HP)
abbrev TA (b5:Nat) (An:Option Addr) (i:Nat) (cn:Nat):=(.blk b5 [.slice An (i) (cn)] 24:HP)
abbrev TB (An:Option Addr) (i:Nat) (cn:Nat) (K) (S:aH):=(.abs (aK 70 10 An i cn (dI K ((av S).take i))):HP)
abbrev TD (S:aH) (i:Nat) (K):=(.abs (jB (lQ ((av S).take i) K) i):HP)
abbrev TF (S:aH) (i:Nat) (K):=(.abs (jB (lS ((av S).take i) K) i):HP)
abbrev TG (A7:Option Addr) (S:aH) (c8:Nat):=(.abs (aK 3 1 A7 ((keys S.idx).length) c8 (ints (keys S.idx))):HP)
abbrev TH (b4:Nat):=(.blk b4 [.slice none (0) (0)] 24:HP)
abbrev Rf (b9:Nat):=(.blk b9 [vI 0,vI 0,vI 0,vI 0,vI 0,vI 0,vI 0,.slice none (0) (0),.string ⟨#[]⟩,.slice none (0) (0)] 70:HP)
abbrev TJ (b9:Nat) (S:aH) (i:Nat) (tk:Nat):=(.blk b9 [vI ((cJ S i)),vI 1,vI ((obj S.O tk).mode),vI ((obj S.O tk).uid),vI ((obj S.O tk).gid),vI ((obj S.O tk).sec),vI ((obj S.O tk).nano),.slice none (0) (0),.string ⟨#[]⟩,.slice none (0) (0)] 70:HP)
abbrev Rg (S:aH) (L:HL) (tk:Nat):=(.abs (ax (kD (cK S.O L) tk cr.none)):HP)
abbrev FO (L:HL) (tk:Nat) (S:aH):=(.abs (aL Tryz.prog 9 (L.m tk) (iL L (obj S.O tk).ah) ((obj S.O tk).ah.length)):HP)
abbrev jD (b15:Nat) (S:aH) (i:Nat) (tk:Nat) (Ae:Option Addr) (j:Nat) (ce:Nat):=(.blk b15 [vI ((cJ S i)),vI 2,vI ((obj S.O tk).mode),vI ((obj S.O tk).uid),vI ((obj S.O tk).gid),vI ((obj S.O tk).sec),vI ((obj S.O tk).nano),.slice none (0) (0),.string ⟨#[]⟩,.slice Ae (j) (ce)] 70:HP)
abbrev og (Ae:Option Addr) (j:Nat) (ce:Nat) (S:aH) (tk:Nat):=(.abs (aK 140 2 Ae j ce (gV (((obj S.O tk).ah.take j).map (jP S.O)))):HP)
abbrev Rh (b16:Nat) (L:HL) (tk:Nat):=(.blk b16 [.map (some (L.m tk))] 136:HP)
abbrev Ri (dZ:Option Addr) (S:aH) (tk:Nat) (fB:Nat):=(.abs (aK 9 1 dZ ((obj S.O tk).ah.length) fB (qL (obj S.O tk).ah)):HP)
abbrev C0 (nF:Option Addr) (j:Nat) (nG:Nat) (S:aH) (tk:Nat):=(.abs (aK 140 2 nF (j+1) nG (gV (((obj S.O tk).ah.take (j+1)).map (jP S.O)))):HP)
abbrev C2 (b19:Nat) (S:aH) (tk:Nat) (j:Nat) (ek:Nat):=(.blk b19 [.string (eU (obj S.O tk).ah j),vI ((obj S.O ek).id)] 140:HP)
abbrev mg (f:Nat) (b4:Nat) (b5:Nat) (b15:Nat) (L:HL) (tk:Nat) (A7:Option Addr) (S:aH) (c8:Nat) (i:Nat) (dZ:Option Addr) (fB:Nat) (j:Nat):=([(0,vP f),(2,vP b4),(3,vP b5),(8,vP b15),(11,vP (L.b tk)),(19,.slice A7 ((keys S.idx).length) (c8)),(20,vI ↑((keys S.idx).length)),(21,vI ↑i),(79,.slice dZ ((obj S.O tk).ah.length) (fB)),(80,vI ↑((obj S.O tk).ah.length)),(81,vI ↑j)]:Fr)
abbrev lp (L:HL) (tk:Nat) (S:aH) (b16:Nat) (dZ:Option Addr) (fB:Nat) (b5:Nat) (An:Option Addr) (i:Nat) (cn:Nat) (K) (A7:Option Addr) (c8:Nat) (b4:Nat) (f:Nat) (m:Nat) (t) (R:cr):=([FO L tk S,Rh b16 L tk,Ri dZ S tk fB,TA b5 An i cn,TB An i cn K S,TD S i K,TF S i K,TG A7 S c8,TH b4,pF f m t S.X,pI m L S.idx,pO S.O L,pD S.O L,Rg S L tk,.abs R]:List HP)
abbrev FP (f:Nat) (b4:Nat) (b5:Nat) (b15:Nat) (L:HL) (tk:Nat) (A7:Option Addr) (S:aH) (c8:Nat) (i:Nat) (dZ:Option Addr) (fB:Nat) (j:Nat):=([(0,vP f),(2,vP b4),(3,vP b5),(8,vP b15),(11,vP (L.b tk)),(19,.slice A7 ((keys S.idx).length) (c8)),(20,vI ↑((keys S.idx).length)),(21,vI ↑i),(79,.slice dZ ((obj S.O tk).ah.length) (fB)),(80,vI ↑((obj S.O tk).ah.length)),(81,vI ↑j)]:Fr)
abbrev C3 (S:aH) (tk:Nat):=([(39,vI ((obj S.O tk).mode)),(43,vI ((obj S.O tk).uid)),(47,vI ((obj S.O tk).gid)),(51,.agg #[vI ((obj S.O tk).sec),vI ((obj S.O tk).nano)])]:Fr)
abbrev yg (f:Nat) (b4:Nat) (b5:Nat):=([(0,vP f),(2,vP b4),(3,vP b5)]:Fr)
abbrev yh (A7:Option Addr) (S:aH) (c8:Nat) (i:Nat):=([(19,.slice A7 ((keys S.idx).length) (c8)),(20,vI ↑((keys S.idx).length)),(21,vI ↑i)]:Fr)
abbrev wu (b5:Nat) (An:Option Addr) (i:Nat) (cn:Nat) (K) (S:aH) (A7:Option Addr) (c8:Nat) (b4:Nat) (f:Nat) (m:Nat) (t) (L:HL):=([TA b5 An i cn,TB An i cn K S,TD S i K,TF S i K,TG A7 S c8,TH b4,pF f m t S.X,pI m L S.idx,pO S.O L]:List HP)
abbrev q6 (Ae:Option Addr) (j:Nat) (ce:Nat) (S:aH) (tk:Nat):=([(86,.slice Ae (j) (ce)),(87,.string (eU (obj S.O tk).ah j))]:Fr)
abbrev Nc (S:aH) (tk:Nat):=([(2,vI ((obj S.O tk).mode)),(3,vI ((obj S.O tk).uid)),(4,vI ((obj S.O tk).gid)),(5,vI ((obj S.O tk).sec)),(6,vI ((obj S.O tk).nano))]:Fr)
theorem C4 {β:Bs} (c:Nat):Spec Tryz.prog β 58 #[.slice none 0 c] [] (fun v l=>∃ B cap,v=.slice B 0 cap/\l=[.abs (aK 5 1 B 0 cap [])]):=by
 refine Spec.enter Tryz.func58 rfl Tryz.ntmps58 (Nat.le_of_ble_eq_true rfl) (fun R=>?_)
 refine SR (gK 1 [] [] ?_)
 refine NN (af.seq (SR (gK 2 [(4,.bool true)] [] ?_)))
 refine NN (CT (SR (gK 1 [(2,.slice none (0) (0))] [] ?_)))
 refine NN (af.ret (ai.ak (ai.mem (fun w hS=>(hS.j7 (e:=5) (size:=1)).pick (idx:=[1,0]) (l':=[.abs (aK 5 1 none 0 0 ([])),.abs R]) rfl (by kernel_rfl)) ?_)))
 exact RT (.slice none (0) (0)) [0,1] (⟨none,0,rfl,rfl⟩)
theorem BO {β:Bs} (a:Addr) (c:Nat) (d:List UInt8) (hA:bA β (some a) d) (hl:d.length<=140737488355328):Spec Tryz.prog β 58 #[.slice (some a) d.length c] [] (fun v l=>∃ B cap,v=.slice B d.length cap/\l=[HM B d cap]):=by
 refine Spec.enter Tryz.func58 rfl Tryz.ntmps58 (Nat.le_of_ble_eq_true rfl) (fun R=>?_)
 refine SR (gK 1 [] [] ?_)
 refine NN (af.seq (SR (gK 2 [(4,.bool false)] [] ?_)))
 refine NN (CF (af.skip (NX (SR (gN 1 (fun b1=>[(5,.slice (some ⟨b1,0,none⟩) (0) (0))]) (fun _=>[]) (fun _=>[]) (fun b1=>.blk b1 [] 5) (fun b1=>?_))))))
 refine aj.mem (fun w hS=>hS.rH (i:=1) (b:=b1) (cs:=[]) (e:=5) 1 0 (by kernel_rfl) rfl (by decide)) ?_
 refine gK 1 [(6,.slice (some a) (d.length) (c))] [] ?_
 refine aj.append 1 (d:=(some 7)) (t:=46) (e:=5) (z:=.int .u8 0) (size:=1) (bytes:=1) (n:=0) (cap:=0) (A:=some ⟨b1,0,none⟩) (xs:=[]) (s:=(.tmp 5)) (x:=(.tmp 6)) (ats:=#[46,46]) (A':=(some a)) (m:=d.length) (c':=c) (news:=(bY d)) (fun _=>by kernel_rfl) rfl (by kernel_rfl) (fun _=>by kernel_rfl) (fun _=>by kernel_rfl) Tryz.underlying46 (by kernel_rfl) rfl (by decide) (by rw [rI,Nat.mul_one]) (nO d) (hA.src) (by unfold maxLen;omega) (by omega) (fun A2 c3=>?_)
 refine aj.dm 1 (p:=.abs (aK 5 1 A2 (0+d.length) c3 ([]++(bY d)))) (p':=.abs (aK 5 1 A2 d.length c3 (bY d))) (by kernel_rfl) (by rw [Nat.zero_add,List.nil_append]) ?_
 refine aj.slot 7 (.slice A2 (0+d.length) (c3)) (.slice A2 (d.length) (c3)) (fun _=>by kernel_rfl) (by rw [Nat.zero_add]) ?_
 refine gK 1 [(2,.slice A2 (d.length) (c3))] [] ?_
 refine NN (af.ret ?_)
 exact RT (.slice A2 (d.length) (c3)) [1,0] (⟨A2,c3,rfl,rfl⟩)
theorem uF {β:Bs} (A:Option Addr) (c:Nat) (d:List UInt8) (hA:bA β A d) (hl:d.length<=140737488355328):Spec Tryz.prog β 58 #[.slice A d.length c] [] (fun v l=>∃ B cap,v=.slice B d.length cap/\l=[HM B d cap]):=by
  cases A with
  | some a=>exact BO a c d hA hl
  | none=>
    cases d with
    | nil=>exact C4 c
    | cons b r=>have h:=bA.hd hA (j:=0) (by simp);cases h
theorem FQ {β:Bs} (A:Option Addr) (c:Nat) (d:List UInt8) (hl:d.length<=140737488355328):Spec Tryz.prog β 58 #[.slice A d.length c] [HM A d c] (fun v l=>∃ B cap,v=.slice B d.length cap/\l=[HM B d cap,HM A d c]):=
  (Spec.Cq (pre:=[]) (R:=[HM A d c]) (fun _ h=>uF A c d h.bytes hl)).mono (by rintro v l ⟨l0,⟨B,cap,rfl,rfl⟩,rfl⟩;exact⟨B,cap,rfl,rfl⟩)
theorem FR {β:Bs} (L:HL) (b bk:Nat) (idx:Used Th) (hr:aE.ct (keys idx)) (hn:idx.length<=4096) :
    Spec Tryz.prog β 66 #[Bh bk] [pI b L idx,.blk bk [.map (some b)] 120] (fun v l=>∃ A cap,v=.slice A (keys idx).length cap/\l=[pI b L idx,.blk bk [.map (some b)] 120,.abs (aK 3 1 A (keys idx).length cap (ints (keys idx)))]):=
  (IG b bk idx.length (aX (aY L idx)) (by omega)).mono (by
    rintro v l ⟨A,cap,ss,rfl,hk,_,rfl⟩
    have e:=Pf (us:=aY L idx) (by rw [zQ];exact hr) hk
    rw [zQ] at e
    subst e
    exact⟨A,cap,rfl,rfl⟩)
theorem La {β:Bs} (S:aH) (L:HL) (f m t:Nat) (hI:Inv S) :
    Spec Tryz.prog β 25 #[vP f] [pF f m t S.X,pI m L S.idx,pO S.O L,pD S.O L,pE S.O L] (fun v l=>∃ A c K,v=.agg #[.slice A (av S).length c]/\l=[pF f m t S.X,pI m L S.idx,pO S.O L,pD S.O L,pE S.O L]++MK A c (av S) K):=by
 have hX:=hI.hX
 have hkl:(keys S.idx).length=S.idx.length:=zV _
 have hil:=hI.len
 refine Spec.enter Tryz.func25 rfl Tryz.ntmps25 (Nat.le_of_ble_eq_true rfl) (fun R=>?_)
 refine SR (gN 1 (fun b4=>[(2,vP b4)]) (fun _=>[]) (fun _=>[]) (fun b4=>.blk b4 [.slice none (0) (0)] 24) (fun b4=>?_))
 refine NS (gN 1 (fun b5=>[(3,vP b5)]) (fun _=>[]) (fun _=>[]) (fun b5=>.blk b5 [.slice none (0) (0)] 24) (fun b5=>?_))
 refine NN (af.seq (SR (gK 4 [(17,.map (some m))] [(3,a_ 0 f)] ?_)))
 refine gL [] (Mf (some m)) ?_
 rintro _ _ ⟨b6,rfl,rfl⟩
 refine gL [2,0] (FR L m b6 S.idx hI.rise hI.len) ?_
 rintro _ _ ⟨A7,c8,rfl,rfl⟩
 refine gK 1 [(20,vI ↑((keys S.idx).length))] [] ?_
 refine aj.mem (fun w hS=>hS.j7 (e:=70) (size:=10)) ?_
 refine aj.mem (fun w hS=>hS.J4 (lQ [] MJ)) ?_
 refine aj.mem (fun w hS=>hS.J4 (lS [] MJ)) ?_
 refine gK 1 [(21,vI 0)] [] ?_
 refine NN (af.block ?_)
 refine af.loop (ι:=Nat×(Option Addr)×Nat×Lay) (fun ((i,An,cn,K):Nat×(Option Addr)×Nat×Lay)=>(i<=S.idx.length)) (fun ((i,An,cn,K):Nat×(Option Addr)×Nat×Lay)=>S.idx.length - i) (fun ((i,An,cn,K):Nat×(Option Addr)×Nat×Lay)=>(yg f b4 b5++yh A7 S c8 i)) (fun ((i,An,cn,K):Nat×(Option Addr)×Nat×Lay)=>(wu b5 An i cn K S A7 c8 b4 f m t L++[pD S.O L,pE S.O L,.abs R])) (0,none,0,MJ) (idx:=[0,2,3,19,20,21]) (pk:=[9,10,11,12,2,8,3,0,4,5,6,7]) (show (0<=S.idx.length) from (Nat.zero_le _)) (fun _=>by kernel_rfl) rfl (by kernel_rfl) ?_
 rintro⟨i,An,cn,K⟩ hi
 show af _ _ _ _ (yg f b4 b5++yh A7 S c8 i) (wu b5 An i cn K S A7 c8 b4 f m t L++[pD S.O L,pE S.O L,.abs R]) _
 refine SR (gK 1 [(22,.bool (decide ((((i:Nat):Int):Int) < ((((keys S.idx).length:Nat):Int):Int))))] [] ?_)
 refine NN (af.seq (af.aV (p:=(((i:Nat):Int):Int) < ((((keys S.idx).length:Nat):Int):Int)) (fun _=>by kernel_rfl) (fun wN=>?_) (fun wN=>?_)))
 ·have hi2:i < S.idx.length:=by omega
  refine af.skip (NX (af.seq (af.block (SR ?_))))
  refine aj.tell (p:=(A7=some ⟨ar A7,aq A7,none⟩)) (fun w hS=>let ⟨F,h⟩:=hS.get (i:=4) rfl;(aK.Ik h (by omega)).1) (fun hAk=>?_)
  refine gK 3 [(5,vI ((cJ S i)))] [(0,p_ ⟨[],some i,none,some ⟨(ar A7),aq A7,none⟩,none⟩ [((i:Nat):Int)=((i:Nat):Int),i < (keys S.idx).length,(⟨(ar A7),aq A7,none⟩:Addr).spot=none,(A7:Option Addr)=some ⟨(ar A7),aq A7,none⟩] ⟨rfl,by omega,rfl,hAk,trivial⟩),(1,p_ ⟨[.view 4 (.int .i64 ((cJ S i)))],none,none,none,none⟩ [(∀ F w,(aK 3 1 A7 ((keys S.idx).length) c8 (ints (keys S.idx))).h F w->w.cell? ⟨(ar A7),aq A7+i * 1,none⟩=some (vI ((cJ S i))))] ⟨aK.cellAt (i:=i) (j:=0) (by omega) (ML hi2),trivial⟩)] ?_
  refine NN (af.seq ?_)
  have Wv:=(oG hI.toInv0 hi2).1
  have hget:=get_at hI.toInv0 hi2
  rcases SC hI.toInv0 hi2 with ⟨tk,lE,hlv⟩|⟨tk,lE,hlv⟩|⟨tk,lE,hlv⟩
  ·have hkt:(obj S.O tk).kind=1:=hI.kind hlv
   have hel:(obj S.O tk).ah.length<=8192:=hI.gy hlv
   have hdl:(obj S.O tk).data.length<=140737488355328:=hI.IJ hlv
   refine af.region (gK 5 [(28,.map (some m)),(29,vI ((cJ S i)))] [(3,a_ 6 f)] ?_)
   refine aj.dR 7 (d:=(some 30)) (t:=120) (K:=3) (E:=124) (b:=m) (n:=S.idx.length) (f:=(aX (aY L S.idx))) (x:=(.tmp 28)) (ix:=(.tmp 29)) (key:=.int .i64 ((cJ S i))) (z:=.nilIface) (kl:=(.int .i64 (cJ S i))) (r:=(some (dQ L ⟨tk,1⟩))) (fun _=>by kernel_rfl) (by kernel_rfl) (fun _=>by kernel_rfl) (fun _=>by kernel_rfl) dw Tryz.underlying120 (fun _=>by kernel_rfl) (gY (CI hI.toInv0 hi2)) (by rw [fC,hget,lE];rfl) ?_
   refine gK 1 [(6,.iface 129 (vP (L.b tk)))] [] ?_
   refine NS (gK 1 [(31,.iface 129 (vP (L.b tk)))] [] ?_)
   refine gL [] (dg (L.b tk)) ?_
   rintro _ _ ⟨rfl,rfl⟩
   refine gK 1 [(7,vP (L.b tk))] [] ?_
   refine NN (af.seq (af.rR (S:=[pO S.O L]) [0,1,3,4,5,6,7,8,9,10,11,12,13,14,15,16,17,18] [.beside [2,19] 20,.one 21] [8] (by kernel_rfl) (by kernel_rfl) rfl (by kernel_rfl) ?_))
   refine gP (yg f b4 b5++[(6,.iface 129 (vP (L.b tk)))]++yh A7 S c8 i++[(33,vI ((cJ S i))),(34,.iface 129 (vP (L.b tk)))]++C3 S tk) [0,1,3,4,5,6,7,8,9,10,11,12,13,14,15,16,17,18] [(5,v_ 0 (tq L hkt)),(9,v_ 0 (yP L hkt)),(13,v_ 0 (yQ L hkt)),(17,p_ ⟨[.view 0 (.int .i64 ((obj S.O tk).sec)),.view 0 (.int .i64 ((obj S.O tk).nano))],none,none,none,none⟩ [(∀ F w,(ax (bI S.O L)).h F w->w.cell? ⟨(L.b tk),5,none⟩=some (vI ((obj S.O tk).nano))),(∀ F w,(ax (bI S.O L)).h F w->w.cell? ⟨(L.b tk),4,none⟩=some (vI ((obj S.O tk).sec)))] ⟨d8 (by rw [hkt];decide) (rfl),d8 (by rw [hkt];decide) (rfl),trivial⟩)] ?_
   refine iN.beside (j:=20) (dj:=8) (R:=fun f_ l_=>f_=([(52,.agg #[vI ((cJ S i)),vI 1,vI ((obj S.O tk).mode),vI ((obj S.O tk).uid),vI ((obj S.O tk).gid),vI ((obj S.O tk).sec),vI ((obj S.O tk).nano),.slice none (0) (0),.string ⟨#[]⟩,.slice none (0) (0)]),(35,vI 1)]++yg f b4 b5++[(6,.iface 129 (vP (L.b tk)))]++yh A7 S c8 i++[(33,vI ((cJ S i))),(34,.iface 129 (vP (L.b tk)))]++C3 S tk)/\l_=[]) [0,1,2,3,4,5,6,7,8,9,10,11] [8] [(2,35),(19,52)] rfl (pc:=[]) (pj:=[]) (Z:=(wu b5 An i cn K S A7 c8 b4 f m t L++[pD S.O L,pE S.O L,.abs R])) (by kernel_rfl) rfl (by kernel_rfl) rfl rfl (kU.of (ι:=Nat) (v:=fun (b9:Nat)=>vP b9) (l:=fun (b9:Nat)=>[Rf b9]) [35,52] rfl rfl rfl rfl ?_) ?_ ?_
   ·intro u Aq
    show aj _ _ _ _ _ [(35,(u 35)),(52,(u 52)),(0,vP f),(2,vP b4),(3,vP b5),(6,.iface 129 (vP (L.b tk))),(19,.slice A7 ((keys S.idx).length) (c8)),(20,vI ↑((keys S.idx).length)),(21,vI ↑i),(33,vI ((cJ S i))),(34,.iface 129 (vP (L.b tk))),(39,vI ((obj S.O tk).mode)),(43,vI ((obj S.O tk).uid)),(47,vI ((obj S.O tk).gid)),(51,.agg #[vI ((obj S.O tk).sec),vI ((obj S.O tk).nano)])] [.abs Aq] _
    refine gN 1 (fun b9=>[(8,vP b9)]) (fun _=>[]) (fun _=>[]) (fun b9=>.blk b9 [vI 0,vI 0,vI 0,vI 0,vI 0,vI 0,vI 0,.slice none (0) (0),.string ⟨#[]⟩,.slice none (0) (0)] 70) (fun b9=>?_)
    refine NL ?_
    exact MD b9 [8,35,52,0,2,3,6,19,20,21,33,34,39,43,47,51] [1,0]
   ·refine kV.step (kU.of (ι:=Unit) (v:=fun (_:Unit)=>.int .i64 1) (l:=fun (_:Unit)=>[]) [8] rfl rfl rfl rfl ?_) rfl ?_
    ·intro u Aq
     show aj _ _ _ _ _ [(8,(u 8)),(0,vP f),(2,vP b4),(3,vP b5),(6,.iface 129 (vP (L.b tk))),(19,.slice A7 ((keys S.idx).length) (c8)),(20,vI ↑((keys S.idx).length)),(21,vI ↑i),(33,vI ((cJ S i))),(34,.iface 129 (vP (L.b tk))),(39,vI ((obj S.O tk).mode)),(43,vI ((obj S.O tk).uid)),(47,vI ((obj S.O tk).gid)),(51,.agg #[vI ((obj S.O tk).sec),vI ((obj S.O tk).nano)])] [.abs Aq] _
     refine gL [] (mI (vP (L.b tk))) ?_
     rintro _ _ ⟨rfl,rfl⟩
     refine NL ?_
     exact MD () [35,8,0,2,3,6,19,20,21,33,34,39,43,47,51] [0]
    rintro _ _ ⟨_,rfl,rfl⟩
    refine kV.step (kU.of (ι:=Unit) (v:=fun (_:Unit)=>.agg #[vI ((cJ S i)),vI 1,vI ((obj S.O tk).mode),vI ((obj S.O tk).uid),vI ((obj S.O tk).gid),vI ((obj S.O tk).sec),vI ((obj S.O tk).nano),.slice none (0) (0),.string ⟨#[]⟩,.slice none (0) (0)]) (l:=fun (_:Unit)=>[]) [8] rfl rfl rfl rfl ?_) rfl ?_
    ·intro u Aq
     show aj _ _ _ _ _ [(8,(u 8)),(35,vI 1),(0,vP f),(2,vP b4),(3,vP b5),(6,.iface 129 (vP (L.b tk))),(19,.slice A7 ((keys S.idx).length) (c8)),(20,vI ↑((keys S.idx).length)),(21,vI ↑i),(33,vI ((cJ S i))),(34,.iface 129 (vP (L.b tk))),(39,vI ((obj S.O tk).mode)),(43,vI ((obj S.O tk).uid)),(47,vI ((obj S.O tk).gid)),(51,.agg #[vI ((obj S.O tk).sec),vI ((obj S.O tk).nano)])] [.abs Aq] _
     refine gK 1 [(52,.agg #[vI ((cJ S i)),vI 1,vI ((obj S.O tk).mode),vI ((obj S.O tk).uid),vI ((obj S.O tk).gid),vI ((obj S.O tk).sec),vI ((obj S.O tk).nano),.slice none (0) (0),.string ⟨#[]⟩,.slice none (0) (0)])] [] ?_
     refine NL ?_
     exact MD () [52,8,35,0,2,3,6,19,20,21,33,34,39,43,47,51] [0]
    rintro _ _ ⟨_,rfl,rfl⟩
    exact⟨rfl,rfl⟩
   rintro _ _ ⟨rfl,rfl⟩ _ _ ⟨b9,rfl,rfl⟩
   refine iN.last rfl rfl ?_
   refine gC 1 [] [(0,A_ 0 b9 10)] [(0,([(0,vI ((cJ S i))),(1,vI 1)]++Nc S tk))] ?_
   refine NL (ai.np (NX (af.seq (SR ?_))))
   refine gK 1 [(53,.iface 129 (vP (L.b tk)))] [] ?_
   refine NN (af.block (SR ?_))
   refine gK 3 [(55,.bool true),(56,vP (L.b tk))] [] ?_
   refine NN (CT (SR (gK 1 [(9,vP (L.b tk))] [] ?_)))
   refine NN (af.region (gK 4 [(60,.slice (L.dA tk) ((obj S.O tk).data.length) ((L.dC tk)))] [(3,v_ 9 (Fu L hkt))] ?_))
   refine aj.mem (cR:=([TJ b9 S i tk]++wu b5 An i cn K S A7 c8 b4 f m t L++[Tk S L tk,pE S.O L,.abs R,.abs (aK 5 1 (L.dA tk) ((obj S.O tk).data.length) (L.dC tk) (bY (obj S.O tk).data))])) (fun w hS=>hS.J6 (i:=10) (k:=tk) rfl hkt) ?_
   refine gL [13] (FQ (L.dA tk) (L.dC tk) (obj S.O tk).data hdl) ?_
   rintro _ _ ⟨o7,c11,rfl,rfl⟩
   refine aj.mem (cR:=([pD S.O L,.abs (aK 5 1 o7 ((obj S.O tk).data.length) c11 (bY (obj S.O tk).data)),TJ b9 S i tk]++wu b5 An i cn K S A7 c8 b4 f m t L++[pE S.O L,.abs R])) (fun w hS=>hS.QE (i:=12) (j:=1) (ix:=[0,2,3,4,5,6,7,8,9,10,11,13,14]) rfl rfl (by kernel_rfl) rfl hkt) ?_
   refine gC 2 [] [(1,a_ 2 b9)] [(2,[(7,.slice o7 ((obj S.O tk).data.length) (c11))])] ?_
   refine NL (ai.aJ (NX (af.region ?_)))
   refine gN 4 (fun b12=>[(104,.slice An (i) (cn)),(106,.slice (some ⟨b12,0,none⟩) (1) (1))]) (fun b12=>[(1,a_ 3 b5),(2,A_ 2 b9 10)]) (fun _=>[]) (fun b12=>.blk b12 [vI ((cJ S i)),vI 1,vI ((obj S.O tk).mode),vI ((obj S.O tk).uid),vI ((obj S.O tk).gid),vI ((obj S.O tk).sec),vI ((obj S.O tk).nano),.slice o7 ((obj S.O tk).data.length) (c11),.string ⟨#[]⟩,.slice none (0) (0)] 70) (fun b12=>?_)
   refine aj.append 4 (d:=(some 107)) (t:=22) (e:=70) (z:=.agg #[vI 0,vI 0,vI 0,vI 0,vI 0,vI 0,vI 0,.slice none (0) (0),.string ⟨#[]⟩,.slice none (0) (0)]) (size:=10) (bytes:=120) (n:=i) (cap:=cn) (A:=An) (xs:=(dI K ((av S).take i))) (s:=(.tmp 104)) (x:=(.tmp 106)) (ats:=#[22,22]) (A':=some ⟨b12,0,none⟩) (m:=1) (c':=1) (news:=[vI ((cJ S i)),vI 1,vI ((obj S.O tk).mode),vI ((obj S.O tk).uid),vI ((obj S.O tk).gid),vI ((obj S.O tk).sec),vI ((obj S.O tk).nano),.slice o7 ((obj S.O tk).data.length) (c11),.string ⟨#[]⟩,.slice none (0) (0)]) (fun _=>by kernel_rfl) rfl (by kernel_rfl) (fun _=>by kernel_rfl) (fun _=>by kernel_rfl) Tryz.underlying22 (by kernel_rfl) rfl (by decide) (rfl) (by simp [Value.oneCell']) (kP (j:=14) rfl) (by unfold maxLen;omega) (by omega) (fun HT HV=>?_)
   refine aj.dm 4 (p:=.abs (aK 70 10 HT (i+1) HV ((dI K ((av S).take i))++[vI ((cJ S i)),vI 1,vI ((obj S.O tk).mode),vI ((obj S.O tk).uid),vI ((obj S.O tk).gid),vI ((obj S.O tk).sec),vI ((obj S.O tk).nano),.slice o7 ((obj S.O tk).data.length) (c11),.string ⟨#[]⟩,.slice none (0) (0)]))) (p':=.abs (aK 70 10 HT (i+1) HV (dI (K.put i o7 c11 none 0) ((av S).take (i+1))))) (by kernel_rfl) (congrArg (fun x=>HP.abs (aK 70 10 _ _ _ x)) (vY (dS (by omega)) (qM hI.toInv0 hi2 lE hlv) rfl rfl)) ?_
   refine aj.slot 107 (.slice HT (i+1) (HV)) (.slice HT ((i+1)) (HV)) (fun _=>by kernel_rfl) (rfl) ?_
   refine gC 2 [] [(1,a_ 3 b5)] [(3,[(0,.slice HT ((i+1)) (HV))])] ?_
   refine NL (ai.aJ (NX (af.region ?_)))
   refine gK 2 [(21,vI ↑(i+1))] [(0,p_ ⟨[],none,none,none,some (vI ↑(i+1))⟩ [(Value.int .i64 (IntKind.wrap .i64 (((i:Nat):Int)+1)))=(.int .i64 ↑(i+1))] ⟨bn (by omega) (by omega) (by omega),trivial⟩)] ?_
   refine NL (ai.mem (fun w hS=>hS.j7 (e:=140) (size:=2)) ?_)
   refine ai.mem (fun w hS=>hS.rZ (R':=(lS ((av S).take (i+1)) (K.put i o7 c11 none 0))) (i:=6) (j:=1) (idx:=[0,2,3,4,5,7,8,9,10,11,12,13,14,15]) rfl rfl (by kernel_rfl) rfl (zY (dS (by omega)) (qM hI.toInv0 hi2 lE hlv)) (xR (dS (by omega)) (qM hI.toInv0 hi2 lE hlv) rfl)) ?_
   refine ai.mem (fun w hS=>hS.rZ (R':=(lQ ((av S).take (i+1)) (K.put i o7 c11 none 0))) (i:=5) (j:=14) (idx:=[0,1,2,3,4,6,7,8,9,10,11,12,13]) rfl rfl (by kernel_rfl) rfl (zZ (dS (by omega)) (qM hI.toInv0 hi2 lE hlv)) ((xS (dS (by omega)) (qM hI.toInv0 hi2 lE hlv) rfl))) ?_
   exact ai.turn ((i+1),HT,HV,(K.put i o7 c11 none 0)) (idx:=[0,2,3,19,20,21]) (pk:=[4,5,0,1,6,7,8,9,10,2,11,12]) (show (((i+1))<=S.idx.length) from (by omega)) (by show S.idx.length - ((i+1)) < S.idx.length - i;omega) (fun _=>by kernel_rfl) rfl (by kernel_rfl)
  ·have hkt:(obj S.O tk).kind=2:=hI.kind hlv
   have hel:(obj S.O tk).ah.length<=8192:=hI.gy hlv
   have hdl:(obj S.O tk).data.length<=140737488355328:=hI.IJ hlv
   refine af.region (gK 5 [(28,.map (some m)),(29,vI ((cJ S i)))] [(3,a_ 6 f)] ?_)
   refine aj.dR 7 (d:=(some 30)) (t:=120) (K:=3) (E:=124) (b:=m) (n:=S.idx.length) (f:=(aX (aY L S.idx))) (x:=(.tmp 28)) (ix:=(.tmp 29)) (key:=.int .i64 ((cJ S i))) (z:=.nilIface) (kl:=(.int .i64 (cJ S i))) (r:=(some (dQ L ⟨tk,2⟩))) (fun _=>by kernel_rfl) (by kernel_rfl) (fun _=>by kernel_rfl) (fun _=>by kernel_rfl) dw Tryz.underlying120 (fun _=>by kernel_rfl) (gY (CI hI.toInv0 hi2)) (by rw [fC,hget,lE];rfl) ?_
   refine gK 1 [(6,.iface 135 (vP (L.b tk)))] [] ?_
   refine NS (gK 1 [(31,.iface 135 (vP (L.b tk)))] [] ?_)
   refine gL [] (dg (L.b tk)) ?_
   rintro _ _ ⟨rfl,rfl⟩
   refine gK 1 [(7,vP (L.b tk))] [] ?_
   refine NN (af.seq (af.rR (S:=[pO S.O L]) [0,1,3,4,5,6,7,8,9,10,11,12,13,14,15,16,17,18] [.beside [2,19] 20,.one 21] [8] (by kernel_rfl) (by kernel_rfl) rfl (by kernel_rfl) ?_))
   refine gP (yg f b4 b5++[(6,.iface 135 (vP (L.b tk)))]++yh A7 S c8 i++[(33,vI ((cJ S i))),(34,.iface 135 (vP (L.b tk)))]++C3 S tk) [0,1,3,4,5,6,7,8,9,10,11,12,13,14,15,16,17,18] [(5,v_ 0 (tq L hkt)),(9,v_ 0 (yP L hkt)),(13,v_ 0 (yQ L hkt)),(17,p_ ⟨[.view 0 (.int .i64 ((obj S.O tk).sec)),.view 0 (.int .i64 ((obj S.O tk).nano))],none,none,none,none⟩ [(∀ F w,(ax (bI S.O L)).h F w->w.cell? ⟨(L.b tk),5,none⟩=some (vI ((obj S.O tk).nano))),(∀ F w,(ax (bI S.O L)).h F w->w.cell? ⟨(L.b tk),4,none⟩=some (vI ((obj S.O tk).sec)))] ⟨d8 (by rw [hkt];decide) (rfl),d8 (by rw [hkt];decide) (rfl),trivial⟩)] ?_
   refine iN.beside (j:=20) (dj:=8) (R:=fun f_ l_=>f_=([(52,.agg #[vI ((cJ S i)),vI 2,vI ((obj S.O tk).mode),vI ((obj S.O tk).uid),vI ((obj S.O tk).gid),vI ((obj S.O tk).sec),vI ((obj S.O tk).nano),.slice none (0) (0),.string ⟨#[]⟩,.slice none (0) (0)]),(35,vI 2)]++yg f b4 b5++[(6,.iface 135 (vP (L.b tk)))]++yh A7 S c8 i++[(33,vI ((cJ S i))),(34,.iface 135 (vP (L.b tk)))]++C3 S tk)/\l_=[]) [0,1,2,3,4,5,6,7,8,9,10,11] [8] [(2,35),(19,52)] rfl (pc:=[]) (pj:=[]) (Z:=(wu b5 An i cn K S A7 c8 b4 f m t L++[pD S.O L,pE S.O L,.abs R])) (by kernel_rfl) rfl (by kernel_rfl) rfl rfl (kU.of (ι:=Nat) (v:=fun (b15:Nat)=>vP b15) (l:=fun (b15:Nat)=>[Rf b15]) [35,52] rfl rfl rfl rfl ?_) ?_ ?_
   ·intro u Aq
    show aj _ _ _ _ _ [(35,(u 35)),(52,(u 52)),(0,vP f),(2,vP b4),(3,vP b5),(6,.iface 135 (vP (L.b tk))),(19,.slice A7 ((keys S.idx).length) (c8)),(20,vI ↑((keys S.idx).length)),(21,vI ↑i),(33,vI ((cJ S i))),(34,.iface 135 (vP (L.b tk))),(39,vI ((obj S.O tk).mode)),(43,vI ((obj S.O tk).uid)),(47,vI ((obj S.O tk).gid)),(51,.agg #[vI ((obj S.O tk).sec),vI ((obj S.O tk).nano)])] [.abs Aq] _
    refine gN 1 (fun b15=>[(8,vP b15)]) (fun _=>[]) (fun _=>[]) (fun b15=>.blk b15 [vI 0,vI 0,vI 0,vI 0,vI 0,vI 0,vI 0,.slice none (0) (0),.string ⟨#[]⟩,.slice none (0) (0)] 70) (fun b15=>?_)
    refine NL ?_
    exact MD b15 [8,35,52,0,2,3,6,19,20,21,33,34,39,43,47,51] [1,0]
   ·refine kV.step (kU.of (ι:=Unit) (v:=fun (_:Unit)=>.int .i64 2) (l:=fun (_:Unit)=>[]) [8] rfl rfl rfl rfl ?_) rfl ?_
    ·intro u Aq
     show aj _ _ _ _ _ [(8,(u 8)),(0,vP f),(2,vP b4),(3,vP b5),(6,.iface 135 (vP (L.b tk))),(19,.slice A7 ((keys S.idx).length) (c8)),(20,vI ↑((keys S.idx).length)),(21,vI ↑i),(33,vI ((cJ S i))),(34,.iface 135 (vP (L.b tk))),(39,vI ((obj S.O tk).mode)),(43,vI ((obj S.O tk).uid)),(47,vI ((obj S.O tk).gid)),(51,.agg #[vI ((obj S.O tk).sec),vI ((obj S.O tk).nano)])] [.abs Aq] _
     refine gL [] (mJ (vP (L.b tk))) ?_
     rintro _ _ ⟨rfl,rfl⟩
     refine NL ?_
     exact MD () [35,8,0,2,3,6,19,20,21,33,34,39,43,47,51] [0]
    rintro _ _ ⟨_,rfl,rfl⟩
    refine kV.step (kU.of (ι:=Unit) (v:=fun (_:Unit)=>.agg #[vI ((cJ S i)),vI 2,vI ((obj S.O tk).mode),vI ((obj S.O tk).uid),vI ((obj S.O tk).gid),vI ((obj S.O tk).sec),vI ((obj S.O tk).nano),.slice none (0) (0),.string ⟨#[]⟩,.slice none (0) (0)]) (l:=fun (_:Unit)=>[]) [8] rfl rfl rfl rfl ?_) rfl ?_
    ·intro u Aq
     show aj _ _ _ _ _ [(8,(u 8)),(35,vI 2),(0,vP f),(2,vP b4),(3,vP b5),(6,.iface 135 (vP (L.b tk))),(19,.slice A7 ((keys S.idx).length) (c8)),(20,vI ↑((keys S.idx).length)),(21,vI ↑i),(33,vI ((cJ S i))),(34,.iface 135 (vP (L.b tk))),(39,vI ((obj S.O tk).mode)),(43,vI ((obj S.O tk).uid)),(47,vI ((obj S.O tk).gid)),(51,.agg #[vI ((obj S.O tk).sec),vI ((obj S.O tk).nano)])] [.abs Aq] _
     refine gK 1 [(52,.agg #[vI ((cJ S i)),vI 2,vI ((obj S.O tk).mode),vI ((obj S.O tk).uid),vI ((obj S.O tk).gid),vI ((obj S.O tk).sec),vI ((obj S.O tk).nano),.slice none (0) (0),.string ⟨#[]⟩,.slice none (0) (0)])] [] ?_
     refine NL ?_
     exact MD () [52,8,35,0,2,3,6,19,20,21,33,34,39,43,47,51] [0]
    rintro _ _ ⟨_,rfl,rfl⟩
    exact⟨rfl,rfl⟩
   rintro _ _ ⟨rfl,rfl⟩ _ _ ⟨b15,rfl,rfl⟩
   refine iN.last rfl rfl ?_
   refine gC 1 [] [(0,A_ 0 b15 10)] [(0,([(0,vI ((cJ S i))),(1,vI 2)]++Nc S tk))] ?_
   refine NL (ai.np (NX (af.seq (SR ?_))))
   refine gK 1 [(53,.iface 135 (vP (L.b tk)))] [] ?_
   refine NN (af.block (SR ?_))
   refine gK 3 [(55,.bool false),(56,.pointer none)] [] ?_
   refine NN (CF (SR (gK 3 [(64,.bool false),(65,.pointer none)] [] ?_)))
   refine NN (CF (SR (gK 3 [(72,.bool true),(73,vP (L.b tk))] [] ?_)))
   refine NN (CT (SR (gK 1 [(11,vP (L.b tk))] [] ?_)))
   refine NS (gK 4 [(77,.map (some (L.m tk)))] [(3,v_ 9 (bw L hkt))] ?_)
   refine aj.mem (cR:=([.blk b15 [vI ((cJ S i)),vI 2,vI ((obj S.O tk).mode),vI ((obj S.O tk).uid),vI ((obj S.O tk).gid),vI ((obj S.O tk).sec),vI ((obj S.O tk).nano),.slice none (0) (0),.string ⟨#[]⟩,.slice none (0) (0)] 70]++wu b5 An i cn K S A7 c8 b4 f m t L++[pD S.O L,Rg S L tk,.abs R,FO L tk S])) (fun w hS=>hS.Qf (i:=11) (k:=tk) rfl (hkt)) ?_
   refine gL [] (MH (some (L.m tk))) ?_
   rintro _ _ ⟨b16,rfl,rfl⟩
   refine gL [14,0] (Jb L (L.m tk) b16 (obj S.O tk).ah.length (obj S.O tk).ah (hI.sorted _ hlv) hel) ?_
   rintro _ _ ⟨dZ,fB,rfl,rfl⟩
   refine gK 1 [(80,vI ↑((obj S.O tk).ah.length))] [] ?_
   refine aj.mem (fun w hS=>hS.j7 (e:=140) (size:=2)) ?_
   refine gK 1 [(81,vI 0)] [] ?_
   refine NN (af.block ?_)
   refine af.loop (ι:=Nat×(Option Addr)×Nat) (fun ((j,Ae,ce):Nat×(Option Addr)×Nat)=>(j<=(obj S.O tk).ah.length)) (fun ((j,Ae,ce):Nat×(Option Addr)×Nat)=>(obj S.O tk).ah.length - j) (fun ((j,Ae,ce):Nat×(Option Addr)×Nat)=>(FP f b4 b5 b15 L tk A7 S c8 i dZ fB j)) (fun ((j,Ae,ce):Nat×(Option Addr)×Nat)=>([jD b15 S i tk Ae j ce,og Ae j ce S tk]++lp L tk S b16 dZ fB b5 An i cn K A7 c8 b4 f m t R)) (0,none,0) (idx:=[0,2,3,8,11,19,20,21,79,80,81]) (pk:=[3,16,0,1,2,4,5,6,7,8,9,10,11,12,13,14,15]) (show (0<=(obj S.O tk).ah.length) from (Nat.zero_le _)) (fun _=>by kernel_rfl) rfl (by kernel_rfl) ?_
   rintro⟨j,Ae,ce⟩ hj
   show af _ _ _ _ (FP f b4 b5 b15 L tk A7 S c8 i dZ fB j) ([jD b15 S i tk Ae j ce,og Ae j ce S tk]++lp L tk S b16 dZ fB b5 An i cn K A7 c8 b4 f m t R) _
   refine SR (gK 1 [(82,.bool (decide ((((j:Nat):Int):Int) < ((((obj S.O tk).ah.length:Nat):Int):Int))))] [] ?_)
   refine NN (af.seq (af.aV (p:=(((j:Nat):Int):Int) < ((((obj S.O tk).ah.length:Nat):Int):Int)) (fun _=>by kernel_rfl) (fun Vy=>?_) (fun Vy=>?_)))
   ·have hj2:j < (obj S.O tk).ah.length:=by omega
    refine af.skip (NX (af.seq (af.block (SR ?_))))
    refine aj.tell (p:=(dZ=some ⟨ar dZ,aq dZ,none⟩)) (fun w hS=>let ⟨F,h⟩:=hS.get (i:=4) rfl;(aK.Ik h (by omega)).1) (fun Vz=>?_)
    refine gK 3 [(13,.string (eU (obj S.O tk).ah j))] [(0,p_ ⟨[],some j,none,some ⟨(ar dZ),aq dZ,none⟩,none⟩ [((j:Nat):Int)=((j:Nat):Int),j < (obj S.O tk).ah.length,(⟨(ar dZ),aq dZ,none⟩:Addr).spot=none,(dZ:Option Addr)=some ⟨(ar dZ),aq dZ,none⟩] ⟨rfl,by omega,rfl,Vz,trivial⟩),(1,p_ ⟨[.view 4 (.string (eU (obj S.O tk).ah j))],none,none,none,none⟩ [(∀ F w,(aK 9 1 dZ ((obj S.O tk).ah.length) fB (qL (obj S.O tk).ah)).h F w->w.cell? ⟨(ar dZ),aq dZ+j * 1,none⟩=some (.string (eU (obj S.O tk).ah j)))] ⟨aK.cellAt (i:=j) (j:=0) (by omega) (Jd hj2),trivial⟩)] ?_
    refine NN ?_
    obtain⟨hgd,h4⟩:=Uw hI.toInv0 hlv hj2
    have hgs:(eU (obj S.O tk).ah j).size<=255:=hgd.2.1
    rcases h4 with ⟨ek,hle,Ai,Lb⟩|⟨ek,hle,Ai,Lb⟩|⟨ek,hle,Ai,Lb⟩
    ·have hke:(obj S.O ek).kind=1:=hI.kind Ai
     refine af.bM (S:=[FO L tk S,pO S.O L,jD b15 S i tk Ae j ce]) [0,1,2,3,4,5,6,7,8,9,10,11,12,13,14,15,16,17] 9 [2,13,0] (by kernel_rfl) (by kernel_rfl) rfl (by kernel_rfl) ?_
     refine gR 1 [8,9,10,11,12,13,14,15,16,17] (FP f b4 b5 b15 L tk A7 S c8 i dZ fB j++q6 Ae j ce S tk++[(91,.map (some (L.m tk))),(92,.string (eU (obj S.O tk).ah j))]) [0,1,2,3,4,5,6,7] [(1,a_ 2 b15),(6,v_ 1 (bw L hkt))] ?_
     refine aN.dR 0 (d:=(some 93)) (t:=136) (K:=9) (E:=124) (b:=(L.m tk)) (cnt:=(obj S.O tk).ah.length) (f:=(iL L (obj S.O tk).ah)) (x:=(.tmp 91)) (ix:=(.tmp 92)) (key:=.string (eU (obj S.O tk).ah j)) (z:=.nilIface) (kl:=(.string (eU (obj S.O tk).ah j).data.toList)) (q:=(some (dQ L ⟨ek,1⟩))) (by kernel_rfl) (by kernel_rfl) (fun _=>by kernel_rfl) (fun _=>by kernel_rfl) zM Tryz.underlying136 (fun _=>by kernel_rfl) (Cr (by omega)) (by rw [r8,hle];rfl) (by kernel_rfl) ?_
     refine mL [2,13,0] [] (dg (L.b ek)) ?_ (by rintro _ _ ⟨rfl,rfl⟩;rfl)
     rintro _ _ ⟨rfl,rfl⟩
     refine aN.cut (ι:=Unit) (fr':=fun (_:Unit)=>(mg f b4 b5 b15 L tk A7 S c8 i dZ fB j++q6 Ae j ce S tk++[(95,vP (L.b ek))])) (hp':=fun (_:Unit)=>([jD b15 S i tk Ae j ce,og Ae j ce S tk]++lp L tk S b16 dZ fB b5 An i cn K A7 c8 b4 f m t R)) [2,13,0] rfl rfl ?_ rfl (fun _=>by kernel_rfl) ?_
     ·refine gK 1 [(95,vP (L.b ek))] [] ?_
      refine NL ?_
      exact MD () [0,2,3,8,11,19,20,21,79,80,81,86,87,95] [0,1,2,3,4,5,6,7,8,9,10,11,12,13,14,15,16]
     rintro _
     refine aN.cut (ι:=Unit) (fr':=fun (_:Unit)=>(mg f b4 b5 b15 L tk A7 S c8 i dZ fB j++q6 Ae j ce S tk++[(96,vP (L.b ek))])) (hp':=fun (_:Unit)=>([jD b15 S i tk Ae j ce,og Ae j ce S tk]++lp L tk S b16 dZ fB b5 An i cn K A7 c8 b4 f m t R)) [2,13,0] rfl rfl ?_ rfl (fun _=>by kernel_rfl) ?_
     ·refine gK 1 [(96,vP (L.b ek))] [] ?_
      refine NL ?_
      exact MD () [0,2,3,8,11,19,20,21,79,80,81,86,87,96] [0,1,2,3,4,5,6,7,8,9,10,11,12,13,14,15,16]
     rintro _
     refine aN.cut (ι:=Unit) (fr':=fun (_:Unit)=>(mg f b4 b5 b15 L tk A7 S c8 i dZ fB j++q6 Ae j ce S tk++[(97,vI ((obj S.O ek).id))])) (hp':=fun (_:Unit)=>([jD b15 S i tk Ae j ce,og Ae j ce S tk]++lp L tk S b16 dZ fB b5 An i cn K A7 c8 b4 f m t R)) [2,13,0] rfl rfl ?_ rfl (fun _=>by kernel_rfl) ?_
     ·refine gK 1 [(97,vI ((obj S.O ek).id))] [(0,v_ 13 (qX L hke))] ?_
      refine NL ?_
      exact MD () [0,2,3,8,11,19,20,21,79,80,81,86,87,97] [0,1,2,3,4,5,6,7,8,9,10,11,12,13,14,15,16]
     rintro _
     refine aN.cut (ι:=Unit) (fr':=fun (_:Unit)=>(mg f b4 b5 b15 L tk A7 S c8 i dZ fB j++[(86,.slice Ae (j) (ce)),(98,.agg #[.string (eU (obj S.O tk).ah j),vI ((obj S.O ek).id)])])) (hp':=fun (_:Unit)=>([jD b15 S i tk Ae j ce,og Ae j ce S tk]++lp L tk S b16 dZ fB b5 An i cn K A7 c8 b4 f m t R)) [2,13,0] rfl rfl ?_ rfl (fun _=>by kernel_rfl) ?_
     ·refine gK 1 [(98,.agg #[.string (eU (obj S.O tk).ah j),vI ((obj S.O ek).id)])] [] ?_
      refine NL ?_
      exact MD () [0,2,3,8,11,19,20,21,79,80,81,86,98] [0,1,2,3,4,5,6,7,8,9,10,11,12,13,14,15,16]
     rintro _
     refine mN [2,13,0] (fun b19=>[(99,.slice (some ⟨b19,0,none⟩) (1) (1))]) (fun _=>[]) (fun b19=>.blk b19 [.string (eU (obj S.O tk).ah j),vI ((obj S.O ek).id)] 140) (fun b19=>?_)
     refine aN.cut (ι:=(Option Addr)×Nat) (fr':=fun ((nF,nG):(Option Addr)×Nat)=>(mg f b4 b5 b15 L tk A7 S c8 i dZ fB j++[(100,.slice nF ((j+1)) (nG))])) (hp':=fun ((nF,nG):(Option Addr)×Nat)=>([jD b15 S i tk Ae j ce,C0 nF j nG S tk]++lp L tk S b16 dZ fB b5 An i cn K A7 c8 b4 f m t R++[C2 b19 S tk j ek])) [2,13,0] rfl rfl ?_ rfl (fun _=>by kernel_rfl) ?_
     ·refine aj.append 1 (d:=(some 100)) (t:=68) (e:=140) (z:=.agg #[.string ⟨#[]⟩,vI 0]) (size:=2) (bytes:=24) (n:=j) (cap:=ce) (A:=Ae) (xs:=(gV (((obj S.O tk).ah.take j).map (jP S.O)))) (s:=(.tmp 86)) (x:=(.tmp 99)) (ats:=#[68,68]) (A':=some ⟨b19,0,none⟩) (m:=1) (c':=1) (news:=[.string (eU (obj S.O tk).ah j),vI ((obj S.O ek).id)]) (fun _=>by kernel_rfl) rfl (by kernel_rfl) (fun _=>by kernel_rfl) (fun _=>by kernel_rfl) Tryz.underlying68 (by kernel_rfl) rfl (by decide) (rfl) (by simp [Value.oneCell']) (kP (j:=17) rfl) (by unfold maxLen;omega) (by omega) (fun nF nG=>?_)
      refine aj.dm 1 (p:=.abs (aK 140 2 nF (j+1) nG ((gV (((obj S.O tk).ah.take j).map (jP S.O)))++[.string (eU (obj S.O tk).ah j),vI ((obj S.O ek).id)]))) (p':=.abs (aK 140 2 nF (j+1) nG (gV (((obj S.O tk).ah.take (j+1)).map (jP S.O))))) (by kernel_rfl) (congrArg (fun x=>HP.abs (aK 140 2 _ _ _ x)) (xT hj2 Lb)) ?_
      refine aj.slot 100 (.slice nF (j+1) (nG)) (.slice nF ((j+1)) (nG)) (fun _=>by kernel_rfl) (rfl) ?_
      refine NL ?_
      exact MD (nF,nG) [0,2,3,8,11,19,20,21,79,80,81,100] [0,1,2,3,4,5,6,7,8,9,10,11,12,13,14,15,16,17]
     rintro⟨nF,nG⟩
     refine aN.cut (ι:=Unit) (fr':=fun (_:Unit)=>(mg f b4 b5 b15 L tk A7 S c8 i dZ fB j++[(100,.slice nF ((j+1)) (nG)),(101,.pointer (some ⟨b15,9,none⟩))])) (hp':=fun (_:Unit)=>([jD b15 S i tk Ae j ce,C0 nF j nG S tk]++lp L tk S b16 dZ fB b5 An i cn K A7 c8 b4 f m t R++[C2 b19 S tk j ek])) [2,13,0] rfl rfl ?_ rfl (fun _=>by kernel_rfl) ?_
     ·refine gK 1 [(101,.pointer (some ⟨b15,9,none⟩))] [] ?_
      refine NL ?_
      exact MD () [0,2,3,8,11,19,20,21,79,80,81,100,101] [0,1,2,3,4,5,6,7,8,9,10,11,12,13,14,15,16,17]
     rintro _
     refine aN.last rfl rfl ?_
     refine gC 1 [] [(0,a_ 0 b15)] [(0,[(9,.slice nF ((j+1)) (nG))])] ?_
     refine NL (ai.np (ai.aJ (NX (af.region ?_))))
     refine gK 2 [(81,vI ↑(j+1))] [(0,p_ ⟨[],none,none,none,some (vI ↑(j+1))⟩ [(Value.int .i64 (IntKind.wrap .i64 (((j:Nat):Int)+1)))=(.int .i64 ↑(j+1))] ⟨bn (by omega) (by omega) (by omega),trivial⟩)] ?_
     refine NL ?_
     exact ai.turn ((j+1),nF,nG) (idx:=[0,2,3,8,11,19,20,21,79,80,81]) (pk:=[0,1,2,3,4,5,6,7,8,9,10,11,12,13,14,15,16]) (show (((j+1))<=(obj S.O tk).ah.length) from (by omega)) (by show (obj S.O tk).ah.length - ((j+1)) < (obj S.O tk).ah.length - j;omega) (fun _=>by kernel_rfl) rfl (by kernel_rfl)
    ·have hke:(obj S.O ek).kind=2:=hI.kind Ai
     refine af.bM (S:=[FO L tk S,pO S.O L,jD b15 S i tk Ae j ce]) [0,1,2,3,4,5,6,7,8,9,10,11,12,13,14,15,16,17] 9 [2,13,0] (by kernel_rfl) (by kernel_rfl) rfl (by kernel_rfl) ?_
     refine gR 1 [8,9,10,11,12,13,14,15,16,17] (FP f b4 b5 b15 L tk A7 S c8 i dZ fB j++q6 Ae j ce S tk++[(91,.map (some (L.m tk))),(92,.string (eU (obj S.O tk).ah j))]) [0,1,2,3,4,5,6,7] [(1,a_ 2 b15),(6,v_ 1 (bw L hkt))] ?_
     refine aN.dR 0 (d:=(some 93)) (t:=136) (K:=9) (E:=124) (b:=(L.m tk)) (cnt:=(obj S.O tk).ah.length) (f:=(iL L (obj S.O tk).ah)) (x:=(.tmp 91)) (ix:=(.tmp 92)) (key:=.string (eU (obj S.O tk).ah j)) (z:=.nilIface) (kl:=(.string (eU (obj S.O tk).ah j).data.toList)) (q:=(some (dQ L ⟨ek,2⟩))) (by kernel_rfl) (by kernel_rfl) (fun _=>by kernel_rfl) (fun _=>by kernel_rfl) zM Tryz.underlying136 (fun _=>by kernel_rfl) (Cr (by omega)) (by rw [r8,hle];rfl) (by kernel_rfl) ?_
     refine mL [2,13,0] [] (dg (L.b ek)) ?_ (by rintro _ _ ⟨rfl,rfl⟩;rfl)
     rintro _ _ ⟨rfl,rfl⟩
     refine aN.cut (ι:=Unit) (fr':=fun (_:Unit)=>(mg f b4 b5 b15 L tk A7 S c8 i dZ fB j++q6 Ae j ce S tk++[(95,vP (L.b ek))])) (hp':=fun (_:Unit)=>([jD b15 S i tk Ae j ce,og Ae j ce S tk]++lp L tk S b16 dZ fB b5 An i cn K A7 c8 b4 f m t R)) [2,13,0] rfl rfl ?_ rfl (fun _=>by kernel_rfl) ?_
     ·refine gK 1 [(95,vP (L.b ek))] [] ?_
      refine NL ?_
      exact MD () [0,2,3,8,11,19,20,21,79,80,81,86,87,95] [0,1,2,3,4,5,6,7,8,9,10,11,12,13,14,15,16]
     rintro _
     refine aN.cut (ι:=Unit) (fr':=fun (_:Unit)=>(mg f b4 b5 b15 L tk A7 S c8 i dZ fB j++q6 Ae j ce S tk++[(96,vP (L.b ek))])) (hp':=fun (_:Unit)=>([jD b15 S i tk Ae j ce,og Ae j ce S tk]++lp L tk S b16 dZ fB b5 An i cn K A7 c8 b4 f m t R)) [2,13,0] rfl rfl ?_ rfl (fun _=>by kernel_rfl) ?_
     ·refine gK 1 [(96,vP (L.b ek))] [] ?_
      refine NL ?_
      exact MD () [0,2,3,8,11,19,20,21,79,80,81,86,87,96] [0,1,2,3,4,5,6,7,8,9,10,11,12,13,14,15,16]
     rintro _
     refine aN.cut (ι:=Unit) (fr':=fun (_:Unit)=>(mg f b4 b5 b15 L tk A7 S c8 i dZ fB j++q6 Ae j ce S tk++[(97,vI ((obj S.O ek).id))])) (hp':=fun (_:Unit)=>([jD b15 S i tk Ae j ce,og Ae j ce S tk]++lp L tk S b16 dZ fB b5 An i cn K A7 c8 b4 f m t R)) [2,13,0] rfl rfl ?_ rfl (fun _=>by kernel_rfl) ?_
     ·refine gK 1 [(97,vI ((obj S.O ek).id))] [(0,v_ 13 (qX L hke))] ?_
      refine NL ?_
      exact MD () [0,2,3,8,11,19,20,21,79,80,81,86,87,97] [0,1,2,3,4,5,6,7,8,9,10,11,12,13,14,15,16]
     rintro _
     refine aN.cut (ι:=Unit) (fr':=fun (_:Unit)=>(mg f b4 b5 b15 L tk A7 S c8 i dZ fB j++[(86,.slice Ae (j) (ce)),(98,.agg #[.string (eU (obj S.O tk).ah j),vI ((obj S.O ek).id)])])) (hp':=fun (_:Unit)=>([jD b15 S i tk Ae j ce,og Ae j ce S tk]++lp L tk S b16 dZ fB b5 An i cn K A7 c8 b4 f m t R)) [2,13,0] rfl rfl ?_ rfl (fun _=>by kernel_rfl) ?_
     ·refine gK 1 [(98,.agg #[.string (eU (obj S.O tk).ah j),vI ((obj S.O ek).id)])] [] ?_
      refine NL ?_
      exact MD () [0,2,3,8,11,19,20,21,79,80,81,86,98] [0,1,2,3,4,5,6,7,8,9,10,11,12,13,14,15,16]
     rintro _
     refine mN [2,13,0] (fun jV=>[(99,.slice (some ⟨jV,0,none⟩) (1) (1))]) (fun _=>[]) (fun jV=>.blk jV [.string (eU (obj S.O tk).ah j),vI ((obj S.O ek).id)] 140) (fun jV=>?_)
     refine aN.cut (ι:=(Option Addr)×Nat) (fr':=fun ((uf,ug):(Option Addr)×Nat)=>(mg f b4 b5 b15 L tk A7 S c8 i dZ fB j++[(100,.slice uf ((j+1)) (ug))])) (hp':=fun ((uf,ug):(Option Addr)×Nat)=>([jD b15 S i tk Ae j ce,C0 uf j ug S tk]++lp L tk S b16 dZ fB b5 An i cn K A7 c8 b4 f m t R++[C2 jV S tk j ek])) [2,13,0] rfl rfl ?_ rfl (fun _=>by kernel_rfl) ?_
     ·refine aj.append 1 (d:=(some 100)) (t:=68) (e:=140) (z:=.agg #[.string ⟨#[]⟩,vI 0]) (size:=2) (bytes:=24) (n:=j) (cap:=ce) (A:=Ae) (xs:=(gV (((obj S.O tk).ah.take j).map (jP S.O)))) (s:=(.tmp 86)) (x:=(.tmp 99)) (ats:=#[68,68]) (A':=some ⟨jV,0,none⟩) (m:=1) (c':=1) (news:=[.string (eU (obj S.O tk).ah j),vI ((obj S.O ek).id)]) (fun _=>by kernel_rfl) rfl (by kernel_rfl) (fun _=>by kernel_rfl) (fun _=>by kernel_rfl) Tryz.underlying68 (by kernel_rfl) rfl (by decide) (rfl) (by simp [Value.oneCell']) (kP (j:=17) rfl) (by unfold maxLen;omega) (by omega) (fun uf ug=>?_)
      refine aj.dm 1 (p:=.abs (aK 140 2 uf (j+1) ug ((gV (((obj S.O tk).ah.take j).map (jP S.O)))++[.string (eU (obj S.O tk).ah j),vI ((obj S.O ek).id)]))) (p':=.abs (aK 140 2 uf (j+1) ug (gV (((obj S.O tk).ah.take (j+1)).map (jP S.O))))) (by kernel_rfl) (congrArg (fun x=>HP.abs (aK 140 2 _ _ _ x)) (xT hj2 Lb)) ?_
      refine aj.slot 100 (.slice uf (j+1) (ug)) (.slice uf ((j+1)) (ug)) (fun _=>by kernel_rfl) (rfl) ?_
      refine NL ?_
      exact MD (uf,ug) [0,2,3,8,11,19,20,21,79,80,81,100] [0,1,2,3,4,5,6,7,8,9,10,11,12,13,14,15,16,17]
     rintro⟨uf,ug⟩
     refine aN.cut (ι:=Unit) (fr':=fun (_:Unit)=>(mg f b4 b5 b15 L tk A7 S c8 i dZ fB j++[(100,.slice uf ((j+1)) (ug)),(101,.pointer (some ⟨b15,9,none⟩))])) (hp':=fun (_:Unit)=>([jD b15 S i tk Ae j ce,C0 uf j ug S tk]++lp L tk S b16 dZ fB b5 An i cn K A7 c8 b4 f m t R++[C2 jV S tk j ek])) [2,13,0] rfl rfl ?_ rfl (fun _=>by kernel_rfl) ?_
     ·refine gK 1 [(101,.pointer (some ⟨b15,9,none⟩))] [] ?_
      refine NL ?_
      exact MD () [0,2,3,8,11,19,20,21,79,80,81,100,101] [0,1,2,3,4,5,6,7,8,9,10,11,12,13,14,15,16,17]
     rintro _
     refine aN.last rfl rfl ?_
     refine gC 1 [] [(0,a_ 0 b15)] [(0,[(9,.slice uf ((j+1)) (ug))])] ?_
     refine NL (ai.np (ai.aJ (NX (af.region ?_))))
     refine gK 2 [(81,vI ↑(j+1))] [(0,p_ ⟨[],none,none,none,some (vI ↑(j+1))⟩ [(Value.int .i64 (IntKind.wrap .i64 (((j:Nat):Int)+1)))=(.int .i64 ↑(j+1))] ⟨bn (by omega) (by omega) (by omega),trivial⟩)] ?_
     refine NL ?_
     exact ai.turn ((j+1),uf,ug) (idx:=[0,2,3,8,11,19,20,21,79,80,81]) (pk:=[0,1,2,3,4,5,6,7,8,9,10,11,12,13,14,15,16]) (show (((j+1))<=(obj S.O tk).ah.length) from (by omega)) (by show (obj S.O tk).ah.length - ((j+1)) < (obj S.O tk).ah.length - j;omega) (fun _=>by kernel_rfl) rfl (by kernel_rfl)
    have hke:(obj S.O ek).kind=3:=hI.kind Ai
    refine af.bM (S:=[FO L tk S,pO S.O L,jD b15 S i tk Ae j ce]) [0,1,2,3,4,5,6,7,8,9,10,11,12,13,14,15,16,17] 9 [2,13,0] (by kernel_rfl) (by kernel_rfl) rfl (by kernel_rfl) ?_
    refine gR 1 [8,9,10,11,12,13,14,15,16,17] (FP f b4 b5 b15 L tk A7 S c8 i dZ fB j++q6 Ae j ce S tk++[(91,.map (some (L.m tk))),(92,.string (eU (obj S.O tk).ah j))]) [0,1,2,3,4,5,6,7] [(1,a_ 2 b15),(6,v_ 1 (bw L hkt))] ?_
    refine aN.dR 0 (d:=(some 93)) (t:=136) (K:=9) (E:=124) (b:=(L.m tk)) (cnt:=(obj S.O tk).ah.length) (f:=(iL L (obj S.O tk).ah)) (x:=(.tmp 91)) (ix:=(.tmp 92)) (key:=.string (eU (obj S.O tk).ah j)) (z:=.nilIface) (kl:=(.string (eU (obj S.O tk).ah j).data.toList)) (q:=(some (dQ L ⟨ek,3⟩))) (by kernel_rfl) (by kernel_rfl) (fun _=>by kernel_rfl) (fun _=>by kernel_rfl) zM Tryz.underlying136 (fun _=>by kernel_rfl) (Cr (by omega)) (by rw [r8,hle];rfl) (by kernel_rfl) ?_
    refine mL [2,13,0] [] (dg (L.b ek)) ?_ (by rintro _ _ ⟨rfl,rfl⟩;rfl)
    rintro _ _ ⟨rfl,rfl⟩
    refine aN.cut (ι:=Unit) (fr':=fun (_:Unit)=>(mg f b4 b5 b15 L tk A7 S c8 i dZ fB j++q6 Ae j ce S tk++[(95,vP (L.b ek))])) (hp':=fun (_:Unit)=>([jD b15 S i tk Ae j ce,og Ae j ce S tk]++lp L tk S b16 dZ fB b5 An i cn K A7 c8 b4 f m t R)) [2,13,0] rfl rfl ?_ rfl (fun _=>by kernel_rfl) ?_
    ·refine gK 1 [(95,vP (L.b ek))] [] ?_
     refine NL ?_
     exact MD () [0,2,3,8,11,19,20,21,79,80,81,86,87,95] [0,1,2,3,4,5,6,7,8,9,10,11,12,13,14,15,16]
    rintro _
    refine aN.cut (ι:=Unit) (fr':=fun (_:Unit)=>(mg f b4 b5 b15 L tk A7 S c8 i dZ fB j++q6 Ae j ce S tk++[(96,vP (L.b ek))])) (hp':=fun (_:Unit)=>([jD b15 S i tk Ae j ce,og Ae j ce S tk]++lp L tk S b16 dZ fB b5 An i cn K A7 c8 b4 f m t R)) [2,13,0] rfl rfl ?_ rfl (fun _=>by kernel_rfl) ?_
    ·refine gK 1 [(96,vP (L.b ek))] [] ?_
     refine NL ?_
     exact MD () [0,2,3,8,11,19,20,21,79,80,81,86,87,96] [0,1,2,3,4,5,6,7,8,9,10,11,12,13,14,15,16]
    rintro _
    refine aN.cut (ι:=Unit) (fr':=fun (_:Unit)=>(mg f b4 b5 b15 L tk A7 S c8 i dZ fB j++q6 Ae j ce S tk++[(97,vI ((obj S.O ek).id))])) (hp':=fun (_:Unit)=>([jD b15 S i tk Ae j ce,og Ae j ce S tk]++lp L tk S b16 dZ fB b5 An i cn K A7 c8 b4 f m t R)) [2,13,0] rfl rfl ?_ rfl (fun _=>by kernel_rfl) ?_
    ·refine gK 1 [(97,vI ((obj S.O ek).id))] [(0,v_ 13 (qX L hke))] ?_
     refine NL ?_
     exact MD () [0,2,3,8,11,19,20,21,79,80,81,86,87,97] [0,1,2,3,4,5,6,7,8,9,10,11,12,13,14,15,16]
    rintro _
    refine aN.cut (ι:=Unit) (fr':=fun (_:Unit)=>(mg f b4 b5 b15 L tk A7 S c8 i dZ fB j++[(86,.slice Ae (j) (ce)),(98,.agg #[.string (eU (obj S.O tk).ah j),vI ((obj S.O ek).id)])])) (hp':=fun (_:Unit)=>([jD b15 S i tk Ae j ce,og Ae j ce S tk]++lp L tk S b16 dZ fB b5 An i cn K A7 c8 b4 f m t R)) [2,13,0] rfl rfl ?_ rfl (fun _=>by kernel_rfl) ?_
    ·refine gK 1 [(98,.agg #[.string (eU (obj S.O tk).ah j),vI ((obj S.O ek).id)])] [] ?_
     refine NL ?_
     exact MD () [0,2,3,8,11,19,20,21,79,80,81,86,98] [0,1,2,3,4,5,6,7,8,9,10,11,12,13,14,15,16]
    rintro _
    refine mN [2,13,0] (fun o8=>[(99,.slice (some ⟨o8,0,none⟩) (1) (1))]) (fun _=>[]) (fun o8=>.blk o8 [.string (eU (obj S.O tk).ah j),vI ((obj S.O ek).id)] 140) (fun o8=>?_)
    refine aN.cut (ι:=(Option Addr)×Nat) (fr':=fun ((uh,uj):(Option Addr)×Nat)=>(mg f b4 b5 b15 L tk A7 S c8 i dZ fB j++[(100,.slice uh ((j+1)) (uj))])) (hp':=fun ((uh,uj):(Option Addr)×Nat)=>([jD b15 S i tk Ae j ce,C0 uh j uj S tk]++lp L tk S b16 dZ fB b5 An i cn K A7 c8 b4 f m t R++[C2 o8 S tk j ek])) [2,13,0] rfl rfl ?_ rfl (fun _=>by kernel_rfl) ?_
    ·refine aj.append 1 (d:=(some 100)) (t:=68) (e:=140) (z:=.agg #[.string ⟨#[]⟩,vI 0]) (size:=2) (bytes:=24) (n:=j) (cap:=ce) (A:=Ae) (xs:=(gV (((obj S.O tk).ah.take j).map (jP S.O)))) (s:=(.tmp 86)) (x:=(.tmp 99)) (ats:=#[68,68]) (A':=some ⟨o8,0,none⟩) (m:=1) (c':=1) (news:=[.string (eU (obj S.O tk).ah j),vI ((obj S.O ek).id)]) (fun _=>by kernel_rfl) rfl (by kernel_rfl) (fun _=>by kernel_rfl) (fun _=>by kernel_rfl) Tryz.underlying68 (by kernel_rfl) rfl (by decide) (rfl) (by simp [Value.oneCell']) (kP (j:=17) rfl) (by unfold maxLen;omega) (by omega) (fun uh uj=>?_)
     refine aj.dm 1 (p:=.abs (aK 140 2 uh (j+1) uj ((gV (((obj S.O tk).ah.take j).map (jP S.O)))++[.string (eU (obj S.O tk).ah j),vI ((obj S.O ek).id)]))) (p':=.abs (aK 140 2 uh (j+1) uj (gV (((obj S.O tk).ah.take (j+1)).map (jP S.O))))) (by kernel_rfl) (congrArg (fun x=>HP.abs (aK 140 2 _ _ _ x)) (xT hj2 Lb)) ?_
     refine aj.slot 100 (.slice uh (j+1) (uj)) (.slice uh ((j+1)) (uj)) (fun _=>by kernel_rfl) (rfl) ?_
     refine NL ?_
     exact MD (uh,uj) [0,2,3,8,11,19,20,21,79,80,81,100] [0,1,2,3,4,5,6,7,8,9,10,11,12,13,14,15,16,17]
    rintro⟨uh,uj⟩
    refine aN.cut (ι:=Unit) (fr':=fun (_:Unit)=>(mg f b4 b5 b15 L tk A7 S c8 i dZ fB j++[(100,.slice uh ((j+1)) (uj)),(101,.pointer (some ⟨b15,9,none⟩))])) (hp':=fun (_:Unit)=>([jD b15 S i tk Ae j ce,C0 uh j uj S tk]++lp L tk S b16 dZ fB b5 An i cn K A7 c8 b4 f m t R++[C2 o8 S tk j ek])) [2,13,0] rfl rfl ?_ rfl (fun _=>by kernel_rfl) ?_
    ·refine gK 1 [(101,.pointer (some ⟨b15,9,none⟩))] [] ?_
     refine NL ?_
     exact MD () [0,2,3,8,11,19,20,21,79,80,81,100,101] [0,1,2,3,4,5,6,7,8,9,10,11,12,13,14,15,16,17]
    rintro _
    refine aN.last rfl rfl ?_
    refine gC 1 [] [(0,a_ 0 b15)] [(0,[(9,.slice uh ((j+1)) (uj))])] ?_
    refine NL (ai.np (ai.aJ (NX (af.region ?_))))
    refine gK 2 [(81,vI ↑(j+1))] [(0,p_ ⟨[],none,none,none,some (vI ↑(j+1))⟩ [(Value.int .i64 (IntKind.wrap .i64 (((j:Nat):Int)+1)))=(.int .i64 ↑(j+1))] ⟨bn (by omega) (by omega) (by omega),trivial⟩)] ?_
    refine NL ?_
    exact ai.turn ((j+1),uh,uj) (idx:=[0,2,3,8,11,19,20,21,79,80,81]) (pk:=[0,1,2,3,4,5,6,7,8,9,10,11,12,13,14,15,16]) (show (((j+1))<=(obj S.O tk).ah.length) from (by omega)) (by show (obj S.O tk).ah.length - ((j+1)) < (obj S.O tk).ah.length - j;omega) (fun _=>by kernel_rfl) rfl (by kernel_rfl)
   refine af.exit (ai.aS (ai.aS (ai.cD (ai.aJ (NX (af.region ?_))))))
   have hjl:j=(obj S.O tk).ah.length:=by omega
   refine aj.mem (cR:=([pE S.O L,jD b15 S i tk Ae j ce,og Ae j ce S tk,Rh b16 L tk,Ri dZ S tk fB]++wu b5 An i cn K S A7 c8 b4 f m t L++[pD S.O L,.abs R])) (fun w hS=>hS.Qg (i:=15) (j:=2) (idx:=[0,1,3,4,5,6,7,8,9,10,11,12,13,14,16]) (k:=tk) rfl rfl (by kernel_rfl) rfl (hkt)) ?_
   refine gN 4 (fun HX=>[(104,.slice An (i) (cn)),(106,.slice (some ⟨HX,0,none⟩) (1) (1))]) (fun HX=>[(1,a_ 5 b5),(2,A_ 1 b15 10)]) (fun _=>[]) (fun HX=>.blk HX [vI ((cJ S i)),vI 2,vI ((obj S.O tk).mode),vI ((obj S.O tk).uid),vI ((obj S.O tk).gid),vI ((obj S.O tk).sec),vI ((obj S.O tk).nano),.slice none (0) (0),.string ⟨#[]⟩,.slice Ae (j) (ce)] 70) (fun HX=>?_)
   refine aj.append 6 (d:=(some 107)) (t:=22) (e:=70) (z:=.agg #[vI 0,vI 0,vI 0,vI 0,vI 0,vI 0,vI 0,.slice none (0) (0),.string ⟨#[]⟩,.slice none (0) (0)]) (size:=10) (bytes:=120) (n:=i) (cap:=cn) (A:=An) (xs:=(dI K ((av S).take i))) (s:=(.tmp 104)) (x:=(.tmp 106)) (ats:=#[22,22]) (A':=some ⟨HX,0,none⟩) (m:=1) (c':=1) (news:=[vI ((cJ S i)),vI 2,vI ((obj S.O tk).mode),vI ((obj S.O tk).uid),vI ((obj S.O tk).gid),vI ((obj S.O tk).sec),vI ((obj S.O tk).nano),.slice none (0) (0),.string ⟨#[]⟩,.slice Ae (j) (ce)]) (fun _=>by kernel_rfl) rfl (by kernel_rfl) (fun _=>by kernel_rfl) (fun _=>by kernel_rfl) Tryz.underlying22 (by kernel_rfl) rfl (by decide) (rfl) (by simp [Value.oneCell']) (kP (j:=16) rfl) (by unfold maxLen;omega) (by omega) (fun HY HZ=>?_)
   refine aj.dm 6 (p:=.abs (aK 70 10 HY (i+1) HZ ((dI K ((av S).take i))++[vI ((cJ S i)),vI 2,vI ((obj S.O tk).mode),vI ((obj S.O tk).uid),vI ((obj S.O tk).gid),vI ((obj S.O tk).sec),vI ((obj S.O tk).nano),.slice none (0) (0),.string ⟨#[]⟩,.slice Ae (j) (ce)]))) (p':=.abs (aK 70 10 HY (i+1) HZ (dI (K.put i none 0 Ae ce) ((av S).take (i+1))))) (by kernel_rfl) (congrArg (fun x=>HP.abs (aK 70 10 _ _ _ x)) (vY (dS (by omega)) (sW hI.toInv0 hi2 lE hlv) rfl (by show ((obj S.O tk).ah.map (jP S.O)).length=j;rw [List.length_map,hjl]))) ?_
   refine aj.slot 107 (.slice HY (i+1) (HZ)) (.slice HY ((i+1)) (HZ)) (fun _=>by kernel_rfl) (rfl) ?_
   refine gC 2 [] [(1,a_ 5 b5)] [(5,[(0,.slice HY ((i+1)) (HZ))])] ?_
   refine NL (ai.aJ (NX (af.region ?_)))
   refine gK 2 [(21,vI ↑(i+1))] [(0,p_ ⟨[],none,none,none,some (vI ↑(i+1))⟩ [(Value.int .i64 (IntKind.wrap .i64 (((i:Nat):Int)+1)))=(.int .i64 ↑(i+1))] ⟨bn (by omega) (by omega) (by omega),trivial⟩)] ?_
   refine NL (ai.mem (fun w hS=>hS.j7 (e:=5) (size:=1)) ?_)
   refine ai.mem (fun w hS=>hS.rZ (R':=(lS ((av S).take (i+1)) (K.put i none 0 Ae ce))) (i:=8) (j:=17) (idx:=[0,1,2,3,4,5,6,7,9,10,11,12,13,14,15,16]) rfl rfl (by kernel_rfl) rfl (zY (dS (by omega)) (sW hI.toInv0 hi2 lE hlv)) (xR (dS (by omega)) (sW hI.toInv0 hi2 lE hlv) rfl)) ?_
   refine ai.mem (fun w hS=>hS.rZ (R':=(lQ ((av S).take (i+1)) (K.put i none 0 Ae ce))) (i:=8) (j:=3) (idx:=[0,1,2,4,5,6,7,9,10,11,12,13,14,15,16]) rfl rfl (by kernel_rfl) rfl (zZ (dS (by omega)) (sW hI.toInv0 hi2 lE hlv)) ((xS (dS (by omega)) (sW hI.toInv0 hi2 lE hlv) (by show ((obj S.O tk).ah.map (jP S.O)).length=j;rw [List.length_map,hjl])).trans (by rw [hjl,List.take_length]))) ?_
   exact ai.turn ((i+1),HY,HZ,(K.put i none 0 Ae ce)) (idx:=[0,2,3,19,20,21]) (pk:=[6,7,0,1,8,9,10,11,12,13,2,14]) (show (((i+1))<=S.idx.length) from (by omega)) (by show S.idx.length - ((i+1)) < S.idx.length - i;omega) (fun _=>by kernel_rfl) rfl (by kernel_rfl)
  have hkt:(obj S.O tk).kind=3:=hI.kind hlv
  have hel:(obj S.O tk).ah.length<=8192:=hI.gy hlv
  have hdl:(obj S.O tk).data.length<=140737488355328:=hI.IJ hlv
  refine af.region (gK 5 [(28,.map (some m)),(29,vI ((cJ S i)))] [(3,a_ 6 f)] ?_)
  refine aj.dR 7 (d:=(some 30)) (t:=120) (K:=3) (E:=124) (b:=m) (n:=S.idx.length) (f:=(aX (aY L S.idx))) (x:=(.tmp 28)) (ix:=(.tmp 29)) (key:=.int .i64 ((cJ S i))) (z:=.nilIface) (kl:=(.int .i64 (cJ S i))) (r:=(some (dQ L ⟨tk,3⟩))) (fun _=>by kernel_rfl) (by kernel_rfl) (fun _=>by kernel_rfl) (fun _=>by kernel_rfl) dw Tryz.underlying120 (fun _=>by kernel_rfl) (gY (CI hI.toInv0 hi2)) (by rw [fC,hget,lE];rfl) ?_
  refine gK 1 [(6,.iface 132 (vP (L.b tk)))] [] ?_
  refine NS (gK 1 [(31,.iface 132 (vP (L.b tk)))] [] ?_)
  refine gL [] (dg (L.b tk)) ?_
  rintro _ _ ⟨rfl,rfl⟩
  refine gK 1 [(7,vP (L.b tk))] [] ?_
  refine NN (af.seq (af.rR (S:=[pO S.O L]) [0,1,3,4,5,6,7,8,9,10,11,12,13,14,15,16,17,18] [.beside [2,19] 20,.one 21] [8] (by kernel_rfl) (by kernel_rfl) rfl (by kernel_rfl) ?_))
  refine gP (yg f b4 b5++[(6,.iface 132 (vP (L.b tk)))]++yh A7 S c8 i++[(33,vI ((cJ S i))),(34,.iface 132 (vP (L.b tk)))]++C3 S tk) [0,1,3,4,5,6,7,8,9,10,11,12,13,14,15,16,17,18] [(5,v_ 0 (tq L hkt)),(9,v_ 0 (yP L hkt)),(13,v_ 0 (yQ L hkt)),(17,p_ ⟨[.view 0 (.int .i64 ((obj S.O tk).sec)),.view 0 (.int .i64 ((obj S.O tk).nano))],none,none,none,none⟩ [(∀ F w,(ax (bI S.O L)).h F w->w.cell? ⟨(L.b tk),5,none⟩=some (vI ((obj S.O tk).nano))),(∀ F w,(ax (bI S.O L)).h F w->w.cell? ⟨(L.b tk),4,none⟩=some (vI ((obj S.O tk).sec)))] ⟨d8 (by rw [hkt];decide) (rfl),d8 (by rw [hkt];decide) (rfl),trivial⟩)] ?_
  refine iN.beside (j:=20) (dj:=8) (R:=fun f_ l_=>f_=([(52,.agg #[vI ((cJ S i)),vI 3,vI ((obj S.O tk).mode),vI ((obj S.O tk).uid),vI ((obj S.O tk).gid),vI ((obj S.O tk).sec),vI ((obj S.O tk).nano),.slice none (0) (0),.string ⟨#[]⟩,.slice none (0) (0)]),(35,vI 3)]++yg f b4 b5++[(6,.iface 132 (vP (L.b tk)))]++yh A7 S c8 i++[(33,vI ((cJ S i))),(34,.iface 132 (vP (L.b tk)))]++C3 S tk)/\l_=[]) [0,1,2,3,4,5,6,7,8,9,10,11] [8] [(2,35),(19,52)] rfl (pc:=[]) (pj:=[]) (Z:=(wu b5 An i cn K S A7 c8 b4 f m t L++[pD S.O L,pE S.O L,.abs R])) (by kernel_rfl) rfl (by kernel_rfl) rfl rfl (kU.of (ι:=Nat) (v:=fun (vl:Nat)=>vP vl) (l:=fun (vl:Nat)=>[Rf vl]) [35,52] rfl rfl rfl rfl ?_) ?_ ?_
  ·intro u Aq
   show aj _ _ _ _ _ [(35,(u 35)),(52,(u 52)),(0,vP f),(2,vP b4),(3,vP b5),(6,.iface 132 (vP (L.b tk))),(19,.slice A7 ((keys S.idx).length) (c8)),(20,vI ↑((keys S.idx).length)),(21,vI ↑i),(33,vI ((cJ S i))),(34,.iface 132 (vP (L.b tk))),(39,vI ((obj S.O tk).mode)),(43,vI ((obj S.O tk).uid)),(47,vI ((obj S.O tk).gid)),(51,.agg #[vI ((obj S.O tk).sec),vI ((obj S.O tk).nano)])] [.abs Aq] _
   refine gN 1 (fun vl=>[(8,vP vl)]) (fun _=>[]) (fun _=>[]) (fun vl=>.blk vl [vI 0,vI 0,vI 0,vI 0,vI 0,vI 0,vI 0,.slice none (0) (0),.string ⟨#[]⟩,.slice none (0) (0)] 70) (fun vl=>?_)
   refine NL ?_
   exact MD vl [8,35,52,0,2,3,6,19,20,21,33,34,39,43,47,51] [1,0]
  ·refine kV.step (kU.of (ι:=Unit) (v:=fun (_:Unit)=>.int .i64 3) (l:=fun (_:Unit)=>[]) [8] rfl rfl rfl rfl ?_) rfl ?_
   ·intro u Aq
    show aj _ _ _ _ _ [(8,(u 8)),(0,vP f),(2,vP b4),(3,vP b5),(6,.iface 132 (vP (L.b tk))),(19,.slice A7 ((keys S.idx).length) (c8)),(20,vI ↑((keys S.idx).length)),(21,vI ↑i),(33,vI ((cJ S i))),(34,.iface 132 (vP (L.b tk))),(39,vI ((obj S.O tk).mode)),(43,vI ((obj S.O tk).uid)),(47,vI ((obj S.O tk).gid)),(51,.agg #[vI ((obj S.O tk).sec),vI ((obj S.O tk).nano)])] [.abs Aq] _
    refine gL [] (nY (vP (L.b tk))) ?_
    rintro _ _ ⟨rfl,rfl⟩
    refine NL ?_
    exact MD () [35,8,0,2,3,6,19,20,21,33,34,39,43,47,51] [0]
   rintro _ _ ⟨_,rfl,rfl⟩
   refine kV.step (kU.of (ι:=Unit) (v:=fun (_:Unit)=>.agg #[vI ((cJ S i)),vI 3,vI ((obj S.O tk).mode),vI ((obj S.O tk).uid),vI ((obj S.O tk).gid),vI ((obj S.O tk).sec),vI ((obj S.O tk).nano),.slice none (0) (0),.string ⟨#[]⟩,.slice none (0) (0)]) (l:=fun (_:Unit)=>[]) [8] rfl rfl rfl rfl ?_) rfl ?_
   ·intro u Aq
    show aj _ _ _ _ _ [(8,(u 8)),(35,vI 3),(0,vP f),(2,vP b4),(3,vP b5),(6,.iface 132 (vP (L.b tk))),(19,.slice A7 ((keys S.idx).length) (c8)),(20,vI ↑((keys S.idx).length)),(21,vI ↑i),(33,vI ((cJ S i))),(34,.iface 132 (vP (L.b tk))),(39,vI ((obj S.O tk).mode)),(43,vI ((obj S.O tk).uid)),(47,vI ((obj S.O tk).gid)),(51,.agg #[vI ((obj S.O tk).sec),vI ((obj S.O tk).nano)])] [.abs Aq] _
    refine gK 1 [(52,.agg #[vI ((cJ S i)),vI 3,vI ((obj S.O tk).mode),vI ((obj S.O tk).uid),vI ((obj S.O tk).gid),vI ((obj S.O tk).sec),vI ((obj S.O tk).nano),.slice none (0) (0),.string ⟨#[]⟩,.slice none (0) (0)])] [] ?_
    refine NL ?_
    exact MD () [52,8,35,0,2,3,6,19,20,21,33,34,39,43,47,51] [0]
   rintro _ _ ⟨_,rfl,rfl⟩
   exact⟨rfl,rfl⟩
  rintro _ _ ⟨rfl,rfl⟩ _ _ ⟨vl,rfl,rfl⟩
  refine iN.last rfl rfl ?_
  refine gC 1 [] [(0,A_ 0 vl 10)] [(0,([(0,vI ((cJ S i))),(1,vI 3)]++Nc S tk))] ?_
  refine NL (ai.np (NX (af.seq (SR ?_))))
  refine gK 1 [(53,.iface 132 (vP (L.b tk)))] [] ?_
  refine NN (af.block (SR ?_))
  refine gK 3 [(55,.bool false),(56,.pointer none)] [] ?_
  refine NN (CF (SR (gK 3 [(64,.bool true),(65,vP (L.b tk))] [] ?_)))
  refine NN (CT (SR (gK 1 [(10,vP (L.b tk))] [] ?_)))
  refine NN (af.region (gC 6 [] [(3,v_ 9 (SF L hkt)),(5,a_ 0 vl)] [(0,[(8,.string (obj S.O tk).target)])] ?_))
  refine NL (ai.aJ (NX (af.region ?_)))
  refine gN 4 (fun b32=>[(104,.slice An (i) (cn)),(106,.slice (some ⟨b32,0,none⟩) (1) (1))]) (fun b32=>[(1,a_ 1 b5),(2,A_ 0 vl 10)]) (fun _=>[]) (fun b32=>.blk b32 [vI ((cJ S i)),vI 3,vI ((obj S.O tk).mode),vI ((obj S.O tk).uid),vI ((obj S.O tk).gid),vI ((obj S.O tk).sec),vI ((obj S.O tk).nano),.slice none (0) (0),.string (obj S.O tk).target,.slice none (0) (0)] 70) (fun b32=>?_)
  refine aj.append 2 (d:=(some 107)) (t:=22) (e:=70) (z:=.agg #[vI 0,vI 0,vI 0,vI 0,vI 0,vI 0,vI 0,.slice none (0) (0),.string ⟨#[]⟩,.slice none (0) (0)]) (size:=10) (bytes:=120) (n:=i) (cap:=cn) (A:=An) (xs:=(dI K ((av S).take i))) (s:=(.tmp 104)) (x:=(.tmp 106)) (ats:=#[22,22]) (A':=some ⟨b32,0,none⟩) (m:=1) (c':=1) (news:=[vI ((cJ S i)),vI 3,vI ((obj S.O tk).mode),vI ((obj S.O tk).uid),vI ((obj S.O tk).gid),vI ((obj S.O tk).sec),vI ((obj S.O tk).nano),.slice none (0) (0),.string (obj S.O tk).target,.slice none (0) (0)]) (fun _=>by kernel_rfl) rfl (by kernel_rfl) (fun _=>by kernel_rfl) (fun _=>by kernel_rfl) Tryz.underlying22 (by kernel_rfl) rfl (by decide) (rfl) (by simp [Value.oneCell']) (kP (j:=13) rfl) (by unfold maxLen;omega) (by omega) (fun H6 H7=>?_)
  refine aj.dm 2 (p:=.abs (aK 70 10 H6 (i+1) H7 ((dI K ((av S).take i))++[vI ((cJ S i)),vI 3,vI ((obj S.O tk).mode),vI ((obj S.O tk).uid),vI ((obj S.O tk).gid),vI ((obj S.O tk).sec),vI ((obj S.O tk).nano),.slice none (0) (0),.string (obj S.O tk).target,.slice none (0) (0)]))) (p':=.abs (aK 70 10 H6 (i+1) H7 (dI (K.put i none 0 none 0) ((av S).take (i+1))))) (by kernel_rfl) (congrArg (fun x=>HP.abs (aK 70 10 _ _ _ x)) (vY (dS (by omega)) (qN hI.toInv0 hi2 lE hlv) rfl rfl)) ?_
  refine aj.slot 107 (.slice H6 (i+1) (H7)) (.slice H6 ((i+1)) (H7)) (fun _=>by kernel_rfl) (rfl) ?_
  refine gC 2 [] [(1,a_ 1 b5)] [(1,[(0,.slice H6 ((i+1)) (H7))])] ?_
  refine NL (ai.aJ (NX (af.region ?_)))
  refine gK 2 [(21,vI ↑(i+1))] [(0,p_ ⟨[],none,none,none,some (vI ↑(i+1))⟩ [(Value.int .i64 (IntKind.wrap .i64 (((i:Nat):Int)+1)))=(.int .i64 ↑(i+1))] ⟨bn (by omega) (by omega) (by omega),trivial⟩)] ?_
  refine NL (ai.mem (fun w hS=>hS.j7 (e:=5) (size:=1)) ?_)
  refine ai.mem (fun w hS=>hS.j7 (e:=140) (size:=2)) ?_
  refine ai.mem (fun w hS=>hS.rZ (R':=(lS ((av S).take (i+1)) (K.put i none 0 none 0))) (i:=4) (j:=14) (idx:=[0,1,2,3,5,6,7,8,9,10,11,12,13,15]) rfl rfl (by kernel_rfl) rfl (zY (dS (by omega)) (qN hI.toInv0 hi2 lE hlv)) (xR (dS (by omega)) (qN hI.toInv0 hi2 lE hlv) rfl)) ?_
  refine ai.mem (fun w hS=>hS.rZ (R':=(lQ ((av S).take (i+1)) (K.put i none 0 none 0))) (i:=4) (j:=14) (idx:=[0,1,2,3,5,6,7,8,9,10,11,12,13]) rfl rfl (by kernel_rfl) rfl (zZ (dS (by omega)) (qN hI.toInv0 hi2 lE hlv)) ((xS (dS (by omega)) (qN hI.toInv0 hi2 lE hlv) rfl))) ?_
  exact ai.turn ((i+1),H6,H7,(K.put i none 0 none 0)) (idx:=[0,2,3,19,20,21]) (pk:=[3,4,0,1,5,6,7,8,9,10,11,12]) (show (((i+1))<=S.idx.length) from (by omega)) (by show S.idx.length - ((i+1)) < S.idx.length - i;omega) (fun _=>by kernel_rfl) rfl (by kernel_rfl)
 refine af.exit (ai.aS (ai.aS (ai.cD (NX (SR ?_)))))
 have hie:(av S).length=i:=by rw [iC];omega
 have hgt:((av S).take i)=(av S):=by rw [← hie,List.take_length]
 refine aj.dm 1 (p:=.abs (aK 70 10 An i cn (dI K ((av S).take i)))) (p':=.abs (aK 70 10 An ((av S).length) cn (dI K (av S)))) (by kernel_rfl) (by rw [hgt,hie]) ?_
 refine aj.dm 2 (p:=.abs (jB (lQ ((av S).take i) K) i)) (p':=.abs (jB (lQ (av S) K) ((av S).length))) (by kernel_rfl) (by rw [hgt,hie]) ?_
 refine aj.dm 3 (p:=.abs (jB (lS ((av S).take i) K) i)) (p':=.abs (jB (lS (av S) K) ((av S).length))) (by kernel_rfl) (by rw [hgt,hie]) ?_
 refine gC 2 [] [(0,a_ 0 b5),(1,a_ 5 b4)] [(5,[(0,.slice An (i) (cn))])] ?_
 refine NN (af.ret ?_)
 exact ai.ret (v:=.agg #[.slice An (i) (cn)]) (l:=[pF f m t S.X,pI m L S.idx,pO S.O L,pD S.O L,pE S.O L,.abs (aK 70 10 An ((av S).length) cn (dI K (av S))),.abs (jB (lQ (av S) K) ((av S).length)),.abs (jB (lS (av S) K) ((av S).length))]) (bC:=[b4=b4]) [.at 5] [6,7,8,9,10,1,2,3,11] (fun _=>by kernel_rfl) ⟨rfl,trivial⟩ rfl (by kernel_rfl) (⟨An,cn,K,by rw [hie],rfl⟩)
end
end Go.Proofs.YtidjcblbdmfalaaGreat
