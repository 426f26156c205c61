/-
  PROVED HERE: lemmas and contracts of functions (texts of this repo, joined; what the claim does not use is left out): H9, Vh, HD, H10, Hz, ShelfS, SK, HG, Vp, H11, GEnter, GR, GRead, GP, GOk, Nw.
  CONDITIONS: as the theorems say.
-/
import Derived.Test.YtidjcblbdmfalaaGreatMWquiet3
import Derived.Shelf.SlGeneric
import Derived.Shelf.SlIter.Nil
import Derived.Shelf.SortM.Plain
import Derived.Shelf.SortM.SortNone
import Derived.Ground.GgzProg
import Derived.Ground.SlgmProg
import Derived.Test.YtidjcblbdmfalaaGreatProg
set_option maxRecDepth 100000
set_option maxHeartbeats 4000000
namespace Go.Proofs.YtidjcblbdmfalaaGreat
section
open Go.RowKit Go.Maps bG aE
attribute [local irreducible] aj aP af ai
abbrev Uy (S:aG) (L:HL) (tk:Nat):=(.abs (ax (jY (bB S.O L) tk cu.none)):HP)
abbrev NK (L:HL) (tk:Nat) (S:aG) (c:aB):=(.blk (L.b tk) [vI ((obj S.O tk).id),vI (c.mode),vI ((obj S.O tk).uid),vI ((obj S.O tk).gid),vI ((obj S.O tk).sec),vI ((obj S.O tk).nano),vI ((obj S.O tk).links),vI ((obj S.O tk).opens),.bool (obj S.O tk).gone,.slice (L.dA tk) ((obj S.O tk).data.length) ((L.dC tk))] 131:HP)
abbrev NM (L:HL) (tk:Nat) (S:aG) (c:aB):=(.blk (L.b tk) [vI ((obj S.O tk).id),vI (c.mode),vI (c.uid),vI ((obj S.O tk).gid),vI ((obj S.O tk).sec),vI ((obj S.O tk).nano),vI ((obj S.O tk).links),vI ((obj S.O tk).opens),.bool (obj S.O tk).gone,.slice (L.dA tk) ((obj S.O tk).data.length) ((L.dC tk))] 131:HP)
abbrev NR (L:HL) (tk:Nat) (S:aG) (c:aB):=(.blk (L.b tk) [vI ((obj S.O tk).id),vI (c.mode),vI (c.uid),vI (c.gid),vI ((obj S.O tk).sec),vI ((obj S.O tk).nano),vI ((obj S.O tk).links),vI ((obj S.O tk).opens),.bool (obj S.O tk).gone,.slice (L.dA tk) ((obj S.O tk).data.length) ((L.dC tk))] 131:HP)
abbrev Sp (L:HL) (tk:Nat) (S:aG) (c:aB):=(.blk (L.b tk) [vI ((obj S.O tk).id),vI (c.mode),vI ((obj S.O tk).uid),vI ((obj S.O tk).gid),vI ((obj S.O tk).sec),vI ((obj S.O tk).nano),vI ((obj S.O tk).links),vI ((obj S.O tk).opens),.bool (obj S.O tk).gone,.map (some (L.m tk)),(tZ L (obj S.O tk).up)] 138:HP)
abbrev Sq (L:HL) (tk:Nat) (S:aG) (c:aB):=(.blk (L.b tk) [vI ((obj S.O tk).id),vI (c.mode),vI (c.uid),vI ((obj S.O tk).gid),vI ((obj S.O tk).sec),vI ((obj S.O tk).nano),vI ((obj S.O tk).links),vI ((obj S.O tk).opens),.bool (obj S.O tk).gone,.map (some (L.m tk)),(tZ L (obj S.O tk).up)] 138:HP)
abbrev Sr (L:HL) (tk:Nat) (S:aG) (c:aB):=(.blk (L.b tk) [vI ((obj S.O tk).id),vI (c.mode),vI (c.uid),vI (c.gid),vI ((obj S.O tk).sec),vI ((obj S.O tk).nano),vI ((obj S.O tk).links),vI ((obj S.O tk).opens),.bool (obj S.O tk).gone,.map (some (L.m tk)),(tZ L (obj S.O tk).up)] 138:HP)
abbrev St (S:aG) (c:aB) (L2:HL):=(pO (aD S.O (aO S.X) (fun _=>(⟨0,c.mode,0,0,0,0,0,0,false,1,[],⟨#[]⟩,[],none⟩:aR))) L2:HP)
abbrev oV (f:Nat) (m:Nat) (t) (S:aG) (L:HL) (tk:Nat) (cb:Nat) (c) (R:cu):=([pF f m t S.X,pI m L S.idx,jT t S L,Uy S L tk,pD S.O L,pE S.O L,pC cb c,.abs R]:List HP)
abbrev Mk (L:HL) (tk:Nat) (c:aB):=([(65,vP (L.b tk)),(66,vP (L.b tk)),(67,vP (L.b tk)),(71,vI (c.mode)),(75,vI (c.uid)),(79,vI (c.gid)),(83,.agg #[vI (c.sec),vI (c.nano)]),(85,.pointer (some ⟨(L.b tk),1,none⟩))]:Fr)
abbrev qF (c:aB):=([(79,vI (c.gid)),(83,.agg #[vI (c.sec),vI (c.nano)])]:Fr)
abbrev CC (L:HL) (tk:Nat) (c:aB):=([(66,vP (L.b tk)),(67,vP (L.b tk)),(75,vI (c.uid))]:Fr)
abbrev Ml (c:aB) (L:HL) (tk:Nat):=([(83,.agg #[vI (c.sec),vI (c.nano)]),(91,.pointer (some ⟨(L.b tk),4,none⟩))]:Fr)
abbrev Mn (t)(c:aB):=([(12,vP t),(16,vI (c.handle))]:Fr)
abbrev Qh (cb:Nat) (f:Nat) (b4:Nat):=([(49,vP cb),(50,vP f),(52,.iface 129 (vP b4))]:Fr)
theorem DQ {β:Bs} (S:aG) (L:HL) (f m t:Nat) (hI:Inv S) (cb:Nat) (c:aB) (hC:fL β c) :
    Spec Tryz.prog β 98 #[vP f,vP cb] ((pA f m t L S)++[pC cb c]) (fun v l=>∃ L2,v=vI (bJ S c).1/\l=((pA f m t L2 ((bJ S c).2.1))++[.blk cb (bK ((bJ S c).2.2)) 48])):=by
 have hX:=hI.hX
 refine Spec.enter Tryz.func98 rfl Tryz.ntmps98 (Nat.le_of_ble_eq_true rfl) (fun R=>?_)
 refine af.seq ?_
 rcases hI.hand c.handle with dx|⟨tk,dx,hlv⟩|⟨tk,dx,hlv⟩
 ·refine af.region (gK 1 [] [] ?_)
  refine NN (af.seq (af.bH (by kernel_rfl) (by kernel_rfl) ?_))
  refine gQ 8 (Mn t c) [(3,a_ 0 f),(7,a_ 6 cb)] ?_
  refine aP.call (f:=132) (args:=#[vP t,vI (c.handle)]) (d:=(some 17)) (pre:=[jT t S L]) (R:=(qE f m t S L cb c R)) (pk:=[2,0,1,3,4,5,6,7]) (iW:=[1,2,0,3,4,5,6,7]) (v0:=.tuple #[.nilIface,vI 131]) (fun _=>by kernel_rfl) (qo t S.X.cH S.ar (aV L S.us) c.handle hC.hw (pq dx)) rfl (by kernel_rfl) rfl (by kernel_rfl) (fun _ _ h=>h) ?_
  refine gQ 5 [(5,.nilIface),(6,vI 131)] [] ?_
  refine NQ (NX (af.seq (SR ?_)))
  refine gK 2 [(21,.bool true)] [] ?_
  refine NN (CT (SR (gK 2 [(4,vI 131)] [] ?_)))
  refine NN (af.ret (ai.ak ?_))
  exact RT (vI 131) [0,1,2,3,4,5,6,7] (⟨L,by rw [show (bJ S c)=(131,S,c) by unfold bJ;rw [dx]]<;>exact⟨rfl,rfl⟩⟩)
 ·have hkt:(obj S.O tk).kind=1:=hI.kind hlv
  refine af.region (gK 1 [] [] ?_)
  refine NN (af.seq (af.bH (by kernel_rfl) (by kernel_rfl) ?_))
  refine gQ 8 (Mn t c) [(3,a_ 0 f),(7,a_ 6 cb)] ?_
  refine aP.call (f:=132) (args:=#[vP t,vI (c.handle)]) (d:=(some 17)) (pre:=[jT t S L]) (R:=(qE f m t S L cb c R)) (pk:=[2,0,1,3,4,5,6,7]) (iW:=[1,2,0,3,4,5,6,7]) (v0:=.tuple #[.iface 129 (vP (L.b tk)),vI 0]) (fun _=>by kernel_rfl) (kT t S.X.cH S.ar (aV L S.us) c.handle hC.hw (dz L ⟨tk,1⟩) (j3 dx)) rfl (by kernel_rfl) rfl (by kernel_rfl) (fun _ _ h=>h) ?_
  refine gQ 5 (IW L tk) [] ?_
  refine NQ (NX (af.seq (SR ?_)))
  refine gK 2 [(21,.bool false)] [] ?_
  refine NN (CF (af.skip (NX (SR (gK 1 [(23,.iface 129 (vP (L.b tk)))] [] ?_)))))
  refine gL [] (cU (L.b tk)) ?_
  rintro _ _ ⟨rfl,rfl⟩
  refine gK 1 [(7,vP (L.b tk))] [] ?_
  refine NN (af.seq (af.block (SR ?_)))
  refine gK 5 [(30,.bool (obj S.O tk).gone)] [(3,v_ 3 (nw L hkt))] ?_
  refine aj.nF 30 (obj S.O tk).gone (fun _=>by kernel_rfl) (fun mh=>?_) (fun mh=>?_)
  ·refine gK 1 [(31,.iface 129 (vP (L.b tk)))] [] ?_
   refine gL [] (lX (vP (L.b tk))) ?_
   rintro _ _ ⟨rfl,rfl⟩
   refine gK 3 [(25,.bool false)] [] ?_
   refine NN (CF (SR (gK 4 [(39,vI (c.mode))] [(3,a_ 6 cb)] ?_)))
   refine gL [] (fJ (c.mode) 4095) ?_
   rintro _ _ ⟨rfl,rfl⟩
   refine gK 2 [(35,.bool (!(decide (0<=c.mode/\c.mode<=4095))))] [] ?_
   refine NN (af.cT (p:=0<=c.mode/\c.mode<=4095) (fun _=>by kernel_rfl) (fun jE=>?_) (fun jE=>?_))
   ·refine SR (gK 1 [(4,vI 120)] [] ?_)
    refine NN (af.ret (ai.aF (ai.ak ?_)))
    exact RT (vI 120) [0,1,2,3,4,5,6,7] (⟨L,by rw [show (bJ S c)=(120,S,c) by unfold bJ;rw [dx];exact (if_neg (fun h=>absurd h.2 (by simp))).trans (if_neg jE)]<;>exact⟨rfl,rfl⟩⟩)
   refine SR (gK 4 [(46,vI (c.uid))] [(3,a_ 6 cb)] ?_)
   refine gL [] (fJ (c.uid) 2147483647) ?_
   rintro _ _ ⟨rfl,rfl⟩
   refine gK 2 [(49,.bool (!(decide (0<=c.uid/\c.uid<=2147483647))))] [] ?_
   refine aj.iF 49 (0<=c.uid/\c.uid<=2147483647) (fun _=>by kernel_rfl) (fun tB=>?_) (fun tB=>?_)
   ·refine gK 8 [(42,.bool true)] [] ?_
    refine NN (CT (SR (gK 1 [(4,vI 11)] [] ?_)))
    refine NN (af.ret (ai.aF (ai.ak ?_)))
    exact RT (vI 11) [0,1,2,3,4,5,6,7] (⟨L,by rw [show (bJ S c)=(11,S,c) by unfold bJ;rw [dx];exact (if_neg (fun h=>absurd h.2 (by simp))).trans ((if_pos jE).trans (if_neg (fun h=>tB h.1)))]<;>exact⟨rfl,rfl⟩⟩)
   refine gK 4 [(53,vI (c.gid))] [(3,a_ 6 cb)] ?_
   refine gL [] (fJ (c.gid) 2147483647) ?_
   rintro _ _ ⟨rfl,rfl⟩
   refine gK 3 [(42,.bool (!(decide (0<=c.gid/\c.gid<=2147483647))))] [] ?_
   refine NN (af.cT (p:=0<=c.gid/\c.gid<=2147483647) (fun _=>by kernel_rfl) (fun tD=>?_) (fun tD=>?_))
   ·refine SR (gK 1 [(4,vI 11)] [] ?_)
    refine NN (af.ret (ai.aF (ai.ak ?_)))
    exact RT (vI 11) [0,1,2,3,4,5,6,7] (⟨L,by rw [show (bJ S c)=(11,S,c) by unfold bJ;rw [dx];exact (if_neg (fun h=>absurd h.2 (by simp))).trans ((if_pos jE).trans (if_neg (fun h=>tD h.2)))]<;>exact⟨rfl,rfl⟩⟩)
   refine SR (gK 4 [(61,.agg #[vI (c.sec),vI (c.nano)])] [(3,A_ 6 cb 2)] ?_)
   refine gL [] (iz c.sec c.nano) ?_
   rintro _ _ ⟨rfl,rfl⟩
   refine gK 2 [(57,.bool (!(decide (dL c.sec c.nano))))] [] ?_
   refine NN (af.cT (p:=dL c.sec c.nano) (fun _=>by kernel_rfl) (fun uF=>?_) (fun uF=>?_))
   ·refine SR (gK 1 [(4,vI 20)] [] ?_)
    refine NN (af.ret (ai.aF (ai.ak ?_)))
    exact RT (vI 20) [0,1,2,3,4,5,6,7] (⟨L,by rw [show (bJ S c)=(20,S,c) by unfold bJ;rw [dx];exact (if_neg (fun h=>absurd h.2 (by simp))).trans ((if_pos jE).trans ((if_pos ⟨tB,tD⟩).trans (if_neg uF)))]<;>exact⟨rfl,rfl⟩⟩)
   refine af.skip (ai.aN (NX (af.seq ?_)))
   skip
   refine af.mem (fun w hS=>hS.wS (i:=3) (k:=tk) rfl (by rw [hkt];decide) (gU (hkt)) (congrArg jZ (hkt))) ?_
   refine af.bP (S:=[pC cb c]) [0,1,2,3,4,5,6,7,8,9,10,11,12,13,14,15,16,17,18,19,20,21,22,23,24,25,26,27,28,29,30,31] 22 [6] (by kernel_rfl) (by kernel_rfl) rfl (by kernel_rfl) ?_
   refine gR 0 [22,23,24,25,26,27,28,29,30,31] (Mk L tk c) [0,1,2,3,4,5,6,7,8,9,10,11,12,13,14,15,16,17,18,19,20,21] [(7,a_ 0 cb),(11,a_ 0 cb),(15,a_ 0 cb),(19,A_ 0 cb 2)] ?_
   refine mC [6] [] [(0,a_ 8 (L.b tk))] [(8,[(1,vI (c.mode))])] ?_
   refine aL.cut (ι:=Unit) (fr':=fun (_:Unit)=>(CC L tk c++qF c++[(86,vP (L.b tk))])) (hp':=fun (_:Unit)=>(oV f m t S L tk cb c R++[NK L tk S c])) [6] rfl rfl ?_ rfl (fun _=>by kernel_rfl) ?_
   ·refine gK 1 [(86,vP (L.b tk))] [] ?_
    refine NL ?_
    exact MD () [66,67,75,79,83,86] [0,1,2,3,4,5,6,7,8]
   rintro _
   refine aL.cut (ι:=Unit) (fr':=fun (_:Unit)=>(CC L tk c++qF c++[(87,.pointer (some ⟨(L.b tk),2,none⟩))])) (hp':=fun (_:Unit)=>(oV f m t S L tk cb c R++[NK L tk S c])) [6] rfl rfl ?_ rfl (fun _=>by kernel_rfl) ?_
   ·refine gK 1 [(87,.pointer (some ⟨(L.b tk),2,none⟩))] [] ?_
    refine NL ?_
    exact MD () [66,67,75,79,83,87] [0,1,2,3,4,5,6,7,8]
   rintro _
   refine mC [6] [] [(0,a_ 8 (L.b tk))] [(8,[(2,vI (c.uid))])] ?_
   refine aL.cut (ι:=Unit) (fr':=fun (_:Unit)=>([(67,vP (L.b tk))]++qF c++[(88,vP (L.b tk))])) (hp':=fun (_:Unit)=>(oV f m t S L tk cb c R++[NM L tk S c])) [6] rfl rfl ?_ rfl (fun _=>by kernel_rfl) ?_
   ·refine gK 1 [(88,vP (L.b tk))] [] ?_
    refine NL ?_
    exact MD () [67,79,83,88] [0,1,2,3,4,5,6,7,8]
   rintro _
   refine aL.cut (ι:=Unit) (fr':=fun (_:Unit)=>([(67,vP (L.b tk))]++qF c++[(89,.pointer (some ⟨(L.b tk),3,none⟩))])) (hp':=fun (_:Unit)=>(oV f m t S L tk cb c R++[NM L tk S c])) [6] rfl rfl ?_ rfl (fun _=>by kernel_rfl) ?_
   ·refine gK 1 [(89,.pointer (some ⟨(L.b tk),3,none⟩))] [] ?_
    refine NL ?_
    exact MD () [67,79,83,89] [0,1,2,3,4,5,6,7,8]
   rintro _
   refine mC [6] [] [(0,a_ 8 (L.b tk))] [(8,[(3,vI (c.gid))])] ?_
   refine aL.cut (ι:=Unit) (fr':=fun (_:Unit)=>[(83,.agg #[vI (c.sec),vI (c.nano)]),(90,vP (L.b tk))]) (hp':=fun (_:Unit)=>(oV f m t S L tk cb c R++[NR L tk S c])) [6] rfl rfl ?_ rfl (fun _=>by kernel_rfl) ?_
   ·refine gK 1 [(90,vP (L.b tk))] [] ?_
    refine NL ?_
    exact MD () [83,90] [0,1,2,3,4,5,6,7,8]
   rintro _
   refine aL.cut (ι:=Unit) (fr':=fun (_:Unit)=>(Ml c L tk)) (hp':=fun (_:Unit)=>(oV f m t S L tk cb c R++[NR L tk S c])) [6] rfl rfl ?_ rfl (fun _=>by kernel_rfl) ?_
   ·refine gK 1 [(91,.pointer (some ⟨(L.b tk),4,none⟩))] [] ?_
    refine NL ?_
    exact MD () [83,91] [0,1,2,3,4,5,6,7,8]
   rintro _
   refine aL.last rfl rfl ?_
   refine gC 1 [] [(0,A_ 8 (L.b tk) 2)] [(8,[(4,vI (c.sec)),(5,vI (c.nano))])] ?_
   refine NL (ai.np (NX (SR ?_)))
   refine aj.mem (cF:=[.abs (ax (bB (aD S.O tk (fun o=>{ o with mode:=c.mode,uid:=c.uid,gid:=c.gid,sec:=c.sec,nano:=c.nano })) L)),.blk f [vI (S.X.cN),vI (S.X.cB),vI (S.X.cH),vI (S.X.cS),vI (S.X.cZ),.map (some m),vP t,vI (S.X.last),vI (S.X.ah),vI (S.X.used)] 126,.abs (aJ Tryz.prog 3 m (aW (aV L S.idx)) S.idx.length),.abs (bS 197 t S.X.cH S.ar (aV L S.us)),.abs (ax (bC (aD S.O tk (fun o=>{ o with mode:=c.mode,uid:=c.uid,gid:=c.gid,sec:=c.sec,nano:=c.nano })) L)),.abs (ax (bV (aD S.O tk (fun o=>{ o with mode:=c.mode,uid:=c.uid,gid:=c.gid,sec:=c.sec,nano:=c.nano })) L)),.blk cb [vI (c.op),vI (c.handle),vI (c.other),.string c.name,.string c.text,.slice c.dA (c.data.length) (c.dC),vI (c.mode),vI (c.uid),vI (c.gid),vI (c.sec),vI (c.nano),vI (c.code),vI (c.answer)] 48,.abs R]) (fun w hS=>by have h:=hS.x6 (O:=S.O) (L:=L) (i:=3) (j:=8) (idx:=[0,1,2,4,5,6,7]) (k:=tk) (f:=(fun o=>{ o with mode:=c.mode,uid:=c.uid,gid:=c.gid,sec:=c.sec,nano:=c.nano })) rfl (fun _ hx=>og hx) rfl (by kernel_rfl) rfl (by show (obj S.O tk).kind≠0;rw [hkt];decide) ((gU (o:=(fun o=>{ o with mode:=c.mode,uid:=c.uid,gid:=c.gid,sec:=c.sec,nano:=c.nano }) (obj S.O tk)) (hkt)).trans rfl) (by show jZ (obj S.O tk).kind=_;rw [hkt]<;>rfl);rw [mF (O:=S.O) (k:=tk) (f:=(fun o=>{ o with mode:=c.mode,uid:=c.uid,gid:=c.gid,sec:=c.sec,nano:=c.nano })) rfl rfl,mG (O:=S.O) (k:=tk) (f:=(fun o=>{ o with mode:=c.mode,uid:=c.uid,gid:=c.gid,sec:=c.sec,nano:=c.nano })) rfl rfl];exact h) ?_
   have jG:(obj (aD S.O tk (fun o=>{ o with mode:=c.mode,uid:=c.uid,gid:=c.gid,sec:=c.sec,nano:=c.nano })) tk).kind=1:=(jy (f:=(fun o=>{ o with mode:=c.mode,uid:=c.uid,gid:=c.gid,sec:=c.sec,nano:=c.nano })) (fun _=>rfl)).trans (hkt)
   generalize ck:(aD S.O tk (fun o=>{ o with mode:=c.mode,uid:=c.uid,gid:=c.gid,sec:=c.sec,nano:=c.nano }))=cA at jG ⊢
   refine gK 1 [(4,vI 0)] [] ?_
   refine NN (af.ret ?_)
   exact RT (l:=[pF f m t S.X,pI m L S.idx,jT t S L,pO cA L,pD cA L,pE cA L,pC cb c]) (.int .i64 0) [1,2,3,0,4,5,6,7] (⟨L,by subst ck;rw [show (bJ S c)=(0,{ S with O:=aD S.O tk (fun o=>{ o with mode:=c.mode,uid:=c.uid,gid:=c.gid,sec:=c.sec,nano:=c.nano }) },c) by unfold bJ;rw [dx];exact (if_neg (fun h=>absurd h.2 (by simp))).trans ((if_pos jE).trans ((if_pos ⟨tB,tD⟩).trans (if_pos uF)))]<;>exact⟨rfl,rfl⟩⟩)
  refine gK 5 [(25,.bool false)] [] ?_
  refine NN (CF (SR (gK 4 [(39,vI (c.mode))] [(3,a_ 6 cb)] ?_)))
  refine gL [] (fJ (c.mode) 4095) ?_
  rintro _ _ ⟨rfl,rfl⟩
  refine gK 2 [(35,.bool (!(decide (0<=c.mode/\c.mode<=4095))))] [] ?_
  refine NN (af.cT (p:=0<=c.mode/\c.mode<=4095) (fun _=>by kernel_rfl) (fun jE=>?_) (fun jE=>?_))
  ·refine SR (gK 1 [(4,vI 120)] [] ?_)
   refine NN (af.ret (ai.aF (ai.ak ?_)))
   exact RT (vI 120) [0,1,2,3,4,5,6,7] (⟨L,by rw [show (bJ S c)=(120,S,c) by unfold bJ;rw [dx];exact (if_neg (fun h=>absurd h.2 (by simp))).trans (if_neg jE)]<;>exact⟨rfl,rfl⟩⟩)
  refine SR (gK 4 [(46,vI (c.uid))] [(3,a_ 6 cb)] ?_)
  refine gL [] (fJ (c.uid) 2147483647) ?_
  rintro _ _ ⟨rfl,rfl⟩
  refine gK 2 [(49,.bool (!(decide (0<=c.uid/\c.uid<=2147483647))))] [] ?_
  refine aj.iF 49 (0<=c.uid/\c.uid<=2147483647) (fun _=>by kernel_rfl) (fun tB=>?_) (fun tB=>?_)
  ·refine gK 8 [(42,.bool true)] [] ?_
   refine NN (CT (SR (gK 1 [(4,vI 11)] [] ?_)))
   refine NN (af.ret (ai.aF (ai.ak ?_)))
   exact RT (vI 11) [0,1,2,3,4,5,6,7] (⟨L,by rw [show (bJ S c)=(11,S,c) by unfold bJ;rw [dx];exact (if_neg (fun h=>absurd h.2 (by simp))).trans ((if_pos jE).trans (if_neg (fun h=>tB h.1)))]<;>exact⟨rfl,rfl⟩⟩)
  refine gK 4 [(53,vI (c.gid))] [(3,a_ 6 cb)] ?_
  refine gL [] (fJ (c.gid) 2147483647) ?_
  rintro _ _ ⟨rfl,rfl⟩
  refine gK 3 [(42,.bool (!(decide (0<=c.gid/\c.gid<=2147483647))))] [] ?_
  refine NN (af.cT (p:=0<=c.gid/\c.gid<=2147483647) (fun _=>by kernel_rfl) (fun tD=>?_) (fun tD=>?_))
  ·refine SR (gK 1 [(4,vI 11)] [] ?_)
   refine NN (af.ret (ai.aF (ai.ak ?_)))
   exact RT (vI 11) [0,1,2,3,4,5,6,7] (⟨L,by rw [show (bJ S c)=(11,S,c) by unfold bJ;rw [dx];exact (if_neg (fun h=>absurd h.2 (by simp))).trans ((if_pos jE).trans (if_neg (fun h=>tD h.2)))]<;>exact⟨rfl,rfl⟩⟩)
  refine SR (gK 4 [(61,.agg #[vI (c.sec),vI (c.nano)])] [(3,A_ 6 cb 2)] ?_)
  refine gL [] (iz c.sec c.nano) ?_
  rintro _ _ ⟨rfl,rfl⟩
  refine gK 2 [(57,.bool (!(decide (dL c.sec c.nano))))] [] ?_
  refine NN (af.cT (p:=dL c.sec c.nano) (fun _=>by kernel_rfl) (fun uF=>?_) (fun uF=>?_))
  ·refine SR (gK 1 [(4,vI 20)] [] ?_)
   refine NN (af.ret (ai.aF (ai.ak ?_)))
   exact RT (vI 20) [0,1,2,3,4,5,6,7] (⟨L,by rw [show (bJ S c)=(20,S,c) by unfold bJ;rw [dx];exact (if_neg (fun h=>absurd h.2 (by simp))).trans ((if_pos jE).trans ((if_pos ⟨tB,tD⟩).trans (if_neg uF)))]<;>exact⟨rfl,rfl⟩⟩)
  refine af.skip (ai.aN (NX (af.seq ?_)))
  skip
  refine af.mem (fun w hS=>hS.wS (i:=3) (k:=tk) rfl (by rw [hkt];decide) (gU (hkt)) (congrArg jZ (hkt))) ?_
  refine af.bP (S:=[pC cb c]) [0,1,2,3,4,5,6,7,8,9,10,11,12,13,14,15,16,17,18,19,20,21,22,23,24,25,26,27,28,29,30,31] 22 [6] (by kernel_rfl) (by kernel_rfl) rfl (by kernel_rfl) ?_
  refine gR 0 [22,23,24,25,26,27,28,29,30,31] (Mk L tk c) [0,1,2,3,4,5,6,7,8,9,10,11,12,13,14,15,16,17,18,19,20,21] [(7,a_ 0 cb),(11,a_ 0 cb),(15,a_ 0 cb),(19,A_ 0 cb 2)] ?_
  refine mC [6] [] [(0,a_ 8 (L.b tk))] [(8,[(1,vI (c.mode))])] ?_
  refine aL.cut (ι:=Unit) (fr':=fun (_:Unit)=>(CC L tk c++qF c++[(86,vP (L.b tk))])) (hp':=fun (_:Unit)=>(oV f m t S L tk cb c R++[NK L tk S c])) [6] rfl rfl ?_ rfl (fun _=>by kernel_rfl) ?_
  ·refine gK 1 [(86,vP (L.b tk))] [] ?_
   refine NL ?_
   exact MD () [66,67,75,79,83,86] [0,1,2,3,4,5,6,7,8]
  rintro _
  refine aL.cut (ι:=Unit) (fr':=fun (_:Unit)=>(CC L tk c++qF c++[(87,.pointer (some ⟨(L.b tk),2,none⟩))])) (hp':=fun (_:Unit)=>(oV f m t S L tk cb c R++[NK L tk S c])) [6] rfl rfl ?_ rfl (fun _=>by kernel_rfl) ?_
  ·refine gK 1 [(87,.pointer (some ⟨(L.b tk),2,none⟩))] [] ?_
   refine NL ?_
   exact MD () [66,67,75,79,83,87] [0,1,2,3,4,5,6,7,8]
  rintro _
  refine mC [6] [] [(0,a_ 8 (L.b tk))] [(8,[(2,vI (c.uid))])] ?_
  refine aL.cut (ι:=Unit) (fr':=fun (_:Unit)=>([(67,vP (L.b tk))]++qF c++[(88,vP (L.b tk))])) (hp':=fun (_:Unit)=>(oV f m t S L tk cb c R++[NM L tk S c])) [6] rfl rfl ?_ rfl (fun _=>by kernel_rfl) ?_
  ·refine gK 1 [(88,vP (L.b tk))] [] ?_
   refine NL ?_
   exact MD () [67,79,83,88] [0,1,2,3,4,5,6,7,8]
  rintro _
  refine aL.cut (ι:=Unit) (fr':=fun (_:Unit)=>([(67,vP (L.b tk))]++qF c++[(89,.pointer (some ⟨(L.b tk),3,none⟩))])) (hp':=fun (_:Unit)=>(oV f m t S L tk cb c R++[NM L tk S c])) [6] rfl rfl ?_ rfl (fun _=>by kernel_rfl) ?_
  ·refine gK 1 [(89,.pointer (some ⟨(L.b tk),3,none⟩))] [] ?_
   refine NL ?_
   exact MD () [67,79,83,89] [0,1,2,3,4,5,6,7,8]
  rintro _
  refine mC [6] [] [(0,a_ 8 (L.b tk))] [(8,[(3,vI (c.gid))])] ?_
  refine aL.cut (ι:=Unit) (fr':=fun (_:Unit)=>[(83,.agg #[vI (c.sec),vI (c.nano)]),(90,vP (L.b tk))]) (hp':=fun (_:Unit)=>(oV f m t S L tk cb c R++[NR L tk S c])) [6] rfl rfl ?_ rfl (fun _=>by kernel_rfl) ?_
  ·refine gK 1 [(90,vP (L.b tk))] [] ?_
   refine NL ?_
   exact MD () [83,90] [0,1,2,3,4,5,6,7,8]
  rintro _
  refine aL.cut (ι:=Unit) (fr':=fun (_:Unit)=>(Ml c L tk)) (hp':=fun (_:Unit)=>(oV f m t S L tk cb c R++[NR L tk S c])) [6] rfl rfl ?_ rfl (fun _=>by kernel_rfl) ?_
  ·refine gK 1 [(91,.pointer (some ⟨(L.b tk),4,none⟩))] [] ?_
   refine NL ?_
   exact MD () [83,91] [0,1,2,3,4,5,6,7,8]
  rintro _
  refine aL.last rfl rfl ?_
  refine gC 1 [] [(0,A_ 8 (L.b tk) 2)] [(8,[(4,vI (c.sec)),(5,vI (c.nano))])] ?_
  refine NL (ai.np (NX (SR ?_)))
  refine aj.mem (cF:=[.abs (ax (bB (aD S.O tk (fun o=>{ o with mode:=c.mode,uid:=c.uid,gid:=c.gid,sec:=c.sec,nano:=c.nano })) L)),.blk f [vI (S.X.cN),vI (S.X.cB),vI (S.X.cH),vI (S.X.cS),vI (S.X.cZ),.map (some m),vP t,vI (S.X.last),vI (S.X.ah),vI (S.X.used)] 126,.abs (aJ Tryz.prog 3 m (aW (aV L S.idx)) S.idx.length),.abs (bS 197 t S.X.cH S.ar (aV L S.us)),.abs (ax (bC (aD S.O tk (fun o=>{ o with mode:=c.mode,uid:=c.uid,gid:=c.gid,sec:=c.sec,nano:=c.nano })) L)),.abs (ax (bV (aD S.O tk (fun o=>{ o with mode:=c.mode,uid:=c.uid,gid:=c.gid,sec:=c.sec,nano:=c.nano })) L)),.blk cb [vI (c.op),vI (c.handle),vI (c.other),.string c.name,.string c.text,.slice c.dA (c.data.length) (c.dC),vI (c.mode),vI (c.uid),vI (c.gid),vI (c.sec),vI (c.nano),vI (c.code),vI (c.answer)] 48,.abs R]) (fun w hS=>by have h:=hS.x6 (O:=S.O) (L:=L) (i:=3) (j:=8) (idx:=[0,1,2,4,5,6,7]) (k:=tk) (f:=(fun o=>{ o with mode:=c.mode,uid:=c.uid,gid:=c.gid,sec:=c.sec,nano:=c.nano })) rfl (fun _ hx=>og hx) rfl (by kernel_rfl) rfl (by show (obj S.O tk).kind≠0;rw [hkt];decide) ((gU (o:=(fun o=>{ o with mode:=c.mode,uid:=c.uid,gid:=c.gid,sec:=c.sec,nano:=c.nano }) (obj S.O tk)) (hkt)).trans rfl) (by show jZ (obj S.O tk).kind=_;rw [hkt]<;>rfl);rw [mF (O:=S.O) (k:=tk) (f:=(fun o=>{ o with mode:=c.mode,uid:=c.uid,gid:=c.gid,sec:=c.sec,nano:=c.nano })) rfl rfl,mG (O:=S.O) (k:=tk) (f:=(fun o=>{ o with mode:=c.mode,uid:=c.uid,gid:=c.gid,sec:=c.sec,nano:=c.nano })) rfl rfl];exact h) ?_
  have lZ:(obj (aD S.O tk (fun o=>{ o with mode:=c.mode,uid:=c.uid,gid:=c.gid,sec:=c.sec,nano:=c.nano })) tk).kind=1:=(jy (f:=(fun o=>{ o with mode:=c.mode,uid:=c.uid,gid:=c.gid,sec:=c.sec,nano:=c.nano })) (fun _=>rfl)).trans (hkt)
  generalize ck:(aD S.O tk (fun o=>{ o with mode:=c.mode,uid:=c.uid,gid:=c.gid,sec:=c.sec,nano:=c.nano }))=cA at lZ ⊢
  refine gK 1 [(4,vI 0)] [] ?_
  refine NN (af.ret ?_)
  exact RT (l:=[pF f m t S.X,pI m L S.idx,jT t S L,pO cA L,pD cA L,pE cA L,pC cb c]) (.int .i64 0) [1,2,3,0,4,5,6,7] (⟨L,by subst ck;rw [show (bJ S c)=(0,{ S with O:=aD S.O tk (fun o=>{ o with mode:=c.mode,uid:=c.uid,gid:=c.gid,sec:=c.sec,nano:=c.nano }) },c) by unfold bJ;rw [dx];exact (if_neg (fun h=>absurd h.2 (by simp))).trans ((if_pos jE).trans ((if_pos ⟨tB,tD⟩).trans (if_pos uF)))]<;>exact⟨rfl,rfl⟩⟩)
 have hkt:(obj S.O tk).kind=2:=hI.kind hlv
 refine af.region (gK 1 [] [] ?_)
 refine NN (af.seq (af.bH (by kernel_rfl) (by kernel_rfl) ?_))
 refine gQ 8 (Mn t c) [(3,a_ 0 f),(7,a_ 6 cb)] ?_
 refine aP.call (f:=132) (args:=#[vP t,vI (c.handle)]) (d:=(some 17)) (pre:=[jT t S L]) (R:=(qE f m t S L cb c R)) (pk:=[2,0,1,3,4,5,6,7]) (iW:=[1,2,0,3,4,5,6,7]) (v0:=.tuple #[.iface 135 (vP (L.b tk)),vI 0]) (fun _=>by kernel_rfl) (kT t S.X.cH S.ar (aV L S.us) c.handle hC.hw (dz L ⟨tk,2⟩) (j3 dx)) rfl (by kernel_rfl) rfl (by kernel_rfl) (fun _ _ h=>h) ?_
 refine gQ 5 (IX L tk) [] ?_
 refine NQ (NX (af.seq (SR ?_)))
 refine gK 2 [(21,.bool false)] [] ?_
 refine NN (CF (af.skip (NX (SR (gK 1 [(23,.iface 135 (vP (L.b tk)))] [] ?_)))))
 refine gL [] (cU (L.b tk)) ?_
 rintro _ _ ⟨rfl,rfl⟩
 refine gK 1 [(7,vP (L.b tk))] [] ?_
 refine NN (af.seq (af.block (SR ?_)))
 refine gK 5 [(30,.bool (obj S.O tk).gone)] [(3,v_ 3 (nw L hkt))] ?_
 refine aj.nF 30 (obj S.O tk).gone (fun _=>by kernel_rfl) (fun mh=>?_) (fun mh=>?_)
 ·refine gK 1 [(31,.iface 135 (vP (L.b tk)))] [] ?_
  refine gL [] (lY (vP (L.b tk))) ?_
  rintro _ _ ⟨rfl,rfl⟩
  refine gK 3 [(25,.bool true)] [] ?_
  refine NN (CT (SR (gK 1 [(4,vI 170)] [] ?_)))
  refine NN (af.ret (ai.aF (ai.ak ?_)))
  exact RT (vI 170) [0,1,2,3,4,5,6,7] (⟨L,by rw [show (bJ S c)=(170,S,c) by unfold bJ;rw [dx];exact if_pos ⟨mh,rfl⟩]<;>exact⟨rfl,rfl⟩⟩)
 refine gK 5 [(25,.bool false)] [] ?_
 refine NN (CF (SR (gK 4 [(39,vI (c.mode))] [(3,a_ 6 cb)] ?_)))
 refine gL [] (fJ (c.mode) 4095) ?_
 rintro _ _ ⟨rfl,rfl⟩
 refine gK 2 [(35,.bool (!(decide (0<=c.mode/\c.mode<=4095))))] [] ?_
 refine NN (af.cT (p:=0<=c.mode/\c.mode<=4095) (fun _=>by kernel_rfl) (fun jE=>?_) (fun jE=>?_))
 ·refine SR (gK 1 [(4,vI 120)] [] ?_)
  refine NN (af.ret (ai.aF (ai.ak ?_)))
  exact RT (vI 120) [0,1,2,3,4,5,6,7] (⟨L,by rw [show (bJ S c)=(120,S,c) by unfold bJ;rw [dx];exact (if_neg (fun h=>absurd h.1 (by rw [mh];decide))).trans (if_neg jE)]<;>exact⟨rfl,rfl⟩⟩)
 refine SR (gK 4 [(46,vI (c.uid))] [(3,a_ 6 cb)] ?_)
 refine gL [] (fJ (c.uid) 2147483647) ?_
 rintro _ _ ⟨rfl,rfl⟩
 refine gK 2 [(49,.bool (!(decide (0<=c.uid/\c.uid<=2147483647))))] [] ?_
 refine aj.iF 49 (0<=c.uid/\c.uid<=2147483647) (fun _=>by kernel_rfl) (fun tB=>?_) (fun tB=>?_)
 ·refine gK 8 [(42,.bool true)] [] ?_
  refine NN (CT (SR (gK 1 [(4,vI 11)] [] ?_)))
  refine NN (af.ret (ai.aF (ai.ak ?_)))
  exact RT (vI 11) [0,1,2,3,4,5,6,7] (⟨L,by rw [show (bJ S c)=(11,S,c) by unfold bJ;rw [dx];exact (if_neg (fun h=>absurd h.1 (by rw [mh];decide))).trans ((if_pos jE).trans (if_neg (fun h=>tB h.1)))]<;>exact⟨rfl,rfl⟩⟩)
 refine gK 4 [(53,vI (c.gid))] [(3,a_ 6 cb)] ?_
 refine gL [] (fJ (c.gid) 2147483647) ?_
 rintro _ _ ⟨rfl,rfl⟩
 refine gK 3 [(42,.bool (!(decide (0<=c.gid/\c.gid<=2147483647))))] [] ?_
 refine NN (af.cT (p:=0<=c.gid/\c.gid<=2147483647) (fun _=>by kernel_rfl) (fun tD=>?_) (fun tD=>?_))
 ·refine SR (gK 1 [(4,vI 11)] [] ?_)
  refine NN (af.ret (ai.aF (ai.ak ?_)))
  exact RT (vI 11) [0,1,2,3,4,5,6,7] (⟨L,by rw [show (bJ S c)=(11,S,c) by unfold bJ;rw [dx];exact (if_neg (fun h=>absurd h.1 (by rw [mh];decide))).trans ((if_pos jE).trans (if_neg (fun h=>tD h.2)))]<;>exact⟨rfl,rfl⟩⟩)
 refine SR (gK 4 [(61,.agg #[vI (c.sec),vI (c.nano)])] [(3,A_ 6 cb 2)] ?_)
 refine gL [] (iz c.sec c.nano) ?_
 rintro _ _ ⟨rfl,rfl⟩
 refine gK 2 [(57,.bool (!(decide (dL c.sec c.nano))))] [] ?_
 refine NN (af.cT (p:=dL c.sec c.nano) (fun _=>by kernel_rfl) (fun uF=>?_) (fun uF=>?_))
 ·refine SR (gK 1 [(4,vI 20)] [] ?_)
  refine NN (af.ret (ai.aF (ai.ak ?_)))
  exact RT (vI 20) [0,1,2,3,4,5,6,7] (⟨L,by rw [show (bJ S c)=(20,S,c) by unfold bJ;rw [dx];exact (if_neg (fun h=>absurd h.1 (by rw [mh];decide))).trans ((if_pos jE).trans ((if_pos ⟨tB,tD⟩).trans (if_neg uF)))]<;>exact⟨rfl,rfl⟩⟩)
 refine af.skip (ai.aN (NX (af.seq ?_)))
 skip
 refine af.mem (fun w hS=>hS.wS (i:=3) (k:=tk) rfl (by rw [hkt];decide) (kP (hkt)) (congrArg jZ (hkt))) ?_
 refine af.bP (S:=[pC cb c]) [0,1,2,3,4,5,6,7,8,9,10,11,12,13,14,15,16,17,18,19,20,21,22,23,24,25,26,27,28,29,30,31] 22 [6] (by kernel_rfl) (by kernel_rfl) rfl (by kernel_rfl) ?_
 refine gR 0 [22,23,24,25,26,27,28,29,30,31] (Mk L tk c) [0,1,2,3,4,5,6,7,8,9,10,11,12,13,14,15,16,17,18,19,20,21] [(7,a_ 0 cb),(11,a_ 0 cb),(15,a_ 0 cb),(19,A_ 0 cb 2)] ?_
 refine mC [6] [] [(0,a_ 8 (L.b tk))] [(8,[(1,vI (c.mode))])] ?_
 refine aL.cut (ι:=Unit) (fr':=fun (_:Unit)=>(CC L tk c++qF c++[(86,vP (L.b tk))])) (hp':=fun (_:Unit)=>(oV f m t S L tk cb c R++[Sp L tk S c])) [6] rfl rfl ?_ rfl (fun _=>by kernel_rfl) ?_
 ·refine gK 1 [(86,vP (L.b tk))] [] ?_
  refine NL ?_
  exact MD () [66,67,75,79,83,86] [0,1,2,3,4,5,6,7,8]
 rintro _
 refine aL.cut (ι:=Unit) (fr':=fun (_:Unit)=>(CC L tk c++qF c++[(87,.pointer (some ⟨(L.b tk),2,none⟩))])) (hp':=fun (_:Unit)=>(oV f m t S L tk cb c R++[Sp L tk S c])) [6] rfl rfl ?_ rfl (fun _=>by kernel_rfl) ?_
 ·refine gK 1 [(87,.pointer (some ⟨(L.b tk),2,none⟩))] [] ?_
  refine NL ?_
  exact MD () [66,67,75,79,83,87] [0,1,2,3,4,5,6,7,8]
 rintro _
 refine mC [6] [] [(0,a_ 8 (L.b tk))] [(8,[(2,vI (c.uid))])] ?_
 refine aL.cut (ι:=Unit) (fr':=fun (_:Unit)=>([(67,vP (L.b tk))]++qF c++[(88,vP (L.b tk))])) (hp':=fun (_:Unit)=>(oV f m t S L tk cb c R++[Sq L tk S c])) [6] rfl rfl ?_ rfl (fun _=>by kernel_rfl) ?_
 ·refine gK 1 [(88,vP (L.b tk))] [] ?_
  refine NL ?_
  exact MD () [67,79,83,88] [0,1,2,3,4,5,6,7,8]
 rintro _
 refine aL.cut (ι:=Unit) (fr':=fun (_:Unit)=>([(67,vP (L.b tk))]++qF c++[(89,.pointer (some ⟨(L.b tk),3,none⟩))])) (hp':=fun (_:Unit)=>(oV f m t S L tk cb c R++[Sq L tk S c])) [6] rfl rfl ?_ rfl (fun _=>by kernel_rfl) ?_
 ·refine gK 1 [(89,.pointer (some ⟨(L.b tk),3,none⟩))] [] ?_
  refine NL ?_
  exact MD () [67,79,83,89] [0,1,2,3,4,5,6,7,8]
 rintro _
 refine mC [6] [] [(0,a_ 8 (L.b tk))] [(8,[(3,vI (c.gid))])] ?_
 refine aL.cut (ι:=Unit) (fr':=fun (_:Unit)=>[(83,.agg #[vI (c.sec),vI (c.nano)]),(90,vP (L.b tk))]) (hp':=fun (_:Unit)=>(oV f m t S L tk cb c R++[Sr L tk S c])) [6] rfl rfl ?_ rfl (fun _=>by kernel_rfl) ?_
 ·refine gK 1 [(90,vP (L.b tk))] [] ?_
  refine NL ?_
  exact MD () [83,90] [0,1,2,3,4,5,6,7,8]
 rintro _
 refine aL.cut (ι:=Unit) (fr':=fun (_:Unit)=>(Ml c L tk)) (hp':=fun (_:Unit)=>(oV f m t S L tk cb c R++[Sr L tk S c])) [6] rfl rfl ?_ rfl (fun _=>by kernel_rfl) ?_
 ·refine gK 1 [(91,.pointer (some ⟨(L.b tk),4,none⟩))] [] ?_
  refine NL ?_
  exact MD () [83,91] [0,1,2,3,4,5,6,7,8]
 rintro _
 refine aL.last rfl rfl ?_
 refine gC 1 [] [(0,A_ 8 (L.b tk) 2)] [(8,[(4,vI (c.sec)),(5,vI (c.nano))])] ?_
 refine NL (ai.np (NX (SR ?_)))
 refine aj.mem (cF:=[.abs (ax (bB (aD S.O tk (fun o=>{ o with mode:=c.mode,uid:=c.uid,gid:=c.gid,sec:=c.sec,nano:=c.nano })) L)),.blk f [vI (S.X.cN),vI (S.X.cB),vI (S.X.cH),vI (S.X.cS),vI (S.X.cZ),.map (some m),vP t,vI (S.X.last),vI (S.X.ah),vI (S.X.used)] 126,.abs (aJ Tryz.prog 3 m (aW (aV L S.idx)) S.idx.length),.abs (bS 197 t S.X.cH S.ar (aV L S.us)),.abs (ax (bC (aD S.O tk (fun o=>{ o with mode:=c.mode,uid:=c.uid,gid:=c.gid,sec:=c.sec,nano:=c.nano })) L)),.abs (ax (bV (aD S.O tk (fun o=>{ o with mode:=c.mode,uid:=c.uid,gid:=c.gid,sec:=c.sec,nano:=c.nano })) L)),.blk cb [vI (c.op),vI (c.handle),vI (c.other),.string c.name,.string c.text,.slice c.dA (c.data.length) (c.dC),vI (c.mode),vI (c.uid),vI (c.gid),vI (c.sec),vI (c.nano),vI (c.code),vI (c.answer)] 48,.abs R]) (fun w hS=>by have h:=hS.x6 (O:=S.O) (L:=L) (i:=3) (j:=8) (idx:=[0,1,2,4,5,6,7]) (k:=tk) (f:=(fun o=>{ o with mode:=c.mode,uid:=c.uid,gid:=c.gid,sec:=c.sec,nano:=c.nano })) rfl (fun _ hx=>og hx) rfl (by kernel_rfl) rfl (by show (obj S.O tk).kind≠0;rw [hkt];decide) ((kP (o:=(fun o=>{ o with mode:=c.mode,uid:=c.uid,gid:=c.gid,sec:=c.sec,nano:=c.nano }) (obj S.O tk)) (hkt)).trans rfl) (by show jZ (obj S.O tk).kind=_;rw [hkt]<;>rfl);rw [mF (O:=S.O) (k:=tk) (f:=(fun o=>{ o with mode:=c.mode,uid:=c.uid,gid:=c.gid,sec:=c.sec,nano:=c.nano })) rfl rfl,mG (O:=S.O) (k:=tk) (f:=(fun o=>{ o with mode:=c.mode,uid:=c.uid,gid:=c.gid,sec:=c.sec,nano:=c.nano })) rfl rfl];exact h) ?_
 have Cr:(obj (aD S.O tk (fun o=>{ o with mode:=c.mode,uid:=c.uid,gid:=c.gid,sec:=c.sec,nano:=c.nano })) tk).kind=2:=(jy (f:=(fun o=>{ o with mode:=c.mode,uid:=c.uid,gid:=c.gid,sec:=c.sec,nano:=c.nano })) (fun _=>rfl)).trans (hkt)
 generalize ck:(aD S.O tk (fun o=>{ o with mode:=c.mode,uid:=c.uid,gid:=c.gid,sec:=c.sec,nano:=c.nano }))=cA at Cr ⊢
 refine gK 1 [(4,vI 0)] [] ?_
 refine NN (af.ret ?_)
 exact RT (l:=[pF f m t S.X,pI m L S.idx,jT t S L,pO cA L,pD cA L,pE cA L,pC cb c]) (.int .i64 0) [1,2,3,0,4,5,6,7] (⟨L,by subst ck;rw [show (bJ S c)=(0,{ S with O:=aD S.O tk (fun o=>{ o with mode:=c.mode,uid:=c.uid,gid:=c.gid,sec:=c.sec,nano:=c.nano }) },c) by unfold bJ;rw [dx];exact (if_neg (fun h=>absurd h.1 (by rw [mh];decide))).trans ((if_pos jE).trans ((if_pos ⟨tB,tD⟩).trans (if_pos uF)))]<;>exact⟨rfl,rfl⟩⟩)
theorem E7 {β:Bs} (S:aG) (L:HL) (f m t:Nat) (hI:Inv S) (cb:Nat) (c:aB) (hC:fL β c) :
    Spec Tryz.prog β 93 #[vP f,vP cb] ((pA f m t L S)++[pC cb c]) (fun v l=>∃ L2,v=vI (dY S c).1/\l=((pA f m t L2 ((dY S c).2.1))++[.blk cb (bK ((dY S c).2.2)) 48])):=by
 have hX:=hI.hX
 refine Spec.enter Tryz.func93 rfl Tryz.ntmps93 (Nat.le_of_ble_eq_true rfl) (fun R=>?_)
 refine SR (gK 1 [] [] ?_)
 refine NN (af.seq (af.bH (by kernel_rfl) (by kernel_rfl) ?_))
 refine gQ 9 [(10,vP f),(14,vI (c.handle)),(18,.string c.name)] [(4,a_ 6 cb),(8,a_ 6 cb)] ?_
 rcases lg hI.toInv0 c.handle c.name 192 with ⟨e,hab,hne⟩|⟨d,hab,hd,iM,iH,dx⟩
 ·refine aP.call (f:=123) (args:=#[vP f,vI (c.handle),.string c.name,vI 192]) (d:=(some 19)) (pre:=[pF f m t S.X,jT t S L,pO S.O L]) (R:=(oo m L S cb c R)) (pk:=[0,2,3,1,4,5,6,7]) (iW:=[0,3,1,2,4,5,6,7]) (v0:=.tuple #[.pointer none,vI (e)]) (fun _=>by kernel_rfl) ((by have h:=dZ S L f m t hI c.handle hC.hw c.name hC.nm 192 (β:=β);rw [hab] at h;exact h)) rfl (by kernel_rfl) rfl (by kernel_rfl) (fun _ _ h=>h) ?_
  refine gQ 5 [(5,.pointer none),(6,vI (e))] [] ?_
  refine NQ (NX (af.seq (SR ?_)))
  refine gK 2 [(23,.bool (!(decide ((e:Int)=(0:Int)))))] [] ?_
  refine NN (af.cT (p:=(e:Int)=(0:Int)) (fun _=>by kernel_rfl) (fun h23=>?_) (fun h23=>?_))
  ·refine SR (gK 2 [(4,vI (e))] [] ?_)
   refine NN (af.ret (ai.ak ?_))
   exact RT (vI (e)) [0,1,2,3,4,5,6,7] (⟨L,by rw [show (dY S c)=(e,S,c) by unfold dY;rw [hab]]<;>exact⟨rfl,rfl⟩⟩)
  exact absurd h23 hne
 have hkd:(obj S.O d).kind=2:=hI.kind hd
 refine aP.call (f:=123) (args:=#[vP f,vI (c.handle),.string c.name,vI 192]) (d:=(some 19)) (pre:=[pF f m t S.X,jT t S L,pO S.O L]) (R:=(oo m L S cb c R)) (pk:=[0,2,3,1,4,5,6,7]) (iW:=[0,3,1,2,4,5,6,7]) (v0:=.tuple #[vP (L.b d),vI 0]) (fun _=>by kernel_rfl) ((by have h:=dZ S L f m t hI c.handle hC.hw c.name hC.nm 192 (β:=β);rw [hab] at h;exact h)) rfl (by kernel_rfl) rfl (by kernel_rfl) (fun _ _ h=>h) ?_
 refine gQ 5 (EZ L d) [] ?_
 refine NQ (NX (af.seq (SR ?_)))
 refine gK 2 [(23,.bool false)] [] ?_
 refine NN (CF (af.skip (NX (af.seq (SR (gK 4 [(28,vI (c.mode))] [(3,a_ 6 cb)] ?_))))))
 refine gL [] (fJ (c.mode) 4095) ?_
 rintro _ _ ⟨rfl,rfl⟩
 refine gK 1 [(30,.bool (!(decide (0<=c.mode/\c.mode<=4095))))] [] ?_
 refine NN (af.cT (p:=0<=c.mode/\c.mode<=4095) (fun _=>by kernel_rfl) (fun mh=>?_) (fun mh=>?_))
 ·refine SR (gK 1 [(4,vI 120)] [] ?_)
  refine NN (af.ret (ai.ak ?_))
  exact RT (vI 120) [0,1,2,3,4,5,6,7] (⟨L,by rw [show (dY S c)=(120,S,c) by unfold dY;rw [hab];exact if_neg mh]<;>exact⟨rfl,rfl⟩⟩)
 refine af.skip (NX (af.seq (SR (gK 6 [(31,vP f),(32,vP (L.b d)),(36,.string c.name)] [(5,a_ 6 cb)] ?_))))
 refine gL [0,1,5,3] (tj S L f m t hI d hd c.name hC.nm) ?_
 rintro _ _ ⟨rfl,rfl⟩
 refine gK 1 [(6,vI ((bZ S.X S.O S.idx d c.name)))] [] ?_
 refine NS (gK 2 [(39,.bool (!(decide (((bZ S.X S.O S.idx d c.name):Int)=(0:Int)))))] [] ?_)
 refine NN (af.cT (p:=((bZ S.X S.O S.idx d c.name):Int)=(0:Int)) (fun _=>by kernel_rfl) (fun h0=>?_) (fun h0=>?_))
 ·refine SR (gK 2 [(4,vI ((bZ S.X S.O S.idx d c.name)))] [] ?_)
  refine NN (af.ret (ai.ak ?_))
  exact RT (vI ((bZ S.X S.O S.idx d c.name))) [0,1,4,3,5,2,6,7] (⟨L,by rw [show (dY S c)=(bZ S.X S.O S.idx d c.name,S,c) by unfold dY;rw [hab];exact (if_pos mh).trans (if_neg h0)]<;>exact⟨rfl,rfl⟩⟩)
 have hno:=om h0
 refine af.skip (NX (SR (gN 8 (fun b4=>[(7,vP b4)]) (fun b4=>[(3,a_ 6 cb)]) (fun _=>[]) (fun b4=>.blk b4 [vI 0,vI (c.mode),vI 0,vI 0,vI 0,vI 0,vI 0,vI 0,.bool false,.slice none (0) (0)] 131) (fun b4=>?_))))
 refine NN (af.seq (af.seq ?_))
 rcases Int.lt_or_le (S.us.length:Int) S.X.cH with tq|tq
 ·refine af.region (gK 4 (Qh cb f b4) [] ?_)
  obtain⟨L2,hL2⟩:∃ L2:HL,L2=L.put (aO S.X) b4 0 none 0:=⟨_,rfl⟩
  have hfr:=hI.toInv0.fresh
  refine aj.mem (fun w hS=>hS.tv hL2 hfr (o:=(⟨0,c.mode,0,0,0,0,0,0,false,1,[],⟨#[]⟩,[],none⟩:aR)) (i:=3) (j:=8) (ix:=[0,1,2,4,5,6,7]) rfl rfl (by kernel_rfl) rfl (by show (1:Int)≠0;decide) ((gU (L:=L2) (k:=(aO S.X)) (o:=(⟨0,c.mode,0,0,0,0,0,0,false,1,[],⟨#[]⟩,[],none⟩:aR)) rfl).trans (by rw [show L2.dA (aO S.X)=none by rw [hL2];exact if_pos rfl,show L2.dC (aO S.X)=0 by rw [hL2];exact if_pos rfl];rfl)) rfl) ?_
  refine aj.dh [(3,pE (aD S.O (aO S.X) (fun _=>(⟨0,c.mode,0,0,0,0,0,0,false,1,[],⟨#[]⟩,[],none⟩:aR))) L2)] (fun w hS=>hS.uq hL2 hfr (o:=(⟨0,c.mode,0,0,0,0,0,0,false,1,[],⟨#[]⟩,[],none⟩:aR)) (i:=3) rfl (by show (1:Int)≠2;decide)) ?_
  refine aj.mem (fun w hS=>hS.jO (e:=5) (size:=1)) ?_
  refine aj.mem (fun w hS=>hS.Iz hL2 (o:=(⟨0,c.mode,0,0,0,0,0,0,false,1,[],⟨#[]⟩,[],none⟩:aR)) (i:=5) (j:=8) (ix:=[0,1,2,3,4,6,7]) rfl rfl (by kernel_rfl) rfl rfl rfl) ?_
  refine aj.dh [(3,.abs (aJ Tryz.prog 3 m (aW (aV L2 S.idx)) S.idx.length)),(5,.abs (bS 197 t S.X.cH S.ar (aV L2 S.us)))] (fun w hS=>by rw [gn hL2 hfr.idx,gn hL2 hfr.us];exact hS) ?_
  refine gL (f:=121) (args:=#[vP f,.iface 129 (vP b4)]) (pre:=[pF f m t S.X,jT t S L2,St S c L2]) [2,5,1] ((by have h:=sj (β:=β) { S with O:=(aD S.O (aO S.X) (fun _=>(⟨0,c.mode,0,0,0,0,0,0,false,1,[],⟨#[]⟩,[],none⟩:aR))) } L2 f m t ⟨(aO S.X),1⟩ (by show (obj (aD S.O (aO S.X) (fun _=>(⟨0,c.mode,0,0,0,0,0,0,false,1,[],⟨#[]⟩,[],none⟩:aR))) (aO S.X)).kind=1;rw [bL]) (by simp) (by show 0<=(obj (aD S.O (aO S.X) (fun _=>(⟨0,c.mode,0,0,0,0,0,0,false,1,[],⟨#[]⟩,[],none⟩:aR))) (aO S.X)).opens/\(obj (aD S.O (aO S.X) (fun _=>(⟨0,c.mode,0,0,0,0,0,0,false,1,[],⟨#[]⟩,[],none⟩:aR))) (aO S.X)).opens<=1048576;rw [bL];exact⟨Int.le_refl _,by show (0:Int)<=1048576;decide⟩);rw [ol hL2,kG (S:={ S with O:=(aD S.O (aO S.X) (fun _=>(⟨0,c.mode,0,0,0,0,0,0,false,1,[],⟨#[]⟩,[],none⟩:aR))) }) (t:=⟨(aO S.X),1⟩) tq] at h;exact h)) ?_
  rintro _ _ ⟨rfl,rfl⟩
  refine gC 7 [(6,vI 0)] [(5,a_ 6 cb)] [(6,[(12,vI ((aE.least S.us)))])] ?_
  refine NS (gK 2 [(59,.bool false)] [] ?_)
  refine NN (CF (af.skip (NX (SR (aj.slot 7 (vP b4) (vP (L2.b (aO S.X))) (fun _=>by kernel_rfl) (by rw [AQ hL2]) ?_)))))
  refine aj.dh [(3,.abs (ax (bC (aD (aD S.O (aO S.X) (fun _=>(⟨0,c.mode,0,0,0,0,0,0,false,1,[],⟨#[]⟩,[],none⟩:aR))) (aO S.X) (fun o=>{ o with opens:=o.opens+1 })) L2))),(5,.abs (ax (bV (aD (aD S.O (aO S.X) (fun _=>(⟨0,c.mode,0,0,0,0,0,0,false,1,[],⟨#[]⟩,[],none⟩:aR))) (aO S.X) (fun o=>{ o with opens:=o.opens+1 })) L2)))] (fun w hS=>by rw [mF (O:=(aD S.O (aO S.X) (fun _=>(⟨0,c.mode,0,0,0,0,0,0,false,1,[],⟨#[]⟩,[],none⟩:aR)))) (k:=(aO S.X)) (f:=(fun o=>{ o with opens:=o.opens+1 })) rfl rfl,mG (O:=(aD S.O (aO S.X) (fun _=>(⟨0,c.mode,0,0,0,0,0,0,false,1,[],⟨#[]⟩,[],none⟩:aR)))) (k:=(aO S.X)) (f:=(fun o=>{ o with opens:=o.opens+1 })) rfl rfl];exact hS) ?_
  have hkN:(obj (aD (aD S.O (aO S.X) (fun _=>(⟨0,c.mode,0,0,0,0,0,0,false,1,[],⟨#[]⟩,[],none⟩:aR))) (aO S.X) (fun o=>{ o with opens:=o.opens+1 })) (aO S.X)).kind=1:=by rw [bL,bL]
  have Sv:(obj (aD (aD S.O (aO S.X) (fun _=>(⟨0,c.mode,0,0,0,0,0,0,false,1,[],⟨#[]⟩,[],none⟩:aR))) (aO S.X) (fun o=>{ o with opens:=o.opens+1 })) (aO S.X)).opens=1:=by rw [bL,bL];rfl
  generalize ck:(aD (aD S.O (aO S.X) (fun _=>(⟨0,c.mode,0,0,0,0,0,0,false,1,[],⟨#[]⟩,[],none⟩:aR))) (aO S.X) (fun o=>{ o with opens:=o.opens+1 }))=cA at hkN Sv ⊢
  refine gK 6 [(8,vI ((obj cA (aO S.X)).opens))] [(4,v_ 2 (jL L2 hkN))] ?_
  refine NS (gK 6 [(66,vP (L2.b (aO S.X))),(67,vP f),(71,vI (c.mode))] [(5,a_ 6 cb)] ?_)
  refine gL [0] (sZ S.X f m t hX c.mode) ?_
  rintro _ _ ⟨rfl,rfl⟩
  refine gK 2 [(74,vP (L2.b (aO S.X)))] [] ?_
  refine aj.mem (fun w hS=>hS.wS (i:=2) (k:=(aO S.X)) rfl (by rw [hkN];decide) (gU (hkN)) (congrArg jZ (hkN))) ?_
  refine gC 1 [] [(0,A_ 8 (L2.b (aO S.X)) 9)] [(8,[(0,vI (S.X.last+1)),(1,vI (c.mode)),(2,vI 0),(3,vI 0),(4,vI (S.X.cS)),(5,vI (S.X.cZ)),(6,vI 0),(7,vI 0),(8,.bool false)])] ?_
  refine aj.mem (cF:=[.abs (ax (bB (aD cA (aO S.X) (fun o=>{ o with id:=S.X.last+1,mode:=c.mode,uid:=0,gid:=0,sec:=S.X.cS,nano:=S.X.cZ,links:=0,opens:=0,gone:=false })) L2)),.blk f [vI (S.X.cN),vI (S.X.cB),vI (S.X.cH),vI (S.X.cS),vI (S.X.cZ),.map (some m),vP t,vI (S.X.last+1),vI (S.X.ah),vI (S.X.used)] 126,.abs (bS 197 t S.X.cH (max S.ar ((S.us.length:Int)+1)) (aV L2 (ins (aE.least S.us) ⟨(aO S.X),1⟩ S.us))),.abs (ax (bC (aD cA (aO S.X) (fun o=>{ o with id:=S.X.last+1,mode:=c.mode,uid:=0,gid:=0,sec:=S.X.cS,nano:=S.X.cZ,links:=0,opens:=0,gone:=false })) L2)),.abs (aJ Tryz.prog 3 m (aW (aV L2 S.idx)) S.idx.length),.abs (ax (bV (aD cA (aO S.X) (fun o=>{ o with id:=S.X.last+1,mode:=c.mode,uid:=0,gid:=0,sec:=S.X.cS,nano:=S.X.cZ,links:=0,opens:=0,gone:=false })) L2)),.blk cb [vI (c.op),vI (c.handle),vI (c.other),.string c.name,.string c.text,.slice c.dA (c.data.length) (c.dC),vI (c.mode),vI (c.uid),vI (c.gid),vI (c.sec),vI (c.nano),vI (c.code),vI ((aE.least S.us))] 48,.abs R]) (fun w hS=>by have h:=hS.x6 (O:=cA) (L:=L2) (i:=2) (j:=8) (idx:=[0,1,3,4,5,6,7]) (k:=(aO S.X)) (f:=(fun o=>{ o with id:=S.X.last+1,mode:=c.mode,uid:=0,gid:=0,sec:=S.X.cS,nano:=S.X.cZ,links:=0,opens:=0,gone:=false })) rfl (fun _ hx=>og hx) rfl (by kernel_rfl) rfl (by show (obj cA (aO S.X)).kind≠0;rw [hkN];decide) ((gU (o:=(fun o=>{ o with id:=S.X.last+1,mode:=c.mode,uid:=0,gid:=0,sec:=S.X.cS,nano:=S.X.cZ,links:=0,opens:=0,gone:=false }) (obj cA (aO S.X))) (hkN)).trans rfl) (by show jZ (obj cA (aO S.X)).kind=_;rw [hkN]<;>rfl);rw [mF (O:=cA) (k:=(aO S.X)) (f:=(fun o=>{ o with id:=S.X.last+1,mode:=c.mode,uid:=0,gid:=0,sec:=S.X.cS,nano:=S.X.cZ,links:=0,opens:=0,gone:=false })) rfl rfl,mG (O:=cA) (k:=(aO S.X)) (f:=(fun o=>{ o with id:=S.X.last+1,mode:=c.mode,uid:=0,gid:=0,sec:=S.X.cS,nano:=S.X.cZ,links:=0,opens:=0,gone:=false })) rfl rfl];exact h) ?_
  have wU:(obj (aD cA (aO S.X) (fun o=>{ o with id:=S.X.last+1,mode:=c.mode,uid:=0,gid:=0,sec:=S.X.cS,nano:=S.X.cZ,links:=0,opens:=0,gone:=false })) (aO S.X)).kind=1:=(jy (f:=(fun o=>{ o with id:=S.X.last+1,mode:=c.mode,uid:=0,gid:=0,sec:=S.X.cS,nano:=S.X.cZ,links:=0,opens:=0,gone:=false })) (fun _=>rfl)).trans (hkN)
  generalize cW:(aD cA (aO S.X) (fun o=>{ o with id:=S.X.last+1,mode:=c.mode,uid:=0,gid:=0,sec:=S.X.cS,nano:=S.X.cZ,links:=0,opens:=0,gone:=false }))=dS at wU ⊢
  refine NS (gK 5 [(76,vI ((obj cA (aO S.X)).opens)),(79,.pointer (some ⟨(L2.b (aO S.X)),7,none⟩))] [] ?_)
  refine rZ 0 [(5,1),(3,2)] (aO S.X) 7 (fun o=>{ o with opens:=(obj cA (aO S.X)).opens }) wU (fun ug lG=>?_)
  have LA:=ku lG wU
  refine NS ?_
  have hfin:ug=aD S.O (aO S.X) (fun _=>{ aU S.X 1 c.mode with opens:=1 }):=by subst lG;subst cW;rw [Sv];subst ck;simp only [sW];rfl
  subst hfin
  show aj _ _ _ _ _ _ [pO (aD S.O (aO S.X) (fun _=>{ aU S.X 1 c.mode with opens:=1 })) L2,pF f m t { S.X with last:=S.X.last+1 },pT t S.X.cH (max S.ar ((S.us.length:Int)+1)) L2 (ins (aE.least S.us) ⟨(aO S.X),1⟩ S.us),pD (aD S.O (aO S.X) (fun _=>{ aU S.X 1 c.mode with opens:=1 })) L2,pI m L2 S.idx,pE (aD S.O (aO S.X) (fun _=>{ aU S.X 1 c.mode with opens:=1 })) L2,pC cb { c with answer:=aE.least S.us },.abs R] _
  refine gK 8 [(80,vP f),(81,vP (L.b d)),(85,.string c.name),(87,.iface 129 (vP (L2.b (aO S.X))))] [(5,a_ 6 cb)] ?_
  refine gL (f:=127) (args:=#[vP f,vP (L.b d),.string c.name,.iface 129 (vP (L2.b (aO S.X)))]) (pre:=[pF f m t { S.X with last:=S.X.last+1 },pI m L2 S.idx,pO (aD S.O (aO S.X) (fun _=>{ aU S.X 1 c.mode with opens:=1 })) L2,pE (aD S.O (aO S.X) (fun _=>{ aU S.X 1 c.mode with opens:=1 })) L2]) [1,4,0,5] ((by have h:=rB (β:=β) S L2 f m t hI.toInv0 d hd c.name hC.nm hno { aU S.X 1 c.mode with opens:=1 } rfl (by simp [aU]) rfl (pZ h0);rw [vl hL2 (hI.uo hd)] at h;exact h)) ?_
  rintro _ _ ⟨rfl,rfl⟩
  refine NS (aj.dh [(5,.abs (ax (bC ((eP S d c.name { aU S.X 1 c.mode with opens:=1 }).O) L2)))] (fun w hS=>by rw [show bC ((eP S d c.name { aU S.X 1 c.mode with opens:=1 }).O) L2=bC (aD S.O (aO S.X) (fun _=>{ aU S.X 1 c.mode with opens:=1 })) L2 from gV];exact hS) ?_)
  refine gK 1 [(4,vI 0)] [] ?_
  refine NN (af.ret ?_)
  exact RT (vI 0) [0,1,4,2,5,3,6,7] (⟨L2,by rw [show (dY S c)=(0,(eP { S with us:=(ins (aE.least S.us) ⟨(aO S.X),1⟩ S.us),ar:=(max S.ar ((S.us.length:Int)+1)) } d c.name { aU S.X 1 c.mode with opens:=1 }),{ c with answer:=aE.least S.us }) by unfold dY;rw [hab];exact (if_pos mh).trans ((if_pos h0).trans (by rw [show mJ S d c.name c.mode=(aE.least S.us,0,(eP { S with us:=(ins (aE.least S.us) ⟨(aO S.X),1⟩ S.us),ar:=(max S.ar ((S.us.length:Int)+1)) } d c.name { aU S.X 1 c.mode with opens:=1 })) from (if_pos h0).trans (if_pos tq)]))]<;>exact⟨rfl,rfl⟩⟩)
 refine af.region (gK 4 (Qh cb f b4) [] ?_)
 obtain⟨L2,hL2⟩:∃ L2:HL,L2=L.put (aO S.X) b4 0 none 0:=⟨_,rfl⟩
 have hfr:=hI.toInv0.fresh
 refine aj.mem (fun w hS=>hS.tv hL2 hfr (o:=(⟨0,c.mode,0,0,0,0,0,0,false,1,[],⟨#[]⟩,[],none⟩:aR)) (i:=3) (j:=8) (ix:=[0,1,2,4,5,6,7]) rfl rfl (by kernel_rfl) rfl (by show (1:Int)≠0;decide) ((gU (L:=L2) (k:=(aO S.X)) (o:=(⟨0,c.mode,0,0,0,0,0,0,false,1,[],⟨#[]⟩,[],none⟩:aR)) rfl).trans (by rw [show L2.dA (aO S.X)=none by rw [hL2];exact if_pos rfl,show L2.dC (aO S.X)=0 by rw [hL2];exact if_pos rfl];rfl)) rfl) ?_
 refine aj.dh [(3,pE (aD S.O (aO S.X) (fun _=>(⟨0,c.mode,0,0,0,0,0,0,false,1,[],⟨#[]⟩,[],none⟩:aR))) L2)] (fun w hS=>hS.uq hL2 hfr (o:=(⟨0,c.mode,0,0,0,0,0,0,false,1,[],⟨#[]⟩,[],none⟩:aR)) (i:=3) rfl (by show (1:Int)≠2;decide)) ?_
 refine aj.mem (fun w hS=>hS.jO (e:=5) (size:=1)) ?_
 refine aj.mem (fun w hS=>hS.Iz hL2 (o:=(⟨0,c.mode,0,0,0,0,0,0,false,1,[],⟨#[]⟩,[],none⟩:aR)) (i:=5) (j:=8) (ix:=[0,1,2,3,4,6,7]) rfl rfl (by kernel_rfl) rfl rfl rfl) ?_
 refine aj.dh [(3,.abs (aJ Tryz.prog 3 m (aW (aV L2 S.idx)) S.idx.length)),(5,.abs (bS 197 t S.X.cH S.ar (aV L2 S.us)))] (fun w hS=>by rw [gn hL2 hfr.idx,gn hL2 hfr.us];exact hS) ?_
 refine gL (f:=121) (args:=#[vP f,.iface 129 (vP b4)]) (pre:=[pF f m t S.X,jT t S L2,St S c L2]) [2,5,1] ((by have h:=sj (β:=β) { S with O:=(aD S.O (aO S.X) (fun _=>(⟨0,c.mode,0,0,0,0,0,0,false,1,[],⟨#[]⟩,[],none⟩:aR))) } L2 f m t ⟨(aO S.X),1⟩ (by show (obj (aD S.O (aO S.X) (fun _=>(⟨0,c.mode,0,0,0,0,0,0,false,1,[],⟨#[]⟩,[],none⟩:aR))) (aO S.X)).kind=1;rw [bL]) (by simp) (by show 0<=(obj (aD S.O (aO S.X) (fun _=>(⟨0,c.mode,0,0,0,0,0,0,false,1,[],⟨#[]⟩,[],none⟩:aR))) (aO S.X)).opens/\(obj (aD S.O (aO S.X) (fun _=>(⟨0,c.mode,0,0,0,0,0,0,false,1,[],⟨#[]⟩,[],none⟩:aR))) (aO S.X)).opens<=1048576;rw [bL];exact⟨Int.le_refl _,by show (0:Int)<=1048576;decide⟩);rw [ol hL2,l6 (S:={ S with O:=(aD S.O (aO S.X) (fun _=>(⟨0,c.mode,0,0,0,0,0,0,false,1,[],⟨#[]⟩,[],none⟩:aR))) }) (t:=⟨(aO S.X),1⟩) (by show ¬ (S.us.length:Int) < S.X.cH;omega)] at h;exact h)) ?_
 rintro _ _ ⟨rfl,rfl⟩
 refine gC 7 [(6,vI 130)] [(5,a_ 6 cb)] [(6,[(12,vI 0)])] ?_
 refine NS (gK 2 [(59,.bool true)] [] ?_)
 refine NN (CT (SR ?_))
 have hk0:(obj S.O (aO S.X)).kind=0:=hI.rz _ (by have:=pz hI.toInv0;omega)
 refine aj.dh [(2,.abs (ax (bB S.O L)))] (fun w hS=>hS.xw (i:=2) rfl (aO S.X) (fun x hx=>by rw [t7 hx,GV hL2 hfr hx]) (by unfold bB;rw [hk0];rfl)) ?_
 refine aj.dh [(5,.abs (ax (bV S.O L)))] (fun w hS=>hS.xw (i:=5) rfl (aO S.X) (fun x hx=>by rw [wN hx,Ct hL2 hfr hx]) (by unfold bV;rw [hk0];rfl)) ?_
 refine aj.mem (cF:=[.blk f [vI (S.X.cN),vI (S.X.cB),vI (S.X.cH),vI (S.X.cS),vI (S.X.cZ),.map (some m),vP t,vI (S.X.last),vI (S.X.ah),vI (S.X.used)] 126,.abs (bS 197 t S.X.cH S.ar (aV L2 S.us)),.abs (ax (bB S.O L)),.abs (ax (bC S.O L)),.abs (aJ Tryz.prog 3 m (aW (aV L2 S.idx)) S.idx.length),.abs (ax (bV S.O L)),.blk cb [vI (c.op),vI (c.handle),vI (c.other),.string c.name,.string c.text,.slice c.dA (c.data.length) (c.dC),vI (c.mode),vI (c.uid),vI (c.gid),vI (c.sec),vI (c.nano),vI (c.code),vI 0] 48,.abs R]) (fun w hS=>hS.xw (i:=3) rfl (aO S.X) (fun x hx=>by rw [wO hx,yh hL2 hx]) (by unfold bC;rw [hk0];rfl)) ?_
 refine aj.mem (cF:=[.blk f [vI (S.X.cN),vI (S.X.cB),vI (S.X.cH),vI (S.X.cS),vI (S.X.cZ),.map (some m),vP t,vI (S.X.last),vI (S.X.ah),vI (S.X.used)] 126,.abs (bS 197 t S.X.cH S.ar (aV L S.us)),.abs (ax (bB S.O L)),.abs (ax (bC S.O L)),.abs (aJ Tryz.prog 3 m (aW (aV L S.idx)) S.idx.length),.abs (ax (bV S.O L)),.blk cb [vI (c.op),vI (c.handle),vI (c.other),.string c.name,.string c.text,.slice c.dA (c.data.length) (c.dC),vI (c.mode),vI (c.uid),vI (c.gid),vI (c.sec),vI (c.nano),vI (c.code),vI 0] 48,.abs R]) (fun w hS=>by rw [gn hL2 hfr.idx,gn hL2 hfr.us] at hS;exact hS) ?_
 refine gK 2 [(4,vI 130)] [] ?_
 refine NN (af.ret (ai.ak ?_))
 exact RT (vI 130) [0,4,1,2,3,5,6,7] (⟨L,by rw [show (dY S c)=(130,S,{ c with answer:=0 }) by unfold dY;rw [hab];exact (if_pos mh).trans ((if_pos h0).trans (by rw [show mJ S d c.name c.mode=(0,130,S) from (if_pos h0).trans (if_neg (by omega))]))]<;>exact⟨rfl,rfl⟩⟩)
end
section
open Go.RowKit
def uG (b:Nat) (v:Value):cu where
  h F w:=∃ cs T,cs[0]?=some v/\(HP.blk b cs T).h F w
  lt:=fun ⟨_,_,_,h⟩=>HP.lt h
  st:=fun ⟨cs,T,hv,h⟩ _ _ hk hd=>⟨cs,T,hv,HP.st h hk hd⟩
theorem uG.cell {b:Nat} {v:Value}:∀ F w,(uG b v).h F w->w.cell? ⟨b,0,none⟩=some v:=by
  rintro F w ⟨cs,T,hv,h⟩
  exact (gu h.1 rfl rfl hv).1
theorem Sat.first {β:Bs} {l:List HP} {w:World} {i b:Nat} {cs:List Value} {T:TypeId} {v:Value} (h:Sat β l w) (hp:l[i]?=some (.blk b cs T)) (hv:cs[0]?=some v):Sat β [.abs (uG b v)] w:=by
  obtain⟨ho,φ,h1,h2,h3⟩:=h
  have hi:=bw hp
  refine⟨ho,fun _=>φ i,fun j q hq=>?_,fun j hj=>h2 i hi,fun j k hj hk hne=>?_⟩
  ·have hj:=bw hq
   simp at hj
   subst hj
   simp at hq
   subst hq
   exact⟨cs,T,hv,h1 i _ hp⟩
  simp at hj hk
  omega
section mix
variable {P:Program} {β:Bs} {N:Nat} {ops:Array Oper} {S:List HP} {l:List Nat} {fr:Fr} {hps:List HP} {Q:Post} {i:Nat}
theorem af.I0 {id:Nat} (perm:List Nat) (nr:Nat) (hm:P.follows .mixedOrders=true) (hB:Ai ops perm nr=true) (hp:∀ w,Sat β hps w->Sat β S w) (h:aL P β N ops S nr perm fr hps Q):af P β N (.region id ops true) fr hps Q:=by
  intro junk w hS
  unfold Ai at hB
  simp only [Bool.and_eq_true,beq_iff_eq] at hB
  obtain⟨⟨⟨h1,h2⟩,h3⟩,h4⟩:=hB
  have dg:=hS.drewN 1
  have h5:=BU (Q:=Q) h1 h2 nr perm _ _ _ h4 (fun j oj _ hl=>by simp [Array.getD_eq_getD_getElem?,Array.getElem?_replicate] at hl;split at hl<;>simp at hl) (hp _ dg) (h junk (w.drewN 1) dg)
  rw [h3] at h5
  refine Code.wp_mono (fun e a w q=>?_) (wp_region_any hm (oz _ _ _ _ h5))
  cases e with
  | normal=>exact q
  | exit id=>exact q.elim
  | goto l=>exact q.elim
  | ret=>exact q.elim
  | panic ch=>exact q.elim
  | outgrown=>exact q.elim
theorem aL.I3 {ι:Type} {fr':ι->Fr} {hp':ι->List HP} {o:Oper} (hop:ops[i]?=some o) (hg:o.guard=none) (h:aj P β N #[o] 0 fr hps (NP (ni β N fr' hp'))) (hp:∀ j w,Sat β (hp' j) w->Sat β S w)
    (K:∀ j,aL P β N ops S 0 l (fr' j) (hp' j) Q):aL P β N ops S 0 (i::l) fr hps Q:=by
  intro junk w hS
  unfold mB
  refine gA hop hg ?_
  have h1:=h junk w hS
  have h2:wpList P #[o] (NP (ni β N fr' hp')) [o] (bW N fr junk) w:=h1
  refine jr (fun a w ⟨j,fI,ha,dg⟩=>?_) h2
  subst ha
  exact⟨.inr (hp j _ dg),K j fI w dg⟩
end mix
end
section
open Go.RowKit Go.Maps bG aE
def Kq:List Nat:=[89,90,91,92,93,94,95,96,97,98,99,100,101,102,103]
def Sw:Value:=.agg ⟨.nilFunc::Kq.map (fun f=>.func (.func f) #[] #[])⟩
theorem I4 {n:Int} (h:1<=n/\n<=15):n=1\/n=2\/n=3\/n=4\/n=5\/n=6\/n=7\/n=8\/n=9\/n=10\/n=11\/n=12\/n=13\/n=14\/n=15:=by omega
theorem Qi {w:World} {o:Oper} {ev:Operand->Value} {x y:Operand} {n:Int} (ho:o.op=.index 145 x y) (hx:ev x=Sw) (hy:ev y=.int .i64 n) (hn:1<=n/\n<=15):ng Tryz.prog ev o w (.func (.func (Kq.getD (n.toNat - 1) 0)) #[] #[]) w:=by
  obtain⟨dst,op,type,pos,after,guard⟩:=o
  cases ho
  refine .inl ?_
  simp only [execOp,hx,hy]
  rcases I4 hn with h|h|h|h|h|h|h|h|h|h|h|h|h|h|h<;>subst h<;>kernel_rfl
theorem aj.hn {β:Bs} {N k:Nat} {ops:Array Oper} {fr:Fr} {hps:List HP} {Q:Post} {d:Option Tmp} {x y:Operand} {n:Int} (hn:1<=n/\n<=15) (K:aj Tryz.prog β N ops (k+1) (dG fr d (.func (.func (Kq.getD (n.toNat - 1) 0)) #[] #[])) hps Q)
    (hop:∀ junk,fo N junk ops fr k=some (.index 145 x y,d):=by intro _;kernel_rfl) (hx:∀ junk,dm N fr junk x=Sw:=by intro _;kernel_rfl) (hy:∀ junk,dm N fr junk y=.int .i64 n:=by intro _;kernel_rfl):aj Tryz.prog β N ops k fr hps Q:=
  aj.je hop (fun _ junk w ho hS=>⟨w,Qi ho (hx junk) (hy junk) hn,hS⟩) K
theorem RQ {β:Bs} {S:aG} {L:HL} {f m t b:Nat} {c:aB} (n:Int) (hI:Inv S) (hC:fL β c) (h:1<=n/\n<=15) (he:c.op=n):Spec Tryz.prog β (Kq.getD (n.toNat - 1) 0) #[vP f,vP b] (pA f m t L S++[pC b c]) (fun v l=>∃ L2,v=vI (cK S c).1/\l=pA f m t L2 (cK S c).2.1++[pC b (cK S c).2.2]):=by
  subst he
  rcases I4 h with h|h|h|h|h|h|h|h|h|h|h|h|h|h|h<;>rw [h]
  ·rw [vm h];exact IV S L f m t hI b c hC
  ·rw [yq h];exact DN S L f m t hI b c hC
  ·rw [yt h];exact Cx S L f m t hI b c hC
  ·rw [vn h];exact Gf S L f m t hI b c hC
  ·rw [yu h];exact E7 S L f m t hI b c hC
  ·rw [yw h];exact DP S L f m t hI b c hC
  ·rw [yx h];exact IY S L f m t hI b c hC
  ·rw [yA h];exact E0 S L f m t hI b c hC
  ·rw [yB h];exact Gh S L f m t hI b c hC
  ·rw [ur h];exact DQ S L f m t hI b c hC
  ·rw [uw h];exact IZ S L f m t hI b c hC
  ·rw [ux h];exact E6 S L f m t hI b c hC
  ·rw [uy h];exact Gi S L f m t hI b c hC
  ·rw [uz h];exact Gg S L f m t hI b c hC
  rw [uD h];exact E4 S L f m t hI b c hC
theorem Kr {S:aG} {c:aB} (h:1<=c.op/\c.op<=15):(cK S c).2.2.op=c.op:=by
  rcases I4 h with h|h|h|h|h|h|h|h|h|h|h|h|h|h|h
  ·rw [vm h];exact OD
  ·rw [yq h];exact IJ
  ·rw [yt h];exact Gb
  ·rw [vn h];exact IK
  ·rw [yu h];exact Gc
  ·rw [yw h];exact EY
  ·rw [yx h];exact Kl
  ·rw [yA h];exact Gd
  ·rw [yB h];exact IQ
  ·rw [ur h];exact IU
  ·rw [uw h];exact OE
  ·rw [ux h];exact Km
  ·rw [uy h];exact Mc
  ·rw [uz h];exact IL
  rw [uD h];exact Ge
end
section
open Go.RowKit Go.Maps bG aE
attribute [local irreducible] aj aP af ai
abbrev oW (b3:Nat):=(.blk b3 [vI 0,vI 0,vI 0,.string ⟨#[]⟩,.string ⟨#[]⟩,.slice none (0) (0),vI 0,vI 0,vI 0,vI 0,vI 0,vI 0,vI 0] 48:HP)
abbrev Sx (c:aB):=([(0,vI (c.op)),(1,vI (c.handle)),(2,vI (c.other)),(3,.string c.name),(4,.string c.text),(5,.slice c.dA (c.data.length) (c.dC)),(6,vI (c.mode)),(7,vI (c.uid)),(8,vI (c.gid)),(9,vI (c.sec)),(10,vI (c.nano)),(11,vI 230)]:Fr)
theorem Gj {β:Bs}:Spec Tryz.prog β 65 #[] [] (fun v l=>v=.agg #[.nilFunc,.func (.func 89) #[] #[],.func (.func 90) #[] #[],.func (.func 91) #[] #[],.func (.func 92) #[] #[],.func (.func 93) #[] #[],.func (.func 94) #[] #[],.func (.func 95) #[] #[],.func (.func 96) #[] #[],.func (.func 97) #[] #[],.func (.func 98) #[] #[],.func (.func 99) #[] #[],.func (.func 100) #[] #[],.func (.func 101) #[] #[],.func (.func 102) #[] #[],.func (.func 103) #[] #[]]/\l=[]):=by
 refine Spec.enter Tryz.func65 rfl Tryz.ntmps65 (Nat.le_of_ble_eq_true rfl) (fun R=>?_)
 refine SR (gN 1 (fun b1=>[(0,vP b1)]) (fun _=>[]) (fun _=>[]) (fun b1=>.blk b1 [.nilFunc,.nilFunc,.nilFunc,.nilFunc,.nilFunc,.nilFunc,.nilFunc,.nilFunc,.nilFunc,.nilFunc,.nilFunc,.nilFunc,.nilFunc,.nilFunc,.nilFunc,.nilFunc] 145) (fun b1=>?_))
 refine NS (gC 2 [] [(1,A_ 1 b1 16)] [(1,[(1,.func (.func 89) #[] #[]),(2,.func (.func 90) #[] #[]),(3,.func (.func 91) #[] #[]),(4,.func (.func 92) #[] #[]),(5,.func (.func 93) #[] #[]),(6,.func (.func 94) #[] #[]),(7,.func (.func 95) #[] #[]),(8,.func (.func 96) #[] #[]),(9,.func (.func 97) #[] #[]),(10,.func (.func 98) #[] #[]),(11,.func (.func 99) #[] #[]),(12,.func (.func 100) #[] #[]),(13,.func (.func 101) #[] #[]),(14,.func (.func 102) #[] #[]),(15,.func (.func 103) #[] #[])])] ?_)
 refine NN (af.ret ?_)
 exact ai.ret (v:=.agg #[.nilFunc,.func (.func 89) #[] #[],.func (.func 90) #[] #[],.func (.func 91) #[] #[],.func (.func 92) #[] #[],.func (.func 93) #[] #[],.func (.func 94) #[] #[],.func (.func 95) #[] #[],.func (.func 96) #[] #[],.func (.func 97) #[] #[],.func (.func 98) #[] #[],.func (.func 99) #[] #[],.func (.func 100) #[] #[],.func (.func 101) #[] #[],.func (.func 102) #[] #[],.func (.func 103) #[] #[]]) (l:=[]) (bA:=[b1=b1,b1=b1,b1=b1,b1=b1,b1=b1,b1=b1,b1=b1,b1=b1,b1=b1,b1=b1,b1=b1,b1=b1,b1=b1,b1=b1,b1=b1,b1=b1]) [.at 1,.at 1,.at 1,.at 1,.at 1,.at 1,.at 1,.at 1,.at 1,.at 1,.at 1,.at 1,.at 1,.at 1,.at 1,.at 1] [0] (fun _=>by kernel_rfl) ⟨rfl,rfl,rfl,rfl,rfl,rfl,rfl,rfl,rfl,rfl,rfl,rfl,rfl,rfl,rfl,rfl,trivial⟩ rfl (by kernel_rfl) (⟨rfl,rfl⟩)
theorem Bh {β:Bs} (S:aG) (L:HL) (f m t:Nat) (hI:Inv S) (c:aB) (hC:fL β c) :
    Spec Tryz.prog β 24 #[vP f,.agg #[vI (c.op),vI (c.handle),vI (c.other),.string c.name,.string c.text,.slice c.dA (c.data.length) (c.dC),vI (c.mode),vI (c.uid),vI (c.gid),vI (c.sec),vI (c.nano),vI (c.code),vI (c.answer)]] (pA f m t L S) (fun v l=>∃ L2,v=.agg ⟨bK (bQ S c).2⟩/\l=(pA f m t L2 ((bQ S c).1))):=by
 have hX:=hI.hX
 refine Spec.enter Tryz.func24 rfl Tryz.ntmps24 (Nat.le_of_ble_eq_true rfl) (fun R=>?_)
 refine SR (gN 1 (fun b2=>[(3,vP b2)]) (fun _=>[]) (fun _=>[]) (fun b2=>pC b2 c) (fun b2=>?_))
 refine gN 1 (fun b3=>[(4,vP b3)]) (fun _=>[]) (fun _=>[]) (fun b3=>.blk b3 [vI 0,vI 0,vI 0,.string ⟨#[]⟩,.string ⟨#[]⟩,.slice none (0) (0),vI 0,vI 0,vI 0,vI 0,vI 0,vI 0,vI 0] 48) (fun b3=>?_)
 refine NS (gC 2 [] [(1,a_ 7 b2)] [(7,[(12,vI 0)])] ?_)
 refine NS (gC 2 [] [(1,a_ 7 b2)] [(7,[(11,vI 230)])] ?_)
 refine NN (af.seq (SR (gK 4 [(10,.bool (decide ((c.op:Int) ≥ (1:Int))))] [(1,a_ 7 b2)] ?_)))
 refine aj.gI 10 ((c.op:Int) ≥ (1:Int)) (fun _=>by kernel_rfl) (fun h10=>?_) (fun h10=>?_)
 ·refine gK 4 [(14,.bool (decide ((c.op:Int)<=(15:Int))))] [(1,a_ 7 b2)] ?_
  refine NN (af.aZ (p:=(c.op:Int)<=(15:Int)) (fun _=>by kernel_rfl) (fun iQ=>?_) (fun iQ=>?_))
  ·have hop:1<=c.op/\c.op<=15:=⟨h10,iQ⟩
   refine af.I0 (S:=[.abs (uG b2 (.int .i64 c.op))]) [1,2,4,0,3,5,6,7] 3 (by kernel_rfl) (by kernel_rfl) (fun w hS=>hS.first (i:=7) (b:=b2) rfl rfl) ?_
   refine gR 0 [0,3,5,6,7] [(3,vP b2),(4,vP b3),(17,vI (c.op)),(19,vP f)] [1,2,4] [(1,p_ ⟨[.view 0 (.int .i64 (c.op))],none,none,none,none⟩ [(∀ F w,(uG b2 (.int .i64 c.op)).h F w->w.cell? ⟨b2,0,none⟩=some (vI (c.op)))] ⟨uG.cell,trivial⟩)] ?_
   refine aL.I3 (ι:=Unit) (fr':=fun (_:Unit)=>[(3,vP b2),(4,vP b3),(15,.agg #[.nilFunc,.func (.func 89) #[] #[],.func (.func 90) #[] #[],.func (.func 91) #[] #[],.func (.func 92) #[] #[],.func (.func 93) #[] #[],.func (.func 94) #[] #[],.func (.func 95) #[] #[],.func (.func 96) #[] #[],.func (.func 97) #[] #[],.func (.func 98) #[] #[],.func (.func 99) #[] #[],.func (.func 100) #[] #[],.func (.func 101) #[] #[],.func (.func 102) #[] #[],.func (.func 103) #[] #[]]),(17,vI (c.op)),(19,vP f)]) (hp':=fun (_:Unit)=>((pA f m t L S)++[.abs R,pC b2 (c0 c),oW b3])) rfl rfl ?_ (by rintro _ w hS;exact hS.first (i:=7) (b:=b2) rfl rfl) ?_
   ·refine gL [] (Gj) ?_
    rintro _ _ ⟨rfl,rfl⟩
    refine NL ?_
    exact MD () [3,4,15,17,19] [0,1,2,3,4,5,6,7,8]
   rintro _
   refine aL.I3 (ι:=Unit) (fr':=fun (_:Unit)=>[(3,vP b2),(4,vP b3),(18,.func (.func (Kq.getD (c.op.toNat - 1) 0)) #[] #[]),(19,vP f)]) (hp':=fun (_:Unit)=>((pA f m t L S)++[.abs R,pC b2 (c0 c),oW b3])) rfl rfl ?_ (by rintro _ w hS;exact hS.first (i:=7) (b:=b2) rfl rfl) ?_
   ·refine aj.hn (x:=(.tmp 15)) (y:=(.tmp 17)) (d:=(some 18)) hop ?_
    refine NL ?_
    exact MD () [3,4,18,19] [0,1,2,3,4,5,6,7,8]
   rintro _
   refine aL.I3 (ι:=HL) (fr':=fun (L2:HL)=>[(3,vP b2),(4,vP b3),(20,vI ((cK S (c0 c)).1))]) (hp':=fun (L2:HL)=>((pA f m t L2 ((cK S (c0 c)).2.1))++[pC b2 ((cK S (c0 c)).2.2),.abs R,oW b3])) rfl rfl ?_ (by rintro L2 w hS;exact hS.first (i:=6) (b:=b2) rfl (congrArg (fun z=>some (Value.int .i64 z)) (Kr (c:=(c0 c)) hop))) ?_
   ·refine gL [0,1,2,3,4,5,7] (RQ (S:=S) (L:=L) (f:=f) (m:=m) (t:=t) (b:=b2) (c:=(c0 c)) c.op hI ⟨hC.hw,hC.ow,hC.nm,hC.tx,hC.da,hC.dl,hC.dc⟩ hop rfl) ?_ (by intro _;rcases I4 hop with h|h|h|h|h|h|h|h|h|h|h|h|h|h|h<;>rw [h]<;>kernel_rfl)
    rintro _ _ ⟨L2,rfl,rfl⟩
    refine NL ?_
    exact MD L2 [3,4,20] [0,1,2,3,4,5,6,7,8]
   rintro L2
   refine aL.I3 (ι:=Unit) (fr':=fun (_:Unit)=>[(3,vP b2),(4,vP b3),(20,vI ((cK S (c0 c)).1)),(21,.pointer (some ⟨b2,11,none⟩))]) (hp':=fun (_:Unit)=>((pA f m t L2 ((cK S (c0 c)).2.1))++[pC b2 ((cK S (c0 c)).2.2),.abs R,oW b3])) rfl rfl ?_ (by rintro _ w hS;exact hS.first (i:=6) (b:=b2) rfl (congrArg (fun z=>some (Value.int .i64 z)) (Kr (c:=(c0 c)) hop))) ?_
   ·refine gK 1 [(21,.pointer (some ⟨b2,11,none⟩))] [] ?_
    refine NL ?_
    exact MD () [3,4,20,21] [0,1,2,3,4,5,6,7,8]
   rintro _
   refine aL.last rfl rfl ?_
   refine gC 1 [] [(0,a_ 6 b2)] [(6,[(11,vI ((cK S (c0 c)).1))])] ?_
   refine NL (ai.np (NX (SR ?_)))
   refine gC 2 [] [(0,A_ 6 b2 13),(1,A_ 8 b3 13)] [(8,[(0,vI ((cK S (c0 c)).2.2.op)),(1,vI ((cK S (c0 c)).2.2.handle)),(2,vI ((cK S (c0 c)).2.2.other)),(3,.string (cK S (c0 c)).2.2.name),(4,.string (cK S (c0 c)).2.2.text),(5,.slice (cK S (c0 c)).2.2.dA ((cK S (c0 c)).2.2.data.length) ((cK S (c0 c)).2.2.dC)),(6,vI ((cK S (c0 c)).2.2.mode)),(7,vI ((cK S (c0 c)).2.2.uid)),(8,vI ((cK S (c0 c)).2.2.gid)),(9,vI ((cK S (c0 c)).2.2.sec)),(10,vI ((cK S (c0 c)).2.2.nano)),(11,vI ((cK S (c0 c)).1)),(12,vI ((cK S (c0 c)).2.2.answer))])] ?_
   refine NN (af.ret ?_)
   exact ai.ret (v:=.agg #[vI ((cK S (c0 c)).2.2.op),vI ((cK S (c0 c)).2.2.handle),vI ((cK S (c0 c)).2.2.other),.string (cK S (c0 c)).2.2.name,.string (cK S (c0 c)).2.2.text,.slice (cK S (c0 c)).2.2.dA ((cK S (c0 c)).2.2.data.length) ((cK S (c0 c)).2.2.dC),vI ((cK S (c0 c)).2.2.mode),vI ((cK S (c0 c)).2.2.uid),vI ((cK S (c0 c)).2.2.gid),vI ((cK S (c0 c)).2.2.sec),vI ((cK S (c0 c)).2.2.nano),vI ((cK S (c0 c)).1),vI ((cK S (c0 c)).2.2.answer)]) (l:=(pA f m t L2 ((cK S (c0 c)).2.1))) (bA:=[b3=b3,b3=b3,b3=b3,b3=b3,b3=b3,b3=b3,b3=b3,b3=b3,b3=b3,b3=b3,b3=b3,b3=b3,b3=b3]) [.at 8,.at 8,.at 8,.at 8,.at 8,.at 8,.at 8,.at 8,.at 8,.at 8,.at 8,.at 8,.at 8] [0,1,2,3,4,5,7] (fun _=>by kernel_rfl) ⟨rfl,rfl,rfl,rfl,rfl,rfl,rfl,rfl,rfl,rfl,rfl,rfl,rfl,trivial⟩ rfl (by kernel_rfl) (⟨L2,rfl,rfl⟩)
  refine af.skip (NX (SR (gC 2 [] [(0,A_ 7 b2 13),(1,A_ 8 b3 13)] [(8,(Sx c))] ?_)))
  refine NN (af.ret ?_)
  exact ai.ret (v:=.agg #[vI (c.op),vI (c.handle),vI (c.other),.string c.name,.string c.text,.slice c.dA (c.data.length) (c.dC),vI (c.mode),vI (c.uid),vI (c.gid),vI (c.sec),vI (c.nano),vI 230,vI 0]) (l:=(pA f m t L S)) (bA:=[b3=b3,b3=b3,b3=b3,b3=b3,b3=b3,b3=b3,b3=b3,b3=b3,b3=b3,b3=b3,b3=b3,b3=b3,b3=b3]) [.at 8,.at 8,.at 8,.at 8,.at 8,.at 8,.at 8,.at 8,.at 8,.at 8,.at 8,.at 8,.at 8] [0,1,2,3,4,5,6] (fun _=>by kernel_rfl) ⟨rfl,rfl,rfl,rfl,rfl,rfl,rfl,rfl,rfl,rfl,rfl,rfl,rfl,trivial⟩ rfl (by kernel_rfl) (⟨L,by unfold bQ;rw [uE (S:=S) (c:=(c0 c)) (by show ¬ (1<=c.op/\c.op<=15);omega)];exact⟨rfl,rfl⟩⟩)
 refine gK 4 [(14,.bool false)] [] ?_
 refine NN (CF (af.skip (NX (SR (gC 2 [] [(0,A_ 7 b2 13),(1,A_ 8 b3 13)] [(8,(Sx c))] ?_)))))
 refine NN (af.ret ?_)
 exact ai.ret (v:=.agg #[vI (c.op),vI (c.handle),vI (c.other),.string c.name,.string c.text,.slice c.dA (c.data.length) (c.dC),vI (c.mode),vI (c.uid),vI (c.gid),vI (c.sec),vI (c.nano),vI 230,vI 0]) (l:=(pA f m t L S)) (bA:=[b3=b3,b3=b3,b3=b3,b3=b3,b3=b3,b3=b3,b3=b3,b3=b3,b3=b3,b3=b3,b3=b3,b3=b3,b3=b3]) [.at 8,.at 8,.at 8,.at 8,.at 8,.at 8,.at 8,.at 8,.at 8,.at 8,.at 8,.at 8,.at 8] [0,1,2,3,4,5,6] (fun _=>by kernel_rfl) ⟨rfl,rfl,rfl,rfl,rfl,rfl,rfl,rfl,rfl,rfl,rfl,rfl,rfl,trivial⟩ rfl (by kernel_rfl) (⟨L,by unfold bQ;rw [uE (S:=S) (c:=(c0 c)) (by show ¬ (1<=c.op/\c.op<=15);omega)];exact⟨rfl,rfl⟩⟩)
end
section
open Go.RowKit Go.Maps bG aE
section inv
variable {S:aG} {d to:Nat} {name toName text:ByteArray} {mode:Int} {c:aB}
theorem E8 (hI:Inv0 S):hnd S.us (aO S.X)=0:=by
  have:hnd S.us (aO S.X)=dF (fun _=>0) S.us:=fT (fun p hp=>if_neg (hI.fresh.us p hp))
  rw [this]
  have h0:∀ us:Used Th,dF (fun _=>0) us=0:=fun us=>by
    induction us with
    | nil=>rfl
    | cons p r ih=>show 0+_=0;rw [ih]
  exact h0 _
theorem yT (hI:Inv0 S) {kind mode:Int} {tg:ByteArray} (hm:nB mode) (ht:eO kind tg):kg { aU S.X kind mode with target:=tg }:=
  ⟨hm,⟨Int.le_refl _,by show (0:Int)<=2147483647;decide⟩,⟨Int.le_refl _,by show (0:Int)<=2147483647;decide⟩,hI.now,fun _=>rfl,fun _=>rfl,ht⟩
theorem Inv.DZ (hI:Inv S) (hd:Live S.idx ⟨d,2⟩) (iM:(obj S.O d).gone=false) (iH:bI name) (h0:bZ S.X S.O S.idx d name=0) {kind mode:Int} {tg:ByteArray} (hk:kind=1\/kind=2\/kind=3) (hm:nB mode) (ht:eO kind tg) :
    Inv (eP S d name { aU S.X kind mode with target:=tg }):=by
  have h:=hI.add (us':=S.us) (fU:=S.ar) (o:={ aU S.X kind mode with target:=tg }) hd iM (om h0) iH (tO h0) rfl hk rfl rfl rfl rfl rfl (yT hI.toInv0 hm ht) hI.usr hI.xh hI.Dd hI.ar (fun h t e=>⟨.inl (hI.us h t e).1,(hI.us h t e).2⟩) (fun _ _=>rfl) (by rw [E8 hI.toInv0];rfl)
  exact h
theorem Inv.gF (hI:Inv S) (hd:Live S.idx ⟨d,2⟩) (iM:(obj S.O d).gone=false) (iH:bI name) (hm:nB mode):Inv (Proofs.YtidjcblbdmfalaaGreat.gF S d name mode).2:=by
  unfold Proofs.YtidjcblbdmfalaaGreat.gF
  split
  ·rename_i h0
   exact hI.DZ hd iM iH h0 (.inr (.inl rfl)) hm (.inl ⟨by decide,rfl⟩)
  exact hI
theorem OG {s:ByteArray} (h:mX s=0):eO 3 s:=by
  unfold mX at h
  split at h
  ·cases h
  rename_i h1
  split at h
  ·cases h
  split at h
  ·rename_i h2 h3
   refine .inr ⟨rfl,?_,by omega,h3⟩
   apply Classical.byContradiction
   intro hn
   have:s.size=0:=by omega
   exact h1 (kJ.1 this)
  cases h
theorem Inv.eE (hI:Inv S) (hd:Live S.idx ⟨d,2⟩) (iM:(obj S.O d).gone=false) (iH:bI name):Inv (Proofs.YtidjcblbdmfalaaGreat.eE S d name text).2:=by
  unfold Proofs.YtidjcblbdmfalaaGreat.eE
  split
  ·rename_i hb
   split
   ·rename_i h0
    exact hI.DZ hd iM iH h0 (.inr (.inr rfl)) ⟨by decide,by decide⟩ (OG hb)
   exact hI
  exact hI
theorem Inv.dX (hI:Inv S) (hd:Live S.idx ⟨d,2⟩):Inv (Proofs.YtidjcblbdmfalaaGreat.dX S d name).2:=by
  unfold Proofs.YtidjcblbdmfalaaGreat.dX
  split
  ·exact hI
  rename_i t hl
  split
  ·exact hI
  rename_i hk
  exact hI.yj hd hl hk
theorem Inv.eG (hI:Inv S) (hd:Live S.idx ⟨d,2⟩):Inv (Proofs.YtidjcblbdmfalaaGreat.eG S d name).2:=by
  unfold Proofs.YtidjcblbdmfalaaGreat.eG
  split
  ·exact hI
  rename_i t hl
  split
  ·split
   ·rename_i he
    exact hI.drop hd hl (fun _=>he)
   exact hI
  exact hI
theorem I5 {t:Th} (ht:t.k≠to):(obj (aI S d name t).O to).gone=(obj S.O to).gone:=by
  have h1:(obj (aI S d name t).O to).gone=(obj (aQ S.X S.O d name t) to).gone:=by
    unfold aI
    simp only
    split
    ·show (obj (aD _ t.k _) to).gone=_
     rw [cx (fun e=>ht e.symm)]
    rfl
  rw [h1]
  exact dw (g:=aR.gone) (fun _ _=>rfl) (fun _ _=>rfl) (fun _ _ _=>rfl)
theorem Inv.bF (hI:Inv S) (hd:Live S.idx ⟨d,2⟩) (hto:Live S.idx ⟨to,2⟩) (iM:(obj S.O to).gone=false) (iH:bI toName):Inv (Proofs.YtidjcblbdmfalaaGreat.bF S d name to toName).2:=by
  unfold Proofs.YtidjcblbdmfalaaGreat.bF
  split
  ·exact hI
  rename_i t hl
  split
  ·exact hI
  rename_i hb
  have hb:t.kind=2->¬ jD S.O t.k to:=fun h1 h2=>hb ⟨h1,h2⟩
  split
  ·rename_i hn
   exact hI.move hd hl hto iM hn iH hb
  rename_i o hl2
  split
  ·exact hI
  rename_i hot
  split
  ·exact hI
  rename_i hok
  split
  ·exact hI
  rename_i Uz
  have ho:=(hI.ent hto hl2).2
  have Qj:o.k≠to:=hI.ne hto hl2
  have h1:=hI.yj hto hl2 hok
  have hd1:Live (aI S to toName o).idx ⟨d,2⟩:=ju hI.toInv0 hto hl2 hd (fun e=>hok (by have:=gj hd ho e;rw [← this]))
  have jH:Live (aI S to toName o).idx ⟨to,2⟩:=ju hI.toInv0 hto hl2 hto (fun e=>Qj e.symm)
  exact h1.move hd1 (qt hI.toInv0 hto hl2 hl hot) jH (by rw [I5 Qj];exact iM) (qu hI.toInv0 hto hl2) iH (fun h=>absurd h Uz)
theorem Inv.fw (hI:Inv S) (hd:Live S.idx ⟨d,2⟩) (hto:Live S.idx ⟨to,2⟩) (iM:(obj S.O to).gone=false) (iH:bI toName):Inv (Proofs.YtidjcblbdmfalaaGreat.fw S d name to toName).2:=by
  unfold Proofs.YtidjcblbdmfalaaGreat.fw
  split
  ·exact hI
  rename_i t hl
  have ht:=(hI.ent hd hl).2
  split
  ·exact hI
  rename_i hk
  split
  ·rename_i hn
   split
   ·rename_i hr
    have hgt:(obj S.O t.k).gone=false:=by
      cases hg:(obj S.O t.k).gone with
      | false=>rfl
      | true=>
        have h1:=(hI.gone t ht hg).1
        have h2:=hI.links t ht
        have h3:0 < iw S.idx S.O t.k:=mM hd hl
        omega
    exact hI.link hto iM hn iH ht hgt hk hr
   exact hI
  exact hI
theorem Inv.mJ (hI:Inv S) (hd:Live S.idx ⟨d,2⟩) (iM:(obj S.O d).gone=false) (iH:bI name) (hm:nB mode):Inv (Proofs.YtidjcblbdmfalaaGreat.mJ S d name mode).2.2:=by
  unfold Proofs.YtidjcblbdmfalaaGreat.mJ
  split
  ·rename_i h0
   split
   ·rename_i hlt
    obtain⟨g1,g2,_⟩:=least_le hI.usr (fun x hx=>(hI.xh x hx).1)
    obtain⟨v1,v2⟩:=GW (t:=⟨aO S.X,1⟩) hI.usr hI.xh
    have hm2:=yT (kind:=1) (tg:=⟨#[]⟩) hI.toInv0 hm (.inl ⟨by decide,rfl⟩)
    refine hI.add (us':=ins (aE.least S.us) ⟨aO S.X,1⟩ S.us) (fU:=max S.ar ((S.us.length:Int)+1)) (o:={ aU S.X 1 mode with opens:=1 }) hd iM (om h0) iH (tO h0) rfl (.inl rfl) rfl rfl rfl rfl rfl ⟨hm2.mode,hm2.uid,hm2.gid,hm2.time,hm2.data,hm2.ah,hm2.target⟩ v1 v2 (by rw [iI];omega) (by have:=hI.ar;omega) (fun h t e=>?_) (fun k hk=>?_) ?_
    ·rw [rM g2] at e
     split at e
     ·cases e;exact⟨.inr rfl,by show (1:Int)≠3;decide⟩
     exact⟨.inl (hI.us h t e).1,(hI.us h t e).2⟩
    ·rw [Cu,if_neg (fun e=>hk e.symm),Nat.zero_add]
    rw [Cu,if_pos rfl,E8 hI.toInv0];rfl
   exact hI
  exact hI
theorem Inv.cK (hI:Inv S) (c:aB):Inv (Proofs.YtidjcblbdmfalaaGreat.cK S c).2.1:=by
  have habout:∀ {need:Int} {d:Nat} {h:Int} {n:ByteArray},dU S.O S.us h n need=.ok d->Live S.idx ⟨d,2⟩/\(obj S.O d).gone=false/\bI n:=fun {need d h n} e=>by
    rcases lg hI.toInv0 h n need with ⟨e2,h1,_⟩|⟨d2,h1,h2,h3,h4,_⟩
    ·rw [e] at h1;cases h1
    rw [e] at h1;cases h1;exact⟨h2,h3,h4⟩
  have Kt:∀ {t:Th},fP S.O S.us c=.ok t->Live S.idx t:=fun {t} e=>by
    rcases Bg hI.toInv0 c with ⟨e2,h1,_⟩|⟨k,h1,h2⟩|⟨k,h1,h2⟩|⟨k,h1,h2⟩<;>rw [e] at h1<;>cases h1<;>exact h2
  by_cases h:1<=c.op/\c.op<=15
  ·have h:c.op=1\/c.op=2\/c.op=3\/c.op=4\/c.op=5\/c.op=6\/c.op=7\/c.op=8\/c.op=9\/c.op=10\/c.op=11\/c.op=12\/c.op=13\/c.op=14\/c.op=15:=by omega
   rcases h with h|h|h|h|h|h|h|h|h|h|h|h|h|h|h
   ·rw [vm h]
    unfold jl
    split
    ·exact hI
    rename_i t e
    split
    ·rename_i hk;exact hI.cr (hI.live e) (by rw [hk];decide)
    exact hI
   ·rw [yq h]
    unfold fD
    split
    ·exact hI
    rename_i t e
    split
    ·exact hI
    rename_i hk
    split
    ·exact hI
    exact hI.cr (Kt e) hk
   ·rw [yt h]
    unfold eM
    split
    ·exact hI
    rename_i t e
    split
    ·exact hI
    rename_i hk
    split
    ·exact hI
    exact hI.cr (Kt e) hk
   ·rw [vn h]
    unfold fQ
    split
    ·exact hI
    rename_i d e
    obtain⟨h1,h2,h3⟩:=habout e
    split
    ·rename_i hm;exact hI.gF h1 h2 h3 hm
    exact hI
   ·rw [yu h]
    unfold dY
    split
    ·exact hI
    rename_i d e
    obtain⟨h1,h2,h3⟩:=habout e
    split
    ·rename_i hm
     split
     ·exact hI.mJ h1 h2 h3 hm
     exact hI
    exact hI
   ·rw [yw h]
    unfold fK
    split
    ·exact hI
    rename_i d e
    obtain⟨h1,h2,h3⟩:=habout e
    exact hI.eE h1 h2 h3
   ·rw [yx h]
    unfold cE
    split
    ·exact hI
    rename_i d e
    split
    ·exact hI
    rename_i to e2
    obtain⟨h1,h2,h3⟩:=habout e2
    exact hI.fw (habout e).1 h1 h2 h3
   ·rw [yA h]
    unfold gh
    split
    ·exact hI
    rename_i d e
    exact hI.dX (habout e).1
   ·rw [yB h]
    unfold fZ
    split
    ·exact hI
    rename_i t e
    split
    ·rename_i hk
     obtain⟨k,kd⟩:=t
     simp only at hk
     subst hk
     exact hI.dI (hI.us _ _ e).1 _
    exact hI
   ·rw [ur h]
    unfold bJ
    split
    ·exact hI
    split
    ·exact hI
    split
    ·rename_i hm
     split
     ·rename_i ho
      split
      ·rename_i ht;exact hI.RN hm ho ht
      exact hI
     exact hI
    exact hI
   ·rw [uw h]
    unfold j6
    split<;>exact hI
   ·rw [ux h]
    unfold gi
    split<;>exact hI
   ·rw [uy h]
    unfold ji
    split
    ·exact hI
    rename_i t e;exact hI.shut e
   ·rw [uz h]
    unfold iu
    split
    ·exact hI
    rename_i d e
    exact hI.eG (habout e).1
   rw [uD h]
   unfold fB
   split
   ·exact hI
   rename_i d e
   split
   ·exact hI
   rename_i to e2
   obtain⟨h1,h2,h3⟩:=habout e2
   exact hI.bF (habout e).1 h1 h2 h3
  rw [uE h];exact hI
theorem Inv.bQ (hI:Inv S) (c:aB):Inv (Proofs.YtidjcblbdmfalaaGreat.bQ S c).1:=hI.cK _
end inv
end
end Go.Proofs.YtidjcblbdmfalaaGreat
section
namespace Go.Proofs
open Go.Shelf
def Tryz.keysS_ren:Go.Shelf.Ren:=⟨fun|7=>69|10=>109|n=>n,fun|23=>136|26=>9|3=>124|28=>157|0=>0|27=>156|33=>203|4=>4|n=>n,fun|n=>n⟩
theorem Tryz.keysS:Go.Proofs.SlLaysZ.n7 Tryz.prog Tryz.keysS_ren:={
  mixed:=by kernel_rfl
  f7:=⟨Tryz.f69.name,by decide,Tryz.func69.trans (congrArg some (by kernel_rfl))⟩
  f10:=⟨Tryz.f109.name,by decide,Tryz.func109.trans (congrArg some (by kernel_rfl))⟩
  t0:=Tryz.underlying0
  a0:=Tryz.isAgg0
  z0:=Tryz.sizeOf0
  v0:=Tryz.zeroValue0
  t4:=Tryz.underlying4
  a4:=Tryz.isAgg4
  z4:=Tryz.sizeOf4
  v4:=Tryz.zeroValue4
  t23:=Tryz.underlying136
  a23:=Tryz.isAgg136
  z23:=Tryz.sizeOf136
  v23:=Tryz.zeroValue136
  t26:=Tryz.underlying9
  a26:=Tryz.isAgg9
  z26:=Tryz.sizeOf9
  v26:=Tryz.zeroValue9
  t27:=Tryz.underlying156
  a27:=Tryz.isAgg156
  z27:=Tryz.sizeOf156
  v27:=Tryz.zeroValue156
  t28:=Tryz.underlying157
  a28:=Tryz.isAgg157
  z28:=Tryz.sizeOf157
  v28:=Tryz.zeroValue157
  t33:=Tryz.underlying203
  a33:=Tryz.isAgg203
  z33:=Tryz.sizeOf203
  v33:=Tryz.zeroValue203 }
def Tryz.sortedS_ren:Go.Shelf.Ren:=⟨fun|6=>68|8=>107|9=>108|11=>142|13=>141|12=>143|23=>180|24=>181|14=>182|15=>183|16=>184|17=>185|18=>186|19=>187|20=>188|21=>189|22=>190|25=>211|26=>206|27=>207|28=>212|29=>213|30=>214|31=>223|n=>n,fun|26=>9|28=>157|24=>154|0=>0|3=>3|37=>234|48=>266|50=>268|4=>4|40=>260|39=>259|45=>251|5=>5|9=>9|51=>286|55=>290|57=>299|58=>300|33=>203|n=>n,fun|n=>n⟩
theorem Tryz.sortedS:Go.Proofs.SlLaysZ.n6 Tryz.prog Tryz.sortedS_ren:={
  mixed:=by kernel_rfl
  f6:=⟨Tryz.f68.name,by decide,Tryz.func68.trans (congrArg some (by kernel_rfl))⟩
  f8:=⟨Tryz.f107.name,by decide,Tryz.func107.trans (congrArg some (by kernel_rfl))⟩
  f11:=⟨Tryz.f142.name,by decide,Tryz.func142.trans (congrArg some (by kernel_rfl))⟩
  t0:=Tryz.underlying0
  a0:=Tryz.isAgg0
  z0:=Tryz.sizeOf0
  v0:=Tryz.zeroValue0
  t24:=Tryz.underlying154
  a24:=Tryz.isAgg154
  z24:=Tryz.sizeOf154
  v24:=Tryz.zeroValue154
  t26:=Tryz.underlying9
  a26:=Tryz.isAgg9
  z26:=Tryz.sizeOf9
  v26:=Tryz.zeroValue9
  t28:=Tryz.underlying157
  a28:=Tryz.isAgg157
  z28:=Tryz.sizeOf157
  v28:=Tryz.zeroValue157
  i26:=by kernel_rfl }
def Tryz.sortS_ren:Go.Shelf.Ren:=⟨fun|6=>108|8=>141|9=>143|19=>180|20=>181|21=>182|22=>183|23=>184|24=>185|25=>186|26=>187|27=>188|28=>189|29=>190|36=>211|31=>206|32=>207|37=>212|38=>213|39=>214|41=>223|n=>n,fun|27=>154|29=>9|3=>3|32=>234|26=>154|0=>0|44=>266|46=>268|4=>4|36=>260|35=>259|41=>251|5=>5|9=>9|53=>286|57=>290|63=>299|64=>300|n=>n,fun|n=>n⟩
theorem Tryz.sortS:Go.Proofs.SlLaysM.n6 Tryz.prog Tryz.sortS_ren:={
  mixed:=by kernel_rfl
  f6:=⟨Tryz.f108.name,by decide,Tryz.func108.trans (congrArg some (by kernel_rfl))⟩
  f8:=Tryz.func141.trans (congrArg some (by kernel_rfl))
  f9:=⟨Tryz.f143.name,by decide,Tryz.func143.trans (congrArg some (by kernel_rfl))⟩
  f19:=Tryz.func180.trans (congrArg some (by kernel_rfl))
  f20:=Tryz.func181.trans (congrArg some (by kernel_rfl))
  f21:=⟨Tryz.f182.name,by decide,Tryz.func182.trans (congrArg some (by kernel_rfl))⟩
  f22:=⟨Tryz.f183.name,by decide,Tryz.func183.trans (congrArg some (by kernel_rfl))⟩
  f23:=⟨Tryz.f184.name,by decide,Tryz.func184.trans (congrArg some (by kernel_rfl))⟩
  f24:=⟨Tryz.f185.name,by decide,Tryz.func185.trans (congrArg some (by kernel_rfl))⟩
  f25:=⟨Tryz.f186.name,by decide,Tryz.func186.trans (congrArg some (by kernel_rfl))⟩
  f26:=⟨Tryz.f187.name,by decide,Tryz.func187.trans (congrArg some (by kernel_rfl))⟩
  f27:=⟨Tryz.f188.name,by decide,Tryz.func188.trans (congrArg some (by kernel_rfl))⟩
  f28:=⟨Tryz.f189.name,by decide,Tryz.func189.trans (congrArg some (by kernel_rfl))⟩
  f29:=⟨Tryz.f190.name,by decide,Tryz.func190.trans (congrArg some (by kernel_rfl))⟩
  f31:=Tryz.func206.trans (congrArg some (by kernel_rfl))
  f32:=Tryz.func207.trans (congrArg some (by kernel_rfl))
  f36:=⟨Tryz.f211.name,by decide,Tryz.func211.trans (congrArg some (by kernel_rfl))⟩
  f37:=⟨Tryz.f212.name,by decide,Tryz.func212.trans (congrArg some (by kernel_rfl))⟩
  f38:=⟨Tryz.f213.name,by decide,Tryz.func213.trans (congrArg some (by kernel_rfl))⟩
  f39:=⟨Tryz.f214.name,by decide,Tryz.func214.trans (congrArg some (by kernel_rfl))⟩
  f41:=⟨Tryz.f223.name,by decide,Tryz.func223.trans (congrArg some (by kernel_rfl))⟩
  t0:=Tryz.underlying0
  a0:=Tryz.isAgg0
  z0:=Tryz.sizeOf0
  v0:=Tryz.zeroValue0
  t3:=Tryz.underlying3
  a3:=Tryz.isAgg3
  z3:=Tryz.sizeOf3
  v3:=Tryz.zeroValue3
  t4:=Tryz.underlying4
  a4:=Tryz.isAgg4
  z4:=Tryz.sizeOf4
  v4:=Tryz.zeroValue4
  t5:=Tryz.underlying5
  a5:=Tryz.isAgg5
  z5:=Tryz.sizeOf5
  v5:=Tryz.zeroValue5
  t9:=Tryz.underlying9
  a9:=Tryz.isAgg9
  z9:=Tryz.sizeOf9
  v9:=Tryz.zeroValue9
  t26:=Tryz.underlying154
  a26:=Tryz.isAgg154
  z26:=Tryz.sizeOf154
  v26:=Tryz.zeroValue154
  t27:=Tryz.underlying154
  a27:=Tryz.isAgg154
  z27:=Tryz.sizeOf154
  v27:=Tryz.zeroValue154
  t29:=Tryz.underlying9
  a29:=Tryz.isAgg9
  z29:=Tryz.sizeOf9
  v29:=Tryz.zeroValue9
  t32:=Tryz.underlying234
  a32:=Tryz.isAgg234
  z32:=Tryz.sizeOf234
  v32:=Tryz.zeroValue234
  t35:=Tryz.underlying259
  a35:=Tryz.isAgg259
  z35:=Tryz.sizeOf259
  v35:=Tryz.zeroValue259
  t36:=Tryz.underlying260
  a36:=Tryz.isAgg260
  z36:=Tryz.sizeOf260
  v36:=Tryz.zeroValue260
  t41:=Tryz.underlying251
  a41:=Tryz.isAgg251
  z41:=Tryz.sizeOf251
  v41:=Tryz.zeroValue251
  t44:=Tryz.underlying266
  a44:=Tryz.isAgg266
  z44:=Tryz.sizeOf266
  v44:=Tryz.zeroValue266
  t46:=Tryz.underlying268
  a46:=Tryz.isAgg268
  z46:=Tryz.sizeOf268
  v46:=Tryz.zeroValue268
  t53:=Tryz.underlying286
  a53:=Tryz.isAgg286
  z53:=Tryz.sizeOf286
  v53:=Tryz.zeroValue286
  t57:=Tryz.underlying290
  a57:=Tryz.isAgg290
  z57:=Tryz.sizeOf290
  v57:=Tryz.zeroValue290
  t63:=Tryz.underlying299
  a63:=Tryz.isAgg299
  z63:=Tryz.sizeOf299
  v63:=Tryz.zeroValue299
  t64:=Tryz.underlying300
  a64:=Tryz.isAgg300
  z64:=Tryz.sizeOf300
  v64:=Tryz.zeroValue300 }
end Go.Proofs
end
namespace Go.Proofs.YtidjcblbdmfalaaGreat
section
open Go.RowKit Go.Maps Go.Sort Go.Shelf
theorem Qk (m:Nat):AnyZ.SortsIn Tryz.prog Tryz.sortedS_ren Fence.wide m:=
  ⟨fun blk off cap ss W hH hblk hsz=>callsIn_wide.2 (AnyM.slices_Sort_string Tryz.sortS blk off cap ss W hH hblk hsz),
   fun p cap W=>callsIn_wide.2 (AnyM.slices_Sort_string_none Tryz.sortS p cap W)⟩
def CD (bk:Nat):Value:=.func (.func 109) #[] #[.pointer (some ⟨bk,0,none⟩)]
theorem Mp {β:Bs} (mb:Option Nat):Spec Tryz.prog β 69 #[.map mb] [] (fun v l=>∃ bk,v=CD bk/\l=[.blk bk [.map mb] 136]):=
  Spec.D7 fun W _=>by
    have h:CallsIn Fence.wide 5 Tryz.prog 69 #[.map mb] W fun e w'=>e=.returned (CD W.heap.size)/\w'=W.alloc (.cells #[.map mb] 136):=AnyZ.keys_in Tryz.keysS Fence.wide 5 trivial rfl mb W
    refine ((callsIn_wide (n:=5)).1 h).mono ?_
    rintro e w' ⟨rfl,rfl⟩
    refine⟨_,_,rfl,⟨W.heap.size,rfl,rfl⟩,(Keeps.refl _ _).alloc _,fun k=>k=W.heap.size,⟨?_,fun k=>Iff.rfl⟩,fun k hk=>Nat.le_of_eq hk.symm⟩
    show (W.heap.push _)[W.heap.size]?=_
    simp
def qv (es:eY Th):List Value:=es.map (fun e=>.string e.1)
theorem Gl {es:eY Th} (h:jC es):(es.map (fun e=>e.1.data.toList)).Pairwise (· < ·):=by
  refine List.pairwise_map.2 (h.imp (fun {a b} hab=>?_))
  unfold lM at hab
  have h1:¬ Op.bytesLess b.1.toList a.1.toList=true:=fun e=>hab (by rw [e];rfl)
  have h2:¬ b.1.toList=a.1.toList:=fun e=>hab (by rw [e];simp)
  rw [bytesLess_eq,Lib.toList_data,Lib.toList_data] at h1
  rw [Lib.toList_data,Lib.toList_data] at h2
  by_cases e:a.1.data.toList < b.1.data.toList
  ·exact e
  exfalso
  have e:=List.not_lt.1 e
  rcases List.le_iff_lt_or_eq.1 e with e|e
  ·exact h1 (by simpa using e)
  exact h2 e
theorem Mq {w:World} {b n:Nat} {L:HL} {es:eY Th} {D:DataW Value} (hr:jC es) (hown:w.ownsMap Tryz.prog 9 qU b n D) (hf:∀ kl,Maps.has D kl=(iD L es kl).isSome) {ss:List (List UInt8)} (hp:ss.Perm (strKeys D)) :
    ss.mergeSort (fun x y=>decide (x<=y))=es.map (fun e=>e.1.data.toList):=by
  have hsort:=Gl hr
  obtain⟨es',hD,hpw,_⟩:=hown.entries zq
  obtain⟨UA,Nn,hko⟩:=hown.keysOf
  obtain rfl:es'=UA:=by rw [hD] at Nn;simpa using Nn
  have hp2:(es.map (fun e=>e.1.data.toList)).Perm (strKeys D):=by
    rw [hD]
    refine perm_strKeys hpw (fun p hp=>?_) (hsort.imp (fun {a b} h e=>by subst e;exact absurd h (List.lt_irrefl a))) (fun x=>?_)
    ·obtain⟨v,hv⟩:=hko p hp
     obtain⟨x,_,h,_⟩:=keyOf_str Tryz.underlying9 hv
     exact⟨x,h⟩
    rw [← hD,hf]
    show _↔((aT ⟨x.toArray⟩ es).map (dz L)).isSome=true
    rw [Option.isSome_map]
    constructor
    ·intro hx
     obtain⟨e,he,rfl⟩:=List.mem_map.1 hx
     have h1:(⟨e.1.data.toList.toArray⟩:ByteArray)=e.1:=by rw [Array.toArray_toList]
     rw [h1,xg (t:=e.2) (jC.twice hr) he];rfl
    intro hx
    obtain⟨t,ht⟩:=Option.isSome_iff_exists.1 hx
    exact List.mem_map.2 ⟨_,lW ht,by simp⟩
  have h3:=mergeSort_of_perm (hp.trans hp2.symm)
  have h4:(es.map (fun e=>e.1.data.toList)).mergeSort leB=es.map (fun e=>e.1.data.toList):=List.mergeSort_of_pairwise (hsort.imp (fun {a b} h=>by simp only [leB,decide_eq_true_eq];exact List.le_of_lt h))
  exact h3.trans h4
theorem I6 {β:Bs} (L:HL) (b bk n:Nat) (es:eY Th) (hr:jC es) (hn:n<=8192) :
    Spec Tryz.prog β 68 #[CD bk] [.abs (aJ Tryz.prog 9 b (iD L es) n),.blk bk [.map (some b)] 136] (fun v l=>∃ A cap,v=.slice A es.length cap ∧
      l=[.abs (aJ Tryz.prog 9 b (iD L es) n),.blk bk [.map (some b)] 136,.abs (aH 9 1 A es.length cap (qv es))]):=by
  intro R w hS
  obtain⟨F1,h1⟩:=hS.get (i:=0) (p:=.abs (aJ Tryz.prog 9 b (iD L es) n)) rfl
  obtain⟨F2,h2⟩:=hS.get (i:=1) (p:=.blk bk [.map (some b)] 136) rfl
  obtain⟨D,hown,hsz,hhas,_⟩:=h1.1
  have hcell:w.cell? ⟨bk,0,none⟩=some (.map (some b)):=(gu h2.1 rfl rfl rfl).1
  have hseq:SeqGives Fence.wide 2 Tryz.prog 109 #[.pointer (some ⟨bk,0,none⟩)] encStr (fun ss=>ss.Perm (strKeys D)) (Maps.size D) w:=
    AnyZ.keys_gives (ρ:=Tryz.keysS_ren) { Tryz.keysS with } Fence.wide _ trivial rfl (by omega) bk b n D w (lt_of_some h2.1) hcell hown
  have cS:=AnyZ.sorted_in Tryz.sortedS Fence.wide 5 trivial trivial trivial trivial rfl (by omega) (Qk _) (enters_of Tryz.func108 (by kernel_rfl) rfl) 109 #[.pointer (some ⟨bk,0,none⟩)] trivial (enters_of Tryz.func109 (by kernel_rfl) rfl)
    (fun ss=>ss.Perm (strKeys D)) (Maps.size D) (by rw [hsz];unfold maxLen;omega) (by rw [hsz];omega) w hseq
  change CallsIn _ _ Tryz.prog 68 _ _ _ at cS
  refine ((callsIn_wide (n:=5)).1 cS).mono ?_
  rintro e w' ⟨v,ss,rfl,hp,hrow,hnil,hb⟩
  have hkeys:=Mq hr hown hhas hp
  have hl2:ss.length=es.length:=by
    have h3:(ss.mergeSort (fun x y=>decide (x<=y))).length=ss.length:=List.length_mergeSort ss
    rw [hkeys,List.length_map] at h3
    exact h3.symm
  rw [hkeys,hl2] at hrow
  have wu:∃ A cap,v=.slice A es.length cap:=by
    rcases hrow.2 with ⟨e1,e2⟩|⟨g,cp,cur,e1,_⟩
    ·exact⟨none,0,by rw [e1,e2]⟩
    exact⟨_,cp,e1⟩
  obtain⟨A,cap,rfl⟩:=wu
  have UB:(es.map (fun e=>e.1.data.toList)).map encStr=qv es:=by
    rw [List.map_map]
    refine List.map_congr_left (fun e _=>?_)
    show encStr e.1.data.toList=.string e.1
    unfold encStr
    rw [Array.toArray_toList]
  rw [UB] at hrow
  have hq:Sat β ([.abs (aJ Tryz.prog 9 b (iD L es) n),.blk bk [.map (some b)] 136,.abs R]++[.abs (aH 9 1 A es.length cap (qv es))]) w':=by
    refine Sat.new (F:=fun k=>(Value.slice A es.length cap).ownBlock=some k) hS ⟨?_,fun k=>Iff.rfl⟩ ⟨hb.os,hb.tape,hb.output,hb.size,fun k hk _=>hb.block k hk⟩ (fun k hk=>(hrow.lt k hk).1)
    refine⟨hrow.1,?_⟩
    rcases hrow.2 with h|⟨g,cp,cur,e1,_,h3,h4⟩
    ·exact .inl h
    exact .inr ⟨g,cp,cur,e1,Nat.zero_le _,h3,h4⟩
  exact⟨_,[.abs (aJ Tryz.prog 9 b (iD L es) n),.blk bk [.map (some b)] 136,.abs (aH 9 1 A es.length cap (qv es))],rfl,⟨A,cap,rfl,rfl⟩,hq.pick (idx:=[0,1,3,2]) rfl rfl⟩
end
section
open Go.RowKit Go.Maps bG aE
theorem G3 {ns:List aK} {n:aK} {k:Nat} (h:k < ns.length):nd (ns++[n]) k=nd ns k:=by
  unfold nd;rw [List.getD_eq_getElem?_getD,List.getD_eq_getElem?_getD,List.getElem?_append_left h]
theorem CG {ns:List aK} {n:aK}:nd (ns++[n]) ns.length=n:=by
  unfold nd;rw [List.getD_eq_getElem?_getD,List.getElem?_append_right (Nat.le_refl _)];simp
def Mr:Lay:=⟨fun _=>none,fun _=>none,fun _=>0,fun _=>0⟩
def kW (ns:List aK) (L:Lay) (k:Nat):cu:=aH 140 2 (L.eA k) (nd ns k).ah.length (L.eC k) (gJ (nd ns k).ah)
def kX (ns:List aK) (L:Lay) (k:Nat):cu:=aH 5 1 (L.dA k) (nd ns k).data.length (L.dC k) (bX (nd ns k).data)
def TJ (A:Option Addr) (c:Nat) (ns:List aK) (L:Lay):HP:=.abs (aH 70 10 A ns.length c (dr L ns))
def Ms (A:Option Addr) (c:Nat) (ns:List aK) (L:Lay):List HP:=[TJ A c ns L,.abs (jk (kW ns L) ns.length),.abs (jk (kX ns L) ns.length)]
theorem qA.graph {β β':Bs} {A:Option Addr} {c:Nat} {ns:List aK} {L:Lay} (h:qA β (Ms A c ns L) β'):ay β' A ns L:=by
  obtain⟨F,h1,h2⟩:=h.get 0 rfl
  obtain⟨G,g1,g2⟩:=h.get 1 rfl
  obtain⟨K,k1,k2⟩:=h.get 2 rfl
  exact⟨cM.j9 h1 h2 rfl,
    jk.base k1 k2 rfl (Φ:=fun i b=>bg b (L.dA i) (nd ns i).data) (fun i _ F hF hO=>cM.j9 (show (HP.abs (aH 5 1 (L.dA i) (nd ns i).data.length (L.dC i) (bX (nd ns i).data))).h F _ from hF) hO rfl),
    jk.base g1 g2 rfl (Φ:=fun i b=>dN b (L.eA i) (nd ns i).ah) (fun i _ F hF hO=>cM.j9 (show (HP.abs (aH 140 2 (L.eA i) (nd ns i).ah.length (L.eC i) (gJ (nd ns i).ah))).h F _ from hF) hO rfl)⟩
theorem Gm {L:Lay} {ns:List aK} {n:aK} {dA eA:Option Addr} {dC eC:Nat}:dr L ns++[.int .i64 n.id,.int .i64 n.kind,.int .i64 n.mode,.int .i64 n.uid,.int .i64 n.gid,.int .i64 n.sec,.int .i64 n.nano,.slice dA n.data.length dC,.string n.target,.slice eA n.ah.length eC]=dr (L.put ns.length dA dC eA eC) (ns++[n]):=by
  have h:=Ac (ns:=ns++[n]) (L:=L) (k:=ns.length) (by simp) dA dC eA eC
  rw [CG,List.take_left,List.take_of_length_le (by simp)] at h
  exact h
theorem Dk {ns:List aK} {L:Lay} {n:aK} {dA eA:Option Addr} {dC eC:Nat}:(∀ x,x < ns.length->kX (ns++[n]) (L.put ns.length dA dC eA eC) x=kX ns L x)/\kX (ns++[n]) (L.put ns.length dA dC eA eC) ns.length=aH 5 1 dA n.data.length dC (bX n.data):=by
  refine⟨fun x hx=>?_,?_⟩
  ·unfold kX Lay.put
   rw [G3 hx]
   have:¬ x=ns.length:=by omega
   simp [this]
  unfold kX Lay.put
  rw [CG]
  simp
theorem Dl {ns:List aK} {L:Lay} {n:aK} {dA eA:Option Addr} {dC eC:Nat}:(∀ x,x < ns.length->kW (ns++[n]) (L.put ns.length dA dC eA eC) x=kW ns L x)/\kW (ns++[n]) (L.put ns.length dA dC eA eC) ns.length=aH 140 2 eA n.ah.length eC (gJ n.ah):=by
  refine⟨fun x hx=>?_,?_⟩
  ·unfold kW Lay.put
   rw [G3 hx]
   have:¬ x=ns.length:=by omega
   simp [this]
  unfold kW Lay.put
  rw [CG]
  simp
def lH (O:bY) (e:ByteArray×Th):jj:=⟨e.1,(obj O e.2.k).id⟩
def yD (O:bY) (id:Int) (t:Th):aK:=⟨id,t.kind,(obj O t.k).mode,(obj O t.k).uid,(obj O t.k).gid,(obj O t.k).sec,(obj O t.k).nano,(obj O t.k).data,(obj O t.k).target,(obj O t.k).ah.map (lH O)⟩
def aS (S:aG):List aK:=S.idx.map (fun p=>yD S.O p.1 p.2)
theorem oJ {S:aG}:(aS S).length=S.idx.length:=List.length_map ..
def lI (S:aG) (i:Nat):Th:=(S.idx.getD i (0,⟨0,0⟩)).2
def cL (S:aG) (i:Nat):Int:=(S.idx.getD i (0,⟨0,0⟩)).1
section at_
variable {S:aG} {i:Nat}
theorem Bj (hi:i < S.idx.length):S.idx[i]?=some (cL S i,lI S i):=by
  unfold cL lI
  rw [List.getD_eq_getElem?_getD,List.getElem?_eq_getElem hi];rfl
theorem get_at (h:Inv0 S) (hi:i < S.idx.length):aE.get S.idx (cL S i)=some (lI S i):=mK h.rise (List.mem_of_getElem? (Bj hi))
theorem G4 (h:Inv0 S) (hi:i < S.idx.length):Live S.idx (lI S i)/\cL S i=((lI S i).k:Int):=⟨h.live (get_at h hi),h.key (get_at h hi)⟩
theorem Ql (hi:i < S.idx.length):(keys S.idx)[i]?=some (cL S i):=by
  unfold keys
  rw [List.getElem?_map,Bj hi];rfl
theorem vr (hi:i < S.idx.length):(aS S).take (i+1)=(aS S).take i++[yD S.O (cL S i) (lI S i)]:=by
  rw [List.take_add_one]
  congr 1
  unfold aS
  rw [List.getElem?_map,Bj hi];rfl
theorem dJ (hi:i<=S.idx.length):((aS S).take i).length=i:=by rw [List.length_take,oJ];omega
end at_
section sat
variable {β:Bs} {l l':List HP} {w:World} {i j k:Nat} {O:bY} {L:HL} {ix:List Nat}
theorem Sat.Qm (h:Sat β l w) (hp:l[i]?=some (.abs (ax (jY (bC O L) k cu.none)))) (hq:l[j]?=some (.abs (aH 5 1 (L.dA k) (obj O k).data.length (L.dC k) (bX (obj O k).data)))) (hd:bq (i::j::ix)=true) (hl:bT l ix=some l') (h2:(obj O k).kind=1):Sat β (.abs (ax (bC O L))::l') w:=
  h.pX hp hq (fun _ _ h=>h) hd hl k (fun _ hx=>(og hx).symm) (rX h2)
end sat
theorem I7 {es:List jj} {e:jj}:gJ es++[.string e.name,.int .i64 e.id]=gJ (es++[e]):=(uR e es 0).symm
section grow
variable {ns G':List aK} {n:aK} {L:Lay} {i dn en:Nat} {dA eA:Option Addr} {dC eC:Nat}
theorem vu (hl:ns.length=i) (hG:G'=ns++[n]) (hd:n.data.length=dn) (he:n.ah.length=en):dr L ns++[.int .i64 n.id,.int .i64 n.kind,.int .i64 n.mode,.int .i64 n.uid,.int .i64 n.gid,.int .i64 n.sec,.int .i64 n.nano,.slice dA dn dC,.string n.target,.slice eA en eC]=dr (L.put i dA dC eA eC) G':=by
  subst hl hG hd he;exact Gm
theorem zL (hl:ns.length=i) (hG:G'=ns++[n]):∀ x,x < i->kX G' (L.put i dA dC eA eC) x=kX ns L x:=by
  subst hl hG;exact Dk.1
theorem xE (hl:ns.length=i) (hG:G'=ns++[n]) (hd:n.data.length=dn):kX G' (L.put i dA dC eA eC) i=aH 5 1 dA dn dC (bX n.data):=by
  subst hl hG hd;exact Dk.2
theorem zM (hl:ns.length=i) (hG:G'=ns++[n]):∀ x,x < i->kW G' (L.put i dA dC eA eC) x=kW ns L x:=by
  subst hl hG;exact Dl.1
theorem xG (hl:ns.length=i) (hG:G'=ns++[n]) (he:n.ah.length=en):kW G' (L.put i dA dC eA eC) i=aH 140 2 eA en eC (gJ n.ah):=by
  subst hl hG he;exact Dl.2
end grow
section more
variable {S:aG} {i j k:Nat}
theorem RR (h:Inv0 S) (hi:i < S.idx.length):(∃ k,lI S i=⟨k,1⟩/\Live S.idx ⟨k,1⟩)\/(∃ k,lI S i=⟨k,2⟩/\Live S.idx ⟨k,2⟩)\/∃ k,lI S i=⟨k,3⟩/\Live S.idx ⟨k,3⟩:=by
  have h1:=(G4 h hi).1
  generalize lI S i=t at h1 ⊢
  obtain⟨k,kd⟩:=t
  rcases (h.ob _ h1).2.2 with e|e|e<;>simp only at e<;>subst e
  ·exact .inl ⟨k,rfl,h1⟩
  ·exact .inr (.inl ⟨k,rfl,h1⟩)
  exact .inr (.inr ⟨k,rfl,h1⟩)
theorem CH (h:Inv0 S) (hi:i < S.idx.length):(Lit.int .i64 (cL S i)).wf=true:=by
  have h1:=h.idx _ _ (get_at h hi)
  have h2:=h.last
  exact WalkArith.wf_i64 (by omega)
theorem Mt (hi:i < S.idx.length):(ints (keys S.idx))[i * 1+0]?=some (.int .i64 (cL S i)):=by
  rw [Nat.mul_one,Nat.add_zero]
  unfold ints
  rw [List.getElem?_map,Ql hi];rfl
theorem E9 (h:Inv0 S) {t:Th} (hl:Live S.idx t) (hk:t.kind≠3):(obj S.O t.k).target=⟨#[]⟩:=by
  rcases (h.mt t hl).target with e|e
  ·exact e.2
  exact absurd (h.kind hl ▸ e.1) hk
theorem qw (h:Inv0 S) (hi:i < S.idx.length) (kH:lI S i=⟨k,1⟩) (hl:Live S.idx ⟨k,1⟩):(aS S).take (i+1)=(aS S).take i++[⟨cL S i,1,(obj S.O k).mode,(obj S.O k).uid,(obj S.O k).gid,(obj S.O k).sec,(obj S.O k).nano,(obj S.O k).data,⟨#[]⟩,[]⟩]:=by
  rw [vr hi,kH]
  unfold yD
  rw [show (obj S.O k).target=⟨#[]⟩ from E9 h hl (by simp),show (obj S.O k).ah=[] from (h.mt _ hl).ah (by rw [h.kind hl];simp)];rfl
theorem qx (h:Inv0 S) (hi:i < S.idx.length) (kH:lI S i=⟨k,3⟩) (hl:Live S.idx ⟨k,3⟩):(aS S).take (i+1)=(aS S).take i++[⟨cL S i,3,(obj S.O k).mode,(obj S.O k).uid,(obj S.O k).gid,(obj S.O k).sec,(obj S.O k).nano,[],(obj S.O k).target,[]⟩]:=by
  rw [vr hi,kH]
  unfold yD
  rw [show (obj S.O k).data=[] from (h.mt _ hl).data (by rw [h.kind hl];simp),show (obj S.O k).ah=[] from (h.mt _ hl).ah (by rw [h.kind hl];simp)];rfl
theorem sC (h:Inv0 S) (hi:i < S.idx.length) (kH:lI S i=⟨k,2⟩) (hl:Live S.idx ⟨k,2⟩):(aS S).take (i+1)=(aS S).take i++[⟨cL S i,2,(obj S.O k).mode,(obj S.O k).uid,(obj S.O k).gid,(obj S.O k).sec,(obj S.O k).nano,[],⟨#[]⟩,(obj S.O k).ah.map (lH S.O)⟩]:=by
  rw [vr hi,kH]
  unfold yD
  rw [show (obj S.O k).target=⟨#[]⟩ from E9 h hl (by simp),show (obj S.O k).data=[] from (h.mt _ hl).data (by rw [h.kind hl];simp)]
def eZ (es:eY Th) (j:Nat):ByteArray:=(es.getD j (⟨#[]⟩,⟨0,0⟩)).1
def zN (es:eY Th) (j:Nat):Th:=(es.getD j (⟨#[]⟩,⟨0,0⟩)).2
theorem I8 {es:eY Th} (hj:j < es.length):es[j]?=some (eZ es j,zN es j):=by
  unfold eZ zN
  rw [List.getD_eq_getElem?_getD,List.getElem?_eq_getElem hj];rfl
theorem I9 {es:eY Th} (hj:j < es.length):(qv es)[j * 1+0]?=some (.string (eZ es j)):=by
  rw [Nat.mul_one,Nat.add_zero]
  unfold qv
  rw [List.getElem?_map,I8 hj];rfl
theorem TK (h:Inv0 S) {t:Th} (hl:Live S.idx t) (hj:j < (obj S.O t.k).ah.length):bI (eZ (obj S.O t.k).ah j)/\((∃ k,aT (eZ (obj S.O t.k).ah j) (obj S.O t.k).ah=some ⟨k,1⟩/\Live S.idx ⟨k,1⟩/\zN (obj S.O t.k).ah j=⟨k,1⟩)\/(∃ k,aT (eZ (obj S.O t.k).ah j) (obj S.O t.k).ah=some ⟨k,2⟩/\Live S.idx ⟨k,2⟩/\zN (obj S.O t.k).ah j=⟨k,2⟩)\/∃ k,aT (eZ (obj S.O t.k).ah j) (obj S.O t.k).ah=some ⟨k,3⟩/\Live S.idx ⟨k,3⟩/\zN (obj S.O t.k).ah j=⟨k,3⟩):=by
  have hm:=List.mem_of_getElem? (I8 hj)
  have h1:=h.ah t hl _ hm
  have h2:=xg (h.twice hl) hm
  refine⟨h1.1,?_⟩
  have h3:=h1.2
  generalize zN (obj S.O t.k).ah j=u at h2 h3 ⊢
  obtain⟨k,kd⟩:=u
  rcases (h.ob _ h3).2.2 with e|e|e<;>simp only at e<;>subst e
  ·exact .inl ⟨k,h2,h3,rfl⟩
  ·exact .inr (.inl ⟨k,h2,h3,rfl⟩)
  exact .inr (.inr ⟨k,h2,h3,rfl⟩)
theorem xH {O:bY} {es:eY Th} {kd:Int} (hj:j < es.length) (he:zN es j=⟨k,kd⟩):gJ ((es.take j).map (lH O))++[.string (eZ es j),.int .i64 (obj O k).id]=gJ ((es.take (j+1)).map (lH O)):=by
  rw [List.take_add_one,I8 hj,he,List.map_append]
  exact I7 (es:=(es.take j).map (lH O)) (e:=⟨eZ es j,(obj O k).id⟩)
end more
theorem qA.bytes {β β':Bs} {A:Option Addr} {n c:Nat} {d:List UInt8} (h:qA β [.abs (aH 5 1 A n c (bX d))] β'):bg β' A d:=by
  obtain⟨F,h1,h2⟩:=h.get 0 rfl
  exact cM.j9 h1 h2 rfl
end
section
open Go.RowKit
section order
variable {P:Program} {ops:Array Oper} {Q Q':Post} {n:Nat} {S:World->Prop}
inductive sD
  | one (i:Nat)
  | two (i j:Nat)
  | three (i k j:Nat)
  | perm (G:List Nat)
  | beside (c:List Nat) (j:Nat)
def Fa (P:Program) (ops:Array Oper) (Q:Post) (S:World->Prop) (K:Act->World->Prop):Nat->List Nat->Act->World->Prop
  | 0,_,a,w=>K a w
  | n+1,G,a,w=>∀ i∈G,wpOp P ops Q i (fun a' w'=>S w'/\Fa P ops Q S K n (G.erase i) a' w') a w
def D1 (ops:Array Oper) (f:Array Bool->Bool):Nat->List Nat->Array Bool->Bool
  | 0,_,listed=>f listed
  | n+1,G,listed=>(Region.ready .any ops listed == G) && !G.isEmpty && G.all (fun i=>D1 ops f n (G.erase i) (listed.setIfInBounds i true))
def D2 (P:Program) (ops:Array Oper) (Q:Post) (S:World->Prop) (K:Act->World->Prop):List Nat->Act->World->Prop
  | [],a,w=>K a w
  | i::c,a,w=>wpOp P ops Q i (fun a' w'=>S w'/\D2 P ops Q S K c a' w') a w
def vw (P:Program) (ops:Array Oper) (Q:Post) (S:World->Prop) (K:Act->World->Prop) (j:Nat):List Nat->Act->World->Prop
  | [],a,w=>wpOp P ops Q j (fun a' w'=>S w'/\K a' w') a w
  | i::c,a,w=>wpOp P ops Q i (fun a' w'=>S w'/\vw P ops Q S K j c a' w') a w/\wpOp P ops Q j (fun a' w'=>S w'/\D2 P ops Q S K (i::c) a' w') a w
def seqB (ops:Array Oper) (f:Array Bool->Bool):List Nat->Array Bool->Bool
  | [],listed=>f listed
  | i::c,listed=>(Region.ready .any ops listed == [i]) && seqB ops f c (listed.setIfInBounds i true)
def uH (ops:Array Oper) (f:Array Bool->Bool) (j:Nat):List Nat->Array Bool->Bool
  | [],listed=>(Region.ready .any ops listed == [j]) && f (listed.setIfInBounds j true)
  | i::c,listed=>(Region.ready .any ops listed == (if i < j then [i,j] else [j,i])) && uH ops f j c (listed.setIfInBounds i true) && seqB ops f (i::c) (listed.setIfInBounds j true)
def kY (P:Program) (ops:Array Oper) (Q:Post) (S:World->Prop):List sD->Act->World->Prop
  | [],a,w=>Q .normal a w
  | .one i::l,a,w=>wpOp P ops Q i (fun a' w'=>(l=[]\/S w')/\kY P ops Q S l a' w') a w
  | .two i j::l,a,w=>
    wpOp P ops Q i (fun a' w'=>S w'/\wpOp P ops Q j (fun a2 w2=>S w2/\kY P ops Q S l a2 w2) a' w') a w ∧
    wpOp P ops Q j (fun a' w'=>S w'/\wpOp P ops Q i (fun a2 w2=>S w2/\kY P ops Q S l a2 w2) a' w') a w
  | .three i k j::l,a,w=>
    wpOp P ops Q i (fun a1 w1=>S w1/\wpOp P ops Q k (fun a2 w2=>S w2/\wpOp P ops Q j (fun a3 w3=>S w3/\kY P ops Q S l a3 w3) a2 w2) a1 w1 ∧
      wpOp P ops Q j (fun a2 w2=>S w2/\wpOp P ops Q k (fun a3 w3=>S w3/\kY P ops Q S l a3 w3) a2 w2) a1 w1) a w ∧
    wpOp P ops Q j (fun a1 w1=>S w1/\wpOp P ops Q i (fun a2 w2=>S w2/\wpOp P ops Q k (fun a3 w3=>S w3/\kY P ops Q S l a3 w3) a2 w2) a1 w1) a w
  | .perm G::l,a,w=>Fa P ops Q S (kY P ops Q S l) G.length G a w
  | .beside c j::l,a,w=>vw P ops Q S (kY P ops Q S l) j c a w
def tP (ops:Array Oper) (n:Nat):List sD->Array Bool->Bool
  | [],listed=>(Region.ready .any ops listed).isEmpty
  | .one i::l,listed=>(Region.ready .any ops listed == [i]) && (!l.isEmpty || i == n) && tP ops n l (listed.setIfInBounds i true)
  | .two i j::l,listed=>(Region.ready .any ops listed == [i,j]) && (Region.ready .any ops (listed.setIfInBounds i true) == [j]) && (Region.ready .any ops (listed.setIfInBounds j true) == [i]) && decide (i≠j) && tP ops n l ((listed.setIfInBounds i true).setIfInBounds j true)
  | .three i k j::l,listed=>(Region.ready .any ops listed == [i,j]) && (Region.ready .any ops (listed.setIfInBounds i true) == [k,j]) && (Region.ready .any ops ((listed.setIfInBounds i true).setIfInBounds k true) == [j]) && (Region.ready .any ops ((listed.setIfInBounds i true).setIfInBounds j true) == [k]) &&
    (Region.ready .any ops (listed.setIfInBounds j true) == [i]) && decide (i≠j) && decide (k≠j) && tP ops n l (((listed.setIfInBounds i true).setIfInBounds k true).setIfInBounds j true)
  | .perm G::l,listed=>D1 ops (tP ops n l) G.length G listed
  | .beside c j::l,listed=>uH ops (tP ops n l) j c listed
def qG:List sD->Nat
  | []=>0
  | .one _::l=>qG l+1
  | .two _ _::l=>qG l+2
  | .three _ _ _::l=>qG l+3
  | .perm G::l=>qG l+G.length
  | .beside c _::l=>qG l+(c.length+1)
theorem Dm {m i:Nat} {listed:Array Bool} {a:Act} {w:World} (hr:Region.ready .any ops listed=[i]) (h:wpOp P ops (NP Q) i (fun a' w'=>S w'/\ic P ops (NP Q) n S m (listed.setIfInBounds i true) a' w') a w):ic P ops (NP Q) n S (m+1) listed a w:=by
  refine⟨fun h0=>(by rw [hr] at h0;cases h0),fun y hy=>?_⟩
  rw [hr] at hy
  have hy:y=i:=by simpa using hy
  subst hy
  exact wpOp_mono (fun a' w' h=>⟨.inr h.1,h.2⟩) h
theorem G5 {K:Act->World->Prop} {f:Array Bool->Bool} {m:Nat} (hK:∀ listed a w,f listed=true->K a w->ic P ops (NP Q) n S m listed a w):∀ (c:List Nat) (listed:Array Bool) (a:Act) (w:World),seqB ops f c listed=true->D2 P ops (NP Q) S K c a w->ic P ops (NP Q) n S (m+c.length) listed a w
  | [],listed,a,w,hb,h=>hK listed a w hb h
  | i::c,listed,a,w,hb,h=>by
    unfold seqB at hb
    simp only [Bool.and_eq_true,beq_iff_eq] at hb
    exact Dm hb.1 (wpOp_mono (fun a' w' g=>⟨g.1,G5 hK c _ a' w' hb.2 g.2⟩) h)
theorem Bk {K:Act->World->Prop} {f:Array Bool->Bool} {m j:Nat} (hK:∀ listed a w,f listed=true->K a w->ic P ops (NP Q) n S m listed a w):∀ (c:List Nat) (listed:Array Bool) (a:Act) (w:World),uH ops f j c listed=true->vw P ops (NP Q) S K j c a w->ic P ops (NP Q) n S (m+(c.length+1)) listed a w
  | [],listed,a,w,hb,h=>by
    unfold uH at hb
    simp only [Bool.and_eq_true,beq_iff_eq] at hb
    exact Dm hb.1 (wpOp_mono (fun a' w' g=>⟨g.1,hK _ a' w' hb.2 g.2⟩) h)
  | i::c,listed,a,w,hb,h=>by
    unfold uH at hb
    simp only [Bool.and_eq_true,beq_iff_eq] at hb
    obtain⟨⟨h1,h2⟩,h3⟩:=hb
    refine⟨fun h0=>(by rw [h1] at h0;split at h0<;>cases h0),fun y hy=>?_⟩
    rw [h1] at hy
    have hy:y=i\/y=j:=by
      split at hy
      ·simpa using hy
      have:y=j\/y=i:=by simpa using hy
      exact this.symm
    rcases hy with rfl|rfl
    ·exact wpOp_mono (fun a' w' g=>⟨.inr g.1,Bk hK c _ a' w' h2 g.2⟩) h.1
    exact wpOp_mono (fun a' w' g=>⟨.inr g.1,G5 hK (i::c) _ a' w' h3 g.2⟩) h.2
theorem Fb {K:Act->World->Prop} {f:Array Bool->Bool} {m:Nat} (hK:∀ listed a w,f listed=true->K a w->ic P ops (NP Q) n S m listed a w):∀ (k:Nat) (G:List Nat) (listed:Array Bool) (a:Act) (w:World),D1 ops f k G listed=true->Fa P ops (NP Q) S K k G a w->ic P ops (NP Q) n S (m+k) listed a w
  | 0,G,listed,a,w,hb,h=>hK listed a w hb h
  | k+1,G,listed,a,w,hb,h=>by
    unfold D1 at hb
    simp only [Bool.and_eq_true,beq_iff_eq] at hb
    obtain⟨⟨h1,h2⟩,h3⟩:=hb
    refine⟨fun h0=>(by rw [h1] at h0;rw [h0] at h2;cases h2),fun j hj=>?_⟩
    rw [h1] at hj
    exact wpOp_mono (fun a' w' g=>⟨.inr g.1,Fb hK k (G.erase j) _ a' w' (List.all_eq_true.1 h3 j hj) g.2⟩) (h j hj)
theorem mP:∀ (l:List sD) (listed:Array Bool) (a:Act) (w:World),tP ops n l listed=true->kY P ops (NP Q) S l a w->ic P ops (NP Q) n S (qG l) listed a w
  | [],listed,a,w,hb,h=>⟨List.isEmpty_iff.1 hb,h⟩
  | .one i::l,listed,a,w,hb,h=>by
    unfold tP at hb
    simp only [Bool.and_eq_true,beq_iff_eq] at hb
    obtain⟨⟨h1,h2⟩,h3⟩:=hb
    refine⟨fun h0=>(by rw [h1] at h0;cases h0),fun j hj=>?_⟩
    rw [h1] at hj
    have hj:j=i:=by simpa using hj
    subst hj
    refine wpOp_mono (fun a' w' h4=>⟨?_,mP l _ a' w' h3 h4.2⟩) h
    rcases h4.1 with h5|h5
    ·subst h5;exact .inl (by simpa using h2)
    exact .inr h5
  | .two i j::l,listed,a,w,hb,h=>by
    unfold tP at hb
    simp only [Bool.and_eq_true,beq_iff_eq,decide_eq_true_iff] at hb
    obtain⟨⟨⟨⟨h1,h2⟩,h3⟩,hij⟩,h4⟩:=hb
    refine⟨fun h0=>(by rw [h1] at h0;cases h0),fun k hk=>?_⟩
    rw [h1] at hk
    have hk:k=i\/k=j:=by simpa using hk
    rcases hk with rfl|rfl
    ·refine wpOp_mono (fun a' w' h5=>⟨.inr h5.1,fun h0=>(by rw [h2] at h0;cases h0),fun k' hk'=>?_⟩) h.1
     rw [h2] at hk'
     have hk':k'=j:=by simpa using hk'
     subst hk'
     exact wpOp_mono (fun a2 w2 h6=>⟨.inr h6.1,mP l _ a2 w2 h4 h6.2⟩) h5.2
    refine wpOp_mono (fun a' w' h5=>⟨.inr h5.1,fun h0=>(by rw [h3] at h0;cases h0),fun k' hk'=>?_⟩) h.2
    rw [h3] at hk'
    have hk':k'=i:=by simpa using hk'
    subst hk'
    refine wpOp_mono (fun a2 w2 h6=>⟨.inr h6.1,?_⟩) h5.2
    rw [Array.setIfInBounds_comm _ _ (fun e=>hij e.symm)]
    exact mP l _ a2 w2 h4 h6.2
  | .three i k j::l,listed,a,w,hb,h=>by
    unfold tP at hb
    simp only [Bool.and_eq_true,beq_iff_eq,decide_eq_true_iff] at hb
    obtain⟨⟨⟨⟨⟨⟨⟨h1,h2⟩,h3⟩,h4⟩,h5⟩,hij⟩,hkj⟩,h6⟩:=hb
    have one:∀ {x:Nat} {ls:Array Bool} {fuel:Nat} {a:Act} {w:World},Region.ready .any ops ls=[x]->wpOp P ops (NP Q) x (fun a' w'=>S w'/\ic P ops (NP Q) n S fuel (ls.setIfInBounds x true) a' w') a w->ic P ops (NP Q) n S (fuel+1) ls a w:=fun {x ls fuel a w} hr hx=>by
      refine⟨fun h0=>(by rw [hr] at h0;cases h0),fun y hy=>?_⟩
      rw [hr] at hy
      have hy:y=x:=by simpa using hy
      subst hy
      exact wpOp_mono (fun a' w' h=>⟨.inr h.1,h.2⟩) hx
    have e1:(((listed.setIfInBounds i true).setIfInBounds j true).setIfInBounds k true)=(((listed.setIfInBounds i true).setIfInBounds k true).setIfInBounds j true):=Array.setIfInBounds_comm _ _ (fun e=>hkj e.symm)
    have e2:((listed.setIfInBounds j true).setIfInBounds i true)=((listed.setIfInBounds i true).setIfInBounds j true):=Array.setIfInBounds_comm _ _ (fun e=>hij e.symm)
    refine⟨fun h0=>(by rw [h1] at h0;cases h0),fun x hx=>?_⟩
    rw [h1] at hx
    have hx:x=i\/x=j:=by simpa using hx
    rcases hx with rfl|rfl
    ·refine wpOp_mono (fun a1 w1 g=>⟨.inr g.1,fun h0=>(by rw [h2] at h0;cases h0),fun y hy=>?_⟩) h.1
     rw [h2] at hy
     have hy:y=k\/y=j:=by simpa using hy
     rcases hy with rfl|rfl
     ·exact wpOp_mono (fun a2 w2 g2=>⟨.inr g2.1,one h3 (wpOp_mono (fun a3 w3 g3=>⟨g3.1,mP l _ a3 w3 h6 g3.2⟩) g2.2)⟩) g.2.1
     exact wpOp_mono (fun a2 w2 g2=>⟨.inr g2.1,one h4 (wpOp_mono (fun a3 w3 g3=>⟨g3.1,by rw [e1];exact mP l _ a3 w3 h6 g3.2⟩) g2.2)⟩) g.2.2
    refine wpOp_mono (fun a1 w1 g=>⟨.inr g.1,one h5 (wpOp_mono (fun a2 w2 g2=>⟨g2.1,?_⟩) g.2)⟩) h.2
    rw [e2]
    exact one h4 (wpOp_mono (fun a3 w3 g3=>⟨g3.1,by rw [e1];exact mP l _ a3 w3 h6 g3.2⟩) g2.2)
  | .perm G::l,listed,a,w,hb,h=>Fb (m:=qG l) (fun ls a w hb h=>mP l ls a w hb h) G.length G listed a w hb h
  | .beside c j::l,listed,a,w,hb,h=>Bk (m:=qG l) (fun ls a w hb h=>mP l ls a w hb h) c listed a w hb h
def oK (P:Program) (ops:Array Oper) (Q:Post) (S:World->Prop) (es:List sD):List Nat->Act->World->Prop
  | [],a,w=>kY P ops Q S es a w
  | i::l,a,w=>∃ o v,ops[i]?=some o/\YieldsIf P ops S o v a/\oK P ops Q S es l (a.put o.dst v) w
def D3 (ops:Array Oper) (n:Nat) (es:List sD):List Nat->Array Bool->Bool
  | [],listed=>tP ops n es listed
  | i::l,listed=>decide (i < n) && Region.free .any ops listed i && (Region.ready .any ops listed).contains i && D3 ops n es l (listed.setIfInBounds i true)
theorem Fc {es:List sD} (hsel:Region.noSelect ops=true) (oA:Region.sinkB .any ops n=true):∀ (l:List Nat) (listed:Array Bool) (a:Act) (w:World),D3 ops n es l listed=true->Closed ops listed->S w->oK P ops (NP Q) S es l a w->ic P ops (NP Q) n S (l.length+qG es) listed a w
  | [],listed,a,w,hb,_,_,h=>by
    rw [List.length_nil,Nat.zero_add]
    exact mP es listed a w hb h
  | i::l,listed,a,w,hb,hc,hS,h=>by
    unfold D3 at hb
    simp only [Bool.and_eq_true,decide_eq_true_iff] at hb
    obtain⟨⟨⟨h1,h2⟩,h3⟩,h4⟩:=hb
    obtain⟨o,v,ho,hy,hk⟩:=h
    have hr:i∈Region.ready .any ops listed:=by simpa using h3
    have e:(i::l).length+qG es=(l.length+qG es)+1:=by rw [List.length_cons];omega
    rw [e]
    exact rU ho hsel oA h1 _ listed a w hc (Region.free_spec ho h2) hr hy hS (Fc hsel oA l _ _ w h4 (hc.set hr) hS hk)
def G6 (ops:Array Oper) (rs:List Nat) (es:List sD):Bool:=
  Region.noSelect ops && Region.sinkB .any ops (ops.size - 1) && (rs.length+qG es == ops.size) && D3 ops (ops.size - 1) es rs (Array.replicate ops.size false)
end order
section mix
variable {P:Program} {β:Bs} {N:Nat} {ops:Array Oper} {S:List HP} {rs:List Nat} {es:List sD} {fr fr':Fr} {hps:List HP} {Q:Post} {bA:List Prop} {i j:Nat}
def iE (P:Program) (β:Bs) (N:Nat) (ops:Array Oper) (S:List HP) (es:List sD) (rs:List Nat) (fr:Fr) (hps:List HP) (Q:Post):Prop:=
  ∀ junk w,Sat β hps w->oK P ops (NP Q) (Sat β S) es rs (bW N fr junk) w
theorem af.rE {id:Nat} (rs:List Nat) (es:List sD) (pk:List Nat) (hm:P.follows .mixedOrders=true) (hB:G6 ops rs es=true) (hn:bq pk=true) (hp:bT hps pk=some S) (h:iE P β N ops S es rs fr hps Q):af P β N (.region id ops true) fr hps Q:=by
  intro junk w hS
  unfold G6 at hB
  simp only [Bool.and_eq_true,beq_iff_eq] at hB
  obtain⟨⟨⟨h1,h2⟩,h3⟩,h4⟩:=hB
  have dg:=hS.drewN 1
  have h5:=Fc (Q:=Q) h1 h2 rs _ _ _ h4 (fun j oj _ hl=>by simp [Array.getD_eq_getD_getElem?,Array.getElem?_replicate] at hl;split at hl<;>simp at hl) (dg.pick hn hp) (h junk (w.drewN 1) dg)
  rw [h3] at h5
  refine Code.wp_mono (fun e a w q=>?_) (wp_region_any hm (oz _ _ _ _ h5))
  cases e with
  | normal=>exact q
  | exit id=>exact q.elim
  | goto l=>exact q.elim
  | ret=>exact q.elim
  | panic ch=>exact q.elim
  | outgrown=>exact q.elim
theorem vW {junk:Nat->Value} {w:World}:∀ {hs:List OH} {is:List Nat} {fr fr':Fr} {T T':SS},qf P β N junk ops hs is fr T=some (fr',T')->(∀ p,p∈T'.bA->p)->T.used=true->T.hps=S →
    oK P ops (NP Q) (Sat β S) es rs (bW N fr' junk) w->oK P ops (NP Q) (Sat β S) es (is++rs) (bW N fr junk) w
  | [],[],fr,fr',T,T',h,ho,hu,hT,hK=>by cases h;exact hK
  | h::hs,i::is,fr,fr',T,T',hr,ho,hu,hT,hK=>by
    unfold qf at hr
    repeat' split at hr
    all_goals first|(cases hr;done)|skip
    rename_i o hget _ Ed _ v T1 h0 _ hv
    obtain⟨e1,e2⟩:=rH h0
    rw [List.cons_append]
    unfold oK
    refine⟨o,v,hget,.inl ⟨by unfold Region.wanted;rw [Ed],fun w' dg=>?_⟩,?_⟩
    ·rw [d9]
     obtain⟨w2,h1,_,_,h4⟩:=kI h0 (fun p hp=>ho p (uT hr p hp)) (by rw [hT];exact dg) (fun e=>by rw [hu] at e;cases e)
     obtain⟨ew,_⟩:=h4 rfl
     rw [ew] at h1
     rcases h1 with h1|⟨h1,_⟩
     ·exact h1
     exact absurd h1 (qd hv)
    rw [dP]
    exact vW hr ho (e2.trans hu) (e1.trans hT) hK
  | [],_::_,_,_,_,_,h,_,_,_,_=>by cases h
  | _::_,[],_,_,_,_,h,_,_,_,_=>by cases h
theorem iE.reads (is:List Nat) (hs:List OH) (idx:List Nat) (h:∀ junk,rI P β N junk ops hs is fr S idx=some (fr',bA)) (ho:jW bA) (K:iE P β N ops S es rs fr' hps Q):iE P β N ops S es (is++rs) fr hps Q:=by
  intro junk w hS
  have h0:=h junk
  unfold rI at h0
  split at h0
  ·rename_i kF S1 h1
   cases h0
   have hK:=K (lk kF junk) w hS
   rw [← jd] at hK
   exact vW h1 (fun p hp=>ho.mem hp) rfl rfl hK
  cases h0
theorem gP (mR:Fr) (is:List Nat) (os:List (Nat×OP)) (K:iE P β N ops S es [] mR hps Q)
    (h:∀ junk,rI P β N junk ops (jf (gD is.length os 0)) is fr S (bU mR)=some (mR,owed (gD is.length os 0)):=by intro _;kernel_rfl):iE P β N ops S es (is++[]) fr hps Q:=
  iE.reads is (jf (gD is.length os 0)) (bU mR) h (nL _) K
theorem iE.pair {ι Qn Qo:Type} {Ku:Qn->Fr} {hpi:Qn->List HP} {Kv:Qo->Fr} {Kw:Qo->List HP} {fr':ι->Fr} {hp':ι->List HP} {oi oj:Oper} (Sy Sz pk:List Nat)
    (hi:ops[i]?=some oi) (hgi:oi.guard=none) (hj:ops[j]?=some oj) (SB:oj.guard=none)
    (h1:aj P β N #[oi] 0 fr hps (NP (ni β N Ku hpi))) (h2:∀ a,aj P β N #[oj] 0 (Ku a) (hpi a) (NP (ni β N fr' hp')))
    (h3:aj P β N #[oj] 0 fr hps (NP (ni β N Kv Kw))) (h4:∀ a,aj P β N #[oi] 0 (Kv a) (Kw a) (NP (ni β N fr' hp')))
    (hni:bq Sy=true) (TL:∀ a,bT (hpi a) Sy=some S) (UC:bq Sz=true) (TM:∀ a,bT (Kw a) Sz=some S) (hn:bq pk=true) (hp:∀ a,bT (hp' a) pk=some S)
    (K:∀ a,iE P β N ops S es [] (fr' a) (hp' a) Q):iE P β N ops S (.two i j::es) [] fr hps Q:=by
  intro junk w hS
  unfold oK kY
  refine⟨gA hi hgi (jr (fun a w ⟨x,fI,ha,dg⟩=>?_) (show wpList P #[oi] (NP (ni β N Ku hpi)) [oi] (bW N fr junk) w from h1 junk w hS)),gA hj SB (jr (fun a w ⟨x,fI,ha,dg⟩=>?_) (show wpList P #[oj] (NP (ni β N Kv Kw)) [oj] (bW N fr junk) w from h3 junk w hS))⟩
  ·subst ha
   refine⟨dg.pick hni (TL x),gA hj SB (jr (fun a w ⟨y,vz,ha,uf⟩=>?_) (show wpList P #[oj] (NP (ni β N fr' hp')) [oj] (bW N (Ku x) fI) w from h2 x fI w dg))⟩
   subst ha
   exact⟨uf.pick hn (hp y),K y vz _ uf⟩
  subst ha
  refine⟨dg.pick UC (TM x),gA hi hgi (jr (fun a w ⟨y,vz,ha,uf⟩=>?_) (show wpList P #[oi] (NP (ni β N fr' hp')) [oi] (bW N (Kv x) fI) w from h4 x fI w dg))⟩
  subst ha
  exact⟨uf.pick hn (hp y),K y vz _ uf⟩
theorem iE.cut {ι:Type} {fr':ι->Fr} {hp':ι->List HP} {o:Oper} (pk:List Nat) (hop:ops[i]?=some o) (hg:o.guard=none) (h:aj P β N #[o] 0 fr hps (NP (ni β N fr' hp'))) (hn:bq pk=true) (hp:∀ j,bT (hp' j) pk=some S)
    (K:∀ j,iE P β N ops S es [] (fr' j) (hp' j) Q):iE P β N ops S (.one i::es) [] fr hps Q:=by
  intro junk w hS
  unfold oK kY
  refine gA hop hg (jr (fun a w ⟨j,fI,ha,dg⟩=>?_) (show wpList P #[o] (NP (ni β N fr' hp')) [o] (bW N fr junk) w from h junk w hS))
  subst ha
  exact⟨.inr (dg.pick hn (hp j)),K j fI _ dg⟩
theorem Sat.left {a b:List HP} {w:World} (h:Sat β (a++b) w):Sat β a w:=by
  obtain⟨h0,φ,h1,h2,h3⟩:=h
  have hlen:a.length<=(a++b).length:=by simp
  exact⟨h0,φ,fun i p hp=>h1 i p (by rw [List.getElem?_append_left (bw hp)];exact hp),fun i hi=>h2 i (by omega),fun i j hi hj=>h3 i j (by omega) (by omega)⟩
def kz (P:Program) (β:Bs) (N:Nat) (ops:Array Oper) (Q:Post) (i d:Nat) (ds:List Nat) (fr:Fr) (pre:List HP) (post:Value->List HP->Prop):Prop:=
  ∀ junk w (A:cu),Sat β (pre++[.abs A]) w->wpOp P ops (NP Q) i (fun a' w'=>∃ v l fI,post v l/\a'=bW N fr fI/\fI d=v/\(∀ t∈ds,t≠d->fI t=junk t)/\Sat β (l++[.abs A]) w') (bW N fr junk) w
def cX (mT:List Nat) (u:Nat->Value):Fr:=mT.map fun t=>(t,u t)
theorem xI {mT:List Nat} {u:Nat->Value}:bU (cX mT u)=mT:=by
  induction mT with
  | nil=>rfl
  | cons a r ih=>exact congrArg (a::·) ih
theorem Kx {mT:List Nat} {u junk:Nat->Value} {t:Nat} (h:t∈mT):lk (cX mT u) junk t=u t:=by
  induction mT with
  | nil=>cases h
  | cons a r ih=>
    show lk ((a,u a)::cX r u) junk t=_
    rw [fN]
    by_cases e:a=t
    ·rw [if_pos e,e]
    rw [if_neg e]
    rcases List.mem_cons.1 h with h|h
    ·exact absurd h.symm e
    exact ih h
theorem oq {fr mR:Fr} {junk vz:Nat->Value} (h:∀ t,lk fr junk t=lk mR vz t):bW N fr junk=bW N mR vz:=by
  unfold bW
  rw [show lk fr junk=lk mR vz from funext h]
theorem kz.of {ι:Type} {v:ι->Value} {l:ι->List HP} {o:Oper} {d:Nat} {pre:List HP} (mT:List Nat) (hop:ops[i]?=some o) (hg:o.guard=none) (TN:(d::mT).all (fun t=>!jP t (bU fr))=true) (hd:jP d mT=false)
    (h:∀ (u:Nat->Value) (A:cu),aj P β N #[o] 0 (cX mT u++fr) (pre++[.abs A]) (NP (ni β N (fun x=>(d,v x)::(cX mT u++fr)) (fun x=>l x++[.abs A])))):kz P β N ops Q i d (d::mT) fr pre (fun v' l'=>∃ x,v'=v x/\l'=l x):=by
  intro junk w A hS
  have hout:∀ t∈d::mT,t∉bU fr:=fun t ht hm=>by
    have h1:=List.all_eq_true.1 TN t ht
    rw [jg.2 hm] at h1;cases h1
  have VR:d∉mT:=fun hm=>by rw [jg.2 hm] at hd;cases hd
  have e1:bW N fr junk=bW N (cX mT junk++fr) junk:=oq fun t=>by
    rw [wF,xI]
    by_cases ht:t∈mT
    ·rw [if_pos ht,Kx ht,lf (hout t (List.mem_cons_of_mem _ ht))]
    rw [if_neg ht]
  rw [e1]
  refine gA hop hg (jr (fun a w ⟨x,RS,ha,dg⟩=>?_) (show wpList P #[o] (NP (ni β N _ _)) [o] (bW N (cX mT junk++fr) junk) w from h junk A junk w hS))
  refine⟨v x,l x,lk ((d,v x)::(cX mT junk++fr)) RS,⟨x,rfl,rfl⟩,?_,by rw [fN,if_pos rfl],fun t ht hn=>?_,dg⟩
  ·rw [ha]
   refine oq fun t=>?_
   by_cases ht:t∈bU fr
   ·have h1:¬ d=t:=fun e=>hout d List.mem_cons_self (e ▸ ht)
    have h2:t∉mT:=fun hm=>hout t (List.mem_cons_of_mem _ hm) ht
    rw [fN,if_neg h1,wF,xI,if_neg h2]
    exact DU ht
   rw [lf ht]
  rw [fN,if_neg (fun e=>hn e.symm),wF,xI,if_pos ((List.mem_cons.1 ht).resolve_left hn),Kx ((List.mem_cons.1 ht).resolve_left hn)]
theorem kz.at_ {d:Nat} {ds:List Nat} {pre X Y:List HP} {post:Value->List HP->Prop} {junk:Nat->Value} {w:World} {K:Act->World->Prop} (h:kz P β N ops Q i d ds fr pre post) (hS:Sat β (X++(pre++Y)) w)
    (hK:∀ v l fI w',post v l->fI d=v->(∀ t∈ds,t≠d->fI t=junk t)->Sat β (X++(l++Y)) w'->K (bW N fr fI) w'):wpOp P ops (NP Q) i K (bW N fr junk) w:=by
  have h1:=Sat.turn hS
  rw [List.append_assoc] at h1
  refine wpOp_mono (fun a' w' ⟨v,l,j2,g1,g2,g3,g4,g5⟩=>?_) (h junk w _ h1.fM)
  rw [g2]
  refine hK v l j2 w' g1 g3 g4 ?_
  have h2:=g5.p8
  rw [← List.append_assoc] at h2
  exact Sat.turn h2
theorem kz.grow {d d1:Nat} {ds:List Nat} {pre:List HP} {q:Value->List HP->Prop} (h:kz P β N ops Q i d (d::d1::ds) fr pre q) (h1:d1∉bU fr) (hd:d1≠d) (hn:d1∉ds) (v1:Value):kz P β N ops Q i d (d::ds) ((d1,v1)::fr) pre q:=by
  intro junk w A hS
  have e:bW N ((d1,v1)::fr) junk=bW N fr (fun t=>if t=d1 then v1 else junk t):=oq fun t=>by
    rw [fN]
    by_cases e1:d1=t
    ·subst e1;rw [if_pos rfl,lf h1,if_pos rfl]
    rw [if_neg e1]
    by_cases ht:t∈bU fr
    ·exact DU ht
    rw [lf ht,lf ht,if_neg (fun e=>e1 e.symm)]
  rw [e]
  refine wpOp_mono (fun a' w' ⟨v,l,j2,g1,g2,g3,g4,g5⟩=>?_) (h _ w A hS)
  have k1:j2 d1=v1:=(g4 d1 (by simp) hd).trans (if_pos rfl)
  refine⟨v,l,j2,g1,?_,g3,fun t ht hne=>?_,g5⟩
  ·rw [g2]
   refine oq fun t=>?_
   rw [fN]
   by_cases e1:d1=t
   ·subst e1;rw [if_pos rfl,lf h1,k1]
   rw [if_neg e1]
  have h2:t≠d1:=fun e=>by
    subst e
    rcases List.mem_cons.1 ht with e|e
    ·exact hd e
    exact hn e
  refine (g4 t ?_ hne).trans (if_neg h2)
  rcases List.mem_cons.1 ht with e|e
  ·exact absurd e hne
  exact List.mem_cons_of_mem _ (List.mem_cons_of_mem _ e)
def kA (P:Program) (β:Bs) (N:Nat) (ops:Array Oper) (Q:Post) (dj:Nat):List (Nat×Nat)->Fr->List HP->(Fr->List HP->Prop)->Prop
  | [],fr,hps,R=>R fr hps
  | (i,d)::c,fr,hps,R=>(jP d (bU fr)=false/\d≠dj)/\∃ q:Value->List HP->Prop,kz P β N ops Q i d [d,dj] fr hps q/\∀ v l,q v l->kA P β N ops Q dj c ((d,v)::fr) l R
theorem kA.step {dj d:Nat} {c:List (Nat×Nat)} {R:Fr->List HP->Prop} {q:Value->List HP->Prop} (h:kz P β N ops Q i d [d,dj] fr hps q) (h1:(!jP d (bU fr) && decide (d≠dj))=true) (K:∀ v l,q v l->kA P β N ops Q dj c ((d,v)::fr) l R):kA P β N ops Q dj ((i,d)::c) fr hps R:=by
  simp only [Bool.and_eq_true,Bool.not_eq_true',decide_eq_true_iff] at h1
  exact⟨h1,q,h,K⟩
section UD
variable {dj:Nat} {Z pj:List HP} {qj:Value->List HP->Prop} {R:Fr->List HP->Prop} {pS:List Nat} {F:Act->World->Prop}
theorem Sat.rest {X:List HP} {w:World} (vX:bq pS=true) (vY:bT Z pS=some S) (h:Sat β (X++Z) w):Sat β S w:=Sat.pick (idx:=pS) (l:=Z) (Sat.left (Sat.turn h)) vX vY
theorem Dn {v:Value} {l2:List HP} (vX:bq pS=true) (vY:bT Z pS=some S) (hK:∀ f1 h1,R f1 h1->∀ junk w,Sat β (h1++(l2++Z)) w->F (bW N ((dj,v)::f1) junk) w) :
    ∀ (c:List (Nat×Nat)) (fr:Fr) (hps:List HP) (junk:Nat->Value) (w:World),jP dj (bU fr)=false->kA P β N ops Q dj c fr hps R->junk dj=v->Sat β (hps++(l2++Z)) w->D2 P ops (NP Q) (Sat β S) F (c.map (·.1)) (bW N fr junk) w
  | [],fr,hps,junk,w,hdj,hc,hv,hS=>by
    have e:bW N fr junk=bW N ((dj,v)::fr) junk:=oq fun t=>by
      rw [fN]
      by_cases e1:dj=t
      ·subst e1;rw [if_pos rfl,lf (fun hm=>by rw [jg.2 hm] at hdj;cases hdj),hv]
      rw [if_neg e1]
    show F (bW N fr junk) w
    rw [e]
    exact hK fr hps hc junk w hS
  | (i,d)::c,fr,hps,junk,w,hdj,⟨⟨h1,h2⟩,q,h3,h4⟩,hv,hS=>by
    show wpOp P ops (NP Q) i _ _ _
    refine h3.at_ (X:=[]) hS (fun v' l j2 w' g1 g2 g3 g4=>⟨Sat.rest (X:=l++l2) vX vY (by rw [List.append_assoc];exact g4),?_⟩)
    have e:bW N fr j2=bW N ((d,v')::fr) j2:=oq fun t=>by
      rw [fN]
      by_cases e1:d=t
      ·subst e1;rw [if_pos rfl,lf (fun hm=>by rw [jg.2 hm] at h1;cases h1),g2]
      rw [if_neg e1]
    rw [e]
    refine Dn vX vY hK c _ l j2 w' ?_ (h4 v' l g1) ((g3 dj (by simp) (fun e=>h2 e.symm)).trans hv) g4
    cases hb:jP dj (bU ((d,v')::fr)) with
    | false=>rfl
    | true=>
      rcases List.mem_cons.1 (jg.1 hb) with e|e
      ·exact absurd e.symm h2
      rw [jg.2 e] at hdj;cases hdj
theorem Dp {j:Nat} (vX:bq pS=true) (vY:bT Z pS=some S) (hK:∀ f1 h1,R f1 h1->∀ v l2,qj v l2->∀ junk w,Sat β (h1++(l2++Z)) w->F (bW N ((dj,v)::f1) junk) w) :
    ∀ (c:List (Nat×Nat)) (fr:Fr) (hps:List HP) (junk:Nat->Value) (w:World),bq (c.map (·.2))=true->jP dj (bU fr)=false->kz P β N ops Q j dj (dj::c.map (·.2)) fr pj qj->kA P β N ops Q dj c fr hps R->Sat β (hps++(pj++Z)) w->vw P ops (NP Q) (Sat β S) F j (c.map (·.1)) (bW N fr junk) w
  | [],fr,hps,junk,w,_,hdj,hj,hc,hS=>by
    show wpOp P ops (NP Q) j _ _ _
    refine hj.at_ (X:=hps) hS (fun v l j2 w' g1 g2 g3 g4=>⟨Sat.rest (X:=hps++l) vX vY (by rw [List.append_assoc];exact g4),?_⟩)
    have e:bW N fr j2=bW N ((dj,v)::fr) j2:=oq fun t=>by
      rw [fN]
      by_cases e1:dj=t
      ·subst e1;rw [if_pos rfl,lf (fun hm=>by rw [jg.2 hm] at hdj;cases hdj),g2]
      rw [if_neg e1]
    rw [e]
    exact hK fr hps hc v l g1 j2 w' g4
  | (i,d)::c,fr,hps,junk,w,hnd,hdj,hj,hc,hS=>by
    obtain⟨⟨h1,h2⟩,q,h3,h4⟩:=hc
    have hout:d∉bU fr:=fun hm=>by rw [jg.2 hm] at h1;cases h1
    refine⟨h3.at_ (X:=[]) hS (fun v' l j2 w' g1 g2 g3 g4=>⟨Sat.rest (X:=l++pj) vX vY (by rw [List.append_assoc];exact g4),?_⟩),hj.at_ (X:=hps) hS (fun v l j2 w' g1 g2 g3 g4=>⟨Sat.rest (X:=hps++l) vX vY (by rw [List.append_assoc];exact g4),?_⟩)⟩
    ·have e:bW N fr j2=bW N ((d,v')::fr) j2:=oq fun t=>by
       rw [fN]
       by_cases e1:d=t
       ·subst e1;rw [if_pos rfl,lf hout,g2]
       rw [if_neg e1]
     rw [e]
     have Qp:d∉c.map (·.2)/\bq (c.map (·.2))=true:=by
       have hx:bq (d::c.map (·.2))=true:=hnd
       unfold bq at hx
       simp only [Bool.and_eq_true] at hx
       exact⟨fun hm=>by have h:=hx.1;simp_all,hx.2⟩
     refine Dp vX vY hK c _ l j2 w' Qp.2 ?_ (hj.grow hout h2 Qp.1 v') (h4 v' l g1) g4
     cases hb:jP dj (bU ((d,v')::fr)) with
     | false=>rfl
     | true=>
       rcases List.mem_cons.1 (jg.1 hb) with e|e
       ·exact absurd e.symm h2
       rw [jg.2 e] at hdj;cases hdj
    exact Dn vX vY (fun f1 h1 hr=>hK f1 h1 hr v l g1) ((i,d)::c) fr hps j2 w' hdj ⟨⟨h1,h2⟩,q,h3,h4⟩ g2 g4
theorem iE.beside {j:Nat} {pc:List HP} (pk pS:List Nat) (c:List (Nat×Nat)) (hn:bq pk=true) (hp:bT hps pk=some (pc++(pj++Z))) (vX:bq pS=true) (vY:bT Z pS=some S) (hnd:bq (c.map (·.2))=true) (hdj:jP dj (bU fr)=false)
    (hj:kz P β N ops Q j dj (dj::c.map (·.2)) fr pj qj) (hc:kA P β N ops Q dj c fr pc R)
    (K:∀ f1 h1,R f1 h1->∀ v l,qj v l->iE P β N ops S es [] ((dj,v)::f1) (h1++(l++Z)) Q):iE P β N ops S (.beside (c.map (·.1)) j::es) [] fr hps Q:=by
  intro junk w hS
  exact Dp (F:=kY P ops (NP Q) (Sat β S) es) vX vY (fun f1 h1 hr v l2 hv junk w hS=>K f1 h1 hr v l2 hv junk w hS) c fr pc junk w hnd hdj hj hc (hS.pick hn hp)
end UD
theorem iE.last {o:Oper} (hop:ops[i]?=some o) (hg:o.guard=none) (h:aj P β N #[o] 0 fr hps (NP Q)):iE P β N ops S [.one i] [] fr hps Q:=by
  intro junk w hS
  unfold oK kY
  exact gA hop hg (jr (fun a w hq=>⟨.inl rfl,by unfold kY;exact hq⟩) (show wpList P #[o] (NP Q) [o] (bW N fr junk) w from h junk w hS))
end mix
end
section
open Go.RowKit Go.Maps bG aE
attribute [local irreducible] aj aP af ai
abbrev G7 (B)(d:List UInt8) (cap):=(.abs (aH 5 1 B d.length cap (bX d)):HP)
abbrev SC (b5:Nat) (An:Option Addr) (i:Nat) (cn:Nat):=(.blk b5 [.slice An (i) (cn)] 24:HP)
abbrev SD (An:Option Addr) (i:Nat) (cn:Nat) (K) (S:aG):=(.abs (aH 70 10 An i cn (dr K ((aS S).take i))):HP)
abbrev SE (S:aG) (i:Nat) (K):=(.abs (jk (kW ((aS S).take i) K) i):HP)
abbrev SF (S:aG) (i:Nat) (K):=(.abs (jk (kX ((aS S).take i) K) i):HP)
abbrev SG (A7:Option Addr) (S:aG) (c8:Nat):=(.abs (aH 3 1 A7 ((keys S.idx).length) c8 (ints (keys S.idx))):HP)
abbrev SH (b4:Nat):=(.blk b4 [.slice none (0) (0)] 24:HP)
abbrev Qq (b9:Nat):=(.blk b9 [vI 0,vI 0,vI 0,vI 0,vI 0,vI 0,vI 0,.slice none (0) (0),.string ⟨#[]⟩,.slice none (0) (0)] 70:HP)
abbrev SI (b9:Nat) (S:aG) (i:Nat) (tk:Nat):=(.blk b9 [vI ((cL S i)),vI 1,vI ((obj S.O tk).mode),vI ((obj S.O tk).uid),vI ((obj S.O tk).gid),vI ((obj S.O tk).sec),vI ((obj S.O tk).nano),.slice none (0) (0),.string ⟨#[]⟩,.slice none (0) (0)] 70:HP)
abbrev Qr (S:aG) (L:HL) (tk:Nat):=(.abs (ax (jY (bV S.O L) tk cu.none)):HP)
abbrev Fe (L:HL) (tk:Nat) (S:aG):=(.abs (aJ Tryz.prog 9 (L.m tk) (iD L (obj S.O tk).ah) ((obj S.O tk).ah.length)):HP)
abbrev jm (b15:Nat) (S:aG) (i:Nat) (tk:Nat) (Ae:Option Addr) (j:Nat) (ce:Nat):=(.blk b15 [vI ((cL S i)),vI 2,vI ((obj S.O tk).mode),vI ((obj S.O tk).uid),vI ((obj S.O tk).gid),vI ((obj S.O tk).sec),vI ((obj S.O tk).nano),.slice none (0) (0),.string ⟨#[]⟩,.slice Ae (j) (ce)] 70:HP)
abbrev nR (Ae:Option Addr) (j:Nat) (ce:Nat) (S:aG) (tk:Nat):=(.abs (aH 140 2 Ae j ce (gJ (((obj S.O tk).ah.take j).map (lH S.O)))):HP)
abbrev Qs (b16:Nat) (L:HL) (tk:Nat):=(.blk b16 [.map (some (L.m tk))] 136:HP)
abbrev Qt (dO:Option Addr) (S:aG) (tk:Nat) (eV:Nat):=(.abs (aH 9 1 dO ((obj S.O tk).ah.length) eV (qv (obj S.O tk).ah)):HP)
abbrev CI (nj:Option Addr) (j:Nat) (nk:Nat) (S:aG) (tk:Nat):=(.abs (aH 140 2 nj (j+1) nk (gJ (((obj S.O tk).ah.take (j+1)).map (lH S.O)))):HP)
abbrev CJ (b19:Nat) (S:aG) (tk:Nat) (j:Nat) (ek:Nat):=(.blk b19 [.string (eZ (obj S.O tk).ah j),vI ((obj S.O ek).id)] 140:HP)
abbrev lJ (f:Nat) (b4:Nat) (b5:Nat) (b15:Nat) (L:HL) (tk:Nat) (A7:Option Addr) (S:aG) (c8:Nat) (i:Nat) (dO:Option Addr) (eV:Nat) (j:Nat):=([(0,vP f),(2,vP b4),(3,vP b5),(8,vP b15),(11,vP (L.b tk)),(19,.slice A7 ((keys S.idx).length) (c8)),(20,vI ↑((keys S.idx).length)),(21,vI ↑i),(79,.slice dO ((obj S.O tk).ah.length) (eV)),(80,vI ↑((obj S.O tk).ah.length)),(81,vI ↑j)]:Fr)
abbrev kB (L:HL) (tk:Nat) (S:aG) (b16:Nat) (dO:Option Addr) (eV:Nat) (b5:Nat) (An:Option Addr) (i:Nat) (cn:Nat) (K) (A7:Option Addr) (c8:Nat) (b4:Nat) (f:Nat) (m:Nat) (t) (R:cu):=([Fe L tk S,Qs b16 L tk,Qt dO S tk eV,SC b5 An i cn,SD An i cn K S,SE S i K,SF S i K,SG A7 S c8,SH b4,pF f m t S.X,pI m L S.idx,pO S.O L,pD S.O L,Qr S L tk,.abs R]:List HP)
abbrev Ff (f:Nat) (b4:Nat) (b5:Nat) (b15:Nat) (L:HL) (tk:Nat) (A7:Option Addr) (S:aG) (c8:Nat) (i:Nat) (dO:Option Addr) (eV:Nat) (j:Nat):=([(0,vP f),(2,vP b4),(3,vP b5),(8,vP b15),(11,vP (L.b tk)),(19,.slice A7 ((keys S.idx).length) (c8)),(20,vI ↑((keys S.idx).length)),(21,vI ↑i),(79,.slice dO ((obj S.O tk).ah.length) (eV)),(80,vI ↑((obj S.O tk).ah.length)),(81,vI ↑j)]:Fr)
abbrev CK (S:aG) (tk:Nat):=([(39,vI ((obj S.O tk).mode)),(43,vI ((obj S.O tk).uid)),(47,vI ((obj S.O tk).gid)),(51,.agg #[vI ((obj S.O tk).sec),vI ((obj S.O tk).nano)])]:Fr)
abbrev xJ (f:Nat) (b4:Nat) (b5:Nat):=([(0,vP f),(2,vP b4),(3,vP b5)]:Fr)
abbrev xK (A7:Option Addr) (S:aG) (c8:Nat) (i:Nat):=([(19,.slice A7 ((keys S.idx).length) (c8)),(20,vI ↑((keys S.idx).length)),(21,vI ↑i)]:Fr)
abbrev vA (b5:Nat) (An:Option Addr) (i:Nat) (cn:Nat) (K) (S:aG) (A7:Option Addr) (c8:Nat) (b4:Nat) (f:Nat) (m:Nat) (t) (L:HL):=([SC b5 An i cn,SD An i cn K S,SE S i K,SF S i K,SG A7 S c8,SH b4,pF f m t S.X,pI m L S.idx,pO S.O L]:List HP)
abbrev qH (Ae:Option Addr) (j:Nat) (ce:Nat) (S:aG) (tk:Nat):=([(86,.slice Ae (j) (ce)),(87,.string (eZ (obj S.O tk).ah j))]:Fr)
abbrev Mu (S:aG) (tk:Nat):=([(2,vI ((obj S.O tk).mode)),(3,vI ((obj S.O tk).uid)),(4,vI ((obj S.O tk).gid)),(5,vI ((obj S.O tk).sec)),(6,vI ((obj S.O tk).nano))]:Fr)
theorem CM {β:Bs} (c:Nat):Spec Tryz.prog β 58 #[.slice none 0 c] [] (fun v l=>∃ B cap,v=.slice B 0 cap/\l=[.abs (aH 5 1 B 0 cap [])]):=by
 refine Spec.enter Tryz.func58 rfl Tryz.ntmps58 (Nat.le_of_ble_eq_true rfl) (fun R=>?_)
 refine SR (gK 1 [] [] ?_)
 refine NN (af.seq (SR (gK 2 [(4,.bool true)] [] ?_)))
 refine NN (CT (SR (gK 1 [(2,.slice none (0) (0))] [] ?_)))
 refine NN (af.ret (ai.ak (ai.mem (fun w hS=>(hS.jO (e:=5) (size:=1)).pick (idx:=[1,0]) (l':=[.abs (aH 5 1 none 0 0 ([])),.abs R]) rfl (by kernel_rfl)) ?_)))
 exact RT (.slice none (0) (0)) [0,1] (⟨none,0,rfl,rfl⟩)
theorem Bl {β:Bs} (a:Addr) (c:Nat) (d:List UInt8) (hA:bg β (some a) d) (hl:d.length<=140737488355328):Spec Tryz.prog β 58 #[.slice (some a) d.length c] [] (fun v l=>∃ B cap,v=.slice B d.length cap/\l=[G7 B d cap]):=by
 refine Spec.enter Tryz.func58 rfl Tryz.ntmps58 (Nat.le_of_ble_eq_true rfl) (fun R=>?_)
 refine SR (gK 1 [] [] ?_)
 refine NN (af.seq (SR (gK 2 [(4,.bool false)] [] ?_)))
 refine NN (CF (af.skip (NX (SR (gN 1 (fun b1=>[(5,.slice (some ⟨b1,0,none⟩) (0) (0))]) (fun _=>[]) (fun _=>[]) (fun b1=>.blk b1 [] 5) (fun b1=>?_))))))
 refine aj.mem (fun w hS=>hS.qX (i:=1) (b:=b1) (cs:=[]) (e:=5) 1 0 (by kernel_rfl) rfl (by decide)) ?_
 refine gK 1 [(6,.slice (some a) (d.length) (c))] [] ?_
 refine aj.append 1 (d:=(some 7)) (t:=46) (e:=5) (z:=.int .u8 0) (size:=1) (bytes:=1) (n:=0) (cap:=0) (A:=some ⟨b1,0,none⟩) (xs:=[]) (s:=(.tmp 5)) (x:=(.tmp 6)) (ats:=#[46,46]) (A':=(some a)) (m:=d.length) (c':=c) (news:=(bX d)) (fun _=>by kernel_rfl) rfl (by kernel_rfl) (fun _=>by kernel_rfl) (fun _=>by kernel_rfl) Tryz.underlying46 (by kernel_rfl) rfl (by decide) (by rw [qY,Nat.mul_one]) (nG d) (hA.src) (by unfold maxLen;omega) (by omega) (fun A2 c3=>?_)
 refine aj.dK 1 (p:=.abs (aH 5 1 A2 (0+d.length) c3 ([]++(bX d)))) (p':=.abs (aH 5 1 A2 d.length c3 (bX d))) (by kernel_rfl) (by rw [Nat.zero_add,List.nil_append]) ?_
 refine aj.slot 7 (.slice A2 (0+d.length) (c3)) (.slice A2 (d.length) (c3)) (fun _=>by kernel_rfl) (by rw [Nat.zero_add]) ?_
 refine gK 1 [(2,.slice A2 (d.length) (c3))] [] ?_
 refine NN (af.ret ?_)
 exact RT (.slice A2 (d.length) (c3)) [1,0] (⟨A2,c3,rfl,rfl⟩)
theorem tQ {β:Bs} (A:Option Addr) (c:Nat) (d:List UInt8) (hA:bg β A d) (hl:d.length<=140737488355328):Spec Tryz.prog β 58 #[.slice A d.length c] [] (fun v l=>∃ B cap,v=.slice B d.length cap/\l=[G7 B d cap]):=by
  cases A with
  | some a=>exact Bl a c d hA hl
  | none=>
    cases d with
    | nil=>exact CM c
    | cons b r=>have h:=bg.hd hA (j:=0) (by simp);cases h
theorem Fg {β:Bs} (A:Option Addr) (c:Nat) (d:List UInt8) (hl:d.length<=140737488355328):Spec Tryz.prog β 58 #[.slice A d.length c] [G7 A d c] (fun v l=>∃ B cap,v=.slice B d.length cap/\l=[G7 B d cap,G7 A d c]):=
  (Spec.Ce (pre:=[]) (R:=[G7 A d c]) (fun _ h=>tQ A c d h.bytes hl)).mono (by rintro v l ⟨l0,⟨B,cap,rfl,rfl⟩,rfl⟩;exact⟨B,cap,rfl,rfl⟩)
theorem Fh {β:Bs} (L:HL) (b bk:Nat) (idx:Used Th) (hr:aE.cQ (keys idx)) (hn:idx.length<=4096) :
    Spec Tryz.prog β 66 #[AJ bk] [pI b L idx,.blk bk [.map (some b)] 120] (fun v l=>∃ A cap,v=.slice A (keys idx).length cap/\l=[pI b L idx,.blk bk [.map (some b)] 120,.abs (aH 3 1 A (keys idx).length cap (ints (keys idx)))]):=
  (AK b bk idx.length (aW (aV L idx)) (by omega)).mono (by
    rintro v l ⟨A,cap,ss,rfl,hk,_,rfl⟩
    have e:=GQ (us:=aV L idx) (by rw [zB];exact hr) hk
    rw [zB] at e
    subst e
    exact⟨A,cap,rfl,rfl⟩)
theorem Dq {β:Bs} (S:aG) (L:HL) (f m t:Nat) (hI:Inv S) :
    Spec Tryz.prog β 25 #[vP f] [pF f m t S.X,pI m L S.idx,pO S.O L,pD S.O L,pE S.O L] (fun v l=>∃ A c K,v=.agg #[.slice A (aS S).length c]/\l=[pF f m t S.X,pI m L S.idx,pO S.O L,pD S.O L,pE S.O L]++Ms A c (aS S) K):=by
 have hX:=hI.hX
 have hkl:(keys S.idx).length=S.idx.length:=zG _
 have hil:=hI.len
 refine Spec.enter Tryz.func25 rfl Tryz.ntmps25 (Nat.le_of_ble_eq_true rfl) (fun R=>?_)
 refine SR (gN 1 (fun b4=>[(2,vP b4)]) (fun _=>[]) (fun _=>[]) (fun b4=>.blk b4 [.slice none (0) (0)] 24) (fun b4=>?_))
 refine NS (gN 1 (fun b5=>[(3,vP b5)]) (fun _=>[]) (fun _=>[]) (fun b5=>.blk b5 [.slice none (0) (0)] 24) (fun b5=>?_))
 refine NN (af.seq (SR (gK 4 [(17,.map (some m))] [(3,a_ 0 f)] ?_)))
 refine gL [] (EI (some m)) ?_
 rintro _ _ ⟨b6,rfl,rfl⟩
 refine gL [2,0] (Fh L m b6 S.idx hI.rise hI.len) ?_
 rintro _ _ ⟨A7,c8,rfl,rfl⟩
 refine gK 1 [(20,vI ↑((keys S.idx).length))] [] ?_
 refine aj.mem (fun w hS=>hS.jO (e:=70) (size:=10)) ?_
 refine aj.mem (fun w hS=>hS.JK (kW [] Mr)) ?_
 refine aj.mem (fun w hS=>hS.JK (kX [] Mr)) ?_
 refine gK 1 [(21,vI 0)] [] ?_
 refine NN (af.block ?_)
 refine af.loop (ι:=Nat×(Option Addr)×Nat×Lay) (fun ((i,An,cn,K):Nat×(Option Addr)×Nat×Lay)=>(i<=S.idx.length)) (fun ((i,An,cn,K):Nat×(Option Addr)×Nat×Lay)=>S.idx.length - i) (fun ((i,An,cn,K):Nat×(Option Addr)×Nat×Lay)=>(xJ f b4 b5++xK A7 S c8 i)) (fun ((i,An,cn,K):Nat×(Option Addr)×Nat×Lay)=>(vA b5 An i cn K S A7 c8 b4 f m t L++[pD S.O L,pE S.O L,.abs R])) (0,none,0,Mr) (idx:=[0,2,3,19,20,21]) (pk:=[9,10,11,12,2,8,3,0,4,5,6,7]) (show (0<=S.idx.length) from (Nat.zero_le _)) (fun _=>by kernel_rfl) rfl (by kernel_rfl) ?_
 rintro⟨i,An,cn,K⟩ hi
 show af _ _ _ _ (xJ f b4 b5++xK A7 S c8 i) (vA b5 An i cn K S A7 c8 b4 f m t L++[pD S.O L,pE S.O L,.abs R]) _
 refine SR (gK 1 [(22,.bool (decide ((((i:Nat):Int):Int) < ((((keys S.idx).length:Nat):Int):Int))))] [] ?_)
 refine NN (af.seq (af.aZ (p:=(((i:Nat):Int):Int) < ((((keys S.idx).length:Nat):Int):Int)) (fun _=>by kernel_rfl) (fun vV=>?_) (fun vV=>?_)))
 ·have hi2:i < S.idx.length:=by omega
  refine af.skip (NX (af.seq (af.block (SR ?_))))
  refine aj.tell (p:=(A7=some ⟨av A7,au A7,none⟩)) (fun w hS=>let ⟨F,h⟩:=hS.get (i:=4) rfl;(aH.HZ h (by omega)).1) (fun hAk=>?_)
  refine gK 3 [(5,vI ((cL S i)))] [(0,p_ ⟨[],some i,none,some ⟨(av A7),au A7,none⟩,none⟩ [((i:Nat):Int)=((i:Nat):Int),i < (keys S.idx).length,(⟨(av A7),au A7,none⟩:Addr).spot=none,(A7:Option Addr)=some ⟨(av A7),au A7,none⟩] ⟨rfl,by omega,rfl,hAk,trivial⟩),(1,p_ ⟨[.view 4 (.int .i64 ((cL S i)))],none,none,none,none⟩ [(∀ F w,(aH 3 1 A7 ((keys S.idx).length) c8 (ints (keys S.idx))).h F w->w.cell? ⟨(av A7),au A7+i * 1,none⟩=some (vI ((cL S i))))] ⟨aH.cellAt (i:=i) (j:=0) (by omega) (Mt hi2),trivial⟩)] ?_
  refine NN (af.seq ?_)
  have VA:=(G4 hI.toInv0 hi2).1
  have hget:=get_at hI.toInv0 hi2
  rcases RR hI.toInv0 hi2 with ⟨tk,kH,hlv⟩|⟨tk,kH,hlv⟩|⟨tk,kH,hlv⟩
  ·have hkt:(obj S.O tk).kind=1:=hI.kind hlv
   have hel:(obj S.O tk).ah.length<=8192:=hI.fV hlv
   have hdl:(obj S.O tk).data.length<=140737488355328:=hI.Iy hlv
   refine af.region (gK 5 [(28,.map (some m)),(29,vI ((cL S i)))] [(3,a_ 6 f)] ?_)
   refine aj.dW 7 (d:=(some 30)) (t:=120) (K:=3) (E:=124) (b:=m) (n:=S.idx.length) (f:=(aW (aV L S.idx))) (x:=(.tmp 28)) (ix:=(.tmp 29)) (key:=.int .i64 ((cL S i))) (z:=.nilIface) (kl:=(.int .i64 (cL S i))) (r:=(some (dz L ⟨tk,1⟩))) (fun _=>by kernel_rfl) (by kernel_rfl) (fun _=>by kernel_rfl) (fun _=>by kernel_rfl) dQ Tryz.underlying120 (fun _=>by kernel_rfl) (gS (CH hI.toInv0 hi2)) (by rw [eW,hget,kH];rfl) ?_
   refine gK 1 [(6,.iface 129 (vP (L.b tk)))] [] ?_
   refine NS (gK 1 [(31,.iface 129 (vP (L.b tk)))] [] ?_)
   refine gL [] (cU (L.b tk)) ?_
   rintro _ _ ⟨rfl,rfl⟩
   refine gK 1 [(7,vP (L.b tk))] [] ?_
   refine NN (af.seq (af.rE (S:=[pO S.O L]) [0,1,3,4,5,6,7,8,9,10,11,12,13,14,15,16,17,18] [.beside [2,19] 20,.one 21] [8] (by kernel_rfl) (by kernel_rfl) rfl (by kernel_rfl) ?_))
   refine gP (xJ f b4 b5++[(6,.iface 129 (vP (L.b tk)))]++xK A7 S c8 i++[(33,vI ((cL S i))),(34,.iface 129 (vP (L.b tk)))]++CK S tk) [0,1,3,4,5,6,7,8,9,10,11,12,13,14,15,16,17,18] [(5,v_ 0 (rY L hkt)),(9,v_ 0 (x7 L hkt)),(13,v_ 0 (x9 L hkt)),(17,p_ ⟨[.view 0 (.int .i64 ((obj S.O tk).sec)),.view 0 (.int .i64 ((obj S.O tk).nano))],none,none,none,none⟩ [(∀ F w,(ax (bB S.O L)).h F w->w.cell? ⟨(L.b tk),5,none⟩=some (vI ((obj S.O tk).nano))),(∀ F w,(ax (bB S.O L)).h F w->w.cell? ⟨(L.b tk),4,none⟩=some (vI ((obj S.O tk).sec)))] ⟨dR (by rw [hkt];decide) (rfl),dR (by rw [hkt];decide) (rfl),trivial⟩)] ?_
   refine iE.beside (j:=20) (dj:=8) (R:=fun f_ l_=>f_=([(52,.agg #[vI ((cL S i)),vI 1,vI ((obj S.O tk).mode),vI ((obj S.O tk).uid),vI ((obj S.O tk).gid),vI ((obj S.O tk).sec),vI ((obj S.O tk).nano),.slice none (0) (0),.string ⟨#[]⟩,.slice none (0) (0)]),(35,vI 1)]++xJ f b4 b5++[(6,.iface 129 (vP (L.b tk)))]++xK A7 S c8 i++[(33,vI ((cL S i))),(34,.iface 129 (vP (L.b tk)))]++CK S tk)/\l_=[]) [0,1,2,3,4,5,6,7,8,9,10,11] [8] [(2,35),(19,52)] rfl (pc:=[]) (pj:=[]) (Z:=(vA b5 An i cn K S A7 c8 b4 f m t L++[pD S.O L,pE S.O L,.abs R])) (by kernel_rfl) rfl (by kernel_rfl) rfl rfl (kz.of (ι:=Nat) (v:=fun (b9:Nat)=>vP b9) (l:=fun (b9:Nat)=>[Qq b9]) [35,52] rfl rfl rfl rfl ?_) ?_ ?_
   ·intro u Aq
    show aj _ _ _ _ _ [(35,(u 35)),(52,(u 52)),(0,vP f),(2,vP b4),(3,vP b5),(6,.iface 129 (vP (L.b tk))),(19,.slice A7 ((keys S.idx).length) (c8)),(20,vI ↑((keys S.idx).length)),(21,vI ↑i),(33,vI ((cL S i))),(34,.iface 129 (vP (L.b tk))),(39,vI ((obj S.O tk).mode)),(43,vI ((obj S.O tk).uid)),(47,vI ((obj S.O tk).gid)),(51,.agg #[vI ((obj S.O tk).sec),vI ((obj S.O tk).nano)])] [.abs Aq] _
    refine gN 1 (fun b9=>[(8,vP b9)]) (fun _=>[]) (fun _=>[]) (fun b9=>.blk b9 [vI 0,vI 0,vI 0,vI 0,vI 0,vI 0,vI 0,.slice none (0) (0),.string ⟨#[]⟩,.slice none (0) (0)] 70) (fun b9=>?_)
    refine NL ?_
    exact MD b9 [8,35,52,0,2,3,6,19,20,21,33,34,39,43,47,51] [1,0]
   ·refine kA.step (kz.of (ι:=Unit) (v:=fun (_:Unit)=>.int .i64 1) (l:=fun (_:Unit)=>[]) [8] rfl rfl rfl rfl ?_) rfl ?_
    ·intro u Aq
     show aj _ _ _ _ _ [(8,(u 8)),(0,vP f),(2,vP b4),(3,vP b5),(6,.iface 129 (vP (L.b tk))),(19,.slice A7 ((keys S.idx).length) (c8)),(20,vI ↑((keys S.idx).length)),(21,vI ↑i),(33,vI ((cL S i))),(34,.iface 129 (vP (L.b tk))),(39,vI ((obj S.O tk).mode)),(43,vI ((obj S.O tk).uid)),(47,vI ((obj S.O tk).gid)),(51,.agg #[vI ((obj S.O tk).sec),vI ((obj S.O tk).nano)])] [.abs Aq] _
     refine gL [] (lX (vP (L.b tk))) ?_
     rintro _ _ ⟨rfl,rfl⟩
     refine NL ?_
     exact MD () [35,8,0,2,3,6,19,20,21,33,34,39,43,47,51] [0]
    rintro _ _ ⟨_,rfl,rfl⟩
    refine kA.step (kz.of (ι:=Unit) (v:=fun (_:Unit)=>.agg #[vI ((cL S i)),vI 1,vI ((obj S.O tk).mode),vI ((obj S.O tk).uid),vI ((obj S.O tk).gid),vI ((obj S.O tk).sec),vI ((obj S.O tk).nano),.slice none (0) (0),.string ⟨#[]⟩,.slice none (0) (0)]) (l:=fun (_:Unit)=>[]) [8] rfl rfl rfl rfl ?_) rfl ?_
    ·intro u Aq
     show aj _ _ _ _ _ [(8,(u 8)),(35,vI 1),(0,vP f),(2,vP b4),(3,vP b5),(6,.iface 129 (vP (L.b tk))),(19,.slice A7 ((keys S.idx).length) (c8)),(20,vI ↑((keys S.idx).length)),(21,vI ↑i),(33,vI ((cL S i))),(34,.iface 129 (vP (L.b tk))),(39,vI ((obj S.O tk).mode)),(43,vI ((obj S.O tk).uid)),(47,vI ((obj S.O tk).gid)),(51,.agg #[vI ((obj S.O tk).sec),vI ((obj S.O tk).nano)])] [.abs Aq] _
     refine gK 1 [(52,.agg #[vI ((cL S i)),vI 1,vI ((obj S.O tk).mode),vI ((obj S.O tk).uid),vI ((obj S.O tk).gid),vI ((obj S.O tk).sec),vI ((obj S.O tk).nano),.slice none (0) (0),.string ⟨#[]⟩,.slice none (0) (0)])] [] ?_
     refine NL ?_
     exact MD () [52,8,35,0,2,3,6,19,20,21,33,34,39,43,47,51] [0]
    rintro _ _ ⟨_,rfl,rfl⟩
    exact⟨rfl,rfl⟩
   rintro _ _ ⟨rfl,rfl⟩ _ _ ⟨b9,rfl,rfl⟩
   refine iE.last rfl rfl ?_
   refine gC 1 [] [(0,A_ 0 b9 10)] [(0,([(0,vI ((cL S i))),(1,vI 1)]++Mu S tk))] ?_
   refine NL (ai.np (NX (af.seq (SR ?_))))
   refine gK 1 [(53,.iface 129 (vP (L.b tk)))] [] ?_
   refine NN (af.block (SR ?_))
   refine gK 3 [(55,.bool true),(56,vP (L.b tk))] [] ?_
   refine NN (CT (SR (gK 1 [(9,vP (L.b tk))] [] ?_)))
   refine NN (af.region (gK 4 [(60,.slice (L.dA tk) ((obj S.O tk).data.length) ((L.dC tk)))] [(3,v_ 9 (Ew L hkt))] ?_))
   refine aj.mem (cF:=([SI b9 S i tk]++vA b5 An i cn K S A7 c8 b4 f m t L++[Sh S L tk,pE S.O L,.abs R,.abs (aH 5 1 (L.dA tk) ((obj S.O tk).data.length) (L.dC tk) (bX (obj S.O tk).data))])) (fun w hS=>hS.JM (i:=10) (k:=tk) rfl hkt) ?_
   refine gL [13] (Fg (L.dA tk) (L.dC tk) (obj S.O tk).data hdl) ?_
   rintro _ _ ⟨jA,c11,rfl,rfl⟩
   refine aj.mem (cF:=([pD S.O L,.abs (aH 5 1 jA ((obj S.O tk).data.length) c11 (bX (obj S.O tk).data)),SI b9 S i tk]++vA b5 An i cn K S A7 c8 b4 f m t L++[pE S.O L,.abs R])) (fun w hS=>hS.Qm (i:=12) (j:=1) (ix:=[0,2,3,4,5,6,7,8,9,10,11,13,14]) rfl rfl (by kernel_rfl) rfl hkt) ?_
   refine gC 2 [] [(1,a_ 2 b9)] [(2,[(7,.slice jA ((obj S.O tk).data.length) (c11))])] ?_
   refine NL (ai.aN (NX (af.region ?_)))
   refine gN 4 (fun b12=>[(104,.slice An (i) (cn)),(106,.slice (some ⟨b12,0,none⟩) (1) (1))]) (fun b12=>[(1,a_ 3 b5),(2,A_ 2 b9 10)]) (fun _=>[]) (fun b12=>.blk b12 [vI ((cL S i)),vI 1,vI ((obj S.O tk).mode),vI ((obj S.O tk).uid),vI ((obj S.O tk).gid),vI ((obj S.O tk).sec),vI ((obj S.O tk).nano),.slice jA ((obj S.O tk).data.length) (c11),.string ⟨#[]⟩,.slice none (0) (0)] 70) (fun b12=>?_)
   refine aj.append 4 (d:=(some 107)) (t:=22) (e:=70) (z:=.agg #[vI 0,vI 0,vI 0,vI 0,vI 0,vI 0,vI 0,.slice none (0) (0),.string ⟨#[]⟩,.slice none (0) (0)]) (size:=10) (bytes:=120) (n:=i) (cap:=cn) (A:=An) (xs:=(dr K ((aS S).take i))) (s:=(.tmp 104)) (x:=(.tmp 106)) (ats:=#[22,22]) (A':=some ⟨b12,0,none⟩) (m:=1) (c':=1) (news:=[vI ((cL S i)),vI 1,vI ((obj S.O tk).mode),vI ((obj S.O tk).uid),vI ((obj S.O tk).gid),vI ((obj S.O tk).sec),vI ((obj S.O tk).nano),.slice jA ((obj S.O tk).data.length) (c11),.string ⟨#[]⟩,.slice none (0) (0)]) (fun _=>by kernel_rfl) rfl (by kernel_rfl) (fun _=>by kernel_rfl) (fun _=>by kernel_rfl) Tryz.underlying22 (by kernel_rfl) rfl (by decide) (rfl) (by simp [Value.oneCell']) (lD (j:=14) rfl) (by unfold maxLen;omega) (by omega) (fun G8 G9=>?_)
   refine aj.dK 4 (p:=.abs (aH 70 10 G8 (i+1) G9 ((dr K ((aS S).take i))++[vI ((cL S i)),vI 1,vI ((obj S.O tk).mode),vI ((obj S.O tk).uid),vI ((obj S.O tk).gid),vI ((obj S.O tk).sec),vI ((obj S.O tk).nano),.slice jA ((obj S.O tk).data.length) (c11),.string ⟨#[]⟩,.slice none (0) (0)]))) (p':=.abs (aH 70 10 G8 (i+1) G9 (dr (K.put i jA c11 none 0) ((aS S).take (i+1))))) (by kernel_rfl) (congrArg (fun x=>HP.abs (aH 70 10 _ _ _ x)) (vu (dJ (by omega)) (qw hI.toInv0 hi2 kH hlv) rfl rfl)) ?_
   refine aj.slot 107 (.slice G8 (i+1) (G9)) (.slice G8 ((i+1)) (G9)) (fun _=>by kernel_rfl) (rfl) ?_
   refine gC 2 [] [(1,a_ 3 b5)] [(3,[(0,.slice G8 ((i+1)) (G9))])] ?_
   refine NL (ai.aN (NX (af.region ?_)))
   refine gK 2 [(21,vI ↑(i+1))] [(0,p_ ⟨[],none,none,none,some (vI ↑(i+1))⟩ [(Value.int .i64 (IntKind.wrap .i64 (((i:Nat):Int)+1)))=(.int .i64 ↑(i+1))] ⟨bD (by omega) (by omega) (by omega),trivial⟩)] ?_
   refine NL (ai.mem (fun w hS=>hS.jO (e:=140) (size:=2)) ?_)
   refine ai.mem (fun w hS=>hS.rK (R':=(kX ((aS S).take (i+1)) (K.put i jA c11 none 0))) (i:=6) (j:=1) (idx:=[0,2,3,4,5,7,8,9,10,11,12,13,14,15]) rfl rfl (by kernel_rfl) rfl (zL (dJ (by omega)) (qw hI.toInv0 hi2 kH hlv)) (xE (dJ (by omega)) (qw hI.toInv0 hi2 kH hlv) rfl)) ?_
   refine ai.mem (fun w hS=>hS.rK (R':=(kW ((aS S).take (i+1)) (K.put i jA c11 none 0))) (i:=5) (j:=14) (idx:=[0,1,2,3,4,6,7,8,9,10,11,12,13]) rfl rfl (by kernel_rfl) rfl (zM (dJ (by omega)) (qw hI.toInv0 hi2 kH hlv)) ((xG (dJ (by omega)) (qw hI.toInv0 hi2 kH hlv) rfl))) ?_
   exact ai.turn ((i+1),G8,G9,(K.put i jA c11 none 0)) (idx:=[0,2,3,19,20,21]) (pk:=[4,5,0,1,6,7,8,9,10,2,11,12]) (show (((i+1))<=S.idx.length) from (by omega)) (by show S.idx.length - ((i+1)) < S.idx.length - i;omega) (fun _=>by kernel_rfl) rfl (by kernel_rfl)
  ·have hkt:(obj S.O tk).kind=2:=hI.kind hlv
   have hel:(obj S.O tk).ah.length<=8192:=hI.fV hlv
   have hdl:(obj S.O tk).data.length<=140737488355328:=hI.Iy hlv
   refine af.region (gK 5 [(28,.map (some m)),(29,vI ((cL S i)))] [(3,a_ 6 f)] ?_)
   refine aj.dW 7 (d:=(some 30)) (t:=120) (K:=3) (E:=124) (b:=m) (n:=S.idx.length) (f:=(aW (aV L S.idx))) (x:=(.tmp 28)) (ix:=(.tmp 29)) (key:=.int .i64 ((cL S i))) (z:=.nilIface) (kl:=(.int .i64 (cL S i))) (r:=(some (dz L ⟨tk,2⟩))) (fun _=>by kernel_rfl) (by kernel_rfl) (fun _=>by kernel_rfl) (fun _=>by kernel_rfl) dQ Tryz.underlying120 (fun _=>by kernel_rfl) (gS (CH hI.toInv0 hi2)) (by rw [eW,hget,kH];rfl) ?_
   refine gK 1 [(6,.iface 135 (vP (L.b tk)))] [] ?_
   refine NS (gK 1 [(31,.iface 135 (vP (L.b tk)))] [] ?_)
   refine gL [] (cU (L.b tk)) ?_
   rintro _ _ ⟨rfl,rfl⟩
   refine gK 1 [(7,vP (L.b tk))] [] ?_
   refine NN (af.seq (af.rE (S:=[pO S.O L]) [0,1,3,4,5,6,7,8,9,10,11,12,13,14,15,16,17,18] [.beside [2,19] 20,.one 21] [8] (by kernel_rfl) (by kernel_rfl) rfl (by kernel_rfl) ?_))
   refine gP (xJ f b4 b5++[(6,.iface 135 (vP (L.b tk)))]++xK A7 S c8 i++[(33,vI ((cL S i))),(34,.iface 135 (vP (L.b tk)))]++CK S tk) [0,1,3,4,5,6,7,8,9,10,11,12,13,14,15,16,17,18] [(5,v_ 0 (rY L hkt)),(9,v_ 0 (x7 L hkt)),(13,v_ 0 (x9 L hkt)),(17,p_ ⟨[.view 0 (.int .i64 ((obj S.O tk).sec)),.view 0 (.int .i64 ((obj S.O tk).nano))],none,none,none,none⟩ [(∀ F w,(ax (bB S.O L)).h F w->w.cell? ⟨(L.b tk),5,none⟩=some (vI ((obj S.O tk).nano))),(∀ F w,(ax (bB S.O L)).h F w->w.cell? ⟨(L.b tk),4,none⟩=some (vI ((obj S.O tk).sec)))] ⟨dR (by rw [hkt];decide) (rfl),dR (by rw [hkt];decide) (rfl),trivial⟩)] ?_
   refine iE.beside (j:=20) (dj:=8) (R:=fun f_ l_=>f_=([(52,.agg #[vI ((cL S i)),vI 2,vI ((obj S.O tk).mode),vI ((obj S.O tk).uid),vI ((obj S.O tk).gid),vI ((obj S.O tk).sec),vI ((obj S.O tk).nano),.slice none (0) (0),.string ⟨#[]⟩,.slice none (0) (0)]),(35,vI 2)]++xJ f b4 b5++[(6,.iface 135 (vP (L.b tk)))]++xK A7 S c8 i++[(33,vI ((cL S i))),(34,.iface 135 (vP (L.b tk)))]++CK S tk)/\l_=[]) [0,1,2,3,4,5,6,7,8,9,10,11] [8] [(2,35),(19,52)] rfl (pc:=[]) (pj:=[]) (Z:=(vA b5 An i cn K S A7 c8 b4 f m t L++[pD S.O L,pE S.O L,.abs R])) (by kernel_rfl) rfl (by kernel_rfl) rfl rfl (kz.of (ι:=Nat) (v:=fun (b15:Nat)=>vP b15) (l:=fun (b15:Nat)=>[Qq b15]) [35,52] rfl rfl rfl rfl ?_) ?_ ?_
   ·intro u Aq
    show aj _ _ _ _ _ [(35,(u 35)),(52,(u 52)),(0,vP f),(2,vP b4),(3,vP b5),(6,.iface 135 (vP (L.b tk))),(19,.slice A7 ((keys S.idx).length) (c8)),(20,vI ↑((keys S.idx).length)),(21,vI ↑i),(33,vI ((cL S i))),(34,.iface 135 (vP (L.b tk))),(39,vI ((obj S.O tk).mode)),(43,vI ((obj S.O tk).uid)),(47,vI ((obj S.O tk).gid)),(51,.agg #[vI ((obj S.O tk).sec),vI ((obj S.O tk).nano)])] [.abs Aq] _
    refine gN 1 (fun b15=>[(8,vP b15)]) (fun _=>[]) (fun _=>[]) (fun b15=>.blk b15 [vI 0,vI 0,vI 0,vI 0,vI 0,vI 0,vI 0,.slice none (0) (0),.string ⟨#[]⟩,.slice none (0) (0)] 70) (fun b15=>?_)
    refine NL ?_
    exact MD b15 [8,35,52,0,2,3,6,19,20,21,33,34,39,43,47,51] [1,0]
   ·refine kA.step (kz.of (ι:=Unit) (v:=fun (_:Unit)=>.int .i64 2) (l:=fun (_:Unit)=>[]) [8] rfl rfl rfl rfl ?_) rfl ?_
    ·intro u Aq
     show aj _ _ _ _ _ [(8,(u 8)),(0,vP f),(2,vP b4),(3,vP b5),(6,.iface 135 (vP (L.b tk))),(19,.slice A7 ((keys S.idx).length) (c8)),(20,vI ↑((keys S.idx).length)),(21,vI ↑i),(33,vI ((cL S i))),(34,.iface 135 (vP (L.b tk))),(39,vI ((obj S.O tk).mode)),(43,vI ((obj S.O tk).uid)),(47,vI ((obj S.O tk).gid)),(51,.agg #[vI ((obj S.O tk).sec),vI ((obj S.O tk).nano)])] [.abs Aq] _
     refine gL [] (lY (vP (L.b tk))) ?_
     rintro _ _ ⟨rfl,rfl⟩
     refine NL ?_
     exact MD () [35,8,0,2,3,6,19,20,21,33,34,39,43,47,51] [0]
    rintro _ _ ⟨_,rfl,rfl⟩
    refine kA.step (kz.of (ι:=Unit) (v:=fun (_:Unit)=>.agg #[vI ((cL S i)),vI 2,vI ((obj S.O tk).mode),vI ((obj S.O tk).uid),vI ((obj S.O tk).gid),vI ((obj S.O tk).sec),vI ((obj S.O tk).nano),.slice none (0) (0),.string ⟨#[]⟩,.slice none (0) (0)]) (l:=fun (_:Unit)=>[]) [8] rfl rfl rfl rfl ?_) rfl ?_
    ·intro u Aq
     show aj _ _ _ _ _ [(8,(u 8)),(35,vI 2),(0,vP f),(2,vP b4),(3,vP b5),(6,.iface 135 (vP (L.b tk))),(19,.slice A7 ((keys S.idx).length) (c8)),(20,vI ↑((keys S.idx).length)),(21,vI ↑i),(33,vI ((cL S i))),(34,.iface 135 (vP (L.b tk))),(39,vI ((obj S.O tk).mode)),(43,vI ((obj S.O tk).uid)),(47,vI ((obj S.O tk).gid)),(51,.agg #[vI ((obj S.O tk).sec),vI ((obj S.O tk).nano)])] [.abs Aq] _
     refine gK 1 [(52,.agg #[vI ((cL S i)),vI 2,vI ((obj S.O tk).mode),vI ((obj S.O tk).uid),vI ((obj S.O tk).gid),vI ((obj S.O tk).sec),vI ((obj S.O tk).nano),.slice none (0) (0),.string ⟨#[]⟩,.slice none (0) (0)])] [] ?_
     refine NL ?_
     exact MD () [52,8,35,0,2,3,6,19,20,21,33,34,39,43,47,51] [0]
    rintro _ _ ⟨_,rfl,rfl⟩
    exact⟨rfl,rfl⟩
   rintro _ _ ⟨rfl,rfl⟩ _ _ ⟨b15,rfl,rfl⟩
   refine iE.last rfl rfl ?_
   refine gC 1 [] [(0,A_ 0 b15 10)] [(0,([(0,vI ((cL S i))),(1,vI 2)]++Mu S tk))] ?_
   refine NL (ai.np (NX (af.seq (SR ?_))))
   refine gK 1 [(53,.iface 135 (vP (L.b tk)))] [] ?_
   refine NN (af.block (SR ?_))
   refine gK 3 [(55,.bool false),(56,.pointer none)] [] ?_
   refine NN (CF (SR (gK 3 [(64,.bool false),(65,.pointer none)] [] ?_)))
   refine NN (CF (SR (gK 3 [(72,.bool true),(73,vP (L.b tk))] [] ?_)))
   refine NN (CT (SR (gK 1 [(11,vP (L.b tk))] [] ?_)))
   refine NS (gK 4 [(77,.map (some (L.m tk)))] [(3,v_ 9 (br L hkt))] ?_)
   refine aj.mem (cF:=([.blk b15 [vI ((cL S i)),vI 2,vI ((obj S.O tk).mode),vI ((obj S.O tk).uid),vI ((obj S.O tk).gid),vI ((obj S.O tk).sec),vI ((obj S.O tk).nano),.slice none (0) (0),.string ⟨#[]⟩,.slice none (0) (0)] 70]++vA b5 An i cn K S A7 c8 b4 f m t L++[pD S.O L,Qr S L tk,.abs R,Fe L tk S])) (fun w hS=>hS.Py (i:=11) (k:=tk) rfl (hkt)) ?_
   refine gL [] (Mp (some (L.m tk))) ?_
   rintro _ _ ⟨b16,rfl,rfl⟩
   refine gL [14,0] (I6 L (L.m tk) b16 (obj S.O tk).ah.length (obj S.O tk).ah (hI.sorted _ hlv) hel) ?_
   rintro _ _ ⟨dO,eV,rfl,rfl⟩
   refine gK 1 [(80,vI ↑((obj S.O tk).ah.length))] [] ?_
   refine aj.mem (fun w hS=>hS.jO (e:=140) (size:=2)) ?_
   refine gK 1 [(81,vI 0)] [] ?_
   refine NN (af.block ?_)
   refine af.loop (ι:=Nat×(Option Addr)×Nat) (fun ((j,Ae,ce):Nat×(Option Addr)×Nat)=>(j<=(obj S.O tk).ah.length)) (fun ((j,Ae,ce):Nat×(Option Addr)×Nat)=>(obj S.O tk).ah.length - j) (fun ((j,Ae,ce):Nat×(Option Addr)×Nat)=>(Ff f b4 b5 b15 L tk A7 S c8 i dO eV j)) (fun ((j,Ae,ce):Nat×(Option Addr)×Nat)=>([jm b15 S i tk Ae j ce,nR Ae j ce S tk]++kB L tk S b16 dO eV b5 An i cn K A7 c8 b4 f m t R)) (0,none,0) (idx:=[0,2,3,8,11,19,20,21,79,80,81]) (pk:=[3,16,0,1,2,4,5,6,7,8,9,10,11,12,13,14,15]) (show (0<=(obj S.O tk).ah.length) from (Nat.zero_le _)) (fun _=>by kernel_rfl) rfl (by kernel_rfl) ?_
   rintro⟨j,Ae,ce⟩ hj
   show af _ _ _ _ (Ff f b4 b5 b15 L tk A7 S c8 i dO eV j) ([jm b15 S i tk Ae j ce,nR Ae j ce S tk]++kB L tk S b16 dO eV b5 An i cn K A7 c8 b4 f m t R) _
   refine SR (gK 1 [(82,.bool (decide ((((j:Nat):Int):Int) < ((((obj S.O tk).ah.length:Nat):Int):Int))))] [] ?_)
   refine NN (af.seq (af.aZ (p:=(((j:Nat):Int):Int) < ((((obj S.O tk).ah.length:Nat):Int):Int)) (fun _=>by kernel_rfl) (fun UE=>?_) (fun UE=>?_)))
   ·have hj2:j < (obj S.O tk).ah.length:=by omega
    refine af.skip (NX (af.seq (af.block (SR ?_))))
    refine aj.tell (p:=(dO=some ⟨av dO,au dO,none⟩)) (fun w hS=>let ⟨F,h⟩:=hS.get (i:=4) rfl;(aH.HZ h (by omega)).1) (fun UF=>?_)
    refine gK 3 [(13,.string (eZ (obj S.O tk).ah j))] [(0,p_ ⟨[],some j,none,some ⟨(av dO),au dO,none⟩,none⟩ [((j:Nat):Int)=((j:Nat):Int),j < (obj S.O tk).ah.length,(⟨(av dO),au dO,none⟩:Addr).spot=none,(dO:Option Addr)=some ⟨(av dO),au dO,none⟩] ⟨rfl,by omega,rfl,UF,trivial⟩),(1,p_ ⟨[.view 4 (.string (eZ (obj S.O tk).ah j))],none,none,none,none⟩ [(∀ F w,(aH 9 1 dO ((obj S.O tk).ah.length) eV (qv (obj S.O tk).ah)).h F w->w.cell? ⟨(av dO),au dO+j * 1,none⟩=some (.string (eZ (obj S.O tk).ah j)))] ⟨aH.cellAt (i:=j) (j:=0) (by omega) (I9 hj2),trivial⟩)] ?_
    refine NN ?_
    obtain⟨hgd,h4⟩:=TK hI.toInv0 hlv hj2
    have hgs:(eZ (obj S.O tk).ah j).size<=255:=hgd.2.1
    rcases h4 with ⟨ek,hle,zK,Ky⟩|⟨ek,hle,zK,Ky⟩|⟨ek,hle,zK,Ky⟩
    ·have hke:(obj S.O ek).kind=1:=hI.kind zK
     refine af.bP (S:=[Fe L tk S,pO S.O L,jm b15 S i tk Ae j ce]) [0,1,2,3,4,5,6,7,8,9,10,11,12,13,14,15,16,17] 9 [2,13,0] (by kernel_rfl) (by kernel_rfl) rfl (by kernel_rfl) ?_
     refine gR 1 [8,9,10,11,12,13,14,15,16,17] (Ff f b4 b5 b15 L tk A7 S c8 i dO eV j++qH Ae j ce S tk++[(91,.map (some (L.m tk))),(92,.string (eZ (obj S.O tk).ah j))]) [0,1,2,3,4,5,6,7] [(1,a_ 2 b15),(6,v_ 1 (br L hkt))] ?_
     refine aL.dW 0 (d:=(some 93)) (t:=136) (K:=9) (E:=124) (b:=(L.m tk)) (cnt:=(obj S.O tk).ah.length) (f:=(iD L (obj S.O tk).ah)) (x:=(.tmp 91)) (ix:=(.tmp 92)) (key:=.string (eZ (obj S.O tk).ah j)) (z:=.nilIface) (kl:=(.string (eZ (obj S.O tk).ah j).data.toList)) (q:=(some (dz L ⟨ek,1⟩))) (by kernel_rfl) (by kernel_rfl) (fun _=>by kernel_rfl) (fun _=>by kernel_rfl) zq Tryz.underlying136 (fun _=>by kernel_rfl) (Cg (by omega)) (by rw [rL,hle];rfl) (by kernel_rfl) ?_
     refine mL [2,13,0] [] (cU (L.b ek)) ?_ (by rintro _ _ ⟨rfl,rfl⟩;rfl)
     rintro _ _ ⟨rfl,rfl⟩
     refine aL.cut (ι:=Unit) (fr':=fun (_:Unit)=>(lJ f b4 b5 b15 L tk A7 S c8 i dO eV j++qH Ae j ce S tk++[(95,vP (L.b ek))])) (hp':=fun (_:Unit)=>([jm b15 S i tk Ae j ce,nR Ae j ce S tk]++kB L tk S b16 dO eV b5 An i cn K A7 c8 b4 f m t R)) [2,13,0] rfl rfl ?_ rfl (fun _=>by kernel_rfl) ?_
     ·refine gK 1 [(95,vP (L.b ek))] [] ?_
      refine NL ?_
      exact MD () [0,2,3,8,11,19,20,21,79,80,81,86,87,95] [0,1,2,3,4,5,6,7,8,9,10,11,12,13,14,15,16]
     rintro _
     refine aL.cut (ι:=Unit) (fr':=fun (_:Unit)=>(lJ f b4 b5 b15 L tk A7 S c8 i dO eV j++qH Ae j ce S tk++[(96,vP (L.b ek))])) (hp':=fun (_:Unit)=>([jm b15 S i tk Ae j ce,nR Ae j ce S tk]++kB L tk S b16 dO eV b5 An i cn K A7 c8 b4 f m t R)) [2,13,0] rfl rfl ?_ rfl (fun _=>by kernel_rfl) ?_
     ·refine gK 1 [(96,vP (L.b ek))] [] ?_
      refine NL ?_
      exact MD () [0,2,3,8,11,19,20,21,79,80,81,86,87,96] [0,1,2,3,4,5,6,7,8,9,10,11,12,13,14,15,16]
     rintro _
     refine aL.cut (ι:=Unit) (fr':=fun (_:Unit)=>(lJ f b4 b5 b15 L tk A7 S c8 i dO eV j++qH Ae j ce S tk++[(97,vI ((obj S.O ek).id))])) (hp':=fun (_:Unit)=>([jm b15 S i tk Ae j ce,nR Ae j ce S tk]++kB L tk S b16 dO eV b5 An i cn K A7 c8 b4 f m t R)) [2,13,0] rfl rfl ?_ rfl (fun _=>by kernel_rfl) ?_
     ·refine gK 1 [(97,vI ((obj S.O ek).id))] [(0,v_ 13 (qC L hke))] ?_
      refine NL ?_
      exact MD () [0,2,3,8,11,19,20,21,79,80,81,86,87,97] [0,1,2,3,4,5,6,7,8,9,10,11,12,13,14,15,16]
     rintro _
     refine aL.cut (ι:=Unit) (fr':=fun (_:Unit)=>(lJ f b4 b5 b15 L tk A7 S c8 i dO eV j++[(86,.slice Ae (j) (ce)),(98,.agg #[.string (eZ (obj S.O tk).ah j),vI ((obj S.O ek).id)])])) (hp':=fun (_:Unit)=>([jm b15 S i tk Ae j ce,nR Ae j ce S tk]++kB L tk S b16 dO eV b5 An i cn K A7 c8 b4 f m t R)) [2,13,0] rfl rfl ?_ rfl (fun _=>by kernel_rfl) ?_
     ·refine gK 1 [(98,.agg #[.string (eZ (obj S.O tk).ah j),vI ((obj S.O ek).id)])] [] ?_
      refine NL ?_
      exact MD () [0,2,3,8,11,19,20,21,79,80,81,86,98] [0,1,2,3,4,5,6,7,8,9,10,11,12,13,14,15,16]
     rintro _
     refine mN [2,13,0] (fun b19=>[(99,.slice (some ⟨b19,0,none⟩) (1) (1))]) (fun _=>[]) (fun b19=>.blk b19 [.string (eZ (obj S.O tk).ah j),vI ((obj S.O ek).id)] 140) (fun b19=>?_)
     refine aL.cut (ι:=(Option Addr)×Nat) (fr':=fun ((nj,nk):(Option Addr)×Nat)=>(lJ f b4 b5 b15 L tk A7 S c8 i dO eV j++[(100,.slice nj ((j+1)) (nk))])) (hp':=fun ((nj,nk):(Option Addr)×Nat)=>([jm b15 S i tk Ae j ce,CI nj j nk S tk]++kB L tk S b16 dO eV b5 An i cn K A7 c8 b4 f m t R++[CJ b19 S tk j ek])) [2,13,0] rfl rfl ?_ rfl (fun _=>by kernel_rfl) ?_
     ·refine aj.append 1 (d:=(some 100)) (t:=68) (e:=140) (z:=.agg #[.string ⟨#[]⟩,vI 0]) (size:=2) (bytes:=24) (n:=j) (cap:=ce) (A:=Ae) (xs:=(gJ (((obj S.O tk).ah.take j).map (lH S.O)))) (s:=(.tmp 86)) (x:=(.tmp 99)) (ats:=#[68,68]) (A':=some ⟨b19,0,none⟩) (m:=1) (c':=1) (news:=[.string (eZ (obj S.O tk).ah j),vI ((obj S.O ek).id)]) (fun _=>by kernel_rfl) rfl (by kernel_rfl) (fun _=>by kernel_rfl) (fun _=>by kernel_rfl) Tryz.underlying68 (by kernel_rfl) rfl (by decide) (rfl) (by simp [Value.oneCell']) (lD (j:=17) rfl) (by unfold maxLen;omega) (by omega) (fun nj nk=>?_)
      refine aj.dK 1 (p:=.abs (aH 140 2 nj (j+1) nk ((gJ (((obj S.O tk).ah.take j).map (lH S.O)))++[.string (eZ (obj S.O tk).ah j),vI ((obj S.O ek).id)]))) (p':=.abs (aH 140 2 nj (j+1) nk (gJ (((obj S.O tk).ah.take (j+1)).map (lH S.O))))) (by kernel_rfl) (congrArg (fun x=>HP.abs (aH 140 2 _ _ _ x)) (xH hj2 Ky)) ?_
      refine aj.slot 100 (.slice nj (j+1) (nk)) (.slice nj ((j+1)) (nk)) (fun _=>by kernel_rfl) (rfl) ?_
      refine NL ?_
      exact MD (nj,nk) [0,2,3,8,11,19,20,21,79,80,81,100] [0,1,2,3,4,5,6,7,8,9,10,11,12,13,14,15,16,17]
     rintro⟨nj,nk⟩
     refine aL.cut (ι:=Unit) (fr':=fun (_:Unit)=>(lJ f b4 b5 b15 L tk A7 S c8 i dO eV j++[(100,.slice nj ((j+1)) (nk)),(101,.pointer (some ⟨b15,9,none⟩))])) (hp':=fun (_:Unit)=>([jm b15 S i tk Ae j ce,CI nj j nk S tk]++kB L tk S b16 dO eV b5 An i cn K A7 c8 b4 f m t R++[CJ b19 S tk j ek])) [2,13,0] rfl rfl ?_ rfl (fun _=>by kernel_rfl) ?_
     ·refine gK 1 [(101,.pointer (some ⟨b15,9,none⟩))] [] ?_
      refine NL ?_
      exact MD () [0,2,3,8,11,19,20,21,79,80,81,100,101] [0,1,2,3,4,5,6,7,8,9,10,11,12,13,14,15,16,17]
     rintro _
     refine aL.last rfl rfl ?_
     refine gC 1 [] [(0,a_ 0 b15)] [(0,[(9,.slice nj ((j+1)) (nk))])] ?_
     refine NL (ai.np (ai.aN (NX (af.region ?_))))
     refine gK 2 [(81,vI ↑(j+1))] [(0,p_ ⟨[],none,none,none,some (vI ↑(j+1))⟩ [(Value.int .i64 (IntKind.wrap .i64 (((j:Nat):Int)+1)))=(.int .i64 ↑(j+1))] ⟨bD (by omega) (by omega) (by omega),trivial⟩)] ?_
     refine NL ?_
     exact ai.turn ((j+1),nj,nk) (idx:=[0,2,3,8,11,19,20,21,79,80,81]) (pk:=[0,1,2,3,4,5,6,7,8,9,10,11,12,13,14,15,16]) (show (((j+1))<=(obj S.O tk).ah.length) from (by omega)) (by show (obj S.O tk).ah.length - ((j+1)) < (obj S.O tk).ah.length - j;omega) (fun _=>by kernel_rfl) rfl (by kernel_rfl)
    ·have hke:(obj S.O ek).kind=2:=hI.kind zK
     refine af.bP (S:=[Fe L tk S,pO S.O L,jm b15 S i tk Ae j ce]) [0,1,2,3,4,5,6,7,8,9,10,11,12,13,14,15,16,17] 9 [2,13,0] (by kernel_rfl) (by kernel_rfl) rfl (by kernel_rfl) ?_
     refine gR 1 [8,9,10,11,12,13,14,15,16,17] (Ff f b4 b5 b15 L tk A7 S c8 i dO eV j++qH Ae j ce S tk++[(91,.map (some (L.m tk))),(92,.string (eZ (obj S.O tk).ah j))]) [0,1,2,3,4,5,6,7] [(1,a_ 2 b15),(6,v_ 1 (br L hkt))] ?_
     refine aL.dW 0 (d:=(some 93)) (t:=136) (K:=9) (E:=124) (b:=(L.m tk)) (cnt:=(obj S.O tk).ah.length) (f:=(iD L (obj S.O tk).ah)) (x:=(.tmp 91)) (ix:=(.tmp 92)) (key:=.string (eZ (obj S.O tk).ah j)) (z:=.nilIface) (kl:=(.string (eZ (obj S.O tk).ah j).data.toList)) (q:=(some (dz L ⟨ek,2⟩))) (by kernel_rfl) (by kernel_rfl) (fun _=>by kernel_rfl) (fun _=>by kernel_rfl) zq Tryz.underlying136 (fun _=>by kernel_rfl) (Cg (by omega)) (by rw [rL,hle];rfl) (by kernel_rfl) ?_
     refine mL [2,13,0] [] (cU (L.b ek)) ?_ (by rintro _ _ ⟨rfl,rfl⟩;rfl)
     rintro _ _ ⟨rfl,rfl⟩
     refine aL.cut (ι:=Unit) (fr':=fun (_:Unit)=>(lJ f b4 b5 b15 L tk A7 S c8 i dO eV j++qH Ae j ce S tk++[(95,vP (L.b ek))])) (hp':=fun (_:Unit)=>([jm b15 S i tk Ae j ce,nR Ae j ce S tk]++kB L tk S b16 dO eV b5 An i cn K A7 c8 b4 f m t R)) [2,13,0] rfl rfl ?_ rfl (fun _=>by kernel_rfl) ?_
     ·refine gK 1 [(95,vP (L.b ek))] [] ?_
      refine NL ?_
      exact MD () [0,2,3,8,11,19,20,21,79,80,81,86,87,95] [0,1,2,3,4,5,6,7,8,9,10,11,12,13,14,15,16]
     rintro _
     refine aL.cut (ι:=Unit) (fr':=fun (_:Unit)=>(lJ f b4 b5 b15 L tk A7 S c8 i dO eV j++qH Ae j ce S tk++[(96,vP (L.b ek))])) (hp':=fun (_:Unit)=>([jm b15 S i tk Ae j ce,nR Ae j ce S tk]++kB L tk S b16 dO eV b5 An i cn K A7 c8 b4 f m t R)) [2,13,0] rfl rfl ?_ rfl (fun _=>by kernel_rfl) ?_
     ·refine gK 1 [(96,vP (L.b ek))] [] ?_
      refine NL ?_
      exact MD () [0,2,3,8,11,19,20,21,79,80,81,86,87,96] [0,1,2,3,4,5,6,7,8,9,10,11,12,13,14,15,16]
     rintro _
     refine aL.cut (ι:=Unit) (fr':=fun (_:Unit)=>(lJ f b4 b5 b15 L tk A7 S c8 i dO eV j++qH Ae j ce S tk++[(97,vI ((obj S.O ek).id))])) (hp':=fun (_:Unit)=>([jm b15 S i tk Ae j ce,nR Ae j ce S tk]++kB L tk S b16 dO eV b5 An i cn K A7 c8 b4 f m t R)) [2,13,0] rfl rfl ?_ rfl (fun _=>by kernel_rfl) ?_
     ·refine gK 1 [(97,vI ((obj S.O ek).id))] [(0,v_ 13 (qC L hke))] ?_
      refine NL ?_
      exact MD () [0,2,3,8,11,19,20,21,79,80,81,86,87,97] [0,1,2,3,4,5,6,7,8,9,10,11,12,13,14,15,16]
     rintro _
     refine aL.cut (ι:=Unit) (fr':=fun (_:Unit)=>(lJ f b4 b5 b15 L tk A7 S c8 i dO eV j++[(86,.slice Ae (j) (ce)),(98,.agg #[.string (eZ (obj S.O tk).ah j),vI ((obj S.O ek).id)])])) (hp':=fun (_:Unit)=>([jm b15 S i tk Ae j ce,nR Ae j ce S tk]++kB L tk S b16 dO eV b5 An i cn K A7 c8 b4 f m t R)) [2,13,0] rfl rfl ?_ rfl (fun _=>by kernel_rfl) ?_
     ·refine gK 1 [(98,.agg #[.string (eZ (obj S.O tk).ah j),vI ((obj S.O ek).id)])] [] ?_
      refine NL ?_
      exact MD () [0,2,3,8,11,19,20,21,79,80,81,86,98] [0,1,2,3,4,5,6,7,8,9,10,11,12,13,14,15,16]
     rintro _
     refine mN [2,13,0] (fun Fj=>[(99,.slice (some ⟨Fj,0,none⟩) (1) (1))]) (fun _=>[]) (fun Fj=>.blk Fj [.string (eZ (obj S.O tk).ah j),vI ((obj S.O ek).id)] 140) (fun Fj=>?_)
     refine aL.cut (ι:=(Option Addr)×Nat) (fr':=fun ((tE,tF):(Option Addr)×Nat)=>(lJ f b4 b5 b15 L tk A7 S c8 i dO eV j++[(100,.slice tE ((j+1)) (tF))])) (hp':=fun ((tE,tF):(Option Addr)×Nat)=>([jm b15 S i tk Ae j ce,CI tE j tF S tk]++kB L tk S b16 dO eV b5 An i cn K A7 c8 b4 f m t R++[CJ Fj S tk j ek])) [2,13,0] rfl rfl ?_ rfl (fun _=>by kernel_rfl) ?_
     ·refine aj.append 1 (d:=(some 100)) (t:=68) (e:=140) (z:=.agg #[.string ⟨#[]⟩,vI 0]) (size:=2) (bytes:=24) (n:=j) (cap:=ce) (A:=Ae) (xs:=(gJ (((obj S.O tk).ah.take j).map (lH S.O)))) (s:=(.tmp 86)) (x:=(.tmp 99)) (ats:=#[68,68]) (A':=some ⟨Fj,0,none⟩) (m:=1) (c':=1) (news:=[.string (eZ (obj S.O tk).ah j),vI ((obj S.O ek).id)]) (fun _=>by kernel_rfl) rfl (by kernel_rfl) (fun _=>by kernel_rfl) (fun _=>by kernel_rfl) Tryz.underlying68 (by kernel_rfl) rfl (by decide) (rfl) (by simp [Value.oneCell']) (lD (j:=17) rfl) (by unfold maxLen;omega) (by omega) (fun tE tF=>?_)
      refine aj.dK 1 (p:=.abs (aH 140 2 tE (j+1) tF ((gJ (((obj S.O tk).ah.take j).map (lH S.O)))++[.string (eZ (obj S.O tk).ah j),vI ((obj S.O ek).id)]))) (p':=.abs (aH 140 2 tE (j+1) tF (gJ (((obj S.O tk).ah.take (j+1)).map (lH S.O))))) (by kernel_rfl) (congrArg (fun x=>HP.abs (aH 140 2 _ _ _ x)) (xH hj2 Ky)) ?_
      refine aj.slot 100 (.slice tE (j+1) (tF)) (.slice tE ((j+1)) (tF)) (fun _=>by kernel_rfl) (rfl) ?_
      refine NL ?_
      exact MD (tE,tF) [0,2,3,8,11,19,20,21,79,80,81,100] [0,1,2,3,4,5,6,7,8,9,10,11,12,13,14,15,16,17]
     rintro⟨tE,tF⟩
     refine aL.cut (ι:=Unit) (fr':=fun (_:Unit)=>(lJ f b4 b5 b15 L tk A7 S c8 i dO eV j++[(100,.slice tE ((j+1)) (tF)),(101,.pointer (some ⟨b15,9,none⟩))])) (hp':=fun (_:Unit)=>([jm b15 S i tk Ae j ce,CI tE j tF S tk]++kB L tk S b16 dO eV b5 An i cn K A7 c8 b4 f m t R++[CJ Fj S tk j ek])) [2,13,0] rfl rfl ?_ rfl (fun _=>by kernel_rfl) ?_
     ·refine gK 1 [(101,.pointer (some ⟨b15,9,none⟩))] [] ?_
      refine NL ?_
      exact MD () [0,2,3,8,11,19,20,21,79,80,81,100,101] [0,1,2,3,4,5,6,7,8,9,10,11,12,13,14,15,16,17]
     rintro _
     refine aL.last rfl rfl ?_
     refine gC 1 [] [(0,a_ 0 b15)] [(0,[(9,.slice tE ((j+1)) (tF))])] ?_
     refine NL (ai.np (ai.aN (NX (af.region ?_))))
     refine gK 2 [(81,vI ↑(j+1))] [(0,p_ ⟨[],none,none,none,some (vI ↑(j+1))⟩ [(Value.int .i64 (IntKind.wrap .i64 (((j:Nat):Int)+1)))=(.int .i64 ↑(j+1))] ⟨bD (by omega) (by omega) (by omega),trivial⟩)] ?_
     refine NL ?_
     exact ai.turn ((j+1),tE,tF) (idx:=[0,2,3,8,11,19,20,21,79,80,81]) (pk:=[0,1,2,3,4,5,6,7,8,9,10,11,12,13,14,15,16]) (show (((j+1))<=(obj S.O tk).ah.length) from (by omega)) (by show (obj S.O tk).ah.length - ((j+1)) < (obj S.O tk).ah.length - j;omega) (fun _=>by kernel_rfl) rfl (by kernel_rfl)
    have hke:(obj S.O ek).kind=3:=hI.kind zK
    refine af.bP (S:=[Fe L tk S,pO S.O L,jm b15 S i tk Ae j ce]) [0,1,2,3,4,5,6,7,8,9,10,11,12,13,14,15,16,17] 9 [2,13,0] (by kernel_rfl) (by kernel_rfl) rfl (by kernel_rfl) ?_
    refine gR 1 [8,9,10,11,12,13,14,15,16,17] (Ff f b4 b5 b15 L tk A7 S c8 i dO eV j++qH Ae j ce S tk++[(91,.map (some (L.m tk))),(92,.string (eZ (obj S.O tk).ah j))]) [0,1,2,3,4,5,6,7] [(1,a_ 2 b15),(6,v_ 1 (br L hkt))] ?_
    refine aL.dW 0 (d:=(some 93)) (t:=136) (K:=9) (E:=124) (b:=(L.m tk)) (cnt:=(obj S.O tk).ah.length) (f:=(iD L (obj S.O tk).ah)) (x:=(.tmp 91)) (ix:=(.tmp 92)) (key:=.string (eZ (obj S.O tk).ah j)) (z:=.nilIface) (kl:=(.string (eZ (obj S.O tk).ah j).data.toList)) (q:=(some (dz L ⟨ek,3⟩))) (by kernel_rfl) (by kernel_rfl) (fun _=>by kernel_rfl) (fun _=>by kernel_rfl) zq Tryz.underlying136 (fun _=>by kernel_rfl) (Cg (by omega)) (by rw [rL,hle];rfl) (by kernel_rfl) ?_
    refine mL [2,13,0] [] (cU (L.b ek)) ?_ (by rintro _ _ ⟨rfl,rfl⟩;rfl)
    rintro _ _ ⟨rfl,rfl⟩
    refine aL.cut (ι:=Unit) (fr':=fun (_:Unit)=>(lJ f b4 b5 b15 L tk A7 S c8 i dO eV j++qH Ae j ce S tk++[(95,vP (L.b ek))])) (hp':=fun (_:Unit)=>([jm b15 S i tk Ae j ce,nR Ae j ce S tk]++kB L tk S b16 dO eV b5 An i cn K A7 c8 b4 f m t R)) [2,13,0] rfl rfl ?_ rfl (fun _=>by kernel_rfl) ?_
    ·refine gK 1 [(95,vP (L.b ek))] [] ?_
     refine NL ?_
     exact MD () [0,2,3,8,11,19,20,21,79,80,81,86,87,95] [0,1,2,3,4,5,6,7,8,9,10,11,12,13,14,15,16]
    rintro _
    refine aL.cut (ι:=Unit) (fr':=fun (_:Unit)=>(lJ f b4 b5 b15 L tk A7 S c8 i dO eV j++qH Ae j ce S tk++[(96,vP (L.b ek))])) (hp':=fun (_:Unit)=>([jm b15 S i tk Ae j ce,nR Ae j ce S tk]++kB L tk S b16 dO eV b5 An i cn K A7 c8 b4 f m t R)) [2,13,0] rfl rfl ?_ rfl (fun _=>by kernel_rfl) ?_
    ·refine gK 1 [(96,vP (L.b ek))] [] ?_
     refine NL ?_
     exact MD () [0,2,3,8,11,19,20,21,79,80,81,86,87,96] [0,1,2,3,4,5,6,7,8,9,10,11,12,13,14,15,16]
    rintro _
    refine aL.cut (ι:=Unit) (fr':=fun (_:Unit)=>(lJ f b4 b5 b15 L tk A7 S c8 i dO eV j++qH Ae j ce S tk++[(97,vI ((obj S.O ek).id))])) (hp':=fun (_:Unit)=>([jm b15 S i tk Ae j ce,nR Ae j ce S tk]++kB L tk S b16 dO eV b5 An i cn K A7 c8 b4 f m t R)) [2,13,0] rfl rfl ?_ rfl (fun _=>by kernel_rfl) ?_
    ·refine gK 1 [(97,vI ((obj S.O ek).id))] [(0,v_ 13 (qC L hke))] ?_
     refine NL ?_
     exact MD () [0,2,3,8,11,19,20,21,79,80,81,86,87,97] [0,1,2,3,4,5,6,7,8,9,10,11,12,13,14,15,16]
    rintro _
    refine aL.cut (ι:=Unit) (fr':=fun (_:Unit)=>(lJ f b4 b5 b15 L tk A7 S c8 i dO eV j++[(86,.slice Ae (j) (ce)),(98,.agg #[.string (eZ (obj S.O tk).ah j),vI ((obj S.O ek).id)])])) (hp':=fun (_:Unit)=>([jm b15 S i tk Ae j ce,nR Ae j ce S tk]++kB L tk S b16 dO eV b5 An i cn K A7 c8 b4 f m t R)) [2,13,0] rfl rfl ?_ rfl (fun _=>by kernel_rfl) ?_
    ·refine gK 1 [(98,.agg #[.string (eZ (obj S.O tk).ah j),vI ((obj S.O ek).id)])] [] ?_
     refine NL ?_
     exact MD () [0,2,3,8,11,19,20,21,79,80,81,86,98] [0,1,2,3,4,5,6,7,8,9,10,11,12,13,14,15,16]
    rintro _
    refine mN [2,13,0] (fun oL=>[(99,.slice (some ⟨oL,0,none⟩) (1) (1))]) (fun _=>[]) (fun oL=>.blk oL [.string (eZ (obj S.O tk).ah j),vI ((obj S.O ek).id)] 140) (fun oL=>?_)
    refine aL.cut (ι:=(Option Addr)×Nat) (fr':=fun ((lp,lS):(Option Addr)×Nat)=>(lJ f b4 b5 b15 L tk A7 S c8 i dO eV j++[(100,.slice lp ((j+1)) (lS))])) (hp':=fun ((lp,lS):(Option Addr)×Nat)=>([jm b15 S i tk Ae j ce,CI lp j lS S tk]++kB L tk S b16 dO eV b5 An i cn K A7 c8 b4 f m t R++[CJ oL S tk j ek])) [2,13,0] rfl rfl ?_ rfl (fun _=>by kernel_rfl) ?_
    ·refine aj.append 1 (d:=(some 100)) (t:=68) (e:=140) (z:=.agg #[.string ⟨#[]⟩,vI 0]) (size:=2) (bytes:=24) (n:=j) (cap:=ce) (A:=Ae) (xs:=(gJ (((obj S.O tk).ah.take j).map (lH S.O)))) (s:=(.tmp 86)) (x:=(.tmp 99)) (ats:=#[68,68]) (A':=some ⟨oL,0,none⟩) (m:=1) (c':=1) (news:=[.string (eZ (obj S.O tk).ah j),vI ((obj S.O ek).id)]) (fun _=>by kernel_rfl) rfl (by kernel_rfl) (fun _=>by kernel_rfl) (fun _=>by kernel_rfl) Tryz.underlying68 (by kernel_rfl) rfl (by decide) (rfl) (by simp [Value.oneCell']) (lD (j:=17) rfl) (by unfold maxLen;omega) (by omega) (fun lp lS=>?_)
     refine aj.dK 1 (p:=.abs (aH 140 2 lp (j+1) lS ((gJ (((obj S.O tk).ah.take j).map (lH S.O)))++[.string (eZ (obj S.O tk).ah j),vI ((obj S.O ek).id)]))) (p':=.abs (aH 140 2 lp (j+1) lS (gJ (((obj S.O tk).ah.take (j+1)).map (lH S.O))))) (by kernel_rfl) (congrArg (fun x=>HP.abs (aH 140 2 _ _ _ x)) (xH hj2 Ky)) ?_
     refine aj.slot 100 (.slice lp (j+1) (lS)) (.slice lp ((j+1)) (lS)) (fun _=>by kernel_rfl) (rfl) ?_
     refine NL ?_
     exact MD (lp,lS) [0,2,3,8,11,19,20,21,79,80,81,100] [0,1,2,3,4,5,6,7,8,9,10,11,12,13,14,15,16,17]
    rintro⟨lp,lS⟩
    refine aL.cut (ι:=Unit) (fr':=fun (_:Unit)=>(lJ f b4 b5 b15 L tk A7 S c8 i dO eV j++[(100,.slice lp ((j+1)) (lS)),(101,.pointer (some ⟨b15,9,none⟩))])) (hp':=fun (_:Unit)=>([jm b15 S i tk Ae j ce,CI lp j lS S tk]++kB L tk S b16 dO eV b5 An i cn K A7 c8 b4 f m t R++[CJ oL S tk j ek])) [2,13,0] rfl rfl ?_ rfl (fun _=>by kernel_rfl) ?_
    ·refine gK 1 [(101,.pointer (some ⟨b15,9,none⟩))] [] ?_
     refine NL ?_
     exact MD () [0,2,3,8,11,19,20,21,79,80,81,100,101] [0,1,2,3,4,5,6,7,8,9,10,11,12,13,14,15,16,17]
    rintro _
    refine aL.last rfl rfl ?_
    refine gC 1 [] [(0,a_ 0 b15)] [(0,[(9,.slice lp ((j+1)) (lS))])] ?_
    refine NL (ai.np (ai.aN (NX (af.region ?_))))
    refine gK 2 [(81,vI ↑(j+1))] [(0,p_ ⟨[],none,none,none,some (vI ↑(j+1))⟩ [(Value.int .i64 (IntKind.wrap .i64 (((j:Nat):Int)+1)))=(.int .i64 ↑(j+1))] ⟨bD (by omega) (by omega) (by omega),trivial⟩)] ?_
    refine NL ?_
    exact ai.turn ((j+1),lp,lS) (idx:=[0,2,3,8,11,19,20,21,79,80,81]) (pk:=[0,1,2,3,4,5,6,7,8,9,10,11,12,13,14,15,16]) (show (((j+1))<=(obj S.O tk).ah.length) from (by omega)) (by show (obj S.O tk).ah.length - ((j+1)) < (obj S.O tk).ah.length - j;omega) (fun _=>by kernel_rfl) rfl (by kernel_rfl)
   refine af.exit (ai.aX (ai.aX (ai.cP (ai.aN (NX (af.region ?_))))))
   have hjl:j=(obj S.O tk).ah.length:=by omega
   refine aj.mem (cF:=([pE S.O L,jm b15 S i tk Ae j ce,nR Ae j ce S tk,Qs b16 L tk,Qt dO S tk eV]++vA b5 An i cn K S A7 c8 b4 f m t L++[pD S.O L,.abs R])) (fun w hS=>hS.Pz (i:=15) (j:=2) (idx:=[0,1,3,4,5,6,7,8,9,10,11,12,13,14,16]) (k:=tk) rfl rfl (by kernel_rfl) rfl (hkt)) ?_
   refine gN 4 (fun He=>[(104,.slice An (i) (cn)),(106,.slice (some ⟨He,0,none⟩) (1) (1))]) (fun He=>[(1,a_ 5 b5),(2,A_ 1 b15 10)]) (fun _=>[]) (fun He=>.blk He [vI ((cL S i)),vI 2,vI ((obj S.O tk).mode),vI ((obj S.O tk).uid),vI ((obj S.O tk).gid),vI ((obj S.O tk).sec),vI ((obj S.O tk).nano),.slice none (0) (0),.string ⟨#[]⟩,.slice Ae (j) (ce)] 70) (fun He=>?_)
   refine aj.append 6 (d:=(some 107)) (t:=22) (e:=70) (z:=.agg #[vI 0,vI 0,vI 0,vI 0,vI 0,vI 0,vI 0,.slice none (0) (0),.string ⟨#[]⟩,.slice none (0) (0)]) (size:=10) (bytes:=120) (n:=i) (cap:=cn) (A:=An) (xs:=(dr K ((aS S).take i))) (s:=(.tmp 104)) (x:=(.tmp 106)) (ats:=#[22,22]) (A':=some ⟨He,0,none⟩) (m:=1) (c':=1) (news:=[vI ((cL S i)),vI 2,vI ((obj S.O tk).mode),vI ((obj S.O tk).uid),vI ((obj S.O tk).gid),vI ((obj S.O tk).sec),vI ((obj S.O tk).nano),.slice none (0) (0),.string ⟨#[]⟩,.slice Ae (j) (ce)]) (fun _=>by kernel_rfl) rfl (by kernel_rfl) (fun _=>by kernel_rfl) (fun _=>by kernel_rfl) Tryz.underlying22 (by kernel_rfl) rfl (by decide) (rfl) (by simp [Value.oneCell']) (lD (j:=16) rfl) (by unfold maxLen;omega) (by omega) (fun Hf Hg=>?_)
   refine aj.dK 6 (p:=.abs (aH 70 10 Hf (i+1) Hg ((dr K ((aS S).take i))++[vI ((cL S i)),vI 2,vI ((obj S.O tk).mode),vI ((obj S.O tk).uid),vI ((obj S.O tk).gid),vI ((obj S.O tk).sec),vI ((obj S.O tk).nano),.slice none (0) (0),.string ⟨#[]⟩,.slice Ae (j) (ce)]))) (p':=.abs (aH 70 10 Hf (i+1) Hg (dr (K.put i none 0 Ae ce) ((aS S).take (i+1))))) (by kernel_rfl) (congrArg (fun x=>HP.abs (aH 70 10 _ _ _ x)) (vu (dJ (by omega)) (sC hI.toInv0 hi2 kH hlv) rfl (by show ((obj S.O tk).ah.map (lH S.O)).length=j;rw [List.length_map,hjl]))) ?_
   refine aj.slot 107 (.slice Hf (i+1) (Hg)) (.slice Hf ((i+1)) (Hg)) (fun _=>by kernel_rfl) (rfl) ?_
   refine gC 2 [] [(1,a_ 5 b5)] [(5,[(0,.slice Hf ((i+1)) (Hg))])] ?_
   refine NL (ai.aN (NX (af.region ?_)))
   refine gK 2 [(21,vI ↑(i+1))] [(0,p_ ⟨[],none,none,none,some (vI ↑(i+1))⟩ [(Value.int .i64 (IntKind.wrap .i64 (((i:Nat):Int)+1)))=(.int .i64 ↑(i+1))] ⟨bD (by omega) (by omega) (by omega),trivial⟩)] ?_
   refine NL (ai.mem (fun w hS=>hS.jO (e:=5) (size:=1)) ?_)
   refine ai.mem (fun w hS=>hS.rK (R':=(kX ((aS S).take (i+1)) (K.put i none 0 Ae ce))) (i:=8) (j:=17) (idx:=[0,1,2,3,4,5,6,7,9,10,11,12,13,14,15,16]) rfl rfl (by kernel_rfl) rfl (zL (dJ (by omega)) (sC hI.toInv0 hi2 kH hlv)) (xE (dJ (by omega)) (sC hI.toInv0 hi2 kH hlv) rfl)) ?_
   refine ai.mem (fun w hS=>hS.rK (R':=(kW ((aS S).take (i+1)) (K.put i none 0 Ae ce))) (i:=8) (j:=3) (idx:=[0,1,2,4,5,6,7,9,10,11,12,13,14,15,16]) rfl rfl (by kernel_rfl) rfl (zM (dJ (by omega)) (sC hI.toInv0 hi2 kH hlv)) ((xG (dJ (by omega)) (sC hI.toInv0 hi2 kH hlv) (by show ((obj S.O tk).ah.map (lH S.O)).length=j;rw [List.length_map,hjl])).trans (by rw [hjl,List.take_length]))) ?_
   exact ai.turn ((i+1),Hf,Hg,(K.put i none 0 Ae ce)) (idx:=[0,2,3,19,20,21]) (pk:=[6,7,0,1,8,9,10,11,12,13,2,14]) (show (((i+1))<=S.idx.length) from (by omega)) (by show S.idx.length - ((i+1)) < S.idx.length - i;omega) (fun _=>by kernel_rfl) rfl (by kernel_rfl)
  have hkt:(obj S.O tk).kind=3:=hI.kind hlv
  have hel:(obj S.O tk).ah.length<=8192:=hI.fV hlv
  have hdl:(obj S.O tk).data.length<=140737488355328:=hI.Iy hlv
  refine af.region (gK 5 [(28,.map (some m)),(29,vI ((cL S i)))] [(3,a_ 6 f)] ?_)
  refine aj.dW 7 (d:=(some 30)) (t:=120) (K:=3) (E:=124) (b:=m) (n:=S.idx.length) (f:=(aW (aV L S.idx))) (x:=(.tmp 28)) (ix:=(.tmp 29)) (key:=.int .i64 ((cL S i))) (z:=.nilIface) (kl:=(.int .i64 (cL S i))) (r:=(some (dz L ⟨tk,3⟩))) (fun _=>by kernel_rfl) (by kernel_rfl) (fun _=>by kernel_rfl) (fun _=>by kernel_rfl) dQ Tryz.underlying120 (fun _=>by kernel_rfl) (gS (CH hI.toInv0 hi2)) (by rw [eW,hget,kH];rfl) ?_
  refine gK 1 [(6,.iface 132 (vP (L.b tk)))] [] ?_
  refine NS (gK 1 [(31,.iface 132 (vP (L.b tk)))] [] ?_)
  refine gL [] (cU (L.b tk)) ?_
  rintro _ _ ⟨rfl,rfl⟩
  refine gK 1 [(7,vP (L.b tk))] [] ?_
  refine NN (af.seq (af.rE (S:=[pO S.O L]) [0,1,3,4,5,6,7,8,9,10,11,12,13,14,15,16,17,18] [.beside [2,19] 20,.one 21] [8] (by kernel_rfl) (by kernel_rfl) rfl (by kernel_rfl) ?_))
  refine gP (xJ f b4 b5++[(6,.iface 132 (vP (L.b tk)))]++xK A7 S c8 i++[(33,vI ((cL S i))),(34,.iface 132 (vP (L.b tk)))]++CK S tk) [0,1,3,4,5,6,7,8,9,10,11,12,13,14,15,16,17,18] [(5,v_ 0 (rY L hkt)),(9,v_ 0 (x7 L hkt)),(13,v_ 0 (x9 L hkt)),(17,p_ ⟨[.view 0 (.int .i64 ((obj S.O tk).sec)),.view 0 (.int .i64 ((obj S.O tk).nano))],none,none,none,none⟩ [(∀ F w,(ax (bB S.O L)).h F w->w.cell? ⟨(L.b tk),5,none⟩=some (vI ((obj S.O tk).nano))),(∀ F w,(ax (bB S.O L)).h F w->w.cell? ⟨(L.b tk),4,none⟩=some (vI ((obj S.O tk).sec)))] ⟨dR (by rw [hkt];decide) (rfl),dR (by rw [hkt];decide) (rfl),trivial⟩)] ?_
  refine iE.beside (j:=20) (dj:=8) (R:=fun f_ l_=>f_=([(52,.agg #[vI ((cL S i)),vI 3,vI ((obj S.O tk).mode),vI ((obj S.O tk).uid),vI ((obj S.O tk).gid),vI ((obj S.O tk).sec),vI ((obj S.O tk).nano),.slice none (0) (0),.string ⟨#[]⟩,.slice none (0) (0)]),(35,vI 3)]++xJ f b4 b5++[(6,.iface 132 (vP (L.b tk)))]++xK A7 S c8 i++[(33,vI ((cL S i))),(34,.iface 132 (vP (L.b tk)))]++CK S tk)/\l_=[]) [0,1,2,3,4,5,6,7,8,9,10,11] [8] [(2,35),(19,52)] rfl (pc:=[]) (pj:=[]) (Z:=(vA b5 An i cn K S A7 c8 b4 f m t L++[pD S.O L,pE S.O L,.abs R])) (by kernel_rfl) rfl (by kernel_rfl) rfl rfl (kz.of (ι:=Nat) (v:=fun (uI:Nat)=>vP uI) (l:=fun (uI:Nat)=>[Qq uI]) [35,52] rfl rfl rfl rfl ?_) ?_ ?_
  ·intro u Aq
   show aj _ _ _ _ _ [(35,(u 35)),(52,(u 52)),(0,vP f),(2,vP b4),(3,vP b5),(6,.iface 132 (vP (L.b tk))),(19,.slice A7 ((keys S.idx).length) (c8)),(20,vI ↑((keys S.idx).length)),(21,vI ↑i),(33,vI ((cL S i))),(34,.iface 132 (vP (L.b tk))),(39,vI ((obj S.O tk).mode)),(43,vI ((obj S.O tk).uid)),(47,vI ((obj S.O tk).gid)),(51,.agg #[vI ((obj S.O tk).sec),vI ((obj S.O tk).nano)])] [.abs Aq] _
   refine gN 1 (fun uI=>[(8,vP uI)]) (fun _=>[]) (fun _=>[]) (fun uI=>.blk uI [vI 0,vI 0,vI 0,vI 0,vI 0,vI 0,vI 0,.slice none (0) (0),.string ⟨#[]⟩,.slice none (0) (0)] 70) (fun uI=>?_)
   refine NL ?_
   exact MD uI [8,35,52,0,2,3,6,19,20,21,33,34,39,43,47,51] [1,0]
  ·refine kA.step (kz.of (ι:=Unit) (v:=fun (_:Unit)=>.int .i64 3) (l:=fun (_:Unit)=>[]) [8] rfl rfl rfl rfl ?_) rfl ?_
   ·intro u Aq
    show aj _ _ _ _ _ [(8,(u 8)),(0,vP f),(2,vP b4),(3,vP b5),(6,.iface 132 (vP (L.b tk))),(19,.slice A7 ((keys S.idx).length) (c8)),(20,vI ↑((keys S.idx).length)),(21,vI ↑i),(33,vI ((cL S i))),(34,.iface 132 (vP (L.b tk))),(39,vI ((obj S.O tk).mode)),(43,vI ((obj S.O tk).uid)),(47,vI ((obj S.O tk).gid)),(51,.agg #[vI ((obj S.O tk).sec),vI ((obj S.O tk).nano)])] [.abs Aq] _
    refine gL [] (nM (vP (L.b tk))) ?_
    rintro _ _ ⟨rfl,rfl⟩
    refine NL ?_
    exact MD () [35,8,0,2,3,6,19,20,21,33,34,39,43,47,51] [0]
   rintro _ _ ⟨_,rfl,rfl⟩
   refine kA.step (kz.of (ι:=Unit) (v:=fun (_:Unit)=>.agg #[vI ((cL S i)),vI 3,vI ((obj S.O tk).mode),vI ((obj S.O tk).uid),vI ((obj S.O tk).gid),vI ((obj S.O tk).sec),vI ((obj S.O tk).nano),.slice none (0) (0),.string ⟨#[]⟩,.slice none (0) (0)]) (l:=fun (_:Unit)=>[]) [8] rfl rfl rfl rfl ?_) rfl ?_
   ·intro u Aq
    show aj _ _ _ _ _ [(8,(u 8)),(35,vI 3),(0,vP f),(2,vP b4),(3,vP b5),(6,.iface 132 (vP (L.b tk))),(19,.slice A7 ((keys S.idx).length) (c8)),(20,vI ↑((keys S.idx).length)),(21,vI ↑i),(33,vI ((cL S i))),(34,.iface 132 (vP (L.b tk))),(39,vI ((obj S.O tk).mode)),(43,vI ((obj S.O tk).uid)),(47,vI ((obj S.O tk).gid)),(51,.agg #[vI ((obj S.O tk).sec),vI ((obj S.O tk).nano)])] [.abs Aq] _
    refine gK 1 [(52,.agg #[vI ((cL S i)),vI 3,vI ((obj S.O tk).mode),vI ((obj S.O tk).uid),vI ((obj S.O tk).gid),vI ((obj S.O tk).sec),vI ((obj S.O tk).nano),.slice none (0) (0),.string ⟨#[]⟩,.slice none (0) (0)])] [] ?_
    refine NL ?_
    exact MD () [52,8,35,0,2,3,6,19,20,21,33,34,39,43,47,51] [0]
   rintro _ _ ⟨_,rfl,rfl⟩
   exact⟨rfl,rfl⟩
  rintro _ _ ⟨rfl,rfl⟩ _ _ ⟨uI,rfl,rfl⟩
  refine iE.last rfl rfl ?_
  refine gC 1 [] [(0,A_ 0 uI 10)] [(0,([(0,vI ((cL S i))),(1,vI 3)]++Mu S tk))] ?_
  refine NL (ai.np (NX (af.seq (SR ?_))))
  refine gK 1 [(53,.iface 132 (vP (L.b tk)))] [] ?_
  refine NN (af.block (SR ?_))
  refine gK 3 [(55,.bool false),(56,.pointer none)] [] ?_
  refine NN (CF (SR (gK 3 [(64,.bool true),(65,vP (L.b tk))] [] ?_)))
  refine NN (CT (SR (gK 1 [(10,vP (L.b tk))] [] ?_)))
  refine NN (af.region (gC 6 [] [(3,v_ 9 (Rt L hkt)),(5,a_ 0 uI)] [(0,[(8,.string (obj S.O tk).target)])] ?_))
  refine NL (ai.aN (NX (af.region ?_)))
  refine gN 4 (fun b32=>[(104,.slice An (i) (cn)),(106,.slice (some ⟨b32,0,none⟩) (1) (1))]) (fun b32=>[(1,a_ 1 b5),(2,A_ 0 uI 10)]) (fun _=>[]) (fun b32=>.blk b32 [vI ((cL S i)),vI 3,vI ((obj S.O tk).mode),vI ((obj S.O tk).uid),vI ((obj S.O tk).gid),vI ((obj S.O tk).sec),vI ((obj S.O tk).nano),.slice none (0) (0),.string (obj S.O tk).target,.slice none (0) (0)] 70) (fun b32=>?_)
  refine aj.append 2 (d:=(some 107)) (t:=22) (e:=70) (z:=.agg #[vI 0,vI 0,vI 0,vI 0,vI 0,vI 0,vI 0,.slice none (0) (0),.string ⟨#[]⟩,.slice none (0) (0)]) (size:=10) (bytes:=120) (n:=i) (cap:=cn) (A:=An) (xs:=(dr K ((aS S).take i))) (s:=(.tmp 104)) (x:=(.tmp 106)) (ats:=#[22,22]) (A':=some ⟨b32,0,none⟩) (m:=1) (c':=1) (news:=[vI ((cL S i)),vI 3,vI ((obj S.O tk).mode),vI ((obj S.O tk).uid),vI ((obj S.O tk).gid),vI ((obj S.O tk).sec),vI ((obj S.O tk).nano),.slice none (0) (0),.string (obj S.O tk).target,.slice none (0) (0)]) (fun _=>by kernel_rfl) rfl (by kernel_rfl) (fun _=>by kernel_rfl) (fun _=>by kernel_rfl) Tryz.underlying22 (by kernel_rfl) rfl (by decide) (rfl) (by simp [Value.oneCell']) (lD (j:=13) rfl) (by unfold maxLen;omega) (by omega) (fun Hj Hl=>?_)
  refine aj.dK 2 (p:=.abs (aH 70 10 Hj (i+1) Hl ((dr K ((aS S).take i))++[vI ((cL S i)),vI 3,vI ((obj S.O tk).mode),vI ((obj S.O tk).uid),vI ((obj S.O tk).gid),vI ((obj S.O tk).sec),vI ((obj S.O tk).nano),.slice none (0) (0),.string (obj S.O tk).target,.slice none (0) (0)]))) (p':=.abs (aH 70 10 Hj (i+1) Hl (dr (K.put i none 0 none 0) ((aS S).take (i+1))))) (by kernel_rfl) (congrArg (fun x=>HP.abs (aH 70 10 _ _ _ x)) (vu (dJ (by omega)) (qx hI.toInv0 hi2 kH hlv) rfl rfl)) ?_
  refine aj.slot 107 (.slice Hj (i+1) (Hl)) (.slice Hj ((i+1)) (Hl)) (fun _=>by kernel_rfl) (rfl) ?_
  refine gC 2 [] [(1,a_ 1 b5)] [(1,[(0,.slice Hj ((i+1)) (Hl))])] ?_
  refine NL (ai.aN (NX (af.region ?_)))
  refine gK 2 [(21,vI ↑(i+1))] [(0,p_ ⟨[],none,none,none,some (vI ↑(i+1))⟩ [(Value.int .i64 (IntKind.wrap .i64 (((i:Nat):Int)+1)))=(.int .i64 ↑(i+1))] ⟨bD (by omega) (by omega) (by omega),trivial⟩)] ?_
  refine NL (ai.mem (fun w hS=>hS.jO (e:=5) (size:=1)) ?_)
  refine ai.mem (fun w hS=>hS.jO (e:=140) (size:=2)) ?_
  refine ai.mem (fun w hS=>hS.rK (R':=(kX ((aS S).take (i+1)) (K.put i none 0 none 0))) (i:=4) (j:=14) (idx:=[0,1,2,3,5,6,7,8,9,10,11,12,13,15]) rfl rfl (by kernel_rfl) rfl (zL (dJ (by omega)) (qx hI.toInv0 hi2 kH hlv)) (xE (dJ (by omega)) (qx hI.toInv0 hi2 kH hlv) rfl)) ?_
  refine ai.mem (fun w hS=>hS.rK (R':=(kW ((aS S).take (i+1)) (K.put i none 0 none 0))) (i:=4) (j:=14) (idx:=[0,1,2,3,5,6,7,8,9,10,11,12,13]) rfl rfl (by kernel_rfl) rfl (zM (dJ (by omega)) (qx hI.toInv0 hi2 kH hlv)) ((xG (dJ (by omega)) (qx hI.toInv0 hi2 kH hlv) rfl))) ?_
  exact ai.turn ((i+1),Hj,Hl,(K.put i none 0 none 0)) (idx:=[0,2,3,19,20,21]) (pk:=[3,4,0,1,5,6,7,8,9,10,11,12]) (show (((i+1))<=S.idx.length) from (by omega)) (by show S.idx.length - ((i+1)) < S.idx.length - i;omega) (fun _=>by kernel_rfl) rfl (by kernel_rfl)
 refine af.exit (ai.aX (ai.aX (ai.cP (NX (SR ?_)))))
 have hie:(aS S).length=i:=by rw [oJ];omega
 have hgt:((aS S).take i)=(aS S):=by rw [← hie,List.take_length]
 refine aj.dK 1 (p:=.abs (aH 70 10 An i cn (dr K ((aS S).take i)))) (p':=.abs (aH 70 10 An ((aS S).length) cn (dr K (aS S)))) (by kernel_rfl) (by rw [hgt,hie]) ?_
 refine aj.dK 2 (p:=.abs (jk (kW ((aS S).take i) K) i)) (p':=.abs (jk (kW (aS S) K) ((aS S).length))) (by kernel_rfl) (by rw [hgt,hie]) ?_
 refine aj.dK 3 (p:=.abs (jk (kX ((aS S).take i) K) i)) (p':=.abs (jk (kX (aS S) K) ((aS S).length))) (by kernel_rfl) (by rw [hgt,hie]) ?_
 refine gC 2 [] [(0,a_ 0 b5),(1,a_ 5 b4)] [(5,[(0,.slice An (i) (cn))])] ?_
 refine NN (af.ret ?_)
 exact ai.ret (v:=.agg #[.slice An (i) (cn)]) (l:=[pF f m t S.X,pI m L S.idx,pO S.O L,pD S.O L,pE S.O L,.abs (aH 70 10 An ((aS S).length) cn (dr K (aS S))),.abs (jk (kW (aS S) K) ((aS S).length)),.abs (jk (kX (aS S) K) ((aS S).length))]) (bA:=[b4=b4]) [.at 5] [6,7,8,9,10,1,2,3,11] (fun _=>by kernel_rfl) ⟨rfl,trivial⟩ rfl (by kernel_rfl) (⟨An,cn,K,by rw [hie],rfl⟩)
end
section
open Go.RowKit
attribute [local irreducible] aj aP af ai
theorem Mv {β:Bs} (A:Option Addr) (ns:List aK) (L:Lay) (hG:ay β A ns L) (hr:cQ ns) (i:Nat) (hi:i < ns.length) (hel:(nd ns i).ah.length<=1048576) (hwf:∀ j,j < (nd ns i).ah.length->-9223372036854775808<=(ent ns i j).id/\(ent ns i j).id<=9223372036854775807) (hnm:∀ j,j < (nd ns i).ah.length->(ent ns i j).name.size<=1048576)
    (mb mp:Nat) (ps:List (Nat×Nat)) (hpl:ps.length<=16777216) (hps:∀ p,p∈ps->p.1 < ns.length) (hnp:(ps.map Prod.fst).Nodup) :
    Spec Tryz.prog β 119 #[.pointer (some ⟨(av A),au A+i * 10,none⟩),.map (some mb),.map (some mp)] [.abs (aJ Tryz.prog 3 mb (mf (bf A ns ns.length)) ns.length),.abs (aJ Tryz.prog 3 mp (mf (pf ((ps).map (iZ ns)))) ((ps).length))] (fun v l=>(v=.bool true/\uW ns i ps/\l=[.abs (aJ Tryz.prog 3 mb (mf (bf A ns ns.length)) ns.length),.abs (aJ Tryz.prog 3 mp (mf (pf ((di ns i (nd ns i).ah.length++ps).map (iZ ns)))) ((di ns i (nd ns i).ah.length++ps).length))])\/(v=.bool false/\¬ uW ns i ps/\l=[])):=by
 refine Spec.enter Tryz.func119 rfl Tryz.ntmps119 (Nat.le_of_ble_eq_true rfl) (fun R=>?_)
 refine SR (gK 1 [] [] ?_)
 refine NS (gK 1 [(7,.string ⟨#[]⟩)] [] ?_)
 refine NN (af.seq (SR (gK 6 [(16,.slice (L.eA i) ((nd ns i).ah.length) ((L.eC i))),(17,vI ↑((nd ns i).ah.length)),(18,vI 0)] [(3,p_ ⟨[.old (.slice (L.eA i) ((nd ns i).ah.length) ((L.eC i)))],none,none,none,none⟩ [(Rd β ⟨(av A),au A+i * 10+9,none⟩ (.slice (L.eA i) ((nd ns i).ah.length) ((L.eC i))))] ⟨ay.rd hG (i:=i) (by omega) (j:=9) rfl,trivial⟩)] ?_)))
 refine NN (af.block ?_)
 refine af.loop (ι:=Nat) (fun (j:Nat)=>(j<=(nd ns i).ah.length)/\(∀ t,t < j->nH ns i t)/\(((di ns i j++ps).map Prod.fst).Nodup)) (fun (j:Nat)=>(nd ns i).ah.length - j) (fun (j:Nat)=>[(0,.pointer (some ⟨(av A),au A+i * 10,none⟩)),(1,.map (some mb)),(2,.map (some mp)),(7,.string (kN ns i j)),(16,.slice (L.eA i) ((nd ns i).ah.length) ((L.eC i))),(17,vI ↑((nd ns i).ah.length)),(18,vI ↑j)]) (fun (j:Nat)=>[.abs (aJ Tryz.prog 3 mb (mf (bf A ns ns.length)) ns.length),.abs (aJ Tryz.prog 3 mp (mf (pf ((di ns i j++ps).map (iZ ns)))) ((di ns i j++ps).length)),.abs R]) 0 (idx:=[0,1,2,7,16,17,18]) (pk:=[0,1,2]) (show (0<=(nd ns i).ah.length)/\(∀ t,t < 0->nH ns i t)/\(((di ns i 0++ps).map Prod.fst).Nodup) from ⟨Nat.zero_le _,fun t ht=>absurd ht (Nat.not_lt_zero t),hnp⟩) (fun _=>by kernel_rfl) rfl (by kernel_rfl) ?_
 rintro j ⟨hj,hok,hnd⟩
 show af _ _ _ _ [(0,.pointer (some ⟨(av A),au A+i * 10,none⟩)),(1,.map (some mb)),(2,.map (some mp)),(7,.string (kN ns i j)),(16,.slice (L.eA i) ((nd ns i).ah.length) ((L.eC i))),(17,vI ↑((nd ns i).ah.length)),(18,vI ↑j)] [.abs (aJ Tryz.prog 3 mb (mf (bf A ns ns.length)) ns.length),.abs (aJ Tryz.prog 3 mp (mf (pf ((di ns i j++ps).map (iZ ns)))) ((di ns i j++ps).length)),.abs R] _
 refine SR (gK 1 [(19,.bool (decide ((((j:Nat):Int):Int) < ((((nd ns i).ah.length:Nat):Int):Int))))] [] ?_)
 refine NN (af.seq (af.aZ (p:=(((j:Nat):Int):Int) < ((((nd ns i).ah.length:Nat):Int):Int)) (fun _=>by kernel_rfl) (fun UG=>?_) (fun UG=>?_)))
 ·refine af.skip (NX (af.seq (af.block (SR ?_))))
  refine gN 4 (fun b1=>[(9,vP b1)]) (fun b1=>[(0,p_ ⟨[],some j,none,some ⟨(av (L.eA i)),au (L.eA i),none⟩,none⟩ [((j:Nat):Int)=((j:Nat):Int),j < (nd ns i).ah.length,(⟨(av (L.eA i)),au (L.eA i),none⟩:Addr).spot=none,((L.eA i):Option Addr)=some ⟨(av (L.eA i)),au (L.eA i),none⟩] ⟨rfl,by omega,rfl,dN.hd (hG.ah i (by omega)) (i:=j) (by omega),trivial⟩),(1,p_ ⟨[.old (.string (en (nd ns i).ah j).name),.old (.int .i64 ((en (nd ns i).ah j).id))],none,none,none,none⟩ [(Rd β ⟨(av (L.eA i)),au (L.eA i)+j * 2+1,none⟩ (.int .i64 ((en (nd ns i).ah j).id))),(Rd β ⟨(av (L.eA i)),au (L.eA i)+j * 2,none⟩ (.string (en (nd ns i).ah j).name))] ⟨dN.rd (hG.ah i (by omega)) (i:=j) (by omega) (j:=1) rfl,dN.rd (hG.ah i (by omega)) (i:=j) (by omega) (j:=0) rfl,trivial⟩),(3,A_ 3 b1 2)]) (fun _=>[]) (fun b1=>.blk b1 [.string (en (nd ns i).ah j).name,vI ((en (nd ns i).ah j).id)] 140) (fun b1=>?_)
  refine NS (gK 3 [(22,.map (some mb)),(24,vI ((en (nd ns i).ah j).id))] [(2,a_ 3 b1)] ?_)
  by_cases hat:0<=oQ ns (en (nd ns i).ah j).id
  ·have htl:=nu hat
   refine aj.dW 0 (d:=(some 25)) (t:=160) (K:=3) (E:=161) (b:=mb) (n:=ns.length) (f:=(mf (bf A ns ns.length))) (x:=(.tmp 22)) (ix:=(.tmp 24)) (key:=.int .i64 ((en (nd ns i).ah j).id)) (z:=.pointer none) (kl:=(.int .i64 (en (nd ns i).ah j).id)) (r:=(some (.pointer (some ⟨(av A),au A+(tgt ns (en (nd ns i).ah j).id) * 10,none⟩)))) (fun _=>by kernel_rfl) (by kernel_rfl) (fun _=>by kernel_rfl) (fun _=>by kernel_rfl) dQ Tryz.underlying160 (fun _=>by kernel_rfl) (o3 (hwf j (by omega)).1 (hwf j (by omega)).2) (Rp hat htl.1) ?_
   refine gK 1 [(10,.pointer (some ⟨(av A),au A+(tgt ns (en (nd ns i).ah j).id) * 10,none⟩))] [] ?_
   refine NN (af.seq (SR (gK 5 [(28,.bool false),(30,.string (en (nd ns i).ah j).name)] [(4,a_ 3 b1)] ?_)))
   refine gL [] (rW (en (nd ns i).ah j).name (hnm j (by omega))) ?_
   rintro _ _ ⟨rfl,rfl⟩
   refine gK 3 [(34,.bool (!(decide (bI (en (nd ns i).ah j).name))))] [] ?_
   refine aj.iF 34 (bI (en (nd ns i).ah j).name) (fun _=>by kernel_rfl) (fun yP=>?_) (fun yP=>?_)
   ·refine gK 5 [(39,.bool true)] [] ?_
    refine NN (CT (SR (gK 1 [(6,.bool false)] [] ?_)))
    refine NN (af.ret (ai.ak (ai.aF (ai.ak (ai.ak (ai.aF (ai.ak ?_)))))))
    exact RT (l:=[]) (.bool false) [2] (.inr ⟨rfl,fun h=>yP (h.ah j (by omega)).good,rfl⟩)
   refine gK 5 [(39,.bool (decide (lM ((en (nd ns i).ah j).name) (kN ns i j))))] [(1,a_ 3 b1),(3,p_ ⟨[],none,none,none,some (.bool (decide (lM ((en (nd ns i).ah j).name) (kN ns i j))))⟩ [(Value.bool (Op.bytesLess (((en (nd ns i).ah j).name):ByteArray).toList (((kN ns i j)):ByteArray).toList || (((en (nd ns i).ah j).name):ByteArray).toList == (((kN ns i j)):ByteArray).toList))=(.bool (decide (lM ((en (nd ns i).ah j).name) (kN ns i j))))] ⟨Pw _ _,trivial⟩)] ?_
   refine NN (af.aZ (p:=lM ((en (nd ns i).ah j).name) (kN ns i j)) (fun _=>by kernel_rfl) (fun iY=>?_) (fun iY=>?_))
   ·refine SR (gK 1 [(6,.bool false)] [] ?_)
    refine NN (af.ret (ai.ak (ai.aF (ai.ak (ai.ak (ai.aF (ai.ak ?_)))))))
    exact RT (l:=[]) (.bool false) [2] (.inr ⟨rfl,fun h=>(h.ah j (by omega)).ord iY,rfl⟩)
   refine af.skip (NX (SR (gK 3 [(7,.string (en (nd ns i).ah j).name)] [(1,a_ 3 b1)] ?_)))
   refine NN (af.seq (SR (gK 5 [(46,.bool (!(decide (((nd ns (tgt ns (en (nd ns i).ah j).id)).kind:Int)=(2:Int)))))] [(3,p_ ⟨[.old (.int .i64 ((nd ns (tgt ns (en (nd ns i).ah j).id)).kind))],none,none,none,none⟩ [(Rd β ⟨(av A),au A+(tgt ns (en (nd ns i).ah j).id) * 10+1,none⟩ (.int .i64 ((nd ns (tgt ns (en (nd ns i).ah j).id)).kind)))] ⟨ay.rd hG (i:=(tgt ns (en (nd ns i).ah j).id)) (by omega) (j:=1) rfl,trivial⟩)] ?_)))
   refine NN (af.cT (p:=((nd ns (tgt ns (en (nd ns i).ah j).id)).kind:Int)=(2:Int)) (fun _=>by kernel_rfl) (fun h46=>?_) (fun h46=>?_))
   ·refine af.exit (ai.aX (ai.cP (NX (af.region ?_))))
    refine aj.dK 1 (p:=.abs (aJ Tryz.prog 3 mp (mf (pf ((di ns i j++ps).map (iZ ns)))) ((di ns i j++ps).length))) (p':=.abs (aJ Tryz.prog 3 mp (mf (pf ((di ns i (j+1)++ps).map (iZ ns)))) ((di ns i (j+1)++ps).length))) (by kernel_rfl) (by rw [sV h46]) ?_
    refine gK 2 [(18,vI ↑(j+1))] [(0,p_ ⟨[],none,none,none,some (vI ↑(j+1))⟩ [(Value.int .i64 (IntKind.wrap .i64 (((j:Nat):Int)+1)))=(.int .i64 ↑(j+1))] ⟨bD (by omega) (by omega) (by omega),trivial⟩)] ?_
    refine NL ?_
    exact ai.turn ((j+1)) (idx:=[0,1,2,7,16,17,18]) (pk:=[0,1,2]) (show (((j+1))<=(nd ns i).ah.length)/\(∀ t,t < ((j+1))->nH ns i t)/\(((di ns i ((j+1))++ps).map Prod.fst).Nodup) from ⟨by omega,fun t ht=>(by rcases Nat.lt_succ_iff_lt_or_eq.1 ht with h|h;exact hok t h;subst h;exact⟨hat,yP,iY⟩),(by rw [sV h46];exact hnd)⟩) (by show (nd ns i).ah.length - ((j+1)) < (nd ns i).ah.length - j;omega) (fun _=>by kernel_rfl) rfl (by kernel_rfl)
   refine af.skip (NX (af.seq (SR (gK 3 [(48,.map (some mp)),(50,vI ((en (nd ns i).ah j).id))] [(2,a_ 3 b1)] ?_))))
   rcases hup:up ((di ns i j++ps).map (iZ ns)) (en (nd ns i).ah j).id with _|y
   ·refine aj.sR 1 (d:=(some 51)) (t:=179) (K:=3) (E:=3) (b:=mp) (n:=(di ns i j++ps).length) (f:=(mf (pf ((di ns i j++ps).map (iZ ns))))) (x:=(.tmp 48)) (ix:=(.tmp 50)) (key:=.int .i64 ((en (nd ns i).ah j).id)) (z:=.int .i64 0) (kl:=(.int .i64 (en (nd ns i).ah j).id)) (r:=none) (fun _=>by kernel_rfl) (by kernel_rfl) (fun _=>by kernel_rfl) (fun _=>by kernel_rfl) dQ Tryz.underlying179 (fun _=>by kernel_rfl) (o3 (hwf j (by omega)).1 (hwf j (by omega)).2) (uV hup) ?_
    refine gK 5 [(12,.bool false)] [] ?_
    refine NS (gK 1 [(54,.bool false)] [] ?_)
    refine NN (CF (af.skip (NX (af.tM 7 (by kernel_rfl) (by kernel_rfl) ?_))))
    refine ia.seg (k':=7) (fr':=[(0,.pointer (some ⟨(av A),au A+i * 10,none⟩)),(1,.map (some mb)),(2,.map (some mp)),(7,.string (en (nd ns i).ah j).name),(16,.slice (L.eA i) ((nd ns i).ah.length) ((L.eC i))),(17,vI ↑((nd ns i).ah.length)),(18,vI ↑j),(55,.map (some mp)),(57,vI ((en (nd ns i).ah j).id)),(61,vI ((nd ns i).id))]) (bA:=[(Rd β ⟨(av A),au A+i * 10,none⟩ (.int .i64 ((nd ns i).id))),b1=b1]) [o_,o_,⟨[.at 3],none,none,none,none⟩,o_,o_,o_,⟨[.old (.int .i64 ((nd ns i).id))],none,none,none,none⟩] [0,1,2,7,16,17,18,55,57,61] (fun _ _=>by kernel_rfl) ⟨ay.rd hG (i:=i) (by omega) (j:=0) rfl,rfl,trivial⟩ (by decide) ?_
    refine ia.done rfl ?_
    refine aj.j8 1 (d:=none) (t:=179) (K:=3) (E:=3) (b:=mp) (n:=(di ns i j++ps).length) (f:=(mf (pf ((di ns i j++ps).map (iZ ns))))) (x:=(.tmp 55)) (ix:=(.tmp 57)) (y:=(.tmp 61)) (key:=.int .i64 ((en (nd ns i).ah j).id)) (u:=.int .i64 ((nd ns i).id)) (kl:=(.int .i64 (en (nd ns i).ah j).id)) (n':=(di ns i (j+1)++ps).length) (f':=(mf (pf ((di ns i (j+1)++ps).map (iZ ns))))) (fun _=>by kernel_rfl) (by kernel_rfl) (fun _=>by kernel_rfl) (fun _=>by kernel_rfl) (fun _=>by kernel_rfl) dQ Tryz.underlying179 (by have:=Es ns i j;rw [List.length_append];unfold maxLen;omega) (o3 (hwf j (by omega)).1 (hwf j (by omega)).2) (Lr (uV hup) h46) (Lp hat h46) ?_
    refine NL (ai.aN (NX (af.region ?_)))
    refine gK 2 [(18,vI ↑(j+1))] [(0,p_ ⟨[],none,none,none,some (vI ↑(j+1))⟩ [(Value.int .i64 (IntKind.wrap .i64 (((j:Nat):Int)+1)))=(.int .i64 ↑(j+1))] ⟨bD (by omega) (by omega) (by omega),trivial⟩)] ?_
    refine NL ?_
    exact ai.turn ((j+1)) (idx:=[0,1,2,7,16,17,18]) (pk:=[0,1,2]) (show (((j+1))<=(nd ns i).ah.length)/\(∀ t,t < ((j+1))->nH ns i t)/\(((di ns i ((j+1))++ps).map Prod.fst).Nodup) from ⟨by omega,fun t ht=>(by rcases Nat.lt_succ_iff_lt_or_eq.1 ht with h|h;exact hok t h;subst h;exact⟨hat,yP,iY⟩),(Ia hat h46 hup hnd)⟩) (by show (nd ns i).ah.length - ((j+1)) < (nd ns i).ah.length - j;omega) (fun _=>by kernel_rfl) rfl (by kernel_rfl)
   refine aj.sR 1 (d:=(some 51)) (t:=179) (K:=3) (E:=3) (b:=mp) (n:=(di ns i j++ps).length) (f:=(mf (pf ((di ns i j++ps).map (iZ ns))))) (x:=(.tmp 48)) (ix:=(.tmp 50)) (key:=.int .i64 ((en (nd ns i).ah j).id)) (z:=.int .i64 0) (kl:=(.int .i64 (en (nd ns i).ah j).id)) (r:=(some (vI y))) (fun _=>by kernel_rfl) (by kernel_rfl) (fun _=>by kernel_rfl) (fun _=>by kernel_rfl) dQ Tryz.underlying179 (fun _=>by kernel_rfl) (o3 (hwf j (by omega)).1 (hwf j (by omega)).2) (Nq hup) ?_
   refine gK 5 [(12,.bool true)] [] ?_
   refine NS (gK 1 [(54,.bool true)] [] ?_)
   refine NN (CT (SR (gK 1 [(6,.bool false)] [] ?_)))
   refine NN (af.ret (ai.ak (ai.aF (ai.ak (ai.ak (ai.aF (ai.ak ?_)))))))
   exact RT (l:=[]) (.bool false) [2] (.inr ⟨rfl,FZ hr hps hok hat h46 hup (by omega),rfl⟩)
  refine aj.dW 0 (d:=(some 25)) (t:=160) (K:=3) (E:=161) (b:=mb) (n:=ns.length) (f:=(mf (bf A ns ns.length))) (x:=(.tmp 22)) (ix:=(.tmp 24)) (key:=.int .i64 ((en (nd ns i).ah j).id)) (z:=.pointer none) (kl:=(.int .i64 (en (nd ns i).ah j).id)) (r:=none) (fun _=>by kernel_rfl) (by kernel_rfl) (fun _=>by kernel_rfl) (fun _=>by kernel_rfl) dQ Tryz.underlying160 (fun _=>by kernel_rfl) (o3 (hwf j (by omega)).1 (hwf j (by omega)).2) (Oo hat) ?_
  refine gK 1 [(10,.pointer none)] [] ?_
  refine NN (af.seq (SR (gK 14 [(39,.bool true)] [] ?_)))
  refine NN (CT (SR (gK 1 [(6,.bool false)] [] ?_)))
  refine NN (af.ret (ai.ak (ai.aF (ai.ak (ai.ak (ai.aF (ai.ak ?_)))))))
  exact RT (l:=[]) (.bool false) [2] (.inr ⟨rfl,fun h=>hat (h.ah j (by omega)).at_,rfl⟩)
 refine af.exit (ai.aX (ai.aX (ai.cP (NX (SR ?_)))))
 refine gK 1 [(6,.bool true)] [] ?_
 refine NN (af.ret ?_)
 exact RT (l:=[.abs (aJ Tryz.prog 3 mb (mf (bf A ns ns.length)) ns.length),.abs (aJ Tryz.prog 3 mp (mf (pf ((di ns i j++ps).map (iZ ns)))) ((di ns i j++ps).length))]) (.bool true) [0,1,2] (.inl ⟨rfl,⟨fun t ht=>hok t (by omega),by have:=hnd;rwa [show j=(nd ns i).ah.length by omega] at this⟩,by rw [show j=(nd ns i).ah.length by omega]⟩)
end
section
open Go.RowKit Go.Maps
def eT (ns:List aK):Nat->Nat
  | 0=>0
  | k+1=>eT ns k+(nd ns k).ah.length
def lq (ns:List aK):Nat->Int
  | 0=>0
  | k+1=>(nd ns k).id
structure bM (ns:List aK):Prop where
  len:ns.length<=4096
  node:∀ i,i < ns.length->qh (nd ns i)
  ids:∀ i,i < ns.length->1<=(nd ns i).id/\(nd ns i).id<=1099511627776
  rise:cQ ns
  sum:eT ns ns.length<=8192
  ah:∀ i,i < ns.length->∀ j,j < (nd ns i).ah.length->nH ns i j
  nodup:((fC ns ns.length).map Prod.fst).Nodup
  ends:AllEnd ((fC ns ns.length).map (iZ ns))
noncomputable instance (ns:List aK):Decidable (bM ns):=Classical.propDecidable _
theorem bM.last {ns:List aK} (h:bM ns) {k:Nat} (hk:k < ns.length):lq ns k < (nd ns k).id:=by
  cases k with
  | zero=>have:=(h.ids 0 hk).1;show (0:Int) < _;omega
  | succ k=>exact h.rise k (k+1) (Nat.lt_succ_self k) hk
structure pN (ns:List aK) (k:Nat):Prop where
  node:∀ i,i < k->qh (nd ns i)
  ids:∀ i,i < k->1<=(nd ns i).id/\(nd ns i).id<=1099511627776
  rise:∀ i j,i < j->j < k->(nd ns i).id < (nd ns j).id
theorem pN.zero (ns:List aK):pN ns 0:=⟨fun i h=>absurd h (Nat.not_lt_zero i),fun i h=>absurd h (Nat.not_lt_zero i),fun _ j _ h=>absurd h (Nat.not_lt_zero j)⟩
theorem pN.last {ns:List aK} {k:Nat} (h:pN ns k):0<=lq ns k/\lq ns k<=1099511627776:=by
  cases k with
  | zero=>exact⟨Int.le_refl _,by show (0:Int)<=1099511627776;decide⟩
  | succ k=>have:=h.ids k (Nat.lt_succ_self k);exact⟨by show 0<=(nd ns k).id;omega,this.2⟩
theorem pN.step {ns:List aK} {k:Nat} (h:pN ns k) (h1:lq ns k < (nd ns k).id) (h2:(nd ns k).id<=1099511627776) (h3:qh (nd ns k)):pN ns (k+1):=by
  have hl:=h.last
  refine⟨fun i hi=>?_,fun i hi=>?_,fun i j hij hj=>?_⟩
  ·rcases Nat.lt_succ_iff_lt_or_eq.1 hi with e|e
   ·exact h.node i e
   rw [e];exact h3
  ·rcases Nat.lt_succ_iff_lt_or_eq.1 hi with e|e
   ·exact h.ids i e
   rw [e];omega
  rcases Nat.lt_succ_iff_lt_or_eq.1 hj with e|e
  ·exact h.rise i j hij e
  subst e
  cases j with
  | zero=>omega
  | succ m=>
    have h4:(nd ns m).id < (nd ns (m+1)).id:=h1
    rcases Nat.lt_succ_iff_lt_or_eq.1 hij with e|e
    ·have:=h.rise i m e (Nat.lt_succ_self m);omega
    rw [e];exact h4
theorem Fk {ns:List aK} {k:Nat} (h:∀ i,i < k->(nd ns i).id < (nd ns k).id) (hk:k < ns.length):oQ ns (nd ns k).id=(k:Int):=by
  unfold oQ
  have hg:∀ j (hj:j < ns.length),nd ns j=ns[j]:=fun j hj=>by
    unfold nd
    rw [List.getD_eq_getElem?_getD,List.getElem?_eq_getElem hj]
    rfl
  have:ns.findIdx? (fun n=>n.id == (nd ns k).id)=some k:=by
    rw [List.findIdx?_eq_some_iff_getElem]
    refine⟨hk,by rw [← hg k hk];simp,fun j hj=>?_⟩
    have:=h j hj
    rw [← hg j (by omega)]
    simp
    omega
  rw [this]
theorem Qu {A:Option Addr} {ns:List aK} {k:Nat} (h:∀ i,i < k->(nd ns i).id < (nd ns k).id) (hk:k < ns.length) :
    upd (mf (bf A ns k)) (.int .i64 (nd ns k).id) (some (.pointer (some ⟨av A,au A+k * 10,none⟩)))=mf (bf A ns (k+1)):=by
  have ha:=Fk h hk
  rw [Em]
  congr 1
  funext z
  unfold bf
  by_cases e:z=(nd ns k).id
  ·subst e
   rw [if_pos rfl,if_pos ⟨by omega,by omega⟩]
   unfold tgt
   rw [ha]
   rfl
  rw [if_neg e]
  by_cases e1:0<=oQ ns z/\oQ ns z < (k:Int)
  ·rw [if_pos e1,if_pos ⟨e1.1,by omega⟩]
  rw [if_neg e1,if_neg (fun e2=>?_)]
  have e3:oQ ns z=(k:Int):=by omega
  have e4:=(nu e2.1).2
  rw [e4.2] at e3
  have e5:tgt ns z=k:=by omega
  rw [e5] at e4
  exact e e4.1.symm
theorem Mw {A:Option Addr} {ns:List aK} {k:Nat} (h:∀ i,i < k->(nd ns i).id < (nd ns k).id) (hk:k < ns.length):(if ((mf (bf A ns k)) (.int .i64 (nd ns k).id)).isSome then k else k+1)=k+1:=by
  have ha:=Fk h hk
  have:mf (bf A ns k) (.int .i64 (nd ns k).id)=none:=if_neg (fun e=>by omega)
  rw [this]
  rfl
theorem pN.below {ns:List aK} {k:Nat} (h:pN ns k) (h1:lq ns k < (nd ns k).id):∀ i,i < k->(nd ns i).id < (nd ns k).id:=by
  intro i hi
  cases k with
  | zero=>omega
  | succ m=>
    have h1:(nd ns m).id < (nd ns (m+1)).id:=h1
    rcases Nat.lt_succ_iff_lt_or_eq.1 hi with e|e
    ·have:=h.rise i m e (Nat.lt_succ_self m);omega
    rw [e];exact h1
theorem OI {A:Option Addr} {ns:List aK}:mf (bf A ns 0)=fun _=>none:=by
  rw [← Cb]
  congr 1
  funext z
  exact if_neg (fun e=>by omega)
theorem OJ {ns:List aK}:mf (pf ((fC ns 0).map (iZ ns)))=fun _=>none:=by
  rw [← Cb]
  congr 1
theorem zO {ns:List aK} {i:Nat} (hi:i<=ns.length) (h:∀ a,a < i->∀ j,j < (nd ns a).ah.length->nH ns a j):∀ p,p∈fC ns i->p.1 < ns.length/\p.2 < ns.length:=by
  induction i with
  | zero=>intro p hp;cases hp
  | succ i ih=>
    intro p hp
    rw [fC] at hp
    rcases List.mem_append.1 hp with hp|hp
    ·have:=Et (h i (Nat.lt_succ_self i)) p hp
     exact⟨this.1,by omega⟩
    exact ih (by omega) (fun a ha=>h a (by omega)) p hp
theorem Fl (ns:List aK) (i:Nat):(fC ns i).length<=eT ns i:=by
  induction i with
  | zero=>exact Nat.le_refl _
  | succ i ih=>
    rw [fC,eT,List.length_append]
    have:=Es ns i (nd ns i).ah.length
    omega
theorem tS {ns:List aK} {i m:Nat} (h:i<=m):eT ns i<=eT ns m:=by
  induction m with
  | zero=>rw [Nat.le_zero.1 h];exact Nat.le_refl _
  | succ m ih=>
    rcases Nat.lt_or_ge m i with h1|h1
    ·have:i=m+1:=by omega
     subst this
     exact Nat.le_refl _
    have:=ih h1
    rw [eT]
    omega
theorem Kz {ns:List aK} {ps:List (Nat×Nat)} (hp:∀ p,p∈ps->p.1 < ns.length/\p.2 < ns.length) (hid:∀ i,i < ns.length->1<=(nd ns i).id/\(nd ns i).id<=1099511627776) :
    ∀ z y,up (ps.map (iZ ns)) z=some y->(-9223372036854775808<=z/\z<=9223372036854775807)/\(-9223372036854775808<=y/\y<=9223372036854775807):=by
  intro z y h
  unfold up at h
  induction ps with
  | nil=>cases h
  | cons p ps ih=>
    obtain⟨a,b⟩:=p
    rw [List.map_cons,iZ,List.lookup_cons] at h
    by_cases e:(z == (nd ns a).id)=true
    ·rw [e] at h
     cases h
     have h1:=hp (a,b) (List.mem_cons_self ..)
     have h2:=hid a h1.1
     have h3:=hid b h1.2
     have:z=(nd ns a).id:=by simpa using e
     show (_/\_)/\(-9223372036854775808<=(nd ns b).id/\(nd ns b).id<=9223372036854775807)
     omega
    have e:(z == (nd ns a).id)=false:=by simpa using e
    rw [e] at h
    exact ih (fun p hp'=>hp p (List.mem_cons_of_mem _ hp')) h
theorem Qv {p:Prop} [Decidable p] {v:Value} {l:List HP} (h:v=.bool (decide p)/\l=[]):(v=.bool true/\p/\l=[])\/(v=.bool false/\¬ p/\l=[]):=by
  by_cases hp:p
  ·exact .inl ⟨by rw [h.1,decide_eq_true hp],hp,h.2⟩
  exact .inr ⟨by rw [h.1,decide_eq_false hp],hp,h.2⟩
theorem uW.next {ns:List aK} {i:Nat} (h:uW ns i (fC ns i)):((fC ns (i+1)).map Prod.fst).Nodup:=h.nodup
theorem bM.row {ns:List aK} (h:bM ns) {i:Nat} (hi:i < ns.length):uW ns i (fC ns i):=by
  refine⟨h.ah i hi,?_⟩
  obtain⟨l,hl⟩:=JH (ns:=ns) (show i+1<=ns.length from hi)
  have:=h.nodup
  rw [hl] at this
  exact wL this
end
section
open Go.RowKit
attribute [local irreducible] aj aP af ai
theorem OL {β:Bs} (A:Option Addr) (c:Nat) (ns:List aK) (L:Lay) (hG:ay β A ns L) (hl:ns.length<=1048576) (hd:∀ i,i < ns.length->(nd ns i).data.length<=140737488355328/\(nd ns i).ah.length<=1048576) (hwf:∀ i,i < ns.length->∀ j,j < (nd ns i).ah.length->-9223372036854775808<=(ent ns i j).id/\(ent ns i j).id<=9223372036854775807) (hnm:∀ i,i < ns.length->∀ j,j < (nd ns i).ah.length->(ent ns i j).name.size<=1048576) :
    Spec Tryz.prog β 88 #[.agg #[.slice A ns.length c]] [] (fun v l=>(∃ mb,v=.tuple #[.map (some mb),.bool true]/\bM ns/\l=[.abs (aJ Tryz.prog 3 mb (mf (bf A ns ns.length)) ns.length)])\/(∃ m,v=.tuple #[m,.bool false]/\¬ bM ns/\l=[])):=by
 refine Spec.enter Tryz.func88 rfl Tryz.ntmps88 (Nat.le_of_ble_eq_true rfl) (fun R=>?_)
 refine SR (gN 3 (fun b1=>[(1,vP b1)]) (fun _=>[]) (fun _=>[]) (fun b1=>.blk b1 [.slice A (ns.length) (c)] 24) (fun b1=>?_))
 refine NN (af.seq (SR (gK 4 [(14,.bool (decide ((((ns.length:Nat):Int):Int) > (4096:Int))))] [(1,a_ 1 b1)] ?_)))
 refine NN (af.aZ (p:=(((ns.length:Nat):Int):Int) > (4096:Int)) (fun _=>by kernel_rfl) (fun iQ=>?_) (fun iQ=>?_))
 ·refine SR (gK 2 [(2,.map none),(3,.bool false)] [] ?_)
  refine NN (af.ret (ai.ak ?_))
  exact RT (.tuple #[.map none,.bool false]) [0] (.inr ⟨_,rfl,fun h=>by have:=h.len;omega,rfl⟩)
 refine af.skip (NX (SR (aj.lC (d:=(some 15)) (t:=160) (fun _=>by kernel_rfl) Tryz.prog rfl 3 (fun m2=>?_))))
 refine gK 1 [(4,.map (some m2))] [] ?_
 refine NS (aj.dK 2 (p:=.abs (aJ Tryz.prog 3 m2 (fun _=>none) 0)) (p':=.abs (aJ Tryz.prog 3 m2 (mf (bf A ns 0)) 0)) (by kernel_rfl) (by rw [OI]) ?_)
 refine gK 2 [(5,vI 0),(6,vI 0)] [] ?_
 refine NN (af.seq (SR (gK 4 [(18,vI ↑ns.length),(19,vI 0)] [(1,a_ 1 b1)] ?_)))
 refine NN (af.block ?_)
 refine af.loop (ι:=Nat) (fun (k:Nat)=>(k<=ns.length)/\(pN ns k)/\(eT ns k<=k * 1048576)) (fun (k:Nat)=>ns.length - k) (fun (k:Nat)=>[(1,vP b1),(4,.map (some m2)),(5,vI (lq ns k)),(6,vI ↑(eT ns k)),(18,vI ↑ns.length),(19,vI ↑k)]) (fun (k:Nat)=>[.blk b1 [.slice A (ns.length) (c)] 24,.abs (aJ Tryz.prog 3 m2 (mf (bf A ns k)) k),.abs R]) 0 (idx:=[1,4,5,6,18,19]) (pk:=[1,2,0]) (show (0<=ns.length)/\(pN ns 0)/\(eT ns 0<=0 * 1048576) from ⟨Nat.zero_le _,pN.zero ns,Nat.zero_le _⟩) (fun _=>by kernel_rfl) rfl (by kernel_rfl) ?_
 rintro k ⟨hk,hu,hs⟩
 show af _ _ _ _ [(1,vP b1),(4,.map (some m2)),(5,vI (lq ns k)),(6,vI ↑(eT ns k)),(18,vI ↑ns.length),(19,vI ↑k)] [.blk b1 [.slice A (ns.length) (c)] 24,.abs (aJ Tryz.prog 3 m2 (mf (bf A ns k)) k),.abs R] _
 have hk4:=(hd k)
 refine SR (gK 1 [(20,.bool (decide ((((k:Nat):Int):Int) < (((ns.length:Nat):Int):Int))))] [] ?_)
 refine NN (af.seq (af.aZ (p:=(((k:Nat):Int):Int) < (((ns.length:Nat):Int):Int)) (fun _=>by kernel_rfl) (fun oR=>?_) (fun oR=>?_)))
 ·refine af.skip (NX (af.seq (af.block (SR ?_))))
  refine gK 2 [(7,vI ↑k)] [] ?_
  refine NS (gK 5 [(8,.pointer (some ⟨(av A),au A+k * 10,none⟩))] [(1,a_ 0 b1),(3,p_ ⟨[],some k,none,some ⟨(av A),au A,none⟩,none⟩ [((k:Nat):Int)=((k:Nat):Int),k < ns.length,(⟨(av A),au A,none⟩:Addr).spot=none,(A:Option Addr)=some ⟨(av A),au A,none⟩] ⟨rfl,by omega,rfl,ay.hd hG (i:=k) (by omega),trivial⟩)] ?_)
  refine NN (af.seq (SR (gK 7 [(32,.bool (decide (((nd ns k).id:Int)<=(lq ns k:Int))))] [(3,p_ ⟨[.old (.int .i64 ((nd ns k).id))],none,none,none,none⟩ [(Rd β ⟨(av A),au A+k * 10,none⟩ (.int .i64 ((nd ns k).id)))] ⟨ay.rd hG (i:=k) (by omega) (j:=0) rfl,trivial⟩)] ?_)))
  refine aj.gI 32 (((nd ns k).id:Int)<=(lq ns k:Int)) (fun _=>by kernel_rfl) (fun Gy=>?_) (fun Gy=>?_)
  ·refine gK 11 [(43,.bool true)] [] ?_
   refine NN (CT (SR (gK 2 [(2,.map none),(3,.bool false)] [] ?_)))
   refine NN (af.ret (ai.ak (ai.aF (ai.ak (ai.ak (ai.aF (ai.ak ?_)))))))
   exact RT (.tuple #[.map none,.bool false]) [2] (.inr ⟨_,rfl,fun h=>by have:=h.last (show k < ns.length by omega);omega,rfl⟩)
  refine gK 7 [(39,.bool (decide (((nd ns k).id:Int) > (1099511627776:Int))))] [(3,p_ ⟨[.old (.int .i64 ((nd ns k).id))],none,none,none,none⟩ [(Rd β ⟨(av A),au A+k * 10,none⟩ (.int .i64 ((nd ns k).id)))] ⟨ay.rd hG (i:=k) (by omega) (j:=0) rfl,trivial⟩)] ?_
  refine aj.gI 39 (((nd ns k).id:Int) > (1099511627776:Int)) (fun _=>by kernel_rfl) (fun iY=>?_) (fun iY=>?_)
  ·refine gK 4 [(43,.bool true)] [] ?_
   refine NN (CT (SR (gK 2 [(2,.map none),(3,.bool false)] [] ?_)))
   refine NN (af.ret (ai.ak (ai.aF (ai.ak (ai.ak (ai.aF (ai.ak ?_)))))))
   exact RT (.tuple #[.map none,.bool false]) [2] (.inr ⟨_,rfl,fun h=>by have:=(h.ids k (by omega)).2;omega,rfl⟩)
  refine gK 1 [(40,.pointer (some ⟨(av A),au A+k * 10,none⟩))] [] ?_
  refine gL [] (Ln A ns L hG k (by omega)) ?_
  rintro _ _ ⟨rfl,rfl⟩
  refine gK 2 [(43,.bool (!(decide (qh (nd ns k)))))] [] ?_
  refine NN (af.cT (p:=qh (nd ns k)) (fun _=>by kernel_rfl) (fun Qw=>?_) (fun Qw=>?_))
  ·refine SR (gK 2 [(2,.map none),(3,.bool false)] [] ?_)
   refine NN (af.ret (ai.ak (ai.aF (ai.ak (ai.ak (ai.aF (ai.ak ?_)))))))
   exact RT (.tuple #[.map none,.bool false]) [2] (.inr ⟨_,rfl,fun h=>Qw (h.node k (by omega)),rfl⟩)
  refine af.skip (NX (SR (gK 5 [(5,vI ((nd ns k).id))] [(3,p_ ⟨[.old (.int .i64 ((nd ns k).id))],none,none,none,none⟩ [(Rd β ⟨(av A),au A+k * 10,none⟩ (.int .i64 ((nd ns k).id)))] ⟨ay.rd hG (i:=k) (by omega) (j:=0) rfl,trivial⟩)] ?_)))
  refine NS (gK 6 [(48,.map (some m2)),(52,vI ((nd ns k).id)),(53,.pointer (some ⟨(av A),au A+k * 10,none⟩))] [(4,p_ ⟨[.old (.int .i64 ((nd ns k).id))],none,none,none,none⟩ [(Rd β ⟨(av A),au A+k * 10,none⟩ (.int .i64 ((nd ns k).id)))] ⟨ay.rd hG (i:=k) (by omega) (j:=0) rfl,trivial⟩)] ?_)
  refine aj.j8 1 (d:=none) (t:=160) (K:=3) (E:=161) (b:=m2) (n:=k) (f:=(mf (bf A ns k))) (x:=(.tmp 48)) (ix:=(.tmp 52)) (y:=(.tmp 53)) (key:=.int .i64 ((nd ns k).id)) (u:=.pointer (some ⟨(av A),au A+k * 10,none⟩)) (kl:=(.int .i64 (nd ns k).id)) (n':=k+1) (f':=(mf (bf A ns (k+1)))) (fun _=>by kernel_rfl) (by kernel_rfl) (fun _=>by kernel_rfl) (fun _=>by kernel_rfl) (fun _=>by kernel_rfl) dQ Tryz.underlying160 (by unfold maxLen;omega) (o3 (by have:=hu.last;omega) (by omega)) (Mw (hu.below (by omega)) (by omega)) (Qu (hu.below (by omega)) (by omega)) ?_
  refine NN (af.region (gK 8 [(6,vI ↑((eT ns k)+((nd ns k).ah.length)))] [(4,p_ ⟨[.old (.slice (L.eA k) ((nd ns k).ah.length) ((L.eC k)))],none,none,none,none⟩ [(Rd β ⟨(av A),au A+k * 10+9,none⟩ (.slice (L.eA k) ((nd ns k).ah.length) ((L.eC k))))] ⟨ay.rd hG (i:=k) (by omega) (j:=9) rfl,trivial⟩),(6,p_ ⟨[],none,none,none,some (vI ↑((eT ns k)+((nd ns k).ah.length)))⟩ [(Value.int .i64 (IntKind.wrap .i64 (((eT ns k:Nat):Int)+(((nd ns k).ah.length:Nat):Int))))=(.int .i64 ↑((eT ns k)+((nd ns k).ah.length)))] ⟨bD (by omega) (by omega) (by omega),trivial⟩)] ?_))
  refine NL (ai.aN (NX (af.region ?_)))
  refine gK 2 [(19,vI ↑(k+1))] [(0,p_ ⟨[],none,none,none,some (vI ↑(k+1))⟩ [(Value.int .i64 (IntKind.wrap .i64 (((k:Nat):Int)+1)))=(.int .i64 ↑(k+1))] ⟨bD (by omega) (by omega) (by omega),trivial⟩)] ?_
  refine NL ?_
  exact ai.turn ((k+1)) (idx:=[1,4,5,6,18,19]) (pk:=[0,1,2]) (show (((k+1))<=ns.length)/\(pN ns ((k+1)))/\(eT ns ((k+1))<=((k+1)) * 1048576) from ⟨by omega,hu.step (by omega) (by omega) Qw,by have:=(hd k (by omega)).2;show eT ns k+_<=_;omega⟩) (by show ns.length - ((k+1)) < ns.length - k;omega) (fun _=>by kernel_rfl) rfl (by kernel_rfl)
 refine af.exit (ai.aX (ai.aX (ai.cP (NX (af.seq (SR ?_))))))
 refine gK 2 [(63,.bool (decide ((((eT ns k:Nat):Int):Int) > (8192:Int))))] [] ?_
 refine NN (af.aZ (p:=(((eT ns k:Nat):Int):Int) > (8192:Int)) (fun _=>by kernel_rfl) (fun h63=>?_) (fun h63=>?_))
 ·refine SR (gK 2 [(2,.map none),(3,.bool false)] [] ?_)
  refine NN (af.ret (ai.ak ?_))
  exact RT (.tuple #[.map none,.bool false]) [2] (.inr ⟨_,rfl,fun h=>by have h1:=h.sum;rw [show ns.length=k by omega] at h1;omega,rfl⟩)
 refine af.skip (NX (SR (aj.lC (d:=(some 64)) (t:=179) (fun _=>by kernel_rfl) Tryz.prog rfl 3 (fun m3=>?_))))
 refine gK 1 [(9,.map (some m3))] [] ?_
 refine NN (af.seq (SR (aj.dK 3 (p:=.abs (aJ Tryz.prog 3 m3 (fun _=>none) 0)) (p':=.abs (aJ Tryz.prog 3 m3 (mf (pf ((fC ns 0).map (iZ ns)))) ((fC ns 0).length))) (by kernel_rfl) (by rw [OJ];rfl) ?_)))
 refine aj.dK 1 (p:=.abs (aJ Tryz.prog 3 m2 (mf (bf A ns k)) k)) (p':=.abs (aJ Tryz.prog 3 m2 (mf (bf A ns ns.length)) ns.length)) (by kernel_rfl) (by rw [show k=ns.length by omega]) ?_
 refine gK 4 [(67,vI ↑ns.length),(68,vI 0)] [(1,a_ 0 b1)] ?_
 refine NN (af.block ?_)
 have NT:cQ ns:=fun a b hab hb=>hu.rise a b hab (by omega)
 have hsum:eT ns ns.length<=8192:=by rw [show ns.length=k by omega];omega
 refine af.loop (ι:=Nat) (fun (i:Nat)=>(i<=ns.length)/\(∀ a,a < i->∀ j,j < (nd ns a).ah.length->nH ns a j)/\(((fC ns i).map Prod.fst).Nodup)) (fun (i:Nat)=>ns.length - i) (fun (i:Nat)=>[(1,vP b1),(4,.map (some m2)),(9,.map (some m3)),(67,vI ↑ns.length),(68,vI ↑i)]) (fun (i:Nat)=>[.blk b1 [.slice A (ns.length) (c)] 24,.abs (aJ Tryz.prog 3 m2 (mf (bf A ns ns.length)) ns.length),.abs (aJ Tryz.prog 3 m3 (mf (pf ((fC ns i).map (iZ ns)))) ((fC ns i).length)),.abs R]) 0 (idx:=[1,4,9,67,68]) (pk:=[0,1,3,2]) (show (0<=ns.length)/\(∀ a,a < 0->∀ j,j < (nd ns a).ah.length->nH ns a j)/\(((fC ns 0).map Prod.fst).Nodup) from ⟨Nat.zero_le _,fun a ha=>absurd ha (Nat.not_lt_zero a),List.nodup_nil⟩) (fun _=>by kernel_rfl) rfl (by kernel_rfl) ?_
 rintro i ⟨hi,D4,hnd⟩
 show af _ _ _ _ [(1,vP b1),(4,.map (some m2)),(9,.map (some m3)),(67,vI ↑ns.length),(68,vI ↑i)] [.blk b1 [.slice A (ns.length) (c)] 24,.abs (aJ Tryz.prog 3 m2 (mf (bf A ns ns.length)) ns.length),.abs (aJ Tryz.prog 3 m3 (mf (pf ((fC ns i).map (iZ ns)))) ((fC ns i).length)),.abs R] _
 refine SR (gK 1 [(69,.bool (decide ((((i:Nat):Int):Int) < (((ns.length:Nat):Int):Int))))] [] ?_)
 refine NN (af.seq (af.aZ (p:=(((i:Nat):Int):Int) < (((ns.length:Nat):Int):Int)) (fun _=>by kernel_rfl) (fun Np=>?_) (fun Np=>?_)))
 ·refine af.skip (NX (af.seq (af.block (SR ?_))))
  refine gK 2 [(10,vI ↑i)] [] ?_
  refine NS (gK 6 [(74,.pointer (some ⟨(av A),au A+i * 10,none⟩)),(75,.map (some m2)),(76,.map (some m3))] [(1,a_ 0 b1),(3,p_ ⟨[],some i,none,some ⟨(av A),au A,none⟩,none⟩ [((i:Nat):Int)=((i:Nat):Int),i < ns.length,(⟨(av A),au A,none⟩:Addr).spot=none,(A:Option Addr)=some ⟨(av A),au A,none⟩] ⟨rfl,by omega,rfl,ay.hd hG (i:=i) (by omega),trivial⟩)] ?_)
  refine gL [1,2] (Mv A ns L hG NT i (by omega) (hd i (by omega)).2 (hwf i (by omega)) (hnm i (by omega)) m2 m3 (fC ns i) (by have:=Fl ns i;have:=tS (ns:=ns) (show i<=ns.length by omega);omega) (fun p hp=>(zO (by omega) D4 p hp).1) hnd) ?_
  rintro _ _ (⟨rfl,hro,rfl⟩|⟨rfl,hro,rfl⟩)
  ·refine gK 1 [(78,.bool false)] [] ?_
   refine NN (CF (af.skip (ai.aN (NX (af.region ?_)))))
   refine gK 2 [(68,vI ↑(i+1))] [(0,p_ ⟨[],none,none,none,some (vI ↑(i+1))⟩ [(Value.int .i64 (IntKind.wrap .i64 (((i:Nat):Int)+1)))=(.int .i64 ↑(i+1))] ⟨bD (by omega) (by omega) (by omega),trivial⟩)] ?_
   refine NL ?_
   exact ai.turn ((i+1)) (idx:=[1,4,9,67,68]) (pk:=[2,0,1,3]) (show (((i+1))<=ns.length)/\(∀ a,a < ((i+1))->∀ j,j < (nd ns a).ah.length->nH ns a j)/\(((fC ns ((i+1))).map Prod.fst).Nodup) from ⟨by omega,fun a ha=>(by rcases Nat.lt_succ_iff_lt_or_eq.1 ha with h|h;exact D4 a h;subst h;exact hro.ah),hro.next⟩) (by show ns.length - ((i+1)) < ns.length - i;omega) (fun _=>by kernel_rfl) rfl (by kernel_rfl)
  refine gK 1 [(78,.bool true)] [] ?_
  refine NN (CT (SR (gK 2 [(2,.map none),(3,.bool false)] [] ?_)))
  refine NN (af.ret (ai.aF (ai.ak (ai.ak (ai.aF (ai.ak ?_))))))
  exact RT (.tuple #[.map none,.bool false]) [1] (.inr ⟨_,rfl,fun h=>hro (h.row (by omega)),rfl⟩)
 refine af.exit (ai.aX (ai.aX (ai.cP (NX (SR ?_)))))
 refine gK 2 [(80,.map (some m2)),(81,.map (some m3))] [] ?_
 refine aj.dK 2 (p:=.abs (aJ Tryz.prog 3 m3 (mf (pf ((fC ns i).map (iZ ns)))) ((fC ns i).length))) (p':=.abs (aJ Tryz.prog 3 m3 (mf (pf ((fC ns i).map (iZ ns)))) (((fC ns i).map (iZ ns)).length))) (by kernel_rfl) (by rw [List.length_map]) ?_
 refine gL [2] ((JD m3 ((fC ns i).map (iZ ns)) (by rw [List.length_map];have:=Fl ns i;have:=tS (ns:=ns) (show i<=ns.length by omega);omega) (Kz (zO (by omega) D4) (fun a ha=>hu.ids a (by omega)))).mono (fun v l h=>Qv h)) ?_
 rintro _ _ (⟨rfl,Qx,rfl⟩|⟨rfl,Qx,rfl⟩)
 ·refine gK 2 [(2,.map (some m2)),(3,.bool true)] [] ?_
  refine NN (af.ret ?_)
  exact RT (.tuple #[.map (some m2),.bool true]) [1,2] (.inl ⟨m2,rfl,⟨by omega,fun a ha=>hu.node a (by omega),fun a ha=>hu.ids a (by omega),NT,by omega,fun a ha=>D4 a (by omega),by have:=hnd;rwa [show i=ns.length by omega] at this,by have:=Qx;rwa [show i=ns.length by omega] at this⟩,rfl⟩)
 refine gK 2 [(2,.map (some m2)),(3,.bool false)] [] ?_
 refine NN (af.ret ?_)
 exact RT (.tuple #[.map (some m2),.bool false]) [2] (.inr ⟨_,rfl,fun h=>Qx (by have:=h.ends;rwa [show ns.length=i by omega] at this),rfl⟩)
theorem Mx {β:Bs} (A:Option Addr) (c:Nat) (ns:List aK) (L:Lay) (hG:ay β A ns L) (hl:ns.length<=1048576) (hd:∀ i,i < ns.length->(nd ns i).data.length<=140737488355328/\(nd ns i).ah.length<=1048576) (hwf:∀ i,i < ns.length->∀ j,j < (nd ns i).ah.length->-9223372036854775808<=(ent ns i j).id/\(ent ns i j).id<=9223372036854775807) (hnm:∀ i,i < ns.length->∀ j,j < (nd ns i).ah.length->(ent ns i j).name.size<=1048576) :
    Spec Tryz.prog β 61 #[.agg #[.slice A ns.length c]] [] (fun v l=>v=vI (if bM ns then 0 else 140)/\l=[]):=by
 refine Spec.enter Tryz.func61 rfl Tryz.ntmps61 (Nat.le_of_ble_eq_true rfl) (fun R=>?_)
 refine SR (gN 2 (fun b4=>[(1,vP b4)]) (fun _=>[]) (fun _=>[]) (fun b4=>.blk b4 [.slice A (ns.length) (c)] 24) (fun b4=>?_))
 refine NN (af.seq (SR (gK 1 [(6,.agg #[.slice A (ns.length) (c)])] [(0,a_ 1 b4)] ?_)))
 refine gL [] (OL A c ns L hG hl hd hwf hnm) ?_
 rintro _ _ (⟨mb,rfl,hok,rfl⟩|⟨m,rfl,hok,rfl⟩)
 ·refine gK 5 [(4,.bool true)] [] ?_
  refine NS (gK 2 [(11,.bool false)] [] ?_)
  refine NN (CF (af.skip (NX (SR (gK 1 [(2,vI 0)] [] ?_)))))
  refine NN (af.ret ?_)
  exact RT (vI 0) [1] (⟨congrArg (Value.int .i64) (if_pos hok).symm,rfl⟩)
 refine gK 5 [(4,.bool false)] [] ?_
 refine NS (gK 2 [(11,.bool true)] [] ?_)
 refine NN (CT (SR (gK 1 [(2,vI 140)] [] ?_)))
 refine NN (af.ret (ai.ak ?_))
 exact RT (vI 140) [0] (⟨congrArg (Value.int .i64) (if_neg hok).symm,rfl⟩)
end
section
open Go.RowKit Go.Maps
def TP (ed:List (Nat×Nat)) (k:Nat):Int:=match ed.lookup k with|some a=>(a:Int)|none=>-1
structure VS (n:Nat) (pl:List Int) (ed:List (Nat×Nat)):Prop where
  len:pl.length=n
  at_:∀ k,k < n->pl.getD k 0=TP ed k
end
section
open Go.RowKit Go.Maps
structure CN (ns:List aK) (i j:Nat):Prop where
  Qy:i < ns.length
  Dr:j < (nd ns i).ah.length
  dir:(nd ns (tgt ns (ent ns i j).id)).kind=2
section
variable {ns:List aK}
theorem sE {i m:Nat} {p:Nat×Nat}:p∈di ns i m↔∃ j,j < m/\(nd ns (tgt ns (ent ns i j).id)).kind=2/\p=(tgt ns (ent ns i j).id,i):=by
  induction m with
  | zero=>simp [di]
  | succ m ih=>
    by_cases h:(nd ns (tgt ns (ent ns i m).id)).kind=2
    ·rw [o5 h,List.mem_cons,ih]
     refine⟨fun hp=>?_,fun ⟨j,hj,h1,h2⟩=>?_⟩
     ·rcases hp with rfl|⟨j,hj,h1,h2⟩
      ·exact⟨m,Nat.lt_succ_self m,h,rfl⟩
      exact⟨j,Nat.lt_succ_of_lt hj,h1,h2⟩
     rcases Nat.lt_succ_iff_lt_or_eq.1 hj with e|e
     ·exact .inr ⟨j,e,h1,h2⟩
     subst e;exact .inl h2
    rw [sV h,ih]
    refine⟨fun ⟨j,hj,h1⟩=>⟨j,Nat.lt_succ_of_lt hj,h1⟩,fun ⟨j,hj,h1,h2⟩=>?_⟩
    rcases Nat.lt_succ_iff_lt_or_eq.1 hj with e|e
    ·exact⟨j,e,h1,h2⟩
    subst e;exact absurd h1 h
theorem vB {m:Nat} {p:Nat×Nat}:p∈fC ns m↔∃ i j,i < m/\j < (nd ns i).ah.length/\(nd ns (tgt ns (ent ns i j).id)).kind=2/\p=(tgt ns (ent ns i j).id,i):=by
  induction m with
  | zero=>simp [fC]
  | succ m ih=>
    rw [fC,List.mem_append,sE,ih]
    refine⟨fun h=>?_,fun ⟨i,j,hi,hj,h1,h2⟩=>?_⟩
    ·rcases h with ⟨j,hj,h1,h2⟩|⟨i,j,hi,h⟩
     ·exact⟨m,j,Nat.lt_succ_self m,hj,h1,h2⟩
     exact⟨i,j,Nat.lt_succ_of_lt hi,h⟩
    rcases Nat.lt_succ_iff_lt_or_eq.1 hi with e|e
    ·exact .inr ⟨i,j,e,hj,h1,h2⟩
    subst e;exact .inl ⟨j,hj,h1,h2⟩
theorem CN.mem {i j:Nat} (h:CN ns i j):(tgt ns (ent ns i j).id,i)∈fC ns ns.length:=vB.2 ⟨i,j,h.Qy,h.Dr,h.dir,rfl⟩
def NU (ns:List aK) (m:Nat):Prop:=∀ i j i' j',CN ns i j->CN ns i' j'->i < m->i' < m->tgt ns (ent ns i j).id=tgt ns (ent ns i' j').id->i=i'/\j=j'
theorem KA {i m:Nat} (h:((di ns i m).map Prod.fst).Nodup):∀ j j',j < m->j' < m->(nd ns (tgt ns (ent ns i j).id)).kind=2->(nd ns (tgt ns (ent ns i j').id)).kind=2->tgt ns (ent ns i j).id=tgt ns (ent ns i j').id->j=j':=by
  induction m with
  | zero=>intro j j' hj;omega
  | succ m ih=>
    intro j j' hj hj' hk hk' e
    by_cases hm:(nd ns (tgt ns (ent ns i m).id)).kind=2
    ·rw [o5 hm,List.map_cons,List.nodup_cons] at h
     rcases Nat.lt_succ_iff_lt_or_eq.1 hj with e1|e1
     ·rcases Nat.lt_succ_iff_lt_or_eq.1 hj' with e2|e2
      ·exact ih h.2 j j' e1 e2 hk hk' e
      subst e2;exact absurd (List.mem_map.2 ⟨_,sE.2 ⟨j,e1,hk,rfl⟩,e⟩) h.1
     rcases Nat.lt_succ_iff_lt_or_eq.1 hj' with e2|e2
     ·subst e1;exact absurd (List.mem_map.2 ⟨_,sE.2 ⟨j',e2,hk',rfl⟩,e.symm⟩) h.1
     omega
    rw [sV hm] at h
    rcases Nat.lt_succ_iff_lt_or_eq.1 hj with e1|e1
    ·rcases Nat.lt_succ_iff_lt_or_eq.1 hj' with e2|e2
     ·exact ih h j j' e1 e2 hk hk' e
     subst e2;exact absurd hk' hm
    subst e1;exact absurd hk hm
theorem KC {m:Nat} (h:((fC ns m).map Prod.fst).Nodup):NU ns m:=by
  induction m with
  | zero=>intro i j i' j' _ _ hi;omega
  | succ m ih=>
    rw [fC,List.map_append] at h
    obtain⟨h1,h2,h3⟩:=List.nodup_append.1 h
    intro i j i' j' g g' hi hi' e
    rcases Nat.lt_succ_iff_lt_or_eq.1 hi with e1|e1
    ·rcases Nat.lt_succ_iff_lt_or_eq.1 hi' with e2|e2
     ·exact ih h2 i j i' j' g g' e1 e2 e
     subst e2
     exact absurd e.symm (h3 _ (List.mem_map.2 ⟨_,sE.2 ⟨j',g'.Dr,g'.dir,rfl⟩,rfl⟩) _ (List.mem_map.2 ⟨_,vB.2 ⟨i,j,e1,g.Dr,g.dir,rfl⟩,rfl⟩))
    rcases Nat.lt_succ_iff_lt_or_eq.1 hi' with e2|e2
    ·subst e1
     exact absurd e (h3 _ (List.mem_map.2 ⟨_,sE.2 ⟨j,g.Dr,g.dir,rfl⟩,rfl⟩) _ (List.mem_map.2 ⟨_,vB.2 ⟨i',j',e2,g'.Dr,g'.dir,rfl⟩,rfl⟩))
    subst e1;subst e2
    exact⟨rfl,KA h1 j j' g.Dr g'.Dr g.dir g'.dir e⟩
def Ho (ns:List aK) (d:Nat->Nat):Prop:=∀ i j,CN ns i j->d i < d (tgt ns (ent ns i j).id)
theorem bM.uniq (h:bM ns):NU ns ns.length:=KC h.nodup
theorem bM.deep (h:bM ns):∃ d,Ho ns d:=by
  refine⟨fun k=>Classical.choose (h.ends (nd ns k).id),fun i j g=>?_⟩
  have hp:=zO (ns:=ns) (Nat.le_refl _) h.ah
  have hat:=(h.ah i g.Qy j g.Dr).at_
  have htl:=nu hat
  have e1:=Classical.choose_spec (h.ends (nd ns i).id)
  have e2:=Classical.choose_spec (h.ends (nd ns (tgt ns (ent ns i j).id)).id)
  show Classical.choose (h.ends (nd ns i).id) < Classical.choose (h.ends (nd ns (tgt ns (ent ns i j).id)).id)
  generalize Classical.choose (h.ends (nd ns i).id)=x at e1 ⊢
  generalize Classical.choose (h.ends (nd ns (tgt ns (ent ns i j).id)).id)=y at e2 ⊢
  cases hu:up ((fC ns ns.length).map (iZ ns)) (nd ns (tgt ns (ent ns i j).id)).id with
  | none=>
    have:=GD hu
    exact absurd (List.mem_map.2 ⟨_,g.mem,rfl⟩) this
  | some z=>
    obtain⟨_,p,g1,g2,g3⟩:=GF h.rise htl.1 (fun p hp'=>(hp p hp').1) hu
    obtain⟨a,b,ha,hb,hk,rfl⟩:=vB.1 g1
    have g2:tgt ns (ent ns a b).id=tgt ns (ent ns i j).id:=g2
    obtain⟨rfl,rfl⟩:=h.uniq a b i j ⟨ha,hb,hk⟩ g ha g.Qy g2
    have g3:z=(nd ns a).id:=g3
    cases y with
    | zero=>
      have e2:up _ _=none:=e2
      rw [hu] at e2;cases e2
    | succ y=>
      obtain⟨z',h1,h2⟩:=e2
      rw [hu] at h1
      cases h1
      rw [g3] at h2
      have:=e1.uniq h2
      show x < y+1
      omega
end
end
section
open Go.RowKit Go.Maps bG aE
structure jb (X:FM):Prop where
  cN:0<=X.cN/\X.cN<=4096
  cB:0<=X.cB/\X.cB<=1099511627776
  cH:0<=X.cH/\X.cH<=1024
  now:dL X.cS X.cZ
def d8 (n:aK):Nat:=n.id.toNat
def nC (n:aK):Th:=⟨d8 n,n.kind⟩
def ou (n:aK):aR:=⟨n.id,n.mode,n.uid,n.gid,n.sec,n.nano,0,0,false,n.kind,n.data,n.target,[],none⟩
def D5:aR:=⟨0,0,0,0,0,0,0,0,false,0,[],⟨#[]⟩,[],none⟩
def gM (X:FM):aG:=⟨{ X with last:=0,ah:=0,used:=0 },fun _=>D5,[],[],0⟩
def cC (S:aG) (n:aK):aG:={ S with X:={ S.X with last:=n.id,used:=S.X.used+n.data.length },O:=aD S.O (d8 n) (fun _=>ou n),idx:=ins n.id (nC n) S.idx }
def lu (ns:List aK) (e:jj):Th:=nC (nd ns (tgt ns e.id))
def kC (ns:List aK) (S:aG) (n:aK) (e:jj):aG:={ S with X:={ S.X with ah:=S.X.ah+1 },O:=oG S.O (d8 n) e.name (lu ns e) }
def sF (ns:List aK):Nat->Nat
  | 0=>0
  | k+1=>sF ns k+(nd ns k).data.length
def Fm (ns:List aK):Used Th:=ns.map (fun n=>(n.id,nC n))
structure lT (X:FM) (ns:List aK) (k:Nat) (S:aG):Prop where
  inv:Inv0 S
  idx:S.idx=Fm (ns.take k)
  us:S.us=[]
  ar:S.ar=0
  cap:S.X={ X with last:=lq ns k,ah:=0,used:=(sF ns k:Int) }
  ob:∀ a,a < k->obj S.O (d8 (nd ns a))=ou (nd ns a)
  free:∀ x,(∀ a,a < k->x≠d8 (nd ns a))->obj S.O x=D5
section base
variable {X:FM} {ns:List aK} {i j k a b:Nat} {S:aG}
theorem xL (h:bM ns) (hk:k < ns.length):(d8 (nd ns k):Int)=(nd ns k).id:=by
  have:=h.ids k hk
  unfold d8;omega
theorem rO (h:bM ns) (ha:a < ns.length) (hb:b < ns.length) (e:d8 (nd ns a)=d8 (nd ns b)):a=b:=
  h.rise.inj ha hb (by rw [← xL h ha,← xL h hb,e])
theorem xM (hk:k < ns.length):ns[k]?=some (nd ns k):=getD_some hk
theorem OM (hk:k < ns.length):ns.take (k+1)=ns.take k++[nd ns k]:=by
  rw [List.take_add_one,xM hk];rfl
theorem KD (hX:jb X):lT X ns 0 (gM X):=by
  refine⟨?_,rfl,rfl,rfl,rfl,fun a h=>absurd h (Nat.not_lt_zero a),fun _ _=>rfl⟩
  have hn:∀ t,¬ Live ([]:Used Th) t:=fun t h=>by cases h
  exact⟨hX.cN,hX.cB,hX.cH,hX.now,by show (0:Int)<=0/\(0:Int)<=_;omega,.nil,Nat.zero_le _,fun _ _ e=>(by cases e),fun t h=>absurd h (hn t),fun t h=>absurd h (hn t),fun t h=>absurd h (hn t),fun t h=>absurd h (hn t),
    fun _ _=>⟨rfl,rfl⟩,fun _ _=>rfl,⟨rfl,by show (0:Int)<=8192;omega⟩,fun t h=>absurd h (hn t),fun t h=>absurd h (hn t),fun t h=>absurd h (hn t),.nil,fun x hx=>(by cases hx),(by show ((0:Nat):Int)<=X.cH;have:=hX.cH;omega),⟨Int.le_refl _,hX.cH.1⟩,fun _ _ e=>(by cases e),fun t h=>absurd h (hn t),fun t h=>absurd h (hn t),⟨fun _=>0,fun k d e=>(by cases e)⟩,⟨rfl,by show (0:Int)<=_;omega⟩⟩
theorem Hq (h:bM ns) (hk:k < ns.length):∀ x∈keys (Fm (ns.take k)),x < (nd ns k).id:=by
  intro x hx
  obtain⟨p,hp,rfl⟩:=List.mem_map.1 hx
  obtain⟨n,hn,rfl⟩:=List.mem_map.1 hp
  obtain⟨a,ha,e⟩:=List.mem_iff_getElem.1 hn
  rw [List.length_take] at ha
  rw [List.getElem_take] at e
  have e2:nd ns a=n:=by
    have:=xM (ns:=ns) (k:=a) (by omega)
    rw [List.getElem?_eq_getElem (by omega),e] at this
    exact (Option.some.inj this).symm
  rw [← e2]
  exact h.rise a k (by omega) hk
theorem Ds (hd:∀ i,i < ns.length->(nd ns i).data.length<=1048576) (hk:k<=ns.length):sF ns k<=1048576 * k:=by
  induction k with
  | zero=>exact Nat.le_refl _
  | succ k ih=>
    have h1:=ih (by omega)
    have h2:=hd k hk
    show sF ns k+(nd ns k).data.length<=_
    omega
theorem xO (h:bM ns) (hd:∀ i,i < ns.length->(nd ns i).data.length<=1048576) (hk:k < ns.length) (hB:lT X ns k S):lT X ns (k+1) (cC S (nd ns k)):=by
  have hs:=Ds hd (Nat.le_of_lt hk)
  have hn:=h.node k hk
  have hid:=xL h hk
  have Mz:=h.ids k hk
  have hu:S.X.used=(sF ns k:Int):=by rw [hB.cap]
  have hl:S.X.last=lq ns k:=by rw [hB.cap]
  have hlen:=h.len
  have hdk:=hd k hk
  have Vo:S.idx.length=k:=by
    rw [hB.idx];unfold Fm;rw [List.length_map,List.length_take];omega
  have h1:=hB.inv.newAt (k0:=d8 (nd ns k)) (o:=ou (nd ns k)) (j7:=S.X.used+(nd ns k).data.length) (us':=S.us) (fU:=S.ar) (by rw [hid,hl];exact h.last hk) (by rw [hid];exact Mz.2) ⟨rfl,by rw [hu];omega⟩ hid.symm
    (by have:=hn.kind;show (nd ns k).kind=1\/(nd ns k).kind=2\/(nd ns k).kind=3;omega) rfl rfl rfl rfl
    ⟨hn.mode,hn.uid,hn.gid,hn.time,fun e=>List.eq_nil_of_length_eq_zero (hn.data e),fun _=>rfl,hn.target⟩ (by omega)
    hB.inv.usr hB.inv.xh hB.inv.Dd hB.inv.ar (fun h t e=>⟨.inl (hB.inv.us h t e).1,(hB.inv.us h t e).2⟩) (fun _ _=>rfl) (by rw [hB.us];rfl)
  rw [hid] at h1
  refine⟨h1,?_,hB.us,hB.ar,?_,fun a ha=>?_,fun x hx=>(show obj (aD S.O (d8 (nd ns k)) fun _=>ou (nd ns k)) x=D5 from (cx (hx k (Nat.lt_succ_self k))).trans (hB.free x fun a ha=>hx a (Nat.lt_succ_of_lt ha)))⟩
  ·show ins (nd ns k).id (nC (nd ns k)) S.idx=_
   rw [hB.idx,LI (Hq h hk),OM hk]
   unfold Fm;rw [List.map_append];rfl
  ·show ({ S.X with last:=(nd ns k).id,used:=S.X.used+((nd ns k).data.length:Int) }:FM)=_
   rw [hu,hB.cap]
   show (⟨_,_,_,_,_,_,_,_⟩:FM)=⟨_,_,_,_,_,_,_,_⟩
   congr 1
  show obj (aD S.O (d8 (nd ns k)) (fun _=>ou (nd ns k))) (d8 (nd ns a))=_
  rcases Nat.lt_succ_iff_lt_or_eq.1 ha with e|e
  ·rw [cx (fun e2=>by have:=rO h (by omega) hk e2;omega)]
   exact hB.ob a e
  subst e;exact bL
theorem lT.fresh (h:bM ns) (hk:k < ns.length) (hB:lT X ns k S):tu S.O S.idx S.us (d8 (nd ns k)):=hB.inv.Cs (by rw [xL h hk,hB.cap];exact h.last hk)
theorem lT.new (h:bM ns) (hk:k < ns.length) (hB:lT X ns k S):aE.get S.idx (nd ns k).id=none:=get_none.2 (fun hm=>by
  rw [hB.idx] at hm
  exact absurd (Hq h hk _ hm) (by omega))
theorem zP (X:FM) (L:HL):(∀ k,bB (gM X).O L k=cu.none)/\(∀ k,bC (gM X).O L k=cu.none)/\∀ k,bV (gM X).O L k=cu.none:=⟨fun _=>if_pos rfl,fun _=>if_neg (by show ¬ (0:Int)=1;omega),fun _=>if_neg (by show ¬ (0:Int)=2;omega)⟩
theorem Sat.RU {β:Bs} {l l':List HP} {w:World} {i j b m c:Nat} {ix:List Nat} {O:bY} {L L':HL} {A:Option Addr} {o:aR} (h:Sat β l w) (hL:L'=L.put k b m A c) (hp:l[i]?=some (.abs (ax (bC O L)))) (hq:l[j]?=some (.abs (aH 5 1 A o.data.length c (bX o.data)))) (hd:bq (i::j::ix)=true) (hl:bT l ix=some l') (h1:o.kind=1):Sat β (.abs (ax (bC (aD O k (fun _=>o)) L'))::l') w:=by
  refine h.pX hp hq (fun _ _ h=>h) hd hl k (fun x hx=>by rw [wO hx,yh hL hx]) ?_
  rw [rX (by rw [bL];exact h1),bL]
  subst hL
  simp only [HL.put,if_true]
end base
theorem OO {O:bY} {L:HL} {d:Nat} {name:ByteArray} {t:Th}:bC (oG O d name t) L=bC O L:=
  su (fun _=>zw (g:=aR.data) (fun _ _=>rfl) (fun _ _=>rfl) (fun _ _=>rfl)) (fun _=>wR)
def mY (ns:List aK) (i j a:Nat):Nat:=if a < i then (nd ns a).ah.length else if a=i then j else 0
def pP (ns:List aK) (a m:Nat):eY Th:=((nd ns a).ah.take m).map (fun e=>(e.name,lu ns e))
structure fe (X:FM) (ns:List aK) (i j:Nat) (S:aG):Prop where
  inv:Inv0 S
  idx:S.idx=Fm ns
  us:S.us=[]
  ar:S.ar=0
  cap:S.X={ X with last:=lq ns ns.length,ah:=((eT ns i+j:Nat):Int),used:=(sF ns ns.length:Int) }
  ob:∀ a,a < ns.length->∃ l u,obj S.O (d8 (nd ns a))={ ou (nd ns a) with links:=l,ah:=pP ns a (mY ns i j a),up:=u }
  free:∀ x,(∀ a,a < ns.length->x≠d8 (nd ns a))->obj S.O x=D5
section ah
variable {X:FM} {ns:List aK} {i j k a b m:Nat} {S:aG} {t:Th}
theorem lT.ah (h:lT X ns ns.length S):fe X ns 0 0 S:=by
  refine⟨h.inv,by rw [h.idx,List.take_of_length_le (Nat.le_refl _)],h.us,h.ar,h.cap,fun a ha=>⟨0,none,?_⟩,h.free⟩
  rw [h.ob a ha]
  have:mY ns 0 0 a=0:=by
    unfold mY;rw [if_neg (Nat.not_lt_zero a)];split<;>rfl
  rw [this];rfl
theorem fe.get (h:fe X ns i j S) (ha:a < ns.length):aE.get S.idx (nd ns a).id=some (nC (nd ns a)):=by
  refine mK h.inv.rise ?_
  rw [h.idx]
  exact List.mem_map.2 ⟨nd ns a,List.mem_of_getElem? (xM ha),rfl⟩
theorem fe.live (hG:bM ns) (h:fe X ns i j S) (ha:a < ns.length):Live S.idx (nC (nd ns a)):=by
  have:=h.get ha
  rw [← xL hG ha] at this
  exact this
theorem fe.of (h:fe X ns i j S) {x:Int} (e:aE.get S.idx x=some t):∃ a,a < ns.length/\t=nC (nd ns a):=by
  have hm:=get_mem e
  rw [h.idx] at hm
  obtain⟨n,hn,e2⟩:=List.mem_map.1 hm
  obtain⟨a,ha,e3⟩:=List.mem_iff_getElem.1 hn
  have e4:nd ns a=n:=by
    have:=xM ha
    rw [List.getElem?_eq_getElem ha,e3] at this
    exact (Option.some.inj this).symm
  cases e2
  exact⟨a,ha,by rw [e4]⟩
theorem KE {es:List jj} {q:Nat} (hq:q < es.length):es[q]?=some (en es q):=getD_some hq
theorem vC {e:ByteArray×Th} (h:e∈pP ns a m):∃ q,q < m/\q < (nd ns a).ah.length/\e.1=(ent ns a q).name/\e.2=lu ns (ent ns a q):=by
  obtain⟨x,hx,rfl⟩:=List.mem_map.1 h
  obtain⟨q,hq,e⟩:=List.mem_iff_getElem.1 hx
  rw [List.length_take] at hq
  rw [List.getElem_take] at e
  have e2:ent ns a q=x:=by
    have:=KE (es:=(nd ns a).ah) (q:=q) (by omega)
    rw [List.getElem?_eq_getElem (by omega),e] at this
    exact (Option.some.inj this).symm
  exact⟨q,by omega,by omega,by rw [e2],by rw [e2]⟩
theorem KF (hj:j < (nd ns i).ah.length):pP ns i (j+1)=pP ns i j++[((ent ns i j).name,lu ns (ent ns i j))]:=by
  unfold pP
  rw [List.take_add_one,KE hj,List.map_append];rfl
theorem CO (hG:bM ns) (hi:i < ns.length) {q:Nat}:∀ {j},q < j->j < (nd ns i).ah.length->nK (ent ns i q).name (ent ns i j).name < 0
  | 0,h,_=>absurd h (Nat.not_lt_zero q)
  | j+1,h,hj=>by
    have h1:=sx.1 (hG.ah i hi (j+1) hj).ord
    have h1:nK (ent ns i j).name (ent ns i (j+1)).name < 0:=h1
    rcases Nat.lt_succ_iff_lt_or_eq.1 h with e|e
    ·exact Ag (CO hG hi e (by omega)) (Int.le_of_lt h1)
    rw [e];exact h1
theorem MB (hG:bM ns) (hi:i < ns.length) (hj:j < (nd ns i).ah.length):aT (ent ns i j).name (pP ns i j)=none:=by
  refine uX.2 (fun e he e1=>?_)
  obtain⟨q,h1,h2,h3,_⟩:=vC he
  have:=CO hG hi h1 hj
  rw [← h3,e1] at this
  have h4:=C3 (ent ns i j).name
  omega
theorem Dt {n:ByteArray}:∀ {es:eY Th},(∀ e∈es,nK e.1 n < 0)->gE n t es=es++[(n,t)]
  | [],_=>rfl
  | e::r,h=>by
    have h1:=h e (List.mem_cons_self ..)
    unfold gE
    rw [if_neg (fun hc=>by have:=sx.1 hc;have:=wC e.1 n;omega),Dt (fun x hx=>h x (List.mem_cons_of_mem _ hx))];rfl
theorem MC (hG:bM ns) (hi:i < ns.length) (hj:j < (nd ns i).ah.length):gE (ent ns i j).name (lu ns (ent ns i j)) (pP ns i j)=pP ns i (j+1):=by
  rw [KF hj]
  refine Dt (fun e he=>?_)
  obtain⟨q,h1,_,h3,_⟩:=vC he
  rw [h3]
  exact CO hG hi h1 hj
theorem uJ (hG:bM ns) (hi:i < ns.length) (hj:j < (nd ns i).ah.length):tgt ns (ent ns i j).id < ns.length/\(nd ns (tgt ns (ent ns i j).id)).id=(ent ns i j).id:=by
  have:=nu (hG.ah i hi j hj).at_
  exact⟨this.1,this.2.1⟩
theorem CP {O:bY} {d x:Nat} {name:ByteArray} (h:t.k≠d):obj (oG O d name t) x=if x=d then { obj O d with ah:=gE name t (obj O d).ah } else if x=t.k then { obj O x with links:=(obj O x).links+1,up:=if t.kind=2 then some d else (obj O x).up } else obj O x:=by
  have key:∀ O2:bY,O2=aD (aD O d (fun o=>{ o with ah:=gE name t o.ah })) t.k (fun o=>{ o with links:=o.links+1 })->obj (if t.kind=2 then aD O2 t.k (fun o=>{ o with up:=some d }) else O2) x=if x=d then { obj O d with ah:=gE name t (obj O d).ah } else if x=t.k then { obj O x with links:=(obj O x).links+1,up:=if t.kind=2 then some d else (obj O x).up } else obj O x:=by
    intro O2 e
    by_cases hk:t.kind=2
    ·rw [if_pos hk,if_pos hk,jX,e,jX,jX]
     by_cases e1:x=d
     ·subst e1;rw [if_neg (fun e=>h e.symm),if_neg (fun e=>h e.symm),if_pos rfl,if_pos rfl]
     by_cases e2:x=t.k
     ·rw [if_pos e2,if_pos e2,if_neg e1,if_neg e1,if_pos e2]
     rw [if_neg e2,if_neg e2,if_neg e1,if_neg e1,if_neg e2]
    rw [if_neg hk,if_neg hk,e,jX,jX]
    by_cases e1:x=d
    ·subst e1;rw [if_neg (fun e=>h e.symm),if_pos rfl,if_pos rfl]
    by_cases e2:x=t.k
    ·rw [if_pos e2,if_neg e1,if_neg e1,if_pos e2]
    rw [if_neg e2,if_neg e1,if_neg e1,if_neg e2]
  exact key _ rfl
theorem fe.TQ (hG:bM ns) (h:fe X ns i j S) {d:Nat} (hd:Live S.idx ⟨d,2⟩) {n:ByteArray} (ha:a < ns.length) (hk:(nd ns a).kind=2) (hl:aT n (obj S.O d).ah=some (nC (nd ns a))):∃ b q,b < ns.length/\d=d8 (nd ns b)/\CN ns b q/\tgt ns (ent ns b q).id=a:=by
  obtain⟨b,hb,e⟩:=h.of hd
  have e:(⟨d,2⟩:Th)=⟨d8 (nd ns b),(nd ns b).kind⟩:=e
  have e1:d=d8 (nd ns b):=congrArg Th.k e
  subst e1
  obtain⟨l,u,ho⟩:=h.ob b hb
  have hm:=lW hl
  rw [ho] at hm
  obtain⟨q,h1,h2,_,h4⟩:=vC hm
  have ht:=uJ hG hb h2
  have h5:d8 (nd ns a)=d8 (nd ns (tgt ns (ent ns b q).id)):=congrArg Th.k h4
  have h6:=rO hG ha ht.1 h5
  exact⟨b,q,hb,rfl,⟨hb,h2,by rw [← h6];exact hk⟩,h6.symm⟩
theorem fe.below (hG:bM ns) (h:fe X ns i j S) {dp:Nat->Nat} (hdp:Ho ns dp) {s k:Nat} (hb:jD S.O s k):∀ {a b},a < ns.length->k=d8 (nd ns a)->b < ns.length->s=d8 (nd ns b)->dp b<=dp a:=by
  induction hb with
  | here=>
    intro a b ha e1 hb e2
    have:=rO hG ha hb (by rw [← e1,← e2])
    rw [this];exact Nat.le_refl _
  | up hup _ ih=>
    intro a b ha e1 hb e2
    subst e1
    have hlv:=h.live hG ha
    obtain⟨h1,h2,n,h3⟩:=(h.inv.up _ hlv _).1 hup
    obtain⟨c,q,hc,e3,hD,e4⟩:=h.TQ hG h2 ha h1 h3
    have h5:=hdp c q hD
    rw [e4] at h5
    have:=ih hc e3 hb e2
    omega
theorem fe.links (hG:bM ns) (h:fe X ns i j S) (hi:i < ns.length) (hj:j < (nd ns i).ah.length) (hk:(lu ns (ent ns i j)).kind=2):(obj S.O (lu ns (ent ns i j)).k).links=0:=by
  have ht:=uJ hG hi hj
  have hlv:Live S.idx (lu ns (ent ns i j)):=h.live hG ht.1
  rw [h.inv.links _ hlv]
  cases hz:iw S.idx S.O (lu ns (ent ns i j)).k with
  | zero=>rfl
  | succ z=>
    exfalso
    obtain⟨x,u,hu,e,he,e1⟩:=AO h.inv.rise (show 0 < iw S.idx S.O (lu ns (ent ns i j)).k by omega)
    obtain⟨b,hb,rfl⟩:=h.of hu
    obtain⟨l,u,ho⟩:=h.ob b hb
    have he:e∈(obj S.O (d8 (nd ns b))).ah:=he
    rw [ho] at he
    obtain⟨q,h1,h2,_,h4⟩:=vC he
    have ht2:=uJ hG hb h2
    have h5:d8 (nd ns (tgt ns (ent ns b q).id))=d8 (nd ns (tgt ns (ent ns i j).id)):=by
      rw [h4] at e1;exact e1
    have h6:=rO hG ht2.1 ht.1 h5
    obtain⟨rfl,rfl⟩:=hG.uniq b q i j ⟨hb,h2,by rw [h6];exact hk⟩ ⟨hi,hj,hk⟩ hb hi h6
    unfold mY at h1
    rw [if_neg (Nat.lt_irrefl _),if_pos rfl] at h1
    omega
theorem fe.look (hG:bM ns) (h:fe X ns i j S) (hi:i < ns.length) (hj:j < (nd ns i).ah.length):(obj S.O (d8 (nd ns i))).ah=pP ns i j/\aT (ent ns i j).name (obj S.O (d8 (nd ns i))).ah=none/\(nd ns i).kind=2:=by
  obtain⟨l,u,ho⟩:=h.ob i hi
  have e1:(obj S.O (d8 (nd ns i))).ah=pP ns i j:=by
    rw [ho]
    show pP ns i (mY ns i j i)=_
    unfold mY;rw [if_neg (Nat.lt_irrefl _),if_pos rfl]
  refine⟨e1,by rw [e1];exact MB hG hi hj,?_⟩
  cases Decidable.em ((nd ns i).kind=2) with
  | inl h=>exact h
  | inr h=>have:=(hG.node i hi).ah h;omega
theorem fe.gone (h:fe X ns i j S) (ha:a < ns.length):(obj S.O (d8 (nd ns a))).gone=false:=by
  obtain⟨l,u,ho⟩:=h.ob a ha
  rw [ho];rfl
theorem fe.ne (hG:bM ns) (hi:i < ns.length) (hj:j < (nd ns i).ah.length) (hk:(nd ns i).kind=2):(lu ns (ent ns i j)).k≠d8 (nd ns i):=fun e=>by
  have ht:=uJ hG hi hj
  have h1:=rO hG ht.1 hi e
  obtain⟨dp,hdp⟩:=hG.deep
  have:=hdp i j ⟨hi,hj,by rw [h1];exact hk⟩
  rw [h1] at this
  exact Nat.lt_irrefl _ this
theorem fe.step (hG:bM ns) (h:fe X ns i j S) (hi:i < ns.length) (hj:j < (nd ns i).ah.length):fe X ns i (j+1) (kC ns S (nd ns i) (ent ns i j)):=by
  obtain⟨l1,l2,l3⟩:=h.look hG hi hj
  have ht:=uJ hG hi hj
  have hne:=fe.ne hG hi hj l3
  have hld:Live S.idx ⟨d8 (nd ns i),2⟩:=by
    have:=h.live hG hi
    unfold nC at this
    rw [l3] at this
    exact this
  have hlt:Live S.idx (lu ns (ent ns i j)):=h.live hG ht.1
  have hX:S.X.ah=((eT ns i+j:Nat):Int):=by rw [h.cap]
  have hsum:eT ns i+j < 8192:=by
    have h1:eT ns (i+1)<=eT ns ns.length:=tS hi
    have h2:eT ns (i+1)=eT ns i+(nd ns i).ah.length:=rfl
    have h3:=hG.sum
    omega
  have h1:=h.inv.put (O':=oG S.O (d8 (nd ns i)) (ent ns i j).name (lu ns (ent ns i j))) (ta:=(obj S.O (d8 (nd ns i))).sec) (tb:=(obj S.O (d8 (nd ns i))).nano) hld (h.gone hi) l2 (hG.ah i hi j hj).good hlt (h.gone ht.1) (fun hk=>⟨h.links hG hi hj hk,fun hb=>by
      obtain⟨dp,hdp⟩:=hG.deep
      have h2:=h.below hG hdp hb hi rfl ht.1 rfl
      have h3:=hdp i j ⟨hi,hj,hk⟩
      omega⟩) hne (by rw [hX];omega) (h.inv.mt _ hld).time (fun x=>CP hne)
  refine⟨h1,h.idx,h.us,h.ar,?_,fun a ha=>?_,fun x hx=>(CP hne).trans (by rw [if_neg (hx i hi),if_neg (show ¬ x=(lu ns (ent ns i j)).k from hx _ ht.1)];exact h.free x hx)⟩
  ·show ({ S.X with ah:=S.X.ah+1 }:FM)=_
   rw [hX,h.cap]
   show (⟨_,_,_,_,_,_,_,_⟩:FM)=⟨_,_,_,_,_,_,_,_⟩
   congr 1
  obtain⟨l,u,ho⟩:=h.ob a ha
  show ∃ l u,obj (oG S.O (d8 (nd ns i)) (ent ns i j).name (lu ns (ent ns i j))) (d8 (nd ns a))=_
  rw [CP hne]
  by_cases e:a=i
  ·subst e
   refine⟨l,u,?_⟩
   rw [if_pos rfl,l1,MC hG hi hj,ho]
   have hc:mY ns a (j+1) a=j+1:=by unfold mY;rw [if_neg (Nat.lt_irrefl _),if_pos rfl]
   rw [hc]
  have hc:mY ns i (j+1) a=mY ns i j a:=by
    unfold mY;rw [if_neg e,if_neg e]
  rw [if_neg (fun e2=>e (rO hG ha hi e2)),hc]
  split
  ·rw [ho];exact⟨_,_,rfl⟩
  exact⟨l,u,ho⟩
theorem fe.next (h:fe X ns i (nd ns i).ah.length S):fe X ns (i+1) 0 S:=by
  refine⟨h.inv,h.idx,h.us,h.ar,h.cap,fun a ha=>?_,h.free⟩
  obtain⟨l,u,ho⟩:=h.ob a ha
  refine⟨l,u,?_⟩
  rw [ho]
  have:mY ns (i+1) 0 a=mY ns i (nd ns i).ah.length a:=by
    unfold mY
    by_cases e:a=i
    ·subst e;rw [if_pos (by omega),if_neg (by omega),if_pos rfl]
    by_cases e2:a < i
    ·rw [if_pos (by omega),if_pos e2]
    rw [if_neg (by omega),if_neg e2,if_neg e];split<;>rfl
  rw [this]
theorem fe.full (h:fe X ns i j S):Inv S:=by
  refine⟨h.inv,fun t ht hg=>?_⟩
  obtain⟨a,ha,rfl⟩:=h.of ht
  have:(obj S.O (d8 (nd ns a))).gone=true:=hg
  rw [h.gone ha] at this
  cases this
theorem fe.uniq {S':aG} (h:fe X ns ns.length 0 S) (h':fe X ns ns.length 0 S'):S=S':=by
  have hx:S.idx=S'.idx:=h.idx.trans h'.idx.symm
  have hat:∀ a,a < ns.length->∃ l u l' u',obj S.O (d8 (nd ns a))={ ou (nd ns a) with links:=l,ah:=pP ns a (mY ns ns.length 0 a),up:=u }/\obj S'.O (d8 (nd ns a))={ ou (nd ns a) with links:=l',ah:=pP ns a (mY ns ns.length 0 a),up:=u' }:=fun a ha=>by
    obtain⟨l,u,e⟩:=h.ob a ha
    obtain⟨l',u',e'⟩:=h'.ob a ha
    exact⟨l,u,l',u',e,e'⟩
  have cs:∀ x,(∃ a,a < ns.length/\x=d8 (nd ns a))\/∀ a,a < ns.length->x≠d8 (nd ns a):=fun x=>by
    by_cases hc:∃ a,a < ns.length/\x=d8 (nd ns a)
    ·exact .inl hc
    exact .inr fun a ha e=>hc ⟨a,ha,e⟩
  have hE:∀ x,(obj S.O x).ah=(obj S'.O x).ah:=fun x=>by
    rcases cs x with ⟨a,ha,rfl⟩|hc
    ·obtain⟨l,u,l',u',e,e'⟩:=hat a ha
     rw [e,e']
    rw [h.free x hc,h'.free x hc]
  have hl:∀ k,iw S.idx S.O k=iw S'.idx S'.O k:=fun k=>by
    unfold iw
    simp only [hE,hx]
  have hO:S.O=S'.O:=funext fun x=>by
    show obj S.O x=obj S'.O x
    rcases cs x with ⟨a,ha,rfl⟩|hc
    ·have lv:Live S.idx (nC (nd ns a)):=by
       obtain⟨l,u,e⟩:=h.ob a ha
       have:=mK h.inv.rise (by rw [h.idx];exact List.mem_map.2 ⟨nd ns a,List.mem_of_getElem? (xM ha),rfl⟩)
       have hw:=h.inv.idx _ _ this
       show aE.get S.idx _=_
       rw [← hw.1];exact this
     have SJ:Live S'.idx (nC (nd ns a)):=hx ▸ lv
     have k1:(obj S.O (d8 (nd ns a))).links=(obj S'.O (d8 (nd ns a))).links:=(h.inv.links _ lv).trans ((congrArg Int.ofNat (hl _)).trans (h'.inv.links _ SJ).symm)
     have k2:(obj S.O (d8 (nd ns a))).up=(obj S'.O (d8 (nd ns a))).up:=by
       refine Option.ext fun d=>?_
       have q:=(h.inv.up _ lv d).trans ((show _↔_ by rw [hx,hE d]).trans (h'.inv.up _ SJ d).symm)
       exact q
     obtain⟨l,u,l',u',e,e'⟩:=hat a ha
     rw [e,e'] at k1 k2
     rw [e,e']
     cases k1;cases k2;rfl
    rw [h.free x hc,h'.free x hc]
  obtain⟨_,_,_,_,_⟩:=S
  obtain⟨_,_,_,_,_⟩:=S'
  cases hO
  cases hx
  cases h.us.trans h'.us.symm
  cases h.ar.trans h'.ar.symm
  cases h.cap.trans h'.cap.symm
  rfl
end ah
end
end Go.Proofs.YtidjcblbdmfalaaGreat
