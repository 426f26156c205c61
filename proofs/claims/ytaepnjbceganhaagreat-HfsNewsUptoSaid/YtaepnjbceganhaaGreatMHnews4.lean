/-
  PROVED HERE: lemmas and contracts of functions (texts of this repo, joined; what the claim does not use is left out): H9, Vh, HD, H10, Hz, ShelfS, SK, HG, Vp, H11, GEnter, GR, GRead, GP, GOk, Nw.
  CONDITIONS: as the theorems say.
-/
import Derived.Test.YtaepnjbceganhaaGreatMHnews3
import Derived.Shelf.SlGeneric
import Derived.Shelf.SlIter.Nil
import Derived.Shelf.SortM.Plain
import Derived.Shelf.SortM.SortNone
import Derived.Ground.GgzProg
import Derived.Ground.SlgmProg
import Derived.Test.YtaepnjbceganhaaGreatProg
set_option maxRecDepth 100000
set_option maxHeartbeats 4000000
namespace Go.Proofs.YtaepnjbceganhaaGreat
section
open Go.RowKit Go.Maps ck aB
attribute [local irreducible] ak aK af ai
abbrev O8 (S:aH) (L:HL) (tk:Nat):=(.abs (ay (kV (bD S.O L) tk bY.none)):HP)
abbrev JF (L:HL) (tk:Nat) (S:aH) (c:aQ):=(.blk (L.b tk) [vI ((obj S.O tk).id),vI (c.mode),vI ((obj S.O tk).uid),vI ((obj S.O tk).gid),vI ((obj S.O tk).sec),vI ((obj S.O tk).nano),vI ((obj S.O tk).links),vI ((obj S.O tk).opens),.bool (obj S.O tk).gone,.slice (L.dA tk) ((obj S.O tk).data.length) ((L.dC tk))] 72:HP)
abbrev JG (L:HL) (tk:Nat) (S:aH) (c:aQ):=(.blk (L.b tk) [vI ((obj S.O tk).id),vI (c.mode),vI (c.uid),vI ((obj S.O tk).gid),vI ((obj S.O tk).sec),vI ((obj S.O tk).nano),vI ((obj S.O tk).links),vI ((obj S.O tk).opens),.bool (obj S.O tk).gone,.slice (L.dA tk) ((obj S.O tk).data.length) ((L.dC tk))] 72:HP)
abbrev JH (L:HL) (tk:Nat) (S:aH) (c:aQ):=(.blk (L.b tk) [vI ((obj S.O tk).id),vI (c.mode),vI (c.uid),vI (c.gid),vI ((obj S.O tk).sec),vI ((obj S.O tk).nano),vI ((obj S.O tk).links),vI ((obj S.O tk).opens),.bool (obj S.O tk).gone,.slice (L.dA tk) ((obj S.O tk).data.length) ((L.dC tk))] 72:HP)
abbrev Nq (L:HL) (tk:Nat) (S:aH) (c:aQ):=(.blk (L.b tk) [vI ((obj S.O tk).id),vI (c.mode),vI ((obj S.O tk).uid),vI ((obj S.O tk).gid),vI ((obj S.O tk).sec),vI ((obj S.O tk).nano),vI ((obj S.O tk).links),vI ((obj S.O tk).opens),.bool (obj S.O tk).gone,.map (some (L.m tk)),(q5 L (obj S.O tk).up)] 79:HP)
abbrev Nr (L:HL) (tk:Nat) (S:aH) (c:aQ):=(.blk (L.b tk) [vI ((obj S.O tk).id),vI (c.mode),vI (c.uid),vI ((obj S.O tk).gid),vI ((obj S.O tk).sec),vI ((obj S.O tk).nano),vI ((obj S.O tk).links),vI ((obj S.O tk).opens),.bool (obj S.O tk).gone,.map (some (L.m tk)),(q5 L (obj S.O tk).up)] 79:HP)
abbrev Ns (L:HL) (tk:Nat) (S:aH) (c:aQ):=(.blk (L.b tk) [vI ((obj S.O tk).id),vI (c.mode),vI (c.uid),vI (c.gid),vI ((obj S.O tk).sec),vI ((obj S.O tk).nano),vI ((obj S.O tk).links),vI ((obj S.O tk).opens),.bool (obj S.O tk).gone,.map (some (L.m tk)),(q5 L (obj S.O tk).up)] 79:HP)
abbrev Nt (S:aH) (c:aQ) (L2:HL):=(pO (aA S.O (aJ S.X) (fun _=>(⟨0,c.mode,0,0,0,0,0,0,false,1,[],⟨#[]⟩,[],none⟩:aO))) L2:HP)
abbrev mR (f:Nat) (m:Nat) (t) (S:aH) (L:HL) (tk:Nat) (cb:Nat) (c) (R:bY):=([pF f m t S.X,pI m L S.idx,kB t S L,O8 S L tk,pD S.O L,pE S.O L,pC cb c,.abs R]:List HP)
abbrev Ir (L:HL) (tk:Nat) (c:aQ):=([(65,vP (L.b tk)),(66,vP (L.b tk)),(67,vP (L.b tk)),(71,vI (c.mode)),(75,vI (c.uid)),(79,vI (c.gid)),(83,.agg #[vI (c.sec),vI (c.nano)]),(85,.pointer (some ⟨(L.b tk),1,none⟩))]:Fr)
abbrev oo (c:aQ):=([(79,vI (c.gid)),(83,.agg #[vI (c.sec),vI (c.nano)])]:Fr)
abbrev yN (L:HL) (tk:Nat) (c:aQ):=([(66,vP (L.b tk)),(67,vP (L.b tk)),(75,vI (c.uid))]:Fr)
abbrev Iu (c:aQ) (L:HL) (tk:Nat):=([(83,.agg #[vI (c.sec),vI (c.nano)]),(91,.pointer (some ⟨(L.b tk),4,none⟩))]:Fr)
abbrev Iw (t)(c:aQ):=([(12,vP t),(16,vI (c.handle))]:Fr)
abbrev LD (cb:Nat) (f:Nat) (b4:Nat):=([(49,vP cb),(50,vP f),(52,.iface 69 (vP b4))]:Fr)
theorem zT {β:Bs} (S:aH) (L:HL) (f m t:Nat) (hI:Inv S) (cb:Nat) (c:aQ) (hC:fI β c) :
    Spec Tryz.prog β 51 #[vP f,vP cb] ((pA f m t L S)++[pC cb c]) (fun v l=>∃ L2,v=vI (bA S c).1/\l=((pA f m t L2 ((bA S c).2.1))++[.blk cb (gM ((bA S c).2.2)) 50])):=by
 have hX:=hI.hX
 refine Spec.enter Tryz.func51 rfl Tryz.ntmps51 (Nat.le_of_ble_eq_true rfl) (fun R=>?_)
 refine af.seq ?_
 rcases hI.hand c.handle with cT|⟨tk,cT,hlv⟩|⟨tk,cT,hlv⟩
 ·refine af.region (gK 1 [] [] ?_)
  refine NN (af.seq (af.bp (by kernel_rfl) (by kernel_rfl) ?_))
  refine gQ 8 (Iw t c) [(3,a_ 0 f),(7,a_ 6 cb)] ?_
  refine aK.call (f:=77) (args:=#[vP t,vI (c.handle)]) (d:=(some 17)) (pre:=[kB t S L]) (R:=(om f m t S L cb c R)) (pk:=[2,0,1,3,4,5,6,7]) (gq:=[1,2,0,3,4,5,6,7]) (v0:=.tuple #[.nilIface,vI 131]) (fun _=>by kernel_rfl) (nQ t S.X.cH S.av (aT L S.us) c.handle hC.hw (ni cT)) rfl (by kernel_rfl) rfl (by kernel_rfl) (fun _ _ h=>h) ?_
  refine gQ 5 [(5,.nilIface),(6,vI 131)] [] ?_
  refine NQ (NX (af.seq (SR ?_)))
  refine gK 2 [(21,.bool true)] [] ?_
  refine NN (CT (SR (gK 2 [(4,vI 131)] [] ?_)))
  refine NN (af.ret (ai.aj ?_))
  exact RT (vI 131) [0,1,2,3,4,5,6,7] (⟨L,by rw [show (bA S c)=(131,S,c) by unfold bA;rw [cT]]<;>exact⟨rfl,rfl⟩⟩)
 ·have hkt:(obj S.O tk).kind=1:=hI.kind hlv
  refine af.region (gK 1 [] [] ?_)
  refine NN (af.seq (af.bp (by kernel_rfl) (by kernel_rfl) ?_))
  refine gQ 8 (Iw t c) [(3,a_ 0 f),(7,a_ 6 cb)] ?_
  refine aK.call (f:=77) (args:=#[vP t,vI (c.handle)]) (d:=(some 17)) (pre:=[kB t S L]) (R:=(om f m t S L cb c R)) (pk:=[2,0,1,3,4,5,6,7]) (gq:=[1,2,0,3,4,5,6,7]) (v0:=.tuple #[.iface 69 (vP (L.b tk)),vI 0]) (fun _=>by kernel_rfl) (jN t S.X.cH S.av (aT L S.us) c.handle hC.hw (dh L ⟨tk,1⟩) (jg cT)) rfl (by kernel_rfl) rfl (by kernel_rfl) (fun _ _ h=>h) ?_
  refine gQ 5 (EJ L tk) [] ?_
  refine NQ (NX (af.seq (SR ?_)))
  refine gK 2 [(21,.bool false)] [] ?_
  refine NN (CF (af.skip (NX (SR (gK 1 [(23,.iface 69 (vP (L.b tk)))] [] ?_)))))
  refine gL [] (cJ (L.b tk)) ?_
  rintro _ _ ⟨rfl,rfl⟩
  refine gK 1 [(7,vP (L.b tk))] [] ?_
  refine NN (af.seq (af.block (SR ?_)))
  refine gK 5 [(30,.bool (obj S.O tk).gone)] [(3,v_ 3 (mA L hkt))] ?_
  refine ak.kG 30 (obj S.O tk).gone (fun _=>by kernel_rfl) (fun jR=>?_) (fun jR=>?_)
  ·refine gK 1 [(31,.iface 69 (vP (L.b tk)))] [] ?_
   refine gL [] (kg (vP (L.b tk))) ?_
   rintro _ _ ⟨rfl,rfl⟩
   refine gK 3 [(25,.bool false)] [] ?_
   refine NN (CF (SR (gK 4 [(39,vI (c.mode))] [(3,a_ 6 cb)] ?_)))
   refine gL [] (ef (c.mode) 4095) ?_
   rintro _ _ ⟨rfl,rfl⟩
   refine gK 2 [(35,.bool (!(decide (0<=c.mode/\c.mode<=4095))))] [] ?_
   refine NN (af.cu (p:=0<=c.mode/\c.mode<=4095) (fun _=>by kernel_rfl) (fun jD=>?_) (fun jD=>?_))
   ·refine SR (gK 1 [(4,vI 120)] [] ?_)
    refine NN (af.ret (ai.ax (ai.aj ?_)))
    exact RT (vI 120) [0,1,2,3,4,5,6,7] (⟨L,by rw [show (bA S c)=(120,S,c) by unfold bA;rw [cT];exact (if_neg (fun h=>absurd h.2 (by simp))).trans (if_neg jD)]<;>exact⟨rfl,rfl⟩⟩)
   refine SR (gK 4 [(46,vI (c.uid))] [(3,a_ 6 cb)] ?_)
   refine gL [] (ef (c.uid) 2147483647) ?_
   rintro _ _ ⟨rfl,rfl⟩
   refine gK 2 [(49,.bool (!(decide (0<=c.uid/\c.uid<=2147483647))))] [] ?_
   refine ak.d9 49 (0<=c.uid/\c.uid<=2147483647) (fun _=>by kernel_rfl) (fun qz=>?_) (fun qz=>?_)
   ·refine gK 8 [(42,.bool true)] [] ?_
    refine NN (CT (SR (gK 1 [(4,vI 11)] [] ?_)))
    refine NN (af.ret (ai.ax (ai.aj ?_)))
    exact RT (vI 11) [0,1,2,3,4,5,6,7] (⟨L,by rw [show (bA S c)=(11,S,c) by unfold bA;rw [cT];exact (if_neg (fun h=>absurd h.2 (by simp))).trans ((if_pos jD).trans (if_neg (fun h=>qz h.1)))]<;>exact⟨rfl,rfl⟩⟩)
   refine gK 4 [(53,vI (c.gid))] [(3,a_ 6 cb)] ?_
   refine gL [] (ef (c.gid) 2147483647) ?_
   rintro _ _ ⟨rfl,rfl⟩
   refine gK 3 [(42,.bool (!(decide (0<=c.gid/\c.gid<=2147483647))))] [] ?_
   refine NN (af.cu (p:=0<=c.gid/\c.gid<=2147483647) (fun _=>by kernel_rfl) (fun mP=>?_) (fun mP=>?_))
   ·refine SR (gK 1 [(4,vI 11)] [] ?_)
    refine NN (af.ret (ai.ax (ai.aj ?_)))
    exact RT (vI 11) [0,1,2,3,4,5,6,7] (⟨L,by rw [show (bA S c)=(11,S,c) by unfold bA;rw [cT];exact (if_neg (fun h=>absurd h.2 (by simp))).trans ((if_pos jD).trans (if_neg (fun h=>mP h.2)))]<;>exact⟨rfl,rfl⟩⟩)
   refine SR (gK 4 [(61,.agg #[vI (c.sec),vI (c.nano)])] [(3,A_ 6 cb 2)] ?_)
   refine gL [] (fU c.sec c.nano) ?_
   rintro _ _ ⟨rfl,rfl⟩
   refine gK 2 [(57,.bool (!(decide (cg c.sec c.nano))))] [] ?_
   refine NN (af.cu (p:=cg c.sec c.nano) (fun _=>by kernel_rfl) (fun q4=>?_) (fun q4=>?_))
   ·refine SR (gK 1 [(4,vI 20)] [] ?_)
    refine NN (af.ret (ai.ax (ai.aj ?_)))
    exact RT (vI 20) [0,1,2,3,4,5,6,7] (⟨L,by rw [show (bA S c)=(20,S,c) by unfold bA;rw [cT];exact (if_neg (fun h=>absurd h.2 (by simp))).trans ((if_pos jD).trans ((if_pos ⟨qz,mP⟩).trans (if_neg q4)))]<;>exact⟨rfl,rfl⟩⟩)
   refine af.skip (ai.aF (NX (af.seq ?_)))
   skip
   refine af.mem (fun w hS=>hS.tK (i:=3) (k:=tk) rfl (by rw [hkt];decide) (fV (hkt)) (congrArg je (hkt))) ?_
   refine af.ct (S:=[pC cb c]) [0,1,2,3,4,5,6,7,8,9,10,11,12,13,14,15,16,17,18,19,20,21,22,23,24,25,26,27,28,29,30,31] 22 [6] (by kernel_rfl) (by kernel_rfl) rfl (by kernel_rfl) ?_
   refine gR 0 [22,23,24,25,26,27,28,29,30,31] (Ir L tk c) [0,1,2,3,4,5,6,7,8,9,10,11,12,13,14,15,16,17,18,19,20,21] [(7,a_ 0 cb),(11,a_ 0 cb),(15,a_ 0 cb),(19,A_ 0 cb 2)] ?_
   refine mC [6] [] [(0,a_ 8 (L.b tk))] [(8,[(1,vI (c.mode))])] ?_
   refine aG.cut (ι:=Unit) (fr':=fun (_:Unit)=>(yN L tk c++oo c++[(86,vP (L.b tk))])) (hp':=fun (_:Unit)=>(mR f m t S L tk cb c R++[JF L tk S c])) [6] rfl rfl ?_ rfl (fun _=>by kernel_rfl) ?_
   ·refine gK 1 [(86,vP (L.b tk))] [] ?_
    refine NL ?_
    exact MD () [66,67,75,79,83,86] [0,1,2,3,4,5,6,7,8]
   rintro _
   refine aG.cut (ι:=Unit) (fr':=fun (_:Unit)=>(yN L tk c++oo c++[(87,.pointer (some ⟨(L.b tk),2,none⟩))])) (hp':=fun (_:Unit)=>(mR f m t S L tk cb c R++[JF L tk S c])) [6] rfl rfl ?_ rfl (fun _=>by kernel_rfl) ?_
   ·refine gK 1 [(87,.pointer (some ⟨(L.b tk),2,none⟩))] [] ?_
    refine NL ?_
    exact MD () [66,67,75,79,83,87] [0,1,2,3,4,5,6,7,8]
   rintro _
   refine mC [6] [] [(0,a_ 8 (L.b tk))] [(8,[(2,vI (c.uid))])] ?_
   refine aG.cut (ι:=Unit) (fr':=fun (_:Unit)=>([(67,vP (L.b tk))]++oo c++[(88,vP (L.b tk))])) (hp':=fun (_:Unit)=>(mR f m t S L tk cb c R++[JG L tk S c])) [6] rfl rfl ?_ rfl (fun _=>by kernel_rfl) ?_
   ·refine gK 1 [(88,vP (L.b tk))] [] ?_
    refine NL ?_
    exact MD () [67,79,83,88] [0,1,2,3,4,5,6,7,8]
   rintro _
   refine aG.cut (ι:=Unit) (fr':=fun (_:Unit)=>([(67,vP (L.b tk))]++oo c++[(89,.pointer (some ⟨(L.b tk),3,none⟩))])) (hp':=fun (_:Unit)=>(mR f m t S L tk cb c R++[JG L tk S c])) [6] rfl rfl ?_ rfl (fun _=>by kernel_rfl) ?_
   ·refine gK 1 [(89,.pointer (some ⟨(L.b tk),3,none⟩))] [] ?_
    refine NL ?_
    exact MD () [67,79,83,89] [0,1,2,3,4,5,6,7,8]
   rintro _
   refine mC [6] [] [(0,a_ 8 (L.b tk))] [(8,[(3,vI (c.gid))])] ?_
   refine aG.cut (ι:=Unit) (fr':=fun (_:Unit)=>[(83,.agg #[vI (c.sec),vI (c.nano)]),(90,vP (L.b tk))]) (hp':=fun (_:Unit)=>(mR f m t S L tk cb c R++[JH L tk S c])) [6] rfl rfl ?_ rfl (fun _=>by kernel_rfl) ?_
   ·refine gK 1 [(90,vP (L.b tk))] [] ?_
    refine NL ?_
    exact MD () [83,90] [0,1,2,3,4,5,6,7,8]
   rintro _
   refine aG.cut (ι:=Unit) (fr':=fun (_:Unit)=>(Iu c L tk)) (hp':=fun (_:Unit)=>(mR f m t S L tk cb c R++[JH L tk S c])) [6] rfl rfl ?_ rfl (fun _=>by kernel_rfl) ?_
   ·refine gK 1 [(91,.pointer (some ⟨(L.b tk),4,none⟩))] [] ?_
    refine NL ?_
    exact MD () [83,91] [0,1,2,3,4,5,6,7,8]
   rintro _
   refine aG.last rfl rfl ?_
   refine gC 1 [] [(0,A_ 8 (L.b tk) 2)] [(8,[(4,vI (c.sec)),(5,vI (c.nano))])] ?_
   refine NL (ai.np (NX (SR ?_)))
   refine ak.mem (cO:=[.abs (ay (bD (aA S.O tk (fun o=>{ o with mode:=c.mode,uid:=c.uid,gid:=c.gid,sec:=c.sec,nano:=c.nano })) L)),.blk f [vI (S.X.cN),vI (S.X.cB),vI (S.X.cH),vI (S.X.cS),vI (S.X.cZ),.map (some m),vP t,vI (S.X.last),vI (S.X.ah),vI (S.X.used)] 66,.abs (aN Tryz.prog 3 m (aV (aT L S.idx)) S.idx.length),.abs (bH 110 t S.X.cH S.av (aT L S.us)),.abs (ay (bq (aA S.O tk (fun o=>{ o with mode:=c.mode,uid:=c.uid,gid:=c.gid,sec:=c.sec,nano:=c.nano })) L)),.abs (ay (cE (aA S.O tk (fun o=>{ o with mode:=c.mode,uid:=c.uid,gid:=c.gid,sec:=c.sec,nano:=c.nano })) L)),.blk cb [vI (c.op),vI (c.handle),vI (c.other),.string c.name,.string c.text,.slice c.dA (c.data.length) (c.dC),vI (c.mode),vI (c.uid),vI (c.gid),vI (c.sec),vI (c.nano),vI (c.code),vI (c.answer)] 50,.abs R]) (fun w hS=>by have h:=hS.uQ (O:=S.O) (L:=L) (i:=3) (j:=8) (idx:=[0,1,2,4,5,6,7]) (k:=tk) (f:=(fun o=>{ o with mode:=c.mode,uid:=c.uid,gid:=c.gid,sec:=c.sec,nano:=c.nano })) rfl (fun _ hx=>lX hx) rfl (by kernel_rfl) rfl (by show (obj S.O tk).kind≠0;rw [hkt];decide) ((fV (o:=(fun o=>{ o with mode:=c.mode,uid:=c.uid,gid:=c.gid,sec:=c.sec,nano:=c.nano }) (obj S.O tk)) (hkt)).trans rfl) (by show je (obj S.O tk).kind=_;rw [hkt]<;>rfl);rw [kK (O:=S.O) (k:=tk) (f:=(fun o=>{ o with mode:=c.mode,uid:=c.uid,gid:=c.gid,sec:=c.sec,nano:=c.nano })) rfl rfl,kL (O:=S.O) (k:=tk) (f:=(fun o=>{ o with mode:=c.mode,uid:=c.uid,gid:=c.gid,sec:=c.sec,nano:=c.nano })) rfl rfl];exact h) ?_
   have iJ:(obj (aA S.O tk (fun o=>{ o with mode:=c.mode,uid:=c.uid,gid:=c.gid,sec:=c.sec,nano:=c.nano })) tk).kind=1:=(iD (f:=(fun o=>{ o with mode:=c.mode,uid:=c.uid,gid:=c.gid,sec:=c.sec,nano:=c.nano })) (fun _=>rfl)).trans (hkt)
   generalize bJ:(aA S.O tk (fun o=>{ o with mode:=c.mode,uid:=c.uid,gid:=c.gid,sec:=c.sec,nano:=c.nano }))=bR at iJ ⊢
   refine gK 1 [(4,vI 0)] [] ?_
   refine NN (af.ret ?_)
   exact RT (l:=[pF f m t S.X,pI m L S.idx,kB t S L,pO bR L,pD bR L,pE bR L,pC cb c]) (.int .i64 0) [1,2,3,0,4,5,6,7] (⟨L,by subst bJ;rw [show (bA S c)=(0,{ S with O:=aA S.O tk (fun o=>{ o with mode:=c.mode,uid:=c.uid,gid:=c.gid,sec:=c.sec,nano:=c.nano }) },c) by unfold bA;rw [cT];exact (if_neg (fun h=>absurd h.2 (by simp))).trans ((if_pos jD).trans ((if_pos ⟨qz,mP⟩).trans (if_pos q4)))]<;>exact⟨rfl,rfl⟩⟩)
  refine gK 5 [(25,.bool false)] [] ?_
  refine NN (CF (SR (gK 4 [(39,vI (c.mode))] [(3,a_ 6 cb)] ?_)))
  refine gL [] (ef (c.mode) 4095) ?_
  rintro _ _ ⟨rfl,rfl⟩
  refine gK 2 [(35,.bool (!(decide (0<=c.mode/\c.mode<=4095))))] [] ?_
  refine NN (af.cu (p:=0<=c.mode/\c.mode<=4095) (fun _=>by kernel_rfl) (fun jD=>?_) (fun jD=>?_))
  ·refine SR (gK 1 [(4,vI 120)] [] ?_)
   refine NN (af.ret (ai.ax (ai.aj ?_)))
   exact RT (vI 120) [0,1,2,3,4,5,6,7] (⟨L,by rw [show (bA S c)=(120,S,c) by unfold bA;rw [cT];exact (if_neg (fun h=>absurd h.2 (by simp))).trans (if_neg jD)]<;>exact⟨rfl,rfl⟩⟩)
  refine SR (gK 4 [(46,vI (c.uid))] [(3,a_ 6 cb)] ?_)
  refine gL [] (ef (c.uid) 2147483647) ?_
  rintro _ _ ⟨rfl,rfl⟩
  refine gK 2 [(49,.bool (!(decide (0<=c.uid/\c.uid<=2147483647))))] [] ?_
  refine ak.d9 49 (0<=c.uid/\c.uid<=2147483647) (fun _=>by kernel_rfl) (fun qz=>?_) (fun qz=>?_)
  ·refine gK 8 [(42,.bool true)] [] ?_
   refine NN (CT (SR (gK 1 [(4,vI 11)] [] ?_)))
   refine NN (af.ret (ai.ax (ai.aj ?_)))
   exact RT (vI 11) [0,1,2,3,4,5,6,7] (⟨L,by rw [show (bA S c)=(11,S,c) by unfold bA;rw [cT];exact (if_neg (fun h=>absurd h.2 (by simp))).trans ((if_pos jD).trans (if_neg (fun h=>qz h.1)))]<;>exact⟨rfl,rfl⟩⟩)
  refine gK 4 [(53,vI (c.gid))] [(3,a_ 6 cb)] ?_
  refine gL [] (ef (c.gid) 2147483647) ?_
  rintro _ _ ⟨rfl,rfl⟩
  refine gK 3 [(42,.bool (!(decide (0<=c.gid/\c.gid<=2147483647))))] [] ?_
  refine NN (af.cu (p:=0<=c.gid/\c.gid<=2147483647) (fun _=>by kernel_rfl) (fun mP=>?_) (fun mP=>?_))
  ·refine SR (gK 1 [(4,vI 11)] [] ?_)
   refine NN (af.ret (ai.ax (ai.aj ?_)))
   exact RT (vI 11) [0,1,2,3,4,5,6,7] (⟨L,by rw [show (bA S c)=(11,S,c) by unfold bA;rw [cT];exact (if_neg (fun h=>absurd h.2 (by simp))).trans ((if_pos jD).trans (if_neg (fun h=>mP h.2)))]<;>exact⟨rfl,rfl⟩⟩)
  refine SR (gK 4 [(61,.agg #[vI (c.sec),vI (c.nano)])] [(3,A_ 6 cb 2)] ?_)
  refine gL [] (fU c.sec c.nano) ?_
  rintro _ _ ⟨rfl,rfl⟩
  refine gK 2 [(57,.bool (!(decide (cg c.sec c.nano))))] [] ?_
  refine NN (af.cu (p:=cg c.sec c.nano) (fun _=>by kernel_rfl) (fun q4=>?_) (fun q4=>?_))
  ·refine SR (gK 1 [(4,vI 20)] [] ?_)
   refine NN (af.ret (ai.ax (ai.aj ?_)))
   exact RT (vI 20) [0,1,2,3,4,5,6,7] (⟨L,by rw [show (bA S c)=(20,S,c) by unfold bA;rw [cT];exact (if_neg (fun h=>absurd h.2 (by simp))).trans ((if_pos jD).trans ((if_pos ⟨qz,mP⟩).trans (if_neg q4)))]<;>exact⟨rfl,rfl⟩⟩)
  refine af.skip (ai.aF (NX (af.seq ?_)))
  skip
  refine af.mem (fun w hS=>hS.tK (i:=3) (k:=tk) rfl (by rw [hkt];decide) (fV (hkt)) (congrArg je (hkt))) ?_
  refine af.ct (S:=[pC cb c]) [0,1,2,3,4,5,6,7,8,9,10,11,12,13,14,15,16,17,18,19,20,21,22,23,24,25,26,27,28,29,30,31] 22 [6] (by kernel_rfl) (by kernel_rfl) rfl (by kernel_rfl) ?_
  refine gR 0 [22,23,24,25,26,27,28,29,30,31] (Ir L tk c) [0,1,2,3,4,5,6,7,8,9,10,11,12,13,14,15,16,17,18,19,20,21] [(7,a_ 0 cb),(11,a_ 0 cb),(15,a_ 0 cb),(19,A_ 0 cb 2)] ?_
  refine mC [6] [] [(0,a_ 8 (L.b tk))] [(8,[(1,vI (c.mode))])] ?_
  refine aG.cut (ι:=Unit) (fr':=fun (_:Unit)=>(yN L tk c++oo c++[(86,vP (L.b tk))])) (hp':=fun (_:Unit)=>(mR f m t S L tk cb c R++[JF L tk S c])) [6] rfl rfl ?_ rfl (fun _=>by kernel_rfl) ?_
  ·refine gK 1 [(86,vP (L.b tk))] [] ?_
   refine NL ?_
   exact MD () [66,67,75,79,83,86] [0,1,2,3,4,5,6,7,8]
  rintro _
  refine aG.cut (ι:=Unit) (fr':=fun (_:Unit)=>(yN L tk c++oo c++[(87,.pointer (some ⟨(L.b tk),2,none⟩))])) (hp':=fun (_:Unit)=>(mR f m t S L tk cb c R++[JF L tk S c])) [6] rfl rfl ?_ rfl (fun _=>by kernel_rfl) ?_
  ·refine gK 1 [(87,.pointer (some ⟨(L.b tk),2,none⟩))] [] ?_
   refine NL ?_
   exact MD () [66,67,75,79,83,87] [0,1,2,3,4,5,6,7,8]
  rintro _
  refine mC [6] [] [(0,a_ 8 (L.b tk))] [(8,[(2,vI (c.uid))])] ?_
  refine aG.cut (ι:=Unit) (fr':=fun (_:Unit)=>([(67,vP (L.b tk))]++oo c++[(88,vP (L.b tk))])) (hp':=fun (_:Unit)=>(mR f m t S L tk cb c R++[JG L tk S c])) [6] rfl rfl ?_ rfl (fun _=>by kernel_rfl) ?_
  ·refine gK 1 [(88,vP (L.b tk))] [] ?_
   refine NL ?_
   exact MD () [67,79,83,88] [0,1,2,3,4,5,6,7,8]
  rintro _
  refine aG.cut (ι:=Unit) (fr':=fun (_:Unit)=>([(67,vP (L.b tk))]++oo c++[(89,.pointer (some ⟨(L.b tk),3,none⟩))])) (hp':=fun (_:Unit)=>(mR f m t S L tk cb c R++[JG L tk S c])) [6] rfl rfl ?_ rfl (fun _=>by kernel_rfl) ?_
  ·refine gK 1 [(89,.pointer (some ⟨(L.b tk),3,none⟩))] [] ?_
   refine NL ?_
   exact MD () [67,79,83,89] [0,1,2,3,4,5,6,7,8]
  rintro _
  refine mC [6] [] [(0,a_ 8 (L.b tk))] [(8,[(3,vI (c.gid))])] ?_
  refine aG.cut (ι:=Unit) (fr':=fun (_:Unit)=>[(83,.agg #[vI (c.sec),vI (c.nano)]),(90,vP (L.b tk))]) (hp':=fun (_:Unit)=>(mR f m t S L tk cb c R++[JH L tk S c])) [6] rfl rfl ?_ rfl (fun _=>by kernel_rfl) ?_
  ·refine gK 1 [(90,vP (L.b tk))] [] ?_
   refine NL ?_
   exact MD () [83,90] [0,1,2,3,4,5,6,7,8]
  rintro _
  refine aG.cut (ι:=Unit) (fr':=fun (_:Unit)=>(Iu c L tk)) (hp':=fun (_:Unit)=>(mR f m t S L tk cb c R++[JH L tk S c])) [6] rfl rfl ?_ rfl (fun _=>by kernel_rfl) ?_
  ·refine gK 1 [(91,.pointer (some ⟨(L.b tk),4,none⟩))] [] ?_
   refine NL ?_
   exact MD () [83,91] [0,1,2,3,4,5,6,7,8]
  rintro _
  refine aG.last rfl rfl ?_
  refine gC 1 [] [(0,A_ 8 (L.b tk) 2)] [(8,[(4,vI (c.sec)),(5,vI (c.nano))])] ?_
  refine NL (ai.np (NX (SR ?_)))
  refine ak.mem (cO:=[.abs (ay (bD (aA S.O tk (fun o=>{ o with mode:=c.mode,uid:=c.uid,gid:=c.gid,sec:=c.sec,nano:=c.nano })) L)),.blk f [vI (S.X.cN),vI (S.X.cB),vI (S.X.cH),vI (S.X.cS),vI (S.X.cZ),.map (some m),vP t,vI (S.X.last),vI (S.X.ah),vI (S.X.used)] 66,.abs (aN Tryz.prog 3 m (aV (aT L S.idx)) S.idx.length),.abs (bH 110 t S.X.cH S.av (aT L S.us)),.abs (ay (bq (aA S.O tk (fun o=>{ o with mode:=c.mode,uid:=c.uid,gid:=c.gid,sec:=c.sec,nano:=c.nano })) L)),.abs (ay (cE (aA S.O tk (fun o=>{ o with mode:=c.mode,uid:=c.uid,gid:=c.gid,sec:=c.sec,nano:=c.nano })) L)),.blk cb [vI (c.op),vI (c.handle),vI (c.other),.string c.name,.string c.text,.slice c.dA (c.data.length) (c.dC),vI (c.mode),vI (c.uid),vI (c.gid),vI (c.sec),vI (c.nano),vI (c.code),vI (c.answer)] 50,.abs R]) (fun w hS=>by have h:=hS.uQ (O:=S.O) (L:=L) (i:=3) (j:=8) (idx:=[0,1,2,4,5,6,7]) (k:=tk) (f:=(fun o=>{ o with mode:=c.mode,uid:=c.uid,gid:=c.gid,sec:=c.sec,nano:=c.nano })) rfl (fun _ hx=>lX hx) rfl (by kernel_rfl) rfl (by show (obj S.O tk).kind≠0;rw [hkt];decide) ((fV (o:=(fun o=>{ o with mode:=c.mode,uid:=c.uid,gid:=c.gid,sec:=c.sec,nano:=c.nano }) (obj S.O tk)) (hkt)).trans rfl) (by show je (obj S.O tk).kind=_;rw [hkt]<;>rfl);rw [kK (O:=S.O) (k:=tk) (f:=(fun o=>{ o with mode:=c.mode,uid:=c.uid,gid:=c.gid,sec:=c.sec,nano:=c.nano })) rfl rfl,kL (O:=S.O) (k:=tk) (f:=(fun o=>{ o with mode:=c.mode,uid:=c.uid,gid:=c.gid,sec:=c.sec,nano:=c.nano })) rfl rfl];exact h) ?_
  have kq:(obj (aA S.O tk (fun o=>{ o with mode:=c.mode,uid:=c.uid,gid:=c.gid,sec:=c.sec,nano:=c.nano })) tk).kind=1:=(iD (f:=(fun o=>{ o with mode:=c.mode,uid:=c.uid,gid:=c.gid,sec:=c.sec,nano:=c.nano })) (fun _=>rfl)).trans (hkt)
  generalize bJ:(aA S.O tk (fun o=>{ o with mode:=c.mode,uid:=c.uid,gid:=c.gid,sec:=c.sec,nano:=c.nano }))=bR at kq ⊢
  refine gK 1 [(4,vI 0)] [] ?_
  refine NN (af.ret ?_)
  exact RT (l:=[pF f m t S.X,pI m L S.idx,kB t S L,pO bR L,pD bR L,pE bR L,pC cb c]) (.int .i64 0) [1,2,3,0,4,5,6,7] (⟨L,by subst bJ;rw [show (bA S c)=(0,{ S with O:=aA S.O tk (fun o=>{ o with mode:=c.mode,uid:=c.uid,gid:=c.gid,sec:=c.sec,nano:=c.nano }) },c) by unfold bA;rw [cT];exact (if_neg (fun h=>absurd h.2 (by simp))).trans ((if_pos jD).trans ((if_pos ⟨qz,mP⟩).trans (if_pos q4)))]<;>exact⟨rfl,rfl⟩⟩)
 have hkt:(obj S.O tk).kind=2:=hI.kind hlv
 refine af.region (gK 1 [] [] ?_)
 refine NN (af.seq (af.bp (by kernel_rfl) (by kernel_rfl) ?_))
 refine gQ 8 (Iw t c) [(3,a_ 0 f),(7,a_ 6 cb)] ?_
 refine aK.call (f:=77) (args:=#[vP t,vI (c.handle)]) (d:=(some 17)) (pre:=[kB t S L]) (R:=(om f m t S L cb c R)) (pk:=[2,0,1,3,4,5,6,7]) (gq:=[1,2,0,3,4,5,6,7]) (v0:=.tuple #[.iface 76 (vP (L.b tk)),vI 0]) (fun _=>by kernel_rfl) (jN t S.X.cH S.av (aT L S.us) c.handle hC.hw (dh L ⟨tk,2⟩) (jg cT)) rfl (by kernel_rfl) rfl (by kernel_rfl) (fun _ _ h=>h) ?_
 refine gQ 5 (EK L tk) [] ?_
 refine NQ (NX (af.seq (SR ?_)))
 refine gK 2 [(21,.bool false)] [] ?_
 refine NN (CF (af.skip (NX (SR (gK 1 [(23,.iface 76 (vP (L.b tk)))] [] ?_)))))
 refine gL [] (cJ (L.b tk)) ?_
 rintro _ _ ⟨rfl,rfl⟩
 refine gK 1 [(7,vP (L.b tk))] [] ?_
 refine NN (af.seq (af.block (SR ?_)))
 refine gK 5 [(30,.bool (obj S.O tk).gone)] [(3,v_ 3 (mA L hkt))] ?_
 refine ak.kG 30 (obj S.O tk).gone (fun _=>by kernel_rfl) (fun jR=>?_) (fun jR=>?_)
 ·refine gK 1 [(31,.iface 76 (vP (L.b tk)))] [] ?_
  refine gL [] (ko (vP (L.b tk))) ?_
  rintro _ _ ⟨rfl,rfl⟩
  refine gK 3 [(25,.bool true)] [] ?_
  refine NN (CT (SR (gK 1 [(4,vI 170)] [] ?_)))
  refine NN (af.ret (ai.ax (ai.aj ?_)))
  exact RT (vI 170) [0,1,2,3,4,5,6,7] (⟨L,by rw [show (bA S c)=(170,S,c) by unfold bA;rw [cT];exact if_pos ⟨jR,rfl⟩]<;>exact⟨rfl,rfl⟩⟩)
 refine gK 5 [(25,.bool false)] [] ?_
 refine NN (CF (SR (gK 4 [(39,vI (c.mode))] [(3,a_ 6 cb)] ?_)))
 refine gL [] (ef (c.mode) 4095) ?_
 rintro _ _ ⟨rfl,rfl⟩
 refine gK 2 [(35,.bool (!(decide (0<=c.mode/\c.mode<=4095))))] [] ?_
 refine NN (af.cu (p:=0<=c.mode/\c.mode<=4095) (fun _=>by kernel_rfl) (fun jD=>?_) (fun jD=>?_))
 ·refine SR (gK 1 [(4,vI 120)] [] ?_)
  refine NN (af.ret (ai.ax (ai.aj ?_)))
  exact RT (vI 120) [0,1,2,3,4,5,6,7] (⟨L,by rw [show (bA S c)=(120,S,c) by unfold bA;rw [cT];exact (if_neg (fun h=>absurd h.1 (by rw [jR];decide))).trans (if_neg jD)]<;>exact⟨rfl,rfl⟩⟩)
 refine SR (gK 4 [(46,vI (c.uid))] [(3,a_ 6 cb)] ?_)
 refine gL [] (ef (c.uid) 2147483647) ?_
 rintro _ _ ⟨rfl,rfl⟩
 refine gK 2 [(49,.bool (!(decide (0<=c.uid/\c.uid<=2147483647))))] [] ?_
 refine ak.d9 49 (0<=c.uid/\c.uid<=2147483647) (fun _=>by kernel_rfl) (fun qz=>?_) (fun qz=>?_)
 ·refine gK 8 [(42,.bool true)] [] ?_
  refine NN (CT (SR (gK 1 [(4,vI 11)] [] ?_)))
  refine NN (af.ret (ai.ax (ai.aj ?_)))
  exact RT (vI 11) [0,1,2,3,4,5,6,7] (⟨L,by rw [show (bA S c)=(11,S,c) by unfold bA;rw [cT];exact (if_neg (fun h=>absurd h.1 (by rw [jR];decide))).trans ((if_pos jD).trans (if_neg (fun h=>qz h.1)))]<;>exact⟨rfl,rfl⟩⟩)
 refine gK 4 [(53,vI (c.gid))] [(3,a_ 6 cb)] ?_
 refine gL [] (ef (c.gid) 2147483647) ?_
 rintro _ _ ⟨rfl,rfl⟩
 refine gK 3 [(42,.bool (!(decide (0<=c.gid/\c.gid<=2147483647))))] [] ?_
 refine NN (af.cu (p:=0<=c.gid/\c.gid<=2147483647) (fun _=>by kernel_rfl) (fun mP=>?_) (fun mP=>?_))
 ·refine SR (gK 1 [(4,vI 11)] [] ?_)
  refine NN (af.ret (ai.ax (ai.aj ?_)))
  exact RT (vI 11) [0,1,2,3,4,5,6,7] (⟨L,by rw [show (bA S c)=(11,S,c) by unfold bA;rw [cT];exact (if_neg (fun h=>absurd h.1 (by rw [jR];decide))).trans ((if_pos jD).trans (if_neg (fun h=>mP h.2)))]<;>exact⟨rfl,rfl⟩⟩)
 refine SR (gK 4 [(61,.agg #[vI (c.sec),vI (c.nano)])] [(3,A_ 6 cb 2)] ?_)
 refine gL [] (fU c.sec c.nano) ?_
 rintro _ _ ⟨rfl,rfl⟩
 refine gK 2 [(57,.bool (!(decide (cg c.sec c.nano))))] [] ?_
 refine NN (af.cu (p:=cg c.sec c.nano) (fun _=>by kernel_rfl) (fun q4=>?_) (fun q4=>?_))
 ·refine SR (gK 1 [(4,vI 20)] [] ?_)
  refine NN (af.ret (ai.ax (ai.aj ?_)))
  exact RT (vI 20) [0,1,2,3,4,5,6,7] (⟨L,by rw [show (bA S c)=(20,S,c) by unfold bA;rw [cT];exact (if_neg (fun h=>absurd h.1 (by rw [jR];decide))).trans ((if_pos jD).trans ((if_pos ⟨qz,mP⟩).trans (if_neg q4)))]<;>exact⟨rfl,rfl⟩⟩)
 refine af.skip (ai.aF (NX (af.seq ?_)))
 skip
 refine af.mem (fun w hS=>hS.tK (i:=3) (k:=tk) rfl (by rw [hkt];decide) (jJ (hkt)) (congrArg je (hkt))) ?_
 refine af.ct (S:=[pC cb c]) [0,1,2,3,4,5,6,7,8,9,10,11,12,13,14,15,16,17,18,19,20,21,22,23,24,25,26,27,28,29,30,31] 22 [6] (by kernel_rfl) (by kernel_rfl) rfl (by kernel_rfl) ?_
 refine gR 0 [22,23,24,25,26,27,28,29,30,31] (Ir L tk c) [0,1,2,3,4,5,6,7,8,9,10,11,12,13,14,15,16,17,18,19,20,21] [(7,a_ 0 cb),(11,a_ 0 cb),(15,a_ 0 cb),(19,A_ 0 cb 2)] ?_
 refine mC [6] [] [(0,a_ 8 (L.b tk))] [(8,[(1,vI (c.mode))])] ?_
 refine aG.cut (ι:=Unit) (fr':=fun (_:Unit)=>(yN L tk c++oo c++[(86,vP (L.b tk))])) (hp':=fun (_:Unit)=>(mR f m t S L tk cb c R++[Nq L tk S c])) [6] rfl rfl ?_ rfl (fun _=>by kernel_rfl) ?_
 ·refine gK 1 [(86,vP (L.b tk))] [] ?_
  refine NL ?_
  exact MD () [66,67,75,79,83,86] [0,1,2,3,4,5,6,7,8]
 rintro _
 refine aG.cut (ι:=Unit) (fr':=fun (_:Unit)=>(yN L tk c++oo c++[(87,.pointer (some ⟨(L.b tk),2,none⟩))])) (hp':=fun (_:Unit)=>(mR f m t S L tk cb c R++[Nq L tk S c])) [6] rfl rfl ?_ rfl (fun _=>by kernel_rfl) ?_
 ·refine gK 1 [(87,.pointer (some ⟨(L.b tk),2,none⟩))] [] ?_
  refine NL ?_
  exact MD () [66,67,75,79,83,87] [0,1,2,3,4,5,6,7,8]
 rintro _
 refine mC [6] [] [(0,a_ 8 (L.b tk))] [(8,[(2,vI (c.uid))])] ?_
 refine aG.cut (ι:=Unit) (fr':=fun (_:Unit)=>([(67,vP (L.b tk))]++oo c++[(88,vP (L.b tk))])) (hp':=fun (_:Unit)=>(mR f m t S L tk cb c R++[Nr L tk S c])) [6] rfl rfl ?_ rfl (fun _=>by kernel_rfl) ?_
 ·refine gK 1 [(88,vP (L.b tk))] [] ?_
  refine NL ?_
  exact MD () [67,79,83,88] [0,1,2,3,4,5,6,7,8]
 rintro _
 refine aG.cut (ι:=Unit) (fr':=fun (_:Unit)=>([(67,vP (L.b tk))]++oo c++[(89,.pointer (some ⟨(L.b tk),3,none⟩))])) (hp':=fun (_:Unit)=>(mR f m t S L tk cb c R++[Nr L tk S c])) [6] rfl rfl ?_ rfl (fun _=>by kernel_rfl) ?_
 ·refine gK 1 [(89,.pointer (some ⟨(L.b tk),3,none⟩))] [] ?_
  refine NL ?_
  exact MD () [67,79,83,89] [0,1,2,3,4,5,6,7,8]
 rintro _
 refine mC [6] [] [(0,a_ 8 (L.b tk))] [(8,[(3,vI (c.gid))])] ?_
 refine aG.cut (ι:=Unit) (fr':=fun (_:Unit)=>[(83,.agg #[vI (c.sec),vI (c.nano)]),(90,vP (L.b tk))]) (hp':=fun (_:Unit)=>(mR f m t S L tk cb c R++[Ns L tk S c])) [6] rfl rfl ?_ rfl (fun _=>by kernel_rfl) ?_
 ·refine gK 1 [(90,vP (L.b tk))] [] ?_
  refine NL ?_
  exact MD () [83,90] [0,1,2,3,4,5,6,7,8]
 rintro _
 refine aG.cut (ι:=Unit) (fr':=fun (_:Unit)=>(Iu c L tk)) (hp':=fun (_:Unit)=>(mR f m t S L tk cb c R++[Ns L tk S c])) [6] rfl rfl ?_ rfl (fun _=>by kernel_rfl) ?_
 ·refine gK 1 [(91,.pointer (some ⟨(L.b tk),4,none⟩))] [] ?_
  refine NL ?_
  exact MD () [83,91] [0,1,2,3,4,5,6,7,8]
 rintro _
 refine aG.last rfl rfl ?_
 refine gC 1 [] [(0,A_ 8 (L.b tk) 2)] [(8,[(4,vI (c.sec)),(5,vI (c.nano))])] ?_
 refine NL (ai.np (NX (SR ?_)))
 refine ak.mem (cO:=[.abs (ay (bD (aA S.O tk (fun o=>{ o with mode:=c.mode,uid:=c.uid,gid:=c.gid,sec:=c.sec,nano:=c.nano })) L)),.blk f [vI (S.X.cN),vI (S.X.cB),vI (S.X.cH),vI (S.X.cS),vI (S.X.cZ),.map (some m),vP t,vI (S.X.last),vI (S.X.ah),vI (S.X.used)] 66,.abs (aN Tryz.prog 3 m (aV (aT L S.idx)) S.idx.length),.abs (bH 110 t S.X.cH S.av (aT L S.us)),.abs (ay (bq (aA S.O tk (fun o=>{ o with mode:=c.mode,uid:=c.uid,gid:=c.gid,sec:=c.sec,nano:=c.nano })) L)),.abs (ay (cE (aA S.O tk (fun o=>{ o with mode:=c.mode,uid:=c.uid,gid:=c.gid,sec:=c.sec,nano:=c.nano })) L)),.blk cb [vI (c.op),vI (c.handle),vI (c.other),.string c.name,.string c.text,.slice c.dA (c.data.length) (c.dC),vI (c.mode),vI (c.uid),vI (c.gid),vI (c.sec),vI (c.nano),vI (c.code),vI (c.answer)] 50,.abs R]) (fun w hS=>by have h:=hS.uQ (O:=S.O) (L:=L) (i:=3) (j:=8) (idx:=[0,1,2,4,5,6,7]) (k:=tk) (f:=(fun o=>{ o with mode:=c.mode,uid:=c.uid,gid:=c.gid,sec:=c.sec,nano:=c.nano })) rfl (fun _ hx=>lX hx) rfl (by kernel_rfl) rfl (by show (obj S.O tk).kind≠0;rw [hkt];decide) ((jJ (o:=(fun o=>{ o with mode:=c.mode,uid:=c.uid,gid:=c.gid,sec:=c.sec,nano:=c.nano }) (obj S.O tk)) (hkt)).trans rfl) (by show je (obj S.O tk).kind=_;rw [hkt]<;>rfl);rw [kK (O:=S.O) (k:=tk) (f:=(fun o=>{ o with mode:=c.mode,uid:=c.uid,gid:=c.gid,sec:=c.sec,nano:=c.nano })) rfl rfl,kL (O:=S.O) (k:=tk) (f:=(fun o=>{ o with mode:=c.mode,uid:=c.uid,gid:=c.gid,sec:=c.sec,nano:=c.nano })) rfl rfl];exact h) ?_
 have yC:(obj (aA S.O tk (fun o=>{ o with mode:=c.mode,uid:=c.uid,gid:=c.gid,sec:=c.sec,nano:=c.nano })) tk).kind=2:=(iD (f:=(fun o=>{ o with mode:=c.mode,uid:=c.uid,gid:=c.gid,sec:=c.sec,nano:=c.nano })) (fun _=>rfl)).trans (hkt)
 generalize bJ:(aA S.O tk (fun o=>{ o with mode:=c.mode,uid:=c.uid,gid:=c.gid,sec:=c.sec,nano:=c.nano }))=bR at yC ⊢
 refine gK 1 [(4,vI 0)] [] ?_
 refine NN (af.ret ?_)
 exact RT (l:=[pF f m t S.X,pI m L S.idx,kB t S L,pO bR L,pD bR L,pE bR L,pC cb c]) (.int .i64 0) [1,2,3,0,4,5,6,7] (⟨L,by subst bJ;rw [show (bA S c)=(0,{ S with O:=aA S.O tk (fun o=>{ o with mode:=c.mode,uid:=c.uid,gid:=c.gid,sec:=c.sec,nano:=c.nano }) },c) by unfold bA;rw [cT];exact (if_neg (fun h=>absurd h.1 (by rw [jR];decide))).trans ((if_pos jD).trans ((if_pos ⟨qz,mP⟩).trans (if_pos q4)))]<;>exact⟨rfl,rfl⟩⟩)
theorem BZ {β:Bs} (S:aH) (L:HL) (f m t:Nat) (hI:Inv S) (cb:Nat) (c:aQ) (hC:fI β c) :
    Spec Tryz.prog β 46 #[vP f,vP cb] ((pA f m t L S)++[pC cb c]) (fun v l=>∃ L2,v=vI (dI S c).1/\l=((pA f m t L2 ((dI S c).2.1))++[.blk cb (gM ((dI S c).2.2)) 50])):=by
 have hX:=hI.hX
 refine Spec.enter Tryz.func46 rfl Tryz.ntmps46 (Nat.le_of_ble_eq_true rfl) (fun R=>?_)
 refine SR (gK 1 [] [] ?_)
 refine NN (af.seq (af.bp (by kernel_rfl) (by kernel_rfl) ?_))
 refine gQ 9 [(10,vP f),(14,vI (c.handle)),(18,.string c.name)] [(4,a_ 6 cb),(8,a_ 6 cb)] ?_
 rcases jS hI.toInv0 c.handle c.name 192 with ⟨e,hab,hne⟩|⟨d,hab,hd,ji,jj,cT⟩
 ·refine aK.call (f:=68) (args:=#[vP f,vI (c.handle),.string c.name,vI 192]) (d:=(some 19)) (pre:=[pF f m t S.X,kB t S L,pO S.O L]) (R:=(l5 m L S cb c R)) (pk:=[0,2,3,1,4,5,6,7]) (gq:=[0,3,1,2,4,5,6,7]) (v0:=.tuple #[.pointer none,vI (e)]) (fun _=>by kernel_rfl) ((by have h:=dz S L f m t hI c.handle hC.hw c.name hC.nm 192 (β:=β);rw [hab] at h;exact h)) rfl (by kernel_rfl) rfl (by kernel_rfl) (fun _ _ h=>h) ?_
  refine gQ 5 [(5,.pointer none),(6,vI (e))] [] ?_
  refine NQ (NX (af.seq (SR ?_)))
  refine gK 2 [(23,.bool (!(decide ((e:Int)=(0:Int)))))] [] ?_
  refine NN (af.cu (p:=(e:Int)=(0:Int)) (fun _=>by kernel_rfl) (fun h23=>?_) (fun h23=>?_))
  ·refine SR (gK 2 [(4,vI (e))] [] ?_)
   refine NN (af.ret (ai.aj ?_))
   exact RT (vI (e)) [0,1,2,3,4,5,6,7] (⟨L,by rw [show (dI S c)=(e,S,c) by unfold dI;rw [hab]]<;>exact⟨rfl,rfl⟩⟩)
  exact absurd h23 hne
 have hkd:(obj S.O d).kind=2:=hI.kind hd
 refine aK.call (f:=68) (args:=#[vP f,vI (c.handle),.string c.name,vI 192]) (d:=(some 19)) (pre:=[pF f m t S.X,kB t S L,pO S.O L]) (R:=(l5 m L S cb c R)) (pk:=[0,2,3,1,4,5,6,7]) (gq:=[0,3,1,2,4,5,6,7]) (v0:=.tuple #[vP (L.b d),vI 0]) (fun _=>by kernel_rfl) ((by have h:=dz S L f m t hI c.handle hC.hw c.name hC.nm 192 (β:=β);rw [hab] at h;exact h)) rfl (by kernel_rfl) rfl (by kernel_rfl) (fun _ _ h=>h) ?_
 refine gQ 5 (BU L d) [] ?_
 refine NQ (NX (af.seq (SR ?_)))
 refine gK 2 [(23,.bool false)] [] ?_
 refine NN (CF (af.skip (NX (af.seq (SR (gK 4 [(28,vI (c.mode))] [(3,a_ 6 cb)] ?_))))))
 refine gL [] (ef (c.mode) 4095) ?_
 rintro _ _ ⟨rfl,rfl⟩
 refine gK 1 [(30,.bool (!(decide (0<=c.mode/\c.mode<=4095))))] [] ?_
 refine NN (af.cu (p:=0<=c.mode/\c.mode<=4095) (fun _=>by kernel_rfl) (fun jR=>?_) (fun jR=>?_))
 ·refine SR (gK 1 [(4,vI 120)] [] ?_)
  refine NN (af.ret (ai.aj ?_))
  exact RT (vI 120) [0,1,2,3,4,5,6,7] (⟨L,by rw [show (dI S c)=(120,S,c) by unfold dI;rw [hab];exact if_neg jR]<;>exact⟨rfl,rfl⟩⟩)
 refine af.skip (NX (af.seq (SR (gK 6 [(31,vP f),(32,vP (L.b d)),(36,.string c.name)] [(5,a_ 6 cb)] ?_))))
 refine gL [0,1,5,3] (t6 S L f m t hI d hd c.name hC.nm) ?_
 rintro _ _ ⟨rfl,rfl⟩
 refine gK 1 [(6,vI ((cF S.X S.O S.idx d c.name)))] [] ?_
 refine NS (gK 2 [(39,.bool (!(decide (((cF S.X S.O S.idx d c.name):Int)=(0:Int)))))] [] ?_)
 refine NN (af.cu (p:=((cF S.X S.O S.idx d c.name):Int)=(0:Int)) (fun _=>by kernel_rfl) (fun h0=>?_) (fun h0=>?_))
 ·refine SR (gK 2 [(4,vI ((cF S.X S.O S.idx d c.name)))] [] ?_)
  refine NN (af.ret (ai.aj ?_))
  exact RT (vI ((cF S.X S.O S.idx d c.name))) [0,1,4,3,5,2,6,7] (⟨L,by rw [show (dI S c)=(cF S.X S.O S.idx d c.name,S,c) by unfold dI;rw [hab];exact (if_pos jR).trans (if_neg h0)]<;>exact⟨rfl,rfl⟩⟩)
 have hno:=nT h0
 refine af.skip (NX (SR (gN 8 (fun b4=>[(7,vP b4)]) (fun b4=>[(3,a_ 6 cb)]) (fun _=>[]) (fun b4=>.blk b4 [vI 0,vI (c.mode),vI 0,vI 0,vI 0,vI 0,vI 0,vI 0,.bool false,.slice none (0) (0)] 72) (fun b4=>?_))))
 refine NN (af.seq (af.seq ?_))
 rcases Int.lt_or_le (S.us.length:Int) S.X.cH with qx|qx
 ·refine af.region (gK 4 (LD cb f b4) [] ?_)
  obtain⟨L2,hL2⟩:∃ L2:HL,L2=L.put (aJ S.X) b4 0 none 0:=⟨_,rfl⟩
  have hfr:=hI.toInv0.fresh
  refine ak.mem (fun w hS=>hS.r9 hL2 hfr (o:=(⟨0,c.mode,0,0,0,0,0,0,false,1,[],⟨#[]⟩,[],none⟩:aO)) (i:=3) (j:=8) (ix:=[0,1,2,4,5,6,7]) rfl rfl (by kernel_rfl) rfl (by show (1:Int)≠0;decide) ((fV (L:=L2) (k:=(aJ S.X)) (o:=(⟨0,c.mode,0,0,0,0,0,0,false,1,[],⟨#[]⟩,[],none⟩:aO)) rfl).trans (by rw [show L2.dA (aJ S.X)=none by rw [hL2];exact if_pos rfl,show L2.dC (aJ S.X)=0 by rw [hL2];exact if_pos rfl];rfl)) rfl) ?_
  refine ak.cW [(3,pE (aA S.O (aJ S.X) (fun _=>(⟨0,c.mode,0,0,0,0,0,0,false,1,[],⟨#[]⟩,[],none⟩:aO))) L2)] (fun w hS=>hS.ud hL2 hfr (o:=(⟨0,c.mode,0,0,0,0,0,0,false,1,[],⟨#[]⟩,[],none⟩:aO)) (i:=3) rfl (by show (1:Int)≠2;decide)) ?_
  refine ak.mem (fun w hS=>hS.j8 (e:=5) (size:=1)) ?_
  refine ak.mem (fun w hS=>hS.Jz hL2 (o:=(⟨0,c.mode,0,0,0,0,0,0,false,1,[],⟨#[]⟩,[],none⟩:aO)) (i:=5) (j:=8) (ix:=[0,1,2,3,4,6,7]) rfl rfl (by kernel_rfl) rfl rfl rfl) ?_
  refine ak.cW [(3,.abs (aN Tryz.prog 3 m (aV (aT L2 S.idx)) S.idx.length)),(5,.abs (bH 110 t S.X.cH S.av (aT L2 S.us)))] (fun w hS=>by rw [fT hL2 hfr.idx,fT hL2 hfr.us];exact hS) ?_
  refine gL (f:=66) (args:=#[vP f,.iface 69 (vP b4)]) (pre:=[pF f m t S.X,kB t S L2,Nt S c L2]) [2,5,1] ((by have h:=pW (β:=β) { S with O:=(aA S.O (aJ S.X) (fun _=>(⟨0,c.mode,0,0,0,0,0,0,false,1,[],⟨#[]⟩,[],none⟩:aO))) } L2 f m t ⟨(aJ S.X),1⟩ (by show (obj (aA S.O (aJ S.X) (fun _=>(⟨0,c.mode,0,0,0,0,0,0,false,1,[],⟨#[]⟩,[],none⟩:aO))) (aJ S.X)).kind=1;rw [bB]) (by simp) (by show 0<=(obj (aA S.O (aJ S.X) (fun _=>(⟨0,c.mode,0,0,0,0,0,0,false,1,[],⟨#[]⟩,[],none⟩:aO))) (aJ S.X)).opens/\(obj (aA S.O (aJ S.X) (fun _=>(⟨0,c.mode,0,0,0,0,0,0,false,1,[],⟨#[]⟩,[],none⟩:aO))) (aJ S.X)).opens<=1048576;rw [bB];exact⟨Int.le_refl _,by show (0:Int)<=1048576;decide⟩);rw [nk hL2,iT (S:={ S with O:=(aA S.O (aJ S.X) (fun _=>(⟨0,c.mode,0,0,0,0,0,0,false,1,[],⟨#[]⟩,[],none⟩:aO))) }) (t:=⟨(aJ S.X),1⟩) qx] at h;exact h)) ?_
  rintro _ _ ⟨rfl,rfl⟩
  refine gC 7 [(6,vI 0)] [(5,a_ 6 cb)] [(6,[(12,vI ((aB.least S.us)))])] ?_
  refine NS (gK 2 [(59,.bool false)] [] ?_)
  refine NN (CF (af.skip (NX (SR (ak.slot 7 (vP b4) (vP (L2.b (aJ S.X))) (fun _=>by kernel_rfl) (by rw [BB hL2]) ?_)))))
  refine ak.cW [(3,.abs (ay (bq (aA (aA S.O (aJ S.X) (fun _=>(⟨0,c.mode,0,0,0,0,0,0,false,1,[],⟨#[]⟩,[],none⟩:aO))) (aJ S.X) (fun o=>{ o with opens:=o.opens+1 })) L2))),(5,.abs (ay (cE (aA (aA S.O (aJ S.X) (fun _=>(⟨0,c.mode,0,0,0,0,0,0,false,1,[],⟨#[]⟩,[],none⟩:aO))) (aJ S.X) (fun o=>{ o with opens:=o.opens+1 })) L2)))] (fun w hS=>by rw [kK (O:=(aA S.O (aJ S.X) (fun _=>(⟨0,c.mode,0,0,0,0,0,0,false,1,[],⟨#[]⟩,[],none⟩:aO)))) (k:=(aJ S.X)) (f:=(fun o=>{ o with opens:=o.opens+1 })) rfl rfl,kL (O:=(aA S.O (aJ S.X) (fun _=>(⟨0,c.mode,0,0,0,0,0,0,false,1,[],⟨#[]⟩,[],none⟩:aO)))) (k:=(aJ S.X)) (f:=(fun o=>{ o with opens:=o.opens+1 })) rfl rfl];exact hS) ?_
  have hkN:(obj (aA (aA S.O (aJ S.X) (fun _=>(⟨0,c.mode,0,0,0,0,0,0,false,1,[],⟨#[]⟩,[],none⟩:aO))) (aJ S.X) (fun o=>{ o with opens:=o.opens+1 })) (aJ S.X)).kind=1:=by rw [bB,bB]
  have Nu:(obj (aA (aA S.O (aJ S.X) (fun _=>(⟨0,c.mode,0,0,0,0,0,0,false,1,[],⟨#[]⟩,[],none⟩:aO))) (aJ S.X) (fun o=>{ o with opens:=o.opens+1 })) (aJ S.X)).opens=1:=by rw [bB,bB];rfl
  generalize bJ:(aA (aA S.O (aJ S.X) (fun _=>(⟨0,c.mode,0,0,0,0,0,0,false,1,[],⟨#[]⟩,[],none⟩:aO))) (aJ S.X) (fun o=>{ o with opens:=o.opens+1 }))=bR at hkN Nu ⊢
  refine gK 6 [(8,vI ((obj bR (aJ S.X)).opens))] [(4,v_ 2 (iN L2 hkN))] ?_
  refine NS (gK 6 [(66,vP (L2.b (aJ S.X))),(67,vP f),(71,vI (c.mode))] [(5,a_ 6 cb)] ?_)
  refine gL [0] (tT S.X f m t hX c.mode) ?_
  rintro _ _ ⟨rfl,rfl⟩
  refine gK 2 [(74,vP (L2.b (aJ S.X)))] [] ?_
  refine ak.mem (fun w hS=>hS.tK (i:=2) (k:=(aJ S.X)) rfl (by rw [hkN];decide) (fV (hkN)) (congrArg je (hkN))) ?_
  refine gC 1 [] [(0,A_ 8 (L2.b (aJ S.X)) 9)] [(8,[(0,vI (S.X.last+1)),(1,vI (c.mode)),(2,vI 0),(3,vI 0),(4,vI (S.X.cS)),(5,vI (S.X.cZ)),(6,vI 0),(7,vI 0),(8,.bool false)])] ?_
  refine ak.mem (cO:=[.abs (ay (bD (aA bR (aJ S.X) (fun o=>{ o with id:=S.X.last+1,mode:=c.mode,uid:=0,gid:=0,sec:=S.X.cS,nano:=S.X.cZ,links:=0,opens:=0,gone:=false })) L2)),.blk f [vI (S.X.cN),vI (S.X.cB),vI (S.X.cH),vI (S.X.cS),vI (S.X.cZ),.map (some m),vP t,vI (S.X.last+1),vI (S.X.ah),vI (S.X.used)] 66,.abs (bH 110 t S.X.cH (max S.av ((S.us.length:Int)+1)) (aT L2 (ins (aB.least S.us) ⟨(aJ S.X),1⟩ S.us))),.abs (ay (bq (aA bR (aJ S.X) (fun o=>{ o with id:=S.X.last+1,mode:=c.mode,uid:=0,gid:=0,sec:=S.X.cS,nano:=S.X.cZ,links:=0,opens:=0,gone:=false })) L2)),.abs (aN Tryz.prog 3 m (aV (aT L2 S.idx)) S.idx.length),.abs (ay (cE (aA bR (aJ S.X) (fun o=>{ o with id:=S.X.last+1,mode:=c.mode,uid:=0,gid:=0,sec:=S.X.cS,nano:=S.X.cZ,links:=0,opens:=0,gone:=false })) L2)),.blk cb [vI (c.op),vI (c.handle),vI (c.other),.string c.name,.string c.text,.slice c.dA (c.data.length) (c.dC),vI (c.mode),vI (c.uid),vI (c.gid),vI (c.sec),vI (c.nano),vI (c.code),vI ((aB.least S.us))] 50,.abs R]) (fun w hS=>by have h:=hS.uQ (O:=bR) (L:=L2) (i:=2) (j:=8) (idx:=[0,1,3,4,5,6,7]) (k:=(aJ S.X)) (f:=(fun o=>{ o with id:=S.X.last+1,mode:=c.mode,uid:=0,gid:=0,sec:=S.X.cS,nano:=S.X.cZ,links:=0,opens:=0,gone:=false })) rfl (fun _ hx=>lX hx) rfl (by kernel_rfl) rfl (by show (obj bR (aJ S.X)).kind≠0;rw [hkN];decide) ((fV (o:=(fun o=>{ o with id:=S.X.last+1,mode:=c.mode,uid:=0,gid:=0,sec:=S.X.cS,nano:=S.X.cZ,links:=0,opens:=0,gone:=false }) (obj bR (aJ S.X))) (hkN)).trans rfl) (by show je (obj bR (aJ S.X)).kind=_;rw [hkN]<;>rfl);rw [kK (O:=bR) (k:=(aJ S.X)) (f:=(fun o=>{ o with id:=S.X.last+1,mode:=c.mode,uid:=0,gid:=0,sec:=S.X.cS,nano:=S.X.cZ,links:=0,opens:=0,gone:=false })) rfl rfl,kL (O:=bR) (k:=(aJ S.X)) (f:=(fun o=>{ o with id:=S.X.last+1,mode:=c.mode,uid:=0,gid:=0,sec:=S.X.cS,nano:=S.X.cZ,links:=0,opens:=0,gone:=false })) rfl rfl];exact h) ?_
  have tN:(obj (aA bR (aJ S.X) (fun o=>{ o with id:=S.X.last+1,mode:=c.mode,uid:=0,gid:=0,sec:=S.X.cS,nano:=S.X.cZ,links:=0,opens:=0,gone:=false })) (aJ S.X)).kind=1:=(iD (f:=(fun o=>{ o with id:=S.X.last+1,mode:=c.mode,uid:=0,gid:=0,sec:=S.X.cS,nano:=S.X.cZ,links:=0,opens:=0,gone:=false })) (fun _=>rfl)).trans (hkN)
  generalize cM:(aA bR (aJ S.X) (fun o=>{ o with id:=S.X.last+1,mode:=c.mode,uid:=0,gid:=0,sec:=S.X.cS,nano:=S.X.cZ,links:=0,opens:=0,gone:=false }))=dx at tN ⊢
  refine NS (gK 5 [(76,vI ((obj bR (aJ S.X)).opens)),(79,.pointer (some ⟨(L2.b (aJ S.X)),7,none⟩))] [] ?_)
  refine pQ 0 [(5,1),(3,2)] (aJ S.X) 7 (fun o=>{ o with opens:=(obj bR (aJ S.X)).opens }) tN (fun rA jV=>?_)
  have Hl:=ku jV tN
  refine NS ?_
  have hfin:rA=aA S.O (aJ S.X) (fun _=>{ bQ S.X 1 c.mode with opens:=1 }):=by subst jV;subst cM;rw [Nu];subst bJ;simp only [qq];rfl
  subst hfin
  show ak _ _ _ _ _ _ [pO (aA S.O (aJ S.X) (fun _=>{ bQ S.X 1 c.mode with opens:=1 })) L2,pF f m t { S.X with last:=S.X.last+1 },pT t S.X.cH (max S.av ((S.us.length:Int)+1)) L2 (ins (aB.least S.us) ⟨(aJ S.X),1⟩ S.us),pD (aA S.O (aJ S.X) (fun _=>{ bQ S.X 1 c.mode with opens:=1 })) L2,pI m L2 S.idx,pE (aA S.O (aJ S.X) (fun _=>{ bQ S.X 1 c.mode with opens:=1 })) L2,pC cb { c with answer:=aB.least S.us },.abs R] _
  refine gK 8 [(80,vP f),(81,vP (L.b d)),(85,.string c.name),(87,.iface 69 (vP (L2.b (aJ S.X))))] [(5,a_ 6 cb)] ?_
  refine gL (f:=72) (args:=#[vP f,vP (L.b d),.string c.name,.iface 69 (vP (L2.b (aJ S.X)))]) (pre:=[pF f m t { S.X with last:=S.X.last+1 },pI m L2 S.idx,pO (aA S.O (aJ S.X) (fun _=>{ bQ S.X 1 c.mode with opens:=1 })) L2,pE (aA S.O (aJ S.X) (fun _=>{ bQ S.X 1 c.mode with opens:=1 })) L2]) [1,4,0,5] ((by have h:=si (β:=β) S L2 f m t hI.toInv0 d hd c.name hC.nm hno { bQ S.X 1 c.mode with opens:=1 } rfl (by simp [bQ]) rfl (qR h0);rw [uW hL2 (hI.t7 hd)] at h;exact h)) ?_
  rintro _ _ ⟨rfl,rfl⟩
  refine NS (ak.cW [(5,.abs (ay (bq ((iK S d c.name { bQ S.X 1 c.mode with opens:=1 }).O) L2)))] (fun w hS=>by rw [show bq ((iK S d c.name { bQ S.X 1 c.mode with opens:=1 }).O) L2=bq (aA S.O (aJ S.X) (fun _=>{ bQ S.X 1 c.mode with opens:=1 })) L2 from fZ];exact hS) ?_)
  refine gK 1 [(4,vI 0)] [] ?_
  refine NN (af.ret ?_)
  exact RT (vI 0) [0,1,4,2,5,3,6,7] (⟨L2,by rw [show (dI S c)=(0,(iK { S with us:=(ins (aB.least S.us) ⟨(aJ S.X),1⟩ S.us),av:=(max S.av ((S.us.length:Int)+1)) } d c.name { bQ S.X 1 c.mode with opens:=1 }),{ c with answer:=aB.least S.us }) by unfold dI;rw [hab];exact (if_pos jR).trans ((if_pos h0).trans (by rw [show kO S d c.name c.mode=(aB.least S.us,0,(iK { S with us:=(ins (aB.least S.us) ⟨(aJ S.X),1⟩ S.us),av:=(max S.av ((S.us.length:Int)+1)) } d c.name { bQ S.X 1 c.mode with opens:=1 })) from (if_pos h0).trans (if_pos qx)]))]<;>exact⟨rfl,rfl⟩⟩)
 refine af.region (gK 4 (LD cb f b4) [] ?_)
 obtain⟨L2,hL2⟩:∃ L2:HL,L2=L.put (aJ S.X) b4 0 none 0:=⟨_,rfl⟩
 have hfr:=hI.toInv0.fresh
 refine ak.mem (fun w hS=>hS.r9 hL2 hfr (o:=(⟨0,c.mode,0,0,0,0,0,0,false,1,[],⟨#[]⟩,[],none⟩:aO)) (i:=3) (j:=8) (ix:=[0,1,2,4,5,6,7]) rfl rfl (by kernel_rfl) rfl (by show (1:Int)≠0;decide) ((fV (L:=L2) (k:=(aJ S.X)) (o:=(⟨0,c.mode,0,0,0,0,0,0,false,1,[],⟨#[]⟩,[],none⟩:aO)) rfl).trans (by rw [show L2.dA (aJ S.X)=none by rw [hL2];exact if_pos rfl,show L2.dC (aJ S.X)=0 by rw [hL2];exact if_pos rfl];rfl)) rfl) ?_
 refine ak.cW [(3,pE (aA S.O (aJ S.X) (fun _=>(⟨0,c.mode,0,0,0,0,0,0,false,1,[],⟨#[]⟩,[],none⟩:aO))) L2)] (fun w hS=>hS.ud hL2 hfr (o:=(⟨0,c.mode,0,0,0,0,0,0,false,1,[],⟨#[]⟩,[],none⟩:aO)) (i:=3) rfl (by show (1:Int)≠2;decide)) ?_
 refine ak.mem (fun w hS=>hS.j8 (e:=5) (size:=1)) ?_
 refine ak.mem (fun w hS=>hS.Jz hL2 (o:=(⟨0,c.mode,0,0,0,0,0,0,false,1,[],⟨#[]⟩,[],none⟩:aO)) (i:=5) (j:=8) (ix:=[0,1,2,3,4,6,7]) rfl rfl (by kernel_rfl) rfl rfl rfl) ?_
 refine ak.cW [(3,.abs (aN Tryz.prog 3 m (aV (aT L2 S.idx)) S.idx.length)),(5,.abs (bH 110 t S.X.cH S.av (aT L2 S.us)))] (fun w hS=>by rw [fT hL2 hfr.idx,fT hL2 hfr.us];exact hS) ?_
 refine gL (f:=66) (args:=#[vP f,.iface 69 (vP b4)]) (pre:=[pF f m t S.X,kB t S L2,Nt S c L2]) [2,5,1] ((by have h:=pW (β:=β) { S with O:=(aA S.O (aJ S.X) (fun _=>(⟨0,c.mode,0,0,0,0,0,0,false,1,[],⟨#[]⟩,[],none⟩:aO))) } L2 f m t ⟨(aJ S.X),1⟩ (by show (obj (aA S.O (aJ S.X) (fun _=>(⟨0,c.mode,0,0,0,0,0,0,false,1,[],⟨#[]⟩,[],none⟩:aO))) (aJ S.X)).kind=1;rw [bB]) (by simp) (by show 0<=(obj (aA S.O (aJ S.X) (fun _=>(⟨0,c.mode,0,0,0,0,0,0,false,1,[],⟨#[]⟩,[],none⟩:aO))) (aJ S.X)).opens/\(obj (aA S.O (aJ S.X) (fun _=>(⟨0,c.mode,0,0,0,0,0,0,false,1,[],⟨#[]⟩,[],none⟩:aO))) (aJ S.X)).opens<=1048576;rw [bB];exact⟨Int.le_refl _,by show (0:Int)<=1048576;decide⟩);rw [nk hL2,kr (S:={ S with O:=(aA S.O (aJ S.X) (fun _=>(⟨0,c.mode,0,0,0,0,0,0,false,1,[],⟨#[]⟩,[],none⟩:aO))) }) (t:=⟨(aJ S.X),1⟩) (by show ¬ (S.us.length:Int) < S.X.cH;omega)] at h;exact h)) ?_
 rintro _ _ ⟨rfl,rfl⟩
 refine gC 7 [(6,vI 130)] [(5,a_ 6 cb)] [(6,[(12,vI 0)])] ?_
 refine NS (gK 2 [(59,.bool true)] [] ?_)
 refine NN (CT (SR ?_))
 have hk0:(obj S.O (aJ S.X)).kind=0:=hI.oP _ (by have:=o5 hI.toInv0;omega)
 refine ak.cW [(2,.abs (ay (bD S.O L)))] (fun w hS=>hS.t8 (i:=2) rfl (aJ S.X) (fun x hx=>by rw [q8 hx,Ds hL2 hfr hx]) (by unfold bD;rw [hk0];rfl)) ?_
 refine ak.cW [(5,.abs (ay (cE S.O L)))] (fun w hS=>hS.t8 (i:=5) rfl (aJ S.X) (fun x hx=>by rw [tG hx,yE hL2 hfr hx]) (by unfold cE;rw [hk0];rfl)) ?_
 refine ak.mem (cO:=[.blk f [vI (S.X.cN),vI (S.X.cB),vI (S.X.cH),vI (S.X.cS),vI (S.X.cZ),.map (some m),vP t,vI (S.X.last),vI (S.X.ah),vI (S.X.used)] 66,.abs (bH 110 t S.X.cH S.av (aT L2 S.us)),.abs (ay (bD S.O L)),.abs (ay (bq S.O L)),.abs (aN Tryz.prog 3 m (aV (aT L2 S.idx)) S.idx.length),.abs (ay (cE S.O L)),.blk cb [vI (c.op),vI (c.handle),vI (c.other),.string c.name,.string c.text,.slice c.dA (c.data.length) (c.dC),vI (c.mode),vI (c.uid),vI (c.gid),vI (c.sec),vI (c.nano),vI (c.code),vI 0] 50,.abs R]) (fun w hS=>hS.t8 (i:=3) rfl (aJ S.X) (fun x hx=>by rw [tH hx,uX hL2 hx]) (by unfold bq;rw [hk0];rfl)) ?_
 refine ak.mem (cO:=[.blk f [vI (S.X.cN),vI (S.X.cB),vI (S.X.cH),vI (S.X.cS),vI (S.X.cZ),.map (some m),vP t,vI (S.X.last),vI (S.X.ah),vI (S.X.used)] 66,.abs (bH 110 t S.X.cH S.av (aT L S.us)),.abs (ay (bD S.O L)),.abs (ay (bq S.O L)),.abs (aN Tryz.prog 3 m (aV (aT L S.idx)) S.idx.length),.abs (ay (cE S.O L)),.blk cb [vI (c.op),vI (c.handle),vI (c.other),.string c.name,.string c.text,.slice c.dA (c.data.length) (c.dC),vI (c.mode),vI (c.uid),vI (c.gid),vI (c.sec),vI (c.nano),vI (c.code),vI 0] 50,.abs R]) (fun w hS=>by rw [fT hL2 hfr.idx,fT hL2 hfr.us] at hS;exact hS) ?_
 refine gK 2 [(4,vI 130)] [] ?_
 refine NN (af.ret (ai.aj ?_))
 exact RT (vI 130) [0,4,1,2,3,5,6,7] (⟨L,by rw [show (dI S c)=(130,S,{ c with answer:=0 }) by unfold dI;rw [hab];exact (if_pos jR).trans ((if_pos h0).trans (by rw [show kO S d c.name c.mode=(0,130,S) from (if_pos h0).trans (if_neg (by omega))]))]<;>exact⟨rfl,rfl⟩⟩)
end
section
open Go.RowKit
def rH (b:Nat) (v:Value):bY where
  h F w:=∃ cs T,cs[0]?=some v/\(HP.blk b cs T).h F w
  lt:=fun ⟨_,_,_,h⟩=>HP.lt h
  st:=fun ⟨cs,T,hv,h⟩ _ _ hk hd=>⟨cs,T,hv,HP.st h hk hd⟩
theorem rH.cell {b:Nat} {v:Value}:∀ F w,(rH b v).h F w->w.cell? ⟨b,0,none⟩=some v:=by
  rintro F w ⟨cs,T,hv,h⟩
  exact (eZ h.1 rfl rfl hv).1
theorem Sat.first {β:Bs} {l:List HP} {w:World} {i b:Nat} {cs:List Value} {T:TypeId} {v:Value} (h:Sat β l w) (hp:l[i]?=some (.blk b cs T)) (hv:cs[0]?=some v):Sat β [.abs (rH b v)] w:=by
  obtain⟨ho,φ,h1,h2,h3⟩:=h
  have hi:=bh hp
  refine⟨ho,fun _=>φ i,fun j q hq=>?_,fun j hj=>h2 i hi,fun j k hj hk hne=>?_⟩
  ·have hj:=bh hq
   simp at hj
   subst hj
   simp at hq
   subst hq
   exact⟨cs,T,hv,h1 i _ hp⟩
  simp at hj hk
  omega
section mix
variable {P:Program} {β:Bs} {N:Nat} {ops:Array Oper} {S:List HP} {l:List Nat} {fr:Fr} {hps:List HP} {Q:Post} {i:Nat}
theorem af.EN {id:Nat} (perm:List Nat) (nr:Nat) (hm:P.follows .mixedOrders=true) (hB:wO ops perm nr=true) (hp:∀ w,Sat β hps w->Sat β S w) (h:aG P β N ops S nr perm fr hps Q):af P β N (.region id ops true) fr hps Q:=by
  intro junk w hS
  unfold wO at hB
  simp only [Bool.and_eq_true,beq_iff_eq] at hB
  obtain⟨⟨⟨h1,h2⟩,h3⟩,h4⟩:=hB
  have di:=hS.drewN 1
  have h5:=xW (Q:=Q) h1 h2 nr perm _ _ _ h4 (fun j oj _ hl=>by simp [Array.getD_eq_getD_getElem?,Array.getElem?_replicate] at hl;split at hl<;>simp at hl) (hp _ di) (h junk (w.drewN 1) di)
  rw [h3] at h5
  refine Code.wp_mono (fun e a w q=>?_) (wp_region_any hm (mo _ _ _ _ h5))
  cases e with
  | normal=>exact q
  | exit id=>exact q.elim
  | goto l=>exact q.elim
  | ret=>exact q.elim
  | panic ch=>exact q.elim
  | outgrown=>exact q.elim
theorem aG.EO {ι:Type} {fr':ι->Fr} {hp':ι->List HP} {o:Oper} (hop:ops[i]?=some o) (hg:o.guard=none) (h:ak P β N #[o] 0 fr hps (NP (lT β N fr' hp'))) (hp:∀ j w,Sat β (hp' j) w->Sat β S w)
    (K:∀ j,aG P β N ops S 0 l (fr' j) (hp' j) Q):aG P β N ops S 0 (i::l) fr hps Q:=by
  intro junk w hS
  unfold kH
  refine fk hop hg ?_
  have h1:=h junk w hS
  have h2:wpList P #[o] (NP (lT β N fr' hp')) [o] (bM N fr junk) w:=h1
  refine iy (fun a w ⟨j,fw,ha,di⟩=>?_) h2
  subst ha
  exact⟨.inr (hp j _ di),K j fw w di⟩
end mix
end
section
open Go.RowKit Go.Maps ck aB
def Gq:List Nat:=[42,43,44,45,46,47,48,49,50,51,52,53,54,55,56]
def Nv:Value:=.agg ⟨.nilFunc::Gq.map (fun f=>.func (.func f) #[] #[])⟩
theorem EP {n:Int} (h:1<=n/\n<=15):n=1\/n=2\/n=3\/n=4\/n=5\/n=6\/n=7\/n=8\/n=9\/n=10\/n=11\/n=12\/n=13\/n=14\/n=15:=by omega
theorem LF {w:World} {o:Oper} {ev:Operand->Value} {x y:Operand} {n:Int} (ho:o.op=.index 90 x y) (hx:ev x=Nv) (hy:ev y=.int .i64 n) (hn:1<=n/\n<=15):lP Tryz.prog ev o w (.func (.func (Gq.getD (n.toNat - 1) 0)) #[] #[]) w:=by
  obtain⟨dst,op,type,pos,after,guard⟩:=o
  cases ho
  refine .inl ?_
  simp only [execOp,hx,hy]
  rcases EP hn with h|h|h|h|h|h|h|h|h|h|h|h|h|h|h<;>subst h<;>kernel_rfl
theorem ak.hn {β:Bs} {N k:Nat} {ops:Array Oper} {fr:Fr} {hps:List HP} {Q:Post} {d:Option Tmp} {x y:Operand} {n:Int} (hn:1<=n/\n<=15) (K:ak Tryz.prog β N ops (k+1) (cU fr d (.func (.func (Gq.getD (n.toNat - 1) 0)) #[] #[])) hps Q)
    (hop:∀ junk,dR N junk ops fr k=some (.index 90 x y,d):=by intro _;kernel_rfl) (hx:∀ junk,cP N fr junk x=Nv:=by intro _;kernel_rfl) (hy:∀ junk,cP N fr junk y=.int .i64 n:=by intro _;kernel_rfl):ak Tryz.prog β N ops k fr hps Q:=
  ak.gU hop (fun _ junk w ho hS=>⟨w,LF ho (hx junk) (hy junk) hn,hS⟩) K
theorem MW {β:Bs} {S:aH} {L:HL} {f m t b:Nat} {c:aQ} (n:Int) (hI:Inv S) (hC:fI β c) (h:1<=n/\n<=15) (he:c.op=n):Spec Tryz.prog β (Gq.getD (n.toNat - 1) 0) #[vP f,vP b] (pA f m t L S++[pC b c]) (fun v l=>∃ L2,v=vI (cK S c).1/\l=pA f m t L2 (cK S c).2.1++[pC b (cK S c).2.2]):=by
  subst he
  rcases EP h with h|h|h|h|h|h|h|h|h|h|h|h|h|h|h<;>rw [h]
  ·rw [Aa h];exact EG S L f m t hI b c hC
  ·rw [Ab h];exact zR S L f m t hI b c hC
  ·rw [Ez h];exact yJ S L f m t hI b c hC
  ·rw [Ac h];exact CX S L f m t hI b c hC
  ·rw [EA h];exact BZ S L f m t hI b c hC
  ·rw [EB h];exact zS S L f m t hI b c hC
  ·rw [EC h];exact EL S L f m t hI b c hC
  ·rw [ED h];exact BV S L f m t hI b c hC
  ·rw [EF h];exact CZ S L f m t hI b c hC
  ·rw [BM h];exact zT S L f m t hI b c hC
  ·rw [BN h];exact EM S L f m t hI b c hC
  ·rw [BO h];exact BX S L f m t hI b c hC
  ·rw [BP h];exact C0 S L f m t hI b c hC
  ·rw [BQ h];exact CY S L f m t hI b c hC
  rw [BR h];exact BW S L f m t hI b c hC
theorem Gr {S:aH} {c:aQ} (h:1<=c.op/\c.op<=15):(cK S c).2.2.op=c.op:=by
  rcases EP h with h|h|h|h|h|h|h|h|h|h|h|h|h|h|h
  ·rw [Aa h];exact Ka
  ·rw [Ab h];exact Et
  ·rw [Ez h];exact CS
  ·rw [Ac h];exact Eu
  ·rw [EA h];exact CU
  ·rw [EB h];exact BL
  ·rw [EC h];exact Gl
  ·rw [ED h];exact CV
  ·rw [EF h];exact Ew
  ·rw [BM h];exact Ey
  ·rw [BN h];exact Kb
  ·rw [BO h];exact Gm
  ·rw [BP h];exact Ii
  ·rw [BQ h];exact Ev
  rw [BR h];exact CW
end
section
open Go.RowKit Go.Maps ck aB
attribute [local irreducible] ak aK af ai
abbrev JI (b3:Nat):=(.blk b3 [vI 0,vI 0,vI 0,.string ⟨#[]⟩,.string ⟨#[]⟩,.slice none (0) (0),vI 0,vI 0,vI 0,vI 0,vI 0,vI 0,vI 0] 50:HP)
abbrev Nw (c:aQ):=([(0,vI (c.op)),(1,vI (c.handle)),(2,vI (c.other)),(3,.string c.name),(4,.string c.text),(5,.slice c.dA (c.data.length) (c.dC)),(6,vI (c.mode)),(7,vI (c.uid)),(8,vI (c.gid)),(9,vI (c.sec)),(10,vI (c.nano)),(11,vI 230)]:Fr)
theorem C2 {β:Bs}:Spec Tryz.prog β 29 #[] [] (fun v l=>v=.agg #[.nilFunc,.func (.func 42) #[] #[],.func (.func 43) #[] #[],.func (.func 44) #[] #[],.func (.func 45) #[] #[],.func (.func 46) #[] #[],.func (.func 47) #[] #[],.func (.func 48) #[] #[],.func (.func 49) #[] #[],.func (.func 50) #[] #[],.func (.func 51) #[] #[],.func (.func 52) #[] #[],.func (.func 53) #[] #[],.func (.func 54) #[] #[],.func (.func 55) #[] #[],.func (.func 56) #[] #[]]/\l=[]):=by
 refine Spec.enter Tryz.func29 rfl Tryz.ntmps29 (Nat.le_of_ble_eq_true rfl) (fun R=>?_)
 refine SR (gN 1 (fun b1=>[(0,vP b1)]) (fun _=>[]) (fun _=>[]) (fun b1=>.blk b1 [.nilFunc,.nilFunc,.nilFunc,.nilFunc,.nilFunc,.nilFunc,.nilFunc,.nilFunc,.nilFunc,.nilFunc,.nilFunc,.nilFunc,.nilFunc,.nilFunc,.nilFunc,.nilFunc] 90) (fun b1=>?_))
 refine NS (gC 2 [] [(1,A_ 1 b1 16)] [(1,[(1,.func (.func 42) #[] #[]),(2,.func (.func 43) #[] #[]),(3,.func (.func 44) #[] #[]),(4,.func (.func 45) #[] #[]),(5,.func (.func 46) #[] #[]),(6,.func (.func 47) #[] #[]),(7,.func (.func 48) #[] #[]),(8,.func (.func 49) #[] #[]),(9,.func (.func 50) #[] #[]),(10,.func (.func 51) #[] #[]),(11,.func (.func 52) #[] #[]),(12,.func (.func 53) #[] #[]),(13,.func (.func 54) #[] #[]),(14,.func (.func 55) #[] #[]),(15,.func (.func 56) #[] #[])])] ?_)
 refine NN (af.ret ?_)
 exact ai.ret (v:=.agg #[.nilFunc,.func (.func 42) #[] #[],.func (.func 43) #[] #[],.func (.func 44) #[] #[],.func (.func 45) #[] #[],.func (.func 46) #[] #[],.func (.func 47) #[] #[],.func (.func 48) #[] #[],.func (.func 49) #[] #[],.func (.func 50) #[] #[],.func (.func 51) #[] #[],.func (.func 52) #[] #[],.func (.func 53) #[] #[],.func (.func 54) #[] #[],.func (.func 55) #[] #[],.func (.func 56) #[] #[]]) (l:=[]) (bw:=[b1=b1,b1=b1,b1=b1,b1=b1,b1=b1,b1=b1,b1=b1,b1=b1,b1=b1,b1=b1,b1=b1,b1=b1,b1=b1,b1=b1,b1=b1,b1=b1]) [.at 1,.at 1,.at 1,.at 1,.at 1,.at 1,.at 1,.at 1,.at 1,.at 1,.at 1,.at 1,.at 1,.at 1,.at 1,.at 1] [0] (fun _=>by kernel_rfl) ⟨rfl,rfl,rfl,rfl,rfl,rfl,rfl,rfl,rfl,rfl,rfl,rfl,rfl,rfl,rfl,rfl,trivial⟩ rfl (by kernel_rfl) (⟨rfl,rfl⟩)
theorem LG {β:Bs} (S:aH) (L:HL) (f m t:Nat) (hI:Inv S) (c:aQ) (hC:fI β c) :
    Spec Tryz.prog β 11 #[vP f,.agg #[vI (c.op),vI (c.handle),vI (c.other),.string c.name,.string c.text,.slice c.dA (c.data.length) (c.dC),vI (c.mode),vI (c.uid),vI (c.gid),vI (c.sec),vI (c.nano),vI (c.code),vI (c.answer)]] (pA f m t L S) (fun v l=>∃ L2,v=.agg ⟨gM (mB S c).2⟩/\l=(pA f m t L2 ((mB S c).1))):=by
 have hX:=hI.hX
 refine Spec.enter Tryz.func11 rfl Tryz.ntmps11 (Nat.le_of_ble_eq_true rfl) (fun R=>?_)
 refine SR (gN 1 (fun b2=>[(3,vP b2)]) (fun _=>[]) (fun _=>[]) (fun b2=>pC b2 c) (fun b2=>?_))
 refine gN 1 (fun b3=>[(4,vP b3)]) (fun _=>[]) (fun _=>[]) (fun b3=>.blk b3 [vI 0,vI 0,vI 0,.string ⟨#[]⟩,.string ⟨#[]⟩,.slice none (0) (0),vI 0,vI 0,vI 0,vI 0,vI 0,vI 0,vI 0] 50) (fun b3=>?_)
 refine NS (gC 2 [] [(1,a_ 7 b2)] [(7,[(12,vI 0)])] ?_)
 refine NS (gC 2 [] [(1,a_ 7 b2)] [(7,[(11,vI 230)])] ?_)
 refine NN (af.seq (SR (gK 4 [(10,.bool (decide ((c.op:Int) ≥ (1:Int))))] [(1,a_ 7 b2)] ?_)))
 refine ak.bZ 10 ((c.op:Int) ≥ (1:Int)) (fun _=>by kernel_rfl) (fun h10=>?_) (fun h10=>?_)
 ·refine gK 4 [(14,.bool (decide ((c.op:Int)<=(15:Int))))] [(1,a_ 7 b2)] ?_
  refine NN (af.aR (p:=(c.op:Int)<=(15:Int)) (fun _=>by kernel_rfl) (fun fO=>?_) (fun fO=>?_))
  ·have hop:1<=c.op/\c.op<=15:=⟨h10,fO⟩
   refine af.EN (S:=[.abs (rH b2 (.int .i64 c.op))]) [1,2,4,0,3,5,6,7] 3 (by kernel_rfl) (by kernel_rfl) (fun w hS=>hS.first (i:=7) (b:=b2) rfl rfl) ?_
   refine gR 0 [0,3,5,6,7] [(3,vP b2),(4,vP b3),(17,vI (c.op)),(19,vP f)] [1,2,4] [(1,p_ ⟨[.view 0 (.int .i64 (c.op))],none,none,none,none⟩ [(∀ F w,(rH b2 (.int .i64 c.op)).h F w->w.cell? ⟨b2,0,none⟩=some (vI (c.op)))] ⟨rH.cell,trivial⟩)] ?_
   refine aG.EO (ι:=Unit) (fr':=fun (_:Unit)=>[(3,vP b2),(4,vP b3),(15,.agg #[.nilFunc,.func (.func 42) #[] #[],.func (.func 43) #[] #[],.func (.func 44) #[] #[],.func (.func 45) #[] #[],.func (.func 46) #[] #[],.func (.func 47) #[] #[],.func (.func 48) #[] #[],.func (.func 49) #[] #[],.func (.func 50) #[] #[],.func (.func 51) #[] #[],.func (.func 52) #[] #[],.func (.func 53) #[] #[],.func (.func 54) #[] #[],.func (.func 55) #[] #[],.func (.func 56) #[] #[]]),(17,vI (c.op)),(19,vP f)]) (hp':=fun (_:Unit)=>((pA f m t L S)++[.abs R,pC b2 (c0 c),JI b3])) rfl rfl ?_ (by rintro _ w hS;exact hS.first (i:=7) (b:=b2) rfl rfl) ?_
   ·refine gL [] (C2) ?_
    rintro _ _ ⟨rfl,rfl⟩
    refine NL ?_
    exact MD () [3,4,15,17,19] [0,1,2,3,4,5,6,7,8]
   rintro _
   refine aG.EO (ι:=Unit) (fr':=fun (_:Unit)=>[(3,vP b2),(4,vP b3),(18,.func (.func (Gq.getD (c.op.toNat - 1) 0)) #[] #[]),(19,vP f)]) (hp':=fun (_:Unit)=>((pA f m t L S)++[.abs R,pC b2 (c0 c),JI b3])) rfl rfl ?_ (by rintro _ w hS;exact hS.first (i:=7) (b:=b2) rfl rfl) ?_
   ·refine ak.hn (x:=(.tmp 15)) (y:=(.tmp 17)) (d:=(some 18)) hop ?_
    refine NL ?_
    exact MD () [3,4,18,19] [0,1,2,3,4,5,6,7,8]
   rintro _
   refine aG.EO (ι:=HL) (fr':=fun (L2:HL)=>[(3,vP b2),(4,vP b3),(20,vI ((cK S (c0 c)).1))]) (hp':=fun (L2:HL)=>((pA f m t L2 ((cK S (c0 c)).2.1))++[pC b2 ((cK S (c0 c)).2.2),.abs R,JI b3])) rfl rfl ?_ (by rintro L2 w hS;exact hS.first (i:=6) (b:=b2) rfl (congrArg (fun z=>some (Value.int .i64 z)) (Gr (c:=(c0 c)) hop))) ?_
   ·refine gL [0,1,2,3,4,5,7] (MW (S:=S) (L:=L) (f:=f) (m:=m) (t:=t) (b:=b2) (c:=(c0 c)) c.op hI ⟨hC.hw,hC.ow,hC.nm,hC.tx,hC.da,hC.dl,hC.dc⟩ hop rfl) ?_ (by intro _;rcases EP hop with h|h|h|h|h|h|h|h|h|h|h|h|h|h|h<;>rw [h]<;>kernel_rfl)
    rintro _ _ ⟨L2,rfl,rfl⟩
    refine NL ?_
    exact MD L2 [3,4,20] [0,1,2,3,4,5,6,7,8]
   rintro L2
   refine aG.EO (ι:=Unit) (fr':=fun (_:Unit)=>[(3,vP b2),(4,vP b3),(20,vI ((cK S (c0 c)).1)),(21,.pointer (some ⟨b2,11,none⟩))]) (hp':=fun (_:Unit)=>((pA f m t L2 ((cK S (c0 c)).2.1))++[pC b2 ((cK S (c0 c)).2.2),.abs R,JI b3])) rfl rfl ?_ (by rintro _ w hS;exact hS.first (i:=6) (b:=b2) rfl (congrArg (fun z=>some (Value.int .i64 z)) (Gr (c:=(c0 c)) hop))) ?_
   ·refine gK 1 [(21,.pointer (some ⟨b2,11,none⟩))] [] ?_
    refine NL ?_
    exact MD () [3,4,20,21] [0,1,2,3,4,5,6,7,8]
   rintro _
   refine aG.last rfl rfl ?_
   refine gC 1 [] [(0,a_ 6 b2)] [(6,[(11,vI ((cK S (c0 c)).1))])] ?_
   refine NL (ai.np (NX (SR ?_)))
   refine gC 2 [] [(0,A_ 6 b2 13),(1,A_ 8 b3 13)] [(8,[(0,vI ((cK S (c0 c)).2.2.op)),(1,vI ((cK S (c0 c)).2.2.handle)),(2,vI ((cK S (c0 c)).2.2.other)),(3,.string (cK S (c0 c)).2.2.name),(4,.string (cK S (c0 c)).2.2.text),(5,.slice (cK S (c0 c)).2.2.dA ((cK S (c0 c)).2.2.data.length) ((cK S (c0 c)).2.2.dC)),(6,vI ((cK S (c0 c)).2.2.mode)),(7,vI ((cK S (c0 c)).2.2.uid)),(8,vI ((cK S (c0 c)).2.2.gid)),(9,vI ((cK S (c0 c)).2.2.sec)),(10,vI ((cK S (c0 c)).2.2.nano)),(11,vI ((cK S (c0 c)).1)),(12,vI ((cK S (c0 c)).2.2.answer))])] ?_
   refine NN (af.ret ?_)
   exact ai.ret (v:=.agg #[vI ((cK S (c0 c)).2.2.op),vI ((cK S (c0 c)).2.2.handle),vI ((cK S (c0 c)).2.2.other),.string (cK S (c0 c)).2.2.name,.string (cK S (c0 c)).2.2.text,.slice (cK S (c0 c)).2.2.dA ((cK S (c0 c)).2.2.data.length) ((cK S (c0 c)).2.2.dC),vI ((cK S (c0 c)).2.2.mode),vI ((cK S (c0 c)).2.2.uid),vI ((cK S (c0 c)).2.2.gid),vI ((cK S (c0 c)).2.2.sec),vI ((cK S (c0 c)).2.2.nano),vI ((cK S (c0 c)).1),vI ((cK S (c0 c)).2.2.answer)]) (l:=(pA f m t L2 ((cK S (c0 c)).2.1))) (bw:=[b3=b3,b3=b3,b3=b3,b3=b3,b3=b3,b3=b3,b3=b3,b3=b3,b3=b3,b3=b3,b3=b3,b3=b3,b3=b3]) [.at 8,.at 8,.at 8,.at 8,.at 8,.at 8,.at 8,.at 8,.at 8,.at 8,.at 8,.at 8,.at 8] [0,1,2,3,4,5,7] (fun _=>by kernel_rfl) ⟨rfl,rfl,rfl,rfl,rfl,rfl,rfl,rfl,rfl,rfl,rfl,rfl,rfl,trivial⟩ rfl (by kernel_rfl) (⟨L2,rfl,rfl⟩)
  refine af.skip (NX (SR (gC 2 [] [(0,A_ 7 b2 13),(1,A_ 8 b3 13)] [(8,(Nw c))] ?_)))
  refine NN (af.ret ?_)
  exact ai.ret (v:=.agg #[vI (c.op),vI (c.handle),vI (c.other),.string c.name,.string c.text,.slice c.dA (c.data.length) (c.dC),vI (c.mode),vI (c.uid),vI (c.gid),vI (c.sec),vI (c.nano),vI 230,vI 0]) (l:=(pA f m t L S)) (bw:=[b3=b3,b3=b3,b3=b3,b3=b3,b3=b3,b3=b3,b3=b3,b3=b3,b3=b3,b3=b3,b3=b3,b3=b3,b3=b3]) [.at 8,.at 8,.at 8,.at 8,.at 8,.at 8,.at 8,.at 8,.at 8,.at 8,.at 8,.at 8,.at 8] [0,1,2,3,4,5,6] (fun _=>by kernel_rfl) ⟨rfl,rfl,rfl,rfl,rfl,rfl,rfl,rfl,rfl,rfl,rfl,rfl,rfl,trivial⟩ rfl (by kernel_rfl) (⟨L,by unfold mB;rw [BS (S:=S) (c:=(c0 c)) (by show ¬ (1<=c.op/\c.op<=15);omega)];exact⟨rfl,rfl⟩⟩)
 refine gK 4 [(14,.bool false)] [] ?_
 refine NN (CF (af.skip (NX (SR (gC 2 [] [(0,A_ 7 b2 13),(1,A_ 8 b3 13)] [(8,(Nw c))] ?_)))))
 refine NN (af.ret ?_)
 exact ai.ret (v:=.agg #[vI (c.op),vI (c.handle),vI (c.other),.string c.name,.string c.text,.slice c.dA (c.data.length) (c.dC),vI (c.mode),vI (c.uid),vI (c.gid),vI (c.sec),vI (c.nano),vI 230,vI 0]) (l:=(pA f m t L S)) (bw:=[b3=b3,b3=b3,b3=b3,b3=b3,b3=b3,b3=b3,b3=b3,b3=b3,b3=b3,b3=b3,b3=b3,b3=b3,b3=b3]) [.at 8,.at 8,.at 8,.at 8,.at 8,.at 8,.at 8,.at 8,.at 8,.at 8,.at 8,.at 8,.at 8] [0,1,2,3,4,5,6] (fun _=>by kernel_rfl) ⟨rfl,rfl,rfl,rfl,rfl,rfl,rfl,rfl,rfl,rfl,rfl,rfl,rfl,trivial⟩ rfl (by kernel_rfl) (⟨L,by unfold mB;rw [BS (S:=S) (c:=(c0 c)) (by show ¬ (1<=c.op/\c.op<=15);omega)];exact⟨rfl,rfl⟩⟩)
end
section
open Go.RowKit Go.Maps ck aB
section inv
variable {S:aH} {d to:Nat} {name toName text:ByteArray} {mode:Int} {c:aQ}
theorem Ca (hI:Inv0 S):hnd S.us (aJ S.X)=0:=by
  have:hnd S.us (aJ S.X)=cV (fun _=>0) S.us:=eO (fun p hp=>if_neg (hI.fresh.us p hp))
  rw [this]
  have h0:∀ us:Used Th,cV (fun _=>0) us=0:=fun us=>by
    induction us with
    | nil=>rfl
    | cons p r ih=>show 0+_=0;rw [ih]
  exact h0 _
theorem vD (hI:Inv0 S) {kind mode:Int} {tg:ByteArray} (hm:lq mode) (ht:aX kind tg):jq { bQ S.X kind mode with target:=tg }:=
  ⟨hm,⟨Int.le_refl _,by show (0:Int)<=2147483647;decide⟩,⟨Int.le_refl _,by show (0:Int)<=2147483647;decide⟩,hI.now,fun _=>rfl,fun _=>rfl,ht⟩
theorem Inv.JJ (hI:Inv S) (hd:Live S.idx ⟨d,2⟩) (ji:(obj S.O d).gone=false) (jj:bI name) (h0:cF S.X S.O S.idx d name=0) {kind mode:Int} {tg:ByteArray} (hk:kind=1\/kind=2\/kind=3) (hm:lq mode) (ht:aX kind tg) :
    Inv (iK S d name { bQ S.X kind mode with target:=tg }):=by
  have h:=hI.add (us':=S.us) (eP:=S.av) (o:={ bQ S.X kind mode with target:=tg }) hd ji (nT h0) jj (qQ h0) rfl hk rfl rfl rfl rfl rfl (vD hI.toInv0 hm ht) hI.usr hI.tV hI.zB hI.av (fun h t e=>⟨.inl (hI.us h t e).1,(hI.us h t e).2⟩) (fun _ _=>rfl) (by rw [Ca hI.toInv0];rfl)
  exact h
theorem Inv.iF (hI:Inv S) (hd:Live S.idx ⟨d,2⟩) (ji:(obj S.O d).gone=false) (jj:bI name) (hm:lq mode):Inv (Proofs.YtaepnjbceganhaaGreat.iF S d name mode).2:=by
  unfold Proofs.YtaepnjbceganhaaGreat.iF
  split
  ·rename_i h0
   exact hI.JJ hd ji jj h0 (.inr (.inl rfl)) hm (.inl ⟨by decide,rfl⟩)
  exact hI
theorem Kc {s:ByteArray} (h:kW s=0):aX 3 s:=by
  unfold kW at h
  split at h
  ·cases h
  rename_i h1
  split at h
  ·cases h
  split at h
  ·rename_i h2 h3
   refine .inr ⟨rfl,?_,by omega,h3⟩
   apply Classical.byContradiction
   intro hn
   have:s.size=0:=by omega
   exact h1 (jG.1 this)
  cases h
theorem Inv.fD (hI:Inv S) (hd:Live S.idx ⟨d,2⟩) (ji:(obj S.O d).gone=false) (jj:bI name):Inv (Proofs.YtaepnjbceganhaaGreat.fD S d name text).2:=by
  unfold Proofs.YtaepnjbceganhaaGreat.fD
  split
  ·rename_i hb
   split
   ·rename_i h0
    exact hI.JJ hd ji jj h0 (.inr (.inr rfl)) ⟨by decide,by decide⟩ (Kc hb)
   exact hI
  exact hI
theorem Inv.ez (hI:Inv S) (hd:Live S.idx ⟨d,2⟩):Inv (Proofs.YtaepnjbceganhaaGreat.ez S d name).2:=by
  unfold Proofs.YtaepnjbceganhaaGreat.ez
  split
  ·exact hI
  rename_i t hl
  split
  ·exact hI
  rename_i hk
  exact hI.uY hd hl hk
theorem Inv.eS (hI:Inv S) (hd:Live S.idx ⟨d,2⟩):Inv (Proofs.YtaepnjbceganhaaGreat.eS S d name).2:=by
  unfold Proofs.YtaepnjbceganhaaGreat.eS
  split
  ·exact hI
  rename_i t hl
  split
  ·split
   ·rename_i he
    exact hI.drop hd hl (fun _=>he)
   exact hI
  exact hI
theorem EQ {t:Th} (ht:t.k≠to):(obj (aD S d name t).O to).gone=(obj S.O to).gone:=by
  have h1:(obj (aD S d name t).O to).gone=(obj (aM S.X S.O d name t) to).gone:=by
    unfold aD
    simp only
    split
    ·show (obj (aA _ t.k _) to).gone=_
     rw [bP (fun e=>ht e.symm)]
    rfl
  rw [h1]
  exact cR (g:=aO.gone) (fun _ _=>rfl) (fun _ _=>rfl) (fun _ _ _=>rfl)
theorem Inv.bC (hI:Inv S) (hd:Live S.idx ⟨d,2⟩) (hto:Live S.idx ⟨to,2⟩) (ji:(obj S.O to).gone=false) (jj:bI toName):Inv (Proofs.YtaepnjbceganhaaGreat.bC S d name to toName).2:=by
  unfold Proofs.YtaepnjbceganhaaGreat.bC
  split
  ·exact hI
  rename_i t hl
  split
  ·exact hI
  rename_i hb
  have hb:t.kind=2->¬ iI S.O t.k to:=fun h1 h2=>hb ⟨h1,h2⟩
  split
  ·rename_i hn
   exact hI.move hd hl hto ji hn jj hb
  rename_i o hl2
  split
  ·exact hI
  rename_i hot
  split
  ·exact hI
  rename_i hok
  split
  ·exact hI
  rename_i O9
  have ho:=(hI.ent hto hl2).2
  have LH:o.k≠to:=hI.ne hto hl2
  have h1:=hI.uY hto hl2 hok
  have hd1:Live (aD S to toName o).idx ⟨d,2⟩:=iA hI.toInv0 hto hl2 hd (fun e=>hok (by have:=eY hd ho e;rw [← this]))
  have iL:Live (aD S to toName o).idx ⟨to,2⟩:=iA hI.toInv0 hto hl2 hto (fun e=>LH e.symm)
  exact h1.move hd1 (nU hI.toInv0 hto hl2 hl hot) iL (by rw [EQ LH];exact ji) (nV hI.toInv0 hto hl2) jj (fun h=>absurd h O9)
theorem Inv.dZ (hI:Inv S) (hd:Live S.idx ⟨d,2⟩) (hto:Live S.idx ⟨to,2⟩) (ji:(obj S.O to).gone=false) (jj:bI toName):Inv (Proofs.YtaepnjbceganhaaGreat.dZ S d name to toName).2:=by
  unfold Proofs.YtaepnjbceganhaaGreat.dZ
  split
  ·exact hI
  rename_i t hl
  have ht:=(hI.ent hd hl).2
  split
  ·exact hI
  rename_i hk
  split
  ·rename_i hn
   split
   ·rename_i hr
    have hgt:(obj S.O t.k).gone=false:=by
      cases hg:(obj S.O t.k).gone with
      | false=>rfl
      | true=>
        have h1:=(hI.gone t ht hg).1
        have h2:=hI.links t ht
        have h3:0 < gu S.idx S.O t.k:=kP hd hl
        omega
    exact hI.link hto ji hn jj ht hgt hk hr
   exact hI
  exact hI
theorem Inv.kO (hI:Inv S) (hd:Live S.idx ⟨d,2⟩) (ji:(obj S.O d).gone=false) (jj:bI name) (hm:lq mode):Inv (Proofs.YtaepnjbceganhaaGreat.kO S d name mode).2.2:=by
  unfold Proofs.YtaepnjbceganhaaGreat.kO
  split
  ·rename_i h0
   split
   ·rename_i hlt
    obtain⟨g1,g2,_⟩:=least_le hI.usr (fun x hx=>(hI.tV x hx).1)
    obtain⟨v1,v2⟩:=Dt (t:=⟨aJ S.X,1⟩) hI.usr hI.tV
    have hm2:=vD (kind:=1) (tg:=⟨#[]⟩) hI.toInv0 hm (.inl ⟨by decide,rfl⟩)
    refine hI.add (us':=ins (aB.least S.us) ⟨aJ S.X,1⟩ S.us) (eP:=max S.av ((S.us.length:Int)+1)) (o:={ bQ S.X 1 mode with opens:=1 }) hd ji (nT h0) jj (qQ h0) rfl (.inl rfl) rfl rfl rfl rfl rfl ⟨hm2.mode,hm2.uid,hm2.gid,hm2.time,hm2.data,hm2.ah,hm2.target⟩ v1 v2 (by rw [gy];omega) (by have:=hI.av;omega) (fun h t e=>?_) (fun k hk=>?_) ?_
    ·rw [rC g2] at e
     split at e
     ·cases e;exact⟨.inr rfl,by show (1:Int)≠3;decide⟩
     exact⟨.inl (hI.us h t e).1,(hI.us h t e).2⟩
    ·rw [yG,if_neg (fun e=>hk e.symm),Nat.zero_add]
    rw [yG,if_pos rfl,Ca hI.toInv0];rfl
   exact hI
  exact hI
theorem Inv.cK (hI:Inv S) (c:aQ):Inv (Proofs.YtaepnjbceganhaaGreat.cK S c).2.1:=by
  have habout:∀ {need:Int} {d:Nat} {h:Int} {n:ByteArray},cY S.O S.us h n need=.ok d->Live S.idx ⟨d,2⟩/\(obj S.O d).gone=false/\bI n:=fun {need d h n} e=>by
    rcases jS hI.toInv0 h n need with ⟨e2,h1,_⟩|⟨d2,h1,h2,h3,h4,_⟩
    ·rw [e] at h1;cases h1
    rw [e] at h1;cases h1;exact⟨h2,h3,h4⟩
  have Gs:∀ {t:Th},fo S.O S.us c=.ok t->Live S.idx t:=fun {t} e=>by
    rcases xG hI.toInv0 c with ⟨e2,h1,_⟩|⟨k,h1,h2⟩|⟨k,h1,h2⟩|⟨k,h1,h2⟩<;>rw [e] at h1<;>cases h1<;>exact h2
  by_cases h:1<=c.op/\c.op<=15
  ·have h:c.op=1\/c.op=2\/c.op=3\/c.op=4\/c.op=5\/c.op=6\/c.op=7\/c.op=8\/c.op=9\/c.op=10\/c.op=11\/c.op=12\/c.op=13\/c.op=14\/c.op=15:=by omega
   rcases h with h|h|h|h|h|h|h|h|h|h|h|h|h|h|h
   ·rw [Aa h]
    unfold iU
    split
    ·exact hI
    rename_i t e
    split
    ·rename_i hk;exact hI.bK (hI.live e) (by rw [hk];decide)
    exact hI
   ·rw [Ab h]
    unfold eE
    split
    ·exact hI
    rename_i t e
    split
    ·exact hI
    rename_i hk
    split
    ·exact hI
    exact hI.bK (Gs e) hk
   ·rw [Ez h]
    unfold d6
    split
    ·exact hI
    rename_i t e
    split
    ·exact hI
    rename_i hk
    split
    ·exact hI
    exact hI.bK (Gs e) hk
   ·rw [Ac h]
    unfold fF
    split
    ·exact hI
    rename_i d e
    obtain⟨h1,h2,h3⟩:=habout e
    split
    ·rename_i hm;exact hI.iF h1 h2 h3 hm
    exact hI
   ·rw [EA h]
    unfold dI
    split
    ·exact hI
    rename_i d e
    obtain⟨h1,h2,h3⟩:=habout e
    split
    ·rename_i hm
     split
     ·exact hI.kO h1 h2 h3 hm
     exact hI
    exact hI
   ·rw [EB h]
    unfold fB
    split
    ·exact hI
    rename_i d e
    obtain⟨h1,h2,h3⟩:=habout e
    exact hI.fD h1 h2 h3
   ·rw [EC h]
    unfold cx
    split
    ·exact hI
    rename_i d e
    split
    ·exact hI
    rename_i to e2
    obtain⟨h1,h2,h3⟩:=habout e2
    exact hI.dZ (habout e).1 h1 h2 h3
   ·rw [ED h]
    unfold fY
    split
    ·exact hI
    rename_i d e
    exact hI.ez (habout e).1
   ·rw [EF h]
    unfold fR
    split
    ·exact hI
    rename_i t e
    split
    ·rename_i hk
     obtain⟨k,kd⟩:=t
     simp only at hk
     subst hk
     exact hI.fH (hI.us _ _ e).1 _
    exact hI
   ·rw [BM h]
    unfold bA
    split
    ·exact hI
    split
    ·exact hI
    split
    ·rename_i hm
     split
     ·rename_i ho
      split
      ·rename_i ht;exact hI.MT hm ho ht
      exact hI
     exact hI
    exact hI
   ·rw [BN h]
    unfold j3
    split<;>exact hI
   ·rw [BO h]
    unfold fS
    split<;>exact hI
   ·rw [BP h]
    unfold iV
    split
    ·exact hI
    rename_i t e;exact hI.shut e
   ·rw [BQ h]
    unfold gX
    split
    ·exact hI
    rename_i d e
    exact hI.eS (habout e).1
   rw [BR h]
   unfold eV
   split
   ·exact hI
   rename_i d e
   split
   ·exact hI
   rename_i to e2
   obtain⟨h1,h2,h3⟩:=habout e2
   exact hI.bC (habout e).1 h1 h2 h3
  rw [BS h];exact hI
theorem Inv.mB (hI:Inv S) (c:aQ):Inv (Proofs.YtaepnjbceganhaaGreat.mB S c).1:=hI.cK _
end inv
end
end Go.Proofs.YtaepnjbceganhaaGreat
section
namespace Go.Proofs
open Go.Shelf
def Tryz.keysS_ren:Go.Shelf.Ren:=⟨fun|7=>33|10=>62|n=>n,fun|23=>77|26=>9|3=>64|28=>102|0=>0|27=>101|33=>114|4=>4|n=>n,fun|n=>n⟩
theorem Tryz.keysS:Go.Proofs.SlLaysZ.n7 Tryz.prog Tryz.keysS_ren:={
  mixed:=by kernel_rfl
  f7:=⟨Tryz.f33.name,by decide,Tryz.func33.trans (congrArg some (by kernel_rfl))⟩
  f10:=⟨Tryz.f62.name,by decide,Tryz.func62.trans (congrArg some (by kernel_rfl))⟩
  t0:=Tryz.underlying0
  a0:=Tryz.isAgg0
  z0:=Tryz.sizeOf0
  v0:=Tryz.zeroValue0
  t4:=Tryz.underlying4
  a4:=Tryz.isAgg4
  z4:=Tryz.sizeOf4
  v4:=Tryz.zeroValue4
  t23:=Tryz.underlying77
  a23:=Tryz.isAgg77
  z23:=Tryz.sizeOf77
  v23:=Tryz.zeroValue77
  t26:=Tryz.underlying9
  a26:=Tryz.isAgg9
  z26:=Tryz.sizeOf9
  v26:=Tryz.zeroValue9
  t27:=Tryz.underlying101
  a27:=Tryz.isAgg101
  z27:=Tryz.sizeOf101
  v27:=Tryz.zeroValue101
  t28:=Tryz.underlying102
  a28:=Tryz.isAgg102
  z28:=Tryz.sizeOf102
  v28:=Tryz.zeroValue102
  t33:=Tryz.underlying114
  a33:=Tryz.isAgg114
  z33:=Tryz.sizeOf114
  v33:=Tryz.zeroValue114 }
def Tryz.sortedS_ren:Go.Shelf.Ren:=⟨fun|6=>32|8=>60|9=>61|11=>87|13=>86|12=>88|23=>107|24=>108|14=>109|15=>110|16=>111|17=>112|18=>113|19=>114|20=>115|21=>116|22=>117|25=>128|26=>123|27=>124|28=>129|29=>130|30=>131|31=>136|n=>n,fun|26=>9|28=>102|24=>99|0=>0|3=>3|37=>145|48=>164|50=>166|4=>4|40=>158|39=>157|45=>149|5=>5|9=>9|51=>179|55=>183|57=>191|58=>192|33=>114|n=>n,fun|n=>n⟩
theorem Tryz.sortedS:Go.Proofs.SlLaysZ.n6 Tryz.prog Tryz.sortedS_ren:={
  mixed:=by kernel_rfl
  f6:=⟨Tryz.f32.name,by decide,Tryz.func32.trans (congrArg some (by kernel_rfl))⟩
  f8:=⟨Tryz.f60.name,by decide,Tryz.func60.trans (congrArg some (by kernel_rfl))⟩
  f11:=⟨Tryz.f87.name,by decide,Tryz.func87.trans (congrArg some (by kernel_rfl))⟩
  t0:=Tryz.underlying0
  a0:=Tryz.isAgg0
  z0:=Tryz.sizeOf0
  v0:=Tryz.zeroValue0
  t24:=Tryz.underlying99
  a24:=Tryz.isAgg99
  z24:=Tryz.sizeOf99
  v24:=Tryz.zeroValue99
  t26:=Tryz.underlying9
  a26:=Tryz.isAgg9
  z26:=Tryz.sizeOf9
  v26:=Tryz.zeroValue9
  t28:=Tryz.underlying102
  a28:=Tryz.isAgg102
  z28:=Tryz.sizeOf102
  v28:=Tryz.zeroValue102
  i26:=by kernel_rfl }
def Tryz.sortS_ren:Go.Shelf.Ren:=⟨fun|6=>61|8=>86|9=>88|19=>107|20=>108|21=>109|22=>110|23=>111|24=>112|25=>113|26=>114|27=>115|28=>116|29=>117|36=>128|31=>123|32=>124|37=>129|38=>130|39=>131|41=>136|n=>n,fun|27=>99|29=>9|3=>3|32=>145|26=>99|0=>0|44=>164|46=>166|4=>4|36=>158|35=>157|41=>149|5=>5|9=>9|53=>179|57=>183|63=>191|64=>192|n=>n,fun|n=>n⟩
theorem Tryz.sortS:Go.Proofs.SlLaysM.n6 Tryz.prog Tryz.sortS_ren:={
  mixed:=by kernel_rfl
  f6:=⟨Tryz.f61.name,by decide,Tryz.func61.trans (congrArg some (by kernel_rfl))⟩
  f8:=Tryz.func86.trans (congrArg some (by kernel_rfl))
  f9:=⟨Tryz.f88.name,by decide,Tryz.func88.trans (congrArg some (by kernel_rfl))⟩
  f19:=Tryz.func107.trans (congrArg some (by kernel_rfl))
  f20:=Tryz.func108.trans (congrArg some (by kernel_rfl))
  f21:=⟨Tryz.f109.name,by decide,Tryz.func109.trans (congrArg some (by kernel_rfl))⟩
  f22:=⟨Tryz.f110.name,by decide,Tryz.func110.trans (congrArg some (by kernel_rfl))⟩
  f23:=⟨Tryz.f111.name,by decide,Tryz.func111.trans (congrArg some (by kernel_rfl))⟩
  f24:=⟨Tryz.f112.name,by decide,Tryz.func112.trans (congrArg some (by kernel_rfl))⟩
  f25:=⟨Tryz.f113.name,by decide,Tryz.func113.trans (congrArg some (by kernel_rfl))⟩
  f26:=⟨Tryz.f114.name,by decide,Tryz.func114.trans (congrArg some (by kernel_rfl))⟩
  f27:=⟨Tryz.f115.name,by decide,Tryz.func115.trans (congrArg some (by kernel_rfl))⟩
  f28:=⟨Tryz.f116.name,by decide,Tryz.func116.trans (congrArg some (by kernel_rfl))⟩
  f29:=⟨Tryz.f117.name,by decide,Tryz.func117.trans (congrArg some (by kernel_rfl))⟩
  f31:=Tryz.func123.trans (congrArg some (by kernel_rfl))
  f32:=Tryz.func124.trans (congrArg some (by kernel_rfl))
  f36:=⟨Tryz.f128.name,by decide,Tryz.func128.trans (congrArg some (by kernel_rfl))⟩
  f37:=⟨Tryz.f129.name,by decide,Tryz.func129.trans (congrArg some (by kernel_rfl))⟩
  f38:=⟨Tryz.f130.name,by decide,Tryz.func130.trans (congrArg some (by kernel_rfl))⟩
  f39:=⟨Tryz.f131.name,by decide,Tryz.func131.trans (congrArg some (by kernel_rfl))⟩
  f41:=⟨Tryz.f136.name,by decide,Tryz.func136.trans (congrArg some (by kernel_rfl))⟩
  t0:=Tryz.underlying0
  a0:=Tryz.isAgg0
  z0:=Tryz.sizeOf0
  v0:=Tryz.zeroValue0
  t3:=Tryz.underlying3
  a3:=Tryz.isAgg3
  z3:=Tryz.sizeOf3
  v3:=Tryz.zeroValue3
  t4:=Tryz.underlying4
  a4:=Tryz.isAgg4
  z4:=Tryz.sizeOf4
  v4:=Tryz.zeroValue4
  t5:=Tryz.underlying5
  a5:=Tryz.isAgg5
  z5:=Tryz.sizeOf5
  v5:=Tryz.zeroValue5
  t9:=Tryz.underlying9
  a9:=Tryz.isAgg9
  z9:=Tryz.sizeOf9
  v9:=Tryz.zeroValue9
  t26:=Tryz.underlying99
  a26:=Tryz.isAgg99
  z26:=Tryz.sizeOf99
  v26:=Tryz.zeroValue99
  t27:=Tryz.underlying99
  a27:=Tryz.isAgg99
  z27:=Tryz.sizeOf99
  v27:=Tryz.zeroValue99
  t29:=Tryz.underlying9
  a29:=Tryz.isAgg9
  z29:=Tryz.sizeOf9
  v29:=Tryz.zeroValue9
  t32:=Tryz.underlying145
  a32:=Tryz.isAgg145
  z32:=Tryz.sizeOf145
  v32:=Tryz.zeroValue145
  t35:=Tryz.underlying157
  a35:=Tryz.isAgg157
  z35:=Tryz.sizeOf157
  v35:=Tryz.zeroValue157
  t36:=Tryz.underlying158
  a36:=Tryz.isAgg158
  z36:=Tryz.sizeOf158
  v36:=Tryz.zeroValue158
  t41:=Tryz.underlying149
  a41:=Tryz.isAgg149
  z41:=Tryz.sizeOf149
  v41:=Tryz.zeroValue149
  t44:=Tryz.underlying164
  a44:=Tryz.isAgg164
  z44:=Tryz.sizeOf164
  v44:=Tryz.zeroValue164
  t46:=Tryz.underlying166
  a46:=Tryz.isAgg166
  z46:=Tryz.sizeOf166
  v46:=Tryz.zeroValue166
  t53:=Tryz.underlying179
  a53:=Tryz.isAgg179
  z53:=Tryz.sizeOf179
  v53:=Tryz.zeroValue179
  t57:=Tryz.underlying183
  a57:=Tryz.isAgg183
  z57:=Tryz.sizeOf183
  v57:=Tryz.zeroValue183
  t63:=Tryz.underlying191
  a63:=Tryz.isAgg191
  z63:=Tryz.sizeOf191
  v63:=Tryz.zeroValue191
  t64:=Tryz.underlying192
  a64:=Tryz.isAgg192
  z64:=Tryz.sizeOf192
  v64:=Tryz.zeroValue192 }
end Go.Proofs
end
namespace Go.Proofs.YtaepnjbceganhaaGreat
section
open Go.RowKit Go.Maps Go.Sort Go.Shelf
theorem LI (m:Nat):AnyZ.SortsIn Tryz.prog Tryz.sortedS_ren Fence.wide m:=
  ⟨fun blk off cap ss W hH hblk hsz=>callsIn_wide.2 (AnyM.slices_Sort_string Tryz.sortS blk off cap ss W hH hblk hsz),
   fun p cap W=>callsIn_wide.2 (AnyM.slices_Sort_string_none Tryz.sortS p cap W)⟩
def yO (bk:Nat):Value:=.func (.func 62) #[] #[.pointer (some ⟨bk,0,none⟩)]
theorem Ix {β:Bs} (mb:Option Nat):Spec Tryz.prog β 33 #[.map mb] [] (fun v l=>∃ bk,v=yO bk/\l=[.blk bk [.map mb] 77]):=
  Spec.Fg fun W _=>by
    have h:CallsIn Fence.wide 5 Tryz.prog 33 #[.map mb] W fun e w'=>e=.returned (yO W.heap.size)/\w'=W.alloc (.cells #[.map mb] 77):=AnyZ.keys_in Tryz.keysS Fence.wide 5 trivial rfl mb W
    refine ((callsIn_wide (n:=5)).1 h).mono ?_
    rintro e w' ⟨rfl,rfl⟩
    refine⟨_,_,rfl,⟨W.heap.size,rfl,rfl⟩,(Keeps.refl _ _).alloc _,fun k=>k=W.heap.size,⟨?_,fun k=>Iff.rfl⟩,fun k hk=>Nat.le_of_eq hk.symm⟩
    show (W.heap.push _)[W.heap.size]?=_
    simp
def nW (es:dS Th):List Value:=es.map (fun e=>.string e.1)
theorem C3 {es:dS Th} (h:iH es):(es.map (fun e=>e.1.data.toList)).Pairwise (· < ·):=by
  refine List.pairwise_map.2 (h.imp (fun {a b} hab=>?_))
  unfold fJ at hab
  have h1:¬ Op.bytesLess b.1.toList a.1.toList=true:=fun e=>hab (by rw [e];rfl)
  have h2:¬ b.1.toList=a.1.toList:=fun e=>hab (by rw [e];simp)
  rw [bytesLess_eq,Lib.toList_data,Lib.toList_data] at h1
  rw [Lib.toList_data,Lib.toList_data] at h2
  by_cases e:a.1.data.toList < b.1.data.toList
  ·exact e
  exfalso
  have e:=List.not_lt.1 e
  rcases List.le_iff_lt_or_eq.1 e with e|e
  ·exact h1 (by simpa using e)
  exact h2 e
theorem Iy {w:World} {b n:Nat} {L:HL} {es:dS Th} {D:DataW Value} (hr:iH es) (hown:w.ownsMap Tryz.prog 9 oC b n D) (hf:∀ kl,Maps.has D kl=(gi L es kl).isSome) {ss:List (List UInt8)} (hp:ss.Perm (strKeys D)) :
    ss.mergeSort (fun x y=>decide (x<=y))=es.map (fun e=>e.1.data.toList):=by
  have hsort:=C3 hr
  obtain⟨es',hD,hpw,_⟩:=hown.entries vV
  obtain⟨Pa,Jj,hko⟩:=hown.keysOf
  obtain rfl:es'=Pa:=by rw [hD] at Jj;simpa using Jj
  have hp2:(es.map (fun e=>e.1.data.toList)).Perm (strKeys D):=by
    rw [hD]
    refine perm_strKeys hpw (fun p hp=>?_) (hsort.imp (fun {a b} h e=>by subst e;exact absurd h (List.lt_irrefl a))) (fun x=>?_)
    ·obtain⟨v,hv⟩:=hko p hp
     obtain⟨x,_,h,_⟩:=keyOf_str Tryz.underlying9 hv
     exact⟨x,h⟩
    rw [← hD,hf]
    show _↔((aP ⟨x.toArray⟩ es).map (dh L)).isSome=true
    rw [Option.isSome_map]
    constructor
    ·intro hx
     obtain⟨e,he,rfl⟩:=List.mem_map.1 hx
     have h1:(⟨e.1.data.toList.toArray⟩:ByteArray)=e.1:=by rw [Array.toArray_toList]
     rw [h1,tU (t:=e.2) (iH.twice hr) he];rfl
    intro hx
    obtain⟨t,ht⟩:=Option.isSome_iff_exists.1 hx
    exact List.mem_map.2 ⟨_,kf ht,by simp⟩
  have h3:=mergeSort_of_perm (hp.trans hp2.symm)
  have h4:(es.map (fun e=>e.1.data.toList)).mergeSort leB=es.map (fun e=>e.1.data.toList):=List.mergeSort_of_pairwise (hsort.imp (fun {a b} h=>by simp only [leB,decide_eq_true_eq];exact List.le_of_lt h))
  exact h3.trans h4
theorem ER {β:Bs} (L:HL) (b bk n:Nat) (es:dS Th) (hr:iH es) (hn:n<=8192) :
    Spec Tryz.prog β 32 #[yO bk] [.abs (aN Tryz.prog 9 b (gi L es) n),.blk bk [.map (some b)] 77] (fun v l=>∃ A cap,v=.slice A es.length cap ∧
      l=[.abs (aN Tryz.prog 9 b (gi L es) n),.blk bk [.map (some b)] 77,.abs (aC 9 1 A es.length cap (nW es))]):=by
  intro R w hS
  obtain⟨F1,h1⟩:=hS.get (i:=0) (p:=.abs (aN Tryz.prog 9 b (gi L es) n)) rfl
  obtain⟨F2,h2⟩:=hS.get (i:=1) (p:=.blk bk [.map (some b)] 77) rfl
  obtain⟨D,hown,hsz,hhas,_⟩:=h1.1
  have hcell:w.cell? ⟨bk,0,none⟩=some (.map (some b)):=(eZ h2.1 rfl rfl rfl).1
  have hseq:SeqGives Fence.wide 2 Tryz.prog 62 #[.pointer (some ⟨bk,0,none⟩)] encStr (fun ss=>ss.Perm (strKeys D)) (Maps.size D) w:=
    AnyZ.keys_gives (ρ:=Tryz.keysS_ren) { Tryz.keysS with } Fence.wide _ trivial rfl (by omega) bk b n D w (lt_of_some h2.1) hcell hown
  have cS:=AnyZ.sorted_in Tryz.sortedS Fence.wide 5 trivial trivial trivial trivial rfl (by omega) (LI _) (enters_of Tryz.func61 (by kernel_rfl) rfl) 62 #[.pointer (some ⟨bk,0,none⟩)] trivial (enters_of Tryz.func62 (by kernel_rfl) rfl)
    (fun ss=>ss.Perm (strKeys D)) (Maps.size D) (by rw [hsz];unfold maxLen;omega) (by rw [hsz];omega) w hseq
  change CallsIn _ _ Tryz.prog 32 _ _ _ at cS
  refine ((callsIn_wide (n:=5)).1 cS).mono ?_
  rintro e w' ⟨v,ss,rfl,hp,hrow,hnil,hb⟩
  have hkeys:=Iy hr hown hhas hp
  have hl2:ss.length=es.length:=by
    have h3:(ss.mergeSort (fun x y=>decide (x<=y))).length=ss.length:=List.length_mergeSort ss
    rw [hkeys,List.length_map] at h3
    exact h3.symm
  rw [hkeys,hl2] at hrow
  have sY:∃ A cap,v=.slice A es.length cap:=by
    rcases hrow.2 with ⟨e1,e2⟩|⟨g,cp,cur,e1,_⟩
    ·exact⟨none,0,by rw [e1,e2]⟩
    exact⟨_,cp,e1⟩
  obtain⟨A,cap,rfl⟩:=sY
  have Pb:(es.map (fun e=>e.1.data.toList)).map encStr=nW es:=by
    rw [List.map_map]
    refine List.map_congr_left (fun e _=>?_)
    show encStr e.1.data.toList=.string e.1
    unfold encStr
    rw [Array.toArray_toList]
  rw [Pb] at hrow
  have hq:Sat β ([.abs (aN Tryz.prog 9 b (gi L es) n),.blk bk [.map (some b)] 77,.abs R]++[.abs (aC 9 1 A es.length cap (nW es))]) w':=by
    refine Sat.new (F:=fun k=>(Value.slice A es.length cap).ownBlock=some k) hS ⟨?_,fun k=>Iff.rfl⟩ ⟨hb.os,hb.tape,hb.output,hb.size,fun k hk _=>hb.block k hk⟩ (fun k hk=>(hrow.lt k hk).1)
    refine⟨hrow.1,?_⟩
    rcases hrow.2 with h|⟨g,cp,cur,e1,_,h3,h4⟩
    ·exact .inl h
    exact .inr ⟨g,cp,cur,e1,Nat.zero_le _,h3,h4⟩
  exact⟨_,[.abs (aN Tryz.prog 9 b (gi L es) n),.blk bk [.map (some b)] 77,.abs (aC 9 1 A es.length cap (nW es))],rfl,⟨A,cap,rfl,rfl⟩,hq.pick (idx:=[0,1,3,2]) rfl rfl⟩
end
section
open Go.RowKit Go.Maps ck aB
theorem DA {ns:List aE} {n:aE} {k:Nat} (h:k < ns.length):nd (ns++[n]) k=nd ns k:=by
  unfold nd;rw [List.getD_eq_getElem?_getD,List.getD_eq_getElem?_getD,List.getElem?_append_left h]
theorem yP {ns:List aE} {n:aE}:nd (ns++[n]) ns.length=n:=by
  unfold nd;rw [List.getD_eq_getElem?_getD,List.getElem?_append_right (Nat.le_refl _)];simp
def Iz:Lay:=⟨fun _=>none,fun _=>none,fun _=>0,fun _=>0⟩
def ij (ns:List aE) (L:Lay) (k:Nat):bY:=aC 81 2 (L.eA k) (nd ns k).ah.length (L.eC k) (fA (nd ns k).ah)
def iq (ns:List aE) (L:Lay) (k:Nat):bY:=aC 5 1 (L.dA k) (nd ns k).data.length (L.dC k) (cA (nd ns k).data)
def Ol (A:Option Addr) (c:Nat) (ns:List aE) (L:Lay):HP:=.abs (aC 55 10 A ns.length c (cI L ns))
def ES (A:Option Addr) (c:Nat) (ns:List aE) (L:Lay):List HP:=[Ol A c ns L,.abs (eM (ij ns L) ns.length),.abs (eM (iq ns L) ns.length)]
theorem og.graph {β β':Bs} {A:Option Addr} {c:Nat} {ns:List aE} {L:Lay} (h:og β (ES A c ns L) β'):au β' A ns L:=by
  obtain⟨F,h1,h2⟩:=h.get 0 rfl
  obtain⟨G,g1,g2⟩:=h.get 1 rfl
  obtain⟨K,k1,k2⟩:=h.get 2 rfl
  exact⟨eF.kZ h1 h2 rfl,
    eM.base k1 k2 rfl (Φ:=fun i b=>cq b (L.dA i) (nd ns i).data) (fun i _ F hF hO=>eF.kZ (show (HP.abs (aC 5 1 (L.dA i) (nd ns i).data.length (L.dC i) (cA (nd ns i).data))).h F _ from hF) hO rfl),
    eM.base g1 g2 rfl (Φ:=fun i b=>cL b (L.eA i) (nd ns i).ah) (fun i _ F hF hO=>eF.kZ (show (HP.abs (aC 81 2 (L.eA i) (nd ns i).ah.length (L.eC i) (fA (nd ns i).ah))).h F _ from hF) hO rfl)⟩
theorem C4 {L:Lay} {ns:List aE} {n:aE} {dA eA:Option Addr} {dC eC:Nat}:cI L ns++[.int .i64 n.id,.int .i64 n.kind,.int .i64 n.mode,.int .i64 n.uid,.int .i64 n.gid,.int .i64 n.sec,.int .i64 n.nano,.slice dA n.data.length dC,.string n.target,.slice eA n.ah.length eC]=cI (L.put ns.length dA dC eA eC) (ns++[n]):=by
  have h:=wL (ns:=ns++[n]) (L:=L) (k:=ns.length) (by simp) dA dC eA eC
  rw [yP,List.take_left,List.take_of_length_le (by simp)] at h
  exact h
theorem zE {ns:List aE} {L:Lay} {n:aE} {dA eA:Option Addr} {dC eC:Nat}:(∀ x,x < ns.length->iq (ns++[n]) (L.put ns.length dA dC eA eC) x=iq ns L x)/\iq (ns++[n]) (L.put ns.length dA dC eA eC) ns.length=aC 5 1 dA n.data.length dC (cA n.data):=by
  refine⟨fun x hx=>?_,?_⟩
  ·unfold iq Lay.put
   rw [DA hx]
   have:¬ x=ns.length:=by omega
   simp [this]
  unfold iq Lay.put
  rw [yP]
  simp
theorem zF {ns:List aE} {L:Lay} {n:aE} {dA eA:Option Addr} {dC eC:Nat}:(∀ x,x < ns.length->ij (ns++[n]) (L.put ns.length dA dC eA eC) x=ij ns L x)/\ij (ns++[n]) (L.put ns.length dA dC eA eC) ns.length=aC 81 2 eA n.ah.length eC (fA n.ah):=by
  refine⟨fun x hx=>?_,?_⟩
  ·unfold ij Lay.put
   rw [DA hx]
   have:¬ x=ns.length:=by omega
   simp [this]
  unfold ij Lay.put
  rw [yP]
  simp
def jv (O:bO) (e:ByteArray×Th):gV:=⟨e.1,(obj O e.2.k).id⟩
def qA (O:bO) (id:Int) (t:Th):aE:=⟨id,t.kind,(obj O t.k).mode,(obj O t.k).uid,(obj O t.k).gid,(obj O t.k).sec,(obj O t.k).nano,(obj O t.k).data,(obj O t.k).target,(obj O t.k).ah.map (jv O)⟩
def aI (S:aH):List aE:=S.idx.map (fun p=>qA S.O p.1 p.2)
theorem mD {S:aH}:(aI S).length=S.idx.length:=List.length_map ..
def jW (S:aH) (i:Nat):Th:=(S.idx.getD i (0,⟨0,0⟩)).2
def cD (S:aH) (i:Nat):Int:=(S.idx.getD i (0,⟨0,0⟩)).1
section at_
variable {S:aH} {i:Nat}
theorem xH (hi:i < S.idx.length):S.idx[i]?=some (cD S i,jW S i):=by
  unfold cD jW
  rw [List.getD_eq_getElem?_getD,List.getElem?_eq_getElem hi];rfl
theorem get_at (h:Inv0 S) (hi:i < S.idx.length):aB.get S.idx (cD S i)=some (jW S i):=lZ h.rise (List.mem_of_getElem? (xH hi))
theorem DB (h:Inv0 S) (hi:i < S.idx.length):Live S.idx (jW S i)/\cD S i=((jW S i).k:Int):=⟨h.live (get_at h hi),h.key (get_at h hi)⟩
theorem LJ (hi:i < S.idx.length):(keys S.idx)[i]?=some (cD S i):=by
  unfold keys
  rw [List.getElem?_map,xH hi];rfl
theorem sx (hi:i < S.idx.length):(aI S).take (i+1)=(aI S).take i++[qA S.O (cD S i) (jW S i)]:=by
  rw [List.take_add_one]
  congr 1
  unfold aI
  rw [List.getElem?_map,xH hi];rfl
theorem dg (hi:i<=S.idx.length):((aI S).take i).length=i:=by rw [List.length_take,mD];omega
end at_
section sat
variable {β:Bs} {l l':List HP} {w:World} {i j k:Nat} {O:bO} {L:HL} {ix:List Nat}
theorem Sat.LK (h:Sat β l w) (hp:l[i]?=some (.abs (ay (kV (bq O L) k bY.none)))) (hq:l[j]?=some (.abs (aC 5 1 (L.dA k) (obj O k).data.length (L.dC k) (cA (obj O k).data)))) (hd:aZ (i::j::ix)=true) (hl:bF l ix=some l') (h2:(obj O k).kind=1):Sat β (.abs (ay (bq O L))::l') w:=
  h.oJ hp hq (fun _ _ h=>h) hd hl k (fun _ hx=>(lX hx).symm) (pN h2)
end sat
theorem ET {es:List gV} {e:gV}:fA es++[.string e.name,.int .i64 e.id]=fA (es++[e]):=(rO e es 0).symm
section grow
variable {ns G':List aE} {n:aE} {L:Lay} {i dn en:Nat} {dA eA:Option Addr} {dC eC:Nat}
theorem sy (hl:ns.length=i) (hG:G'=ns++[n]) (hd:n.data.length=dn) (he:n.ah.length=en):cI L ns++[.int .i64 n.id,.int .i64 n.kind,.int .i64 n.mode,.int .i64 n.uid,.int .i64 n.gid,.int .i64 n.sec,.int .i64 n.nano,.slice dA dn dC,.string n.target,.slice eA en eC]=cI (L.put i dA dC eA eC) G':=by
  subst hl hG hd he;exact C4
theorem wv (hl:ns.length=i) (hG:G'=ns++[n]):∀ x,x < i->iq G' (L.put i dA dC eA eC) x=iq ns L x:=by
  subst hl hG;exact zE.1
theorem um (hl:ns.length=i) (hG:G'=ns++[n]) (hd:n.data.length=dn):iq G' (L.put i dA dC eA eC) i=aC 5 1 dA dn dC (cA n.data):=by
  subst hl hG hd;exact zE.2
theorem wz (hl:ns.length=i) (hG:G'=ns++[n]):∀ x,x < i->ij G' (L.put i dA dC eA eC) x=ij ns L x:=by
  subst hl hG;exact zF.1
theorem uo (hl:ns.length=i) (hG:G'=ns++[n]) (he:n.ah.length=en):ij G' (L.put i dA dC eA eC) i=aC 81 2 eA en eC (fA n.ah):=by
  subst hl hG he;exact zF.2
end grow
section more
variable {S:aH} {i j k:Nat}
theorem MX (h:Inv0 S) (hi:i < S.idx.length):(∃ k,jW S i=⟨k,1⟩/\Live S.idx ⟨k,1⟩)\/(∃ k,jW S i=⟨k,2⟩/\Live S.idx ⟨k,2⟩)\/∃ k,jW S i=⟨k,3⟩/\Live S.idx ⟨k,3⟩:=by
  have h1:=(DB h hi).1
  generalize jW S i=t at h1 ⊢
  obtain⟨k,kd⟩:=t
  rcases (h.ob _ h1).2.2 with e|e|e<;>simp only at e<;>subst e
  ·exact .inl ⟨k,rfl,h1⟩
  ·exact .inr (.inl ⟨k,rfl,h1⟩)
  exact .inr (.inr ⟨k,rfl,h1⟩)
theorem yQ (h:Inv0 S) (hi:i < S.idx.length):(Lit.int .i64 (cD S i)).wf=true:=by
  have h1:=h.idx _ _ (get_at h hi)
  have h2:=h.last
  exact WalkArith.wf_i64 (by omega)
theorem IB (hi:i < S.idx.length):(ints (keys S.idx))[i * 1+0]?=some (.int .i64 (cD S i)):=by
  rw [Nat.mul_one,Nat.add_zero]
  unfold ints
  rw [List.getElem?_map,LJ hi];rfl
theorem Cb (h:Inv0 S) {t:Th} (hl:Live S.idx t) (hk:t.kind≠3):(obj S.O t.k).target=⟨#[]⟩:=by
  rcases (h.mt t hl).target with e|e
  ·exact e.2
  exact absurd (h.kind hl ▸ e.1) hk
theorem nX (h:Inv0 S) (hi:i < S.idx.length) (jE:jW S i=⟨k,1⟩) (hl:Live S.idx ⟨k,1⟩):(aI S).take (i+1)=(aI S).take i++[⟨cD S i,1,(obj S.O k).mode,(obj S.O k).uid,(obj S.O k).gid,(obj S.O k).sec,(obj S.O k).nano,(obj S.O k).data,⟨#[]⟩,[]⟩]:=by
  rw [sx hi,jE]
  unfold qA
  rw [show (obj S.O k).target=⟨#[]⟩ from Cb h hl (by simp),show (obj S.O k).ah=[] from (h.mt _ hl).ah (by rw [h.kind hl];simp)];rfl
theorem nY (h:Inv0 S) (hi:i < S.idx.length) (jE:jW S i=⟨k,3⟩) (hl:Live S.idx ⟨k,3⟩):(aI S).take (i+1)=(aI S).take i++[⟨cD S i,3,(obj S.O k).mode,(obj S.O k).uid,(obj S.O k).gid,(obj S.O k).sec,(obj S.O k).nano,[],(obj S.O k).target,[]⟩]:=by
  rw [sx hi,jE]
  unfold qA
  rw [show (obj S.O k).data=[] from (h.mt _ hl).data (by rw [h.kind hl];simp),show (obj S.O k).ah=[] from (h.mt _ hl).ah (by rw [h.kind hl];simp)];rfl
theorem p6 (h:Inv0 S) (hi:i < S.idx.length) (jE:jW S i=⟨k,2⟩) (hl:Live S.idx ⟨k,2⟩):(aI S).take (i+1)=(aI S).take i++[⟨cD S i,2,(obj S.O k).mode,(obj S.O k).uid,(obj S.O k).gid,(obj S.O k).sec,(obj S.O k).nano,[],⟨#[]⟩,(obj S.O k).ah.map (jv S.O)⟩]:=by
  rw [sx hi,jE]
  unfold qA
  rw [show (obj S.O k).target=⟨#[]⟩ from Cb h hl (by simp),show (obj S.O k).data=[] from (h.mt _ hl).data (by rw [h.kind hl];simp)]
def dU (es:dS Th) (j:Nat):ByteArray:=(es.getD j (⟨#[]⟩,⟨0,0⟩)).1
def wA (es:dS Th) (j:Nat):Th:=(es.getD j (⟨#[]⟩,⟨0,0⟩)).2
theorem EU {es:dS Th} (hj:j < es.length):es[j]?=some (dU es j,wA es j):=by
  unfold dU wA
  rw [List.getD_eq_getElem?_getD,List.getElem?_eq_getElem hj];rfl
theorem EV {es:dS Th} (hj:j < es.length):(nW es)[j * 1+0]?=some (.string (dU es j)):=by
  rw [Nat.mul_one,Nat.add_zero]
  unfold nW
  rw [List.getElem?_map,EU hj];rfl
theorem Om (h:Inv0 S) {t:Th} (hl:Live S.idx t) (hj:j < (obj S.O t.k).ah.length):bI (dU (obj S.O t.k).ah j)/\((∃ k,aP (dU (obj S.O t.k).ah j) (obj S.O t.k).ah=some ⟨k,1⟩/\Live S.idx ⟨k,1⟩/\wA (obj S.O t.k).ah j=⟨k,1⟩)\/(∃ k,aP (dU (obj S.O t.k).ah j) (obj S.O t.k).ah=some ⟨k,2⟩/\Live S.idx ⟨k,2⟩/\wA (obj S.O t.k).ah j=⟨k,2⟩)\/∃ k,aP (dU (obj S.O t.k).ah j) (obj S.O t.k).ah=some ⟨k,3⟩/\Live S.idx ⟨k,3⟩/\wA (obj S.O t.k).ah j=⟨k,3⟩):=by
  have hm:=List.mem_of_getElem? (EU hj)
  have h1:=h.ah t hl _ hm
  have h2:=tU (h.twice hl) hm
  refine⟨h1.1,?_⟩
  have h3:=h1.2
  generalize wA (obj S.O t.k).ah j=u at h2 h3 ⊢
  obtain⟨k,kd⟩:=u
  rcases (h.ob _ h3).2.2 with e|e|e<;>simp only at e<;>subst e
  ·exact .inl ⟨k,h2,h3,rfl⟩
  ·exact .inr (.inl ⟨k,h2,h3,rfl⟩)
  exact .inr (.inr ⟨k,h2,h3,rfl⟩)
theorem uq {O:bO} {es:dS Th} {kd:Int} (hj:j < es.length) (he:wA es j=⟨k,kd⟩):fA ((es.take j).map (jv O))++[.string (dU es j),.int .i64 (obj O k).id]=fA ((es.take (j+1)).map (jv O)):=by
  rw [List.take_add_one,EU hj,he,List.map_append]
  exact ET (es:=(es.take j).map (jv O)) (e:=⟨dU es j,(obj O k).id⟩)
end more
theorem og.bytes {β β':Bs} {A:Option Addr} {n c:Nat} {d:List UInt8} (h:og β [.abs (aC 5 1 A n c (cA d))] β'):cq β' A d:=by
  obtain⟨F,h1,h2⟩:=h.get 0 rfl
  exact eF.kZ h1 h2 rfl
end
section
open Go.RowKit
section order
variable {P:Program} {ops:Array Oper} {Q Q':Post} {n:Nat} {S:World->Prop}
inductive p8
  | one (i:Nat)
  | two (i j:Nat)
  | three (i k j:Nat)
  | perm (G:List Nat)
  | beside (c:List Nat) (j:Nat)
def Cc (P:Program) (ops:Array Oper) (Q:Post) (S:World->Prop) (K:Act->World->Prop):Nat->List Nat->Act->World->Prop
  | 0,_,a,w=>K a w
  | n+1,G,a,w=>∀ i∈G,wpOp P ops Q i (fun a' w'=>S w'/\Cc P ops Q S K n (G.erase i) a' w') a w
def Ad (ops:Array Oper) (f:Array Bool->Bool):Nat->List Nat->Array Bool->Bool
  | 0,_,listed=>f listed
  | n+1,G,listed=>(Region.ready .any ops listed == G) && !G.isEmpty && G.all (fun i=>Ad ops f n (G.erase i) (listed.setIfInBounds i true))
def Af (P:Program) (ops:Array Oper) (Q:Post) (S:World->Prop) (K:Act->World->Prop):List Nat->Act->World->Prop
  | [],a,w=>K a w
  | i::c,a,w=>wpOp P ops Q i (fun a' w'=>S w'/\Af P ops Q S K c a' w') a w
def sA (P:Program) (ops:Array Oper) (Q:Post) (S:World->Prop) (K:Act->World->Prop) (j:Nat):List Nat->Act->World->Prop
  | [],a,w=>wpOp P ops Q j (fun a' w'=>S w'/\K a' w') a w
  | i::c,a,w=>wpOp P ops Q i (fun a' w'=>S w'/\sA P ops Q S K j c a' w') a w/\wpOp P ops Q j (fun a' w'=>S w'/\Af P ops Q S K (i::c) a' w') a w
def seqB (ops:Array Oper) (f:Array Bool->Bool):List Nat->Array Bool->Bool
  | [],listed=>f listed
  | i::c,listed=>(Region.ready .any ops listed == [i]) && seqB ops f c (listed.setIfInBounds i true)
def rI (ops:Array Oper) (f:Array Bool->Bool) (j:Nat):List Nat->Array Bool->Bool
  | [],listed=>(Region.ready .any ops listed == [j]) && f (listed.setIfInBounds j true)
  | i::c,listed=>(Region.ready .any ops listed == (if i < j then [i,j] else [j,i])) && rI ops f j c (listed.setIfInBounds i true) && seqB ops f (i::c) (listed.setIfInBounds j true)
def jO (P:Program) (ops:Array Oper) (Q:Post) (S:World->Prop):List p8->Act->World->Prop
  | [],a,w=>Q .normal a w
  | .one i::l,a,w=>wpOp P ops Q i (fun a' w'=>(l=[]\/S w')/\jO P ops Q S l a' w') a w
  | .two i j::l,a,w=>
    wpOp P ops Q i (fun a' w'=>S w'/\wpOp P ops Q j (fun a2 w2=>S w2/\jO P ops Q S l a2 w2) a' w') a w ∧
    wpOp P ops Q j (fun a' w'=>S w'/\wpOp P ops Q i (fun a2 w2=>S w2/\jO P ops Q S l a2 w2) a' w') a w
  | .three i k j::l,a,w=>
    wpOp P ops Q i (fun a1 w1=>S w1/\wpOp P ops Q k (fun a2 w2=>S w2/\wpOp P ops Q j (fun a3 w3=>S w3/\jO P ops Q S l a3 w3) a2 w2) a1 w1 ∧
      wpOp P ops Q j (fun a2 w2=>S w2/\wpOp P ops Q k (fun a3 w3=>S w3/\jO P ops Q S l a3 w3) a2 w2) a1 w1) a w ∧
    wpOp P ops Q j (fun a1 w1=>S w1/\wpOp P ops Q i (fun a2 w2=>S w2/\wpOp P ops Q k (fun a3 w3=>S w3/\jO P ops Q S l a3 w3) a2 w2) a1 w1) a w
  | .perm G::l,a,w=>Cc P ops Q S (jO P ops Q S l) G.length G a w
  | .beside c j::l,a,w=>sA P ops Q S (jO P ops Q S l) j c a w
def qU (ops:Array Oper) (n:Nat):List p8->Array Bool->Bool
  | [],listed=>(Region.ready .any ops listed).isEmpty
  | .one i::l,listed=>(Region.ready .any ops listed == [i]) && (!l.isEmpty || i == n) && qU ops n l (listed.setIfInBounds i true)
  | .two i j::l,listed=>(Region.ready .any ops listed == [i,j]) && (Region.ready .any ops (listed.setIfInBounds i true) == [j]) && (Region.ready .any ops (listed.setIfInBounds j true) == [i]) && decide (i≠j) && qU ops n l ((listed.setIfInBounds i true).setIfInBounds j true)
  | .three i k j::l,listed=>(Region.ready .any ops listed == [i,j]) && (Region.ready .any ops (listed.setIfInBounds i true) == [k,j]) && (Region.ready .any ops ((listed.setIfInBounds i true).setIfInBounds k true) == [j]) && (Region.ready .any ops ((listed.setIfInBounds i true).setIfInBounds j true) == [k]) &&
    (Region.ready .any ops (listed.setIfInBounds j true) == [i]) && decide (i≠j) && decide (k≠j) && qU ops n l (((listed.setIfInBounds i true).setIfInBounds k true).setIfInBounds j true)
  | .perm G::l,listed=>Ad ops (qU ops n l) G.length G listed
  | .beside c j::l,listed=>rI ops (qU ops n l) j c listed
def oq:List p8->Nat
  | []=>0
  | .one _::l=>oq l+1
  | .two _ _::l=>oq l+2
  | .three _ _ _::l=>oq l+3
  | .perm G::l=>oq l+G.length
  | .beside c _::l=>oq l+(c.length+1)
theorem zG {m i:Nat} {listed:Array Bool} {a:Act} {w:World} (hr:Region.ready .any ops listed=[i]) (h:wpOp P ops (NP Q) i (fun a' w'=>S w'/\fN P ops (NP Q) n S m (listed.setIfInBounds i true) a' w') a w):fN P ops (NP Q) n S (m+1) listed a w:=by
  refine⟨fun h0=>(by rw [hr] at h0;cases h0),fun y hy=>?_⟩
  rw [hr] at hy
  have hy:y=i:=by simpa using hy
  subst hy
  exact wpOp_mono (fun a' w' h=>⟨.inr h.1,h.2⟩) h
theorem DC {K:Act->World->Prop} {f:Array Bool->Bool} {m:Nat} (hK:∀ listed a w,f listed=true->K a w->fN P ops (NP Q) n S m listed a w):∀ (c:List Nat) (listed:Array Bool) (a:Act) (w:World),seqB ops f c listed=true->Af P ops (NP Q) S K c a w->fN P ops (NP Q) n S (m+c.length) listed a w
  | [],listed,a,w,hb,h=>hK listed a w hb h
  | i::c,listed,a,w,hb,h=>by
    unfold seqB at hb
    simp only [Bool.and_eq_true,beq_iff_eq] at hb
    exact zG hb.1 (wpOp_mono (fun a' w' g=>⟨g.1,DC hK c _ a' w' hb.2 g.2⟩) h)
theorem xI {K:Act->World->Prop} {f:Array Bool->Bool} {m j:Nat} (hK:∀ listed a w,f listed=true->K a w->fN P ops (NP Q) n S m listed a w):∀ (c:List Nat) (listed:Array Bool) (a:Act) (w:World),rI ops f j c listed=true->sA P ops (NP Q) S K j c a w->fN P ops (NP Q) n S (m+(c.length+1)) listed a w
  | [],listed,a,w,hb,h=>by
    unfold rI at hb
    simp only [Bool.and_eq_true,beq_iff_eq] at hb
    exact zG hb.1 (wpOp_mono (fun a' w' g=>⟨g.1,hK _ a' w' hb.2 g.2⟩) h)
  | i::c,listed,a,w,hb,h=>by
    unfold rI at hb
    simp only [Bool.and_eq_true,beq_iff_eq] at hb
    obtain⟨⟨h1,h2⟩,h3⟩:=hb
    refine⟨fun h0=>(by rw [h1] at h0;split at h0<;>cases h0),fun y hy=>?_⟩
    rw [h1] at hy
    have hy:y=i\/y=j:=by
      split at hy
      ·simpa using hy
      have:y=j\/y=i:=by simpa using hy
      exact this.symm
    rcases hy with rfl|rfl
    ·exact wpOp_mono (fun a' w' g=>⟨.inr g.1,xI hK c _ a' w' h2 g.2⟩) h.1
    exact wpOp_mono (fun a' w' g=>⟨.inr g.1,DC hK (i::c) _ a' w' h3 g.2⟩) h.2
theorem Cd {K:Act->World->Prop} {f:Array Bool->Bool} {m:Nat} (hK:∀ listed a w,f listed=true->K a w->fN P ops (NP Q) n S m listed a w):∀ (k:Nat) (G:List Nat) (listed:Array Bool) (a:Act) (w:World),Ad ops f k G listed=true->Cc P ops (NP Q) S K k G a w->fN P ops (NP Q) n S (m+k) listed a w
  | 0,G,listed,a,w,hb,h=>hK listed a w hb h
  | k+1,G,listed,a,w,hb,h=>by
    unfold Ad at hb
    simp only [Bool.and_eq_true,beq_iff_eq] at hb
    obtain⟨⟨h1,h2⟩,h3⟩:=hb
    refine⟨fun h0=>(by rw [h1] at h0;rw [h0] at h2;cases h2),fun j hj=>?_⟩
    rw [h1] at hj
    exact wpOp_mono (fun a' w' g=>⟨.inr g.1,Cd hK k (G.erase j) _ a' w' (List.all_eq_true.1 h3 j hj) g.2⟩) (h j hj)
theorem kR:∀ (l:List p8) (listed:Array Bool) (a:Act) (w:World),qU ops n l listed=true->jO P ops (NP Q) S l a w->fN P ops (NP Q) n S (oq l) listed a w
  | [],listed,a,w,hb,h=>⟨List.isEmpty_iff.1 hb,h⟩
  | .one i::l,listed,a,w,hb,h=>by
    unfold qU at hb
    simp only [Bool.and_eq_true,beq_iff_eq] at hb
    obtain⟨⟨h1,h2⟩,h3⟩:=hb
    refine⟨fun h0=>(by rw [h1] at h0;cases h0),fun j hj=>?_⟩
    rw [h1] at hj
    have hj:j=i:=by simpa using hj
    subst hj
    refine wpOp_mono (fun a' w' h4=>⟨?_,kR l _ a' w' h3 h4.2⟩) h
    rcases h4.1 with h5|h5
    ·subst h5;exact .inl (by simpa using h2)
    exact .inr h5
  | .two i j::l,listed,a,w,hb,h=>by
    unfold qU at hb
    simp only [Bool.and_eq_true,beq_iff_eq,decide_eq_true_iff] at hb
    obtain⟨⟨⟨⟨h1,h2⟩,h3⟩,hij⟩,h4⟩:=hb
    refine⟨fun h0=>(by rw [h1] at h0;cases h0),fun k hk=>?_⟩
    rw [h1] at hk
    have hk:k=i\/k=j:=by simpa using hk
    rcases hk with rfl|rfl
    ·refine wpOp_mono (fun a' w' h5=>⟨.inr h5.1,fun h0=>(by rw [h2] at h0;cases h0),fun k' hk'=>?_⟩) h.1
     rw [h2] at hk'
     have hk':k'=j:=by simpa using hk'
     subst hk'
     exact wpOp_mono (fun a2 w2 h6=>⟨.inr h6.1,kR l _ a2 w2 h4 h6.2⟩) h5.2
    refine wpOp_mono (fun a' w' h5=>⟨.inr h5.1,fun h0=>(by rw [h3] at h0;cases h0),fun k' hk'=>?_⟩) h.2
    rw [h3] at hk'
    have hk':k'=i:=by simpa using hk'
    subst hk'
    refine wpOp_mono (fun a2 w2 h6=>⟨.inr h6.1,?_⟩) h5.2
    rw [Array.setIfInBounds_comm _ _ (fun e=>hij e.symm)]
    exact kR l _ a2 w2 h4 h6.2
  | .three i k j::l,listed,a,w,hb,h=>by
    unfold qU at hb
    simp only [Bool.and_eq_true,beq_iff_eq,decide_eq_true_iff] at hb
    obtain⟨⟨⟨⟨⟨⟨⟨h1,h2⟩,h3⟩,h4⟩,h5⟩,hij⟩,hkj⟩,h6⟩:=hb
    have one:∀ {x:Nat} {ls:Array Bool} {fuel:Nat} {a:Act} {w:World},Region.ready .any ops ls=[x]->wpOp P ops (NP Q) x (fun a' w'=>S w'/\fN P ops (NP Q) n S fuel (ls.setIfInBounds x true) a' w') a w->fN P ops (NP Q) n S (fuel+1) ls a w:=fun {x ls fuel a w} hr hx=>by
      refine⟨fun h0=>(by rw [hr] at h0;cases h0),fun y hy=>?_⟩
      rw [hr] at hy
      have hy:y=x:=by simpa using hy
      subst hy
      exact wpOp_mono (fun a' w' h=>⟨.inr h.1,h.2⟩) hx
    have e1:(((listed.setIfInBounds i true).setIfInBounds j true).setIfInBounds k true)=(((listed.setIfInBounds i true).setIfInBounds k true).setIfInBounds j true):=Array.setIfInBounds_comm _ _ (fun e=>hkj e.symm)
    have e2:((listed.setIfInBounds j true).setIfInBounds i true)=((listed.setIfInBounds i true).setIfInBounds j true):=Array.setIfInBounds_comm _ _ (fun e=>hij e.symm)
    refine⟨fun h0=>(by rw [h1] at h0;cases h0),fun x hx=>?_⟩
    rw [h1] at hx
    have hx:x=i\/x=j:=by simpa using hx
    rcases hx with rfl|rfl
    ·refine wpOp_mono (fun a1 w1 g=>⟨.inr g.1,fun h0=>(by rw [h2] at h0;cases h0),fun y hy=>?_⟩) h.1
     rw [h2] at hy
     have hy:y=k\/y=j:=by simpa using hy
     rcases hy with rfl|rfl
     ·exact wpOp_mono (fun a2 w2 g2=>⟨.inr g2.1,one h3 (wpOp_mono (fun a3 w3 g3=>⟨g3.1,kR l _ a3 w3 h6 g3.2⟩) g2.2)⟩) g.2.1
     exact wpOp_mono (fun a2 w2 g2=>⟨.inr g2.1,one h4 (wpOp_mono (fun a3 w3 g3=>⟨g3.1,by rw [e1];exact kR l _ a3 w3 h6 g3.2⟩) g2.2)⟩) g.2.2
    refine wpOp_mono (fun a1 w1 g=>⟨.inr g.1,one h5 (wpOp_mono (fun a2 w2 g2=>⟨g2.1,?_⟩) g.2)⟩) h.2
    rw [e2]
    exact one h4 (wpOp_mono (fun a3 w3 g3=>⟨g3.1,by rw [e1];exact kR l _ a3 w3 h6 g3.2⟩) g2.2)
  | .perm G::l,listed,a,w,hb,h=>Cd (m:=oq l) (fun ls a w hb h=>kR l ls a w hb h) G.length G listed a w hb h
  | .beside c j::l,listed,a,w,hb,h=>xI (m:=oq l) (fun ls a w hb h=>kR l ls a w hb h) c listed a w hb h
def mE (P:Program) (ops:Array Oper) (Q:Post) (S:World->Prop) (es:List p8):List Nat->Act->World->Prop
  | [],a,w=>jO P ops Q S es a w
  | i::l,a,w=>∃ o v,ops[i]?=some o/\YieldsIf P ops S o v a/\mE P ops Q S es l (a.put o.dst v) w
def Ag (ops:Array Oper) (n:Nat) (es:List p8):List Nat->Array Bool->Bool
  | [],listed=>qU ops n es listed
  | i::l,listed=>decide (i < n) && Region.free .any ops listed i && (Region.ready .any ops listed).contains i && Ag ops n es l (listed.setIfInBounds i true)
theorem Ce {es:List p8} (hsel:Region.noSelect ops=true) (mq:Region.sinkB .any ops n=true):∀ (l:List Nat) (listed:Array Bool) (a:Act) (w:World),Ag ops n es l listed=true->Closed ops listed->S w->mE P ops (NP Q) S es l a w->fN P ops (NP Q) n S (l.length+oq es) listed a w
  | [],listed,a,w,hb,_,_,h=>by
    rw [List.length_nil,Nat.zero_add]
    exact kR es listed a w hb h
  | i::l,listed,a,w,hb,hc,hS,h=>by
    unfold Ag at hb
    simp only [Bool.and_eq_true,decide_eq_true_iff] at hb
    obtain⟨⟨⟨h1,h2⟩,h3⟩,h4⟩:=hb
    obtain⟨o,v,ho,hy,hk⟩:=h
    have hr:i∈Region.ready .any ops listed:=by simpa using h3
    have e:(i::l).length+oq es=(l.length+oq es)+1:=by rw [List.length_cons];omega
    rw [e]
    exact pH ho hsel mq h1 _ listed a w hc (Region.free_spec ho h2) hr hy hS (Ce hsel mq l _ _ w h4 (hc.set hr) hS hk)
def DE (ops:Array Oper) (rs:List Nat) (es:List p8):Bool:=
  Region.noSelect ops && Region.sinkB .any ops (ops.size - 1) && (rs.length+oq es == ops.size) && Ag ops (ops.size - 1) es rs (Array.replicate ops.size false)
end order
section mix
variable {P:Program} {β:Bs} {N:Nat} {ops:Array Oper} {S:List HP} {rs:List Nat} {es:List p8} {fr fr':Fr} {hps:List HP} {Q:Post} {bw:List Prop} {i j:Nat}
def fL (P:Program) (β:Bs) (N:Nat) (ops:Array Oper) (S:List HP) (es:List p8) (rs:List Nat) (fr:Fr) (hps:List HP) (Q:Post):Prop:=
  ∀ junk w,Sat β hps w->mE P ops (NP Q) (Sat β S) es rs (bM N fr junk) w
theorem af.mF {id:Nat} (rs:List Nat) (es:List p8) (pk:List Nat) (hm:P.follows .mixedOrders=true) (hB:DE ops rs es=true) (hn:aZ pk=true) (hp:bF hps pk=some S) (h:fL P β N ops S es rs fr hps Q):af P β N (.region id ops true) fr hps Q:=by
  intro junk w hS
  unfold DE at hB
  simp only [Bool.and_eq_true,beq_iff_eq] at hB
  obtain⟨⟨⟨h1,h2⟩,h3⟩,h4⟩:=hB
  have di:=hS.drewN 1
  have h5:=Ce (Q:=Q) h1 h2 rs _ _ _ h4 (fun j oj _ hl=>by simp [Array.getD_eq_getD_getElem?,Array.getElem?_replicate] at hl;split at hl<;>simp at hl) (di.pick hn hp) (h junk (w.drewN 1) di)
  rw [h3] at h5
  refine Code.wp_mono (fun e a w q=>?_) (wp_region_any hm (mo _ _ _ _ h5))
  cases e with
  | normal=>exact q
  | exit id=>exact q.elim
  | goto l=>exact q.elim
  | ret=>exact q.elim
  | panic ch=>exact q.elim
  | outgrown=>exact q.elim
theorem sQ {junk:Nat->Value} {w:World}:∀ {hs:List OH} {is:List Nat} {fr fr':Fr} {T T':SS},nL P β N junk ops hs is fr T=some (fr',T')->(∀ p,p∈T'.bw->p)->T.used=true->T.hps=S →
    mE P ops (NP Q) (Sat β S) es rs (bM N fr' junk) w->mE P ops (NP Q) (Sat β S) es (is++rs) (bM N fr junk) w
  | [],[],fr,fr',T,T',h,ho,hu,hT,hK=>by cases h;exact hK
  | h::hs,i::is,fr,fr',T,T',hr,ho,hu,hT,hK=>by
    unfold nL at hr
    repeat' split at hr
    all_goals first|(cases hr;done)|skip
    rename_i o hget _ Ay _ v T1 h0 _ hv
    obtain⟨e1,e2⟩:=qW h0
    rw [List.cons_append]
    unfold mE
    refine⟨o,v,hget,.inl ⟨by unfold Region.wanted;rw [Ay],fun w' di=>?_⟩,?_⟩
    ·rw [dH]
     obtain⟨w2,h1,_,_,h4⟩:=kF h0 (fun p hp=>ho p (rR hr p hp)) (by rw [hT];exact di) (fun e=>by rw [hu] at e;cases e)
     obtain⟨ew,_⟩:=h4 rfl
     rw [ew] at h1
     rcases h1 with h1|⟨h1,_⟩
     ·exact h1
     exact absurd h1 (qo hv)
    rw [dF]
    exact sQ hr ho (e2.trans hu) (e1.trans hT) hK
  | [],_::_,_,_,_,_,h,_,_,_,_=>by cases h
  | _::_,[],_,_,_,_,h,_,_,_,_=>by cases h
theorem fL.reads (is:List Nat) (hs:List OH) (idx:List Nat) (h:∀ junk,oY P β N junk ops hs is fr S idx=some (fr',bw)) (ho:iZ bw) (K:fL P β N ops S es rs fr' hps Q):fL P β N ops S es (is++rs) fr hps Q:=by
  intro junk w hS
  have h0:=h junk
  unfold oY at h0
  split at h0
  ·rename_i jZ S1 h1
   cases h0
   have hK:=K (lk jZ junk) w hS
   rw [← iY] at hK
   exact sQ h1 (fun p hp=>ho.mem hp) rfl rfl hK
  cases h0
theorem gP (mK:Fr) (is:List Nat) (os:List (Nat×OP)) (K:fL P β N ops S es [] mK hps Q)
    (h:∀ junk,oY P β N junk ops (iB (fK is.length os 0)) is fr S (bE mK)=some (mK,owed (fK is.length os 0)):=by intro _;kernel_rfl):fL P β N ops S es (is++[]) fr hps Q:=
  fL.reads is (iB (fK is.length os 0)) (bE mK) h (mU _) K
theorem fL.pair {ι LM LO:Type} {Gt:LM->Fr} {hpi:LM->List HP} {Gu:LO->Fr} {Gv:LO->List HP} {fr':ι->Fr} {hp':ι->List HP} {oi oj:Oper} (Nx Ny pk:List Nat)
    (hi:ops[i]?=some oi) (JK:oi.guard=none) (hj:ops[j]?=some oj) (Nz:oj.guard=none)
    (h1:ak P β N #[oi] 0 fr hps (NP (lT β N Gt hpi))) (h2:∀ a,ak P β N #[oj] 0 (Gt a) (hpi a) (NP (lT β N fr' hp')))
    (h3:ak P β N #[oj] 0 fr hps (NP (lT β N Gu Gv))) (h4:∀ a,ak P β N #[oi] 0 (Gu a) (Gv a) (NP (lT β N fr' hp')))
    (hni:aZ Nx=true) (Oo:∀ a,bF (hpi a) Nx=some S) (Pc:aZ Ny=true) (Oq:∀ a,bF (Gv a) Ny=some S) (hn:aZ pk=true) (hp:∀ a,bF (hp' a) pk=some S)
    (K:∀ a,fL P β N ops S es [] (fr' a) (hp' a) Q):fL P β N ops S (.two i j::es) [] fr hps Q:=by
  intro junk w hS
  unfold mE jO
  refine⟨fk hi JK (iy (fun a w ⟨x,fw,ha,di⟩=>?_) (show wpList P #[oi] (NP (lT β N Gt hpi)) [oi] (bM N fr junk) w from h1 junk w hS)),fk hj Nz (iy (fun a w ⟨x,fw,ha,di⟩=>?_) (show wpList P #[oj] (NP (lT β N Gu Gv)) [oj] (bM N fr junk) w from h3 junk w hS))⟩
  ·subst ha
   refine⟨di.pick hni (Oo x),fk hj Nz (iy (fun a w ⟨y,sB,ha,rz⟩=>?_) (show wpList P #[oj] (NP (lT β N fr' hp')) [oj] (bM N (Gt x) fw) w from h2 x fw w di))⟩
   subst ha
   exact⟨rz.pick hn (hp y),K y sB _ rz⟩
  subst ha
  refine⟨di.pick Pc (Oq x),fk hi JK (iy (fun a w ⟨y,sB,ha,rz⟩=>?_) (show wpList P #[oi] (NP (lT β N fr' hp')) [oi] (bM N (Gu x) fw) w from h4 x fw w di))⟩
  subst ha
  exact⟨rz.pick hn (hp y),K y sB _ rz⟩
theorem fL.cut {ι:Type} {fr':ι->Fr} {hp':ι->List HP} {o:Oper} (pk:List Nat) (hop:ops[i]?=some o) (hg:o.guard=none) (h:ak P β N #[o] 0 fr hps (NP (lT β N fr' hp'))) (hn:aZ pk=true) (hp:∀ j,bF (hp' j) pk=some S)
    (K:∀ j,fL P β N ops S es [] (fr' j) (hp' j) Q):fL P β N ops S (.one i::es) [] fr hps Q:=by
  intro junk w hS
  unfold mE jO
  refine fk hop hg (iy (fun a w ⟨j,fw,ha,di⟩=>?_) (show wpList P #[o] (NP (lT β N fr' hp')) [o] (bM N fr junk) w from h junk w hS))
  subst ha
  exact⟨.inr (di.pick hn (hp j)),K j fw _ di⟩
theorem Sat.left {a b:List HP} {w:World} (h:Sat β (a++b) w):Sat β a w:=by
  obtain⟨h0,φ,h1,h2,h3⟩:=h
  have hlen:a.length<=(a++b).length:=by simp
  exact⟨h0,φ,fun i p hp=>h1 i p (by rw [List.getElem?_append_left (bh hp)];exact hp),fun i hi=>h2 i (by omega),fun i j hi hj=>h3 i j (by omega) (by omega)⟩
def iu (P:Program) (β:Bs) (N:Nat) (ops:Array Oper) (Q:Post) (i d:Nat) (ds:List Nat) (fr:Fr) (pre:List HP) (post:Value->List HP->Prop):Prop:=
  ∀ junk w (A:bY),Sat β (pre++[.abs A]) w->wpOp P ops (NP Q) i (fun a' w'=>∃ v l fw,post v l/\a'=bM N fr fw/\fw d=v/\(∀ t∈ds,t≠d->fw t=junk t)/\Sat β (l++[.abs A]) w') (bM N fr junk) w
def zH (kU:List Nat) (u:Nat->Value):Fr:=kU.map fun t=>(t,u t)
theorem ur {kU:List Nat} {u:Nat->Value}:bE (zH kU u)=kU:=by
  induction kU with
  | nil=>rfl
  | cons a r ih=>exact congrArg (a::·) ih
theorem Gw {kU:List Nat} {u junk:Nat->Value} {t:Nat} (h:t∈kU):lk (zH kU u) junk t=u t:=by
  induction kU with
  | nil=>cases h
  | cons a r ih=>
    show lk ((a,u a)::zH r u) junk t=_
    rw [eu]
    by_cases e:a=t
    ·rw [if_pos e,e]
    rw [if_neg e]
    rcases List.mem_cons.1 h with h|h
    ·exact absurd h.symm e
    exact ih h
theorem l6 {fr mK:Fr} {junk sB:Nat->Value} (h:∀ t,lk fr junk t=lk mK sB t):bM N fr junk=bM N mK sB:=by
  unfold bM
  rw [show lk fr junk=lk mK sB from funext h]
theorem iu.of {ι:Type} {v:ι->Value} {l:ι->List HP} {o:Oper} {d:Nat} {pre:List HP} (kU:List Nat) (hop:ops[i]?=some o) (hg:o.guard=none) (Ot:(d::kU).all (fun t=>!iQ t (bE fr))=true) (hd:iQ d kU=false)
    (h:∀ (u:Nat->Value) (A:bY),ak P β N #[o] 0 (zH kU u++fr) (pre++[.abs A]) (NP (lT β N (fun x=>(d,v x)::(zH kU u++fr)) (fun x=>l x++[.abs A])))):iu P β N ops Q i d (d::kU) fr pre (fun v' l'=>∃ x,v'=v x/\l'=l x):=by
  intro junk w A hS
  have hout:∀ t∈d::kU,t∉bE fr:=fun t ht hm=>by
    have h1:=List.all_eq_true.1 Ot t ht
    rw [gY.2 hm] at h1;cases h1
  have Qg:d∉kU:=fun hm=>by rw [gY.2 hm] at hd;cases hd
  have e1:bM N fr junk=bM N (zH kU junk++fr) junk:=l6 fun t=>by
    rw [tq,ur]
    by_cases ht:t∈kU
    ·rw [if_pos ht,Gw ht,jQ (hout t (List.mem_cons_of_mem _ ht))]
    rw [if_neg ht]
  rw [e1]
  refine fk hop hg (iy (fun a w ⟨x,MY,ha,di⟩=>?_) (show wpList P #[o] (NP (lT β N _ _)) [o] (bM N (zH kU junk++fr) junk) w from h junk A junk w hS))
  refine⟨v x,l x,lk ((d,v x)::(zH kU junk++fr)) MY,⟨x,rfl,rfl⟩,?_,by rw [eu,if_pos rfl],fun t ht hn=>?_,di⟩
  ·rw [ha]
   refine l6 fun t=>?_
   by_cases ht:t∈bE fr
   ·have h1:¬ d=t:=fun e=>hout d List.mem_cons_self (e ▸ ht)
    have h2:t∉kU:=fun hm=>hout t (List.mem_cons_of_mem _ hm) ht
    rw [eu,if_neg h1,tq,ur,if_neg h2]
    exact zY ht
   rw [jQ ht]
  rw [eu,if_neg (fun e=>hn e.symm),tq,ur,if_pos ((List.mem_cons.1 ht).resolve_left hn),Gw ((List.mem_cons.1 ht).resolve_left hn)]
theorem iu.at_ {d:Nat} {ds:List Nat} {pre X Y:List HP} {post:Value->List HP->Prop} {junk:Nat->Value} {w:World} {K:Act->World->Prop} (h:iu P β N ops Q i d ds fr pre post) (hS:Sat β (X++(pre++Y)) w)
    (hK:∀ v l fw w',post v l->fw d=v->(∀ t∈ds,t≠d->fw t=junk t)->Sat β (X++(l++Y)) w'->K (bM N fr fw) w'):wpOp P ops (NP Q) i K (bM N fr junk) w:=by
  have h1:=Sat.turn hS
  rw [List.append_assoc] at h1
  refine wpOp_mono (fun a' w' ⟨v,l,j2,g1,g2,g3,g4,g5⟩=>?_) (h junk w _ h1.ja)
  rw [g2]
  refine hK v l j2 w' g1 g3 g4 ?_
  have h2:=g5.sW
  rw [← List.append_assoc] at h2
  exact Sat.turn h2
theorem iu.grow {d d1:Nat} {ds:List Nat} {pre:List HP} {q:Value->List HP->Prop} (h:iu P β N ops Q i d (d::d1::ds) fr pre q) (h1:d1∉bE fr) (hd:d1≠d) (hn:d1∉ds) (v1:Value):iu P β N ops Q i d (d::ds) ((d1,v1)::fr) pre q:=by
  intro junk w A hS
  have e:bM N ((d1,v1)::fr) junk=bM N fr (fun t=>if t=d1 then v1 else junk t):=l6 fun t=>by
    rw [eu]
    by_cases e1:d1=t
    ·subst e1;rw [if_pos rfl,jQ h1,if_pos rfl]
    rw [if_neg e1]
    by_cases ht:t∈bE fr
    ·exact zY ht
    rw [jQ ht,jQ ht,if_neg (fun e=>e1 e.symm)]
  rw [e]
  refine wpOp_mono (fun a' w' ⟨v,l,j2,g1,g2,g3,g4,g5⟩=>?_) (h _ w A hS)
  have k1:j2 d1=v1:=(g4 d1 (by simp) hd).trans (if_pos rfl)
  refine⟨v,l,j2,g1,?_,g3,fun t ht hne=>?_,g5⟩
  ·rw [g2]
   refine l6 fun t=>?_
   rw [eu]
   by_cases e1:d1=t
   ·subst e1;rw [if_pos rfl,jQ h1,k1]
   rw [if_neg e1]
  have h2:t≠d1:=fun e=>by
    subst e
    rcases List.mem_cons.1 ht with e|e
    ·exact hd e
    exact hn e
  refine (g4 t ?_ hne).trans (if_neg h2)
  rcases List.mem_cons.1 ht with e|e
  ·exact absurd e hne
  exact List.mem_cons_of_mem _ (List.mem_cons_of_mem _ e)
def ic (P:Program) (β:Bs) (N:Nat) (ops:Array Oper) (Q:Post) (dj:Nat):List (Nat×Nat)->Fr->List HP->(Fr->List HP->Prop)->Prop
  | [],fr,hps,R=>R fr hps
  | (i,d)::c,fr,hps,R=>(iQ d (bE fr)=false/\d≠dj)/\∃ q:Value->List HP->Prop,iu P β N ops Q i d [d,dj] fr hps q/\∀ v l,q v l->ic P β N ops Q dj c ((d,v)::fr) l R
theorem ic.step {dj d:Nat} {c:List (Nat×Nat)} {R:Fr->List HP->Prop} {q:Value->List HP->Prop} (h:iu P β N ops Q i d [d,dj] fr hps q) (h1:(!iQ d (bE fr) && decide (d≠dj))=true) (K:∀ v l,q v l->ic P β N ops Q dj c ((d,v)::fr) l R):ic P β N ops Q dj ((i,d)::c) fr hps R:=by
  simp only [Bool.and_eq_true,Bool.not_eq_true',decide_eq_true_iff] at h1
  exact⟨h1,q,h,K⟩
section Pf
variable {dj:Nat} {Z pj:List HP} {qj:Value->List HP->Prop} {R:Fr->List HP->Prop} {pS:List Nat} {F:Act->World->Prop}
theorem Sat.rest {X:List HP} {w:World} (sR:aZ pS=true) (sS:bF Z pS=some S) (h:Sat β (X++Z) w):Sat β S w:=Sat.pick (idx:=pS) (l:=Z) (Sat.left (Sat.turn h)) sR sS
theorem zI {v:Value} {l2:List HP} (sR:aZ pS=true) (sS:bF Z pS=some S) (hK:∀ f1 h1,R f1 h1->∀ junk w,Sat β (h1++(l2++Z)) w->F (bM N ((dj,v)::f1) junk) w) :
    ∀ (c:List (Nat×Nat)) (fr:Fr) (hps:List HP) (junk:Nat->Value) (w:World),iQ dj (bE fr)=false->ic P β N ops Q dj c fr hps R->junk dj=v->Sat β (hps++(l2++Z)) w->Af P ops (NP Q) (Sat β S) F (c.map (·.1)) (bM N fr junk) w
  | [],fr,hps,junk,w,hdj,hc,hv,hS=>by
    have e:bM N fr junk=bM N ((dj,v)::fr) junk:=l6 fun t=>by
      rw [eu]
      by_cases e1:dj=t
      ·subst e1;rw [if_pos rfl,jQ (fun hm=>by rw [gY.2 hm] at hdj;cases hdj),hv]
      rw [if_neg e1]
    show F (bM N fr junk) w
    rw [e]
    exact hK fr hps hc junk w hS
  | (i,d)::c,fr,hps,junk,w,hdj,⟨⟨h1,h2⟩,q,h3,h4⟩,hv,hS=>by
    show wpOp P ops (NP Q) i _ _ _
    refine h3.at_ (X:=[]) hS (fun v' l j2 w' g1 g2 g3 g4=>⟨Sat.rest (X:=l++l2) sR sS (by rw [List.append_assoc];exact g4),?_⟩)
    have e:bM N fr j2=bM N ((d,v')::fr) j2:=l6 fun t=>by
      rw [eu]
      by_cases e1:d=t
      ·subst e1;rw [if_pos rfl,jQ (fun hm=>by rw [gY.2 hm] at h1;cases h1),g2]
      rw [if_neg e1]
    rw [e]
    refine zI sR sS hK c _ l j2 w' ?_ (h4 v' l g1) ((g3 dj (by simp) (fun e=>h2 e.symm)).trans hv) g4
    cases hb:iQ dj (bE ((d,v')::fr)) with
    | false=>rfl
    | true=>
      rcases List.mem_cons.1 (gY.1 hb) with e|e
      ·exact absurd e.symm h2
      rw [gY.2 e] at hdj;cases hdj
theorem zJ {j:Nat} (sR:aZ pS=true) (sS:bF Z pS=some S) (hK:∀ f1 h1,R f1 h1->∀ v l2,qj v l2->∀ junk w,Sat β (h1++(l2++Z)) w->F (bM N ((dj,v)::f1) junk) w) :
    ∀ (c:List (Nat×Nat)) (fr:Fr) (hps:List HP) (junk:Nat->Value) (w:World),aZ (c.map (·.2))=true->iQ dj (bE fr)=false->iu P β N ops Q j dj (dj::c.map (·.2)) fr pj qj->ic P β N ops Q dj c fr hps R->Sat β (hps++(pj++Z)) w->sA P ops (NP Q) (Sat β S) F j (c.map (·.1)) (bM N fr junk) w
  | [],fr,hps,junk,w,_,hdj,hj,hc,hS=>by
    show wpOp P ops (NP Q) j _ _ _
    refine hj.at_ (X:=hps) hS (fun v l j2 w' g1 g2 g3 g4=>⟨Sat.rest (X:=hps++l) sR sS (by rw [List.append_assoc];exact g4),?_⟩)
    have e:bM N fr j2=bM N ((dj,v)::fr) j2:=l6 fun t=>by
      rw [eu]
      by_cases e1:dj=t
      ·subst e1;rw [if_pos rfl,jQ (fun hm=>by rw [gY.2 hm] at hdj;cases hdj),g2]
      rw [if_neg e1]
    rw [e]
    exact hK fr hps hc v l g1 j2 w' g4
  | (i,d)::c,fr,hps,junk,w,hnd,hdj,hj,hc,hS=>by
    obtain⟨⟨h1,h2⟩,q,h3,h4⟩:=hc
    have hout:d∉bE fr:=fun hm=>by rw [gY.2 hm] at h1;cases h1
    refine⟨h3.at_ (X:=[]) hS (fun v' l j2 w' g1 g2 g3 g4=>⟨Sat.rest (X:=l++pj) sR sS (by rw [List.append_assoc];exact g4),?_⟩),hj.at_ (X:=hps) hS (fun v l j2 w' g1 g2 g3 g4=>⟨Sat.rest (X:=hps++l) sR sS (by rw [List.append_assoc];exact g4),?_⟩)⟩
    ·have e:bM N fr j2=bM N ((d,v')::fr) j2:=l6 fun t=>by
       rw [eu]
       by_cases e1:d=t
       ·subst e1;rw [if_pos rfl,jQ hout,g2]
       rw [if_neg e1]
     rw [e]
     have uw:d∉c.map (·.2)/\aZ (c.map (·.2))=true:=by
       have hx:aZ (d::c.map (·.2))=true:=hnd
       unfold aZ at hx
       simp only [Bool.and_eq_true] at hx
       exact⟨fun hm=>by have h:=hx.1;simp_all,hx.2⟩
     refine zJ sR sS hK c _ l j2 w' uw.2 ?_ (hj.grow hout h2 uw.1 v') (h4 v' l g1) g4
     cases hb:iQ dj (bE ((d,v')::fr)) with
     | false=>rfl
     | true=>
       rcases List.mem_cons.1 (gY.1 hb) with e|e
       ·exact absurd e.symm h2
       rw [gY.2 e] at hdj;cases hdj
    exact zI sR sS (fun f1 h1 hr=>hK f1 h1 hr v l g1) ((i,d)::c) fr hps j2 w' hdj ⟨⟨h1,h2⟩,q,h3,h4⟩ g2 g4
theorem fL.beside {j:Nat} {pc:List HP} (pk pS:List Nat) (c:List (Nat×Nat)) (hn:aZ pk=true) (hp:bF hps pk=some (pc++(pj++Z))) (sR:aZ pS=true) (sS:bF Z pS=some S) (hnd:aZ (c.map (·.2))=true) (hdj:iQ dj (bE fr)=false)
    (hj:iu P β N ops Q j dj (dj::c.map (·.2)) fr pj qj) (hc:ic P β N ops Q dj c fr pc R)
    (K:∀ f1 h1,R f1 h1->∀ v l,qj v l->fL P β N ops S es [] ((dj,v)::f1) (h1++(l++Z)) Q):fL P β N ops S (.beside (c.map (·.1)) j::es) [] fr hps Q:=by
  intro junk w hS
  exact zJ (F:=jO P ops (NP Q) (Sat β S) es) sR sS (fun f1 h1 hr v l2 hv junk w hS=>K f1 h1 hr v l2 hv junk w hS) c fr pc junk w hnd hdj hj hc (hS.pick hn hp)
end Pf
theorem fL.last {o:Oper} (hop:ops[i]?=some o) (hg:o.guard=none) (h:ak P β N #[o] 0 fr hps (NP Q)):fL P β N ops S [.one i] [] fr hps Q:=by
  intro junk w hS
  unfold mE jO
  exact fk hop hg (iy (fun a w hq=>⟨.inl rfl,by unfold jO;exact hq⟩) (show wpList P #[o] (NP Q) [o] (bM N fr junk) w from h junk w hS))
end mix
end
section
open Go.RowKit Go.Maps ck aB
attribute [local irreducible] ak aK af ai
abbrev DF (B)(d:List UInt8) (cap):=(.abs (aC 5 1 B d.length cap (cA d)):HP)
abbrev NA (b5:Nat) (An:Option Addr) (i:Nat) (cn:Nat):=(.blk b5 [.slice An (i) (cn)] 24:HP)
abbrev NC (An:Option Addr) (i:Nat) (cn:Nat) (K) (S:aH):=(.abs (aC 55 10 An i cn (cI K ((aI S).take i))):HP)
abbrev ND (S:aH) (i:Nat) (K):=(.abs (eM (ij ((aI S).take i) K) i):HP)
abbrev NE (S:aH) (i:Nat) (K):=(.abs (eM (iq ((aI S).take i) K) i):HP)
abbrev NG (A7:Option Addr) (S:aH) (c8:Nat):=(.abs (aC 3 1 A7 ((keys S.idx).length) c8 (ints (keys S.idx))):HP)
abbrev NH (b4:Nat):=(.blk b4 [.slice none (0) (0)] 24:HP)
abbrev LP (b9:Nat):=(.blk b9 [vI 0,vI 0,vI 0,vI 0,vI 0,vI 0,vI 0,.slice none (0) (0),.string ⟨#[]⟩,.slice none (0) (0)] 55:HP)
abbrev NI (b9:Nat) (S:aH) (i:Nat) (tk:Nat):=(.blk b9 [vI ((cD S i)),vI 1,vI ((obj S.O tk).mode),vI ((obj S.O tk).uid),vI ((obj S.O tk).gid),vI ((obj S.O tk).sec),vI ((obj S.O tk).nano),.slice none (0) (0),.string ⟨#[]⟩,.slice none (0) (0)] 55:HP)
abbrev LQ (S:aH) (L:HL) (tk:Nat):=(.abs (ay (kV (cE S.O L) tk bY.none)):HP)
abbrev Cg (L:HL) (tk:Nat) (S:aH):=(.abs (aN Tryz.prog 9 (L.m tk) (gi L (obj S.O tk).ah) ((obj S.O tk).ah.length)):HP)
abbrev iw (b15:Nat) (S:aH) (i:Nat) (tk:Nat) (Ae:Option Addr) (j:Nat) (ce:Nat):=(.blk b15 [vI ((cD S i)),vI 2,vI ((obj S.O tk).mode),vI ((obj S.O tk).uid),vI ((obj S.O tk).gid),vI ((obj S.O tk).sec),vI ((obj S.O tk).nano),.slice none (0) (0),.string ⟨#[]⟩,.slice Ae (j) (ce)] 55:HP)
abbrev lN (Ae:Option Addr) (j:Nat) (ce:Nat) (S:aH) (tk:Nat):=(.abs (aC 81 2 Ae j ce (fA (((obj S.O tk).ah.take j).map (jv S.O)))):HP)
abbrev LR (b16:Nat) (L:HL) (tk:Nat):=(.blk b16 [.map (some (L.m tk))] 77:HP)
abbrev LU (dr:Option Addr) (S:aH) (tk:Nat) (dP:Nat):=(.abs (aC 9 1 dr ((obj S.O tk).ah.length) dP (nW (obj S.O tk).ah)):HP)
abbrev yR (ld:Option Addr) (j:Nat) (lf:Nat) (S:aH) (tk:Nat):=(.abs (aC 81 2 ld (j+1) lf (fA (((obj S.O tk).ah.take (j+1)).map (jv S.O)))):HP)
abbrev yS (b19:Nat) (S:aH) (tk:Nat) (j:Nat) (ek:Nat):=(.blk b19 [.string (dU (obj S.O tk).ah j),vI ((obj S.O ek).id)] 81:HP)
abbrev jX (f:Nat) (b4:Nat) (b5:Nat) (b15:Nat) (L:HL) (tk:Nat) (A7:Option Addr) (S:aH) (c8:Nat) (i:Nat) (dr:Option Addr) (dP:Nat) (j:Nat):=([(0,vP f),(2,vP b4),(3,vP b5),(8,vP b15),(11,vP (L.b tk)),(19,.slice A7 ((keys S.idx).length) (c8)),(20,vI ↑((keys S.idx).length)),(21,vI ↑i),(79,.slice dr ((obj S.O tk).ah.length) (dP)),(80,vI ↑((obj S.O tk).ah.length)),(81,vI ↑j)]:Fr)
abbrev jw (L:HL) (tk:Nat) (S:aH) (b16:Nat) (dr:Option Addr) (dP:Nat) (b5:Nat) (An:Option Addr) (i:Nat) (cn:Nat) (K) (A7:Option Addr) (c8:Nat) (b4:Nat) (f:Nat) (m:Nat) (t) (R:bY):=([Cg L tk S,LR b16 L tk,LU dr S tk dP,NA b5 An i cn,NC An i cn K S,ND S i K,NE S i K,NG A7 S c8,NH b4,pF f m t S.X,pI m L S.idx,pO S.O L,pD S.O L,LQ S L tk,.abs R]:List HP)
abbrev Ch (f:Nat) (b4:Nat) (b5:Nat) (b15:Nat) (L:HL) (tk:Nat) (A7:Option Addr) (S:aH) (c8:Nat) (i:Nat) (dr:Option Addr) (dP:Nat) (j:Nat):=([(0,vP f),(2,vP b4),(3,vP b5),(8,vP b15),(11,vP (L.b tk)),(19,.slice A7 ((keys S.idx).length) (c8)),(20,vI ↑((keys S.idx).length)),(21,vI ↑i),(79,.slice dr ((obj S.O tk).ah.length) (dP)),(80,vI ↑((obj S.O tk).ah.length)),(81,vI ↑j)]:Fr)
abbrev yT (S:aH) (tk:Nat):=([(39,vI ((obj S.O tk).mode)),(43,vI ((obj S.O tk).uid)),(47,vI ((obj S.O tk).gid)),(51,.agg #[vI ((obj S.O tk).sec),vI ((obj S.O tk).nano)])]:Fr)
abbrev ux (f:Nat) (b4:Nat) (b5:Nat):=([(0,vP f),(2,vP b4),(3,vP b5)]:Fr)
abbrev uy (A7:Option Addr) (S:aH) (c8:Nat) (i:Nat):=([(19,.slice A7 ((keys S.idx).length) (c8)),(20,vI ↑((keys S.idx).length)),(21,vI ↑i)]:Fr)
abbrev sC (b5:Nat) (An:Option Addr) (i:Nat) (cn:Nat) (K) (S:aH) (A7:Option Addr) (c8:Nat) (b4:Nat) (f:Nat) (m:Nat) (t) (L:HL):=([NA b5 An i cn,NC An i cn K S,ND S i K,NE S i K,NG A7 S c8,NH b4,pF f m t S.X,pI m L S.idx,pO S.O L]:List HP)
abbrev ou (Ae:Option Addr) (j:Nat) (ce:Nat) (S:aH) (tk:Nat):=([(86,.slice Ae (j) (ce)),(87,.string (dU (obj S.O tk).ah j))]:Fr)
abbrev IC (S:aH) (tk:Nat):=([(2,vI ((obj S.O tk).mode)),(3,vI ((obj S.O tk).uid)),(4,vI ((obj S.O tk).gid)),(5,vI ((obj S.O tk).sec)),(6,vI ((obj S.O tk).nano))]:Fr)
theorem yU {β:Bs} (c:Nat):Spec Tryz.prog β 18 #[.slice none 0 c] [] (fun v l=>∃ B cap,v=.slice B 0 cap/\l=[.abs (aC 5 1 B 0 cap [])]):=by
 refine Spec.enter Tryz.func18 rfl Tryz.ntmps18 (Nat.le_of_ble_eq_true rfl) (fun R=>?_)
 refine SR (gK 1 [] [] ?_)
 refine NN (af.seq (SR (gK 2 [(4,.bool true)] [] ?_)))
 refine NN (CT (SR (gK 1 [(2,.slice none (0) (0))] [] ?_)))
 refine NN (af.ret (ai.aj (ai.mem (fun w hS=>(hS.j8 (e:=5) (size:=1)).pick (idx:=[1,0]) (l':=[.abs (aC 5 1 none 0 0 ([])),.abs R]) rfl (by kernel_rfl)) ?_)))
 exact RT (.slice none (0) (0)) [0,1] (⟨none,0,rfl,rfl⟩)
theorem xJ {β:Bs} (a:Addr) (c:Nat) (d:List UInt8) (hA:cq β (some a) d) (hl:d.length<=140737488355328):Spec Tryz.prog β 18 #[.slice (some a) d.length c] [] (fun v l=>∃ B cap,v=.slice B d.length cap/\l=[DF B d cap]):=by
 refine Spec.enter Tryz.func18 rfl Tryz.ntmps18 (Nat.le_of_ble_eq_true rfl) (fun R=>?_)
 refine SR (gK 1 [] [] ?_)
 refine NN (af.seq (SR (gK 2 [(4,.bool false)] [] ?_)))
 refine NN (CF (af.skip (NX (SR (gN 1 (fun b1=>[(5,.slice (some ⟨b1,0,none⟩) (0) (0))]) (fun _=>[]) (fun _=>[]) (fun b1=>.blk b1 [] 5) (fun b1=>?_))))))
 refine ak.mem (fun w hS=>hS.uK (i:=1) (b:=b1) (cs:=[]) (e:=5) 1 0 (by kernel_rfl) rfl (by decide)) ?_
 refine gK 1 [(6,.slice (some a) (d.length) (c))] [] ?_
 refine ak.append 1 (d:=(some 7)) (t:=48) (e:=5) (z:=.int .u8 0) (size:=1) (bytes:=1) (n:=0) (cap:=0) (A:=some ⟨b1,0,none⟩) (xs:=[]) (s:=(.tmp 5)) (x:=(.tmp 6)) (ats:=#[48,48]) (A':=(some a)) (m:=d.length) (c':=c) (news:=(cA d)) (fun _=>by kernel_rfl) rfl (by kernel_rfl) (fun _=>by kernel_rfl) (fun _=>by kernel_rfl) Tryz.underlying48 (by kernel_rfl) rfl (by decide) (by rw [rP,Nat.mul_one]) (oe d) (hA.src) (by unfold maxLen;omega) (by omega) (fun A2 c3=>?_)
 refine ak.dV 1 (p:=.abs (aC 5 1 A2 (0+d.length) c3 ([]++(cA d)))) (p':=.abs (aC 5 1 A2 d.length c3 (cA d))) (by kernel_rfl) (by rw [Nat.zero_add,List.nil_append]) ?_
 refine ak.slot 7 (.slice A2 (0+d.length) (c3)) (.slice A2 (d.length) (c3)) (fun _=>by kernel_rfl) (by rw [Nat.zero_add]) ?_
 refine gK 1 [(2,.slice A2 (d.length) (c3))] [] ?_
 refine NN (af.ret ?_)
 exact RT (.slice A2 (d.length) (c3)) [1,0] (⟨A2,c3,rfl,rfl⟩)
theorem vE {β:Bs} (A:Option Addr) (c:Nat) (d:List UInt8) (hA:cq β A d) (hl:d.length<=140737488355328):Spec Tryz.prog β 18 #[.slice A d.length c] [] (fun v l=>∃ B cap,v=.slice B d.length cap/\l=[DF B d cap]):=by
  cases A with
  | some a=>exact xJ a c d hA hl
  | none=>
    cases d with
    | nil=>exact yU c
    | cons b r=>have h:=cq.hd hA (j:=0) (by simp);cases h
theorem Ci {β:Bs} (A:Option Addr) (c:Nat) (d:List UInt8) (hl:d.length<=140737488355328):Spec Tryz.prog β 18 #[.slice A d.length c] [DF A d c] (fun v l=>∃ B cap,v=.slice B d.length cap/\l=[DF B d cap,DF A d c]):=
  (Spec.yc (pre:=[]) (R:=[DF A d c]) (fun _ h=>vE A c d h.bytes hl)).mono (by rintro v l ⟨l0,⟨B,cap,rfl,rfl⟩,rfl⟩;exact⟨B,cap,rfl,rfl⟩)
theorem Cj {β:Bs} (L:HL) (b bk:Nat) (idx:Used Th) (hr:aB.bN (keys idx)) (hn:idx.length<=4096) :
    Spec Tryz.prog β 30 #[xj bk] [pI b L idx,.blk bk [.map (some b)] 60] (fun v l=>∃ A cap,v=.slice A (keys idx).length cap/\l=[pI b L idx,.blk bk [.map (some b)] 60,.abs (aC 3 1 A (keys idx).length cap (ints (keys idx)))]):=
  (xk b bk idx.length (aV (aT L idx)) (by omega)).mono (by
    rintro v l ⟨A,cap,ss,rfl,hk,_,rfl⟩
    have e:=Dn (us:=aT L idx) (by rw [v8];exact hr) hk
    rw [v8] at e
    subst e
    exact⟨A,cap,rfl,rfl⟩)
theorem zK {β:Bs} (S:aH) (L:HL) (f m t:Nat) (hI:Inv S) :
    Spec Tryz.prog β 12 #[vP f] [pF f m t S.X,pI m L S.idx,pO S.O L,pD S.O L,pE S.O L] (fun v l=>∃ A c K,v=.agg #[.slice A (aI S).length c]/\l=[pF f m t S.X,pI m L S.idx,pO S.O L,pD S.O L,pE S.O L]++ES A c (aI S) K):=by
 have hX:=hI.hX
 have hkl:(keys S.idx).length=S.idx.length:=sj _
 have hil:=hI.len
 refine Spec.enter Tryz.func12 rfl Tryz.ntmps12 (Nat.le_of_ble_eq_true rfl) (fun R=>?_)
 refine SR (gN 1 (fun b4=>[(2,vP b4)]) (fun _=>[]) (fun _=>[]) (fun b4=>.blk b4 [.slice none (0) (0)] 24) (fun b4=>?_))
 refine NS (gN 1 (fun b5=>[(3,vP b5)]) (fun _=>[]) (fun _=>[]) (fun b5=>.blk b5 [.slice none (0) (0)] 24) (fun b5=>?_))
 refine NN (af.seq (SR (gK 4 [(17,.map (some m))] [(3,a_ 0 f)] ?_)))
 refine gL [] (Bp (some m)) ?_
 rintro _ _ ⟨b6,rfl,rfl⟩
 refine gL [2,0] (Cj L m b6 S.idx hI.rise hI.len) ?_
 rintro _ _ ⟨A7,c8,rfl,rfl⟩
 refine gK 1 [(20,vI ↑((keys S.idx).length))] [] ?_
 refine ak.mem (fun w hS=>hS.j8 (e:=55) (size:=10)) ?_
 refine ak.mem (fun w hS=>hS.Fz (ij [] Iz)) ?_
 refine ak.mem (fun w hS=>hS.Fz (iq [] Iz)) ?_
 refine gK 1 [(21,vI 0)] [] ?_
 refine NN (af.block ?_)
 refine af.loop (ι:=Nat×(Option Addr)×Nat×Lay) (fun ((i,An,cn,K):Nat×(Option Addr)×Nat×Lay)=>(i<=S.idx.length)) (fun ((i,An,cn,K):Nat×(Option Addr)×Nat×Lay)=>S.idx.length - i) (fun ((i,An,cn,K):Nat×(Option Addr)×Nat×Lay)=>(ux f b4 b5++uy A7 S c8 i)) (fun ((i,An,cn,K):Nat×(Option Addr)×Nat×Lay)=>(sC b5 An i cn K S A7 c8 b4 f m t L++[pD S.O L,pE S.O L,.abs R])) (0,none,0,Iz) (idx:=[0,2,3,19,20,21]) (pk:=[9,10,11,12,2,8,3,0,4,5,6,7]) (show (0<=S.idx.length) from (Nat.zero_le _)) (fun _=>by kernel_rfl) rfl (by kernel_rfl) ?_
 rintro⟨i,An,cn,K⟩ hi
 show af _ _ _ _ (ux f b4 b5++uy A7 S c8 i) (sC b5 An i cn K S A7 c8 b4 f m t L++[pD S.O L,pE S.O L,.abs R]) _
 refine SR (gK 1 [(22,.bool (decide ((((i:Nat):Int):Int) < ((((keys S.idx).length:Nat):Int):Int))))] [] ?_)
 refine NN (af.seq (af.aR (p:=(((i:Nat):Int):Int) < ((((keys S.idx).length:Nat):Int):Int)) (fun _=>by kernel_rfl) (fun Dd=>?_) (fun Dd=>?_)))
 ·have hi2:i < S.idx.length:=by omega
  refine af.skip (NX (af.seq (af.block (SR ?_))))
  refine ak.tell (p:=(A7=some ⟨ar A7,aq A7,none⟩)) (fun w hS=>let ⟨F,h⟩:=hS.get (i:=4) rfl;(aC.DT h (by omega)).1) (fun hAk=>?_)
  refine gK 3 [(5,vI ((cD S i)))] [(0,p_ ⟨[],some i,none,some ⟨(ar A7),aq A7,none⟩,none⟩ [((i:Nat):Int)=((i:Nat):Int),i < (keys S.idx).length,(⟨(ar A7),aq A7,none⟩:Addr).spot=none,(A7:Option Addr)=some ⟨(ar A7),aq A7,none⟩] ⟨rfl,by omega,rfl,hAk,trivial⟩),(1,p_ ⟨[.view 4 (.int .i64 ((cD S i)))],none,none,none,none⟩ [(∀ F w,(aC 3 1 A7 ((keys S.idx).length) c8 (ints (keys S.idx))).h F w->w.cell? ⟨(ar A7),aq A7+i * 1,none⟩=some (vI ((cD S i))))] ⟨aC.cellAt (i:=i) (j:=0) (by omega) (IB hi2),trivial⟩)] ?_
  refine NN (af.seq ?_)
  have P0:=(DB hI.toInv0 hi2).1
  have hget:=get_at hI.toInv0 hi2
  rcases MX hI.toInv0 hi2 with ⟨tk,jE,hlv⟩|⟨tk,jE,hlv⟩|⟨tk,jE,hlv⟩
  ·have hkt:(obj S.O tk).kind=1:=hI.kind hlv
   have hel:(obj S.O tk).ah.length<=8192:=hI.fq hlv
   have hdl:(obj S.O tk).data.length<=140737488355328:=hI.Ek hlv
   refine af.region (gK 5 [(28,.map (some m)),(29,vI ((cD S i)))] [(3,a_ 6 f)] ?_)
   refine ak.eW 7 (d:=(some 30)) (t:=60) (K:=3) (E:=64) (b:=m) (n:=S.idx.length) (f:=(aV (aT L S.idx))) (x:=(.tmp 28)) (ix:=(.tmp 29)) (key:=.int .i64 ((cD S i))) (z:=.nilIface) (kl:=(.int .i64 (cD S i))) (r:=(some (dh L ⟨tk,1⟩))) (fun _=>by kernel_rfl) (by kernel_rfl) (fun _=>by kernel_rfl) (fun _=>by kernel_rfl) dW Tryz.underlying60 (fun _=>by kernel_rfl) (jf (yQ hI.toInv0 hi2)) (by rw [eX,hget,jE];rfl) ?_
   refine gK 1 [(6,.iface 69 (vP (L.b tk)))] [] ?_
   refine NS (gK 1 [(31,.iface 69 (vP (L.b tk)))] [] ?_)
   refine gL [] (cJ (L.b tk)) ?_
   rintro _ _ ⟨rfl,rfl⟩
   refine gK 1 [(7,vP (L.b tk))] [] ?_
   refine NN (af.seq (af.mF (S:=[pO S.O L]) [0,1,3,4,5,6,7,8,9,10,11,12,13,14,15,16,17,18] [.beside [2,19] 20,.one 21] [8] (by kernel_rfl) (by kernel_rfl) rfl (by kernel_rfl) ?_))
   refine gP (ux f b4 b5++[(6,.iface 69 (vP (L.b tk)))]++uy A7 S c8 i++[(33,vI ((cD S i))),(34,.iface 69 (vP (L.b tk)))]++yT S tk) [0,1,3,4,5,6,7,8,9,10,11,12,13,14,15,16,17,18] [(5,v_ 0 (pP L hkt)),(9,v_ 0 (uR L hkt)),(13,v_ 0 (uS L hkt)),(17,p_ ⟨[.view 0 (.int .i64 ((obj S.O tk).sec)),.view 0 (.int .i64 ((obj S.O tk).nano))],none,none,none,none⟩ [(∀ F w,(ay (bD S.O L)).h F w->w.cell? ⟨(L.b tk),5,none⟩=some (vI ((obj S.O tk).nano))),(∀ F w,(ay (bD S.O L)).h F w->w.cell? ⟨(L.b tk),4,none⟩=some (vI ((obj S.O tk).sec)))] ⟨dw (by rw [hkt];decide) (rfl),dw (by rw [hkt];decide) (rfl),trivial⟩)] ?_
   refine fL.beside (j:=20) (dj:=8) (R:=fun f_ l_=>f_=([(52,.agg #[vI ((cD S i)),vI 1,vI ((obj S.O tk).mode),vI ((obj S.O tk).uid),vI ((obj S.O tk).gid),vI ((obj S.O tk).sec),vI ((obj S.O tk).nano),.slice none (0) (0),.string ⟨#[]⟩,.slice none (0) (0)]),(35,vI 1)]++ux f b4 b5++[(6,.iface 69 (vP (L.b tk)))]++uy A7 S c8 i++[(33,vI ((cD S i))),(34,.iface 69 (vP (L.b tk)))]++yT S tk)/\l_=[]) [0,1,2,3,4,5,6,7,8,9,10,11] [8] [(2,35),(19,52)] rfl (pc:=[]) (pj:=[]) (Z:=(sC b5 An i cn K S A7 c8 b4 f m t L++[pD S.O L,pE S.O L,.abs R])) (by kernel_rfl) rfl (by kernel_rfl) rfl rfl (iu.of (ι:=Nat) (v:=fun (b9:Nat)=>vP b9) (l:=fun (b9:Nat)=>[LP b9]) [35,52] rfl rfl rfl rfl ?_) ?_ ?_
   ·intro u Aq
    show ak _ _ _ _ _ [(35,(u 35)),(52,(u 52)),(0,vP f),(2,vP b4),(3,vP b5),(6,.iface 69 (vP (L.b tk))),(19,.slice A7 ((keys S.idx).length) (c8)),(20,vI ↑((keys S.idx).length)),(21,vI ↑i),(33,vI ((cD S i))),(34,.iface 69 (vP (L.b tk))),(39,vI ((obj S.O tk).mode)),(43,vI ((obj S.O tk).uid)),(47,vI ((obj S.O tk).gid)),(51,.agg #[vI ((obj S.O tk).sec),vI ((obj S.O tk).nano)])] [.abs Aq] _
    refine gN 1 (fun b9=>[(8,vP b9)]) (fun _=>[]) (fun _=>[]) (fun b9=>.blk b9 [vI 0,vI 0,vI 0,vI 0,vI 0,vI 0,vI 0,.slice none (0) (0),.string ⟨#[]⟩,.slice none (0) (0)] 55) (fun b9=>?_)
    refine NL ?_
    exact MD b9 [8,35,52,0,2,3,6,19,20,21,33,34,39,43,47,51] [1,0]
   ·refine ic.step (iu.of (ι:=Unit) (v:=fun (_:Unit)=>.int .i64 1) (l:=fun (_:Unit)=>[]) [8] rfl rfl rfl rfl ?_) rfl ?_
    ·intro u Aq
     show ak _ _ _ _ _ [(8,(u 8)),(0,vP f),(2,vP b4),(3,vP b5),(6,.iface 69 (vP (L.b tk))),(19,.slice A7 ((keys S.idx).length) (c8)),(20,vI ↑((keys S.idx).length)),(21,vI ↑i),(33,vI ((cD S i))),(34,.iface 69 (vP (L.b tk))),(39,vI ((obj S.O tk).mode)),(43,vI ((obj S.O tk).uid)),(47,vI ((obj S.O tk).gid)),(51,.agg #[vI ((obj S.O tk).sec),vI ((obj S.O tk).nano)])] [.abs Aq] _
     refine gL [] (kg (vP (L.b tk))) ?_
     rintro _ _ ⟨rfl,rfl⟩
     refine NL ?_
     exact MD () [35,8,0,2,3,6,19,20,21,33,34,39,43,47,51] [0]
    rintro _ _ ⟨_,rfl,rfl⟩
    refine ic.step (iu.of (ι:=Unit) (v:=fun (_:Unit)=>.agg #[vI ((cD S i)),vI 1,vI ((obj S.O tk).mode),vI ((obj S.O tk).uid),vI ((obj S.O tk).gid),vI ((obj S.O tk).sec),vI ((obj S.O tk).nano),.slice none (0) (0),.string ⟨#[]⟩,.slice none (0) (0)]) (l:=fun (_:Unit)=>[]) [8] rfl rfl rfl rfl ?_) rfl ?_
    ·intro u Aq
     show ak _ _ _ _ _ [(8,(u 8)),(35,vI 1),(0,vP f),(2,vP b4),(3,vP b5),(6,.iface 69 (vP (L.b tk))),(19,.slice A7 ((keys S.idx).length) (c8)),(20,vI ↑((keys S.idx).length)),(21,vI ↑i),(33,vI ((cD S i))),(34,.iface 69 (vP (L.b tk))),(39,vI ((obj S.O tk).mode)),(43,vI ((obj S.O tk).uid)),(47,vI ((obj S.O tk).gid)),(51,.agg #[vI ((obj S.O tk).sec),vI ((obj S.O tk).nano)])] [.abs Aq] _
     refine gK 1 [(52,.agg #[vI ((cD S i)),vI 1,vI ((obj S.O tk).mode),vI ((obj S.O tk).uid),vI ((obj S.O tk).gid),vI ((obj S.O tk).sec),vI ((obj S.O tk).nano),.slice none (0) (0),.string ⟨#[]⟩,.slice none (0) (0)])] [] ?_
     refine NL ?_
     exact MD () [52,8,35,0,2,3,6,19,20,21,33,34,39,43,47,51] [0]
    rintro _ _ ⟨_,rfl,rfl⟩
    exact⟨rfl,rfl⟩
   rintro _ _ ⟨rfl,rfl⟩ _ _ ⟨b9,rfl,rfl⟩
   refine fL.last rfl rfl ?_
   refine gC 1 [] [(0,A_ 0 b9 10)] [(0,([(0,vI ((cD S i))),(1,vI 1)]++IC S tk))] ?_
   refine NL (ai.np (NX (af.seq (SR ?_))))
   refine gK 1 [(53,.iface 69 (vP (L.b tk)))] [] ?_
   refine NN (af.block (SR ?_))
   refine gK 3 [(55,.bool true),(56,vP (L.b tk))] [] ?_
   refine NN (CT (SR (gK 1 [(9,vP (L.b tk))] [] ?_)))
   refine NN (af.region (gK 4 [(60,.slice (L.dA tk) ((obj S.O tk).data.length) ((L.dC tk)))] [(3,v_ 9 (Bd L hkt))] ?_))
   refine ak.mem (cO:=([NI b9 S i tk]++sC b5 An i cn K S A7 c8 b4 f m t L++[Nh S L tk,pE S.O L,.abs R,.abs (aC 5 1 (L.dA tk) ((obj S.O tk).data.length) (L.dC tk) (cA (obj S.O tk).data))])) (fun w hS=>hS.FB (i:=10) (k:=tk) rfl hkt) ?_
   refine gL [13] (Ci (L.dA tk) (L.dC tk) (obj S.O tk).data hdl) ?_
   rintro _ _ ⟨mG,c11,rfl,rfl⟩
   refine ak.mem (cO:=([pD S.O L,.abs (aC 5 1 mG ((obj S.O tk).data.length) c11 (cA (obj S.O tk).data)),NI b9 S i tk]++sC b5 An i cn K S A7 c8 b4 f m t L++[pE S.O L,.abs R])) (fun w hS=>hS.LK (i:=12) (j:=1) (ix:=[0,2,3,4,5,6,7,8,9,10,11,13,14]) rfl rfl (by kernel_rfl) rfl hkt) ?_
   refine gC 2 [] [(1,a_ 2 b9)] [(2,[(7,.slice mG ((obj S.O tk).data.length) (c11))])] ?_
   refine NL (ai.aF (NX (af.region ?_)))
   refine gN 4 (fun b12=>[(104,.slice An (i) (cn)),(106,.slice (some ⟨b12,0,none⟩) (1) (1))]) (fun b12=>[(1,a_ 3 b5),(2,A_ 2 b9 10)]) (fun _=>[]) (fun b12=>.blk b12 [vI ((cD S i)),vI 1,vI ((obj S.O tk).mode),vI ((obj S.O tk).uid),vI ((obj S.O tk).gid),vI ((obj S.O tk).sec),vI ((obj S.O tk).nano),.slice mG ((obj S.O tk).data.length) (c11),.string ⟨#[]⟩,.slice none (0) (0)] 55) (fun b12=>?_)
   refine ak.append 4 (d:=(some 107)) (t:=22) (e:=55) (z:=.agg #[vI 0,vI 0,vI 0,vI 0,vI 0,vI 0,vI 0,.slice none (0) (0),.string ⟨#[]⟩,.slice none (0) (0)]) (size:=10) (bytes:=120) (n:=i) (cap:=cn) (A:=An) (xs:=(cI K ((aI S).take i))) (s:=(.tmp 104)) (x:=(.tmp 106)) (ats:=#[22,22]) (A':=some ⟨b12,0,none⟩) (m:=1) (c':=1) (news:=[vI ((cD S i)),vI 1,vI ((obj S.O tk).mode),vI ((obj S.O tk).uid),vI ((obj S.O tk).gid),vI ((obj S.O tk).sec),vI ((obj S.O tk).nano),.slice mG ((obj S.O tk).data.length) (c11),.string ⟨#[]⟩,.slice none (0) (0)]) (fun _=>by kernel_rfl) rfl (by kernel_rfl) (fun _=>by kernel_rfl) (fun _=>by kernel_rfl) Tryz.underlying22 (by kernel_rfl) rfl (by decide) (rfl) (by simp [Value.oneCell']) (lS (j:=14) rfl) (by unfold maxLen;omega) (by omega) (fun DG DH=>?_)
   refine ak.dV 4 (p:=.abs (aC 55 10 DG (i+1) DH ((cI K ((aI S).take i))++[vI ((cD S i)),vI 1,vI ((obj S.O tk).mode),vI ((obj S.O tk).uid),vI ((obj S.O tk).gid),vI ((obj S.O tk).sec),vI ((obj S.O tk).nano),.slice mG ((obj S.O tk).data.length) (c11),.string ⟨#[]⟩,.slice none (0) (0)]))) (p':=.abs (aC 55 10 DG (i+1) DH (cI (K.put i mG c11 none 0) ((aI S).take (i+1))))) (by kernel_rfl) (congrArg (fun x=>HP.abs (aC 55 10 _ _ _ x)) (sy (dg (by omega)) (nX hI.toInv0 hi2 jE hlv) rfl rfl)) ?_
   refine ak.slot 107 (.slice DG (i+1) (DH)) (.slice DG ((i+1)) (DH)) (fun _=>by kernel_rfl) (rfl) ?_
   refine gC 2 [] [(1,a_ 3 b5)] [(3,[(0,.slice DG ((i+1)) (DH))])] ?_
   refine NL (ai.aF (NX (af.region ?_)))
   refine gK 2 [(21,vI ↑(i+1))] [(0,p_ ⟨[],none,none,none,some (vI ↑(i+1))⟩ [(Value.int .i64 (IntKind.wrap .i64 (((i:Nat):Int)+1)))=(.int .i64 ↑(i+1))] ⟨aU (by omega) (by omega) (by omega),trivial⟩)] ?_
   refine NL (ai.mem (fun w hS=>hS.j8 (e:=81) (size:=2)) ?_)
   refine ai.mem (fun w hS=>hS.oZ (R':=(iq ((aI S).take (i+1)) (K.put i mG c11 none 0))) (i:=6) (j:=1) (idx:=[0,2,3,4,5,7,8,9,10,11,12,13,14,15]) rfl rfl (by kernel_rfl) rfl (wv (dg (by omega)) (nX hI.toInv0 hi2 jE hlv)) (um (dg (by omega)) (nX hI.toInv0 hi2 jE hlv) rfl)) ?_
   refine ai.mem (fun w hS=>hS.oZ (R':=(ij ((aI S).take (i+1)) (K.put i mG c11 none 0))) (i:=5) (j:=14) (idx:=[0,1,2,3,4,6,7,8,9,10,11,12,13]) rfl rfl (by kernel_rfl) rfl (wz (dg (by omega)) (nX hI.toInv0 hi2 jE hlv)) ((uo (dg (by omega)) (nX hI.toInv0 hi2 jE hlv) rfl))) ?_
   exact ai.turn ((i+1),DG,DH,(K.put i mG c11 none 0)) (idx:=[0,2,3,19,20,21]) (pk:=[4,5,0,1,6,7,8,9,10,2,11,12]) (show (((i+1))<=S.idx.length) from (by omega)) (by show S.idx.length - ((i+1)) < S.idx.length - i;omega) (fun _=>by kernel_rfl) rfl (by kernel_rfl)
  ·have hkt:(obj S.O tk).kind=2:=hI.kind hlv
   have hel:(obj S.O tk).ah.length<=8192:=hI.fq hlv
   have hdl:(obj S.O tk).data.length<=140737488355328:=hI.Ek hlv
   refine af.region (gK 5 [(28,.map (some m)),(29,vI ((cD S i)))] [(3,a_ 6 f)] ?_)
   refine ak.eW 7 (d:=(some 30)) (t:=60) (K:=3) (E:=64) (b:=m) (n:=S.idx.length) (f:=(aV (aT L S.idx))) (x:=(.tmp 28)) (ix:=(.tmp 29)) (key:=.int .i64 ((cD S i))) (z:=.nilIface) (kl:=(.int .i64 (cD S i))) (r:=(some (dh L ⟨tk,2⟩))) (fun _=>by kernel_rfl) (by kernel_rfl) (fun _=>by kernel_rfl) (fun _=>by kernel_rfl) dW Tryz.underlying60 (fun _=>by kernel_rfl) (jf (yQ hI.toInv0 hi2)) (by rw [eX,hget,jE];rfl) ?_
   refine gK 1 [(6,.iface 76 (vP (L.b tk)))] [] ?_
   refine NS (gK 1 [(31,.iface 76 (vP (L.b tk)))] [] ?_)
   refine gL [] (cJ (L.b tk)) ?_
   rintro _ _ ⟨rfl,rfl⟩
   refine gK 1 [(7,vP (L.b tk))] [] ?_
   refine NN (af.seq (af.mF (S:=[pO S.O L]) [0,1,3,4,5,6,7,8,9,10,11,12,13,14,15,16,17,18] [.beside [2,19] 20,.one 21] [8] (by kernel_rfl) (by kernel_rfl) rfl (by kernel_rfl) ?_))
   refine gP (ux f b4 b5++[(6,.iface 76 (vP (L.b tk)))]++uy A7 S c8 i++[(33,vI ((cD S i))),(34,.iface 76 (vP (L.b tk)))]++yT S tk) [0,1,3,4,5,6,7,8,9,10,11,12,13,14,15,16,17,18] [(5,v_ 0 (pP L hkt)),(9,v_ 0 (uR L hkt)),(13,v_ 0 (uS L hkt)),(17,p_ ⟨[.view 0 (.int .i64 ((obj S.O tk).sec)),.view 0 (.int .i64 ((obj S.O tk).nano))],none,none,none,none⟩ [(∀ F w,(ay (bD S.O L)).h F w->w.cell? ⟨(L.b tk),5,none⟩=some (vI ((obj S.O tk).nano))),(∀ F w,(ay (bD S.O L)).h F w->w.cell? ⟨(L.b tk),4,none⟩=some (vI ((obj S.O tk).sec)))] ⟨dw (by rw [hkt];decide) (rfl),dw (by rw [hkt];decide) (rfl),trivial⟩)] ?_
   refine fL.beside (j:=20) (dj:=8) (R:=fun f_ l_=>f_=([(52,.agg #[vI ((cD S i)),vI 2,vI ((obj S.O tk).mode),vI ((obj S.O tk).uid),vI ((obj S.O tk).gid),vI ((obj S.O tk).sec),vI ((obj S.O tk).nano),.slice none (0) (0),.string ⟨#[]⟩,.slice none (0) (0)]),(35,vI 2)]++ux f b4 b5++[(6,.iface 76 (vP (L.b tk)))]++uy A7 S c8 i++[(33,vI ((cD S i))),(34,.iface 76 (vP (L.b tk)))]++yT S tk)/\l_=[]) [0,1,2,3,4,5,6,7,8,9,10,11] [8] [(2,35),(19,52)] rfl (pc:=[]) (pj:=[]) (Z:=(sC b5 An i cn K S A7 c8 b4 f m t L++[pD S.O L,pE S.O L,.abs R])) (by kernel_rfl) rfl (by kernel_rfl) rfl rfl (iu.of (ι:=Nat) (v:=fun (b15:Nat)=>vP b15) (l:=fun (b15:Nat)=>[LP b15]) [35,52] rfl rfl rfl rfl ?_) ?_ ?_
   ·intro u Aq
    show ak _ _ _ _ _ [(35,(u 35)),(52,(u 52)),(0,vP f),(2,vP b4),(3,vP b5),(6,.iface 76 (vP (L.b tk))),(19,.slice A7 ((keys S.idx).length) (c8)),(20,vI ↑((keys S.idx).length)),(21,vI ↑i),(33,vI ((cD S i))),(34,.iface 76 (vP (L.b tk))),(39,vI ((obj S.O tk).mode)),(43,vI ((obj S.O tk).uid)),(47,vI ((obj S.O tk).gid)),(51,.agg #[vI ((obj S.O tk).sec),vI ((obj S.O tk).nano)])] [.abs Aq] _
    refine gN 1 (fun b15=>[(8,vP b15)]) (fun _=>[]) (fun _=>[]) (fun b15=>.blk b15 [vI 0,vI 0,vI 0,vI 0,vI 0,vI 0,vI 0,.slice none (0) (0),.string ⟨#[]⟩,.slice none (0) (0)] 55) (fun b15=>?_)
    refine NL ?_
    exact MD b15 [8,35,52,0,2,3,6,19,20,21,33,34,39,43,47,51] [1,0]
   ·refine ic.step (iu.of (ι:=Unit) (v:=fun (_:Unit)=>.int .i64 2) (l:=fun (_:Unit)=>[]) [8] rfl rfl rfl rfl ?_) rfl ?_
    ·intro u Aq
     show ak _ _ _ _ _ [(8,(u 8)),(0,vP f),(2,vP b4),(3,vP b5),(6,.iface 76 (vP (L.b tk))),(19,.slice A7 ((keys S.idx).length) (c8)),(20,vI ↑((keys S.idx).length)),(21,vI ↑i),(33,vI ((cD S i))),(34,.iface 76 (vP (L.b tk))),(39,vI ((obj S.O tk).mode)),(43,vI ((obj S.O tk).uid)),(47,vI ((obj S.O tk).gid)),(51,.agg #[vI ((obj S.O tk).sec),vI ((obj S.O tk).nano)])] [.abs Aq] _
     refine gL [] (ko (vP (L.b tk))) ?_
     rintro _ _ ⟨rfl,rfl⟩
     refine NL ?_
     exact MD () [35,8,0,2,3,6,19,20,21,33,34,39,43,47,51] [0]
    rintro _ _ ⟨_,rfl,rfl⟩
    refine ic.step (iu.of (ι:=Unit) (v:=fun (_:Unit)=>.agg #[vI ((cD S i)),vI 2,vI ((obj S.O tk).mode),vI ((obj S.O tk).uid),vI ((obj S.O tk).gid),vI ((obj S.O tk).sec),vI ((obj S.O tk).nano),.slice none (0) (0),.string ⟨#[]⟩,.slice none (0) (0)]) (l:=fun (_:Unit)=>[]) [8] rfl rfl rfl rfl ?_) rfl ?_
    ·intro u Aq
     show ak _ _ _ _ _ [(8,(u 8)),(35,vI 2),(0,vP f),(2,vP b4),(3,vP b5),(6,.iface 76 (vP (L.b tk))),(19,.slice A7 ((keys S.idx).length) (c8)),(20,vI ↑((keys S.idx).length)),(21,vI ↑i),(33,vI ((cD S i))),(34,.iface 76 (vP (L.b tk))),(39,vI ((obj S.O tk).mode)),(43,vI ((obj S.O tk).uid)),(47,vI ((obj S.O tk).gid)),(51,.agg #[vI ((obj S.O tk).sec),vI ((obj S.O tk).nano)])] [.abs Aq] _
     refine gK 1 [(52,.agg #[vI ((cD S i)),vI 2,vI ((obj S.O tk).mode),vI ((obj S.O tk).uid),vI ((obj S.O tk).gid),vI ((obj S.O tk).sec),vI ((obj S.O tk).nano),.slice none (0) (0),.string ⟨#[]⟩,.slice none (0) (0)])] [] ?_
     refine NL ?_
     exact MD () [52,8,35,0,2,3,6,19,20,21,33,34,39,43,47,51] [0]
    rintro _ _ ⟨_,rfl,rfl⟩
    exact⟨rfl,rfl⟩
   rintro _ _ ⟨rfl,rfl⟩ _ _ ⟨b15,rfl,rfl⟩
   refine fL.last rfl rfl ?_
   refine gC 1 [] [(0,A_ 0 b15 10)] [(0,([(0,vI ((cD S i))),(1,vI 2)]++IC S tk))] ?_
   refine NL (ai.np (NX (af.seq (SR ?_))))
   refine gK 1 [(53,.iface 76 (vP (L.b tk)))] [] ?_
   refine NN (af.block (SR ?_))
   refine gK 3 [(55,.bool false),(56,.pointer none)] [] ?_
   refine NN (CF (SR (gK 3 [(64,.bool false),(65,.pointer none)] [] ?_)))
   refine NN (CF (SR (gK 3 [(72,.bool true),(73,vP (L.b tk))] [] ?_)))
   refine NN (CT (SR (gK 1 [(11,vP (L.b tk))] [] ?_)))
   refine NS (gK 4 [(77,.map (some (L.m tk)))] [(3,v_ 9 (br L hkt))] ?_)
   refine ak.mem (cO:=([.blk b15 [vI ((cD S i)),vI 2,vI ((obj S.O tk).mode),vI ((obj S.O tk).uid),vI ((obj S.O tk).gid),vI ((obj S.O tk).sec),vI ((obj S.O tk).nano),.slice none (0) (0),.string ⟨#[]⟩,.slice none (0) (0)] 55]++sC b5 An i cn K S A7 c8 b4 f m t L++[pD S.O L,LQ S L tk,.abs R,Cg L tk S])) (fun w hS=>hS.KZ (i:=11) (k:=tk) rfl (hkt)) ?_
   refine gL [] (Ix (some (L.m tk))) ?_
   rintro _ _ ⟨b16,rfl,rfl⟩
   refine gL [14,0] (ER L (L.m tk) b16 (obj S.O tk).ah.length (obj S.O tk).ah (hI.sorted _ hlv) hel) ?_
   rintro _ _ ⟨dr,dP,rfl,rfl⟩
   refine gK 1 [(80,vI ↑((obj S.O tk).ah.length))] [] ?_
   refine ak.mem (fun w hS=>hS.j8 (e:=81) (size:=2)) ?_
   refine gK 1 [(81,vI 0)] [] ?_
   refine NN (af.block ?_)
   refine af.loop (ι:=Nat×(Option Addr)×Nat) (fun ((j,Ae,ce):Nat×(Option Addr)×Nat)=>(j<=(obj S.O tk).ah.length)) (fun ((j,Ae,ce):Nat×(Option Addr)×Nat)=>(obj S.O tk).ah.length - j) (fun ((j,Ae,ce):Nat×(Option Addr)×Nat)=>(Ch f b4 b5 b15 L tk A7 S c8 i dr dP j)) (fun ((j,Ae,ce):Nat×(Option Addr)×Nat)=>([iw b15 S i tk Ae j ce,lN Ae j ce S tk]++jw L tk S b16 dr dP b5 An i cn K A7 c8 b4 f m t R)) (0,none,0) (idx:=[0,2,3,8,11,19,20,21,79,80,81]) (pk:=[3,16,0,1,2,4,5,6,7,8,9,10,11,12,13,14,15]) (show (0<=(obj S.O tk).ah.length) from (Nat.zero_le _)) (fun _=>by kernel_rfl) rfl (by kernel_rfl) ?_
   rintro⟨j,Ae,ce⟩ hj
   show af _ _ _ _ (Ch f b4 b5 b15 L tk A7 S c8 i dr dP j) ([iw b15 S i tk Ae j ce,lN Ae j ce S tk]++jw L tk S b16 dr dP b5 An i cn K A7 c8 b4 f m t R) _
   refine SR (gK 1 [(82,.bool (decide ((((j:Nat):Int):Int) < ((((obj S.O tk).ah.length:Nat):Int):Int))))] [] ?_)
   refine NN (af.seq (af.aR (p:=(((j:Nat):Int):Int) < ((((obj S.O tk).ah.length:Nat):Int):Int)) (fun _=>by kernel_rfl) (fun Pg=>?_) (fun Pg=>?_)))
   ·have hj2:j < (obj S.O tk).ah.length:=by omega
    refine af.skip (NX (af.seq (af.block (SR ?_))))
    refine ak.tell (p:=(dr=some ⟨ar dr,aq dr,none⟩)) (fun w hS=>let ⟨F,h⟩:=hS.get (i:=4) rfl;(aC.DT h (by omega)).1) (fun Ph=>?_)
    refine gK 3 [(13,.string (dU (obj S.O tk).ah j))] [(0,p_ ⟨[],some j,none,some ⟨(ar dr),aq dr,none⟩,none⟩ [((j:Nat):Int)=((j:Nat):Int),j < (obj S.O tk).ah.length,(⟨(ar dr),aq dr,none⟩:Addr).spot=none,(dr:Option Addr)=some ⟨(ar dr),aq dr,none⟩] ⟨rfl,by omega,rfl,Ph,trivial⟩),(1,p_ ⟨[.view 4 (.string (dU (obj S.O tk).ah j))],none,none,none,none⟩ [(∀ F w,(aC 9 1 dr ((obj S.O tk).ah.length) dP (nW (obj S.O tk).ah)).h F w->w.cell? ⟨(ar dr),aq dr+j * 1,none⟩=some (.string (dU (obj S.O tk).ah j)))] ⟨aC.cellAt (i:=j) (j:=0) (by omega) (EV hj2),trivial⟩)] ?_
    refine NN ?_
    obtain⟨hgd,h4⟩:=Om hI.toInv0 hlv hj2
    have hgs:(dU (obj S.O tk).ah j).size<=255:=hgd.2.1
    rcases h4 with ⟨ek,hle,wu,Gx⟩|⟨ek,hle,wu,Gx⟩|⟨ek,hle,wu,Gx⟩
    ·have hke:(obj S.O ek).kind=1:=hI.kind wu
     refine af.ct (S:=[Cg L tk S,pO S.O L,iw b15 S i tk Ae j ce]) [0,1,2,3,4,5,6,7,8,9,10,11,12,13,14,15,16,17] 9 [2,13,0] (by kernel_rfl) (by kernel_rfl) rfl (by kernel_rfl) ?_
     refine gR 1 [8,9,10,11,12,13,14,15,16,17] (Ch f b4 b5 b15 L tk A7 S c8 i dr dP j++ou Ae j ce S tk++[(91,.map (some (L.m tk))),(92,.string (dU (obj S.O tk).ah j))]) [0,1,2,3,4,5,6,7] [(1,a_ 2 b15),(6,v_ 1 (br L hkt))] ?_
     refine aG.eW 0 (d:=(some 93)) (t:=77) (K:=9) (E:=64) (b:=(L.m tk)) (cnt:=(obj S.O tk).ah.length) (f:=(gi L (obj S.O tk).ah)) (x:=(.tmp 91)) (ix:=(.tmp 92)) (key:=.string (dU (obj S.O tk).ah j)) (z:=.nilIface) (kl:=(.string (dU (obj S.O tk).ah j).data.toList)) (q:=(some (dh L ⟨ek,1⟩))) (by kernel_rfl) (by kernel_rfl) (fun _=>by kernel_rfl) (fun _=>by kernel_rfl) vV Tryz.underlying77 (fun _=>by kernel_rfl) (ye (by omega)) (by rw [o3,hle];rfl) (by kernel_rfl) ?_
     refine mL [2,13,0] [] (cJ (L.b ek)) ?_ (by rintro _ _ ⟨rfl,rfl⟩;rfl)
     rintro _ _ ⟨rfl,rfl⟩
     refine aG.cut (ι:=Unit) (fr':=fun (_:Unit)=>(jX f b4 b5 b15 L tk A7 S c8 i dr dP j++ou Ae j ce S tk++[(95,vP (L.b ek))])) (hp':=fun (_:Unit)=>([iw b15 S i tk Ae j ce,lN Ae j ce S tk]++jw L tk S b16 dr dP b5 An i cn K A7 c8 b4 f m t R)) [2,13,0] rfl rfl ?_ rfl (fun _=>by kernel_rfl) ?_
     ·refine gK 1 [(95,vP (L.b ek))] [] ?_
      refine NL ?_
      exact MD () [0,2,3,8,11,19,20,21,79,80,81,86,87,95] [0,1,2,3,4,5,6,7,8,9,10,11,12,13,14,15,16]
     rintro _
     refine aG.cut (ι:=Unit) (fr':=fun (_:Unit)=>(jX f b4 b5 b15 L tk A7 S c8 i dr dP j++ou Ae j ce S tk++[(96,vP (L.b ek))])) (hp':=fun (_:Unit)=>([iw b15 S i tk Ae j ce,lN Ae j ce S tk]++jw L tk S b16 dr dP b5 An i cn K A7 c8 b4 f m t R)) [2,13,0] rfl rfl ?_ rfl (fun _=>by kernel_rfl) ?_
     ·refine gK 1 [(96,vP (L.b ek))] [] ?_
      refine NL ?_
      exact MD () [0,2,3,8,11,19,20,21,79,80,81,86,87,96] [0,1,2,3,4,5,6,7,8,9,10,11,12,13,14,15,16]
     rintro _
     refine aG.cut (ι:=Unit) (fr':=fun (_:Unit)=>(jX f b4 b5 b15 L tk A7 S c8 i dr dP j++ou Ae j ce S tk++[(97,vI ((obj S.O ek).id))])) (hp':=fun (_:Unit)=>([iw b15 S i tk Ae j ce,lN Ae j ce S tk]++jw L tk S b16 dr dP b5 An i cn K A7 c8 b4 f m t R)) [2,13,0] rfl rfl ?_ rfl (fun _=>by kernel_rfl) ?_
     ·refine gK 1 [(97,vI ((obj S.O ek).id))] [(0,v_ 13 (oh L hke))] ?_
      refine NL ?_
      exact MD () [0,2,3,8,11,19,20,21,79,80,81,86,87,97] [0,1,2,3,4,5,6,7,8,9,10,11,12,13,14,15,16]
     rintro _
     refine aG.cut (ι:=Unit) (fr':=fun (_:Unit)=>(jX f b4 b5 b15 L tk A7 S c8 i dr dP j++[(86,.slice Ae (j) (ce)),(98,.agg #[.string (dU (obj S.O tk).ah j),vI ((obj S.O ek).id)])])) (hp':=fun (_:Unit)=>([iw b15 S i tk Ae j ce,lN Ae j ce S tk]++jw L tk S b16 dr dP b5 An i cn K A7 c8 b4 f m t R)) [2,13,0] rfl rfl ?_ rfl (fun _=>by kernel_rfl) ?_
     ·refine gK 1 [(98,.agg #[.string (dU (obj S.O tk).ah j),vI ((obj S.O ek).id)])] [] ?_
      refine NL ?_
      exact MD () [0,2,3,8,11,19,20,21,79,80,81,86,98] [0,1,2,3,4,5,6,7,8,9,10,11,12,13,14,15,16]
     rintro _
     refine mN [2,13,0] (fun b19=>[(99,.slice (some ⟨b19,0,none⟩) (1) (1))]) (fun _=>[]) (fun b19=>.blk b19 [.string (dU (obj S.O tk).ah j),vI ((obj S.O ek).id)] 81) (fun b19=>?_)
     refine aG.cut (ι:=(Option Addr)×Nat) (fr':=fun ((ld,lf):(Option Addr)×Nat)=>(jX f b4 b5 b15 L tk A7 S c8 i dr dP j++[(100,.slice ld ((j+1)) (lf))])) (hp':=fun ((ld,lf):(Option Addr)×Nat)=>([iw b15 S i tk Ae j ce,yR ld j lf S tk]++jw L tk S b16 dr dP b5 An i cn K A7 c8 b4 f m t R++[yS b19 S tk j ek])) [2,13,0] rfl rfl ?_ rfl (fun _=>by kernel_rfl) ?_
     ·refine ak.append 1 (d:=(some 100)) (t:=53) (e:=81) (z:=.agg #[.string ⟨#[]⟩,vI 0]) (size:=2) (bytes:=24) (n:=j) (cap:=ce) (A:=Ae) (xs:=(fA (((obj S.O tk).ah.take j).map (jv S.O)))) (s:=(.tmp 86)) (x:=(.tmp 99)) (ats:=#[53,53]) (A':=some ⟨b19,0,none⟩) (m:=1) (c':=1) (news:=[.string (dU (obj S.O tk).ah j),vI ((obj S.O ek).id)]) (fun _=>by kernel_rfl) rfl (by kernel_rfl) (fun _=>by kernel_rfl) (fun _=>by kernel_rfl) Tryz.underlying53 (by kernel_rfl) rfl (by decide) (rfl) (by simp [Value.oneCell']) (lS (j:=17) rfl) (by unfold maxLen;omega) (by omega) (fun ld lf=>?_)
      refine ak.dV 1 (p:=.abs (aC 81 2 ld (j+1) lf ((fA (((obj S.O tk).ah.take j).map (jv S.O)))++[.string (dU (obj S.O tk).ah j),vI ((obj S.O ek).id)]))) (p':=.abs (aC 81 2 ld (j+1) lf (fA (((obj S.O tk).ah.take (j+1)).map (jv S.O))))) (by kernel_rfl) (congrArg (fun x=>HP.abs (aC 81 2 _ _ _ x)) (uq hj2 Gx)) ?_
      refine ak.slot 100 (.slice ld (j+1) (lf)) (.slice ld ((j+1)) (lf)) (fun _=>by kernel_rfl) (rfl) ?_
      refine NL ?_
      exact MD (ld,lf) [0,2,3,8,11,19,20,21,79,80,81,100] [0,1,2,3,4,5,6,7,8,9,10,11,12,13,14,15,16,17]
     rintro⟨ld,lf⟩
     refine aG.cut (ι:=Unit) (fr':=fun (_:Unit)=>(jX f b4 b5 b15 L tk A7 S c8 i dr dP j++[(100,.slice ld ((j+1)) (lf)),(101,.pointer (some ⟨b15,9,none⟩))])) (hp':=fun (_:Unit)=>([iw b15 S i tk Ae j ce,yR ld j lf S tk]++jw L tk S b16 dr dP b5 An i cn K A7 c8 b4 f m t R++[yS b19 S tk j ek])) [2,13,0] rfl rfl ?_ rfl (fun _=>by kernel_rfl) ?_
     ·refine gK 1 [(101,.pointer (some ⟨b15,9,none⟩))] [] ?_
      refine NL ?_
      exact MD () [0,2,3,8,11,19,20,21,79,80,81,100,101] [0,1,2,3,4,5,6,7,8,9,10,11,12,13,14,15,16,17]
     rintro _
     refine aG.last rfl rfl ?_
     refine gC 1 [] [(0,a_ 0 b15)] [(0,[(9,.slice ld ((j+1)) (lf))])] ?_
     refine NL (ai.np (ai.aF (NX (af.region ?_))))
     refine gK 2 [(81,vI ↑(j+1))] [(0,p_ ⟨[],none,none,none,some (vI ↑(j+1))⟩ [(Value.int .i64 (IntKind.wrap .i64 (((j:Nat):Int)+1)))=(.int .i64 ↑(j+1))] ⟨aU (by omega) (by omega) (by omega),trivial⟩)] ?_
     refine NL ?_
     exact ai.turn ((j+1),ld,lf) (idx:=[0,2,3,8,11,19,20,21,79,80,81]) (pk:=[0,1,2,3,4,5,6,7,8,9,10,11,12,13,14,15,16]) (show (((j+1))<=(obj S.O tk).ah.length) from (by omega)) (by show (obj S.O tk).ah.length - ((j+1)) < (obj S.O tk).ah.length - j;omega) (fun _=>by kernel_rfl) rfl (by kernel_rfl)
    ·have hke:(obj S.O ek).kind=2:=hI.kind wu
     refine af.ct (S:=[Cg L tk S,pO S.O L,iw b15 S i tk Ae j ce]) [0,1,2,3,4,5,6,7,8,9,10,11,12,13,14,15,16,17] 9 [2,13,0] (by kernel_rfl) (by kernel_rfl) rfl (by kernel_rfl) ?_
     refine gR 1 [8,9,10,11,12,13,14,15,16,17] (Ch f b4 b5 b15 L tk A7 S c8 i dr dP j++ou Ae j ce S tk++[(91,.map (some (L.m tk))),(92,.string (dU (obj S.O tk).ah j))]) [0,1,2,3,4,5,6,7] [(1,a_ 2 b15),(6,v_ 1 (br L hkt))] ?_
     refine aG.eW 0 (d:=(some 93)) (t:=77) (K:=9) (E:=64) (b:=(L.m tk)) (cnt:=(obj S.O tk).ah.length) (f:=(gi L (obj S.O tk).ah)) (x:=(.tmp 91)) (ix:=(.tmp 92)) (key:=.string (dU (obj S.O tk).ah j)) (z:=.nilIface) (kl:=(.string (dU (obj S.O tk).ah j).data.toList)) (q:=(some (dh L ⟨ek,2⟩))) (by kernel_rfl) (by kernel_rfl) (fun _=>by kernel_rfl) (fun _=>by kernel_rfl) vV Tryz.underlying77 (fun _=>by kernel_rfl) (ye (by omega)) (by rw [o3,hle];rfl) (by kernel_rfl) ?_
     refine mL [2,13,0] [] (cJ (L.b ek)) ?_ (by rintro _ _ ⟨rfl,rfl⟩;rfl)
     rintro _ _ ⟨rfl,rfl⟩
     refine aG.cut (ι:=Unit) (fr':=fun (_:Unit)=>(jX f b4 b5 b15 L tk A7 S c8 i dr dP j++ou Ae j ce S tk++[(95,vP (L.b ek))])) (hp':=fun (_:Unit)=>([iw b15 S i tk Ae j ce,lN Ae j ce S tk]++jw L tk S b16 dr dP b5 An i cn K A7 c8 b4 f m t R)) [2,13,0] rfl rfl ?_ rfl (fun _=>by kernel_rfl) ?_
     ·refine gK 1 [(95,vP (L.b ek))] [] ?_
      refine NL ?_
      exact MD () [0,2,3,8,11,19,20,21,79,80,81,86,87,95] [0,1,2,3,4,5,6,7,8,9,10,11,12,13,14,15,16]
     rintro _
     refine aG.cut (ι:=Unit) (fr':=fun (_:Unit)=>(jX f b4 b5 b15 L tk A7 S c8 i dr dP j++ou Ae j ce S tk++[(96,vP (L.b ek))])) (hp':=fun (_:Unit)=>([iw b15 S i tk Ae j ce,lN Ae j ce S tk]++jw L tk S b16 dr dP b5 An i cn K A7 c8 b4 f m t R)) [2,13,0] rfl rfl ?_ rfl (fun _=>by kernel_rfl) ?_
     ·refine gK 1 [(96,vP (L.b ek))] [] ?_
      refine NL ?_
      exact MD () [0,2,3,8,11,19,20,21,79,80,81,86,87,96] [0,1,2,3,4,5,6,7,8,9,10,11,12,13,14,15,16]
     rintro _
     refine aG.cut (ι:=Unit) (fr':=fun (_:Unit)=>(jX f b4 b5 b15 L tk A7 S c8 i dr dP j++ou Ae j ce S tk++[(97,vI ((obj S.O ek).id))])) (hp':=fun (_:Unit)=>([iw b15 S i tk Ae j ce,lN Ae j ce S tk]++jw L tk S b16 dr dP b5 An i cn K A7 c8 b4 f m t R)) [2,13,0] rfl rfl ?_ rfl (fun _=>by kernel_rfl) ?_
     ·refine gK 1 [(97,vI ((obj S.O ek).id))] [(0,v_ 13 (oh L hke))] ?_
      refine NL ?_
      exact MD () [0,2,3,8,11,19,20,21,79,80,81,86,87,97] [0,1,2,3,4,5,6,7,8,9,10,11,12,13,14,15,16]
     rintro _
     refine aG.cut (ι:=Unit) (fr':=fun (_:Unit)=>(jX f b4 b5 b15 L tk A7 S c8 i dr dP j++[(86,.slice Ae (j) (ce)),(98,.agg #[.string (dU (obj S.O tk).ah j),vI ((obj S.O ek).id)])])) (hp':=fun (_:Unit)=>([iw b15 S i tk Ae j ce,lN Ae j ce S tk]++jw L tk S b16 dr dP b5 An i cn K A7 c8 b4 f m t R)) [2,13,0] rfl rfl ?_ rfl (fun _=>by kernel_rfl) ?_
     ·refine gK 1 [(98,.agg #[.string (dU (obj S.O tk).ah j),vI ((obj S.O ek).id)])] [] ?_
      refine NL ?_
      exact MD () [0,2,3,8,11,19,20,21,79,80,81,86,98] [0,1,2,3,4,5,6,7,8,9,10,11,12,13,14,15,16]
     rintro _
     refine mN [2,13,0] (fun Ck=>[(99,.slice (some ⟨Ck,0,none⟩) (1) (1))]) (fun _=>[]) (fun Ck=>.blk Ck [.string (dU (obj S.O tk).ah j),vI ((obj S.O ek).id)] 81) (fun Ck=>?_)
     refine aG.cut (ι:=(Option Addr)×Nat) (fr':=fun ((qB,qC):(Option Addr)×Nat)=>(jX f b4 b5 b15 L tk A7 S c8 i dr dP j++[(100,.slice qB ((j+1)) (qC))])) (hp':=fun ((qB,qC):(Option Addr)×Nat)=>([iw b15 S i tk Ae j ce,yR qB j qC S tk]++jw L tk S b16 dr dP b5 An i cn K A7 c8 b4 f m t R++[yS Ck S tk j ek])) [2,13,0] rfl rfl ?_ rfl (fun _=>by kernel_rfl) ?_
     ·refine ak.append 1 (d:=(some 100)) (t:=53) (e:=81) (z:=.agg #[.string ⟨#[]⟩,vI 0]) (size:=2) (bytes:=24) (n:=j) (cap:=ce) (A:=Ae) (xs:=(fA (((obj S.O tk).ah.take j).map (jv S.O)))) (s:=(.tmp 86)) (x:=(.tmp 99)) (ats:=#[53,53]) (A':=some ⟨Ck,0,none⟩) (m:=1) (c':=1) (news:=[.string (dU (obj S.O tk).ah j),vI ((obj S.O ek).id)]) (fun _=>by kernel_rfl) rfl (by kernel_rfl) (fun _=>by kernel_rfl) (fun _=>by kernel_rfl) Tryz.underlying53 (by kernel_rfl) rfl (by decide) (rfl) (by simp [Value.oneCell']) (lS (j:=17) rfl) (by unfold maxLen;omega) (by omega) (fun qB qC=>?_)
      refine ak.dV 1 (p:=.abs (aC 81 2 qB (j+1) qC ((fA (((obj S.O tk).ah.take j).map (jv S.O)))++[.string (dU (obj S.O tk).ah j),vI ((obj S.O ek).id)]))) (p':=.abs (aC 81 2 qB (j+1) qC (fA (((obj S.O tk).ah.take (j+1)).map (jv S.O))))) (by kernel_rfl) (congrArg (fun x=>HP.abs (aC 81 2 _ _ _ x)) (uq hj2 Gx)) ?_
      refine ak.slot 100 (.slice qB (j+1) (qC)) (.slice qB ((j+1)) (qC)) (fun _=>by kernel_rfl) (rfl) ?_
      refine NL ?_
      exact MD (qB,qC) [0,2,3,8,11,19,20,21,79,80,81,100] [0,1,2,3,4,5,6,7,8,9,10,11,12,13,14,15,16,17]
     rintro⟨qB,qC⟩
     refine aG.cut (ι:=Unit) (fr':=fun (_:Unit)=>(jX f b4 b5 b15 L tk A7 S c8 i dr dP j++[(100,.slice qB ((j+1)) (qC)),(101,.pointer (some ⟨b15,9,none⟩))])) (hp':=fun (_:Unit)=>([iw b15 S i tk Ae j ce,yR qB j qC S tk]++jw L tk S b16 dr dP b5 An i cn K A7 c8 b4 f m t R++[yS Ck S tk j ek])) [2,13,0] rfl rfl ?_ rfl (fun _=>by kernel_rfl) ?_
     ·refine gK 1 [(101,.pointer (some ⟨b15,9,none⟩))] [] ?_
      refine NL ?_
      exact MD () [0,2,3,8,11,19,20,21,79,80,81,100,101] [0,1,2,3,4,5,6,7,8,9,10,11,12,13,14,15,16,17]
     rintro _
     refine aG.last rfl rfl ?_
     refine gC 1 [] [(0,a_ 0 b15)] [(0,[(9,.slice qB ((j+1)) (qC))])] ?_
     refine NL (ai.np (ai.aF (NX (af.region ?_))))
     refine gK 2 [(81,vI ↑(j+1))] [(0,p_ ⟨[],none,none,none,some (vI ↑(j+1))⟩ [(Value.int .i64 (IntKind.wrap .i64 (((j:Nat):Int)+1)))=(.int .i64 ↑(j+1))] ⟨aU (by omega) (by omega) (by omega),trivial⟩)] ?_
     refine NL ?_
     exact ai.turn ((j+1),qB,qC) (idx:=[0,2,3,8,11,19,20,21,79,80,81]) (pk:=[0,1,2,3,4,5,6,7,8,9,10,11,12,13,14,15,16]) (show (((j+1))<=(obj S.O tk).ah.length) from (by omega)) (by show (obj S.O tk).ah.length - ((j+1)) < (obj S.O tk).ah.length - j;omega) (fun _=>by kernel_rfl) rfl (by kernel_rfl)
    have hke:(obj S.O ek).kind=3:=hI.kind wu
    refine af.ct (S:=[Cg L tk S,pO S.O L,iw b15 S i tk Ae j ce]) [0,1,2,3,4,5,6,7,8,9,10,11,12,13,14,15,16,17] 9 [2,13,0] (by kernel_rfl) (by kernel_rfl) rfl (by kernel_rfl) ?_
    refine gR 1 [8,9,10,11,12,13,14,15,16,17] (Ch f b4 b5 b15 L tk A7 S c8 i dr dP j++ou Ae j ce S tk++[(91,.map (some (L.m tk))),(92,.string (dU (obj S.O tk).ah j))]) [0,1,2,3,4,5,6,7] [(1,a_ 2 b15),(6,v_ 1 (br L hkt))] ?_
    refine aG.eW 0 (d:=(some 93)) (t:=77) (K:=9) (E:=64) (b:=(L.m tk)) (cnt:=(obj S.O tk).ah.length) (f:=(gi L (obj S.O tk).ah)) (x:=(.tmp 91)) (ix:=(.tmp 92)) (key:=.string (dU (obj S.O tk).ah j)) (z:=.nilIface) (kl:=(.string (dU (obj S.O tk).ah j).data.toList)) (q:=(some (dh L ⟨ek,3⟩))) (by kernel_rfl) (by kernel_rfl) (fun _=>by kernel_rfl) (fun _=>by kernel_rfl) vV Tryz.underlying77 (fun _=>by kernel_rfl) (ye (by omega)) (by rw [o3,hle];rfl) (by kernel_rfl) ?_
    refine mL [2,13,0] [] (cJ (L.b ek)) ?_ (by rintro _ _ ⟨rfl,rfl⟩;rfl)
    rintro _ _ ⟨rfl,rfl⟩
    refine aG.cut (ι:=Unit) (fr':=fun (_:Unit)=>(jX f b4 b5 b15 L tk A7 S c8 i dr dP j++ou Ae j ce S tk++[(95,vP (L.b ek))])) (hp':=fun (_:Unit)=>([iw b15 S i tk Ae j ce,lN Ae j ce S tk]++jw L tk S b16 dr dP b5 An i cn K A7 c8 b4 f m t R)) [2,13,0] rfl rfl ?_ rfl (fun _=>by kernel_rfl) ?_
    ·refine gK 1 [(95,vP (L.b ek))] [] ?_
     refine NL ?_
     exact MD () [0,2,3,8,11,19,20,21,79,80,81,86,87,95] [0,1,2,3,4,5,6,7,8,9,10,11,12,13,14,15,16]
    rintro _
    refine aG.cut (ι:=Unit) (fr':=fun (_:Unit)=>(jX f b4 b5 b15 L tk A7 S c8 i dr dP j++ou Ae j ce S tk++[(96,vP (L.b ek))])) (hp':=fun (_:Unit)=>([iw b15 S i tk Ae j ce,lN Ae j ce S tk]++jw L tk S b16 dr dP b5 An i cn K A7 c8 b4 f m t R)) [2,13,0] rfl rfl ?_ rfl (fun _=>by kernel_rfl) ?_
    ·refine gK 1 [(96,vP (L.b ek))] [] ?_
     refine NL ?_
     exact MD () [0,2,3,8,11,19,20,21,79,80,81,86,87,96] [0,1,2,3,4,5,6,7,8,9,10,11,12,13,14,15,16]
    rintro _
    refine aG.cut (ι:=Unit) (fr':=fun (_:Unit)=>(jX f b4 b5 b15 L tk A7 S c8 i dr dP j++ou Ae j ce S tk++[(97,vI ((obj S.O ek).id))])) (hp':=fun (_:Unit)=>([iw b15 S i tk Ae j ce,lN Ae j ce S tk]++jw L tk S b16 dr dP b5 An i cn K A7 c8 b4 f m t R)) [2,13,0] rfl rfl ?_ rfl (fun _=>by kernel_rfl) ?_
    ·refine gK 1 [(97,vI ((obj S.O ek).id))] [(0,v_ 13 (oh L hke))] ?_
     refine NL ?_
     exact MD () [0,2,3,8,11,19,20,21,79,80,81,86,87,97] [0,1,2,3,4,5,6,7,8,9,10,11,12,13,14,15,16]
    rintro _
    refine aG.cut (ι:=Unit) (fr':=fun (_:Unit)=>(jX f b4 b5 b15 L tk A7 S c8 i dr dP j++[(86,.slice Ae (j) (ce)),(98,.agg #[.string (dU (obj S.O tk).ah j),vI ((obj S.O ek).id)])])) (hp':=fun (_:Unit)=>([iw b15 S i tk Ae j ce,lN Ae j ce S tk]++jw L tk S b16 dr dP b5 An i cn K A7 c8 b4 f m t R)) [2,13,0] rfl rfl ?_ rfl (fun _=>by kernel_rfl) ?_
    ·refine gK 1 [(98,.agg #[.string (dU (obj S.O tk).ah j),vI ((obj S.O ek).id)])] [] ?_
     refine NL ?_
     exact MD () [0,2,3,8,11,19,20,21,79,80,81,86,98] [0,1,2,3,4,5,6,7,8,9,10,11,12,13,14,15,16]
    rintro _
    refine mN [2,13,0] (fun Cl=>[(99,.slice (some ⟨Cl,0,none⟩) (1) (1))]) (fun _=>[]) (fun Cl=>.blk Cl [.string (dU (obj S.O tk).ah j),vI ((obj S.O ek).id)] 81) (fun Cl=>?_)
    refine aG.cut (ι:=(Option Addr)×Nat) (fr':=fun ((qD,qE):(Option Addr)×Nat)=>(jX f b4 b5 b15 L tk A7 S c8 i dr dP j++[(100,.slice qD ((j+1)) (qE))])) (hp':=fun ((qD,qE):(Option Addr)×Nat)=>([iw b15 S i tk Ae j ce,yR qD j qE S tk]++jw L tk S b16 dr dP b5 An i cn K A7 c8 b4 f m t R++[yS Cl S tk j ek])) [2,13,0] rfl rfl ?_ rfl (fun _=>by kernel_rfl) ?_
    ·refine ak.append 1 (d:=(some 100)) (t:=53) (e:=81) (z:=.agg #[.string ⟨#[]⟩,vI 0]) (size:=2) (bytes:=24) (n:=j) (cap:=ce) (A:=Ae) (xs:=(fA (((obj S.O tk).ah.take j).map (jv S.O)))) (s:=(.tmp 86)) (x:=(.tmp 99)) (ats:=#[53,53]) (A':=some ⟨Cl,0,none⟩) (m:=1) (c':=1) (news:=[.string (dU (obj S.O tk).ah j),vI ((obj S.O ek).id)]) (fun _=>by kernel_rfl) rfl (by kernel_rfl) (fun _=>by kernel_rfl) (fun _=>by kernel_rfl) Tryz.underlying53 (by kernel_rfl) rfl (by decide) (rfl) (by simp [Value.oneCell']) (lS (j:=17) rfl) (by unfold maxLen;omega) (by omega) (fun qD qE=>?_)
     refine ak.dV 1 (p:=.abs (aC 81 2 qD (j+1) qE ((fA (((obj S.O tk).ah.take j).map (jv S.O)))++[.string (dU (obj S.O tk).ah j),vI ((obj S.O ek).id)]))) (p':=.abs (aC 81 2 qD (j+1) qE (fA (((obj S.O tk).ah.take (j+1)).map (jv S.O))))) (by kernel_rfl) (congrArg (fun x=>HP.abs (aC 81 2 _ _ _ x)) (uq hj2 Gx)) ?_
     refine ak.slot 100 (.slice qD (j+1) (qE)) (.slice qD ((j+1)) (qE)) (fun _=>by kernel_rfl) (rfl) ?_
     refine NL ?_
     exact MD (qD,qE) [0,2,3,8,11,19,20,21,79,80,81,100] [0,1,2,3,4,5,6,7,8,9,10,11,12,13,14,15,16,17]
    rintro⟨qD,qE⟩
    refine aG.cut (ι:=Unit) (fr':=fun (_:Unit)=>(jX f b4 b5 b15 L tk A7 S c8 i dr dP j++[(100,.slice qD ((j+1)) (qE)),(101,.pointer (some ⟨b15,9,none⟩))])) (hp':=fun (_:Unit)=>([iw b15 S i tk Ae j ce,yR qD j qE S tk]++jw L tk S b16 dr dP b5 An i cn K A7 c8 b4 f m t R++[yS Cl S tk j ek])) [2,13,0] rfl rfl ?_ rfl (fun _=>by kernel_rfl) ?_
    ·refine gK 1 [(101,.pointer (some ⟨b15,9,none⟩))] [] ?_
     refine NL ?_
     exact MD () [0,2,3,8,11,19,20,21,79,80,81,100,101] [0,1,2,3,4,5,6,7,8,9,10,11,12,13,14,15,16,17]
    rintro _
    refine aG.last rfl rfl ?_
    refine gC 1 [] [(0,a_ 0 b15)] [(0,[(9,.slice qD ((j+1)) (qE))])] ?_
    refine NL (ai.np (ai.aF (NX (af.region ?_))))
    refine gK 2 [(81,vI ↑(j+1))] [(0,p_ ⟨[],none,none,none,some (vI ↑(j+1))⟩ [(Value.int .i64 (IntKind.wrap .i64 (((j:Nat):Int)+1)))=(.int .i64 ↑(j+1))] ⟨aU (by omega) (by omega) (by omega),trivial⟩)] ?_
    refine NL ?_
    exact ai.turn ((j+1),qD,qE) (idx:=[0,2,3,8,11,19,20,21,79,80,81]) (pk:=[0,1,2,3,4,5,6,7,8,9,10,11,12,13,14,15,16]) (show (((j+1))<=(obj S.O tk).ah.length) from (by omega)) (by show (obj S.O tk).ah.length - ((j+1)) < (obj S.O tk).ah.length - j;omega) (fun _=>by kernel_rfl) rfl (by kernel_rfl)
   refine af.exit (ai.aL (ai.aL (ai.bG (ai.aF (NX (af.region ?_))))))
   have hjl:j=(obj S.O tk).ah.length:=by omega
   refine ak.mem (cO:=([pE S.O L,iw b15 S i tk Ae j ce,lN Ae j ce S tk,LR b16 L tk,LU dr S tk dP]++sC b5 An i cn K S A7 c8 b4 f m t L++[pD S.O L,.abs R])) (fun w hS=>hS.K1 (i:=15) (j:=2) (idx:=[0,1,3,4,5,6,7,8,9,10,11,12,13,14,16]) (k:=tk) rfl rfl (by kernel_rfl) rfl (hkt)) ?_
   refine gN 4 (fun DI=>[(104,.slice An (i) (cn)),(106,.slice (some ⟨DI,0,none⟩) (1) (1))]) (fun DI=>[(1,a_ 5 b5),(2,A_ 1 b15 10)]) (fun _=>[]) (fun DI=>.blk DI [vI ((cD S i)),vI 2,vI ((obj S.O tk).mode),vI ((obj S.O tk).uid),vI ((obj S.O tk).gid),vI ((obj S.O tk).sec),vI ((obj S.O tk).nano),.slice none (0) (0),.string ⟨#[]⟩,.slice Ae (j) (ce)] 55) (fun DI=>?_)
   refine ak.append 6 (d:=(some 107)) (t:=22) (e:=55) (z:=.agg #[vI 0,vI 0,vI 0,vI 0,vI 0,vI 0,vI 0,.slice none (0) (0),.string ⟨#[]⟩,.slice none (0) (0)]) (size:=10) (bytes:=120) (n:=i) (cap:=cn) (A:=An) (xs:=(cI K ((aI S).take i))) (s:=(.tmp 104)) (x:=(.tmp 106)) (ats:=#[22,22]) (A':=some ⟨DI,0,none⟩) (m:=1) (c':=1) (news:=[vI ((cD S i)),vI 2,vI ((obj S.O tk).mode),vI ((obj S.O tk).uid),vI ((obj S.O tk).gid),vI ((obj S.O tk).sec),vI ((obj S.O tk).nano),.slice none (0) (0),.string ⟨#[]⟩,.slice Ae (j) (ce)]) (fun _=>by kernel_rfl) rfl (by kernel_rfl) (fun _=>by kernel_rfl) (fun _=>by kernel_rfl) Tryz.underlying22 (by kernel_rfl) rfl (by decide) (rfl) (by simp [Value.oneCell']) (lS (j:=16) rfl) (by unfold maxLen;omega) (by omega) (fun DJ DK=>?_)
   refine ak.dV 6 (p:=.abs (aC 55 10 DJ (i+1) DK ((cI K ((aI S).take i))++[vI ((cD S i)),vI 2,vI ((obj S.O tk).mode),vI ((obj S.O tk).uid),vI ((obj S.O tk).gid),vI ((obj S.O tk).sec),vI ((obj S.O tk).nano),.slice none (0) (0),.string ⟨#[]⟩,.slice Ae (j) (ce)]))) (p':=.abs (aC 55 10 DJ (i+1) DK (cI (K.put i none 0 Ae ce) ((aI S).take (i+1))))) (by kernel_rfl) (congrArg (fun x=>HP.abs (aC 55 10 _ _ _ x)) (sy (dg (by omega)) (p6 hI.toInv0 hi2 jE hlv) rfl (by show ((obj S.O tk).ah.map (jv S.O)).length=j;rw [List.length_map,hjl]))) ?_
   refine ak.slot 107 (.slice DJ (i+1) (DK)) (.slice DJ ((i+1)) (DK)) (fun _=>by kernel_rfl) (rfl) ?_
   refine gC 2 [] [(1,a_ 5 b5)] [(5,[(0,.slice DJ ((i+1)) (DK))])] ?_
   refine NL (ai.aF (NX (af.region ?_)))
   refine gK 2 [(21,vI ↑(i+1))] [(0,p_ ⟨[],none,none,none,some (vI ↑(i+1))⟩ [(Value.int .i64 (IntKind.wrap .i64 (((i:Nat):Int)+1)))=(.int .i64 ↑(i+1))] ⟨aU (by omega) (by omega) (by omega),trivial⟩)] ?_
   refine NL (ai.mem (fun w hS=>hS.j8 (e:=5) (size:=1)) ?_)
   refine ai.mem (fun w hS=>hS.oZ (R':=(iq ((aI S).take (i+1)) (K.put i none 0 Ae ce))) (i:=8) (j:=17) (idx:=[0,1,2,3,4,5,6,7,9,10,11,12,13,14,15,16]) rfl rfl (by kernel_rfl) rfl (wv (dg (by omega)) (p6 hI.toInv0 hi2 jE hlv)) (um (dg (by omega)) (p6 hI.toInv0 hi2 jE hlv) rfl)) ?_
   refine ai.mem (fun w hS=>hS.oZ (R':=(ij ((aI S).take (i+1)) (K.put i none 0 Ae ce))) (i:=8) (j:=3) (idx:=[0,1,2,4,5,6,7,9,10,11,12,13,14,15,16]) rfl rfl (by kernel_rfl) rfl (wz (dg (by omega)) (p6 hI.toInv0 hi2 jE hlv)) ((uo (dg (by omega)) (p6 hI.toInv0 hi2 jE hlv) (by show ((obj S.O tk).ah.map (jv S.O)).length=j;rw [List.length_map,hjl])).trans (by rw [hjl,List.take_length]))) ?_
   exact ai.turn ((i+1),DJ,DK,(K.put i none 0 Ae ce)) (idx:=[0,2,3,19,20,21]) (pk:=[6,7,0,1,8,9,10,11,12,13,2,14]) (show (((i+1))<=S.idx.length) from (by omega)) (by show S.idx.length - ((i+1)) < S.idx.length - i;omega) (fun _=>by kernel_rfl) rfl (by kernel_rfl)
  have hkt:(obj S.O tk).kind=3:=hI.kind hlv
  have hel:(obj S.O tk).ah.length<=8192:=hI.fq hlv
  have hdl:(obj S.O tk).data.length<=140737488355328:=hI.Ek hlv
  refine af.region (gK 5 [(28,.map (some m)),(29,vI ((cD S i)))] [(3,a_ 6 f)] ?_)
  refine ak.eW 7 (d:=(some 30)) (t:=60) (K:=3) (E:=64) (b:=m) (n:=S.idx.length) (f:=(aV (aT L S.idx))) (x:=(.tmp 28)) (ix:=(.tmp 29)) (key:=.int .i64 ((cD S i))) (z:=.nilIface) (kl:=(.int .i64 (cD S i))) (r:=(some (dh L ⟨tk,3⟩))) (fun _=>by kernel_rfl) (by kernel_rfl) (fun _=>by kernel_rfl) (fun _=>by kernel_rfl) dW Tryz.underlying60 (fun _=>by kernel_rfl) (jf (yQ hI.toInv0 hi2)) (by rw [eX,hget,jE];rfl) ?_
  refine gK 1 [(6,.iface 73 (vP (L.b tk)))] [] ?_
  refine NS (gK 1 [(31,.iface 73 (vP (L.b tk)))] [] ?_)
  refine gL [] (cJ (L.b tk)) ?_
  rintro _ _ ⟨rfl,rfl⟩
  refine gK 1 [(7,vP (L.b tk))] [] ?_
  refine NN (af.seq (af.mF (S:=[pO S.O L]) [0,1,3,4,5,6,7,8,9,10,11,12,13,14,15,16,17,18] [.beside [2,19] 20,.one 21] [8] (by kernel_rfl) (by kernel_rfl) rfl (by kernel_rfl) ?_))
  refine gP (ux f b4 b5++[(6,.iface 73 (vP (L.b tk)))]++uy A7 S c8 i++[(33,vI ((cD S i))),(34,.iface 73 (vP (L.b tk)))]++yT S tk) [0,1,3,4,5,6,7,8,9,10,11,12,13,14,15,16,17,18] [(5,v_ 0 (pP L hkt)),(9,v_ 0 (uR L hkt)),(13,v_ 0 (uS L hkt)),(17,p_ ⟨[.view 0 (.int .i64 ((obj S.O tk).sec)),.view 0 (.int .i64 ((obj S.O tk).nano))],none,none,none,none⟩ [(∀ F w,(ay (bD S.O L)).h F w->w.cell? ⟨(L.b tk),5,none⟩=some (vI ((obj S.O tk).nano))),(∀ F w,(ay (bD S.O L)).h F w->w.cell? ⟨(L.b tk),4,none⟩=some (vI ((obj S.O tk).sec)))] ⟨dw (by rw [hkt];decide) (rfl),dw (by rw [hkt];decide) (rfl),trivial⟩)] ?_
  refine fL.beside (j:=20) (dj:=8) (R:=fun f_ l_=>f_=([(52,.agg #[vI ((cD S i)),vI 3,vI ((obj S.O tk).mode),vI ((obj S.O tk).uid),vI ((obj S.O tk).gid),vI ((obj S.O tk).sec),vI ((obj S.O tk).nano),.slice none (0) (0),.string ⟨#[]⟩,.slice none (0) (0)]),(35,vI 3)]++ux f b4 b5++[(6,.iface 73 (vP (L.b tk)))]++uy A7 S c8 i++[(33,vI ((cD S i))),(34,.iface 73 (vP (L.b tk)))]++yT S tk)/\l_=[]) [0,1,2,3,4,5,6,7,8,9,10,11] [8] [(2,35),(19,52)] rfl (pc:=[]) (pj:=[]) (Z:=(sC b5 An i cn K S A7 c8 b4 f m t L++[pD S.O L,pE S.O L,.abs R])) (by kernel_rfl) rfl (by kernel_rfl) rfl rfl (iu.of (ι:=Nat) (v:=fun (rJ:Nat)=>vP rJ) (l:=fun (rJ:Nat)=>[LP rJ]) [35,52] rfl rfl rfl rfl ?_) ?_ ?_
  ·intro u Aq
   show ak _ _ _ _ _ [(35,(u 35)),(52,(u 52)),(0,vP f),(2,vP b4),(3,vP b5),(6,.iface 73 (vP (L.b tk))),(19,.slice A7 ((keys S.idx).length) (c8)),(20,vI ↑((keys S.idx).length)),(21,vI ↑i),(33,vI ((cD S i))),(34,.iface 73 (vP (L.b tk))),(39,vI ((obj S.O tk).mode)),(43,vI ((obj S.O tk).uid)),(47,vI ((obj S.O tk).gid)),(51,.agg #[vI ((obj S.O tk).sec),vI ((obj S.O tk).nano)])] [.abs Aq] _
   refine gN 1 (fun rJ=>[(8,vP rJ)]) (fun _=>[]) (fun _=>[]) (fun rJ=>.blk rJ [vI 0,vI 0,vI 0,vI 0,vI 0,vI 0,vI 0,.slice none (0) (0),.string ⟨#[]⟩,.slice none (0) (0)] 55) (fun rJ=>?_)
   refine NL ?_
   exact MD rJ [8,35,52,0,2,3,6,19,20,21,33,34,39,43,47,51] [1,0]
  ·refine ic.step (iu.of (ι:=Unit) (v:=fun (_:Unit)=>.int .i64 3) (l:=fun (_:Unit)=>[]) [8] rfl rfl rfl rfl ?_) rfl ?_
   ·intro u Aq
    show ak _ _ _ _ _ [(8,(u 8)),(0,vP f),(2,vP b4),(3,vP b5),(6,.iface 73 (vP (L.b tk))),(19,.slice A7 ((keys S.idx).length) (c8)),(20,vI ↑((keys S.idx).length)),(21,vI ↑i),(33,vI ((cD S i))),(34,.iface 73 (vP (L.b tk))),(39,vI ((obj S.O tk).mode)),(43,vI ((obj S.O tk).uid)),(47,vI ((obj S.O tk).gid)),(51,.agg #[vI ((obj S.O tk).sec),vI ((obj S.O tk).nano)])] [.abs Aq] _
    refine gL [] (lH (vP (L.b tk))) ?_
    rintro _ _ ⟨rfl,rfl⟩
    refine NL ?_
    exact MD () [35,8,0,2,3,6,19,20,21,33,34,39,43,47,51] [0]
   rintro _ _ ⟨_,rfl,rfl⟩
   refine ic.step (iu.of (ι:=Unit) (v:=fun (_:Unit)=>.agg #[vI ((cD S i)),vI 3,vI ((obj S.O tk).mode),vI ((obj S.O tk).uid),vI ((obj S.O tk).gid),vI ((obj S.O tk).sec),vI ((obj S.O tk).nano),.slice none (0) (0),.string ⟨#[]⟩,.slice none (0) (0)]) (l:=fun (_:Unit)=>[]) [8] rfl rfl rfl rfl ?_) rfl ?_
   ·intro u Aq
    show ak _ _ _ _ _ [(8,(u 8)),(35,vI 3),(0,vP f),(2,vP b4),(3,vP b5),(6,.iface 73 (vP (L.b tk))),(19,.slice A7 ((keys S.idx).length) (c8)),(20,vI ↑((keys S.idx).length)),(21,vI ↑i),(33,vI ((cD S i))),(34,.iface 73 (vP (L.b tk))),(39,vI ((obj S.O tk).mode)),(43,vI ((obj S.O tk).uid)),(47,vI ((obj S.O tk).gid)),(51,.agg #[vI ((obj S.O tk).sec),vI ((obj S.O tk).nano)])] [.abs Aq] _
    refine gK 1 [(52,.agg #[vI ((cD S i)),vI 3,vI ((obj S.O tk).mode),vI ((obj S.O tk).uid),vI ((obj S.O tk).gid),vI ((obj S.O tk).sec),vI ((obj S.O tk).nano),.slice none (0) (0),.string ⟨#[]⟩,.slice none (0) (0)])] [] ?_
    refine NL ?_
    exact MD () [52,8,35,0,2,3,6,19,20,21,33,34,39,43,47,51] [0]
   rintro _ _ ⟨_,rfl,rfl⟩
   exact⟨rfl,rfl⟩
  rintro _ _ ⟨rfl,rfl⟩ _ _ ⟨rJ,rfl,rfl⟩
  refine fL.last rfl rfl ?_
  refine gC 1 [] [(0,A_ 0 rJ 10)] [(0,([(0,vI ((cD S i))),(1,vI 3)]++IC S tk))] ?_
  refine NL (ai.np (NX (af.seq (SR ?_))))
  refine gK 1 [(53,.iface 73 (vP (L.b tk)))] [] ?_
  refine NN (af.block (SR ?_))
  refine gK 3 [(55,.bool false),(56,.pointer none)] [] ?_
  refine NN (CF (SR (gK 3 [(64,.bool true),(65,vP (L.b tk))] [] ?_)))
  refine NN (CT (SR (gK 1 [(10,vP (L.b tk))] [] ?_)))
  refine NN (af.region (gC 6 [] [(3,v_ 9 (MB L hkt)),(5,a_ 0 rJ)] [(0,[(8,.string (obj S.O tk).target)])] ?_))
  refine NL (ai.aF (NX (af.region ?_)))
  refine gN 4 (fun b32=>[(104,.slice An (i) (cn)),(106,.slice (some ⟨b32,0,none⟩) (1) (1))]) (fun b32=>[(1,a_ 1 b5),(2,A_ 0 rJ 10)]) (fun _=>[]) (fun b32=>.blk b32 [vI ((cD S i)),vI 3,vI ((obj S.O tk).mode),vI ((obj S.O tk).uid),vI ((obj S.O tk).gid),vI ((obj S.O tk).sec),vI ((obj S.O tk).nano),.slice none (0) (0),.string (obj S.O tk).target,.slice none (0) (0)] 55) (fun b32=>?_)
  refine ak.append 2 (d:=(some 107)) (t:=22) (e:=55) (z:=.agg #[vI 0,vI 0,vI 0,vI 0,vI 0,vI 0,vI 0,.slice none (0) (0),.string ⟨#[]⟩,.slice none (0) (0)]) (size:=10) (bytes:=120) (n:=i) (cap:=cn) (A:=An) (xs:=(cI K ((aI S).take i))) (s:=(.tmp 104)) (x:=(.tmp 106)) (ats:=#[22,22]) (A':=some ⟨b32,0,none⟩) (m:=1) (c':=1) (news:=[vI ((cD S i)),vI 3,vI ((obj S.O tk).mode),vI ((obj S.O tk).uid),vI ((obj S.O tk).gid),vI ((obj S.O tk).sec),vI ((obj S.O tk).nano),.slice none (0) (0),.string (obj S.O tk).target,.slice none (0) (0)]) (fun _=>by kernel_rfl) rfl (by kernel_rfl) (fun _=>by kernel_rfl) (fun _=>by kernel_rfl) Tryz.underlying22 (by kernel_rfl) rfl (by decide) (rfl) (by simp [Value.oneCell']) (lS (j:=13) rfl) (by unfold maxLen;omega) (by omega) (fun DL DM=>?_)
  refine ak.dV 2 (p:=.abs (aC 55 10 DL (i+1) DM ((cI K ((aI S).take i))++[vI ((cD S i)),vI 3,vI ((obj S.O tk).mode),vI ((obj S.O tk).uid),vI ((obj S.O tk).gid),vI ((obj S.O tk).sec),vI ((obj S.O tk).nano),.slice none (0) (0),.string (obj S.O tk).target,.slice none (0) (0)]))) (p':=.abs (aC 55 10 DL (i+1) DM (cI (K.put i none 0 none 0) ((aI S).take (i+1))))) (by kernel_rfl) (congrArg (fun x=>HP.abs (aC 55 10 _ _ _ x)) (sy (dg (by omega)) (nY hI.toInv0 hi2 jE hlv) rfl rfl)) ?_
  refine ak.slot 107 (.slice DL (i+1) (DM)) (.slice DL ((i+1)) (DM)) (fun _=>by kernel_rfl) (rfl) ?_
  refine gC 2 [] [(1,a_ 1 b5)] [(1,[(0,.slice DL ((i+1)) (DM))])] ?_
  refine NL (ai.aF (NX (af.region ?_)))
  refine gK 2 [(21,vI ↑(i+1))] [(0,p_ ⟨[],none,none,none,some (vI ↑(i+1))⟩ [(Value.int .i64 (IntKind.wrap .i64 (((i:Nat):Int)+1)))=(.int .i64 ↑(i+1))] ⟨aU (by omega) (by omega) (by omega),trivial⟩)] ?_
  refine NL (ai.mem (fun w hS=>hS.j8 (e:=5) (size:=1)) ?_)
  refine ai.mem (fun w hS=>hS.j8 (e:=81) (size:=2)) ?_
  refine ai.mem (fun w hS=>hS.oZ (R':=(iq ((aI S).take (i+1)) (K.put i none 0 none 0))) (i:=4) (j:=14) (idx:=[0,1,2,3,5,6,7,8,9,10,11,12,13,15]) rfl rfl (by kernel_rfl) rfl (wv (dg (by omega)) (nY hI.toInv0 hi2 jE hlv)) (um (dg (by omega)) (nY hI.toInv0 hi2 jE hlv) rfl)) ?_
  refine ai.mem (fun w hS=>hS.oZ (R':=(ij ((aI S).take (i+1)) (K.put i none 0 none 0))) (i:=4) (j:=14) (idx:=[0,1,2,3,5,6,7,8,9,10,11,12,13]) rfl rfl (by kernel_rfl) rfl (wz (dg (by omega)) (nY hI.toInv0 hi2 jE hlv)) ((uo (dg (by omega)) (nY hI.toInv0 hi2 jE hlv) rfl))) ?_
  exact ai.turn ((i+1),DL,DM,(K.put i none 0 none 0)) (idx:=[0,2,3,19,20,21]) (pk:=[3,4,0,1,5,6,7,8,9,10,11,12]) (show (((i+1))<=S.idx.length) from (by omega)) (by show S.idx.length - ((i+1)) < S.idx.length - i;omega) (fun _=>by kernel_rfl) rfl (by kernel_rfl)
 refine af.exit (ai.aL (ai.aL (ai.bG (NX (SR ?_)))))
 have hie:(aI S).length=i:=by rw [mD];omega
 have hgt:((aI S).take i)=(aI S):=by rw [← hie,List.take_length]
 refine ak.dV 1 (p:=.abs (aC 55 10 An i cn (cI K ((aI S).take i)))) (p':=.abs (aC 55 10 An ((aI S).length) cn (cI K (aI S)))) (by kernel_rfl) (by rw [hgt,hie]) ?_
 refine ak.dV 2 (p:=.abs (eM (ij ((aI S).take i) K) i)) (p':=.abs (eM (ij (aI S) K) ((aI S).length))) (by kernel_rfl) (by rw [hgt,hie]) ?_
 refine ak.dV 3 (p:=.abs (eM (iq ((aI S).take i) K) i)) (p':=.abs (eM (iq (aI S) K) ((aI S).length))) (by kernel_rfl) (by rw [hgt,hie]) ?_
 refine gC 2 [] [(0,a_ 0 b5),(1,a_ 5 b4)] [(5,[(0,.slice An (i) (cn))])] ?_
 refine NN (af.ret ?_)
 exact ai.ret (v:=.agg #[.slice An (i) (cn)]) (l:=[pF f m t S.X,pI m L S.idx,pO S.O L,pD S.O L,pE S.O L,.abs (aC 55 10 An ((aI S).length) cn (cI K (aI S))),.abs (eM (ij (aI S) K) ((aI S).length)),.abs (eM (iq (aI S) K) ((aI S).length))]) (bw:=[b4=b4]) [.at 5] [6,7,8,9,10,1,2,3,11] (fun _=>by kernel_rfl) ⟨rfl,trivial⟩ rfl (by kernel_rfl) (⟨An,cn,K,by rw [hie],rfl⟩)
end
section
open Go.RowKit
attribute [local irreducible] ak aK af ai
theorem IE {β:Bs} (A:Option Addr) (ns:List aE) (L:Lay) (hG:au β A ns L) (hr:bN ns) (i:Nat) (hi:i < ns.length) (hel:(nd ns i).ah.length<=1048576) (hwf:∀ j,j < (nd ns i).ah.length->-9223372036854775808<=(ent ns i j).id/\(ent ns i j).id<=9223372036854775807) (hnm:∀ j,j < (nd ns i).ah.length->(ent ns i j).name.size<=1048576)
    (mb mp:Nat) (ps:List (Nat×Nat)) (hpl:ps.length<=16777216) (hps:∀ p,p∈ps->p.1 < ns.length) (hnp:(ps.map Prod.fst).Nodup) :
    Spec Tryz.prog β 64 #[.pointer (some ⟨(ar A),aq A+i * 10,none⟩),.map (some mb),.map (some mp)] [.abs (aN Tryz.prog 3 mb (mf (bf A ns ns.length)) ns.length),.abs (aN Tryz.prog 3 mp (mf (pf ((ps).map (dM ns)))) ((ps).length))] (fun v l=>(v=.bool true/\rU ns i ps/\l=[.abs (aN Tryz.prog 3 mb (mf (bf A ns ns.length)) ns.length),.abs (aN Tryz.prog 3 mp (mf (pf ((bW ns i (nd ns i).ah.length++ps).map (dM ns)))) ((bW ns i (nd ns i).ah.length++ps).length))])\/(v=.bool false/\¬ rU ns i ps/\l=[])):=by
 refine Spec.enter Tryz.func64 rfl Tryz.ntmps64 (Nat.le_of_ble_eq_true rfl) (fun R=>?_)
 refine SR (gK 1 [] [] ?_)
 refine NS (gK 1 [(7,.string ⟨#[]⟩)] [] ?_)
 refine NN (af.seq (SR (gK 6 [(16,.slice (L.eA i) ((nd ns i).ah.length) ((L.eC i))),(17,vI ↑((nd ns i).ah.length)),(18,vI 0)] [(3,p_ ⟨[.old (.slice (L.eA i) ((nd ns i).ah.length) ((L.eC i)))],none,none,none,none⟩ [(Rd β ⟨(ar A),aq A+i * 10+9,none⟩ (.slice (L.eA i) ((nd ns i).ah.length) ((L.eC i))))] ⟨au.rd hG (i:=i) (by omega) (j:=9) rfl,trivial⟩)] ?_)))
 refine NN (af.block ?_)
 refine af.loop (ι:=Nat) (fun (j:Nat)=>(j<=(nd ns i).ah.length)/\(∀ t,t < j->gj ns i t)/\(((bW ns i j++ps).map Prod.fst).Nodup)) (fun (j:Nat)=>(nd ns i).ah.length - j) (fun (j:Nat)=>[(0,.pointer (some ⟨(ar A),aq A+i * 10,none⟩)),(1,.map (some mb)),(2,.map (some mp)),(7,.string (jb ns i j)),(16,.slice (L.eA i) ((nd ns i).ah.length) ((L.eC i))),(17,vI ↑((nd ns i).ah.length)),(18,vI ↑j)]) (fun (j:Nat)=>[.abs (aN Tryz.prog 3 mb (mf (bf A ns ns.length)) ns.length),.abs (aN Tryz.prog 3 mp (mf (pf ((bW ns i j++ps).map (dM ns)))) ((bW ns i j++ps).length)),.abs R]) 0 (idx:=[0,1,2,7,16,17,18]) (pk:=[0,1,2]) (show (0<=(nd ns i).ah.length)/\(∀ t,t < 0->gj ns i t)/\(((bW ns i 0++ps).map Prod.fst).Nodup) from ⟨Nat.zero_le _,fun t ht=>absurd ht (Nat.not_lt_zero t),hnp⟩) (fun _=>by kernel_rfl) rfl (by kernel_rfl) ?_
 rintro j ⟨hj,hok,hnd⟩
 show af _ _ _ _ [(0,.pointer (some ⟨(ar A),aq A+i * 10,none⟩)),(1,.map (some mb)),(2,.map (some mp)),(7,.string (jb ns i j)),(16,.slice (L.eA i) ((nd ns i).ah.length) ((L.eC i))),(17,vI ↑((nd ns i).ah.length)),(18,vI ↑j)] [.abs (aN Tryz.prog 3 mb (mf (bf A ns ns.length)) ns.length),.abs (aN Tryz.prog 3 mp (mf (pf ((bW ns i j++ps).map (dM ns)))) ((bW ns i j++ps).length)),.abs R] _
 refine SR (gK 1 [(19,.bool (decide ((((j:Nat):Int):Int) < ((((nd ns i).ah.length:Nat):Int):Int))))] [] ?_)
 refine NN (af.seq (af.aR (p:=(((j:Nat):Int):Int) < ((((nd ns i).ah.length:Nat):Int):Int)) (fun _=>by kernel_rfl) (fun KT=>?_) (fun KT=>?_)))
 ·refine af.skip (NX (af.seq (af.block (SR ?_))))
  refine gN 4 (fun b1=>[(9,vP b1)]) (fun b1=>[(0,p_ ⟨[],some j,none,some ⟨(ar (L.eA i)),aq (L.eA i),none⟩,none⟩ [((j:Nat):Int)=((j:Nat):Int),j < (nd ns i).ah.length,(⟨(ar (L.eA i)),aq (L.eA i),none⟩:Addr).spot=none,((L.eA i):Option Addr)=some ⟨(ar (L.eA i)),aq (L.eA i),none⟩] ⟨rfl,by omega,rfl,cL.hd (hG.ah i (by omega)) (i:=j) (by omega),trivial⟩),(1,p_ ⟨[.old (.string (en (nd ns i).ah j).name),.old (.int .i64 ((en (nd ns i).ah j).id))],none,none,none,none⟩ [(Rd β ⟨(ar (L.eA i)),aq (L.eA i)+j * 2+1,none⟩ (.int .i64 ((en (nd ns i).ah j).id))),(Rd β ⟨(ar (L.eA i)),aq (L.eA i)+j * 2,none⟩ (.string (en (nd ns i).ah j).name))] ⟨cL.rd (hG.ah i (by omega)) (i:=j) (by omega) (j:=1) rfl,cL.rd (hG.ah i (by omega)) (i:=j) (by omega) (j:=0) rfl,trivial⟩),(3,A_ 3 b1 2)]) (fun _=>[]) (fun b1=>.blk b1 [.string (en (nd ns i).ah j).name,vI ((en (nd ns i).ah j).id)] 81) (fun b1=>?_)
  refine NS (gK 3 [(22,.map (some mb)),(24,vI ((en (nd ns i).ah j).id))] [(2,a_ 3 b1)] ?_)
  by_cases hat:0<=gJ ns (en (nd ns i).ah j).id
  ·have htl:=j9 hat
   refine ak.eW 0 (d:=(some 25)) (t:=105) (K:=3) (E:=120) (b:=mb) (n:=ns.length) (f:=(mf (bf A ns ns.length))) (x:=(.tmp 22)) (ix:=(.tmp 24)) (key:=.int .i64 ((en (nd ns i).ah j).id)) (z:=.pointer none) (kl:=(.int .i64 (en (nd ns i).ah j).id)) (r:=(some (.pointer (some ⟨(ar A),aq A+(tgt ns (en (nd ns i).ah j).id) * 10,none⟩)))) (fun _=>by kernel_rfl) (by kernel_rfl) (fun _=>by kernel_rfl) (fun _=>by kernel_rfl) dW Tryz.underlying105 (fun _=>by kernel_rfl) (mW (hwf j (by omega)).1 (hwf j (by omega)).2) (Mw hat htl.1) ?_
   refine gK 1 [(10,.pointer (some ⟨(ar A),aq A+(tgt ns (en (nd ns i).ah j).id) * 10,none⟩))] [] ?_
   refine NN (af.seq (SR (gK 5 [(28,.bool false),(30,.string (en (nd ns i).ah j).name)] [(4,a_ 3 b1)] ?_)))
   refine gL [] (tC (en (nd ns i).ah j).name (hnm j (by omega))) ?_
   rintro _ _ ⟨rfl,rfl⟩
   refine gK 3 [(34,.bool (!(decide (bI (en (nd ns i).ah j).name))))] [] ?_
   refine ak.d9 34 (bI (en (nd ns i).ah j).name) (fun _=>by kernel_rfl) (fun rG=>?_) (fun rG=>?_)
   ·refine gK 5 [(39,.bool true)] [] ?_
    refine NN (CT (SR (gK 1 [(6,.bool false)] [] ?_)))
    refine NN (af.ret (ai.aj (ai.ax (ai.aj (ai.aj (ai.ax (ai.aj ?_)))))))
    exact RT (l:=[]) (.bool false) [2] (.inr ⟨rfl,fun h=>rG (h.ah j (by omega)).good,rfl⟩)
   refine gK 5 [(39,.bool (decide (fJ ((en (nd ns i).ah j).name) (jb ns i j))))] [(1,a_ 3 b1),(3,p_ ⟨[],none,none,none,some (.bool (decide (fJ ((en (nd ns i).ah j).name) (jb ns i j))))⟩ [(Value.bool (Op.bytesLess (((en (nd ns i).ah j).name):ByteArray).toList (((jb ns i j)):ByteArray).toList || (((en (nd ns i).ah j).name):ByteArray).toList == (((jb ns i j)):ByteArray).toList))=(.bool (decide (fJ ((en (nd ns i).ah j).name) (jb ns i j))))] ⟨Fu _ _,trivial⟩)] ?_
   refine NN (af.aR (p:=fJ ((en (nd ns i).ah j).name) (jb ns i j)) (fun _=>by kernel_rfl) (fun mO=>?_) (fun mO=>?_))
   ·refine SR (gK 1 [(6,.bool false)] [] ?_)
    refine NN (af.ret (ai.aj (ai.ax (ai.aj (ai.aj (ai.ax (ai.aj ?_)))))))
    exact RT (l:=[]) (.bool false) [2] (.inr ⟨rfl,fun h=>(h.ah j (by omega)).ord mO,rfl⟩)
   refine af.skip (NX (SR (gK 3 [(7,.string (en (nd ns i).ah j).name)] [(1,a_ 3 b1)] ?_)))
   refine NN (af.seq (SR (gK 5 [(46,.bool (!(decide (((nd ns (tgt ns (en (nd ns i).ah j).id)).kind:Int)=(2:Int)))))] [(3,p_ ⟨[.old (.int .i64 ((nd ns (tgt ns (en (nd ns i).ah j).id)).kind))],none,none,none,none⟩ [(Rd β ⟨(ar A),aq A+(tgt ns (en (nd ns i).ah j).id) * 10+1,none⟩ (.int .i64 ((nd ns (tgt ns (en (nd ns i).ah j).id)).kind)))] ⟨au.rd hG (i:=(tgt ns (en (nd ns i).ah j).id)) (by omega) (j:=1) rfl,trivial⟩)] ?_)))
   refine NN (af.cu (p:=((nd ns (tgt ns (en (nd ns i).ah j).id)).kind:Int)=(2:Int)) (fun _=>by kernel_rfl) (fun h46=>?_) (fun h46=>?_))
   ·refine af.exit (ai.aL (ai.bG (NX (af.region ?_))))
    refine ak.dV 1 (p:=.abs (aN Tryz.prog 3 mp (mf (pf ((bW ns i j++ps).map (dM ns)))) ((bW ns i j++ps).length))) (p':=.abs (aN Tryz.prog 3 mp (mf (pf ((bW ns i (j+1)++ps).map (dM ns)))) ((bW ns i (j+1)++ps).length))) (by kernel_rfl) (by rw [jC h46]) ?_
    refine gK 2 [(18,vI ↑(j+1))] [(0,p_ ⟨[],none,none,none,some (vI ↑(j+1))⟩ [(Value.int .i64 (IntKind.wrap .i64 (((j:Nat):Int)+1)))=(.int .i64 ↑(j+1))] ⟨aU (by omega) (by omega) (by omega),trivial⟩)] ?_
    refine NL ?_
    exact ai.turn ((j+1)) (idx:=[0,1,2,7,16,17,18]) (pk:=[0,1,2]) (show (((j+1))<=(nd ns i).ah.length)/\(∀ t,t < ((j+1))->gj ns i t)/\(((bW ns i ((j+1))++ps).map Prod.fst).Nodup) from ⟨by omega,fun t ht=>(by rcases Nat.lt_succ_iff_lt_or_eq.1 ht with h|h;exact hok t h;subst h;exact⟨hat,rG,mO⟩),(by rw [jC h46];exact hnd)⟩) (by show (nd ns i).ah.length - ((j+1)) < (nd ns i).ah.length - j;omega) (fun _=>by kernel_rfl) rfl (by kernel_rfl)
   refine af.skip (NX (af.seq (SR (gK 3 [(48,.map (some mp)),(50,vI ((en (nd ns i).ah j).id))] [(2,a_ 3 b1)] ?_))))
   rcases hup:up ((bW ns i j++ps).map (dM ns)) (en (nd ns i).ah j).id with _|y
   ·refine ak.qi 1 (d:=(some 51)) (t:=122) (K:=3) (E:=3) (b:=mp) (n:=(bW ns i j++ps).length) (f:=(mf (pf ((bW ns i j++ps).map (dM ns))))) (x:=(.tmp 48)) (ix:=(.tmp 50)) (key:=.int .i64 ((en (nd ns i).ah j).id)) (z:=.int .i64 0) (kl:=(.int .i64 (en (nd ns i).ah j).id)) (r:=none) (fun _=>by kernel_rfl) (by kernel_rfl) (fun _=>by kernel_rfl) (fun _=>by kernel_rfl) dW Tryz.underlying122 (fun _=>by kernel_rfl) (mW (hwf j (by omega)).1 (hwf j (by omega)).2) (rT hup) ?_
    refine gK 5 [(12,.bool false)] [] ?_
    refine NS (gK 1 [(54,.bool false)] [] ?_)
    refine NN (CF (af.skip (NX (af.qN 7 (by kernel_rfl) (by kernel_rfl) ?_))))
    refine fM.seg (k':=7) (fr':=[(0,.pointer (some ⟨(ar A),aq A+i * 10,none⟩)),(1,.map (some mb)),(2,.map (some mp)),(7,.string (en (nd ns i).ah j).name),(16,.slice (L.eA i) ((nd ns i).ah.length) ((L.eC i))),(17,vI ↑((nd ns i).ah.length)),(18,vI ↑j),(55,.map (some mp)),(57,vI ((en (nd ns i).ah j).id)),(61,vI ((nd ns i).id))]) (bw:=[(Rd β ⟨(ar A),aq A+i * 10,none⟩ (.int .i64 ((nd ns i).id))),b1=b1]) [o_,o_,⟨[.at 3],none,none,none,none⟩,o_,o_,o_,⟨[.old (.int .i64 ((nd ns i).id))],none,none,none,none⟩] [0,1,2,7,16,17,18,55,57,61] (fun _ _=>by kernel_rfl) ⟨au.rd hG (i:=i) (by omega) (j:=0) rfl,rfl,trivial⟩ (by decide) ?_
    refine fM.done rfl ?_
    refine ak.j7 1 (d:=none) (t:=122) (K:=3) (E:=3) (b:=mp) (n:=(bW ns i j++ps).length) (f:=(mf (pf ((bW ns i j++ps).map (dM ns))))) (x:=(.tmp 55)) (ix:=(.tmp 57)) (y:=(.tmp 61)) (key:=.int .i64 ((en (nd ns i).ah j).id)) (u:=.int .i64 ((nd ns i).id)) (kl:=(.int .i64 (en (nd ns i).ah j).id)) (n':=(bW ns i (j+1)++ps).length) (f':=(mf (pf ((bW ns i (j+1)++ps).map (dM ns))))) (fun _=>by kernel_rfl) (by kernel_rfl) (fun _=>by kernel_rfl) (fun _=>by kernel_rfl) (fun _=>by kernel_rfl) dW Tryz.underlying122 (by have:=A6 ns i j;rw [List.length_append];unfold maxLen;omega) (mW (hwf j (by omega)).1 (hwf j (by omega)).2) (G7 (rT hup) h46) (G6 hat h46) ?_
    refine NL (ai.aF (NX (af.region ?_)))
    refine gK 2 [(18,vI ↑(j+1))] [(0,p_ ⟨[],none,none,none,some (vI ↑(j+1))⟩ [(Value.int .i64 (IntKind.wrap .i64 (((j:Nat):Int)+1)))=(.int .i64 ↑(j+1))] ⟨aU (by omega) (by omega) (by omega),trivial⟩)] ?_
    refine NL ?_
    exact ai.turn ((j+1)) (idx:=[0,1,2,7,16,17,18]) (pk:=[0,1,2]) (show (((j+1))<=(nd ns i).ah.length)/\(∀ t,t < ((j+1))->gj ns i t)/\(((bW ns i ((j+1))++ps).map Prod.fst).Nodup) from ⟨by omega,fun t ht=>(by rcases Nat.lt_succ_iff_lt_or_eq.1 ht with h|h;exact hok t h;subst h;exact⟨hat,rG,mO⟩),(DZ hat h46 hup hnd)⟩) (by show (nd ns i).ah.length - ((j+1)) < (nd ns i).ah.length - j;omega) (fun _=>by kernel_rfl) rfl (by kernel_rfl)
   refine ak.qi 1 (d:=(some 51)) (t:=122) (K:=3) (E:=3) (b:=mp) (n:=(bW ns i j++ps).length) (f:=(mf (pf ((bW ns i j++ps).map (dM ns))))) (x:=(.tmp 48)) (ix:=(.tmp 50)) (key:=.int .i64 ((en (nd ns i).ah j).id)) (z:=.int .i64 0) (kl:=(.int .i64 (en (nd ns i).ah j).id)) (r:=(some (vI y))) (fun _=>by kernel_rfl) (by kernel_rfl) (fun _=>by kernel_rfl) (fun _=>by kernel_rfl) dW Tryz.underlying122 (fun _=>by kernel_rfl) (mW (hwf j (by omega)).1 (hwf j (by omega)).2) (Jl hup) ?_
   refine gK 5 [(12,.bool true)] [] ?_
   refine NS (gK 1 [(54,.bool true)] [] ?_)
   refine NN (CT (SR (gK 1 [(6,.bool false)] [] ?_)))
   refine NN (af.ret (ai.aj (ai.ax (ai.aj (ai.aj (ai.ax (ai.aj ?_)))))))
   exact RT (l:=[]) (.bool false) [2] (.inr ⟨rfl,CJ hr hps hok hat h46 hup (by omega),rfl⟩)
  refine ak.eW 0 (d:=(some 25)) (t:=105) (K:=3) (E:=120) (b:=mb) (n:=ns.length) (f:=(mf (bf A ns ns.length))) (x:=(.tmp 22)) (ix:=(.tmp 24)) (key:=.int .i64 ((en (nd ns i).ah j).id)) (z:=.pointer none) (kl:=(.int .i64 (en (nd ns i).ah j).id)) (r:=none) (fun _=>by kernel_rfl) (by kernel_rfl) (fun _=>by kernel_rfl) (fun _=>by kernel_rfl) dW Tryz.underlying105 (fun _=>by kernel_rfl) (mW (hwf j (by omega)).1 (hwf j (by omega)).2) (JY hat) ?_
  refine gK 1 [(10,.pointer none)] [] ?_
  refine NN (af.seq (SR (gK 14 [(39,.bool true)] [] ?_)))
  refine NN (CT (SR (gK 1 [(6,.bool false)] [] ?_)))
  refine NN (af.ret (ai.aj (ai.ax (ai.aj (ai.aj (ai.ax (ai.aj ?_)))))))
  exact RT (l:=[]) (.bool false) [2] (.inr ⟨rfl,fun h=>hat (h.ah j (by omega)).at_,rfl⟩)
 refine af.exit (ai.aL (ai.aL (ai.bG (NX (SR ?_)))))
 refine gK 1 [(6,.bool true)] [] ?_
 refine NN (af.ret ?_)
 exact RT (l:=[.abs (aN Tryz.prog 3 mb (mf (bf A ns ns.length)) ns.length),.abs (aN Tryz.prog 3 mp (mf (pf ((bW ns i j++ps).map (dM ns)))) ((bW ns i j++ps).length))]) (.bool true) [0,1,2] (.inl ⟨rfl,⟨fun t ht=>hok t (by omega),by have:=hnd;rwa [show j=(nd ns i).ah.length by omega] at this⟩,by rw [show j=(nd ns i).ah.length by omega]⟩)
end
section
open Go.RowKit Go.Maps
def bU (ns:List aE):Nat->Nat
  | 0=>0
  | k+1=>bU ns k+(nd ns k).ah.length
def jx (ns:List aE):Nat->Int
  | 0=>0
  | k+1=>(nd ns k).id
structure aS (ns:List aE):Prop where
  len:ns.length<=4096
  node:∀ i,i < ns.length->iC (nd ns i)
  ids:∀ i,i < ns.length->1<=(nd ns i).id/\(nd ns i).id<=1099511627776
  rise:bN ns
  sum:bU ns ns.length<=8192
  ah:∀ i,i < ns.length->∀ j,j < (nd ns i).ah.length->gj ns i j
  nodup:((bX ns ns.length).map Prod.fst).Nodup
  ends:qZ ((bX ns ns.length).map (dM ns))
noncomputable instance (ns:List aE):Decidable (aS ns):=Classical.propDecidable _
theorem aS.last {ns:List aE} (h:aS ns) {k:Nat} (hk:k < ns.length):jx ns k < (nd ns k).id:=by
  cases k with
  | zero=>have:=(h.ids 0 hk).1;show (0:Int) < _;omega
  | succ k=>exact h.rise k (k+1) (Nat.lt_succ_self k) hk
structure jY (ns:List aE) (k:Nat):Prop where
  node:∀ i,i < k->iC (nd ns i)
  ids:∀ i,i < k->1<=(nd ns i).id/\(nd ns i).id<=1099511627776
  rise:∀ i j,i < j->j < k->(nd ns i).id < (nd ns j).id
theorem jY.zero (ns:List aE):jY ns 0:=⟨fun i h=>absurd h (Nat.not_lt_zero i),fun i h=>absurd h (Nat.not_lt_zero i),fun _ j _ h=>absurd h (Nat.not_lt_zero j)⟩
theorem jY.last {ns:List aE} {k:Nat} (h:jY ns k):0<=jx ns k/\jx ns k<=1099511627776:=by
  cases k with
  | zero=>exact⟨Int.le_refl _,by show (0:Int)<=1099511627776;decide⟩
  | succ k=>have:=h.ids k (Nat.lt_succ_self k);exact⟨by show 0<=(nd ns k).id;omega,this.2⟩
theorem jY.step {ns:List aE} {k:Nat} (h:jY ns k) (h1:jx ns k < (nd ns k).id) (h2:(nd ns k).id<=1099511627776) (h3:iC (nd ns k)):jY ns (k+1):=by
  have hl:=h.last
  refine⟨fun i hi=>?_,fun i hi=>?_,fun i j hij hj=>?_⟩
  ·rcases Nat.lt_succ_iff_lt_or_eq.1 hi with e|e
   ·exact h.node i e
   rw [e];exact h3
  ·rcases Nat.lt_succ_iff_lt_or_eq.1 hi with e|e
   ·exact h.ids i e
   rw [e];omega
  rcases Nat.lt_succ_iff_lt_or_eq.1 hj with e|e
  ·exact h.rise i j hij e
  subst e
  cases j with
  | zero=>omega
  | succ m=>
    have h4:(nd ns m).id < (nd ns (m+1)).id:=h1
    rcases Nat.lt_succ_iff_lt_or_eq.1 hij with e|e
    ·have:=h.rise i m e (Nat.lt_succ_self m);omega
    rw [e];exact h4
theorem Cm {ns:List aE} {k:Nat} (h:∀ i,i < k->(nd ns i).id < (nd ns k).id) (hk:k < ns.length):gJ ns (nd ns k).id=(k:Int):=by
  unfold gJ
  have hg:∀ j (hj:j < ns.length),nd ns j=ns[j]:=fun j hj=>by
    unfold nd
    rw [List.getD_eq_getElem?_getD,List.getElem?_eq_getElem hj]
    rfl
  have:ns.findIdx? (fun n=>n.id == (nd ns k).id)=some k:=by
    rw [List.findIdx?_eq_some_iff_getElem]
    refine⟨hk,by rw [← hg k hk];simp,fun j hj=>?_⟩
    have:=h j hj
    rw [← hg j (by omega)]
    simp
    omega
  rw [this]
theorem LV {A:Option Addr} {ns:List aE} {k:Nat} (h:∀ i,i < k->(nd ns i).id < (nd ns k).id) (hk:k < ns.length) :
    jP (mf (bf A ns k)) (.int .i64 (nd ns k).id) (some (.pointer (some ⟨ar A,aq A+k * 10,none⟩)))=mf (bf A ns (k+1)):=by
  have ha:=Cm h hk
  rw [AO]
  congr 1
  funext z
  unfold bf
  by_cases e:z=(nd ns k).id
  ·subst e
   rw [if_pos rfl,if_pos ⟨by omega,by omega⟩]
   unfold tgt
   rw [ha]
   rfl
  rw [if_neg e]
  by_cases e1:0<=gJ ns z/\gJ ns z < (k:Int)
  ·rw [if_pos e1,if_pos ⟨e1.1,by omega⟩]
  rw [if_neg e1,if_neg (fun e2=>?_)]
  have e3:gJ ns z=(k:Int):=by omega
  have e4:=(j9 e2.1).2
  rw [e4.2] at e3
  have e5:tgt ns z=k:=by omega
  rw [e5] at e4
  exact e e4.1.symm
theorem IG {A:Option Addr} {ns:List aE} {k:Nat} (h:∀ i,i < k->(nd ns i).id < (nd ns k).id) (hk:k < ns.length):(if ((mf (bf A ns k)) (.int .i64 (nd ns k).id)).isSome then k else k+1)=k+1:=by
  have ha:=Cm h hk
  have:mf (bf A ns k) (.int .i64 (nd ns k).id)=none:=if_neg (fun e=>by omega)
  rw [this]
  rfl
theorem jY.below {ns:List aE} {k:Nat} (h:jY ns k) (h1:jx ns k < (nd ns k).id):∀ i,i < k->(nd ns i).id < (nd ns k).id:=by
  intro i hi
  cases k with
  | zero=>omega
  | succ m=>
    have h1:(nd ns m).id < (nd ns (m+1)).id:=h1
    rcases Nat.lt_succ_iff_lt_or_eq.1 hi with e|e
    ·have:=h.rise i m e (Nat.lt_succ_self m);omega
    rw [e];exact h1
theorem Ke {A:Option Addr} {ns:List aE}:mf (bf A ns 0)=fun _=>none:=by
  rw [← x6]
  congr 1
  funext z
  exact if_neg (fun e=>by omega)
theorem Kf {ns:List aE}:mf (pf ((bX ns 0).map (dM ns)))=fun _=>none:=by
  rw [← x6]
  congr 1
theorem qb {ns:List aE} {i:Nat} (hi:i<=ns.length) (h:∀ a,a < i->∀ j,j < (nd ns a).ah.length->gj ns a j):∀ p,p∈bX ns i->p.1 < ns.length/\p.2 < ns.length:=by
  induction i with
  | zero=>intro p hp;cases hp
  | succ i ih=>
    intro p hp
    rw [bX] at hp
    rcases List.mem_append.1 hp with hp|hp
    ·have:=A8 (h i (Nat.lt_succ_self i)) p hp
     exact⟨this.1,by omega⟩
    exact ih (by omega) (fun a ha=>h a (by omega)) p hp
theorem Cn (ns:List aE) (i:Nat):(bX ns i).length<=bU ns i:=by
  induction i with
  | zero=>exact Nat.le_refl _
  | succ i ih=>
    rw [bX,bU,List.length_append]
    have:=A6 ns i (nd ns i).ah.length
    omega
theorem qV {ns:List aE} {i m:Nat} (h:i<=m):bU ns i<=bU ns m:=by
  induction m with
  | zero=>rw [Nat.le_zero.1 h];exact Nat.le_refl _
  | succ m ih=>
    rcases Nat.lt_or_ge m i with h1|h1
    ·have:i=m+1:=by omega
     subst this
     exact Nat.le_refl _
    have:=ih h1
    rw [bU]
    omega
theorem Gy {ns:List aE} {ps:List (Nat×Nat)} (hp:∀ p,p∈ps->p.1 < ns.length/\p.2 < ns.length) (hid:∀ i,i < ns.length->1<=(nd ns i).id/\(nd ns i).id<=1099511627776) :
    ∀ z y,up (ps.map (dM ns)) z=some y->(-9223372036854775808<=z/\z<=9223372036854775807)/\(-9223372036854775808<=y/\y<=9223372036854775807):=by
  intro z y h
  unfold up at h
  induction ps with
  | nil=>cases h
  | cons p ps ih=>
    obtain⟨a,b⟩:=p
    rw [List.map_cons,dM,List.lookup_cons] at h
    by_cases e:(z == (nd ns a).id)=true
    ·rw [e] at h
     cases h
     have h1:=hp (a,b) (List.mem_cons_self ..)
     have h2:=hid a h1.1
     have h3:=hid b h1.2
     have:z=(nd ns a).id:=by simpa using e
     show (_/\_)/\(-9223372036854775808<=(nd ns b).id/\(nd ns b).id<=9223372036854775807)
     omega
    have e:(z == (nd ns a).id)=false:=by simpa using e
    rw [e] at h
    exact ih (fun p hp'=>hp p (List.mem_cons_of_mem _ hp')) h
theorem LW {p:Prop} [Decidable p] {v:Value} {l:List HP} (h:v=.bool (decide p)/\l=[]):(v=.bool true/\p/\l=[])\/(v=.bool false/\¬ p/\l=[]):=by
  by_cases hp:p
  ·exact .inl ⟨by rw [h.1,decide_eq_true hp],hp,h.2⟩
  exact .inr ⟨by rw [h.1,decide_eq_false hp],hp,h.2⟩
theorem rU.next {ns:List aE} {i:Nat} (h:rU ns i (bX ns i)):((bX ns (i+1)).map Prod.fst).Nodup:=h.nodup
theorem aS.row {ns:List aE} (h:aS ns) {i:Nat} (hi:i < ns.length):rU ns i (bX ns i):=by
  refine⟨h.ah i hi,?_⟩
  obtain⟨l,hl⟩:=Fw (ns:=ns) (show i+1<=ns.length from hi)
  have:=h.nodup
  rw [hl] at this
  exact tE this
end
section
open Go.RowKit
attribute [local irreducible] ak aK af ai
theorem Kg {β:Bs} (A:Option Addr) (c:Nat) (ns:List aE) (L:Lay) (hG:au β A ns L) (hl:ns.length<=1048576) (hd:∀ i,i < ns.length->(nd ns i).data.length<=140737488355328/\(nd ns i).ah.length<=1048576) (hwf:∀ i,i < ns.length->∀ j,j < (nd ns i).ah.length->-9223372036854775808<=(ent ns i j).id/\(ent ns i j).id<=9223372036854775807) (hnm:∀ i,i < ns.length->∀ j,j < (nd ns i).ah.length->(ent ns i j).name.size<=1048576) :
    Spec Tryz.prog β 35 #[.agg #[.slice A ns.length c]] [] (fun v l=>(∃ mb,v=.tuple #[.map (some mb),.bool true]/\aS ns/\l=[.abs (aN Tryz.prog 3 mb (mf (bf A ns ns.length)) ns.length)])\/(∃ m,v=.tuple #[m,.bool false]/\¬ aS ns/\l=[])):=by
 refine Spec.enter Tryz.func35 rfl Tryz.ntmps35 (Nat.le_of_ble_eq_true rfl) (fun R=>?_)
 refine SR (gN 3 (fun b1=>[(1,vP b1)]) (fun _=>[]) (fun _=>[]) (fun b1=>.blk b1 [.slice A (ns.length) (c)] 24) (fun b1=>?_))
 refine NN (af.seq (SR (gK 4 [(14,.bool (decide ((((ns.length:Nat):Int):Int) > (4096:Int))))] [(1,a_ 1 b1)] ?_)))
 refine NN (af.aR (p:=(((ns.length:Nat):Int):Int) > (4096:Int)) (fun _=>by kernel_rfl) (fun fO=>?_) (fun fO=>?_))
 ·refine SR (gK 2 [(2,.map none),(3,.bool false)] [] ?_)
  refine NN (af.ret (ai.aj ?_))
  exact RT (.tuple #[.map none,.bool false]) [0] (.inr ⟨_,rfl,fun h=>by have:=h.len;omega,rfl⟩)
 refine af.skip (NX (SR (ak.lQ (d:=(some 15)) (t:=105) (fun _=>by kernel_rfl) Tryz.prog rfl 3 (fun m2=>?_))))
 refine gK 1 [(4,.map (some m2))] [] ?_
 refine NS (ak.dV 2 (p:=.abs (aN Tryz.prog 3 m2 (fun _=>none) 0)) (p':=.abs (aN Tryz.prog 3 m2 (mf (bf A ns 0)) 0)) (by kernel_rfl) (by rw [Ke]) ?_)
 refine gK 2 [(5,vI 0),(6,vI 0)] [] ?_
 refine NN (af.seq (SR (gK 4 [(18,vI ↑ns.length),(19,vI 0)] [(1,a_ 1 b1)] ?_)))
 refine NN (af.block ?_)
 refine af.loop (ι:=Nat) (fun (k:Nat)=>(k<=ns.length)/\(jY ns k)/\(bU ns k<=k * 1048576)) (fun (k:Nat)=>ns.length - k) (fun (k:Nat)=>[(1,vP b1),(4,.map (some m2)),(5,vI (jx ns k)),(6,vI ↑(bU ns k)),(18,vI ↑ns.length),(19,vI ↑k)]) (fun (k:Nat)=>[.blk b1 [.slice A (ns.length) (c)] 24,.abs (aN Tryz.prog 3 m2 (mf (bf A ns k)) k),.abs R]) 0 (idx:=[1,4,5,6,18,19]) (pk:=[1,2,0]) (show (0<=ns.length)/\(jY ns 0)/\(bU ns 0<=0 * 1048576) from ⟨Nat.zero_le _,jY.zero ns,Nat.zero_le _⟩) (fun _=>by kernel_rfl) rfl (by kernel_rfl) ?_
 rintro k ⟨hk,hu,hs⟩
 show af _ _ _ _ [(1,vP b1),(4,.map (some m2)),(5,vI (jx ns k)),(6,vI ↑(bU ns k)),(18,vI ↑ns.length),(19,vI ↑k)] [.blk b1 [.slice A (ns.length) (c)] 24,.abs (aN Tryz.prog 3 m2 (mf (bf A ns k)) k),.abs R] _
 have hk4:=(hd k)
 refine SR (gK 1 [(20,.bool (decide ((((k:Nat):Int):Int) < (((ns.length:Nat):Int):Int))))] [] ?_)
 refine NN (af.seq (af.aR (p:=(((k:Nat):Int):Int) < (((ns.length:Nat):Int):Int)) (fun _=>by kernel_rfl) (fun kT=>?_) (fun kT=>?_)))
 ·refine af.skip (NX (af.seq (af.block (SR ?_))))
  refine gK 2 [(7,vI ↑k)] [] ?_
  refine NS (gK 5 [(8,.pointer (some ⟨(ar A),aq A+k * 10,none⟩))] [(1,a_ 0 b1),(3,p_ ⟨[],some k,none,some ⟨(ar A),aq A,none⟩,none⟩ [((k:Nat):Int)=((k:Nat):Int),k < ns.length,(⟨(ar A),aq A,none⟩:Addr).spot=none,(A:Option Addr)=some ⟨(ar A),aq A,none⟩] ⟨rfl,by omega,rfl,au.hd hG (i:=k) (by omega),trivial⟩)] ?_)
  refine NN (af.seq (SR (gK 7 [(32,.bool (decide (((nd ns k).id:Int)<=(jx ns k:Int))))] [(3,p_ ⟨[.old (.int .i64 ((nd ns k).id))],none,none,none,none⟩ [(Rd β ⟨(ar A),aq A+k * 10,none⟩ (.int .i64 ((nd ns k).id)))] ⟨au.rd hG (i:=k) (by omega) (j:=0) rfl,trivial⟩)] ?_)))
  refine ak.bZ 32 (((nd ns k).id:Int)<=(jx ns k:Int)) (fun _=>by kernel_rfl) (fun vu=>?_) (fun vu=>?_)
  ·refine gK 11 [(43,.bool true)] [] ?_
   refine NN (CT (SR (gK 2 [(2,.map none),(3,.bool false)] [] ?_)))
   refine NN (af.ret (ai.aj (ai.ax (ai.aj (ai.aj (ai.ax (ai.aj ?_)))))))
   exact RT (.tuple #[.map none,.bool false]) [2] (.inr ⟨_,rfl,fun h=>by have:=h.last (show k < ns.length by omega);omega,rfl⟩)
  refine gK 7 [(39,.bool (decide (((nd ns k).id:Int) > (1099511627776:Int))))] [(3,p_ ⟨[.old (.int .i64 ((nd ns k).id))],none,none,none,none⟩ [(Rd β ⟨(ar A),aq A+k * 10,none⟩ (.int .i64 ((nd ns k).id)))] ⟨au.rd hG (i:=k) (by omega) (j:=0) rfl,trivial⟩)] ?_
  refine ak.bZ 39 (((nd ns k).id:Int) > (1099511627776:Int)) (fun _=>by kernel_rfl) (fun mO=>?_) (fun mO=>?_)
  ·refine gK 4 [(43,.bool true)] [] ?_
   refine NN (CT (SR (gK 2 [(2,.map none),(3,.bool false)] [] ?_)))
   refine NN (af.ret (ai.aj (ai.ax (ai.aj (ai.aj (ai.ax (ai.aj ?_)))))))
   exact RT (.tuple #[.map none,.bool false]) [2] (.inr ⟨_,rfl,fun h=>by have:=(h.ids k (by omega)).2;omega,rfl⟩)
  refine gK 1 [(40,.pointer (some ⟨(ar A),aq A+k * 10,none⟩))] [] ?_
  refine gL [] (G5 A ns L hG k (by omega)) ?_
  rintro _ _ ⟨rfl,rfl⟩
  refine gK 2 [(43,.bool (!(decide (iC (nd ns k)))))] [] ?_
  refine NN (af.cu (p:=iC (nd ns k)) (fun _=>by kernel_rfl) (fun LX=>?_) (fun LX=>?_))
  ·refine SR (gK 2 [(2,.map none),(3,.bool false)] [] ?_)
   refine NN (af.ret (ai.aj (ai.ax (ai.aj (ai.aj (ai.ax (ai.aj ?_)))))))
   exact RT (.tuple #[.map none,.bool false]) [2] (.inr ⟨_,rfl,fun h=>LX (h.node k (by omega)),rfl⟩)
  refine af.skip (NX (SR (gK 5 [(5,vI ((nd ns k).id))] [(3,p_ ⟨[.old (.int .i64 ((nd ns k).id))],none,none,none,none⟩ [(Rd β ⟨(ar A),aq A+k * 10,none⟩ (.int .i64 ((nd ns k).id)))] ⟨au.rd hG (i:=k) (by omega) (j:=0) rfl,trivial⟩)] ?_)))
  refine NS (gK 6 [(48,.map (some m2)),(52,vI ((nd ns k).id)),(53,.pointer (some ⟨(ar A),aq A+k * 10,none⟩))] [(4,p_ ⟨[.old (.int .i64 ((nd ns k).id))],none,none,none,none⟩ [(Rd β ⟨(ar A),aq A+k * 10,none⟩ (.int .i64 ((nd ns k).id)))] ⟨au.rd hG (i:=k) (by omega) (j:=0) rfl,trivial⟩)] ?_)
  refine ak.j7 1 (d:=none) (t:=105) (K:=3) (E:=120) (b:=m2) (n:=k) (f:=(mf (bf A ns k))) (x:=(.tmp 48)) (ix:=(.tmp 52)) (y:=(.tmp 53)) (key:=.int .i64 ((nd ns k).id)) (u:=.pointer (some ⟨(ar A),aq A+k * 10,none⟩)) (kl:=(.int .i64 (nd ns k).id)) (n':=k+1) (f':=(mf (bf A ns (k+1)))) (fun _=>by kernel_rfl) (by kernel_rfl) (fun _=>by kernel_rfl) (fun _=>by kernel_rfl) (fun _=>by kernel_rfl) dW Tryz.underlying105 (by unfold maxLen;omega) (mW (by have:=hu.last;omega) (by omega)) (IG (hu.below (by omega)) (by omega)) (LV (hu.below (by omega)) (by omega)) ?_
  refine NN (af.region (gK 8 [(6,vI ↑((bU ns k)+((nd ns k).ah.length)))] [(4,p_ ⟨[.old (.slice (L.eA k) ((nd ns k).ah.length) ((L.eC k)))],none,none,none,none⟩ [(Rd β ⟨(ar A),aq A+k * 10+9,none⟩ (.slice (L.eA k) ((nd ns k).ah.length) ((L.eC k))))] ⟨au.rd hG (i:=k) (by omega) (j:=9) rfl,trivial⟩),(6,p_ ⟨[],none,none,none,some (vI ↑((bU ns k)+((nd ns k).ah.length)))⟩ [(Value.int .i64 (IntKind.wrap .i64 (((bU ns k:Nat):Int)+(((nd ns k).ah.length:Nat):Int))))=(.int .i64 ↑((bU ns k)+((nd ns k).ah.length)))] ⟨aU (by omega) (by omega) (by omega),trivial⟩)] ?_))
  refine NL (ai.aF (NX (af.region ?_)))
  refine gK 2 [(19,vI ↑(k+1))] [(0,p_ ⟨[],none,none,none,some (vI ↑(k+1))⟩ [(Value.int .i64 (IntKind.wrap .i64 (((k:Nat):Int)+1)))=(.int .i64 ↑(k+1))] ⟨aU (by omega) (by omega) (by omega),trivial⟩)] ?_
  refine NL ?_
  exact ai.turn ((k+1)) (idx:=[1,4,5,6,18,19]) (pk:=[0,1,2]) (show (((k+1))<=ns.length)/\(jY ns ((k+1)))/\(bU ns ((k+1))<=((k+1)) * 1048576) from ⟨by omega,hu.step (by omega) (by omega) LX,by have:=(hd k (by omega)).2;show bU ns k+_<=_;omega⟩) (by show ns.length - ((k+1)) < ns.length - k;omega) (fun _=>by kernel_rfl) rfl (by kernel_rfl)
 refine af.exit (ai.aL (ai.aL (ai.bG (NX (af.seq (SR ?_))))))
 refine gK 2 [(63,.bool (decide ((((bU ns k:Nat):Int):Int) > (8192:Int))))] [] ?_
 refine NN (af.aR (p:=(((bU ns k:Nat):Int):Int) > (8192:Int)) (fun _=>by kernel_rfl) (fun h63=>?_) (fun h63=>?_))
 ·refine SR (gK 2 [(2,.map none),(3,.bool false)] [] ?_)
  refine NN (af.ret (ai.aj ?_))
  exact RT (.tuple #[.map none,.bool false]) [2] (.inr ⟨_,rfl,fun h=>by have h1:=h.sum;rw [show ns.length=k by omega] at h1;omega,rfl⟩)
 refine af.skip (NX (SR (ak.lQ (d:=(some 64)) (t:=122) (fun _=>by kernel_rfl) Tryz.prog rfl 3 (fun m3=>?_))))
 refine gK 1 [(9,.map (some m3))] [] ?_
 refine NN (af.seq (SR (ak.dV 3 (p:=.abs (aN Tryz.prog 3 m3 (fun _=>none) 0)) (p':=.abs (aN Tryz.prog 3 m3 (mf (pf ((bX ns 0).map (dM ns)))) ((bX ns 0).length))) (by kernel_rfl) (by rw [Kf];rfl) ?_)))
 refine ak.dV 1 (p:=.abs (aN Tryz.prog 3 m2 (mf (bf A ns k)) k)) (p':=.abs (aN Tryz.prog 3 m2 (mf (bf A ns ns.length)) ns.length)) (by kernel_rfl) (by rw [show k=ns.length by omega]) ?_
 refine gK 4 [(67,vI ↑ns.length),(68,vI 0)] [(1,a_ 0 b1)] ?_
 refine NN (af.block ?_)
 have sD:bN ns:=fun a b hab hb=>hu.rise a b hab (by omega)
 have hsum:bU ns ns.length<=8192:=by rw [show ns.length=k by omega];omega
 refine af.loop (ι:=Nat) (fun (i:Nat)=>(i<=ns.length)/\(∀ a,a < i->∀ j,j < (nd ns a).ah.length->gj ns a j)/\(((bX ns i).map Prod.fst).Nodup)) (fun (i:Nat)=>ns.length - i) (fun (i:Nat)=>[(1,vP b1),(4,.map (some m2)),(9,.map (some m3)),(67,vI ↑ns.length),(68,vI ↑i)]) (fun (i:Nat)=>[.blk b1 [.slice A (ns.length) (c)] 24,.abs (aN Tryz.prog 3 m2 (mf (bf A ns ns.length)) ns.length),.abs (aN Tryz.prog 3 m3 (mf (pf ((bX ns i).map (dM ns)))) ((bX ns i).length)),.abs R]) 0 (idx:=[1,4,9,67,68]) (pk:=[0,1,3,2]) (show (0<=ns.length)/\(∀ a,a < 0->∀ j,j < (nd ns a).ah.length->gj ns a j)/\(((bX ns 0).map Prod.fst).Nodup) from ⟨Nat.zero_le _,fun a ha=>absurd ha (Nat.not_lt_zero a),List.nodup_nil⟩) (fun _=>by kernel_rfl) rfl (by kernel_rfl) ?_
 rintro i ⟨hi,qF,hnd⟩
 show af _ _ _ _ [(1,vP b1),(4,.map (some m2)),(9,.map (some m3)),(67,vI ↑ns.length),(68,vI ↑i)] [.blk b1 [.slice A (ns.length) (c)] 24,.abs (aN Tryz.prog 3 m2 (mf (bf A ns ns.length)) ns.length),.abs (aN Tryz.prog 3 m3 (mf (pf ((bX ns i).map (dM ns)))) ((bX ns i).length)),.abs R] _
 refine SR (gK 1 [(69,.bool (decide ((((i:Nat):Int):Int) < (((ns.length:Nat):Int):Int))))] [] ?_)
 refine NN (af.seq (af.aR (p:=(((i:Nat):Int):Int) < (((ns.length:Nat):Int):Int)) (fun _=>by kernel_rfl) (fun Jk=>?_) (fun Jk=>?_)))
 ·refine af.skip (NX (af.seq (af.block (SR ?_))))
  refine gK 2 [(10,vI ↑i)] [] ?_
  refine NS (gK 6 [(74,.pointer (some ⟨(ar A),aq A+i * 10,none⟩)),(75,.map (some m2)),(76,.map (some m3))] [(1,a_ 0 b1),(3,p_ ⟨[],some i,none,some ⟨(ar A),aq A,none⟩,none⟩ [((i:Nat):Int)=((i:Nat):Int),i < ns.length,(⟨(ar A),aq A,none⟩:Addr).spot=none,(A:Option Addr)=some ⟨(ar A),aq A,none⟩] ⟨rfl,by omega,rfl,au.hd hG (i:=i) (by omega),trivial⟩)] ?_)
  refine gL [1,2] (IE A ns L hG sD i (by omega) (hd i (by omega)).2 (hwf i (by omega)) (hnm i (by omega)) m2 m3 (bX ns i) (by have:=Cn ns i;have:=qV (ns:=ns) (show i<=ns.length by omega);omega) (fun p hp=>(qb (by omega) qF p hp).1) hnd) ?_
  rintro _ _ (⟨rfl,hro,rfl⟩|⟨rfl,hro,rfl⟩)
  ·refine gK 1 [(78,.bool false)] [] ?_
   refine NN (CF (af.skip (ai.aF (NX (af.region ?_)))))
   refine gK 2 [(68,vI ↑(i+1))] [(0,p_ ⟨[],none,none,none,some (vI ↑(i+1))⟩ [(Value.int .i64 (IntKind.wrap .i64 (((i:Nat):Int)+1)))=(.int .i64 ↑(i+1))] ⟨aU (by omega) (by omega) (by omega),trivial⟩)] ?_
   refine NL ?_
   exact ai.turn ((i+1)) (idx:=[1,4,9,67,68]) (pk:=[2,0,1,3]) (show (((i+1))<=ns.length)/\(∀ a,a < ((i+1))->∀ j,j < (nd ns a).ah.length->gj ns a j)/\(((bX ns ((i+1))).map Prod.fst).Nodup) from ⟨by omega,fun a ha=>(by rcases Nat.lt_succ_iff_lt_or_eq.1 ha with h|h;exact qF a h;subst h;exact hro.ah),hro.next⟩) (by show ns.length - ((i+1)) < ns.length - i;omega) (fun _=>by kernel_rfl) rfl (by kernel_rfl)
  refine gK 1 [(78,.bool true)] [] ?_
  refine NN (CT (SR (gK 2 [(2,.map none),(3,.bool false)] [] ?_)))
  refine NN (af.ret (ai.ax (ai.aj (ai.aj (ai.ax (ai.aj ?_))))))
  exact RT (.tuple #[.map none,.bool false]) [1] (.inr ⟨_,rfl,fun h=>hro (h.row (by omega)),rfl⟩)
 refine af.exit (ai.aL (ai.aL (ai.bG (NX (SR ?_)))))
 refine gK 2 [(80,.map (some m2)),(81,.map (some m3))] [] ?_
 refine ak.dV 2 (p:=.abs (aN Tryz.prog 3 m3 (mf (pf ((bX ns i).map (dM ns)))) ((bX ns i).length))) (p':=.abs (aN Tryz.prog 3 m3 (mf (pf ((bX ns i).map (dM ns)))) (((bX ns i).map (dM ns)).length))) (by kernel_rfl) (by rw [List.length_map]) ?_
 refine gL [2] ((Fq m3 ((bX ns i).map (dM ns)) (by rw [List.length_map];have:=Cn ns i;have:=qV (ns:=ns) (show i<=ns.length by omega);omega) (Gy (qb (by omega) qF) (fun a ha=>hu.ids a (by omega)))).mono (fun v l h=>LW h)) ?_
 rintro _ _ (⟨rfl,LY,rfl⟩|⟨rfl,LY,rfl⟩)
 ·refine gK 2 [(2,.map (some m2)),(3,.bool true)] [] ?_
  refine NN (af.ret ?_)
  exact RT (.tuple #[.map (some m2),.bool true]) [1,2] (.inl ⟨m2,rfl,⟨by omega,fun a ha=>hu.node a (by omega),fun a ha=>hu.ids a (by omega),sD,by omega,fun a ha=>qF a (by omega),by have:=hnd;rwa [show i=ns.length by omega] at this,by have:=LY;rwa [show i=ns.length by omega] at this⟩,rfl⟩)
 refine gK 2 [(2,.map (some m2)),(3,.bool false)] [] ?_
 refine NN (af.ret ?_)
 exact RT (.tuple #[.map (some m2),.bool false]) [2] (.inr ⟨_,rfl,fun h=>LY (by have:=h.ends;rwa [show ns.length=i by omega] at this),rfl⟩)
theorem II {β:Bs} (A:Option Addr) (c:Nat) (ns:List aE) (L:Lay) (hG:au β A ns L) (hl:ns.length<=1048576) (hd:∀ i,i < ns.length->(nd ns i).data.length<=140737488355328/\(nd ns i).ah.length<=1048576) (hwf:∀ i,i < ns.length->∀ j,j < (nd ns i).ah.length->-9223372036854775808<=(ent ns i j).id/\(ent ns i j).id<=9223372036854775807) (hnm:∀ i,i < ns.length->∀ j,j < (nd ns i).ah.length->(ent ns i j).name.size<=1048576) :
    Spec Tryz.prog β 16 #[.agg #[.slice A ns.length c]] [] (fun v l=>v=vI (if aS ns then 0 else 140)/\l=[]):=by
 refine Spec.enter Tryz.func16 rfl Tryz.ntmps16 (Nat.le_of_ble_eq_true rfl) (fun R=>?_)
 refine SR (gN 2 (fun b4=>[(1,vP b4)]) (fun _=>[]) (fun _=>[]) (fun b4=>.blk b4 [.slice A (ns.length) (c)] 24) (fun b4=>?_))
 refine NN (af.seq (SR (gK 1 [(6,.agg #[.slice A (ns.length) (c)])] [(0,a_ 1 b4)] ?_)))
 refine gL [] (Kg A c ns L hG hl hd hwf hnm) ?_
 rintro _ _ (⟨mb,rfl,hok,rfl⟩|⟨m,rfl,hok,rfl⟩)
 ·refine gK 5 [(4,.bool true)] [] ?_
  refine NS (gK 2 [(11,.bool false)] [] ?_)
  refine NN (CF (af.skip (NX (SR (gK 1 [(2,vI 0)] [] ?_)))))
  refine NN (af.ret ?_)
  exact RT (vI 0) [1] (⟨congrArg (Value.int .i64) (if_pos hok).symm,rfl⟩)
 refine gK 5 [(4,.bool false)] [] ?_
 refine NS (gK 2 [(11,.bool true)] [] ?_)
 refine NN (CT (SR (gK 1 [(2,vI 140)] [] ?_)))
 refine NN (af.ret (ai.aj ?_))
 exact RT (vI 140) [0] (⟨congrArg (Value.int .i64) (if_neg hok).symm,rfl⟩)
end
section
open Go.RowKit Go.Maps
def sE (ed:List (Nat×Nat)) (k:Nat):Int:=match ed.lookup k with|some a=>(a:Int)|none=>-1
structure qG (n:Nat) (pl:List Int) (ed:List (Nat×Nat)):Prop where
  len:pl.length=n
  at_:∀ k,k < n->pl.getD k 0=sE ed k
theorem qH {w:List Int} {j:Nat} (hj:j < w.length):(cG w)[j]?=some (.int .i64 (w.getD j 0)):=by
  rw [cG,List.getElem?_map,getD_some (x:=0) hj];rfl
theorem uz (pl:List Int) (k:Nat) (x:Int):(cG pl).set k (.int .i64 x)=cG (pl.set k x):=by
  unfold cG
  rw [List.map_set]
theorem Co {pl:List Int} {k j:Nat} {x:Int} (hk:k < pl.length):(pl.set k x).getD j 0=if j=k then x else pl.getD j 0:=by
  rw [List.getD_eq_getElem?_getD,List.getD_eq_getElem?_getD,List.getElem?_set]
  by_cases e:k=j
  ·subst e;simp [hk]
  have:¬ j=k:=fun h=>e h.symm
  simp [e,this]
theorem qG.put {n:Nat} {pl:List Int} {ed:List (Nat×Nat)} (h:qG n pl ed) {k a:Nat} (hk:k < n):qG n (pl.set k (a:Int)) ((k,a)::ed):=by
  refine⟨by rw [List.length_set];exact h.len,fun j hj=>?_⟩
  rw [Co (by rw [h.len];exact hk)]
  unfold sE
  rw [List.lookup_cons]
  by_cases e:j=k
  ·subst e;simp
  have:(j == k)=false:=by simp [e]
  rw [if_neg e,this,h.at_ j hj]
  rfl
theorem qI {ed:List (Nat×Nat)} {k:Nat}:sE ed k < 0↔k∉ed.map Prod.fst:=by
  unfold sE
  induction ed with
  | nil=>simp
  | cons p ed ih=>
    obtain⟨a,b⟩:=p
    rw [List.lookup_cons]
    by_cases e:k=a
    ·subst e
     simp
    have h1:(k == a)=false:=by simp [e]
    rw [h1]
    simp only [List.map_cons,List.mem_cons,not_or]
    exact ih.trans ⟨fun h=>⟨e,h⟩,fun h=>h.2⟩
theorem Kh {ns:List aE} {ed:List (Nat×Nat)} {k:Nat} (hr:bN ns) (hk:k < ns.length) (hp:∀ p,p∈ed->p.1 < ns.length) :
    (sE ed k < 0/\up (ed.map (dM ns)) (nd ns k).id=none)\/∃ a:Nat,sE ed k=(a:Int)/\(k,a)∈ed/\up (ed.map (dM ns)) (nd ns k).id=some (nd ns a).id:=by
  unfold sE up
  induction ed with
  | nil=>exact .inl ⟨by simp,rfl⟩
  | cons p ed ih=>
    obtain⟨a,b⟩:=p
    rw [List.map_cons,dM,List.lookup_cons,List.lookup_cons]
    by_cases e:k=a
    ·subst e
     exact .inr ⟨b,by simp,List.mem_cons_self ..,by simp⟩
    have h1:(k == a)=false:=by simp [e]
    have h2:((nd ns k).id == (nd ns a).id)=false:=by
      simp
      exact fun h=>e (hr.inj hk (hp (a,b) (List.mem_cons_self ..)) h)
    rw [h1,h2]
    rcases ih (fun p hp'=>hp p (List.mem_cons_of_mem _ hp')) with h|⟨c,h3,h4,h5⟩
    ·exact .inl h
    exact .inr ⟨c,h3,List.mem_cons_of_mem _ h4,h5⟩
theorem Way.back {ps:List (Int×Int)} {z0:Int} {w:List Int} (h:Way ps z0 w z0) (hl:0 < w.length):¬ Ends ps z0:=fun ⟨k,hk⟩=>by
  obtain⟨j,hj,h2⟩:=h.long hk
  have:=gZ.uniq hk h2
  omega
theorem Cp:∀ (n:Nat) (l:List Nat),l.Nodup->(∀ x,x∈l->x < n)->l.length<=n
  | 0,[],_,_=>Nat.le_refl _
  | 0,a::l,_,h=>absurd (h a (List.mem_cons_self ..)) (Nat.not_lt_zero a)
  | n+1,l,hn,h=>by
    have h1:=Cp n (l.erase n) (hn.erase n) (fun x hx=>by
      have h2:=(List.Nodup.mem_erase_iff hn).1 hx
      have:=h x h2.2
      omega)
    by_cases hm:n∈l
    ·have:=List.length_erase_of_mem hm
     omega
    rw [List.erase_of_not_mem hm] at h1
    omega
theorem Gz {ns:List aE} {ed:List (Nat×Nat)} (hp:∀ p,p∈ed->p.1 < ns.length) (h:∀ i,i < ns.length->Ends (ed.map (dM ns)) (nd ns i).id):qZ (ed.map (dM ns)):=by
  intro z
  cases hu:up (ed.map (dM ns)) z with
  | none=>exact⟨0,hu⟩
  | some y=>
    have:∃ p,p∈ed/\z=(nd ns p.1).id:=by
      unfold up at hu
      clear h
      induction ed with
      | nil=>cases hu
      | cons p ed ih=>
        rw [List.map_cons,dM,List.lookup_cons] at hu
        by_cases e:(z == (nd ns p.1).id)=true
        ·exact⟨p,List.mem_cons_self ..,by simpa using e⟩
        have e:(z == (nd ns p.1).id)=false:=by simpa using e
        rw [e] at hu
        obtain⟨q,hq,h2⟩:=ih (fun p hp'=>hp p (List.mem_cons_of_mem _ hp')) hu
        exact⟨q,List.mem_cons_of_mem _ hq,h2⟩
    obtain⟨p,h1,rfl⟩:=this
    exact h p.1 (hp p h1)
theorem Cq {ns:List aE} {ed:List (Nat×Nat)} {pl:List Int} {z:Int} {b m:Nat} {w:List Int} (hr:bN ns) (hp:∀ p,p∈ed->p.1 < ns.length/\p.2 < ns.length) (hpar:qG ns.length pl ed) (hb:b < ns.length) (hw:Way (ed.map (dM ns)) z w (nd ns b).id) (hm:w.length=m) :
    (pl.getD b 0 < 0/\Ends (ed.map (dM ns)) z)\/∃ q:Nat,pl.getD b 0=(q:Int)/\q < ns.length/\Way (ed.map (dM ns)) z (w++[(nd ns b).id]) (nd ns q).id/\(w++[(nd ns b).id]).length=m+1:=by
  rw [hpar.at_ b hb]
  rcases Kh hr hb (fun p h=>(hp p h).1) with ⟨h1,h2⟩|⟨a,h1,h2,h3⟩
  ·exact .inl ⟨h1,(hw.ends ⟨0,h2⟩).1⟩
  exact .inr ⟨a,h1,(hp _ h2).2,hw.snoc h3,by simp;omega⟩
theorem sF {ns:List aE} {i j:Nat} (h1:0<=gJ ns (ent ns i j).id) (h2:bI (ent ns i j).name) (h3:0 < j->¬ fJ (ent ns i j).name (ent ns i (j - 1)).name):gj ns i j:=by
  refine⟨h1,h2,?_⟩
  cases j with
  | zero=>
    intro h
    have:=CI.1 h
    have h4:=h2.1
    rw [this] at h4
    exact absurd h4 (by decide)
  | succ j=>exact h3 (Nat.succ_pos j)
theorem EW {ns:List aE} {k:Nat} (h:0 < k):jx ns k=(nd ns (k - 1)).id:=by
  cases k with
  | zero=>omega
  | succ k=>rfl
theorem Cr {ns:List aE} {i j:Nat} (h:0 < j):jb ns i j=(ent ns i (j - 1)).name:=by
  cases j with
  | zero=>omega
  | succ j=>rfl
theorem aS.few {ns:List aE} (h:aS ns):((bX ns ns.length).map (dM ns)).length<=ns.length:=by
  rw [List.length_map]
  have h1:=qb (ns:=ns) (Nat.le_refl _) h.ah
  have h2:=Cp ns.length ((bX ns ns.length).map Prod.fst) h.nodup (fun x hx=>by
    obtain⟨p,hp,rfl⟩:=List.mem_map.1 hx
    exact (h1 p hp).1)
  rwa [List.length_map] at h2
end
section
open Go.RowKit Go.Maps
structure yV (ns:List aE) (i j:Nat):Prop where
  LZ:i < ns.length
  zL:j < (nd ns i).ah.length
  dir:(nd ns (tgt ns (ent ns i j).id)).kind=2
section
variable {ns:List aE}
theorem qc {i m:Nat} {p:Nat×Nat}:p∈bW ns i m↔∃ j,j < m/\(nd ns (tgt ns (ent ns i j).id)).kind=2/\p=(tgt ns (ent ns i j).id,i):=by
  induction m with
  | zero=>simp [bW]
  | succ m ih=>
    by_cases h:(nd ns (tgt ns (ent ns i m).id)).kind=2
    ·rw [jc h,List.mem_cons,ih]
     refine⟨fun hp=>?_,fun ⟨j,hj,h1,h2⟩=>?_⟩
     ·rcases hp with rfl|⟨j,hj,h1,h2⟩
      ·exact⟨m,Nat.lt_succ_self m,h,rfl⟩
      exact⟨j,Nat.lt_succ_of_lt hj,h1,h2⟩
     rcases Nat.lt_succ_iff_lt_or_eq.1 hj with e|e
     ·exact .inr ⟨j,e,h1,h2⟩
     subst e;exact .inl h2
    rw [jC h,ih]
    refine⟨fun ⟨j,hj,h1⟩=>⟨j,Nat.lt_succ_of_lt hj,h1⟩,fun ⟨j,hj,h1,h2⟩=>?_⟩
    rcases Nat.lt_succ_iff_lt_or_eq.1 hj with e|e
    ·exact⟨j,e,h1,h2⟩
    subst e;exact absurd h1 h
theorem sG {m:Nat} {p:Nat×Nat}:p∈bX ns m↔∃ i j,i < m/\j < (nd ns i).ah.length/\(nd ns (tgt ns (ent ns i j).id)).kind=2/\p=(tgt ns (ent ns i j).id,i):=by
  induction m with
  | zero=>simp [bX]
  | succ m ih=>
    rw [bX,List.mem_append,qc,ih]
    refine⟨fun h=>?_,fun ⟨i,j,hi,hj,h1,h2⟩=>?_⟩
    ·rcases h with ⟨j,hj,h1,h2⟩|⟨i,j,hi,h⟩
     ·exact⟨m,j,Nat.lt_succ_self m,hj,h1,h2⟩
     exact⟨i,j,Nat.lt_succ_of_lt hi,h⟩
    rcases Nat.lt_succ_iff_lt_or_eq.1 hi with e|e
    ·exact .inr ⟨i,j,e,hj,h1,h2⟩
    subst e;exact .inl ⟨j,hj,h1,h2⟩
theorem yV.mem {i j:Nat} (h:yV ns i j):(tgt ns (ent ns i j).id,i)∈bX ns ns.length:=sG.2 ⟨i,j,h.LZ,h.zL,h.dir,rfl⟩
def JL (ns:List aE) (m:Nat):Prop:=∀ i j i' j',yV ns i j->yV ns i' j'->i < m->i' < m->tgt ns (ent ns i j).id=tgt ns (ent ns i' j').id->i=i'/\j=j'
theorem GA {i m:Nat} (h:((bW ns i m).map Prod.fst).Nodup):∀ j j',j < m->j' < m->(nd ns (tgt ns (ent ns i j).id)).kind=2->(nd ns (tgt ns (ent ns i j').id)).kind=2->tgt ns (ent ns i j).id=tgt ns (ent ns i j').id->j=j':=by
  induction m with
  | zero=>intro j j' hj;omega
  | succ m ih=>
    intro j j' hj hj' hk hk' e
    by_cases hm:(nd ns (tgt ns (ent ns i m).id)).kind=2
    ·rw [jc hm,List.map_cons,List.nodup_cons] at h
     rcases Nat.lt_succ_iff_lt_or_eq.1 hj with e1|e1
     ·rcases Nat.lt_succ_iff_lt_or_eq.1 hj' with e2|e2
      ·exact ih h.2 j j' e1 e2 hk hk' e
      subst e2;exact absurd (List.mem_map.2 ⟨_,qc.2 ⟨j,e1,hk,rfl⟩,e⟩) h.1
     rcases Nat.lt_succ_iff_lt_or_eq.1 hj' with e2|e2
     ·subst e1;exact absurd (List.mem_map.2 ⟨_,qc.2 ⟨j',e2,hk',rfl⟩,e.symm⟩) h.1
     omega
    rw [jC hm] at h
    rcases Nat.lt_succ_iff_lt_or_eq.1 hj with e1|e1
    ·rcases Nat.lt_succ_iff_lt_or_eq.1 hj' with e2|e2
     ·exact ih h j j' e1 e2 hk hk' e
     subst e2;exact absurd hk' hm
    subst e1;exact absurd hk hm
theorem GD {m:Nat} (h:((bX ns m).map Prod.fst).Nodup):JL ns m:=by
  induction m with
  | zero=>intro i j i' j' _ _ hi;omega
  | succ m ih=>
    rw [bX,List.map_append] at h
    obtain⟨h1,h2,h3⟩:=List.nodup_append.1 h
    intro i j i' j' g g' hi hi' e
    rcases Nat.lt_succ_iff_lt_or_eq.1 hi with e1|e1
    ·rcases Nat.lt_succ_iff_lt_or_eq.1 hi' with e2|e2
     ·exact ih h2 i j i' j' g g' e1 e2 e
     subst e2
     exact absurd e.symm (h3 _ (List.mem_map.2 ⟨_,qc.2 ⟨j',g'.zL,g'.dir,rfl⟩,rfl⟩) _ (List.mem_map.2 ⟨_,sG.2 ⟨i,j,e1,g.zL,g.dir,rfl⟩,rfl⟩))
    rcases Nat.lt_succ_iff_lt_or_eq.1 hi' with e2|e2
    ·subst e1
     exact absurd e (h3 _ (List.mem_map.2 ⟨_,qc.2 ⟨j,g.zL,g.dir,rfl⟩,rfl⟩) _ (List.mem_map.2 ⟨_,sG.2 ⟨i',j',e2,g'.zL,g'.dir,rfl⟩,rfl⟩))
    subst e1;subst e2
    exact⟨rfl,GA h1 j j' g.zL g'.zL g.dir g'.dir e⟩
def DN (ns:List aE) (d:Nat->Nat):Prop:=∀ i j,yV ns i j->d i < d (tgt ns (ent ns i j).id)
theorem aS.uniq (h:aS ns):JL ns ns.length:=GD h.nodup
theorem aS.deep (h:aS ns):∃ d,DN ns d:=by
  refine⟨fun k=>Classical.choose (h.ends (nd ns k).id),fun i j g=>?_⟩
  have hp:=qb (ns:=ns) (Nat.le_refl _) h.ah
  have hat:=(h.ah i g.LZ j g.zL).at_
  have htl:=j9 hat
  have e1:=Classical.choose_spec (h.ends (nd ns i).id)
  have e2:=Classical.choose_spec (h.ends (nd ns (tgt ns (ent ns i j).id)).id)
  show Classical.choose (h.ends (nd ns i).id) < Classical.choose (h.ends (nd ns (tgt ns (ent ns i j).id)).id)
  generalize Classical.choose (h.ends (nd ns i).id)=x at e1 ⊢
  generalize Classical.choose (h.ends (nd ns (tgt ns (ent ns i j).id)).id)=y at e2 ⊢
  cases hu:up ((bX ns ns.length).map (dM ns)) (nd ns (tgt ns (ent ns i j).id)).id with
  | none=>
    have:=Df hu
    exact absurd (List.mem_map.2 ⟨_,g.mem,rfl⟩) this
  | some z=>
    obtain⟨_,p,g1,g2,g3⟩:=Dg h.rise htl.1 (fun p hp'=>(hp p hp').1) hu
    obtain⟨a,b,ha,hb,hk,rfl⟩:=sG.1 g1
    have g2:tgt ns (ent ns a b).id=tgt ns (ent ns i j).id:=g2
    obtain⟨rfl,rfl⟩:=h.uniq a b i j ⟨ha,hb,hk⟩ g ha g.LZ g2
    have g3:z=(nd ns a).id:=g3
    cases y with
    | zero=>
      have e2:up _ _=none:=e2
      rw [hu] at e2;cases e2
    | succ y=>
      obtain⟨z',h1,h2⟩:=e2
      rw [hu] at h1
      cases h1
      rw [g3] at h2
      have:=e1.uniq h2
      show x < y+1
      omega
end
end
section
open Go.RowKit Go.Maps ck aB
structure jm (X:FM):Prop where
  cN:0<=X.cN/\X.cN<=4096
  cB:0<=X.cB/\X.cB<=1099511627776
  cH:0<=X.cH/\X.cH<=1024
  now:cg X.cS X.cZ
def dO (n:aE):Nat:=n.id.toNat
def mH (n:aE):Th:=⟨dO n,n.kind⟩
def mT (n:aE):aO:=⟨n.id,n.mode,n.uid,n.gid,n.sec,n.nano,0,0,false,n.kind,n.data,n.target,[],none⟩
def Ai:aO:=⟨0,0,0,0,0,0,0,0,false,0,[],⟨#[]⟩,[],none⟩
def fC (X:FM):aH:=⟨{ X with last:=0,ah:=0,used:=0 },fun _=>Ai,[],[],0⟩
def bS (S:aH) (n:aE):aH:={ S with X:={ S.X with last:=n.id,used:=S.X.used+n.data.length },O:=aA S.O (dO n) (fun _=>mT n),idx:=ins n.id (mH n) S.idx }
def jy (ns:List aE) (e:gV):Th:=mH (nd ns (tgt ns e.id))
def jA (ns:List aE) (S:aH) (n:aE) (e:gV):aH:={ S with X:={ S.X with ah:=S.X.ah+1 },O:=mz S.O (dO n) e.name (jy ns e) }
def dL (ns:List aE):Nat->Nat
  | 0=>0
  | k+1=>dL ns k+(nd ns k).data.length
def yX (ns:List aE):Used Th:=ns.map (fun n=>(n.id,mH n))
structure j5 (X:FM) (ns:List aE) (k:Nat) (S:aH):Prop where
  inv:Inv0 S
  idx:S.idx=yX (ns.take k)
  us:S.us=[]
  av:S.av=0
  cap:S.X={ X with last:=jx ns k,ah:=0,used:=(dL ns k:Int) }
  ob:∀ a,a < k->obj S.O (dO (nd ns a))=mT (nd ns a)
  free:∀ x,(∀ a,a < k->x≠dO (nd ns a))->obj S.O x=Ai
section base
variable {X:FM} {ns:List aE} {i j k a b:Nat} {S:aH}
theorem uD (h:aS ns) (hk:k < ns.length):(dO (nd ns k):Int)=(nd ns k).id:=by
  have:=h.ids k hk
  unfold dO;omega
theorem o6 (h:aS ns) (ha:a < ns.length) (hb:b < ns.length) (e:dO (nd ns a)=dO (nd ns b)):a=b:=
  h.rise.inj ha hb (by rw [← uD h ha,← uD h hb,e])
theorem uE (hk:k < ns.length):ns[k]?=some (nd ns k):=getD_some hk
theorem Ki (hk:k < ns.length):ns.take (k+1)=ns.take k++[nd ns k]:=by
  rw [List.take_add_one,uE hk];rfl
theorem GF (hX:jm X):j5 X ns 0 (fC X):=by
  refine⟨?_,rfl,rfl,rfl,rfl,fun a h=>absurd h (Nat.not_lt_zero a),fun _ _=>rfl⟩
  have hn:∀ t,¬ Live ([]:Used Th) t:=fun t h=>by cases h
  exact⟨hX.cN,hX.cB,hX.cH,hX.now,by show (0:Int)<=0/\(0:Int)<=_;omega,.nil,Nat.zero_le _,fun _ _ e=>(by cases e),fun t h=>absurd h (hn t),fun t h=>absurd h (hn t),fun t h=>absurd h (hn t),fun t h=>absurd h (hn t),
    fun _ _=>⟨rfl,rfl⟩,fun _ _=>rfl,⟨rfl,by show (0:Int)<=8192;omega⟩,fun t h=>absurd h (hn t),fun t h=>absurd h (hn t),fun t h=>absurd h (hn t),.nil,fun x hx=>(by cases hx),(by show ((0:Nat):Int)<=X.cH;have:=hX.cH;omega),⟨Int.le_refl _,hX.cH.1⟩,fun _ _ e=>(by cases e),fun t h=>absurd h (hn t),fun t h=>absurd h (hn t),⟨fun _=>0,fun k d e=>(by cases e)⟩,⟨rfl,by show (0:Int)<=_;omega⟩⟩
theorem DP (h:aS ns) (hk:k < ns.length):∀ x∈keys (yX (ns.take k)),x < (nd ns k).id:=by
  intro x hx
  obtain⟨p,hp,rfl⟩:=List.mem_map.1 hx
  obtain⟨n,hn,rfl⟩:=List.mem_map.1 hp
  obtain⟨a,ha,e⟩:=List.mem_iff_getElem.1 hn
  rw [List.length_take] at ha
  rw [List.getElem_take] at e
  have e2:nd ns a=n:=by
    have:=uE (ns:=ns) (k:=a) (by omega)
    rw [List.getElem?_eq_getElem (by omega),e] at this
    exact (Option.some.inj this).symm
  rw [← e2]
  exact h.rise a k (by omega) hk
theorem uF (hd:∀ i,i < ns.length->(nd ns i).data.length<=1048576) (hk:k<=ns.length):dL ns k<=1048576 * k:=by
  induction k with
  | zero=>exact Nat.le_refl _
  | succ k ih=>
    have h1:=ih (by omega)
    have h2:=hd k hk
    show dL ns k+(nd ns k).data.length<=_
    omega
theorem uG (h:aS ns) (hd:∀ i,i < ns.length->(nd ns i).data.length<=1048576) (hk:k < ns.length) (hB:j5 X ns k S):j5 X ns (k+1) (bS S (nd ns k)):=by
  have hs:=uF hd (Nat.le_of_lt hk)
  have hn:=h.node k hk
  have hid:=uD h hk
  have IJ:=h.ids k hk
  have hu:S.X.used=(dL ns k:Int):=by rw [hB.cap]
  have hl:S.X.last=jx ns k:=by rw [hB.cap]
  have hlen:=h.len
  have hdk:=hd k hk
  have PJ:S.idx.length=k:=by
    rw [hB.idx];unfold yX;rw [List.length_map,List.length_take];omega
  have h1:=hB.inv.newAt (k0:=dO (nd ns k)) (o:=mT (nd ns k)) (jl:=S.X.used+(nd ns k).data.length) (us':=S.us) (eP:=S.av) (by rw [hid,hl];exact h.last hk) (by rw [hid];exact IJ.2) ⟨rfl,by rw [hu];omega⟩ hid.symm
    (by have:=hn.kind;show (nd ns k).kind=1\/(nd ns k).kind=2\/(nd ns k).kind=3;omega) rfl rfl rfl rfl
    ⟨hn.mode,hn.uid,hn.gid,hn.time,fun e=>List.eq_nil_of_length_eq_zero (hn.data e),fun _=>rfl,hn.target⟩ (by omega)
    hB.inv.usr hB.inv.tV hB.inv.zB hB.inv.av (fun h t e=>⟨.inl (hB.inv.us h t e).1,(hB.inv.us h t e).2⟩) (fun _ _=>rfl) (by rw [hB.us];rfl)
  rw [hid] at h1
  refine⟨h1,?_,hB.us,hB.av,?_,fun a ha=>?_,fun x hx=>(show obj (aA S.O (dO (nd ns k)) fun _=>mT (nd ns k)) x=Ai from (bP (hx k (Nat.lt_succ_self k))).trans (hB.free x fun a ha=>hx a (Nat.lt_succ_of_lt ha)))⟩
  ·show ins (nd ns k).id (mH (nd ns k)) S.idx=_
   rw [hB.idx,Hw (DP h hk),Ki hk]
   unfold yX;rw [List.map_append];rfl
  ·show ({ S.X with last:=(nd ns k).id,used:=S.X.used+((nd ns k).data.length:Int) }:FM)=_
   rw [hu,hB.cap]
   show (⟨_,_,_,_,_,_,_,_⟩:FM)=⟨_,_,_,_,_,_,_,_⟩
   congr 1
  show obj (aA S.O (dO (nd ns k)) (fun _=>mT (nd ns k))) (dO (nd ns a))=_
  rcases Nat.lt_succ_iff_lt_or_eq.1 ha with e|e
  ·rw [bP (fun e2=>by have:=o6 h (by omega) hk e2;omega)]
   exact hB.ob a e
  subst e;exact bB
theorem j5.fresh (h:aS ns) (hk:k < ns.length) (hB:j5 X ns k S):qy S.O S.idx S.us (dO (nd ns k)):=hB.inv.yD (by rw [uD h hk,hB.cap];exact h.last hk)
theorem j5.new (h:aS ns) (hk:k < ns.length) (hB:j5 X ns k S):aB.get S.idx (nd ns k).id=none:=get_none.2 (fun hm=>by
  rw [hB.idx] at hm
  exact absurd (DP h hk _ hm) (by omega))
theorem wB (X:FM) (L:HL):(∀ k,bD (fC X).O L k=bY.none)/\(∀ k,bq (fC X).O L k=bY.none)/\∀ k,cE (fC X).O L k=bY.none:=⟨fun _=>if_pos rfl,fun _=>if_neg (by show ¬ (0:Int)=1;omega),fun _=>if_neg (by show ¬ (0:Int)=2;omega)⟩
theorem Sat.MZ {β:Bs} {l l':List HP} {w:World} {i j b m c:Nat} {ix:List Nat} {O:bO} {L L':HL} {A:Option Addr} {o:aO} (h:Sat β l w) (hL:L'=L.put k b m A c) (hp:l[i]?=some (.abs (ay (bq O L)))) (hq:l[j]?=some (.abs (aC 5 1 A o.data.length c (cA o.data)))) (hd:aZ (i::j::ix)=true) (hl:bF l ix=some l') (h1:o.kind=1):Sat β (.abs (ay (bq (aA O k (fun _=>o)) L'))::l') w:=by
  refine h.oJ hp hq (fun _ _ h=>h) hd hl k (fun x hx=>by rw [tH hx,uX hL hx]) ?_
  rw [pN (by rw [bB];exact h1),bB]
  subst hL
  simp only [HL.put,if_true]
end base
theorem Kj {O:bO} {L:HL} {d:Nat} {name:ByteArray} {t:Th}:bq (mz O d name t) L=bq O L:=
  pX (fun _=>vX (g:=aO.data) (fun _ _=>rfl) (fun _ _=>rfl) (fun _ _=>rfl)) (fun _=>tJ)
def kD (ns:List aE) (i j a:Nat):Nat:=if a < i then (nd ns a).ah.length else if a=i then j else 0
def mI (ns:List aE) (a m:Nat):dS Th:=((nd ns a).ah.take m).map (fun e=>(e.name,jy ns e))
structure dX (X:FM) (ns:List aE) (i j:Nat) (S:aH):Prop where
  inv:Inv0 S
  idx:S.idx=yX ns
  us:S.us=[]
  av:S.av=0
  cap:S.X={ X with last:=jx ns ns.length,ah:=((bU ns i+j:Nat):Int),used:=(dL ns ns.length:Int) }
  ob:∀ a,a < ns.length->∃ l u,obj S.O (dO (nd ns a))={ mT (nd ns a) with links:=l,ah:=mI ns a (kD ns i j a),up:=u }
  free:∀ x,(∀ a,a < ns.length->x≠dO (nd ns a))->obj S.O x=Ai
section ah
variable {X:FM} {ns:List aE} {i j k a b m:Nat} {S:aH} {t:Th}
theorem j5.ah (h:j5 X ns ns.length S):dX X ns 0 0 S:=by
  refine⟨h.inv,by rw [h.idx,List.take_of_length_le (Nat.le_refl _)],h.us,h.av,h.cap,fun a ha=>⟨0,none,?_⟩,h.free⟩
  rw [h.ob a ha]
  have:kD ns 0 0 a=0:=by
    unfold kD;rw [if_neg (Nat.not_lt_zero a)];split<;>rfl
  rw [this];rfl
theorem dX.get (h:dX X ns i j S) (ha:a < ns.length):aB.get S.idx (nd ns a).id=some (mH (nd ns a)):=by
  refine lZ h.inv.rise ?_
  rw [h.idx]
  exact List.mem_map.2 ⟨nd ns a,List.mem_of_getElem? (uE ha),rfl⟩
theorem dX.live (hG:aS ns) (h:dX X ns i j S) (ha:a < ns.length):Live S.idx (mH (nd ns a)):=by
  have:=h.get ha
  rw [← uD hG ha] at this
  exact this
theorem dX.of (h:dX X ns i j S) {x:Int} (e:aB.get S.idx x=some t):∃ a,a < ns.length/\t=mH (nd ns a):=by
  have hm:=get_mem e
  rw [h.idx] at hm
  obtain⟨n,hn,e2⟩:=List.mem_map.1 hm
  obtain⟨a,ha,e3⟩:=List.mem_iff_getElem.1 hn
  have e4:nd ns a=n:=by
    have:=uE ha
    rw [List.getElem?_eq_getElem ha,e3] at this
    exact (Option.some.inj this).symm
  cases e2
  exact⟨a,ha,by rw [e4]⟩
theorem Cs {es:List gV} {q:Nat} (hq:q < es.length):es[q]?=some (en es q):=getD_some hq
theorem sH {e:ByteArray×Th} (h:e∈mI ns a m):∃ q,q < m/\q < (nd ns a).ah.length/\e.1=(ent ns a q).name/\e.2=jy ns (ent ns a q):=by
  obtain⟨x,hx,rfl⟩:=List.mem_map.1 h
  obtain⟨q,hq,e⟩:=List.mem_iff_getElem.1 hx
  rw [List.length_take] at hq
  rw [List.getElem_take] at e
  have e2:ent ns a q=x:=by
    have:=Cs (es:=(nd ns a).ah) (q:=q) (by omega)
    rw [List.getElem?_eq_getElem (by omega),e] at this
    exact (Option.some.inj this).symm
  exact⟨q,by omega,by omega,by rw [e2],by rw [e2]⟩
theorem GH (hj:j < (nd ns i).ah.length):mI ns i (j+1)=mI ns i j++[((ent ns i j).name,jy ns (ent ns i j))]:=by
  unfold mI
  rw [List.take_add_one,Cs hj,List.map_append];rfl
theorem yY (hG:aS ns) (hi:i < ns.length) {q:Nat}:∀ {j},q < j->j < (nd ns i).ah.length->lG (ent ns i q).name (ent ns i j).name < 0
  | 0,h,_=>absurd h (Nat.not_lt_zero q)
  | j+1,h,hj=>by
    have h1:=pY.1 (hG.ah i hi (j+1) hj).ord
    have h1:lG (ent ns i j).name (ent ns i (j+1)).name < 0:=h1
    rcases Nat.lt_succ_iff_lt_or_eq.1 h with e|e
    ·exact wN (yY hG hi e (by omega)) (Int.le_of_lt h1)
    rw [e];exact h1
theorem IK (hG:aS ns) (hi:i < ns.length) (hj:j < (nd ns i).ah.length):aP (ent ns i j).name (mI ns i j)=none:=by
  refine rV.2 (fun e he e1=>?_)
  obtain⟨q,h1,h2,h3,_⟩:=sH he
  have:=yY hG hi h1 hj
  rw [← h3,e1] at this
  have h4:=zl (ent ns i j).name
  omega
theorem zM {n:ByteArray}:∀ {es:dS Th},(∀ e∈es,lG e.1 n < 0)->eH n t es=es++[(n,t)]
  | [],_=>rfl
  | e::r,h=>by
    have h1:=h e (List.mem_cons_self ..)
    unfold eH
    rw [if_neg (fun hc=>by have:=pY.1 hc;have:=s5 e.1 n;omega),zM (fun x hx=>h x (List.mem_cons_of_mem _ hx))];rfl
theorem IL (hG:aS ns) (hi:i < ns.length) (hj:j < (nd ns i).ah.length):eH (ent ns i j).name (jy ns (ent ns i j)) (mI ns i j)=mI ns i (j+1):=by
  rw [GH hj]
  refine zM (fun e he=>?_)
  obtain⟨q,h1,_,h3,_⟩:=sH he
  rw [h3]
  exact yY hG hi h1 hj
theorem qd (hG:aS ns) (hi:i < ns.length) (hj:j < (nd ns i).ah.length):tgt ns (ent ns i j).id < ns.length/\(nd ns (tgt ns (ent ns i j).id)).id=(ent ns i j).id:=by
  have:=j9 (hG.ah i hi j hj).at_
  exact⟨this.1,this.2.1⟩
theorem yZ {O:bO} {d x:Nat} {name:ByteArray} (h:t.k≠d):obj (mz O d name t) x=if x=d then { obj O d with ah:=eH name t (obj O d).ah } else if x=t.k then { obj O x with links:=(obj O x).links+1,up:=if t.kind=2 then some d else (obj O x).up } else obj O x:=by
  have key:∀ O2:bO,O2=aA (aA O d (fun o=>{ o with ah:=eH name t o.ah })) t.k (fun o=>{ o with links:=o.links+1 })->obj (if t.kind=2 then aA O2 t.k (fun o=>{ o with up:=some d }) else O2) x=if x=d then { obj O d with ah:=eH name t (obj O d).ah } else if x=t.k then { obj O x with links:=(obj O x).links+1,up:=if t.kind=2 then some d else (obj O x).up } else obj O x:=by
    intro O2 e
    by_cases hk:t.kind=2
    ·rw [if_pos hk,if_pos hk,jd,e,jd,jd]
     by_cases e1:x=d
     ·subst e1;rw [if_neg (fun e=>h e.symm),if_neg (fun e=>h e.symm),if_pos rfl,if_pos rfl]
     by_cases e2:x=t.k
     ·rw [if_pos e2,if_pos e2,if_neg e1,if_neg e1,if_pos e2]
     rw [if_neg e2,if_neg e2,if_neg e1,if_neg e1,if_neg e2]
    rw [if_neg hk,if_neg hk,e,jd,jd]
    by_cases e1:x=d
    ·subst e1;rw [if_neg (fun e=>h e.symm),if_pos rfl,if_pos rfl]
    by_cases e2:x=t.k
    ·rw [if_pos e2,if_neg e1,if_neg e1,if_pos e2]
    rw [if_neg e2,if_neg e1,if_neg e1,if_neg e2]
  exact key _ rfl
theorem dX.Ou (hG:aS ns) (h:dX X ns i j S) {d:Nat} (hd:Live S.idx ⟨d,2⟩) {n:ByteArray} (ha:a < ns.length) (hk:(nd ns a).kind=2) (hl:aP n (obj S.O d).ah=some (mH (nd ns a))):∃ b q,b < ns.length/\d=dO (nd ns b)/\yV ns b q/\tgt ns (ent ns b q).id=a:=by
  obtain⟨b,hb,e⟩:=h.of hd
  have e:(⟨d,2⟩:Th)=⟨dO (nd ns b),(nd ns b).kind⟩:=e
  have e1:d=dO (nd ns b):=congrArg Th.k e
  subst e1
  obtain⟨l,u,ho⟩:=h.ob b hb
  have hm:=kf hl
  rw [ho] at hm
  obtain⟨q,h1,h2,_,h4⟩:=sH hm
  have ht:=qd hG hb h2
  have h5:dO (nd ns a)=dO (nd ns (tgt ns (ent ns b q).id)):=congrArg Th.k h4
  have h6:=o6 hG ha ht.1 h5
  exact⟨b,q,hb,rfl,⟨hb,h2,by rw [← h6];exact hk⟩,h6.symm⟩
theorem dX.below (hG:aS ns) (h:dX X ns i j S) {dp:Nat->Nat} (hdp:DN ns dp) {s k:Nat} (hb:iI S.O s k):∀ {a b},a < ns.length->k=dO (nd ns a)->b < ns.length->s=dO (nd ns b)->dp b<=dp a:=by
  induction hb with
  | here=>
    intro a b ha e1 hb e2
    have:=o6 hG ha hb (by rw [← e1,← e2])
    rw [this];exact Nat.le_refl _
  | up hup _ ih=>
    intro a b ha e1 hb e2
    subst e1
    have hlv:=h.live hG ha
    obtain⟨h1,h2,n,h3⟩:=(h.inv.up _ hlv _).1 hup
    obtain⟨c,q,hc,e3,hD,e4⟩:=h.Ou hG h2 ha h1 h3
    have h5:=hdp c q hD
    rw [e4] at h5
    have:=ih hc e3 hb e2
    omega
theorem dX.links (hG:aS ns) (h:dX X ns i j S) (hi:i < ns.length) (hj:j < (nd ns i).ah.length) (hk:(jy ns (ent ns i j)).kind=2):(obj S.O (jy ns (ent ns i j)).k).links=0:=by
  have ht:=qd hG hi hj
  have hlv:Live S.idx (jy ns (ent ns i j)):=h.live hG ht.1
  rw [h.inv.links _ hlv]
  cases hz:gu S.idx S.O (jy ns (ent ns i j)).k with
  | zero=>rfl
  | succ z=>
    exfalso
    obtain⟨x,u,hu,e,he,e1⟩:=xu h.inv.rise (show 0 < gu S.idx S.O (jy ns (ent ns i j)).k by omega)
    obtain⟨b,hb,rfl⟩:=h.of hu
    obtain⟨l,u,ho⟩:=h.ob b hb
    have he:e∈(obj S.O (dO (nd ns b))).ah:=he
    rw [ho] at he
    obtain⟨q,h1,h2,_,h4⟩:=sH he
    have ht2:=qd hG hb h2
    have h5:dO (nd ns (tgt ns (ent ns b q).id))=dO (nd ns (tgt ns (ent ns i j).id)):=by
      rw [h4] at e1;exact e1
    have h6:=o6 hG ht2.1 ht.1 h5
    obtain⟨rfl,rfl⟩:=hG.uniq b q i j ⟨hb,h2,by rw [h6];exact hk⟩ ⟨hi,hj,hk⟩ hb hi h6
    unfold kD at h1
    rw [if_neg (Nat.lt_irrefl _),if_pos rfl] at h1
    omega
theorem dX.look (hG:aS ns) (h:dX X ns i j S) (hi:i < ns.length) (hj:j < (nd ns i).ah.length):(obj S.O (dO (nd ns i))).ah=mI ns i j/\aP (ent ns i j).name (obj S.O (dO (nd ns i))).ah=none/\(nd ns i).kind=2:=by
  obtain⟨l,u,ho⟩:=h.ob i hi
  have e1:(obj S.O (dO (nd ns i))).ah=mI ns i j:=by
    rw [ho]
    show mI ns i (kD ns i j i)=_
    unfold kD;rw [if_neg (Nat.lt_irrefl _),if_pos rfl]
  refine⟨e1,by rw [e1];exact IK hG hi hj,?_⟩
  cases Decidable.em ((nd ns i).kind=2) with
  | inl h=>exact h
  | inr h=>have:=(hG.node i hi).ah h;omega
theorem dX.gone (h:dX X ns i j S) (ha:a < ns.length):(obj S.O (dO (nd ns a))).gone=false:=by
  obtain⟨l,u,ho⟩:=h.ob a ha
  rw [ho];rfl
theorem dX.ne (hG:aS ns) (hi:i < ns.length) (hj:j < (nd ns i).ah.length) (hk:(nd ns i).kind=2):(jy ns (ent ns i j)).k≠dO (nd ns i):=fun e=>by
  have ht:=qd hG hi hj
  have h1:=o6 hG ht.1 hi e
  obtain⟨dp,hdp⟩:=hG.deep
  have:=hdp i j ⟨hi,hj,by rw [h1];exact hk⟩
  rw [h1] at this
  exact Nat.lt_irrefl _ this
theorem dX.step (hG:aS ns) (h:dX X ns i j S) (hi:i < ns.length) (hj:j < (nd ns i).ah.length):dX X ns i (j+1) (jA ns S (nd ns i) (ent ns i j)):=by
  obtain⟨l1,l2,l3⟩:=h.look hG hi hj
  have ht:=qd hG hi hj
  have hne:=dX.ne hG hi hj l3
  have hld:Live S.idx ⟨dO (nd ns i),2⟩:=by
    have:=h.live hG hi
    unfold mH at this
    rw [l3] at this
    exact this
  have hlt:Live S.idx (jy ns (ent ns i j)):=h.live hG ht.1
  have hX:S.X.ah=((bU ns i+j:Nat):Int):=by rw [h.cap]
  have hsum:bU ns i+j < 8192:=by
    have h1:bU ns (i+1)<=bU ns ns.length:=qV hi
    have h2:bU ns (i+1)=bU ns i+(nd ns i).ah.length:=rfl
    have h3:=hG.sum
    omega
  have h1:=h.inv.put (O':=mz S.O (dO (nd ns i)) (ent ns i j).name (jy ns (ent ns i j))) (ta:=(obj S.O (dO (nd ns i))).sec) (tb:=(obj S.O (dO (nd ns i))).nano) hld (h.gone hi) l2 (hG.ah i hi j hj).good hlt (h.gone ht.1) (fun hk=>⟨h.links hG hi hj hk,fun hb=>by
      obtain⟨dp,hdp⟩:=hG.deep
      have h2:=h.below hG hdp hb hi rfl ht.1 rfl
      have h3:=hdp i j ⟨hi,hj,hk⟩
      omega⟩) hne (by rw [hX];omega) (h.inv.mt _ hld).time (fun x=>yZ hne)
  refine⟨h1,h.idx,h.us,h.av,?_,fun a ha=>?_,fun x hx=>(yZ hne).trans (by rw [if_neg (hx i hi),if_neg (show ¬ x=(jy ns (ent ns i j)).k from hx _ ht.1)];exact h.free x hx)⟩
  ·show ({ S.X with ah:=S.X.ah+1 }:FM)=_
   rw [hX,h.cap]
   show (⟨_,_,_,_,_,_,_,_⟩:FM)=⟨_,_,_,_,_,_,_,_⟩
   congr 1
  obtain⟨l,u,ho⟩:=h.ob a ha
  show ∃ l u,obj (mz S.O (dO (nd ns i)) (ent ns i j).name (jy ns (ent ns i j))) (dO (nd ns a))=_
  rw [yZ hne]
  by_cases e:a=i
  ·subst e
   refine⟨l,u,?_⟩
   rw [if_pos rfl,l1,IL hG hi hj,ho]
   have hc:kD ns a (j+1) a=j+1:=by unfold kD;rw [if_neg (Nat.lt_irrefl _),if_pos rfl]
   rw [hc]
  have hc:kD ns i (j+1) a=kD ns i j a:=by
    unfold kD;rw [if_neg e,if_neg e]
  rw [if_neg (fun e2=>e (o6 hG ha hi e2)),hc]
  split
  ·rw [ho];exact⟨_,_,rfl⟩
  exact⟨l,u,ho⟩
theorem dX.next (h:dX X ns i (nd ns i).ah.length S):dX X ns (i+1) 0 S:=by
  refine⟨h.inv,h.idx,h.us,h.av,h.cap,fun a ha=>?_,h.free⟩
  obtain⟨l,u,ho⟩:=h.ob a ha
  refine⟨l,u,?_⟩
  rw [ho]
  have:kD ns (i+1) 0 a=kD ns i (nd ns i).ah.length a:=by
    unfold kD
    by_cases e:a=i
    ·subst e;rw [if_pos (by omega),if_neg (by omega),if_pos rfl]
    by_cases e2:a < i
    ·rw [if_pos (by omega),if_pos e2]
    rw [if_neg (by omega),if_neg e2,if_neg e];split<;>rfl
  rw [this]
theorem dX.full (h:dX X ns i j S):Inv S:=by
  refine⟨h.inv,fun t ht hg=>?_⟩
  obtain⟨a,ha,rfl⟩:=h.of ht
  have:(obj S.O (dO (nd ns a))).gone=true:=hg
  rw [h.gone ha] at this
  cases this
theorem dX.graph (hG:aS ns) (h:dX X ns ns.length 0 S):aI S=ns:=by
  unfold aI
  rw [h.idx]
  unfold yX
  rw [List.map_map]
  refine List.ext_getElem? (fun a=>?_)
  rw [List.getElem?_map]
  by_cases ha:a < ns.length
  ·rw [uE ha]
   refine congrArg some ?_
   show qA S.O (nd ns a).id ⟨dO (nd ns a),(nd ns a).kind⟩=nd ns a
   unfold qA
   obtain⟨l,u,ho⟩:=h.ob a ha
   rw [ho]
   have he:(mI ns a (kD ns ns.length 0 a)).map (jv S.O)=(nd ns a).ah:=by
     unfold kD
     rw [if_pos ha]
     unfold mI
     rw [List.take_of_length_le (Nat.le_refl _),List.map_map]
     refine List.ext_getElem? (fun q=>?_)
     rw [List.getElem?_map]
     by_cases hq:q < (nd ns a).ah.length
     ·rw [Cs hq]
      refine congrArg some ?_
      have ht:=qd hG ha hq
      obtain⟨l,u,ho⟩:=h.ob _ ht.1
      have e1:(obj S.O (jy ns (en (nd ns a).ah q)).k).id=(en (nd ns a).ah q).id:=by
        show (obj S.O (dO (nd ns (tgt ns (ent ns a q).id)))).id=(ent ns a q).id
        rw [ho];exact ht.2
      show (⟨(en (nd ns a).ah q).name,(obj S.O (jy ns (en (nd ns a).ah q)).k).id⟩:gV)=_
      rw [e1]
     rw [List.getElem?_eq_none (by omega)];rfl
   show (⟨_,_,_,_,_,_,_,_,_,List.map (jv S.O) (mI ns a (kD ns ns.length 0 a))⟩:aE)=_
   rw [he]
   rfl
  rw [List.getElem?_eq_none (by omega)];rfl
end ah
end
end Go.Proofs.YtaepnjbceganhaaGreat
