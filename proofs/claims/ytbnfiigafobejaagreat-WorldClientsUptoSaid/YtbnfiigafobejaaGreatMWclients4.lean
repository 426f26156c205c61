/-
  PROVED HERE: lemmas and contracts of functions (texts of this repo, joined; what the claim does not use is left out): H9, Vh, HD, H10, H11, H12, Lw, LA, Lc, HW, Il, Ib, Og, LC, Oh, Wm, WE, WF, WA, ShelfP, As, HA, HB, WB, Wc, GFb, GFc, Cn, Rt, Sr, Sd, WC, Wd, XK, Wk, Dl, DR, DT, Dp.
  CONDITIONS: as the theorems say.
-/
import Derived.Test.YtbnfiigafobejaaGreatMWclients3
import Derived.Shelf.Strings.Split
import Derived.Test.YtbnfiigafobejaaGreatProg
import Derived.Laws.IdiomStrings
import Derived.Lib.SplitLaws
set_option maxRecDepth 100000
set_option maxHeartbeats 4000000
namespace Go.Proofs.YtbnfiigafobejaaGreat
section
open Go.RowKit Go.Maps bF aD
attribute [local irreducible] ar bN ak ay bZ
abbrev zi1 (S:br) (c:aH) (L2:HL):=(pO (aX S.O (bw S.X) (λ_=>(⟨0,c.mode,0,0,0,0,0,0,false,1,[],⟨#[]⟩,[],none⟩:bJ))) L2:HP)
theorem N9 {β:Bs} (S:br) (L:HL) (f m t:Nat) (hI:bO S) (cb:Nat) (c:aH) (hC:kU β c) :
 aU Tryz.prog β 193 #[vP f,vP cb] ((pA f m t L S)++[.ax cb (aO c) 53]) (λv l=>∃L2,v=vI (cX S c).1/\l=((pA f m t L2 ((cX S c).2.1))++[.ax cb (aO ((cX S c).2.2)) 53])):=by
 have hX:=hI.hX
 refine SE Tryz.func193 Tryz.ntmps193 (λR=>ak.seq ?_)
 rcases hI.hand c.aG with iD|⟨tk,iD,bX⟩|⟨tk,iD,bX⟩
 ·exact ak.region (jK 1 [] [] (NN (ak.seq (rQ (jQ 8 [12,16] [(3,a_ 0 f),(7,a_ 6 cb)] (mY [2] [1,2,0,3,4,5,6,7] (.tuple #[.nilIface,vI 131]) (yB t S.X.cH S.aI (cV L S.us) c.aG hC.hw (xk iD)) (jQ 5 [5,6] [] (NQ (NX (SQ (jK 2 [21] [] (NT (zR ⟨L,by rw [show (cX S c)=(131,S,c) by unfold cX;rw [iD]]<;>exact⟨rfl,rfl⟩⟩)))))))))))))
 ·have bA:(af S.O tk).kind=1:=hI.kind bX
  refine ak.region (jK 1 [] [] (NN (ak.seq (rQ (jQ 8 [12,16] [(3,a_ 0 f),(7,a_ 6 cb)] (mY [2] [1,2,0,3,4,5,6,7] (.tuple #[.iface 138 (vP (L.b tk)),vI 0]) (sF t S.X.cH S.aI (cV L S.us) c.aG hC.hw (iB L ⟨tk,1⟩) (qR iD)) (jQ 5 [5,6] [] (NQ (NX (SQ (jK 2 [21] [] (NF (KX (SR (jK 1 [23] [] (gE [] (fW (L.b tk)) (jK 1 [7] [] (NN (ak.seq (ak.block (SR (jK 5 [30] [(3,v_ 3 (uH L bA))] (ar.qb 30 (af S.O tk).aE (λ_=>KB) (λnX=>?_) (λnX=>?_))))))))))))))))))))))))
  ·refine jK 1 [31] [] (gE [] (tP (vP (L.b tk))) (jK 3 [25] [] (NF (SR (jK 4 [39] [(3,a_ 6 cb)] (gE [] (kY (c.mode) 4095) (jK 2 [35] [] (NN (cN (0<=c.mode/\c.mode<=4095) (λnY=>zR ⟨L,by rw [show (cX S c)=(120,S,c) by unfold cX;rw [iD];exact (aij (λh=>ain h.2 (by simp))).trans (aij nY)]<;>exact⟨rfl,rfl⟩⟩) (λnY=>SR (jK 4 [46] [(3,a_ 6 cb)] (gE [] (kY (c.bg) 2147483647) (jK 2 [49] [] (sN 49 (0<=c.bg/\c.bg<=2147483647) (λzq=>jK 8 [42] [] (NT (zR ⟨L,by rw [show (cX S c)=(11,S,c) by unfold cX;rw [iD];exact (aij (λh=>ain h.2 (by simp))).trans ((aik nY).trans (aij (λh=>zq h.1)))]<;>exact⟨rfl,rfl⟩⟩))) (λzq=>jK 4 [53] [(3,a_ 6 cb)] (gE [] (kY (c.bh) 2147483647) (jK 3 [42] [] (NN (cN (0<=c.bh/\c.bh<=2147483647) (λlf=>zR ⟨L,by rw [show (cX S c)=(11,S,c) by unfold cX;rw [iD];exact (aij (λh=>ain h.2 (by simp))).trans ((aik nY).trans (aij (λh=>lf h.2)))]<;>exact⟨rfl,rfl⟩⟩) (λlf=>SR (jK 4 [61] [(3,A_ 6 cb 2)] (gE [] (nO c.aT c.aJ) (jK 2 [57] [] (NN (cN (fU c.aT c.aJ) (λAO=>zR ⟨L,by rw [show (cX S c)=(20,S,c) by unfold cX;rw [iD];exact (aij (λh=>ain h.2 (by simp))).trans ((aik nY).trans ((aik ⟨zq,lf⟩).trans (aij AO)))]<;>exact⟨rfl,rfl⟩⟩) (λAO=>KX (ak.seq ?_)))))))))))))))))))))))))))
   skip
   refine ak.mem (eX:=[.ax f [vI (S.X.cN),vI (S.X.cB),vI (S.X.cH),vI (S.X.cS),vI (S.X.cZ),.map (some m),vP t,vI (S.X.last),vI (S.X.ah),vI (S.X.used)] 135,.abs (bM Tryz.prog 3 m (cQ (cV L S.aq)) S.aq.length),.abs (fX 182 t S.X.cH S.aI (cV L S.us)),.abs (aW (ol (eE S.O L) tk d9.none)),.abs (aW (dS S.O L)),.abs (aW (fZ S.O L)),.ax cb (aO c) 53,.abs R,.ax (L.b tk) [vI ((af S.O tk).id),vI ((af S.O tk).mode),vI ((af S.O tk).bg),vI ((af S.O tk).bh),vI ((af S.O tk).aT),vI ((af S.O tk).aJ),vI ((af S.O tk).aS),vI ((af S.O tk).aK),.bool (af S.O tk).aE,.slice (L.dA tk) ((af S.O tk).data.length) ((L.dC tk))] 140]) (λw hS=>hS.Fg (i:=3) (k:=tk) rfl (by rw [bA];decide) (mR (bA)) (by rw [bA];rfl)) (rM (List.range 32) 22 [6] (jR 22 [65,66,67,71,75,79,83,85] [(7,a_ 0 cb),(11,a_ 0 cb),(15,a_ 0 cb),(19,A_ 0 cb 2)] (nC [6] [] [(0,a_ 8 (L.b tk))] [(8,[(1,vI (c.mode))])] (nC [6] [86] [] [] (nC [6] [87] [] [] (nC [6] [] [(0,a_ 8 (L.b tk))] [(8,[(2,vI (c.bg))])] (nC [6] [88] [] [] (nC [6] [89] [] [] (nC [6] [] [(0,a_ 8 (L.b tk))] [(8,[(3,vI (c.bh))])] (nC [6] [90] [] [] (nC [6] [91] [] [] (bZ.last rfl rfl (jC 1 [] [(0,A_ 8 (L.b tk) 2)] [(8,[(4,vI (c.aT)),(5,vI (c.aJ))])] (NL (ay.np (NX (SR (ar.mem (eX:=[.abs (aW (eE (aX S.O tk (λo=>{o with mode:=c.mode,bg:=c.bg,bh:=c.bh,aT:=c.aT,aJ:=c.aJ})) L)),.ax f [vI (S.X.cN),vI (S.X.cB),vI (S.X.cH),vI (S.X.cS),vI (S.X.cZ),.map (some m),vP t,vI (S.X.last),vI (S.X.ah),vI (S.X.used)] 135,.abs (bM Tryz.prog 3 m (cQ (cV L S.aq)) S.aq.length),.abs (fX 182 t S.X.cH S.aI (cV L S.us)),.abs (aW (dS (aX S.O tk (λo=>{o with mode:=c.mode,bg:=c.bg,bh:=c.bh,aT:=c.aT,aJ:=c.aJ})) L)),.abs (aW (fZ (aX S.O tk (λo=>{o with mode:=c.mode,bg:=c.bg,bh:=c.bh,aT:=c.aT,aJ:=c.aJ})) L)),.ax cb (aO c) 53,.abs R]) (λw hS=>by have h:=hS.Gt (O:=S.O) (L:=L) (i:=3) (j:=8) (aq:=[0,1,2,4,5,6,7]) (k:=tk) (f:=(λo=>{o with mode:=c.mode,bg:=c.bg,bh:=c.bh,aT:=c.aT,aJ:=c.aJ})) rfl (λ_ hx=>vK hx) rfl KB rfl (by show (af S.O tk).kind≠0;rw [bA];decide) ((mR (o:=(λo=>{o with mode:=c.mode,bg:=c.bg,bh:=c.bh,aT:=c.aT,aJ:=c.aJ}) (af S.O tk)) (bA)).trans rfl) (by show tq (af S.O tk).kind=_;rw [bA]<;>rfl);rw [t8 (O:=S.O) (k:=tk) (f:=(λo=>{o with mode:=c.mode,bg:=c.bg,bh:=c.bh,aT:=c.aT,aJ:=c.aJ})) rfl rfl,ud (O:=S.O) (k:=tk) (f:=(λo=>{o with mode:=c.mode,bg:=c.bg,bh:=c.bh,aT:=c.aT,aJ:=c.aJ})) rfl rfl];exact h) ?_))))))))))))))))))
   have qv:(af (aX S.O tk (λo=>{o with mode:=c.mode,bg:=c.bg,bh:=c.bh,aT:=c.aT,aJ:=c.aJ})) tk).kind=1:=(pV (f:=(λo=>{o with mode:=c.mode,bg:=c.bg,bh:=c.bh,aT:=c.aT,aJ:=c.aJ})) (λ_=>rfl)).trans (bA)
   generalize fI:(aX S.O tk (λo=>{o with mode:=c.mode,bg:=c.bg,bh:=c.bh,aT:=c.aT,aJ:=c.aJ}))=gS at qv ⊢
   exact jK 1 [4] [] (eN ⟨L,by subst fI;rw [show (cX S c)=(0,{S with O:=aX S.O tk (λo=>{o with mode:=c.mode,bg:=c.bg,bh:=c.bh,aT:=c.aT,aJ:=c.aJ})},c) by unfold cX;rw [iD];exact (aij (λh=>ain h.2 (by simp))).trans ((aik nY).trans ((aik ⟨zq,lf⟩).trans (aik AO)))]<;>exact⟨rfl,rfl⟩⟩ [1,2,3,0,4,5,6,7])
  refine jK 5 [25] [] (NF (SR (jK 4 [39] [(3,a_ 6 cb)] (gE [] (kY (c.mode) 4095) (jK 2 [35] [] (NN (cN (0<=c.mode/\c.mode<=4095) (λnY=>zR ⟨L,by rw [show (cX S c)=(120,S,c) by unfold cX;rw [iD];exact (aij (λh=>ain h.2 (by simp))).trans (aij nY)]<;>exact⟨rfl,rfl⟩⟩) (λnY=>SR (jK 4 [46] [(3,a_ 6 cb)] (gE [] (kY (c.bg) 2147483647) (jK 2 [49] [] (sN 49 (0<=c.bg/\c.bg<=2147483647) (λzq=>jK 8 [42] [] (NT (zR ⟨L,by rw [show (cX S c)=(11,S,c) by unfold cX;rw [iD];exact (aij (λh=>ain h.2 (by simp))).trans ((aik nY).trans (aij (λh=>zq h.1)))]<;>exact⟨rfl,rfl⟩⟩))) (λzq=>jK 4 [53] [(3,a_ 6 cb)] (gE [] (kY (c.bh) 2147483647) (jK 3 [42] [] (NN (cN (0<=c.bh/\c.bh<=2147483647) (λlf=>zR ⟨L,by rw [show (cX S c)=(11,S,c) by unfold cX;rw [iD];exact (aij (λh=>ain h.2 (by simp))).trans ((aik nY).trans (aij (λh=>lf h.2)))]<;>exact⟨rfl,rfl⟩⟩) (λlf=>SR (jK 4 [61] [(3,A_ 6 cb 2)] (gE [] (nO c.aT c.aJ) (jK 2 [57] [] (NN (cN (fU c.aT c.aJ) (λAO=>zR ⟨L,by rw [show (cX S c)=(20,S,c) by unfold cX;rw [iD];exact (aij (λh=>ain h.2 (by simp))).trans ((aik nY).trans ((aik ⟨zq,lf⟩).trans (aij AO)))]<;>exact⟨rfl,rfl⟩⟩) (λAO=>KX (ak.seq ?_)))))))))))))))))))))))))
  skip
  refine ak.mem (eX:=[.ax f [vI (S.X.cN),vI (S.X.cB),vI (S.X.cH),vI (S.X.cS),vI (S.X.cZ),.map (some m),vP t,vI (S.X.last),vI (S.X.ah),vI (S.X.used)] 135,.abs (bM Tryz.prog 3 m (cQ (cV L S.aq)) S.aq.length),.abs (fX 182 t S.X.cH S.aI (cV L S.us)),.abs (aW (ol (eE S.O L) tk d9.none)),.abs (aW (dS S.O L)),.abs (aW (fZ S.O L)),.ax cb (aO c) 53,.abs R,.ax (L.b tk) [vI ((af S.O tk).id),vI ((af S.O tk).mode),vI ((af S.O tk).bg),vI ((af S.O tk).bh),vI ((af S.O tk).aT),vI ((af S.O tk).aJ),vI ((af S.O tk).aS),vI ((af S.O tk).aK),.bool (af S.O tk).aE,.slice (L.dA tk) ((af S.O tk).data.length) ((L.dC tk))] 140]) (λw hS=>hS.Fg (i:=3) (k:=tk) rfl (by rw [bA];decide) (mR (bA)) (by rw [bA];rfl)) (rM (List.range 32) 22 [6] (jR 22 [65,66,67,71,75,79,83,85] [(7,a_ 0 cb),(11,a_ 0 cb),(15,a_ 0 cb),(19,A_ 0 cb 2)] (nC [6] [] [(0,a_ 8 (L.b tk))] [(8,[(1,vI (c.mode))])] (nC [6] [86] [] [] (nC [6] [87] [] [] (nC [6] [] [(0,a_ 8 (L.b tk))] [(8,[(2,vI (c.bg))])] (nC [6] [88] [] [] (nC [6] [89] [] [] (nC [6] [] [(0,a_ 8 (L.b tk))] [(8,[(3,vI (c.bh))])] (nC [6] [90] [] [] (nC [6] [91] [] [] (bZ.last rfl rfl (jC 1 [] [(0,A_ 8 (L.b tk) 2)] [(8,[(4,vI (c.aT)),(5,vI (c.aJ))])] (NL (ay.np (NX (SR (ar.mem (eX:=[.abs (aW (eE (aX S.O tk (λo=>{o with mode:=c.mode,bg:=c.bg,bh:=c.bh,aT:=c.aT,aJ:=c.aJ})) L)),.ax f [vI (S.X.cN),vI (S.X.cB),vI (S.X.cH),vI (S.X.cS),vI (S.X.cZ),.map (some m),vP t,vI (S.X.last),vI (S.X.ah),vI (S.X.used)] 135,.abs (bM Tryz.prog 3 m (cQ (cV L S.aq)) S.aq.length),.abs (fX 182 t S.X.cH S.aI (cV L S.us)),.abs (aW (dS (aX S.O tk (λo=>{o with mode:=c.mode,bg:=c.bg,bh:=c.bh,aT:=c.aT,aJ:=c.aJ})) L)),.abs (aW (fZ (aX S.O tk (λo=>{o with mode:=c.mode,bg:=c.bg,bh:=c.bh,aT:=c.aT,aJ:=c.aJ})) L)),.ax cb (aO c) 53,.abs R]) (λw hS=>by have h:=hS.Gt (O:=S.O) (L:=L) (i:=3) (j:=8) (aq:=[0,1,2,4,5,6,7]) (k:=tk) (f:=(λo=>{o with mode:=c.mode,bg:=c.bg,bh:=c.bh,aT:=c.aT,aJ:=c.aJ})) rfl (λ_ hx=>vK hx) rfl KB rfl (by show (af S.O tk).kind≠0;rw [bA];decide) ((mR (o:=(λo=>{o with mode:=c.mode,bg:=c.bg,bh:=c.bh,aT:=c.aT,aJ:=c.aJ}) (af S.O tk)) (bA)).trans rfl) (by show tq (af S.O tk).kind=_;rw [bA]<;>rfl);rw [t8 (O:=S.O) (k:=tk) (f:=(λo=>{o with mode:=c.mode,bg:=c.bg,bh:=c.bh,aT:=c.aT,aJ:=c.aJ})) rfl rfl,ud (O:=S.O) (k:=tk) (f:=(λo=>{o with mode:=c.mode,bg:=c.bg,bh:=c.bh,aT:=c.aT,aJ:=c.aJ})) rfl rfl];exact h) ?_))))))))))))))))))
  have tS:(af (aX S.O tk (λo=>{o with mode:=c.mode,bg:=c.bg,bh:=c.bh,aT:=c.aT,aJ:=c.aJ})) tk).kind=1:=(pV (f:=(λo=>{o with mode:=c.mode,bg:=c.bg,bh:=c.bh,aT:=c.aT,aJ:=c.aJ})) (λ_=>rfl)).trans (bA)
  generalize fI:(aX S.O tk (λo=>{o with mode:=c.mode,bg:=c.bg,bh:=c.bh,aT:=c.aT,aJ:=c.aJ}))=gS at tS ⊢
  exact jK 1 [4] [] (eN ⟨L,by subst fI;rw [show (cX S c)=(0,{S with O:=aX S.O tk (λo=>{o with mode:=c.mode,bg:=c.bg,bh:=c.bh,aT:=c.aT,aJ:=c.aJ})},c) by unfold cX;rw [iD];exact (aij (λh=>ain h.2 (by simp))).trans ((aik nY).trans ((aik ⟨zq,lf⟩).trans (aik AO)))]<;>exact⟨rfl,rfl⟩⟩ [1,2,3,0,4,5,6,7])
 have bA:(af S.O tk).kind=2:=hI.kind bX
 refine ak.region (jK 1 [] [] (NN (ak.seq (rQ (jQ 8 [12,16] [(3,a_ 0 f),(7,a_ 6 cb)] (mY [2] [1,2,0,3,4,5,6,7] (.tuple #[.iface 144 (vP (L.b tk)),vI 0]) (sF t S.X.cH S.aI (cV L S.us) c.aG hC.hw (iB L ⟨tk,2⟩) (qR iD)) (jQ 5 [5,6] [] (NQ (NX (SQ (jK 2 [21] [] (NF (KX (SR (jK 1 [23] [] (gE [] (fW (L.b tk)) (jK 1 [7] [] (NN (ak.seq (ak.block (SR (jK 5 [30] [(3,v_ 3 (uH L bA))] (ar.qb 30 (af S.O tk).aE (λ_=>KB) (λnX=>jK 1 [31] [] (gE [] (tQ (vP (L.b tk))) (jK 3 [25] [] (NT (zR ⟨L,by rw [show (cX S c)=(170,S,c) by grind [cX]]<;>exact⟨rfl,rfl⟩⟩))))) (λnX=>jK 5 [25] [] (NF (SR (jK 4 [39] [(3,a_ 6 cb)] (gE [] (kY (c.mode) 4095) (jK 2 [35] [] (NN (cN (0<=c.mode/\c.mode<=4095) (λnY=>zR ⟨L,by rw [show (cX S c)=(120,S,c) by unfold cX;rw [iD];exact (aij (λh=>ain h.1 (by rw [nX];decide))).trans (aij nY)]<;>exact⟨rfl,rfl⟩⟩) (λnY=>SR (jK 4 [46] [(3,a_ 6 cb)] (gE [] (kY (c.bg) 2147483647) (jK 2 [49] [] (sN 49 (0<=c.bg/\c.bg<=2147483647) (λzq=>jK 8 [42] [] (NT (zR ⟨L,by rw [show (cX S c)=(11,S,c) by unfold cX;rw [iD];exact (aij (λh=>ain h.1 (by rw [nX];decide))).trans ((aik nY).trans (aij (λh=>zq h.1)))]<;>exact⟨rfl,rfl⟩⟩))) (λzq=>jK 4 [53] [(3,a_ 6 cb)] (gE [] (kY (c.bh) 2147483647) (jK 3 [42] [] (NN (cN (0<=c.bh/\c.bh<=2147483647) (λlf=>zR ⟨L,by rw [show (cX S c)=(11,S,c) by unfold cX;rw [iD];exact (aij (λh=>ain h.1 (by rw [nX];decide))).trans ((aik nY).trans (aij (λh=>lf h.2)))]<;>exact⟨rfl,rfl⟩⟩) (λlf=>SR (jK 4 [61] [(3,A_ 6 cb 2)] (gE [] (nO c.aT c.aJ) (jK 2 [57] [] (NN (cN (fU c.aT c.aJ) (λAO=>zR ⟨L,by rw [show (cX S c)=(20,S,c) by unfold cX;rw [iD];exact (aij (λh=>ain h.1 (by rw [nX];decide))).trans ((aik nY).trans ((aik ⟨zq,lf⟩).trans (aij AO)))]<;>exact⟨rfl,rfl⟩⟩) (λAO=>KX (ak.seq ?_)))))))))))))))))))))))))))))))))))))))))))))))))
 skip
 refine ak.mem (eX:=[.ax f [vI (S.X.cN),vI (S.X.cB),vI (S.X.cH),vI (S.X.cS),vI (S.X.cZ),.map (some m),vP t,vI (S.X.last),vI (S.X.ah),vI (S.X.used)] 135,.abs (bM Tryz.prog 3 m (cQ (cV L S.aq)) S.aq.length),.abs (fX 182 t S.X.cH S.aI (cV L S.us)),.abs (aW (ol (eE S.O L) tk d9.none)),.abs (aW (dS S.O L)),.abs (aW (fZ S.O L)),.ax cb (aO c) 53,.abs R,.ax (L.b tk) [vI ((af S.O tk).id),vI ((af S.O tk).mode),vI ((af S.O tk).bg),vI ((af S.O tk).bh),vI ((af S.O tk).aT),vI ((af S.O tk).aJ),vI ((af S.O tk).aS),vI ((af S.O tk).aK),.bool (af S.O tk).aE,.map (some (L.m tk)),(JQ L (af S.O tk).up)] 147]) (λw hS=>hS.Fg (i:=3) (k:=tk) rfl (by rw [bA];decide) (sB (bA)) (by rw [bA];rfl)) (rM (List.range 32) 22 [6] (jR 22 [65,66,67,71,75,79,83,85] [(7,a_ 0 cb),(11,a_ 0 cb),(15,a_ 0 cb),(19,A_ 0 cb 2)] (nC [6] [] [(0,a_ 8 (L.b tk))] [(8,[(1,vI (c.mode))])] (nC [6] [86] [] [] (nC [6] [87] [] [] (nC [6] [] [(0,a_ 8 (L.b tk))] [(8,[(2,vI (c.bg))])] (nC [6] [88] [] [] (nC [6] [89] [] [] (nC [6] [] [(0,a_ 8 (L.b tk))] [(8,[(3,vI (c.bh))])] (nC [6] [90] [] [] (nC [6] [91] [] [] (bZ.last rfl rfl (jC 1 [] [(0,A_ 8 (L.b tk) 2)] [(8,[(4,vI (c.aT)),(5,vI (c.aJ))])] (NL (ay.np (NX (SR (ar.mem (eX:=[.abs (aW (eE (aX S.O tk (λo=>{o with mode:=c.mode,bg:=c.bg,bh:=c.bh,aT:=c.aT,aJ:=c.aJ})) L)),.ax f [vI (S.X.cN),vI (S.X.cB),vI (S.X.cH),vI (S.X.cS),vI (S.X.cZ),.map (some m),vP t,vI (S.X.last),vI (S.X.ah),vI (S.X.used)] 135,.abs (bM Tryz.prog 3 m (cQ (cV L S.aq)) S.aq.length),.abs (fX 182 t S.X.cH S.aI (cV L S.us)),.abs (aW (dS (aX S.O tk (λo=>{o with mode:=c.mode,bg:=c.bg,bh:=c.bh,aT:=c.aT,aJ:=c.aJ})) L)),.abs (aW (fZ (aX S.O tk (λo=>{o with mode:=c.mode,bg:=c.bg,bh:=c.bh,aT:=c.aT,aJ:=c.aJ})) L)),.ax cb (aO c) 53,.abs R]) (λw hS=>by have h:=hS.Gt (O:=S.O) (L:=L) (i:=3) (j:=8) (aq:=[0,1,2,4,5,6,7]) (k:=tk) (f:=(λo=>{o with mode:=c.mode,bg:=c.bg,bh:=c.bh,aT:=c.aT,aJ:=c.aJ})) rfl (λ_ hx=>vK hx) rfl KB rfl (by show (af S.O tk).kind≠0;rw [bA];decide) ((sB (o:=(λo=>{o with mode:=c.mode,bg:=c.bg,bh:=c.bh,aT:=c.aT,aJ:=c.aJ}) (af S.O tk)) (bA)).trans rfl) (by show tq (af S.O tk).kind=_;rw [bA]<;>rfl);rw [t8 (O:=S.O) (k:=tk) (f:=(λo=>{o with mode:=c.mode,bg:=c.bg,bh:=c.bh,aT:=c.aT,aJ:=c.aJ})) rfl rfl,ud (O:=S.O) (k:=tk) (f:=(λo=>{o with mode:=c.mode,bg:=c.bg,bh:=c.bh,aT:=c.aT,aJ:=c.aJ})) rfl rfl];exact h) ?_))))))))))))))))))
 have LZ:(af (aX S.O tk (λo=>{o with mode:=c.mode,bg:=c.bg,bh:=c.bh,aT:=c.aT,aJ:=c.aJ})) tk).kind=2:=(pV (f:=(λo=>{o with mode:=c.mode,bg:=c.bg,bh:=c.bh,aT:=c.aT,aJ:=c.aJ})) (λ_=>rfl)).trans (bA)
 generalize fI:(aX S.O tk (λo=>{o with mode:=c.mode,bg:=c.bg,bh:=c.bh,aT:=c.aT,aJ:=c.aJ}))=gS at LZ ⊢
 exact jK 1 [4] [] (eN ⟨L,by subst fI;rw [show (cX S c)=(0,{S with O:=aX S.O tk (λo=>{o with mode:=c.mode,bg:=c.bg,bh:=c.bh,aT:=c.aT,aJ:=c.aJ})},c) by unfold cX;rw [iD];exact (aij (λh=>ain h.1 (by rw [nX];decide))).trans ((aik nY).trans ((aik ⟨zq,lf⟩).trans (aik AO)))]<;>exact⟨rfl,rfl⟩⟩ [1,2,3,0,4,5,6,7])
theorem Qj {β:Bs} (S:br) (L:HL) (f m t:Nat) (hI:bO S) (cb:Nat) (c:aH) (hC:kU β c) :
 aU Tryz.prog β 188 #[vP f,vP cb] ((pA f m t L S)++[.ax cb (aO c) 53]) (λv l=>∃L2,v=vI (fe S c).1/\l=((pA f m t L2 ((fe S c).2.1))++[.ax cb (aO ((fe S c).2.2)) 53])):=by
 have hX:=hI.hX
 refine SE Tryz.func188 Tryz.ntmps188 (λR=>SR (jK 1 [] [] (NN (ak.seq (rQ (jQ 9 [10,14,18] [(4,a_ 6 cb),(8,a_ 6 cb)] ?_))))))
 rcases kV hI.toInv0 c.aG c.name 192 with ⟨e,dR,cu⟩|⟨d,dR,hd,mr,j7,iD⟩
 ·exact mY [0,2,3] [0,3,1,2,4,5,6,7] (.tuple #[.pointer none,vI (e)]) ((by have h:=jl S L f m t hI c.aG hC.hw c.name hC.nm 192 (β:=β);rw [dR] at h;exact h)) (jQ 5 [5,6] [] (NQ (NX (SQ (jK 2 [23] [] (NN (cN ((e:Int)=(0:Int)) (λh23=>zR (v:=(vI (e))) ⟨L,by rw [show (fe S c)=(e,S,c) by unfold fe;rw [dR]]<;>exact⟨rfl,rfl⟩⟩) (λh23=>ain h23 cu))))))))
 have dP:(af S.O d).kind=2:=hI.kind hd
 refine mY [0,2,3] [0,3,1,2,4,5,6,7] (.tuple #[vP (L.b d),vI 0]) ((by have h:=jl S L f m t hI c.aG hC.hw c.name hC.nm 192 (β:=β);rw [dR] at h;exact h)) (jQ 5 [5,6] [] (NQ (NX (SQ (jK 2 [23] [] (NF (KX (SQ (jK 4 [28] [(3,a_ 6 cb)] (gE [] (kY (c.mode) 4095) (jK 1 [30] [] (NN (cN (0<=c.mode/\c.mode<=4095) (λnX=>zR (v:=(vI 120)) ⟨L,by rw [show (fe S c)=(120,S,c) by unfold fe;rw [dR];exact aij nX]<;>exact⟨rfl,rfl⟩⟩) (λnX=>KX (SQ (jK 6 [31,32,36] [(5,a_ 6 cb)] (gE [0,1,5,3] (Cr S L f m t hI d hd c.name hC.nm) (jK 1 [6] [] (NS (jK 2 [39] [] (NN (cN (((gi S.X S.O S.aq d c.name):Int)=(0:Int)) (λh0=>zR (v:=(vI ((gi S.X S.O S.aq d c.name)))) ⟨L,by rw [show (fe S c)=(gi S.X S.O S.aq d c.name,S,c) by unfold fe;rw [dR];exact (aik nX).trans (aij h0)]<;>exact⟨rfl,rfl⟩⟩ [0,1,4,3,5,2,6,7]) (λh0=>?_)))))))))))))))))))))))
 have iV:=vM h0
 refine KX (SR (jN 8 [7] (λb4=>[(3,a_ 6 cb)]) (λ_=>[]) (λb4=>.ax b4 [vI 0,vI (c.mode),vI 0,vI 0,vI 0,vI 0,vI 0,vI 0,.bool false,.slice none (0) (0)] 140) (λb4=>NN (ak.seq (ak.seq ?_)))))
 rcases Int.lt_or_le (S.us.length:Int) S.X.cH with Hs|Hs
 ·refine ak.region (jK 4 [49,50,52] [] ?_)
  obtain⟨L2,fN⟩:∃L2:HL,L2=L.put (bw S.X) b4 0 none 0:=⟨_,rfl⟩
  have hfr:=hI.toInv0.fresh
  refine ar.mem (λw hS=>hS.BZ fN hfr (o:=(⟨0,c.mode,0,0,0,0,0,0,false,1,[],⟨#[]⟩,[],none⟩:bJ)) (i:=3) (j:=8) (ix:=[0,1,2,4,5,6,7]) rfl rfl KB rfl (by show (1:Int)≠0;decide) ((mR (L:=L2) (k:=(bw S.X)) (o:=(⟨0,c.mode,0,0,0,0,0,0,false,1,[],⟨#[]⟩,[],none⟩:bJ)) rfl).trans (by rw [show L2.dA (bw S.X)=none by rw [fN];exact aik rfl,show L2.dC (bw S.X)=0 by rw [fN];exact aik rfl];rfl)) rfl) (ar.gA [(3,pE (aX S.O (bw S.X) (λ_=>(⟨0,c.mode,0,0,0,0,0,0,false,1,[],⟨#[]⟩,[],none⟩:bJ))) L2)] (λw hS=>hS.Dl fN hfr (o:=(⟨0,c.mode,0,0,0,0,0,0,false,1,[],⟨#[]⟩,[],none⟩:bJ)) (i:=3) rfl (by show (1:Int)≠2;decide)) (ar.mem (λw hS=>hS.mQ (e:=5) (size:=1)) (ar.mem (λw hS=>hS.UA fN (o:=(⟨0,c.mode,0,0,0,0,0,0,false,1,[],⟨#[]⟩,[],none⟩:bJ)) (i:=5) (j:=8) (ix:=[0,1,2,3,4,6,7]) rfl rfl KB rfl rfl rfl) (ar.gA [(3,.abs (bM Tryz.prog 3 m (cQ (cV L2 S.aq)) S.aq.length)),(5,.abs (fX 182 t S.X.cH S.aI (cV L2 S.us)))] (λw hS=>by rw [mD fN hfr.aq,mD fN hfr.us];exact hS) (gE (f:=199) (args:=#[vP f,.iface 138 (vP b4)]) (pre:=[pF f m t S.X,pT t S.X.cH S.aI L2 S.us,zi1 S c L2]) [2,5,1] ((by have h:=Bq (β:=β) {S with O:=(aX S.O (bw S.X) (λ_=>(⟨0,c.mode,0,0,0,0,0,0,false,1,[],⟨#[]⟩,[],none⟩:bJ)))} L2 f m t ⟨(bw S.X),1⟩ (by show (af (aX S.O (bw S.X) (λ_=>(⟨0,c.mode,0,0,0,0,0,0,false,1,[],⟨#[]⟩,[],none⟩:bJ))) (bw S.X)).kind=1;rw [fq]) aii (by show 0<=(af (aX S.O (bw S.X) (λ_=>(⟨0,c.mode,0,0,0,0,0,0,false,1,[],⟨#[]⟩,[],none⟩:bJ))) (bw S.X)).aK/\(af (aX S.O (bw S.X) (λ_=>(⟨0,c.mode,0,0,0,0,0,0,false,1,[],⟨#[]⟩,[],none⟩:bJ))) (bw S.X)).aK<=1048576;rw [fq];exact⟨Int.le_refl _,by show (0:Int)<=1048576;decide⟩);rw [vL fN,oL (S:={S with O:=(aX S.O (bw S.X) (λ_=>(⟨0,c.mode,0,0,0,0,0,0,false,1,[],⟨#[]⟩,[],none⟩:bJ)))}) (t:=⟨(bw S.X),1⟩) Hs] at h;exact h)) (jC 7 [6] [(5,a_ 6 cb)] [(6,[(12,vI ((aD.aP S.us)))])] (NS (jK 2 [59] [] (NF (KX (SR (sl 7 (vP b4) (vP (L2.b (bw S.X))) (by rw [JY fN]) (ar.gA [(3,.abs (aW (dS (aX (aX S.O (bw S.X) (λ_=>(⟨0,c.mode,0,0,0,0,0,0,false,1,[],⟨#[]⟩,[],none⟩:bJ))) (bw S.X) (λo=>{o with aK:=o.aK+1})) L2))),(5,.abs (aW (fZ (aX (aX S.O (bw S.X) (λ_=>(⟨0,c.mode,0,0,0,0,0,0,false,1,[],⟨#[]⟩,[],none⟩:bJ))) (bw S.X) (λo=>{o with aK:=o.aK+1})) L2)))] (λw hS=>by rw [t8 (O:=(aX S.O (bw S.X) (λ_=>(⟨0,c.mode,0,0,0,0,0,0,false,1,[],⟨#[]⟩,[],none⟩:bJ)))) (k:=(bw S.X)) (f:=(λo=>{o with aK:=o.aK+1})) rfl rfl,ud (O:=(aX S.O (bw S.X) (λ_=>(⟨0,c.mode,0,0,0,0,0,0,false,1,[],⟨#[]⟩,[],none⟩:bJ)))) (k:=(bw S.X)) (f:=(λo=>{o with aK:=o.aK+1})) rfl rfl];exact hS) ?_)))))))))))))
  have hkN:(af (aX (aX S.O (bw S.X) (λ_=>(⟨0,c.mode,0,0,0,0,0,0,false,1,[],⟨#[]⟩,[],none⟩:bJ))) (bw S.X) (λo=>{o with aK:=o.aK+1})) (bw S.X)).kind=1:=by rw [fq,fq]
  have hoN:(af (aX (aX S.O (bw S.X) (λ_=>(⟨0,c.mode,0,0,0,0,0,0,false,1,[],⟨#[]⟩,[],none⟩:bJ))) (bw S.X) (λo=>{o with aK:=o.aK+1})) (bw S.X)).aK=1:=by rw [fq,fq];rfl
  generalize fI:(aX (aX S.O (bw S.X) (λ_=>(⟨0,c.mode,0,0,0,0,0,0,false,1,[],⟨#[]⟩,[],none⟩:bJ))) (bw S.X) (λo=>{o with aK:=o.aK+1}))=gS at hkN hoN ⊢
  refine jK 6 [8] [(4,v_ 2 (qy L2 hkN))] (NS (jK 6 [66,67,71] [(5,a_ 6 cb)] (gE [0] (Cq S.X f m t hX c.mode) (jK 2 [74] [] (ar.mem (λw hS=>hS.Fg (i:=2) (k:=(bw S.X)) rfl (by rw [hkN];decide) (mR (hkN)) (ail tq (hkN))) (jC 1 [] [(0,A_ 8 (L2.b (bw S.X)) 9)] [(8,[(0,vI (S.X.last+1)),(1,vI (c.mode)),(2,vI 0),(3,vI 0),(4,vI (S.X.cS)),(5,vI (S.X.cZ)),(6,vI 0),(7,vI 0),(8,.bool false)])] (ar.mem (eX:=[.abs (aW (eE (aX gS (bw S.X) (λo=>{o with id:=S.X.last+1,mode:=c.mode,bg:=0,bh:=0,aT:=S.X.cS,aJ:=S.X.cZ,aS:=0,aK:=0,aE:=false})) L2)),.ax f [vI (S.X.cN),vI (S.X.cB),vI (S.X.cH),vI (S.X.cS),vI (S.X.cZ),.map (some m),vP t,vI (S.X.last+1),vI (S.X.ah),vI (S.X.used)] 135,.abs (fX 182 t S.X.cH (max S.aI ((S.us.length:Int)+1)) (cV L2 (ins (aD.aP S.us) ⟨(bw S.X),1⟩ S.us))),.abs (aW (dS (aX gS (bw S.X) (λo=>{o with id:=S.X.last+1,mode:=c.mode,bg:=0,bh:=0,aT:=S.X.cS,aJ:=S.X.cZ,aS:=0,aK:=0,aE:=false})) L2)),.abs (bM Tryz.prog 3 m (cQ (cV L2 S.aq)) S.aq.length),.abs (aW (fZ (aX gS (bw S.X) (λo=>{o with id:=S.X.last+1,mode:=c.mode,bg:=0,bh:=0,aT:=S.X.cS,aJ:=S.X.cZ,aS:=0,aK:=0,aE:=false})) L2)),.ax cb (aO {c with answer:=aD.aP S.us}) 53,.abs R]) (λw hS=>by have h:=hS.Gt (O:=gS) (L:=L2) (i:=2) (j:=8) (aq:=[0,1,3,4,5,6,7]) (k:=(bw S.X)) (f:=(λo=>{o with id:=S.X.last+1,mode:=c.mode,bg:=0,bh:=0,aT:=S.X.cS,aJ:=S.X.cZ,aS:=0,aK:=0,aE:=false})) rfl (λ_ hx=>vK hx) rfl KB rfl (by show (af gS (bw S.X)).kind≠0;rw [hkN];decide) ((mR (o:=(λo=>{o with id:=S.X.last+1,mode:=c.mode,bg:=0,bh:=0,aT:=S.X.cS,aJ:=S.X.cZ,aS:=0,aK:=0,aE:=false}) (af gS (bw S.X))) (hkN)).trans rfl) (by show tq (af gS (bw S.X)).kind=_;rw [hkN]<;>rfl);rw [t8 (O:=gS) (k:=(bw S.X)) (f:=(λo=>{o with id:=S.X.last+1,mode:=c.mode,bg:=0,bh:=0,aT:=S.X.cS,aJ:=S.X.cZ,aS:=0,aK:=0,aE:=false})) rfl rfl,ud (O:=gS) (k:=(bw S.X)) (f:=(λo=>{o with id:=S.X.last+1,mode:=c.mode,bg:=0,bh:=0,aT:=S.X.cS,aJ:=S.X.cZ,aS:=0,aK:=0,aE:=false})) rfl rfl];exact h) ?_)))))))
  have FD:(af (aX gS (bw S.X) (λo=>{o with id:=S.X.last+1,mode:=c.mode,bg:=0,bh:=0,aT:=S.X.cS,aJ:=S.X.cZ,aS:=0,aK:=0,aE:=false})) (bw S.X)).kind=1:=(pV (f:=(λo=>{o with id:=S.X.last+1,mode:=c.mode,bg:=0,bh:=0,aT:=S.X.cS,aJ:=S.X.cZ,aS:=0,aK:=0,aE:=false})) (λ_=>rfl)).trans (hkN)
  generalize gq:(aX gS (bw S.X) (λo=>{o with id:=S.X.last+1,mode:=c.mode,bg:=0,bh:=0,aT:=S.X.cS,aJ:=S.X.cZ,aS:=0,aK:=0,aE:=false}))=jT at FD ⊢
  refine NS (jK 5 [76,79] [] (Bp 0 [(5,1),(3,2)] (bw S.X) 7 (λo=>{o with aK:=(af gS (bw S.X)).aK}) FD (λDr tu=>?_)))
  have aal:=ku tu FD
  refine NS ?_
  have hfin:Dr=aX S.O (bw S.X) (λ_=>{cM S.X 1 c.mode with aK:=1}):=by subst tu;subst gq;rw [hoN];subst fI;simp only [BU];rfl
  subst hfin
  exact jK 8 [80,81,85,87] [(5,a_ 6 cb)] (gE (f:=205) (args:=#[vP f,vP (L.b d),.string c.name,.iface 138 (vP (L2.b (bw S.X)))]) (pre:=[pF f m t {S.X with last:=S.X.last+1},pI m L2 S.aq,pO (aX S.O (bw S.X) (λ_=>{cM S.X 1 c.mode with aK:=1})) L2,pE (aX S.O (bw S.X) (λ_=>{cM S.X 1 c.mode with aK:=1})) L2]) [1,4,0,5] ((by have h:=zO (β:=β) S L2 f m t hI.toInv0 d hd c.name hC.nm iV {cM S.X 1 c.mode with aK:=1} rfl (by simp [cM]) rfl (xV h0);rw [DZ fN (hI.Dk hd)] at h;exact h)) (NS (ar.gA [(5,.abs (aW (dS ((fY S d c.name {cM S.X 1 c.mode with aK:=1}).O) L2)))] (λw hS=>by rw [show dS ((fY S d c.name {cM S.X 1 c.mode with aK:=1}).O) L2=dS (aX S.O (bw S.X) (λ_=>{cM S.X 1 c.mode with aK:=1})) L2 from mU];exact hS) (jK 1 [4] [] (eN (v:=(vI 0)) ⟨L2,by rw [show (fe S c)=(0,(fY {S with us:=(ins (aD.aP S.us) ⟨(bw S.X),1⟩ S.us),aI:=(max S.aI ((S.us.length:Int)+1))} d c.name {cM S.X 1 c.mode with aK:=1}),{c with answer:=aD.aP S.us}) by unfold fe;rw [dR];exact (aik nX).trans ((aik h0).trans (by grind [oQ,fY,ins,bw,cM]))]<;>exact⟨rfl,rfl⟩⟩ [0,1,4,2,5,3,6,7])))))
 refine ak.region (jK 4 [49,50,52] [] ?_)
 obtain⟨L2,fN⟩:∃L2:HL,L2=L.put (bw S.X) b4 0 none 0:=⟨_,rfl⟩
 have hfr:=hI.toInv0.fresh
 refine ar.mem (λw hS=>hS.BZ fN hfr (o:=(⟨0,c.mode,0,0,0,0,0,0,false,1,[],⟨#[]⟩,[],none⟩:bJ)) (i:=3) (j:=8) (ix:=[0,1,2,4,5,6,7]) rfl rfl KB rfl (by show (1:Int)≠0;decide) ((mR (L:=L2) (k:=(bw S.X)) (o:=(⟨0,c.mode,0,0,0,0,0,0,false,1,[],⟨#[]⟩,[],none⟩:bJ)) rfl).trans (by rw [show L2.dA (bw S.X)=none by rw [fN];exact aik rfl,show L2.dC (bw S.X)=0 by rw [fN];exact aik rfl];rfl)) rfl) (ar.gA [(3,pE (aX S.O (bw S.X) (λ_=>(⟨0,c.mode,0,0,0,0,0,0,false,1,[],⟨#[]⟩,[],none⟩:bJ))) L2)] (λw hS=>hS.Dl fN hfr (o:=(⟨0,c.mode,0,0,0,0,0,0,false,1,[],⟨#[]⟩,[],none⟩:bJ)) (i:=3) rfl (by show (1:Int)≠2;decide)) (ar.mem (λw hS=>hS.mQ (e:=5) (size:=1)) (ar.mem (λw hS=>hS.UA fN (o:=(⟨0,c.mode,0,0,0,0,0,0,false,1,[],⟨#[]⟩,[],none⟩:bJ)) (i:=5) (j:=8) (ix:=[0,1,2,3,4,6,7]) rfl rfl KB rfl rfl rfl) (ar.gA [(3,.abs (bM Tryz.prog 3 m (cQ (cV L2 S.aq)) S.aq.length)),(5,.abs (fX 182 t S.X.cH S.aI (cV L2 S.us)))] (λw hS=>by rw [mD fN hfr.aq,mD fN hfr.us];exact hS) (gE (f:=199) (args:=#[vP f,.iface 138 (vP b4)]) (pre:=[pF f m t S.X,pT t S.X.cH S.aI L2 S.us,zi1 S c L2]) [2,5,1] ((by have h:=Bq (β:=β) {S with O:=(aX S.O (bw S.X) (λ_=>(⟨0,c.mode,0,0,0,0,0,0,false,1,[],⟨#[]⟩,[],none⟩:bJ)))} L2 f m t ⟨(bw S.X),1⟩ (by show (af (aX S.O (bw S.X) (λ_=>(⟨0,c.mode,0,0,0,0,0,0,false,1,[],⟨#[]⟩,[],none⟩:bJ))) (bw S.X)).kind=1;rw [fq]) aii (by show 0<=(af (aX S.O (bw S.X) (λ_=>(⟨0,c.mode,0,0,0,0,0,0,false,1,[],⟨#[]⟩,[],none⟩:bJ))) (bw S.X)).aK/\(af (aX S.O (bw S.X) (λ_=>(⟨0,c.mode,0,0,0,0,0,0,false,1,[],⟨#[]⟩,[],none⟩:bJ))) (bw S.X)).aK<=1048576;rw [fq];exact⟨Int.le_refl _,by show (0:Int)<=1048576;decide⟩);rw [vL fN,pu (S:={S with O:=(aX S.O (bw S.X) (λ_=>(⟨0,c.mode,0,0,0,0,0,0,false,1,[],⟨#[]⟩,[],none⟩:bJ)))}) (t:=⟨(bw S.X),1⟩) (by show ¬(S.us.length:Int)<S.X.cH;omega)] at h;exact h)) (jC 7 [6] [(5,a_ 6 cb)] [(6,[(12,vI 0)])] (NS (jK 2 [59] [] (NT (SR ?_))))))))))
 have hk0:(af S.O (bw S.X)).kind=0:=hI.zF _ (by have:=rN hI.toInv0;omega)
 exact ar.gA [(2,.abs (aW (eE S.O L)))] (λw hS=>hS.Fm (i:=2) rfl (bw S.X) (λx hx=>by rw [Di hx,Ta fN hfr hx]) (by unfold eE;rw [hk0];rfl)) (ar.gA [(5,.abs (aW (fZ S.O L)))] (λw hS=>hS.Fm (i:=5) rfl (bw S.X) (λx hx=>by rw [Fb hx,LF fN hfr hx]) (by unfold fZ;rw [hk0];rfl)) (ar.mem (eX:=[.ax f [vI (S.X.cN),vI (S.X.cB),vI (S.X.cH),vI (S.X.cS),vI (S.X.cZ),.map (some m),vP t,vI (S.X.last),vI (S.X.ah),vI (S.X.used)] 135,.abs (fX 182 t S.X.cH S.aI (cV L2 S.us)),.abs (aW (eE S.O L)),.abs (aW (dS S.O L)),.abs (bM Tryz.prog 3 m (cQ (cV L2 S.aq)) S.aq.length),.abs (aW (fZ S.O L)),.ax cb (aO {c with answer:=0}) 53,.abs R]) (λw hS=>hS.Fm (i:=3) rfl (bw S.X) (λx hx=>by rw [Fc hx,Gx fN hx]) (by unfold dS;rw [hk0];rfl)) (ar.mem (eX:=[.ax f [vI (S.X.cN),vI (S.X.cB),vI (S.X.cH),vI (S.X.cS),vI (S.X.cZ),.map (some m),vP t,vI (S.X.last),vI (S.X.ah),vI (S.X.used)] 135,.abs (fX 182 t S.X.cH S.aI (cV L S.us)),.abs (aW (eE S.O L)),.abs (aW (dS S.O L)),.abs (bM Tryz.prog 3 m (cQ (cV L S.aq)) S.aq.length),.abs (aW (fZ S.O L)),.ax cb (aO {c with answer:=0}) 53,.abs R]) (λw hS=>by rw [mD fN hfr.aq,mD fN hfr.us] at hS;exact hS) (jK 2 [4] [] (eN (v:=(vI 130)) ⟨L,by rw [show (fe S c)=(130,S,{c with answer:=0}) by unfold fe;rw [dR];exact (aik nX).trans ((aik h0).trans (by grind [oQ]))]<;>exact⟨rfl,rfl⟩⟩ [0,4,1,2,3,5,6,7])))))
end
section
open Go.RowKit
def Ds (b:Nat) (v:Value):d9 where
 h F w:=∃cs T,cs[0]?=some v/\(HP.ax b cs T).h F w
 lt:=λ⟨_,_,_,h⟩=>HP.lt h
 st:=λ⟨cs,T,hv,h⟩ _ _ hk hd=>⟨cs,T,hv,HP.st h hk hd⟩
theorem Ds.cell {b:Nat} {v:Value}:∀F w,(Ds b v).h F w->w.cell? ⟨b,0,none⟩=some v:=by
 rintro F w ⟨cs,T,hv,h⟩
 exact (lQ h.1 rfl rfl hv).1
theorem aR.first {β:Bs} {l:List HP} {w:World} {i b:Nat} {cs:List Value} {T:TypeId} {v:Value} (h:aR β l w) (hp:l[i]?=some (.ax b cs T)) (hv:cs[0]?=some v):aR β [.abs (Ds b v)] w:=by
 obtain⟨ho,φ,h1,h2,h3⟩:=h
 have hi:=dO hp
 refine⟨ho,λ_=>φ i,λj q hq=>?_,λj hj=>h2 i hi,λj k hj hk cu=>?_⟩
 ·have hj:=dO hq
  simp at hj
  subst hj
  simp at hq
  subst hq
  exact⟨cs,T,hv,h1 i _ hp⟩
 simp at hj hk
 omega
section mix
variable {P:Program} {β:Bs} {N:fL} {ops:Array Oper} {S:List HP} {l:List Nat} {fr:Fr} {au:List HP} {Q:Post} {i:Nat}
theorem ak.Vb {id:Nat} (perm:List Nat) (nr:Nat) (hm:P.follows .mixedOrders=true) (hB:ET ops perm nr=true) (hp:∀w,aR β au w->aR β S w) (h:bZ P β N ops S nr perm fr au Q):ak P β N (.region id ops true) fr au Q:=by
 intro ai w hS
 unfold ET at hB
 simp only [aiJ,ajd] at hB
 obtain⟨⟨⟨h1,h2⟩,h3⟩,h4⟩:=hB
 have iA:=hS.drewN 1
 have h5:=Li (Q:=Q) h1 h2 nr perm _ _ _ h4 (λj oj _ hl=>by simp [Array.getD_eq_getD_getElem?,Array.getElem?_replicate] at hl;split at hl<;>simp at hl) (hp _ iA) (h ai (w.drewN 1) iA)
 rw [h3] at h5
 refine ajb (λe a w q=>?_) (wp_region_any hm (tY _ _ _ _ h5))
 cases e with
 |normal=>exact q
 |exit id=>exact q.elim
 |goto l=>exact q.elim
 |ret=>exact q.elim
 |panic ch=>exact q.elim
 |outgrown=>exact q.elim
theorem bZ.Vc {ι:Type} {bL:ι->Fr} {cR:ι->List HP} {o:Oper} (bW:ops[i]?=some o) (hg:o.guard=none) (h:ar P β N #[o] 0 fr au (NP (G6 β N bL cR))) (hp:∀j w,aR β (cR j) w->aR β S w)
 (K:∀j,bZ P β N ops S 0 l (bL j) (cR j) Q):bZ P β N ops S 0 (i::l) fr au Q:=by
 grind [uS,vZ,NP,G6,fB,BL,ar,aR,bZ]
end mix
end
section
open Go.RowKit Go.Maps bF aD
def Qk:List Nat:=[184,185,186,187,188,189,190,191,192,193,194,195,196,197,198]
def hnV:Value:=.agg ⟨.nilFunc::Qk.map (λf=>.func (.func f) #[] #[])⟩
theorem Vd {n:Int} (h:1<=n/\n<=15):n=1\/n=2\/n=3\/n=4\/n=5\/n=6\/n=7\/n=8\/n=9\/n=10\/n=11\/n=12\/n=13\/n=14\/n=15:=zc
theorem aeN {w:World} {o:Oper} {ev:Operand->Value} {x y:Operand} {n:Int} (ho:o.op=.index 261 x y) (hx:ev x=hnV) (hy:ev y=.int .i64 n) (hn:1<=n/\n<=15):tv Tryz.prog ev o w (.func (.func (Qk.getD (n.toNat-1) 0)) #[] #[]) w:=by
 obtain⟨dst,op,type,pos,after,guard⟩:=o
 cases ho
 refine .inl ?_
 simp only [execOp,hx,hy]
 rcases Vd hn with h|h|h|h|h|h|h|h|h|h|h|h|h|h|h<;>subst h<;>kernel_rfl
theorem ar.hn {β:Bs} {N:fL} {k:Nat} {ops:Array Oper} {fr:Fr} {au:List HP} {Q:Post} {d:Option Tmp} {x y:Operand} {n:Int} (hn:1<=n/\n<=15) (K:ar Tryz.prog β N ops (k+1) (eT fr d (.func (.func (Qk.getD (n.toNat-1) 0)) #[] #[])) au Q)
 (bW:∀ai,iY N ai ops fr k=some (.index 261 x y,d):=by intro _;kernel_rfl) (hx:∀ai,eW N fr ai x=hnV:=by intro _;kernel_rfl) (hy:∀ai,eW N fr ai y=.int .i64 n:=by intro _;kernel_rfl):ar Tryz.prog β N ops k fr au Q:=
 ar.oh bW (λ_ ai w ho hS=>⟨w,aeN ho (hx ai) (hy ai) hn,hS⟩) K
theorem agt {β:Bs} {S:br} {L:HL} {f m t b:Nat} {c:aH} (n:Int) (hI:bO S) (hC:kU β c) (h:1<=n/\n<=15) (he:c.op=n):aU Tryz.prog β (Qk.getD (n.toNat-1) 0) #[vP f,vP b] (pA f m t L S++[pC b c]) (λv l=>∃L2,v=vI (iC S c).1/\l=pA f m t L2 (iC S c).2.1++[pC b (iC S c).2.2]):=by
 subst he
 rcases Vd h with h|h|h|h|h|h|h|h|h|h|h|h|h|h|h<;>rw [h]
 ·first|exact ain hC.op (by rw [h];unfold nW;decide)|(rw [zH h];exact U8 S L f m t hI b c hC)
 ·first|exact ain hC.op (by rw [h];unfold nW;decide)|(rw [Ca h];exact N7 S L f m t hI b c hC)
 ·first|exact ain hC.op (by rw [h];unfold nW;decide)|(rw [Cb h];exact L6 S L f m t hI b c hC)
 ·first|exact ain hC.op (by rw [h];unfold nW;decide)|(rw [xW h];exact Sb S L f m t hI b c hC)
 ·first|exact ain hC.op (by rw [h];unfold nW;decide)|(rw [Cc h];exact Qj S L f m t hI b c hC)
 ·first|exact ain hC.op (by rw [h];unfold nW;decide)|(rw [Cd h];exact N8 S L f m t hI b c hC)
 ·first|exact ain hC.op (by rw [h];unfold nW;decide)|(rw [Ce h];exact U9 S L f m t hI b c hC)
 ·first|exact ain hC.op (by rw [h];unfold nW;decide)|(rw [zJ h];exact Qf S L f m t hI b c hC)
 ·first|exact ain hC.op (by rw [h];unfold nW;decide)|(rw [Cg h];exact Sd S L f m t hI b c hC)
 ·first|exact ain hC.op (by rw [h];unfold nW;decide)|(rw [yJ h];exact N9 S L f m t hI b c hC)
 ·first|exact ain hC.op (by rw [h];unfold nW;decide)|(rw [yK h];exact Va S L f m t hI b c hC)
 ·first|exact ain hC.op (by rw [h];unfold nW;decide)|(rw [yL h];exact Qi S L f m t hI b c hC)
 ·first|exact ain hC.op (by rw [h];unfold nW;decide)|(rw [wk h];exact Sg S L f m t hI b c hC)
 ·first|exact ain hC.op (by rw [h];unfold nW;decide)|(rw [yM h];exact Sc S L f m t hI b c hC)
 first|exact ain hC.op (by rw [h];unfold nW;decide)|(rw [yN h];exact Qg S L f m t hI b c hC)
theorem Xl {S:br} {c:aH} (h:1<=c.op/\c.op<=15):(iC S c).2.2.op=c.op:=by
 rcases Vd h with h|h|h|h|h|h|h|h|h|h|h|h|h|h|h
 ·rw [zH h];exact adg
 ·rw [Ca h];exact UF
 ·rw [Cb h];exact RW
 all_goals grind [xW,UG,Cc,RX,Cd,PO,Ce,WS,zJ,RY,Cg,UI,yJ,UJ,yK,adh,yL,WT,wk,Z0,yM,UH,yN,RZ]
end
section
open Go.RowKit Go.Maps bF aD
attribute [local irreducible] ar bN ak ay bZ
abbrev zj1 (b3:Nat):=(.ax b3 [vI 0,vI 0,vI 0,.string ⟨#[]⟩,.string ⟨#[]⟩,.slice none (0) (0),vI 0,vI 0,vI 0,vI 0,vI 0,vI 0,vI 0] 53:HP)
abbrev zj2 (c:aH):=([(0,vI (c.op)),(1,vI (c.aG)),(2,vI (c.other)),(3,.string c.name),(4,.string c.text),(5,.slice c.dA (c.data.length) (c.dC)),(6,vI (c.mode)),(7,vI (c.bg)),(8,vI (c.bh)),(9,vI (c.aT)),(10,vI (c.aJ)),(11,vI 230)]:Fr)
theorem Sh {β:Bs}:aU Tryz.prog β 183 #[] [] (λv l=>v=.agg #[.nilFunc,.func (.func 184) #[] #[],.func (.func 185) #[] #[],.func (.func 186) #[] #[],.func (.func 187) #[] #[],.func (.func 188) #[] #[],.func (.func 189) #[] #[],.func (.func 190) #[] #[],.func (.func 191) #[] #[],.func (.func 192) #[] #[],.func (.func 193) #[] #[],.func (.func 194) #[] #[],.func (.func 195) #[] #[],.func (.func 196) #[] #[],.func (.func 197) #[] #[],.func (.func 198) #[] #[]]/\l=[]):=by
 exact SE Tryz.func183 Tryz.ntmps183 (λR=>SR (jB 1 [0] (λb1=>.ax b1 [.nilFunc,.nilFunc,.nilFunc,.nilFunc,.nilFunc,.nilFunc,.nilFunc,.nilFunc,.nilFunc,.nilFunc,.nilFunc,.nilFunc,.nilFunc,.nilFunc,.nilFunc,.nilFunc] 261) (λb1=>NS (jC 2 [] [(1,A_ 1 b1 16)] [(1,[(1,.func (.func 184) #[] #[]),(2,.func (.func 185) #[] #[]),(3,.func (.func 186) #[] #[]),(4,.func (.func 187) #[] #[]),(5,.func (.func 188) #[] #[]),(6,.func (.func 189) #[] #[]),(7,.func (.func 190) #[] #[]),(8,.func (.func 191) #[] #[]),(9,.func (.func 192) #[] #[]),(10,.func (.func 193) #[] #[]),(11,.func (.func 194) #[] #[]),(12,.func (.func 195) #[] #[]),(13,.func (.func 196) #[] #[]),(14,.func (.func 197) #[] #[]),(15,.func (.func 198) #[] #[])])] (eS [A_ 1 b1 16] ⟨rfl,rfl⟩)))))
theorem Ql {β:Bs} (S:br) (L:HL) (f m t:Nat) (hI:bO S) (c:aH) (hC:kU β c) :
 aU Tryz.prog β 182 #[vP f,.agg ⟨aO c⟩] (pA f m t L S) (λv l=>∃L2,v=.agg ⟨aO (gj S c).2⟩/\l=(pA f m t L2 ((gj S c).1))):=by
 have hX:=hI.hX
 refine SE Tryz.func182 Tryz.ntmps182 (λR=>SR (jB 1 [3] (λb2=>.ax b2 (aO c) 53) (λb2=>jB 1 [4] (λb3=>.ax b3 [vI 0,vI 0,vI 0,.string ⟨#[]⟩,.string ⟨#[]⟩,.slice none (0) (0),vI 0,vI 0,vI 0,vI 0,vI 0,vI 0,vI 0] 53) (λb3=>NS (jC 2 [] [(1,a_ 7 b2)] [(7,[(12,vI 0)])] (NS (jC 2 [] [(1,a_ 7 b2)] [(7,[(11,vI 230)])] (NZ (jK 4 [10] [(1,a_ 7 b2)] (sP 10 ((c.op:Int)>=(1:Int)) (λh10=>jK 4 [14] [(1,a_ 7 b2)] (NN (cP ((c.op:Int)<=(15:Int)) (λmZ=>?_) (λmZ=>KX (SR (jC 2 [] [(0,A_ 7 b2 13),(1,A_ 8 b3 13)] [(8,(zj2 c))] (eS [A_ 8 b3 13] ⟨L,by unfold gj;rw [Bc (S:=S) (c:=(c0 c)) Pe];exact⟨rfl,rfl⟩⟩))))))) (λh10=>jK 4 [14] [] (NF (KX (SR (jC 2 [] [(0,A_ 7 b2 13),(1,A_ 8 b3 13)] [(8,(zj2 c))] (eS [A_ 8 b3 13] ⟨L,by unfold gj;rw [Bc (S:=S) (c:=(c0 c)) Pe];exact⟨rfl,rfl⟩⟩))))))))))))))))
 have bW:1<=c.op/\c.op<=15:=⟨h10,mZ⟩
 refine ak.Vb (S:=[.abs (Ds b2 (.int .i64 c.op))]) [1,2,4,0,3,5,6,7] 3 KB KB (λw hS=>hS.first (i:=7) (b:=b2) rfl rfl) (jR 3 [3,4,17,19] [(1,p_ ⟨[.view 0 (.int .i64 (c.op))],none,none,none,none⟩ [(∀F w,(Ds b2 (.int .i64 c.op)).h F w->w.cell? ⟨b2,0,none⟩=some (vI (c.op)))] ⟨Ds.cell,trivial⟩)] (bZ.Vc (ι:=Unit) (bL:=λ(_:Unit)=>[(3,vP b2),(4,vP b3),(15,.agg #[.nilFunc,.func (.func 184) #[] #[],.func (.func 185) #[] #[],.func (.func 186) #[] #[],.func (.func 187) #[] #[],.func (.func 188) #[] #[],.func (.func 189) #[] #[],.func (.func 190) #[] #[],.func (.func 191) #[] #[],.func (.func 192) #[] #[],.func (.func 193) #[] #[],.func (.func 194) #[] #[],.func (.func 195) #[] #[],.func (.func 196) #[] #[],.func (.func 197) #[] #[],.func (.func 198) #[] #[]]),(17,vI (c.op)),(19,vP f)]) (cR:=λ(_:Unit)=>((pA f m t L S)++[.abs R,pC b2 (c0 c),zj1 b3])) rfl rfl ?_ (by rintro _ w hS;exact hS.first (i:=7) (b:=b2) rfl rfl) ?_))
 ·exact gE [] (Sh) (NL (MD () [3,4,15,17,19] [0,1,2,3,4,5,6,7,8]))
 rintro _
 refine bZ.Vc (ι:=Unit) (bL:=λ(_:Unit)=>[(3,vP b2),(4,vP b3),(18,.func (.func (Qk.getD (c.op.toNat-1) 0)) #[] #[]),(19,vP f)]) (cR:=λ(_:Unit)=>((pA f m t L S)++[.abs R,pC b2 (c0 c),zj1 b3])) rfl rfl ?_ (by rintro _ w hS;exact hS.first (i:=7) (b:=b2) rfl rfl) ?_
 ·exact ar.hn (x:=(.tmp 15)) (y:=(.tmp 17)) (d:=(some 18)) bW (NL (MD () [3,4,18,19] [0,1,2,3,4,5,6,7,8]))
 rintro _
 refine bZ.Vc (ι:=HL) (bL:=λ(L2:HL)=>[(3,vP b2),(4,vP b3),(20,vI ((iC S (c0 c)).1))]) (cR:=λ(L2:HL)=>((pA f m t L2 ((iC S (c0 c)).2.1))++[pC b2 ((iC S (c0 c)).2.2),.abs R,zj1 b3])) rfl rfl ?_ (by rintro L2 w hS;exact hS.first (i:=6) (b:=b2) rfl (ail (λz=>some (Value.int .i64 z)) (Xl (c:=(c0 c)) bW))) ?_
 ·refine gL [0,1,2,3,4,5,7] (agt (S:=S) (L:=L) (f:=f) (m:=m) (t:=t) (b:=b2) (c:=(c0 c)) c.op hI ⟨hC.hw,hC.ow,hC.nm,hC.tx,hC.da,hC.dl,hC.dc,hC.op⟩ bW rfl) ?_ (by intro _;rcases Vd bW with h|h|h|h|h|h|h|h|h|h|h|h|h|h|h<;>rw [h]<;>kernel_rfl)
  rintro _ _ ⟨L2,rfl,rfl⟩
  exact NL (MD L2 [3,4,20] [0,1,2,3,4,5,6,7,8])
 rintro L2
 refine bZ.Vc (ι:=Unit) (bL:=λ(_:Unit)=>[(3,vP b2),(4,vP b3),(20,vI ((iC S (c0 c)).1)),(21,.pointer (some ⟨b2,11,none⟩))]) (cR:=λ(_:Unit)=>((pA f m t L2 ((iC S (c0 c)).2.1))++[pC b2 ((iC S (c0 c)).2.2),.abs R,zj1 b3])) rfl rfl ?_ (by rintro _ w hS;exact hS.first (i:=6) (b:=b2) rfl (ail (λz=>some (Value.int .i64 z)) (Xl (c:=(c0 c)) bW))) ?_
 ·exact jK 1 [21] [] (NL (MD () [3,4,20,21] [0,1,2,3,4,5,6,7,8]))
 rintro _
 exact bZ.last rfl rfl (jC 1 [] [(0,a_ 6 b2)] [(6,[(11,vI ((iC S (c0 c)).1))])] (NL (ay.np (NX (SR (jC 2 [] [(0,A_ 6 b2 13),(1,A_ 8 b3 13)] [(8,(zC (aO { (iC S (c0 c)).2.2 with code:=(iC S (c0 c)).1})))] (eS [A_ 8 b3 13] ⟨L2,rfl,rfl⟩ [0,1,2,3,4,5,7])))))))
end
section
open Go.RowKit Go.Maps bF aD
attribute [local irreducible] ar bN ak ay bZ qu
abbrev Tn (B)(d:List UInt8) (cap):=(.abs (aF 5 1 B d.length cap (dQ d)):HP)
abbrev zk2 (b5:Nat) (An:Option Addr) (i:Nat) (cn:Nat):=(.ax b5 [.slice An (i) (cn)] 24:HP)
abbrev zk3 (An:Option Addr) (i:Nat) (cn:Nat) (K:eP) (S:br):=(.abs (aF 95 10 An i cn (bD K ((aV S).take i))):HP)
abbrev zk4 (S:br) (i:Nat) (K:eP):=(.abs (kR (rO ((aV S).take i) K) i):HP)
abbrev zk5 (S:br) (i:Nat) (K:eP):=(.abs (kR (lI ((aV S).take i) K) i):HP)
abbrev zk6 (A7:Option Addr) (S:br) (c8:Nat):=(.abs (aF 3 1 A7 ((aY S.aq).length) c8 (bH (aY S.aq))):HP)
abbrev zk7 (b4:Nat):=(.ax b4 [.slice none (0) (0)] 24:HP)
abbrev zk8 (b9:Nat):=(.ax b9 [vI 0,vI 0,vI 0,vI 0,vI 0,vI 0,vI 0,.slice none (0) (0),.string ⟨#[]⟩,.slice none (0) (0)] 95:HP)
abbrev aeO (S:br) (L:HL) (tk:Nat):=(.abs (aW (ol (fZ S.O L) tk d9.none)):HP)
abbrev Ve (L:HL) (tk:Nat) (S:br):=(.abs (bM Tryz.prog 9 (L.m tk) (nS L (af S.O tk).ah) ((af S.O tk).ah.length)):HP)
abbrev Vf (b15:Nat) (S:br) (i:Nat) (tk:Nat) (Ae:Option Addr) (j:Nat) (ce:Nat):=(.ax b15 [vI ((gD S i)),vI 2,vI ((af S.O tk).mode),vI ((af S.O tk).bg),vI ((af S.O tk).bh),vI ((af S.O tk).aT),vI ((af S.O tk).aJ),.slice none (0) (0),.string ⟨#[]⟩,.slice Ae (j) (ce)] 95:HP)
abbrev Vg (o7:Option Addr) (S:br) (tk:Nat) (q8:Nat):=(.abs (aF 9 1 o7 ((af S.O tk).ah.length) q8 (yO (af S.O tk).ah)):HP)
abbrev aap (oH:Option Addr) (j:Nat) (oI:Nat) (S:br) (tk:Nat):=(.abs (aF 149 2 oH (j+1) oI (nB (((af S.O tk).ah.take (j+1)).map (gn S.O)))):HP)
abbrev L7 (S:br) (tk:Nat):=([(39,vI ((af S.O tk).mode)),(43,vI ((af S.O tk).bg)),(47,vI ((af S.O tk).bh)),(51,.agg #[vI ((af S.O tk).aT),vI ((af S.O tk).aJ)])]:Fr)
abbrev FL (f:Nat) (b4:Nat) (b5:Nat):=([(0,vP f),(2,vP b4),(3,vP b5)]:Fr)
abbrev Qm (b5:Nat) (An:Option Addr) (i:Nat) (cn:Nat) (K:eP) (S:br) (A7:Option Addr) (c8:Nat) (b4:Nat) (f:Nat) (m:Nat) (t) (L:HL):=([zk2 b5 An i cn,zk3 An i cn K S,zk4 S i K,zk5 S i K,zk6 A7 S c8,zk7 b4,pF f m t S.X,pI m L S.aq,pO S.O L]:List HP)
abbrev FN (A7:Option Addr) (S:br) (c8:Nat) (i:Nat):=([(19,.slice A7 ((aY S.aq).length) (c8)),(20,vI ↑((aY S.aq).length)),(21,vI ↑i)]:Fr)
abbrev aaq (f:Nat) (b4:Nat) (b5:Nat) (b15:Nat) (L:HL) (tk:Nat) (A7:Option Addr) (S:br) (c8:Nat) (i:Nat) (o7:Option Addr) (q8:Nat) (j:Nat) (oH:Option Addr) (oI:Nat):=([(0,vP f),(2,vP b4),(3,vP b5),(8,vP b15),(11,vP (L.b tk)),(19,.slice A7 ((aY S.aq).length) (c8)),(20,vI ↑((aY S.aq).length)),(21,vI ↑i),(79,.slice o7 ((af S.O tk).ah.length) (q8)),(80,vI ↑((af S.O tk).ah.length)),(81,vI ↑j),(100,.slice oH ((j+1)) (oI))]:Fr)
abbrev aar (S:br) (tk:Nat):=([(2,vI ((af S.O tk).mode)),(3,vI ((af S.O tk).bg)),(4,vI ((af S.O tk).bh)),(5,vI ((af S.O tk).aT)),(6,vI ((af S.O tk).aJ))]:Fr)
abbrev aas (S:br) (L:HL) (tk:Nat) (R:d9) (b19:Nat) (j:Nat) (ek:Nat):=([pD S.O L,aeO S L tk,.abs R,.ax b19 [.string (ou (af S.O tk).ah j),vI ((af S.O ek).id)] 149]:List HP)
theorem L8 {β:Bs} (c:Nat):aU Tryz.prog β 37 #[.slice none 0 c] [] (λv l=>∃B cap,v=.slice B 0 cap/\l=[.abs (aF 5 1 B 0 cap [])]):=by
 exact SE Tryz.func37 Tryz.ntmps37 (λR=>SR (jK 1 [] [] (NZ (jK 2 [4] [] (NT (SR (jK 1 [2] [] (NN (ak.ret (ay.bB (ay.mem (λw hS=>(hS.mQ (e:=5) (size:=1)).pick (aq:=[1,0]) (l':=[.abs (aF 5 1 none 0 0 ([])),.abs R]) rfl KB) (RT _ [0,1] (⟨none,0,rfl,rfl⟩)))))))))))))
theorem Kn {β:Bs} (a:Addr) (c:Nat) (d:List UInt8) (hA:bp β (some a) d) (hl:d.length<=140737488355328):aU Tryz.prog β 37 #[.slice (some a) d.length c] [] (λv l=>∃B cap,v=.slice B d.length cap/\l=[Tn B d cap]):=by
 exact SE Tryz.func37 Tryz.ntmps37 (λR=>SR (jK 1 [] [] (NZ (jK 2 [4] [] (NF (KX (SR (jB 1 [5] (λb1=>.ax b1 [] 5) (λb1=>ar.mem (λw hS=>hS.o9 (i:=1) (b:=b1) (cs:=[]) (e:=5) 1 0 KB rfl Pd) (jK 1 [6] [] (SH 1 51 (some a) d.length c (dQ d) rfl (hA.src) (λA2 c3=>ar.cJ 1 rfl (by rw [aiE,List.nil_append]) (sl 7 (.slice A2 (0+d.length) (c3)) (.slice A2 (d.length) (c3)) (by rw [aiE]) (jK 1 [2] [] (eN ⟨A2,c3,rfl,rfl⟩ [1,0])))) (hl:=by rw [t6,Nat.mul_one]) (h1:=qw d))))))))))))
theorem CV {β:Bs} (A:Option Addr) (c:Nat) (d:List UInt8) (hA:bp β A d) (hl:d.length<=140737488355328):aU Tryz.prog β 37 #[.slice A d.length c] [] (λv l=>∃B cap,v=.slice B d.length cap/\l=[Tn B d cap]):=by
 cases A with
 |some a=>exact Kn a c d hA hl
 |none=>
   cases d with
   |nil=>exact L8 c
   |cons b r=>have h:=bp.hd hA (j:=0) aii;cases h
theorem Qn {β:Bs} (A:Option Addr) (c:Nat) (d:List UInt8) (hl:d.length<=140737488355328):aU Tryz.prog β 37 #[.slice A d.length c] [Tn A d c] (λv l=>∃B cap,v=.slice B d.length cap/\l=[Tn B d cap,Tn A d c]):=
 (aU.wY (pre:=[]) (R:=[Tn A d c]) (λ_ h=>CV A c d h.bytes hl)).mono Pe
theorem Qo {β:Bs} (L:HL) (b bk:Nat) (aq:bC Th) (hr:aD.dH (aY aq)) (hn:aq.length<=4096) :
 aU Tryz.prog β 66 #[JV bk] [pI b L aq,.ax bk [.map (some b)] 129] (λv l=>∃A cap,v=.slice A (aY aq).length cap/\l=[pI b L aq,.ax bk [.map (some b)] 129,.abs (aF 3 1 A (aY aq).length cap (bH (aY aq)))]):=
 (JW b bk aq.length (cQ (cV L aq)) zc).mono (by
  rintro v l ⟨A,cap,ss,rfl,hk,_,rfl⟩
  have e:=S6 (us:=cV L aq) (by rw [IC];exact hr) hk
  rw [IC] at e
  subst e
  exact⟨A,cap,rfl,rfl⟩)
theorem Xm {β:Bs} (S:br) (L:HL) (f m t:Nat) (hI:bO S) :
 aU Tryz.prog β 50 #[vP f] [pF f m t S.X,pI m L S.aq,pO S.O L,pD S.O L,pE S.O L] (λv l=>∃A c K,v=.agg #[.slice A (aV S).length c]/\l=[pF f m t S.X,pI m L S.aq,pO S.O L,pD S.O L,pE S.O L]++LK A c (aV S) K):=by
 have hX:=hI.hX
 have hkl:(aY S.aq).length=S.aq.length:=IK _
 have hil:=hI.len
 refine SE Tryz.func50 Tryz.ntmps50 (λR=>SR (jB 1 [2] (λb4=>.ax b4 [.slice none (0) (0)] 24) (λb4=>NS (jB 1 [3] (λb5=>.ax b5 [.slice none (0) (0)] 24) (λb5=>NZ (jK 4 [17] [(3,a_ 0 f)] (gX [] (Py (some m)) (λb6=>gL [2,0] (Qo L m b6 S.aq hI.fD hI.len) ?_))))))))
 rintro _ _ ⟨A7,c8,rfl,rfl⟩
 refine jK 1 [20] [] (ar.mem (λw hS=>hS.mQ (e:=95) (size:=10)) (ar.mem (λw hS=>hS.JF (rO [] IU)) (ar.mem (λw hS=>hS.JF (lI [] IU)) (jK 1 [21] [] (NN (ak.block (lJ (λ(i,An,cn,K)=>(i<=S.aq.length)) (λ(i,An,cn,K)=>S.aq.length-i) (λ(i,An,cn,K)=>(FL f b4 b5++FN A7 S c8 i)) (λ(i,An,cn,K)=>(Qm b5 An i cn K S A7 c8 b4 f m t L++[pD S.O L,pE S.O L,.abs R])) (0,none,0,IU) [9,10,11,12,2,8,3,0,4,5,6,7] ((aio _)) ?_)))))))
 rintro⟨i,An,cn,K⟩ hi
 refine SR (jK 1 [22] [] (NN (ak.seq (cP ((((i:Nat):Int):Int)<((((aY S.aq).length:Nat):Int):Int)) (λsU=>?_) (λsU=>?_)))))
 ·have hi2:i<S.aq.length:=zc
  refine KX (ak.seq (ak.block (SR (ar.tell (p:=(A7=some ⟨bG A7,bE A7,none⟩)) (λw hS=>let ⟨F,h⟩:=hS.get (i:=4) rfl;(aF.Jy h zc).1) (λhAk=>jK 3 [5] [(0,x_ i ((aY S.aq).length) (hAk)),(1,p_ ⟨[.view 4 (.int .i64 ((gD S i)))],none,none,none,none⟩ [(∀F w,(aF 3 1 A7 ((aY S.aq).length) c8 (bH (aY S.aq))).h F w->w.cell? ⟨(bG A7),bE A7+i*1,none⟩=some (vI ((gD S i))))] ⟨aF.cellAt (i:=i) (j:=0) zc (Z9 hi2),trivial⟩)] (NN (ak.seq ?_)))))))
  have ah8:=(LM hI.toInv0 hi2).1
  have hget:=get_at hI.toInv0 hi2
  rcases agf hI.toInv0 hi2 with ⟨tk,q4,bX⟩|⟨tk,q4,bX⟩|⟨tk,q4,bX⟩
  ·have bA:(af S.O tk).kind=1:=hI.kind bX
   have hel:(af S.O tk).ah.length<=8192:=hI.lZ bX
   have hdl:(af S.O tk).data.length<=140737488355328:=hI.Uz bX
   refine ak.region (jK 5 [28,29] [(3,a_ 6 f)] (ar.jj 7 (d:=(some 30)) (t:=129) (K:=3) (E:=133) (b:=m) (n:=S.aq.length) (f:=(cQ (cV L S.aq))) (x:=(.tmp 28)) (ix:=(.tmp 29)) (key:=vI ((gD S i))) (z:=.nilIface) (kl:=(.int .i64 (gD S i))) (r:=(some (iB L ⟨tk,1⟩))) (λ_=>KB) KB (λ_=>KB) (λ_=>KB) iZ Tryz.underlying129 (λ_=>KB) (mP (LO hI.toInv0 hi2)) (by rw [j8,hget,q4];rfl) (jK 1 [6] [] (NS (jK 1 [31] [] (gE [] (fW (L.b tk)) (jK 1 [7] [] (NN (ak.seq (ak.tj (S:=[pO S.O L]) (Bg [0,1,3,4,5,6,7,8,9,10,11,12,13,14,15,16,17,18] (oJ 20 [(false,21)] [(false,2),(false,19)])) [8] (gT (oJ 20 [(false,21)] [(false,2),(false,19)]) (FL f b4 b5++[(6,.iface 138 (vP (L.b tk)))]++FN A7 S c8 i++[(33,vI ((gD S i))),(34,.iface 138 (vP (L.b tk)))]++L7 S tk) [0,1,3,4,5,6,7,8,9,10,11,12,13,14,15,16,17,18] [(5,v_ 0 (Bo L bA)),(9,v_ 0 (GD L bA)),(13,v_ 0 (GF L bA)),(17,p_ ⟨[.view 0 (.int .i64 ((af S.O tk).aT)),.view 0 (.int .i64 ((af S.O tk).aJ))],none,none,none,none⟩ [(∀F w,(aW (eE S.O L)).h F w->w.cell? ⟨(L.b tk),5,none⟩=some (vI ((af S.O tk).aJ))),(∀F w,(aW (eE S.O L)).h F w->w.cell? ⟨(L.b tk),4,none⟩=some (vI ((af S.O tk).aT)))] ⟨je (by rw [bA];decide) (rfl),je (by rw [bA];decide) (rfl),trivial⟩)] (qu.one (j:=20) (dj:=8) (R:=λf_ l_=>f_=([(52,.agg #[vI ((gD S i)),vI 1,vI ((af S.O tk).mode),vI ((af S.O tk).bg),vI ((af S.O tk).bh),vI ((af S.O tk).aT),vI ((af S.O tk).aJ),.slice none (0) (0),.string ⟨#[]⟩,.slice none (0) (0)]),(35,vI 1)]++FL f b4 b5++[(6,.iface 138 (vP (L.b tk)))]++FN A7 S c8 i++[(33,vI ((gD S i))),(34,.iface 138 (vP (L.b tk)))]++L7 S tk)/\l_=[]) [8] [(false,2,35),(false,19,52)] (kG.of (ι:=Nat) (v:=λ(b9:Nat)=>vP b9) (l:=λ(b9:Nat)=>[zk8 b9]) [35,52] rfl rfl rfl rfl ?_) ?_ ?_))))))))))))
   ·intro u Aq
    exact jB 1 [8] (λb9=>.ax b9 [vI 0,vI 0,vI 0,vI 0,vI 0,vI 0,vI 0,.slice none (0) (0),.string ⟨#[]⟩,.slice none (0) (0)] 95) (λb9=>NL (MD b9 [8,35,52,0,2,3,6,19,20,21,33,34,39,43,47,51] [1,0]))
   ·refine eY.step (kG.of (ι:=Unit) (v:=λ(_:Unit)=>.int .i64 1) (l:=λ(_:Unit)=>[]) [8] rfl rfl rfl rfl ?_) ?_
    ·intro u Aq
     exact gE [] (tP (vP (L.b tk))) (NL (MD () [35,8,0,2,3,6,19,20,21,33,34,39,43,47,51] [0]))
    rintro _ _ ⟨_,rfl,rfl⟩
    refine eY.step (kG.of (ι:=Unit) (v:=λ(_:Unit)=>.agg #[vI ((gD S i)),vI 1,vI ((af S.O tk).mode),vI ((af S.O tk).bg),vI ((af S.O tk).bh),vI ((af S.O tk).aT),vI ((af S.O tk).aJ),.slice none (0) (0),.string ⟨#[]⟩,.slice none (0) (0)]) (l:=λ(_:Unit)=>[]) [8] rfl rfl rfl rfl ?_) ?_
    ·intro u Aq
     exact jK 1 [52] [] (NL (MD () [52,8,35,0,2,3,6,19,20,21,33,34,39,43,47,51] [0]))
    rintro _ _ ⟨_,rfl,rfl⟩
    exact⟨rfl,rfl⟩
   rintro _ _ ⟨rfl,rfl⟩ _ _ ⟨b9,rfl,rfl⟩
   refine eH.last KB (jC 1 [] [(0,A_ 0 b9 10)] [(0,([(0,vI ((gD S i))),(1,vI 1)]++aar S tk))] (NL (ay.np (NX (SQ (jK 1 [53] [] (NN (ak.block (SR (jK 3 [55,56] [] (NT (SR (jK 1 [9] [] (NN (ak.region (jK 4 [60] [(3,v_ 9 (P9 L bA))] (ar.mem (λw hS=>hS.Ws (i:=10) (k:=tk) rfl bA) (gL [13] (Qn (L.dA tk) (L.dC tk) (af S.O tk).data hdl) ?_))))))))))))))))))
   rintro _ _ ⟨FO,c11,rfl,rfl⟩
   exact ar.mem (λw hS=>hS.aeB (i:=12) (j:=1) (ix:=[0,2,3,4,5,6,7,8,9,10,11,13,14]) rfl rfl KB rfl bA) (jC 2 [] [(1,a_ 2 b9)] [(2,[(7,.slice FO ((af S.O tk).data.length) (c11))])] (LX (ak.region (jN 4 [104,106] (λb12=>[(1,a_ 3 b5),(2,A_ 2 b9 10)]) (λ_=>[]) (λb12=>.ax b12 [vI ((gD S i)),vI 1,vI ((af S.O tk).mode),vI ((af S.O tk).bg),vI ((af S.O tk).bh),vI ((af S.O tk).aT),vI ((af S.O tk).aJ),.slice FO ((af S.O tk).data.length) (c11),.string ⟨#[]⟩,.slice none (0) (0)] 95) (λb12=>ny 4 22 (some ⟨b12,0,none⟩) 1 1 [vI ((gD S i)),vI 1,vI ((af S.O tk).mode),vI ((af S.O tk).bg),vI ((af S.O tk).bh),vI ((af S.O tk).aT),vI ((af S.O tk).aJ),.slice FO ((af S.O tk).data.length) (c11),.string ⟨#[]⟩,.slice none (0) (0)] rfl (fQ (j:=14) rfl) (λM6 M7=>ar.cJ 4 rfl (ail (λx=>HP.abs (aF 95 10 _ _ _ x)) (wo (iK zc) (yQ hI.toInv0 hi2 q4 bX) rfl rfl)) (sl 107 (.slice M6 (i+1) (M7)) (.slice M6 ((i+1)) (M7)) (rfl) (jC 2 [] [(1,a_ 3 b5)] [(3,[(0,.slice M6 ((i+1)) (M7))])] (LX (ak.region (jK 2 [21] [(0,wJ ((i:Int)+1) (↑(i+1)))] (NL (ay.mem (λw hS=>hS.mQ (e:=149) (size:=2)) (ay.mem (λw hS=>hS.vF (R':=(lI ((aV S).take (i+1)) (K.put i FO c11 none 0))) (i:=6) (j:=1) (aq:=[0,2,3,4,5,7,8,9,10,11,12,13,14,15]) rfl rfl KB rfl (D2 (iK zc) (yQ hI.toInv0 hi2 q4 bX)) (Ch (iK zc) (yQ hI.toInv0 hi2 q4 bX) rfl)) (ay.mem (λw hS=>hS.vF (R':=(rO ((aV S).take (i+1)) (K.put i FO c11 none 0))) (i:=5) (j:=14) (aq:=[0,1,2,3,4,6,7,8,9,10,11,12,13]) rfl rfl KB rfl (D3 (iK zc) (yQ hI.toInv0 hi2 q4 bX)) ((Ci (iK zc) (yQ hI.toInv0 hi2 q4 bX) rfl))) (tJ ((i+1),M6,M7,(K.put i FO c11 none 0)) [4,5,0,1,6,7,8,9,10,2,11,12] (zc)))))))))))))))))
  ·have bA:(af S.O tk).kind=2:=hI.kind bX
   have hel:(af S.O tk).ah.length<=8192:=hI.lZ bX
   have hdl:(af S.O tk).data.length<=140737488355328:=hI.Uz bX
   refine ak.region (jK 5 [28,29] [(3,a_ 6 f)] (ar.jj 7 (d:=(some 30)) (t:=129) (K:=3) (E:=133) (b:=m) (n:=S.aq.length) (f:=(cQ (cV L S.aq))) (x:=(.tmp 28)) (ix:=(.tmp 29)) (key:=vI ((gD S i))) (z:=.nilIface) (kl:=(.int .i64 (gD S i))) (r:=(some (iB L ⟨tk,2⟩))) (λ_=>KB) KB (λ_=>KB) (λ_=>KB) iZ Tryz.underlying129 (λ_=>KB) (mP (LO hI.toInv0 hi2)) (by rw [j8,hget,q4];rfl) (jK 1 [6] [] (NS (jK 1 [31] [] (gE [] (fW (L.b tk)) (jK 1 [7] [] (NN (ak.seq (ak.tj (S:=[pO S.O L]) (Bg [0,1,3,4,5,6,7,8,9,10,11,12,13,14,15,16,17,18] (oJ 20 [(false,21)] [(false,2),(false,19)])) [8] (gT (oJ 20 [(false,21)] [(false,2),(false,19)]) (FL f b4 b5++[(6,.iface 144 (vP (L.b tk)))]++FN A7 S c8 i++[(33,vI ((gD S i))),(34,.iface 144 (vP (L.b tk)))]++L7 S tk) [0,1,3,4,5,6,7,8,9,10,11,12,13,14,15,16,17,18] [(5,v_ 0 (Bo L bA)),(9,v_ 0 (GD L bA)),(13,v_ 0 (GF L bA)),(17,p_ ⟨[.view 0 (.int .i64 ((af S.O tk).aT)),.view 0 (.int .i64 ((af S.O tk).aJ))],none,none,none,none⟩ [(∀F w,(aW (eE S.O L)).h F w->w.cell? ⟨(L.b tk),5,none⟩=some (vI ((af S.O tk).aJ))),(∀F w,(aW (eE S.O L)).h F w->w.cell? ⟨(L.b tk),4,none⟩=some (vI ((af S.O tk).aT)))] ⟨je (by rw [bA];decide) (rfl),je (by rw [bA];decide) (rfl),trivial⟩)] (qu.one (j:=20) (dj:=8) (R:=λf_ l_=>f_=([(52,.agg #[vI ((gD S i)),vI 2,vI ((af S.O tk).mode),vI ((af S.O tk).bg),vI ((af S.O tk).bh),vI ((af S.O tk).aT),vI ((af S.O tk).aJ),.slice none (0) (0),.string ⟨#[]⟩,.slice none (0) (0)]),(35,vI 2)]++FL f b4 b5++[(6,.iface 144 (vP (L.b tk)))]++FN A7 S c8 i++[(33,vI ((gD S i))),(34,.iface 144 (vP (L.b tk)))]++L7 S tk)/\l_=[]) [8] [(false,2,35),(false,19,52)] (kG.of (ι:=Nat) (v:=λ(b15:Nat)=>vP b15) (l:=λ(b15:Nat)=>[zk8 b15]) [35,52] rfl rfl rfl rfl ?_) ?_ ?_))))))))))))
   ·intro u Aq
    exact jB 1 [8] (λb15=>.ax b15 [vI 0,vI 0,vI 0,vI 0,vI 0,vI 0,vI 0,.slice none (0) (0),.string ⟨#[]⟩,.slice none (0) (0)] 95) (λb15=>NL (MD b15 [8,35,52,0,2,3,6,19,20,21,33,34,39,43,47,51] [1,0]))
   ·refine eY.step (kG.of (ι:=Unit) (v:=λ(_:Unit)=>.int .i64 2) (l:=λ(_:Unit)=>[]) [8] rfl rfl rfl rfl ?_) ?_
    ·intro u Aq
     exact gE [] (tQ (vP (L.b tk))) (NL (MD () [35,8,0,2,3,6,19,20,21,33,34,39,43,47,51] [0]))
    rintro _ _ ⟨_,rfl,rfl⟩
    refine eY.step (kG.of (ι:=Unit) (v:=λ(_:Unit)=>.agg #[vI ((gD S i)),vI 2,vI ((af S.O tk).mode),vI ((af S.O tk).bg),vI ((af S.O tk).bh),vI ((af S.O tk).aT),vI ((af S.O tk).aJ),.slice none (0) (0),.string ⟨#[]⟩,.slice none (0) (0)]) (l:=λ(_:Unit)=>[]) [8] rfl rfl rfl rfl ?_) ?_
    ·intro u Aq
     exact jK 1 [52] [] (NL (MD () [52,8,35,0,2,3,6,19,20,21,33,34,39,43,47,51] [0]))
    rintro _ _ ⟨_,rfl,rfl⟩
    exact⟨rfl,rfl⟩
   rintro _ _ ⟨rfl,rfl⟩ _ _ ⟨b15,rfl,rfl⟩
   refine eH.last KB (jC 1 [] [(0,A_ 0 b15 10)] [(0,([(0,vI ((gD S i))),(1,vI 2)]++aar S tk))] (NL (ay.np (NX (SQ (jK 1 [53] [] (NN (ak.block (SR (jK 3 [55,56] [] (NF (SR (jK 3 [64,65] [] (NF (SR (jK 3 [72,73] [] (NT (SR (jK 1 [11] [] (NS (jK 4 [77] [(3,v_ 9 (dx L bA))] (ar.mem (λw hS=>hS.aef (i:=11) (k:=tk) rfl (bA)) (gX [] (Z7 (some (L.m tk))) (λb16=>gL [14,0] (UR L (L.m tk) b16 (af S.O tk).ah.length (af S.O tk).ah (hI.sorted _ bX) hel) ?_))))))))))))))))))))))))
   rintro _ _ ⟨o7,q8,rfl,rfl⟩
   refine jK 1 [80] [] (ar.mem (λw hS=>hS.mQ (e:=149) (size:=2)) (jK 1 [81] [] (NN (ak.block (lJ (λ(j,Ae,ce)=>(j<=(af S.O tk).ah.length)) (λ(j,Ae,ce)=>(af S.O tk).ah.length-j) (λ(j,Ae,ce)=>(FL f b4 b5++[(8,vP b15),(11,vP (L.b tk))]++FN A7 S c8 i++[(79,.slice o7 ((af S.O tk).ah.length) (q8)),(80,vI ↑((af S.O tk).ah.length)),(81,vI ↑j)])) (λ(j,Ae,ce)=>([Vf b15 S i tk Ae j ce,.abs (aF 149 2 Ae j ce (nB (((af S.O tk).ah.take j).map (gn S.O)))),Ve L tk S,.ax b16 [.map (some (L.m tk))] 145,Vg o7 S tk q8]++Qm b5 An i cn K S A7 c8 b4 f m t L++[pD S.O L,aeO S L tk,.abs R])) (0,none,0) [3,16,0,1,2,4,5,6,7,8,9,10,11,12,13,14,15] ((aio _)) ?_)))))
   rintro⟨j,Ae,ce⟩ hj
   refine SR (jK 1 [82] [] (NN (ak.seq (cP ((((j:Nat):Int):Int)<((((af S.O tk).ah.length:Nat):Int):Int)) (λM8=>?_) (λM8=>?_)))))
   ·have hj2:j<(af S.O tk).ah.length:=zc
    refine KX (ak.seq (ak.block (SR (ar.tell (p:=(o7=some ⟨bG o7,bE o7,none⟩)) (λw hS=>let ⟨F,h⟩:=hS.get (i:=4) rfl;(aF.Jy h zc).1) (λhAs=>jK 3 [13] [(0,x_ j ((af S.O tk).ah.length) (hAs)),(1,p_ ⟨[.view 4 (.string (ou (af S.O tk).ah j))],none,none,none,none⟩ [(∀F w,(aF 9 1 o7 ((af S.O tk).ah.length) q8 (yO (af S.O tk).ah)).h F w->w.cell? ⟨(bG o7),bE o7+j*1,none⟩=some (.string (ou (af S.O tk).ah j)))] ⟨aF.cellAt (i:=j) (j:=0) zc (UU hj2),trivial⟩)] (NN ?_))))))
    obtain⟨hgd,h4⟩:=agX hI.toInv0 bX hj2
    have hgs:(ou (af S.O tk).ah j).size<=255:=hgd.2.1
    rcases h4 with ⟨ek,dL,I3,Xn⟩|⟨ek,dL,I3,Xn⟩|⟨ek,dL,I3,Xn⟩
    ·have hke:(af S.O ek).kind=1:=hI.kind I3
     refine rM (List.range 18) 9 [2,13,0] (jR 8 [0,2,3,8,11,19,20,21,79,80,81,86,87,91,92] [(1,a_ 2 b15),(6,v_ 1 (dx L bA))] (bZ.jj 0 (d:=(some 93)) (t:=145) (K:=9) (E:=133) (b:=(L.m tk)) (cnt:=(af S.O tk).ah.length) (f:=(nS L (af S.O tk).ah)) (x:=(.tmp 91)) (ix:=(.tmp 92)) (key:=.string (ou (af S.O tk).ah j)) (z:=.nilIface) (kl:=(.string (ou (af S.O tk).ah j).data.toList)) (q:=(some (iB L ⟨ek,1⟩))) KB KB (λ_=>KB) (λ_=>KB) Iw Tryz.underlying145 (λ_=>KB) (Ln zc) (by rw [zV,dL];rfl) KB (mL [2,13,0] [] (fW (L.b ek)) ?_ (by rintro _ _ ⟨rfl,rfl⟩;rfl))))
     rintro _ _ ⟨rfl,rfl⟩
     refine nC [2,13,0] [95] [] [] (nC [2,13,0] [96] [] [] (nC [2,13,0] [97] [(0,v_ 13 (y9 L hke))] [] (nC [2,13,0] [98] [] [] (mN [2,13,0] (λb19=>[(99,.slice (some ⟨b19,0,none⟩) (1) (1))]) (λ_=>[]) (λb19=>.ax b19 [.string (ou (af S.O tk).ah j),vI ((af S.O ek).id)] 149) (λb19=>bZ.cut (ι:=(Option Addr)×Nat) (bL:=λ((oH,oI):(Option Addr)×Nat)=>(aaq f b4 b5 b15 L tk A7 S c8 i o7 q8 j oH oI)) (cR:=λ((oH,oI):(Option Addr)×Nat)=>([Vf b15 S i tk Ae j ce,aap oH j oI S tk,Ve L tk S,.ax b16 [.map (some (L.m tk))] 145,Vg o7 S tk q8]++Qm b5 An i cn K S A7 c8 b4 f m t L++aas S L tk R b19 j ek)) [2,13,0] rfl rfl ?_ rfl (λ_=>KB) ?_)))))
     ·exact ny 1 93 (some ⟨b19,0,none⟩) 1 1 [.string (ou (af S.O tk).ah j),vI ((af S.O ek).id)] rfl (fQ (j:=17) rfl) (λoH oI=>ar.cJ 1 rfl (ail (λx=>HP.abs (aF 149 2 _ _ _ x)) (Fw hj2 Xn)) (sl 100 (.slice oH (j+1) (oI)) (.slice oH ((j+1)) (oI)) (rfl) (NL (MD (oH,oI) [0,2,3,8,11,19,20,21,79,80,81,100] [0,1,2,3,4,5,6,7,8,9,10,11,12,13,14,15,16,17]))))
     rintro⟨oH,oI⟩
     exact nC [2,13,0] [101] [] [] (bZ.last rfl rfl (jC 1 [] [(0,a_ 0 b15)] [(0,[(9,.slice oH ((j+1)) (oI))])] (NL (ay.np (BX (ak.region (jK 2 [81] [(0,wJ ((j:Int)+1) (↑(j+1)))] (NL (tJ ((j+1),oH,oI) [0,1,2,3,4,5,6,7,8,9,10,11,12,13,14,15,16] (zc))))))))))
    ·have hke:(af S.O ek).kind=2:=hI.kind I3
     refine rM (List.range 18) 9 [2,13,0] (jR 8 [0,2,3,8,11,19,20,21,79,80,81,86,87,91,92] [(1,a_ 2 b15),(6,v_ 1 (dx L bA))] (bZ.jj 0 (d:=(some 93)) (t:=145) (K:=9) (E:=133) (b:=(L.m tk)) (cnt:=(af S.O tk).ah.length) (f:=(nS L (af S.O tk).ah)) (x:=(.tmp 91)) (ix:=(.tmp 92)) (key:=.string (ou (af S.O tk).ah j)) (z:=.nilIface) (kl:=(.string (ou (af S.O tk).ah j).data.toList)) (q:=(some (iB L ⟨ek,2⟩))) KB KB (λ_=>KB) (λ_=>KB) Iw Tryz.underlying145 (λ_=>KB) (Ln zc) (by rw [zV,dL];rfl) KB (mL [2,13,0] [] (fW (L.b ek)) ?_ (by rintro _ _ ⟨rfl,rfl⟩;rfl))))
     rintro _ _ ⟨rfl,rfl⟩
     refine nC [2,13,0] [95] [] [] (nC [2,13,0] [96] [] [] (nC [2,13,0] [97] [(0,v_ 13 (y9 L hke))] [] (nC [2,13,0] [98] [] [] (mN [2,13,0] (λnh=>[(99,.slice (some ⟨nh,0,none⟩) (1) (1))]) (λ_=>[]) (λnh=>.ax nh [.string (ou (af S.O tk).ah j),vI ((af S.O ek).id)] 149) (λnh=>bZ.cut (ι:=(Option Addr)×Nat) (bL:=λ((uJ,uK):(Option Addr)×Nat)=>(aaq f b4 b5 b15 L tk A7 S c8 i o7 q8 j uJ uK)) (cR:=λ((uJ,uK):(Option Addr)×Nat)=>([Vf b15 S i tk Ae j ce,aap uJ j uK S tk,Ve L tk S,.ax b16 [.map (some (L.m tk))] 145,Vg o7 S tk q8]++Qm b5 An i cn K S A7 c8 b4 f m t L++aas S L tk R nh j ek)) [2,13,0] rfl rfl ?_ rfl (λ_=>KB) ?_)))))
     ·exact ny 1 93 (some ⟨nh,0,none⟩) 1 1 [.string (ou (af S.O tk).ah j),vI ((af S.O ek).id)] rfl (fQ (j:=17) rfl) (λuJ uK=>ar.cJ 1 rfl (ail (λx=>HP.abs (aF 149 2 _ _ _ x)) (Fw hj2 Xn)) (sl 100 (.slice uJ (j+1) (uK)) (.slice uJ ((j+1)) (uK)) (rfl) (NL (MD (uJ,uK) [0,2,3,8,11,19,20,21,79,80,81,100] [0,1,2,3,4,5,6,7,8,9,10,11,12,13,14,15,16,17]))))
     rintro⟨uJ,uK⟩
     exact nC [2,13,0] [101] [] [] (bZ.last rfl rfl (jC 1 [] [(0,a_ 0 b15)] [(0,[(9,.slice uJ ((j+1)) (uK))])] (NL (ay.np (BX (ak.region (jK 2 [81] [(0,wJ ((j:Int)+1) (↑(j+1)))] (NL (tJ ((j+1),uJ,uK) [0,1,2,3,4,5,6,7,8,9,10,11,12,13,14,15,16] (zc))))))))))
    have hke:(af S.O ek).kind=3:=hI.kind I3
    refine rM (List.range 18) 9 [2,13,0] (jR 8 [0,2,3,8,11,19,20,21,79,80,81,86,87,91,92] [(1,a_ 2 b15),(6,v_ 1 (dx L bA))] (bZ.jj 0 (d:=(some 93)) (t:=145) (K:=9) (E:=133) (b:=(L.m tk)) (cnt:=(af S.O tk).ah.length) (f:=(nS L (af S.O tk).ah)) (x:=(.tmp 91)) (ix:=(.tmp 92)) (key:=.string (ou (af S.O tk).ah j)) (z:=.nilIface) (kl:=(.string (ou (af S.O tk).ah j).data.toList)) (q:=(some (iB L ⟨ek,3⟩))) KB KB (λ_=>KB) (λ_=>KB) Iw Tryz.underlying145 (λ_=>KB) (Ln zc) (by rw [zV,dL];rfl) KB (mL [2,13,0] [] (fW (L.b ek)) ?_ (by rintro _ _ ⟨rfl,rfl⟩;rfl))))
    rintro _ _ ⟨rfl,rfl⟩
    refine nC [2,13,0] [95] [] [] (nC [2,13,0] [96] [] [] (nC [2,13,0] [97] [(0,v_ 13 (y9 L hke))] [] (nC [2,13,0] [98] [] [] (mN [2,13,0] (λsY=>[(99,.slice (some ⟨sY,0,none⟩) (1) (1))]) (λ_=>[]) (λsY=>.ax sY [.string (ou (af S.O tk).ah j),vI ((af S.O ek).id)] 149) (λsY=>bZ.cut (ι:=(Option Addr)×Nat) (bL:=λ((qK,qL):(Option Addr)×Nat)=>(aaq f b4 b5 b15 L tk A7 S c8 i o7 q8 j qK qL)) (cR:=λ((qK,qL):(Option Addr)×Nat)=>([Vf b15 S i tk Ae j ce,aap qK j qL S tk,Ve L tk S,.ax b16 [.map (some (L.m tk))] 145,Vg o7 S tk q8]++Qm b5 An i cn K S A7 c8 b4 f m t L++aas S L tk R sY j ek)) [2,13,0] rfl rfl ?_ rfl (λ_=>KB) ?_)))))
    ·exact ny 1 93 (some ⟨sY,0,none⟩) 1 1 [.string (ou (af S.O tk).ah j),vI ((af S.O ek).id)] rfl (fQ (j:=17) rfl) (λqK qL=>ar.cJ 1 rfl (ail (λx=>HP.abs (aF 149 2 _ _ _ x)) (Fw hj2 Xn)) (sl 100 (.slice qK (j+1) (qL)) (.slice qK ((j+1)) (qL)) (rfl) (NL (MD (qK,qL) [0,2,3,8,11,19,20,21,79,80,81,100] [0,1,2,3,4,5,6,7,8,9,10,11,12,13,14,15,16,17]))))
    rintro⟨qK,qL⟩
    exact nC [2,13,0] [101] [] [] (bZ.last rfl rfl (jC 1 [] [(0,a_ 0 b15)] [(0,[(9,.slice qK ((j+1)) (qL))])] (NL (ay.np (BX (ak.region (jK 2 [81] [(0,wJ ((j:Int)+1) (↑(j+1)))] (NL (tJ ((j+1),qK,qL) [0,1,2,3,4,5,6,7,8,9,10,11,12,13,14,15,16] (zc))))))))))
   refine XX (ak.region ?_)
   have hjl:j=(af S.O tk).ah.length:=zc
   exact ar.mem (λw hS=>hS.aeg (i:=15) (j:=2) (aq:=[0,1,3,4,5,6,7,8,9,10,11,12,13,14,16]) (k:=tk) rfl rfl KB rfl (bA)) (jN 4 [104,106] (λjh=>[(1,a_ 5 b5),(2,A_ 1 b15 10)]) (λ_=>[]) (λjh=>.ax jh [vI ((gD S i)),vI 2,vI ((af S.O tk).mode),vI ((af S.O tk).bg),vI ((af S.O tk).bh),vI ((af S.O tk).aT),vI ((af S.O tk).aJ),.slice none (0) (0),.string ⟨#[]⟩,.slice Ae (j) (ce)] 95) (λjh=>ny 6 22 (some ⟨jh,0,none⟩) 1 1 [vI ((gD S i)),vI 2,vI ((af S.O tk).mode),vI ((af S.O tk).bg),vI ((af S.O tk).bh),vI ((af S.O tk).aT),vI ((af S.O tk).aJ),.slice none (0) (0),.string ⟨#[]⟩,.slice Ae (j) (ce)] rfl (fQ (j:=16) rfl) (λBt Bu=>ar.cJ 6 rfl (ail (λx=>HP.abs (aF 95 10 _ _ _ x)) (wo (iK zc) (Be hI.toInv0 hi2 q4 bX) rfl (by show ((af S.O tk).ah.map (gn S.O)).length=j;rw [aiF,hjl]))) (sl 107 (.slice Bt (i+1) (Bu)) (.slice Bt ((i+1)) (Bu)) (rfl) (jC 2 [] [(1,a_ 5 b5)] [(5,[(0,.slice Bt ((i+1)) (Bu))])] (LX (ak.region (jK 2 [21] [(0,wJ ((i:Int)+1) (↑(i+1)))] (NL (ay.mem (λw hS=>hS.mQ (e:=5) (size:=1)) (ay.mem (λw hS=>hS.vF (R':=(lI ((aV S).take (i+1)) (K.put i none 0 Ae ce))) (i:=8) (j:=17) (aq:=[0,1,2,3,4,5,6,7,9,10,11,12,13,14,15,16]) rfl rfl KB rfl (D2 (iK zc) (Be hI.toInv0 hi2 q4 bX)) (Ch (iK zc) (Be hI.toInv0 hi2 q4 bX) rfl)) (ay.mem (λw hS=>hS.vF (R':=(rO ((aV S).take (i+1)) (K.put i none 0 Ae ce))) (i:=8) (j:=3) (aq:=[0,1,2,4,5,6,7,9,10,11,12,13,14,15,16]) rfl rfl KB rfl (D3 (iK zc) (Be hI.toInv0 hi2 q4 bX)) ((Ci (iK zc) (Be hI.toInv0 hi2 q4 bX) (by show ((af S.O tk).ah.map (gn S.O)).length=j;rw [aiF,hjl])).trans (by rw [hjl,aiK]))) (tJ ((i+1),Bt,Bu,(K.put i none 0 Ae ce)) [6,7,0,1,8,9,10,11,12,13,2,14] (zc))))))))))))))
  have bA:(af S.O tk).kind=3:=hI.kind bX
  have hel:(af S.O tk).ah.length<=8192:=hI.lZ bX
  have hdl:(af S.O tk).data.length<=140737488355328:=hI.Uz bX
  refine ak.region (jK 5 [28,29] [(3,a_ 6 f)] (ar.jj 7 (d:=(some 30)) (t:=129) (K:=3) (E:=133) (b:=m) (n:=S.aq.length) (f:=(cQ (cV L S.aq))) (x:=(.tmp 28)) (ix:=(.tmp 29)) (key:=vI ((gD S i))) (z:=.nilIface) (kl:=(.int .i64 (gD S i))) (r:=(some (iB L ⟨tk,3⟩))) (λ_=>KB) KB (λ_=>KB) (λ_=>KB) iZ Tryz.underlying129 (λ_=>KB) (mP (LO hI.toInv0 hi2)) (by rw [j8,hget,q4];rfl) (jK 1 [6] [] (NS (jK 1 [31] [] (gE [] (fW (L.b tk)) (jK 1 [7] [] (NN (ak.seq (ak.tj (S:=[pO S.O L]) (Bg [0,1,3,4,5,6,7,8,9,10,11,12,13,14,15,16,17,18] (oJ 20 [(false,21)] [(false,2),(false,19)])) [8] (gT (oJ 20 [(false,21)] [(false,2),(false,19)]) (FL f b4 b5++[(6,.iface 141 (vP (L.b tk)))]++FN A7 S c8 i++[(33,vI ((gD S i))),(34,.iface 141 (vP (L.b tk)))]++L7 S tk) [0,1,3,4,5,6,7,8,9,10,11,12,13,14,15,16,17,18] [(5,v_ 0 (Bo L bA)),(9,v_ 0 (GD L bA)),(13,v_ 0 (GF L bA)),(17,p_ ⟨[.view 0 (.int .i64 ((af S.O tk).aT)),.view 0 (.int .i64 ((af S.O tk).aJ))],none,none,none,none⟩ [(∀F w,(aW (eE S.O L)).h F w->w.cell? ⟨(L.b tk),5,none⟩=some (vI ((af S.O tk).aJ))),(∀F w,(aW (eE S.O L)).h F w->w.cell? ⟨(L.b tk),4,none⟩=some (vI ((af S.O tk).aT)))] ⟨je (by rw [bA];decide) (rfl),je (by rw [bA];decide) (rfl),trivial⟩)] (qu.one (j:=20) (dj:=8) (R:=λf_ l_=>f_=([(52,.agg #[vI ((gD S i)),vI 3,vI ((af S.O tk).mode),vI ((af S.O tk).bg),vI ((af S.O tk).bh),vI ((af S.O tk).aT),vI ((af S.O tk).aJ),.slice none (0) (0),.string ⟨#[]⟩,.slice none (0) (0)]),(35,vI 3)]++FL f b4 b5++[(6,.iface 141 (vP (L.b tk)))]++FN A7 S c8 i++[(33,vI ((gD S i))),(34,.iface 141 (vP (L.b tk)))]++L7 S tk)/\l_=[]) [8] [(false,2,35),(false,19,52)] (kG.of (ι:=Nat) (v:=λ(uL:Nat)=>vP uL) (l:=λ(uL:Nat)=>[zk8 uL]) [35,52] rfl rfl rfl rfl ?_) ?_ ?_))))))))))))
  ·intro u Aq
   exact jB 1 [8] (λuL=>.ax uL [vI 0,vI 0,vI 0,vI 0,vI 0,vI 0,vI 0,.slice none (0) (0),.string ⟨#[]⟩,.slice none (0) (0)] 95) (λuL=>NL (MD uL [8,35,52,0,2,3,6,19,20,21,33,34,39,43,47,51] [1,0]))
  ·refine eY.step (kG.of (ι:=Unit) (v:=λ(_:Unit)=>.int .i64 3) (l:=λ(_:Unit)=>[]) [8] rfl rfl rfl rfl ?_) ?_
   ·intro u Aq
    exact gE [] (vo (vP (L.b tk))) (NL (MD () [35,8,0,2,3,6,19,20,21,33,34,39,43,47,51] [0]))
   rintro _ _ ⟨_,rfl,rfl⟩
   refine eY.step (kG.of (ι:=Unit) (v:=λ(_:Unit)=>.agg #[vI ((gD S i)),vI 3,vI ((af S.O tk).mode),vI ((af S.O tk).bg),vI ((af S.O tk).bh),vI ((af S.O tk).aT),vI ((af S.O tk).aJ),.slice none (0) (0),.string ⟨#[]⟩,.slice none (0) (0)]) (l:=λ(_:Unit)=>[]) [8] rfl rfl rfl rfl ?_) ?_
   ·intro u Aq
    exact jK 1 [52] [] (NL (MD () [52,8,35,0,2,3,6,19,20,21,33,34,39,43,47,51] [0]))
   rintro _ _ ⟨_,rfl,rfl⟩
   exact⟨rfl,rfl⟩
  rintro _ _ ⟨rfl,rfl⟩ _ _ ⟨uL,rfl,rfl⟩
  exact eH.last KB (jC 1 [] [(0,A_ 0 uL 10)] [(0,([(0,vI ((gD S i))),(1,vI 3)]++aar S tk))] (NL (ay.np (NX (SQ (jK 1 [53] [] (NN (ak.block (SR (jK 3 [55,56] [] (NF (SR (jK 3 [64,65] [] (NT (SR (jK 1 [10] [] (NN (ak.region (jC 6 [] [(3,v_ 9 (agj L bA)),(5,a_ 0 uL)] [(0,[(8,.string (af S.O tk).target)])] (LX (ak.region (jN 4 [104,106] (λb32=>[(1,a_ 1 b5),(2,A_ 0 uL 10)]) (λ_=>[]) (λb32=>.ax b32 [vI ((gD S i)),vI 3,vI ((af S.O tk).mode),vI ((af S.O tk).bg),vI ((af S.O tk).bh),vI ((af S.O tk).aT),vI ((af S.O tk).aJ),.slice none (0) (0),.string (af S.O tk).target,.slice none (0) (0)] 95) (λb32=>ny 2 22 (some ⟨b32,0,none⟩) 1 1 [vI ((gD S i)),vI 3,vI ((af S.O tk).mode),vI ((af S.O tk).bg),vI ((af S.O tk).bh),vI ((af S.O tk).aT),vI ((af S.O tk).aJ),.slice none (0) (0),.string (af S.O tk).target,.slice none (0) (0)] rfl (fQ (j:=13) rfl) (λM9 Na=>ar.cJ 2 rfl (ail (λx=>HP.abs (aF 95 10 _ _ _ x)) (wo (iK zc) (yR hI.toInv0 hi2 q4 bX) rfl rfl)) (sl 107 (.slice M9 (i+1) (Na)) (.slice M9 ((i+1)) (Na)) (rfl) (jC 2 [] [(1,a_ 1 b5)] [(1,[(0,.slice M9 ((i+1)) (Na))])] (LX (ak.region (jK 2 [21] [(0,wJ ((i:Int)+1) (↑(i+1)))] (NL (ay.mem (λw hS=>hS.mQ (e:=5) (size:=1)) (ay.mem (λw hS=>hS.mQ (e:=149) (size:=2)) (ay.mem (λw hS=>hS.vF (R':=(lI ((aV S).take (i+1)) (K.put i none 0 none 0))) (i:=4) (j:=14) (aq:=[0,1,2,3,5,6,7,8,9,10,11,12,13,15]) rfl rfl KB rfl (D2 (iK zc) (yR hI.toInv0 hi2 q4 bX)) (Ch (iK zc) (yR hI.toInv0 hi2 q4 bX) rfl)) (ay.mem (λw hS=>hS.vF (R':=(rO ((aV S).take (i+1)) (K.put i none 0 none 0))) (i:=4) (j:=14) (aq:=[0,1,2,3,5,6,7,8,9,10,11,12,13]) rfl rfl KB rfl (D3 (iK zc) (yR hI.toInv0 hi2 q4 bX)) ((Ci (iK zc) (yR hI.toInv0 hi2 q4 bX) rfl))) (tJ ((i+1),M9,Na,(K.put i none 0 none 0)) [3,4,0,1,5,6,7,8,9,10,11,12] (zc))))))))))))))))))))))))))))))))))))
 refine XX (SR ?_)
 have hie:(aV S).length=i:=by rw [ic];omega
 have hgt:((aV S).take i)=(aV S):=by rw [←hie,aiK]
 exact ar.cJ 1 (p:=.abs (aF 95 10 An i cn (bD K ((aV S).take i)))) (p':=.abs (aF 95 10 An ((aV S).length) cn (bD K (aV S)))) KB (by rw [hgt,hie]) (ar.cJ 2 (p:=.abs (kR (rO ((aV S).take i) K) i)) (p':=.abs (kR (rO (aV S) K) ((aV S).length))) KB (by rw [hgt,hie]) (ar.cJ 3 (p:=.abs (kR (lI ((aV S).take i) K) i)) (p':=.abs (kR (lI (aV S) K) ((aV S).length))) KB (by rw [hgt,hie]) (jC 2 [] [(0,a_ 0 b5),(1,a_ 5 b4)] [(5,[(0,.slice An (i) (cn))])] (eS [a_ 5 b4] ⟨An,cn,K,by rw [hie],rfl⟩ [6,7,8,9,10,1,2,3,11]))))
end
section
open Go.RowKit Go.Maps bF aD
attribute [local irreducible] ar bN ak ay bZ eH qu
abbrev zl1 (b2:Nat) (X:FM):=(.ax b2 [vI (X.cN),vI (X.cB),vI (X.cH),vI (X.cS),vI (X.cZ)] 28:HP)
abbrev Tp (b1:Nat) (A:Option Addr) (ns:List aL) (c):=(.ax b1 [.slice A (ns.length) (c)] 24:HP)
abbrev zl3 (b9:Nat) (ns) (k:Nat):=(.ax b9 [vI ((nd ns k).id),vI ((nd ns k).mode),vI ((nd ns k).bg),vI ((nd ns k).bh),vI ((nd ns k).aT),vI ((nd ns k).aJ),vI 0,vI 0,.bool false] 137:HP)
abbrev zl4 (b1:Nat) (X:FM):=([(2,vP b1),(39,.agg #[vI (X.cN),vI (X.cB),vI (X.cH),vI (X.cS),vI (X.cZ)])]:Fr)
abbrev zl5 (b7:Nat) (m3:Nat) (t4:Nat) (S:br) (L:HL) (R:d9):=([pF b7 m3 t4 S.X,pI m3 L S.aq,pT t4 S.X.cH S.aI L S.us,pO S.O L,pD S.O L,pE S.O L,.abs R]:List HP)
theorem Tq {β:Bs} (A:Option Addr) (c:Nat) (ns:List aL) (Y:eP) (hG:aN β A ns Y) (hl:ns.length<=1048576) (hd:∀i,i<ns.length->(nd ns i).data.length<=1048576/\(nd ns i).ah.length<=1048576) (hwf:∀i,i<ns.length->∀j,j<(nd ns i).ah.length->-9223372036854775808<=(bS ns i j).id/\(bS ns i j).id<=9223372036854775807) (hnm:∀i,i<ns.length->∀j,j<(nd ns i).ah.length->(bS ns i j).name.size<=1048576) (X:FM) :
 aU Tryz.prog β 43 #[.agg #[.slice A (ns.length) (c)],.agg #[vI (X.cN),vI (X.cB),vI (X.cH),vI (X.cS),vI (X.cZ)]] [] (λv l=>(¬kX X/\v=.tuple #[.pointer none,vI 179]/\l=[])\/(kX X/\¬cr ns/\v=.tuple #[.pointer none,vI 140]/\l=[])\/(kX X/\cr ns/\∃S f m t L,ld X ns ns.length 0 S/\v=.tuple #[vP f,vI 0]/\l=pA f m t L S)):=by
 refine SE Tryz.func43 Tryz.ntmps43 (λR=>SR (jB 1 [2] (λb1=>.ax b1 [.slice A (ns.length) (c)] 24) (λb1=>jB 3 [3] (λb2=>.ax b2 [vI (X.cN),vI (X.cB),vI (X.cH),vI (X.cS),vI (X.cZ)] 28) (λb2=>NZ (jK 2 [15] [(1,a_ 2 b2)] (gE [] (kY X.cN 4096) (jK 2 [18] [] (sN 18 ((0<=X.cN/\X.cN<=4096)) (λql=>jK 17 [35] [] (NT (zR (.inl ⟨λh=>ql h.cN,rfl,rfl⟩)))) (λql=>jK 2 [20] [(1,a_ 2 b2)] (gE [] (kY X.cB 1099511627776) (jK 3 [24] [] (sN 24 ((0<=X.cB/\X.cB<=1099511627776)) (λrY=>jK 11 [35] [] (NT (zR (.inl ⟨λh=>rY h.cB,rfl,rfl⟩)))) (λrY=>jK 2 [26] [(1,a_ 2 b2)] (gE [] (kY X.cH 1024) (jK 3 [30] [] (sN 30 ((0<=X.cH/\X.cH<=1024)) (λnX=>jK 5 [35] [] (NT (zR (.inl ⟨λh=>nX h.cH,rfl,rfl⟩)))) (λnX=>jK 2 [32] [(1,A_ 2 b2 2)] (gE [] (nO X.cS X.cZ) (jK 2 [35] [] (NN (cN (fU X.cS X.cZ) (λnY=>zR (.inl ⟨λh=>nY h.now,rfl,rfl⟩)) (λnY=>?_))))))))))))))))))))))
 have hcap:kX X:=⟨ql,rY,nX,nY⟩
 refine KX (SQ (jK 1 [36] [(0,a_ 1 b1)] (gE [] (Zt A c ns Y hG hl (λi hi=>⟨air (hd i hi).1 Pd,(hd i hi).2⟩) hwf hnm) (jK 1 [38] [] (NN (cN (((if cr ns then 0 else 140):Int)=(0:Int)) (λE7=>?_) (λE7=>?_)))))))
 ·have hng:¬cr ns:=λh=>E7 (aik h)
  exact zR (.inr (.inl ⟨hcap,hng,rfl,rfl⟩))
 have hok:cr ns:=aiI (λh=>Pe)
 refine KX (ak.seq (ak.tj (S:=[zl1 b2 X]) (Bg [0,2,3] (oJ 4 [(false,5),(false,6),(false,7)] [(false,1)])) [2] (gT (oJ 4 [(false,5),(false,6),(false,7)] [(false,1)]) (zl4 b1 X++[(42,vI (X.cH))]) [0,2,3] [(0,A_ 0 b2 5),(2,a_ 0 b2)] (qu.one (j:=4) (dj:=43) (R:=λf_ l_=>∃m3:Nat,f_=(40,.map (some m3))::(zl4 b1 X++[(42,vI (X.cH))])/\l_=[.abs (bM Tryz.prog 3 m3 (λ_=>none) 0)]) [2] [(false,1,40)] (kG.of (ι:=Nat) (v:=λ(t4:Nat)=>vP t4) (l:=λ(t4:Nat)=>[.abs (fX 182 t4 (min (max X.cH 0) 1024) 0 [])]) [40] rfl rfl rfl rfl ?_) ?_ ?_))))
 ·intro u Aq
  exact gX [] (ZJ X.cH) (λt4=>NL (MD t4 [43,40,2,39,42] [0,1]))
 ·refine eY.step (kG.of (ι:=Nat) (v:=λ(m3:Nat)=>.map (some m3)) (l:=λ(m3:Nat)=>[.abs (bM Tryz.prog 3 m3 (λ_=>none) 0)]) [43] rfl rfl rfl rfl ?_) ?_
  ·intro u Aq
   exact ar.tX (d:=(some 40)) (t:=129) (λ_=>KB) Tryz.prog rfl 3 (λm3=>NL (MD m3 [40,43,2,39,42] [1,0]))
  rintro _ _ ⟨m3,rfl,rfl⟩
  exact⟨m3,rfl,rfl⟩
 rintro _ _ ⟨m3,rfl,rfl⟩ _ _ ⟨t4,rfl,rfl⟩
 refine eH.cut (ι:=Unit) (bL:=λ(_:Unit)=>[(2,vP b1),(44,.agg #[vI (X.cN),vI (X.cB),vI (X.cH),vI (X.cS),vI (X.cZ),.map (some m3),vP t4,vI 0,vI 0,vI 0])]) (cR:=λ(_:Unit)=>[.abs (fX 182 t4 (min (max X.cH 0) 1024) 0 []),.abs R,Tp b1 A ns c,zl1 b2 X,.abs (bM Tryz.prog 3 m3 (λ_=>none) 0)]) [3] KB ?_ rfl (λ_=>KB) ?_
 ·exact jK 1 [44] [] (NL (MD () [2,44] [1,2,3,4,0]))
 rintro _
 refine eH.cut (ι:=Nat) (bL:=λ(b7:Nat)=>[(2,vP b1),(45,vP b7)]) (cR:=λ(b7:Nat)=>[.abs (fX 182 t4 (min (max X.cH 0) 1024) 0 []),.abs R,Tp b1 A ns c,zl1 b2 X,.abs (bM Tryz.prog 3 m3 (λ_=>none) 0),pF b7 m3 t4 {X with last:=0,ah:=0,used:=0}]) [3] KB ?_ rfl (λ_=>KB) ?_
 ·exact jB 1 [45] (λb7=>pF b7 m3 t4 {X with last:=0,ah:=0,used:=0}) (λb7=>NL (MD b7 [2,45] [0,1,2,3,4,5]))
 rintro b7
 refine eH.last KB (jK 1 [6] [] (NL (ay.np (NX (ak.seq (SR ?_))))))
 obtain⟨L,hL0⟩:∃L:HL,L=⟨λ_=>0,λ_=>0,λ_=>none,λ_=>0⟩:=⟨_,rfl⟩
 refine ar.mem (λw hS=>hS.Ol (eE (Cm X).O L) (IY X L).1) (ar.mem (λw hS=>hS.Ol (dS (Cm X).O L) (IY X L).2.1) (ar.mem (λw hS=>hS.Ol (fZ (Cm X).O L) (IY X L).2.2) ?_))
 have hc:min (max X.cH 0) 1024=X.cH:=by have:=hcap.cH;omega
 refine ar.mem (λw hS=>by rw [hc,←Px] at hS;exact hS) (jK 4 [47,48,49] [(1,a_ 2 b1)] (NN (ak.block (lJ (λ(k,S,L)=>(k<=ns.length)/\(xY X ns k S)) (λ(k,S,L)=>ns.length-k) (λ(k,S,L)=>[(2,vP b1),(6,vP b7),(47,.slice A (ns.length) (c)),(48,vI ↑ns.length),(49,vI ↑k)]) (λ(k,S,L)=>([Tp b1 A ns c]++zl5 b7 m3 t4 S L R)) (0,(Cm X),L) [2,5,4,0,6,7,8,1] (⟨aio _,Xb hcap⟩) ?_))))
 rintro⟨k,S,L⟩ ⟨hk,hB⟩
 refine SR (jK 1 [50] [] (NN (ak.seq (cP ((((k:Nat):Int):Int)<(((ns.length:Nat):Int):Int)) (λh50=>?_) (λh50=>?_)))))
 ·have hk2:k<ns.length:=zc
  have hdk:=hd k hk2
  have hds:=MY (λi hi=>(hd i hi).1) hk
  have y8:=hok.ids k hk2
  have hni:=hB.new hok hk2
  have xC:(Lit.int .i64 (nd ns k).id).wf=true:=WalkArith.wf_i64 zc
  have hkk:=(hok.node k hk2).kind
  have iD:S.X.used=(fM ns k:Int):=by rw [hB.cap]
  have hil:=hB.inv.len
  refine KX (ak.seq (ak.block (SR (jN 4 [8] (λb8=>[(0,x_ k ns.length (aN.hd hG (i:=k) zc)),(1,Ez (iy Y k (nd ns k)) (λ_ _ h=>aN.rd hG zc h)),(3,A_ 8 b8 10)]) (λ_=>[]) (λb8=>.ax b8 (iy Y k (nd ns k)) 95) (λb8=>NS (jN 13 [9] (λb9=>[(1,a_ 8 b8),(3,a_ 8 b8),(5,a_ 8 b8),(7,a_ 8 b8),(9,A_ 8 b8 2),(12,A_ 9 b9 9)]) (λ_=>[]) (λb9=>.ax b9 [vI ((nd ns k).id),vI ((nd ns k).mode),vI ((nd ns k).bg),vI ((nd ns k).bh),vI ((nd ns k).aT),vI ((nd ns k).aJ),vI 0,vI 0,.bool false] 137) (λb9=>NZ (jK 2 [65] [(1,a_ 8 b8)] (NN (ak.block (SR (jK 2 [77] [] (NN (cP (((nd ns k).kind:Int)=(1:Int)) (λhk1=>?_) (λhk1=>?_)))))))))))))))
  ·refine rM (List.range 14) 9 [1,8,9] (jR 9 [2,6,8,47,48,49,82,84,85,87] [(3,a_ 0 b7),(5,a_ 1 b8),(6,A_ 2 b9 9),(8,a_ 1 b8)] (mL [2,9,10] [] (CV (Y.dA k) (Y.dC k) (nd ns k).data (hG.data k zc) (by have:=(hd k zc).1;omega)) ?_ (by rintro _ _ ⟨FO,c11,rfl,rfl⟩;rfl)))
   rintro _ _ ⟨FO,c11,rfl,rfl⟩
   refine nC [2,9,10] [89] [] [] (mN [2,9,10] (λb12=>[(90,vP b12)]) (λ_=>[]) (λb12=>.ax b12 [vI ((nd ns k).id),vI ((nd ns k).mode),vI ((nd ns k).bg),vI ((nd ns k).bh),vI ((nd ns k).aT),vI ((nd ns k).aJ),vI 0,vI 0,.bool false,.slice FO ((nd ns k).data.length) (c11)] 140) (λb12=>nC [2,9,10] [91] [] [] (bZ.last rfl rfl ?_)))
   obtain⟨L2,fN⟩:∃L2:HL,L2=L.put (jY (nd ns k)) b12 0 FO c11:=⟨_,rfl⟩
   have hfr:=hB.fresh hok zc
   refine ar.mem (λw hS=>hS.BZ fN hfr (o:=(wN (nd ns k))) (i:=5) (j:=11) (ix:=[0,1,2,3,4,6,7,8,9,10]) rfl rfl KB rfl (by show (nd ns k).kind≠0;rw [hk1];decide) ((mR (L:=L2) (k:=(jY (nd ns k))) (o:=(wN (nd ns k))) hk1).trans (by rw [show L2.dA (jY (nd ns k))=FO by rw [fN];exact aik rfl,show L2.dC (jY (nd ns k))=c11 by rw [fN];exact aik rfl];rfl)) (by show tq (nd ns k).kind=_;rw [hk1]<;>rfl)) (ar.gA [(7,.abs (aW (fZ ((fO S (nd ns k)).O) L2)))] (λw hS=>hS.Dl fN hfr (o:=(wN (nd ns k))) (i:=7) rfl (by show ¬(nd ns k).kind=2;rw [hk1];decide)) (ar.mem (λw hS=>hS.agi fN (o:=(wN (nd ns k))) (i:=6) (j:=1) (ix:=[0,2,3,4,5,7,8,9,10]) rfl rfl KB rfl hk1) (ar.gA [(4,.abs (bM Tryz.prog 3 m3 (cQ (cV L2 S.aq)) S.aq.length)),(5,.abs (fX 182 t4 S.X.cH S.aI (cV L2 S.us)))] (λw hS=>by rw [mD fN hfr.aq,mD fN hfr.us];exact hS) ?_)))
   have Qp:iB L2 (vQ (nd ns k))=.iface 138 (vP b12):=by unfold vQ;rw [vL fN,hk1];rfl
   exact ar.rF 4 (d:=none) (t:=129) (K:=3) (E:=133) (b:=m3) (n:=S.aq.length) (f:=(cQ (cV L2 S.aq))) (x:=(.tmp 82)) (ix:=(.tmp 84)) (y:=(.tmp 91)) (key:=vI ((nd ns k).id)) (u:=.iface 138 (vP b12)) (kl:=(.int .i64 (nd ns k).id)) (n':=(S.aq.length+1)) (f':=(cQ (cV L2 (ins (nd ns k).id (vQ (nd ns k)) S.aq)))) (λ_=>KB) KB (λ_=>KB) (λ_=>KB) (λ_=>KB) iZ Tryz.underlying129 (by unfold maxLen;omega) (mP xC) (by rw [j8,hni];rfl) (by rw [←Qp];exact zX hni) (NL (ay.np (BX (SR (jC 6 [] [(2,a_ 8 b8),(5,a_ 3 b7)] [(3,[(7,vI ((nd ns k).id))])] (NN (rM (List.range 11) 10 [3,8] (jR 10 [2,6,47,48,49,118,120] [(3,a_ 0 b7),(5,a_ 1 b8),(7,wJ (S.X.used+(((nd ns k).data.length:Nat):Int)) (S.X.used+(((nd ns k).data.length:Nat):Int)))] (bZ.last rfl rfl (jC 1 [] [(0,a_ 3 b7)] [(3,[(9,vI (S.X.used+(((nd ns k).data.length:Nat):Int)))])] (NL (ay.np (BX (ak.region (jK 2 [49] [(0,wJ ((k:Int)+1) (↑(k+1)))] (NL (ay.gA [(3,.ax b7 [vI ((fO S (nd ns k)).X.cN),vI ((fO S (nd ns k)).X.cB),vI ((fO S (nd ns k)).X.cH),vI ((fO S (nd ns k)).X.cS),vI ((fO S (nd ns k)).X.cZ),.map (some m3),vP t4,vI ((fO S (nd ns k)).X.last),vI ((fO S (nd ns k)).X.ah),vI ((fO S (nd ns k)).X.used)] 135),(4,.abs (bM Tryz.prog 3 m3 (cQ (cV L2 (fO S (nd ns k)).aq)) ((fO S (nd ns k)).aq.length))),(5,.abs (fX 182 t4 (fO S (nd ns k)).X.cH (fO S (nd ns k)).aI (cV L2 (fO S (nd ns k)).us)))] (λw hS=>by rw [show (fO S (nd ns k)).aq.length=S.aq.length+1 from lV _ _ _];exact hS) (tJ ((k+1),(fO S (nd ns k)),L2) [2,3,4,5,1,0,6,7] (⟨zc,FA hok (λi hi=>(hd i hi).1) zc hB⟩)))))))))))))))))))
  refine SR (jK 2 [92] [] (NN (cP (((nd ns k).kind:Int)=(3:Int)) (λhk3=>?_) (λhk3=>?_))))
  ·refine rM (List.range 13) 10 [1,8,9] (jR 10 [2,6,8,47,48,49,97,99,103] [(3,a_ 0 b7),(5,a_ 1 b8),(6,A_ 2 b9 9),(8,a_ 1 b8)] (mN [1,8,9] (λb13=>[(104,vP b13)]) (λ_=>[]) (λb13=>.ax b13 [vI ((nd ns k).id),vI ((nd ns k).mode),vI ((nd ns k).bg),vI ((nd ns k).bh),vI ((nd ns k).aT),vI ((nd ns k).aJ),vI 0,vI 0,.bool false,.string (nd ns k).target] 143) (λb13=>nC [1,8,9] [105] [] [] (bZ.last rfl rfl ?_))))
   obtain⟨L2,fN⟩:∃L2:HL,L2=L.put (jY (nd ns k)) b13 0 none 0:=⟨_,rfl⟩
   have hfr:=hB.fresh hok zc
   refine ar.mem (λw hS=>hS.BZ fN hfr (o:=(wN (nd ns k))) (i:=4) (j:=10) (ix:=[0,1,2,3,5,6,7,8,9]) rfl rfl KB rfl (by show (nd ns k).kind≠0;rw [hk3];decide) ((Fe (L:=L2) (k:=(jY (nd ns k))) (o:=(wN (nd ns k))) hk3).trans aic) (by show tq (nd ns k).kind=_;rw [hk3]<;>rfl)) (ar.gA [(6,.abs (aW (fZ ((fO S (nd ns k)).O) L2)))] (λw hS=>hS.Dl fN hfr (o:=(wN (nd ns k))) (i:=6) rfl (by show ¬(nd ns k).kind=2;rw [hk3];decide)) (ar.gA [(5,.abs (aW (dS ((fO S (nd ns k)).O) L2)))] (λw hS=>hS.J0 fN (o:=(wN (nd ns k))) (i:=5) rfl (by show ¬(nd ns k).kind=1;rw [hk3];decide)) (ar.gA [(3,.abs (bM Tryz.prog 3 m3 (cQ (cV L2 S.aq)) S.aq.length)),(4,.abs (fX 182 t4 S.X.cH S.aI (cV L2 S.us)))] (λw hS=>by rw [mD fN hfr.aq,mD fN hfr.us];exact hS) ?_)))
   have Qp:iB L2 (vQ (nd ns k))=.iface 141 (vP b13):=by unfold vQ;rw [vL fN,hk3];rfl
   exact ar.rF 3 (d:=none) (t:=129) (K:=3) (E:=133) (b:=m3) (n:=S.aq.length) (f:=(cQ (cV L2 S.aq))) (x:=(.tmp 97)) (ix:=(.tmp 99)) (y:=(.tmp 105)) (key:=vI ((nd ns k).id)) (u:=.iface 141 (vP b13)) (kl:=(.int .i64 (nd ns k).id)) (n':=(S.aq.length+1)) (f':=(cQ (cV L2 (ins (nd ns k).id (vQ (nd ns k)) S.aq)))) (λ_=>KB) KB (λ_=>KB) (λ_=>KB) (λ_=>KB) iZ Tryz.underlying129 (by unfold maxLen;omega) (mP xC) (by rw [j8,hni];rfl) (by rw [←Qp];exact zX hni) (NL (ay.np (BX (SR (jC 6 [] [(2,a_ 8 b8),(5,a_ 2 b7)] [(2,[(7,vI ((nd ns k).id))])] (NN (rM (List.range 11) 10 [2,8] (jR 10 [2,6,47,48,49,118,120] [(3,a_ 0 b7),(5,a_ 1 b8),(7,wJ (S.X.used+(((nd ns k).data.length:Nat):Int)) (S.X.used+(((nd ns k).data.length:Nat):Int)))] (bZ.last rfl rfl (jC 1 [] [(0,a_ 2 b7)] [(2,[(9,vI (S.X.used+(((nd ns k).data.length:Nat):Int)))])] (NL (ay.np (BX (ak.region (jK 2 [49] [(0,wJ ((k:Int)+1) (↑(k+1)))] (NL (ay.gA [(2,.ax b7 [vI ((fO S (nd ns k)).X.cN),vI ((fO S (nd ns k)).X.cB),vI ((fO S (nd ns k)).X.cH),vI ((fO S (nd ns k)).X.cS),vI ((fO S (nd ns k)).X.cZ),.map (some m3),vP t4,vI ((fO S (nd ns k)).X.last),vI ((fO S (nd ns k)).X.ah),vI ((fO S (nd ns k)).X.used)] 135),(3,.abs (bM Tryz.prog 3 m3 (cQ (cV L2 (fO S (nd ns k)).aq)) ((fO S (nd ns k)).aq.length))),(4,.abs (fX 182 t4 (fO S (nd ns k)).X.cH (fO S (nd ns k)).aI (cV L2 (fO S (nd ns k)).us)))] (λw hS=>by rw [show (fO S (nd ns k)).aq.length=S.aq.length+1 from lV _ _ _];exact hS) (tJ ((k+1),(fO S (nd ns k)),L2) [1,2,3,4,0,5,6,7] (⟨zc,FA hok (λi hi=>(hd i hi).1) zc hB⟩)))))))))))))))))))
  have tS:(nd ns k).kind=2:=zc
  refine rM (List.range 12) 7 [1,8,9] (jR 7 [2,6,8,47,48,49,69,71,72] [(3,a_ 0 b7),(5,a_ 1 b8),(6,A_ 2 b9 9)] (bZ.cut (ι:=Nat) (bL:=λ(m14:Nat)=>[(2,vP b1),(6,vP b7),(8,vP b8),(47,.slice A (ns.length) (c)),(48,vI ↑ns.length),(49,vI ↑k),(69,.map (some m3)),(71,vI ((nd ns k).id)),(72,.agg #[vI ((nd ns k).id),vI ((nd ns k).mode),vI ((nd ns k).bg),vI ((nd ns k).bh),vI ((nd ns k).aT),vI ((nd ns k).aJ),vI 0,vI 0,.bool false]),(73,.map (some m14))]) (cR:=λ(m14:Nat)=>([Tp b1 A ns c]++zl5 b7 m3 t4 S L R++[.ax b8 (iy Y k (nd ns k)) 95,zl3 b9 ns k,.abs (bM Tryz.prog 9 m14 (λ_=>none) 0)])) [1,8,9] rfl rfl ?_ rfl (λ_=>KB) ?_))
  ·exact ar.tX (d:=(some 73)) (t:=145) (λ_=>KB) Tryz.prog rfl 9 (λm14=>NL (MD m14 [2,6,8,47,48,49,69,71,72,73] [0,1,2,3,4,5,6,7,8,9,10]))
  rintro m14
  refine nC [1,8,9] [74] [] [] (mN [1,8,9] (λb15=>[(75,vP b15)]) (λ_=>[]) (λb15=>.ax b15 [vI ((nd ns k).id),vI ((nd ns k).mode),vI ((nd ns k).bg),vI ((nd ns k).bh),vI ((nd ns k).aT),vI ((nd ns k).aJ),vI 0,vI 0,.bool false,.map (some m14),.pointer none] 147) (λb15=>nC [1,8,9] [76] [] [] (bZ.last rfl rfl ?_)))
  obtain⟨L2,fN⟩:∃L2:HL,L2=L.put (jY (nd ns k)) b15 m14 none 0:=⟨_,rfl⟩
  have hfr:=hB.fresh hok zc
  refine ar.mem (λw hS=>hS.BZ fN hfr (o:=(wN (nd ns k))) (i:=4) (j:=11) (ix:=[0,1,2,3,5,6,7,8,9,10]) rfl rfl KB rfl (by show (nd ns k).kind≠0;rw [tS];decide) ((sB (L:=L2) (k:=(jY (nd ns k))) (o:=(wN (nd ns k))) tS).trans (by rw [PG fN];rfl)) (by show tq (nd ns k).kind=_;rw [tS]<;>rfl)) (ar.mem (λw hS=>hS.ab6 fN hfr (o:=(wN (nd ns k))) (i:=6) (j:=10) (ix:=[0,1,2,3,4,5,7,8,9]) rfl rfl KB rfl tS rfl) (ar.gA [(6,.abs (aW (dS ((fO S (nd ns k)).O) L2)))] (λw hS=>hS.J0 fN (o:=(wN (nd ns k))) (i:=6) rfl (by show ¬(nd ns k).kind=1;rw [tS];decide)) (ar.gA [(4,.abs (bM Tryz.prog 3 m3 (cQ (cV L2 S.aq)) S.aq.length)),(5,.abs (fX 182 t4 S.X.cH S.aI (cV L2 S.us)))] (λw hS=>by rw [mD fN hfr.aq,mD fN hfr.us];exact hS) ?_)))
  have Qp:iB L2 (vQ (nd ns k))=.iface 144 (vP b15):=by unfold vQ;rw [vL fN,tS];rfl
  exact ar.rF 4 (d:=none) (t:=129) (K:=3) (E:=133) (b:=m3) (n:=S.aq.length) (f:=(cQ (cV L2 S.aq))) (x:=(.tmp 69)) (ix:=(.tmp 71)) (y:=(.tmp 76)) (key:=vI ((nd ns k).id)) (u:=.iface 144 (vP b15)) (kl:=(.int .i64 (nd ns k).id)) (n':=(S.aq.length+1)) (f':=(cQ (cV L2 (ins (nd ns k).id (vQ (nd ns k)) S.aq)))) (λ_=>KB) KB (λ_=>KB) (λ_=>KB) (λ_=>KB) iZ Tryz.underlying129 (by unfold maxLen;omega) (mP xC) (by rw [j8,hni];rfl) (by rw [←Qp];exact zX hni) (NL (ay.np (BX (SR (jC 6 [] [(2,a_ 8 b8),(5,a_ 3 b7)] [(3,[(7,vI ((nd ns k).id))])] (NN (rM (List.range 11) 10 [3,8] (jR 10 [2,6,47,48,49,118,120] [(3,a_ 0 b7),(5,a_ 1 b8),(7,wJ (S.X.used+(((nd ns k).data.length:Nat):Int)) (S.X.used+(((nd ns k).data.length:Nat):Int)))] (bZ.last rfl rfl (jC 1 [] [(0,a_ 3 b7)] [(3,[(9,vI (S.X.used+(((nd ns k).data.length:Nat):Int)))])] (NL (ay.np (BX (ak.region (jK 2 [49] [(0,wJ ((k:Int)+1) (↑(k+1)))] (NL (ay.gA [(3,.ax b7 [vI ((fO S (nd ns k)).X.cN),vI ((fO S (nd ns k)).X.cB),vI ((fO S (nd ns k)).X.cH),vI ((fO S (nd ns k)).X.cS),vI ((fO S (nd ns k)).X.cZ),.map (some m3),vP t4,vI ((fO S (nd ns k)).X.last),vI ((fO S (nd ns k)).X.ah),vI ((fO S (nd ns k)).X.used)] 135),(4,.abs (bM Tryz.prog 3 m3 (cQ (cV L2 (fO S (nd ns k)).aq)) ((fO S (nd ns k)).aq.length))),(5,.abs (fX 182 t4 (fO S (nd ns k)).X.cH (fO S (nd ns k)).aI (cV L2 (fO S (nd ns k)).us)))] (λw hS=>by rw [show (fO S (nd ns k)).aq.length=S.aq.length+1 from lV _ _ _];exact hS) (tJ ((k+1),(fO S (nd ns k)),L2) [2,3,4,5,1,6,0,7] (⟨zc,FA hok (λi hi=>(hd i hi).1) zc hB⟩)))))))))))))))))))
 refine XX (SQ (jK 4 [123,124,125] [(1,a_ 0 b1)] (NN (ak.block (lJ (λ(i,S1)=>(i<=ns.length)/\(ld X ns i 0 S1)) (λ(i,S1)=>ns.length-i) (λ(i,S1)=>[(6,vP b7),(123,.slice A (ns.length) (c)),(124,vI ↑ns.length),(125,vI ↑i)]) (λ(i,S1)=>([Tp b1 A ns c]++zl5 b7 m3 t4 S1 L R)) (0,S) [0,1,2,3,4,5,6,7] (⟨aio _,by have h:=hB;rw [show k=ns.length by omega] at h;exact h.ah⟩) ?_)))))
 rintro⟨i,S1⟩ ⟨hi,hE⟩
 refine SR (jK 1 [126] [] (NN (ak.seq (cP ((((i:Nat):Int):Int)<(((ns.length:Nat):Int):Int)) (λag9=>KX (ak.seq (ak.block (SR (jN 4 [11] (λb16=>[(0,x_ i ns.length (aN.hd hG (i:=i) zc)),(1,Ez (iy Y i (nd ns i)) (λ_ _ h=>aN.rd hG zc h)),(3,A_ 8 b16 10)]) (λ_=>[]) (λb16=>.ax b16 (iy Y i (nd ns i)) 95) (λb16=>NS (jK 4 [130,131,132] [(1,a_ 8 b16)] (NN (ak.block (lJ (λ(j,S2)=>(j<=(nd ns i).ah.length)/\(ld X ns i j S2)) (λ(j,S2)=>(nd ns i).ah.length-j) (λ(j,S2)=>[(6,vP b7),(11,vP b16),(123,.slice A (ns.length) (c)),(124,vI ↑ns.length),(125,vI ↑i),(130,.slice (Y.eA i) ((nd ns i).ah.length) ((Y.eC i))),(131,vI ↑((nd ns i).ah.length)),(132,vI ↑j)]) (λ(j,S2)=>([.ax b16 (iy Y i (nd ns i)) 95,Tp b1 A ns c]++zl5 b7 m3 t4 S2 L R)) (0,S1) [8,0,1,2,3,4,5,6,7] (⟨aio _,hE⟩) ?_)))))))))) (λag9=>XX (zR (.inr (.inr ⟨hcap,hok,S1,b7,m3,t4,L,Pe,rfl,rfl⟩)) [1,2,3,4,5,6,7]))))))
 rintro⟨j,S2⟩ ⟨hj,yq⟩
 refine SR (jK 1 [133] [] (NN (ak.seq (cP ((((j:Nat):Int):Int)<((((nd ns i).ah.length:Nat):Int):Int)) (λaha=>?_) (λaha=>XX (ak.region (jK 2 [125] [(0,wJ ((i:Int)+1) (↑(i+1)))] (NL (tJ ((i+1),S2) [1,2,3,4,5,6,7,8] (⟨zc,by have h:=yq;rw [show j=(nd ns i).ah.length by omega] at h;exact h.next⟩))))))))))
 have hj2:j<(nd ns i).ah.length:=zc
 have hi2:i<ns.length:=zc
 have ahb:=yq.get hi2
 obtain⟨hes,iV,hk2⟩:=yq.look hok hi2 hj2
 have hti:=Bk hok hi2 hj2
 have hgi:aD.get S2.aq (nd ns i).id=some ⟨(jY (nd ns i)),2⟩:=by rw [ahb];unfold vQ;rw [hk2]
 have hge:aD.get S2.aq (bS ns i j).id=some (q6 ns (bS ns i j)):=by rw [←hti.2];exact yq.get hti.1
 have y8:=hok.ids i hi2
 have hiw:(Lit.int .i64 (nd ns i).id).wf=true:=WalkArith.wf_i64 zc
 have hew:(Lit.int .i64 (bS ns i j).id).wf=true:=WalkArith.wf_i64 (by have:=hwf i hi2 j hj2;omega)
 have hld:=yq.live hok hi2
 have fP:=yq.live hok hti.1
 have dP:(af S2.O (jY (nd ns i))).kind=2:=(yq.inv.kind hld).trans hk2
 have bA:(af S2.O (q6 ns (bS ns i j)).k).kind=(q6 ns (bS ns i j)).kind:=yq.inv.kind fP
 have h3:(q6 ns (bS ns i j)).kind=1\/(q6 ns (bS ns i j)).kind=2\/(q6 ns (bS ns i j)).kind=3:=(yq.inv.ob _ fP).2.2
 have hlb:0<=(af S2.O (q6 ns (bS ns i j)).k).aS/\(af S2.O (q6 ns (bS ns i j)).k).aS<=8192:=yq.inv.lb fP
 have hel:(af S2.O (jY (nd ns i))).ah.length<=8192:=yq.inv.lZ hld
 have eG:=hnm i hi2 j hj2
 have hde:=hd i hi2
 have Nb:=yq.inv.hX
 exact KX (ak.seq (ak.block (SR (jN 4 [13] (λb17=>[(0,x_ j ((nd ns i).ah.length) (cT.hd (hG.ah i zc) (i:=j) zc)),(1,r2 (cT.rd (hG.ah i zc) (i:=j) zc (j:=0) rfl) (cT.rd (hG.ah i zc) (i:=j) zc (j:=1) rfl)),(3,A_ 9 b17 2)]) (λ_=>[]) (λb17=>.ax b17 [.string (en (nd ns i).ah j).name,vI ((en (nd ns i).ah j).id)] 149) (λb17=>NN (ak.seq (rM (List.range 18) 17 [2,3,0,9] (jR 6 [6,11,13,123,124,125,130,131,132,139,141] [(3,a_ 0 b7),(5,a_ 2 b16)] (bZ.jj 1 (d:=(some 142)) (t:=129) (K:=3) (E:=133) (b:=m3) (cnt:=S2.aq.length) (f:=(cQ (cV L S2.aq))) (x:=(.tmp 139)) (ix:=(.tmp 141)) (key:=vI ((nd ns i).id)) (z:=.nilIface) (kl:=(.int .i64 (nd ns i).id)) (q:=(some (iB L ⟨(jY (nd ns i)),2⟩))) KB KB (λ_=>KB) (λ_=>KB) iZ Tryz.underlying129 (λ_=>KB) (mP hiw) (by rw [j8,hgi];rfl) KB (jR 9 [6,11,123,124,125,130,131,132,143,145,149,151] [(2,a_ 3 b17),(6,a_ 0 b7),(8,a_ 3 b17)] (bZ.jj 1 (d:=(some 152)) (t:=129) (K:=3) (E:=133) (b:=m3) (cnt:=S2.aq.length) (f:=(cQ (cV L S2.aq))) (x:=(.tmp 149)) (ix:=(.tmp 151)) (key:=vI ((en (nd ns i).ah j).id)) (z:=.nilIface) (kl:=(.int .i64 (bS ns i j).id)) (q:=(some (iB L (q6 ns (bS ns i j))))) KB KB (λ_=>KB) (λ_=>KB) iZ Tryz.underlying129 (λ_=>KB) (mP hew) (by rw [j8,hge];rfl) KB (bZ.last rfl rfl (gE [5,7] (Tm S2.O L (jY (nd ns i)) dP (bS ns i j).name eG iV zc (q6 ns (bS ns i j)) bA h3 zc) (NL (ay.np (NX (ak.region (jC 8 [] [(3,a_ 4 b7),(4,wJ (S2.X.ah+1) (S2.X.ah+1)),(7,a_ 4 b7)] [(4,[(8,vI (S2.X.ah+1))])] (LX (ak.region (jK 2 [132] [(0,wJ ((j:Int)+1) (↑(j+1)))] (NL (ay.gA [(0,.abs (aW (eE ((sG ns S2 (nd ns i) (bS ns i j)).O) L))),(1,.abs (aW (fZ ((sG ns S2 (nd ns i) (bS ns i j)).O) L))),(4,.ax b7 [vI ((sG ns S2 (nd ns i) (bS ns i j)).X.cN),vI ((sG ns S2 (nd ns i) (bS ns i j)).X.cB),vI ((sG ns S2 (nd ns i) (bS ns i j)).X.cH),vI ((sG ns S2 (nd ns i) (bS ns i j)).X.cS),vI ((sG ns S2 (nd ns i) (bS ns i j)).X.cZ),.map (some m3),vP t4,vI ((sG ns S2 (nd ns i) (bS ns i j)).X.last),vI ((sG ns S2 (nd ns i) (bS ns i j)).X.ah),vI ((sG ns S2 (nd ns i) (bS ns i j)).X.used)] 135),(5,.abs (bM Tryz.prog 3 m3 (cQ (cV L (sG ns S2 (nd ns i) (bS ns i j)).aq)) ((sG ns S2 (nd ns i) (bS ns i j)).aq.length))),(6,.abs (fX 182 t4 (sG ns S2 (nd ns i) (bS ns i j)).X.cH (sG ns S2 (nd ns i) (bS ns i j)).aI (cV L (sG ns S2 (nd ns i) (bS ns i j)).us))),(7,.abs (aW (dS ((sG ns S2 (nd ns i) (bS ns i j)).O) L)))] (λw hS=>by rw [show dS (sG ns S2 (nd ns i) (bS ns i j)).O L=dS S2.O L from ado];exact hS) (tJ ((j+1),(sG ns S2 (nd ns i) (bS ns i j))) [2,3,4,5,6,0,7,1,8] (⟨zc,yq.step hok zc zc⟩)))))))))))))))))))))))))
end
section
open Go.RowKit Go.Maps bF aD
theorem aat {b:UInt8} (h0:¬b=0) (h1:¬b=47) (h2:¬b=46):ck ⟨#[b]⟩:=by
 refine⟨aiu _,(by show 1<=255;decide),λe=>h2 ?_,λe=>?_,λj hj=>?_⟩
 ·grind
 ·grind
 have:j=0:=by have hj:j<1:=hj;omega
 subst this
 show ¬b.toNat=0/\¬b.toNat=47
 exact⟨λe=>h0 (aiX.1 e),λe=>h1 (aiX.1 e)⟩
theorem Nc:fU 0 0:=⟨Pd,Pd,Pd,Pd,Pd⟩
def Qq (room:Int):FM:=⟨9,room,9,0,0,0,0,0⟩
theorem adr {room:Int} (h:0<=room/\room<=1099511627776):kX (Qq room):=⟨by show (0:Int)<=9/\(9:Int)<=4096;decide,h,by show (0:Int)<=9/\(9:Int)<=1024;decide,Nc⟩
section ops
variable {S:br} {c:aH} {t:Th} {d:Nat}
theorem aau {O:dZ} {us:bC Th} {h:Int} {name:ByteArray} {dX:Int} (h1:aD.get us h=some t) (h2:t.kind=2) (h3:(af O t.k).aE=false) (h4:ck name) (h5:bits BinOp.and .i64 (af O t.k).mode dX=dX):iO O us h name dX=.ok t.k:=by
 grind [iO]
theorem ads (bW:c.op=1) (h1:aD.get S.aq c.other=some t) (h2:t.kind=2) (h3:(S.us.length:Int)<S.X.cH):gj S c=({S with O:=aX S.O t.k (λo=>{o with aK:=o.aK+1}),us:=ins (aP S.us) t S.us,aI:=max S.aI ((S.us.length:Int)+1)},{c with answer:=aP S.us,code:=0}):=by
 grind [gj,zH,lD,oL]
theorem aav (bW:c.op=4) (ha:iO S.O S.us c.aG c.name 192=.ok d) (hm:jX c.mode) (hl:bK c.name (af S.O d).ah=none) (hr:Room S.X S.aq):gj S c=(fY S d c.name (cM S.X 2 c.mode),{c with answer:=0,code:=0}):=by
 grind [gj,xW,iP,mT,gi]
end ops
structure ah9 (room:Int) (S:br):Prop where
 inv:bO S
 aq:S.aq=[(1,⟨1,2⟩),(2,⟨2,1⟩)]
 us:S.us=[]
 X:S.X=⟨9,room,9,0,0,2,1,0⟩
 o1:∃l u,af S.O 1=⟨1,493,0,0,0,0,l,0,false,2,[],⟨#[]⟩,[(⟨#[102]⟩,⟨2,1⟩)],u⟩
 o2:∃u,af S.O 2=⟨2,420,0,0,0,0,1,0,false,1,[],⟨#[]⟩,[],u⟩
theorem aeP:ck ⟨#[100]⟩:=aat Pd Pd Pd
theorem aeQ:bits BinOp.and .i64 493 192=192:=KB
section chain
variable {room:Int} {S:br}
def S1 (S:br):br:={S with O:=aX S.O 1 (λo=>{o with aK:=o.aK+1}),us:=[(1,⟨1,2⟩)],aI:=max S.aI 1}
theorem ahc:af (S1 S).O 1={af S.O 1 with aK:=(af S.O 1).aK+1}:=rfl
structure WrS (room:Int) (ds:List UInt8) (S:br):Prop where
 inv:bO S
 aq:S.aq=[(1,⟨1,2⟩),(2,⟨2,1⟩)]
 us:S.us=[(1,⟨1,2⟩),(2,⟨2,1⟩)]
 X:S.X=⟨9,room,9,0,0,2,1,ds.length⟩
 o1:∃l n u,af S.O 1=⟨1,493,0,0,0,0,l,n,false,2,[],⟨#[]⟩,[(⟨#[102]⟩,⟨2,1⟩)],u⟩
 o2:∃u,af S.O 2=⟨2,420,0,0,0,0,1,1,false,1,ds,⟨#[]⟩,[],u⟩
structure UnS (ds:List UInt8) (S:br):Prop where
 inv:bO S
 aq:S.aq=[(1,⟨1,2⟩),(2,⟨2,1⟩)]
 us:S.us=[(1,⟨1,2⟩),(2,⟨2,1⟩)]
 used:S.X.used=ds.length
 o2:∃s z u,af S.O 2=⟨2,420,0,0,s,z,0,1,true,1,ds,⟨#[]⟩,[],u⟩
end chain
end
section
open Go.RowKit Go.Maps bF aD
attribute [local irreducible] ar bN ak ay
theorem Kp {β:Bs} (A:Option Addr) (c:Nat) (d:List UInt8) (hA:bp β A d) (hl:d.length<=1048576) :
 aU Tryz.prog β 25 #[.slice A d.length c] [] (λv l=>∃B cap,v=.slice B d.length cap/\l=[.abs (aF 5 1 B d.length cap (dQ d))]):=by
 exact SE Tryz.func25 Tryz.ntmps25 (λR=>SR (jK 1 [] [] (NS (jB 2 [3] (λb1=>.ax b1 [] 5) (λb1=>NS (ar.mem (λw hS=>hS.o9 (i:=1) (b:=b1) (cs:=[]) (e:=5) 1 0 KB rfl Pd) (jK 2 [5,6] [] (SH 1 51 A d.length c (dQ d) rfl (hA.src) (λA2 c3=>ar.cJ 1 rfl (by rw [aiE,List.nil_append]) (sl 7 (.slice A2 (0+d.length) (c3)) (.slice A2 (d.length) (c3)) (by rw [aiE]) (jK 1 [3] [] (NS (jK 2 [2] [] (eN ⟨A2,c3,rfl,rfl⟩ [1,0])))))) (hl:=by rw [t6,Nat.mul_one]) (h1:=qw d)))))))))
end
section
open Go.RowKit Go.Maps bF aD
theorem aU.Vh {P:Program} {β:Bs} {f:FuncId} {args:Array Value} {pre:List HP} {post:Value->List HP->Prop} {Ψ:Bs->Value->List HP->Prop} (h:aU P β f args pre post) (Ey:∀v l,post v l->∃l1 l2,l=l1++l2/\∀β',qq β l2 β'->Ψ β' v l1):bU P β f args pre Ψ:=by
 intro A w hS
 refine (h A w hS).mono ?_
 rintro e w' ⟨v,l,h1,h2,h3⟩
 obtain⟨l1,l2,rfl,hl⟩:=Ey v l h2
 have h4:aR β (([.abs A]++l1)++l2) w':=by rw [aiN];exact aR.turn h3
 obtain⟨β',g1,_,g3⟩:=h4.wY
 exact⟨β',v,l1,g1.le,h1,hl β' g1,aR.turn g3⟩
section c
variable {β:Bs} {S S2:br} {L:HL} {f m t:Nat} {c c2:aH}
theorem EF (A:Option Addr) (cp:Nat) (d:List UInt8) (hA:bp β A d) (hl:d.length<=1048576):bU Tryz.prog β 25 #[.slice A d.length cp] [] (λβ' v l=>∃B cap,v=.slice B d.length cap/\l=[]/\bp β' B d/\d.length<=cap):=
 (Kp A cp d hA hl).Vh (by
  rintro v l ⟨B,cap,rfl,rfl⟩
  refine⟨[],_,rfl,λβ' h=>⟨B,cap,rfl,rfl,h.bytes,?_⟩⟩
  obtain⟨F,h1,_⟩:=h.get 0 rfl
  exact (aF.len h1).2)
end c
theorem Qr {V:Type} {g:Int×V->Nat}:∀{a b:bC V},gJ g (a++b)=gJ g a+gJ g b
 |[],b=>(aiE _).symm
 |p::r,b=>by
   show g p+gJ g (r++b)=g p+gJ g r+gJ g b
   rw [Qr];omega
theorem Si {ns:List aL} {i j:Nat} (h:i<=j):fM ns i<=fM ns j:=by
 induction j with
 |zero=>rw [Nat.le_zero.1 h];exact aiu _
 |succ j ih=>
   grind [fM]
theorem Kq {ns:List aL} {i:Nat} (h:i<=ns.length):fM ns i<=fM ns ns.length:=Si h
section at_
variable {S:br} {i j:Nat}
theorem pY (hi:i<S.aq.length):nd (aV S) i=jU S.O (gD S i) (ju S i):=by
 grind [nd,aV,yP]
theorem aeR {t:Th} (hl:aQ S.aq t):∃i,i<S.aq.length/\ju S i=t/\gD S i=(t.k:Int):=by
 obtain⟨i,hi,e⟩:=ai5 (get_mem hl)
 have h1:=yP hi
 grind
theorem Cs (f:bJ->Nat) (s:List aL->Nat->Nat) (h0:∀ns,s ns 0=0) (hs:∀k,k<S.aq.length->s (aV S) (k+1)=s (aV S) k+f (af S.O (ju S k).k)):∀k,k<=S.aq.length->s (aV S) k=gJ (λp=>f (af S.O p.2.k)) (S.aq.take k)
 |0,_=>by rw [h0];rfl
 |k+1,hk=>by
   rw [hs k hk,Cs f s h0 hs k zc,aiQ,yP hk,Qr]
   rfl
theorem Qs:fM (aV S) S.aq.length=bytes S.aq S.O:=by
 have h:=Cs (S:=S) (λo=>o.data.length) fM (λ_=>rfl) (λk hk=>by show fM (aV S) k+_=_;rw [pY hk];rfl) S.aq.length (aiu _)
 rw [aiK] at h
 exact h
theorem FP:dI (aV S) S.aq.length=tot S.aq S.O:=by
 have h:=Cs (S:=S) (λo=>o.ah.length) dI (λ_=>rfl) (λk hk=>by
  show dI (aV S) k+_=_
  rw [pY hk]
  show _+((af S.O (ju S k).k).ah.map _).length=_
  rw [aiF]) S.aq.length (aiu _)
 rw [aiK] at h
 exact h
end at_
end
section
open Go.RowKit bF aD Go.Maps
theorem Xo {l:List Int} {j:Nat} (h:j<l.length):(bH l)[j]?=some (.int .i64 (l.getD j 0)):=by
 simp [bH,List.getD_eq_getElem?_getD,h]
theorem Kr {ks:List Int} (h:aD.dH ks) {i j:Nat} (hij:i<j) (hj:j<ks.length):ks.getD i 0<ks.getD j 0:=by
 have:=ajg.1 h i j zc hj hij
 grind
theorem Ct {ks:List Int} {j:Nat} (h:j<ks.length):ks.getD j 0∈ks:=by
 grind
section bH
variable {β:Bs} {A:Option Addr} {l:List Int} {j:Nat}
theorem x3.get (h:cA β A (bH l)) (hj:j<l.length):A=some ⟨bG A,bE A,none⟩/\Rd β ⟨bG A,bE A+j*1,none⟩ (.int .i64 (l.getD j 0)):=by
 grind [bH,cA,bG,bE,Rd]
theorem x3.hd (h:cA β A (bH l)) (hj:j<l.length):A=some ⟨bG A,bE A,none⟩:=(x3.get h hj).1
theorem x3.rd (h:cA β A (bH l)) (hj:j<l.length):Rd β ⟨bG A,bE A+j*1,none⟩ (.int .i64 (l.getD j 0)):=(x3.get h hj).2
end bH
theorem aU.Zw {P:Program} {β:Bs} {f:FuncId} {args:Array Value} {pre R:List HP} {post:Value->List HP->Prop} (h:∀β':Bs,qq β R β'->aU P β' f args pre post):aU P β f args (pre++R) (λv l=>∃l0,post v l0/\l=l0++R):=by
 intro A w hS
 have h1:=aR.turn hS
 rw [←aiN] at h1
 obtain⟨β',g1,_,g3⟩:=h1.wY
 refine (h β' g1 A w (aR.turn g3)).mono ?_
 rintro e w' ⟨v,l,h1,h2,h3⟩
 refine⟨v,l++R,h1,⟨l,h2,rfl⟩,?_⟩
 have h4:=g1.back (aR.turn h3)
 rw [aiN] at h4
 exact aR.turn h4
theorem Oa {β:Bs} (A B:Option Addr) (c c':Nat) (ns ms:List aL) (L K:eP) (hH:aN β B ms K) (hl:ns.length<=1048576) (hd:∀i,i<ns.length->(nd ns i).data.length<=140737488355328/\(nd ns i).ah.length<=1048576) {b:Bool} (hb:decide (ns=ms)=b) :
 aU Tryz.prog β 39 #[.agg #[.slice A ns.length c],.agg #[.slice B ms.length c']] (LK A c ns L) (λv l=>v=.bool b/\l=LK A c ns L):=
 (aU.Zw (pre:=[]) (λ_ g=>OV A B c c' ns ms L K g.graph (hH.le g.le) hl hd)).mono (by rintro v l ⟨l0,⟨rfl,rfl⟩,rfl⟩;exact⟨ail Value.bool hb,rfl⟩)
theorem Qt {β:Bs} (t:Nat) (most aI:Int) (L:HL) (us:bC Th) :
 aU Tryz.prog β 88 #[.pointer (some ⟨t,0,none⟩)] [.abs (fX 182 t most aI (cV L us))] (λv l=>∃A c,v=.slice A us.length c/\l=[.abs (fX 182 t most aI (cV L us)),.abs (aF 3 1 A us.length c (bH (aY us)))]):=by
 have h:=PA (β:=β) t most aI (cV L us)
 have e:aY (cV L us)=aY us:=keys_map (iB L) us
 grind [aY]
theorem aaw {S:br} (h:Inv0 S):∀i,i<(aV S).length->(nd (aV S) i).data.length<=140737488355328/\(nd (aV S) i).ah.length<=1048576:=λi hi=>by
 rw [ic] at hi
 have h1:(af S.O (ju S i).k).data.length<=bytes S.aq S.O:=tf (g:=λp:Int×Th=>(af S.O p.2.k).data.length) (get_at h hi)
 have h2:(af S.O (ju S i).k).ah.length<=tot S.aq S.O:=tf (g:=λp:Int×Th=>(af S.O p.2.k).ah.length) (get_at h hi)
 have h3:=h.used
 have h4:=h.total
 rw [pY hi]
 refine⟨by show (af S.O (ju S i).k).data.length<=_;omega,?_⟩
 show ((af S.O (ju S i).k).ah.map _).length<=_
 rw [aiF]
 omega
theorem za {β:Bs} (A:Option Addr) (c:Nat) (ns:List aL) (L:eP) (hG:aN β A ns L) (hl:ns.length<=1048576) (hd:∀i,i<ns.length->(nd ns i).data.length<=1048576/\(nd ns i).ah.length<=1048576) :
 aU Tryz.prog β 19 #[.agg #[.slice A ns.length c]] [] (λv l=>∃B cap,v=.agg #[.slice B ns.length cap]/\l=[.abs (kT β (λβ'=>∃K,aN β' B ns K))]):=
 (bU.Ke (ι:=Option Addr×Nat) (vv:=λx=>.agg #[.slice x.1 ns.length x.2]) (ll:=λ_=>[]) (Φ:=λx β'=>∃K,aN β' x.1 ns K)
  ((OU A c ns L hG hl hd).mono (by rintro β' v l _ ⟨B,cap,K,rfl,rfl,h⟩;exact⟨(B,cap),rfl,rfl,K,h⟩))).mono (by rintro v l ⟨⟨B,cap⟩,rfl,rfl⟩;exact⟨B,cap,rfl,rfl⟩)
end
section
open Go.RowKit Go.Maps bF aD
attribute [local irreducible] ar bN ak ay
theorem Xp {β:Bs} (S:br) (L:HL) (f m t:Nat):aU Tryz.prog β 59 #[vP f] [pF f m t S.X,pT t S.X.cH S.aI L S.us] (λv l=>∃A c,v=.slice A S.us.length c/\l=[pF f m t S.X,pT t S.X.cH S.aI L S.us,.abs (aF 3 1 A S.us.length c (bH (aY S.us)))]):=by
 refine SE Tryz.func59 Tryz.ntmps59 (λR=>SR (jK 1 [] [] (NS (jK 4 [6] [(3,a_ 0 f)] (gL [1] (Qt t S.X.cH S.aI L S.us) ?_)))))
 rintro _ _ ⟨A,c,rfl,rfl⟩
 exact jK 1 [2] [] (eN ⟨A,c,rfl,rfl⟩ [2,0,1,3])
theorem aax {β:Bs} (S:br) (L:HL) (f m t:Nat):aU Tryz.prog β 60 #[vP f] [pF f m t S.X,pT t S.X.cH S.aI L S.us] (λv l=>v=vI S.aI/\l=[pF f m t S.X,pT t S.X.cH S.aI L S.us]):=by
 exact SE Tryz.func60 Tryz.ntmps60 (λR=>SR (jK 1 [] [] (NS (jK 4 [6] [(3,a_ 0 f)] (gE [1] (WC t S.X.cH S.aI (cV L S.us)) (jK 1 [2] [] (eN ⟨rfl,rfl⟩ [1,0,2])))))))
theorem Xq {β:Bs} (most:Int) (h:0<=most/\most<=1024):aU Tryz.prog β 53 #[vI most] [] (λv l=>v=.agg #[vI most,vI 0,.slice none 0 0,.slice none 0 0]/\l=[]):=by
 exact SE Tryz.func53 Tryz.ntmps53 (λR=>SR (jB 1 [2] (λb1=>.ax b1 [vI 0,vI 0,.slice none (0) (0),.slice none (0) (0)] 43) (λb1=>NZ (jK 2 [4] [] (NN (cP ((most:Int)<(0:Int)) (λh4=>ain h4 (by omega)) (λh4=>KX (SQ (jK 2 [6] [] (NN (cP ((most:Int)>(1024:Int)) (λh6=>ain h6 (by omega)) (λh6=>KX (SR (jC 3 [] [(2,A_ 1 b1 4)] [(1,[(0,vI (most))])] (eS [A_ 1 b1 4] ⟨rfl,rfl⟩)))))))))))))))
end
section
open Go.RowKit bF aD Go.Maps
abbrev Ee (X:FM) (ns:List aL):={S:br // ld X ns ns.length 0 S}
theorem IK (us:bC Th):us.length=(aY us).length:=(aiF ..).symm
theorem aay {S:br} (h:Inv0 S):(aV S).length<=1048576:=by
 rw [ic]
 have:=h.len
 omega
end
section
open Go.RowKit Go.Maps bF aD
section m
variable {β:Bs} {ns:List aL} {Y:eP} {X:FM} {aj:Int}
theorem aaz (hcap:kX X) (hok:cr ns) (A:Option Addr) (c:Nat) (hG:aN β A ns Y) (hB:j6 ns 1048576) :
 aU Tryz.prog β 43 #[.agg #[.slice A ns.length c],.agg #[.int .i64 X.cN,.int .i64 X.cB,.int .i64 X.cH,.int .i64 X.cS,.int .i64 X.cZ]] [] (λv l=>∃(S:Ee X ns) (f m t:Nat) (L:HL),v=.tuple #[.pointer (some ⟨f,0,none⟩),.int .i64 0]/\l=pA f m t L S.1):=
 (Tq A c ns Y hG (wi hB) (Gu hB) (JR hB) (JS hB) X).mono (by
  rintro v l (⟨h,_⟩|⟨_,h,_⟩|⟨_,_,h⟩)
  ·exact ain hcap h
  ·exact ain hok h
  obtain⟨S,f,m,t,L,h1,h2,h3⟩:=h
  exact⟨⟨S,h1⟩,f,m,t,L,h2,h3⟩)
theorem aaA (FQ:¬(kX X/\cr ns)) (A:Option Addr) (c:Nat) (hG:aN β A ns Y) (hB:j6 ns 1048576) :
 aU Tryz.prog β 43 #[.agg #[.slice A ns.length c],.agg #[.int .i64 X.cN,.int .i64 X.cB,.int .i64 X.cH,.int .i64 X.cS,.int .i64 X.cZ]] [] (λv l=>v=.tuple #[.pointer none,.int .i64 (fw X ns aj)]/\l=[]):=
 (Tq A c ns Y hG (wi hB) (Gu hB) (JR hB) (JS hB) X).mono (by
  rintro v l (⟨h,h1,h2⟩|⟨h,h',h1,h2⟩|⟨h1,h2,_⟩)
  ·exact⟨by rw [Eb h];exact h1,h2⟩
  ·exact⟨by rw [Bn h h'];exact h1,h2⟩
  exact ain ⟨h1,h2⟩ FQ)
theorem Ef (FQ:¬(kX X/\cr ns)):fw X ns aj≠0:=λh=>FQ (FB h)
theorem Xr {i:Nat} (hi:Bl ns aj i) (A:Option Addr) (c:Nat) (hG:aN β A ns Y) (hB:j6 ns 1048576) (b:Nat) :
 aU Tryz.prog β 44 #[.slice A ns.length c,.func (.func 45) #[] #[.pointer (some ⟨b,0,none⟩)]] [.ax b [.int .i64 aj] 3] (λv l=>v=.int .i64 (i:Int)/\l=[.ax b [.int .i64 aj] 3]):=
 (P8 A c ns Y hG (wi hB) b aj).mono (by
  rintro v l (⟨j,hj,h1,h2⟩|⟨h,_⟩)
  ·have e:i=j:=by
    obtain⟨a1,a2,a3⟩:=hi
    obtain⟨b1,b2,b3⟩:=hj
    rcases ai9 i j with h|h|h
    ·exact ain a2 (b3 i h)
    ·exact h
    exact ain b2 (a3 j h)
   subst e
   exact⟨h1,h2⟩
  exact ain hi.2.1 (h i hi.1))
theorem aaB (hi:∀q,q<ns.length->(nd ns q).id≠aj) (A:Option Addr) (c:Nat) (hG:aN β A ns Y) (hB:j6 ns 1048576) (b:Nat) :
 aU Tryz.prog β 44 #[.slice A ns.length c,.func (.func 45) #[] #[.pointer (some ⟨b,0,none⟩)]] [.ax b [.int .i64 aj] 3] (λv l=>v=.int .i64 (-1)/\l=[.ax b [.int .i64 aj] 3]):=
 (P8 A c ns Y hG (wi hB) b aj).mono (by
  rintro v l (⟨j,hj,_⟩|⟨_,h1,h2⟩)
  ·exact ain hj.2.1 (hi j hj.1)
  exact⟨h1,h2⟩)
end m
end
section
open Go.RowKit Go.Maps bF aD
attribute [local irreducible] ar bN ak ay bZ
noncomputable abbrev zE1 (w)(f:Nat) (o) (aj):=(.ax w [.iface 37 (vP w),vP f,.iface 108 (vP o),vI (aj),.slice none (0) (0)] 79:HP)
noncomputable abbrev zE2 (o)(q:Nat) (f:Nat) (aj) (am):=(.ax o [.iface 109 (vP q),vP f,vI (aj),.map (some am),vI 0] 113:HP)
noncomputable abbrev Nd (b2:Nat) (aj):=(.ax b2 [vI (aj)] 3:HP)
noncomputable abbrev Nf (b1:Nat) (A:Option Addr) (ns:List aL) (c):=(.ax b1 [.slice A (ns.length) (c)] 24:HP)
noncomputable abbrev Ng (b3:Nat) (X:FM):=(.ax b3 [vI (X.cN),vI (X.cB),vI (X.cH),vI (X.cS),vI (X.cZ)] 28:HP)
noncomputable abbrev Nh (b4:Nat) (Af) (fs:List cL) (cf) (Aa) (xs:List dh) (ca):=(.ax b4 [.slice Af (fs.length) (cf),.slice Aa (xs.length) (ca)] 32:HP)
noncomputable abbrev Xs (m5:Nat) (Z) (xs:List dh) (i:Nat) (an):=(.abs (bM Tryz.prog 3 m5 (lK Z (xs.take i)) an):HP)
noncomputable abbrev Tr (b6:Nat) (xs) (i:Nat):=(.ax b6 [vI ((act xs i).at_),vI ((act xs i).op),.string (act xs i).path,.string (act xs i).to,.string (act xs i).text] 68:HP)
theorem aaC {β:Bs} (A:Option Addr) (c:Nat) (ns:List aL) (Y:eP) (hG:aN β A ns Y) (hB:j6 ns 1048576) (X:FM) (aj:Int) (Af:Option Addr) (cf:Nat) (fs:List cL) (hF:cA β Af (cI jg fs)) (o5:lg fs 2097152) (Aa:Option Addr) (ca:Nat) (xs:List dh) (hA:cA β Aa (cI kA xs)) (dR:jq xs 1048576) :
 bU Tryz.prog β 18 #[.agg #[.slice A (ns.length) (c)],vI (aj),.agg #[vI (X.cN),vI (X.cB),vI (X.cH),vI (X.cS),vI (X.cZ)],.agg #[.slice Af (fs.length) (cf),.slice Aa (xs.length) (ca)]] [] (λβ' v l=>(fw X ns aj≠0/\v=.tuple #[.pointer none,vI (fw X ns aj)]/\l=[])\/(fw X ns aj=0/\∃(N:Ee X ns) (L:HL) (w o q f m t am an km kn:Nat) (Z:AZ),v=.tuple #[vP w,vI 0]/\l=[zE1 w f o aj,zE2 o q f aj am,.ax q [.iface 76 (vP f),.map (some km),vI 0] 111,.abs (bM Tryz.prog 3 am (lK Z xs) an),.abs (bM Tryz.prog 3 km (iz fs) kn),.abs (aF 53 13 none 0 0 ([])),pF f m t N.1.X,pI m L N.1.aq,pT t N.1.X.cH N.1.aI L N.1.us,pO N.1.O L,pD N.1.O L,pE N.1.O L]/\nH β' Z xs)):=by
 have hfl:=o5.len
 have hxl:=dR.len
 refine mM Tryz.func18 Tryz.ntmps18 (λav R=>SR (jB 1 [4] (λb1=>.ax b1 [.slice A (ns.length) (c)] 24) (λb1=>jB 1 [5] (λb2=>.ax b2 [vI (aj)] 3) (λb2=>jB 1 [6] (λb3=>.ax b3 [vI (X.cN),vI (X.cB),vI (X.cH),vI (X.cS),vI (X.cZ)] 28) (λb3=>jB 3 [7] (λb4=>.ax b4 [.slice Af (fs.length) (cf),.slice Aa (xs.length) (ca)] 32) (λb4=>NN (ak.seq ?_)))))))
 by_cases l6:kX X/\cr ns
 ·refine ak.region (jK 2 [21,22] [(0,a_ 1 b1),(1,A_ 3 b3 5)] (gL [] (aaz (β:=β) l6.1 l6.2 A c hG hB) ?_))
  rintro _ _ ⟨N,f,m,t,L,rfl,rfl⟩
  refine jK 5 [10,11] [] (NZ (jK 2 [27] [] (NF (KX (ak.seq ?_)))))
  rcases P7 ns aj with ⟨r,hr⟩|iV
  ·have hr1:r<ns.length:=hr.1
   refine ak.region (jK 3 [30,31] [(1,a_ 7 b1)] (gE [8] (Xr (β:=β) hr A c hG hB b2) (jK 1 [12] [] (NZ (jK 2 [34] [(1,wF (((r:Int):Int)<(0:Int)))] (NF (KX (SQ (jK 7 [41] [(1,a_ 8 b1),(3,x_ r ns.length (aN.hd hG (i:=r) zc)),(5,r_ (aN.rd hG (i:=r) zc (j:=1) rfl))] (NN (cN (((nd ns r).kind:Int)=(2:Int)) (λBr=>SR (jK 2 [8,9] [] (eO (v:=(.tuple #[.pointer none,vI 173])) [] av (.inl ⟨by rw [zM l6.1 l6.2 hr Br];decide,by rw [zM l6.1 l6.2 hr Br],rfl⟩) [7]))) (λBr=>KX (SR (ar.tX (d:=(some 42)) (t:=106) (λ_=>KB) Tryz.prog rfl 3 (λm5=>jK 1 [13] [] (NZ (ar.cJ 11 (p':=.abs (bM Tryz.prog 3 m5 (lK AZ.none (xs.take 0)) 0)) rfl (ail (λf=>HP.abs (bM Tryz.prog 3 _ f 0)) aad.symm) (ar.mem (eX:=[Nd b2 aj,pF f m t N.1.X,pI m L N.1.aq,pT t N.1.X.cH N.1.aI L N.1.us,pO N.1.O L,pD N.1.O L,pE N.1.O L,.abs R,Nf b1 A ns c,Ng b3 X,Nh b4 Af fs cf Aa xs ca,.abs (bM Tryz.prog 3 m5 (lK AZ.none (xs.take 0)) 0),.abs (aW (uy AZ.none (xs.take 0)))]) (λw hS=>hS.aeD) (jK 4 [44,45,46] [(1,a_ 10 b4)] (NN (ak.block (lJ (ι:=Nat×AZ×Nat) (λ(i,Z,an)=>(i<=xs.length)/\(an<=i)) (λ(i,Z,an)=>xs.length-i) (λ(i,Z,an)=>[(5,vP b2),(7,vP b4),(10,vP f),(13,.map (some m5)),(44,.slice Aa (xs.length) (ca)),(45,vI ↑xs.length),(46,vI ↑i)]) (λ(i,Z,an)=>[Nd b2 aj,pF f m t N.1.X,pI m L N.1.aq,pT t N.1.X.cH N.1.aI L N.1.us,pO N.1.O L,pD N.1.O L,pE N.1.O L,Nf b1 A ns c,Ng b3 X,Nh b4 Af fs cf Aa xs ca,Xs m5 Z xs i an,.abs (aW (uy Z (xs.take i))),.abs R]) (0,AZ.none,0) [0,1,2,3,4,5,6,8,9,10,11,12,7] (⟨aio _,aiu _⟩) ?_))))))))))))))))))))))
   rintro⟨i,Z,an⟩ ⟨hi,han⟩
   refine SR (jK 1 [47] [] (NN (ak.seq (cP ((((i:Nat):Int):Int)<(((xs.length:Nat):Int):Int)) (λSN=>?_) (λSN=>?_)))))
   ·refine KX (ak.seq (ak.block (SR (jN 4 [15] (λb6=>[(0,x_ i xs.length (Oq hA (i:=i) zc)),(1,p_ ⟨[.old (.int .i64 ((act xs i).at_)),.old (.int .i64 ((act xs i).op)),.old (.string (act xs i).path),.old (.string (act xs i).to),.old (.string (act xs i).text)],none,none,none,none⟩ [(Rd β ⟨(bG Aa),bE Aa+i*5+4,none⟩ (.string (act xs i).text)),(Rd β ⟨(bG Aa),bE Aa+i*5+3,none⟩ (.string (act xs i).to)),(Rd β ⟨(bG Aa),bE Aa+i*5+2,none⟩ (.string (act xs i).path)),(Rd β ⟨(bG Aa),bE Aa+i*5+1,none⟩ (vI ((act xs i).op))),(Rd β ⟨(bG Aa),bE Aa+i*5,none⟩ (vI ((act xs i).at_)))] ⟨rz hA (i:=i) zc (j:=4) rfl,rz hA (i:=i) zc (j:=3) rfl,rz hA (i:=i) zc (j:=2) rfl,rz hA (i:=i) zc (j:=1) rfl,rz hA (i:=i) zc (j:=0) rfl,trivial⟩),(3,A_ 13 b6 5)]) (λ_=>[]) (λb6=>.ax b6 [vI ((act xs i).at_),vI ((act xs i).op),.string (act xs i).path,.string (act xs i).to,.string (act xs i).text] 68) (λb6=>NN (rM (List.range 11) 8 [10,13] (jR 6 [5,7,10,13,15,44,45,46,50,52,53,55] [(2,a_ 1 b6),(5,a_ 1 b6)] (bZ.jj 0 (d:=(some 56)) (t:=106) (K:=3) (E:=30) (b:=m5) (cnt:=an) (f:=(lK Z (xs.take i))) (x:=(.tmp 53)) (ix:=(.tmp 55)) (key:=vI ((act xs i).at_)) (z:=.slice none (0) (0)) (kl:=(Lit.int IntKind.i64 (act xs i).at_)) (q:=(lK Z (xs.take i) (Lit.int IntKind.i64 (act xs i).at_))) KB KB (λ_=>KB) (λ_=>KB) iZ Tryz.underlying106 (λ_=>KB) (mP (dR.at zc).aw) (rfl) (by rw [IW];rfl) (jR 1 [5,7,10,13,44,45,46,50,52,56,57] [(0,A_ 1 b6 5)] (mN [10,13] (λb7=>[(58,.slice (some ⟨b7,0,none⟩) (1) (1))]) (λ_=>[]) (λb7=>.ax b7 [vI ((act xs i).at_),vI ((act xs i).op),.string (act xs i).path,.string (act xs i).to,.string (act xs i).text] 68) (λb7=>bZ.cut (ι:=(Option Addr)×Nat) (bL:=λ((A8,c9):(Option Addr)×Nat)=>[(5,vP b2),(7,vP b4),(10,vP f),(13,.map (some m5)),(44,.slice Aa (xs.length) (ca)),(45,vI ↑xs.length),(46,vI ↑i),(50,.map (some m5)),(52,vI ((act xs i).at_)),(59,.slice A8 (((dN (xs.take i) (act xs i).at_).length+1)) (c9))]) (cR:=λ((A8,c9):(Option Addr)×Nat)=>[Nd b2 aj,pF f m t N.1.X,pI m L N.1.aq,pT t N.1.X.cH N.1.aI L N.1.us,pO N.1.O L,pD N.1.O L,pE N.1.O L,Nf b1 A ns c,Ng b3 X,Nh b4 Af fs cf Aa xs ca,Xs m5 Z xs i an,.abs (aW (ol (uy Z (xs.take i)) (zz (act xs i).at_) d9.none)),.abs R,Tr b6 xs i,Tr b7 xs i,.abs (aF 68 5 A8 ((dN (xs.take i) (act xs i).at_).length+1) c9 (cI kA (dN (xs.take i) (act xs i).at_)++kA (act xs i)))]) [10,13] rfl rfl ?_ rfl (λ_=>KB) ?_)))))))))))
    ·refine sl 56 (((lK Z (xs.take i) (Lit.int IntKind.i64 (act xs i).at_)).getD (.slice none 0 0))) (.slice (aA Z (xs.take i) (act xs i).at_) ((dN (xs.take i) (act xs i).at_).length) ((aC Z (xs.take i) (act xs i).at_))) (IW) (ar.mem (eX:=[Nd b2 aj,pF f m t N.1.X,pI m L N.1.aq,pT t N.1.X.cH N.1.aI L N.1.us,pO N.1.O L,pD N.1.O L,pE N.1.O L,Nf b1 A ns c,Ng b3 X,Nh b4 Af fs cf Aa xs ca,Xs m5 Z xs i an,.abs (aW (ol (uy Z (xs.take i)) (zz (act xs i).at_) d9.none)),.abs R,Tr b6 xs i,Tr b7 xs i,.abs (aF 68 5 (aA Z (xs.take i) (act xs i).at_) ((dN (xs.take i) (act xs i).at_).length) (aC Z (xs.take i) (act xs i).at_) (cI kA (dN (xs.take i) (act xs i).at_)))]) (λw hS=>hS.adm (i:=11) rfl (act xs i).at_) ?_)
     have hay:(dN (xs.take i) (act xs i).at_).length<=1048576:=air (J9 _) (by rw [aiH];omega)
     exact ny 15 30 (some ⟨b7,0,none⟩) 1 1 [vI ((act xs i).at_),vI ((act xs i).op),.string (act xs i).path,.string (act xs i).to,.string (act xs i).text] rfl (fQ (j:=14) rfl) (λA8 c9=>ar.cJ 15 (p':=.abs (aF 68 5 A8 ((dN (xs.take i) (act xs i).at_).length+1) c9 (cI kA (dN (xs.take i) (act xs i).at_)++kA (act xs i)))) rfl (rfl) (sl 59 (.slice A8 (((dN (xs.take i) (act xs i).at_).length)+1) (c9)) (.slice A8 (((dN (xs.take i) (act xs i).at_).length+1)) (c9)) (rfl) (NL (MD (A8,c9) [5,7,10,13,44,45,46,50,52,59] [0,1,2,3,4,5,6,7,8,9,10,11,12,13,14,15]))))
    rintro⟨A8,c9⟩
    exact bZ.last rfl rfl (ar.mem (eX:=[.abs (aW (uy (Z.put (act xs i).at_ A8 c9) (xs.take (i+1)))),Nd b2 aj,pF f m t N.1.X,pI m L N.1.aq,pT t N.1.X.cH N.1.aI L N.1.us,pO N.1.O L,pD N.1.O L,pE N.1.O L,Nf b1 A ns c,Ng b3 X,Nh b4 Af fs cf Aa xs ca,Xs m5 Z xs i an,.abs R,Tr b6 xs i,Tr b7 xs i]) (λw hS=>by rw [D8 zc];exact hS.aeE (i:=11) (j:=15) (aq:=[0,1,2,3,4,5,6,7,8,9,10,12,13,14]) rfl rfl KB rfl) (ar.rF 11 (d:=none) (t:=106) (K:=3) (E:=30) (b:=m5) (n:=an) (f:=(lK Z (xs.take i))) (x:=(.tmp 50)) (ix:=(.tmp 52)) (y:=(.tmp 59)) (key:=vI ((act xs i).at_)) (u:=.slice A8 (((dN (xs.take i) (act xs i).at_).length+1)) (c9)) (kl:=(Lit.int IntKind.i64 (act xs i).at_)) (n':=(if (lK Z (xs.take i) (Lit.int IntKind.i64 (act xs i).at_)).isSome then an else an+1)) (f':=(lK (Z.put (act xs i).at_ A8 c9) (xs.take (i+1)))) (λ_=>KB) KB (λ_=>KB) (λ_=>KB) (λ_=>KB) iZ Tryz.underlying106 (by unfold maxLen;omega) (mP (dR.at zc).aw) (rfl) (by rw [D8 zc];exact aae) (NL (ay.np (BX (ak.region (jK 2 [46] [(0,wJ ((i:Int)+1) (↑(i+1)))] (NL (tJ ((i+1),(Z.put (act xs i).at_ A8 c9),(if (lK Z (xs.take i) (Lit.int IntKind.i64 (act xs i).at_)).isSome then an else an+1)) [1,2,3,4,5,6,7,8,9,10,11,0,12] (⟨zc,by split<;>omega⟩))))))))))
   refine XX (SR (ar.nw (Φ:=λβ'=>nH β' Z xs) 11 [0,1,2,3,4,5,6,7,8,9,10,12] (eX:=[Nd b2 aj,pF f m t N.1.X,pI m L N.1.aq,pT t N.1.X.cH N.1.aI L N.1.us,pO N.1.O L,pD N.1.O L,pE N.1.O L,Nf b1 A ns c,Ng b3 X,Nh b4 Af fs cf Aa xs ca,Xs m5 Z xs i an,.abs R]) rfl rfl KB (λF w h β' h1 h2=>nH.of (by rw [show xs.take i=xs by rw [show i=xs.length by omega,aiK]] at h;exact h) h1 h2) (λFR ji hZ=>?_)))
   replace hF:=hF.le ji
   replace av:=av.trans ji
   refine ar.cJ 10 (p:=.abs (bM Tryz.prog 3 m5 (lK Z (xs.take i)) an)) (p':=.abs (bM Tryz.prog 3 m5 (lK Z xs) an)) KB (by rw [show xs.take i=xs by rw [show i=xs.length by omega,aiK]]) (ar.tX (d:=(some 61)) (t:=107) (λ_=>KB) Tryz.prog rfl 3 (λm11=>jK 1 [16] [] (NZ (ar.cJ 12 (p':=.abs (bM Tryz.prog 3 m11 (iz (fs.take 0)) 0)) rfl (ail (λf=>HP.abs (bM Tryz.prog 3 _ f 0)) W6.symm) (jK 4 [63,64,65] [(1,a_ 9 b4)] (NN (ak.block (lJ (ι:=Nat×Nat) (λ(j,kn)=>(j<=fs.length)/\(kn<=j)) (λ(j,kn)=>fs.length-j) (λ(j,kn)=>[(5,vP b2),(10,vP f),(13,.map (some m5)),(16,.map (some m11)),(63,.slice Af (fs.length) (cf)),(64,vI ↑fs.length),(65,vI ↑j)]) (λ(j,kn)=>[Nd b2 aj,pF f m t N.1.X,pI m L N.1.aq,pT t N.1.X.cH N.1.aI L N.1.us,pO N.1.O L,pD N.1.O L,pE N.1.O L,Nf b1 A ns c,Ng b3 X,Nh b4 Af fs cf Aa xs ca,.abs (bM Tryz.prog 3 m5 (lK Z xs) an),.abs (bM Tryz.prog 3 m11 (iz (fs.take j)) kn),.abs R]) (0,0) [0,1,2,3,4,5,6,7,8,9,10,12,11] (⟨aio _,aiu _⟩) ?_))))))))
   rintro⟨j,kn⟩ ⟨hj,hkn⟩
   refine SR (jK 1 [66] [] (NN (ak.seq (cP ((((j:Nat):Int):Int)<(((fs.length:Nat):Int):Int)) (λmE=>KX (ak.seq (ak.block (SR (jN 4 [18] (λb12=>[(0,x_ j fs.length (ab7 hF (i:=j) zc)),(1,r2 (Ot hF (i:=j) zc (j:=0) rfl) (Ot hF (i:=j) zc (j:=1) rfl)),(3,A_ 13 b12 2)]) (λ_=>[]) (λb12=>.ax b12 [vI ((pX fs j).at_),vI ((pX fs j).kind)] 66) (λb12=>NS (jK 4 [72] [(1,a_ 13 b12)] (sP 72 (((pX fs j).kind:Int)>=(1:Int)) (λh72=>jK 5 [77] [(1,a_ 13 b12)] (sP 77 (((pX fs j).kind:Int)<=(3:Int)) (λh77=>jK 3 [78,80] [(2,a_ 13 b12)] (ar.jj 11 (d:=(some 81)) (t:=107) (K:=3) (E:=3) (b:=m11) (n:=kn) (f:=(iz (fs.take j))) (x:=(.tmp 78)) (ix:=(.tmp 80)) (key:=vI ((pX fs j).at_)) (z:=.int .i64 0) (kl:=(Lit.int IntKind.i64 (pX fs j).at_)) (r:=(iz (fs.take j) (Lit.int IntKind.i64 (pX fs j).at_))) (λ_=>KB) KB (λ_=>KB) (λ_=>KB) iZ Tryz.underlying107 (λ_=>KB) (mP (o5.at zc)) (rfl) (sl 81 (((iz (fs.take j) (Lit.int IntKind.i64 (pX fs j).at_)).getD (.int .i64 0))) (.int .i64 ((iQ (fs.take j) (pX fs j).at_))) (MW) (jK 2 [83] [] (NN (cP (((iQ (fs.take j) (pX fs j).at_):Int)=(0:Int)) (λh83=>ak.region (jK 5 [84,86,88] [(2,a_ 13 b12),(4,a_ 13 b12)] (ar.rF 11 (d:=none) (t:=107) (K:=3) (E:=3) (b:=m11) (n:=kn) (f:=(iz (fs.take j))) (x:=(.tmp 84)) (ix:=(.tmp 86)) (y:=(.tmp 88)) (key:=vI ((pX fs j).at_)) (u:=.int .i64 ((pX fs j).kind)) (kl:=(Lit.int IntKind.i64 (pX fs j).at_)) (n':=(if (iz (fs.take j) (Lit.int IntKind.i64 (pX fs j).at_)).isSome then kn else kn+1)) (f':=(iz (fs.take (j+1)))) (λ_=>KB) KB (λ_=>KB) (λ_=>KB) (λ_=>KB) iZ Tryz.underlying107 (by unfold maxLen;omega) (mP (o5.at zc)) (rfl) (by rw [xw zc];exact W7 ⟨zc,zc⟩ zc) (LX (ak.region (jK 2 [65] [(0,wJ ((j:Int)+1) (↑(j+1)))] (NL (tJ ((j+1),(if (iz (fs.take j) (Lit.int IntKind.i64 (pX fs j).at_)).isSome then kn else kn+1)) [0,1,2,3,4,5,6,7,8,9,10,11,12] (⟨zc,by split<;>omega⟩))))))))) (λh83=>KX (ak.region (ar.cJ 11 (p:=.abs (bM Tryz.prog 3 m11 (iz (fs.take j)) kn)) (p':=.abs (bM Tryz.prog 3 m11 (iz (fs.take (j+1))) kn)) KB (by rw [xw zc,D7];unfold FK;omega) (jK 2 [65] [(0,wJ ((j:Int)+1) (↑(j+1)))] (NL (tJ ((j+1),kn) [0,1,2,3,4,5,6,7,8,9,10,11,12] (⟨zc,zc⟩))))))))))))) (λh77=>jK 4 [81] [] (jK 2 [83] [] (NF (KX (ak.region (ar.cJ 11 (p:=.abs (bM Tryz.prog 3 m11 (iz (fs.take j)) kn)) (p':=.abs (bM Tryz.prog 3 m11 (iz (fs.take (j+1))) kn)) KB (by rw [xw zc,D7];unfold FK;omega) (jK 2 [65] [(0,wJ ((j:Int)+1) (↑(j+1)))] (NL (tJ ((j+1),kn) [0,1,2,3,4,5,6,7,8,9,10,11,12] (⟨zc,zc⟩)))))))))))) (λh72=>jK 9 [77,81] [] (jK 2 [83] [] (NF (KX (ak.region (ar.cJ 11 (p:=.abs (bM Tryz.prog 3 m11 (iz (fs.take j)) kn)) (p':=.abs (bM Tryz.prog 3 m11 (iz (fs.take (j+1))) kn)) KB (by rw [xw zc,D7];unfold FK;omega) (jK 2 [65] [(0,wJ ((j:Int)+1) (↑(j+1)))] (NL (tJ ((j+1),kn) [0,1,2,3,4,5,6,7,8,9,10,11,12] (⟨zc,zc⟩)))))))))))))))))) (λmE=>?_)))))
   exact XX (SR (ar.cJ 11 (p:=.abs (bM Tryz.prog 3 m11 (iz (fs.take j)) kn)) (p':=.abs (bM Tryz.prog 3 m11 (iz fs) kn)) KB (by rw [show fs.take j=fs by rw [show j=fs.length by omega,aiK]]) (jN 5 [19] (λb13=>[(1,a_ 0 b2)]) (λ_=>[]) (λb13=>.ax b13 [.nilIface,vP f,.nilIface,vI (aj),.slice none (0) (0)] 79) (λb13=>NS (jN 11 [94,104] (λb14=>[(8,a_ 0 b2)]) (λ_=>[]) (λb14=>.ax b14 [.iface 76 (vP f),.map (some m11),vI 0] 111) (λb14=>jN 5 [] (λb15=>[(4,a_ 13 b13)]) (λb15=>[(13,[(2,.iface 108 (vP b15))])]) (λb15=>.ax b15 [.iface 109 (vP b14),vP f,vI (aj),.map (some m5),vI 0] 113) (λb15=>NS (jK 3 [109,111] [] (gE [] (aeI b13) (jC 3 [] [(2,a_ 13 b13)] [(13,[(0,.iface 37 (vP b13))])] (NS (jK 3 [8,9] [] (NN (ak.ret (ay.mem (eX:=[Nd b2 aj,pF f m t N.1.X,pI m L N.1.aq,pT t N.1.X.cH N.1.aI L N.1.us,pO N.1.O L,pD N.1.O L,pE N.1.O L,Nf b1 A ns c,Ng b3 X,Nh b4 Af fs cf Aa xs ca,.abs (bM Tryz.prog 3 m5 (lK Z xs) an),.abs (bM Tryz.prog 3 m11 (iz fs) kn),.abs R,zE1 b13 f b15 aj,.ax b14 [.iface 76 (vP f),.map (some m11),vI 0] 111,zE2 b15 b14 f aj m5,.abs (aF 53 13 none 0 0 ([]))]) (λw hS=>hS.mQ (e:=53) (size:=13)) (rB (.tuple #[vP b13,vI 0]) [] [13,15,14,10,11,16,1,2,3,4,5,6,12] av (.inr ⟨Ec l6.1 l6.2 hr Br,N,L,b13,b15,b14,f,m,t,m5,an,m11,kn,Z,rfl,rfl,hZ⟩)))))))))))))))))
  exact ak.region (jK 3 [30,31] [(1,a_ 7 b1)] (gE [8] (aaB (β:=β) iV A c hG hB b2) (jK 1 [12] [] (NZ (jK 2 [34] [] (NT (SR (jK 2 [8,9] [] (eO (v:=(.tuple #[.pointer none,vI 141])) [] av (.inl ⟨by rw [xZ l6.1 l6.2 iV];decide,by rw [xZ l6.1 l6.2 iV],rfl⟩) [7])))))))))
 exact ak.region (jK 2 [21,22] [(0,a_ 1 b1),(1,A_ 3 b3 5)] (gE [] (aaA (β:=β) (aj:=aj) l6 A c hG hB) (jK 5 [10,11] [] (NZ (jK 2 [27] [] (NN (cN (((fw X ns aj):Int)=(0:Int)) (λyt=>SR (jK 3 [8,9] [] (eO (v:=(.tuple #[.pointer none,vI ((fw X ns aj))])) [] av (.inl ⟨Ef l6,rfl,rfl⟩)))) (λyt=>ain yt (Ef l6)))))))))
end
section
open Go.RowKit Go.Maps bF aD
attribute [local irreducible] ar bN ak ay
noncomputable abbrev zF1 (w)(f:Nat) (o) (aj) (tA) (tr:List aH) (tC):=(.ax w [.iface 37 (vP w),vP f,.iface 108 (vP o),vI (aj),.slice tA (tr.length) (tC)] 79:HP)
noncomputable abbrev zF2 (o)(q:Nat) (f:Nat) (aj) (am) (tr:List aH):=(.ax o [.iface 109 (vP q),vP f,vI (aj),.map (some am),vI (((tr.length:Nat):Int))] 113:HP)
noncomputable abbrev zF3 (q:Nat) (f:Nat) (km) (tr:List aH):=(.ax q [.iface 76 (vP f),.map (some km),vI (((tr.length:Nat):Int))] 111:HP)
noncomputable abbrev zF4 (am)(Z)(xs)(an):=(.abs (bM Tryz.prog 3 am (lK Z xs) an):HP)
noncomputable abbrev zF5 (km)(fs)(kn):=(.abs (bM Tryz.prog 3 km (iz fs) kn):HP)
noncomputable abbrev Ts (tA)(tr:List aH) (tC):=(.abs (aF 53 13 tA tr.length tC (cI aO tr)):HP)
noncomputable abbrev zF7 (t)(S:br) (L:HL):=(pT t S.X.cH S.aI L S.us:HP)
noncomputable abbrev Hu (w)(f:Nat) (o) (aj) (tA) (tr) (tC) (q:Nat) (am) (km) (Z) (xs) (an) (fs) (kn) (m:Nat) (t) (S:br) (L:HL):=([zF1 w f o aj tA tr tC,zF2 o q f aj am tr,zF3 q f km tr,zF4 am Z xs an,zF5 km fs kn,Ts tA tr tC,pF f m t S.X,pI m L S.aq,zF7 t S L,pO S.O L,pD S.O L,pE S.O L]:List HP)
theorem Vi {β:Bs} (S:br) (L:HL) (w o q f m t am an km kn:Nat) (Z:AZ) (fs:List cL) (xs:List dh) (aj:Int) (tr:List aH) (tA:Option Addr) (tC:Nat)  :
 aU Tryz.prog β 29 #[vP w] (Hu w f o aj tA tr tC q am km Z xs an fs kn m t S L) (λv l=>v=vI (tr.length:Int)/\l=(Hu w f o aj tA tr tC q am km Z xs an fs kn m t S L)):=by
 exact SE Tryz.func29 Tryz.ntmps29 (λR=>SR (jK 1 [] [] (NS (jK 6 [2] [(3,a_ 0 w)] (eN (v:=(vI ↑tr.length)) ⟨rfl,rfl⟩)))))
theorem Xt {β:Bs} (S:br) (L:HL) (w o q f m t am an km kn:Nat) (Z:AZ) (fs:List cL) (xs:List dh) (aj:Int) (tr:List aH) (tA:Option Addr) (tC:Nat)  :
 aU Tryz.prog β 40 #[vP w] (Hu w f o aj tA tr tC q am km Z xs an fs kn m t S L) (λv l=>v=vI (S.us.length:Int)/\l=(Hu w f o aj tA tr tC q am km Z xs an fs kn m t S L)):=by
 refine SE Tryz.func40 Tryz.ntmps40 (λR=>SR (jK 1 [] [] (NS (jK 4 [6] [(3,a_ 0 w)] (gL [6,8] (Xp S L f m t) ?_)))))
 rintro _ _ ⟨Ah,ch,rfl,rfl⟩
 exact jK 2 [2] [] (eN (v:=(vI ↑S.us.length)) ⟨rfl,rfl⟩ [3,4,5,6,7,8,0,9,1,10,11,12,13])
theorem Xu {β:Bs} (S:br) (L:HL) (w o q f m t am an km kn:Nat) (Z:AZ) (fs:List cL) (xs:List dh) (aj:Int) (tr:List aH) (tA:Option Addr) (tC:Nat)  :
 aU Tryz.prog β 41 #[vP w] (Hu w f o aj tA tr tC q am km Z xs an fs kn m t S L) (λv l=>v=vI S.aI/\l=(Hu w f o aj tA tr tC q am km Z xs an fs kn m t S L)):=by
 exact SE Tryz.func41 Tryz.ntmps41 (λR=>SR (jK 1 [] [] (NS (jK 4 [6] [(3,a_ 0 w)] (gE [6,8] (aax S L f m t) (jK 1 [2] [] (eN (v:=(vI (S.aI))) ⟨rfl,rfl⟩ [2,3,4,5,6,7,0,8,1,9,10,11,12])))))))
theorem Vj {β:Bs} (S:br) (L:HL) (w o q f m t am an km kn:Nat) (Z:AZ) (fs:List cL) (xs:List dh) (aj:Int) (tr:List aH) (tA:Option Addr) (tC:Nat) (hI:bO S) :
 aU Tryz.prog β 30 #[vP w] (Hu w f o aj tA tr tC q am km Z xs an fs kn m t S L) (λv l=>∃A cp K,v=.agg #[.slice A (aV S).length cp]/\l=(Hu w f o aj tA tr tC q am km Z xs an fs kn m t S L)++[.abs (aF 95 10 A (aV S).length cp (bD K (aV S))),.abs (kR (rO (aV S) K) (aV S).length),.abs (kR (lI (aV S) K) (aV S).length)]):=by
 refine SE Tryz.func30 Tryz.ntmps30 (λR=>SR (jB 1 [2] (λb1=>.ax b1 [.slice none (0) (0)] 24) (λb1=>NS (jK 4 [6] [(3,a_ 0 w)] (gL [6,7,9,10,11] (Xm S L f m t hI) ?_)))))
 rintro _ _ ⟨Ao,cp,K,rfl,rfl⟩
 exact jC 1 [] [(0,a_ 16 b1)] [(16,[(0,.slice Ao ((aV S).length) (cp))])] (eS (v:=(.agg #[.slice Ao ((aV S).length) (cp)])) [a_ 16 b1] ⟨Ao,cp,K,rfl,rfl⟩ [8,9,10,11,12,13,0,1,14,2,3,4,5,6,7,15])
theorem ze {β:Bs} (Af:Option Addr) (cf:Nat) (fs:List cL) (hF:cA β Af (cI jg fs)) (hfl:fs.length<=2097152) (Aa:Option Addr) (ca:Nat) (xs:List dh) (hA:cA β Aa (cI kA xs)) (hxl:xs.length<=2097152) :
 aU Tryz.prog β 17 #[.agg #[.slice Af (fs.length) (cf),.slice Aa (xs.length) (ca)]] [] (λv l=>∃B b C c,v=.agg #[.slice B fs.length b,.slice C xs.length c]/\l=[.abs (aF 66 2 B fs.length b (cI jg fs)),.abs (aF 68 5 C xs.length c (cI kA xs))]):=by
 exact SE Tryz.func17 Tryz.ntmps17 (λR=>SR (jB 1 [1] (λb2=>.ax b2 [.slice Af (fs.length) (cf),.slice Aa (xs.length) (ca)] 32) (λb2=>jB 1 [2] (λb3=>.ax b3 [.slice none (0) (0),.slice none (0) (0)] 32) (λb3=>NS (jB 2 [3] (λb4=>.ax b4 [] 66) (λb4=>NS (ar.mem (λw hS=>hS.o9 (i:=3) (b:=b4) (cs:=[]) (e:=66) 2 0 KB rfl Pd) (jK 3 [6,8] [(2,a_ 1 b2)] (ny 3 29 Af fs.length cf (cI jg fs) rfl (hF.src) (λA5 c6=>ar.cJ 3 (p:=.abs (aF 66 2 A5 (0+fs.length) c6 ([]++(cI jg fs)))) (p':=.abs (aF 66 2 A5 fs.length c6 (cI jg fs))) KB (by rw [aiE,List.nil_append]) (sl 9 (.slice A5 (0+fs.length) (c6)) (.slice A5 (fs.length) (c6)) (by rw [aiE]) (jK 1 [3] [] (NS (jB 2 [4] (λb7=>.ax b7 [] 68) (λb7=>NS (ar.mem (λw hS=>hS.o9 (i:=4) (b:=b7) (cs:=[]) (e:=68) 5 0 KB rfl Pd) (jK 3 [11,13] [(2,a_ 1 b2)] (ny 4 30 Aa xs.length ca (cI kA xs) rfl (hA.src) (λA8 c9=>ar.cJ 4 (p:=.abs (aF 68 5 A8 (0+xs.length) c9 ([]++(cI kA xs)))) (p':=.abs (aF 68 5 A8 xs.length c9 (cI kA xs))) KB (by rw [aiE,List.nil_append]) (sl 14 (.slice A8 (0+xs.length) (c9)) (.slice A8 (xs.length) (c9)) (by rw [aiE]) (jK 1 [4] [] (NS (jC 4 [] [(3,A_ 2 b3 2)] [(2,[(0,.slice A5 (fs.length) (c6)),(1,.slice A8 (xs.length) (c9))])] (eS (v:=(.agg #[.slice A5 (fs.length) (c6),.slice A8 (xs.length) (c9)])) [A_ 2 b3 2] ⟨A5,c6,A8,c9,rfl,rfl⟩ [3,4,0])))))) (hl:=yS (f:=kA) (s:=5) (λ_=>rfl) _) (h1:=yg (aac) _ _)))))))))) (hl:=yS (f:=jg) (s:=2) (λ_=>rfl) _) (h1:=yg (UY) _ _))))))))))
theorem aeS {β:Bs} (A:Option Addr) (c:Nat) (xs:List aH) (hc:xs.length<=c) :
 aU Tryz.prog β 9 #[.slice A xs.length c] [] (λv l=>∃n,n<=xs.length/\n<=300/\v=.slice A n c/\l=[]):=by
 exact SE Tryz.func9 Tryz.ntmps9 (λR=>SR (jK 1 [] [] (NZ (jK 3 [5] [] (NN (cP ((((xs.length:Nat):Int):Int)>(300:Int)) (λh5=>SR (jK 3 [2] [(1,p_ ⟨[],some 300,none,none,none⟩ [300=((300:Nat):Int),300<=c] ⟨rfl,zc,trivial⟩)] (eN (v:=(.slice A (300) (c))) ⟨300,zc,Pd,rfl,rfl⟩))) (λh5=>KX (zR (v:=(.slice A (xs.length) (c))) ⟨xs.length,aiu _,zc,rfl,rfl⟩))))))))
end
section
open Go.RowKit Go.Maps bF aD
attribute [local irreducible] ar bN ak ay bZ
noncomputable abbrev Xv (b4:Nat):=(.ax b4 [vI 0,vI 0,vI 0,.string ⟨#[]⟩,.string ⟨#[]⟩,.slice none (0) (0),vI 0,vI 0,vI 0,vI 0,vI 0,vI 0,vI 0] 53:HP)
noncomputable abbrev zA2:=([(2,vI 0),(6,vI 0),(7,vI 0),(8,vI 0),(9,vI 0),(10,vI 0),(11,vI 0),(12,vI 0)]:Fr)
noncomputable abbrev zA3 (c:aH):=([(3,.string c.name),(4,.string c.text),(5,.slice c.dA (c.data.length) (c.dC))]:Fr)
noncomputable abbrev Xw (km)(fs)(kn)(f:Nat) (m:Nat) (t) (S:br) (L:HL):=([.abs (bM Tryz.prog 3 km (iz fs) kn),pF f m t S.X,pI m L S.aq,pT t S.X.cH S.aI L S.us,pO S.O L,pD S.O L,pE S.O L]:List HP)
theorem FT {β:Bs} (c:aH) (e:Int) :
 aU Tryz.prog β 242 #[.agg ⟨aO c⟩,vI (e)] [] (λv l=>v=.agg ⟨aO (iR c e)⟩/\l=[]):=by
 exact SE Tryz.func242 Tryz.ntmps242 (λR=>SR (jB 1 [2] (λb1=>.ax b1 (aO c) 53) (λb1=>jB 1 [4] (λb2=>.ax b2 [vI 0,vI 0,vI 0,.string ⟨#[]⟩,.string ⟨#[]⟩,.slice none (0) (0),vI 0,vI 0,vI 0,vI 0,vI 0,vI 0,vI 0] 53) (λb2=>NZ (jK 4 [8] [(1,a_ 1 b1)] (sP 8 ((c.op:Int)=(11:Int)) (λh8=>jK 4 [12] [] (NT (ak.region (jC 12 [] [(1,a_ 1 b1),(3,a_ 1 b1),(5,a_ 1 b1),(7,a_ 1 b1),(9,a_ 1 b1),(11,A_ 1 b1 13)] [(1,(zA2))] (NS (jC 5 [] [(2,a_ 1 b1),(4,a_ 1 b1)] [(1,[(11,vI (e))])] (NS (jC 2 [] [(0,A_ 1 b1 13),(1,A_ 2 b2 13)] [(2,([(0,vI (c.op)),(1,vI (c.aG))]++zA3 c++[(11,vI (e))]))] (eS (v:=(.agg ⟨aO {c with other:=0,mode:=0,bg:=0,bh:=0,aT:=0,aJ:=0,code:=e,answer:=0}⟩)) [A_ 2 b2 13] ⟨ail (λx=>Value.agg ⟨aO x⟩) (ai0 (aik zc:iR c e=_)),rfl⟩))))))))) (λh8=>jK 4 [12] [(1,a_ 1 b1)] (NN (cP ((c.op:Int)=(12:Int)) (λh12=>ak.region (jC 12 [] [(1,a_ 1 b1),(3,a_ 1 b1),(5,a_ 1 b1),(7,a_ 1 b1),(9,a_ 1 b1),(11,A_ 1 b1 13)] [(1,(zA2))] (NS (jC 5 [] [(2,a_ 1 b1),(4,a_ 1 b1)] [(1,[(11,vI (e))])] (NS (jC 2 [] [(0,A_ 1 b1 13),(1,A_ 2 b2 13)] [(2,([(0,vI (c.op)),(1,vI (c.aG))]++zA3 c++[(11,vI (e))]))] (eS (v:=(.agg ⟨aO {c with other:=0,mode:=0,bg:=0,bh:=0,aT:=0,aJ:=0,code:=e,answer:=0}⟩)) [A_ 2 b2 13] ⟨ail (λx=>Value.agg ⟨aO x⟩) (ai0 (aik zc:iR c e=_)),rfl⟩))))))) (λh12=>KX (SR (jC 5 [] [(2,a_ 1 b1),(4,a_ 1 b1)] [(1,[(11,vI (e)),(12,vI 0)])] (NS (jC 2 [] [(0,A_ 1 b1 13),(1,A_ 2 b2 13)] [(2,([(0,vI (c.op)),(1,vI (c.aG)),(2,vI (c.other))]++zA3 c++[(6,vI (c.mode)),(7,vI (c.bg)),(8,vI (c.bh)),(9,vI (c.aT)),(10,vI (c.aJ)),(11,vI (e))]))] (eS (v:=(.agg ⟨aO {c with code:=e,answer:=0}⟩)) [A_ 2 b2 13] ⟨ail (λx=>Value.agg ⟨aO x⟩) (ai0 (aij zc:iR c e=_)),rfl⟩)))))))))))))))
theorem aeT {β:Bs} (S:br) (L:HL) (q f m t km kn n:Nat) (fs:List cL) (hI:bO S) (hn:n<=8388608) (k:Int) (hk:iQ fs ((n+1:Nat):Int)=k) (c:aH) (hC:kU β c) :
 aU Tryz.prog β 241 #[vP q,.agg ⟨aO c⟩] ([.ax q [.iface 76 (vP f),.map (some km),vI (((n:Nat):Int))] 111]++Xw km fs kn f m t S L) (λv l=>∃L2,v=.agg ⟨aO (dW k S c).2⟩/\l=[.ax q [.iface 76 (vP f),.map (some km),vI ((((n+1):Nat):Int))] 111,.abs (bM Tryz.prog 3 km (iz fs) kn),pF f m t ((dW k S c).1.X),pI m L2 (dW k S c).1.aq,pT t (dW k S c).1.X.cH ((dW k S c).1.aI) L2 ((dW k S c).1.us),pO ((dW k S c).1.O) L2,pD ((dW k S c).1.O) L2,pE ((dW k S c).1.O) L2]):=by
 have hdl:=hC.dl
 have hdc:=hC.dc
 refine SE Tryz.func241 Tryz.ntmps241 (λR=>SR (jB 1 [3] (λb3=>.ax b3 (aO c) 53) (λb3=>jB 1 [4] (λb4=>.ax b4 [vI 0,vI 0,vI 0,.string ⟨#[]⟩,.string ⟨#[]⟩,.slice none (0) (0),vI 0,vI 0,vI 0,vI 0,vI 0,vI 0,vI 0] 53) (λb4=>NS (jC 8 [] [(3,a_ 0 q),(4,wJ ((n:Int)+1) (↑(n+1))),(7,a_ 0 q)] [(0,[(2,vI ↑(n+1))])] (NN (ak.join (ι:=Unit) (λ(u:Unit)=>(¬k=1)/\(¬(k=2/\(c.op=4\/c.op=5\/c.op=6\/c.op=7\/c.op=9)))/\(¬(k=3/\c.op=9/\2<=c.data.length))) (λ(u:Unit)=>[(0,vP q),(3,vP b3),(4,vP b4)]) (λ(u:Unit)=>([.ax q [.iface 76 (vP f),.map (some km),vI ↑(n+1)] 111]++Xw km fs kn f m t S L++[.abs R,pC b3 c,Xv b4])) ?_ ?_)))))))
 ·rintro u ⟨vA,hj2,hj3⟩
  refine ak.seq (rM (List.range 7) 5 [0,9] (jR 5 [4,78,79] [(3,a_ 0 q),(4,A_ 1 b3 13)] (mL [6,9] [2,3,4,5,6,7] (Ql S L f m t hI c hC) ?_ (by rintro _ _ ⟨L2,rfl,rfl⟩;rfl))))
  rintro _ _ ⟨L2,rfl,rfl⟩
  exact bZ.last rfl rfl (jC 1 [] [(0,A_ 10 b4 13)] [(10,(zC (aO ((gj S c).2))))] (NL (ay.np (NX (ak.ret (rT (.agg ⟨aO ((gj S c).2)⟩) [A_ 10 b4 13] [6,7,0,1,2,3,4,5,8] (⟨L2,by rw [show dW k S c=((gj S c).1,(gj S c).2) by unfold dW;rw [aij vA,aij hj2,aij hj3]]<;>exact⟨rfl,rfl⟩⟩)))))))
 refine ak.seq (rQ (jQ 8 [16,20] [(3,a_ 0 q),(7,a_ 0 q)] (bN.jj 1 (d:=(some 21)) (t:=107) (K:=3) (E:=3) (b:=km) (n:=kn) (f:=(iz fs)) (x:=(.tmp 16)) (ix:=(.tmp 20)) (key:=vI ↑(n+1)) (z:=.int .i64 0) (kl:=(.int .i64 ((n+1:Nat):Int))) (r:=(iz fs (.int .i64 ((n+1:Nat):Int)))) (λ_=>KB) KB (λ_=>KB) (λ_=>KB) iZ Tryz.underlying107 (λ_=>KB) (mP (W8 zc)) (rfl) (NQ (NX (ak.block (SR (sl 21 (((iz fs (.int .i64 ((n+1:Nat):Int))).getD (.int .i64 0))) (.int .i64 (k)) (MW.trans (ail (Value.int .i64) hk)) (jK 2 [22] [] (NN (cP ((k:Int)=(1:Int)) (λsU=>SQ (jK 3 [26] [(1,a_ 9 b3)] (NN (cP ((c.op:Int)=(13:Int)) (λzj=>rM (List.range 6) 5 [0,9] (jR 5 [3,4,30,31] [(3,a_ 0 q),(4,A_ 1 b3 13)] (bZ.last rfl rfl (gX [2,3,4,5,6,7] (Ql S L f m t hI c hC) (λL2=>NL (ay.np (NX (SR (jK 1 [33] [(0,A_ 9 b3 13)] (gE [] (FT c 180) (jC 1 [] [(0,A_ 10 b4 13)] [(10,(zC (aO (iR c 180))))] (eS (v:=(.agg ⟨aO (iR c 180)⟩)) [A_ 10 b4 13] ⟨L2,by rw [show dW k S c=((gj S c).1,iR c 180) by unfold dW;rw [aik sU,aik zj]]<;>exact⟨rfl,rfl⟩⟩ [6,7,0,1,2,3,4,5,8])))))))))))) (λzj=>KX (SR (jK 1 [33] [(0,A_ 9 b3 13)] (gE [] (FT c 180) (jC 1 [] [(0,A_ 10 b4 13)] [(10,(zC (aO (iR c 180))))] (eS (v:=(.agg ⟨aO (iR c 180)⟩)) [A_ 10 b4 13] ⟨L,by rw [show dW k S c=(S,iR c 180) by unfold dW;rw [aik sU,aij zj]]<;>exact⟨rfl,rfl⟩⟩)))))))))) (λsU=>SR (jK 2 [35] [] (NN (cP ((k:Int)=(2:Int)) (λnY=>?_) (λnY=>?_))))))))))))))))
 ·refine SR (jK 2 [38] [(1,a_ 9 b3)] (NN (ak.block (ak.join (ι:=Bool) (λ(fl:Bool)=>(fl=true↔(c.op=4\/c.op=5\/c.op=6\/c.op=7\/c.op=9))) (λ(fl:Bool)=>[(0,vP q),(3,vP b3),(4,vP b4),(39,.bool fl)]) (λ(fl:Bool)=>([.ax q [.iface 76 (vP f),.map (some km),vI ↑(n+1)] 111]++Xw km fs kn f m t S L++[.abs R,pC b3 c,Xv b4])) ?_ (SR (jK 2 [39] [] (NN (cP ((c.op:Int)=(4:Int)) (λnN=>ak.skip (ay.slot 39 (.bool (decide ((c.op:Int)=(4:Int)))) (.bool true) (λ_=>KB) (ail Value.bool (aiD nN)) (mJ true [0,1,2,3,4,5,6,7,8,9,10] (⟨λ_=>zc,λ_=>rfl⟩)))) (λnN=>SR (jK 2 [39] [] (NN (cP ((c.op:Int)=(5:Int)) (λnN=>ak.skip (ay.slot 39 (.bool (decide ((c.op:Int)=(5:Int)))) (.bool true) (λ_=>KB) (ail Value.bool (aiD nN)) (mJ true [0,1,2,3,4,5,6,7,8,9,10] (⟨λ_=>zc,λ_=>rfl⟩)))) (λnN=>SR (jK 2 [39] [] (NN (cP ((c.op:Int)=(6:Int)) (λnN=>ak.skip (ay.slot 39 (.bool (decide ((c.op:Int)=(6:Int)))) (.bool true) (λ_=>KB) (ail Value.bool (aiD nN)) (mJ true [0,1,2,3,4,5,6,7,8,9,10] (⟨λ_=>zc,λ_=>rfl⟩)))) (λnN=>SR (jK 2 [39] [] (NN (cP ((c.op:Int)=(7:Int)) (λnN=>ak.skip (ay.slot 39 (.bool (decide ((c.op:Int)=(7:Int)))) (.bool true) (λ_=>KB) (ail Value.bool (aiD nN)) (mJ true [0,1,2,3,4,5,6,7,8,9,10] (⟨λ_=>zc,λ_=>rfl⟩)))) (λnN=>ak.region (jK 2 [39] [] (NL (mJ ((decide (c.op=9))) [0,1,2,3,4,5,6,7,8,9,10] (⟨λh=>by have:=aja h;omega,λh=>aiD zc⟩)))))))))))))))))))))))))
  rintro fl hfl
  exact ak.cond (b:=fl) (λ_=>KB) (λnN=>SR (jK 1 [45] [(0,A_ 9 b3 13)] (gE [] (FT c 176) (jC 1 [] [(0,A_ 10 b4 13)] [(10,(zC (aO (iR c 176))))] (eS (v:=(.agg ⟨aO (iR c 176)⟩)) [A_ 10 b4 13] ⟨L,by rw [show dW k S c=(S,iR c 176) by unfold dW;rw [aij zc,aik ⟨nY,hfl.1 nN⟩]]<;>exact⟨rfl,rfl⟩⟩))))) (λnN=>ak.skip (ay.gh (ay.gh (mJ () [0,1,2,3,4,5,6,7,8,9,10] (⟨sU,λh=>ain (nN.symm.trans (hfl.2 h.2)) Pd,λh=>zc⟩)))))
 refine SR (jK 2 [47] [] (NN (cP ((k:Int)=(3:Int)) (λSN=>SR (jK 4 [52] [(1,a_ 9 b3)] (sP 52 ((c.op:Int)=(9:Int)) (λzm=>jK 5 [57] [(1,a_ 9 b3)] (NN (cP ((((c.data.length:Nat):Int):Int)>=(2:Int)) (λAO=>SR (jK 3 [5] [(1,a_ 9 b3)] (NS (jK 5 [64] [(3,w_ (.int .i64 ↑(c.data.length / 2)) (vV (Int.ofNat_tdiv _ _).symm zc zc)),(4,xP (c.data.length / 2) ((c.data.length / 2)<=c.dC))] (sl 64 (.slice c.dA ((c.data.length / 2)) (c.dC)) (.slice c.dA ((c.data.take (c.data.length / 2)).length) (c.dC)) (by rw [aiH,ajh zc]) (jC 2 [] [(1,a_ 9 b3)] [(9,[(5,.slice c.dA ((c.data.take (c.data.length / 2)).length) (c.dC))])] (NN (ak.seq (rM (List.range 7) 5 [0,9] (jR 5 [3,4,5,69,70] [(3,a_ 0 q),(4,A_ 1 b3 13)] (mL [6,9] [2,3,4,5,6,7] (Ql S L f m t hI {c with data:=c.data.take (c.data.length / 2)} (R9 hC)) ?_ (by rintro _ _ ⟨L2,rfl,rfl⟩;rfl)))))))))))) (λAO=>ak.skip (ay.gh (mJ () [0,1,2,3,4,5,6,7,8,9,10] (⟨sU,λh=>nY h.1,λh=>zc⟩))))))) (λzm=>jK 5 [57] [] (NF (ak.skip (ay.gh (mJ () [0,1,2,3,4,5,6,7,8,9,10] (⟨sU,λh=>nY h.1,λh=>zc⟩))))))))) (λSN=>ak.skip (ay.gh (mJ () [0,1,2,3,4,5,6,7,8,9,10] (⟨sU,λh=>nY h.1,λh=>zc⟩)))))))
 rintro _ _ ⟨L2,rfl,rfl⟩
 exact bZ.last rfl rfl (jC 1 [] [(0,A_ 9 b3 13)] [(9,(zC (aO ((gj S {c with data:=c.data.take (c.data.length / 2)}).2))))] (NL (ay.np (NX (SR (jC 3 [] [(2,a_ 9 b3)] [(9,[(5,.slice c.dA (c.data.length) (c.dC))])] (NS (jC 2 [] [(0,A_ 9 b3 13),(1,A_ 10 b4 13)] [(10,[(0,vI ((gj S {c with data:=c.data.take (c.data.length / 2)}).2.op)),(1,vI ((gj S {c with data:=c.data.take (c.data.length / 2)}).2.aG)),(2,vI ((gj S {c with data:=c.data.take (c.data.length / 2)}).2.other)),(3,.string (gj S {c with data:=c.data.take (c.data.length / 2)}).2.name),(4,.string (gj S {c with data:=c.data.take (c.data.length / 2)}).2.text),(5,.slice c.dA (c.data.length) (c.dC)),(6,vI ((gj S {c with data:=c.data.take (c.data.length / 2)}).2.mode)),(7,vI ((gj S {c with data:=c.data.take (c.data.length / 2)}).2.bg)),(8,vI ((gj S {c with data:=c.data.take (c.data.length / 2)}).2.bh)),(9,vI ((gj S {c with data:=c.data.take (c.data.length / 2)}).2.aT)),(10,vI ((gj S {c with data:=c.data.take (c.data.length / 2)}).2.aJ)),(11,vI ((gj S {c with data:=c.data.take (c.data.length / 2)}).2.code)),(12,vI ((gj S {c with data:=c.data.take (c.data.length / 2)}).2.answer))])] (eS (v:=(.agg #[vI ((gj S {c with data:=c.data.take (c.data.length / 2)}).2.op),vI ((gj S {c with data:=c.data.take (c.data.length / 2)}).2.aG),vI ((gj S {c with data:=c.data.take (c.data.length / 2)}).2.other),.string (gj S {c with data:=c.data.take (c.data.length / 2)}).2.name,.string (gj S {c with data:=c.data.take (c.data.length / 2)}).2.text,.slice c.dA (c.data.length) (c.dC),vI ((gj S {c with data:=c.data.take (c.data.length / 2)}).2.mode),vI ((gj S {c with data:=c.data.take (c.data.length / 2)}).2.bg),vI ((gj S {c with data:=c.data.take (c.data.length / 2)}).2.bh),vI ((gj S {c with data:=c.data.take (c.data.length / 2)}).2.aT),vI ((gj S {c with data:=c.data.take (c.data.length / 2)}).2.aJ),vI ((gj S {c with data:=c.data.take (c.data.length / 2)}).2.code),vI ((gj S {c with data:=c.data.take (c.data.length / 2)}).2.answer)])) [A_ 10 b4 13] ⟨L2,by rw [show dW k S c=((gj S {c with data:=c.data.take (c.data.length / 2)}).1,{ (gj S {c with data:=c.data.take (c.data.length / 2)}).2 with dA:=c.dA,dC:=c.dC,data:=c.data}) by unfold dW;rw [aij zc,aij zc,aik ⟨SN,zc,zc⟩]]<;>exact⟨rfl,rfl⟩⟩ [6,7,0,1,2,3,4,5,8])))))))))
end
end Go.Proofs.YtbnfiigafobejaaGreat
section
namespace Go.Proofs
open Go.Shelf
def Tryz.lays146_ren:Go.Shelf.Ren:=⟨fun|146=>229|221=>230|268=>231|138=>232|143=>233|195=>234|197=>235|218=>236|219=>237|260=>238|217=>154|225=>165|224=>164|267=>239|266=>158|314=>240|n=>n,fun|9=>9|31=>157|3=>3|4=>4|0=>0|105=>301|21=>21|5=>5|46=>199|119=>303|139=>306|138=>305|146=>307|51=>214|n=>n,fun|1=>0|3=>1|4=>2|n=>n⟩
theorem Tryz.lays146:Go.Proofs.Lays.n146 Tryz.prog Tryz.lays146_ren:={
 mixed:=by kernel_rfl
 f138:=Tryz.func232.trans (congrArg some (by kernel_rfl))
 f143:=Tryz.func233.trans (congrArg some (by kernel_rfl))
 f146:=Tryz.func229.trans (congrArg some (by kernel_rfl))
 f195:=Tryz.func234.trans (congrArg some (by kernel_rfl))
 f197:=Tryz.func235.trans (congrArg some (by kernel_rfl))
 f217:=Tryz.func154.trans (congrArg some (by kernel_rfl))
 f218:=Tryz.func236.trans (congrArg some (by kernel_rfl))
 f219:=Tryz.func237.trans (congrArg some (by kernel_rfl))
 f221:=Tryz.func230.trans (congrArg some (by kernel_rfl))
 f224:=Tryz.func164.trans (congrArg some (by kernel_rfl))
 f225:=Tryz.func165.trans (congrArg some (by kernel_rfl))
 f260:=Tryz.func238.trans (congrArg some (by kernel_rfl))
 f266:=Tryz.func158.trans (congrArg some (by kernel_rfl))
 f267:=Tryz.func239.trans (congrArg some (by kernel_rfl))
 f268:=Tryz.func231.trans (congrArg some (by kernel_rfl))
 f314:=Tryz.func240.trans (congrArg some (by kernel_rfl))
 t0:=Tryz.underlying0
 a0:=Tryz.isAgg0
 z0:=Tryz.sizeOf0
 v0:=Tryz.zeroValue0
 t3:=Tryz.underlying3
 a3:=Tryz.isAgg3
 z3:=Tryz.sizeOf3
 v3:=Tryz.zeroValue3
 t4:=Tryz.underlying4
 a4:=Tryz.isAgg4
 z4:=Tryz.sizeOf4
 v4:=Tryz.zeroValue4
 t5:=Tryz.underlying5
 a5:=Tryz.isAgg5
 z5:=Tryz.sizeOf5
 v5:=Tryz.zeroValue5
 t9:=Tryz.underlying9
 a9:=Tryz.isAgg9
 z9:=Tryz.sizeOf9
 v9:=Tryz.zeroValue9
 t21:=Tryz.underlying21
 a21:=Tryz.isAgg21
 z21:=Tryz.sizeOf21
 v21:=Tryz.zeroValue21
 t31:=Tryz.underlying157
 a31:=Tryz.isAgg157
 z31:=Tryz.sizeOf157
 v31:=Tryz.zeroValue157
 t46:=Tryz.underlying199
 a46:=Tryz.isAgg199
 z46:=Tryz.sizeOf199
 v46:=Tryz.zeroValue199
 t51:=Tryz.underlying214
 a51:=Tryz.isAgg214
 z51:=Tryz.sizeOf214
 v51:=Tryz.zeroValue214
 t105:=Tryz.underlying301
 a105:=Tryz.isAgg301
 z105:=Tryz.sizeOf301
 v105:=Tryz.zeroValue301
 t119:=Tryz.underlying303
 a119:=Tryz.isAgg303
 z119:=Tryz.sizeOf303
 t138:=Tryz.underlying305
 a138:=Tryz.isAgg305
 z138:=Tryz.sizeOf305
 v138:=Tryz.zeroValue305
 t139:=Tryz.underlying306
 a139:=Tryz.isAgg306
 z139:=Tryz.sizeOf306
 v139:=Tryz.zeroValue306
 t146:=Tryz.underlying307
 a146:=Tryz.isAgg307
 z146:=Tryz.sizeOf307
 v146:=Tryz.zeroValue307
 g1:=by kernel_rfl
 g3:=by kernel_rfl
 g4:=by kernel_rfl}
open Go.RowKit Go.Lib in
theorem Tryz.strings_Split (s sep:ByteArray) (m:Int) (w:World) (hs:s.size<4294967281) (hm:w.cell? ⟨0,0,none⟩=some (.int .i64 m)) (h1:1<=sep.size) :
 Calls Tryz.prog 229 #[.string s,.string sep] w λe w'=>
  e=.returned (.slice (some ⟨w.heap.size,0,none⟩) (Lib.countB s sep+1) (Lib.countB s sep+1))/\w'=w.alloc (.cells ((Lib.splitB sep 0 (Lib.countB s sep) s).map Value.string).toArray 9):=Any.strings_Split Tryz.lays146 (by kernel_rfl) s sep m w hs hm h1
end Go.Proofs
end
namespace Go.Proofs.YtbnfiigafobejaaGreat
section
open Go.RowKit Go.Maps bF aD
def kH (β:Bs):Prop:=∃m,Rd β ⟨0,0,none⟩ (.int .i64 m)
theorem kH.le {β β':Bs} (h:kH β) (dL:β.le β'):kH β':=h.imp λ_ h=>h.le dL
theorem Eg (s:ByteArray):(bR s).length=Lib.countB s slash+1:=Lib.splitB_all slash Pd 0 _ s rfl
theorem Bv (s:ByteArray):Lib.countB s slash<=s.size:=Lib.countB_le slash Pd _ s (aiu _)
theorem Hv (sep:ByteArray):∀(k:Nat) (s:ByteArray),∀p∈Lib.splitB sep 0 k s,p.size<=s.size
 |0,s,p,hp=>by
   rw [Lib.splitB_zero] at hp
   rw [ai3.1 hp];exact aiu _
 |k+1,s,p,hp=>by
   rcases Lib.indexB_cases s sep with fC|⟨i,fC,_⟩
   ·rw [Lib.splitB_miss sep 0 (k+1) s fC] at hp
    rw [ai3.1 hp];exact aiu _
   rw [Lib.splitB_hit sep 0 k s i fC] at hp
   rcases aiA.1 hp with rfl|hp
   ·rw [ai6];omega
   have:=Hv sep k _ p hp
   rw [ai6] at this
   omega
theorem Hw {s p:ByteArray} (hp:p∈bR s):p.size<=s.size:=Hv slash _ s p hp
def nJ (ps:List ByteArray):List Value:=ps.map Value.string
theorem aaD {β:Bs} (hg:kH β) (s:ByteArray) (hs:s.size<=1048576):aU Tryz.prog β 229 #[.string s,.string ⟨#[47]⟩] [] (λv l=>∃b,v=.slice (some ⟨b,0,none⟩) (bR s).length (bR s).length/\l=[.abs (aF 9 1 (some ⟨b,0,none⟩) (bR s).length (bR s).length (nJ (bR s)))]):=
 aU.OC λW hW=>by
  obtain⟨m,hg⟩:=hg
  have hm:W.cell? ⟨0,0,none⟩=some (.int .i64 m):=(World.cell?_of_block (w:=β.w0) (hW.old _ hg.1).2).trans hg.2
  have hl:=Eg s
  have hc:=Bv s
  refine (Tryz.strings_Split s slash m W zc hm Pd).mono ?_
  rintro e w' ⟨rfl,rfl⟩
  refine⟨_,_,rfl,⟨W.heap.size,by rw [hl],rfl⟩,(cF.refl _ _).alloc _,λk=>k=W.heap.size,⟨⟨?_,.inr ⟨W.heap.size,(bR s).length,(nJ (bR s)).toArray,rfl,aio _,?_,aiu _,?_,?_,?_⟩⟩,λk=>?_⟩,λk hk=>Nat.le_of_eq hk.symm⟩
  ·simp [nJ]
  ·show (W.heap.push _)[W.heap.size]?=_
   simp [nJ,bR]
  ·unfold maxLen;omega
  ·first|(simp [nJ];done)|(simp [nJ];exact ai4 aii)
  ·first|(simp [nJ];done)|(simp [nJ];exact ai4 aii)
  simp [Value.ownBlock,eq_comm]
theorem Xx {β:Bs} {ps:List ByteArray} (hg:kH β) (s:ByteArray) (hs:s.size<=1048576) (hp:ps=bR s):aU Tryz.prog β 229 #[.string s,.string ⟨#[47]⟩] [] (λv l=>∃b,v=.slice (some ⟨b,0,none⟩) ps.length ps.length/\l=[.abs (aF 9 1 (some ⟨b,0,none⟩) ps.length ps.length (nJ ps))]):=by
 subst hp;exact aaD hg s hs
def pc (ps:List ByteArray) (j:Nat):ByteArray:=ps.getD j ⟨#[]⟩
theorem Qu {ps:List ByteArray} {j:Nat} (hj:j<ps.length):pc ps j∈ps:=by
 grind [pc]
theorem Eh {ps:List ByteArray} {j:Nat} (hj:j<ps.length):(nJ ps)[j]?=some (.string (pc ps j)):=by
 grind [nJ,pc]
theorem Ac {ps:List ByteArray} {j:Nat} (hj:j<ps.length):ps.drop j=pc ps j::ps.drop (j+1):=by
 unfold pc
 rw [aiS,aiy hj]
 exact ai8 hj
theorem Ei {ps:List ByteArray}:(∀p∈ps,ck p)↔∀j,j<ps.length->ck (pc ps j):=by
 refine⟨λh j hj=>h _ (Qu hj),λh p hp=>?_⟩
 obtain⟨j,hj,rfl⟩:=ai5 hp
 grind [pc]
theorem Ni {n:ByteArray} (h:ck n):n.size<=1048576:=air h.2.1 Pd
theorem Qv {O:dZ}:∀{ps:List ByteArray} {d:Nat} {e:Int},qt O d ps=.error e->e≠0
 |[],d,e,h=>by cases h;decide
 |[p],d,e,h=>by
   unfold qt at h
   split at h
   ·cases h;decide
   cases h
 |p::q::r,d,e,h=>by
   unfold qt at h
   split at h
   ·cases h;decide
   split at h
   ·cases h;decide
   split at h
   ·cases h;decide
   exact Qv h
theorem yU {S:br} {d:Nat} (hI:bO S) (hd:aQ S.aq ⟨d,2⟩) (path:ByteArray):(∃e,nG S.O d path=.error e/\e≠0)\/∃d' name,nG S.O d path=.ok (d',name)/\aQ S.aq ⟨d',2⟩/\(af S.O d').aE=false/\ck name:=by
 cases h:nG S.O d path with
 |error e=>
   grind [nG,Qv]
 |ok x=>
   obtain⟨d',name⟩:=x
   exact .inr ⟨d',name,rfl,LH hI.toInv0 hd h⟩
section way
variable {O:dZ} {d:Nat} {ps:List ByteArray} {j:Nat}
theorem Nj (hj:j+1=ps.length):qt O d (ps.drop j)=if (af O d).aE=true then .error 170 else .ok (d,pc ps j):=by
 grind [Ac,qt,af,pc]
theorem Cu (hj:j+1<ps.length):qt O d (ps.drop j)=match bK (pc ps j) (af O d).ah with
 |none=>.error 170
 |some t=>if t.kind=3 then .error 174 else if t.kind=1 then .error 173 else qt O t.k (ps.drop (j+1)):=by
 rw [Ac (j:=j) zc,Ac (j:=j+1) hj]
 rfl
end way
section bytes
variable {P:Program} {β:Bs} {N:fL} {ops:Array Oper} {k:Nat} {fr:Fr} {au:List HP} {Q:Post} {d:Option Tmp} {s:ByteArray}
theorem Bs.ok.adt {β:Bs} {w:World} (h:β.ok w) (F:Nat->Prop):β.le ⟨λk=>β.O k\/F k,w⟩:=⟨λ_ h=>.inl h,h.os,h.tape,h.output,h.size,λk hk=>h.old k hk⟩
theorem ar.Ej {t1 t2 e:TypeId} {x:Operand} (bW:∀ai,iY N ai ops fr k=some (.convert t1 t2 x,d)) (hx:∀ai,eW N fr ai x=.string s) (h1:P.underlying t1=some .string) (h2:P.underlying t2=some (.slice e)) (h3:P.underlying e=some (.int .u8))
 (K:∀b cap,s.data.toList.length<=cap->ar P β N ops (k+1) (eT fr d (.slice (some ⟨b,0,none⟩) s.data.toList.length cap)) (au++[.abs (kT β (λβ'=>bp β' (some ⟨b,0,none⟩) s.data.toList))]) Q):ar P β N ops k fr au Q:=by
 refine ar.Lf (ι:={p:Nat×Nat // s.data.toList.length<=p.2}) (v:=λp=>.slice (some ⟨p.1.1,0,none⟩) s.data.toList.length p.1.2) (cR:=λp=>au++[.abs (kT β (λβ'=>bp β' (some ⟨p.1.1,0,none⟩) s.data.toList))]) bW (λo ai w ho hS=>?_) (λp=>K p.1.1 p.1.2 p.2)
 have hr:=run_bytes_of_string (P:=P) w t1 t2 e s h1 h2 h3
 have eG:s.data.toList.length=s.size:=Array.length_toList ..
 generalize hw:(w.drew.alloc (.cells (bytesRow s (grownCap w s.size 0 e)) e ((bytesRow s (grownCap w s.size 0 e)).size,(bytesRow s (grownCap w s.size 0 e)).size+1)))=w' at hr
 have hk:cF (λ_=>False) w w':=by rw [←hw];exact (cF.refl _ _).drew.alloc _
 have hok:=hS.1.keeps hk (λ_ _ h=>h)
 have hheap:w'.heap[w.heap.size]?=some (.cells (bytesRow s (grownCap w s.size 0 e)) e ((bytesRow s (grownCap w s.size 0 e)).size,(bytesRow s (grownCap w s.size 0 e)).size+1)):=by
  rw [←hw]
  show (w.heap.push _)[w.heap.size]?=_
  simp
 have hsize:w.heap.size<w'.heap.size:=by
  grind
 refine⟨⟨(w.heap.size,grownCap w s.size 0 e),by rw [eG];exact grownCap_ge w s.size 0 e⟩,w',.inl ?_,hS.new (F:=λk=>k=w.heap.size) ?_ hk (λk e=>Nat.le_of_eq e.symm)⟩
 ·obtain⟨dst,op,type,pos,after,guard⟩:=o
  cases ho
  have hr2:(convert t1 t2 (.string s)).run P w=.ok (.slice (some ⟨w.heap.size,0,none⟩) s.data.toList.length (grownCap w s.size 0 e)) w':=by rw [hr,eG]
  simp only [execOp,hx]
  simp [hr2,Result.andThen]
 refine⟨⟨λk=>β.O k\/k=w.heap.size,w'⟩,hok.adt _,λ_ h=>h,λ_ h=>.inr h,aiu _,λk hk=>⟨by rw [hk];exact hsize,rfl⟩,λj v hj=>⟨rfl,.inr rfl,?_⟩⟩
 show World.cell? w' ⟨w.heap.size,0+j,none⟩=some v
 have hj2:=dO hj
 unfold World.cell?
 rw [hheap]
 unfold dQ at hj hj2
 rw [aiF] at hj2
 rw [List.getElem?_map,aiy hj2] at hj
 simp only [Option.map_some,Option.some.injEq] at hj
 subst hj
 unfold bytesRow
 grind [BM]
end bytes
theorem Kt {β:Bs} (S:br) (L:HL) (f m t:Nat) (hI:bO S) (k:Nat) (hk:aQ S.aq ⟨k,1⟩) (A:Option Addr) (c:Nat) (bs:List UInt8) (hbl:bs.length<=1099511627776) (hbc:bs.length<=c) :
 aU Tryz.prog β 211 #[vP f,vP (L.b k),.slice A bs.length c] (.abs (kT β (λβ'=>bp β' A bs))::pA f m t L S) (λv l=>∃L2,v=.tuple #[vI (gy S k bs).1,vI (gy S k bs).2.1]/\l=pA f m t L2 (gy S k bs).2.2):=
 aU.UX λ_ _ hA=>M5 S L f m t hI k hk A c bs hA hbl hbc
def I4 (L:HL):Except Int (Nat×ByteArray)->Value
 |.error e=>.tuple #[.pointer none,.string ⟨#[]⟩,.int .i64 e]
 |.ok (d,p)=>.tuple #[.pointer (some ⟨L.b d,0,none⟩),.string p,.int .i64 0]
end
section
open Go.RowKit Go.Maps bF aD
attribute [local irreducible] ar bN ak ay
theorem GI {β:Bs} (S:br) (L:HL) (f:Nat) (hI:bO S) (d:Nat) (hd:aQ S.aq ⟨d,2⟩) (path:ByteArray) (eG:path.size<=1048576) (hg:kH β) :
 aU Tryz.prog β 228 #[vP f,vP (L.b d),.string path] [.abs (aW (eE S.O L)),.abs (aW (fZ S.O L))] (λv l=>v=I4 L (nG S.O d path)/\l=[.abs (aW (eE S.O L)),.abs (aW (fZ S.O L))]):=by
 have dP:(af S.O d).kind=2:=hI.kind hd
 obtain⟨ps,au⟩:∃ps,ps=bR path:=⟨_,rfl⟩
 have hpl:1<=ps.length/\ps.length<=1048577:=by rw [au,Eg];have:=Bv path;omega
 have Xy:∀q,q<ps.length->(pc ps q).size<=1048576:=λq hq=>air (Hw (au ▸ Qu hq)) eG
 refine SE Tryz.func228 Tryz.ntmps228 (λR=>SR (jK 3 [] [] (NS (jK 1 [19] [] (gX [] (Xx hg path eG au) (λb1=>jK 1 [9] [] (NN (SQ (jK 3 [21,22,23] [] (NN (ak.block (lJ (λ(j:Nat)=>(j<=ps.length)/\(∀q,q<j->ck (pc ps q))) (λ(j:Nat)=>ps.length-j) (λ(j:Nat)=>[(1,vP (L.b d)),(9,.slice (some ⟨b1,0,none⟩) (ps.length) (ps.length)),(21,.slice (some ⟨b1,0,none⟩) (ps.length) (ps.length)),(22,vI ↑ps.length),(23,vI ↑j)]) (λ(j:Nat)=>[pO S.O L,pE S.O L,.abs (aF 9 1 (some ⟨b1,0,none⟩) ps.length ps.length (nJ ps)),.abs R]) 0 [1,2,0,3] (⟨aio _,λq h=>ain h (aiq q)⟩) ?_))))))))))))
 rintro j ⟨hj,hgd⟩
 refine SR (jK 1 [24] [] (NN (ak.seq (cP ((((j:Nat):Int):Int)<(((ps.length:Nat):Int):Int)) (λrY=>ak.skip (NX (ak.seq (ak.block (SR (jK 3 [11] [(0,p_ ⟨[],some j,none,none,some (.pointer (some ⟨b1,j,none⟩))⟩ [(Value.pointer (some ⟨b1,0+j*1,none⟩))=(.pointer (some ⟨b1,j,none⟩)),((j:Nat):Int)=((j:Nat):Int),j<ps.length,(⟨b1,0,none⟩:Addr).spot=none] ⟨aii,rfl,zc,rfl,trivial⟩),(1,p_ ⟨[.view 2 (.string (pc ps j))],none,none,none,none⟩ [(∀F w,(aF 9 1 (some ⟨b1,0,none⟩) ps.length ps.length (nJ ps)).h F w->w.cell? ⟨b1,j,none⟩=some (.string (pc ps j)))] ⟨aF.cell (Eh zc),trivial⟩)] (NS (jK 1 [27] [] (gE [] (AL (pc ps j) (by have:=Xy j zc;omega)) (jK 1 [29] [] (NN (cN (ck (pc ps j)) (λDt=>SR (jK 3 [6,7,8] [] (NN (ak.ret (ay.fT (ay.bB (ay.bB (ay.fT (ay.bB (RT _ [0,1,3] (⟨ail (I4 L) (ai0 (show nG S.O d path=.error 95 from aij (λh=>Dt (Ei.1 (au ▸ h) j zc)))),rfl⟩))))))))))) (λDt=>ak.skip (BX (ak.region (jK 2 [23] [(0,wJ ((j:Int)+1) (↑(j+1)))] (NL (tJ ((j+1)) [0,1,2,3] (⟨zc,λq hq=>(ais.1 hq).elim (hgd q) (λe=>e ▸ Dt)⟩))))))))))))))))))) (λrY=>XX (SR ?_))))))
 have jW:∀p∈ps,ck p:=Ei.2 (λq hq=>hgd q zc)
 refine jK 4 [12] [(2,wJ ((ps.length:Int)-1) (↑(ps.length-1)))] (NN (SQ (jK 5 [36,37,38] [(2,xP (ps.length-1) ((ps.length-1)<=ps.length))] (NN (ak.block (lJ (λ(j,e)=>(j<=ps.length-1)/\(aQ S.aq ⟨e,2⟩)/\(qt S.O d ps=qt S.O e (ps.drop j))) (λ(j,e)=>ps.length-1-j) (λ(j,e)=>[(1,vP (L.b e)),(9,.slice (some ⟨b1,0,none⟩) (ps.length) (ps.length)),(12,vI ↑(ps.length-1)),(36,.slice (some ⟨b1,0,none⟩) ((ps.length-1)) (ps.length)),(37,vI ↑(ps.length-1)),(38,vI ↑j)]) (λ(j,e)=>[pO S.O L,pE S.O L,.abs (aF 9 1 (some ⟨b1,0,none⟩) ps.length ps.length (nJ ps)),.abs R]) (0,d) [0,1,2,3] (⟨aio _,hd,by rw [List.drop_zero]⟩) ?_))))))
 rintro⟨j,e⟩ ⟨hj,dL,hw⟩
 have hke:(af S.O e).kind=2:=hI.kind dL
 refine SR (jK 1 [39] [] (NN (ak.seq (cP ((((j:Nat):Int):Int)<((((ps.length-1):Nat):Int):Int)) (λnN=>?_) (λnN=>?_)))))
 ·have wv:(pc ps j).size<=1048576:=Xy j zc
  have hee:(af S.O e).ah.length<=8192:=hI.lZ dL
  refine ak.skip (NX (ak.seq (ak.block (SR (jK 3 [14] [(0,p_ ⟨[],some j,none,none,some (.pointer (some ⟨b1,j,none⟩))⟩ [(Value.pointer (some ⟨b1,0+j*1,none⟩))=(.pointer (some ⟨b1,j,none⟩)),((j:Nat):Int)=((j:Nat):Int),j<(ps.length-1),(⟨b1,0,none⟩:Addr).spot=none] ⟨aii,rfl,zc,rfl,trivial⟩),(1,p_ ⟨[.view 2 (.string (pc ps j))],none,none,none,none⟩ [(∀F w,(aF 9 1 (some ⟨b1,0,none⟩) ps.length ps.length (nJ ps)).h F w->w.cell? ⟨b1,j,none⟩=some (.string (pc ps j)))] ⟨aF.cell (Eh zc),trivial⟩)] (NN (ak.seq ?_)))))))
  rcases hI.tF dL (pc ps j) with eu|⟨tk,eu,bX⟩|⟨tk,eu,bX⟩|⟨tk,eu,bX⟩
  ·exact ak.region (jK 5 [45,46] [(3,v_ 0 (dx L hke))] (nI 1 hke eu (NN (ak.block (SR (jK 1 [48] [] (NN (CT (SR (jK 1 [] [] (NS (jK 3 [6,7,8] [] (NN (ak.ret (ay.fT (ay.fT (ay.bB (ay.bB (ay.fT (ay.bB (RT _ [0,1,3] (⟨ail (I4 L) (ai0 (show nG S.O d path=.error 170 from (show nG S.O d path=qt S.O d ps by unfold nG;rw [←au];exact aik jW).trans (hw.trans ((Cu zc).trans (by rw [eu]<;>rfl))))),rfl⟩))))))))))))))))))))))
  ·have bA:(af S.O tk).kind=1:=hI.kind bX
   exact ak.region (jK 5 [45,46] [(3,v_ 0 (dx L hke))] (nI 1 hke eu (NN (ak.block (SR (jK 1 [48] [] (NN (CF (SR (jK 3 [50,51] [] (NN (CF (SR (jK 3 [53,54] [] (NN (CT (SR (jK 1 [] [] (NS (jK 3 [6,7,8] [] (eN ⟨ail (I4 L) (ai0 (show nG S.O d path=.error 173 from (show nG S.O d path=qt S.O d ps by unfold nG;rw [←au];exact aik jW).trans (hw.trans ((Cu zc).trans (by rw [eu]<;>rfl))))),rfl⟩ [0,1,3])))))))))))))))))))))
  ·have bA:(af S.O tk).kind=2:=hI.kind bX
   exact ak.region (jK 5 [45,46] [(3,v_ 0 (dx L hke))] (nI 1 hke eu (NN (ak.block (SR (jK 1 [48] [] (NF (SR (jK 3 [50,51] [] (NF (SR (jK 3 [53,54] [] (NF (SR (jK 3 [56,57] [] (NT (SR (jK 1 [18] [] (NN (ak.region (jK 2 [1] [] (LX (ak.region (jK 2 [38] [(0,wJ ((j:Int)+1) (↑(j+1)))] (NL (tJ ((j+1),tk) [0,1,2,3] (⟨zc,bX,hw.trans ((Cu zc).trans (by rw [eu]<;>rfl))⟩)))))))))))))))))))))))))))
  have bA:(af S.O tk).kind=3:=hI.kind bX
  exact ak.region (jK 5 [45,46] [(3,v_ 0 (dx L hke))] (nI 1 hke eu (NN (ak.block (SR (jK 1 [48] [] (NF (SR (jK 3 [50,51] [] (NT (SR (jK 1 [] [] (NS (jK 3 [6,7,8] [] (eN ⟨ail (I4 L) (ai0 (show nG S.O d path=.error 174 from (show nG S.O d path=qt S.O d ps by unfold nG;rw [←au];exact aik jW).trans (hw.trans ((Cu zc).trans (by rw [eu]<;>rfl))))),rfl⟩ [0,1,3])))))))))))))))
 have ej:j=ps.length-1:=zc
 exact XX (SQ (jK 5 [64] [(4,v_ 0 (uH L hke))] (NN (ak.cond (b:=(af S.O e).aE) (λ_=>KB) (λXz=>zR ⟨ail (I4 L) (ai0 ((show nG S.O d path=qt S.O d ps by unfold nG;rw [←au];exact aik jW).trans (hw.trans ((Nj zc).trans (aik Xz))))),rfl⟩ [0,1,3]) (λXz=>KX (ak.seq (rQ (jQ 8 [6,7,8] [(3,p_ ⟨[],some (ps.length-1),none,none,some (.pointer (some ⟨b1,(ps.length-1),none⟩))⟩ [(Value.pointer (some ⟨b1,0+(ps.length-1)*1,none⟩))=(.pointer (some ⟨b1,(ps.length-1),none⟩)),(((ps.length-1):Nat):Int)=(((ps.length-1):Nat):Int),(ps.length-1)<ps.length,(⟨b1,0,none⟩:Addr).spot=none] ⟨aii,rfl,zc,rfl,trivial⟩),(4,p_ ⟨[.view 2 (.string (pc ps (ps.length-1)))],none,none,none,none⟩ [(∀F w,(aF 9 1 (some ⟨b1,0,none⟩) ps.length ps.length (nJ ps)).h F w->w.cell? ⟨b1,(ps.length-1),none⟩=some (.string (pc ps (ps.length-1))))] ⟨aF.cell (Eh zc),trivial⟩)] (NQ (NX (ak.ret (RT (.tuple #[vP (L.b e),.string (pc ps (ps.length-1)),vI 0]) [0,1,3] (⟨by rw [←ej];exact ail (I4 L) (ai0 (show nG S.O d path=.ok (e,pc ps j) from (show nG S.O d path=qt S.O d ps by unfold nG;rw [←au];exact aik jW).trans (hw.trans ((Nj zc).trans (aij (by rw [Xz];exact Bool.false_ne_true)))))),rfl⟩)))))))))))))
theorem adu {β:Bs} (S:br) (L:HL) (f m t:Nat) (hI:bO S) (aj:Int) (hrw:(Lit.int .i64 aj).wf=true) (a:dh) (Xy:a.path.size<=1048576) (htz:a.to.size<=1048576) (hxz:a.text.size<=1048576) (hg:kH β) :
 aU Tryz.prog β 227 #[vP f,vI (aj),.agg #[vI (a.at_),vI (a.op),.string a.path,.string a.to,.string a.text]] [.ax f [vI (S.X.cN),vI (S.X.cB),vI (S.X.cH),vI (S.X.cS),vI (S.X.cZ),.map (some m),vP t,vI (S.X.last),vI (S.X.ah),vI (S.X.used)] 135,.abs (bM Tryz.prog 3 m (cQ (cV L S.aq)) S.aq.length),.abs (fX 182 t S.X.cH S.aI (cV L S.us)),.abs (aW (eE S.O L)),.abs (aW (dS S.O L)),.abs (aW (fZ S.O L))] (λv l=>∃L2,v=vI (cK S aj a).1/\l=[.ax f [vI ((cK S aj a).2.X.cN),vI ((cK S aj a).2.X.cB),vI ((cK S aj a).2.X.cH),vI ((cK S aj a).2.X.cS),vI ((cK S aj a).2.X.cZ),.map (some m),vP t,vI ((cK S aj a).2.X.last),vI ((cK S aj a).2.X.ah),vI ((cK S aj a).2.X.used)] 135,.abs (bM Tryz.prog 3 m (cQ (cV L2 (cK S aj a).2.aq)) ((cK S aj a).2.aq.length)),.abs (fX 182 t (cK S aj a).2.X.cH ((cK S aj a).2.aI) (cV L2 ((cK S aj a).2.us))),.abs (aW (eE ((cK S aj a).2.O) L2)),.abs (aW (dS ((cK S aj a).2.O) L2)),.abs (aW (fZ ((cK S aj a).2.O) L2))]):=by
 have hX:=hI.hX
 refine SE Tryz.func227 Tryz.ntmps227 (λR=>SR (jB 2 [5] (λb1=>.ax b1 [vI (a.at_),vI (a.op),.string a.path,.string a.to,.string a.text] 68) (λb1=>NZ (jK 4 [25] [(1,a_ 7 b1)] (sP 25 ((a.op:Int)<(1:Int)) (λqi=>jK 4 [29] [] (NT (zR ⟨L,by rw [show (cK S aj a)=(230,S) by unfold cK;exact aik zc]<;>exact⟨rfl,rfl⟩⟩))) (λqi=>jK 4 [29] [(1,a_ 7 b1)] (NN (cP ((a.op:Int)>(7:Int)) (λDt=>zR ⟨L,by rw [show (cK S aj a)=(230,S) by unfold cK;exact aik zc]<;>exact⟨rfl,rfl⟩⟩) (λDt=>KX (ak.seq ?_))))))))))
 rcases hI.aer aj with fC|⟨tk,fC,bX⟩|⟨tk,fC,bX⟩|⟨tk,fC,bX⟩
 ·exact ak.region (jK 5 [33,34] [(3,a_ 0 f)] (ar.jj 1 (d:=(some 35)) (t:=129) (K:=3) (E:=133) (b:=m) (n:=S.aq.length) (f:=(cQ (cV L S.aq))) (x:=(.tmp 33)) (ix:=(.tmp 34)) (key:=vI (aj)) (z:=.nilIface) (kl:=(.int .i64 aj)) (r:=none) (λ_=>KB) KB (λ_=>KB) (λ_=>KB) iZ Tryz.underlying129 (λ_=>KB) (mP hrw) (by rw [j8,fC];rfl) (jK 1 [7] [] (NZ (jK 2 [37] [] (NT (zR ⟨L,by rw [show (cK S aj a)=(141,S) by unfold cK;rw [aij zc,fC]]<;>exact⟨rfl,rfl⟩⟩)))))))
 ·have bA:(af S.O tk).kind=1:=hI.kind bX
  exact ak.region (jK 5 [33,34] [(3,a_ 0 f)] (ar.jj 1 (d:=(some 35)) (t:=129) (K:=3) (E:=133) (b:=m) (n:=S.aq.length) (f:=(cQ (cV L S.aq))) (x:=(.tmp 33)) (ix:=(.tmp 34)) (key:=vI (aj)) (z:=.nilIface) (kl:=(.int .i64 aj)) (r:=(some (iB L ⟨tk,1⟩))) (λ_=>KB) KB (λ_=>KB) (λ_=>KB) iZ Tryz.underlying129 (λ_=>KB) (mP hrw) (by rw [j8,fC];rfl) (jK 1 [7] [] (NZ (jK 2 [37] [] (NF (KX (SR (jK 7 [8,9] [] (NZ (jK 2 [44] [] (NT (zR ⟨L,by rw [show (cK S aj a)=(173,S) by unfold cK;rw [aij zc,fC];simp only;exact aij aii]<;>exact⟨rfl,rfl⟩⟩)))))))))))))
 ·have bA:(af S.O tk).kind=2:=hI.kind bX
  refine ak.region (jK 5 [33,34] [(3,a_ 0 f)] (ar.jj 1 (d:=(some 35)) (t:=129) (K:=3) (E:=133) (b:=m) (n:=S.aq.length) (f:=(cQ (cV L S.aq))) (x:=(.tmp 33)) (ix:=(.tmp 34)) (key:=vI (aj)) (z:=.nilIface) (kl:=(.int .i64 aj)) (r:=(some (iB L ⟨tk,2⟩))) (λ_=>KB) KB (λ_=>KB) (λ_=>KB) iZ Tryz.underlying129 (λ_=>KB) (mP hrw) (by rw [j8,fC];rfl) (jK 1 [7] [] (NZ (jK 2 [37] [] (NF (KX (SR (jK 7 [8,9] [] (NZ (jK 2 [44] [] (NF (KX (SR (jK 4 [46,47,49] [(3,a_ 7 b1)] ?_)))))))))))))))
  rcases yU hI bX a.path with ⟨e,pP,cu⟩|⟨d,name,pP,hd,mr,j7⟩
  ·exact gE [3,5] ((by have h:=GI (β:=β) S L f hI tk bX a.path Xy hg;rw [pP] at h;exact h)) (jK 7 [10,11,12] [] (NZ (jK 2 [55] [] (NN (cN ((e:Int)=(0:Int)) (λh55=>zR ⟨L,by rw [show (cK S aj a)=(e,S) by unfold cK;rw [aij zc,fC];simp only;rw [aik trivial,pP]]<;>exact⟨rfl,rfl⟩⟩ [2,3,4,0,5,1,6]) (λh55=>ain h55 cu))))))
  have dP:(af S.O d).kind=2:=hI.kind hd
  have eG:name.size<=1048576:=Ni j7
  refine gE [3,5] ((by have h:=GI (β:=β) S L f hI tk bX a.path Xy hg;rw [pP] at h;exact h)) (jK 7 [10,11,12] [] (NZ (jK 2 [55] [] (NF (KX (SQ (jK 2 [58] [(1,a_ 7 b1)] (NN (ak.block (SR (jK 2 [59] [] (NN (cP ((a.op:Int)=(1:Int)) (λwL=>?_) (λwL=>?_))))))))))))))
  ·refine SQ (jK 3 [61,62,63] [] (gE [2,3,1,0] (Cr S L f m t hI d hd name eG) (jK 1 [12] [] (NS (jK 2 [66] [] (NN (cN (((gi S.X S.O S.aq d name):Int)=(0:Int)) (λh0=>zR ⟨L,by rw [show (cK S aj a)=(gi S.X S.O S.aq d name,S) by unfold cK;rw [aij zc,fC];simp only;rw [aik trivial,pP];simp only;unfold oo;rw [aik zc];unfold sW;exact aij h0]<;>exact⟨rfl,rfl⟩⟩ [0,1,4,3,5,2,6]) (λh0=>?_))))))))
   have iV:=vM h0
   refine KX (SR (jK 1 [68] [] (gE [0] (Cq S.X f m t hX 420) (jB 2 [71] (λb2=>.ax b2 [vI (S.X.last+1),vI (420),vI 0,vI 0,vI (S.X.cS),vI (S.X.cZ),vI 0,vI 0,.bool false,.slice none (0) (0)] 140) (λb2=>?_)))))
   obtain⟨L2,fN⟩:∃L2:HL,L2=L.put (bw S.X) b2 0 none 0:=⟨_,rfl⟩
   have hfr:=hI.toInv0.fresh
   refine ar.mem (λw hS=>hS.BZ fN hfr (o:=(cM S.X 1 420)) (i:=3) (j:=8) (ix:=[0,1,2,4,5,6,7]) rfl rfl KB rfl (by show (1:Int)≠0;decide) ((mR (L:=L2) (k:=(bw S.X)) (o:=(cM S.X 1 420)) rfl).trans (by rw [show L2.dA (bw S.X)=none by rw [fN];exact aik rfl,show L2.dC (bw S.X)=0 by rw [fN];exact aik rfl];rfl)) rfl) (ar.gA [(3,pE (aX S.O (bw S.X) (λ_=>(cM S.X 1 420))) L2)] (λw hS=>hS.Dl fN hfr (o:=(cM S.X 1 420)) (i:=3) rfl (by show (1:Int)≠2;decide)) (ar.mem (λw hS=>hS.mQ (e:=5) (size:=1)) (ar.mem (λw hS=>hS.UA fN (o:=(cM S.X 1 420)) (i:=5) (j:=8) (ix:=[0,1,2,3,4,6,7]) rfl rfl KB rfl rfl rfl) (ar.gA [(3,.abs (bM Tryz.prog 3 m (cQ (cV L2 S.aq)) S.aq.length)),(5,.abs (fX 182 t S.X.cH S.aI (cV L2 S.us)))] (λw hS=>by rw [mD fN hfr.aq,mD fN hfr.us];exact hS) (jK 1 [13] [] (NS (jK 5 [72,73,74,76] [] (gE [2,3,1,4] ((by have h:=zO (β:=β) S L2 f m t hI.toInv0 d hd name eG iV (cM S.X 1 420) rfl (by simp [cM]) rfl (xV h0);rw [DZ fN (hI.Dk hd),vL fN] at h;exact h)) (NS (ar.gA [(4,.abs (aW (dS ((fY S d name (cM S.X 1 420)).O) L2)))] (λw hS=>by rw [show dS ((fY S d name (cM S.X 1 420)).O) L2=dS (aX S.O (bw S.X) (λ_=>(cM S.X 1 420))) L2 from mU];exact hS) ?_))))))))))
   have XA:bO (fY S d name (cM S.X 1 420)):=hI.Gz hd mr j7 h0 (.inl rfl) ⟨Pd,Pd⟩ (.inl ⟨Pd,rfl⟩)
   have Wq:aQ (fY S d name (cM S.X 1 420)).aq ⟨(bw S.X),1⟩:=PU hI (o:=(cM S.X 1 420))
   exact jK 4 [78,79,81] [(3,a_ 7 b1)] (ar.Ej (d:=(some 82)) (t1:=9) (t2:=51) (e:=5) (x:=(.tmp 81)) (s:=a.text) (λ_=>KB) (λ_=>KB) Tryz.underlying9 Tryz.underlying51 Tryz.underlying5 (λb3 c4 ahd=>gX [8,0,1,5,2,4,3] ((by have h:=Kt (β:=β) (fY S d name (cM S.X 1 420)) L2 f m t XA (bw S.X) Wq (some ⟨b3,0,none⟩) c4 a.text.data.toList (by rw [Array.length_toList];have:a.text.data.size=a.text.size:=rfl;omega) ahd;rw [JY fN] at h;exact h)) (λL3=>NS (jK 1 [6] [] (eN ⟨L3,by rw [show (cK S aj a)=(0,(gy (fY S d name (cM S.X 1 420)) (bw S.X) a.text.data.toList).2.2) by unfold cK;rw [aij zc,fC];simp only;rw [aik trivial,pP];simp only;unfold oo;rw [aik zc];unfold sW;exact aik h0]<;>exact⟨rfl,rfl⟩⟩)))))
  refine SR (jK 2 [84] [] (NN (cP ((a.op:Int)=(2:Int)) (λh84=>SR (jK 3 [86,87,88] [] (gX [2,3,4,0,5,1] (M0 S L f m t hI d hd name eG 493) (λL2=>jK 1 [6] [] (eN ⟨L2,by rw [show (cK S aj a)=((mT S d name 493).1,(mT S d name 493).2) by unfold cK;rw [aij zc,fC];simp only;rw [aik trivial,pP];simp only;unfold oo;rw [aij zc];exact aik zc]<;>exact⟨rfl,rfl⟩⟩))))) (λh84=>SR (jK 2 [90] [] (NN (cP ((a.op:Int)=(3:Int)) (λwK=>SR (jK 5 [92,93,94,96] [(4,a_ 7 b1)] (gX [2,3,4,0,5,1] (Ht S L f m t hI d hd name eG a.text hxz) (λL2=>jK 1 [6] [] (eN ⟨L2,by rw [show (cK S aj a)=((jt S d name a.text).1,(jt S d name a.text).2) by unfold cK;rw [aij zc,fC];simp only;rw [aik trivial,pP];simp only;unfold oo;rw [aij zc];rw [aij zc];exact aik zc]<;>exact⟨rfl,rfl⟩⟩))))) (λwK=>SR (jK 2 [98] [] (NN (cP ((a.op:Int)=(4:Int)) (λXB=>SR (jK 3 [100,101,102] [] (gX [2,3,4,0,5,1] (Kl S L f m t hI d hd name eG) (λL2=>jK 1 [6] [] (eN ⟨L2,by rw [show (cK S aj a)=((iE S d name).1,(iE S d name).2) by unfold cK;rw [aij zc,fC];simp only;rw [aik trivial,pP];simp only;unfold oo;rw [aij zc];rw [aij zc];rw [aij zc];exact aik zc]<;>exact⟨rfl,rfl⟩⟩))))) (λXB=>SR (jK 2 [104] [] (NN (cP ((a.op:Int)=(5:Int)) (λahe=>SR (jK 3 [106,107,108] [] (gX [2,3,4,0,5,1] (M4 S L f m t hI d hd name eG) (λL2=>jK 1 [6] [] (eN ⟨L2,by rw [show (cK S aj a)=((jf S d name).1,(jf S d name).2) by unfold cK;rw [aij zc,fC];simp only;rw [aik trivial,pP];simp only;unfold oo;rw [aij zc];rw [aij zc];rw [aij zc];rw [aij zc];exact aik zc]<;>exact⟨rfl,rfl⟩⟩))))) (λahe=>SR (jK 2 [110] [] (NN (cP ((a.op:Int)=(6:Int)) (λahf=>?_) (λahf=>?_))))))))))))))))))))
  ·refine SR (jK 4 [113,114,116] [(3,a_ 7 b1)] ?_)
   rcases yU hI bX a.to with ⟨e2,Ku,Qh⟩|⟨to,aB,Ku,hd2,aeM,aan⟩
   ·exact gE [0,1] ((by have h:=GI (β:=β) S L f hI tk bX a.to htz hg;rw [Ku] at h;exact h)) (jK 7 [14,15,16] [] (NZ (jK 2 [122] [] (NN (cN ((e2:Int)=(0:Int)) (λUo=>zR ⟨L,by rw [show (cK S aj a)=(e2,S) by unfold cK;rw [aij zc,fC];simp only;rw [aik trivial,pP];simp only;unfold oo;rw [aij zc];rw [aij zc];rw [aij zc];rw [aij zc];rw [aij zc];rw [aik zc];rw [Ku]]<;>exact⟨rfl,rfl⟩⟩ [2,3,4,0,5,1,6]) (λUo=>ain Uo Qh))))))
   have jv:(af S.O to).kind=2:=hI.kind hd2
   have wv:aB.size<=1048576:=Ni aan
   exact gE [0,1] ((by have h:=GI (β:=β) S L f hI tk bX a.to htz hg;rw [Ku] at h;exact h)) (jK 7 [14,15,16] [] (NZ (jK 2 [122] [] (NF (KX (SR (jK 5 [124,125,126,127,128] [] (gX [2,3,4,0,5,1] (Km S L f m t hI d hd name eG to hd2 aB wv) (λL2=>jK 1 [6] [] (eN ⟨L2,by rw [show (cK S aj a)=((dw S d name to aB).1,(dw S d name to aB).2) by unfold cK;rw [aij zc,fC];simp only;rw [aik trivial,pP];simp only;unfold oo;rw [aij zc];rw [aij zc];rw [aij zc];rw [aij zc];rw [aij zc];rw [aik zc];rw [Ku]]<;>exact⟨rfl,rfl⟩⟩))))))))))
  refine KX (ak.seq (ak.seq ?_))
  have hel:(af S.O d).ah.length<=8192:=hI.lZ hd
  have Xk:=eG
  rcases hI.tF hd name with d6|⟨ok,d6,jI⟩|⟨ok,d6,jI⟩|⟨ok,d6,jI⟩
  ·exact ak.region (jK 5 [133,134] [(3,v_ 0 (dx L dP))] (nI 1 dP d6 (NN (ak.block (SR (jK 3 [137,138] [] (NF (SR (jK 3 [140,141] [] (NF (SR (jK 3 [143,144] [] (NF (KX (zR ⟨L,by rw [show (cK S aj a)=(170,S) by unfold cK;rw [aij zc,fC];simp only;rw [aik trivial,pP];simp only;unfold oo;rw [aij zc];rw [aij zc];rw [aij zc];rw [aij zc];rw [aij zc];rw [aij zc];unfold pW;rw [d6]]<;>exact⟨rfl,rfl⟩⟩ [2,3,4,0,5,1,6])))))))))))))))
  ·have rU:(af S.O ok).kind=1:=hI.kind jI
   exact ak.region (jK 5 [133,134] [(3,v_ 0 (dx L dP))] (nI 1 dP d6 (NN (ak.block (SR (jK 3 [137,138] [] (NF (SR (jK 3 [140,141] [] (NF (SR (jK 3 [143,144] [] (NT (SR (jK 1 [19] [] (NS (jK 4 [146,147,149] [(3,a_ 7 b1)] (ar.Ej (d:=(some 150)) (t1:=9) (t2:=51) (e:=5) (x:=(.tmp 149)) (s:=a.text) (λ_=>KB) (λ_=>KB) Tryz.underlying9 Tryz.underlying51 Tryz.underlying5 (λb6 c7 ahg=>gX [8,2,3,4,0,5,1] (Kt (β:=β) S L f m t hI ok jI (some ⟨b6,0,none⟩) c7 a.text.data.toList (by rw [Array.length_toList];have:a.text.data.size=a.text.size:=rfl;omega) ahg) (λL3=>jK 5 [21] [] (NS (jK 2 [6] [] (eN ⟨L3,by rw [show (cK S aj a)=((gy S ok a.text.data.toList).2.1,(gy S ok a.text.data.toList).2.2) by unfold cK;rw [aij zc,fC];simp only;rw [aik trivial,pP];simp only;unfold oo;rw [aij zc];rw [aij zc];rw [aij zc];rw [aij zc];rw [aij zc];rw [aij zc];unfold pW;rw [d6];exact (aij aii).trans (aij aii)]<;>exact⟨rfl,rfl⟩⟩)))))))))))))))))))))))
  ·have rU:(af S.O ok).kind=2:=hI.kind jI
   exact ak.region (jK 5 [133,134] [(3,v_ 0 (dx L dP))] (nI 1 dP d6 (NN (ak.block (SR (jK 3 [137,138] [] (NF (SR (jK 3 [140,141] [] (NT (SR (jK 1 [] [] (NS (jK 1 [6] [] (eN ⟨L,by rw [show (cK S aj a)=(172,S) by unfold cK;rw [aij zc,fC];simp only;rw [aik trivial,pP];simp only;unfold oo;rw [aij zc];rw [aij zc];rw [aij zc];rw [aij zc];rw [aij zc];rw [aij zc];unfold pW;rw [d6];exact (aij aii).trans (aik rfl)]<;>exact⟨rfl,rfl⟩⟩ [2,3,4,0,5,1,6])))))))))))))))
  have rU:(af S.O ok).kind=3:=hI.kind jI
  exact ak.region (jK 5 [133,134] [(3,v_ 0 (dx L dP))] (nI 1 dP d6 (NN (ak.block (SR (jK 3 [137,138] [] (NT (SR (jK 1 [] [] (NS (jK 1 [6] [] (eN ⟨L,by rw [show (cK S aj a)=(174,S) by unfold cK;rw [aij zc,fC];simp only;rw [aik trivial,pP];simp only;unfold oo;rw [aij zc];rw [aij zc];rw [aij zc];rw [aij zc];rw [aij zc];rw [aij zc];unfold pW;rw [d6];exact aik rfl]<;>exact⟨rfl,rfl⟩⟩ [2,3,4,0,5,1,6]))))))))))))
 have bA:(af S.O tk).kind=3:=hI.kind bX
 exact ak.region (jK 5 [33,34] [(3,a_ 0 f)] (ar.jj 1 (d:=(some 35)) (t:=129) (K:=3) (E:=133) (b:=m) (n:=S.aq.length) (f:=(cQ (cV L S.aq))) (x:=(.tmp 33)) (ix:=(.tmp 34)) (key:=vI (aj)) (z:=.nilIface) (kl:=(.int .i64 aj)) (r:=(some (iB L ⟨tk,3⟩))) (λ_=>KB) KB (λ_=>KB) (λ_=>KB) iZ Tryz.underlying129 (λ_=>KB) (mP hrw) (by rw [j8,fC];rfl) (jK 1 [7] [] (NZ (jK 2 [37] [] (NF (KX (SR (jK 7 [8,9] [] (NZ (jK 2 [44] [] (NT (zR ⟨L,by rw [show (cK S aj a)=(173,S) by unfold cK;rw [aij zc,fC];simp only;exact aij aii]<;>exact⟨rfl,rfl⟩⟩)))))))))))))
end
section
open Go.RowKit Go.Maps bF aD
attribute [local irreducible] ar bN ak ay bZ
theorem aeU {β:Bs} (S:br) (L:HL) (o q f m t am an km kn n:Nat) (Z:AZ) (fs:List cL) (xs:List dh) (aj:Int) (hrw:(Lit.int .i64 aj).wf=true) (hI:bO S) (hn:n<=8388608) (k:Int) (hk:iQ fs ((n+1:Nat):Int)=k) (hZ:nH β Z xs) (hX:jq xs 1048576) (hg:kH β) (c:aH) (hC:kU β c) :
 aU Tryz.prog β 226 #[vP o,.agg ⟨aO c⟩] ([.ax o [.iface 109 (vP q),vP f,vI (aj),.map (some am),vI (((n:Nat):Int))] 113,.ax q [.iface 76 (vP f),.map (some km),vI (((n:Nat):Int))] 111,.abs (bM Tryz.prog 3 am (lK Z xs) an)]++Xw km fs kn f m t S L) (λv l=>∃L2,v=.agg ⟨aO (dW k (kW aj S (dN xs ((n+1:Nat):Int))) c).2⟩/\l=[.ax o [.iface 109 (vP q),vP f,vI (aj),.map (some am),vI ((((n+1):Nat):Int))] 113,.ax q [.iface 76 (vP f),.map (some km),vI ((((n+1):Nat):Int))] 111,.abs (bM Tryz.prog 3 am (lK Z xs) an),.abs (bM Tryz.prog 3 km (iz fs) kn),pF f m t ((dW k (kW aj S (dN xs ((n+1:Nat):Int))) c).1.X),.abs (bM Tryz.prog 3 m (cQ (cV L2 (dW k (kW aj S (dN xs ((n+1:Nat):Int))) c).1.aq)) ((dW k (kW aj S (dN xs ((n+1:Nat):Int))) c).1.aq.length)),pT t (dW k (kW aj S (dN xs ((n+1:Nat):Int))) c).1.X.cH ((dW k (kW aj S (dN xs ((n+1:Nat):Int))) c).1.aI) L2 ((dW k (kW aj S (dN xs ((n+1:Nat):Int))) c).1.us),pO ((dW k (kW aj S (dN xs ((n+1:Nat):Int))) c).1.O) L2,pD ((dW k (kW aj S (dN xs ((n+1:Nat):Int))) c).1.O) L2,pE ((dW k (kW aj S (dN xs ((n+1:Nat):Int))) c).1.O) L2]):=by
 obtain⟨ys,hys⟩:∃ys,dN xs ((n+1:Nat):Int)=ys:=⟨_,rfl⟩
 obtain⟨EG,has⟩:∃a,aA Z xs ((n+1:Nat):Int)=a:=⟨_,rfl⟩
 obtain⟨ac_,hac⟩:∃a,aC Z xs ((n+1:Nat):Int)=a:=⟨_,rfl⟩
 have hrow:=hZ ((n+1:Nat):Int)
 rw [hys,has] at hrow
 have hyb:∀{i},i<ys.length->Fv (act ys i) 1048576:=λ{i} h=>hX.q _ (UM (x:=((n+1:Nat):Int)) (by rw [hys];exact aiU (zY h)))
 have wG:ys.length<=1048576:=by rw [←hys];exact air (J9 _) hX.len
 rw [show dN xs ((n+1:Nat):Int)=ys from hys]
 obtain⟨SA,hSA⟩:∃SA,kW aj S ys=SA:=⟨_,rfl⟩
 rw [hSA]
 refine SE Tryz.func226 Tryz.ntmps226 (λR=>SR (jB 1 [3] (λb1=>.ax b1 (aO c) 53) (λb1=>jB 1 [4] (λb2=>.ax b2 [vI 0,vI 0,vI 0,.string ⟨#[]⟩,.string ⟨#[]⟩,.slice none (0) (0),vI 0,vI 0,vI 0,vI 0,vI 0,vI 0,vI 0] 53) (λb2=>NS (jC 8 [] [(3,a_ 0 o),(4,wJ ((n:Int)+1) (↑(n+1))),(7,a_ 0 o)] [(0,[(4,vI ↑(n+1))])] (NN (ak.seq (ak.seq (rQ (jQ 8 [17,21] [(3,a_ 0 o),(7,a_ 0 o)] (bN.jj 2 (d:=(some 22)) (t:=106) (K:=3) (E:=30) (b:=am) (n:=an) (f:=(lK Z xs)) (x:=(.tmp 17)) (ix:=(.tmp 21)) (key:=vI ↑(n+1)) (z:=.slice none (0) (0)) (kl:=(.int .i64 ((n+1:Nat):Int))) (r:=(lK Z xs (.int .i64 ((n+1:Nat):Int)))) (λ_=>KB) KB (λ_=>KB) (λ_=>KB) iZ Tryz.underlying106 (λ_=>KB) (mP (W8 zc)) (rfl) (bN.slot 22 (((lK Z xs (.int .i64 ((n+1:Nat):Int))).getD (.slice none 0 0))) (.slice EG (ys.length) (ac_)) (λ_=>KB) (IW.trans (by rw [hys,has,hac])) (jQ 2 [23,24] [] (NQ (NX (ak.block (lJ (ι:=Nat×br×HL) (λ(i,S1,L1)=>(i<=ys.length)/\(S1=kW aj S (ys.take i))/\(bO S1)) (λ(i,S1,L1)=>ys.length-i) (λ(i,S1,L1)=>[(0,vP o),(3,vP b1),(4,vP b2),(22,.slice EG (ys.length) (ac_)),(23,vI ↑ys.length),(24,vI ↑i)]) (λ(i,S1,L1)=>[.ax o [.iface 109 (vP q),vP f,vI (aj),.map (some am),vI ↑(n+1)] 113,.ax q [.iface 76 (vP f),.map (some km),vI ↑n] 111,.abs (bM Tryz.prog 3 am (lK Z xs) an),.abs (bM Tryz.prog 3 km (iz fs) kn),pC b1 c,Xv b2,pF f m t S1.X,pI m L1 S1.aq,pT t S1.X.cH S1.aI L1 S1.us,pO S1.O L1,pD S1.O L1,pE S1.O L1,.abs R]) (0,S,L) [0,1,2,3,11,12,4,5,6,7,8,9,10] (⟨aio _,rfl,hI⟩) ?_)))))))))))))))))
 rintro⟨i,S1,L1⟩ ⟨hi,hs1,di⟩
 refine SR (jK 1 [25] [] (NN (ak.seq (cP ((((i:Nat):Int):Int)<(((ys.length:Nat):Int):Int)) (λqi=>KX (ak.seq (ak.block (SR (jN 4 [6] (λb3=>[(0,x_ i ys.length (Oq hrow (i:=i) zc)),(1,p_ ⟨[.old (.int .i64 ((act ys i).at_)),.old (.int .i64 ((act ys i).op)),.old (.string (act ys i).path),.old (.string (act ys i).to),.old (.string (act ys i).text)],none,none,none,none⟩ [(Rd β ⟨(bG EG),bE EG+i*5+4,none⟩ (.string (act ys i).text)),(Rd β ⟨(bG EG),bE EG+i*5+3,none⟩ (.string (act ys i).to)),(Rd β ⟨(bG EG),bE EG+i*5+2,none⟩ (.string (act ys i).path)),(Rd β ⟨(bG EG),bE EG+i*5+1,none⟩ (vI ((act ys i).op))),(Rd β ⟨(bG EG),bE EG+i*5,none⟩ (vI ((act ys i).at_)))] ⟨rz hrow (i:=i) zc (j:=4) rfl,rz hrow (i:=i) zc (j:=3) rfl,rz hrow (i:=i) zc (j:=2) rfl,rz hrow (i:=i) zc (j:=1) rfl,rz hrow (i:=i) zc (j:=0) rfl,trivial⟩),(3,A_ 13 b3 5)]) (λ_=>[]) (λb3=>.ax b3 [vI ((act ys i).at_),vI ((act ys i).op),.string (act ys i).path,.string (act ys i).to,.string (act ys i).text] 68) (λb3=>NN (rM (List.range 10) 9 [0,13] (jR 9 [0,3,4,22,23,24,31,35,36] [(3,a_ 0 o),(7,a_ 0 o),(8,A_ 1 b3 5)] (bZ.last rfl rfl (gX [6,7,8,9,10,11] (adu S1 L1 f m t di aj hrw (act ys i) (hyb zc).path (hyb zc).to (hyb zc).text hg) (λL2=>NL (ay.np (BX (ak.region (jK 2 [24] [(0,wJ ((i:Int)+1) (↑(i+1)))] (NL (tJ ((i+1),(cK S1 aj (act ys i)).2,L2) [6,7,8,9,10,11,0,1,2,3,4,5,12] (⟨zc,by rw [hs1];exact (UN zc).symm,di.cK⟩)))))))))))))))))) (λqi=>XX (ak.seq (rM (List.range 7) 5 [0,4] (jR 5 [4,42,43] [(3,a_ 0 o),(4,A_ 1 b1 13)] (mL [8,10] [1,3,6,7,8,9,10,11] (aeT S1 L1 q f m t km kn n fs di hn k hk c hC) ?_ (by rintro _ _ ⟨L2,rfl,rfl⟩;rfl))))))))))
 rintro _ _ ⟨L2,rfl,rfl⟩
 refine bZ.last rfl rfl (jC 1 [] [(0,A_ 11 b2 13)] [(11,(zC (aO ((dW k S1 c).2))))] (NL (ay.np (NX (ak.ret ?_)))))
 have hs2:S1=SA:=by rw [hs1,show i=ys.length by omega,aiK];exact hSA
 subst hs2
 exact rT (.agg ⟨aO ((dW k S1 c).2)⟩) [A_ 11 b2 13] [8,0,9,1,2,3,4,5,6,7,12] (⟨L2,rfl,rfl⟩)
end
section
open Go.RowKit Go.Maps bF aD
theorem FU {β:Bs} (A:Option Addr) (c:Nat) (d:List UInt8) (hA:bp β A d) (hl:d.length<=1048576):bU Tryz.prog β 37 #[.slice A d.length c] [] (λβ' v l=>∃B cap,v=.slice B d.length cap/\l=[]/\bp β' B d/\d.length<=cap):=
 (CV A c d hA zc).Vh (by
  rintro v l ⟨B,cap,rfl,rfl⟩
  refine⟨[],_,rfl,λβ' h=>⟨B,cap,rfl,rfl,h.bytes,?_⟩⟩
  obtain⟨F,h1,_⟩:=h.get 0 rfl
  exact (aF.len h1).2)
theorem adv {β:Bs} (S:br) (L:HL) (o q f m t am an km kn n:Nat) (Z:AZ) (fs:List cL) (xs:List dh) (aj:Int) (hrw:(Lit.int .i64 aj).wf=true) (hI:bO S) (hn:n<=8388608) (hZ:nH β Z xs) (hX:jq xs 1048576) (hg:kH β) (c:aH) (B:Option Addr) (p:Nat) {tG:Int} (ho:tG=if c.op=1 then aj else c.other) (hC:kU β {cY B p c with other:=tG}) {S2:br} {c2:aH} (hW:gM fs xs aj (n+1) S c=(S2,c2)) :
 aU Tryz.prog β 226 #[vP o,.agg ⟨aO {cY B p c with other:=tG}⟩] ([oB o q f aj am n,qB q f km n,aM am an Z xs,kM km kn fs]++pA f m t L S) (λv l=>∃L2,v=.agg ⟨aO (cY B p c2)⟩/\l=[oB o q f aj am (n+1),qB q f km (n+1),aM am an Z xs,kM km kn fs]++pA f m t L2 S2):=by
 have e:({cY B p c with other:=tG}:aH)=cY B p (ct aj c):=by rw [R5 ho];rfl
 rw [e] at hC ⊢
 have h:=aeU S L o q f m t am an km kn n Z fs xs aj hrw hI hn _ rfl hZ hX hg (cY B p (ct aj c)) hC
 rw [MQ] at h
 have hW:dW (iQ fs ((n+1:Nat):Int)) (kW aj S (dN xs ((n+1:Nat):Int))) (ct aj c)=(S2,c2):=hW
 rw [hW] at h
 exact h
end
section
open Go.RowKit Go.Maps
def agu (l:List ByteArray):List Value:=l.map Value.string
def sAt (l:List ByteArray) (i:Nat):ByteArray:=l.getD i ⟨#[]⟩
def ahF (β:Bs) (A:Option Addr) (l:List ByteArray):Prop:=cA β A (agu l)
section strs
variable {β β':Bs} {A:Option Addr} {l:List ByteArray}
end strs
def Sorted (es:List fA):Prop:=∀i j,i<j->j<es.length->vX (en es i).name (en es j).name<0
def Cv (es:List fA) (p:ByteArray):Option Nat:=es.findIdx? (λe=>decide (e.name=p))
theorem Vk {es:List fA} {p:ByteArray} (h:∀j,j<es.length->¬(en es j).name=p):Cv es p=none:=by
 unfold Cv
 rw [List.findIdx?_eq_none_iff]
 intro x hx
 obtain⟨j,hj,rfl⟩:=ai5 hx
 grind [en]
section find
variable {ns:List aL} {k i:Nat} {ps:List ByteArray}
end find
end
section
open Go.RowKit
def iX (es:List fA) (id:Int):Nat->Nat
 |0=>0
 |j+1=>iX es id j+(if (en es j).id=id then 1 else 0)
def nZ (ns:List aL) (id:Int):Nat->Nat
 |0=>0
 |i+1=>nZ ns id i+iX (nd ns i).ah id (nd ns i).ah.length
theorem Nk (es:List fA) (id:Int) (j:Nat):iX es id j<=j:=by
 induction j with
 |zero=>exact aiu _
 |succ j ih=>
   rw [iX]
   split<;>omega
theorem Kv {es:List fA} {id:Int} {j:Nat} (h:(en es j).id=id):iX es id j+1=iX es id (j+1):=by rw [iX,aik h]
theorem Hy {es:List fA} {id:Int} {j:Nat} (h:¬(en es j).id=id):iX es id j=iX es id (j+1):=by rw [iX,aij h];rfl
theorem Vl (ns:List aL) (id:Int) (i:Nat):nZ ns id i<=dI ns i:=by
 induction i with
 |zero=>exact aiu _
 |succ i ih=>
   grind [nZ,dI,Nk,nd]
end
section
open Go.RowKit bF aD Go.Maps
theorem mw.get {β:Bs} {A:Option Addr} {l:List Int} (h:cA β A (bH l)) {j:Nat} (hj:j<l.length):A=some ⟨bG A,bE A,none⟩/\Rd β ⟨bG A,bE A+j*1,none⟩ (.int .i64 (l.getD j 0)):=by
 have:=h j _ (Xo hj)
 rw [Nat.mul_one];exact this
theorem mw.hd {β:Bs} {A:Option Addr} {l:List Int} (h:cA β A (bH l)) {j:Nat} (hj:j<l.length):A=some ⟨bG A,bE A,none⟩:=(mw.get h hj).1
theorem mw.rd {β:Bs} {A:Option Addr} {l:List Int} (h:cA β A (bH l)) {j:Nat} (hj:j<l.length):Rd β ⟨bG A,bE A+j*1,none⟩ (.int .i64 (l.getD j 0)):=(mw.get h hj).2
def ja (us:bC Int):List Int:=us.map (·.2)
theorem mV (us:bC Int):(ja us).length=us.length:=by simp [ja]
theorem j9 {V:Type} (us:bC V):(aY us).length=us.length:=by simp [aY]
def uM:List Int->Int->Int
 |[],_=>-1
 |k::r,h=>if k=h then 0 else if uM r h<0 then -1 else uM r h+1
theorem Qw {ks:List Int} {h:Int}:(∀j,j<ks.length->¬ks.getD j 0=h)->uM ks h = -1:=by
 induction ks with
 |nil=>intro _;rfl
 |cons k r ih=>
   intro hn
   have h0:¬k=h:=hn 0 aii
   have:=ih (λj hj=>by have:=hn (j+1) (by simpa using hj);simpa using this)
   rw [uM,aij h0,this];rfl
theorem XC:∀{ks:List Int} {h:Int} {i:Nat},i<ks.length->ks.getD i 0=h->(∀j,j<i->¬ks.getD j 0=h)->uM ks h=i
 |k::r,h,0,_,e,_=>by
   have e:k=h:=e
   rw [uM,aik e];rfl
 |k::r,h,i+1,hi,e,hn=>by
   have h0:¬k=h:=hn 0 zc
   have:=XC (ks:=r) (h:=h) (i:=i) (by simpa using hi) (by simpa using e) (λj hj=>Pe)
   rw [uM,aij h0,this,aij zc]
   omega
theorem Tt {ks:List Int} {h:Int} (hm:h∈ks):∃i:Nat,uM ks h=i/\i<ks.length/\ks.getD i 0=h:=by
 induction ks with
 |nil=>cases hm
 |cons k r ih=>
   by_cases e:k=h
   ·exact⟨0,by rw [uM,aik e];rfl,aii,e⟩
   rcases aiA.1 hm with e2|hm
   ·exact ain e2.symm e
   obtain⟨i,h1,h2,h3⟩:=ih hm
   exact⟨i+1,by grind [uM],by simpa using h2,by simpa using h3⟩
theorem Tv {ks:List Int} {h:Int} (hm:h∉ks):uM ks h = -1:=Qw (λ_ hj e=>hm (e ▸ Ct hj))
theorem Tw {ks:List Int} {h:Int}:0<=uM ks h↔h∈ks:=by
 grind [Tt,Tv]
theorem tN:∀(ks:List Int) (h:Int),mq h ks<=h+ks.length
 |[],h=>by simp [mq]
 |k::r,h=>by
   rw [mq]
   split
   ·have:=tN r (h+1);simp only [aiV];omega
   simp only [aiV];omega
theorem least_le {V:Type} (us:bC V):aD.aP us<=1+us.length:=by
 have:=tN (aY us) 1
 rw [j9] at this
 exact this
theorem Vm {V:Type} {us:bC V} (hr:aD.dH (aY us)) (hp:∀x∈aY us,1<=x):1<=aD.aP us/\aD.aP us∉aY us/\∀x,1<=x->x<aD.aP us->x∈aY us:=rJ (aY us) 1 hr hp
section ins
variable {h v:Int}
theorem Qx:∀{l:bC Int},(∀p∈l,¬h<p.1)->ins h v l=l++[(h,v)]
 |[],_=>rfl
 |p::r,hn=>by
   rw [ins,aij (hn p (aiw ..)),Qx (λq hq=>hn q (aiv _ hq))];rfl
theorem Nl:∀{l:bC Int} {x:Int×Int},(∀p∈l,¬h<p.1)->h<x.1->ins h v (l++[x])=l++[(h,v),x]
 |[],x,_,hx=>by grind [ins]
 |p::r,x,hn,hx=>by
   rw [aiT,ins,aij (hn p (aiw ..)),Nl (λq hq=>hn q (aiv _ hq)) hx];rfl
theorem Qy:∀{l:bC Int} {x:Int×Int},(∃p∈l,h<p.1)->ins h v (l++[x])=ins h v l++[x]
 |[],_,hd=>by obtain⟨p,hp,_⟩:=hd;cases hp
 |p::r,x,hd=>by
   rw [aiT,ins,ins]
   split
   ·rfl
   rename_i hp
   obtain⟨q,hq,fP⟩:=hd
   rcases aiA.1 hq with e|hq
   ·exact ain (e ▸ fP) hp
   rw [Qy ⟨q,hq,fP⟩];rfl
end ins
def pr (us:bC Int) (i:Nat):Int×Int:=us.getD i (0,0)
theorem Ad {us:bC Int} {i:Nat} (hi:i<us.length):us.take (i+1)=us.take i++[pr us i]:=by
 rw [aiQ]
 grind [pr]
theorem Ai {us:bC Int} {i:Nat} (hi:i<us.length):(aY us).getD i 0=(pr us i).1/\(ja us).getD i 0=(pr us i).2:=by
 grind [aY,ja,pr]
structure mz (us:bC Int) (h v:Int) (i:Nat) (d:Bool) (q:bC Int):Prop where
 yes:d=true->(∃p∈us.take i,h<p.1)/\q=ins h v (us.take i)
 no:d=false->(∀p∈us.take i,¬h<p.1)/\q=us.take i
 len:q.length=i+(if d then 1 else 0)
section put
variable {us q:bC Int} {h v:Int} {i:Nat} {d:Bool}
theorem mz.zero:mz us h v 0 false []:=⟨λe=>(by cases e),λ_=>⟨λp hp=>(by simp at hp),aii⟩,rfl⟩
theorem mz.hit (hp:mz us h v i false q) (hi:i<us.length) (hk:h<(pr us i).1):mz us h v (i+1) true (q++[(h,v)]++[pr us i]):=by
 obtain⟨h1,rfl⟩:=hp.no rfl
 refine⟨λ_=>⟨⟨pr us i,by rw [Ad hi];simp,hk⟩,by rw [Ad hi,Nl h1 hk];simp⟩,λe=>(by cases e),?_⟩
 simp
 omega
theorem mz.miss (hp:mz us h v i false q) (hi:i<us.length) (hk:¬h<(pr us i).1):mz us h v (i+1) false (q++[pr us i]):=by
 obtain⟨h1,rfl⟩:=hp.no rfl
 refine⟨λe=>(by cases e),λ_=>⟨λp hpm=>?_,(Ad hi).symm⟩,by simp;omega⟩
 grind [Ad]
theorem mz.more (hp:mz us h v i true q) (hi:i<us.length):mz us h v (i+1) true (q++[pr us i]):=by
 obtain⟨⟨p,h1,h2⟩,rfl⟩:=hp.yes rfl
 refine⟨λ_=>⟨⟨p,Pe,h2⟩,by grind [Ad,Qy]⟩,λe=>(by cases e),?_⟩
 have:=hp.len
 simp at this ⊢
 omega
theorem mz.last (hp:mz us h v us.length false q):q++[(h,v)]=ins h v us:=by
 obtain⟨h1,rfl⟩:=hp.no rfl
 grind [Qx]
theorem mz.end_ (hp:mz us h v us.length true q):q=ins h v us:=by
 obtain⟨_,rfl⟩:=hp.yes rfl
 rw [aiK]
end put
theorem aaE (q:bC Int) (x:Int×Int):ja (q++[x])=ja q++[x.2]:=by simp [ja]
theorem MP (q:bC Int) (x:Int×Int):aY (q++[x])=aY q++[x.1]:=by simp [aY]
theorem Qz {us:bC Int} {h:Int} {i:Nat} (hi:i<us.length):del h (us.take (i+1))=if (pr us i).1=h then del h (us.take i) else del h (us.take i)++[pr us i]:=by
 grind [Ad,del,pr]
theorem Vn {us:bC Int} {h:Int}:(del h us).length<=us.length:=ai7 ..
theorem Kw {us:bC Int} (hr:aD.dH (aY us)) {i j:Nat} (hi:i<us.length) (hj:j<us.length) (e:(pr us i).1=(pr us j).1):i=j:=by
 rw [←(Ai hi).1,←(Ai hj).1] at e
 rcases ai9 i j with h|h|h
 ·have:=Kr hr h (by rw [j9];exact hj);omega
 ·exact h
 have:=Kr hr h (by rw [j9];exact hi);omega
theorem aeV {us:bC Int} (hr:aD.dH (aY us)) {i:Nat} (hi:i<us.length) {h:Int} (e:(pr us i).1=h):aD.get us h=some (pr us i).2:=by
 have hm:pr us i∈us:=by grind [pr]
 unfold aD.get
 cases hf:us.find? (λp=>p.1 == h) with
 |none=>
   grind
 |some p=>
   have h1:=List.mem_of_find?_eq_some hf
   have h2:=List.find?_some hf
   obtain⟨j,hj,rfl⟩:=ai5 h1
   grind [pr,Kw]
end
section
open Go.RowKit Go.Maps bF aD
noncomputable section
structure RS where
 ns:List aL
 aE:List Int
 us:bC Int
 aI:Int
 cN:Int
 cB:Int
 cH:Int
 cS:Int
 cZ:Int
 last:Int
def mW (name:ByteArray) (id:Int):List fA->List fA
 |[]=>[⟨name,id⟩]
 |e::r=>if ¬jF e.name name then ⟨name,id⟩::e::r else e::mW name id r
def sH (name:ByteArray) (es:List fA):List fA:=es.filter (λe=>decide (e.name≠name))
def nT (s z:Int) (ns:List aL) (d:Nat) (es:List fA):List aL:=ns.set d {nd ns d with ah:=es,aT:=s,aJ:=z}
def bV (ns:List aL) (d:Nat) (name:ByteArray):Int:=match Cv (nd ns d).ah name with|none=>-1|some j=>gF ns (en (nd ns d).ah j).id
def uN (ns:List aL) (id:Int):Int:=(nZ ns id ns.length:Int)
def rX (name:ByteArray):List fA->Int->Int
 |[],z=>z
 |e::r,z=>rX name r (if e.name=name then e.id else z)
variable (R:RS)
def iG (h:Int):Except Int Nat:=match aD.get R.us h with|none=>.error 131|some id=>.ok (bY R.ns id)
def ig (h:Int) (name:ByteArray) (dX:Int):Except Int Nat:=
 match iG R h with
 |.error e=>.error e
 |.ok d=>
   if (nd R.ns d).kind=2 then
    if (nd R.ns d).id∈R.aE then .error 170
    else if ck name then if bits BinOp.and .i64 (nd R.ns d).mode dX=dX then .ok d else .error 175
    else .error 95
   else .error 173
def dm (d:Nat) (name:ByteArray) (id:Int):RS:={R with ns:=nT R.cS R.cZ R.ns d (mW name id (nd R.ns d).ah)}
def cW (d:Nat) (name:ByteArray) (free:Bool):RS:=
 let ns:=nT R.cS R.cZ R.ns d (sH name (nd R.ns d).ah)
 let id:=rX name (nd R.ns d).ah 0
 {R with ns:=ns,aE:=if free=true/\uN ns id=0 then R.aE++[id] else R.aE}
def sI (n:aL):Bool:=decide (n.id∈R.aE->n.id∈ja R.us)
def fV:RS:={R with ns:=R.ns.filter (sI R),aE:=((R.ns.filter (sI R)).filter (λn=>decide (n.id∈R.aE))).map aL.id}
def j3 (d:Nat) (name:ByteArray) (n:aL):RS:=
 let id:=R.last+1
 let R1:=dm {R with last:=id} d name id
 {R1 with ns:=R1.ns++[{n with id:=id,aT:=R.cS,aJ:=R.cZ}]}
def wz:Prop:=(R.ns.length:Int)<R.cN/\R.last<1099511627776/\(dI R.ns R.ns.length:Int)<8192
instance:Decidable (wz R):=inferInstanceAs (Decidable (_/\_/\_))
abbrev xH:=RS×Int×Int
def lE (k:Nat):xH:=
 if (R.us.length:Int)<R.cH then ({R with us:=ins (aP R.us) (nd R.ns k).id R.us,aI:=max R.aI ((R.us.length:Int)+1)},aP R.us,0) else (R,0,130)
def jV (k:Nat) (bs:List UInt8):xH:=
 if bs=[] then (R,0,0)
 else if R.cB-(fM R.ns R.ns.length:Int)<=0 then (R,0,176)
 else
  let n:=(min (bs.length:Int) (R.cB-(fM R.ns R.ns.length:Int))).toNat
  ({R with ns:=R.ns.set k {nd R.ns k with data:=(nd R.ns k).data++bs.take n,aT:=R.cS,aJ:=R.cZ}},(n:Int),0)
def bQ (d:Nat) (name:ByteArray) (n:aL):RS×Int:=
 if n.kind=3/\lG n.target≠0 then (R,lG n.target)
 else if 0<=bV R.ns d name then (R,171)
 else if wz R then (j3 R d name n,0) else (R,177)
def iH (d:Nat) (name:ByteArray) (dir:Bool):RS×Int:=
 if 0<=bV R.ns d name then
  let k:=(bV R.ns d name).toNat
  if dir=false/\(nd R.ns k).kind=2 then (R,172)
  else if dir=true/\(nd R.ns k).kind≠2 then (R,173)
  else if dir=true/\0<(nd R.ns k).ah.length then (R,178)
  else (fV (cW R d name true),0)
 else (R,170)
def oV (ns:List aL) (id:Int):Nat->Int
 |0=>-1
 |i+1=>if 0<iX (nd ns i).ah id (nd ns i).ah.length then (i:Int) else oV ns id i
def jJ (ns:List aL) (top:Nat):Nat->Nat->Bool
 |0,_=>false
 |k+1,d=>if d=top then true else if oV ns (nd ns d).id ns.length<0 then false else jJ ns top k (oV ns (nd ns d).id ns.length).toNat
def gY (f:Nat) (name:ByteArray) (to:Nat) (aB:ByteArray):RS×Int:=
 if 0<=bV R.ns f name then
  let k:=(bV R.ns f name).toNat
  if (nd R.ns k).kind=2/\jJ R.ns k (R.ns.length+1) to=true then (R,174)
  else if bV R.ns to aB=(k:Int) then (R,0)
  else if 0<=bV R.ns to aB then
   if (nd R.ns (bV R.ns to aB).toNat).kind=2 then (R,172)
   else if (nd R.ns k).kind=2 then (R,173)
   else (fV (dm (cW (cW R to aB true) f name false) to aB (nd R.ns k).id),0)
  else (fV (dm (cW R f name false) to aB (nd R.ns k).id),0)
 else (R,170)
def jo (c:aH) (want:Int):xH:=
 match ig R c.aG c.name 64 with
 |.error e=>(R,0,e)
 |.ok d=>
   if 0<=bV R.ns d c.name then
    let k:=(bV R.ns d c.name).toNat
    if (nd R.ns k).kind=3 then (R,0,174)
    else if (nd R.ns k).kind≠want then (R,0,if (nd R.ns k).kind=1 then 173 else 172)
    else lE R k
   else (R,0,170)
def qV (c:aH) (dX:Int):Except Int (Nat×Nat):=
 match ig R c.aG c.name dX with
 |.error e=>.error e
 |.ok f=>match ig R c.other c.text 192 with
   |.error e=>.error e
   |.ok to=>.ok (f,to)
def mH (c:aH):xH:=
 match iG R c.aG with
 |.error e=>(R,0,e)
 |.ok k=>
   if (nd R.ns k).kind=2/\(nd R.ns k).id∈R.aE then (R,0,170)
   else if jX c.mode then
    if qH c.bg/\qH c.bh then
     if fU c.aT c.aJ then ({R with ns:=R.ns.set k {nd R.ns k with mode:=c.mode,bg:=c.bg,bh:=c.bh,aT:=c.aT,aJ:=c.aJ}},0,0)
     else (R,0,20)
    else (R,0,11)
   else (R,0,120)
def iI (c:aH) (d:Nat):xH:=
 if c.op=8\/c.op=14 then ((iH R d c.name (decide (c.op=14))).1,0,(iH R d c.name (decide (c.op=14))).2)
 else if c.op=6 then ((bQ R d c.name ⟨0,3,511,0,0,0,0,[],c.text,[]⟩).1,0,(bQ R d c.name ⟨0,3,511,0,0,0,0,[],c.text,[]⟩).2)
 else if jX c.mode then
  if c.op=5 then
   let m:=bQ R d c.name ⟨0,1,c.mode,0,0,0,0,[],⟨#[]⟩,[]⟩
   if m.2=0 then lE m.1 (m.1.ns.length-1) else (m.1,0,m.2)
  else ((bQ R d c.name ⟨0,2,c.mode,0,0,0,0,[],⟨#[]⟩,[]⟩).1,0,(bQ R d c.name ⟨0,2,c.mode,0,0,0,0,[],⟨#[]⟩,[]⟩).2)
 else (R,0,120)
def wC (c:aH):xH:=
 match qV R c 64 with
 |.error e=>(R,0,e)
 |.ok (f,to)=>
   if 0<=bV R.ns f c.name then
    if (nd R.ns (bV R.ns f c.name).toNat).kind=2 then (R,0,172)
    else if 0<=bV R.ns to c.text then (R,0,171)
    else if (dI R.ns R.ns.length:Int)<8192 then (dm R to c.text (nd R.ns (bV R.ns f c.name).toNat).id,0,0)
    else (R,0,177)
   else (R,0,170)
def cq (c:aH):xH:=
 if c.op=1 then
  if 0<=gF R.ns c.other then if (nd R.ns (bY R.ns c.other)).kind=2 then lE R (bY R.ns c.other) else (R,0,173)
  else (R,0,141)
 else if c.op=2 then jo R c 2
 else if c.op=3 then jo R c 1
 else if c.op=4\/c.op=5\/c.op=6\/c.op=8\/c.op=14 then
  match ig R c.aG c.name 192 with
  |.error e=>(R,0,e)
  |.ok d=>iI R c d
 else if c.op=7 then wC R c
 else if c.op=9 then
  match iG R c.aG with
  |.error e=>(R,0,e)
  |.ok k=>if (nd R.ns k).kind=2 then (R,0,172) else jV R k c.data
 else if c.op=10 then mH R c
 else if c.op=13 then
  if c.aG∈aY R.us then (fV {R with us:=del c.aG R.us},0,0) else (fV R,0,131)
 else if c.op=15 then
  match qV R c 192 with
  |.error e=>(R,0,e)
  |.ok (f,to)=>((gY R f c.name to c.text).1,0,(gY R f c.name to c.text).2)
 else (R,0,230)
def GJ (c:aH) (k:Nat):aH:={c with answer:=(nd R.ns k).id,other:=(nd R.ns k).kind,mode:=(nd R.ns k).mode,bg:=(nd R.ns k).bg,bh:=(nd R.ns k).bh,aT:=(nd R.ns k).aT,aJ:=(nd R.ns k).aJ,code:=0}
def Kx (c:aH) (e:Int):aH:={c with answer:=0,other:=0,mode:=0,bg:=0,bh:=0,aT:=0,aJ:=0,code:=e}
def rA (c:aH):aH:=
 if c.op=12 then
  match ig R c.aG c.name 64 with
  |.error e=>Kx c e
  |.ok d=>if 0<=bV R.ns d c.name then GJ R c (bV R.ns d c.name).toNat else Kx c 170
 else match iG R c.aG with
  |.error e=>Kx c e
  |.ok k=>GJ R c k
def uj (c:aH):RS×aH:=
 if c.op=11\/c.op=12 then (R,rA R c)
 else if (cq R c).2.2=0 then ((cq R c).1,{c with answer:=(cq R c).2.1,code:=0}) else (R,{c with answer:=0,code:=(cq R c).2.2})
end
structure RL where
 A:Option Addr
 c:Nat
 L:eP
 G:Option Addr
 cg:Nat
 H:Option Addr
 ch:Nat
 V:Option Addr
 cv:Nat
def rV (R:RS) (Y:RL):List Value:=[.slice Y.A R.ns.length Y.c,.slice Y.G R.aE.length Y.cg,.int .i64 R.cH,.int .i64 R.aI,.slice Y.H R.us.length Y.ch,.slice Y.V R.us.length Y.cv,.int .i64 R.cN,.int .i64 R.cB,.int .i64 R.cH,.int .i64 R.cS,.int .i64 R.cZ,.int .i64 R.last]
abbrev gP (c:aH) (A:Option Addr) (p:Nat):aH:={c with dA:=A,dC:=p}
def rW (R:RS) (A:Option Addr) (c:Nat) (G:Option Addr) (cg:Nat) (H:Option Addr) (ch:Nat) (V:Option Addr) (cv:Nat):List Value:=rV R ⟨A,c,⟨λ_=>none,λ_=>none,λ_=>0,λ_=>0⟩,G,cg,H,ch,V,cv⟩
def rZ:List Value:=[.slice none 0 0,.slice none 0 0,.int .i64 0,.int .i64 0,.slice none 0 0,.slice none 0 0,.int .i64 0,.int .i64 0,.int .i64 0,.int .i64 0,.int .i64 0,.int .i64 0]
structure RowsAt (β:Bs) (R:RS) (Y:RL):Prop where
 g:cA β Y.G (bH R.aE)
 h:cA β Y.H (bH (aY R.us))
 v:cA β Y.V (bH (ja R.us))
structure dF (β:Bs) (R:RS) (Y:RL):Prop extends RowsAt β R Y where
 n:aN β Y.A R.ns Y.L
structure RB (R:RS):Prop where
 ns:R.ns.length<=4097
 aE:R.aE.length<=8200
 us:R.us.length<=1024
 ah:dI R.ns R.ns.length<=8200
 dat:fM R.ns R.ns.length<=140737488355328
structure RC (R:RS):Prop extends RB R where
 fD:dH R.ns
 hand:∀id∈ja R.us,0<=gF R.ns id
 kind:∀i,i<R.ns.length->(nd R.ns i).kind=1\/(nd R.ns i).kind=2\/(nd R.ns i).kind=3
 cap:0<=R.cN/\R.cN<=4096/\0<=R.cB/\R.cB<=1099511627776/\0<=R.cH/\R.cH<=1024/\0<=R.last/\R.last<=1099511627776/\0<=R.aI/\R.aI<=R.cH
 usr:aD.dH (aY R.us)
 yE:∀z∈aY R.us,1<=z
 Hf:(R.us.length:Int)<=R.cH
section d
variable {β β':Bs} {R:RS} {Y:RL} {i:Nat}
theorem RowsAt.le (h:RowsAt β R Y) (dL:β.le β'):RowsAt β' R Y:=⟨h.g.le dL,h.h.le dL,h.v.le dL⟩
theorem dF.le (h:dF β R Y) (dL:β.le β'):dF β' R Y:=⟨h.toRowsAt.le dL,h.n.le dL⟩
theorem RB.row (h:RB R) (hi:i<R.ns.length):(nd R.ns i).ah.length<=8200:=by
 have h1:=qQ (ns:=R.ns) (show i+1<=R.ns.length by omega)
 have h2:=h.ah
 grind [dI,nd]
end d
end
section
open Go.RowKit Go.Maps bF aD
attribute [local irreducible] ar bN ak ay bZ
noncomputable abbrev zC1 (w)(f:Nat) (o) (aj) (tA) (tr:List aH) (tC):=(.ax w [.iface 37 (vP w),vP f,.iface 108 (vP o),vI (aj),.slice tA (tr.length) (tC)] 79:HP)
theorem adw {β:Bs} (S:br) (L:HL) (w o q f m t am an km kn:Nat) (Z:AZ) (fs:List cL) (xs:List dh) (aj:Int) (tr:List aH) (tA:Option Addr) (tC:Nat) (hrw:(Lit.int .i64 aj).wf=true) (hI:bO S) (hn:tr.length<=8388607) (hZ:nH β Z xs) (hX:jq xs 1048576) (hg:kH β) (c:aH) (hD:bp β c.dA c.data) (hl:c.data.length<=1048576) (hw:(Lit.int .i64 c.aG).wf=true) (how:(Lit.int .i64 c.other).wf=true) (hnm:c.name.size<=1048576) (uO:c.text.size<=1048576) (bW:nW c.op) {S2:br} {c2:aH} (hW:gM fs xs aj (tr.length+1) S c=(S2,c2)) :
 bU Tryz.prog β 11 #[vP w,.agg ⟨aO c⟩] [zC1 w f o aj tA tr tC,.ax o [.iface 109 (vP q),vP f,vI (aj),.map (some am),vI (((tr.length:Nat):Int))] 113,.ax q [.iface 76 (vP f),.map (some km),vI (((tr.length:Nat):Int))] 111,.abs (bM Tryz.prog 3 am (lK Z xs) an),.abs (bM Tryz.prog 3 km (iz fs) kn),.abs (aF 53 13 tA tr.length tC (cI aO tr)),pF f m t S.X,pI m L S.aq,pT t S.X.cH S.aI L S.us,pO S.O L,pD S.O L,pE S.O L] (λβ' v l=>∃B1 p1 B2 p2 A' k' L2,v=.agg ⟨aO (cY B2 p2 c2)⟩/\l=[.ax w [.iface 37 (vP w),vP f,.iface 108 (vP o),vI (aj),.slice A' ((tr.length+1)) (k')] 79,.ax o [.iface 109 (vP q),vP f,vI (aj),.map (some am),vI ((((tr.length+1):Nat):Int))] 113,.ax q [.iface 76 (vP f),.map (some km),vI ((((tr.length+1):Nat):Int))] 111,.abs (bM Tryz.prog 3 am (lK Z xs) an),.abs (bM Tryz.prog 3 km (iz fs) kn),.abs (aF 53 13 A' (tr.length+1) k' (cI aO (tr++[cY B1 p1 c2]))),pF f m t S2.X,pI m L2 S2.aq,pT t S2.X.cH S2.aI L2 S2.us,pO S2.O L2,pD S2.O L2,pE S2.O L2]/\bp β' B1 c2.data/\bp β' B2 c2.data/\c2.data.length<=p2):=by
 have hd2:c2.data=c.data:=by have h:=CS (fs:=fs) (xs:=xs) (aj:=aj) (n:=tr.length+1) (S:=S) (c:=c);rw [hW] at h;exact h
 refine mM Tryz.func11 Tryz.ntmps11 (λav R=>SR (jB 1 [3] (λb1=>.ax b1 (aO c) 53) (λb1=>jB 1 [4] (λb2=>.ax b2 [vI 0,vI 0,vI 0,.string ⟨#[]⟩,.string ⟨#[]⟩,.slice none (0) (0),vI 0,vI 0,vI 0,vI 0,vI 0,vI 0,vI 0] 53) (λb2=>NS (jK 2 [6] [(1,a_ 13 b1)] (gu [] (FU c.dA c.dC c.data hD hl) ?_))))))
 rintro yV _ _ iq ⟨B1,p1,rfl,rfl,qm,hp1⟩
 replace hZ:=hZ.le iq
 replace hg:=hg.le iq
 replace av:=av.trans iq
 refine jC 2 [] [(1,a_ 13 b1)] [(13,[(5,.slice B1 (c.data.length) (p1))])] (NN (ak.join (ι:=Int) (λ(tG:Int)=>(tG=if c.op=1 then aj else c.other)/\((Lit.int .i64 tG).wf=true)) (λ(tG:Int)=>[(0,vP w),(3,vP b1),(4,vP b2)]) (λ(tG:Int)=>[zC1 w f o aj tA tr tC,.ax o [.iface 109 (vP q),vP f,vI (aj),.map (some am),vI ↑tr.length] 113,.ax q [.iface 76 (vP f),.map (some km),vI ↑tr.length] 111,.abs (bM Tryz.prog 3 am (lK Z xs) an),.abs (bM Tryz.prog 3 km (iz fs) kn),.abs (aF 53 13 tA tr.length tC (cI aO tr)),pF f m t S.X,pI m L S.aq,pT t S.X.cH S.aI L S.us,pO S.O L,pD S.O L,pE S.O L,.abs R,.ax b1 (aO (gP {c with other:=tG} B1 p1)) 53,Xv b2]) ?_ (SR (jK 3 [11] [(1,a_ 13 b1)] (NN (cP ((c.op:Int)=(1:Int)) (λh11=>ak.region (jC 6 [] [(3,a_ 0 w),(5,a_ 13 b1)] [(13,[(2,vI (aj))])] (NL (mJ aj [0,1,2,3,4,5,6,7,8,9,10,11,12,13,14] (⟨(aik h11).symm,hrw⟩))))) (λh11=>ak.skip (mJ c.other [0,1,2,3,4,5,6,7,8,9,10,11,12,13,14] (⟨(aij h11).symm,how⟩)))))))))
 rintro tG ⟨hoth,how⟩
 refine ak.seq (rM (List.range 7) 5 [0,13] (jR 5 [0,3,4,20,21] [(3,a_ 0 w),(4,A_ 1 b1 13)] (mL [10,13] [1,2,3,4,6,7,8,9,10,11] (adv (β:=yV) S L o q f m t am an km kn tr.length Z fs xs aj hrw hI zc hZ hX hg c B1 p1 hoth ⟨hw,how,hnm,uO,qm,air hl Pd,hp1,bW⟩ hW) ?_ (by rintro _ _ ⟨L2,rfl,rfl⟩;rfl))))
 rintro _ _ ⟨L2,rfl,rfl⟩
 refine bZ.last rfl rfl (jC 1 [] [(0,A_ 13 b1 13)] [(13,(zC (aO (gP c2 B1 p1))))] (NL (ay.np (NX (ak.seq (rM (List.range 11) 6 [10,13] (jR 6 [3,4,23,27,28] [(4,a_ 0 w),(5,A_ 1 b1 13)] (mN [10,13] (λb4=>[(29,.slice (some ⟨b4,0,none⟩) (1) (1))]) (λ_=>[]) (λb4=>.ax b4 (aO (gP c2 B1 p1)) 53) (λb4=>bZ.cut (ι:=(Option Addr)×Nat) (bL:=λ((A5,c6):(Option Addr)×Nat)=>[(3,vP b1),(4,vP b2),(23,vP w),(30,.slice A5 ((tr.length+1)) (c6))]) (cR:=λ((A5,c6):(Option Addr)×Nat)=>([.ax o [.iface 109 (vP q),vP f,vI (aj),.map (some am),vI ↑(tr.length+1)] 113,.ax q [.iface 76 (vP f),.map (some km),vI ↑(tr.length+1)] 111,.abs (bM Tryz.prog 3 am (lK Z xs) an)]++Xw km fs kn f m t S2 L2++[zC1 w f o aj tA tr tC,.abs (aF 53 13 A5 (tr.length+1) c6 (cI aO (tr++[cY B1 p1 c2]))),.abs R,.ax b1 (aO (gP c2 B1 p1)) 53,Xv b2,.ax b4 (aO (gP c2 B1 p1)) 53])) [10,13] rfl rfl ?_ rfl (λ_=>KB) ?_)))))))))
 ·exact ar.append 11 (d:=(some 30)) (t:=35) (e:=53) (z:=.agg #[vI 0,vI 0,vI 0,.string ⟨#[]⟩,.string ⟨#[]⟩,.slice none (0) (0),vI 0,vI 0,vI 0,vI 0,vI 0,vI 0,vI 0]) (size:=13) (bytes:=136) (n:=tr.length) (cap:=tC) (A:=tA) (xs:=(cI aO tr)) (s:=(.tmp 27)) (x:=(.tmp 29)) (ats:=#[35,35]) (A':=some ⟨b4,0,none⟩) (m:=1) (c':=1) (news:=[vI (c2.op),vI (c2.aG),vI (c2.other),.string c2.name,.string c2.text,.slice B1 (c2.data.length) (p1),vI (c2.mode),vI (c2.bg),vI (c2.bh),vI (c2.aT),vI (c2.aJ),vI (c2.code),vI (c2.answer)]) (λ_=>KB) rfl KB (λ_=>KB) (λ_=>KB) Tryz.underlying35 KB rfl Pd (rfl) (by simp [Value.oneCell']) (fQ (j:=15) rfl) (by unfold maxLen;omega) zc (λA5 c6=>ar.cJ 11 (p':=.abs (aF 53 13 A5 (tr.length+1) c6 (cI aO (tr++[cY B1 p1 c2])))) rfl (ail (λx=>HP.abs (aF 53 13 _ _ _ x)) (D6 aO (cY B1 p1 c2) tr).symm) (sl 30 (.slice A5 (tr.length+1) (c6)) (.slice A5 ((tr.length+1)) (c6)) (rfl) (NL (MD (A5,c6) [3,4,23,30] [0,1,2,3,4,5,6,7,8,9,10,11,12,13,14,15]))))
 rintro⟨A5,c6⟩
 refine nC [10,13] [31] [] [] (nC [10,13] [32] [] [] (bZ.last rfl rfl (jC 1 [] [(0,a_ 10 w)] [(10,[(4,.slice A5 ((tr.length+1)) (c6))])] (NL (ay.np (NX (SR (jK 2 [34] [(1,a_ 13 b1)] (gu [] (FU B1 p1 c2.data (by rw [hd2];exact qm) (by rw [hd2];exact hl)) ?_)))))))))
 rintro FV _ _ kN ⟨B2,p2,rfl,rfl,Ky,hp2⟩
 replace qm:=qm.le kN
 replace av:=av.trans kN
 exact jC 2 [] [(1,a_ 13 b1)] [(13,[(5,.slice B2 (c2.data.length) (p2))])] (NS (jC 2 [] [(0,A_ 13 b1 13),(1,A_ 14 b2 13)] [(14,(zC (aO (gP c2 B2 p2))))] (eO (v:=(.agg ⟨aO (gP c2 B2 p2)⟩)) [A_ 14 b2 13] av ⟨B1,p1,B2,p2,A5,c6,L2,rfl,rfl,by rw [hd2];exact qm,Ky,hp2⟩ [10,0,1,2,3,11,4,5,6,7,8,9,12])))
end
section
open Go.RowKit Go.Maps bF aD
section d
variable {β:Bs} {fs:List cL} {xs:List dh} {aj:Int} {S S2:br} {V:WV} {tr:List aH} {c c2:aH} {G:WG}
theorem Du (hrw:(Lit.int .i64 aj).wf=true) (hI:bO S) (hn:tr.length<=8388607) (hZ:nH β G.Z xs) (hX:jq xs 1048576) (hg:kH β) (hD:bp β c.dA c.data) (hl:c.data.length<=1048576) (hw:(Lit.int .i64 c.aG).wf=true) (how:(Lit.int .i64 c.other).wf=true) (hnm:c.name.size<=1048576) (uO:c.text.size<=1048576) (bW:nW c.op) (hW:gM fs xs aj (tr.length+1) S c=(S2,c2)) :
 bU Tryz.prog β 11 #[vP G.w,.agg ⟨aO c⟩] [wA G fs xs aj S V tr] (λβ' v l=>∃(V':WV) (B1:Option Addr) (p1:Nat) (B2:Option Addr) (p2:Nat),v=.agg ⟨aO (cY B2 p2 c2)⟩/\l=[wA G fs xs aj S2 V' (tr++[cY B1 p1 c2])]/\bp β' B1 c2.data/\bp β' B2 c2.data/\c2.data.length<=p2):=
 (adw S V.L G.w G.o G.q G.f G.m G.t G.am G.an G.km G.kn G.Z fs xs aj tr V.A V.c hrw hI hn hZ hX hg c hD hl hw how hnm uO bW hW).one.mono (by
  rintro β' v l _ ⟨l0,⟨B1,p1,B2,p2,A',k',L2,rfl,rfl,h1,h2,h3⟩,rfl⟩
  refine⟨⟨L2,A',k'⟩,B1,p1,B2,p2,rfl,?_,h1,h2,h3⟩
  unfold wA wP tR
  rw [ait]
  rfl)
theorem Nn:aU Tryz.prog β 29 #[vP G.w] [wA G fs xs aj S V tr] (λv l=>v=.int .i64 (tr.length:Int)/\l=[wA G fs xs aj S V tr]):=
 (Vi S V.L G.w G.o G.q G.f G.m G.t G.am G.an G.km G.kn G.Z fs xs aj tr V.A V.c).one.mono (by rintro v l ⟨l0,⟨rfl,rfl⟩,rfl⟩;exact⟨rfl,rfl⟩)
theorem aaF:aU Tryz.prog β 40 #[vP G.w] [wA G fs xs aj S V tr] (λv l=>v=.int .i64 (S.us.length:Int)/\l=[wA G fs xs aj S V tr]):=
 (Xt S V.L G.w G.o G.q G.f G.m G.t G.am G.an G.km G.kn G.Z fs xs aj tr V.A V.c).one.mono (by rintro v l ⟨l0,⟨rfl,rfl⟩,rfl⟩;exact⟨rfl,rfl⟩)
theorem aaG:aU Tryz.prog β 41 #[vP G.w] [wA G fs xs aj S V tr] (λv l=>v=.int .i64 S.aI/\l=[wA G fs xs aj S V tr]):=
 (Xu S V.L G.w G.o G.q G.f G.m G.t G.am G.an G.km G.kn G.Z fs xs aj tr V.A V.c).one.mono (by rintro v l ⟨l0,⟨rfl,rfl⟩,rfl⟩;exact⟨rfl,rfl⟩)
theorem Np (hI:bO S):aU Tryz.prog β 30 #[vP G.w] [wA G fs xs aj S V tr] (λv l=>∃A cp K,v=.agg #[.slice A (aV S).length cp]/\l=[wA G fs xs aj S V tr]++LK A cp (aV S) K):=by
 intro R w hS
 have h1:aR β ([.abs R]++[wA G fs xs aj S V tr]) w:=aR.turn hS
 refine (Vj S V.L G.w G.o G.q G.f G.m G.t G.am G.an G.km G.kn G.Z fs xs aj tr V.A V.c hI R w (aR.turn (aR.x9 h1))).mono ?_
 rintro e w' ⟨v,l,h2,⟨A,cp,K,h3,rfl⟩,h4⟩
 refine⟨v,_,h2,⟨A,cp,K,h3,rfl⟩,?_⟩
 rw [aiN] at h4
 have h5:=(aR.turn h4).ko
 rw [aiN] at h5 ⊢
 exact aR.turn h5
theorem Vo (hI:bO S):bU Tryz.prog β 30 #[vP G.w] [wA G fs xs aj S V tr] (λβ' v l=>∃A cp K,v=.agg #[.slice A (aV S).length cp]/\l=[wA G fs xs aj S V tr]/\aN β' A (aV S) K):=
 (Np hI).Vh (by
  rintro v l ⟨A,cp,K,rfl,rfl⟩
  exact⟨_,_,rfl,λβ' h=>⟨A,cp,K,rfl,rfl,h.graph⟩⟩)
theorem adx {ns:List aL} {Y:eP} {X:FM} (A:Option Addr) (cp:Nat) (hG:aN β A ns Y) (hB:j6 ns 1048576) {Af Aa:Option Addr} (cf ca:Nat) (hF:cA β Af (cI jg fs)) (o5:lg fs 2097152) (hA:cA β Aa (cI kA xs)) (dR:jq xs 1048576) :
 bU Tryz.prog β 18 #[.agg #[.slice A ns.length cp],.int .i64 aj,.agg #[.int .i64 X.cN,.int .i64 X.cB,.int .i64 X.cH,.int .i64 X.cS,.int .i64 X.cZ],.agg #[.slice Af fs.length cf,.slice Aa xs.length ca]] [] (λβ' v l=>(fw X ns aj≠0/\v=.tuple #[.pointer none,.int .i64 (fw X ns aj)]/\l=[])\/(fw X ns aj=0/\∃(N:Ee X ns) (G:WG) (V:WV),v=.tuple #[vP G.w,.int .i64 0]/\l=[wA G fs xs aj N.1 V []]/\nH β' G.Z xs)):=
 ((aaC A cp ns Y hG hB X aj Af cf fs hF o5 Aa ca xs hA dR).aeH (by
   rintro β' v l (⟨h1,h2,rfl⟩|⟨h1,N,L,w,o,q,f,m,t,am,an,km,kn,Z,h2,rfl,h3⟩)
   ·exact .inl ⟨rfl,.inl ⟨h1,h2,rfl⟩⟩
   exact .inr (.inr ⟨h1,N,⟨w,o,q,am,km,an,kn,f,m,t,Z⟩,⟨L,none,0⟩,h2,rfl,h3⟩)))
end d
end
section
open Go.RowKit Go.Maps bF aD
attribute [local irreducible] ar bN ak ay
theorem zP {β:Bs} {G:WG} {fs:List cL} {xs:List dh} {aj:Int} {S S2:br} {V:WV} {tr:List aH} (hrw:(Lit.int .i64 aj).wf=true) (hI:bO S) (hn:tr.length<=8388607) (hZ:nH β G.Z xs) (hX:jq xs 1048576) (hg:kH β) (c:aH) (hD:bp β c.dA c.data) (hl:c.data.length<=1048576) (hw:(Lit.int .i64 c.aG).wf=true) (how:(Lit.int .i64 c.other).wf=true) (hnm:c.name.size<=1048576) (uO:c.text.size<=1048576) (bW:nW c.op) {c2:aH} (hW:gM fs xs aj (tr.length+1) S c=(S2,c2)) :
 bU Tryz.prog β 48 #[.agg #[.iface 37 (vP G.w)],.agg ⟨aO c⟩] [wA G fs xs aj S V tr] (λβ' v l=>∃(V':WV) (B1:Option Addr) (p1:Nat),v=.tuple #[vI c2.answer,vI c2.code]/\l=[wA G fs xs aj S2 V' (tr++[cY B1 p1 c2])]/\bp β' B1 c2.data):=by
 refine mM Tryz.func48 Tryz.ntmps48 (λav R=>SR (jB 1 [2] (λb1=>.ax b1 [.iface 37 (vP G.w)] 75) (λb1=>jB 3 [3] (λb2=>.ax b2 (aO c) 53) (λb2=>NS (jK 3 [7,8] [(1,a_ 2 b1),(2,A_ 3 b2 13)] (gu [0] (Du (β:=β) (G:=G) (fs:=fs) (xs:=xs) (S:=S) (V:=V) (tr:=tr) (c:=c) (c2:=c2) (S2:=S2) hrw hI hn hZ hX hg hD hl hw how hnm uO bW hW) ?_))))))
 rintro yV _ _ iq ⟨V',B1,p1,B2,p2,rfl,rfl,qm,_,_⟩
 replace av:=av.trans iq
 exact jC 1 [] [(0,A_ 3 b2 13)] [(3,(zC (aO (gP c2 B2 p2))))] (NN (ak.seq (rQ (jQ 6 [4,5] [(1,a_ 3 b2),(3,a_ 3 b2)] (NQ (NX (ak.ret (rB (.tuple #[vI (c2.answer),vI (c2.code)]) [] [0,1] av (⟨V',B1,p1,rfl,rfl,qm⟩)))))))))
theorem I5 {β:Bs} {G:WG} {fs:List cL} {xs:List dh} {aj:Int} {S S2:br} {V:WV} {tr:List aH} (hrw:(Lit.int .i64 aj).wf=true) (hI:bO S) (hn:tr.length<=8388607) (hZ:nH β G.Z xs) (hX:jq xs 1048576) (hg:kH β) (c:aH) (hD:bp β c.dA c.data) (hl:c.data.length<=1048576) (hw:(Lit.int .i64 c.aG).wf=true) (how:(Lit.int .i64 c.other).wf=true) (hnm:c.name.size<=1048576) (uO:c.text.size<=1048576) (bW:nW c.op) {c2:aH} (hW:gM fs xs aj (tr.length+1) S c=(S2,c2)) :
 bU Tryz.prog β 49 #[.agg #[.iface 37 (vP G.w)],.agg ⟨aO c⟩] [wA G fs xs aj S V tr] (λβ' v l=>∃(V':WV) (B1:Option Addr) (p1:Nat),v=vI c2.code/\l=[wA G fs xs aj S2 V' (tr++[cY B1 p1 c2])]/\bp β' B1 c2.data):=by
 refine mM Tryz.func49 Tryz.ntmps49 (λav R=>SR (jB 1 [2] (λb4=>.ax b4 [.iface 37 (vP G.w)] 75) (λb4=>jB 2 [3] (λb5=>.ax b5 (aO c) 53) (λb5=>NS (jK 3 [6,7] [(1,a_ 2 b4),(2,A_ 3 b5 13)] (gu [0] (Du (β:=β) (G:=G) (fs:=fs) (xs:=xs) (S:=S) (V:=V) (tr:=tr) (c:=c) (c2:=c2) (S2:=S2) hrw hI hn hZ hX hg hD hl hw how hnm uO bW hW) ?_))))))
 rintro XD _ _ vS ⟨V',B1,p1,B2,p2,rfl,rfl,qm,_,_⟩
 replace av:=av.trans vS
 exact jK 2 [4] [] (eO (v:=(vI (c2.code))) [] av ⟨V',B1,p1,rfl,rfl,qm⟩)
theorem aaH {β:Bs} {G:WG} {fs:List cL} {xs:List dh} {aj:Int} {S S2:br} {V:WV} {tr:List aH} (hrw:(Lit.int .i64 aj).wf=true) (hI:bO S) (hn:tr.length<=8388607) (hZ:nH β G.Z xs) (hX:jq xs 1048576) (hg:kH β) (id:Int) (how:(Lit.int .i64 id).wf=true) {c2:aH} (hW:gM fs xs aj (tr.length+1) S (⟨1,0,id,⟨#[]⟩,⟨#[]⟩,none,0,[],0,0,0,0,0,0,0⟩:aH)=(S2,c2)) :
 bU Tryz.prog β 20 #[.agg #[.iface 37 (vP G.w)],vI (id)] [wA G fs xs aj S V tr] (λβ' v l=>∃(V':WV) (B1:Option Addr) (p1:Nat),v=.tuple #[vI c2.answer,vI c2.code]/\l=[wA G fs xs aj S2 V' (tr++[cY B1 p1 c2])]/\bp β' B1 c2.data):=by
 refine mM Tryz.func20 Tryz.ntmps20 (λav R=>SR (jB 3 [2] (λb7=>.ax b7 [.iface 37 (vP G.w)] 75) (λb7=>NS (jK 3 [6,8] [(0,a_ 2 b7)] (gu [0] (zP (β:=β) (G:=G) (fs:=fs) (xs:=xs) (S:=S) (V:=V) (tr:=tr) (S2:=S2) (c2:=c2) hrw hI hn hZ hX hg (⟨1,0,id,⟨#[]⟩,⟨#[]⟩,none,0,[],0,0,0,0,0,0,0⟩:aH) (λj v h=>by cases h) (aio _) (by show (Lit.int .i64 0).wf=true;decide) how (aio _) (aio _) (by show nW 1;first|exact rfl|(unfold nW;decide)) hW) ?_)))))
 rintro QA _ _ oW ⟨V',B1,p1,rfl,rfl,qm⟩
 replace av:=av.trans oW
 exact jK 4 [4,5] [] (eO (v:=(.tuple #[vI (c2.answer),vI (c2.code)])) [] av ⟨V',B1,p1,rfl,rfl,qm⟩)
theorem Sj {β:Bs} {G:WG} {fs:List cL} {xs:List dh} {aj:Int} {S S2:br} {V:WV} {tr:List aH} (hrw:(Lit.int .i64 aj).wf=true) (hI:bO S) (hn:tr.length<=8388607) (hZ:nH β G.Z xs) (hX:jq xs 1048576) (hg:kH β) (h:Int) (hw:(Lit.int .i64 h).wf=true) (name:ByteArray) (hnm:name.size<=1048576) {c2:aH} (hW:gM fs xs aj (tr.length+1) S (⟨2,h,0,name,⟨#[]⟩,none,0,[],0,0,0,0,0,0,0⟩:aH)=(S2,c2)) :
 bU Tryz.prog β 21 #[.agg #[.iface 37 (vP G.w)],vI (h),.string name] [wA G fs xs aj S V tr] (λβ' v l=>∃(V':WV) (B1:Option Addr) (p1:Nat),v=.tuple #[vI c2.answer,vI c2.code]/\l=[wA G fs xs aj S2 V' (tr++[cY B1 p1 c2])]/\bp β' B1 c2.data):=by
 refine mM Tryz.func21 Tryz.ntmps21 (λav R=>SR (jB 3 [3] (λb9=>.ax b9 [.iface 37 (vP G.w)] 75) (λb9=>NS (jK 4 [8,11] [(0,a_ 2 b9)] (gu [0] (zP (β:=β) (G:=G) (fs:=fs) (xs:=xs) (S:=S) (V:=V) (tr:=tr) (S2:=S2) (c2:=c2) hrw hI hn hZ hX hg (⟨2,h,0,name,⟨#[]⟩,none,0,[],0,0,0,0,0,0,0⟩:aH) (λj v h=>by cases h) (aio _) hw (by show (Lit.int .i64 0).wf=true;decide) hnm (aio _) (by show nW 2;first|exact rfl|(unfold nW;decide)) hW) ?_)))))
 rintro FR _ _ ji ⟨V',B1,p1,rfl,rfl,qm⟩
 replace av:=av.trans ji
 exact jK 4 [6,7] [] (eO (v:=(.tuple #[vI (c2.answer),vI (c2.code)])) [] av ⟨V',B1,p1,rfl,rfl,qm⟩)
theorem XE {β:Bs} {G:WG} {fs:List cL} {xs:List dh} {aj:Int} {S S2:br} {V:WV} {tr:List aH} (hrw:(Lit.int .i64 aj).wf=true) (hI:bO S) (hn:tr.length<=8388607) (hZ:nH β G.Z xs) (hX:jq xs 1048576) (hg:kH β) (h:Int) (hw:(Lit.int .i64 h).wf=true) (name:ByteArray) (hnm:name.size<=1048576) (mode:Int) {c2:aH} (hW:gM fs xs aj (tr.length+1) S (⟨4,h,0,name,⟨#[]⟩,none,0,[],mode,0,0,0,0,0,0⟩:aH)=(S2,c2)) :
 bU Tryz.prog β 22 #[.agg #[.iface 37 (vP G.w)],vI (h),.string name,vI (mode)] [wA G fs xs aj S V tr] (λβ' v l=>∃(V':WV) (B1:Option Addr) (p1:Nat),v=vI c2.code/\l=[wA G fs xs aj S2 V' (tr++[cY B1 p1 c2])]/\bp β' B1 c2.data):=by
 refine mM Tryz.func22 Tryz.ntmps22 (λav R=>SR (jB 2 [4] (λb11=>.ax b11 [.iface 37 (vP G.w)] 75) (λb11=>NS (jK 5 [9,13] [(0,a_ 2 b11)] (gu [0] (I5 (β:=β) (G:=G) (fs:=fs) (xs:=xs) (S:=S) (V:=V) (tr:=tr) (S2:=S2) (c2:=c2) hrw hI hn hZ hX hg (⟨4,h,0,name,⟨#[]⟩,none,0,[],mode,0,0,0,0,0,0⟩:aH) (λj v h=>by cases h) (aio _) hw (by show (Lit.int .i64 0).wf=true;decide) hnm (aio _) (by show nW 4;first|exact rfl|(unfold nW;decide)) hW) ?_)))))
 rintro I6 _ _ qW ⟨V',B1,p1,rfl,rfl,qm⟩
 replace av:=av.trans qW
 exact jK 1 [8] [] (eO (v:=(vI (c2.code))) [] av ⟨V',B1,p1,rfl,rfl,qm⟩)
theorem Vp {β:Bs} {G:WG} {fs:List cL} {xs:List dh} {aj:Int} {S S2:br} {V:WV} {tr:List aH} (hrw:(Lit.int .i64 aj).wf=true) (hI:bO S) (hn:tr.length<=8388607) (hZ:nH β G.Z xs) (hX:jq xs 1048576) (hg:kH β) (h:Int) (hw:(Lit.int .i64 h).wf=true) (name:ByteArray) (hnm:name.size<=1048576) (mode:Int) {c2:aH} (hW:gM fs xs aj (tr.length+1) S (⟨5,h,0,name,⟨#[]⟩,none,0,[],mode,0,0,0,0,0,0⟩:aH)=(S2,c2)) :
 bU Tryz.prog β 23 #[.agg #[.iface 37 (vP G.w)],vI (h),.string name,vI (mode)] [wA G fs xs aj S V tr] (λβ' v l=>∃(V':WV) (B1:Option Addr) (p1:Nat),v=.tuple #[vI c2.answer,vI c2.code]/\l=[wA G fs xs aj S2 V' (tr++[cY B1 p1 c2])]/\bp β' B1 c2.data):=by
 refine mM Tryz.func23 Tryz.ntmps23 (λav R=>SR (jB 3 [4] (λb13=>.ax b13 [.iface 37 (vP G.w)] 75) (λb13=>NS (jK 5 [10,14] [(0,a_ 2 b13)] (gu [0] (zP (β:=β) (G:=G) (fs:=fs) (xs:=xs) (S:=S) (V:=V) (tr:=tr) (S2:=S2) (c2:=c2) hrw hI hn hZ hX hg (⟨5,h,0,name,⟨#[]⟩,none,0,[],mode,0,0,0,0,0,0⟩:aH) (λj v h=>by cases h) (aio _) hw (by show (Lit.int .i64 0).wf=true;decide) hnm (aio _) (by show nW 5;first|exact rfl|(unfold nW;decide)) hW) ?_)))))
 rintro sJ _ _ gV ⟨V',B1,p1,rfl,rfl,qm⟩
 replace av:=av.trans gV
 exact jK 4 [8,9] [] (eO (v:=(.tuple #[vI (c2.answer),vI (c2.code)])) [] av ⟨V',B1,p1,rfl,rfl,qm⟩)
theorem Vq {β:Bs} {G:WG} {fs:List cL} {xs:List dh} {aj:Int} {S S2:br} {V:WV} {tr:List aH} (hrw:(Lit.int .i64 aj).wf=true) (hI:bO S) (hn:tr.length<=8388607) (hZ:nH β G.Z xs) (hX:jq xs 1048576) (hg:kH β) (h:Int) (hw:(Lit.int .i64 h).wf=true) (name:ByteArray) (hnm:name.size<=1048576) {c2:aH} (hW:gM fs xs aj (tr.length+1) S (⟨8,h,0,name,⟨#[]⟩,none,0,[],0,0,0,0,0,0,0⟩:aH)=(S2,c2)) :
 bU Tryz.prog β 24 #[.agg #[.iface 37 (vP G.w)],vI (h),.string name] [wA G fs xs aj S V tr] (λβ' v l=>∃(V':WV) (B1:Option Addr) (p1:Nat),v=vI c2.code/\l=[wA G fs xs aj S2 V' (tr++[cY B1 p1 c2])]/\bp β' B1 c2.data):=by
 refine mM Tryz.func24 Tryz.ntmps24 (λav R=>SR (jB 2 [3] (λb15=>.ax b15 [.iface 37 (vP G.w)] 75) (λb15=>NS (jK 4 [7,10] [(0,a_ 2 b15)] (gu [0] (I5 (β:=β) (G:=G) (fs:=fs) (xs:=xs) (S:=S) (V:=V) (tr:=tr) (S2:=S2) (c2:=c2) hrw hI hn hZ hX hg (⟨8,h,0,name,⟨#[]⟩,none,0,[],0,0,0,0,0,0,0⟩:aH) (λj v h=>by cases h) (aio _) hw (by show (Lit.int .i64 0).wf=true;decide) hnm (aio _) (by show nW 8;first|exact rfl|(unfold nW;decide)) hW) ?_)))))
 rintro QB _ _ tT ⟨V',B1,p1,rfl,rfl,qm⟩
 replace av:=av.trans tT
 exact jK 1 [6] [] (eO (v:=(vI (c2.code))) [] av ⟨V',B1,p1,rfl,rfl,qm⟩)
theorem XF {β:Bs} {G:WG} {fs:List cL} {xs:List dh} {aj:Int} {S S2:br} {V:WV} {tr:List aH} (hrw:(Lit.int .i64 aj).wf=true) (hI:bO S) (hn:tr.length<=8388607) (hZ:nH β G.Z xs) (hX:jq xs 1048576) (hg:kH β) (h:Int) (hw:(Lit.int .i64 h).wf=true) (D:Option Addr) (dc:Nat) (ds:List UInt8) (hD:bp β D ds) (hdl:ds.length<=1048576) {c2:aH} (hW:gM fs xs aj (tr.length+1) S (⟨9,h,0,⟨#[]⟩,⟨#[]⟩,D,dc,ds,0,0,0,0,0,0,0⟩:aH)=(S2,c2)) :
 bU Tryz.prog β 26 #[.agg #[.iface 37 (vP G.w)],vI (h),.slice D (ds.length) (dc)] [wA G fs xs aj S V tr] (λβ' v l=>∃(V':WV) (B1:Option Addr) (p1:Nat),v=.tuple #[vI c2.answer,vI c2.code]/\l=[wA G fs xs aj S2 V' (tr++[cY B1 p1 c2])]/\bp β' B1 c2.data):=by
 refine mM Tryz.func26 Tryz.ntmps26 (λav R=>SR (jB 3 [3] (λb17=>.ax b17 [.iface 37 (vP G.w)] 75) (λb17=>NS (jK 4 [8,11] [(0,a_ 2 b17)] (gu [0] (zP (β:=β) (G:=G) (fs:=fs) (xs:=xs) (S:=S) (V:=V) (tr:=tr) (S2:=S2) (c2:=c2) hrw hI hn hZ hX hg (⟨9,h,0,⟨#[]⟩,⟨#[]⟩,D,dc,ds,0,0,0,0,0,0,0⟩:aH) hD hdl hw (by show (Lit.int .i64 0).wf=true;decide) (aio _) (aio _) (by show nW 9;first|exact rfl|(unfold nW;decide)) hW) ?_)))))
 rintro vg _ _ iJ ⟨V',B1,p1,rfl,rfl,qm⟩
 replace av:=av.trans iJ
 exact jK 4 [6,7] [] (eO (v:=(.tuple #[vI (c2.answer),vI (c2.code)])) [] av ⟨V',B1,p1,rfl,rfl,qm⟩)
theorem XG {β:Bs} {G:WG} {fs:List cL} {xs:List dh} {aj:Int} {S S2:br} {V:WV} {tr:List aH} (hrw:(Lit.int .i64 aj).wf=true) (hI:bO S) (hn:tr.length<=8388607) (hZ:nH β G.Z xs) (hX:jq xs 1048576) (hg:kH β) (h:Int) (hw:(Lit.int .i64 h).wf=true) {c2:aH} (hW:gM fs xs aj (tr.length+1) S (⟨13,h,0,⟨#[]⟩,⟨#[]⟩,none,0,[],0,0,0,0,0,0,0⟩:aH)=(S2,c2)) :
 bU Tryz.prog β 27 #[.agg #[.iface 37 (vP G.w)],vI (h)] [wA G fs xs aj S V tr] (λβ' v l=>∃(V':WV) (B1:Option Addr) (p1:Nat),v=vI c2.code/\l=[wA G fs xs aj S2 V' (tr++[cY B1 p1 c2])]/\bp β' B1 c2.data):=by
 refine mM Tryz.func27 Tryz.ntmps27 (λav R=>SR (jB 2 [2] (λb19=>.ax b19 [.iface 37 (vP G.w)] 75) (λb19=>NS (jK 3 [5,7] [(0,a_ 2 b19)] (gu [0] (I5 (β:=β) (G:=G) (fs:=fs) (xs:=xs) (S:=S) (V:=V) (tr:=tr) (S2:=S2) (c2:=c2) hrw hI hn hZ hX hg (⟨13,h,0,⟨#[]⟩,⟨#[]⟩,none,0,[],0,0,0,0,0,0,0⟩:aH) (λj v h=>by cases h) (aio _) hw (by show (Lit.int .i64 0).wf=true;decide) (aio _) (aio _) (by show nW 13;first|exact rfl|(unfold nW;decide)) hW) ?_)))))
 rintro aeW _ _ I7 ⟨V',B1,p1,rfl,rfl,qm⟩
 replace av:=av.trans I7
 exact jK 1 [4] [] (eO (v:=(vI (c2.code))) [] av ⟨V',B1,p1,rfl,rfl,qm⟩)
end
section
open Go.RowKit Go.Maps bF aD
theorem Ek {α:Type} (f:α->List Value) (a:α) (r:List α):cI f (a::r)=f a++cI f r:=by
 have:∀(k k':Nat) (r:List α),fk (λ_ x=>f x) k r=fk (λ_ x=>f x) k' r:=λk k' r=>by
  induction r generalizing k k' with
  |nil=>rfl
  |cons y r ih=>show f y++fk _ (k+1) r=f y++fk _ (k'+1) r;rw [ih]
 show f a++fk _ 1 r=f a++fk _ 0 r
 rw [this]
section k
variable {xs:List dh} {z aj:Int} {j n:Nat} {fs:List cL} {S:br} {c:aH} {k:Int}
end k
section l
variable {ns:List aL} {es:List fA} {name:ByteArray} {id:Int} {i j d top k:Nat} {R:RS} {l:List Int}
theorem XH (hj:j<es.length) (e:(en es j).name=name) (iV:∀q,q<j->¬(en es q).name=name):Cv es name=some j:=by
 unfold Cv
 rw [ai2]
 have hg:∀k (hk:k<es.length),en es k=es[k]:=λk hk=>by
  grind [en]
 grind
theorem XI (hj:j<(nd ns d).ah.length) (e:(en (nd ns d).ah j).name=name) (iV:∀q,q<j->¬(en (nd ns d).ah q).name=name):gF ns (en (nd ns d).ah j).id=bV ns d name:=by
 unfold bV;rw [XH hj e iV]
theorem Vr (iV:∀q,q<(nd ns d).ah.length->¬(en (nd ns d).ah q).name=name):(-1:Int)=bV ns d name:=by
 unfold bV;rw [Vk iV]
theorem ady (hj:j<l.length) (e:l.getD j 0=id):true=decide (id∈l):=by
 grind
theorem aaI (iV:∀q,q<l.length->¬l.getD q 0=id):false=decide (id∈l):=by
 refine (aip (λh=>?_)).symm
 obtain⟨j,hj,e⟩:=ai5 h
 grind
def Cw (ns:List aL) (id:Int) (i j:Nat):Int:=if 0<iX (nd ns i).ah id j then (i:Int) else oV ns id i
theorem aaJ:oV ns id i=Cw ns id i 0:=by unfold Cw;rw [aij (by unfold iX;omega)]
theorem adz:Cw ns id i (nd ns i).ah.length=oV ns id (i+1):=rfl
theorem adA (e:(en (nd ns i).ah j).id=id):(i:Int)=Cw ns id i (j+1):=by unfold Cw;rw [aik (by have:=Kv e;omega)]
theorem aaK (e:¬(en (nd ns i).ah j).id=id):Cw ns id i j=Cw ns id i (j+1):=by unfold Cw;rw [Hy e]
theorem XJ:∀n:Nat,-1<=oV ns id n/\oV ns id n<n
 |0=>⟨by unfold oV;omega,by unfold oV;omega⟩
 |n+1=>by
   have:=XJ n
   unfold oV
   split<;>omega
theorem XK:jJ ns d (k+1) d=true:=by unfold jJ;rw [aik rfl]
theorem Vs (h:¬d=top) (hu:oV ns (nd ns d).id ns.length<0):jJ ns top (k+1) d=false:=by unfold jJ;rw [aij h,aik hu]
theorem aaL (h:¬d=top) (hu:¬oV ns (nd ns d).id ns.length<0):jJ ns top (k+1) d=jJ ns top k (oV ns (nd ns d).id ns.length).toNat:=by
 grind [jJ]
end l
end
section
open Go.RowKit Go.Maps bF aD
attribute [local irreducible] ar bN ak ay eH
theorem xI {β:Bs} (Z:RS) (Y:RL) (hR:dF β Z Y) (hB:RB Z) (id:Int) :
 aU Tryz.prog β 98 #[.agg ⟨rV Z Y⟩,vI (id)] [] (λv l=>v=.bool (decide (id∈Z.aE))/\l=[]):=by
 refine SE Tryz.func98 Tryz.ntmps98 (λR=>SR (jB 2 [2] (λb1=>.ax b1 (rV Z Y) 45) (λb1=>NZ (jK 1 [5] [] (NN (ak.block (lJ (λ(i:Nat)=>(i<=Z.aE.length)/\(∀q,q<i->¬Z.aE.getD q 0=id)) (λ(i:Nat)=>Z.aE.length-i) (λ(i:Nat)=>[(1,vI (id)),(2,vP b1),(5,vI ↑i)]) (λ(i:Nat)=>[.abs R,.ax b1 (rV Z Y) 45]) 0 [0,1] (⟨aio _,λq hq=>ain hq (aiq q)⟩) ?_)))))))
 rintro i ⟨hi,iV⟩
 have hbg:=hB.aE
 exact SQ (jK 5 [10] [(2,a_ 1 b1)] (NN (cP ((((i:Nat):Int):Int)<(((Z.aE.length:Nat):Int):Int)) (λh10=>KX (ak.seq (ak.block (SR (jK 7 [19] [(1,a_ 1 b1),(3,x_ i Z.aE.length (x3.hd (l:=Z.aE) hR.g (j:=i) Pe)),(4,r_ (x3.rd (l:=Z.aE) hR.g (j:=i) Pe))] (NN (cP (((Z.aE.getD i 0):Int)=(id:Int)) (λhhit=>zR ⟨ail Value.bool (ady (j:=i) zc hhit),rfl⟩) (λhhit=>KX (ak.region (jK 3 [5] [(1,wJ ((i:Int)+1) (↑(i+1)))] (NL (tJ ((i+1)) [0,1] (⟨zc,λq hq=>Pe⟩))))))))))))) (λh10=>XX (zR ⟨ail Value.bool (aaI (λq hq=>iV q zc)),rfl⟩)))))
theorem aaM {β:Bs} (Z:RS) (Y:RL) (hR:dF β Z Y) (hB:RB Z) :
 aU Tryz.prog β 104 #[.agg ⟨rV Z Y⟩] [] (λv l=>v=vI ((fM Z.ns Z.ns.length:Nat):Int)/\l=[]):=by
 refine SE Tryz.func104 Tryz.ntmps104 (λR=>SR (jB 2 [1] (λb2=>.ax b2 (rV Z Y) 45) (λb2=>NS (jK 1 [3] [] (NZ (jK 1 [4] [] (NN (ak.block (lJ (λ(i:Nat)=>(i<=Z.ns.length)) (λ(i:Nat)=>Z.ns.length-i) (λ(i:Nat)=>[(1,vP b2),(3,vI ↑(fM Z.ns i)),(4,vI ↑i)]) (λ(i:Nat)=>[.abs R,.ax b2 (rV Z Y) 45]) 0 [0,1] (aio _) ?_)))))))))
 rintro i hi
 have hbn:=hB.ns
 have hbd:=hB.dat
 have hdt:=Kq (ns:=Z.ns) (i:=i) hi
 exact SQ (jK 6 [10] [(3,a_ 1 b2)] (NN (cP ((((i:Nat):Int):Int)<(((Z.ns.length:Nat):Int):Int)) (λh10=>KX (ak.seq (ak.block (ak.region (jK 11 [3] [(3,a_ 1 b2),(5,x_ i Z.ns.length (aN.hd hR.n (i:=i) zc)),(7,r_ (aN.rd hR.n (i:=i) zc (j:=7) rfl)),(9,w_ (.int .i64 ↑(fM Z.ns (i+1))) (vV (Int.natCast_add _ _).symm zc (by grind [Kq])))] (LX (ak.region (jK 3 [4] [(1,wJ ((i:Int)+1) (↑(i+1)))] (NL (tJ ((i+1)) [0,1] zc)))))))))) (λh10=>XX (zR (v:=(vI ↑(fM Z.ns i))) ⟨by rw [show i=Z.ns.length by omega],rfl⟩)))))
theorem QC {β:Bs} (Z:RS) (Y:RL) (hR:dF β Z Y) (hB:RB Z) :
 aU Tryz.prog β 81 #[.agg ⟨rV Z Y⟩] [] (λv l=>v=vI ((dI Z.ns Z.ns.length:Nat):Int)/\l=[]):=by
 refine SE Tryz.func81 Tryz.ntmps81 (λR=>SR (jB 2 [1] (λb3=>.ax b3 (rV Z Y) 45) (λb3=>NS (jK 1 [3] [] (NZ (jK 1 [4] [] (NN (ak.block (lJ (λ(i:Nat)=>(i<=Z.ns.length)) (λ(i:Nat)=>Z.ns.length-i) (λ(i:Nat)=>[(1,vP b3),(3,vI ↑(dI Z.ns i)),(4,vI ↑i)]) (λ(i:Nat)=>[.abs R,.ax b3 (rV Z Y) 45]) 0 [0,1] (aio _) ?_)))))))))
 rintro i hi
 have hbn:=hB.ns
 have hbe:=hB.ah
 have hmo:=qQ (ns:=Z.ns) hi
 exact SQ (jK 6 [10] [(3,a_ 1 b3)] (NN (cP ((((i:Nat):Int):Int)<(((Z.ns.length:Nat):Int):Int)) (λh10=>KX (ak.seq (ak.block (ak.region (jK 11 [3] [(3,a_ 1 b3),(5,x_ i Z.ns.length (aN.hd hR.n (i:=i) zc)),(7,r_ (aN.rd hR.n (i:=i) zc (j:=9) rfl)),(9,w_ (.int .i64 ↑(dI Z.ns (i+1))) (vV (Int.natCast_add _ _).symm zc (by have:=qQ (ns:=Z.ns) (show i+1<=Z.ns.length by omega);have:=hB.ah;omega)))] (LX (ak.region (jK 3 [4] [(1,wJ ((i:Int)+1) (↑(i+1)))] (NL (tJ ((i+1)) [0,1] zc)))))))))) (λh10=>XX (zR (v:=(vI ↑(dI Z.ns i))) ⟨by rw [show i=Z.ns.length by omega],rfl⟩)))))
theorem XL {β:Bs} (Z:RS) (Y:RL) (hR:dF β Z Y) (hB:RB Z) (id:Int) :
 aU Tryz.prog β 118 #[.agg ⟨rV Z Y⟩,vI (id)] [] (λv l=>v=vI (uN Z.ns id)/\l=[]):=by
 refine SE Tryz.func118 Tryz.ntmps118 (λR=>SR (jB 2 [2] (λb4=>.ax b4 (rV Z Y) 45) (λb4=>NS (jK 1 [5] [] (NZ (jK 1 [6] [] (NN (ak.block (lJ (λ(i:Nat)=>(i<=Z.ns.length)) (λ(i:Nat)=>Z.ns.length-i) (λ(i:Nat)=>[(1,vI (id)),(2,vP b4),(5,vI ↑(nZ Z.ns id i)),(6,vI ↑i)]) (λ(i:Nat)=>[.abs R,.ax b4 (rV Z Y) 45]) 0 [0,1] (aio _) ?_)))))))))
 rintro i hi
 have hbn:=hB.ns
 have hbe:=hB.ah
 have hcs:=Vl Z.ns id i
 have hmo:=qQ (ns:=Z.ns) hi
 refine SQ (jK 6 [13] [(3,a_ 1 b4)] (NN (cP ((((i:Nat):Int):Int)<(((Z.ns.length:Nat):Int):Int)) (λtL=>KX (ak.seq (ak.block (SR (jK 1 [7] [] (NN (ak.block (lJ (λ(j:Nat)=>(j<=(nd Z.ns i).ah.length)) (λ(j:Nat)=>(nd Z.ns i).ah.length-j) (λ(j:Nat)=>[(1,vI (id)),(2,vP b4),(5,vI ↑(nZ Z.ns id i+iX (nd Z.ns i).ah id j)),(6,vI ↑i),(7,vI ↑j)]) (λ(j:Nat)=>[.abs R,.ax b4 (rV Z Y) 45]) 0 [0,1] (aio _) ?_)))))))) (λtL=>XX (zR (v:=(vI ↑(nZ Z.ns id i))) ⟨by rw [show i=Z.ns.length by omega];rfl,rfl⟩)))))
 rintro j hj
 have hrl:=Nk (nd Z.ns i).ah id j
 have hrw:=hB.row (i:=i) zc
 exact SQ (jK 10 [25] [(3,a_ 1 b4),(5,x_ i Z.ns.length (aN.hd hR.n (i:=i) zc)),(7,r_ (aN.rd hR.n (i:=i) zc (j:=9) rfl))] (NN (cP ((((j:Nat):Int):Int)<((((nd Z.ns i).ah.length:Nat):Int):Int)) (λqi=>KX (ak.seq (ak.block (SR (jK 13 [40] [(2,a_ 1 b4),(4,x_ i Z.ns.length (aN.hd hR.n (i:=i) zc)),(6,r_ (aN.rd hR.n (i:=i) zc (j:=9) rfl)),(8,x_ j ((nd Z.ns i).ah.length) (cT.hd (hR.n.ah i zc) (i:=j) zc)),(10,r_ (cT.rd (hR.n.ah i zc) (i:=j) zc (j:=1) rfl))] (NN (cP (((en (nd Z.ns i).ah j).id:Int)=(id:Int)) (λuI=>ak.region (jK 3 [5] [(1,wJ (((nZ Z.ns id i+iX (nd Z.ns i).ah id j:Nat):Int)+1) (↑((nZ Z.ns id i+iX (nd Z.ns i).ah id j)+1)))] (LX (ak.region (sl 5 (vI ↑((nZ Z.ns id i+iX (nd Z.ns i).ah id j)+1)) (.int .i64 ↑(nZ Z.ns id i+iX (nd Z.ns i).ah id (j+1))) (by rw [←Kv uI,ajl]) (jK 3 [7] [(1,wJ ((j:Int)+1) (↑(j+1)))] (NL (tJ ((j+1)) [0,1] (zc))))))))) (λuI=>KX (ak.region (sl 5 (vI ↑(nZ Z.ns id i+iX (nd Z.ns i).ah id j)) (.int .i64 ↑(nZ Z.ns id i+iX (nd Z.ns i).ah id (j+1))) (by rw [←Hy uI]) (jK 3 [7] [(1,wJ ((j:Int)+1) (↑(j+1)))] (NL (tJ ((j+1)) [0,1] (zc)))))))))))))) (λqi=>XX (ak.region (sl 5 (vI ↑(nZ Z.ns id i+iX (nd Z.ns i).ah id j)) (.int .i64 ↑(nZ Z.ns id (i+1))) (by rw [nZ,show j=(nd Z.ns i).ah.length by omega]) (jK 3 [6] [(1,wJ ((i:Int)+1) (↑(i+1)))] (NL (tJ ((i+1)) [0,1] (zc))))))))))
theorem jL {β:Bs} (Z:RS) (Y:RL) (hR:dF β Z Y) (hB:RC Z) (d:Nat) (hd:d<Z.ns.length) (name:ByteArray) :
 aU Tryz.prog β 76 #[.agg ⟨rV Z Y⟩,vI (((d:Nat):Int)),.string name] [] (λv l=>v=vI (bV Z.ns d name)/\l=[]):=by
 refine SE Tryz.func76 Tryz.ntmps76 (λR=>SR (jB 2 [3] (λb5=>.ax b5 (rV Z Y) 45) (λb5=>NZ (jK 1 [7] [] (NN (ak.block (lJ (λ(j:Nat)=>(j<=(nd Z.ns d).ah.length)/\(∀q,q<j->¬(en (nd Z.ns d).ah q).name=name)) (λ(j:Nat)=>(nd Z.ns d).ah.length-j) (λ(j:Nat)=>[(1,vI ↑d),(2,.string name),(3,vP b5),(7,vI ↑j)]) (λ(j:Nat)=>[.abs R,.ax b5 (rV Z Y) 45]) 0 [0,1] (⟨aio _,λq hq=>ain hq (aiq q)⟩) ?_)))))))
 rintro j ⟨hj,iV⟩
 have hrw:=hB.toRB.row hd
 refine SQ (jK 10 [17] [(3,a_ 1 b5),(5,x_ d Z.ns.length (aN.hd hR.n (i:=d) zc)),(7,r_ (aN.rd hR.n (i:=d) zc (j:=9) rfl))] (NN (cP ((((j:Nat):Int):Int)<((((nd Z.ns d).ah.length:Nat):Int):Int)) (λE4=>KX (ak.seq (ak.block (SR (jK 13 [32] [(2,a_ 1 b5),(4,x_ d Z.ns.length (aN.hd hR.n (i:=d) zc)),(6,r_ (aN.rd hR.n (i:=d) zc (j:=9) rfl)),(8,x_ j ((nd Z.ns d).ah.length) (cT.hd (hR.n.ah d zc) (i:=j) zc)),(10,r_ (cT.rd (hR.n.ah d zc) (i:=j) zc (j:=0) rfl)),(12,w_ (.bool (decide (((en (nd Z.ns d).ah j).name:ByteArray)=name))) (rE _ _))] (NN (cP (((en (nd Z.ns d).ah j).name:ByteArray)=name) (λsR=>ak.seq (jM [0,1,2,3,4,5,6,7,8,9,10,11,12,513,514] [1] (jG 13 [34,45] [(1,a_ 0 b5),(4,a_ 0 b5),(6,x_ d Z.ns.length (aN.hd hR.n (i:=d) zc)),(8,r_ (aN.rd hR.n (i:=d) zc (j:=9) rfl)),(10,x_ j ((nd Z.ns d).ah.length) (cT.hd (hR.n.ah d zc) (i:=j) zc)),(12,r_ (cT.rd (hR.n.ah d zc) (i:=j) zc (j:=1) rfl))] (kL [1] [] (zA Y.A Y.c Z.ns Y.L hR.n hB.fD (by have:=hB.ns;omega) (en (nd Z.ns d).ah j).id) ?_ (by rintro _ _ ⟨rfl,rfl⟩;kernel_rfl))))) (λsR=>KX (ak.region (jK 3 [7] [(1,wJ ((j:Int)+1) (↑(j+1)))] (NL (tJ ((j+1)) [0,1] (⟨zc,λq hq=>Pe⟩))))))))))))) (λE4=>XX (zR ⟨ail (Value.int .i64) (Vr (λq hq=>iV q zc)),rfl⟩)))))
 rintro _ _ ⟨rfl,rfl⟩
 exact eH.last KB (jK 1 [6] [] (NL (ay.np (NX (ak.ret (ay.fT (ay.bB (ay.bB (ay.fT (ay.bB (RT _ [0] (⟨ail (Value.int .i64) (XI zc sR iV),rfl⟩))))))))))))
end
section
open Go.RowKit Go.Maps bF aD
attribute [local irreducible] ar bN ak ay bZ
theorem Nq (l:List Int) (x:Int):bH l++[vI x]=bH (l++[x]):=by simp [bH]
theorem iT (q:bC Int) (x:Int×Int):(q++[x]).length=q.length+1:=ait
theorem L9 {q:bC Int} {x:Int×Int} {B:Option Addr} {c:Nat} {k:Int} (h:k=x.1):HP.abs (aF 3 1 B (q.length+1) c (bH (aY q)++[vI k]))=HP.abs (aF 3 1 B (q++[x]).length c (bH (aY (q++[x])))):=by
 rw [MP,←Nq,iT,h]
theorem Ma {q:bC Int} {x:Int×Int} {B:Option Addr} {c:Nat} {k:Int} (h:k=x.2):HP.abs (aF 3 1 B (q.length+1) c (bH (ja q)++[vI k]))=HP.abs (aF 3 1 B (q++[x]).length c (bH (ja (q++[x])))):=by
 rw [aaE,←Nq,iT,h]
theorem mz.keep {us q:bC Int} {h v:Int} {i:Nat} {d:Bool} (hp:mz us h v i d q) (hi:i<us.length) (hk:¬h<(pr us i).1):mz us h v (i+1) d (q++[pr us i]):=by
 cases d with
 |false=>exact hp.miss hi hk
 |true=>exact hp.more hi
theorem FW {β:Bs} (M p:Int) (A B:Option Addr) (c d:Nat) (us:bC Int) (hA:cA β A (bH (aY us))) (hl:us.length<=16777216) (h:Int) :
 aU Tryz.prog β 101 #[.agg #[vI (M),vI (p),.slice A (us.length) (c),.slice B (us.length) (d)],vI h] [] (λv l=>v=vI (uM (aY us) h)/\l=[]):=by
 refine SE Tryz.func101 Tryz.ntmps101 (λR=>SR (jB 2 [2] (λb1=>.ax b1 [vI (M),vI (p),.slice A (us.length) (c),.slice B (us.length) (d)] 43) (λb1=>NZ (jK 1 [5] [] (NN (ak.block (lJ (λ(i:Nat)=>(i<=us.length)/\(∀j,j<i->¬(aY us).getD j 0=h)) (λ(i:Nat)=>us.length-i) (λ(i:Nat)=>[(1,vI (h)),(2,vP b1),(5,vI ↑i)]) (λ(i:Nat)=>[.abs R,.ax b1 [vI (M),vI (p),.slice A (us.length) (c),.slice B (us.length) (d)] 43]) 0 [0,1] (⟨aio _,λj hj=>ain hj (aiq j)⟩) ?_)))))))
 rintro i ⟨hi,iV⟩
 exact SQ (jK 5 [10] [(2,a_ 1 b1)] (NN (cP ((((i:Nat):Int):Int)<(((us.length:Nat):Int):Int)) (λh10=>KX (ak.seq (ak.block (SR (jK 7 [19] [(1,a_ 1 b1),(3,x_ i us.length (mw.hd hA (j:=i) (by rw [j9];omega))),(4,r_ (mw.rd hA (j:=i) (by rw [j9];omega)))] (NN (cP ((((aY us).getD i 0):Int)=(h:Int)) (λG9=>zR (v:=(vI ↑i)) ⟨by grind [XC,j9],rfl⟩) (λG9=>KX (ak.region (jK 3 [5] [(1,wJ ((i:Int)+1) (↑(i+1)))] (NL (tJ ((i+1)) [0,1] (⟨zc,λj hj=>(ais.1 hj).elim (iV j) (λe=>e ▸ G9)⟩))))))))))))) (λh10=>XX (zR (v:=(vI (-1))) ⟨by grind [Qw,j9],rfl⟩)))))
theorem aaN {β:Bs} (M p:Int) (A B:Option Addr) (c d:Nat) (us:bC Int) (x:Int) (hf:M<=(us.length:Int)) :
 aU Tryz.prog β 102 #[.agg #[vI (M),vI (p),.slice A (us.length) (c),.slice B (us.length) (d)],vI x] [] (λv l=>v=.tuple #[.agg #[vI (M),vI (p),.slice A (us.length) (c),.slice B (us.length) (d)],vI 0,vI 130]/\l=[]):=by
 exact SE Tryz.func102 Tryz.ntmps102 (λR=>SR (jB 1 [2] (λb2=>.ax b2 [vI (M),vI (p),.slice A (us.length) (c),.slice B (us.length) (d)] 43) (λb2=>jB 3 [4] (λb3=>.ax b3 [vI 0,vI 0,.slice none (0) (0),.slice none (0) (0)] 43) (λb3=>NZ (jK 6 [16] [(1,a_ 1 b2),(4,a_ 1 b2)] (NN (cP ((((us.length:Nat):Int):Int)>=(M:Int)) (λpR=>SR (jC 4 [5,6] [(0,A_ 1 b2 4),(1,A_ 2 b3 4)] [(2,[(0,vI (M)),(1,vI (p)),(2,.slice A (us.length) (c)),(3,.slice B (us.length) (d))])] (eS [A_ 2 b3 4] ⟨rfl,rfl⟩))) (λpR=>ain pR (by omega)))))))))
theorem adB {β:Bs} (M p:Int) (A B:Option Addr) (c d:Nat) (us:bC Int) (hA:cA β A (bH (aY us))) (hB:cA β B (bH (ja us))) (hl:us.length<=16777216) (hr:aD.dH (aY us)) (hp:∀z∈aY us,1<=z) (x:Int) (hf:(us.length:Int)<M) :
 aU Tryz.prog β 102 #[.agg #[vI (M),vI (p),.slice A (us.length) (c),.slice B (us.length) (d)],vI x] [] (λv l=>∃A' c' B' d',v=.tuple #[.agg #[vI (M),vI (max p ((us.length:Int)+1)),.slice A' (ins (aD.aP us) x us).length c',.slice B' (ins (aD.aP us) x us).length d'],vI (aD.aP us),vI 0]/\l=[.abs (aF 3 1 A' (ins (aD.aP us) x us).length c' (bH (aY (ins (aD.aP us) x us)))),.abs (aF 3 1 B' (ins (aD.aP us) x us).length d' (bH (ja (ins (aD.aP us) x us))))]):=by
 have hls:=Vm hr hp
 have dL:=least_le us
 refine SE Tryz.func102 Tryz.ntmps102 (λR=>SR (jB 1 [2] (λb4=>.ax b4 [vI (M),vI (p),.slice A (us.length) (c),.slice B (us.length) (d)] 43) (λb4=>jB 3 [4] (λb5=>.ax b5 [vI 0,vI 0,.slice none (0) (0),.slice none (0) (0)] 43) (λb5=>NZ (jK 6 [16] [(1,a_ 1 b4),(4,a_ 1 b4)] (NN (cP ((((us.length:Nat):Int):Int)>=(M:Int)) (λpR=>ain pR (by omega)) (λpR=>KX (SR (jK 1 [7] [] (NN (ak.seq (ak.block (lJ (λ(g:Int)=>(1<=g)/\(g<=aD.aP us)) (λ(g:Int)=>(aD.aP us+1-g).toNat) (λ(g:Int)=>[(1,vI (x)),(2,vP b4),(4,vP b5),(7,vI (g))]) (λ(g:Int)=>[.abs R,.ax b4 [vI (M),vI (p),.slice A (us.length) (c),.slice B (us.length) (d)] 43,.ax b5 [vI 0,vI 0,.slice none (0) (0),.slice none (0) (0)] 43]) 1 [0,1,2] (⟨zc,hls.1⟩) ?_))))))))))))))
 rintro g ⟨hg1,hg2⟩
 refine SQ (jK 2 [18,19] [(0,A_ 1 b4 4)] (gE [] (FW M p A B c d us hA hl g) (jK 1 [21] [] (NN (cP (((uM (aY us) g):Int)>=(0:Int)) (λsX=>KX (ak.block (ak.region (jK 3 [7] [(1,wJ (g+1) (g+1))] (NL (ay.gh (tJ ((g+1)) [0,1,2] (⟨zc,by grind [aY,Tw]⟩)))))))) (λsX=>XX (SR (sl 7 (vI (g)) (.int .i64 ((aD.aP us))) (abW (by rcases Int.lt_or_le g (aD.aP us) with h0|h0;exact ain (Tw.2 (hls.2.2 g zc h0)) sX;omega)) (jN 7 [8] (λb6=>[(1,a_ 1 b4),(3,a_ 1 b4),(6,A_ 3 b6 4)]) (λ_=>[]) (λb6=>.ax b6 [vI (M),vI (p),.slice none (0) (0),.slice none (0) (0)] 43) (λb6=>NS (ar.mem (λw hS=>(hS.mQ (e:=3) (size:=1)).mQ (e:=3) (size:=1)) (jK 1 [9] [] (NZ (jK 1 [10] [] (NN (ak.block (lJ (λ(i,dn,q,Ah,ch,Av,cv)=>(i<=us.length)/\(mz us (aD.aP us) x i dn q)) (λ(i,dn,q,Ah,ch,Av,cv)=>us.length-i) (λ(i,dn,q,Ah,ch,Av,cv)=>[(1,vI (x)),(2,vP b4),(4,vP b5),(7,vI ((aD.aP us))),(8,vP b6),(9,.bool dn),(10,vI ↑i)]) (λ(i,dn,q,Ah,ch,Av,cv)=>[.ax b4 [vI (M),vI (p),.slice A (us.length) (c),.slice B (us.length) (d)] 43,.ax b6 [vI (M),vI (p),.slice Ah (q.length) (ch),.slice Av (q.length) (cv)] 43,.abs (aF 3 1 Ah q.length ch (bH (aY q))),.abs (aF 3 1 Av q.length cv (bH (ja q))),.ax b5 [vI 0,vI 0,.slice none (0) (0),.slice none (0) (0)] 43,.abs R]) (0,false,[],none,0,none,0) [1,3,4,5,2,0] (⟨aio _,mz.zero⟩) ?_)))))))))))))))))
 rintro⟨i,dn,q,Ah,ch,Av,cv⟩ ⟨hi,hpt⟩
 refine SQ (jK 5 [33] [(2,a_ 0 b4)] (NN (cP ((((i:Nat):Int):Int)<(((us.length:Nat):Int):Int)) (λMG=>?_) (λMG=>?_))))
 ·refine KX (ak.seq (ak.block (ak.seq (SR ?_))))
  have hpi:=Ai (us:=us) (i:=i) zc
  have wO:q.length<=i+1:=by have:=hpt.len;cases dn<;>simp at this<;>omega
  refine jK 8 [43] [(1,a_ 0 b4),(3,x_ i us.length (mw.hd hA (j:=i) (by rw [j9];omega))),(4,r_ (mw.rd hA (j:=i) (by rw [j9];omega)))] (sP 43 ((((aY us).getD i 0):Int)>((aD.aP us):Int)) (λJN=>?_) (λJN=>?_))
  ·refine jK 3 [46] [] (NN (ak.cond (b:=(!dn)) (λ_=>KB) (λh46=>?_) (λh46=>?_)))
   ·refine SR (jN 4 [48,50] (λb7=>[(1,a_ 1 b6)]) (λ_=>[]) (λb7=>.ax b7 [vI ((aD.aP us))] 3) (λb7=>ny 2 41 (some ⟨b7,0,none⟩) 1 1 [vI ((aD.aP us))] rfl (fQ (j:=6) rfl) (λA8 c9=>ar.cJ 2 rfl (L9 (x:=(aD.aP us,x)) rfl) (sl 51 (.slice A8 (q.length+1) (c9)) (.slice A8 ((q++[(aD.aP us,x)]).length) (c9)) (by rw [iT q (aD.aP us,x)]) (jC 2 [] [(1,a_ 1 b6)] [(1,[(2,.slice A8 ((q++[(aD.aP us,x)]).length) (c9))])] (NS (jN 4 [54,56] (λb10=>[(1,a_ 1 b6)]) (λ_=>[]) (λb10=>.ax b10 [vI (x)] 3) (λb10=>ny 3 41 (some ⟨b10,0,none⟩) 1 1 [vI (x)] rfl (fQ (j:=7) rfl) (λnK Bd=>ar.cJ 3 rfl (Ma (x:=(aD.aP us,x)) rfl) (sl 57 (.slice nK (q.length+1) (Bd)) (.slice nK ((q++[(aD.aP us,x)]).length) (Bd)) (by rw [iT q (aD.aP us,x)]) (jC 2 [] [(1,a_ 1 b6)] [(1,[(3,.slice nK ((q++[(aD.aP us,x)]).length) (Bd))])] (NN (ak.region (jK 1 [9] [] (NN (ak.seq (rM (List.range 11) 7 [0,1,4,5,6,7] (jR 7 [1,2,4,7,8,9,10,60,65] [(1,a_ 1 b6),(3,a_ 0 b4),(5,x_ i us.length (mw.hd hA (j:=i) (by rw [j9];omega))),(6,r_ (mw.rd hA (j:=i) (by rw [j9];omega)))] (mN [0,1,4,5,6,7] (λb13=>[(66,.slice (some ⟨b13,0,none⟩) (1) (1))]) (λ_=>[]) (λb13=>.ax b13 [vI (((aY us).getD i 0))] 3) (λb13=>bZ.cut (ι:=(Option Addr)×Nat) (bL:=λ((EH,EI):(Option Addr)×Nat)=>[(1,vI (x)),(2,vP b4),(4,vP b5),(7,vI (aD.aP us)),(8,vP b6),(9,.bool true),(10,vI ↑i),(67,.slice EH (((q++[(aD.aP us,x)])++[(pr us i)]).length) (EI))]) (cR:=λ((EH,EI):(Option Addr)×Nat)=>[.ax b4 [vI (M),vI (p),.slice A (us.length) (c),.slice B (us.length) (d)] 43,.ax b6 [vI (M),vI (p),.slice A8 ((q++[(aD.aP us,x)]).length) (c9),.slice nK ((q++[(aD.aP us,x)]).length) (Bd)] 43,.abs (aF 3 1 EH (((q++[(aD.aP us,x)])++[(pr us i)]).length) EI (bH (aY ((q++[(aD.aP us,x)])++[(pr us i)])))),.abs (aF 3 1 nK ((q++[(aD.aP us,x)]).length) Bd (bH (ja (q++[(aD.aP us,x)])))),.ax b5 [vI 0,vI 0,.slice none (0) (0),.slice none (0) (0)] 43,.abs R,.ax b7 [vI ((aD.aP us))] 3,.ax b10 [vI (x)] 3,.ax b13 [vI (((aY us).getD i 0))] 3]) [0,1,4,5,6,7] rfl rfl ?_ rfl (λ_=>KB) ?_)))))))))))) (n:=q.length) (hb:=by have:=wO;have:=iT q (aD.aP us,x);omega))))))) (n:=q.length) (hb:=by have:=wO;have:=iT q (aD.aP us,x);omega)))
    ·exact ny 2 41 (some ⟨b13,0,none⟩) 1 1 [vI (((aY us).getD i 0))] rfl (fQ (j:=8) rfl) (λEH EI=>ar.cJ 2 rfl (L9 (x:=(pr us i)) hpi.1) (sl 67 (.slice EH (((q++[(aD.aP us,x)]).length)+1) (EI)) (.slice EH (((q++[(aD.aP us,x)])++[(pr us i)]).length) (EI)) (by rw [iT (q++[(aD.aP us,x)]) (pr us i)]) (NL (MD (EH,EI) [1,2,4,7,8,9,10,67] [0,1,2,3,4,5,6,7,8])))) (n:=(q++[(aD.aP us,x)]).length) (hb:=by have:=wO;have:=iT q (aD.aP us,x);omega)
    rintro⟨EH,EI⟩
    refine nC [0,1,4,5,6,7] [68] [] [] (bZ.last rfl rfl (jC 1 [] [(0,a_ 1 b6)] [(1,[(2,.slice EH (((q++[(aD.aP us,x)])++[(pr us i)]).length) (EI))])] (NL (ay.np (NX (rM (List.range 11) 7 [0,1,4,5,6,7,8] (jR 7 [1,2,4,7,8,9,10,70,75] [(1,a_ 1 b6),(3,a_ 0 b4),(5,x_ i us.length (mw.hd hB (j:=i) (by rw [mV];omega))),(6,r_ (mw.rd hB (j:=i) (by rw [mV];omega)))] (mN [0,1,4,5,6,7,8] (λb16=>[(76,.slice (some ⟨b16,0,none⟩) (1) (1))]) (λ_=>[]) (λb16=>.ax b16 [vI (((ja us).getD i 0))] 3) (λb16=>bZ.cut (ι:=(Option Addr)×Nat) (bL:=λ((o7,q8):(Option Addr)×Nat)=>[(1,vI (x)),(2,vP b4),(4,vP b5),(7,vI (aD.aP us)),(8,vP b6),(9,.bool true),(10,vI ↑i),(77,.slice o7 (((q++[(aD.aP us,x)])++[(pr us i)]).length) (q8))]) (cR:=λ((o7,q8):(Option Addr)×Nat)=>[.ax b4 [vI (M),vI (p),.slice A (us.length) (c),.slice B (us.length) (d)] 43,.ax b6 [vI (M),vI (p),.slice EH (((q++[(aD.aP us,x)])++[(pr us i)]).length) (EI),.slice nK ((q++[(aD.aP us,x)]).length) (Bd)] 43,.abs (aF 3 1 EH (((q++[(aD.aP us,x)])++[(pr us i)]).length) EI (bH (aY ((q++[(aD.aP us,x)])++[(pr us i)])))),.abs (aF 3 1 o7 (((q++[(aD.aP us,x)])++[(pr us i)]).length) q8 (bH (ja ((q++[(aD.aP us,x)])++[(pr us i)])))),.ax b5 [vI 0,vI 0,.slice none (0) (0),.slice none (0) (0)] 43,.abs R,.ax b7 [vI ((aD.aP us))] 3,.ax b10 [vI (x)] 3,.ax b13 [vI (((aY us).getD i 0))] 3,.ax b16 [vI (((ja us).getD i 0))] 3]) [0,1,4,5,6,7,8] rfl rfl ?_ rfl (λ_=>KB) ?_)))))))))
    ·exact ny 3 41 (some ⟨b16,0,none⟩) 1 1 [vI (((ja us).getD i 0))] rfl (fQ (j:=9) rfl) (λo7 q8=>ar.cJ 3 rfl (Ma (x:=(pr us i)) hpi.2) (sl 77 (.slice o7 (((q++[(aD.aP us,x)]).length)+1) (q8)) (.slice o7 (((q++[(aD.aP us,x)])++[(pr us i)]).length) (q8)) (by rw [iT (q++[(aD.aP us,x)]) (pr us i)]) (NL (MD (o7,q8) [1,2,4,7,8,9,10,77] [0,1,2,3,4,5,6,7,8,9])))) (n:=(q++[(aD.aP us,x)]).length) (hb:=by have:=wO;have:=iT q (aD.aP us,x);omega)
    rintro⟨o7,q8⟩
    exact nC [0,1,4,5,6,7,8] [78] [] [] (bZ.last rfl rfl (jC 1 [] [(0,a_ 1 b6)] [(1,[(3,.slice o7 (((q++[(aD.aP us,x)])++[(pr us i)]).length) (q8))])] (NL (ay.np (BX (ak.region (jK 3 [10] [(1,wJ ((i:Int)+1) (↑(i+1)))] (NL (tJ ((i+1),true,((q++[(aD.aP us,x)])++[(pr us i)]),EH,EI,o7,q8) [0,1,2,3,4,5] (⟨zc,mz.hit ((show dn=false by simpa using h46) ▸ hpt) zc (by rw [←hpi.1];omega)⟩))))))))))
   refine KX (ak.seq (rM (List.range 11) 7 [0,1,4,5] (jR 7 [1,2,4,7,8,9,10,60,65] [(1,a_ 1 b6),(3,a_ 0 b4),(5,x_ i us.length (mw.hd hA (j:=i) (by rw [j9];omega))),(6,r_ (mw.rd hA (j:=i) (by rw [j9];omega)))] (mN [0,1,4,5] (λb19=>[(66,.slice (some ⟨b19,0,none⟩) (1) (1))]) (λ_=>[]) (λb19=>.ax b19 [vI (((aY us).getD i 0))] 3) (λb19=>bZ.cut (ι:=(Option Addr)×Nat) (bL:=λ((oH,oI):(Option Addr)×Nat)=>[(1,vI (x)),(2,vP b4),(4,vP b5),(7,vI (aD.aP us)),(8,vP b6),(9,.bool dn),(10,vI ↑i),(67,.slice oH ((q++[(pr us i)]).length) (oI))]) (cR:=λ((oH,oI):(Option Addr)×Nat)=>[.ax b4 [vI (M),vI (p),.slice A (us.length) (c),.slice B (us.length) (d)] 43,.ax b6 [vI (M),vI (p),.slice Ah (q.length) (ch),.slice Av (q.length) (cv)] 43,.abs (aF 3 1 oH ((q++[(pr us i)]).length) oI (bH (aY (q++[(pr us i)])))),.abs (aF 3 1 Av q.length cv (bH (ja q))),.ax b5 [vI 0,vI 0,.slice none (0) (0),.slice none (0) (0)] 43,.abs R,.ax b19 [vI (((aY us).getD i 0))] 3]) [0,1,4,5] rfl rfl ?_ rfl (λ_=>KB) ?_)))))
   ·exact ny 2 41 (some ⟨b19,0,none⟩) 1 1 [vI (((aY us).getD i 0))] rfl (fQ (j:=6) rfl) (λoH oI=>ar.cJ 2 rfl (L9 (x:=(pr us i)) hpi.1) (sl 67 (.slice oH (q.length+1) (oI)) (.slice oH ((q++[(pr us i)]).length) (oI)) (by rw [iT q (pr us i)]) (NL (MD (oH,oI) [1,2,4,7,8,9,10,67] [0,1,2,3,4,5,6])))) (n:=q.length) (hb:=by have:=wO;have:=iT q (aD.aP us,x);omega)
   rintro⟨oH,oI⟩
   refine nC [0,1,4,5] [68] [] [] (bZ.last rfl rfl (jC 1 [] [(0,a_ 1 b6)] [(1,[(2,.slice oH ((q++[(pr us i)]).length) (oI))])] (NL (ay.np (NX (rM (List.range 11) 7 [0,1,4,5,6] (jR 7 [1,2,4,7,8,9,10,70,75] [(1,a_ 1 b6),(3,a_ 0 b4),(5,x_ i us.length (mw.hd hB (j:=i) (by rw [mV];omega))),(6,r_ (mw.rd hB (j:=i) (by rw [mV];omega)))] (mN [0,1,4,5,6] (λnh=>[(76,.slice (some ⟨nh,0,none⟩) (1) (1))]) (λ_=>[]) (λnh=>.ax nh [vI (((ja us).getD i 0))] 3) (λnh=>bZ.cut (ι:=(Option Addr)×Nat) (bL:=λ((uJ,uK):(Option Addr)×Nat)=>[(1,vI (x)),(2,vP b4),(4,vP b5),(7,vI (aD.aP us)),(8,vP b6),(9,.bool dn),(10,vI ↑i),(77,.slice uJ ((q++[(pr us i)]).length) (uK))]) (cR:=λ((uJ,uK):(Option Addr)×Nat)=>[.ax b4 [vI (M),vI (p),.slice A (us.length) (c),.slice B (us.length) (d)] 43,.ax b6 [vI (M),vI (p),.slice oH ((q++[(pr us i)]).length) (oI),.slice Av (q.length) (cv)] 43,.abs (aF 3 1 oH ((q++[(pr us i)]).length) oI (bH (aY (q++[(pr us i)])))),.abs (aF 3 1 uJ ((q++[(pr us i)]).length) uK (bH (ja (q++[(pr us i)])))),.ax b5 [vI 0,vI 0,.slice none (0) (0),.slice none (0) (0)] 43,.abs R,.ax b19 [vI (((aY us).getD i 0))] 3,.ax nh [vI (((ja us).getD i 0))] 3]) [0,1,4,5,6] rfl rfl ?_ rfl (λ_=>KB) ?_)))))))))
   ·exact ny 3 41 (some ⟨nh,0,none⟩) 1 1 [vI (((ja us).getD i 0))] rfl (fQ (j:=7) rfl) (λuJ uK=>ar.cJ 3 rfl (Ma (x:=(pr us i)) hpi.2) (sl 77 (.slice uJ (q.length+1) (uK)) (.slice uJ ((q++[(pr us i)]).length) (uK)) (by rw [iT q (pr us i)]) (NL (MD (uJ,uK) [1,2,4,7,8,9,10,77] [0,1,2,3,4,5,6,7])))) (n:=q.length) (hb:=by have:=wO;have:=iT q (aD.aP us,x);omega)
   rintro⟨uJ,uK⟩
   exact nC [0,1,4,5,6] [78] [] [] (bZ.last rfl rfl (jC 1 [] [(0,a_ 1 b6)] [(1,[(3,.slice uJ ((q++[(pr us i)]).length) (uK))])] (NL (ay.np (BX (ak.region (jK 3 [10] [(1,wJ ((i:Int)+1) (↑(i+1)))] (NL (tJ ((i+1),dn,(q++[(pr us i)]),oH,oI,uJ,uK) [0,1,2,3,4,5] (⟨zc,(show dn=true by simpa using h46) ▸ mz.more ((show dn=true by simpa using h46) ▸ hpt) zc⟩))))))))))
  refine jK 3 [46] [] (NF (KX (ak.seq (rM (List.range 11) 7 [0,1,4,5] (jR 7 [1,2,4,7,8,9,10,60,65] [(1,a_ 1 b6),(3,a_ 0 b4),(5,x_ i us.length (mw.hd hA (j:=i) (by rw [j9];omega))),(6,r_ (mw.rd hA (j:=i) (by rw [j9];omega)))] (mN [0,1,4,5] (λsY=>[(66,.slice (some ⟨sY,0,none⟩) (1) (1))]) (λ_=>[]) (λsY=>.ax sY [vI (((aY us).getD i 0))] 3) (λsY=>bZ.cut (ι:=(Option Addr)×Nat) (bL:=λ((qK,qL):(Option Addr)×Nat)=>[(1,vI (x)),(2,vP b4),(4,vP b5),(7,vI (aD.aP us)),(8,vP b6),(9,.bool dn),(10,vI ↑i),(67,.slice qK ((q++[(pr us i)]).length) (qL))]) (cR:=λ((qK,qL):(Option Addr)×Nat)=>[.ax b4 [vI (M),vI (p),.slice A (us.length) (c),.slice B (us.length) (d)] 43,.ax b6 [vI (M),vI (p),.slice Ah (q.length) (ch),.slice Av (q.length) (cv)] 43,.abs (aF 3 1 qK ((q++[(pr us i)]).length) qL (bH (aY (q++[(pr us i)])))),.abs (aF 3 1 Av q.length cv (bH (ja q))),.ax b5 [vI 0,vI 0,.slice none (0) (0),.slice none (0) (0)] 43,.abs R,.ax sY [vI (((aY us).getD i 0))] 3]) [0,1,4,5] rfl rfl ?_ rfl (λ_=>KB) ?_)))))))
  ·exact ny 2 41 (some ⟨sY,0,none⟩) 1 1 [vI (((aY us).getD i 0))] rfl (fQ (j:=6) rfl) (λqK qL=>ar.cJ 2 rfl (L9 (x:=(pr us i)) hpi.1) (sl 67 (.slice qK (q.length+1) (qL)) (.slice qK ((q++[(pr us i)]).length) (qL)) (by rw [iT q (pr us i)]) (NL (MD (qK,qL) [1,2,4,7,8,9,10,67] [0,1,2,3,4,5,6])))) (n:=q.length) (hb:=by have:=wO;have:=iT q (aD.aP us,x);omega)
  rintro⟨qK,qL⟩
  refine nC [0,1,4,5] [68] [] [] (bZ.last rfl rfl (jC 1 [] [(0,a_ 1 b6)] [(1,[(2,.slice qK ((q++[(pr us i)]).length) (qL))])] (NL (ay.np (NX (rM (List.range 11) 7 [0,1,4,5,6] (jR 7 [1,2,4,7,8,9,10,70,75] [(1,a_ 1 b6),(3,a_ 0 b4),(5,x_ i us.length (mw.hd hB (j:=i) (by rw [mV];omega))),(6,r_ (mw.rd hB (j:=i) (by rw [mV];omega)))] (mN [0,1,4,5,6] (λjh=>[(76,.slice (some ⟨jh,0,none⟩) (1) (1))]) (λ_=>[]) (λjh=>.ax jh [vI (((ja us).getD i 0))] 3) (λjh=>bZ.cut (ι:=(Option Addr)×Nat) (bL:=λ((Bt,Bu):(Option Addr)×Nat)=>[(1,vI (x)),(2,vP b4),(4,vP b5),(7,vI (aD.aP us)),(8,vP b6),(9,.bool dn),(10,vI ↑i),(77,.slice Bt ((q++[(pr us i)]).length) (Bu))]) (cR:=λ((Bt,Bu):(Option Addr)×Nat)=>[.ax b4 [vI (M),vI (p),.slice A (us.length) (c),.slice B (us.length) (d)] 43,.ax b6 [vI (M),vI (p),.slice qK ((q++[(pr us i)]).length) (qL),.slice Av (q.length) (cv)] 43,.abs (aF 3 1 qK ((q++[(pr us i)]).length) qL (bH (aY (q++[(pr us i)])))),.abs (aF 3 1 Bt ((q++[(pr us i)]).length) Bu (bH (ja (q++[(pr us i)])))),.ax b5 [vI 0,vI 0,.slice none (0) (0),.slice none (0) (0)] 43,.abs R,.ax sY [vI (((aY us).getD i 0))] 3,.ax jh [vI (((ja us).getD i 0))] 3]) [0,1,4,5,6] rfl rfl ?_ rfl (λ_=>KB) ?_)))))))))
  ·exact ny 3 41 (some ⟨jh,0,none⟩) 1 1 [vI (((ja us).getD i 0))] rfl (fQ (j:=7) rfl) (λBt Bu=>ar.cJ 3 rfl (Ma (x:=(pr us i)) hpi.2) (sl 77 (.slice Bt (q.length+1) (Bu)) (.slice Bt ((q++[(pr us i)]).length) (Bu)) (by rw [iT q (pr us i)]) (NL (MD (Bt,Bu) [1,2,4,7,8,9,10,77] [0,1,2,3,4,5,6,7])))) (n:=q.length) (hb:=by have:=wO;have:=iT q (aD.aP us,x);omega)
  rintro⟨Bt,Bu⟩
  exact nC [0,1,4,5,6] [78] [] [] (bZ.last rfl rfl (jC 1 [] [(0,a_ 1 b6)] [(1,[(3,.slice Bt ((q++[(pr us i)]).length) (Bu))])] (NL (ay.np (BX (ak.region (jK 3 [10] [(1,wJ ((i:Int)+1) (↑(i+1)))] (NL (tJ ((i+1),dn,(q++[(pr us i)]),qK,qL,Bt,Bu) [0,1,2,3,4,5] (⟨zc,hpt.keep zc (by rw [←hpi.1];omega)⟩))))))))))
 refine XX (ak.seq (SR ?_))
 have hiu:i=us.length:=zc
 subst hiu
 have wO:q.length<=us.length+1:=by have:=hpt.len;cases dn<;>simp at this<;>omega
 refine jK 2 [80] [] (NN (ak.cond (b:=(!dn)) (λ_=>KB) (λXM=>?_) (λXM=>?_)))
 ·refine SR (jN 4 [82,84] (λuL=>[(1,a_ 1 b6)]) (λ_=>[]) (λuL=>.ax uL [vI ((aD.aP us))] 3) (λuL=>ny 2 41 (some ⟨uL,0,none⟩) 1 1 [vI ((aD.aP us))] rfl (fQ (j:=6) rfl) (λKz KA=>ar.cJ 2 rfl (L9 (x:=(aD.aP us,x)) rfl) (sl 85 (.slice Kz (q.length+1) (KA)) (.slice Kz ((q++[(aD.aP us,x)]).length) (KA)) (by rw [iT q (aD.aP us,x)]) (jC 2 [] [(1,a_ 1 b6)] [(1,[(2,.slice Kz ((q++[(aD.aP us,x)]).length) (KA))])] (NN (ak.region (jN 4 [88,90] (λwh=>[(1,a_ 1 b6)]) (λ_=>[]) (λwh=>.ax wh [vI (x)] 3) (λwh=>ny 3 41 (some ⟨wh,0,none⟩) 1 1 [vI (x)] rfl (fQ (j:=7) rfl) (λKC KD=>ar.cJ 3 rfl (Ma (x:=(aD.aP us,x)) rfl) (sl 91 (.slice KC (q.length+1) (KD)) (.slice KC ((q++[(aD.aP us,x)]).length) (KD)) (by rw [iT q (aD.aP us,x)]) (jC 2 [] [(1,a_ 1 b6)] [(1,[(3,.slice KC ((q++[(aD.aP us,x)]).length) (KD))])] (NZ (jK 6 [98] [(1,a_ 1 b6),(4,a_ 1 b6)] (NN (cP (((((q++[(aD.aP us,x)]).length:Nat):Int):Int)>(p:Int)) (λXB=>?_) (λXB=>?_)))))))) (n:=q.length) (hb:=by have:=wO;have:=iT q (aD.aP us,x);omega)))))))) (n:=q.length) (hb:=by have:=wO;have:=iT q (aD.aP us,x);omega)))
  ·refine ak.region (jC 5 [] [(1,a_ 1 b6),(4,a_ 1 b6)] [(1,[(1,vI ↑((q++[(aD.aP us,x)]).length))])] (NS (jC 5 [5,6] [(0,A_ 1 b6 4),(2,A_ 4 b5 4)] [(4,[(0,vI (M)),(1,vI ↑((q++[(aD.aP us,x)]).length)),(2,.slice Kz ((q++[(aD.aP us,x)]).length) (KA)),(3,.slice KC ((q++[(aD.aP us,x)]).length) (KD))])] (NN (ak.ret ?_)))))
   have hq:(q++[(aD.aP us,x)])=ins (aD.aP us) x us:=mz.last ((show dn=false by simpa using XM) ▸ hpt)
   have hql:((q++[(aD.aP us,x)])).length=us.length+1:=by rw [hq,lV]
   skip
   exact rT (.tuple #[.agg #[vI (M),vI ↑((q++[(aD.aP us,x)]).length),.slice Kz ((q++[(aD.aP us,x)]).length) (KA),.slice KC ((q++[(aD.aP us,x)]).length) (KD)],vI ((aD.aP us)),vI 0]) [A_ 4 b5 4] [2,3,5] (⟨Kz,KA,KC,KD,Pe,by rw [←hq]⟩)
  refine KX (SR (jC 5 [5,6] [(0,A_ 1 b6 4),(2,A_ 4 b5 4)] [(4,[(0,vI (M)),(1,vI (p)),(2,.slice Kz ((q++[(aD.aP us,x)]).length) (KA)),(3,.slice KC ((q++[(aD.aP us,x)]).length) (KD))])] (NN (ak.ret ?_))))
  have hq:(q++[(aD.aP us,x)])=ins (aD.aP us) x us:=mz.last ((show dn=false by simpa using XM) ▸ hpt)
  have hql:((q++[(aD.aP us,x)])).length=us.length+1:=by rw [hq,lV]
  skip
  exact rT (.tuple #[.agg #[vI (M),vI (p),.slice Kz ((q++[(aD.aP us,x)]).length) (KA),.slice KC ((q++[(aD.aP us,x)]).length) (KD)],vI ((aD.aP us)),vI 0]) [A_ 4 b5 4] [2,3,5] (⟨Kz,KA,KC,KD,Pe,by rw [←hq]⟩)
 refine KX (SQ (jK 6 [98] [(1,a_ 1 b6),(4,a_ 1 b6)] (NN (cP ((((q.length:Nat):Int):Int)>(p:Int)) (λXB=>?_) (λXB=>?_)))))
 ·refine ak.region (jC 5 [] [(1,a_ 1 b6),(4,a_ 1 b6)] [(1,[(1,vI ↑q.length)])] (NS (jC 5 [5,6] [(0,A_ 1 b6 4),(2,A_ 4 b5 4)] [(4,[(0,vI (M)),(1,vI ↑q.length),(2,.slice Ah (q.length) (ch)),(3,.slice Av (q.length) (cv))])] (NN (ak.ret ?_)))))
  have hq:q=ins (aD.aP us) x us:=mz.end_ ((show dn=true by simpa using XM) ▸ hpt)
  have hql:(q).length=us.length+1:=by rw [hq,lV]
  skip
  exact rT (.tuple #[.agg #[vI (M),vI ↑q.length,.slice Ah (q.length) (ch),.slice Av (q.length) (cv)],vI ((aD.aP us)),vI 0]) [A_ 4 b5 4] [2,3,5] (⟨Ah,ch,Av,cv,Pe,by rw [←hq]⟩)
 refine KX (SR (jC 5 [5,6] [(0,A_ 1 b6 4),(2,A_ 4 b5 4)] [(4,[(0,vI (M)),(1,vI (p)),(2,.slice Ah (q.length) (ch)),(3,.slice Av (q.length) (cv))])] (NN (ak.ret ?_))))
 have hq:q=ins (aD.aP us) x us:=mz.end_ ((show dn=true by simpa using XM) ▸ hpt)
 have hql:(q).length=us.length+1:=by rw [hq,lV]
 skip
 exact rT (.tuple #[.agg #[vI (M),vI (p),.slice Ah (q.length) (ch),.slice Av (q.length) (cv)],vI ((aD.aP us)),vI 0]) [A_ 4 b5 4] [2,3,5] (⟨Ah,ch,Av,cv,Pe,by rw [←hq]⟩)
theorem aaO {β:Bs} (M p:Int) (A B:Option Addr) (c d:Nat) (us:bC Int) (hA:cA β A (bH (aY us))) (hB:cA β B (bH (ja us))) (hl:us.length<=16777216) (h:Int) (hr:aD.dH (aY us)) (k:Nat) (hk:k<us.length) (fC:uM (aY us) h=(k:Int)) (hx:(aY us).getD k 0=h) :
 aU Tryz.prog β 85 #[.agg #[vI (M),vI (p),.slice A (us.length) (c),.slice B (us.length) (d)],vI h] [] (λv l=>∃A' c' B' d',v=.tuple #[.agg #[vI (M),vI (p),.slice A' (del h us).length c',.slice B' (del h us).length d'],vI ((ja us).getD k 0),vI 0]/\l=[.abs (aF 3 1 A' (del h us).length c' (bH (aY (del h us)))),.abs (aF 3 1 B' (del h us).length d' (bH (ja (del h us))))]):=by
 have hkp:=Ai hk
 refine SE Tryz.func85 Tryz.ntmps85 (λR=>SR (jB 1 [2] (λBw=>.ax Bw [vI (M),vI (p),.slice A (us.length) (c),.slice B (us.length) (d)] 43) (λBw=>jB 3 [4] (λBz=>.ax Bz [vI 0,vI 0,.slice none (0) (0),.slice none (0) (0)] 43) (λBz=>NS (jK 2 [10,11] [(0,A_ 1 Bw 4)] (gE [] (FW M p A B c d us hA hl h) (sl 12 (vI ((uM (aY us) h))) (.int .i64 ↑k) (abW fC) (jK 1 [7] [] (NZ (jK 2 [14] [(1,wF (((k:Int):Int)<(0:Int)))] (NF (KX (SR (jN 7 [8] (λBA=>[(1,a_ 1 Bw),(3,a_ 1 Bw),(6,A_ 3 BA 4)]) (λ_=>[]) (λBA=>.ax BA [vI (M),vI (p),.slice none (0) (0),.slice none (0) (0)] 43) (λBA=>NZ (ar.mem (λw hS=>(hS.mQ (e:=3) (size:=1)).mQ (e:=3) (size:=1)) (jK 1 [9] [] (NN (ak.block (lJ (λ(i,q,Ah,ch,Av,cv)=>(i<=us.length)/\(q=del h (us.take i))/\(q.length<=i)) (λ(i,q,Ah,ch,Av,cv)=>us.length-i) (λ(i,q,Ah,ch,Av,cv)=>[(2,vP Bw),(4,vP Bz),(7,vI ↑k),(8,vP BA),(9,vI ↑i)]) (λ(i,q,Ah,ch,Av,cv)=>[.ax Bw [vI (M),vI (p),.slice A (us.length) (c),.slice B (us.length) (d)] 43,.ax BA [vI (M),vI (p),.slice Ah (q.length) (ch),.slice Av (q.length) (cv)] 43,.abs (aF 3 1 Ah q.length ch (bH (aY q))),.abs (aF 3 1 Av q.length cv (bH (ja q))),.ax Bz [vI 0,vI 0,.slice none (0) (0),.slice none (0) (0)] 43,.abs R]) (0,[],none,0,none,0) [1,3,4,5,2,0] (⟨aio _,by rw [List.take_zero];rfl,aiu _⟩) ?_))))))))))))))))))))
 rintro⟨i,q,Ah,ch,Av,cv⟩ ⟨hi,hq,wO⟩
 refine SQ (jK 5 [25] [(2,a_ 0 Bw)] (NN (cP ((((i:Nat):Int):Int)<(((us.length:Nat):Int):Int)) (λqi=>?_) (λqi=>?_))))
 ·refine KX (ak.seq (ak.block (SR ?_)))
  have hpi:=Ai (us:=us) (i:=i) zc
  refine jK 3 [30] [] (NN (cN ((((i:Nat):Int):Int)=(((k:Nat):Int):Int)) (λnX=>ak.seq (rM (List.range 11) 7 [0,1,4,5] (jR 7 [2,4,7,8,9,32,37] [(1,a_ 1 BA),(3,a_ 0 Bw),(5,x_ i us.length (mw.hd hA (j:=i) (by rw [j9];omega))),(6,r_ (mw.rd hA (j:=i) (by rw [j9];omega)))] (mN [0,1,4,5] (λQD=>[(38,.slice (some ⟨QD,0,none⟩) (1) (1))]) (λ_=>[]) (λQD=>.ax QD [vI (((aY us).getD i 0))] 3) (λQD=>bZ.cut (ι:=(Option Addr)×Nat) (bL:=λ((EJ,EK):(Option Addr)×Nat)=>[(2,vP Bw),(4,vP Bz),(7,vI ↑k),(8,vP BA),(9,vI ↑i),(39,.slice EJ ((q++[(pr us i)]).length) (EK))]) (cR:=λ((EJ,EK):(Option Addr)×Nat)=>[.ax Bw [vI (M),vI (p),.slice A (us.length) (c),.slice B (us.length) (d)] 43,.ax BA [vI (M),vI (p),.slice Ah (q.length) (ch),.slice Av (q.length) (cv)] 43,.abs (aF 3 1 EJ ((q++[(pr us i)]).length) EK (bH (aY (q++[(pr us i)])))),.abs (aF 3 1 Av q.length cv (bH (ja q))),.ax Bz [vI 0,vI 0,.slice none (0) (0),.slice none (0) (0)] 43,.abs R,.ax QD [vI (((aY us).getD i 0))] 3]) [0,1,4,5] rfl rfl ?_ rfl (λ_=>KB) ?_))))) (λnX=>KX (ak.region (jK 3 [9] [(1,wJ ((i:Int)+1) (↑(i+1)))] (NL (tJ ((i+1),q,Ah,ch,Av,cv) [0,1,2,3,4,5] (⟨zc,by grind [Qz],Pe⟩))))))))
  ·exact ny 2 41 (some ⟨QD,0,none⟩) 1 1 [vI (((aY us).getD i 0))] rfl (fQ (j:=6) rfl) (λEJ EK=>ar.cJ 2 rfl (L9 (x:=(pr us i)) hpi.1) (sl 39 (.slice EJ (q.length+1) (EK)) (.slice EJ ((q++[(pr us i)]).length) (EK)) (by rw [iT q (pr us i)]) (NL (MD (EJ,EK) [2,4,7,8,9,39] [0,1,2,3,4,5,6])))) (n:=q.length) (hb:=by have:=wO;have:=wO;omega)
  rintro⟨EJ,EK⟩
  refine nC [0,1,4,5] [40] [] [] (bZ.last rfl rfl (jC 1 [] [(0,a_ 1 BA)] [(1,[(2,.slice EJ ((q++[(pr us i)]).length) (EK))])] (NL (ay.np (NX (rM (List.range 11) 7 [0,1,4,5,6] (jR 7 [2,4,7,8,9,42,47] [(1,a_ 1 BA),(3,a_ 0 Bw),(5,x_ i us.length (mw.hd hB (j:=i) (by rw [mV];omega))),(6,r_ (mw.rd hB (j:=i) (by rw [mV];omega)))] (mN [0,1,4,5,6] (λTx=>[(48,.slice (some ⟨Tx,0,none⟩) (1) (1))]) (λ_=>[]) (λTx=>.ax Tx [vI (((ja us).getD i 0))] 3) (λTx=>bZ.cut (ι:=(Option Addr)×Nat) (bL:=λ((Hz,HB):(Option Addr)×Nat)=>[(2,vP Bw),(4,vP Bz),(7,vI ↑k),(8,vP BA),(9,vI ↑i),(49,.slice Hz ((q++[(pr us i)]).length) (HB))]) (cR:=λ((Hz,HB):(Option Addr)×Nat)=>[.ax Bw [vI (M),vI (p),.slice A (us.length) (c),.slice B (us.length) (d)] 43,.ax BA [vI (M),vI (p),.slice EJ ((q++[(pr us i)]).length) (EK),.slice Av (q.length) (cv)] 43,.abs (aF 3 1 EJ ((q++[(pr us i)]).length) EK (bH (aY (q++[(pr us i)])))),.abs (aF 3 1 Hz ((q++[(pr us i)]).length) HB (bH (ja (q++[(pr us i)])))),.ax Bz [vI 0,vI 0,.slice none (0) (0),.slice none (0) (0)] 43,.abs R,.ax QD [vI (((aY us).getD i 0))] 3,.ax Tx [vI (((ja us).getD i 0))] 3]) [0,1,4,5,6] rfl rfl ?_ rfl (λ_=>KB) ?_)))))))))
  ·exact ny 3 41 (some ⟨Tx,0,none⟩) 1 1 [vI (((ja us).getD i 0))] rfl (fQ (j:=7) rfl) (λHz HB=>ar.cJ 3 rfl (Ma (x:=(pr us i)) hpi.2) (sl 49 (.slice Hz (q.length+1) (HB)) (.slice Hz ((q++[(pr us i)]).length) (HB)) (by rw [iT q (pr us i)]) (NL (MD (Hz,HB) [2,4,7,8,9,49] [0,1,2,3,4,5,6,7])))) (n:=q.length) (hb:=by have:=wO;have:=wO;omega)
  rintro⟨Hz,HB⟩
  exact nC [0,1,4,5,6] [50] [] [] (bZ.last rfl rfl (jC 1 [] [(0,a_ 1 BA)] [(1,[(3,.slice Hz ((q++[(pr us i)]).length) (HB))])] (NL (ay.np (BX (ak.region (jK 3 [9] [(1,wJ ((i:Int)+1) (↑(i+1)))] (NL (tJ ((i+1),(q++[(pr us i)]),EJ,EK,Hz,HB) [0,1,2,3,4,5] (⟨zc,(by grind [Qz,Kw]),Pe⟩))))))))))
 refine XX (ak.seq (rM (List.range 9) 6 [0,1] (jR 6 [4,51,56] [(0,A_ 1 BA 4),(2,a_ 0 Bw),(4,x_ k us.length (mw.hd hB (j:=k) (by rw [mV];omega))),(5,r_ (mw.rd hB (j:=k) (by rw [mV];omega)))] (nC [0,1] [] [(0,A_ 4 Bz 4)] [(4,[(0,vI (M)),(1,vI (p)),(2,.slice Ah (q.length) (ch)),(3,.slice Av (q.length) (cv))])] (nC [0,1] [5] [] [] (bZ.last rfl rfl (jK 1 [6] [] (NL (ay.np (NX (ak.ret ?_)))))))))))
 have KE:q=del h us:=Pe
 exact rT _ [A_ 4 Bz 4] [2,3,5] (⟨Ah,ch,Av,cv,by rw [←KE],by rw [←KE]⟩)
theorem Vt {β:Bs} (M p:Int) (A B:Option Addr) (c d:Nat) (us:bC Int) (hA:cA β A (bH (aY us))) (hl:us.length<=16777216) (h:Int) (fC:uM (aY us) h = -1) :
 aU Tryz.prog β 85 #[.agg #[vI (M),vI (p),.slice A (us.length) (c),.slice B (us.length) (d)],vI h] [] (λv l=>v=.tuple #[.agg #[vI (M),vI (p),.slice A (us.length) (c),.slice B (us.length) (d)],vI 0,vI 131]/\l=[]):=by
 exact SE Tryz.func85 Tryz.ntmps85 (λR=>SR (jB 1 [2] (λuP=>.ax uP [vI (M),vI (p),.slice A (us.length) (c),.slice B (us.length) (d)] 43) (λuP=>jB 3 [4] (λyX=>.ax yX [vI 0,vI 0,.slice none (0) (0),.slice none (0) (0)] 43) (λyX=>NS (jK 2 [10,11] [(0,A_ 1 uP 4)] (gE [] (FW M p A B c d us hA hl h) (jK 1 [7] [] (NZ (jK 2 [14] [] (NN (cP (((uM (aY us) h):Int)<(0:Int)) (λmZ=>SR (jC 4 [5,6] [(0,A_ 1 uP 4),(1,A_ 2 yX 4)] [(2,[(0,vI (M)),(1,vI (p)),(2,.slice A (us.length) (c)),(3,.slice B (us.length) (d))])] (eS [A_ 2 yX 4] ⟨rfl,rfl⟩))) (λmZ=>ain mZ (by omega)))))))))))))
end
section
open Go.RowKit Go.Maps bF aD
section p
variable {R:RS} {h dX e id:Int} {name:ByteArray} {d k to:Nat} {c:aH} {n:aL}
def exV:Except Int Nat->Value
 |.error e=>.tuple #[.int .i64 0,.int .i64 e]
 |.ok k=>.tuple #[.int .i64 k,.int .i64 0]
theorem XO {us:bC Int} (hr:aD.dH (aY us)) {h:Int} (hm:h∈aY us):∃k:Nat,uM (aY us) h=(k:Int)/\k<us.length/\(aY us).getD k 0=h/\aD.get us h=some ((ja us).getD k 0):=by
 grind [Tt,j9,Ai,aeV]
theorem Mb (hm:h∉aY R.us):uM (aY R.us) h = -1/\iG R h=.error 131:=⟨Tv hm,by unfold iG;rw [get_none.2 hm]⟩
theorem Ty (hC:RC R) (hm:h∈aY R.us):∃k:Nat,uM (aY R.us) h=(k:Int)/\k<R.us.length/\iG R h=.ok (bY R.ns ((ja R.us).getD k 0))/\gF R.ns ((ja R.us).getD k 0)=(bY R.ns ((ja R.us).getD k 0):Int):=by
 obtain⟨k,h1,h2,h3,h4⟩:=XO hC.usr hm
 exact⟨k,h1,h2,by unfold iG;rw [h4],(nE (hC.hand _ (Ct (by rw [mV];exact h2)))).2.2⟩
theorem ul (hC:RC R) (h:Int):iG R h=.error 131\/∃k,iG R h=.ok k/\k<R.ns.length:=by
 by_cases hm:h∈aY R.us
 ·obtain⟨k,_,h2,h3,_⟩:=Ty hC hm
  exact .inr ⟨_,h3,(nE (hC.hand _ (Ct (by rw [mV];exact h2)))).1⟩
 exact .inl (Mb hm).2
theorem XP (hh:iG R h=.error e):ig R h name dX=.error e:=by unfold ig;rw [hh]
theorem Tz (hh:iG R h=.ok d) (hk:¬(nd R.ns d).kind=2):ig R h name dX=.error 173:=by unfold ig;rw [hh];exact aij hk
theorem QE (hh:iG R h=.ok d) (hk:(nd R.ns d).kind=2) (hg:(nd R.ns d).id∈R.aE):ig R h name dX=.error 170:=by unfold ig;rw [hh];exact (aik hk).trans (aik hg)
theorem QF (hh:iG R h=.ok d) (hk:(nd R.ns d).kind=2) (hg:¬(nd R.ns d).id∈R.aE) (hn:¬ck name):ig R h name dX=.error 95:=by unfold ig;rw [hh];exact (aik hk).trans ((aij hg).trans (aij hn))
theorem QG (hh:iG R h=.ok d) (hk:(nd R.ns d).kind=2) (hg:¬(nd R.ns d).id∈R.aE) (hn:ck name) (hb:¬bits BinOp.and .i64 (nd R.ns d).mode dX=dX):ig R h name dX=.error 175:=by unfold ig;rw [hh];exact (aik hk).trans ((aij hg).trans ((aik hn).trans (aij hb)))
theorem XQ (hh:iG R h=.ok d) (hk:(nd R.ns d).kind=2) (hg:¬(nd R.ns d).id∈R.aE) (hn:ck name) (hb:bits BinOp.and .i64 (nd R.ns d).mode dX=dX):ig R h name dX=.ok d:=by unfold ig;rw [hh];exact (aik hk).trans ((aij hg).trans ((aik hn).trans (aik hb)))
theorem si (hC:RC R) (h:Int) (name:ByteArray) (dX:Int):(∃e,ig R h name dX=.error e/\¬e=0)\/∃d,ig R h name dX=.ok d/\d<R.ns.length:=by
 rcases ul hC h with hh|⟨k,hh,hk⟩
 all_goals grind [XP,nd,QE,ck,XQ,QG,QF,Tz]
noncomputable def El (R:RS) (c:aH) (dX:Int):Value:=match ig R c.aG c.name dX with
 |.error e=>.tuple #[.int .i64 0,.int .i64 0,.int .i64 e]
 |.ok f=>match ig R c.other c.text 192 with
   |.error e=>.tuple #[.int .i64 f,.int .i64 0,.int .i64 e]
   |.ok to=>.tuple #[.int .i64 f,.int .i64 to,.int .i64 0]
theorem XR (h:ig R c.aG c.name dX=.error e):El R c dX=.tuple #[.int .i64 0,.int .i64 0,.int .i64 e]:=by unfold El;rw [h]
theorem XS (h:ig R c.aG c.name dX=.ok d) (h2:ig R c.other c.text 192=.error e):El R c dX=.tuple #[.int .i64 d,.int .i64 0,.int .i64 e]:=by unfold El;rw [h];simp only [h2]
theorem XT (h:ig R c.aG c.name dX=.ok d) (h2:ig R c.other c.text 192=.ok to):El R c dX=.tuple #[.int .i64 d,.int .i64 to,.int .i64 0]:=by unfold El;rw [h];simp only [h2]
theorem Nr (hC:RC R) (c:aH) (dX:Int):(∃a e,qV R c dX=.error e/\¬e=0/\El R c dX=.tuple #[.int .i64 a,.int .i64 0,.int .i64 e])\/∃f to,qV R c dX=.ok (f,to)/\f<R.ns.length/\to<R.ns.length/\El R c dX=.tuple #[.int .i64 f,.int .i64 to,.int .i64 0]:=by
 rcases si hC c.aG c.name dX with ⟨e,h1,h2⟩|⟨f,h1,h2⟩
 ·exact .inl ⟨0,e,by unfold qV;rw [h1],h2,XR h1⟩
 rcases si hC c.other c.text 192 with ⟨e,h3,h4⟩|⟨to,h3,h4⟩
 ·exact .inl ⟨f,e,by unfold qV;rw [h1];simp only [h3],h4,XS h1 h3⟩
 exact .inr ⟨f,to,by unfold qV;rw [h1];simp only [h3],h2,h4,XT h1 h3⟩
theorem kO (ns:List aL) (d:Nat) (name:ByteArray):bV ns d name = -1\/∃k:Nat,bV ns d name=(k:Int)/\k<ns.length:=by
 unfold bV
 split
 ·exact .inl rfl
 rename_i j _
 by_cases h:0<=gF ns (en (nd ns d).ah j).id
 ·exact .inr ⟨_,(nE h).2.2,(nE h).1⟩
 exact .inl (Dg h)
theorem aaP (h:¬(R.ns.length:Int)<R.cN):false=decide (wz R):=(aip (λq=>h q.1)).symm
theorem aaQ (h:¬R.last<1099511627776):false=decide (wz R):=(aip (λq=>h q.2.1)).symm
theorem aeX (h:(R.ns.length:Int)<R.cN) (h2:R.last<1099511627776):decide ((dI R.ns R.ns.length:Int)<8192)=decide (wz R):=aiz.2 ⟨λq=>⟨h,h2,q⟩,λq=>q.2.2⟩
theorem aeY (h:¬0<=id):false=decide (jX id):=(aip (λq=>h q.1)).symm
theorem agv (h:0<=id):decide (id<=4095)=decide (jX id):=aiz.2 ⟨λq=>⟨h,q⟩,λq=>q.2⟩
theorem aaR (h:name=⟨#[]⟩):90=lG name:=by unfold lG;rw [aik h]
theorem XU (h:¬name=⟨#[]⟩) (h2:4096<(name.size:Int)):93=lG name:=by unfold lG;rw [aij h,aik zc]
theorem XV (h:¬name=⟨#[]⟩) (h2:¬4096<(name.size:Int)) (h3:∀q,q<name.size->¬dK name q=0):0=lG name:=by unfold lG;rw [aij h,aij zc,aik (show rf name from h3)]
theorem aaS (h:¬name=⟨#[]⟩) (h2:¬4096<(name.size:Int)) {q:Nat} (hq:q<name.size) (h3:dK name q=0):91=lG name:=by unfold lG;rw [aij h,aij zc,aij (λg=>g q hq h3)]
def exA:Except Int Nat->Int
 |.error _=>0
 |.ok k=>k
def exE:Except Int Nat->Int
 |.error e=>e
 |.ok _=>0
theorem aeZ (x:Except Int Nat):exV x=.tuple #[.int .i64 (exA x),.int .i64 (exE x)]:=by cases x<;>rfl
noncomputable def qM (R:RS) (c:aH):Except Int Nat:=if c.op=12 then (match ig R c.aG c.name 64 with|.error e=>.error e|.ok d=>if 0<=bV R.ns d c.name then .ok (bV R.ns d c.name).toNat else .error 170) else iG R c.aG
theorem QH:rA R c=match qM R c with|.error e=>Kx c e|.ok k=>GJ R c k:=by
 unfold rA qM
 grind
theorem aaT (h:qM R c=.error e):rA R c=Kx c e:=by rw [QH,h]
theorem aaU (h:qM R c=.ok k):rA R c=GJ R c k:=by rw [QH,h]
theorem KF (h:¬c.op=12):iG R c.aG=qM R c:=by unfold qM;rw [aij h]
theorem Ns (h:c.op=12) (ha:ig R c.aG c.name 64=.error e):.error e=qM R c:=by unfold qM;rw [aik h,ha]
theorem KG (h:c.op=12) (ha:ig R c.aG c.name 64=.ok d) (hl:bV R.ns d c.name = -1):.error 170=qM R c:=by unfold qM;rw [aik h,ha];simp only;rw [aij (by rw [hl];decide)]
theorem KH (h:c.op=12) (ha:ig R c.aG c.name 64=.ok d) (hl:bV R.ns d c.name=(k:Int)):.ok k=qM R c:=by unfold qM;rw [aik h,ha];simp only;rw [aik (by rw [hl];omega),hl];rfl
theorem Sk (hC:RC R) (c:aH):(∃e,qM R c=.error e/\¬e=0)\/∃k,qM R c=.ok k/\k<R.ns.length:=by
 by_cases h:c.op=12
 ·rcases si hC c.aG c.name 64 with ⟨e,h1,h2⟩|⟨d,h1,_⟩
  ·exact .inl ⟨e,(Ns h h1).symm,h2⟩
  rcases kO R.ns d c.name with h2|⟨k,h2,h3⟩
  ·grind [KG]
  exact .inr ⟨k,(KH h h1 h2).symm,h3⟩
 rw [←KF h]
 rcases ul hC c.aG with h1|h1
 ·exact .inl ⟨_,h1,Pd⟩
 exact .inr h1
end p
end
end Go.Proofs.YtbnfiigafobejaaGreat
