/-
  PROVED HERE: lemmas and contracts of functions (texts of this repo, joined; what the claim does not use is left out): H6, H7, H8, H9, Vh, HD, H10, H11, H12, Lw, LA, Lc, Og, LC, St, LD, Ns, Ds, Dt, GTe, XS, Wt, Mb, Wn, WD, Oh, Wm, Nb, WE, WF, WA, ShelfP, As, HA, HB, WB, Wc, WC, Wd.
  CONDITIONS: as the theorems say.
-/
import Derived.Test.YtbnfiigafobejaaGreatMWmemory4
import Derived.Shelf.Strings.Split
import Derived.Test.YtbnfiigafobejaaGreatProg
import Derived.Laws.IdiomStrings
import Derived.Lib.SplitLaws
set_option maxRecDepth 100000
set_option maxHeartbeats 4000000
namespace Go.Proofs.YtbnfiigafobejaaGreat
section
open Go.RowKit Go.Maps bG aF
attribute [local irreducible] av bP aq aB cu
theorem Mv {β:Bs} (S:bB) (L:HL) (f m t:Nat) (hI:bT S) (k:Nat) (hk:aT S.ar ⟨k,1⟩) (A:Option Addr) (c:Nat) (bs:List UInt8) (hA:bJ β A bs) (hbl:bs.length<=1099511627776) (hbc:bs.length<=c) :
 aX Tryz.prog β 211 #[vP f,vP (L.b k),.slice A (bs.length) (c)] (pA f m t L S) (λv l=>∃L2,v=.tuple #[vI (gF S k bs).1,vI (gF S k bs).2.1]/\l=(pA f m t L2 ((gF S k bs).2.2))):=by
 have hX:=hI.hX
 have hkk:(af S.O k).kind=1:=hI.kind hk
 have hdu:((af S.O k).data.length:Int)<=S.X.used:=hI.ae4 hk
 have hcB:=hI.cB
 refine SE Tryz.func211 Tryz.ntmps211 (λR=>SR (jK 2 [] [] (NZ (jK 3 [12] [] (NN (cP ((((bs.length:Nat):Int):Int)=(0:Int)) (λh12=>?_) (λh12=>?_)))))))
 ·have he:bs=[]:=ahV zc
  exact zR ⟨L,by rw [show gF S k bs=(0,0,S) from ahf he]<;>exact⟨rfl,rfl⟩⟩
 have jy:0<bs.length:=zc
 refine KX (aq.seq (rQ (jQ 11 [8] [(4,a_ 0 f),(8,a_ 0 f),(9,wJ (S.X.cB-S.X.used) (S.X.cB-S.X.used))] (NQ (NX (SQ (jK 2 [24] [] (NN (cP ((S.X.cB-S.X.used:Int)<=(0:Int)) (λrG=>zR ⟨L,by rw [show gF S k bs=(0,176,S) from (ahe (λe=>Pe)).trans (ahf rG)]<;>exact⟨rfl,rfl⟩⟩) (λrG=>KX (SR (jK 4 [28] [(3,w_ (.int .i64 (min ((bs.length:Nat):Int) (S.X.cB-S.X.used))) (ahg (Value.int .i64) (aaO _ _)))] (sl 28 (vI (min ((bs.length:Nat):Int) (S.X.cB-S.X.used))) (.int .i64 ↑(dR S.X bs.length)) (ahg (Value.int .i64) (VA zc)) (jK 1 [9] [] (NN (aq.seq ?_))))))))))))))))
 have hwl:=VB (X:=S.X) (n:=bs.length) zc
 refine aq.mem (λw hS=>hS.Vg (i:=4) (k:=k) rfl hkk) (rM (List.range 12) 8 [0,1,2,3,4,5,6] (jR 8 [0,1,9,29,33,36] [(4,v_ 3 (PV L hkk)),(7,xP (dR S.X bs.length) ((dR S.X bs.length)<=c))] (cu.cut (ι:=(Option Addr)×Nat) (bY:=λ((A1,c2):(Option Addr)×Nat)=>[(0,vP f),(1,vP (L.b k)),(9,vI ↑(dR S.X bs.length)),(29,vP (L.b k)),(37,.slice A1 (((af S.O k).data++bs.take (dR S.X bs.length)).length) (c2))]) (dK:=λ((A1,c2):(Option Addr)×Nat)=>[pF f m t S.X,pI m L S.ar,pT t S.X.cH S.aI L S.us,pO S.O L,.abs (aW (nU (dN S.O L) k dV.none)),pE S.O L,.abs R,.abs (aG 5 1 A1 (((af S.O k).data++bs.take (dR S.X bs.length)).length) c2 (dL ((af S.O k).data++bs.take (dR S.X bs.length))))]) [0,1,2,3,4,5,6] rfl rfl ?_ rfl (λ_=>KB) ?_)))
 ·exact U7 7 51 A (dR S.X bs.length) c (dL (bs.take (dR S.X bs.length))) rfl ((hA.take (dR S.X bs.length)).src) (λA1 c2=>av.cO 7 (p':=.abs (aG 5 1 A1 (((af S.O k).data++bs.take (dR S.X bs.length)).length) c2 (dL ((af S.O k).data++bs.take (dR S.X bs.length))))) rfl (by rw [Tq,ahl,ahC,aic hwl.1]) (sl 37 (.slice A1 (((af S.O k).data.length)+(dR S.X bs.length)) (c2)) (.slice A1 (((af S.O k).data++bs.take (dR S.X bs.length)).length) (c2)) (by rw [ahl,ahC,aic hwl.1]) (NL (MD (A1,c2) [0,1,9,29,37] [0,1,2,3,4,5,6,7])))) (hl:=by rw [vJ,ahC,aic hwl.1,Nat.mul_one]) (h1:=sx (bs.take (dR S.X bs.length)))
 rintro⟨A1,c2⟩
 refine nC [0,1,2,3,4,5,6] [38] [] [] (nC [0,1,2,3,4,5,6] [39] [] [] (cu.last rfl rfl (av.mem (λw hS=>hS.EG (i:=3) (k:=k) rfl (by rw [hkk];decide) (mH (hkk)) (ahg sM (hkk))) (jC 1 [] [(0,a_ 8 (L.b k))] [(8,[(9,.slice A1 (((af S.O k).data++bs.take (dR S.X bs.length)).length) (c2))])] ?_))))
 obtain⟨L2,fX⟩:∃L2:HL,L2=L.data k A1 c2:=⟨_,rfl⟩
 refine av.mem (λw hS=>hS.adj fX (f:=(λo=>{o with data:=o.data++bs.take (dR S.X bs.length)})) (i:=3) (j:=8) (ix:=[0,1,2,4,5,6,7]) rfl rfl KB rfl (by show (af S.O k).kind≠0;rw [hkk];decide) ((mH (L:=L2) (k:=k) (o:=(λo=>{o with data:=o.data++bs.take (dR S.X bs.length)}) (af S.O k)) hkk).trans (by rw [RJ fX,RM fX]<;>rfl)) (by show sM (af S.O k).kind=_;rw [hkk]<;>rfl)) (av.mem (λw hS=>hS.adk fX (f:=(λo=>{o with data:=o.data++bs.take (dR S.X bs.length)})) (i:=4) (j:=7) (ix:=[0,1,2,3,5,6]) rfl rfl KB rfl hkk rfl rfl) (av.gH [(3,.abs (bD Tryz.prog 3 m (cQ (cM L2 S.ar)) S.ar.length)),(4,.abs (fD 182 t S.X.cH S.aI (cM L2 S.us))),(5,.abs (aW (fM (aZ S.O k (λo=>{o with data:=o.data++bs.take (dR S.X bs.length)})) L2)))] (λw hS=>by rw [Ot fX,Ot fX,show fM (aZ S.O k (λo=>{o with data:=o.data++bs.take (dR S.X bs.length)})) L2=fM S.O L from (tM (O:=S.O) (k:=k) (f:=(λo=>{o with data:=o.data++bs.take (dR S.X bs.length)})) rfl rfl).trans (YE fX)];exact hS) ?_))
 have K7:(af (aZ S.O k (λo=>{o with data:=o.data++bs.take (dR S.X bs.length)})) k).kind=1:=(pG (f:=(λo=>{o with data:=o.data++bs.take (dR S.X bs.length)})) (λ_=>rfl)).trans hkk
 have hbk:L2.b k=L.b k:=VD fX
 generalize fT:(aZ S.O k (λo=>{o with data:=o.data++bs.take (dR S.X bs.length)}))=gY at K7 ⊢
 refine NL (aB.np (NX (SR (jK 1 [40] [] (sl 40 (vP (L.b k)) (vP (L2.b k)) (by rw [hbk]) (jK 8 [45,48] [(4,A_ 2 f 2)] (Xj 1 [(5,1),(0,2)] k S.X.cS S.X.cZ K7 (λjO gD=>?_))))))))
 have Fj:=ku gD K7
 exact NS (jC 9 [] [(3,a_ 2 f),(5,wJ (S.X.used+(((dR S.X bs.length):Nat):Int)) (S.X.used+(((dR S.X bs.length):Nat):Int))),(8,a_ 2 f)] [(2,[(9,vI (S.X.used+(((dR S.X bs.length):Nat):Int)))])] (NS (jK 3 [6,7] [] (eN (l:=[pF f m t {S.X with used:=S.X.used+(((dR S.X bs.length):Nat):Int)},pI m L2 S.ar,pT t S.X.cH S.aI L2 S.us,pO jO L2,pD jO L2,pE jO L2]) (v:=(.tuple #[vI ↑(dR S.X bs.length),vI 0])) ⟨L2,by grind [gF,Bv]⟩ [2,3,4,1,0,5,6]))))
theorem nI {β:Bs} (S:bB) (L:HL) (f m t:Nat) (hI:bT S) (cb:Nat) (c:aP) (hC:kH β c) :
 aX Tryz.prog β 200 #[vP f,vP cb] ((pA f m t L S)++[.ay cb (aL c) 53]) (λv l=>v=afG L (jL S.O S.us c)/\l=((pA f m t L S)++[.ay cb (aL c) 53])):=by
 refine SE Tryz.func200 Tryz.ntmps200 (λR=>SR (jK 2 [] [] (NN (aq.seq (rQ (jQ 9 [10,14,18] [(4,a_ 6 cb),(8,a_ 6 cb)] ?_))))))
 rcases kI hI.toInv0 c.aN c.name 64 with ⟨e,ef,bV⟩|⟨d,ef,hd,lS,j6,iA⟩
 ·exact mG [0,2,3] [0,3,1,2,4,5,6,7] (.tuple #[.pointer none,vI (e)]) ((by have h:=jj S L f m t hI c.aN hC.hw c.name hC.nm 64 (β:=β);rw [ef] at h;exact h)) (jQ 5 [6,7] [] (NQ (NX (SQ (jK 2 [23] [] (NN (cN ((e:Int)=(0:Int)) (λh23=>zR (v:=(.tuple #[.nilIface,vI (e)])) ⟨by rw [show jL S.O S.us c=.error e by unfold jL;rw [ef]];rfl,rfl⟩) (λh23=>ahh h23 bV))))))))
 have dU:(af S.O d).kind=2:=hI.kind hd
 refine mG [0,2,3] [0,3,1,2,4,5,6,7] (.tuple #[vP (L.b d),vI 0]) ((by have h:=jj S L f m t hI c.aN hC.hw c.name hC.nm 64 (β:=β);rw [ef] at h;exact h)) (jQ 5 [6,7] [] (NQ (NX (SQ (jK 2 [23] [] (NF (KX (aq.seq ?_))))))))
 have hel:(af S.O d).ah.length<=8192:=hI.lI hd
 have afm:=hC.nm
 rcases hI.sU hd c.name with eM|⟨tk,eM,ck⟩|⟨tk,eM,ck⟩|⟨tk,eM,ck⟩
 ·exact rQ (jQ 8 [28,32] [(3,v_ 3 (dw L dU)),(7,a_ 6 cb)] (y4 5 dU eM (jQ 1 [8] [] (NQ (NX (SQ (jK 2 [35] [] (NT (zR (v:=(.tuple #[.nilIface,vI 170])) ⟨by rw [show jL S.O S.us c=.error 170 by grind [jL]];rfl,rfl⟩)))))))))
 ·have bC:(af S.O tk).kind=1:=hI.kind ck
  exact rQ (jQ 8 [28,32] [(3,v_ 3 (dw L dU)),(7,a_ 6 cb)] (y4 5 dU eM (jQ 1 [8] [] (NQ (NX (SQ (jK 2 [35] [] (NF (KX (zR (v:=(.tuple #[.iface 138 (vP (L.b tk)),vI 0])) ⟨by rw [show jL S.O S.us c=.ok ⟨tk,1⟩ by unfold jL;rw [ef];simp only;rw [eM]];rfl,rfl⟩))))))))))
 ·have bC:(af S.O tk).kind=2:=hI.kind ck
  exact rQ (jQ 8 [28,32] [(3,v_ 3 (dw L dU)),(7,a_ 6 cb)] (y4 5 dU eM (jQ 1 [8] [] (NQ (NX (SQ (jK 2 [35] [] (NF (KX (zR (v:=(.tuple #[.iface 144 (vP (L.b tk)),vI 0])) ⟨by rw [show jL S.O S.us c=.ok ⟨tk,2⟩ by unfold jL;rw [ef];simp only;rw [eM]];rfl,rfl⟩))))))))))
 have bC:(af S.O tk).kind=3:=hI.kind ck
 exact rQ (jQ 8 [28,32] [(3,v_ 3 (dw L dU)),(7,a_ 6 cb)] (y4 5 dU eM (jQ 1 [8] [] (NQ (NX (SQ (jK 2 [35] [] (NF (KX (zR (v:=(.tuple #[.iface 141 (vP (L.b tk)),vI 0])) ⟨by rw [show jL S.O S.us c=.ok ⟨tk,3⟩ by unfold jL;rw [ef];simp only;rw [eM]];rfl,rfl⟩))))))))))
theorem Ur {β:Bs} (S:bB) (L:HL) (f m t:Nat) (hI:bT S) (cb:Nat) (c:aP) (hC:kH β c) :
 aX Tryz.prog β 184 #[vP f,vP cb] ((pA f m t L S)++[.ay cb (aL c) 53]) (λv l=>∃L2,v=vI (kX S c).1/\l=((pA f m t L2 ((kX S c).2.1))++[.ay cb (aL ((kX S c).2.2)) 53])):=by
 have hX:=hI.hX
 refine SE Tryz.func184 Tryz.ntmps184 (λR=>SR (jK 1 [] [] (NN (aq.seq ?_))))
 rcases hI.adf c.other with fL|⟨tk,fL,ck⟩|⟨tk,fL,ck⟩|⟨tk,fL,ck⟩
 ·exact rQ (jQ 8 [10,14] [(3,a_ 0 f),(7,a_ 6 cb)] (bP.ji 1 (d:=(some 15)) (t:=129) (K:=3) (E:=133) (b:=m) (n:=S.ar.length) (f:=(cQ (cM L S.ar))) (x:=(.tmp 10)) (ix:=(.tmp 14)) (key:=vI (c.other)) (z:=.nilIface) (kl:=(.int .i64 c.other)) (r:=none) (λ_=>KB) KB (λ_=>KB) (λ_=>KB) iY Tryz.underlying129 (λ_=>KB) (mB hC.ow) (by rw [j8,fL];rfl) (jQ 1 [5] [] (NQ (NX (SQ (jK 2 [17] [] (NT (zR ⟨L,by rw [show (kX S c)=(141,S,c) by unfold kX;rw [fL]]<;>exact⟨rfl,rfl⟩⟩)))))))))
 ·have bC:(af S.O tk).kind=1:=hI.kind ck
  exact rQ (jQ 8 [10,14] [(3,a_ 0 f),(7,a_ 6 cb)] (bP.ji 1 (d:=(some 15)) (t:=129) (K:=3) (E:=133) (b:=m) (n:=S.ar.length) (f:=(cQ (cM L S.ar))) (x:=(.tmp 10)) (ix:=(.tmp 14)) (key:=vI (c.other)) (z:=.nilIface) (kl:=(.int .i64 c.other)) (r:=(some (iz L ⟨tk,1⟩))) (λ_=>KB) KB (λ_=>KB) (λ_=>KB) iY Tryz.underlying129 (λ_=>KB) (mB hC.ow) (by rw [j8,fL];rfl) (jQ 1 [5] [] (NQ (NX (SQ (jK 2 [17] [] (NF (KX (SQ (jK 1 [18] [] (gE [] (tD (vP (L.b tk))) (jK 1 [20] [] (NT (zR ⟨L,by rw [show (kX S c)=(173,S,c) by grind [kX]]<;>exact⟨rfl,rfl⟩⟩)))))))))))))))
 ·have bC:(af S.O tk).kind=2:=hI.kind ck
  exact rQ (jQ 8 [10,14] [(3,a_ 0 f),(7,a_ 6 cb)] (bP.ji 1 (d:=(some 15)) (t:=129) (K:=3) (E:=133) (b:=m) (n:=S.ar.length) (f:=(cQ (cM L S.ar))) (x:=(.tmp 10)) (ix:=(.tmp 14)) (key:=vI (c.other)) (z:=.nilIface) (kl:=(.int .i64 c.other)) (r:=(some (iz L ⟨tk,2⟩))) (λ_=>KB) KB (λ_=>KB) (λ_=>KB) iY Tryz.underlying129 (λ_=>KB) (mB hC.ow) (by rw [j8,fL];rfl) (jQ 1 [5] [] (NQ (NX (SQ (jK 2 [17] [] (NF (KX (SQ (jK 1 [18] [] (gE [] (tE (vP (L.b tk))) (jK 1 [20] [] (NF (KX (SR (jK 1 [] [] (NS (jK 3 [22,23,24] [] (gE [0,2,3] (Bg S L f m t ⟨tk,2⟩ bC ahd (by have:=hI.LF ck;simp only at this ⊢;omega)) (jC 7 [6] [(5,a_ 6 cb)] [(6,[(12,vI ((eH S ⟨tk,2⟩).1))])] (NS (av.gH [(4,.abs (aW (dN ((eH S ⟨tk,2⟩).2.2.O) L))),(5,.abs (aW (fM ((eH S ⟨tk,2⟩).2.2.O) L)))] (λw hS=>by rw [HT,HV];exact hS) (jK 2 [4] [] (eN ⟨L,by rw [show (kX S c)=((eH S ⟨tk,2⟩).2.1,(eH S ⟨tk,2⟩).2.2,{c with answer:=(eH S ⟨tk,2⟩).1}) by grind [kX]]<;>exact⟨rfl,rfl⟩⟩ [0,3,1,2,4,5,6,7])))))))))))))))))))))))))
 have bC:(af S.O tk).kind=3:=hI.kind ck
 exact rQ (jQ 8 [10,14] [(3,a_ 0 f),(7,a_ 6 cb)] (bP.ji 1 (d:=(some 15)) (t:=129) (K:=3) (E:=133) (b:=m) (n:=S.ar.length) (f:=(cQ (cM L S.ar))) (x:=(.tmp 10)) (ix:=(.tmp 14)) (key:=vI (c.other)) (z:=.nilIface) (kl:=(.int .i64 c.other)) (r:=(some (iz L ⟨tk,3⟩))) (λ_=>KB) KB (λ_=>KB) (λ_=>KB) iY Tryz.underlying129 (λ_=>KB) (mB hC.ow) (by rw [j8,fL];rfl) (jQ 1 [5] [] (NQ (NX (SQ (jK 2 [17] [] (NF (KX (SQ (jK 1 [18] [] (gE [] (uR (vP (L.b tk))) (jK 1 [20] [] (NT (zR ⟨L,by rw [show (kX S c)=(173,S,c) by grind [kX]]<;>exact⟨rfl,rfl⟩⟩)))))))))))))))
theorem MR {β:Bs} (S:bB) (L:HL) (f m t:Nat) (hI:bT S) (cb:Nat) (c:aP) (hC:kH β c) :
 aX Tryz.prog β 185 #[vP f,vP cb] ((pA f m t L S)++[.ay cb (aL c) 53]) (λv l=>∃L2,v=vI (gZ S c).1/\l=((pA f m t L2 ((gZ S c).2.1))++[.ay cb (aL ((gZ S c).2.2)) 53])):=by
 have hX:=hI.hX
 refine SE Tryz.func185 Tryz.ntmps185 (λR=>SR (jK 1 [] [] (NS (jK 2 [8,9] [] ?_))))
 rcases Ji hI.toInv0 c with ⟨e,hnm,bV⟩|⟨tk,hnm,ck⟩|⟨tk,hnm,ck⟩|⟨tk,hnm,ck⟩
 ·exact gE [0,1,2,3,4,5,6] ((by have h:=nI S L f m t hI cb c hC (β:=β);rw [hnm] at h;exact h)) (jK 5 [5,6] [] (NZ (jK 2 [14] [] (NN (cN ((e:Int)=(0:Int)) (λmz=>zR ⟨L,by rw [show (gZ S c)=(e,S,c) by unfold gZ;rw [hnm]]<;>exact⟨rfl,rfl⟩⟩) (λmz=>ahh mz bV))))))
 ·have bC:(af S.O tk).kind=1:=hI.kind ck
  exact gE [0,1,2,3,4,5,6] ((by have h:=nI S L f m t hI cb c hC (β:=β);rw [hnm] at h;exact h)) (jK 5 [5,6] [] (NZ (jK 2 [14] [] (NF (KX (SQ (jK 1 [16] [] (NN (aq.block (SR (jK 3 [18] [] (NF (SR (jK 3 [21] [] (NT (zR ⟨L,by rw [show (gZ S c)=(173,S,c) by grind [gZ]]<;>exact⟨rfl,rfl⟩⟩))))))))))))))))
 ·have bC:(af S.O tk).kind=2:=hI.kind ck
  exact gE [0,1,2,3,4,5,6] ((by have h:=nI S L f m t hI cb c hC (β:=β);rw [hnm] at h;exact h)) (jK 5 [5,6] [] (NZ (jK 2 [14] [] (NF (KX (SQ (jK 1 [16] [] (NN (aq.block (SR (jK 3 [18] [] (NF (SR (jK 3 [21] [] (NF (KX (SR (jK 3 [24,25,26] [] (gE [0,2,3] (Bg S L f m t ⟨tk,2⟩ bC ahd (by have:=hI.LF ck;simp only at this ⊢;omega)) (jC 7 [6] [(5,a_ 6 cb)] [(6,[(12,vI ((eH S ⟨tk,2⟩).1))])] (NS (av.gH [(4,.abs (aW (dN ((eH S ⟨tk,2⟩).2.2.O) L))),(5,.abs (aW (fM ((eH S ⟨tk,2⟩).2.2.O) L)))] (λw hS=>by rw [HT,HV];exact hS) (jK 2 [4] [] (eN ⟨L,by rw [show (gZ S c)=((eH S ⟨tk,2⟩).2.1,(eH S ⟨tk,2⟩).2.2,{c with answer:=(eH S ⟨tk,2⟩).1}) by grind [gZ]]<;>exact⟨rfl,rfl⟩⟩ [0,3,1,2,4,5,6,7]))))))))))))))))))))))))
 have bC:(af S.O tk).kind=3:=hI.kind ck
 exact gE [0,1,2,3,4,5,6] ((by have h:=nI S L f m t hI cb c hC (β:=β);rw [hnm] at h;exact h)) (jK 5 [5,6] [] (NZ (jK 2 [14] [] (NF (KX (SQ (jK 1 [16] [] (NN (aq.block (SR (jK 3 [18] [] (NT (zR ⟨L,by rw [show (gZ S c)=(174,S,c) by grind [gZ]]<;>exact⟨rfl,rfl⟩⟩)))))))))))))
theorem La {β:Bs} (S:bB) (L:HL) (f m t:Nat) (hI:bT S) (cb:Nat) (c:aP) (hC:kH β c) :
 aX Tryz.prog β 186 #[vP f,vP cb] ((pA f m t L S)++[.ay cb (aL c) 53]) (λv l=>∃L2,v=vI (fZ S c).1/\l=((pA f m t L2 ((fZ S c).2.1))++[.ay cb (aL ((fZ S c).2.2)) 53])):=by
 have hX:=hI.hX
 refine SE Tryz.func186 Tryz.ntmps186 (λR=>SR (jK 1 [] [] (NS (jK 2 [8,9] [] ?_))))
 rcases Ji hI.toInv0 c with ⟨e,hnm,bV⟩|⟨tk,hnm,ck⟩|⟨tk,hnm,ck⟩|⟨tk,hnm,ck⟩
 ·exact gE [0,1,2,3,4,5,6] ((by have h:=nI S L f m t hI cb c hC (β:=β);rw [hnm] at h;exact h)) (jK 5 [5,6] [] (NZ (jK 2 [14] [] (NN (cN ((e:Int)=(0:Int)) (λmz=>zR ⟨L,by rw [show (fZ S c)=(e,S,c) by unfold fZ;rw [hnm]]<;>exact⟨rfl,rfl⟩⟩) (λmz=>ahh mz bV))))))
 ·have bC:(af S.O tk).kind=1:=hI.kind ck
  exact gE [0,1,2,3,4,5,6] ((by have h:=nI S L f m t hI cb c hC (β:=β);rw [hnm] at h;exact h)) (jK 5 [5,6] [] (NZ (jK 2 [14] [] (NF (KX (SQ (jK 1 [16] [] (NN (aq.block (SR (jK 3 [18] [] (NF (SR (jK 3 [21] [] (NF (KX (SR (jK 3 [24,25,26] [] (gE [0,2,3] (Bg S L f m t ⟨tk,1⟩ bC ahd (by have:=hI.LF ck;simp only at this ⊢;omega)) (jC 7 [6] [(5,a_ 6 cb)] [(6,[(12,vI ((eH S ⟨tk,1⟩).1))])] (NS (av.gH [(4,.abs (aW (dN ((eH S ⟨tk,1⟩).2.2.O) L))),(5,.abs (aW (fM ((eH S ⟨tk,1⟩).2.2.O) L)))] (λw hS=>by rw [HT,HV];exact hS) (jK 2 [4] [] (eN ⟨L,by rw [show (fZ S c)=((eH S ⟨tk,1⟩).2.1,(eH S ⟨tk,1⟩).2.2,{c with answer:=(eH S ⟨tk,1⟩).1}) by grind [fZ]]<;>exact⟨rfl,rfl⟩⟩ [0,3,1,2,4,5,6,7]))))))))))))))))))))))))
 ·have bC:(af S.O tk).kind=2:=hI.kind ck
  exact gE [0,1,2,3,4,5,6] ((by have h:=nI S L f m t hI cb c hC (β:=β);rw [hnm] at h;exact h)) (jK 5 [5,6] [] (NZ (jK 2 [14] [] (NF (KX (SQ (jK 1 [16] [] (NN (aq.block (SR (jK 3 [18] [] (NF (SR (jK 3 [21] [] (NT (zR ⟨L,by rw [show (fZ S c)=(172,S,c) by grind [fZ]]<;>exact⟨rfl,rfl⟩⟩))))))))))))))))
 have bC:(af S.O tk).kind=3:=hI.kind ck
 exact gE [0,1,2,3,4,5,6] ((by have h:=nI S L f m t hI cb c hC (β:=β);rw [hnm] at h;exact h)) (jK 5 [5,6] [] (NZ (jK 2 [14] [] (NF (KX (SQ (jK 1 [16] [] (NN (aq.block (SR (jK 3 [18] [] (NT (zR ⟨L,by rw [show (fZ S c)=(174,S,c) by grind [fZ]]<;>exact⟨rfl,rfl⟩⟩)))))))))))))
theorem Q7 {β:Bs} (S:bB) (L:HL) (f m t:Nat) (hI:bT S) (cb:Nat) (c:aP) (hC:kH β c) :
 aX Tryz.prog β 187 #[vP f,vP cb] ((pA f m t L S)++[.ay cb (aL c) 53]) (λv l=>∃L2,v=vI (je S c).1/\l=((pA f m t L2 ((je S c).2.1))++[.ay cb (aL ((je S c).2.2)) 53])):=by
 have hX:=hI.hX
 refine SE Tryz.func187 Tryz.ntmps187 (λR=>SR (jK 1 [] [] (NN (aq.seq (rQ (jQ 9 [8,12,16] [(4,a_ 6 cb),(8,a_ 6 cb)] ?_))))))
 rcases kI hI.toInv0 c.aN c.name 192 with ⟨e,ef,bV⟩|⟨d,ef,hd,lS,j6,iA⟩
 ·exact mG [0,2,3] [0,3,1,2,4,5,6,7] (.tuple #[.pointer none,vI (e)]) ((by have h:=jj S L f m t hI c.aN hC.hw c.name hC.nm 192 (β:=β);rw [ef] at h;exact h)) (jQ 5 [5,6] [] (NQ (NX (SQ (jK 2 [21] [] (NN (cN ((e:Int)=(0:Int)) (λsF=>zR ⟨L,by rw [show (je S c)=(e,S,c) by unfold je;rw [ef]]<;>exact⟨rfl,rfl⟩⟩) (λsF=>ahh sF bV))))))))
 have dU:(af S.O d).kind=2:=hI.kind hd
 refine mG [0,2,3] [0,3,1,2,4,5,6,7] (.tuple #[vP (L.b d),vI 0]) ((by have h:=jj S L f m t hI c.aN hC.hw c.name hC.nm 192 (β:=β);rw [ef] at h;exact h)) (jQ 5 [5,6] [] (NQ (NX (SQ (jK 2 [21] [] (NF (KX (SQ (jK 4 [26] [(3,a_ 6 cb)] (gE [] (kN (c.mode) 4095) (jK 1 [28] [] (NN (cN (0<=c.mode/\c.mode<=4095) (λvZ=>zR ⟨L,by rw [show (je S c)=(120,S,c) by unfold je;rw [ef];exact ahe vZ]<;>exact⟨rfl,rfl⟩⟩) (λvZ=>KX (aq.seq (rM (List.range 12) 10 [6] (jR 10 [29,30,34,38] [(5,a_ 0 cb),(9,a_ 0 cb)] (mL [6] [0,1,2,3,4,5] (Mt S L f m t hI d hd c.name hC.nm c.mode) ?_ (by rintro _ _ ⟨L2,rfl,rfl⟩;rfl)))))))))))))))))))
 rintro _ _ ⟨L2,rfl,rfl⟩
 exact cu.last rfl rfl (jK 1 [4] [] (NL (aB.np (NX (aq.ret (RT _ [0,1,2,3,4,5,6,7] (⟨L2,by rw [show (je S c)=((mI S d c.name c.mode).1,(mI S d c.name c.mode).2,c) by unfold je;rw [ef];exact ahf vZ]<;>exact⟨rfl,rfl⟩⟩)))))))
theorem MS {β:Bs} (S:bB) (L:HL) (f m t:Nat) (hI:bT S) (cb:Nat) (c:aP) (hC:kH β c) :
 aX Tryz.prog β 189 #[vP f,vP cb] ((pA f m t L S)++[.ay cb (aL c) 53]) (λv l=>∃L2,v=vI (iE S c).1/\l=((pA f m t L2 ((iE S c).2.1))++[.ay cb (aL ((iE S c).2.2)) 53])):=by
 have hX:=hI.hX
 refine SE Tryz.func189 Tryz.ntmps189 (λR=>SR (jK 1 [] [] (NN (aq.seq (rQ (jQ 9 [8,12,16] [(4,a_ 6 cb),(8,a_ 6 cb)] ?_))))))
 rcases kI hI.toInv0 c.aN c.name 192 with ⟨e,ef,bV⟩|⟨d,ef,hd,lS,j6,iA⟩
 ·exact mG [0,2,3] [0,3,1,2,4,5,6,7] (.tuple #[.pointer none,vI (e)]) ((by have h:=jj S L f m t hI c.aN hC.hw c.name hC.nm 192 (β:=β);rw [ef] at h;exact h)) (jQ 5 [5,6] [] (NQ (NX (SQ (jK 2 [21] [] (NN (cN ((e:Int)=(0:Int)) (λsF=>zR ⟨L,by rw [show (iE S c)=(e,S,c) by unfold iE;rw [ef]]<;>exact⟨rfl,rfl⟩⟩) (λsF=>ahh sF bV))))))))
 have dU:(af S.O d).kind=2:=hI.kind hd
 refine mG [0,2,3] [0,3,1,2,4,5,6,7] (.tuple #[vP (L.b d),vI 0]) ((by have h:=jj S L f m t hI c.aN hC.hw c.name hC.nm 192 (β:=β);rw [ef] at h;exact h)) (jQ 5 [5,6] [] (NQ (NX (SQ (jK 2 [21] [] (NF (KX (aq.seq (rM (List.range 12) 10 [6] (jR 10 [23,24,28,32] [(5,a_ 0 cb),(9,a_ 0 cb)] (mL [6] [0,1,2,3,4,5] (GZ S L f m t hI d hd c.name hC.nm c.text hC.tx) ?_ (by rintro _ _ ⟨L2,rfl,rfl⟩;rfl))))))))))))
 rintro _ _ ⟨L2,rfl,rfl⟩
 exact cu.last rfl rfl (jK 1 [4] [] (NL (aB.np (NX (aq.ret (RT _ [0,1,2,3,4,5,6,7] (⟨L2,by rw [show (iE S c)=((jq S d c.name c.text).1,(jq S d c.name c.text).2,c) by unfold iE;rw [ef]]<;>exact⟨rfl,rfl⟩⟩)))))))
theorem P4 {β:Bs} (S:bB) (L:HL) (f m t:Nat) (hI:bT S) (cb:Nat) (c:aP) (hC:kH β c) :
 aX Tryz.prog β 191 #[vP f,vP cb] ((pA f m t L S)++[.ay cb (aL c) 53]) (λv l=>∃L2,v=vI (jD S c).1/\l=((pA f m t L2 ((jD S c).2.1))++[.ay cb (aL ((jD S c).2.2)) 53])):=by
 have hX:=hI.hX
 refine SE Tryz.func191 Tryz.ntmps191 (λR=>SR (jK 1 [] [] (NN (aq.seq (rQ (jQ 9 [8,12,16] [(4,a_ 6 cb),(8,a_ 6 cb)] ?_))))))
 rcases kI hI.toInv0 c.aN c.name 192 with ⟨e,ef,bV⟩|⟨d,ef,hd,lS,j6,iA⟩
 ·exact mG [0,2,3] [0,3,1,2,4,5,6,7] (.tuple #[.pointer none,vI (e)]) ((by have h:=jj S L f m t hI c.aN hC.hw c.name hC.nm 192 (β:=β);rw [ef] at h;exact h)) (jQ 5 [5,6] [] (NQ (NX (SQ (jK 2 [21] [] (NN (cN ((e:Int)=(0:Int)) (λsF=>zR ⟨L,by rw [show (jD S c)=(e,S,c) by unfold jD;rw [ef]]<;>exact⟨rfl,rfl⟩⟩) (λsF=>ahh sF bV))))))))
 have dU:(af S.O d).kind=2:=hI.kind hd
 exact mG [0,2,3] [0,3,1,2,4,5,6,7] (.tuple #[vP (L.b d),vI 0]) ((by have h:=jj S L f m t hI c.aN hC.hw c.name hC.nm 192 (β:=β);rw [ef] at h;exact h)) (jQ 5 [5,6] [] (NQ (NX (SQ (jK 2 [21] [] (NF (KX (SR (jK 6 [23,24,28] [(5,a_ 6 cb)] (gX [0,1,2,3,4,5] (J5 S L f m t hI d hd c.name hC.nm) (λL2=>jK 1 [4] [] (eN ⟨L2,by rw [show (jD S c)=((iD S d c.name).1,(iD S d c.name).2,c) by unfold jD;rw [ef]]<;>exact⟨rfl,rfl⟩⟩))))))))))))
theorem Q8 {β:Bs} (S:bB) (L:HL) (f m t:Nat) (hI:bT S) (cb:Nat) (c:aP) (hC:kH β c) :
 aX Tryz.prog β 197 #[vP f,vP cb] ((pA f m t L S)++[.ay cb (aL c) 53]) (λv l=>∃L2,v=vI (kq S c).1/\l=((pA f m t L2 ((kq S c).2.1))++[.ay cb (aL ((kq S c).2.2)) 53])):=by
 have hX:=hI.hX
 refine SE Tryz.func197 Tryz.ntmps197 (λR=>SR (jK 1 [] [] (NN (aq.seq (rQ (jQ 9 [8,12,16] [(4,a_ 6 cb),(8,a_ 6 cb)] ?_))))))
 rcases kI hI.toInv0 c.aN c.name 192 with ⟨e,ef,bV⟩|⟨d,ef,hd,lS,j6,iA⟩
 ·exact mG [0,2,3] [0,3,1,2,4,5,6,7] (.tuple #[.pointer none,vI (e)]) ((by have h:=jj S L f m t hI c.aN hC.hw c.name hC.nm 192 (β:=β);rw [ef] at h;exact h)) (jQ 5 [5,6] [] (NQ (NX (SQ (jK 2 [21] [] (NN (cN ((e:Int)=(0:Int)) (λsF=>zR ⟨L,by rw [show (kq S c)=(e,S,c) by unfold kq;rw [ef]]<;>exact⟨rfl,rfl⟩⟩) (λsF=>ahh sF bV))))))))
 have dU:(af S.O d).kind=2:=hI.kind hd
 exact mG [0,2,3] [0,3,1,2,4,5,6,7] (.tuple #[vP (L.b d),vI 0]) ((by have h:=jj S L f m t hI c.aN hC.hw c.name hC.nm 192 (β:=β);rw [ef] at h;exact h)) (jQ 5 [5,6] [] (NQ (NX (SQ (jK 2 [21] [] (NF (KX (SR (jK 6 [23,24,28] [(5,a_ 6 cb)] (gX [0,1,2,3,4,5] (Mu S L f m t hI d hd c.name hC.nm) (λL2=>jK 1 [4] [] (eN ⟨L2,by rw [show (kq S c)=((jd S d c.name).1,(jd S d c.name).2,c) by unfold kq;rw [ef]]<;>exact⟨rfl,rfl⟩⟩))))))))))))
theorem P5 {β:Bs} (S:bB) (L:HL) (f m t:Nat) (hI:bT S) (cb:Nat) (c:aP) (hC:kH β c) :
 aX Tryz.prog β 198 #[vP f,vP cb] ((pA f m t L S)++[.ay cb (aL c) 53]) (λv l=>∃L2,v=vI (iV S c).1/\l=((pA f m t L2 ((iV S c).2.1))++[.ay cb (aL ((iV S c).2.2)) 53])):=by
 have hX:=hI.hX
 refine SE Tryz.func198 Tryz.ntmps198 (λR=>SR (jK 1 [] [] (NN (aq.seq (rQ (jQ 9 [9,13,17] [(4,a_ 6 cb),(8,a_ 6 cb)] ?_))))))
 rcases kI hI.toInv0 c.aN c.name 192 with ⟨e,ef,bV⟩|⟨d,ef,hd,lS,j6,iA⟩
 ·exact mG [0,2,3] [0,3,1,2,4,5,6,7] (.tuple #[.pointer none,vI (e)]) ((by have h:=jj S L f m t hI c.aN hC.hw c.name hC.nm 192 (β:=β);rw [ef] at h;exact h)) (jQ 5 [5,6] [] (NQ (NX (SQ (jK 2 [22] [] (NN (cN ((e:Int)=(0:Int)) (λsC=>zR ⟨L,by rw [show (iV S c)=(e,S,c) by unfold iV;rw [ef]]<;>exact⟨rfl,rfl⟩⟩) (λsC=>ahh sC bV))))))))
 have dU:(af S.O d).kind=2:=hI.kind hd
 refine mG [0,2,3] [0,3,1,2,4,5,6,7] (.tuple #[vP (L.b d),vI 0]) ((by have h:=jj S L f m t hI c.aN hC.hw c.name hC.nm 192 (β:=β);rw [ef] at h;exact h)) (jQ 5 [5,6] [] (NQ (NX (SQ (jK 2 [22] [] (NF (KX (aq.seq (rQ (jQ 9 [25,29,33] [(4,a_ 6 cb),(8,a_ 6 cb)] ?_))))))))))
 rcases kI hI.toInv0 c.other c.text 192 with ⟨e2,Iy,P6⟩|⟨to,Iy,hd2,aed,Z2,agi⟩
 ·exact mG [0,2,3] [0,3,1,2,4,5,6,7] (.tuple #[.pointer none,vI (e2)]) ((by have h:=jj S L f m t hI c.other hC.ow c.text hC.tx 192 (β:=β);rw [Iy] at h;exact h)) (jQ 5 [6,7] [] (NQ (NX (SQ (jK 2 [38] [] (NN (cN ((e2:Int)=(0:Int)) (λEw=>zR ⟨L,by rw [show (iV S c)=(e2,S,c) by grind [iV]]<;>exact⟨rfl,rfl⟩⟩) (λEw=>ahh Ew P6))))))))
 have jv:(af S.O to).kind=2:=hI.kind hd2
 refine mG [0,2,3] [0,3,1,2,4,5,6,7] (.tuple #[vP (L.b to),vI 0]) ((by have h:=jj S L f m t hI c.other hC.ow c.text hC.tx 192 (β:=β);rw [Iy] at h;exact h)) (jQ 5 [6,7] [] (NQ (NX (SQ (jK 2 [38] [] (NF (KX (aq.seq (rM (List.range 13) 11 [6] (jR 11 [40,41,45,46,50] [(5,a_ 0 cb),(10,a_ 0 cb)] (mL [6] [0,1,2,3,4,5] (J6 S L f m t hI d hd c.name hC.nm to hd2 c.text hC.tx) ?_ (by rintro _ _ ⟨L2,rfl,rfl⟩;rfl))))))))))))
 rintro _ _ ⟨L2,rfl,rfl⟩
 exact cu.last rfl rfl (jK 1 [4] [] (NL (aB.np (NX (aq.ret (RT _ [0,1,2,3,4,5,6,7] (⟨L2,by rw [show (iV S c)=((dm S d c.name to c.text).1,(dm S d c.name to c.text).2,c) by grind [iV]]<;>exact⟨rfl,rfl⟩⟩)))))))
end
section
open Go.RowKit Go.Maps bG aF
attribute [local irreducible] av bP aq aB fF cu
abbrev zh1:=([(2,vI 0),(6,vI 0),(7,vI 0),(8,vI 0),(9,vI 0),(10,vI 0)]:Fr)
abbrev zh2 (S:bB) (tk:Nat):=([(9,vI ((af S.O tk).aU)),(10,vI ((af S.O tk).aJ))]:Fr)
theorem Us {β:Bs} (S:bB) (L:HL) (f m t:Nat) (hI:bT S) (cb:Nat) (c:aP) (hC:kH β c) :
 aX Tryz.prog β 190 #[vP f,vP cb] ((pA f m t L S)++[.ay cb (aL c) 53]) (λv l=>∃L2,v=vI (dX S c).1/\l=((pA f m t L2 ((dX S c).2.1))++[.ay cb (aL ((dX S c).2.2)) 53])):=by
 have hX:=hI.hX
 refine SE Tryz.func190 Tryz.ntmps190 (λR=>SR (jK 1 [] [] (NN (aq.seq (rQ (jQ 9 [10,14,18] [(4,a_ 6 cb),(8,a_ 6 cb)] ?_))))))
 rcases kI hI.toInv0 c.aN c.name 64 with ⟨e,ef,bV⟩|⟨d,ef,hd,lS,j6,iA⟩
 ·exact mG [0,2,3] [0,3,1,2,4,5,6,7] (.tuple #[.pointer none,vI (e)]) ((by have h:=jj S L f m t hI c.aN hC.hw c.name hC.nm 64 (β:=β);rw [ef] at h;exact h)) (jQ 5 [5,6] [] (NQ (NX (SQ (jK 2 [23] [] (NN (cN ((e:Int)=(0:Int)) (λh23=>zR ⟨L,by rw [show (dX S c)=(e,S,c) by unfold dX;rw [ef]]<;>exact⟨rfl,rfl⟩⟩) (λh23=>ahh h23 bV))))))))
 have dU:(af S.O d).kind=2:=hI.kind hd
 refine mG [0,2,3] [0,3,1,2,4,5,6,7] (.tuple #[vP (L.b d),vI 0]) ((by have h:=jj S L f m t hI c.aN hC.hw c.name hC.nm 64 (β:=β);rw [ef] at h;exact h)) (jQ 5 [5,6] [] (NQ (NX (SQ (jK 2 [23] [] (NF (KX (aq.seq (rQ (jQ 9 [26,30,34] [(4,a_ 6 cb),(8,a_ 6 cb)] ?_))))))))))
 rcases kI hI.toInv0 c.other c.text 192 with ⟨e2,Iy,P6⟩|⟨to,Iy,hd2,aed,Z2,agi⟩
 ·exact mG [0,2,3] [0,3,1,2,4,5,6,7] (.tuple #[.pointer none,vI (e2)]) ((by have h:=jj S L f m t hI c.other hC.ow c.text hC.tx 192 (β:=β);rw [Iy] at h;exact h)) (jQ 5 [6,7] [] (NQ (NX (SQ (jK 2 [39] [] (NN (cN ((e2:Int)=(0:Int)) (λnB=>zR ⟨L,by rw [show (dX S c)=(e2,S,c) by grind [dX]]<;>exact⟨rfl,rfl⟩⟩) (λnB=>ahh nB P6))))))))
 have jv:(af S.O to).kind=2:=hI.kind hd2
 refine mG [0,2,3] [0,3,1,2,4,5,6,7] (.tuple #[vP (L.b to),vI 0]) ((by have h:=jj S L f m t hI c.other hC.ow c.text hC.tx 192 (β:=β);rw [Iy] at h;exact h)) (jQ 5 [6,7] [] (NQ (NX (SQ (jK 2 [39] [] (NF (KX (aq.seq ?_))))))))
 have hel:(af S.O d).ah.length<=8192:=hI.lI hd
 have afm:=hC.nm
 rcases hI.sU hd c.name with eM|⟨tk,eM,ck⟩|⟨tk,eM,ck⟩|⟨tk,eM,ck⟩
 ·exact rQ (jQ 8 [44,48] [(3,v_ 3 (dw L dU)),(7,a_ 6 cb)] (y4 5 dU eM (jQ 1 [8] [] (NQ (NX (aq.seq (aq.block (SR (jK 3 [50] [] (NT (zR ⟨L,by rw [show (dX S c)=(170,S,c) by grind [dX,nN]]<;>exact⟨rfl,rfl⟩⟩)))))))))))
 ·have bC:(af S.O tk).kind=1:=hI.kind ck
  refine rQ (jQ 8 [44,48] [(3,v_ 3 (dw L dU)),(7,a_ 6 cb)] (y4 5 dU eM (jQ 1 [8] [] (NQ (NX (aq.seq (aq.block (SR (jK 3 [50] [] (NF (SR (jK 1 [54] [] (gE [] (tD (vP (L.b tk))) (jK 2 [53] [] (NF (aq.seq ?_))))))))))))))))
  have Iz:(af S.O to).ah.length<=8192:=hI.lI hd2
  have Xn:=hC.tx
  rcases hI.sU hd2 c.text with eE|⟨ok,eE,jH⟩|⟨ok,eE,jH⟩|⟨ok,eE,jH⟩
  ·exact rQ (jQ 8 [61,65] [(3,v_ 3 (dw L jv)),(7,a_ 6 cb)] (y4 5 jv eE (jQ 2 [57] [] (NQ (NX (CF (SR (jK 1 [69] [] (gE [0] (CA S.X f m t) (jK 2 [68] [] (NN (cN (S.X.ah<8192) (λh68=>zR ⟨L,by rw [show (dX S c)=(177,S,c) by grind [dX,nN]]<;>exact⟨rfl,rfl⟩⟩) (λh68=>KX (SR (jK 7 [72,73,77,78] [(5,a_ 6 cb)] (gE [0,3,5] (nH S.X f m t hX S.O L to jv c.text hC.tx eE zc ⟨tk,1⟩ bC ahd (by have:=hI.lb ck;simp only at this ⊢;omega)) (NS (av.gH [(5,.abs (aW (dN (dg S.X S.O to c.text ⟨tk,1⟩) L)))] (λw hS=>by rw [show dN (dg S.X S.O to c.text ⟨tk,1⟩) L=dN S.O L from mK];exact hS) (jK 1 [4] [] (eN ⟨L,by rw [show (dX S c)=(0,{S with X:={S.X with ah:=S.X.ah+1},O:=dg S.X S.O to c.text ⟨tk,1⟩},c) by grind [dX,nN,dg]]<;>exact⟨rfl,rfl⟩⟩ [0,3,4,1,5,2,6,7]))))))))))))))))))))
  ·have rF:(af S.O ok).kind=1:=hI.kind jH
   exact rQ (jQ 8 [61,65] [(3,v_ 3 (dw L jv)),(7,a_ 6 cb)] (y4 5 jv eE (jQ 2 [57] [] (NQ (NX (CT (zR ⟨L,by rw [show (dX S c)=(171,S,c) by grind [dX,nN]]<;>exact⟨rfl,rfl⟩⟩)))))))
  ·have rF:(af S.O ok).kind=2:=hI.kind jH
   exact rQ (jQ 8 [61,65] [(3,v_ 3 (dw L jv)),(7,a_ 6 cb)] (y4 5 jv eE (jQ 2 [57] [] (NQ (NX (CT (zR ⟨L,by rw [show (dX S c)=(171,S,c) by grind [dX,nN]]<;>exact⟨rfl,rfl⟩⟩)))))))
  have rF:(af S.O ok).kind=3:=hI.kind jH
  exact rQ (jQ 8 [61,65] [(3,v_ 3 (dw L jv)),(7,a_ 6 cb)] (y4 5 jv eE (jQ 2 [57] [] (NQ (NX (CT (zR ⟨L,by rw [show (dX S c)=(171,S,c) by grind [dX,nN]]<;>exact⟨rfl,rfl⟩⟩)))))))
 ·have bC:(af S.O tk).kind=2:=hI.kind ck
  exact rQ (jQ 8 [44,48] [(3,v_ 3 (dw L dU)),(7,a_ 6 cb)] (y4 5 dU eM (jQ 1 [8] [] (NQ (NX (aq.seq (aq.block (SR (jK 3 [50] [] (NF (SR (jK 1 [54] [] (gE [] (tE (vP (L.b tk))) (jK 2 [53] [] (NT (zR ⟨L,by rw [show (dX S c)=(172,S,c) by grind [dX,nN]]<;>exact⟨rfl,rfl⟩⟩))))))))))))))))
 have bC:(af S.O tk).kind=3:=hI.kind ck
 refine rQ (jQ 8 [44,48] [(3,v_ 3 (dw L dU)),(7,a_ 6 cb)] (y4 5 dU eM (jQ 1 [8] [] (NQ (NX (aq.seq (aq.block (SR (jK 3 [50] [] (NF (SR (jK 1 [54] [] (gE [] (uR (vP (L.b tk))) (jK 2 [53] [] (NF (aq.seq ?_))))))))))))))))
 have Iz:(af S.O to).ah.length<=8192:=hI.lI hd2
 have Xn:=hC.tx
 rcases hI.sU hd2 c.text with eE|⟨ok,eE,jH⟩|⟨ok,eE,jH⟩|⟨ok,eE,jH⟩
 ·exact rQ (jQ 8 [61,65] [(3,v_ 3 (dw L jv)),(7,a_ 6 cb)] (y4 5 jv eE (jQ 2 [57] [] (NQ (NX (CF (SR (jK 1 [69] [] (gE [0] (CA S.X f m t) (jK 2 [68] [] (NN (cN (S.X.ah<8192) (λh68=>zR ⟨L,by rw [show (dX S c)=(177,S,c) by grind [dX,nN]]<;>exact⟨rfl,rfl⟩⟩) (λh68=>KX (SR (jK 7 [72,73,77,78] [(5,a_ 6 cb)] (gE [0,3,5] (nH S.X f m t hX S.O L to jv c.text hC.tx eE zc ⟨tk,3⟩ bC ahd (by have:=hI.lb ck;simp only at this ⊢;omega)) (NS (av.gH [(5,.abs (aW (dN (dg S.X S.O to c.text ⟨tk,3⟩) L)))] (λw hS=>by rw [show dN (dg S.X S.O to c.text ⟨tk,3⟩) L=dN S.O L from mK];exact hS) (jK 1 [4] [] (eN ⟨L,by rw [show (dX S c)=(0,{S with X:={S.X with ah:=S.X.ah+1},O:=dg S.X S.O to c.text ⟨tk,3⟩},c) by grind [dX,nN,dg]]<;>exact⟨rfl,rfl⟩⟩ [0,3,4,1,5,2,6,7]))))))))))))))))))))
 ·have rF:(af S.O ok).kind=1:=hI.kind jH
  exact rQ (jQ 8 [61,65] [(3,v_ 3 (dw L jv)),(7,a_ 6 cb)] (y4 5 jv eE (jQ 2 [57] [] (NQ (NX (CT (zR ⟨L,by rw [show (dX S c)=(171,S,c) by grind [dX,nN]]<;>exact⟨rfl,rfl⟩⟩)))))))
 ·have rF:(af S.O ok).kind=2:=hI.kind jH
  exact rQ (jQ 8 [61,65] [(3,v_ 3 (dw L jv)),(7,a_ 6 cb)] (y4 5 jv eE (jQ 2 [57] [] (NQ (NX (CT (zR ⟨L,by rw [show (dX S c)=(171,S,c) by grind [dX,nN]]<;>exact⟨rfl,rfl⟩⟩)))))))
 have rF:(af S.O ok).kind=3:=hI.kind jH
 exact rQ (jQ 8 [61,65] [(3,v_ 3 (dw L jv)),(7,a_ 6 cb)] (y4 5 jv eE (jQ 2 [57] [] (NQ (NX (CT (zR ⟨L,by rw [show (dX S c)=(171,S,c) by grind [dX,nN]]<;>exact⟨rfl,rfl⟩⟩)))))))
theorem Q9 {β:Bs} (S:bB) (L:HL) (f m t:Nat) (hI:bT S) (cb:Nat) (c:aP) (hC:kH β c) :
 aX Tryz.prog β 192 #[vP f,vP cb] ((pA f m t L S)++[.ay cb (aL c) 53]) (λv l=>∃L2,v=vI (iw S c).1/\l=((pA f m t L2 ((iw S c).2.1))++[.ay cb (aL ((iw S c).2.2)) 53])):=by
 have hX:=hI.hX
 refine SE Tryz.func192 Tryz.ntmps192 (λR=>aq.seq ?_)
 rcases hI.hand c.aN with iA|⟨tk,iA,ck⟩|⟨tk,iA,ck⟩
 ·exact aq.region (jK 1 [] [] (NN (aq.seq (rQ (jQ 8 [13,17] [(3,a_ 0 f),(7,a_ 6 cb)] (mG [2] [1,2,0,3,4,5,6,7] (.tuple #[.nilIface,vI 131]) (xU t S.X.cH S.aI (cM L S.us) c.aN hC.hw (wG iA)) (jQ 5 [5,6] [] (NQ (NX (SQ (jK 2 [22] [] (NT (zR ⟨L,by rw [show (iw S c)=(131,S,c) by unfold iw;rw [iA]]<;>exact⟨rfl,rfl⟩⟩)))))))))))))
 ·have bC:(af S.O tk).kind=1:=hI.kind ck
  exact aq.region (jK 1 [] [] (NN (aq.seq (rQ (jQ 8 [13,17] [(3,a_ 0 f),(7,a_ 6 cb)] (mG [2] [1,2,0,3,4,5,6,7] (.tuple #[.iface 138 (vP (L.b tk)),vI 0]) (rU t S.X.cH S.aI (cM L S.us) c.aN hC.hw (iz L ⟨tk,1⟩) (qE iA)) (jQ 5 [5,6] [] (NQ (NX (SQ (jK 2 [22] [] (NF (KX (SR (jK 7 [7,8] [] (NZ (jK 2 [30] [] (NF (KX (SR (jK 7 [32,33,34,38] [(6,a_ 6 cb)] (gX [0,1,2,3,4,5] (Mv S L f m t hI tk ck c.dA c.dC c.data hC.da hC.dl hC.dc) (λL2=>jC 7 [6] [(5,a_ 6 cb)] [(6,[(12,vI ((gF S tk c.data).1))])] (NS (jK 2 [4] [] (eN ⟨L2,by rw [show (iw S c)=((gF S tk c.data).2.1,(gF S tk c.data).2.2,{c with answer:=(gF S tk c.data).1}) by grind [iw]]<;>exact⟨rfl,rfl⟩⟩))))))))))))))))))))))))))
 have bC:(af S.O tk).kind=2:=hI.kind ck
 exact aq.region (jK 1 [] [] (NN (aq.seq (rQ (jQ 8 [13,17] [(3,a_ 0 f),(7,a_ 6 cb)] (mG [2] [1,2,0,3,4,5,6,7] (.tuple #[.iface 144 (vP (L.b tk)),vI 0]) (rU t S.X.cH S.aI (cM L S.us) c.aN hC.hw (iz L ⟨tk,2⟩) (qE iA)) (jQ 5 [5,6] [] (NQ (NX (SQ (jK 2 [22] [] (NF (KX (SR (jK 7 [7,8] [] (NZ (jK 2 [30] [] (NT (zR ⟨L,by rw [show (iw S c)=(172,S,c) by grind [iw]]<;>exact⟨rfl,rfl⟩⟩)))))))))))))))))))
theorem uT {β:Bs} (S:bB) (L:HL) (hI:bT S) (cb:Nat) (c:aP) (ot:Option Th) (ht:ot=none\/(∃k,ot=some ⟨k,1⟩/\aT S.ar ⟨k,1⟩)\/(∃k,ot=some ⟨k,2⟩/\aT S.ar ⟨k,2⟩)\/∃k,ot=some ⟨k,3⟩/\aT S.ar ⟨k,3⟩) :
 aX Tryz.prog β 212 #[vP cb,(match ot with|none=>.nilIface|some th=>iz L th)] [pO S.O L,.ay cb (aL c) 53] (λv l=>v=.tuple #[]/\l=[pO S.O L,.ay cb (aL (oe S.O c ot)) 53]):=by
 refine SE Tryz.func212 Tryz.ntmps212 (λR=>aq.seq ?_)
 rcases ht with rfl|⟨tk,rfl,ck⟩|⟨tk,rfl,ck⟩|⟨tk,rfl,ck⟩
 ·exact aq.region (jC 21 [] [(8,a_ 1 cb),(11,a_ 1 cb),(14,a_ 1 cb),(17,a_ 1 cb),(20,A_ 1 cb 2)] [(1,(zh1))] (NZ (jK 2 [22] [] (NT (aq.ret (aB.bE (RT _ [0,1,2] (⟨rfl,rfl⟩))))))))
 ·have bC:(af S.O tk).kind=1:=hI.kind ck
  refine aq.region (jC 21 [] [(8,a_ 1 cb),(11,a_ 1 cb),(14,a_ 1 cb),(17,a_ 1 cb),(20,A_ 1 cb 2)] [(1,(zh1))] (NZ (jK 2 [22] [] (NF (KX (SR (jK 1 [23] [] (gE [] (gq (L.b tk)) (jK 1 [4] [] (NN (rM [0,1,2,3,4,5,6,7,8,9,10,12,13,14,15,16,17,18,19,20,21,22,23,24,25,26,27,11,28,29,30,31,32,33,34,35,36,37,38,39,40,41,42,43,44,45] 27 [0] (jR 27 [25,26,27,28,29,30,34,35,40,44,48,52] [(9,v_ 0 (yP L bC)),(14,v_ 0 (Bd L bC)),(18,v_ 0 (Gf L bC)),(22,v_ 0 (Gg L bC)),(26,p_ ⟨[.view 0 (.int .i64 ((af S.O tk).aU)),.view 0 (.int .i64 ((af S.O tk).aJ))],none,none,none,none⟩ [(∀F w,(aW (d8 S.O L)).h F w->w.cell? ⟨(L.b tk),5,none⟩=some (vI ((af S.O tk).aJ))),(∀F w,(aW (d8 S.O L)).h F w->w.cell? ⟨(L.b tk),4,none⟩=some (vI ((af S.O tk).aU)))] ⟨jc (by rw [bC];decide) (rfl),jc (by rw [bC];decide) (rfl),trivial⟩)] (mL [0] [] (tD (vP (L.b tk))) ?_ (by rintro _ _ ⟨rfl,rfl⟩;rfl))))))))))))))
  rintro _ _ ⟨rfl,rfl⟩
  exact nC [0] [53] [] [] (nC [0] [54] [] [] (nC [0] [] [(0,a_ 1 cb)] [(1,[(12,vI ((af S.O tk).id))])] (nC [0] [55] [] [] (nC [0] [56] [] [] (nC [0] [] [(0,a_ 1 cb)] [(1,[(2,vI 1)])] (nC [0] [57] [] [] (nC [0] [58] [] [] (nC [0] [] [(0,a_ 1 cb)] [(1,[(6,vI ((af S.O tk).mode))])] (nC [0] [59] [] [] (nC [0] [60] [] [] (nC [0] [] [(0,a_ 1 cb)] [(1,[(7,vI ((af S.O tk).bg))])] (nC [0] [61] [] [] (nC [0] [62] [] [] (nC [0] [] [(0,a_ 1 cb)] [(1,[(8,vI ((af S.O tk).bh))])] (nC [0] [63] [] [] (nC [0] [64] [] [] (cu.last rfl rfl (jC 1 [] [(0,A_ 1 cb 2)] [(1,(zh2 S tk))] (NL (aB.np (RF (.tuple #[]) [0,1,2] (⟨rfl,rfl⟩))))))))))))))))))))))
 ·have bC:(af S.O tk).kind=2:=hI.kind ck
  refine aq.region (jC 21 [] [(8,a_ 1 cb),(11,a_ 1 cb),(14,a_ 1 cb),(17,a_ 1 cb),(20,A_ 1 cb 2)] [(1,(zh1))] (NZ (jK 2 [22] [] (NF (KX (SR (jK 1 [23] [] (gE [] (gq (L.b tk)) (jK 1 [4] [] (NN (rM [0,1,2,3,4,5,6,7,8,9,10,12,13,14,15,16,17,18,19,20,21,22,23,24,25,26,27,11,28,29,30,31,32,33,34,35,36,37,38,39,40,41,42,43,44,45] 27 [0] (jR 27 [25,26,27,28,29,30,34,35,40,44,48,52] [(9,v_ 0 (yP L bC)),(14,v_ 0 (Bd L bC)),(18,v_ 0 (Gf L bC)),(22,v_ 0 (Gg L bC)),(26,p_ ⟨[.view 0 (.int .i64 ((af S.O tk).aU)),.view 0 (.int .i64 ((af S.O tk).aJ))],none,none,none,none⟩ [(∀F w,(aW (d8 S.O L)).h F w->w.cell? ⟨(L.b tk),5,none⟩=some (vI ((af S.O tk).aJ))),(∀F w,(aW (d8 S.O L)).h F w->w.cell? ⟨(L.b tk),4,none⟩=some (vI ((af S.O tk).aU)))] ⟨jc (by rw [bC];decide) (rfl),jc (by rw [bC];decide) (rfl),trivial⟩)] (mL [0] [] (tE (vP (L.b tk))) ?_ (by rintro _ _ ⟨rfl,rfl⟩;rfl))))))))))))))
  rintro _ _ ⟨rfl,rfl⟩
  exact nC [0] [53] [] [] (nC [0] [54] [] [] (nC [0] [] [(0,a_ 1 cb)] [(1,[(12,vI ((af S.O tk).id))])] (nC [0] [55] [] [] (nC [0] [56] [] [] (nC [0] [] [(0,a_ 1 cb)] [(1,[(2,vI 2)])] (nC [0] [57] [] [] (nC [0] [58] [] [] (nC [0] [] [(0,a_ 1 cb)] [(1,[(6,vI ((af S.O tk).mode))])] (nC [0] [59] [] [] (nC [0] [60] [] [] (nC [0] [] [(0,a_ 1 cb)] [(1,[(7,vI ((af S.O tk).bg))])] (nC [0] [61] [] [] (nC [0] [62] [] [] (nC [0] [] [(0,a_ 1 cb)] [(1,[(8,vI ((af S.O tk).bh))])] (nC [0] [63] [] [] (nC [0] [64] [] [] (cu.last rfl rfl (jC 1 [] [(0,A_ 1 cb 2)] [(1,(zh2 S tk))] (NL (aB.np (RF (.tuple #[]) [0,1,2] (⟨rfl,rfl⟩))))))))))))))))))))))
 have bC:(af S.O tk).kind=3:=hI.kind ck
 refine aq.region (jC 21 [] [(8,a_ 1 cb),(11,a_ 1 cb),(14,a_ 1 cb),(17,a_ 1 cb),(20,A_ 1 cb 2)] [(1,(zh1))] (NZ (jK 2 [22] [] (NF (KX (SR (jK 1 [23] [] (gE [] (gq (L.b tk)) (jK 1 [4] [] (NN (rM [0,1,2,3,4,5,6,7,8,9,10,12,13,14,15,16,17,18,19,20,21,22,23,24,25,26,27,11,28,29,30,31,32,33,34,35,36,37,38,39,40,41,42,43,44,45] 27 [0] (jR 27 [25,26,27,28,29,30,34,35,40,44,48,52] [(9,v_ 0 (yP L bC)),(14,v_ 0 (Bd L bC)),(18,v_ 0 (Gf L bC)),(22,v_ 0 (Gg L bC)),(26,p_ ⟨[.view 0 (.int .i64 ((af S.O tk).aU)),.view 0 (.int .i64 ((af S.O tk).aJ))],none,none,none,none⟩ [(∀F w,(aW (d8 S.O L)).h F w->w.cell? ⟨(L.b tk),5,none⟩=some (vI ((af S.O tk).aJ))),(∀F w,(aW (d8 S.O L)).h F w->w.cell? ⟨(L.b tk),4,none⟩=some (vI ((af S.O tk).aU)))] ⟨jc (by rw [bC];decide) (rfl),jc (by rw [bC];decide) (rfl),trivial⟩)] (mL [0] [] (uR (vP (L.b tk))) ?_ (by rintro _ _ ⟨rfl,rfl⟩;rfl))))))))))))))
 rintro _ _ ⟨rfl,rfl⟩
 exact nC [0] [53] [] [] (nC [0] [54] [] [] (nC [0] [] [(0,a_ 1 cb)] [(1,[(12,vI ((af S.O tk).id))])] (nC [0] [55] [] [] (nC [0] [56] [] [] (nC [0] [] [(0,a_ 1 cb)] [(1,[(2,vI 3)])] (nC [0] [57] [] [] (nC [0] [58] [] [] (nC [0] [] [(0,a_ 1 cb)] [(1,[(6,vI ((af S.O tk).mode))])] (nC [0] [59] [] [] (nC [0] [60] [] [] (nC [0] [] [(0,a_ 1 cb)] [(1,[(7,vI ((af S.O tk).bg))])] (nC [0] [61] [] [] (nC [0] [62] [] [] (nC [0] [] [(0,a_ 1 cb)] [(1,[(8,vI ((af S.O tk).bh))])] (nC [0] [63] [] [] (nC [0] [64] [] [] (cu.last rfl rfl (jC 1 [] [(0,A_ 1 cb 2)] [(1,(zh2 S tk))] (NL (aB.np (RF (.tuple #[]) [0,1,2] (⟨rfl,rfl⟩))))))))))))))))))))))
theorem Ut {β:Bs} (S:bB) (L:HL) (f m t:Nat) (hI:bT S) (cb:Nat) (c:aP) (hC:kH β c) :
 aX Tryz.prog β 194 #[vP f,vP cb] ((pA f m t L S)++[.ay cb (aL c) 53]) (λv l=>∃L2,v=vI (og S c).1/\l=((pA f m t L2 ((og S c).2.1))++[.ay cb (aL ((og S c).2.2)) 53])):=by
 have hX:=hI.hX
 refine SE Tryz.func194 Tryz.ntmps194 (λR=>aq.seq ?_)
 rcases hI.hand c.aN with iA|⟨tk,iA,ck⟩|⟨tk,iA,ck⟩
 ·exact aq.region (jK 1 [] [] (NN (aq.seq (rQ (jQ 8 [11,15] [(3,a_ 0 f),(7,a_ 6 cb)] (mG [2] [1,2,0,3,4,5,6,7] (.tuple #[.nilIface,vI 131]) (xU t S.X.cH S.aI (cM L S.us) c.aN hC.hw (wG iA)) (jQ 5 [5,6] [] (NQ (NX (SR (jK 2 [19,20] [] (gE [3,6] (uT S L hI cb c none (.inl rfl)) (NS (jK 2 [4] [] (eN ⟨L,by rw [show (og S c)=(131,S,oe S.O c none) by unfold og;rw [iA]]<;>exact⟨rfl,rfl⟩⟩ [2,3,4,0,5,6,1,7])))))))))))))))
 ·have bC:(af S.O tk).kind=1:=hI.kind ck
  exact aq.region (jK 1 [] [] (NN (aq.seq (rQ (jQ 8 [11,15] [(3,a_ 0 f),(7,a_ 6 cb)] (mG [2] [1,2,0,3,4,5,6,7] (.tuple #[.iface 138 (vP (L.b tk)),vI 0]) (rU t S.X.cH S.aI (cM L S.us) c.aN hC.hw (iz L ⟨tk,1⟩) (qE iA)) (jQ 5 [5,6] [] (NQ (NX (SR (jK 2 [19,20] [] (gE [3,6] (uT S L hI cb c (some ⟨tk,1⟩) (.inr (.inl ⟨tk,rfl,ck⟩))) (NS (jK 2 [4] [] (eN ⟨L,by rw [show (og S c)=(0,S,oe S.O c (some ⟨tk,1⟩)) by unfold og;rw [iA]]<;>exact⟨rfl,rfl⟩⟩ [2,3,4,0,5,6,1,7])))))))))))))))
 have bC:(af S.O tk).kind=2:=hI.kind ck
 exact aq.region (jK 1 [] [] (NN (aq.seq (rQ (jQ 8 [11,15] [(3,a_ 0 f),(7,a_ 6 cb)] (mG [2] [1,2,0,3,4,5,6,7] (.tuple #[.iface 144 (vP (L.b tk)),vI 0]) (rU t S.X.cH S.aI (cM L S.us) c.aN hC.hw (iz L ⟨tk,2⟩) (qE iA)) (jQ 5 [5,6] [] (NQ (NX (SR (jK 2 [19,20] [] (gE [3,6] (uT S L hI cb c (some ⟨tk,2⟩) (.inr (.inr (.inl ⟨tk,rfl,ck⟩)))) (NS (jK 2 [4] [] (eN ⟨L,by rw [show (og S c)=(0,S,oe S.O c (some ⟨tk,2⟩)) by unfold og;rw [iA]]<;>exact⟨rfl,rfl⟩⟩ [2,3,4,0,5,6,1,7])))))))))))))))
theorem P7 {β:Bs} (S:bB) (L:HL) (f m t:Nat) (hI:bT S) (cb:Nat) (c:aP) (hC:kH β c) :
 aX Tryz.prog β 195 #[vP f,vP cb] ((pA f m t L S)++[.ay cb (aL c) 53]) (λv l=>∃L2,v=vI (jw S c).1/\l=((pA f m t L2 ((jw S c).2.1))++[.ay cb (aL ((jw S c).2.2)) 53])):=by
 have hX:=hI.hX
 refine SE Tryz.func195 Tryz.ntmps195 (λR=>SR (jK 1 [] [] (NS (jK 2 [8,9] [] ?_))))
 rcases Ji hI.toInv0 c with ⟨e,hnm,bV⟩|⟨tk,hnm,ck⟩|⟨tk,hnm,ck⟩|⟨tk,hnm,ck⟩
 ·exact gE [0,1,2,3,4,5,6] ((by have h:=nI S L f m t hI cb c hC (β:=β);rw [hnm] at h;exact h)) (jK 5 [5,6] [] (NS (jK 2 [13,14] [] (gE [3,6] (uT S L hI cb c none (.inl rfl)) (NS (jK 2 [4] [] (eN ⟨L,by rw [show (jw S c)=(e,S,oe S.O c none) by unfold jw;rw [hnm]]<;>exact⟨rfl,rfl⟩⟩ [2,3,4,0,5,6,1,7])))))))
 ·have bC:(af S.O tk).kind=1:=hI.kind ck
  exact gE [0,1,2,3,4,5,6] ((by have h:=nI S L f m t hI cb c hC (β:=β);rw [hnm] at h;exact h)) (jK 5 [5,6] [] (NS (jK 2 [13,14] [] (gE [3,6] (uT S L hI cb c (some ⟨tk,1⟩) (.inr (.inl ⟨tk,rfl,ck⟩))) (NS (jK 2 [4] [] (eN ⟨L,by rw [show (jw S c)=(0,S,oe S.O c (some ⟨tk,1⟩)) by unfold jw;rw [hnm]]<;>exact⟨rfl,rfl⟩⟩ [2,3,4,0,5,6,1,7])))))))
 ·have bC:(af S.O tk).kind=2:=hI.kind ck
  exact gE [0,1,2,3,4,5,6] ((by have h:=nI S L f m t hI cb c hC (β:=β);rw [hnm] at h;exact h)) (jK 5 [5,6] [] (NS (jK 2 [13,14] [] (gE [3,6] (uT S L hI cb c (some ⟨tk,2⟩) (.inr (.inr (.inl ⟨tk,rfl,ck⟩)))) (NS (jK 2 [4] [] (eN ⟨L,by rw [show (jw S c)=(0,S,oe S.O c (some ⟨tk,2⟩)) by unfold jw;rw [hnm]]<;>exact⟨rfl,rfl⟩⟩ [2,3,4,0,5,6,1,7])))))))
 have bC:(af S.O tk).kind=3:=hI.kind ck
 exact gE [0,1,2,3,4,5,6] ((by have h:=nI S L f m t hI cb c hC (β:=β);rw [hnm] at h;exact h)) (jK 5 [5,6] [] (NS (jK 2 [13,14] [] (gE [3,6] (uT S L hI cb c (some ⟨tk,3⟩) (.inr (.inr (.inr ⟨tk,rfl,ck⟩)))) (NS (jK 2 [4] [] (eN ⟨L,by rw [show (jw S c)=(0,S,oe S.O c (some ⟨tk,3⟩)) by unfold jw;rw [hnm]]<;>exact⟨rfl,rfl⟩⟩ [2,3,4,0,5,6,1,7])))))))
theorem Ra {β:Bs} (S:bB) (L:HL) (f m t:Nat) (hI:bT S) (cb:Nat) (c:aP) (hC:kH β c) :
 aX Tryz.prog β 196 #[vP f,vP cb] ((pA f m t L S)++[.ay cb (aL c) 53]) (λv l=>∃L2,v=vI (jW S c).1/\l=((pA f m t L2 ((jW S c).2.1))++[.ay cb (aL ((jW S c).2.2)) 53])):=by
 have hX:=hI.hX
 refine SE Tryz.func196 Tryz.ntmps196 (λR=>aq.seq ?_)
 rcases hI.hand c.aN with iA|⟨tk,iA,ck⟩|⟨tk,iA,ck⟩
 ·refine aq.region (jK 1 [] [] (NN (aq.seq (jM [0,1,2,3,4,5,6,7,508,9,10,11,12,513] [0,6] (jG 8 [0,11,15] [(3,a_ 0 f),(7,a_ 1 cb)] (kL [1,6] [2] (QC t S.X.cH S.aI (cM L S.us) c.aN hC.hw (wG iA)) ?_ (by rintro _ _ ⟨rfl,rfl⟩;kernel_rfl)))))))
  rintro _ _ ⟨rfl,rfl⟩
  exact jG 4 [0,5,18] [] (fF.last KB (jK 1 [6] [] (NL (aB.np (NX (SQ (jK 2 [20] [] (NT (zR (v:=(vI 131)) ⟨L,by rw [show (jW S c)=(131,S,c) by unfold jW;rw [iA]]<;>exact⟨rfl,rfl⟩⟩ [1,2,0,3,4,5,6,7])))))))))
 ·have bC:(af S.O tk).kind=1:=hI.kind ck
  have hid:=hI.ob _ ck
  have wV:=hI.Vv ck
  have hdl:=hI.Oj ck
  have bX:0<(af S.O tk).aK/\(af S.O tk).aK<=1024:=⟨by have h1:=hI.aK _ ck;have h2:=RN iA;simp only at h1 h2;omega,(hI.LF ck).2⟩
  refine aq.region (jK 1 [] [] (NN (aq.seq (jM [0,1,2,3,4,5,6,7,508,9,10,11,12,513] [0,6] (jG 8 [0,11,15] [(3,a_ 0 f),(7,a_ 1 cb)] (fF.cut (ι:=Unit) (bY:=λ(_:Unit)=>[(0,vP f),(16,.tuple #[.iface 138 (vP (L.b tk)),vI 0])]) (dK:=λ(_:Unit)=>[pT t S.X.cH S.aI L (del c.aN S.us),pF f m t S.X,pI m L S.ar,pO S.O L,pD S.O L,pE S.O L,.ay cb (aL c) 53,.abs R]) [1,6] KB ?_ rfl (λ_=>KB) ?_))))))
  ·exact gE (f:=213) (args:=#[vP t,vI (c.aN)]) (pre:=[pT t S.X.cH S.aI L S.us]) [2] ((by have h:=LD (β:=β) t S.X.cH S.aI (cM L S.us) c.aN hC.hw (iz L ⟨tk,1⟩) (qE iA);rw [←Ou] at h;exact h)) (NL (MD () [0,16] [0,1,2,3,4,5,6,7]))
  rintro _
  refine jG 4 [0,5,18] [] (fF.last KB (jK 1 [6] [] (NL (aB.np (NX (SQ (jK 2 [20] [] (NF (KX (SR (jK 1 [22] [] (gE [] (gq (L.b tk)) (jK 6 [27,29] [(2,v_ 3 (qi L bC)),(3,wJ ((af S.O tk).aK-1) ((af S.O tk).aK-1))] (Be 3 [(5,1),(4,2)] tk 7 (λo=>{o with aK:=o.aK-1}) bC (λgY fT=>?_)))))))))))))))
  have qc:=ku fT bC
  have hf2:(af gY tk).id=(af S.O tk).id:=fu bM.id fT rfl
  have hf3:(af gY tk).data=(af S.O tk).data:=fu bM.data fT rfl
  refine NS ?_
  have Z4:(af gY tk).aK=(af S.O tk).aK-1:=by grind [fB]
  exact jK 2 [30,31] [] (gE [3,1,2] (yJ S.X f m t hX gY L S.ar hI.fO ⟨tk,1⟩ qc ahd (by rw [Z4];omega) (λ_=>by rw [hf2,hid.1];exact ck) (by rw [hf2];exact wV) (by rw [hf3];exact hdl)) (NS (jK 1 [4] [] (eN (l:=[pF f m t {S.X with used:=qt gY S.X.used ⟨tk,1⟩},pI m L (kW gY S.ar ⟨tk,1⟩),pT t S.X.cH S.aI L (del c.aN S.us),pO gY L,pD gY L,pE gY L,.ay cb (aL c) 53]) (v:=(vI 0)) ⟨L,by subst fT;rw [show jW S c=(0,_,c) by unfold jW;rw [iA]];exact⟨rfl,rfl⟩⟩ [1,2,3,0,4,5,6,7]))))
 have bC:(af S.O tk).kind=2:=hI.kind ck
 have hid:=hI.ob _ ck
 have wV:=hI.Vv ck
 have hdl:=hI.Oj ck
 have bX:0<(af S.O tk).aK/\(af S.O tk).aK<=1024:=⟨by have h1:=hI.aK _ ck;have h2:=RN iA;simp only at h1 h2;omega,(hI.LF ck).2⟩
 refine aq.region (jK 1 [] [] (NN (aq.seq (jM [0,1,2,3,4,5,6,7,508,9,10,11,12,513] [0,6] (jG 8 [0,11,15] [(3,a_ 0 f),(7,a_ 1 cb)] (fF.cut (ι:=Unit) (bY:=λ(_:Unit)=>[(0,vP f),(16,.tuple #[.iface 144 (vP (L.b tk)),vI 0])]) (dK:=λ(_:Unit)=>[pT t S.X.cH S.aI L (del c.aN S.us),pF f m t S.X,pI m L S.ar,pO S.O L,pD S.O L,pE S.O L,.ay cb (aL c) 53,.abs R]) [1,6] KB ?_ rfl (λ_=>KB) ?_))))))
 ·exact gE (f:=213) (args:=#[vP t,vI (c.aN)]) (pre:=[pT t S.X.cH S.aI L S.us]) [2] ((by have h:=LD (β:=β) t S.X.cH S.aI (cM L S.us) c.aN hC.hw (iz L ⟨tk,2⟩) (qE iA);rw [←Ou] at h;exact h)) (NL (MD () [0,16] [0,1,2,3,4,5,6,7]))
 rintro _
 refine jG 4 [0,5,18] [] (fF.last KB (jK 1 [6] [] (NL (aB.np (NX (SQ (jK 2 [20] [] (NF (KX (SR (jK 1 [22] [] (gE [] (gq (L.b tk)) (jK 6 [27,29] [(2,v_ 3 (qi L bC)),(3,wJ ((af S.O tk).aK-1) ((af S.O tk).aK-1))] (Be 3 [(5,1),(4,2)] tk 7 (λo=>{o with aK:=o.aK-1}) bC (λgY fT=>?_)))))))))))))))
 have Fj:=ku fT bC
 have Xm:(af gY tk).id=(af S.O tk).id:=fu bM.id fT rfl
 have hf6:(af gY tk).data=(af S.O tk).data:=fu bM.data fT rfl
 refine NS ?_
 have Z4:(af gY tk).aK=(af S.O tk).aK-1:=by grind [fB]
 exact jK 2 [30,31] [] (gE [3,1,2] (yJ S.X f m t hX gY L S.ar hI.fO ⟨tk,2⟩ Fj ahd (by rw [Z4];omega) (λ_=>by rw [Xm,hid.1];exact ck) (by rw [Xm];exact wV) (by rw [hf6];exact hdl)) (NS (jK 1 [4] [] (eN (l:=[pF f m t {S.X with used:=qt gY S.X.used ⟨tk,2⟩},pI m L (kW gY S.ar ⟨tk,2⟩),pT t S.X.cH S.aI L (del c.aN S.us),pO gY L,pD gY L,pE gY L,.ay cb (aL c) 53]) (v:=(vI 0)) ⟨L,by subst fT;rw [show jW S c=(0,_,c) by unfold jW;rw [iA]];exact⟨rfl,rfl⟩⟩ [1,2,3,0,4,5,6,7]))))
end
section
open Go.RowKit Go.Maps bG aF
attribute [local irreducible] av bP aq aB cu
abbrev zi1 (S:bB) (c:aP) (L2:HL):=(pO (aZ S.O (bA S.X) (λ_=>(⟨0,c.mode,0,0,0,0,0,0,false,1,[],⟨#[]⟩,[],none⟩:bM))) L2:HP)
theorem MT {β:Bs} (S:bB) (L:HL) (f m t:Nat) (hI:bT S) (cb:Nat) (c:aP) (hC:kH β c) :
 aX Tryz.prog β 193 #[vP f,vP cb] ((pA f m t L S)++[.ay cb (aL c) 53]) (λv l=>∃L2,v=vI (cY S c).1/\l=((pA f m t L2 ((cY S c).2.1))++[.ay cb (aL ((cY S c).2.2)) 53])):=by
 have hX:=hI.hX
 refine SE Tryz.func193 Tryz.ntmps193 (λR=>aq.seq ?_)
 rcases hI.hand c.aN with iA|⟨tk,iA,ck⟩|⟨tk,iA,ck⟩
 ·exact aq.region (jK 1 [] [] (NN (aq.seq (rQ (jQ 8 [12,16] [(3,a_ 0 f),(7,a_ 6 cb)] (mG [2] [1,2,0,3,4,5,6,7] (.tuple #[.nilIface,vI 131]) (xU t S.X.cH S.aI (cM L S.us) c.aN hC.hw (wG iA)) (jQ 5 [5,6] [] (NQ (NX (SQ (jK 2 [21] [] (NT (zR ⟨L,by rw [show (cY S c)=(131,S,c) by unfold cY;rw [iA]]<;>exact⟨rfl,rfl⟩⟩)))))))))))))
 ·have bC:(af S.O tk).kind=1:=hI.kind ck
  refine aq.region (jK 1 [] [] (NN (aq.seq (rQ (jQ 8 [12,16] [(3,a_ 0 f),(7,a_ 6 cb)] (mG [2] [1,2,0,3,4,5,6,7] (.tuple #[.iface 138 (vP (L.b tk)),vI 0]) (rU t S.X.cH S.aI (cM L S.us) c.aN hC.hw (iz L ⟨tk,1⟩) (qE iA)) (jQ 5 [5,6] [] (NQ (NX (SQ (jK 2 [21] [] (NF (KX (SR (jK 1 [23] [] (gE [] (gq (L.b tk)) (jK 1 [7] [] (NN (aq.seq (aq.block (SR (jK 5 [30] [(3,v_ 3 (uz L bC))] (av.pU 30 (af S.O tk).aH (λ_=>KB) (λnQ=>?_) (λnQ=>?_))))))))))))))))))))))))
  ·refine jK 1 [31] [] (gE [] (tD (vP (L.b tk))) (jK 3 [25] [] (NF (SR (jK 4 [39] [(3,a_ 6 cb)] (gE [] (kN (c.mode) 4095) (jK 2 [35] [] (NN (cN (0<=c.mode/\c.mode<=4095) (λnS=>zR ⟨L,by rw [show (cY S c)=(120,S,c) by unfold cY;rw [iA];exact (ahe (λh=>ahh h.2 (by simp))).trans (ahe nS)]<;>exact⟨rfl,rfl⟩⟩) (λnS=>SR (jK 4 [46] [(3,a_ 6 cb)] (gE [] (kN (c.bg) 2147483647) (jK 2 [49] [] (sN 49 (0<=c.bg/\c.bg<=2147483647) (λy5=>jK 8 [42] [] (NT (zR ⟨L,by rw [show (cY S c)=(11,S,c) by unfold cY;rw [iA];exact (ahe (λh=>ahh h.2 (by simp))).trans ((ahf nS).trans (ahe (λh=>y5 h.1)))]<;>exact⟨rfl,rfl⟩⟩))) (λy5=>jK 4 [53] [(3,a_ 6 cb)] (gE [] (kN (c.bh) 2147483647) (jK 3 [42] [] (NN (cN (0<=c.bh/\c.bh<=2147483647) (λkQ=>zR ⟨L,by rw [show (cY S c)=(11,S,c) by unfold cY;rw [iA];exact (ahe (λh=>ahh h.2 (by simp))).trans ((ahf nS).trans (ahe (λh=>kQ h.2)))]<;>exact⟨rfl,rfl⟩⟩) (λkQ=>SR (jK 4 [61] [(3,A_ 6 cb 2)] (gE [] (nE c.aU c.aJ) (jK 2 [57] [] (NN (cN (gj c.aU c.aJ) (λAk=>zR ⟨L,by rw [show (cY S c)=(20,S,c) by unfold cY;rw [iA];exact (ahe (λh=>ahh h.2 (by simp))).trans ((ahf nS).trans ((ahf ⟨y5,kQ⟩).trans (ahe Ak)))]<;>exact⟨rfl,rfl⟩⟩) (λAk=>KX (aq.seq ?_)))))))))))))))))))))))))))
   skip
   refine aq.mem (eZ:=[.ay f [vI (S.X.cN),vI (S.X.cB),vI (S.X.cH),vI (S.X.cS),vI (S.X.cZ),.map (some m),vP t,vI (S.X.last),vI (S.X.ah),vI (S.X.used)] 135,.abs (bD Tryz.prog 3 m (cQ (cM L S.ar)) S.ar.length),.abs (fD 182 t S.X.cH S.aI (cM L S.us)),.abs (aW (nU (d8 S.O L) tk dV.none)),.abs (aW (dN S.O L)),.abs (aW (fM S.O L)),.ay cb (aL c) 53,.abs R,.ay (L.b tk) [vI ((af S.O tk).id),vI ((af S.O tk).mode),vI ((af S.O tk).bg),vI ((af S.O tk).bh),vI ((af S.O tk).aU),vI ((af S.O tk).aJ),vI ((af S.O tk).aV),vI ((af S.O tk).aK),.bool (af S.O tk).aH,.slice (L.dA tk) ((af S.O tk).data.length) ((L.dC tk))] 140]) (λw hS=>hS.EG (i:=3) (k:=tk) rfl (by rw [bC];decide) (mH (bC)) (by rw [bC];rfl)) (rM (List.range 32) 22 [6] (jR 22 [65,66,67,71,75,79,83,85] [(7,a_ 0 cb),(11,a_ 0 cb),(15,a_ 0 cb),(19,A_ 0 cb 2)] (nC [6] [] [(0,a_ 8 (L.b tk))] [(8,[(1,vI (c.mode))])] (nC [6] [86] [] [] (nC [6] [87] [] [] (nC [6] [] [(0,a_ 8 (L.b tk))] [(8,[(2,vI (c.bg))])] (nC [6] [88] [] [] (nC [6] [89] [] [] (nC [6] [] [(0,a_ 8 (L.b tk))] [(8,[(3,vI (c.bh))])] (nC [6] [90] [] [] (nC [6] [91] [] [] (cu.last rfl rfl (jC 1 [] [(0,A_ 8 (L.b tk) 2)] [(8,[(4,vI (c.aU)),(5,vI (c.aJ))])] (NL (aB.np (NX (SR (av.mem (eZ:=[.abs (aW (d8 (aZ S.O tk (λo=>{o with mode:=c.mode,bg:=c.bg,bh:=c.bh,aU:=c.aU,aJ:=c.aJ})) L)),.ay f [vI (S.X.cN),vI (S.X.cB),vI (S.X.cH),vI (S.X.cS),vI (S.X.cZ),.map (some m),vP t,vI (S.X.last),vI (S.X.ah),vI (S.X.used)] 135,.abs (bD Tryz.prog 3 m (cQ (cM L S.ar)) S.ar.length),.abs (fD 182 t S.X.cH S.aI (cM L S.us)),.abs (aW (dN (aZ S.O tk (λo=>{o with mode:=c.mode,bg:=c.bg,bh:=c.bh,aU:=c.aU,aJ:=c.aJ})) L)),.abs (aW (fM (aZ S.O tk (λo=>{o with mode:=c.mode,bg:=c.bg,bh:=c.bh,aU:=c.aU,aJ:=c.aJ})) L)),.ay cb (aL c) 53,.abs R]) (λw hS=>by have h:=hS.FT (O:=S.O) (L:=L) (i:=3) (j:=8) (ar:=[0,1,2,4,5,6,7]) (k:=tk) (f:=(λo=>{o with mode:=c.mode,bg:=c.bg,bh:=c.bh,aU:=c.aU,aJ:=c.aJ})) rfl (λ_ hx=>vm hx) rfl KB rfl (by show (af S.O tk).kind≠0;rw [bC];decide) ((mH (o:=(λo=>{o with mode:=c.mode,bg:=c.bg,bh:=c.bh,aU:=c.aU,aJ:=c.aJ}) (af S.O tk)) (bC)).trans rfl) (by show sM (af S.O tk).kind=_;rw [bC]<;>rfl);rw [tL (O:=S.O) (k:=tk) (f:=(λo=>{o with mode:=c.mode,bg:=c.bg,bh:=c.bh,aU:=c.aU,aJ:=c.aJ})) rfl rfl,tM (O:=S.O) (k:=tk) (f:=(λo=>{o with mode:=c.mode,bg:=c.bg,bh:=c.bh,aU:=c.aU,aJ:=c.aJ})) rfl rfl];exact h) ?_))))))))))))))))))
   have qc:(af (aZ S.O tk (λo=>{o with mode:=c.mode,bg:=c.bg,bh:=c.bh,aU:=c.aU,aJ:=c.aJ})) tk).kind=1:=(pG (f:=(λo=>{o with mode:=c.mode,bg:=c.bg,bh:=c.bh,aU:=c.aU,aJ:=c.aJ})) (λ_=>rfl)).trans (bC)
   generalize fT:(aZ S.O tk (λo=>{o with mode:=c.mode,bg:=c.bg,bh:=c.bh,aU:=c.aU,aJ:=c.aJ}))=gY at qc ⊢
   exact jK 1 [4] [] (eN ⟨L,by subst fT;rw [show (cY S c)=(0,{S with O:=aZ S.O tk (λo=>{o with mode:=c.mode,bg:=c.bg,bh:=c.bh,aU:=c.aU,aJ:=c.aJ})},c) by unfold cY;rw [iA];exact (ahe (λh=>ahh h.2 (by simp))).trans ((ahf nS).trans ((ahf ⟨y5,kQ⟩).trans (ahf Ak)))]<;>exact⟨rfl,rfl⟩⟩ [1,2,3,0,4,5,6,7])
  refine jK 5 [25] [] (NF (SR (jK 4 [39] [(3,a_ 6 cb)] (gE [] (kN (c.mode) 4095) (jK 2 [35] [] (NN (cN (0<=c.mode/\c.mode<=4095) (λnS=>zR ⟨L,by rw [show (cY S c)=(120,S,c) by unfold cY;rw [iA];exact (ahe (λh=>ahh h.2 (by simp))).trans (ahe nS)]<;>exact⟨rfl,rfl⟩⟩) (λnS=>SR (jK 4 [46] [(3,a_ 6 cb)] (gE [] (kN (c.bg) 2147483647) (jK 2 [49] [] (sN 49 (0<=c.bg/\c.bg<=2147483647) (λy5=>jK 8 [42] [] (NT (zR ⟨L,by rw [show (cY S c)=(11,S,c) by unfold cY;rw [iA];exact (ahe (λh=>ahh h.2 (by simp))).trans ((ahf nS).trans (ahe (λh=>y5 h.1)))]<;>exact⟨rfl,rfl⟩⟩))) (λy5=>jK 4 [53] [(3,a_ 6 cb)] (gE [] (kN (c.bh) 2147483647) (jK 3 [42] [] (NN (cN (0<=c.bh/\c.bh<=2147483647) (λkQ=>zR ⟨L,by rw [show (cY S c)=(11,S,c) by unfold cY;rw [iA];exact (ahe (λh=>ahh h.2 (by simp))).trans ((ahf nS).trans (ahe (λh=>kQ h.2)))]<;>exact⟨rfl,rfl⟩⟩) (λkQ=>SR (jK 4 [61] [(3,A_ 6 cb 2)] (gE [] (nE c.aU c.aJ) (jK 2 [57] [] (NN (cN (gj c.aU c.aJ) (λAk=>zR ⟨L,by rw [show (cY S c)=(20,S,c) by unfold cY;rw [iA];exact (ahe (λh=>ahh h.2 (by simp))).trans ((ahf nS).trans ((ahf ⟨y5,kQ⟩).trans (ahe Ak)))]<;>exact⟨rfl,rfl⟩⟩) (λAk=>KX (aq.seq ?_)))))))))))))))))))))))))
  skip
  refine aq.mem (eZ:=[.ay f [vI (S.X.cN),vI (S.X.cB),vI (S.X.cH),vI (S.X.cS),vI (S.X.cZ),.map (some m),vP t,vI (S.X.last),vI (S.X.ah),vI (S.X.used)] 135,.abs (bD Tryz.prog 3 m (cQ (cM L S.ar)) S.ar.length),.abs (fD 182 t S.X.cH S.aI (cM L S.us)),.abs (aW (nU (d8 S.O L) tk dV.none)),.abs (aW (dN S.O L)),.abs (aW (fM S.O L)),.ay cb (aL c) 53,.abs R,.ay (L.b tk) [vI ((af S.O tk).id),vI ((af S.O tk).mode),vI ((af S.O tk).bg),vI ((af S.O tk).bh),vI ((af S.O tk).aU),vI ((af S.O tk).aJ),vI ((af S.O tk).aV),vI ((af S.O tk).aK),.bool (af S.O tk).aH,.slice (L.dA tk) ((af S.O tk).data.length) ((L.dC tk))] 140]) (λw hS=>hS.EG (i:=3) (k:=tk) rfl (by rw [bC];decide) (mH (bC)) (by rw [bC];rfl)) (rM (List.range 32) 22 [6] (jR 22 [65,66,67,71,75,79,83,85] [(7,a_ 0 cb),(11,a_ 0 cb),(15,a_ 0 cb),(19,A_ 0 cb 2)] (nC [6] [] [(0,a_ 8 (L.b tk))] [(8,[(1,vI (c.mode))])] (nC [6] [86] [] [] (nC [6] [87] [] [] (nC [6] [] [(0,a_ 8 (L.b tk))] [(8,[(2,vI (c.bg))])] (nC [6] [88] [] [] (nC [6] [89] [] [] (nC [6] [] [(0,a_ 8 (L.b tk))] [(8,[(3,vI (c.bh))])] (nC [6] [90] [] [] (nC [6] [91] [] [] (cu.last rfl rfl (jC 1 [] [(0,A_ 8 (L.b tk) 2)] [(8,[(4,vI (c.aU)),(5,vI (c.aJ))])] (NL (aB.np (NX (SR (av.mem (eZ:=[.abs (aW (d8 (aZ S.O tk (λo=>{o with mode:=c.mode,bg:=c.bg,bh:=c.bh,aU:=c.aU,aJ:=c.aJ})) L)),.ay f [vI (S.X.cN),vI (S.X.cB),vI (S.X.cH),vI (S.X.cS),vI (S.X.cZ),.map (some m),vP t,vI (S.X.last),vI (S.X.ah),vI (S.X.used)] 135,.abs (bD Tryz.prog 3 m (cQ (cM L S.ar)) S.ar.length),.abs (fD 182 t S.X.cH S.aI (cM L S.us)),.abs (aW (dN (aZ S.O tk (λo=>{o with mode:=c.mode,bg:=c.bg,bh:=c.bh,aU:=c.aU,aJ:=c.aJ})) L)),.abs (aW (fM (aZ S.O tk (λo=>{o with mode:=c.mode,bg:=c.bg,bh:=c.bh,aU:=c.aU,aJ:=c.aJ})) L)),.ay cb (aL c) 53,.abs R]) (λw hS=>by have h:=hS.FT (O:=S.O) (L:=L) (i:=3) (j:=8) (ar:=[0,1,2,4,5,6,7]) (k:=tk) (f:=(λo=>{o with mode:=c.mode,bg:=c.bg,bh:=c.bh,aU:=c.aU,aJ:=c.aJ})) rfl (λ_ hx=>vm hx) rfl KB rfl (by show (af S.O tk).kind≠0;rw [bC];decide) ((mH (o:=(λo=>{o with mode:=c.mode,bg:=c.bg,bh:=c.bh,aU:=c.aU,aJ:=c.aJ}) (af S.O tk)) (bC)).trans rfl) (by show sM (af S.O tk).kind=_;rw [bC]<;>rfl);rw [tL (O:=S.O) (k:=tk) (f:=(λo=>{o with mode:=c.mode,bg:=c.bg,bh:=c.bh,aU:=c.aU,aJ:=c.aJ})) rfl rfl,tM (O:=S.O) (k:=tk) (f:=(λo=>{o with mode:=c.mode,bg:=c.bg,bh:=c.bh,aU:=c.aU,aJ:=c.aJ})) rfl rfl];exact h) ?_))))))))))))))))))
  have tF:(af (aZ S.O tk (λo=>{o with mode:=c.mode,bg:=c.bg,bh:=c.bh,aU:=c.aU,aJ:=c.aJ})) tk).kind=1:=(pG (f:=(λo=>{o with mode:=c.mode,bg:=c.bg,bh:=c.bh,aU:=c.aU,aJ:=c.aJ})) (λ_=>rfl)).trans (bC)
  generalize fT:(aZ S.O tk (λo=>{o with mode:=c.mode,bg:=c.bg,bh:=c.bh,aU:=c.aU,aJ:=c.aJ}))=gY at tF ⊢
  exact jK 1 [4] [] (eN ⟨L,by subst fT;rw [show (cY S c)=(0,{S with O:=aZ S.O tk (λo=>{o with mode:=c.mode,bg:=c.bg,bh:=c.bh,aU:=c.aU,aJ:=c.aJ})},c) by unfold cY;rw [iA];exact (ahe (λh=>ahh h.2 (by simp))).trans ((ahf nS).trans ((ahf ⟨y5,kQ⟩).trans (ahf Ak)))]<;>exact⟨rfl,rfl⟩⟩ [1,2,3,0,4,5,6,7])
 have bC:(af S.O tk).kind=2:=hI.kind ck
 refine aq.region (jK 1 [] [] (NN (aq.seq (rQ (jQ 8 [12,16] [(3,a_ 0 f),(7,a_ 6 cb)] (mG [2] [1,2,0,3,4,5,6,7] (.tuple #[.iface 144 (vP (L.b tk)),vI 0]) (rU t S.X.cH S.aI (cM L S.us) c.aN hC.hw (iz L ⟨tk,2⟩) (qE iA)) (jQ 5 [5,6] [] (NQ (NX (SQ (jK 2 [21] [] (NF (KX (SR (jK 1 [23] [] (gE [] (gq (L.b tk)) (jK 1 [7] [] (NN (aq.seq (aq.block (SR (jK 5 [30] [(3,v_ 3 (uz L bC))] (av.pU 30 (af S.O tk).aH (λ_=>KB) (λnQ=>jK 1 [31] [] (gE [] (tE (vP (L.b tk))) (jK 3 [25] [] (NT (zR ⟨L,by rw [show (cY S c)=(170,S,c) by grind [cY]]<;>exact⟨rfl,rfl⟩⟩))))) (λnQ=>jK 5 [25] [] (NF (SR (jK 4 [39] [(3,a_ 6 cb)] (gE [] (kN (c.mode) 4095) (jK 2 [35] [] (NN (cN (0<=c.mode/\c.mode<=4095) (λnS=>zR ⟨L,by rw [show (cY S c)=(120,S,c) by unfold cY;rw [iA];exact (ahe (λh=>ahh h.1 (by rw [nQ];decide))).trans (ahe nS)]<;>exact⟨rfl,rfl⟩⟩) (λnS=>SR (jK 4 [46] [(3,a_ 6 cb)] (gE [] (kN (c.bg) 2147483647) (jK 2 [49] [] (sN 49 (0<=c.bg/\c.bg<=2147483647) (λy5=>jK 8 [42] [] (NT (zR ⟨L,by rw [show (cY S c)=(11,S,c) by unfold cY;rw [iA];exact (ahe (λh=>ahh h.1 (by rw [nQ];decide))).trans ((ahf nS).trans (ahe (λh=>y5 h.1)))]<;>exact⟨rfl,rfl⟩⟩))) (λy5=>jK 4 [53] [(3,a_ 6 cb)] (gE [] (kN (c.bh) 2147483647) (jK 3 [42] [] (NN (cN (0<=c.bh/\c.bh<=2147483647) (λkQ=>zR ⟨L,by rw [show (cY S c)=(11,S,c) by unfold cY;rw [iA];exact (ahe (λh=>ahh h.1 (by rw [nQ];decide))).trans ((ahf nS).trans (ahe (λh=>kQ h.2)))]<;>exact⟨rfl,rfl⟩⟩) (λkQ=>SR (jK 4 [61] [(3,A_ 6 cb 2)] (gE [] (nE c.aU c.aJ) (jK 2 [57] [] (NN (cN (gj c.aU c.aJ) (λAk=>zR ⟨L,by rw [show (cY S c)=(20,S,c) by unfold cY;rw [iA];exact (ahe (λh=>ahh h.1 (by rw [nQ];decide))).trans ((ahf nS).trans ((ahf ⟨y5,kQ⟩).trans (ahe Ak)))]<;>exact⟨rfl,rfl⟩⟩) (λAk=>KX (aq.seq ?_)))))))))))))))))))))))))))))))))))))))))))))))))
 skip
 refine aq.mem (eZ:=[.ay f [vI (S.X.cN),vI (S.X.cB),vI (S.X.cH),vI (S.X.cS),vI (S.X.cZ),.map (some m),vP t,vI (S.X.last),vI (S.X.ah),vI (S.X.used)] 135,.abs (bD Tryz.prog 3 m (cQ (cM L S.ar)) S.ar.length),.abs (fD 182 t S.X.cH S.aI (cM L S.us)),.abs (aW (nU (d8 S.O L) tk dV.none)),.abs (aW (dN S.O L)),.abs (aW (fM S.O L)),.ay cb (aL c) 53,.abs R,.ay (L.b tk) [vI ((af S.O tk).id),vI ((af S.O tk).mode),vI ((af S.O tk).bg),vI ((af S.O tk).bh),vI ((af S.O tk).aU),vI ((af S.O tk).aJ),vI ((af S.O tk).aV),vI ((af S.O tk).aK),.bool (af S.O tk).aH,.map (some (L.m tk)),(I5 L (af S.O tk).up)] 147]) (λw hS=>hS.EG (i:=3) (k:=tk) rfl (by rw [bC];decide) (rO (bC)) (by rw [bC];rfl)) (rM (List.range 32) 22 [6] (jR 22 [65,66,67,71,75,79,83,85] [(7,a_ 0 cb),(11,a_ 0 cb),(15,a_ 0 cb),(19,A_ 0 cb 2)] (nC [6] [] [(0,a_ 8 (L.b tk))] [(8,[(1,vI (c.mode))])] (nC [6] [86] [] [] (nC [6] [87] [] [] (nC [6] [] [(0,a_ 8 (L.b tk))] [(8,[(2,vI (c.bg))])] (nC [6] [88] [] [] (nC [6] [89] [] [] (nC [6] [] [(0,a_ 8 (L.b tk))] [(8,[(3,vI (c.bh))])] (nC [6] [90] [] [] (nC [6] [91] [] [] (cu.last rfl rfl (jC 1 [] [(0,A_ 8 (L.b tk) 2)] [(8,[(4,vI (c.aU)),(5,vI (c.aJ))])] (NL (aB.np (NX (SR (av.mem (eZ:=[.abs (aW (d8 (aZ S.O tk (λo=>{o with mode:=c.mode,bg:=c.bg,bh:=c.bh,aU:=c.aU,aJ:=c.aJ})) L)),.ay f [vI (S.X.cN),vI (S.X.cB),vI (S.X.cH),vI (S.X.cS),vI (S.X.cZ),.map (some m),vP t,vI (S.X.last),vI (S.X.ah),vI (S.X.used)] 135,.abs (bD Tryz.prog 3 m (cQ (cM L S.ar)) S.ar.length),.abs (fD 182 t S.X.cH S.aI (cM L S.us)),.abs (aW (dN (aZ S.O tk (λo=>{o with mode:=c.mode,bg:=c.bg,bh:=c.bh,aU:=c.aU,aJ:=c.aJ})) L)),.abs (aW (fM (aZ S.O tk (λo=>{o with mode:=c.mode,bg:=c.bg,bh:=c.bh,aU:=c.aU,aJ:=c.aJ})) L)),.ay cb (aL c) 53,.abs R]) (λw hS=>by have h:=hS.FT (O:=S.O) (L:=L) (i:=3) (j:=8) (ar:=[0,1,2,4,5,6,7]) (k:=tk) (f:=(λo=>{o with mode:=c.mode,bg:=c.bg,bh:=c.bh,aU:=c.aU,aJ:=c.aJ})) rfl (λ_ hx=>vm hx) rfl KB rfl (by show (af S.O tk).kind≠0;rw [bC];decide) ((rO (o:=(λo=>{o with mode:=c.mode,bg:=c.bg,bh:=c.bh,aU:=c.aU,aJ:=c.aJ}) (af S.O tk)) (bC)).trans rfl) (by show sM (af S.O tk).kind=_;rw [bC]<;>rfl);rw [tL (O:=S.O) (k:=tk) (f:=(λo=>{o with mode:=c.mode,bg:=c.bg,bh:=c.bh,aU:=c.aU,aJ:=c.aJ})) rfl rfl,tM (O:=S.O) (k:=tk) (f:=(λo=>{o with mode:=c.mode,bg:=c.bg,bh:=c.bh,aU:=c.aU,aJ:=c.aJ})) rfl rfl];exact h) ?_))))))))))))))))))
 have K7:(af (aZ S.O tk (λo=>{o with mode:=c.mode,bg:=c.bg,bh:=c.bh,aU:=c.aU,aJ:=c.aJ})) tk).kind=2:=(pG (f:=(λo=>{o with mode:=c.mode,bg:=c.bg,bh:=c.bh,aU:=c.aU,aJ:=c.aJ})) (λ_=>rfl)).trans (bC)
 generalize fT:(aZ S.O tk (λo=>{o with mode:=c.mode,bg:=c.bg,bh:=c.bh,aU:=c.aU,aJ:=c.aJ}))=gY at K7 ⊢
 exact jK 1 [4] [] (eN ⟨L,by subst fT;rw [show (cY S c)=(0,{S with O:=aZ S.O tk (λo=>{o with mode:=c.mode,bg:=c.bg,bh:=c.bh,aU:=c.aU,aJ:=c.aJ})},c) by unfold cY;rw [iA];exact (ahe (λh=>ahh h.1 (by rw [nQ];decide))).trans ((ahf nS).trans ((ahf ⟨y5,kQ⟩).trans (ahf Ak)))]<;>exact⟨rfl,rfl⟩⟩ [1,2,3,0,4,5,6,7])
theorem P8 {β:Bs} (S:bB) (L:HL) (f m t:Nat) (hI:bT S) (cb:Nat) (c:aP) (hC:kH β c) :
 aX Tryz.prog β 188 #[vP f,vP cb] ((pA f m t L S)++[.ay cb (aL c) 53]) (λv l=>∃L2,v=vI (fq S c).1/\l=((pA f m t L2 ((fq S c).2.1))++[.ay cb (aL ((fq S c).2.2)) 53])):=by
 have hX:=hI.hX
 refine SE Tryz.func188 Tryz.ntmps188 (λR=>SR (jK 1 [] [] (NN (aq.seq (rQ (jQ 9 [10,14,18] [(4,a_ 6 cb),(8,a_ 6 cb)] ?_))))))
 rcases kI hI.toInv0 c.aN c.name 192 with ⟨e,ef,bV⟩|⟨d,ef,hd,lS,j6,iA⟩
 ·exact mG [0,2,3] [0,3,1,2,4,5,6,7] (.tuple #[.pointer none,vI (e)]) ((by have h:=jj S L f m t hI c.aN hC.hw c.name hC.nm 192 (β:=β);rw [ef] at h;exact h)) (jQ 5 [5,6] [] (NQ (NX (SQ (jK 2 [23] [] (NN (cN ((e:Int)=(0:Int)) (λh23=>zR (v:=(vI (e))) ⟨L,by rw [show (fq S c)=(e,S,c) by unfold fq;rw [ef]]<;>exact⟨rfl,rfl⟩⟩) (λh23=>ahh h23 bV))))))))
 have dU:(af S.O d).kind=2:=hI.kind hd
 refine mG [0,2,3] [0,3,1,2,4,5,6,7] (.tuple #[vP (L.b d),vI 0]) ((by have h:=jj S L f m t hI c.aN hC.hw c.name hC.nm 192 (β:=β);rw [ef] at h;exact h)) (jQ 5 [5,6] [] (NQ (NX (SQ (jK 2 [23] [] (NF (KX (SQ (jK 4 [28] [(3,a_ 6 cb)] (gE [] (kN (c.mode) 4095) (jK 1 [30] [] (NN (cN (0<=c.mode/\c.mode<=4095) (λnQ=>zR (v:=(vI 120)) ⟨L,by rw [show (fq S c)=(120,S,c) by unfold fq;rw [ef];exact ahe nQ]<;>exact⟨rfl,rfl⟩⟩) (λnQ=>KX (SQ (jK 6 [31,32,36] [(5,a_ 6 cb)] (gE [0,1,5,3] (Cm S L f m t hI d hd c.name hC.nm) (jK 1 [6] [] (NS (jK 2 [39] [] (NN (cN (((gy S.X S.O S.ar d c.name):Int)=(0:Int)) (λh0=>zR (v:=(vI ((gy S.X S.O S.ar d c.name)))) ⟨L,by rw [show (fq S c)=(gy S.X S.O S.ar d c.name,S,c) by unfold fq;rw [ef];exact (ahf nQ).trans (ahe h0)]<;>exact⟨rfl,rfl⟩⟩ [0,1,4,3,5,2,6,7]) (λh0=>?_)))))))))))))))))))))))
 have iU:=vo h0
 refine KX (SR (jN 8 [7] (λb4=>[(3,a_ 6 cb)]) (λ_=>[]) (λb4=>.ay b4 [vI 0,vI (c.mode),vI 0,vI 0,vI 0,vI 0,vI 0,vI 0,.bool false,.slice none (0) (0)] 140) (λb4=>NN (aq.seq (aq.seq ?_)))))
 rcases Int.lt_or_le (S.us.length:Int) S.X.cH with GY|GY
 ·refine aq.region (jK 4 [49,50,52] [] ?_)
  obtain⟨L2,fX⟩:∃L2:HL,L2=L.put (bA S.X) b4 0 none 0:=⟨_,rfl⟩
  have hfr:=hI.toInv0.fresh
  refine av.mem (λw hS=>hS.BA fX hfr (o:=(⟨0,c.mode,0,0,0,0,0,0,false,1,[],⟨#[]⟩,[],none⟩:bM)) (i:=3) (j:=8) (ix:=[0,1,2,4,5,6,7]) rfl rfl KB rfl (by show (1:Int)≠0;decide) ((mH (L:=L2) (k:=(bA S.X)) (o:=(⟨0,c.mode,0,0,0,0,0,0,false,1,[],⟨#[]⟩,[],none⟩:bM)) rfl).trans (by rw [show L2.dA (bA S.X)=none by rw [fX];exact ahf rfl,show L2.dC (bA S.X)=0 by rw [fX];exact ahf rfl];rfl)) rfl) (av.gH [(3,pE (aZ S.O (bA S.X) (λ_=>(⟨0,c.mode,0,0,0,0,0,0,false,1,[],⟨#[]⟩,[],none⟩:bM))) L2)] (λw hS=>hS.CR fX hfr (o:=(⟨0,c.mode,0,0,0,0,0,0,false,1,[],⟨#[]⟩,[],none⟩:bM)) (i:=3) rfl (by show (1:Int)≠2;decide)) (av.mem (λw hS=>hS.mF (e:=5) (size:=1)) (av.mem (λw hS=>hS.Tl fX (o:=(⟨0,c.mode,0,0,0,0,0,0,false,1,[],⟨#[]⟩,[],none⟩:bM)) (i:=5) (j:=8) (ix:=[0,1,2,3,4,6,7]) rfl rfl KB rfl rfl rfl) (av.gH [(3,.abs (bD Tryz.prog 3 m (cQ (cM L2 S.ar)) S.ar.length)),(5,.abs (fD 182 t S.X.cH S.aI (cM L2 S.us)))] (λw hS=>by rw [lX fX hfr.ar,lX fX hfr.us];exact hS) (gE (f:=199) (args:=#[vP f,.iface 138 (vP b4)]) (pre:=[pF f m t S.X,pT t S.X.cH S.aI L2 S.us,zi1 S c L2]) [2,5,1] ((by have h:=Bg (β:=β) {S with O:=(aZ S.O (bA S.X) (λ_=>(⟨0,c.mode,0,0,0,0,0,0,false,1,[],⟨#[]⟩,[],none⟩:bM)))} L2 f m t ⟨(bA S.X),1⟩ (by show (af (aZ S.O (bA S.X) (λ_=>(⟨0,c.mode,0,0,0,0,0,0,false,1,[],⟨#[]⟩,[],none⟩:bM))) (bA S.X)).kind=1;rw [fB]) ahd (by show 0<=(af (aZ S.O (bA S.X) (λ_=>(⟨0,c.mode,0,0,0,0,0,0,false,1,[],⟨#[]⟩,[],none⟩:bM))) (bA S.X)).aK/\(af (aZ S.O (bA S.X) (λ_=>(⟨0,c.mode,0,0,0,0,0,0,false,1,[],⟨#[]⟩,[],none⟩:bM))) (bA S.X)).aK<=1048576;rw [fB];exact⟨Int.le_refl _,by show (0:Int)<=1048576;decide⟩);rw [vn fX,ox (S:={S with O:=(aZ S.O (bA S.X) (λ_=>(⟨0,c.mode,0,0,0,0,0,0,false,1,[],⟨#[]⟩,[],none⟩:bM)))}) (t:=⟨(bA S.X),1⟩) GY] at h;exact h)) (jC 7 [6] [(5,a_ 6 cb)] [(6,[(12,vI ((aF.aS S.us)))])] (NS (jK 2 [59] [] (NF (KX (SR (sl 7 (vP b4) (vP (L2.b (bA S.X))) (by rw [Jb fX]) (av.gH [(3,.abs (aW (dN (aZ (aZ S.O (bA S.X) (λ_=>(⟨0,c.mode,0,0,0,0,0,0,false,1,[],⟨#[]⟩,[],none⟩:bM))) (bA S.X) (λo=>{o with aK:=o.aK+1})) L2))),(5,.abs (aW (fM (aZ (aZ S.O (bA S.X) (λ_=>(⟨0,c.mode,0,0,0,0,0,0,false,1,[],⟨#[]⟩,[],none⟩:bM))) (bA S.X) (λo=>{o with aK:=o.aK+1})) L2)))] (λw hS=>by rw [tL (O:=(aZ S.O (bA S.X) (λ_=>(⟨0,c.mode,0,0,0,0,0,0,false,1,[],⟨#[]⟩,[],none⟩:bM)))) (k:=(bA S.X)) (f:=(λo=>{o with aK:=o.aK+1})) rfl rfl,tM (O:=(aZ S.O (bA S.X) (λ_=>(⟨0,c.mode,0,0,0,0,0,0,false,1,[],⟨#[]⟩,[],none⟩:bM)))) (k:=(bA S.X)) (f:=(λo=>{o with aK:=o.aK+1})) rfl rfl];exact hS) ?_)))))))))))))
  have hkN:(af (aZ (aZ S.O (bA S.X) (λ_=>(⟨0,c.mode,0,0,0,0,0,0,false,1,[],⟨#[]⟩,[],none⟩:bM))) (bA S.X) (λo=>{o with aK:=o.aK+1})) (bA S.X)).kind=1:=by rw [fB,fB]
  have hoN:(af (aZ (aZ S.O (bA S.X) (λ_=>(⟨0,c.mode,0,0,0,0,0,0,false,1,[],⟨#[]⟩,[],none⟩:bM))) (bA S.X) (λo=>{o with aK:=o.aK+1})) (bA S.X)).aK=1:=by rw [fB,fB];rfl
  generalize fT:(aZ (aZ S.O (bA S.X) (λ_=>(⟨0,c.mode,0,0,0,0,0,0,false,1,[],⟨#[]⟩,[],none⟩:bM))) (bA S.X) (λo=>{o with aK:=o.aK+1}))=gY at hkN hoN ⊢
  refine jK 6 [8] [(4,v_ 2 (qi L2 hkN))] (NS (jK 6 [66,67,71] [(5,a_ 6 cb)] (gE [0] (Cl S.X f m t hX c.mode) (jK 2 [74] [] (av.mem (λw hS=>hS.EG (i:=2) (k:=(bA S.X)) rfl (by rw [hkN];decide) (mH (hkN)) (ahg sM (hkN))) (jC 1 [] [(0,A_ 8 (L2.b (bA S.X)) 9)] [(8,[(0,vI (S.X.last+1)),(1,vI (c.mode)),(2,vI 0),(3,vI 0),(4,vI (S.X.cS)),(5,vI (S.X.cZ)),(6,vI 0),(7,vI 0),(8,.bool false)])] (av.mem (eZ:=[.abs (aW (d8 (aZ gY (bA S.X) (λo=>{o with id:=S.X.last+1,mode:=c.mode,bg:=0,bh:=0,aU:=S.X.cS,aJ:=S.X.cZ,aV:=0,aK:=0,aH:=false})) L2)),.ay f [vI (S.X.cN),vI (S.X.cB),vI (S.X.cH),vI (S.X.cS),vI (S.X.cZ),.map (some m),vP t,vI (S.X.last+1),vI (S.X.ah),vI (S.X.used)] 135,.abs (fD 182 t S.X.cH (max S.aI ((S.us.length:Int)+1)) (cM L2 (ins (aF.aS S.us) ⟨(bA S.X),1⟩ S.us))),.abs (aW (dN (aZ gY (bA S.X) (λo=>{o with id:=S.X.last+1,mode:=c.mode,bg:=0,bh:=0,aU:=S.X.cS,aJ:=S.X.cZ,aV:=0,aK:=0,aH:=false})) L2)),.abs (bD Tryz.prog 3 m (cQ (cM L2 S.ar)) S.ar.length),.abs (aW (fM (aZ gY (bA S.X) (λo=>{o with id:=S.X.last+1,mode:=c.mode,bg:=0,bh:=0,aU:=S.X.cS,aJ:=S.X.cZ,aV:=0,aK:=0,aH:=false})) L2)),.ay cb (aL {c with answer:=aF.aS S.us}) 53,.abs R]) (λw hS=>by have h:=hS.FT (O:=gY) (L:=L2) (i:=2) (j:=8) (ar:=[0,1,3,4,5,6,7]) (k:=(bA S.X)) (f:=(λo=>{o with id:=S.X.last+1,mode:=c.mode,bg:=0,bh:=0,aU:=S.X.cS,aJ:=S.X.cZ,aV:=0,aK:=0,aH:=false})) rfl (λ_ hx=>vm hx) rfl KB rfl (by show (af gY (bA S.X)).kind≠0;rw [hkN];decide) ((mH (o:=(λo=>{o with id:=S.X.last+1,mode:=c.mode,bg:=0,bh:=0,aU:=S.X.cS,aJ:=S.X.cZ,aV:=0,aK:=0,aH:=false}) (af gY (bA S.X))) (hkN)).trans rfl) (by show sM (af gY (bA S.X)).kind=_;rw [hkN]<;>rfl);rw [tL (O:=gY) (k:=(bA S.X)) (f:=(λo=>{o with id:=S.X.last+1,mode:=c.mode,bg:=0,bh:=0,aU:=S.X.cS,aJ:=S.X.cZ,aV:=0,aK:=0,aH:=false})) rfl rfl,tM (O:=gY) (k:=(bA S.X)) (f:=(λo=>{o with id:=S.X.last+1,mode:=c.mode,bg:=0,bh:=0,aU:=S.X.cS,aJ:=S.X.cZ,aV:=0,aK:=0,aH:=false})) rfl rfl];exact h) ?_)))))))
  have Fk:(af (aZ gY (bA S.X) (λo=>{o with id:=S.X.last+1,mode:=c.mode,bg:=0,bh:=0,aU:=S.X.cS,aJ:=S.X.cZ,aV:=0,aK:=0,aH:=false})) (bA S.X)).kind=1:=(pG (f:=(λo=>{o with id:=S.X.last+1,mode:=c.mode,bg:=0,bh:=0,aU:=S.X.cS,aJ:=S.X.cZ,aV:=0,aK:=0,aH:=false})) (λ_=>rfl)).trans (hkN)
  generalize gD:(aZ gY (bA S.X) (λo=>{o with id:=S.X.last+1,mode:=c.mode,bg:=0,bh:=0,aU:=S.X.cS,aJ:=S.X.cZ,aV:=0,aK:=0,aH:=false}))=jO at Fk ⊢
  refine NS (jK 5 [76,79] [] (Be 0 [(5,1),(3,2)] (bA S.X) 7 (λo=>{o with aK:=(af gY (bA S.X)).aK}) Fk (λC3 sO=>?_)))
  have ZY:=ku sO Fk
  refine NS ?_
  have hfin:C3=aZ S.O (bA S.X) (λ_=>{cU S.X 1 c.mode with aK:=1}):=by subst sO;subst gD;rw [hoN];subst fT;simp only [Bv];rfl
  subst hfin
  exact jK 8 [80,81,85,87] [(5,a_ 6 cb)] (gE (f:=205) (args:=#[vP f,vP (L.b d),.string c.name,.iface 138 (vP (L2.b (bA S.X)))]) (pre:=[pF f m t {S.X with last:=S.X.last+1},pI m L2 S.ar,pO (aZ S.O (bA S.X) (λ_=>{cU S.X 1 c.mode with aK:=1})) L2,pE (aZ S.O (bA S.X) (λ_=>{cU S.X 1 c.mode with aK:=1})) L2]) [1,4,0,5] ((by have h:=zx (β:=β) S L2 f m t hI.toInv0 d hd c.name hC.nm iU {cU S.X 1 c.mode with aK:=1} rfl (by simp [cU]) rfl (xw h0);rw [Dq fX (hI.CQ hd)] at h;exact h)) (NS (av.gH [(5,.abs (aW (dN ((gu S d c.name {cU S.X 1 c.mode with aK:=1}).O) L2)))] (λw hS=>by rw [show dN ((gu S d c.name {cU S.X 1 c.mode with aK:=1}).O) L2=dN (aZ S.O (bA S.X) (λ_=>{cU S.X 1 c.mode with aK:=1})) L2 from mK];exact hS) (jK 1 [4] [] (eN (v:=(vI 0)) ⟨L2,by rw [show (fq S c)=(0,(gu {S with us:=(ins (aF.aS S.us) ⟨(bA S.X),1⟩ S.us),aI:=(max S.aI ((S.us.length:Int)+1))} d c.name {cU S.X 1 c.mode with aK:=1}),{c with answer:=aF.aS S.us}) by unfold fq;rw [ef];exact (ahf nQ).trans ((ahf h0).trans (by grind [oH,gu,ins,bA,cU]))]<;>exact⟨rfl,rfl⟩⟩ [0,1,4,2,5,3,6,7])))))
 refine aq.region (jK 4 [49,50,52] [] ?_)
 obtain⟨L2,fX⟩:∃L2:HL,L2=L.put (bA S.X) b4 0 none 0:=⟨_,rfl⟩
 have hfr:=hI.toInv0.fresh
 refine av.mem (λw hS=>hS.BA fX hfr (o:=(⟨0,c.mode,0,0,0,0,0,0,false,1,[],⟨#[]⟩,[],none⟩:bM)) (i:=3) (j:=8) (ix:=[0,1,2,4,5,6,7]) rfl rfl KB rfl (by show (1:Int)≠0;decide) ((mH (L:=L2) (k:=(bA S.X)) (o:=(⟨0,c.mode,0,0,0,0,0,0,false,1,[],⟨#[]⟩,[],none⟩:bM)) rfl).trans (by rw [show L2.dA (bA S.X)=none by rw [fX];exact ahf rfl,show L2.dC (bA S.X)=0 by rw [fX];exact ahf rfl];rfl)) rfl) (av.gH [(3,pE (aZ S.O (bA S.X) (λ_=>(⟨0,c.mode,0,0,0,0,0,0,false,1,[],⟨#[]⟩,[],none⟩:bM))) L2)] (λw hS=>hS.CR fX hfr (o:=(⟨0,c.mode,0,0,0,0,0,0,false,1,[],⟨#[]⟩,[],none⟩:bM)) (i:=3) rfl (by show (1:Int)≠2;decide)) (av.mem (λw hS=>hS.mF (e:=5) (size:=1)) (av.mem (λw hS=>hS.Tl fX (o:=(⟨0,c.mode,0,0,0,0,0,0,false,1,[],⟨#[]⟩,[],none⟩:bM)) (i:=5) (j:=8) (ix:=[0,1,2,3,4,6,7]) rfl rfl KB rfl rfl rfl) (av.gH [(3,.abs (bD Tryz.prog 3 m (cQ (cM L2 S.ar)) S.ar.length)),(5,.abs (fD 182 t S.X.cH S.aI (cM L2 S.us)))] (λw hS=>by rw [lX fX hfr.ar,lX fX hfr.us];exact hS) (gE (f:=199) (args:=#[vP f,.iface 138 (vP b4)]) (pre:=[pF f m t S.X,pT t S.X.cH S.aI L2 S.us,zi1 S c L2]) [2,5,1] ((by have h:=Bg (β:=β) {S with O:=(aZ S.O (bA S.X) (λ_=>(⟨0,c.mode,0,0,0,0,0,0,false,1,[],⟨#[]⟩,[],none⟩:bM)))} L2 f m t ⟨(bA S.X),1⟩ (by show (af (aZ S.O (bA S.X) (λ_=>(⟨0,c.mode,0,0,0,0,0,0,false,1,[],⟨#[]⟩,[],none⟩:bM))) (bA S.X)).kind=1;rw [fB]) ahd (by show 0<=(af (aZ S.O (bA S.X) (λ_=>(⟨0,c.mode,0,0,0,0,0,0,false,1,[],⟨#[]⟩,[],none⟩:bM))) (bA S.X)).aK/\(af (aZ S.O (bA S.X) (λ_=>(⟨0,c.mode,0,0,0,0,0,0,false,1,[],⟨#[]⟩,[],none⟩:bM))) (bA S.X)).aK<=1048576;rw [fB];exact⟨Int.le_refl _,by show (0:Int)<=1048576;decide⟩);rw [vn fX,oZ (S:={S with O:=(aZ S.O (bA S.X) (λ_=>(⟨0,c.mode,0,0,0,0,0,0,false,1,[],⟨#[]⟩,[],none⟩:bM)))}) (t:=⟨(bA S.X),1⟩) (by show ¬(S.us.length:Int)<S.X.cH;omega)] at h;exact h)) (jC 7 [6] [(5,a_ 6 cb)] [(6,[(12,vI 0)])] (NS (jK 2 [59] [] (NT (SR ?_))))))))))
 have hk0:(af S.O (bA S.X)).kind=0:=hI.zj _ (by have:=q4 hI.toInv0;omega)
 exact av.gH [(2,.abs (aW (d8 S.O L)))] (λw hS=>hS.EL (i:=2) rfl (bA S.X) (λx hx=>by rw [CO hx,RG fX hfr hx]) (by unfold d8;rw [hk0];rfl)) (av.gH [(5,.abs (aW (fM S.O L)))] (λw hS=>hS.EL (i:=5) rfl (bA S.X) (λx hx=>by rw [EB hx,KE fX hfr hx]) (by unfold fM;rw [hk0];rfl)) (av.mem (eZ:=[.ay f [vI (S.X.cN),vI (S.X.cB),vI (S.X.cH),vI (S.X.cS),vI (S.X.cZ),.map (some m),vP t,vI (S.X.last),vI (S.X.ah),vI (S.X.used)] 135,.abs (fD 182 t S.X.cH S.aI (cM L2 S.us)),.abs (aW (d8 S.O L)),.abs (aW (dN S.O L)),.abs (bD Tryz.prog 3 m (cQ (cM L2 S.ar)) S.ar.length),.abs (aW (fM S.O L)),.ay cb (aL {c with answer:=0}) 53,.abs R]) (λw hS=>hS.EL (i:=3) rfl (bA S.X) (λx hx=>by rw [EC hx,FW fX hx]) (by unfold dN;rw [hk0];rfl)) (av.mem (eZ:=[.ay f [vI (S.X.cN),vI (S.X.cB),vI (S.X.cH),vI (S.X.cS),vI (S.X.cZ),.map (some m),vP t,vI (S.X.last),vI (S.X.ah),vI (S.X.used)] 135,.abs (fD 182 t S.X.cH S.aI (cM L S.us)),.abs (aW (d8 S.O L)),.abs (aW (dN S.O L)),.abs (bD Tryz.prog 3 m (cQ (cM L S.ar)) S.ar.length),.abs (aW (fM S.O L)),.ay cb (aL {c with answer:=0}) 53,.abs R]) (λw hS=>by rw [lX fX hfr.ar,lX fX hfr.us] at hS;exact hS) (jK 2 [4] [] (eN (v:=(vI 130)) ⟨L,by rw [show (fq S c)=(130,S,{c with answer:=0}) by unfold fq;rw [ef];exact (ahf nQ).trans ((ahf h0).trans (by grind [oH]))]<;>exact⟨rfl,rfl⟩⟩ [0,4,1,2,3,5,6,7])))))
end
section
open Go.RowKit
def C4 (b:Nat) (v:Value):dV where
 h F w:=∃cs T,cs[0]?=some v/\(HP.ay b cs T).h F w
 lt:=λ⟨_,_,_,h⟩=>HP.lt h
 st:=λ⟨cs,T,hv,h⟩ _ _ hk hd=>⟨cs,T,hv,HP.st h hk hd⟩
theorem C4.cell {b:Nat} {v:Value}:∀F w,(C4 b v).h F w->w.cell? ⟨b,0,none⟩=some v:=by
 rintro F w ⟨cs,T,hv,h⟩
 exact (lZ h.1 rfl rfl hv).1
theorem aR.first {β:Bs} {l:List HP} {w:World} {i b:Nat} {cs:List Value} {T:TypeId} {v:Value} (h:aR β l w) (hp:l[i]?=some (.ay b cs T)) (hv:cs[0]?=some v):aR β [.abs (C4 b v)] w:=by
 obtain⟨ho,φ,h1,h2,h3⟩:=h
 have hi:=dF hp
 refine⟨ho,λ_=>φ i,λj q hq=>?_,λj hj=>h2 i hi,λj k hj hk bV=>?_⟩
 ·have hj:=dF hq
  simp at hj
  subst hj
  simp at hq
  subst hq
  exact⟨cs,T,hv,h1 i _ hp⟩
 simp at hj hk
 omega
section mix
variable {P:Program} {β:Bs} {N:fQ} {ops:Array Oper} {S:List HP} {l:List Nat} {fr:Fr} {ax:List HP} {Q:Post} {i:Nat}
theorem aq.Uu {id:Nat} (perm:List Nat) (nr:Nat) (hm:P.follows .mixedOrders=true) (hB:Ek ops perm nr=true) (hp:∀w,aR β ax w->aR β S w) (h:cu P β N ops S nr perm fr ax Q):aq P β N (.region id ops true) fr ax Q:=by
 intro ai w hS
 unfold Ek at hB
 simp only [ahH,aia] at hB
 obtain⟨⟨⟨h1,h2⟩,h3⟩,h4⟩:=hB
 have jh:=hS.drewN 1
 have h5:=Kj (Q:=Q) h1 h2 nr perm _ _ _ h4 (λj oj _ hl=>by simp [Array.getD_eq_getD_getElem?,Array.getElem?_replicate] at hl;split at hl<;>simp at hl) (hp _ jh) (h ai (w.drewN 1) jh)
 rw [h3] at h5
 refine ah8 (λe a w q=>?_) (wp_region_any hm (vG _ _ _ _ h5))
 cases e with
 |normal=>exact q
 |exit id=>exact q.elim
 |goto l=>exact q.elim
 |ret=>exact q.elim
 |panic ch=>exact q.elim
 |outgrown=>exact q.elim
theorem cu.Uv {ι:Type} {bY:ι->Fr} {dK:ι->List HP} {o:Oper} (bX:ops[i]?=some o) (hg:o.guard=none) (h:av P β N #[o] 0 fr ax (NP (Gt β N bY dK))) (hp:∀j w,aR β (dK j) w->aR β S w)
 (K:∀j,cu P β N ops S 0 l (bY j) (dK j) Q):cu P β N ops S 0 (i::l) fr ax Q:=by
 grind [uD,vF,NP,Gt,fI,Bp,av,aR,cu]
end mix
end
section
open Go.RowKit Go.Maps bG aF
def P9:List Nat:=[184,185,186,187,188,189,190,191,192,193,194,195,196,197,198]
def hnV:Value:=.agg ⟨.nilFunc::P9.map (λf=>.func (.func f) #[] #[])⟩
theorem Uw {n:Int} (h:1<=n/\n<=15):n=1\/n=2\/n=3\/n=4\/n=5\/n=6\/n=7\/n=8\/n=9\/n=10\/n=11\/n=12\/n=13\/n=14\/n=15:=zc
theorem aee {w:World} {o:Oper} {ev:Operand->Value} {x y:Operand} {n:Int} (ho:o.op=.index 261 x y) (hx:ev x=hnV) (hy:ev y=.int .i64 n) (hn:1<=n/\n<=15):sQ Tryz.prog ev o w (.func (.func (P9.getD (n.toNat-1) 0)) #[] #[]) w:=by
 obtain⟨dst,op,type,pos,after,guard⟩:=o
 cases ho
 refine .inl ?_
 simp only [execOp,hx,hy]
 rcases Uw hn with h|h|h|h|h|h|h|h|h|h|h|h|h|h|h<;>subst h<;>kernel_rfl
theorem av.hn {β:Bs} {N:fQ} {k:Nat} {ops:Array Oper} {fr:Fr} {ax:List HP} {Q:Post} {d:Option Tmp} {x y:Operand} {n:Int} (hn:1<=n/\n<=15) (K:av Tryz.prog β N ops (k+1) (eV fr d (.func (.func (P9.getD (n.toNat-1) 0)) #[] #[])) ax Q)
 (bX:∀ai,iK N ai ops fr k=some (.index 261 x y,d):=by intro _;kernel_rfl) (hx:∀ai,eX N fr ai x=hnV:=by intro _;kernel_rfl) (hy:∀ai,eX N fr ai y=.int .i64 n:=by intro _;kernel_rfl):av Tryz.prog β N ops k fr ax Q:=
 av.mT bX (λ_ ai w ho hS=>⟨w,aee ho (hx ai) (hy ai) hn,hS⟩) K
theorem afn {β:Bs} {S:bB} {L:HL} {f m t b:Nat} {c:aP} (n:Int) (hI:bT S) (hC:kH β c) (h:1<=n/\n<=15) (he:c.op=n):aX Tryz.prog β (P9.getD (n.toNat-1) 0) #[vP f,vP b] (pA f m t L S++[pC b c]) (λv l=>∃L2,v=vI (iF S c).1/\l=pA f m t L2 (iF S c).2.1++[pC b (iF S c).2.2]):=by
 subst he
 rcases Uw h with h|h|h|h|h|h|h|h|h|h|h|h|h|h|h<;>rw [h]
 ·first|exact ahh hC.op (by rw [h];unfold tW;decide)|(rw [zl h];exact Ur S L f m t hI b c hC)
 ·first|exact ahh hC.op (by rw [h];unfold tW;decide)|(rw [BB h];exact MR S L f m t hI b c hC)
 ·first|exact ahh hC.op (by rw [h];unfold tW;decide)|(rw [BD h];exact La S L f m t hI b c hC)
 ·first|exact ahh hC.op (by rw [h];unfold tW;decide)|(rw [zm h];exact Q7 S L f m t hI b c hC)
 ·first|exact ahh hC.op (by rw [h];unfold tW;decide)|(rw [BF h];exact P8 S L f m t hI b c hC)
 ·first|exact ahh hC.op (by rw [h];unfold tW;decide)|(rw [BG h];exact MS S L f m t hI b c hC)
 ·first|exact ahh hC.op (by rw [h];unfold tW;decide)|(rw [BH h];exact Us S L f m t hI b c hC)
 ·first|exact ahh hC.op (by rw [h];unfold tW;decide)|(rw [BI h];exact P4 S L f m t hI b c hC)
 ·first|exact ahh hC.op (by rw [h];unfold tW;decide)|(rw [BJ h];exact Q9 S L f m t hI b c hC)
 ·first|exact ahh hC.op (by rw [h];unfold tW;decide)|(rw [x5 h];exact MT S L f m t hI b c hC)
 ·first|exact ahh hC.op (by rw [h];unfold tW;decide)|(rw [x6 h];exact Ut S L f m t hI b c hC)
 ·first|exact ahh hC.op (by rw [h];unfold tW;decide)|(rw [x7 h];exact P7 S L f m t hI b c hC)
 ·first|exact ahh hC.op (by rw [h];unfold tW;decide)|(rw [x9 h];exact Ra S L f m t hI b c hC)
 ·first|exact ahh hC.op (by rw [h];unfold tW;decide)|(rw [yc h];exact Q8 S L f m t hI b c hC)
 first|exact ahh hC.op (by rw [h];unfold tW;decide)|(rw [ye h];exact P5 S L f m t hI b c hC)
theorem Xo {S:bB} {c:aP} (h:1<=c.op/\c.op<=15):(iF S c).2.2.op=c.op:=by
 rcases Uw h with h|h|h|h|h|h|h|h|h|h|h|h|h|h|h
 ·rw [zl h];exact abW
 ·rw [BB h];exact Tr
 ·rw [BD h];exact QF
 all_goals grind [zm,Ts,BF,QG,BG,Ov,BH,VE,BI,QH,BJ,Tv,x5,Tw,x6,abX,x7,VF,x9,YH,yc,Tt,ye,QI]
end
section
open Go.RowKit Go.Maps bG aF
attribute [local irreducible] av bP aq aB cu
abbrev zj1 (b3:Nat):=(.ay b3 [vI 0,vI 0,vI 0,.string ⟨#[]⟩,.string ⟨#[]⟩,.slice none (0) (0),vI 0,vI 0,vI 0,vI 0,vI 0,vI 0,vI 0] 53:HP)
abbrev zj2 (c:aP):=([(0,vI (c.op)),(1,vI (c.aN)),(2,vI (c.other)),(3,.string c.name),(4,.string c.text),(5,.slice c.dA (c.data.length) (c.dC)),(6,vI (c.mode)),(7,vI (c.bg)),(8,vI (c.bh)),(9,vI (c.aU)),(10,vI (c.aJ)),(11,vI 230)]:Fr)
theorem Rb {β:Bs}:aX Tryz.prog β 183 #[] [] (λv l=>v=.agg #[.nilFunc,.func (.func 184) #[] #[],.func (.func 185) #[] #[],.func (.func 186) #[] #[],.func (.func 187) #[] #[],.func (.func 188) #[] #[],.func (.func 189) #[] #[],.func (.func 190) #[] #[],.func (.func 191) #[] #[],.func (.func 192) #[] #[],.func (.func 193) #[] #[],.func (.func 194) #[] #[],.func (.func 195) #[] #[],.func (.func 196) #[] #[],.func (.func 197) #[] #[],.func (.func 198) #[] #[]]/\l=[]):=by
 exact SE Tryz.func183 Tryz.ntmps183 (λR=>SR (jB 1 [0] (λb1=>.ay b1 [.nilFunc,.nilFunc,.nilFunc,.nilFunc,.nilFunc,.nilFunc,.nilFunc,.nilFunc,.nilFunc,.nilFunc,.nilFunc,.nilFunc,.nilFunc,.nilFunc,.nilFunc,.nilFunc] 261) (λb1=>NS (jC 2 [] [(1,A_ 1 b1 16)] [(1,[(1,.func (.func 184) #[] #[]),(2,.func (.func 185) #[] #[]),(3,.func (.func 186) #[] #[]),(4,.func (.func 187) #[] #[]),(5,.func (.func 188) #[] #[]),(6,.func (.func 189) #[] #[]),(7,.func (.func 190) #[] #[]),(8,.func (.func 191) #[] #[]),(9,.func (.func 192) #[] #[]),(10,.func (.func 193) #[] #[]),(11,.func (.func 194) #[] #[]),(12,.func (.func 195) #[] #[]),(13,.func (.func 196) #[] #[]),(14,.func (.func 197) #[] #[]),(15,.func (.func 198) #[] #[])])] (eS [A_ 1 b1 16] ⟨rfl,rfl⟩)))))
theorem Qa {β:Bs} (S:bB) (L:HL) (f m t:Nat) (hI:bT S) (c:aP) (hC:kH β c) :
 aX Tryz.prog β 182 #[vP f,.agg ⟨aL c⟩] (pA f m t L S) (λv l=>∃L2,v=.agg ⟨aL (gG S c).2⟩/\l=(pA f m t L2 ((gG S c).1))):=by
 have hX:=hI.hX
 refine SE Tryz.func182 Tryz.ntmps182 (λR=>SR (jB 1 [3] (λb2=>.ay b2 (aL c) 53) (λb2=>jB 1 [4] (λb3=>.ay b3 [vI 0,vI 0,vI 0,.string ⟨#[]⟩,.string ⟨#[]⟩,.slice none (0) (0),vI 0,vI 0,vI 0,vI 0,vI 0,vI 0,vI 0] 53) (λb3=>NS (jC 2 [] [(1,a_ 7 b2)] [(7,[(12,vI 0)])] (NS (jC 2 [] [(1,a_ 7 b2)] [(7,[(11,vI 230)])] (NZ (jK 4 [10] [(1,a_ 7 b2)] (sP 10 ((c.op:Int)>=(1:Int)) (λh10=>jK 4 [14] [(1,a_ 7 b2)] (NN (cP ((c.op:Int)<=(15:Int)) (λmz=>?_) (λmz=>KX (SR (jC 2 [] [(0,A_ 7 b2 13),(1,A_ 8 b3 13)] [(8,(zj2 c))] (eS [A_ 8 b3 13] ⟨L,by unfold gG;rw [AB (S:=S) (c:=(c0 c)) Pe];exact⟨rfl,rfl⟩⟩))))))) (λh10=>jK 4 [14] [] (NF (KX (SR (jC 2 [] [(0,A_ 7 b2 13),(1,A_ 8 b3 13)] [(8,(zj2 c))] (eS [A_ 8 b3 13] ⟨L,by unfold gG;rw [AB (S:=S) (c:=(c0 c)) Pe];exact⟨rfl,rfl⟩⟩))))))))))))))))
 have bX:1<=c.op/\c.op<=15:=⟨h10,mz⟩
 refine aq.Uu (S:=[.abs (C4 b2 (.int .i64 c.op))]) [1,2,4,0,3,5,6,7] 3 KB KB (λw hS=>hS.first (i:=7) (b:=b2) rfl rfl) (jR 3 [3,4,17,19] [(1,p_ ⟨[.view 0 (.int .i64 (c.op))],none,none,none,none⟩ [(∀F w,(C4 b2 (.int .i64 c.op)).h F w->w.cell? ⟨b2,0,none⟩=some (vI (c.op)))] ⟨C4.cell,trivial⟩)] (cu.Uv (ι:=Unit) (bY:=λ(_:Unit)=>[(3,vP b2),(4,vP b3),(15,.agg #[.nilFunc,.func (.func 184) #[] #[],.func (.func 185) #[] #[],.func (.func 186) #[] #[],.func (.func 187) #[] #[],.func (.func 188) #[] #[],.func (.func 189) #[] #[],.func (.func 190) #[] #[],.func (.func 191) #[] #[],.func (.func 192) #[] #[],.func (.func 193) #[] #[],.func (.func 194) #[] #[],.func (.func 195) #[] #[],.func (.func 196) #[] #[],.func (.func 197) #[] #[],.func (.func 198) #[] #[]]),(17,vI (c.op)),(19,vP f)]) (dK:=λ(_:Unit)=>((pA f m t L S)++[.abs R,pC b2 (c0 c),zj1 b3])) rfl rfl ?_ (by rintro _ w hS;exact hS.first (i:=7) (b:=b2) rfl rfl) ?_))
 ·exact gE [] (Rb) (NL (MD () [3,4,15,17,19] [0,1,2,3,4,5,6,7,8]))
 rintro _
 refine cu.Uv (ι:=Unit) (bY:=λ(_:Unit)=>[(3,vP b2),(4,vP b3),(18,.func (.func (P9.getD (c.op.toNat-1) 0)) #[] #[]),(19,vP f)]) (dK:=λ(_:Unit)=>((pA f m t L S)++[.abs R,pC b2 (c0 c),zj1 b3])) rfl rfl ?_ (by rintro _ w hS;exact hS.first (i:=7) (b:=b2) rfl rfl) ?_
 ·exact av.hn (x:=(.tmp 15)) (y:=(.tmp 17)) (d:=(some 18)) bX (NL (MD () [3,4,18,19] [0,1,2,3,4,5,6,7,8]))
 rintro _
 refine cu.Uv (ι:=HL) (bY:=λ(L2:HL)=>[(3,vP b2),(4,vP b3),(20,vI ((iF S (c0 c)).1))]) (dK:=λ(L2:HL)=>((pA f m t L2 ((iF S (c0 c)).2.1))++[pC b2 ((iF S (c0 c)).2.2),.abs R,zj1 b3])) rfl rfl ?_ (by rintro L2 w hS;exact hS.first (i:=6) (b:=b2) rfl (ahg (λz=>some (Value.int .i64 z)) (Xo (c:=(c0 c)) bX))) ?_
 ·refine gL [0,1,2,3,4,5,7] (afn (S:=S) (L:=L) (f:=f) (m:=m) (t:=t) (b:=b2) (c:=(c0 c)) c.op hI ⟨hC.hw,hC.ow,hC.nm,hC.tx,hC.da,hC.dl,hC.dc,hC.op⟩ bX rfl) ?_ (by intro _;rcases Uw bX with h|h|h|h|h|h|h|h|h|h|h|h|h|h|h<;>rw [h]<;>kernel_rfl)
  rintro _ _ ⟨L2,rfl,rfl⟩
  exact NL (MD L2 [3,4,20] [0,1,2,3,4,5,6,7,8])
 rintro L2
 refine cu.Uv (ι:=Unit) (bY:=λ(_:Unit)=>[(3,vP b2),(4,vP b3),(20,vI ((iF S (c0 c)).1)),(21,.pointer (some ⟨b2,11,none⟩))]) (dK:=λ(_:Unit)=>((pA f m t L2 ((iF S (c0 c)).2.1))++[pC b2 ((iF S (c0 c)).2.2),.abs R,zj1 b3])) rfl rfl ?_ (by rintro _ w hS;exact hS.first (i:=6) (b:=b2) rfl (ahg (λz=>some (Value.int .i64 z)) (Xo (c:=(c0 c)) bX))) ?_
 ·exact jK 1 [21] [] (NL (MD () [3,4,20,21] [0,1,2,3,4,5,6,7,8]))
 rintro _
 exact cu.last rfl rfl (jC 1 [] [(0,a_ 6 b2)] [(6,[(11,vI ((iF S (c0 c)).1))])] (NL (aB.np (NX (SR (jC 2 [] [(0,A_ 6 b2 13),(1,A_ 8 b3 13)] [(8,(zC (aL { (iF S (c0 c)).2.2 with code:=(iF S (c0 c)).1})))] (eS [A_ 8 b3 13] ⟨L2,rfl,rfl⟩ [0,1,2,3,4,5,7])))))))
end
section
open Go.RowKit Go.Maps bG aF
attribute [local irreducible] av bP aq aB cu oA
abbrev Sy (B)(d:List UInt8) (cap):=(.abs (aG 5 1 B d.length cap (dL d)):HP)
abbrev zk2 (b5:Nat) (An:Option Addr) (i:Nat) (cn:Nat):=(.ay b5 [.slice An (i) (cn)] 24:HP)
abbrev zk3 (An:Option Addr) (i:Nat) (cn:Nat) (K:eP) (S:bB):=(.abs (aG 95 10 An i cn (bH K ((aY S).take i))):HP)
abbrev zk4 (S:bB) (i:Nat) (K:eP):=(.abs (iL (q8 ((aY S).take i) K) i):HP)
abbrev zk5 (S:bB) (i:Nat) (K:eP):=(.abs (iL (lg ((aY S).take i) K) i):HP)
abbrev zk6 (A7:Option Addr) (S:bB) (c8:Nat):=(.abs (aG 3 1 A7 ((bn S.ar).length) c8 (bL (bn S.ar))):HP)
abbrev zk7 (b4:Nat):=(.ay b4 [.slice none (0) (0)] 24:HP)
abbrev zk8 (b9:Nat):=(.ay b9 [vI 0,vI 0,vI 0,vI 0,vI 0,vI 0,vI 0,.slice none (0) (0),.string ⟨#[]⟩,.slice none (0) (0)] 95:HP)
abbrev aef (S:bB) (L:HL) (tk:Nat):=(.abs (aW (nU (fM S.O L) tk dV.none)):HP)
abbrev Ux (L:HL) (tk:Nat) (S:bB):=(.abs (bD Tryz.prog 9 (L.m tk) (nJ L (af S.O tk).ah) ((af S.O tk).ah.length)):HP)
abbrev Uy (b15:Nat) (S:bB) (i:Nat) (tk:Nat) (Ae:Option Addr) (j:Nat) (ce:Nat):=(.ay b15 [vI ((gI S i)),vI 2,vI ((af S.O tk).mode),vI ((af S.O tk).bg),vI ((af S.O tk).bh),vI ((af S.O tk).aU),vI ((af S.O tk).aJ),.slice none (0) (0),.string ⟨#[]⟩,.slice Ae (j) (ce)] 95:HP)
abbrev Uz (oU:Option Addr) (S:bB) (tk:Nat) (qM:Nat):=(.abs (aG 9 1 oU ((af S.O tk).ah.length) qM (yq (af S.O tk).ah)):HP)
abbrev Z5 (oo:Option Addr) (j:Nat) (oq:Nat) (S:bB) (tk:Nat):=(.abs (aG 149 2 oo (j+1) oq (mV (((af S.O tk).ah.take (j+1)).map (gA S.O)))):HP)
abbrev Lb (S:bB) (tk:Nat):=([(39,vI ((af S.O tk).mode)),(43,vI ((af S.O tk).bg)),(47,vI ((af S.O tk).bh)),(51,.agg #[vI ((af S.O tk).aU),vI ((af S.O tk).aJ)])]:Fr)
abbrev Fs (f:Nat) (b4:Nat) (b5:Nat):=([(0,vP f),(2,vP b4),(3,vP b5)]:Fr)
abbrev Qb (b5:Nat) (An:Option Addr) (i:Nat) (cn:Nat) (K:eP) (S:bB) (A7:Option Addr) (c8:Nat) (b4:Nat) (f:Nat) (m:Nat) (t) (L:HL):=([zk2 b5 An i cn,zk3 An i cn K S,zk4 S i K,zk5 S i K,zk6 A7 S c8,zk7 b4,pF f m t S.X,pI m L S.ar,pO S.O L]:List HP)
abbrev Fu (A7:Option Addr) (S:bB) (c8:Nat) (i:Nat):=([(19,.slice A7 ((bn S.ar).length) (c8)),(20,vI ↑((bn S.ar).length)),(21,vI ↑i)]:Fr)
abbrev Z6 (f:Nat) (b4:Nat) (b5:Nat) (b15:Nat) (L:HL) (tk:Nat) (A7:Option Addr) (S:bB) (c8:Nat) (i:Nat) (oU:Option Addr) (qM:Nat) (j:Nat) (oo:Option Addr) (oq:Nat):=([(0,vP f),(2,vP b4),(3,vP b5),(8,vP b15),(11,vP (L.b tk)),(19,.slice A7 ((bn S.ar).length) (c8)),(20,vI ↑((bn S.ar).length)),(21,vI ↑i),(79,.slice oU ((af S.O tk).ah.length) (qM)),(80,vI ↑((af S.O tk).ah.length)),(81,vI ↑j),(100,.slice oo ((j+1)) (oq))]:Fr)
abbrev Z7 (S:bB) (tk:Nat):=([(2,vI ((af S.O tk).mode)),(3,vI ((af S.O tk).bg)),(4,vI ((af S.O tk).bh)),(5,vI ((af S.O tk).aU)),(6,vI ((af S.O tk).aJ))]:Fr)
abbrev Z8 (S:bB) (L:HL) (tk:Nat) (R:dV) (b19:Nat) (j:Nat) (ek:Nat):=([pD S.O L,aef S L tk,.abs R,.ay b19 [.string (nX (af S.O tk).ah j),vI ((af S.O ek).id)] 149]:List HP)
theorem Lc {β:Bs} (c:Nat):aX Tryz.prog β 37 #[.slice none 0 c] [] (λv l=>∃B cap,v=.slice B 0 cap/\l=[.abs (aG 5 1 B 0 cap [])]):=by
 exact SE Tryz.func37 Tryz.ntmps37 (λR=>SR (jK 1 [] [] (NZ (jK 2 [4] [] (NT (SR (jK 1 [2] [] (NN (aq.ret (aB.bE (aB.mem (λw hS=>(hS.mF (e:=5) (size:=1)).pick (ar:=[1,0]) (l':=[.abs (aG 5 1 none 0 0 ([])),.abs R]) rfl KB) (RT _ [0,1] (⟨none,0,rfl,rfl⟩)))))))))))))
theorem J7 {β:Bs} (a:Addr) (c:Nat) (d:List UInt8) (hA:bJ β (some a) d) (hl:d.length<=140737488355328):aX Tryz.prog β 37 #[.slice (some a) d.length c] [] (λv l=>∃B cap,v=.slice B d.length cap/\l=[Sy B d cap]):=by
 exact SE Tryz.func37 Tryz.ntmps37 (λR=>SR (jK 1 [] [] (NZ (jK 2 [4] [] (NF (KX (SR (jB 1 [5] (λb1=>.ay b1 [] 5) (λb1=>av.mem (λw hS=>hS.oW (i:=1) (b:=b1) (cs:=[]) (e:=5) 1 0 KB rfl Pd) (jK 1 [6] [] (U7 1 51 (some a) d.length c (dL d) rfl (hA.src) (λA2 c3=>av.cO 1 rfl (by rw [ahy,List.nil_append]) (sl 7 (.slice A2 (0+d.length) (c3)) (.slice A2 (d.length) (c3)) (by rw [ahy]) (jK 1 [2] [] (eN ⟨A2,c3,rfl,rfl⟩ [1,0])))) (hl:=by rw [vJ,Nat.mul_one]) (h1:=sx d))))))))))))
theorem xH {β:Bs} (A:Option Addr) (c:Nat) (d:List UInt8) (hA:bJ β A d) (hl:d.length<=140737488355328):aX Tryz.prog β 37 #[.slice A d.length c] [] (λv l=>∃B cap,v=.slice B d.length cap/\l=[Sy B d cap]):=by
 cases A with
 |some a=>exact J7 a c d hA hl
 |none=>
   cases d with
   |nil=>exact Lc c
   |cons b r=>have h:=bJ.hd hA (j:=0) ahd;cases h
theorem Qc {β:Bs} (A:Option Addr) (c:Nat) (d:List UInt8) (hl:d.length<=140737488355328):aX Tryz.prog β 37 #[.slice A d.length c] [Sy A d c] (λv l=>∃B cap,v=.slice B d.length cap/\l=[Sy B d cap,Sy A d c]):=
 (aX.sZ (pre:=[]) (R:=[Sy A d c]) (λ_ h=>xH A c d h.bytes hl)).mono Pe
theorem Qd {β:Bs} (L:HL) (b bk:Nat) (ar:bF Th) (hr:aF.dH (bn ar)) (hn:ar.length<=4096) :
 aX Tryz.prog β 66 #[I8 bk] [pI b L ar,.ay bk [.map (some b)] 129] (λv l=>∃A cap,v=.slice A (bn ar).length cap/\l=[pI b L ar,.ay bk [.map (some b)] 129,.abs (aG 3 1 A (bn ar).length cap (bL (bn ar)))]):=
 (I9 b bk ar.length (cQ (cM L ar)) zc).mono (by
  rintro v l ⟨A,cap,ss,rfl,hk,_,rfl⟩
  have e:=Rx (us:=cM L ar) (by rw [Hy];exact hr) hk
  rw [Hy] at e
  subst e
  exact⟨A,cap,rfl,rfl⟩)
theorem Xp {β:Bs} (S:bB) (L:HL) (f m t:Nat) (hI:bT S) :
 aX Tryz.prog β 50 #[vP f] [pF f m t S.X,pI m L S.ar,pO S.O L,pD S.O L,pE S.O L] (λv l=>∃A c K,v=.agg #[.slice A (aY S).length c]/\l=[pF f m t S.X,pI m L S.ar,pO S.O L,pD S.O L,pE S.O L]++KL A c (aY S) K):=by
 have hX:=hI.hX
 have hkl:(bn S.ar).length=S.ar.length:=HM _
 have hil:=hI.len
 refine SE Tryz.func50 Tryz.ntmps50 (λR=>SR (jB 1 [2] (λb4=>.ay b4 [.slice none (0) (0)] 24) (λb4=>NS (jB 1 [3] (λb5=>.ay b5 [.slice none (0) (0)] 24) (λb5=>NZ (jK 4 [17] [(3,a_ 0 f)] (gX [] (Oc (some m)) (λb6=>gL [2,0] (Qd L m b6 S.ar hI.fO hI.len) ?_))))))))
 rintro _ _ ⟨A7,c8,rfl,rfl⟩
 refine jK 1 [20] [] (av.mem (λw hS=>hS.mF (e:=95) (size:=10)) (av.mem (λw hS=>hS.EA (q8 [] HX)) (av.mem (λw hS=>hS.EA (lg [] HX)) (jK 1 [21] [] (NN (aq.block (lJ (λ(i,An,cn,K)=>(i<=S.ar.length)) (λ(i,An,cn,K)=>S.ar.length-i) (λ(i,An,cn,K)=>(Fs f b4 b5++Fu A7 S c8 i)) (λ(i,An,cn,K)=>(Qb b5 An i cn K S A7 c8 b4 f m t L++[pD S.O L,pE S.O L,.abs R])) (0,none,0,HX) [9,10,11,12,2,8,3,0,4,5,6,7] ((ahj _)) ?_)))))))
 rintro⟨i,An,cn,K⟩ hi
 refine SR (jK 1 [22] [] (NN (aq.seq (cP ((((i:Nat):Int):Int)<((((bn S.ar).length:Nat):Int):Int)) (λsC=>?_) (λsC=>?_)))))
 ·have hi2:i<S.ar.length:=zc
  refine KX (aq.seq (aq.block (SR (av.tell (p:=(A7=some ⟨br A7,bq A7,none⟩)) (λw hS=>let ⟨F,h⟩:=hS.get (i:=4) rfl;(aG.Bo h zc).1) (λhAk=>jK 3 [5] [(0,x_ i ((bn S.ar).length) (hAk)),(1,p_ ⟨[.view 4 (.int .i64 ((gI S i)))],none,none,none,none⟩ [(∀F w,(aG 3 1 A7 ((bn S.ar).length) c8 (bL (bn S.ar))).h F w->w.cell? ⟨(br A7),bq A7+i*1,none⟩=some (vI ((gI S i))))] ⟨aG.cellAt (i:=i) (j:=0) zc (YR hi2),trivial⟩)] (NN (aq.seq ?_)))))))
  have aha:=(KM hI.toInv0 hi2).1
  have hget:=get_at hI.toInv0 hi2
  rcases ae6 hI.toInv0 hi2 with ⟨tk,qK,ck⟩|⟨tk,qK,ck⟩|⟨tk,qK,ck⟩
  ·have bC:(af S.O tk).kind=1:=hI.kind ck
   have hel:(af S.O tk).ah.length<=8192:=hI.lI ck
   have hdl:(af S.O tk).data.length<=140737488355328:=hI.Tk ck
   refine aq.region (jK 5 [28,29] [(3,a_ 6 f)] (av.ji 7 (d:=(some 30)) (t:=129) (K:=3) (E:=133) (b:=m) (n:=S.ar.length) (f:=(cQ (cM L S.ar))) (x:=(.tmp 28)) (ix:=(.tmp 29)) (key:=vI ((gI S i))) (z:=.nilIface) (kl:=(.int .i64 (gI S i))) (r:=(some (iz L ⟨tk,1⟩))) (λ_=>KB) KB (λ_=>KB) (λ_=>KB) iY Tryz.underlying129 (λ_=>KB) (mB (KN hI.toInv0 hi2)) (by rw [j8,hget,qK];rfl) (jK 1 [6] [] (NS (jK 1 [31] [] (gE [] (gq (L.b tk)) (jK 1 [7] [] (NN (aq.seq (aq.rz (S:=[pO S.O L]) (yY [0,1,3,4,5,6,7,8,9,10,11,12,13,14,15,16,17,18] (oJ 20 [(false,21)] [(false,2),(false,19)])) [8] (gT (oJ 20 [(false,21)] [(false,2),(false,19)]) (Fs f b4 b5++[(6,.iface 138 (vP (L.b tk)))]++Fu A7 S c8 i++[(33,vI ((gI S i))),(34,.iface 138 (vP (L.b tk)))]++Lb S tk) [0,1,3,4,5,6,7,8,9,10,11,12,13,14,15,16,17,18] [(5,v_ 0 (Bd L bC)),(9,v_ 0 (Gf L bC)),(13,v_ 0 (Gg L bC)),(17,p_ ⟨[.view 0 (.int .i64 ((af S.O tk).aU)),.view 0 (.int .i64 ((af S.O tk).aJ))],none,none,none,none⟩ [(∀F w,(aW (d8 S.O L)).h F w->w.cell? ⟨(L.b tk),5,none⟩=some (vI ((af S.O tk).aJ))),(∀F w,(aW (d8 S.O L)).h F w->w.cell? ⟨(L.b tk),4,none⟩=some (vI ((af S.O tk).aU)))] ⟨jc (by rw [bC];decide) (rfl),jc (by rw [bC];decide) (rfl),trivial⟩)] (oA.one (j:=20) (dj:=8) (R:=λf_ l_=>f_=([(52,.agg #[vI ((gI S i)),vI 1,vI ((af S.O tk).mode),vI ((af S.O tk).bg),vI ((af S.O tk).bh),vI ((af S.O tk).aU),vI ((af S.O tk).aJ),.slice none (0) (0),.string ⟨#[]⟩,.slice none (0) (0)]),(35,vI 1)]++Fs f b4 b5++[(6,.iface 138 (vP (L.b tk)))]++Fu A7 S c8 i++[(33,vI ((gI S i))),(34,.iface 138 (vP (L.b tk)))]++Lb S tk)/\l_=[]) [8] [(false,2,35),(false,19,52)] (jt.of (ι:=Nat) (v:=λ(b9:Nat)=>vP b9) (l:=λ(b9:Nat)=>[zk8 b9]) [35,52] rfl rfl rfl rfl ?_) ?_ ?_))))))))))))
   ·intro u Aq
    exact jB 1 [8] (λb9=>.ay b9 [vI 0,vI 0,vI 0,vI 0,vI 0,vI 0,vI 0,.slice none (0) (0),.string ⟨#[]⟩,.slice none (0) (0)] 95) (λb9=>NL (MD b9 [8,35,52,0,2,3,6,19,20,21,33,34,39,43,47,51] [1,0]))
   ·refine eF.step (jt.of (ι:=Unit) (v:=λ(_:Unit)=>.int .i64 1) (l:=λ(_:Unit)=>[]) [8] rfl rfl rfl rfl ?_) ?_
    ·intro u Aq
     exact gE [] (tD (vP (L.b tk))) (NL (MD () [35,8,0,2,3,6,19,20,21,33,34,39,43,47,51] [0]))
    rintro _ _ ⟨_,rfl,rfl⟩
    refine eF.step (jt.of (ι:=Unit) (v:=λ(_:Unit)=>.agg #[vI ((gI S i)),vI 1,vI ((af S.O tk).mode),vI ((af S.O tk).bg),vI ((af S.O tk).bh),vI ((af S.O tk).aU),vI ((af S.O tk).aJ),.slice none (0) (0),.string ⟨#[]⟩,.slice none (0) (0)]) (l:=λ(_:Unit)=>[]) [8] rfl rfl rfl rfl ?_) ?_
    ·intro u Aq
     exact jK 1 [52] [] (NL (MD () [52,8,35,0,2,3,6,19,20,21,33,34,39,43,47,51] [0]))
    rintro _ _ ⟨_,rfl,rfl⟩
    exact⟨rfl,rfl⟩
   rintro _ _ ⟨rfl,rfl⟩ _ _ ⟨b9,rfl,rfl⟩
   refine fF.last KB (jC 1 [] [(0,A_ 0 b9 10)] [(0,([(0,vI ((gI S i))),(1,vI 1)]++Z7 S tk))] (NL (aB.np (NX (SQ (jK 1 [53] [] (NN (aq.block (SR (jK 3 [55,56] [] (NT (SR (jK 1 [9] [] (NN (aq.region (jK 4 [60] [(3,v_ 9 (PV L bC))] (av.mem (λw hS=>hS.Vg (i:=10) (k:=tk) rfl bC) (gL [13] (Qc (L.dA tk) (L.dC tk) (af S.O tk).data hdl) ?_))))))))))))))))))
   rintro _ _ ⟨Fv,c11,rfl,rfl⟩
   exact av.mem (λw hS=>hS.adq (i:=12) (j:=1) (ix:=[0,2,3,4,5,6,7,8,9,10,11,13,14]) rfl rfl KB rfl bC) (jC 2 [] [(1,a_ 2 b9)] [(2,[(7,.slice Fv ((af S.O tk).data.length) (c11))])] (LX (aq.region (jN 4 [104,106] (λb12=>[(1,a_ 3 b5),(2,A_ 2 b9 10)]) (λ_=>[]) (λb12=>.ay b12 [vI ((gI S i)),vI 1,vI ((af S.O tk).mode),vI ((af S.O tk).bg),vI ((af S.O tk).bh),vI ((af S.O tk).aU),vI ((af S.O tk).aJ),.slice Fv ((af S.O tk).data.length) (c11),.string ⟨#[]⟩,.slice none (0) (0)] 95) (λb12=>mU 4 22 (some ⟨b12,0,none⟩) 1 1 [vI ((gI S i)),vI 1,vI ((af S.O tk).mode),vI ((af S.O tk).bg),vI ((af S.O tk).bh),vI ((af S.O tk).aU),vI ((af S.O tk).aJ),.slice Fv ((af S.O tk).data.length) (c11),.string ⟨#[]⟩,.slice none (0) (0)] rfl (fU (j:=14) rfl) (λMh Mi=>av.cO 4 rfl (ahg (λx=>HP.abs (aG 95 10 _ _ _ x)) (vM (iM zc) (yu hI.toInv0 hi2 qK ck) rfl rfl)) (sl 107 (.slice Mh (i+1) (Mi)) (.slice Mh ((i+1)) (Mi)) (rfl) (jC 2 [] [(1,a_ 3 b5)] [(3,[(0,.slice Mh ((i+1)) (Mi))])] (LX (aq.region (jK 2 [21] [(0,wJ ((i:Int)+1) (↑(i+1)))] (NL (aB.mem (λw hS=>hS.mF (e:=149) (size:=2)) (aB.mem (λw hS=>hS.tK (R':=(lg ((aY S).take (i+1)) (K.put i Fv c11 none 0))) (i:=6) (j:=1) (ar:=[0,2,3,4,5,7,8,9,10,11,12,13,14,15]) rfl rfl KB rfl (Dw (iM zc) (yu hI.toInv0 hi2 qK ck)) (BO (iM zc) (yu hI.toInv0 hi2 qK ck) rfl)) (aB.mem (λw hS=>hS.tK (R':=(q8 ((aY S).take (i+1)) (K.put i Fv c11 none 0))) (i:=5) (j:=14) (ar:=[0,1,2,3,4,6,7,8,9,10,11,12,13]) rfl rfl KB rfl (Dx (iM zc) (yu hI.toInv0 hi2 qK ck)) ((BP (iM zc) (yu hI.toInv0 hi2 qK ck) rfl))) (tJ ((i+1),Mh,Mi,(K.put i Fv c11 none 0)) [4,5,0,1,6,7,8,9,10,2,11,12] (zc)))))))))))))))))
  ·have bC:(af S.O tk).kind=2:=hI.kind ck
   have hel:(af S.O tk).ah.length<=8192:=hI.lI ck
   have hdl:(af S.O tk).data.length<=140737488355328:=hI.Tk ck
   refine aq.region (jK 5 [28,29] [(3,a_ 6 f)] (av.ji 7 (d:=(some 30)) (t:=129) (K:=3) (E:=133) (b:=m) (n:=S.ar.length) (f:=(cQ (cM L S.ar))) (x:=(.tmp 28)) (ix:=(.tmp 29)) (key:=vI ((gI S i))) (z:=.nilIface) (kl:=(.int .i64 (gI S i))) (r:=(some (iz L ⟨tk,2⟩))) (λ_=>KB) KB (λ_=>KB) (λ_=>KB) iY Tryz.underlying129 (λ_=>KB) (mB (KN hI.toInv0 hi2)) (by rw [j8,hget,qK];rfl) (jK 1 [6] [] (NS (jK 1 [31] [] (gE [] (gq (L.b tk)) (jK 1 [7] [] (NN (aq.seq (aq.rz (S:=[pO S.O L]) (yY [0,1,3,4,5,6,7,8,9,10,11,12,13,14,15,16,17,18] (oJ 20 [(false,21)] [(false,2),(false,19)])) [8] (gT (oJ 20 [(false,21)] [(false,2),(false,19)]) (Fs f b4 b5++[(6,.iface 144 (vP (L.b tk)))]++Fu A7 S c8 i++[(33,vI ((gI S i))),(34,.iface 144 (vP (L.b tk)))]++Lb S tk) [0,1,3,4,5,6,7,8,9,10,11,12,13,14,15,16,17,18] [(5,v_ 0 (Bd L bC)),(9,v_ 0 (Gf L bC)),(13,v_ 0 (Gg L bC)),(17,p_ ⟨[.view 0 (.int .i64 ((af S.O tk).aU)),.view 0 (.int .i64 ((af S.O tk).aJ))],none,none,none,none⟩ [(∀F w,(aW (d8 S.O L)).h F w->w.cell? ⟨(L.b tk),5,none⟩=some (vI ((af S.O tk).aJ))),(∀F w,(aW (d8 S.O L)).h F w->w.cell? ⟨(L.b tk),4,none⟩=some (vI ((af S.O tk).aU)))] ⟨jc (by rw [bC];decide) (rfl),jc (by rw [bC];decide) (rfl),trivial⟩)] (oA.one (j:=20) (dj:=8) (R:=λf_ l_=>f_=([(52,.agg #[vI ((gI S i)),vI 2,vI ((af S.O tk).mode),vI ((af S.O tk).bg),vI ((af S.O tk).bh),vI ((af S.O tk).aU),vI ((af S.O tk).aJ),.slice none (0) (0),.string ⟨#[]⟩,.slice none (0) (0)]),(35,vI 2)]++Fs f b4 b5++[(6,.iface 144 (vP (L.b tk)))]++Fu A7 S c8 i++[(33,vI ((gI S i))),(34,.iface 144 (vP (L.b tk)))]++Lb S tk)/\l_=[]) [8] [(false,2,35),(false,19,52)] (jt.of (ι:=Nat) (v:=λ(b15:Nat)=>vP b15) (l:=λ(b15:Nat)=>[zk8 b15]) [35,52] rfl rfl rfl rfl ?_) ?_ ?_))))))))))))
   ·intro u Aq
    exact jB 1 [8] (λb15=>.ay b15 [vI 0,vI 0,vI 0,vI 0,vI 0,vI 0,vI 0,.slice none (0) (0),.string ⟨#[]⟩,.slice none (0) (0)] 95) (λb15=>NL (MD b15 [8,35,52,0,2,3,6,19,20,21,33,34,39,43,47,51] [1,0]))
   ·refine eF.step (jt.of (ι:=Unit) (v:=λ(_:Unit)=>.int .i64 2) (l:=λ(_:Unit)=>[]) [8] rfl rfl rfl rfl ?_) ?_
    ·intro u Aq
     exact gE [] (tE (vP (L.b tk))) (NL (MD () [35,8,0,2,3,6,19,20,21,33,34,39,43,47,51] [0]))
    rintro _ _ ⟨_,rfl,rfl⟩
    refine eF.step (jt.of (ι:=Unit) (v:=λ(_:Unit)=>.agg #[vI ((gI S i)),vI 2,vI ((af S.O tk).mode),vI ((af S.O tk).bg),vI ((af S.O tk).bh),vI ((af S.O tk).aU),vI ((af S.O tk).aJ),.slice none (0) (0),.string ⟨#[]⟩,.slice none (0) (0)]) (l:=λ(_:Unit)=>[]) [8] rfl rfl rfl rfl ?_) ?_
    ·intro u Aq
     exact jK 1 [52] [] (NL (MD () [52,8,35,0,2,3,6,19,20,21,33,34,39,43,47,51] [0]))
    rintro _ _ ⟨_,rfl,rfl⟩
    exact⟨rfl,rfl⟩
   rintro _ _ ⟨rfl,rfl⟩ _ _ ⟨b15,rfl,rfl⟩
   refine fF.last KB (jC 1 [] [(0,A_ 0 b15 10)] [(0,([(0,vI ((gI S i))),(1,vI 2)]++Z7 S tk))] (NL (aB.np (NX (SQ (jK 1 [53] [] (NN (aq.block (SR (jK 3 [55,56] [] (NF (SR (jK 3 [64,65] [] (NF (SR (jK 3 [72,73] [] (NT (SR (jK 1 [11] [] (NS (jK 4 [77] [(3,v_ 9 (dw L bC))] (av.mem (λw hS=>hS.ac2 (i:=11) (k:=tk) rfl (bC)) (gX [] (YP (some (L.m tk))) (λb16=>gL [14,0] (TH L (L.m tk) b16 (af S.O tk).ah.length (af S.O tk).ah (hI.sorted _ ck) hel) ?_))))))))))))))))))))))))
   rintro _ _ ⟨oU,qM,rfl,rfl⟩
   refine jK 1 [80] [] (av.mem (λw hS=>hS.mF (e:=149) (size:=2)) (jK 1 [81] [] (NN (aq.block (lJ (λ(j,Ae,ce)=>(j<=(af S.O tk).ah.length)) (λ(j,Ae,ce)=>(af S.O tk).ah.length-j) (λ(j,Ae,ce)=>(Fs f b4 b5++[(8,vP b15),(11,vP (L.b tk))]++Fu A7 S c8 i++[(79,.slice oU ((af S.O tk).ah.length) (qM)),(80,vI ↑((af S.O tk).ah.length)),(81,vI ↑j)])) (λ(j,Ae,ce)=>([Uy b15 S i tk Ae j ce,.abs (aG 149 2 Ae j ce (mV (((af S.O tk).ah.take j).map (gA S.O)))),Ux L tk S,.ay b16 [.map (some (L.m tk))] 145,Uz oU S tk qM]++Qb b5 An i cn K S A7 c8 b4 f m t L++[pD S.O L,aef S L tk,.abs R])) (0,none,0) [3,16,0,1,2,4,5,6,7,8,9,10,11,12,13,14,15] ((ahj _)) ?_)))))
   rintro⟨j,Ae,ce⟩ hj
   refine SR (jK 1 [82] [] (NN (aq.seq (cP ((((j:Nat):Int):Int)<((((af S.O tk).ah.length:Nat):Int):Int)) (λMw=>?_) (λMw=>?_)))))
   ·have hj2:j<(af S.O tk).ah.length:=zc
    refine KX (aq.seq (aq.block (SR (av.tell (p:=(oU=some ⟨br oU,bq oU,none⟩)) (λw hS=>let ⟨F,h⟩:=hS.get (i:=4) rfl;(aG.Bo h zc).1) (λhAs=>jK 3 [13] [(0,x_ j ((af S.O tk).ah.length) (hAs)),(1,p_ ⟨[.view 4 (.string (nX (af S.O tk).ah j))],none,none,none,none⟩ [(∀F w,(aG 9 1 oU ((af S.O tk).ah.length) qM (yq (af S.O tk).ah)).h F w->w.cell? ⟨(br oU),bq oU+j*1,none⟩=some (.string (nX (af S.O tk).ah j)))] ⟨aG.cellAt (i:=j) (j:=0) zc (TJ hj2),trivial⟩)] (NN ?_))))))
    obtain⟨hgd,h4⟩:=afN hI.toInv0 ck hj2
    have hgs:(nX (af S.O tk).ah j).size<=255:=hgd.2.1
    rcases h4 with ⟨ek,dW,Iz,Xq⟩|⟨ek,dW,Iz,Xq⟩|⟨ek,dW,Iz,Xq⟩
    ·have hke:(af S.O ek).kind=1:=hI.kind Iz
     refine rM (List.range 18) 9 [2,13,0] (jR 8 [0,2,3,8,11,19,20,21,79,80,81,86,87,91,92] [(1,a_ 2 b15),(6,v_ 1 (dw L bC))] (cu.ji 0 (d:=(some 93)) (t:=145) (K:=9) (E:=133) (b:=(L.m tk)) (cnt:=(af S.O tk).ah.length) (f:=(nJ L (af S.O tk).ah)) (x:=(.tmp 91)) (ix:=(.tmp 92)) (key:=.string (nX (af S.O tk).ah j)) (z:=.nilIface) (kl:=(.string (nX (af S.O tk).ah j).data.toList)) (q:=(some (iz L ⟨ek,1⟩))) KB KB (λ_=>KB) (λ_=>KB) Hs Tryz.underlying145 (λ_=>KB) (Kp zc) (by rw [zA,dW];rfl) KB (mL [2,13,0] [] (gq (L.b ek)) ?_ (by rintro _ _ ⟨rfl,rfl⟩;rfl))))
     rintro _ _ ⟨rfl,rfl⟩
     refine nC [2,13,0] [95] [] [] (nC [2,13,0] [96] [] [] (nC [2,13,0] [97] [(0,v_ 13 (yP L hke))] [] (nC [2,13,0] [98] [] [] (mN [2,13,0] (λb19=>[(99,.slice (some ⟨b19,0,none⟩) (1) (1))]) (λ_=>[]) (λb19=>.ay b19 [.string (nX (af S.O tk).ah j),vI ((af S.O ek).id)] 149) (λb19=>cu.cut (ι:=(Option Addr)×Nat) (bY:=λ((oo,oq):(Option Addr)×Nat)=>(Z6 f b4 b5 b15 L tk A7 S c8 i oU qM j oo oq)) (dK:=λ((oo,oq):(Option Addr)×Nat)=>([Uy b15 S i tk Ae j ce,Z5 oo j oq S tk,Ux L tk S,.ay b16 [.map (some (L.m tk))] 145,Uz oU S tk qM]++Qb b5 An i cn K S A7 c8 b4 f m t L++Z8 S L tk R b19 j ek)) [2,13,0] rfl rfl ?_ rfl (λ_=>KB) ?_)))))
     ·exact mU 1 93 (some ⟨b19,0,none⟩) 1 1 [.string (nX (af S.O tk).ah j),vI ((af S.O ek).id)] rfl (fU (j:=17) rfl) (λoo oq=>av.cO 1 rfl (ahg (λx=>HP.abs (aG 149 2 _ _ _ x)) (ER hj2 Xq)) (sl 100 (.slice oo (j+1) (oq)) (.slice oo ((j+1)) (oq)) (rfl) (NL (MD (oo,oq) [0,2,3,8,11,19,20,21,79,80,81,100] [0,1,2,3,4,5,6,7,8,9,10,11,12,13,14,15,16,17]))))
     rintro⟨oo,oq⟩
     exact nC [2,13,0] [101] [] [] (cu.last rfl rfl (jC 1 [] [(0,a_ 0 b15)] [(0,[(9,.slice oo ((j+1)) (oq))])] (NL (aB.np (BX (aq.region (jK 2 [81] [(0,wJ ((j:Int)+1) (↑(j+1)))] (NL (tJ ((j+1),oo,oq) [0,1,2,3,4,5,6,7,8,9,10,11,12,13,14,15,16] (zc))))))))))
    ·have hke:(af S.O ek).kind=2:=hI.kind Iz
     refine rM (List.range 18) 9 [2,13,0] (jR 8 [0,2,3,8,11,19,20,21,79,80,81,86,87,91,92] [(1,a_ 2 b15),(6,v_ 1 (dw L bC))] (cu.ji 0 (d:=(some 93)) (t:=145) (K:=9) (E:=133) (b:=(L.m tk)) (cnt:=(af S.O tk).ah.length) (f:=(nJ L (af S.O tk).ah)) (x:=(.tmp 91)) (ix:=(.tmp 92)) (key:=.string (nX (af S.O tk).ah j)) (z:=.nilIface) (kl:=(.string (nX (af S.O tk).ah j).data.toList)) (q:=(some (iz L ⟨ek,2⟩))) KB KB (λ_=>KB) (λ_=>KB) Hs Tryz.underlying145 (λ_=>KB) (Kp zc) (by rw [zA,dW];rfl) KB (mL [2,13,0] [] (gq (L.b ek)) ?_ (by rintro _ _ ⟨rfl,rfl⟩;rfl))))
     rintro _ _ ⟨rfl,rfl⟩
     refine nC [2,13,0] [95] [] [] (nC [2,13,0] [96] [] [] (nC [2,13,0] [97] [(0,v_ 13 (yP L hke))] [] (nC [2,13,0] [98] [] [] (mN [2,13,0] (λmR=>[(99,.slice (some ⟨mR,0,none⟩) (1) (1))]) (λ_=>[]) (λmR=>.ay mR [.string (nX (af S.O tk).ah j),vI ((af S.O ek).id)] 149) (λmR=>cu.cut (ι:=(Option Addr)×Nat) (bY:=λ((uo,uq):(Option Addr)×Nat)=>(Z6 f b4 b5 b15 L tk A7 S c8 i oU qM j uo uq)) (dK:=λ((uo,uq):(Option Addr)×Nat)=>([Uy b15 S i tk Ae j ce,Z5 uo j uq S tk,Ux L tk S,.ay b16 [.map (some (L.m tk))] 145,Uz oU S tk qM]++Qb b5 An i cn K S A7 c8 b4 f m t L++Z8 S L tk R mR j ek)) [2,13,0] rfl rfl ?_ rfl (λ_=>KB) ?_)))))
     ·exact mU 1 93 (some ⟨mR,0,none⟩) 1 1 [.string (nX (af S.O tk).ah j),vI ((af S.O ek).id)] rfl (fU (j:=17) rfl) (λuo uq=>av.cO 1 rfl (ahg (λx=>HP.abs (aG 149 2 _ _ _ x)) (ER hj2 Xq)) (sl 100 (.slice uo (j+1) (uq)) (.slice uo ((j+1)) (uq)) (rfl) (NL (MD (uo,uq) [0,2,3,8,11,19,20,21,79,80,81,100] [0,1,2,3,4,5,6,7,8,9,10,11,12,13,14,15,16,17]))))
     rintro⟨uo,uq⟩
     exact nC [2,13,0] [101] [] [] (cu.last rfl rfl (jC 1 [] [(0,a_ 0 b15)] [(0,[(9,.slice uo ((j+1)) (uq))])] (NL (aB.np (BX (aq.region (jK 2 [81] [(0,wJ ((j:Int)+1) (↑(j+1)))] (NL (tJ ((j+1),uo,uq) [0,1,2,3,4,5,6,7,8,9,10,11,12,13,14,15,16] (zc))))))))))
    have hke:(af S.O ek).kind=3:=hI.kind Iz
    refine rM (List.range 18) 9 [2,13,0] (jR 8 [0,2,3,8,11,19,20,21,79,80,81,86,87,91,92] [(1,a_ 2 b15),(6,v_ 1 (dw L bC))] (cu.ji 0 (d:=(some 93)) (t:=145) (K:=9) (E:=133) (b:=(L.m tk)) (cnt:=(af S.O tk).ah.length) (f:=(nJ L (af S.O tk).ah)) (x:=(.tmp 91)) (ix:=(.tmp 92)) (key:=.string (nX (af S.O tk).ah j)) (z:=.nilIface) (kl:=(.string (nX (af S.O tk).ah j).data.toList)) (q:=(some (iz L ⟨ek,3⟩))) KB KB (λ_=>KB) (λ_=>KB) Hs Tryz.underlying145 (λ_=>KB) (Kp zc) (by rw [zA,dW];rfl) KB (mL [2,13,0] [] (gq (L.b ek)) ?_ (by rintro _ _ ⟨rfl,rfl⟩;rfl))))
    rintro _ _ ⟨rfl,rfl⟩
    refine nC [2,13,0] [95] [] [] (nC [2,13,0] [96] [] [] (nC [2,13,0] [97] [(0,v_ 13 (yP L hke))] [] (nC [2,13,0] [98] [] [] (mN [2,13,0] (λsG=>[(99,.slice (some ⟨sG,0,none⟩) (1) (1))]) (λ_=>[]) (λsG=>.ay sG [.string (nX (af S.O tk).ah j),vI ((af S.O ek).id)] 149) (λsG=>cu.cut (ι:=(Option Addr)×Nat) (bY:=λ((qy,qz):(Option Addr)×Nat)=>(Z6 f b4 b5 b15 L tk A7 S c8 i oU qM j qy qz)) (dK:=λ((qy,qz):(Option Addr)×Nat)=>([Uy b15 S i tk Ae j ce,Z5 qy j qz S tk,Ux L tk S,.ay b16 [.map (some (L.m tk))] 145,Uz oU S tk qM]++Qb b5 An i cn K S A7 c8 b4 f m t L++Z8 S L tk R sG j ek)) [2,13,0] rfl rfl ?_ rfl (λ_=>KB) ?_)))))
    ·exact mU 1 93 (some ⟨sG,0,none⟩) 1 1 [.string (nX (af S.O tk).ah j),vI ((af S.O ek).id)] rfl (fU (j:=17) rfl) (λqy qz=>av.cO 1 rfl (ahg (λx=>HP.abs (aG 149 2 _ _ _ x)) (ER hj2 Xq)) (sl 100 (.slice qy (j+1) (qz)) (.slice qy ((j+1)) (qz)) (rfl) (NL (MD (qy,qz) [0,2,3,8,11,19,20,21,79,80,81,100] [0,1,2,3,4,5,6,7,8,9,10,11,12,13,14,15,16,17]))))
    rintro⟨qy,qz⟩
    exact nC [2,13,0] [101] [] [] (cu.last rfl rfl (jC 1 [] [(0,a_ 0 b15)] [(0,[(9,.slice qy ((j+1)) (qz))])] (NL (aB.np (BX (aq.region (jK 2 [81] [(0,wJ ((j:Int)+1) (↑(j+1)))] (NL (tJ ((j+1),qy,qz) [0,1,2,3,4,5,6,7,8,9,10,11,12,13,14,15,16] (zc))))))))))
   refine XX (aq.region ?_)
   have hjl:j=(af S.O tk).ah.length:=zc
   exact av.mem (λw hS=>hS.ac3 (i:=15) (j:=2) (ar:=[0,1,3,4,5,6,7,8,9,10,11,12,13,14,16]) (k:=tk) rfl rfl KB rfl (bC)) (jN 4 [104,106] (λjf=>[(1,a_ 5 b5),(2,A_ 1 b15 10)]) (λ_=>[]) (λjf=>.ay jf [vI ((gI S i)),vI 2,vI ((af S.O tk).mode),vI ((af S.O tk).bg),vI ((af S.O tk).bh),vI ((af S.O tk).aU),vI ((af S.O tk).aJ),.slice none (0) (0),.string ⟨#[]⟩,.slice Ae (j) (ce)] 95) (λjf=>mU 6 22 (some ⟨jf,0,none⟩) 1 1 [vI ((gI S i)),vI 2,vI ((af S.O tk).mode),vI ((af S.O tk).bg),vI ((af S.O tk).bh),vI ((af S.O tk).aU),vI ((af S.O tk).aJ),.slice none (0) (0),.string ⟨#[]⟩,.slice Ae (j) (ce)] rfl (fU (j:=16) rfl) (λAQ AR=>av.cO 6 rfl (ahg (λx=>HP.abs (aG 95 10 _ _ _ x)) (vM (iM zc) (AJ hI.toInv0 hi2 qK ck) rfl (by show ((af S.O tk).ah.map (gA S.O)).length=j;rw [ahz,hjl]))) (sl 107 (.slice AQ (i+1) (AR)) (.slice AQ ((i+1)) (AR)) (rfl) (jC 2 [] [(1,a_ 5 b5)] [(5,[(0,.slice AQ ((i+1)) (AR))])] (LX (aq.region (jK 2 [21] [(0,wJ ((i:Int)+1) (↑(i+1)))] (NL (aB.mem (λw hS=>hS.mF (e:=5) (size:=1)) (aB.mem (λw hS=>hS.tK (R':=(lg ((aY S).take (i+1)) (K.put i none 0 Ae ce))) (i:=8) (j:=17) (ar:=[0,1,2,3,4,5,6,7,9,10,11,12,13,14,15,16]) rfl rfl KB rfl (Dw (iM zc) (AJ hI.toInv0 hi2 qK ck)) (BO (iM zc) (AJ hI.toInv0 hi2 qK ck) rfl)) (aB.mem (λw hS=>hS.tK (R':=(q8 ((aY S).take (i+1)) (K.put i none 0 Ae ce))) (i:=8) (j:=3) (ar:=[0,1,2,4,5,6,7,9,10,11,12,13,14,15,16]) rfl rfl KB rfl (Dx (iM zc) (AJ hI.toInv0 hi2 qK ck)) ((BP (iM zc) (AJ hI.toInv0 hi2 qK ck) (by show ((af S.O tk).ah.map (gA S.O)).length=j;rw [ahz,hjl])).trans (by rw [hjl,ahG]))) (tJ ((i+1),AQ,AR,(K.put i none 0 Ae ce)) [6,7,0,1,8,9,10,11,12,13,2,14] (zc))))))))))))))
  have bC:(af S.O tk).kind=3:=hI.kind ck
  have hel:(af S.O tk).ah.length<=8192:=hI.lI ck
  have hdl:(af S.O tk).data.length<=140737488355328:=hI.Tk ck
  refine aq.region (jK 5 [28,29] [(3,a_ 6 f)] (av.ji 7 (d:=(some 30)) (t:=129) (K:=3) (E:=133) (b:=m) (n:=S.ar.length) (f:=(cQ (cM L S.ar))) (x:=(.tmp 28)) (ix:=(.tmp 29)) (key:=vI ((gI S i))) (z:=.nilIface) (kl:=(.int .i64 (gI S i))) (r:=(some (iz L ⟨tk,3⟩))) (λ_=>KB) KB (λ_=>KB) (λ_=>KB) iY Tryz.underlying129 (λ_=>KB) (mB (KN hI.toInv0 hi2)) (by rw [j8,hget,qK];rfl) (jK 1 [6] [] (NS (jK 1 [31] [] (gE [] (gq (L.b tk)) (jK 1 [7] [] (NN (aq.seq (aq.rz (S:=[pO S.O L]) (yY [0,1,3,4,5,6,7,8,9,10,11,12,13,14,15,16,17,18] (oJ 20 [(false,21)] [(false,2),(false,19)])) [8] (gT (oJ 20 [(false,21)] [(false,2),(false,19)]) (Fs f b4 b5++[(6,.iface 141 (vP (L.b tk)))]++Fu A7 S c8 i++[(33,vI ((gI S i))),(34,.iface 141 (vP (L.b tk)))]++Lb S tk) [0,1,3,4,5,6,7,8,9,10,11,12,13,14,15,16,17,18] [(5,v_ 0 (Bd L bC)),(9,v_ 0 (Gf L bC)),(13,v_ 0 (Gg L bC)),(17,p_ ⟨[.view 0 (.int .i64 ((af S.O tk).aU)),.view 0 (.int .i64 ((af S.O tk).aJ))],none,none,none,none⟩ [(∀F w,(aW (d8 S.O L)).h F w->w.cell? ⟨(L.b tk),5,none⟩=some (vI ((af S.O tk).aJ))),(∀F w,(aW (d8 S.O L)).h F w->w.cell? ⟨(L.b tk),4,none⟩=some (vI ((af S.O tk).aU)))] ⟨jc (by rw [bC];decide) (rfl),jc (by rw [bC];decide) (rfl),trivial⟩)] (oA.one (j:=20) (dj:=8) (R:=λf_ l_=>f_=([(52,.agg #[vI ((gI S i)),vI 3,vI ((af S.O tk).mode),vI ((af S.O tk).bg),vI ((af S.O tk).bh),vI ((af S.O tk).aU),vI ((af S.O tk).aJ),.slice none (0) (0),.string ⟨#[]⟩,.slice none (0) (0)]),(35,vI 3)]++Fs f b4 b5++[(6,.iface 141 (vP (L.b tk)))]++Fu A7 S c8 i++[(33,vI ((gI S i))),(34,.iface 141 (vP (L.b tk)))]++Lb S tk)/\l_=[]) [8] [(false,2,35),(false,19,52)] (jt.of (ι:=Nat) (v:=λ(ur:Nat)=>vP ur) (l:=λ(ur:Nat)=>[zk8 ur]) [35,52] rfl rfl rfl rfl ?_) ?_ ?_))))))))))))
  ·intro u Aq
   exact jB 1 [8] (λur=>.ay ur [vI 0,vI 0,vI 0,vI 0,vI 0,vI 0,vI 0,.slice none (0) (0),.string ⟨#[]⟩,.slice none (0) (0)] 95) (λur=>NL (MD ur [8,35,52,0,2,3,6,19,20,21,33,34,39,43,47,51] [1,0]))
  ·refine eF.step (jt.of (ι:=Unit) (v:=λ(_:Unit)=>.int .i64 3) (l:=λ(_:Unit)=>[]) [8] rfl rfl rfl rfl ?_) ?_
   ·intro u Aq
    exact gE [] (uR (vP (L.b tk))) (NL (MD () [35,8,0,2,3,6,19,20,21,33,34,39,43,47,51] [0]))
   rintro _ _ ⟨_,rfl,rfl⟩
   refine eF.step (jt.of (ι:=Unit) (v:=λ(_:Unit)=>.agg #[vI ((gI S i)),vI 3,vI ((af S.O tk).mode),vI ((af S.O tk).bg),vI ((af S.O tk).bh),vI ((af S.O tk).aU),vI ((af S.O tk).aJ),.slice none (0) (0),.string ⟨#[]⟩,.slice none (0) (0)]) (l:=λ(_:Unit)=>[]) [8] rfl rfl rfl rfl ?_) ?_
   ·intro u Aq
    exact jK 1 [52] [] (NL (MD () [52,8,35,0,2,3,6,19,20,21,33,34,39,43,47,51] [0]))
   rintro _ _ ⟨_,rfl,rfl⟩
   exact⟨rfl,rfl⟩
  rintro _ _ ⟨rfl,rfl⟩ _ _ ⟨ur,rfl,rfl⟩
  exact fF.last KB (jC 1 [] [(0,A_ 0 ur 10)] [(0,([(0,vI ((gI S i))),(1,vI 3)]++Z7 S tk))] (NL (aB.np (NX (SQ (jK 1 [53] [] (NN (aq.block (SR (jK 3 [55,56] [] (NF (SR (jK 3 [64,65] [] (NT (SR (jK 1 [10] [] (NN (aq.region (jC 6 [] [(3,v_ 9 (afe L bC)),(5,a_ 0 ur)] [(0,[(8,.string (af S.O tk).target)])] (LX (aq.region (jN 4 [104,106] (λb32=>[(1,a_ 1 b5),(2,A_ 0 ur 10)]) (λ_=>[]) (λb32=>.ay b32 [vI ((gI S i)),vI 3,vI ((af S.O tk).mode),vI ((af S.O tk).bg),vI ((af S.O tk).bh),vI ((af S.O tk).aU),vI ((af S.O tk).aJ),.slice none (0) (0),.string (af S.O tk).target,.slice none (0) (0)] 95) (λb32=>mU 2 22 (some ⟨b32,0,none⟩) 1 1 [vI ((gI S i)),vI 3,vI ((af S.O tk).mode),vI ((af S.O tk).bg),vI ((af S.O tk).bh),vI ((af S.O tk).aU),vI ((af S.O tk).aJ),.slice none (0) (0),.string (af S.O tk).target,.slice none (0) (0)] rfl (fU (j:=13) rfl) (λMc Md=>av.cO 2 rfl (ahg (λx=>HP.abs (aG 95 10 _ _ _ x)) (vM (iM zc) (yw hI.toInv0 hi2 qK ck) rfl rfl)) (sl 107 (.slice Mc (i+1) (Md)) (.slice Mc ((i+1)) (Md)) (rfl) (jC 2 [] [(1,a_ 1 b5)] [(1,[(0,.slice Mc ((i+1)) (Md))])] (LX (aq.region (jK 2 [21] [(0,wJ ((i:Int)+1) (↑(i+1)))] (NL (aB.mem (λw hS=>hS.mF (e:=5) (size:=1)) (aB.mem (λw hS=>hS.mF (e:=149) (size:=2)) (aB.mem (λw hS=>hS.tK (R':=(lg ((aY S).take (i+1)) (K.put i none 0 none 0))) (i:=4) (j:=14) (ar:=[0,1,2,3,5,6,7,8,9,10,11,12,13,15]) rfl rfl KB rfl (Dw (iM zc) (yw hI.toInv0 hi2 qK ck)) (BO (iM zc) (yw hI.toInv0 hi2 qK ck) rfl)) (aB.mem (λw hS=>hS.tK (R':=(q8 ((aY S).take (i+1)) (K.put i none 0 none 0))) (i:=4) (j:=14) (ar:=[0,1,2,3,5,6,7,8,9,10,11,12,13]) rfl rfl KB rfl (Dx (iM zc) (yw hI.toInv0 hi2 qK ck)) ((BP (iM zc) (yw hI.toInv0 hi2 qK ck) rfl))) (tJ ((i+1),Mc,Md,(K.put i none 0 none 0)) [3,4,0,1,5,6,7,8,9,10,11,12] (zc))))))))))))))))))))))))))))))))))))
 refine XX (SR ?_)
 have hie:(aY S).length=i:=by rw [ig];omega
 have hgt:((aY S).take i)=(aY S):=by rw [←hie,ahG]
 exact av.cO 1 (p:=.abs (aG 95 10 An i cn (bH K ((aY S).take i)))) (p':=.abs (aG 95 10 An ((aY S).length) cn (bH K (aY S)))) KB (by rw [hgt,hie]) (av.cO 2 (p:=.abs (iL (q8 ((aY S).take i) K) i)) (p':=.abs (iL (q8 (aY S) K) ((aY S).length))) KB (by rw [hgt,hie]) (av.cO 3 (p:=.abs (iL (lg ((aY S).take i) K) i)) (p':=.abs (iL (lg (aY S) K) ((aY S).length))) KB (by rw [hgt,hie]) (jC 2 [] [(0,a_ 0 b5),(1,a_ 5 b4)] [(5,[(0,.slice An (i) (cn))])] (eS [a_ 5 b4] ⟨An,cn,K,by rw [hie],rfl⟩ [6,7,8,9,10,1,2,3,11]))))
end
section
open Go.RowKit Go.Maps bG aF
attribute [local irreducible] av bP aq aB cu fF oA
abbrev zl1 (b2:Nat) (X:FM):=(.ay b2 [vI (X.cN),vI (X.cB),vI (X.cH),vI (X.cS),vI (X.cZ)] 28:HP)
abbrev Sz (b1:Nat) (A:Option Addr) (ns:List aO) (c):=(.ay b1 [.slice A (ns.length) (c)] 24:HP)
abbrev zl3 (b9:Nat) (ns) (k:Nat):=(.ay b9 [vI ((nd ns k).id),vI ((nd ns k).mode),vI ((nd ns k).bg),vI ((nd ns k).bh),vI ((nd ns k).aU),vI ((nd ns k).aJ),vI 0,vI 0,.bool false] 137:HP)
abbrev zl4 (b1:Nat) (X:FM):=([(2,vP b1),(39,.agg #[vI (X.cN),vI (X.cB),vI (X.cH),vI (X.cS),vI (X.cZ)])]:Fr)
abbrev zl5 (b7:Nat) (m3:Nat) (t4:Nat) (S:bB) (L:HL) (R:dV):=([pF b7 m3 t4 S.X,pI m3 L S.ar,pT t4 S.X.cH S.aI L S.us,pO S.O L,pD S.O L,pE S.O L,.abs R]:List HP)
theorem SB {β:Bs} (A:Option Addr) (c:Nat) (ns:List aO) (Y:eP) (hG:aQ β A ns Y) (hl:ns.length<=1048576) (hd:∀i,i<ns.length->(nd ns i).data.length<=1048576/\(nd ns i).ah.length<=1048576) (hwf:∀i,i<ns.length->∀j,j<(nd ns i).ah.length->-9223372036854775808<=(bU ns i j).id/\(bU ns i j).id<=9223372036854775807) (hnm:∀i,i<ns.length->∀j,j<(nd ns i).ah.length->(bU ns i j).name.size<=1048576) (X:FM) :
 aX Tryz.prog β 43 #[.agg #[.slice A (ns.length) (c)],.agg #[vI (X.cN),vI (X.cB),vI (X.cH),vI (X.cS),vI (X.cZ)]] [] (λv l=>(¬kJ X/\v=.tuple #[.pointer none,vI 179]/\l=[])\/(kJ X/\¬cG ns/\v=.tuple #[.pointer none,vI 140]/\l=[])\/(kJ X/\cG ns/\∃S f m t L,kP X ns ns.length 0 S/\v=.tuple #[vP f,vI 0]/\l=pA f m t L S)):=by
 refine SE Tryz.func43 Tryz.ntmps43 (λR=>SR (jB 1 [2] (λb1=>.ay b1 [.slice A (ns.length) (c)] 24) (λb1=>jB 3 [3] (λb2=>.ay b2 [vI (X.cN),vI (X.cB),vI (X.cH),vI (X.cS),vI (X.cZ)] 28) (λb2=>NZ (jK 2 [15] [(1,a_ 2 b2)] (gE [] (kN X.cN 4096) (jK 2 [18] [] (sN 18 ((0<=X.cN/\X.cN<=4096)) (λp4=>jK 17 [35] [] (NT (zR (.inl ⟨λh=>p4 h.cN,rfl,rfl⟩)))) (λp4=>jK 2 [20] [(1,a_ 2 b2)] (gE [] (kN X.cB 1099511627776) (jK 3 [24] [] (sN 24 ((0<=X.cB/\X.cB<=1099511627776)) (λrG=>jK 11 [35] [] (NT (zR (.inl ⟨λh=>rG h.cB,rfl,rfl⟩)))) (λrG=>jK 2 [26] [(1,a_ 2 b2)] (gE [] (kN X.cH 1024) (jK 3 [30] [] (sN 30 ((0<=X.cH/\X.cH<=1024)) (λnQ=>jK 5 [35] [] (NT (zR (.inl ⟨λh=>nQ h.cH,rfl,rfl⟩)))) (λnQ=>jK 2 [32] [(1,A_ 2 b2 2)] (gE [] (nE X.cS X.cZ) (jK 2 [35] [] (NN (cN (gj X.cS X.cZ) (λnS=>zR (.inl ⟨λh=>nS h.now,rfl,rfl⟩)) (λnS=>?_))))))))))))))))))))))
 have hcap:kJ X:=⟨p4,rG,nQ,nS⟩
 refine KX (SQ (jK 1 [36] [(0,a_ 1 b1)] (gE [] (YN A c ns Y hG hl (λi hi=>⟨ahk (hd i hi).1 Pd,(hd i hi).2⟩) hwf hnm) (jK 1 [38] [] (NN (cN (((if cG ns then 0 else 140):Int)=(0:Int)) (λEw=>?_) (λEw=>?_)))))))
 ·have hng:¬cG ns:=λh=>Ew (ahf h)
  exact zR (.inr (.inl ⟨hcap,hng,rfl,rfl⟩))
 have hok:cG ns:=ahF (λh=>Pe)
 refine KX (aq.seq (aq.rz (S:=[zl1 b2 X]) (yY [0,2,3] (oJ 4 [(false,5),(false,6),(false,7)] [(false,1)])) [2] (gT (oJ 4 [(false,5),(false,6),(false,7)] [(false,1)]) (zl4 b1 X++[(42,vI (X.cH))]) [0,2,3] [(0,A_ 0 b2 5),(2,a_ 0 b2)] (oA.one (j:=4) (dj:=43) (R:=λf_ l_=>∃m3:Nat,f_=(40,.map (some m3))::(zl4 b1 X++[(42,vI (X.cH))])/\l_=[.abs (bD Tryz.prog 3 m3 (λ_=>none) 0)]) [2] [(false,1,40)] (jt.of (ι:=Nat) (v:=λ(t4:Nat)=>vP t4) (l:=λ(t4:Nat)=>[.abs (fD 182 t4 (min (max X.cH 0) 1024) 0 [])]) [40] rfl rfl rfl rfl ?_) ?_ ?_))))
 ·intro u Aq
  exact gX [] (Yr X.cH) (λt4=>NL (MD t4 [43,40,2,39,42] [0,1]))
 ·refine eF.step (jt.of (ι:=Nat) (v:=λ(m3:Nat)=>.map (some m3)) (l:=λ(m3:Nat)=>[.abs (bD Tryz.prog 3 m3 (λ_=>none) 0)]) [43] rfl rfl rfl rfl ?_) ?_
  ·intro u Aq
   exact av.tG (d:=(some 40)) (t:=129) (λ_=>KB) Tryz.prog rfl 3 (λm3=>NL (MD m3 [40,43,2,39,42] [1,0]))
  rintro _ _ ⟨m3,rfl,rfl⟩
  exact⟨m3,rfl,rfl⟩
 rintro _ _ ⟨m3,rfl,rfl⟩ _ _ ⟨t4,rfl,rfl⟩
 refine fF.cut (ι:=Unit) (bY:=λ(_:Unit)=>[(2,vP b1),(44,.agg #[vI (X.cN),vI (X.cB),vI (X.cH),vI (X.cS),vI (X.cZ),.map (some m3),vP t4,vI 0,vI 0,vI 0])]) (dK:=λ(_:Unit)=>[.abs (fD 182 t4 (min (max X.cH 0) 1024) 0 []),.abs R,Sz b1 A ns c,zl1 b2 X,.abs (bD Tryz.prog 3 m3 (λ_=>none) 0)]) [3] KB ?_ rfl (λ_=>KB) ?_
 ·exact jK 1 [44] [] (NL (MD () [2,44] [1,2,3,4,0]))
 rintro _
 refine fF.cut (ι:=Nat) (bY:=λ(b7:Nat)=>[(2,vP b1),(45,vP b7)]) (dK:=λ(b7:Nat)=>[.abs (fD 182 t4 (min (max X.cH 0) 1024) 0 []),.abs R,Sz b1 A ns c,zl1 b2 X,.abs (bD Tryz.prog 3 m3 (λ_=>none) 0),pF b7 m3 t4 {X with last:=0,ah:=0,used:=0}]) [3] KB ?_ rfl (λ_=>KB) ?_
 ·exact jB 1 [45] (λb7=>pF b7 m3 t4 {X with last:=0,ah:=0,used:=0}) (λb7=>NL (MD b7 [2,45] [0,1,2,3,4,5]))
 rintro b7
 refine fF.last KB (jK 1 [6] [] (NL (aB.np (NX (aq.seq (SR ?_))))))
 obtain⟨L,hL0⟩:∃L:HL,L=⟨λ_=>0,λ_=>0,λ_=>none,λ_=>0⟩:=⟨_,rfl⟩
 refine av.mem (λw hS=>hS.M5 (d8 (BQ X).O L) (HZ X L).1) (av.mem (λw hS=>hS.M5 (dN (BQ X).O L) (HZ X L).2.1) (av.mem (λw hS=>hS.M5 (fM (BQ X).O L) (HZ X L).2.2) ?_))
 have hc:min (max X.cH 0) 1024=X.cH:=by have:=hcap.cH;omega
 refine av.mem (λw hS=>by rw [hc,←Ob] at hS;exact hS) (jK 4 [47,48,49] [(1,a_ 2 b1)] (NN (aq.block (lJ (λ(k,S,L)=>(k<=ns.length)/\(xB X ns k S)) (λ(k,S,L)=>ns.length-k) (λ(k,S,L)=>[(2,vP b1),(6,vP b7),(47,.slice A (ns.length) (c)),(48,vI ↑ns.length),(49,vI ↑k)]) (λ(k,S,L)=>([Sz b1 A ns c]++zl5 b7 m3 t4 S L R)) (0,(BQ X),L) [2,5,4,0,6,7,8,1] (⟨ahj _,VR hcap⟩) ?_))))
 rintro⟨k,S,L⟩ ⟨hk,hB⟩
 refine SR (jK 1 [50] [] (NN (aq.seq (cP ((((k:Nat):Int):Int)<(((ns.length:Nat):Int):Int)) (λh50=>?_) (λh50=>?_)))))
 ·have hk2:k<ns.length:=zc
  have hdk:=hd k hk2
  have hds:=LQ (λi hi=>(hd i hi).1) hk
  have yM:=hok.ids k hk2
  have hni:=hB.new hok hk2
  have wV:(Lit.int .i64 (nd ns k).id).wf=true:=WalkArith.wf_i64 zc
  have hkk:=(hok.node k hk2).kind
  have iA:S.X.used=(fW ns k:Int):=by rw [hB.cap]
  have hil:=hB.inv.len
  refine KX (aq.seq (aq.block (SR (jN 4 [8] (λb8=>[(0,x_ k ns.length (aQ.hd hG (i:=k) zc)),(1,D2 (iy Y k (nd ns k)) (λ_ _ h=>aQ.rd hG zc h)),(3,A_ 8 b8 10)]) (λ_=>[]) (λb8=>.ay b8 (iy Y k (nd ns k)) 95) (λb8=>NS (jN 13 [9] (λb9=>[(1,a_ 8 b8),(3,a_ 8 b8),(5,a_ 8 b8),(7,a_ 8 b8),(9,A_ 8 b8 2),(12,A_ 9 b9 9)]) (λ_=>[]) (λb9=>.ay b9 [vI ((nd ns k).id),vI ((nd ns k).mode),vI ((nd ns k).bg),vI ((nd ns k).bh),vI ((nd ns k).aU),vI ((nd ns k).aJ),vI 0,vI 0,.bool false] 137) (λb9=>NZ (jK 2 [65] [(1,a_ 8 b8)] (NN (aq.block (SR (jK 2 [77] [] (NN (cP (((nd ns k).kind:Int)=(1:Int)) (λhk1=>?_) (λhk1=>?_)))))))))))))))
  ·refine rM (List.range 14) 9 [1,8,9] (jR 9 [2,6,8,47,48,49,82,84,85,87] [(3,a_ 0 b7),(5,a_ 1 b8),(6,A_ 2 b9 9),(8,a_ 1 b8)] (mL [2,9,10] [] (xH (Y.dA k) (Y.dC k) (nd ns k).data (hG.data k zc) (by have:=(hd k zc).1;omega)) ?_ (by rintro _ _ ⟨Fv,c11,rfl,rfl⟩;rfl)))
   rintro _ _ ⟨Fv,c11,rfl,rfl⟩
   refine nC [2,9,10] [89] [] [] (mN [2,9,10] (λb12=>[(90,vP b12)]) (λ_=>[]) (λb12=>.ay b12 [vI ((nd ns k).id),vI ((nd ns k).mode),vI ((nd ns k).bg),vI ((nd ns k).bh),vI ((nd ns k).aU),vI ((nd ns k).aJ),vI 0,vI 0,.bool false,.slice Fv ((nd ns k).data.length) (c11)] 140) (λb12=>nC [2,9,10] [91] [] [] (cu.last rfl rfl ?_)))
   obtain⟨L2,fX⟩:∃L2:HL,L2=L.put (jX (nd ns k)) b12 0 Fv c11:=⟨_,rfl⟩
   have hfr:=hB.fresh hok zc
   refine av.mem (λw hS=>hS.BA fX hfr (o:=(wk (nd ns k))) (i:=5) (j:=11) (ix:=[0,1,2,3,4,6,7,8,9,10]) rfl rfl KB rfl (by show (nd ns k).kind≠0;rw [hk1];decide) ((mH (L:=L2) (k:=(jX (nd ns k))) (o:=(wk (nd ns k))) hk1).trans (by rw [show L2.dA (jX (nd ns k))=Fv by rw [fX];exact ahf rfl,show L2.dC (jX (nd ns k))=c11 by rw [fX];exact ahf rfl];rfl)) (by show sM (nd ns k).kind=_;rw [hk1]<;>rfl)) (av.gH [(7,.abs (aW (fM ((fY S (nd ns k)).O) L2)))] (λw hS=>hS.CR fX hfr (o:=(wk (nd ns k))) (i:=7) rfl (by show ¬(nd ns k).kind=2;rw [hk1];decide)) (av.mem (λw hS=>hS.ae7 fX (o:=(wk (nd ns k))) (i:=6) (j:=1) (ix:=[0,2,3,4,5,7,8,9,10]) rfl rfl KB rfl hk1) (av.gH [(4,.abs (bD Tryz.prog 3 m3 (cQ (cM L2 S.ar)) S.ar.length)),(5,.abs (fD 182 t4 S.X.cH S.aI (cM L2 S.us)))] (λw hS=>by rw [lX fX hfr.ar,lX fX hfr.us];exact hS) ?_)))
   have Qe:iz L2 (vr (nd ns k))=.iface 138 (vP b12):=by unfold vr;rw [vn fX,hk1];rfl
   exact av.qU 4 (d:=none) (t:=129) (K:=3) (E:=133) (b:=m3) (n:=S.ar.length) (f:=(cQ (cM L2 S.ar))) (x:=(.tmp 82)) (ix:=(.tmp 84)) (y:=(.tmp 91)) (key:=vI ((nd ns k).id)) (u:=.iface 138 (vP b12)) (kl:=(.int .i64 (nd ns k).id)) (n':=(S.ar.length+1)) (f':=(cQ (cM L2 (ins (nd ns k).id (vr (nd ns k)) S.ar)))) (λ_=>KB) KB (λ_=>KB) (λ_=>KB) (λ_=>KB) iY Tryz.underlying129 (by unfold maxLen;omega) (mB wV) (by rw [j8,hni];rfl) (by rw [←Qe];exact zD hni) (NL (aB.np (BX (SR (jC 6 [] [(2,a_ 8 b8),(5,a_ 3 b7)] [(3,[(7,vI ((nd ns k).id))])] (NN (rM (List.range 11) 10 [3,8] (jR 10 [2,6,47,48,49,118,120] [(3,a_ 0 b7),(5,a_ 1 b8),(7,wJ (S.X.used+(((nd ns k).data.length:Nat):Int)) (S.X.used+(((nd ns k).data.length:Nat):Int)))] (cu.last rfl rfl (jC 1 [] [(0,a_ 3 b7)] [(3,[(9,vI (S.X.used+(((nd ns k).data.length:Nat):Int)))])] (NL (aB.np (BX (aq.region (jK 2 [49] [(0,wJ ((k:Int)+1) (↑(k+1)))] (NL (aB.gH [(3,.ay b7 [vI ((fY S (nd ns k)).X.cN),vI ((fY S (nd ns k)).X.cB),vI ((fY S (nd ns k)).X.cH),vI ((fY S (nd ns k)).X.cS),vI ((fY S (nd ns k)).X.cZ),.map (some m3),vP t4,vI ((fY S (nd ns k)).X.last),vI ((fY S (nd ns k)).X.ah),vI ((fY S (nd ns k)).X.used)] 135),(4,.abs (bD Tryz.prog 3 m3 (cQ (cM L2 (fY S (nd ns k)).ar)) ((fY S (nd ns k)).ar.length))),(5,.abs (fD 182 t4 (fY S (nd ns k)).X.cH (fY S (nd ns k)).aI (cM L2 (fY S (nd ns k)).us)))] (λw hS=>by rw [show (fY S (nd ns k)).ar.length=S.ar.length+1 from lE _ _ _];exact hS) (tJ ((k+1),(fY S (nd ns k)),L2) [2,3,4,5,1,0,6,7] (⟨zc,ET hok (λi hi=>(hd i hi).1) zc hB⟩)))))))))))))))))))
  refine SR (jK 2 [92] [] (NN (cP (((nd ns k).kind:Int)=(3:Int)) (λhk3=>?_) (λhk3=>?_))))
  ·refine rM (List.range 13) 10 [1,8,9] (jR 10 [2,6,8,47,48,49,97,99,103] [(3,a_ 0 b7),(5,a_ 1 b8),(6,A_ 2 b9 9),(8,a_ 1 b8)] (mN [1,8,9] (λb13=>[(104,vP b13)]) (λ_=>[]) (λb13=>.ay b13 [vI ((nd ns k).id),vI ((nd ns k).mode),vI ((nd ns k).bg),vI ((nd ns k).bh),vI ((nd ns k).aU),vI ((nd ns k).aJ),vI 0,vI 0,.bool false,.string (nd ns k).target] 143) (λb13=>nC [1,8,9] [105] [] [] (cu.last rfl rfl ?_))))
   obtain⟨L2,fX⟩:∃L2:HL,L2=L.put (jX (nd ns k)) b13 0 none 0:=⟨_,rfl⟩
   have hfr:=hB.fresh hok zc
   refine av.mem (λw hS=>hS.BA fX hfr (o:=(wk (nd ns k))) (i:=4) (j:=10) (ix:=[0,1,2,3,5,6,7,8,9]) rfl rfl KB rfl (by show (nd ns k).kind≠0;rw [hk3];decide) ((ED (L:=L2) (k:=(jX (nd ns k))) (o:=(wk (nd ns k))) hk3).trans ahc) (by show sM (nd ns k).kind=_;rw [hk3]<;>rfl)) (av.gH [(6,.abs (aW (fM ((fY S (nd ns k)).O) L2)))] (λw hS=>hS.CR fX hfr (o:=(wk (nd ns k))) (i:=6) rfl (by show ¬(nd ns k).kind=2;rw [hk3];decide)) (av.gH [(5,.abs (aW (dN ((fY S (nd ns k)).O) L2)))] (λw hS=>hS.Jd fX (o:=(wk (nd ns k))) (i:=5) rfl (by show ¬(nd ns k).kind=1;rw [hk3];decide)) (av.gH [(3,.abs (bD Tryz.prog 3 m3 (cQ (cM L2 S.ar)) S.ar.length)),(4,.abs (fD 182 t4 S.X.cH S.aI (cM L2 S.us)))] (λw hS=>by rw [lX fX hfr.ar,lX fX hfr.us];exact hS) ?_)))
   have Qe:iz L2 (vr (nd ns k))=.iface 141 (vP b13):=by unfold vr;rw [vn fX,hk3];rfl
   exact av.qU 3 (d:=none) (t:=129) (K:=3) (E:=133) (b:=m3) (n:=S.ar.length) (f:=(cQ (cM L2 S.ar))) (x:=(.tmp 97)) (ix:=(.tmp 99)) (y:=(.tmp 105)) (key:=vI ((nd ns k).id)) (u:=.iface 141 (vP b13)) (kl:=(.int .i64 (nd ns k).id)) (n':=(S.ar.length+1)) (f':=(cQ (cM L2 (ins (nd ns k).id (vr (nd ns k)) S.ar)))) (λ_=>KB) KB (λ_=>KB) (λ_=>KB) (λ_=>KB) iY Tryz.underlying129 (by unfold maxLen;omega) (mB wV) (by rw [j8,hni];rfl) (by rw [←Qe];exact zD hni) (NL (aB.np (BX (SR (jC 6 [] [(2,a_ 8 b8),(5,a_ 2 b7)] [(2,[(7,vI ((nd ns k).id))])] (NN (rM (List.range 11) 10 [2,8] (jR 10 [2,6,47,48,49,118,120] [(3,a_ 0 b7),(5,a_ 1 b8),(7,wJ (S.X.used+(((nd ns k).data.length:Nat):Int)) (S.X.used+(((nd ns k).data.length:Nat):Int)))] (cu.last rfl rfl (jC 1 [] [(0,a_ 2 b7)] [(2,[(9,vI (S.X.used+(((nd ns k).data.length:Nat):Int)))])] (NL (aB.np (BX (aq.region (jK 2 [49] [(0,wJ ((k:Int)+1) (↑(k+1)))] (NL (aB.gH [(2,.ay b7 [vI ((fY S (nd ns k)).X.cN),vI ((fY S (nd ns k)).X.cB),vI ((fY S (nd ns k)).X.cH),vI ((fY S (nd ns k)).X.cS),vI ((fY S (nd ns k)).X.cZ),.map (some m3),vP t4,vI ((fY S (nd ns k)).X.last),vI ((fY S (nd ns k)).X.ah),vI ((fY S (nd ns k)).X.used)] 135),(3,.abs (bD Tryz.prog 3 m3 (cQ (cM L2 (fY S (nd ns k)).ar)) ((fY S (nd ns k)).ar.length))),(4,.abs (fD 182 t4 (fY S (nd ns k)).X.cH (fY S (nd ns k)).aI (cM L2 (fY S (nd ns k)).us)))] (λw hS=>by rw [show (fY S (nd ns k)).ar.length=S.ar.length+1 from lE _ _ _];exact hS) (tJ ((k+1),(fY S (nd ns k)),L2) [1,2,3,4,0,5,6,7] (⟨zc,ET hok (λi hi=>(hd i hi).1) zc hB⟩)))))))))))))))))))
  have tF:(nd ns k).kind=2:=zc
  refine rM (List.range 12) 7 [1,8,9] (jR 7 [2,6,8,47,48,49,69,71,72] [(3,a_ 0 b7),(5,a_ 1 b8),(6,A_ 2 b9 9)] (cu.cut (ι:=Nat) (bY:=λ(m14:Nat)=>[(2,vP b1),(6,vP b7),(8,vP b8),(47,.slice A (ns.length) (c)),(48,vI ↑ns.length),(49,vI ↑k),(69,.map (some m3)),(71,vI ((nd ns k).id)),(72,.agg #[vI ((nd ns k).id),vI ((nd ns k).mode),vI ((nd ns k).bg),vI ((nd ns k).bh),vI ((nd ns k).aU),vI ((nd ns k).aJ),vI 0,vI 0,.bool false]),(73,.map (some m14))]) (dK:=λ(m14:Nat)=>([Sz b1 A ns c]++zl5 b7 m3 t4 S L R++[.ay b8 (iy Y k (nd ns k)) 95,zl3 b9 ns k,.abs (bD Tryz.prog 9 m14 (λ_=>none) 0)])) [1,8,9] rfl rfl ?_ rfl (λ_=>KB) ?_))
  ·exact av.tG (d:=(some 73)) (t:=145) (λ_=>KB) Tryz.prog rfl 9 (λm14=>NL (MD m14 [2,6,8,47,48,49,69,71,72,73] [0,1,2,3,4,5,6,7,8,9,10]))
  rintro m14
  refine nC [1,8,9] [74] [] [] (mN [1,8,9] (λb15=>[(75,vP b15)]) (λ_=>[]) (λb15=>.ay b15 [vI ((nd ns k).id),vI ((nd ns k).mode),vI ((nd ns k).bg),vI ((nd ns k).bh),vI ((nd ns k).aU),vI ((nd ns k).aJ),vI 0,vI 0,.bool false,.map (some m14),.pointer none] 147) (λb15=>nC [1,8,9] [76] [] [] (cu.last rfl rfl ?_)))
  obtain⟨L2,fX⟩:∃L2:HL,L2=L.put (jX (nd ns k)) b15 m14 none 0:=⟨_,rfl⟩
  have hfr:=hB.fresh hok zc
  refine av.mem (λw hS=>hS.BA fX hfr (o:=(wk (nd ns k))) (i:=4) (j:=11) (ix:=[0,1,2,3,5,6,7,8,9,10]) rfl rfl KB rfl (by show (nd ns k).kind≠0;rw [tF];decide) ((rO (L:=L2) (k:=(jX (nd ns k))) (o:=(wk (nd ns k))) tF).trans (by rw [Ol fX];rfl)) (by show sM (nd ns k).kind=_;rw [tF]<;>rfl)) (av.mem (λw hS=>hS.aaP fX hfr (o:=(wk (nd ns k))) (i:=6) (j:=10) (ix:=[0,1,2,3,4,5,7,8,9]) rfl rfl KB rfl tF rfl) (av.gH [(6,.abs (aW (dN ((fY S (nd ns k)).O) L2)))] (λw hS=>hS.Jd fX (o:=(wk (nd ns k))) (i:=6) rfl (by show ¬(nd ns k).kind=1;rw [tF];decide)) (av.gH [(4,.abs (bD Tryz.prog 3 m3 (cQ (cM L2 S.ar)) S.ar.length)),(5,.abs (fD 182 t4 S.X.cH S.aI (cM L2 S.us)))] (λw hS=>by rw [lX fX hfr.ar,lX fX hfr.us];exact hS) ?_)))
  have Qe:iz L2 (vr (nd ns k))=.iface 144 (vP b15):=by unfold vr;rw [vn fX,tF];rfl
  exact av.qU 4 (d:=none) (t:=129) (K:=3) (E:=133) (b:=m3) (n:=S.ar.length) (f:=(cQ (cM L2 S.ar))) (x:=(.tmp 69)) (ix:=(.tmp 71)) (y:=(.tmp 76)) (key:=vI ((nd ns k).id)) (u:=.iface 144 (vP b15)) (kl:=(.int .i64 (nd ns k).id)) (n':=(S.ar.length+1)) (f':=(cQ (cM L2 (ins (nd ns k).id (vr (nd ns k)) S.ar)))) (λ_=>KB) KB (λ_=>KB) (λ_=>KB) (λ_=>KB) iY Tryz.underlying129 (by unfold maxLen;omega) (mB wV) (by rw [j8,hni];rfl) (by rw [←Qe];exact zD hni) (NL (aB.np (BX (SR (jC 6 [] [(2,a_ 8 b8),(5,a_ 3 b7)] [(3,[(7,vI ((nd ns k).id))])] (NN (rM (List.range 11) 10 [3,8] (jR 10 [2,6,47,48,49,118,120] [(3,a_ 0 b7),(5,a_ 1 b8),(7,wJ (S.X.used+(((nd ns k).data.length:Nat):Int)) (S.X.used+(((nd ns k).data.length:Nat):Int)))] (cu.last rfl rfl (jC 1 [] [(0,a_ 3 b7)] [(3,[(9,vI (S.X.used+(((nd ns k).data.length:Nat):Int)))])] (NL (aB.np (BX (aq.region (jK 2 [49] [(0,wJ ((k:Int)+1) (↑(k+1)))] (NL (aB.gH [(3,.ay b7 [vI ((fY S (nd ns k)).X.cN),vI ((fY S (nd ns k)).X.cB),vI ((fY S (nd ns k)).X.cH),vI ((fY S (nd ns k)).X.cS),vI ((fY S (nd ns k)).X.cZ),.map (some m3),vP t4,vI ((fY S (nd ns k)).X.last),vI ((fY S (nd ns k)).X.ah),vI ((fY S (nd ns k)).X.used)] 135),(4,.abs (bD Tryz.prog 3 m3 (cQ (cM L2 (fY S (nd ns k)).ar)) ((fY S (nd ns k)).ar.length))),(5,.abs (fD 182 t4 (fY S (nd ns k)).X.cH (fY S (nd ns k)).aI (cM L2 (fY S (nd ns k)).us)))] (λw hS=>by rw [show (fY S (nd ns k)).ar.length=S.ar.length+1 from lE _ _ _];exact hS) (tJ ((k+1),(fY S (nd ns k)),L2) [2,3,4,5,1,6,0,7] (⟨zc,ET hok (λi hi=>(hd i hi).1) zc hB⟩)))))))))))))))))))
 refine XX (SQ (jK 4 [123,124,125] [(1,a_ 0 b1)] (NN (aq.block (lJ (λ(i,S1)=>(i<=ns.length)/\(kP X ns i 0 S1)) (λ(i,S1)=>ns.length-i) (λ(i,S1)=>[(6,vP b7),(123,.slice A (ns.length) (c)),(124,vI ↑ns.length),(125,vI ↑i)]) (λ(i,S1)=>([Sz b1 A ns c]++zl5 b7 m3 t4 S1 L R)) (0,S) [0,1,2,3,4,5,6,7] (⟨ahj _,by have h:=hB;rw [show k=ns.length by omega] at h;exact h.ah⟩) ?_)))))
 rintro⟨i,S1⟩ ⟨hi,hE⟩
 refine SR (jK 1 [126] [] (NN (aq.seq (cP ((((i:Nat):Int):Int)<(((ns.length:Nat):Int):Int)) (λagj=>KX (aq.seq (aq.block (SR (jN 4 [11] (λb16=>[(0,x_ i ns.length (aQ.hd hG (i:=i) zc)),(1,D2 (iy Y i (nd ns i)) (λ_ _ h=>aQ.rd hG zc h)),(3,A_ 8 b16 10)]) (λ_=>[]) (λb16=>.ay b16 (iy Y i (nd ns i)) 95) (λb16=>NS (jK 4 [130,131,132] [(1,a_ 8 b16)] (NN (aq.block (lJ (λ(j,S2)=>(j<=(nd ns i).ah.length)/\(kP X ns i j S2)) (λ(j,S2)=>(nd ns i).ah.length-j) (λ(j,S2)=>[(6,vP b7),(11,vP b16),(123,.slice A (ns.length) (c)),(124,vI ↑ns.length),(125,vI ↑i),(130,.slice (Y.eA i) ((nd ns i).ah.length) ((Y.eC i))),(131,vI ↑((nd ns i).ah.length)),(132,vI ↑j)]) (λ(j,S2)=>([.ay b16 (iy Y i (nd ns i)) 95,Sz b1 A ns c]++zl5 b7 m3 t4 S2 L R)) (0,S1) [8,0,1,2,3,4,5,6,7] (⟨ahj _,hE⟩) ?_)))))))))) (λagj=>XX (zR (.inr (.inr ⟨hcap,hok,S1,b7,m3,t4,L,Pe,rfl,rfl⟩)) [1,2,3,4,5,6,7]))))))
 rintro⟨j,S2⟩ ⟨hj,xO⟩
 refine SR (jK 1 [133] [] (NN (aq.seq (cP ((((j:Nat):Int):Int)<((((nd ns i).ah.length:Nat):Int):Int)) (λagk=>?_) (λagk=>XX (aq.region (jK 2 [125] [(0,wJ ((i:Int)+1) (↑(i+1)))] (NL (tJ ((i+1),S2) [1,2,3,4,5,6,7,8] (⟨zc,by have h:=xO;rw [show j=(nd ns i).ah.length by omega] at h;exact h.next⟩))))))))))
 have hj2:j<(nd ns i).ah.length:=zc
 have hi2:i<ns.length:=zc
 have agl:=xO.get hi2
 obtain⟨hes,iU,hk2⟩:=xO.look hok hi2 hj2
 have hti:=AL hok hi2 hj2
 have hgi:aF.get S2.ar (nd ns i).id=some ⟨(jX (nd ns i)),2⟩:=by rw [agl];unfold vr;rw [hk2]
 have hge:aF.get S2.ar (bU ns i j).id=some (qL ns (bU ns i j)):=by rw [←hti.2];exact xO.get hti.1
 have yM:=hok.ids i hi2
 have hiw:(Lit.int .i64 (nd ns i).id).wf=true:=WalkArith.wf_i64 zc
 have hew:(Lit.int .i64 (bU ns i j).id).wf=true:=WalkArith.wf_i64 (by have:=hwf i hi2 j hj2;omega)
 have hld:=xO.live hok hi2
 have fV:=xO.live hok hti.1
 have dU:(af S2.O (jX (nd ns i))).kind=2:=(xO.inv.kind hld).trans hk2
 have bC:(af S2.O (qL ns (bU ns i j)).k).kind=(qL ns (bU ns i j)).kind:=xO.inv.kind fV
 have h3:(qL ns (bU ns i j)).kind=1\/(qL ns (bU ns i j)).kind=2\/(qL ns (bU ns i j)).kind=3:=(xO.inv.ob _ fV).2.2
 have hlb:0<=(af S2.O (qL ns (bU ns i j)).k).aV/\(af S2.O (qL ns (bU ns i j)).k).aV<=8192:=xO.inv.lb fV
 have hel:(af S2.O (jX (nd ns i))).ah.length<=8192:=xO.inv.lI hld
 have eG:=hnm i hi2 j hj2
 have hde:=hd i hi2
 have Mb:=xO.inv.hX
 exact KX (aq.seq (aq.block (SR (jN 4 [13] (λb17=>[(0,x_ j ((nd ns i).ah.length) (cV.hd (hG.ah i zc) (i:=j) zc)),(1,r2 (cV.rd (hG.ah i zc) (i:=j) zc (j:=0) rfl) (cV.rd (hG.ah i zc) (i:=j) zc (j:=1) rfl)),(3,A_ 9 b17 2)]) (λ_=>[]) (λb17=>.ay b17 [.string (en (nd ns i).ah j).name,vI ((en (nd ns i).ah j).id)] 149) (λb17=>NN (aq.seq (rM (List.range 18) 17 [2,3,0,9] (jR 6 [6,11,13,123,124,125,130,131,132,139,141] [(3,a_ 0 b7),(5,a_ 2 b16)] (cu.ji 1 (d:=(some 142)) (t:=129) (K:=3) (E:=133) (b:=m3) (cnt:=S2.ar.length) (f:=(cQ (cM L S2.ar))) (x:=(.tmp 139)) (ix:=(.tmp 141)) (key:=vI ((nd ns i).id)) (z:=.nilIface) (kl:=(.int .i64 (nd ns i).id)) (q:=(some (iz L ⟨(jX (nd ns i)),2⟩))) KB KB (λ_=>KB) (λ_=>KB) iY Tryz.underlying129 (λ_=>KB) (mB hiw) (by rw [j8,hgi];rfl) KB (jR 9 [6,11,123,124,125,130,131,132,143,145,149,151] [(2,a_ 3 b17),(6,a_ 0 b7),(8,a_ 3 b17)] (cu.ji 1 (d:=(some 152)) (t:=129) (K:=3) (E:=133) (b:=m3) (cnt:=S2.ar.length) (f:=(cQ (cM L S2.ar))) (x:=(.tmp 149)) (ix:=(.tmp 151)) (key:=vI ((en (nd ns i).ah j).id)) (z:=.nilIface) (kl:=(.int .i64 (bU ns i j).id)) (q:=(some (iz L (qL ns (bU ns i j))))) KB KB (λ_=>KB) (λ_=>KB) iY Tryz.underlying129 (λ_=>KB) (mB hew) (by rw [j8,hge];rfl) KB (cu.last rfl rfl (gE [5,7] (Sw S2.O L (jX (nd ns i)) dU (bU ns i j).name eG iU zc (qL ns (bU ns i j)) bC h3 zc) (NL (aB.np (NX (aq.region (jC 8 [] [(3,a_ 4 b7),(4,wJ (S2.X.ah+1) (S2.X.ah+1)),(7,a_ 4 b7)] [(4,[(8,vI (S2.X.ah+1))])] (LX (aq.region (jK 2 [132] [(0,wJ ((j:Int)+1) (↑(j+1)))] (NL (aB.gH [(0,.abs (aW (d8 ((rX ns S2 (nd ns i) (bU ns i j)).O) L))),(1,.abs (aW (fM ((rX ns S2 (nd ns i) (bU ns i j)).O) L))),(4,.ay b7 [vI ((rX ns S2 (nd ns i) (bU ns i j)).X.cN),vI ((rX ns S2 (nd ns i) (bU ns i j)).X.cB),vI ((rX ns S2 (nd ns i) (bU ns i j)).X.cH),vI ((rX ns S2 (nd ns i) (bU ns i j)).X.cS),vI ((rX ns S2 (nd ns i) (bU ns i j)).X.cZ),.map (some m3),vP t4,vI ((rX ns S2 (nd ns i) (bU ns i j)).X.last),vI ((rX ns S2 (nd ns i) (bU ns i j)).X.ah),vI ((rX ns S2 (nd ns i) (bU ns i j)).X.used)] 135),(5,.abs (bD Tryz.prog 3 m3 (cQ (cM L (rX ns S2 (nd ns i) (bU ns i j)).ar)) ((rX ns S2 (nd ns i) (bU ns i j)).ar.length))),(6,.abs (fD 182 t4 (rX ns S2 (nd ns i) (bU ns i j)).X.cH (rX ns S2 (nd ns i) (bU ns i j)).aI (cM L (rX ns S2 (nd ns i) (bU ns i j)).us))),(7,.abs (aW (dN ((rX ns S2 (nd ns i) (bU ns i j)).O) L)))] (λw hS=>by rw [show dN (rX ns S2 (nd ns i) (bU ns i j)).O L=dN S2.O L from ab7];exact hS) (tJ ((j+1),(rX ns S2 (nd ns i) (bU ns i j))) [2,3,4,5,6,0,7,1,8] (⟨zc,xO.step hok zc zc⟩)))))))))))))))))))))))))
end
section
open Go.RowKit Go.Maps bG aF
theorem Z9 {b:UInt8} (h0:¬b=0) (h1:¬b=47) (h2:¬b=46):cA ⟨#[b]⟩:=by
 refine⟨aho _,(by show 1<=255;decide),λe=>h2 ?_,λe=>?_,λj hj=>?_⟩
 ·grind
 ·grind
 have:j=0:=by have hj:j<1:=hj;omega
 subst this
 show ¬b.toNat=0/\¬b.toNat=47
 exact⟨λe=>h0 (ahS.1 e),λe=>h1 (ahS.1 e)⟩
theorem Mx:gj 0 0:=⟨Pd,Pd,Pd,Pd,Pd⟩
def Qf (room:Int):FM:=⟨9,room,9,0,0,0,0,0⟩
theorem acu {room:Int} (h:0<=room/\room<=1099511627776):kJ (Qf room):=⟨by show (0:Int)<=9/\(9:Int)<=4096;decide,h,by show (0:Int)<=9/\(9:Int)<=1024;decide,Mx⟩
section ops
variable {S:bB} {c:aP} {t:Th} {d:Nat}
theorem aac {O:eu} {us:bF Th} {h:Int} {name:ByteArray} {d6:Int} (h1:aF.get us h=some t) (h2:t.kind=2) (h3:(af O t.k).aH=false) (h4:cA name) (h5:bits BinOp.and .i64 (af O t.k).mode d6=d6):iO O us h name d6=.ok t.k:=by
 grind [iO]
theorem acv (bX:c.op=1) (h1:aF.get S.ar c.other=some t) (h2:t.kind=2) (h3:(S.us.length:Int)<S.X.cH):gG S c=({S with O:=aZ S.O t.k (λo=>{o with aK:=o.aK+1}),us:=ins (aS S.us) t S.us,aI:=max S.aI ((S.us.length:Int)+1)},{c with answer:=aS S.us,code:=0}):=by
 grind [gG,zl,kX,ox]
theorem aad (bX:c.op=4) (ha:iO S.O S.us c.aN c.name 192=.ok d) (hm:jV c.mode) (hl:bN c.name (af S.O d).ah=none) (hr:Room S.X S.ar):gG S c=(gu S d c.name (cU S.X 2 c.mode),{c with answer:=0,code:=0}):=by
 grind [gG,zm,je,mI,gy]
end ops
structure ahb (room:Int) (S:bB):Prop where
 inv:bT S
 ar:S.ar=[(1,⟨1,2⟩),(2,⟨2,1⟩)]
 us:S.us=[]
 X:S.X=⟨9,room,9,0,0,2,1,0⟩
 o1:∃l u,af S.O 1=⟨1,493,0,0,0,0,l,0,false,2,[],⟨#[]⟩,[(⟨#[102]⟩,⟨2,1⟩)],u⟩
 o2:∃u,af S.O 2=⟨2,420,0,0,0,0,1,0,false,1,[],⟨#[]⟩,[],u⟩
theorem aeg:cA ⟨#[100]⟩:=Z9 Pd Pd Pd
theorem aeh:bits BinOp.and .i64 493 192=192:=KB
section chain
variable {room:Int} {S:bB}
def S1 (S:bB):bB:={S with O:=aZ S.O 1 (λo=>{o with aK:=o.aK+1}),us:=[(1,⟨1,2⟩)],aI:=max S.aI 1}
theorem agm:af (S1 S).O 1={af S.O 1 with aK:=(af S.O 1).aK+1}:=rfl
structure WrS (room:Int) (ds:List UInt8) (S:bB):Prop where
 inv:bT S
 ar:S.ar=[(1,⟨1,2⟩),(2,⟨2,1⟩)]
 us:S.us=[(1,⟨1,2⟩),(2,⟨2,1⟩)]
 X:S.X=⟨9,room,9,0,0,2,1,ds.length⟩
 o1:∃l n u,af S.O 1=⟨1,493,0,0,0,0,l,n,false,2,[],⟨#[]⟩,[(⟨#[102]⟩,⟨2,1⟩)],u⟩
 o2:∃u,af S.O 2=⟨2,420,0,0,0,0,1,1,false,1,ds,⟨#[]⟩,[],u⟩
structure UnS (ds:List UInt8) (S:bB):Prop where
 inv:bT S
 ar:S.ar=[(1,⟨1,2⟩),(2,⟨2,1⟩)]
 us:S.us=[(1,⟨1,2⟩),(2,⟨2,1⟩)]
 used:S.X.used=ds.length
 o2:∃s z u,af S.O 2=⟨2,420,0,0,s,z,0,1,true,1,ds,⟨#[]⟩,[],u⟩
end chain
theorem aX.UA {P:Program} {β:Bs} {f:FuncId} {args:Array Value} {pre:List HP} {post:Value->List HP->Prop} {Ψ:Bs->Value->List HP->Prop} (h:aX P β f args pre post) (Li:∀v l,post v l->∃l1 l2,l=l1++l2/\∀β',mX β l2 β'->Ψ β' v l1):cr P β f args pre Ψ:=by
 intro A w hS
 refine (h A w hS).mono ?_
 rintro e w' ⟨v,l,h1,h2,h3⟩
 obtain⟨l1,l2,rfl,hl⟩:=Li v l h2
 have h4:aR β (([.abs A]++l1)++l2) w':=by rw [ahD];exact aR.turn h3
 obtain⟨β',g1,_,g3⟩:=h4.sZ
 exact⟨β',v,l1,g1.le,h1,hl β' g1,aR.turn g3⟩
section c
variable {β:Bs} {S S2:bB} {L:HL} {f m t:Nat} {c c2:aP}
end c
end
section
open Go.RowKit bG aF Go.Maps
theorem aX.Yf {P:Program} {β:Bs} {f:FuncId} {args:Array Value} {pre R:List HP} {post:Value->List HP->Prop} (h:∀β':Bs,mX β R β'->aX P β' f args pre post):aX P β f args (pre++R) (λv l=>∃l0,post v l0/\l=l0++R):=by
 intro A w hS
 have h1:=aR.turn hS
 rw [←ahD] at h1
 obtain⟨β',g1,_,g3⟩:=h1.sZ
 refine (h β' g1 A w (aR.turn g3)).mono ?_
 rintro e w' ⟨v,l,h1,h2,h3⟩
 refine⟨v,l++R,h1,⟨l,h2,rfl⟩,?_⟩
 have h4:=g1.back (aR.turn h3)
 rw [ahD] at h4
 exact aR.turn h4
theorem MU {β:Bs} (A B:Option Addr) (c c':Nat) (ns ms:List aO) (L K:eP) (hH:aQ β B ms K) (hl:ns.length<=1048576) (hd:∀i,i<ns.length->(nd ns i).data.length<=140737488355328/\(nd ns i).ah.length<=1048576) {b:Bool} (hb:decide (ns=ms)=b) :
 aX Tryz.prog β 39 #[.agg #[.slice A ns.length c],.agg #[.slice B ms.length c']] (KL A c ns L) (λv l=>v=.bool b/\l=KL A c ns L):=
 (aX.Yf (pre:=[]) (λ_ g=>Ny A B c c' ns ms L K g.graph (hH.le g.le) hl hd)).mono (by rintro v l ⟨l0,⟨rfl,rfl⟩,rfl⟩;exact⟨ahg Value.bool hb,rfl⟩)
theorem Qg {β:Bs} (t:Nat) (most aI:Int) (L:HL) (us:bF Th) :
 aX Tryz.prog β 88 #[.pointer (some ⟨t,0,none⟩)] [.abs (fD 182 t most aI (cM L us))] (λv l=>∃A c,v=.slice A us.length c/\l=[.abs (fD 182 t most aI (cM L us)),.abs (aG 3 1 A us.length c (bL (bn us)))]):=by
 have h:=Oe (β:=β) t most aI (cM L us)
 have e:bn (cM L us)=bn us:=keys_map (iz L) us
 grind [bn]
theorem aae {S:bB} (h:Inv0 S):∀i,i<(aY S).length->(nd (aY S) i).data.length<=140737488355328/\(nd (aY S) i).ah.length<=1048576:=λi hi=>by
 rw [ig] at hi
 have h1:(af S.O (jr S i).k).data.length<=bytes S.ar S.O:=sJ (g:=λp:Int×Th=>(af S.O p.2.k).data.length) (get_at h hi)
 have h2:(af S.O (jr S i).k).ah.length<=tot S.ar S.O:=sJ (g:=λp:Int×Th=>(af S.O p.2.k).ah.length) (get_at h hi)
 have h3:=h.used
 have h4:=h.total
 rw [pP hi]
 refine⟨by show (af S.O (jr S i).k).data.length<=_;omega,?_⟩
 show ((af S.O (jr S i).k).ah.map _).length<=_
 rw [ahz]
 omega
theorem sH {β:Bs} (A:Option Addr) (c:Nat) (ns:List aO) (L:eP) (hG:aQ β A ns L) (hl:ns.length<=1048576) (hd:∀i,i<ns.length->(nd ns i).data.length<=1048576/\(nd ns i).ah.length<=1048576) :
 aX Tryz.prog β 19 #[.agg #[.slice A ns.length c]] [] (λv l=>∃B cap,v=.agg #[.slice B ns.length cap]/\l=[.abs (j5 β (λβ'=>∃K,aQ β' B ns K))]):=
 (cr.GJ (ι:=Option Addr×Nat) (vv:=λx=>.agg #[.slice x.1 ns.length x.2]) (ll:=λ_=>[]) (Φ:=λx β'=>∃K,aQ β' x.1 ns K)
  ((Nx A c ns L hG hl hd).mono (by rintro β' v l _ ⟨B,cap,K,rfl,rfl,h⟩;exact⟨(B,cap),rfl,rfl,K,h⟩))).mono (by rintro v l ⟨⟨B,cap⟩,rfl,rfl⟩;exact⟨B,cap,rfl,rfl⟩)
end
section
open Go.RowKit Go.Maps bG aF
attribute [local irreducible] av bP aq aB
theorem Xr {β:Bs} (S:bB) (L:HL) (f m t:Nat):aX Tryz.prog β 59 #[vP f] [pF f m t S.X,pT t S.X.cH S.aI L S.us] (λv l=>∃A c,v=.slice A S.us.length c/\l=[pF f m t S.X,pT t S.X.cH S.aI L S.us,.abs (aG 3 1 A S.us.length c (bL (bn S.us)))]):=by
 refine SE Tryz.func59 Tryz.ntmps59 (λR=>SR (jK 1 [] [] (NS (jK 4 [6] [(3,a_ 0 f)] (gL [1] (Qg t S.X.cH S.aI L S.us) ?_)))))
 rintro _ _ ⟨A,c,rfl,rfl⟩
 exact jK 1 [2] [] (eN ⟨A,c,rfl,rfl⟩ [2,0,1,3])
theorem aaf {β:Bs} (S:bB) (L:HL) (f m t:Nat):aX Tryz.prog β 60 #[vP f] [pF f m t S.X,pT t S.X.cH S.aI L S.us] (λv l=>v=vI S.aI/\l=[pF f m t S.X,pT t S.X.cH S.aI L S.us]):=by
 exact SE Tryz.func60 Tryz.ntmps60 (λR=>SR (jK 1 [] [] (NS (jK 4 [6] [(3,a_ 0 f)] (gE [1] (Vq t S.X.cH S.aI (cM L S.us)) (jK 1 [2] [] (eN ⟨rfl,rfl⟩ [1,0,2])))))))
theorem Xs {β:Bs} (most:Int) (h:0<=most/\most<=1024):aX Tryz.prog β 53 #[vI most] [] (λv l=>v=.agg #[vI most,vI 0,.slice none 0 0,.slice none 0 0]/\l=[]):=by
 exact SE Tryz.func53 Tryz.ntmps53 (λR=>SR (jB 1 [2] (λb1=>.ay b1 [vI 0,vI 0,.slice none (0) (0),.slice none (0) (0)] 43) (λb1=>NZ (jK 2 [4] [] (NN (cP ((most:Int)<(0:Int)) (λh4=>ahh h4 (by omega)) (λh4=>KX (SQ (jK 2 [6] [] (NN (cP ((most:Int)>(1024:Int)) (λh6=>ahh h6 (by omega)) (λh6=>KX (SR (jC 3 [] [(2,A_ 1 b1 4)] [(1,[(0,vI (most))])] (eS [A_ 1 b1 4] ⟨rfl,rfl⟩)))))))))))))))
end
section
open Go.RowKit Go.Maps bG aF
attribute [local irreducible] av bP aq aB oA
theorem SC {β:Bs} (A:Option Addr) (c:Nat) (ns:List aO) (Y:eP) (hG:aQ β A ns Y) (hl:ns.length<=1048576) (hd:∀i,i<ns.length->(nd ns i).data.length<=1048576/\(nd ns i).ah.length<=1048576) (hwf:∀i,i<ns.length->∀j,j<(nd ns i).ah.length->-9223372036854775808<=(bU ns i j).id/\(bU ns i j).id<=9223372036854775807) (hnm:∀i,i<ns.length->∀j,j<(nd ns i).ah.length->(bU ns i j).name.size<=1048576) (ht:∀i,i<ns.length->(nd ns i).target.size<=1048576) (X:FM) :
 cr Tryz.prog β 31 #[.agg #[.slice A (ns.length) (c)],.agg #[vI (X.cN),vI (X.cB),vI (X.cH),vI (X.cS),vI (X.cZ)]] [] (λβ' v l=>(¬kJ X/\v=.tuple #[.agg ⟨rZ⟩,vI 179]/\l=[])\/(kJ X/\¬cG ns/\v=.tuple #[.agg ⟨rZ⟩,vI 140]/\l=[])\/(kJ X/\cG ns/\∃B cp K,v=.tuple #[.agg #[.slice B (ns.length) (cp),.slice none (0) (0),vI (X.cH),vI 0,.slice none (0) (0),.slice none (0) (0),vI (X.cN),vI (X.cB),vI (X.cH),vI (X.cS),vI (X.cZ),vI ((if ns.length=0 then 0 else (nd ns (ns.length-1)).id))],vI 0]/\l=[]/\aQ β' B ns K)):=by
 refine o8 Tryz.func31 Tryz.ntmps31 (λaE R=>SR (jB 1 [2] (λb1=>.ay b1 [.slice A (ns.length) (c)] 24) (λb1=>jB 1 [3] (λb2=>.ay b2 [vI (X.cN),vI (X.cB),vI (X.cH),vI (X.cS),vI (X.cZ)] 28) (λb2=>jB 2 [4] (λb3=>.ay b3 (rZ) 45) (λb3=>NZ (jK 4 [10] [(1,a_ 2 b2)] (sP 10 ((X.cN:Int)<(0:Int)) (λh10=>jK 30 [40] [] (NT (SR (jC 3 [5] [(1,A_ 3 b3 12)] [] (eO [A_ 3 b3 12] aE (.inl ⟨λh=>by first|(have:=h.cN;omega)|(have:=h.cB;omega)|(have:=h.cH;omega)|exact ahh h.now (by assumption),rfl,rfl⟩)))))) (λh10=>jK 5 [15] [(1,a_ 2 b2)] (sP 15 ((X.cN:Int)>(4096:Int)) (λNG=>jK 25 [40] [] (NT (SR (jC 3 [5] [(1,A_ 3 b3 12)] [] (eO [A_ 3 b3 12] aE (.inl ⟨λh=>by first|(have:=h.cN;omega)|(have:=h.cB;omega)|(have:=h.cH;omega)|exact ahh h.now (by assumption),rfl,rfl⟩)))))) (λNG=>jK 5 [20] [(1,a_ 2 b2)] (sP 20 ((X.cB:Int)<(0:Int)) (λpu=>jK 20 [40] [] (NT (SR (jC 3 [5] [(1,A_ 3 b3 12)] [] (eO [A_ 3 b3 12] aE (.inl ⟨λh=>by first|(have:=h.cN;omega)|(have:=h.cB;omega)|(have:=h.cH;omega)|exact ahh h.now (by assumption),rfl,rfl⟩)))))) (λpu=>jK 5 [25] [(1,a_ 2 b2)] (sP 25 ((X.cB:Int)>(1099511627776:Int)) (λpZ=>jK 15 [40] [] (NT (SR (jC 3 [5] [(1,A_ 3 b3 12)] [] (eO [A_ 3 b3 12] aE (.inl ⟨λh=>by first|(have:=h.cN;omega)|(have:=h.cB;omega)|(have:=h.cH;omega)|exact ahh h.now (by assumption),rfl,rfl⟩)))))) (λpZ=>jK 5 [30] [(1,a_ 2 b2)] (sP 30 ((X.cH:Int)<(0:Int)) (λnQ=>jK 10 [40] [] (NT (SR (jC 3 [5] [(1,A_ 3 b3 12)] [] (eO [A_ 3 b3 12] aE (.inl ⟨λh=>by first|(have:=h.cN;omega)|(have:=h.cB;omega)|(have:=h.cH;omega)|exact ahh h.now (by assumption),rfl,rfl⟩)))))) (λnQ=>jK 5 [35] [(1,a_ 2 b2)] (sP 35 ((X.cH:Int)>(1024:Int)) (λnS=>jK 5 [40] [] (NT (SR (jC 3 [5] [(1,A_ 3 b3 12)] [] (eO [A_ 3 b3 12] aE (.inl ⟨λh=>by first|(have:=h.cN;omega)|(have:=h.cB;omega)|(have:=h.cH;omega)|exact ahh h.now (by assumption),rfl,rfl⟩)))))) (λnS=>jK 2 [37] [(1,A_ 2 b2 2)] (gE [] (Cv X.cS X.cZ) (jK 2 [40] [] (NN (cN (gj X.cS X.cZ) (λuj=>SR (jC 3 [5] [(1,A_ 3 b3 12)] [] (eO [A_ 3 b3 12] aE (.inl ⟨λh=>by first|(have:=h.cN;omega)|(have:=h.cB;omega)|(have:=h.cH;omega)|exact ahh h.now (by assumption),rfl,rfl⟩)))) (λuj=>?_)))))))))))))))))))))))
 have hcap:kJ X:=⟨⟨zc,zc⟩,⟨zc,zc⟩,⟨zc,zc⟩,uj⟩
 refine KX (SQ (jK 1 [42] [(0,a_ 1 b1)] (gE [] (QK A c ns Y hG hl hd hwf hnm ht) (jK 1 [44] [] (NN (cN (((if cG ns then 0 else 140):Int)=(0:Int)) (λyT=>?_) (λyT=>?_)))))))
 ·have hng:¬cG ns:=λh=>yT (ahf h)
  exact SR (jC 3 [5] [(1,A_ 3 b3 12)] [] (eO [A_ 3 b3 12] aE (.inr (.inl ⟨hcap,hng,rfl,rfl⟩))))
 have hok:cG ns:=ahF (λh=>Pe)
 refine KX (aq.seq (aq.rz (S:=[.ay b1 [.slice A (ns.length) (c)] 24,.ay b2 [vI (X.cN),vI (X.cB),vI (X.cH),vI (X.cS),vI (X.cZ)] 28]) (yY [0,2,3,5] (oJ 7 [(false,8)] [(false,1),(false,4),(false,6)])) [1,2] (gT (oJ 7 [(false,8)] [(false,1),(false,4),(false,6)]) [(2,vP b1),(4,vP b3),(46,.agg #[.slice A (ns.length) (c)]),(49,vI (X.cH)),(51,.agg #[vI (X.cN),vI (X.cB),vI (X.cH),vI (X.cS),vI (X.cZ)])] [0,2,3,5] [(0,a_ 0 b1),(2,a_ 1 b2),(3,A_ 1 b2 5)] (oA.one (j:=7) (dj:=6) (R:=λf_ l_=>∃B:Option Addr,∃cp:Nat,f_=[(52,.agg #[.slice B (ns.length) (cp),.slice none (0) (0),vI (X.cH),vI 0,.slice none (0) (0),.slice none (0) (0),vI (X.cN),vI (X.cB),vI (X.cH),vI (X.cS),vI (X.cZ),vI 0]),(50,.agg #[vI (X.cH),vI 0,.slice none (0) (0),.slice none (0) (0)]),(47,.agg #[.slice B (ns.length) (cp)]),(2,vP b1),(4,vP b3),(46,.agg #[.slice A (ns.length) (c)]),(49,vI (X.cH)),(51,.agg #[vI (X.cN),vI (X.cB),vI (X.cH),vI (X.cS),vI (X.cZ)])]/\l_=[.abs (j5 β (λβ'=>∃K,aQ β' B ns K))]) [1,2] [(false,1,47),(false,4,50),(false,6,52)] (jt.of (ι:=Nat) (v:=λ(b4:Nat)=>vP b4) (l:=λ(b4:Nat)=>[.ay b4 (rZ) 45]) [47,50,52] rfl rfl rfl rfl ?_) ?_ ?_))))
 ·intro u Aq
  exact jB 1 [6] (λb4=>.ay b4 (rZ) 45) (λb4=>NL (MD b4 [6,47,50,52,2,4,46,49,51] [1,0]))
 ·refine eF.step (jt.of (ι:=(Option Addr)×Nat) (v:=λ((B,cp):(Option Addr)×Nat)=>.agg #[.slice B (ns.length) (cp)]) (l:=λ((B,cp):(Option Addr)×Nat)=>[.abs (j5 β (λβ'=>∃K,aQ β' B ns K))]) [6] rfl rfl rfl rfl ?_) ?_
  ·intro u Aq
   refine gL [] (sH (β:=β) A c ns Y hG hl hd) ?_
   rintro _ _ ⟨B,cp,rfl,rfl⟩
   exact NL (MD (B,cp) [47,6,2,4,46,49,51] [0,1])
  rintro _ _ ⟨⟨B,cp⟩,rfl,rfl⟩
  refine eF.step (jt.of (ι:=Unit) (v:=λ(_:Unit)=>.agg #[vI (X.cH),vI 0,.slice none (0) (0),.slice none (0) (0)]) (l:=λ(_:Unit)=>[.abs (j5 β (λβ'=>∃K,aQ β' B ns K))]) [6] rfl rfl rfl rfl ?_) ?_
  ·intro u Aq
   exact gE [] (Xs X.cH hcap.cH) (NL (MD () [50,6,47,2,4,46,49,51] [0,1]))
  rintro _ _ ⟨_,rfl,rfl⟩
  refine eF.step (jt.of (ι:=Unit) (v:=λ(_:Unit)=>.agg #[.slice B (ns.length) (cp),.slice none (0) (0),vI (X.cH),vI 0,.slice none (0) (0),.slice none (0) (0),vI (X.cN),vI (X.cB),vI (X.cH),vI (X.cS),vI (X.cZ),vI 0]) (l:=λ(_:Unit)=>[.abs (j5 β (λβ'=>∃K,aQ β' B ns K))]) [6] rfl rfl rfl rfl ?_) ?_
  ·intro u Aq
   exact jK 1 [52] [] (NL (MD () [52,6,50,47,2,4,46,49,51] [0,1]))
  rintro _ _ ⟨_,rfl,rfl⟩
  exact⟨B,cp,rfl,rfl⟩
 rintro _ _ ⟨B,cp,rfl,rfl⟩ _ _ ⟨b4,rfl,rfl⟩
 refine fF.last KB (jC 1 [] [(0,A_ 1 b4 12)] [(1,[(0,.slice B (ns.length) (cp)),(2,vI (X.cH)),(6,vI (X.cN)),(7,vI (X.cB)),(8,vI (X.cH)),(9,vI (X.cS)),(10,vI (X.cZ))])] (NL (aB.np (NX (SQ (av.tZ 0 [1,2,3,4,5] (eZ:=[.ay b4 [.slice B (ns.length) (cp),.slice none (0) (0),vI (X.cH),vI 0,.slice none (0) (0),.slice none (0) (0),vI (X.cN),vI (X.cB),vI (X.cH),vI (X.cS),vI (X.cZ),vI 0] 45,.abs R,.ay b1 [.slice A (ns.length) (c)] 24,.ay b2 [vI (X.cN),vI (X.cB),vI (X.cH),vI (X.cS),vI (X.cZ)] 28,.ay b3 (rZ) 45]) rfl rfl KB (λE9 iq ⟨K,hH⟩=>?_)))))))
 replace hG:=hG.le iq
 replace aE:=aE.trans iq
 exact jK 4 [56] [(1,a_ 2 b1)] (NN (cP ((((ns.length:Nat):Int):Int)>(0:Int)) (λh56=>aq.region (jC 11 [] [(1,a_ 2 b1),(3,a_ 2 b1),(5,wJ ((ns.length:Int)-1) (((ns.length:Nat):Int)-1)),(6,p_ ⟨[],some (ns.length-1),none,some ⟨(br A),bq A,none⟩,none⟩ [((ns.length:Nat):Int)-1=(((ns.length-1):Nat):Int),(ns.length-1)<ns.length,(⟨(br A),bq A,none⟩:Addr).spot=none,(A:Option Addr)=some ⟨(br A),bq A,none⟩] ⟨zc,zc,rfl,aQ.hd hG (i:=(ns.length-1)) zc,trivial⟩),(8,r_ (aQ.rd hG (i:=(ns.length-1)) zc (j:=0) rfl)),(10,a_ 0 b4)] [(0,[(11,vI ((nd ns (ns.length-1)).id))])] (NS (jC 3 [5] [(0,A_ 0 b4 12),(1,A_ 4 b3 12)] [(4,[(0,.slice B (ns.length) (cp)),(2,vI (X.cH)),(6,vI (X.cN)),(7,vI (X.cB)),(8,vI (X.cH)),(9,vI (X.cS)),(10,vI (X.cZ)),(11,vI ((nd ns (ns.length-1)).id))])] (eO [A_ 4 b3 12] aE (.inr (.inr ⟨hcap,hok,B,cp,K,by rw [ahe zc],rfl,hH⟩)) [1]))))) (λh56=>KX (SR (jC 3 [5] [(0,A_ 0 b4 12),(1,A_ 4 b3 12)] [(4,[(0,.slice B (ns.length) (cp)),(2,vI (X.cH)),(6,vI (X.cN)),(7,vI (X.cB)),(8,vI (X.cH)),(9,vI (X.cS)),(10,vI (X.cZ))])] (eO [A_ 4 b3 12] aE (.inr (.inr ⟨hcap,hok,B,cp,K,by rw [ahf zc],rfl,hH⟩)) [1]))))))
end
section
open Go.RowKit Go.Maps bG aF
noncomputable def Fw (X:FM):Int:=open Classical in if kJ X then 140 else 179
theorem acw (X:FM):Fw X≠0:=by
 unfold Fw
 split<;>decide
def agn (X:FM) (ns:List aO):Type:={S:bB // kP X ns ns.length 0 S}
section m
variable {β:Bs} {ns:List aO} {Y:eP} {X:FM}
theorem aag (hcap:kJ X) (hok:cG ns) (A:Option Addr) (c:Nat) (hG:aQ β A ns Y) (hB:j7 ns 1048576) :
 cr Tryz.prog β 31 #[.agg #[.slice A ns.length c],.agg #[.int .i64 X.cN,.int .i64 X.cB,.int .i64 X.cH,.int .i64 X.cS,.int .i64 X.cZ]] [] (λβ' v l=>∃B cp K,v=.tuple #[.agg #[.slice B ns.length cp,.slice none 0 0,.int .i64 X.cH,.int .i64 0,.slice none 0 0,.slice none 0 0,.int .i64 X.cN,.int .i64 X.cB,.int .i64 X.cH,.int .i64 X.cS,.int .i64 X.cZ,.int .i64 (if ns.length=0 then 0 else (nd ns (ns.length-1)).id)],.int .i64 0]/\l=[]/\aQ β' B ns K):=
 (SC A c ns Y hG (tQ hB) (BV hB) (JD hB) (JE hB) (aaU hB) X).mono (by
  rintro β' v l _ (⟨h,_⟩|⟨_,h,_⟩|⟨_,_,h⟩)
  ·exact ahh hcap h
  ·exact ahh hok h
  exact h)
theorem aah (Fx:¬(kJ X/\cG ns)) (A:Option Addr) (c:Nat) (hG:aQ β A ns Y) (hB:j7 ns 1048576) :
 cr Tryz.prog β 31 #[.agg #[.slice A ns.length c],.agg #[.int .i64 X.cN,.int .i64 X.cB,.int .i64 X.cH,.int .i64 X.cS,.int .i64 X.cZ]] [] (λ_ v l=>v=.tuple #[.agg #[.slice none 0 0,.slice none 0 0,.int .i64 0,.int .i64 0,.slice none 0 0,.slice none 0 0,.int .i64 0,.int .i64 0,.int .i64 0,.int .i64 0,.int .i64 0,.int .i64 0],.int .i64 (Fw X)]/\l=[]):=
 (SC A c ns Y hG (tQ hB) (BV hB) (JD hB) (JE hB) (aaU hB) X).mono (by
  rintro β' v l _ (⟨h,h1,h2⟩|⟨h,h',h1,h2⟩|⟨h1,h2,_⟩)
  ·exact⟨by rw [show Fw X=179 from ahe h];exact h1,h2⟩
  ·exact⟨by rw [show Fw X=140 from ahf h];exact h1,h2⟩
  exact ahh ⟨h1,h2⟩ Fx)
end m
section p
variable {S:bB} {g:List Int} {X:FM} {ns:List aO} {Y:eP} {β:Bs}
structure Pair (S:bB) (g:List Int):Prop extends RelR S g where
 gl:g.length<=4096
theorem Pair.rc (h:Pair S g):RC (toR S g):=abr h.toRelR h.gl
theorem Pair.rd (h:Pair S g):RD 0 (toR S g):=by
 have hI:=h.inv.toInv0
 have h1:=hI.len
 have h2:(toR S g).ns.length=S.ar.length:=ig
 have h8:=Iu (g:=g) hI
 have h9:=hI.total.2
 exact⟨zc,h.gl,h.rc.us,zc,h.rc.dat⟩
theorem Pair.step (h:Pair S g) (c:aP):∃g',tO (toR S g) c=(toR (gG S c).1 g',(gG S c).2)/\Pair (gG S c).1 g':=by
 obtain⟨g',h1,h2⟩:=ZU h.toRelR c
 have h3:GL (toR S g):=h.gl
 have h4:=acq (c:=c) h3 (by have h5:=h.inv.toInv0.len;grind [toR,ig])
 rw [h1] at h4
 exact⟨g',h1,h2,h4⟩
theorem Fy (h:Pair S g) {Y:RL} (hR:dz β (toR S g) Y) {c c2:aP} {S2:bB} (hD:gG S c=(S2,c2)) (hn:c.name.size<=1048576) (ht:c.text.size<=1048576) (hb:bJ β c.dA c.data) (hl:c.data.length<=140737488355328) (hc:c.data.length<=c.dC) :
 cr Tryz.prog β 35 #[.agg ⟨rV (toR S g) Y⟩,.agg ⟨aL c⟩] [] (λβ' v l=>∃g' Y' B p,v=.tuple #[.agg ⟨rV (toR S2 g') Y'⟩,.agg ⟨aL (fk c2 B p)⟩]/\l=[]/\Pair S2 g'/\dz β' (toR S2 g') Y'/\bJ β' B c.data):=by
 obtain⟨g',h1,h2⟩:=h.step c
 rw [hD] at h1 h2
 refine (ZH (toR S g) Y hR h.rc h.rd c hn ht hb hl hc).mono ?_
 grind
theorem Pair.start (N:agn X ns) (hok:cG ns):Pair N.1 []:=⟨(Ms N.2 hok).1,ahj _⟩
end p
section c
variable {S S2:bB} {β:Bs} {c c2 x q out:aP} {f m t:Nat} {L:HL}
structure agT (β:Bs) (c:aP):Prop where
 hw:(Lit.int .i64 c.aN).wf=true
 ow:(Lit.int .i64 c.other).wf=true
 nm:c.name.size<=1048576
 tx:c.text.size<=1048576
 da:bJ β c.dA c.data
structure ByR (β:Bs) (S:bB) (op:Int) (S2:bB) (q c2 out:aP):Prop where
 did:gG S q=(S2,c2)
 ok:kH β q
 dl:q.data.length<=1048576
 ans:out.answer=c2.answer
 code:out.code=c2.code
 st:op=11\/op=12->out.other=c2.other/\out.mode=c2.mode/\out.bg=c2.bg/\out.bh=c2.bh/\out.aU=c2.aU/\out.aJ=c2.aJ
end c
end
section
open Go.RowKit
theorem UB {w:World} {o:Oper} {ev:Operand->Value} {x y:Operand} {a b c d:Int} (ho:o.op=.binOp .eql 26 x y 26) (hx:ev x=.agg #[.int .i64 a,.int .i64 b]) (hy:ev y=.agg #[.int .i64 c,.int .i64 d]) :
 sQ Tryz.prog ev o w (.bool (decide (a=c/\b=d))) w:=by
 obtain⟨dst,op,type,pos,after,guard⟩:=o
 cases ho
 refine .inl ?_
 simp only [execOp,hx,hy]
 simp [go_sem]
 by_cases h1:a=c<;>by_cases h2:b=d<;>simp [h1,h2]
end
section
open Go.RowKit Go.Maps bG aF
attribute [local irreducible] av bP aq aB
theorem Qh {β:Bs} (c:aP) (A1 A2:Option Addr) (p1 p2:Nat) (h1:bJ β A1 c.data) (h2:bJ β A2 c.data) (hl:c.data.length<=140737488355328) :
 aX Tryz.prog β 13 #[.agg ⟨aL (fk c A1 p1)⟩,.agg ⟨aL (fk c A2 p2)⟩] [] (λv l=>v=.bool true/\l=[]):=by
 exact SE Tryz.func13 Tryz.ntmps13 (λR=>SR (jB 1 [2] (λb1=>.ay b1 (aL (fk c A1 p1)) 53) (λb1=>jB 2 [3] (λb2=>.ay b2 (aL (fk c A2 p2)) 53) (λb2=>NS (jK 59 [59,61,63] [(1,a_ 1 b1),(3,a_ 2 b2),(4,p_ ⟨[],none,none,none,some (.bool true)⟩ [(Value.bool (decide ((c.op:Int)=(c.op:Int))))=(.bool true)] ⟨ahd,trivial⟩),(7,a_ 1 b1),(9,a_ 2 b2),(10,p_ ⟨[],none,none,none,some (.bool true)⟩ [(Value.bool (decide ((c.aN:Int)=(c.aN:Int))))=(.bool true)] ⟨ahd,trivial⟩),(14,a_ 1 b1),(16,a_ 2 b2),(17,p_ ⟨[],none,none,none,some (.bool true)⟩ [(Value.bool (decide ((c.other:Int)=(c.other:Int))))=(.bool true)] ⟨ahd,trivial⟩),(21,a_ 1 b1),(23,a_ 2 b2),(24,p_ ⟨[],none,none,none,some (.bool true)⟩ [(Value.bool ((c.name:ByteArray).toList == (c.name:ByteArray).toList))=(.bool true)] ⟨ahd,trivial⟩),(28,a_ 1 b1),(30,a_ 2 b2),(31,p_ ⟨[],none,none,none,some (.bool true)⟩ [(Value.bool ((c.text:ByteArray).toList == (c.text:ByteArray).toList))=(.bool true)] ⟨ahd,trivial⟩),(35,a_ 1 b1),(37,a_ 2 b2),(38,p_ ⟨[],none,none,none,some (.bool true)⟩ [(Value.bool (decide ((c.mode:Int)=(c.mode:Int))))=(.bool true)] ⟨ahd,trivial⟩),(42,a_ 1 b1),(44,a_ 2 b2),(45,p_ ⟨[],none,none,none,some (.bool true)⟩ [(Value.bool (decide ((c.bg:Int)=(c.bg:Int))))=(.bool true)] ⟨ahd,trivial⟩),(49,a_ 1 b1),(51,a_ 2 b2),(52,p_ ⟨[],none,none,none,some (.bool true)⟩ [(Value.bool (decide ((c.bh:Int)=(c.bh:Int))))=(.bool true)] ⟨ahd,trivial⟩),(56,A_ 1 b1 2),(58,A_ 2 b2 2)] (av.mT (d:=(some 64)) (op:=.binOp .eql 26 (.tmp 61) (.tmp 63) 26) (v:=.bool (decide ((c.aU:Int)=(c.aU:Int)/\(c.aJ:Int)=(c.aJ:Int)))) (λ_=>KB) (λo ai w ho hS=>⟨w,UB ho KB KB,hS⟩) (sl 64 (.bool (decide ((c.aU:Int)=(c.aU:Int)/\(c.aJ:Int)=(c.aJ:Int)))) (.bool true) (ahg Value.bool ahd) (jK 20 [80,82,84] [(3,a_ 1 b1),(5,a_ 2 b2),(6,p_ ⟨[],none,none,none,some (.bool true)⟩ [(Value.bool (decide ((c.code:Int)=(c.code:Int))))=(.bool true)] ⟨ahd,trivial⟩),(10,a_ 1 b1),(12,a_ 2 b2),(13,p_ ⟨[],none,none,none,some (.bool true)⟩ [(Value.bool (decide ((c.answer:Int)=(c.answer:Int))))=(.bool true)] ⟨ahd,trivial⟩),(17,a_ 1 b1),(19,a_ 2 b2)] (gE [] (Er A1 A2 p1 p2 c.data c.data h1 h2 hl) (jK 2 [4] [] (eN (v:=(.bool (decide (c.data=c.data)))) ⟨ahg Value.bool (ahB rfl),rfl⟩ [0])))))))))))
end
section
open Go.RowKit Go.Maps bG aF
def bare (c:aP):aP:=dJ none 0 c
theorem acy {A:Option Addr} {m:Nat} {c:aP}:bare (dJ A m c)=bare c:=rfl
theorem Fz {c d:aP} (h:bare c=bare d):c.data=d.data:=by
 have e:(bare c).data=(bare d).data:=by rw [h]
 exact e
theorem acz {c d:aP} (h:bare c=bare d):d=dJ d.dA d.dC c:=by
 show dJ d.dA d.dC (bare d)=dJ d.dA d.dC (bare c)
 rw [h]
theorem FA {α:Type} (f:α->List Value) (ys:List α):∀xs:List α,bO f (xs++ys)=bO f xs++bO f ys
 |[]=>rfl
 |a::r=>by
   rw [ahU,DI,DI,FA f ys r,ahD]
theorem Gi {os tr:List aP} (h:os.map bare=tr.map bare) (i:Nat):bare (bK os i)=bare (bK tr i):=by
 have h1:=ahg (λl=>l[i]?) h
 simp only [List.getElem?_map] at h1
 unfold bK
 rw [ahv,ahv]
 cases e1:os[i]?<;>cases e2:tr[i]?<;>rw [e1,e2] at h1<;>simp at h1 ⊢
 exact h1
theorem zO {os tr:List aP} (h:os.map bare=tr.map bare):os.length=tr.length:=by
 have:=ahg List.length h
 simpa using this
structure nw (β:Bs) (A:Option Addr) (os:List aP):Prop where
 row:cD β A (bO aL os)
 dat:yO β os
section t
variable {β β':Bs} {A:Option Addr} {os tr:List aP} {i j:Nat} {v:Value} {B:Option Addr} {p:Nat}
theorem nw.le (h:nw β A os) (g:β.le β'):nw β' A os:=⟨h.row.le g,h.dat.le g⟩
theorem nw.hd (h:nw β A os) (hi:i<os.length):A=some ⟨br A,bq A,none⟩:=(JH (s:=13) (j:=0) h.row (λ_=>rfl) (sK hi) rfl).1
theorem nw.rd (h:nw β A os) (hi:i<os.length) (hv:(aL (bK os i))[j]?=some v):Rd β ⟨br A,bq A+i*13+j,none⟩ v:=(JH h.row (λ_=>rfl) (sK hi) hv).2
theorem wZ (hi:i<os.length):bK os i∈os:=ahN (sK hi)
theorem afo (ho:os.length=i) (hi:i<tr.length):(os++tr.drop i)[i]?=some (bK tr i):=by
 rw [ah6 zc,ho,Nat.sub_self,List.getElem?_drop,Nat.add_zero]
 exact sK hi
theorem aei (ho:os.length=i) (hi:i<tr.length) {v:Value} (hj:j<13) (hv:(aL (bK tr i))[j]?=some v):(bO aL (os++tr.drop i))[i*13+j]?=some v:=(EW (f:=aL) (s:=13) (λ_=>rfl) (afo ho hi) hj).trans hv
theorem aej (ho:os.length=i) (hi:i<=tr.length):(os++tr.drop i).length=tr.length:=by
 rw [ahl,List.length_drop];omega
theorem aek (ho:os.length=i) (hi:i<tr.length):(bO aL (os++tr.drop i)).set (i*13+5) (.slice B (bK tr i).data.length p)=bO aL ((os++[dJ B p (bK tr i)])++tr.drop (i+1)):=by
 have e:tr.drop i=bK tr i::tr.drop (i+1):=by
  rw [ah2 hi]
  have:=sK hi
  rw [ahs hi] at this
  injection this with this
  rw [this]
 have hl:(bO aL os).length=i*13:=by rw [yB (f:=aL) (s:=13) (λ_=>rfl),ho]
 rw [e,FA,DI,List.set_append_right _ _ zc,hl,Nat.add_sub_cancel_left,List.set_append_left _ _ (by show 5<13;decide),FA,zq,ahD]
 rfl
theorem ael {c:aP} (hm:os.map bare=(tr.take i).map bare) (hi:i<tr.length) (hc:bare c=bare (bK tr i)):(os++[c]).map bare=(tr.take (i+1)).map bare:=by
 rw [ahK,sK hi,ahP,ahP,hm]
 show _++[bare c]=_++[bare (bK tr i)]
 rw [hc]
theorem Qi (c d:aP) (h:bare c=bare d) (h1:bJ β c.dA c.data) (h2:bJ β d.dA d.data) (hl:c.data.length<=140737488355328):aX Tryz.prog β 13 #[.agg ⟨aL c⟩,.agg ⟨aL d⟩] [] (λv l=>v=.bool true/\l=[]):=by
 have e:=acz h
 rw [←Fz h] at h2
 rw [e]
 exact Qh c c.dA d.dA c.dC d.dC h1 h2 hl
end t
section wr
variable {e:TypeId} {size n cap j k:Nat} {A:Option Addr} {P:Program} {β:Bs} {N:fQ} {ops:Array Oper} {fr:Fr} {ax:List HP} {Q:Post}
theorem wSA (i:Nat) (T:TypeId) (us:List Value) (hp:ax[i]?=some (.abs (nM e size A n cap))) (hn:0<n) (hj:j+us.length<=n*size) (K':av P β N ops (k+1) (eV fr (iX ops k) undef) ax Q)
 (bX:∀ai,iK N ai ops fr k=some (.store T (D8 N ops fr k).1 (D8 N ops fr k).2,iX ops k):=by intro _;kernel_rfl) (ha:∀ai,eX N fr ai (D8 N ops fr k).1=.pointer (some ⟨br A,bq A+j,none⟩):=by intro _;kernel_rfl)
 (hy:∀ai,eX N fr ai (D8 N ops fr k).2=.agg ⟨us⟩:=by intro _;kernel_rfl) (hT:(P.info? T).map (·.size)=some us.length:=by kernel_rfl) (hu:us.all (·.oneCell')=true:=by rfl):av P β N ops k fr ax Q:=by
 refine av.mT bX (λo ai w ho hS=>?_) K'
 obtain⟨F,xs,hr,hF⟩:=hS.get hp
 have e0:ax.set i (.abs (nM e size A n cap))=ax:=by
  apply List.ext_getElem?
  intro q
  by_cases e:i=q
  ·subst e;rw [aie (dF hp),hp]
  rw [aik e]
 rcases hr.2 with ⟨ev,rfl⟩|⟨g,cp,cur,ev,hbg,hg,hnc,hcm,hcs,htake⟩
 ·cases ev;omega
 cases ev
 have hnn:n*size<=cap*size:=Nat.mul_le_mul_right _ hnc
 have hst:=run_storeCells_at P g j e us 0 cur w hg zc (λu h=>(List.all_eq_true.1 hu) u h)
 simp only [Nat.add_zero] at hst
 refine⟨w.setRow g (cur.toList.take j++us++cur.toList.drop (j+us.length)).toArray,.inr ⟨rfl,?_⟩,e0 ▸ hS.set (p':=.abs (nM e size (some ⟨g,0,none⟩) n cap)) hp (λF' hF'=>?_)⟩
 ·obtain⟨inf,hi,eG⟩:∃inf,P.info? T=some inf/\inf.size=us.length:=by
   cases h:P.info? T with
   |none=>rw [h] at hT;cases hT
   |some inf=>rw [h] at hT;exact⟨inf,rfl,by simpa using hT⟩
  have h3:=qd hi w
  rw [eG] at h3
  have ha:=ha ai
  have hy:=hy ai
  generalize (D8 N ops fr k).1=a1 at ha ho
  generalize (D8 N ops fr k).2=y1 at hy ho
  obtain⟨dst,op,type,pos,after,guard⟩:=o
  cases ho
  rw [show (⟨br (some ⟨g,0,none⟩),bq (some ⟨g,0,none⟩)+j,none⟩:Addr)=⟨g,j,none⟩ from ahg (λo=>(⟨g,o,none⟩:Addr)) (ahy j)] at ha
  simp only [execOp,ha,hy]
  simp [go_sem,Instr.storeAt,Instr.sureAddr,storeVar,h3,Value.cells,hst]
 obtain⟨ys,hr',hF'⟩:=hF'
 have hcl:(cur.toList.take j++us++cur.toList.drop (j+us.length)).length=cap*size:=by
  rw [ahl,ahl,ahC,List.length_drop,Array.length_toList];omega
 refine⟨F',⟨_,⟨by rw [ahC,hcl];omega,.inr ⟨g,cap,_,rfl,hbg,setRow_heap w g cur _ e _ hg,hnc,hcm,by simpa using hcl,rfl⟩⟩,hF'⟩,?_,λk q=>.inl q⟩
 exact⟨rfl,rfl,rfl,ahd,λk _ hk=>setRow_other w g k _ (λq=>hk ((hF' k).2 (by simp [Value.ownBlock,q])))⟩
end wr
def uU (os:List aP) (i:Nat):dV:=aG 5 1 (bK os i).dA (bK os i).data.length (bK os i).dC (dL (bK os i).data)
section tr
variable {os tr ms:List aP} {c:aP} {i n k cp:Nat} {A:Option Addr} {u:Value} {β:Bs} {fs:List dI} {xs:List dO} {au:Int} {S:bB} {V:WV} {G:WG}
theorem acA (h:i<os.length):bK (os++[c]) i=bK os i:=by
 unfold bK
 rw [ahv,ah7 h,←ahv]
theorem acB (h:os.length=i):bK (os++[c]) i=c:=by
 subst h;unfold bK;rw [ahv];simp
theorem aai (h:os.length=n) (hi:i<n):uU (os++[c]) i=uU os i:=by unfold uU;rw [acA zc]
theorem aaj {B:Option Addr} {p:Nat} (h:os.length=i):aG 5 1 B c.data.length p (dL c.data)=uU (os++[dJ B p c]) i:=by unfold uU;rw [acB h];rfl
def SD (os:List aP) (i:Nat):dV:=nM 5 1 (bK os i).dA (bK os i).data.length (bK os i).dC
theorem SD.of:∀F w,(HP.abs (iL (uU os) n)).h F w->(HP.abs (iL (SD os) n)).h F w:=λ_ _ ⟨φ,h1,h2,h3⟩=>⟨φ,λi hi=>⟨_,h1 i hi⟩,h2,h3⟩
def afp (os ms:List aP):Prop:=ms.length=os.length/\∀k,(bK ms k).dA=(bK os k).dA/\(bK ms k).dC=(bK os k).dC/\(bK ms k).data=(bK os k).data
def vW (A:Option Addr) (c:Nat) (os:List aP):dV where
 h F w:=∃ms,afp os ms/\(aG 53 13 A ms.length c (bO aL ms)).h F w
 lt:=λ⟨_,_,h⟩=>(aG _ _ _ _ _ _).lt h
 st:=λ⟨ms,h',h⟩ _ _ hk hn=>⟨ms,h',(aG _ _ _ _ _ _).st h hk hn⟩
theorem vW.of (hn:os.length=n):∀F w,(HP.abs (aG 53 13 A n cp (bO aL os))).h F w->(HP.abs (vW A cp os)).h F w:=λ_ _ h=>⟨os,⟨rfl,λ_=>⟨rfl,rfl,rfl⟩⟩,hn ▸ h⟩
theorem vW.dat (hi:i<os.length):∀F w,(vW A cp os).h F w->w.cell? ⟨br A,bq A+i*13+5,none⟩=some (.slice (bK os i).dA (bK os i).data.length (bK os i).dC):=λF w ⟨ms,hs,h⟩=>by
 have hm:i<ms.length:=by rw [hs.1];exact hi
 obtain⟨e1,e2,e3⟩:=hs.2 i
 rw [←e1,←e2,←e3]
 exact aG.cellAt hm (EW (f:=aL) (s:=13) (j:=5) (λ_=>rfl) (sK hm) Pd) F w h
theorem av.afq {P:Program} {N:fQ} {ops:Array Oper} {fr:Fr} {ax:List HP} {Q:Post} (i:Nat) (hp:ax[i]?=some (.abs (vW A cp os))) (hn:0<os.length) (H:A=some ⟨br A,bq A,none⟩->av P β N ops k fr ax Q):av P β N ops k fr ax Q:=
 av.tell (λ_ hS=>let ⟨_,_,hs,h⟩:=hS.get hp;(aG.Bo h (by rw [hs.1];exact hn)).1) H
theorem acC {x:aP} (h:i<ms.length):bK (ms.set i x) k=if k=i then x else bK ms k:=by
 unfold bK
 rw [ahv,ahv,List.getElem?_set]
 by_cases e:i=k
 ·subst e;simp [h]
 rw [ahe e,ahe (λq=>e q.symm)]
theorem Wr.name {z:ByteArray} (hi:i<os.length):Wr (vW A cp os) ⟨br A,bq A+(i*13+3),none⟩ (.string z):=λF w ⟨ms,hs,h⟩=>by
 have hm:i<ms.length:=by rw [hs.1];exact hi
 obtain⟨h1,h2,F',h3,h4⟩:=Wr.adu (j:=i*13+3) (u:=.string z) zc zc h
 refine⟨h1,h2,F',⟨ms.set i {bK ms i with name:=z},⟨by rw [ahp];exact hs.1,λk=>?_⟩,?_⟩,h4⟩
 ·rw [acC hm]
  by_cases e:k=i
  ·rw [ahf e,e];exact hs.2 i
  rw [ahe e];exact hs.2 k
 have e:(bO aL ms).set (i*13+3) (.string z)=bO aL (ms.set i {bK ms i with name:=z}):=EU (f:=λ_ x=>aL x) (g:=λ_ x=>aL x) (s:=13) (λ_ _=>rfl) (λ_ _=>rfl) ms 0 i 3 {bK ms i with name:=z} (.string z) hm Pd (λ_ _ _ _=>rfl) (λx hx=>by
  rw [sK hm] at hx;cases hx;rfl)
 rw [ahp]
 rw [e] at h3
 exact h3
abbrev trO (A:Option Addr) (c:Nat) (os:List aP):List HP:=[.abs (aG 53 13 A os.length c (bO aL os)),.abs (iL (uU os) os.length)]
end tr
noncomputable def fP (X:FM) (ns:List aO) (au:Int):Int:=
 open Classical in
 if kJ X then if cG ns then
  match ns.find? (λn=>decide (n.id=au)) with
  |none=>141
  |some n=>if n.kind=2 then 0 else 173
 else 140 else 179
def Bh (ns:List aO) (au:Int) (i:Nat):Prop:=i<ns.length/\(nd ns i).id=au/\∀q,q<i->(nd ns q).id≠au
section n
variable {X:FM} {ns:List aO} {au:Int} {i:Nat}
theorem Qj (ns:List aO) (au:Int):(∃i,Bh ns au i)\/∀q,q<ns.length->(nd ns q).id≠au:=by
 have key:∀n,n<=ns.length->(∃i,Bh ns au i)\/∀q,q<n->(nd ns q).id≠au:=λn=>by
  induction n with
  |zero=>exact λ_=>.inr λq h=>ahh h (ahm q)
  |succ n ih=>
    intro h
    rcases ih zc with h1|h1
    ·exact .inl h1
    by_cases e:(nd ns n).id=au
    ·exact .inl ⟨n,zc,e,h1⟩
    exact .inr λq hq=>(ahn.1 hq).elim (h1 q) (λe2=>e2 ▸ e)
 exact key _ (aho _)
theorem J8 (h:Bh ns au i):ns.find? (λn=>decide (n.id=au))=some (nd ns i):=by
 obtain⟨h1,h2,h3⟩:=h
 rw [List.find?_eq_some_iff_getElem]
 have e:=getD_some (x:=default) h1
 have e2:ns[i]=nd ns i:=by rw [ahs h1] at e;exact aip e
 refine⟨by simpa using h2,i,h1,e2,λj hj=>?_⟩
 have e3:ns[j]=nd ns j:=by
  have:=getD_some (x:=default) (show j<ns.length by omega)
  rw [ahs zc] at this;exact aip this
 rw [e3]
 simpa using h3 j hj
theorem Xt (h:∀q,q<ns.length->(nd ns q).id≠au):ns.find? (λn=>decide (n.id=au))=none:=by
 rw [List.find?_eq_none]
 intro n hn
 obtain⟨q,hq,e⟩:=ahT.1 hn
 have e3:ns[q]=nd ns q:=by
  have:=getD_some (x:=default) hq
  rw [ahs hq] at this;exact aip this
 rw [←e,e3]
 simpa using h q hq
theorem DT (h:¬kJ X):fP X ns au=179:=ahe h
theorem Bj (h:kJ X) (h2:¬cG ns):fP X ns au=140:=(ahf h).trans (ahe h2)
theorem xI (h:kJ X) (h2:cG ns) (h3:∀q,q<ns.length->(nd ns q).id≠au):fP X ns au=141:=(ahf h).trans ((ahf h2).trans (by rw [Xt h3]))
theorem DU (h:kJ X) (h2:cG ns) (h3:Bh ns au i) (h4:(nd ns i).kind=2):fP X ns au=0:=(ahf h).trans ((ahf h2).trans (by rw [J8 h3];exact ahf h4))
theorem zy (h:kJ X) (h2:cG ns) (h3:Bh ns au i) (h4:¬(nd ns i).kind=2):fP X ns au=173:=(ahf h).trans ((ahf h2).trans (by rw [J8 h3];exact ahe h4))
theorem FB (h:fP X ns au=0):kJ X/\cG ns:=by
 by_cases h1:kJ X
 ·by_cases h2:cG ns
  ·exact⟨h1,h2⟩
  rw [Bj h1 h2] at h;exact ahh h (by decide)
 rw [DT h1] at h;exact ahh h (by decide)
end n
end
section
open Go.RowKit Go.Maps bG aF
attribute [local irreducible] av bP aq aB
theorem aak {β:Bs} (b:Nat) (au z:Int) (v1 v2 v3 v4 v5 v6 v7 v8 v9:Value) :
 aX Tryz.prog β 45 #[.agg #[vI (z),v1,v2,v3,v4,v5,v6,v7,v8,v9],vP b] [.ay b [vI (au)] 3] (λv l=>v=.bool (decide (z=au))/\l=[.ay b [vI (au)] 3]):=by
 exact SE Tryz.func45 Tryz.ntmps45 (λR=>SR (jB 2 [2] (λb1=>.ay b1 [vI (z),v1,v2,v3,v4,v5,v6,v7,v8,v9] 95) (λb1=>NS (jK 5 [3] [(1,a_ 2 b1),(2,a_ 0 b)] (eN (v:=(.bool (decide ((z:Int)=(au:Int))))) ⟨rfl,rfl⟩)))))
theorem Qk {β:Bs} (A:Option Addr) (c:Nat) (ns:List aO) (Y:eP) (hG:aQ β A ns Y) (hl:ns.length<=1048576) (b:Nat) (au:Int) :
 aX Tryz.prog β 44 #[.slice A (ns.length) (c),.func (.func 45) #[] #[vP b]] [.ay b [vI (au)] 3] (λv l=>(∃i:Nat,Bh ns au i/\v=vI (i:Int)/\l=[.ay b [vI (au)] 3])\/((∀q,q<ns.length->(nd ns q).id≠au)/\v=vI (-1)/\l=[.ay b [vI (au)] 3])):=by
 refine SE Tryz.func44 Tryz.ntmps44 (λR=>SR (jK 1 [] [] (NZ (jK 3 [7,8] [] (NN (aq.block (lJ (ι:=Nat) (λ(i:Nat)=>(i<=ns.length)/\(∀q,q<i->(nd ns q).id≠au)) (λ(i:Nat)=>ns.length-i) (λ(i:Nat)=>[(0,.slice A (ns.length) (c)),(1,.func (.func 45) #[] #[vP b]),(7,vI ↑ns.length),(8,vI ↑i)]) (λ(i:Nat)=>[.ay b [vI (au)] 3,.abs R]) 0 [0,1] (⟨ahj _,λq h=>ahh h (ahm q)⟩) ?_)))))))
 rintro i ⟨hi,fV⟩
 exact SR (jK 1 [9] [] (NN (aq.seq (cP ((((i:Nat):Int):Int)<(((ns.length:Nat):Int):Int)) (λh9=>KX (aq.seq (aq.block (SR (jK 2 [5] [] (NS (jK 5 [11,15] [(3,x_ i ns.length (aQ.hd hG (i:=i) zc)),(4,D2 (iy Y i (nd ns i)) (λ_ _ h=>aQ.rd hG zc h))] (gE [0] (aak b au ((nd ns i).id) (.int .i64 ((nd ns i).kind)) (.int .i64 ((nd ns i).mode)) (.int .i64 ((nd ns i).bg)) (.int .i64 ((nd ns i).bh)) (.int .i64 ((nd ns i).aU)) (.int .i64 ((nd ns i).aJ)) (.slice (Y.dA i) ((nd ns i).data.length) ((Y.dC i))) (.string (nd ns i).target) (.slice (Y.eA i) ((nd ns i).ah.length) ((Y.eC i)))) (NN (cP ((nd ns i).id=au) (λpz=>zR (v:=(vI ↑i)) (.inl ⟨i,⟨zc,pz,fV⟩,rfl,rfl⟩)) (λpz=>KX (aq.region (jK 2 [8] [(0,wJ ((i:Int)+1) (↑(i+1)))] (NL (tJ ((i+1)) [0,1] (⟨zc,λq hq=>(ahn.1 hq).elim (fV q) (λe=>e ▸ pz)⟩)))))))))))))))) (λh9=>XX (zR (v:=(vI (-1))) (.inr ⟨λq hq=>fV q zc,rfl,rfl⟩)))))))
theorem aem {β:Bs} (b:Nat) :
 aX Tryz.prog β 46 #[.iface 37 (vP b)] [] (λv l=>v=.agg #[.iface 37 (vP b)]/\l=[]):=by
 exact SE Tryz.func46 Tryz.ntmps46 (λR=>SR (jB 1 [2] (λb2=>.ay b2 [.nilIface] 75) (λb2=>NS (jC 3 [] [(2,a_ 1 b2)] [(1,[(0,.iface 37 (vP b))])] (eS (v:=(.agg #[.iface 37 (vP b)])) [a_ 1 b2] ⟨rfl,rfl⟩)))))
end
section
open Go.RowKit bG aF Go.Maps
abbrev yQ (X:FM) (ns:List aO):={S:bB // kP X ns ns.length 0 S}
theorem HM (us:bF Th):us.length=(bn us).length:=(ahz ..).symm
theorem aal {S:bB} (h:Inv0 S):(aY S).length<=1048576:=by
 rw [ig]
 have:=h.len
 omega
end
section
open Go.RowKit Go.Maps bG aF
section m
variable {β:Bs} {ns:List aO} {Y:eP} {X:FM} {au:Int}
theorem aam (hcap:kJ X) (hok:cG ns) (A:Option Addr) (c:Nat) (hG:aQ β A ns Y) (hB:j7 ns 1048576) :
 aX Tryz.prog β 43 #[.agg #[.slice A ns.length c],.agg #[.int .i64 X.cN,.int .i64 X.cB,.int .i64 X.cH,.int .i64 X.cS,.int .i64 X.cZ]] [] (λv l=>∃(S:yQ X ns) (f m t:Nat) (L:HL),v=.tuple #[.pointer (some ⟨f,0,none⟩),.int .i64 0]/\l=pA f m t L S.1):=
 (SB A c ns Y hG (tQ hB) (BV hB) (JD hB) (JE hB) X).mono (by
  rintro v l (⟨h,_⟩|⟨_,h,_⟩|⟨_,_,h⟩)
  ·exact ahh hcap h
  ·exact ahh hok h
  obtain⟨S,f,m,t,L,h1,h2,h3⟩:=h
  exact⟨⟨S,h1⟩,f,m,t,L,h2,h3⟩)
theorem aan (Fx:¬(kJ X/\cG ns)) (A:Option Addr) (c:Nat) (hG:aQ β A ns Y) (hB:j7 ns 1048576) :
 aX Tryz.prog β 43 #[.agg #[.slice A ns.length c],.agg #[.int .i64 X.cN,.int .i64 X.cB,.int .i64 X.cH,.int .i64 X.cS,.int .i64 X.cZ]] [] (λv l=>v=.tuple #[.pointer none,.int .i64 (fP X ns au)]/\l=[]):=
 (SB A c ns Y hG (tQ hB) (BV hB) (JD hB) (JE hB) X).mono (by
  rintro v l (⟨h,h1,h2⟩|⟨h,h',h1,h2⟩|⟨h1,h2,_⟩)
  ·exact⟨by rw [DT h];exact h1,h2⟩
  ·exact⟨by rw [Bj h h'];exact h1,h2⟩
  exact ahh ⟨h1,h2⟩ Fx)
theorem DV (Fx:¬(kJ X/\cG ns)):fP X ns au≠0:=λh=>Fx (FB h)
theorem Xu {i:Nat} (hi:Bh ns au i) (A:Option Addr) (c:Nat) (hG:aQ β A ns Y) (hB:j7 ns 1048576) (b:Nat) :
 aX Tryz.prog β 44 #[.slice A ns.length c,.func (.func 45) #[] #[.pointer (some ⟨b,0,none⟩)]] [.ay b [.int .i64 au] 3] (λv l=>v=.int .i64 (i:Int)/\l=[.ay b [.int .i64 au] 3]):=
 (Qk A c ns Y hG (tQ hB) b au).mono (by
  rintro v l (⟨j,hj,h1,h2⟩|⟨h,_⟩)
  ·have e:i=j:=by
    obtain⟨a1,a2,a3⟩:=hi
    obtain⟨b1,b2,b3⟩:=hj
    rcases ah4 i j with h|h|h
    ·exact ahh a2 (b3 i h)
    ·exact h
    exact ahh b2 (a3 j h)
   subst e
   exact⟨h1,h2⟩
  exact ahh hi.2.1 (h i hi.1))
theorem aao (hi:∀q,q<ns.length->(nd ns q).id≠au) (A:Option Addr) (c:Nat) (hG:aQ β A ns Y) (hB:j7 ns 1048576) (b:Nat) :
 aX Tryz.prog β 44 #[.slice A ns.length c,.func (.func 45) #[] #[.pointer (some ⟨b,0,none⟩)]] [.ay b [.int .i64 au] 3] (λv l=>v=.int .i64 (-1)/\l=[.ay b [.int .i64 au] 3]):=
 (Qk A c ns Y hG (tQ hB) b au).mono (by
  rintro v l (⟨j,hj,_⟩|⟨_,h1,h2⟩)
  ·exact ahh hj.2.1 (hi j hj.1)
  exact⟨h1,h2⟩)
end m
def NB (β β':Bs):Bs:=⟨λk=>β'.O k/\¬β.O k,β'.w0⟩
section n
variable {a b c β β' kx:Bs} {A:Option Addr} {d:List UInt8} {Z:AZ} {xs:List dO} {l R:List HP} {w:World} {p:HP} {i:Nat} {P:Program} {f:FuncId} {args:Array Value} {pre:List HP}
theorem NB.le (h:b.le c):(NB a b).le (NB a c):=⟨λk hk=>⟨h.O k hk.1,hk.2⟩,h.os,h.tape,h.output,h.size,λk hk=>h.old k hk.1⟩
structure FC (a b:Bs) (A:Option Addr) (d:List UInt8):Prop where
 at_:bJ b A d
 nb:bJ (NB a b) A d
theorem FC.le (h:FC a b A d) (g:b.le c):FC a c A d:=⟨h.at_.le g,h.nb.le (NB.le g)⟩
structure aap (a b:Bs) (Z:AZ) (xs:List dO):Prop where
 at_:pN b Z xs
 nb:pN (NB a b) Z xs
theorem mX.aen (h:mX β R β') (i:Nat) (hp:R[i]?=some p):∃F,p.h F β'.w0/\∀k,F k->(NB β β').O k:=by
 obtain⟨φ,h1,h2,_⟩:=h.fp
 exact⟨φ i,(h1 i p hp).1,λk hk=>⟨(h1 i p hp).2 k hk,h2 i (dF hp) k hk⟩⟩
theorem Mz {β:Bs} (A:Option Addr) (c:Nat) (d:List UInt8) (hA:bJ β A d) (hl:d.length<=1048576):cr Tryz.prog β 37 #[.slice A d.length c] [] (λβ' v l=>∃B cap,v=.slice B d.length cap/\l=[]/\FC β β' B d/\d.length<=cap):=
 (xH A c d hA zc).UA (by
  rintro v l ⟨B,cap,rfl,rfl⟩
  refine⟨[],_,rfl,λβ' h=>⟨B,cap,rfl,rfl,⟨h.bytes,?_⟩,?_⟩⟩
  ·obtain⟨F,h1,h2⟩:=h.aen 0 rfl
   exact cD.gU h1 h2 rfl
  obtain⟨F,h1,_⟩:=h.get 0 rfl
  exact (aG.len h1).2)
theorem aR.aeo (h:mX β R β') (g:β'.le kx) (hS:aR kx l w):∃vT:Bs,β.le vT/\(NB β' kx).le vT/\aR vT (l++R) w:=by
 obtain⟨dW,φ,g1,g2,g3,g4⟩:=h
 obtain⟨ho,ψ,h1,h2,h3⟩:=hS
 have hin:∀i,i<R.length->∀k,φ i k->β'.O k:=λi hi k hk=>by
  obtain⟨p,hp⟩:=lq hi
  exact (g1 i p hp).2 k hk
 have hk:∀i,i<R.length->cK (λk=>¬φ i k) β'.w0 w:=λi hi=>⟨ho.os.trans g.os,ho.tape.trans g.tape,ho.output.trans g.output,ahk g.size ho.size,λk _ hn=>((ho.old k (g.O k (hin i hi k (ain.1 hn)))).2).trans (g.old k (hin i hi k (ain.1 hn))).2⟩
 have hb:=dW.trans g
 refine⟨⟨λk=>kx.O k/\(β'.O k->β.O k),kx.w0⟩,⟨λk hk=>⟨hb.O k hk,λ_=>hk⟩,hb.os,hb.tape,hb.output,hb.size,hb.old⟩,⟨λk hk=>⟨hk.1,λq=>ahh q hk.2⟩,rfl,rfl,rfl,aho _,λk hk=>⟨(ho.old k hk.1).1,rfl⟩⟩,⟨ho.os,ho.tape,ho.output,ho.size,λk hk=>ho.old k hk.1⟩,λi=>if i<l.length then ψ i else φ (i-l.length),λi p hp=>?_,λi hi k hk hO=>?_,λi j hi hj bV k hk iB=>?_⟩
 ·by_cases e:i<l.length
  ·simp only [e,if_true];exact h1 i p (by rw [ah7 e] at hp;exact hp)
  simp only [e,if_false]
  rw [ah6 zc] at hp
  exact HP.st (g1 _ p hp).1 (hk _ (dF hp)) (λk q n=>n q)
 ·rw [ahl] at hi
  by_cases e:i<l.length
  ·simp only [e,if_true] at hk;exact h2 i e k hk hO.1
  simp only [e,if_false] at hk;exact g2 _ zc k hk (hO.2 (hin _ zc k hk))
 rw [ahl] at hi hj
 by_cases e1:i<l.length
 ·simp only [e1,if_true] at hk
  by_cases e2:j<l.length
  ·simp only [e2,if_true] at iB;exact h3 i j e1 e2 bV k hk iB
  simp only [e2,if_false] at iB;exact h2 i e1 k hk (g.O k (hin _ zc k iB))
 simp only [e1,if_false] at hk
 by_cases e2:j<l.length
 ·simp only [e2,if_true] at iB;exact h2 j e2 k iB (g.O k (hin _ zc k hk))
 simp only [e2,if_false] at iB;exact g3 _ _ zc zc zc k hk iB
theorem cr.abA {Φ:Bs->Value->List HP->Prop} (h:∀β':Bs,mX β R β'->cr P β' f args pre (λkx v l=>Φ (NB β' kx) v l)) (hm:∀a b v l,a.le b->Φ a v l->Φ b v l):cr P β f args (pre++R) (λkx v l=>∃l0,Φ kx v l0/\l=l0++R):=by
 intro A w hS
 have h1:=aR.turn hS
 rw [←ahD] at h1
 obtain⟨β',g1,_,g3⟩:=h1.sZ
 refine (h β' g1 A w (aR.turn g3)).mono ?_
 rintro e w' ⟨kx,v,l,dW,he,Li,h2⟩
 obtain⟨vT,k1,k2,k3⟩:=aR.aeo g1 dW (aR.turn h2)
 refine⟨vT,v,l++R,k1,he,⟨l,hm _ _ v l k2 Li,rfl⟩,?_⟩
 rw [ahD] at k3
 exact aR.turn k3
end n
end
section
open Go.RowKit Go.Maps bG aF
attribute [local irreducible] av bP aq aB cu
theorem aaq {β:Bs} (A:Option Addr) (c:Nat) (ns:List aO) (Y:eP) (hG:aQ β A ns Y) (hB:j7 ns 1048576) (X:FM) (au:Int) (Af:Option Addr) (cf:Nat) (fs:List dI) (hF:cD β Af (bO iJ fs)) (oQ:kR fs 2097152) (Aa:Option Addr) (ca:Nat) (xs:List dO) (hA:cD β Aa (bO jP xs)) (ef:kZ xs 1048576) :
 cr Tryz.prog β 18 #[.agg #[.slice A (ns.length) (c)],vI (au),.agg #[vI (X.cN),vI (X.cB),vI (X.cH),vI (X.cS),vI (X.cZ)],.agg #[.slice Af (fs.length) (cf),.slice Aa (xs.length) (ca)]] [] (λβ' v l=>(fP X ns au≠0/\v=.tuple #[.pointer none,vI (fP X ns au)]/\l=[])\/(fP X ns au=0/\∃(N:yQ X ns) (L:HL) (w o q f m t am an km kn:Nat) (Z:AZ),v=.tuple #[vP w,vI 0]/\l=[.ay w [.iface 37 (vP w),vP f,.iface 108 (vP o),vI (au),.slice none (0) (0)] 79,.ay o [.iface 109 (vP q),vP f,vI (au),.map (some am),vI 0] 113,.ay q [.iface 76 (vP f),.map (some km),vI 0] 111,.abs (bD Tryz.prog 3 am (ju Z xs) an),.abs (bD Tryz.prog 3 km (gh fs) kn),.abs (aG 53 13 none 0 0 ([])),.ay f [vI (N.1.X.cN),vI (N.1.X.cB),vI (N.1.X.cH),vI (N.1.X.cS),vI (N.1.X.cZ),.map (some m),vP t,vI (N.1.X.last),vI (N.1.X.ah),vI (N.1.X.used)] 135,.abs (bD Tryz.prog 3 m (cQ (cM L N.1.ar)) N.1.ar.length),.abs (fD 182 t N.1.X.cH N.1.aI (cM L N.1.us)),.abs (aW (d8 N.1.O L)),.abs (aW (dN N.1.O L)),.abs (aW (fM N.1.O L))]/\aap β β' Z xs)):=by
 have hfl:=oQ.len
 have hxl:=ef.len
 refine o8 Tryz.func18 Tryz.ntmps18 (λaE R=>SR (jB 1 [4] (λb1=>.ay b1 [.slice A (ns.length) (c)] 24) (λb1=>jB 1 [5] (λb2=>.ay b2 [vI (au)] 3) (λb2=>jB 1 [6] (λb3=>.ay b3 [vI (X.cN),vI (X.cB),vI (X.cH),vI (X.cS),vI (X.cZ)] 28) (λb3=>jB 3 [7] (λb4=>.ay b4 [.slice Af (fs.length) (cf),.slice Aa (xs.length) (ca)] 32) (λb4=>NN (aq.seq ?_)))))))
 by_cases lK:kJ X/\cG ns
 ·refine aq.region (jK 2 [21,22] [(0,a_ 1 b1),(1,A_ 3 b3 5)] (gL [] (aam (β:=β) lK.1 lK.2 A c hG hB) ?_))
  rintro _ _ ⟨N,f,m,t,L,rfl,rfl⟩
  refine jK 5 [10,11] [] (NZ (jK 2 [27] [] (NF (KX (aq.seq ?_)))))
  rcases Qj ns au with ⟨r,hr⟩|iU
  ·have hr1:r<ns.length:=hr.1
   refine aq.region (jK 3 [30,31] [(1,a_ 7 b1)] (gE [8] (Xu (β:=β) hr A c hG hB b2) (jK 1 [12] [] (NZ (jK 2 [34] [(1,wF (((r:Int):Int)<(0:Int)))] (NF (KX (SQ (jK 7 [41] [(1,a_ 8 b1),(3,x_ r ns.length (aQ.hd hG (i:=r) zc)),(5,r_ (aQ.rd hG (i:=r) zc (j:=1) rfl))] (NN (cN (((nd ns r).kind:Int)=(2:Int)) (λAY=>SR (jK 2 [8,9] [] (eO (v:=(.tuple #[.pointer none,vI 173])) [] aE (.inl ⟨by rw [zy lK.1 lK.2 hr AY];decide,by rw [zy lK.1 lK.2 hr AY],rfl⟩) [7]))) (λAY=>KX (SR (av.tG (d:=(some 42)) (t:=106) (λ_=>KB) Tryz.prog rfl 3 (λm5=>jK 1 [13] [] (NZ (av.cO 11 (p':=.abs (bD Tryz.prog 3 m5 (ju AZ.none (xs.take 0)) 0)) rfl (ahg (λf=>HP.abs (bD Tryz.prog 3 _ f 0)) Zc.symm) (av.mem (eZ:=[.ay b2 [vI (au)] 3,pF f m t N.1.X,pI m L N.1.ar,pT t N.1.X.cH N.1.aI L N.1.us,pO N.1.O L,pD N.1.O L,pE N.1.O L,.abs R,.ay b1 [.slice A (ns.length) (c)] 24,.ay b3 [vI (X.cN),vI (X.cB),vI (X.cH),vI (X.cS),vI (X.cZ)] 28,.ay b4 [.slice Af (fs.length) (cf),.slice Aa (xs.length) (ca)] 32,.abs (bD Tryz.prog 3 m5 (ju AZ.none (xs.take 0)) 0),.abs (aW (tq AZ.none (xs.take 0)))]) (λw hS=>hS.ady) (jK 4 [44,45,46] [(1,a_ 10 b4)] (NN (aq.block (lJ (ι:=Nat×AZ×Nat) (λ(i,Z,an)=>(i<=xs.length)/\(an<=i)) (λ(i,Z,an)=>xs.length-i) (λ(i,Z,an)=>[(5,vP b2),(7,vP b4),(10,vP f),(13,.map (some m5)),(44,.slice Aa (xs.length) (ca)),(45,vI ↑xs.length),(46,vI ↑i)]) (λ(i,Z,an)=>[.ay b2 [vI (au)] 3,pF f m t N.1.X,pI m L N.1.ar,pT t N.1.X.cH N.1.aI L N.1.us,pO N.1.O L,pD N.1.O L,pE N.1.O L,.ay b1 [.slice A (ns.length) (c)] 24,.ay b3 [vI (X.cN),vI (X.cB),vI (X.cH),vI (X.cS),vI (X.cZ)] 28,.ay b4 [.slice Af (fs.length) (cf),.slice Aa (xs.length) (ca)] 32,.abs (bD Tryz.prog 3 m5 (ju Z (xs.take i)) an),.abs (aW (tq Z (xs.take i))),.abs R]) (0,AZ.none,0) [0,1,2,3,4,5,6,8,9,10,11,12,7] (⟨ahj _,aho _⟩) ?_))))))))))))))))))))))
   rintro⟨i,Z,an⟩ ⟨hi,han⟩
   refine SR (jK 1 [47] [] (NN (aq.seq (cP ((((i:Nat):Int):Int)<(((xs.length:Nat):Int):Int)) (λRp=>?_) (λRp=>?_)))))
   ·refine KX (aq.seq (aq.block (SR (jN 4 [15] (λb6=>[(0,x_ i xs.length (M9 hA (i:=i) zc)),(1,p_ ⟨[.old (.int .i64 ((act xs i).at_)),.old (.int .i64 ((act xs i).op)),.old (.string (act xs i).path),.old (.string (act xs i).to),.old (.string (act xs i).text)],none,none,none,none⟩ [(Rd β ⟨(br Aa),bq Aa+i*5+4,none⟩ (.string (act xs i).text)),(Rd β ⟨(br Aa),bq Aa+i*5+3,none⟩ (.string (act xs i).to)),(Rd β ⟨(br Aa),bq Aa+i*5+2,none⟩ (.string (act xs i).path)),(Rd β ⟨(br Aa),bq Aa+i*5+1,none⟩ (vI ((act xs i).op))),(Rd β ⟨(br Aa),bq Aa+i*5,none⟩ (vI ((act xs i).at_)))] ⟨qP hA (i:=i) zc (j:=4) rfl,qP hA (i:=i) zc (j:=3) rfl,qP hA (i:=i) zc (j:=2) rfl,qP hA (i:=i) zc (j:=1) rfl,qP hA (i:=i) zc (j:=0) rfl,trivial⟩),(3,A_ 13 b6 5)]) (λ_=>[]) (λb6=>.ay b6 [vI ((act xs i).at_),vI ((act xs i).op),.string (act xs i).path,.string (act xs i).to,.string (act xs i).text] 68) (λb6=>NN (rM (List.range 11) 8 [10,13] (jR 6 [5,7,10,13,15,44,45,46,50,52,53,55] [(2,a_ 1 b6),(5,a_ 1 b6)] (cu.ji 0 (d:=(some 56)) (t:=106) (K:=3) (E:=30) (b:=m5) (cnt:=an) (f:=(ju Z (xs.take i))) (x:=(.tmp 53)) (ix:=(.tmp 55)) (key:=vI ((act xs i).at_)) (z:=.slice none (0) (0)) (kl:=(Lit.int IntKind.i64 (act xs i).at_)) (q:=(ju Z (xs.take i) (Lit.int IntKind.i64 (act xs i).at_))) KB KB (λ_=>KB) (λ_=>KB) iY Tryz.underlying106 (λ_=>KB) (mB (ef.at zc).aw) (rfl) (by rw [H9];rfl) (jR 1 [5,7,10,13,44,45,46,50,52,56,57] [(0,A_ 1 b6 5)] (mN [10,13] (λb7=>[(58,.slice (some ⟨b7,0,none⟩) (1) (1))]) (λ_=>[]) (λb7=>.ay b7 [vI ((act xs i).at_),vI ((act xs i).op),.string (act xs i).path,.string (act xs i).to,.string (act xs i).text] 68) (λb7=>cu.cut (ι:=(Option Addr)×Nat) (bY:=λ((A8,c9):(Option Addr)×Nat)=>[(5,vP b2),(7,vP b4),(10,vP f),(13,.map (some m5)),(44,.slice Aa (xs.length) (ca)),(45,vI ↑xs.length),(46,vI ↑i),(50,.map (some m5)),(52,vI ((act xs i).at_)),(59,.slice A8 (((dS (xs.take i) (act xs i).at_).length+1)) (c9))]) (dK:=λ((A8,c9):(Option Addr)×Nat)=>[.ay b2 [vI (au)] 3,pF f m t N.1.X,pI m L N.1.ar,pT t N.1.X.cH N.1.aI L N.1.us,pO N.1.O L,pD N.1.O L,pE N.1.O L,.ay b1 [.slice A (ns.length) (c)] 24,.ay b3 [vI (X.cN),vI (X.cB),vI (X.cH),vI (X.cS),vI (X.cZ)] 28,.ay b4 [.slice Af (fs.length) (cf),.slice Aa (xs.length) (ca)] 32,.abs (bD Tryz.prog 3 m5 (ju Z (xs.take i)) an),.abs (aW (nU (tq Z (xs.take i)) (zz (act xs i).at_) dV.none)),.abs R,.ay b6 [vI ((act xs i).at_),vI ((act xs i).op),.string (act xs i).path,.string (act xs i).to,.string (act xs i).text] 68,.ay b7 [vI ((act xs i).at_),vI ((act xs i).op),.string (act xs i).path,.string (act xs i).to,.string (act xs i).text] 68,.abs (aG 68 5 A8 ((dS (xs.take i) (act xs i).at_).length+1) c9 (bO jP (dS (xs.take i) (act xs i).at_)++jP (act xs i)))]) [10,13] rfl rfl ?_ rfl (λ_=>KB) ?_)))))))))))
    ·refine sl 56 (((ju Z (xs.take i) (Lit.int IntKind.i64 (act xs i).at_)).getD (.slice none 0 0))) (.slice (aA Z (xs.take i) (act xs i).at_) ((dS (xs.take i) (act xs i).at_).length) ((aC Z (xs.take i) (act xs i).at_))) (H9) (av.mem (eZ:=[.ay b2 [vI (au)] 3,pF f m t N.1.X,pI m L N.1.ar,pT t N.1.X.cH N.1.aI L N.1.us,pO N.1.O L,pD N.1.O L,pE N.1.O L,.ay b1 [.slice A (ns.length) (c)] 24,.ay b3 [vI (X.cN),vI (X.cB),vI (X.cH),vI (X.cS),vI (X.cZ)] 28,.ay b4 [.slice Af (fs.length) (cf),.slice Aa (xs.length) (ca)] 32,.abs (bD Tryz.prog 3 m5 (ju Z (xs.take i)) an),.abs (aW (nU (tq Z (xs.take i)) (zz (act xs i).at_) dV.none)),.abs R,.ay b6 [vI ((act xs i).at_),vI ((act xs i).op),.string (act xs i).path,.string (act xs i).to,.string (act xs i).text] 68,.ay b7 [vI ((act xs i).at_),vI ((act xs i).op),.string (act xs i).path,.string (act xs i).to,.string (act xs i).text] 68,.abs (aG 68 5 (aA Z (xs.take i) (act xs i).at_) ((dS (xs.take i) (act xs i).at_).length) (aC Z (xs.take i) (act xs i).at_) (bO jP (dS (xs.take i) (act xs i).at_)))]) (λw hS=>hS.ach (i:=11) rfl (act xs i).at_) ?_)
     have hay:(dS (xs.take i) (act xs i).at_).length<=1048576:=ahk (JF _) (by rw [ahC];omega)
     exact mU 15 30 (some ⟨b7,0,none⟩) 1 1 [vI ((act xs i).at_),vI ((act xs i).op),.string (act xs i).path,.string (act xs i).to,.string (act xs i).text] rfl (fU (j:=14) rfl) (λA8 c9=>av.cO 15 (p':=.abs (aG 68 5 A8 ((dS (xs.take i) (act xs i).at_).length+1) c9 (bO jP (dS (xs.take i) (act xs i).at_)++jP (act xs i)))) rfl (rfl) (sl 59 (.slice A8 (((dS (xs.take i) (act xs i).at_).length)+1) (c9)) (.slice A8 (((dS (xs.take i) (act xs i).at_).length+1)) (c9)) (rfl) (NL (MD (A8,c9) [5,7,10,13,44,45,46,50,52,59] [0,1,2,3,4,5,6,7,8,9,10,11,12,13,14,15]))))
    rintro⟨A8,c9⟩
    exact cu.last rfl rfl (av.mem (eZ:=[.abs (aW (tq (Z.put (act xs i).at_ A8 c9) (xs.take (i+1)))),.ay b2 [vI (au)] 3,.ay f [vI (N.1.X.cN),vI (N.1.X.cB),vI (N.1.X.cH),vI (N.1.X.cS),vI (N.1.X.cZ),.map (some m),vP t,vI (N.1.X.last),vI (N.1.X.ah),vI (N.1.X.used)] 135,.abs (bD Tryz.prog 3 m (cQ (cM L N.1.ar)) N.1.ar.length),.abs (fD 182 t N.1.X.cH N.1.aI (cM L N.1.us)),.abs (aW (d8 N.1.O L)),.abs (aW (dN N.1.O L)),.abs (aW (fM N.1.O L)),.ay b1 [.slice A (ns.length) (c)] 24,.ay b3 [vI (X.cN),vI (X.cB),vI (X.cH),vI (X.cS),vI (X.cZ)] 28,.ay b4 [.slice Af (fs.length) (cf),.slice Aa (xs.length) (ca)] 32,.abs (bD Tryz.prog 3 m5 (ju Z (xs.take i)) an),.abs R,.ay b6 [vI ((act xs i).at_),vI ((act xs i).op),.string (act xs i).path,.string (act xs i).to,.string (act xs i).text] 68,.ay b7 [vI ((act xs i).at_),vI ((act xs i).op),.string (act xs i).path,.string (act xs i).to,.string (act xs i).text] 68]) (λw hS=>by rw [DH zc];exact hS.adz (i:=11) (j:=15) (ar:=[0,1,2,3,4,5,6,7,8,9,10,12,13,14]) rfl rfl KB rfl) (av.qU 11 (d:=none) (t:=106) (K:=3) (E:=30) (b:=m5) (n:=an) (f:=(ju Z (xs.take i))) (x:=(.tmp 50)) (ix:=(.tmp 52)) (y:=(.tmp 59)) (key:=vI ((act xs i).at_)) (u:=.slice A8 (((dS (xs.take i) (act xs i).at_).length+1)) (c9)) (kl:=(Lit.int IntKind.i64 (act xs i).at_)) (n':=(if (ju Z (xs.take i) (Lit.int IntKind.i64 (act xs i).at_)).isSome then an else an+1)) (f':=(ju (Z.put (act xs i).at_ A8 c9) (xs.take (i+1)))) (λ_=>KB) KB (λ_=>KB) (λ_=>KB) (λ_=>KB) iY Tryz.underlying106 (by unfold maxLen;omega) (mB (ef.at zc).aw) (rfl) (by rw [DH zc];exact Zd) (NL (aB.np (BX (aq.region (jK 2 [46] [(0,wJ ((i:Int)+1) (↑(i+1)))] (NL (tJ ((i+1),(Z.put (act xs i).at_ A8 c9),(if (ju Z (xs.take i) (Lit.int IntKind.i64 (act xs i).at_)).isSome then an else an+1)) [1,2,3,4,5,6,7,8,9,10,11,0,12] (⟨zc,by split<;>omega⟩))))))))))
   refine XX (SR (av.sZ (l:=[.ay b2 [vI (au)] 3,.ay f [vI (N.1.X.cN),vI (N.1.X.cB),vI (N.1.X.cH),vI (N.1.X.cS),vI (N.1.X.cZ),.map (some m),vP t,vI (N.1.X.last),vI (N.1.X.ah),vI (N.1.X.used)] 135,.abs (bD Tryz.prog 3 m (cQ (cM L N.1.ar)) N.1.ar.length),.abs (fD 182 t N.1.X.cH N.1.aI (cM L N.1.us)),.abs (aW (d8 N.1.O L)),.abs (aW (dN N.1.O L)),.abs (aW (fM N.1.O L)),.ay b1 [.slice A (ns.length) (c)] 24,.ay b3 [vI (X.cN),vI (X.cB),vI (X.cH),vI (X.cS),vI (X.cZ)] 28,.ay b4 [.slice Af (fs.length) (cf),.slice Aa (xs.length) (ca)] 32,.abs (bD Tryz.prog 3 m5 (ju Z (xs.take i)) an),.abs R]) [.abs (aW (tq Z (xs.take i)))] [0,1,2,3,4,5,6,7,8,9,10,12,11] rfl KB (λKY oO _ hL=>?_)))
   have hZ:aap β KY Z xs:=by obtain⟨F,h,h2⟩:=hL.aen 0 rfl;rw [show xs.take i=xs by rw [show i=xs.length by omega,ahG]] at h;exact⟨pN.of h (λk hk=>(h2 k hk).1) rfl,pN.of h (λk hk=>⟨(h2 k hk).1,λz=>(h2 k hk).2 (aE.O k z)⟩) rfl⟩
   replace hG:=hG.le oO
   replace hA:=hA.le oO
   replace hF:=hF.le oO
   replace aE:=aE.trans oO
   refine av.cO 10 (p:=.abs (bD Tryz.prog 3 m5 (ju Z (xs.take i)) an)) (p':=.abs (bD Tryz.prog 3 m5 (ju Z xs) an)) KB (by rw [show xs.take i=xs by rw [show i=xs.length by omega,ahG]]) (av.tG (d:=(some 61)) (t:=107) (λ_=>KB) Tryz.prog rfl 3 (λm11=>jK 1 [16] [] (NZ (av.cO 12 (p':=.abs (bD Tryz.prog 3 m11 (gh (fs.take 0)) 0)) rfl (ahg (λf=>HP.abs (bD Tryz.prog 3 _ f 0)) Wa.symm) (jK 4 [63,64,65] [(1,a_ 9 b4)] (NN (aq.block (lJ (ι:=Nat×Nat) (λ(j,kn)=>(j<=fs.length)/\(kn<=j)) (λ(j,kn)=>fs.length-j) (λ(j,kn)=>[(5,vP b2),(10,vP f),(13,.map (some m5)),(16,.map (some m11)),(63,.slice Af (fs.length) (cf)),(64,vI ↑fs.length),(65,vI ↑j)]) (λ(j,kn)=>[.ay b2 [vI (au)] 3,pF f m t N.1.X,pI m L N.1.ar,pT t N.1.X.cH N.1.aI L N.1.us,pO N.1.O L,pD N.1.O L,pE N.1.O L,.ay b1 [.slice A (ns.length) (c)] 24,.ay b3 [vI (X.cN),vI (X.cB),vI (X.cH),vI (X.cS),vI (X.cZ)] 28,.ay b4 [.slice Af (fs.length) (cf),.slice Aa (xs.length) (ca)] 32,.abs (bD Tryz.prog 3 m5 (ju Z xs) an),.abs (bD Tryz.prog 3 m11 (gh (fs.take j)) kn),.abs R]) (0,0) [0,1,2,3,4,5,6,7,8,9,10,12,11] (⟨ahj _,aho _⟩) ?_))))))))
   rintro⟨j,kn⟩ ⟨hj,hkn⟩
   refine SR (jK 1 [66] [] (NN (aq.seq (cP ((((j:Nat):Int):Int)<(((fs.length:Nat):Int):Int)) (λmg=>KX (aq.seq (aq.block (SR (jN 4 [18] (λb12=>[(0,x_ j fs.length (aaV hF (i:=j) zc)),(1,r2 (Na hF (i:=j) zc (j:=0) rfl) (Na hF (i:=j) zc (j:=1) rfl)),(3,A_ 13 b12 2)]) (λ_=>[]) (λb12=>.ay b12 [vI ((pK fs j).at_),vI ((pK fs j).kind)] 66) (λb12=>NS (jK 4 [72] [(1,a_ 13 b12)] (sP 72 (((pK fs j).kind:Int)>=(1:Int)) (λh72=>jK 5 [77] [(1,a_ 13 b12)] (sP 77 (((pK fs j).kind:Int)<=(3:Int)) (λh77=>jK 3 [78,80] [(2,a_ 13 b12)] (av.ji 11 (d:=(some 81)) (t:=107) (K:=3) (E:=3) (b:=m11) (n:=kn) (f:=(gh (fs.take j))) (x:=(.tmp 78)) (ix:=(.tmp 80)) (key:=vI ((pK fs j).at_)) (z:=.int .i64 0) (kl:=(Lit.int IntKind.i64 (pK fs j).at_)) (r:=(gh (fs.take j) (Lit.int IntKind.i64 (pK fs j).at_))) (λ_=>KB) KB (λ_=>KB) (λ_=>KB) iY Tryz.underlying107 (λ_=>KB) (mB (oQ.at zc)) (rfl) (sl 81 (((gh (fs.take j) (Lit.int IntKind.i64 (pK fs j).at_)).getD (.int .i64 0))) (.int .i64 ((iQ (fs.take j) (pK fs j).at_))) (L7) (jK 2 [83] [] (NN (cP (((iQ (fs.take j) (pK fs j).at_):Int)=(0:Int)) (λh83=>aq.region (jK 5 [84,86,88] [(2,a_ 13 b12),(4,a_ 13 b12)] (av.qU 11 (d:=none) (t:=107) (K:=3) (E:=3) (b:=m11) (n:=kn) (f:=(gh (fs.take j))) (x:=(.tmp 84)) (ix:=(.tmp 86)) (y:=(.tmp 88)) (key:=vI ((pK fs j).at_)) (u:=.int .i64 ((pK fs j).kind)) (kl:=(Lit.int IntKind.i64 (pK fs j).at_)) (n':=(if (gh (fs.take j) (Lit.int IntKind.i64 (pK fs j).at_)).isSome then kn else kn+1)) (f':=(gh (fs.take (j+1)))) (λ_=>KB) KB (λ_=>KB) (λ_=>KB) (λ_=>KB) iY Tryz.underlying107 (by unfold maxLen;omega) (mB (oQ.at zc)) (rfl) (by rw [wQ zc];exact Wb ⟨zc,zc⟩ zc) (LX (aq.region (jK 2 [65] [(0,wJ ((j:Int)+1) (↑(j+1)))] (NL (tJ ((j+1),(if (gh (fs.take j) (Lit.int IntKind.i64 (pK fs j).at_)).isSome then kn else kn+1)) [0,1,2,3,4,5,6,7,8,9,10,11,12] (⟨zc,by split<;>omega⟩))))))))) (λh83=>KX (aq.region (av.cO 11 (p:=.abs (bD Tryz.prog 3 m11 (gh (fs.take j)) kn)) (p':=.abs (bD Tryz.prog 3 m11 (gh (fs.take (j+1))) kn)) KB (by rw [wQ zc,DG];unfold FK;omega) (jK 2 [65] [(0,wJ ((j:Int)+1) (↑(j+1)))] (NL (tJ ((j+1),kn) [0,1,2,3,4,5,6,7,8,9,10,11,12] (⟨zc,zc⟩))))))))))))) (λh77=>jK 4 [81] [] (jK 2 [83] [] (NF (KX (aq.region (av.cO 11 (p:=.abs (bD Tryz.prog 3 m11 (gh (fs.take j)) kn)) (p':=.abs (bD Tryz.prog 3 m11 (gh (fs.take (j+1))) kn)) KB (by rw [wQ zc,DG];unfold FK;omega) (jK 2 [65] [(0,wJ ((j:Int)+1) (↑(j+1)))] (NL (tJ ((j+1),kn) [0,1,2,3,4,5,6,7,8,9,10,11,12] (⟨zc,zc⟩)))))))))))) (λh72=>jK 9 [77,81] [] (jK 2 [83] [] (NF (KX (aq.region (av.cO 11 (p:=.abs (bD Tryz.prog 3 m11 (gh (fs.take j)) kn)) (p':=.abs (bD Tryz.prog 3 m11 (gh (fs.take (j+1))) kn)) KB (by rw [wQ zc,DG];unfold FK;omega) (jK 2 [65] [(0,wJ ((j:Int)+1) (↑(j+1)))] (NL (tJ ((j+1),kn) [0,1,2,3,4,5,6,7,8,9,10,11,12] (⟨zc,zc⟩)))))))))))))))))) (λmg=>?_)))))
   exact XX (SR (av.cO 11 (p:=.abs (bD Tryz.prog 3 m11 (gh (fs.take j)) kn)) (p':=.abs (bD Tryz.prog 3 m11 (gh fs) kn)) KB (by rw [show fs.take j=fs by rw [show j=fs.length by omega,ahG]]) (jN 5 [19] (λb13=>[(1,a_ 0 b2)]) (λ_=>[]) (λb13=>.ay b13 [.nilIface,vP f,.nilIface,vI (au),.slice none (0) (0)] 79) (λb13=>NS (jN 11 [94,104] (λb14=>[(8,a_ 0 b2)]) (λ_=>[]) (λb14=>.ay b14 [.iface 76 (vP f),.map (some m11),vI 0] 111) (λb14=>jN 5 [] (λb15=>[(4,a_ 13 b13)]) (λb15=>[(13,[(2,.iface 108 (vP b15))])]) (λb15=>.ay b15 [.iface 109 (vP b14),vP f,vI (au),.map (some m5),vI 0] 113) (λb15=>NS (jK 3 [109,111] [] (gE [] (aem b13) (jC 3 [] [(2,a_ 13 b13)] [(13,[(0,.iface 37 (vP b13))])] (NS (jK 3 [8,9] [] (NN (aq.ret (aB.mem (eZ:=[.ay b2 [vI (au)] 3,pF f m t N.1.X,pI m L N.1.ar,pT t N.1.X.cH N.1.aI L N.1.us,pO N.1.O L,pD N.1.O L,pE N.1.O L,.ay b1 [.slice A (ns.length) (c)] 24,.ay b3 [vI (X.cN),vI (X.cB),vI (X.cH),vI (X.cS),vI (X.cZ)] 28,.ay b4 [.slice Af (fs.length) (cf),.slice Aa (xs.length) (ca)] 32,.abs (bD Tryz.prog 3 m5 (ju Z xs) an),.abs (bD Tryz.prog 3 m11 (gh fs) kn),.abs R,.ay b13 [.iface 37 (vP b13),vP f,.iface 108 (vP b15),vI (au),.slice none (0) (0)] 79,.ay b14 [.iface 76 (vP f),.map (some m11),vI 0] 111,.ay b15 [.iface 109 (vP b14),vP f,vI (au),.map (some m5),vI 0] 113,.abs (aG 53 13 none 0 0 ([]))]) (λw hS=>hS.mF (e:=53) (size:=13)) (rB (.tuple #[vP b13,vI 0]) [] [13,15,14,10,11,16,1,2,3,4,5,6,12] aE (.inr ⟨DU lK.1 lK.2 hr AY,N,L,b13,b15,b14,f,m,t,m5,an,m11,kn,Z,rfl,rfl,hZ⟩)))))))))))))))))
  exact aq.region (jK 3 [30,31] [(1,a_ 7 b1)] (gE [8] (aao (β:=β) iU A c hG hB b2) (jK 1 [12] [] (NZ (jK 2 [34] [] (NT (SR (jK 2 [8,9] [] (eO (v:=(.tuple #[.pointer none,vI 141])) [] aE (.inl ⟨by rw [xI lK.1 lK.2 iU];decide,by rw [xI lK.1 lK.2 iU],rfl⟩) [7])))))))))
 exact aq.region (jK 2 [21,22] [(0,a_ 1 b1),(1,A_ 3 b3 5)] (gE [] (aan (β:=β) (au:=au) lK A c hG hB) (jK 5 [10,11] [] (NZ (jK 2 [27] [] (NN (cN (((fP X ns au):Int)=(0:Int)) (λxQ=>SR (jK 3 [8,9] [] (eO (v:=(.tuple #[.pointer none,vI ((fP X ns au))])) [] aE (.inl ⟨DV lK,rfl,rfl⟩)))) (λxQ=>ahh xQ (DV lK)))))))))
end
section
open Go.RowKit Go.Maps bG aF
attribute [local irreducible] av bP aq aB
noncomputable abbrev zF1 (w)(f:Nat) (o) (au) (tA) (tr:List aP) (tC):=(.ay w [.iface 37 (vP w),vP f,.iface 108 (vP o),vI (au),.slice tA (tr.length) (tC)] 79:HP)
noncomputable abbrev zF2 (o)(q:Nat) (f:Nat) (au) (am) (tr:List aP):=(.ay o [.iface 109 (vP q),vP f,vI (au),.map (some am),vI (((tr.length:Nat):Int))] 113:HP)
noncomputable abbrev zF3 (q:Nat) (f:Nat) (km) (tr:List aP):=(.ay q [.iface 76 (vP f),.map (some km),vI (((tr.length:Nat):Int))] 111:HP)
noncomputable abbrev zF4 (am)(Z)(xs)(an):=(.abs (bD Tryz.prog 3 am (ju Z xs) an):HP)
noncomputable abbrev zF5 (km)(fs)(kn):=(.abs (bD Tryz.prog 3 km (gh fs) kn):HP)
noncomputable abbrev zF6 (tA)(tr:List aP) (tC):=(.abs (aG 53 13 tA tr.length tC (bO aL tr)):HP)
noncomputable abbrev zF7 (t)(S:bB) (L:HL):=(pT t S.X.cH S.aI L S.us:HP)
noncomputable abbrev MB (w)(f:Nat) (o) (au) (tA) (tr) (tC) (q:Nat) (am) (km) (Z) (xs) (an) (fs) (kn) (m:Nat) (t) (S:bB) (L:HL):=([zF1 w f o au tA tr tC,zF2 o q f au am tr,zF3 q f km tr,zF4 am Z xs an,zF5 km fs kn,zF6 tA tr tC,pF f m t S.X,pI m L S.ar,zF7 t S L,pO S.O L,pD S.O L,pE S.O L]:List HP)
theorem UC {β:Bs} (S:bB) (L:HL) (w o q f m t am an km kn:Nat) (Z:AZ) (fs:List dI) (xs:List dO) (au:Int) (tr:List aP) (tA:Option Addr) (tC:Nat)  :
 aX Tryz.prog β 29 #[vP w] (MB w f o au tA tr tC q am km Z xs an fs kn m t S L) (λv l=>v=vI (tr.length:Int)/\l=(MB w f o au tA tr tC q am km Z xs an fs kn m t S L)):=by
 exact SE Tryz.func29 Tryz.ntmps29 (λR=>SR (jK 1 [] [] (NS (jK 6 [2] [(3,a_ 0 w)] (eN (v:=(vI ↑tr.length)) ⟨rfl,rfl⟩)))))
theorem Xv {β:Bs} (S:bB) (L:HL) (w o q f m t am an km kn:Nat) (Z:AZ) (fs:List dI) (xs:List dO) (au:Int) (tr:List aP) (tA:Option Addr) (tC:Nat)  :
 aX Tryz.prog β 40 #[vP w] (MB w f o au tA tr tC q am km Z xs an fs kn m t S L) (λv l=>v=vI (S.us.length:Int)/\l=(MB w f o au tA tr tC q am km Z xs an fs kn m t S L)):=by
 refine SE Tryz.func40 Tryz.ntmps40 (λR=>SR (jK 1 [] [] (NS (jK 4 [6] [(3,a_ 0 w)] (gL [6,8] (Xr S L f m t) ?_)))))
 rintro _ _ ⟨Ah,ch,rfl,rfl⟩
 exact jK 2 [2] [] (eN (v:=(vI ↑S.us.length)) ⟨rfl,rfl⟩ [3,4,5,6,7,8,0,9,1,10,11,12,13])
theorem Xw {β:Bs} (S:bB) (L:HL) (w o q f m t am an km kn:Nat) (Z:AZ) (fs:List dI) (xs:List dO) (au:Int) (tr:List aP) (tA:Option Addr) (tC:Nat)  :
 aX Tryz.prog β 41 #[vP w] (MB w f o au tA tr tC q am km Z xs an fs kn m t S L) (λv l=>v=vI S.aI/\l=(MB w f o au tA tr tC q am km Z xs an fs kn m t S L)):=by
 exact SE Tryz.func41 Tryz.ntmps41 (λR=>SR (jK 1 [] [] (NS (jK 4 [6] [(3,a_ 0 w)] (gE [6,8] (aaf S L f m t) (jK 1 [2] [] (eN (v:=(vI (S.aI))) ⟨rfl,rfl⟩ [2,3,4,5,6,7,0,8,1,9,10,11,12])))))))
theorem UD {β:Bs} (S:bB) (L:HL) (w o q f m t am an km kn:Nat) (Z:AZ) (fs:List dI) (xs:List dO) (au:Int) (tr:List aP) (tA:Option Addr) (tC:Nat) (hI:bT S) :
 aX Tryz.prog β 30 #[vP w] (MB w f o au tA tr tC q am km Z xs an fs kn m t S L) (λv l=>∃A cp K,v=.agg #[.slice A (aY S).length cp]/\l=(MB w f o au tA tr tC q am km Z xs an fs kn m t S L)++[.abs (aG 95 10 A (aY S).length cp (bH K (aY S))),.abs (iL (q8 (aY S) K) (aY S).length),.abs (iL (lg (aY S) K) (aY S).length)]):=by
 refine SE Tryz.func30 Tryz.ntmps30 (λR=>SR (jB 1 [2] (λb1=>.ay b1 [.slice none (0) (0)] 24) (λb1=>NS (jK 4 [6] [(3,a_ 0 w)] (gL [6,7,9,10,11] (Xp S L f m t hI) ?_)))))
 rintro _ _ ⟨Ao,cp,K,rfl,rfl⟩
 exact jC 1 [] [(0,a_ 16 b1)] [(16,[(0,.slice Ao ((aY S).length) (cp))])] (eS (v:=(.agg #[.slice Ao ((aY S).length) (cp)])) [a_ 16 b1] ⟨Ao,cp,K,rfl,rfl⟩ [8,9,10,11,12,13,0,1,14,2,3,4,5,6,7,15])
theorem sI {β:Bs} (Af:Option Addr) (cf:Nat) (fs:List dI) (hF:cD β Af (bO iJ fs)) (hfl:fs.length<=2097152) (Aa:Option Addr) (ca:Nat) (xs:List dO) (hA:cD β Aa (bO jP xs)) (hxl:xs.length<=2097152) :
 aX Tryz.prog β 17 #[.agg #[.slice Af (fs.length) (cf),.slice Aa (xs.length) (ca)]] [] (λv l=>∃B b C c,v=.agg #[.slice B fs.length b,.slice C xs.length c]/\l=[.abs (aG 66 2 B fs.length b (bO iJ fs)),.abs (aG 68 5 C xs.length c (bO jP xs))]):=by
 exact SE Tryz.func17 Tryz.ntmps17 (λR=>SR (jB 1 [1] (λb2=>.ay b2 [.slice Af (fs.length) (cf),.slice Aa (xs.length) (ca)] 32) (λb2=>jB 1 [2] (λb3=>.ay b3 [.slice none (0) (0),.slice none (0) (0)] 32) (λb3=>NS (jB 2 [3] (λb4=>.ay b4 [] 66) (λb4=>NS (av.mem (λw hS=>hS.oW (i:=3) (b:=b4) (cs:=[]) (e:=66) 2 0 KB rfl Pd) (jK 3 [6,8] [(2,a_ 1 b2)] (mU 3 29 Af fs.length cf (bO iJ fs) rfl (hF.src) (λA5 c6=>av.cO 3 (p:=.abs (aG 66 2 A5 (0+fs.length) c6 ([]++(bO iJ fs)))) (p':=.abs (aG 66 2 A5 fs.length c6 (bO iJ fs))) KB (by rw [ahy,List.nil_append]) (sl 9 (.slice A5 (0+fs.length) (c6)) (.slice A5 (fs.length) (c6)) (by rw [ahy]) (jK 1 [3] [] (NS (jB 2 [4] (λb7=>.ay b7 [] 68) (λb7=>NS (av.mem (λw hS=>hS.oW (i:=4) (b:=b7) (cs:=[]) (e:=68) 5 0 KB rfl Pd) (jK 3 [11,13] [(2,a_ 1 b2)] (mU 4 30 Aa xs.length ca (bO jP xs) rfl (hA.src) (λA8 c9=>av.cO 4 (p:=.abs (aG 68 5 A8 (0+xs.length) c9 ([]++(bO jP xs)))) (p':=.abs (aG 68 5 A8 xs.length c9 (bO jP xs))) KB (by rw [ahy,List.nil_append]) (sl 14 (.slice A8 (0+xs.length) (c9)) (.slice A8 (xs.length) (c9)) (by rw [ahy]) (jK 1 [4] [] (NS (jC 4 [] [(3,A_ 2 b3 2)] [(2,[(0,.slice A5 (fs.length) (c6)),(1,.slice A8 (xs.length) (c9))])] (eS (v:=(.agg #[.slice A5 (fs.length) (c6),.slice A8 (xs.length) (c9)])) [A_ 2 b3 2] ⟨A5,c6,A8,c9,rfl,rfl⟩ [3,4,0])))))) (hl:=yB (f:=jP) (s:=5) (λ_=>rfl) _) (h1:=xM (Zb) _ _)))))))))) (hl:=yB (f:=iJ) (s:=2) (λ_=>rfl) _) (h1:=xM (T4) _ _))))))))))
theorem aep {β:Bs} (A:Option Addr) (c:Nat) (xs:List aP) (hc:xs.length<=c) :
 aX Tryz.prog β 9 #[.slice A xs.length c] [] (λv l=>∃n,n<=xs.length/\n<=300/\v=.slice A n c/\l=[]):=by
 exact SE Tryz.func9 Tryz.ntmps9 (λR=>SR (jK 1 [] [] (NZ (jK 3 [5] [] (NN (cP ((((xs.length:Nat):Int):Int)>(300:Int)) (λh5=>SR (jK 3 [2] [(1,p_ ⟨[],some 300,none,none,none⟩ [300=((300:Nat):Int),300<=c] ⟨rfl,zc,trivial⟩)] (eN (v:=(.slice A (300) (c))) ⟨300,zc,Pd,rfl,rfl⟩))) (λh5=>KX (zR (v:=(.slice A (xs.length) (c))) ⟨xs.length,aho _,zc,rfl,rfl⟩))))))))
end
section
open Go.RowKit Go.Maps bG aF
attribute [local irreducible] av bP aq aB cu
noncomputable abbrev zA1 (b4:Nat):=(.ay b4 [vI 0,vI 0,vI 0,.string ⟨#[]⟩,.string ⟨#[]⟩,.slice none (0) (0),vI 0,vI 0,vI 0,vI 0,vI 0,vI 0,vI 0] 53:HP)
noncomputable abbrev zA2:=([(2,vI 0),(6,vI 0),(7,vI 0),(8,vI 0),(9,vI 0),(10,vI 0),(11,vI 0),(12,vI 0)]:Fr)
noncomputable abbrev zA3 (c:aP):=([(3,.string c.name),(4,.string c.text),(5,.slice c.dA (c.data.length) (c.dC))]:Fr)
noncomputable abbrev zA4 (km)(fs)(kn)(f:Nat) (m:Nat) (t) (S:bB) (L:HL):=([.abs (bD Tryz.prog 3 km (gh fs) kn),pF f m t S.X,pI m L S.ar,pT t S.X.cH S.aI L S.us,pO S.O L,pD S.O L,pE S.O L]:List HP)
theorem FD {β:Bs} (c:aP) (e:Int) :
 aX Tryz.prog β 242 #[.agg ⟨aL c⟩,vI (e)] [] (λv l=>v=.agg ⟨aL (jg c e)⟩/\l=[]):=by
 exact SE Tryz.func242 Tryz.ntmps242 (λR=>SR (jB 1 [2] (λb1=>.ay b1 (aL c) 53) (λb1=>jB 1 [4] (λb2=>.ay b2 [vI 0,vI 0,vI 0,.string ⟨#[]⟩,.string ⟨#[]⟩,.slice none (0) (0),vI 0,vI 0,vI 0,vI 0,vI 0,vI 0,vI 0] 53) (λb2=>NZ (jK 4 [8] [(1,a_ 1 b1)] (sP 8 ((c.op:Int)=(11:Int)) (λh8=>jK 4 [12] [] (NT (aq.region (jC 12 [] [(1,a_ 1 b1),(3,a_ 1 b1),(5,a_ 1 b1),(7,a_ 1 b1),(9,a_ 1 b1),(11,A_ 1 b1 13)] [(1,(zA2))] (NS (jC 5 [] [(2,a_ 1 b1),(4,a_ 1 b1)] [(1,[(11,vI (e))])] (NS (jC 2 [] [(0,A_ 1 b1 13),(1,A_ 2 b2 13)] [(2,([(0,vI (c.op)),(1,vI (c.aN))]++zA3 c++[(11,vI (e))]))] (eS (v:=(.agg ⟨aL {c with other:=0,mode:=0,bg:=0,bh:=0,aU:=0,aJ:=0,code:=e,answer:=0}⟩)) [A_ 2 b2 13] ⟨ahg (λx=>Value.agg ⟨aL x⟩) (ahX (ahf zc:jg c e=_)),rfl⟩))))))))) (λh8=>jK 4 [12] [(1,a_ 1 b1)] (NN (cP ((c.op:Int)=(12:Int)) (λh12=>aq.region (jC 12 [] [(1,a_ 1 b1),(3,a_ 1 b1),(5,a_ 1 b1),(7,a_ 1 b1),(9,a_ 1 b1),(11,A_ 1 b1 13)] [(1,(zA2))] (NS (jC 5 [] [(2,a_ 1 b1),(4,a_ 1 b1)] [(1,[(11,vI (e))])] (NS (jC 2 [] [(0,A_ 1 b1 13),(1,A_ 2 b2 13)] [(2,([(0,vI (c.op)),(1,vI (c.aN))]++zA3 c++[(11,vI (e))]))] (eS (v:=(.agg ⟨aL {c with other:=0,mode:=0,bg:=0,bh:=0,aU:=0,aJ:=0,code:=e,answer:=0}⟩)) [A_ 2 b2 13] ⟨ahg (λx=>Value.agg ⟨aL x⟩) (ahX (ahf zc:jg c e=_)),rfl⟩))))))) (λh12=>KX (SR (jC 5 [] [(2,a_ 1 b1),(4,a_ 1 b1)] [(1,[(11,vI (e)),(12,vI 0)])] (NS (jC 2 [] [(0,A_ 1 b1 13),(1,A_ 2 b2 13)] [(2,([(0,vI (c.op)),(1,vI (c.aN)),(2,vI (c.other))]++zA3 c++[(6,vI (c.mode)),(7,vI (c.bg)),(8,vI (c.bh)),(9,vI (c.aU)),(10,vI (c.aJ)),(11,vI (e))]))] (eS (v:=(.agg ⟨aL {c with code:=e,answer:=0}⟩)) [A_ 2 b2 13] ⟨ahg (λx=>Value.agg ⟨aL x⟩) (ahX (ahe zc:jg c e=_)),rfl⟩)))))))))))))))
theorem aer {β:Bs} (S:bB) (L:HL) (q f m t km kn n:Nat) (fs:List dI) (hI:bT S) (hn:n<=8388608) (k:Int) (hk:iQ fs ((n+1:Nat):Int)=k) (c:aP) (hC:kH β c) :
 aX Tryz.prog β 241 #[vP q,.agg ⟨aL c⟩] ([.ay q [.iface 76 (vP f),.map (some km),vI (((n:Nat):Int))] 111]++zA4 km fs kn f m t S L) (λv l=>∃L2,v=.agg ⟨aL (dZ k S c).2⟩/\l=[.ay q [.iface 76 (vP f),.map (some km),vI ((((n+1):Nat):Int))] 111,.abs (bD Tryz.prog 3 km (gh fs) kn),pF f m t ((dZ k S c).1.X),pI m L2 (dZ k S c).1.ar,pT t (dZ k S c).1.X.cH ((dZ k S c).1.aI) L2 ((dZ k S c).1.us),pO ((dZ k S c).1.O) L2,pD ((dZ k S c).1.O) L2,pE ((dZ k S c).1.O) L2]):=by
 have hdl:=hC.dl
 have hdc:=hC.dc
 refine SE Tryz.func241 Tryz.ntmps241 (λR=>SR (jB 1 [3] (λb3=>.ay b3 (aL c) 53) (λb3=>jB 1 [4] (λb4=>.ay b4 [vI 0,vI 0,vI 0,.string ⟨#[]⟩,.string ⟨#[]⟩,.slice none (0) (0),vI 0,vI 0,vI 0,vI 0,vI 0,vI 0,vI 0] 53) (λb4=>NS (jC 8 [] [(3,a_ 0 q),(4,wJ ((n:Int)+1) (↑(n+1))),(7,a_ 0 q)] [(0,[(2,vI ↑(n+1))])] (NN (aq.join (ι:=Unit) (λ(u:Unit)=>(¬k=1)/\(¬(k=2/\(c.op=4\/c.op=5\/c.op=6\/c.op=7\/c.op=9)))/\(¬(k=3/\c.op=9/\2<=c.data.length))) (λ(u:Unit)=>[(0,vP q),(3,vP b3),(4,vP b4)]) (λ(u:Unit)=>([.ay q [.iface 76 (vP f),.map (some km),vI ↑(n+1)] 111]++zA4 km fs kn f m t S L++[.abs R,pC b3 c,zA1 b4])) ?_ ?_)))))))
 ·rintro u ⟨uW,hj2,hj3⟩
  refine aq.seq (rM (List.range 7) 5 [0,9] (jR 5 [4,78,79] [(3,a_ 0 q),(4,A_ 1 b3 13)] (mL [6,9] [2,3,4,5,6,7] (Qa S L f m t hI c hC) ?_ (by rintro _ _ ⟨L2,rfl,rfl⟩;rfl))))
  rintro _ _ ⟨L2,rfl,rfl⟩
  exact cu.last rfl rfl (jC 1 [] [(0,A_ 10 b4 13)] [(10,(zC (aL ((gG S c).2))))] (NL (aB.np (NX (aq.ret (rT (.agg ⟨aL ((gG S c).2)⟩) [A_ 10 b4 13] [6,7,0,1,2,3,4,5,8] (⟨L2,by rw [show dZ k S c=((gG S c).1,(gG S c).2) by unfold dZ;rw [ahe uW,ahe hj2,ahe hj3]]<;>exact⟨rfl,rfl⟩⟩)))))))
 refine aq.seq (rQ (jQ 8 [16,20] [(3,a_ 0 q),(7,a_ 0 q)] (bP.ji 1 (d:=(some 21)) (t:=107) (K:=3) (E:=3) (b:=km) (n:=kn) (f:=(gh fs)) (x:=(.tmp 16)) (ix:=(.tmp 20)) (key:=vI ↑(n+1)) (z:=.int .i64 0) (kl:=(.int .i64 ((n+1:Nat):Int))) (r:=(gh fs (.int .i64 ((n+1:Nat):Int)))) (λ_=>KB) KB (λ_=>KB) (λ_=>KB) iY Tryz.underlying107 (λ_=>KB) (mB (Wd zc)) (rfl) (NQ (NX (aq.block (SR (sl 21 (((gh fs (.int .i64 ((n+1:Nat):Int))).getD (.int .i64 0))) (.int .i64 (k)) (L7.trans (ahg (Value.int .i64) hk)) (jK 2 [22] [] (NN (cP ((k:Int)=(1:Int)) (λsC=>SQ (jK 3 [26] [(1,a_ 9 b3)] (NN (cP ((c.op:Int)=(13:Int)) (λyS=>rM (List.range 6) 5 [0,9] (jR 5 [3,4,30,31] [(3,a_ 0 q),(4,A_ 1 b3 13)] (cu.last rfl rfl (gX [2,3,4,5,6,7] (Qa S L f m t hI c hC) (λL2=>NL (aB.np (NX (SR (jK 1 [33] [(0,A_ 9 b3 13)] (gE [] (FD c 180) (jC 1 [] [(0,A_ 10 b4 13)] [(10,(zC (aL (jg c 180))))] (eS (v:=(.agg ⟨aL (jg c 180)⟩)) [A_ 10 b4 13] ⟨L2,by rw [show dZ k S c=((gG S c).1,jg c 180) by unfold dZ;rw [ahf sC,ahf yS]]<;>exact⟨rfl,rfl⟩⟩ [6,7,0,1,2,3,4,5,8])))))))))))) (λyS=>KX (SR (jK 1 [33] [(0,A_ 9 b3 13)] (gE [] (FD c 180) (jC 1 [] [(0,A_ 10 b4 13)] [(10,(zC (aL (jg c 180))))] (eS (v:=(.agg ⟨aL (jg c 180)⟩)) [A_ 10 b4 13] ⟨L,by rw [show dZ k S c=(S,jg c 180) by unfold dZ;rw [ahf sC,ahe yS]]<;>exact⟨rfl,rfl⟩⟩)))))))))) (λsC=>SR (jK 2 [35] [] (NN (cP ((k:Int)=(2:Int)) (λnS=>?_) (λnS=>?_))))))))))))))))
 ·refine SR (jK 2 [38] [(1,a_ 9 b3)] (NN (aq.block (aq.join (ι:=Bool) (λ(fl:Bool)=>(fl=true↔(c.op=4\/c.op=5\/c.op=6\/c.op=7\/c.op=9))) (λ(fl:Bool)=>[(0,vP q),(3,vP b3),(4,vP b4),(39,.bool fl)]) (λ(fl:Bool)=>([.ay q [.iface 76 (vP f),.map (some km),vI ↑(n+1)] 111]++zA4 km fs kn f m t S L++[.abs R,pC b3 c,zA1 b4])) ?_ (SR (jK 2 [39] [] (NN (cP ((c.op:Int)=(4:Int)) (λnB=>aq.skip (aB.slot 39 (.bool (decide ((c.op:Int)=(4:Int)))) (.bool true) (λ_=>KB) (ahg Value.bool (ahB nB)) (mJ true [0,1,2,3,4,5,6,7,8,9,10] (⟨λ_=>zc,λ_=>rfl⟩)))) (λnB=>SR (jK 2 [39] [] (NN (cP ((c.op:Int)=(5:Int)) (λnB=>aq.skip (aB.slot 39 (.bool (decide ((c.op:Int)=(5:Int)))) (.bool true) (λ_=>KB) (ahg Value.bool (ahB nB)) (mJ true [0,1,2,3,4,5,6,7,8,9,10] (⟨λ_=>zc,λ_=>rfl⟩)))) (λnB=>SR (jK 2 [39] [] (NN (cP ((c.op:Int)=(6:Int)) (λnB=>aq.skip (aB.slot 39 (.bool (decide ((c.op:Int)=(6:Int)))) (.bool true) (λ_=>KB) (ahg Value.bool (ahB nB)) (mJ true [0,1,2,3,4,5,6,7,8,9,10] (⟨λ_=>zc,λ_=>rfl⟩)))) (λnB=>SR (jK 2 [39] [] (NN (cP ((c.op:Int)=(7:Int)) (λnB=>aq.skip (aB.slot 39 (.bool (decide ((c.op:Int)=(7:Int)))) (.bool true) (λ_=>KB) (ahg Value.bool (ahB nB)) (mJ true [0,1,2,3,4,5,6,7,8,9,10] (⟨λ_=>zc,λ_=>rfl⟩)))) (λnB=>aq.region (jK 2 [39] [] (NL (mJ ((decide (c.op=9))) [0,1,2,3,4,5,6,7,8,9,10] (⟨λh=>by have:=ah3 h;omega,λh=>ahB zc⟩)))))))))))))))))))))))))
  rintro fl hfl
  exact aq.cond (b:=fl) (λ_=>KB) (λnB=>SR (jK 1 [45] [(0,A_ 9 b3 13)] (gE [] (FD c 176) (jC 1 [] [(0,A_ 10 b4 13)] [(10,(zC (aL (jg c 176))))] (eS (v:=(.agg ⟨aL (jg c 176)⟩)) [A_ 10 b4 13] ⟨L,by rw [show dZ k S c=(S,jg c 176) by unfold dZ;rw [ahe zc,ahf ⟨nS,hfl.1 nB⟩]]<;>exact⟨rfl,rfl⟩⟩))))) (λnB=>aq.skip (aB.jI (aB.jI (mJ () [0,1,2,3,4,5,6,7,8,9,10] (⟨sC,λh=>ahh (nB.symm.trans (hfl.2 h.2)) Pd,λh=>zc⟩)))))
 refine SR (jK 2 [47] [] (NN (cP ((k:Int)=(3:Int)) (λRp=>SR (jK 4 [52] [(1,a_ 9 b3)] (sP 52 ((c.op:Int)=(9:Int)) (λyV=>jK 5 [57] [(1,a_ 9 b3)] (NN (cP ((((c.data.length:Nat):Int):Int)>=(2:Int)) (λAk=>SR (jK 3 [5] [(1,a_ 9 b3)] (NS (jK 5 [64] [(3,w_ (.int .i64 ↑(c.data.length / 2)) (vB (Int.ofNat_tdiv _ _).symm zc zc)),(4,xP (c.data.length / 2) ((c.data.length / 2)<=c.dC))] (sl 64 (.slice c.dA ((c.data.length / 2)) (c.dC)) (.slice c.dA ((c.data.take (c.data.length / 2)).length) (c.dC)) (by rw [ahC,aic zc]) (jC 2 [] [(1,a_ 9 b3)] [(9,[(5,.slice c.dA ((c.data.take (c.data.length / 2)).length) (c.dC))])] (NN (aq.seq (rM (List.range 7) 5 [0,9] (jR 5 [3,4,5,69,70] [(3,a_ 0 q),(4,A_ 1 b3 13)] (mL [6,9] [2,3,4,5,6,7] (Qa S L f m t hI {c with data:=c.data.take (c.data.length / 2)} (QV hC)) ?_ (by rintro _ _ ⟨L2,rfl,rfl⟩;rfl)))))))))))) (λAk=>aq.skip (aB.jI (mJ () [0,1,2,3,4,5,6,7,8,9,10] (⟨sC,λh=>nS h.1,λh=>zc⟩))))))) (λyV=>jK 5 [57] [] (NF (aq.skip (aB.jI (mJ () [0,1,2,3,4,5,6,7,8,9,10] (⟨sC,λh=>nS h.1,λh=>zc⟩))))))))) (λRp=>aq.skip (aB.jI (mJ () [0,1,2,3,4,5,6,7,8,9,10] (⟨sC,λh=>nS h.1,λh=>zc⟩)))))))
 rintro _ _ ⟨L2,rfl,rfl⟩
 exact cu.last rfl rfl (jC 1 [] [(0,A_ 9 b3 13)] [(9,(zC (aL ((gG S {c with data:=c.data.take (c.data.length / 2)}).2))))] (NL (aB.np (NX (SR (jC 3 [] [(2,a_ 9 b3)] [(9,[(5,.slice c.dA (c.data.length) (c.dC))])] (NS (jC 2 [] [(0,A_ 9 b3 13),(1,A_ 10 b4 13)] [(10,[(0,vI ((gG S {c with data:=c.data.take (c.data.length / 2)}).2.op)),(1,vI ((gG S {c with data:=c.data.take (c.data.length / 2)}).2.aN)),(2,vI ((gG S {c with data:=c.data.take (c.data.length / 2)}).2.other)),(3,.string (gG S {c with data:=c.data.take (c.data.length / 2)}).2.name),(4,.string (gG S {c with data:=c.data.take (c.data.length / 2)}).2.text),(5,.slice c.dA (c.data.length) (c.dC)),(6,vI ((gG S {c with data:=c.data.take (c.data.length / 2)}).2.mode)),(7,vI ((gG S {c with data:=c.data.take (c.data.length / 2)}).2.bg)),(8,vI ((gG S {c with data:=c.data.take (c.data.length / 2)}).2.bh)),(9,vI ((gG S {c with data:=c.data.take (c.data.length / 2)}).2.aU)),(10,vI ((gG S {c with data:=c.data.take (c.data.length / 2)}).2.aJ)),(11,vI ((gG S {c with data:=c.data.take (c.data.length / 2)}).2.code)),(12,vI ((gG S {c with data:=c.data.take (c.data.length / 2)}).2.answer))])] (eS (v:=(.agg #[vI ((gG S {c with data:=c.data.take (c.data.length / 2)}).2.op),vI ((gG S {c with data:=c.data.take (c.data.length / 2)}).2.aN),vI ((gG S {c with data:=c.data.take (c.data.length / 2)}).2.other),.string (gG S {c with data:=c.data.take (c.data.length / 2)}).2.name,.string (gG S {c with data:=c.data.take (c.data.length / 2)}).2.text,.slice c.dA (c.data.length) (c.dC),vI ((gG S {c with data:=c.data.take (c.data.length / 2)}).2.mode),vI ((gG S {c with data:=c.data.take (c.data.length / 2)}).2.bg),vI ((gG S {c with data:=c.data.take (c.data.length / 2)}).2.bh),vI ((gG S {c with data:=c.data.take (c.data.length / 2)}).2.aU),vI ((gG S {c with data:=c.data.take (c.data.length / 2)}).2.aJ),vI ((gG S {c with data:=c.data.take (c.data.length / 2)}).2.code),vI ((gG S {c with data:=c.data.take (c.data.length / 2)}).2.answer)])) [A_ 10 b4 13] ⟨L2,by rw [show dZ k S c=((gG S {c with data:=c.data.take (c.data.length / 2)}).1,{ (gG S {c with data:=c.data.take (c.data.length / 2)}).2 with dA:=c.dA,dC:=c.dC,data:=c.data}) by unfold dZ;rw [ahe zc,ahe zc,ahf ⟨Rp,zc,zc⟩]]<;>exact⟨rfl,rfl⟩⟩ [6,7,0,1,2,3,4,5,8])))))))))
end
end Go.Proofs.YtbnfiigafobejaaGreat
section
namespace Go.Proofs
open Go.Shelf
def Tryz.lays146_ren:Go.Shelf.Ren:=⟨fun|146=>229|221=>230|268=>231|138=>232|143=>233|195=>234|197=>235|218=>236|219=>237|260=>238|217=>154|225=>165|224=>164|267=>239|266=>158|314=>240|n=>n,fun|9=>9|31=>157|3=>3|4=>4|0=>0|105=>301|21=>21|5=>5|46=>199|119=>303|139=>306|138=>305|146=>307|51=>214|n=>n,fun|1=>0|3=>1|4=>2|n=>n⟩
theorem Tryz.lays146:Go.Proofs.Lays.n146 Tryz.prog Tryz.lays146_ren:={
 mixed:=by kernel_rfl
 f138:=Tryz.func232.trans (congrArg some (by kernel_rfl))
 f143:=Tryz.func233.trans (congrArg some (by kernel_rfl))
 f146:=Tryz.func229.trans (congrArg some (by kernel_rfl))
 f195:=Tryz.func234.trans (congrArg some (by kernel_rfl))
 f197:=Tryz.func235.trans (congrArg some (by kernel_rfl))
 f217:=Tryz.func154.trans (congrArg some (by kernel_rfl))
 f218:=Tryz.func236.trans (congrArg some (by kernel_rfl))
 f219:=Tryz.func237.trans (congrArg some (by kernel_rfl))
 f221:=Tryz.func230.trans (congrArg some (by kernel_rfl))
 f224:=Tryz.func164.trans (congrArg some (by kernel_rfl))
 f225:=Tryz.func165.trans (congrArg some (by kernel_rfl))
 f260:=Tryz.func238.trans (congrArg some (by kernel_rfl))
 f266:=Tryz.func158.trans (congrArg some (by kernel_rfl))
 f267:=Tryz.func239.trans (congrArg some (by kernel_rfl))
 f268:=Tryz.func231.trans (congrArg some (by kernel_rfl))
 f314:=Tryz.func240.trans (congrArg some (by kernel_rfl))
 t0:=Tryz.underlying0
 a0:=Tryz.isAgg0
 z0:=Tryz.sizeOf0
 v0:=Tryz.zeroValue0
 t3:=Tryz.underlying3
 a3:=Tryz.isAgg3
 z3:=Tryz.sizeOf3
 v3:=Tryz.zeroValue3
 t4:=Tryz.underlying4
 a4:=Tryz.isAgg4
 z4:=Tryz.sizeOf4
 v4:=Tryz.zeroValue4
 t5:=Tryz.underlying5
 a5:=Tryz.isAgg5
 z5:=Tryz.sizeOf5
 v5:=Tryz.zeroValue5
 t9:=Tryz.underlying9
 a9:=Tryz.isAgg9
 z9:=Tryz.sizeOf9
 v9:=Tryz.zeroValue9
 t21:=Tryz.underlying21
 a21:=Tryz.isAgg21
 z21:=Tryz.sizeOf21
 v21:=Tryz.zeroValue21
 t31:=Tryz.underlying157
 a31:=Tryz.isAgg157
 z31:=Tryz.sizeOf157
 v31:=Tryz.zeroValue157
 t46:=Tryz.underlying199
 a46:=Tryz.isAgg199
 z46:=Tryz.sizeOf199
 v46:=Tryz.zeroValue199
 t51:=Tryz.underlying214
 a51:=Tryz.isAgg214
 z51:=Tryz.sizeOf214
 v51:=Tryz.zeroValue214
 t105:=Tryz.underlying301
 a105:=Tryz.isAgg301
 z105:=Tryz.sizeOf301
 v105:=Tryz.zeroValue301
 t119:=Tryz.underlying303
 a119:=Tryz.isAgg303
 z119:=Tryz.sizeOf303
 t138:=Tryz.underlying305
 a138:=Tryz.isAgg305
 z138:=Tryz.sizeOf305
 v138:=Tryz.zeroValue305
 t139:=Tryz.underlying306
 a139:=Tryz.isAgg306
 z139:=Tryz.sizeOf306
 v139:=Tryz.zeroValue306
 t146:=Tryz.underlying307
 a146:=Tryz.isAgg307
 z146:=Tryz.sizeOf307
 v146:=Tryz.zeroValue307
 g1:=by kernel_rfl
 g3:=by kernel_rfl
 g4:=by kernel_rfl}
open Go.RowKit Go.Lib in
theorem Tryz.strings_Split (s sep:ByteArray) (m:Int) (w:World) (hs:s.size<4294967281) (hm:w.cell? ⟨0,0,none⟩=some (.int .i64 m)) (h1:1<=sep.size) :
 Calls Tryz.prog 229 #[.string s,.string sep] w λe w'=>
  e=.returned (.slice (some ⟨w.heap.size,0,none⟩) (Lib.countB s sep+1) (Lib.countB s sep+1))/\w'=w.alloc (.cells ((Lib.splitB sep 0 (Lib.countB s sep) s).map Value.string).toArray 9):=Any.strings_Split Tryz.lays146 (by kernel_rfl) s sep m w hs hm h1
end Go.Proofs
end
namespace Go.Proofs.YtbnfiigafobejaaGreat
section
open Go.RowKit Go.Maps bG aF
def oV (β:Bs):Prop:=∃m,Rd β ⟨0,0,none⟩ (.int .i64 m)
theorem oV.le {β β':Bs} (h:oV β) (dW:β.le β'):oV β':=h.imp λ_ h=>h.le dW
theorem DW (s:ByteArray):(bS s).length=Lib.countB s slash+1:=Lib.splitB_all slash Pd 0 _ s rfl
theorem Bk (s:ByteArray):Lib.countB s slash<=s.size:=Lib.countB_le slash Pd _ s (aho _)
theorem G0 (sep:ByteArray):∀(k:Nat) (s:ByteArray),∀p∈Lib.splitB sep 0 k s,p.size<=s.size
 |0,s,p,hp=>by
   rw [Lib.splitB_zero] at hp
   rw [ahO.1 hp];exact aho _
 |k+1,s,p,hp=>by
   rcases Lib.indexB_cases s sep with fL|⟨i,fL,_⟩
   ·rw [Lib.splitB_miss sep 0 (k+1) s fL] at hp
    rw [ahO.1 hp];exact aho _
   rw [Lib.splitB_hit sep 0 k s i fL] at hp
   rcases aht.1 hp with rfl|hp
   ·rw [ah0];omega
   have:=G0 sep k _ p hp
   rw [ah0] at this
   omega
theorem G3 {s p:ByteArray} (hp:p∈bS s):p.size<=s.size:=G0 slash _ s p hp
def ny (ps:List ByteArray):List Value:=ps.map Value.string
theorem aar {β:Bs} (hg:oV β) (s:ByteArray) (hs:s.size<=1048576):aX Tryz.prog β 229 #[.string s,.string ⟨#[47]⟩] [] (λv l=>∃b,v=.slice (some ⟨b,0,none⟩) (bS s).length (bS s).length/\l=[.abs (aG 9 1 (some ⟨b,0,none⟩) (bS s).length (bS s).length (ny (bS s)))]):=
 aX.Nk λW hW=>by
  obtain⟨m,hg⟩:=hg
  have hm:W.cell? ⟨0,0,none⟩=some (.int .i64 m):=(World.cell?_of_block (w:=β.w0) (hW.old _ hg.1).2).trans hg.2
  have hl:=DW s
  have hc:=Bk s
  refine (Tryz.strings_Split s slash m W zc hm Pd).mono ?_
  rintro e w' ⟨rfl,rfl⟩
  refine⟨_,_,rfl,⟨W.heap.size,by rw [hl],rfl⟩,(cK.refl _ _).alloc _,λk=>k=W.heap.size,⟨⟨?_,.inr ⟨W.heap.size,(bS s).length,(ny (bS s)).toArray,rfl,ahj _,?_,aho _,?_,?_,?_⟩⟩,λk=>?_⟩,λk hk=>Nat.le_of_eq hk.symm⟩
  ·simp [ny]
  ·show (W.heap.push _)[W.heap.size]?=_
   simp [ny,bS]
  ·unfold maxLen;omega
  ·first|(simp [ny];done)|(simp [ny];exact ahZ ahd)
  ·first|(simp [ny];done)|(simp [ny];exact ahZ ahd)
  simp [Value.ownBlock,eq_comm]
theorem Xx {β:Bs} {ps:List ByteArray} (hg:oV β) (s:ByteArray) (hs:s.size<=1048576) (hp:ps=bS s):aX Tryz.prog β 229 #[.string s,.string ⟨#[47]⟩] [] (λv l=>∃b,v=.slice (some ⟨b,0,none⟩) ps.length ps.length/\l=[.abs (aG 9 1 (some ⟨b,0,none⟩) ps.length ps.length (ny ps))]):=by
 subst hp;exact aar hg s hs
def pc (ps:List ByteArray) (j:Nat):ByteArray:=ps.getD j ⟨#[]⟩
theorem Ql {ps:List ByteArray} {j:Nat} (hj:j<ps.length):pc ps j∈ps:=by
 grind [pc]
theorem DX {ps:List ByteArray} {j:Nat} (hj:j<ps.length):(ny ps)[j]?=some (.string (pc ps j)):=by
 grind [ny,pc]
theorem zP {ps:List ByteArray} {j:Nat} (hj:j<ps.length):ps.drop j=pc ps j::ps.drop (j+1):=by
 unfold pc
 rw [ahv,ahs hj]
 exact ah2 hj
theorem DY {ps:List ByteArray}:(∀p∈ps,cA p)↔∀j,j<ps.length->cA (pc ps j):=by
 refine⟨λh j hj=>h _ (Ql hj),λh p hp=>?_⟩
 obtain⟨j,hj,rfl⟩:=ahW hp
 grind [pc]
theorem MC {n:ByteArray} (h:cA n):n.size<=1048576:=ahk h.2.1 Pd
theorem Qm {O:eu}:∀{ps:List ByteArray} {d:Nat} {e:Int},qb O d ps=.error e->e≠0
 |[],d,e,h=>by cases h;decide
 |[p],d,e,h=>by
   unfold qb at h
   split at h
   ·cases h;decide
   cases h
 |p::q::r,d,e,h=>by
   unfold qb at h
   split at h
   ·cases h;decide
   split at h
   ·cases h;decide
   split at h
   ·cases h;decide
   exact Qm h
theorem yK {S:bB} {d:Nat} (hI:bT S) (hd:aT S.ar ⟨d,2⟩) (path:ByteArray):(∃e,mY S.O d path=.error e/\e≠0)\/∃d' name,mY S.O d path=.ok (d',name)/\aT S.ar ⟨d',2⟩/\(af S.O d').aH=false/\cA name:=by
 cases h:mY S.O d path with
 |error e=>
   grind [mY,Qm]
 |ok x=>
   obtain⟨d',name⟩:=x
   exact .inr ⟨d',name,rfl,KG hI.toInv0 hd h⟩
section way
variable {O:eu} {d:Nat} {ps:List ByteArray} {j:Nat}
theorem ME (hj:j+1=ps.length):qb O d (ps.drop j)=if (af O d).aH=true then .error 170 else .ok (d,pc ps j):=by
 grind [zP,qb,af,pc]
theorem Cn (hj:j+1<ps.length):qb O d (ps.drop j)=match bN (pc ps j) (af O d).ah with
 |none=>.error 170
 |some t=>if t.kind=3 then .error 174 else if t.kind=1 then .error 173 else qb O t.k (ps.drop (j+1)):=by
 rw [zP (j:=j) zc,zP (j:=j+1) hj]
 rfl
end way
section bytes
variable {P:Program} {β:Bs} {N:fQ} {ops:Array Oper} {k:Nat} {fr:Fr} {ax:List HP} {Q:Post} {d:Option Tmp} {s:ByteArray}
theorem Bs.ok.acD {β:Bs} {w:World} (h:β.ok w) (F:Nat->Prop):β.le ⟨λk=>β.O k\/F k,w⟩:=⟨λ_ h=>.inl h,h.os,h.tape,h.output,h.size,λk hk=>h.old k hk⟩
theorem av.DZ {t1 t2 e:TypeId} {x:Operand} (bX:∀ai,iK N ai ops fr k=some (.convert t1 t2 x,d)) (hx:∀ai,eX N fr ai x=.string s) (h1:P.underlying t1=some .string) (h2:P.underlying t2=some (.slice e)) (h3:P.underlying e=some (.int .u8))
 (K:∀b cap,s.data.toList.length<=cap->av P β N ops (k+1) (eV fr d (.slice (some ⟨b,0,none⟩) s.data.toList.length cap)) (ax++[.abs (j5 β (λβ'=>bJ β' (some ⟨b,0,none⟩) s.data.toList))]) Q):av P β N ops k fr ax Q:=by
 refine av.Kg (ι:={p:Nat×Nat // s.data.toList.length<=p.2}) (v:=λp=>.slice (some ⟨p.1.1,0,none⟩) s.data.toList.length p.1.2) (dK:=λp=>ax++[.abs (j5 β (λβ'=>bJ β' (some ⟨p.1.1,0,none⟩) s.data.toList))]) bX (λo ai w ho hS=>?_) (λp=>K p.1.1 p.1.2 p.2)
 have hr:=run_bytes_of_string (P:=P) w t1 t2 e s h1 h2 h3
 have eG:s.data.toList.length=s.size:=Array.length_toList ..
 generalize hw:(w.drew.alloc (.cells (bytesRow s (grownCap w s.size 0 e)) e ((bytesRow s (grownCap w s.size 0 e)).size,(bytesRow s (grownCap w s.size 0 e)).size+1)))=w' at hr
 have hk:cK (λ_=>False) w w':=by rw [←hw];exact (cK.refl _ _).drew.alloc _
 have hok:=hS.1.keeps hk (λ_ _ h=>h)
 have hheap:w'.heap[w.heap.size]?=some (.cells (bytesRow s (grownCap w s.size 0 e)) e ((bytesRow s (grownCap w s.size 0 e)).size,(bytesRow s (grownCap w s.size 0 e)).size+1)):=by
  rw [←hw]
  show (w.heap.push _)[w.heap.size]?=_
  simp
 have hsize:w.heap.size<w'.heap.size:=by
  grind
 refine⟨⟨(w.heap.size,grownCap w s.size 0 e),by rw [eG];exact grownCap_ge w s.size 0 e⟩,w',.inl ?_,hS.new (F:=λk=>k=w.heap.size) ?_ hk (λk e=>Nat.le_of_eq e.symm)⟩
 ·obtain⟨dst,op,type,pos,after,guard⟩:=o
  cases ho
  have hr2:(convert t1 t2 (.string s)).run P w=.ok (.slice (some ⟨w.heap.size,0,none⟩) s.data.toList.length (grownCap w s.size 0 e)) w':=by rw [hr,eG]
  simp only [execOp,hx]
  simp [hr2,Result.andThen]
 refine⟨⟨λk=>β.O k\/k=w.heap.size,w'⟩,hok.acD _,λ_ h=>h,λ_ h=>.inr h,aho _,λk hk=>⟨by rw [hk];exact hsize,rfl⟩,λj v hj=>⟨rfl,.inr rfl,?_⟩⟩
 show World.cell? w' ⟨w.heap.size,0+j,none⟩=some v
 have hj2:=dF hj
 unfold World.cell?
 rw [hheap]
 unfold dL at hj hj2
 rw [ahz] at hj2
 rw [List.getElem?_map,ahs hj2] at hj
 simp only [Option.map_some,Option.some.injEq] at hj
 subst hj
 unfold bytesRow
 grind [Bq]
end bytes
theorem J9 {β:Bs} (S:bB) (L:HL) (f m t:Nat) (hI:bT S) (k:Nat) (hk:aT S.ar ⟨k,1⟩) (A:Option Addr) (c:Nat) (bs:List UInt8) (hbl:bs.length<=1099511627776) (hbc:bs.length<=c) :
 aX Tryz.prog β 211 #[vP f,vP (L.b k),.slice A bs.length c] (.abs (j5 β (λβ'=>bJ β' A bs))::pA f m t L S) (λv l=>∃L2,v=.tuple #[vI (gF S k bs).1,vI (gF S k bs).2.1]/\l=pA f m t L2 (gF S k bs).2.2):=
 aX.Nb λ_ _ hA=>Mv S L f m t hI k hk A c bs hA hbl hbc
def IB (L:HL):Except Int (Nat×ByteArray)->Value
 |.error e=>.tuple #[.pointer none,.string ⟨#[]⟩,.int .i64 e]
 |.ok (d,p)=>.tuple #[.pointer (some ⟨L.b d,0,none⟩),.string p,.int .i64 0]
end
section
open Go.RowKit Go.Maps bG aF
attribute [local irreducible] av bP aq aB
theorem Gj {β:Bs} (S:bB) (L:HL) (f:Nat) (hI:bT S) (d:Nat) (hd:aT S.ar ⟨d,2⟩) (path:ByteArray) (eG:path.size<=1048576) (hg:oV β) :
 aX Tryz.prog β 228 #[vP f,vP (L.b d),.string path] [.abs (aW (d8 S.O L)),.abs (aW (fM S.O L))] (λv l=>v=IB L (mY S.O d path)/\l=[.abs (aW (d8 S.O L)),.abs (aW (fM S.O L))]):=by
 have dU:(af S.O d).kind=2:=hI.kind hd
 obtain⟨ps,ax⟩:∃ps,ps=bS path:=⟨_,rfl⟩
 have hpl:1<=ps.length/\ps.length<=1048577:=by rw [ax,DW];have:=Bk path;omega
 have Xy:∀q,q<ps.length->(pc ps q).size<=1048576:=λq hq=>ahk (G3 (ax ▸ Ql hq)) eG
 refine SE Tryz.func228 Tryz.ntmps228 (λR=>SR (jK 3 [] [] (NS (jK 1 [19] [] (gX [] (Xx hg path eG ax) (λb1=>jK 1 [9] [] (NN (SQ (jK 3 [21,22,23] [] (NN (aq.block (lJ (λ(j:Nat)=>(j<=ps.length)/\(∀q,q<j->cA (pc ps q))) (λ(j:Nat)=>ps.length-j) (λ(j:Nat)=>[(1,vP (L.b d)),(9,.slice (some ⟨b1,0,none⟩) (ps.length) (ps.length)),(21,.slice (some ⟨b1,0,none⟩) (ps.length) (ps.length)),(22,vI ↑ps.length),(23,vI ↑j)]) (λ(j:Nat)=>[pO S.O L,pE S.O L,.abs (aG 9 1 (some ⟨b1,0,none⟩) ps.length ps.length (ny ps)),.abs R]) 0 [1,2,0,3] (⟨ahj _,λq h=>ahh h (ahm q)⟩) ?_))))))))))))
 rintro j ⟨hj,hgd⟩
 refine SR (jK 1 [24] [] (NN (aq.seq (cP ((((j:Nat):Int):Int)<(((ps.length:Nat):Int):Int)) (λrG=>aq.skip (NX (aq.seq (aq.block (SR (jK 3 [11] [(0,p_ ⟨[],some j,none,none,some (.pointer (some ⟨b1,j,none⟩))⟩ [(Value.pointer (some ⟨b1,0+j*1,none⟩))=(.pointer (some ⟨b1,j,none⟩)),((j:Nat):Int)=((j:Nat):Int),j<ps.length,(⟨b1,0,none⟩:Addr).spot=none] ⟨ahd,rfl,zc,rfl,trivial⟩),(1,p_ ⟨[.view 2 (.string (pc ps j))],none,none,none,none⟩ [(∀F w,(aG 9 1 (some ⟨b1,0,none⟩) ps.length ps.length (ny ps)).h F w->w.cell? ⟨b1,j,none⟩=some (.string (pc ps j)))] ⟨aG.cell (DX zc),trivial⟩)] (NS (jK 1 [27] [] (gE [] (Aj (pc ps j) (by have:=Xy j zc;omega)) (jK 1 [29] [] (NN (cN (cA (pc ps j)) (λCV=>SR (jK 3 [6,7,8] [] (NN (aq.ret (aB.gi (aB.bE (aB.bE (aB.gi (aB.bE (RT _ [0,1,3] (⟨ahg (IB L) (ahX (show mY S.O d path=.error 95 from ahe (λh=>CV (DY.1 (ax ▸ h) j zc)))),rfl⟩))))))))))) (λCV=>aq.skip (BX (aq.region (jK 2 [23] [(0,wJ ((j:Int)+1) (↑(j+1)))] (NL (tJ ((j+1)) [0,1,2,3] (⟨zc,λq hq=>(ahn.1 hq).elim (hgd q) (λe=>e ▸ CV)⟩))))))))))))))))))) (λrG=>XX (SR ?_))))))
 have jU:∀p∈ps,cA p:=DY.2 (λq hq=>hgd q zc)
 refine jK 4 [12] [(2,wJ ((ps.length:Int)-1) (↑(ps.length-1)))] (NN (SQ (jK 5 [36,37,38] [(2,xP (ps.length-1) ((ps.length-1)<=ps.length))] (NN (aq.block (lJ (λ(j,e)=>(j<=ps.length-1)/\(aT S.ar ⟨e,2⟩)/\(qb S.O d ps=qb S.O e (ps.drop j))) (λ(j,e)=>ps.length-1-j) (λ(j,e)=>[(1,vP (L.b e)),(9,.slice (some ⟨b1,0,none⟩) (ps.length) (ps.length)),(12,vI ↑(ps.length-1)),(36,.slice (some ⟨b1,0,none⟩) ((ps.length-1)) (ps.length)),(37,vI ↑(ps.length-1)),(38,vI ↑j)]) (λ(j,e)=>[pO S.O L,pE S.O L,.abs (aG 9 1 (some ⟨b1,0,none⟩) ps.length ps.length (ny ps)),.abs R]) (0,d) [0,1,2,3] (⟨ahj _,hd,by rw [List.drop_zero]⟩) ?_))))))
 rintro⟨j,e⟩ ⟨hj,dW,hw⟩
 have hke:(af S.O e).kind=2:=hI.kind dW
 refine SR (jK 1 [39] [] (NN (aq.seq (cP ((((j:Nat):Int):Int)<((((ps.length-1):Nat):Int):Int)) (λnB=>?_) (λnB=>?_)))))
 ·have vV:(pc ps j).size<=1048576:=Xy j zc
  have hee:(af S.O e).ah.length<=8192:=hI.lI dW
  refine aq.skip (NX (aq.seq (aq.block (SR (jK 3 [14] [(0,p_ ⟨[],some j,none,none,some (.pointer (some ⟨b1,j,none⟩))⟩ [(Value.pointer (some ⟨b1,0+j*1,none⟩))=(.pointer (some ⟨b1,j,none⟩)),((j:Nat):Int)=((j:Nat):Int),j<(ps.length-1),(⟨b1,0,none⟩:Addr).spot=none] ⟨ahd,rfl,zc,rfl,trivial⟩),(1,p_ ⟨[.view 2 (.string (pc ps j))],none,none,none,none⟩ [(∀F w,(aG 9 1 (some ⟨b1,0,none⟩) ps.length ps.length (ny ps)).h F w->w.cell? ⟨b1,j,none⟩=some (.string (pc ps j)))] ⟨aG.cell (DX zc),trivial⟩)] (NN (aq.seq ?_)))))))
  rcases hI.sU dW (pc ps j) with eM|⟨tk,eM,ck⟩|⟨tk,eM,ck⟩|⟨tk,eM,ck⟩
  ·exact aq.region (jK 5 [45,46] [(3,v_ 0 (dw L hke))] (nj 1 hke eM (NN (aq.block (SR (jK 1 [48] [] (NN (CT (SR (jK 1 [] [] (NS (jK 3 [6,7,8] [] (NN (aq.ret (aB.gi (aB.gi (aB.bE (aB.bE (aB.gi (aB.bE (RT _ [0,1,3] (⟨ahg (IB L) (ahX (show mY S.O d path=.error 170 from (show mY S.O d path=qb S.O d ps by unfold mY;rw [←ax];exact ahf jU).trans (hw.trans ((Cn zc).trans (by rw [eM]<;>rfl))))),rfl⟩))))))))))))))))))))))
  ·have bC:(af S.O tk).kind=1:=hI.kind ck
   exact aq.region (jK 5 [45,46] [(3,v_ 0 (dw L hke))] (nj 1 hke eM (NN (aq.block (SR (jK 1 [48] [] (NN (CF (SR (jK 3 [50,51] [] (NN (CF (SR (jK 3 [53,54] [] (NN (CT (SR (jK 1 [] [] (NS (jK 3 [6,7,8] [] (eN ⟨ahg (IB L) (ahX (show mY S.O d path=.error 173 from (show mY S.O d path=qb S.O d ps by unfold mY;rw [←ax];exact ahf jU).trans (hw.trans ((Cn zc).trans (by rw [eM]<;>rfl))))),rfl⟩ [0,1,3])))))))))))))))))))))
  ·have bC:(af S.O tk).kind=2:=hI.kind ck
   exact aq.region (jK 5 [45,46] [(3,v_ 0 (dw L hke))] (nj 1 hke eM (NN (aq.block (SR (jK 1 [48] [] (NF (SR (jK 3 [50,51] [] (NF (SR (jK 3 [53,54] [] (NF (SR (jK 3 [56,57] [] (NT (SR (jK 1 [18] [] (NN (aq.region (jK 2 [1] [] (LX (aq.region (jK 2 [38] [(0,wJ ((j:Int)+1) (↑(j+1)))] (NL (tJ ((j+1),tk) [0,1,2,3] (⟨zc,ck,hw.trans ((Cn zc).trans (by rw [eM]<;>rfl))⟩)))))))))))))))))))))))))))
  have bC:(af S.O tk).kind=3:=hI.kind ck
  exact aq.region (jK 5 [45,46] [(3,v_ 0 (dw L hke))] (nj 1 hke eM (NN (aq.block (SR (jK 1 [48] [] (NF (SR (jK 3 [50,51] [] (NT (SR (jK 1 [] [] (NS (jK 3 [6,7,8] [] (eN ⟨ahg (IB L) (ahX (show mY S.O d path=.error 174 from (show mY S.O d path=qb S.O d ps by unfold mY;rw [←ax];exact ahf jU).trans (hw.trans ((Cn zc).trans (by rw [eM]<;>rfl))))),rfl⟩ [0,1,3])))))))))))))))
 have ej:j=ps.length-1:=zc
 exact XX (SQ (jK 5 [64] [(4,v_ 0 (uz L hke))] (NN (aq.cond (b:=(af S.O e).aH) (λ_=>KB) (λWM=>zR ⟨ahg (IB L) (ahX ((show mY S.O d path=qb S.O d ps by unfold mY;rw [←ax];exact ahf jU).trans (hw.trans ((ME zc).trans (ahf WM))))),rfl⟩ [0,1,3]) (λWM=>KX (aq.seq (rQ (jQ 8 [6,7,8] [(3,p_ ⟨[],some (ps.length-1),none,none,some (.pointer (some ⟨b1,(ps.length-1),none⟩))⟩ [(Value.pointer (some ⟨b1,0+(ps.length-1)*1,none⟩))=(.pointer (some ⟨b1,(ps.length-1),none⟩)),(((ps.length-1):Nat):Int)=(((ps.length-1):Nat):Int),(ps.length-1)<ps.length,(⟨b1,0,none⟩:Addr).spot=none] ⟨ahd,rfl,zc,rfl,trivial⟩),(4,p_ ⟨[.view 2 (.string (pc ps (ps.length-1)))],none,none,none,none⟩ [(∀F w,(aG 9 1 (some ⟨b1,0,none⟩) ps.length ps.length (ny ps)).h F w->w.cell? ⟨b1,(ps.length-1),none⟩=some (.string (pc ps (ps.length-1))))] ⟨aG.cell (DX zc),trivial⟩)] (NQ (NX (aq.ret (RT (.tuple #[vP (L.b e),.string (pc ps (ps.length-1)),vI 0]) [0,1,3] (⟨by rw [←ej];exact ahg (IB L) (ahX (show mY S.O d path=.ok (e,pc ps j) from (show mY S.O d path=qb S.O d ps by unfold mY;rw [←ax];exact ahf jU).trans (hw.trans ((ME zc).trans (ahe (by rw [WM];exact Bool.false_ne_true)))))),rfl⟩)))))))))))))
theorem acE {β:Bs} (S:bB) (L:HL) (f m t:Nat) (hI:bT S) (au:Int) (hrw:(Lit.int .i64 au).wf=true) (a:dO) (Xy:a.path.size<=1048576) (htz:a.to.size<=1048576) (hxz:a.text.size<=1048576) (hg:oV β) :
 aX Tryz.prog β 227 #[vP f,vI (au),.agg #[vI (a.at_),vI (a.op),.string a.path,.string a.to,.string a.text]] [.ay f [vI (S.X.cN),vI (S.X.cB),vI (S.X.cH),vI (S.X.cS),vI (S.X.cZ),.map (some m),vP t,vI (S.X.last),vI (S.X.ah),vI (S.X.used)] 135,.abs (bD Tryz.prog 3 m (cQ (cM L S.ar)) S.ar.length),.abs (fD 182 t S.X.cH S.aI (cM L S.us)),.abs (aW (d8 S.O L)),.abs (aW (dN S.O L)),.abs (aW (fM S.O L))] (λv l=>∃L2,v=vI (cR S au a).1/\l=[.ay f [vI ((cR S au a).2.X.cN),vI ((cR S au a).2.X.cB),vI ((cR S au a).2.X.cH),vI ((cR S au a).2.X.cS),vI ((cR S au a).2.X.cZ),.map (some m),vP t,vI ((cR S au a).2.X.last),vI ((cR S au a).2.X.ah),vI ((cR S au a).2.X.used)] 135,.abs (bD Tryz.prog 3 m (cQ (cM L2 (cR S au a).2.ar)) ((cR S au a).2.ar.length)),.abs (fD 182 t (cR S au a).2.X.cH ((cR S au a).2.aI) (cM L2 ((cR S au a).2.us))),.abs (aW (d8 ((cR S au a).2.O) L2)),.abs (aW (dN ((cR S au a).2.O) L2)),.abs (aW (fM ((cR S au a).2.O) L2))]):=by
 have hX:=hI.hX
 refine SE Tryz.func227 Tryz.ntmps227 (λR=>SR (jB 2 [5] (λb1=>.ay b1 [vI (a.at_),vI (a.op),.string a.path,.string a.to,.string a.text] 68) (λb1=>NZ (jK 4 [25] [(1,a_ 7 b1)] (sP 25 ((a.op:Int)<(1:Int)) (λpZ=>jK 4 [29] [] (NT (zR ⟨L,by rw [show (cR S au a)=(230,S) by unfold cR;exact ahf zc]<;>exact⟨rfl,rfl⟩⟩))) (λpZ=>jK 4 [29] [(1,a_ 7 b1)] (NN (cP ((a.op:Int)>(7:Int)) (λCV=>zR ⟨L,by rw [show (cR S au a)=(230,S) by unfold cR;exact ahf zc]<;>exact⟨rfl,rfl⟩⟩) (λCV=>KX (aq.seq ?_))))))))))
 rcases hI.adf au with fL|⟨tk,fL,ck⟩|⟨tk,fL,ck⟩|⟨tk,fL,ck⟩
 ·exact aq.region (jK 5 [33,34] [(3,a_ 0 f)] (av.ji 1 (d:=(some 35)) (t:=129) (K:=3) (E:=133) (b:=m) (n:=S.ar.length) (f:=(cQ (cM L S.ar))) (x:=(.tmp 33)) (ix:=(.tmp 34)) (key:=vI (au)) (z:=.nilIface) (kl:=(.int .i64 au)) (r:=none) (λ_=>KB) KB (λ_=>KB) (λ_=>KB) iY Tryz.underlying129 (λ_=>KB) (mB hrw) (by rw [j8,fL];rfl) (jK 1 [7] [] (NZ (jK 2 [37] [] (NT (zR ⟨L,by rw [show (cR S au a)=(141,S) by unfold cR;rw [ahe zc,fL]]<;>exact⟨rfl,rfl⟩⟩)))))))
 ·have bC:(af S.O tk).kind=1:=hI.kind ck
  exact aq.region (jK 5 [33,34] [(3,a_ 0 f)] (av.ji 1 (d:=(some 35)) (t:=129) (K:=3) (E:=133) (b:=m) (n:=S.ar.length) (f:=(cQ (cM L S.ar))) (x:=(.tmp 33)) (ix:=(.tmp 34)) (key:=vI (au)) (z:=.nilIface) (kl:=(.int .i64 au)) (r:=(some (iz L ⟨tk,1⟩))) (λ_=>KB) KB (λ_=>KB) (λ_=>KB) iY Tryz.underlying129 (λ_=>KB) (mB hrw) (by rw [j8,fL];rfl) (jK 1 [7] [] (NZ (jK 2 [37] [] (NF (KX (SR (jK 7 [8,9] [] (NZ (jK 2 [44] [] (NT (zR ⟨L,by rw [show (cR S au a)=(173,S) by unfold cR;rw [ahe zc,fL];simp only;exact ahe ahd]<;>exact⟨rfl,rfl⟩⟩)))))))))))))
 ·have bC:(af S.O tk).kind=2:=hI.kind ck
  refine aq.region (jK 5 [33,34] [(3,a_ 0 f)] (av.ji 1 (d:=(some 35)) (t:=129) (K:=3) (E:=133) (b:=m) (n:=S.ar.length) (f:=(cQ (cM L S.ar))) (x:=(.tmp 33)) (ix:=(.tmp 34)) (key:=vI (au)) (z:=.nilIface) (kl:=(.int .i64 au)) (r:=(some (iz L ⟨tk,2⟩))) (λ_=>KB) KB (λ_=>KB) (λ_=>KB) iY Tryz.underlying129 (λ_=>KB) (mB hrw) (by rw [j8,fL];rfl) (jK 1 [7] [] (NZ (jK 2 [37] [] (NF (KX (SR (jK 7 [8,9] [] (NZ (jK 2 [44] [] (NF (KX (SR (jK 4 [46,47,49] [(3,a_ 7 b1)] ?_)))))))))))))))
  rcases yK hI ck a.path with ⟨e,pq,bV⟩|⟨d,name,pq,hd,lS,j6⟩
  ·exact gE [3,5] ((by have h:=Gj (β:=β) S L f hI tk ck a.path Xy hg;rw [pq] at h;exact h)) (jK 7 [10,11,12] [] (NZ (jK 2 [55] [] (NN (cN ((e:Int)=(0:Int)) (λh55=>zR ⟨L,by rw [show (cR S au a)=(e,S) by unfold cR;rw [ahe zc,fL];simp only;rw [ahf trivial,pq]]<;>exact⟨rfl,rfl⟩⟩ [2,3,4,0,5,1,6]) (λh55=>ahh h55 bV))))))
  have dU:(af S.O d).kind=2:=hI.kind hd
  have eG:name.size<=1048576:=MC j6
  refine gE [3,5] ((by have h:=Gj (β:=β) S L f hI tk ck a.path Xy hg;rw [pq] at h;exact h)) (jK 7 [10,11,12] [] (NZ (jK 2 [55] [] (NF (KX (SQ (jK 2 [58] [(1,a_ 7 b1)] (NN (aq.block (SR (jK 2 [59] [] (NN (cP ((a.op:Int)=(1:Int)) (λwi=>?_) (λwi=>?_))))))))))))))
  ·refine SQ (jK 3 [61,62,63] [] (gE [2,3,1,0] (Cm S L f m t hI d hd name eG) (jK 1 [12] [] (NS (jK 2 [66] [] (NN (cN (((gy S.X S.O S.ar d name):Int)=(0:Int)) (λh0=>zR ⟨L,by rw [show (cR S au a)=(gy S.X S.O S.ar d name,S) by unfold cR;rw [ahe zc,fL];simp only;rw [ahf trivial,pq];simp only;unfold nV;rw [ahf zc];unfold sE;exact ahe h0]<;>exact⟨rfl,rfl⟩⟩ [0,1,4,3,5,2,6]) (λh0=>?_))))))))
   have iU:=vo h0
   refine KX (SR (jK 1 [68] [] (gE [0] (Cl S.X f m t hX 420) (jB 2 [71] (λb2=>.ay b2 [vI (S.X.last+1),vI (420),vI 0,vI 0,vI (S.X.cS),vI (S.X.cZ),vI 0,vI 0,.bool false,.slice none (0) (0)] 140) (λb2=>?_)))))
   obtain⟨L2,fX⟩:∃L2:HL,L2=L.put (bA S.X) b2 0 none 0:=⟨_,rfl⟩
   have hfr:=hI.toInv0.fresh
   refine av.mem (λw hS=>hS.BA fX hfr (o:=(cU S.X 1 420)) (i:=3) (j:=8) (ix:=[0,1,2,4,5,6,7]) rfl rfl KB rfl (by show (1:Int)≠0;decide) ((mH (L:=L2) (k:=(bA S.X)) (o:=(cU S.X 1 420)) rfl).trans (by rw [show L2.dA (bA S.X)=none by rw [fX];exact ahf rfl,show L2.dC (bA S.X)=0 by rw [fX];exact ahf rfl];rfl)) rfl) (av.gH [(3,pE (aZ S.O (bA S.X) (λ_=>(cU S.X 1 420))) L2)] (λw hS=>hS.CR fX hfr (o:=(cU S.X 1 420)) (i:=3) rfl (by show (1:Int)≠2;decide)) (av.mem (λw hS=>hS.mF (e:=5) (size:=1)) (av.mem (λw hS=>hS.Tl fX (o:=(cU S.X 1 420)) (i:=5) (j:=8) (ix:=[0,1,2,3,4,6,7]) rfl rfl KB rfl rfl rfl) (av.gH [(3,.abs (bD Tryz.prog 3 m (cQ (cM L2 S.ar)) S.ar.length)),(5,.abs (fD 182 t S.X.cH S.aI (cM L2 S.us)))] (λw hS=>by rw [lX fX hfr.ar,lX fX hfr.us];exact hS) (jK 1 [13] [] (NS (jK 5 [72,73,74,76] [] (gE [2,3,1,4] ((by have h:=zx (β:=β) S L2 f m t hI.toInv0 d hd name eG iU (cU S.X 1 420) rfl (by simp [cU]) rfl (xw h0);rw [Dq fX (hI.CQ hd),vn fX] at h;exact h)) (NS (av.gH [(4,.abs (aW (dN ((gu S d name (cU S.X 1 420)).O) L2)))] (λw hS=>by rw [show dN ((gu S d name (cU S.X 1 420)).O) L2=dN (aZ S.O (bA S.X) (λ_=>(cU S.X 1 420))) L2 from mK];exact hS) ?_))))))))))
   have WK:bT (gu S d name (cU S.X 1 420)):=hI.FY hd lS j6 h0 (.inl rfl) ⟨Pd,Pd⟩ (.inl ⟨Pd,rfl⟩)
   have VO:aT (gu S d name (cU S.X 1 420)).ar ⟨(bA S.X),1⟩:=Ox hI (o:=(cU S.X 1 420))
   exact jK 4 [78,79,81] [(3,a_ 7 b1)] (av.DZ (d:=(some 82)) (t1:=9) (t2:=51) (e:=5) (x:=(.tmp 81)) (s:=a.text) (λ_=>KB) (λ_=>KB) Tryz.underlying9 Tryz.underlying51 Tryz.underlying5 (λb3 c4 agp=>gX [8,0,1,5,2,4,3] ((by have h:=J9 (β:=β) (gu S d name (cU S.X 1 420)) L2 f m t WK (bA S.X) VO (some ⟨b3,0,none⟩) c4 a.text.data.toList (by rw [Array.length_toList];have:a.text.data.size=a.text.size:=rfl;omega) agp;rw [Jb fX] at h;exact h)) (λL3=>NS (jK 1 [6] [] (eN ⟨L3,by rw [show (cR S au a)=(0,(gF (gu S d name (cU S.X 1 420)) (bA S.X) a.text.data.toList).2.2) by unfold cR;rw [ahe zc,fL];simp only;rw [ahf trivial,pq];simp only;unfold nV;rw [ahf zc];unfold sE;exact ahf h0]<;>exact⟨rfl,rfl⟩⟩)))))
  refine SR (jK 2 [84] [] (NN (cP ((a.op:Int)=(2:Int)) (λh84=>SR (jK 3 [86,87,88] [] (gX [2,3,4,0,5,1] (Mt S L f m t hI d hd name eG 493) (λL2=>jK 1 [6] [] (eN ⟨L2,by rw [show (cR S au a)=((mI S d name 493).1,(mI S d name 493).2) by unfold cR;rw [ahe zc,fL];simp only;rw [ahf trivial,pq];simp only;unfold nV;rw [ahe zc];exact ahf zc]<;>exact⟨rfl,rfl⟩⟩))))) (λh84=>SR (jK 2 [90] [] (NN (cP ((a.op:Int)=(3:Int)) (λwg=>SR (jK 5 [92,93,94,96] [(4,a_ 7 b1)] (gX [2,3,4,0,5,1] (GZ S L f m t hI d hd name eG a.text hxz) (λL2=>jK 1 [6] [] (eN ⟨L2,by rw [show (cR S au a)=((jq S d name a.text).1,(jq S d name a.text).2) by unfold cR;rw [ahe zc,fL];simp only;rw [ahf trivial,pq];simp only;unfold nV;rw [ahe zc];rw [ahe zc];exact ahf zc]<;>exact⟨rfl,rfl⟩⟩))))) (λwg=>SR (jK 2 [98] [] (NN (cP ((a.op:Int)=(4:Int)) (λWh=>SR (jK 3 [100,101,102] [] (gX [2,3,4,0,5,1] (J5 S L f m t hI d hd name eG) (λL2=>jK 1 [6] [] (eN ⟨L2,by rw [show (cR S au a)=((iD S d name).1,(iD S d name).2) by unfold cR;rw [ahe zc,fL];simp only;rw [ahf trivial,pq];simp only;unfold nV;rw [ahe zc];rw [ahe zc];rw [ahe zc];exact ahf zc]<;>exact⟨rfl,rfl⟩⟩))))) (λWh=>SR (jK 2 [104] [] (NN (cP ((a.op:Int)=(5:Int)) (λagq=>SR (jK 3 [106,107,108] [] (gX [2,3,4,0,5,1] (Mu S L f m t hI d hd name eG) (λL2=>jK 1 [6] [] (eN ⟨L2,by rw [show (cR S au a)=((jd S d name).1,(jd S d name).2) by unfold cR;rw [ahe zc,fL];simp only;rw [ahf trivial,pq];simp only;unfold nV;rw [ahe zc];rw [ahe zc];rw [ahe zc];rw [ahe zc];exact ahf zc]<;>exact⟨rfl,rfl⟩⟩))))) (λagq=>SR (jK 2 [110] [] (NN (cP ((a.op:Int)=(6:Int)) (λagr=>?_) (λagr=>?_))))))))))))))))))))
  ·refine SR (jK 4 [113,114,116] [(3,a_ 7 b1)] ?_)
   rcases yK hI ck a.to with ⟨e2,Ka,P6⟩|⟨to,aD,Ka,hd2,aed,Z2⟩
   ·exact gE [0,1] ((by have h:=Gj (β:=β) S L f hI tk ck a.to htz hg;rw [Ka] at h;exact h)) (jK 7 [14,15,16] [] (NZ (jK 2 [122] [] (NN (cN ((e2:Int)=(0:Int)) (λTB=>zR ⟨L,by rw [show (cR S au a)=(e2,S) by unfold cR;rw [ahe zc,fL];simp only;rw [ahf trivial,pq];simp only;unfold nV;rw [ahe zc];rw [ahe zc];rw [ahe zc];rw [ahe zc];rw [ahe zc];rw [ahf zc];rw [Ka]]<;>exact⟨rfl,rfl⟩⟩ [2,3,4,0,5,1,6]) (λTB=>ahh TB P6))))))
   have jv:(af S.O to).kind=2:=hI.kind hd2
   have vV:aD.size<=1048576:=MC Z2
   exact gE [0,1] ((by have h:=Gj (β:=β) S L f hI tk ck a.to htz hg;rw [Ka] at h;exact h)) (jK 7 [14,15,16] [] (NZ (jK 2 [122] [] (NF (KX (SR (jK 5 [124,125,126,127,128] [] (gX [2,3,4,0,5,1] (J6 S L f m t hI d hd name eG to hd2 aD vV) (λL2=>jK 1 [6] [] (eN ⟨L2,by rw [show (cR S au a)=((dm S d name to aD).1,(dm S d name to aD).2) by unfold cR;rw [ahe zc,fL];simp only;rw [ahf trivial,pq];simp only;unfold nV;rw [ahe zc];rw [ahe zc];rw [ahe zc];rw [ahe zc];rw [ahe zc];rw [ahf zc];rw [Ka]]<;>exact⟨rfl,rfl⟩⟩))))))))))
  refine KX (aq.seq (aq.seq ?_))
  have hel:(af S.O d).ah.length<=8192:=hI.lI hd
  have Xn:=eG
  rcases hI.sU hd name with eE|⟨ok,eE,jH⟩|⟨ok,eE,jH⟩|⟨ok,eE,jH⟩
  ·exact aq.region (jK 5 [133,134] [(3,v_ 0 (dw L dU))] (nj 1 dU eE (NN (aq.block (SR (jK 3 [137,138] [] (NF (SR (jK 3 [140,141] [] (NF (SR (jK 3 [143,144] [] (NF (KX (zR ⟨L,by rw [show (cR S au a)=(170,S) by unfold cR;rw [ahe zc,fL];simp only;rw [ahf trivial,pq];simp only;unfold nV;rw [ahe zc];rw [ahe zc];rw [ahe zc];rw [ahe zc];rw [ahe zc];rw [ahe zc];unfold pH;rw [eE]]<;>exact⟨rfl,rfl⟩⟩ [2,3,4,0,5,1,6])))))))))))))))
  ·have rF:(af S.O ok).kind=1:=hI.kind jH
   exact aq.region (jK 5 [133,134] [(3,v_ 0 (dw L dU))] (nj 1 dU eE (NN (aq.block (SR (jK 3 [137,138] [] (NF (SR (jK 3 [140,141] [] (NF (SR (jK 3 [143,144] [] (NT (SR (jK 1 [19] [] (NS (jK 4 [146,147,149] [(3,a_ 7 b1)] (av.DZ (d:=(some 150)) (t1:=9) (t2:=51) (e:=5) (x:=(.tmp 149)) (s:=a.text) (λ_=>KB) (λ_=>KB) Tryz.underlying9 Tryz.underlying51 Tryz.underlying5 (λb6 c7 ags=>gX [8,2,3,4,0,5,1] (J9 (β:=β) S L f m t hI ok jH (some ⟨b6,0,none⟩) c7 a.text.data.toList (by rw [Array.length_toList];have:a.text.data.size=a.text.size:=rfl;omega) ags) (λL3=>jK 5 [21] [] (NS (jK 2 [6] [] (eN ⟨L3,by rw [show (cR S au a)=((gF S ok a.text.data.toList).2.1,(gF S ok a.text.data.toList).2.2) by unfold cR;rw [ahe zc,fL];simp only;rw [ahf trivial,pq];simp only;unfold nV;rw [ahe zc];rw [ahe zc];rw [ahe zc];rw [ahe zc];rw [ahe zc];rw [ahe zc];unfold pH;rw [eE];exact (ahe ahd).trans (ahe ahd)]<;>exact⟨rfl,rfl⟩⟩)))))))))))))))))))))))
  ·have rF:(af S.O ok).kind=2:=hI.kind jH
   exact aq.region (jK 5 [133,134] [(3,v_ 0 (dw L dU))] (nj 1 dU eE (NN (aq.block (SR (jK 3 [137,138] [] (NF (SR (jK 3 [140,141] [] (NT (SR (jK 1 [] [] (NS (jK 1 [6] [] (eN ⟨L,by rw [show (cR S au a)=(172,S) by unfold cR;rw [ahe zc,fL];simp only;rw [ahf trivial,pq];simp only;unfold nV;rw [ahe zc];rw [ahe zc];rw [ahe zc];rw [ahe zc];rw [ahe zc];rw [ahe zc];unfold pH;rw [eE];exact (ahe ahd).trans (ahf rfl)]<;>exact⟨rfl,rfl⟩⟩ [2,3,4,0,5,1,6])))))))))))))))
  have rF:(af S.O ok).kind=3:=hI.kind jH
  exact aq.region (jK 5 [133,134] [(3,v_ 0 (dw L dU))] (nj 1 dU eE (NN (aq.block (SR (jK 3 [137,138] [] (NT (SR (jK 1 [] [] (NS (jK 1 [6] [] (eN ⟨L,by rw [show (cR S au a)=(174,S) by unfold cR;rw [ahe zc,fL];simp only;rw [ahf trivial,pq];simp only;unfold nV;rw [ahe zc];rw [ahe zc];rw [ahe zc];rw [ahe zc];rw [ahe zc];rw [ahe zc];unfold pH;rw [eE];exact ahf rfl]<;>exact⟨rfl,rfl⟩⟩ [2,3,4,0,5,1,6]))))))))))))
 have bC:(af S.O tk).kind=3:=hI.kind ck
 exact aq.region (jK 5 [33,34] [(3,a_ 0 f)] (av.ji 1 (d:=(some 35)) (t:=129) (K:=3) (E:=133) (b:=m) (n:=S.ar.length) (f:=(cQ (cM L S.ar))) (x:=(.tmp 33)) (ix:=(.tmp 34)) (key:=vI (au)) (z:=.nilIface) (kl:=(.int .i64 au)) (r:=(some (iz L ⟨tk,3⟩))) (λ_=>KB) KB (λ_=>KB) (λ_=>KB) iY Tryz.underlying129 (λ_=>KB) (mB hrw) (by rw [j8,fL];rfl) (jK 1 [7] [] (NZ (jK 2 [37] [] (NF (KX (SR (jK 7 [8,9] [] (NZ (jK 2 [44] [] (NT (zR ⟨L,by rw [show (cR S au a)=(173,S) by unfold cR;rw [ahe zc,fL];simp only;exact ahe ahd]<;>exact⟨rfl,rfl⟩⟩)))))))))))))
end
section
open Go.RowKit Go.Maps bG aF
attribute [local irreducible] av bP aq aB cu
theorem aes {β:Bs} (S:bB) (L:HL) (o q f m t am an km kn n:Nat) (Z:AZ) (fs:List dI) (xs:List dO) (au:Int) (hrw:(Lit.int .i64 au).wf=true) (hI:bT S) (hn:n<=8388608) (k:Int) (hk:iQ fs ((n+1:Nat):Int)=k) (hZ:pN β Z xs) (hX:kZ xs 1048576) (hg:oV β) (c:aP) (hC:kH β c) :
 aX Tryz.prog β 226 #[vP o,.agg ⟨aL c⟩] ([.ay o [.iface 109 (vP q),vP f,vI (au),.map (some am),vI (((n:Nat):Int))] 113,.ay q [.iface 76 (vP f),.map (some km),vI (((n:Nat):Int))] 111,.abs (bD Tryz.prog 3 am (ju Z xs) an)]++zA4 km fs kn f m t S L) (λv l=>∃L2,v=.agg ⟨aL (dZ k (kK au S (dS xs ((n+1:Nat):Int))) c).2⟩/\l=[.ay o [.iface 109 (vP q),vP f,vI (au),.map (some am),vI ((((n+1):Nat):Int))] 113,.ay q [.iface 76 (vP f),.map (some km),vI ((((n+1):Nat):Int))] 111,.abs (bD Tryz.prog 3 am (ju Z xs) an),.abs (bD Tryz.prog 3 km (gh fs) kn),pF f m t ((dZ k (kK au S (dS xs ((n+1:Nat):Int))) c).1.X),.abs (bD Tryz.prog 3 m (cQ (cM L2 (dZ k (kK au S (dS xs ((n+1:Nat):Int))) c).1.ar)) ((dZ k (kK au S (dS xs ((n+1:Nat):Int))) c).1.ar.length)),pT t (dZ k (kK au S (dS xs ((n+1:Nat):Int))) c).1.X.cH ((dZ k (kK au S (dS xs ((n+1:Nat):Int))) c).1.aI) L2 ((dZ k (kK au S (dS xs ((n+1:Nat):Int))) c).1.us),pO ((dZ k (kK au S (dS xs ((n+1:Nat):Int))) c).1.O) L2,pD ((dZ k (kK au S (dS xs ((n+1:Nat):Int))) c).1.O) L2,pE ((dZ k (kK au S (dS xs ((n+1:Nat):Int))) c).1.O) L2]):=by
 obtain⟨ys,hys⟩:∃ys,dS xs ((n+1:Nat):Int)=ys:=⟨_,rfl⟩
 obtain⟨Ef,has⟩:∃a,aA Z xs ((n+1:Nat):Int)=a:=⟨_,rfl⟩
 obtain⟨ac_,hac⟩:∃a,aC Z xs ((n+1:Nat):Int)=a:=⟨_,rfl⟩
 have hrow:=hZ ((n+1:Nat):Int)
 rw [hys,has] at hrow
 have hyb:∀{i},i<ys.length->EX (act ys i) 1048576:=λ{i} h=>hX.q _ (TU (x:=((n+1:Nat):Int)) (by rw [hys];exact ahN (zK h)))
 have wh:ys.length<=1048576:=by rw [←hys];exact ahk (JF _) hX.len
 rw [show dS xs ((n+1:Nat):Int)=ys from hys]
 obtain⟨SA,hSA⟩:∃SA,kK au S ys=SA:=⟨_,rfl⟩
 rw [hSA]
 refine SE Tryz.func226 Tryz.ntmps226 (λR=>SR (jB 1 [3] (λb1=>.ay b1 (aL c) 53) (λb1=>jB 1 [4] (λb2=>.ay b2 [vI 0,vI 0,vI 0,.string ⟨#[]⟩,.string ⟨#[]⟩,.slice none (0) (0),vI 0,vI 0,vI 0,vI 0,vI 0,vI 0,vI 0] 53) (λb2=>NS (jC 8 [] [(3,a_ 0 o),(4,wJ ((n:Int)+1) (↑(n+1))),(7,a_ 0 o)] [(0,[(4,vI ↑(n+1))])] (NN (aq.seq (aq.seq (rQ (jQ 8 [17,21] [(3,a_ 0 o),(7,a_ 0 o)] (bP.ji 2 (d:=(some 22)) (t:=106) (K:=3) (E:=30) (b:=am) (n:=an) (f:=(ju Z xs)) (x:=(.tmp 17)) (ix:=(.tmp 21)) (key:=vI ↑(n+1)) (z:=.slice none (0) (0)) (kl:=(.int .i64 ((n+1:Nat):Int))) (r:=(ju Z xs (.int .i64 ((n+1:Nat):Int)))) (λ_=>KB) KB (λ_=>KB) (λ_=>KB) iY Tryz.underlying106 (λ_=>KB) (mB (Wd zc)) (rfl) (bP.slot 22 (((ju Z xs (.int .i64 ((n+1:Nat):Int))).getD (.slice none 0 0))) (.slice Ef (ys.length) (ac_)) (λ_=>KB) (H9.trans (by rw [hys,has,hac])) (jQ 2 [23,24] [] (NQ (NX (aq.block (lJ (ι:=Nat×bB×HL) (λ(i,S1,L1)=>(i<=ys.length)/\(S1=kK au S (ys.take i))/\(bT S1)) (λ(i,S1,L1)=>ys.length-i) (λ(i,S1,L1)=>[(0,vP o),(3,vP b1),(4,vP b2),(22,.slice Ef (ys.length) (ac_)),(23,vI ↑ys.length),(24,vI ↑i)]) (λ(i,S1,L1)=>[.ay o [.iface 109 (vP q),vP f,vI (au),.map (some am),vI ↑(n+1)] 113,.ay q [.iface 76 (vP f),.map (some km),vI ↑n] 111,.abs (bD Tryz.prog 3 am (ju Z xs) an),.abs (bD Tryz.prog 3 km (gh fs) kn),pC b1 c,zA1 b2,pF f m t S1.X,pI m L1 S1.ar,pT t S1.X.cH S1.aI L1 S1.us,pO S1.O L1,pD S1.O L1,pE S1.O L1,.abs R]) (0,S,L) [0,1,2,3,11,12,4,5,6,7,8,9,10] (⟨ahj _,rfl,hI⟩) ?_)))))))))))))))))
 rintro⟨i,S1,L1⟩ ⟨hi,hs1,di⟩
 refine SR (jK 1 [25] [] (NN (aq.seq (cP ((((i:Nat):Int):Int)<(((ys.length:Nat):Int):Int)) (λpZ=>KX (aq.seq (aq.block (SR (jN 4 [6] (λb3=>[(0,x_ i ys.length (M9 hrow (i:=i) zc)),(1,p_ ⟨[.old (.int .i64 ((act ys i).at_)),.old (.int .i64 ((act ys i).op)),.old (.string (act ys i).path),.old (.string (act ys i).to),.old (.string (act ys i).text)],none,none,none,none⟩ [(Rd β ⟨(br Ef),bq Ef+i*5+4,none⟩ (.string (act ys i).text)),(Rd β ⟨(br Ef),bq Ef+i*5+3,none⟩ (.string (act ys i).to)),(Rd β ⟨(br Ef),bq Ef+i*5+2,none⟩ (.string (act ys i).path)),(Rd β ⟨(br Ef),bq Ef+i*5+1,none⟩ (vI ((act ys i).op))),(Rd β ⟨(br Ef),bq Ef+i*5,none⟩ (vI ((act ys i).at_)))] ⟨qP hrow (i:=i) zc (j:=4) rfl,qP hrow (i:=i) zc (j:=3) rfl,qP hrow (i:=i) zc (j:=2) rfl,qP hrow (i:=i) zc (j:=1) rfl,qP hrow (i:=i) zc (j:=0) rfl,trivial⟩),(3,A_ 13 b3 5)]) (λ_=>[]) (λb3=>.ay b3 [vI ((act ys i).at_),vI ((act ys i).op),.string (act ys i).path,.string (act ys i).to,.string (act ys i).text] 68) (λb3=>NN (rM (List.range 10) 9 [0,13] (jR 9 [0,3,4,22,23,24,31,35,36] [(3,a_ 0 o),(7,a_ 0 o),(8,A_ 1 b3 5)] (cu.last rfl rfl (gX [6,7,8,9,10,11] (acE S1 L1 f m t di au hrw (act ys i) (hyb zc).path (hyb zc).to (hyb zc).text hg) (λL2=>NL (aB.np (BX (aq.region (jK 2 [24] [(0,wJ ((i:Int)+1) (↑(i+1)))] (NL (tJ ((i+1),(cR S1 au (act ys i)).2,L2) [6,7,8,9,10,11,0,1,2,3,4,5,12] (⟨zc,by rw [hs1];exact (TV zc).symm,di.cR⟩)))))))))))))))))) (λpZ=>XX (aq.seq (rM (List.range 7) 5 [0,4] (jR 5 [4,42,43] [(3,a_ 0 o),(4,A_ 1 b1 13)] (mL [8,10] [1,3,6,7,8,9,10,11] (aer S1 L1 q f m t km kn n fs di hn k hk c hC) ?_ (by rintro _ _ ⟨L2,rfl,rfl⟩;rfl))))))))))
 rintro _ _ ⟨L2,rfl,rfl⟩
 refine cu.last rfl rfl (jC 1 [] [(0,A_ 11 b2 13)] [(11,(zC (aL ((dZ k S1 c).2))))] (NL (aB.np (NX (aq.ret ?_)))))
 have hs2:S1=SA:=by rw [hs1,show i=ys.length by omega,ahG];exact hSA
 subst hs2
 exact rT (.agg ⟨aL ((dZ k S1 c).2)⟩) [A_ 11 b2 13] [8,0,9,1,2,3,4,5,6,7,12] (⟨L2,rfl,rfl⟩)
end
section
open Go.RowKit Go.Maps bG aF
theorem Xz {β:Bs} (A:Option Addr) (c:Nat) (d:List UInt8) (hA:bJ β A d) (hl:d.length<=1048576):cr Tryz.prog β 37 #[.slice A d.length c] [] (λβ' v l=>∃B cap,v=.slice B d.length cap/\l=[]/\bJ β' B d/\d.length<=cap):=
 (Mz A c d hA hl).mono (by rintro β' v l _ ⟨B,cap,rfl,rfl,h1,h2⟩;exact⟨B,cap,rfl,rfl,h1.at_,h2⟩)
theorem acF {β:Bs} (S:bB) (L:HL) (o q f m t am an km kn n:Nat) (Z:AZ) (fs:List dI) (xs:List dO) (au:Int) (hrw:(Lit.int .i64 au).wf=true) (hI:bT S) (hn:n<=8388608) (hZ:pN β Z xs) (hX:kZ xs 1048576) (hg:oV β) (c:aP) (B:Option Addr) (p:Nat) {sV:Int} (ho:sV=if c.op=1 then au else c.other) (hC:kH β {dJ B p c with other:=sV}) {S2:bB} {c2:aP} (hW:mZ fs xs au (n+1) S c=(S2,c2)) :
 aX Tryz.prog β 226 #[vP o,.agg ⟨aL {dJ B p c with other:=sV}⟩] ([oB o q f au am n,qB q f km n,aM am an Z xs,kM km kn fs]++pA f m t L S) (λv l=>∃L2,v=.agg ⟨aL (dJ B p c2)⟩/\l=[oB o q f au am (n+1),qB q f km (n+1),aM am an Z xs,kM km kn fs]++pA f m t L2 S2):=by
 have e:({dJ B p c with other:=sV}:aP)=dJ B p (cI au c):=by rw [QT ho];rfl
 rw [e] at hC ⊢
 have h:=aes S L o q f m t am an km kn n Z fs xs au hrw hI hn _ rfl hZ hX hg (dJ B p (cI au c)) hC
 rw [L5] at h
 have hW:dZ (iQ fs ((n+1:Nat):Int)) (kK au S (dS xs ((n+1:Nat):Int))) (cI au c)=(S2,c2):=hW
 rw [hW] at h
 exact h
end
section
open Go.RowKit Go.Maps bG aF
attribute [local irreducible] av bP aq aB cu
theorem SF {β:Bs} (S:bB) (L:HL) (w o q f m t am an km kn:Nat) (Z:AZ) (fs:List dI) (xs:List dO) (au:Int) (tr:List aP) (tA:Option Addr) (tC:Nat) (hrw:(Lit.int .i64 au).wf=true) (hI:bT S) (hn:tr.length<=8388607) (hZ:pN β Z xs) (hX:kZ xs 1048576) (hg:oV β) (c:aP) (hD:bJ β c.dA c.data) (hl:c.data.length<=1048576) (hw:(Lit.int .i64 c.aN).wf=true) (how:(Lit.int .i64 c.other).wf=true) (hnm:c.name.size<=1048576) (vU:c.text.size<=1048576) (bX:tW c.op) {S2:bB} {c2:aP} (hW:mZ fs xs au (tr.length+1) S c=(S2,c2)) :
 cr Tryz.prog β 11 #[vP w,.agg ⟨aL c⟩] [.ay w [.iface 37 (vP w),vP f,.iface 108 (vP o),vI (au),.slice tA (tr.length) (tC)] 79,.ay o [.iface 109 (vP q),vP f,vI (au),.map (some am),vI (((tr.length:Nat):Int))] 113,.ay q [.iface 76 (vP f),.map (some km),vI (((tr.length:Nat):Int))] 111,.abs (bD Tryz.prog 3 am (ju Z xs) an),.abs (bD Tryz.prog 3 km (gh fs) kn),.abs (aG 53 13 tA tr.length tC (bO aL tr)),.ay f [vI (S.X.cN),vI (S.X.cB),vI (S.X.cH),vI (S.X.cS),vI (S.X.cZ),.map (some m),vP t,vI (S.X.last),vI (S.X.ah),vI (S.X.used)] 135,.abs (bD Tryz.prog 3 m (cQ (cM L S.ar)) S.ar.length),.abs (fD 182 t S.X.cH S.aI (cM L S.us)),.abs (aW (d8 S.O L)),.abs (aW (dN S.O L)),.abs (aW (fM S.O L))] (λβ' v l=>∃B1 p1 B2 p2 A' k' L2,v=.agg ⟨aL (dJ B2 p2 c2)⟩/\l=[.ay w [.iface 37 (vP w),vP f,.iface 108 (vP o),vI (au),.slice A' ((tr.length+1)) (k')] 79,.ay o [.iface 109 (vP q),vP f,vI (au),.map (some am),vI ((((tr.length+1):Nat):Int))] 113,.ay q [.iface 76 (vP f),.map (some km),vI ((((tr.length+1):Nat):Int))] 111,.abs (bD Tryz.prog 3 am (ju Z xs) an),.abs (bD Tryz.prog 3 km (gh fs) kn),.abs (aG 53 13 A' (tr.length+1) k' (bO aL (tr++[dJ B1 p1 c2]))),.ay f [vI (S2.X.cN),vI (S2.X.cB),vI (S2.X.cH),vI (S2.X.cS),vI (S2.X.cZ),.map (some m),vP t,vI (S2.X.last),vI (S2.X.ah),vI (S2.X.used)] 135,.abs (bD Tryz.prog 3 m (cQ (cM L2 S2.ar)) S2.ar.length),.abs (fD 182 t S2.X.cH S2.aI (cM L2 S2.us)),.abs (aW (d8 S2.O L2)),.abs (aW (dN S2.O L2)),.abs (aW (fM S2.O L2))]/\FC β β' B1 c2.data/\bJ β' B2 c2.data/\c2.data.length<=p2):=by
 have hd2:c2.data=c.data:=by have h:=GI (fs:=fs) (xs:=xs) (au:=au) (n:=tr.length+1) (S:=S) (c:=c);rw [hW] at h;exact h
 refine o8 Tryz.func11 Tryz.ntmps11 (λaE R=>SR (jB 1 [3] (λb1=>.ay b1 (aL c) 53) (λb1=>jB 1 [4] (λb2=>.ay b2 [vI 0,vI 0,vI 0,.string ⟨#[]⟩,.string ⟨#[]⟩,.slice none (0) (0),vI 0,vI 0,vI 0,vI 0,vI 0,vI 0,vI 0] 53) (λb2=>NS (jK 2 [6] [(1,a_ 13 b1)] (j3 [] (Mz c.dA c.dC c.data hD hl) ?_))))))
 rintro vT _ _ kS ⟨B1,p1,rfl,rfl,Ee,hp1⟩
 replace hD:=hD.le kS
 replace hZ:=hZ.le kS
 replace hg:=hg.le kS
 replace aE:=aE.trans kS
 refine jC 2 [] [(1,a_ 13 b1)] [(13,[(5,.slice B1 (c.data.length) (p1))])] (NN (aq.join (ι:=Int) (λ(sV:Int)=>(sV=if c.op=1 then au else c.other)/\((Lit.int .i64 sV).wf=true)) (λ(sV:Int)=>[(0,vP w),(3,vP b1),(4,vP b2)]) (λ(sV:Int)=>[.ay w [.iface 37 (vP w),vP f,.iface 108 (vP o),vI (au),.slice tA (tr.length) (tC)] 79,.ay o [.iface 109 (vP q),vP f,vI (au),.map (some am),vI ↑tr.length] 113,.ay q [.iface 76 (vP f),.map (some km),vI ↑tr.length] 111,.abs (bD Tryz.prog 3 am (ju Z xs) an),.abs (bD Tryz.prog 3 km (gh fs) kn),.abs (aG 53 13 tA tr.length tC (bO aL tr)),pF f m t S.X,pI m L S.ar,pT t S.X.cH S.aI L S.us,pO S.O L,pD S.O L,pE S.O L,.abs R,.ay b1 (aL (fk {c with other:=sV} B1 p1)) 53,.ay b2 [vI 0,vI 0,vI 0,.string ⟨#[]⟩,.string ⟨#[]⟩,.slice none (0) (0),vI 0,vI 0,vI 0,vI 0,vI 0,vI 0,vI 0] 53]) ?_ (SR (jK 3 [11] [(1,a_ 13 b1)] (NN (cP ((c.op:Int)=(1:Int)) (λh11=>aq.region (jC 6 [] [(3,a_ 0 w),(5,a_ 13 b1)] [(13,[(2,vI (au))])] (NL (mJ au [0,1,2,3,4,5,6,7,8,9,10,11,12,13,14] (⟨(ahf h11).symm,hrw⟩))))) (λh11=>aq.skip (mJ c.other [0,1,2,3,4,5,6,7,8,9,10,11,12,13,14] (⟨(ahe h11).symm,how⟩)))))))))
 rintro sV ⟨hoth,how⟩
 refine aq.seq (rM (List.range 7) 5 [0,13] (jR 5 [0,3,4,20,21] [(3,a_ 0 w),(4,A_ 1 b1 13)] (mL [10,13] [1,2,3,4,6,7,8,9,10,11] (acF (β:=vT) S L o q f m t am an km kn tr.length Z fs xs au hrw hI zc hZ hX hg c B1 p1 hoth ⟨hw,how,hnm,vU,Ee.at_,ahk hl Pd,hp1,bX⟩ hW) ?_ (by rintro _ _ ⟨L2,rfl,rfl⟩;rfl))))
 rintro _ _ ⟨L2,rfl,rfl⟩
 refine cu.last rfl rfl (jC 1 [] [(0,A_ 13 b1 13)] [(13,(zC (aL (fk c2 B1 p1))))] (NL (aB.np (NX (aq.seq (rM (List.range 11) 6 [10,13] (jR 6 [3,4,23,27,28] [(4,a_ 0 w),(5,A_ 1 b1 13)] (mN [10,13] (λb4=>[(29,.slice (some ⟨b4,0,none⟩) (1) (1))]) (λ_=>[]) (λb4=>.ay b4 (aL (fk c2 B1 p1)) 53) (λb4=>cu.cut (ι:=(Option Addr)×Nat) (bY:=λ((A5,c6):(Option Addr)×Nat)=>[(3,vP b1),(4,vP b2),(23,vP w),(30,.slice A5 ((tr.length+1)) (c6))]) (dK:=λ((A5,c6):(Option Addr)×Nat)=>[.ay o [.iface 109 (vP q),vP f,vI (au),.map (some am),vI ↑(tr.length+1)] 113,.ay q [.iface 76 (vP f),.map (some km),vI ↑(tr.length+1)] 111,.abs (bD Tryz.prog 3 am (ju Z xs) an),.abs (bD Tryz.prog 3 km (gh fs) kn),pF f m t S2.X,pI m L2 S2.ar,pT t S2.X.cH S2.aI L2 S2.us,pO S2.O L2,pD S2.O L2,pE S2.O L2,.ay w [.iface 37 (vP w),vP f,.iface 108 (vP o),vI (au),.slice tA (tr.length) (tC)] 79,.abs (aG 53 13 A5 (tr.length+1) c6 (bO aL (tr++[dJ B1 p1 c2]))),.abs R,.ay b1 (aL (fk c2 B1 p1)) 53,.ay b2 [vI 0,vI 0,vI 0,.string ⟨#[]⟩,.string ⟨#[]⟩,.slice none (0) (0),vI 0,vI 0,vI 0,vI 0,vI 0,vI 0,vI 0] 53,.ay b4 (aL (fk c2 B1 p1)) 53]) [10,13] rfl rfl ?_ rfl (λ_=>KB) ?_)))))))))
 ·exact av.append 11 (d:=(some 30)) (t:=35) (e:=53) (z:=.agg #[vI 0,vI 0,vI 0,.string ⟨#[]⟩,.string ⟨#[]⟩,.slice none (0) (0),vI 0,vI 0,vI 0,vI 0,vI 0,vI 0,vI 0]) (size:=13) (bytes:=136) (n:=tr.length) (cap:=tC) (A:=tA) (xs:=(bO aL tr)) (s:=(.tmp 27)) (x:=(.tmp 29)) (ats:=#[35,35]) (A':=some ⟨b4,0,none⟩) (m:=1) (c':=1) (news:=[vI (c2.op),vI (c2.aN),vI (c2.other),.string c2.name,.string c2.text,.slice B1 (c2.data.length) (p1),vI (c2.mode),vI (c2.bg),vI (c2.bh),vI (c2.aU),vI (c2.aJ),vI (c2.code),vI (c2.answer)]) (λ_=>KB) rfl KB (λ_=>KB) (λ_=>KB) Tryz.underlying35 KB rfl Pd (rfl) (by simp [Value.oneCell']) (fU (j:=15) rfl) (by unfold maxLen;omega) zc (λA5 c6=>av.cO 11 (p':=.abs (aG 53 13 A5 (tr.length+1) c6 (bO aL (tr++[dJ B1 p1 c2])))) rfl (ahg (λx=>HP.abs (aG 53 13 _ _ _ x)) (zq aL (dJ B1 p1 c2) tr).symm) (sl 30 (.slice A5 (tr.length+1) (c6)) (.slice A5 ((tr.length+1)) (c6)) (rfl) (NL (MD (A5,c6) [3,4,23,30] [0,1,2,3,4,5,6,7,8,9,10,11,12,13,14,15]))))
 rintro⟨A5,c6⟩
 refine nC [10,13] [31] [] [] (nC [10,13] [32] [] [] (cu.last rfl rfl (jC 1 [] [(0,a_ 10 w)] [(10,[(4,.slice A5 ((tr.length+1)) (c6))])] (NL (aB.np (NX (SR (jK 2 [34] [(1,a_ 13 b1)] (j3 [] (Xz B1 p1 c2.data (by rw [hd2];exact Ee.at_) (by rw [hd2];exact hl)) ?_)))))))))
 rintro JX _ _ kU ⟨B2,p2,rfl,rfl,SG,hp2⟩
 replace hD:=hD.le kU
 replace hZ:=hZ.le kU
 replace hg:=hg.le kU
 replace Ee:=Ee.le kU
 replace aE:=aE.trans kU
 exact jC 2 [] [(1,a_ 13 b1)] [(13,[(5,.slice B2 (c2.data.length) (p2))])] (NS (jC 2 [] [(0,A_ 13 b1 13),(1,A_ 14 b2 13)] [(14,(zC (aL (fk c2 B2 p2))))] (eO (v:=(.agg ⟨aL (fk c2 B2 p2)⟩)) [A_ 14 b2 13] aE ⟨B1,p1,B2,p2,A5,c6,L2,rfl,rfl,by rw [hd2];exact Ee,SG,hp2⟩ [10,0,1,2,3,11,4,5,6,7,8,9,12])))
end
section
open Go.RowKit Go.Maps bG aF
section d
variable {β:Bs} {fs:List dI} {xs:List dO} {au:Int} {S S2:bB} {V:WV} {tr:List aP} {c c2:aP} {G:WG}
theorem Qn (hrw:(Lit.int .i64 au).wf=true) (hI:bT S) (hn:tr.length<=8388607) (hZ:pN β G.Z xs) (hX:kZ xs 1048576) (hg:oV β) (hD:bJ β c.dA c.data) (hl:c.data.length<=1048576) (hw:(Lit.int .i64 c.aN).wf=true) (how:(Lit.int .i64 c.other).wf=true) (hnm:c.name.size<=1048576) (vU:c.text.size<=1048576) (bX:tW c.op) (hW:mZ fs xs au (tr.length+1) S c=(S2,c2)) :
 cr Tryz.prog β 11 #[vP G.w,.agg ⟨aL c⟩] [wA G fs xs au S V tr] (λβ' v l=>∃(V':WV) (B1:Option Addr) (p1:Nat) (B2:Option Addr) (p2:Nat),v=.agg ⟨aL (dJ B2 p2 c2)⟩/\l=[wA G fs xs au S2 V' (tr++[dJ B1 p1 c2])]/\bJ β' B1 c2.data/\bJ β' B2 c2.data/\c2.data.length<=p2):=
 (SF S V.L G.w G.o G.q G.f G.m G.t G.am G.an G.km G.kn G.Z fs xs au tr V.A V.c hrw hI hn hZ hX hg c hD hl hw how hnm vU bX hW).one.mono (by
  rintro β' v l _ ⟨l0,⟨B1,p1,B2,p2,A',k',L2,rfl,rfl,h1,h2,h3⟩,rfl⟩
  refine⟨⟨L2,A',k'⟩,B1,p1,B2,p2,rfl,?_,h1.at_,h2,h3⟩
  unfold wA wP tR
  rw [ahl]
  rfl)
theorem acG (hrw:(Lit.int .i64 au).wf=true) (hI:bT S) (hn:tr.length<=8388607) (hZ:pN β G.Z xs) (hX:kZ xs 1048576) (hg:oV β) {B:Option Addr} {p:Nat} (hl:c.data.length<=1048576) (hw:(Lit.int .i64 c.aN).wf=true) (how:(Lit.int .i64 c.other).wf=true) (hnm:c.name.size<=1048576) (vU:c.text.size<=1048576) (bX:tW c.op) (hW:mZ fs xs au (tr.length+1) S c=(S2,c2)) :
 cr Tryz.prog β 11 #[vP G.w,.agg ⟨aL (dJ B p c)⟩] [wA G fs xs au S V tr,.abs (aG 5 1 B c.data.length p (dL c.data))] (λβ' v l=>∃(V':WV) (B1:Option Addr) (p1:Nat) (B2:Option Addr) (p2:Nat),v=.agg ⟨aL (dJ B2 p2 c2)⟩/\l=[wA G fs xs au S2 V' (tr++[dJ B1 p1 c2]),.abs (aG 5 1 B c.data.length p (dL c.data))]/\bJ β' B1 c2.data):=by
 refine (cr.abA (pre:=[wA G fs xs au S V tr]) (R:=[.abs (aG 5 1 B c.data.length p (dL c.data))]) (Φ:=λγ v l=>∃(V':WV) (B1:Option Addr) (p1:Nat) (B2:Option Addr) (p2:Nat),v=.agg ⟨aL (dJ B2 p2 c2)⟩/\l=[wA G fs xs au S2 V' (tr++[dJ B1 p1 c2])]/\bJ γ B1 c2.data) (λβ1 hL=>?_) ?_).mono ?_
 ·refine (SF S V.L G.w G.o G.q G.f G.m G.t G.am G.an G.km G.kn G.Z fs xs au tr V.A V.c hrw hI hn (hZ.le hL.le) hX (hg.le hL.le) (dJ B p c) hL.bytes hl hw how hnm vU bX (c2:=dJ B p c2) (S2:=S2) (V4.trans (by rw [hW]))).one.mono ?_
  rintro β' v l _ ⟨l0,⟨B1,p1,B2,p2,A',k',L2,rfl,rfl,h1,_,_⟩,rfl⟩
  refine⟨⟨L2,A',k'⟩,B1,p1,B2,p2,rfl,?_,h1.nb⟩
  unfold wA wP tR
  rw [ahl]
  rfl
 ·rintro a b v l g ⟨V',B1,p1,B2,p2,h1,h2,h3⟩
  exact⟨V',B1,p1,B2,p2,h1,h2,h3.le g⟩
 rintro β' v l _ ⟨l0,⟨V',B1,p1,B2,p2,rfl,rfl,h1⟩,rfl⟩
 exact⟨V',B1,p1,B2,p2,rfl,rfl,h1⟩
theorem MF:aX Tryz.prog β 29 #[vP G.w] [wA G fs xs au S V tr] (λv l=>v=.int .i64 (tr.length:Int)/\l=[wA G fs xs au S V tr]):=
 (UC S V.L G.w G.o G.q G.f G.m G.t G.am G.an G.km G.kn G.Z fs xs au tr V.A V.c).one.mono (by rintro v l ⟨l0,⟨rfl,rfl⟩,rfl⟩;exact⟨rfl,rfl⟩)
theorem aas:aX Tryz.prog β 40 #[vP G.w] [wA G fs xs au S V tr] (λv l=>v=.int .i64 (S.us.length:Int)/\l=[wA G fs xs au S V tr]):=
 (Xv S V.L G.w G.o G.q G.f G.m G.t G.am G.an G.km G.kn G.Z fs xs au tr V.A V.c).one.mono (by rintro v l ⟨l0,⟨rfl,rfl⟩,rfl⟩;exact⟨rfl,rfl⟩)
theorem aat:aX Tryz.prog β 41 #[vP G.w] [wA G fs xs au S V tr] (λv l=>v=.int .i64 S.aI/\l=[wA G fs xs au S V tr]):=
 (Xw S V.L G.w G.o G.q G.f G.m G.t G.am G.an G.km G.kn G.Z fs xs au tr V.A V.c).one.mono (by rintro v l ⟨l0,⟨rfl,rfl⟩,rfl⟩;exact⟨rfl,rfl⟩)
theorem MG (hI:bT S):aX Tryz.prog β 30 #[vP G.w] [wA G fs xs au S V tr] (λv l=>∃A cp K,v=.agg #[.slice A (aY S).length cp]/\l=[wA G fs xs au S V tr]++KL A cp (aY S) K):=by
 intro R w hS
 have h1:aR β ([.abs R]++[wA G fs xs au S V tr]) w:=aR.turn hS
 refine (UD S V.L G.w G.o G.q G.f G.m G.t G.am G.an G.km G.kn G.Z fs xs au tr V.A V.c hI R w (aR.turn (aR.su h1))).mono ?_
 rintro e w' ⟨v,l,h2,⟨A,cp,K,h3,rfl⟩,h4⟩
 refine⟨v,_,h2,⟨A,cp,K,h3,rfl⟩,?_⟩
 rw [ahD] at h4
 have h5:=(aR.turn h4).gS
 rw [ahD] at h5 ⊢
 exact aR.turn h5
theorem UE (hI:bT S):cr Tryz.prog β 30 #[vP G.w] [wA G fs xs au S V tr] (λβ' v l=>∃A cp K,v=.agg #[.slice A (aY S).length cp]/\l=[wA G fs xs au S V tr]/\aQ β' A (aY S) K):=
 (MG hI).UA (by
  rintro v l ⟨A,cp,K,rfl,rfl⟩
  exact⟨_,_,rfl,λβ' h=>⟨A,cp,K,rfl,rfl,h.graph⟩⟩)
theorem SH {ns:List aO} {Y:eP} {X:FM} (A:Option Addr) (cp:Nat) (hG:aQ β A ns Y) (hB:j7 ns 1048576) {Af Aa:Option Addr} (cf ca:Nat) (hF:cD β Af (bO iJ fs)) (oQ:kR fs 2097152) (hA:cD β Aa (bO jP xs)) (ef:kZ xs 1048576) :
 cr Tryz.prog β 18 #[.agg #[.slice A ns.length cp],.int .i64 au,.agg #[.int .i64 X.cN,.int .i64 X.cB,.int .i64 X.cH,.int .i64 X.cS,.int .i64 X.cZ],.agg #[.slice Af fs.length cf,.slice Aa xs.length ca]] [] (λβ' v l=>(fP X ns au≠0/\v=.tuple #[.pointer none,.int .i64 (fP X ns au)]/\l=[])\/(fP X ns au=0/\∃(N:yQ X ns) (G:WG) (V:WV),v=.tuple #[vP G.w,.int .i64 0]/\l=[wA G fs xs au N.1 V []]/\aap β β' G.Z xs)):=
 ((aaq A cp ns Y hG hB X au Af cf fs hF oQ Aa ca xs hA ef).adC (by
   rintro β' v l (⟨h1,h2,rfl⟩|⟨h1,N,L,w,o,q,f,m,t,am,an,km,kn,Z,h2,rfl,h3⟩)
   ·exact .inl ⟨rfl,.inl ⟨h1,h2,rfl⟩⟩
   exact .inr (.inr ⟨h1,N,⟨w,o,q,am,km,an,kn,f,m,t,Z⟩,⟨L,none,0⟩,h2,rfl,h3⟩)))
end d
end
end Go.Proofs.YtbnfiigafobejaaGreat
