/-
  PROVED HERE: lemmas and contracts of functions (texts of this repo, joined; what the claim does not use is left out): Ol, DV, EA, Dw, LB, HA, HB, FZ, Zg, Zm.
  CONDITIONS: as the theorems say.
-/
import Derived.Test.YtnipofpbcggjcaaGreatDoorMHdoes5
import Derived.ChangeMaps5
import Derived.Test.YtnipofpbcggjcaaGreatDoorRows
import Derived.Shelf.Vars
import Derived.Deep.DeepLaidRun
import Derived.LaidHandle
set_option maxRecDepth 100000
set_option maxHeartbeats 4000000
namespace Go.Proofs.YtnipofpbcggjcaaGreatDoor
section
open Go.RowKit aR ak Go.Maps
theorem Ug {β:Bs} (A B:Option Addr) (c d:Nat) {n1 n2:Nat} {l1 l2:List Int} (e1:n1=l1.length) (e2:n2=l2.length) (e:l1=l2) (hB:bW β B (ints l2)) (hl:l1.length<=1048576) :
 Spec Tryz.prog β 48 #[.slice A n1 c,.slice B n2 d] [.abs (aq 3 1 A n1 c (ints l1))] (λv l=>v=.bool true/\l=[.abs (aq 3 1 A n1 c (ints l1))]):=by
 subst e1 e2 e
 refine (Spec.GF (pre:=[]) (post:=λv l=>v=.bool true/\l=[]) (λβ' g=>?_)).mono (by rintro v l ⟨l0,⟨rfl,rfl⟩,rfl⟩;exact⟨rfl,rfl⟩)
 obtain⟨F,h1,h2⟩:=g.get 0 rfl
 exact Wo A B c d l1 (bW.gF h1 h2 rfl) (hB.le g.le) hl
end
section
open Go.RowKit Go.Maps aR ak
attribute [local irreducible] ai aQ ah aj eM
theorem Jx {β:Bs} {S:aK} {g:List Int} (hp:Pair S g) (Y:RL) (hR:bS β (toR S g) Y) (f m t:Nat) (L:HL) :
 Spec Tryz.prog β 15 #[vP f,.agg ⟨rV (toR S g) Y⟩] [.blk f [vI (S.X.cN),vI (S.X.cB),vI (S.X.cH),vI (S.X.cS),vI (S.X.cZ),.map (some m),vP t,vI (S.X.last),vI (S.X.af),vI (S.X.used)] 72,.abs (aY Tryz.prog 3 m (br (bw L S.idx)) S.idx.length),.abs (cX 140 t S.X.cH S.ar (bw L S.us)),.abs (ax (ct S.O L)),.abs (ax (bQ S.O L)),.abs (ax (di S.O L))] (λv l=>v=.bool true/\l=[.blk f [vI (S.X.cN),vI (S.X.cB),vI (S.X.cH),vI (S.X.cS),vI (S.X.cZ),.map (some m),vP t,vI (S.X.last),vI (S.X.af),vI (S.X.used)] 72,.abs (aY Tryz.prog 3 m (br (bw L S.idx)) S.idx.length),.abs (cX 140 t S.X.cH S.ar (bw L S.us)),.abs (ax (ct S.O L)),.abs (ax (bQ S.O L)),.abs (ax (di S.O L))]):=by
 have hI:Inv S:=hp.inv
 refine SE Tryz.func15 Tryz.ntmps15 (λR=>SR (jN 2 [3] (λ_=>[]) (λ_=>[]) (λb1=>.blk b1 (rV (toR S g) Y) 42) (λb1=>NN (ah.seq (jM [0,2,3,501,504,5,6,8,9,10,507,511,12,13,14,16,17,18,515,19,20,21,22,24,523,525,26,27,528] [7] (jG 3 [0,3,5,8] [(2,a_ 0 b1)] (kL [10] [0,1,3,4,5] (Jw S L f m t hI) ?_ (by rintro _ _ ⟨Ao,co,Ko,rfl,rfl⟩;kernel_rfl))))))))
 rintro _ _ ⟨Ao,co,Ko,rfl,rfl⟩
 refine kL [10] [5,6,7] (JG Ao Y.A co Y.c (aA S) (aA S) Ko Y.L hR.n (Wz hI.toInv0) (Wn hI.toInv0) (decide_eq_true rfl)) ?_ (by rintro _ _ ⟨rfl,rfl⟩;kernel_rfl)
 rintro _ _ ⟨rfl,rfl⟩
 refine jG 5 [0,3,10,11,15] [(4,a_ 0 b1)] (kL [11] [3,8] (Ua S L f m t) ?_ (by rintro _ _ ⟨Ah,ch,rfl,rfl⟩;kernel_rfl))
 rintro _ _ ⟨Ah,ch,rfl,rfl⟩
 refine kL [11] [2] (Ug (n1:=S.us.length) (n2:=(toR S g).us.length) (l1:=keys S.us) (l2:=keys (toR S g).us) Ah Y.H ch Y.ch (wz S.us) (gU (toR S g).us).symm Ai.symm hR.h (aa0 hI.toInv0)) ?_ (by rintro _ _ ⟨rfl,rfl⟩;kernel_rfl)
 rintro _ _ ⟨rfl,rfl⟩
 refine jG 6 [0,3,18,19,23] [(5,a_ 0 b1)] (kL [11] [1,2] ((Wp S L f m t).val (congrArg (Value.int .i64) (show S.ar=(toR S g).ar from rfl))) ?_ (by rintro _ _ ⟨rfl,rfl⟩;kernel_rfl))
 rintro _ _ ⟨rfl,rfl⟩
 refine jG 5 [26,27,29] [(0,p_ ⟨[],none,none,none,some (.bool true)⟩ [(Value.bool (decide (((toR S g).ar:Int)=((toR S g).ar:Int))))=(.bool true)] ⟨by simp,trivial⟩),(4,A_ 0 b1 12)] (kL [11] [0] (Wm f m t S.X) ?_ (by rintro _ _ ⟨rfl,rfl⟩;kernel_rfl))
 rintro _ _ ⟨rfl,rfl⟩
 refine kL [11] [] ((Ll (toR S g) Y hR hp.rc.toRB).val (congrArg (Value.int .i64) (EF hI.toInv0))) ?_ (by rintro _ _ ⟨rfl,rfl⟩;kernel_rfl)
 rintro _ _ ⟨rfl,rfl⟩
 exact jG 2 [32] [(0,p_ ⟨[],none,none,none,some (.bool true)⟩ [(Value.bool (decide ((S.X.used:Int)=(S.X.used:Int))))=(.bool true)] ⟨by simp,trivial⟩)] (eM.last (by kernel_rfl) (jK 1 [4] [] (NL (aj.np (NX (ah.ret (RT _ [0,6,1,7,8,9,10] (⟨rfl,rfl⟩))))))))
end
section
open Go.RowKit Go.Maps aR ak
attribute [local irreducible] ai aQ ah aj
theorem M4 {β:Bs} (c:aD) (hD:aW β c.dA c.data) (hl:c.data.length<=1048576) :
 Spec Tryz.prog β 14 #[.agg ⟨aO c⟩] [] (λv l=>∃B p,v=.agg ⟨aO (cF c B p)⟩/\l=[.abs (aq 5 1 B c.data.length p (bY c.data))]):=by
 refine SE Tryz.func14 Tryz.ntmps14 (λR=>SR (jB 1 [1] (λb1=>.blk b1 (aO c) 48) (λb1=>jB 1 [2] (λb2=>.blk b2 [vI 0,vI 0,vI 0,.string ⟨#[]⟩,.string ⟨#[]⟩,.slice none (0) (0),vI 0,vI 0,vI 0,vI 0,vI 0,vI 0,vI 0] 48) (λb2=>NS (jK 2 [4] [(1,a_ 1 b1)] (gL [] (uV c.dA c.dC c.data hD (Nat.le_trans hl (by decide))) ?_))))))
 rintro _ _ ⟨B,p,rfl,rfl⟩
 exact jC 2 [] [(1,a_ 2 b1)] [(2,[(5,.slice B (c.data.length) (p))])] (NS (jC 2 [] [(0,A_ 2 b1 13),(1,A_ 3 b2 13)] [(3,(zC (aO (cF c B p))))] (eS [A_ 3 b2 13] ⟨B,p,rfl,rfl⟩)))
end
section
open Go.RowKit Go.Maps aR ak
attribute [local irreducible] ai aQ ah aj
theorem WA {β:Bs}:bV Tryz.prog β 4 #[] [] (λ_ v l=>v=.bool true/\l=[]):=by
 refine o6 Tryz.func4 Tryz.ntmps4 (λhle0 R=>SR (jK 1 [] [] (NS (jE [] (T9) ?_))))
 rintro β1 _ _ aF ⟨B,Y,rfl,rfl,hG⟩
 replace hle0:=hle0.trans aF
 refine jN 2 [1] (λb2=>[(1,A_ 1 b2 6)]) (λ_=>[]) (λb2=>.blk b2 [.slice B (2) (2),vI 9,vI 99,vI 9,vI 0,vI 0] 30) (λb2=>NS (jK 4 [10,12] [(1,a_ 1 b2),(3,A_ 1 b2 5)] (gL [] (QV (room:=99) (cp:=2) (by decide) hG) ?_)))
 rintro _ _ ⟨S,f3,m4,t5,L,h0,rfl,rfl⟩
 refine jK 5 [2,3] [] (NN (ah.seq (SR (jK 6 [21] [] (NF (KX (SR (jK 2 [22,23] [] ?_))))))))
 have bn:Inv (S1 S):=by have h:=h0.inv.iH AJ;rw [MY h0] at h;exact h
 refine gX [0,1,2,3,4,5] (ER (β:=β1) (f:=f3) (m:=m4) (t:=t5) (L:=L) h0.inv (HX (by decide) (by decide) (by decide) (by decide) rfl) (MY h0)) (λL1=>jN 2 [4] (λb6=>[(1,A_ 8 b6 13)]) (λ_=>[]) (λb6=>.blk b6 [vI 1,vI 0,vI 1,.string ⟨#[]⟩,.string ⟨#[]⟩,.slice none (0) (0),vI 0,vI 0,vI 0,vI 0,vI 0,vI 0,vI 1] 48) (λb6=>NS (jK 2 [25,26] [] ?_)))
 obtain⟨S2,hd2,I0,hn2,hc2,ha2,hk2⟩:=aaV h0
 have su:Inv S2:=by have h:=bn.iH zf;rw [hd2] at h;exact h
 refine gX [0,1,2,3,4,5] (ER (β:=β1) (f:=f3) (m:=m4) (t:=t5) (L:=L1) bn (HX (by decide) (by decide) (by decide) (by decide) rfl) hd2) (λL2=>jN 2 [5] (λb7=>[(1,A_ 9 b7 13)]) (λ_=>[]) (λb7=>.blk b7 [vI 4,vI 1,vI 0,.string ⟨#[100]⟩,.string ⟨#[]⟩,.slice none (0) (0),vI 448,vI 0,vI 0,vI 0,vI 0,vI 0,vI 0] 48) (λb7=>NS (jK 2 [28,29] [] ?_)))
 obtain⟨S3,hd3,hi3⟩:=aaW I0 hc2 ha2 hk2
 have y5:Inv S3:=by have h:=su.iH Gp;rw [hd3] at h;exact h
 refine gX [0,1,2,3,4,5] (ER (β:=β1) (f:=f3) (m:=m4) (t:=t5) (L:=L2) su (HX (by decide) (by decide) (by decide) (by decide) rfl) hd3) (λL3=>jN 2 [6] (λb8=>[(1,A_ 10 b8 13)]) (λ_=>[]) (λb8=>.blk b8 [vI 2,vI 1,vI 0,.string ⟨#[100]⟩,.string ⟨#[]⟩,.slice none (0) (0),vI 0,vI 0,vI 0,vI 0,vI 0,vI 0,vI 2] 48) (λb8=>NS (jK 20 [49,50] [(1,a_ 8 b6),(5,a_ 8 b6),(10,a_ 9 b7),(15,a_ 10 b8)] (jE [0,1,3,4,5] (QU (β:=β1) (S:=S3) (L:=L3) (f:=f3) (m:=m4) (t:=t5) y5) ?_))))
 rintro XG _ _ lT ⟨A4,c4,K4,rfl,rfl,_⟩
 replace hG:=hG.le lT
 replace hle0:=hle0.trans lT
 exact jK 5 [0] [(1,p_ ⟨[],none,none,none,some (vI (((3:Nat):Int)))⟩ [((.int .i64 ↑((aA S3).length):Value))=(.int .i64 (((3:Nat):Int)))] ⟨by rw [eu,hi3,hn2],trivial⟩)] (eO [] hle0 ⟨rfl,rfl⟩ [6])
end
section
open Go.RowKit Go.Maps aR ak
attribute [local irreducible] ai aQ ah aj
theorem Dn {β:Bs} (S:aK) (L:HL) (f:Nat) (hI:Inv S) (d:Nat) (hd:Live S.idx ⟨d,2⟩) (path:ByteArray) (hsz:path.size<=1048576) (hg:qW β) :
 Spec Tryz.prog β 32 #[vP f,vP (L.b d),.string path] [.abs (ax (ct S.O L)),.abs (ax (di S.O L))] (λv l=>v=EK L (j4 S.O d path)/\l=[.abs (ax (ct S.O L)),.abs (ax (di S.O L))]):=by
 have hkd:(obj S.O d).kind=2:=hI.kind hd
 obtain⟨ps,hps⟩:∃ps,ps=aM path:=⟨_,rfl⟩
 have hpl:1<=ps.length/\ps.length<=1048577:=by rw [hps,Ax];have:=wY path;omega
 have Uh:∀q,q<ps.length->(pc ps q).size<=1048576:=λq hq=>Nat.le_trans (DS (hps ▸ Ms hq)) hsz
 refine SE Tryz.func32 Tryz.ntmps32 (λR=>SR (jK 3 [] [] (NS (jK 1 [19] [] (gX [] (TD hg path hsz hps) (λb1=>jK 1 [9] [] (NN (SQ (jK 3 [21,22,23] [] (NN (ah.block (lJ (λ(j:Nat)=>(j<=ps.length)/\(∀q,q<j->aS (pc ps q))) (λ(j:Nat)=>ps.length-j) (λ(j:Nat)=>[(1,vP (L.b d)),(9,.slice (some ⟨b1,0,none⟩) (ps.length) (ps.length)),(21,.slice (some ⟨b1,0,none⟩) (ps.length) (ps.length)),(22,vI ↑ps.length),(23,vI ↑j)]) (λ(j:Nat)=>[pO S.O L,pE S.O L,.abs (aq 9 1 (some ⟨b1,0,none⟩) ps.length ps.length (j7 ps)),.abs R]) 0 [1,2,0,3] (⟨Nat.zero_le _,λq h=>absurd h (Nat.not_lt_zero q)⟩) ?_))))))))))))
 rintro j ⟨hj,hgd⟩
 refine SR (jK 1 [24] [] (NN (ah.seq (cP ((((j:Nat):Int):Int)<(((ps.length:Nat):Int):Int)) (λpR=>ah.skip (NX (ah.seq (ah.block (SR (jK 3 [11] [(0,p_ ⟨[],some j,none,none,some (.pointer (some ⟨b1,j,none⟩))⟩ [(Value.pointer (some ⟨b1,0+j*1,none⟩))=(.pointer (some ⟨b1,j,none⟩)),((j:Nat):Int)=((j:Nat):Int),j<ps.length,(⟨b1,0,none⟩:Addr).spot=none] ⟨by simp,rfl,by omega,rfl,trivial⟩),(1,p_ ⟨[.view 2 (.string (pc ps j))],none,none,none,none⟩ [(∀F w,(aq 9 1 (some ⟨b1,0,none⟩) ps.length ps.length (j7 ps)).h F w->w.cell? ⟨b1,j,none⟩=some (.string (pc ps j)))] ⟨aq.cell (Ay (by omega)),trivial⟩)] (NS (jK 1 [27] [] (gE [] (wi (pc ps j) (by have:=Uh j (by omega);omega)) (jK 1 [29] [] (NN (cN (aS (pc ps j)) (λyZ=>SR (jK 3 [6,7,8] [] (NN (ah.ret (aj.dm (aj.aG (aj.aG (aj.dm (aj.aG (RT _ [0,1,3] (⟨congrArg (EK L) (Eq.symm (show j4 S.O d path=.error 95 from if_neg (λh=>yZ (Az.1 (hps ▸ h) j (by omega))))),rfl⟩))))))))))) (λyZ=>ah.skip (BX (ah.region (jK 2 [23] [(0,wJ ((j:Int)+1) (↑(j+1)))] (NL (tJ ((j+1)) [0,1,2,3] (⟨by omega,λq hq=>(Nat.lt_succ_iff_lt_or_eq.1 hq).elim (hgd q) (λe=>e ▸ yZ)⟩))))))))))))))))))) (λpR=>XX (SR ?_))))))
 have hall:∀p∈ps,aS p:=Az.2 (λq hq=>hgd q (by omega))
 refine jK 4 [12] [(2,wJ ((ps.length:Int)-1) (↑(ps.length-1)))] (NN (SQ (jK 5 [36,37,38] [(2,xP (ps.length-1) ((ps.length-1)<=ps.length))] (NN (ah.block (lJ (λ(j,e)=>(j<=ps.length-1)/\(Live S.idx ⟨e,2⟩)/\(mM S.O d ps=mM S.O e (ps.drop j))) (λ(j,e)=>ps.length-1-j) (λ(j,e)=>[(1,vP (L.b e)),(9,.slice (some ⟨b1,0,none⟩) (ps.length) (ps.length)),(12,vI ↑(ps.length-1)),(36,.slice (some ⟨b1,0,none⟩) ((ps.length-1)) (ps.length)),(37,vI ↑(ps.length-1)),(38,vI ↑j)]) (λ(j,e)=>[pO S.O L,pE S.O L,.abs (aq 9 1 (some ⟨b1,0,none⟩) ps.length ps.length (j7 ps)),.abs R]) (0,d) [0,1,2,3] (⟨Nat.zero_le _,hd,by rw [List.drop_zero]⟩) ?_))))))
 rintro⟨j,e⟩ ⟨hj,hle,hw⟩
 have hke:(obj S.O e).kind=2:=hI.kind hle
 refine SR (jK 1 [39] [] (NN (ah.seq (cP ((((j:Nat):Int):Int)<((((ps.length-1):Nat):Int):Int)) (λqB=>?_) (λqB=>?_)))))
 ·have sQ:(pc ps j).size<=1048576:=Uh j (by omega)
  have hee:(obj S.O e).af.length<=8192:=hI.iY hle
  refine ah.skip (NX (ah.seq (ah.block (SR (jK 3 [14] [(0,p_ ⟨[],some j,none,none,some (.pointer (some ⟨b1,j,none⟩))⟩ [(Value.pointer (some ⟨b1,0+j*1,none⟩))=(.pointer (some ⟨b1,j,none⟩)),((j:Nat):Int)=((j:Nat):Int),j<(ps.length-1),(⟨b1,0,none⟩:Addr).spot=none] ⟨by simp,rfl,by omega,rfl,trivial⟩),(1,p_ ⟨[.view 2 (.string (pc ps j))],none,none,none,none⟩ [(∀F w,(aq 9 1 (some ⟨b1,0,none⟩) ps.length ps.length (j7 ps)).h F w->w.cell? ⟨b1,j,none⟩=some (.string (pc ps j)))] ⟨aq.cell (Ay (by omega)),trivial⟩)] (NN (ah.seq ?_)))))))
  rcases hI.pV hle (pc ps j) with hlk|⟨tk,hlk,hlv⟩|⟨tk,hlk,hlv⟩|⟨tk,hlk,hlv⟩
  ·exact ah.region (jK 5 [45,46] [(3,v_ 0 (bG L hke))] (j6 1 hke hlk (NN (ah.block (SR (jK 1 [48] [] (NN (CT (SR (jK 1 [] [] (NS (jK 3 [6,7,8] [] (NN (ah.ret (aj.dm (aj.dm (aj.aG (aj.aG (aj.dm (aj.aG (RT _ [0,1,3] (⟨congrArg (EK L) (Eq.symm (show j4 S.O d path=.error 170 from (show j4 S.O d path=mM S.O d ps by unfold j4;rw [←hps];exact if_pos hall).trans (hw.trans ((x5 (by omega)).trans (by rw [hlk]<;>rfl))))),rfl⟩))))))))))))))))))))))
  ·have hkt:(obj S.O tk).kind=1:=hI.kind hlv
   exact ah.region (jK 5 [45,46] [(3,v_ 0 (bG L hke))] (j6 1 hke hlk (NN (ah.block (SR (jK 1 [48] [] (NN (CF (SR (jK 3 [50,51] [] (NN (CF (SR (jK 3 [53,54] [] (NN (CT (SR (jK 1 [] [] (NS (jK 3 [6,7,8] [] (eN ⟨congrArg (EK L) (Eq.symm (show j4 S.O d path=.error 173 from (show j4 S.O d path=mM S.O d ps by unfold j4;rw [←hps];exact if_pos hall).trans (hw.trans ((x5 (by omega)).trans (by rw [hlk]<;>rfl))))),rfl⟩ [0,1,3])))))))))))))))))))))
  ·have hkt:(obj S.O tk).kind=2:=hI.kind hlv
   exact ah.region (jK 5 [45,46] [(3,v_ 0 (bG L hke))] (j6 1 hke hlk (NN (ah.block (SR (jK 1 [48] [] (NF (SR (jK 3 [50,51] [] (NF (SR (jK 3 [53,54] [] (NF (SR (jK 3 [56,57] [] (NT (SR (jK 1 [18] [] (NN (ah.region (jK 2 [1] [] (LX (ah.region (jK 2 [38] [(0,wJ ((j:Int)+1) (↑(j+1)))] (NL (tJ ((j+1),tk) [0,1,2,3] (⟨by omega,hlv,hw.trans ((x5 (by omega)).trans (by rw [hlk]<;>rfl))⟩)))))))))))))))))))))))))))
  have hkt:(obj S.O tk).kind=3:=hI.kind hlv
  exact ah.region (jK 5 [45,46] [(3,v_ 0 (bG L hke))] (j6 1 hke hlk (NN (ah.block (SR (jK 1 [48] [] (NF (SR (jK 3 [50,51] [] (NT (SR (jK 1 [] [] (NS (jK 3 [6,7,8] [] (eN ⟨congrArg (EK L) (Eq.symm (show j4 S.O d path=.error 174 from (show j4 S.O d path=mM S.O d ps by unfold j4;rw [←hps];exact if_pos hall).trans (hw.trans ((x5 (by omega)).trans (by rw [hlk]<;>rfl))))),rfl⟩ [0,1,3])))))))))))))))
 have ej:j=ps.length-1:=by omega
 exact XX (SQ (jK 5 [64] [(4,v_ 0 (qV L hke))] (NN (ah.cond (b:=(obj S.O e).gone) (λ_=>by kernel_rfl) (λTb=>zR ⟨congrArg (EK L) (Eq.symm ((show j4 S.O d path=mM S.O d ps by unfold j4;rw [←hps];exact if_pos hall).trans (hw.trans ((Jp (by omega)).trans (if_pos Tb))))),rfl⟩ [0,1,3]) (λTb=>KX (ah.seq (rQ (jQ 8 [6,7,8] [(3,p_ ⟨[],some (ps.length-1),none,none,some (.pointer (some ⟨b1,(ps.length-1),none⟩))⟩ [(Value.pointer (some ⟨b1,0+(ps.length-1)*1,none⟩))=(.pointer (some ⟨b1,(ps.length-1),none⟩)),(((ps.length-1):Nat):Int)=(((ps.length-1):Nat):Int),(ps.length-1)<ps.length,(⟨b1,0,none⟩:Addr).spot=none] ⟨by simp,rfl,by omega,rfl,trivial⟩),(4,p_ ⟨[.view 2 (.string (pc ps (ps.length-1)))],none,none,none,none⟩ [(∀F w,(aq 9 1 (some ⟨b1,0,none⟩) ps.length ps.length (j7 ps)).h F w->w.cell? ⟨b1,(ps.length-1),none⟩=some (.string (pc ps (ps.length-1))))] ⟨aq.cell (Ay (by omega)),trivial⟩)] (NQ (NX (ah.ret (RT (.tuple #[vP (L.b e),.string (pc ps (ps.length-1)),vI 0]) [0,1,3] (⟨by rw [←ej];exact congrArg (EK L) (Eq.symm (show j4 S.O d path=.ok (e,pc ps j) from (show j4 S.O d path=mM S.O d ps by unfold j4;rw [←hps];exact if_pos hall).trans (hw.trans ((Jp (by omega)).trans (if_neg (by rw [Tb];exact Bool.false_ne_true)))))),rfl⟩)))))))))))))
end
section
open Go.RowKit Go.Maps aR ak
attribute [local irreducible] ai aQ ah aj
theorem YO {β:Bs} (S:aK) (L:HL) (f m t:Nat) (hI:Inv S) (root:Int) (hrw:(Lit.int .i64 root).wf=true) (a:mK) (Uh:a.path.size<=1048576) (XA:a.to.size<=1048576) (hxz:a.text.size<=1048576) (hg:qW β) :
 Spec Tryz.prog β 10 #[vP f,vI (root),.agg #[vI (a.at_),vI (a.op),.string a.path,.string a.to,.string a.text]] [.blk f [vI (S.X.cN),vI (S.X.cB),vI (S.X.cH),vI (S.X.cS),vI (S.X.cZ),.map (some m),vP t,vI (S.X.last),vI (S.X.af),vI (S.X.used)] 72,.abs (aY Tryz.prog 3 m (br (bw L S.idx)) S.idx.length),.abs (cX 140 t S.X.cH S.ar (bw L S.us)),.abs (ax (ct S.O L)),.abs (ax (bQ S.O L)),.abs (ax (di S.O L))] (λv l=>∃L2,v=vI (bP S root a).1/\l=[.blk f [vI ((bP S root a).2.X.cN),vI ((bP S root a).2.X.cB),vI ((bP S root a).2.X.cH),vI ((bP S root a).2.X.cS),vI ((bP S root a).2.X.cZ),.map (some m),vP t,vI ((bP S root a).2.X.last),vI ((bP S root a).2.X.af),vI ((bP S root a).2.X.used)] 72,.abs (aY Tryz.prog 3 m (br (bw L2 (bP S root a).2.idx)) ((bP S root a).2.idx.length)),.abs (cX 140 t (bP S root a).2.X.cH ((bP S root a).2.ar) (bw L2 ((bP S root a).2.us))),.abs (ax (ct ((bP S root a).2.O) L2)),.abs (ax (bQ ((bP S root a).2.O) L2)),.abs (ax (di ((bP S root a).2.O) L2))]):=by
 have hX:=hI.hX
 refine SE Tryz.func10 Tryz.ntmps10 (λR=>SR (jB 2 [5] (λb1=>.blk b1 [vI (a.at_),vI (a.op),.string a.path,.string a.to,.string a.text] 50) (λb1=>NZ (jK 4 [25] [(1,a_ 7 b1)] (sP 25 ((a.op:Int)<(1:Int)) (λoC=>jK 4 [29] [] (NT (zR ⟨L,by rw [show (bP S root a)=(230,S) by unfold bP;exact if_pos (by omega)]<;>exact⟨rfl,rfl⟩⟩))) (λoC=>jK 4 [29] [(1,a_ 7 b1)] (NN (cP ((a.op:Int)>(7:Int)) (λyZ=>zR ⟨L,by rw [show (bP S root a)=(230,S) by unfold bP;exact if_pos (by omega)]<;>exact⟨rfl,rfl⟩⟩) (λyZ=>KX (ah.seq ?_))))))))))
 rcases hI.Zp root with hix|⟨tk,hix,hlv⟩|⟨tk,hix,hlv⟩|⟨tk,hix,hlv⟩
 ·exact ah.region (jK 5 [33,34] [(3,a_ 0 f)] (ai.ig 1 (d:=(some 35)) (t:=66) (K:=3) (E:=70) (b:=m) (n:=S.idx.length) (f:=(br (bw L S.idx))) (x:=(.tmp 33)) (ix:=(.tmp 34)) (key:=.int .i64 (root)) (z:=.nilIface) (kl:=(.int .i64 root)) (r:=none) (λ_=>by kernel_rfl) (by kernel_rfl) (λ_=>by kernel_rfl) (λ_=>by kernel_rfl) gH Tryz.underlying66 (λ_=>by kernel_rfl) (lu hrw) (by rw [ij,hix];rfl) (jK 1 [7] [] (NZ (jK 2 [37] [] (NT (zR ⟨L,by rw [show (bP S root a)=(141,S) by unfold bP;rw [if_neg (by omega),hix]]<;>exact⟨rfl,rfl⟩⟩)))))))
 ·have hkt:(obj S.O tk).kind=1:=hI.kind hlv
  exact ah.region (jK 5 [33,34] [(3,a_ 0 f)] (ai.ig 1 (d:=(some 35)) (t:=66) (K:=3) (E:=70) (b:=m) (n:=S.idx.length) (f:=(br (bw L S.idx))) (x:=(.tmp 33)) (ix:=(.tmp 34)) (key:=.int .i64 (root)) (z:=.nilIface) (kl:=(.int .i64 root)) (r:=(some (eG L ⟨tk,1⟩))) (λ_=>by kernel_rfl) (by kernel_rfl) (λ_=>by kernel_rfl) (λ_=>by kernel_rfl) gH Tryz.underlying66 (λ_=>by kernel_rfl) (lu hrw) (by rw [ij,hix];rfl) (jK 1 [7] [] (NZ (jK 2 [37] [] (NF (KX (SR (jK 7 [8,9] [] (NZ (jK 2 [44] [] (NT (zR ⟨L,by rw [show (bP S root a)=(173,S) by unfold bP;rw [if_neg (by omega),hix];simp only;exact if_neg (by simp)]<;>exact⟨rfl,rfl⟩⟩)))))))))))))
 ·have hkt:(obj S.O tk).kind=2:=hI.kind hlv
  refine ah.region (jK 5 [33,34] [(3,a_ 0 f)] (ai.ig 1 (d:=(some 35)) (t:=66) (K:=3) (E:=70) (b:=m) (n:=S.idx.length) (f:=(br (bw L S.idx))) (x:=(.tmp 33)) (ix:=(.tmp 34)) (key:=.int .i64 (root)) (z:=.nilIface) (kl:=(.int .i64 root)) (r:=(some (eG L ⟨tk,2⟩))) (λ_=>by kernel_rfl) (by kernel_rfl) (λ_=>by kernel_rfl) (λ_=>by kernel_rfl) gH Tryz.underlying66 (λ_=>by kernel_rfl) (lu hrw) (by rw [ij,hix];rfl) (jK 1 [7] [] (NZ (jK 2 [37] [] (NF (KX (SR (jK 7 [8,9] [] (NZ (jK 2 [44] [] (NF (KX (SR (jK 4 [46,47,49] [(3,a_ 7 b1)] ?_)))))))))))))))
  rcases uO hI hlv a.path with ⟨e,lX,hne⟩|⟨d,name,lX,hd,ji,hgn⟩
  ·exact gE [3,5] ((by have h:=Dn (β:=β) S L f hI tk hlv a.path Uh hg;rw [lX] at h;exact h)) (jK 7 [10,11,12] [] (NZ (jK 2 [55] [] (NN (cN ((e:Int)=(0:Int)) (λWO=>zR ⟨L,by rw [show (bP S root a)=(e,S) by unfold bP;rw [if_neg (by omega),hix];simp only;rw [if_pos trivial,lX]]<;>exact⟨rfl,rfl⟩⟩ [2,3,4,0,5,1,6]) (λWO=>absurd WO hne))))))
  have hkd:(obj S.O d).kind=2:=hI.kind hd
  have hsz:name.size<=1048576:=Jo hgn
  refine gE [3,5] ((by have h:=Dn (β:=β) S L f hI tk hlv a.path Uh hg;rw [lX] at h;exact h)) (jK 7 [10,11,12] [] (NZ (jK 2 [55] [] (NF (KX (SQ (jK 2 [58] [(1,a_ 7 b1)] (NN (ah.block (SR (jK 2 [59] [] (NN (cP ((a.op:Int)=(1:Int)) (λyV=>?_) (λyV=>?_))))))))))))))
  ·refine SQ (jK 3 [61,62,63] [] (gE [2,3,1,0] (x3 S L f m t hI d hd name hsz) (jK 1 [12] [] (NS (jK 2 [66] [] (NN (cN (((dH S.X S.O S.idx d name):Int)=(0:Int)) (λh0=>zR ⟨L,by rw [show (bP S root a)=(dH S.X S.O S.idx d name,S) by unfold bP;rw [if_neg (by omega),hix];simp only;rw [if_pos trivial,lX];simp only;unfold kD;rw [if_pos (by omega)];unfold pu;exact if_neg h0]<;>exact⟨rfl,rfl⟩⟩ [0,1,4,3,5,2,6]) (λh0=>?_))))))))
   have hno:=rY h0
   refine KX (SR (jK 1 [68] [] (gE [0] (xZ S.X f m t hX 420) (jB 2 [71] (λb2=>.blk b2 [vI (S.X.last+1),vI (420),vI 0,vI 0,vI (S.X.cS),vI (S.X.cZ),vI 0,vI 0,.bool false,.slice none (0) (0)] 81) (λb2=>?_)))))
   obtain⟨L2,hL2⟩:∃L2:HL,L2=L.put (aE S.X) b2 0 none 0:=⟨_,rfl⟩
   have hfr:=hI.toInv0.fresh
   refine ai.mem (λw hS=>hS.xC hL2 hfr (o:=(aZ S.X 1 420)) (i:=3) (j:=8) (ix:=[0,1,2,4,5,6,7]) rfl rfl (by kernel_rfl) rfl (by show (1:Int)≠0;decide) ((jH (L:=L2) (k:=(aE S.X)) (o:=(aZ S.X 1 420)) rfl).trans (by rw [show L2.dA (aE S.X)=none by rw [hL2];exact if_pos rfl,show L2.dC (aE S.X)=0 by rw [hL2];exact if_pos rfl];rfl)) rfl) (ai.dX [(3,pE (ay S.O (aE S.X) (λ_=>(aZ S.X 1 420))) L2)] (λw hS=>hS.yO hL2 hfr (o:=(aZ S.X 1 420)) (i:=3) rfl (by show (1:Int)≠2;decide)) (ai.mem (λw hS=>hS.kO (e:=5) (size:=1)) (ai.mem (λw hS=>hS.PJ hL2 (o:=(aZ S.X 1 420)) (i:=5) (j:=8) (ix:=[0,1,2,3,4,6,7]) rfl rfl (by kernel_rfl) rfl rfl rfl) (ai.dX [(3,.abs (aY Tryz.prog 3 m (br (bw L2 S.idx)) S.idx.length)),(5,.abs (cX 140 t S.X.cH S.ar (bw L2 S.us)))] (λw hS=>by rw [jm hL2 hfr.idx,jm hL2 hfr.us];exact hS) (jK 1 [13] [] (NS (jK 5 [72,73,74,76] [] (gE [2,3,1,4] ((by have h:=vF (β:=β) S L2 f m t hI.toInv0 d hd name hsz hno (aZ S.X 1 420) rfl (by simp [aZ]) rfl (tY h0);rw [zE hL2 (hI.yN hd),rX hL2] at h;exact h)) (NS (ai.dX [(4,.abs (ax (bQ ((dr S d name (aZ S.X 1 420)).O) L2)))] (λw hS=>by rw [show bQ ((dr S d name (aZ S.X 1 420)).O) L2=bQ (ay S.O (aE S.X) (λ_=>(aZ S.X 1 420))) L2 from jJ];exact hS) ?_))))))))))
   have su:Inv (dr S d name (aZ S.X 1 420)):=hI.CX hd ji hgn h0 (.inl rfl) ⟨by decide,by decide⟩ (.inl ⟨by decide,rfl⟩)
   have R8:Live (dr S d name (aZ S.X 1 420)).idx ⟨(aE S.X),1⟩:=K1 hI (o:=(aZ S.X 1 420))
   exact jK 4 [78,79,81] [(3,a_ 7 b1)] (ai.AA (d:=(some 82)) (t1:=9) (t2:=46) (e:=5) (x:=(.tmp 81)) (s:=a.text) (λ_=>by kernel_rfl) (λ_=>by kernel_rfl) Tryz.underlying9 Tryz.underlying46 Tryz.underlying5 (λb3 c4 acS=>gX [8,0,1,5,2,4,3] ((by have h:=Gi (β:=β) (dr S d name (aZ S.X 1 420)) L2 f m t su (aE S.X) R8 (some ⟨b3,0,none⟩) c4 a.text.data.toList (by rw [Array.length_toList];have:a.text.data.size=a.text.size:=rfl;omega) acS;rw [Fh hL2] at h;exact h)) (λL3=>NS (jK 1 [6] [] (eN ⟨L3,by rw [show (bP S root a)=(0,(dL (dr S d name (aZ S.X 1 420)) (aE S.X) a.text.data.toList).2.2) by unfold bP;rw [if_neg (by omega),hix];simp only;rw [if_pos trivial,lX];simp only;unfold kD;rw [if_pos (by omega)];unfold pu;exact if_pos h0]<;>exact⟨rfl,rfl⟩⟩)))))
  refine SR (jK 2 [84] [] (NN (cP ((a.op:Int)=(2:Int)) (λZE=>SR (jK 3 [86,87,88] [] (gX [2,3,4,0,5,1] (Jk S L f m t hI d hd name hsz 493) (λL2=>jK 1 [6] [] (eN ⟨L2,by rw [show (bP S root a)=((jI S d name 493).1,(jI S d name 493).2) by unfold bP;rw [if_neg (by omega),hix];simp only;rw [if_pos trivial,lX];simp only;unfold kD;rw [if_neg (by omega)];exact if_pos (by omega)]<;>exact⟨rfl,rfl⟩⟩))))) (λZE=>SR (jK 2 [90] [] (NN (cP ((a.op:Int)=(3:Int)) (λsV=>SR (jK 5 [92,93,94,96] [(4,a_ 7 b1)] (gX [2,3,4,0,5,1] (DQ S L f m t hI d hd name hsz a.text hxz) (λL2=>jK 1 [6] [] (eN ⟨L2,by rw [show (bP S root a)=((fY S d name a.text).1,(fY S d name a.text).2) by unfold bP;rw [if_neg (by omega),hix];simp only;rw [if_pos trivial,lX];simp only;unfold kD;rw [if_neg (by omega)];rw [if_neg (by omega)];exact if_pos (by omega)]<;>exact⟨rfl,rfl⟩⟩))))) (λsV=>SR (jK 2 [98] [] (NN (cP ((a.op:Int)=(4:Int)) (λSp=>SR (jK 3 [100,101,102] [] (gX [2,3,4,0,5,1] (Gg S L f m t hI d hd name hsz) (λL2=>jK 1 [6] [] (eN ⟨L2,by rw [show (bP S root a)=((eU S d name).1,(eU S d name).2) by unfold bP;rw [if_neg (by omega),hix];simp only;rw [if_pos trivial,lX];simp only;unfold kD;rw [if_neg (by omega)];rw [if_neg (by omega)];rw [if_neg (by omega)];exact if_pos (by omega)]<;>exact⟨rfl,rfl⟩⟩))))) (λSp=>SR (jK 2 [104] [] (NN (cP ((a.op:Int)=(5:Int)) (λacT=>SR (jK 3 [106,107,108] [] (gX [2,3,4,0,5,1] (Jl S L f m t hI d hd name hsz) (λL2=>jK 1 [6] [] (eN ⟨L2,by rw [show (bP S root a)=((fT S d name).1,(fT S d name).2) by unfold bP;rw [if_neg (by omega),hix];simp only;rw [if_pos trivial,lX];simp only;unfold kD;rw [if_neg (by omega)];rw [if_neg (by omega)];rw [if_neg (by omega)];rw [if_neg (by omega)];exact if_pos (by omega)]<;>exact⟨rfl,rfl⟩⟩))))) (λacT=>SR (jK 2 [110] [] (NN (cP ((a.op:Int)=(6:Int)) (λacU=>?_) (λacU=>?_))))))))))))))))))))
  ·refine SR (jK 4 [113,114,116] [(3,a_ 7 b1)] ?_)
   rcases uO hI hlv a.to with ⟨e2,Gs,MQ⟩|⟨to,toName,Gs,hd2,aaM,Wd⟩
   ·exact gE [0,1] ((by have h:=Dn (β:=β) S L f hI tk hlv a.to XA hg;rw [Gs] at h;exact h)) (jK 7 [14,15,16] [] (NZ (jK 2 [122] [] (NN (cN ((e2:Int)=(0:Int)) (λP5=>zR ⟨L,by rw [show (bP S root a)=(e2,S) by unfold bP;rw [if_neg (by omega),hix];simp only;rw [if_pos trivial,lX];simp only;unfold kD;rw [if_neg (by omega)];rw [if_neg (by omega)];rw [if_neg (by omega)];rw [if_neg (by omega)];rw [if_neg (by omega)];rw [if_pos (by omega)];rw [Gs]]<;>exact⟨rfl,rfl⟩⟩ [2,3,4,0,5,1,6]) (λP5=>absurd P5 MQ))))))
   have gh:(obj S.O to).kind=2:=hI.kind hd2
   have sQ:toName.size<=1048576:=Jo Wd
   exact gE [0,1] ((by have h:=Dn (β:=β) S L f hI tk hlv a.to XA hg;rw [Gs] at h;exact h)) (jK 7 [14,15,16] [] (NZ (jK 2 [122] [] (NF (KX (SR (jK 5 [124,125,126,127,128] [] (gX [2,3,4,0,5,1] (Gh S L f m t hI d hd name hsz to hd2 toName sQ) (λL2=>jK 1 [6] [] (eN ⟨L2,by rw [show (bP S root a)=((bF S d name to toName).1,(bF S d name to toName).2) by unfold bP;rw [if_neg (by omega),hix];simp only;rw [if_pos trivial,lX];simp only;unfold kD;rw [if_neg (by omega)];rw [if_neg (by omega)];rw [if_neg (by omega)];rw [if_neg (by omega)];rw [if_neg (by omega)];rw [if_pos (by omega)];rw [Gs]]<;>exact⟨rfl,rfl⟩⟩))))))))))
  refine KX (ah.seq (ah.seq ?_))
  have hel:(obj S.O d).af.length<=8192:=hI.iY hd
  have TS:=hsz
  rcases hI.pV hd name with cq|⟨ok,cq,gy⟩|⟨ok,cq,gy⟩|⟨ok,cq,gy⟩
  ·exact ah.region (jK 5 [133,134] [(3,v_ 0 (bG L hkd))] (j6 1 hkd cq (NN (ah.block (SR (jK 3 [137,138] [] (NF (SR (jK 3 [140,141] [] (NF (SR (jK 3 [143,144] [] (NF (KX (zR ⟨L,by rw [show (bP S root a)=(170,S) by unfold bP;rw [if_neg (by omega),hix];simp only;rw [if_pos trivial,lX];simp only;unfold kD;rw [if_neg (by omega)];rw [if_neg (by omega)];rw [if_neg (by omega)];rw [if_neg (by omega)];rw [if_neg (by omega)];rw [if_neg (by omega)];unfold lZ;rw [cq]]<;>exact⟨rfl,rfl⟩⟩ [2,3,4,0,5,1,6])))))))))))))))
  ·have oB:(obj S.O ok).kind=1:=hI.kind gy
   exact ah.region (jK 5 [133,134] [(3,v_ 0 (bG L hkd))] (j6 1 hkd cq (NN (ah.block (SR (jK 3 [137,138] [] (NF (SR (jK 3 [140,141] [] (NF (SR (jK 3 [143,144] [] (NT (SR (jK 1 [19] [] (NS (jK 4 [146,147,149] [(3,a_ 7 b1)] (ai.AA (d:=(some 150)) (t1:=9) (t2:=46) (e:=5) (x:=(.tmp 149)) (s:=a.text) (λ_=>by kernel_rfl) (λ_=>by kernel_rfl) Tryz.underlying9 Tryz.underlying46 Tryz.underlying5 (λb6 c7 acV=>gX [8,2,3,4,0,5,1] (Gi (β:=β) S L f m t hI ok gy (some ⟨b6,0,none⟩) c7 a.text.data.toList (by rw [Array.length_toList];have:a.text.data.size=a.text.size:=rfl;omega) acV) (λL3=>jK 5 [21] [] (NS (jK 2 [6] [] (eN ⟨L3,by rw [show (bP S root a)=((dL S ok a.text.data.toList).2.1,(dL S ok a.text.data.toList).2.2) by unfold bP;rw [if_neg (by omega),hix];simp only;rw [if_pos trivial,lX];simp only;unfold kD;rw [if_neg (by omega)];rw [if_neg (by omega)];rw [if_neg (by omega)];rw [if_neg (by omega)];rw [if_neg (by omega)];rw [if_neg (by omega)];unfold lZ;rw [cq];exact (if_neg (by simp)).trans (if_neg (by simp))]<;>exact⟨rfl,rfl⟩⟩)))))))))))))))))))))))
  ·have oB:(obj S.O ok).kind=2:=hI.kind gy
   exact ah.region (jK 5 [133,134] [(3,v_ 0 (bG L hkd))] (j6 1 hkd cq (NN (ah.block (SR (jK 3 [137,138] [] (NF (SR (jK 3 [140,141] [] (NT (SR (jK 1 [] [] (NS (jK 1 [6] [] (eN ⟨L,by rw [show (bP S root a)=(172,S) by unfold bP;rw [if_neg (by omega),hix];simp only;rw [if_pos trivial,lX];simp only;unfold kD;rw [if_neg (by omega)];rw [if_neg (by omega)];rw [if_neg (by omega)];rw [if_neg (by omega)];rw [if_neg (by omega)];rw [if_neg (by omega)];unfold lZ;rw [cq];exact (if_neg (by simp)).trans (if_pos rfl)]<;>exact⟨rfl,rfl⟩⟩ [2,3,4,0,5,1,6])))))))))))))))
  have oB:(obj S.O ok).kind=3:=hI.kind gy
  exact ah.region (jK 5 [133,134] [(3,v_ 0 (bG L hkd))] (j6 1 hkd cq (NN (ah.block (SR (jK 3 [137,138] [] (NT (SR (jK 1 [] [] (NS (jK 1 [6] [] (eN ⟨L,by rw [show (bP S root a)=(174,S) by unfold bP;rw [if_neg (by omega),hix];simp only;rw [if_pos trivial,lX];simp only;unfold kD;rw [if_neg (by omega)];rw [if_neg (by omega)];rw [if_neg (by omega)];rw [if_neg (by omega)];rw [if_neg (by omega)];rw [if_neg (by omega)];unfold lZ;rw [cq];exact if_pos rfl]<;>exact⟨rfl,rfl⟩⟩ [2,3,4,0,5,1,6]))))))))))))
 have hkt:(obj S.O tk).kind=3:=hI.kind hlv
 exact ah.region (jK 5 [33,34] [(3,a_ 0 f)] (ai.ig 1 (d:=(some 35)) (t:=66) (K:=3) (E:=70) (b:=m) (n:=S.idx.length) (f:=(br (bw L S.idx))) (x:=(.tmp 33)) (ix:=(.tmp 34)) (key:=.int .i64 (root)) (z:=.nilIface) (kl:=(.int .i64 root)) (r:=(some (eG L ⟨tk,3⟩))) (λ_=>by kernel_rfl) (by kernel_rfl) (λ_=>by kernel_rfl) (λ_=>by kernel_rfl) gH Tryz.underlying66 (λ_=>by kernel_rfl) (lu hrw) (by rw [ij,hix];rfl) (jK 1 [7] [] (NZ (jK 2 [37] [] (NF (KX (SR (jK 7 [8,9] [] (NZ (jK 2 [44] [] (NT (zR ⟨L,by rw [show (bP S root a)=(173,S) by unfold bP;rw [if_neg (by omega),hix];simp only;exact if_neg (by simp)]<;>exact⟨rfl,rfl⟩⟩)))))))))))))
end
section
open Go.RowKit Go.Maps aR ak
attribute [local irreducible] ai aQ ah aj eM
theorem aa1 {β:Bs} (A:Option Addr) (c:Nat) (xs:List nK) (hc:xs.length<=c) :
 Spec Tryz.prog β 8 #[.slice A xs.length c] [] (λv l=>∃n,n<=xs.length/\v=.slice A n c/\l=[]):=by
 exact SE Tryz.func8 Tryz.ntmps8 (λR=>SR (jK 1 [] [] (NZ (jK 3 [5] [] (NN (cP ((((xs.length:Nat):Int):Int)>(300:Int)) (λh5=>SR (jK 3 [2] [(1,p_ ⟨[],some 300,none,none,none⟩ [300=((300:Nat):Int),300<=c] ⟨rfl,by omega,trivial⟩)] (eN ⟨300,by omega,rfl,rfl⟩))) (λh5=>KX (zR ⟨xs.length,Nat.le_refl _,rfl,rfl⟩))))))))
theorem law_does (W:World) (A:Option Addr) (c:Nat) (ns:List au) (Y0:Lay) (X:FM) (hG:av (B0 W) A ns Y0) (hB:l6 ns 1048576) (A1:Option Addr) (c1:Nat) (xs:List nK) (hS:dQ (B0 W) A1 xs) (hxl:xs.length<=1048576) (hxc:xs.length<=c1) (hg:qW (B0 W)) :
 Spec Tryz.prog (B0 W) 3 #[.agg #[.slice A (ns.length) (c),vI (X.cN),vI (X.cB),vI (X.cH),vI (X.cS),vI (X.cZ)],.slice A1 (xs.length) (c1)] [] (λv _=>v=.bool true):=by
 have hle0:=B0.refl W
 refine SE Tryz.func3 Tryz.ntmps3 (λR=>SR (jB 2 [2] (λb1=>.blk b1 [.slice A (ns.length) (c),vI (X.cN),vI (X.cB),vI (X.cH),vI (X.cS),vI (X.cZ)] 30) (λb1=>NZ (jE [] (WA) ?_))))
 rintro kI _ _ cC ⟨rfl,rfl⟩
 replace hG:=hG.le cC
 replace hS:=hS.le cC
 replace hg:=hg.le cC
 replace hle0:=hle0.trans cC
 refine jK 1 [16] [] (NF (KX (ah.seq ?_)))
 by_cases ES:lI X/\aX ns
 ·refine jM [0,1,3,4,502,505,6,7,8,9,510] [1] (jG 4 [1,2,19,22] [(1,a_ 0 b1),(3,A_ 0 b1 5)] (kL [2] [] (uW (β:=kI) A c ns Y0 hG (Dj hB) (Dk hB)) ?_ (by rintro _ _ ⟨B,cp,rfl,rfl⟩;kernel_rfl)))
  rintro _ _ ⟨B,cp,rfl,rfl⟩
  refine kL [7] [0] (Ud (β:=kI) ES.1 ES.2 B cp hB) ?_ (by rintro _ _ ⟨N,f,m,t,L,rfl,rfl⟩;kernel_rfl)
  rintro _ _ ⟨N,f,m,t,L,rfl,rfl⟩
  refine jG 4 [1,2,5,25] [] (eM.last (by kernel_rfl) (jK 1 [6] [] (NL (aj.np (NX (SR (jK 4 [28,30] [(1,a_ 7 b1),(3,A_ 7 b1 5)] (ai.JI (d:=(some 31)) (R:=((pA f m t L N.1)++[.abs R,.blk b1 [.slice A (ns.length) (c),vI (X.cN),vI (X.cB),vI (X.cH),vI (X.cS),vI (X.cZ)] 30])) (pk:=[0,1,2,3,4,5,6,7]) (λ_=>by kernel_rfl) (Wu N ES.1 ES.2 A c hG hB) rfl (by kernel_rfl) ?_))))))))
  rintro y4 _ _ dg ⟨Y,rfl,rfl,hR⟩
  replace hG:=hG.le dg
  replace hS:=hS.le dg
  replace hg:=hg.le dg
  replace hle0:=hle0.trans dg
  refine jN 6 [7,8] (λb4=>[(4,A_ 8 b4 12)]) (λ_=>[]) (λb4=>.blk b4 (rV (toR N.1 []) Y) 42) (λb4=>NZ (jK 7 [40] [] (NF (KX (SR (jK 1 [48] [] (gL [] (aa1 A1 c1 xs hxc) ?_)))))))
  rintro _ _ ⟨n,hn,rfl,rfl⟩
  refine jK 1 [1] [] (NZ (jK 1 [9] [] (NN (ah.block (lB (λ(i,b,S,g,L,Y)=>b) (λ(i,b,S,g,L,Y)=>(i<=n)/\((B0 W).le b)/\(dQ b A1 xs)/\(qW b)/\(Pair S g)/\(bS b (toR S g) Y)) (λ(i,b,S,g,L,Y)=>n-i) (λ(i,b,S,g,L,Y)=>[(1,.slice A1 (n) (c1)),(5,vP f),(7,vP b4),(9,vI ↑i)]) (λ(i,b,S,g,L,Y)=>[.blk b1 [.slice A (ns.length) (c),vI (X.cN),vI (X.cB),vI (X.cH),vI (X.cS),vI (X.cZ)] 30,.blk b4 (rV (toR S g) Y) 42,pF f m t S.X,pI m L S.idx,pT t S.X.cH S.ar L S.us,pO S.O L,pD S.O L,pE S.O L,.abs R]) (0,y4,N.1,[],L,Y) [7,8,0,1,2,3,4,5,6] (⟨Nat.zero_le _,hle0,hS,hg,.start N ES.2,hR⟩) ?_)))))
  rintro⟨i,b,S,g,L,Y⟩ ⟨hi,hle0,hS,hg,hp,hR⟩
  refine SQ (jK 4 [53] [] (NN (cP ((((i:Nat):Int):Int)<(((n:Nat):Int):Int)) (λDu=>KX (ah.seq (ah.block (SR (jN 6 [10] (λb5=>[(2,x_ i n (dQ.hd hS (i:=i) (by omega))),(3,p_ ⟨[.old (.int .i64 ((dh xs i).c.op)),.old (.int .i64 ((dh xs i).c.handle)),.old (.int .i64 ((dh xs i).c.other)),.old (.string (dh xs i).c.name),.old (.string (dh xs i).c.text),.old (.slice (dh xs i).c.dA ((dh xs i).c.data.length) ((dh xs i).c.dC)),.old (.int .i64 ((dh xs i).c.mode)),.old (.int .i64 ((dh xs i).c.uid)),.old (.int .i64 ((dh xs i).c.gid)),.old (.int .i64 ((dh xs i).c.sec)),.old (.int .i64 ((dh xs i).c.nano)),.old (.int .i64 ((dh xs i).c.code)),.old (.int .i64 ((dh xs i).c.answer)),.old (.int .i64 ((dh xs i).a.at_)),.old (.int .i64 ((dh xs i).a.op)),.old (.string (dh xs i).a.path),.old (.string (dh xs i).a.to),.old (.string (dh xs i).a.text),.old (.int .i64 ((dh xs i).root))],none,none,none,none⟩ [(Rd b ⟨(aV A1),aU A1+i*19+18,none⟩ (.int .i64 ((dh xs i).root))),(Rd b ⟨(aV A1),aU A1+i*19+17,none⟩ (.string (dh xs i).a.text)),(Rd b ⟨(aV A1),aU A1+i*19+16,none⟩ (.string (dh xs i).a.to)),(Rd b ⟨(aV A1),aU A1+i*19+15,none⟩ (.string (dh xs i).a.path)),(Rd b ⟨(aV A1),aU A1+i*19+14,none⟩ (.int .i64 ((dh xs i).a.op))),(Rd b ⟨(aV A1),aU A1+i*19+13,none⟩ (.int .i64 ((dh xs i).a.at_))),(Rd b ⟨(aV A1),aU A1+i*19+12,none⟩ (.int .i64 ((dh xs i).c.answer))),(Rd b ⟨(aV A1),aU A1+i*19+11,none⟩ (.int .i64 ((dh xs i).c.code))),(Rd b ⟨(aV A1),aU A1+i*19+10,none⟩ (.int .i64 ((dh xs i).c.nano))),(Rd b ⟨(aV A1),aU A1+i*19+9,none⟩ (.int .i64 ((dh xs i).c.sec))),(Rd b ⟨(aV A1),aU A1+i*19+8,none⟩ (.int .i64 ((dh xs i).c.gid))),(Rd b ⟨(aV A1),aU A1+i*19+7,none⟩ (.int .i64 ((dh xs i).c.uid))),(Rd b ⟨(aV A1),aU A1+i*19+6,none⟩ (.int .i64 ((dh xs i).c.mode))),(Rd b ⟨(aV A1),aU A1+i*19+5,none⟩ (.slice (dh xs i).c.dA ((dh xs i).c.data.length) ((dh xs i).c.dC))),(Rd b ⟨(aV A1),aU A1+i*19+4,none⟩ (.string (dh xs i).c.text)),(Rd b ⟨(aV A1),aU A1+i*19+3,none⟩ (.string (dh xs i).c.name)),(Rd b ⟨(aV A1),aU A1+i*19+2,none⟩ (.int .i64 ((dh xs i).c.other))),(Rd b ⟨(aV A1),aU A1+i*19+1,none⟩ (.int .i64 ((dh xs i).c.handle))),(Rd b ⟨(aV A1),aU A1+i*19,none⟩ (.int .i64 ((dh xs i).c.op)))] ⟨dQ.rd hS (i:=i) (by omega) (j:=18) rfl,dQ.rd hS (i:=i) (by omega) (j:=17) rfl,dQ.rd hS (i:=i) (by omega) (j:=16) rfl,dQ.rd hS (i:=i) (by omega) (j:=15) rfl,dQ.rd hS (i:=i) (by omega) (j:=14) rfl,dQ.rd hS (i:=i) (by omega) (j:=13) rfl,dQ.rd hS (i:=i) (by omega) (j:=12) rfl,dQ.rd hS (i:=i) (by omega) (j:=11) rfl,dQ.rd hS (i:=i) (by omega) (j:=10) rfl,dQ.rd hS (i:=i) (by omega) (j:=9) rfl,dQ.rd hS (i:=i) (by omega) (j:=8) rfl,dQ.rd hS (i:=i) (by omega) (j:=7) rfl,dQ.rd hS (i:=i) (by omega) (j:=6) rfl,dQ.rd hS (i:=i) (by omega) (j:=5) rfl,dQ.rd hS (i:=i) (by omega) (j:=4) rfl,dQ.rd hS (i:=i) (by omega) (j:=3) rfl,dQ.rd hS (i:=i) (by omega) (j:=2) rfl,dQ.rd hS (i:=i) (by omega) (j:=1) rfl,dQ.rd hS (i:=i) (by omega) (j:=0) rfl,trivial⟩),(5,A_ 9 b5 19)]) (λ_=>[]) (λb5=>.blk b5 [vI ((dh xs i).c.op),vI ((dh xs i).c.handle),vI ((dh xs i).c.other),.string (dh xs i).c.name,.string (dh xs i).c.text,.slice (dh xs i).c.dA ((dh xs i).c.data.length) ((dh xs i).c.dC),vI ((dh xs i).c.mode),vI ((dh xs i).c.uid),vI ((dh xs i).c.gid),vI ((dh xs i).c.sec),vI ((dh xs i).c.nano),vI ((dh xs i).c.code),vI ((dh xs i).c.answer),vI ((dh xs i).a.at_),vI ((dh xs i).a.op),.string (dh xs i).a.path,.string (dh xs i).a.to,.string (dh xs i).a.text,vI ((dh xs i).root)] 52) (λb5=>NZ (jK 4 [63] [(2,a_ 9 b5)] (NN (cN (((dh xs i).a.op:Int)=(0:Int)) (λh63=>?_) (λh63=>?_)))))))))) (λDu=>XX (SR (jK 1 [4] [] (NN (ah.ret (aj.YQ (v:=.bool true) (l:=[]) (cG:=[]) [] [8] hle0 (λ_=>by kernel_rfl) trivial rfl (by kernel_rfl) (rfl))))))))))
  ·refine SR (jK 5 [65,67,69] [(0,A_ 1 b4 12),(2,a_ 9 b5),(4,A_ 9 b5 5)] (jE [] (Wv hp hR (dh xs i).root (dh xs i).a (hS.st i (by omega)).path (hS.st i (by omega)).to (hS.st i (by omega)).txt) ?_))
   rintro LJ _ _ pJ ⟨g2,Y2,rfl,rfl,hp2,Gj⟩
   replace hS:=hS.le pJ
   replace hg:=hg.le pJ
   replace hR:=hR.le pJ
   replace hle0:=hle0.trans pJ
   exact jN 6 [11,12] (λb7=>[(4,A_ 10 b7 12)]) (λ_=>[]) (λb7=>.blk b7 (rV (toR (bP S (dh xs i).root (dh xs i).a).2 g2) Y2) 42) (λb7=>NZ (jK 5 [73,75,77] [(2,a_ 9 b5),(4,A_ 9 b5 5)] (gX [2,3,4,5,6,7] (YO (β:=LJ) S L f m t hp.inv (dh xs i).root (hS.st i (by omega)).rw (dh xs i).a (hS.st i (by omega)).path (hS.st i (by omega)).to (hS.st i (by omega)).txt hg) (λL2=>jK 2 [80] [(1,p_ ⟨[],none,none,none,some (.bool false)⟩ [(Value.bool (!decide (((bP S (dh xs i).root (dh xs i).a).1:Int)=((bP S (dh xs i).root (dh xs i).a).1:Int))))=(.bool false)] ⟨by simp,trivial⟩)] (NF (KX (ah.region (jC 2 [] [(0,A_ 10 b7 12),(1,A_ 7 b4 12)] [(7,(zC (rV (toR (bP S (dh xs i).root (dh xs i).a).2 g2) Y2)))] (NS (jK 2 [98,99] [(1,A_ 7 b4 12)] (gE [0,1,2,3,4,5] (Jx (β:=LJ) hp2 Y2 Gj f m t L2) (jK 1 [101] [] (NF (KX (ah.region (jK 3 [9] [(1,wJ ((i:Int)+1) (↑(i+1)))] (NL (tB ((i+1),LJ,(bP S (dh xs i).root (dh xs i).a).2,g2,L2,Y2) [6,7,0,1,2,3,4,5,8] (⟨by omega,hle0,hS,hg,hp2,Gj⟩)))))))))))))))))))
  refine SR (jK 3 [83,85] [(0,A_ 1 b4 12),(2,A_ 9 b5 13)] ?_)
  obtain⟨S2,c2,hD⟩:∃S2 c2,iH S (dh xs i).c=(S2,c2):=⟨_,_,rfl⟩
  refine jE [] (Uc hp hR hD (hS.st i (by omega)).name (hS.st i (by omega)).text (hS.st i (by omega)).data (Nat.le_trans (hS.st i (by omega)).len (by decide)) (hS.st i (by omega)).Ww) ?_
  rintro Ph _ _ lS ⟨g2,Y2,B2,p2,rfl,rfl,hp2,Gj,hB2⟩
  replace hS:=hS.le lS
  replace hg:=hg.le lS
  replace hR:=hR.le lS
  replace hle0:=hle0.trans lS
  refine jB 4 [13,87,88] (λb9=>.blk b9 (rZ) 42) (λb9=>jN 3 [14] (λb10=>[(1,A_ 10 b9 12),(2,A_ 11 b10 13)]) (λb10=>[(10,(zC (rV (toR S2 g2) Y2)))]) (λb10=>.blk b10 (aO (cF c2 B2 p2)) 48) (λb10=>NN (ah.seq (ah.seq (jM [0,1,2,5,503,504,506,507] [9,11] (jG 4 [1,5,7,9,13,89,91,94] [(2,A_ 0 b5 13),(3,A_ 1 b10 13)] (kL [10,12] [] (M4 (dh xs i).c (hS.st i (by omega)).data (hS.st i (by omega)).len) ?_ (by rintro _ _ ⟨Bx,px,rfl,rfl⟩;kernel_rfl))))))))
  rintro _ _ ⟨Bx,px,rfl,rfl⟩
  refine kL [10,12] [3,4,5,6,7,8,0] (YM (f:=f) (m:=m) (t:=t) (L:=L) hp.inv Bx px (hS.st i (by omega)).hw (hS.st i (by omega)).ow (hS.st i (by omega)).name (hS.st i (by omega)).text (hS.st i (by omega)).len hD) ?_ (by rintro _ _ ⟨L2,rfl,rfl⟩;kernel_rfl)
  rintro _ _ ⟨L2,rfl,rfl⟩
  refine kL [10,12] [6] (Wy hD Bx B2 px p2 hB2 (hS.st i (by omega)).len) ?_ (by rintro _ _ ⟨rfl,rfl⟩;kernel_rfl)
  rintro _ _ ⟨rfl,rfl⟩
  exact eM.last (by kernel_rfl) (jK 1 [96] [] (NL (aj.np (NX (CF (KX (ah.region (jC 2 [] [(0,A_ 11 b9 12),(1,A_ 8 b4 12)] [(8,(zC (rV (toR S2 g2) Y2)))] (NS (jK 2 [98,99] [(1,A_ 8 b4 12)] (gE [1,2,3,4,5,6] (Jx (β:=Ph) hp2 Y2 Gj f m t L2) (jK 1 [101] [] (NF (KX (ah.region (jK 3 [9] [(1,wJ ((i:Int)+1) (↑(i+1)))] (NL (tB ((i+1),Ph,S2,g2,L2,Y2) [7,8,0,1,2,3,4,5,9] (⟨by omega,hle0,hS,hg,hp2,Gj⟩)))))))))))))))))))
 refine jM [0,1,3,4,502,505,6,7,8,9,510] [1] (jG 4 [1,2,19,22] [(1,a_ 0 b1),(3,A_ 0 b1 5)] (kL [2] [] (uW (β:=kI) A c ns Y0 hG (Dj hB) (Dk hB)) ?_ (by rintro _ _ ⟨B,cp,rfl,rfl⟩;kernel_rfl)))
 rintro _ _ ⟨B,cp,rfl,rfl⟩
 refine kL [1] [0] (Ue (β:=kI) ES B cp hB) ?_ (by rintro _ _ ⟨rfl,rfl⟩;kernel_rfl)
 rintro _ _ ⟨rfl,rfl⟩
 refine jG 4 [1,2,5,25] [] (eM.last (by kernel_rfl) (jK 1 [6] [] (NL (aj.np (NX (SR (jK 4 [28,30] [(1,a_ 1 b1),(3,A_ 1 b1 5)] (jE [] (Wt ES A c hG hB) ?_))))))))
 rintro LK _ _ kG ⟨rfl,rfl⟩
 replace hG:=hG.le kG
 replace hS:=hS.le kG
 replace hg:=hg.le kG
 replace hle0:=hle0.trans kG
 exact jN 6 [7,8] (λb12=>[(4,A_ 2 b12 12)]) (λ_=>[]) (λb12=>.blk b12 (rZ) 42) (λb12=>NZ (jK 7 [40] [(2,p_ ⟨[],none,none,none,some (.bool false)⟩ [(Value.bool (!decide (((sR X):Int)=((sR X):Int))))=(.bool false)] ⟨by simp,trivial⟩)] (NT (SR (jK 8 [4] [(2,p_ ⟨[],none,none,none,some (.bool true)⟩ [(Value.bool (decide (((sR X):Int)=((sR X):Int))))=(.bool true)] ⟨by simp,trivial⟩),(5,J8 (((sR X):Int)=(0:Int)) (YH X))] (NN (ah.ret (aj.aG (aj.YQ (v:=.bool true) (l:=[]) (cG:=[]) [] [0] hle0 (λ_=>by kernel_rfl) trivial rfl (by kernel_rfl) (rfl))))))))))
end
section
open Go.RowKit
theorem glob_ok {W:World} (h:W.ShapedOpen Tryz.prog):qW (B0 W):=by
 obtain⟨m,hm⟩:=cell_of_shapedOpen_int (g:=0) (t:=3) (zero:=#[.int .i64 0]) (k:=.i64) h (Nat.le_of_ble_eq_true (by kernel_rfl)) (by kernel_rfl) rfl (by kernel_rfl) (by kernel_rfl) Tryz.underlying3
 exact⟨m,Ou hm,hm⟩
end
section
open Go.RowKit
def M5 (h:Array Obj) (g:Nat) (cs:List Nat):Array Obj:=h.modify g fun
 |.cells _ t frozen=>.cells (cs.map (λ(n:Nat)=>Value.int .u8 n)).toArray t frozen
 |o=>o
noncomputable def laidWorld (os:Os):World:=
 {World.holding Tryz.prog os ⟨#[],#[],[]⟩ with heap:=M5 (M5 (World.holding Tryz.prog os ⟨#[],#[],[]⟩).heap 1 Go.Pinned.utf8FirstZ) 2 ([128,191,160,191,128,159,144,191,128,143]++List.replicate 22 0)}
theorem laidWorld_met (os:Os) (args:Array Value):laidMetH Tryz.prog Rows.hfsDoesUptoRow.laid ((laidWorld os).forCall (λ_ _=>0) ⟨#[],args,[]⟩).memory:=
 laidMetH_of_parts (laidMet_of_run3 8 (by kernel_rfl) (by kernel_rfl) (by kernel_rfl)) (by kernel_rfl)
end
end Go.Proofs.YtnipofpbcggjcaaGreatDoor
