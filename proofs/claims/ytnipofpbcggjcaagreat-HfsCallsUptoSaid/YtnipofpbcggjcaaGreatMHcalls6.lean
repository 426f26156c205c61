/-
  PROVED HERE: lemmas and contracts of functions (texts of this repo, joined; what the claim does not use is left out): LD, Ns, Ds, Dt, DW, Wy, DY, Oh, Ol, DV, Pl, Sx, Dw, LB, DX.
  CONDITIONS: as the theorems say.
-/
import Derived.Test.YtnipofpbcggjcaaGreatMHcalls5
set_option maxRecDepth 100000
set_option maxHeartbeats 4000000
namespace Go.Proofs.YtnipofpbcggjcaaGreat
section
open Go.RowKit Go.Maps aX aq
attribute [local irreducible] ak aU af ai iP
theorem Nd {β:Bs} (A:Option Addr) (c:Nat) (ns:List aA) (Y:Lay) (hG:aB β A ns Y) (hl:ns.length<=1048576) (hd:∀ i,i < ns.length->(nd ns i).data.length<=1048576/\(nd ns i).ah.length<=1048576) (hwf:∀ i,i < ns.length->∀ j,j < (nd ns i).ah.length->-9223372036854775808<=(ent ns i j).id/\(ent ns i j).id<=9223372036854775807) (hnm:∀ i,i < ns.length->∀ j,j < (nd ns i).ah.length->(ent ns i j).name.size<=1048576) (ht:∀ i,i < ns.length->(nd ns i).target.size<=1048576) (X:FM) :
    cu Tryz.prog β 8 #[.agg #[.slice A (ns.length) (c)],.agg #[vI (X.cN),vI (X.cB),vI (X.cH),vI (X.cS),vI (X.cZ)]] [] (fun β' v l=>(¬ kQ X/\v=.tuple #[.agg ⟨rZ⟩,vI 179]/\l=[])\/(kQ X/\¬ aV ns/\v=.tuple #[.agg ⟨rZ⟩,vI 140]/\l=[])\/(kQ X/\aV ns/\∃ B cp K,v=.tuple #[.agg #[.slice B (ns.length) (cp),.slice none (0) (0),vI (X.cH),vI 0,.slice none (0) (0),.slice none (0) (0),vI (X.cN),vI (X.cB),vI (X.cH),vI (X.cS),vI (X.cZ),vI ((if ns.length=0 then 0 else (nd ns (ns.length - 1)).id))],vI 0]/\l=[]/\aB β' B ns K)):=by
 refine oW Tryz.func8 Tryz.ntmps8 (fun hle0 R=>?_)
 refine SR (jN 1 [2] (fun _=>[]) (fun _=>[]) (fun b1=>.blk b1 [.slice A (ns.length) (c)] 24) (fun b1=>?_))
 refine jN 1 [3] (fun _=>[]) (fun _=>[]) (fun b2=>.blk b2 [vI (X.cN),vI (X.cB),vI (X.cH),vI (X.cS),vI (X.cZ)] 28) (fun b2=>?_)
 refine jN 2 [4] (fun _=>[]) (fun _=>[]) (fun b3=>.blk b3 (rZ) 42) (fun b3=>?_)
 refine NN (af.seq (SR (jK 4 [10] [(1,a_ 2 b2)] ?_)))
 refine sP 10 ((X.cN:Int) < (0:Int)) (fun h10=>?_) (fun h10=>?_)
 ·refine jK 30 [40] [] ?_
  refine NN (CT (SR (jC 3 [5] [(1,A_ 3 b3 12)] [] ?_)))
  refine NN (af.ret (ai.aj ?_))
  exact rB _ [A_ 3 b3 12] [0] hle0 (.inl ⟨fun h=>by first|(have:=h.cN;omega)|(have:=h.cB;omega)|(have:=h.cH;omega)|exact absurd h.now (by assumption),rfl,rfl⟩)
 refine jK 5 [15] [(1,a_ 2 b2)] ?_
 refine sP 15 ((X.cN:Int) > (4096:Int)) (fun IW=>?_) (fun IW=>?_)
 ·refine jK 25 [40] [] ?_
  refine NN (CT (SR (jC 3 [5] [(1,A_ 3 b3 12)] [] ?_)))
  refine NN (af.ret (ai.aj ?_))
  exact rB _ [A_ 3 b3 12] [0] hle0 (.inl ⟨fun h=>by first|(have:=h.cN;omega)|(have:=h.cB;omega)|(have:=h.cH;omega)|exact absurd h.now (by assumption),rfl,rfl⟩)
 refine jK 5 [20] [(1,a_ 2 b2)] ?_
 refine sP 20 ((X.cB:Int) < (0:Int)) (fun nJ=>?_) (fun nJ=>?_)
 ·refine jK 20 [40] [] ?_
  refine NN (CT (SR (jC 3 [5] [(1,A_ 3 b3 12)] [] ?_)))
  refine NN (af.ret (ai.aj ?_))
  exact rB _ [A_ 3 b3 12] [0] hle0 (.inl ⟨fun h=>by first|(have:=h.cN;omega)|(have:=h.cB;omega)|(have:=h.cH;omega)|exact absurd h.now (by assumption),rfl,rfl⟩)
 refine jK 5 [25] [(1,a_ 2 b2)] ?_
 refine sP 25 ((X.cB:Int) > (1099511627776:Int)) (fun oH=>?_) (fun oH=>?_)
 ·refine jK 15 [40] [] ?_
  refine NN (CT (SR (jC 3 [5] [(1,A_ 3 b3 12)] [] ?_)))
  refine NN (af.ret (ai.aj ?_))
  exact rB _ [A_ 3 b3 12] [0] hle0 (.inl ⟨fun h=>by first|(have:=h.cN;omega)|(have:=h.cB;omega)|(have:=h.cH;omega)|exact absurd h.now (by assumption),rfl,rfl⟩)
 refine jK 5 [30] [(1,a_ 2 b2)] ?_
 refine sP 30 ((X.cH:Int) < (0:Int)) (fun lC=>?_) (fun lC=>?_)
 ·refine jK 10 [40] [] ?_
  refine NN (CT (SR (jC 3 [5] [(1,A_ 3 b3 12)] [] ?_)))
  refine NN (af.ret (ai.aj ?_))
  exact rB _ [A_ 3 b3 12] [0] hle0 (.inl ⟨fun h=>by first|(have:=h.cN;omega)|(have:=h.cB;omega)|(have:=h.cH;omega)|exact absurd h.now (by assumption),rfl,rfl⟩)
 refine jK 5 [35] [(1,a_ 2 b2)] ?_
 refine sP 35 ((X.cH:Int) > (1024:Int)) (fun nN=>?_) (fun nN=>?_)
 ·refine jK 5 [40] [] ?_
  refine NN (CT (SR (jC 3 [5] [(1,A_ 3 b3 12)] [] ?_)))
  refine NN (af.ret (ai.aj ?_))
  exact rB _ [A_ 3 b3 12] [0] hle0 (.inl ⟨fun h=>by first|(have:=h.cN;omega)|(have:=h.cB;omega)|(have:=h.cH;omega)|exact absurd h.now (by assumption),rfl,rfl⟩)
 refine jK 2 [37] [(1,A_ 2 b2 2)] ?_
 refine gL [] (xq X.cS X.cZ) ?_
 rintro _ _ ⟨rfl,rfl⟩
 refine jK 2 [40] [] ?_
 refine NN (cN (dw X.cS X.cZ) (fun qz=>?_) (fun qz=>?_))
 ·refine SR (jC 3 [5] [(1,A_ 3 b3 12)] [] ?_)
  refine NN (af.ret (ai.aj ?_))
  exact rB _ [A_ 3 b3 12] [0] hle0 (.inl ⟨fun h=>by first|(have:=h.cN;omega)|(have:=h.cB;omega)|(have:=h.cH;omega)|exact absurd h.now (by assumption),rfl,rfl⟩)
 have hcap:kQ X:=⟨⟨by omega,by omega⟩,⟨by omega,by omega⟩,⟨by omega,by omega⟩,qz⟩
 refine af.skip (NX (af.seq (SR (jK 1 [42] [(0,a_ 1 b1)] ?_))))
 refine gL [] (LA A c ns Y hG hl hd hwf hnm ht) ?_
 rintro _ _ ⟨rfl,rfl⟩
 refine jK 1 [44] [] ?_
 refine NN (cN (((if aV ns then 0 else 140):Int)=(0:Int)) (fun ul=>?_) (fun ul=>?_))
 ·have Zv:¬ aV ns:=fun h=>ul (if_pos h)
  refine SR (jC 3 [5] [(1,A_ 3 b3 12)] [] ?_)
  refine NN (af.ret (ai.aj ?_))
  exact rB _ [A_ 3 b3 12] [0] hle0 (.inr (.inl ⟨hcap,Zv,rfl,rfl⟩))
 have hok:aV ns:=Classical.byContradiction (fun h=>by grind)
 refine af.skip (NX (af.seq (af.rQ (S:=[.blk b1 [.slice A (ns.length) (c)] 24,.blk b2 [vI (X.cN),vI (X.cB),vI (X.cH),vI (X.cS),vI (X.cZ)] 28]) [0,2,3,5] [.beside [1,4,6] 7,.one 8] [1,2] (by kernel_rfl) (by kernel_rfl) rfl (by kernel_rfl) ?_)))
 refine gP [(2,vP b1),(4,vP b3),(46,.agg #[.slice A (ns.length) (c)]),(49,vI (X.cH)),(51,.agg #[vI (X.cN),vI (X.cB),vI (X.cH),vI (X.cS),vI (X.cZ)])] [0,2,3,5] [(0,a_ 0 b1),(2,a_ 1 b2),(3,A_ 1 b2 5)] ?_
 refine iP.beside (j:=7) (dj:=6) (R:=fun f_ l_=>∃ B:Option Addr,∃ cp:Nat,f_=[(52,.agg #[.slice B (ns.length) (cp),.slice none (0) (0),vI (X.cH),vI 0,.slice none (0) (0),.slice none (0) (0),vI (X.cN),vI (X.cB),vI (X.cH),vI (X.cS),vI (X.cZ),vI 0]),(50,.agg #[vI (X.cH),vI 0,.slice none (0) (0),.slice none (0) (0)]),(47,.agg #[.slice B (ns.length) (cp)]),(2,vP b1),(4,vP b3),(46,.agg #[.slice A (ns.length) (c)]),(49,vI (X.cH)),(51,.agg #[vI (X.cN),vI (X.cB),vI (X.cH),vI (X.cS),vI (X.cZ)])]/\l_=[.abs (lS β (fun β'=>∃ K,aB β' B ns K))]) [0,1,2,3] [1,2] [(1,47),(4,50),(6,52)] rfl (pc:=[]) (pj:=[]) (Z:=[.abs R,.blk b1 [.slice A (ns.length) (c)] 24,.blk b2 [vI (X.cN),vI (X.cB),vI (X.cH),vI (X.cS),vI (X.cZ)] 28,.blk b3 (rZ) 42]) (by kernel_rfl) rfl (by kernel_rfl) rfl rfl (ic.of (ι:=Nat) (v:=fun (b4:Nat)=>vP b4) (l:=fun (b4:Nat)=>[.blk b4 (rZ) 42]) [47,50,52] rfl rfl rfl rfl ?_) ?_ ?_
 ·intro u Aq
  refine jN 1 [6] (fun _=>[]) (fun _=>[]) (fun b4=>.blk b4 (rZ) 42) (fun b4=>?_)
  refine NL ?_
  exact MD b4 [6,47,50,52,2,4,46,49,51] [1,0]
 ·refine kr.step (ic.of (ι:=(Option Addr)×Nat) (v:=fun ((B,cp):(Option Addr)×Nat)=>.agg #[.slice B (ns.length) (cp)]) (l:=fun ((B,cp):(Option Addr)×Nat)=>[.abs (lS β (fun β'=>∃ K,aB β' B ns K))]) [6] rfl rfl rfl rfl ?_) rfl ?_
  ·intro u Aq
   refine gL [] (uh (β:=β) A c ns Y hG hl hd) ?_
   rintro _ _ ⟨B,cp,rfl,rfl⟩
   refine NL ?_
   exact MD (B,cp) [47,6,2,4,46,49,51] [0,1]
  rintro _ _ ⟨⟨B,cp⟩,rfl,rfl⟩
  refine kr.step (ic.of (ι:=Unit) (v:=fun (_:Unit)=>.agg #[vI (X.cH),vI 0,.slice none (0) (0),.slice none (0) (0)]) (l:=fun (_:Unit)=>[.abs (lS β (fun β'=>∃ K,aB β' B ns K))]) [6] rfl rfl rfl rfl ?_) rfl ?_
  ·intro u Aq
   refine gL [] (Sd X.cH hcap.cH) ?_
   rintro _ _ ⟨rfl,rfl⟩
   refine NL ?_
   exact MD () [50,6,47,2,4,46,49,51] [0,1]
  rintro _ _ ⟨_,rfl,rfl⟩
  refine kr.step (ic.of (ι:=Unit) (v:=fun (_:Unit)=>.agg #[.slice B (ns.length) (cp),.slice none (0) (0),vI (X.cH),vI 0,.slice none (0) (0),.slice none (0) (0),vI (X.cN),vI (X.cB),vI (X.cH),vI (X.cS),vI (X.cZ),vI 0]) (l:=fun (_:Unit)=>[.abs (lS β (fun β'=>∃ K,aB β' B ns K))]) [6] rfl rfl rfl rfl ?_) rfl ?_
  ·intro u Aq
   refine jK 1 [52] [] ?_
   refine NL ?_
   exact MD () [52,6,50,47,2,4,46,49,51] [0,1]
  rintro _ _ ⟨_,rfl,rfl⟩
  exact⟨B,cp,rfl,rfl⟩
 rintro _ _ ⟨B,cp,rfl,rfl⟩ _ _ ⟨b4,rfl,rfl⟩
 refine iP.last rfl rfl ?_
 refine jC 1 [] [(0,A_ 1 b4 12)] [(1,[(0,.slice B (ns.length) (cp)),(2,vI (X.cH)),(6,vI (X.cN)),(7,vI (X.cB)),(8,vI (X.cH)),(9,vI (X.cS)),(10,vI (X.cZ))])] ?_
 refine NL (ai.np (NX (af.seq (SR ?_))))
 refine ak.FU 0 [1,2,3,4,5] (eu:=[.blk b4 [.slice B (ns.length) (cp),.slice none (0) (0),vI (X.cH),vI 0,.slice none (0) (0),.slice none (0) (0),vI (X.cN),vI (X.cB),vI (X.cH),vI (X.cS),vI (X.cZ),vI 0] 42,.abs R,.blk b1 [.slice A (ns.length) (c)] 24,.blk b2 [vI (X.cN),vI (X.cB),vI (X.cH),vI (X.cS),vI (X.cZ)] 28,.blk b3 (rZ) 42]) rfl rfl (by kernel_rfl) (fun MW ja ⟨K,hH⟩=>?_)
 replace hG:=hG.le ja
 replace hle0:=hle0.trans ja
 refine jK 4 [56] [(1,a_ 2 b1)] ?_
 refine NN (cP ((((ns.length:Nat):Int):Int) > (0:Int)) (fun h56=>?_) (fun h56=>?_))
 ·refine af.region (jC 11 [] [(1,a_ 2 b1),(3,a_ 2 b1),(5,wJ ((ns.length:Int) - 1) (((ns.length:Nat):Int) - 1)),(6,p_ ⟨[],some (ns.length - 1),none,some ⟨(aP A),aO A,none⟩,none⟩ [((ns.length:Nat):Int) - 1=(((ns.length - 1):Nat):Int),(ns.length - 1) < ns.length,(⟨(aP A),aO A,none⟩:Addr).spot=none,(A:Option Addr)=some ⟨(aP A),aO A,none⟩] ⟨by omega,by omega,rfl,aB.hd hG (i:=(ns.length - 1)) (by omega),trivial⟩),(8,r_ (aB.rd hG (i:=(ns.length - 1)) (by omega) (j:=0) rfl)),(10,a_ 0 b4)] [(0,[(11,vI ((nd ns (ns.length - 1)).id))])] ?_)
  refine NS (jC 3 [5] [(0,A_ 0 b4 12),(1,A_ 4 b3 12)] [(4,[(0,.slice B (ns.length) (cp)),(2,vI (X.cH)),(6,vI (X.cN)),(7,vI (X.cB)),(8,vI (X.cH)),(9,vI (X.cS)),(10,vI (X.cZ)),(11,vI ((nd ns (ns.length - 1)).id))])] ?_)
  refine NN (af.ret ?_)
  exact rB _ [A_ 4 b3 12] [1] hle0 (.inr (.inr ⟨hcap,hok,B,cp,K,by rw [if_neg (by omega)],rfl,hH⟩))
 refine af.skip (NX (SR (jC 3 [5] [(0,A_ 0 b4 12),(1,A_ 4 b3 12)] [(4,[(0,.slice B (ns.length) (cp)),(2,vI (X.cH)),(6,vI (X.cN)),(7,vI (X.cB)),(8,vI (X.cH)),(9,vI (X.cS)),(10,vI (X.cZ))])] ?_)))
 refine NN (af.ret ?_)
 exact rB _ [A_ 4 b3 12] [1] hle0 (.inr (.inr ⟨hcap,hok,B,cp,K,by rw [if_pos (by omega)],rfl,hH⟩))
end
section
open Go.RowKit Go.Maps aX aq
noncomputable def rU (X:FM):Int:=open Classical in if kQ X then 140 else 179
theorem Xe (X:FM):rU X≠0:=by
  unfold rU
  split<;>decide
def O6 (X:FM) (ns:List aA):Type:={ S:aI // iJ X ns ns.length 0 S }
section m
variable {β:Bs} {ns:List aA} {Y:Lay} {X:FM}
theorem UZ (hcap:kQ X) (hok:aV ns) (A:Option Addr) (c:Nat) (hG:aB β A ns Y) (hB:lg ns 1048576) :
    Spec Tryz.prog β 6 #[.agg #[.slice A ns.length c],.agg #[.int .i64 X.cN,.int .i64 X.cB,.int .i64 X.cH,.int .i64 X.cS,.int .i64 X.cZ]] [] (fun v l=>∃ (N:O6 X ns) (f m t:Nat) (L:HL),v=.tuple #[.pointer (some ⟨f,0,none⟩),.int .i64 0]/\l=pA f m t L N.1):=
  (Gc A c ns Y hG (Ce hB) (Cg hB) (EY hB) (EZ hB) X).mono (by
    rintro v l (⟨h,_⟩|⟨_,h,_⟩|⟨_,_,h⟩)
    ·exact absurd hcap h
    ·exact absurd hok h
    obtain⟨S,f,m,t,L,h1,h2,h3⟩:=h
    exact⟨⟨S,h1⟩,f,m,t,L,h2,h3⟩)
theorem U0 (Lb:¬ (kQ X/\aV ns)) (A:Option Addr) (c:Nat) (hG:aB β A ns Y) (hB:lg ns 1048576) :
    Spec Tryz.prog β 6 #[.agg #[.slice A ns.length c],.agg #[.int .i64 X.cN,.int .i64 X.cB,.int .i64 X.cH,.int .i64 X.cS,.int .i64 X.cZ]] [] (fun v l=>v=.tuple #[.pointer none,.int .i64 (rU X)]/\l=[]):=
  (Gc A c ns Y hG (Ce hB) (Cg hB) (EY hB) (EZ hB) X).mono (by
    rintro v l (⟨h,h1,h2⟩|⟨h,h',h1,h2⟩|⟨h1,h2,_⟩)
    ·exact⟨by rw [show rU X=179 from if_neg h];exact h1,h2⟩
    ·exact⟨by rw [show rU X=140 from if_pos h];exact h1,h2⟩
    exact absurd ⟨h1,h2⟩ Lb)
theorem U1 (hcap:kQ X) (hok:aV ns) (A:Option Addr) (c:Nat) (hG:aB β A ns Y) (hB:lg ns 1048576) :
    cu Tryz.prog β 8 #[.agg #[.slice A ns.length c],.agg #[.int .i64 X.cN,.int .i64 X.cB,.int .i64 X.cH,.int .i64 X.cS,.int .i64 X.cZ]] [] (fun β' v l=>∃ B cp K,v=.tuple #[.agg #[.slice B ns.length cp,.slice none 0 0,.int .i64 X.cH,.int .i64 0,.slice none 0 0,.slice none 0 0,.int .i64 X.cN,.int .i64 X.cB,.int .i64 X.cH,.int .i64 X.cS,.int .i64 X.cZ,.int .i64 (if ns.length=0 then 0 else (nd ns (ns.length - 1)).id)],.int .i64 0]/\l=[]/\aB β' B ns K):=
  (Nd A c ns Y hG (Ce hB) (Cg hB) (EY hB) (EZ hB) (Wj hB) X).mono (by
    rintro β' v l _ (⟨h,_⟩|⟨_,h,_⟩|⟨_,_,h⟩)
    ·exact absurd hcap h
    ·exact absurd hok h
    exact h)
theorem U2 (Lb:¬ (kQ X/\aV ns)) (A:Option Addr) (c:Nat) (hG:aB β A ns Y) (hB:lg ns 1048576) :
    cu Tryz.prog β 8 #[.agg #[.slice A ns.length c],.agg #[.int .i64 X.cN,.int .i64 X.cB,.int .i64 X.cH,.int .i64 X.cS,.int .i64 X.cZ]] [] (fun _ v l=>v=.tuple #[.agg #[.slice none 0 0,.slice none 0 0,.int .i64 0,.int .i64 0,.slice none 0 0,.slice none 0 0,.int .i64 0,.int .i64 0,.int .i64 0,.int .i64 0,.int .i64 0,.int .i64 0],.int .i64 (rU X)]/\l=[]):=
  (Nd A c ns Y hG (Ce hB) (Cg hB) (EY hB) (EZ hB) (Wj hB) X).mono (by
    rintro β' v l _ (⟨h,h1,h2⟩|⟨h,h',h1,h2⟩|⟨h1,h2,_⟩)
    ·exact⟨by rw [show rU X=179 from if_neg h];exact h1,h2⟩
    ·exact⟨by rw [show rU X=140 from if_pos h];exact h1,h2⟩
    exact absurd ⟨h1,h2⟩ Lb)
end m
end
section
open Go.RowKit Go.Maps aX aq
section p
variable {S:aI} {g:List Int} {X:FM} {ns:List aA} {Y:Lay} {β:Bs}
structure Pair (S:aI) (g:List Int):Prop extends RelR S g where
  gl:g.length<=4096
theorem Pair.rc (h:Pair S g):RC (toR S g):=aax h.toRelR h.gl
theorem Pair.rd (h:Pair S g):RD 0 (toR S g):=by
  have hI:=h.inv.toInv0
  have h1:=hI.len
  have h2:(toR S g).ns.length=S.idx.length:=eZ
  have h8:=Dw (g:=g) hI
  have h9:=hI.total.2
  exact⟨by omega,h.gl,h.rc.us,by omega,h.rc.dat⟩
theorem Pair.step (h:Pair S g) (c:ar):∃ g',p4 (toR S g) c=(toR (dG S c).1 g',(dG S c).2)/\Pair (dG S c).1 g':=by
  obtain⟨g',h1,h2⟩:=UA h.toRelR c
  have h3:GL (toR S g):=h.gl
  have h4:=W8 (c:=c) h3 (by have h5:=h.inv.toInv0.len;have h2:(toR S g).ns.length=S.idx.length:=eZ;omega)
  rw [h1] at h4
  exact⟨g',h1,h2,h4⟩
def mA (A:Option Addr) (p:Nat) (a:qh):qh:=(a.1,a.2.1,cM a.2.2 A p)
theorem Xf {c:ar} {A:Option Addr} {p:Nat}:eM S (cM c A p)=mA A p (eM S c):=by
  have h1:iu S (cM c A p)=mA A p (iu S c):=by unfold iu;dsimp only [cM];(repeat' split)<;>rfl
  have h2:dI S (cM c A p)=mA A p (dI S c):=by
    unfold dI;rw [show fk S.O S.us (cM c A p)=fk S.O S.us c from rfl];(repeat' split)<;>rfl
  have h3:dg S (cM c A p)=mA A p (dg S c):=by
    unfold dg;rw [show fk S.O S.us (cM c A p)=fk S.O S.us c from rfl];(repeat' split)<;>rfl
  have h4:eP S (cM c A p)=mA A p (eP S c):=by unfold eP;dsimp only [cM];(repeat' split)<;>rfl
  have h5:cI S (cM c A p)=mA A p (cI S c):=by unfold cI;dsimp only [cM];(repeat' split)<;>rfl
  have h6:dP S (cM c A p)=mA A p (dP S c):=by unfold dP;dsimp only [cM];(repeat' split)<;>rfl
  have h7:bS S (cM c A p)=mA A p (bS S c):=by unfold bS;dsimp only [cM];(repeat' split)<;>rfl
  have h8:fo S (cM c A p)=mA A p (fo S c):=by unfold fo;dsimp only [cM];(repeat' split)<;>rfl
  have h9:dW S (cM c A p)=mA A p (dW S c):=by unfold dW;dsimp only [cM];(repeat' split)<;>rfl
  have h10:br S (cM c A p)=mA A p (br S c):=by unfold br;dsimp only [cM];(repeat' split)<;>rfl
  have h11:jT S (cM c A p)=mA A p (jT S c):=by unfold jT;dsimp only [cM];(repeat' split)<;>rfl
  have h12:fI S (cM c A p)=mA A p (fI S c):=by
    unfold fI;rw [show fk S.O S.us (cM c A p)=fk S.O S.us c from rfl];(repeat' split)<;>rfl
  have qf:fT S (cM c A p)=mA A p (fT S c):=by unfold fT;dsimp only [cM];(repeat' split)<;>rfl
  have iH:fX S (cM c A p)=mA A p (fX S c):=by unfold fX;dsimp only [cM];(repeat' split)<;>rfl
  have IW:eE S (cM c A p)=mA A p (eE S c):=by unfold eE;dsimp only [cM];(repeat' split)<;>rfl
  unfold eM
  rw [h1,h2,h3,h4,h5,h6,h7,h8,h9,h10,h11,h12,qf,iH,IW]
  simp only [apply_ite (mA A p)]
  rfl
theorem Xg {c:ar} {A:Option Addr} {p:Nat}:dG S (cM c A p)=((dG S c).1,cM (dG S c).2 A p):=by
  unfold dG
  rw [show ({ cM c A p with answer:=0,code:=230 }:ar)=cM { c with answer:=0,code:=230 } A p from rfl,Xf]
  rfl
theorem Sg (h:Pair S g) {Y:RL} (hR:cD β (toR S g) Y) {c c2:ar} {S2:aI} (hD:dG S c=(S2,c2)) (hn:c.name.size<=1048576) (ht:c.text.size<=1048576) (hb:aZ β c.dA c.data) (hl:c.data.length<=140737488355328) (hc:c.data.length<=c.dC) :
    cu Tryz.prog β 12 #[.agg ⟨rV (toR S g) Y⟩,.agg ⟨aK c⟩] [] (fun β' v l=>∃ g' Y' B p,v=.tuple #[.agg ⟨rV (toR S2 g') Y'⟩,.agg ⟨aK (cM c2 B p)⟩]/\l=[]/\Pair S2 g'/\cD β' (toR S2 g') Y'/\aZ β' B c.data):=by
  obtain⟨g',h1,h2⟩:=h.step c
  rw [hD] at h1 h2
  refine (Ul (toR S g) Y hR h.rc h.rd c hn ht hb hl hc).mono ?_
  grind
theorem Pair.start (N:O6 X ns) (hok:aV ns):Pair N.1 []:=⟨(Hz N.2 hok).1,Nat.zero_le _⟩
theorem U3 (N:O6 X ns) (hcap:kQ X) (hok:aV ns) (A:Option Addr) (c:Nat) (hG:aB β A ns Y) (hB:lg ns 1048576) :
    cu Tryz.prog β 8 #[.agg #[.slice A ns.length c],.agg #[.int .i64 X.cN,.int .i64 X.cB,.int .i64 X.cH,.int .i64 X.cS,.int .i64 X.cZ]] [] (fun β' v l=>∃ Y',v=.tuple #[.agg ⟨rV (toR N.1 []) Y'⟩,.int .i64 0]/\l=[]/\cD β' (toR N.1 []) Y'):=by
  refine (U1 hcap hok A c hG hB).mono ?_
  have e:=(Hz N.2 hok).2
  rw [e]
  rintro β' v l _ ⟨B,cp,K,rfl,rfl,h⟩
  refine⟨⟨B,cp,K,none,0,none,0,none,0⟩,?_,rfl,⟨⟨bT.nil,bT.nil,bT.nil⟩,h⟩⟩
  have hl:(if ns.length=0 then 0 else (nd ns (ns.length - 1)).id)=ny ns ns.length:=by cases ns.length<;>rfl
  rw [hl]
  rfl
theorem Sh (hcap:kQ X) (hok:aV ns) (A:Option Addr) (c:Nat) (hB:lg ns 1048576) :
    Spec Tryz.prog β 6 #[.agg #[.slice A ns.length c],.agg #[.int .i64 X.cN,.int .i64 X.cB,.int .i64 X.cH,.int .i64 X.cS,.int .i64 X.cZ]] [.abs (lS β (fun β'=>∃ K,aB β' A ns K))] (fun v l=>∃ (N:O6 X ns) (f m t:Nat) (L:HL),v=.tuple #[.pointer (some ⟨f,0,none⟩),.int .i64 0]/\l=pA f m t L N.1):=
  Spec.V3 fun _ _ ⟨_,hG⟩=>UZ hcap hok A c hG hB
theorem Si (Lb:¬ (kQ X/\aV ns)) (A:Option Addr) (c:Nat) (hB:lg ns 1048576) :
    Spec Tryz.prog β 6 #[.agg #[.slice A ns.length c],.agg #[.int .i64 X.cN,.int .i64 X.cB,.int .i64 X.cH,.int .i64 X.cS,.int .i64 X.cZ]] [.abs (lS β (fun β'=>∃ K,aB β' A ns K))] (fun v l=>v=.tuple #[.pointer none,.int .i64 (rU X)]/\l=[]):=
  Spec.V3 fun _ _ ⟨_,hG⟩=>U0 Lb A c hG hB
end p
end
section
open Go.RowKit Go.Maps aX aq
theorem nO:(Lit.int .i64 0).wf=true:=by decide
section c
variable {S S2:aI} {β:Bs} {c c2 x q out:ar} {f m t:Nat} {L:HL}
theorem Gd (hI:Inv S) (hC:cR β c) (A0:Option Addr) (p0:Nat) (hD:dG S (cM c A0 p0)=(S2,c2)):Spec Tryz.prog β 15 #[vP f,.agg ⟨aK c⟩] (pA f m t L S) (fun v l=>∃ L2,v=.agg ⟨aK (cM c2 c.dA c.dC)⟩/\l=pA f m t L2 S2):=by
  have h1:=R6 (β:=β) S L f m t hI c hC
  have e:dG S c=((dG S (cM c A0 p0)).1,cM (dG S (cM c A0 p0)).2 c.dA c.dC):=Xg (c:=cM c A0 p0) (A:=c.dA) (p:=c.dC)
  rw [e,hD] at h1
  exact h1
def Lc (n:Int):Prop:=n=4\/n=6\/n=7\/n=8\/n=10\/n=13\/n=14\/n=15
theorem Xh (h0:c.answer=0) (hop:Lc c.op):(eM S c).2.2.answer=0:=by
  have g:∀ {a:qh},a.2.2=c->a.2.2.answer=0:=fun h=>by rw [h];exact h0
  rcases hop with h|h|h|h|h|h|h|h<;>(refine g ?_;unfold eM;rw [h])
  all_goals grind [eP,dP,bS,fo,br,fT,fX,eE]
theorem Xi (hop:Lc c.op):(dG S c).2.answer=0:=Xh (c:={ c with answer:=0,code:=230 }) rfl hop
structure Ch (β:Bs) (c:ar):Prop where
  hw:(Lit.int .i64 c.handle).wf=true
  ow:(Lit.int .i64 c.other).wf=true
  nm:c.name.size<=1048576
  tx:c.text.size<=1048576
  da:aZ β c.dA c.data
theorem Ch.le {β':Bs} (h:Ch β c) (hle:β.le β'):Ch β' c:=⟨h.hw,h.ow,h.nm,h.tx,h.da.le hle⟩
structure E0 (β:Bs) (S:aI) (op:Int) (S2:aI) (q c2 out:ar):Prop where
  did:dG S q=(S2,c2)
  ok:cR β q
  dl:q.data.length<=1048576
  Wk:out.answer=c2.answer
  code:out.code=c2.code
  st:op=11\/op=12->out.other=c2.other/\out.mode=c2.mode/\out.uid=c2.uid/\out.gid=c2.gid/\out.sec=c2.sec/\out.nano=c2.nano
theorem E0.le {β':Bs} {op:Int} (h:E0 β S op S2 q c2 out) (hle:β.le β'):E0 β' S op S2 q c2 out:=⟨h.did,h.ok.le hle,h.dl,h.Wk,h.code,h.st⟩
theorem E0.mute (did:dG S q=(S2,c2)) (ok:cR β q) {op:Int} (dl:q.data.length<=1048576:=by exact Nat.zero_le _) (e:q.op=op:=by rfl) (hop:Lc op:=by unfold Lc;omega) (h0:out.answer=0:=by rfl) (code:out.code=c2.code:=by rfl):E0 β S op S2 q c2 out:=
  ⟨did,ok,dl,h0.trans (by have h:=Xi (S:=S) (c:=q) (e ▸ hop);rw [did] at h;exact h.symm),code,fun h=>by unfold Lc at hop;omega⟩
theorem E0.num (did:dG S q=(S2,c2)) (ok:cR β q) {op:Int} (dl:q.data.length<=1048576:=by first|exact Nat.zero_le _|assumption) (hop:¬ (op=11\/op=12):=by omega) (Wk:out.answer=c2.answer:=by rfl) (code:out.code=c2.code:=by rfl):E0 β S op S2 q c2 out:=⟨did,ok,dl,Wk,code,fun h=>absurd h hop⟩
end c
end
section
open Go.RowKit Go.Maps aX aq
attribute [local irreducible] ak aU af ai bZ
noncomputable abbrev Sj (c2:ar):=([(0,vI (c2.answer)),(1,vI (c2.other)),(2,vI (c2.mode)),(3,vI (c2.uid)),(4,vI (c2.gid)),(5,vI (c2.sec)),(6,vI (c2.nano))]:Fr)
theorem E4 {β:Bs} {S:aI} {f m t:Nat} {L:HL} {S2:aI} {c2:ar} (hI:Inv S) (c:ar) (hC:cR β c) (A0:Option Addr) (p0:Nat) (hD:dG S (cM c A0 p0)=(S2,c2)) :
    Spec Tryz.prog β 59 #[.agg #[.iface 33 (vP f)],.agg ⟨aK c⟩] (pA f m t L S) (fun v l=>∃ L2,v=.tuple #[vI (c2.answer),vI (c2.code)]/\l=(pA f m t L2 S2)):=by
 refine SE Tryz.func59 Tryz.ntmps59 (fun R=>?_)
 refine SR (jN 1 [2] (fun _=>[]) (fun _=>[]) (fun b1=>.blk b1 [.iface 33 (vP f)] 48) (fun b1=>?_))
 refine jN 3 [3] (fun _=>[]) (fun _=>[]) (fun b2=>.blk b2 (aK c) 53) (fun b2=>?_)
 refine NS (jK 3 [7,8] [(1,a_ 7 b1),(2,A_ 8 b2 13)] ?_)
 refine gL [0,1,2,3,4,5] (Gd (β:=β) (S:=S) (L:=L) (f:=f) (m:=m) (t:=t) hI hC A0 p0 hD) ?_
 rintro _ _ ⟨L2,rfl,rfl⟩
 refine jC 1 [] [(0,A_ 8 b2 13)] [(8,(zC (aK (cM c2 c.dA c.dC))))] ?_
 refine NN (af.seq (jM [0,1,2,3,504,505] [8] ?_))
 refine jG 4 [11,13] [(1,a_ 0 b2),(3,a_ 0 b2)] ?_
 refine bZ.cut (ι:=Unit) (fr':=fun (_:Unit)=>[(4,vI (c2.answer)),(13,vI (c2.code))]) (hp':=fun (_:Unit)=>((pA f m t L2 S2)++[.abs R,.blk b1 [.iface 33 (vP f)] 48,.blk b2 (aK (cM c2 c.dA c.dC)) 53])) [8] (by kernel_rfl) ?_ rfl (fun _=>by kernel_rfl) ?_
 ·refine jK 1 [4] [] ?_
  refine NL ?_
  exact MD () [4,13] [0,1,2,3,4,5,6,7,8]
 rintro _
 refine bZ.last (by kernel_rfl) ?_
 refine jK 1 [5] [] ?_
 refine NL (ai.np (NX (af.ret ?_)))
 exact RT _ [0,1,2,3,4,5,6] (⟨L2,rfl,rfl⟩)
theorem wW {β:Bs} {S:aI} {f m t:Nat} {L:HL} {S2:aI} {c2:ar} (hI:Inv S) (c:ar) (hC:cR β c) (A0:Option Addr) (p0:Nat) (hD:dG S (cM c A0 p0)=(S2,c2)) :
    Spec Tryz.prog β 60 #[.agg #[.iface 33 (vP f)],.agg ⟨aK c⟩] (pA f m t L S) (fun v l=>∃ L2,v=vI (c2.code)/\l=(pA f m t L2 S2)):=by
 refine SE Tryz.func60 Tryz.ntmps60 (fun R=>?_)
 refine SR (jN 1 [2] (fun _=>[]) (fun _=>[]) (fun b3=>.blk b3 [.iface 33 (vP f)] 48) (fun b3=>?_))
 refine jN 2 [3] (fun _=>[]) (fun _=>[]) (fun b4=>.blk b4 (aK c) 53) (fun b4=>?_)
 refine NS (jK 3 [6,7] [(1,a_ 7 b3),(2,A_ 8 b4 13)] ?_)
 refine gL [0,1,2,3,4,5] (Gd (β:=β) (S:=S) (L:=L) (f:=f) (m:=m) (t:=t) hI hC A0 p0 hD) ?_
 rintro _ _ ⟨L2,rfl,rfl⟩
 refine jK 2 [4] [] ?_
 refine NN (af.ret ?_)
 exact RT _ [0,1,2,3,4,5,6] (⟨L2,rfl,rfl⟩)
theorem Wl {β:Bs} {S:aI} {f m t:Nat} {L:HL} {S2:aI} {c2:ar} (hI:Inv S) (c:ar) (hC:cR β c) (A0:Option Addr) (p0:Nat) (hD:dG S (cM c A0 p0)=(S2,c2)) :
    Spec Tryz.prog β 107 #[.agg #[.iface 33 (vP f)],.agg ⟨aK c⟩] (pA f m t L S) (fun v l=>∃ L2,v=.tuple #[.agg #[vI (c2.answer),vI (c2.other),vI (c2.mode),vI (c2.uid),vI (c2.gid),vI (c2.sec),vI (c2.nano)],vI (c2.code)]/\l=(pA f m t L2 S2)):=by
 refine SE Tryz.func107 Tryz.ntmps107 (fun R=>?_)
 refine SR (jN 1 [2] (fun _=>[]) (fun _=>[]) (fun b5=>.blk b5 [.iface 33 (vP f)] 48) (fun b5=>?_))
 refine jN 1 [3] (fun _=>[]) (fun _=>[]) (fun b6=>.blk b6 (aK c) 53) (fun b6=>?_)
 refine jN 2 [4] (fun _=>[]) (fun _=>[]) (fun b7=>.blk b7 [vI 0,vI 0,vI 0,vI 0,vI 0,vI 0,vI 0] 148) (fun b7=>?_)
 refine NS (jK 3 [7,8] [(1,a_ 7 b5),(2,A_ 8 b6 13)] ?_)
 refine gL [0,1,2,3,4,5] (Gd (β:=β) (S:=S) (L:=L) (f:=f) (m:=m) (t:=t) hI hC A0 p0 hD) ?_
 rintro _ _ ⟨L2,rfl,rfl⟩
 refine jC 1 [] [(0,A_ 8 b6 13)] [(8,(zC (aK (cM c2 c.dA c.dC))))] ?_
 refine NN (af.seq (jM [0,1,2,3,4,5,6,7,8,9,10,11,12,13,14,515,516] [8] ?_))
 refine jG 15 [4,22,24] [(1,a_ 0 b6),(3,a_ 0 b6),(5,a_ 0 b6),(7,a_ 0 b6),(9,a_ 0 b6),(11,A_ 0 b6 2),(14,a_ 0 b6)] ?_
 refine kC [8] [] [(0,A_ 9 b7 7)] [(9,(Sj c2))] ?_
 refine bZ.last (by kernel_rfl) ?_
 refine jK 1 [5] [] ?_
 refine NL (ai.np (NX (af.ret ?_)))
 exact rT _ [A_ 9 b7 7] [0,1,2,3,4,5,6] (⟨L2,rfl,rfl⟩)
theorem U4 {β:Bs} {S:aI} {f m t:Nat} {L:HL} {S2:aI} {c2:ar} (hI:Inv S) (op:Int) (hop:op=1) (id:Int) (hC:cR β (⟨op,0,id,⟨#[]⟩,⟨#[]⟩,none,0,[],0,0,0,0,0,0,0⟩:ar)) (hD:dG S (⟨op,0,id,⟨#[]⟩,⟨#[]⟩,none,0,[],0,0,0,0,0,0,0⟩:ar)=(S2,c2)) :
    Spec Tryz.prog β 30 #[.agg #[.iface 33 (vP f)],vI (id)] (pA f m t L S) (fun v l=>∃ L2,v=.tuple #[vI (c2.answer),vI (c2.code)]/\l=(pA f m t L2 S2)):=by
 subst hop
 refine SE Tryz.func30 Tryz.ntmps30 (fun R=>?_)
 refine SR (jN 3 [2] (fun _=>[]) (fun _=>[]) (fun b8=>.blk b8 [.iface 33 (vP f)] 48) (fun b8=>?_))
 refine NS (jK 3 [6,8] [(0,a_ 7 b8)] ?_)
 refine gL [0,1,2,3,4,5] (E4 (β:=β) (S:=S) (L:=L) (f:=f) (m:=m) (t:=t) hI (⟨1,0,id,⟨#[]⟩,⟨#[]⟩,none,0,[],0,0,0,0,0,0,0⟩:ar) hC none 0 hD) ?_
 rintro _ _ ⟨L2,rfl,rfl⟩
 refine jK 4 [4,5] [] ?_
 refine NN (af.ret ?_)
 exact RT _ [0,1,2,3,4,5,6] (⟨L2,rfl,rfl⟩)
theorem LY {β:Bs} {S:aI} {f m t:Nat} {L:HL} {S2:aI} {c2:ar} (hI:Inv S) (op:Int) (hop:op=2) (h:Int) (name:ByteArray) (hC:cR β (⟨op,h,0,name,⟨#[]⟩,none,0,[],0,0,0,0,0,0,0⟩:ar)) (hD:dG S (⟨op,h,0,name,⟨#[]⟩,none,0,[],0,0,0,0,0,0,0⟩:ar)=(S2,c2)) :
    Spec Tryz.prog β 31 #[.agg #[.iface 33 (vP f)],vI (h),.string name] (pA f m t L S) (fun v l=>∃ L2,v=.tuple #[vI (c2.answer),vI (c2.code)]/\l=(pA f m t L2 S2)):=by
 subst hop
 refine SE Tryz.func31 Tryz.ntmps31 (fun R=>?_)
 refine SR (jN 3 [3] (fun _=>[]) (fun _=>[]) (fun b9=>.blk b9 [.iface 33 (vP f)] 48) (fun b9=>?_))
 refine NS (jK 4 [8,11] [(0,a_ 7 b9)] ?_)
 refine gL [0,1,2,3,4,5] (E4 (β:=β) (S:=S) (L:=L) (f:=f) (m:=m) (t:=t) hI (⟨2,h,0,name,⟨#[]⟩,none,0,[],0,0,0,0,0,0,0⟩:ar) hC none 0 hD) ?_
 rintro _ _ ⟨L2,rfl,rfl⟩
 refine jK 4 [6,7] [] ?_
 refine NN (af.ret ?_)
 exact RT _ [0,1,2,3,4,5,6] (⟨L2,rfl,rfl⟩)
theorem Ld {β:Bs} {S:aI} {f m t:Nat} {L:HL} {S2:aI} {c2:ar} (hI:Inv S) (op:Int) (hop:op=3) (h:Int) (name:ByteArray) (hC:cR β (⟨op,h,0,name,⟨#[]⟩,none,0,[],0,0,0,0,0,0,0⟩:ar)) (hD:dG S (⟨op,h,0,name,⟨#[]⟩,none,0,[],0,0,0,0,0,0,0⟩:ar)=(S2,c2)) :
    Spec Tryz.prog β 32 #[.agg #[.iface 33 (vP f)],vI (h),.string name] (pA f m t L S) (fun v l=>∃ L2,v=.tuple #[vI (c2.answer),vI (c2.code)]/\l=(pA f m t L2 S2)):=by
 subst hop
 refine SE Tryz.func32 Tryz.ntmps32 (fun R=>?_)
 refine SR (jN 3 [3] (fun _=>[]) (fun _=>[]) (fun b10=>.blk b10 [.iface 33 (vP f)] 48) (fun b10=>?_))
 refine NS (jK 4 [8,11] [(0,a_ 7 b10)] ?_)
 refine gL [0,1,2,3,4,5] (E4 (β:=β) (S:=S) (L:=L) (f:=f) (m:=m) (t:=t) hI (⟨3,h,0,name,⟨#[]⟩,none,0,[],0,0,0,0,0,0,0⟩:ar) hC none 0 hD) ?_
 rintro _ _ ⟨L2,rfl,rfl⟩
 refine jK 4 [6,7] [] ?_
 refine NN (af.ret ?_)
 exact RT _ [0,1,2,3,4,5,6] (⟨L2,rfl,rfl⟩)
theorem Sk {β:Bs} {S:aI} {f m t:Nat} {L:HL} {S2:aI} {c2:ar} (hI:Inv S) (op:Int) (hop:op=4) (h:Int) (name:ByteArray) (mode:Int) (hC:cR β (⟨op,h,0,name,⟨#[]⟩,none,0,[],mode,0,0,0,0,0,0⟩:ar)) (hD:dG S (⟨op,h,0,name,⟨#[]⟩,none,0,[],mode,0,0,0,0,0,0⟩:ar)=(S2,c2)) :
    Spec Tryz.prog β 33 #[.agg #[.iface 33 (vP f)],vI (h),.string name,vI (mode)] (pA f m t L S) (fun v l=>∃ L2,v=vI (c2.code)/\l=(pA f m t L2 S2)):=by
 subst hop
 refine SE Tryz.func33 Tryz.ntmps33 (fun R=>?_)
 refine SR (jN 2 [4] (fun _=>[]) (fun _=>[]) (fun b11=>.blk b11 [.iface 33 (vP f)] 48) (fun b11=>?_))
 refine NS (jK 5 [9,13] [(0,a_ 7 b11)] ?_)
 refine gL [0,1,2,3,4,5] (wW (β:=β) (S:=S) (L:=L) (f:=f) (m:=m) (t:=t) hI (⟨4,h,0,name,⟨#[]⟩,none,0,[],mode,0,0,0,0,0,0⟩:ar) hC none 0 hD) ?_
 rintro _ _ ⟨L2,rfl,rfl⟩
 refine jK 1 [8] [] ?_
 refine NN (af.ret ?_)
 exact RT _ [0,1,2,3,4,5,6] (⟨L2,rfl,rfl⟩)
theorem O7 {β:Bs} {S:aI} {f m t:Nat} {L:HL} {S2:aI} {c2:ar} (hI:Inv S) (op:Int) (hop:op=5) (h:Int) (name:ByteArray) (mode:Int) (hC:cR β (⟨op,h,0,name,⟨#[]⟩,none,0,[],mode,0,0,0,0,0,0⟩:ar)) (hD:dG S (⟨op,h,0,name,⟨#[]⟩,none,0,[],mode,0,0,0,0,0,0⟩:ar)=(S2,c2)) :
    Spec Tryz.prog β 34 #[.agg #[.iface 33 (vP f)],vI (h),.string name,vI (mode)] (pA f m t L S) (fun v l=>∃ L2,v=.tuple #[vI (c2.answer),vI (c2.code)]/\l=(pA f m t L2 S2)):=by
 subst hop
 refine SE Tryz.func34 Tryz.ntmps34 (fun R=>?_)
 refine SR (jN 3 [4] (fun _=>[]) (fun _=>[]) (fun b12=>.blk b12 [.iface 33 (vP f)] 48) (fun b12=>?_))
 refine NS (jK 5 [10,14] [(0,a_ 7 b12)] ?_)
 refine gL [0,1,2,3,4,5] (E4 (β:=β) (S:=S) (L:=L) (f:=f) (m:=m) (t:=t) hI (⟨5,h,0,name,⟨#[]⟩,none,0,[],mode,0,0,0,0,0,0⟩:ar) hC none 0 hD) ?_
 rintro _ _ ⟨L2,rfl,rfl⟩
 refine jK 4 [8,9] [] ?_
 refine NN (af.ret ?_)
 exact RT _ [0,1,2,3,4,5,6] (⟨L2,rfl,rfl⟩)
theorem LZ {β:Bs} {S:aI} {f m t:Nat} {L:HL} {S2:aI} {c2:ar} (hI:Inv S) (op:Int) (hop:op=6) (h:Int) (name text:ByteArray) (hC:cR β (⟨op,h,0,name,text,none,0,[],0,0,0,0,0,0,0⟩:ar)) (hD:dG S (⟨op,h,0,name,text,none,0,[],0,0,0,0,0,0,0⟩:ar)=(S2,c2)) :
    Spec Tryz.prog β 35 #[.agg #[.iface 33 (vP f)],vI (h),.string name,.string text] (pA f m t L S) (fun v l=>∃ L2,v=vI (c2.code)/\l=(pA f m t L2 S2)):=by
 subst hop
 refine SE Tryz.func35 Tryz.ntmps35 (fun R=>?_)
 refine SR (jN 2 [4] (fun _=>[]) (fun _=>[]) (fun b13=>.blk b13 [.iface 33 (vP f)] 48) (fun b13=>?_))
 refine NS (jK 5 [9,13] [(0,a_ 7 b13)] ?_)
 refine gL [0,1,2,3,4,5] (wW (β:=β) (S:=S) (L:=L) (f:=f) (m:=m) (t:=t) hI (⟨6,h,0,name,text,none,0,[],0,0,0,0,0,0,0⟩:ar) hC none 0 hD) ?_
 rintro _ _ ⟨L2,rfl,rfl⟩
 refine jK 1 [8] [] ?_
 refine NN (af.ret ?_)
 exact RT _ [0,1,2,3,4,5,6] (⟨L2,rfl,rfl⟩)
theorem U5 {β:Bs} {S:aI} {f m t:Nat} {L:HL} {S2:aI} {c2:ar} (hI:Inv S) (op:Int) (hop:op=7) (h:Int) (name:ByteArray) (other:Int) (text:ByteArray) (hC:cR β (⟨op,h,other,name,text,none,0,[],0,0,0,0,0,0,0⟩:ar)) (hD:dG S (⟨op,h,other,name,text,none,0,[],0,0,0,0,0,0,0⟩:ar)=(S2,c2)) :
    Spec Tryz.prog β 61 #[.agg #[.iface 33 (vP f)],vI (h),.string name,vI (other),.string text] (pA f m t L S) (fun v l=>∃ L2,v=vI (c2.code)/\l=(pA f m t L2 S2)):=by
 subst hop
 refine SE Tryz.func61 Tryz.ntmps61 (fun R=>?_)
 refine SR (jN 2 [5] (fun _=>[]) (fun _=>[]) (fun b14=>.blk b14 [.iface 33 (vP f)] 48) (fun b14=>?_))
 refine NS (jK 6 [11,16] [(0,a_ 7 b14)] ?_)
 refine gL [0,1,2,3,4,5] (wW (β:=β) (S:=S) (L:=L) (f:=f) (m:=m) (t:=t) hI (⟨7,h,other,name,text,none,0,[],0,0,0,0,0,0,0⟩:ar) hC none 0 hD) ?_
 rintro _ _ ⟨L2,rfl,rfl⟩
 refine jK 1 [10] [] ?_
 refine NN (af.ret ?_)
 exact RT _ [0,1,2,3,4,5,6] (⟨L2,rfl,rfl⟩)
theorem O8 {β:Bs} {S:aI} {f m t:Nat} {L:HL} {S2:aI} {c2:ar} (hI:Inv S) (op:Int) (hop:op=8) (h:Int) (name:ByteArray) (hC:cR β (⟨op,h,0,name,⟨#[]⟩,none,0,[],0,0,0,0,0,0,0⟩:ar)) (hD:dG S (⟨op,h,0,name,⟨#[]⟩,none,0,[],0,0,0,0,0,0,0⟩:ar)=(S2,c2)) :
    Spec Tryz.prog β 36 #[.agg #[.iface 33 (vP f)],vI (h),.string name] (pA f m t L S) (fun v l=>∃ L2,v=vI (c2.code)/\l=(pA f m t L2 S2)):=by
 subst hop
 refine SE Tryz.func36 Tryz.ntmps36 (fun R=>?_)
 refine SR (jN 2 [3] (fun _=>[]) (fun _=>[]) (fun b15=>.blk b15 [.iface 33 (vP f)] 48) (fun b15=>?_))
 refine NS (jK 4 [7,10] [(0,a_ 7 b15)] ?_)
 refine gL [0,1,2,3,4,5] (wW (β:=β) (S:=S) (L:=L) (f:=f) (m:=m) (t:=t) hI (⟨8,h,0,name,⟨#[]⟩,none,0,[],0,0,0,0,0,0,0⟩:ar) hC none 0 hD) ?_
 rintro _ _ ⟨L2,rfl,rfl⟩
 refine jK 1 [6] [] ?_
 refine NN (af.ret ?_)
 exact RT _ [0,1,2,3,4,5,6] (⟨L2,rfl,rfl⟩)
theorem Sl {β:Bs} {S:aI} {f m t:Nat} {L:HL} {S2:aI} {c2:ar} (hI:Inv S) (op:Int) (hop:op=9) (h:Int) (A:Option Addr) (p:Nat) (bs:List UInt8) (hC:cR β (⟨op,h,0,⟨#[]⟩,⟨#[]⟩,A,p,bs,0,0,0,0,0,0,0⟩:ar)) (A0:Option Addr) (p0:Nat) (hD:dG S (cM (⟨op,h,0,⟨#[]⟩,⟨#[]⟩,A,p,bs,0,0,0,0,0,0,0⟩:ar) A0 p0)=(S2,c2)) :
    Spec Tryz.prog β 38 #[.agg #[.iface 33 (vP f)],vI (h),.slice A (bs.length) (p)] (pA f m t L S) (fun v l=>∃ L2,v=.tuple #[vI (c2.answer),vI (c2.code)]/\l=(pA f m t L2 S2)):=by
 subst hop
 refine SE Tryz.func38 Tryz.ntmps38 (fun R=>?_)
 refine SR (jN 3 [3] (fun _=>[]) (fun _=>[]) (fun b16=>.blk b16 [.iface 33 (vP f)] 48) (fun b16=>?_))
 refine NS (jK 4 [8,11] [(0,a_ 7 b16)] ?_)
 refine gL [0,1,2,3,4,5] (E4 (β:=β) (S:=S) (L:=L) (f:=f) (m:=m) (t:=t) hI (⟨9,h,0,⟨#[]⟩,⟨#[]⟩,A,p,bs,0,0,0,0,0,0,0⟩:ar) hC A0 p0 hD) ?_
 rintro _ _ ⟨L2,rfl,rfl⟩
 refine jK 4 [6,7] [] ?_
 refine NN (af.ret ?_)
 exact RT _ [0,1,2,3,4,5,6] (⟨L2,rfl,rfl⟩)
theorem L4 {β:Bs} {S:aI} {f m t:Nat} {L:HL} {S2:aI} {c2:ar} (hI:Inv S) (op:Int) (hop:op=10) (h mode uid gid sec nano:Int) (hC:cR β (⟨op,h,0,⟨#[]⟩,⟨#[]⟩,none,0,[],mode,uid,gid,sec,nano,0,0⟩:ar)) (hD:dG S (⟨op,h,0,⟨#[]⟩,⟨#[]⟩,none,0,[],mode,uid,gid,sec,nano,0,0⟩:ar)=(S2,c2)) :
    Spec Tryz.prog β 62 #[.agg #[.iface 33 (vP f)],vI (h),.agg #[vI 7,vI 7,vI (mode),vI (uid),vI (gid),vI (sec),vI (nano)]] (pA f m t L S) (fun v l=>∃ L2,v=vI (c2.code)/\l=(pA f m t L2 S2)):=by
 subst hop
 refine SE Tryz.func62 Tryz.ntmps62 (fun R=>?_)
 refine SR (jN 1 [3] (fun _=>[]) (fun _=>[]) (fun b17=>.blk b17 [.iface 33 (vP f)] 48) (fun b17=>?_))
 refine jN 2 [5] (fun _=>[]) (fun _=>[]) (fun b18=>.blk b18 [vI 7,vI 7,vI (mode),vI (uid),vI (gid),vI (sec),vI (nano)] 148) (fun b18=>?_)
 refine NS (jK 11 [7,17] [(0,a_ 7 b17),(3,a_ 8 b18),(5,a_ 8 b18),(7,a_ 8 b18),(9,A_ 8 b18 2)] ?_)
 refine gL [0,1,2,3,4,5] (wW (β:=β) (S:=S) (L:=L) (f:=f) (m:=m) (t:=t) hI (⟨10,h,0,⟨#[]⟩,⟨#[]⟩,none,0,[],mode,uid,gid,sec,nano,0,0⟩:ar) hC none 0 hD) ?_
 rintro _ _ ⟨L2,rfl,rfl⟩
 refine jK 1 [6] [] ?_
 refine NN (af.ret ?_)
 exact RT _ [0,1,2,3,4,5,6] (⟨L2,rfl,rfl⟩)
theorem U6 {β:Bs} {S:aI} {f m t:Nat} {L:HL} {S2:aI} {c2:ar} (hI:Inv S) (op:Int) (hop:op=11) (h:Int) (hC:cR β (⟨op,h,0,⟨#[]⟩,⟨#[]⟩,none,0,[],0,0,0,0,0,0,0⟩:ar)) (hD:dG S (⟨op,h,0,⟨#[]⟩,⟨#[]⟩,none,0,[],0,0,0,0,0,0,0⟩:ar)=(S2,c2)) :
    Spec Tryz.prog β 63 #[.agg #[.iface 33 (vP f)],vI (h)] (pA f m t L S) (fun v l=>∃ L2,v=.tuple #[.agg #[vI (c2.answer),vI (c2.other),vI (c2.mode),vI (c2.uid),vI (c2.gid),vI (c2.sec),vI (c2.nano)],vI (c2.code)]/\l=(pA f m t L2 S2)):=by
 subst hop
 refine SE Tryz.func63 Tryz.ntmps63 (fun R=>?_)
 refine SR (jN 1 [2] (fun _=>[]) (fun _=>[]) (fun b19=>.blk b19 [.iface 33 (vP f)] 48) (fun b19=>?_))
 refine jN 2 [4] (fun _=>[]) (fun _=>[]) (fun b20=>.blk b20 [vI 0,vI 0,vI 0,vI 0,vI 0,vI 0,vI 0] 148) (fun b20=>?_)
 refine NS (jK 3 [6,8] [(0,a_ 7 b19)] ?_)
 refine gL [0,1,2,3,4,5] (Wl (β:=β) (S:=S) (L:=L) (f:=f) (m:=m) (t:=t) hI (⟨11,h,0,⟨#[]⟩,⟨#[]⟩,none,0,[],0,0,0,0,0,0,0⟩:ar) hC none 0 hD) ?_
 rintro _ _ ⟨L2,rfl,rfl⟩
 refine jC 4 [5] [(2,A_ 8 b20 7)] [(8,(Sj c2))] ?_
 refine NN (af.ret ?_)
 exact rT _ [A_ 8 b20 7] [0,1,2,3,4,5,6] (⟨L2,rfl,rfl⟩)
theorem O9 {β:Bs} {S:aI} {f m t:Nat} {L:HL} {S2:aI} {c2:ar} (hI:Inv S) (op:Int) (hop:op=12) (h:Int) (name:ByteArray) (hC:cR β (⟨op,h,0,name,⟨#[]⟩,none,0,[],0,0,0,0,0,0,0⟩:ar)) (hD:dG S (⟨op,h,0,name,⟨#[]⟩,none,0,[],0,0,0,0,0,0,0⟩:ar)=(S2,c2)) :
    Spec Tryz.prog β 64 #[.agg #[.iface 33 (vP f)],vI (h),.string name] (pA f m t L S) (fun v l=>∃ L2,v=.tuple #[.agg #[vI (c2.answer),vI (c2.other),vI (c2.mode),vI (c2.uid),vI (c2.gid),vI (c2.sec),vI (c2.nano)],vI (c2.code)]/\l=(pA f m t L2 S2)):=by
 subst hop
 refine SE Tryz.func64 Tryz.ntmps64 (fun R=>?_)
 refine SR (jN 1 [3] (fun _=>[]) (fun _=>[]) (fun rR=>.blk rR [.iface 33 (vP f)] 48) (fun rR=>?_))
 refine jN 2 [6] (fun _=>[]) (fun _=>[]) (fun iK=>.blk iK [vI 0,vI 0,vI 0,vI 0,vI 0,vI 0,vI 0] 148) (fun iK=>?_)
 refine NS (jK 4 [8,11] [(0,a_ 7 rR)] ?_)
 refine gL [0,1,2,3,4,5] (Wl (β:=β) (S:=S) (L:=L) (f:=f) (m:=m) (t:=t) hI (⟨12,h,0,name,⟨#[]⟩,none,0,[],0,0,0,0,0,0,0⟩:ar) hC none 0 hD) ?_
 rintro _ _ ⟨L2,rfl,rfl⟩
 refine jC 4 [7] [(2,A_ 8 iK 7)] [(8,(Sj c2))] ?_
 refine NN (af.ret ?_)
 exact rT _ [A_ 8 iK 7] [0,1,2,3,4,5,6] (⟨L2,rfl,rfl⟩)
theorem Sm {β:Bs} {S:aI} {f m t:Nat} {L:HL} {S2:aI} {c2:ar} (hI:Inv S) (op:Int) (hop:op=13) (h:Int) (hC:cR β (⟨op,h,0,⟨#[]⟩,⟨#[]⟩,none,0,[],0,0,0,0,0,0,0⟩:ar)) (hD:dG S (⟨op,h,0,⟨#[]⟩,⟨#[]⟩,none,0,[],0,0,0,0,0,0,0⟩:ar)=(S2,c2)) :
    Spec Tryz.prog β 39 #[.agg #[.iface 33 (vP f)],vI (h)] (pA f m t L S) (fun v l=>∃ L2,v=vI (c2.code)/\l=(pA f m t L2 S2)):=by
 subst hop
 refine SE Tryz.func39 Tryz.ntmps39 (fun R=>?_)
 refine SR (jN 2 [2] (fun _=>[]) (fun _=>[]) (fun vT=>.blk vT [.iface 33 (vP f)] 48) (fun vT=>?_))
 refine NS (jK 3 [5,7] [(0,a_ 7 vT)] ?_)
 refine gL [0,1,2,3,4,5] (wW (β:=β) (S:=S) (L:=L) (f:=f) (m:=m) (t:=t) hI (⟨13,h,0,⟨#[]⟩,⟨#[]⟩,none,0,[],0,0,0,0,0,0,0⟩:ar) hC none 0 hD) ?_
 rintro _ _ ⟨L2,rfl,rfl⟩
 refine jK 1 [4] [] ?_
 refine NN (af.ret ?_)
 exact RT _ [0,1,2,3,4,5,6] (⟨L2,rfl,rfl⟩)
theorem Sn {β:Bs} {S:aI} {f m t:Nat} {L:HL} {S2:aI} {c2:ar} (hI:Inv S) (op:Int) (hop:op=14) (h:Int) (name:ByteArray) (hC:cR β (⟨op,h,0,name,⟨#[]⟩,none,0,[],0,0,0,0,0,0,0⟩:ar)) (hD:dG S (⟨op,h,0,name,⟨#[]⟩,none,0,[],0,0,0,0,0,0,0⟩:ar)=(S2,c2)) :
    Spec Tryz.prog β 65 #[.agg #[.iface 33 (vP f)],vI (h),.string name] (pA f m t L S) (fun v l=>∃ L2,v=vI (c2.code)/\l=(pA f m t L2 S2)):=by
 subst hop
 refine SE Tryz.func65 Tryz.ntmps65 (fun R=>?_)
 refine SR (jN 2 [3] (fun _=>[]) (fun _=>[]) (fun Hj=>.blk Hj [.iface 33 (vP f)] 48) (fun Hj=>?_))
 refine NS (jK 4 [7,10] [(0,a_ 7 Hj)] ?_)
 refine gL [0,1,2,3,4,5] (wW (β:=β) (S:=S) (L:=L) (f:=f) (m:=m) (t:=t) hI (⟨14,h,0,name,⟨#[]⟩,none,0,[],0,0,0,0,0,0,0⟩:ar) hC none 0 hD) ?_
 rintro _ _ ⟨L2,rfl,rfl⟩
 refine jK 1 [6] [] ?_
 refine NN (af.ret ?_)
 exact RT _ [0,1,2,3,4,5,6] (⟨L2,rfl,rfl⟩)
theorem Pa {β:Bs} {S:aI} {f m t:Nat} {L:HL} {S2:aI} {c2:ar} (hI:Inv S) (op:Int) (hop:op=15) (h:Int) (name:ByteArray) (other:Int) (text:ByteArray) (hC:cR β (⟨op,h,other,name,text,none,0,[],0,0,0,0,0,0,0⟩:ar)) (hD:dG S (⟨op,h,other,name,text,none,0,[],0,0,0,0,0,0,0⟩:ar)=(S2,c2)) :
    Spec Tryz.prog β 66 #[.agg #[.iface 33 (vP f)],vI (h),.string name,vI (other),.string text] (pA f m t L S) (fun v l=>∃ L2,v=vI (c2.code)/\l=(pA f m t L2 S2)):=by
 subst hop
 refine SE Tryz.func66 Tryz.ntmps66 (fun R=>?_)
 refine SR (jN 2 [5] (fun _=>[]) (fun _=>[]) (fun o9=>.blk o9 [.iface 33 (vP f)] 48) (fun o9=>?_))
 refine NS (jK 6 [11,16] [(0,a_ 7 o9)] ?_)
 refine gL [0,1,2,3,4,5] (wW (β:=β) (S:=S) (L:=L) (f:=f) (m:=m) (t:=t) hI (⟨15,h,other,name,text,none,0,[],0,0,0,0,0,0,0⟩:ar) hC none 0 hD) ?_
 rintro _ _ ⟨L2,rfl,rfl⟩
 refine jK 1 [10] [] ?_
 refine NN (af.ret ?_)
 exact RT _ [0,1,2,3,4,5,6] (⟨L2,rfl,rfl⟩)
end
section
open Go.RowKit
section y
variable {P:Program} {β uq:Bs} {N:dm} {ops:Array Oper} {S:List HP} {l l':List (Bool×Nat)} {fr fr':Fr} {hps:List HP} {Q:Post} {i:Nat} {ct:List Prop}
def nH (P:Program) (ops:Array Oper) (Q:Post) (R S:World->Prop):List (Bool×Nat)->Act->World->Prop
  | [],a,w=>Q .normal a w
  | (false,i)::l,a,w=>wpOp P ops Q i (fun a' w'=>(l=[]\/S w')/\nH P ops Q R S l a' w') a w
  | (true,i)::l,a,w=>∃ o v,ops[i]?=some o/\YieldsIf P ops R o v a/\nH P ops Q R S l (a.put o.dst v) w
theorem DC {R S:World->Prop} (hs:∀ w,S w->R w):∀ (l:List (Bool×Nat)) (a:Act) (w:World),nH P ops Q R S l a w->iG P ops Q S l a w
  | [],_,_,h=>h
  | (false,i)::l,a,w,h=>by
    unfold nH at h;unfold iG
    exact wpOp_mono (fun a' w' h'=>⟨h'.1,DC hs l a' w' h'.2⟩) h
  | (true,i)::l,a,w,h=>by
    unfold nH at h;unfold iG
    obtain⟨o,v,h1,h2,h3⟩:=h
    exact⟨o,v,h1,h2.imp (fun q=>⟨q.1,fun w hw=>q.2 w (hs w hw)⟩) id,DC hs l _ w h3⟩
def Bs.bare (β:Bs):Bs:=⟨fun _=>False,β.w0⟩
theorem Sat.bare {w:World} (h:Sat β S w):Sat β.bare [] w:=by
  obtain⟨ho,_⟩:=h
  exact⟨⟨ho.os,ho.tape,ho.output,ho.size,fun k hk=>hk.elim⟩,fun _ _=>False,fun i p h=>absurd h (by simp),fun i hi=>absurd hi (Nat.not_lt_zero i),fun i j hi=>absurd hi (Nat.not_lt_zero i)⟩
def Grown (a b:Bs):Prop:=a=b\/a.le b
theorem Grown.trans {a b c:Bs} (h:Grown a b) (g:b.le c):Grown a c:=.inr (h.elim (fun e=>e ▸ g) (fun h=>h.trans g))
theorem Grown.sat {a b:Bs} {w:World} (h:Grown a b) (hS:Sat b S w):Sat a S w:=h.elim (fun e=>e ▸ hS) (fun h=>hS.DJ h)
def oG (P:Program) (β uq:Bs) (N:dm) (ops:Array Oper) (S:List HP) (l:List (Bool×Nat)) (fr:Fr) (hps:List HP) (Q:Post):Prop:=
  ∀ junk w,Sat β hps w->nH P ops (NP Q) (Sat uq.bare []) (Sat uq S) l (bW N fr junk) w
theorem bZ.toH (K:oG P β β N ops S l fr hps Q):bZ P β N ops S l fr hps Q:=fun junk w hS=>DC (fun _ h=>h.bare) _ _ _ (K junk w hS)
theorem oG.abS {ι:Type} {B:ι->Bs} {Φ:ι->Prop} {fr':ι->Fr} {hp':ι->List HP} (pk:List Nat) (hle:Grown uq β) (hg:gB ops i=true) (h:ak P β N (iD ops i) i fr hps (NP (XC β N B Φ fr' hp'))) (hn:aN pk=true) (hp:∀ j,bp (hp' j) pk=some S)
    (K:∀ j,β.le (B j)->Φ j->oG P (B j) uq N ops S l (fr' j) (hp' j) Q):oG P β uq N ops S ((false,i)::l) fr hps Q:=by
  intro junk w hS
  unfold nH
  refine oV hg (nR (Q':=_) (fun a w ⟨j,iq,hle2,Cn,ha,dr⟩=>?_) _ (h junk w hS))
  subst ha
  exact⟨.inr ((hle.trans hle2).sat (dr.pick hn (hp j))),K j hle2 Cn iq w dr⟩
theorem oG.cut {ι:Type} {fr':ι->Fr} {hp':ι->List HP} (pk:List Nat) (hle:Grown uq β) (hg:gB ops i=true) (h:ak P β N (iD ops i) i fr hps (NP (qp β N fr' hp'))) (hn:aN pk=true) (hp:∀ j,bp (hp' j) pk=some S)
    (K:∀ j,oG P β uq N ops S l (fr' j) (hp' j) Q):oG P β uq N ops S ((false,i)::l) fr hps Q:=by
  intro junk w hS
  unfold nH
  refine oV hg (nR (Q':=_) (fun a w ⟨j,iq,ha,dr⟩=>?_) _ (h junk w hS))
  subst ha
  exact⟨.inr (hle.sat (dr.pick hn (hp j))),K j iq w dr⟩
theorem oG.last (hg:gB ops i=true) (h:ak P β N (iD ops i) i fr hps (NP Q)):oG P β uq N ops S [(false,i)] fr hps Q:=by
  grind [nH,oV,nR,gB,ak,iD,NP,oG]
theorem vZ {junk:Nat->Value} {w:World} {S2:World->Prop}:∀ {hs:List OH} {is:List Nat} {fr fr':Fr} {T T':SS},kY P β N junk ops hs is fr T=some (fr',T')->(∀ p,p∈T'.ct->p)->T.used=true->T.hps=S →
    nH P ops (NP Q) (Sat β S) S2 l (bW N fr' junk) w->nH P ops (NP Q) (Sat β S) S2 (is.map (fun i=>(true,i))++l) (bW N fr junk) w
  | [],[],fr,fr',T,T',h,ho,hu,hT,hK=>by cases h;exact hK
  | h::hs,i::is,fr,fr',T,T',hr,ho,hu,hT,hK=>by
    unfold kY at hr
    repeat' split at hr
    all_goals first|(cases hr;done)|skip
    ·rename_i o hget _ nT _ v T1 h0 _ hv
     obtain⟨e1,e2⟩:=su h0
     rw [List.map_cons,List.cons_append]
     unfold nH
     refine⟨o,v,hget,.inl ⟨by rw [d6];exact nT,fun w' dr=>?_⟩,?_⟩
     ·rw [eX]
      obtain⟨w2,h1,_,_,h4⟩:=kN h0 (fun p hp=>ho p (rH hr p hp)) (by rw [hT];exact dr) (fun e=>by rw [hu] at e;cases e)
      obtain⟨ew,_⟩:=h4 rfl
      rw [ew] at h1
      rcases h1 with h1|⟨h1,_⟩
      ·exact h1
      exact absurd h1 (oQ hv)
     rw [dU]
     exact vZ hr ho (e2.trans hu) (e1.trans hT) hK
    rename_i o hget _ nT
    rw [List.map_cons,List.cons_append]
    unfold nH
    refine⟨o,undef,hget,.inr ⟨by rw [d6];exact nT,rfl⟩,?_⟩
    rw [dU]
    exact vZ hr ho hu hT hK
  | [],_::_,_,_,_,_,h,_,_,_,_=>by cases h
  | _::_,[],_,_,_,_,h,_,_,_,_=>by cases h
theorem gH (l2:List (Bool×Nat)) (uw:Fr) (is:List Nat) (os:List (Nat×OP)) (K:oG P β uq N ops S l2 uw hps Q)
    (h:∀ junk,nS P uq.bare N junk ops (bY (cr is.length os 0)) is fr [] (aQ uw)=some (uw,owed (cr is.length os 0)):=by intro _;kernel_rfl) (hl:l'=is.map (fun i=>(true,i))++l2:=by rfl):oG P β uq N ops S l' fr hps Q:=by
  intro junk w hS
  subst hl
  have h0:=h junk
  unfold nS at h0
  split at h0
  ·rename_i mW S1 h1
   injection h0 with h0
   injection h0 with e1 e2
   have hK:=K (lk mW junk) w hS
   rw [← e1,← jr] at hK
   exact vZ h1 (fun p hp=>(oR _).mem (by rw [← e2];exact hp)) rfl rfl hK
  cases h0
end y
end
section
open Go.RowKit Go.Maps aX aq
attribute [local irreducible] ak aU af ai bZ oG
noncomputable abbrev HE (b8:Nat) (f:Nat):=(.blk b8 [.iface 33 (vP f)] 48:HP)
noncomputable abbrev Nf (b12:Nat) (x:ar):=(.blk b12 [vI (x.op),vI (x.handle),vI 0,.string ⟨#[]⟩,.string ⟨#[]⟩,.slice none (0) (0),vI 0,vI 0,vI 0,vI 0,vI 0,vI 0,vI 0] 53:HP)
noncomputable abbrev Sp (b12:Nat) (x:ar) (B1) (p1):=(.blk b12 [vI (x.op),vI (x.handle),vI 0,.string ⟨#[]⟩,.string ⟨#[]⟩,.slice B1 (x.data.length) (p1),vI 0,vI 0,vI 0,vI 0,vI 0,vI 0,vI 0] 53:HP)
noncomputable abbrev mB (x:ar):=([(0,vI (x.op)),(1,vI (x.handle))]:Fr)
noncomputable abbrev Bw (c2:ar):=([(11,vI (c2.code)),(12,vI (c2.answer))]:Fr)
noncomputable abbrev ZI (b10:Nat) (b11:Nat) (b12:Nat) (b13:Nat):=([(4,vP b10),(5,vP b11),(6,vP b12),(7,vP b13)]:Fr)
noncomputable abbrev ZJ (x:ar):=([(6,vI (x.mode)),(7,vI (x.uid)),(8,vI (x.gid)),(9,vI (x.sec)),(10,vI (x.nano))]:Fr)
theorem U7 {β:Bs} {S:aI} {f m t:Nat} {L:HL} (hI:Inv S) (x:ar) (hx:Ch β x) (hop:x.op=7\/x.op=10\/x.op=11\/x.op=12\/x.op=14\/x.op=15) :
    Spec Tryz.prog β 40 #[.agg #[.iface 33 (vP f)],.agg ⟨aK x⟩,.agg #[vI (x.op),vI (x.handle),vI 0,.string ⟨#[]⟩,.string ⟨#[]⟩,.slice none (0) (0),vI 0,vI 0,vI 0,vI 0,vI 0,vI 0,vI 0]] (pA f m t L S) (fun v l=>∃ L2 S2 q c2 out,v=.tuple #[.agg ⟨aK q⟩,.agg ⟨aK out⟩]/\l=(pA f m t L2 S2)/\E0 β S x.op S2 q c2 out):=by
 refine SE Tryz.func40 Tryz.ntmps40 (fun R=>?_)
 refine SR (jN 1 [3] (fun _=>[]) (fun _=>[]) (fun b1=>.blk b1 [.iface 33 (vP f)] 48) (fun b1=>?_))
 refine jN 1 [4] (fun _=>[]) (fun _=>[]) (fun b2=>.blk b2 (aK x) 53) (fun b2=>?_)
 refine jN 1 [5] (fun _=>[]) (fun _=>[]) (fun b3=>.blk b3 [vI (x.op),vI (x.handle),vI 0,.string ⟨#[]⟩,.string ⟨#[]⟩,.slice none (0) (0),vI 0,vI 0,vI 0,vI 0,vI 0,vI 0,vI 0] 53) (fun b3=>?_)
 refine jN 1 [6] (fun _=>[]) (fun _=>[]) (fun b4=>.blk b4 [vI 0,vI 0,vI 0,.string ⟨#[]⟩,.string ⟨#[]⟩,.slice none (0) (0),vI 0,vI 0,vI 0,vI 0,vI 0,vI 0,vI 0] 53) (fun b4=>?_)
 refine jN 1 [7] (fun _=>[]) (fun _=>[]) (fun b5=>.blk b5 [vI 0,vI 0,vI 0,.string ⟨#[]⟩,.string ⟨#[]⟩,.slice none (0) (0),vI 0,vI 0,vI 0,vI 0,vI 0,vI 0,vI 0] 53) (fun b5=>?_)
 refine NS (jN 3 [8] (fun b6=>[(0,A_ 9 b3 13),(2,A_ 12 b6 13)]) (fun _=>[]) (fun b6=>.blk b6 [vI (x.op),vI (x.handle),vI 0,.string ⟨#[]⟩,.string ⟨#[]⟩,.slice none (0) (0),vI 0,vI 0,vI 0,vI 0,vI 0,vI 0,vI 0] 53) (fun b6=>?_))
 refine NS (jN 3 [9] (fun b7=>[(2,A_ 13 b7 7)]) (fun _=>[]) (fun b7=>.blk b7 [vI 0,vI 0,vI 0,vI 0,vI 0,vI 0,vI 0] 148) (fun b7=>?_))
 refine NN (af.seq (SR (jK 2 [13] [(1,a_ 8 b2)] ?_)))
 refine NN (af.block (SR ?_))
 refine jK 2 [14] [] ?_
 refine NN (cP ((x.op:Int)=(7:Int)) (fun iH=>?_) (fun iH=>?_))
 ·refine af.seq (jM [0,1,2,3,4,5,6,507,8,509,10,511] [8] ?_)
  refine jG 7 [3,4,5,6,7,8,9,17,19,21,22] [(1,a_ 0 b2),(3,a_ 0 b2),(5,a_ 0 b2)] ?_
  refine kC [8] [] [(0,a_ 9 b3)] [(9,[(3,.string x.name)])] ?_
  refine jG 1 [3,4,5,6,7,8,9,19,21,23] [] ?_
  refine kC [8] [] [(0,a_ 9 b3)] [(9,[(2,vI (x.other))])] ?_
  refine jG 1 [3,4,5,6,7,8,9,21,24] [] ?_
  refine bZ.last (by kernel_rfl) ?_
  refine jC 1 [] [(0,a_ 9 b3)] [(9,[(4,.string x.text)])] ?_
  refine NL (ai.np (NX (af.region ?_)))
  refine jK 9 [25,27,29,31,33] [(0,a_ 7 b1),(2,a_ 8 b2),(4,a_ 8 b2),(6,a_ 8 b2),(8,a_ 8 b2)] ?_
  obtain⟨S2,c2,hD⟩:∃ S2 c2,dG S (⟨x.op,x.handle,x.other,x.name,x.text,none,0,[],0,0,0,0,0,0,0⟩:ar)=(S2,c2):=⟨_,_,rfl⟩
  refine gL [0,1,2,3,4,5] (U5 (β:=β) (S:=S) (L:=L) (f:=f) (m:=m) (t:=t) hI x.op iH x.handle x.name x.other x.text (dY hx.hw hx.ow hx.nm hx.tx rfl) hD) ?_
  rintro _ _ ⟨L2,rfl,rfl⟩
  refine jC 2 [] [(1,a_ 12 b6)] [(12,[(11,vI (c2.code))])] ?_
  refine NL (ai.ax (NX (af.seq (SR ?_))))
  refine jK 4 [126] [(1,a_ 8 b2)] ?_
  refine sP 126 ((x.op:Int)=(11:Int)) (fun sY=>?_) (fun sY=>?_)
  ·omega
  refine jK 4 [130] [(1,a_ 8 b2)] ?_
  refine NN (cP ((x.op:Int)=(12:Int)) (fun zi=>?_) (fun zi=>?_))
  ·omega
  refine af.skip (NX (af.seq (jM [0,1,502,503] [9,12] ?_)))
  refine jG 2 [6,7,149,150] [(0,A_ 0 b3 13),(1,A_ 1 b6 13)] ?_
  refine kC [9,12] [] [(0,A_ 10 b4 13)] [(10,(mB x++[(2,vI (x.other)),(3,.string x.name),(4,.string x.text)]))] ?_
  refine bZ.last (by kernel_rfl) ?_
  refine jC 1 [] [(0,A_ 11 b5 13)] [(11,(mB x++[(11,vI (c2.code))]))] ?_
  refine NL (ai.np (NX (af.ret ?_)))
  exact rT _ [A_ 10 b4 13,A_ 11 b5 13] [0,1,2,3,4,5,6] (⟨L2,S2,(⟨x.op,x.handle,x.other,x.name,x.text,none,0,[],0,0,0,0,0,0,0⟩:ar),c2,(⟨(x.op),(x.handle),0,⟨#[]⟩,⟨#[]⟩,none,0,[],0,0,0,0,0,(c2.code),0⟩:ar),rfl,rfl,.mute hD (by exact dY hx.hw hx.ow hx.nm hx.tx rfl)⟩)
 refine SR (jK 2 [36] [] ?_)
 refine NN (cP ((x.op:Int)=(10:Int)) (fun Vh=>?_) (fun Vh=>?_))
 ·refine af.seq (jM [0,1,2,3,4,5,6,7,8,509,10,511,12,513,14,515] [8] ?_)
  refine jG 9 [3,4,5,6,7,8,9,39,41,43,45,46] [(1,a_ 0 b2),(3,a_ 0 b2),(5,a_ 0 b2),(7,A_ 0 b2 2)] ?_
  refine kC [8] [] [(0,a_ 9 b3)] [(9,[(6,vI (x.mode))])] ?_
  refine jG 1 [3,4,5,6,7,8,9,41,43,45,47] [] ?_
  refine kC [8] [] [(0,a_ 9 b3)] [(9,[(7,vI (x.uid))])] ?_
  refine jG 1 [3,4,5,6,7,8,9,43,45,48] [] ?_
  refine kC [8] [] [(0,a_ 9 b3)] [(9,[(8,vI (x.gid))])] ?_
  refine jG 1 [3,4,5,6,7,8,9,45,49] [] ?_
  refine bZ.last (by kernel_rfl) ?_
  refine jC 1 [] [(0,A_ 9 b3 2)] [(9,[(9,vI (x.sec)),(10,vI (x.nano))])] ?_
  refine NL (ai.np (NX (af.region ?_)))
  refine jK 12 [50,52,61] [(0,a_ 7 b1),(2,a_ 8 b2),(4,a_ 8 b2),(6,a_ 8 b2),(8,a_ 8 b2),(10,A_ 8 b2 2)] ?_
  obtain⟨S2,c2,hD⟩:∃ S2 c2,dG S (⟨x.op,x.handle,0,⟨#[]⟩,⟨#[]⟩,none,0,[],x.mode,x.uid,x.gid,x.sec,x.nano,0,0⟩:ar)=(S2,c2):=⟨_,_,rfl⟩
  refine gL [0,1,2,3,4,5] (L4 (β:=β) (S:=S) (L:=L) (f:=f) (m:=m) (t:=t) hI x.op Vh x.handle x.mode x.uid x.gid x.sec x.nano (dY hx.hw nO (Nat.zero_le _) (Nat.zero_le _) rfl) hD) ?_
  rintro _ _ ⟨L2,rfl,rfl⟩
  refine jC 2 [] [(1,a_ 12 b6)] [(12,[(11,vI (c2.code))])] ?_
  refine NL (ai.ax (NX (af.seq (SR ?_))))
  refine jK 4 [126] [(1,a_ 8 b2)] ?_
  refine sP 126 ((x.op:Int)=(11:Int)) (fun sY=>?_) (fun sY=>?_)
  ·omega
  refine jK 4 [130] [(1,a_ 8 b2)] ?_
  refine NN (cP ((x.op:Int)=(12:Int)) (fun zi=>?_) (fun zi=>?_))
  ·omega
  refine af.skip (NX (af.seq (jM [0,1,502,503] [9,12] ?_)))
  refine jG 2 [6,7,149,150] [(0,A_ 0 b3 13),(1,A_ 1 b6 13)] ?_
  refine kC [9,12] [] [(0,A_ 10 b4 13)] [(10,(mB x++ZJ x))] ?_
  refine bZ.last (by kernel_rfl) ?_
  refine jC 1 [] [(0,A_ 11 b5 13)] [(11,(mB x++[(11,vI (c2.code))]))] ?_
  refine NL (ai.np (NX (af.ret ?_)))
  exact rT _ [A_ 10 b4 13,A_ 11 b5 13] [0,1,2,3,4,5,6] (⟨L2,S2,(⟨x.op,x.handle,0,⟨#[]⟩,⟨#[]⟩,none,0,[],x.mode,x.uid,x.gid,x.sec,x.nano,0,0⟩:ar),c2,(⟨(x.op),(x.handle),0,⟨#[]⟩,⟨#[]⟩,none,0,[],0,0,0,0,0,(c2.code),0⟩:ar),rfl,rfl,.mute hD (by exact dY hx.hw nO (Nat.zero_le _) (Nat.zero_le _) rfl)⟩)
 refine SR (jK 2 [64] [] ?_)
 refine NN (cP ((x.op:Int)=(11:Int)) (fun V2=>?_) (fun V2=>?_))
 ·refine af.region (jK 3 [67,69] [(0,a_ 7 b1),(2,a_ 8 b2)] ?_)
  obtain⟨S2,c2,hD⟩:∃ S2 c2,dG S (⟨x.op,x.handle,0,⟨#[]⟩,⟨#[]⟩,none,0,[],0,0,0,0,0,0,0⟩:ar)=(S2,c2):=⟨_,_,rfl⟩
  refine gL [0,1,2,3,4,5] (U6 (β:=β) (S:=S) (L:=L) (f:=f) (m:=m) (t:=t) hI x.op V2 x.handle (dY hx.hw nO (Nat.zero_le _) (Nat.zero_le _) rfl) hD) ?_
  rintro _ _ ⟨L2,rfl,rfl⟩
  refine jC 6 [] [(3,A_ 13 b7 7),(5,a_ 12 b6)] [(12,[(11,vI (c2.code))]),(13,(Sj c2))] ?_
  refine NL (ai.ax (NX (af.seq (SR ?_))))
  refine jK 4 [126] [(1,a_ 8 b2)] ?_
  refine sP 126 ((x.op:Int)=(11:Int)) (fun sY=>?_) (fun sY=>?_)
  ·refine jK 4 [130] [] ?_
   refine NN (CT (jM [0,1,2,3,4,5,6,7,8,9,10,11,12,513,14,515,16,517,18,519,20,521,22,523] [13] ?_))
   refine jG 13 [5,6,7,8,132,134,136,138,140,142,143] [(1,a_ 0 b7),(3,a_ 0 b7),(5,a_ 0 b7),(7,a_ 0 b7),(9,a_ 0 b7),(11,A_ 0 b7 2)] ?_
   refine kC [13] [] [(0,a_ 12 b6)] [(12,[(12,vI (c2.answer))])] ?_
   refine jG 1 [5,6,7,8,134,136,138,140,142,144] [] ?_
   refine kC [13] [] [(0,a_ 12 b6)] [(12,[(2,vI (c2.other))])] ?_
   refine jG 1 [5,6,7,8,136,138,140,142,145] [] ?_
   refine kC [13] [] [(0,a_ 12 b6)] [(12,[(6,vI (c2.mode))])] ?_
   refine jG 1 [5,6,7,8,138,140,142,146] [] ?_
   refine kC [13] [] [(0,a_ 12 b6)] [(12,[(7,vI (c2.uid))])] ?_
   refine jG 1 [5,6,7,8,140,142,147] [] ?_
   refine kC [13] [] [(0,a_ 12 b6)] [(12,[(8,vI (c2.gid))])] ?_
   refine jG 1 [5,6,7,8,142,148] [] ?_
   refine bZ.last (by kernel_rfl) ?_
   refine jC 1 [] [(0,A_ 12 b6 2)] [(12,[(9,vI (c2.sec)),(10,vI (c2.nano))])] ?_
   refine NL (ai.np (NX (af.seq ?_)))
   refine jM [0,1,502,503] [9,12] ?_
   refine jG 2 [6,7,149,150] [(0,A_ 0 b3 13),(1,A_ 1 b6 13)] ?_
   refine kC [9,12] [] [(0,A_ 10 b4 13)] [(10,(mB x))] ?_
   refine bZ.last (by kernel_rfl) ?_
   refine jC 1 [] [(0,A_ 11 b5 13)] [(11,(mB x++[(2,vI (c2.other))]++ZJ c2++Bw c2))] ?_
   refine NL (ai.np (NX (af.ret ?_)))
   exact rT _ [A_ 10 b4 13,A_ 11 b5 13] [0,1,2,3,4,5,6] (⟨L2,S2,(⟨x.op,x.handle,0,⟨#[]⟩,⟨#[]⟩,none,0,[],0,0,0,0,0,0,0⟩:ar),c2,(⟨(x.op),(x.handle),(c2.other),⟨#[]⟩,⟨#[]⟩,none,0,[],(c2.mode),(c2.uid),(c2.gid),(c2.sec),(c2.nano),(c2.code),(c2.answer)⟩:ar),rfl,rfl,⟨hD,(by exact dY hx.hw nO (Nat.zero_le _) (Nat.zero_le _) rfl),(Nat.zero_le _),rfl,rfl,fun _=>⟨rfl,rfl,rfl,rfl,rfl,rfl⟩⟩⟩)
  omega
 refine SR (jK 2 [74] [] ?_)
 refine NN (cP ((x.op:Int)=(12:Int)) (fun L9=>?_) (fun L9=>?_))
 ·refine SR (jC 4 [] [(1,a_ 8 b2),(3,a_ 9 b3)] [(9,[(3,.string x.name)])] ?_)
  refine NN (af.region (jK 5 [80,82,84] [(0,a_ 7 b1),(2,a_ 8 b2),(4,a_ 8 b2)] ?_))
  obtain⟨S2,c2,hD⟩:∃ S2 c2,dG S (⟨x.op,x.handle,0,x.name,⟨#[]⟩,none,0,[],0,0,0,0,0,0,0⟩:ar)=(S2,c2):=⟨_,_,rfl⟩
  refine gL [0,1,2,3,4,5] (O9 (β:=β) (S:=S) (L:=L) (f:=f) (m:=m) (t:=t) hI x.op L9 x.handle x.name (dY hx.hw nO hx.nm (Nat.zero_le _) rfl) hD) ?_
  rintro _ _ ⟨L2,rfl,rfl⟩
  refine jC 6 [] [(3,A_ 13 b7 7),(5,a_ 12 b6)] [(12,[(11,vI (c2.code))]),(13,(Sj c2))] ?_
  refine NL (ai.ax (NX (af.seq (SR ?_))))
  refine jK 4 [126] [(1,a_ 8 b2)] ?_
  refine sP 126 ((x.op:Int)=(11:Int)) (fun sY=>?_) (fun sY=>?_)
  ·omega
  refine jK 4 [130] [(1,a_ 8 b2)] ?_
  refine NN (cP ((x.op:Int)=(12:Int)) (fun zi=>?_) (fun zi=>?_))
  ·refine jM [0,1,2,3,4,5,6,7,8,9,10,11,12,513,14,515,16,517,18,519,20,521,22,523] [13] ?_
   refine jG 13 [5,6,7,8,132,134,136,138,140,142,143] [(1,a_ 0 b7),(3,a_ 0 b7),(5,a_ 0 b7),(7,a_ 0 b7),(9,a_ 0 b7),(11,A_ 0 b7 2)] ?_
   refine kC [13] [] [(0,a_ 12 b6)] [(12,[(12,vI (c2.answer))])] ?_
   refine jG 1 [5,6,7,8,134,136,138,140,142,144] [] ?_
   refine kC [13] [] [(0,a_ 12 b6)] [(12,[(2,vI (c2.other))])] ?_
   refine jG 1 [5,6,7,8,136,138,140,142,145] [] ?_
   refine kC [13] [] [(0,a_ 12 b6)] [(12,[(6,vI (c2.mode))])] ?_
   refine jG 1 [5,6,7,8,138,140,142,146] [] ?_
   refine kC [13] [] [(0,a_ 12 b6)] [(12,[(7,vI (c2.uid))])] ?_
   refine jG 1 [5,6,7,8,140,142,147] [] ?_
   refine kC [13] [] [(0,a_ 12 b6)] [(12,[(8,vI (c2.gid))])] ?_
   refine jG 1 [5,6,7,8,142,148] [] ?_
   refine bZ.last (by kernel_rfl) ?_
   refine jC 1 [] [(0,A_ 12 b6 2)] [(12,[(9,vI (c2.sec)),(10,vI (c2.nano))])] ?_
   refine NL (ai.np (NX (af.seq ?_)))
   refine jM [0,1,502,503] [9,12] ?_
   refine jG 2 [6,7,149,150] [(0,A_ 0 b3 13),(1,A_ 1 b6 13)] ?_
   refine kC [9,12] [] [(0,A_ 10 b4 13)] [(10,(mB x++[(3,.string x.name)]))] ?_
   refine bZ.last (by kernel_rfl) ?_
   refine jC 1 [] [(0,A_ 11 b5 13)] [(11,(mB x++[(2,vI (c2.other))]++ZJ c2++Bw c2))] ?_
   refine NL (ai.np (NX (af.ret ?_)))
   exact rT _ [A_ 10 b4 13,A_ 11 b5 13] [0,1,2,3,4,5,6] (⟨L2,S2,(⟨x.op,x.handle,0,x.name,⟨#[]⟩,none,0,[],0,0,0,0,0,0,0⟩:ar),c2,(⟨(x.op),(x.handle),(c2.other),⟨#[]⟩,⟨#[]⟩,none,0,[],(c2.mode),(c2.uid),(c2.gid),(c2.sec),(c2.nano),(c2.code),(c2.answer)⟩:ar),rfl,rfl,⟨hD,(by exact dY hx.hw nO hx.nm (Nat.zero_le _) rfl),(Nat.zero_le _),rfl,rfl,fun _=>⟨rfl,rfl,rfl,rfl,rfl,rfl⟩⟩⟩)
  omega
 refine SR (jK 2 [89] [] ?_)
 refine NN (cP ((x.op:Int)=(14:Int)) (fun h89=>?_) (fun h89=>?_))
 ·refine SR (jC 4 [] [(1,a_ 8 b2),(3,a_ 9 b3)] [(9,[(3,.string x.name)])] ?_)
  refine NN (af.region (jK 5 [94,96,98] [(0,a_ 7 b1),(2,a_ 8 b2),(4,a_ 8 b2)] ?_))
  obtain⟨S2,c2,hD⟩:∃ S2 c2,dG S (⟨x.op,x.handle,0,x.name,⟨#[]⟩,none,0,[],0,0,0,0,0,0,0⟩:ar)=(S2,c2):=⟨_,_,rfl⟩
  refine gL [0,1,2,3,4,5] (Sn (β:=β) (S:=S) (L:=L) (f:=f) (m:=m) (t:=t) hI x.op h89 x.handle x.name (dY hx.hw nO hx.nm (Nat.zero_le _) rfl) hD) ?_
  rintro _ _ ⟨L2,rfl,rfl⟩
  refine jC 2 [] [(1,a_ 12 b6)] [(12,[(11,vI (c2.code))])] ?_
  refine NL (ai.ax (NX (af.seq (SR ?_))))
  refine jK 4 [126] [(1,a_ 8 b2)] ?_
  refine sP 126 ((x.op:Int)=(11:Int)) (fun sY=>?_) (fun sY=>?_)
  ·omega
  refine jK 4 [130] [(1,a_ 8 b2)] ?_
  refine NN (cP ((x.op:Int)=(12:Int)) (fun zi=>?_) (fun zi=>?_))
  ·omega
  refine af.skip (NX (af.seq (jM [0,1,502,503] [9,12] ?_)))
  refine jG 2 [6,7,149,150] [(0,A_ 0 b3 13),(1,A_ 1 b6 13)] ?_
  refine kC [9,12] [] [(0,A_ 10 b4 13)] [(10,(mB x++[(3,.string x.name)]))] ?_
  refine bZ.last (by kernel_rfl) ?_
  refine jC 1 [] [(0,A_ 11 b5 13)] [(11,(mB x++[(11,vI (c2.code))]))] ?_
  refine NL (ai.np (NX (af.ret ?_)))
  exact rT _ [A_ 10 b4 13,A_ 11 b5 13] [0,1,2,3,4,5,6] (⟨L2,S2,(⟨x.op,x.handle,0,x.name,⟨#[]⟩,none,0,[],0,0,0,0,0,0,0⟩:ar),c2,(⟨(x.op),(x.handle),0,⟨#[]⟩,⟨#[]⟩,none,0,[],0,0,0,0,0,(c2.code),0⟩:ar),rfl,rfl,.mute hD (by exact dY hx.hw nO hx.nm (Nat.zero_le _) rfl)⟩)
 refine SR (jK 2 [101] [] ?_)
 refine NN (cP ((x.op:Int)=(15:Int)) (fun ZK=>?_) (fun ZK=>?_))
 ·refine af.seq (jM [0,1,2,3,4,5,6,507,8,509,10,511] [8] ?_)
  refine jG 7 [3,4,5,6,7,8,9,104,106,108,109] [(1,a_ 0 b2),(3,a_ 0 b2),(5,a_ 0 b2)] ?_
  refine kC [8] [] [(0,a_ 9 b3)] [(9,[(3,.string x.name)])] ?_
  refine jG 1 [3,4,5,6,7,8,9,106,108,110] [] ?_
  refine kC [8] [] [(0,a_ 9 b3)] [(9,[(2,vI (x.other))])] ?_
  refine jG 1 [3,4,5,6,7,8,9,108,111] [] ?_
  refine bZ.last (by kernel_rfl) ?_
  refine jC 1 [] [(0,a_ 9 b3)] [(9,[(4,.string x.text)])] ?_
  refine NL (ai.np (NX (af.region ?_)))
  refine jK 9 [112,114,116,118,120] [(0,a_ 7 b1),(2,a_ 8 b2),(4,a_ 8 b2),(6,a_ 8 b2),(8,a_ 8 b2)] ?_
  obtain⟨S2,c2,hD⟩:∃ S2 c2,dG S (⟨x.op,x.handle,x.other,x.name,x.text,none,0,[],0,0,0,0,0,0,0⟩:ar)=(S2,c2):=⟨_,_,rfl⟩
  refine gL [0,1,2,3,4,5] (Pa (β:=β) (S:=S) (L:=L) (f:=f) (m:=m) (t:=t) hI x.op ZK x.handle x.name x.other x.text (dY hx.hw hx.ow hx.nm hx.tx rfl) hD) ?_
  rintro _ _ ⟨L2,rfl,rfl⟩
  refine jC 2 [] [(1,a_ 12 b6)] [(12,[(11,vI (c2.code))])] ?_
  refine NL (ai.ax (NX (af.seq (SR ?_))))
  refine jK 4 [126] [(1,a_ 8 b2)] ?_
  refine sP 126 ((x.op:Int)=(11:Int)) (fun sY=>?_) (fun sY=>?_)
  ·omega
  refine jK 4 [130] [(1,a_ 8 b2)] ?_
  refine NN (cP ((x.op:Int)=(12:Int)) (fun zi=>?_) (fun zi=>?_))
  ·omega
  refine af.skip (NX (af.seq (jM [0,1,502,503] [9,12] ?_)))
  refine jG 2 [6,7,149,150] [(0,A_ 0 b3 13),(1,A_ 1 b6 13)] ?_
  refine kC [9,12] [] [(0,A_ 10 b4 13)] [(10,(mB x++[(2,vI (x.other)),(3,.string x.name),(4,.string x.text)]))] ?_
  refine bZ.last (by kernel_rfl) ?_
  refine jC 1 [] [(0,A_ 11 b5 13)] [(11,(mB x++[(11,vI (c2.code))]))] ?_
  refine NL (ai.np (NX (af.ret ?_)))
  exact rT _ [A_ 10 b4 13,A_ 11 b5 13] [0,1,2,3,4,5,6] (⟨L2,S2,(⟨x.op,x.handle,x.other,x.name,x.text,none,0,[],0,0,0,0,0,0,0⟩:ar),c2,(⟨(x.op),(x.handle),0,⟨#[]⟩,⟨#[]⟩,none,0,[],0,0,0,0,0,(c2.code),0⟩:ar),rfl,rfl,.mute hD (by exact dY hx.hw hx.ow hx.nm hx.tx rfl)⟩)
 omega
theorem ZL {β:Bs} {S:aI} {f m t:Nat} {L:HL} (hI:Inv S) (x:ar) (hx:Ch β x) (hxl:x.data.length<=1048576) (hop:1<=x.op/\x.op<=15) :
    cu Tryz.prog β 11 #[.agg #[.iface 33 (vP f)],.agg ⟨aK x⟩] (pA f m t L S) (fun β' v l=>∃ L2 S2 q c2 out,v=.tuple #[.agg ⟨aK q⟩,.agg ⟨aK out⟩]/\l=(pA f m t L2 S2)/\E0 β' S x.op S2 q c2 out):=by
 refine oW Tryz.func11 Tryz.ntmps11 (fun hle0 R=>?_)
 refine SR (jN 1 [2] (fun _=>[]) (fun _=>[]) (fun b8=>.blk b8 [.iface 33 (vP f)] 48) (fun b8=>?_))
 refine jN 1 [3] (fun _=>[]) (fun _=>[]) (fun b9=>.blk b9 (aK x) 53) (fun b9=>?_)
 refine jN 1 [4] (fun _=>[]) (fun _=>[]) (fun b10=>.blk b10 [vI 0,vI 0,vI 0,.string ⟨#[]⟩,.string ⟨#[]⟩,.slice none (0) (0),vI 0,vI 0,vI 0,vI 0,vI 0,vI 0,vI 0] 53) (fun b10=>?_)
 refine jN 1 [5] (fun _=>[]) (fun _=>[]) (fun b11=>.blk b11 [vI 0,vI 0,vI 0,.string ⟨#[]⟩,.string ⟨#[]⟩,.slice none (0) (0),vI 0,vI 0,vI 0,vI 0,vI 0,vI 0,vI 0] 53) (fun b11=>?_)
 refine NS (jN 7 [6] (fun b12=>[(1,a_ 8 b9),(3,a_ 8 b9),(6,A_ 11 b12 13)]) (fun _=>[]) (fun b12=>.blk b12 [vI (x.op),vI (x.handle),vI 0,.string ⟨#[]⟩,.string ⟨#[]⟩,.slice none (0) (0),vI 0,vI 0,vI 0,vI 0,vI 0,vI 0,vI 0] 53) (fun b12=>?_))
 refine NS (jN 3 [7] (fun b13=>[(0,A_ 11 b12 13),(2,A_ 12 b13 13)]) (fun _=>[]) (fun b13=>.blk b13 [vI (x.op),vI (x.handle),vI 0,.string ⟨#[]⟩,.string ⟨#[]⟩,.slice none (0) (0),vI 0,vI 0,vI 0,vI 0,vI 0,vI 0,vI 0] 53) (fun b13=>?_))
 refine NN (af.seq (SR (jK 2 [15] [(1,a_ 8 b9)] ?_)))
 refine NN (af.block (SR ?_))
 refine jK 2 [22] [] ?_
 refine NN (cP ((x.op:Int)=(1:Int)) (fun wj=>?_) (fun wj=>?_))
 ·refine SR (jC 6 [] [(1,a_ 8 b9),(3,a_ 8 b9),(5,A_ 11 b12 13)] [(11,[(1,vI 0),(2,vI (x.other))])] ?_)
  refine NN (af.region (jK 3 [30,32] [(0,a_ 7 b8),(2,a_ 8 b9)] ?_))
  obtain⟨S2,c2,hD⟩:∃ S2 c2,dG S (⟨x.op,0,x.other,⟨#[]⟩,⟨#[]⟩,none,0,[],0,0,0,0,0,0,0⟩:ar)=(S2,c2):=⟨_,_,rfl⟩
  refine gL [0,1,2,3,4,5] (U4 (β:=β) (S:=S) (L:=L) (f:=f) (m:=m) (t:=t) hI x.op wj x.other (dY nO hx.ow (Nat.zero_le _) (Nat.zero_le _) rfl) hD) ?_
  rintro _ _ ⟨L2,rfl,rfl⟩
  refine jC 7 [] [(4,a_ 12 b13),(6,a_ 12 b13)] [(12,(Bw c2))] ?_
  refine NL (ai.ax (NX (af.seq ?_)))
  refine jM [0,1,502,503] [11,12] ?_
  refine jG 2 [4,5,162,163] [(0,A_ 0 b12 13),(1,A_ 1 b13 13)] ?_
  refine kC [11,12] [] [(0,A_ 9 b10 13)] [(9,[(0,vI (x.op)),(2,vI (x.other))])] ?_
  refine bZ.last (by kernel_rfl) ?_
  refine jC 1 [] [(0,A_ 10 b11 13)] [(10,(mB x++Bw c2))] ?_
  refine NL (ai.np (NX (af.ret ?_)))
  exact rB (.tuple #[.agg #[vI (x.op),vI 0,vI (x.other),.string ⟨#[]⟩,.string ⟨#[]⟩,.slice none (0) (0),vI 0,vI 0,vI 0,vI 0,vI 0,vI 0,vI 0],.agg #[vI (x.op),vI (x.handle),vI 0,.string ⟨#[]⟩,.string ⟨#[]⟩,.slice none (0) (0),vI 0,vI 0,vI 0,vI 0,vI 0,vI (c2.code),vI (c2.answer)]]) [A_ 9 b10 13,A_ 10 b11 13] [0,1,2,3,4,5,6] hle0 (⟨L2,S2,(⟨x.op,0,x.other,⟨#[]⟩,⟨#[]⟩,none,0,[],0,0,0,0,0,0,0⟩:ar),c2,(⟨(x.op),(x.handle),0,⟨#[]⟩,⟨#[]⟩,none,0,[],0,0,0,0,0,(c2.code),(c2.answer)⟩:ar),rfl,rfl,.num hD (by exact dY nO hx.ow (Nat.zero_le _) (Nat.zero_le _) rfl)⟩)
 refine SR (jK 2 [38] [] ?_)
 refine NN (cP ((x.op:Int)=(2:Int)) (fun wk=>?_) (fun wk=>?_))
 ·refine SR (jC 4 [] [(1,a_ 8 b9),(3,a_ 11 b12)] [(11,[(3,.string x.name)])] ?_)
  refine NN (af.region (jK 5 [44,46,48] [(0,a_ 7 b8),(2,a_ 8 b9),(4,a_ 8 b9)] ?_))
  obtain⟨S2,c2,hD⟩:∃ S2 c2,dG S (⟨x.op,x.handle,0,x.name,⟨#[]⟩,none,0,[],0,0,0,0,0,0,0⟩:ar)=(S2,c2):=⟨_,_,rfl⟩
  refine gL [0,1,2,3,4,5] (LY (β:=β) (S:=S) (L:=L) (f:=f) (m:=m) (t:=t) hI x.op wk x.handle x.name (dY hx.hw nO hx.nm (Nat.zero_le _) rfl) hD) ?_
  rintro _ _ ⟨L2,rfl,rfl⟩
  refine jC 7 [] [(4,a_ 12 b13),(6,a_ 12 b13)] [(12,(Bw c2))] ?_
  refine NL (ai.ax (NX (af.seq ?_)))
  refine jM [0,1,502,503] [11,12] ?_
  refine jG 2 [4,5,162,163] [(0,A_ 0 b12 13),(1,A_ 1 b13 13)] ?_
  refine kC [11,12] [] [(0,A_ 9 b10 13)] [(9,(mB x++[(3,.string x.name)]))] ?_
  refine bZ.last (by kernel_rfl) ?_
  refine jC 1 [] [(0,A_ 10 b11 13)] [(10,(mB x++Bw c2))] ?_
  refine NL (ai.np (NX (af.ret ?_)))
  exact rB (.tuple #[.agg #[vI (x.op),vI (x.handle),vI 0,.string x.name,.string ⟨#[]⟩,.slice none (0) (0),vI 0,vI 0,vI 0,vI 0,vI 0,vI 0,vI 0],.agg #[vI (x.op),vI (x.handle),vI 0,.string ⟨#[]⟩,.string ⟨#[]⟩,.slice none (0) (0),vI 0,vI 0,vI 0,vI 0,vI 0,vI (c2.code),vI (c2.answer)]]) [A_ 9 b10 13,A_ 10 b11 13] [0,1,2,3,4,5,6] hle0 (⟨L2,S2,(⟨x.op,x.handle,0,x.name,⟨#[]⟩,none,0,[],0,0,0,0,0,0,0⟩:ar),c2,(⟨(x.op),(x.handle),0,⟨#[]⟩,⟨#[]⟩,none,0,[],0,0,0,0,0,(c2.code),(c2.answer)⟩:ar),rfl,rfl,.num hD (by exact dY hx.hw nO hx.nm (Nat.zero_le _) rfl)⟩)
 refine SR (jK 2 [54] [] ?_)
 refine NN (cP ((x.op:Int)=(3:Int)) (fun Q9=>?_) (fun Q9=>?_))
 ·refine SR (jC 4 [] [(1,a_ 8 b9),(3,a_ 11 b12)] [(11,[(3,.string x.name)])] ?_)
  refine NN (af.region (jK 5 [60,62,64] [(0,a_ 7 b8),(2,a_ 8 b9),(4,a_ 8 b9)] ?_))
  obtain⟨S2,c2,hD⟩:∃ S2 c2,dG S (⟨x.op,x.handle,0,x.name,⟨#[]⟩,none,0,[],0,0,0,0,0,0,0⟩:ar)=(S2,c2):=⟨_,_,rfl⟩
  refine gL [0,1,2,3,4,5] (Ld (β:=β) (S:=S) (L:=L) (f:=f) (m:=m) (t:=t) hI x.op Q9 x.handle x.name (dY hx.hw nO hx.nm (Nat.zero_le _) rfl) hD) ?_
  rintro _ _ ⟨L2,rfl,rfl⟩
  refine jC 7 [] [(4,a_ 12 b13),(6,a_ 12 b13)] [(12,(Bw c2))] ?_
  refine NL (ai.ax (NX (af.seq ?_)))
  refine jM [0,1,502,503] [11,12] ?_
  refine jG 2 [4,5,162,163] [(0,A_ 0 b12 13),(1,A_ 1 b13 13)] ?_
  refine kC [11,12] [] [(0,A_ 9 b10 13)] [(9,(mB x++[(3,.string x.name)]))] ?_
  refine bZ.last (by kernel_rfl) ?_
  refine jC 1 [] [(0,A_ 10 b11 13)] [(10,(mB x++Bw c2))] ?_
  refine NL (ai.np (NX (af.ret ?_)))
  exact rB (.tuple #[.agg #[vI (x.op),vI (x.handle),vI 0,.string x.name,.string ⟨#[]⟩,.slice none (0) (0),vI 0,vI 0,vI 0,vI 0,vI 0,vI 0,vI 0],.agg #[vI (x.op),vI (x.handle),vI 0,.string ⟨#[]⟩,.string ⟨#[]⟩,.slice none (0) (0),vI 0,vI 0,vI 0,vI 0,vI 0,vI (c2.code),vI (c2.answer)]]) [A_ 9 b10 13,A_ 10 b11 13] [0,1,2,3,4,5,6] hle0 (⟨L2,S2,(⟨x.op,x.handle,0,x.name,⟨#[]⟩,none,0,[],0,0,0,0,0,0,0⟩:ar),c2,(⟨(x.op),(x.handle),0,⟨#[]⟩,⟨#[]⟩,none,0,[],0,0,0,0,0,(c2.code),(c2.answer)⟩:ar),rfl,rfl,.num hD (by exact dY hx.hw nO hx.nm (Nat.zero_le _) rfl)⟩)
 refine SR (jK 2 [70] [] ?_)
 refine NN (cP ((x.op:Int)=(4:Int)) (fun Cp=>?_) (fun Cp=>?_))
 ·refine SR (jC 4 [] [(1,a_ 8 b9),(3,a_ 11 b12)] [(11,[(3,.string x.name)])] ?_)
  refine NS (jC 4 [] [(1,a_ 8 b9),(3,a_ 11 b12)] [(11,[(6,vI (x.mode))])] ?_)
  refine NN (af.region (jK 7 [78,80,82,84] [(0,a_ 7 b8),(2,a_ 8 b9),(4,a_ 8 b9),(6,a_ 8 b9)] ?_))
  obtain⟨S2,c2,hD⟩:∃ S2 c2,dG S (⟨x.op,x.handle,0,x.name,⟨#[]⟩,none,0,[],x.mode,0,0,0,0,0,0⟩:ar)=(S2,c2):=⟨_,_,rfl⟩
  refine gL [0,1,2,3,4,5] (Sk (β:=β) (S:=S) (L:=L) (f:=f) (m:=m) (t:=t) hI x.op Cp x.handle x.name x.mode (dY hx.hw nO hx.nm (Nat.zero_le _) rfl) hD) ?_
  rintro _ _ ⟨L2,rfl,rfl⟩
  refine jC 2 [] [(1,a_ 12 b13)] [(12,[(11,vI (c2.code))])] ?_
  refine NL (ai.ax (NX (af.seq ?_)))
  refine jM [0,1,502,503] [11,12] ?_
  refine jG 2 [4,5,162,163] [(0,A_ 0 b12 13),(1,A_ 1 b13 13)] ?_
  refine kC [11,12] [] [(0,A_ 9 b10 13)] [(9,(mB x++[(3,.string x.name),(6,vI (x.mode))]))] ?_
  refine bZ.last (by kernel_rfl) ?_
  refine jC 1 [] [(0,A_ 10 b11 13)] [(10,(mB x++[(11,vI (c2.code))]))] ?_
  refine NL (ai.np (NX (af.ret ?_)))
  exact rB (.tuple #[.agg #[vI (x.op),vI (x.handle),vI 0,.string x.name,.string ⟨#[]⟩,.slice none (0) (0),vI (x.mode),vI 0,vI 0,vI 0,vI 0,vI 0,vI 0],.agg #[vI (x.op),vI (x.handle),vI 0,.string ⟨#[]⟩,.string ⟨#[]⟩,.slice none (0) (0),vI 0,vI 0,vI 0,vI 0,vI 0,vI (c2.code),vI 0]]) [A_ 9 b10 13,A_ 10 b11 13] [0,1,2,3,4,5,6] hle0 (⟨L2,S2,(⟨x.op,x.handle,0,x.name,⟨#[]⟩,none,0,[],x.mode,0,0,0,0,0,0⟩:ar),c2,(⟨(x.op),(x.handle),0,⟨#[]⟩,⟨#[]⟩,none,0,[],0,0,0,0,0,(c2.code),0⟩:ar),rfl,rfl,.mute hD (by exact dY hx.hw nO hx.nm (Nat.zero_le _) rfl)⟩)
 refine SR (jK 2 [87] [] ?_)
 refine NN (cP ((x.op:Int)=(5:Int)) (fun h87=>?_) (fun h87=>?_))
 ·refine SR (jC 4 [] [(1,a_ 8 b9),(3,a_ 11 b12)] [(11,[(3,.string x.name)])] ?_)
  refine NS (jC 4 [] [(1,a_ 8 b9),(3,a_ 11 b12)] [(11,[(6,vI (x.mode))])] ?_)
  refine NN (af.region (jK 7 [96,98,100,102] [(0,a_ 7 b8),(2,a_ 8 b9),(4,a_ 8 b9),(6,a_ 8 b9)] ?_))
  obtain⟨S2,c2,hD⟩:∃ S2 c2,dG S (⟨x.op,x.handle,0,x.name,⟨#[]⟩,none,0,[],x.mode,0,0,0,0,0,0⟩:ar)=(S2,c2):=⟨_,_,rfl⟩
  refine gL [0,1,2,3,4,5] (O7 (β:=β) (S:=S) (L:=L) (f:=f) (m:=m) (t:=t) hI x.op h87 x.handle x.name x.mode (dY hx.hw nO hx.nm (Nat.zero_le _) rfl) hD) ?_
  rintro _ _ ⟨L2,rfl,rfl⟩
  refine jC 7 [] [(4,a_ 12 b13),(6,a_ 12 b13)] [(12,(Bw c2))] ?_
  refine NL (ai.ax (NX (af.seq ?_)))
  refine jM [0,1,502,503] [11,12] ?_
  refine jG 2 [4,5,162,163] [(0,A_ 0 b12 13),(1,A_ 1 b13 13)] ?_
  refine kC [11,12] [] [(0,A_ 9 b10 13)] [(9,(mB x++[(3,.string x.name),(6,vI (x.mode))]))] ?_
  refine bZ.last (by kernel_rfl) ?_
  refine jC 1 [] [(0,A_ 10 b11 13)] [(10,(mB x++Bw c2))] ?_
  refine NL (ai.np (NX (af.ret ?_)))
  exact rB (.tuple #[.agg #[vI (x.op),vI (x.handle),vI 0,.string x.name,.string ⟨#[]⟩,.slice none (0) (0),vI (x.mode),vI 0,vI 0,vI 0,vI 0,vI 0,vI 0],.agg #[vI (x.op),vI (x.handle),vI 0,.string ⟨#[]⟩,.string ⟨#[]⟩,.slice none (0) (0),vI 0,vI 0,vI 0,vI 0,vI 0,vI (c2.code),vI (c2.answer)]]) [A_ 9 b10 13,A_ 10 b11 13] [0,1,2,3,4,5,6] hle0 (⟨L2,S2,(⟨x.op,x.handle,0,x.name,⟨#[]⟩,none,0,[],x.mode,0,0,0,0,0,0⟩:ar),c2,(⟨(x.op),(x.handle),0,⟨#[]⟩,⟨#[]⟩,none,0,[],0,0,0,0,0,(c2.code),(c2.answer)⟩:ar),rfl,rfl,.num hD (by exact dY hx.hw nO hx.nm (Nat.zero_le _) rfl)⟩)
 refine SR (jK 2 [108] [] ?_)
 refine NN (cP ((x.op:Int)=(6:Int)) (fun ZM=>?_) (fun ZM=>?_))
 ·refine SR (jC 4 [] [(1,a_ 8 b9),(3,a_ 11 b12)] [(11,[(3,.string x.name)])] ?_)
  refine NS (jC 4 [] [(1,a_ 8 b9),(3,a_ 11 b12)] [(11,[(4,.string x.text)])] ?_)
  refine NN (af.region (jK 7 [116,118,120,122] [(0,a_ 7 b8),(2,a_ 8 b9),(4,a_ 8 b9),(6,a_ 8 b9)] ?_))
  obtain⟨S2,c2,hD⟩:∃ S2 c2,dG S (⟨x.op,x.handle,0,x.name,x.text,none,0,[],0,0,0,0,0,0,0⟩:ar)=(S2,c2):=⟨_,_,rfl⟩
  refine gL [0,1,2,3,4,5] (LZ (β:=β) (S:=S) (L:=L) (f:=f) (m:=m) (t:=t) hI x.op ZM x.handle x.name x.text (dY hx.hw nO hx.nm hx.tx rfl) hD) ?_
  rintro _ _ ⟨L2,rfl,rfl⟩
  refine jC 2 [] [(1,a_ 12 b13)] [(12,[(11,vI (c2.code))])] ?_
  refine NL (ai.ax (NX (af.seq ?_)))
  refine jM [0,1,502,503] [11,12] ?_
  refine jG 2 [4,5,162,163] [(0,A_ 0 b12 13),(1,A_ 1 b13 13)] ?_
  refine kC [11,12] [] [(0,A_ 9 b10 13)] [(9,(mB x++[(3,.string x.name),(4,.string x.text)]))] ?_
  refine bZ.last (by kernel_rfl) ?_
  refine jC 1 [] [(0,A_ 10 b11 13)] [(10,(mB x++[(11,vI (c2.code))]))] ?_
  refine NL (ai.np (NX (af.ret ?_)))
  exact rB (.tuple #[.agg #[vI (x.op),vI (x.handle),vI 0,.string x.name,.string x.text,.slice none (0) (0),vI 0,vI 0,vI 0,vI 0,vI 0,vI 0,vI 0],.agg #[vI (x.op),vI (x.handle),vI 0,.string ⟨#[]⟩,.string ⟨#[]⟩,.slice none (0) (0),vI 0,vI 0,vI 0,vI 0,vI 0,vI (c2.code),vI 0]]) [A_ 9 b10 13,A_ 10 b11 13] [0,1,2,3,4,5,6] hle0 (⟨L2,S2,(⟨x.op,x.handle,0,x.name,x.text,none,0,[],0,0,0,0,0,0,0⟩:ar),c2,(⟨(x.op),(x.handle),0,⟨#[]⟩,⟨#[]⟩,none,0,[],0,0,0,0,0,(c2.code),0⟩:ar),rfl,rfl,.mute hD (by exact dY hx.hw nO hx.nm hx.tx rfl)⟩)
 refine SR (jK 2 [125] [] ?_)
 refine NN (cP ((x.op:Int)=(8:Int)) (fun ZN=>?_) (fun ZN=>?_))
 ·refine SR (jC 4 [] [(1,a_ 8 b9),(3,a_ 11 b12)] [(11,[(3,.string x.name)])] ?_)
  refine NN (af.region (jK 5 [130,132,134] [(0,a_ 7 b8),(2,a_ 8 b9),(4,a_ 8 b9)] ?_))
  obtain⟨S2,c2,hD⟩:∃ S2 c2,dG S (⟨x.op,x.handle,0,x.name,⟨#[]⟩,none,0,[],0,0,0,0,0,0,0⟩:ar)=(S2,c2):=⟨_,_,rfl⟩
  refine gL [0,1,2,3,4,5] (O8 (β:=β) (S:=S) (L:=L) (f:=f) (m:=m) (t:=t) hI x.op ZN x.handle x.name (dY hx.hw nO hx.nm (Nat.zero_le _) rfl) hD) ?_
  rintro _ _ ⟨L2,rfl,rfl⟩
  refine jC 2 [] [(1,a_ 12 b13)] [(12,[(11,vI (c2.code))])] ?_
  refine NL (ai.ax (NX (af.seq ?_)))
  refine jM [0,1,502,503] [11,12] ?_
  refine jG 2 [4,5,162,163] [(0,A_ 0 b12 13),(1,A_ 1 b13 13)] ?_
  refine kC [11,12] [] [(0,A_ 9 b10 13)] [(9,(mB x++[(3,.string x.name)]))] ?_
  refine bZ.last (by kernel_rfl) ?_
  refine jC 1 [] [(0,A_ 10 b11 13)] [(10,(mB x++[(11,vI (c2.code))]))] ?_
  refine NL (ai.np (NX (af.ret ?_)))
  exact rB (.tuple #[.agg #[vI (x.op),vI (x.handle),vI 0,.string x.name,.string ⟨#[]⟩,.slice none (0) (0),vI 0,vI 0,vI 0,vI 0,vI 0,vI 0,vI 0],.agg #[vI (x.op),vI (x.handle),vI 0,.string ⟨#[]⟩,.string ⟨#[]⟩,.slice none (0) (0),vI 0,vI 0,vI 0,vI 0,vI 0,vI (c2.code),vI 0]]) [A_ 9 b10 13,A_ 10 b11 13] [0,1,2,3,4,5,6] hle0 (⟨L2,S2,(⟨x.op,x.handle,0,x.name,⟨#[]⟩,none,0,[],0,0,0,0,0,0,0⟩:ar),c2,(⟨(x.op),(x.handle),0,⟨#[]⟩,⟨#[]⟩,none,0,[],0,0,0,0,0,(c2.code),0⟩:ar),rfl,rfl,.mute hD (by exact dY hx.hw nO hx.nm (Nat.zero_le _) rfl)⟩)
 refine SR (jK 2 [137] [] ?_)
 refine NN (cP ((x.op:Int)=(9:Int)) (fun ZO=>?_) (fun ZO=>?_))
 ·refine SR (jK 2 [140] [(1,a_ 8 b9)] ?_)
  refine ak.x7 (d:=(some 141)) (R:=((pA f m t L S)++[.abs R,HE b8 f,pC b9 x,uz b10,uz b11,Nf b12 x,Nf b13 x])) (pk:=[0,1,2,3,4,5,6,7,8,9,10,11,12]) (fun _=>by kernel_rfl) (zE x.dA x.dC x.data hx.da hxl) rfl (by kernel_rfl) ?_
  rintro yY _ _ jj ⟨B1,p1,rfl,rfl,zD,hp1⟩
  replace hx:=hx.le jj
  replace hle0:=hle0.trans jj
  obtain⟨S2,c2,hD⟩:∃ S2 c2,dG S (⟨x.op,x.handle,0,⟨#[]⟩,⟨#[]⟩,B1,p1,x.data,0,0,0,0,0,0,0⟩:ar)=(S2,c2):=⟨_,_,rfl⟩
  refine jC 2 [] [(1,a_ 11 b12)] [(11,[(5,.slice B1 (x.data.length) (p1))])] ?_
  refine NN (jM [0,1,2,3,4,505,506,7,8,9,10,511,12,513] [7,8] ?_)
  refine jG 5 [4,5,6,7,144,146,148] [(0,a_ 0 b8),(2,a_ 1 b9),(4,a_ 1 b9)] ?_
  refine bZ.toH ?_
  have Sq:Grown yY yY:=.inl rfl
  refine oG.abS (ι:=Bs×(Option Addr)×Nat) (B:=fun ((qo,B2,p2):Bs×(Option Addr)×Nat)=>qo) (Φ:=fun ((qo,B2,p2):Bs×(Option Addr)×Nat)=>(aZ qo B2 x.data)/\(x.data.length<=p2)) (fr':=fun ((qo,B2,p2):Bs×(Option Addr)×Nat)=>[(4,vP b10),(5,vP b11),(6,vP b12),(7,vP b13),(144,.agg #[.iface 33 (vP f)]),(146,vI (x.handle)),(149,.slice B2 (x.data.length) (p2))]) (hp':=fun ((qo,B2,p2):Bs×(Option Addr)×Nat)=>((pA f m t L S)++[.abs R,HE b8 f,.blk b9 (aK x) 53,uz b10,uz b11,Sp b12 x B1 p1,Nf b13 x])) [7,8] Sq (by kernel_rfl) ?_ rfl (fun _=>by kernel_rfl) ?_
  ·refine ak.x7 (d:=(some 149)) (R:=((pA f m t L S)++[.abs R,HE b8 f,pC b9 x,uz b10,uz b11,Sp b12 x B1 p1,Nf b13 x])) (pk:=[0,1,2,3,4,5,6,7,8,9,10,11,12]) (fun _=>by kernel_rfl) (zE x.dA x.dC x.data hx.da hxl) rfl (by kernel_rfl) ?_
   rintro qo _ _ ig ⟨B2,p2,rfl,rfl,ZP,hp2⟩
   replace hx:=hx.le ig
   replace zD:=zD.le ig
   replace hle0:=hle0.trans ig
   refine NL ?_
   exact ai.aaS (qo,B2,p2) rfl ig (⟨ZP,hp2⟩) (idx:=[4,5,6,7,144,146,149]) (pk:=[0,1,2,3,4,5,6,7,8,9,10,11,12]) (fun _=>by kernel_rfl) rfl (by kernel_rfl)
  rintro⟨qo,B2,p2⟩ ig ⟨ZP,hp2⟩
  show oG _ qo _ _ _ _ _ (ZI b10 b11 b12 b13++[(144,.agg #[.iface 33 (vP f)]),(146,vI (x.handle)),(149,.slice B2 (x.data.length) (p2))]) ((pA f m t L S)++[.abs R,HE b8 f,pC b9 x,uz b10,uz b11,Sp b12 x B1 p1,Nf b13 x]) _
  replace hx:=hx.le ig
  replace zD:=zD.le ig
  replace hle0:=hle0.trans ig
  replace Sq:=Sq.trans ig
  refine oG.cut (ι:=HL) (fr':=fun (L2:HL)=>[(4,vP b10),(5,vP b11),(6,vP b12),(7,vP b13),(150,.tuple #[vI (c2.answer),vI (c2.code)])]) (hp':=fun (L2:HL)=>((pA f m t L2 S2)++[.abs R,HE b8 f,.blk b9 (aK x) 53,uz b10,uz b11,Sp b12 x B1 p1,Nf b13 x])) [7,8] Sq (by kernel_rfl) ?_ rfl (fun _=>by kernel_rfl) ?_
  ·refine gL [0,1,2,3,4,5] (Sl (β:=qo) (S:=S) (L:=L) (f:=f) (m:=m) (t:=t) hI x.op ZO x.handle B2 p2 x.data ⟨hx.hw,nO,Nat.zero_le _,Nat.zero_le _,ZP,by show x.data.length<=_;omega,hp2,rfl⟩ B1 p1 hD) ?_
   rintro _ _ ⟨L2,rfl,rfl⟩
   refine NL ?_
   exact MD L2 [4,5,6,7,150] [0,1,2,3,4,5,6,7,8,9,10,11,12]
  rintro L2
  refine gH [(false,11),(true,12),(false,13)] (ZI b10 b11 b12 b13++[(151,vI (c2.answer)),(152,vI (c2.code)),(153,.pointer (some ⟨b13,12,none⟩))]) [7,8,9,10] [] ?_
  refine oG.cut (ι:=Unit) (fr':=fun (_:Unit)=>[(4,vP b10),(5,vP b11),(6,vP b12),(7,vP b13),(152,vI (c2.code))]) (hp':=fun (_:Unit)=>((pA f m t L2 S2)++[.abs R,HE b8 f,.blk b9 (aK x) 53,uz b10,uz b11,Sp b12 x B1 p1,.blk b13 [vI (x.op),vI (x.handle),vI 0,.string ⟨#[]⟩,.string ⟨#[]⟩,.slice none (0) (0),vI 0,vI 0,vI 0,vI 0,vI 0,vI 0,vI (c2.answer)] 53])) [7,8] Sq (by kernel_rfl) ?_ rfl (fun _=>by kernel_rfl) ?_
  ·refine jC 1 [] [(0,a_ 12 b13)] [(12,[(12,vI (c2.answer))])] ?_
   refine NL ?_
   exact MD () [4,5,6,7,152] [0,1,2,3,4,5,6,7,8,9,10,11,12]
  rintro _
  refine gH [(false,13)] (ZI b10 b11 b12 b13++[(152,vI (c2.code)),(154,.pointer (some ⟨b13,11,none⟩))]) [12] [] ?_
  refine oG.last (by kernel_rfl) ?_
  refine jC 1 [] [(0,a_ 12 b13)] [(12,[(11,vI (c2.code))])] ?_
  refine NL (ai.np (ai.ax (NX (af.seq ?_))))
  refine jM [0,1,502,503] [11,12] ?_
  refine jG 2 [4,5,162,163] [(0,A_ 0 b12 13),(1,A_ 1 b13 13)] ?_
  refine kC [11,12] [] [(0,A_ 9 b10 13)] [(9,(mB x++[(5,.slice B1 (x.data.length) (p1))]))] ?_
  refine bZ.last (by kernel_rfl) ?_
  refine jC 1 [] [(0,A_ 10 b11 13)] [(10,(mB x++Bw c2))] ?_
  refine NL (ai.np (NX (af.ret ?_)))
  exact rB (l:=(pA f m t L2 S2)) (.tuple #[.agg #[vI (x.op),vI (x.handle),vI 0,.string ⟨#[]⟩,.string ⟨#[]⟩,.slice B1 (x.data.length) (p1),vI 0,vI 0,vI 0,vI 0,vI 0,vI 0,vI 0],.agg #[vI (x.op),vI (x.handle),vI 0,.string ⟨#[]⟩,.string ⟨#[]⟩,.slice none (0) (0),vI 0,vI 0,vI 0,vI 0,vI 0,vI (c2.code),vI (c2.answer)]]) [A_ 9 b10 13,A_ 10 b11 13] [0,1,2,3,4,5,6] hle0 (⟨L2,S2,(⟨x.op,x.handle,0,⟨#[]⟩,⟨#[]⟩,B1,p1,x.data,0,0,0,0,0,0,0⟩:ar),c2,(⟨(x.op),(x.handle),0,⟨#[]⟩,⟨#[]⟩,none,0,[],0,0,0,0,0,(c2.code),(c2.answer)⟩:ar),rfl,rfl,.num hD (by exact⟨hx.hw,nO,Nat.zero_le _,Nat.zero_le _,zD,by show x.data.length<=_;omega,hp1,rfl⟩)⟩)
 refine SR (jK 2 [155] [] ?_)
 refine NN (cP ((x.op:Int)=(13:Int)) (fun ZQ=>?_) (fun ZQ=>?_))
 ·refine af.region (jK 3 [157,159] [(0,a_ 7 b8),(2,a_ 8 b9)] ?_)
  obtain⟨S2,c2,hD⟩:∃ S2 c2,dG S (⟨x.op,x.handle,0,⟨#[]⟩,⟨#[]⟩,none,0,[],0,0,0,0,0,0,0⟩:ar)=(S2,c2):=⟨_,_,rfl⟩
  refine gL [0,1,2,3,4,5] (Sm (β:=β) (S:=S) (L:=L) (f:=f) (m:=m) (t:=t) hI x.op ZQ x.handle (dY hx.hw nO (Nat.zero_le _) (Nat.zero_le _) rfl) hD) ?_
  rintro _ _ ⟨L2,rfl,rfl⟩
  refine jC 2 [] [(1,a_ 12 b13)] [(12,[(11,vI (c2.code))])] ?_
  refine NL (ai.ax (NX (af.seq ?_)))
  refine jM [0,1,502,503] [11,12] ?_
  refine jG 2 [4,5,162,163] [(0,A_ 0 b12 13),(1,A_ 1 b13 13)] ?_
  refine kC [11,12] [] [(0,A_ 9 b10 13)] [(9,(mB x))] ?_
  refine bZ.last (by kernel_rfl) ?_
  refine jC 1 [] [(0,A_ 10 b11 13)] [(10,(mB x++[(11,vI (c2.code))]))] ?_
  refine NL (ai.np (NX (af.ret ?_)))
  exact rB (.tuple #[.agg #[vI (x.op),vI (x.handle),vI 0,.string ⟨#[]⟩,.string ⟨#[]⟩,.slice none (0) (0),vI 0,vI 0,vI 0,vI 0,vI 0,vI 0,vI 0],.agg #[vI (x.op),vI (x.handle),vI 0,.string ⟨#[]⟩,.string ⟨#[]⟩,.slice none (0) (0),vI 0,vI 0,vI 0,vI 0,vI 0,vI (c2.code),vI 0]]) [A_ 9 b10 13,A_ 10 b11 13] [0,1,2,3,4,5,6] hle0 (⟨L2,S2,(⟨x.op,x.handle,0,⟨#[]⟩,⟨#[]⟩,none,0,[],0,0,0,0,0,0,0⟩:ar),c2,(⟨(x.op),(x.handle),0,⟨#[]⟩,⟨#[]⟩,none,0,[],0,0,0,0,0,(c2.code),0⟩:ar),rfl,rfl,.mute hD (by exact dY hx.hw nO (Nat.zero_le _) (Nat.zero_le _) rfl)⟩)
 refine SR (jK 3 [16,17,18] [(0,a_ 7 b8),(1,A_ 8 b9 13),(2,A_ 11 b12 13)] ?_)
 refine gL [0,1,2,3,4,5] (U7 (β:=β) (S:=S) (L:=L) (f:=f) (m:=m) (t:=t) hI x hx (by omega)) ?_
 rintro _ _ ⟨L2,S2,q,c2,out,rfl,rfl,hby⟩
 refine jC 4 [] [(2,A_ 9 b10 13),(3,A_ 10 b11 13)] [(9,(zC (aK q))),(10,(zC (aK out)))] ?_
 refine NN (af.ret (ai.au (ai.aj ?_)))
 exact rB (.tuple #[.agg ⟨aK q⟩,.agg ⟨aK out⟩]) [A_ 9 b10 13,A_ 10 b11 13] [0,1,2,3,4,5,6] hle0 (⟨L2,S2,q,c2,out,rfl,rfl,hby⟩)
end
section
open Go.RowKit aX aq Go.Maps
theorem vC (us:Used Th):us.length=(keys us).length:=(List.length_map ..).symm
theorem ZR {S:aI} (h:Inv0 S):(keys S.us).length<=1048576:=by
  rw [← vC]
  have h1:=h.Al
  have h2:=h.cH
  omega
theorem U8 {S:aI} (h:Inv0 S):(aE S).length<=1048576:=by
  rw [eZ]
  have:=h.len
  omega
end
section
open Go.RowKit aX aq Go.Maps
theorem Sr {β:Bs} (A B:Option Addr) (c d:Nat) {n1 n2:Nat} {l1 l2:List Int} (e1:n1=l1.length) (e2:n2=l2.length) (e:l1=l2) (hB:bT β B (ints l2)) (hl:l1.length<=1048576) :
    Spec Tryz.prog β 44 #[.slice A n1 c,.slice B n2 d] [.abs (ay 3 1 A n1 c (ints l1))] (fun v l=>v=.bool true/\l=[.abs (ay 3 1 A n1 c (ints l1))]):=by
  subst e1 e2 e
  refine (Spec.Nn (pre:=[]) (post:=fun v l=>v=.bool true/\l=[]) (fun β' g=>?_)).mono (by rintro v l ⟨l0,⟨rfl,rfl⟩,rfl⟩;exact⟨rfl,rfl⟩)
  obtain⟨F,h1,h2⟩:=g.get 0 rfl
  exact UX A B c d l1 (bT.gu h1 h2 rfl) (hB.le g.le) hl
end
section
open Go.RowKit Go.Maps aX aq
attribute [local irreducible] ak aU af ai bZ
theorem St {β:Bs} {S:aI} {g:List Int} (hp:Pair S g) (Y:RL) (hR:cD β (toR S g) Y) (f m t:Nat) (L:HL) :
    Spec Tryz.prog β 13 #[vP f,.agg ⟨rV (toR S g) Y⟩] (pA f m t L S) (fun v l=>v=.bool true/\l=(pA f m t L S)):=by
 have hI:Inv S:=hp.inv
 refine SE Tryz.func13 Tryz.ntmps13 (fun R=>?_)
 refine SR (jN 2 [3] (fun _=>[]) (fun _=>[]) (fun b1=>.blk b1 (rV (toR S g) Y) 42) (fun b1=>?_))
 refine NN (af.seq (jM [0,2,3,501,504,5,6,8,9,10,507,511,12,13,14,16,17,18,515,19,20,21,22,24,523,525,26,27,528] [7] ?_))
 refine jG 3 [0,3,5,8] [(2,a_ 0 b1)] ?_
 refine kL [10] [0,1,3,4,5] (HB S L f m t hI) ?_ (by rintro _ _ ⟨Ao,co,Ko,rfl,rfl⟩;kernel_rfl)
 rintro _ _ ⟨Ao,co,Ko,rfl,rfl⟩
 refine kL [10] [5,6,7] (H7 Ao Y.A co Y.c (aE S) (aE S) Ko Y.L hR.n (U8 hI.toInv0) (UW hI.toInv0) (decide_eq_true rfl)) ?_ (by rintro _ _ ⟨rfl,rfl⟩;kernel_rfl)
 rintro _ _ ⟨rfl,rfl⟩
 refine jG 5 [0,3,10,11,15] [(4,a_ 0 b1)] ?_
 refine kL [11] [3,8] (Sc S L f m t) ?_ (by rintro _ _ ⟨Ah,ch,rfl,rfl⟩;kernel_rfl)
 rintro _ _ ⟨Ah,ch,rfl,rfl⟩
 refine kL [11] [2] (Sr (n1:=S.us.length) (n2:=(toR S g).us.length) (l1:=keys S.us) (l2:=keys (toR S g).us) Ah Y.H ch Y.ch (vC S.us) (gD (toR S g).us).symm y5.symm hR.h (ZR hI.toInv0)) ?_ (by rintro _ _ ⟨rfl,rfl⟩;kernel_rfl)
 rintro _ _ ⟨rfl,rfl⟩
 refine jG 6 [0,3,18,19,23] [(5,a_ 0 b1)] ?_
 refine kL [11] [1,2] ((UY S L f m t).val (congrArg (Value.int .i64) (show S.av=(toR S g).av from rfl))) ?_ (by rintro _ _ ⟨rfl,rfl⟩;kernel_rfl)
 rintro _ _ ⟨rfl,rfl⟩
 refine jG 5 [26,27,29] [(0,p_ ⟨[],none,none,none,some (.bool true)⟩ [(Value.bool (decide (((toR S g).av:Int)=((toR S g).av:Int))))=(.bool true)] ⟨by simp,trivial⟩),(4,A_ 0 b1 12)] ?_
 refine kL [11] [0] (UU f m t S.X) ?_ (by rintro _ _ ⟨rfl,rfl⟩;kernel_rfl)
 rintro _ _ ⟨rfl,rfl⟩
 refine kL [11] [] ((JT (toR S g) Y hR hp.rc.toRB).val (congrArg (Value.int .i64) (Du hI.toInv0))) ?_ (by rintro _ _ ⟨rfl,rfl⟩;kernel_rfl)
 rintro _ _ ⟨rfl,rfl⟩
 refine jG 2 [32] [(0,p_ ⟨[],none,none,none,some (.bool true)⟩ [(Value.bool (decide ((S.X.used:Int)=(S.X.used:Int))))=(.bool true)] ⟨by simp,trivial⟩)] ?_
 refine bZ.last (by kernel_rfl) ?_
 refine jK 1 [4] [] ?_
 refine NL (ai.np (NX (af.ret ?_)))
 exact RT _ [0,6,1,7,8,9,10] (⟨rfl,rfl⟩)
end
section
open Go.RowKit Go.Maps aX aq
structure lN where
  c:ar
  a:Tx
  root:Int
def Ci (x:lN):List Value:=[.int .i64 x.c.op,.int .i64 x.c.handle,.int .i64 x.c.other,.string x.c.name,.string x.c.text,.slice x.c.dA x.c.data.length x.c.dC,.int .i64 x.c.mode,.int .i64 x.c.uid,.int .i64 x.c.gid,.int .i64 x.c.sec,.int .i64 x.c.nano,.int .i64 x.c.code,.int .i64 x.c.answer,.int .i64 x.a.at_,.int .i64 x.a.op,.string x.a.path,.string x.a.to,.string x.a.text,.int .i64 x.root]
instance:Inhabited lN:=⟨⟨⟨0,0,0,⟨#[]⟩,⟨#[]⟩,none,0,[],0,0,0,0,0,0,0⟩,⟨0,0,⟨#[]⟩,⟨#[]⟩,⟨#[]⟩⟩,0⟩⟩
def iz (xs:List lN) (i:Nat):lN:=xs.getD i default
inductive Wm (S:aI) (x:lN):aI->Int->Prop
  | act (h:¬ x.a.op=0):Wm S x (X4 S x.root x.a).2 (X4 S x.root x.a).1
  | call (h:x.a.op=0) (A:Option Addr) (n:Nat):Wm S x (dG S { x.c with dA:=A,dC:=n }).1 (dG S { x.c with dA:=A,dC:=n }).2.code
section p
variable {S S2 S3:aI} {x:lN} {e:Int} {d to:Nat} {name toName text:ByteArray} {t:Th} {c:ar} {O:bX}
structure Grow (S S2:aI):Prop where
  used:S2.X.used<=S.X.used\/S2.X.used<=S.X.cB
  cB:S2.X.cB=S.X.cB
  cH:S2.X.cH=S.X.cH
  av:S.av<=S2.av
end p
end
section
open Go.RowKit Go.WideShapes Go.ChangeShapes Go.ChangeAt Go.Deep
def ZS (xs:List lN):List Value:=eY (fun _ x=>Ci x) 0 xs
structure wX (β:Bs) (x:lN) (b:Nat):Prop where
  data:aZ β x.c.dA x.c.data
  len:x.c.data.length<=b
  name:x.c.name.size<=b
  text:x.c.text.size<=b
  path:x.a.path.size<=b
  to:x.a.to.size<=b
  txt:x.a.text.size<=b
  hw:(Lit.int .i64 x.c.handle).wf=true
  ow:(Lit.int .i64 x.c.other).wf=true
  rw:(Lit.int .i64 x.root).wf=true
theorem wX.le {β β':Bs} {x:lN} {b:Nat} (h:wX β x b) (hle:β.le β'):wX β' x b:=⟨h.data.le hle,h.len,h.name,h.text,h.path,h.to,h.txt,h.hw,h.ow,h.rw⟩
structure fM (β:Bs) (A:Option Addr) (xs:List lN):Prop where
  row:bT β A (ZS xs)
  st:∀ i,i < xs.length->wX β (iz xs i) 1048576
theorem fM.le {β β':Bs} {A:Option Addr} {xs:List lN} (h:fM β A xs) (hle:β.le β'):fM β' A xs:=⟨h.row.le hle,fun i hi=>(h.st i hi).le hle⟩
section s
variable {β:Bs} {A:Option Addr} {xs:List lN} {i j:Nat} {v:Value}
theorem fM.get (h:fM β A xs) (hi:i < xs.length) (hv:(Ci (iz xs i))[j]?=some v):A=some ⟨aP A,aO A,none⟩/\Rd β ⟨aP A,aO A+i * 19+j,none⟩ v:=by
  have hj:j < 19:=bR hv
  have h1:=qU (f:=fun _ x=>Ci x) (s:=19) (fun _ _=>rfl) xs 0 i j _ (getD_some (x:=default) hi) hj
  have:=h.row (i * 19+j) v (h1.trans hv)
  rw [← Nat.add_assoc] at this
  exact this
theorem fM.hd (h:fM β A xs) (hi:i < xs.length):A=some ⟨aP A,aO A,none⟩:=(h.get hi (j:=0) rfl).1
theorem fM.rd (h:fM β A xs) (hi:i < xs.length) (hv:(Ci (iz xs i))[j]?=some v):Rd β ⟨aP A,aO A+i * 19+j,none⟩ v:=(h.get hi hv).2
end s
section a
variable {H:Type} {enc:TypeId×Value->H} {W:World} {sp:Nat->Bool}
theorem kW {t:TypeId} {n:Nat} {c:Value} {x:DataW H×List MemPlace} (ht:Tryz.prog.underlying t=some (.int .i64)) (h:DataW.trod enc Tryz.prog W 0 sp true n t [c]=some x):∃ z,c=.int .i64 z/\(Lit.int .i64 z).wf=true:=by
  obtain⟨z,h1,_,h3⟩:=DataW.trod_int ht h
  cases h1
  exact⟨z,rfl,h3⟩
theorem Sv {n:Nat} {cs:List Value} {x:DataW H×List MemPlace} (h:DataW.trod enc Tryz.prog W 0 sp true n 57 cs=some x):∃ a:lN,cs=Ci a/\wX (B0 W) a (Rows.uptoBulk x.1):=by
  obtain⟨ys,m,_,hx,hl,qv,hf⟩:=DataW.trod_struct Tryz.underlying57 h
  have hC:Tryz.prog.cellsOf 57=19:=by kernel_rfl
  rw [hC] at hl
  match cs,hl with
  | [c0,c1,c2,c3,c4,c5,c6,c7,c8,c9,c10,c11,zo,c13,Cz,wL,c16,c17,lP],_=>
    obtain⟨hc,bc⟩:=bh (hf 0 _ rfl) (by rw [qv];decide)
    obtain⟨ha,ba⟩:=bh (hf 1 _ rfl) (by rw [qv];decide)
    obtain⟨hr,_⟩:=bh (hf 2 _ rfl) (by rw [qv];decide)
    obtain⟨us,_,_,ZH,_,tR,hu⟩:=DataW.trod_struct Tryz.underlying53 hc
    obtain⟨h0,_⟩:=bh (hu 0 _ rfl) (by rw [tR];decide)
    obtain⟨h1,_⟩:=bh (hu 1 _ rfl) (by rw [tR];decide)
    obtain⟨h2,_⟩:=bh (hu 2 _ rfl) (by rw [tR];decide)
    obtain⟨h3,b3⟩:=bh (hu 3 _ rfl) (by rw [tR];decide)
    obtain⟨h4,b4⟩:=bh (hu 4 _ rfl) (by rw [tR];decide)
    obtain⟨h5,b5⟩:=bh (hu 5 _ rfl) (by rw [tR];decide)
    obtain⟨h6,_⟩:=bh (hu 6 _ rfl) (by rw [tR];decide)
    obtain⟨h7,_⟩:=bh (hu 7 _ rfl) (by rw [tR];decide)
    obtain⟨h8,_⟩:=bh (hu 8 _ rfl) (by rw [tR];decide)
    obtain⟨h9,_⟩:=bh (hu 9 _ rfl) (by rw [tR];decide)
    obtain⟨h10,_⟩:=bh (hu 10 _ rfl) (by rw [tR];decide)
    obtain⟨h11,_⟩:=bh (hu 11 _ rfl) (by rw [tR];decide)
    obtain⟨ts,_,_,_,_,htl,ht⟩:=DataW.trod_struct Tryz.underlying26 h9
    obtain⟨t0,_⟩:=bh (ht 0 _ rfl) (by rw [htl];decide)
    obtain⟨t1,_⟩:=bh (ht 1 _ rfl) (by rw [htl];decide)
    obtain⟨vs,_,_,hvx,_,hvl,hv⟩:=DataW.trod_struct Tryz.underlying55 ha
    obtain⟨a0,_⟩:=bh (hv 0 _ rfl) (by rw [hvl];decide)
    obtain⟨a1,_⟩:=bh (hv 1 _ rfl) (by rw [hvl];decide)
    obtain⟨a2,e2⟩:=bh (hv 2 _ rfl) (by rw [hvl];decide)
    obtain⟨a3,e3⟩:=bh (hv 3 _ rfl) (by rw [hvl];decide)
    obtain⟨a4,e4⟩:=bh (hv 4 _ rfl) (by rw [hvl];decide)
    obtain⟨z0,rfl,w0⟩:=kW (c:=c0) Tryz.underlying3 h0
    obtain⟨z1,rfl,w1⟩:=kW (c:=c1) Tryz.underlying3 h1
    obtain⟨z2,rfl,w2⟩:=kW (c:=c2) Tryz.underlying3 h2
    obtain⟨s3,rfl,l3⟩:=qL (c:=c3) Tryz.underlying9 h3
    obtain⟨s4,rfl,l4⟩:=qL (c:=c4) Tryz.underlying9 h4
    obtain⟨A5,p5,d5,rfl,q5,l5⟩:=Ej (c:=c5) h5
    obtain⟨z6,rfl,w6⟩:=kW (c:=c6) Tryz.underlying3 h6
    obtain⟨z7,rfl,w7⟩:=kW (c:=c7) Tryz.underlying3 h7
    obtain⟨z8,rfl,w8⟩:=kW (c:=c8) Tryz.underlying3 h8
    obtain⟨z9,rfl,w9⟩:=kW (c:=c9) Tryz.underlying3 t0
    obtain⟨z10,rfl,w10⟩:=kW (c:=c10) Tryz.underlying3 t1
    obtain⟨z11,rfl,w11⟩:=kW (c:=c11) Tryz.underlying34 h10
    obtain⟨z12,rfl,w12⟩:=kW (c:=zo) Tryz.underlying3 h11
    obtain⟨z13,rfl,w13⟩:=kW (c:=c13) Tryz.underlying3 a0
    obtain⟨z14,rfl,w14⟩:=kW (c:=Cz) Tryz.underlying3 a1
    obtain⟨s15,rfl,l15⟩:=qL (c:=wL) Tryz.underlying9 a2
    obtain⟨s16,rfl,l16⟩:=qL (c:=c16) Tryz.underlying9 a3
    obtain⟨s17,rfl,l17⟩:=qL (c:=c17) Tryz.underlying9 a4
    obtain⟨z18,rfl,w18⟩:=kW (c:=lP) Tryz.underlying3 hr
    have Zo:Rows.uptoBulk x.1=Rows.uptoBulk (.agg (ys.map (·.1))):=by rw [hx]
    have hbu:Rows.uptoBulk (ys[0]'(by rw [qv];decide)).1=Rows.uptoBulk (.agg (us.map (·.1))):=by rw [ZH]
    have hbv:Rows.uptoBulk (ys[1]'(by rw [qv];decide)).1=Rows.uptoBulk (.agg (vs.map (·.1))):=by rw [hvx]
    exact⟨⟨⟨z0,z1,z2,s3,s4,A5,p5,d5,z6,z7,z8,z9,z10,z11,z12⟩,⟨z13,z14,s15,s16,s17⟩,z18⟩,rfl,⟨q5,by show d5.length<=_;omega,by show s3.size<=_;omega,by show s4.size<=_;omega,by show s15.size<=_;omega,by show s16.size<=_;omega,by show s17.size<=_;omega,w1,w2,w18⟩⟩
theorem open_steps {v:Value} {d:DataW H} {ps:List MemPlace} {r:Go.Reach} {b0:Nat} (hval:Value.okWide Tryz.prog W r b0 31 v) (h:DataW.Trod enc Tryz.prog W 0 sp true 31 v d ps) (hb:Rows.uptoBulk d<=1048576) :
    ∃ A cp,∃ xs:List lN,v=.slice A xs.length cp/\fM (B0 W) A xs/\xs.length<=1048576/\xs.length<=cp:=by
  obtain⟨a,n,c,rfl⟩:=okWide_slice Tryz.underlying31 hval
  obtain⟨fuel,h⟩:=h
  obtain⟨A,cp,xs,D,h1,hcp,_,h2,h4,h3⟩:=yC (α:=lN) (f:=Ci) (Q:=fun a d=>wX (B0 W) a (Rows.uptoBulk d)) Tryz.underlying31 (size:=19) (by kernel_rfl) (by decide) (fun n cs x h=>Sv h) (fun _=>rfl) h
  cases h1
  have h5:=yB ((List.range xs.length).map D)
  have h3:Rows.uptoBulkAll ((List.range xs.length).map D)+1<=Rows.uptoBulk d:=h3
  refine⟨a,c,xs,rfl,⟨h2,fun i hi=>?_⟩,by simp at h5;omega,hcp⟩
  have h6:=h4 i hi
  have h7:=Df (D:=D) hi
  exact⟨h6.data,Nat.le_trans h6.len (by omega),Nat.le_trans h6.name (by omega),Nat.le_trans h6.text (by omega),Nat.le_trans h6.path (by omega),Nat.le_trans h6.to (by omega),Nat.le_trans h6.txt (by omega),h6.hw,h6.ow,h6.rw⟩
end a
end
section
open Go.RowKit Go.Maps aX aq
theorem wX.aaJ {β:Bs} {x:lN} (h:wX β x 1048576):Ch β x.c:=⟨h.hw,h.ow,h.name,h.text,h.data⟩
end
section
open Go.RowKit Go.Maps aX aq
attribute [local irreducible] ak aU af ai
theorem U9 {β:Bs}:cu Tryz.prog β 5 #[] [] (fun _ v l=>v=.bool true/\l=[]):=by
 refine oW Tryz.func5 Tryz.ntmps5 (fun hle0 R=>?_)
 refine SR (jK 1 [] [] ?_)
 refine NS (kZ [] (Sb) ?_)
 rintro β1 _ _ aT ⟨B,Y,rfl,rfl,hG⟩
 replace hle0:=hle0.trans aT
 refine jN 2 [1] (fun b2=>[(1,A_ 1 b2 6)]) (fun _=>[]) (fun b2=>.blk b2 [.slice B (2) (2),vI 9,vI 99,vI 9,vI 0,vI 0] 30) (fun b2=>?_)
 refine NS (jK 4 [10,12] [(1,a_ 1 b2),(3,A_ 1 b2 5)] ?_)
 refine gL [] (O5 (room:=99) (cp:=2) (by decide) hG) ?_
 rintro _ _ ⟨S,f3,m4,t5,L,h0,rfl,rfl⟩
 refine jK 5 [2,3] [] ?_
 refine NN (af.seq (SR (jK 6 [21] [] ?_)))
 refine NN (CF (af.skip (NX (SR (jK 2 [22,23] [] ?_)))))
 have bE:Inv (S1 S):=by have h:=h0.inv.dG zh;rw [K9 h0] at h;exact h
 refine gL [0,1,2,3,4,5] (DB (β:=β1) (f:=f3) (m:=m4) (t:=t5) (L:=L) h0.inv (dY (by decide) (by decide) (by decide) (by decide) rfl) (K9 h0)) ?_
 rintro _ _ ⟨L1,rfl,rfl⟩
 refine jN 2 [4] (fun b6=>[(1,A_ 8 b6 13)]) (fun _=>[]) (fun b6=>.blk b6 [vI 1,vI 0,vI 1,.string ⟨#[]⟩,.string ⟨#[]⟩,.slice none (0) (0),vI 0,vI 0,vI 0,vI 0,vI 0,vI 0,vI 1] 53) (fun b6=>?_)
 refine NS (jK 2 [25,26] [] ?_)
 obtain⟨S2,hd2,G7,hn2,hc2,ha2,hk2⟩:=ZE h0
 have sj:Inv S2:=by have h:=bE.dG xZ;rw [hd2] at h;exact h
 refine gL [0,1,2,3,4,5] (DB (β:=β1) (f:=f3) (m:=m4) (t:=t5) (L:=L1) bE (dY (by decide) (by decide) (by decide) (by decide) rfl) hd2) ?_
 rintro _ _ ⟨L2,rfl,rfl⟩
 refine jN 2 [5] (fun b7=>[(1,A_ 9 b7 13)]) (fun _=>[]) (fun b7=>.blk b7 [vI 4,vI 1,vI 0,.string ⟨#[100]⟩,.string ⟨#[]⟩,.slice none (0) (0),vI 448,vI 0,vI 0,vI 0,vI 0,vI 0,vI 0] 53) (fun b7=>?_)
 refine NS (jK 2 [28,29] [] ?_)
 obtain⟨S3,hd3,hi3⟩:=ZF G7 hc2 ha2 hk2
 have xS:Inv S3:=by have h:=sj.dG EW;rw [hd3] at h;exact h
 refine gL [0,1,2,3,4,5] (DB (β:=β1) (f:=f3) (m:=m4) (t:=t5) (L:=L2) sj (dY (by decide) (by decide) (by decide) (by decide) rfl) hd3) ?_
 rintro _ _ ⟨L3,rfl,rfl⟩
 refine jN 2 [6] (fun b8=>[(1,A_ 10 b8 13)]) (fun _=>[]) (fun b8=>.blk b8 [vI 2,vI 1,vI 0,.string ⟨#[100]⟩,.string ⟨#[]⟩,.slice none (0) (0),vI 0,vI 0,vI 0,vI 0,vI 0,vI 0,vI 2] 53) (fun b8=>?_)
 refine NS (jK 20 [49,50] [(1,a_ 8 b6),(5,a_ 8 b6),(10,a_ 9 b7),(15,a_ 10 b8)] ?_)
 refine kZ [0,1,3,4,5] (O4 (β:=β1) (S:=S3) (L:=L3) (f:=f3) (m:=m4) (t:=t5) xS) ?_
 rintro Zc _ _ rz ⟨A4,c4,K4,rfl,rfl,_⟩
 replace hG:=hG.le rz
 replace hle0:=hle0.trans rz
 refine jK 5 [0] [(1,p_ ⟨[],none,none,none,some (vI (((3:Nat):Int)))⟩ [((.int .i64 ↑((aE S3).length):Value))=(.int .i64 (((3:Nat):Int)))] ⟨by rw [eZ,hi3,hn2],trivial⟩)] ?_
 refine NN (af.ret ?_)
 exact rB _ [] [6] hle0 (⟨rfl,rfl⟩)
end
section
open Go.RowKit Go.Maps aX aq
attribute [local irreducible] ak aU af ai bZ
noncomputable abbrev ZT (b2:Nat) (A:Option Addr) (ns:List aA) (c) (X:FM):=(.blk b2 [.slice A (ns.length) (c),vI (X.cN),vI (X.cB),vI (X.cH),vI (X.cS),vI (X.cZ)] 30:HP)
theorem ZU {β:Bs} (A:Option Addr) (c:Nat) (xs:List lN) (hc:xs.length<=c) :
    Spec Tryz.prog β 10 #[.slice A xs.length c] [] (fun v l=>∃ n,n<=xs.length/\v=.slice A n c/\l=[]):=by
 refine SE Tryz.func10 Tryz.ntmps10 (fun R=>?_)
 refine SR (jK 1 [] [] ?_)
 refine NN (af.seq (SR (jK 3 [5] [] ?_)))
 refine NN (cP ((((xs.length:Nat):Int):Int) > (300:Int)) (fun h5=>?_) (fun h5=>?_))
 ·refine SR (jK 3 [2] [(1,p_ ⟨[],some 300,none,none,none⟩ [300=((300:Nat):Int),300<=c] ⟨rfl,by omega,trivial⟩)] ?_)
  refine NN (af.ret (ai.aj ?_))
  exact RT _ [0] (⟨300,by omega,rfl,rfl⟩)
 refine af.skip (NX (SR (jK 2 [2] [] ?_)))
 refine NN (af.ret ?_)
 exact RT _ [0] (⟨xs.length,Nat.le_refl _,rfl,rfl⟩)
theorem aaK {β:Bs} {f:Nat} :
    Spec Tryz.prog β 9 #[.iface 33 (vP f)] [] (fun v l=>v=.agg #[.iface 33 (vP f)]/\l=[]):=by
 refine SE Tryz.func9 Tryz.ntmps9 (fun R=>?_)
 refine SR (jN 1 [2] (fun _=>[]) (fun _=>[]) (fun b1=>.blk b1 [.nilIface] 48) (fun b1=>?_))
 refine NS (jC 3 [] [(2,a_ 1 b1)] [(1,[(0,.iface 33 (vP f))])] ?_)
 refine NN (af.ret ?_)
 exact rT _ [a_ 1 b1] [0] (⟨rfl,rfl⟩)
theorem law_calls (W:World) (A:Option Addr) (c:Nat) (ns:List aA) (Y0:Lay) (X:FM) (hG:aB (B0 W) A ns Y0) (hB:lg ns 1048576) (A1:Option Addr) (c1:Nat) (xs:List lN) (hS:fM (B0 W) A1 xs) (hxl:xs.length<=1048576) (hxc:xs.length<=c1) :
    Spec Tryz.prog (B0 W) 3 #[.agg #[.slice A (ns.length) (c),vI (X.cN),vI (X.cB),vI (X.cH),vI (X.cS),vI (X.cZ)],.slice A1 (xs.length) (c1)] [] (fun v _=>v=.bool true):=by
 have hle0:=B0.refl W
 refine SE Tryz.func3 Tryz.ntmps3 (fun R=>?_)
 refine SR (jN 2 [2] (fun _=>[]) (fun _=>[]) (fun b2=>.blk b2 [.slice A (ns.length) (c),vI (X.cN),vI (X.cB),vI (X.cH),vI (X.cS),vI (X.cZ)] 30) (fun b2=>?_))
 refine NN (af.seq (SR (kZ [] (U9) ?_)))
 rintro uy _ _ dz ⟨rfl,rfl⟩
 replace hG:=hG.le dz
 replace hS:=hS.le dz
 replace hle0:=hle0.trans dz
 refine jK 1 [17] [] ?_
 refine NN (CF (af.skip (NX (af.seq ?_))))
 by_cases DE:kQ X/\aV ns
 ·refine jM [0,1,3,4,502,505,6,7,8,9,510] [1] ?_
  refine jG 4 [1,2,20,23] [(1,a_ 0 b2),(3,A_ 0 b2 5)] ?_
  refine kL [2] [] (uh (β:=uy) A c ns Y0 hG (Ce hB) (Cg hB)) ?_ (by rintro _ _ ⟨B,cp,rfl,rfl⟩;kernel_rfl)
  rintro _ _ ⟨B,cp,rfl,rfl⟩
  refine kL [7] [0] (Sh (β:=uy) DE.1 DE.2 B cp hB) ?_ (by rintro _ _ ⟨N,f,m,t,L,rfl,rfl⟩;kernel_rfl)
  rintro _ _ ⟨N,f,m,t,L,rfl,rfl⟩
  refine jG 4 [1,2,5,26] [] ?_
  refine bZ.last (by kernel_rfl) ?_
  refine jK 1 [6] [] ?_
  refine NL (ai.np (NX (SR ?_)))
  refine jK 4 [29,31] [(1,a_ 7 b2),(3,A_ 7 b2 5)] ?_
  refine ak.x7 (d:=(some 32)) (R:=((pA f m t L N.1)++[.abs R,ZT b2 A ns c X])) (pk:=[0,1,2,3,4,5,6,7]) (fun _=>by kernel_rfl) (U3 N DE.1 DE.2 A c hG hB) rfl (by kernel_rfl) ?_
  rintro wP _ _ dX ⟨Y,rfl,rfl,hR⟩
  replace hG:=hG.le dX
  replace hS:=hS.le dX
  replace hle0:=hle0.trans dX
  refine jN 6 [7,8] (fun b5=>[(4,A_ 8 b5 12)]) (fun _=>[]) (fun b5=>.blk b5 (rV (toR N.1 []) Y) 42) (fun b5=>?_)
  refine NN (af.seq (SR (jK 7 [41] [] ?_)))
  refine NN (CF (af.skip (NX (SR (jK 2 [50] [] ?_)))))
  refine gL [] (aaK (β:=wP) (f:=f)) ?_
  rintro _ _ ⟨rfl,rfl⟩
  refine jN 2 [9] (fun b6=>[(1,a_ 9 b6)]) (fun _=>[]) (fun b6=>.blk b6 [.iface 33 (vP f)] 48) (fun b6=>?_)
  refine NS (jK 1 [52] [] ?_)
  refine gL [] (ZU A1 c1 xs hxc) ?_
  rintro _ _ ⟨n,hn,rfl,rfl⟩
  refine jK 1 [1] [] ?_
  refine NN (af.seq (SR (jK 1 [10] [] ?_)))
  refine NN (af.block ?_)
  refine lB (ι:=Nat×Bs×aI×(List Int)×HL×RL) (fun (i,b,S,g,L,Y)=>b) (fun (i,b,S,g,L,Y)=>(i<=n)/\((B0 W).le b)/\(fM b A1 xs)/\(Pair S g)/\(cD b (toR S g) Y)) (fun (i,b,S,g,L,Y)=>n - i) (fun (i,b,S,g,L,Y)=>[(1,.slice A1 (n) (c1)),(5,vP f),(7,vP b5),(9,vP b6),(10,vI ↑i)]) (fun (i,b,S,g,L,Y)=>([ZT b2 A ns c X,.blk b5 (rV (toR S g) Y) 42,HE b6 f]++R8 f m t S L R)) (0,wP,N.1,[],L,Y) [7,8,9,0,1,2,3,4,5,6] (⟨Nat.zero_le _,hle0,hS,.start N DE.2,hR⟩) ?_
  rintro⟨i,b,S,g,L,Y⟩ ⟨hi,hle0,hS,hp,hR⟩
  refine af.seq (SR (jK 4 [57] [] ?_))
  refine NN (cP ((((i:Nat):Int):Int) < (((n:Nat):Int):Int)) (fun vo=>?_) (fun vo=>?_))
  ·refine af.skip (NX (af.seq (af.block (SR ?_))))
   refine jN 7 [11] (fun b7=>[(2,x_ i n (fM.hd hS (i:=i) (by omega))),(4,p_ ⟨[.old (.int .i64 ((iz xs i).c.op)),.old (.int .i64 ((iz xs i).c.handle)),.old (.int .i64 ((iz xs i).c.other)),.old (.string (iz xs i).c.name),.old (.string (iz xs i).c.text),.old (.slice (iz xs i).c.dA ((iz xs i).c.data.length) ((iz xs i).c.dC)),.old (.int .i64 ((iz xs i).c.mode)),.old (.int .i64 ((iz xs i).c.uid)),.old (.int .i64 ((iz xs i).c.gid)),.old (.int .i64 ((iz xs i).c.sec)),.old (.int .i64 ((iz xs i).c.nano)),.old (.int .i64 ((iz xs i).c.code)),.old (.int .i64 ((iz xs i).c.answer))],none,none,none,none⟩ [(Rd b ⟨(aP A1),aO A1+i * 19+12,none⟩ (.int .i64 ((iz xs i).c.answer))),(Rd b ⟨(aP A1),aO A1+i * 19+11,none⟩ (.int .i64 ((iz xs i).c.code))),(Rd b ⟨(aP A1),aO A1+i * 19+10,none⟩ (.int .i64 ((iz xs i).c.nano))),(Rd b ⟨(aP A1),aO A1+i * 19+9,none⟩ (.int .i64 ((iz xs i).c.sec))),(Rd b ⟨(aP A1),aO A1+i * 19+8,none⟩ (.int .i64 ((iz xs i).c.gid))),(Rd b ⟨(aP A1),aO A1+i * 19+7,none⟩ (.int .i64 ((iz xs i).c.uid))),(Rd b ⟨(aP A1),aO A1+i * 19+6,none⟩ (.int .i64 ((iz xs i).c.mode))),(Rd b ⟨(aP A1),aO A1+i * 19+5,none⟩ (.slice (iz xs i).c.dA ((iz xs i).c.data.length) ((iz xs i).c.dC))),(Rd b ⟨(aP A1),aO A1+i * 19+4,none⟩ (.string (iz xs i).c.text)),(Rd b ⟨(aP A1),aO A1+i * 19+3,none⟩ (.string (iz xs i).c.name)),(Rd b ⟨(aP A1),aO A1+i * 19+2,none⟩ (.int .i64 ((iz xs i).c.other))),(Rd b ⟨(aP A1),aO A1+i * 19+1,none⟩ (.int .i64 ((iz xs i).c.handle))),(Rd b ⟨(aP A1),aO A1+i * 19,none⟩ (.int .i64 ((iz xs i).c.op)))] ⟨fM.rd hS (i:=i) (by omega) (j:=12) rfl,fM.rd hS (i:=i) (by omega) (j:=11) rfl,fM.rd hS (i:=i) (by omega) (j:=10) rfl,fM.rd hS (i:=i) (by omega) (j:=9) rfl,fM.rd hS (i:=i) (by omega) (j:=8) rfl,fM.rd hS (i:=i) (by omega) (j:=7) rfl,fM.rd hS (i:=i) (by omega) (j:=6) rfl,fM.rd hS (i:=i) (by omega) (j:=5) rfl,fM.rd hS (i:=i) (by omega) (j:=4) rfl,fM.rd hS (i:=i) (by omega) (j:=3) rfl,fM.rd hS (i:=i) (by omega) (j:=2) rfl,fM.rd hS (i:=i) (by omega) (j:=1) rfl,fM.rd hS (i:=i) (by omega) (j:=0) rfl,trivial⟩),(6,A_ 10 b7 13)]) (fun _=>[]) (fun b7=>.blk b7 (aK ((iz xs i).c)) 53) (fun b7=>?_)
   refine NN (af.seq (af.seq ?_))
   by_cases hlo:(iz xs i).c.op < 1
   ·refine af.region (jK 8 [72] [(1,a_ 10 b7),(2,wT (((iz xs i).c.op:Int) < (1:Int)) hlo)] ?_)
    refine NN (CT (af.exit (ai.aC (ai.aW (NX (af.region ?_))))))
    refine jK 3 [10] [(1,wJ ((i:Int)+1) (↑(i+1)))] ?_
    refine NL ?_
    exact tB ((i+1),b,S,g,L,Y) [0,1,2,3,4,5,6,7,8,9] (⟨by omega,hle0,hS,hp,hR⟩)
   refine af.region (jK 8 [72] [(1,a_ 10 b7),(2,wF (((iz xs i).c.op:Int) < (1:Int)) hlo),(5,a_ 10 b7)] ?_)
   refine NN (cP (((iz xs i).c.op:Int) > (15:Int)) (fun h72=>?_) (fun h72=>?_))
   ·refine af.exit (ai.aC (ai.aW (NX (af.region ?_))))
    refine jK 3 [10] [(1,wJ ((i:Int)+1) (↑(i+1)))] ?_
    refine NL ?_
    exact tB ((i+1),b,S,g,L,Y) [0,1,2,3,4,5,6,7,8,9] (⟨by omega,hle0,hS,hp,hR⟩)
   refine af.skip (NX (SR (jK 2 [74,75] [(0,a_ 2 b6),(1,A_ 10 b7 13)] ?_)))
   refine kZ [3,4,5,6,7,8] (ZL (β:=b) (S:=S) (L:=L) (f:=f) (m:=m) (t:=t) hp.inv (iz xs i).c (hS.st i (by omega)).aaJ (hS.st i (by omega)).len (by omega)) ?_
   rintro Zb _ _ rf ⟨L2,S2,q,c2,out,rfl,rfl,hby⟩
   replace hS:=hS.le rf
   replace hR:=hR.le rf
   replace hle0:=hle0.trans rf
   refine jN 4 [12,77,78] (fun _=>[]) (fun _=>[]) (fun b9=>.blk b9 [vI 0,vI 0,vI 0,.string ⟨#[]⟩,.string ⟨#[]⟩,.slice none (0) (0),vI 0,vI 0,vI 0,vI 0,vI 0,vI 0,vI 0] 53) (fun b9=>?_)
   refine jN 3 [13] (fun b10=>[(1,A_ 11 b9 13),(2,A_ 12 b10 13)]) (fun b10=>[(11,(zC (aK q)))]) (fun b10=>.blk b10 (aK out) 53) (fun b10=>?_)
   refine NS (jK 2 [80,81] [(0,A_ 7 b5 12),(1,A_ 11 b9 13)] ?_)
   refine ak.x7 (d:=(some 82)) (R:=((pA f m t L2 S2)++[ZT b2 A ns c X,.blk b5 (rV (toR S g) Y) 42,HE b6 f,.abs R,pC b7 ((iz xs i).c),pC b9 q,pC b10 out])) (pk:=[0,1,2,3,4,5,6,7,8,9,10,11,12]) (fun _=>by kernel_rfl) (Sg hp hR hby.did hby.ok.nm hby.ok.tx hby.ok.da (Nat.le_trans hby.dl (by decide)) hby.ok.dc) rfl (by kernel_rfl) ?_
   rintro Dq _ _ mK ⟨g2,Y2,B2,p2,rfl,rfl,hp2,MX,_⟩
   replace hS:=hS.le mK
   replace hR:=hR.le mK
   replace hby:=hby.le mK
   replace hle0:=hle0.trans mK
   refine jN 4 [14,83,84] (fun _=>[]) (fun _=>[]) (fun b12=>.blk b12 (rZ) 42) (fun b12=>?_)
   refine jN 3 [15] (fun b13=>[(1,A_ 13 b12 12),(2,A_ 14 b13 13)]) (fun b13=>[(13,(zC (rV (toR S2 g2) Y2)))]) (fun b13=>.blk b13 (aK (cM c2 B2 p2)) 53) (fun b13=>?_)
   refine NS (jC 2 [] [(0,A_ 13 b12 12),(1,A_ 7 b5 12)] [(7,(zC (rV (toR S2 g2) Y2)))] ?_)
   refine NN (af.seq (SR (jK 15 [98,99,100] [(1,a_ 12 b10),(3,a_ 14 b13),(4,p_ ⟨[],none,none,none,some (.bool false)⟩ [((.bool (!(decide ((out.answer:Int)=(c2.answer:Int)))):Value))=(.bool false)] ⟨congrArg (fun b=>Value.bool !b) (decide_eq_true hby.Wk),trivial⟩),(7,a_ 12 b10),(9,a_ 14 b13),(10,p_ ⟨[],none,none,none,some (.bool false)⟩ [((.bool (!(decide ((out.code:Int)=(c2.code:Int)))):Value))=(.bool false)] ⟨congrArg (fun b=>Value.bool !b) (decide_eq_true hby.code),trivial⟩),(14,A_ 7 b5 12)] ?_)))
   refine gL [0,1,2,3,4,5] (St (β:=Dq) hp2 Y2 MX f m t L2) ?_
   rintro _ _ ⟨rfl,rfl⟩
   refine jK 2 [103] [] ?_
   refine NN (CF (af.skip (NX (af.seq ?_))))
   rcases (show (iz xs i).c.op=11\/(iz xs i).c.op=12\/¬ ((iz xs i).c.op=11\/(iz xs i).c.op=12) by omega) with h11|h11|h11
   ·refine af.region (jK 40 [112,139,141,143] [(1,a_ 10 b7),(2,wT (((iz xs i).c.op:Int)=(11:Int)) h11),(10,a_ 12 b10),(12,a_ 14 b13),(13,p_ ⟨[],none,none,none,some (.bool false)⟩ [((.bool (!(decide ((out.other:Int)=(c2.other:Int)))):Value))=(.bool false)] ⟨congrArg (fun b=>Value.bool !b) (decide_eq_true (hby.st (by omega)).1),trivial⟩),(16,a_ 12 b10),(18,a_ 14 b13),(19,p_ ⟨[],none,none,none,some (.bool false)⟩ [((.bool (!(decide ((out.mode:Int)=(c2.mode:Int)))):Value))=(.bool false)] ⟨congrArg (fun b=>Value.bool !b) (decide_eq_true (hby.st (by omega)).2.1),trivial⟩),(23,a_ 12 b10),(25,a_ 14 b13),(26,p_ ⟨[],none,none,none,some (.bool false)⟩ [((.bool (!(decide ((out.uid:Int)=(c2.uid:Int)))):Value))=(.bool false)] ⟨congrArg (fun b=>Value.bool !b) (decide_eq_true (hby.st (by omega)).2.2.1),trivial⟩),(30,a_ 12 b10),(32,a_ 14 b13),(33,p_ ⟨[],none,none,none,some (.bool false)⟩ [((.bool (!(decide ((out.gid:Int)=(c2.gid:Int)))):Value))=(.bool false)] ⟨congrArg (fun b=>Value.bool !b) (decide_eq_true (hby.st (by omega)).2.2.2.1),trivial⟩),(37,A_ 12 b10 2),(39,A_ 14 b13 2)] ?_)
    refine ak.jI (d:=(some 144)) (op:=.binOp .neq 26 (.tmp 141) (.tmp 143) 26) (v:=.bool (!(decide ((out.sec:Int)=(c2.sec:Int)/\(out.nano:Int)=(c2.nano:Int))))) (fun _=>by kernel_rfl) (fun o junk w ho hS=>⟨w,xk ho (by kernel_rfl) (by kernel_rfl),hS⟩) ?_
    refine jK 2 [146] [] ?_
    refine NN (cN ((out.sec:Int)=(c2.sec:Int)/\(out.nano:Int)=(c2.nano:Int)) (fun Le=>?_) (fun Le=>?_))
    ·exact absurd ⟨(hby.st (by omega)).2.2.2.2.1,(hby.st (by omega)).2.2.2.2.2⟩ Le
    refine af.skip (ai.ax (NX (af.region ?_)))
    refine jK 3 [10] [(1,wJ ((i:Int)+1) (↑(i+1)))] ?_
    refine NL ?_
    exact tB ((i+1),Dq,S2,g2,L2,Y2) [6,7,8,0,1,2,3,4,5,9] (⟨by omega,hle0,hS,hp2,MX⟩)
   ·refine af.region (jK 40 [112,139,141,143] [(1,a_ 10 b7),(2,wF (((iz xs i).c.op:Int)=(11:Int))),(5,a_ 10 b7),(6,wT (((iz xs i).c.op:Int)=(12:Int)) h11),(10,a_ 12 b10),(12,a_ 14 b13),(13,p_ ⟨[],none,none,none,some (.bool false)⟩ [((.bool (!(decide ((out.other:Int)=(c2.other:Int)))):Value))=(.bool false)] ⟨congrArg (fun b=>Value.bool !b) (decide_eq_true (hby.st (by omega)).1),trivial⟩),(16,a_ 12 b10),(18,a_ 14 b13),(19,p_ ⟨[],none,none,none,some (.bool false)⟩ [((.bool (!(decide ((out.mode:Int)=(c2.mode:Int)))):Value))=(.bool false)] ⟨congrArg (fun b=>Value.bool !b) (decide_eq_true (hby.st (by omega)).2.1),trivial⟩),(23,a_ 12 b10),(25,a_ 14 b13),(26,p_ ⟨[],none,none,none,some (.bool false)⟩ [((.bool (!(decide ((out.uid:Int)=(c2.uid:Int)))):Value))=(.bool false)] ⟨congrArg (fun b=>Value.bool !b) (decide_eq_true (hby.st (by omega)).2.2.1),trivial⟩),(30,a_ 12 b10),(32,a_ 14 b13),(33,p_ ⟨[],none,none,none,some (.bool false)⟩ [((.bool (!(decide ((out.gid:Int)=(c2.gid:Int)))):Value))=(.bool false)] ⟨congrArg (fun b=>Value.bool !b) (decide_eq_true (hby.st (by omega)).2.2.2.1),trivial⟩),(37,A_ 12 b10 2),(39,A_ 14 b13 2)] ?_)
    refine ak.jI (d:=(some 144)) (op:=.binOp .neq 26 (.tmp 141) (.tmp 143) 26) (v:=.bool (!(decide ((out.sec:Int)=(c2.sec:Int)/\(out.nano:Int)=(c2.nano:Int))))) (fun _=>by kernel_rfl) (fun o junk w ho hS=>⟨w,xk ho (by kernel_rfl) (by kernel_rfl),hS⟩) ?_
    refine jK 2 [146] [] ?_
    refine NN (cN ((out.sec:Int)=(c2.sec:Int)/\(out.nano:Int)=(c2.nano:Int)) (fun Le=>?_) (fun Le=>?_))
    ·exact absurd ⟨(hby.st (by omega)).2.2.2.2.1,(hby.st (by omega)).2.2.2.2.2⟩ Le
    refine af.skip (ai.ax (NX (af.region ?_)))
    refine jK 3 [10] [(1,wJ ((i:Int)+1) (↑(i+1)))] ?_
    refine NL ?_
    exact tB ((i+1),Dq,S2,g2,L2,Y2) [6,7,8,0,1,2,3,4,5,9] (⟨by omega,hle0,hS,hp2,MX⟩)
   refine af.region (jK 43 [146] [(1,a_ 10 b7),(2,wF (((iz xs i).c.op:Int)=(11:Int))),(5,a_ 10 b7),(6,wF (((iz xs i).c.op:Int)=(12:Int)))] ?_)
   refine NN (CF (af.skip (ai.ax (NX (af.region ?_)))))
   refine jK 3 [10] [(1,wJ ((i:Int)+1) (↑(i+1)))] ?_
   refine NL ?_
   exact tB ((i+1),Dq,S2,g2,L2,Y2) [6,7,8,0,1,2,3,4,5,9] (⟨by omega,hle0,hS,hp2,MX⟩)
  refine af.exit (ai.aC (ai.aC (ai.aW (NX (SR ?_)))))
  refine jK 1 [4] [] ?_
  refine NN (af.ret ?_)
  exact ai.Xk (v:=.bool true) (l:=[]) (ct:=[]) [] [9] hle0 (fun _=>by kernel_rfl) trivial rfl (by kernel_rfl) (rfl)
 refine jM [0,1,3,4,502,505,6,7,8,9,510] [1] ?_
 refine jG 4 [1,2,20,23] [(1,a_ 0 b2),(3,A_ 0 b2 5)] ?_
 refine kL [2] [] (uh (β:=uy) A c ns Y0 hG (Ce hB) (Cg hB)) ?_ (by rintro _ _ ⟨B,cp,rfl,rfl⟩;kernel_rfl)
 rintro _ _ ⟨B,cp,rfl,rfl⟩
 refine kL [1] [0] (Si (β:=uy) DE B cp hB) ?_ (by rintro _ _ ⟨rfl,rfl⟩;kernel_rfl)
 rintro _ _ ⟨rfl,rfl⟩
 refine jG 4 [1,2,5,26] [] ?_
 refine bZ.last (by kernel_rfl) ?_
 refine jK 1 [6] [] ?_
 refine NL (ai.np (NX (SR ?_)))
 refine jK 4 [29,31] [(1,a_ 1 b2),(3,A_ 1 b2 5)] ?_
 refine kZ [] (U2 DE A c hG hB) ?_
 rintro yY _ _ jj ⟨rfl,rfl⟩
 replace hG:=hG.le jj
 replace hS:=hS.le jj
 replace hle0:=hle0.trans jj
 refine jN 6 [7,8] (fun b15=>[(4,A_ 2 b15 12)]) (fun _=>[]) (fun b15=>.blk b15 (rZ) 42) (fun b15=>?_)
 refine NN (af.seq (SR (jK 7 [41] [(2,p_ ⟨[],none,none,none,some (.bool false)⟩ [(Value.bool (!decide (((rU X):Int)=((rU X):Int))))=(.bool false)] ⟨by simp,trivial⟩)] ?_)))
 refine NN (CT (SR (jK 8 [4] [(2,p_ ⟨[],none,none,none,some (.bool true)⟩ [(Value.bool (decide (((rU X):Int)=((rU X):Int))))=(.bool true)] ⟨by simp,trivial⟩),(5,Iz (((rU X):Int)=(0:Int)) (Xe X))] ?_)))
 refine NN (af.ret (ai.aj ?_))
 exact ai.Xk (v:=.bool true) (l:=[]) (ct:=[]) [] [0] hle0 (fun _=>by kernel_rfl) trivial rfl (by kernel_rfl) (rfl)
end
end Go.Proofs.YtnipofpbcggjcaaGreat
