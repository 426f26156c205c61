/-
  PROVED HERE: lemmas and contracts of functions (texts of this repo, joined; what the claim does not use is left out): LD, Ns, Ds, Dt, EA, Oh, Ol, DV, Pl, Sx, Dw, LB, My, Vv, EB.
  CONDITIONS: as the theorems say.
-/
import Derived.Test.YtnipofpbcggjcaaGreatMHmemory5
set_option maxRecDepth 100000
set_option maxHeartbeats 4000000
namespace Go.Proofs.YtnipofpbcggjcaaGreat
section
open Go.RowKit Go.Maps aX aq
attribute [local irreducible] ak aV af ai iL
theorem Np {β:Bs} (A:Option Addr) (c:Nat) (ns:List ay) (Y:Lay) (hG:aB β A ns Y) (hl:ns.length<=1048576) (hd:∀ i,i < ns.length->(nd ns i).data.length<=1048576/\(nd ns i).ah.length<=1048576) (hwf:∀ i,i < ns.length->∀ j,j < (nd ns i).ah.length->-9223372036854775808<=(ent ns i j).id/\(ent ns i j).id<=9223372036854775807) (hnm:∀ i,i < ns.length->∀ j,j < (nd ns i).ah.length->(ent ns i j).name.size<=1048576) (ht:∀ i,i < ns.length->(nd ns i).target.size<=1048576) (X:FM) :
    cG Tryz.prog β 8 #[.agg #[.slice A (ns.length) (c)],.agg #[vI (X.cN),vI (X.cB),vI (X.cH),vI (X.cS),vI (X.cZ)]] [] (fun β' v l=>(¬ kT X/\v=.tuple #[.agg ⟨rZ⟩,vI 179]/\l=[])\/(kT X/\¬ aW ns/\v=.tuple #[.agg ⟨rZ⟩,vI 140]/\l=[])\/(kT X/\aW ns/\∃ B cp K,v=.tuple #[.agg #[.slice B (ns.length) (cp),.slice none (0) (0),vI (X.cH),vI 0,.slice none (0) (0),.slice none (0) (0),vI (X.cN),vI (X.cB),vI (X.cH),vI (X.cS),vI (X.cZ),vI ((if ns.length=0 then 0 else (nd ns (ns.length - 1)).id))],vI 0]/\l=[]/\aB β' B ns K)):=by
 refine qb Tryz.func8 Tryz.ntmps8 (fun hle0 R=>?_)
 refine SR (jN 1 [2] (fun _=>[]) (fun _=>[]) (fun b1=>.blk b1 [.slice A (ns.length) (c)] 24) (fun b1=>?_))
 refine jN 1 [3] (fun _=>[]) (fun _=>[]) (fun b2=>.blk b2 [vI (X.cN),vI (X.cB),vI (X.cH),vI (X.cS),vI (X.cZ)] 28) (fun b2=>?_)
 refine jN 2 [4] (fun _=>[]) (fun _=>[]) (fun b3=>.blk b3 (rZ) 42) (fun b3=>?_)
 refine NN (af.seq (SR (jK 4 [10] [(1,a_ 2 b2)] ?_)))
 refine sP 10 ((X.cN:Int) < (0:Int)) (fun h10=>?_) (fun h10=>?_)
 ·refine jK 30 [40] [] ?_
  refine NN (CT (SR (jC 3 [5] [(1,A_ 3 b3 12)] [] ?_)))
  refine NN (af.ret (ai.aj ?_))
  exact rB _ [A_ 3 b3 12] [0] hle0 (.inl ⟨fun h=>by first|(have:=h.cN;omega)|(have:=h.cB;omega)|(have:=h.cH;omega)|exact absurd h.now (by assumption),rfl,rfl⟩)
 refine jK 5 [15] [(1,a_ 2 b2)] ?_
 refine sP 15 ((X.cN:Int) > (4096:Int)) (fun I7=>?_) (fun I7=>?_)
 ·refine jK 25 [40] [] ?_
  refine NN (CT (SR (jC 3 [5] [(1,A_ 3 b3 12)] [] ?_)))
  refine NN (af.ret (ai.aj ?_))
  exact rB _ [A_ 3 b3 12] [0] hle0 (.inl ⟨fun h=>by first|(have:=h.cN;omega)|(have:=h.cB;omega)|(have:=h.cH;omega)|exact absurd h.now (by assumption),rfl,rfl⟩)
 refine jK 5 [20] [(1,a_ 2 b2)] ?_
 refine sP 20 ((X.cB:Int) < (0:Int)) (fun nL=>?_) (fun nL=>?_)
 ·refine jK 20 [40] [] ?_
  refine NN (CT (SR (jC 3 [5] [(1,A_ 3 b3 12)] [] ?_)))
  refine NN (af.ret (ai.aj ?_))
  exact rB _ [A_ 3 b3 12] [0] hle0 (.inl ⟨fun h=>by first|(have:=h.cN;omega)|(have:=h.cB;omega)|(have:=h.cH;omega)|exact absurd h.now (by assumption),rfl,rfl⟩)
 refine jK 5 [25] [(1,a_ 2 b2)] ?_
 refine sP 25 ((X.cB:Int) > (1099511627776:Int)) (fun oG=>?_) (fun oG=>?_)
 ·refine jK 15 [40] [] ?_
  refine NN (CT (SR (jC 3 [5] [(1,A_ 3 b3 12)] [] ?_)))
  refine NN (af.ret (ai.aj ?_))
  exact rB _ [A_ 3 b3 12] [0] hle0 (.inl ⟨fun h=>by first|(have:=h.cN;omega)|(have:=h.cB;omega)|(have:=h.cH;omega)|exact absurd h.now (by assumption),rfl,rfl⟩)
 refine jK 5 [30] [(1,a_ 2 b2)] ?_
 refine sP 30 ((X.cH:Int) < (0:Int)) (fun lE=>?_) (fun lE=>?_)
 ·refine jK 10 [40] [] ?_
  refine NN (CT (SR (jC 3 [5] [(1,A_ 3 b3 12)] [] ?_)))
  refine NN (af.ret (ai.aj ?_))
  exact rB _ [A_ 3 b3 12] [0] hle0 (.inl ⟨fun h=>by first|(have:=h.cN;omega)|(have:=h.cB;omega)|(have:=h.cH;omega)|exact absurd h.now (by assumption),rfl,rfl⟩)
 refine jK 5 [35] [(1,a_ 2 b2)] ?_
 refine sP 35 ((X.cH:Int) > (1024:Int)) (fun nP=>?_) (fun nP=>?_)
 ·refine jK 5 [40] [] ?_
  refine NN (CT (SR (jC 3 [5] [(1,A_ 3 b3 12)] [] ?_)))
  refine NN (af.ret (ai.aj ?_))
  exact rB _ [A_ 3 b3 12] [0] hle0 (.inl ⟨fun h=>by first|(have:=h.cN;omega)|(have:=h.cB;omega)|(have:=h.cH;omega)|exact absurd h.now (by assumption),rfl,rfl⟩)
 refine jK 2 [37] [(1,A_ 2 b2 2)] ?_
 refine gL [] (xw X.cS X.cZ) ?_
 rintro _ _ ⟨rfl,rfl⟩
 refine jK 2 [40] [] ?_
 refine NN (cN (dw X.cS X.cZ) (fun qx=>?_) (fun qx=>?_))
 ·refine SR (jC 3 [5] [(1,A_ 3 b3 12)] [] ?_)
  refine NN (af.ret (ai.aj ?_))
  exact rB _ [A_ 3 b3 12] [0] hle0 (.inl ⟨fun h=>by first|(have:=h.cN;omega)|(have:=h.cB;omega)|(have:=h.cH;omega)|exact absurd h.now (by assumption),rfl,rfl⟩)
 have hcap:kT X:=⟨⟨by omega,by omega⟩,⟨by omega,by omega⟩,⟨by omega,by omega⟩,qx⟩
 refine af.skip (NX (af.seq (SR (jK 1 [42] [(0,a_ 1 b1)] ?_))))
 refine gL [] (LP A c ns Y hG hl hd hwf hnm ht) ?_
 rintro _ _ ⟨rfl,rfl⟩
 refine jK 1 [44] [] ?_
 refine NN (cN (((if aW ns then 0 else 140):Int)=(0:Int)) (fun uy=>?_) (fun uy=>?_))
 ·have Zq:¬ aW ns:=fun h=>uy (if_pos h)
  refine SR (jC 3 [5] [(1,A_ 3 b3 12)] [] ?_)
  refine NN (af.ret (ai.aj ?_))
  exact rB _ [A_ 3 b3 12] [0] hle0 (.inr (.inl ⟨hcap,Zq,rfl,rfl⟩))
 have hok:aW ns:=Classical.byContradiction (fun h=>by grind)
 refine af.skip (NX (af.seq (af.rS (S:=[.blk b1 [.slice A (ns.length) (c)] 24,.blk b2 [vI (X.cN),vI (X.cB),vI (X.cH),vI (X.cS),vI (X.cZ)] 28]) [0,2,3,5] [.beside [1,4,6] 7,.one 8] [1,2] (by kernel_rfl) (by kernel_rfl) rfl (by kernel_rfl) ?_)))
 refine gP [(2,vP b1),(4,vP b3),(46,.agg #[.slice A (ns.length) (c)]),(49,vI (X.cH)),(51,.agg #[vI (X.cN),vI (X.cB),vI (X.cH),vI (X.cS),vI (X.cZ)])] [0,2,3,5] [(0,a_ 0 b1),(2,a_ 1 b2),(3,A_ 1 b2 5)] ?_
 refine iL.beside (j:=7) (dj:=6) (R:=fun f_ l_=>∃ B:Option Addr,∃ cp:Nat,f_=[(52,.agg #[.slice B (ns.length) (cp),.slice none (0) (0),vI (X.cH),vI 0,.slice none (0) (0),.slice none (0) (0),vI (X.cN),vI (X.cB),vI (X.cH),vI (X.cS),vI (X.cZ),vI 0]),(50,.agg #[vI (X.cH),vI 0,.slice none (0) (0),.slice none (0) (0)]),(47,.agg #[.slice B (ns.length) (cp)]),(2,vP b1),(4,vP b3),(46,.agg #[.slice A (ns.length) (c)]),(49,vI (X.cH)),(51,.agg #[vI (X.cN),vI (X.cB),vI (X.cH),vI (X.cS),vI (X.cZ)])]/\l_=[.abs (kD β (fun β'=>∃ K,aB β' B ns K))]) [0,1,2,3] [1,2] [(1,47),(4,50),(6,52)] rfl (pc:=[]) (pj:=[]) (Z:=[.abs R,.blk b1 [.slice A (ns.length) (c)] 24,.blk b2 [vI (X.cN),vI (X.cB),vI (X.cH),vI (X.cS),vI (X.cZ)] 28,.blk b3 (rZ) 42]) (by kernel_rfl) rfl (by kernel_rfl) rfl rfl (ic.of (ι:=Nat) (v:=fun (b4:Nat)=>vP b4) (l:=fun (b4:Nat)=>[.blk b4 (rZ) 42]) [47,50,52] rfl rfl rfl rfl ?_) ?_ ?_
 ·intro u Aq
  refine jN 1 [6] (fun _=>[]) (fun _=>[]) (fun b4=>.blk b4 (rZ) 42) (fun b4=>?_)
  refine NL ?_
  exact MD b4 [6,47,50,52,2,4,46,49,51] [1,0]
 ·refine kA.step (ic.of (ι:=(Option Addr)×Nat) (v:=fun ((B,cp):(Option Addr)×Nat)=>.agg #[.slice B (ns.length) (cp)]) (l:=fun ((B,cp):(Option Addr)×Nat)=>[.abs (kD β (fun β'=>∃ K,aB β' B ns K))]) [6] rfl rfl rfl rfl ?_) rfl ?_
  ·intro u Aq
   refine gL [] (Ig (β:=β) A c ns Y hG hl hd) ?_
   rintro _ _ ⟨B,cp,rfl,rfl⟩
   refine NL ?_
   exact MD (B,cp) [47,6,2,4,46,49,51] [0,1]
  rintro _ _ ⟨⟨B,cp⟩,rfl,rfl⟩
  refine kA.step (ic.of (ι:=Unit) (v:=fun (_:Unit)=>.agg #[vI (X.cH),vI 0,.slice none (0) (0),.slice none (0) (0)]) (l:=fun (_:Unit)=>[.abs (kD β (fun β'=>∃ K,aB β' B ns K))]) [6] rfl rfl rfl rfl ?_) rfl ?_
  ·intro u Aq
   refine gL [] (Si X.cH hcap.cH) ?_
   rintro _ _ ⟨rfl,rfl⟩
   refine NL ?_
   exact MD () [50,6,47,2,4,46,49,51] [0,1]
  rintro _ _ ⟨_,rfl,rfl⟩
  refine kA.step (ic.of (ι:=Unit) (v:=fun (_:Unit)=>.agg #[.slice B (ns.length) (cp),.slice none (0) (0),vI (X.cH),vI 0,.slice none (0) (0),.slice none (0) (0),vI (X.cN),vI (X.cB),vI (X.cH),vI (X.cS),vI (X.cZ),vI 0]) (l:=fun (_:Unit)=>[.abs (kD β (fun β'=>∃ K,aB β' B ns K))]) [6] rfl rfl rfl rfl ?_) rfl ?_
  ·intro u Aq
   refine jK 1 [52] [] ?_
   refine NL ?_
   exact MD () [52,6,50,47,2,4,46,49,51] [0,1]
  rintro _ _ ⟨_,rfl,rfl⟩
  exact⟨B,cp,rfl,rfl⟩
 rintro _ _ ⟨B,cp,rfl,rfl⟩ _ _ ⟨b4,rfl,rfl⟩
 refine iL.last rfl rfl ?_
 refine jC 1 [] [(0,A_ 1 b4 12)] [(1,[(0,.slice B (ns.length) (cp)),(2,vI (X.cH)),(6,vI (X.cN)),(7,vI (X.cB)),(8,vI (X.cH)),(9,vI (X.cS)),(10,vI (X.cZ))])] ?_
 refine NL (ai.np (NX (af.seq (SR ?_))))
 refine ak.F6 0 [1,2,3,4,5] (dX:=[.blk b4 [.slice B (ns.length) (cp),.slice none (0) (0),vI (X.cH),vI 0,.slice none (0) (0),.slice none (0) (0),vI (X.cN),vI (X.cB),vI (X.cH),vI (X.cS),vI (X.cZ),vI 0] 42,.abs R,.blk b1 [.slice A (ns.length) (c)] 24,.blk b2 [vI (X.cN),vI (X.cB),vI (X.cH),vI (X.cS),vI (X.cZ)] 28,.blk b3 (rZ) 42]) rfl rfl (by kernel_rfl) (fun M7 ja ⟨K,hH⟩=>?_)
 replace hG:=hG.le ja
 replace hle0:=hle0.trans ja
 refine jK 4 [56] [(1,a_ 2 b1)] ?_
 refine NN (cP ((((ns.length:Nat):Int):Int) > (0:Int)) (fun h56=>?_) (fun h56=>?_))
 ·refine af.region (jC 11 [] [(1,a_ 2 b1),(3,a_ 2 b1),(5,wJ ((ns.length:Int) - 1) (((ns.length:Nat):Int) - 1)),(6,p_ ⟨[],some (ns.length - 1),none,some ⟨(aJ A),aI A,none⟩,none⟩ [((ns.length:Nat):Int) - 1=(((ns.length - 1):Nat):Int),(ns.length - 1) < ns.length,(⟨(aJ A),aI A,none⟩:Addr).spot=none,(A:Option Addr)=some ⟨(aJ A),aI A,none⟩] ⟨by omega,by omega,rfl,aB.hd hG (i:=(ns.length - 1)) (by omega),trivial⟩),(8,r_ (aB.rd hG (i:=(ns.length - 1)) (by omega) (j:=0) rfl)),(10,a_ 0 b4)] [(0,[(11,vI ((nd ns (ns.length - 1)).id))])] ?_)
  refine NS (jC 3 [5] [(0,A_ 0 b4 12),(1,A_ 4 b3 12)] [(4,[(0,.slice B (ns.length) (cp)),(2,vI (X.cH)),(6,vI (X.cN)),(7,vI (X.cB)),(8,vI (X.cH)),(9,vI (X.cS)),(10,vI (X.cZ)),(11,vI ((nd ns (ns.length - 1)).id))])] ?_)
  refine NN (af.ret ?_)
  exact rB _ [A_ 4 b3 12] [1] hle0 (.inr (.inr ⟨hcap,hok,B,cp,K,by rw [if_neg (by omega)],rfl,hH⟩))
 refine af.skip (NX (SR (jC 3 [5] [(0,A_ 0 b4 12),(1,A_ 4 b3 12)] [(4,[(0,.slice B (ns.length) (cp)),(2,vI (X.cH)),(6,vI (X.cN)),(7,vI (X.cB)),(8,vI (X.cH)),(9,vI (X.cS)),(10,vI (X.cZ))])] ?_)))
 refine NN (af.ret ?_)
 exact rB _ [A_ 4 b3 12] [1] hle0 (.inr (.inr ⟨hcap,hok,B,cp,K,by rw [if_pos (by omega)],rfl,hH⟩))
end
section
open Go.RowKit Go.Maps aX aq
noncomputable def rX (X:FM):Int:=open Classical in if kT X then 140 else 179
theorem W5 (X:FM):rX X≠0:=by
  unfold rX
  split<;>decide
def Pj (X:FM) (ns:List ay):Type:={ S:aL // iF X ns ns.length 0 S }
section m
variable {β:Bs} {ns:List ay} {Y:Lay} {X:FM}
theorem UU (hcap:kT X) (hok:aW ns) (A:Option Addr) (c:Nat) (hG:aB β A ns Y) (hB:lu ns 1048576) :
    Spec Tryz.prog β 6 #[.agg #[.slice A ns.length c],.agg #[.int .i64 X.cN,.int .i64 X.cB,.int .i64 X.cH,.int .i64 X.cS,.int .i64 X.cZ]] [] (fun v l=>∃ (N:Pj X ns) (f m t:Nat) (L:HL),v=.tuple #[.pointer (some ⟨f,0,none⟩),.int .i64 0]/\l=pA f m t L N.1):=
  (Gj A c ns Y hG (zo hB) (uV hB) (Fa hB) (Fb hB) X).mono (by
    rintro v l (⟨h,_⟩|⟨_,h,_⟩|⟨_,_,h⟩)
    ·exact absurd hcap h
    ·exact absurd hok h
    obtain⟨S,f,m,t,L,h1,h2,h3⟩:=h
    exact⟨⟨S,h1⟩,f,m,t,L,h2,h3⟩)
theorem UW (Lm:¬ (kT X/\aW ns)) (A:Option Addr) (c:Nat) (hG:aB β A ns Y) (hB:lu ns 1048576) :
    Spec Tryz.prog β 6 #[.agg #[.slice A ns.length c],.agg #[.int .i64 X.cN,.int .i64 X.cB,.int .i64 X.cH,.int .i64 X.cS,.int .i64 X.cZ]] [] (fun v l=>v=.tuple #[.pointer none,.int .i64 (rX X)]/\l=[]):=
  (Gj A c ns Y hG (zo hB) (uV hB) (Fa hB) (Fb hB) X).mono (by
    rintro v l (⟨h,h1,h2⟩|⟨h,h',h1,h2⟩|⟨h1,h2,_⟩)
    ·exact⟨by rw [show rX X=179 from if_neg h];exact h1,h2⟩
    ·exact⟨by rw [show rX X=140 from if_pos h];exact h1,h2⟩
    exact absurd ⟨h1,h2⟩ Lm)
theorem UX (hcap:kT X) (hok:aW ns) (A:Option Addr) (c:Nat) (hG:aB β A ns Y) (hB:lu ns 1048576) :
    cG Tryz.prog β 8 #[.agg #[.slice A ns.length c],.agg #[.int .i64 X.cN,.int .i64 X.cB,.int .i64 X.cH,.int .i64 X.cS,.int .i64 X.cZ]] [] (fun β' v l=>∃ B cp K,v=.tuple #[.agg #[.slice B ns.length cp,.slice none 0 0,.int .i64 X.cH,.int .i64 0,.slice none 0 0,.slice none 0 0,.int .i64 X.cN,.int .i64 X.cB,.int .i64 X.cH,.int .i64 X.cS,.int .i64 X.cZ,.int .i64 (if ns.length=0 then 0 else (nd ns (ns.length - 1)).id)],.int .i64 0]/\l=[]/\aB β' B ns K):=
  (Np A c ns Y hG (zo hB) (uV hB) (Fa hB) (Fb hB) (V6 hB) X).mono (by
    rintro β' v l _ (⟨h,_⟩|⟨_,h,_⟩|⟨_,_,h⟩)
    ·exact absurd hcap h
    ·exact absurd hok h
    exact h)
theorem UY (Lm:¬ (kT X/\aW ns)) (A:Option Addr) (c:Nat) (hG:aB β A ns Y) (hB:lu ns 1048576) :
    cG Tryz.prog β 8 #[.agg #[.slice A ns.length c],.agg #[.int .i64 X.cN,.int .i64 X.cB,.int .i64 X.cH,.int .i64 X.cS,.int .i64 X.cZ]] [] (fun _ v l=>v=.tuple #[.agg #[.slice none 0 0,.slice none 0 0,.int .i64 0,.int .i64 0,.slice none 0 0,.slice none 0 0,.int .i64 0,.int .i64 0,.int .i64 0,.int .i64 0,.int .i64 0,.int .i64 0],.int .i64 (rX X)]/\l=[]):=
  (Np A c ns Y hG (zo hB) (uV hB) (Fa hB) (Fb hB) (V6 hB) X).mono (by
    rintro β' v l _ (⟨h,h1,h2⟩|⟨h,h',h1,h2⟩|⟨h1,h2,_⟩)
    ·exact⟨by rw [show rX X=179 from if_neg h];exact h1,h2⟩
    ·exact⟨by rw [show rX X=140 from if_pos h];exact h1,h2⟩
    exact absurd ⟨h1,h2⟩ Lm)
end m
end
section
open Go.RowKit Go.Maps aX aq
section p
variable {S:aL} {g:List Int} {X:FM} {ns:List ay} {Y:Lay} {β:Bs}
structure Pair (S:aL) (g:List Int):Prop extends RelR S g where
  gl:g.length<=4096
theorem Pair.rc (h:Pair S g):RC (toR S g):=aaj h.toRelR h.gl
theorem Pair.rd (h:Pair S g):RD 0 (toR S g):=by
  have hI:=h.inv.toInv0
  have h1:=hI.len
  have h2:(toR S g).ns.length=S.idx.length:=fe
  have h8:=DI (g:=g) hI
  have h9:=hI.total.2
  exact⟨by omega,h.gl,h.rc.us,by omega,h.rc.dat⟩
theorem Pair.step (h:Pair S g) (c:aH):∃ g',pX (toR S g) c=(toR (iD S c).1 g',(iD S c).2)/\Pair (iD S c).1 g':=by
  obtain⟨g',h1,h2⟩:=Ux h.toRelR c
  have h3:GL (toR S g):=h.gl
  have h4:=WV (c:=c) h3 (by have h5:=h.inv.toInv0.len;have h2:(toR S g).ns.length=S.idx.length:=fe;omega)
  rw [h1] at h4
  exact⟨g',h1,h2,h4⟩
def mB (A:Option Addr) (p:Nat) (a:qp):qp:=(a.1,a.2.1,ck a.2.2 A p)
theorem W6 {c:aH} {A:Option Addr} {p:Nat}:eU S (ck c A p)=mB A p (eU S c):=by
  have h1:iq S (ck c A p)=mB A p (iq S c):=by unfold iq;dsimp only [ck];(repeat' split)<;>rfl
  have h2:dG S (ck c A p)=mB A p (dG S c):=by
    unfold dG;rw [show fq S.O S.us (ck c A p)=fq S.O S.us c from rfl];(repeat' split)<;>rfl
  have h3:dg S (ck c A p)=mB A p (dg S c):=by
    unfold dg;rw [show fq S.O S.us (ck c A p)=fq S.O S.us c from rfl];(repeat' split)<;>rfl
  have h4:eZ S (ck c A p)=mB A p (eZ S c):=by unfold eZ;dsimp only [ck];(repeat' split)<;>rfl
  have h5:cM S (ck c A p)=mB A p (cM S c):=by unfold cM;dsimp only [ck];(repeat' split)<;>rfl
  have h6:dZ S (ck c A p)=mB A p (dZ S c):=by unfold dZ;dsimp only [ck];(repeat' split)<;>rfl
  have h7:bT S (ck c A p)=mB A p (bT S c):=by unfold bT;dsimp only [ck];(repeat' split)<;>rfl
  have h8:fI S (ck c A p)=mB A p (fI S c):=by unfold fI;dsimp only [ck];(repeat' split)<;>rfl
  have h9:dU S (ck c A p)=mB A p (dU S c):=by unfold dU;dsimp only [ck];(repeat' split)<;>rfl
  have h10:bw S (ck c A p)=mB A p (bw S c):=by unfold bw;dsimp only [ck];(repeat' split)<;>rfl
  have h11:jS S (ck c A p)=mB A p (jS S c):=by unfold jS;dsimp only [ck];(repeat' split)<;>rfl
  have h12:fL S (ck c A p)=mB A p (fL S c):=by
    unfold fL;rw [show fq S.O S.us (ck c A p)=fq S.O S.us c from rfl];(repeat' split)<;>rfl
  have qc:fY S (ck c A p)=mB A p (fY S c):=by unfold fY;dsimp only [ck];(repeat' split)<;>rfl
  have iU:gD S (ck c A p)=mB A p (gD S c):=by unfold gD;dsimp only [ck];(repeat' split)<;>rfl
  have I7:eO S (ck c A p)=mB A p (eO S c):=by unfold eO;dsimp only [ck];(repeat' split)<;>rfl
  unfold eU
  rw [h1,h2,h3,h4,h5,h6,h7,h8,h9,h10,h11,h12,qc,iU,I7]
  simp only [apply_ite (mB A p)]
  rfl
theorem W7 {c:aH} {A:Option Addr} {p:Nat}:iD S (ck c A p)=((iD S c).1,ck (iD S c).2 A p):=by
  unfold iD
  rw [show ({ ck c A p with answer:=0,code:=230 }:aH)=ck { c with answer:=0,code:=230 } A p from rfl,W6]
  rfl
theorem Sj (h:Pair S g) {Y:RL} (hR:cq β (toR S g) Y) {c c2:aH} {S2:aL} (hD:iD S c=(S2,c2)) (hn:c.name.size<=1048576) (ht:c.text.size<=1048576) (hb:bh β c.dA c.data) (hl:c.data.length<=140737488355328) (hc:c.data.length<=c.dC) :
    cG Tryz.prog β 12 #[.agg ⟨rV (toR S g) Y⟩,.agg ⟨aO c⟩] [] (fun β' v l=>∃ g' Y' B p,v=.tuple #[.agg ⟨rV (toR S2 g') Y'⟩,.agg ⟨aO (ck c2 B p)⟩]/\l=[]/\Pair S2 g'/\cq β' (toR S2 g') Y'/\bh β' B c.data):=by
  obtain⟨g',h1,h2⟩:=h.step c
  rw [hD] at h1 h2
  refine (Ui (toR S g) Y hR h.rc h.rd c hn ht hb hl hc).mono ?_
  grind
theorem Pair.start (N:Pj X ns) (hok:aW ns):Pair N.1 []:=⟨(HY N.2 hok).1,Nat.zero_le _⟩
theorem UZ (N:Pj X ns) (hcap:kT X) (hok:aW ns) (A:Option Addr) (c:Nat) (hG:aB β A ns Y) (hB:lu ns 1048576) :
    cG Tryz.prog β 8 #[.agg #[.slice A ns.length c],.agg #[.int .i64 X.cN,.int .i64 X.cB,.int .i64 X.cH,.int .i64 X.cS,.int .i64 X.cZ]] [] (fun β' v l=>∃ Y',v=.tuple #[.agg ⟨rV (toR N.1 []) Y'⟩,.int .i64 0]/\l=[]/\cq β' (toR N.1 []) Y'):=by
  refine (UX hcap hok A c hG hB).mono ?_
  have e:=(HY N.2 hok).2
  rw [e]
  rintro β' v l _ ⟨B,cp,K,rfl,rfl,h⟩
  refine⟨⟨B,cp,K,none,0,none,0,none,0⟩,?_,rfl,⟨⟨bU.nil,bU.nil,bU.nil⟩,h⟩⟩
  have hl:(if ns.length=0 then 0 else (nd ns (ns.length - 1)).id)=nB ns ns.length:=by cases ns.length<;>rfl
  rw [hl]
  rfl
end p
end
section
open Go.RowKit Go.Maps aX aq
section c
variable {S S2:aL} {β:Bs} {c c2 x q out:aH} {f m t:Nat} {L:HL}
theorem W8 (hI:Inv S) (hC:iO β c) (A0:Option Addr) (p0:Nat) (hD:iD S (ck c A0 p0)=(S2,c2)):Spec Tryz.prog β 15 #[vP f,.agg ⟨aO c⟩] (pA f m t L S) (fun v l=>∃ L2,v=.agg ⟨aO (ck c2 c.dA c.dC)⟩/\l=pA f m t L2 S2):=by
  have h1:=Sc (β:=β) S L f m t hI c hC
  have e:iD S c=((iD S (ck c A0 p0)).1,ck (iD S (ck c A0 p0)).2 c.dA c.dC):=W7 (c:=ck c A0 p0) (A:=c.dA) (p:=c.dC)
  rw [e,hD] at h1
  exact h1
structure ab0 (β:Bs) (c:aH):Prop where
  hw:(Lit.int .i64 c.handle).wf=true
  ow:(Lit.int .i64 c.other).wf=true
  nm:c.name.size<=1048576
  tx:c.text.size<=1048576
  da:bh β c.dA c.data
structure ByR (β:Bs) (S:aL) (op:Int) (S2:aL) (q c2 out:aH):Prop where
  did:iD S q=(S2,c2)
  ok:iO β q
  dl:q.data.length<=1048576
  ans:out.answer=c2.answer
  code:out.code=c2.code
  st:op=11\/op=12->out.other=c2.other/\out.mode=c2.mode/\out.uid=c2.uid/\out.gid=c2.gid/\out.sec=c2.sec/\out.nano=c2.nano
end c
end
section
open Go.RowKit Go.Maps aX aq
attribute [local irreducible] ak aV af ai
theorem Ln {β:Bs} (c:aH) (hD:bh β c.dA c.data) (hl:c.data.length<=1048576) :
    Spec Tryz.prog β 14 #[.agg ⟨aO c⟩] [] (fun v l=>∃ B p,v=.agg ⟨aO (ck c B p)⟩/\l=[.abs (av 5 1 B c.data.length p (cx c.data))]):=by
 refine SE Tryz.func14 Tryz.ntmps14 (fun R=>?_)
 refine SR (jN 1 [1] (fun _=>[]) (fun _=>[]) (fun b1=>.blk b1 (aO c) 53) (fun b1=>?_))
 refine jN 1 [2] (fun _=>[]) (fun _=>[]) (fun b2=>.blk b2 [vI 0,vI 0,vI 0,.string ⟨#[]⟩,.string ⟨#[]⟩,.slice none (0) (0),vI 0,vI 0,vI 0,vI 0,vI 0,vI 0,vI 0] 53) (fun b2=>?_)
 refine NS (jK 2 [4] [(1,a_ 1 b1)] ?_)
 refine gL [] (um c.dA c.dC c.data hD (Nat.le_trans hl (by decide))) ?_
 rintro _ _ ⟨B,p,rfl,rfl⟩
 refine jC 2 [] [(1,a_ 2 b1)] [(2,[(5,.slice B (c.data.length) (p))])] ?_
 refine NS (jC 2 [] [(0,A_ 2 b1 13),(1,A_ 3 b2 13)] [(3,(zC (aO (ck c B p))))] ?_)
 refine NN (af.ret ?_)
 exact rT (.agg ⟨aO (ck c B p)⟩) [A_ 3 b2 13] [0,1] (⟨B,p,rfl,rfl⟩)
end
section
open Go.RowKit aX aq Go.Maps
theorem sM (us:Used Th):us.length=(keys us).length:=(List.length_map ..).symm
theorem Sk {S:aL} (h:Inv0 S):(keys S.us).length<=1048576:=by
  rw [← sM]
  have h1:=h.Az
  have h2:=h.cH
  omega
theorem DQ {S:aL} (h:Inv0 S):(ax S).length<=1048576:=by
  rw [fe]
  have:=h.len
  omega
end
section
open Go.RowKit aX aq Go.Maps
theorem Sl {β:Bs} (A B:Option Addr) (c d:Nat) {n1 n2:Nat} {l1 l2:List Int} (e1:n1=l1.length) (e2:n2=l2.length) (e:l1=l2) (hB:bU β B (ints l2)) (hl:l1.length<=1048576) :
    Spec Tryz.prog β 44 #[.slice A n1 c,.slice B n2 d] [.abs (av 3 1 A n1 c (ints l1))] (fun v l=>v=.bool true/\l=[.abs (av 3 1 A n1 c (ints l1))]):=by
  subst e1 e2 e
  refine (Spec.Dd (pre:=[]) (post:=fun v l=>v=.bool true/\l=[]) (fun β' g=>?_)).mono (by rintro v l ⟨l0,⟨rfl,rfl⟩,rfl⟩;exact⟨rfl,rfl⟩)
  obtain⟨F,h1,h2⟩:=g.get 0 rfl
  exact UQ A B c d l1 (bU.gy h1 h2 rfl) (hB.le g.le) hl
end
section
open Go.RowKit Go.Maps aX aq
attribute [local irreducible] ak aV af ai dH
theorem Sm {β:Bs} {S:aL} {g:List Int} (hp:Pair S g) (Y:RL) (hR:cq β (toR S g) Y) (f m t:Nat) (L:HL) :
    Spec Tryz.prog β 13 #[vP f,.agg ⟨rV (toR S g) Y⟩] (pA f m t L S) (fun v l=>v=.bool true/\l=(pA f m t L S)):=by
 have hI:Inv S:=hp.inv
 refine SE Tryz.func13 Tryz.ntmps13 (fun R=>?_)
 refine SR (jN 2 [3] (fun _=>[]) (fun _=>[]) (fun b1=>.blk b1 (rV (toR S g) Y) 42) (fun b1=>?_))
 refine NN (af.seq (jM [0,2,3,501,504,5,6,8,9,10,507,511,12,13,14,16,17,18,515,19,20,21,22,24,523,525,26,27,528] [7] ?_))
 refine jG 3 [0,3,5,8] [(2,a_ 0 b1)] ?_
 refine kL [10] [0,1,3,4,5] (xh S L f m t hI) ?_ (by rintro _ _ ⟨Ao,co,Ko,rfl,rfl⟩;kernel_rfl)
 rintro _ _ ⟨Ao,co,Ko,rfl,rfl⟩
 refine kL [10] [5,6,7] (zL Ao Y.A co Y.c (ax S) (ax S) Ko Y.L hR.n (DQ hI.toInv0) (DP hI.toInv0) (decide_eq_true rfl)) ?_ (by rintro _ _ ⟨rfl,rfl⟩;kernel_rfl)
 rintro _ _ ⟨rfl,rfl⟩
 refine jG 5 [0,3,10,11,15] [(4,a_ 0 b1)] ?_
 refine kL [11] [3,8] (BJ S L f m t) ?_ (by rintro _ _ ⟨Ah,ch,rfl,rfl⟩;kernel_rfl)
 rintro _ _ ⟨Ah,ch,rfl,rfl⟩
 refine kL [11] [2] (Sl (n1:=S.us.length) (n2:=(toR S g).us.length) (l1:=keys S.us) (l2:=keys (toR S g).us) Ah Y.H ch Y.ch (sM S.us) (gF (toR S g).us).symm ze.symm hR.h (Sk hI.toInv0)) ?_ (by rintro _ _ ⟨rfl,rfl⟩;kernel_rfl)
 rintro _ _ ⟨rfl,rfl⟩
 refine jG 6 [0,3,18,19,23] [(5,a_ 0 b1)] ?_
 refine kL [11] [1,2] ((UR S L f m t).val (congrArg (Value.int .i64) (show S.ar=(toR S g).ar from rfl))) ?_ (by rintro _ _ ⟨rfl,rfl⟩;kernel_rfl)
 rintro _ _ ⟨rfl,rfl⟩
 refine jG 5 [26,27,29] [(0,p_ ⟨[],none,none,none,some (.bool true)⟩ [(Value.bool (decide (((toR S g).ar:Int)=((toR S g).ar:Int))))=(.bool true)] ⟨by simp,trivial⟩),(4,A_ 0 b1 12)] ?_
 refine kL [11] [0] (UO f m t S.X) ?_ (by rintro _ _ ⟨rfl,rfl⟩;kernel_rfl)
 rintro _ _ ⟨rfl,rfl⟩
 refine kL [11] [] ((J5 (toR S g) Y hR hp.rc.toRB).val (congrArg (Value.int .i64) (DG hI.toInv0))) ?_ (by rintro _ _ ⟨rfl,rfl⟩;kernel_rfl)
 rintro _ _ ⟨rfl,rfl⟩
 refine jG 2 [32] [(0,p_ ⟨[],none,none,none,some (.bool true)⟩ [(Value.bool (decide ((S.X.used:Int)=(S.X.used:Int))))=(.bool true)] ⟨by simp,trivial⟩)] ?_
 refine dH.last (by kernel_rfl) ?_
 refine jK 1 [4] [] ?_
 refine NL (ai.np (NX (af.ret ?_)))
 exact RT _ [0,6,1,7,8,9,10] (⟨rfl,rfl⟩)
end
section
open Go.RowKit Go.Maps aX aq
structure j9 where
  c:aH
  a:Tx
  root:Int
def Cr (x:j9):List Value:=[.int .i64 x.c.op,.int .i64 x.c.handle,.int .i64 x.c.other,.string x.c.name,.string x.c.text,.slice x.c.dA x.c.data.length x.c.dC,.int .i64 x.c.mode,.int .i64 x.c.uid,.int .i64 x.c.gid,.int .i64 x.c.sec,.int .i64 x.c.nano,.int .i64 x.c.code,.int .i64 x.c.answer,.int .i64 x.a.at_,.int .i64 x.a.op,.string x.a.path,.string x.a.to,.string x.a.text,.int .i64 x.root]
instance:Inhabited j9:=⟨⟨⟨0,0,0,⟨#[]⟩,⟨#[]⟩,none,0,[],0,0,0,0,0,0,0⟩,⟨0,0,⟨#[]⟩,⟨#[]⟩,⟨#[]⟩⟩,0⟩⟩
def cL (xs:List j9) (i:Nat):j9:=xs.getD i default
inductive V7 (S:aL) (x:j9):aL->Int->Prop
  | act (h:¬ x.a.op=0):V7 S x (XY S x.root x.a).2 (XY S x.root x.a).1
  | call (h:x.a.op=0) (A:Option Addr) (n:Nat):V7 S x (iD S { x.c with dA:=A,dC:=n }).1 (iD S { x.c with dA:=A,dC:=n }).2.code
section p
variable {S S2 S3:aL} {x:j9} {e:Int} {d to:Nat} {name toName text:ByteArray} {t:Th} {c:aH} {O:bZ}
structure Grow (S S2:aL):Prop where
  used:S2.X.used<=S.X.used\/S2.X.used<=S.X.cB
  cB:S2.X.cB=S.X.cB
  cH:S2.X.cH=S.X.cH
  ar:S.ar<=S2.ar
end p
end
section
open Go.RowKit Go.WideShapes Go.ChangeShapes Go.ChangeAt Go.Deep
def ZC (xs:List j9):List Value:=eY (fun _ x=>Cr x) 0 xs
structure Cs (β:Bs) (x:j9) (b:Nat):Prop where
  data:bh β x.c.dA x.c.data
  len:x.c.data.length<=b
  name:x.c.name.size<=b
  text:x.c.text.size<=b
  path:x.a.path.size<=b
  to:x.a.to.size<=b
  txt:x.a.text.size<=b
  hw:(Lit.int .i64 x.c.handle).wf=true
  ow:(Lit.int .i64 x.c.other).wf=true
  rw:(Lit.int .i64 x.root).wf=true
  DR:x.c.data.length<=x.c.dC
theorem Cs.le {β β':Bs} {x:j9} {b:Nat} (h:Cs β x b) (hle:β.le β'):Cs β' x b:=⟨h.data.le hle,h.len,h.name,h.text,h.path,h.to,h.txt,h.hw,h.ow,h.rw,h.DR⟩
structure cA (β:Bs) (A:Option Addr) (xs:List j9):Prop where
  row:bU β A (ZC xs)
  st:∀ i,i < xs.length->Cs β (cL xs i) 1048576
theorem cA.le {β β':Bs} {A:Option Addr} {xs:List j9} (h:cA β A xs) (hle:β.le β'):cA β' A xs:=⟨h.row.le hle,fun i hi=>(h.st i hi).le hle⟩
section s
variable {β:Bs} {A:Option Addr} {xs:List j9} {i j:Nat} {v:Value}
theorem cA.get (h:cA β A xs) (hi:i < xs.length) (hv:(Cr (cL xs i))[j]?=some v):A=some ⟨aJ A,aI A,none⟩/\Rd β ⟨aJ A,aI A+i * 19+j,none⟩ v:=by
  have hj:j < 19:=bN hv
  have h1:=qR (f:=fun _ x=>Cr x) (s:=19) (fun _ _=>rfl) xs 0 i j _ (getD_some (x:=default) hi) hj
  have:=h.row (i * 19+j) v (h1.trans hv)
  rw [← Nat.add_assoc] at this
  exact this
theorem cA.hd (h:cA β A xs) (hi:i < xs.length):A=some ⟨aJ A,aI A,none⟩:=(h.get hi (j:=0) rfl).1
theorem cA.rd (h:cA β A xs) (hi:i < xs.length) (hv:(Cr (cL xs i))[j]?=some v):Rd β ⟨aJ A,aI A+i * 19+j,none⟩ v:=(h.get hi hv).2
end s
section a
variable {H:Type} {enc:TypeId×Value->H} {W:World} {sp:Nat->Bool}
theorem kZ {t:TypeId} {n:Nat} {c:Value} {x:DataW H×List MemPlace} (ht:Tryz.prog.underlying t=some (.int .i64)) (h:DataW.trod enc Tryz.prog W 0 sp true n t [c]=some x):∃ z,c=.int .i64 z/\(Lit.int .i64 z).wf=true:=by
  obtain⟨z,h1,_,h3⟩:=DataW.trod_int ht h
  cases h1
  exact⟨z,rfl,h3⟩
theorem Mc {n:Nat} {c:Value} {x:DataW H×List MemPlace} (h:DataW.trod enc Tryz.prog W 0 sp true n 51 [c]=some x) :
    ∃ A cp,∃ d:List UInt8,c=.slice A d.length cp/\bh (B0 W) A d/\d.length+1<=Rows.uptoBulk x.1/\d.length<=cp:=by
  obtain⟨A,cp,d,rfl,h2,h3⟩:=Ev h
  obtain⟨A',c',xs,D,h1,hc,_⟩:=vL (α:=UInt8) (f:=fun b=>[yx b]) (Q:=fun _ _=>True) Tryz.underlying51 (size:=1) (by kernel_rfl) (by decide) (fun n cs x h=>MF Tryz.underlying5 h) (fun _=>rfl) h
  have h4:=(List.cons.inj h1).1
  injection h4 with _ e1 e2
  exact⟨A,cp,d,rfl,h2,h3,by omega⟩
theorem Sn {n:Nat} {cs:List Value} {x:DataW H×List MemPlace} (h:DataW.trod enc Tryz.prog W 0 sp true n 57 cs=some x):∃ a:j9,cs=Cr a/\Cs (B0 W) a (Rows.uptoBulk x.1):=by
  obtain⟨ys,m,_,hx,hl,qt,hf⟩:=DataW.trod_struct Tryz.underlying57 h
  have hC:Tryz.prog.cellsOf 57=19:=by kernel_rfl
  rw [hC] at hl
  match cs,hl with
  | [c0,c1,c2,c3,c4,c5,c6,c7,c8,c9,c10,c11,zD,c13,CG,wR,c16,c17,lT],_=>
    obtain⟨hc,bc⟩:=bg (hf 0 _ rfl) (by rw [qt];decide)
    obtain⟨ha,ba⟩:=bg (hf 1 _ rfl) (by rw [qt];decide)
    obtain⟨hr,_⟩:=bg (hf 2 _ rfl) (by rw [qt];decide)
    obtain⟨us,_,_,ZB,_,si,hu⟩:=DataW.trod_struct Tryz.underlying53 hc
    obtain⟨h0,_⟩:=bg (hu 0 _ rfl) (by rw [si];decide)
    obtain⟨h1,_⟩:=bg (hu 1 _ rfl) (by rw [si];decide)
    obtain⟨h2,_⟩:=bg (hu 2 _ rfl) (by rw [si];decide)
    obtain⟨h3,b3⟩:=bg (hu 3 _ rfl) (by rw [si];decide)
    obtain⟨h4,b4⟩:=bg (hu 4 _ rfl) (by rw [si];decide)
    obtain⟨h5,b5⟩:=bg (hu 5 _ rfl) (by rw [si];decide)
    obtain⟨h6,_⟩:=bg (hu 6 _ rfl) (by rw [si];decide)
    obtain⟨h7,_⟩:=bg (hu 7 _ rfl) (by rw [si];decide)
    obtain⟨h8,_⟩:=bg (hu 8 _ rfl) (by rw [si];decide)
    obtain⟨h9,_⟩:=bg (hu 9 _ rfl) (by rw [si];decide)
    obtain⟨h10,_⟩:=bg (hu 10 _ rfl) (by rw [si];decide)
    obtain⟨h11,_⟩:=bg (hu 11 _ rfl) (by rw [si];decide)
    obtain⟨ts,_,_,_,_,htl,ht⟩:=DataW.trod_struct Tryz.underlying26 h9
    obtain⟨t0,_⟩:=bg (ht 0 _ rfl) (by rw [htl];decide)
    obtain⟨t1,_⟩:=bg (ht 1 _ rfl) (by rw [htl];decide)
    obtain⟨vs,_,_,hvx,_,hvl,hv⟩:=DataW.trod_struct Tryz.underlying55 ha
    obtain⟨a0,_⟩:=bg (hv 0 _ rfl) (by rw [hvl];decide)
    obtain⟨a1,_⟩:=bg (hv 1 _ rfl) (by rw [hvl];decide)
    obtain⟨a2,e2⟩:=bg (hv 2 _ rfl) (by rw [hvl];decide)
    obtain⟨a3,e3⟩:=bg (hv 3 _ rfl) (by rw [hvl];decide)
    obtain⟨a4,e4⟩:=bg (hv 4 _ rfl) (by rw [hvl];decide)
    obtain⟨z0,rfl,w0⟩:=kZ (c:=c0) Tryz.underlying3 h0
    obtain⟨z1,rfl,w1⟩:=kZ (c:=c1) Tryz.underlying3 h1
    obtain⟨z2,rfl,w2⟩:=kZ (c:=c2) Tryz.underlying3 h2
    obtain⟨s3,rfl,l3⟩:=qK (c:=c3) Tryz.underlying9 h3
    obtain⟨s4,rfl,l4⟩:=qK (c:=c4) Tryz.underlying9 h4
    obtain⟨A5,p5,d5,rfl,q5,l5,k5⟩:=Mc (c:=c5) h5
    obtain⟨z6,rfl,w6⟩:=kZ (c:=c6) Tryz.underlying3 h6
    obtain⟨z7,rfl,w7⟩:=kZ (c:=c7) Tryz.underlying3 h7
    obtain⟨z8,rfl,w8⟩:=kZ (c:=c8) Tryz.underlying3 h8
    obtain⟨z9,rfl,w9⟩:=kZ (c:=c9) Tryz.underlying3 t0
    obtain⟨z10,rfl,w10⟩:=kZ (c:=c10) Tryz.underlying3 t1
    obtain⟨z11,rfl,w11⟩:=kZ (c:=c11) Tryz.underlying34 h10
    obtain⟨z12,rfl,w12⟩:=kZ (c:=zD) Tryz.underlying3 h11
    obtain⟨z13,rfl,w13⟩:=kZ (c:=c13) Tryz.underlying3 a0
    obtain⟨z14,rfl,w14⟩:=kZ (c:=CG) Tryz.underlying3 a1
    obtain⟨s15,rfl,l15⟩:=qK (c:=wR) Tryz.underlying9 a2
    obtain⟨s16,rfl,l16⟩:=qK (c:=c16) Tryz.underlying9 a3
    obtain⟨s17,rfl,l17⟩:=qK (c:=c17) Tryz.underlying9 a4
    obtain⟨z18,rfl,w18⟩:=kZ (c:=lT) Tryz.underlying3 hr
    have Zj:Rows.uptoBulk x.1=Rows.uptoBulk (.agg (ys.map (·.1))):=by rw [hx]
    have hbu:Rows.uptoBulk (ys[0]'(by rw [qt];decide)).1=Rows.uptoBulk (.agg (us.map (·.1))):=by rw [ZB]
    have hbv:Rows.uptoBulk (ys[1]'(by rw [qt];decide)).1=Rows.uptoBulk (.agg (vs.map (·.1))):=by rw [hvx]
    exact⟨⟨⟨z0,z1,z2,s3,s4,A5,p5,d5,z6,z7,z8,z9,z10,z11,z12⟩,⟨z13,z14,s15,s16,s17⟩,z18⟩,rfl,⟨q5,by show d5.length<=_;omega,by show s3.size<=_;omega,by show s4.size<=_;omega,by show s15.size<=_;omega,by show s16.size<=_;omega,by show s17.size<=_;omega,w1,w2,w18,k5⟩⟩
theorem open_steps {v:Value} {d:DataW H} {ps:List MemPlace} {r:Go.Reach} {b0:Nat} (hval:Value.okWide Tryz.prog W r b0 31 v) (h:DataW.Trod enc Tryz.prog W 0 sp true 31 v d ps) (hb:Rows.uptoBulk d<=1048576) :
    ∃ A cp,∃ xs:List j9,v=.slice A xs.length cp/\cA (B0 W) A xs/\xs.length<=1048576/\xs.length<=cp:=by
  obtain⟨a,n,c,rfl⟩:=okWide_slice Tryz.underlying31 hval
  obtain⟨fuel,h⟩:=h
  obtain⟨A,cp,xs,D,h1,hcp,_,h2,h4,h3⟩:=vL (α:=j9) (f:=Cr) (Q:=fun a d=>Cs (B0 W) a (Rows.uptoBulk d)) Tryz.underlying31 (size:=19) (by kernel_rfl) (by decide) (fun n cs x h=>Sn h) (fun _=>rfl) h
  cases h1
  have h5:=yO ((List.range xs.length).map D)
  have h3:Rows.uptoBulkAll ((List.range xs.length).map D)+1<=Rows.uptoBulk d:=h3
  refine⟨a,c,xs,rfl,⟨h2,fun i hi=>?_⟩,by simp at h5;omega,hcp⟩
  have h6:=h4 i hi
  have h7:=Dt (D:=D) hi
  exact⟨h6.data,Nat.le_trans h6.len (by omega),Nat.le_trans h6.name (by omega),Nat.le_trans h6.text (by omega),Nat.le_trans h6.path (by omega),Nat.le_trans h6.to (by omega),Nat.le_trans h6.txt (by omega),h6.hw,h6.ow,h6.rw,h6.DR⟩
end a
end
section
open Go.RowKit Go.Maps aX aq
attribute [local irreducible] ak aV af ai
theorem U0 {β:Bs}:cG Tryz.prog β 5 #[] [] (fun _ v l=>v=.bool true/\l=[]):=by
 refine qb Tryz.func5 Tryz.ntmps5 (fun hle0 R=>?_)
 refine SR (jK 1 [] [] ?_)
 refine NS (lS [] (Sh) ?_)
 rintro β1 _ _ aT ⟨B,Y,rfl,rfl,hG⟩
 replace hle0:=hle0.trans aT
 refine jN 2 [1] (fun b2=>[(1,A_ 1 b2 6)]) (fun _=>[]) (fun b2=>.blk b2 [.slice B (2) (2),vI 9,vI 99,vI 9,vI 0,vI 0] 30) (fun b2=>?_)
 refine NS (jK 4 [10,12] [(1,a_ 1 b2),(3,A_ 1 b2 5)] ?_)
 refine gL [] (Ph (room:=99) (cp:=2) (by decide) hG) ?_
 rintro _ _ ⟨S,f3,m4,t5,L,h0,rfl,rfl⟩
 refine jK 5 [2,3] [] ?_
 refine NN (af.seq (SR (jK 6 [21] [] ?_)))
 refine NN (CF (af.skip (NX (SR (jK 2 [22,23] [] ?_)))))
 have bE:Inv (S1 S):=by have h:=h0.inv.iD zn;rw [Lk h0] at h;exact h
 refine gL [0,1,2,3,4,5] (DN (β:=β1) (f:=f3) (m:=m4) (t:=t5) (L:=L) h0.inv (Gl (by decide) (by decide) (by decide) (by decide) rfl) (Lk h0)) ?_
 rintro _ _ ⟨L1,rfl,rfl⟩
 refine jN 2 [4] (fun b6=>[(1,A_ 8 b6 13)]) (fun _=>[]) (fun b6=>.blk b6 [vI 1,vI 0,vI 1,.string ⟨#[]⟩,.string ⟨#[]⟩,.slice none (0) (0),vI 0,vI 0,vI 0,vI 0,vI 0,vI 0,vI 1] 53) (fun b6=>?_)
 refine NS (jK 2 [25,26] [] ?_)
 obtain⟨S2,hd2,Hq,hn2,hc2,ha2,hk2⟩:=Zy h0
 have sx:Inv S2:=by have h:=bE.iD yc;rw [hd2] at h;exact h
 refine gL [0,1,2,3,4,5] (DN (β:=β1) (f:=f3) (m:=m4) (t:=t5) (L:=L1) bE (Gl (by decide) (by decide) (by decide) (by decide) rfl) hd2) ?_
 rintro _ _ ⟨L2,rfl,rfl⟩
 refine jN 2 [5] (fun b7=>[(1,A_ 9 b7 13)]) (fun _=>[]) (fun b7=>.blk b7 [vI 4,vI 1,vI 0,.string ⟨#[100]⟩,.string ⟨#[]⟩,.slice none (0) (0),vI 448,vI 0,vI 0,vI 0,vI 0,vI 0,vI 0] 53) (fun b7=>?_)
 refine NS (jK 2 [28,29] [] ?_)
 obtain⟨S3,hd3,hi3⟩:=Zz Hq hc2 ha2 hk2
 have xX:Inv S3:=by have h:=sx.iD E9;rw [hd3] at h;exact h
 refine gL [0,1,2,3,4,5] (DN (β:=β1) (f:=f3) (m:=m4) (t:=t5) (L:=L2) sx (Gl (by decide) (by decide) (by decide) (by decide) rfl) hd3) ?_
 rintro _ _ ⟨L3,rfl,rfl⟩
 refine jN 2 [6] (fun b8=>[(1,A_ 10 b8 13)]) (fun _=>[]) (fun b8=>.blk b8 [vI 2,vI 1,vI 0,.string ⟨#[100]⟩,.string ⟨#[]⟩,.slice none (0) (0),vI 0,vI 0,vI 0,vI 0,vI 0,vI 0,vI 2] 53) (fun b8=>?_)
 refine NS (jK 20 [49,50] [(1,a_ 8 b6),(5,a_ 8 b6),(10,a_ 9 b7),(15,a_ 10 b8)] ?_)
 refine lS [0,1,3,4,5] (Pg (β:=β1) (S:=S3) (L:=L3) (f:=f3) (m:=m4) (t:=t5) xX) ?_
 rintro Y4 _ _ rf ⟨A4,c4,K4,rfl,rfl,_⟩
 replace hG:=hG.le rf
 replace hle0:=hle0.trans rf
 refine jK 5 [0] [(1,p_ ⟨[],none,none,none,some (vI (((3:Nat):Int)))⟩ [((.int .i64 ↑((ax S3).length):Value))=(.int .i64 (((3:Nat):Int)))] ⟨by rw [fe,hi3,hn2],trivial⟩)] ?_
 refine NN (af.ret ?_)
 exact rB _ [] [6] hle0 (⟨rfl,rfl⟩)
end
section
open Go.RowKit Go.Maps aX aq
def oC (e:TypeId) (size:Nat) (A:Option Addr) (n cap:Nat):ct where
  h F w:=∃ xs,(av e size A n cap xs).h F w
  lt:=fun ⟨xs,h⟩=>(av e size A n cap xs).lt h
  st:=fun ⟨xs,h⟩ _ _ hk hn=>⟨xs,(av e size A n cap xs).st h hk hn⟩
def aaw (ns ms:List ay):Prop:=ms.length=ns.length/\∀ k,(nd ms k).data.length=(nd ns k).data.length/\(nd ms k).ah.length=(nd ns k).ah.length
def jh (A:Option Addr) (c:Nat) (ns:List ay) (K:Lay):ct where
  h F w:=∃ ms,aaw ns ms/\(av 66 10 A ms.length c (aR K ms)).h F w
  lt:=fun ⟨_,_,h⟩=>(av _ _ _ _ _ _).lt h
  st:=fun ⟨ms,h',h⟩ _ _ hk hn=>⟨ms,h',(av _ _ _ _ _ _).st h hk hn⟩
def Wr (Z:ct) (a:Addr) (u:Value):Prop:=∀ F w,Z.h F w->(∃ x,w.cell? a=some x)/\w.frozen? a=false/\∃ F',Z.h F' (w.setCell a u)/\Step F w F' (w.setCell a u)
section wr
variable {e:TypeId} {size n cap c j k i:Nat} {A:Option Addr} {u:Value} {ns:List ay} {K:Lay} {R R':Nat->ct} {a:Addr}
theorem Wr.ZE {xs:List Value} (hn:0 < n) (hj:j < n * size) {F:Fp} {w:World} (h:(av e size A n cap xs).h F w) :
    (∃ x,w.cell? ⟨aJ A,aI A+j,none⟩=some x)/\w.frozen? ⟨aJ A,aI A+j,none⟩=false/\∃ F',(av e size A n cap (xs.set j u)).h F' (w.setCell ⟨aJ A,aI A+j,none⟩ u)/\Step F w F' (w.setCell ⟨aJ A,aI A+j,none⟩ u):=by
  obtain⟨g,rfl⟩:=av.head h hn
  have hl:=(av.len h).1
  have hj':j < xs.length:=by omega
  rw [show (⟨aJ (some ⟨g,0,none⟩),aI (some ⟨g,0,none⟩)+j,none⟩:Addr)=⟨g,j,none⟩ from congrArg (fun o=>(⟨g,o,none⟩:Addr)) (Nat.zero_add j)]
  obtain⟨x,hx⟩:=jb hj'
  refine⟨⟨x,av.cell hx F w h⟩,?_,tA hj' F h⟩
  obtain⟨⟨_,h2⟩,_⟩:=h
  rcases h2 with ⟨e,_⟩|⟨g',cp,cur,e,_,hb,_⟩
  ·cases e
  cases e;simp [World.frozen?,hb]
theorem Wr.row (hn:0 < n) (hj:j < n * size):Wr (oC e size A n cap) ⟨aJ A,aI A+j,none⟩ u:=fun _ _ ⟨_,h⟩=>
  let ⟨h1,h2,F',h3,h4⟩:=Wr.ZE (u:=u) hn hj h
  ⟨h1,h2,F',⟨_,h3⟩,h4⟩
theorem Wr.kind {z:Int} (hi:i < ns.length):Wr (jh A c ns K) ⟨aJ A,aI A+(i * 10+1),none⟩ (.int .i64 z):=fun F w ⟨ms,hs,h⟩=>by
  have hm:i < ms.length:=by rw [hs.1];exact hi
  obtain⟨h1,h2,F',h3,h4⟩:=Wr.ZE (j:=i * 10+1) (u:=.int .i64 z) (by omega) (by omega) h
  refine⟨h1,h2,F',⟨ms.set i { nd ms i with kind:=z },⟨by rw [List.length_set];exact hs.1,fun k=>?_⟩,?_⟩,h4⟩
  ·rw [lF hm]
   by_cases e:k=i
   ·rw [if_pos e,e];exact hs.2 i
   rw [if_neg e];exact hs.2 k
  rw [mz (L':=K) (n:={ nd ms i with kind:=z }) hm (by decide) (fun _ _ _=>rfl) rfl] at h3
  rw [List.length_set];exact h3
theorem Wr.Cy (hk:k < n) (hR:R k=R' k) (hW:Wr (R' k) a u):Wr (eF R n) a u:=fun F w ⟨φ,h1,h2,h3⟩=>by
  obtain⟨hc,hf,F',g1,g2⟩:=hW _ _ (hR ▸ h1 k hk)
  have fr:∀ i,i < n->i≠k->(R i).h (φ i) (w.setCell a u)/\Apart (φ i) F':=fun i hi hne=>ct.frame (h1 i hi) g2 (h2 i k hi hk hne)
  refine⟨hc,hf,fun y=>F' y\/∃ i,i < n/\i≠k/\φ i y,⟨fun i=>if i=k then F' else φ i,fun i hi=>?_,fun i j hi hj hne=>?_,fun y=>?_⟩,?_⟩
  ·by_cases e:i=k
   ·simp only [e,if_true];exact hR ▸ g1
   simp only [e,if_false];exact (fr i hi e).1
  ·intro y hy hy'
   by_cases e:i=k
   ·by_cases e2:j=k
    ·exact hne (e.trans e2.symm)
    simp only [e,if_true] at hy;simp only [e2,if_false] at hy';exact (fr j hj e2).2 y hy' hy
   simp only [e,if_false] at hy
   by_cases e2:j=k
   ·simp only [e2,if_true] at hy';exact (fr i hi e).2 y hy hy'
   simp only [e2,if_false] at hy';exact h2 i j hi hj hne y hy hy'
  ·constructor
   ·rintro (hy|⟨i,hi,hne,hy⟩)
    ·exact⟨k,hk,by simpa using hy⟩
    exact⟨i,hi,by simpa [hne] using hy⟩
   rintro⟨i,hi,hy⟩
   by_cases e:i=k
   ·simp only [e,if_true] at hy;exact .inl hy
   simp only [e,if_false] at hy;exact .inr ⟨i,hi,e,hy⟩
  obtain⟨q1,q2⟩:=g2
  refine⟨q1.mono (fun y _ hy=>(h3 y).2 ⟨k,hk,hy⟩),fun y hy=>?_⟩
  rcases hy with hy|⟨i,hi,_,hy⟩
  ·exact (q2 y hy).imp (fun hy=>(h3 y).2 ⟨k,hk,hy⟩) id
  exact .inl ((h3 y).2 ⟨i,hi,hy⟩)
variable {P:Program} {β:Bs} {N:di} {ops:Array Oper} {fr:Fr} {hps:List HP} {Q:Post}
def Nq (N:di) (ops:Array Oper) (fr:Fr) (k:Nat):Operand×Operand:=
  match eX N (fun _=>undef) ops fr k with
  | some (.store _ a y,_)=>(a,y)
  | _=>(.tmp 0,.tmp 0)
theorem wS (i:Nat) (T:TypeId) (u:Value) {Z:ct} {a:Addr} (hp:hps[i]?=some (.abs Z)) (hW:Wr Z a u) (K':ak P β N ops (k+1) (cO fr (gj ops k) undef) hps Q)
    (hop:∀ junk,eX N junk ops fr k=some (.store T (Nq N ops fr k).1 (Nq N ops fr k).2,gj ops k):=by intro _;kernel_rfl) (ha:∀ junk,cQ N fr junk (Nq N ops fr k).1=.pointer (some a):=by intro _;kernel_rfl)
    (hy:∀ junk,cQ N fr junk (Nq N ops fr k).2=u:=by intro _;kernel_rfl) (hT:(P.info? T).map (·.size)=some 1:=by kernel_rfl) (hu:u.oneCell'=true:=by rfl):ak P β N ops k fr hps Q:=by
  refine ak.jX hop (fun o junk w ho hS=>?_) K'
  obtain⟨F,hF⟩:=hS.get hp
  obtain⟨⟨x,hc⟩,hf,_⟩:=hW F w hF
  have e:hps.set i (.abs Z)=hps:=by
    apply List.ext_getElem?
    intro q
    by_cases e:i=q
    ·subst e;rw [List.getElem?_set_self (bN hp),hp]
    rw [List.getElem?_set_ne e]
  refine⟨w.setCell a u,.inr ⟨rfl,?_⟩,e ▸ hS.set (p':=.abs Z) hp (fun F hF=>(hW F w hF).2.2)⟩
  obtain⟨inf,hi,hsz⟩:∃ inf,P.info? T=some inf/\inf.size=1:=by
    cases h:P.info? T with
    | none=>rw [h] at hT;cases hT
    | some inf=>rw [h] at hT;exact⟨inf,rfl,by simpa using hT⟩
  have h3:=mW hi w
  rw [hsz] at h3
  have ha:=ha junk
  have hy:=hy junk
  generalize (Nq N ops fr k).1=a1 at ha ho
  generalize (Nq N ops fr k).2=y1 at hy ho
  obtain⟨dst,op,type,pos,after,guard⟩:=o
  cases ho
  obtain⟨b,q,s⟩:=a
  cases u<;>first
    | (simp [Value.oneCell'] at hu;done)
    | (simp only [execOp,ha,hy];simp [go_sem,Instr.storeAt,Instr.sureAddr,storeVar,h3,Value.cells,storeCells,store,Addr.add,Sem.run,hc,hf])
end wr
def CW (ns:List ay) (K:Lay) (i:Nat):ct:=oC 68 2 (K.eA i) (nd ns i).ah.length (K.eC i)
def CX (ns:List ay) (K:Lay) (i:Nat):ct:=oC 5 1 (K.dA i) (nd ns i).data.length (K.dC i)
section parts
variable {A:Option Addr} {c i k n m cap size:Nat} {e:TypeId} {ns:List ay} {K:Lay} {R:Nat->ct} {F:Fp} {w:World}
theorem jh.of:∀ F w,(HP.abs (av 66 10 A ns.length c (aR K ns))).h F w->(HP.abs (jh A c ns K)).h F w:=fun _ _ h=>⟨ns,⟨rfl,fun _=>⟨rfl,rfl⟩⟩,h⟩
theorem CW.of:∀ F w,(HP.abs (eF (mH ns K) n)).h F w->(HP.abs (eF (CW ns K) n)).h F w:=fun _ _ ⟨φ,h1,h2,h3⟩=>⟨φ,fun i hi=>⟨_,h1 i hi⟩,h2,h3⟩
theorem CX.of:∀ F w,(HP.abs (eF (jt ns K) n)).h F w->(HP.abs (eF (CX ns K) n)).h F w:=fun _ _ ⟨φ,h1,h2,h3⟩=>⟨φ,fun i hi=>⟨_,h1 i hi⟩,h2,h3⟩
theorem oC.of {xs:List Value}:∀ F w,(HP.abs (av e size A n cap xs)).h F w->(HP.abs (oC e size A n cap)).h F w:=fun _ _ h=>⟨_,h⟩
theorem jh.dat (hi:i < ns.length):∀ F w,(jh A c ns K).h F w->w.cell? ⟨aJ A,aI A+i * 10+7,none⟩=some (.slice (K.dA i) (nd ns i).data.length (K.dC i)):=fun F w ⟨ms,hs,h⟩=>by
  rw [← (hs.2 i).1]
  exact nA ms K A c i 7 (by rw [hs.1];exact hi) rfl F w h
theorem jh.ent (hi:i < ns.length):∀ F w,(jh A c ns K).h F w->w.cell? ⟨aJ A,aI A+i * 10+9,none⟩=some (.slice (K.eA i) (nd ns i).ah.length (K.eC i)):=fun F w ⟨ms,hs,h⟩=>by
  rw [← (hs.2 i).2]
  exact nA ms K A c i 9 (by rw [hs.1];exact hi) rfl F w h
variable {P:Program} {β:Bs} {N:di} {ops:Array Oper} {fr:Fr} {hps:List HP} {Q:Post}
theorem ak.V8 (i:Nat) (hp:hps[i]?=some (.abs (jh A c ns K))) (hn:0 < ns.length) (H:A=some ⟨aJ A,aI A,none⟩->ak P β N ops k fr hps Q):ak P β N ops k fr hps Q:=
  ak.tell (fun _ hS=>let ⟨_,_,hs,h⟩:=hS.get hp;(av.wq h (by rw [hs.1];exact hn)).1) H
theorem ak.V9 (i:Nat) (hp:hps[i]?=some (.abs (oC e size A n cap))) (hn:0 < n) (H:A=some ⟨aJ A,aI A,none⟩->ak P β N ops k fr hps Q):ak P β N ops k fr hps Q:=
  ak.tell (fun _ hS=>let ⟨_,_,h⟩:=hS.get hp;(av.wq h hn).1) H
theorem ak.IB (i x:Nat) (hp:hps[i]?=some (.abs (eF R n))) (hx:x < n) (hR:R x=oC e size A m cap) (hm:0 < m) (H:A=some ⟨aJ A,aI A,none⟩->ak P β N ops k fr hps Q):ak P β N ops k fr hps Q:=
  ak.tell (fun _ hS=>by
    obtain⟨F,φ,h1,_,_⟩:=hS.get hp
    obtain⟨xs,h⟩:(oC e size A m cap).h (φ x) _:=hR ▸ h1 x hx
    exact (av.wq h hm).1) H
end parts
section calls
variable {β:Bs} {ns:List ay} {X:FM} {S S2:aL} {f m t:Nat} {L:HL} {c c2:aH}
theorem HZ (hcap:kT X) (hok:aW ns) (A:Option Addr) (c:Nat) (K:Lay) (hB:lu ns 1048576) :
    Spec Tryz.prog β 6 #[.agg #[.slice A ns.length c],.agg #[.int .i64 X.cN,.int .i64 X.cB,.int .i64 X.cH,.int .i64 X.cS,.int .i64 X.cZ]] (yJ A c ns K) (fun v l=>∃ (N:Pj X ns) (f m t:Nat) (L:HL),v=.tuple #[.pointer (some ⟨f,0,none⟩),.int .i64 0]/\l=pA f m t L N.1++yJ A c ns K):=
  (Spec.Dd (pre:=[]) (fun _ g=>UU hcap hok A c g.graph hB)).mono (by rintro v l ⟨l0,⟨N,f,m,t,L,rfl,rfl⟩,rfl⟩;exact⟨N,f,m,t,L,rfl,rfl⟩)
theorem H6 (Lm:¬ (kT X/\aW ns)) (A:Option Addr) (c:Nat) (K:Lay) (hB:lu ns 1048576) :
    Spec Tryz.prog β 6 #[.agg #[.slice A ns.length c],.agg #[.int .i64 X.cN,.int .i64 X.cB,.int .i64 X.cH,.int .i64 X.cS,.int .i64 X.cZ]] (yJ A c ns K) (fun v l=>v=.tuple #[.pointer none,.int .i64 (rX X)]/\l=yJ A c ns K):=
  (Spec.Dd (pre:=[]) (fun _ g=>UW Lm A c g.graph hB)).mono (by rintro v l ⟨l0,⟨rfl,rfl⟩,rfl⟩;exact⟨rfl,rfl⟩)
theorem W9 (hI:Inv S) (B:Option Addr) (p:Nat) (hw:(Lit.int .i64 c.handle).wf=true) (ow:(Lit.int .i64 c.other).wf=true) (nm:c.name.size<=1048576) (tx:c.text.size<=1048576) (dl:c.data.length<=1048576) (hD:iD S c=(S2,c2)) :
    Spec Tryz.prog β 15 #[vP f,.agg ⟨aO (ck c B p)⟩] (pA f m t L S++[.abs (av 5 1 B c.data.length p (cx c.data))]) (fun v l=>∃ L2,v=.agg ⟨aO (ck c2 B p)⟩/\l=pA f m t L2 S2++[.abs (av 5 1 B c.data.length p (cx c.data))]):=
  (Spec.Dd (pre:=pA f m t L S) (fun _ g=>by
    obtain⟨F,h1,_⟩:=g.get 0 rfl
    exact W8 hI (c:=ck c B p) ⟨hw,ow,nm,tx,g.bytes,Nat.le_trans dl (by decide),(av.len h1).2,rfl⟩ c.dA c.dC hD)).mono (by rintro v l ⟨l0,⟨L2,rfl,rfl⟩,rfl⟩;exact⟨L2,rfl,rfl⟩)
theorem ug {g:List Int} {Y:RL} (h:Pair S g) (hR:cq β (toR S g) Y) (hD:iD S c=(S2,c2)) (hn:c.name.size<=1048576) (ht:c.text.size<=1048576) (hb:bh β c.dA c.data) (hl:c.data.length<=140737488355328) (hc:c.data.length<=c.dC) :
    Spec Tryz.prog β 12 #[.agg ⟨rV (toR S g) Y⟩,.agg ⟨aO c⟩] [] (fun v l=>∃ g' Y' B p,v=.tuple #[.agg ⟨rV (toR S2 g') Y'⟩,.agg ⟨aO (ck c2 B p)⟩]/\l=[.abs (kD β (fun β'=>Pair S2 g'/\cq β' (toR S2 g') Y'))]):=
  (cG.M8 (ι:=List Int×RL×Option Addr×Nat) (vv:=fun x=>.tuple #[.agg ⟨rV (toR S2 x.1) x.2.1⟩,.agg ⟨aO (ck c2 x.2.2.1 x.2.2.2)⟩]) (ll:=fun _=>[]) (Φ:=fun x β'=>Pair S2 x.1/\cq β' (toR S2 x.1) x.2.1)
    ((Sj h hR hD hn ht hb hl hc).mono (by rintro β' v l _ ⟨g',Y',B,p,rfl,rfl,h1,h2,_⟩;exact⟨(g',Y',B,p),rfl,rfl,h1,h2⟩))).mono (by rintro v l ⟨⟨g',Y',B,p⟩,rfl,rfl⟩;exact⟨g',Y',B,p,rfl,rfl⟩)
end calls
end
section
open Go.RowKit
inductive OT
  | lin (l:List (Bool×Nat))
  | rd (i:Nat) (t:OT)
  | two (i:Nat) (a:OT) (j:Nat) (b:OT)
  | three (i:Nat) (a:OT) (j:Nat) (b:OT) (k:Nat) (c:OT)
section order
variable {P:Program} {ops:Array Oper} {Q:Post} {n:Nat} {S:World->Prop}
def ye (P:Program) (ops:Array Oper) (Q:Post) (S:World->Prop):OT->Act->World->Prop
  | .lin l,a,w=>jf P ops Q S l a w
  | .rd i t,a,w=>∃ o v,ops[i]?=some o/\YieldsIf P ops S o v a/\ye P ops Q S t (a.put o.dst v) w
  | .two i x j y,a,w=>wpOp P ops Q i (fun a' w'=>S w'/\ye P ops Q S x a' w') a w/\wpOp P ops Q j (fun a' w'=>S w'/\ye P ops Q S y a' w') a w
  | .three i x j y k z,a,w=>wpOp P ops Q i (fun a' w'=>S w'/\ye P ops Q S x a' w') a w/\wpOp P ops Q j (fun a' w'=>S w'/\ye P ops Q S y a' w') a w/\wpOp P ops Q k (fun a' w'=>S w'/\ye P ops Q S z a' w') a w
def uw:OT->Nat
  | .lin l=>l.length
  | .rd _ t=>uw t+1
  | .two _ x _ _=>uw x+1
  | .three _ x _ _ _ _=>uw x+1
def rY (ops:Array Oper) (n:Nat):OT->Array Bool->Bool
  | .lin l,listed=>uM ops n l listed
  | .rd i t,listed=>decide (i < n) && Region.free .any ops listed i && (Region.ready .any ops listed).contains i && rY ops n t (listed.setIfInBounds i true)
  | .two i x j y,listed=>(Region.ready .any ops listed == [i,j]) && (uw x == uw y) && rY ops n x (listed.setIfInBounds i true) && rY ops n y (listed.setIfInBounds j true)
  | .three i x j y k z,listed=>(Region.ready .any ops listed == [i,j,k]) && (uw x == uw y) && (uw x == uw z) && rY ops n x (listed.setIfInBounds i true) && rY ops n y (listed.setIfInBounds j true) && rY ops n z (listed.setIfInBounds k true)
theorem zq (hsel:Region.noSelect ops=true) (iT:Region.sinkB .any ops n=true):∀ (t:OT) (listed:Array Bool) (a:Act) (w:World),rY ops n t listed=true->Closed ops listed->S w->ye P ops (NP Q) S t a w->je P ops (NP Q) n S (uw t) listed a w
  | .lin l,listed,a,w,hb,hc,hS,h=>sB hsel iT l listed a w hb hc (.inr hS) h
  | .rd i t,listed,a,w,hb,hc,hS,h=>by
    unfold rY at hb
    simp only [Bool.and_eq_true,decide_eq_true_iff] at hb
    obtain⟨⟨⟨h1,h2⟩,h3⟩,h4⟩:=hb
    obtain⟨o,v,ho,hy,hk⟩:=h
    have hr:i∈Region.ready .any ops listed:=by simpa using h3
    exact oP ho hsel iT h1 (uw t) listed a w hc (Region.free_spec ho h2) hr hy hS (zq hsel iT t _ _ w h4 (hc.set hr) hS hk)
  | .two i x j y,listed,a,w,hb,hc,_,h=>by
    unfold rY at hb
    simp only [Bool.and_eq_true,beq_iff_eq] at hb
    obtain⟨⟨⟨h1,h2⟩,h3⟩,h4⟩:=hb
    refine⟨fun h0=>(by rw [h1] at h0;cases h0),fun m hm=>?_⟩
    have hr:=hm
    rw [h1] at hm
    have hm:m=i\/m=j:=by simpa using hm
    rcases hm with rfl|rfl
    ·exact wpOp_mono (fun a' w' g=>⟨.inr g.1,zq hsel iT x _ a' w' h3 (hc.set hr) g.1 g.2⟩) h.1
    exact wpOp_mono (fun a' w' g=>⟨.inr g.1,by rw [h2];exact zq hsel iT y _ a' w' h4 (hc.set hr) g.1 g.2⟩) h.2
  | .three i x j y k z,listed,a,w,hb,hc,_,h=>by
    unfold rY at hb
    simp only [Bool.and_eq_true,beq_iff_eq] at hb
    obtain⟨⟨⟨⟨⟨h1,h2⟩,h3⟩,h4⟩,h5⟩,h6⟩:=hb
    refine⟨fun h0=>(by rw [h1] at h0;cases h0),fun m hm=>?_⟩
    have hr:=hm
    rw [h1] at hm
    have hm:m=i\/m=j\/m=k:=by simpa using hm
    rcases hm with rfl|rfl|rfl
    ·exact wpOp_mono (fun a' w' g=>⟨.inr g.1,zq hsel iT x _ a' w' h4 (hc.set hr) g.1 g.2⟩) h.1
    ·exact wpOp_mono (fun a' w' g=>⟨.inr g.1,by rw [h2];exact zq hsel iT y _ a' w' h5 (hc.set hr) g.1 g.2⟩) h.2.1
    exact wpOp_mono (fun a' w' g=>⟨.inr g.1,by rw [h3];exact zq hsel iT z _ a' w' h6 (hc.set hr) g.1 g.2⟩) h.2.2
def Nr (ops:Array Oper) (t:OT):Bool:=Region.noSelect ops && Region.sinkB .any ops (ops.size - 1) && (uw t == ops.size) && rY ops (ops.size - 1) t (Array.replicate ops.size false)
def Sp:List Nat->OT->OT
  | [],t=>t
  | i::l,t=>.rd i (Sp l t)
end order
section mix
variable {P:Program} {β:Bs} {N:di} {ops:Array Oper} {S:List HP} {t t' x y z:OT} {fr fr':Fr} {hps:List HP} {Q:Post} {cC:List Prop} {i j k:Nat}
def nI (P:Program) (β:Bs) (N:di) (ops:Array Oper) (S:List HP) (t:OT) (fr:Fr) (hps:List HP) (Q:Post):Prop:=∀ junk w,Sat β hps w->ye P ops (NP Q) (Sat β S) t (bY N fr junk) w
def qi (P:Program) (β:Bs) (N:di) (ops:Array Oper) (S:List HP) (i:Nat) (t:OT) (fr:Fr) (hps:List HP) (Q:Post):Prop:=∀ junk w,Sat β hps w->wpOp P ops (NP Q) i (fun a' w'=>Sat β S w'/\ye P ops (NP Q) (Sat β S) t a' w') (bY N fr junk) w
theorem af.Xa {id:Nat} (t:OT) (pk:List Nat) (h:nI P β N ops S t fr hps Q) (hp:bp hps pk=some S:=by kernel_rfl) (hm:P.follows .mixedOrders=true:=by kernel_rfl) (hB:Nr ops t=true:=by kernel_rfl) (hn:aP pk=true:=by kernel_rfl):af P β N (.region id ops true) fr hps Q:=by
  intro junk w hS
  unfold Nr at hB
  simp only [Bool.and_eq_true,beq_iff_eq] at hB
  obtain⟨⟨⟨h1,h2⟩,h3⟩,h4⟩:=hB
  have dr:=hS.drewN 1
  have h5:=zq (Q:=Q) h1 h2 t _ _ _ h4 (fun j oj _ hl=>by simp [Array.getD_eq_getD_getElem?,Array.getElem?_replicate] at hl;split at hl<;>simp at hl) (dr.pick hn hp) (h junk (w.drewN 1) dr)
  rw [h3] at h5
  refine Code.wp_mono (fun e a w q=>?_) (wp_region_any hm (nR _ _ _ _ h5))
  cases e with
  | normal=>exact q
  | exit id=>exact q.elim
  | goto l=>exact q.elim
  | ret=>exact q.elim
  | panic ch=>exact q.elim
  | outgrown=>exact q.elim
theorem nI.lin {l:List (Bool×Nat)} (h:dH P β N ops S l fr hps Q):nI P β N ops S (.lin l) fr hps Q:=h
theorem nI.two (h1:qi P β N ops S i x fr hps Q) (h2:qi P β N ops S j y fr hps Q):nI P β N ops S (.two i x j y) fr hps Q:=fun junk w hS=>⟨h1 junk w hS,h2 junk w hS⟩
theorem nI.three (h1:qi P β N ops S i x fr hps Q) (h2:qi P β N ops S j y fr hps Q) (h3:qi P β N ops S k z fr hps Q):nI P β N ops S (.three i x j y k z) fr hps Q:=fun junk w hS=>⟨h1 junk w hS,h2 junk w hS,h3 junk w hS⟩
theorem qi.cut {ι:Type} {fr':ι->Fr} {hp':ι->List HP} (pk:List Nat) (hg:gB ops i=true) (h:ak P β N (fW ops i) i fr hps (NP (ql β N fr' hp'))) (hn:aP pk=true) (hp:∀ j,bp (hp' j) pk=some S)
    (K:∀ j,nI P β N ops S t (fr' j) (hp' j) Q):qi P β N ops S i t fr hps Q:=by
  intro junk w hS
  refine vz hg (rG (Q':=_) (fun a w ⟨j,iG,ha,dr⟩=>?_) _ (h junk w hS))
  subst ha
  exact⟨dr.pick hn (hp j),K j iG w dr⟩
theorem wk {junk:Nat->Value} {w:World}:∀ {hs:List OH} {is:List Nat} {fr fr':Fr} {T T':SS},lf P β N junk ops hs is fr T=some (fr',T')->(∀ p,p∈T'.cC->p)->T.used=true->T.hps=S →
    ye P ops (NP Q) (Sat β S) t (bY N fr' junk) w->ye P ops (NP Q) (Sat β S) (Sp is t) (bY N fr junk) w
  | [],[],fr,fr',T,T',h,ho,hu,hT,hK=>by cases h;exact hK
  | h::hs,i::is,fr,fr',T,T',hr,ho,hu,hT,hK=>by
    unfold lf at hr
    repeat' split at hr
    all_goals first|(cases hr;done)|skip
    ·rename_i o hget _ nT _ v T1 h0 _ hv
     obtain⟨e1,e2⟩:=sy h0
     unfold Sp ye
     refine⟨o,v,hget,.inl ⟨by rw [dY];exact nT,fun w' dr=>?_⟩,?_⟩
     ·rw [eW]
      obtain⟨w2,h1,_,_,h4⟩:=kQ h0 (fun p hp=>ho p (rH hr p hp)) (by rw [hT];exact dr) (fun e=>by rw [hu] at e;cases e)
      obtain⟨ew,_⟩:=h4 rfl
      rw [ew] at h1
      rcases h1 with h1|⟨h1,_⟩
      ·exact h1
      exact absurd h1 (oQ hv)
     rw [dR]
     exact wk hr ho (e2.trans hu) (e1.trans hT) hK
    rename_i o hget _ nT
    unfold Sp ye
    refine⟨o,undef,hget,.inr ⟨by rw [dY];exact nT,rfl⟩,?_⟩
    rw [dR]
    exact wk hr ho hu hT hK
  | [],_::_,_,_,_,_,h,_,_,_,_=>by cases h
  | _::_,[],_,_,_,_,h,_,_,_,_=>by cases h
theorem gT (t:OT) (uF:Fr) (is:List Nat) (os:List (Nat×OP)) (K:nI P β N ops S t uF hps Q)
    (h:∀ junk,nS P β N junk ops (bP (bV is.length os 0)) is fr S (aQ uF)=some (uF,owed (bV is.length os 0)):=by intro _;kernel_rfl) (hl:t'=Sp is t:=by rfl):nI P β N ops S t' fr hps Q:=by
  intro junk w hS
  subst hl
  have h0:=h junk
  unfold nS at h0
  split at h0
  ·rename_i mX S1 h1
   injection h0 with h0
   injection h0 with ha hb
   have hK:=K (lk mX junk) w hS
   rw [← ha,← jW] at hK
   refine wk h1 (fun p hp=>?_) rfl rfl hK
   rw [hb] at hp
   exact (oR _).mem hp
  cases h0
end mix
end
section
open Go.RowKit Go.Maps aX aq
attribute [local irreducible] ak aV af ai dH
noncomputable abbrev qB (b1:Nat) (A:Option Addr) (ns:List ay) (c:Nat) (X:FM):=(.blk b1 [.slice A (ns.length) (c),vI (X.cN),vI (X.cB),vI (X.cH),vI (X.cS),vI (X.cZ)] 30:HP)
noncomputable abbrev oz (b5:Nat) (S:aL) (g:List Int) (Y:RL):=(.blk b5 (rV (toR S g) Y) 42:HP)
noncomputable abbrev Sq (t)(S:aL) (L:HL):=(pT t S.X.cH S.ar L S.us:HP)
noncomputable abbrev BK (Bx:Option Addr) (xs:List j9) (i:Nat) (px:Nat):=(.abs (av 5 1 Bx ((cL xs i).c.data.length) px (cx (cL xs i).c.data)):HP)
noncomputable abbrev uI (b6:Nat) (xs:List j9) (i:Nat) (Bx:Option Addr) (px:Nat):=(.blk b6 (aO (ck ((cL xs i).c) Bx px)) 53:HP)
noncomputable abbrev yD6 (S2:aL) (Kg:Lay):=(.abs (eF (CW (ax S2) Kg) (ax S2).length):HP)
noncomputable abbrev yD7 (S2:aL) (Kg:Lay):=(.abs (eF (CX (ax S2) Kg) (ax S2).length):HP)
noncomputable abbrev Wa (Y:RL) (S:aL) (g:List Int) (xs:List j9) (i:Nat):=([(150,.agg #[.slice Y.A ((toR S g).ns.length) (Y.c),.slice Y.G ((toR S g).gone.length) (Y.cg),vI ((toR S g).cH),vI ((toR S g).ar),.slice Y.H ((toR S g).us.length) (Y.ch),.slice Y.V ((toR S g).us.length) (Y.cv),vI ((toR S g).cN),vI ((toR S g).cB),vI ((toR S g).cH),vI ((toR S g).cS),vI ((toR S g).cZ),vI ((toR S g).last)]),(155,.agg #[vI ((cL xs i).c.op),vI ((cL xs i).c.handle),vI ((cL xs i).c.other),.string (cL xs i).c.name,.string (cL xs i).c.text,.slice (cL xs i).c.dA ((cL xs i).c.data.length) ((cL xs i).c.dC),vI ((cL xs i).c.mode),vI ((cL xs i).c.uid),vI ((cL xs i).c.gid),vI ((cL xs i).c.sec),vI ((cL xs i).c.nano),vI ((cL xs i).c.code),vI ((cL xs i).c.answer)])]:Fr)
noncomputable abbrev BL (A1:Option Addr) (n:Nat) (c1:Nat) (mark) (b1:Nat) (f:Nat) (fo:Nat) (b5:Nat) (i:Nat):=([(1,.slice A1 (n) (c1)),(2,.int .u8 (mark)),(3,vP b1),(8,vP f),(10,vP fo),(12,vP b5),(17,vI ↑i)]:Fr)
noncomputable abbrev ZF (Y2:RL) (S2:aL) (g2:List Int) (c2:aH) (B2) (p2):=([(157,.agg #[.slice Y2.A ((toR S2 g2).ns.length) (Y2.c),.slice Y2.G ((toR S2 g2).gone.length) (Y2.cg),vI ((toR S2 g2).cH),vI ((toR S2 g2).ar),.slice Y2.H ((toR S2 g2).us.length) (Y2.ch),.slice Y2.V ((toR S2 g2).us.length) (Y2.cv),vI ((toR S2 g2).cN),vI ((toR S2 g2).cB),vI ((toR S2 g2).cH),vI ((toR S2 g2).cS),vI ((toR S2 g2).cZ),vI ((toR S2 g2).last)]),(158,.agg #[vI (c2.op),vI (c2.handle),vI (c2.other),.string c2.name,.string c2.text,.slice B2 (c2.data.length) (p2),vI (c2.mode),vI (c2.uid),vI (c2.gid),vI (c2.sec),vI (c2.nano),vI (c2.code),vI (c2.answer)])]:Fr)
noncomputable abbrev U1 (A1:Option Addr) (xs:List j9) (c1:Nat) (mark) (b1:Nat) (b3:Nat) (f:Nat) (fo:Nat) (b5:Nat) (i:Nat):=([(1,.slice A1 (xs.length) (c1)),(2,.int .u8 (mark)),(3,vP b1),(7,vP b3),(8,vP f),(10,vP fo),(12,vP b5),(14,vI ↑i)]:Fr)
noncomputable abbrev zu (f:Nat) (m:Nat) (t) (S:aL) (L:HL):=([pF f m t S.X,pI m L S.idx,Sq t S L,pO S.O L,pD S.O L,pE S.O L]:List HP)
noncomputable abbrev Gm (A1:Option Addr) (n:Nat) (c1:Nat) (mark) (b1:Nat) (f:Nat) (fo:Nat) (b5:Nat) (i:Nat) (b6:Nat):=([(1,.slice A1 (n) (c1)),(2,.int .u8 (mark)),(3,vP b1),(8,vP f),(10,vP fo),(12,vP b5),(17,vI ↑i),(18,vP b6)]:Fr)
noncomputable abbrev Pk (m:Nat) (L2:HL) (S2:aL) (Ag:Option Addr) (cg:Nat) (Kg:Lay):=([pI m L2 S2.idx,pO S2.O L2,pD S2.O L2,pE S2.O L2,.abs (jh Ag cg (ax S2) Kg),yD6 S2 Kg,yD7 S2 Kg]:List HP)
theorem ZG {β:Bs} (A:Option Addr) (c:Nat) (xs:List j9) (hc:xs.length<=c) :
    Spec Tryz.prog β 10 #[.slice A xs.length c] [] (fun v l=>∃ n,n<=xs.length/\v=.slice A n c/\l=[]):=by
 refine SE Tryz.func10 Tryz.ntmps10 (fun R=>?_)
 refine SR (jK 1 [] [] ?_)
 refine NN (af.seq (SR (jK 3 [5] [] ?_)))
 refine NN (cP ((((xs.length:Nat):Int):Int) > (300:Int)) (fun h5=>?_) (fun h5=>?_))
 ·refine SR (jK 3 [2] [(1,p_ ⟨[],some 300,none,none,none⟩ [300=((300:Nat):Int),300<=c] ⟨rfl,by omega,trivial⟩)] ?_)
  refine NN (af.ret (ai.aj ?_))
  exact RT (.slice A (300) (c)) [0] (⟨300,by omega,rfl,rfl⟩)
 refine af.skip (NX (SR (jK 2 [2] [] ?_)))
 refine NN (af.ret ?_)
 exact RT (.slice A (xs.length) (c)) [0] (⟨xs.length,Nat.le_refl _,rfl,rfl⟩)
theorem law_memory (W:World) (A:Option Addr) (c:Nat) (ns:List ay) (Y0:Lay) (X:FM) (hG:aB (B0 W) A ns Y0) (hB:lu ns 1048576) (A1:Option Addr) (c1:Nat) (xs:List j9) (hS:cA (B0 W) A1 xs) (hxl:xs.length<=1048576) (hxc:xs.length<=c1) (mark:Int) :
    Spec Tryz.prog (B0 W) 4 #[.agg #[.slice A (ns.length) (c),vI (X.cN),vI (X.cB),vI (X.cH),vI (X.cS),vI (X.cZ)],.slice A1 (xs.length) (c1),.int .u8 (mark)] [] (fun v _=>v=.bool true):=by
 have hle0:=B0.refl W
 refine SE Tryz.func4 Tryz.ntmps4 (fun R=>?_)
 refine SR (jN 2 [3] (fun _=>[]) (fun _=>[]) (fun b1=>.blk b1 [.slice A (ns.length) (c),vI (X.cN),vI (X.cB),vI (X.cH),vI (X.cS),vI (X.cZ)] 30) (fun b1=>?_))
 refine NN (af.seq (SR (lS [] (U0) ?_)))
 rintro nJ _ _ cI ⟨rfl,rfl⟩
 replace hG:=hG.le cI
 replace hS:=hS.le cI
 replace hle0:=hle0.trans cI
 refine jK 1 [29] [] ?_
 refine NN (CF (af.skip (NX (af.seq ?_))))
 by_cases wm:kT X/\aW ns
 ·refine af.region (jK 2 [31] [(1,a_ 1 b1)] ?_)
  refine gL [] (uo A c ns Y0 hG (zo hB) (fun i hi=>⟨Nat.le_trans (uV hB i hi).1 (by decide),(uV hB i hi).2⟩)) ?_
  rintro _ _ ⟨B,cp,K,rfl,rfl⟩
  refine jN 2 [7] (fun b3=>[(1,a_ 5 b3)]) (fun _=>[]) (fun b3=>.blk b3 [.slice B (ns.length) (cp)] 24) (fun b3=>?_)
  refine NS (jK 3 [34,36] [(0,a_ 5 b3),(2,A_ 4 b1 5)] ?_)
  refine gL [0,1,2] (HZ wm.1 wm.2 B cp K hB) ?_
  rintro _ _ ⟨N,f,m,t,L,rfl,rfl⟩
  refine jK 5 [8,9] [] ?_
  refine NS (jK 3 [41,43] [(0,a_ 11 b3),(2,A_ 10 b1 5)] ?_)
  refine gL [6,7,8] (HZ wm.1 wm.2 B cp K hB) ?_
  rintro _ _ ⟨No,fo,mo,to,Lo,rfl,rfl⟩
  refine jK 5 [10] [] ?_
  refine NS (jK 4 [49,51] [(1,a_ 16 b1),(3,A_ 16 b1 5)] ?_)
  refine ak.Ij (d:=(some 52)) (R:=((pA fo mo to Lo No.1)++[.abs (av 66 10 B ns.length cp (aR K ns)),.abs (eF (mH ns K) ns.length),.abs (eF (jt ns K) ns.length),pF f m t N.1.X,pI m L N.1.idx,pT t N.1.X.cH N.1.ar L N.1.us,pO N.1.O L,pD N.1.O L,pE N.1.O L,.abs R,qB b1 A ns c X,x9 b3 B ns cp])) (pk:=[0,1,2,3,4,5,6,7,8,9,10,11,12,13,14,15,16,17]) (fun _=>by kernel_rfl) (UZ N wm.1 wm.2 A c hG hB) rfl (by kernel_rfl) ?_
  rintro xW _ _ dV ⟨Y,rfl,rfl,hR⟩
  replace hG:=hG.le dV
  replace hS:=hS.le dV
  replace hle0:=hle0.trans dV
  refine jN 6 [12,13] (fun b5=>[(4,A_ 18 b5 12)]) (fun _=>[]) (fun b5=>.blk b5 (rV (toR N.1 []) Y) 42) (fun b5=>?_)
  refine NN (af.seq (SR (jK 11 [65] [] ?_)))
  refine NN (CF (af.skip (NX (af.seq (SR (ak.mem (fun w hS=>hS.same (i:=6) (p':=.abs (jh B cp ns K)) rfl jh.of) ?_))))))
  refine ak.mem (fun w hS=>hS.same (i:=7) (p':=.abs (eF (CW ns K) ns.length)) rfl CW.of) ?_
  refine ak.mem (fun w hS=>hS.same (i:=8) (p':=.abs (eF (CX ns K) ns.length)) rfl CX.of) ?_
  have hnl:=zo hB
  refine jK 1 [14] [] ?_
  refine NN (af.block ?_)
  refine lJ (ι:=Nat) (fun (i:Nat)=>(i<=ns.length)) (fun (i:Nat)=>ns.length - i) (fun (i:Nat)=>(U1 A1 xs c1 mark b1 b3 f fo b5 i)) (fun (i:Nat)=>((pA fo mo to Lo No.1)++[.abs (jh B cp ns K),.abs (eF (CW ns K) ns.length),.abs (eF (CX ns K) ns.length),pF f m t N.1.X,pI m L N.1.idx,pT t N.1.X.cH N.1.ar L N.1.us,pO N.1.O L,pD N.1.O L,pE N.1.O L,.abs R,qB b1 A ns c X,x9 b3 B ns cp,.blk b5 (rV (toR N.1 []) Y) 42])) 0 [0,1,2,3,4,5,6,7,8,9,10,11,12,13,14,15,16,17,18] (Nat.zero_le _) ?_
  rintro i hi
  refine af.seq (SR (jK 5 [77] [(2,a_ 17 b3)] ?_))
  refine NN (cP ((((i:Nat):Int):Int) < (((ns.length:Nat):Int):Int)) (fun h77=>?_) (fun h77=>?_))
  ·refine af.skip (NX (af.seq (af.block (af.seq (SR ?_)))))
   have hin:i < ns.length:=by omega
   have hnd:=uV hB i hin
   refine ak.V8 6 rfl (by omega) (fun hgB=>?_)
   refine jK 1 [15] [] ?_
   refine NN (af.block ?_)
   refine lJ (ι:=Nat) (fun (j:Nat)=>(j<=(nd ns i).data.length)) (fun (j:Nat)=>(nd ns i).data.length - j) (fun (j:Nat)=>(U1 A1 xs c1 mark b1 b3 f fo b5 i++[(15,vI ↑j)])) (fun (j:Nat)=>((pA fo mo to Lo No.1)++[.abs (jh B cp ns K),.abs (eF (CW ns K) ns.length),.abs (eF (CX ns K) ns.length),pF f m t N.1.X,pI m L N.1.idx,pT t N.1.X.cH N.1.ar L N.1.us,pO N.1.O L,pD N.1.O L,pE N.1.O L,.abs R,qB b1 A ns c X,x9 b3 B ns cp,.blk b5 (rV (toR N.1 []) Y) 42])) 0 [0,1,2,3,4,5,6,7,8,9,10,11,12,13,14,15,16,17,18] (Nat.zero_le _) ?_
   rintro j hj
   refine af.seq (SR (jK 9 [88] [(2,a_ 17 b3),(4,x_ i ns.length (hgB)),(6,p_ ⟨[.view 6 (.slice (K.dA i) ((nd ns i).data.length) ((K.dC i)))],none,none,none,none⟩ [(∀ F w,(jh B cp ns K).h F w->w.cell? ⟨(aJ B),aI B+i * 10+7,none⟩=some (.slice (K.dA i) ((nd ns i).data.length) ((K.dC i))))] ⟨jh.dat hin,trivial⟩)] ?_))
   refine NN (cP ((((j:Nat):Int):Int) < ((((nd ns i).data.length:Nat):Int):Int)) (fun h88=>?_) (fun h88=>?_))
   ·refine af.skip (NX (af.seq (af.block (af.region ?_))))
    refine ak.IB 8 i rfl hin rfl (by omega) (fun hdA=>?_)
    refine jK 9 [98,99] [(1,a_ 17 b3),(3,x_ i ns.length (hgB)),(5,p_ ⟨[.view 6 (.slice (K.dA i) ((nd ns i).data.length) ((K.dC i)))],none,none,none,none⟩ [(∀ F w,(jh B cp ns K).h F w->w.cell? ⟨(aJ B),aI B+i * 10+7,none⟩=some (.slice (K.dA i) ((nd ns i).data.length) ((K.dC i))))] ⟨jh.dat hin,trivial⟩),(8,x_ j ((nd ns i).data.length) (hdA))] ?_
    refine wS 8 5 (.int .u8 (mark)) rfl (Wr.Cy (k:=i) hin rfl (Wr.row (j:=j * 1) (by omega) (by omega))) ?_
    refine NL (ai.aA (NX (af.region ?_)))
    refine jK 3 [15] [(1,wJ ((j:Int)+1) (↑(j+1)))] ?_
    refine NL ?_
    exact tJ ((j+1)) [0,1,2,3,4,5,6,7,8,9,10,11,12,13,14,15,16,17,18] ((by omega))
   refine af.exit (ai.aC (ai.aC (ai.aU (NX (af.seq (SR ?_))))))
   refine jK 1 [16] [] ?_
   refine NN (af.block ?_)
   refine lJ (ι:=Nat) (fun (j:Nat)=>(j<=(nd ns i).ah.length)) (fun (j:Nat)=>(nd ns i).ah.length - j) (fun (j:Nat)=>(U1 A1 xs c1 mark b1 b3 f fo b5 i++[(16,vI ↑j)])) (fun (j:Nat)=>((pA fo mo to Lo No.1)++[.abs (jh B cp ns K),.abs (eF (CW ns K) ns.length),.abs (eF (CX ns K) ns.length),pF f m t N.1.X,pI m L N.1.idx,pT t N.1.X.cH N.1.ar L N.1.us,pO N.1.O L,pD N.1.O L,pE N.1.O L,.abs R,qB b1 A ns c X,x9 b3 B ns cp,.blk b5 (rV (toR N.1 []) Y) 42])) 0 [0,1,2,3,4,5,6,7,8,9,10,11,12,13,14,15,16,17,18] (Nat.zero_le _) ?_
   rintro j hj
   refine af.seq (SR (jK 9 [108] [(2,a_ 17 b3),(4,x_ i ns.length (hgB)),(6,p_ ⟨[.view 6 (.slice (K.eA i) ((nd ns i).ah.length) ((K.eC i)))],none,none,none,none⟩ [(∀ F w,(jh B cp ns K).h F w->w.cell? ⟨(aJ B),aI B+i * 10+9,none⟩=some (.slice (K.eA i) ((nd ns i).ah.length) ((K.eC i))))] ⟨jh.ent hin,trivial⟩)] ?_))
   refine NN (cP ((((j:Nat):Int):Int) < ((((nd ns i).ah.length:Nat):Int):Int)) (fun abD=>?_) (fun abD=>?_))
   ·refine af.skip (NX (af.seq (af.block (af.region ?_))))
    refine ak.IB 7 i rfl hin rfl (by omega) (fun heA=>?_)
    refine jK 9 [119] [(1,a_ 17 b3),(3,x_ i ns.length (hgB)),(5,p_ ⟨[.view 6 (.slice (K.eA i) ((nd ns i).ah.length) ((K.eC i)))],none,none,none,none⟩ [(∀ F w,(jh B cp ns K).h F w->w.cell? ⟨(aJ B),aI B+i * 10+9,none⟩=some (.slice (K.eA i) ((nd ns i).ah.length) ((K.eC i))))] ⟨jh.ent hin,trivial⟩),(7,x_ j ((nd ns i).ah.length) (heA))] ?_
    refine wS 7 3 (.int .i64 (-1)) rfl (Wr.Cy (k:=i) hin rfl (Wr.row (j:=j * 2+1) (by omega) (by omega))) ?_
    refine NL (ai.aA (NX (af.region ?_)))
    refine jK 3 [16] [(1,wJ ((j:Int)+1) (↑(j+1)))] ?_
    refine NL ?_
    exact tJ ((j+1)) [0,1,2,3,4,5,6,7,8,9,10,11,12,13,14,15,16,17,18] ((by omega))
   refine af.exit (ai.aC (ai.aC (ai.aU (NX (af.region ?_)))))
   refine jK 5 [124] [(1,a_ 17 b3),(3,x_ i ns.length (hgB))] ?_
   refine wS 6 3 (.int .i64 0) rfl (Wr.kind (i:=i) hin) ?_
   refine NL (ai.aA (NX (af.region ?_)))
   refine jK 3 [14] [(1,wJ ((i:Int)+1) (↑(i+1)))] ?_
   refine NL ?_
   exact tJ ((i+1)) [0,1,2,3,4,5,6,7,8,9,10,11,12,13,14,15,16,17,18] ((by omega))
  refine af.exit (ai.aC (ai.aC (ai.aU (NX (SR ?_)))))
  refine jK 1 [125] [] ?_
  refine gL [] (ZG A1 c1 xs hxc) ?_
  rintro _ _ ⟨n,hn,rfl,rfl⟩
  refine jK 1 [1] [] ?_
  refine NN (af.seq (SR (jK 1 [17] [] ?_)))
  refine NN (af.block ?_)
  refine lB (ι:=Nat×Bs×aL×(List Int)×HL×RL) (fun (i,b,S,g,L,Y)=>b) (fun (i,b,S,g,L,Y)=>(i<=n)/\((B0 W).le b)/\(aB b A ns Y0)/\(cA b A1 xs)/\(Pair S g)/\(cq b (toR S g) Y)) (fun (i,b,S,g,L,Y)=>n - i) (fun (i,b,S,g,L,Y)=>(BL A1 n c1 mark b1 f fo b5 i)) (fun (i,b,S,g,L,Y)=>([qB b1 A ns c X,oz b5 S g Y]++zu f m t S L++[pF fo mo to No.1.X,pI mo Lo No.1.idx,pT to No.1.X.cH No.1.ar Lo No.1.us,pO No.1.O Lo,pD No.1.O Lo,pE No.1.O Lo,.abs R])) (0,xW,N.1,[],L,Y) [16,18,9,10,11,12,13,14,0,1,2,3,4,5,15] (⟨Nat.zero_le _,hle0,hG,hS,.start N wm.2,hR⟩) ?_
  rintro⟨i,b,S,g,L,Y⟩ ⟨hi,hle0,hG,hS,hp,hR⟩
  refine af.seq (SR (jK 4 [130] [] ?_))
  refine NN (cP ((((i:Nat):Int):Int) < (((n:Nat):Int):Int)) (fun abE=>?_) (fun abE=>?_))
  ·refine af.skip (NX (af.seq (af.block (af.seq (SR ?_)))))
   refine jK 7 [139] [(2,x_ i n (cA.hd hS (i:=i) (by omega))),(5,r_ (cA.rd hS (i:=i) (by omega) (j:=14) rfl))] ?_
   refine NN (cN (((cL xs i).a.op:Int)=(0:Int)) (fun abF=>?_) (fun abF=>?_))
   ·refine af.exit (ai.aC (ai.aU (NX (af.region ?_))))
    refine jK 3 [17] [(1,wJ ((i:Int)+1) (↑(i+1)))] ?_
    refine NL ?_
    exact tB ((i+1),b,S,g,L,Y) [0,1,2,3,4,5,6,7,8,9,10,11,12,13,14] (⟨by omega,hle0,hG,hS,hp,hR⟩)
   refine af.skip (NX (SR (jK 5 [144] [(2,x_ i n (cA.hd hS (i:=i) (by omega))),(4,p_ ⟨[.old (.int .i64 ((cL xs i).c.op)),.old (.int .i64 ((cL xs i).c.handle)),.old (.int .i64 ((cL xs i).c.other)),.old (.string (cL xs i).c.name),.old (.string (cL xs i).c.text),.old (.slice (cL xs i).c.dA ((cL xs i).c.data.length) ((cL xs i).c.dC)),.old (.int .i64 ((cL xs i).c.mode)),.old (.int .i64 ((cL xs i).c.uid)),.old (.int .i64 ((cL xs i).c.gid)),.old (.int .i64 ((cL xs i).c.sec)),.old (.int .i64 ((cL xs i).c.nano)),.old (.int .i64 ((cL xs i).c.code)),.old (.int .i64 ((cL xs i).c.answer))],none,none,none,none⟩ [(Rd b ⟨(aJ A1),aI A1+i * 19+12,none⟩ (.int .i64 ((cL xs i).c.answer))),(Rd b ⟨(aJ A1),aI A1+i * 19+11,none⟩ (.int .i64 ((cL xs i).c.code))),(Rd b ⟨(aJ A1),aI A1+i * 19+10,none⟩ (.int .i64 ((cL xs i).c.nano))),(Rd b ⟨(aJ A1),aI A1+i * 19+9,none⟩ (.int .i64 ((cL xs i).c.sec))),(Rd b ⟨(aJ A1),aI A1+i * 19+8,none⟩ (.int .i64 ((cL xs i).c.gid))),(Rd b ⟨(aJ A1),aI A1+i * 19+7,none⟩ (.int .i64 ((cL xs i).c.uid))),(Rd b ⟨(aJ A1),aI A1+i * 19+6,none⟩ (.int .i64 ((cL xs i).c.mode))),(Rd b ⟨(aJ A1),aI A1+i * 19+5,none⟩ (.slice (cL xs i).c.dA ((cL xs i).c.data.length) ((cL xs i).c.dC))),(Rd b ⟨(aJ A1),aI A1+i * 19+4,none⟩ (.string (cL xs i).c.text)),(Rd b ⟨(aJ A1),aI A1+i * 19+3,none⟩ (.string (cL xs i).c.name)),(Rd b ⟨(aJ A1),aI A1+i * 19+2,none⟩ (.int .i64 ((cL xs i).c.other))),(Rd b ⟨(aJ A1),aI A1+i * 19+1,none⟩ (.int .i64 ((cL xs i).c.handle))),(Rd b ⟨(aJ A1),aI A1+i * 19,none⟩ (.int .i64 ((cL xs i).c.op)))] ⟨cA.rd hS (i:=i) (by omega) (j:=12) rfl,cA.rd hS (i:=i) (by omega) (j:=11) rfl,cA.rd hS (i:=i) (by omega) (j:=10) rfl,cA.rd hS (i:=i) (by omega) (j:=9) rfl,cA.rd hS (i:=i) (by omega) (j:=8) rfl,cA.rd hS (i:=i) (by omega) (j:=7) rfl,cA.rd hS (i:=i) (by omega) (j:=6) rfl,cA.rd hS (i:=i) (by omega) (j:=5) rfl,cA.rd hS (i:=i) (by omega) (j:=4) rfl,cA.rd hS (i:=i) (by omega) (j:=3) rfl,cA.rd hS (i:=i) (by omega) (j:=2) rfl,cA.rd hS (i:=i) (by omega) (j:=1) rfl,cA.rd hS (i:=i) (by omega) (j:=0) rfl,trivial⟩)] ?_)))
   refine gL [] (Ln (cL xs i).c (hS.st i (by omega)).data (hS.st i (by omega)).len) ?_
   rintro _ _ ⟨Bx,px,rfl,rfl⟩
   refine jN 2 [18] (fun b6=>[(1,A_ 16 b6 13)]) (fun _=>[]) (fun b6=>.blk b6 (aO (ck ((cL xs i).c) Bx px)) 53) (fun b6=>?_)
   refine NS ?_
   obtain⟨S2,c2,hD⟩:∃ S2 c2,iD S (cL xs i).c=(S2,c2):=⟨_,_,rfl⟩
   refine jK 2 [146,147] [(1,A_ 16 b6 13)] ?_
   refine gL [3,4,5,6,7,8,0] (W9 (f:=f) (m:=m) (t:=t) (L:=L) hp.inv Bx px (hS.st i (by omega)).hw (hS.st i (by omega)).ow (hS.st i (by omega)).name (hS.st i (by omega)).text (hS.st i (by omega)).len hD) ?_
   rintro _ _ ⟨L2,rfl,rfl⟩
   refine NN (af.join (ι:=Nat×(List Int)×RL) (fun (n1,g2,Y2)=>True) (fun (n1,g2,Y2)=>(BL A1 n c1 mark b1 f fo b5 i++[(18,vP b6),(19,vP n1)])) (fun (n1,g2,Y2)=>([.abs (kD b (fun β'=>Pair S2 g2/\cq β' (toR S2 g2) Y2)),oz n1 S2 g2 Y2]++zu f m t S2 L2++[BK Bx xs i px,qB b1 A ns c X,oz b5 S g Y,pF fo mo to No.1.X,pI mo Lo No.1.idx,pT to No.1.X.cH No.1.ar Lo No.1.us,pO No.1.O Lo,pD No.1.O Lo,pE No.1.O Lo,uI b6 xs i Bx px,.abs R])) ?_ ?_)
   ·rintro⟨n1,g2,Y2⟩ _
    refine SR (ak.F6 0 [1,2,3,4,5,6,7,8,9,10,11,12,13,14,15,16,17,18] (dX:=([oz n1 S2 g2 Y2]++zu f m t S2 L2++[BK Bx xs i px,qB b1 A ns c X,oz b5 S g Y,pF fo mo to No.1.X,pI mo Lo No.1.idx,pT to No.1.X.cH No.1.ar Lo No.1.us,pO No.1.O Lo,pD No.1.O Lo,pE No.1.O Lo,uI b6 xs i Bx px,.abs R])) rfl rfl (by kernel_rfl) (fun Hz iM ⟨hp2,Y8⟩=>?_))
    replace hG:=hG.le iM
    replace hS:=hS.le iM
    replace hR:=hR.le iM
    replace hle0:=hle0.trans iM
    refine jC 2 [] [(0,A_ 0 n1 12),(1,A_ 9 b5 12)] [(9,(zC (rV (toR S2 g2) Y2)))] ?_
    refine NN (af.seq (SR (ak.mem (fun w hS=>hS.same (i:=7) (p':=.abs (oC 5 1 Bx (cL xs i).c.data.length px)) rfl oC.of) ?_)))
    have acj:=(hS.st i (by omega)).len
    refine jK 1 [21] [] ?_
    refine NN (af.block ?_)
    refine lJ (ι:=Nat) (fun (j:Nat)=>(j<=(cL xs i).c.data.length)) (fun (j:Nat)=>(cL xs i).c.data.length - j) (fun (j:Nat)=>(BL A1 n c1 mark b1 f fo b5 i++[(18,vP b6),(21,vI ↑j)])) (fun (j:Nat)=>([oz n1 S2 g2 Y2]++zu f m t S2 L2++[.abs (oC 5 1 Bx (cL xs i).c.data.length px),qB b1 A ns c X,oz b5 S2 g2 Y2,pF fo mo to No.1.X,pI mo Lo No.1.idx,pT to No.1.X.cH No.1.ar Lo No.1.us,pO No.1.O Lo,pD No.1.O Lo,pE No.1.O Lo,uI b6 xs i Bx px,.abs R])) 0 [0,1,2,3,4,5,6,7,8,9,10,11,12,13,14,15,16,17] (Nat.zero_le _) ?_
    rintro j hj
    refine af.seq (SR (jK 5 [164] [(2,a_ 16 b6)] ?_))
    refine NN (cP ((((j:Nat):Int):Int) < ((((cL xs i).c.data.length:Nat):Int):Int)) (fun abG=>?_) (fun abG=>?_))
    ·refine af.skip (NX (af.seq (af.block (af.region ?_))))
     refine ak.V9 7 rfl (by omega) (fun hBx=>?_)
     refine jK 5 [170,171] [(1,a_ 16 b6),(4,x_ j ((cL xs i).c.data.length) (hBx))] ?_
     refine wS 7 5 (.int .u8 (mark)) rfl (Wr.row (j:=j * 1) (by omega) (by omega)) ?_
     refine NL (ai.aA (NX (af.region ?_)))
     refine jK 3 [21] [(1,wJ ((j:Int)+1) (↑(j+1)))] ?_
     refine NL ?_
     exact tJ ((j+1)) [0,1,2,3,4,5,6,7,8,9,10,11,12,13,14,15,16,17] ((by omega))
    refine af.exit (ai.aC (ai.aC (ai.aU (NX (SR ?_)))))
    refine jK 1 [172] [] ?_
    refine gL [1,2,4,5,6] (xh S2 L2 f m t hp2.inv) ?_
    rintro _ _ ⟨Ag,cg,Kg,rfl,rfl⟩
    refine jN 2 [22] (fun b8=>[(1,a_ 21 b8)]) (fun _=>[]) (fun b8=>.blk b8 [.slice Ag ((ax S2).length) (cg)] 24) (fun b8=>?_)
    refine NN (af.seq (SR (ak.mem (fun w hS=>hS.same (i:=5) (p':=.abs (jh Ag cg (ax S2) Kg)) rfl jh.of) ?_)))
    refine ak.mem (fun w hS=>hS.same (i:=6) (p':=.abs (eF (CW (ax S2) Kg) (ax S2).length)) rfl CW.of) ?_
    refine ak.mem (fun w hS=>hS.same (i:=7) (p':=.abs (eF (CX (ax S2) Kg) (ax S2).length)) rfl CX.of) ?_
    have hgl:=DQ hp2.inv.toInv0
    refine jK 1 [23] [] ?_
    refine NN (af.block ?_)
    refine lJ (ι:=Nat) (fun (k:Nat)=>(k<=(ax S2).length)) (fun (k:Nat)=>(ax S2).length - k) (fun (k:Nat)=>(BL A1 n c1 mark b1 f fo b5 i++[(22,vP b8),(23,vI ↑k)])) (fun (k:Nat)=>([pF f m t S2.X]++Pk m L2 S2 Ag cg Kg++[oz n1 S2 g2 Y2,Sq t S2 L2,.abs (oC 5 1 Bx (cL xs i).c.data.length px),qB b1 A ns c X,oz b5 S2 g2 Y2,pF fo mo to No.1.X,pI mo Lo No.1.idx,pT to No.1.X.cH No.1.ar Lo No.1.us,pO No.1.O Lo,pD No.1.O Lo,pE No.1.O Lo,uI b6 xs i Bx px,.abs R,.blk b8 [.slice Ag ((ax S2).length) (cg)] 24])) 0 [0,1,2,3,4,5,6,7,8,9,10,11,12,13,14,15,16,17,18,19,20,21] (Nat.zero_le _) ?_
    rintro k hk
    refine af.seq (SR (jK 5 [178] [(2,a_ 21 b8)] ?_))
    refine NN (cP ((((k:Nat):Int):Int) < ((((ax S2).length:Nat):Int):Int)) (fun abH=>?_) (fun abH=>?_))
    ·refine af.skip (NX (af.seq (af.block (af.seq (SR ?_)))))
     have hin:k < (ax S2).length:=by omega
     have hnd:=DP hp2.inv.toInv0 k hin
     refine ak.V8 5 rfl (by omega) (fun Wb=>?_)
     refine jK 1 [24] [] ?_
     refine NN (af.block ?_)
     refine lJ (ι:=Nat) (fun (j:Nat)=>(j<=(nd (ax S2) k).data.length)) (fun (j:Nat)=>(nd (ax S2) k).data.length - j) (fun (j:Nat)=>(BL A1 n c1 mark b1 f fo b5 i++[(22,vP b8),(23,vI ↑k),(24,vI ↑j)])) (fun (j:Nat)=>([pF f m t S2.X]++Pk m L2 S2 Ag cg Kg++[oz n1 S2 g2 Y2,Sq t S2 L2,.abs (oC 5 1 Bx (cL xs i).c.data.length px),qB b1 A ns c X,oz b5 S2 g2 Y2,pF fo mo to No.1.X,pI mo Lo No.1.idx,pT to No.1.X.cH No.1.ar Lo No.1.us,pO No.1.O Lo,pD No.1.O Lo,pE No.1.O Lo,uI b6 xs i Bx px,.abs R,.blk b8 [.slice Ag ((ax S2).length) (cg)] 24])) 0 [0,1,2,3,4,5,6,7,8,9,10,11,12,13,14,15,16,17,18,19,20,21] (Nat.zero_le _) ?_
     rintro j hj
     refine af.seq (SR (jK 9 [189] [(2,a_ 21 b8),(4,x_ k ((ax S2).length) (Wb)),(6,p_ ⟨[.view 5 (.slice (Kg.dA k) ((nd (ax S2) k).data.length) ((Kg.dC k)))],none,none,none,none⟩ [(∀ F w,(jh Ag cg (ax S2) Kg).h F w->w.cell? ⟨(aJ Ag),aI Ag+k * 10+7,none⟩=some (.slice (Kg.dA k) ((nd (ax S2) k).data.length) ((Kg.dC k))))] ⟨jh.dat hin,trivial⟩)] ?_))
     refine NN (cP ((((j:Nat):Int):Int) < ((((nd (ax S2) k).data.length:Nat):Int):Int)) (fun abI=>?_) (fun abI=>?_))
     ·refine af.skip (NX (af.seq (af.block (af.region ?_))))
      refine ak.IB 7 k rfl hin rfl (by omega) (fun hdG=>?_)
      refine jK 9 [199,200] [(1,a_ 21 b8),(3,x_ k ((ax S2).length) (Wb)),(5,p_ ⟨[.view 5 (.slice (Kg.dA k) ((nd (ax S2) k).data.length) ((Kg.dC k)))],none,none,none,none⟩ [(∀ F w,(jh Ag cg (ax S2) Kg).h F w->w.cell? ⟨(aJ Ag),aI Ag+k * 10+7,none⟩=some (.slice (Kg.dA k) ((nd (ax S2) k).data.length) ((Kg.dC k))))] ⟨jh.dat hin,trivial⟩),(8,x_ j ((nd (ax S2) k).data.length) (hdG))] ?_
      refine wS 7 5 (.int .u8 (mark)) rfl (Wr.Cy (k:=k) hin rfl (Wr.row (j:=j * 1) (by omega) (by omega))) ?_
      refine NL (ai.aA (NX (af.region ?_)))
      refine jK 3 [24] [(1,wJ ((j:Int)+1) (↑(j+1)))] ?_
      refine NL ?_
      exact tJ ((j+1)) [0,1,2,3,4,5,6,7,8,9,10,11,12,13,14,15,16,17,18,19,20,21] ((by omega))
     refine af.exit (ai.aC (ai.aC (ai.aU (NX (SR ?_)))))
     refine jK 1 [25] [] ?_
     refine NN (af.block ?_)
     refine lJ (ι:=Nat) (fun (j:Nat)=>(j<=(nd (ax S2) k).ah.length)) (fun (j:Nat)=>(nd (ax S2) k).ah.length - j) (fun (j:Nat)=>(BL A1 n c1 mark b1 f fo b5 i++[(22,vP b8),(23,vI ↑k),(25,vI ↑j)])) (fun (j:Nat)=>([pF f m t S2.X]++Pk m L2 S2 Ag cg Kg++[oz n1 S2 g2 Y2,Sq t S2 L2,.abs (oC 5 1 Bx (cL xs i).c.data.length px),qB b1 A ns c X,oz b5 S2 g2 Y2,pF fo mo to No.1.X,pI mo Lo No.1.idx,pT to No.1.X.cH No.1.ar Lo No.1.us,pO No.1.O Lo,pD No.1.O Lo,pE No.1.O Lo,uI b6 xs i Bx px,.abs R,.blk b8 [.slice Ag ((ax S2).length) (cg)] 24])) 0 [0,1,2,3,4,5,6,7,8,9,10,11,12,13,14,15,16,17,18,19,20,21] (Nat.zero_le _) ?_
     rintro j hj
     refine af.seq (SR (jK 9 [209] [(2,a_ 21 b8),(4,x_ k ((ax S2).length) (Wb)),(6,p_ ⟨[.view 5 (.slice (Kg.eA k) ((nd (ax S2) k).ah.length) ((Kg.eC k)))],none,none,none,none⟩ [(∀ F w,(jh Ag cg (ax S2) Kg).h F w->w.cell? ⟨(aJ Ag),aI Ag+k * 10+9,none⟩=some (.slice (Kg.eA k) ((nd (ax S2) k).ah.length) ((Kg.eC k))))] ⟨jh.ent hin,trivial⟩)] ?_))
     refine NN (cP ((((j:Nat):Int):Int) < ((((nd (ax S2) k).ah.length:Nat):Int):Int)) (fun abJ=>?_) (fun abJ=>?_))
     ·refine af.skip (NX (af.seq (af.block (af.region ?_))))
      refine ak.IB 6 k rfl hin rfl (by omega) (fun heG=>?_)
      refine jK 9 [220] [(1,a_ 21 b8),(3,x_ k ((ax S2).length) (Wb)),(5,p_ ⟨[.view 5 (.slice (Kg.eA k) ((nd (ax S2) k).ah.length) ((Kg.eC k)))],none,none,none,none⟩ [(∀ F w,(jh Ag cg (ax S2) Kg).h F w->w.cell? ⟨(aJ Ag),aI Ag+k * 10+9,none⟩=some (.slice (Kg.eA k) ((nd (ax S2) k).ah.length) ((Kg.eC k))))] ⟨jh.ent hin,trivial⟩),(7,x_ j ((nd (ax S2) k).ah.length) (heG))] ?_
      refine wS 6 9 (.string ⟨#[109,97,114,107]⟩) rfl (Wr.Cy (k:=k) hin rfl (Wr.row (j:=j * 2) (by omega) (by omega))) ?_
      refine NL (ai.aA (NX (af.region ?_)))
      refine jK 3 [25] [(1,wJ ((j:Int)+1) (↑(j+1)))] ?_
      refine NL ?_
      exact tJ ((j+1)) [0,1,2,3,4,5,6,7,8,9,10,11,12,13,14,15,16,17,18,19,20,21] ((by omega))
     refine af.exit (ai.aC (ai.aC (ai.aU (ai.aA (NX (af.region ?_))))))
     refine jK 3 [23] [(1,wJ ((k:Int)+1) (↑(k+1)))] ?_
     refine NL ?_
     exact tJ ((k+1)) [0,1,2,3,4,5,6,7,8,9,10,11,12,13,14,15,16,17,18,19,20,21] ((by omega))
    refine af.exit (ai.aC (ai.aC (ai.aU (NX (SR ?_)))))
    refine jK 1 [221] [] ?_
    refine gL [0,9] (BJ S2 L2 f m t) ?_
    rintro _ _ ⟨Ah,ch,rfl,rfl⟩
    refine jK 1 [26] [] ?_
    refine NS (ak.mem (fun w hS=>hS.same (i:=2) (p':=.abs (oC 3 1 Ah S2.us.length ch)) rfl oC.of) ?_)
    have si:S2.us.length<=1048576:=(sM S2.us) ▸ Sk hp2.inv.toInv0
    refine jK 1 [27] [] ?_
    refine NN (af.block ?_)
    refine lJ (ι:=Nat) (fun (j:Nat)=>(j<=S2.us.length)) (fun (j:Nat)=>S2.us.length - j) (fun (j:Nat)=>(BL A1 n c1 mark b1 f fo b5 i++[(26,.slice Ah (S2.us.length) (ch)),(27,vI ↑j)])) (fun (j:Nat)=>([pF f m t S2.X,Sq t S2 L2,.abs (oC 3 1 Ah S2.us.length ch)]++Pk m L2 S2 Ag cg Kg++[oz n1 S2 g2 Y2,.abs (oC 5 1 Bx (cL xs i).c.data.length px),qB b1 A ns c X,oz b5 S2 g2 Y2,pF fo mo to No.1.X,pI mo Lo No.1.idx,pT to No.1.X.cH No.1.ar Lo No.1.us,pO No.1.O Lo,pD No.1.O Lo,pE No.1.O Lo,uI b6 xs i Bx px,.abs R,.blk b8 [.slice Ag ((ax S2).length) (cg)] 24])) 0 [0,1,2,3,4,5,6,7,8,9,10,11,12,13,14,15,16,17,18,19,20,21,22] (Nat.zero_le _) ?_
    rintro j hj
    refine af.seq (SR (jK 4 [226] [] ?_))
    refine NN (cP ((((j:Nat):Int):Int) < (((S2.us.length:Nat):Int):Int)) (fun abK=>?_) (fun abK=>?_))
    ·refine af.skip (NX (af.seq (af.block (af.region ?_))))
     refine ak.V9 2 rfl (by omega) (fun hAh=>?_)
     refine jK 3 [231] [(2,x_ j S2.us.length (hAh))] ?_
     refine wS 2 3 (.int .i64 (-5)) rfl (Wr.row (j:=j * 1) (by omega) (by omega)) ?_
     refine NL (ai.aA (NX (af.region ?_)))
     refine jK 3 [27] [(1,wJ ((j:Int)+1) (↑(j+1)))] ?_
     refine NL ?_
     exact tJ ((j+1)) [0,1,2,3,4,5,6,7,8,9,10,11,12,13,14,15,16,17,18,19,20,21,22] ((by omega))
    refine af.exit (ai.aC (ai.aC (ai.aU (ai.aA (NX (af.region ?_))))))
    refine jK 3 [17] [(1,wJ ((i:Int)+1) (↑(i+1)))] ?_
    refine NL ?_
    exact tB ((i+1),Hz,S2,g2,L2,Y2) [12,13,0,3,1,4,5,6,14,15,16,17,18,19,21] (⟨by omega,hle0,hG,hS,hp2,Y8⟩)
   refine af.Xa (S:=[oz b5 S g Y]) (.rd 0 (.rd 1 (.rd 2 (.rd 3 (.rd 4 (.rd 5 (.three 6 (.rd 7 (.rd 8 (.rd 9 (.two 10 (.lin [(false,11),(false,12),(false,13)]) 11 (.lin [(false,10),(false,12),(false,13)]))))) 10 (.two 6 (.rd 7 (.rd 8 (.rd 9 (.lin [(false,11),(false,12),(false,13)])))) 11 (.lin [(false,6),(true,7),(true,8),(true,9),(false,12),(false,13)])) 11 (.two 6 (.rd 7 (.rd 8 (.rd 9 (.lin [(false,10),(false,12),(false,13)])))) 10 (.lin [(false,6),(true,7),(true,8),(true,9),(false,12),(false,13)]))))))))) [8] ?_
   refine gT (.three 6 (.rd 7 (.rd 8 (.rd 9 (.two 10 (.lin [(false,11),(false,12),(false,13)]) 11 (.lin [(false,10),(false,12),(false,13)]))))) 10 (.two 6 (.rd 7 (.rd 8 (.rd 9 (.lin [(false,11),(false,12),(false,13)])))) 11 (.lin [(false,6),(true,7),(true,8),(true,9),(false,12),(false,13)])) 11 (.two 6 (.rd 7 (.rd 8 (.rd 9 (.lin [(false,10),(false,12),(false,13)])))) 10 (.lin [(false,6),(true,7),(true,8),(true,9),(false,12),(false,13)]))) (BL A1 n c1 mark b1 f fo b5 i++[(18,vP b6),(150,.agg ⟨rV (toR S g) Y⟩),(155,.agg ⟨aO ((cL xs i).c)⟩)]) [0,1,2,3,4,5] [(0,A_ 0 b5 12),(3,x_ i n (cA.hd hS (i:=i) (by omega))),(5,p_ ⟨[.old (.int .i64 ((cL xs i).c.op)),.old (.int .i64 ((cL xs i).c.handle)),.old (.int .i64 ((cL xs i).c.other)),.old (.string (cL xs i).c.name),.old (.string (cL xs i).c.text),.old (.slice (cL xs i).c.dA ((cL xs i).c.data.length) ((cL xs i).c.dC)),.old (.int .i64 ((cL xs i).c.mode)),.old (.int .i64 ((cL xs i).c.uid)),.old (.int .i64 ((cL xs i).c.gid)),.old (.int .i64 ((cL xs i).c.sec)),.old (.int .i64 ((cL xs i).c.nano)),.old (.int .i64 ((cL xs i).c.code)),.old (.int .i64 ((cL xs i).c.answer))],none,none,none,none⟩ [(Rd b ⟨(aJ A1),aI A1+i * 19+12,none⟩ (.int .i64 ((cL xs i).c.answer))),(Rd b ⟨(aJ A1),aI A1+i * 19+11,none⟩ (.int .i64 ((cL xs i).c.code))),(Rd b ⟨(aJ A1),aI A1+i * 19+10,none⟩ (.int .i64 ((cL xs i).c.nano))),(Rd b ⟨(aJ A1),aI A1+i * 19+9,none⟩ (.int .i64 ((cL xs i).c.sec))),(Rd b ⟨(aJ A1),aI A1+i * 19+8,none⟩ (.int .i64 ((cL xs i).c.gid))),(Rd b ⟨(aJ A1),aI A1+i * 19+7,none⟩ (.int .i64 ((cL xs i).c.uid))),(Rd b ⟨(aJ A1),aI A1+i * 19+6,none⟩ (.int .i64 ((cL xs i).c.mode))),(Rd b ⟨(aJ A1),aI A1+i * 19+5,none⟩ (.slice (cL xs i).c.dA ((cL xs i).c.data.length) ((cL xs i).c.dC))),(Rd b ⟨(aJ A1),aI A1+i * 19+4,none⟩ (.string (cL xs i).c.text)),(Rd b ⟨(aJ A1),aI A1+i * 19+3,none⟩ (.string (cL xs i).c.name)),(Rd b ⟨(aJ A1),aI A1+i * 19+2,none⟩ (.int .i64 ((cL xs i).c.other))),(Rd b ⟨(aJ A1),aI A1+i * 19+1,none⟩ (.int .i64 ((cL xs i).c.handle))),(Rd b ⟨(aJ A1),aI A1+i * 19,none⟩ (.int .i64 ((cL xs i).c.op)))] ⟨cA.rd hS (i:=i) (by omega) (j:=12) rfl,cA.rd hS (i:=i) (by omega) (j:=11) rfl,cA.rd hS (i:=i) (by omega) (j:=10) rfl,cA.rd hS (i:=i) (by omega) (j:=9) rfl,cA.rd hS (i:=i) (by omega) (j:=8) rfl,cA.rd hS (i:=i) (by omega) (j:=7) rfl,cA.rd hS (i:=i) (by omega) (j:=6) rfl,cA.rd hS (i:=i) (by omega) (j:=5) rfl,cA.rd hS (i:=i) (by omega) (j:=4) rfl,cA.rd hS (i:=i) (by omega) (j:=3) rfl,cA.rd hS (i:=i) (by omega) (j:=2) rfl,cA.rd hS (i:=i) (by omega) (j:=1) rfl,cA.rd hS (i:=i) (by omega) (j:=0) rfl,trivial⟩)] ?_
   refine nI.three ?_ ?_ ?_
   ·refine qi.cut (ι:=(List Int)×RL×(Option Addr)×Nat) (fr':=fun ((g2,Y2,B2,p2):(List Int)×RL×(Option Addr)×Nat)=>[(1,.slice A1 (n) (c1)),(2,.int .u8 (mark)),(3,vP b1),(8,vP f),(10,vP fo),(12,vP b5),(17,vI ↑i),(18,vP b6),(156,.tuple #[.agg #[.slice Y2.A ((toR S2 g2).ns.length) (Y2.c),.slice Y2.G ((toR S2 g2).gone.length) (Y2.cg),vI ((toR S2 g2).cH),vI ((toR S2 g2).ar),.slice Y2.H ((toR S2 g2).us.length) (Y2.ch),.slice Y2.V ((toR S2 g2).us.length) (Y2.cv),vI ((toR S2 g2).cN),vI ((toR S2 g2).cB),vI ((toR S2 g2).cH),vI ((toR S2 g2).cS),vI ((toR S2 g2).cZ),vI ((toR S2 g2).last)],.agg #[vI (c2.op),vI (c2.handle),vI (c2.other),.string c2.name,.string c2.text,.slice B2 (c2.data.length) (p2),vI (c2.mode),vI (c2.uid),vI (c2.gid),vI (c2.sec),vI (c2.nano),vI (c2.code),vI (c2.answer)]])]) (hp':=fun ((g2,Y2,B2,p2):(List Int)×RL×(Option Addr)×Nat)=>([.abs (kD b (fun β'=>Pair S2 g2/\cq β' (toR S2 g2) Y2))]++zu f m t S2 L2++[BK Bx xs i px,qB b1 A ns c X,oz b5 S g Y,pF fo mo to No.1.X,pI mo Lo No.1.idx,pT to No.1.X.cH No.1.ar Lo No.1.us,pO No.1.O Lo,pD No.1.O Lo,pE No.1.O Lo,.abs R,uI b6 xs i Bx px])) [9] (by kernel_rfl) ?_ rfl (fun _=>by kernel_rfl) ?_
    ·refine gL [] (ug hp hR hD (hS.st i (by omega)).name (hS.st i (by omega)).text (hS.st i (by omega)).data (Nat.le_trans (hS.st i (by omega)).len (by decide)) (hS.st i (by omega)).DR) ?_
     rintro _ _ ⟨g2,Y2,B2,p2,rfl,rfl⟩
     refine NL ?_
     exact MD (g2,Y2,B2,p2) [1,2,3,8,10,12,17,18,156] [0,1,2,3,4,5,6,7,8,9,10,11,12,13,14,15,16,17]
    rintro⟨g2,Y2,B2,p2⟩
    refine gT (.two 10 (.lin [(false,11),(false,12),(false,13)]) 11 (.lin [(false,10),(false,12),(false,13)])) (BL A1 n c1 mark b1 f fo b5 i++[(18,vP b6),(157,.agg ⟨rV (toR S2 g2) Y2⟩),(158,.agg ⟨aO (ck c2 B2 p2)⟩)]) [7,8,9] [] ?_
    refine nI.two ?_ ?_
    ·refine qi.cut (ι:=Nat) (fr':=fun (b9:Nat)=>(Gm A1 n c1 mark b1 f fo b5 i b6++[(19,vP b9)]++ZF Y2 S2 g2 c2 B2 p2)) (hp':=fun (b9:Nat)=>([.abs (kD b (fun β'=>Pair S2 g2/\cq β' (toR S2 g2) Y2))]++zu f m t S2 L2++[BK Bx xs i px,qB b1 A ns c X,oz b5 S g Y,pF fo mo to No.1.X,pI mo Lo No.1.idx,pT to No.1.X.cH No.1.ar Lo No.1.us,pO No.1.O Lo,pD No.1.O Lo,pE No.1.O Lo,.abs R,uI b6 xs i Bx px,.blk b9 (rZ) 42])) [9] (by kernel_rfl) ?_ rfl (fun _=>by kernel_rfl) ?_
     ·refine jN 1 [19] (fun _=>[]) (fun _=>[]) (fun b9=>.blk b9 (rZ) 42) (fun b9=>?_)
      refine NL ?_
      exact MD b9 [1,2,3,8,10,12,17,18,19,157,158] [0,1,2,3,4,5,6,7,8,9,10,11,12,13,14,15,16,17,18]
     rintro b9
     refine nI.lin ?_
     refine kN [9] [20] (fun _=>[]) (fun b10=>.blk b10 [vI 0,vI 0,vI 0,.string ⟨#[]⟩,.string ⟨#[]⟩,.slice none (0) (0),vI 0,vI 0,vI 0,vI 0,vI 0,vI 0,vI 0] 53) (fun b10=>?_)
     refine kC [9] [] [(0,A_ 18 b9 12)] [(18,(zC (rV (toR S2 g2) Y2)))] ?_
     refine dH.last (by kernel_rfl) ?_
     refine jC 1 [] [(0,A_ 19 b10 13)] [(19,(zC (aO (ck c2 B2 p2))))] ?_
     refine NL (ai.np ?_)
     exact mJ (b9,g2,Y2) [0,18,1,2,3,4,5,6,7,8,9,10,11,12,13,14,15,17,16] (trivial)
    refine qi.cut (ι:=Nat) (fr':=fun (b11:Nat)=>(Gm A1 n c1 mark b1 f fo b5 i b6++[(20,vP b11)]++ZF Y2 S2 g2 c2 B2 p2)) (hp':=fun (b11:Nat)=>([.abs (kD b (fun β'=>Pair S2 g2/\cq β' (toR S2 g2) Y2))]++zu f m t S2 L2++[BK Bx xs i px,qB b1 A ns c X,oz b5 S g Y,pF fo mo to No.1.X,pI mo Lo No.1.idx,pT to No.1.X.cH No.1.ar Lo No.1.us,pO No.1.O Lo,pD No.1.O Lo,pE No.1.O Lo,.abs R,uI b6 xs i Bx px,EX b11])) [9] (by kernel_rfl) ?_ rfl (fun _=>by kernel_rfl) ?_
    ·refine jN 1 [20] (fun _=>[]) (fun _=>[]) (fun b11=>.blk b11 [vI 0,vI 0,vI 0,.string ⟨#[]⟩,.string ⟨#[]⟩,.slice none (0) (0),vI 0,vI 0,vI 0,vI 0,vI 0,vI 0,vI 0] 53) (fun b11=>?_)
     refine NL ?_
     exact MD b11 [1,2,3,8,10,12,17,18,20,157,158] [0,1,2,3,4,5,6,7,8,9,10,11,12,13,14,15,16,17,18]
    rintro b11
    refine nI.lin ?_
    refine kN [9] [19] (fun _=>[]) (fun b12=>.blk b12 (rZ) 42) (fun b12=>?_)
    refine kC [9] [] [(0,A_ 19 b12 12)] [(19,(zC (rV (toR S2 g2) Y2)))] ?_
    refine dH.last (by kernel_rfl) ?_
    refine jC 1 [] [(0,A_ 18 b11 13)] [(18,(zC (aO (ck c2 B2 p2))))] ?_
    refine NL (ai.np ?_)
    exact mJ (b12,g2,Y2) [0,19,1,2,3,4,5,6,7,8,9,10,11,12,13,14,15,17,16] (trivial)
   ·refine qi.cut (ι:=Nat) (fr':=fun (b13:Nat)=>(Gm A1 n c1 mark b1 f fo b5 i b6++[(19,vP b13)]++Wa Y S g xs i)) (hp':=fun (b13:Nat)=>((pA f m t L2 S2)++[BK Bx xs i px,qB b1 A ns c X,oz b5 S g Y,pF fo mo to No.1.X,pI mo Lo No.1.idx,pT to No.1.X.cH No.1.ar Lo No.1.us,pO No.1.O Lo,pD No.1.O Lo,pE No.1.O Lo,.abs R,uI b6 xs i Bx px,.blk b13 (rZ) 42])) [8] (by kernel_rfl) ?_ rfl (fun _=>by kernel_rfl) ?_
    ·refine jN 1 [19] (fun _=>[]) (fun _=>[]) (fun b13=>.blk b13 (rZ) 42) (fun b13=>?_)
     refine NL ?_
     exact MD b13 [1,2,3,8,10,12,17,18,19,150,155] [0,1,2,3,4,5,6,7,8,9,10,11,12,13,14,15,16,17]
    rintro b13
    refine nI.two ?_ ?_
    ·refine qi.cut (ι:=(List Int)×RL×(Option Addr)×Nat) (fr':=fun ((g2,Y2,B2,p2):(List Int)×RL×(Option Addr)×Nat)=>[(1,.slice A1 (n) (c1)),(2,.int .u8 (mark)),(3,vP b1),(8,vP f),(10,vP fo),(12,vP b5),(17,vI ↑i),(18,vP b6),(19,vP b13),(156,.tuple #[.agg #[.slice Y2.A ((toR S2 g2).ns.length) (Y2.c),.slice Y2.G ((toR S2 g2).gone.length) (Y2.cg),vI ((toR S2 g2).cH),vI ((toR S2 g2).ar),.slice Y2.H ((toR S2 g2).us.length) (Y2.ch),.slice Y2.V ((toR S2 g2).us.length) (Y2.cv),vI ((toR S2 g2).cN),vI ((toR S2 g2).cB),vI ((toR S2 g2).cH),vI ((toR S2 g2).cS),vI ((toR S2 g2).cZ),vI ((toR S2 g2).last)],.agg #[vI (c2.op),vI (c2.handle),vI (c2.other),.string c2.name,.string c2.text,.slice B2 (c2.data.length) (p2),vI (c2.mode),vI (c2.uid),vI (c2.gid),vI (c2.sec),vI (c2.nano),vI (c2.code),vI (c2.answer)]])]) (hp':=fun ((g2,Y2,B2,p2):(List Int)×RL×(Option Addr)×Nat)=>([.abs (kD b (fun β'=>Pair S2 g2/\cq β' (toR S2 g2) Y2))]++zu f m t S2 L2++[BK Bx xs i px,qB b1 A ns c X,oz b5 S g Y,pF fo mo to No.1.X,pI mo Lo No.1.idx,pT to No.1.X.cH No.1.ar Lo No.1.us,pO No.1.O Lo,pD No.1.O Lo,pE No.1.O Lo,.abs R,uI b6 xs i Bx px,.blk b13 (rZ) 42])) [9] (by kernel_rfl) ?_ rfl (fun _=>by kernel_rfl) ?_
     ·refine gL [] (ug hp hR hD (hS.st i (by omega)).name (hS.st i (by omega)).text (hS.st i (by omega)).data (Nat.le_trans (hS.st i (by omega)).len (by decide)) (hS.st i (by omega)).DR) ?_
      rintro _ _ ⟨g2,Y2,B2,p2,rfl,rfl⟩
      refine NL ?_
      exact MD (g2,Y2,B2,p2) [1,2,3,8,10,12,17,18,19,156] [0,1,2,3,4,5,6,7,8,9,10,11,12,13,14,15,16,17,18]
     rintro⟨g2,Y2,B2,p2⟩
     refine gT (.lin [(false,11),(false,12),(false,13)]) (BL A1 n c1 mark b1 f fo b5 i++[(18,vP b6),(19,vP b13),(157,.agg ⟨rV (toR S2 g2) Y2⟩),(158,.agg ⟨aO (ck c2 B2 p2)⟩)]) [7,8,9] [] ?_
     refine nI.lin ?_
     refine kN [9] [20] (fun _=>[]) (fun b14=>.blk b14 [vI 0,vI 0,vI 0,.string ⟨#[]⟩,.string ⟨#[]⟩,.slice none (0) (0),vI 0,vI 0,vI 0,vI 0,vI 0,vI 0,vI 0] 53) (fun b14=>?_)
     refine kC [9] [] [(0,A_ 18 b13 12)] [(18,(zC (rV (toR S2 g2) Y2)))] ?_
     refine dH.last (by kernel_rfl) ?_
     refine jC 1 [] [(0,A_ 19 b14 13)] [(19,(zC (aO (ck c2 B2 p2))))] ?_
     refine NL (ai.np ?_)
     exact mJ (b13,g2,Y2) [0,18,1,2,3,4,5,6,7,8,9,10,11,12,13,14,15,17,16] (trivial)
    refine qi.cut (ι:=Nat) (fr':=fun (b15:Nat)=>(Gm A1 n c1 mark b1 f fo b5 i b6++[(19,vP b13),(20,vP b15)]++Wa Y S g xs i)) (hp':=fun (b15:Nat)=>((pA f m t L2 S2)++[BK Bx xs i px,qB b1 A ns c X,oz b5 S g Y,pF fo mo to No.1.X,pI mo Lo No.1.idx,pT to No.1.X.cH No.1.ar Lo No.1.us,pO No.1.O Lo,pD No.1.O Lo,pE No.1.O Lo,.abs R,uI b6 xs i Bx px,.blk b13 (rZ) 42,EX b15])) [8] (by kernel_rfl) ?_ rfl (fun _=>by kernel_rfl) ?_
    ·refine jN 1 [20] (fun _=>[]) (fun _=>[]) (fun b15=>.blk b15 [vI 0,vI 0,vI 0,.string ⟨#[]⟩,.string ⟨#[]⟩,.slice none (0) (0),vI 0,vI 0,vI 0,vI 0,vI 0,vI 0,vI 0] 53) (fun b15=>?_)
     refine NL ?_
     exact MD b15 [1,2,3,8,10,12,17,18,19,20,150,155] [0,1,2,3,4,5,6,7,8,9,10,11,12,13,14,15,16,17,18]
    rintro b15
    refine nI.lin ?_
    refine kL [9] [] (ug hp hR hD (hS.st i (by omega)).name (hS.st i (by omega)).text (hS.st i (by omega)).data (Nat.le_trans (hS.st i (by omega)).len (by decide)) (hS.st i (by omega)).DR) ?_ (by rintro _ _ ⟨g2,Y2,B2,p2,rfl,rfl⟩;kernel_rfl)
    rintro _ _ ⟨g2,Y2,B2,p2,rfl,rfl⟩
    refine jG 3 [1,2,3,8,10,12,17,18,19,20,157,158] [] ?_
    refine kC [9] [] [(0,A_ 18 b13 12)] [(18,(zC (rV (toR S2 g2) Y2)))] ?_
    refine dH.last (by kernel_rfl) ?_
    refine jC 1 [] [(0,A_ 19 b15 13)] [(19,(zC (aO (ck c2 B2 p2))))] ?_
    refine NL (ai.np ?_)
    exact mJ (b13,g2,Y2) [0,18,1,2,3,4,5,6,7,8,9,10,11,12,13,14,15,17,16] (trivial)
   refine qi.cut (ι:=Nat) (fr':=fun (b16:Nat)=>(Gm A1 n c1 mark b1 f fo b5 i b6++[(20,vP b16)]++Wa Y S g xs i)) (hp':=fun (b16:Nat)=>((pA f m t L2 S2)++[BK Bx xs i px,qB b1 A ns c X,oz b5 S g Y,pF fo mo to No.1.X,pI mo Lo No.1.idx,pT to No.1.X.cH No.1.ar Lo No.1.us,pO No.1.O Lo,pD No.1.O Lo,pE No.1.O Lo,.abs R,uI b6 xs i Bx px,EX b16])) [8] (by kernel_rfl) ?_ rfl (fun _=>by kernel_rfl) ?_
   ·refine jN 1 [20] (fun _=>[]) (fun _=>[]) (fun b16=>.blk b16 [vI 0,vI 0,vI 0,.string ⟨#[]⟩,.string ⟨#[]⟩,.slice none (0) (0),vI 0,vI 0,vI 0,vI 0,vI 0,vI 0,vI 0] 53) (fun b16=>?_)
    refine NL ?_
    exact MD b16 [1,2,3,8,10,12,17,18,20,150,155] [0,1,2,3,4,5,6,7,8,9,10,11,12,13,14,15,16,17]
   rintro b16
   refine nI.two ?_ ?_
   ·refine qi.cut (ι:=(List Int)×RL×(Option Addr)×Nat) (fr':=fun ((g2,Y2,B2,p2):(List Int)×RL×(Option Addr)×Nat)=>[(1,.slice A1 (n) (c1)),(2,.int .u8 (mark)),(3,vP b1),(8,vP f),(10,vP fo),(12,vP b5),(17,vI ↑i),(18,vP b6),(20,vP b16),(156,.tuple #[.agg #[.slice Y2.A ((toR S2 g2).ns.length) (Y2.c),.slice Y2.G ((toR S2 g2).gone.length) (Y2.cg),vI ((toR S2 g2).cH),vI ((toR S2 g2).ar),.slice Y2.H ((toR S2 g2).us.length) (Y2.ch),.slice Y2.V ((toR S2 g2).us.length) (Y2.cv),vI ((toR S2 g2).cN),vI ((toR S2 g2).cB),vI ((toR S2 g2).cH),vI ((toR S2 g2).cS),vI ((toR S2 g2).cZ),vI ((toR S2 g2).last)],.agg #[vI (c2.op),vI (c2.handle),vI (c2.other),.string c2.name,.string c2.text,.slice B2 (c2.data.length) (p2),vI (c2.mode),vI (c2.uid),vI (c2.gid),vI (c2.sec),vI (c2.nano),vI (c2.code),vI (c2.answer)]])]) (hp':=fun ((g2,Y2,B2,p2):(List Int)×RL×(Option Addr)×Nat)=>([.abs (kD b (fun β'=>Pair S2 g2/\cq β' (toR S2 g2) Y2))]++zu f m t S2 L2++[BK Bx xs i px,qB b1 A ns c X,oz b5 S g Y,pF fo mo to No.1.X,pI mo Lo No.1.idx,pT to No.1.X.cH No.1.ar Lo No.1.us,pO No.1.O Lo,pD No.1.O Lo,pE No.1.O Lo,.abs R,uI b6 xs i Bx px,EX b16])) [9] (by kernel_rfl) ?_ rfl (fun _=>by kernel_rfl) ?_
    ·refine gL [] (ug hp hR hD (hS.st i (by omega)).name (hS.st i (by omega)).text (hS.st i (by omega)).data (Nat.le_trans (hS.st i (by omega)).len (by decide)) (hS.st i (by omega)).DR) ?_
     rintro _ _ ⟨g2,Y2,B2,p2,rfl,rfl⟩
     refine NL ?_
     exact MD (g2,Y2,B2,p2) [1,2,3,8,10,12,17,18,20,156] [0,1,2,3,4,5,6,7,8,9,10,11,12,13,14,15,16,17,18]
    rintro⟨g2,Y2,B2,p2⟩
    refine gT (.lin [(false,10),(false,12),(false,13)]) (BL A1 n c1 mark b1 f fo b5 i++[(18,vP b6),(20,vP b16),(157,.agg ⟨rV (toR S2 g2) Y2⟩),(158,.agg ⟨aO (ck c2 B2 p2)⟩)]) [7,8,9] [] ?_
    refine nI.lin ?_
    refine kN [9] [19] (fun _=>[]) (fun b17=>.blk b17 (rZ) 42) (fun b17=>?_)
    refine kC [9] [] [(0,A_ 19 b17 12)] [(19,(zC (rV (toR S2 g2) Y2)))] ?_
    refine dH.last (by kernel_rfl) ?_
    refine jC 1 [] [(0,A_ 18 b16 13)] [(18,(zC (aO (ck c2 B2 p2))))] ?_
    refine NL (ai.np ?_)
    exact mJ (b17,g2,Y2) [0,19,1,2,3,4,5,6,7,8,9,10,11,12,13,14,15,17,16] (trivial)
   refine qi.cut (ι:=Nat) (fr':=fun (b18:Nat)=>(Gm A1 n c1 mark b1 f fo b5 i b6++[(19,vP b18),(20,vP b16)]++Wa Y S g xs i)) (hp':=fun (b18:Nat)=>((pA f m t L2 S2)++[BK Bx xs i px,qB b1 A ns c X,oz b5 S g Y,pF fo mo to No.1.X,pI mo Lo No.1.idx,pT to No.1.X.cH No.1.ar Lo No.1.us,pO No.1.O Lo,pD No.1.O Lo,pE No.1.O Lo,.abs R,uI b6 xs i Bx px,EX b16,.blk b18 (rZ) 42])) [8] (by kernel_rfl) ?_ rfl (fun _=>by kernel_rfl) ?_
   ·refine jN 1 [19] (fun _=>[]) (fun _=>[]) (fun b18=>.blk b18 (rZ) 42) (fun b18=>?_)
    refine NL ?_
    exact MD b18 [1,2,3,8,10,12,17,18,19,20,150,155] [0,1,2,3,4,5,6,7,8,9,10,11,12,13,14,15,16,17,18]
   rintro b18
   refine nI.lin ?_
   refine kL [9] [] (ug hp hR hD (hS.st i (by omega)).name (hS.st i (by omega)).text (hS.st i (by omega)).data (Nat.le_trans (hS.st i (by omega)).len (by decide)) (hS.st i (by omega)).DR) ?_ (by rintro _ _ ⟨g2,Y2,B2,p2,rfl,rfl⟩;kernel_rfl)
   rintro _ _ ⟨g2,Y2,B2,p2,rfl,rfl⟩
   refine jG 3 [1,2,3,8,10,12,17,18,19,20,157,158] [] ?_
   refine kC [9] [] [(0,A_ 19 b18 12)] [(19,(zC (rV (toR S2 g2) Y2)))] ?_
   refine dH.last (by kernel_rfl) ?_
   refine jC 1 [] [(0,A_ 18 b16 13)] [(18,(zC (aO (ck c2 B2 p2))))] ?_
   refine NL (ai.np ?_)
   exact mJ (b18,g2,Y2) [0,19,1,2,3,4,5,6,7,8,9,10,11,12,13,14,15,17,16] (trivial)
  refine af.exit (ai.aC (ai.aC (ai.aU (NX (af.seq ?_)))))
  refine jM [0,1,502,3,4,6,7,505,508,9,10,11,512,13,14,15,516] [0,1] ?_
  refine jG 2 [3,10,232,233] [(1,A_ 1 b5 12)] ?_
  refine kL [6,7] [2,3,4,5,6,7] (Sm (β:=b) hp Y hR f m t L) ?_ (by rintro _ _ ⟨rfl,rfl⟩;kernel_rfl)
  rintro _ _ ⟨rfl,rfl⟩
  refine jG 4 [10,235,236,239] [(3,a_ 0 b1)] ?_
  refine kL [14,15] [8,9,11,12,13] (xh No.1 Lo fo mo to No.2.full) ?_ (by rintro _ _ ⟨Ao,co,Ko,rfl,rfl⟩;kernel_rfl)
  rintro _ _ ⟨Ao,co,Ko,rfl,rfl⟩
  refine kL [14,15] [5,6,7] (zL Ao A co c (ax No.1) ns Ko Y0 hG (DQ No.2.inv) (DP No.2.inv) (decide_eq_true (No.2.graph wm.2))) ?_ (by rintro _ _ ⟨rfl,rfl⟩;kernel_rfl)
  rintro _ _ ⟨rfl,rfl⟩
  refine jG 3 [242,243] [] ?_
  refine kL [16,17] [3,16] (BJ No.1 Lo fo mo to) ?_ (by rintro _ _ ⟨Ah,ch,rfl,rfl⟩;kernel_rfl)
  rintro _ _ ⟨Ah,ch,rfl,rfl⟩
  refine jG 3 [247] [(1,wT (((No.1.us.length:Int):Int)=(0:Int)) (by rw [No.2.us];rfl))] ?_
  refine dH.last (by kernel_rfl) ?_
  refine jK 1 [6] [] ?_
  refine NL (ai.np (NX (af.ret ?_)))
  exact ai.Xc (v:=.bool true) (l:=[]) (cC:=[]) [] [18] hle0 (fun _=>by kernel_rfl) trivial rfl (by kernel_rfl) (rfl)
 refine af.region (jK 2 [31] [(1,a_ 1 b1)] ?_)
 refine gL [] (uo A c ns Y0 hG (zo hB) (fun i hi=>⟨Nat.le_trans (uV hB i hi).1 (by decide),(uV hB i hi).2⟩)) ?_
 rintro _ _ ⟨B,cp,K,rfl,rfl⟩
 refine jN 2 [7] (fun b19=>[(1,a_ 5 b19)]) (fun _=>[]) (fun b19=>.blk b19 [.slice B (ns.length) (cp)] 24) (fun b19=>?_)
 refine NS (jK 3 [34,36] [(0,a_ 5 b19),(2,A_ 4 b1 5)] ?_)
 refine gL [0,1,2] (H6 wm B cp K hB) ?_
 rintro _ _ ⟨rfl,rfl⟩
 refine jK 5 [8,9] [] ?_
 refine NS (jK 3 [41,43] [(0,a_ 5 b19),(2,A_ 4 b1 5)] ?_)
 refine gL [0,1,2] (H6 wm B cp K hB) ?_
 rintro _ _ ⟨rfl,rfl⟩
 refine jK 5 [10] [] ?_
 refine NS (jK 4 [49,51] [(1,a_ 4 b1),(3,A_ 4 b1 5)] ?_)
 refine lS [] (UY wm A c hG hB) ?_
 rintro Y6 _ _ sX ⟨rfl,rfl⟩
 replace hG:=hG.le sX
 replace hS:=hS.le sX
 replace hle0:=hle0.trans sX
 refine jN 6 [12,13] (fun q8=>[(4,A_ 6 q8 12)]) (fun _=>[]) (fun q8=>.blk q8 (rZ) 42) (fun q8=>?_)
 refine NN (af.seq (SR (jK 11 [65] [(2,p_ ⟨[],none,none,none,some (.bool false)⟩ [(Value.bool (!decide (((rX X):Int)=((rX X):Int))))=(.bool false)] ⟨by simp,trivial⟩)] ?_)))
 refine NN (CT (SR (jK 8 [6] [(2,p_ ⟨[],none,none,none,some (.bool true)⟩ [(Value.bool (decide (((rX X):Int)=((rX X):Int))))=(.bool true)] ⟨by simp,trivial⟩),(5,IQ (((rX X):Int)=(0:Int)) (W5 X))] ?_)))
 refine NN (af.ret (ai.aj ?_))
 exact ai.Xc (v:=.bool true) (l:=[]) (cC:=[]) [] [3] hle0 (fun _=>by kernel_rfl) trivial rfl (by kernel_rfl) (rfl)
end
end Go.Proofs.YtnipofpbcggjcaaGreat
