/-
  PROVED HERE: lemmas and contracts of functions (texts of this repo, joined; what the claim does not use is left out): Wf, Rw, Rl, Ra, YA, Wy, Vu, Wv, YC, GFb, GBegin, GFc, ShelfF, GF, YF, Fi, Uj, Vq0, ShelfU, GKu, GUd, GUnder, Cn, Uk, Rx, Fj, YW, Zg, Ro, YZ.
  CONDITIONS: as the theorems say.
-/
import Derived.Test.YtiehgnlnofhbaaaGreatDoorMRfinds5
import Derived.Shelf.Small.Strs
import Derived.Shelf.Small.Wraps
import Derived.Ground.Names2Prog
import Derived.Test.YtiehgnlnofhbaaaGreatDoorProg
import Derived.ArgAppend
import Derived.Shelf.SlGeneric
import Derived.Shelf.SlIterI.Nil
import Derived.Shelf.SortM.Plain
import Derived.Shelf.SortM.SortNone
import Derived.Ground.GgzProg
import Derived.Ground.SlgmProg
import Derived.ChangeMaps5
import Derived.LaidLaws
import Derived.LaidHandle
import Derived.Lib.LaidTab
import Derived.Test.YtiehgnlnofhbaaaGreatDoorRows
import Derived.Shelf.Vars
import Derived.Deep.DeepLaidRun
import Derived.Stop.Joined
set_option maxRecDepth 100000
set_option maxHeartbeats 4000000
namespace Go.Proofs.YtiehgnlnofhbaaaGreatDoor
section
open Go.RowKit Go.Maps bq aF
section f
variable {β:Bs} {fs:List bh} {xs:List bK} {root:Int} {ns:List aI} {X:FM}
theorem Dv {ns:List aI} (h0:cU X ns root=0) (A:Option Addr) (c:Nat) (Y:Lay) (hG:aE β A ns Y) (hB:fN ns 1048576) (Af:Option Addr) (cf:Nat) (fs:List bh) (hF:cM β Af (bR fU fs)) (mP:jj fs 2097152) (Aa:Option Addr) (ca:Nat) (xs:List bK) (hA:cM β Aa (bR gM xs)) (hab:ef xs 1048576) :
    bp Tryz.prog β 8 #[Ea A ns.length c root X Af fs.length cf Aa xs.length ca] [] (fun β' v l=>∃ (N:tY X ns) (G:WG) (V:WV),v=.tuple #[vP G.w,.int .i64 0]/\l=[wA G fs xs root N.1 V []]/\fF β' G.Z xs):=
  (Fo A c ns Y hG hB X root Af cf fs hF mP Aa ca xs hA hab).mono (by
    rintro β' v l _ (⟨h,_⟩|⟨_,h⟩)
    ·exact absurd h0 h
    exact h)
theorem LU {ns:List aI} (h0:¬ cU X ns root=0) (A:Option Addr) (c:Nat) (Y:Lay) (hG:aE β A ns Y) (hB:fN ns 1048576) (Af:Option Addr) (cf:Nat) (fs:List bh) (hF:cM β Af (bR fU fs)) (mP:jj fs 2097152) (Aa:Option Addr) (ca:Nat) (xs:List bK) (hA:cM β Aa (bR gM xs)) (hab:ef xs 1048576) :
    bp Tryz.prog β 8 #[Ea A ns.length c root X Af fs.length cf Aa xs.length ca] [] (fun _ v l=>v=.tuple #[.pointer none,.int .i64 (cU X ns root)]/\l=[]):=
  (Fo A c ns Y hG hB X root Af cf fs hF mP Aa ca xs hA hab).mono (by
    rintro β' v l _ (⟨_,h1,h2⟩|⟨h,_⟩)
    ·exact⟨h1,h2⟩
    exact absurd h h0)
theorem qY:ef [] 1048576:=⟨by decide,fun a ha=>by cases ha⟩
end f
end
section
open Go.RowKit Go.Maps bq aF
section w
variable {β:Bs} {G:WG} {fs:List bh} {xs:List bK} {root:Int} {S S1:aJ} {V:WV} {tr:List aB} {c1:aB} {n:Nat} {id h:Int}
theorem uZ:∀ F w,(fD (wP G fs xs root S V tr)).h F w->w.cell? ⟨G.w,0,none⟩=some (.iface 39 (vP G.w)):=by
  rintro F w ⟨φ,h1,_,_⟩
  exact (ia (h1 0 _ rfl).1 rfl rfl rfl).1
theorem Qv (hrw:(Lit.int .i64 root).wf=true) (hI:Inv S) (hZ:fF β G.Z xs) (hX:ef xs 1048576) (hg:dQ β) (id:Int) (how:(Lit.int .i64 id).wf=true) (hW:aS fs xs root 1 S (kO id)=(S1,c1)) :
    bp Tryz.prog β 9 #[.agg #[.iface 39 (vP G.w)],.int .i64 id] [wA G fs xs root S V []] (fun _ v l=>∃ (V':WV) (q:{ l:List aB // l.length=1 }),v=.tuple #[.int .i64 c1.answer,.int .i64 c1.code]/\l=[wA G fs xs root S1 V' q.1]):=
  (Iq (β:=β) (G:=G) (V:=V) (tr:=[]) (S2:=S1) (c2:=c1) hrw hI (by decide) hZ hX hg id how hW).mono (by
    rintro _ v l _ ⟨V',eE,h1,h2,h3⟩
    exact⟨V',⟨eE,h3⟩,h1,h2⟩)
abbrev xk (G:WG) (h:Int) (A:Option Addr) (n pc:Nat) (mode:Int):Array Value:=#[.agg #[.iface 39 (vP G.w)],.int .i64 h,.slice A n pc,.int .i64 mode]
variable {r:Hw} {A:Option Addr} {kN:Nat} {ps:List ByteArray} {mode:Int}
theorem Ot (hc:r.code=0) (hrw:(Lit.int .i64 root).wf=true) (hI:Inv S) (hn:tr.length=n) (hn2:n<=100) (hZ:fF β G.Z xs) (hX:ef xs 1048576) (hg:dQ β) (hE:jr β) (hw:(Lit.int .i64 h).wf=true) (hP:dR β A ps) (hpl:ps.length<=1048576) (hps:∀ i,i < ps.length->(pc ps i).size<=1048576) (hr:gD fs xs root mode ps 0 S n h false 0=r) :
    bp Tryz.prog β 10 (xk G h A ps.length kN mode) [wA G fs xs root S V tr] (fun _ v l=>∃ (V':WV) (q:{ l:List aB // l.length=r.n }),v=.tuple #[.agg #[.int .i64 r.cur,.bool r.own,.int .i64 r.made],.nilIface]/\l=[wA G fs xs root r.S V' q.1]):=
  (Ai (V0:=V) (r:=r) hrw hI (by omega) hZ hX hg hE h hw A kN ps hP hpl hps mode (by rw [hn];exact hr)).mono (by
    rintro _ v l _ ⟨V',eE,h1,(⟨_,h2,h3⟩|⟨h2,_⟩)⟩
    ·exact⟨V',⟨eE,h1⟩,h2,h3⟩
    exact absurd hc h2)
theorem LV (hc:¬ r.code=0) (hrw:(Lit.int .i64 root).wf=true) (hI:Inv S) (hn:tr.length=n) (hn2:n<=100) (hZ:fF β G.Z xs) (hX:ef xs 1048576) (hg:dQ β) (hE:jr β) (hw:(Lit.int .i64 h).wf=true) (hP:dR β A ps) (hpl:ps.length<=1048576) (hps:∀ i,i < ps.length->(pc ps i).size<=1048576) (hr:gD fs xs root mode ps 0 S n h false 0=r) :
    bp Tryz.prog β 10 (xk G h A ps.length kN mode) [wA G fs xs root S V tr] (fun _ v l=>∃ (V':WV) (q:{ l:List aB // l.length=r.n }) (e:Nat) (nm:ByteArray),v=.tuple #[.agg #[.int .i64 0,.bool false,.int .i64 r.made],.iface 92 (vP e)]/\l=[wA G fs xs root r.S V' q.1,.blk e [.int .i64 r.at_,.string nm,.int .i64 r.code] 94]):=
  (Ai (V0:=V) (r:=r) hrw hI (by omega) hZ hX hg hE h hw A kN ps hP hpl hps mode (by rw [hn];exact hr)).mono (by
    rintro _ v l _ ⟨V',eE,h1,(⟨h2,_⟩|⟨_,e,nm,h2,h3⟩)⟩
    ·exact absurd h2 hc
    exact⟨V',⟨eE,h1⟩,e,nm,h2,h3⟩)
theorem Ou (hI:Inv S) (jw:S.us=[]) (hpk:S.aD=0) (e:aS fs xs root n S (kO id)=(S1,c1)) (h0:c1.code=0):Held S1 h false/\c1.answer=1:=by
  have bY:Inv S1:=by have:=hI.aS (fs:=fs) (xs:=xs) (root:=root) (n:=n) (c:=kO id);rw [e] at this;exact this
  have hu:=tQ (root:=root) (S:=S) (xs:=bF xs n)
  have key:∀ (S':aJ) (c:aB),c.op=1->S'.us=[]->S'.aD=0->(bI S' c).2.code=0->(bI S' c).1.us.length=1/\(bI S' c).1.aD<=3/\(bI S' c).2.answer=1:=by
    intro S' c hop hu hp hc
    have hm:cR S' { c with answer:=0,code:=230 }=jq S' { c with answer:=0,code:=230 }:=sK (c:={ c with answer:=0,code:=230 }) hop
    unfold bI at hc ⊢
    rw [hm] at hc ⊢
    unfold jq at hc ⊢
    cases hq:aF.get S'.idx ({ c with answer:=0,code:=230 }:aB).other with
    | none=>rw [hq] at hc;exact absurd hc (by show ¬ (141:Int)=0;decide)
    | some t=>
      rw [hq] at hc
      simp only at hc ⊢
      by_cases hk:t.kind=2
      ·rw [if_pos hk] at hc ⊢
       by_cases hl:(S'.us.length:Int) < S'.X.cH
       ·rw [jD hl] at hc ⊢
        refine⟨?_,?_,?_⟩
        ·show (ins _ _ _).length=1
         rw [iG,hu];rfl
        ·show max S'.aD _<=3
         rw [hu,hp];decide
        show aF.least S'.us=1
        rw [hu];rfl
       rw [jW hl] at hc
       exact absurd hc (by show ¬ (130:Int)=0;decide)
      rw [if_neg hk] at hc
      exact absurd hc (by show ¬ (173:Int)=0;decide)
  unfold aS bE at e
  split at e
  ·cases e;exact absurd h0 (by rw [CW.1];decide)
  split at e
  ·cases e;exact absurd h0 (by rw [CW.1];decide)
  split at e
  ·rename_i q
   rw [G8] at q
   exact absurd (show (1:Int)=9 from q.2.1) (by decide)
  have:=key (fK root S (bF xs n)) (nI root (kO id)) (by rw [G8]) (hu.1.trans jw) (hu.2.trans hpk) (by rw [e];exact h0)
  rw [e] at this
  exact⟨⟨bY,this.1,(fun h=>by cases h),this.2.1⟩,this.2.2⟩
end w
end
section
open Go.RowKit Go.Maps bq aF
def Qw:aI:=⟨1,2,493,0,0,0,0,[],⟨#[]⟩,[⟨⟨#[97]⟩,2⟩,⟨⟨#[115]⟩,3⟩]⟩
def XH:aI:=⟨2,2,493,0,0,0,0,[],⟨#[]⟩,[]⟩
def XI:aI:=⟨3,3,0,0,0,0,0,[],⟨#[97]⟩,[]⟩
def vY:List aI:=[Qw,XH,XI]
theorem IC {i:Nat} (h:i < vY.length):i=0\/i=1\/i=2:=by
  have h:i < 3:=h
  omega
theorem VO:bB vY:=by
  refine⟨by decide,fun i hi=>?_,fun i hi=>?_,fun i j hij hj=>?_,by decide,fun i hi j hj=>?_,by decide,fun z=>?_⟩
  ·rcases IC hi with rfl|rfl|rfl
   ·exact⟨by decide,by decide,by decide,by decide,uX,fun _=>rfl,fun h=>absurd rfl h,.inl ⟨by decide,rfl⟩⟩
   ·exact⟨by decide,by decide,by decide,by decide,uX,fun _=>rfl,fun h=>absurd rfl h,.inl ⟨by decide,rfl⟩⟩
   exact⟨by decide,by decide,by decide,by decide,uX,fun _=>rfl,fun _=>rfl,.inr ⟨rfl,by decide,by decide,fun j hj=>by
     have:j=0:=by have hj:j < 1:=hj;omega
     subst this;decide⟩⟩
  ·rcases IC hi with rfl|rfl|rfl<;>exact⟨by decide,by decide⟩
  ·rcases IC hj with rfl|rfl|rfl
   ·omega
   ·have:i=0:=by omega
    subst this;decide
   have:i=0\/i=1:=by omega
   rcases this with rfl|rfl<;>decide
  ·rcases IC hi with rfl|rfl|rfl
   ·have hj:j < 2:=hj
    have:j=0\/j=1:=by omega
    rcases this with rfl|rfl
    ·exact⟨by decide,tX (by decide) (by decide) (by decide),by show ¬ je ⟨#[97]⟩ ⟨#[]⟩;unfold je;decide +kernel⟩
    exact⟨by decide,tX (by decide) (by decide) (by decide),by show ¬ je ⟨#[115]⟩ ⟨#[97]⟩;unfold je;decide +kernel⟩
   ·exact absurd hj (Nat.not_lt_zero j)
   exact absurd hj (Nat.not_lt_zero j)
  have e:(fA vY vY.length).map (iW vY)=[(2,1)]:=by decide
  rw [e]
  by_cases h:z=2
  ·subst h;exact⟨1,1,rfl,rfl⟩
  exact⟨0,by show up [(2,1)] z=none;simp [up,h]⟩
theorem VP {β:Bs} {B:Option Addr} {e:Nat} (hR:cM β B (bP ⟨fun _=>none,fun i=>if i=0 then some ⟨e,0,none⟩ else none,fun _=>0,fun i=>if i=0 then 2 else 0⟩ vY)) (h1:cO β (some ⟨e,0,none⟩) Qw.ah):aE β B vY ⟨fun _=>none,fun i=>if i=0 then some ⟨e,0,none⟩ else none,fun _=>0,fun i=>if i=0 then 2 else 0⟩:=by
  have hn:∀ {A:Option Addr},cM β A []:=fun j v hj=>by simp at hj
  refine⟨hR,fun i hi=>?_,fun i hi=>?_⟩
  ·rcases IC hi with rfl|rfl|rfl<;>exact hn
  rcases IC hi with rfl|rfl|rfl
  ·exact h1
  ·exact hn
  exact hn
theorem XJ:fN vY 1048576:=⟨by decide,fun i hi=>by
  rcases IC hi with rfl|rfl|rfl
  ·refine⟨by unfold mF;decide,by decide,by decide,by decide,fun j hj=>?_⟩
   have hj:j < 2:=hj
   have:j=0\/j=1:=by omega
   rcases this with rfl|rfl<;>exact⟨by unfold mF;decide,by decide⟩
  ·exact⟨by unfold mF;decide,by decide,by decide,by decide,fun j hj=>absurd hj (Nat.not_lt_zero j)⟩
  exact⟨by unfold mF;decide,by decide,by decide,by decide,fun j hj=>absurd hj (Nat.not_lt_zero j)⟩⟩
structure UW (S:aJ):Prop where
  inv:Inv S
  idx:S.idx=[(1,⟨1,2⟩),(2,⟨2,2⟩),(3,⟨3,3⟩)]
  us:S.us=[]
  X:S.X=⟨9,99,9,0,0,3,2,0⟩
  o1:∃ l u,obj S.O 1=⟨1,493,0,0,0,0,l,0,false,2,[],⟨#[]⟩,[(⟨#[97]⟩,⟨2,2⟩),(⟨#[115]⟩,⟨3,3⟩)],u⟩
  o2:∃ l u,obj S.O 2=⟨2,493,0,0,0,0,l,0,false,2,[],⟨#[]⟩,[],u⟩
section v
variable {S:aJ}
theorem UX (h:fS (Ic 99) vY vY.length 0 S):UW S:=by
  obtain⟨l1,u1,h1⟩:=h.ob 0 (by decide)
  obtain⟨l2,u2,h2⟩:=h.ob 1 (by decide)
  exact⟨h.full,h.idx,h.us,h.cap,⟨l1,u1,h1⟩,⟨l2,u2,h2⟩⟩
theorem UY:bD ⟨#[97]⟩:=tX (by decide) (by decide) (by decide)
theorem Ov:bD ⟨#[98]⟩:=tX (by decide) (by decide) (by decide)
theorem UZ:bD ⟨#[115]⟩:=tX (by decide) (by decide) (by decide)
theorem nu {root:Int} {n:Nat} {c:aB} (h:c.op≠1):aS [] [] root n S c=bI S c:=by
  unfold aS nI
  rw [if_neg h]
  rfl
theorem IE {h:Int} {name:ByteArray} {d:Nat} (ha:dP S.O S.us h name 64=.ok d) {e:Int} (hl:(match aT name (obj S.O d).ah with|none=>170|some t=>if t.kind=3 then 174 else 0)=e) (he:e≠0):bI S (eP h name)=(S,{ eP h name with code:=e }):=by
  unfold bI
  rw [qW (c:={ eP h name with answer:=0,code:=230 }) rfl]
  unfold eF fC
  simp only
  rw [ha]
  simp only
  cases hq:aT name (obj S.O d).ah with
  | none=>rw [hq] at hl;subst hl;rfl
  | some t=>
    rw [hq] at hl
    simp only at hl ⊢
    by_cases h3:t.kind=3
    ·rw [if_pos h3] at hl
     subst hl
     rw [if_pos h3]
    rw [if_neg h3] at hl
    exact absurd hl.symm he
theorem Kp (h:UW S):aS [] [] 1 1 S (kO 1)=(S1 S,{ kO 1 with answer:=1,code:=0 }):=by
  have:=Ew (S:=S) (c:=kO 1) (t:=⟨1,2⟩) rfl (by rw [h.idx];rfl) rfl (by rw [h.us,h.X];show (0:Int) < 9;decide)
  rw [h.us] at this
  exact this
theorem Qx (h:UW S):∃ S2,gD [] [] 1 448 [⟨#[97]⟩,⟨#[98]⟩] 0 (S1 S) 1 1 false 0=⟨S2,6,3,true,1,0,0⟩/\S2.idx.length=4/\gD [] [] 1 448 [⟨#[115]⟩,⟨#[120]⟩] 0 S2 6 1 false 0=⟨S2,7,0,false,0,174,0⟩:=by
  obtain⟨l1,u1,h1⟩:=h.o1
  obtain⟨l2,u2,h2⟩:=h.o2
  obtain⟨A,hA⟩:∃ A,A=S1 S:=⟨_,rfl⟩
  have a1:obj A.O 1=⟨1,493,0,0,0,0,l1,1,false,2,[],⟨#[]⟩,[(⟨#[97]⟩,⟨2,2⟩),(⟨#[115]⟩,⟨3,3⟩)],u1⟩:=by rw [hA,Xz,h1];rfl
  have a2:obj A.O 2=⟨2,493,0,0,0,0,l2,0,false,2,[],⟨#[]⟩,[],u2⟩:=by rw [hA];exact XA.trans h2
  have aX:A.X=⟨9,99,9,0,0,3,2,0⟩:=by rw [hA];exact h.X
  have ai:A.idx=[(1,⟨1,2⟩),(2,⟨2,2⟩),(3,⟨3,3⟩)]:=by rw [hA];exact h.idx
  have au:A.us=[(1,⟨1,2⟩)]:=by rw [hA];rfl
  rw [← hA]
  clear hA
  have e1:=Di (S:=A) (c:=eP 1 ⟨#[97]⟩) rfl (xh (t:=⟨1,2⟩) (by rw [au];rfl) rfl (by rw [a1]) UY (by rw [a1];exact Dj)) (t:=⟨2,2⟩) (by rw [a1];rfl) rfl (by rw [au,aX];show (1:Int) < 9;decide)
  rw [← nu (root:=1) (n:=2) (by decide),show least A.us=2 by rw [au];rfl] at e1
  obtain⟨B,hB⟩:∃ B:aJ,B={ A with O:=aN A.O 2 (fun o=>{ o with opens:=o.opens+1 }),us:=ins 2 ⟨2,2⟩ A.us,aD:=max A.aD ((A.us.length:Int)+1) }:=⟨_,rfl⟩
  rw [← hB] at e1
  have b1:obj B.O 1=obj A.O 1:=by rw [hB];rfl
  have b2:obj B.O 2=⟨2,493,0,0,0,0,l2,1,false,2,[],⟨#[]⟩,[],u2⟩:=by rw [hB];show { obj A.O 2 with opens:=(obj A.O 2).opens+1 }=_;rw [a2];rfl
  have bX:B.X=A.X:=by rw [hB]
  have bi:B.idx=A.idx:=by rw [hB]
  have bu:B.us=[(1,⟨1,2⟩),(2,⟨2,2⟩)]:=by rw [hB];show ins 2 ⟨2,2⟩ A.us=_;rw [au];rfl
  rw [a1] at b1;rw [aX] at bX;rw [ai] at bi
  clear hB a1 a2 aX ai au
  have hab:∀ need:Int,bits BinOp.and .i64 493 need=need->dP B.O B.us 2 ⟨#[98]⟩ need=.ok 2:=fun need hn=>xh (t:=⟨2,2⟩) (by rw [bu];rfl) rfl (by rw [b2]) Ov (by rw [b2];exact hn)
  have e2:=IE (S:=B) (hab 64 Dj) (e:=170) (by rw [b2];rfl) (by decide)
  rw [← nu (root:=1) (n:=3) (by decide)] at e2
  have e3:=Qm (S:=B) (c:=zf 2 ⟨#[98]⟩ 448) rfl (hab 192 Uw) ⟨by decide,by decide⟩ (by rw [b2];rfl) ⟨by rw [bX,bi];show (3:Int) < 9;decide,by rw [bX];show (3:Int) < 1099511627776;decide,by rw [bX];show (2:Int) < 8192;decide⟩
  rw [← nu (root:=1) (n:=4) (by decide)] at e3
  obtain⟨C,hC⟩:∃ C,C=gj B 2 ⟨#[98]⟩ (bg B.X 2 448):=⟨_,rfl⟩
  rw [← hC] at e3
  have hn:bJ B.X=4:=by rw [bX];rfl
  have c1:obj C.O 1=obj B.O 1:=by
    rw [hC]
    show obj (dX B.X (aN B.O (bJ B.X) (fun _=>bg B.X 2 448)) 2 ⟨#[98]⟩ ⟨bJ B.X,2⟩) 1=_
    rw [hn];rfl
  have c2:obj C.O 2=⟨2,493,0,0,0,0,l2,1,false,2,[],⟨#[]⟩,[(⟨#[98]⟩,⟨4,2⟩)],u2⟩:=by
    rw [hC]
    show obj (dX B.X (aN B.O (bJ B.X) (fun _=>bg B.X 2 448)) 2 ⟨#[98]⟩ ⟨bJ B.X,2⟩) 2=_
    rw [hn]
    show { obj B.O 2 with ah:=iA ⟨#[98]⟩ ⟨4,2⟩ (obj B.O 2).ah,sec:=B.X.cS,nano:=B.X.cZ }=_
    rw [b2,bX];rfl
  have cX:C.X.cH=9:=by rw [hC];show B.X.cH=9;rw [bX]
  have ci:C.idx.length=4:=by rw [hC];show (ins (B.X.last+1) ⟨bJ B.X,2⟩ B.idx).length=4;rw [iG,bi];rfl
  have cu:C.us=B.us:=by rw [hC];rfl
  rw [b1] at c1;rw [bu] at cu
  clear hC b1 b2 bX bi bu hab
  have e4:=Di (S:=C) (c:=eP 2 ⟨#[98]⟩) rfl (xh (t:=⟨2,2⟩) (by rw [cu];rfl) rfl (by rw [c2]) Ov (by rw [c2];exact Dj)) (t:=⟨4,2⟩) (by rw [c2];rfl) rfl (by rw [cu,cX];show (2:Int) < 9;decide)
  rw [← nu (root:=1) (n:=5) (by decide),show least C.us=3 by rw [cu];rfl] at e4
  obtain⟨D,hD⟩:∃ D:aJ,D={ C with O:=aN C.O 4 (fun o=>{ o with opens:=o.opens+1 }),us:=ins 3 ⟨4,2⟩ C.us,aD:=max C.aD ((C.us.length:Int)+1) }:=⟨_,rfl⟩
  rw [← hD] at e4
  have d1:obj D.O 1=obj C.O 1:=by rw [hD];rfl
  have d2:obj D.O 2=obj C.O 2:=by rw [hD];rfl
  have di:D.idx.length=4:=by rw [hD];exact ci
  have du:D.us=[(1,⟨1,2⟩),(2,⟨2,2⟩),(3,⟨4,2⟩)]:=by rw [hD];show ins 3 ⟨4,2⟩ C.us=_;rw [cu];rfl
  rw [c1] at d1;rw [c2] at d2
  clear hD c1 c2 cX ci cu
  have e5:=Ie (S:=D) (c:=dU 2) (t:=⟨2,2⟩) rfl (by rw [du];rfl)
  rw [← nu (root:=1) (n:=6) (by decide)] at e5
  obtain⟨F,hF⟩:∃ F:aJ,F={ D with X:={ D.X with used:=jO (iy D.O 2) D.X.used ⟨2,2⟩ },O:=iy D.O 2,idx:=iP (iy D.O 2) D.idx ⟨2,2⟩,us:=del 2 D.us }:=⟨_,rfl⟩
  have e5:aS [] [] 1 6 D (dU 2)=(F,{ dU 2 with answer:=0,code:=0 }):=by rw [hF];exact e5
  have f1:obj F.O 1=obj D.O 1:=by rw [hF];rfl
  have fi:F.idx.length=4:=by
    rw [hF]
    show (iP (iy D.O 2) D.idx ⟨2,2⟩).length=4
    rw [show iP (iy D.O 2) D.idx ⟨2,2⟩=D.idx from if_neg (by
      show ¬ ((obj (iy D.O 2) 2).gone=true/\_)
      rw [show obj (iy D.O 2) 2={ obj D.O 2 with opens:=(obj D.O 2).opens - 1 } from rfl,d2]
      exact fun h=>by cases h.1)]
    exact di
  have fu:F.us=[(1,⟨1,2⟩),(3,⟨4,2⟩)]:=by rw [hF];show del 2 D.us=_;rw [du];rfl
  rw [d1] at f1
  clear hF d1 d2 di du
  have e6:=IE (S:=F) (xh (h:=1) (name:=⟨#[115]⟩) (need:=64) (t:=⟨1,2⟩) (by rw [fu];rfl) rfl (by rw [f1]) UZ (by rw [f1];exact Dj)) (e:=174) (by rw [f1];rfl) (by decide)
  rw [← nu (root:=1) (n:=7) (by decide)] at e6
  refine⟨F,?_,fi,?_⟩
  ·have s1:=wX (mode:=448) e1 rfl
   have s2:=wY (mode:=448) e2 (by show (170:Int)≠0;decide) (fun h=>h.elim (fun h=>h rfl) (fun h=>absurd h (by decide))) e3 (fun h=>h.1 rfl) e4 rfl
   rw [wW (by rw [s1]) (by decide),s1]
   show gD [] [] 1 448 [⟨#[98]⟩] 1 B 2 2 true 0=_
   rw [uP (by rw [s2]) rfl (by rw [s2];show (aS [] [] 1 6 D (dU 2)).2.code=0;rw [e5]),s2]
   show gD [] [] 1 448 [] 2 (aS [] [] 1 6 D (dU 2)).1 6 3 true 1=_
   rw [e5]
   rfl
  have s3:=rR (mode:=448) e6 (by show (174:Int)≠0;decide) (.inl (by show ¬ (174:Int)=170;decide))
  rw [rQ (by rw [s3];show (174:Int)≠0;decide),s3]
  rfl
end v
end
section
open Go.RowKit Go.Maps bq aF
section a
variable {β:Bs} {G:WG} {fs:List bh} {xs:List bK} {root:Int} {S0:aJ} {V0:WV} {t6:List aB} {A:Option Addr} {kN:Nat} {ps:List ByteArray} {mode h:Int} {S:aJ} {n:Nat} {cur made code at_:Int} {own:Bool}
abbrev Ow (cur:Int) (own:Bool) (made:Int):Value:=.agg #[.int .i64 cur,.bool own,.int .i64 made]
theorem Qy (hrw:(Lit.int .i64 root).wf=true) (hI:Inv S0) (hn:t6.length<=100) (hZ:fF β G.Z xs) (hX:ef xs 1048576) (hg:dQ β) (hE:jr β) (hw:(Lit.int .i64 h).wf=true) (hP:dR β A ps) (hpl:ps.length<=1048576) (hps:∀ i,i < ps.length->(pc ps i).size<=1048576) (hr:gD fs xs root mode ps 0 S0 t6.length h false 0=⟨S,n,cur,own,made,0,at_⟩) :
    bp Tryz.prog β 10 #[.agg #[.iface 39 (vP G.w)],.int .i64 h,.slice A ps.length kN,.int .i64 mode] [wA G fs xs root S0 V0 t6] (fun _ v l=>∃ (V':WV) (eE:List aB),eE.length=n/\v=.tuple #[Ow cur own made,.nilIface]/\l=[wA G fs xs root S V' eE]):=
  (Ai hrw hI hn hZ hX hg hE h hw A kN ps hP hpl hps mode hr).mono (by
    rintro β' v l _ ⟨V',eE,h1,⟨_,h2,h3⟩|⟨h2,_⟩⟩
    ·exact⟨V',eE,h1,h2,h3⟩
    exact absurd rfl h2)
theorem Qz (hrw:(Lit.int .i64 root).wf=true) (hI:Inv S0) (hn:t6.length<=100) (hZ:fF β G.Z xs) (hX:ef xs 1048576) (hg:dQ β) (hE:jr β) (hw:(Lit.int .i64 h).wf=true) (hP:dR β A ps) (hpl:ps.length<=1048576) (hps:∀ i,i < ps.length->(pc ps i).size<=1048576) (hr:gD fs xs root mode ps 0 S0 t6.length h false 0=⟨S,n,cur,own,made,code,at_⟩) (hc:¬ code=0) :
    bp Tryz.prog β 10 #[.agg #[.iface 39 (vP G.w)],.int .i64 h,.slice A ps.length kN,.int .i64 mode] [wA G fs xs root S0 V0 t6] (fun _ v l=>∃ (V':WV) (eE:List aB) (e:Nat) (nm:ByteArray),eE.length=n/\v=.tuple #[Ow 0 false made,.iface 92 (vP e)]/\l=[wA G fs xs root S V' eE,.blk e [.int .i64 at_,.string nm,.int .i64 code] 94]):=
  (Ai hrw hI hn hZ hX hg hE h hw A kN ps hP hpl hps mode hr).mono (by
    rintro β' v l _ ⟨V',eE,h1,⟨h2,_⟩|⟨_,e,nm,h2,h3⟩⟩
    ·exact absurd h2 hc
    exact⟨V',eE,e,nm,h1,h2,h3⟩)
theorem U0:cU (Ic 99) vY 1=0:=Dd UU VO (i:=0) ⟨by decide,rfl,fun q h=>absurd h (Nat.not_lt_zero q)⟩ rfl
theorem IG {ps:List ByteArray} {i:Nat} (h1:i < ps.length) (h2:ps=[⟨#[97]⟩,⟨#[98]⟩]\/ps=[⟨#[115]⟩,⟨#[120]⟩]):(pc ps i).size<=1048576:=by
  have h3:i < 2:=by rcases h2 with rfl|rfl<;>exact h1
  have:i=0\/i=1:=by omega
  rcases h2 with rfl|rfl<;>rcases this with rfl|rfl<;>decide
theorem II {β:Bs}:cM β none (bR fU []):=fun j v hj=>by simp [bR,dI] at hj
theorem IJ {β:Bs}:cM β none (bR gM []):=fun j v hj=>by simp [bR,dI] at hj
theorem VQ {X:FM} {ns:List aI} (h:fS X ns ns.length 0 S):(S1 S).aD<=3:=by
  show max S.aD 1<=3
  rw [h.aD];decide
theorem SD (hh:Held S cur true):(Lit.int .i64 cur).wf=true:=by
  obtain⟨t,hg⟩:=hh.cur rfl
  have h1:=hh.inv.su _ (qN hg)
  have:=hh.pk
  exact WalkArith.wf_i64 (by omega)
end a
end
section
open Go.RowKit Go.Maps bq aF
attribute [local irreducible] ak aU af aj
theorem Ju {β:Bs}:bp Tryz.prog β 25 #[] [] (fun β' v l=>∃ B Y,v=.agg #[.slice B 3 3,vI 1,vI 9,vI 99,vI 9,vI 0,vI 0,.slice none 0 0,.slice none 0 0]/\l=[]/\aE β' B vY Y):=by
 refine bp.enter Tryz.func25 rfl Tryz.ntmps25 (Nat.le_of_ble_eq_true rfl) (fun hle0 R=>?_)
 refine SR (gN 1 (fun b1=>[(0,vP b1)]) (fun _=>[]) (fun _=>[]) (fun b1=>.blk b1 [.slice none (0) (0),vI 0,vI 0,vI 0,vI 0,vI 0,vI 0,.slice none (0) (0),.slice none (0) (0)] 34) (fun b1=>?_))
 refine NS (gN 6 (fun b2=>[(5,.agg #[vI 1,vI 2,vI 493,vI 0,vI 0,vI 0,vI 0,.slice none (0) (0),.string ⟨#[]⟩,.slice (some ⟨b2,0,none⟩) (2) (2)]),(6,.agg #[vI 2,vI 2,vI 493,vI 0,vI 0,vI 0,vI 0,.slice none (0) (0),.string ⟨#[]⟩,.slice none (0) (0)]),(7,.agg #[vI 3,vI 3,vI 0,vI 0,vI 0,vI 0,vI 0,.slice none (0) (0),.string ⟨#[97]⟩,.slice none (0) (0)])]) (fun _=>[]) (fun _=>[]) (fun b2=>.blk b2 [.string ⟨#[97]⟩,vI 2,.string ⟨#[115]⟩,vI 3] 110) (fun b2=>?_))
 refine gN 2 (fun b3=>[(9,.agg #[.slice (some ⟨b3,0,none⟩) (3) (3)])]) (fun _=>[]) (fun _=>[]) (fun b3=>.blk b3 [vI 1,vI 2,vI 493,vI 0,vI 0,vI 0,vI 0,.slice none (0) (0),.string ⟨#[]⟩,.slice (some ⟨b2,0,none⟩) (2) (2),vI 2,vI 2,vI 493,vI 0,vI 0,vI 0,vI 0,.slice none (0) (0),.string ⟨#[]⟩,.slice none (0) (0),vI 3,vI 3,vI 0,vI 0,vI 0,vI 0,vI 0,.slice none (0) (0),.string ⟨#[97]⟩,.slice none (0) (0)] 108) (fun b3=>?_)
 refine gN 2 (fun b4=>[(1,vP b4)]) (fun b4=>[(1,a_ 4 b4)]) (fun _=>[]) (fun b4=>.blk b4 [.slice (some ⟨b3,0,none⟩) (3) (3)] 24) (fun b4=>?_)
 refine NS (ak.mem (fun w hS=>hS.og (i:=2) (b:=b2) (cs:=[.string ⟨#[97]⟩,vI 2,.string ⟨#[115]⟩,vI 3]) (e:=110) 2 2 (by kernel_rfl) rfl (by decide)) ?_)
 refine ak.mK (Φ:=fun β'=>cO β' (some ⟨b2,0,none⟩) Qw.ah) 2 [0,1,3,4] (dm:=[.abs R,.blk b1 [.slice none (0) (0),vI 0,vI 0,vI 0,vI 0,vI 0,vI 0,.slice none (0) (0),.slice none (0) (0)] 34,.blk b3 [vI 1,vI 2,vI 493,vI 0,vI 0,vI 0,vI 0,.slice none (0) (0),.string ⟨#[]⟩,.slice (some ⟨b2,0,none⟩) (2) (2),vI 2,vI 2,vI 493,vI 0,vI 0,vI 0,vI 0,.slice none (0) (0),.string ⟨#[]⟩,.slice none (0) (0),vI 3,vI 3,vI 0,vI 0,vI 0,vI 0,vI 0,.slice none (0) (0),.string ⟨#[97]⟩,.slice none (0) (0)] 108,.blk b4 [.slice (some ⟨b3,0,none⟩) (3) (3)] 24]) rfl rfl (by kernel_rfl) (fun F w h β' h1 h2=>cM.jA h h1 h2) (fun YF vW hE=>?_)
 replace hle0:=hle0.trans vW
 refine ak.mem (fun w hS=>hS.og (i:=2) (b:=b3) (cs:=[vI 1,vI 2,vI 493,vI 0,vI 0,vI 0,vI 0,.slice none (0) (0),.string ⟨#[]⟩,.slice (some ⟨b2,0,none⟩) (2) (2),vI 2,vI 2,vI 493,vI 0,vI 0,vI 0,vI 0,.slice none (0) (0),.string ⟨#[]⟩,.slice none (0) (0),vI 3,vI 3,vI 0,vI 0,vI 0,vI 0,vI 0,.slice none (0) (0),.string ⟨#[97]⟩,.slice none (0) (0)]) (e:=108) 10 3 (by kernel_rfl) rfl (by decide)) ?_
 refine ak.mK (Φ:=fun β'=>cM β' (some ⟨b3,0,none⟩) (bP ⟨fun _=>none,fun i=>if i=0 then some ⟨b2,0,none⟩ else none,fun _=>0,fun i=>if i=0 then 2 else 0⟩ vY)) 2 [0,1,3] (dm:=[.abs R,.blk b1 [.slice none (0) (0),vI 0,vI 0,vI 0,vI 0,vI 0,vI 0,.slice none (0) (0),.slice none (0) (0)] 34,.blk b4 [.slice (some ⟨b3,0,none⟩) (3) (3)] 24]) rfl rfl (by kernel_rfl) (fun F w h β' h1 h2=>cM.jA h h1 h2) (fun WL o7 hR=>?_)
 replace hE:=hE.le o7
 replace hle0:=hle0.trans o7
 refine gC 4 [] [(0,a_ 2 b4),(3,A_ 1 b1 9)] [(1,[(0,.slice (some ⟨b3,0,none⟩) (3) (3)),(1,vI 1),(2,vI 9),(3,vI 99),(4,vI 9)])] ?_
 refine NN (af.ret ?_)
 exact aj.iz (v:=.agg #[.slice (some ⟨b3,0,none⟩) (3) (3),vI 1,vI 9,vI 99,vI 9,vI 0,vI 0,.slice none (0) (0),.slice none (0) (0)]) (l:=[]) (aZ:=[b1=b1,b1=b1,b1=b1,b1=b1,b1=b1,b1=b1,b1=b1,b1=b1,b1=b1]) [.at 1,.at 1,.at 1,.at 1,.at 1,.at 1,.at 1,.at 1,.at 1] [0] hle0 (fun _=>by kernel_rfl) ⟨rfl,rfl,rfl,rfl,rfl,rfl,rfl,rfl,rfl,trivial⟩ rfl (by kernel_rfl) (⟨_,_,rfl,rfl,VP hR hE⟩)
theorem LW {β:Bs} (hg:dQ β) (hE:jr β):bp Tryz.prog β 7 #[] [] (fun _ v l=>v=.bool true/\l=[]):=by
 refine bp.enter Tryz.func7 rfl Tryz.ntmps7 (Nat.le_of_ble_eq_true rfl) (fun hle0 R=>?_)
 refine SR (gK 1 [] [] ?_)
 refine NS (ak.fJ (d:=(some 10)) (R:=[.abs R]) (pk:=[0]) (fun _=>by kernel_rfl) (Ju) rfl (by kernel_rfl) ?_)
 rintro zx _ _ gU ⟨B,Y,rfl,rfl,hG⟩
 replace hg:=hg.le gU
 replace hE:=hE.le gU
 replace hle0:=hle0.trans gU
 refine ak.fJ (d:=(some 11)) (R:=[.abs R]) (pk:=[0]) (fun _=>by kernel_rfl) (Dv (β:=zx) (X:=Ic 99) U0 B 3 _ hG XJ none 0 [] II ⟨by decide,fun a ha=>by cases ha⟩ none 0 [] IJ qY) rfl (by kernel_rfl) ?_
 rintro AX _ _ kC ⟨N,G,V,rfl,rfl,ja⟩
 replace hg:=hg.le kC
 replace hE:=hE.le kC
 replace hG:=hG.le kC
 replace hle0:=hle0.trans kC
 refine gK 5 [(1,vP G.w),(2,vI 0)] [] ?_
 refine NN (af.seq (SR (gK 6 [(19,.bool false)] [] ?_)))
 refine NN (CF (af.skip (NX (SR (gK 4 [(24,.agg #[.iface 39 (vP G.w)])] [(3,p_ ⟨[.view 0 (.iface 39 (vP G.w))],none,none,none,none⟩ [(∀ F w,(fD (wP G ([]) ([]) 1 N.1 V ([]))).h F w->w.cell? ⟨G.w,0,none⟩=some (.iface 39 (vP G.w)))] ⟨uZ,trivial⟩)] ?_)))))
 have hv:=UX N.2
 obtain⟨S2,w1,wi,w2⟩:=Qx hv
 have bY:Inv (S1 N.1):=by have h:=Inv.aS (fs:=[]) (xs:=[]) (root:=1) (n:=1) (c:=kO 1) hv.inv;rw [Kp hv] at h;exact h
 have Kn:Held (S1 N.1) 1 false:=⟨bY,rfl,fun h=>absurd h Bool.false_ne_true,VQ N.2⟩
 have ud:=uY (mode:=448) (fs:=[]) (xs:=[]) (root:=1) (h0:=1) (n0:=1) (len:=2) [⟨#[97]⟩,⟨#[98]⟩] 0 (S1 N.1) 1 1 false 0 Kn (by decide) (by decide) (fun _=>rfl) (fun h=>absurd h Bool.false_ne_true) (fun _=>⟨rfl,rfl,rfl⟩)
 rw [w1] at ud
 have xW:Inv S2:=ud.inv
 refine ak.fJ (d:=(some 25)) (R:=[.abs R]) (pk:=[0,1]) (fun _=>by kernel_rfl) (Iq (β:=AX) (G:=G) (fs:=[]) (xs:=[]) (root:=1) (S:=N.1) (V:=V) (tr:=[]) (S2:=(S1 N.1)) (c2:={ kO 1 with answer:=1,code:=0 }) (by decide) hv.inv (by decide) ja qY hg 1 (by decide) (Kp hv)) rfl (by kernel_rfl) ?_
 rintro A6 _ _ gE ⟨V2,Dt,rfl,rfl,RD⟩
 replace hg:=hg.le gE
 replace hE:=hE.le gE
 replace hG:=hG.le gE
 replace ja:=ja.le gE
 replace hle0:=hle0.trans gE
 refine gK 5 [(3,vI 1)] [] ?_
 refine NS (gN 6 (fun b10=>[(32,.agg #[.iface 39 (vP G.w)]),(33,vI 1),(34,.slice (some ⟨b10,0,none⟩) (2) (2))]) (fun b10=>[(3,p_ ⟨[.view 0 (.iface 39 (vP G.w))],none,none,none,none⟩ [(∀ F w,(fD (wP G ([]) ([]) 1 (S1 N.1) V2 Dt)).h F w->w.cell? ⟨G.w,0,none⟩=some (.iface 39 (vP G.w)))] ⟨uZ,trivial⟩)]) (fun _=>[]) (fun b10=>.blk b10 [.string ⟨#[97]⟩,.string ⟨#[98]⟩] 9) (fun b10=>?_))
 refine ak.mem (fun w hS=>hS.og (i:=2) (b:=b10) (cs:=[.string ⟨#[97]⟩,.string ⟨#[98]⟩]) (e:=9) 1 2 (by kernel_rfl) rfl (by decide)) ?_
 refine ak.mK (Φ:=fun β'=>dR β' (some ⟨b10,0,none⟩) [(⟨#[97]⟩:ByteArray),⟨#[98]⟩]) 2 [0,1] (dm:=[wA G ([]) ([]) 1 (S1 N.1) V2 Dt,.abs R]) rfl rfl (by kernel_rfl) (fun F w h β' h1 h2=>cM.jA h h1 h2) (fun XK uf qc=>?_)
 replace hg:=hg.le uf
 replace hE:=hE.le uf
 replace hG:=hG.le uf
 replace ja:=ja.le uf
 replace hle0:=hle0.trans uf
 have YG:gD [] [] 1 448 [(⟨#[97]⟩:ByteArray),⟨#[98]⟩] 0 (S1 N.1) Dt.length 1 false 0=⟨S2,6,3,true,1,0,0⟩:=by rw [RD];exact w1
 refine ak.fJ (d:=(some 35)) (R:=[.abs R]) (pk:=[0,1]) (fun _=>by kernel_rfl) (Qy (β:=XK) (kN:=2) (G:=G) (root:=1) (h:=1) (fs:=[]) (xs:=[]) (V0:=V2) (t6:=Dt) (by decide) bY (by rw [RD];decide) ja qY hg hE (by decide) qc (by decide) (fun i hi=>IG hi (.inl rfl)) YG) rfl (by kernel_rfl) ?_
 rintro p8 _ _ cV ⟨V3,tZ,RG,rfl,rfl⟩
 replace hg:=hg.le cV
 replace hE:=hE.le cV
 replace hG:=hG.le cV
 replace ja:=ja.le cV
 replace qc:=qc.le cV
 replace hle0:=hle0.trans cV
 refine gN 6 (fun b13=>[(5,vP b13),(6,.nilIface)]) (fun b13=>[(4,A_ 2 b13 3)]) (fun _=>[]) (fun b13=>.blk b13 [vI (3),.bool true,vI (1)] 55) (fun b13=>?_)
 refine NN (af.seq (SR (gK 14 [(50,.bool false),(51,vP G.w)] [(4,a_ 2 b13),(5,p_ ⟨[],none,none,none,some (.bool false)⟩ [(Value.bool (!decide ((1:Int)=(1:Int))))=(.bool false)] ⟨by simp,trivial⟩),(9,a_ 2 b13)] ?_)))
 refine ak.fJ (d:=(some 52)) (R:=[.abs R,.blk b13 [vI (3),.bool true,vI (1)] 55]) (pk:=[0,1,2]) (fun _=>by kernel_rfl) (LK (β:=p8) (G:=G) (fs:=[]) (xs:=[]) (root:=1) (S:=S2) (V:=V3) (tr:=tZ) xW) rfl (by kernel_rfl) ?_
 rintro UK _ _ jh ⟨A4,c4,K4,rfl,rfl,_⟩
 replace hg:=hg.le jh
 replace hE:=hE.le jh
 replace hG:=hG.le jh
 replace ja:=ja.le jh
 replace qc:=qc.le jh
 replace hle0:=hle0.trans jh
 refine gK 4 [(56,.bool false)] [(1,p_ ⟨[],none,none,none,some (vI (((4:Nat):Int)))⟩ [((.int .i64 ↑((av S2).length):Value))=(.int .i64 (((4:Nat):Int)))] ⟨by rw [eX,wi],trivial⟩),(2,p_ ⟨[],none,none,none,some (.bool false)⟩ [((.bool (!(decide ((((4:Nat):Int):Int)=(4:Int)))):Value))=(.bool false)] ⟨rfl,trivial⟩)] ?_
 refine NN (CF (af.skip (NX (SR (gN 6 (fun b15=>[(61,.agg #[.iface 39 (vP G.w)]),(62,vI 1),(63,.slice (some ⟨b15,0,none⟩) (2) (2))]) (fun b15=>[(3,p_ ⟨[.view 0 (.iface 39 (vP G.w))],none,none,none,none⟩ [(∀ F w,(fD (wP G ([]) ([]) 1 S2 V3 tZ)).h F w->w.cell? ⟨G.w,0,none⟩=some (.iface 39 (vP G.w)))] ⟨uZ,trivial⟩)]) (fun _=>[]) (fun b15=>.blk b15 [.string ⟨#[115]⟩,.string ⟨#[120]⟩] 9) (fun b15=>?_))))))
 refine ak.mem (fun w hS=>hS.og (i:=3) (b:=b15) (cs:=[.string ⟨#[115]⟩,.string ⟨#[120]⟩]) (e:=9) 1 2 (by kernel_rfl) rfl (by decide)) ?_
 refine ak.mK (Φ:=fun β'=>dR β' (some ⟨b15,0,none⟩) [(⟨#[115]⟩:ByteArray),⟨#[120]⟩]) 3 [0,1,2] (dm:=[wA G ([]) ([]) 1 S2 V3 tZ,.abs R,.blk b13 [vI (3),.bool true,vI (1)] 55]) rfl rfl (by kernel_rfl) (fun F w h β' h1 h2=>cM.jA h h1 h2) (fun XL qO IK=>?_)
 replace hg:=hg.le qO
 replace hE:=hE.le qO
 replace hG:=hG.le qO
 replace ja:=ja.le qO
 replace qc:=qc.le qO
 replace hle0:=hle0.trans qO
 have YH:gD [] [] 1 448 [(⟨#[115]⟩:ByteArray),⟨#[120]⟩] 0 S2 tZ.length 1 false 0=⟨S2,7,0,false,0,174,0⟩:=by rw [RG];exact w2
 refine ak.fJ (d:=(some 64)) (R:=[.abs R,.blk b13 [vI (3),.bool true,vI (1)] 55]) (pk:=[0,1,2]) (fun _=>by kernel_rfl) (Qz (β:=XL) (kN:=2) (G:=G) (root:=1) (h:=1) (fs:=[]) (xs:=[]) (V0:=V3) (t6:=tZ) (by decide) xW (by rw [RG];decide) ja qY hg hE (by decide) IK (by decide) (fun i hi=>IG hi (.inr rfl)) YH (by decide)) rfl (by kernel_rfl) ?_
 rintro Zo _ _ oM ⟨V4,ZM,e,nm,Y4,rfl,rfl⟩
 replace hg:=hg.le oM
 replace hE:=hE.le oM
 replace hG:=hG.le oM
 replace ja:=ja.le oM
 replace qc:=qc.le oM
 replace IK:=IK.le oM
 replace hle0:=hle0.trans oM
 refine gK 4 [(6,.iface 92 (vP e))] [] ?_
 refine NS (gK 1 [(68,.iface 92 (vP e))] [] ?_)
 refine gL [1] (xX hE e 0 nm 174) ?_
 rintro _ _ ⟨rfl,rfl⟩
 refine gK 5 [(7,vI 174),(8,vI 0)] [] ?_
 refine NS (gK 11 [(0,.bool true)] [] ?_)
 refine NN (af.ret ?_)
 exact aj.iz (v:=.bool true) (l:=[]) (aZ:=[]) [] [2] hle0 (fun _=>by kernel_rfl) trivial rfl (by kernel_rfl) (⟨rfl,rfl⟩)
end
section
open Go.RowKit
section y
variable {P:Program} {β mQ:Bs} {N:dG} {ops:Array Oper} {S:List HP} {l l':List (Bool×Nat)} {fr fr':Fr} {hps:List HP} {Q:Post} {i:Nat} {aZ:List Prop}
def j8 (P:Program) (ops:Array Oper) (Q:Post) (R S:World->Prop):List (Bool×Nat)->Act->World->Prop
  | [],a,w=>Q .normal a w
  | (false,i)::l,a,w=>wpOp P ops Q i (fun a' w'=>(l=[]\/S w')/\j8 P ops Q R S l a' w') a w
  | (true,i)::l,a,w=>∃ o v,ops[i]?=some o/\YieldsIf P ops R o v a/\j8 P ops Q R S l (a.put o.dst v) w
theorem BV {R S:World->Prop} (hs:∀ w,S w->R w):∀ (l:List (Bool×Nat)) (a:Act) (w:World),j8 P ops Q R S l a w->gu P ops Q S l a w
  | [],_,_,h=>h
  | (false,i)::l,a,w,h=>by
    unfold j8 at h;unfold gu
    exact wpOp_mono (fun a' w' h'=>⟨h'.1,BV hs l a' w' h'.2⟩) h
  | (true,i)::l,a,w,h=>by
    unfold j8 at h;unfold gu
    obtain⟨o,v,h1,h2,h3⟩:=h
    exact⟨o,v,h1,h2.imp (fun q=>⟨q.1,fun w hw=>q.2 w (hs w hw)⟩) id,BV hs l _ w h3⟩
def Bs.bare (β:Bs):Bs:=⟨fun _=>False,β.w0⟩
theorem Sat.bare {w:World} (h:Sat β S w):Sat β.bare [] w:=by
  obtain⟨ho,_⟩:=h
  exact⟨⟨ho.os,ho.tape,ho.output,ho.size,fun k hk=>hk.elim⟩,fun _ _=>False,fun i p h=>absurd h (by simp),fun i hi=>absurd hi (Nat.not_lt_zero i),fun i j hi=>absurd hi (Nat.not_lt_zero i)⟩
def Grown (a b:Bs):Prop:=a=b\/a.le b
theorem Grown.trans {a b c:Bs} (h:Grown a b) (g:b.le c):Grown a c:=.inr (h.elim (fun e=>e ▸ g) (fun h=>h.trans g))
theorem Grown.sat {a b:Bs} {w:World} (h:Grown a b) (hS:Sat b S w):Sat a S w:=h.elim (fun e=>e ▸ hS) (fun h=>hS.Cb h)
def ji (P:Program) (β mQ:Bs) (N:dG) (ops:Array Oper) (S:List HP) (l:List (Bool×Nat)) (fr:Fr) (hps:List HP) (Q:Post):Prop:=
  ∀ junk w,Sat β hps w->j8 P ops (NP Q) (Sat mQ.bare []) (Sat mQ S) l (bM N fr junk) w
theorem eO.U1 (K:ji P β β N ops S l fr hps Q):eO P β N ops S l fr hps Q:=fun junk w hS=>BV (fun _ h=>h.bare) _ _ _ (K junk w hS)
theorem ji.LX {ι:Type} {B:ι->Bs} {Φ:ι->Prop} {fr':ι->Fr} {hp':ι->List HP} (pk:List Nat) (hle:Grown mQ β) (hg:gB ops i=true) (h:ak P β N (mH ops i) i fr hps (NP (O8 β N B Φ fr' hp'))) (hn:nodupB pk=true) (hp:∀ j,bN (hp' j) pk=some S)
    (K:∀ j,β.le (B j)->Φ j->ji P (B j) mQ N ops S l (fr' j) (hp' j) Q):ji P β mQ N ops S ((false,i)::l) fr hps Q:=by
  intro junk w hS
  unfold j8
  refine j7 hg (jR (Q':=_) (fun a w ⟨j,fH,hle2,vE,ha,cE⟩=>?_) _ (h junk w hS))
  subst ha
  exact⟨.inr ((hle.trans hle2).sat (cE.pick hn (hp j))),K j hle2 vE fH w cE⟩
theorem ji.cut {ι:Type} {fr':ι->Fr} {hp':ι->List HP} (pk:List Nat) (hle:Grown mQ β) (hg:gB ops i=true) (h:ak P β N (mH ops i) i fr hps (NP (nM β N fr' hp'))) (hn:nodupB pk=true) (hp:∀ j,bN (hp' j) pk=some S)
    (K:∀ j,ji P β mQ N ops S l (fr' j) (hp' j) Q):ji P β mQ N ops S ((false,i)::l) fr hps Q:=by
  intro junk w hS
  unfold j8
  refine j7 hg (jR (Q':=_) (fun a w ⟨j,fH,ha,cE⟩=>?_) _ (h junk w hS))
  subst ha
  exact⟨.inr (hle.sat (cE.pick hn (hp j))),K j fH w cE⟩
theorem ji.last (hg:gB ops i=true) (h:ak P β N (mH ops i) i fr hps (NP Q)):ji P β mQ N ops S [(false,i)] fr hps Q:=by
  intro junk w hS
  unfold j8
  exact j7 hg (jR (Q':=_) (fun a w hq=>⟨.inl rfl,by unfold j8;exact hq⟩) _ (h junk w hS))
theorem ug {junk:Nat->Value} {w:World} {S2:World->Prop}:∀ {hs:List OH} {is:List Nat} {fr fr':Fr} {T T':SS},kL P β N junk ops hs is fr T=some (fr',T')->(∀ p,p∈T'.aZ->p)->T.used=true->T.hps=S →
    j8 P ops (NP Q) (Sat β S) S2 l (bM N fr' junk) w->j8 P ops (NP Q) (Sat β S) S2 (is.map (fun i=>(true,i))++l) (bM N fr junk) w
  | [],[],fr,fr',T,T',h,ho,hu,hT,hK=>by cases h;exact hK
  | h::hs,i::is,fr,fr',T,T',hr,ho,hu,hT,hK=>by
    unfold kL at hr
    repeat' split at hr
    all_goals first|(cases hr;done)|skip
    ·rename_i o hget _ hwant _ v T1 h0 _ hv
     obtain⟨e1,e2⟩:=qo h0
     rw [List.map_cons,List.cons_append]
     unfold j8
     refine⟨o,v,hget,.inl ⟨by rw [dO];exact hwant,fun w' cE=>?_⟩,?_⟩
     ·rw [dY]
      obtain⟨w2,h1,_,_,h4⟩:=jN h0 (fun p hp=>ho p (p4 hr p hp)) (by rw [hT];exact cE) (fun e=>by rw [hu] at e;cases e)
      obtain⟨ew,_⟩:=h4 rfl
      rw [ew] at h1
      rcases h1 with h1|⟨h1,_⟩
      ·exact h1
      exact absurd h1 (mM hv)
     rw [dM]
     exact ug hr ho (e2.trans hu) (e1.trans hT) hK
    rename_i o hget _ hwant
    rw [List.map_cons,List.cons_append]
    unfold j8
    refine⟨o,undef,hget,.inr ⟨by rw [dO];exact hwant,rfl⟩,?_⟩
    rw [dM]
    exact ug hr ho hu hT hK
  | [],_::_,_,_,_,_,h,_,_,_,_=>by cases h
  | _::_,[],_,_,_,_,h,_,_,_,_=>by cases h
theorem gH (l2:List (Bool×Nat)) (lM:Fr) (is:List Nat) (os:List (Nat×OP)) (K:ji P β mQ N ops S l2 lM hps Q)
    (h:∀ junk,mh P mQ.bare N junk ops (jB (ic is.length os 0)) is fr [] (bn lM)=some (lM,owed (ic is.length os 0)):=by intro _;kernel_rfl) (hl:l'=is.map (fun i=>(true,i))++l2:=by rfl):ji P β mQ N ops S l' fr hps Q:=by
  intro junk w hS
  subst hl
  have h0:=h junk
  unfold mh at h0
  split at h0
  ·rename_i kG S1 h1
   injection h0 with h0
   injection h0 with e1 e2
   have hK:=K (lk kG junk) w hS
   rw [← e1,← ju] at hK
   exact ug h1 (fun p hp=>(mO _).mem (by rw [← e2];exact hp)) rfl rfl hK
  cases h0
end y
end
section
open Go.RowKit
section order
variable {P:Program} {ops:Array Oper} {Q Q':Post} {n:Nat} {S:World->Prop} {j:Nat} {l2:List (Bool×Nat)}
def ny (P:Program) (ops:Array Oper) (Q:Post) (S:World->Prop) (j:Nat) (l2:List (Bool×Nat)):List (Bool×Nat)->Act->World->Prop
  | [],a,w=>wpOp P ops Q j (fun a' w'=>S w'/\gu P ops Q S l2 a' w') a w
  | (false,i)::l,a,w=>wpOp P ops Q i (fun a' w'=>S w'/\ny P ops Q S j l2 l a' w') a w/\wpOp P ops Q j (fun a' w'=>S w'/\gu P ops Q S ((false,i)::(l++l2)) a' w') a w
  | (true,i)::l,a,w=>∃ o v,ops[i]?=some o/\YieldsIf P ops S o v a/\ny P ops Q S j l2 l (a.put o.dst v) w
def xq (ops:Array Oper) (n j:Nat) (l2:List (Bool×Nat)):List (Bool×Nat)->Array Bool->Bool
  | [],listed=>(Region.ready .any ops listed == [j]) && uR ops n l2 (listed.setIfInBounds j true)
  | (false,i)::l,listed=>(Region.ready .any ops listed == (if i < j then [i,j] else [j,i])) && xq ops n j l2 l (listed.setIfInBounds i true) && uR ops n ((false,i)::(l++l2)) (listed.setIfInBounds j true)
  | (true,i)::l,listed=>decide (i < n) && Region.free .any ops listed i && (Region.ready .any ops listed).contains i && xq ops n j l2 l (listed.setIfInBounds i true)
theorem BW (hsel:Region.noSelect ops=true) (kH:Region.sinkB .any ops n=true):∀ (l:List (Bool×Nat)) (listed:Array Bool) (a:Act) (w:World),xq ops n j l2 l listed=true->Closed ops listed->S w->ny P ops (NP Q) S j l2 l a w->iU P ops (NP Q) n S (l.length+(l2.length+1)) listed a w
  | [],listed,a,w,hb,hc,_,h=>by
    unfold xq at hb
    simp only [Bool.and_eq_true,beq_iff_eq] at hb
    obtain⟨h1,h3⟩:=hb
    rw [List.length_nil,Nat.zero_add]
    refine⟨fun h0=>(by rw [h1] at h0;cases h0),fun k hk=>?_⟩
    have hr:=hk
    rw [h1] at hk
    have hk:k=j:=by simpa using hk
    subst hk
    exact wpOp_mono (fun a' w' h4=>⟨.inr h4.1,qL hsel kH l2 _ a' w' h3 (hc.set hr) (.inr h4.1) h4.2⟩) h
  | (false,i)::l,listed,a,w,hb,hc,_,h=>by
    unfold xq at hb
    simp only [Bool.and_eq_true,beq_iff_eq] at hb
    obtain⟨⟨h1,h2⟩,h3⟩:=hb
    rw [List.length_cons,Nat.succ_add]
    refine⟨fun h0=>(by rw [h1] at h0;split at h0<;>cases h0),fun k hk=>?_⟩
    have hr:=hk
    rw [h1] at hk
    have hk:k=i\/k=j:=by
      split at hk<;>(simp at hk;omega)
    rcases hk with rfl|rfl
    ·exact wpOp_mono (fun a' w' h4=>⟨.inr h4.1,BW hsel kH l _ a' w' h2 (hc.set hr) h4.1 h4.2⟩) h.1
    refine wpOp_mono (fun a' w' h4=>⟨.inr h4.1,?_⟩) h.2
    have:=qL hsel kH ((false,i)::(l++l2)) _ a' w' h3 (hc.set hr) (.inr h4.1) h4.2
    rw [List.length_cons,List.length_append] at this
    exact this
  | (true,i)::l,listed,a,w,hb,hc,hS,h=>by
    unfold xq at hb
    simp only [Bool.and_eq_true,decide_eq_true_iff] at hb
    obtain⟨⟨⟨h1,h2⟩,h3⟩,h4⟩:=hb
    obtain⟨o,v,ho,hy,hk⟩:=h
    have hr:i∈Region.ready .any ops listed:=by simpa using h3
    rw [List.length_cons,Nat.succ_add]
    exact pH ho hsel kH h1 _ listed a w hc (Region.free_spec ho h2) hr hy hS (BW hsel kH l _ _ w h4 (hc.set hr) hS hk)
def Kq (ops:Array Oper) (j:Nat) (l l2:List (Bool×Nat)):Bool:=
  Region.noSelect ops && Region.sinkB .any ops (ops.size - 1) && (l.length+(l2.length+1) == ops.size) && xq ops (ops.size - 1) j l2 l (Array.replicate ops.size false)
end order
section mix
variable {P:Program} {β:Bs} {N:dG} {ops:Array Oper} {S:List HP} {l l' l2:List (Bool×Nat)} {fr fr':Fr} {hps:List HP} {Q:Post} {aZ:List Prop} {i j:Nat}
def zB (P:Program) (β:Bs) (N:dG) (ops:Array Oper) (S:List HP) (j:Nat) (l2 l:List (Bool×Nat)) (fr:Fr) (hps:List HP) (Q:Post):Prop:=
  ∀ junk w,Sat β hps w->ny P ops (NP Q) (Sat β S) j l2 l (bM N fr junk) w
theorem af.EC {id:Nat} (j:Nat) (l l2:List (Bool×Nat)) (hm:P.follows .mixedOrders=true) (hB:Kq ops j l l2=true) (hp:∀ w,Sat β hps w->Sat β S w) (h:zB P β N ops S j l2 l fr hps Q):af P β N (.region id ops true) fr hps Q:=by
  intro junk w hS
  unfold Kq at hB
  simp only [Bool.and_eq_true,beq_iff_eq] at hB
  obtain⟨⟨⟨h1,h2⟩,h3⟩,h4⟩:=hB
  have cE:=hS.drewN 1
  have h5:=BW (Q:=Q) h1 h2 l _ _ _ h4 (fun j oj _ hl=>by simp [Array.getD_eq_getD_getElem?,Array.getElem?_replicate] at hl;split at hl<;>simp at hl) (hp _ cE) (h junk (w.drewN 1) cE)
  rw [h3] at h5
  refine Code.wp_mono (fun e a w q=>?_) (wp_region_any hm (lT _ _ _ _ h5))
  cases e with
  | normal=>exact q
  | exit id=>exact q.elim
  | goto l=>exact q.elim
  | ret=>exact q.elim
  | panic ch=>exact q.elim
  | outgrown=>exact q.elim
theorem uh {junk:Nat->Value} {w:World}:∀ {hs:List OH} {is:List Nat} {fr fr':Fr} {T T':SS},kL P β N junk ops hs is fr T=some (fr',T')->(∀ p,p∈T'.aZ->p)->T.used=true->T.hps=S →
    ny P ops (NP Q) (Sat β S) j l2 l (bM N fr' junk) w->ny P ops (NP Q) (Sat β S) j l2 (is.map (fun i=>(true,i))++l) (bM N fr junk) w
  | [],[],fr,fr',T,T',h,ho,hu,hT,hK=>by cases h;exact hK
  | h::hs,i::is,fr,fr',T,T',hr,ho,hu,hT,hK=>by
    unfold kL at hr
    repeat' split at hr
    all_goals first|(cases hr;done)|skip
    ·rename_i o hget _ hwant _ v T1 h0 _ hv
     obtain⟨e1,e2⟩:=qo h0
     rw [List.map_cons,List.cons_append]
     unfold ny
     refine⟨o,v,hget,.inl ⟨by rw [dO];exact hwant,fun w' cE=>?_⟩,?_⟩
     ·rw [dY]
      obtain⟨w2,h1,_,_,h4⟩:=jN h0 (fun p hp=>ho p (p4 hr p hp)) (by rw [hT];exact cE) (fun e=>by rw [hu] at e;cases e)
      obtain⟨ew,_⟩:=h4 rfl
      rw [ew] at h1
      rcases h1 with h1|⟨h1,_⟩
      ·exact h1
      exact absurd h1 (mM hv)
     rw [dM]
     exact uh hr ho (e2.trans hu) (e1.trans hT) hK
    rename_i o hget _ hwant
    rw [List.map_cons,List.cons_append]
    unfold ny
    refine⟨o,undef,hget,.inr ⟨by rw [dO];exact hwant,rfl⟩,?_⟩
    rw [dM]
    exact uh hr ho hu hT hK
  | [],_::_,_,_,_,_,h,_,_,_,_=>by cases h
  | _::_,[],_,_,_,_,h,_,_,_,_=>by cases h
theorem gJ (l3:List (Bool×Nat)) (lM:Fr) (is:List Nat) (os:List (Nat×OP)) (K:zB P β N ops S j l2 l3 lM hps Q)
    (h:∀ junk,mh P β N junk ops (jB (ic is.length os 0)) is fr S (bn lM)=some (lM,owed (ic is.length os 0)):=by intro _;kernel_rfl) (hl:l'=is.map (fun i=>(true,i))++l3:=by rfl):zB P β N ops S j l2 l' fr hps Q:=by
  intro junk w hS
  subst hl
  have h0:=h junk
  unfold mh at h0
  split at h0
  ·rename_i kG S1 h1
   injection h0 with h0
   injection h0 with ha hb
   have hK:=K (lk kG junk) w hS
   rw [← ha,← ju] at hK
   refine uh h1 (fun p hp=>?_) rfl rfl hK
   rw [hb] at hp
   exact (mO _).mem hp
  cases h0
def gy (P:Program) (β:Bs) (N:dG) (ops:Array Oper) (Q:Post) (S:List HP) (G:List HP->Prop) (dj:Nat):List (Bool×Nat×Nat)->Fr->List HP->(Fr->List HP->Prop)->Prop
  | [],fr,hps,R=>R fr hps
  | (false,i,d)::c,fr,hps,R=>(iZ d (bn fr)=false/\d≠dj)/\∃ q:Value->List HP->Prop,iM P β N ops Q i d [d,dj] fr hps q/\∀ v l,q v l->G l/\gy P β N ops Q S G dj c ((d,v)::fr) l R
  | (true,i,d)::c,fr,hps,R=>(iZ d (bn fr)=false/\d≠dj)/\∃ o v,ops[i]?=some o/\o.dst=some d/\(∀ junk,YieldsIf P ops (Sat β S) o v (bM N fr junk))/\gy P β N ops Q S G dj c ((d,v)::fr) hps R
theorem gy.step {G:List HP->Prop} {dj d:Nat} {c:List (Bool×Nat×Nat)} {R:Fr->List HP->Prop} {q:Value->List HP->Prop} (h:iM P β N ops Q i d [d,dj] fr hps q) (h1:(!iZ d (bn fr) && decide (d≠dj))=true) (K:∀ v l,q v l->G l/\gy P β N ops Q S G dj c ((d,v)::fr) l R):gy P β N ops Q S G dj ((false,i,d)::c) fr hps R:=by
  simp only [Bool.and_eq_true,Bool.not_eq_true',decide_eq_true_iff] at h1
  exact⟨h1,q,h,K⟩
theorem gy.read {G:List HP->Prop} {dj d:Nat} {c:List (Bool×Nat×Nat)} {R:Fr->List HP->Prop} {v:Value} (h:∀ junk,mh P β N junk ops [o_] [i] fr S (d::bn fr)=some ((d,v)::fr,[])) (hd:(ops[i]?).map Oper.dst=some (some d)) (h1:(!iZ d (bn fr) && decide (d≠dj))=true) (K:gy P β N ops Q S G dj c ((d,v)::fr) hps R):gy P β N ops Q S G dj ((true,i,d)::c) fr hps R:=by
  simp only [Bool.and_eq_true,Bool.not_eq_true',decide_eq_true_iff] at h1
  obtain⟨o,ho,U2⟩:=Option.map_eq_some_iff.1 hd
  refine⟨h1,o,v,ho,U2,fun junk=>?_,K⟩
  have h0:=h junk
  unfold mh at h0
  split at h0
  ·rename_i kG S1 hr
   injection h0 with h0
   injection h0 with ha hb
   unfold kL at hr
   rw [ho] at hr
   simp only at hr
   repeat' split at hr
   all_goals first|(cases hr;done)|skip
   ·rename_i _ hwant _ v1 T1 hrun _ hv
    unfold kL at hr
    injection hr with hr
    injection hr with hr1 hr2
    have hv1:v1=v:=by
      rw [← hr1] at ha
      have h3:lk (iD (dw fr o.dst v1) junk (d::bn fr)) junk d=lk ((d,v)::fr) junk d:=congrArg (fun f:Fr=>lk f junk d) ha
      have h2:lk (iD (dw fr o.dst v1) junk (d::bn fr)) junk d=v1:=by
        rw [U2]
        simp [iD,lk,dw]
      rw [h2,fM,if_pos rfl] at h3
      exact h3
    refine .inl ⟨by rw [dO];exact hwant,fun w' cE=>?_⟩
    rw [dY]
    obtain⟨w2,g1,_,_,g4⟩:=jN hrun (fun p hp=>by rw [hr2,hb] at hp;cases hp) (by exact cE) (fun e=>by cases e)
    obtain⟨ew,_⟩:=g4 rfl
    rw [ew] at g1
    rcases g1 with g1|⟨g1,_⟩
    ·rw [← hv1];exact g1
    exact absurd g1 (mM hv)
   rename_i _ hwant
   unfold kL at hr
   injection hr with hr
   injection hr with hr1 hr2
   have hv1:undef=v:=by
     rw [← hr1] at ha
     have h3:lk (iD (dw fr o.dst undef) junk (d::bn fr)) junk d=lk ((d,v)::fr) junk d:=congrArg (fun f:Fr=>lk f junk d) ha
     have h2:lk (iD (dw fr o.dst undef) junk (d::bn fr)) junk d=undef:=by
       rw [U2]
       simp [iD,lk,dw]
     rw [h2,fM,if_pos rfl] at h3
     exact h3
   exact .inr ⟨by rw [dO];exact hwant,hv1.symm⟩
  cases h0
section TW
variable {dj:Nat} {Z pj:List HP} {qj:Value->List HP->Prop} {R:Fr->List HP->Prop} {G:List HP->Prop}
theorem Aj {v:Value} {junk:Nat->Value} (hv:junk dj=v) (hdj:iZ dj (bn fr)=false):bM N fr junk=bM N ((dj,v)::fr) junk:=nK fun t=>by
  rw [fM]
  by_cases e1:dj=t
  ·subst e1;rw [if_pos rfl,kV (fun hm=>by rw [iK.2 hm] at hdj;cases hdj),hv]
  rw [if_neg e1]
theorem xu {d:Nat} {v:Value} (h1:d≠dj) (hdj:iZ dj (bn fr)=false):iZ dj (bn ((d,v)::fr))=false:=by
  cases hb:iZ dj (bn ((d,v)::fr)) with
  | false=>rfl
  | true=>
    rcases List.mem_cons.1 (iK.1 hb) with e|e
    ·exact absurd e.symm h1
    rw [iK.2 e] at hdj;cases hdj
abbrev Kr (c:List (Bool×Nat×Nat)):List (Bool×Nat):=c.map (fun x=>(x.1,x.2.1))
theorem xw {v:Value} {lp:List HP} (hG:∀ h X w,G h->Sat β (h++(X++Z)) w->Sat β S w) (hK:∀ f1 h1,R f1 h1->∀ junk w,Sat β (h1++(lp++Z)) w->gu P ops (NP Q) (Sat β S) l2 (bM N ((dj,v)::f1) junk) w) :
    ∀ (c:List (Bool×Nat×Nat)) (fr:Fr) (hps:List HP) (junk:Nat->Value) (w:World),iZ dj (bn fr)=false->gy P β N ops Q S G dj c fr hps R->junk dj=v->Sat β (hps++(lp++Z)) w->gu P ops (NP Q) (Sat β S) (Kr c++l2) (bM N fr junk) w
  | [],fr,hps,junk,w,hdj,hc,hv,hS=>by
    show gu _ _ _ _ l2 _ _
    rw [Aj hv hdj]
    exact hK fr hps hc junk w hS
  | (false,i,d)::c,fr,hps,junk,w,hdj,⟨⟨h1,h2⟩,q,h3,h4⟩,hv,hS=>by
    show gu _ _ _ _ ((false,i)::(Kr c++l2)) _ _
    unfold gu
    refine h3.at_ (X:=[]) hS (fun v' l j2 w' g1 g2 g3 g4=>?_)
    obtain⟨k1,k2⟩:=h4 v' l g1
    refine⟨.inr (hG l lp w' k1 g4),?_⟩
    rw [Aj g2 h1]
    exact xw hG hK c _ l j2 w' (xu h2 hdj) k2 ((g3 dj (by simp) (fun e=>h2 e.symm)).trans hv) g4
  | (true,i,d)::c,fr,hps,junk,w,hdj,⟨⟨h1,h2⟩,o,v',h3,h4,h5,h6⟩,hv,hS=>by
    show gu _ _ _ _ ((true,i)::(Kr c++l2)) _ _
    unfold gu
    refine⟨o,v',h3,h5 junk,?_⟩
    rw [h4,dM]
    exact xw hG hK c _ hps junk w (xu h2 hdj) h6 hv hS
theorem xA {j:Nat} (hG:∀ h X w,G h->Sat β (h++(X++Z)) w->Sat β S w) (hK:∀ f1 h1,R f1 h1->∀ v lp,qj v lp->∀ junk w,Sat β (h1++(lp++Z)) w->gu P ops (NP Q) (Sat β S) l2 (bM N ((dj,v)::f1) junk) w) :
    ∀ (c:List (Bool×Nat×Nat)) (fr:Fr) (hps:List HP) (junk:Nat->Value) (w:World),nodupB (c.map (·.2.2))=true->iZ dj (bn fr)=false->iM P β N ops Q j dj (dj::c.map (·.2.2)) fr pj qj->gy P β N ops Q S G dj c fr hps R->G hps->Sat β (hps++(pj++Z)) w->ny P ops (NP Q) (Sat β S) j l2 (Kr c) (bM N fr junk) w
  | [],fr,hps,junk,w,_,hdj,hj,hc,hg,hS=>by
    show wpOp P ops (NP Q) j _ _ _
    refine hj.at_ (X:=hps) hS (fun v l j2 w' g1 g2 g3 g4=>⟨hG hps l w' hg g4,?_⟩)
    rw [Aj g2 hdj]
    exact hK fr hps hc v l g1 j2 w' g4
  | (false,i,d)::c,fr,hps,junk,w,hnd,hdj,hj,hc,hg,hS=>by
    have hc0:=hc
    obtain⟨⟨h1,h2⟩,q,h3,h4⟩:=hc
    have hout:d∉bn fr:=fun hm=>by rw [iK.2 hm] at h1;cases h1
    have yY:d∉c.map (·.2.2)/\nodupB (c.map (·.2.2))=true:=by
      have hx:nodupB (d::c.map (·.2.2))=true:=hnd
      unfold nodupB at hx
      simp only [Bool.and_eq_true] at hx
      exact⟨fun hm=>by have h:=hx.1;simp_all,hx.2⟩
    refine⟨h3.at_ (X:=[]) hS (fun v' l j2 w' g1 g2 g3 g4=>?_),hj.at_ (X:=hps) hS (fun v l j2 w' g1 g2 g3 g4=>⟨hG hps l w' hg g4,?_⟩)⟩
    ·obtain⟨k1,k2⟩:=h4 v' l g1
     refine⟨hG l pj w' k1 g4,?_⟩
     rw [Aj g2 h1]
     exact xA hG hK c _ l j2 w' yY.2 (xu h2 hdj) (hj.grow hout h2 yY.1 v') k2 k1 g4
    exact xw hG (fun f1 h1 hr=>hK f1 h1 hr v l g1) ((false,i,d)::c) fr hps j2 w' hdj hc0 g2 g4
  | (true,i,d)::c,fr,hps,junk,w,hnd,hdj,hj,⟨⟨h1,h2⟩,o,v',h3,h4,h5,h6⟩,hg,hS=>by
    have hout:d∉bn fr:=fun hm=>by rw [iK.2 hm] at h1;cases h1
    have yY:d∉c.map (·.2.2)/\nodupB (c.map (·.2.2))=true:=by
      have hx:nodupB (d::c.map (·.2.2))=true:=hnd
      unfold nodupB at hx
      simp only [Bool.and_eq_true] at hx
      exact⟨fun hm=>by have h:=hx.1;simp_all,hx.2⟩
    show ny _ _ _ _ _ _ ((true,i)::Kr c) _ _
    unfold ny
    refine⟨o,v',h3,h5 junk,?_⟩
    rw [h4,dM]
    exact xA hG hK c _ hps junk w yY.2 (xu h2 hdj) (hj.grow hout h2 yY.1 v') h6 hg hS
theorem zB.beside {j:Nat} {pc:List HP} (pk:List Nat) (G:List HP->Prop) (c:List (Bool×Nat×Nat)) (hn:nodupB pk=true) (hp:bN hps pk=some (pc++(pj++Z))) (hl:l=Kr c) (hG:∀ h X w,G h->Sat β (h++(X++Z)) w->Sat β S w) (hg:G pc) (hnd:nodupB (c.map (·.2.2))=true) (hdj:iZ dj (bn fr)=false)
    (hj:iM P β N ops Q j dj (dj::c.map (·.2.2)) fr pj qj) (hc:gy P β N ops Q S G dj c fr pc R)
    (K:∀ f1 h1,R f1 h1->∀ v lp,qj v lp->eO P β N ops S l2 ((dj,v)::f1) (h1++(lp++Z)) Q):zB P β N ops S j l2 l fr hps Q:=by
  intro junk w hS
  subst hl
  exact xA hG (fun f1 h1 hr v lp hv junk w hS=>K f1 h1 hr v lp hv junk w hS) c fr pc junk w hnd hdj hj hc hg (hS.pick hn hp)
end TW
end mix
end
section
open Go.RowKit Go.Maps bq aF
def nA (G:WG):bW where
  h F w:=∃ fs xs root S V tr,(fD (wP G fs xs root S V tr)).h F w
  lt:=fun ⟨_,_,_,_,_,_,h⟩=>bW.lt _ h
  st:=fun ⟨fs,xs,root,S,V,tr,h⟩ _ _ hk hd=>⟨fs,xs,root,S,V,tr,bW.st _ h hk hd⟩
theorem ol {G:WG}:∀ F w,(nA G).h F w->w.cell? ⟨G.w,0,none⟩=some (.iface 39 (vP G.w)):=by
  rintro F w ⟨fs,xs,root,S,V,tr,h⟩
  exact uZ F w h
theorem Sat.Dw {β:Bs} {l:List HP} {w:World} {i:Nat} {G:WG} {fs:List bh} {xs:List bK} {root:Int} {S:aJ} {V:WV} {tr:List aB} (h:Sat β l w) (hp:l[i]?=some (wA G fs xs root S V tr)):Sat β (l.set i (.abs (nA G))) w:=by
  refine h.set hp (fun F hF=>⟨F,⟨fs,xs,root,S,V,tr,hF⟩,?_⟩)
  exact Step.refl _ _
theorem Sat.YI {β:Bs} {l l':List HP} {w:World} (f:Nat->Nat) (h:Sat β l w) (hf:∀ k p,l'[k]?=some p->l[f k]?=some p) (hi:∀ a b,a < l'.length->b < l'.length->f a=f b->a=b):Sat β l' w:=by
  obtain⟨ho,φ,h1,h2,h3⟩:=h
  have key:∀ k,k < l'.length->f k < l.length:=fun k hk=>by
    obtain⟨p,hp⟩:=jb hk
    exact bw (hf k p hp)
  exact⟨ho,fun k=>φ (f k),fun k p hp=>h1 _ p (hf k p hp),fun k hk=>h2 _ (key k hk),fun a b ha hb hne=>h3 _ _ (key a ha) (key b hb) (fun e=>hne (hi a b ha hb e))⟩
def IL (G:WG) (l:List HP):Prop:=∃ (i:Nat) (fs:List bh) (xs:List bK) (root:Int) (S:aJ) (V:WV) (tr:List aB),l[i]?=some (wA G fs xs root S V tr)
theorem zC {G:WG} {l:List HP} (i:Nat) {fs:List bh} {xs:List bK} {root:Int} {S:aJ} {V:WV} {tr:List aB} (h:l[i]?=some (wA G fs xs root S V tr)):IL G l:=⟨i,fs,xs,root,S,V,tr,h⟩
theorem IQ {β:Bs} {G:WG} {Z S1:List HP} {pS:List Nat} (hn:nodupB pS=true) (hp:bN Z pS=some S1) (h X:List HP) (w:World) (hw:IL G h) (hS:Sat β (h++(X++Z)) w):Sat β (S1++[.abs (nA G)]) w:=by
  obtain⟨i,fs,xs,root,S,V,tr,hi⟩:=hw
  have hil:=bw hi
  have h1:=hS.Dw (i:=i) (G:=G) (fs:=fs) (xs:=xs) (root:=root) (S:=S) (V:=V) (tr:=tr) (by rw [List.getElem?_append_left hil];exact hi)
  rw [List.set_append_left _ _ hil] at h1
  obtain⟨hl,hx⟩:=vZ hp
  have hnd:=List.pairwise_iff_getElem.1 (vf hn)
  have hz:∀ k,k < S1.length->∃ p m,S1[k]?=some p/\pS[k]?=some m/\Z[m]?=some p:=fun k hk=>by
    obtain⟨p,hp⟩:=jb hk
    obtain⟨m,h2,h3⟩:=hx k p hp
    exact⟨p,m,hp,h2,h3⟩
  refine Sat.YI (fun k=>if k < S1.length then h.length+X.length+pS.getD k 0 else i) h1 (fun k p hk=>?_) (fun a b ha hb e=>?_)
  ·by_cases hk1:k < S1.length
   ·obtain⟨p2,m,h2,h3,h4⟩:=hz k hk1
    rw [List.getElem?_append_left hk1,h2] at hk
    injection hk with hk
    subst hk
    simp only [if_pos hk1]
    rw [List.getD_eq_getElem?_getD,h3,List.getElem?_append_right (by rw [List.length_set];omega),List.length_set,List.getElem?_append_right (by omega)]
    show Z[h.length+X.length+m - h.length - X.length]?=_
    rw [show h.length+X.length+m - h.length - X.length=m by omega]
    exact h4
   rw [List.getElem?_append_right (by omega)] at hk
   have:k - S1.length=0:=by
     have:=bw hk
     simp at this
     omega
   rw [this] at hk
   injection hk with hk
   subst hk
   simp only [if_neg hk1]
   rw [List.getElem?_append_left (by rw [List.length_set];exact hil),List.getElem?_set_self hil]
  simp only [List.length_append,List.length_singleton] at ha hb
  have hlt:∀ k,k < S1.length->h.length+X.length+pS.getD k 0≠i:=fun k hk q=>by omega
  by_cases h1:a < S1.length<;>by_cases h2:b < S1.length
  ·simp only [if_pos h1,if_pos h2] at e
   have ga:pS.getD a 0=pS[a]'(by omega):=by rw [List.getD_eq_getElem?_getD,List.getElem?_eq_getElem (by omega)];rfl
   have gb:pS.getD b 0=pS[b]'(by omega):=by rw [List.getD_eq_getElem?_getD,List.getElem?_eq_getElem (by omega)];rfl
   rcases Nat.lt_trichotomy a b with q|q|q
   ·exact absurd (by rw [← ga,← gb];omega) (hnd a b (by omega) (by omega) q)
   ·exact q
   exact absurd (by rw [← ga,← gb];omega) (hnd b a (by omega) (by omega) q)
  ·simp only [if_pos h1,if_neg h2] at e;exact absurd e (hlt a h1)
  ·simp only [if_neg h1,if_pos h2] at e;exact absurd e.symm (hlt b h2)
  omega
theorem bp.Kt {P:Program} {β:Bs} {f:FuncId} {args:Array Value} {pre R:List HP} {post:Bs->Value->List HP->Prop} (h:∀ β':Bs,pP β R β'->bp P β' f args pre post):bp P β f args (pre++R) post:=by
  intro A w hS
  have h1:=Sat.turn hS
  rw [← List.append_assoc] at h1
  obtain⟨β',g1,_,g3⟩:=h1.yA
  refine (h β' g1 A w (Sat.turn g3)).mono ?_
  rintro e w' ⟨yj,v,l,hle,h2⟩
  exact⟨yj,v,l,g1.le.trans hle,h2⟩
section w
variable {β:Bs} {G:WG} {fs:List bh} {xs:List bK} {root:Int} {S:aJ} {V:WV} {tr:List aB} {n:Nat} {h:Int} {r:Hw} {A:Option Addr} {kN:Nat} {ps:List ByteArray} {mode:Int}
abbrev Dx (A:Option Addr) (n c:Nat) (ps:List ByteArray):HP:=.abs (aH 9 1 A n c (gZ ps))
theorem LY (hc:r.code=0) (hrw:(Lit.int .i64 root).wf=true) (hI:Inv S) (hn:tr.length=n) (hn2:n<=100) (hZ:fF β G.Z xs) (hX:ef xs 1048576) (hg:dQ β) (hE:jr β) (hw:(Lit.int .i64 h).wf=true) (hpl:ps.length<=1048576) (hps:∀ i,i < ps.length->(pc ps i).size<=1048576) (hr:gD fs xs root mode ps 0 S n h false 0=r) :
    Spec Tryz.prog β 10 (xk G h A ps.length kN mode) [wA G fs xs root S V tr,Dx A ps.length kN ps] (fun v l=>∃ (V':WV) (q:{ l:List aB // l.length=r.n }),v=.tuple #[.agg #[.int .i64 r.cur,.bool r.own,.int .i64 r.made],.nilIface]/\l=[wA G fs xs root r.S V' q.1]):=
  (bp.Kt (pre:=[wA G fs xs root S V tr]) (R:=[Dx A ps.length kN ps]) fun _ hL=>by
    obtain⟨F,h1,h2⟩:=hL.get 0 rfl
    exact Ot hc hrw hI hn hn2 (hZ.le hL.le) hX (hg.le hL.le) (hE.le hL.le) hw (cM.jA h1 h2 rfl) hpl hps hr).CV
theorem Jv (hc:¬ r.code=0) (hrw:(Lit.int .i64 root).wf=true) (hI:Inv S) (hn:tr.length=n) (hn2:n<=100) (hZ:fF β G.Z xs) (hX:ef xs 1048576) (hg:dQ β) (hE:jr β) (hw:(Lit.int .i64 h).wf=true) (hpl:ps.length<=1048576) (hps:∀ i,i < ps.length->(pc ps i).size<=1048576) (hr:gD fs xs root mode ps 0 S n h false 0=r) :
    Spec Tryz.prog β 10 (xk G h A ps.length kN mode) [wA G fs xs root S V tr,Dx A ps.length kN ps] (fun v l=>∃ (V':WV) (q:{ l:List aB // l.length=r.n }) (e:Nat) (nm:ByteArray),v=.tuple #[.agg #[.int .i64 0,.bool false,.int .i64 r.made],.iface 92 (vP e)]/\l=[wA G fs xs root r.S V' q.1,.blk e [.int .i64 r.at_,.string nm,.int .i64 r.code] 94]):=
  (bp.Kt (pre:=[wA G fs xs root S V tr]) (R:=[Dx A ps.length kN ps]) fun _ hL=>by
    obtain⟨F,h1,h2⟩:=hL.get 0 rfl
    exact LV hc hrw hI hn hn2 (hZ.le hL.le) hX (hg.le hL.le) (hE.le hL.le) hw (cM.jA h1 h2 rfl) hpl hps hr).CV
end w
section rules
variable {P:Program} {β mQ:Bs} {N:dG} {ops:Array Oper} {S:List HP} {l:List (Bool×Nat)} {fr:Fr} {hps:List HP} {Q:Post} {i:Nat}
theorem af.Jw {id:Nat} (l:List (Bool×Nat)) (hm:P.follows .mixedOrders=true) (hB:Ad ops l=true) (hp:∀ w,Sat β hps w->Sat β S w) (h:eO P β N ops S l fr hps Q):af P β N (.region id ops true) fr hps Q:=by
  intro junk w hS
  unfold Ad at hB
  simp only [Bool.and_eq_true,beq_iff_eq] at hB
  obtain⟨⟨⟨h1,h2⟩,h3⟩,h4⟩:=hB
  have cE:=hS.drewN 1
  have h5:=qL (Q:=Q) h1 h2 l _ _ _ h4 (fun j oj _ hl=>by simp [Array.getD_eq_getD_getElem?,Array.getElem?_replicate] at hl;split at hl<;>simp at hl) (.inr (hp _ cE)) (h junk (w.drewN 1) cE)
  rw [h3] at h5
  refine Code.wp_mono (fun e a w q=>?_) (wp_region_any hm (lT _ _ _ _ h5))
  cases e with
  | normal=>exact q
  | exit id=>exact q.elim
  | goto l=>exact q.elim
  | ret=>exact q.elim
  | panic ch=>exact q.elim
  | outgrown=>exact q.elim
theorem ji.VR {ι:Type} {B:ι->Bs} {Φ:ι->Prop} {fr':ι->Fr} {hp':ι->List HP} (hle:Grown mQ β) (hg:gB ops i=true) (h:ak P β N (mH ops i) i fr hps (NP (O8 β N B Φ fr' hp'))) (hp:∀ j w,Sat (B j) (hp' j) w->Sat (B j) S w)
    (K:∀ j,β.le (B j)->Φ j->ji P (B j) mQ N ops S l (fr' j) (hp' j) Q):ji P β mQ N ops S ((false,i)::l) fr hps Q:=by
  intro junk w hS
  unfold j8
  refine j7 hg (jR (Q':=_) (fun a w ⟨j,fH,hle2,vE,ha,cE⟩=>?_) _ (h junk w hS))
  subst ha
  exact⟨.inr ((hle.trans hle2).sat (hp j _ cE)),K j hle2 vE fH w cE⟩
theorem eO.QA {ι:Type} {fr':ι->Fr} {hp':ι->List HP} (hg:gB ops i=true) (h:ak P β N (mH ops i) i fr hps (NP (nM β N fr' hp'))) (hp:∀ j w,Sat β (hp' j) w->Sat β S w)
    (K:∀ j,eO P β N ops S l (fr' j) (hp' j) Q):eO P β N ops S ((false,i)::l) fr hps Q:=by
  intro junk w hS
  unfold gu
  refine j7 hg (jR (Q':=_) (fun a w ⟨j,fH,ha,cE⟩=>?_) _ (h junk w hS))
  subst ha
  exact⟨.inr (hp j _ cE),K j fH w cE⟩
end rules
end
section
open Go.RowKit Go.Maps bq aF
attribute [local irreducible] ak aU af aj
theorem xY {β:Bs} (A:Option Addr) (c:Nat) (d:List ByteArray) (hA:dR β A d) (hl:d.length<=1048576) :
    Spec Tryz.prog β 11 #[.slice A d.length c] [] (fun v l=>∃ B cap,v=.slice B d.length cap/\l=[.abs (aH 9 1 B d.length cap (gZ d))]):=by
 refine Spec.enter Tryz.func11 rfl Tryz.ntmps11 (Nat.le_of_ble_eq_true rfl) (fun R=>?_)
 refine SR (gK 1 [] [] ?_)
 refine NS (gN 2 (fun b1=>[(3,.slice (some ⟨b1,0,none⟩) (0) (0))]) (fun _=>[]) (fun _=>[]) (fun b1=>.blk b1 [] 9) (fun b1=>?_))
 refine NS (ak.mem (fun w hS=>hS.og (i:=1) (b:=b1) (cs:=[]) (e:=9) 1 0 (by kernel_rfl) rfl (by decide)) ?_)
 refine gK 2 [(5,.slice (some ⟨b1,0,none⟩) (0) (0)),(6,.slice A (d.length) (c))] [] ?_
 refine ak.append 1 (d:=(some 7)) (t:=35) (e:=9) (z:=.string ⟨#[]⟩) (size:=1) (bytes:=16) (n:=0) (cap:=0) (A:=some ⟨b1,0,none⟩) (xs:=[]) (s:=(.tmp 5)) (x:=(.tmp 6)) (ats:=#[35,35]) (A':=A) (m:=d.length) (c':=c) (news:=(gZ d)) (fun _=>by kernel_rfl) rfl (by kernel_rfl) (fun _=>by kernel_rfl) (fun _=>by kernel_rfl) Tryz.underlying35 (by kernel_rfl) rfl (by decide) (by rw [E8,Nat.mul_one]) (HM) (hA.src) (by unfold maxLen;omega) (by omega) (fun A2 c3=>?_)
 refine ak.dV 1 (p:=.abs (aH 9 1 A2 (0+d.length) c3 ([]++(gZ d)))) (p':=.abs (aH 9 1 A2 d.length c3 (gZ d))) (by kernel_rfl) (by rw [Nat.zero_add,List.nil_append]) ?_
 refine ak.slot 7 (.slice A2 (0+d.length) (c3)) (.slice A2 (d.length) (c3)) (fun _=>by kernel_rfl) (by rw [Nat.zero_add]) ?_
 refine gK 1 [(3,.slice A2 (d.length) (c3))] [] ?_
 refine NS (gK 2 [(2,.slice A2 (d.length) (c3))] [] ?_)
 refine NN (af.ret ?_)
 exact RT (.slice A2 (d.length) (c3)) [1,0] (⟨A2,c3,rfl,rfl⟩)
end
section
open Go.RowKit Go.Maps
noncomputable def gT (ns:List aI) (root:Int):Int:=
  if ¬ bB ns then 140 else if ¬ 0<=j4 ns root then 141 else if ¬ (nd ns (tgt ns root)).kind=2 then 173 else 0
theorem Dy {ns:List aI} {root:Int} (h:¬ bB ns):gT ns root=140:=if_pos h
theorem Bb {ns:List aI} {root:Int} (h:bB ns) (h1:¬ 0<=j4 ns root):gT ns root=141:=by
  unfold gT;rw [if_neg (fun e=>e h),if_pos h1]
theorem Bc {ns:List aI} {root:Int} (h:bB ns) (h1:0<=j4 ns root) (h2:¬ (nd ns (tgt ns root)).kind=2):gT ns root=173:=by
  unfold gT;rw [if_neg (fun e=>e h),if_neg (fun e=>e h1),if_pos h2]
theorem Fq {ns:List aI} {root:Int} (h:bB ns) (h1:0<=j4 ns root) (h2:(nd ns (tgt ns root)).kind=2):gT ns root=0:=by
  unfold gT;rw [if_neg (fun e=>e h),if_neg (fun e=>e h1),if_neg (fun e=>e h2)]
theorem Jx {ns:List aI} {root:Int} (h:gT ns root=0):bB ns/\0<=j4 ns root/\(nd ns (tgt ns root)).kind=2:=by
  unfold gT at h
  split at h
  ·cases h
  rename_i h1
  split at h
  ·cases h
  rename_i h2
  split at h
  ·cases h
  rename_i h3
  exact⟨Classical.not_not.1 h1,Classical.not_not.1 h2,Classical.not_not.1 h3⟩
end
section
open Go.RowKit
attribute [local irreducible] ak aU af aj
theorem QB {β:Bs} (A:Option Addr) (c:Nat) (ns:List aI) (L:Lay) (hG:aE β A ns L) (hB:Gp ns) (root:Int) (hz:mF root) :
    Spec Tryz.prog β 36 #[.agg #[.slice A ns.length c],vI root] [] (fun v l=>(∃ mb,v=.tuple #[.map (some mb),.pointer (some ⟨(ay A),ax A+(tgt ns root) * 10,none⟩),vI 0]/\gT ns root=0/\l=[.abs (aP Tryz.prog 3 mb (mf (bf A ns ns.length)) ns.length)])\/(∃ x y,v=.tuple #[x,y,vI (gT ns root)]/\¬ gT ns root=0/\l=[])):=by
 refine Spec.enter Tryz.func36 rfl Tryz.ntmps36 (Nat.le_of_ble_eq_true rfl) (fun R=>?_)
 refine SR (gN 4 (fun b1=>[(2,vP b1)]) (fun _=>[]) (fun _=>[]) (fun b1=>.blk b1 [.slice A (ns.length) (c)] 24) (fun b1=>?_))
 refine NS (gK 1 [(11,.agg #[.slice A (ns.length) (c)])] [(0,a_ 1 b1)] ?_)
 refine gL [] (JJ A c ns L hG hB.hl hB.hd hB.hwf hB.hnm) ?_
 rintro _ _ (⟨mb,rfl,hok,rfl⟩|⟨m,rfl,hok,rfl⟩)
 ·refine gK 5 [(7,.map (some mb)),(8,.bool true)] [] ?_
  refine NN (af.seq (SR (gK 2 [(16,.bool false)] [] ?_)))
  refine NN (CF (af.skip (NX (SR (gK 2 [(17,.map (some mb)),(18,vI (root))] [] ?_)))))
  by_cases hat:0<=j4 ns root
  ·have htl:=kW hat
   refine ak.dW 0 (d:=(some 19)) (t:=98) (K:=3) (E:=99) (b:=mb) (n:=ns.length) (f:=(mf (bf A ns ns.length))) (x:=(.tmp 17)) (ix:=(.tmp 18)) (key:=.int .i64 (root)) (z:=.pointer none) (kl:=(.int .i64 root)) (r:=(some (.pointer (some ⟨(ay A),ax A+(tgt ns root) * 10,none⟩)))) (fun _=>by kernel_rfl) (by kernel_rfl) (fun _=>by kernel_rfl) (fun _=>by kernel_rfl) dZ Tryz.underlying98 (fun _=>by kernel_rfl) (nP hz.1 hz.2) (KF hat htl.1) ?_
   refine gK 1 [(9,.pointer (some ⟨(ay A),ax A+(tgt ns root) * 10,none⟩))] [] ?_
   refine NN (af.seq (SR (gK 2 [(21,.bool false)] [] ?_)))
   refine NN (CF (af.skip (NX (af.seq (SR (gK 5 [(26,.bool (!(decide (((nd ns (tgt ns root)).kind:Int)=(2:Int)))))] [(3,p_ ⟨[.old (.int .i64 ((nd ns (tgt ns root)).kind))],none,none,none,none⟩ [(Rd β ⟨(ay A),ax A+(tgt ns root) * 10+1,none⟩ (.int .i64 ((nd ns (tgt ns root)).kind)))] ⟨aE.rd hG (i:=(tgt ns root)) (by omega) (j:=1) rfl,trivial⟩)] ?_))))))
   refine NN (af.fI (p:=((nd ns (tgt ns root)).kind:Int)=(2:Int)) (fun _=>by kernel_rfl) (fun pN=>?_) (fun pN=>?_))
   ·refine SR (gK 3 [(4,.map none),(5,.pointer none),(6,vI 173)] [] ?_)
    refine NN (af.ret (aj.aq ?_))
    exact RT (.tuple #[.map none,.pointer none,vI 173]) [1] (.inr ⟨_,_,by rw [Bc hok hat pN],by rw [Bc hok hat pN];decide,rfl⟩)
   refine af.skip (NX (SR (gK 5 [(4,.map (some mb)),(5,.pointer (some ⟨(ay A),ax A+(tgt ns root) * 10,none⟩)),(6,vI 0)] [] ?_)))
   refine NN (af.ret ?_)
   exact RT (.tuple #[.map (some mb),.pointer (some ⟨(ay A),ax A+(tgt ns root) * 10,none⟩),vI 0]) [0,1] (.inl ⟨mb,rfl,Fq hok hat pN,rfl⟩)
  refine ak.dW 0 (d:=(some 19)) (t:=98) (K:=3) (E:=99) (b:=mb) (n:=ns.length) (f:=(mf (bf A ns ns.length))) (x:=(.tmp 17)) (ix:=(.tmp 18)) (key:=.int .i64 (root)) (z:=.pointer none) (kl:=(.int .i64 root)) (r:=none) (fun _=>by kernel_rfl) (by kernel_rfl) (fun _=>by kernel_rfl) (fun _=>by kernel_rfl) dZ Tryz.underlying98 (fun _=>by kernel_rfl) (nP hz.1 hz.2) (JI hat) ?_
  refine gK 1 [(9,.pointer none)] [] ?_
  refine NN (af.seq (SR (gK 2 [(21,.bool true)] [] ?_)))
  refine NN (CT (SR (gK 3 [(4,.map none),(5,.pointer none),(6,vI 141)] [] ?_)))
  refine NN (af.ret (aj.aq ?_))
  exact RT (.tuple #[.map none,.pointer none,vI 141]) [1] (.inr ⟨_,_,by rw [Bb hok hat],by rw [Bb hok hat];decide,rfl⟩)
 refine gK 5 [(7,m),(8,.bool false)] [] ?_
 refine NN (af.seq (SR (gK 2 [(16,.bool true)] [] ?_)))
 refine NN (CT (SR (gK 3 [(4,.map none),(5,.pointer none),(6,vI 140)] [] ?_)))
 refine NN (af.ret (aj.aq ?_))
 exact RT (.tuple #[.map none,.pointer none,vI 140]) [0] (.inr ⟨_,_,by rw [Dy hok],by rw [Dy hok];decide,rfl⟩)
end
section
open Go.RowKit Go.Maps
def LZ (l:List ByteArray):List Value:=l.map Value.string
def xZ (l:List ByteArray) (i:Nat):ByteArray:=l.getD i ⟨#[]⟩
def qd (β:Bs) (A:Option Addr) (l:List ByteArray):Prop:=cM β A (LZ l)
section strs
variable {β β':Bs} {A:Option Addr} {l:List ByteArray}
theorem qd.get (h:qd β A l) {j:Nat} (hj:j < l.length):A=some ⟨ay A,ax A,none⟩/\Rd β ⟨ay A,ax A+j * 1,none⟩ (.string (xZ l j)):=by
  have h1:(LZ l)[j]?=some (.string (xZ l j)):=by
    rw [LZ,List.getElem?_map,getD_some (x:=⟨#[]⟩) hj];rfl
  have:=h j _ h1
  rw [Nat.mul_one]
  exact this
theorem qd.hd (h:qd β A l) {j:Nat} (hj:j < l.length):A=some ⟨ay A,ax A,none⟩:=(h.get hj).1
theorem qd.rd (h:qd β A l) {j:Nat} (hj:j < l.length):Rd β ⟨ay A,ax A+j * 1,none⟩ (.string (xZ l j)):=(h.get hj).2
end strs
theorem xB {l:List ByteArray} {i:Nat} (h:i < l.length):l.drop i=xZ l i::l.drop (i+1):=by
  rw [List.drop_eq_getElem_cons h]
  unfold xZ
  rw [List.getD_eq_getElem?_getD,List.getElem?_eq_getElem h]
  rfl
def Sorted (es:List gV):Prop:=∀ i j,i < j->j < es.length->fk (en es i).name (en es j).name < 0
theorem Ox {x y:ByteArray}:¬ je x y↔fk y x < 0:=by
  unfold je
  rw [vB,Lib.toList_data,Lib.toList_data]
  have h1:=@yc x.data.toList y.data.toList
  have h2:=@q8 x y
  have h3:=uq x y
  unfold fk at h2 h3 ⊢
  rw [Bool.or_eq_true,decide_eq_true_iff,← h1,← h2]
  omega
theorem zD {ns:List aI} {i:Nat} (h:∀ j,j < (nd ns i).ah.length->lY ns i j):Sorted (nd ns i).ah:=by
  intro a b hab hb
  induction b with
  | zero=>omega
  | succ b ih=>
    have h1:fk (ent ns i b).name (ent ns i (b+1)).name < 0:=Ox.1 (h (b+1) hb).ord
    rcases Nat.lt_succ_iff_lt_or_eq.1 hab with e|e
    ·exact pz (ih e (by omega)) (by unfold ent at h1;omega)
    rw [e];exact h1
theorem Sorted.inj {es:List gV} (h:Sorted es) {i j:Nat} (hi:i < es.length) (hj:j < es.length) (e:(en es i).name=(en es j).name):i=j:=by
  rcases Nat.lt_trichotomy i j with h1|h1|h1
  ·have:=h i j h1 hj;rw [e,oR] at this;omega
  ·exact h1
  have:=h j i h1 hi;rw [e,oR] at this;omega
def qZ (es:List gV) (p:ByteArray):Option Nat:=es.findIdx? (fun e=>decide (e.name=p))
theorem Dz {es:List gV} {p:ByteArray} {j:Nat} (hs:Sorted es) (hj:j < es.length) (e:(en es j).name=p):qZ es p=some j:=by
  unfold qZ
  rw [List.findIdx?_eq_some_iff_getElem]
  have hg:∀ k (hk:k < es.length),en es k=es[k]:=fun k hk=>by
    unfold en
    rw [List.getD_eq_getElem?_getD,List.getElem?_eq_getElem hk]
    rfl
  refine⟨hj,by rw [← hg j hj];simpa using e,fun k hk=>?_⟩
  rw [← hg k (by omega)]
  simp only [decide_eq_true_eq]
  intro e2
  have:=hs.inj (i:=k) (j:=j) (by omega) hj (e2.trans e.symm)
  omega
theorem DA {es:List gV} {p:ByteArray} (h:∀ j,j < es.length->¬ (en es j).name=p):qZ es p=none:=by
  unfold qZ
  rw [List.findIdx?_eq_none_iff]
  intro x hx
  obtain⟨j,hj,rfl⟩:=List.getElem_of_mem hx
  have:=h j hj
  unfold en at this
  rw [List.getD_eq_getElem?_getD,List.getElem?_eq_getElem hj] at this
  simpa using this
noncomputable def fL (ns:List aI):Nat->List ByteArray->Int×Int
  | k,[]=>((nd ns k).id,0)
  | k,p::r=>if (nd ns k).kind=3 then (0,174) else if (nd ns k).kind=1 then (0,173) else
    match qZ (nd ns k).ah p with
    | none=>(0,170)
    | some j=>fL ns (tgt ns (en (nd ns k).ah j).id) r
noncomputable def eT (ns:List aI) (root:Int) (ps:List ByteArray):Int×Int:=if gT ns root=0 then fL ns (tgt ns root) ps else (0,gT ns root)
section find
variable {ns:List aI} {k i:Nat} {ps:List ByteArray}
theorem Oy (h:ps.length<=i):fL ns k (ps.drop i)=((nd ns k).id,0):=by
  rw [List.drop_eq_nil_of_le h];rfl
theorem Oz (h:i < ps.length) (h3:(nd ns k).kind=3):fL ns k (ps.drop i)=(0,174):=by
  rw [xB h];unfold fL;rw [if_pos h3]
theorem L5 (h:i < ps.length) (h3:(nd ns k).kind=1):fL ns k (ps.drop i)=(0,173):=by
  rw [xB h];unfold fL;rw [if_neg (by omega),if_pos h3]
theorem L6 (h:i < ps.length) (h3:¬ (nd ns k).kind=3) (h1:¬ (nd ns k).kind=1) (hf:qZ (nd ns k).ah (xZ ps i)=none):fL ns k (ps.drop i)=(0,170):=by
  rw [xB h];unfold fL;rw [if_neg h3,if_neg h1,hf]
theorem L7 {j:Nat} (h:i < ps.length) (h3:¬ (nd ns k).kind=3) (h1:¬ (nd ns k).kind=1) (hf:qZ (nd ns k).ah (xZ ps i)=some j):fL ns k (ps.drop i)=fL ns (tgt ns (en (nd ns k).ah j).id) (ps.drop (i+1)):=by
  rw [xB h]
  conv=>lhs;unfold fL
  rw [if_neg h3,if_neg h1,hf]
theorem BX {root:Int} (h:gT ns root=0):eT ns root ps=fL ns (tgt ns root) ps:=if_pos h
theorem OA {root:Int} (h:¬ gT ns root=0):eT ns root ps=(0,gT ns root):=if_neg h
end find
end
end Go.Proofs.YtiehgnlnofhbaaaGreatDoor
section
namespace Go.Proofs
open Go.Shelf
def Tryz.lays106_ren:Go.Shelf.Ren:=⟨fun|106=>44|213=>72|265=>91|n=>n,fun|9=>9|3=>3|n=>n,fun|n=>n⟩
theorem Tryz.lays106:Go.Proofs.Lays.n106 Tryz.prog Tryz.lays106_ren:={
  mixed:=by kernel_rfl
  f106:=Tryz.func44.trans (congrArg some (by kernel_rfl))
  f213:=Tryz.func72.trans (congrArg some (by kernel_rfl))
  f265:=Tryz.func91.trans (congrArg some (by kernel_rfl))
  t3:=Tryz.underlying3
  a3:=Tryz.isAgg3
  z3:=Tryz.sizeOf3
  v3:=Tryz.zeroValue3
  t9:=Tryz.underlying9
  a9:=Tryz.isAgg9
  z9:=Tryz.sizeOf9
  v9:=Tryz.zeroValue9 }
open Go.RowKit in
theorem Tryz.strings_Compare (a b:ByteArray) (w:World) :
    Calls Tryz.prog 44 #[.string a,.string b] w fun e w'=>e=.returned (.int .i64 (Lib.compareBytes a.data.toList b.data.toList))/\w'=w:=Any.strings_Compare Tryz.lays106 a b w
end Go.Proofs
end
namespace Go.Proofs.YtiehgnlnofhbaaaGreatDoor
section
open Go.RowKit Go.Maps
theorem L8 {β:Bs} (a b:ByteArray):Spec Tryz.prog β 44 #[.string a,.string b] [] (fun v l=>v=.int .i64 (fk a b)/\l=[]):=
  Spec.XT fun w _=>(Tryz.strings_Compare a b w).mono fun _ _ ⟨he,hw⟩=>⟨_,he,⟨rfl,rfl⟩,hw ▸ Keeps.refl _ _⟩
def Found (es:List gV) (p:ByteArray) (v:Value):Prop:=(∃ k:Nat,k < es.length/\(en es k).name=p/\v=.tuple #[.int .i64 (k:Int),.bool true])\/((∀ j,j < es.length->¬ (en es j).name=p)/\∃ z,v=.tuple #[.int .i64 z,.bool false])
section search
variable {es:List gV} {p:ByteArray} {i:Nat}
theorem Sorted.low (hs:Sorted es) (hi:i < es.length) (hc:fk (en es i).name p < 0):∀ t,t < i+1->fk (en es t).name p < 0:=fun t ht=>by
  rcases Nat.lt_succ_iff_lt_or_eq.1 ht with h|h
  ·exact pz (hs t i h hi) (by omega)
  rw [h];exact hc
theorem Sorted.high (hs:Sorted es) (hc:¬ fk (en es i).name p < 0):∀ t,i<=t->t < es.length->0<=fk (en es t).name p:=fun t ht hl=>by
  rcases Nat.eq_or_lt_of_le ht with h|h
  ·rw [← h];omega
  have h1:=hs i t h hl
  apply Int.not_lt.1
  intro h2
  exact hc (pz h1 (by omega))
theorem SE (hlo:∀ t,t < i->fk (en es t).name p < 0) (hi:es.length<=i):Found es p (.tuple #[.int .i64 ((i:Nat):Int),.bool false]):=
  .inr ⟨fun j hj e=>by have:=hlo j (by omega);rw [e,oR] at this;omega,i,rfl⟩
theorem SF (hs:Sorted es) (hi:i < es.length) (hlo:∀ t,t < i->fk (en es t).name p < 0) (hhi:∀ t,i<=t->t < es.length->0<=fk (en es t).name p):Found es p (.tuple #[.int .i64 ((i:Nat):Int),.bool (decide (fk (en es i).name p=0))]):=by
  by_cases he:fk (en es i).name p=0
  ·exact .inl ⟨i,hi,q8.1 he,by rw [decide_eq_true he]⟩
  refine .inr ⟨fun j hj e=>?_,i,by rw [decide_eq_false he]⟩
  rcases Nat.lt_trichotomy j i with h|h|h
  ·have:=hlo j h;rw [e,oR] at this;omega
  ·subst h;exact he (q8.2 e)
  have h1:=hs i j h hj
  rw [e] at h1
  have:=hhi i (Nat.le_refl _) hi
  omega
end search
end
section
open Go.RowKit Go.Maps bq aF
attribute [local irreducible] ak aU af aj
theorem Ku {β:Bs} (e:gV) (p:ByteArray):Spec Tryz.prog β 43 #[.agg #[.string e.name,vI (e.id)],.string p] [] (fun v l=>v=vI (fk e.name p)/\l=[]):=by
 refine Spec.enter Tryz.func43 rfl Tryz.ntmps43 (Nat.le_of_ble_eq_true rfl) (fun R=>?_)
 refine SR (gN 2 (fun b1=>[(2,vP b1)]) (fun _=>[]) (fun _=>[]) (fun b1=>.blk b1 [.string e.name,vI (e.id)] 110) (fun b1=>?_))
 refine NS (gK 3 [(6,.string e.name),(7,.string p)] [(1,a_ 1 b1)] ?_)
 refine gL [] (L8 e.name p) ?_
 rintro _ _ ⟨rfl,rfl⟩
 refine gK 1 [(4,vI ((fk e.name p)))] [] ?_
 refine NN (af.ret ?_)
 exact RT (vI ((fk e.name p))) [0] (⟨rfl,rfl⟩)
theorem L9 {β:Bs} (A:Option Addr) (c:Nat) (es:List gV) (p:ByteArray) (hE:cO β A es) (hl:es.length<=1048576) (hs:Sorted es) :
    Spec Tryz.prog β 42 #[.slice A es.length c,.string p,.func (.func 43) #[] #[]] [] (fun v l=>Found es p v/\l=[]):=by
 refine Spec.enter Tryz.func42 rfl Tryz.ntmps42 (Nat.le_of_ble_eq_true rfl) (fun R=>?_)
 refine SR (gK 2 [] [] ?_)
 refine NS (gK 3 [(8,vI ↑es.length)] [] ?_)
 refine NS (gK 3 [(9,vI 0),(10,vI ↑es.length)] [] ?_)
 refine NN (af.seq (af.block ?_))
 refine af.loop (ι:=Nat×Nat) (fun ((i,j):Nat×Nat)=>(i<=j)/\(j<=es.length)/\(∀ t,t < i->fk (en es t).name p < 0)/\(∀ t,j<=t->t < es.length->0<=fk (en es t).name p)) (fun ((i,j):Nat×Nat)=>j - i) (fun ((i,j):Nat×Nat)=>[(0,.slice A (es.length) (c)),(1,.string p),(2,.func (.func 43) #[] #[]),(8,vI ↑es.length),(9,vI ↑i),(10,vI ↑j)]) (fun ((i,j):Nat×Nat)=>[.abs R]) (0,es.length) (idx:=[0,1,2,8,9,10]) (pk:=[0]) (show (0<=es.length)/\(es.length<=es.length)/\(∀ t,t < 0->fk (en es t).name p < 0)/\(∀ t,es.length<=t->t < es.length->0<=fk (en es t).name p) from ⟨Nat.zero_le _,Nat.le_refl _,fun t h=>absurd h (Nat.not_lt_zero t),fun t h1 h2=>by omega⟩) (fun _=>by kernel_rfl) rfl (by kernel_rfl) ?_
 rintro⟨i,j⟩ ⟨hij,hj,hlo,hhi⟩
 show af _ _ _ _ [(0,.slice A (es.length) (c)),(1,.string p),(2,.func (.func 43) #[] #[]),(8,vI ↑es.length),(9,vI ↑i),(10,vI ↑j)] [.abs R] _
 refine af.seq (SR (gK 3 [(17,.bool (decide ((((i:Nat):Int):Int) < (((j:Nat):Int):Int))))] [] ?_))
 refine NN (af.aW (p:=(((i:Nat):Int):Int) < (((j:Nat):Int):Int)) (fun _=>by kernel_rfl) (fun Mn=>?_) (fun Mn=>?_))
 ·refine af.skip (NX (af.block (SR ?_)))
  refine gK 7 [(11,vI ↑((i+j) / 2))] [(2,p_ ⟨[],none,none,none,some (vI ↑(i+j))⟩ [(Value.int .i64 (IntKind.wrap .i64 (((i:Nat):Int)+((j:Nat):Int))))=(.int .i64 ↑(i+j))] ⟨bC (by omega) (by omega) (by omega),trivial⟩),(3,p_ ⟨[],none,none,none,some (.int .u64 (((i+j:Nat):Int)))⟩ [(Value.int .u64 (IntKind.wrap .u64 ((i+j:Nat):Int)))=(.int .u64 (((i+j:Nat):Int)))] ⟨Vg (by omega) (by omega),trivial⟩),(4,p_ ⟨[],none,none,none,some (.int .u64 ((((i+j) / 2:Nat):Int)))⟩ [(Value.int .u64 (Int.fdiv ((i+j:Nat):Int) (2 ^ 1)))=(.int .u64 ((((i+j) / 2:Nat):Int)))] ⟨SN,trivial⟩),(5,wI (((i+j) / 2:Nat):Int) ((((i+j) / 2:Nat):Int)))] ?_
  refine NS (gK 6 [(24,.func (.func 43) #[] #[]),(28,.agg #[.string (en es ((i+j) / 2)).name,vI ((en es ((i+j) / 2)).id)]),(29,.string p)] [(3,p_ ⟨[],some ((i+j) / 2),none,some ⟨(ay A),ax A,none⟩,none⟩ [(((i+j) / 2:Nat):Int)=(((i+j) / 2:Nat):Int),(i+j) / 2 < es.length,(⟨(ay A),ax A,none⟩:Addr).spot=none,(A:Option Addr)=some ⟨(ay A),ax A,none⟩] ⟨rfl,by omega,rfl,cO.hd hE (i:=(i+j) / 2) (by omega),trivial⟩),(4,p_ ⟨[.old (.string (en es ((i+j) / 2)).name),.old (.int .i64 ((en es ((i+j) / 2)).id))],none,none,none,none⟩ [(Rd β ⟨(ay A),ax A+((i+j) / 2) * 2+1,none⟩ (.int .i64 ((en es ((i+j) / 2)).id))),(Rd β ⟨(ay A),ax A+((i+j) / 2) * 2,none⟩ (.string (en es ((i+j) / 2)).name))] ⟨cO.rd hE (i:=(i+j) / 2) (by omega) (j:=1) rfl,cO.rd hE (i:=(i+j) / 2) (by omega) (j:=0) rfl,trivial⟩)] ?_)
  refine gL [] (Ku (en es ((i+j) / 2)) p) ?_
  rintro _ _ ⟨rfl,rfl⟩
  refine gK 1 [(31,.bool (decide (((fk (en es ((i+j) / 2)).name p):Int) < (0:Int))))] [] ?_
  refine NN (af.aW (p:=((fk (en es ((i+j) / 2)).name p):Int) < (0:Int)) (fun _=>by kernel_rfl) (fun Av=>?_) (fun Av=>?_))
  ·refine af.region (gK 3 [(9,vI ↑(((i+j) / 2)+1))] [(1,p_ ⟨[],none,none,none,some (vI ↑(((i+j) / 2)+1))⟩ [(Value.int .i64 (IntKind.wrap .i64 ((((i+j) / 2:Nat):Int)+1)))=(.int .i64 ↑(((i+j) / 2)+1))] ⟨bC (by omega) (by omega) (by omega),trivial⟩)] ?_)
   refine NL (aj.aO ?_)
   exact aj.turn ((((i+j) / 2)+1),j) (idx:=[0,1,2,8,9,10]) (pk:=[0]) (show (((((i+j) / 2)+1))<=j)/\(j<=es.length)/\(∀ t,t < ((((i+j) / 2)+1))->fk (en es t).name p < 0)/\(∀ t,j<=t->t < es.length->0<=fk (en es t).name p) from ⟨by omega,by omega,hs.low (by omega) Av,hhi⟩) (by show j - ((((i+j) / 2)+1)) < j - i;omega) (fun _=>by kernel_rfl) rfl (by kernel_rfl)
  refine af.region (gK 2 [(10,vI ↑((i+j) / 2))] [] ?_)
  refine NL (aj.aO ?_)
  exact aj.turn (i,((i+j) / 2)) (idx:=[0,1,2,8,9,10]) (pk:=[0]) (show (i<=(((i+j) / 2)))/\((((i+j) / 2))<=es.length)/\(∀ t,t < i->fk (en es t).name p < 0)/\(∀ t,(((i+j) / 2))<=t->t < es.length->0<=fk (en es t).name p) from ⟨by omega,by omega,hlo,hs.high Av⟩) (by show (((i+j) / 2)) - i < j - i;omega) (fun _=>by kernel_rfl) rfl (by kernel_rfl)
 refine af.exit (aj.aV (aj.aV (aj.cL (NX (SR ?_)))))
 refine gK 5 [(35,vI ↑i),(39,.bool (decide ((((i:Nat):Int):Int) < (((es.length:Nat):Int):Int))))] [] ?_
 refine ak.iE 39 ((((i:Nat):Int):Int) < (((es.length:Nat):Int):Int)) (fun _=>by kernel_rfl) (fun iV=>?_) (fun iV=>?_)
 ·refine gK 6 [(40,.func (.func 43) #[] #[]),(44,.agg #[.string (en es i).name,vI ((en es i).id)]),(45,.string p)] [(3,p_ ⟨[],some i,none,some ⟨(ay A),ax A,none⟩,none⟩ [((i:Nat):Int)=((i:Nat):Int),i < es.length,(⟨(ay A),ax A,none⟩:Addr).spot=none,(A:Option Addr)=some ⟨(ay A),ax A,none⟩] ⟨rfl,by omega,rfl,cO.hd hE (i:=i) (by omega),trivial⟩),(4,p_ ⟨[.old (.string (en es i).name),.old (.int .i64 ((en es i).id))],none,none,none,none⟩ [(Rd β ⟨(ay A),ax A+i * 2+1,none⟩ (.int .i64 ((en es i).id))),(Rd β ⟨(ay A),ax A+i * 2,none⟩ (.string (en es i).name))] ⟨cO.rd hE (i:=i) (by omega) (j:=1) rfl,cO.rd hE (i:=i) (by omega) (j:=0) rfl,trivial⟩)] ?_
  refine gL [] (Ku (en es i) p) ?_
  rintro _ _ ⟨rfl,rfl⟩
  refine gK 4 [(6,vI ↑i),(7,.bool (decide (((fk (en es i).name p):Int)=(0:Int))))] [] ?_
  refine NN (af.ret ?_)
  exact RT (.tuple #[vI ↑i,.bool (decide (((fk (en es i).name p):Int)=(0:Int)))]) [0] (⟨SF hs (by omega) hlo (fun t h1 h2=>hhi t (by omega) h2),rfl⟩)
 refine gK 11 [(6,vI ↑i),(7,.bool false)] [] ?_
 refine NN (af.ret ?_)
 exact RT (.tuple #[vI ↑i,.bool false]) [0] (⟨SE hlo (by omega),rfl⟩)
theorem Kv {β:Bs} (A:Option Addr) (c:Nat) (ns:List aI) (L:Lay) (hG:aE β A ns L) (hB:Gp ns) (root:Int) (hz:mF root) (F:Option Addr) (cF:Nat) (ps:List ByteArray) (hP:qd β F ps) (ZN:ps.length<=8388608) :
    Spec Tryz.prog β 22 #[.agg #[.slice A ns.length c],vI root,.slice F ps.length cF] [] (fun v l=>v=.tuple #[vI (eT ns root ps).1,vI (eT ns root ps).2]/\l=[]):=by
 refine Spec.enter Tryz.func22 rfl Tryz.ntmps22 (Nat.le_of_ble_eq_true rfl) (fun R=>?_)
 refine SR (gN 3 (fun b2=>[(3,vP b2)]) (fun _=>[]) (fun _=>[]) (fun b2=>.blk b2 [.slice A (ns.length) (c)] 24) (fun b2=>?_))
 refine NS (gK 2 [(16,.agg #[.slice A (ns.length) (c)]),(17,vI (root))] [(0,a_ 1 b2)] ?_)
 refine gL [] (QB A c ns L hG hB root hz) ?_
 rintro _ _ (⟨mb,rfl,hbg,rfl⟩|⟨x,y,rfl,hbg,rfl⟩)
 ·obtain⟨hok,hat,hkd⟩:=Jx hbg
  have htl:=kW hat
  refine gK 7 [(8,.map (some mb)),(9,.pointer (some ⟨(ay A),ax A+(tgt ns root) * 10,none⟩)),(10,vI 0)] [] ?_
  refine NN (af.seq (SR (gK 2 [(23,.bool false)] [] ?_)))
  refine NN (CF (af.skip (NX (af.seq (SR (gK 3 [(25,.slice F (ps.length) (cF)),(26,vI ↑ps.length),(27,vI 0)] [] ?_))))))
  refine NN (af.block ?_)
  refine af.loop (ι:=Nat×Nat) (fun ((k,i):Nat×Nat)=>(k < ns.length)/\(i<=ps.length)/\(eT ns root ps=fL ns k (ps.drop i))) (fun ((k,i):Nat×Nat)=>ps.length - i) (fun ((k,i):Nat×Nat)=>[(8,.map (some mb)),(9,.pointer (some ⟨(ay A),ax A+k * 10,none⟩)),(25,.slice F (ps.length) (cF)),(26,vI ↑ps.length),(27,vI ↑i)]) (fun ((k,i):Nat×Nat)=>[.abs (aP Tryz.prog 3 mb (mf (bf A ns ns.length)) ns.length),.abs R]) ((tgt ns root),0) (idx:=[8,9,25,26,27]) (pk:=[0,1]) (show (((tgt ns root)) < ns.length)/\(0<=ps.length)/\(eT ns root ps=fL ns ((tgt ns root)) (ps.drop 0)) from ⟨htl.1,Nat.zero_le _,BX hbg⟩) (fun _=>by kernel_rfl) rfl (by kernel_rfl) ?_
  rintro⟨k,i⟩ ⟨hk,hi,hf⟩
  show af _ _ _ _ [(8,.map (some mb)),(9,.pointer (some ⟨(ay A),ax A+k * 10,none⟩)),(25,.slice F (ps.length) (cF)),(26,vI ↑ps.length),(27,vI ↑i)] [.abs (aP Tryz.prog 3 mb (mf (bf A ns ns.length)) ns.length),.abs R] _
  refine SR (gK 1 [(28,.bool (decide ((((i:Nat):Int):Int) < (((ps.length:Nat):Int):Int))))] [] ?_)
  refine NN (af.seq (af.aW (p:=(((i:Nat):Int):Int) < (((ps.length:Nat):Int):Int)) (fun _=>by kernel_rfl) (fun Fb=>?_) (fun Fb=>?_)))
  ·refine af.skip (NX (af.seq (af.block (SR ?_))))
   refine gK 3 [(12,.string (xZ ps i))] [(0,p_ ⟨[],some i,none,some ⟨(ay F),ax F,none⟩,none⟩ [((i:Nat):Int)=((i:Nat):Int),i < ps.length,(⟨(ay F),ax F,none⟩:Addr).spot=none,(F:Option Addr)=some ⟨(ay F),ax F,none⟩] ⟨rfl,by omega,rfl,qd.hd hP (j:=i) (by omega),trivial⟩),(1,p_ ⟨[.old (.string (xZ ps i))],none,none,none,none⟩ [(Rd β ⟨(ay F),ax F+i * 1,none⟩ (.string (xZ ps i)))] ⟨qd.rd hP (by omega),trivial⟩)] ?_
   refine NN (af.seq (SR (gK 4 [(34,vI ((nd ns k).kind))] [(3,p_ ⟨[.old (.int .i64 ((nd ns k).kind))],none,none,none,none⟩ [(Rd β ⟨(ay A),ax A+k * 10+1,none⟩ (.int .i64 ((nd ns k).kind)))] ⟨aE.rd hG (i:=k) (by omega) (j:=1) rfl,trivial⟩)] ?_)))
   refine NN (af.block (SR ?_))
   refine gK 2 [(35,.bool (decide (((nd ns k).kind:Int)=(3:Int))))] [] ?_
   refine NN (af.aW (p:=((nd ns k).kind:Int)=(3:Int)) (fun _=>by kernel_rfl) (fun uW=>?_) (fun uW=>?_))
   ·refine SR (gK 2 [(6,vI 0),(7,vI 174)] [] ?_)
    refine NN (af.ret (aj.aK (aj.aq (aj.aK (aj.aq (aj.aq (aj.aK (aj.aq ?_))))))))
    exact RT (.tuple #[vI 0,vI 174]) [1] (⟨by rw [hf,Oz (by omega) uW],rfl⟩)
   refine SR (gK 2 [(37,.bool (decide (((nd ns k).kind:Int)=(1:Int))))] [] ?_)
   refine NN (af.aW (p:=((nd ns k).kind:Int)=(1:Int)) (fun _=>by kernel_rfl) (fun RH=>?_) (fun RH=>?_))
   ·refine SR (gK 2 [(6,vI 0),(7,vI 173)] [] ?_)
    refine NN (af.ret (aj.aK (aj.aq (aj.aK (aj.aq (aj.aq (aj.aK (aj.aq ?_))))))))
    exact RT (.tuple #[vI 0,vI 173]) [1] (⟨by rw [hf,L5 (by omega) RH],rfl⟩)
   refine af.skip (aj.aO (NX (SR ?_)))
   refine gK 5 [(43,.slice (L.eA k) ((nd ns k).ah.length) ((L.eC k))),(44,.string (xZ ps i))] [(3,p_ ⟨[.old (.slice (L.eA k) ((nd ns k).ah.length) ((L.eC k)))],none,none,none,none⟩ [(Rd β ⟨(ay A),ax A+k * 10+9,none⟩ (.slice (L.eA k) ((nd ns k).ah.length) ((L.eC k))))] ⟨aE.rd hG (i:=k) (by omega) (j:=9) rfl,trivial⟩)] ?_
   refine gL [] (L9 (L.eA k) (L.eC k) (nd ns k).ah (xZ ps i) (hG.ah k hk) (hB.hd k hk).2 (zD (hok.ah k hk))) ?_
   rintro _ _ ⟨(⟨q,hq,YJ,rfl⟩|⟨hno,z,rfl⟩),rfl⟩
   ·have U3:=(hok.ah k hk q hq).at_
    have U4:=kW U3
    refine gK 5 [(13,vI ↑q),(14,.bool true)] [] ?_
    refine NN (af.seq (SR (gK 2 [(49,.bool false)] [] ?_)))
    refine NN (CF (af.skip (NX (af.region (gK 9 [(50,.map (some mb)),(58,vI ((en (nd ns k).ah q).id))] [(4,p_ ⟨[.old (.slice (L.eA k) ((nd ns k).ah.length) ((L.eC k)))],none,none,none,none⟩ [(Rd β ⟨(ay A),ax A+k * 10+9,none⟩ (.slice (L.eA k) ((nd ns k).ah.length) ((L.eC k))))] ⟨aE.rd hG (i:=k) (by omega) (j:=9) rfl,trivial⟩),(6,p_ ⟨[],some q,none,some ⟨(ay (L.eA k)),ax (L.eA k),none⟩,none⟩ [((q:Nat):Int)=((q:Nat):Int),q < (nd ns k).ah.length,(⟨(ay (L.eA k)),ax (L.eA k),none⟩:Addr).spot=none,((L.eA k):Option Addr)=some ⟨(ay (L.eA k)),ax (L.eA k),none⟩] ⟨rfl,hq,rfl,cO.hd (hG.ah k (by omega)) (i:=q) (by omega),trivial⟩),(8,p_ ⟨[.old (.int .i64 ((en (nd ns k).ah q).id))],none,none,none,none⟩ [(Rd β ⟨(ay (L.eA k)),ax (L.eA k)+q * 2+1,none⟩ (.int .i64 ((en (nd ns k).ah q).id)))] ⟨cO.rd (hG.ah k (by omega)) (i:=q) (by omega) (j:=1) rfl,trivial⟩)] ?_)))))
    refine ak.dW 0 (d:=(some 59)) (t:=98) (K:=3) (E:=99) (b:=mb) (n:=ns.length) (f:=(mf (bf A ns ns.length))) (x:=(.tmp 50)) (ix:=(.tmp 58)) (key:=.int .i64 ((en (nd ns k).ah q).id)) (z:=.pointer none) (kl:=(.int .i64 (en (nd ns k).ah q).id)) (r:=(some (.pointer (some ⟨(ay A),ax A+(tgt ns (en (nd ns k).ah q).id) * 10,none⟩)))) (fun _=>by kernel_rfl) (by kernel_rfl) (fun _=>by kernel_rfl) (fun _=>by kernel_rfl) dZ Tryz.underlying98 (fun _=>by kernel_rfl) (nP (hB.hwf k hk q hq).1 (hB.hwf k hk q hq).2) (KF U3 U4.1) ?_
    refine gK 1 [(9,.pointer (some ⟨(ay A),ax A+(tgt ns (en (nd ns k).ah q).id) * 10,none⟩))] [] ?_
    refine NL (aj.aO (NX (af.region ?_)))
    refine gK 2 [(27,vI ↑(i+1))] [(0,p_ ⟨[],none,none,none,some (vI ↑(i+1))⟩ [(Value.int .i64 (IntKind.wrap .i64 (((i:Nat):Int)+1)))=(.int .i64 ↑(i+1))] ⟨bC (by omega) (by omega) (by omega),trivial⟩)] ?_
    refine NL ?_
    exact aj.turn ((tgt ns (en (nd ns k).ah q).id),(i+1)) (idx:=[8,9,25,26,27]) (pk:=[0,1]) (show (((tgt ns (en (nd ns k).ah q).id)) < ns.length)/\(((i+1))<=ps.length)/\(eT ns root ps=fL ns ((tgt ns (en (nd ns k).ah q).id)) (ps.drop ((i+1)))) from ⟨U4.1,by omega,by rw [hf,L7 (by omega) uW RH (Dz (zD (hok.ah k hk)) hq YJ)]⟩) (by show ps.length - ((i+1)) < ps.length - i;omega) (fun _=>by kernel_rfl) rfl (by kernel_rfl)
   refine gK 5 [(13,vI (z)),(14,.bool false)] [] ?_
   refine NN (af.seq (SR (gK 2 [(49,.bool true)] [] ?_)))
   refine NN (CT (SR (gK 2 [(6,vI 0),(7,vI 170)] [] ?_)))
   refine NN (af.ret (aj.aq (aj.aK (aj.aq (aj.aq (aj.aK (aj.aq ?_)))))))
   exact RT (.tuple #[vI 0,vI 170]) [1] (⟨by rw [hf,L6 (by omega) uW RH (DA hno)],rfl⟩)
  refine af.exit (aj.aV (aj.aV (aj.cL (NX (SR ?_)))))
  refine gK 6 [(6,vI ((nd ns k).id)),(7,vI 0)] [(3,p_ ⟨[.old (.int .i64 ((nd ns k).id))],none,none,none,none⟩ [(Rd β ⟨(ay A),ax A+k * 10,none⟩ (.int .i64 ((nd ns k).id)))] ⟨aE.rd hG (i:=k) (by omega) (j:=0) rfl,trivial⟩)] ?_
  refine NN (af.ret ?_)
  exact RT (.tuple #[vI ((nd ns k).id),vI 0]) [1] (⟨by rw [hf,Oy (by omega)],rfl⟩)
 refine gK 7 [(8,x),(9,y),(10,vI ((gT ns root)))] [] ?_
 refine NN (af.seq (SR (gK 2 [(23,.bool (!(decide (((gT ns root):Int)=(0:Int)))))] [] ?_)))
 refine NN (af.fI (p:=((gT ns root):Int)=(0:Int)) (fun _=>by kernel_rfl) (fun h23=>?_) (fun h23=>?_))
 ·refine SR (gK 3 [(6,vI 0),(7,vI ((gT ns root)))] [] ?_)
  refine NN (af.ret (aj.aq ?_))
  exact RT (.tuple #[vI 0,vI ((gT ns root))]) [0] (⟨by rw [OA hbg],rfl⟩)
 exact absurd h23 hbg
end
section
open Go.RowKit Go.Maps bq aF
section f
variable {S S2:aJ} {O:bU} {k:Nat} {t:Th} {name p:ByteArray} {i z:Nat} {ns:List aI} {cur:Int} {d:Nat}
theorem Bd {f:Int->Int} {id:Int}:pU (aN O k (fun o=>{ o with opens:=f o.opens })) id t=pU O id t:=by
  have h:∀ {α:Type} (g:aY->α),(∀ o n,g { o with opens:=n }=g o)->∀ x,g (obj (aN O k (fun o=>{ o with opens:=f o.opens })) x)=g (obj O x):=fun g hg x=>dH (fun o=>hg o _)
  have he:jI (aN O k (fun o=>{ o with opens:=f o.opens }))=jI O:=funext fun e=>by
    unfold jI;rw [h aY.id (fun _ _=>rfl)]
  unfold pU
  rw [he,h aY.mode (fun _ _=>rfl),h aY.uid (fun _ _=>rfl),h aY.gid (fun _ _=>rfl),h aY.sec (fun _ _=>rfl),h aY.nano (fun _ _=>rfl),h aY.data (fun _ _=>rfl),h aY.target (fun _ _=>rfl),h aY.ah (fun _ _=>rfl)]
structure Still (ns:List aI) (S:aJ):Prop where
  inv:Inv S
  g:av S=ns
  ng:∀ t,Live S.idx t->(obj S.O t.k).gone=false
theorem Still.open_ (h:Still ns S) (ho:S2={ S with O:=aN S.O k (fun o=>{ o with opens:=o.opens+1 }),us:=S2.us,aD:=S2.aD }) (hI:Inv S2):Still ns S2:=by
  refine⟨hI,?_,fun t ht=>?_⟩
  ·rw [ho]
   show S.idx.map _=ns
   rw [← h.g]
   exact List.map_congr_left (fun p _=>Bd (f:=(·+1)))
  rw [ho] at ht ⊢
  exact Eq.trans (dH (g:=aY.gone) (fun _=>rfl)) (h.ng t ht)
theorem Still.close (h:Still ns S) (hg:aF.get S.us cur=some t):∃ S2,bI S (dU cur)=(S2,{ dU cur with code:=0 })/\Still ns S2/\S2.us=del cur S.us/\S2.idx=S.idx:=by
  have hd:=Ie (S:=S) (c:=dU cur) (t:=t) rfl hg
  have hI:=h.inv.bI (dU cur)
  rw [hd] at hI
  have NZ:(obj (iy S.O t.k) t.k).gone=false:=Eq.trans (dH (g:=aY.gone) (fun _=>rfl)) (h.ng t (h.inv.us _ _ hg).1)
  have hfi:iP (iy S.O t.k) S.idx t=S.idx:=if_neg (fun q=>by have:=q.1;rw [NZ] at this;cases this)
  refine⟨_,hd,⟨hI,?_,fun u hu=>?_⟩,rfl,hfi⟩
  ·show (iP (iy S.O t.k) S.idx t).map _=ns
   rw [hfi,← h.g]
   exact List.map_congr_left (fun p _=>Bd (f:=(· - 1)))
  have hu:Live (iP (iy S.O t.k) S.idx t) u:=hu
  rw [hfi] at hu
  exact Eq.trans (dH (g:=aY.gone) (fun _=>rfl)) (h.ng u hu)
theorem RI (hi:i < S.idx.length) {j:Nat} (hj:j < (obj S.O (bT S i).k).ah.length):(en (nd (av S) i).ah j).name=fB (obj S.O (bT S i).k).ah j/\j < (nd (av S) i).ah.length:=by
  have h1:j < (nd (av S) i).ah.length:=by
    rw [iC hi]
    show j < ((obj S.O (bT S i).k).ah.map _).length
    rw [List.length_map];exact hj
  have h2:=(rU hi h1).2
  exact⟨congrArg gV.name h2,h1⟩
theorem SG (hi:i < S.idx.length) (h:aT p (obj S.O (bT S i).k).ah=none):qZ (nd (av S) i).ah p=none:=by
  refine DA (fun j hj e=>?_)
  have hj2:=(rU hi hj).1
  rw [(RI hi hj2).1] at e
  exact sG.1 h _ (List.mem_of_getElem? (pV hj2)) e
theorem SH (hI:Inv0 S) (hi:i < S.idx.length) (h:aT p (obj S.O (bT S i).k).ah=some t):∃ j a,qZ (nd (av S) i).ah p=some j/\a < S.idx.length/\bT S a=t/\tgt (av S) (en (nd (av S) i).ah j).id=a:=by
  obtain⟨j,hj,e1⟩:=List.getElem_of_mem (lN h)
  have hes:=pV hj
  rw [List.getElem?_eq_getElem hj,e1] at hes
  injection hes with hes
  obtain⟨h1,h2⟩:=RI hi hj
  obtain⟨a,ha,h3,h4,_⟩:=rV hI hi h2
  refine⟨j,a,Dz (zD (hI.Kj.ah i (by rw [eX];exact hi))) h2 (h1.trans (congrArg Prod.fst hes).symm),ha,?_,h4⟩
  rw [h3];exact (congrArg Prod.snd hes).symm
theorem Ma (h:Still ns S) (hg:aF.get S.us cur=some t) (hk:t.kind=2) (hz:z < S.idx.length) (ht:bT S z=t) (name:ByteArray) :
    (∃ c,bI S (eP cur name)=(S,{ eP cur name with code:=c })/\c≠0/\((c=175\/c=130\/c=95)\/∀ r,(fL ns z (name::r)).2=c\/((fL ns z (name::r)).2=0/\(c=173\/c=174)))) ∨
    ∃ S2 a u,bI S (eP cur name)=(S2,{ eP cur name with answer:=least S.us,code:=0 })/\Still ns S2/\S2.us=ins (least S.us) u S.us/\S2.idx=S.idx/\a < S.idx.length/\bT S a=u/\u.kind=2/\∀ r,fL ns z (name::r)=fL ns a r:=by
  have hl:=(h.inv.us _ _ hg).1
  have NZ:=h.ng t hl
  have ZO:(nd ns z).kind=2:=by rw [← h.g,iC hz];show (bT S z).kind=2;rw [ht];exact hk
  have hfm:∀ r,fL ns z (name::r)=match qZ (nd ns z).ah name with|none=>(0,170)|some j=>fL ns (tgt ns (en (nd ns z).ah j).id) r:=fun r=>by
    conv=>lhs;unfold fL
    rw [if_neg (by omega),if_neg (by omega)]<;>rfl
  have hm:cR S { eP cur name with answer:=0,code:=230 }=eF S { eP cur name with answer:=0,code:=230 }:=qW (c:={ eP cur name with answer:=0,code:=230 }) rfl
  have habout:dP S.O S.us cur name 64=if bD name then if bits BinOp.and .i64 (obj S.O t.k).mode 64=64 then .ok t.k else .error 175 else .error 95:=by
    unfold dP
    rw [hg]
    simp only
    rw [if_pos hk,if_neg (by rw [NZ];decide)]
  have hd:∀ (o:rE),eF S { eP cur name with answer:=0,code:=230 }=o->bI S (eP cur name)=(o.2.1,{ o.2.2 with code:=o.1 }):=fun o ho=>by
    unfold bI;rw [hm,ho]
  unfold eF fC at hd
  simp only at hd
  rw [habout] at hd
  by_cases hgn:bD name
  case neg=>
    rw [if_neg hgn] at hd
    exact .inl ⟨95,hd _ rfl,by decide,.inl (.inr (.inr rfl))⟩
  rw [if_pos hgn] at hd
  by_cases WQ:bits BinOp.and .i64 (obj S.O t.k).mode 64=64
  case neg=>
    rw [if_neg WQ] at hd
    exact .inl ⟨175,hd _ rfl,by decide,.inl (.inl rfl)⟩
  rw [if_pos WQ] at hd
  simp only at hd
  cases hlk:aT name (obj S.O t.k).ah with
  | none=>
    rw [hlk] at hd
    have hf:=SG (S:=S) hz (p:=name) (by rw [ht];exact hlk)
    rw [h.g] at hf
    exact .inl ⟨170,hd _ rfl,by decide,.inr (fun r=>.inl (by rw [hfm,hf]))⟩
  | some u=>
    rw [hlk] at hd
    simp only at hd
    obtain⟨j,a,hf,ha,qi,Cu⟩:=SH h.inv.toInv0 hz (p:=name) (by rw [ht];exact hlk)
    rw [h.g] at hf Cu
    have hfr:∀ r,fL ns z (name::r)=fL ns a r:=fun r=>by rw [hfm,hf];show fL ns (tgt ns (en (nd ns z).ah j).id) r=_;rw [Cu]
    have ZP:(nd ns a).kind=u.kind:=by rw [← h.g,iC ha];show (bT S a).kind=_;rw [qi]
    have WR:=(h.inv.ob u (by rw [← qi];exact (lq h.inv.toInv0 ha).1)).2.2
    have Ez:∀ c:Int,(u.kind=3/\c=174)\/(u.kind=1/\c=173)->∀ r,(fL ns z (name::r)).2=c\/((fL ns z (name::r)).2=0/\(c=173\/c=174)):=fun c hc r=>by
      rw [hfr]
      cases r with
      | nil=>exact .inr ⟨rfl,by omega⟩
      | cons q r=>
        refine .inl ?_
        conv=>lhs;unfold fL
        rcases hc with ⟨h1,h2⟩|⟨h1,h2⟩
        ·rw [if_pos (by omega)];exact h2.symm
        rw [if_neg (by omega),if_pos (by omega)];exact h2.symm
    by_cases h3:u.kind=3
    ·rw [if_pos h3] at hd
     exact .inl ⟨174,hd _ rfl,by decide,.inr (Ez 174 (.inl ⟨h3,rfl⟩))⟩
    rw [if_neg h3] at hd
    by_cases h1:u.kind=1
    ·rw [if_pos h1] at hd
     exact .inl ⟨173,hd _ rfl,by decide,.inr (Ez 173 (.inr ⟨h1,rfl⟩))⟩
    rw [if_neg h1] at hd
    by_cases hfl:(S.us.length:Int) < S.X.cH
    ·rw [jD hfl] at hd
     have hd2:=hd _ rfl
     have hI:=h.inv.bI (eP cur name)
     rw [hd2] at hI
     exact .inr ⟨_,a,u,hd2,h.open_ (k:=u.k) rfl hI,rfl,rfl,ha,qi,by omega,hfr⟩
    rw [jW hfl] at hd
    exact .inl ⟨130,hd _ rfl,by decide,.inl (.inr (.inl rfl))⟩
structure RJ (ns:List aI) (z:Nat) (ps:List ByteArray) (r:Hw):Prop where
  st:Still ns r.S
  made:r.made=0
  ok:r.code=0->(fL ns z ps).2=0/\∃ t,aF.get r.S.us r.cur=some t/\t.kind=2/\(t.k:Int)=(fL ns z ps).1
  bad:r.code≠0->(r.code=175\/r.code=130\/r.code=95)\/(fL ns z ps).2=r.code\/((fL ns z ps).2=0/\(r.code=173\/r.code=174))
theorem Jy {root:Int} (h:Still ns S) (hg:aF.get S.us cur=some t) {n:Nat} {own:Bool} {made code at_:Int}:Still ns (kf [] [] root S n cur own made code at_).S/\(kf [] [] root S n cur own made code at_).made=made/\(kf [] [] root S n cur own made code at_).code=code:=by
  cases own with
  | false=>rw [BQ];exact⟨h,rfl,rfl⟩
  | true=>
    obtain⟨S2,e,h2,_⟩:=h.close hg
    rw [← nu (root:=root) (n:=n+1) (by show (13:Int)≠1;decide)] at e
    rw [wZ e];exact⟨h2,rfl,rfl⟩
theorem zE {root:Int}:∀ (ps:List ByteArray) (i:Int) (S:aJ) (n:Nat) (cur:Int) (own:Bool) (t:Th) (z:Nat),Still ns S->aF.get S.us cur=some t->t.kind=2->z < S.idx.length->bT S z=t->RJ ns z ps (gD [] [] root (-1) ps i S n cur own 0)
  | [],i,S,n,cur,own,t,z,h,hg,hk,hz,ht=>by
    rw [zh]
    refine⟨h,rfl,fun _=>⟨rfl,t,hg,hk,?_⟩,fun q=>absurd rfl q⟩
    show _=(nd ns z).id
    rw [← h.g,iC hz]
    show _=bZ S z
    rw [(lq h.inv.toInv0 hz).2,ht]
  | p::r,i,S,n,cur,own,t,z,h,hg,hk,hz,ht=>by
    rcases Ma h hg hk hz ht p with ⟨c,e1,hc,hb⟩|⟨S2,a,u,e1,h2,WS,hi2,ha,qi,WT,hf⟩
    ·rw [← nu (root:=root) (n:=n+1) (by show (2:Int)≠1;decide)] at e1
     have hs:=rR (mode:=-1) e1 hc (.inr (by decide))
     rw [rQ (by rw [hs];exact hc),hs]
     obtain⟨f1,f2,f3⟩:=Jy (root:=root) h hg (n:=n+1) (own:=own) (made:=0) (code:=c) (at_:=i)
     refine⟨f1,f2,fun q=>absurd (f3.symm.trans q) hc,fun _=>?_⟩
     rw [show (kf [] [] root S (n+1) cur own (if false=true then 0+1 else 0) c i).code=c from f3]
     exact hb.elim .inl (fun hb=>.inr (hb r))
    rw [← nu (root:=root) (n:=n+1) (by show (2:Int)≠1;decide)] at e1
    have hs:=wX (mode:=-1) e1 rfl
    have hnl:=(least_le h.inv.usr (fun x hx=>(h.inv.su x hx).1)).2.1
    have hnc:least S.us≠cur:=fun q=>hnl (by rw [q];exact qN hg)
    have hgn:aF.get S2.us (least S.us)=some u:=by rw [WS,kZ hnl,if_pos rfl]
    have XM:bT S2 a=u:=by unfold bT at qi ⊢;rw [hi2];exact qi
    by_cases ho:own=true
    ·have hg2:aF.get S2.us cur=some t:=by rw [WS,kZ hnl,if_neg (fun q=>hnc q.symm)];exact hg
     obtain⟨S3,e2,h3,WR,WU⟩:=h2.close hg2
     rw [← nu (root:=root) (n:=n+1+1) (by show (13:Int)≠1;decide)] at e2
     rw [uP (by rw [hs]) ho (by rw [hs];show (aS [] [] root (n+1+1) S2 (dU cur)).2.code=0;rw [e2]),hs]
     show RJ ns z (p::r) (gD [] [] root (-1) r (i+1) (aS [] [] root (n+1+1) S2 (dU cur)).1 (n+1+1) (least S.us) true 0)
     rw [e2]
     have hr:=zE (root:=root) r (i+1) S3 (n+1+1) (least S.us) true u a h3 (by rw [WR,qv,if_neg hnc];exact hgn) WT (by rw [WU,hi2];exact ha) (by unfold bT at qi ⊢;rw [WU,hi2];exact qi)
     exact⟨hr.st,hr.made,fun q=>by rw [hf];exact hr.ok q,fun q=>by rw [hf];exact hr.bad q⟩
    rw [wW (by rw [hs]) ho,hs]
    have hr:=zE (root:=root) r (i+1) S2 (n+1) (least S.us) true u a h2 hgn WT (by rw [hi2];exact ha) XM
    exact⟨hr.st,hr.made,fun q=>by rw [hf];exact hr.ok q,fun q=>by rw [hf];exact hr.bad q⟩
theorem OB {X:FM} (h:fS X ns ns.length 0 S) (hok:bB ns):Still ns S:=by
  refine⟨h.full,h.graph hok,fun t ht=>?_⟩
  obtain⟨a,ha,e⟩:=h.of ht
  obtain⟨l,u,h1⟩:=h.ob a ha
  have hk:t.k=fR (nd ns a):=by rw [e];rfl
  rw [hk,h1];rfl
end f
end
section
open Go.RowKit Go.Maps bq aF
section b
variable {O O':bU} {X:FM} {r k d to:Nat} {name toName:ByteArray} {t:Th} {S S':aJ}
def YK (r:Nat) (S S':aJ):Prop:=S'.us=S.us/\∀ k,Live S.idx ⟨k,2⟩->(jM S.O r k->jM S'.O r k\/(obj S'.O k).gone=true)/\((obj S.O k).gone=true->(obj S'.O k).gone=true)
def HB (r:Nat) (S:aJ):Prop:=∀ h t,aF.get S.us h=some t->t.kind=2/\(jM S.O r t.k\/(obj S.O t.k).gone=true)
end b
end
section
open Go.RowKit
def Y5 (e:TypeId) (size:Nat) (A:Option Addr) (n cap:Nat) (xs:List Value):bW where
  h F w:=xs.length=n * size/\∃ g off cur,A=some ⟨g,off,none⟩/\w.heap[g]?=some (.cells cur e (0,0))/\n<=cap/\cap<=maxLen/\off+cap * size<=cur.size/\(∀ (j:Nat) u,xs[j]?=some u->cur[off+j]?=some u)/\∀ k,F k↔k=g
  lt:=by
    rintro F w ⟨_,g,off,cur,_,h1,_,_,_,_,h2⟩ k hk
    rw [(h2 k).1 hk]
    exact lt_of_some h1
  st:=by
    rintro F w ⟨h0,g,off,cur,h3,h1,h4,h5,h6,h7,h2⟩ S w' hk hn
    exact⟨h0,g,off,cur,h3,(hk.block g (lt_of_some h1) (hn g ((h2 g).2 rfl))).trans h1,h4,h5,h6,h7,h2⟩
section tails
variable {e:TypeId} {size n m cap:Nat} {A:Option Addr} {xs news:List Value} {w:World}
end tails
section rules
variable {P:Program} {β:Bs} {N:dG} {ops:Array Oper} {k:Nat} {fr:Fr} {hps:List HP} {Q:Post} {d:Option Tmp}
end rules
end
section
open Go.RowKit Go.Maps
inductive Reach (ns:List aI) (k:Nat):Nat->Prop
  | refl:Reach ns k k
  | step {i:Nat} (j:Nat):Reach ns k i->j < (nd ns i).ah.length->Reach ns k (tgt ns (ent ns i j).id)
structure Zp (ns:List aI) (k:Nat) (seen work:List Nat):Prop where
  start:k∈seen\/k∈work
  reach:∀ i,i∈seen\/i∈work->Reach ns k i
  XO:∀ i,i∈seen->∀ j,j < (nd ns i).ah.length->tgt ns (ent ns i j).id∈seen\/tgt ns (ent ns i j).id∈work
def tgts (ns:List aI) (x j:Nat):List Nat:=(List.range j).map fun t=>tgt ns (ent ns x t).id
theorem OC {ns:List aI} {k:Nat} (hr:cJ ns) (hk:k < ns.length):j4 ns (nd ns k).id=(k:Int)/\tgt ns (nd ns k).id=k:=by
  have h:=Gb hr hk (rfl:(nd ns k).id=(nd ns k).id)
  refine⟨h,?_⟩
  unfold tgt
  rw [h]
  rfl
structure Zq (ns:List aI) (k:Nat) (mk work:List Nat) (now:Option (Nat×Nat)):Prop where
  start:k∈mk
  reach:∀ i,i∈mk->Reach ns k i
  lies:∀ i,i∈work->i∈mk
  nodup:mk.Nodup
  XO:∀ i,i∈mk->i∈work\/(∃ j,now=some (i,j)/\∀ t,t < j->tgt ns (ent ns i t).id∈mk)\/∀ t,t < (nd ns i).ah.length->tgt ns (ent ns i t).id∈mk
end
section
open Go.RowKit Go.Maps bq aF
section k
variable {S:aJ} {r k:Nat} {t:Th}
theorem OD (hI:Inv0 S) (hl:Live S.idx t):∃ i,i < (av S).length/\bT S i=t/\(nd (av S) i).id=(t.k:Int)/\(nd (av S) i).kind=t.kind/\j4 (av S) (t.k:Int)=(i:Int)/\tgt (av S) (t.k:Int)=i:=by
  obtain⟨i,hi,h1,h2⟩:=N0 hl
  have hid:(nd (av S) i).id=(t.k:Int):=by rw [iC hi];exact h2
  have ha:=OC (xj hI) (k:=i) (by rw [eX];exact hi)
  rw [hid] at ha
  exact⟨i,by rw [eX];exact hi,h1,hid,by rw [iC hi];show (bT S i).kind=_;rw [h1],ha.1,ha.2⟩
theorem QC (hI:Inv0 S) (hr:Live S.idx ⟨r,2⟩):gT (av S) (r:Int)=0:=by
  obtain⟨i,_,_,_,h4,h5,h6⟩:=OD hI hr
  exact Fq hI.Kj (by rw [show ((r:Nat):Int)=(((⟨r,2⟩:Th).k:Nat):Int) from rfl,h5];omega) (by rw [show ((r:Nat):Int)=(((⟨r,2⟩:Th).k:Nat):Int) from rfl,h6];exact h4)
end k
end
section
open Go.RowKit Go.Maps bq aF
abbrev FQ (h:Int):aB:=⟨11,h,0,⟨#[]⟩,⟨#[]⟩,none,0,[],0,0,0,0,0,0,0⟩
structure HJ (r:Nat) (h:Int) (S:aJ) (cur:Int) (own:Bool):Prop where
  hb:HB r S
  rt:aF.get S.us h=some ⟨r,2⟩
  ne:own=true->cur≠h
section x
variable {fs:List bh} {xs:List bK} {root h:Int} {r n:Nat} {S S2 S4:aJ} {c2 c4:aB} {cur mode:Int} {own:Bool} {t:Th} {p:ByteArray}
end x
end
section
open Go.RowKit Go.Maps bq aF
section j
variable {X:FM} {ns:List aI} {root:Int} {S S2 S4:aJ} {c2 c4:aB} {t:Th} {cur:Int} {n:Nat} {ps:List ByteArray}
theorem IU:∀ ns:List aI,aF.get (zj ns) root=(ns.find? (fun n=>decide (n.id=root))).map nO
  | []=>rfl
  | a::r=>by
    have ih:=IU r
    unfold aF.get zj at ih ⊢
    rw [List.map_cons,List.find?_cons,List.find?_cons]
    by_cases h:a.id=root
    ·rw [decide_eq_true h,show ((a.id,nO a).1 == root)=true from by simp [h]];rfl
    rw [decide_eq_false h,show ((a.id,nO a).1 == root)=false from by simp [h]];exact ih
theorem OE (hn:fS X ns ns.length 0 S) (h0:cU X ns root=0) (e:aS [] [] root 1 S (kO root)=(S2,c2)) :
    (c2.code≠0->c2.code=130)/\(c2.code=0->gT ns root=0/\∃ t,Still ns S2/\aF.get S2.us c2.answer=some t/\t.kind=2/\tgt ns root < S2.idx.length/\bT S2 (tgt ns root)=t):=by
  have hok:=zo h0
  have hs:=OB hn hok.2
  obtain⟨t,h1,h2⟩:∃ t,aF.get S.idx root=some t/\t.kind=2:=by
    rw [hn.idx,IU]
    unfold cU at h0
    rw [if_pos hok.1,if_pos hok.2] at h0
    split at h0
    ·cases h0
    rename_i m hm
    split at h0
    ·rename_i hk;rw [hm];exact⟨_,rfl,hk⟩
    cases h0
  have e2:bI S (kO root)=(S2,c2):=e
  by_cases hl:(S.us.length:Int) < S.X.cH
  ·rw [Ew (c:=kO root) rfl h1 h2 hl] at e2
   have hI:Inv S2:=by have h:=hs.inv.bI (kO root);rw [Ew (c:=kO root) rfl h1 h2 hl,e2] at h;exact h
   cases e2
   refine⟨fun q=>absurd rfl q,fun _=>?_⟩
   have hlv:Live S.idx t:=by show aF.get S.idx (t.k:Int)=some t;rw [← (hs.inv.idx _ _ h1).1];exact h1
   obtain⟨i,hi,h3,_,_,_,h6⟩:=OD hs.inv.toInv0 hlv
   have hk:=(hs.inv.idx _ _ h1).1
   rw [hs.g,← hk] at h6
   have hb:=QC (r:=t.k) hs.inv.toInv0 (by rw [← h2];exact hlv)
   rw [hs.g,← hk] at hb
   refine⟨hb,t,hs.open_ (k:=t.k) rfl hI,?_,h2,?_,?_⟩
   ·show aF.get (ins (least S.us) t S.us) (least S.us)=some t
    rw [kZ (least_le hs.inv.usr (fun x hx=>(hs.inv.su x hx).1)).2.1,if_pos rfl]
   ·rw [h6];rw [eX] at hi;exact hi
   rw [h6];exact h3
  unfold bI at e2
  rw [sK (c:={ kO root with answer:=0,code:=230 }) rfl] at e2
  unfold jq at e2
  rw [show aF.get S.idx ({ kO root with answer:=0,code:=230 }:aB).other=some t from h1] at e2
  simp only at e2
  rw [if_pos h2,jW hl] at e2
  cases e2
  exact⟨fun _=>rfl,fun q=>by cases q⟩
theorem OG (hI:Inv S) (hg:aF.get S.us cur=some t) (hk:t.kind=2) {z:Int} (hz:(t.k:Int)=z) (e:aS [] [] root n S (FQ cur)=(S4,c4)):c4.code=0/\c4.answer=z/\c4.other=2:=by
  rw [nu (by show (11:Int)≠1;decide)] at e
  unfold bI at e
  rw [tL (c:={ FQ cur with answer:=0,code:=230 }) rfl] at e
  unfold kI at e
  rw [show aF.get S.us ({ FQ cur with answer:=0,code:=230 }:aB).handle=some t from hg] at e
  cases e
  refine⟨rfl,?_,hk⟩
  show (obj S.O t.k).id=z
  rw [(hI.ob t (hI.us _ _ hg).1).1];exact hz
end j
end
section
open Go.RowKit Go.Maps bq aF
attribute [local irreducible] ak aU af aj
theorem law_resolveFinds (W:World) (A:Option Addr) (c:Nat) (ns:List aI) (Y:Lay) (hG:aE (B0 W) A ns Y) (hB:fN ns 1048576) (X:FM) (root:Int) (Af:Option Addr) (cf:Nat) (fs:List bh) (_ZQ:cM (B0 W) Af (bR fU fs)) (mP:jj fs 1048576) (Aa:Option Addr) (ca:Nat) (xs:List bK) (_ZR:cM (B0 W) Aa (bR gM xs)) (hab:ef xs 1048576) (hrw:(Lit.int .i64 root).wf=true) (Ap:Option Addr) (cp:Nat) (ps:List ByteArray) (hP:dR (B0 W) Ap ps) (hpl:ps.length<=1048576) (hps:∀ i,i < ps.length->(pc ps i).size<=1048576) (hg:dQ (B0 W)) (hE:jr (B0 W)) :
    Spec Tryz.prog (B0 W) 5 #[.agg #[.slice A (ns.length) (c),vI (root),vI (X.cN),vI (X.cB),vI (X.cH),vI (X.cS),vI (X.cZ),.slice Af (fs.length) (cf),.slice Aa (xs.length) (ca)],.slice Ap (ps.length) (cp)] [] (fun v _=>v=.bool true):=by
 have hle0:=B0.refl W
 have hfl:=mP.len
 have hxn:=hab.len
 refine Spec.enter Tryz.func5 rfl Tryz.ntmps5 (Nat.le_of_ble_eq_true rfl) (fun R=>?_)
 refine SR (gN 2 (fun b1=>[(2,vP b1)]) (fun _=>[]) (fun _=>[]) (fun b1=>.blk b1 [.slice A (ns.length) (c),vI (root),vI (X.cN),vI (X.cB),vI (X.cH),vI (X.cS),vI (X.cZ),.slice Af (fs.length) (cf),.slice Aa (xs.length) (ca)] 34) (fun b1=>?_))
 refine NN (af.seq (SR (ak.fJ (d:=(some 15)) (R:=[.abs R,.blk b1 [.slice A (ns.length) (c),vI (root),vI (X.cN),vI (X.cB),vI (X.cH),vI (X.cS),vI (X.cZ),.slice Af (fs.length) (cf),.slice Aa (xs.length) (ca)] 34]) (pk:=[0,1]) (fun _=>by kernel_rfl) (LW hg hE) rfl (by kernel_rfl) ?_)))
 rintro yj _ _ ig ⟨rfl,rfl⟩
 replace hG:=hG.le ig
 replace hP:=hP.le ig
 replace hg:=hg.le ig
 replace hE:=hE.le ig
 replace hle0:=hle0.trans ig
 refine gK 1 [(16,.bool false)] [] ?_
 refine NN (CF (af.skip (NX (SR (gC 3 [] [(2,A_ 1 b1 2)] [(1,[(7,.slice none (0) (0)),(8,.slice none (0) (0))])] ?_)))))
 refine NN (af.seq ?_)
 by_cases h0:cU X ns root=0
 ·have hok:=zo h0
  refine af.region (gK 1 [(20,.agg #[.slice A (ns.length) (c),vI (root),vI (X.cN),vI (X.cB),vI (X.cH),vI (X.cS),vI (X.cZ),.slice none (0) (0),.slice none (0) (0)])] [(0,A_ 1 b1 9)] ?_)
  refine ak.fJ (d:=(some 21)) (R:=[.abs R,.blk b1 [.slice A (ns.length) (c),vI (root),vI (X.cN),vI (X.cB),vI (X.cH),vI (X.cS),vI (X.cZ),.slice none (0) (0),.slice none (0) (0)] 34]) (pk:=[0,1]) (fun _=>by kernel_rfl) (Dv (β:=yj) (X:=X) h0 A c Y hG hB none 0 ([]) II ⟨by decide,fun a ha=>by cases ha⟩ none 0 ([]) IJ qY) rfl (by kernel_rfl) ?_
  rintro Dr _ _ jk ⟨N,G,V,rfl,rfl,ja⟩
  replace hG:=hG.le jk
  replace hP:=hP.le jk
  replace hg:=hg.le jk
  replace hE:=hE.le jk
  replace hle0:=hle0.trans jk
  refine gK 5 [(5,vP G.w),(6,vI 0)] [] ?_
  refine NN (af.seq (SR (gK 6 [(29,.bool false)] [(1,p_ ⟨[],none,none,none,some (.bool false)⟩ [((.bool false:Value))=(.bool false)] ⟨rfl,trivial⟩)] ?_)))
  refine NN (CF (af.skip (NX (af.seq ?_))))
  obtain⟨S2,c2,eR⟩:∃ Sx cx,aS [] [] root 1 N.1 (kO root)=(Sx,cx):=⟨_,_,rfl⟩
  have hroot:=OE N.2 h0 eR
  refine af.Jw (S:=[.blk b1 [.slice A (ns.length) (c),vI (root),vI (X.cN),vI (X.cB),vI (X.cH),vI (X.cS),vI (X.cZ),.slice none (0) (0),.slice none (0) (0)] 34,.abs (nA G)]) [(true,0),(true,1),(true,2),(true,3),(true,4),(true,5),(false,6),(true,7),(true,8),(true,9),(true,10),(false,11)] (by kernel_rfl) (by kernel_rfl) (fun _ h=>(h.Dw (i:=0) rfl).pick (idx:=[2,0]) rfl rfl) ?_
  refine gG [(false,6),(true,7),(true,8),(true,9),(true,10),(false,11)] [(1,.slice Ap (ps.length) (cp)),(2,vP b1),(5,vP G.w),(40,.agg #[.iface 39 (vP G.w)]),(42,vI (root))] [0,1,2,3,4,5] [(3,p_ ⟨[.view 1 (.iface 39 (vP G.w))],none,none,none,none⟩ [(∀ F w,(nA G).h F w->w.cell? ⟨G.w,0,none⟩=some (.iface 39 (vP G.w)))] ⟨ol,trivial⟩),(5,a_ 0 b1)] ?_
  refine eO.U1 ?_
  have qf:Grown Dr Dr:=.inl rfl
  refine ji.VR (ι:=Bs×WV×({ l:List aB // l.length=1 })) (B:=fun ((oe,V2,q2):Bs×WV×({ l:List aB // l.length=1 }))=>oe) (Φ:=fun ((oe,V2,q2):Bs×WV×({ l:List aB // l.length=1 }))=>True) (fr':=fun ((oe,V2,q2):Bs×WV×({ l:List aB // l.length=1 }))=>[(1,.slice Ap (ps.length) (cp)),(2,vP b1),(5,vP G.w),(43,.tuple #[vI (c2.answer),vI (c2.code)])]) (hp':=fun ((oe,V2,q2):Bs×WV×({ l:List aB // l.length=1 }))=>[wA G ([]) ([]) root S2 V2 q2.1,.abs R,.blk b1 [.slice A (ns.length) (c),vI (root),vI (X.cN),vI (X.cB),vI (X.cH),vI (X.cS),vI (X.cZ),.slice none (0) (0),.slice none (0) (0)] 34]) qf (by kernel_rfl) ?_ (fun _ _ h=>(h.Dw (i:=0) rfl).pick (idx:=[2,0]) rfl rfl) ?_
  ·refine ak.fJ (d:=(some 43)) (R:=[.abs R,.blk b1 [.slice A (ns.length) (c),vI (root),vI (X.cN),vI (X.cB),vI (X.cH),vI (X.cS),vI (X.cZ),.slice none (0) (0),.slice none (0) (0)] 34]) (pk:=[0,1,2]) (fun _=>by kernel_rfl) (Qv (β:=Dr) (G:=G) (fs:=[]) (xs:=[]) (S:=N.1) (V:=V) (S1:=S2) (c1:=c2) hrw N.2.full ja qY hg root hrw eR) rfl (by kernel_rfl) ?_
   rintro oe _ _ iw ⟨V2,q2,rfl,rfl⟩
   replace hG:=hG.le iw
   replace hP:=hP.le iw
   replace hg:=hg.le iw
   replace hE:=hE.le iw
   replace ja:=ja.le iw
   replace hle0:=hle0.trans iw
   refine NL ?_
   exact aj.Gr (oe,V2,q2) rfl iw (trivial) (idx:=[1,2,5,43]) (pk:=[0,1,2]) (fun _=>by kernel_rfl) rfl (by kernel_rfl)
  rintro⟨oe,V2,q2⟩ iw _
  show ji _ oe _ _ _ _ _ [(1,.slice Ap (ps.length) (cp)),(2,vP b1),(5,vP G.w),(43,.tuple #[vI (c2.answer),vI (c2.code)])] [wA G ([]) ([]) root S2 V2 q2.1,.abs R,.blk b1 [.slice A (ns.length) (c),vI (root),vI (X.cN),vI (X.cB),vI (X.cH),vI (X.cS),vI (X.cZ),.slice none (0) (0),.slice none (0) (0)] 34] _
  replace hG:=hG.le iw
  replace hP:=hP.le iw
  replace hg:=hg.le iw
  replace hE:=hE.le iw
  replace ja:=ja.le iw
  replace hle0:=hle0.trans iw
  replace qf:=qf.trans iw
  refine gH [(false,11)] [(1,.slice Ap (ps.length) (cp)),(2,vP b1),(5,vP G.w),(7,vI (c2.answer)),(45,vI (c2.code))] [7,8,9,10] [] ?_
  refine ji.last (by kernel_rfl) ?_
  refine gK 1 [(6,vI (c2.code))] [] ?_
  refine NL (aj.np (NX (af.seq (SR ?_))))
  refine gK 2 [(47,.bool (!(decide ((c2.code:Int)=(0:Int)))))] [] ?_
  refine NN (af.fI (p:=(c2.code:Int)=(0:Int)) (fun _=>by kernel_rfl) (fun C4=>?_) (fun C4=>?_))
  ·refine SR (gK 3 [(4,.bool true)] [(1,p_ ⟨[],none,none,none,some (.bool true)⟩ [((.bool (decide ((c2.code:Int)=(130:Int))):Value))=(.bool true)] ⟨congrArg Value.bool (decide_eq_true (hroot.1 C4)),trivial⟩)] ?_)
   refine NN (af.ret (aj.aq ?_))
   exact aj.wk (v:=.bool true) (l:=[]) (aZ:=[]) [] [1] hle0 (fun _=>by kernel_rfl) trivial rfl (by kernel_rfl) (rfl)
  obtain⟨ud,ha2⟩:=Ou (h:=c2.answer) N.2.full N.2.us N.2.aD eR C4
  obtain⟨hbg,t1,hst,ht1,hk1,hz1,XP⟩:=hroot.2 C4
  have xW:=ud.inv
  have Fj:(Lit.int .i64 c2.answer).wf=true:=by rw [ha2];decide
  refine af.skip (NX (af.seq ?_))
  obtain⟨⟨Sr,nr,cr,ow,mr,kr,ar⟩,hr⟩:∃ r,gD [] [] root (-1) ps 0 S2 1 c2.answer false 0=r:=⟨_,rfl⟩
  have hw:=uY (mode:=(-1)) (fs:=[]) (xs:=[]) (root:=root) (h0:=c2.answer) (n0:=1) (len:=ps.length) ps 0 S2 1 c2.answer false 0 ud (by decide) (by omega) (fun _=>rfl) (fun h=>absurd h Bool.false_ne_true) (fun _=>⟨rfl,rfl,rfl⟩)
  rw [hr] at hw
  have hpk:Sr.aD<=3:=hw.pk
  have hmr:0<=mr/\mr<=ps.length:=hw.made
  have ZS:nr<=4 * ps.length+1+1:=hw.n
  have hm0:(-1) < 0->mr=0:=hw.m0
  have Fs:Inv Sr:=hw.inv
  have hfw:=zE (root:=root) ps 0 S2 1 c2.answer false t1 (tgt ns root) hst ht1 hk1 hz1 XP
  rw [hr] at hfw
  have WW:mr=0:=hfw.made
  have WX:av Sr=ns:=hfw.st.g
  have hfo:kr=0->(eT ns root ps).2=0/\∃ t,aF.get Sr.us cr=some t/\t.kind=2/\(t.k:Int)=(eT ns root ps).1:=fun q=>by rw [BX hbg];exact hfw.ok q
  have YL:kr≠0->(kr=175\/kr=130\/kr=95)\/(eT ns root ps).2=kr\/((eT ns root ps).2=0/\(kr=173\/kr=174)):=fun q=>by rw [BX hbg];exact hfw.bad q
  rcases Classical.em (kr=0) with hc|hc
  ·subst hc
   obtain⟨YM,hlo,YN⟩:=hw.ok rfl
   obtain⟨YO,t2,hg2,hk2,hz2⟩:=hfo rfl
   have hwc:(Lit.int .i64 cr).wf=true:=by cases ow;exact (by have h:cr=c2.answer:=YN rfl;rw [h];exact Fj);exact SD YM
   refine af.EC (S:=[.blk b1 [.slice A (ns.length) (c),vI (root),vI (X.cN),vI (X.cB),vI (X.cH),vI (X.cS),vI (X.cZ),.slice none (0) (0),.slice none (0) (0)] 34,.abs (nA G)]) 11 [(true,0),(true,1),(true,2),(true,3),(true,4),(true,5),(false,6),(false,7),(true,8),(true,9),(true,10)] [(false,12),(false,13)] (by kernel_rfl) (by kernel_rfl) (fun _ h=>(h.Dw (i:=0) rfl).pick (idx:=[2,0]) rfl rfl) ?_
   refine gJ [(false,6),(false,7),(true,8),(true,9),(true,10)] [(1,.slice Ap (ps.length) (cp)),(2,vP b1),(5,vP G.w),(54,.agg #[.iface 39 (vP G.w)]),(55,vI (c2.answer)),(56,.slice Ap (ps.length) (cp))] [0,1,2,3,4,5] [(3,p_ ⟨[.view 1 (.iface 39 (vP G.w))],none,none,none,none⟩ [(∀ F w,(nA G).h F w->w.cell? ⟨G.w,0,none⟩=some (.iface 39 (vP G.w)))] ⟨ol,trivial⟩)] ?_
   refine zB.beside (j:=11) (dj:=8) (R:=fun f_ l_=>∃ B5:Option Addr,∃ p5:Nat,∃ V3:WV,∃ q3:{ l:List aB // l.length=nr },f_=[(60,.nilIface),(59,.agg #[vI (cr),.bool ow,vI (mr)]),(50,.tuple #[.agg #[vI (cr),.bool ow,vI (mr)],.nilIface]),(58,.tuple #[.agg #[vI (cr),.bool ow,vI (mr)],.nilIface]),(57,.slice B5 (ps.length) (p5)),(1,.slice Ap (ps.length) (cp)),(2,vP b1),(5,vP G.w),(54,.agg #[.iface 39 (vP G.w)]),(55,vI (c2.answer)),(56,.slice Ap (ps.length) (cp))]/\l_=[wA G ([]) ([]) root Sr V3 q3.1]) (pc:=[wA G ([]) ([]) root S2 V2 q2.1]) (pj:=[]) (Z:=[.abs R,.blk b1 [.slice A (ns.length) (c),vI (root),vI (X.cN),vI (X.cB),vI (X.cH),vI (X.cS),vI (X.cZ),.slice none (0) (0),.slice none (0) (0)] 34]) [0,1,2] (IL G) [(false,6,57),(false,7,58),(true,8,50),(true,9,59),(true,10,60)] (by kernel_rfl) rfl rfl (IQ (S1:=[.blk b1 [.slice A (ns.length) (c),vI (root),vI (X.cN),vI (X.cB),vI (X.cH),vI (X.cS),vI (X.cZ),.slice none (0) (0),.slice none (0) (0)] 34]) (pS:=[1]) rfl rfl) (zC 0 rfl) rfl rfl (iM.of (ι:=Nat) (v:=fun (b5:Nat)=>vP b5) (l:=fun (b5:Nat)=>[.blk b5 [vI 0,.bool false,vI 0] 55]) [57,58,50,59,60] rfl rfl rfl rfl ?_) ?_ ?_
   ·intro u Aq
    show ak _ _ _ _ _ [(57,(u 57)),(58,(u 58)),(50,(u 50)),(59,(u 59)),(60,(u 60)),(1,.slice Ap (ps.length) (cp)),(2,vP b1),(5,vP G.w),(54,.agg #[.iface 39 (vP G.w)]),(55,vI (c2.answer)),(56,.slice Ap (ps.length) (cp))] [.abs Aq] _
    refine gN 1 (fun b5=>[(8,vP b5)]) (fun _=>[]) (fun _=>[]) (fun b5=>.blk b5 [vI 0,.bool false,vI 0] 55) (fun b5=>?_)
    refine NL ?_
    exact MD b5 [8,57,58,50,59,60,1,2,5,54,55,56] [1,0]
   ·refine gy.step (iM.of (ι:=(Option Addr)×Nat) (v:=fun ((B5,p5):(Option Addr)×Nat)=>.slice B5 (ps.length) (p5)) (l:=fun ((B5,p5):(Option Addr)×Nat)=>[.abs (aH 9 1 B5 ps.length p5 (gZ ps)),wA G ([]) ([]) root S2 V2 q2.1]) [8] rfl rfl rfl rfl ?_) rfl ?_
    ·intro u Aq
     show ak _ _ _ _ _ [(8,(u 8)),(1,.slice Ap (ps.length) (cp)),(2,vP b1),(5,vP G.w),(54,.agg #[.iface 39 (vP G.w)]),(55,vI (c2.answer)),(56,.slice Ap (ps.length) (cp))] [wA G ([]) ([]) root S2 V2 q2.1,.abs Aq] _
     refine gL [] (xY (β:=oe) Ap cp ps hP hpl) ?_
     rintro _ _ ⟨B5,p5,rfl,rfl⟩
     refine NL ?_
     exact MD (B5,p5) [57,8,1,2,5,54,55,56] [0,1,2]
    rintro _ _ ⟨⟨B5,p5⟩,rfl,rfl⟩
    refine⟨zC 1 rfl,?_⟩
    refine gy.step (iM.of (ι:=WV×({ l:List aB // l.length=nr })) (v:=fun ((V3,q3):WV×({ l:List aB // l.length=nr }))=>.tuple #[.agg #[vI (cr),.bool ow,vI (mr)],.nilIface]) (l:=fun ((V3,q3):WV×({ l:List aB // l.length=nr }))=>[wA G ([]) ([]) root Sr V3 q3.1]) [8] rfl rfl rfl rfl ?_) rfl ?_
    ·intro u Aq
     show ak _ _ _ _ _ [(8,(u 8)),(57,.slice B5 (ps.length) (p5)),(1,.slice Ap (ps.length) (cp)),(2,vP b1),(5,vP G.w),(54,.agg #[.iface 39 (vP G.w)]),(55,vI (c2.answer)),(56,.slice Ap (ps.length) (cp))] [.abs (aH 9 1 B5 ps.length p5 (gZ ps)),wA G ([]) ([]) root S2 V2 q2.1,.abs Aq] _
     refine gL [1,0] (LY (β:=oe) (A:=B5) (kN:=p5) (G:=G) (V:=V2) (r:=⟨Sr,nr,cr,ow,mr,0,ar⟩) rfl hrw xW q2.2 (by decide) ja qY hg hE Fj hpl hps hr) ?_
     rintro _ _ ⟨V3,q3,rfl,rfl⟩
     refine NL ?_
     exact MD (V3,q3) [58,8,57,1,2,5,54,55,56] [0,1]
    rintro _ _ ⟨⟨V3,q3⟩,rfl,rfl⟩
    refine⟨zC 0 rfl,?_⟩
    refine gy.read (v:=.tuple #[.agg #[vI (cr),.bool ow,vI (mr)],.nilIface]) (fun _=>by kernel_rfl) rfl rfl ?_
    refine gy.read (v:=.agg #[vI (cr),.bool ow,vI (mr)]) (fun _=>by kernel_rfl) rfl rfl ?_
    refine gy.read (v:=.nilIface) (fun _=>by kernel_rfl) rfl rfl ?_
    exact⟨B5,p5,V3,q3,rfl,rfl⟩
   rintro _ _ ⟨B5,p5,V3,q3,rfl,rfl⟩ _ _ ⟨b5,rfl,rfl⟩
   refine eO.QA (ι:=Unit) (fr':=fun (_:Unit)=>[(1,.slice Ap (ps.length) (cp)),(2,vP b1),(5,vP G.w),(8,vP b5),(60,.nilIface)]) (hp':=fun (_:Unit)=>[wA G ([]) ([]) root Sr V3 q3.1,.blk b5 [vI (cr),.bool ow,vI (mr)] 55,.abs R,.blk b1 [.slice A (ns.length) (c),vI (root),vI (X.cN),vI (X.cB),vI (X.cH),vI (X.cS),vI (X.cZ),.slice none (0) (0),.slice none (0) (0)] 34]) (by kernel_rfl) ?_ (fun _ _ h=>(h.Dw (i:=0) rfl).pick (idx:=[3,0]) rfl rfl) ?_
   ·refine gC 1 [] [(0,A_ 1 b5 3)] [(1,[(0,vI (cr)),(1,.bool ow),(2,vI (mr))])] ?_
    refine NL ?_
    exact MD () [1,2,5,8,60] [0,1,2,3]
   rintro _
   refine eO.last (by kernel_rfl) ?_
   refine gK 1 [(9,.nilIface)] [] ?_
   refine NL (aj.np (NX (af.seq (af.seq ?_))))
   refine af.jS (S:=[.blk b1 [.slice A (ns.length) (c),vI (root),vI (X.cN),vI (X.cB),vI (X.cH),vI (X.cS),vI (X.cZ),.slice none (0) (0),.slice none (0) (0)] 34,.blk b5 [vI (cr),.bool ow,vI (mr)] 55]) [(true,0),(true,2),(true,3),(false,1),(false,4),(true,5),(true,6),(true,7),(true,8),(true,9),(false,10)] [3,1] (by kernel_rfl) (by kernel_rfl) rfl (by kernel_rfl) ?_
   refine gG [(false,1),(false,4),(true,5),(true,6),(true,7),(true,8),(true,9),(false,10)] [(1,.slice Ap (ps.length) (cp)),(2,vP b1),(5,vP G.w),(8,vP b5),(9,.nilIface),(61,vP G.w),(64,.agg #[.slice A (ns.length) (c)])] [0,2,3] [(2,a_ 0 b1)] ?_
   refine eO.cut (ι:=(Option Addr)×Nat×Lay) (fr':=fun ((Ao,co,Ko):(Option Addr)×Nat×Lay)=>[(1,.slice Ap (ps.length) (cp)),(2,vP b1),(5,vP G.w),(8,vP b5),(9,.nilIface),(62,.agg #[.slice Ao ((av Sr).length) (co)]),(64,.agg #[.slice A (ns.length) (c)])]) (hp':=fun ((Ao,co,Ko):(Option Addr)×Nat×Lay)=>[wA G ([]) ([]) root Sr V3 q3.1,.abs (aH 108 10 Ao ((av Sr).length) co (bP Ko (av Sr))),.abs (cW (fZ (av Sr) Ko) (av Sr).length),.abs (cW (gh (av Sr) Ko) (av Sr).length),.blk b5 [vI (cr),.bool ow,vI (mr)] 55,.abs R,.blk b1 [.slice A (ns.length) (c),vI (root),vI (X.cN),vI (X.cB),vI (X.cH),vI (X.cS),vI (X.cZ),.slice none (0) (0),.slice none (0) (0)] 34]) [6,4] (by kernel_rfl) ?_ rfl (fun _=>by kernel_rfl) ?_
   ·refine gL [0] (zy (β:=oe) (G:=G) (fs:=[]) (xs:=[]) (root:=root) (S:=Sr) (V:=V3) (tr:=q3.1) Fs) ?_
    rintro _ _ ⟨Ao,co,Ko,rfl,rfl⟩
    refine NL ?_
    exact MD (Ao,co,Ko) [1,2,5,8,9,62,64] [0,1,2,3,4,5,6]
   rintro⟨Ao,co,Ko⟩
   refine eO.cut (ι:=Unit) (fr':=fun (_:Unit)=>[(1,.slice Ap (ps.length) (cp)),(2,vP b1),(5,vP G.w),(8,vP b5),(9,.nilIface),(65,.bool true)]) (hp':=fun (_:Unit)=>[.abs (aH 108 10 Ao ((av Sr).length) co (bP Ko (av Sr))),.abs (cW (fZ (av Sr) Ko) (av Sr).length),.abs (cW (gh (av Sr) Ko) (av Sr).length),wA G ([]) ([]) root Sr V3 q3.1,.blk b5 [vI (cr),.bool ow,vI (mr)] 55,.abs R,.blk b1 [.slice A (ns.length) (c),vI (root),vI (X.cN),vI (X.cB),vI (X.cH),vI (X.cS),vI (X.cZ),.slice none (0) (0),.slice none (0) (0)] 34]) [6,4] (by kernel_rfl) ?_ rfl (fun _=>by kernel_rfl) ?_
   ·refine gL [1,2,3] (xS (β:=oe) Ao A co c (av Sr) ns Ko Y hG (Ik Fs.toInv0) (Ij Fs.toInv0) (decide_eq_true WX)) ?_
    rintro _ _ ⟨rfl,rfl⟩
    refine NL ?_
    exact MD () [1,2,5,8,9,65] [0,1,2,3,4,5,6]
   rintro _
   refine gG [(false,10)] [(1,.slice Ap (ps.length) (cp)),(2,vP b1),(5,vP G.w),(8,vP b5),(9,.nilIface),(67,.bool false),(70,.bool false)] [5,6,7,8,9] [(3,a_ 1 b5),(4,p_ ⟨[],none,none,none,some (.bool false)⟩ [((.bool (!(decide ((mr:Int)=(0:Int)))):Value))=(.bool false)] ⟨congrArg (fun b=>Value.bool !b) (decide_eq_true (WW)),trivial⟩)] ?_
   refine eO.last (by kernel_rfl) ?_
   refine gK 1 [(71,.bool false)] [] ?_
   refine NL (aj.np (NX ?_))
   refine CF (af.skip (NX (SR (gK 1 [(73,.nilIface)] [] ?_))))
   refine gL [] (Ir) ?_
   rintro _ _ ⟨rfl,rfl⟩
   refine gK 5 [(10,vI 0)] [] ?_
   refine NN (af.seq (af.jS (S:=[.blk b1 [.slice A (ns.length) (c),vI (root),vI (X.cN),vI (X.cB),vI (X.cH),vI (X.cS),vI (X.cZ),.slice none (0) (0),.slice none (0) (0)] 34]) [(true,0),(true,1),(true,3),(true,4),(true,5),(false,2),(false,6),(false,7),(true,8),(true,9),(true,10),(true,11),(false,12)] [6] (by kernel_rfl) (by kernel_rfl) rfl (by kernel_rfl) ?_))
   refine gG [(false,2),(false,6),(false,7),(true,8),(true,9),(true,10),(true,11),(false,12)] [(5,vP G.w),(8,vP b5),(10,vI 0),(79,.agg #[.slice A (ns.length) (c)]),(82,vI (root)),(83,.slice Ap (ps.length) (cp))] [0,1,3,4,5] [(1,a_ 0 b1),(3,a_ 0 b1)] ?_
   refine eO.U1 ?_
   have qf:Grown oe oe:=.inl rfl
   refine ji.LX (ι:=Nat×Bs×(Option Addr)×Lay) (B:=fun ((c7,A6,B6,K8):Nat×Bs×(Option Addr)×Lay)=>A6) (Φ:=fun ((c7,A6,B6,K8):Nat×Bs×(Option Addr)×Lay)=>(aE A6 B6 ns K8)) (fr':=fun ((c7,A6,B6,K8):Nat×Bs×(Option Addr)×Lay)=>[(5,vP G.w),(8,vP b5),(10,vI 0),(80,.agg #[.slice B6 (ns.length) (c7)]),(82,vI (root)),(83,.slice Ap (ps.length) (cp))]) (hp':=fun ((c7,A6,B6,K8):Nat×Bs×(Option Addr)×Lay)=>[.abs (aH 108 10 Ao ((av Sr).length) co (bP Ko (av Sr))),.abs (cW (fZ (av Sr) Ko) (av Sr).length),.abs (cW (gh (av Sr) Ko) (av Sr).length),wA G ([]) ([]) root Sr V3 q3.1,.blk b5 [vI (cr),.bool ow,vI (mr)] 55,.abs R,.blk b1 [.slice A (ns.length) (c),vI (root),vI (X.cN),vI (X.cB),vI (X.cH),vI (X.cS),vI (X.cZ),.slice none (0) (0),.slice none (0) (0)] 34]) [6] qf (by kernel_rfl) ?_ rfl (fun _=>by kernel_rfl) ?_
   ·refine ak.fJ (d:=(some 80)) (R:=[.abs (aH 108 10 Ao ((av Sr).length) co (bP Ko (av Sr))),.abs (cW (fZ (av Sr) Ko) (av Sr).length),.abs (cW (gh (av Sr) Ko) (av Sr).length),wA G ([]) ([]) root Sr V3 q3.1,.blk b5 [vI (cr),.bool ow,vI (mr)] 55,.abs R,.blk b1 [.slice A (ns.length) (c),vI (root),vI (X.cN),vI (X.cB),vI (X.cH),vI (X.cS),vI (X.cZ),.slice none (0) (0),.slice none (0) (0)] 34]) (pk:=[0,1,2,3,4,5,6]) (fun _=>by kernel_rfl) (tB A c ns Y hG (uw hB) (zS hB)) rfl (by kernel_rfl) ?_
    rintro A6 _ _ gE ⟨B6,c7,K8,rfl,rfl,ql⟩
    replace hG:=hG.le gE
    replace hP:=hP.le gE
    replace hg:=hg.le gE
    replace hE:=hE.le gE
    replace ja:=ja.le gE
    replace hle0:=hle0.trans gE
    refine NL ?_
    exact aj.Gr (c7,A6,B6,K8) rfl gE (ql) (idx:=[5,8,10,80,82,83]) (pk:=[0,1,2,3,4,5,6]) (fun _=>by kernel_rfl) rfl (by kernel_rfl)
   rintro⟨c7,A6,B6,K8⟩ gE ql
   show ji _ A6 _ _ _ _ _ [(5,vP G.w),(8,vP b5),(10,vI 0),(80,.agg #[.slice B6 (ns.length) (c7)]),(82,vI (root)),(83,.slice Ap (ps.length) (cp))] [.abs (aH 108 10 Ao ((av Sr).length) co (bP Ko (av Sr))),.abs (cW (fZ (av Sr) Ko) (av Sr).length),.abs (cW (gh (av Sr) Ko) (av Sr).length),wA G ([]) ([]) root Sr V3 q3.1,.blk b5 [vI (cr),.bool ow,vI (mr)] 55,.abs R,.blk b1 [.slice A (ns.length) (c),vI (root),vI (X.cN),vI (X.cB),vI (X.cH),vI (X.cS),vI (X.cZ),.slice none (0) (0),.slice none (0) (0)] 34] _
   replace hG:=hG.le gE
   replace hP:=hP.le gE
   replace hg:=hg.le gE
   replace hE:=hE.le gE
   replace ja:=ja.le gE
   replace hle0:=hle0.trans gE
   replace qf:=qf.trans gE
   refine ji.LX (ι:=Bs×(Option Addr)×Nat) (B:=fun ((p8,Be,DB):Bs×(Option Addr)×Nat)=>p8) (Φ:=fun ((p8,Be,DB):Bs×(Option Addr)×Nat)=>(dR p8 Be ps)) (fr':=fun ((p8,Be,DB):Bs×(Option Addr)×Nat)=>[(5,vP G.w),(8,vP b5),(10,vI 0),(80,.agg #[.slice B6 (ns.length) (c7)]),(82,vI (root)),(84,.slice Be (ps.length) (DB))]) (hp':=fun ((p8,Be,DB):Bs×(Option Addr)×Nat)=>[.abs (aH 108 10 Ao ((av Sr).length) co (bP Ko (av Sr))),.abs (cW (fZ (av Sr) Ko) (av Sr).length),.abs (cW (gh (av Sr) Ko) (av Sr).length),wA G ([]) ([]) root Sr V3 q3.1,.blk b5 [vI (cr),.bool ow,vI (mr)] 55,.abs R,.blk b1 [.slice A (ns.length) (c),vI (root),vI (X.cN),vI (X.cB),vI (X.cH),vI (X.cS),vI (X.cZ),.slice none (0) (0),.slice none (0) (0)] 34]) [6] qf (by kernel_rfl) ?_ rfl (fun _=>by kernel_rfl) ?_
   ·refine ak.fJ (d:=(some 84)) (R:=[.abs (aH 108 10 Ao ((av Sr).length) co (bP Ko (av Sr))),.abs (cW (fZ (av Sr) Ko) (av Sr).length),.abs (cW (gh (av Sr) Ko) (av Sr).length),wA G ([]) ([]) root Sr V3 q3.1,.blk b5 [vI (cr),.bool ow,vI (mr)] 55,.abs R,.blk b1 [.slice A (ns.length) (c),vI (root),vI (X.cN),vI (X.cB),vI (X.cH),vI (X.cS),vI (X.cZ),.slice none (0) (0),.slice none (0) (0)] 34]) (pk:=[0,1,2,3,4,5,6]) (fun _=>by kernel_rfl) (zA Ap cp ps hP hpl) rfl (by kernel_rfl) ?_
    rintro p8 _ _ cV ⟨Be,DB,rfl,rfl,IV⟩
    replace hG:=hG.le cV
    replace hP:=hP.le cV
    replace hg:=hg.le cV
    replace hE:=hE.le cV
    replace ja:=ja.le cV
    replace ql:=ql.le cV
    replace hle0:=hle0.trans cV
    refine NL ?_
    exact aj.Gr (p8,Be,DB) rfl cV (IV) (idx:=[5,8,10,80,82,84]) (pk:=[0,1,2,3,4,5,6]) (fun _=>by kernel_rfl) rfl (by kernel_rfl)
   rintro⟨p8,Be,DB⟩ cV IV
   show ji _ p8 _ _ _ _ _ [(5,vP G.w),(8,vP b5),(10,vI 0),(80,.agg #[.slice B6 (ns.length) (c7)]),(82,vI (root)),(84,.slice Be (ps.length) (DB))] [.abs (aH 108 10 Ao ((av Sr).length) co (bP Ko (av Sr))),.abs (cW (fZ (av Sr) Ko) (av Sr).length),.abs (cW (gh (av Sr) Ko) (av Sr).length),wA G ([]) ([]) root Sr V3 q3.1,.blk b5 [vI (cr),.bool ow,vI (mr)] 55,.abs R,.blk b1 [.slice A (ns.length) (c),vI (root),vI (X.cN),vI (X.cB),vI (X.cH),vI (X.cS),vI (X.cZ),.slice none (0) (0),.slice none (0) (0)] 34] _
   replace hG:=hG.le cV
   replace hP:=hP.le cV
   replace hg:=hg.le cV
   replace hE:=hE.le cV
   replace ja:=ja.le cV
   replace ql:=ql.le cV
   replace hle0:=hle0.trans cV
   replace qf:=qf.trans cV
   refine ji.cut (ι:=Unit) (fr':=fun (_:Unit)=>[(5,vP G.w),(8,vP b5),(10,vI 0),(85,.tuple #[vI ((eT ns root ps).1),vI ((eT ns root ps).2)])]) (hp':=fun (_:Unit)=>[.abs (aH 108 10 Ao ((av Sr).length) co (bP Ko (av Sr))),.abs (cW (fZ (av Sr) Ko) (av Sr).length),.abs (cW (gh (av Sr) Ko) (av Sr).length),wA G ([]) ([]) root Sr V3 q3.1,.blk b5 [vI (cr),.bool ow,vI (mr)] 55,.abs R,.blk b1 [.slice A (ns.length) (c),vI (root),vI (X.cN),vI (X.cB),vI (X.cH),vI (X.cS),vI (X.cZ),.slice none (0) (0),.slice none (0) (0)] 34]) [6] qf (by kernel_rfl) ?_ rfl (fun _=>by kernel_rfl) ?_
   ·refine gL [] (Kv B6 c7 ns K8 ql hB.u root (Mh hrw) Be DB ps IV (by omega)) ?_
    rintro _ _ ⟨rfl,rfl⟩
    refine NL ?_
    exact MD () [5,8,10,85] [0,1,2,3,4,5,6]
   rintro _
   refine gH [(false,12)] [(5,vP G.w),(8,vP b5),(10,vI 0),(12,vI ((eT ns root ps).1)),(87,vI ((eT ns root ps).2))] [8,9,10,11] [] ?_
   refine ji.last (by kernel_rfl) ?_
   refine gK 1 [(13,vI ((eT ns root ps).2))] [] ?_
   refine NL (aj.np (NX (af.seq (af.seq ?_))))
   have hkk:True:=trivial
   refine af.region (gK 10 [(97,.bool false)] [(1,p_ ⟨[],none,none,none,some (.bool false)⟩ [((.bool false:Value))=(.bool false)] ⟨rfl,trivial⟩),(4,p_ ⟨[],none,none,none,some (.bool false)⟩ [((.bool false:Value))=(.bool false)] ⟨rfl,trivial⟩),(8,p_ ⟨[],none,none,none,some (.bool false)⟩ [((.bool false:Value))=(.bool false)] ⟨rfl,trivial⟩)] ?_)
   refine NN (CF (af.skip (NX (af.seq (SR (gK 2 [(102,.bool false)] [(1,p_ ⟨[],none,none,none,some (.bool false)⟩ [((.bool false:Value))=(.bool false)] ⟨rfl,trivial⟩)] ?_))))))
   refine NN (CF (af.skip (NX (af.seq ?_))))
   obtain⟨S4,c4,eS⟩:∃ Sx cx,aS [] [] root (nr+1) Sr (FQ cr)=(Sx,cx):=⟨_,_,rfl⟩
   obtain⟨hs0,hs1,hs2⟩:=OG Fs hg2 hk2 hz2 eS
   refine af.EC (S:=[.blk b5 [vI (cr),.bool ow,vI (mr)] 55,.abs (nA G)]) 10 [(true,0),(true,1),(true,2),(true,3),(true,4),(true,5),(false,6),(true,7),(true,8),(true,9)] [(false,11),(false,12)] (by kernel_rfl) (by kernel_rfl) (fun _ h=>(h.Dw (i:=3) rfl).pick (idx:=[4,3]) rfl rfl) ?_
   refine gJ [(false,6),(true,7),(true,8),(true,9)] [(12,vI ((eT ns root ps).1)),(13,vI ((eT ns root ps).2)),(127,.agg #[.iface 39 (vP G.w)]),(129,vI (cr))] [0,1,2,3,4,5] [(3,p_ ⟨[.view 1 (.iface 39 (vP G.w))],none,none,none,none⟩ [(∀ F w,(nA G).h F w->w.cell? ⟨G.w,0,none⟩=some (.iface 39 (vP G.w)))] ⟨ol,trivial⟩),(5,a_ 0 b5)] ?_
   refine zB.beside (j:=10) (dj:=14) (R:=fun f_ l_=>∃ V4:WV,∃ q4:{ l:List aB // l.length=nr+1 },f_=[(132,vI (c4.code)),(131,.agg #[vI (c4.answer),vI (c4.other),vI (c4.mode),vI (c4.uid),vI (c4.gid),vI (c4.sec),vI (c4.nano)]),(123,.tuple #[.agg #[vI (c4.answer),vI (c4.other),vI (c4.mode),vI (c4.uid),vI (c4.gid),vI (c4.sec),vI (c4.nano)],vI (c4.code)]),(130,.tuple #[.agg #[vI (c4.answer),vI (c4.other),vI (c4.mode),vI (c4.uid),vI (c4.gid),vI (c4.sec),vI (c4.nano)],vI (c4.code)]),(12,vI ((eT ns root ps).1)),(13,vI ((eT ns root ps).2)),(127,.agg #[.iface 39 (vP G.w)]),(129,vI (cr))]/\l_=[wA G ([]) ([]) root S4 V4 q4.1]) (pc:=[wA G ([]) ([]) root Sr V3 q3.1]) (pj:=[]) (Z:=[.abs (aH 108 10 Ao ((av Sr).length) co (bP Ko (av Sr))),.abs (cW (fZ (av Sr) Ko) (av Sr).length),.abs (cW (gh (av Sr) Ko) (av Sr).length),.blk b5 [vI (cr),.bool ow,vI (mr)] 55,.abs R,.blk b1 [.slice A (ns.length) (c),vI (root),vI (X.cN),vI (X.cB),vI (X.cH),vI (X.cS),vI (X.cZ),.slice none (0) (0),.slice none (0) (0)] 34]) [3,0,1,2,4,5,6] (IL G) [(false,6,130),(true,7,123),(true,8,131),(true,9,132)] (by kernel_rfl) rfl rfl (IQ (S1:=[.blk b5 [vI (cr),.bool ow,vI (mr)] 55]) (pS:=[3]) rfl rfl) (zC 0 rfl) rfl rfl (iM.of (ι:=Nat) (v:=fun (b13:Nat)=>vP b13) (l:=fun (b13:Nat)=>[.blk b13 [vI 0,vI 0,vI 0,vI 0,vI 0,vI 0,vI 0] 65]) [130,123,131,132] rfl rfl rfl rfl ?_) ?_ ?_
   ·intro u Aq
    show ak _ _ _ _ _ [(130,(u 130)),(123,(u 123)),(131,(u 131)),(132,(u 132)),(12,vI ((eT ns root ps).1)),(13,vI ((eT ns root ps).2)),(127,.agg #[.iface 39 (vP G.w)]),(129,vI (cr))] [.abs Aq] _
    refine gN 1 (fun b13=>[(14,vP b13)]) (fun _=>[]) (fun _=>[]) (fun b13=>.blk b13 [vI 0,vI 0,vI 0,vI 0,vI 0,vI 0,vI 0] 65) (fun b13=>?_)
    refine NL ?_
    exact MD b13 [14,130,123,131,132,12,13,127,129] [1,0]
   ·refine gy.step (iM.of (ι:=WV×({ l:List aB // l.length=nr+1 })) (v:=fun ((V4,q4):WV×({ l:List aB // l.length=nr+1 }))=>.tuple #[.agg #[vI (c4.answer),vI (c4.other),vI (c4.mode),vI (c4.uid),vI (c4.gid),vI (c4.sec),vI (c4.nano)],vI (c4.code)]) (l:=fun ((V4,q4):WV×({ l:List aB // l.length=nr+1 }))=>[wA G ([]) ([]) root S4 V4 q4.1]) [14] rfl rfl rfl rfl ?_) rfl ?_
    ·intro u Aq
     show ak _ _ _ _ _ [(14,(u 14)),(12,vI ((eT ns root ps).1)),(13,vI ((eT ns root ps).2)),(127,.agg #[.iface 39 (vP G.w)]),(129,vI (cr))] [wA G ([]) ([]) root Sr V3 q3.1,.abs Aq] _
     refine gL [0] (Oh (β:=p8) (G:=G) (V:=V3) (tr:=q3.1) (S2:=S4) (c2:=c4) hrw Fs (by have:=q3.2;omega) ja qY hg cr hwc q3.2 eS) ?_
     rintro _ _ ⟨V4,q4,rfl,rfl⟩
     refine NL ?_
     exact MD (V4,q4) [130,14,12,13,127,129] [0,1]
    rintro _ _ ⟨⟨V4,q4⟩,rfl,rfl⟩
    refine⟨zC 0 rfl,?_⟩
    refine gy.read (v:=.tuple #[.agg #[vI (c4.answer),vI (c4.other),vI (c4.mode),vI (c4.uid),vI (c4.gid),vI (c4.sec),vI (c4.nano)],vI (c4.code)]) (fun _=>by kernel_rfl) rfl rfl ?_
    refine gy.read (v:=.agg #[vI (c4.answer),vI (c4.other),vI (c4.mode),vI (c4.uid),vI (c4.gid),vI (c4.sec),vI (c4.nano)]) (fun _=>by kernel_rfl) rfl rfl ?_
    refine gy.read (v:=.int .i64 (c4.code)) (fun _=>by kernel_rfl) rfl rfl ?_
    exact⟨V4,q4,rfl,rfl⟩
   rintro _ _ ⟨V4,q4,rfl,rfl⟩ _ _ ⟨b13,rfl,rfl⟩
   refine eO.QA (ι:=Unit) (fr':=fun (_:Unit)=>[(12,vI ((eT ns root ps).1)),(13,vI ((eT ns root ps).2)),(14,vP b13),(132,vI (c4.code))]) (hp':=fun (_:Unit)=>[wA G ([]) ([]) root S4 V4 q4.1,.blk b13 [vI (c4.answer),vI (c4.other),vI (c4.mode),vI (c4.uid),vI (c4.gid),vI (c4.sec),vI (c4.nano)] 65,.abs (aH 108 10 Ao ((av Sr).length) co (bP Ko (av Sr))),.abs (cW (fZ (av Sr) Ko) (av Sr).length),.abs (cW (gh (av Sr) Ko) (av Sr).length),.blk b5 [vI (cr),.bool ow,vI (mr)] 55,.abs R,.blk b1 [.slice A (ns.length) (c),vI (root),vI (X.cN),vI (X.cB),vI (X.cH),vI (X.cS),vI (X.cZ),.slice none (0) (0),.slice none (0) (0)] 34]) (by kernel_rfl) ?_ (fun _ _ h=>(h.Dw (i:=0) rfl).pick (idx:=[5,0]) rfl rfl) ?_
   ·refine gC 1 [] [(0,A_ 1 b13 7)] [(1,[(0,vI (c4.answer)),(1,vI (c4.other)),(2,vI (c4.mode)),(3,vI (c4.uid)),(4,vI (c4.gid)),(5,vI (c4.sec)),(6,vI (c4.nano))])] ?_
    refine NL ?_
    exact MD () [12,13,14,132] [0,1,2,3,4,5,6,7]
   rintro _
   refine eO.last (by kernel_rfl) ?_
   refine gK 1 [(6,vI (c4.code))] [] ?_
   refine NL (aj.np (NX (SR ?_)))
   refine gK 18 [(4,.bool true)] [(1,p_ ⟨[],none,none,none,some (.bool true)⟩ [((.bool (decide ((c4.code:Int)=(0:Int))):Value))=(.bool true)] ⟨congrArg Value.bool (decide_eq_true (hs0)),trivial⟩),(4,p_ ⟨[],none,none,none,some (.bool true)⟩ [((.bool (decide (((eT ns root ps).2:Int)=(0:Int))):Value))=(.bool true)] ⟨congrArg Value.bool (decide_eq_true (YO)),trivial⟩),(8,a_ 1 b13),(10,p_ ⟨[],none,none,none,some (.bool true)⟩ [((.bool (decide ((c4.answer:Int)=((eT ns root ps).1:Int))):Value))=(.bool true)] ⟨congrArg Value.bool (decide_eq_true (hs1)),trivial⟩),(14,a_ 1 b13),(15,p_ ⟨[],none,none,none,some (.bool true)⟩ [((.bool (decide ((c4.other:Int)=(2:Int))):Value))=(.bool true)] ⟨congrArg Value.bool (decide_eq_true (hs2)),trivial⟩)] ?_
   refine NN (af.ret ?_)
   exact aj.wk (v:=.bool true) (l:=[]) (aZ:=[]) [] [6] hle0 (fun _=>by kernel_rfl) trivial rfl (by kernel_rfl) (rfl)
  have Mk:Sr.us.length=1:=hw.bad hc
  refine af.EC (S:=[.blk b1 [.slice A (ns.length) (c),vI (root),vI (X.cN),vI (X.cB),vI (X.cH),vI (X.cS),vI (X.cZ),.slice none (0) (0),.slice none (0) (0)] 34,.abs (nA G)]) 11 [(true,0),(true,1),(true,2),(true,3),(true,4),(true,5),(false,6),(false,7),(true,8),(true,9),(true,10)] [(false,12),(false,13)] (by kernel_rfl) (by kernel_rfl) (fun _ h=>(h.Dw (i:=0) rfl).pick (idx:=[2,0]) rfl rfl) ?_
  refine gJ [(false,6),(false,7),(true,8),(true,9),(true,10)] [(1,.slice Ap (ps.length) (cp)),(2,vP b1),(5,vP G.w),(54,.agg #[.iface 39 (vP G.w)]),(55,vI (c2.answer)),(56,.slice Ap (ps.length) (cp))] [0,1,2,3,4,5] [(3,p_ ⟨[.view 1 (.iface 39 (vP G.w))],none,none,none,none⟩ [(∀ F w,(nA G).h F w->w.cell? ⟨G.w,0,none⟩=some (.iface 39 (vP G.w)))] ⟨ol,trivial⟩)] ?_
  refine zB.beside (j:=11) (dj:=8) (R:=fun f_ l_=>∃ B5:Option Addr,∃ p5:Nat,∃ V3:WV,∃ q3:{ l:List aB // l.length=nr },∃ e:Nat,∃ nm:ByteArray,f_=[(60,.iface 92 (vP e)),(59,.agg #[vI (0),.bool false,vI (mr)]),(50,.tuple #[.agg #[vI (0),.bool false,vI (mr)],.iface 92 (vP e)]),(58,.tuple #[.agg #[vI (0),.bool false,vI (mr)],.iface 92 (vP e)]),(57,.slice B5 (ps.length) (p5)),(1,.slice Ap (ps.length) (cp)),(2,vP b1),(5,vP G.w),(54,.agg #[.iface 39 (vP G.w)]),(55,vI (c2.answer)),(56,.slice Ap (ps.length) (cp))]/\l_=[wA G ([]) ([]) root Sr V3 q3.1,.blk e [vI (ar),.string nm,vI (kr)] 94]) (pc:=[wA G ([]) ([]) root S2 V2 q2.1]) (pj:=[]) (Z:=[.abs R,.blk b1 [.slice A (ns.length) (c),vI (root),vI (X.cN),vI (X.cB),vI (X.cH),vI (X.cS),vI (X.cZ),.slice none (0) (0),.slice none (0) (0)] 34]) [0,1,2] (IL G) [(false,6,57),(false,7,58),(true,8,50),(true,9,59),(true,10,60)] (by kernel_rfl) rfl rfl (IQ (S1:=[.blk b1 [.slice A (ns.length) (c),vI (root),vI (X.cN),vI (X.cB),vI (X.cH),vI (X.cS),vI (X.cZ),.slice none (0) (0),.slice none (0) (0)] 34]) (pS:=[1]) rfl rfl) (zC 0 rfl) rfl rfl (iM.of (ι:=Nat) (v:=fun (b14:Nat)=>vP b14) (l:=fun (b14:Nat)=>[.blk b14 [vI 0,.bool false,vI 0] 55]) [57,58,50,59,60] rfl rfl rfl rfl ?_) ?_ ?_
  ·intro u Aq
   show ak _ _ _ _ _ [(57,(u 57)),(58,(u 58)),(50,(u 50)),(59,(u 59)),(60,(u 60)),(1,.slice Ap (ps.length) (cp)),(2,vP b1),(5,vP G.w),(54,.agg #[.iface 39 (vP G.w)]),(55,vI (c2.answer)),(56,.slice Ap (ps.length) (cp))] [.abs Aq] _
   refine gN 1 (fun b14=>[(8,vP b14)]) (fun _=>[]) (fun _=>[]) (fun b14=>.blk b14 [vI 0,.bool false,vI 0] 55) (fun b14=>?_)
   refine NL ?_
   exact MD b14 [8,57,58,50,59,60,1,2,5,54,55,56] [1,0]
  ·refine gy.step (iM.of (ι:=(Option Addr)×Nat) (v:=fun ((B5,p5):(Option Addr)×Nat)=>.slice B5 (ps.length) (p5)) (l:=fun ((B5,p5):(Option Addr)×Nat)=>[.abs (aH 9 1 B5 ps.length p5 (gZ ps)),wA G ([]) ([]) root S2 V2 q2.1]) [8] rfl rfl rfl rfl ?_) rfl ?_
   ·intro u Aq
    show ak _ _ _ _ _ [(8,(u 8)),(1,.slice Ap (ps.length) (cp)),(2,vP b1),(5,vP G.w),(54,.agg #[.iface 39 (vP G.w)]),(55,vI (c2.answer)),(56,.slice Ap (ps.length) (cp))] [wA G ([]) ([]) root S2 V2 q2.1,.abs Aq] _
    refine gL [] (xY (β:=oe) Ap cp ps hP hpl) ?_
    rintro _ _ ⟨B5,p5,rfl,rfl⟩
    refine NL ?_
    exact MD (B5,p5) [57,8,1,2,5,54,55,56] [0,1,2]
   rintro _ _ ⟨⟨B5,p5⟩,rfl,rfl⟩
   refine⟨zC 1 rfl,?_⟩
   refine gy.step (iM.of (ι:=WV×({ l:List aB // l.length=nr })×Nat×ByteArray) (v:=fun ((V3,q3,e,nm):WV×({ l:List aB // l.length=nr })×Nat×ByteArray)=>.tuple #[.agg #[vI (0),.bool false,vI (mr)],.iface 92 (vP e)]) (l:=fun ((V3,q3,e,nm):WV×({ l:List aB // l.length=nr })×Nat×ByteArray)=>[wA G ([]) ([]) root Sr V3 q3.1,.blk e [vI (ar),.string nm,vI (kr)] 94]) [8] rfl rfl rfl rfl ?_) rfl ?_
   ·intro u Aq
    show ak _ _ _ _ _ [(8,(u 8)),(57,.slice B5 (ps.length) (p5)),(1,.slice Ap (ps.length) (cp)),(2,vP b1),(5,vP G.w),(54,.agg #[.iface 39 (vP G.w)]),(55,vI (c2.answer)),(56,.slice Ap (ps.length) (cp))] [.abs (aH 9 1 B5 ps.length p5 (gZ ps)),wA G ([]) ([]) root S2 V2 q2.1,.abs Aq] _
    refine gL [1,0] (Jv (β:=oe) (A:=B5) (kN:=p5) (G:=G) (V:=V2) (r:=⟨Sr,nr,cr,ow,mr,kr,ar⟩) hc hrw xW q2.2 (by decide) ja qY hg hE Fj hpl hps hr) ?_
    rintro _ _ ⟨V3,q3,e,nm,rfl,rfl⟩
    refine NL ?_
    exact MD (V3,q3,e,nm) [58,8,57,1,2,5,54,55,56] [0,1,2]
   rintro _ _ ⟨⟨V3,q3,e,nm⟩,rfl,rfl⟩
   refine⟨zC 0 rfl,?_⟩
   refine gy.read (v:=.tuple #[.agg #[vI (0),.bool false,vI (mr)],.iface 92 (vP e)]) (fun _=>by kernel_rfl) rfl rfl ?_
   refine gy.read (v:=.agg #[vI (0),.bool false,vI (mr)]) (fun _=>by kernel_rfl) rfl rfl ?_
   refine gy.read (v:=.iface 92 (vP e)) (fun _=>by kernel_rfl) rfl rfl ?_
   exact⟨B5,p5,V3,q3,e,nm,rfl,rfl⟩
  rintro _ _ ⟨B5,p5,V3,q3,e,nm,rfl,rfl⟩ _ _ ⟨b14,rfl,rfl⟩
  refine eO.QA (ι:=Unit) (fr':=fun (_:Unit)=>[(1,.slice Ap (ps.length) (cp)),(2,vP b1),(5,vP G.w),(8,vP b14),(60,.iface 92 (vP e))]) (hp':=fun (_:Unit)=>[wA G ([]) ([]) root Sr V3 q3.1,.blk e [vI (ar),.string nm,vI (kr)] 94,.blk b14 [vI (0),.bool false,vI (mr)] 55,.abs R,.blk b1 [.slice A (ns.length) (c),vI (root),vI (X.cN),vI (X.cB),vI (X.cH),vI (X.cS),vI (X.cZ),.slice none (0) (0),.slice none (0) (0)] 34]) (by kernel_rfl) ?_ (fun _ _ h=>(h.Dw (i:=0) rfl).pick (idx:=[4,0]) rfl rfl) ?_
  ·refine gC 1 [] [(0,A_ 2 b14 3)] [(2,[(0,vI (0)),(2,vI (mr))])] ?_
   refine NL ?_
   exact MD () [1,2,5,8,60] [0,1,2,3,4]
  rintro _
  refine eO.last (by kernel_rfl) ?_
  refine gK 1 [(9,.iface 92 (vP e))] [] ?_
  refine NL (aj.np (NX (af.seq (af.seq ?_))))
  refine af.jS (S:=[.blk b1 [.slice A (ns.length) (c),vI (root),vI (X.cN),vI (X.cB),vI (X.cH),vI (X.cS),vI (X.cZ),.slice none (0) (0),.slice none (0) (0)] 34,.blk b14 [vI (0),.bool false,vI (mr)] 55]) [(true,0),(true,2),(true,3),(false,1),(false,4),(true,5),(true,6),(true,7),(true,8),(true,9),(false,10)] [4,2] (by kernel_rfl) (by kernel_rfl) rfl (by kernel_rfl) ?_
  refine gG [(false,1),(false,4),(true,5),(true,6),(true,7),(true,8),(true,9),(false,10)] [(1,.slice Ap (ps.length) (cp)),(2,vP b1),(5,vP G.w),(8,vP b14),(9,.iface 92 (vP e)),(61,vP G.w),(64,.agg #[.slice A (ns.length) (c)])] [0,2,3] [(2,a_ 0 b1)] ?_
  refine eO.cut (ι:=(Option Addr)×Nat×Lay) (fr':=fun ((Ao,co,Ko):(Option Addr)×Nat×Lay)=>[(1,.slice Ap (ps.length) (cp)),(2,vP b1),(5,vP G.w),(8,vP b14),(9,.iface 92 (vP e)),(62,.agg #[.slice Ao ((av Sr).length) (co)]),(64,.agg #[.slice A (ns.length) (c)])]) (hp':=fun ((Ao,co,Ko):(Option Addr)×Nat×Lay)=>[wA G ([]) ([]) root Sr V3 q3.1,.abs (aH 108 10 Ao ((av Sr).length) co (bP Ko (av Sr))),.abs (cW (fZ (av Sr) Ko) (av Sr).length),.abs (cW (gh (av Sr) Ko) (av Sr).length),.blk e [vI (ar),.string nm,vI (kr)] 94,.blk b14 [vI (0),.bool false,vI (mr)] 55,.abs R,.blk b1 [.slice A (ns.length) (c),vI (root),vI (X.cN),vI (X.cB),vI (X.cH),vI (X.cS),vI (X.cZ),.slice none (0) (0),.slice none (0) (0)] 34]) [7,5] (by kernel_rfl) ?_ rfl (fun _=>by kernel_rfl) ?_
  ·refine gL [0] (zy (β:=oe) (G:=G) (fs:=[]) (xs:=[]) (root:=root) (S:=Sr) (V:=V3) (tr:=q3.1) Fs) ?_
   rintro _ _ ⟨Ao,co,Ko,rfl,rfl⟩
   refine NL ?_
   exact MD (Ao,co,Ko) [1,2,5,8,9,62,64] [0,1,2,3,4,5,6,7]
  rintro⟨Ao,co,Ko⟩
  refine eO.cut (ι:=Unit) (fr':=fun (_:Unit)=>[(1,.slice Ap (ps.length) (cp)),(2,vP b1),(5,vP G.w),(8,vP b14),(9,.iface 92 (vP e)),(65,.bool true)]) (hp':=fun (_:Unit)=>[.abs (aH 108 10 Ao ((av Sr).length) co (bP Ko (av Sr))),.abs (cW (fZ (av Sr) Ko) (av Sr).length),.abs (cW (gh (av Sr) Ko) (av Sr).length),wA G ([]) ([]) root Sr V3 q3.1,.blk e [vI (ar),.string nm,vI (kr)] 94,.blk b14 [vI (0),.bool false,vI (mr)] 55,.abs R,.blk b1 [.slice A (ns.length) (c),vI (root),vI (X.cN),vI (X.cB),vI (X.cH),vI (X.cS),vI (X.cZ),.slice none (0) (0),.slice none (0) (0)] 34]) [7,5] (by kernel_rfl) ?_ rfl (fun _=>by kernel_rfl) ?_
  ·refine gL [1,2,3] (xS (β:=oe) Ao A co c (av Sr) ns Ko Y hG (Ik Fs.toInv0) (Ij Fs.toInv0) (decide_eq_true WX)) ?_
   rintro _ _ ⟨rfl,rfl⟩
   refine NL ?_
   exact MD () [1,2,5,8,9,65] [0,1,2,3,4,5,6,7]
  rintro _
  refine gG [(false,10)] [(1,.slice Ap (ps.length) (cp)),(2,vP b1),(5,vP G.w),(8,vP b14),(9,.iface 92 (vP e)),(67,.bool false),(70,.bool false)] [5,6,7,8,9] [(3,a_ 1 b14),(4,p_ ⟨[],none,none,none,some (.bool false)⟩ [((.bool (!(decide ((mr:Int)=(0:Int)))):Value))=(.bool false)] ⟨congrArg (fun b=>Value.bool !b) (decide_eq_true (WW)),trivial⟩)] ?_
  refine eO.last (by kernel_rfl) ?_
  refine gK 1 [(71,.bool false)] [] ?_
  refine NL (aj.np (NX ?_))
  refine CF (af.skip (NX (SR (gK 1 [(73,.iface 92 (vP e))] [] ?_))))
  refine gL [4] (xX hE e ar nm kr) ?_
  rintro _ _ ⟨rfl,rfl⟩
  refine gK 5 [(10,vI (kr))] [] ?_
  refine NN (af.seq (af.jS (S:=[.blk b1 [.slice A (ns.length) (c),vI (root),vI (X.cN),vI (X.cB),vI (X.cH),vI (X.cS),vI (X.cZ),.slice none (0) (0),.slice none (0) (0)] 34]) [(true,0),(true,1),(true,3),(true,4),(true,5),(false,2),(false,6),(false,7),(true,8),(true,9),(true,10),(true,11),(false,12)] [7] (by kernel_rfl) (by kernel_rfl) rfl (by kernel_rfl) ?_))
  refine gG [(false,2),(false,6),(false,7),(true,8),(true,9),(true,10),(true,11),(false,12)] [(5,vP G.w),(8,vP b14),(10,vI (kr)),(79,.agg #[.slice A (ns.length) (c)]),(82,vI (root)),(83,.slice Ap (ps.length) (cp))] [0,1,3,4,5] [(1,a_ 0 b1),(3,a_ 0 b1)] ?_
  refine eO.U1 ?_
  have qf:Grown oe oe:=.inl rfl
  refine ji.LX (ι:=Nat×Bs×(Option Addr)×Lay) (B:=fun ((c16,om,x5,Fu):Nat×Bs×(Option Addr)×Lay)=>om) (Φ:=fun ((c16,om,x5,Fu):Nat×Bs×(Option Addr)×Lay)=>(aE om x5 ns Fu)) (fr':=fun ((c16,om,x5,Fu):Nat×Bs×(Option Addr)×Lay)=>[(5,vP G.w),(8,vP b14),(10,vI (kr)),(80,.agg #[.slice x5 (ns.length) (c16)]),(82,vI (root)),(83,.slice Ap (ps.length) (cp))]) (hp':=fun ((c16,om,x5,Fu):Nat×Bs×(Option Addr)×Lay)=>[.blk e [vI (ar),.string nm,vI (kr)] 94,.abs (aH 108 10 Ao ((av Sr).length) co (bP Ko (av Sr))),.abs (cW (fZ (av Sr) Ko) (av Sr).length),.abs (cW (gh (av Sr) Ko) (av Sr).length),wA G ([]) ([]) root Sr V3 q3.1,.blk b14 [vI (0),.bool false,vI (mr)] 55,.abs R,.blk b1 [.slice A (ns.length) (c),vI (root),vI (X.cN),vI (X.cB),vI (X.cH),vI (X.cS),vI (X.cZ),.slice none (0) (0),.slice none (0) (0)] 34]) [7] qf (by kernel_rfl) ?_ rfl (fun _=>by kernel_rfl) ?_
  ·refine ak.fJ (d:=(some 80)) (R:=[.blk e [vI (ar),.string nm,vI (kr)] 94,.abs (aH 108 10 Ao ((av Sr).length) co (bP Ko (av Sr))),.abs (cW (fZ (av Sr) Ko) (av Sr).length),.abs (cW (gh (av Sr) Ko) (av Sr).length),wA G ([]) ([]) root Sr V3 q3.1,.blk b14 [vI (0),.bool false,vI (mr)] 55,.abs R,.blk b1 [.slice A (ns.length) (c),vI (root),vI (X.cN),vI (X.cB),vI (X.cH),vI (X.cS),vI (X.cZ),.slice none (0) (0),.slice none (0) (0)] 34]) (pk:=[0,1,2,3,4,5,6,7]) (fun _=>by kernel_rfl) (tB A c ns Y hG (uw hB) (zS hB)) rfl (by kernel_rfl) ?_
   rintro om _ _ fq ⟨x5,c16,Fu,rfl,rfl,ql⟩
   replace hG:=hG.le fq
   replace hP:=hP.le fq
   replace hg:=hg.le fq
   replace hE:=hE.le fq
   replace ja:=ja.le fq
   replace hle0:=hle0.trans fq
   refine NL ?_
   exact aj.Gr (c16,om,x5,Fu) rfl fq (ql) (idx:=[5,8,10,80,82,83]) (pk:=[0,1,2,3,4,5,6,7]) (fun _=>by kernel_rfl) rfl (by kernel_rfl)
  rintro⟨c16,om,x5,Fu⟩ fq ql
  show ji _ om _ _ _ _ _ [(5,vP G.w),(8,vP b14),(10,vI (kr)),(80,.agg #[.slice x5 (ns.length) (c16)]),(82,vI (root)),(83,.slice Ap (ps.length) (cp))] [.blk e [vI (ar),.string nm,vI (kr)] 94,.abs (aH 108 10 Ao ((av Sr).length) co (bP Ko (av Sr))),.abs (cW (fZ (av Sr) Ko) (av Sr).length),.abs (cW (gh (av Sr) Ko) (av Sr).length),wA G ([]) ([]) root Sr V3 q3.1,.blk b14 [vI (0),.bool false,vI (mr)] 55,.abs R,.blk b1 [.slice A (ns.length) (c),vI (root),vI (X.cN),vI (X.cB),vI (X.cH),vI (X.cS),vI (X.cZ),.slice none (0) (0),.slice none (0) (0)] 34] _
  replace hG:=hG.le fq
  replace hP:=hP.le fq
  replace hg:=hg.le fq
  replace hE:=hE.le fq
  replace ja:=ja.le fq
  replace hle0:=hle0.trans fq
  replace qf:=qf.trans fq
  refine ji.LX (ι:=Bs×(Option Addr)×Nat) (B:=fun ((nS,Bg,DC):Bs×(Option Addr)×Nat)=>nS) (Φ:=fun ((nS,Bg,DC):Bs×(Option Addr)×Nat)=>(dR nS Bg ps)) (fr':=fun ((nS,Bg,DC):Bs×(Option Addr)×Nat)=>[(5,vP G.w),(8,vP b14),(10,vI (kr)),(80,.agg #[.slice x5 (ns.length) (c16)]),(82,vI (root)),(84,.slice Bg (ps.length) (DC))]) (hp':=fun ((nS,Bg,DC):Bs×(Option Addr)×Nat)=>[.blk e [vI (ar),.string nm,vI (kr)] 94,.abs (aH 108 10 Ao ((av Sr).length) co (bP Ko (av Sr))),.abs (cW (fZ (av Sr) Ko) (av Sr).length),.abs (cW (gh (av Sr) Ko) (av Sr).length),wA G ([]) ([]) root Sr V3 q3.1,.blk b14 [vI (0),.bool false,vI (mr)] 55,.abs R,.blk b1 [.slice A (ns.length) (c),vI (root),vI (X.cN),vI (X.cB),vI (X.cH),vI (X.cS),vI (X.cZ),.slice none (0) (0),.slice none (0) (0)] 34]) [7] qf (by kernel_rfl) ?_ rfl (fun _=>by kernel_rfl) ?_
  ·refine ak.fJ (d:=(some 84)) (R:=[.blk e [vI (ar),.string nm,vI (kr)] 94,.abs (aH 108 10 Ao ((av Sr).length) co (bP Ko (av Sr))),.abs (cW (fZ (av Sr) Ko) (av Sr).length),.abs (cW (gh (av Sr) Ko) (av Sr).length),wA G ([]) ([]) root Sr V3 q3.1,.blk b14 [vI (0),.bool false,vI (mr)] 55,.abs R,.blk b1 [.slice A (ns.length) (c),vI (root),vI (X.cN),vI (X.cB),vI (X.cH),vI (X.cS),vI (X.cZ),.slice none (0) (0),.slice none (0) (0)] 34]) (pk:=[0,1,2,3,4,5,6,7]) (fun _=>by kernel_rfl) (zA Ap cp ps hP hpl) rfl (by kernel_rfl) ?_
   rintro nS _ _ gi ⟨Bg,DC,rfl,rfl,IV⟩
   replace hG:=hG.le gi
   replace hP:=hP.le gi
   replace hg:=hg.le gi
   replace hE:=hE.le gi
   replace ja:=ja.le gi
   replace ql:=ql.le gi
   replace hle0:=hle0.trans gi
   refine NL ?_
   exact aj.Gr (nS,Bg,DC) rfl gi (IV) (idx:=[5,8,10,80,82,84]) (pk:=[0,1,2,3,4,5,6,7]) (fun _=>by kernel_rfl) rfl (by kernel_rfl)
  rintro⟨nS,Bg,DC⟩ gi IV
  show ji _ nS _ _ _ _ _ [(5,vP G.w),(8,vP b14),(10,vI (kr)),(80,.agg #[.slice x5 (ns.length) (c16)]),(82,vI (root)),(84,.slice Bg (ps.length) (DC))] [.blk e [vI (ar),.string nm,vI (kr)] 94,.abs (aH 108 10 Ao ((av Sr).length) co (bP Ko (av Sr))),.abs (cW (fZ (av Sr) Ko) (av Sr).length),.abs (cW (gh (av Sr) Ko) (av Sr).length),wA G ([]) ([]) root Sr V3 q3.1,.blk b14 [vI (0),.bool false,vI (mr)] 55,.abs R,.blk b1 [.slice A (ns.length) (c),vI (root),vI (X.cN),vI (X.cB),vI (X.cH),vI (X.cS),vI (X.cZ),.slice none (0) (0),.slice none (0) (0)] 34] _
  replace hG:=hG.le gi
  replace hP:=hP.le gi
  replace hg:=hg.le gi
  replace hE:=hE.le gi
  replace ja:=ja.le gi
  replace ql:=ql.le gi
  replace hle0:=hle0.trans gi
  replace qf:=qf.trans gi
  refine ji.cut (ι:=Unit) (fr':=fun (_:Unit)=>[(5,vP G.w),(8,vP b14),(10,vI (kr)),(85,.tuple #[vI ((eT ns root ps).1),vI ((eT ns root ps).2)])]) (hp':=fun (_:Unit)=>[.blk e [vI (ar),.string nm,vI (kr)] 94,.abs (aH 108 10 Ao ((av Sr).length) co (bP Ko (av Sr))),.abs (cW (fZ (av Sr) Ko) (av Sr).length),.abs (cW (gh (av Sr) Ko) (av Sr).length),wA G ([]) ([]) root Sr V3 q3.1,.blk b14 [vI (0),.bool false,vI (mr)] 55,.abs R,.blk b1 [.slice A (ns.length) (c),vI (root),vI (X.cN),vI (X.cB),vI (X.cH),vI (X.cS),vI (X.cZ),.slice none (0) (0),.slice none (0) (0)] 34]) [7] qf (by kernel_rfl) ?_ rfl (fun _=>by kernel_rfl) ?_
  ·refine gL [] (Kv x5 c16 ns Fu ql hB.u root (Mh hrw) Bg DC ps IV (by omega)) ?_
   rintro _ _ ⟨rfl,rfl⟩
   refine NL ?_
   exact MD () [5,8,10,85] [0,1,2,3,4,5,6,7]
  rintro _
  refine gH [(false,12)] [(5,vP G.w),(8,vP b14),(10,vI (kr)),(12,vI ((eT ns root ps).1)),(87,vI ((eT ns root ps).2))] [8,9,10,11] [] ?_
  refine ji.last (by kernel_rfl) ?_
  refine gK 1 [(13,vI ((eT ns root ps).2))] [] ?_
  refine NL (aj.np (NX (af.seq (af.seq ?_))))
  rcases Classical.em (kr=175) with IW|IW;rotate_left;rcases Classical.em (kr=130) with uN|uN;rotate_left;rcases Classical.em (kr=95) with OI|OI;rotate_left;rcases (YL hc).resolve_left (by omega) with hd|⟨hd,h4⟩;rotate_left;rcases h4 with h4|h4
  ·refine af.region (gK 10 [(97,.bool false)] [(1,p_ ⟨[],none,none,none,some (.bool false)⟩ [((.bool (decide ((kr:Int)=(175:Int))):Value))=(.bool false)] ⟨congrArg Value.bool (decide_eq_false (IW)),trivial⟩),(4,p_ ⟨[],none,none,none,some (.bool false)⟩ [((.bool (decide ((kr:Int)=(130:Int))):Value))=(.bool false)] ⟨congrArg Value.bool (decide_eq_false (uN)),trivial⟩),(8,p_ ⟨[],none,none,none,some (.bool false)⟩ [((.bool (decide ((kr:Int)=(95:Int))):Value))=(.bool false)] ⟨congrArg Value.bool (decide_eq_false (OI)),trivial⟩)] ?_)
   refine NN (CF (af.skip (NX (af.seq (SR (gK 2 [(102,.bool true)] [(1,p_ ⟨[],none,none,none,some (.bool true)⟩ [((.bool (!(decide ((kr:Int)=(0:Int)))):Value))=(.bool true)] ⟨congrArg (fun b=>Value.bool !b) (decide_eq_false hc),trivial⟩)] ?_))))))
   refine NN (CT (SR (gK 1 [(103,vP G.w)] [] ?_)))
   refine gL [4] (qM (β:=nS) (G:=G) (fs:=[]) (xs:=[]) (root:=root) (S:=Sr) (V:=V3) (tr:=q3.1)) ?_
   rintro _ _ ⟨rfl,rfl⟩
   refine gK 19 [(4,.bool true)] [(0,p_ ⟨[],none,none,none,some (.bool true)⟩ [((.bool (decide ((((Sr.us.length:Nat):Int):Int)=(1:Int))):Value))=(.bool true)] ⟨congrArg Value.bool (decide_eq_true (by omega)),trivial⟩),(4,p_ ⟨[],none,none,none,some (.bool false)⟩ [((.bool (decide (((eT ns root ps).2:Int)=(kr:Int))):Value))=(.bool false)] ⟨congrArg Value.bool (decide_eq_false (by omega)),trivial⟩),(7,p_ ⟨[],none,none,none,some (.bool true)⟩ [((.bool (decide (((eT ns root ps).2:Int)=(0:Int))):Value))=(.bool true)] ⟨congrArg Value.bool (decide_eq_true (hd)),trivial⟩),(10,p_ ⟨[],none,none,none,some (.bool true)⟩ [((.bool (decide ((kr:Int)=(173:Int))):Value))=(.bool true)] ⟨congrArg Value.bool (decide_eq_true (h4)),trivial⟩)] ?_
   refine NN (af.ret (aj.aq ?_))
   exact aj.wk (v:=.bool true) (l:=[]) (aZ:=[]) [] [6] hle0 (fun _=>by kernel_rfl) trivial rfl (by kernel_rfl) (rfl)
  ·refine af.region (gK 10 [(97,.bool false)] [(1,p_ ⟨[],none,none,none,some (.bool false)⟩ [((.bool (decide ((kr:Int)=(175:Int))):Value))=(.bool false)] ⟨congrArg Value.bool (decide_eq_false (IW)),trivial⟩),(4,p_ ⟨[],none,none,none,some (.bool false)⟩ [((.bool (decide ((kr:Int)=(130:Int))):Value))=(.bool false)] ⟨congrArg Value.bool (decide_eq_false (uN)),trivial⟩),(8,p_ ⟨[],none,none,none,some (.bool false)⟩ [((.bool (decide ((kr:Int)=(95:Int))):Value))=(.bool false)] ⟨congrArg Value.bool (decide_eq_false (OI)),trivial⟩)] ?_)
   refine NN (CF (af.skip (NX (af.seq (SR (gK 2 [(102,.bool true)] [(1,p_ ⟨[],none,none,none,some (.bool true)⟩ [((.bool (!(decide ((kr:Int)=(0:Int)))):Value))=(.bool true)] ⟨congrArg (fun b=>Value.bool !b) (decide_eq_false hc),trivial⟩)] ?_))))))
   refine NN (CT (SR (gK 1 [(103,vP G.w)] [] ?_)))
   refine gL [4] (qM (β:=nS) (G:=G) (fs:=[]) (xs:=[]) (root:=root) (S:=Sr) (V:=V3) (tr:=q3.1)) ?_
   rintro _ _ ⟨rfl,rfl⟩
   refine gK 19 [(4,.bool true)] [(0,p_ ⟨[],none,none,none,some (.bool true)⟩ [((.bool (decide ((((Sr.us.length:Nat):Int):Int)=(1:Int))):Value))=(.bool true)] ⟨congrArg Value.bool (decide_eq_true (by omega)),trivial⟩),(4,p_ ⟨[],none,none,none,some (.bool false)⟩ [((.bool (decide (((eT ns root ps).2:Int)=(kr:Int))):Value))=(.bool false)] ⟨congrArg Value.bool (decide_eq_false (by omega)),trivial⟩),(7,p_ ⟨[],none,none,none,some (.bool true)⟩ [((.bool (decide (((eT ns root ps).2:Int)=(0:Int))):Value))=(.bool true)] ⟨congrArg Value.bool (decide_eq_true (hd)),trivial⟩),(10,p_ ⟨[],none,none,none,some (.bool false)⟩ [((.bool (decide ((kr:Int)=(173:Int))):Value))=(.bool false)] ⟨congrArg Value.bool (decide_eq_false (by omega)),trivial⟩),(13,p_ ⟨[],none,none,none,some (.bool true)⟩ [((.bool (decide ((kr:Int)=(174:Int))):Value))=(.bool true)] ⟨congrArg Value.bool (decide_eq_true (h4)),trivial⟩)] ?_
   refine NN (af.ret (aj.aq ?_))
   exact aj.wk (v:=.bool true) (l:=[]) (aZ:=[]) [] [6] hle0 (fun _=>by kernel_rfl) trivial rfl (by kernel_rfl) (rfl)
  ·refine af.region (gK 10 [(97,.bool true)] [(1,p_ ⟨[],none,none,none,some (.bool true)⟩ [((.bool (decide ((kr:Int)=(175:Int))):Value))=(.bool true)] ⟨congrArg Value.bool (decide_eq_true (IW)),trivial⟩)] ?_)
   refine NN (CT (SR (gK 1 [(98,vP G.w)] [] ?_)))
   refine gL [4] (qM (β:=nS) (G:=G) (fs:=[]) (xs:=[]) (root:=root) (S:=Sr) (V:=V3) (tr:=q3.1)) ?_
   rintro _ _ ⟨rfl,rfl⟩
   refine gK 2 [(4,.bool true)] [(0,p_ ⟨[],none,none,none,some (.bool true)⟩ [((.bool (decide ((((Sr.us.length:Nat):Int):Int)=(1:Int))):Value))=(.bool true)] ⟨congrArg Value.bool (decide_eq_true (by omega)),trivial⟩)] ?_
   refine NN (af.ret (aj.aq ?_))
   exact aj.wk (v:=.bool true) (l:=[]) (aZ:=[]) [] [6] hle0 (fun _=>by kernel_rfl) trivial rfl (by kernel_rfl) (rfl)
  ·refine af.region (gK 10 [(97,.bool true)] [(1,p_ ⟨[],none,none,none,some (.bool false)⟩ [((.bool (decide ((kr:Int)=(175:Int))):Value))=(.bool false)] ⟨congrArg Value.bool (decide_eq_false (IW)),trivial⟩),(4,p_ ⟨[],none,none,none,some (.bool true)⟩ [((.bool (decide ((kr:Int)=(130:Int))):Value))=(.bool true)] ⟨congrArg Value.bool (decide_eq_true (uN)),trivial⟩)] ?_)
   refine NN (CT (SR (gK 1 [(98,vP G.w)] [] ?_)))
   refine gL [4] (qM (β:=nS) (G:=G) (fs:=[]) (xs:=[]) (root:=root) (S:=Sr) (V:=V3) (tr:=q3.1)) ?_
   rintro _ _ ⟨rfl,rfl⟩
   refine gK 2 [(4,.bool true)] [(0,p_ ⟨[],none,none,none,some (.bool true)⟩ [((.bool (decide ((((Sr.us.length:Nat):Int):Int)=(1:Int))):Value))=(.bool true)] ⟨congrArg Value.bool (decide_eq_true (by omega)),trivial⟩)] ?_
   refine NN (af.ret (aj.aq ?_))
   exact aj.wk (v:=.bool true) (l:=[]) (aZ:=[]) [] [6] hle0 (fun _=>by kernel_rfl) trivial rfl (by kernel_rfl) (rfl)
  ·refine af.region (gK 10 [(97,.bool true)] [(1,p_ ⟨[],none,none,none,some (.bool false)⟩ [((.bool (decide ((kr:Int)=(175:Int))):Value))=(.bool false)] ⟨congrArg Value.bool (decide_eq_false (IW)),trivial⟩),(4,p_ ⟨[],none,none,none,some (.bool false)⟩ [((.bool (decide ((kr:Int)=(130:Int))):Value))=(.bool false)] ⟨congrArg Value.bool (decide_eq_false (uN)),trivial⟩),(8,p_ ⟨[],none,none,none,some (.bool true)⟩ [((.bool (decide ((kr:Int)=(95:Int))):Value))=(.bool true)] ⟨congrArg Value.bool (decide_eq_true (OI)),trivial⟩)] ?_)
   refine NN (CT (SR (gK 1 [(98,vP G.w)] [] ?_)))
   refine gL [4] (qM (β:=nS) (G:=G) (fs:=[]) (xs:=[]) (root:=root) (S:=Sr) (V:=V3) (tr:=q3.1)) ?_
   rintro _ _ ⟨rfl,rfl⟩
   refine gK 2 [(4,.bool true)] [(0,p_ ⟨[],none,none,none,some (.bool true)⟩ [((.bool (decide ((((Sr.us.length:Nat):Int):Int)=(1:Int))):Value))=(.bool true)] ⟨congrArg Value.bool (decide_eq_true (by omega)),trivial⟩)] ?_
   refine NN (af.ret (aj.aq ?_))
   exact aj.wk (v:=.bool true) (l:=[]) (aZ:=[]) [] [6] hle0 (fun _=>by kernel_rfl) trivial rfl (by kernel_rfl) (rfl)
  refine af.region (gK 10 [(97,.bool false)] [(1,p_ ⟨[],none,none,none,some (.bool false)⟩ [((.bool (decide ((kr:Int)=(175:Int))):Value))=(.bool false)] ⟨congrArg Value.bool (decide_eq_false (IW)),trivial⟩),(4,p_ ⟨[],none,none,none,some (.bool false)⟩ [((.bool (decide ((kr:Int)=(130:Int))):Value))=(.bool false)] ⟨congrArg Value.bool (decide_eq_false (uN)),trivial⟩),(8,p_ ⟨[],none,none,none,some (.bool false)⟩ [((.bool (decide ((kr:Int)=(95:Int))):Value))=(.bool false)] ⟨congrArg Value.bool (decide_eq_false (OI)),trivial⟩)] ?_)
  refine NN (CF (af.skip (NX (af.seq (SR (gK 2 [(102,.bool true)] [(1,p_ ⟨[],none,none,none,some (.bool true)⟩ [((.bool (!(decide ((kr:Int)=(0:Int)))):Value))=(.bool true)] ⟨congrArg (fun b=>Value.bool !b) (decide_eq_false hc),trivial⟩)] ?_))))))
  refine NN (CT (SR (gK 1 [(103,vP G.w)] [] ?_)))
  refine gL [4] (qM (β:=nS) (G:=G) (fs:=[]) (xs:=[]) (root:=root) (S:=Sr) (V:=V3) (tr:=q3.1)) ?_
  rintro _ _ ⟨rfl,rfl⟩
  refine gK 19 [(4,.bool true)] [(0,p_ ⟨[],none,none,none,some (.bool true)⟩ [((.bool (decide ((((Sr.us.length:Nat):Int):Int)=(1:Int))):Value))=(.bool true)] ⟨congrArg Value.bool (decide_eq_true (by omega)),trivial⟩),(4,p_ ⟨[],none,none,none,some (.bool true)⟩ [((.bool (decide (((eT ns root ps).2:Int)=(kr:Int))):Value))=(.bool true)] ⟨congrArg Value.bool (decide_eq_true (hd)),trivial⟩)] ?_
  refine NN (af.ret (aj.aq ?_))
  exact aj.wk (v:=.bool true) (l:=[]) (aZ:=[]) [] [6] hle0 (fun _=>by kernel_rfl) trivial rfl (by kernel_rfl) (rfl)
 refine af.region (gK 1 [(20,.agg #[.slice A (ns.length) (c),vI (root),vI (X.cN),vI (X.cB),vI (X.cH),vI (X.cS),vI (X.cZ),.slice none (0) (0),.slice none (0) (0)])] [(0,A_ 1 b1 9)] ?_)
 refine ak.fJ (d:=(some 21)) (R:=[.abs R,.blk b1 [.slice A (ns.length) (c),vI (root),vI (X.cN),vI (X.cB),vI (X.cH),vI (X.cS),vI (X.cZ),.slice none (0) (0),.slice none (0) (0)] 34]) (pk:=[0,1]) (fun _=>by kernel_rfl) (LU (β:=yj) (X:=X) h0 A c Y hG hB none 0 ([]) II ⟨by decide,fun a ha=>by cases ha⟩ none 0 ([]) IJ qY) rfl (by kernel_rfl) ?_
 rintro Zr _ _ uj ⟨rfl,rfl⟩
 replace hG:=hG.le uj
 replace hP:=hP.le uj
 replace hg:=hg.le uj
 replace hE:=hE.le uj
 replace hle0:=hle0.trans uj
 refine gK 5 [(5,.pointer none),(6,vI ((cU X ns root)))] [] ?_
 refine NN (af.seq (SR (gK 6 [(29,.bool true)] [(1,p_ ⟨[],none,none,none,some (.bool true)⟩ [((.bool (!(decide (((cU X ns root):Int)=(0:Int)))):Value))=(.bool true)] ⟨congrArg (fun b=>Value.bool !b) (decide_eq_false h0),trivial⟩)] ?_)))
 refine NN (CT (SR (gK 7 [(4,.bool true)] [(4,p_ ⟨[],none,none,none,some (.bool true)⟩ [((.bool (!(decide (((cU X ns root):Int)=(0:Int)))):Value))=(.bool true)] ⟨congrArg (fun b=>Value.bool !b) (decide_eq_false h0),trivial⟩)] ?_)))
 refine NN (af.ret (aj.aq ?_))
 exact aj.wk (v:=.bool true) (l:=[]) (aZ:=[]) [] [0] hle0 (fun _=>by kernel_rfl) trivial rfl (by kernel_rfl) (rfl)
end
section
open Go.RowKit
theorem glob_ok {W:World} (h:W.ShapedOpen Tryz.prog):dQ (B0 W):=by
  obtain⟨m,hm⟩:=cell_of_shapedOpen_int (g:=1) (t:=3) (zero:=#[.int .i64 0]) (k:=.i64) h (Nat.le_of_ble_eq_true (by kernel_rfl)) (by kernel_rfl) rfl (by kernel_rfl) (by kernel_rfl) Tryz.underlying3
  exact⟨m,DI hm,hm⟩
end
section
open Go.ChangeShapes Go.WideShapes Go.ChangeAt Go.RowKit
structure zF (l:List ByteArray) (b:Nat):Prop where
  len:l.length+1<=b
  size:∀ i,i < l.length->(pc l i).size+1<=b
theorem zF.mono {l:List ByteArray} {b c:Nat} (h:zF l b) (hb:b<=c):zF l c:=⟨Nat.le_trans h.len hb,fun i hi=>Nat.le_trans (h.size i hi) hb⟩
theorem DE:∀ (d:List ByteArray) (k:Nat),dI (fun _ s=>[Value.string s]) k d=gZ d
  | [],_=>rfl
  | b::r,k=>by rw [dI,DE r (k+1)];rfl
section
variable {H:Type} {enc:TypeId×Value->H} {W:World} {sp:Nat->Bool}
theorem Mb {P:Program} {t:TypeId} {n:Nat} {cs:List Value} {x:DataW H×List MemPlace} (ht:P.underlying t=some .string) (h:DataW.trod enc P W 0 sp true n t cs=some x):∃ s:ByteArray,cs=[Value.string s]/\s.size+1<=Rows.uptoBulk x.1:=by
  obtain⟨s,h1,h2,_⟩:=DataW.trod_string ht h
  refine⟨s,h1,?_⟩
  rw [h2]
  simp only [Rows.uptoBulk,Array.length_toList]
  exact Nat.le_refl _
theorem Jz {n:Nat} {c:Value} {x:DataW H×List MemPlace} (h:DataW.trod enc Tryz.prog W 0 sp true n 35 [c]=some x) :
    ∃ A cp,∃ ss:List ByteArray,c=.slice A ss.length cp/\dR (B0 W) A ss/\zF ss (Rows.uptoBulk x.1):=by
  obtain⟨A,cp,xs,D,h1,_,_,h2,h4,h3⟩:=qq (α:=ByteArray) (f:=fun s=>[Value.string s]) (Q:=fun s d=>s.size+1<=Rows.uptoBulk d) Tryz.underlying35 (size:=1) (by kernel_rfl) (by decide) (fun n cs x h=>Mb Tryz.underlying9 h) (fun _=>rfl) h
  cases h1
  rw [DE] at h2
  have h5:=qp ((List.range xs.length).map D)
  have h3:Rows.uptoBulkAll ((List.range xs.length).map D)+1<=Rows.uptoBulk x.1:=h3
  refine⟨_,_,xs,rfl,h2,by simp at h5;omega,fun i hi=>?_⟩
  have h6:=h4 i hi
  have h7:=wu (D:=D) hi
  have e:pc xs i=xs.getD i default:=rfl
  rw [e]
  omega
theorem open_texts {v:Value} {d:DataW H} {ps:List MemPlace} {r:Go.Reach} {b0:Nat} (hval:Value.okWide Tryz.prog W r b0 35 v) (h:DataW.Trod enc Tryz.prog W 0 sp true 35 v d ps) :
    ∃ A cp,∃ ss:List ByteArray,v=.slice A ss.length cp/\dR (B0 W) A ss/\zF ss (Rows.uptoBulk d):=by
  obtain⟨a,n,c,rfl⟩:=okWide_slice Tryz.underlying35 hval
  obtain⟨fuel,h⟩:=h
  exact Jz (c:=.slice a n c) h
end
end
section
open Go.RowKit
theorem et:Tryz.prog.globalNamed "errors.errorType" = some 0:=by kernel_rfl
theorem YP:(Tryz.prog.cutTypes.find? (·.1 == "internal/reflectlite.rtype")).map (·.2)=some 195:=by kernel_rfl
theorem U5:((List.range 365).filter fun t=>Tryz.prog.rowNamed t [101,114,114,111,114])=[57]:=by kernel_rfl
theorem VS:Tryz.prog.types.size=365:=by kernel_rfl
theorem err_laid {W:World} (h:laidMetH Tryz.prog Rows.resolveHoldsUptoRow.laid W):jr (B0 W):=by
  have h':laidMet Tryz.prog [] W/\handlesMet Tryz.prog Rows.resolveHoldsUptoRow.laid W:=h
  obtain⟨name,u,ty,e1,e2,e3,e4,e5⟩:=h'.2 _ (List.mem_singleton.2 rfl)
  have en:name=[101,114,114,111,114]:=(Option.some.inj e1).symm
  subst en
  obtain rfl:=Option.some.inj (YP.symm.trans e2)
  have hm:ty∈(List.range 365).filter fun t=>Tryz.prog.rowNamed t [101,114,114,111,114]:=List.mem_filter.2 ⟨List.mem_range.2 (by rw [← VS];exact e3),e4⟩
  rw [U5] at hm
  obtain rfl:=List.mem_singleton.1 hm
  have hh:typeHandle Tryz.prog 57=.pointer (some ⟨12,57,none⟩):=by kernel_rfl
  rw [hh] at e5
  have hc:W.cell? ⟨0,0,none⟩=some (.iface 195 (.agg #[.pointer (some ⟨12,57,none⟩)])):=by simpa using World.var?_cell et e5 0
  exact⟨DI hc,hc⟩
noncomputable def laidWorld (os:Os):World:=
  { World.holding Tryz.prog os ⟨#[],#[],[]⟩ with heap:=(World.holding Tryz.prog os ⟨#[],#[],[]⟩).heap.modify 0 fun
      | .cells _ t frozen=>.cells #[.iface 195 (.agg #[.pointer (some ⟨12,57,none⟩)])] t frozen
      | o=>o }
theorem laidWorld_met (os:Os) (args:Array Value):laidMetH Tryz.prog Rows.resolveHoldsUptoRow.laid ((laidWorld os).forCall (fun _ _=>0) ⟨#[],args,[]⟩).memory:=
  laidMetH_of_parts (laidMet_nil _ _) (by kernel_rfl)
end
end Go.Proofs.YtiehgnlnofhbaaaGreatDoor
