/-
  PROVED HERE: lemmas and contracts of functions (texts of this repo, joined; what the claim does not use is left out): Rl, Ra, YA, Wy, Vu, Wv, YC, YH, Zg, Ro, YZ.
  CONDITIONS: as the theorems say.
-/
import Derived.Test.YtiehgnlnofhbaaaGreatDoorMRholds5
import Derived.ChangeMaps5
import Derived.LaidLaws
import Derived.LaidHandle
import Derived.Lib.LaidTab
import Derived.Test.YtiehgnlnofhbaaaGreatDoorRows
import Derived.Shelf.Vars
import Derived.Deep.DeepLaidRun
import Derived.Stop.Joined
set_option maxRecDepth 100000
set_option maxHeartbeats 4000000
namespace Go.Proofs.YtiehgnlnofhbaaaGreatDoor
section
open Go.RowKit Go.Maps bF aB
def O5:aL:=⟨1,2,493,0,0,0,0,[],⟨#[]⟩,[⟨⟨#[97]⟩,2⟩,⟨⟨#[115]⟩,3⟩]⟩
def Wa:aL:=⟨2,2,493,0,0,0,0,[],⟨#[]⟩,[]⟩
def Wb:aL:=⟨3,3,0,0,0,0,0,[],⟨#[97]⟩,[]⟩
def vX:List aL:=[O5,Wa,Wb]
theorem Hq {i:Nat} (h:i < vX.length):i=0\/i=1\/i=2:=by
  have h:i < 3:=h
  omega
theorem Ug:bS vX:=by
  refine⟨by decide,fun i hi=>?_,fun i hi=>?_,fun i j hij hj=>?_,by decide,fun i hi j hj=>?_,by decide,fun z=>?_⟩
  ·rcases Hq hi with rfl|rfl|rfl
   ·exact⟨by decide,by decide,by decide,by decide,uK,fun _=>rfl,fun h=>absurd rfl h,.inl ⟨by decide,rfl⟩⟩
   ·exact⟨by decide,by decide,by decide,by decide,uK,fun _=>rfl,fun h=>absurd rfl h,.inl ⟨by decide,rfl⟩⟩
   exact⟨by decide,by decide,by decide,by decide,uK,fun _=>rfl,fun _=>rfl,.inr ⟨rfl,by decide,by decide,fun j hj=>by
     have:j=0:=by have hj:j < 1:=hj;omega
     subst this;decide⟩⟩
  ·rcases Hq hi with rfl|rfl|rfl<;>exact⟨by decide,by decide⟩
  ·rcases Hq hj with rfl|rfl|rfl
   ·omega
   ·have:i=0:=by omega
    subst this;decide
   have:i=0\/i=1:=by omega
   rcases this with rfl|rfl<;>decide
  ·rcases Hq hi with rfl|rfl|rfl
   ·have hj:j < 2:=hj
    have:j=0\/j=1:=by omega
    rcases this with rfl|rfl
    ·exact⟨by decide,tK (by decide) (by decide) (by decide),by show ¬ j7 ⟨#[97]⟩ ⟨#[]⟩;unfold j7;decide +kernel⟩
    exact⟨by decide,tK (by decide) (by decide) (by decide),by show ¬ j7 ⟨#[115]⟩ ⟨#[97]⟩;unfold j7;decide +kernel⟩
   ·exact absurd hj (Nat.not_lt_zero j)
   exact absurd hj (Nat.not_lt_zero j)
  have e:(gi vX vX.length).map (jI vX)=[(2,1)]:=by decide
  rw [e]
  by_cases h:z=2
  ·subst h;exact⟨1,1,rfl,rfl⟩
  exact⟨0,by show up [(2,1)] z=none;simp [up,h]⟩
theorem Uh {β:Bs} {B:Option Addr} {e:Nat} (hR:cW β B (dQ ⟨fun _=>none,fun i=>if i=0 then some ⟨e,0,none⟩ else none,fun _=>0,fun i=>if i=0 then 2 else 0⟩ vX)) (h1:fM β (some ⟨e,0,none⟩) O5.ah):aI β B vX ⟨fun _=>none,fun i=>if i=0 then some ⟨e,0,none⟩ else none,fun _=>0,fun i=>if i=0 then 2 else 0⟩:=by
  have hn:∀ {A:Option Addr},cW β A []:=fun j v hj=>by simp at hj
  refine⟨hR,fun i hi=>?_,fun i hi=>?_⟩
  ·rcases Hq hi with rfl|rfl|rfl<;>exact hn
  rcases Hq hi with rfl|rfl|rfl
  ·exact h1
  ·exact hn
  exact hn
theorem Wd:iJ vX 1048576:=⟨by decide,fun i hi=>by
  rcases Hq hi with rfl|rfl|rfl
  ·refine⟨by unfold pH;decide,by decide,by decide,by decide,fun j hj=>?_⟩
   have hj:j < 2:=hj
   have:j=0\/j=1:=by omega
   rcases this with rfl|rfl<;>exact⟨by unfold pH;decide,by decide⟩
  ·exact⟨by unfold pH;decide,by decide,by decide,by decide,fun j hj=>absurd hj (Nat.not_lt_zero j)⟩
  exact⟨by unfold pH;decide,by decide,by decide,by decide,fun j hj=>absurd hj (Nat.not_lt_zero j)⟩⟩
structure Tb (S:aG):Prop where
  inv:Inv S
  idx:S.idx=[(1,⟨1,2⟩),(2,⟨2,2⟩),(3,⟨3,3⟩)]
  us:S.us=[]
  X:S.X=⟨9,99,9,0,0,3,2,0⟩
  o1:∃ l u,obj S.O 1=⟨1,493,0,0,0,0,l,0,false,2,[],⟨#[]⟩,[(⟨#[97]⟩,⟨2,2⟩),(⟨#[115]⟩,⟨3,3⟩)],u⟩
  o2:∃ l u,obj S.O 2=⟨2,493,0,0,0,0,l,0,false,2,[],⟨#[]⟩,[],u⟩
section v
variable {S:aG}
theorem Tc (h:gy (G4 99) vX vX.length 0 S):Tb S:=by
  obtain⟨l1,u1,h1⟩:=h.ob 0 (by decide)
  obtain⟨l2,u2,h2⟩:=h.ob 1 (by decide)
  exact⟨h.full,h.idx,h.us,h.cap,⟨l1,u1,h1⟩,⟨l2,u2,h2⟩⟩
theorem Td:bK ⟨#[97]⟩:=tK (by decide) (by decide) (by decide)
theorem MU:bK ⟨#[98]⟩:=tK (by decide) (by decide) (by decide)
theorem Te:bK ⟨#[115]⟩:=tK (by decide) (by decide) (by decide)
theorem vY {root:Int} {n:Nat} {c:ax} (h:c.op≠1):aV [] [] root n S c=bV S c:=by
  unfold aV nM
  rw [if_neg h]
  rfl
theorem Hr {h:Int} {name:ByteArray} {d:Nat} (ha:dS S.O S.us h name 64=.ok d) {e:Int} (hl:(match aU name (obj S.O d).ah with|none=>170|some t=>if t.kind=3 then 174 else 0)=e) (he:e≠0):bV S (gF h name)=(S,{ gF h name with code:=e }):=by
  unfold bV
  rw [sA (c:={ gF h name with answer:=0,code:=230 }) rfl]
  unfold fo fH
  simp only
  rw [ha]
  simp only
  cases hq:aU name (obj S.O d).ah with
  | none=>rw [hq] at hl;subst hl;rfl
  | some t=>
    rw [hq] at hl
    simp only at hl ⊢
    by_cases h3:t.kind=3
    ·rw [if_pos h3] at hl
     subst hl
     rw [if_pos h3]
    rw [if_neg h3] at hl
    exact absurd hl.symm he
theorem Jt (h:Tb S):aV [] [] 1 1 S (qP 1)=(S1 S,{ qP 1 with answer:=1,code:=0 }):=by
  have:=QH (S:=S) (c:=qP 1) (t:=⟨1,2⟩) rfl (by rw [h.idx];rfl) rfl (by rw [h.us,h.X];show (0:Int) < 9;decide)
  rw [h.us] at this
  exact this
theorem O6 (h:Tb S):∃ S2,gI [] [] 1 448 [⟨#[97]⟩,⟨#[98]⟩] 0 (S1 S) 1 1 false 0=⟨S2,6,3,true,1,0,0⟩/\S2.idx.length=4/\gI [] [] 1 448 [⟨#[115]⟩,⟨#[120]⟩] 0 S2 6 1 false 0=⟨S2,7,0,false,0,174,0⟩:=by
  obtain⟨l1,u1,h1⟩:=h.o1
  obtain⟨l2,u2,h2⟩:=h.o2
  obtain⟨A,hA⟩:∃ A,A=S1 S:=⟨_,rfl⟩
  have a1:obj A.O 1=⟨1,493,0,0,0,0,l1,1,false,2,[],⟨#[]⟩,[(⟨#[97]⟩,⟨2,2⟩),(⟨#[115]⟩,⟨3,3⟩)],u1⟩:=by rw [hA,VZ,h1];rfl
  have a2:obj A.O 2=⟨2,493,0,0,0,0,l2,0,false,2,[],⟨#[]⟩,[],u2⟩:=by rw [hA];exact V5.trans h2
  have aX:A.X=⟨9,99,9,0,0,3,2,0⟩:=by rw [hA];exact h.X
  have ai:A.idx=[(1,⟨1,2⟩),(2,⟨2,2⟩),(3,⟨3,3⟩)]:=by rw [hA];exact h.idx
  have au:A.us=[(1,⟨1,2⟩)]:=by rw [hA];rfl
  rw [← hA]
  clear hA
  have e1:=CJ (S:=A) (c:=gF 1 ⟨#[97]⟩) rfl (xg (t:=⟨1,2⟩) (by rw [au];rfl) rfl (by rw [a1]) Td (by rw [a1];exact CK)) (t:=⟨2,2⟩) (by rw [a1];rfl) rfl (by rw [au,aX];show (1:Int) < 9;decide)
  rw [← vY (root:=1) (n:=2) (by decide),show least A.us=2 by rw [au];rfl] at e1
  obtain⟨B,hB⟩:∃ B:aG,B={ A with O:=aH A.O 2 (fun o=>{ o with opens:=o.opens+1 }),us:=ins 2 ⟨2,2⟩ A.us,av:=max A.av ((A.us.length:Int)+1) }:=⟨_,rfl⟩
  rw [← hB] at e1
  have b1:obj B.O 1=obj A.O 1:=by rw [hB];rfl
  have b2:obj B.O 2=⟨2,493,0,0,0,0,l2,1,false,2,[],⟨#[]⟩,[],u2⟩:=by rw [hB];show { obj A.O 2 with opens:=(obj A.O 2).opens+1 }=_;rw [a2];rfl
  have bX:B.X=A.X:=by rw [hB]
  have bi:B.idx=A.idx:=by rw [hB]
  have bu:B.us=[(1,⟨1,2⟩),(2,⟨2,2⟩)]:=by rw [hB];show ins 2 ⟨2,2⟩ A.us=_;rw [au];rfl
  rw [a1] at b1;rw [aX] at bX;rw [ai] at bi
  clear hB a1 a2 aX ai au
  have hab:∀ need:Int,bits BinOp.and .i64 493 need=need->dS B.O B.us 2 ⟨#[98]⟩ need=.ok 2:=fun need hn=>xg (t:=⟨2,2⟩) (by rw [bu];rfl) rfl (by rw [b2]) MU (by rw [b2];exact hn)
  have e2:=Hr (S:=B) (hab 64 CK) (e:=170) (by rw [b2];rfl) (by decide)
  rw [← vY (root:=1) (n:=3) (by decide)] at e2
  have e3:=OO (S:=B) (c:=yT 2 ⟨#[98]⟩ 448) rfl (hab 192 SF) ⟨by decide,by decide⟩ (by rw [b2];rfl) ⟨by rw [bX,bi];show (3:Int) < 9;decide,by rw [bX];show (3:Int) < 1099511627776;decide,by rw [bX];show (2:Int) < 8192;decide⟩
  rw [← vY (root:=1) (n:=4) (by decide)] at e3
  obtain⟨C,hC⟩:∃ C,C=fw B 2 ⟨#[98]⟩ (aW B.X 2 448):=⟨_,rfl⟩
  rw [← hC] at e3
  have hn:aN B.X=4:=by rw [bX];rfl
  have c1:obj C.O 1=obj B.O 1:=by
    rw [hC]
    show obj (cV B.X (aH B.O (aN B.X) (fun _=>aW B.X 2 448)) 2 ⟨#[98]⟩ ⟨aN B.X,2⟩) 1=_
    rw [hn];rfl
  have c2:obj C.O 2=⟨2,493,0,0,0,0,l2,1,false,2,[],⟨#[]⟩,[(⟨#[98]⟩,⟨4,2⟩)],u2⟩:=by
    rw [hC]
    show obj (cV B.X (aH B.O (aN B.X) (fun _=>aW B.X 2 448)) 2 ⟨#[98]⟩ ⟨aN B.X,2⟩) 2=_
    rw [hn]
    show { obj B.O 2 with ah:=iq ⟨#[98]⟩ ⟨4,2⟩ (obj B.O 2).ah,sec:=B.X.cS,nano:=B.X.cZ }=_
    rw [b2,bX];rfl
  have cX:C.X.cH=9:=by rw [hC];show B.X.cH=9;rw [bX]
  have ci:C.idx.length=4:=by rw [hC];show (ins (B.X.last+1) ⟨aN B.X,2⟩ B.idx).length=4;rw [iE,bi];rfl
  have cu:C.us=B.us:=by rw [hC];rfl
  rw [b1] at c1;rw [bu] at cu
  clear hC b1 b2 bX bi bu hab
  have e4:=CJ (S:=C) (c:=gF 2 ⟨#[98]⟩) rfl (xg (t:=⟨2,2⟩) (by rw [cu];rfl) rfl (by rw [c2]) MU (by rw [c2];exact CK)) (t:=⟨4,2⟩) (by rw [c2];rfl) rfl (by rw [cu,cX];show (2:Int) < 9;decide)
  rw [← vY (root:=1) (n:=5) (by decide),show least C.us=3 by rw [cu];rfl] at e4
  obtain⟨D,hD⟩:∃ D:aG,D={ C with O:=aH C.O 4 (fun o=>{ o with opens:=o.opens+1 }),us:=ins 3 ⟨4,2⟩ C.us,av:=max C.av ((C.us.length:Int)+1) }:=⟨_,rfl⟩
  rw [← hD] at e4
  have d1:obj D.O 1=obj C.O 1:=by rw [hD];rfl
  have d2:obj D.O 2=obj C.O 2:=by rw [hD];rfl
  have di:D.idx.length=4:=by rw [hD];exact ci
  have du:D.us=[(1,⟨1,2⟩),(2,⟨2,2⟩),(3,⟨4,2⟩)]:=by rw [hD];show ins 3 ⟨4,2⟩ C.us=_;rw [cu];rfl
  rw [c1] at d1;rw [c2] at d2
  clear hD c1 c2 cX ci cu
  have e5:=OQ (S:=D) (c:=eu 2) (t:=⟨2,2⟩) rfl (by rw [du];rfl)
  rw [← vY (root:=1) (n:=6) (by decide)] at e5
  obtain⟨F,hF⟩:∃ F:aG,F={ D with X:={ D.X with used:=jR (ju D.O 2) D.X.used ⟨2,2⟩ },O:=ju D.O 2,idx:=jr (ju D.O 2) D.idx ⟨2,2⟩,us:=del 2 D.us }:=⟨_,rfl⟩
  have e5:aV [] [] 1 6 D (eu 2)=(F,{ eu 2 with answer:=0,code:=0 }):=by rw [hF];exact e5
  have f1:obj F.O 1=obj D.O 1:=by rw [hF];rfl
  have fi:F.idx.length=4:=by
    rw [hF]
    show (jr (ju D.O 2) D.idx ⟨2,2⟩).length=4
    rw [show jr (ju D.O 2) D.idx ⟨2,2⟩=D.idx from if_neg (by
      show ¬ ((obj (ju D.O 2) 2).gone=true/\_)
      rw [show obj (ju D.O 2) 2={ obj D.O 2 with opens:=(obj D.O 2).opens - 1 } from rfl,d2]
      exact fun h=>by cases h.1)]
    exact di
  have fu:F.us=[(1,⟨1,2⟩),(3,⟨4,2⟩)]:=by rw [hF];show del 2 D.us=_;rw [du];rfl
  rw [d1] at f1
  clear hF d1 d2 di du
  have e6:=Hr (S:=F) (xg (h:=1) (name:=⟨#[115]⟩) (need:=64) (t:=⟨1,2⟩) (by rw [fu];rfl) rfl (by rw [f1]) Te (by rw [f1];exact CK)) (e:=174) (by rw [f1];rfl) (by decide)
  rw [← vY (root:=1) (n:=7) (by decide)] at e6
  refine⟨F,?_,fi,?_⟩
  ·have s1:=Bo (mode:=448) e1 rfl
   have s2:=wX (mode:=448) e2 (by show (170:Int)≠0;decide) (fun h=>h.elim (fun h=>h rfl) (fun h=>absurd h (by decide))) e3 (fun h=>h.1 rfl) e4 rfl
   rw [Bn (by rw [s1]) (by decide),s1]
   show gI [] [] 1 448 [⟨#[98]⟩] 1 B 2 2 true 0=_
   rw [yU (by rw [s2]) rfl (by rw [s2];show (aV [] [] 1 6 D (eu 2)).2.code=0;rw [e5]),s2]
   show gI [] [] 1 448 [] 2 (aV [] [] 1 6 D (eu 2)).1 6 3 true 1=_
   rw [e5]
   rfl
  have s3:=uD (mode:=448) e6 (by show (174:Int)≠0;decide) (.inl (by show ¬ (174:Int)=170;decide))
  rw [uz (by rw [s3];show (174:Int)≠0;decide),s3]
  rfl
end v
end
section
open Go.RowKit Go.Maps bF aB
section a
variable {β:Bs} {G:WG} {fs:List bq} {xs:List bP} {root:Int} {S0:aG} {V0:WV} {tN:List ax} {A:Option Addr} {kq:Nat} {ps:List ByteArray} {mode h:Int} {S:aG} {n:Nat} {cur made code at_:Int} {own:Bool}
abbrev MV (cur:Int) (own:Bool) (made:Int):Value:=.agg #[.int .i64 cur,.bool own,.int .i64 made]
theorem O7 (hrw:(Lit.int .i64 root).wf=true) (hI:Inv S0) (hn:tN.length<=100) (hZ:fL β G.Z xs) (hX:eG xs 1048576) (hg:dV β) (hE:jt β) (hw:(Lit.int .i64 h).wf=true) (hP:eU β A ps) (hpl:ps.length<=1048576) (hps:∀ i,i < ps.length->(pc ps i).size<=1048576) (hr:gI fs xs root mode ps 0 S0 tN.length h false 0=⟨S,n,cur,own,made,0,at_⟩) :
    bD Tryz.prog β 10 #[.agg #[.iface 39 (vP G.w)],.int .i64 h,.slice A ps.length kq,.int .i64 mode] [wA G fs xs root S0 V0 tN] (fun _ v l=>∃ (V':WV) (fJ:List ax),fJ.length=n/\v=.tuple #[MV cur own made,.nilIface]/\l=[wA G fs xs root S V' fJ]):=
  (zL hrw hI hn hZ hX hg hE h hw A kq ps hP hpl hps mode hr).mono (by
    rintro β' v l _ ⟨V',fJ,h1,⟨_,h2,h3⟩|⟨h2,_⟩⟩
    ·exact⟨V',fJ,h1,h2,h3⟩
    exact absurd rfl h2)
theorem O8 (hrw:(Lit.int .i64 root).wf=true) (hI:Inv S0) (hn:tN.length<=100) (hZ:fL β G.Z xs) (hX:eG xs 1048576) (hg:dV β) (hE:jt β) (hw:(Lit.int .i64 h).wf=true) (hP:eU β A ps) (hpl:ps.length<=1048576) (hps:∀ i,i < ps.length->(pc ps i).size<=1048576) (hr:gI fs xs root mode ps 0 S0 tN.length h false 0=⟨S,n,cur,own,made,code,at_⟩) (hc:¬ code=0) :
    bD Tryz.prog β 10 #[.agg #[.iface 39 (vP G.w)],.int .i64 h,.slice A ps.length kq,.int .i64 mode] [wA G fs xs root S0 V0 tN] (fun _ v l=>∃ (V':WV) (fJ:List ax) (e:Nat) (nm:ByteArray),fJ.length=n/\v=.tuple #[MV 0 false made,.iface 92 (vP e)]/\l=[wA G fs xs root S V' fJ,.blk e [.int .i64 at_,.string nm,.int .i64 code] 94]):=
  (zL hrw hI hn hZ hX hg hE h hw A kq ps hP hpl hps mode hr).mono (by
    rintro β' v l _ ⟨V',fJ,h1,⟨h2,_⟩|⟨_,e,nm,h2,h3⟩⟩
    ·exact absurd h2 hc
    exact⟨V',fJ,e,nm,h1,h2,h3⟩)
theorem Tf:dg (G4 99) vX 1=0:=CG Ta Ug (i:=0) ⟨by decide,rfl,fun q h=>absurd h (Nat.not_lt_zero q)⟩ rfl
theorem Hs {ps:List ByteArray} {i:Nat} (h1:i < ps.length) (h2:ps=[⟨#[97]⟩,⟨#[98]⟩]\/ps=[⟨#[115]⟩,⟨#[120]⟩]):(pc ps i).size<=1048576:=by
  have h3:i < 2:=by rcases h2 with rfl|rfl<;>exact h1
  have:i=0\/i=1:=by omega
  rcases h2 with rfl|rfl<;>rcases this with rfl|rfl<;>decide
theorem Tg {β:Bs}:cW β none (bW fN []):=fun j v hj=>by simp [bW,dG] at hj
theorem Ti {β:Bs}:cW β none (bW gq []):=fun j v hj=>by simp [bW,dG] at hj
theorem Ui {X:FM} {ns:List aL} (h:gy X ns ns.length 0 S):(S1 S).av<=3:=by
  show max S.av 1<=3
  rw [h.av];decide
theorem QN (hh:Held S cur true):(Lit.int .i64 cur).wf=true:=by
  obtain⟨t,hg⟩:=hh.cur rfl
  have h1:=hh.inv.uf _ (qH hg)
  have:=hh.pk
  exact WalkArith.wf_i64 (by omega)
theorem EI (hh:Held S cur true) {S2:aG} {c2:ax} (e:aV fs xs root n S (eu cur)=(S2,c2)):S2.us.length=1:=by
  obtain⟨t,hg⟩:=hh.cur rfl
  obtain⟨h1,_⟩:=y9 e hg
  have h2:=mI hh.inv.usr (qH hg)
  have h3:S.us.length=2:=hh.len
  rw [h1]
  omega
end a
end
section
open Go.RowKit Go.Maps bF aB
attribute [local irreducible] ak aR af aj
theorem Ip {β:Bs}:bD Tryz.prog β 25 #[] [] (fun β' v l=>∃ B Y,v=.agg #[.slice B 3 3,vI 1,vI 9,vI 99,vI 9,vI 0,vI 0,.slice none 0 0,.slice none 0 0]/\l=[]/\aI β' B vX Y):=by
 refine bD.enter Tryz.func25 rfl Tryz.ntmps25 (Nat.le_of_ble_eq_true rfl) (fun hle0 R=>?_)
 refine SR (gN 1 (fun b1=>[(0,vP b1)]) (fun _=>[]) (fun _=>[]) (fun b1=>.blk b1 [.slice none (0) (0),vI 0,vI 0,vI 0,vI 0,vI 0,vI 0,.slice none (0) (0),.slice none (0) (0)] 34) (fun b1=>?_))
 refine NS (gN 6 (fun b2=>[(5,.agg #[vI 1,vI 2,vI 493,vI 0,vI 0,vI 0,vI 0,.slice none (0) (0),.string ⟨#[]⟩,.slice (some ⟨b2,0,none⟩) (2) (2)]),(6,.agg #[vI 2,vI 2,vI 493,vI 0,vI 0,vI 0,vI 0,.slice none (0) (0),.string ⟨#[]⟩,.slice none (0) (0)]),(7,.agg #[vI 3,vI 3,vI 0,vI 0,vI 0,vI 0,vI 0,.slice none (0) (0),.string ⟨#[97]⟩,.slice none (0) (0)])]) (fun _=>[]) (fun _=>[]) (fun b2=>.blk b2 [.string ⟨#[97]⟩,vI 2,.string ⟨#[115]⟩,vI 3] 110) (fun b2=>?_))
 refine gN 2 (fun b3=>[(9,.agg #[.slice (some ⟨b3,0,none⟩) (3) (3)])]) (fun _=>[]) (fun _=>[]) (fun b3=>.blk b3 [vI 1,vI 2,vI 493,vI 0,vI 0,vI 0,vI 0,.slice none (0) (0),.string ⟨#[]⟩,.slice (some ⟨b2,0,none⟩) (2) (2),vI 2,vI 2,vI 493,vI 0,vI 0,vI 0,vI 0,.slice none (0) (0),.string ⟨#[]⟩,.slice none (0) (0),vI 3,vI 3,vI 0,vI 0,vI 0,vI 0,vI 0,.slice none (0) (0),.string ⟨#[97]⟩,.slice none (0) (0)] 108) (fun b3=>?_)
 refine gN 2 (fun b4=>[(1,vP b4)]) (fun b4=>[(1,a_ 4 b4)]) (fun _=>[]) (fun b4=>.blk b4 [.slice (some ⟨b3,0,none⟩) (3) (3)] 24) (fun b4=>?_)
 refine NS (ak.mem (fun w hS=>hS.pG (i:=2) (b:=b2) (cs:=[.string ⟨#[97]⟩,vI 2,.string ⟨#[115]⟩,vI 3]) (e:=110) 2 2 (by kernel_rfl) rfl (by decide)) ?_)
 refine ak.nU (Φ:=fun β'=>fM β' (some ⟨b2,0,none⟩) O5.ah) 2 [0,1,3,4] (cP:=[.abs R,.blk b1 [.slice none (0) (0),vI 0,vI 0,vI 0,vI 0,vI 0,vI 0,.slice none (0) (0),.slice none (0) (0)] 34,.blk b3 [vI 1,vI 2,vI 493,vI 0,vI 0,vI 0,vI 0,.slice none (0) (0),.string ⟨#[]⟩,.slice (some ⟨b2,0,none⟩) (2) (2),vI 2,vI 2,vI 493,vI 0,vI 0,vI 0,vI 0,.slice none (0) (0),.string ⟨#[]⟩,.slice none (0) (0),vI 3,vI 3,vI 0,vI 0,vI 0,vI 0,vI 0,.slice none (0) (0),.string ⟨#[97]⟩,.slice none (0) (0)] 108,.blk b4 [.slice (some ⟨b3,0,none⟩) (3) (3)] 24]) rfl rfl (by kernel_rfl) (fun F w h β' h1 h2=>cW.jM h h1 h2) (fun gV eY hE=>?_)
 replace hle0:=hle0.trans eY
 refine ak.mem (fun w hS=>hS.pG (i:=2) (b:=b3) (cs:=[vI 1,vI 2,vI 493,vI 0,vI 0,vI 0,vI 0,.slice none (0) (0),.string ⟨#[]⟩,.slice (some ⟨b2,0,none⟩) (2) (2),vI 2,vI 2,vI 493,vI 0,vI 0,vI 0,vI 0,.slice none (0) (0),.string ⟨#[]⟩,.slice none (0) (0),vI 3,vI 3,vI 0,vI 0,vI 0,vI 0,vI 0,.slice none (0) (0),.string ⟨#[97]⟩,.slice none (0) (0)]) (e:=108) 10 3 (by kernel_rfl) rfl (by decide)) ?_
 refine ak.nU (Φ:=fun β'=>cW β' (some ⟨b3,0,none⟩) (dQ ⟨fun _=>none,fun i=>if i=0 then some ⟨b2,0,none⟩ else none,fun _=>0,fun i=>if i=0 then 2 else 0⟩ vX)) 2 [0,1,3] (cP:=[.abs R,.blk b1 [.slice none (0) (0),vI 0,vI 0,vI 0,vI 0,vI 0,vI 0,.slice none (0) (0),.slice none (0) (0)] 34,.blk b4 [.slice (some ⟨b3,0,none⟩) (3) (3)] 24]) rfl rfl (by kernel_rfl) (fun F w h β' h1 h2=>cW.jM h h1 h2) (fun Vg o9 hR=>?_)
 replace hE:=hE.le o9
 replace hle0:=hle0.trans o9
 refine gC 4 [] [(0,a_ 2 b4),(3,A_ 1 b1 9)] [(1,[(0,.slice (some ⟨b3,0,none⟩) (3) (3)),(1,vI 1),(2,vI 9),(3,vI 99),(4,vI 9)])] ?_
 refine NN (af.ret ?_)
 exact aj.iQ (v:=.agg #[.slice (some ⟨b3,0,none⟩) (3) (3),vI 1,vI 9,vI 99,vI 9,vI 0,vI 0,.slice none (0) (0),.slice none (0) (0)]) (l:=[]) (aZ:=[b1=b1,b1=b1,b1=b1,b1=b1,b1=b1,b1=b1,b1=b1,b1=b1,b1=b1]) [.at 1,.at 1,.at 1,.at 1,.at 1,.at 1,.at 1,.at 1,.at 1] [0] hle0 (fun _=>by kernel_rfl) ⟨rfl,rfl,rfl,rfl,rfl,rfl,rfl,rfl,rfl,trivial⟩ rfl (by kernel_rfl) (⟨_,_,rfl,rfl,Uh hR hE⟩)
theorem KM {β:Bs} (hg:dV β) (hE:jt β):bD Tryz.prog β 7 #[] [] (fun _ v l=>v=.bool true/\l=[]):=by
 refine bD.enter Tryz.func7 rfl Tryz.ntmps7 (Nat.le_of_ble_eq_true rfl) (fun hle0 R=>?_)
 refine SR (gK 1 [] [] ?_)
 refine NS (ak.fX (d:=(some 10)) (R:=[.abs R]) (pk:=[0]) (fun _=>by kernel_rfl) (Ip) rfl (by kernel_rfl) ?_)
 rintro vT _ _ dX ⟨B,Y,rfl,rfl,hG⟩
 replace hg:=hg.le dX
 replace hE:=hE.le dX
 replace hle0:=hle0.trans dX
 refine ak.fX (d:=(some 11)) (R:=[.abs R]) (pk:=[0]) (fun _=>by kernel_rfl) (CS (β:=vT) (X:=G4 99) Tf B 3 _ hG Wd none 0 [] Tg ⟨by decide,fun a ha=>by cases ha⟩ none 0 [] Ti E6) rfl (by kernel_rfl) ?_
 rintro xP _ _ fZ ⟨N,G,V,rfl,rfl,kx⟩
 replace hg:=hg.le fZ
 replace hE:=hE.le fZ
 replace hG:=hG.le fZ
 replace hle0:=hle0.trans fZ
 refine gK 5 [(1,vP G.w),(2,vI 0)] [] ?_
 refine NN (af.seq (SR (gK 6 [(19,.bool false)] [] ?_)))
 refine NN (CF (af.skip (NX (SR (gK 4 [(24,.agg #[.iface 39 (vP G.w)])] [(3,p_ ⟨[.view 0 (.iface 39 (vP G.w))],none,none,none,none⟩ [(∀ F w,(fq (wP G ([]) ([]) 1 N.1 V ([]))).h F w->w.cell? ⟨G.w,0,none⟩=some (.iface 39 (vP G.w)))] ⟨uM,trivial⟩)] ?_)))))
 have hv:=Tc N.2
 obtain⟨S2,w1,wi,w2⟩:=O6 hv
 have bZ:Inv (S1 N.1):=by have h:=Inv.aV (fs:=[]) (xs:=[]) (root:=1) (n:=1) (c:=qP 1) hv.inv;rw [Jt hv] at h;exact h
 have Js:Held (S1 N.1) 1 false:=⟨bZ,rfl,fun h=>absurd h Bool.false_ne_true,Ui N.2⟩
 have tP:=uL (mode:=448) (fs:=[]) (xs:=[]) (root:=1) (h0:=1) (n0:=1) (len:=2) [⟨#[97]⟩,⟨#[98]⟩] 0 (S1 N.1) 1 1 false 0 Js (by decide) (by decide) (fun _=>rfl) (fun h=>absurd h Bool.false_ne_true) (fun _=>⟨rfl,rfl,rfl⟩)
 rw [w1] at tP
 have vS:Inv S2:=tP.inv
 refine ak.fX (d:=(some 25)) (R:=[.abs R]) (pk:=[0,1]) (fun _=>by kernel_rfl) (He (β:=xP) (G:=G) (fs:=[]) (xs:=[]) (root:=1) (S:=N.1) (V:=V) (tr:=[]) (S2:=(S1 N.1)) (c2:={ qP 1 with answer:=1,code:=0 }) (by decide) hv.inv (by decide) kx E6 hg 1 (by decide) (Jt hv)) rfl (by kernel_rfl) ?_
 rintro X4 _ _ vZ ⟨V2,CR,rfl,rfl,Qb⟩
 replace hg:=hg.le vZ
 replace hE:=hE.le vZ
 replace hG:=hG.le vZ
 replace kx:=kx.le vZ
 replace hle0:=hle0.trans vZ
 refine gK 5 [(3,vI 1)] [] ?_
 refine NS (gN 6 (fun b10=>[(32,.agg #[.iface 39 (vP G.w)]),(33,vI 1),(34,.slice (some ⟨b10,0,none⟩) (2) (2))]) (fun b10=>[(3,p_ ⟨[.view 0 (.iface 39 (vP G.w))],none,none,none,none⟩ [(∀ F w,(fq (wP G ([]) ([]) 1 (S1 N.1) V2 CR)).h F w->w.cell? ⟨G.w,0,none⟩=some (.iface 39 (vP G.w)))] ⟨uM,trivial⟩)]) (fun _=>[]) (fun b10=>.blk b10 [.string ⟨#[97]⟩,.string ⟨#[98]⟩] 9) (fun b10=>?_))
 refine ak.mem (fun w hS=>hS.pG (i:=2) (b:=b10) (cs:=[.string ⟨#[97]⟩,.string ⟨#[98]⟩]) (e:=9) 1 2 (by kernel_rfl) rfl (by decide)) ?_
 refine ak.nU (Φ:=fun β'=>eU β' (some ⟨b10,0,none⟩) [(⟨#[97]⟩:ByteArray),⟨#[98]⟩]) 2 [0,1] (cP:=[wA G ([]) ([]) 1 (S1 N.1) V2 CR,.abs R]) rfl rfl (by kernel_rfl) (fun F w h β' h1 h2=>cW.jM h h1 h2) (fun Tj jy p6=>?_)
 replace hg:=hg.le jy
 replace hE:=hE.le jy
 replace hG:=hG.le jy
 replace kx:=kx.le jy
 replace hle0:=hle0.trans jy
 have W8:gI [] [] 1 448 [(⟨#[97]⟩:ByteArray),⟨#[98]⟩] 0 (S1 N.1) CR.length 1 false 0=⟨S2,6,3,true,1,0,0⟩:=by rw [Qb];exact w1
 refine ak.fX (d:=(some 35)) (R:=[.abs R]) (pk:=[0,1]) (fun _=>by kernel_rfl) (O7 (β:=Tj) (kq:=2) (G:=G) (root:=1) (h:=1) (fs:=[]) (xs:=[]) (V0:=V2) (tN:=CR) (by decide) bZ (by rw [Qb];decide) kx E6 hg hE (by decide) p6 (by decide) (fun i hi=>Hs hi (.inl rfl)) W8) rfl (by kernel_rfl) ?_
 rintro OZ _ _ jf ⟨V3,tM,Qc,rfl,rfl⟩
 replace hg:=hg.le jf
 replace hE:=hE.le jf
 replace hG:=hG.le jf
 replace kx:=kx.le jf
 replace p6:=p6.le jf
 replace hle0:=hle0.trans jf
 refine gN 6 (fun b13=>[(5,vP b13),(6,.nilIface)]) (fun b13=>[(4,A_ 2 b13 3)]) (fun _=>[]) (fun b13=>.blk b13 [vI (3),.bool true,vI (1)] 55) (fun b13=>?_)
 refine NN (af.seq (SR (gK 14 [(50,.bool false),(51,vP G.w)] [(4,a_ 2 b13),(5,p_ ⟨[],none,none,none,some (.bool false)⟩ [(Value.bool (!decide ((1:Int)=(1:Int))))=(.bool false)] ⟨by simp,trivial⟩),(9,a_ 2 b13)] ?_)))
 refine ak.fX (d:=(some 52)) (R:=[.abs R,.blk b13 [vI (3),.bool true,vI (1)] 55]) (pk:=[0,1,2]) (fun _=>by kernel_rfl) (KD (β:=OZ) (G:=G) (fs:=[]) (xs:=[]) (root:=1) (S:=S2) (V:=V3) (tr:=tM) vS) rfl (by kernel_rfl) ?_
 rintro SY _ _ jg ⟨A4,c4,K4,rfl,rfl,_⟩
 replace hg:=hg.le jg
 replace hE:=hE.le jg
 replace hG:=hG.le jg
 replace kx:=kx.le jg
 replace p6:=p6.le jg
 replace hle0:=hle0.trans jg
 refine gK 4 [(56,.bool false)] [(1,p_ ⟨[],none,none,none,some (vI (((4:Nat):Int)))⟩ [((.int .i64 ↑((bC S2).length):Value))=(.int .i64 (((4:Nat):Int)))] ⟨by rw [wN,wi],trivial⟩),(2,p_ ⟨[],none,none,none,some (.bool false)⟩ [((.bool (!(decide ((((4:Nat):Int):Int)=(4:Int)))):Value))=(.bool false)] ⟨rfl,trivial⟩)] ?_
 refine NN (CF (af.skip (NX (SR (gN 6 (fun b15=>[(61,.agg #[.iface 39 (vP G.w)]),(62,vI 1),(63,.slice (some ⟨b15,0,none⟩) (2) (2))]) (fun b15=>[(3,p_ ⟨[.view 0 (.iface 39 (vP G.w))],none,none,none,none⟩ [(∀ F w,(fq (wP G ([]) ([]) 1 S2 V3 tM)).h F w->w.cell? ⟨G.w,0,none⟩=some (.iface 39 (vP G.w)))] ⟨uM,trivial⟩)]) (fun _=>[]) (fun b15=>.blk b15 [.string ⟨#[115]⟩,.string ⟨#[120]⟩] 9) (fun b15=>?_))))))
 refine ak.mem (fun w hS=>hS.pG (i:=3) (b:=b15) (cs:=[.string ⟨#[115]⟩,.string ⟨#[120]⟩]) (e:=9) 1 2 (by kernel_rfl) rfl (by decide)) ?_
 refine ak.nU (Φ:=fun β'=>eU β' (some ⟨b15,0,none⟩) [(⟨#[115]⟩:ByteArray),⟨#[120]⟩]) 3 [0,1,2] (cP:=[wA G ([]) ([]) 1 S2 V3 tM,.abs R,.blk b13 [vI (3),.bool true,vI (1)] 55]) rfl rfl (by kernel_rfl) (fun F w h β' h1 h2=>cW.jM h h1 h2) (fun Wf qI Ht=>?_)
 replace hg:=hg.le qI
 replace hE:=hE.le qI
 replace hG:=hG.le qI
 replace kx:=kx.le qI
 replace p6:=p6.le qI
 replace hle0:=hle0.trans qI
 have W9:gI [] [] 1 448 [(⟨#[115]⟩:ByteArray),⟨#[120]⟩] 0 S2 tM.length 1 false 0=⟨S2,7,0,false,0,174,0⟩:=by rw [Qc];exact w2
 refine ak.fX (d:=(some 64)) (R:=[.abs R,.blk b13 [vI (3),.bool true,vI (1)] 55]) (pk:=[0,1,2]) (fun _=>by kernel_rfl) (O8 (β:=Wf) (kq:=2) (G:=G) (root:=1) (h:=1) (fs:=[]) (xs:=[]) (V0:=V3) (tN:=tM) (by decide) vS (by rw [Qc];decide) kx E6 hg hE (by decide) Ht (by decide) (fun i hi=>Hs hi (.inr rfl)) W9 (by decide)) rfl (by kernel_rfl) ?_
 rintro XH _ _ oJ ⟨V4,X5,e,nm,Xq,rfl,rfl⟩
 replace hg:=hg.le oJ
 replace hE:=hE.le oJ
 replace hG:=hG.le oJ
 replace kx:=kx.le oJ
 replace p6:=p6.le oJ
 replace Ht:=Ht.le oJ
 replace hle0:=hle0.trans oJ
 refine gK 4 [(6,.iface 92 (vP e))] [] ?_
 refine NS (gK 1 [(68,.iface 92 (vP e))] [] ?_)
 refine gL [1] (EO hE e 0 nm 174) ?_
 rintro _ _ ⟨rfl,rfl⟩
 refine gK 5 [(7,vI 174),(8,vI 0)] [] ?_
 refine NS (gK 11 [(0,.bool true)] [] ?_)
 refine NN (af.ret ?_)
 exact aj.iQ (v:=.bool true) (l:=[]) (aZ:=[]) [] [2] hle0 (fun _=>by kernel_rfl) trivial rfl (by kernel_rfl) (⟨rfl,rfl⟩)
end
section
open Go.RowKit
section y
variable {P:Program} {β qY:Bs} {N:dF} {ops:Array Oper} {S:List HP} {l l':List (Bool×Nat)} {fr fr':Fr} {hps:List HP} {Q:Post} {i:Nat} {aZ:List Prop}
def lK (P:Program) (ops:Array Oper) (Q:Post) (R S:World->Prop):List (Bool×Nat)->Act->World->Prop
  | [],a,w=>Q .normal a w
  | (false,i)::l,a,w=>wpOp P ops Q i (fun a' w'=>(l=[]\/S w')/\lK P ops Q R S l a' w') a w
  | (true,i)::l,a,w=>∃ o v,ops[i]?=some o/\YieldsIf P ops R o v a/\lK P ops Q R S l (a.put o.dst v) w
theorem Bu {R S:World->Prop} (hs:∀ w,S w->R w):∀ (l:List (Bool×Nat)) (a:Act) (w:World),lK P ops Q R S l a w->fV P ops Q S l a w
  | [],_,_,h=>h
  | (false,i)::l,a,w,h=>by
    unfold lK at h;unfold fV
    exact wpOp_mono (fun a' w' h'=>⟨h'.1,Bu hs l a' w' h'.2⟩) h
  | (true,i)::l,a,w,h=>by
    unfold lK at h;unfold fV
    obtain⟨o,v,h1,h2,h3⟩:=h
    exact⟨o,v,h1,h2.imp (fun q=>⟨q.1,fun w hw=>q.2 w (hs w hw)⟩) id,Bu hs l _ w h3⟩
def Bs.bare (β:Bs):Bs:=⟨fun _=>False,β.w0⟩
theorem Sat.bare {w:World} (h:Sat β S w):Sat β.bare [] w:=by
  obtain⟨ho,_⟩:=h
  exact⟨⟨ho.os,ho.tape,ho.output,ho.size,fun k hk=>hk.elim⟩,fun _ _=>False,fun i p h=>absurd h (by simp),fun i hi=>absurd hi (Nat.not_lt_zero i),fun i j hi=>absurd hi (Nat.not_lt_zero i)⟩
def Grown (a b:Bs):Prop:=a=b\/a.le b
theorem Grown.trans {a b c:Bs} (h:Grown a b) (g:b.le c):Grown a c:=.inr (h.elim (fun e=>e ▸ g) (fun h=>h.trans g))
theorem Grown.sat {a b:Bs} {w:World} (h:Grown a b) (hS:Sat b S w):Sat a S w:=h.elim (fun e=>e ▸ hS) (fun h=>hS.Bz h)
def oK (P:Program) (β qY:Bs) (N:dF) (ops:Array Oper) (S:List HP) (l:List (Bool×Nat)) (fr:Fr) (hps:List HP) (Q:Post):Prop:=
  ∀ junk w,Sat β hps w->lK P ops (NP Q) (Sat qY.bare []) (Sat qY S) l (bQ N fr junk) w
theorem fk.MW (K:oK P β β N ops S l fr hps Q):fk P β N ops S l fr hps Q:=fun junk w hS=>Bu (fun _ h=>h.bare) _ _ _ (K junk w hS)
theorem oK.last (hg:gB ops i=true) (h:ak P β N (ou ops i) i fr hps (NP Q)):oK P β qY N ops S [(false,i)] fr hps Q:=by
  intro junk w hS
  unfold lK
  exact nA hg (mw (Q':=_) (fun a w hq=>⟨.inl rfl,by unfold lK;exact hq⟩) _ (h junk w hS))
theorem tQ {junk:Nat->Value} {w:World} {S2:World->Prop}:∀ {hs:List OH} {is:List Nat} {fr fr':Fr} {T T':SS},kO P β N junk ops hs is fr T=some (fr',T')->(∀ p,p∈T'.aZ->p)->T.used=true->T.hps=S →
    lK P ops (NP Q) (Sat β S) S2 l (bQ N fr' junk) w->lK P ops (NP Q) (Sat β S) S2 (is.map (fun i=>(true,i))++l) (bQ N fr junk) w
  | [],[],fr,fr',T,T',h,ho,hu,hT,hK=>by cases h;exact hK
  | h::hs,i::is,fr,fr',T,T',hr,ho,hu,hT,hK=>by
    unfold kO at hr
    repeat' split at hr
    all_goals first|(cases hr;done)|skip
    ·rename_i o hget _ hwant _ v T1 h0 _ hv
     obtain⟨e1,e2⟩:=qg h0
     rw [List.map_cons,List.cons_append]
     unfold lK
     refine⟨o,v,hget,.inl ⟨by rw [dJ];exact hwant,fun w' cT=>?_⟩,?_⟩
     ·rw [dY]
      obtain⟨w2,h1,_,_,h4⟩:=jP h0 (fun p hp=>ho p (pY hr p hp)) (by rw [hT];exact cT) (fun e=>by rw [hu] at e;cases e)
      obtain⟨ew,_⟩:=h4 rfl
      rw [ew] at h1
      rcases h1 with h1|⟨h1,_⟩
      ·exact h1
      exact absurd h1 (mW hv)
     rw [dI]
     exact tQ hr ho (e2.trans hu) (e1.trans hT) hK
    rename_i o hget _ hwant
    rw [List.map_cons,List.cons_append]
    unfold lK
    refine⟨o,undef,hget,.inr ⟨by rw [dJ];exact hwant,rfl⟩,?_⟩
    rw [dI]
    exact tQ hr ho hu hT hK
  | [],_::_,_,_,_,_,h,_,_,_,_=>by cases h
  | _::_,[],_,_,_,_,h,_,_,_,_=>by cases h
theorem gH (l2:List (Bool×Nat)) (lM:Fr) (is:List Nat) (os:List (Nat×OP)) (K:oK P β qY N ops S l2 lM hps Q)
    (h:∀ junk,mz P qY.bare N junk ops (jE (gX is.length os 0)) is fr [] (bp lM)=some (lM,owed (gX is.length os 0)):=by intro _;kernel_rfl) (hl:l'=is.map (fun i=>(true,i))++l2:=by rfl):oK P β qY N ops S l' fr hps Q:=by
  intro junk w hS
  subst hl
  have h0:=h junk
  unfold mz at h0
  split at h0
  ·rename_i fr1 S1 h1
   injection h0 with h0
   injection h0 with e1 e2
   have hK:=K (lk fr1 junk) w hS
   rw [← e1,← jw] at hK
   exact tQ h1 (fun p hp=>(mX _).mem (by rw [← e2];exact hp)) rfl rfl hK
  cases h0
end y
end
section
open Go.RowKit
section order
variable {P:Program} {ops:Array Oper} {Q Q':Post} {n:Nat} {S:World->Prop} {j:Nat} {l2:List (Bool×Nat)}
def nC (P:Program) (ops:Array Oper) (Q:Post) (S:World->Prop) (j:Nat) (l2:List (Bool×Nat)):List (Bool×Nat)->Act->World->Prop
  | [],a,w=>wpOp P ops Q j (fun a' w'=>S w'/\fV P ops Q S l2 a' w') a w
  | (false,i)::l,a,w=>wpOp P ops Q i (fun a' w'=>S w'/\nC P ops Q S j l2 l a' w') a w/\wpOp P ops Q j (fun a' w'=>S w'/\fV P ops Q S ((false,i)::(l++l2)) a' w') a w
  | (true,i)::l,a,w=>∃ o v,ops[i]?=some o/\YieldsIf P ops S o v a/\nC P ops Q S j l2 l (a.put o.dst v) w
def xj (ops:Array Oper) (n j:Nat) (l2:List (Bool×Nat)):List (Bool×Nat)->Array Bool->Bool
  | [],listed=>(Region.ready .any ops listed == [j]) && uE ops n l2 (listed.setIfInBounds j true)
  | (false,i)::l,listed=>(Region.ready .any ops listed == (if i < j then [i,j] else [j,i])) && xj ops n j l2 l (listed.setIfInBounds i true) && uE ops n ((false,i)::(l++l2)) (listed.setIfInBounds j true)
  | (true,i)::l,listed=>decide (i < n) && Region.free .any ops listed i && (Region.ready .any ops listed).contains i && xj ops n j l2 l (listed.setIfInBounds i true)
theorem Bv (hsel:Region.noSelect ops=true) (kJ:Region.sinkB .any ops n=true):∀ (l:List (Bool×Nat)) (listed:Array Bool) (a:Act) (w:World),xj ops n j l2 l listed=true->Closed ops listed->S w->nC P ops (NP Q) S j l2 l a w->iT P ops (NP Q) n S (l.length+(l2.length+1)) listed a w
  | [],listed,a,w,hb,hc,_,h=>by
    unfold xj at hb
    simp only [Bool.and_eq_true,beq_iff_eq] at hb
    obtain⟨h1,h3⟩:=hb
    rw [List.length_nil,Nat.zero_add]
    refine⟨fun h0=>(by rw [h1] at h0;cases h0),fun k hk=>?_⟩
    have hr:=hk
    rw [h1] at hk
    have hk:k=j:=by simpa using hk
    subst hk
    exact wpOp_mono (fun a' w' h4=>⟨.inr h4.1,qF hsel kJ l2 _ a' w' h3 (hc.set hr) (.inr h4.1) h4.2⟩) h
  | (false,i)::l,listed,a,w,hb,hc,_,h=>by
    unfold xj at hb
    simp only [Bool.and_eq_true,beq_iff_eq] at hb
    obtain⟨⟨h1,h2⟩,h3⟩:=hb
    rw [List.length_cons,Nat.succ_add]
    refine⟨fun h0=>(by rw [h1] at h0;split at h0<;>cases h0),fun k hk=>?_⟩
    have hr:=hk
    rw [h1] at hk
    have hk:k=i\/k=j:=by
      split at hk<;>(simp at hk;omega)
    rcases hk with rfl|rfl
    ·exact wpOp_mono (fun a' w' h4=>⟨.inr h4.1,Bv hsel kJ l _ a' w' h2 (hc.set hr) h4.1 h4.2⟩) h.1
    refine wpOp_mono (fun a' w' h4=>⟨.inr h4.1,?_⟩) h.2
    have:=qF hsel kJ ((false,i)::(l++l2)) _ a' w' h3 (hc.set hr) (.inr h4.1) h4.2
    rw [List.length_cons,List.length_append] at this
    exact this
  | (true,i)::l,listed,a,w,hb,hc,hS,h=>by
    unfold xj at hb
    simp only [Bool.and_eq_true,decide_eq_true_iff] at hb
    obtain⟨⟨⟨h1,h2⟩,h3⟩,h4⟩:=hb
    obtain⟨o,v,ho,hy,hk⟩:=h
    have hr:i∈Region.ready .any ops listed:=by simpa using h3
    rw [List.length_cons,Nat.succ_add]
    exact pN ho hsel kJ h1 _ listed a w hc (Region.free_spec ho h2) hr hy hS (Bv hsel kJ l _ _ w h4 (hc.set hr) hS hk)
def Ju (ops:Array Oper) (j:Nat) (l l2:List (Bool×Nat)):Bool:=
  Region.noSelect ops && Region.sinkB .any ops (ops.size - 1) && (l.length+(l2.length+1) == ops.size) && xj ops (ops.size - 1) j l2 l (Array.replicate ops.size false)
end order
section mix
variable {P:Program} {β:Bs} {N:dF} {ops:Array Oper} {S:List HP} {l l' l2:List (Bool×Nat)} {fr fr':Fr} {hps:List HP} {Q:Post} {aZ:List Prop} {i j:Nat}
def za (P:Program) (β:Bs) (N:dF) (ops:Array Oper) (S:List HP) (j:Nat) (l2 l:List (Bool×Nat)) (fr:Fr) (hps:List HP) (Q:Post):Prop:=
  ∀ junk w,Sat β hps w->nC P ops (NP Q) (Sat β S) j l2 l (bQ N fr junk) w
theorem af.DS {id:Nat} (j:Nat) (l l2:List (Bool×Nat)) (hm:P.follows .mixedOrders=true) (hB:Ju ops j l l2=true) (hp:∀ w,Sat β hps w->Sat β S w) (h:za P β N ops S j l2 l fr hps Q):af P β N (.region id ops true) fr hps Q:=by
  intro junk w hS
  unfold Ju at hB
  simp only [Bool.and_eq_true,beq_iff_eq] at hB
  obtain⟨⟨⟨h1,h2⟩,h3⟩,h4⟩:=hB
  have cT:=hS.drewN 1
  have h5:=Bv (Q:=Q) h1 h2 l _ _ _ h4 (fun j oj _ hl=>by simp [Array.getD_eq_getD_getElem?,Array.getElem?_replicate] at hl;split at hl<;>simp at hl) (hp _ cT) (h junk (w.drewN 1) cT)
  rw [h3] at h5
  refine Code.wp_mono (fun e a w q=>?_) (wp_region_any hm (lS _ _ _ _ h5))
  cases e with
  | normal=>exact q
  | exit id=>exact q.elim
  | goto l=>exact q.elim
  | ret=>exact q.elim
  | panic ch=>exact q.elim
  | outgrown=>exact q.elim
theorem tS {junk:Nat->Value} {w:World}:∀ {hs:List OH} {is:List Nat} {fr fr':Fr} {T T':SS},kO P β N junk ops hs is fr T=some (fr',T')->(∀ p,p∈T'.aZ->p)->T.used=true->T.hps=S →
    nC P ops (NP Q) (Sat β S) j l2 l (bQ N fr' junk) w->nC P ops (NP Q) (Sat β S) j l2 (is.map (fun i=>(true,i))++l) (bQ N fr junk) w
  | [],[],fr,fr',T,T',h,ho,hu,hT,hK=>by cases h;exact hK
  | h::hs,i::is,fr,fr',T,T',hr,ho,hu,hT,hK=>by
    unfold kO at hr
    repeat' split at hr
    all_goals first|(cases hr;done)|skip
    ·rename_i o hget _ hwant _ v T1 h0 _ hv
     obtain⟨e1,e2⟩:=qg h0
     rw [List.map_cons,List.cons_append]
     unfold nC
     refine⟨o,v,hget,.inl ⟨by rw [dJ];exact hwant,fun w' cT=>?_⟩,?_⟩
     ·rw [dY]
      obtain⟨w2,h1,_,_,h4⟩:=jP h0 (fun p hp=>ho p (pY hr p hp)) (by rw [hT];exact cT) (fun e=>by rw [hu] at e;cases e)
      obtain⟨ew,_⟩:=h4 rfl
      rw [ew] at h1
      rcases h1 with h1|⟨h1,_⟩
      ·exact h1
      exact absurd h1 (mW hv)
     rw [dI]
     exact tS hr ho (e2.trans hu) (e1.trans hT) hK
    rename_i o hget _ hwant
    rw [List.map_cons,List.cons_append]
    unfold nC
    refine⟨o,undef,hget,.inr ⟨by rw [dJ];exact hwant,rfl⟩,?_⟩
    rw [dI]
    exact tS hr ho hu hT hK
  | [],_::_,_,_,_,_,h,_,_,_,_=>by cases h
  | _::_,[],_,_,_,_,h,_,_,_,_=>by cases h
theorem gJ (l3:List (Bool×Nat)) (lM:Fr) (is:List Nat) (os:List (Nat×OP)) (K:za P β N ops S j l2 l3 lM hps Q)
    (h:∀ junk,mz P β N junk ops (jE (gX is.length os 0)) is fr S (bp lM)=some (lM,owed (gX is.length os 0)):=by intro _;kernel_rfl) (hl:l'=is.map (fun i=>(true,i))++l3:=by rfl):za P β N ops S j l2 l' fr hps Q:=by
  intro junk w hS
  subst hl
  have h0:=h junk
  unfold mz at h0
  split at h0
  ·rename_i fr1 S1 h1
   injection h0 with h0
   injection h0 with ha hb
   have hK:=K (lk fr1 junk) w hS
   rw [← ha,← jw] at hK
   refine tS h1 (fun p hp=>?_) rfl rfl hK
   rw [hb] at hp
   exact (mX _).mem hp
  cases h0
def fO (P:Program) (β:Bs) (N:dF) (ops:Array Oper) (Q:Post) (S:List HP) (G:List HP->Prop) (dj:Nat):List (Bool×Nat×Nat)->Fr->List HP->(Fr->List HP->Prop)->Prop
  | [],fr,hps,R=>R fr hps
  | (false,i,d)::c,fr,hps,R=>(iX d (bp fr)=false/\d≠dj)/\∃ q:Value->List HP->Prop,iA P β N ops Q i d [d,dj] fr hps q/\∀ v l,q v l->G l/\fO P β N ops Q S G dj c ((d,v)::fr) l R
  | (true,i,d)::c,fr,hps,R=>(iX d (bp fr)=false/\d≠dj)/\∃ o v,ops[i]?=some o/\o.dst=some d/\(∀ junk,YieldsIf P ops (Sat β S) o v (bQ N fr junk))/\fO P β N ops Q S G dj c ((d,v)::fr) hps R
theorem fO.step {G:List HP->Prop} {dj d:Nat} {c:List (Bool×Nat×Nat)} {R:Fr->List HP->Prop} {q:Value->List HP->Prop} (h:iA P β N ops Q i d [d,dj] fr hps q) (h1:(!iX d (bp fr) && decide (d≠dj))=true) (K:∀ v l,q v l->G l/\fO P β N ops Q S G dj c ((d,v)::fr) l R):fO P β N ops Q S G dj ((false,i,d)::c) fr hps R:=by
  simp only [Bool.and_eq_true,Bool.not_eq_true',decide_eq_true_iff] at h1
  exact⟨h1,q,h,K⟩
theorem fO.read {G:List HP->Prop} {dj d:Nat} {c:List (Bool×Nat×Nat)} {R:Fr->List HP->Prop} {v:Value} (h:∀ junk,mz P β N junk ops [o_] [i] fr S (d::bp fr)=some ((d,v)::fr,[])) (hd:(ops[i]?).map Oper.dst=some (some d)) (h1:(!iX d (bp fr) && decide (d≠dj))=true) (K:fO P β N ops Q S G dj c ((d,v)::fr) hps R):fO P β N ops Q S G dj ((true,i,d)::c) fr hps R:=by
  simp only [Bool.and_eq_true,Bool.not_eq_true',decide_eq_true_iff] at h1
  obtain⟨o,ho,Tk⟩:=Option.map_eq_some_iff.1 hd
  refine⟨h1,o,v,ho,Tk,fun junk=>?_,K⟩
  have h0:=h junk
  unfold mz at h0
  split at h0
  ·rename_i fr1 S1 hr
   injection h0 with h0
   injection h0 with ha hb
   unfold kO at hr
   rw [ho] at hr
   simp only at hr
   repeat' split at hr
   all_goals first|(cases hr;done)|skip
   ·rename_i _ hwant _ v1 T1 hrun _ hv
    unfold kO at hr
    injection hr with hr
    injection hr with hr1 hr2
    have hv1:v1=v:=by
      rw [← hr1] at ha
      have h3:lk (iB (dw fr o.dst v1) junk (d::bp fr)) junk d=lk ((d,v)::fr) junk d:=congrArg (fun f:Fr=>lk f junk d) ha
      have h2:lk (iB (dw fr o.dst v1) junk (d::bp fr)) junk d=v1:=by
        rw [Tk]
        simp [iB,lk,dw]
      rw [h2,fC,if_pos rfl] at h3
      exact h3
    refine .inl ⟨by rw [dJ];exact hwant,fun w' cT=>?_⟩
    rw [dY]
    obtain⟨w2,g1,_,_,g4⟩:=jP hrun (fun p hp=>by rw [hr2,hb] at hp;cases hp) (by exact cT) (fun e=>by cases e)
    obtain⟨ew,_⟩:=g4 rfl
    rw [ew] at g1
    rcases g1 with g1|⟨g1,_⟩
    ·rw [← hv1];exact g1
    exact absurd g1 (mW hv)
   rename_i _ hwant
   unfold kO at hr
   injection hr with hr
   injection hr with hr1 hr2
   have hv1:undef=v:=by
     rw [← hr1] at ha
     have h3:lk (iB (dw fr o.dst undef) junk (d::bp fr)) junk d=lk ((d,v)::fr) junk d:=congrArg (fun f:Fr=>lk f junk d) ha
     have h2:lk (iB (dw fr o.dst undef) junk (d::bp fr)) junk d=undef:=by
       rw [Tk]
       simp [iB,lk,dw]
     rw [h2,fC,if_pos rfl] at h3
     exact h3
   exact .inr ⟨by rw [dJ];exact hwant,hv1.symm⟩
  cases h0
section R3
variable {dj:Nat} {Z pj:List HP} {qj:Value->List HP->Prop} {R:Fr->List HP->Prop} {G:List HP->Prop}
theorem zM {v:Value} {junk:Nat->Value} (hv:junk dj=v) (hdj:iX dj (bp fr)=false):bQ N fr junk=bQ N ((dj,v)::fr) junk:=nO fun t=>by
  rw [fC]
  by_cases e1:dj=t
  ·subst e1;rw [if_pos rfl,lf (fun hm=>by rw [iM.2 hm] at hdj;cases hdj),hv]
  rw [if_neg e1]
theorem xk {d:Nat} {v:Value} (h1:d≠dj) (hdj:iX dj (bp fr)=false):iX dj (bp ((d,v)::fr))=false:=by
  cases hb:iX dj (bp ((d,v)::fr)) with
  | false=>rfl
  | true=>
    rcases List.mem_cons.1 (iM.1 hb) with e|e
    ·exact absurd e.symm h1
    rw [iM.2 e] at hdj;cases hdj
abbrev Jv (c:List (Bool×Nat×Nat)):List (Bool×Nat):=c.map (fun x=>(x.1,x.2.1))
theorem xq {v:Value} {lp:List HP} (hG:∀ h X w,G h->Sat β (h++(X++Z)) w->Sat β S w) (hK:∀ f1 h1,R f1 h1->∀ junk w,Sat β (h1++(lp++Z)) w->fV P ops (NP Q) (Sat β S) l2 (bQ N ((dj,v)::f1) junk) w) :
    ∀ (c:List (Bool×Nat×Nat)) (fr:Fr) (hps:List HP) (junk:Nat->Value) (w:World),iX dj (bp fr)=false->fO P β N ops Q S G dj c fr hps R->junk dj=v->Sat β (hps++(lp++Z)) w->fV P ops (NP Q) (Sat β S) (Jv c++l2) (bQ N fr junk) w
  | [],fr,hps,junk,w,hdj,hc,hv,hS=>by
    show fV _ _ _ _ l2 _ _
    rw [zM hv hdj]
    exact hK fr hps hc junk w hS
  | (false,i,d)::c,fr,hps,junk,w,hdj,⟨⟨h1,h2⟩,q,h3,h4⟩,hv,hS=>by
    show fV _ _ _ _ ((false,i)::(Jv c++l2)) _ _
    unfold fV
    refine h3.at_ (X:=[]) hS (fun v' l j2 w' g1 g2 g3 g4=>?_)
    obtain⟨k1,k2⟩:=h4 v' l g1
    refine⟨.inr (hG l lp w' k1 g4),?_⟩
    rw [zM g2 h1]
    exact xq hG hK c _ l j2 w' (xk h2 hdj) k2 ((g3 dj (by simp) (fun e=>h2 e.symm)).trans hv) g4
  | (true,i,d)::c,fr,hps,junk,w,hdj,⟨⟨h1,h2⟩,o,v',h3,h4,h5,h6⟩,hv,hS=>by
    show fV _ _ _ _ ((true,i)::(Jv c++l2)) _ _
    unfold fV
    refine⟨o,v',h3,h5 junk,?_⟩
    rw [h4,dI]
    exact xq hG hK c _ hps junk w (xk h2 hdj) h6 hv hS
theorem xu {j:Nat} (hG:∀ h X w,G h->Sat β (h++(X++Z)) w->Sat β S w) (hK:∀ f1 h1,R f1 h1->∀ v lp,qj v lp->∀ junk w,Sat β (h1++(lp++Z)) w->fV P ops (NP Q) (Sat β S) l2 (bQ N ((dj,v)::f1) junk) w) :
    ∀ (c:List (Bool×Nat×Nat)) (fr:Fr) (hps:List HP) (junk:Nat->Value) (w:World),nodupB (c.map (·.2.2))=true->iX dj (bp fr)=false->iA P β N ops Q j dj (dj::c.map (·.2.2)) fr pj qj->fO P β N ops Q S G dj c fr hps R->G hps->Sat β (hps++(pj++Z)) w->nC P ops (NP Q) (Sat β S) j l2 (Jv c) (bQ N fr junk) w
  | [],fr,hps,junk,w,_,hdj,hj,hc,hg,hS=>by
    show wpOp P ops (NP Q) j _ _ _
    refine hj.at_ (X:=hps) hS (fun v l j2 w' g1 g2 g3 g4=>⟨hG hps l w' hg g4,?_⟩)
    rw [zM g2 hdj]
    exact hK fr hps hc v l g1 j2 w' g4
  | (false,i,d)::c,fr,hps,junk,w,hnd,hdj,hj,hc,hg,hS=>by
    have hc0:=hc
    obtain⟨⟨h1,h2⟩,q,h3,h4⟩:=hc
    have hout:d∉bp fr:=fun hm=>by rw [iM.2 hm] at h1;cases h1
    have yL:d∉c.map (·.2.2)/\nodupB (c.map (·.2.2))=true:=by
      have hx:nodupB (d::c.map (·.2.2))=true:=hnd
      unfold nodupB at hx
      simp only [Bool.and_eq_true] at hx
      exact⟨fun hm=>by have h:=hx.1;simp_all,hx.2⟩
    refine⟨h3.at_ (X:=[]) hS (fun v' l j2 w' g1 g2 g3 g4=>?_),hj.at_ (X:=hps) hS (fun v l j2 w' g1 g2 g3 g4=>⟨hG hps l w' hg g4,?_⟩)⟩
    ·obtain⟨k1,k2⟩:=h4 v' l g1
     refine⟨hG l pj w' k1 g4,?_⟩
     rw [zM g2 h1]
     exact xu hG hK c _ l j2 w' yL.2 (xk h2 hdj) (hj.grow hout h2 yL.1 v') k2 k1 g4
    exact xq hG (fun f1 h1 hr=>hK f1 h1 hr v l g1) ((false,i,d)::c) fr hps j2 w' hdj hc0 g2 g4
  | (true,i,d)::c,fr,hps,junk,w,hnd,hdj,hj,⟨⟨h1,h2⟩,o,v',h3,h4,h5,h6⟩,hg,hS=>by
    have hout:d∉bp fr:=fun hm=>by rw [iM.2 hm] at h1;cases h1
    have yL:d∉c.map (·.2.2)/\nodupB (c.map (·.2.2))=true:=by
      have hx:nodupB (d::c.map (·.2.2))=true:=hnd
      unfold nodupB at hx
      simp only [Bool.and_eq_true] at hx
      exact⟨fun hm=>by have h:=hx.1;simp_all,hx.2⟩
    show nC _ _ _ _ _ _ ((true,i)::Jv c) _ _
    unfold nC
    refine⟨o,v',h3,h5 junk,?_⟩
    rw [h4,dI]
    exact xu hG hK c _ hps junk w yL.2 (xk h2 hdj) (hj.grow hout h2 yL.1 v') h6 hg hS
theorem za.beside {j:Nat} {pc:List HP} (pk:List Nat) (G:List HP->Prop) (c:List (Bool×Nat×Nat)) (hn:nodupB pk=true) (hp:bT hps pk=some (pc++(pj++Z))) (hl:l=Jv c) (hG:∀ h X w,G h->Sat β (h++(X++Z)) w->Sat β S w) (hg:G pc) (hnd:nodupB (c.map (·.2.2))=true) (hdj:iX dj (bp fr)=false)
    (hj:iA P β N ops Q j dj (dj::c.map (·.2.2)) fr pj qj) (hc:fO P β N ops Q S G dj c fr pc R)
    (K:∀ f1 h1,R f1 h1->∀ v lp,qj v lp->fk P β N ops S l2 ((dj,v)::f1) (h1++(lp++Z)) Q):za P β N ops S j l2 l fr hps Q:=by
  intro junk w hS
  subst hl
  exact xu hG (fun f1 h1 hr v lp hv junk w hS=>K f1 h1 hr v lp hv junk w hS) c fr pc junk w hnd hdj hj hc hg (hS.pick hn hp)
end R3
end mix
end
section
open Go.RowKit Go.Maps bF aB
def jh (G:WG):bY where
  h F w:=∃ fs xs root S V tr,(fq (wP G fs xs root S V tr)).h F w
  lt:=fun ⟨_,_,_,_,_,_,h⟩=>bY.lt _ h
  st:=fun ⟨fs,xs,root,S,V,tr,h⟩ _ _ hk hd=>⟨fs,xs,root,S,V,tr,bY.st _ h hk hd⟩
theorem jm {G:WG}:∀ F w,(jh G).h F w->w.cell? ⟨G.w,0,none⟩=some (.iface 39 (vP G.w)):=by
  rintro F w ⟨fs,xs,root,S,V,tr,h⟩
  exact uM F w h
theorem Sat.wg {β:Bs} {l:List HP} {w:World} {i:Nat} {G:WG} {fs:List bq} {xs:List bP} {root:Int} {S:aG} {V:WV} {tr:List ax} (h:Sat β l w) (hp:l[i]?=some (wA G fs xs root S V tr)):Sat β (l.set i (.abs (jh G))) w:=by
  refine h.set hp (fun F hF=>⟨F,⟨fs,xs,root,S,V,tr,hF⟩,?_⟩)
  exact Step.refl _ _
theorem Sat.Xa {β:Bs} {l l':List HP} {w:World} (f:Nat->Nat) (h:Sat β l w) (hf:∀ k p,l'[k]?=some p->l[f k]?=some p) (hi:∀ a b,a < l'.length->b < l'.length->f a=f b->a=b):Sat β l' w:=by
  obtain⟨ho,φ,h1,h2,h3⟩:=h
  have key:∀ k,k < l'.length->f k < l.length:=fun k hk=>by
    obtain⟨p,hp⟩:=iY hk
    exact bA (hf k p hp)
  exact⟨ho,fun k=>φ (f k),fun k p hp=>h1 _ p (hf k p hp),fun k hk=>h2 _ (key k hk),fun a b ha hb hne=>h3 _ _ (key a ha) (key b hb) (fun e=>hne (hi a b ha hb e))⟩
def Hu (G:WG) (l:List HP):Prop:=∃ (i:Nat) (fs:List bq) (xs:List bP) (root:Int) (S:aG) (V:WV) (tr:List ax),l[i]?=some (wA G fs xs root S V tr)
theorem xw {G:WG} {l:List HP} (i:Nat) {fs:List bq} {xs:List bP} {root:Int} {S:aG} {V:WV} {tr:List ax} (h:l[i]?=some (wA G fs xs root S V tr)):Hu G l:=⟨i,fs,xs,root,S,V,tr,h⟩
theorem Hv {β:Bs} {G:WG} {Z S1:List HP} {pS:List Nat} (hn:nodupB pS=true) (hp:bT Z pS=some S1) (h X:List HP) (w:World) (hw:Hu G h) (hS:Sat β (h++(X++Z)) w):Sat β (S1++[.abs (jh G)]) w:=by
  obtain⟨i,fs,xs,root,S,V,tr,hi⟩:=hw
  have hil:=bA hi
  have h1:=hS.wg (i:=i) (G:=G) (fs:=fs) (xs:=xs) (root:=root) (S:=S) (V:=V) (tr:=tr) (by rw [List.getElem?_append_left hil];exact hi)
  rw [List.set_append_left _ _ hil] at h1
  obtain⟨hl,hx⟩:=wh hp
  have hnd:=List.pairwise_iff_getElem.1 (uN hn)
  have hz:∀ k,k < S1.length->∃ p m,S1[k]?=some p/\pS[k]?=some m/\Z[m]?=some p:=fun k hk=>by
    obtain⟨p,hp⟩:=iY hk
    obtain⟨m,h2,h3⟩:=hx k p hp
    exact⟨p,m,hp,h2,h3⟩
  refine Sat.Xa (fun k=>if k < S1.length then h.length+X.length+pS.getD k 0 else i) h1 (fun k p hk=>?_) (fun a b ha hb e=>?_)
  ·by_cases hk1:k < S1.length
   ·obtain⟨p2,m,h2,h3,h4⟩:=hz k hk1
    rw [List.getElem?_append_left hk1,h2] at hk
    injection hk with hk
    subst hk
    simp only [if_pos hk1]
    rw [List.getD_eq_getElem?_getD,h3,List.getElem?_append_right (by rw [List.length_set];omega),List.length_set,List.getElem?_append_right (by omega)]
    show Z[h.length+X.length+m - h.length - X.length]?=_
    rw [show h.length+X.length+m - h.length - X.length=m by omega]
    exact h4
   rw [List.getElem?_append_right (by omega)] at hk
   have:k - S1.length=0:=by
     have:=bA hk
     simp at this
     omega
   rw [this] at hk
   injection hk with hk
   subst hk
   simp only [if_neg hk1]
   rw [List.getElem?_append_left (by rw [List.length_set];exact hil),List.getElem?_set_self hil]
  simp only [List.length_append,List.length_singleton] at ha hb
  have hlt:∀ k,k < S1.length->h.length+X.length+pS.getD k 0≠i:=fun k hk q=>by omega
  by_cases h1:a < S1.length<;>by_cases h2:b < S1.length
  ·simp only [if_pos h1,if_pos h2] at e
   have ga:pS.getD a 0=pS[a]'(by omega):=by rw [List.getD_eq_getElem?_getD,List.getElem?_eq_getElem (by omega)];rfl
   have gb:pS.getD b 0=pS[b]'(by omega):=by rw [List.getD_eq_getElem?_getD,List.getElem?_eq_getElem (by omega)];rfl
   rcases Nat.lt_trichotomy a b with q|q|q
   ·exact absurd (by rw [← ga,← gb];omega) (hnd a b (by omega) (by omega) q)
   ·exact q
   exact absurd (by rw [← ga,← gb];omega) (hnd b a (by omega) (by omega) q)
  ·simp only [if_pos h1,if_neg h2] at e;exact absurd e (hlt a h1)
  ·simp only [if_neg h1,if_pos h2] at e;exact absurd e.symm (hlt b h2)
  omega
theorem bD.Jw {P:Program} {β:Bs} {f:FuncId} {args:Array Value} {pre R:List HP} {post:Bs->Value->List HP->Prop} (h:∀ β':Bs,qq β R β'->bD P β' f args pre post):bD P β f args (pre++R) post:=by
  intro A w hS
  have h1:=Sat.turn hS
  rw [← List.append_assoc] at h1
  obtain⟨β',g1,_,g3⟩:=h1.AJ
  refine (h β' g1 A w (Sat.turn g3)).mono ?_
  rintro e w' ⟨D6,v,l,hle,h2⟩
  exact⟨D6,v,l,g1.le.trans hle,h2⟩
section w
variable {β:Bs} {G:WG} {fs:List bq} {xs:List bP} {root:Int} {S:aG} {V:WV} {tr:List ax} {n:Nat} {h:Int} {r:I8} {A:Option Addr} {kq:Nat} {ps:List ByteArray} {mode:Int}
abbrev CU (A:Option Addr) (n c:Nat) (ps:List ByteArray):HP:=.abs (aJ 9 1 A n c (ig ps))
theorem CV (hc:r.code=0) (hrw:(Lit.int .i64 root).wf=true) (hI:Inv S) (hn:tr.length=n) (hn2:n<=100) (hZ:fL β G.Z xs) (hX:eG xs 1048576) (hg:dV β) (hE:jt β) (hw:(Lit.int .i64 h).wf=true) (hpl:ps.length<=1048576) (hps:∀ i,i < ps.length->(pc ps i).size<=1048576) (hr:gI fs xs root mode ps 0 S n h false 0=r) :
    Spec Tryz.prog β 10 (xh G h A ps.length kq mode) [wA G fs xs root S V tr,CU A ps.length kq ps] (fun v l=>∃ (V':WV) (q:{ l:List ax // l.length=r.n }),v=.tuple #[.agg #[.int .i64 r.cur,.bool r.own,.int .i64 r.made],.nilIface]/\l=[wA G fs xs root r.S V' q.1]):=
  (bD.Jw (pre:=[wA G fs xs root S V tr]) (R:=[CU A ps.length kq ps]) fun _ hL=>by
    obtain⟨F,h1,h2⟩:=hL.get 0 rfl
    exact MS hc hrw hI hn hn2 (hZ.le hL.le) hX (hg.le hL.le) (hE.le hL.le) hw (cW.jM h1 h2 rfl) hpl hps hr).Gm
theorem Iq (hc:¬ r.code=0) (hrw:(Lit.int .i64 root).wf=true) (hI:Inv S) (hn:tr.length=n) (hn2:n<=100) (hZ:fL β G.Z xs) (hX:eG xs 1048576) (hg:dV β) (hE:jt β) (hw:(Lit.int .i64 h).wf=true) (hpl:ps.length<=1048576) (hps:∀ i,i < ps.length->(pc ps i).size<=1048576) (hr:gI fs xs root mode ps 0 S n h false 0=r) :
    Spec Tryz.prog β 10 (xh G h A ps.length kq mode) [wA G fs xs root S V tr,CU A ps.length kq ps] (fun v l=>∃ (V':WV) (q:{ l:List ax // l.length=r.n }) (e:Nat) (nm:ByteArray),v=.tuple #[.agg #[.int .i64 0,.bool false,.int .i64 r.made],.iface 92 (vP e)]/\l=[wA G fs xs root r.S V' q.1,.blk e [.int .i64 r.at_,.string nm,.int .i64 r.code] 94]):=
  (bD.Jw (pre:=[wA G fs xs root S V tr]) (R:=[CU A ps.length kq ps]) fun _ hL=>by
    obtain⟨F,h1,h2⟩:=hL.get 0 rfl
    exact KL hc hrw hI hn hn2 (hZ.le hL.le) hX (hg.le hL.le) (hE.le hL.le) hw (cW.jM h1 h2 rfl) hpl hps hr).Gm
end w
section rules
variable {P:Program} {β qY:Bs} {N:dF} {ops:Array Oper} {S:List HP} {l:List (Bool×Nat)} {fr:Fr} {hps:List HP} {Q:Post} {i:Nat}
theorem af.ol {id:Nat} (l:List (Bool×Nat)) (hm:P.follows .mixedOrders=true) (hB:zJ ops l=true) (hp:∀ w,Sat β hps w->Sat β S w) (h:fk P β N ops S l fr hps Q):af P β N (.region id ops true) fr hps Q:=by
  intro junk w hS
  unfold zJ at hB
  simp only [Bool.and_eq_true,beq_iff_eq] at hB
  obtain⟨⟨⟨h1,h2⟩,h3⟩,h4⟩:=hB
  have cT:=hS.drewN 1
  have h5:=qF (Q:=Q) h1 h2 l _ _ _ h4 (fun j oj _ hl=>by simp [Array.getD_eq_getD_getElem?,Array.getElem?_replicate] at hl;split at hl<;>simp at hl) (.inr (hp _ cT)) (h junk (w.drewN 1) cT)
  rw [h3] at h5
  refine Code.wp_mono (fun e a w q=>?_) (wp_region_any hm (lS _ _ _ _ h5))
  cases e with
  | normal=>exact q
  | exit id=>exact q.elim
  | goto l=>exact q.elim
  | ret=>exact q.elim
  | panic ch=>exact q.elim
  | outgrown=>exact q.elim
theorem oK.Uj {ι:Type} {B:ι->Bs} {Φ:ι->Prop} {fr':ι->Fr} {hp':ι->List HP} (hle:Grown qY β) (hg:gB ops i=true) (h:ak P β N (ou ops i) i fr hps (NP (Rq β N B Φ fr' hp'))) (hp:∀ j w,Sat (B j) (hp' j) w->Sat (B j) S w)
    (K:∀ j,β.le (B j)->Φ j->oK P (B j) qY N ops S l (fr' j) (hp' j) Q):oK P β qY N ops S ((false,i)::l) fr hps Q:=by
  intro junk w hS
  unfold lK
  refine nA hg (mw (Q':=_) (fun a w ⟨j,gA,hle2,xS,ha,cT⟩=>?_) _ (h junk w hS))
  subst ha
  exact⟨.inr ((hle.trans hle2).sat (hp j _ cT)),K j hle2 xS gA w cT⟩
theorem fk.O9 {ι:Type} {fr':ι->Fr} {hp':ι->List HP} (hg:gB ops i=true) (h:ak P β N (ou ops i) i fr hps (NP (nV β N fr' hp'))) (hp:∀ j w,Sat β (hp' j) w->Sat β S w)
    (K:∀ j,fk P β N ops S l (fr' j) (hp' j) Q):fk P β N ops S ((false,i)::l) fr hps Q:=by
  intro junk w hS
  unfold fV
  refine nA hg (mw (Q':=_) (fun a w ⟨j,gA,ha,cT⟩=>?_) _ (h junk w hS))
  subst ha
  exact⟨.inr (hp j _ cT),K j gA w cT⟩
end rules
end
section
open Go.RowKit Go.Maps bF aB
attribute [local irreducible] ak aR af aj
theorem rO {β:Bs} (A:Option Addr) (c:Nat) (d:List ByteArray) (hA:eU β A d) (hl:d.length<=1048576) :
    Spec Tryz.prog β 11 #[.slice A d.length c] [] (fun v l=>∃ B cap,v=.slice B d.length cap/\l=[.abs (aJ 9 1 B d.length cap (ig d))]):=by
 refine Spec.enter Tryz.func11 rfl Tryz.ntmps11 (Nat.le_of_ble_eq_true rfl) (fun R=>?_)
 refine SR (gK 1 [] [] ?_)
 refine NS (gN 2 (fun b1=>[(3,.slice (some ⟨b1,0,none⟩) (0) (0))]) (fun _=>[]) (fun _=>[]) (fun b1=>.blk b1 [] 9) (fun b1=>?_))
 refine NS (ak.mem (fun w hS=>hS.pG (i:=1) (b:=b1) (cs:=[]) (e:=9) 1 0 (by kernel_rfl) rfl (by decide)) ?_)
 refine gK 2 [(5,.slice (some ⟨b1,0,none⟩) (0) (0)),(6,.slice A (d.length) (c))] [] ?_
 refine ak.append 1 (d:=(some 7)) (t:=35) (e:=9) (z:=.string ⟨#[]⟩) (size:=1) (bytes:=16) (n:=0) (cap:=0) (A:=some ⟨b1,0,none⟩) (xs:=[]) (s:=(.tmp 5)) (x:=(.tmp 6)) (ats:=#[35,35]) (A':=A) (m:=d.length) (c':=c) (news:=(ig d)) (fun _=>by kernel_rfl) rfl (by kernel_rfl) (fun _=>by kernel_rfl) (fun _=>by kernel_rfl) Tryz.underlying35 (by kernel_rfl) rfl (by decide) (by rw [Me,Nat.mul_one]) (Oo) (hA.src) (by unfold maxLen;omega) (by omega) (fun A2 c3=>?_)
 refine ak.d9 1 (p:=.abs (aJ 9 1 A2 (0+d.length) c3 ([]++(ig d)))) (p':=.abs (aJ 9 1 A2 d.length c3 (ig d))) (by kernel_rfl) (by rw [Nat.zero_add,List.nil_append]) ?_
 refine ak.slot 7 (.slice A2 (0+d.length) (c3)) (.slice A2 (d.length) (c3)) (fun _=>by kernel_rfl) (by rw [Nat.zero_add]) ?_
 refine gK 1 [(3,.slice A2 (d.length) (c3))] [] ?_
 refine NS (gK 2 [(2,.slice A2 (d.length) (c3))] [] ?_)
 refine NN (af.ret ?_)
 exact RT (.slice A2 (d.length) (c3)) [1,0] (⟨A2,c3,rfl,rfl⟩)
end
section
open Go.RowKit Go.Maps bF aB
attribute [local irreducible] ak aR af aj
theorem law_resolveHolds (W:World) (A:Option Addr) (c:Nat) (ns:List aL) (Y:Lay) (hG:aI (B0 W) A ns Y) (hB:iJ ns 1048576) (X:FM) (root:Int) (Af:Option Addr) (cf:Nat) (fs:List bq) (hF:cW (B0 W) Af (bW fN fs)) (mA:ji fs 1048576) (Aa:Option Addr) (ca:Nat) (xs:List bP) (hA:cW (B0 W) Aa (bW gq xs)) (hab:eG xs 1048576) (hrw:(Lit.int .i64 root).wf=true) (Ap:Option Addr) (cp:Nat) (ps:List ByteArray) (hP:eU (B0 W) Ap ps) (hpl:ps.length<=1048576) (hps:∀ i,i < ps.length->(pc ps i).size<=1048576) (hg:dV (B0 W)) (hE:jt (B0 W)) (mode:Int) (far:Bool) :
    Spec Tryz.prog (B0 W) 3 #[.agg #[.slice A (ns.length) (c),vI (root),vI (X.cN),vI (X.cB),vI (X.cH),vI (X.cS),vI (X.cZ),.slice Af (fs.length) (cf),.slice Aa (xs.length) (ca)],.agg #[.slice Ap (ps.length) (cp),vI (mode),.bool far]] [] (fun v _=>v=.bool true):=by
 have hle0:=B0.refl W
 have hfl:=mA.len
 have hxn:=hab.len
 refine Spec.enter Tryz.func3 rfl Tryz.ntmps3 (Nat.le_of_ble_eq_true rfl) (fun R=>?_)
 refine SR (gN 1 (fun b1=>[(2,vP b1)]) (fun _=>[]) (fun _=>[]) (fun b1=>.blk b1 [.slice A (ns.length) (c),vI (root),vI (X.cN),vI (X.cB),vI (X.cH),vI (X.cS),vI (X.cZ),.slice Af (fs.length) (cf),.slice Aa (xs.length) (ca)] 34) (fun b1=>?_))
 refine gN 2 (fun b2=>[(3,vP b2)]) (fun _=>[]) (fun _=>[]) (fun b2=>.blk b2 [.slice Ap (ps.length) (cp),vI (mode),.bool far] 37) (fun b2=>?_)
 refine NN (af.seq (SR (ak.fX (d:=(some 10)) (R:=[.abs R,.blk b1 [.slice A (ns.length) (c),vI (root),vI (X.cN),vI (X.cB),vI (X.cH),vI (X.cS),vI (X.cZ),.slice Af (fs.length) (cf),.slice Aa (xs.length) (ca)] 34,.blk b2 [.slice Ap (ps.length) (cp),vI (mode),.bool far] 37]) (pk:=[0,1,2]) (fun _=>by kernel_rfl) (KM hg hE) rfl (by kernel_rfl) ?_)))
 rintro EC _ _ iI ⟨rfl,rfl⟩
 replace hG:=hG.le iI
 replace hF:=hF.le iI
 replace hA:=hA.le iI
 replace hP:=hP.le iI
 replace hg:=hg.le iI
 replace hE:=hE.le iI
 replace hle0:=hle0.trans iI
 refine gK 1 [(11,.bool false)] [] ?_
 refine NN (CF (af.skip (NX (af.seq ?_))))
 by_cases h0:dg X ns root=0
 ·have hok:=Ey h0
  refine af.region (gK 1 [(13,.agg #[.slice A (ns.length) (c),vI (root),vI (X.cN),vI (X.cB),vI (X.cH),vI (X.cS),vI (X.cZ),.slice Af (fs.length) (cf),.slice Aa (xs.length) (ca)])] [(0,A_ 1 b1 9)] ?_)
  refine ak.fX (d:=(some 14)) (R:=[.abs R,.blk b1 [.slice A (ns.length) (c),vI (root),vI (X.cN),vI (X.cB),vI (X.cH),vI (X.cS),vI (X.cZ),.slice Af (fs.length) (cf),.slice Aa (xs.length) (ca)] 34,.blk b2 [.slice Ap (ps.length) (cp),vI (mode),.bool far] 37]) (pk:=[0,1,2]) (fun _=>by kernel_rfl) (CS (β:=EC) (X:=X) h0 A c Y hG hB Af cf fs hF (mA.wide (by decide)) Aa ca xs hA hab) rfl (by kernel_rfl) ?_
  rintro P4 _ _ lJ ⟨N,G,V,rfl,rfl,kx⟩
  replace hG:=hG.le lJ
  replace hF:=hF.le lJ
  replace hA:=hA.le lJ
  replace hP:=hP.le lJ
  replace hg:=hg.le lJ
  replace hE:=hE.le lJ
  replace hle0:=hle0.trans lJ
  refine gK 5 [(5,vP G.w),(6,vI 0)] [] ?_
  refine NN (af.seq (SR (gK 6 [(22,.bool false)] [(1,p_ ⟨[],none,none,none,some (.bool false)⟩ [((.bool false:Value))=(.bool false)] ⟨rfl,trivial⟩)] ?_)))
  refine NN (CF (af.skip (NX (af.seq ?_))))
  obtain⟨S2,c2,eR⟩:∃ Sx cx,aV fs xs root 1 N.1 (qP root)=(Sx,cx):=⟨_,_,rfl⟩
  refine af.ol (S:=[.blk b1 [.slice A (ns.length) (c),vI (root),vI (X.cN),vI (X.cB),vI (X.cH),vI (X.cS),vI (X.cZ),.slice Af (fs.length) (cf),.slice Aa (xs.length) (ca)] 34,.blk b2 [.slice Ap (ps.length) (cp),vI (mode),.bool far] 37,.abs (jh G)]) [(true,0),(true,1),(true,2),(true,3),(true,4),(true,5),(false,6),(true,7),(true,8),(true,9),(true,10),(false,11)] (by kernel_rfl) (by kernel_rfl) (fun _ h=>(h.wg (i:=0) rfl).pick (idx:=[2,3,0]) rfl rfl) ?_
  refine gG [(false,6),(true,7),(true,8),(true,9),(true,10),(false,11)] [(3,vP b2),(5,vP G.w),(33,.agg #[.iface 39 (vP G.w)]),(35,vI (root))] [0,1,2,3,4,5] [(3,p_ ⟨[.view 2 (.iface 39 (vP G.w))],none,none,none,none⟩ [(∀ F w,(jh G).h F w->w.cell? ⟨G.w,0,none⟩=some (.iface 39 (vP G.w)))] ⟨jm,trivial⟩),(5,a_ 0 b1)] ?_
  refine fk.MW ?_
  have Hw:Grown P4 P4:=.inl rfl
  refine oK.Uj (ι:=Bs×WV×({ l:List ax // l.length=1 })) (B:=fun ((gV,V2,q2):Bs×WV×({ l:List ax // l.length=1 }))=>gV) (Φ:=fun ((gV,V2,q2):Bs×WV×({ l:List ax // l.length=1 }))=>True) (fr':=fun ((gV,V2,q2):Bs×WV×({ l:List ax // l.length=1 }))=>[(3,vP b2),(5,vP G.w),(36,.tuple #[vI (c2.answer),vI (c2.code)])]) (hp':=fun ((gV,V2,q2):Bs×WV×({ l:List ax // l.length=1 }))=>[wA G fs xs root S2 V2 q2.1,.abs R,.blk b1 [.slice A (ns.length) (c),vI (root),vI (X.cN),vI (X.cB),vI (X.cH),vI (X.cS),vI (X.cZ),.slice Af (fs.length) (cf),.slice Aa (xs.length) (ca)] 34,.blk b2 [.slice Ap (ps.length) (cp),vI (mode),.bool far] 37]) Hw (by kernel_rfl) ?_ (fun _ _ h=>(h.wg (i:=0) rfl).pick (idx:=[2,3,0]) rfl rfl) ?_
  ·refine ak.fX (d:=(some 36)) (R:=[.abs R,.blk b1 [.slice A (ns.length) (c),vI (root),vI (X.cN),vI (X.cB),vI (X.cH),vI (X.cS),vI (X.cZ),.slice Af (fs.length) (cf),.slice Aa (xs.length) (ca)] 34,.blk b2 [.slice Ap (ps.length) (cp),vI (mode),.bool far] 37]) (pk:=[0,1,2,3]) (fun _=>by kernel_rfl) (O4 (β:=P4) (G:=G) (fs:=fs) (xs:=xs) (S:=N.1) (V:=V) (S1:=S2) (c1:=c2) hrw N.2.full kx hab hg root hrw eR) rfl (by kernel_rfl) ?_
   rintro gV _ _ eY ⟨V2,q2,rfl,rfl⟩
   replace hG:=hG.le eY
   replace hF:=hF.le eY
   replace hA:=hA.le eY
   replace hP:=hP.le eY
   replace hg:=hg.le eY
   replace hE:=hE.le eY
   replace kx:=kx.le eY
   replace hle0:=hle0.trans eY
   refine NL ?_
   exact aj.Vw (gV,V2,q2) rfl eY (trivial) (idx:=[3,5,36]) (pk:=[0,1,2,3]) (fun _=>by kernel_rfl) rfl (by kernel_rfl)
  rintro⟨gV,V2,q2⟩ eY _
  show oK _ gV _ _ _ _ _ [(3,vP b2),(5,vP G.w),(36,.tuple #[vI (c2.answer),vI (c2.code)])] [wA G fs xs root S2 V2 q2.1,.abs R,.blk b1 [.slice A (ns.length) (c),vI (root),vI (X.cN),vI (X.cB),vI (X.cH),vI (X.cS),vI (X.cZ),.slice Af (fs.length) (cf),.slice Aa (xs.length) (ca)] 34,.blk b2 [.slice Ap (ps.length) (cp),vI (mode),.bool far] 37] _
  replace hG:=hG.le eY
  replace hF:=hF.le eY
  replace hA:=hA.le eY
  replace hP:=hP.le eY
  replace hg:=hg.le eY
  replace hE:=hE.le eY
  replace kx:=kx.le eY
  replace hle0:=hle0.trans eY
  replace Hw:=Hw.trans eY
  refine gH [(false,11)] [(3,vP b2),(5,vP G.w),(7,vI (c2.answer)),(38,vI (c2.code))] [7,8,9,10] [] ?_
  refine oK.last (by kernel_rfl) ?_
  refine gK 1 [(6,vI (c2.code))] [] ?_
  refine NL (aj.np (NX (af.seq (SR ?_))))
  refine gK 2 [(40,.bool (!(decide ((c2.code:Int)=(0:Int)))))] [] ?_
  refine NN (af.dx (p:=(c2.code:Int)=(0:Int)) (fun _=>by kernel_rfl) (fun Gw=>?_) (fun Gw=>?_))
  ·refine SR (gK 1 [(4,.bool true)] [] ?_)
   refine NN (af.ret (aj.aq ?_))
   exact aj.xU (v:=.bool true) (l:=[]) (aZ:=[]) [] [1] hle0 (fun _=>by kernel_rfl) trivial rfl (by kernel_rfl) (rfl)
  obtain⟨tP,ha2⟩:=MT (h:=c2.answer) N.2.full N.2.us N.2.av eR Gw
  have vS:=tP.inv
  have EF:(Lit.int .i64 c2.answer).wf=true:=by rw [ha2];decide
  refine af.skip (NX (af.seq ?_))
  obtain⟨⟨Sr,nr,cr,ow,mr,kr,ar⟩,hr⟩:∃ r,gI fs xs root mode ps 0 S2 1 c2.answer false 0=r:=⟨_,rfl⟩
  have hw:=uL (mode:=mode) (fs:=fs) (xs:=xs) (root:=root) (h0:=c2.answer) (n0:=1) (len:=ps.length) ps 0 S2 1 c2.answer false 0 tP (by decide) (by omega) (fun _=>rfl) (fun h=>absurd h Bool.false_ne_true) (fun _=>⟨rfl,rfl,rfl⟩)
  rw [hr] at hw
  have hpk:Sr.av<=3:=hw.pk
  have hmr:0<=mr/\mr<=ps.length:=hw.made
  have X6:nr<=4 * ps.length+1+1:=hw.n
  have hm0:mode < 0->mr=0:=hw.m0
  have Vl:Inv Sr:=hw.inv
  rcases Classical.em (kr=0) with hc|hc;rcases Bool.eq_false_or_eq_true ow with hq|hq
  ·subst hc
   subst hq
   obtain⟨Jx,hlo,_⟩:=hw.ok rfl
   have hl0:0 < ps.length:=of_decide_eq_true hlo.symm
   have Fc:Sr.us.length=2:=Jx.len
   have hwc:=QN Jx
   refine af.DS (S:=[.blk b2 [.slice Ap (ps.length) (cp),vI (mode),.bool far] 37,.abs (jh G)]) 14 [(true,0),(true,1),(true,2),(true,3),(true,4),(true,5),(true,6),(true,8),(true,9),(false,7),(false,10),(true,11),(true,12),(true,13)] [(false,15),(false,16)] (by kernel_rfl) (by kernel_rfl) (fun _ h=>(h.wg (i:=0) rfl).pick (idx:=[3,0]) rfl rfl) ?_
   refine gJ [(false,7),(false,10),(true,11),(true,12),(true,13)] [(3,vP b2),(5,vP G.w),(7,vI (c2.answer)),(45,.agg #[.iface 39 (vP G.w)]),(46,vI (c2.answer)),(48,.slice Ap (ps.length) (cp)),(51,vI (mode))] [0,1,2,3,4,5,6,8,9] [(3,p_ ⟨[.view 1 (.iface 39 (vP G.w))],none,none,none,none⟩ [(∀ F w,(jh G).h F w->w.cell? ⟨G.w,0,none⟩=some (.iface 39 (vP G.w)))] ⟨jm,trivial⟩),(6,a_ 0 b2),(8,a_ 0 b2)] ?_
   refine za.beside (j:=14) (dj:=8) (R:=fun f_ l_=>∃ B5:Option Addr,∃ p5:Nat,∃ V3:WV,∃ q3:{ l:List ax // l.length=nr },f_=[(54,.nilIface),(53,.agg #[vI (cr),.bool true,vI (mr)]),(41,.tuple #[.agg #[vI (cr),.bool true,vI (mr)],.nilIface]),(52,.tuple #[.agg #[vI (cr),.bool true,vI (mr)],.nilIface]),(49,.slice B5 (ps.length) (p5)),(3,vP b2),(5,vP G.w),(7,vI (c2.answer)),(45,.agg #[.iface 39 (vP G.w)]),(46,vI (c2.answer)),(48,.slice Ap (ps.length) (cp)),(51,vI (mode))]/\l_=[wA G fs xs root Sr V3 q3.1]) (pc:=[wA G fs xs root S2 V2 q2.1]) (pj:=[]) (Z:=[.abs R,.blk b1 [.slice A (ns.length) (c),vI (root),vI (X.cN),vI (X.cB),vI (X.cH),vI (X.cS),vI (X.cZ),.slice Af (fs.length) (cf),.slice Aa (xs.length) (ca)] 34,.blk b2 [.slice Ap (ps.length) (cp),vI (mode),.bool far] 37]) [0,1,2,3] (Hu G) [(false,7,49),(false,10,52),(true,11,41),(true,12,53),(true,13,54)] (by kernel_rfl) rfl rfl (Hv (S1:=[.blk b2 [.slice Ap (ps.length) (cp),vI (mode),.bool far] 37]) (pS:=[2]) rfl rfl) (xw 0 rfl) rfl rfl (iA.of (ι:=Nat) (v:=fun (b6:Nat)=>vP b6) (l:=fun (b6:Nat)=>[.blk b6 [vI 0,.bool false,vI 0] 55]) [49,52,41,53,54] rfl rfl rfl rfl ?_) ?_ ?_
   ·intro u Aq
    show ak _ _ _ _ _ [(49,(u 49)),(52,(u 52)),(41,(u 41)),(53,(u 53)),(54,(u 54)),(3,vP b2),(5,vP G.w),(7,vI (c2.answer)),(45,.agg #[.iface 39 (vP G.w)]),(46,vI (c2.answer)),(48,.slice Ap (ps.length) (cp)),(51,vI (mode))] [.abs Aq] _
    refine gN 1 (fun b6=>[(8,vP b6)]) (fun _=>[]) (fun _=>[]) (fun b6=>.blk b6 [vI 0,.bool false,vI 0] 55) (fun b6=>?_)
    refine NL ?_
    exact MD b6 [8,49,52,41,53,54,3,5,7,45,46,48,51] [1,0]
   ·refine fO.step (iA.of (ι:=(Option Addr)×Nat) (v:=fun ((B5,p5):(Option Addr)×Nat)=>.slice B5 (ps.length) (p5)) (l:=fun ((B5,p5):(Option Addr)×Nat)=>[.abs (aJ 9 1 B5 ps.length p5 (ig ps)),wA G fs xs root S2 V2 q2.1]) [8] rfl rfl rfl rfl ?_) rfl ?_
    ·intro u Aq
     show ak _ _ _ _ _ [(8,(u 8)),(3,vP b2),(5,vP G.w),(7,vI (c2.answer)),(45,.agg #[.iface 39 (vP G.w)]),(46,vI (c2.answer)),(48,.slice Ap (ps.length) (cp)),(51,vI (mode))] [wA G fs xs root S2 V2 q2.1,.abs Aq] _
     refine gL [] (rO (β:=gV) Ap cp ps hP hpl) ?_
     rintro _ _ ⟨B5,p5,rfl,rfl⟩
     refine NL ?_
     exact MD (B5,p5) [49,8,3,5,7,45,46,48,51] [0,1,2]
    rintro _ _ ⟨⟨B5,p5⟩,rfl,rfl⟩
    refine⟨xw 1 rfl,?_⟩
    refine fO.step (iA.of (ι:=WV×({ l:List ax // l.length=nr })) (v:=fun ((V3,q3):WV×({ l:List ax // l.length=nr }))=>.tuple #[.agg #[vI (cr),.bool true,vI (mr)],.nilIface]) (l:=fun ((V3,q3):WV×({ l:List ax // l.length=nr }))=>[wA G fs xs root Sr V3 q3.1]) [8] rfl rfl rfl rfl ?_) rfl ?_
    ·intro u Aq
     show ak _ _ _ _ _ [(8,(u 8)),(49,.slice B5 (ps.length) (p5)),(3,vP b2),(5,vP G.w),(7,vI (c2.answer)),(45,.agg #[.iface 39 (vP G.w)]),(46,vI (c2.answer)),(48,.slice Ap (ps.length) (cp)),(51,vI (mode))] [.abs (aJ 9 1 B5 ps.length p5 (ig ps)),wA G fs xs root S2 V2 q2.1,.abs Aq] _
     refine gL [1,0] (CV (β:=gV) (A:=B5) (kq:=p5) (G:=G) (V:=V2) (r:=⟨Sr,nr,cr,true,mr,0,ar⟩) rfl hrw vS q2.2 (by decide) kx hab hg hE EF hpl hps hr) ?_
     rintro _ _ ⟨V3,q3,rfl,rfl⟩
     refine NL ?_
     exact MD (V3,q3) [52,8,49,3,5,7,45,46,48,51] [0,1]
    rintro _ _ ⟨⟨V3,q3⟩,rfl,rfl⟩
    refine⟨xw 0 rfl,?_⟩
    refine fO.read (v:=.tuple #[.agg #[vI (cr),.bool true,vI (mr)],.nilIface]) (fun _=>by kernel_rfl) rfl rfl ?_
    refine fO.read (v:=.agg #[vI (cr),.bool true,vI (mr)]) (fun _=>by kernel_rfl) rfl rfl ?_
    refine fO.read (v:=.nilIface) (fun _=>by kernel_rfl) rfl rfl ?_
    exact⟨B5,p5,V3,q3,rfl,rfl⟩
   rintro _ _ ⟨B5,p5,V3,q3,rfl,rfl⟩ _ _ ⟨b6,rfl,rfl⟩
   refine fk.O9 (ι:=Unit) (fr':=fun (_:Unit)=>[(3,vP b2),(5,vP G.w),(7,vI (c2.answer)),(8,vP b6),(54,.nilIface)]) (hp':=fun (_:Unit)=>[wA G fs xs root Sr V3 q3.1,.blk b6 [vI (cr),.bool true,vI (mr)] 55,.abs R,.blk b1 [.slice A (ns.length) (c),vI (root),vI (X.cN),vI (X.cB),vI (X.cH),vI (X.cS),vI (X.cZ),.slice Af (fs.length) (cf),.slice Aa (xs.length) (ca)] 34,.blk b2 [.slice Ap (ps.length) (cp),vI (mode),.bool far] 37]) (by kernel_rfl) ?_ (fun _ _ h=>(h.wg (i:=0) rfl).pick (idx:=[4,0]) rfl rfl) ?_
   ·refine gC 1 [] [(0,A_ 1 b6 3)] [(1,[(0,vI (cr)),(1,.bool true),(2,vI (mr))])] ?_
    refine NL ?_
    exact MD () [3,5,7,8,54] [0,1,2,3,4]
   rintro _
   refine fk.last (by kernel_rfl) ?_
   refine gK 1 [(9,.nilIface)] [] ?_
   refine NL (aj.np (NX (af.seq (af.seq ?_))))
   by_cases hm:mode < 0
   ·have Vm:=hm0 hm
    refine af.bI (by kernel_rfl) (by kernel_rfl) ?_
    refine gQ 1 [(55,vP G.w)] [] ?_
    refine aR.call (f:=12) (args:=#[vP G.w]) (d:=(some 56)) (pre:=[wA G fs xs root Sr V3 q3.1]) (R:=[.blk b6 [vI (cr),.bool true,vI (mr)] 55,.abs R,.blk b1 [.slice A (ns.length) (c),vI (root),vI (X.cN),vI (X.cB),vI (X.cH),vI (X.cS),vI (X.cZ),.slice Af (fs.length) (cf),.slice Aa (xs.length) (ca)] 34,.blk b2 [.slice Ap (ps.length) (cp),vI (mode),.bool far] 37]) (pk:=[0,1,2,3,4]) (ij:=[0,1,2,3,4]) (v0:=vI (Sr.av)) (fun _=>by kernel_rfl) (qG (β:=gV) (G:=G) (fs:=fs) (xs:=xs) (root:=root) (S:=Sr) (V:=V3) (tr:=q3.1)) rfl (by kernel_rfl) rfl (by kernel_rfl) (fun _ _ h=>h) ?_
    refine gQ 26 [(81,.bool false),(82,vP G.w)] [(0,p_ ⟨[],none,none,none,some (.bool false)⟩ [((.bool (decide ((Sr.av:Int) > (3:Int))):Value))=(.bool false)] ⟨congrArg Value.bool (decide_eq_false (by omega)),trivial⟩),(3,a_ 1 b6),(4,p_ ⟨[],none,none,none,some (.bool false)⟩ [((.bool (decide ((mr:Int) < (0:Int))):Value))=(.bool false)] ⟨congrArg Value.bool (decide_eq_false (by omega)),trivial⟩),(8,a_ 1 b6),(10,a_ 4 b2),(12,p_ ⟨[],none,none,none,some (.bool false)⟩ [((.bool (decide ((mr:Int) > (((ps.length:Nat):Int):Int))):Value))=(.bool false)] ⟨congrArg Value.bool (decide_eq_false (by omega)),trivial⟩),(16,a_ 4 b2),(17,p_ ⟨[],none,none,none,some (.bool true)⟩ [((.bool (decide ((mode:Int) < (0:Int))):Value))=(.bool true)] ⟨congrArg Value.bool (decide_eq_true (hm)),trivial⟩),(20,a_ 1 b6),(21,p_ ⟨[],none,none,none,some (.bool false)⟩ [((.bool (decide ((mr:Int) > (0:Int))):Value))=(.bool false)] ⟨congrArg Value.bool (decide_eq_false (by omega)),trivial⟩)] ?_
    refine aR.call (f:=13) (args:=#[vP G.w]) (d:=(some 83)) (pre:=[wA G fs xs root Sr V3 q3.1]) (R:=[.blk b6 [vI (cr),.bool true,vI (mr)] 55,.abs R,.blk b1 [.slice A (ns.length) (c),vI (root),vI (X.cN),vI (X.cB),vI (X.cH),vI (X.cS),vI (X.cZ),.slice Af (fs.length) (cf),.slice Aa (xs.length) (ca)] 34,.blk b2 [.slice Ap (ps.length) (cp),vI (mode),.bool far] 37]) (pk:=[0,1,2,3,4]) (ij:=[0,1,2,3,4]) (v0:=vI ↑q3.1.length) (fun _=>by kernel_rfl) (o8 (β:=gV) (G:=G) (fs:=fs) (xs:=xs) (root:=root) (S:=Sr) (V:=V3) (tr:=q3.1)) rfl (by kernel_rfl) rfl (by kernel_rfl) (fun _ _ h=>h) ?_
    refine gQ 8 [(91,.bool false)] [(1,a_ 4 b2),(3,p_ ⟨[],none,none,none,some (vI ↑(4 * ps.length))⟩ [(Value.int .i64 (IntKind.wrap .i64 (4 * ((ps.length:Nat):Int))))=(.int .i64 ↑(4 * ps.length))] ⟨aY (by omega) (by omega) (by omega),trivial⟩),(4,p_ ⟨[],none,none,none,some (vI ↑(1+(4 * ps.length)))⟩ [(Value.int .i64 (IntKind.wrap .i64 (1+((4 * ps.length:Nat):Int))))=(.int .i64 ↑(1+(4 * ps.length)))] ⟨aY (by omega) (by omega) (by omega),trivial⟩),(5,p_ ⟨[],none,none,none,some (vI ↑((1+(4 * ps.length))+1))⟩ [(Value.int .i64 (IntKind.wrap .i64 (((1+(4 * ps.length):Nat):Int)+1)))=(.int .i64 ↑((1+(4 * ps.length))+1))] ⟨aY (by omega) (by omega) (by omega),trivial⟩),(6,p_ ⟨[],none,none,none,some (.bool false)⟩ [((.bool (decide ((((q3.1.length:Nat):Int):Int) > ((((1+(4 * ps.length))+1:Nat):Int):Int))):Value))=(.bool false)] ⟨congrArg Value.bool (decide_eq_false (by have:=q3.2;omega)),trivial⟩)] ?_
    refine NQ (NX ?_)
    refine CF (af.skip (NX (af.seq (SR (gK 2 [(93,.bool false)] [] ?_)))))
    refine NN (CF (af.skip (NX (af.seq (SR (gK 18 [(124,.bool false)] [(1,a_ 1 b6),(3,a_ 4 b2),(5,p_ ⟨[],none,none,none,some (.bool true)⟩ [((.bool (decide ((((ps.length:Nat):Int):Int) > (0:Int))):Value))=(.bool true)] ⟨congrArg Value.bool (decide_eq_true (by omega)),trivial⟩),(9,a_ 1 b6)] ?_))))))
    refine NN (CF (af.skip (NX (af.seq (SR (gK 4 [(127,.bool true),(128,vP G.w)] [(1,a_ 1 b6)] ?_))))))
    refine gL [0] (kV (β:=gV) (G:=G) (fs:=fs) (xs:=xs) (root:=root) (S:=Sr) (V:=V3) (tr:=q3.1)) ?_
    rintro _ _ ⟨rfl,rfl⟩
    refine gK 12 [(141,.bool false)] [(0,p_ ⟨[],none,none,none,some (.bool false)⟩ [((.bool (!(decide ((((Sr.us.length:Nat):Int):Int)=(2:Int)))):Value))=(.bool false)] ⟨congrArg (fun b=>Value.bool !b) (decide_eq_true (by omega)),trivial⟩),(4,a_ 1 b6)] ?_
    refine NN (CF (af.skip (NX (af.seq (af.ol (S:=[.blk b6 [vI (cr),.bool true,vI (mr)] 55,.abs (jh G)]) [(true,0),(true,1),(true,2),(true,3),(true,4),(false,5)] (by kernel_rfl) (by kernel_rfl) (fun _ h=>(h.wg (i:=0) rfl).pick (idx:=[1,0]) rfl rfl) ?_)))))
    refine gG [(false,5)] [(5,vP G.w),(145,.agg #[.iface 39 (vP G.w)]),(146,.agg #[vI (cr),.bool true,vI (mr)])] [0,1,2,3,4] [(3,p_ ⟨[.view 1 (.iface 39 (vP G.w))],none,none,none,none⟩ [(∀ F w,(jh G).h F w->w.cell? ⟨G.w,0,none⟩=some (.iface 39 (vP G.w)))] ⟨jm,trivial⟩),(4,A_ 0 b6 3)] ?_
    refine fk.MW ?_
    have Hw:Grown gV gV:=.inl rfl
    refine oK.last (by kernel_rfl) ?_
    obtain⟨S4,c4,eC⟩:∃ Sx cx,aV fs xs root (nr+1) Sr (eu cr)=(Sx,cx):=⟨_,_,rfl⟩
    have Xb:=EI Jx eC
    refine ak.fX (d:=(some 147)) (R:=[.blk b6 [vI (cr),.bool true,vI (mr)] 55,.abs R,.blk b1 [.slice A (ns.length) (c),vI (root),vI (X.cN),vI (X.cB),vI (X.cH),vI (X.cS),vI (X.cZ),.slice Af (fs.length) (cf),.slice Aa (xs.length) (ca)] 34,.blk b2 [.slice Ap (ps.length) (cp),vI (mode),.bool far] 37]) (pk:=[0,1,2,3,4]) (fun _=>by kernel_rfl) (Hj (β:=gV) (G:=G) (V:=V3) (tr:=q3.1) (S2:=S4) (c2:=c4) hrw Vl (by have:=q3.2;omega) kx hab hg cr mr hwc (by rw [q3.2];exact eC)) rfl (by kernel_rfl) ?_
    rintro vT _ _ dX ⟨V4,q4,rfl,rfl⟩
    replace hG:=hG.le dX
    replace hF:=hF.le dX
    replace hA:=hA.le dX
    replace hP:=hP.le dX
    replace hg:=hg.le dX
    replace hE:=hE.le dX
    replace kx:=kx.le dX
    replace hle0:=hle0.trans dX
    refine NL (aj.np (NX (SR ?_)))
    refine gK 1 [(148,vP G.w)] [] ?_
    refine gL [0] (kV (β:=vT) (G:=G) (fs:=fs) (xs:=xs) (root:=root) (S:=S4) (V:=V4) (tr:=q4.1)) ?_
    rintro _ _ ⟨rfl,rfl⟩
    refine gK 2 [(4,.bool true)] [(0,p_ ⟨[],none,none,none,some (.bool true)⟩ [((.bool (decide ((((S4.us.length:Nat):Int):Int)=(1:Int))):Value))=(.bool true)] ⟨congrArg Value.bool (decide_eq_true (by omega)),trivial⟩)] ?_
    refine NN (af.ret ?_)
    exact aj.xU (v:=.bool true) (l:=[]) (aZ:=[]) [] [2] hle0 (fun _=>by kernel_rfl) trivial rfl (by kernel_rfl) (rfl)
   refine af.bI (by kernel_rfl) (by kernel_rfl) ?_
   refine gQ 1 [(55,vP G.w)] [] ?_
   refine aR.call (f:=12) (args:=#[vP G.w]) (d:=(some 56)) (pre:=[wA G fs xs root Sr V3 q3.1]) (R:=[.blk b6 [vI (cr),.bool true,vI (mr)] 55,.abs R,.blk b1 [.slice A (ns.length) (c),vI (root),vI (X.cN),vI (X.cB),vI (X.cH),vI (X.cS),vI (X.cZ),.slice Af (fs.length) (cf),.slice Aa (xs.length) (ca)] 34,.blk b2 [.slice Ap (ps.length) (cp),vI (mode),.bool far] 37]) (pk:=[0,1,2,3,4]) (ij:=[0,1,2,3,4]) (v0:=vI (Sr.av)) (fun _=>by kernel_rfl) (qG (β:=gV) (G:=G) (fs:=fs) (xs:=xs) (root:=root) (S:=Sr) (V:=V3) (tr:=q3.1)) rfl (by kernel_rfl) rfl (by kernel_rfl) (fun _ _ h=>h) ?_
   refine gQ 26 [(81,.bool false),(82,vP G.w)] [(0,p_ ⟨[],none,none,none,some (.bool false)⟩ [((.bool (decide ((Sr.av:Int) > (3:Int))):Value))=(.bool false)] ⟨congrArg Value.bool (decide_eq_false (by omega)),trivial⟩),(3,a_ 1 b6),(4,p_ ⟨[],none,none,none,some (.bool false)⟩ [((.bool (decide ((mr:Int) < (0:Int))):Value))=(.bool false)] ⟨congrArg Value.bool (decide_eq_false (by omega)),trivial⟩),(8,a_ 1 b6),(10,a_ 4 b2),(12,p_ ⟨[],none,none,none,some (.bool false)⟩ [((.bool (decide ((mr:Int) > (((ps.length:Nat):Int):Int))):Value))=(.bool false)] ⟨congrArg Value.bool (decide_eq_false (by omega)),trivial⟩),(16,a_ 4 b2),(17,p_ ⟨[],none,none,none,some (.bool false)⟩ [((.bool (decide ((mode:Int) < (0:Int))):Value))=(.bool false)] ⟨congrArg Value.bool (decide_eq_false (hm)),trivial⟩)] ?_
   refine aR.call (f:=13) (args:=#[vP G.w]) (d:=(some 83)) (pre:=[wA G fs xs root Sr V3 q3.1]) (R:=[.blk b6 [vI (cr),.bool true,vI (mr)] 55,.abs R,.blk b1 [.slice A (ns.length) (c),vI (root),vI (X.cN),vI (X.cB),vI (X.cH),vI (X.cS),vI (X.cZ),.slice Af (fs.length) (cf),.slice Aa (xs.length) (ca)] 34,.blk b2 [.slice Ap (ps.length) (cp),vI (mode),.bool far] 37]) (pk:=[0,1,2,3,4]) (ij:=[0,1,2,3,4]) (v0:=vI ↑q3.1.length) (fun _=>by kernel_rfl) (o8 (β:=gV) (G:=G) (fs:=fs) (xs:=xs) (root:=root) (S:=Sr) (V:=V3) (tr:=q3.1)) rfl (by kernel_rfl) rfl (by kernel_rfl) (fun _ _ h=>h) ?_
   refine gQ 8 [(91,.bool false)] [(1,a_ 4 b2),(3,p_ ⟨[],none,none,none,some (vI ↑(4 * ps.length))⟩ [(Value.int .i64 (IntKind.wrap .i64 (4 * ((ps.length:Nat):Int))))=(.int .i64 ↑(4 * ps.length))] ⟨aY (by omega) (by omega) (by omega),trivial⟩),(4,p_ ⟨[],none,none,none,some (vI ↑(1+(4 * ps.length)))⟩ [(Value.int .i64 (IntKind.wrap .i64 (1+((4 * ps.length:Nat):Int))))=(.int .i64 ↑(1+(4 * ps.length)))] ⟨aY (by omega) (by omega) (by omega),trivial⟩),(5,p_ ⟨[],none,none,none,some (vI ↑((1+(4 * ps.length))+1))⟩ [(Value.int .i64 (IntKind.wrap .i64 (((1+(4 * ps.length):Nat):Int)+1)))=(.int .i64 ↑((1+(4 * ps.length))+1))] ⟨aY (by omega) (by omega) (by omega),trivial⟩),(6,p_ ⟨[],none,none,none,some (.bool false)⟩ [((.bool (decide ((((q3.1.length:Nat):Int):Int) > ((((1+(4 * ps.length))+1:Nat):Int):Int))):Value))=(.bool false)] ⟨congrArg Value.bool (decide_eq_false (by have:=q3.2;omega)),trivial⟩)] ?_
   refine NQ (NX ?_)
   refine CF (af.skip (NX (af.seq (SR (gK 2 [(93,.bool false)] [] ?_)))))
   refine NN (CF (af.skip (NX (af.seq (SR (gK 18 [(124,.bool false)] [(1,a_ 1 b6),(3,a_ 4 b2),(5,p_ ⟨[],none,none,none,some (.bool true)⟩ [((.bool (decide ((((ps.length:Nat):Int):Int) > (0:Int))):Value))=(.bool true)] ⟨congrArg Value.bool (decide_eq_true (by omega)),trivial⟩),(9,a_ 1 b6)] ?_))))))
   refine NN (CF (af.skip (NX (af.seq (SR (gK 4 [(127,.bool true),(128,vP G.w)] [(1,a_ 1 b6)] ?_))))))
   refine gL [0] (kV (β:=gV) (G:=G) (fs:=fs) (xs:=xs) (root:=root) (S:=Sr) (V:=V3) (tr:=q3.1)) ?_
   rintro _ _ ⟨rfl,rfl⟩
   refine gK 12 [(141,.bool false)] [(0,p_ ⟨[],none,none,none,some (.bool false)⟩ [((.bool (!(decide ((((Sr.us.length:Nat):Int):Int)=(2:Int)))):Value))=(.bool false)] ⟨congrArg (fun b=>Value.bool !b) (decide_eq_true (by omega)),trivial⟩),(4,a_ 1 b6)] ?_
   refine NN (CF (af.skip (NX (af.seq (af.ol (S:=[.blk b6 [vI (cr),.bool true,vI (mr)] 55,.abs (jh G)]) [(true,0),(true,1),(true,2),(true,3),(true,4),(false,5)] (by kernel_rfl) (by kernel_rfl) (fun _ h=>(h.wg (i:=0) rfl).pick (idx:=[1,0]) rfl rfl) ?_)))))
   refine gG [(false,5)] [(5,vP G.w),(145,.agg #[.iface 39 (vP G.w)]),(146,.agg #[vI (cr),.bool true,vI (mr)])] [0,1,2,3,4] [(3,p_ ⟨[.view 1 (.iface 39 (vP G.w))],none,none,none,none⟩ [(∀ F w,(jh G).h F w->w.cell? ⟨G.w,0,none⟩=some (.iface 39 (vP G.w)))] ⟨jm,trivial⟩),(4,A_ 0 b6 3)] ?_
   refine fk.MW ?_
   have Hw:Grown gV gV:=.inl rfl
   refine oK.last (by kernel_rfl) ?_
   obtain⟨S4,c4,eC⟩:∃ Sx cx,aV fs xs root (nr+1) Sr (eu cr)=(Sx,cx):=⟨_,_,rfl⟩
   have Xb:=EI Jx eC
   refine ak.fX (d:=(some 147)) (R:=[.blk b6 [vI (cr),.bool true,vI (mr)] 55,.abs R,.blk b1 [.slice A (ns.length) (c),vI (root),vI (X.cN),vI (X.cB),vI (X.cH),vI (X.cS),vI (X.cZ),.slice Af (fs.length) (cf),.slice Aa (xs.length) (ca)] 34,.blk b2 [.slice Ap (ps.length) (cp),vI (mode),.bool far] 37]) (pk:=[0,1,2,3,4]) (fun _=>by kernel_rfl) (Hj (β:=gV) (G:=G) (V:=V3) (tr:=q3.1) (S2:=S4) (c2:=c4) hrw Vl (by have:=q3.2;omega) kx hab hg cr mr hwc (by rw [q3.2];exact eC)) rfl (by kernel_rfl) ?_
   rintro xP _ _ fZ ⟨V4,q4,rfl,rfl⟩
   replace hG:=hG.le fZ
   replace hF:=hF.le fZ
   replace hA:=hA.le fZ
   replace hP:=hP.le fZ
   replace hg:=hg.le fZ
   replace hE:=hE.le fZ
   replace kx:=kx.le fZ
   replace hle0:=hle0.trans fZ
   refine NL (aj.np (NX (SR ?_)))
   refine gK 1 [(148,vP G.w)] [] ?_
   refine gL [0] (kV (β:=xP) (G:=G) (fs:=fs) (xs:=xs) (root:=root) (S:=S4) (V:=V4) (tr:=q4.1)) ?_
   rintro _ _ ⟨rfl,rfl⟩
   refine gK 2 [(4,.bool true)] [(0,p_ ⟨[],none,none,none,some (.bool true)⟩ [((.bool (decide ((((S4.us.length:Nat):Int):Int)=(1:Int))):Value))=(.bool true)] ⟨congrArg Value.bool (decide_eq_true (by omega)),trivial⟩)] ?_
   refine NN (af.ret ?_)
   exact aj.xU (v:=.bool true) (l:=[]) (aZ:=[]) [] [2] hle0 (fun _=>by kernel_rfl) trivial rfl (by kernel_rfl) (rfl)
  ·subst hc
   subst hq
   obtain⟨Jx,hlo,Xc⟩:=hw.ok rfl
   have hl0:¬ 0 < ps.length:=of_decide_eq_false hlo.symm
   have Fc:Sr.us.length=1:=Jx.len
   have Vn:cr=c2.answer:=Xc rfl
   refine af.DS (S:=[.blk b2 [.slice Ap (ps.length) (cp),vI (mode),.bool far] 37,.abs (jh G)]) 14 [(true,0),(true,1),(true,2),(true,3),(true,4),(true,5),(true,6),(true,8),(true,9),(false,7),(false,10),(true,11),(true,12),(true,13)] [(false,15),(false,16)] (by kernel_rfl) (by kernel_rfl) (fun _ h=>(h.wg (i:=0) rfl).pick (idx:=[3,0]) rfl rfl) ?_
   refine gJ [(false,7),(false,10),(true,11),(true,12),(true,13)] [(3,vP b2),(5,vP G.w),(7,vI (c2.answer)),(45,.agg #[.iface 39 (vP G.w)]),(46,vI (c2.answer)),(48,.slice Ap (ps.length) (cp)),(51,vI (mode))] [0,1,2,3,4,5,6,8,9] [(3,p_ ⟨[.view 1 (.iface 39 (vP G.w))],none,none,none,none⟩ [(∀ F w,(jh G).h F w->w.cell? ⟨G.w,0,none⟩=some (.iface 39 (vP G.w)))] ⟨jm,trivial⟩),(6,a_ 0 b2),(8,a_ 0 b2)] ?_
   refine za.beside (j:=14) (dj:=8) (R:=fun f_ l_=>∃ B5:Option Addr,∃ p5:Nat,∃ V3:WV,∃ q3:{ l:List ax // l.length=nr },f_=[(54,.nilIface),(53,.agg #[vI (cr),.bool false,vI (mr)]),(41,.tuple #[.agg #[vI (cr),.bool false,vI (mr)],.nilIface]),(52,.tuple #[.agg #[vI (cr),.bool false,vI (mr)],.nilIface]),(49,.slice B5 (ps.length) (p5)),(3,vP b2),(5,vP G.w),(7,vI (c2.answer)),(45,.agg #[.iface 39 (vP G.w)]),(46,vI (c2.answer)),(48,.slice Ap (ps.length) (cp)),(51,vI (mode))]/\l_=[wA G fs xs root Sr V3 q3.1]) (pc:=[wA G fs xs root S2 V2 q2.1]) (pj:=[]) (Z:=[.abs R,.blk b1 [.slice A (ns.length) (c),vI (root),vI (X.cN),vI (X.cB),vI (X.cH),vI (X.cS),vI (X.cZ),.slice Af (fs.length) (cf),.slice Aa (xs.length) (ca)] 34,.blk b2 [.slice Ap (ps.length) (cp),vI (mode),.bool far] 37]) [0,1,2,3] (Hu G) [(false,7,49),(false,10,52),(true,11,41),(true,12,53),(true,13,54)] (by kernel_rfl) rfl rfl (Hv (S1:=[.blk b2 [.slice Ap (ps.length) (cp),vI (mode),.bool far] 37]) (pS:=[2]) rfl rfl) (xw 0 rfl) rfl rfl (iA.of (ι:=Nat) (v:=fun (b9:Nat)=>vP b9) (l:=fun (b9:Nat)=>[.blk b9 [vI 0,.bool false,vI 0] 55]) [49,52,41,53,54] rfl rfl rfl rfl ?_) ?_ ?_
   ·intro u Aq
    show ak _ _ _ _ _ [(49,(u 49)),(52,(u 52)),(41,(u 41)),(53,(u 53)),(54,(u 54)),(3,vP b2),(5,vP G.w),(7,vI (c2.answer)),(45,.agg #[.iface 39 (vP G.w)]),(46,vI (c2.answer)),(48,.slice Ap (ps.length) (cp)),(51,vI (mode))] [.abs Aq] _
    refine gN 1 (fun b9=>[(8,vP b9)]) (fun _=>[]) (fun _=>[]) (fun b9=>.blk b9 [vI 0,.bool false,vI 0] 55) (fun b9=>?_)
    refine NL ?_
    exact MD b9 [8,49,52,41,53,54,3,5,7,45,46,48,51] [1,0]
   ·refine fO.step (iA.of (ι:=(Option Addr)×Nat) (v:=fun ((B5,p5):(Option Addr)×Nat)=>.slice B5 (ps.length) (p5)) (l:=fun ((B5,p5):(Option Addr)×Nat)=>[.abs (aJ 9 1 B5 ps.length p5 (ig ps)),wA G fs xs root S2 V2 q2.1]) [8] rfl rfl rfl rfl ?_) rfl ?_
    ·intro u Aq
     show ak _ _ _ _ _ [(8,(u 8)),(3,vP b2),(5,vP G.w),(7,vI (c2.answer)),(45,.agg #[.iface 39 (vP G.w)]),(46,vI (c2.answer)),(48,.slice Ap (ps.length) (cp)),(51,vI (mode))] [wA G fs xs root S2 V2 q2.1,.abs Aq] _
     refine gL [] (rO (β:=gV) Ap cp ps hP hpl) ?_
     rintro _ _ ⟨B5,p5,rfl,rfl⟩
     refine NL ?_
     exact MD (B5,p5) [49,8,3,5,7,45,46,48,51] [0,1,2]
    rintro _ _ ⟨⟨B5,p5⟩,rfl,rfl⟩
    refine⟨xw 1 rfl,?_⟩
    refine fO.step (iA.of (ι:=WV×({ l:List ax // l.length=nr })) (v:=fun ((V3,q3):WV×({ l:List ax // l.length=nr }))=>.tuple #[.agg #[vI (cr),.bool false,vI (mr)],.nilIface]) (l:=fun ((V3,q3):WV×({ l:List ax // l.length=nr }))=>[wA G fs xs root Sr V3 q3.1]) [8] rfl rfl rfl rfl ?_) rfl ?_
    ·intro u Aq
     show ak _ _ _ _ _ [(8,(u 8)),(49,.slice B5 (ps.length) (p5)),(3,vP b2),(5,vP G.w),(7,vI (c2.answer)),(45,.agg #[.iface 39 (vP G.w)]),(46,vI (c2.answer)),(48,.slice Ap (ps.length) (cp)),(51,vI (mode))] [.abs (aJ 9 1 B5 ps.length p5 (ig ps)),wA G fs xs root S2 V2 q2.1,.abs Aq] _
     refine gL [1,0] (CV (β:=gV) (A:=B5) (kq:=p5) (G:=G) (V:=V2) (r:=⟨Sr,nr,cr,false,mr,0,ar⟩) rfl hrw vS q2.2 (by decide) kx hab hg hE EF hpl hps hr) ?_
     rintro _ _ ⟨V3,q3,rfl,rfl⟩
     refine NL ?_
     exact MD (V3,q3) [52,8,49,3,5,7,45,46,48,51] [0,1]
    rintro _ _ ⟨⟨V3,q3⟩,rfl,rfl⟩
    refine⟨xw 0 rfl,?_⟩
    refine fO.read (v:=.tuple #[.agg #[vI (cr),.bool false,vI (mr)],.nilIface]) (fun _=>by kernel_rfl) rfl rfl ?_
    refine fO.read (v:=.agg #[vI (cr),.bool false,vI (mr)]) (fun _=>by kernel_rfl) rfl rfl ?_
    refine fO.read (v:=.nilIface) (fun _=>by kernel_rfl) rfl rfl ?_
    exact⟨B5,p5,V3,q3,rfl,rfl⟩
   rintro _ _ ⟨B5,p5,V3,q3,rfl,rfl⟩ _ _ ⟨b9,rfl,rfl⟩
   refine fk.O9 (ι:=Unit) (fr':=fun (_:Unit)=>[(3,vP b2),(5,vP G.w),(7,vI (c2.answer)),(8,vP b9),(54,.nilIface)]) (hp':=fun (_:Unit)=>[wA G fs xs root Sr V3 q3.1,.blk b9 [vI (cr),.bool false,vI (mr)] 55,.abs R,.blk b1 [.slice A (ns.length) (c),vI (root),vI (X.cN),vI (X.cB),vI (X.cH),vI (X.cS),vI (X.cZ),.slice Af (fs.length) (cf),.slice Aa (xs.length) (ca)] 34,.blk b2 [.slice Ap (ps.length) (cp),vI (mode),.bool far] 37]) (by kernel_rfl) ?_ (fun _ _ h=>(h.wg (i:=0) rfl).pick (idx:=[4,0]) rfl rfl) ?_
   ·refine gC 1 [] [(0,A_ 1 b9 3)] [(1,[(0,vI (cr)),(2,vI (mr))])] ?_
    refine NL ?_
    exact MD () [3,5,7,8,54] [0,1,2,3,4]
   rintro _
   refine fk.last (by kernel_rfl) ?_
   refine gK 1 [(9,.nilIface)] [] ?_
   refine NL (aj.np (NX (af.seq (af.seq ?_))))
   by_cases hm:mode < 0
   ·have Vm:=hm0 hm
    refine af.bI (by kernel_rfl) (by kernel_rfl) ?_
    refine gQ 1 [(55,vP G.w)] [] ?_
    refine aR.call (f:=12) (args:=#[vP G.w]) (d:=(some 56)) (pre:=[wA G fs xs root Sr V3 q3.1]) (R:=[.blk b9 [vI (cr),.bool false,vI (mr)] 55,.abs R,.blk b1 [.slice A (ns.length) (c),vI (root),vI (X.cN),vI (X.cB),vI (X.cH),vI (X.cS),vI (X.cZ),.slice Af (fs.length) (cf),.slice Aa (xs.length) (ca)] 34,.blk b2 [.slice Ap (ps.length) (cp),vI (mode),.bool far] 37]) (pk:=[0,1,2,3,4]) (ij:=[0,1,2,3,4]) (v0:=vI (Sr.av)) (fun _=>by kernel_rfl) (qG (β:=gV) (G:=G) (fs:=fs) (xs:=xs) (root:=root) (S:=Sr) (V:=V3) (tr:=q3.1)) rfl (by kernel_rfl) rfl (by kernel_rfl) (fun _ _ h=>h) ?_
    refine gQ 26 [(81,.bool false),(82,vP G.w)] [(0,p_ ⟨[],none,none,none,some (.bool false)⟩ [((.bool (decide ((Sr.av:Int) > (3:Int))):Value))=(.bool false)] ⟨congrArg Value.bool (decide_eq_false (by omega)),trivial⟩),(3,a_ 1 b9),(4,p_ ⟨[],none,none,none,some (.bool false)⟩ [((.bool (decide ((mr:Int) < (0:Int))):Value))=(.bool false)] ⟨congrArg Value.bool (decide_eq_false (by omega)),trivial⟩),(8,a_ 1 b9),(10,a_ 4 b2),(12,p_ ⟨[],none,none,none,some (.bool false)⟩ [((.bool (decide ((mr:Int) > (((ps.length:Nat):Int):Int))):Value))=(.bool false)] ⟨congrArg Value.bool (decide_eq_false (by omega)),trivial⟩),(16,a_ 4 b2),(17,p_ ⟨[],none,none,none,some (.bool true)⟩ [((.bool (decide ((mode:Int) < (0:Int))):Value))=(.bool true)] ⟨congrArg Value.bool (decide_eq_true (hm)),trivial⟩),(20,a_ 1 b9),(21,p_ ⟨[],none,none,none,some (.bool false)⟩ [((.bool (decide ((mr:Int) > (0:Int))):Value))=(.bool false)] ⟨congrArg Value.bool (decide_eq_false (by omega)),trivial⟩)] ?_
    refine aR.call (f:=13) (args:=#[vP G.w]) (d:=(some 83)) (pre:=[wA G fs xs root Sr V3 q3.1]) (R:=[.blk b9 [vI (cr),.bool false,vI (mr)] 55,.abs R,.blk b1 [.slice A (ns.length) (c),vI (root),vI (X.cN),vI (X.cB),vI (X.cH),vI (X.cS),vI (X.cZ),.slice Af (fs.length) (cf),.slice Aa (xs.length) (ca)] 34,.blk b2 [.slice Ap (ps.length) (cp),vI (mode),.bool far] 37]) (pk:=[0,1,2,3,4]) (ij:=[0,1,2,3,4]) (v0:=vI ↑q3.1.length) (fun _=>by kernel_rfl) (o8 (β:=gV) (G:=G) (fs:=fs) (xs:=xs) (root:=root) (S:=Sr) (V:=V3) (tr:=q3.1)) rfl (by kernel_rfl) rfl (by kernel_rfl) (fun _ _ h=>h) ?_
    refine gQ 8 [(91,.bool false)] [(1,a_ 4 b2),(3,p_ ⟨[],none,none,none,some (vI ↑(4 * ps.length))⟩ [(Value.int .i64 (IntKind.wrap .i64 (4 * ((ps.length:Nat):Int))))=(.int .i64 ↑(4 * ps.length))] ⟨aY (by omega) (by omega) (by omega),trivial⟩),(4,p_ ⟨[],none,none,none,some (vI ↑(1+(4 * ps.length)))⟩ [(Value.int .i64 (IntKind.wrap .i64 (1+((4 * ps.length:Nat):Int))))=(.int .i64 ↑(1+(4 * ps.length)))] ⟨aY (by omega) (by omega) (by omega),trivial⟩),(5,p_ ⟨[],none,none,none,some (vI ↑((1+(4 * ps.length))+1))⟩ [(Value.int .i64 (IntKind.wrap .i64 (((1+(4 * ps.length):Nat):Int)+1)))=(.int .i64 ↑((1+(4 * ps.length))+1))] ⟨aY (by omega) (by omega) (by omega),trivial⟩),(6,p_ ⟨[],none,none,none,some (.bool false)⟩ [((.bool (decide ((((q3.1.length:Nat):Int):Int) > ((((1+(4 * ps.length))+1:Nat):Int):Int))):Value))=(.bool false)] ⟨congrArg Value.bool (decide_eq_false (by have:=q3.2;omega)),trivial⟩)] ?_
    refine NQ (NX ?_)
    refine CF (af.skip (NX (af.seq (SR (gK 2 [(93,.bool false)] [] ?_)))))
    refine NN (CF (af.skip (NX (af.seq (SR (gK 18 [(124,.bool false)] [(1,a_ 1 b9),(3,a_ 4 b2),(5,p_ ⟨[],none,none,none,some (.bool false)⟩ [((.bool (decide ((((ps.length:Nat):Int):Int) > (0:Int))):Value))=(.bool false)] ⟨congrArg Value.bool (decide_eq_false (by omega)),trivial⟩),(9,a_ 1 b9),(13,a_ 1 b9),(15,p_ ⟨[],none,none,none,some (.bool false)⟩ [((.bool (!(decide ((cr:Int)=(c2.answer:Int)))):Value))=(.bool false)] ⟨congrArg (fun b=>Value.bool !b) (decide_eq_true (Vn)),trivial⟩)] ?_))))))
    refine NN (CF (af.skip (NX (af.seq (SR (gK 13 [(132,.bool false),(136,.bool true),(137,vP G.w)] [(1,a_ 1 b9),(9,a_ 1 b9)] ?_))))))
    refine gL [0] (kV (β:=gV) (G:=G) (fs:=fs) (xs:=xs) (root:=root) (S:=Sr) (V:=V3) (tr:=q3.1)) ?_
    rintro _ _ ⟨rfl,rfl⟩
    refine gK 3 [(141,.bool false)] [(0,p_ ⟨[],none,none,none,some (.bool false)⟩ [((.bool (!(decide ((((Sr.us.length:Nat):Int):Int)=(1:Int)))):Value))=(.bool false)] ⟨congrArg (fun b=>Value.bool !b) (decide_eq_true (by omega)),trivial⟩)] ?_
    refine NN (CF (af.skip (NX (af.seq (af.ol (S:=[.blk b9 [vI (cr),.bool false,vI (mr)] 55,.abs (jh G)]) [(true,0),(true,1),(true,2),(true,3),(true,4),(false,5)] (by kernel_rfl) (by kernel_rfl) (fun _ h=>(h.wg (i:=0) rfl).pick (idx:=[1,0]) rfl rfl) ?_)))))
    refine gG [(false,5)] [(5,vP G.w),(145,.agg #[.iface 39 (vP G.w)]),(146,.agg #[vI (cr),.bool false,vI (mr)])] [0,1,2,3,4] [(3,p_ ⟨[.view 1 (.iface 39 (vP G.w))],none,none,none,none⟩ [(∀ F w,(jh G).h F w->w.cell? ⟨G.w,0,none⟩=some (.iface 39 (vP G.w)))] ⟨jm,trivial⟩),(4,A_ 0 b9 3)] ?_
    refine fk.MW ?_
    have Hw:Grown gV gV:=.inl rfl
    refine oK.last (by kernel_rfl) ?_
    refine gL [] (Ai G cr mr) ?_
    rintro _ _ ⟨rfl,rfl⟩
    refine NL (aj.np (NX (SR ?_)))
    refine gK 1 [(148,vP G.w)] [] ?_
    refine gL [0] (kV (β:=gV) (G:=G) (fs:=fs) (xs:=xs) (root:=root) (S:=Sr) (V:=V3) (tr:=q3.1)) ?_
    rintro _ _ ⟨rfl,rfl⟩
    refine gK 2 [(4,.bool true)] [(0,p_ ⟨[],none,none,none,some (.bool true)⟩ [((.bool (decide ((((Sr.us.length:Nat):Int):Int)=(1:Int))):Value))=(.bool true)] ⟨congrArg Value.bool (decide_eq_true (by omega)),trivial⟩)] ?_
    refine NN (af.ret ?_)
    exact aj.xU (v:=.bool true) (l:=[]) (aZ:=[]) [] [2] hle0 (fun _=>by kernel_rfl) trivial rfl (by kernel_rfl) (rfl)
   refine af.bI (by kernel_rfl) (by kernel_rfl) ?_
   refine gQ 1 [(55,vP G.w)] [] ?_
   refine aR.call (f:=12) (args:=#[vP G.w]) (d:=(some 56)) (pre:=[wA G fs xs root Sr V3 q3.1]) (R:=[.blk b9 [vI (cr),.bool false,vI (mr)] 55,.abs R,.blk b1 [.slice A (ns.length) (c),vI (root),vI (X.cN),vI (X.cB),vI (X.cH),vI (X.cS),vI (X.cZ),.slice Af (fs.length) (cf),.slice Aa (xs.length) (ca)] 34,.blk b2 [.slice Ap (ps.length) (cp),vI (mode),.bool far] 37]) (pk:=[0,1,2,3,4]) (ij:=[0,1,2,3,4]) (v0:=vI (Sr.av)) (fun _=>by kernel_rfl) (qG (β:=gV) (G:=G) (fs:=fs) (xs:=xs) (root:=root) (S:=Sr) (V:=V3) (tr:=q3.1)) rfl (by kernel_rfl) rfl (by kernel_rfl) (fun _ _ h=>h) ?_
   refine gQ 26 [(81,.bool false),(82,vP G.w)] [(0,p_ ⟨[],none,none,none,some (.bool false)⟩ [((.bool (decide ((Sr.av:Int) > (3:Int))):Value))=(.bool false)] ⟨congrArg Value.bool (decide_eq_false (by omega)),trivial⟩),(3,a_ 1 b9),(4,p_ ⟨[],none,none,none,some (.bool false)⟩ [((.bool (decide ((mr:Int) < (0:Int))):Value))=(.bool false)] ⟨congrArg Value.bool (decide_eq_false (by omega)),trivial⟩),(8,a_ 1 b9),(10,a_ 4 b2),(12,p_ ⟨[],none,none,none,some (.bool false)⟩ [((.bool (decide ((mr:Int) > (((ps.length:Nat):Int):Int))):Value))=(.bool false)] ⟨congrArg Value.bool (decide_eq_false (by omega)),trivial⟩),(16,a_ 4 b2),(17,p_ ⟨[],none,none,none,some (.bool false)⟩ [((.bool (decide ((mode:Int) < (0:Int))):Value))=(.bool false)] ⟨congrArg Value.bool (decide_eq_false (hm)),trivial⟩)] ?_
   refine aR.call (f:=13) (args:=#[vP G.w]) (d:=(some 83)) (pre:=[wA G fs xs root Sr V3 q3.1]) (R:=[.blk b9 [vI (cr),.bool false,vI (mr)] 55,.abs R,.blk b1 [.slice A (ns.length) (c),vI (root),vI (X.cN),vI (X.cB),vI (X.cH),vI (X.cS),vI (X.cZ),.slice Af (fs.length) (cf),.slice Aa (xs.length) (ca)] 34,.blk b2 [.slice Ap (ps.length) (cp),vI (mode),.bool far] 37]) (pk:=[0,1,2,3,4]) (ij:=[0,1,2,3,4]) (v0:=vI ↑q3.1.length) (fun _=>by kernel_rfl) (o8 (β:=gV) (G:=G) (fs:=fs) (xs:=xs) (root:=root) (S:=Sr) (V:=V3) (tr:=q3.1)) rfl (by kernel_rfl) rfl (by kernel_rfl) (fun _ _ h=>h) ?_
   refine gQ 8 [(91,.bool false)] [(1,a_ 4 b2),(3,p_ ⟨[],none,none,none,some (vI ↑(4 * ps.length))⟩ [(Value.int .i64 (IntKind.wrap .i64 (4 * ((ps.length:Nat):Int))))=(.int .i64 ↑(4 * ps.length))] ⟨aY (by omega) (by omega) (by omega),trivial⟩),(4,p_ ⟨[],none,none,none,some (vI ↑(1+(4 * ps.length)))⟩ [(Value.int .i64 (IntKind.wrap .i64 (1+((4 * ps.length:Nat):Int))))=(.int .i64 ↑(1+(4 * ps.length)))] ⟨aY (by omega) (by omega) (by omega),trivial⟩),(5,p_ ⟨[],none,none,none,some (vI ↑((1+(4 * ps.length))+1))⟩ [(Value.int .i64 (IntKind.wrap .i64 (((1+(4 * ps.length):Nat):Int)+1)))=(.int .i64 ↑((1+(4 * ps.length))+1))] ⟨aY (by omega) (by omega) (by omega),trivial⟩),(6,p_ ⟨[],none,none,none,some (.bool false)⟩ [((.bool (decide ((((q3.1.length:Nat):Int):Int) > ((((1+(4 * ps.length))+1:Nat):Int):Int))):Value))=(.bool false)] ⟨congrArg Value.bool (decide_eq_false (by have:=q3.2;omega)),trivial⟩)] ?_
   refine NQ (NX ?_)
   refine CF (af.skip (NX (af.seq (SR (gK 2 [(93,.bool false)] [] ?_)))))
   refine NN (CF (af.skip (NX (af.seq (SR (gK 18 [(124,.bool false)] [(1,a_ 1 b9),(3,a_ 4 b2),(5,p_ ⟨[],none,none,none,some (.bool false)⟩ [((.bool (decide ((((ps.length:Nat):Int):Int) > (0:Int))):Value))=(.bool false)] ⟨congrArg Value.bool (decide_eq_false (by omega)),trivial⟩),(9,a_ 1 b9),(13,a_ 1 b9),(15,p_ ⟨[],none,none,none,some (.bool false)⟩ [((.bool (!(decide ((cr:Int)=(c2.answer:Int)))):Value))=(.bool false)] ⟨congrArg (fun b=>Value.bool !b) (decide_eq_true (Vn)),trivial⟩)] ?_))))))
   refine NN (CF (af.skip (NX (af.seq (SR (gK 13 [(132,.bool false),(136,.bool true),(137,vP G.w)] [(1,a_ 1 b9),(9,a_ 1 b9)] ?_))))))
   refine gL [0] (kV (β:=gV) (G:=G) (fs:=fs) (xs:=xs) (root:=root) (S:=Sr) (V:=V3) (tr:=q3.1)) ?_
   rintro _ _ ⟨rfl,rfl⟩
   refine gK 3 [(141,.bool false)] [(0,p_ ⟨[],none,none,none,some (.bool false)⟩ [((.bool (!(decide ((((Sr.us.length:Nat):Int):Int)=(1:Int)))):Value))=(.bool false)] ⟨congrArg (fun b=>Value.bool !b) (decide_eq_true (by omega)),trivial⟩)] ?_
   refine NN (CF (af.skip (NX (af.seq (af.ol (S:=[.blk b9 [vI (cr),.bool false,vI (mr)] 55,.abs (jh G)]) [(true,0),(true,1),(true,2),(true,3),(true,4),(false,5)] (by kernel_rfl) (by kernel_rfl) (fun _ h=>(h.wg (i:=0) rfl).pick (idx:=[1,0]) rfl rfl) ?_)))))
   refine gG [(false,5)] [(5,vP G.w),(145,.agg #[.iface 39 (vP G.w)]),(146,.agg #[vI (cr),.bool false,vI (mr)])] [0,1,2,3,4] [(3,p_ ⟨[.view 1 (.iface 39 (vP G.w))],none,none,none,none⟩ [(∀ F w,(jh G).h F w->w.cell? ⟨G.w,0,none⟩=some (.iface 39 (vP G.w)))] ⟨jm,trivial⟩),(4,A_ 0 b9 3)] ?_
   refine fk.MW ?_
   have Hw:Grown gV gV:=.inl rfl
   refine oK.last (by kernel_rfl) ?_
   refine gL [] (Ai G cr mr) ?_
   rintro _ _ ⟨rfl,rfl⟩
   refine NL (aj.np (NX (SR ?_)))
   refine gK 1 [(148,vP G.w)] [] ?_
   refine gL [0] (kV (β:=gV) (G:=G) (fs:=fs) (xs:=xs) (root:=root) (S:=Sr) (V:=V3) (tr:=q3.1)) ?_
   rintro _ _ ⟨rfl,rfl⟩
   refine gK 2 [(4,.bool true)] [(0,p_ ⟨[],none,none,none,some (.bool true)⟩ [((.bool (decide ((((Sr.us.length:Nat):Int):Int)=(1:Int))):Value))=(.bool true)] ⟨congrArg Value.bool (decide_eq_true (by omega)),trivial⟩)] ?_
   refine NN (af.ret ?_)
   exact aj.xU (v:=.bool true) (l:=[]) (aZ:=[]) [] [2] hle0 (fun _=>by kernel_rfl) trivial rfl (by kernel_rfl) (rfl)
  have Fc:Sr.us.length=1:=hw.bad hc
  refine af.DS (S:=[.blk b2 [.slice Ap (ps.length) (cp),vI (mode),.bool far] 37,.abs (jh G)]) 14 [(true,0),(true,1),(true,2),(true,3),(true,4),(true,5),(true,6),(true,8),(true,9),(false,7),(false,10),(true,11),(true,12),(true,13)] [(false,15),(false,16)] (by kernel_rfl) (by kernel_rfl) (fun _ h=>(h.wg (i:=0) rfl).pick (idx:=[3,0]) rfl rfl) ?_
  refine gJ [(false,7),(false,10),(true,11),(true,12),(true,13)] [(3,vP b2),(5,vP G.w),(7,vI (c2.answer)),(45,.agg #[.iface 39 (vP G.w)]),(46,vI (c2.answer)),(48,.slice Ap (ps.length) (cp)),(51,vI (mode))] [0,1,2,3,4,5,6,8,9] [(3,p_ ⟨[.view 1 (.iface 39 (vP G.w))],none,none,none,none⟩ [(∀ F w,(jh G).h F w->w.cell? ⟨G.w,0,none⟩=some (.iface 39 (vP G.w)))] ⟨jm,trivial⟩),(6,a_ 0 b2),(8,a_ 0 b2)] ?_
  refine za.beside (j:=14) (dj:=8) (R:=fun f_ l_=>∃ B5:Option Addr,∃ p5:Nat,∃ V3:WV,∃ q3:{ l:List ax // l.length=nr },∃ e:Nat,∃ nm:ByteArray,f_=[(54,.iface 92 (vP e)),(53,.agg #[vI (0),.bool false,vI (mr)]),(41,.tuple #[.agg #[vI (0),.bool false,vI (mr)],.iface 92 (vP e)]),(52,.tuple #[.agg #[vI (0),.bool false,vI (mr)],.iface 92 (vP e)]),(49,.slice B5 (ps.length) (p5)),(3,vP b2),(5,vP G.w),(7,vI (c2.answer)),(45,.agg #[.iface 39 (vP G.w)]),(46,vI (c2.answer)),(48,.slice Ap (ps.length) (cp)),(51,vI (mode))]/\l_=[wA G fs xs root Sr V3 q3.1,.blk e [vI (ar),.string nm,vI (kr)] 94]) (pc:=[wA G fs xs root S2 V2 q2.1]) (pj:=[]) (Z:=[.abs R,.blk b1 [.slice A (ns.length) (c),vI (root),vI (X.cN),vI (X.cB),vI (X.cH),vI (X.cS),vI (X.cZ),.slice Af (fs.length) (cf),.slice Aa (xs.length) (ca)] 34,.blk b2 [.slice Ap (ps.length) (cp),vI (mode),.bool far] 37]) [0,1,2,3] (Hu G) [(false,7,49),(false,10,52),(true,11,41),(true,12,53),(true,13,54)] (by kernel_rfl) rfl rfl (Hv (S1:=[.blk b2 [.slice Ap (ps.length) (cp),vI (mode),.bool far] 37]) (pS:=[2]) rfl rfl) (xw 0 rfl) rfl rfl (iA.of (ι:=Nat) (v:=fun (b10:Nat)=>vP b10) (l:=fun (b10:Nat)=>[.blk b10 [vI 0,.bool false,vI 0] 55]) [49,52,41,53,54] rfl rfl rfl rfl ?_) ?_ ?_
  ·intro u Aq
   show ak _ _ _ _ _ [(49,(u 49)),(52,(u 52)),(41,(u 41)),(53,(u 53)),(54,(u 54)),(3,vP b2),(5,vP G.w),(7,vI (c2.answer)),(45,.agg #[.iface 39 (vP G.w)]),(46,vI (c2.answer)),(48,.slice Ap (ps.length) (cp)),(51,vI (mode))] [.abs Aq] _
   refine gN 1 (fun b10=>[(8,vP b10)]) (fun _=>[]) (fun _=>[]) (fun b10=>.blk b10 [vI 0,.bool false,vI 0] 55) (fun b10=>?_)
   refine NL ?_
   exact MD b10 [8,49,52,41,53,54,3,5,7,45,46,48,51] [1,0]
  ·refine fO.step (iA.of (ι:=(Option Addr)×Nat) (v:=fun ((B5,p5):(Option Addr)×Nat)=>.slice B5 (ps.length) (p5)) (l:=fun ((B5,p5):(Option Addr)×Nat)=>[.abs (aJ 9 1 B5 ps.length p5 (ig ps)),wA G fs xs root S2 V2 q2.1]) [8] rfl rfl rfl rfl ?_) rfl ?_
   ·intro u Aq
    show ak _ _ _ _ _ [(8,(u 8)),(3,vP b2),(5,vP G.w),(7,vI (c2.answer)),(45,.agg #[.iface 39 (vP G.w)]),(46,vI (c2.answer)),(48,.slice Ap (ps.length) (cp)),(51,vI (mode))] [wA G fs xs root S2 V2 q2.1,.abs Aq] _
    refine gL [] (rO (β:=gV) Ap cp ps hP hpl) ?_
    rintro _ _ ⟨B5,p5,rfl,rfl⟩
    refine NL ?_
    exact MD (B5,p5) [49,8,3,5,7,45,46,48,51] [0,1,2]
   rintro _ _ ⟨⟨B5,p5⟩,rfl,rfl⟩
   refine⟨xw 1 rfl,?_⟩
   refine fO.step (iA.of (ι:=WV×({ l:List ax // l.length=nr })×Nat×ByteArray) (v:=fun ((V3,q3,e,nm):WV×({ l:List ax // l.length=nr })×Nat×ByteArray)=>.tuple #[.agg #[vI (0),.bool false,vI (mr)],.iface 92 (vP e)]) (l:=fun ((V3,q3,e,nm):WV×({ l:List ax // l.length=nr })×Nat×ByteArray)=>[wA G fs xs root Sr V3 q3.1,.blk e [vI (ar),.string nm,vI (kr)] 94]) [8] rfl rfl rfl rfl ?_) rfl ?_
   ·intro u Aq
    show ak _ _ _ _ _ [(8,(u 8)),(49,.slice B5 (ps.length) (p5)),(3,vP b2),(5,vP G.w),(7,vI (c2.answer)),(45,.agg #[.iface 39 (vP G.w)]),(46,vI (c2.answer)),(48,.slice Ap (ps.length) (cp)),(51,vI (mode))] [.abs (aJ 9 1 B5 ps.length p5 (ig ps)),wA G fs xs root S2 V2 q2.1,.abs Aq] _
    refine gL [1,0] (Iq (β:=gV) (A:=B5) (kq:=p5) (G:=G) (V:=V2) (r:=⟨Sr,nr,cr,ow,mr,kr,ar⟩) hc hrw vS q2.2 (by decide) kx hab hg hE EF hpl hps hr) ?_
    rintro _ _ ⟨V3,q3,e,nm,rfl,rfl⟩
    refine NL ?_
    exact MD (V3,q3,e,nm) [52,8,49,3,5,7,45,46,48,51] [0,1,2]
   rintro _ _ ⟨⟨V3,q3,e,nm⟩,rfl,rfl⟩
   refine⟨xw 0 rfl,?_⟩
   refine fO.read (v:=.tuple #[.agg #[vI (0),.bool false,vI (mr)],.iface 92 (vP e)]) (fun _=>by kernel_rfl) rfl rfl ?_
   refine fO.read (v:=.agg #[vI (0),.bool false,vI (mr)]) (fun _=>by kernel_rfl) rfl rfl ?_
   refine fO.read (v:=.iface 92 (vP e)) (fun _=>by kernel_rfl) rfl rfl ?_
   exact⟨B5,p5,V3,q3,e,nm,rfl,rfl⟩
  rintro _ _ ⟨B5,p5,V3,q3,e,nm,rfl,rfl⟩ _ _ ⟨b10,rfl,rfl⟩
  refine fk.O9 (ι:=Unit) (fr':=fun (_:Unit)=>[(3,vP b2),(5,vP G.w),(7,vI (c2.answer)),(8,vP b10),(54,.iface 92 (vP e))]) (hp':=fun (_:Unit)=>[wA G fs xs root Sr V3 q3.1,.blk e [vI (ar),.string nm,vI (kr)] 94,.blk b10 [vI (0),.bool false,vI (mr)] 55,.abs R,.blk b1 [.slice A (ns.length) (c),vI (root),vI (X.cN),vI (X.cB),vI (X.cH),vI (X.cS),vI (X.cZ),.slice Af (fs.length) (cf),.slice Aa (xs.length) (ca)] 34,.blk b2 [.slice Ap (ps.length) (cp),vI (mode),.bool far] 37]) (by kernel_rfl) ?_ (fun _ _ h=>(h.wg (i:=0) rfl).pick (idx:=[5,0]) rfl rfl) ?_
  ·refine gC 1 [] [(0,A_ 2 b10 3)] [(2,[(0,vI (0)),(2,vI (mr))])] ?_
   refine NL ?_
   exact MD () [3,5,7,8,54] [0,1,2,3,4,5]
  rintro _
  refine fk.last (by kernel_rfl) ?_
  refine gK 1 [(9,.iface 92 (vP e))] [] ?_
  refine NL (aj.np (NX (af.seq (af.seq ?_))))
  by_cases hm:mode < 0
  ·have Vm:=hm0 hm
   refine af.bI (by kernel_rfl) (by kernel_rfl) ?_
   refine gQ 1 [(55,vP G.w)] [] ?_
   refine aR.call (f:=12) (args:=#[vP G.w]) (d:=(some 56)) (pre:=[wA G fs xs root Sr V3 q3.1]) (R:=[.blk e [vI (ar),.string nm,vI (kr)] 94,.blk b10 [vI (0),.bool false,vI (mr)] 55,.abs R,.blk b1 [.slice A (ns.length) (c),vI (root),vI (X.cN),vI (X.cB),vI (X.cH),vI (X.cS),vI (X.cZ),.slice Af (fs.length) (cf),.slice Aa (xs.length) (ca)] 34,.blk b2 [.slice Ap (ps.length) (cp),vI (mode),.bool far] 37]) (pk:=[0,1,2,3,4,5]) (ij:=[0,1,2,3,4,5]) (v0:=vI (Sr.av)) (fun _=>by kernel_rfl) (qG (β:=gV) (G:=G) (fs:=fs) (xs:=xs) (root:=root) (S:=Sr) (V:=V3) (tr:=q3.1)) rfl (by kernel_rfl) rfl (by kernel_rfl) (fun _ _ h=>h) ?_
   refine gQ 26 [(81,.bool false),(82,vP G.w)] [(0,p_ ⟨[],none,none,none,some (.bool false)⟩ [((.bool (decide ((Sr.av:Int) > (3:Int))):Value))=(.bool false)] ⟨congrArg Value.bool (decide_eq_false (by omega)),trivial⟩),(3,a_ 2 b10),(4,p_ ⟨[],none,none,none,some (.bool false)⟩ [((.bool (decide ((mr:Int) < (0:Int))):Value))=(.bool false)] ⟨congrArg Value.bool (decide_eq_false (by omega)),trivial⟩),(8,a_ 2 b10),(10,a_ 5 b2),(12,p_ ⟨[],none,none,none,some (.bool false)⟩ [((.bool (decide ((mr:Int) > (((ps.length:Nat):Int):Int))):Value))=(.bool false)] ⟨congrArg Value.bool (decide_eq_false (by omega)),trivial⟩),(16,a_ 5 b2),(17,p_ ⟨[],none,none,none,some (.bool true)⟩ [((.bool (decide ((mode:Int) < (0:Int))):Value))=(.bool true)] ⟨congrArg Value.bool (decide_eq_true (hm)),trivial⟩),(20,a_ 2 b10),(21,p_ ⟨[],none,none,none,some (.bool false)⟩ [((.bool (decide ((mr:Int) > (0:Int))):Value))=(.bool false)] ⟨congrArg Value.bool (decide_eq_false (by omega)),trivial⟩)] ?_
   refine aR.call (f:=13) (args:=#[vP G.w]) (d:=(some 83)) (pre:=[wA G fs xs root Sr V3 q3.1]) (R:=[.blk e [vI (ar),.string nm,vI (kr)] 94,.blk b10 [vI (0),.bool false,vI (mr)] 55,.abs R,.blk b1 [.slice A (ns.length) (c),vI (root),vI (X.cN),vI (X.cB),vI (X.cH),vI (X.cS),vI (X.cZ),.slice Af (fs.length) (cf),.slice Aa (xs.length) (ca)] 34,.blk b2 [.slice Ap (ps.length) (cp),vI (mode),.bool far] 37]) (pk:=[0,1,2,3,4,5]) (ij:=[0,1,2,3,4,5]) (v0:=vI ↑q3.1.length) (fun _=>by kernel_rfl) (o8 (β:=gV) (G:=G) (fs:=fs) (xs:=xs) (root:=root) (S:=Sr) (V:=V3) (tr:=q3.1)) rfl (by kernel_rfl) rfl (by kernel_rfl) (fun _ _ h=>h) ?_
   refine gQ 8 [(91,.bool false)] [(1,a_ 5 b2),(3,p_ ⟨[],none,none,none,some (vI ↑(4 * ps.length))⟩ [(Value.int .i64 (IntKind.wrap .i64 (4 * ((ps.length:Nat):Int))))=(.int .i64 ↑(4 * ps.length))] ⟨aY (by omega) (by omega) (by omega),trivial⟩),(4,p_ ⟨[],none,none,none,some (vI ↑(1+(4 * ps.length)))⟩ [(Value.int .i64 (IntKind.wrap .i64 (1+((4 * ps.length:Nat):Int))))=(.int .i64 ↑(1+(4 * ps.length)))] ⟨aY (by omega) (by omega) (by omega),trivial⟩),(5,p_ ⟨[],none,none,none,some (vI ↑((1+(4 * ps.length))+1))⟩ [(Value.int .i64 (IntKind.wrap .i64 (((1+(4 * ps.length):Nat):Int)+1)))=(.int .i64 ↑((1+(4 * ps.length))+1))] ⟨aY (by omega) (by omega) (by omega),trivial⟩),(6,p_ ⟨[],none,none,none,some (.bool false)⟩ [((.bool (decide ((((q3.1.length:Nat):Int):Int) > ((((1+(4 * ps.length))+1:Nat):Int):Int))):Value))=(.bool false)] ⟨congrArg Value.bool (decide_eq_false (by have:=q3.2;omega)),trivial⟩)] ?_
   refine NQ (NX ?_)
   refine CF (af.skip (NX (af.seq (SR (gK 2 [(93,.bool true)] [] ?_)))))
   refine NN (CT (SR (gK 1 [(94,vP G.w)] [] ?_)))
   refine gL [0] (kV (β:=gV) (G:=G) (fs:=fs) (xs:=xs) (root:=root) (S:=Sr) (V:=V3) (tr:=q3.1)) ?_
   rintro _ _ ⟨rfl,rfl⟩
   refine gK 12 [(4,.bool true)] [(0,p_ ⟨[],none,none,none,some (.bool true)⟩ [((.bool (decide ((((Sr.us.length:Nat):Int):Int)=(1:Int))):Value))=(.bool true)] ⟨congrArg Value.bool (decide_eq_true (by omega)),trivial⟩),(3,a_ 2 b10),(8,a_ 2 b10),(9,p_ ⟨[],none,none,none,some (.bool true)⟩ [(Value.bool (decide ((0:Int)=(0:Int))))=(.bool true)] ⟨by simp,trivial⟩)] ?_
   refine NN (af.ret (aj.aq ?_))
   exact aj.xU (v:=.bool true) (l:=[]) (aZ:=[]) [] [3] hle0 (fun _=>by kernel_rfl) trivial rfl (by kernel_rfl) (rfl)
  refine af.bI (by kernel_rfl) (by kernel_rfl) ?_
  refine gQ 1 [(55,vP G.w)] [] ?_
  refine aR.call (f:=12) (args:=#[vP G.w]) (d:=(some 56)) (pre:=[wA G fs xs root Sr V3 q3.1]) (R:=[.blk e [vI (ar),.string nm,vI (kr)] 94,.blk b10 [vI (0),.bool false,vI (mr)] 55,.abs R,.blk b1 [.slice A (ns.length) (c),vI (root),vI (X.cN),vI (X.cB),vI (X.cH),vI (X.cS),vI (X.cZ),.slice Af (fs.length) (cf),.slice Aa (xs.length) (ca)] 34,.blk b2 [.slice Ap (ps.length) (cp),vI (mode),.bool far] 37]) (pk:=[0,1,2,3,4,5]) (ij:=[0,1,2,3,4,5]) (v0:=vI (Sr.av)) (fun _=>by kernel_rfl) (qG (β:=gV) (G:=G) (fs:=fs) (xs:=xs) (root:=root) (S:=Sr) (V:=V3) (tr:=q3.1)) rfl (by kernel_rfl) rfl (by kernel_rfl) (fun _ _ h=>h) ?_
  refine gQ 26 [(81,.bool false),(82,vP G.w)] [(0,p_ ⟨[],none,none,none,some (.bool false)⟩ [((.bool (decide ((Sr.av:Int) > (3:Int))):Value))=(.bool false)] ⟨congrArg Value.bool (decide_eq_false (by omega)),trivial⟩),(3,a_ 2 b10),(4,p_ ⟨[],none,none,none,some (.bool false)⟩ [((.bool (decide ((mr:Int) < (0:Int))):Value))=(.bool false)] ⟨congrArg Value.bool (decide_eq_false (by omega)),trivial⟩),(8,a_ 2 b10),(10,a_ 5 b2),(12,p_ ⟨[],none,none,none,some (.bool false)⟩ [((.bool (decide ((mr:Int) > (((ps.length:Nat):Int):Int))):Value))=(.bool false)] ⟨congrArg Value.bool (decide_eq_false (by omega)),trivial⟩),(16,a_ 5 b2),(17,p_ ⟨[],none,none,none,some (.bool false)⟩ [((.bool (decide ((mode:Int) < (0:Int))):Value))=(.bool false)] ⟨congrArg Value.bool (decide_eq_false (hm)),trivial⟩)] ?_
  refine aR.call (f:=13) (args:=#[vP G.w]) (d:=(some 83)) (pre:=[wA G fs xs root Sr V3 q3.1]) (R:=[.blk e [vI (ar),.string nm,vI (kr)] 94,.blk b10 [vI (0),.bool false,vI (mr)] 55,.abs R,.blk b1 [.slice A (ns.length) (c),vI (root),vI (X.cN),vI (X.cB),vI (X.cH),vI (X.cS),vI (X.cZ),.slice Af (fs.length) (cf),.slice Aa (xs.length) (ca)] 34,.blk b2 [.slice Ap (ps.length) (cp),vI (mode),.bool far] 37]) (pk:=[0,1,2,3,4,5]) (ij:=[0,1,2,3,4,5]) (v0:=vI ↑q3.1.length) (fun _=>by kernel_rfl) (o8 (β:=gV) (G:=G) (fs:=fs) (xs:=xs) (root:=root) (S:=Sr) (V:=V3) (tr:=q3.1)) rfl (by kernel_rfl) rfl (by kernel_rfl) (fun _ _ h=>h) ?_
  refine gQ 8 [(91,.bool false)] [(1,a_ 5 b2),(3,p_ ⟨[],none,none,none,some (vI ↑(4 * ps.length))⟩ [(Value.int .i64 (IntKind.wrap .i64 (4 * ((ps.length:Nat):Int))))=(.int .i64 ↑(4 * ps.length))] ⟨aY (by omega) (by omega) (by omega),trivial⟩),(4,p_ ⟨[],none,none,none,some (vI ↑(1+(4 * ps.length)))⟩ [(Value.int .i64 (IntKind.wrap .i64 (1+((4 * ps.length:Nat):Int))))=(.int .i64 ↑(1+(4 * ps.length)))] ⟨aY (by omega) (by omega) (by omega),trivial⟩),(5,p_ ⟨[],none,none,none,some (vI ↑((1+(4 * ps.length))+1))⟩ [(Value.int .i64 (IntKind.wrap .i64 (((1+(4 * ps.length):Nat):Int)+1)))=(.int .i64 ↑((1+(4 * ps.length))+1))] ⟨aY (by omega) (by omega) (by omega),trivial⟩),(6,p_ ⟨[],none,none,none,some (.bool false)⟩ [((.bool (decide ((((q3.1.length:Nat):Int):Int) > ((((1+(4 * ps.length))+1:Nat):Int):Int))):Value))=(.bool false)] ⟨congrArg Value.bool (decide_eq_false (by have:=q3.2;omega)),trivial⟩)] ?_
  refine NQ (NX ?_)
  refine CF (af.skip (NX (af.seq (SR (gK 2 [(93,.bool true)] [] ?_)))))
  refine NN (CT (SR (gK 1 [(94,vP G.w)] [] ?_)))
  refine gL [0] (kV (β:=gV) (G:=G) (fs:=fs) (xs:=xs) (root:=root) (S:=Sr) (V:=V3) (tr:=q3.1)) ?_
  rintro _ _ ⟨rfl,rfl⟩
  refine gK 12 [(4,.bool true)] [(0,p_ ⟨[],none,none,none,some (.bool true)⟩ [((.bool (decide ((((Sr.us.length:Nat):Int):Int)=(1:Int))):Value))=(.bool true)] ⟨congrArg Value.bool (decide_eq_true (by omega)),trivial⟩),(3,a_ 2 b10),(8,a_ 2 b10),(9,p_ ⟨[],none,none,none,some (.bool true)⟩ [(Value.bool (decide ((0:Int)=(0:Int))))=(.bool true)] ⟨by simp,trivial⟩)] ?_
  refine NN (af.ret (aj.aq ?_))
  exact aj.xU (v:=.bool true) (l:=[]) (aZ:=[]) [] [3] hle0 (fun _=>by kernel_rfl) trivial rfl (by kernel_rfl) (rfl)
 refine af.region (gK 1 [(13,.agg #[.slice A (ns.length) (c),vI (root),vI (X.cN),vI (X.cB),vI (X.cH),vI (X.cS),vI (X.cZ),.slice Af (fs.length) (cf),.slice Aa (xs.length) (ca)])] [(0,A_ 1 b1 9)] ?_)
 refine ak.fX (d:=(some 14)) (R:=[.abs R,.blk b1 [.slice A (ns.length) (c),vI (root),vI (X.cN),vI (X.cB),vI (X.cH),vI (X.cS),vI (X.cZ),.slice Af (fs.length) (cf),.slice Aa (xs.length) (ca)] 34,.blk b2 [.slice Ap (ps.length) (cp),vI (mode),.bool far] 37]) (pk:=[0,1,2]) (fun _=>by kernel_rfl) (KJ (β:=EC) (X:=X) h0 A c Y hG hB Af cf fs hF (mA.wide (by decide)) Aa ca xs hA hab) rfl (by kernel_rfl) ?_
 rintro Tj _ _ jy ⟨rfl,rfl⟩
 replace hG:=hG.le jy
 replace hF:=hF.le jy
 replace hA:=hA.le jy
 replace hP:=hP.le jy
 replace hg:=hg.le jy
 replace hE:=hE.le jy
 replace hle0:=hle0.trans jy
 refine gK 5 [(5,.pointer none),(6,vI ((dg X ns root)))] [] ?_
 refine NN (af.seq (SR (gK 6 [(22,.bool true)] [(1,p_ ⟨[],none,none,none,some (.bool true)⟩ [((.bool (!(decide (((dg X ns root):Int)=(0:Int)))):Value))=(.bool true)] ⟨congrArg (fun b=>Value.bool !b) (decide_eq_false h0),trivial⟩)] ?_)))
 refine NN (CT (SR (gK 7 [(4,.bool true)] [(4,p_ ⟨[],none,none,none,some (.bool true)⟩ [((.bool (!(decide (((dg X ns root):Int)=(0:Int)))):Value))=(.bool true)] ⟨congrArg (fun b=>Value.bool !b) (decide_eq_false h0),trivial⟩)] ?_)))
 refine NN (af.ret (aj.aq ?_))
 exact aj.xU (v:=.bool true) (l:=[]) (aZ:=[]) [] [0] hle0 (fun _=>by kernel_rfl) trivial rfl (by kernel_rfl) (rfl)
end
section
open Go.RowKit
theorem glob_ok {W:World} (h:W.ShapedOpen Tryz.prog):dV (B0 W):=by
  obtain⟨m,hm⟩:=cell_of_shapedOpen_int (g:=1) (t:=3) (zero:=#[.int .i64 0]) (k:=.i64) h (Nat.le_of_ble_eq_true (by kernel_rfl)) (by kernel_rfl) rfl (by kernel_rfl) (by kernel_rfl) Tryz.underlying3
  exact⟨m,C0 hm,hm⟩
end
section
open Go.ChangeShapes Go.WideShapes Go.ChangeAt Go.RowKit
structure ze (l:List ByteArray) (b:Nat):Prop where
  len:l.length+1<=b
  size:∀ i,i < l.length->(pc l i).size+1<=b
theorem ze.mono {l:List ByteArray} {b c:Nat} (h:ze l b) (hb:b<=c):ze l c:=⟨Nat.le_trans h.len hb,fun i hi=>Nat.le_trans (h.size i hi) hb⟩
theorem CW:∀ (d:List ByteArray) (k:Nat),dG (fun _ s=>[Value.string s]) k d=ig d
  | [],_=>rfl
  | b::r,k=>by rw [dG,CW r (k+1)];rfl
section
variable {H:Type} {enc:TypeId×Value->H} {W:World} {sp:Nat->Bool}
theorem KN {P:Program} {t:TypeId} {n:Nat} {cs:List Value} {x:DataW H×List MemPlace} (ht:P.underlying t=some .string) (h:DataW.trod enc P W 0 sp true n t cs=some x):∃ s:ByteArray,cs=[Value.string s]/\s.size+1<=Rows.uptoBulk x.1:=by
  obtain⟨s,h1,h2,_⟩:=DataW.trod_string ht h
  refine⟨s,h1,?_⟩
  rw [h2]
  simp only [Rows.uptoBulk,Array.length_toList]
  exact Nat.le_refl _
theorem Ir {n:Nat} {c:Value} {x:DataW H×List MemPlace} (h:DataW.trod enc Tryz.prog W 0 sp true n 35 [c]=some x) :
    ∃ A cp,∃ ss:List ByteArray,c=.slice A ss.length cp/\eU (B0 W) A ss/\ze ss (Rows.uptoBulk x.1):=by
  obtain⟨A,cp,xs,D,h1,_,_,h2,h4,h3⟩:=qi (α:=ByteArray) (f:=fun s=>[Value.string s]) (Q:=fun s d=>s.size+1<=Rows.uptoBulk d) Tryz.underlying35 (size:=1) (by kernel_rfl) (by decide) (fun n cs x h=>KN Tryz.underlying9 h) (fun _=>rfl) h
  cases h1
  rw [CW] at h2
  have h5:=qh ((List.range xs.length).map D)
  have h3:Rows.uptoBulkAll ((List.range xs.length).map D)+1<=Rows.uptoBulk x.1:=h3
  refine⟨_,_,xs,rfl,h2,by simp at h5;omega,fun i hi=>?_⟩
  have h6:=h4 i hi
  have h7:=wv (D:=D) hi
  have e:pc xs i=xs.getD i default:=rfl
  rw [e]
  omega
theorem open_way {v:Value} {d:DataW H} {ps:List MemPlace} {r:Go.Reach} {b0:Nat} (hval:Value.okWide Tryz.prog W r b0 37 v) (h:DataW.Trod enc Tryz.prog W 0 sp true 37 v d ps) :
    ∃ A cp,∃ ss:List ByteArray,∃ mode:Int,∃ far:Bool,v=.agg #[.slice A ss.length cp,.int .i64 mode,.bool far]/\eU (B0 W) A ss/\ze ss (Rows.uptoBulk d):=by
  obtain⟨cs,rfl,hcs⟩:=okWide_struct Tryz.underlying37 hval
  obtain⟨fuel,h⟩:=h
  obtain⟨ys,m,_,hx,hl,nQ,hf⟩:=DataW.trod_struct Tryz.underlying37 h
  have hC:Tryz.prog.cellsOf 37=3:=by kernel_rfl
  rw [hC] at hcs
  obtain⟨cs⟩:=cs
  match cs,hcs with
  | [c0,c1,c2],_=>
    obtain⟨h0,b0⟩:=bL (hf 0 _ rfl) (by rw [nQ];decide)
    obtain⟨h1,_⟩:=bL (hf 1 _ rfl) (by rw [nQ];decide)
    obtain⟨h2,_⟩:=bL (hf 2 _ rfl) (by rw [nQ];decide)
    obtain⟨A,cp,ss,rfl,hP,hB⟩:=Ir (c:=c0) h0
    obtain⟨z,rfl,_⟩:=sM (c:=c1) Tryz.underlying3 h1
    obtain⟨b,e,_⟩:=DataW.trod_bool Tryz.underlying4 h2
    cases e
    cases hx
    exact⟨A,cp,ss,z,b,rfl,hP,hB.mono b0⟩
end
end
section
open Go.RowKit
theorem et:Tryz.prog.globalNamed "errors.errorType" = some 0:=by kernel_rfl
theorem Xd:(Tryz.prog.cutTypes.find? (·.1 == "internal/reflectlite.rtype")).map (·.2)=some 195:=by kernel_rfl
theorem Tl:((List.range 365).filter fun t=>Tryz.prog.rowNamed t [101,114,114,111,114])=[57]:=by kernel_rfl
theorem Uk:Tryz.prog.types.size=365:=by kernel_rfl
theorem err_laid {W:World} (h:laidMetH Tryz.prog Rows.resolveHoldsUptoRow.laid W):jt (B0 W):=by
  have h':laidMet Tryz.prog [] W/\handlesMet Tryz.prog Rows.resolveHoldsUptoRow.laid W:=h
  obtain⟨name,u,ty,e1,e2,e3,e4,e5⟩:=h'.2 _ (List.mem_singleton.2 rfl)
  have en:name=[101,114,114,111,114]:=(Option.some.inj e1).symm
  subst en
  obtain rfl:=Option.some.inj (Xd.symm.trans e2)
  have hm:ty∈(List.range 365).filter fun t=>Tryz.prog.rowNamed t [101,114,114,111,114]:=List.mem_filter.2 ⟨List.mem_range.2 (by rw [← Uk];exact e3),e4⟩
  rw [Tl] at hm
  obtain rfl:=List.mem_singleton.1 hm
  have hh:typeHandle Tryz.prog 57=.pointer (some ⟨12,57,none⟩):=by kernel_rfl
  rw [hh] at e5
  have hc:W.cell? ⟨0,0,none⟩=some (.iface 195 (.agg #[.pointer (some ⟨12,57,none⟩)])):=by simpa using World.var?_cell et e5 0
  exact⟨C0 hc,hc⟩
noncomputable def laidWorld (os:Os):World:=
  { World.holding Tryz.prog os ⟨#[],#[],[]⟩ with heap:=(World.holding Tryz.prog os ⟨#[],#[],[]⟩).heap.modify 0 fun
      | .cells _ t frozen=>.cells #[.iface 195 (.agg #[.pointer (some ⟨12,57,none⟩)])] t frozen
      | o=>o }
theorem laidWorld_met (os:Os) (args:Array Value):laidMetH Tryz.prog Rows.resolveHoldsUptoRow.laid ((laidWorld os).forCall (fun _ _=>0) ⟨#[],args,[]⟩).memory:=
  laidMetH_of_parts (laidMet_nil _ _) (by kernel_rfl)
end
end Go.Proofs.YtiehgnlnofhbaaaGreatDoor
