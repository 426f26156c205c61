/-
  PROVED HERE: lemmas and contracts of functions (texts of this repo, joined; what the claim does not use is left out): GE, Hm, Fam, Ld, Fw, Ms, Hn, Ho, ShelfK, Free, HeapMath, Up, Down, PushPop, TabMath, Tab, Tq, TKt, TabT, Hp, Hs, Hi, Hj, Hk, Hl, Hq, Hr, Ht, Hu, TabMath2, Hv, Hw, Hx, Op, Hy, Hz, Ac, Row, GO, GEnter, GR, GRead, GP.
  CONDITIONS: as the theorems say.
-/
import Derived.Test.YtbnfiigafobejaaGreatMWmemory1
import Derived.Maps.OwnOps
import Derived.Shelf.SlGeneric
import Derived.Shelf.SlIterI.Nil
import Derived.Shelf.SortM.Plain
import Derived.Shelf.SortM.SortNone
import Derived.Ground.GgzProg
import Derived.Ground.SlgmProg
import Derived.Test.YtbnfiigafobejaaGreatProg
import Derived.RegionTactic
import Derived.Deep.QuietTactic
import Derived.BigQuiet
import Derived.BigRegion
import Derived.StillTailTactics
import Derived.WalkSpells
import Derived.Outline
import Derived.Deep.AppendLies
import Derived.Deep.RegionLaw
import Derived.LoopTactic
import Derived.LaidEqlPtr
import Derived.Lib.Split
import Derived.Test.YtbnfiigafobejaaGreatRows
import Derived.ProofKit
import Derived.OpenShut
import Derived.Carry
import Derived.Deep.Slices
set_option maxRecDepth 100000
set_option maxHeartbeats 4000000
namespace Go.Proofs.YtbnfiigafobejaaGreat
section
open Go.RowKit Go.Maps
def jA (x y:ByteArray):Prop:=(Op.bytesLess x.toList y.toList || (x.toList == y.toList))=true
instance (x y:ByteArray):Decidable (jA x y):=inferInstanceAs (Decidable (_=true))
theorem NU (x y:ByteArray):Value.bool (Op.bytesLess x.toList y.toList || (x.toList == y.toList))=Value.bool (decide (jA x y)):=by
 grind [jA]
theorem Qy {x:ByteArray}:jA x ⟨#[]⟩↔x=⟨#[]⟩:=by
 unfold jA
 rw [Eg]
 have h1:(⟨#[]⟩:ByteArray).toList=[]:=by rw [Lib.toList_data]
 have h2:Op.bytesLess x.toList (⟨#[]⟩:ByteArray).toList=false:=by
  rw [h1]
  cases x.toList<;>rfl
 rw [h2]
 simp
def cq (ns:List aO) (z:Int):Nat:=(gJ ns z).toNat
theorem mW {ns:List aO} {z:Int} (h:0<=gJ ns z):cq ns z<ns.length/\(nd ns (cq ns z)).id=z/\gJ ns z=(cq ns z:Int):=by
 unfold cq
 unfold gJ at h ⊢
 cases hf:ns.findIdx? (λn=>n.id == z) with
 |none=>rw [hf] at h;simp at h
 |some k=>
   rw [ahY] at hf
   grind [nd]
theorem CM {ns:List aO} {z:Int} (h:¬0<=gJ ns z):gJ ns z = -1:=by
 grind [gJ]
def bU (ns:List aO) (i j:Nat):fH:=en (nd ns i).ah j
def Al (ns:List aO) (i:Nat):Nat->ByteArray
 |0=>⟨#[]⟩
 |j+1=>(bU ns i j).name
structure xq (ns:List aO) (i j:Nat):Prop where
 at_:0<=gJ ns (bU ns i j).id
 good:cA (bU ns i j).name
 ord:¬jA (bU ns i j).name (Al ns i j)
def Rq (ns:List aO) (i j:Nat):List (Nat×Nat):=if (nd ns (cq ns (bU ns i j).id)).kind=2 then [(cq ns (bU ns i j).id,i)] else []
def iu (ns:List aO) (i:Nat):Nat->List (Nat×Nat)
 |0=>[]
 |j+1=>Rq ns i j++iu ns i j
def jo (ns:List aO):Nat->List (Nat×Nat)
 |0=>[]
 |i+1=>iu ns i (nd ns i).ah.length++jo ns i
def lu (ns:List aO) (p:Nat×Nat):Int×Int:=((nd ns p.1).id,(nd ns p.2).id)
theorem Vd {ns:List aO} {i j m:Nat} (h:j<=m):∃l,iu ns i m=l++iu ns i j:=by
 induction m with
 |zero=>exact⟨[],by rw [Nat.le_zero.1 h];rfl⟩
 |succ m ih=>
   rcases Nat.lt_or_ge m j with h1|h1
   ·have:j=m+1:=zc
    subst this
    exact⟨[],rfl⟩
   grind [Rq,iu]
theorem Ve {ns:List aO} {i m:Nat} (h:i<=m):∃l,jo ns m=l++jo ns i:=by
 induction m with
 |zero=>exact⟨[],by rw [Nat.le_zero.1 h];rfl⟩
 |succ m ih=>
   rcases Nat.lt_or_ge m i with h1|h1
   ·have:i=m+1:=zc
    subst this
    exact⟨[],rfl⟩
   grind [iu,nd,jo]
theorem Ey {l:List (Nat×Nat)} {k:List (Nat×Nat)} (h:((l++k).map Prod.fst).Nodup):(k.map Prod.fst).Nodup:=by
 grind
theorem dH.inj {ns:List aO} (hr:dH ns) {a b:Nat} (ha:a<ns.length) (hb:b<ns.length) (h:(nd ns a).id=(nd ns b).id):a=b:=by
 rcases ah4 a b with h1|h1|h1
 all_goals grind [dH,nd]
theorem Rs {ns:List aO} {ps:List (Nat×Nat)} {k:Nat} (h:up (ps.map (lu ns)) (nd ns k).id=none):k∉ps.map Prod.fst:=by
 unfold up at h
 induction ps with
 |nil=>simp
 |cons p ps ih=>
   grind [lu,nd]
theorem Rt {ns:List aO} {ps:List (Nat×Nat)} {k:Nat} {y:Int} (hr:dH ns) (hk:k<ns.length) (hp:∀p,p∈ps->p.1<ns.length) (h:up (ps.map (lu ns)) (nd ns k).id=some y):k∈ps.map Prod.fst/\∃p,p∈ps/\p.1=k/\y=(nd ns p.2).id:=by
 unfold up at h
 induction ps with
 |nil=>cases h
 |cons p ps ih=>
   obtain⟨a,b⟩:=p
   rw [ahM,lu,List.lookup_cons] at h
   by_cases e:((nd ns k).id == (nd ns a).id)=true
   ·rw [e] at h
    cases h
    have:k=a:=hr.inj hk (hp (a,b) (ahr ..)) (by simpa using e)
    subst this
    exact⟨ahd,(k,b),ahr ..,rfl,rfl⟩
   grind
def bf (A:Option Addr) (ns:List aO) (k:Nat) (z:Int):Option Value:=if 0<=gJ ns z/\gJ ns z<k then some (.pointer (some ⟨br A,bq A+cq ns z*10,none⟩)) else none
structure Dk (ns:List aO) (i:Nat) (ps:List (Nat×Nat)):Prop where
 ah:∀j,j<(nd ns i).ah.length->xq ns i j
 nodup:((iu ns i (nd ns i).ah.length++ps).map Prod.fst).Nodup
theorem aeT {A:Option Addr} {ns:List aO} {k:Nat} {z:Int} (h:0<=gJ ns z) (hk:cq ns z<k):mf (bf A ns k) (.int .i64 z)=some (.pointer (some ⟨br A,bq A+cq ns z*10,none⟩)):=
 ahf ⟨h,by rw [(mW h).2.2];omega⟩
theorem abN {A:Option Addr} {ns:List aO} {k:Nat} {z:Int} (h:¬0<=gJ ns z):mf (bf A ns k) (.int .i64 z)=none:=ahe (λe=>h e.1)
theorem NV (ns:List aO) (i j:Nat):(iu ns i j).length<=j:=by
 induction j with
 |zero=>exact aho _
 |succ j ih=>
   grind [iu,Rq]
theorem rH {ns:List aO} {i j:Nat} (h:¬(nd ns (cq ns (bU ns i j).id)).kind=2):iu ns i (j+1)=iu ns i j:=by
 rw [iu,Rq,ahe h];rfl
theorem qD {ns:List aO} {i j:Nat} (h:(nd ns (cq ns (bU ns i j).id)).kind=2):iu ns i (j+1)=(cq ns (bU ns i j).id,i)::iu ns i j:=by
 rw [iu,Rq,ahf h];rfl
theorem Cw {ns:List aO} {i j:Nat} {ps:List (Nat×Nat)} (h:Dk ns i ps) (hj:j<(nd ns i).ah.length) (hk:(nd ns (cq ns (bU ns i j).id)).kind=2):cq ns (bU ns i j).id∉(iu ns i j++ps).map Prod.fst:=by
 obtain⟨l,hl⟩:=Vd (ns:=ns) (i:=i) (show j+1<=(nd ns i).ah.length from hj)
 have h1:=h.nodup
 grind [Ey,qD]
theorem Yb {ns:List aO} {i j:Nat} {ps:List (Nat×Nat)} (hat:0<=gJ ns (bU ns i j).id) (hk:(nd ns (cq ns (bU ns i j).id)).kind=2) :
 ql (mf (pf ((iu ns i j++ps).map (lu ns)))) (.int .i64 (bU ns i j).id) (some (.int .i64 (nd ns i).id))=mf (pf ((iu ns i (j+1)++ps).map (lu ns))):=by
 rw [NA,qD hk,ahU,ahM,lu,(mW hat).2.1,abL]
theorem Yc {ns:List aO} {i j:Nat} {ps:List (Nat×Nat)} {f:Lit->Option Value} {kl:Lit} (hf:f kl=none) (hk:(nd ns (cq ns (bU ns i j).id)).kind=2) :
 (if (f kl).isSome then (iu ns i j++ps).length else (iu ns i j++ps).length+1)=(iu ns i (j+1)++ps).length:=by
 rw [hf,qD hk]
 rfl
theorem Ta {ns:List aO} {i j:Nat} {ps:List (Nat×Nat)} (hat:0<=gJ ns (bU ns i j).id) (hk:(nd ns (cq ns (bU ns i j).id)).kind=2) (hup:up ((iu ns i j++ps).map (lu ns)) (bU ns i j).id=none) (h:((iu ns i j++ps).map Prod.fst).Nodup) :
 ((iu ns i (j+1)++ps).map Prod.fst).Nodup:=by
 grind [qD,Rs,mW,gJ,bU,nd,cq,up,iu,lu]
theorem NW {ns:List aO} {i j:Nat} (h:∀t,t<j->xq ns i t):∀p,p∈iu ns i j->p.1<ns.length/\p.2=i:=by
 induction j with
 |zero=>intro p hp;cases hp
 |succ j ih=>
   intro p hp
   rw [iu] at hp
   rcases ahE.1 hp with hp|hp
   ·unfold Rq at hp
    split at hp
    ·rw [ahO.1 hp]
     exact⟨(mW (h j (ahI j)).at_).1,rfl⟩
    cases hp
   exact ih (λt ht=>h t zc) p hp
theorem Qz {ns:List aO} {i j:Nat} {ps:List (Nat×Nat)} {y:Int} (hr:dH ns) (ax:∀p,p∈ps->p.1<ns.length) (hok:∀t,t<j->xq ns i t) (hat:0<=gJ ns (bU ns i j).id) (hk:(nd ns (cq ns (bU ns i j).id)).kind=2)
 (hup:up ((iu ns i j++ps).map (lu ns)) (bU ns i j).id=some y) (hj:j<(nd ns i).ah.length):¬Dk ns i ps:=λh=>by
 refine Cw h hj hk ?_
 rw [←(mW hat).2.1] at hup
 refine (Rt hr (mW hat).1 (λp hp=>?_) hup).1
 rcases ahE.1 hp with hp|hp
 ·exact (NW hok p hp).1
 exact ax p hp
end
section
open Go.RowKit
structure Th where
 k:Nat
 kind:Int
deriving Inhabited,DecidableEq
abbrev ja (α:Type):=List (ByteArray×α)
structure bM where
 id:Int
 mode:Int
 bg:Int
 bh:Int
 aU:Int
 aJ:Int
 aV:Int
 aK:Int
 aH:Bool
 kind:Int
 data:List UInt8
 target:ByteArray
 ah:ja Th
 up:Option Nat
deriving Inhabited
abbrev eu:=Nat->bM
def af (O:eu) (k:Nat):bM:=O k
def aZ (O:eu) (k:Nat) (f:bM->bM):eu:=λi=>if i=k then f (O i) else O i
section ql
variable {O:eu} {k j:Nat} {f g:bM->bM}
theorem fB:af (aZ O k f) k=f (af O k):=ahf rfl
theorem jb (h:j≠k):af (aZ O k f) j=af O j:=ahe h
theorem ko:af (aZ O k f) j=if j=k then f (af O j) else af O j:=rfl
theorem abO (h:f (af O k)=af O k):aZ O k f=O:=by
 grind [af,aZ]
theorem Bv:aZ (aZ O k f) k g=aZ O k (λo=>g (f o)):=by
 grind [aZ]
end ql
section ah
variable {α:Type} {n p:ByteArray} {t:α} {es:ja α}
def bN (n:ByteArray) (es:ja α):Option α:=(es.find? (λe=>decide (e.1=n))).map (·.2)
def kO (n:ByteArray) (t:α):ja α->ja α
 |[]=>[(n,t)]
 |e::r=>if ¬jA e.1 n then (n,t)::e::r else e::kO n t r
def kE (n:ByteArray) (es:ja α):ja α:=es.filter (λe=>decide (e.1≠n))
theorem qq {e:ByteArray×α}:bN n (e::es)=if e.1=n then some e.2 else bN n es:=by
 grind [bN]
theorem Dl:bN n es=none↔∀e∈es,e.1≠n:=by
 unfold bN
 rw [Option.map_eq_none_iff,List.find?_eq_none]
 simp
theorem rI {es:ja α} (h:bN n es=some t):(n,t)∈es:=by
 unfold bN at h
 obtain⟨e,h1,h2⟩:=Option.map_eq_some_iff.1 h
 grind
theorem NY:∀{es:ja α},(kO n t es).length=es.length+1
 |[]=>rfl
 |e::r=>by
   unfold kO
   split
   ·rfl
   rw [ahQ,NY];rfl
theorem Ez (hn:bN n es=none):bN p (kO n t es)=if p=n then some t else bN p es:=by
 induction es with
 |nil=>
   grind [kO,qq]
 |cons e r ih=>
   grind [qq,kO]
theorem xS:bN p (kE n es)=if p=n then none else bN p es:=by
 grind [kE,bN,qq]
def qf (es:ja α):Prop:=es.Pairwise (λa b=>a.1≠b.1)
theorem Ye {es:ja α} (hd:qf es) (h:bN n es=some t):(kE n es).length+1=es.length:=by
 induction es with
 |nil=>cases h
 |cons e r ih=>
   obtain⟨h1,h2⟩:=ahw.1 hd
   rw [qq] at h
   unfold kE at ih ⊢
   rw [List.filter_cons]
   by_cases he:e.1=n
   ·rw [ahe (by simp [he])]
    have:r.filter (λe=>decide (e.1≠n))=r:=List.filter_eq_self.2 (λx hx=>Pe)
    rw [this];rfl
   grind [qf,bN,kE]
theorem Hr {e:ByteArray×α}:∀{es:ja α},e∈kO n t es↔e=(n,t)\/e∈es
 |[]=>by simp [kO]
 |x::r=>by
   unfold kO
   split
   ·simp
   rw [aht,Hr,aht]
   constructor
   ·rintro (h|h|h)
    ·exact .inr (.inl h)
    ·exact .inl h
    exact .inr (.inr h)
   rintro (h|h|h)
   ·exact .inr (.inl h)
   ·exact .inl h
   exact .inr (.inr h)
end ah
section sat
variable {β:Bs} {l:List HP} {w:World} {p p1 p2:HP} {i:Nat}
theorem aR.aaL (h:aR β l w) (hp:l[i]?=some p) (hs:∀F,p.h F w->∃F1 F2,p1.h F1 w/\p2.h F2 w/\Apart F1 F2/\∀k,F k↔F1 k\/F2 k):aR β (l.set i p1++[p2]) w:=by
 obtain⟨ho,φ,h1,h2,h3⟩:=h
 obtain⟨F1,F2,g1,g2,g3,g4⟩:=hs _ (h1 i p hp)
 have hi:=dF hp
 have jy:(l.set i p1++[p2]).length=l.length+1:=ahd
 refine⟨ho,λj=>if j=l.length then F2 else if j=i then F1 else φ j,λj q hq=>?_,λj hj k hk hO=>?_,λa b ha hb bV k hk iB=>?_⟩
 all_goals grind [dF,aR,Apart]
theorem aR.aaM {j:Nat} {ar:List Nat} {l':List HP} (h:aR β l w) (hp:l[i]?=some p1) (hq:l[j]?=some p2) (hn:cC (i::j::ar)=true) (hl:cW l ar=some l') (hs:∀F1 F2,p1.h F1 w->p2.h F2 w->Apart F1 F2->∃F,p.h F w/\∀k,F k->F1 k\/F2 k):aR β (p::l') w:=by
 have h':=h.pick (ar:=i::j::ar) (l':=p1::p2::l') hn (by simp only [cW,hp,hq,hl])
 obtain⟨ho,φ,h1,h2,h3⟩:=h'
 obtain⟨F,hF,hk⟩:=hs _ _ (h1 0 p1 rfl) (h1 1 p2 rfl) (h3 0 1 ahd ahd Pd)
 have jy:(p1::p2::l').length=l'.length+2:=rfl
 rw [jy] at h2 h3
 refine⟨ho,λj=>if j=0 then F else φ (j+1),λj q hq=>?_,λj hj k hkk hO=>?_,λa b ha hb bV k hk1 hk2=>?_⟩
 ·grind
 ·grind
 simp only [ahQ] at ha hb
 have key:∀j,j<l'.length->F k->φ (j+2) k->False:=λj hj e1 e2=>by
  rcases hk k e1 with e|e
  ·exact h3 0 (j+2) zc zc zc k e e2
  exact h3 1 (j+2) zc zc zc k e e2
 cases a with
 |zero=>
   cases b with
   |zero=>exact bV rfl
   |succ b=>exact key b zc (by simpa using hk1) (by simpa using hk2)
 |succ a=>
   cases b with
   |zero=>exact key a zc (by simpa using hk2) (by simpa using hk1)
   |succ b=>exact h3 (a+2) (b+2) zc zc zc k (by simpa using hk1) (by simpa using hk2)
end sat
def iL (R:Nat->dV) (n:Nat):dV where
 h F w:=∃φ:Nat->Fp,(∀i,i<n->(R i).h (φ i) w)/\(∀i j,i<n->j<n->i≠j->Apart (φ i) (φ j))/\∀k,F k↔∃i,i<n/\φ i k
 lt:=λ⟨_,h1,_,h3⟩ k hk=>let ⟨i,hi,hk⟩:=(h3 k).1 hk;(R i).lt (h1 i hi) k hk
 st:=λ⟨φ,h1,h2,h3⟩ _ _ hk hn=>⟨φ,λi hi=>(R i).st (h1 i hi) hk (λk hk=>hn k ((h3 k).2 ⟨i,hi,hk⟩)),h2,h3⟩
def dV.none:dV where
 h F _:=∀k,¬F k
 lt:=λh k hk=>ahh hk (h k)
 st:=λh _ _ _ _=>h
def nU (R:Nat->dV) (k:Nat) (a:dV):Nat->dV:=λi=>if i=k then a else R i
section N0
variable {β:Bs} {l l':List HP} {w:World} {i n k:Nat} {R R':Nat->dV} {a:dV}
theorem iL.nil (R:Nat->dV) (w:World):(HP.abs (iL R 0)).h (λ_=>False) w:=⟨λ_ _=>False,λi hi=>ahh hi (ahm i),λi _ hi=>ahh hi (ahm i),λ_=>⟨λh=>h.elim,λ⟨i,hi,_⟩=>ahh hi (ahm i)⟩⟩
theorem aR.EA (h:aR β l w) (R:Nat->dV):aR β (l++[.abs (iL R 0)]) w:=aR.new h (iL.nil R w) (cK.refl _ _) (λ_ h=>h.elim)
theorem aR.Ru (h:aR β l w) (hp:l[i]?=some (.abs (iL R n))) (hk:k<n):aR β (l.set i (.abs (iL (nU R k dV.none) n))++[.abs (R k)]) w:=by
 refine h.aaL hp ?_
 rintro F ⟨φ,h1,h2,h3⟩
 refine⟨λx=>∃i,i<n/\i≠k/\φ i x,φ k,⟨λi=>if i=k then λ_=>False else φ i,λi hi=>?_,λi j hi hj bV x hx hy=>?_,λx=>⟨λ⟨i,hi,bV,hx⟩=>⟨i,hi,by simpa [bV] using hx⟩,λ⟨i,hi,hx⟩=>?_⟩⟩,h1 k hk,λx ⟨i,hi,bV,hx⟩ hy=>h2 i k hi hk bV x hx hy,λx=>⟨λhx=>?_,λhx=>?_⟩⟩
 ·unfold nU
  by_cases e:i=k
  ·simp only [e,if_true];exact λ_ h=>h
  simp only [e,if_false];exact h1 i hi
 ·by_cases e1:i=k
  ·simp [e1] at hx
  by_cases e2:j=k
  ·simp [e2] at hy
  exact h2 i j hi hj bV x (by simpa [e1] using hx) (by simpa [e2] using hy)
 ·by_cases e1:i=k
  ·simp [e1] at hx
  exact⟨i,hi,e1,by simpa [e1] using hx⟩
 all_goals grind
theorem aR.tK {j:Nat} {ar:List Nat} (h:aR β l w) (hp:l[i]?=some (.abs (iL R n))) (hq:l[j]?=some (.abs a)) (hn:cC (i::j::ar)=true) (hl:cW l ar=some l') (hR:∀x,x<n->R' x=R x) (ha:R' n=a):aR β (.abs (iL R' (n+1))::l') w:=by
 refine h.aaM hp hq hn hl ?_
 rintro F1 F2 ⟨φ,h1,h2,h3⟩ hF hap
 refine⟨λx=>F1 x\/F2 x,⟨λi=>if i=n then F2 else φ i,λi hi=>?_,λi j hi hj bV x hx hy=>?_,λx=>⟨λhx=>?_,λ⟨i,hi,hx⟩=>?_⟩⟩,λx hx=>hx⟩
 ·by_cases e:i=n
  ·subst e;simp only [if_true];rw [ha];exact hF
  grind
 ·by_cases e1:i=n
  ·by_cases e2:j=n
   ·exact bV (e1.trans e2.symm)
   simp only [e1,if_true] at hx
   simp only [e2,if_false] at hy
   exact hap x ((h3 x).2 ⟨j,zc,hy⟩) hx
  simp only [e1,if_false] at hx
  by_cases e2:j=n
  ·simp only [e2,if_true] at hy
   exact hap x ((h3 x).2 ⟨i,zc,hx⟩) hy
  simp only [e2,if_false] at hy
  exact h2 i j zc zc bV x hx hy
 ·rcases hx with hx|hx
  ·grind
  exact⟨n,ahI n,by simpa using hx⟩
 grind
theorem iL.base {F:Fp} {β':Bs} (h:(HP.abs (iL R n)).h F w) (h1:∀k,F k->β'.O k) (_:β'.w0=w) {Φ:Nat->Bs->Prop} (Li:∀i,i<n->∀F,(R i).h F w->(∀k,F k->β'.O k)->Φ i β'):∀i,i<n->Φ i β':=by
 obtain⟨φ,g1,_,g3⟩:=h
 grind
end N0
section Db
variable {P:Program} {β:Bs} {N:fQ} {ops:Array Oper} {S:List HP} {l:List Nat} {fr:Fr} {ax:List HP} {Q:Post} {i:Nat}
end Db
structure mX (β:Bs) (R:List HP) (β':Bs):Prop where
 le:β.le β'
 fp:∃φ:Nat->Fp,(∀(i:Nat) (p:HP),R[i]?=some p->p.h (φ i) β'.w0/\∀k,φ i k->β'.O k)/\(∀i,i<R.length->∀k,φ i k->¬β.O k)/\(∀i j,i<R.length->j<R.length->i≠j->Apart (φ i) (φ j))/\∀k,β'.O k->β.O k\/∃i,i<R.length/\φ i k
section Yf
variable {β β' kx:Bs} {l R:List HP} {w:World} {p:HP} {i:Nat}
theorem mX.get (h:mX β R β') (i:Nat) (hp:R[i]?=some p):∃F,p.h F β'.w0/\∀k,F k->β'.O k:=by
 obtain⟨φ,h1,_⟩:=h.fp
 exact⟨φ i,h1 i p hp⟩
theorem aR.turn {a b:List HP} (h:aR β (a++b) w):aR β (b++a) w:=by
 obtain⟨ho,φ,h1,h2,h3⟩:=h
 have hl:(a++b).length=a.length+b.length:=ahl
 have hl':(b++a).length=b.length+a.length:=ahl
 refine⟨ho,λi=>if i<b.length then φ (a.length+i) else φ (i-b.length),λi p hp=>?_,λi hi k hk hO=>?_,λi j hi hj bV k hk iB=>?_⟩
 ·grind
 ·grind
 by_cases e1:i<b.length
 ·simp only [e1,if_true] at hk
  by_cases e2:j<b.length
  ·simp only [e2,if_true] at iB
   exact h3 _ _ zc zc zc k hk iB
  simp only [e2,if_false] at iB
  exact h3 _ _ zc zc zc k hk iB
 simp only [e1,if_false] at hk
 by_cases e2:j<b.length
 ·simp only [e2,if_true] at iB
  exact h3 _ _ zc zc zc k hk iB
 simp only [e2,if_false] at iB
 exact h3 _ _ zc zc zc k hk iB
theorem aR.sZ (h:aR β (l++R) w):∃β',mX β R β'/\β'.w0=w/\aR β' l w:=by
 obtain⟨ho,φ,h1,h2,h3⟩:=h
 have hl:(l++R).length=l.length+R.length:=ahl
 have hR:∀(i:Nat) (p:HP),R[i]?=some p->p.h (φ (l.length+i)) w:=Pe
 refine⟨⟨λk=>β.O k\/∃i,i<R.length/\φ (l.length+i) k,w⟩,⟨⟨λk hk=>.inl hk,ho.os,ho.tape,ho.output,ho.size,λk hk=>ho.old k hk⟩,λi=>φ (l.length+i),λi p hp=>⟨hR i p hp,λk hk=>.inr ⟨i,dF hp,hk⟩⟩,λi hi=>h2 _ zc,λi j hi hj bV=>h3 _ _ zc zc zc,λk hk=>hk⟩,rfl,⟨rfl,rfl,rfl,aho _,λk hk=>⟨?_,rfl⟩⟩,φ,λi p hp=>h1 i p (by rw [ah7 (dF hp)];exact hp),λi hi k hk hO=>?_,λi j hi hj bV=>h3 i j zc zc bV⟩
 ·rcases hk with hk|⟨i,hi,hk⟩
  ·exact ahA (ho.old k hk).1 ho.size
  obtain⟨p,hp⟩:=lq hi
  exact HP.lt (hR i p hp) k hk
 rcases hO with hO|⟨j,hj,hO⟩
 ·exact h2 i zc k hk hO
 exact h3 i (l.length+j) zc zc zc k hk hO
theorem mX.back (h:mX β R β') (hS:aR β' l w):aR β (l++R) w:=by
 obtain⟨dW,φ,g1,g2,g3,g4⟩:=h
 obtain⟨ho,ψ,h1,h2,h3⟩:=hS
 have hl:(l++R).length=l.length+R.length:=ahl
 have hin:∀i,i<R.length->∀k,φ i k->β'.O k:=λi hi k hk=>by
  obtain⟨p,hp⟩:=lq hi
  exact (g1 i p hp).2 k hk
 have hk:∀i,i<R.length->cK (λk=>¬φ i k) β'.w0 w:=λi hi=>⟨ho.os,ho.tape,ho.output,ho.size,λk _ hn=>(ho.old k (hin i hi k (ain.1 hn))).2⟩
 refine⟨ho.le dW,λi=>if i<l.length then ψ i else φ (i-l.length),λi p hp=>?_,λi hi k hk hO=>?_,λi j hi hj bV k hk iB=>?_⟩
 ·grind [HP.st,dF]
 ·by_cases e:i<l.length
  ·simp only [e,if_true] at hk
   exact h2 i e k hk (dW.O k hO)
  grind
 by_cases e1:i<l.length
 ·simp only [e1,if_true] at hk
  by_cases e2:j<l.length
  ·simp only [e2,if_true] at iB
   exact h3 i j e1 e2 bV k hk iB
  grind
 simp only [e1,if_false] at hk
 by_cases e2:j<l.length
 ·grind
 simp only [e2,if_false] at iB
 exact g3 _ _ zc zc zc k hk iB
end Yf
section rules
variable {P:Program} {β β' kx:Bs} {N:fQ} {ops:Array Oper} {k:Nat} {fr:Fr} {ax l R:List HP} {Q:Post} {c:Code} {e:Exit} {pk:List Nat} {f:FuncId} {args:Array Value} {pre:List HP}
theorem av.sZ (R:List HP) (pk:List Nat) (hn:cC pk=true) (hp:cW ax pk=some (l++R)) (K:∀β':Bs,β.le β'->β'.le β'->mX β R β'->av P β' N ops k fr l Q):av P β N ops k fr ax Q:=λai w hS=>by
 obtain⟨β',h,_,jh⟩:=(hS.pick hn hp).sZ
 exact K β' h.le jh.1.Rk h ai w jh
end rules
def aW (R:Nat->dV):dV where
 h F w:=∃φ:Nat->Fp,(∀i,(R i).h (φ i) w)/\(∀i j,i≠j->Apart (φ i) (φ j))/\∀k,F k↔∃i,φ i k
 lt:=λ⟨_,h1,_,h3⟩ k hk=>let ⟨i,hk⟩:=(h3 k).1 hk;(R i).lt (h1 i) k hk
 st:=λ⟨φ,h1,h2,h3⟩ _ _ hk hn=>⟨φ,λi=>(R i).st (h1 i) hk (λk hk=>hn k ((h3 k).2 ⟨i,hk⟩)),h2,h3⟩
section N0
variable {β:Bs} {l l':List HP} {w:World} {i n k:Nat} {R R':Nat->dV} {a:dV}
theorem aW.at (k:Nat) {F:Fp} {w:World} (h:(aW R).h F w):∃G,(R k).h G w:=by
 obtain⟨φ,h1,_⟩:=h
 exact⟨φ k,h1 k⟩
theorem aR.M5 (h:aR β l w) (R:Nat->dV) (hR:∀k,R k=dV.none):aR β (l++[.abs (aW R)]) w:=aR.new h (p:=.abs (aW R)) (F:=λ_=>False) ⟨λ_ _=>False,λi=>by rw [hR];exact λ_ h=>h,λ_ _ _ _ h=>h.elim,λ_=>⟨λh=>h.elim,λ⟨_,h⟩=>h⟩⟩ (cK.refl _ _) (λ_ h=>h.elim)
theorem aR.I4 (h:aR β l w) (hp:l[i]?=some (.abs (aW R))) (k:Nat):aR β (l.set i (.abs (aW (nU R k dV.none)))++[.abs (R k)]) w:=by
 refine h.aaL hp ?_
 rintro F ⟨φ,h1,h2,h3⟩
 refine⟨λx=>∃i,i≠k/\φ i x,φ k,⟨λi=>if i=k then λ_=>False else φ i,λi=>?_,λi j bV x hx hy=>?_,λx=>⟨λ⟨i,bV,hx⟩=>⟨i,by simpa [bV] using hx⟩,λ⟨i,hx⟩=>?_⟩⟩,h1 k,λx ⟨i,bV,hx⟩ hy=>h2 i k bV x hx hy,λx=>⟨λhx=>?_,λhx=>?_⟩⟩
 ·unfold nU
  by_cases e:i=k
  ·simp only [e,if_true];exact λ_ h=>h
  simp only [e,if_false];exact h1 i
 ·by_cases e1:i=k
  ·simp [e1] at hx
  by_cases e2:j=k
  ·simp [e2] at hy
  exact h2 i j bV x (by simpa [e1] using hx) (by simpa [e2] using hy)
 ·by_cases e1:i=k
  ·simp [e1] at hx
  exact⟨i,e1,by simpa [e1] using hx⟩
 all_goals grind
theorem aR.xu {j:Nat} {ar:List Nat} {q:HP} (h:aR β l w) (hp:l[i]?=some (.abs (aW R))) (hq:l[j]?=some q) (hqa:∀F w,q.h F w->a.h F w) (hn:cC (i::j::ar)=true) (hl:cW l ar=some l') (k:Nat) (hR:∀x,x≠k->R' x=R x) (ha:R' k=a):aR β (.abs (aW R')::l') w:=by
 refine h.aaM hp hq hn hl ?_
 rintro F1 F2 ⟨φ,h1,h2,h3⟩ hF hap
 refine⟨λx=>(∃i,i≠k/\φ i x)\/F2 x,⟨λi=>if i=k then F2 else φ i,λi=>?_,λi j bV x hx hy=>?_,λx=>⟨λhx=>?_,λ⟨i,hx⟩=>?_⟩⟩,λx hx=>hx.imp (λ⟨i,_,hx⟩=>(h3 x).2 ⟨i,hx⟩) id⟩
 ·grind
 ·by_cases e1:i=k
  ·by_cases e2:j=k
   ·exact bV (e1.trans e2.symm)
   simp only [e1,if_true] at hx
   simp only [e2,if_false] at hy
   exact hap x ((h3 x).2 ⟨j,hy⟩) hx
  simp only [e1,if_false] at hx
  by_cases e2:j=k
  ·simp only [e2,if_true] at hy
   exact hap x ((h3 x).2 ⟨i,hx⟩) hy
  simp only [e2,if_false] at hy
  exact h2 i j bV x hx hy
 ·rcases hx with ⟨i,bV,hx⟩|hx
  ·exact⟨i,by simpa [bV] using hx⟩
  exact⟨k,by simpa using hx⟩
 grind
end N0
end
section
open Go.RowKit Go.Maps
theorem Hs:Keyed Tryz.prog 9:=string_keyed Tryz.underlying9
theorem Kp {p:ByteArray} (h:p.size<=9223372036854775807):keyOf Tryz.prog 9 (.string p)=some (.string p.data.toList):=WideMaps.keyOf_string_mk Tryz.underlying9 (by unfold maxLen;omega)
def mS (g:ByteArray->Option Value):Lit->Option Value
 |.string l=>g ⟨l.toArray⟩
 |_=>none
theorem aeU (g:ByteArray->Option Value) (p:ByteArray):mS g (.string p.data.toList)=g p:=by
 show g ⟨p.data.toList.toArray⟩=g p
 rw [Array.toArray_toList]
theorem Vf (g:ByteArray->Option Value) (p:ByteArray) (v:Option Value):ql (mS g) (.string p.data.toList) v=mS (λq=>if q=p then v else g q):=by
 funext x
 unfold ql mS
 cases x with
 |string l=>
   by_cases e:l=p.data.toList
   ·subst e
    have e2:(⟨p.data.toList.toArray⟩:ByteArray)=p:=by rw [Array.toArray_toList]
    simp [Lit.sameKey]
   have e2:¬(⟨l.toArray⟩:ByteArray)=p:=λh=>e (by rw [←h])
   simp [Lit.sameKey,e,e2]
 |_=>rfl
theorem abP:mS (λ_=>none)=λ_=>none:=by
 funext x
 unfold mS
 split<;>rfl
def Ht (b:Nat) (cs:List Value) (T:TypeId):dV where
 h F w:=(HP.ay b cs T).h F w
 lt:=λh=>HP.lt h
 st:=λh _ _ hk hd=>HP.st h hk hd
structure HL where
 b:Nat->Nat
 m:Nat->Nat
 dA:Nat->Option Addr
 dC:Nat->Nat
def HL.data (L:HL) (k:Nat) (A:Option Addr) (c:Nat):HL:=⟨L.b,L.m,λi=>if i=k then A else L.dA i,λi=>if i=k then c else L.dC i⟩
def HL.put (L:HL) (k b m:Nat) (A:Option Addr) (c:Nat):HL:=⟨λi=>if i=k then b else L.b i,λi=>if i=k then m else L.m i,λi=>if i=k then A else L.dA i,λi=>if i=k then c else L.dC i⟩
def thT (kind:Int):TypeId:=if kind=1 then 138 else if kind=3 then 141 else 144
def sM (kind:Int):TypeId:=if kind=1 then 140 else if kind=3 then 143 else 147
def iz (L:HL) (t:Th):Value:=.iface (thT t.kind) (.pointer (some ⟨L.b t.k,0,none⟩))
def I5 (L:HL):Option Nat->Value
 |none=>.pointer none
 |some d=>.pointer (some ⟨L.b d,0,none⟩)
def FQ (o:bM):List Value:=[.int .i64 o.id,.int .i64 o.mode,.int .i64 o.bg,.int .i64 o.bh,.int .i64 o.aU,.int .i64 o.aJ,.int .i64 o.aV,.int .i64 o.aK,.bool o.aH]
def FR (L:HL) (k:Nat) (o:bM):List Value:=if o.kind=1 then [.slice (L.dA k) o.data.length (L.dC k)] else if o.kind=3 then [.string o.target] else [.map (some (L.m k)),I5 L o.up]
def lN (L:HL) (k:Nat) (o:bM):List Value:=FQ o++FR L k o
def nJ (L:HL) (es:ja Th):Lit->Option Value:=mS (λp=>(bN p es).map (iz L))
def d8 (O:eu) (L:HL) (k:Nat):dV:=if (af O k).kind=0 then dV.none else Ht (L.b k) (lN L k (af O k)) (sM (af O k).kind)
def dN (O:eu) (L:HL) (k:Nat):dV:=if (af O k).kind=1 then aG 5 1 (L.dA k) (af O k).data.length (L.dC k) (dL (af O k).data) else dV.none
def fM (O:eu) (L:HL) (k:Nat):dV:=if (af O k).kind=2 then bD Tryz.prog 9 (L.m k) (nJ L (af O k).ah) (af O k).ah.length else dV.none
section sat
variable {β:Bs} {l:List HP} {w:World} {i b:Nat} {cs:List Value} {T:TypeId} {p p':HP}
theorem aR.same (h:aR β l w) (hp:l[i]?=some p) (e:∀F w,p.h F w->p'.h F w):aR β (l.set i p') w:=by
 obtain⟨ho,φ,h1,h2,h3⟩:=h
 have hl:(l.set i p').length=l.length:=ahp ..
 refine⟨ho,φ,λj q hq=>?_,λj hj=>h2 j zc,λj k hj hk=>h3 j k zc zc⟩
 grind
end sat
section cells
variable {O:eu} {L:HL} {k j:Nat} {v:Value}
theorem rN (h:(af O k).kind≠0):d8 O L k=Ht (L.b k) (lN L k (af O k)) (sM (af O k).kind):=ahe h
theorem jc (hk:(af O k).kind≠0) (hv:(lN L k (af O k))[j]?=some v):∀F w,(aW (d8 O L)).h F w->w.cell? ⟨L.b k,j,none⟩=some v:=by
 intro F w h
 obtain⟨G,g⟩:=aW.at k h
 rw [rN hk] at g
 obtain⟨g,_⟩:=g
 exact (lZ g rfl rfl hv).1
theorem Ap (h:(af O k).kind=1):dN O L k=aG 5 1 (L.dA k) (af O k).data.length (L.dC k) (dL (af O k).data):=ahf h
theorem vl (h:(af O k).kind=2):fM O L k=bD Tryz.prog 9 (L.m k) (nJ L (af O k).ah) (af O k).ah.length:=ahf h
theorem zA (es:ja Th) (p:ByteArray):nJ L es (.string p.data.toList)=(bN p es).map (iz L):=aeU _ _
theorem Yg {es:ja Th} {p:ByteArray} {t:Th} (hn:bN p es=none):ql (nJ L es) (.string p.data.toList) (some (iz L t))=nJ L (kO p t es):=by
 grind [nJ,Vf,Ez]
theorem Yh {es:ja Th} {p:ByteArray}:ql (nJ L es) (.string p.data.toList) none=nJ L (kE p es):=by
 grind [nJ,Vf,xS]
theorem Yi:nJ L []=λ_=>none:=abP
end cells
section N0
variable {O:eu} {L:HL} {k:Nat} {f:bM->bM}
theorem CN:d8 (aZ O k f) L k=if (f (af O k)).kind=0 then dV.none else Ht (L.b k) (lN L k (f (af O k))) (sM (f (af O k)).kind):=by
 unfold d8;rw [fB]
theorem CO {x:Nat} (h:x≠k):d8 (aZ O k f) L x=d8 O L x:=by unfold d8;rw [jb h]
theorem tL (h:(f (af O k)).data=(af O k).data) (h2:(f (af O k)).kind=(af O k).kind):dN (aZ O k f) L=dN O L:=by
 grind [dN,fB,jb]
theorem tM (h:(f (af O k)).ah=(af O k).ah) (h2:(f (af O k)).kind=(af O k).kind):fM (aZ O k f) L=fM O L:=by
 grind [fM,fB,jb]
theorem EB {x:Nat} (h:x≠k):fM (aZ O k f) L x=fM O L x:=by unfold fM;rw [jb h]
theorem EC {x:Nat} (h:x≠k):dN (aZ O k f) L x=dN O L x:=by unfold dN;rw [jb h]
end N0
section kinds
variable {O:eu} {L:HL} {k j:Nat} {f:bM->bM} {o:bM}
theorem pG (hf:∀o,(f o).kind=o.kind):(af (aZ O j f) k).kind=(af O k).kind:=by
 rw [ko];split
 ·exact hf _
 rfl
theorem eT {α:Type} {g:bM->α} (hf:∀o,g (f o)=g o):g (af (aZ O j f) k)=g (af O k):=by
 rw [ko];split
 ·exact hf _
 rfl
theorem mH (h:o.kind=1):lN L k o=[.int .i64 o.id,.int .i64 o.mode,.int .i64 o.bg,.int .i64 o.bh,.int .i64 o.aU,.int .i64 o.aJ,.int .i64 o.aV,.int .i64 o.aK,.bool o.aH,.slice (L.dA k) o.data.length (L.dC k)]:=by
 unfold lN FR;rw [ahf h];rfl
theorem ED (h:o.kind=3):lN L k o=[.int .i64 o.id,.int .i64 o.mode,.int .i64 o.bg,.int .i64 o.bh,.int .i64 o.aU,.int .i64 o.aJ,.int .i64 o.aV,.int .i64 o.aK,.bool o.aH,.string o.target]:=by
 unfold lN FR;rw [ahe (by rw [h];decide),ahf h];rfl
theorem rO (h:o.kind=2):lN L k o=[.int .i64 o.id,.int .i64 o.mode,.int .i64 o.bg,.int .i64 o.bh,.int .i64 o.aU,.int .i64 o.aJ,.int .i64 o.aV,.int .i64 o.aK,.bool o.aH,.map (some (L.m k)),I5 L o.up]:=by
 unfold lN FR;rw [ahe (by rw [h];decide),ahe (by rw [h];decide)];rfl
theorem N5 {es:bM->ja Th}:d8 (aZ O k (λo=>{o with ah:=es o})) L=d8 O L:=by
 funext x
 unfold d8
 by_cases e:x=k
 ·subst e;rw [fB];rfl
 rw [jb e]
def uI (O:eu) (d:Nat) (name:ByteArray) (t:Th):eu:=
 let O1:=aZ O d (λo=>{o with ah:=kO name t o.ah})
 let O2:=aZ O1 t.k (λo=>{o with aV:=o.aV+1})
 if t.kind=2 then aZ O2 t.k (λo=>{o with up:=some d}) else O2
theorem Hu {α:Type} {g:bM->α} {d:Nat} {name:ByteArray} {t:Th} (h1:∀o es,g {o with ah:=es}=g o) (h2:∀o l,g {o with aV:=l}=g o) (h3:∀o u,g {o with up:=u}=g o):g (af (uI O d name t) k)=g (af O k):=by
 unfold uI
 simp only
 split
 ·rw [eT (λo=>h3 o _),eT (λo=>h2 o _),eT (λo=>h1 o _)]
 rw [eT (λo=>h2 o _),eT (λo=>h1 o _)]
theorem EF {d:Nat} {name:ByteArray} {t:Th}:(af (uI O d name t) k).kind=(af O k).kind:=Hu (g:=bM.kind) (λ_ _=>rfl) (λ_ _=>rfl) (λ_ _=>rfl)
structure FM where
 cN:Int
 cB:Int
 cH:Int
 cS:Int
 cZ:Int
 last:Int
 ah:Int
 used:Int
def xT (X:FM) (O:eu) (d:Nat):eu:=aZ O d (λo=>{o with aU:=X.cS,aJ:=X.cZ})
def dg (X:FM) (O:eu) (d:Nat) (name:ByteArray) (t:Th):eu:=xT X (uI O d name t) d
def bw (X:FM) (O:eu) (d:Nat) (name:ByteArray) (t:Th):eu:=aZ (xT X (aZ O d (λo=>{o with ah:=kE name o.ah})) d) t.k (λo=>{o with aV:=o.aV-1})
theorem fN {X:FM} {d:Nat} {name:ByteArray} {t:Th}:(af (bw X O d name t) k).kind=(af O k).kind:=by
 unfold bw xT
 exact (pG (f:=λo=>{o with aV:=o.aV-1}) (λ_=>rfl)).trans ((pG (f:=λo=>{o with aU:=X.cS,aJ:=X.cZ}) (λ_=>rfl)).trans (pG (f:=λo=>{o with ah:=kE name o.ah}) (λ_=>rfl)))
theorem QA {X:FM} {d:Nat} {name:ByteArray} {t:Th}:(af (dg X O d name t) k).kind=(af O k).kind:=by
 grind [dg,xT,pG,EF]
end kinds
section sat
variable {β:Bs} {l l':List HP} {w:World} {i j k:Nat} {O:eu} {L:HL} {f:bM->bM} {cs:List Value} {T:TypeId} {ar:List Nat}
theorem aR.EG (h:aR β l w) (hp:l[i]?=some (.abs (aW (d8 O L)))) (h0:(af O k).kind≠0) (hc:lN L k (af O k)=cs) (hT:sM (af O k).kind=T):aR β (l.set i (.abs (aW (nU (d8 O L) k dV.none)))++[.ay (L.b k) cs T]) w:=by
 have h1:=h.I4 hp k
 have jy:(l.set i (HP.abs (aW (nU (d8 O L) k dV.none)))).length=l.length:=ahp ..
 have h2:=aR.same (i:=l.length) (p:=.abs (d8 O L k)) (p':=.ay (L.b k) cs T) h1 (by rw [ah6 zc,jy,Nat.sub_self];rfl) (λF w h=>by
  have h3:(d8 O L k).h F w:=h
  rw [rN h0] at h3
  have h3:(Ht (L.b k) (lN L k (af O k)) (sM (af O k).kind)).h F w:=h3
  rw [hc,hT] at h3
  exact h3)
 have e:∀(a:List HP) (x y:HP),(a++[x]).set a.length y=a++[y]:=λa x y=>ahd
 grind
theorem aR.FT {R:Nat->dV} (h:aR β l w) (hp:l[i]?=some (.abs (aW R))) (hR:∀x,x≠k->R x=d8 O L x) (hq:l[j]?=some (.ay (L.b k) cs T)) (hd:cC (i::j::ar)=true) (hl:cW l ar=some l') (h0:(f (af O k)).kind≠0) (hc:lN L k (f (af O k))=cs) (hT:sM (f (af O k)).kind=T):aR β (.abs (aW (d8 (aZ O k f) L))::l') w:=by
 refine h.xu (a:=Ht (L.b k) cs T) hp hq (λ_ _ h=>h) hd hl k (λx hx=>?_) (by rw [CN,ahe h0,hc,hT])
 rw [CO hx,hR x hx]
theorem vm {R:Nat->dV} {a:dV} {x:Nat} (h:x≠k):nU R k a x=R x:=ahe h
theorem aR.ac2 (h:aR β l w) (hp:l[i]?=some (.abs (aW (fM O L)))) (hd:(af O k).kind=2):aR β (l.set i (.abs (aW (nU (fM O L) k dV.none)))++[.abs (bD Tryz.prog 9 (L.m k) (nJ L (af O k).ah) (af O k).ah.length)]) w:=by
 have h1:=h.I4 hp k
 rw [vl hd] at h1
 exact h1
theorem aR.ac3 (h:aR β l w) (hp:l[i]?=some (.abs (aW (nU (fM O L) k dV.none)))) (hq:l[j]?=some (.abs (bD Tryz.prog 9 (L.m k) (nJ L (af O k).ah) (af O k).ah.length))) (hd:cC (i::j::ar)=true) (hl:cW l ar=some l') (h2:(af O k).kind=2):aR β (.abs (aW (fM O L))::l') w:=
 h.xu hp hq (λ_ _ h=>h) hd hl k (λ_ hx=>(vm hx).symm) (vl h2)
theorem aR.Vg (h:aR β l w) (hp:l[i]?=some (.abs (aW (dN O L)))) (hd:(af O k).kind=1):aR β (l.set i (.abs (aW (nU (dN O L) k dV.none)))++[.abs (aG 5 1 (L.dA k) (af O k).data.length (L.dC k) (dL (af O k).data))]) w:=by
 have h1:=h.I4 hp k
 rw [Ap hd] at h1
 exact h1
end sat
end
end Go.Proofs.YtbnfiigafobejaaGreat
section
namespace Go.Proofs
open Go.Shelf
def Tryz.keysI_ren:Go.Shelf.Ren:=⟨fun|7=>67|10=>93|n=>n,fun|23=>129|26=>3|3=>133|28=>153|0=>0|27=>152|33=>185|4=>4|n=>n,fun|n=>n⟩
theorem Tryz.keysI:Go.Proofs.SlLaysZI.n7 Tryz.prog Tryz.keysI_ren:={
 mixed:=by kernel_rfl
 f7:=⟨Tryz.f67.name,by decide,Tryz.func67.trans (congrArg some (by kernel_rfl))⟩
 f10:=⟨Tryz.f93.name,by decide,Tryz.func93.trans (congrArg some (by kernel_rfl))⟩
 t0:=Tryz.underlying0
 a0:=Tryz.isAgg0
 z0:=Tryz.sizeOf0
 v0:=Tryz.zeroValue0
 t4:=Tryz.underlying4
 a4:=Tryz.isAgg4
 z4:=Tryz.sizeOf4
 v4:=Tryz.zeroValue4
 t23:=Tryz.underlying129
 a23:=Tryz.isAgg129
 z23:=Tryz.sizeOf129
 v23:=Tryz.zeroValue129
 t26:=Tryz.underlying3
 a26:=Tryz.isAgg3
 z26:=Tryz.sizeOf3
 v26:=Tryz.zeroValue3
 t27:=Tryz.underlying152
 a27:=Tryz.isAgg152
 z27:=Tryz.sizeOf152
 v27:=Tryz.zeroValue152
 t28:=Tryz.underlying153
 a28:=Tryz.isAgg153
 z28:=Tryz.sizeOf153
 v28:=Tryz.zeroValue153
 t33:=Tryz.underlying185
 a33:=Tryz.isAgg185
 z33:=Tryz.sizeOf185
 v33:=Tryz.zeroValue185}
def Tryz.sortedI_ren:Go.Shelf.Ren:=⟨fun|6=>66|8=>91|9=>92|11=>110|13=>112|12=>111|23=>131|24=>132|14=>122|15=>123|16=>124|17=>125|18=>126|19=>127|20=>128|21=>129|22=>130|25=>144|26=>145|27=>146|28=>147|29=>148|30=>149|31=>156|n=>n,fun|26=>3|28=>153|24=>41|0=>0|3=>3|37=>199|48=>214|50=>216|4=>4|40=>208|39=>207|45=>205|5=>5|9=>9|51=>224|55=>228|57=>233|58=>234|33=>185|n=>n,fun|n=>n⟩
theorem Tryz.sortedI:Go.Proofs.SlLaysZI.n6 Tryz.prog Tryz.sortedI_ren:={
 mixed:=by kernel_rfl
 f6:=⟨Tryz.f66.name,by decide,Tryz.func66.trans (congrArg some (by kernel_rfl))⟩
 f8:=⟨Tryz.f91.name,by decide,Tryz.func91.trans (congrArg some (by kernel_rfl))⟩
 f11:=⟨Tryz.f110.name,by decide,Tryz.func110.trans (congrArg some (by kernel_rfl))⟩
 t0:=Tryz.underlying0
 a0:=Tryz.isAgg0
 z0:=Tryz.sizeOf0
 v0:=Tryz.zeroValue0
 t24:=Tryz.underlying41
 a24:=Tryz.isAgg41
 z24:=Tryz.sizeOf41
 v24:=Tryz.zeroValue41
 t26:=Tryz.underlying3
 a26:=Tryz.isAgg3
 z26:=Tryz.sizeOf3
 v26:=Tryz.zeroValue3
 t28:=Tryz.underlying153
 a28:=Tryz.isAgg153
 z28:=Tryz.sizeOf153
 v28:=Tryz.zeroValue153
 i26:=by kernel_rfl}
def Tryz.sortI_ren:Go.Shelf.Ren:=⟨fun|5=>92|8=>112|7=>111|19=>131|20=>132|10=>122|11=>123|12=>124|13=>125|14=>126|15=>127|16=>128|17=>129|18=>130|30=>144|31=>145|32=>146|33=>147|34=>148|35=>149|40=>156|n=>n,fun|23=>41|25=>3|3=>3|32=>199|22=>41|0=>0|44=>214|46=>216|4=>4|36=>208|35=>207|41=>205|5=>5|9=>9|53=>224|57=>228|63=>233|64=>234|n=>n,fun|n=>n⟩
theorem Tryz.sortI:Go.Proofs.SlLaysM.n5 Tryz.prog Tryz.sortI_ren:={
 mixed:=by kernel_rfl
 f5:=⟨Tryz.f92.name,by decide,Tryz.func92.trans (congrArg some (by kernel_rfl))⟩
 f7:=⟨Tryz.f111.name,by decide,Tryz.func111.trans (congrArg some (by kernel_rfl))⟩
 f8:=Tryz.func112.trans (congrArg some (by kernel_rfl))
 f10:=⟨Tryz.f122.name,by decide,Tryz.func122.trans (congrArg some (by kernel_rfl))⟩
 f11:=⟨Tryz.f123.name,by decide,Tryz.func123.trans (congrArg some (by kernel_rfl))⟩
 f12:=⟨Tryz.f124.name,by decide,Tryz.func124.trans (congrArg some (by kernel_rfl))⟩
 f13:=⟨Tryz.f125.name,by decide,Tryz.func125.trans (congrArg some (by kernel_rfl))⟩
 f14:=⟨Tryz.f126.name,by decide,Tryz.func126.trans (congrArg some (by kernel_rfl))⟩
 f15:=⟨Tryz.f127.name,by decide,Tryz.func127.trans (congrArg some (by kernel_rfl))⟩
 f16:=⟨Tryz.f128.name,by decide,Tryz.func128.trans (congrArg some (by kernel_rfl))⟩
 f17:=⟨Tryz.f129.name,by decide,Tryz.func129.trans (congrArg some (by kernel_rfl))⟩
 f18:=⟨Tryz.f130.name,by decide,Tryz.func130.trans (congrArg some (by kernel_rfl))⟩
 f19:=Tryz.func131.trans (congrArg some (by kernel_rfl))
 f20:=Tryz.func132.trans (congrArg some (by kernel_rfl))
 f30:=⟨Tryz.f144.name,by decide,Tryz.func144.trans (congrArg some (by kernel_rfl))⟩
 f31:=Tryz.func145.trans (congrArg some (by kernel_rfl))
 f32:=Tryz.func146.trans (congrArg some (by kernel_rfl))
 f33:=⟨Tryz.f147.name,by decide,Tryz.func147.trans (congrArg some (by kernel_rfl))⟩
 f34:=⟨Tryz.f148.name,by decide,Tryz.func148.trans (congrArg some (by kernel_rfl))⟩
 f35:=⟨Tryz.f149.name,by decide,Tryz.func149.trans (congrArg some (by kernel_rfl))⟩
 f40:=⟨Tryz.f156.name,by decide,Tryz.func156.trans (congrArg some (by kernel_rfl))⟩
 t0:=Tryz.underlying0
 a0:=Tryz.isAgg0
 z0:=Tryz.sizeOf0
 v0:=Tryz.zeroValue0
 t3:=Tryz.underlying3
 a3:=Tryz.isAgg3
 z3:=Tryz.sizeOf3
 v3:=Tryz.zeroValue3
 t4:=Tryz.underlying4
 a4:=Tryz.isAgg4
 z4:=Tryz.sizeOf4
 v4:=Tryz.zeroValue4
 t5:=Tryz.underlying5
 a5:=Tryz.isAgg5
 z5:=Tryz.sizeOf5
 v5:=Tryz.zeroValue5
 t9:=Tryz.underlying9
 a9:=Tryz.isAgg9
 z9:=Tryz.sizeOf9
 v9:=Tryz.zeroValue9
 t22:=Tryz.underlying41
 a22:=Tryz.isAgg41
 z22:=Tryz.sizeOf41
 v22:=Tryz.zeroValue41
 t23:=Tryz.underlying41
 a23:=Tryz.isAgg41
 z23:=Tryz.sizeOf41
 v23:=Tryz.zeroValue41
 t25:=Tryz.underlying3
 a25:=Tryz.isAgg3
 z25:=Tryz.sizeOf3
 v25:=Tryz.zeroValue3
 t32:=Tryz.underlying199
 a32:=Tryz.isAgg199
 z32:=Tryz.sizeOf199
 v32:=Tryz.zeroValue199
 t35:=Tryz.underlying207
 a35:=Tryz.isAgg207
 z35:=Tryz.sizeOf207
 v35:=Tryz.zeroValue207
 t36:=Tryz.underlying208
 a36:=Tryz.isAgg208
 z36:=Tryz.sizeOf208
 v36:=Tryz.zeroValue208
 t41:=Tryz.underlying205
 a41:=Tryz.isAgg205
 z41:=Tryz.sizeOf205
 v41:=Tryz.zeroValue205
 t44:=Tryz.underlying214
 a44:=Tryz.isAgg214
 z44:=Tryz.sizeOf214
 v44:=Tryz.zeroValue214
 t46:=Tryz.underlying216
 a46:=Tryz.isAgg216
 z46:=Tryz.sizeOf216
 v46:=Tryz.zeroValue216
 t53:=Tryz.underlying224
 a53:=Tryz.isAgg224
 z53:=Tryz.sizeOf224
 v53:=Tryz.zeroValue224
 t57:=Tryz.underlying228
 a57:=Tryz.isAgg228
 z57:=Tryz.sizeOf228
 v57:=Tryz.zeroValue228
 t63:=Tryz.underlying233
 a63:=Tryz.isAgg233
 z63:=Tryz.sizeOf233
 v63:=Tryz.zeroValue233
 t64:=Tryz.underlying234
 a64:=Tryz.isAgg234
 z64:=Tryz.sizeOf234
 v64:=Tryz.zeroValue234}
end Go.Proofs
end
namespace Go.Proofs.YtbnfiigafobejaaGreat
section
open Go.RowKit
theorem aeV (a:Addr) (v:Value) (w:World) (h:w.cell? a=some v):(Go.method 410 284 (.pointer (some a)) "Len").run Tryz.prog w=.ok (248,v) w:=by
 have e:(Go.method 410 284 (.pointer (some a)) "Len").run Tryz.prog w=((loadVar 180 a) >>= λv=>pure (248,v):Sem (FuncId×Value)).run Tryz.prog w:=KB
 rw [e]
 simp [loadVar,isAgg,underlying,Tryz.underlying180,h,Result.andThen]
theorem ac4 (a:Addr) (v:Value) (w:World) (h:w.cell? a=some v):(Go.method 410 284 (.pointer (some a)) "Less").run Tryz.prog w=.ok (249,v) w:=by
 have e:(Go.method 410 284 (.pointer (some a)) "Less").run Tryz.prog w=((loadVar 180 a) >>= λv=>pure (249,v):Sem (FuncId×Value)).run Tryz.prog w:=KB
 rw [e]
 simp [loadVar,isAgg,underlying,Tryz.underlying180,h,Result.andThen]
theorem ac5 (a:Addr) (v:Value) (w:World) (h:w.cell? a=some v):(Go.method 410 284 (.pointer (some a)) "Swap").run Tryz.prog w=.ok (250,v) w:=by
 have e:(Go.method 410 284 (.pointer (some a)) "Swap").run Tryz.prog w=((loadVar 180 a) >>= λv=>pure (250,v):Sem (FuncId×Value)).run Tryz.prog w:=KB
 rw [e]
 simp [loadVar,isAgg,underlying,Tryz.underlying180,h,Result.andThen]
theorem ac6 (a:Addr) (w:World):(Go.method 410 284 (.pointer (some a)) "Push").run Tryz.prog w=.ok (253,.pointer (some a)) w:=KB
theorem aeW (a:Addr) (w:World):(Go.method 410 284 (.pointer (some a)) "Pop").run Tryz.prog w=.ok (252,.pointer (some a)) w:=KB
theorem aaN (a:Addr) (w:World):(Go.nilAhead 410 284 (.pointer (some a)) "Len").run Tryz.prog w=.ok (some false) w:=KB
theorem Vh (a:Addr) (w:World):(Go.nilAhead 410 284 (.pointer (some a)) "Less").run Tryz.prog w=.ok (some false) w:=KB
theorem N6 (a:Addr) (w:World):(Go.nilAhead 410 284 (.pointer (some a)) "Swap").run Tryz.prog w=.ok (some false) w:=KB
theorem ac7 (a:Addr) (w:World):(Go.nilAhead 410 284 (.pointer (some a)) "Push").run Tryz.prog w=.ok (some false) w:=KB
theorem aeX (a:Addr) (w:World):(Go.nilAhead 410 284 (.pointer (some a)) "Pop").run Tryz.prog w=.ok (some false) w:=KB
theorem N7 (A:Option Addr) (n c:Nat) (w:World) :
 Calls Tryz.prog 248 #[.slice A n c] w λe w'=>e=.returned (.int .i64 n)/\w'=w:=by
 go_enter Tryz.func248,Tryz.ntmps248
 go_wp2
 go_ret
 exact⟨rfl,rfl⟩
theorem Vi (g n c i j:Nat) (x y:Int) (w:World) (hi:i<n) (hj:j<n) (ci:w.cell? ⟨g,i,none⟩=some (.int .i64 x)) (cj:w.cell? ⟨g,j,none⟩=some (.int .i64 y)) :
 Calls Tryz.prog 249 #[.slice (some ⟨g,0,none⟩) n c,.int .i64 i,.int .i64 j] w λe w'=>e=.returned (.bool (decide (x<y)))/\∃m,w'=w.drewN m:=by
 have hi':(i:Int)<(n:Int):=zc
 have hj':(j:Int)<(n:Int):=zc
 go_enter Tryz.func249,Tryz.ntmps249
 go_wp2_with fail
 go_quiet (fail)
 go_wp2_with fail
 go_ret
 exact⟨rfl,_,rfl⟩
theorem Vj (g n c i j:Nat) (x y:Int) (w:World) (hi:i<n) (hj:j<n) (hij:i≠j) (ci:w.cell? ⟨g,i,none⟩=some (.int .i64 x)) (cj:w.cell? ⟨g,j,none⟩=some (.int .i64 y))
 (fi:w.frozen? ⟨g,i,none⟩=false) (fj:w.frozen? ⟨g,j,none⟩=false) :
 Calls Tryz.prog 250 #[.slice (some ⟨g,0,none⟩) n c,.int .i64 i,.int .i64 j] w λe w'=>e=.returned (.tuple #[])/\∃m,w'=((w.setCell ⟨g,i,none⟩ (.int .i64 y)).setCell ⟨g,j,none⟩ (.int .i64 x)).drewN m:=by
 have hi':(i:Int)<(n:Int):=zc
 have hj':(j:Int)<(n:Int):=zc
 go_enter Tryz.func250,Tryz.ntmps250
 go_wp2_with fail
 go_region
 go_end0
 exact⟨rfl,1,rfl⟩
theorem Yj:(Tryz.prog.info? 3).map (λi=>(i.zero,i.size,i.bytes))=some (some (.int .i64 0),1,8):=KB
theorem Yk (t o g n c:Nat) (x:Int) (w:World) (hc:n+1<=c) (ht:w.cell? ⟨t,o,none⟩=some (.slice (some ⟨g,0,none⟩) (n+1) c)) (hf:w.frozen? ⟨t,o,none⟩=false)
 (hx:w.cell? ⟨g,n,none⟩=some (.int .i64 x)) (hm:n+1<=1048576) :
 Calls Tryz.prog 252 #[.pointer (some ⟨t,o,none⟩)] w λe w'=>e=.returned (.iface 3 (.int .i64 x))/\w'=w.setCell ⟨t,o,none⟩ (.slice (some ⟨g,0,none⟩) n c):=by
 go_enter Tryz.func252,Tryz.ntmps252
 go_wp2_with fail
 go_ret
 exact⟨rfl,rfl⟩
theorem Tb (x:Int) (w:World):(Instr.typeAssert (.iface 3 (.int .i64 x)) 20 3 false).run Tryz.prog w=.ok (.int .i64 x) w:=KB
theorem QB (x:Int):∀u∈[Value.int .i64 x],u.oneCell'=true:=by intro u hu;simp at hu;subst hu;rfl
theorem Vk {t o:Nat} {v:Value} {w w1:World} {ob:Obj} (ht:w.cell? ⟨t,o,none⟩=some v) (fV:t<w.heap.size) {row:Option Nat} (bV:row≠some t) (hg:(w.alloc ob).drew.grownBy w1 row):w1.cell? ⟨t,o,none⟩=some v:=by
 rw [hg.cell_far ⟨t,o,none⟩ (by show t<(w.alloc ob).heap.size;simp;omega) (λe=>bV e.symm)]
 exact (World.cell?_alloc_lt w ob ⟨t,o,none⟩ fV).trans ht
theorem Vl {t o:Nat} {w w1:World} {ob:Obj} (hf:w.frozen? ⟨t,o,none⟩=false) (fV:t<w.heap.size) {row:Option Nat} (bV:row≠some t) (hg:(w.alloc ob).drew.grownBy w1 row):w1.frozen? ⟨t,o,none⟩=false:=by
 rw [hg.frozen_far ⟨t,o,none⟩ (by show t<(w.alloc ob).heap.size;simp;omega) (λe=>bV e.symm)]
 exact (World.frozen?_alloc_old w ob ⟨t,o,none⟩ (Nat.ne_of_lt fV)).trans hf
theorem Vm (t o base n:Nat) (v:Value) (xs:List Value) (x:Int) (w:World) (ht:w.cell? ⟨t,o,none⟩=some v) (hf:w.frozen? ⟨t,o,none⟩=false)
 (kD:w.ownsRow base 3 1 v n xs) (bV:v.ownBlock≠some t) (hm:n+1<=1048576) (hbase:base<=w.heap.size) :
 Calls Tryz.prog 253 #[.pointer (some ⟨t,o,none⟩),.iface 3 (.int .i64 x)] w λe w'=>e=.returned (.tuple #[]) ∧
  ∃g cap w1,w1.ownsRow base 3 1 (.slice (some ⟨g,0,none⟩) (n+1) cap) (n+1) (xs++[.int .i64 x])/\w.grownBy w1 v.ownBlock/\(v.ownBlock=some g\/w.heap.size<=g) ∧
    w'=w1.setCell ⟨t,o,none⟩ (.slice (some ⟨g,0,none⟩) (n+1) cap):=by
 obtain⟨i0,hi0,hz0,hz1,hz2⟩:=info_parts Yj
 have fV:t<w.heap.size:=by
  rcases Nat.lt_or_ge t w.heap.size with h|h
  ·exact h
  simp [World.cell?,Array.getElem?_eq_none h] at ht
 have hta:=Tb
 go_enter Tryz.func253,Tryz.ntmps253
 go_wp2_with fail
 go_region_law (refine step_append_lies _ rfl (.tmp 7) (.tmp 10) 180 rfl base 3 i0 (.int .i64 0) 1 8 Tryz.underlying180 hi0 hz0 hz1 hz2 rfl Pd v n xs (by simp [Act.eval]) (kD.alloc _) ⟨w.heap.size,0,none⟩ 1 1 [.int .i64 x] (by simp [Act.eval]) rfl (cell_one_new _ _ _) (QB x) Pd (by unfold maxLen;omega) zc (by simp;omega) (w.heap.size+1) ahd ?_;intro g cap w1 hown1 hg1 Tc agW;have c1:w1.cell? ⟨t,o,none⟩=some v:=Vk ht fV bV hg1;have f1:w1.frozen? ⟨t,o,none⟩=false:=Vl hf fV bV hg1)
 all_goals
  go_end0
  refine⟨rfl,g,cap,w1,hown1,(World.grownBy_alloc w (.cells #[.int .i64 x] 3) _).trans ⟨hg1.os,hg1.tape,hg1.output,hg1.size,hg1.block⟩,?_,rfl⟩
  rcases Tc with h|h
  ·exact .inl h
  exact .inr zc
end
end Go.Proofs.YtbnfiigafobejaaGreat
section
namespace Go.Proofs.YtbnfiigafobejaaGreat.bG
def at_ (l:List Int) (i:Nat):Int:=l.getD i 0
def swp (l:List Int) (i j:Nat):List Int:=(l.set i (at_ l j)).set j (at_ l i)
def Hp (n:Nat) (l:List Int):Prop:=∀i,0<i->i<n->at_ l ((i-1) / 2)<=at_ l i
def EH (l:List Int):Prop:=∀a b,a<l.length->b<l.length->at_ l a=at_ l b->a=b
def Kq (l:List Int) (j:Nat):Prop:=
 (∀i,0<i->i<l.length->i≠j->at_ l ((i-1) / 2)<=at_ l i)/\(∀i,0<i->i<l.length->(i-1) / 2=j->0<j->at_ l ((j-1) / 2)<=at_ l i)
def CP (n:Nat) (l:List Int) (i:Nat):Prop:=
 (∀k,0<k->k<n->(k-1) / 2≠i->at_ l ((k-1) / 2)<=at_ l k)/\(∀k,0<k->k<n->(k-1) / 2=i->0<i->at_ l ((i-1) / 2)<=at_ l k)
structure Same (l l':List Int):Prop where
 len:l'.length=l.length
 mem:∀x,x∈l'↔x∈l
 inj:EH l->EH l'
theorem Ar {l:List Int} {x:Int}:x∈l↔∃k,k<l.length/\at_ l k=x:=by
 rw [ahT]
 constructor
 ·rintro⟨i,h,e⟩
  exact⟨i,h,by simp [at_,List.getD_eq_getElem?_getD,h,e]⟩
 rintro⟨i,h,e⟩
 exact⟨i,h,by simpa [at_,List.getD_eq_getElem?_getD,h] using e⟩
theorem qW (l:List Int) (i j:Nat):(swp l i j).length=l.length:=by simp [swp]
def sw (i j k:Nat):Nat:=if k=j then i else if k=i then j else k
theorem oR {l:List Int} {i j:Nat} (hi:i<l.length) (hj:j<l.length) (k:Nat):at_ (swp l i j) k=at_ l (sw i j k):=by
 unfold swp at_ sw
 grind
theorem Td (i j k:Nat):sw i j (sw i j k)=k:=by unfold sw;(repeat' split)<;>omega
theorem M6 {i j k n:Nat} (hi:i<n) (hj:j<n) (hk:k<n):sw i j k<n:=by unfold sw;(repeat' split)<;>omega
theorem Same.refl (l:List Int):Same l l:=⟨rfl,λ_=>Iff.rfl,λh=>h⟩
theorem Same.trans {l l' l'':List Int} (h:Same l l') (k:Same l' l''):Same l l'':=⟨k.len.trans h.len,λx=>(k.mem x).trans (h.mem x),λi=>k.inj (h.inj i)⟩
theorem Same.swp {l:List Int} {i j:Nat} (hi:i<l.length) (hj:j<l.length):Same l (swp l i j):=by
 refine⟨qW l i j,λx=>?_,λinj a b ha hb e=>?_⟩
 ·rw [Ar,Ar,qW]
  constructor
  ·rintro⟨k,hk,e⟩
   exact⟨sw i j k,M6 hi hj hk,by rw [←oR hi hj];exact e⟩
  rintro⟨k,hk,e⟩
  exact⟨sw i j k,M6 hi hj hk,by rw [oR hi hj,Td];exact e⟩
 rw [qW] at ha hb
 rw [oR hi hj,oR hi hj] at e
 have:=inj _ _ (M6 hi hj ha) (M6 hi hj hb) e
 rw [←Td i j a,this,Td]
theorem Vn {l:List Int} {j:Nat} (h:Kq l j) (he:j=0\/at_ l ((j-1) / 2)<=at_ l j):Hp l.length l:=by
 intro i h0 hi
 by_cases e:i=j
 ·subst e
  rcases he with he|he
  ·omega
  exact he
 exact h.1 i h0 hi e
theorem abQ {l:List Int} {j:Nat} (h:Kq l j) (h0:0<j) (hj:j<l.length) (fV:at_ l j<at_ l ((j-1) / 2)):Kq (swp l ((j-1) / 2) j) ((j-1) / 2):=by
 have hp:(j-1) / 2<l.length:=zc
 have bV:(j-1) / 2≠j:=zc
 refine⟨λi i0 il ine=>?_,λi i0 il ip p0=>?_⟩
 ·rw [qW] at il
  rw [oR hp hj,oR hp hj]
  by_cases e1:i=j
  ·subst e1
   rw [show sw ((i-1) / 2) i ((i-1) / 2)=i by unfold sw;rw [ahe bV,ahf rfl],show sw ((i-1) / 2) i i=(i-1) / 2 by unfold sw;rw [ahf rfl]]
   omega
  rw [show sw ((j-1) / 2) j i=i by unfold sw;rw [ahe e1,ahe ine]]
  by_cases e2:(i-1) / 2=j
  ·rw [show sw ((j-1) / 2) j ((i-1) / 2)=(j-1) / 2 by unfold sw;rw [ahf e2]]
   exact h.2 i i0 il e2 h0
  by_cases e3:(i-1) / 2=(j-1) / 2
  ·rw [show sw ((j-1) / 2) j ((i-1) / 2)=j by unfold sw;rw [ahe e2,ahf e3]]
   have:=h.1 i i0 il e1
   rw [e3] at this
   omega
  rw [show sw ((j-1) / 2) j ((i-1) / 2)=(i-1) / 2 by unfold sw;rw [ahe e2,ahe e3]]
  exact h.1 i i0 il e1
 rw [qW] at il
 rw [oR hp hj,oR hp hj]
 have a1:=h.1 ((j-1) / 2) p0 hp bV
 rw [show sw ((j-1) / 2) j (((j-1) / 2-1) / 2)=((j-1) / 2-1) / 2 by unfold sw;rw [ahe zc,ahe zc]]
 by_cases e1:i=j
 ·subst e1
  rw [show sw ((i-1) / 2) i i=(i-1) / 2 by unfold sw;rw [ahf rfl]]
  exact a1
 have a2:=h.1 i i0 il e1
 rw [show sw ((j-1) / 2) j i=i by unfold sw;rw [ahe e1,ahe zc]]
 rw [ip] at a2
 omega
theorem Dm {n:Nat} {l:List Int} {i:Nat} (h:CP n l i) (h1:2*i+1<n->at_ l i<=at_ l (2*i+1)) (h2:2*i+2<n->at_ l i<=at_ l (2*i+2)):Hp n l:=by
 intro k k0 kn
 by_cases e:(k-1) / 2=i
 ·grind
 exact h.1 k k0 kn e
theorem EI {n:Nat} {l:List Int} {i j:Nat} (h:CP n l i) (hj:j=2*i+1\/j=2*i+2) (hjn:j<n) (hn:n<=l.length)
 (h1:at_ l j<=at_ l (2*i+1)) (h2:2*i+2<n->at_ l j<=at_ l (2*i+2)) (fV:at_ l j<at_ l i):CP n (swp l i j) j:=by
 have hi:i<l.length:=zc
 have hjl:j<l.length:=zc
 refine⟨λk k0 kn kne=>?_,λk k0 kn ke j0=>?_⟩
 ·rw [oR hi hjl,oR hi hjl]
  by_cases e1:(k-1) / 2=i
  ·rw [e1,show sw i j i=j by unfold sw;rw [ahe zc,ahf rfl]]
   by_cases e2:k=j
   ·rw [e2,show sw i j j=i by unfold sw;rw [ahf rfl]];omega
   rw [show sw i j k=k by unfold sw;rw [ahe e2,ahe zc]]
   grind
  rw [show sw i j ((k-1) / 2)=(k-1) / 2 by unfold sw;rw [ahe kne,ahe e1]]
  by_cases e2:k=i
  ·rw [e2,show sw i j i=j by unfold sw;rw [ahe zc,ahf rfl],←e2]
   have hjk:(j-1) / 2=i:=zc
   rw [e2]
   exact h.2 j zc hjn hjk zc
  rw [show sw i j k=k by unfold sw;rw [ahe zc,ahe e2]]
  exact h.1 k k0 kn e1
 rw [oR hi hjl,oR hi hjl]
 rw [show (j-1) / 2=i by omega,show sw i j i=j by unfold sw;rw [ahe zc,ahf rfl],show sw i j k=k by unfold sw;rw [ahe zc,ahe zc]]
 have:=h.1 k k0 kn zc
 rw [ke] at this
 exact this
theorem aS {n:Nat} {l:List Int} (h:Hp n l):∀k,k<n->at_ l 0<=at_ l k:=by
 intro k
 induction k using Nat.strongRecOn with
 |_ k ih=>
   intro hk
   rcases Nat.eq_zero_or_pos k with e|e
   ·rw [e];omega
   have a1:=ih ((k-1) / 2) zc zc
   have a2:=h k e hk
   omega
theorem Te {n:Nat} {l:List Int} (h:Hp (n+1) l) (hl:l.length=n+1):CP n (swp l 0 n) 0:=by
 refine⟨λk k0 kn kne=>?_,λk _ _ _ h0=>zc⟩
 rw [oR zc zc,oR zc zc]
 rw [show sw 0 n ((k-1) / 2)=(k-1) / 2 by unfold sw;rw [ahe zc,ahe kne],show sw 0 n k=k by unfold sw;rw [ahe zc,ahe zc]]
 exact h k k0 zc
theorem Yl {l:List Int} (h:Hp l.length l) (x:Int):Kq (l++[x]) l.length:=by
 have e:∀k,k<l.length->at_ (l++[x]) k=at_ l k:=λk hk=>by
  unfold at_
  grind
 refine⟨λi i0 il ine=>?_,λi i0 il ip=>?_⟩
 ·rw [ahl,ah5] at il
  rw [e _ zc,e _ zc]
  exact h i i0 zc
 grind
theorem abR {l:List Int} {n:Nat} (hl:l.length=n+1) (hi:EH l) (x:Int):x∈l.take n↔x∈l/\x≠at_ l n:=by
 constructor
 ·intro h
  refine⟨List.mem_of_mem_take h,?_⟩
  rintro rfl
  obtain⟨k,hk,e⟩:=ahT.1 h
  simp at hk e
  have:=hi k n zc zc (by simp [at_,List.getD_eq_getElem?_getD,show k<l.length by omega,e])
  omega
 rintro⟨h,bV⟩
 obtain⟨k,hk,e⟩:=Ar.1 h
 have:k≠n:=by rintro rfl;exact bV e.symm
 refine ahT.2 ⟨k,by simp;omega,?_⟩
 simp only [at_,ahv,hk,ahs,Option.getD_some] at e
 simpa using e
theorem FU {l:List Int} {n k:Nat} (hk:k<n):at_ (l.take n) k=at_ l k:=by simp [at_,List.getD_eq_getElem?_getD,hk]
theorem abS {l:List Int} {n:Nat} (h:Hp n l):Hp n (l.take n):=λi i0 hi=>by rw [FU hi,FU zc];exact h i i0 hi
theorem Ym {l:List Int} {n:Nat} (h:EH l):EH (l.take n):=λa b ha hb e=>by
 simp at ha hb
 rw [FU zc,FU zc] at e
 exact h a b zc zc e
end Go.Proofs.YtbnfiigafobejaaGreat.bG
end
namespace Go.Proofs.YtbnfiigafobejaaGreat
section
open Go.RowKit bG
def bL (l:List Int):List Value:=l.map (Value.int .i64)
theorem t7 (g n c a b:Nat) (i j:Int) (hi:i=(a:Int)) (hj:j=(b:Int)) (x y:Int) (w:World) (ha:a<n) (hb:b<n) (ci:w.cell? ⟨g,a,none⟩=some (.int .i64 x)) (cj:w.cell? ⟨g,b,none⟩=some (.int .i64 y)) :
 Calls Tryz.prog 249 #[.slice (some ⟨g,0,none⟩) n c,.int .i64 i,.int .i64 j] w λe w'=>e=.returned (.bool (decide (x<y)))/\∃m,w'=w.drewN m:=by
 grind [Vi]
structure HW (t o g c base:Nat) (l:List Int) (w:World):Prop where
 cell:w.cell? ⟨t,o,none⟩=some (.slice (some ⟨g,0,none⟩) l.length c)
 own:w.ownsRow base 3 1 (.slice (some ⟨g,0,none⟩) l.length c) l.length (bL l)
 ne:t≠g
 lt:t<w.heap.size
theorem Yn {l:List Int} {k:Nat} (hk:k<l.length):(bL l)[k]?=some (.int .i64 (at_ l k)):=by
 simp [bL,at_,List.getD_eq_getElem?_getD,hk]
section hw
variable {t o g c base:Nat} {l:List Int} {w:World}
theorem HW.at (h:HW t o g c base l w) {k:Nat} (hk:k<l.length):w.cell? ⟨g,k,none⟩=some (.int .i64 (at_ l k)):=by
 rw [h.own.cellAt k zc]
 exact Yn hk
theorem HW.drewN (h:HW t o g c base l w) (m:Nat):HW t o g c base l (w.drewN m):=⟨h.cell,h.own,h.ne,h.lt⟩
theorem HW.swap (h:HW t o g c base l w) (i j:Nat) :
 HW t o g c base (swp l i j) ((w.setCell ⟨g,i,none⟩ (.int .i64 (at_ l j))).setCell ⟨g,j,none⟩ (.int .i64 (at_ l i))):=by
 have e1:bL (swp l i j)=((bL l).set i (.int .i64 (at_ l j))).set j (.int .i64 (at_ l i)):=by
  simp [bL,swp,List.map_set]
 refine⟨?_,?_,h.ne,by simpa [World.setCell] using h.lt⟩
 ·rw [qW,World.cell?_setCell_other _ _ _ _ (λe=>h.ne (by injection e with e;exact e.symm)),World.cell?_setCell_other _ _ _ _ (λe=>h.ne (by injection e with e;exact e.symm))]
  exact h.cell
 rw [qW,e1]
 exact ((h.own.stored i _).1.stored j _).1
end hw
theorem t8 (t o g c base:Nat) (l:List Int) (a b:Nat) (i j:Int) (hi:i=(a:Int)) (hj:j=(b:Int)) (w:World) (h:HW t o g c base l w) (ha:a<l.length) (hb:b<l.length) (bV:a≠b) :
 Calls Tryz.prog 250 #[.slice (some ⟨g,0,none⟩) l.length c,.int .i64 i,.int .i64 j] w λe w'=>e=.returned (.tuple #[])/\HW t o g c base (swp l a b) w'/\cK (·=g) w w':=by
 subst hi hj
 refine (Vj g l.length c a b (at_ l a) (at_ l b) w ha hb bV (h.at ha) (h.at hb) (h.own.frozenAt a) (h.own.frozenAt b)).mono λe w' ⟨he,m,hw⟩=>⟨he,?_,?_⟩
 ·rw [hw];exact (h.swap a b).drewN m
 rw [hw];exact (((cK.refl (·=g) w).setCell (p:=⟨g,a,none⟩) (.inr rfl) _).setCell (p:=⟨g,b,none⟩) (.inr rfl) _).drewN m
structure Looks (a:Addr) (V:Value):Prop where
 less:∀w:World,w.cell? a=some V->(Go.method 410 284 (.pointer (some a)) "Less").run Tryz.prog w=.ok (249,V) w
 swap:∀w:World,w.cell? a=some V->(Go.method 410 284 (.pointer (some a)) "Swap").run Tryz.prog w=.ok (250,V) w
 len:∀w:World,w.cell? a=some V->(Go.method 410 284 (.pointer (some a)) "Len").run Tryz.prog w=.ok (248,V) w
theorem looks (a:Addr) (V:Value):Looks a V:=⟨ac4 a V,ac5 a V,aeV a V⟩
theorem abT (t o g c base:Nat) (l:List Int) (j:Nat) (w:World) (h:HW t o g c base l w) (hj:j<l.length) (hu:Kq l j) (hm:l.length<=1048576) :
 Calls Tryz.prog 224 #[.iface 284 (.pointer (some ⟨t,o,none⟩)),.int .i64 j] w λe w'=>e=.returned (.tuple #[]) ∧
  ∃l',Same l l'/\Hp l'.length l'/\HW t o g c base l' w'/\cK (·=g) w w':=by
 have L:=looks ⟨t,o,none⟩ (.slice (some ⟨g,0,none⟩) l.length c)
 have nl:=Vh ⟨t,o,none⟩
 have ns:=N6 ⟨t,o,none⟩
 go_enter Tryz.func224,Tryz.ntmps224
 go_wp2_with fail
 go_loopw [1] (λv wr=>∃(j:Nat) (l':List Int),v=.int .i64 j/\j<l'.length/\Same l l'/\Kq l' j/\HW t o g c base l' wr/\cK (·=g) w wr) (λv _=>(intOf v).toNat)
 case atStart=>exact⟨j,l,rfl,hj,Same.refl l,hu,h,cK.refl _ _⟩
 case round=>
  obtain⟨j,l',rfl,hj',hs,hu',hw,hk⟩:=hrel
  have hc:=hw.cell
  rw [hs.len] at hc
  have LL:=L.less wr hc
  by_cases h0:j=0
  ·subst h0
   have HU:=Lib.hid hu'
   clear hu'
   go_wp2_with fail
   go_end0
   exact⟨rfl,l',hs,Vn HU.out (.inl rfl),hw,hk⟩
  have uW:1<=j:=zc
  have hj2:j<=1048576:=by have:=hs.len;omega
  have hi1:(j-1) / 2<l'.length:=zc
  have hjn:((((j:Int)-1) / 2) == (j:Int))=false:=by rw [beq_eq_false_iff_ne];omega
  have HU:=Lib.hid hu'
  clear hu'
  go_wp2_with fail
  refine (t7 g l.length c j ((j-1) / 2) _ _ rfl zc (at_ l' j) (at_ l' ((j-1) / 2)) _ (by rw [←hs.len];exact hj') (by rw [←hs.len];exact hi1) (hw.at hj') (hw.at hi1)).mono ?_
  rintro e w1 ⟨rfl,m,rfl⟩
  have hw1:=hw.drewN m
  by_cases fV:at_ l' j<at_ l' ((j-1) / 2)
  ·have LS:=L.swap (wr.drewN m) hc
   go_wp2_with fail
   have HL:=Lib.hid hs.len
   have sw:=t8 t o g c base l' ((j-1) / 2) j
   rw [hs.len] at sw
   refine (sw _ _ zc rfl _ hw1 (by have:=HL.out;omega) (by have:=HL.out;omega) zc).mono ?_
   rintro e w2 ⟨rfl,hw2,hk2⟩
   clear sw
   go_wp2_with fail
   go_roundw
   case rel=>exact⟨(j-1) / 2,_,by go_num,by rw [qW];exact hi1,hs.trans (Same.swp hi1 hj'),abQ HU.out uW hj' fV,hw2,(hk.drewN m).trans hk2⟩
   case measure=>simp [intOf];omega
  have hnl:decide (at_ l' j<at_ l' ((j-1) / 2))=false:=by simpa using fV
  go_wp2_with fail
  go_end0
  exact⟨rfl,l',hs,Vn HU.out (.inr zc),hw1,hk.drewN m⟩
theorem N8 {l:List Int} {i j n k:Nat} (hi:i<l.length) (hj:j<l.length) (hin:i<n) (hjn:j<n) (hk:n<=k):at_ (swp l i j) k=at_ l k:=by
 grind [oR,sw]
theorem Vo (t o g c base n:Nat) (l:List Int) (w:World) (h:HW t o g c base l w) (hn:n<=l.length) (hd:CP n l 0) (hm:l.length<=1048576) :
 Calls Tryz.prog 225 #[.iface 284 (.pointer (some ⟨t,o,none⟩)),.int .i64 0,.int .i64 n] w λe w'=>(∃b,e=.returned (.bool b)) ∧
  ∃l',Same l l'/\Hp n l'/\(∀k,n<=k->at_ l' k=at_ l k)/\HW t o g c base l' w'/\cK (·=g) w w':=by
 have L:=looks ⟨t,o,none⟩ (.slice (some ⟨g,0,none⟩) l.length c)
 have nl:=Vh ⟨t,o,none⟩
 have ns:=N6 ⟨t,o,none⟩
 go_enter Tryz.func225,Tryz.ntmps225
 go_wp2_with fail
 go_loopw [7] (λv wr=>∃(i:Nat) (l':List Int),v=.int .i64 i/\i<=n/\Same l l'/\CP n l' i/\Hid (∀k,n<=k->at_ l' k=at_ l k)/\HW t o g c base l' wr/\cK (·=g) w wr) (λv _=>n-(intOf v).toNat)
 case atStart=>exact⟨0,l,rfl,ahj _,Same.refl l,hd,Lib.hid (λ_ _=>rfl),h,cK.refl _ _⟩
 case round=>
  obtain⟨i,l',rfl,hin,hs,hd',Dn,hw,hk⟩:=hrel
  have hc:=hw.cell
  rw [hs.len] at hc
  have HL:=Lib.hid hs.len
  have hn1:n<=1048576:=zc
  have hnl:n<=l'.length:=by rw [HL.out];exact hn
  have HD:=Lib.hid hd'
  clear hd'
  by_cases h1:2*i+1<n
  ·have h1a:(2*(i:Int)+1)<(n:Int):=zc
   by_cases h2:2*i+2<n
   ·have h2a:(2*(i:Int)+1+1)<(n:Int):=zc
    have LL:=L.less wr hc
    go_wp2_with fail
    refine (t7 g l.length c (2*i+2) (2*i+1) _ _ zc zc (at_ l' (2*i+2)) (at_ l' (2*i+1)) _ zc zc (hw.at zc) (hw.at zc)).mono ?_
    rintro e w1 ⟨rfl,m,rfl⟩
    have hw1:=hw.drewN m
    have hk1:=hk.drewN m
    have LL:=L.less (wr.drewN m) hc
    clear hw hk
    by_cases h3:at_ l' (2*i+2)<at_ l' (2*i+1)
    ·go_wp2_with fail
     refine (t7 g l.length c (2*i+2) i _ _ zc zc (at_ l' (2*i+2)) (at_ l' i) _ zc zc (hw1.at zc) (hw1.at zc)).mono ?_
     rintro e w2 ⟨rfl,m2,rfl⟩
     have hw2:=hw1.drewN m2
     have hk2:=hk1.drewN m2
     rw [World.drewN_drewN] at hw2 hk2
     by_cases h4:at_ l' (2*i+2)<at_ l' i
     ·have LS:=L.swap _ (hw2.cell.trans (by rw [HL.out]))
      go_wp2_with fail
      have sw:=t8 t o g c base l' i (2*i+2)
      rw [hs.len] at sw
      refine (sw _ _ rfl zc _ hw2 zc zc zc).mono ?_
      rintro e w3 ⟨rfl,hw3,hk3⟩
      clear sw
      go_wp2_with fail
      go_roundw
      case rel=>exact⟨2*i+2,_,by go_num,zc,hs.trans (Same.swp zc zc),EI HD.out zc zc hnl zc (λ_=>zc) h4,Lib.hid (λk hk=>(N8 zc zc zc zc hk).trans (Dn.out k hk)),hw3,hk2.trans hk3⟩
      case measure=>simp [intOf];omega
     have h4a:decide (at_ l' (2*i+2)<at_ l' i)=false:=by simpa using h4
     go_wp2_with fail
     go_ret
     exact⟨⟨_,rfl⟩,l',hs,Dm HD.out (λ_=>zc) (λ_=>zc),Dn.out,hw2,hk2⟩
    have h3a:decide (at_ l' (2*i+2)<at_ l' (2*i+1))=false:=by simpa using h3
    go_wp2_with fail
    refine (t7 g l.length c (2*i+1) i _ _ zc zc (at_ l' (2*i+1)) (at_ l' i) _ zc zc (hw1.at zc) (hw1.at zc)).mono ?_
    rintro e w2 ⟨rfl,m2,rfl⟩
    have hw2:=hw1.drewN m2
    have hk2:=hk1.drewN m2
    rw [World.drewN_drewN] at hw2 hk2
    by_cases h4:at_ l' (2*i+1)<at_ l' i
    ·have LS:=L.swap _ (hw2.cell.trans (by rw [HL.out]))
     go_wp2_with fail
     have sw:=t8 t o g c base l' i (2*i+1)
     rw [hs.len] at sw
     refine (sw _ _ rfl zc _ hw2 zc zc zc).mono ?_
     rintro e w3 ⟨rfl,hw3,hk3⟩
     clear sw
     go_wp2_with fail
     go_roundw
     case rel=>exact⟨2*i+1,_,by go_num,zc,hs.trans (Same.swp zc zc),EI HD.out zc zc hnl zc (λ_=>zc) h4,Lib.hid (λk hk=>(N8 zc zc zc zc hk).trans (Dn.out k hk)),hw3,hk2.trans hk3⟩
     case measure=>simp [intOf];omega
    have h4a:decide (at_ l' (2*i+1)<at_ l' i)=false:=by simpa using h4
    go_wp2_with fail
    go_ret
    exact⟨⟨_,rfl⟩,l',hs,Dm HD.out (λ_=>zc) (λ_=>zc),Dn.out,hw2,hk2⟩
   have h2a:decide ((2*(i:Int)+1+1)<(n:Int))=false:=by simp;omega
   have hw1:=hw
   have hk1:=hk
   have LL:=L.less wr hc
   clear hw hk
   go_wp2_with fail
   refine (t7 g l.length c (2*i+1) i _ _ zc zc (at_ l' (2*i+1)) (at_ l' i) _ zc zc (hw1.at zc) (hw1.at zc)).mono ?_
   rintro e w2 ⟨rfl,m2,rfl⟩
   have hw2:=hw1.drewN m2
   have hk2:=hk1.drewN m2
   by_cases h4:at_ l' (2*i+1)<at_ l' i
   ·have LS:=L.swap _ (hw2.cell.trans (by rw [HL.out]))
    go_wp2_with fail
    have sw:=t8 t o g c base l' i (2*i+1)
    rw [hs.len] at sw
    refine (sw _ _ rfl zc _ hw2 zc zc zc).mono ?_
    rintro e w3 ⟨rfl,hw3,hk3⟩
    clear sw
    go_wp2_with fail
    go_roundw
    case rel=>exact⟨2*i+1,_,by go_num,zc,hs.trans (Same.swp zc zc),EI HD.out zc zc hnl zc (λ_=>zc) h4,Lib.hid (λk hk=>(N8 zc zc zc zc hk).trans (Dn.out k hk)),hw3,hk2.trans hk3⟩
    case measure=>simp [intOf];omega
   have h4a:decide (at_ l' (2*i+1)<at_ l' i)=false:=by simpa using h4
   go_wp2_with fail
   go_ret
   exact⟨⟨_,rfl⟩,l',hs,Dm HD.out (λ_=>zc) (λ_=>zc),Dn.out,hw2,hk2⟩
  have h1a:((n:Int)<=2*(i:Int)+1):=zc
  go_wp2_with fail
  go_ret
  exact⟨⟨_,rfl⟩,l',hs,Dm HD.out (λh=>ahh h h1) (λh=>ahh h (by omega)),Dn.out,hw,hk⟩
theorem Kr (g n c i:Nat) (x:Int) (w:World) (hi:i<n) (ci:w.cell? ⟨g,i,none⟩=some (.int .i64 x)) (fi:w.frozen? ⟨g,i,none⟩=false) :
 Calls Tryz.prog 250 #[.slice (some ⟨g,0,none⟩) n c,.int .i64 i,.int .i64 i] w λe w'=>e=.returned (.tuple #[])/\∃m,w'=((w.setCell ⟨g,i,none⟩ (.int .i64 x)).setCell ⟨g,i,none⟩ (.int .i64 x)).drewN m:=by
 have hi':(i:Int)<(n:Int):=zc
 go_enter Tryz.func250,Tryz.ntmps250
 go_wp2_with fail
 go_region
 go_end0
 exact⟨rfl,1,rfl⟩
theorem Kt (t o g c base n:Nat) (l:List Int) (hl:l.length=n+1) (j:Int) (hj:j=(n:Int)) (w:World) (h:HW t o g c base l w) :
 Calls Tryz.prog 250 #[.slice (some ⟨g,0,none⟩) (n+1) c,.int .i64 0,.int .i64 j] w λe w'=>e=.returned (.tuple #[])/\HW t o g c base (swp l 0 n) w'/\cK (·=g) w w':=by
 subst hj
 by_cases h0:n=0
 ·subst h0
  have:=Kr g 1 c 0 (at_ l 0) w zc (h.at zc) (h.own.frozenAt 0)
  refine this.mono λe w' ⟨he,m,hw⟩=>⟨he,?_,?_⟩
  ·rw [hw];exact (h.swap 0 0).drewN m
  rw [hw];exact (((cK.refl (·=g) w).setCell (p:=⟨g,0,none⟩) (.inr rfl) _).setCell (p:=⟨g,0,none⟩) (.inr rfl) _).drewN m
 grind [t8]
theorem HW.pop {t o g c base n:Nat} {l:List Int} {w:World} (h:HW t o g c base l w) (hl:l.length=n+1):w.ownsRow base 3 1 (.slice (some ⟨g,0,none⟩) n c) n (bL (l.take n)):=by
 have e:bL l=bL (l.take n)++bL (l.drop n):=by simp only [bL,←ahP,List.take_append_drop]
 have h1:=h.own
 rw [e,hl] at h1
 exact ownsRow_pop (by simp [bL];omega) h1
theorem HW.cap {t o g c base:Nat} {l:List Int} {w:World} (h:HW t o g c base l w):l.length<=c:=by
 rcases h.own.2 with ⟨e,_⟩|⟨g',cap,cur,e,_,_,r,_⟩
 all_goals grind
theorem Yo (t o g c base n:Nat) (l:List Int) (w:World) (h:HW t o g c base l w) (hl:l.length=n+1) (hp:Hp (n+1) l) (hi:EH l) (hm:n+1<=1048576) (hf:w.frozen? ⟨t,o,none⟩=false) :
 Calls Tryz.prog 223 #[.iface 284 (.pointer (some ⟨t,o,none⟩))] w λe w'=>e=.returned (.iface 3 (.int .i64 (at_ l 0))) ∧
  ∃l' w1,l'.length=n/\Hp n l'/\EH l'/\(∀x,x∈l'↔x∈l/\x≠at_ l 0)/\w1.ownsRow base 3 1 (.slice (some ⟨g,0,none⟩) n c) n (bL l')/\cK (·=g) w w1 ∧
    w'=w1.setCell ⟨t,o,none⟩ (.slice (some ⟨g,0,none⟩) n c):=by
 have L:=looks ⟨t,o,none⟩ (.slice (some ⟨g,0,none⟩) l.length c)
 have nn:=aaN ⟨t,o,none⟩
 have ns:=N6 ⟨t,o,none⟩
 have np:=aeX ⟨t,o,none⟩
 have mp:=aeW ⟨t,o,none⟩
 have LN:=L.len w h.cell
 have LS:=L.swap w h.cell
 have HL:=Lib.hid hl
 rw [hl] at LN LS
 clear hl
 go_enter Tryz.func223,Tryz.ntmps223
 go_wp2_with fail
 refine (N7 _ _ _ _).mono ?_
 rintro e w0 ⟨rfl,rfl⟩
 go_wp2_with fail
 refine (Kt t o g c base n l HL.out _ zc _ h).mono ?_
 rintro e w1 ⟨rfl,hw1,hk1⟩
 go_wp2_with fail
 have hd:=Vo t o g c base n (swp l 0 n) w1 hw1 (by rw [qW,HL.out];omega) (Te hp HL.out) (by rw [qW,HL.out];exact hm)
 refine (hd.mono ?_)
 rintro e w2 ⟨⟨bb,rfl⟩,l',hs,dK,Dn,hw2,hk2⟩
 clear hd
 have jy:l'.length=n+1:=by rw [hs.len,qW,HL.out]
 have hcell:=hw2.cell
 rw [jy] at hcell
 have hcap:=hw2.cap
 have htlt:=h.lt
 have hf2:w2.frozen? ⟨t,o,none⟩=false:=by
  rw [(hk1.trans hk2).frozen (p:=⟨t,o,none⟩) htlt h.ne]
  exact hf
 have hlast:at_ l' n=at_ l 0:=by
  rw [Dn n (aho _),oR (by rw [HL.out];omega) (by rw [HL.out];omega)]
  simp [sw]
 have hx:=hw2.at (k:=n) zc
 rw [hlast] at hx
 have Tf:=Lib.hid jy
 have aeY:=Lib.hid hlast
 clear jy hlast
 go_wp2_with fail
 refine (Yk t o g n c (at_ l 0) w2 (by have:=Tf.out;omega) hcell hf2 hx hm).mono ?_
 rintro e w3 ⟨rfl,rfl⟩
 go_wp2_with fail
 go_ret
 have sm:=(Same.swp (l:=l) (i:=0) (j:=n) (by rw [HL.out];omega) (by rw [HL.out];omega)).trans hs
 refine⟨rfl,l'.take n,w2,by simp [Tf.out],abS dK,Ym (sm.inj hi),λx=>?_,hw2.pop Tf.out,hk1.trans hk2,rfl⟩
 rw [abR Tf.out (sm.inj hi),sm.mem,aeY.out]
theorem Gw (l:List Int) (x:Int):bL l++[.int .i64 x]=bL (l++[x]):=by simp [bL]
theorem Vp (t o base:Nat) (v:Value) (l:List Int) (x:Int) (w:World) (ht:w.cell? ⟨t,o,none⟩=some v) (hf:w.frozen? ⟨t,o,none⟩=false) (kD:w.ownsRow base 3 1 v l.length (bL l))
 (bV:v.ownBlock≠some t) (hm:l.length+1<=1048576) (hbase:base<=w.heap.size) (hp:Hp l.length l) (htl:t<w.heap.size) :
 Calls Tryz.prog 221 #[.iface 284 (.pointer (some ⟨t,o,none⟩)),.iface 3 (.int .i64 x)] w λe w'=>e=.returned (.tuple #[]) ∧
  ∃g c l',Same (l++[x]) l'/\Hp l'.length l'/\HW t o g c base l' w'/\(v.ownBlock=some g\/w.heap.size<=g) ∧
    ∃w1,cK (λk=>v.ownBlock=some k) w w1/\cK (·=g) (w1.setCell ⟨t,o,none⟩ (.slice (some ⟨g,0,none⟩) (l.length+1) c)) w':=by
 have nn:=aaN ⟨t,o,none⟩
 have np:=ac7 ⟨t,o,none⟩
 have mp:=ac6 ⟨t,o,none⟩
 go_enter Tryz.func221,Tryz.ntmps221
 go_wp2_with fail
 refine (Vm t o base l.length v (bL l) x w ht hf kD bV hm hbase).mono ?_
 rintro e w0 ⟨rfl,g,c,w1,hown1,hg1,Tc,rfl⟩
 have hk1:cK (λk=>v.ownBlock=some k) w w1:=(cK.refl _ _).grown hg1 (λk hk=>.inr hk)
 have hgt:t≠g:=by
  rintro rfl
  rcases Tc with h|h
  ·exact bV h
  omega
 have ht1:w1.cell? ⟨t,o,none⟩=some v:=(hk1.cell (p:=⟨t,o,none⟩) htl bV).trans ht
 have HW1:HW t o g c base (l++[x]) (w1.setCell ⟨t,o,none⟩ (.slice (some ⟨g,0,none⟩) (l.length+1) c)):=by
  refine⟨?_,?_,hgt,by simpa [World.setCell] using ahA htl hk1.size⟩
  ·rw [World.cell?_setCell_same _ _ _ ht1];simp
  rw [ahl,ah5,←Gw]
  refine cK.ownsRow (S:=(·=t)) ((cK.refl (·=t) w1).setCell (p:=⟨t,o,none⟩) (.inr rfl) _) hown1 ?_
  intro k hk e
  simp [Value.ownBlock] at hk
  omega
 have hc:=HW1.cell
 rw [ahl,ah5] at hc
 generalize hW:w1.setCell ⟨t,o,none⟩ (.slice (some ⟨g,0,none⟩) (l.length+1) c)=w2 at *
 have LN:=(looks ⟨t,o,none⟩ (.slice (some ⟨g,0,none⟩) (l.length+1) c)).len w2 hc
 have HWe:=Lib.hid hW
 clear hW ht1 hown1 kD hg1
 go_wp2_with fail
 refine (N7 _ _ _ _).mono ?_
 rintro e w3 ⟨rfl,rfl⟩
 go_wp2_with fail
 have hu:=abT t o g c base (l++[x]) l.length w3 HW1 ahd (Yl hp x) (by simpa using hm)
 refine hu.mono ?_
 rintro e w4 ⟨rfl,l',hs,dK,hw4,hk4⟩
 go_wp2_with fail
 go_end0
 exact⟨rfl,g,c,l',hs,dK,hw4,Tc,w1,hk1,by rw [HWe.out];exact hk4⟩
end
end Go.Proofs.YtbnfiigafobejaaGreat
section
namespace Go.Proofs.YtbnfiigafobejaaGreat.aF
open bG
variable {V U:Type}
abbrev bF (V:Type):=List (Int×V)
def bn (us:bF V):List Int:=us.map (·.1)
def get (us:bF V) (h:Int):Option V:=(us.find? (λp=>p.1 == h)).map (·.2)
def dH:List Int->Prop:=List.Pairwise (· < ·)
def lQ:Int->List Int->Int
 |h,[]=>h
 |h,k::r=>if k=h then lQ (h+1) r else h
def aS (us:bF V):Int:=lQ 1 (bn us)
def ins (h:Int) (v:V):bF V->bF V
 |[]=>[(h,v)]
 |p::r=>if h<p.1 then (h,v)::p::r else p::ins h v r
def del (h:Int) (us:bF V):bF V:=us.filter (λp=>p.1 != h)
def agX (h:Int) (v:V) (us:bF V):bF V:=us.map (λp=>if p.1 == h then (h,v) else p)
structure TI (next:Int) (l:List Int) (us:bF V):Prop where
 fO:dH (bn us)
 pos:∀h∈bn us,1<=h/\h<next
 back:∀h∈l,1<=h/\h<next/\h∉bn us
 all:∀h,1<=h->h<next->h∈bn us\/h∈l
 count:(us.length:Int)+l.length=next-1
 heap:Hp l.length l
 inj:EH l
theorem keys_cons (p:Int×V) (us:bF V):bn (p::us)=p.1::bn us:=rfl
theorem keys_map (f:V->U) (us:bF V):bn (us.map λp=>(p.1,f p.2))=bn us:=by simp [bn]
theorem get_none {us:bF V} {h:Int}:get us h=none↔h∉bn us:=by
 unfold get bn
 rw [Option.map_eq_none_iff,List.find?_eq_none]
 grind
theorem get_some {us:bF V} {h:Int} {v:V} (e:get us h=some v):h∈bn us:=by
 apply ahF
 intro hn
 rw [get_none.2 hn] at e;cases e
theorem get_map (f:V->U) (us:bF V) (h:Int):get (us.map λp=>(p.1,f p.2)) h=(get us h).map f:=by
 unfold get
 rw [List.find?_map]
 simp only [Function.comp_def,Option.map_map]
theorem rP (h:Int) (v:V) (us:bF V) (x:Int):x∈bn (ins h v us)↔x=h\/x∈bn us:=by
 induction us with
 |nil=>simp [ins,bn]
 |cons p r ih=>
   unfold ins
   split
   ·simp [bn]
   rw [keys_cons,keys_cons,aht,aht,ih]
   grind
theorem Au {h:Int} {v:V} {us:bF V} (hr:dH (bn us)) (hn:h∉bn us):dH (bn (ins h v us)):=by
 induction us with
 |nil=>simp [ins,bn,dH]
 |cons p r ih=>
   unfold dH at *
   rw [keys_cons,ahw] at hr
   rw [keys_cons,aht,not_or] at hn
   unfold ins
   split
   ·rename_i fV
    rw [keys_cons,keys_cons,ahw,ahw]
    grind
   rename_i fV
   rw [keys_cons,ahw]
   refine⟨λx hx=>?_,ih hr.2 hn.2⟩
   rcases (rP h v r x).1 hx with e|e
   ·rw [e];have:=hn.1;omega
   exact hr.1 x e
theorem wz {h:Int} {v:V} {us:bF V} (hn:h∉bn us) (x:Int):get (ins h v us) x=if x=h then some v else get us x:=by
 induction us with
 |nil=>
   by_cases e:x=h
   ·subst e;simp [ins,get]
   simp [ins,get,e,Ne.symm e]
 |cons p r ih=>
   rw [keys_cons,aht,not_or] at hn
   unfold ins
   grind [get]
theorem lE (h:Int) (v:V) (us:bF V):(ins h v us).length=us.length+1:=by
 induction us with
 |nil=>rfl
 |cons p r ih=>unfold ins;split<;>simp [ih]
theorem N9 {h:Int} {v:V} {us:bF V} (hl:∀x∈bn us,x<h):ins h v us=us++[(h,v)]:=by
 induction us with
 |nil=>rfl
 |cons p r ih=>
   rw [keys_cons] at hl
   have h1:=hl p.1 ahd
   unfold ins
   grind
theorem Ku (f:V->U) (h:Int) (v:V) (us:bF V):(ins h v us).map (λp=>(p.1,f p.2))=ins h (f v) (us.map λp=>(p.1,f p.2)):=by
 induction us with
 |nil=>rfl
 |cons p r ih=>unfold ins;simp only [ahM];split<;>simp_all
theorem Kv (f:V->U) (h:Int) (us:bF V):(del h us).map (λp=>(p.1,f p.2))=del h (us.map λp=>(p.1,f p.2)):=by
 unfold del;rw [List.filter_map];rfl
theorem uJ (h:Int) (us:bF V):bn (del h us)=(bn us).filter (· != h):=by
 unfold bn del;rw [List.filter_map];rfl
theorem zB (h:Int) (us:bF V) (x:Int):get (del h us) x=if x=h then none else get us x:=by
 by_cases e:x=h
 ·subst e
  rw [ahf rfl,get_none,uJ]
  simp
 rw [ahe e]
 unfold get del
 grind
theorem wC {h:Int} {us:bF V} (hr:dH (bn us)) (hm:h∈bn us):(del h us).length+1=us.length:=by
 induction us with
 |nil=>simp [bn] at hm
 |cons p r ih=>
   unfold dH at *
   rw [keys_cons,ahw] at hr
   unfold del at ih ⊢
   rw [List.filter_cons]
   by_cases e:p.1=h
   ·have:r.filter (λq=>q.1 != h)=r:=by
     rw [List.filter_eq_self]
     intro q hq
     have:=hr.1 q.1 (List.mem_map_of_mem hq)
     simp;omega
    simp [e,this]
   rw [keys_cons,aht] at hm
   grind
theorem qX:∀(ks:List Int) (h:Int),dH ks->(∀x∈ks,h<=x)->h<=lQ h ks/\lQ h ks∉ks/\∀x,h<=x->x<lQ h ks->x∈ks
 |[],h,_,_=>⟨Int.le_refl _,by simp [lQ],λx h1 h2=>by simp [lQ] at h2;omega⟩
 |k::r,h,hr,hge=>by
   unfold dH at hr
   rw [ahw] at hr
   unfold lQ
   by_cases e:k=h
   ·rw [ahf e]
    obtain⟨i1,i2,i3⟩:=qX r (h+1) hr.2 (λx hx=>by have:=hr.1 x hx;omega)
    refine⟨zc,?_,λx h1 h2=>?_⟩
    ·rw [aht,not_or];exact⟨zc,i2⟩
    by_cases e2:x=h
    ·rw [e2,←e];simp
    exact ahq _ (i3 x zc h2)
   rw [ahe e]
   refine⟨Int.le_refl _,?_,λx h1 h2=>zc⟩
   rw [aht,not_or]
   refine⟨Ne.symm e,λhm=>?_⟩
   have h1:=hr.1 h hm
   have h2:=hge k ahd
   omega
theorem EJ {us:bF V} (hr:dH (bn us)) (hp:∀x∈bn us,1<=x) {h:Int} (h1:1<=h) (hn:h∉bn us) (jU:∀x,1<=x->x<h->x∈bn us):aS us=h:=by
 obtain⟨i1,i2,i3⟩:=qX (bn us) 1 hr hp
 grind [aS]
theorem TI.empty:TI 1 [] ([]:bF V):=
 ⟨List.Pairwise.nil,by simp [bn],ahd,λh h1 h2=>zc,rfl,λi h1 h2=>by simp at h2,λa b h1=>by simp at h1⟩
theorem TI.I6 {next:Int} {us:bF V} (h:TI next [] us):aS us=next:=by
 have hc:=h.count
 simp at hc
 refine EJ h.fO (λx hx=>(h.pos x hx).1) zc (λhm=>?_) (λx h1 h2=>(h.all x h1 h2).resolve_right ahd)
 have:=(h.pos _ hm).2;omega
theorem TI.Yp {next:Int} {us:bF V} (h:TI next [] us) (v:V):TI (next+1) [] (ins next v us):=by
 have hc:=h.count
 simp at hc
 have hn:next∉bn us:=λhm=>by have:=(h.pos _ hm).2;omega
 refine⟨Au h.fO hn,λx hx=>?_,ahd,λx h1 h2=>?_,by rw [lE];simp;omega,λi h1 h2=>by simp at h2,λa b h1=>by simp at h1⟩
 ·rcases (rP next v us x).1 hx with e|e
  ·omega
  have:=h.pos x e;omega
 by_cases e:x=next
 ·exact .inl ((rP next v us x).2 (.inl e))
 exact .inl ((rP next v us x).2 (.inr ((h.all x h1 zc).resolve_right ahd)))
theorem TI.I7 {next:Int} {l:List Int} {us:bF V} (h:TI next l us) (hl:0<l.length):aS us=at_ l 0:=by
 have hm:at_ l 0∈l:=Ar.2 ⟨0,hl,rfl⟩
 obtain⟨b1,b2,b3⟩:=h.back _ hm
 refine EJ h.fO (λx hx=>(h.pos x hx).1) b1 b3 (λx h1 h2=>(h.all x h1 zc).resolve_right (λhx=>?_))
 obtain⟨k,hk,e⟩:=Ar.1 hx
 have:=bG.aS h.heap k hk
 omega
theorem TI.Yq {next:Int} {l l':List Int} {us:bF V} (h:TI next l us) (hl:0<l.length) (v:V) (jy:l'.length+1=l.length) (hp:Hp l'.length l') (hi:EH l') (hm:∀x,x∈l'↔x∈l/\x≠at_ l 0) :
 TI next l' (ins (at_ l 0) v us):=by
 have h0:at_ l 0∈l:=Ar.2 ⟨0,hl,rfl⟩
 obtain⟨b1,b2,b3⟩:=h.back _ h0
 have hc:=h.count
 refine⟨Au h.fO b3,λx hx=>?_,λx hx=>?_,λx h1 h2=>?_,by rw [lE];push_cast;omega,hp,hi⟩
 ·rcases (rP _ v us x).1 hx with e|e
  ·omega
  exact h.pos x e
 ·have hx':=(hm x).1 hx
  have:=h.back x hx'.1
  refine⟨this.1,this.2.1,λhk=>?_⟩
  rcases (rP _ v us x).1 hk with e|e
  ·exact hx'.2 e
  exact this.2.2 e
 by_cases e:x=at_ l 0
 ·exact .inl ((rP _ v us x).2 (.inl e))
 rcases h.all x h1 h2 with h3|h3
 ·exact .inl ((rP _ v us x).2 (.inr h3))
 exact .inr ((hm x).2 ⟨h3,e⟩)
theorem TI.drop {next h0:Int} {l l':List Int} {us:bF V} (h:TI next l us) (hm:h0∈bn us) (hs:Same (l++[h0]) l') (hp:Hp l'.length l'):TI next l' (del h0 us):=by
 obtain⟨p1,p2⟩:=h.pos _ hm
 have hn:h0∉l:=λhx=>(h.back _ hx).2.2 hm
 have jy:=hs.len
 rw [ahl,ah5] at jy
 have hc:=h.count
 have hd:=wC h.fO hm
 refine⟨?_,λx hx=>?_,λx hx=>?_,λx h1 h2=>?_,zc,hp,hs.inj ?_⟩
 ·rw [uJ];exact aii _ h.fO
 ·rw [uJ,List.mem_filter] at hx
  exact h.pos x hx.1
 ·rw [hs.mem,ahE,ahO] at hx
  rw [uJ,List.mem_filter]
  rcases hx with hx|hx
  ·have:=h.back x hx
   exact⟨this.1,this.2.1,λhk=>this.2.2 hk.1⟩
  grind
 ·rw [uJ,List.mem_filter,hs.mem,ahE,ahO]
  rcases h.all x h1 h2 with h3|h3
  all_goals grind
 intro a b ha hb e
 rw [ahl,ah5] at ha hb
 have g:∀k,k<l.length->at_ (l++[h0]) k=at_ l k:=λk hk=>by
  grind [at_]
 have g2:at_ (l++[h0]) l.length=h0:=by grind [at_]
 have inl:∀k,k<l.length->at_ l k≠h0:=by grind [Ar]
 by_cases ha':a<l.length
 ·by_cases hb':b<l.length
  ·rw [g a ha',g b hb'] at e;exact h.inj a b ha' hb' e
  grind
 grind
end Go.Proofs.YtbnfiigafobejaaGreat.aF
end
namespace Go.Proofs.YtbnfiigafobejaaGreat
section
open Go.RowKit bG aF Go.Maps
def cQ (us:bF Value):Lit->Option Value
 |.int .i64 h=>aF.get us h
 |_=>none
theorem Kw {us:bF Value} {h:Int} (hn:h∉bn us) (v:Value):ql (cQ us) (.int .i64 h) (some v)=cQ (ins h v us):=by
 funext x
 unfold ql cQ
 cases x with
 |int k n=>
   by_cases hk:k=.i64
   ·subst hk
    simp only [Lit.sameKey,true_and,decide_eq_true_eq]
    rw [wz hn]
   have e:(Lit.int k n).sameKey (.int .i64 h)=false:=by simp [Lit.sameKey,hk]
   grind
 |_=>rfl
theorem Rv {us:bF Value} {h:Int}:ql (cQ us) (.int .i64 h) none=cQ (del h us):=by
 funext x
 unfold ql cQ
 cases x with
 |int k n=>
   by_cases hk:k=.i64
   ·subst hk
    simp only [Lit.sameKey,true_and,decide_eq_true_eq]
    rw [zB]
   grind
 |_=>rfl
structure afD (TT:TypeId) (t m base:Nat) (v:Value) (l:List Int) (next most aI:Int) (us:bF Value) (w:World):Prop where
 ay:w.heap[t]?=some (.cells #[.int .i64 most,.int .i64 aI,.map (some m),v,.int .i64 next] TT (0,0))
 map:kz Tryz.prog 3 w m (cQ us) us.length
 own:w.ownsRow base 3 1 v l.length (bL l)
 ti:TI next l us
 zf:(us.length:Int)<=most
 zh:most<=1024
 zi:next<=most+1
 tt:TT≠3
 bt:base<=t
 bm:base<=m
 Bw:0<=aI/\aI<=1024
def Tab (TT:TypeId) (t m base:Nat) (row:Option Nat) (most aI:Int) (us:bF Value) (w:World):Prop:=
 ∃v l next,afD TT t m base v l next most aI us w/\v.ownBlock=row
section tab
variable {TT:TypeId} {t m base:Nat} {v:Value} {l:List Int} {next most aI:Int} {us:bF Value} {w w':World} {row:Option Nat}
end tab
theorem aX.ofB {P:Program} {β:Bs} {f:FuncId} {args:Array Value} {pre:List HP} {post:Value->List HP->Prop}
 (h:∀F w,(Proofs.YtbnfiigafobejaaGreat.gS pre).h F w->Calls P f args w λe w'=>∃v l,e=.returned v/\post v l/\∃F',(Proofs.YtbnfiigafobejaaGreat.gS l).h F' w'/\Step F w F' w'):aX P β f args pre post:=by
 intro R w hS
 have h1:aR β ([.abs (Proofs.YtbnfiigafobejaaGreat.gS pre)]++[.abs R]) w:=aR.turn (aR.turn hS).gS
 have h2:aX P β f args [.abs (Proofs.YtbnfiigafobejaaGreat.gS pre)] (λv l=>∃l0,post v l0/\l=[.abs (Proofs.YtbnfiigafobejaaGreat.gS l0)]):=
  aX.of1 (λF w hF=>(h F w hF).mono λ_ _ ⟨v,l,e,hp,hF'⟩=>⟨v,.abs (Proofs.YtbnfiigafobejaaGreat.gS l),e,⟨l,hp,rfl⟩,hF'⟩)
 refine (h2 R w h1).mono ?_
 rintro e w' ⟨v,l,he,⟨l0,hp,rfl⟩,yX⟩
 exact⟨v,l0,he,hp,aR.turn (aR.turn yX).su⟩
theorem M7 {p q:HP} {F:Fp} {w:World}:(gS [p,q]).h F w↔∃F1 F2,p.h F1 w/\q.h F2 w/\Apart F1 F2/\∀k,F k↔F1 k\/F2 k:=by
 constructor
 ·rintro⟨φ,h1,h2,h3⟩
  refine⟨φ 0,φ 1,h1 0 p rfl,h1 1 q rfl,h2 0 1 ahd ahd Pd,λk=>(h3 k).trans ⟨λ⟨i,hi,hk⟩=>?_,λh=>?_⟩⟩
  all_goals grind
 rintro⟨F1,F2,h1,h2,h3,h4⟩
 refine⟨λi=>if i=0 then F1 else F2,λi x hx=>?_,λi j hi hj bV=>?_,λk=>(h4 k).trans ⟨λh=>?_,λ⟨i,hi,hk⟩=>?_⟩⟩
 ·grind
 ·grind [gS,Apart]
 ·rcases h with h|h
  ·exact⟨0,ahd,h⟩
  exact⟨1,ahd,h⟩
 grind
theorem aR.aeZ {β:Bs} {l:List HP} {w:World} {A:dV} {ι:Type} {Φ:ι->Prop} {L:ι->List HP} (h:aR β (l++[.abs A]) w) (hA:∀F,A.h F w->∃i,Φ i/\(Proofs.YtbnfiigafobejaaGreat.gS (L i)).h F w):∃i,Φ i/\aR β (l++L i) w:=by
 obtain⟨F,hF⟩:=h.get (i:=l.length) (p:=.abs A) ahd
 have h0:=h
 obtain⟨ho,φ,h1,h2,h3⟩:=h
 obtain⟨i,hi,hB⟩:=hA _ (h1 l.length (.abs A) ahd)
 refine⟨i,hi,aR.su ⟨ho,φ,λj p hp=>?_,λj hj=>h2 j (by simpa using hj),λa b ha hb=>h3 a b (by simpa using ha) (by simpa using hb)⟩⟩
 by_cases e:j<l.length
 ·grind
 have hj:j=l.length:=by have:=dF hp;simp at this;omega
 subst hj
 simp at hp
 subst hp
 exact hB
theorem aR.ac8 {β:Bs} {l R:List HP} {w:World} {A:dV} (h:aR β (l++R) w) (hA:∀F,(Proofs.YtbnfiigafobejaaGreat.gS R).h F w->A.h F w):aR β (l++[.abs A]) w:=by
 obtain⟨ho,φ,h1,h2,h3⟩:=h.gS
 refine⟨ho,φ,λj p hp=>?_,λj hj=>h2 j (by simpa using hj),λa b ha hb=>h3 a b (by simpa using ha) (by simpa using hb)⟩
 by_cases e:j<l.length
 ·grind
 have hj:j=l.length:=by have:=dF hp;simp at this;omega
 subst hj
 simp at hp
 subst hp
 exact hA _ (h1 l.length (.abs (Proofs.YtbnfiigafobejaaGreat.gS R)) ahd)
section rules
variable {P:Program} {β:Bs} {N:fQ} {ops:Array Oper} {k:Nat} {fr:Fr} {ax:List HP} {Q:Post} {c:Code} {e:Exit}
theorem aq.Hv {ι:Type} {Φ:ι->Prop} {hp:ι->List HP} (h:∀w,aR β ax w->∃i,Φ i/\aR β (hp i) w) (K:∀i,Φ i->aq P β N c fr (hp i) Q):aq P β N c fr ax Q:=λai w hS=>let ⟨i,hi,jh⟩:=h w hS;K i hi ai w jh
end rules
theorem D6 {w:World} {t j:Nat} {cs:List Value} {T:TypeId} {u:Value} (h:w.heap[t]?=some (.cells ⟨cs⟩ T (0,0))):(w.setCell ⟨t,j,none⟩ u).heap[t]?=some (.cells ⟨cs.set j u⟩ T (0,0)):=by
 simp [World.setCell,Array.getElem?_modify,h,Array.setIfInBounds_def]
 exact λh=>(List.set_eq_of_length_le h).symm
theorem ac9 {β:Bs} {T:TypeId} {a b c e:Value} {t g cap n:Nat} {l:List Int} (hl:l.length=n+1) (hp:Hp (n+1) l) (hi:EH l) (hm:n+1<=1048576) :
 aX Tryz.prog β 223 #[.iface 284 (.pointer (some ⟨t,3,none⟩))] [.ay t [a,b,c,.slice (some ⟨g,0,none⟩) l.length cap,e] T,.abs (aG 3 1 (some ⟨g,0,none⟩) l.length cap (bL l))]
  (λv r=>v=.iface 3 (.int .i64 (at_ l 0))/\∃l':List Int,l'.length=n/\Hp n l'/\EH l'/\(∀x,x∈l'↔x∈l/\x≠at_ l 0)/\r=[.ay t [a,b,c,.slice (some ⟨g,0,none⟩) n cap,e] T,.abs (aG 3 1 (some ⟨g,0,none⟩) n cap (bL l'))]):=by
 refine aX.ofB (λF w h=>?_)
 obtain⟨F1,F2,⟨h1,h2⟩,hr,hap,hF⟩:=M7.1 h
 have hr:(aG 3 1 (some ⟨g,0,none⟩) l.length cap (bL l)).h F2 w:=hr
 obtain⟨hr1,hr2⟩:=hr
 have hg:F2 g:=(hr2 g).2 rfl
 have bV:t≠g:=λe=>hap t ((h2 t).2 rfl) (e ▸ hg)
 have hc:w.cell? ⟨t,3,none⟩=some (.slice (some ⟨g,0,none⟩) l.length cap)/\w.frozen? ⟨t,3,none⟩=false:=lZ h1 rfl rfl rfl
 have hW:HW t 3 g cap 0 l w:=⟨hc.1,hr1,bV,lt_of_some h1⟩
 refine (Yo t 3 g cap 0 n l w hW hl hp hi hm hc.2).mono ?_
 rintro e' w' ⟨rfl,l',w1,g1,g2,g3,g4,g5,g6,rfl⟩
 have h1':w1.heap[t]?=some (.cells ⟨[a,b,c,.slice (some ⟨g,0,none⟩) l.length cap,e]⟩ T (0,0)):=(g6.block t (lt_of_some h1) (λe=>bV e)).trans h1
 have hks:cK (·=t) w1 (w1.setCell ⟨t,3,none⟩ (.slice (some ⟨g,0,none⟩) n cap)):=(cK.refl (·=t) w1).setCell (p:=⟨t,3,none⟩) (.inr rfl) _
 refine⟨_,_,rfl,⟨rfl,l',g1,g2,g3,g4,rfl⟩,F,M7.2 ⟨F1,F2,⟨D6 h1',h2⟩,⟨hks.ownsRow g5 (λk hk e=>?_),λk=>?_⟩,hap,hF⟩,⟨((g6.mono (S':=F) (λk _ e=>(hF k).2 (.inr (e ▸ hg)))).trans (hks.mono (λk _ e=>(hF k).2 (.inl ((h2 k).2 e))))),λ_ h=>.inl h⟩⟩
 ·cases hk;exact bV e.symm
 rw [hr2 k];simp [Value.ownBlock]
theorem abU {β:Bs} {T:TypeId} {a b c e:Value} {t cap:Nat} {A:Option Addr} {l:List Int} (x:Int) (hp:Hp l.length l) (hm:l.length+1<=1048576) :
 aX Tryz.prog β 221 #[.iface 284 (.pointer (some ⟨t,3,none⟩)),.iface 3 (.int .i64 x)] [.ay t [a,b,c,.slice A l.length cap,e] T,.abs (aG 3 1 A l.length cap (bL l))]
  (λv r=>v=.tuple #[]/\∃(g c':Nat) (l':List Int),Same (l++[x]) l'/\Hp l'.length l'/\r=[.ay t [a,b,c,.slice (some ⟨g,0,none⟩) l'.length c',e] T,.abs (aG 3 1 (some ⟨g,0,none⟩) l'.length c' (bL l'))]):=by
 refine aX.ofB (λF w h=>?_)
 obtain⟨F1,F2,⟨h1,h2⟩,hr,hap,hF⟩:=M7.1 h
 have hr:(aG 3 1 A l.length cap (bL l)).h F2 w:=hr
 obtain⟨hr1,hr2⟩:=hr
 have hc:w.cell? ⟨t,3,none⟩=some (.slice A l.length cap)/\w.frozen? ⟨t,3,none⟩=false:=lZ h1 rfl rfl rfl
 have bV:(Value.slice A l.length cap).ownBlock≠some t:=λe=>hap t ((h2 t).2 rfl) ((hr2 t).2 e)
 refine (Vp t 3 0 (.slice A l.length cap) l x w hc.1 hc.2 hr1 bV hm (ahj _) hp (lt_of_some h1)).mono ?_
 rintro e' w' ⟨rfl,g,c',l',g1,g2,g3,g4,w1,g5,g6⟩
 have Rw:t≠g:=g3.ne
 have jy:l'.length=l.length+1:=by have:=g1.len;simp at this;omega
 have h1':w1.heap[t]?=some (.cells ⟨[a,b,c,.slice A l.length cap,e]⟩ T (0,0)):=(g5.block t (lt_of_some h1) bV).trans h1
 have ada:=D6 (j:=3) (u:=.slice (some ⟨g,0,none⟩) (l.length+1) c') h1'
 have afE:w'.heap[t]?=some (.cells ⟨[a,b,c,.slice (some ⟨g,0,none⟩) l'.length c',e]⟩ T (0,0)):=by
  rw [jy];exact (g6.block t (lt_of_some ada) Rw).trans ada
 have hks:cK (·=t) w1 (w1.setCell ⟨t,3,none⟩ (.slice (some ⟨g,0,none⟩) (l.length+1) c')):=(cK.refl (·=t) w1).setCell (p:=⟨t,3,none⟩) (.inr rfl) _
 refine⟨_,_,rfl,⟨rfl,g,c',l',g1,g2,rfl⟩,λk=>F1 k\/k=g,M7.2 ⟨F1,λk=>k=g,⟨afE,h2⟩,⟨g3.own,λk=>?_⟩,λk hk e=>Rw (((h2 k).1 hk).symm.trans e),λk=>Iff.rfl⟩,⟨?_,λk hk=>?_⟩⟩
 ·simp [Value.ownBlock,eq_comm]
 ·have k1:cK F w w1:=g5.mono (λk _ hk=>(hF k).2 (.inr ((hr2 k).2 hk)))
  have k2:cK F w (w1.setCell ⟨t,3,none⟩ (.slice (some ⟨g,0,none⟩) (l.length+1) c')):=k1.trans (hks.mono (λk _ e=>(hF k).2 (.inl ((h2 k).2 e))))
  exact k2.andThen g6 (λi hi e=>by
   rcases g4 with g4|g4
   ·exact (hF i).2 (.inr ((hr2 i).2 (e ▸ g4)))
   subst e;omega)
 rcases hk with hk|rfl
 ·exact .inl ((hF k).2 (.inl hk))
 rcases g4 with g4|g4
 ·exact .inl ((hF _).2 (.inr ((hr2 _).2 g4)))
 exact .inr g4
structure lF (next:Int) (l:List Int) (us:bF Value) (most aI:Int):Prop where
 ti:TI next l us
 zf:(us.length:Int)<=most
 zh:most<=1024
 zi:next<=most+1
 Dp:next<=aI+1
 Bw:0<=aI/\aI<=1024
theorem lF.Oa {next:Int} {l:List Int} {us:bF Value} {most aI:Int} (h:lF next l us most aI):1<=aF.aS us/\aF.aS us<=next/\aF.aS us∉bn us/\next<=1025/\1<=next/\us.length<=1024/\l.length<=1024:=by
 obtain⟨h1,h2,h3⟩:=qX (bn us) 1 h.ti.fO (λx hx=>(h.ti.pos x hx).1)
 have hc:=h.ti.count
 have m0:=h.zf
 have m1:=h.zh
 have n1:=h.zi
 refine⟨h1,?_,h2,zc,zc,zc,zc⟩
 rcases Int.lt_or_le next (aF.aS us) with h4|h4
 ·have:=h3 next zc h4
  have:=(h.ti.pos _ this).2
  omega
 exact h4
theorem Ob:cQ []=λ_=>none:=by
 funext x
 unfold cQ
 split<;>rfl
theorem LB {us:bF Value} {h:Int} (hn:h∉bn us):cQ us (.int .i64 h)=none:=get_none.2 hn
structure TX where
 m:Nat
 A:Option Addr
 c:Nat
 l:List Int
 next:Int
def rR (TT:TypeId) (t:Nat) (most aI:Int) (us:bF Value) (x:TX):List HP:=
 [.ay t [.int .i64 most,.int .i64 aI,.map (some x.m),.slice x.A x.l.length x.c,.int .i64 x.next] TT,.abs (bD Tryz.prog 3 x.m (cQ us) us.length),.abs (aG 3 1 x.A x.l.length x.c (bL x.l))]
def fD (TT:TypeId) (t:Nat) (most aI:Int) (us:bF Value):dV where
 h F w:=∃x:TX,lF x.next x.l us most aI/\(gS (rR TT t most aI us x)).h F w
 lt:=λ⟨_,_,h⟩ k hk=>dV.lt _ h k hk
 st:=λ⟨x,h1,h⟩ _ _ hk hn=>⟨x,h1,dV.st _ h hk hn⟩
theorem aR.wD {β:Bs} {TT:TypeId} {t:Nat} {most aI:Int} {us:bF Value} {l:List HP} {w:World} (h:aR β (l++[.abs (fD TT t most aI us)]) w):∃x:TX,lF x.next x.l us most aI/\aR β (l++rR TT t most aI us x) w:=
 h.aeZ (λ_ h=>h)
theorem aR.rS {β:Bs} {TT:TypeId} {t:Nat} {most aI:Int} {us:bF Value} {l:List HP} {w:World} (x:TX) (hx:lF x.next x.l us most aI) (h:aR β (l++rR TT t most aI us x) w):aR β (l++[.abs (fD TT t most aI us)]) w:=
 h.ac8 (λ_ h=>⟨x,hx,h⟩)
end
section
open Go.RowKit Go.Maps Go.Sort Go.Shelf bG aF
theorem mB {z:Int} (h:(Lit.int .i64 z).wf=true):keyOf Tryz.prog 3 (.int .i64 z)=some (.int .i64 z):=
 keyOf_int_mk Tryz.underlying3 h
theorem LC:∀{l m:List Int},l.Pairwise (· < ·)->m.Pairwise (· < ·)->(∀z,z∈l↔z∈m)->l=m
 |[],[],_,_,_=>rfl
 |[],b::m,_,_,h=>by have:=(h b).2 (ahr ..);cases this
 |a::l,[],_,_,h=>by have:=(h a).1 (ahr ..);cases this
 |a::l,b::m,hl,hm,h=>by
   have hl':=ahw.1 hl
   have hm':=ahw.1 hm
   have e:a=b:=by
    rcases aht.1 ((h a).1 (ahr ..)) with e|e
    ·exact e
    rcases aht.1 ((h b).2 (ahr ..)) with e2|e2
    ·exact e2.symm
    have:=hm'.1 a e;have:=hl'.1 b e2;omega
   subst e
   congr 1
   refine LC hl'.2 hm'.2 (λz=>⟨λhz=>?_,λhz=>?_⟩)
   ·rcases aht.1 ((h z).1 (ahq _ hz)) with e|e
    ·have:=hl'.1 z hz;omega
    exact e
   rcases aht.1 ((h z).2 (ahq _ hz)) with e|e
   ·have:=hm'.1 z hz;omega
   exact e
theorem Tg (x y:Int):(if y>x then y else x)=max x y:=by
 rw [Int.max_def];split<;>split<;>omega
theorem aaO (x y:Int):(if y<x then y else x)=min x y:=by
 rw [Int.min_def];split<;>split<;>omega
theorem adb (m:Nat):AnyZI.SortsIn Tryz.prog Tryz.sortedI_ren Fence.wide m:=
 ⟨λay off cap ss W hH hblk eG=>callsIn_wide.2 (AnyM.slices_Sort_int Tryz.sortI ay off cap ss W hH hblk eG),
  λp cap W=>callsIn_wide.2 (AnyM.slices_Sort_int_none Tryz.sortI p cap W)⟩
def I8 (bk:Nat):Value:=.func (.func 93) #[] #[.pointer (some ⟨bk,0,none⟩)]
theorem Oc {β:Bs} (mb:Option Nat):aX Tryz.prog β 67 #[.map mb] [] (λv l=>∃bk,v=I8 bk/\l=[.ay bk [.map mb] 129]):=
 aX.Nk λW _=>by
  have h:CallsIn Fence.wide 5 Tryz.prog 67 #[.map mb] W λe w'=>e=.returned (I8 W.heap.size)/\w'=W.alloc (.cells #[.map mb] 129):=AnyZI.keys_in Tryz.keysI Fence.wide 5 trivial rfl mb W
  refine ((callsIn_wide (n:=5)).1 h).mono ?_
  rintro e w' ⟨rfl,rfl⟩
  refine⟨_,_,rfl,⟨W.heap.size,rfl,rfl⟩,(cK.refl _ _).alloc _,λk=>k=W.heap.size,⟨?_,λk=>Iff.rfl⟩,λk hk=>Nat.le_of_eq hk.symm⟩
  show (W.heap.push _)[W.heap.size]?=_
  simp
structure KeysOf (f:Lit->Option Value) (ss:List Int):Prop where
 mem:∀z,z∈ss↔(f (.int .i64 z)).isSome=true
 sorted:ss.Pairwise (· < ·)
theorem Ti {w:World} {b n:Nat} {K:TypeId} {f:Lit->Option Value} {D:DataW Value} (hK:Tryz.prog.underlying K=some (.int .i64)) (L:Keyed Tryz.prog K) (kD:w.ownsMap Tryz.prog K y6 b n D) (hf:∀kl,Maps.has D kl=(f kl).isSome) {ss:List Int} (hp:ss.Perm (intKeys D)) :
 KeysOf f (ss.mergeSort (λx y=>decide (x<=y))):=by
 obtain⟨es,hD,hpw,_⟩:=kD.entries L
 obtain⟨es',hD',hko⟩:=kD.keysOf
 obtain rfl:es=es':=by rw [hD] at hD';simpa using hD'
 have hk:∀p∈es,∃x,p.1=.int .i64 x:=λp hp=>by
  obtain⟨v,hv⟩:=hko p hp
  obtain⟨x,_,h,_⟩:=keyOf_i64 hK hv
  exact⟨x,h⟩
 have hmem:∀z,z∈intKeys D↔(f (.int .i64 z)).isSome=true:=λz=>by
  rw [←hf,hD]
  show z∈es.map (λp=>Go.intOf p.1)↔es.any (λp=>p.1.sameKey (.int .i64 z))=true
  rw [ahx,List.any_eq_true]
  refine⟨λ⟨p,hp,e⟩=>⟨p,hp,?_⟩,λ⟨p,hp,e⟩=>⟨p,hp,?_⟩⟩
  ·obtain⟨x,hx⟩:=hk p hp
   rw [hx] at e ⊢
   have e:x=z:=e
   simp [Lit.sameKey,e]
  obtain⟨x,hx⟩:=hk p hp
  rw [hx] at e ⊢
  show x=z
  simpa [Lit.sameKey] using e
 have hnd:(intKeys D).Nodup:=by
  rw [hD]
  show (es.map λp=>Go.intOf p.1).Nodup
  rw [List.nodup_iff_pairwise_ne,List.pairwise_map]
  refine hpw.imp_of_mem (λ{p q} hp hq bV e=>bV ?_)
  obtain⟨x,hx⟩:=hk p hp
  obtain⟨y,hy⟩:=hk q hq
  rw [hx,hy] at e ⊢
  have e:x=y:=e
  rw [e]
 have tr:∀a b c:Int,decide (a<=b)=true->decide (b<=c)=true->decide (a<=c)=true:=Pe
 have to:∀a b:Int,(decide (a<=b) || decide (b<=a))=true:=Pe
 have hperm:=(List.mergeSort_perm ss (λx y=>decide (x<=y))).trans hp
 refine⟨λz=>by rw [hperm.mem_iff,hmem],?_⟩
 have h1:=List.pairwise_mergeSort tr to ss
 have h2:(ss.mergeSort (λx y=>decide (x<=y))).Nodup:=hperm.nodup_iff.2 hnd
 rw [List.nodup_iff_pairwise_ne] at h2
 refine (h1.and h2).imp (λ{a b} h=>?_)
 grind
theorem I9 {β:Bs} (b bk n:Nat) (f:Lit->Option Value) (hn:n<=16777216) :
 aX Tryz.prog β 66 #[I8 bk] [.abs (bD Tryz.prog 3 b f n),.ay bk [.map (some b)] 129] (λv l=>∃A cap ss,v=.slice A ss.length cap/\KeysOf f ss/\ss.length=n ∧
  l=[.abs (bD Tryz.prog 3 b f n),.ay bk [.map (some b)] 129,.abs (aG 3 1 A ss.length cap (bL ss))]):=by
 intro R w hS
 obtain⟨F1,h1⟩:=hS.get (i:=0) (p:=.abs (bD Tryz.prog 3 b f n)) rfl
 obtain⟨F2,h2⟩:=hS.get (i:=1) (p:=.ay bk [.map (some b)] 129) rfl
 obtain⟨D,kD,eG,hhas,_⟩:=h1.1
 have hcell:w.cell? ⟨bk,0,none⟩=some (.map (some b)):=(lZ h2.1 rfl rfl rfl).1
 have hseq:SeqGives Fence.wide 2 Tryz.prog 93 #[.pointer (some ⟨bk,0,none⟩)] encZ (λss=>ss.Perm (intKeys D)) (Maps.size D) w:=
  AnyZI.keys_gives (ρ:=Tryz.keysI_ren) {Tryz.keysI with} Fence.wide _ trivial rfl zc bk b n D w (lt_of_some h2.1) hcell kD
 have cS:=AnyZI.sorted_in Tryz.sortedI Fence.wide 5 trivial trivial trivial trivial rfl zc (adb _) (enters_of Tryz.func92 KB rfl) 93 #[.pointer (some ⟨bk,0,none⟩)] trivial (enters_of Tryz.func93 KB rfl) _ _ (by rw [eG];unfold maxLen;omega) (by rw [eG];omega) _ hseq
 change CallsIn _ _ Tryz.prog 66 _ _ _ at cS
 refine ((callsIn_wide (n:=5)).1 cS).mono ?_
 rintro e w' ⟨v,ss,rfl,hp,hrow,hnil,hb⟩
 have jy:(ss.mergeSort (λx y=>decide (x<=y))).length=ss.length:=List.length_mergeSort ss
 have hkeys:=Ti Tryz.underlying3 iY kD hhas hp
 have Eh:∃A cap,v=.slice A ss.length cap:=by
  rcases hrow.2 with ⟨e1,e2⟩|⟨g,cp,cur,e1,_⟩
  all_goals grind
 obtain⟨A,cap,rfl⟩:=Eh
 have hn1:ss.length=n:=by
  rw [hp.length_eq,←eG]
  obtain⟨es,hD,_⟩:=kD.entries iY
  rw [hD]
  exact ahz ..
 have hq:aR β ([.abs (bD Tryz.prog 3 b f n),.ay bk [.map (some b)] 129,.abs R]++[.abs (aG 3 1 A ss.length cap (bL (ss.mergeSort (λx y=>decide (x<=y)))))]) w':=by
  refine aR.new (F:=λk=>(Value.slice A ss.length cap).ownBlock=some k) hS ⟨?_,λk=>Iff.rfl⟩ ⟨hb.os,hb.tape,hb.output,hb.size,λk hk _=>hb.block k hk⟩ (λk hk=>(hrow.lt k hk).1)
  refine⟨hrow.1,?_⟩
  rcases hrow.2 with h|⟨g,cp,cur,e1,_,h3,h4⟩
  ·exact .inl h
  exact .inr ⟨g,cp,cur,e1,ahj _,h3,h4⟩
 exact⟨_,[.abs (bD Tryz.prog 3 b f n),.ay bk [.map (some b)] 129,.abs (aG 3 1 A ss.length cap (bL (ss.mergeSort (λx y=>decide (x<=y)))))],rfl,⟨A,cap,ss.mergeSort (λx y=>decide (x<=y)),by rw [jy],hkeys,by rw [jy];exact hn1,by rw [jy]⟩,hq.pick (ar:=[0,1,3,2]) rfl rfl⟩
end
section
open Go.RowKit bG aF Go.Maps
attribute [local irreducible] av bP aq aB kV
theorem Rx {us:bF Value} {ss:List Int} (hr:aF.dH (bn us)) (h:KeysOf (cQ us) ss):ss=bn us:=by
 refine LC h.sorted hr (λz=>?_)
 rw [h.mem]
 show (aF.get us z).isSome=true↔z∈bn us
 refine⟨λh=>?_,λh=>?_⟩
 ·obtain⟨x,hx⟩:=Option.isSome_iff_exists.1 h;exact get_some hx
 cases hg:aF.get us z with
 |some x=>rfl
 |none=>exact ahh h (get_none.1 hg)
theorem Yr {β:Bs} (most:Int) :
 aX Tryz.prog β 64 #[vI (most)] [] (λv l=>∃t,v=vP t/\l=[.abs (fD 182 t (min (max most 0) 1024) 0 [])]):=by
 exact SE Tryz.func64 Tryz.ntmps64 (λR=>SR (jK 1 [] [] (NS (jK 3 [5] [(1,w_ (.int .i64 (max most 0)) (ahg (Value.int .i64) (Tg _ _))),(2,w_ (.int .i64 (min (max most 0) 1024)) (ahg (Value.int .i64) (aaO _ _)))] (av.tG (d:=(some 6)) (t:=129) (λ_=>KB) Tryz.prog rfl 3 (λm1=>jB 3 [2] (λb2=>.ay b2 [vI (min (max most 0) 1024),vI 0,.map (some m1),.slice none (0) (0),vI 1] 182) (λb2=>NN (aq.ret (aB.mem (λw hS=>hS.mF (e:=3) (size:=1)) (aB.mem (eZ:=[.abs R,.abs (fD 182 b2 (min (max most 0) 1024) 0 [])]) (λw hS=>aR.rS (l:=[.abs R]) ⟨m1,none,0,[],1⟩ ⟨TI.empty,Pe,zc,Pe,by show (1:Int)<=0+1;decide,Pd⟩ (by rw [←Ob] at hS;exact hS.pick (ar:=[0,2,1,3]) (l':=[.abs R]++rR 182 b2 (min (max most 0) 1024) 0 [] ⟨m1,none,0,[],1⟩) rfl rfl)) (RT _ [1,0] (⟨b2,rfl,rfl⟩))))))))))))
theorem Vq {β:Bs} (t:Nat) (most aI:Int) (us:bF Value) :
 aX Tryz.prog β 89 #[vP t] [.abs (fD 182 t most aI us)] (λv l=>v=vI aI/\l=[.abs (fD 182 t most aI us)]):=by
 refine SE Tryz.func89 Tryz.ntmps89 (λR=>aq.seq (aq.Hv (Φ:=λx:TX=>lF x.next x.l us most aI) (hp:=λx=>[.abs R]++rR 182 t most aI us x) (λw hS=>(hS.pick (ar:=[1,0]) (l':=[.abs R]++[.abs (fD 182 t most aI us)]) rfl rfl).wD) (λx hT=>?_)))
 obtain⟨m,A,c,l,next⟩:=x
 replace hT:lF next l us most aI:=hT
 have hb:=hT.Oa
 have hm0:=hT.zf
 have hm1:=hT.zh
 have hn1:=hT.zi
 have hn2:=hT.Dp
 have Od:=hT.Bw
 have Ry:=hT.ti.count
 show aq _ _ _ _ _ [.abs R,.ay t [vI (most),vI (aI),.map (some m),.slice A (l.length) (c),vI (next)] 182,.abs (bD Tryz.prog 3 m (cQ us) us.length),.abs (aG 3 1 A l.length c (bL l))] _
 exact aq.region (jK 1 [] [] (NS (jK 5 [2] [(3,a_ 1 t)] (NN (aq.ret (aB.mem (λw hS=>aR.rS (l:=[.abs R]) ⟨m,A,c,l,next⟩ (show lF (next) l (us) most (aI) from hT) (hS.pick (ar:=[0,1,2,3]) (l':=[.abs R]++rR 182 t most (aI) (us) ⟨m,A,c,l,next⟩) rfl rfl)) (RT _ [1,0] (⟨rfl,rfl⟩))))))))
theorem rU {β:Bs} (t:Nat) (most aI:Int) (us:bF Value) (h:Int) (hw:(Lit.int .i64 h).wf=true) (x:Value) (hg:aF.get us h=some x) :
 aX Tryz.prog β 210 #[vP t,vI (h)] [.abs (fD 182 t most aI us)] (λv l=>v=.tuple #[x,vI 0]/\l=[.abs (fD 182 t most aI us)]):=by
 refine SE Tryz.func210 Tryz.ntmps210 (λR=>aq.seq (aq.Hv (Φ:=λx:TX=>lF x.next x.l us most aI) (hp:=λx=>[.abs R]++rR 182 t most aI us x) (λw hS=>(hS.pick (ar:=[1,0]) (l':=[.abs R]++[.abs (fD 182 t most aI us)]) rfl rfl).wD) (λx hT=>?_)))
 obtain⟨m,A,c,l,next⟩:=x
 replace hT:lF next l us most aI:=hT
 have hb:=hT.Oa
 have hm0:=hT.zf
 have hm1:=hT.zh
 have hn1:=hT.zi
 have hn2:=hT.Dp
 have Od:=hT.Bw
 have Ry:=hT.ti.count
 show aq _ _ _ _ _ [.abs R,.ay t [vI (most),vI (aI),.map (some m),.slice A (l.length) (c),vI (next)] 182,.abs (bD Tryz.prog 3 m (cQ us) us.length),.abs (aG 3 1 A l.length c (bL l))] _
 exact aq.region (jK 2 [] [] (NS (jK 5 [12,13] [(3,a_ 1 t)] (av.Bn 2 (d:=(some 14)) (t:=129) (K:=3) (E:=133) (b:=m) (n:=us.length) (f:=(cQ us)) (x:=(.tmp 12)) (ix:=(.tmp 13)) (key:=vI (h)) (z:=.nilIface) (kl:=(.int .i64 h)) (r:=(some x)) (λ_=>KB) KB (λ_=>KB) (λ_=>KB) iY Tryz.underlying129 (λ_=>KB) (mB hw) (hg) (jK 5 [6,7] [] (NZ (jK 2 [18] [] (NF (KX (SR (jK 3 [4,5] [] (NN (aq.ret (aB.mem (λw hS=>aR.rS (l:=[.abs R]) ⟨m,A,c,l,next⟩ (show lF (next) l (us) most (aI) from hT) (hS.pick (ar:=[0,1,2,3]) (l':=[.abs R]++rR 182 t most (aI) (us) ⟨m,A,c,l,next⟩) rfl rfl)) (RT _ [1,0] (⟨rfl,rfl⟩))))))))))))))))
theorem xU {β:Bs} (t:Nat) (most aI:Int) (us:bF Value) (h:Int) (hw:(Lit.int .i64 h).wf=true) (hg:aF.get us h=none) :
 aX Tryz.prog β 210 #[vP t,vI (h)] [.abs (fD 182 t most aI us)] (λv l=>v=.tuple #[.nilIface,vI 131]/\l=[.abs (fD 182 t most aI us)]):=by
 refine SE Tryz.func210 Tryz.ntmps210 (λR=>aq.seq (aq.Hv (Φ:=λx:TX=>lF x.next x.l us most aI) (hp:=λx=>[.abs R]++rR 182 t most aI us x) (λw hS=>(hS.pick (ar:=[1,0]) (l':=[.abs R]++[.abs (fD 182 t most aI us)]) rfl rfl).wD) (λx hT=>?_)))
 obtain⟨m,A,c,l,next⟩:=x
 replace hT:lF next l us most aI:=hT
 have hb:=hT.Oa
 have hm0:=hT.zf
 have hm1:=hT.zh
 have hn1:=hT.zi
 have hn2:=hT.Dp
 have Od:=hT.Bw
 have Ry:=hT.ti.count
 show aq _ _ _ _ _ [.abs R,.ay t [vI (most),vI (aI),.map (some m),.slice A (l.length) (c),vI (next)] 182,.abs (bD Tryz.prog 3 m (cQ us) us.length),.abs (aG 3 1 A l.length c (bL l))] _
 exact aq.region (jK 2 [] [] (NS (jK 5 [12,13] [(3,a_ 1 t)] (av.Bn 2 (d:=(some 14)) (t:=129) (K:=3) (E:=133) (b:=m) (n:=us.length) (f:=(cQ us)) (x:=(.tmp 12)) (ix:=(.tmp 13)) (key:=vI (h)) (z:=.nilIface) (kl:=(.int .i64 h)) (r:=none) (λ_=>KB) KB (λ_=>KB) (λ_=>KB) iY Tryz.underlying129 (λ_=>KB) (mB hw) (hg) (jK 5 [6,7] [] (NZ (jK 2 [18] [] (NT (SR (jK 3 [4,5] [] (NN (aq.ret (aB.bE (aB.mem (λw hS=>aR.rS (l:=[.abs R]) ⟨m,A,c,l,next⟩ (show lF (next) l (us) most (aI) from hT) (hS.pick (ar:=[0,1,2,3]) (l':=[.abs R]++rR 182 t most (aI) (us) ⟨m,A,c,l,next⟩) rfl rfl)) (RT _ [1,0] (⟨rfl,rfl⟩))))))))))))))))
theorem EK {β:Bs} (t:Nat) (most aI:Int) (us:bF Value) (x:Value) (hf:most<=(us.length:Int)) :
 aX Tryz.prog β 217 #[vP t,x] [.abs (fD 182 t most aI us)] (λv l=>v=.tuple #[vI 0,vI 130]/\l=[.abs (fD 182 t most aI us)]):=by
 refine SE Tryz.func217 Tryz.ntmps217 (λR=>aq.seq (aq.Hv (Φ:=λx:TX=>lF x.next x.l us most aI) (hp:=λx=>[.abs R]++rR 182 t most aI us x) (λw hS=>(hS.pick (ar:=[1,0]) (l':=[.abs R]++[.abs (fD 182 t most aI us)]) rfl rfl).wD) (λx hT=>?_)))
 obtain⟨m,A,c,l,next⟩:=x
 replace hT:lF next l us most aI:=hT
 have hb:=hT.Oa
 have hm0:=hT.zf
 have hm1:=hT.zh
 have hn1:=hT.zi
 have hn2:=hT.Dp
 have Od:=hT.Bw
 have Ry:=hT.ti.count
 show aq _ _ _ _ _ [.abs R,.ay t [vI (most),vI (aI),.map (some m),.slice A (l.length) (c),vI (next)] 182,.abs (bD Tryz.prog 3 m (cQ us) us.length),.abs (aG 3 1 A l.length c (bL l))] _
 exact aq.region (jK 2 [] [] (NN (aq.seq (aq.seq (rQ (jQ 4 [10] [(3,a_ 1 t)] (bP.CD 2 (d:=(some 11)) (t:=129) (K:=3) (E:=133) (b:=m) (n:=us.length) (f:=(cQ us)) (x:=(.tmp 10)) (ats:=#[129]) (λ_=>KB) KB (λ_=>KB) rfl Tryz.underlying129 (jQ 5 [16] [(3,a_ 1 t)] (NQ (NX (cP ((((us.length:Nat):Int):Int)>=(most:Int)) (λpz=>SR (jK 2 [4,5] [] (NN (aq.ret (aB.bE (aB.mem (λw hS=>aR.rS (l:=[.abs R]) ⟨m,A,c,l,next⟩ (show lF (next) l (us) most (aI) from hT) (hS.pick (ar:=[0,1,2,3]) (l':=[.abs R]++rR 182 t most (aI) (us) ⟨m,A,c,l,next⟩) rfl rfl)) (RT _ [1,0] (⟨rfl,rfl⟩)))))))) (λpz=>ahh pz (by omega)))))))))))))
theorem Hw {β:Bs} (t:Nat) (most aI:Int) (us:bF Value) (x:Value) (hf:(us.length:Int)<most) :
 aX Tryz.prog β 217 #[vP t,x] [.abs (fD 182 t most aI us)] (λv l=>v=.tuple #[vI (aS us),vI 0]/\l=[.abs (fD 182 t most (max aI ((us.length:Int)+1)) (ins (aS us) x us))]):=by
 refine SE Tryz.func217 Tryz.ntmps217 (λR=>aq.seq (aq.Hv (Φ:=λx:TX=>lF x.next x.l us most aI) (hp:=λx=>[.abs R]++rR 182 t most aI us x) (λw hS=>(hS.pick (ar:=[1,0]) (l':=[.abs R]++[.abs (fD 182 t most aI us)]) rfl rfl).wD) (λx hT=>?_)))
 obtain⟨m,A,c,l,next⟩:=x
 replace hT:lF next l us most aI:=hT
 have hb:=hT.Oa
 have hm0:=hT.zf
 have hm1:=hT.zh
 have hn1:=hT.zi
 have hn2:=hT.Dp
 have Od:=hT.Bw
 have Ry:=hT.ti.count
 show aq _ _ _ _ _ [.abs R,.ay t [vI (most),vI (aI),.map (some m),.slice A (l.length) (c),vI (next)] 182,.abs (bD Tryz.prog 3 m (cQ us) us.length),.abs (aG 3 1 A l.length c (bL l))] _
 refine aq.region (jK 2 [] [] (NN (aq.seq (aq.seq (rQ (jQ 4 [10] [(3,a_ 1 t)] (bP.CD 2 (d:=(some 11)) (t:=129) (K:=3) (E:=133) (b:=m) (n:=us.length) (f:=(cQ us)) (x:=(.tmp 10)) (ats:=#[129]) (λ_=>KB) KB (λ_=>KB) rfl Tryz.underlying129 (jQ 5 [16] [(3,a_ 1 t)] (NQ (NX (cP ((((us.length:Nat):Int):Int)>=(most:Int)) (λpz=>ahh pz (by omega)) (λpz=>KX (SR (jK 5 [6] [(3,a_ 1 t)] (NZ (jK 6 [26] [(3,a_ 1 t)] (NN (cP ((((l.length:Nat):Int):Int)>(0:Int)) (λyS=>?_) (λyS=>?_)))))))))))))))))))
 ·refine aq.region ?_
  obtain⟨n,hn⟩:∃n,l.length=n+1:=⟨l.length-1,zc⟩
  refine av.tell (p:=∃g,A=some ⟨g,0,none⟩) (λw hS=>let ⟨F,h⟩:=hS.get (i:=3) rfl;aG.head h zc) (λ⟨g,hg⟩=>?_)
  subst hg
  refine jK 4 [31] [] (gL (args:=#[.iface 284 (.pointer (some ⟨t,3,none⟩))]) (pre:=[.ay t [vI (most),vI (aI),.map (some m),.slice (some ⟨g,0,none⟩) (l.length) (c),vI (next)] 182,.abs (aG 3 1 (some ⟨g,0,none⟩) l.length c (bL l))]) [1,3] (ac9 hn (by have:=hT.ti.heap;rwa [hn] at this) hT.ti.inj zc) ?_)
  rintro _ _ ⟨rfl,l2,rfl,hp2,hi2,hm2,rfl⟩
  exact jK 5 [6] [] (NS (sl 6 (vI ((at_ l 0))) (.int .i64 ((aS us))) (by rw [hT.ti.I7 zc]) (jK 6 [46,47,48] [(3,a_ 0 t)] (av.qU 3 (d:=none) (t:=129) (K:=3) (E:=133) (b:=m) (n:=us.length) (f:=(cQ us)) (x:=(.tmp 46)) (ix:=(.tmp 47)) (y:=(.tmp 48)) (key:=vI ((aS us))) (u:=x) (kl:=(.int .i64 (aS us))) (n':=(us.length+1)) (f':=(cQ (ins (aS us) x us))) (λ_=>KB) KB (λ_=>KB) (λ_=>KB) (λ_=>KB) iY Tryz.underlying129 (by unfold maxLen;omega) (wu zc zc) (by rw [LB hb.2.2.1];rfl) (Kw hb.2.2.1 x) (NN (aq.seq (aq.xj 13 KB KB (kV.seg (k':=9) (bY:=[(6,vI ((aS us))),(49,vP t),(53,vI (aI)),(57,.map (some m))]) (fe:=[t=t,t=t]) [o_,o_,o_,o_,⟨[.at 0],none,none,none,none⟩,o_,o_,o_,⟨[.at 0],none,none,none,none⟩] [6,49,53,57] (λ_ _=>KB) ⟨rfl,rfl,trivial⟩ Pd (kV.CD 3 (d:=(some 58)) (t:=129) (K:=3) (E:=133) (b:=m) (cnt:=(us.length+1)) (f:=(cQ (ins (aS us) x us))) (x:=(.tmp 57)) (ats:=#[129]) (λ_=>KB) KB (λ_=>KB) rfl Tryz.underlying129 Pd (kV.seg (k':=13) (bY:=[(6,vI ((aS us))),(59,vI ((max aI ((us.length:Int)+1)))),(61,.pointer (some ⟨t,1,none⟩))]) (fe:=[(Value.int .i64 (if (((us.length+1):Nat):Int)>aI then (((us.length+1):Nat):Int) else aI))=(.int .i64 ((max aI ((us.length:Int)+1))))]) [⟨[],none,none,none,some (vI ((max aI ((us.length:Int)+1))))⟩,o_,o_] [6,59,61] (λ_ _=>KB) ⟨by rw [Tg];rfl,trivial⟩ Pd (kV.done rfl (jC 1 [] [(0,a_ 0 t)] [(0,[(1,vI ((max aI ((us.length:Int)+1))))])] (NS (jK 3 [4,5] [] (NN (aq.ret (aB.gH [(3,.abs (bD Tryz.prog 3 m (cQ (ins (aS us) x us)) ((ins (aS us) x us).length)))] (λw hS=>by rw [lE];exact hS) (aB.mem (λw hS=>aR.rS (l:=[.abs R]) ⟨m,some ⟨g,0,none⟩,c,l2,next⟩ (show lF (next) l2 ((ins (aS us) x us)) most ((max aI ((us.length:Int)+1))) from ⟨by rw [hT.ti.I7 zc];exact hT.ti.Yq zc x zc hp2 hi2 hm2,by rw [lE];omega,zc,zc,zc,zc⟩) (hS.pick (ar:=[2,0,3,1]) (l':=[.abs R]++rR 182 t most ((max aI ((us.length:Int)+1))) ((ins (aS us) x us)) ⟨m,some ⟨g,0,none⟩,c,l2,next⟩) rfl rfl)) (RT _ [1,0] (⟨rfl,rfl⟩))))))))))))))))))))
 refine aq.region ?_
 have hl0:l=[]:=ahV zc
 have hl1:l.length=0:=by rw [hl0];rfl
 have hl2:TI next [] us:=hl0 ▸ hT.ti
 exact jC 8 [] [(3,a_ 1 t),(4,wI (next+1) ((next+1))),(7,a_ 1 t)] [(1,[(4,vI ((next+1)))])] (NS (sl 6 (vI (next)) (.int .i64 ((aS us))) (by rw [hl2.I6]) (jK 6 [46,47,48] [(3,a_ 1 t)] (av.qU 2 (d:=none) (t:=129) (K:=3) (E:=133) (b:=m) (n:=us.length) (f:=(cQ us)) (x:=(.tmp 46)) (ix:=(.tmp 47)) (y:=(.tmp 48)) (key:=vI ((aS us))) (u:=x) (kl:=(.int .i64 (aS us))) (n':=(us.length+1)) (f':=(cQ (ins (aS us) x us))) (λ_=>KB) KB (λ_=>KB) (λ_=>KB) (λ_=>KB) iY Tryz.underlying129 (by unfold maxLen;omega) (wu zc zc) (by rw [LB hb.2.2.1];rfl) (Kw hb.2.2.1 x) (NN (aq.seq (aq.xj 13 KB KB (kV.seg (k':=9) (bY:=[(6,vI ((aS us))),(49,vP t),(53,vI (aI)),(57,.map (some m))]) (fe:=[t=t,t=t]) [o_,o_,o_,o_,⟨[.at 1],none,none,none,none⟩,o_,o_,o_,⟨[.at 1],none,none,none,none⟩] [6,49,53,57] (λ_ _=>KB) ⟨rfl,rfl,trivial⟩ Pd (kV.CD 2 (d:=(some 58)) (t:=129) (K:=3) (E:=133) (b:=m) (cnt:=(us.length+1)) (f:=(cQ (ins (aS us) x us))) (x:=(.tmp 57)) (ats:=#[129]) (λ_=>KB) KB (λ_=>KB) rfl Tryz.underlying129 Pd (kV.seg (k':=13) (bY:=[(6,vI ((aS us))),(59,vI ((max aI ((us.length:Int)+1)))),(61,.pointer (some ⟨t,1,none⟩))]) (fe:=[(Value.int .i64 (if (((us.length+1):Nat):Int)>aI then (((us.length+1):Nat):Int) else aI))=(.int .i64 ((max aI ((us.length:Int)+1))))]) [⟨[],none,none,none,some (vI ((max aI ((us.length:Int)+1))))⟩,o_,o_] [6,59,61] (λ_ _=>KB) ⟨by rw [Tg];rfl,trivial⟩ Pd (kV.done rfl (jC 1 [] [(0,a_ 1 t)] [(1,[(1,vI ((max aI ((us.length:Int)+1))))])] (NS (jK 3 [4,5] [] (NN (aq.ret (aB.gH [(2,.abs (bD Tryz.prog 3 m (cQ (ins (aS us) x us)) ((ins (aS us) x us).length)))] (λw hS=>by rw [lE];exact hS) (aB.mem (λw hS=>aR.rS (l:=[.abs R]) ⟨m,A,c,l,(next+1)⟩ (show lF ((next+1)) l ((ins (aS us) x us)) most ((max aI ((us.length:Int)+1))) from ⟨by rw [hl2.I6,hl0];exact hl2.Yp x,by rw [lE];omega,zc,zc,zc,zc⟩) (hS.pick (ar:=[0,1,2,3]) (l':=[.abs R]++rR 182 t most ((max aI ((us.length:Int)+1))) ((ins (aS us) x us)) ⟨m,A,c,l,(next+1)⟩) rfl rfl)) (RT _ [1,0] (⟨rfl,rfl⟩))))))))))))))))))))
theorem LD {β:Bs} (t:Nat) (most aI:Int) (us:bF Value) (h:Int) (hw:(Lit.int .i64 h).wf=true) (x:Value) (hg:aF.get us h=some x) :
 aX Tryz.prog β 213 #[vP t,vI (h)] [.abs (fD 182 t most aI us)] (λv l=>v=.tuple #[x,vI 0]/\l=[.abs (fD 182 t most aI (del h us))]):=by
 refine SE Tryz.func213 Tryz.ntmps213 (λR=>SR (jK 2 [] [] (NS (jK 2 [9,10] [] (gE [0] (rU t most aI us h hw x hg) (jK 5 [6,7] [] (NZ (jK 2 [15] [] (NT (aq.seq (aq.Hv (Φ:=λx:TX=>lF x.next x.l us most aI) (hp:=λx=>[.abs R]++rR 182 t most aI us x) (λw hS=>(hS.pick (ar:=[1,0]) (l':=[.abs R]++[.abs (fD 182 t most aI us)]) rfl rfl).wD) (λx0 hT=>?_))))))))))))
 obtain⟨m,A,c,l,next⟩:=x0
 replace hT:lF next l us most aI:=hT
 have hb:=hT.Oa
 have hm0:=hT.zf
 have hm1:=hT.zh
 have hn1:=hT.zi
 have hn2:=hT.Dp
 have Od:=hT.Bw
 have Ry:=hT.ti.count
 have hk:=get_some hg
 show aq _ _ _ _ _ [.abs R,.ay t [vI (most),vI (aI),.map (some m),.slice A (l.length) (c),vI (next)] 182,.abs (bD Tryz.prog 3 m (cQ us) us.length),.abs (aG 3 1 A l.length c (bL l))] _
 refine aq.region (jK 5 [19,20] [(3,a_ 1 t)] (av.IL 2 (d:=none) (t:=129) (K:=3) (E:=133) (b:=m) (n:=us.length) (f:=(cQ us)) (x:=(.tmp 19)) (ix:=(.tmp 20)) (key:=vI (h)) (kl:=(.int .i64 h)) (n':=(us.length-1)) (f':=(cQ (del h us))) (ats:=#[129,3]) (λ_=>KB) KB (λ_=>KB) (λ_=>KB) rfl iY Tryz.underlying129 (mB hw) (by rw [show cQ us (.int .i64 h)=some x from hg];rfl) (Rv) (NN (aq.region (jK 6 [24,26] [] (gL (args:=#[.iface 284 (.pointer (some ⟨t,3,none⟩)),.iface 3 (.int .i64 (h))]) (pre:=[.ay t [vI (most),vI (aI),.map (some m),.slice A (l.length) (c),vI (next)] 182,.abs (aG 3 1 A l.length c (bL l))]) [1,3] (abU h hT.ti.heap zc) ?_))))))
 rintro _ _ ⟨rfl,g,c',l2,hsm,hp2,rfl⟩
 refine NS (jK 4 [4,5] [] (NN (aq.ret ?_)))
 have hld:=wC hT.ti.fO hk
 exact aB.gH [(3,.abs (bD Tryz.prog 3 m (cQ (del h us)) ((del h us).length)))] (λw hS=>by rw [show (del h us).length=us.length-1 by omega];exact hS) (aB.mem (λw hS=>aR.rS (l:=[.abs R]) ⟨m,some ⟨g,0,none⟩,c',l2,next⟩ (show lF (next) l2 ((del h us)) most (aI) from ⟨hT.ti.drop hk hsm hp2,zc,hm1,hn1,hn2,Od⟩) (hS.pick (ar:=[2,0,3,1]) (l':=[.abs R]++rR 182 t most (aI) ((del h us)) ⟨m,some ⟨g,0,none⟩,c',l2,next⟩) rfl rfl)) (RT _ [1,0] (⟨rfl,rfl⟩)))
theorem QC {β:Bs} (t:Nat) (most aI:Int) (us:bF Value) (h:Int) (hw:(Lit.int .i64 h).wf=true) (hg:aF.get us h=none) :
 aX Tryz.prog β 213 #[vP t,vI (h)] [.abs (fD 182 t most aI us)] (λv l=>v=.tuple #[.nilIface,vI 131]/\l=[.abs (fD 182 t most aI us)]):=by
 exact SE Tryz.func213 Tryz.ntmps213 (λR=>SR (jK 2 [] [] (NS (jK 2 [9,10] [] (gE [0] (xU t most aI us h hw hg) (jK 5 [6,7] [] (NZ (jK 2 [15] [] (NF (KX (zR ⟨rfl,rfl⟩)))))))))))
theorem Oe {β:Bs} (t:Nat) (most aI:Int) (us:bF Value) :
 aX Tryz.prog β 88 #[vP t] [.abs (fD 182 t most aI us)] (λv l=>∃A c,v=.slice A (bn us).length c/\l=[.abs (fD 182 t most aI us),.abs (aG 3 1 A (bn us).length c (bL (bn us)))]):=by
 refine SE Tryz.func88 Tryz.ntmps88 (λR=>aq.seq (aq.Hv (Φ:=λx:TX=>lF x.next x.l us most aI) (hp:=λx=>[.abs R]++rR 182 t most aI us x) (λw hS=>(hS.pick (ar:=[1,0]) (l':=[.abs R]++[.abs (fD 182 t most aI us)]) rfl rfl).wD) (λx hT=>?_)))
 obtain⟨m,A,c,l,next⟩:=x
 replace hT:lF next l us most aI:=hT
 have hb:=hT.Oa
 have hm0:=hT.zf
 have hm1:=hT.zh
 have hn1:=hT.zi
 have hn2:=hT.Dp
 have Od:=hT.Bw
 have Ry:=hT.ti.count
 show aq _ _ _ _ _ [.abs R,.ay t [vI (most),vI (aI),.map (some m),.slice A (l.length) (c),vI (next)] 182,.abs (bD Tryz.prog 3 m (cQ us) us.length),.abs (aG 3 1 A l.length c (bL l))] _
 refine aq.region (jK 1 [] [] (NS (jK 4 [6] [(3,a_ 1 t)] (gX [] (Oc (some m)) (λbk=>gL [3,0] (I9 m bk us.length (cQ us) zc) ?_)))))
 rintro _ _ ⟨A2,c2,ss,rfl,hks,hsl,rfl⟩
 refine jK 1 [2] [] (NN (aq.ret ?_))
 have hkk:=Rx hT.ti.fO hks
 exact aB.mem (λw hS=>aR.rS (l:=[.abs R,.abs (aG 3 1 A2 ss.length c2 (bL ss))]) ⟨m,A,c,l,next⟩ (show lF (next) l (us) most (aI) from hT) (hS.pick (ar:=[3,2,4,0,5]) (l':=[.abs R,.abs (aG 3 1 A2 ss.length c2 (bL ss))]++rR 182 t most (aI) (us) ⟨m,A,c,l,next⟩) rfl rfl)) (RT (l:=[.abs (fD 182 t most aI us),.abs (aG 3 1 A2 ss.length c2 (bL ss))]) (.slice A2 (ss.length) (c2)) [2,1,0] (⟨A2,c2,by rw [hkk],by rw [hkk]⟩))
end
section
open Go.RowKit Go.Maps bG aF
theorem aX.sZ {P:Program} {β:Bs} {f:FuncId} {args:Array Value} {pre R:List HP} {post:Value->List HP->Prop} (h:∀β':Bs,mX β R β'->aX P β' f args pre post):aX P β f args (pre++R) (λv l=>∃l0,post v l0/\l=l0++R):=by
 intro A w hS
 have h1:=aR.turn hS
 rw [←ahD] at h1
 obtain⟨β',g1,_,g3⟩:=h1.sZ
 refine (h β' g1 A w (aR.turn g3)).mono ?_
 rintro e w' ⟨v,l,h1,h2,h3⟩
 refine⟨v,l++R,h1,⟨l,h2,rfl⟩,?_⟩
 have h4:=g1.back (aR.turn h3)
 rw [ahD] at h4
 exact aR.turn h4
def cM (L:HL) (us:bF Th):bF Value:=us.map λq=>(q.1,iz L q.2)
theorem j8 (L:HL) (us:bF Th) (h:Int):cQ (cM L us) (.int .i64 h)=(aF.get us h).map (iz L):=get_map (iz L) us h
theorem Kx {L:HL} {us:bF Th} {h:Int}:ql (cQ (cM L us)) (.int .i64 h) none=cQ (cM L (del h us)):=by
 rw [Rv]
 exact ahg cQ (Kv (iz L) h us).symm
theorem wE (L:HL) (us:bF Th):(cM L us).length=us.length:=ahz ..
theorem Hy (L:HL) (us:bF Th):bn (cM L us)=bn us:=keys_map (iz L) us
def tN (O:eu) (k:Nat):eu:=aZ O k (λo=>{o with aH:=true})
def uE (O:eu) (t:Th):Prop:=(af O t.k).aH=true/\(af O t.k).aK=0
instance (O:eu) (t:Th):Decidable (uE O t):=inferInstanceAs (Decidable (_/\_))
def kW (O:eu) (ar:bF Th) (t:Th):bF Th:=if uE O t then del (af O t.k).id ar else ar
def qt (O:eu) (used:Int) (t:Th):Int:=if uE O t then if t.kind=1 then used-(af O t.k).data.length else used else used
abbrev pF (f m t:Nat) (X:FM):HP:=.ay f [.int .i64 X.cN,.int .i64 X.cB,.int .i64 X.cH,.int .i64 X.cS,.int .i64 X.cZ,.map (some m),.pointer (some ⟨t,0,none⟩),.int .i64 X.last,.int .i64 X.ah,.int .i64 X.used] 135
abbrev pI (m:Nat) (L:HL) (us:bF Th):HP:=.abs (bD Tryz.prog 3 m (cQ (cM L us)) us.length)
abbrev pT (t:Nat) (most aI:Int) (L:HL) (us:bF Th):HP:=.abs (fD 182 t most aI (cM L us))
abbrev pO (O:eu) (L:HL):HP:=.abs (aW (d8 O L))
abbrev pD (O:eu) (L:HL):HP:=.abs (aW (dN O L))
abbrev pE (O:eu) (L:HL):HP:=.abs (aW (fM O L))
structure bB where
 X:FM
 O:eu
 ar:bF Th
 us:bF Th
 aI:Int
abbrev pA (f m t:Nat) (L:HL) (S:bB):List HP:=[pF f m t S.X,pI m L S.ar,pT t S.X.cH S.aI L S.us,pO S.O L,pD S.O L,pE S.O L]
structure aP where
 op:Int
 aN:Int
 other:Int
 name:ByteArray
 text:ByteArray
 dA:Option Addr
 dC:Nat
 data:List UInt8
 mode:Int
 bg:Int
 bh:Int
 aU:Int
 aJ:Int
 code:Int
 answer:Int
def aL (c:aP):List Value:=[.int .i64 c.op,.int .i64 c.aN,.int .i64 c.other,.string c.name,.string c.text,.slice c.dA c.data.length c.dC,.int .i64 c.mode,.int .i64 c.bg,.int .i64 c.bh,.int .i64 c.aU,.int .i64 c.aJ,.int .i64 c.code,.int .i64 c.answer]
abbrev pC (cb:Nat) (c:aP):HP:=.ay cb (aL c) 53
abbrev c0 (c:aP):aP:={c with answer:=0,code:=230}
def afF (L:HL):Except Int Nat->Value
 |.error e=>.tuple #[.pointer none,.int .i64 e]
 |.ok d=>.tuple #[.pointer (some ⟨L.b d,0,none⟩),.int .i64 0]
def afG (L:HL):Except Int Th->Value
 |.error e=>.tuple #[.nilIface,.int .i64 e]
 |.ok t=>.tuple #[iz L t,.int .i64 0]
noncomputable section
def iO (O:eu) (us:bF Th) (h:Int) (name:ByteArray) (d6:Int):Except Int Nat:=
 match aF.get us h with
 |none=>.error 131
 |some t=>
   if t.kind=2 then
    if (af O t.k).aH=true then .error 170
    else if cA name then if bits BinOp.and .i64 (af O t.k).mode d6=d6 then .ok t.k else .error 175
    else .error 95
   else .error 173
def ld (s:ByteArray):Int:=
 if s=⟨#[]⟩ then 90 else if s.size>4096 then 93 else if qN s then 0 else 91
def Room (X:FM) (ar:bF Th):Prop:=(ar.length:Int)<X.cN/\X.last<1099511627776/\X.ah<8192
instance (X:FM) (ar:bF Th):Decidable (Room X ar):=inferInstanceAs (Decidable (_/\_/\_))
def gy (X:FM) (O:eu) (ar:bF Th) (d:Nat) (name:ByteArray):Int:=
 if bN name (af O d).ah=none then if Room X ar then 0 else 177 else 171
def cU (X:FM) (kind mode:Int):bM:=⟨X.last+1,mode,0,0,X.cS,X.cZ,0,0,false,kind,[],⟨#[]⟩,[],none⟩
def bA (X:FM):Nat:=(X.last+1).toNat
def gu (S:bB) (d:Nat) (name:ByteArray) (o:bM):bB:=
 {S with
   X:={S.X with last:=S.X.last+1,ah:=S.X.ah+1}
   O:=dg S.X (aZ S.O (bA S.X) (λ_=>o)) d name ⟨bA S.X,o.kind⟩
   ar:=ins (S.X.last+1) ⟨bA S.X,o.kind⟩ S.ar}
def bp (S:bB) (d:Nat) (name:ByteArray) (t:Th):bB:=
 {S with
   X:={S.X with ah:=S.X.ah-1,used:=if (af (bw S.X S.O d name t) t.k).aV=0 then qt (tN (bw S.X S.O d name t) t.k) S.X.used t else S.X.used}
   O:=if (af (bw S.X S.O d name t) t.k).aV=0 then tN (bw S.X S.O d name t) t.k else bw S.X S.O d name t
   ar:=if (af (bw S.X S.O d name t) t.k).aV=0 then kW (tN (bw S.X S.O d name t) t.k) S.ar t else S.ar}
theorem xV {S:bB} {d:Nat} {name:ByteArray} {t:Th} (h:(af (bw S.X S.O d name t) t.k).aV=0):bp S d name t={S with X:={S.X with ah:=S.X.ah-1,used:=qt (tN (bw S.X S.O d name t) t.k) S.X.used t},O:=tN (bw S.X S.O d name t) t.k,ar:=kW (tN (bw S.X S.O d name t) t.k) S.ar t}:=by
 unfold bp
 simp only [ahf h]
theorem xW {S:bB} {d:Nat} {name:ByteArray} {t:Th} (h:¬(af (bw S.X S.O d name t) t.k).aV=0):bp S d name t={S with X:={S.X with ah:=S.X.ah-1},O:=bw S.X S.O d name t}:=by
 unfold bp
 simp only [ahe h]
def mI (S:bB) (d:Nat) (name:ByteArray) (mode:Int):Int×bB:=
 if gy S.X S.O S.ar d name=0 then (0,gu S d name (cU S.X 2 mode)) else (gy S.X S.O S.ar d name,S)
def jq (S:bB) (d:Nat) (name text:ByteArray):Int×bB:=
 if ld text=0 then
  if gy S.X S.O S.ar d name=0 then (0,gu S d name {cU S.X 3 511 with target:=text}) else (gy S.X S.O S.ar d name,S)
 else (ld text,S)
def iD (S:bB) (d:Nat) (name:ByteArray):Int×bB:=
 match bN name (af S.O d).ah with
 |none=>(170,S)
 |some t=>if t.kind=2 then (172,S) else (0,bp S d name t)
def jk (O:eu) (k:Nat):eu:=aZ O k (λo=>{o with up:=none})
def jd (S:bB) (d:Nat) (name:ByteArray):Int×bB:=
 match bN name (af S.O d).ah with
 |none=>(170,S)
 |some t=>if t.kind=2 then if (af S.O t.k).ah=[] then (0,{bp S d name t with O:=jk (bp S d name t).O t.k}) else (178,S) else (173,S)
inductive sD (O:eu) (sub:Nat):Nat->Prop
 |here:sD O sub sub
 |up {k j:Nat}:(af O k).up=some j->sD O sub j->sD O sub k
instance (O:eu) (sub k:Nat):Decidable (sD O sub k):=Classical.propDecidable _
def pV (S:bB) (d:Nat) (name:ByteArray) (to:Nat) (aD:ByteArray) (t:Th):bB:=
 {S with X:={S.X with ah:=S.X.ah-1+1},O:=dg S.X (bw S.X S.O d name t) to aD t}
def dm (S:bB) (d:Nat) (name:ByteArray) (to:Nat) (aD:ByteArray):Int×bB:=
 match bN name (af S.O d).ah with
 |none=>(170,S)
 |some t=>
   if t.kind=2/\sD S.O t.k to then (174,S)
   else match bN aD (af S.O to).ah with
    |none=>(0,pV S d name to aD t)
    |some o=>
      if o=t then (0,S) else if o.kind=2 then (172,S) else if t.kind=2 then (173,S)
      else (0,pV (bp S to aD o) d name to aD t)
def dR (X:FM) (n:Nat):Nat:=(min (n:Int) (X.cB-X.used)).toNat
def gF (S:bB) (k:Nat) (bs:List UInt8):Int×Int×bB:=
 if bs=[] then (0,0,S)
 else if S.X.cB-S.X.used<=0 then (0,176,S)
 else ((dR S.X bs.length:Int),0,{S with
  X:={S.X with used:=S.X.used+(dR S.X bs.length:Int)}
  O:=aZ S.O k (λo=>{o with data:=o.data++bs.take (dR S.X bs.length),aU:=S.X.cS,aJ:=S.X.cZ})})
def eH (S:bB) (t:Th):Int×Int×bB:=
 (if (S.us.length:Int)<S.X.cH then aS S.us else 0,if (S.us.length:Int)<S.X.cH then 0 else 130,{S with
  O:=if (S.us.length:Int)<S.X.cH then aZ S.O t.k (λo=>{o with aK:=o.aK+1}) else S.O
  us:=if (S.us.length:Int)<S.X.cH then ins (aS S.us) t S.us else S.us
  aI:=if (S.us.length:Int)<S.X.cH then max S.aI ((S.us.length:Int)+1) else S.aI})
theorem ox {S:bB} {t:Th} (h:(S.us.length:Int)<S.X.cH):eH S t=(aS S.us,0,{S with O:=aZ S.O t.k (λo=>{o with aK:=o.aK+1}),us:=ins (aS S.us) t S.us,aI:=max S.aI ((S.us.length:Int)+1)}):=by
 unfold eH
 simp only [ahf h]
theorem oZ {S:bB} {t:Th} (h:¬(S.us.length:Int)<S.X.cH):eH S t=(0,130,S):=by
 unfold eH
 simp only [ahe h]
abbrev vL:=Int×bB×aP
def kX (S:bB) (c:aP):vL:=
 match aF.get S.ar c.other with
 |none=>(141,S,c)
 |some t=>if t.kind=2 then ((eH S t).2.1,(eH S t).2.2,{c with answer:=(eH S t).1}) else (173,S,c)
def jL (O:eu) (us:bF Th) (c:aP):Except Int Th:=
 match iO O us c.aN c.name 64 with
 |.error e=>.error e
 |.ok d=>match bN c.name (af O d).ah with
   |none=>.error 170
   |some t=>.ok t
def gZ (S:bB) (c:aP):vL:=
 match jL S.O S.us c with
 |.error e=>(e,S,c)
 |.ok t=>if t.kind=3 then (174,S,c) else if t.kind=1 then (173,S,c) else ((eH S t).2.1,(eH S t).2.2,{c with answer:=(eH S t).1})
def fZ (S:bB) (c:aP):vL:=
 match jL S.O S.us c with
 |.error e=>(e,S,c)
 |.ok t=>if t.kind=3 then (174,S,c) else if t.kind=2 then (172,S,c) else ((eH S t).2.1,(eH S t).2.2,{c with answer:=(eH S t).1})
def jV (m:Int):Prop:=0<=m/\m<=4095
instance (m:Int):Decidable (jV m):=inferInstanceAs (Decidable (_/\_))
def je (S:bB) (c:aP):vL:=
 match iO S.O S.us c.aN c.name 192 with
 |.error e=>(e,S,c)
 |.ok d=>if jV c.mode then ((mI S d c.name c.mode).1,(mI S d c.name c.mode).2,c) else (120,S,c)
def oH (S:bB) (d:Nat) (name:ByteArray) (mode:Int):Int×Int×bB:=
 if gy S.X S.O S.ar d name=0 then
  if (S.us.length:Int)<S.X.cH then
   (aS S.us,0,gu {S with us:=ins (aS S.us) ⟨bA S.X,1⟩ S.us,aI:=max S.aI ((S.us.length:Int)+1)} d name {cU S.X 1 mode with aK:=1})
  else (0,130,S)
 else (0,gy S.X S.O S.ar d name,S)
def fq (S:bB) (c:aP):vL:=
 match iO S.O S.us c.aN c.name 192 with
 |.error e=>(e,S,c)
 |.ok d=>if jV c.mode then
  if gy S.X S.O S.ar d c.name=0 then ((oH S d c.name c.mode).2.1,(oH S d c.name c.mode).2.2,{c with answer:=(oH S d c.name c.mode).1})
  else (gy S.X S.O S.ar d c.name,S,c)
  else (120,S,c)
def iE (S:bB) (c:aP):vL:=
 match iO S.O S.us c.aN c.name 192 with
 |.error e=>(e,S,c)
 |.ok d=>((jq S d c.name c.text).1,(jq S d c.name c.text).2,c)
def nN (S:bB) (d:Nat) (name:ByteArray) (to:Nat) (aD:ByteArray):Int×bB:=
 match bN name (af S.O d).ah with
 |none=>(170,S)
 |some t=>if t.kind=2 then (172,S)
   else if bN aD (af S.O to).ah=none then
    if S.X.ah<8192 then (0,{S with X:={S.X with ah:=S.X.ah+1},O:=dg S.X S.O to aD t}) else (177,S)
   else (171,S)
def dX (S:bB) (c:aP):vL:=
 match iO S.O S.us c.aN c.name 64 with
 |.error e=>(e,S,c)
 |.ok d=>match iO S.O S.us c.other c.text 192 with
   |.error e=>(e,S,c)
   |.ok to=>((nN S d c.name to c.text).1,(nN S d c.name to c.text).2,c)
def jD (S:bB) (c:aP):vL:=
 match iO S.O S.us c.aN c.name 192 with
 |.error e=>(e,S,c)
 |.ok d=>((iD S d c.name).1,(iD S d c.name).2,c)
def kq (S:bB) (c:aP):vL:=
 match iO S.O S.us c.aN c.name 192 with
 |.error e=>(e,S,c)
 |.ok d=>((jd S d c.name).1,(jd S d c.name).2,c)
def iV (S:bB) (c:aP):vL:=
 match iO S.O S.us c.aN c.name 192 with
 |.error e=>(e,S,c)
 |.ok d=>match iO S.O S.us c.other c.text 192 with
   |.error e=>(e,S,c)
   |.ok to=>((dm S d c.name to c.text).1,(dm S d c.name to c.text).2,c)
def iw (S:bB) (c:aP):vL:=
 match aF.get S.us c.aN with
 |none=>(131,S,c)
 |some t=>if t.kind=1 then ((gF S t.k c.data).2.1,(gF S t.k c.data).2.2,{c with answer:=(gF S t.k c.data).1}) else (172,S,c)
def qu (m:Int):Prop:=0<=m/\m<=2147483647
instance (m:Int):Decidable (qu m):=inferInstanceAs (Decidable (_/\_))
def cY (S:bB) (c:aP):vL:=
 match aF.get S.us c.aN with
 |none=>(131,S,c)
 |some t=>
   if (af S.O t.k).aH=true/\t.kind=2 then (170,S,c)
   else if jV c.mode then
    if qu c.bg/\qu c.bh then
     if gj c.aU c.aJ then (0,{S with O:=aZ S.O t.k (λo=>{o with mode:=c.mode,bg:=c.bg,bh:=c.bh,aU:=c.aU,aJ:=c.aJ})},c)
     else (20,S,c)
    else (11,S,c)
   else (120,S,c)
def oe (O:eu) (c:aP):Option Th->aP
 |none=>{c with other:=0,mode:=0,bg:=0,bh:=0,aU:=0,aJ:=0}
 |some t=>{c with answer:=(af O t.k).id,other:=t.kind,mode:=(af O t.k).mode,bg:=(af O t.k).bg,bh:=(af O t.k).bh,aU:=(af O t.k).aU,aJ:=(af O t.k).aJ}
def og (S:bB) (c:aP):vL:=
 match aF.get S.us c.aN with
 |none=>(131,S,oe S.O c none)
 |some t=>(0,S,oe S.O c (some t))
def jw (S:bB) (c:aP):vL:=
 match jL S.O S.us c with
 |.error e=>(e,S,oe S.O c none)
 |.ok t=>(0,S,oe S.O c (some t))
def ud (O:eu) (k:Nat):eu:=aZ O k (λo=>{o with aK:=o.aK-1})
def jW (S:bB) (c:aP):vL:=
 match aF.get S.us c.aN with
 |none=>(131,S,c)
 |some t=>(0,{S with
  X:={S.X with used:=qt (ud S.O t.k) S.X.used t}
  O:=ud S.O t.k
  ar:=kW (ud S.O t.k) S.ar t
  us:=del c.aN S.us},c)
def iF (S:bB) (c:aP):vL:=
 if c.op=1 then kX S c else if c.op=2 then gZ S c else if c.op=3 then fZ S c else if c.op=4 then je S c
 else if c.op=5 then fq S c else if c.op=6 then iE S c else if c.op=7 then dX S c else if c.op=8 then jD S c
 else if c.op=9 then iw S c else if c.op=10 then cY S c else if c.op=11 then og S c else if c.op=12 then jw S c
 else if c.op=13 then jW S c else if c.op=14 then kq S c else if c.op=15 then iV S c else (230,S,c)
def gG (S:bB) (c:aP):bB×aP:=
 ((iF S {c with answer:=0,code:=230}).2.1,{ (iF S {c with answer:=0,code:=230}).2.2 with code:=(iF S {c with answer:=0,code:=230}).1})
end
section sums
variable {V:Type} {g g':Int×V->Nat} {us:bF V} {h:Int} {v:V}
def gV (g:Int×V->Nat):bF V->Nat
 |[]=>0
 |p::r=>g p+gV g r
theorem Hz:gV g (ins h v us)=g (h,v)+gV g us:=by
 induction us with
 |nil=>rfl
 |cons p r ih=>
   grind [ins,gV]
theorem lG (hc:∀p∈us,g' p=g p):gV g' us=gV g us:=by
 induction us with
 |nil=>rfl
 |cons p r ih=>
   grind [gV]
theorem Rz (hc:∀p∈us,g' p<=g p):gV g' us<=gV g us:=by
 induction us with
 |nil=>exact aho _
 |cons p r ih=>
   grind [gV]
theorem Ax {p:Int×V} {r:bF V}:aF.get (p::r) h=if p.1=h then some p.2 else aF.get r h:=by
 unfold aF.get
 grind
theorem get_mem {us:bF V} (e:aF.get us h=some v):(h,v)∈us:=by
 induction us with
 |nil=>cases e
 |cons p r ih=>
   grind [Ax]
theorem oI {us:bF V} (hr:aF.dH (bn us)) (e:(h,v)∈us):aF.get us h=some v:=by
 induction us with
 |nil=>cases e
 |cons p r ih=>
   rw [keys_cons] at hr
   obtain⟨h1,h2⟩:=ahw.1 hr
   rw [Ax]
   rcases aht.1 e with e|e
   ·subst e;rw [ahf rfl]
   have:p.1<h:=h1 h (ahx.2 ⟨(h,v),e,rfl⟩)
   rw [ahe zc]
   exact ih h2 e
theorem sJ (e:aF.get us h=some v):g (h,v)<=gV g us:=by
 have hm:=get_mem e
 induction us with
 |nil=>cases hm
 |cons p r ih=>
   grind [gV,Ax]
theorem HB (hr:aF.dH (bn us)) (e:aF.get us h=some v) (hc:∀p∈us,p.1≠h->g' p=g p):gV g' us+g (h,v)=gV g us+g' (h,v):=by
 induction us with
 |nil=>cases e
 |cons p r ih=>
   rw [keys_cons] at hr
   obtain⟨h1,h2⟩:=ahw.1 hr
   rw [Ax] at e
   show g' p+gV g' r+_=g p+gV g r+_
   split at e
   ·rename_i e2
    cases e
    have e3:gV g' r=gV g r:=lG (λq hq=>hc q (ahq _ hq) (by
     have:=h1 q.1 (ahx.2 ⟨q,hq,rfl⟩);omega))
    grind
   rename_i e2
   have:=ih h2 e (λq hq=>hc q (ahq _ hq))
   have:=hc p (ahr ..) e2
   omega
theorem Ys {p:Int×V} {r:bF V}:del h (p::r)=if p.1=h then del h r else p::del h r:=by
 grind [del]
theorem abV {us:bF V} (hn:h∉bn us):del h us=us:=by
 unfold del
 refine List.filter_eq_self.2 (λp hp=>?_)
 grind [bn,del]
theorem HE (hr:aF.dH (bn us)) (e:aF.get us h=some v):gV g (del h us)+g (h,v)=gV g us:=by
 induction us with
 |nil=>cases e
 |cons p r ih=>
   rw [keys_cons] at hr
   obtain⟨h1,h2⟩:=ahw.1 hr
   rw [Ax] at e
   rw [Ys]
   show _=g p+gV g r
   split at e
   ·grind [abV]
   rename_i e2
   rw [ahe e2]
   show g p+gV g (del h r)+_=_
   have:=ih h2 e
   omega
theorem Og {us:bF V} (hr:aF.dH (bn us)):aF.dH (bn (del h us)):=by
 rw [uJ]
 exact aii _ hr
end sums
section afH
variable {n:ByteArray} {t:Th} {es:ja Th} {q:ByteArray×Th->Bool}
theorem Vr:(kO n t es).countP q=es.countP q+if q (n,t) then 1 else 0:=by
 induction es with
 |nil=>simp [kO,List.countP_cons]
 |cons e r ih=>
   grind [kO]
theorem Vs {es:ja Th} (hd:qf es) (h:bN n es=some t):(kE n es).countP q+(if q (n,t) then 1 else 0)=es.countP q:=by
 induction es with
 |nil=>cases h
 |cons e r ih=>
   obtain⟨h1,h2⟩:=ahw.1 hd
   rw [qq] at h
   rw [List.countP_cons]
   by_cases he:e.1=n
   ·rw [ahf he] at h
    have e1:kE n (e::r)=r:=by
     unfold kE
     rw [List.filter_cons,ahe (by simp [he])]
     exact List.filter_eq_self.2 (λx hx=>Pe)
    grind
   grind [kE,qf,bN]
theorem Oh {e:ByteArray×Th} {es:ja Th} (h:e∈kE n es):e∈es/\e.1≠n:=by
 grind [kE]
theorem Ay {es:ja Th} (hd:qf es) (h:(n,t)∈es):bN n es=some t:=by
 induction es with
 |nil=>cases h
 |cons e r ih=>
   obtain⟨h1,h2⟩:=ahw.1 hd
   grind [qq,qf,bN]
end afH
def aT (ar:bF Th) (t:Th):Prop:=aF.get ar (t.k:Int)=some t
def pW (es:ja Th):Prop:=es.Pairwise (λa b=>¬jA b.1 a.1)
def nG (ar:bF Th) (O:eu) (k:Nat):Nat:=gV (λp=>(af O p.2.k).ah.countP (λe=>decide (e.2.k=k))) ar
def tot (ar:bF Th) (O:eu):Nat:=gV (λp=>(af O p.2.k).ah.length) ar
def bytes (ar:bF Th) (O:eu):Nat:=gV (λp=>(af O p.2.k).data.length) ar
def hnd (us:bF Th) (k:Nat):Nat:=gV (λp=>if p.2.k=k then 1 else 0) us
structure qY (o:bM):Prop where
 mode:0<=o.mode/\o.mode<=4095
 bg:0<=o.bg/\o.bg<=2147483647
 bh:0<=o.bh/\o.bh<=2147483647
 time:gj o.aU o.aJ
 data:o.kind≠1->o.data=[]
 ah:o.kind≠2->o.ah=[]
 target:dG o.kind o.target
structure Inv0 (S:bB):Prop where
 cN:0<=S.X.cN/\S.X.cN<=4096
 cB:0<=S.X.cB/\S.X.cB<=1099511627776
 cH:0<=S.X.cH/\S.X.cH<=1024
 now:gj S.X.cS S.X.cZ
 last:0<=S.X.last/\S.X.last<=1099511627776
 fO:aF.dH (bn S.ar)
 len:S.ar.length<=4096
 ar:∀i t,aF.get S.ar i=some t->i=(t.k:Int)/\0<i/\i<=S.X.last
 ob:∀t,aT S.ar t->(af S.O t.k).id=(t.k:Int)/\(af S.O t.k).kind=t.kind/\(t.kind=1\/t.kind=2\/t.kind=3)
 mt:∀t,aT S.ar t->qY (af S.O t.k)
 ah:∀t,aT S.ar t->∀e∈(af S.O t.k).ah,cA e.1/\aT S.ar e.2
 sorted:∀t,aT S.ar t->pW (af S.O t.k).ah
 dead:∀k,(∀t,aT S.ar t->t.k≠k)->(af S.O k).ah=[]/\(af S.O k).up=none
 zj:∀k:Nat,S.X.last<(k:Int)->(af S.O k).kind=0
 total:S.X.ah=(tot S.ar S.O:Int)/\S.X.ah<=8192
 aV:∀t,aT S.ar t->(af S.O t.k).aV=(nG S.ar S.O t.k:Int)
 once:∀t,aT S.ar t->t.kind=2->(af S.O t.k).aV<=1
 aK:∀t,aT S.ar t->(af S.O t.k).aK=(hnd S.us t.k:Int)
 usr:aF.dH (bn S.us)
 xX:∀x∈bn S.us,1<=x/\x<=S.aI
 Gx:(S.us.length:Int)<=S.X.cH
 aI:0<=S.aI/\S.aI<=S.X.cH
 us:∀h t,aF.get S.us h=some t->aT S.ar t/\t.kind≠3
 aH:∀t,aT S.ar t->(af S.O t.k).aH=true->(af S.O t.k).aV=0/\(af S.O t.k).ah=[]
 up:∀t,aT S.ar t->∀d,(af S.O t.k).up=some d↔t.kind=2/\aT S.ar ⟨d,2⟩/\∃n,bN n (af S.O d).ah=some t
 deep:∃dp:Nat->Nat,∀k d,(af S.O k).up=some d->dp d<dp k
 used:S.X.used=(bytes S.ar S.O:Int)/\S.X.used<=140737488355328
structure bT (S:bB):Prop extends Inv0 S where
 full:∀t,aT S.ar t->(af S.O t.k).aH=true->0<(af S.O t.k).aK
section at_
variable {X:FM} {O:eu} {d k:Nat} {name:ByteArray} {t:Th}
theorem lf (h:t.k≠d):af (bw X O d name t) k=if k=d then {af O d with ah:=kE name (af O d).ah,aU:=X.cS,aJ:=X.cZ} else if k=t.k then {af O k with aV:=(af O k).aV-1} else af O k:=by
 grind [bw,xT,jb,fB]
theorem s5 (h:t.k≠d):af (dg X O d name t) k=if k=d then {af O d with ah:=kO name t (af O d).ah,aU:=X.cS,aJ:=X.cZ} else if k=t.k then {af O k with aV:=(af O k).aV+1,up:=if t.kind=2 then some d else (af O k).up} else af O k:=by
 grind [dg,xT,uI,fB,jb]
end at_
section counts
variable {ar:bF Th} {O O':eu} {d k:Nat} {n:ByteArray} {t:Th}
theorem Oi {q:ByteArray×Th->Bool} (hr:aF.dH (bn ar)) (hd:aF.get ar (d:Int)=some ⟨d,2⟩) (hk:∀i u,aF.get ar i=some u->i=(u.k:Int)) (ho:∀x,x≠d->(af O' x).ah=(af O x).ah) (h1:(af O' d).ah=kE n (af O d).ah) (h2:qf (af O d).ah) (h3:bN n (af O d).ah=some t) :
 gV (λp=>(af O' p.2.k).ah.countP q) ar+(if q (n,t) then 1 else 0)=gV (λp=>(af O p.2.k).ah.countP q) ar:=by
 grind [HB,af,oI,Vs,kE,gV]
theorem Yt {q:ByteArray×Th->Bool} (hr:aF.dH (bn ar)) (hd:aF.get ar (d:Int)=some ⟨d,2⟩) (hk:∀i u,aF.get ar i=some u->i=(u.k:Int)) (ho:∀x,x≠d->(af O' x).ah=(af O x).ah) (h1:(af O' d).ah=kO n t (af O d).ah) :
 gV (λp=>(af O' p.2.k).ah.countP q) ar=gV (λp=>(af O p.2.k).ah.countP q) ar+(if q (n,t) then 1 else 0):=by
 grind [HB,af,oI,Vr,kO,gV]
theorem xY:tot ar O=gV (λp=>(af O p.2.k).ah.countP (λ_=>true)) ar:=lG (λp _=>ahd)
theorem Vt {q:ByteArray×Th->Bool} (ho:∀x,(af O' x).ah=(af O x).ah):gV (λp=>(af O' p.2.k).ah.countP q) ar=gV (λp=>(af O p.2.k).ah.countP q) ar:=lG (λp _=>by rw [ho])
theorem Vu:nG ar O k<=tot ar O:=by
 rw [xY]
 exact Rz (λp _=>List.countP_mono_left (λ_ _ _=>rfl))
theorem qZ (hd:aF.get ar (d:Int)=some ⟨d,2⟩) (h:bN n (af O d).ah=some t):0<nG ar O t.k:=by
 exact ahA (List.countP_pos_iff.2 ⟨(n,t),rI h,ahd⟩) (sJ (g:=λp=>(af O p.2.k).ah.countP (λe=>decide (e.2.k=t.k))) hd)
theorem Ja (hr:aF.dH (bn ar)) (h:0<nG ar O k):∃i u,aF.get ar i=some u/\∃e∈(af O u.k).ah,e.2.k=k:=by
 apply ahF
 intro hn
 have:nG ar O k=gV (λ_=>0) ar:=lG (λp hp=>by
  show List.countP _ _=0
  rw [List.countP_eq_zero]
  intro e he hk
  exact hn ⟨p.1,p.2,oI hr hp,e,he,by simpa using hk⟩)
 have h0:∀us:bF Th,gV (λ_=>0) us=0:=λus=>by
  induction us with
  |nil=>rfl
  |cons p r ih=>show 0+_=0;rw [ih]
 rw [this,h0] at h
 omega
end counts
section inv
variable {S:bB} {d k:Nat} {name:ByteArray} {t u:Th}
theorem Inv0.key (h:Inv0 S) {i:Int} (e:aF.get S.ar i=some t):i=(t.k:Int):=(h.ar i t e).1
theorem Inv0.live (h:Inv0 S) {i:Int} (e:aF.get S.ar i=some t):aT S.ar t:=by
 have:=h.key e
 subst this
 exact e
theorem jx {ar:bF Th} (h1:aT ar t) (h2:aT ar u) (e:t.k=u.k):t=u:=by
 grind [aT]
theorem Inv0.kind (h:Inv0 S) (hl:aT S.ar t):(af S.O t.k).kind=t.kind:=(h.ob t hl).2.1
theorem Tj {x:ByteArray}:jA x x:=by unfold jA;simp
theorem pW.pX {es:ja Th} (h:pW es):qf es:=List.Pairwise.imp (λ{a b} ef e=>ef (by rw [e];exact Tj)) h
theorem Inv0.pX (h:Inv0 S) (hl:aT S.ar t):qf (af S.O t.k).ah:=(h.sorted t hl).pX
theorem Inv0.bU (h:Inv0 S) (hd:aT S.ar u) (hl:bN name (af S.O u.k).ah=some t):cA name/\aT S.ar t:=h.ah u hd _ (rI hl)
theorem Inv0.ne (h:Inv0 S) (hd:aT S.ar ⟨d,2⟩) (hl:bN name (af S.O d).ah=some t):t.k≠d:=λe=>by
 have h1:=(h.bU hd hl).2
 have h2:t=⟨d,2⟩:=jx h1 hd e
 subst h2
 have h3:=(h.up _ hd d).2 ⟨rfl,hd,name,hl⟩
 obtain⟨dp,hdp⟩:=h.deep
 have:dp d<dp d:=hdp _ _ h3
 omega
theorem Inv0.free (h:Inv0 S) (hk:S.X.last<(k:Int)) (hl:aT S.ar t):t.k≠k:=λe=>by
 have:=(h.ar _ t hl).2.2
 subst e
 omega
theorem qY.of {o o':bM} (h:qY o) (e1:o'.mode=o.mode) (e2:o'.bg=o.bg) (e3:o'.bh=o.bh) (e4:gj o'.aU o'.aJ) (e5:o'.kind=o.kind) (e6:o'.data=o.data\/o.kind=1) (e7:o'.ah=o.ah\/o.kind=2) (e8:o'.target=o.target):qY o':=
 ⟨e1 ▸ h.mode,e2 ▸ h.bg,e3 ▸ h.bh,e4,λhk=>by
  rw [e5] at hk
  rcases e6 with e|e
  ·rw [e];exact h.data hk
  ·exact ahh e hk,λhk=>by
  rw [e5] at hk
  rcases e7 with e|e
  ·rw [e];exact h.ah hk
  exact ahh e hk,by rw [e5,e8];exact h.target⟩
theorem Inv0.own (h:Inv0 S) {f:bM->bM} {sS lH:Int} {us':bF Th} (f1:∀o,(f o).id=o.id) (f2:∀o,(f o).kind=o.kind) (f3:∀o,(f o).ah=o.ah) (f4:∀o,(f o).up=o.up) (f5:∀o,(f o).aV=o.aV) (f6:∀o,(f o).aH=o.aH)
 (hm:∀t,aT S.ar t->t.k=k->qY (f (af S.O k))) (ho:∀t,aT S.ar t->(af (aZ S.O k f) t.k).aK=(hnd us' t.k:Int))
 (u1:aF.dH (bn us')) (u2:∀x∈bn us',1<=x/\x<=lH) (u3:(us'.length:Int)<=S.X.cH) (u4:0<=lH/\lH<=S.X.cH) (u5:∀h t,aF.get us' h=some t->aT S.ar t/\t.kind≠3)
 (hu:sS=(bytes S.ar (aZ S.O k f):Int)/\sS<=140737488355328):Inv0 {S with X:={S.X with used:=sS},O:=aZ S.O k f,us:=us',aI:=lH}:=by
 have g1:∀x,(af (aZ S.O k f) x).id=(af S.O x).id:=λx=>eT (g:=bM.id) f1
 have g2:∀x,(af (aZ S.O k f) x).kind=(af S.O x).kind:=λx=>eT (g:=bM.kind) f2
 have g3:∀x,(af (aZ S.O k f) x).ah=(af S.O x).ah:=λx=>eT (g:=bM.ah) f3
 have g4:∀x,(af (aZ S.O k f) x).up=(af S.O x).up:=λx=>eT (g:=bM.up) f4
 have g5:∀x,(af (aZ S.O k f) x).aV=(af S.O x).aV:=λx=>eT (g:=bM.aV) f5
 have g6:∀x,(af (aZ S.O k f) x).aH=(af S.O x).aH:=λx=>eT (g:=bM.aH) f6
 refine {h with ob:=λt hl=>?_,mt:=λt hl=>?_,ah:=λt hl=>?_,sorted:=λt hl=>?_,dead:=λx hx=>?_,zj:=λx hx=>by rw [g2];exact h.zj x hx,total:=?_,aV:=λt hl=>?_,once:=λt hl=>?_,aK:=ho,usr:=u1,xX:=u2,Gx:=u3,aI:=u4,us:=u5,aH:=λt hl=>?_,up:=λt hl e=>?_,deep:=?_,used:=hu}
 ·rw [g1,g2];exact h.ob t hl
 ·show qY (af (aZ S.O k f) t.k)
  by_cases e:t.k=k
  ·rw [e,fB];exact hm t hl e
  rw [jb e];exact h.mt t hl
 ·rw [g3];exact h.ah t hl
 ·rw [g3];exact h.sorted t hl
 ·rw [g3,g4];exact h.dead x hx
 ·have:tot S.ar (aZ S.O k f)=tot S.ar S.O:=lG (λp _=>by rw [g3])
  show S.X.ah=(tot S.ar (aZ S.O k f):Int)/\_
  rw [this];exact h.total
 ·show (af (aZ S.O k f) t.k).aV=(nG S.ar (aZ S.O k f) t.k:Int)
  have:nG S.ar (aZ S.O k f) t.k=nG S.ar S.O t.k:=Vt g3
  rw [g5,this];exact h.aV t hl
 ·rw [g5];exact h.once t hl
 ·rw [g6,g5,g3];exact h.aH t hl
 ·grind [af,aZ,up,aT,bN]
 obtain⟨dp,hdp⟩:=h.deep
 exact⟨dp,λx e he=>hdp x e (by rw [g4] at he;exact he)⟩
def zk (S:bB) (t:Th):bB:={S with X:={S.X with used:=qt S.O S.X.used t},ar:=kW S.O S.ar t}
theorem Inv0.zk (h:Inv0 S) (ht:aT S.ar t) (hf:∀u,aT S.ar u->u≠t->(af S.O u.k).aH=true->0<(af S.O u.k).aK):bT (Proofs.YtbnfiigafobejaaGreat.zk S t):=by
 by_cases hF:uE S.O t
 ·have e1:Proofs.YtbnfiigafobejaaGreat.zk S t={S with X:={S.X with used:=S.X.used-(af S.O t.k).data.length},ar:=del (t.k:Int) S.ar}:=by
   unfold Proofs.YtbnfiigafobejaaGreat.zk qt kW
   rw [ahf hF,ahf hF,(h.ob t ht).1]
   split
   ·rfl
   rename_i e
   have:=(h.mt t ht).data (by rw [h.kind ht];exact e)
   rw [this]
   simp
  rw [e1]
  obtain⟨hg,bX⟩:=hF
  obtain⟨eM,hen⟩:=h.aH t ht hg
  have kA:∀x,aT (del (t.k:Int) S.ar) x↔aT S.ar x/\x.k≠t.k:=λx=>by
   grind [aT,zB]
  have hl0:nG S.ar S.O t.k=0:=by have:=h.aV t ht;omega
  have bV:∀x,aT S.ar x->∀e∈(af S.O x.k).ah,e.2.k≠t.k:=λx hx e he hk=>by
   have:0<nG S.ar S.O t.k:=ahA (List.countP_pos_iff.2 ⟨e,he,by simpa using hk⟩) (sJ (g:=λp=>(af S.O p.2.k).ah.countP (λe=>decide (e.2.k=t.k))) hx)
   omega
  have hsum:∀q:ByteArray×Th->Bool,gV (λp=>(af S.O p.2.k).ah.countP q) (del (t.k:Int) S.ar)=gV (λp=>(af S.O p.2.k).ah.countP q) S.ar:=λq=>by
   have h1:=HE (g:=λp:Int×Th=>(af S.O p.2.k).ah.countP q) h.fO ht
   grind
  refine {h with fO:=Og h.fO,len:=?_,ar:=λi x e=>?_,ob:=λx hx=>h.ob x ((kA x).1 hx).1,mt:=λx hx=>h.mt x ((kA x).1 hx).1,ah:=λx hx e he=>?_,sorted:=λx hx=>h.sorted x ((kA x).1 hx).1,dead:=λx hx=>?_,total:=?_,aV:=λx hx=>?_,once:=λx hx=>h.once x ((kA x).1 hx).1,aK:=λx hx=>h.aK x ((kA x).1 hx).1,us:=λi x e=>?_,aH:=λx hx=>h.aH x ((kA x).1 hx).1,up:=λx hx e=>?_,used:=?_,full:=λx hx hg=>hf x ((kA x).1 hx).1 (λe=>((kA x).1 hx).2 (by rw [e])) hg}
  ·have h1:=wC h.fO (get_some ht)
   have h2:=h.len
   show (del (t.k:Int) S.ar).length<=4096
   omega
  ·have e:aF.get (del (t.k:Int) S.ar) i=some x:=e
   rw [zB] at e
   split at e
   ·cases e
   exact h.ar i x e
  ·have hx':=((kA x).1 hx).1
   have h1:=h.ah x hx' e he
   exact⟨h1.1,(kA _).2 ⟨h1.2,bV x hx' e he⟩⟩
  ·by_cases e:x=t.k
   ·subst e
    refine⟨hen,?_⟩
    cases hu:(af S.O t.k).up with
    |none=>rfl
    |some y=>
      obtain⟨_,h2,n,h3⟩:=(h.up t ht y).1 hu
      exact ahh rfl (bV _ h2 _ (rI h3))
   exact h.dead x (λy hy e2=>hx y ((kA y).2 ⟨hy,λe3=>e (e2.symm.trans e3)⟩) e2)
  ·show S.X.ah=(tot (del (t.k:Int) S.ar) S.O:Int)/\_
   rw [xY,hsum,←xY];exact h.total
  ·show _=(nG (del (t.k:Int) S.ar) S.O x.k:Int)
   have:nG (del (t.k:Int) S.ar) S.O x.k=nG S.ar S.O x.k:=hsum _
   rw [this];exact h.aV x ((kA x).1 hx).1
  ·obtain⟨h1,h2⟩:=h.us i x e
   refine⟨(kA x).2 ⟨h1,λe2=>?_⟩,h2⟩
   have h3:=h.aK t ht
   have h4:0<hnd S.us t.k:=ahA (by simp [e2]) (sJ (g:=λp:Int×Th=>if p.2.k=t.k then 1 else 0) e)
   omega
  ·rw [h.up x ((kA x).1 hx).1 e]
   constructor
   ·rintro⟨h1,h2,n,h3⟩
    refine⟨h1,(kA _).2 ⟨h2,λe2=>?_⟩,n,h3⟩
    have e2:e=t.k:=e2
    rw [e2,hen] at h3;cases h3
   grind
  obtain⟨h1,h2⟩:=h.used
  have h3:gV (λp:Int×Th=>(af S.O p.2.k).data.length) (del (t.k:Int) S.ar)+(af S.O t.k).data.length=gV (λp:Int×Th=>(af S.O p.2.k).data.length) S.ar:=HE (g:=λp:Int×Th=>(af S.O p.2.k).data.length) h.fO ht
  grind [af,bytes,del]
 have e1:Proofs.YtbnfiigafobejaaGreat.zk S t=S:=by
  unfold Proofs.YtbnfiigafobejaaGreat.zk qt kW
  rw [ahe hF,ahe hF]
 rw [e1]
 refine {h with full:=λu hu hg=>?_}
 by_cases e:u=t
 ·subst e
  have h1:=h.aK u hu
  have:¬(af S.O u.k).aK=0:=λe=>hF ⟨hg,e⟩
  omega
 exact hf u hu e hg
end inv
section facts
variable {S:bB} {X:FM} {O:eu} {d k:Nat} {name:ByteArray} {t u:Th}
theorem eW {α:Type} {g:bM->α} (h1:∀o es,g {o with ah:=es}=g o) (h2:∀o l,g {o with aV:=l}=g o) (h3:∀o a b,g {o with aU:=a,aJ:=b}=g o):g (af (bw X O d name t) k)=g (af O k):=by
 unfold bw xT
 rw [eT (λo=>h2 o _),eT (λo=>h3 o _ _),eT (λo=>h1 o _)]
theorem mo {α:Type} {g:bM->α} (h1:∀o es,g {o with ah:=es}=g o) (h2:∀o l,g {o with aV:=l}=g o) (h3:∀o a b,g {o with aU:=a,aJ:=b}=g o) (h4:∀o u,g {o with up:=u}=g o):g (af (dg X O d name t) k)=g (af O k):=by
 unfold dg xT
 rw [eT (λo=>h3 o _ _),Hu h1 h2 h4]
theorem Inv0.hX (h:Inv0 S):0<=S.X.ah/\S.X.ah<=1048576/\-1125899906842624<=S.X.used/\S.X.used<=1125899906842624/\0<=S.X.last/\S.X.last<=1125899906842624:=by
 have:=h.total;have:=h.used;have:=h.last
 omega
theorem Inv0.lI (h:Inv0 S) (hl:aT S.ar t):(af S.O t.k).ah.length<=8192:=by
 have h1:=h.total
 have h2:(af S.O t.k).ah.length<=tot S.ar S.O:=sJ (g:=λp:Int×Th=>(af S.O p.2.k).ah.length) hl
 omega
theorem Inv0.lb (h:Inv0 S) (hl:aT S.ar t):0<=(af S.O t.k).aV/\(af S.O t.k).aV<=8192:=by
 have h1:=h.total
 have h2:=h.aV t hl
 grind [nG,tot,Vu]
theorem ade {us:bF Th}:hnd us k<=us.length:=by
 have:hnd us k<=gV (λ_=>1) us:=Rz (λp _=>by split<;>omega)
 have h2:∀us:bF Th,gV (λ_=>1) us=us.length:=λus=>by
  induction us with
  |nil=>rfl
  |cons p r ih=>show 1+_=_;rw [ih,ahQ];omega
 rw [h2] at this;exact this
theorem Inv0.LF (h:Inv0 S) (hl:aT S.ar t):0<=(af S.O t.k).aK/\(af S.O t.k).aK<=1024:=by
 have h1:=h.aK t hl
 have h2:hnd S.us t.k<=S.us.length:=ade
 have:=h.Gx;have:=h.cH
 omega
theorem Inv0.Oj (h:Inv0 S) (hl:aT S.ar t):(af S.O t.k).data.length<=1125899906842624:=by
 have h1:=h.used
 have h2:(af S.O t.k).data.length<=bytes S.ar S.O:=sJ (g:=λp:Int×Th=>(af S.O p.2.k).data.length) hl
 omega
theorem Inv0.Tk (h:Inv0 S) (hl:aT S.ar t):(af S.O t.k).data.length<=140737488355328:=by
 have h1:=h.used
 have h2:(af S.O t.k).data.length<=bytes S.ar S.O:=sJ (g:=λp:Int×Th=>(af S.O p.2.k).data.length) hl
 omega
theorem Inv0.Vv (h:Inv0 S) (hl:aT S.ar t):(Lit.int .i64 (af S.O t.k).id).wf=true:=by
 have h1:=h.ob t hl
 have h2:=h.ar _ t hl
 have h3:=h.last
 exact WalkArith.wf_i64 zc
theorem Inv0.sU (h:Inv0 S) (hd:aT S.ar ⟨d,2⟩) (name:ByteArray):bN name (af S.O d).ah=none\/(∃k,bN name (af S.O d).ah=some ⟨k,1⟩/\aT S.ar ⟨k,1⟩)\/(∃k,bN name (af S.O d).ah=some ⟨k,2⟩/\aT S.ar ⟨k,2⟩)\/∃k,bN name (af S.O d).ah=some ⟨k,3⟩/\aT S.ar ⟨k,3⟩:=by
 cases e:bN name (af S.O d).ah with
 |none=>exact .inl rfl
 |some t=>
   obtain⟨k,kd⟩:=t
   have h1:=(h.bU hd e).2
   rcases (h.ob _ h1).2.2 with e2|e2|e2<;>subst e2
   all_goals grind
theorem Inv0.adf (h:Inv0 S) (i:Int):aF.get S.ar i=none\/(∃k,aF.get S.ar i=some ⟨k,1⟩/\aT S.ar ⟨k,1⟩)\/(∃k,aF.get S.ar i=some ⟨k,2⟩/\aT S.ar ⟨k,2⟩)\/∃k,aF.get S.ar i=some ⟨k,3⟩/\aT S.ar ⟨k,3⟩:=by
 cases e:aF.get S.ar i with
 |none=>exact .inl rfl
 |some t=>
   obtain⟨k,kd⟩:=t
   have h1:=h.live e
   rcases (h.ob _ h1).2.2 with e2|e2|e2<;>subst e2
   all_goals grind
theorem Inv0.hand (h:Inv0 S) (i:Int):aF.get S.us i=none\/(∃k,aF.get S.us i=some ⟨k,1⟩/\aT S.ar ⟨k,1⟩)\/∃k,aF.get S.us i=some ⟨k,2⟩/\aT S.ar ⟨k,2⟩:=by
 cases e:aF.get S.us i with
 |none=>exact .inl rfl
 |some t=>
   obtain⟨k,kd⟩:=t
   obtain⟨h1,h0⟩:=h.us i _ e
   rcases (h.ob _ h1).2.2 with e2|e2|e2
   all_goals grind
theorem Inv0.ae0 (h:Inv0 S) (hd:aT S.ar ⟨d,2⟩) (hl:bN name (af S.O d).ah=some t):1<=S.X.ah:=by
 have h1:=h.total
 have h2:0<nG S.ar S.O t.k:=qZ hd hl
 grind [nG,tot,Vu]
theorem Inv0.Gy (h:Inv0 S) (hd:aT S.ar ⟨d,2⟩) (hl:bN name (af S.O d).ah=some t):0<=S.X.ah-1/\S.X.ah-1<=1048576/\-1125899906842624<=S.X.used/\S.X.used<=1125899906842624/\0<=S.X.last/\S.X.last<=1125899906842624:=by
 have:=h.ae0 hd hl;have:=h.hX
 omega
theorem wG {L:HL} {us:bF Th} {h:Int} (e:aF.get us h=none):aF.get (cM L us) h=none:=by
 unfold cM;rw [get_map,e];rfl
theorem qE {L:HL} {us:bF Th} {h:Int} (e:aF.get us h=some t):aF.get (cM L us) h=some (iz L t):=by
 unfold cM;rw [get_map,e];rfl
theorem zD {L:HL} {us:bF Th} {h:Int} (hn:aF.get us h=none):ql (cQ (cM L us)) (.int .i64 h) (some (iz L t))=cQ (cM L (ins h t us)):=by
 rw [Kw (get_none.1 (wG hn))]
 exact ahg cQ (Ku (iz L) h t us).symm
theorem Vw {L:HL} {us:bF Th}:aF.aS (cM L us)=aF.aS us:=by unfold aF.aS;rw [Hy]
theorem Ky {TT:TypeId} {L:HL} {us:bF Th} {v:Value} {l:List HP} {b:Nat} {most aI:Int} (h:v=.tuple #[.int .i64 (aF.aS (cM L us)),.int .i64 0]/\l=[.abs (fD TT b most (max aI (((cM L us).length:Int)+1)) (ins (aF.aS (cM L us)) (iz L t) (cM L us)))]):v=.tuple #[.int .i64 (aF.aS us),.int .i64 0]/\l=[.abs (fD TT b most (max aI ((us.length:Int)+1)) (cM L (ins (aF.aS us) t us)))]:=by
 rw [Vw,wE] at h
 have e:ins (aF.aS us) (iz L t) (cM L us)=cM L (ins (aF.aS us) t us):=(Ku (iz L) (aF.aS us) t us).symm
 rw [e] at h
 exact h
theorem Yu {α:Type} {es:ja α} {n:ByteArray} (h:es=[]):bN n es=none:=by rw [h];rfl
end facts
section blocks
variable {O:eu} {L:HL} {k j:Nat} {t u:Th}
theorem FV (hk:(af O k).kind≠0) {F:Fp} {w:World} (h:(aW (d8 O L)).h F w):∃cs T,w.heap[L.b k]?=some (.cells cs T (0,0)):=by
 obtain⟨G,g⟩:=aW.at k h
 rw [rN hk] at g
 exact⟨_,_,g.1⟩
theorem RA (hk:(af O k).kind≠0) (hj:(af O j).kind≠0) {F:Fp} {w:World} (h:(aW (d8 O L)).h F w) (e:L.b k=L.b j):k=j:=by
 apply ahF
 intro bV
 obtain⟨φ,h1,h2,_⟩:=h
 have g1:=h1 k
 have g2:=h1 j
 rw [rN hk] at g1
 rw [rN hj] at g2
 exact h2 k j bV (L.b k) ((g1.2 _).2 rfl) ((g2.2 _).2 e)
theorem Kz:Tryz.prog.underlying 144=some (.pointer 147):=KB
theorem Yv:Tryz.prog.underlying 138=some (.pointer 140):=KB
theorem Yw:Tryz.prog.underlying 141=some (.pointer 143):=KB
end blocks
theorem Yx {s:ByteArray}:0<=Lib.indexByte s.data.toList ((0:Int).toNat.toUInt8)↔¬qN s:=by
 have hge:=Lib.indexByte_ge s.data.toList ((0:Int).toNat.toUInt8)
 constructor
 ·intro h hn
  obtain⟨o,ho⟩:=Int.eq_ofNat_of_zero_le h
  have h1:=(Lib.indexByte_some ho).1
  obtain⟨h2,h3⟩:=Ev h1
  exact hn o h2 h3
 intro hn
 apply ahF
 intro fV
 refine hn (λj hj h0=>Lib.indexByte_none (show Lib.indexByte s.data.toList ((0:Int).toNat.toUInt8) = -1 by omega) j ?_)
 rw [xk hj]
 congr 1
 apply ahS.1
 exact h0
theorem QD {β:Bs} (s:ByteArray):aX Tryz.prog β 142 #[.string s,.int .u8 0] [] (λv l=>(∃x:Int,v=.int .i64 x/\(0<=x↔¬qN s))/\l=[]):=
 λ_ w hS=>(Tryz.strings_IndexByte s 0 w).mono λ_ _ ⟨h1,h2⟩=>⟨_,[],h1,⟨⟨_,rfl,Yx⟩,rfl⟩,h2 ▸ hS⟩
section ptr
variable {O:eu} {L:HL} {k j:Nat}
theorem Yy:∃j,Tryz.prog.info? 147=some j/\j.size≠0:=by
 have h:(match Tryz.prog.info? 147 with|some j=>j.size != 0|none=>false)=true:=KB
 grind
theorem Vx {w:World} {o:Oper} {ev:Operand->Value} {x y:Operand} (ho:o.op=.binOp .eql 144 x y 144) (hx:ev x=.pointer (some ⟨L.b k,0,none⟩)) (hy:ev y=.pointer (some ⟨L.b j,0,none⟩)) (hk:(af O k).kind≠0) (hj:(af O j).kind≠0) {F:Fp} (hF:(aW (d8 O L)).h F w) :
 sQ Tryz.prog ev o w (.bool (decide (k=j))) w:=by
 obtain⟨dst,op,type,pos,after,guard⟩:=o
 cases ho
 refine .inl ?_
 simp only [execOp,hx,hy]
 obtain⟨ca,ta,ha⟩:=FV hk hF
 obtain⟨cb,tb,hb⟩:=FV hj hF
 obtain⟨i,hi,eG⟩:=Yy
 have h1:(binOp .eql 144 (.pointer (some ⟨L.b k,0,none⟩)) (.pointer (some ⟨L.b j,0,none⟩))).run Tryz.prog w=.ok (.bool (decide (k=j))) w:=by
  by_cases e:k=j
  ·subst e
   rw [run_eql_ptr_same _ _ Kz hi]
   simp
  rw [run_eql_ptr_other _ Kz hi eG (λh=>e (RA hk hj hF (ahg Addr.block h))) ha hb]
  simp [e]
 simp [go_sem,eqGuard,h1]
def KA (tp te:TypeId):Prop:=Tryz.prog.underlying tp=some (.pointer te)/\(∃i,Tryz.prog.info? tp=some i/\i.comparable=true)/\∃j,Tryz.prog.info? te=some j/\j.size≠0
theorem KC {tp te:TypeId} (h1:Tryz.prog.underlying tp=some (.pointer te)) (h2:(match Tryz.prog.info? tp with|some j=>j.comparable|none=>false)=true) (h3:(match Tryz.prog.info? te with|some j=>j.size != 0|none=>false)=true):KA tp te:=by
 grind [KA]
theorem adg:KA 138 140:=KC Yv KB KB
theorem ae1:KA 144 147:=KC Kz KB KB
theorem adh:KA 141 143:=KC Yw KB KB
theorem HF {tp te:TypeId} (hT:KA tp te) {w:World} {o:Oper} {ev:Operand->Value} {x y:Operand} (ho:o.op=.binOp .eql 133 x y 133) (hx:ev x=.iface tp (.pointer (some ⟨L.b k,0,none⟩))) (hy:ev y=.iface tp (.pointer (some ⟨L.b j,0,none⟩))) (hk:(af O k).kind≠0) (hj:(af O j).kind≠0) {F:Fp} (hF:(aW (d8 O L)).h F w) :
 sQ Tryz.prog ev o w (.bool (decide (k=j))) w:=by
 obtain⟨dst,op,type,pos,after,guard⟩:=o
 cases ho
 refine .inl ?_
 simp only [execOp,hx,hy]
 obtain⟨ca,ta,ha⟩:=FV hk hF
 obtain⟨cb,tb,hb⟩:=FV hj hF
 obtain⟨g1,⟨i,hi,hc⟩,j',hj',eG⟩:=hT
 have h1:(binOp .eql 133 (.iface tp (.pointer (some ⟨L.b k,0,none⟩))) (.iface tp (.pointer (some ⟨L.b j,0,none⟩)))).run Tryz.prog w=.ok (.bool (decide (k=j))) w:=by
  by_cases e:k=j
  ·subst e
   rw [run_eql_iface_ptr_same _ _ Tryz.underlying133 g1 hi hc hj']
   simp
  rw [run_eql_iface_ptr_other _ Tryz.underlying133 g1 hi hc hj' eG (λh=>e (RA hk hj hF (ahg Addr.block h))) ha hb]
  simp [e]
 simp [go_sem,eqGuard,h1]
end ptr
structure Bz (O:eu) (ar us:bF Th) (k:Nat):Prop where
 up:∀x,(af O x).up≠some k
 ah:∀x,∀e∈(af O x).ah,e.2.k≠k
 ar:∀p∈ar,p.2.k≠k
 us:∀p∈us,p.2.k≠k
section fresh
variable {S:bB} {O:eu} {ar us:bF Th} {L L':HL} {k b m c:Nat} {A:Option Addr} {o:bM} {t:Th}
theorem q4 (h:Inv0 S):(bA S.X:Int)=S.X.last+1:=by
 have:=h.last
 unfold bA
 omega
theorem Inv0.CQ (h:Inv0 S) (ht:aT S.ar t):t.k≠bA S.X:=h.free (by have:=q4 h;omega) ht
theorem Inv0.KD (h:Inv0 S) (hk:S.X.last<(k:Int)):Bz S.O S.ar S.us k:=by
 have key:∀x,(∃t,aT S.ar t/\t.k=x)\/(af S.O x).ah=[]/\(af S.O x).up=none:=λx=>by
  by_cases hx:∃t,aT S.ar t/\t.k=x
  ·exact .inl hx
  exact .inr (h.dead x (λt ht e=>hx ⟨t,ht,e⟩))
 refine⟨λx e=>?_,λx e he=>?_,λp hp=>(h.free hk (h.live (oI h.fO hp))),λp hp=>(h.free hk (h.us _ _ (oI h.usr hp)).1)⟩
 ·rcases key x with ⟨t,ht,rfl⟩|hx
  ·obtain⟨_,h2,_⟩:=(h.up t ht _).1 e
   exact h.free hk h2 rfl
  rw [hx.2] at e;cases e
 rcases key x with ⟨t,ht,rfl⟩|hx
 ·exact h.free hk (h.ah t ht e he).2
 rw [hx.1] at he;cases he
theorem Inv0.fresh (h:Inv0 S):Bz S.O S.ar S.us (bA S.X):=h.KD (by have:=q4 h;omega)
theorem Dq (hL:L'=L.put k b m A c) {x:Nat} (h:x≠k):L'.b x=L.b x:=by subst hL;exact ahe h
theorem Jb (hL:L'=L.put k b m A c):L'.b k=b:=by subst hL;exact ahf rfl
theorem Ol (hL:L'=L.put k b m A c):L'.m k=m:=by subst hL;exact ahf rfl
theorem Vy (hL:L'=L.put k b m A c) (h:t.k≠k):iz L' t=iz L t:=by unfold iz;rw [Dq hL h]
theorem vn (hL:L'=L.put k b m A c) (kind:Int):iz L' ⟨k,kind⟩=.iface (thT kind) (.pointer (some ⟨b,0,none⟩)):=by unfold iz;rw [Jb hL]
theorem lX (hL:L'=L.put k b m A c) (h:∀p∈us,p.2.k≠k):cM L' us=cM L us:=ahR (λp hp=>by rw [Vy hL (h p hp)])
theorem Yz {es:ja Th} {n:ByteArray} (h:∀e∈es,e.2.k≠k) (e:bN n es=some t):t.k≠k:=h _ (rI e)
theorem YA (hL:L'=L.put k b m A c) {es:ja Th} (h:∀e∈es,e.2.k≠k):nJ L' es=nJ L es:=by
 unfold nJ
 congr 1
 funext n
 cases e:bN n es with
 |none=>rfl
 |some t=>exact ahg some (Vy hL (Yz h e))
theorem RG (hL:L'=L.put k b m A c) (hf:Bz O ar us k) {x:Nat} (h:x≠k):d8 O L' x=d8 O L x:=by
 have e1:=Dq hL h
 have e2:lN L' x (af O x)=lN L x (af O x):=by
  unfold lN FR
  have h1:I5 L' (af O x).up=I5 L (af O x).up:=by
   cases hu:(af O x).up with
   |none=>rfl
   |some d=>show Value.pointer _=Value.pointer _;rw [Dq hL (λe=>hf.up x (by rw [hu,e]))]
  rw [h1]
  subst hL
  simp only [HL.put,ahe h]
 unfold d8
 rw [e1,e2]
theorem KE (hL:L'=L.put k b m A c) (hf:Bz O ar us k) {x:Nat} (h:x≠k):fM O L' x=fM O L x:=by
 unfold fM
 rw [YA hL (hf.ah x)]
 subst hL
 simp only [HL.put,ahe h]
theorem FW (hL:L'=L.put k b m A c) {x:Nat} (h:x≠k):dN O L' x=dN O L x:=by
 unfold dN
 subst hL
 simp only [HL.put,ahe h]
end fresh
theorem AA {O O':eu} {L:HL} (h1:∀x,(af O' x).data=(af O x).data) (h2:∀x,(af O' x).kind=(af O x).kind):dN O' L=dN O L:=by
 funext x
 unfold dN
 rw [h1,h2]
theorem mK {X:FM} {O:eu} {L:HL} {d:Nat} {name:ByteArray} {t:Th}:dN (dg X O d name t) L=dN O L:=
 AA (λ_=>mo (g:=bM.data) (λ_ _=>rfl) (λ_ _=>rfl) (λ_ _ _=>rfl) (λ_ _=>rfl)) (λ_=>QA)
theorem qv {X:FM} {O:eu} {L:HL} {d:Nat} {name:ByteArray} {t:Th}:dN (bw X O d name t) L=dN O L:=
 AA (λ_=>eW (g:=bM.data) (λ_ _=>rfl) (λ_ _=>rfl) (λ_ _ _=>rfl)) (λ_=>fN)
theorem wH {α:Type} {g:bM->α} {O:eu} {k j:Nat} (h:∀o b,g {o with aH:=b}=g o):g (af (tN O j) k)=g (af O k):=eT (f:=λo=>{o with aH:=true}) (λo=>h o true)
theorem YB {O:eu} {L:HL} {k:Nat}:dN (tN O k) L=dN O L:=AA (λ_=>wH (g:=bM.data) (λ_ _=>rfl)) (λ_=>wH (g:=bM.kind) (λ_ _=>rfl))
theorem uK {S:bB} {L:HL} {d:Nat} {name:ByteArray} {t:Th}:dN (bp S d name t).O L=dN S.O L:=by
 unfold bp
 simp only
 split
 ·exact YB.trans qv
 exact qv
theorem Jc {S:bB} {d k:Nat} {name:ByteArray} {t:Th}:(af (bp S d name t).O k).kind=(af S.O k).kind:=by
 unfold bp
 simp only
 split
 ·exact (wH (g:=bM.kind) (λ_ _=>rfl)).trans fN
 exact fN
theorem vo {X:FM} {O:eu} {ar:bF Th} {d:Nat} {name:ByteArray} (h:gy X O ar d name=0):bN name (af O d).ah=none:=by
 grind [gy]
theorem Cx {X:FM} {O:eu} {ar:bF Th} {d:Nat} {name:ByteArray} (h:gy X O ar d name=0):Room X ar:=by
 grind [gy]
theorem xw {X:FM} {O:eu} {ar:bF Th} {d:Nat} {name:ByteArray} (h:gy X O ar d name=0):X.last<1099511627776:=(Cx h).2.1
section sat
variable {β:Bs} {l l':List HP} {w:World} {i j k b m c:Nat} {O:eu} {us:bF Th} {idx' us':bF Th} {L L':HL} {cs:List Value} {T:TypeId} {ix:List Nat} {A:Option Addr} {o:bM} {R R':Nat->dV}
theorem aR.less {p p':HP} (h:aR β l w) (hp:l[i]?=some p) (hs:∀F,p.h F w->∃F',p'.h F' w/\∀x,F' x->F x):aR β (l.set i p') w:=
 h.set hp (λF hF=>let ⟨F',h1,h2⟩:=hs F hF;⟨F',h1,⟨cK.refl _ _,λk hk=>.inl (h2 k hk)⟩⟩)
theorem aR.EL (h:aR β l w) (hp:l[i]?=some (.abs (aW R))) (k:Nat) (hR:∀x,x≠k->R' x=R x) (ha:R' k=dV.none):aR β (l.set i (.abs (aW R'))) w:=by
 refine h.less hp ?_
 rintro F ⟨φ,h1,h2,h3⟩
 refine⟨λx=>∃i,i≠k/\φ i x,⟨λi=>if i=k then λ_=>False else φ i,λi=>?_,λi j bV x hx hy=>?_,λx=>⟨λ⟨i,bV,hx⟩=>⟨i,by simpa [bV] using hx⟩,λ⟨i,hx⟩=>?_⟩⟩,λx ⟨i,_,hx⟩=>(h3 x).2 ⟨i,hx⟩⟩
 ·by_cases e:i=k
  ·subst e;simp only [if_true];rw [ha];exact λ_ h=>h
  grind
 ·by_cases e1:i=k
  ·simp [e1] at hx
  by_cases e2:j=k
  ·simp [e2] at hy
  exact h2 i j bV x (by simpa [e1] using hx) (by simpa [e2] using hy)
 by_cases e1:i=k
 ·simp [e1] at hx
 exact⟨i,e1,by simpa [e1] using hx⟩
theorem aR.BA (h:aR β l w) (hL:L'=L.put k b m A c) (hf:Bz O idx' us' k) (hp:l[i]?=some (.abs (aW (d8 O L)))) (hq:l[j]?=some (.ay b cs T)) (hd:cC (i::j::ix)=true) (hl:cW l ix=some l') (h0:o.kind≠0) (hc:lN L' k o=cs) (hT:sM o.kind=T):aR β (.abs (aW (d8 (aZ O k (λ_=>o)) L'))::l') w:=by
 refine h.xu (a:=Ht b cs T) hp hq (λ_ _ h=>h) hd hl k (λx hx=>?_) (by grind [CN,Jb])
 rw [CO hx,RG hL hf hx]
theorem aR.aaP (h:aR β l w) (hL:L'=L.put k b m A c) (hf:Bz O idx' us' k) (hp:l[i]?=some (.abs (aW (fM O L)))) (hq:l[j]?=some (.abs (bD Tryz.prog 9 m (λ_=>none) 0))) (hd:cC (i::j::ix)=true) (hl:cW l ix=some l') (h2:o.kind=2) (he:o.ah=[]):aR β (.abs (aW (fM (aZ O k (λ_=>o)) L'))::l') w:=by
 refine h.xu hp hq (λ_ _ h=>h) hd hl k (λx hx=>by rw [EB hx,KE hL hf hx]) ?_
 grind [vl,fB,Yi,Ol]
theorem aR.CR (h:aR β l w) (hL:L'=L.put k b m A c) (hf:Bz O idx' us' k) (hp:l[i]?=some (.abs (aW (fM O L)))) (h2:o.kind≠2):aR β (l.set i (.abs (aW (fM (aZ O k (λ_=>o)) L')))) w:=by
 refine h.EL hp k (λx hx=>by rw [EB hx,KE hL hf hx]) ?_
 unfold fM;rw [fB,ahe h2]
theorem aR.Jd (h:aR β l w) (hL:L'=L.put k b m A c) (hp:l[i]?=some (.abs (aW (dN O L)))) (h1:o.kind≠1):aR β (l.set i (.abs (aW (dN (aZ O k (λ_=>o)) L')))) w:=by
 refine h.EL hp k (λx hx=>by rw [EC hx,FW hL hx]) ?_
 unfold dN;rw [fB,ahe h1]
theorem aR.Tl (h:aR β l w) (hL:L'=L.put k b m none 0) (hp:l[i]?=some (.abs (aW (dN O L)))) (hq:l[j]?=some (.abs (aG 5 1 none 0 0 []))) (hd:cC (i::j::ix)=true) (hl:cW l ix=some l') (h1:o.kind=1) (he:o.data=[]):aR β (.abs (aW (dN (aZ O k (λ_=>o)) L'))::l') w:=by
 refine h.xu hp hq (λ_ _ h=>h) hd hl k (λx hx=>by rw [EC hx,FW hL hx]) ?_
 rw [Ap (by rw [fB];exact h1),fB,he]
 subst hL
 simp only [HL.put,if_true]
 rfl
end sat
section inv
variable {S:bB} {d:Nat} {name:ByteArray} {t:Th} {O':eu}
theorem pW.del {es:ja Th} (h:pW es):pW (kE name es):=aii _ h
theorem Je {x y:ByteArray}:¬jA x y↔vD y x<0:=by
 unfold jA
 rw [Eg,Lib.toList_data,Lib.toList_data]
 have h1:=@Ll x.data.toList y.data.toList
 grind [Lp,Ej,vD]
theorem pW.ins {es:ja Th} (h:pW es) (hn:bN name es=none):pW (kO name t es):=by
 induction es with
 |nil=>exact List.pairwise_singleton ..
 |cons e r ih=>
   obtain⟨h1,h2⟩:=ahw.1 h
   have jU:=Dl.1 hn
   unfold kO
   split
   ·rename_i fV
    refine ahw.2 ⟨λx hx=>?_,h⟩
    grind [Je,IV]
   rename_i dW
   refine ahw.2 ⟨λx hx=>?_,ih h2 (Dl.2 (λx hx=>jU x (ahq _ hx)))⟩
   grind [Hr,Je,vD,Ej,Lp]
theorem Inv0.cut (hI:Inv0 S) (hd:aT S.ar ⟨d,2⟩) (hl:bN name (af S.O d).ah=some t) {g:Bool}
 (hO:∀k,af O' k=if k=d then {af S.O d with ah:=kE name (af S.O d).ah,aU:=S.X.cS,aJ:=S.X.cZ} else if k=t.k then {af S.O k with aV:=(af S.O k).aV-1,aH:=g,up:=none} else af S.O k)
 (hg:g=(af S.O t.k).aH\/(af S.O t.k).aV-1=0/\(t.kind=2->(af S.O t.k).ah=[])):Inv0 {S with X:={S.X with ah:=S.X.ah-1},O:=O' }:=by
 have bV:=hI.ne hd hl
 have ht:=(hI.bU hd hl).2
 have oD:af O' d={af S.O d with ah:=kE name (af S.O d).ah,aU:=S.X.cS,aJ:=S.X.cZ}:=by rw [hO,ahf rfl]
 have oT:af O' t.k={af S.O t.k with aV:=(af S.O t.k).aV-1,aH:=g,up:=none}:=by rw [hO,ahe bV,ahf rfl]
 have oX:∀x,x≠d->x≠t.k->af O' x=af S.O x:=Pe
 have Gz:∀{α:Type} (G:bM->α),(∀o es a b,G {o with ah:=es,aU:=a,aJ:=b}=G o)->(∀o l g,G {o with aV:=l,aH:=g,up:=none}=G o)->∀x,G (af O' x)=G (af S.O x):=λG h1 h2 x=>by
  grind
 have fId:=Gz bM.id (λ_ _ _ _=>rfl) (λ_ _ _=>rfl)
 have Jf:=Gz bM.kind (λ_ _ _ _=>rfl) (λ_ _ _=>rfl)
 have Tm:=Gz bM.data (λ_ _ _ _=>rfl) (λ_ _ _=>rfl)
 have fOp:=Gz bM.aK (λ_ _ _ _=>rfl) (λ_ _ _=>rfl)
 have fE:∀x,x≠d->(af O' x).ah=(af S.O x).ah:=λx hx=>by
  grind
 have LG:(af O' d).ah=kE name (af S.O d).ah:=by rw [oD]
 have eM:0<nG S.ar S.O t.k:=qZ hd hl
 have fV:=hI.aV t ht
 have hky:∀i u,aF.get S.ar i=some u->i=(u.k:Int):=λi u e=>hI.key e
 have hsum:∀q:ByteArray×Th->Bool,_:=λq=>Oi (q:=q) hI.fO hd hky fE LG (hI.pX hd) hl
 have YC:∀x,nG S.ar O' x+(if t.k=x then 1 else 0)=nG S.ar S.O x:=λx=>by
  have h1:=hsum (λe=>decide (e.2.k=x))
  simp only [decide_eq_true_eq] at h1
  exact h1
 refine {hI with ob:=λx hx=>?_,mt:=λx hx=>?_,ah:=λx hx e he=>?_,sorted:=λx hx=>?_,dead:=λx hx=>?_,zj:=λx hx=>(Jf x).trans (hI.zj x hx),total:=?_,aV:=λx hx=>?_,once:=λx hx hk=>?_,aK:=λx hx=>?_,aH:=λx hx oL=>?_,up:=λx hx e=>?_,deep:=?_,used:=?_}
 ·show (af O' x.k).id=_/\(af O' x.k).kind=_/\_
  rw [fId,Jf];exact hI.ob x hx
 ·show qY (af O' x.k)
  have hm:=hI.mt x hx
  by_cases e:x.k=d
  ·rw [e] at hm ⊢
   rw [oD]
   exact hm.of rfl rfl rfl hI.now rfl (.inl rfl) (.inr (hI.kind hd)) rfl
  by_cases e2:x.k=t.k
  ·rw [e2] at hm ⊢
   rw [oT]
   exact hm.of rfl rfl rfl hm.time rfl (.inl rfl) (.inl rfl) rfl
  rw [oX _ e e2];exact hm
 ·by_cases e1:x.k=d
  ·have he:e∈(af O' x.k).ah:=he
   rw [e1,LG] at he
   exact hI.ah _ hd e (Oh he).1
  have he:e∈(af O' x.k).ah:=he
  rw [fE _ e1] at he
  exact hI.ah x hx e he
 ·show pW (af O' x.k).ah
  by_cases e1:x.k=d
  ·rw [e1,LG];exact pW.del (hI.sorted _ hd)
  rw [fE _ e1];exact hI.sorted x hx
 ·show (af O' x).ah=[]/\(af O' x).up=none
  rw [oX x (λe=>hx _ hd e.symm) (λe=>hx t ht e.symm)]
  exact hI.dead x hx
 ·have h1:=hsum (λ_=>true)
  have h2:=hI.total
  grind [xY,tot]
 ·show (af O' x.k).aV=(nG S.ar O' x.k:Int)
  have h1:=YC x.k
  have h2:=hI.aV x hx
  grind
 ·show (af O' x.k).aV<=1
  have h1:=hI.once x hx hk
  grind
 ·show (af O' x.k).aK=_
  rw [fOp];exact hI.aK x hx
 ·have oL:(af O' x.k).aH=true:=oL
  show (af O' x.k).aV=0/\(af O' x.k).ah=[]
  by_cases e2:x.k=t.k
  ·rw [e2] at oL ⊢
   rw [fE _ bV,oT]
   rw [oT] at oL
   show (af S.O t.k).aV-1=0/\_
   rcases hg with h|⟨h1,h2⟩
   ·have oL:g=true:=oL
    rw [h] at oL
    have:=(hI.aH t ht oL).1
    omega
   refine⟨h1,?_⟩
   by_cases hk:t.kind=2
   ·exact h2 hk
   exact (hI.mt t ht).ah (by rw [hI.kind ht];exact hk)
  by_cases e:x.k=d
  ·rw [e,oD] at oL
   have:=(hI.aH _ hd oL).2
   rw [Yu this] at hl;cases hl
  rw [oX _ e e2] at oL ⊢;exact hI.aH x hx oL
 ·show (af O' x.k).up=some e↔x.kind=2/\aT S.ar ⟨e,2⟩/\∃n,bN n (af O' e).ah=some x
  by_cases e2:x.k=t.k
  ·have LH:x=t:=jx hx ht e2
   subst LH
   rw [oT]
   constructor
   ·intro h;cases h
   rintro⟨hk,dW,n,hn⟩
   have h1:=hI.once x hx hk
   grind [nG,qZ,aT,bN,af,kE,up]
  have h1:(af O' x.k).up=(af S.O x.k).up:=by
   grind
  have h2:∀n,bN n (af O' e).ah=some x↔bN n (af S.O e).ah=some x:=λn=>by
   grind [xS]
  rw [h1,hI.up x hx e]
  simp only [h2]
 ·obtain⟨dp,hdp⟩:=hI.deep
  refine⟨dp,λx e hx=>?_⟩
  grind
 have:bytes S.ar O'=bytes S.ar S.O:=lG (λp _=>by rw [Tm])
 show S.X.used=(bytes S.ar O':Int)/\_
 rw [this];exact hI.used
theorem Tn {O O1:eu} {s k:Nat} (h:∀x e,(af O1 x).up=some e->(af O x).up=some e) (hb:sD O1 s k):sD O s k:=by
 induction hb with
 |here=>exact .here
 |up hu _ ih=>exact .up (h _ _ hu) ih
theorem LI {O:eu} {s k:Nat}:sD O s k↔k=s\/∃e,(af O k).up=some e/\sD O s e:=by
 constructor
 ·rintro (_|⟨h1,h2⟩)
  ·exact .inl rfl
  exact .inr ⟨_,h1,h2⟩
 rintro (h|⟨e,h1,h2⟩)
 ·subst h;exact .here
 exact .up h1 h2
theorem Inv0.put (hI:Inv0 S) (hd:aT S.ar ⟨d,2⟩) (lS:(af S.O d).aH=false) (hn:bN name (af S.O d).ah=none) (j6:cA name) (ht:aT S.ar t) (Rw:(af S.O t.k).aH=false) (adi:t.kind=2->(af S.O t.k).aV=0/\¬sD S.O t.k d) (htd:t.k≠d) (hroom:S.X.ah<8192) {ta tb:Int} (htm:gj ta tb)
 (hO:∀k,af O' k=if k=d then {af S.O d with ah:=kO name t (af S.O d).ah,aU:=ta,aJ:=tb} else if k=t.k then {af S.O k with aV:=(af S.O k).aV+1,up:=if t.kind=2 then some d else (af S.O k).up} else af S.O k) :
 Inv0 {S with X:={S.X with ah:=S.X.ah+1},O:=O' }:=by
 have bV:=htd
 have oD:af O' d={af S.O d with ah:=kO name t (af S.O d).ah,aU:=ta,aJ:=tb}:=by rw [hO,ahf rfl]
 have oT:af O' t.k={af S.O t.k with aV:=(af S.O t.k).aV+1,up:=if t.kind=2 then some d else (af S.O t.k).up}:=by rw [hO,ahe bV,ahf rfl]
 have oX:∀x,x≠d->x≠t.k->af O' x=af S.O x:=Pe
 have Gz:∀{α:Type} (G:bM->α),(∀o es a b,G {o with ah:=es,aU:=a,aJ:=b}=G o)->(∀o l u,G {o with aV:=l,up:=u}=G o)->∀x,G (af O' x)=G (af S.O x):=λG h1 h2 x=>by
  grind
 have fId:=Gz bM.id (λ_ _ _ _=>rfl) (λ_ _ _=>rfl)
 have Jf:=Gz bM.kind (λ_ _ _ _=>rfl) (λ_ _ _=>rfl)
 have Tm:=Gz bM.data (λ_ _ _ _=>rfl) (λ_ _ _=>rfl)
 have fOp:=Gz bM.aK (λ_ _ _ _=>rfl) (λ_ _ _=>rfl)
 have fG:=Gz bM.aH (λ_ _ _ _=>rfl) (λ_ _ _=>rfl)
 have fE:∀x,x≠d->(af O' x).ah=(af S.O x).ah:=λx hx=>by
  grind
 have LG:(af O' d).ah=kO name t (af S.O d).ah:=by rw [oD]
 have hky:∀i u,aF.get S.ar i=some u->i=(u.k:Int):=λi u e=>hI.key e
 have hsum:∀q:ByteArray×Th->Bool,_:=λq=>Yt (q:=q) hI.fO hd hky fE LG
 have YC:∀x,nG S.ar O' x=nG S.ar S.O x+(if t.k=x then 1 else 0):=λx=>by
  have h1:=hsum (λe=>decide (e.2.k=x))
  simp only [decide_eq_true_eq] at h1
  exact h1
 have fV:=hI.aV t ht
 have agY:t.kind=2->∀e n,aT S.ar ⟨e,2⟩->bN n (af S.O e).ah≠some t:=λhk e n dW h=>by
  have h1:0<nG S.ar S.O t.k:=qZ dW h
  have:=(adi hk).1
  omega
 refine {hI with ob:=λx hx=>?_,mt:=λx hx=>?_,ah:=λx hx e he=>?_,sorted:=λx hx=>?_,dead:=λx hx=>?_,zj:=λx hx=>(Jf x).trans (hI.zj x hx),total:=?_,aV:=λx hx=>?_,once:=λx hx hk=>?_,aK:=λx hx=>?_,aH:=λx hx oL=>?_,up:=λx hx e=>?_,deep:=?_,used:=?_}
 ·show (af O' x.k).id=_/\(af O' x.k).kind=_/\_
  rw [fId,Jf];exact hI.ob x hx
 ·show qY (af O' x.k)
  have hm:=hI.mt x hx
  by_cases e:x.k=d
  ·rw [e] at hm ⊢
   rw [oD]
   exact hm.of rfl rfl rfl htm rfl (.inl rfl) (.inr (hI.kind hd)) rfl
  by_cases e2:x.k=t.k
  ·rw [e2] at hm ⊢
   rw [oT]
   exact hm.of rfl rfl rfl hm.time rfl (.inl rfl) (.inl rfl) rfl
  rw [oX _ e e2];exact hm
 ·have he:e∈(af O' x.k).ah:=he
  by_cases e1:x.k=d
  ·rw [e1,LG] at he
   rcases Hr.1 he with rfl|he
   ·exact⟨j6,ht⟩
   exact hI.ah _ hd e he
  rw [fE _ e1] at he
  exact hI.ah x hx e he
 ·show pW (af O' x.k).ah
  by_cases e1:x.k=d
  ·rw [e1,LG];exact pW.ins (hI.sorted _ hd) hn
  rw [fE _ e1];exact hI.sorted x hx
 ·show (af O' x).ah=[]/\(af O' x).up=none
  rw [oX x (λe=>hx _ hd e.symm) (λe=>hx t ht e.symm)]
  exact hI.dead x hx
 ·have h1:=hsum (λ_=>true)
  have h2:=hI.total
  grind [xY,tot]
 ·show (af O' x.k).aV=(nG S.ar O' x.k:Int)
  have h1:=YC x.k
  have h2:=hI.aV x hx
  grind
 ·show (af O' x.k).aV<=1
  have h1:=hI.once x hx hk
  grind [jx,af]
 ·show (af O' x.k).aK=_
  rw [fOp];exact hI.aK x hx
 ·have oL:(af O' x.k).aH=true:=oL
  rw [fG] at oL
  show (af O' x.k).aV=0/\(af O' x.k).ah=[]
  by_cases e2:x.k=t.k
  ·rw [e2,Rw] at oL;cases oL
  by_cases e:x.k=d
  ·rw [e,lS] at oL;cases oL
  rw [oX _ e e2];exact hI.aH x hx oL
 ·show (af O' x.k).up=some e↔x.kind=2/\aT S.ar ⟨e,2⟩/\∃n,bN n (af O' e).ah=some x
  by_cases e2:x.k=t.k
  ·have LH:x=t:=jx hx ht e2
   subst LH
   rw [oT]
   show (if x.kind=2 then some d else (af S.O x.k).up)=some e↔_
   by_cases hk:x.kind=2
   ·rw [ahf hk]
    constructor
    ·intro h
     cases h
     exact⟨hk,hd,name,by rw [LG,Ez hn,ahf rfl]⟩
    grind
   rw [ahe hk,hI.up x hx e]
   grind
  have h1:(af O' x.k).up=(af S.O x.k).up:=by
   grind
  have h2:∀n,bN n (af O' e).ah=some x↔bN n (af S.O e).ah=some x:=λn=>by
   grind [Ez]
  rw [h1,hI.up x hx e]
  simp only [h2]
 ·obtain⟨dp,hdp⟩:=hI.deep
  by_cases hk:t.kind=2
  ·obtain⟨hl0,hnb⟩:=adi hk
   have agZ:(af S.O t.k).up=none:=by
    cases hu:(af S.O t.k).up with
    |none=>rfl
    |some e=>
      grind [aT,af,bN,cA,gj,kO,up]
   refine⟨λx=>if sD S.O t.k x then dp x+dp d+1 else dp x,λx e hx=>?_⟩
   grind [af,up,LI]
  refine⟨dp,λx e hx=>?_⟩
  grind
 have:bytes S.ar O'=bytes S.ar S.O:=lG (λp _=>by rw [Tm])
 show S.X.used=(bytes S.ar O':Int)/\_
 rw [this];exact hI.used
end inv
section new
variable {S:bB} {d:Nat} {name:ByteArray} {t:Th} {o:bM} {us':bF Th} {lH:Int}
theorem Inv0.newAt (hI:Inv0 S) {k0:Nat} (fV:S.X.last<(k0:Int)) (dW:(k0:Int)<=1099511627776) {sS:Int} (agG:sS=S.X.used+o.data.length/\sS<=140737488355328) (hid:o.id=(k0:Int)) (hk3:o.kind=1\/o.kind=2\/o.kind=3) (hl0:o.aV=0) (he0:o.ah=[]) (hu0:o.up=none) (hg0:o.aH=false) (hm:qY o) (jy:S.ar.length<4096)
 (u1:aF.dH (bn us')) (u2:∀x∈bn us',1<=x/\x<=lH) (u3:(us'.length:Int)<=S.X.cH) (u4:0<=lH/\lH<=S.X.cH) (u5:∀h t,aF.get us' h=some t->(aT S.ar t\/t=⟨k0,o.kind⟩)/\t.kind≠3) (u6:∀k,k≠k0->hnd us' k=hnd S.us k) (u7:o.aK=(hnd us' (k0):Int)) :
 Inv0 {S with X:={S.X with last:=(k0:Int),used:=sS},O:=aZ S.O (k0) (λ_=>o),ar:=ins ((k0:Int)) ⟨k0,o.kind⟩ S.ar,us:=us',aI:=lH}:=by
 have hnot:aF.get S.ar ((k0:Int))=none:=by
  cases e:aF.get S.ar ((k0:Int)) with
  |none=>rfl
  |some u=>have:=(hI.ar _ u e).2.2;omega
 have hget:∀i,aF.get (ins ((k0:Int)) ⟨k0,o.kind⟩ S.ar) i=if i=(k0:Int) then some ⟨k0,o.kind⟩ else aF.get S.ar i:=by grind [wz,get_none]
 have kA:∀x,aT (ins ((k0:Int)) ⟨k0,o.kind⟩ S.ar) x↔x=⟨k0,o.kind⟩\/aT S.ar x:=λx=>by
  grind [aT]
 have oN:af (aZ S.O (k0) (λ_=>o)) (k0)=o:=fB
 have oX:∀x,aT S.ar x->af (aZ S.O (k0) (λ_=>o)) x.k=af S.O x.k:=λx hx=>jb (hI.free fV hx)
 have hfr:=hI.KD fV
 have hmem:∀p∈S.ar,af (aZ S.O (k0) (λ_=>o)) p.2.k=af S.O p.2.k:=λp hp=>jb (hfr.ar p hp)
 have hsum:∀g:bM->Nat,g o=0->gV (λp:Int×Th=>g (af (aZ S.O (k0) (λ_=>o)) p.2.k)) (ins ((k0:Int)) ⟨k0,o.kind⟩ S.ar)=gV (λp:Int×Th=>g (af S.O p.2.k)) S.ar:=λg hg=>by
  grind [Hz,af,lG]
 refine {hI with last:=?_,fO:=(Au hI.fO (get_none.1 hnot)),len:=?_,ar:=λi x e=>?_,ob:=λx hx=>?_,mt:=λx hx=>?_,ah:=λx hx e he=>?_,sorted:=λx hx=>?_,dead:=λx hx=>?_,zj:=λx hx=>?_,total:=?_,aV:=λx hx=>?_,once:=λx hx hk=>?_,aK:=λx hx=>?_,usr:=u1,xX:=u2,Gx:=u3,aI:=u4,us:=λh x e=>?_,aH:=λx hx oL=>?_,up:=λx hx e=>?_,deep:=?_,used:=?_}
 ·grind
 ·grind [ins,lE]
 ·have e:aF.get (ins ((k0:Int)) ⟨k0,o.kind⟩ S.ar) i=some x:=e
  rw [hget] at e
  have:=hI.last
  show i=(x.k:Int)/\0<i/\i<=(k0:Int)
  split at e
  ·grind
  have:=hI.ar i x e
  omega
 ·show (af (aZ S.O (k0) (λ_=>o)) x.k).id=_/\(af (aZ S.O (k0) (λ_=>o)) x.k).kind=_/\_
  rcases (kA x).1 hx with h|h
  ·subst h;rw [oN];exact⟨hid,rfl,hk3⟩
  rw [oX x h];exact hI.ob x h
 ·show qY (af (aZ S.O (k0) (λ_=>o)) x.k)
  rcases (kA x).1 hx with h|h
  ·subst h;rw [oN];exact hm
  rw [oX x h];exact hI.mt x h
 ·have he:e∈(af (aZ S.O (k0) (λ_=>o)) x.k).ah:=he
  rcases (kA x).1 hx with h|h
  ·subst h;rw [oN,he0] at he;cases he
  rw [oX x h] at he
  have h1:=hI.ah x h e he
  exact⟨h1.1,(kA _).2 (.inr h1.2)⟩
 ·show pW (af (aZ S.O (k0) (λ_=>o)) x.k).ah
  rcases (kA x).1 hx with h|h
  ·subst h;rw [oN,he0];exact List.Pairwise.nil
  rw [oX x h];exact hI.sorted x h
 ·show (af (aZ S.O (k0) (λ_=>o)) x).ah=[]/\(af (aZ S.O (k0) (λ_=>o)) x).up=none
  have h1:x≠k0:=λe=>hx ⟨k0,o.kind⟩ ((kA _).2 (.inl rfl)) e.symm
  rw [jb h1]
  exact hI.dead x (λu hu=>hx u ((kA _).2 (.inr hu)))
 ·have hx:(k0:Int)<(x:Int):=hx
  show (af (aZ S.O (k0) (λ_=>o)) x).kind=0
  rw [jb (λe=>by rw [e] at hx;omega)]
  exact hI.zj x zc
 ·show S.X.ah=(tot _ _:Int)/\S.X.ah<=8192
  have:tot (ins ((k0:Int)) ⟨k0,o.kind⟩ S.ar) (aZ S.O (k0) (λ_=>o))=tot S.ar S.O:=hsum (λo=>o.ah.length) (by rw [he0];rfl)
  rw [this];exact hI.total
 ·show (af (aZ S.O (k0) (λ_=>o)) x.k).aV=(nG _ _ x.k:Int)
  have:nG (ins ((k0:Int)) ⟨k0,o.kind⟩ S.ar) (aZ S.O (k0) (λ_=>o)) x.k=nG S.ar S.O x.k:=hsum (λo=>o.ah.countP (λe:ByteArray×Th=>decide (e.2.k=x.k))) (by rw [he0];rfl)
  rw [this]
  rcases (kA x).1 hx with h|h
  ·subst h
   rw [oN,hl0]
   have:nG S.ar S.O (k0)=0:=by
    apply ahF
    intro bV
    obtain⟨i,u,hu,e,he,hek⟩:=Ja hI.fO (Nat.pos_of_ne_zero bV)
    exact hfr.ah u.k e he hek
   rw [this];rfl
  rw [oX x h];exact hI.aV x h
 ·show (af (aZ S.O (k0) (λ_=>o)) x.k).aV<=1
  rcases (kA x).1 hx with h|h
  ·subst h;rw [oN,hl0];decide
  rw [oX x h];exact hI.once x h hk
 ·show (af (aZ S.O (k0) (λ_=>o)) x.k).aK=(hnd us' x.k:Int)
  rcases (kA x).1 hx with h|h
  ·subst h;rw [oN];exact u7
  rw [oX x h,u6 _ (hI.free fV h)];exact hI.aK x h
 ·grind
 ·have oL:(af (aZ S.O (k0) (λ_=>o)) x.k).aH=true:=oL
  show (af (aZ S.O (k0) (λ_=>o)) x.k).aV=0/\(af (aZ S.O (k0) (λ_=>o)) x.k).ah=[]
  rcases (kA x).1 hx with h|h
  ·subst h;rw [oN,hg0] at oL;cases oL
  rw [oX x h] at oL ⊢;exact hI.aH x h oL
 ·show (af (aZ S.O (k0) (λ_=>o)) x.k).up=some e↔x.kind=2/\aT _ ⟨e,2⟩/\∃n,bN n (af (aZ S.O (k0) (λ_=>o)) e).ah=some x
  rcases (kA x).1 hx with h|h
  ·subst h
   rw [oN,hu0]
   constructor
   ·intro h;cases h
   rintro⟨_,dW,n,h⟩
   by_cases e2:e=k0
   ·rw [e2,oN,he0] at h;cases h
   rw [jb e2] at h;exact ahh rfl (hfr.ah e _ (rI h))
  rw [oX x h,hI.up x h e]
  constructor
  ·grind
  rintro⟨h1,h2,n,h3⟩
  by_cases e2:e=k0
  ·rw [e2,oN,he0] at h3;cases h3
  grind
 ·obtain⟨dp,hdp⟩:=hI.deep
  refine⟨dp,λx e hx=>?_⟩
  grind [af,aZ,up,jb]
 show sS=(bytes _ _:Int)/\_
 have h1:bytes (ins (k0:Int) ⟨k0,o.kind⟩ S.ar) (aZ S.O k0 (λ_=>o))=o.data.length+bytes S.ar S.O:=by
  grind [bytes,Hz,af,lG]
 have h2:=hI.used
 grind
theorem Inv0.new (hI:Inv0 S) (hid:o.id=S.X.last+1) (hk3:o.kind=1\/o.kind=2\/o.kind=3) (hl0:o.aV=0) (he0:o.ah=[]) (hu0:o.up=none) (hg0:o.aH=false) (hd0:o.data=[]) (hm:qY o) (hlast:S.X.last<1099511627776) (jy:(S.ar.length:Int)<S.X.cN)
 (u1:aF.dH (bn us')) (u2:∀x∈bn us',1<=x/\x<=lH) (u3:(us'.length:Int)<=S.X.cH) (u4:0<=lH/\lH<=S.X.cH) (u5:∀h t,aF.get us' h=some t->(aT S.ar t\/t=⟨bA S.X,o.kind⟩)/\t.kind≠3) (u6:∀k,k≠bA S.X->hnd us' k=hnd S.us k) (u7:o.aK=(hnd us' (bA S.X):Int)) :
 Inv0 {S with X:={S.X with last:=S.X.last+1},O:=aZ S.O (bA S.X) (λ_=>o),ar:=ins (S.X.last+1) ⟨bA S.X,o.kind⟩ S.ar,us:=us',aI:=lH}:=by
 have hnk:=q4 hI
 have h:=hI.newAt (k0:=bA S.X) (sS:=S.X.used) zc zc ⟨by rw [hd0];simp,hI.used.2⟩ (hid.trans hnk.symm) hk3 hl0 he0 hu0 hg0 hm (by have:=hI.cN;omega) u1 u2 u3 u4 u5 u6 u7
 rw [hnk] at h
 exact h
theorem bT.add (hI:bT S) (hd:aT S.ar ⟨d,2⟩) (lS:(af S.O d).aH=false) (hn:bN name (af S.O d).ah=none) (j6:cA name) (hroom:Room S.X S.ar)
 (hid:o.id=S.X.last+1) (hk3:o.kind=1\/o.kind=2\/o.kind=3) (hl0:o.aV=0) (he0:o.ah=[]) (hu0:o.up=none) (hg0:o.aH=false) (hd0:o.data=[]) (hm:qY o)
 (u1:aF.dH (bn us')) (u2:∀x∈bn us',1<=x/\x<=lH) (u3:(us'.length:Int)<=S.X.cH) (u4:0<=lH/\lH<=S.X.cH) (u5:∀h t,aF.get us' h=some t->(aT S.ar t\/t=⟨bA S.X,o.kind⟩)/\t.kind≠3) (u6:∀k,k≠bA S.X->hnd us' k=hnd S.us k) (u7:o.aK=(hnd us' (bA S.X):Int)) :
 bT (gu {S with us:=us',aI:=lH} d name o):=by
 have h1:=hI.toInv0.new hid hk3 hl0 he0 hu0 hg0 hd0 hm hroom.2.1 hroom.1 u1 u2 u3 u4 u5 u6 u7
 have bV:d≠bA S.X:=hI.CQ hd
 have hnk:=q4 hI.toInv0
 have hnot:aF.get S.ar (S.X.last+1)=none:=by
  cases e:aF.get S.ar (S.X.last+1) with
  |none=>rfl
  |some u=>have:=(hI.ar _ u e).2.2;omega
 have hget:∀i,aF.get (ins (S.X.last+1) ⟨bA S.X,o.kind⟩ S.ar) i=if i=S.X.last+1 then some ⟨bA S.X,o.kind⟩ else aF.get S.ar i:=by grind [wz,get_none]
 have hdl:aT (ins (S.X.last+1) ⟨bA S.X,o.kind⟩ S.ar) ⟨d,2⟩:=by
  grind [aT]
 have hnl:aT (ins (S.X.last+1) ⟨bA S.X,o.kind⟩ S.ar) ⟨bA S.X,o.kind⟩:=by
  unfold aT
  rw [hget,ahf hnk]
 have oN:af (aZ S.O (bA S.X) (λ_=>o)) (bA S.X)=o:=fB
 have oD:af (aZ S.O (bA S.X) (λ_=>o)) d=af S.O d:=jb bV
 have hnb:¬sD (aZ S.O (bA S.X) (λ_=>o)) (bA S.X) d:=λhb=>by
  have key:∀x,sD (aZ S.O (bA S.X) (λ_=>o)) (bA S.X) x->x=bA S.X:=λx hx=>by
   induction hx with
   |here=>rfl
   | @up k j hu _ ih=>
     subst ih
     by_cases e:k=bA S.X
     ·exact e
     rw [jb e] at hu;exact ahh hu (hI.fresh.up k)
  exact bV (key d hb)
 have h2:=h1.put (d:=d) (name:=name) (t:=⟨bA S.X,o.kind⟩) (O':=(gu {S with us:=us',aI:=lH} d name o).O) hdl (by rw [oD];exact lS) (by rw [oD];exact hn) j6 hnl (by rw [oN];exact hg0) (λ_=>⟨by rw [oN];exact hl0,hnb⟩) (λe=>bV e.symm) hroom.2.2 h1.now (λk=>s5 (λe=>bV e.symm))
 refine⟨h2,λx hx oL=>?_⟩
 have g1:∀k,(af (gu {S with us:=us',aI:=lH} d name o).O k).aH=(af (aZ S.O (bA S.X) (λ_=>o)) k).aH:=λk=>mo (g:=bM.aH) (λ_ _=>rfl) (λ_ _=>rfl) (λ_ _ _=>rfl) (λ_ _=>rfl)
 have g2:∀k,(af (gu {S with us:=us',aI:=lH} d name o).O k).aK=(af (aZ S.O (bA S.X) (λ_=>o)) k).aK:=λk=>mo (g:=bM.aK) (λ_ _=>rfl) (λ_ _=>rfl) (λ_ _ _=>rfl) (λ_ _=>rfl)
 rw [g1] at oL
 rw [g2]
 by_cases e:x.k=bA S.X
 ·rw [e,oN,hg0] at oL;cases oL
 rw [jb e] at oL ⊢
 refine hI.full x ?_ oL
 grind [ins,bA,aT,af,bN,cA,Room,bn,hnd,gu]
end new
section drop
variable {S:bB} {d:Nat} {name:ByteArray} {t:Th}
theorem oh {α:Type} {g:bM->α} {O:eu} {k j:Nat} (h:∀o,g {o with up:=none}=g o):g (af (jk O j) k)=g (af O k):=eT (f:=λo=>{o with up:=none}) h
theorem EM {O:eu} {k:Nat}:uE (jk O k) t↔uE O t:=by
 unfold uE
 rw [oh (g:=bM.aH) (λ_=>rfl),oh (g:=bM.aK) (λ_=>rfl)]
theorem Om {O:eu} {k:Nat} {u:Int}:qt (jk O k) u t=qt O u t:=by
 unfold qt
 simp only [EM,oh (g:=bM.data) (λ_=>rfl)]
theorem Oo {O:eu} {k:Nat} {ar:bF Th}:kW (jk O k) ar t=kW O ar t:=by
 unfold kW
 simp only [EM,oh (g:=bM.id) (λ_=>rfl)]
theorem bT.drop (hI:bT S) (hd:aT S.ar ⟨d,2⟩) (hl:bN name (af S.O d).ah=some t) (he:t.kind=2->(af S.O t.k).ah=[]):bT {bp S d name t with O:=jk (bp S d name t).O t.k}:=by
 have bV:=hI.ne hd hl
 have ht:=(hI.bU hd hl).2
 have eM:(af (bw S.X S.O d name t) t.k).aV=(af S.O t.k).aV-1:=by grind [lf]
 have hfull:∀(O2:eu),(∀u,u≠t.k->(af O2 u).aH=(af S.O u).aH/\(af O2 u).aK=(af S.O u).aK)->∀u,aT S.ar u->u≠t->(af O2 u.k).aH=true->0<(af O2 u.k).aK:=λO2 h u hu hut hg=>by
  have hk:u.k≠t.k:=λe=>hut (jx hu ht e)
  rw [(h _ hk).1] at hg
  rw [(h _ hk).2]
  exact hI.full u hu hg
 by_cases h0:(af (bw S.X S.O d name t) t.k).aV=0
 ·have e1:bp S d name t=_:=xV h0
  have hO:∀k,af (jk (tN (bw S.X S.O d name t) t.k) t.k) k=if k=d then {af S.O d with ah:=kE name (af S.O d).ah,aU:=S.X.cS,aJ:=S.X.cZ} else if k=t.k then {af S.O k with aV:=(af S.O k).aV-1,aH:=true,up:=none} else af S.O k:=λk=>by
   unfold jk tN
   rw [Bv,ko]
   by_cases e:k=t.k
   ·rw [ahf e,lf bV,ahe (λe2=>bV (e.symm.trans e2)),ahf e,ahe (λe2=>bV (e.symm.trans e2)),ahf e]
   rw [ahe e,lf bV,ahe e,ahe e]
  have h1:=hI.toInv0.cut hd hl hO (.inr ⟨by rw [←eM];exact h0,he⟩)
  have h2:=h1.zk (t:=t) ht (hfull _ (λu hu=>by
   rw [oh (g:=bM.aH) (λ_=>rfl),oh (g:=bM.aK) (λ_=>rfl)]
   show (af (aZ _ t.k _) u).aH=_/\(af (aZ _ t.k _) u).aK=_
   rw [jb hu,eW (g:=bM.aH) (λ_ _=>rfl) (λ_ _=>rfl) (λ_ _ _=>rfl),eW (g:=bM.aK) (λ_ _=>rfl) (λ_ _=>rfl) (λ_ _ _=>rfl)]
   exact⟨rfl,rfl⟩))
  rw [e1]
  unfold zk at h2
  simp only [Om,Oo] at h2
  exact h2
 have e1:bp S d name t=_:=xW h0
 have hnd:t.kind≠2:=λhk=>by
  have h1:=hI.once t ht hk
  have h2:=hI.aV t ht
  have h3:0<nG S.ar S.O t.k:=qZ hd hl
  omega
 have Tp:(af S.O t.k).up=none:=by
  cases hu:(af S.O t.k).up with
  |none=>rfl
  |some e=>exact ahh ((hI.up t ht e).1 hu).1 hnd
 have hO:∀k,af (jk (bw S.X S.O d name t) t.k) k=if k=d then {af S.O d with ah:=kE name (af S.O d).ah,aU:=S.X.cS,aJ:=S.X.cZ} else if k=t.k then {af S.O k with aV:=(af S.O k).aV-1,aH:=(af S.O t.k).aH,up:=none} else af S.O k:=λk=>by
  unfold jk
  rw [ko]
  by_cases e:k=t.k
  ·rw [ahf e,lf bV,ahe (λe2=>bV (e.symm.trans e2)),ahf e,ahe (λe2=>bV (e.symm.trans e2)),ahf e,e]
  rw [ahe e,lf bV,ahe e,ahe e]
 have h1:=hI.toInv0.cut hd hl hO (.inl rfl)
 rw [e1]
 refine⟨h1,λu hu hg=>?_⟩
 have hg:(af (jk (bw S.X S.O d name t) t.k) u.k).aH=true:=hg
 show 0<(af (jk (bw S.X S.O d name t) t.k) u.k).aK
 rw [oh (g:=bM.aH) (λ_=>rfl),eW (g:=bM.aH) (λ_ _=>rfl) (λ_ _=>rfl) (λ_ _ _=>rfl)] at hg
 rw [oh (g:=bM.aK) (λ_=>rfl),eW (g:=bM.aK) (λ_ _=>rfl) (λ_ _=>rfl) (λ_ _ _=>rfl)]
 exact hI.full u hu hg
theorem YD {k:Nat}:(af (bp S d name t).O k).up=(af S.O k).up:=by
 unfold bp
 simp only
 split
 ·exact (wH (g:=bM.up) (λ_ _=>rfl)).trans (eW (g:=bM.up) (λ_ _=>rfl) (λ_ _=>rfl) (λ_ _ _=>rfl))
 exact eW (g:=bM.up) (λ_ _=>rfl) (λ_ _=>rfl) (λ_ _ _=>rfl)
theorem bT.FX (hI:bT S) (hd:aT S.ar ⟨d,2⟩) (hl:bN name (af S.O d).ah=some t) (hk:t.kind≠2):bT (bp S d name t):=by
 have h:=hI.drop hd hl (λe=>ahh e hk)
 have ht:=(hI.bU hd hl).2
 have Tp:(af S.O t.k).up=none:=by
  cases hu:(af S.O t.k).up with
  |none=>rfl
  |some e=>exact ahh ((hI.up t ht e).1 hu).1 hk
 have e:jk (bp S d name t).O t.k=(bp S d name t).O:=abO (by
  have:(af (bp S d name t).O t.k).up=none:=YD.trans Tp
  rw [←this])
 rw [e] at h
 exact h
end drop
end
end Go.Proofs.YtbnfiigafobejaaGreat
section
namespace Go.Proofs.YtbnfiigafobejaaGreat.aF
open bG
variable {V:Type}
theorem LJ (us:bF V) (p:Int×V):bn (us++[p])=bn us++[p.1]:=by simp [bn]
theorem HM (us:bF V):(bn us).length=us.length:=by simp [bn]
theorem least_le {us:bF V} (hr:dH (bn us)) (hp:∀x∈bn us,1<=x):1<=aS us/\aS us∉bn us/\∀x,1<=x->x<aS us->x∈bn us:=qX (bn us) 1 hr hp
theorem tf:∀(ks:List Int) (h:Int),lQ h ks<=h+ks.length
 |[],h=>by simp [lQ]
 |k::r,h=>by
   unfold lQ
   split
   ·have:=tf r (h+1);simp only [ahQ];push_cast;omega
   simp only [ahQ];push_cast;omega
theorem QE (us:bF V):aS us<=us.length+1:=by
 have:=tf (bn us) 1
 rw [HM] at this
 unfold aS;omega
end Go.Proofs.YtbnfiigafobejaaGreat.aF
end
namespace Go.Proofs.YtbnfiigafobejaaGreat
section
open Go.RowKit Go.Maps bG aF
section ops
variable {S:bB} {d to:Nat} {name aD:ByteArray} {t:Th}
theorem bT.link (hI:bT S) (hd:aT S.ar ⟨d,2⟩) (lS:(af S.O d).aH=false) (hn:bN name (af S.O d).ah=none) (j6:cA name) (ht:aT S.ar t) (Rw:(af S.O t.k).aH=false) (hk:t.kind≠2) (hroom:S.X.ah<8192) :
 bT {S with X:={S.X with ah:=S.X.ah+1},O:=dg S.X S.O d name t}:=by
 have bV:t.k≠d:=by grind [jx]
 have h1:=hI.toInv0.put hd lS hn j6 ht Rw (λe=>ahh e hk) bV hroom hI.now (λk=>s5 bV)
 refine⟨h1,λx hx hg=>?_⟩
 have hg:(af (dg S.X S.O d name t) x.k).aH=true:=hg
 show 0<(af (dg S.X S.O d name t) x.k).aK
 rw [mo (g:=bM.aH) (λ_ _=>rfl) (λ_ _=>rfl) (λ_ _ _=>rfl) (λ_ _=>rfl)] at hg
 rw [mo (g:=bM.aK) (λ_ _=>rfl) (λ_ _=>rfl) (λ_ _ _=>rfl) (λ_ _=>rfl)]
 exact hI.full x hx hg
theorem qw (bV:t.k≠d) {X:FM} {O:eu} (h:bN aD (af O to).ah=none):bN aD (af (bw X O d name t) to).ah=none:=by
 grind [lf,bN,kE,af,xS]
theorem bT.move (hI:bT S) (hd:aT S.ar ⟨d,2⟩) (hl:bN name (af S.O d).ah=some t) (d9:aT S.ar ⟨to,2⟩) (lS:(af S.O to).aH=false) (hn:bN aD (af S.O to).ah=none) (j6:cA aD) (hb:t.kind=2->¬sD S.O t.k to):bT (pV S d name to aD t):=by
 have bV:=hI.ne hd hl
 have ht:=(hI.bU hd hl).2
 have Oq:t.k≠to:=λe=>by
  have h1:t=⟨to,2⟩:=jx ht d9 e
  exact hb (by rw [h1]) (by rw [e];exact .here)
 have hgt:(af S.O t.k).aH=false:=by
  cases hg:(af S.O t.k).aH with
  |false=>rfl
  |true=>
    have h1:=(hI.aH t ht hg).1
    have h2:=hI.aV t ht
    have h3:0<nG S.ar S.O t.k:=qZ hd hl
    omega
 have hO:∀k,af (jk (bw S.X S.O d name t) t.k) k=if k=d then {af S.O d with ah:=kE name (af S.O d).ah,aU:=S.X.cS,aJ:=S.X.cZ} else if k=t.k then {af S.O k with aV:=(af S.O k).aV-1,aH:=(af S.O t.k).aH,up:=none} else af S.O k:=λk=>by
  unfold jk
  rw [ko]
  by_cases e:k=t.k
  ·rw [ahf e,lf bV,ahe (λe2=>bV (e.symm.trans e2)),ahf e,ahe (λe2=>bV (e.symm.trans e2)),ahf e,e]
  rw [ahe e,lf bV,ahe e,ahe e]
 have h1:=hI.toInv0.cut hd hl hO (.inl rfl)
 have g0:∀{α:Type} (g:bM->α),(∀o es,g {o with ah:=es}=g o)->(∀o l,g {o with aV:=l}=g o)->(∀o a b,g {o with aU:=a,aJ:=b}=g o)->(∀o u,g {o with up:=u}=g o)->∀k,g (af (jk (bw S.X S.O d name t) t.k) k)=g (af S.O k):=λg a b c e k=>(oh (λo=>e o none)).trans (eW a b c)
 have eM:=hI.aV t ht
 have hlp:0<nG S.ar S.O t.k:=qZ hd hl
 have hend:(af (jk (bw S.X S.O d name t) t.k) to).ah=(af (bw S.X S.O d name t) to).ah:=oh (g:=bM.ah) (λ_=>rfl)
 have h2:=h1.put (d:=to) (name:=aD) (t:=t) (O':=(pV S d name to aD t).O) d9 (by
  show (af (jk (bw S.X S.O d name t) t.k) to).aH=false
  rw [g0 bM.aH (λ_ _=>rfl) (λ_ _=>rfl) (λ_ _ _=>rfl) (λ_ _=>rfl)];exact lS) (by
  show bN aD (af (jk (bw S.X S.O d name t) t.k) to).ah=none
  rw [hend];exact qw bV hn) j6 ht (by
  show (af (jk (bw S.X S.O d name t) t.k) t.k).aH=false
  rw [g0 bM.aH (λ_ _=>rfl) (λ_ _=>rfl) (λ_ _ _=>rfl) (λ_ _=>rfl)];exact hgt) (λhk=>⟨by
   have h3:=hI.once t ht hk
   show (af (jk (bw S.X S.O d name t) t.k) t.k).aV=0
   rw [hO,ahe bV,ahf rfl]
   show (af S.O t.k).aV-1=0
   omega,λhb2=>hb hk (Tn (λx e hx=>by
    have hx:(af (jk (bw S.X S.O d name t) t.k) x).up=some e:=hx
    by_cases e1:x=t.k
    ·rw [hO,ahe (by rw [e1];exact bV),ahf e1] at hx;cases hx
    rw [hO] at hx
    split at hx
    ·rename_i e2;rw [e2];exact hx
    first|exact hx|(rw [ahe e1] at hx;exact hx)) hb2)⟩) Oq (by
  have:=hI.total
  show S.X.ah-1<8192
  omega) hI.now (λk=>by
  show af (dg S.X (bw S.X S.O d name t) to aD t) k=_
  rw [s5 Oq]
  by_cases e:k=to
  ·rw [ahf e,ahf e]
   have h3:af (jk (bw S.X S.O d name t) t.k) to=af (bw S.X S.O d name t) to:=jb (λe=>Oq e.symm)
   rw [show af _ to=_ from h3]
  rw [ahe e,ahe e]
  by_cases e2:k=t.k
  ·rw [ahf e2,ahf e2,e2]
   show _={af (jk (bw S.X S.O d name t) t.k) t.k with aV:=(af (jk (bw S.X S.O d name t) t.k) t.k).aV+1,up:=if t.kind=2 then some to else (af (jk (bw S.X S.O d name t) t.k) t.k).up}
   have h3:af (jk (bw S.X S.O d name t) t.k) t.k={af (bw S.X S.O d name t) t.k with up:=none}:=fB
   rw [h3]
   by_cases hk:t.kind=2
   ·rw [ahf hk,ahf hk]
   rw [ahe hk,ahe hk]
   have Tp:(af (bw S.X S.O d name t) t.k).up=none:=by
    rw [eW (g:=bM.up) (λ_ _=>rfl) (λ_ _=>rfl) (λ_ _ _=>rfl)]
    cases hu:(af S.O t.k).up with
    |none=>rfl
    |some e=>exact ahh ((hI.up t ht e).1 hu).1 hk
   rw [Tp]
  rw [ahe e2,ahe e2]
  have h3:af (jk (bw S.X S.O d name t) t.k) k=af (bw S.X S.O d name t) k:=jb e2
  exact h3.symm)
 refine⟨h2,λx hx hg=>?_⟩
 have g3:∀{α:Type} (g:bM->α),(∀o es,g {o with ah:=es}=g o)->(∀o l,g {o with aV:=l}=g o)->(∀o a b,g {o with aU:=a,aJ:=b}=g o)->(∀o u,g {o with up:=u}=g o)->∀k,g (af (pV S d name to aD t).O k)=g (af S.O k):=λg a b c e k=>(mo a b c e).trans (eW a b c)
 rw [g3 bM.aH (λ_ _=>rfl) (λ_ _=>rfl) (λ_ _ _=>rfl) (λ_ _=>rfl)] at hg
 rw [g3 bM.aK (λ_ _=>rfl) (λ_ _=>rfl) (λ_ _ _=>rfl) (λ_ _=>rfl)]
 exact hI.full x hx hg
theorem KF {us:bF Th} {h:Int} {k:Nat}:hnd (ins h t us) k=(if t.k=k then 1 else 0)+hnd us k:=Hz
theorem RH {us:bF Th} {h:Int} {k:Nat} (hr:aF.dH (bn us)) (e:aF.get us h=some t):hnd (del h us) k+(if t.k=k then 1 else 0)=hnd us k:=HE (g:=λp:Int×Th=>if p.2.k=k then 1 else 0) hr e
theorem RI {us:bF Th} {aI:Int} (hr:aF.dH (bn us)) (h1:∀x∈bn us,1<=x/\x<=aI):aF.dH (bn (ins (aF.aS us) t us))/\∀x∈bn (ins (aF.aS us) t us),1<=x/\x<=max aI ((us.length:Int)+1):=by
 obtain⟨g1,g2,_⟩:=least_le hr (λx hx=>(h1 x hx).1)
 have g3:=QE us
 grind [Au,rP]
theorem bT.eH (hI:bT S) (ht:aT S.ar t) (hk:t.kind≠3):bT (Proofs.YtbnfiigafobejaaGreat.eH S t).2.2:=by
 by_cases fV:(S.us.length:Int)<S.X.cH
 ·rw [ox fV]
  obtain⟨g1,g2,_⟩:=least_le hI.usr (λx hx=>(hI.xX x hx).1)
  obtain⟨v1,v2⟩:=RI (t:=t) hI.usr hI.xX
  have hb:bytes S.ar (aZ S.O t.k (λo=>{o with aK:=o.aK+1}))=bytes S.ar S.O:=lG (λp _=>by rw [eT (f:=λo=>{o with aK:=o.aK+1}) (g:=bM.data) (λ_=>rfl)])
  have h1:=hI.toInv0.own (k:=t.k) (f:=λo=>{o with aK:=o.aK+1}) (sS:=S.X.used) (us':=ins (aF.aS S.us) t S.us) (lH:=max S.aI ((S.us.length:Int)+1)) (λ_=>rfl) (λ_=>rfl) (λ_=>rfl) (λ_=>rfl) (λ_=>rfl) (λ_=>rfl)
   (λu hu e=>by rw [←e];exact (hI.mt u hu).of rfl rfl rfl (hI.mt u hu).time rfl (.inl rfl) (.inl rfl) rfl)
   (λu hu=>by
    have h2:=hI.aK u hu
    rw [KF]
    by_cases e:u.k=t.k
    ·rw [e,fB,ahf rfl,←e]
     show (af S.O u.k).aK+1=_
     omega
    rw [jb e,ahe (λe2=>e e2.symm)];omega)
   v1 v2 (by rw [lE];omega) (by have:=hI.aI;omega) (λh u e=>by
    rw [wz g2] at e
    split at e
    ·cases e;exact⟨ht,hk⟩
    exact hI.us h u e) ⟨by rw [hb];exact hI.used.1,hI.used.2⟩
  refine⟨h1,λu hu hg=>?_⟩
  have hg:(af (aZ S.O t.k (λo=>{o with aK:=o.aK+1})) u.k).aH=true:=hg
  rw [eT (f:=λo=>{o with aK:=o.aK+1}) (g:=bM.aH) (λ_=>rfl)] at hg
  have h2:=hI.full u hu hg
  grind [af,aZ,fB,jb]
 rw [oZ fV];exact hI
theorem bT.gF (hI:bT S) {k:Nat} (ht:aT S.ar ⟨k,1⟩) (bs:List UInt8):bT (Proofs.YtbnfiigafobejaaGreat.gF S k bs).2.2:=by
 unfold Proofs.YtbnfiigafobejaaGreat.gF
 split
 ·exact hI
 split
 ·exact hI
 rename_i hroom
 have jy:(af (aZ S.O k (λo=>{o with data:=o.data++bs.take (dR S.X bs.length),aU:=S.X.cS,aJ:=S.X.cZ})) k).data.length=(af S.O k).data.length+dR S.X bs.length:=by
  rw [fB]
  show ((af S.O k).data++bs.take (dR S.X bs.length)).length=_
  rw [ahl,ahC]
  unfold dR
  omega
 have hb:=HB (g:=λp:Int×Th=>(af S.O p.2.k).data.length) (g':=λp:Int×Th=>(af (aZ S.O k (λo=>{o with data:=o.data++bs.take (dR S.X bs.length),aU:=S.X.cS,aJ:=S.X.cZ})) p.2.k).data.length) hI.fO ht (λp hp bV=>by
  have h1:=hI.key (oI hI.fO hp)
  show (af (aZ _ k _) p.2.k).data.length=_
  rw [jb (λe=>bV (by rw [h1,e]))])
 have hb:bytes S.ar (aZ S.O k (λo=>{o with data:=o.data++bs.take (dR S.X bs.length),aU:=S.X.cS,aJ:=S.X.cZ}))+(af S.O k).data.length=bytes S.ar S.O+(af (aZ S.O k (λo=>{o with data:=o.data++bs.take (dR S.X bs.length),aU:=S.X.cS,aJ:=S.X.cZ})) k).data.length:=hb
 have hu:=hI.used
 have hcB:=hI.cB
 have h1:=hI.toInv0.own (k:=k) (f:=λo=>{o with data:=o.data++bs.take (dR S.X bs.length),aU:=S.X.cS,aJ:=S.X.cZ}) (sS:=S.X.used+(dR S.X bs.length:Int)) (us':=S.us) (lH:=S.aI) (λ_=>rfl) (λ_=>rfl) (λ_=>rfl) (λ_=>rfl) (λ_=>rfl) (λ_=>rfl)
  (λu hu e=>by
   have hk1:u=⟨k,1⟩:=jx hu ht e
   have ae2:=hI.kind hu
   rw [←e]
   exact (hI.mt u hu).of rfl rfl rfl hI.now rfl (.inr (by rw [ae2,hk1])) (.inl rfl) rfl)
  (λu hu=>by rw [eT (f:=λo=>{o with data:=o.data++bs.take (dR S.X bs.length),aU:=S.X.cS,aJ:=S.X.cZ}) (g:=bM.aK) (λ_=>rfl)];exact hI.aK u hu)
  hI.usr hI.xX hI.Gx hI.aI hI.us ⟨zc,by unfold dR;omega⟩
 refine⟨h1,λu hu hg=>?_⟩
 have hg:(af (aZ S.O k (λo=>{o with data:=o.data++bs.take (dR S.X bs.length),aU:=S.X.cS,aJ:=S.X.cZ})) u.k).aH=true:=hg
 rw [eT (f:=λo=>{o with data:=o.data++bs.take (dR S.X bs.length),aU:=S.X.cS,aJ:=S.X.cZ}) (g:=bM.aH) (λ_=>rfl)] at hg
 show 0<(af (aZ S.O k (λo=>{o with data:=o.data++bs.take (dR S.X bs.length),aU:=S.X.cS,aJ:=S.X.cZ})) u.k).aK
 rw [eT (f:=λo=>{o with data:=o.data++bs.take (dR S.X bs.length),aU:=S.X.cS,aJ:=S.X.cZ}) (g:=bM.aK) (λ_=>rfl)]
 exact hI.full u hu hg
theorem bT.ae3 (hI:bT S) {k:Nat} {mode bg bh aU aJ:Int} (h1:jV mode) (h2:qu bg/\qu bh) (h3:gj aU aJ):bT {S with O:=aZ S.O k (λo=>{o with mode:=mode,bg:=bg,bh:=bh,aU:=aU,aJ:=aJ})}:=by
 have hb:bytes S.ar (aZ S.O k (λo=>{o with mode:=mode,bg:=bg,bh:=bh,aU:=aU,aJ:=aJ}))=bytes S.ar S.O:=lG (λp _=>by rw [eT (f:=λo=>{o with mode:=mode,bg:=bg,bh:=bh,aU:=aU,aJ:=aJ}) (g:=bM.data) (λ_=>rfl)])
 have g1:=hI.toInv0.own (k:=k) (f:=λo=>{o with mode:=mode,bg:=bg,bh:=bh,aU:=aU,aJ:=aJ}) (sS:=S.X.used) (us':=S.us) (lH:=S.aI) (λ_=>rfl) (λ_=>rfl) (λ_=>rfl) (λ_=>rfl) (λ_=>rfl) (λ_=>rfl)
  (λu hu e=>by
   have hm:=hI.mt u hu
   rw [e] at hm
   exact⟨h1,h2.1,h2.2,h3,hm.data,hm.ah,hm.target⟩)
  (λu hu=>by rw [eT (f:=λo=>{o with mode:=mode,bg:=bg,bh:=bh,aU:=aU,aJ:=aJ}) (g:=bM.aK) (λ_=>rfl)];exact hI.aK u hu)
  hI.usr hI.xX hI.Gx hI.aI hI.us ⟨by rw [hb];exact hI.used.1,hI.used.2⟩
 refine⟨g1,λu hu hg=>?_⟩
 have hg:(af (aZ S.O k (λo=>{o with mode:=mode,bg:=bg,bh:=bh,aU:=aU,aJ:=aJ})) u.k).aH=true:=hg
 rw [eT (f:=λo=>{o with mode:=mode,bg:=bg,bh:=bh,aU:=aU,aJ:=aJ}) (g:=bM.aH) (λ_=>rfl)] at hg
 show 0<(af (aZ S.O k (λo=>{o with mode:=mode,bg:=bg,bh:=bh,aU:=aU,aJ:=aJ})) u.k).aK
 rw [eT (f:=λo=>{o with mode:=mode,bg:=bg,bh:=bh,aU:=aU,aJ:=aJ}) (g:=bM.aK) (λ_=>rfl)]
 exact hI.full u hu hg
theorem bT.shut (hI:bT S) {h:Int} (e:aF.get S.us h=some t):bT {S with
 X:={S.X with used:=qt (ud S.O t.k) S.X.used t}
 O:=ud S.O t.k
 ar:=kW (ud S.O t.k) S.ar t
 us:=del h S.us}:=by
 have ht:=(hI.us h t e).1
 have hb:bytes S.ar (ud S.O t.k)=bytes S.ar S.O:=lG (λp _=>by unfold ud;rw [eT (f:=λo=>{o with aK:=o.aK-1}) (g:=bM.data) (λ_=>rfl)])
 have hd:=λk=>RH (k:=k) hI.usr e
 have h1:=hI.toInv0.own (k:=t.k) (f:=λo=>{o with aK:=o.aK-1}) (sS:=S.X.used) (us':=del h S.us) (lH:=S.aI) (λ_=>rfl) (λ_=>rfl) (λ_=>rfl) (λ_=>rfl) (λ_=>rfl) (λ_=>rfl)
  (λu hu e=>by rw [←e];exact (hI.mt u hu).of rfl rfl rfl (hI.mt u hu).time rfl (.inl rfl) (.inl rfl) rfl)
  (λu hu=>by
   have h2:=hI.aK u hu
   have h3:=hd u.k
   by_cases e2:u.k=t.k
   ·rw [e2,fB]
    rw [e2] at h2 h3
    rw [ahf rfl] at h3
    show (af S.O t.k).aK-1=_
    omega
   rw [ahe (λe3=>e2 e3.symm)] at h3
   rw [jb e2];omega)
  (Og hI.usr) (λx hx=>hI.xX x (by grind [uJ])) (by have:=wC hI.usr (get_some e);have:=hI.Gx;omega) hI.aI (λi u hu=>by
   rw [zB] at hu
   split at hu
   ·cases hu
   exact hI.us i u hu) ⟨by rw [show bytes S.ar (aZ S.O t.k (λo=>{o with aK:=o.aK-1}))=bytes S.ar S.O from hb];exact hI.used.1,hI.used.2⟩
 exact h1.zk (t:=t) ht (λu hu hut hg=>by
  have hk:u.k≠t.k:=λe=>hut (jx hu ht e)
  have hg:(af (aZ S.O t.k (λo=>{o with aK:=o.aK-1})) u.k).aH=true:=hg
  rw [jb hk] at hg
  show 0<(af (aZ S.O t.k (λo=>{o with aK:=o.aK-1})) u.k).aK
  rw [jb hk]
  exact hI.full u hu hg)
end ops
section facts
variable {S:bB} {X:FM} {O:eu} {d k to:Nat} {name aD:ByteArray} {t o:Th}
def EN (dp:Nat->Nat):Option Nat->Nat
 |none=>0
 |some y=>dp y+1
theorem Vz {dp:Nat->Nat} (h:∀k d,(af O k).up=some d->dp d<dp k) {y:Nat}:EN dp (af O y).up<EN dp (some y):=by
 cases e:(af O y).up with
 |none=>exact Nat.succ_pos _
 |some z=>exact Nat.succ_lt_succ (h y z e)
theorem Jg {s y:Nat} (h:¬y=s):sD O s y↔∃z,(af O y).up=some z/\sD O s z:=LI.trans (or_iff_right h)
theorem Jh (bV:t.k≠d):(af (bp S d name t).O k).ah=if k=d then kE name (af S.O d).ah else (af S.O k).ah:=by
 have h1:(af (bp S d name t).O k).ah=(af (bw S.X S.O d name t) k).ah:=by
  unfold bp
  simp only
  split
  ·exact wH (g:=bM.ah) (λ_ _=>rfl)
  rfl
 grind [lf]
theorem xZ (hI:Inv0 S) (d9:aT S.ar ⟨to,2⟩) (hl2:bN aD (af S.O to).ah=some o) (hl:bN name (af S.O d).ah=some t) (hot:o≠t):bN name (af (bp S to aD o).O d).ah=some t:=by
 rw [Jh (hI.ne d9 hl2)]
 grind [xS]
theorem x3 (hI:Inv0 S) (d9:aT S.ar ⟨to,2⟩) (hl2:bN aD (af S.O to).ah=some o):bN aD (af (bp S to aD o).O to).ah=none:=by
 rw [Jh (hI.ne d9 hl2),ahf rfl,xS,ahf rfl]
theorem o3 (hI:Inv0 S) (d9:aT S.ar ⟨to,2⟩) (hl2:bN aD (af S.O to).ah=some o) (hx:aT S.ar t) (hk:t.k≠o.k):aT (bp S to aD o).ar t:=by
 unfold bp
 simp only
 split
 ·unfold kW
  split
  ·unfold aT
   rw [zB,ahe]
   ·exact hx
   intro e
   have h1:=(hI.ob o (hI.bU d9 hl2).2).1
   rw [wH (g:=bM.id) (λ_ _=>rfl),eW (g:=bM.id) (λ_ _=>rfl) (λ_ _=>rfl) (λ_ _ _=>rfl),h1] at e
   exact hk zc
  exact hx
 exact hx
theorem tj (bV:t.k≠d):(af (bw X O d name t) k).ah.length<=(af O k).ah.length:=by
 rw [lf bV]
 split
 ·rename_i e
  subst e
  exact ah1 _ _
 split<;>exact aho _
theorem qF (hI:Inv0 S) (hd:aT S.ar ⟨d,2⟩) (hl:bN name (af S.O d).ah=some t):0<=(af (bw S.X S.O d name t) t.k).aV/\(af (bw S.X S.O d name t) t.k).aV<=1048576:=by
 have ht:=(hI.bU hd hl).2
 have h1:=hI.aV t ht
 have h2:0<nG S.ar S.O t.k:=qZ hd hl
 have h3:=hI.lb ht
 rw [lf (hI.ne hd hl),ahe (hI.ne hd hl),ahf rfl]
 grind
end facts
theorem bJ.take {β:Bs} {A:Option Addr} {d:List UInt8} (h:bJ β A d) (n:Nat):bJ β A (d.take n):=by
 intro j v hj
 refine h j v ?_
 grind [dL]
theorem Tq {a b:List UInt8}:dL (a++b)=dL a++dL b:=ahP
theorem Inv0.ae4 {S:bB} {t:Th} (h:Inv0 S) (hl:aT S.ar t):((af S.O t.k).data.length:Int)<=S.X.used:=by
 have h1:=h.used
 have h2:(af S.O t.k).data.length<=bytes S.ar S.O:=sJ (g:=λp:Int×Th=>(af S.O p.2.k).data.length) hl
 omega
theorem VA {X:FM} {n:Nat} (h:0<X.cB-X.used):min (n:Int) (X.cB-X.used)=(dR X n:Int):=by
 unfold dR
 omega
theorem VB {X:FM} {n:Nat} (h:0<X.cB-X.used):dR X n<=n/\(dR X n:Int)<=X.cB-X.used:=by
 unfold dR
 omega
section data
variable {O:eu} {us:bF Th} {L L':HL} {k c:Nat} {A:Option Addr} {t:Th}
theorem Ot (hL:L'=L.data k A c):cM L' us=cM L us:=by subst hL;rfl
theorem YE (hL:L'=L.data k A c):fM O L'=fM O L:=by
 subst hL
 funext x
 rfl
theorem YF (hL:L'=L.data k A c) {x:Nat} (h:x≠k):d8 O L' x=d8 O L x:=by
 have e2:lN L' x (af O x)=lN L x (af O x):=by
  subst hL
  unfold lN FR
  simp only [HL.data,ahe h]
  rfl
 unfold d8
 rw [e2]
 subst hL
 rfl
theorem YG (hL:L'=L.data k A c) {x:Nat} (h:x≠k):dN O L' x=dN O L x:=by
 unfold dN
 subst hL
 simp only [HL.data,ahe h]
theorem RJ (hL:L'=L.data k A c):L'.dA k=A:=by subst hL;exact ahf rfl
theorem RM (hL:L'=L.data k A c):L'.dC k=c:=by subst hL;exact ahf rfl
theorem VD (hL:L'=L.data k A c) {x:Nat}:L'.b x=L.b x:=by subst hL;rfl
end data
section sat
variable {β:Bs} {l l':List HP} {w:World} {i j k c n:Nat} {O:eu} {L L':HL} {f:bM->bM} {cs:List Value} {T:TypeId} {ix:List Nat} {A:Option Addr} {R:Nat->dV} {xs:List Value}
theorem aR.adj (h:aR β l w) (hL:L'=L.data k A c) (hp:l[i]?=some (.abs (aW (nU (d8 O L) k dV.none)))) (hq:l[j]?=some (.ay (L.b k) cs T)) (hd:cC (i::j::ix)=true) (hl:cW l ix=some l') (h0:(f (af O k)).kind≠0) (hc:lN L' k (f (af O k))=cs) (hT:sM (f (af O k)).kind=T):aR β (.abs (aW (d8 (aZ O k f) L'))::l') w:=by
 refine h.xu (a:=Ht (L.b k) cs T) hp hq (λ_ _ h=>h) hd hl k (λx hx=>?_) (by rw [CN,ahe h0,hc,hT,VD hL])
 rw [CO hx,YF hL hx,vm hx]
theorem aR.adk (h:aR β l w) (hL:L'=L.data k A c) (hp:l[i]?=some (.abs (aW (nU (dN O L) k dV.none)))) (hq:l[j]?=some (.abs (aG 5 1 A n c xs))) (hd:cC (i::j::ix)=true) (hl:cW l ix=some l') (h1:(f (af O k)).kind=1) (hn:n=(f (af O k)).data.length) (hx:xs=dL (f (af O k)).data):aR β (.abs (aW (dN (aZ O k f) L'))::l') w:=by
 refine h.xu hp hq (λ_ _ h=>h) hd hl k (λx hx=>by rw [EC hx,YG hL hx,vm hx]) ?_
 grind [Ap,fB,RJ,RM]
end sat
end
section
def tW (n:Int):Prop:=n=n
end
section
open Go.RowKit Go.Maps bG aF
structure kH (β:Bs) (c:aP):Prop where
 hw:(Lit.int .i64 c.aN).wf=true
 ow:(Lit.int .i64 c.other).wf=true
 nm:c.name.size<=1048576
 tx:c.text.size<=1048576
 da:bJ β c.dA c.data
 dl:c.data.length<=1099511627776
 dc:c.data.length<=c.dC
 op:tW c.op
section facts
variable {S:bB} {h:Int} {name:ByteArray} {d6:Int} {t:Th} {c:aP}
theorem kI (hI:Inv0 S) (h:Int) (name:ByteArray) (d6:Int):(∃e,iO S.O S.us h name d6=.error e/\e≠0)\/∃d,iO S.O S.us h name d6=.ok d/\aT S.ar ⟨d,2⟩/\(af S.O d).aH=false/\cA name/\aF.get S.us h=some ⟨d,2⟩:=by
 unfold iO
 cases e:aF.get S.us h with
 |none=>exact .inl ⟨131,rfl,Pd⟩
 |some t=>
   simp only
   split
   ·rename_i hk
    split
    ·exact .inl ⟨170,rfl,Pd⟩
    rename_i hg
    split
    ·rename_i hn
     split
     ·obtain⟨k,kd⟩:=t
      simp only at hk
      subst hk
      exact .inr ⟨k,rfl,(hI.us h _ e).1,by simpa using hg,hn,rfl⟩
     exact .inl ⟨175,rfl,Pd⟩
    exact .inl ⟨95,rfl,Pd⟩
   exact .inl ⟨173,rfl,Pd⟩
theorem Ji (hI:Inv0 S) (c:aP):(∃e,jL S.O S.us c=.error e/\e≠0)\/(∃k,jL S.O S.us c=.ok ⟨k,1⟩/\aT S.ar ⟨k,1⟩)\/(∃k,jL S.O S.us c=.ok ⟨k,2⟩/\aT S.ar ⟨k,2⟩)\/∃k,jL S.O S.us c=.ok ⟨k,3⟩/\aT S.ar ⟨k,3⟩:=by
 unfold jL
 rcases kI hI c.aN c.name 64 with ⟨e,h1,h2⟩|⟨d,h1,h2,_⟩
 ·rw [h1];exact .inl ⟨e,rfl,h2⟩
 rw [h1]
 simp only
 rcases hI.sU h2 c.name with h3|⟨k,h3,h4⟩|⟨k,h3,h4⟩|⟨k,h3,h4⟩
 all_goals grind
theorem Ou {L:HL} {us:bF Th} {h:Int}:cM L (del h us)=del h (cM L us):=Kv (iz L) h us
theorem RN {us:bF Th} {h:Int} (e:aF.get us h=some t):0<hnd us t.k:=ahA ahd (sJ (g:=λp:Int×Th=>if p.2.k=t.k then 1 else 0) e)
theorem HT {L:HL}:dN (eH S t).2.2.O L=dN S.O L:=by
 by_cases h:(S.us.length:Int)<S.X.cH
 ·rw [ox h];exact AA (λ_=>eT (f:=λo=>{o with aK:=o.aK+1}) (g:=bM.data) (λ_=>rfl)) (λ_=>pG (f:=λo=>{o with aK:=o.aK+1}) (λ_=>rfl))
 rw [oZ h]
theorem HV {L:HL}:fM (eH S t).2.2.O L=fM S.O L:=by
 grind [ox,tM,oZ]
theorem abW:(kX S c).2.2.op=c.op:=by unfold kX;(repeat' split)<;>rfl
theorem Tr:(gZ S c).2.2.op=c.op:=by unfold gZ;(repeat' split)<;>rfl
theorem QF:(fZ S c).2.2.op=c.op:=by unfold fZ;(repeat' split)<;>rfl
theorem Ts:(je S c).2.2.op=c.op:=by unfold je;(repeat' split)<;>rfl
theorem QG:(fq S c).2.2.op=c.op:=by unfold fq;(repeat' split)<;>rfl
theorem Ov:(iE S c).2.2.op=c.op:=by unfold iE;(repeat' split)<;>rfl
theorem VE:(dX S c).2.2.op=c.op:=by unfold dX;(repeat' split)<;>rfl
theorem QH:(jD S c).2.2.op=c.op:=by unfold jD;(repeat' split)<;>rfl
theorem Tt:(kq S c).2.2.op=c.op:=by unfold kq;(repeat' split)<;>rfl
theorem QI:(iV S c).2.2.op=c.op:=by unfold iV;(repeat' split)<;>rfl
theorem Tv:(iw S c).2.2.op=c.op:=by unfold iw;(repeat' split)<;>rfl
theorem Tw:(cY S c).2.2.op=c.op:=by unfold cY;(repeat' split)<;>rfl
theorem abX:(og S c).2.2.op=c.op:=by unfold og;(repeat' split)<;>rfl
theorem VF:(jw S c).2.2.op=c.op:=by unfold jw;(repeat' split)<;>rfl
theorem YH:(jW S c).2.2.op=c.op:=by unfold jW;(repeat' split)<;>rfl
end facts
theorem zl {S:bB} {c:aP} (h:c.op=1):iF S c=kX S c:=by
 unfold iF
 simp [h]
theorem BB {S:bB} {c:aP} (h:c.op=2):iF S c=gZ S c:=by
 unfold iF
 simp [h]
theorem BD {S:bB} {c:aP} (h:c.op=3):iF S c=fZ S c:=by
 unfold iF
 simp [h]
theorem zm {S:bB} {c:aP} (h:c.op=4):iF S c=je S c:=by
 unfold iF
 simp [h]
theorem BF {S:bB} {c:aP} (h:c.op=5):iF S c=fq S c:=by
 unfold iF
 simp [h]
theorem BG {S:bB} {c:aP} (h:c.op=6):iF S c=iE S c:=by
 unfold iF
 simp [h]
theorem BH {S:bB} {c:aP} (h:c.op=7):iF S c=dX S c:=by
 unfold iF
 simp [h]
theorem BI {S:bB} {c:aP} (h:c.op=8):iF S c=jD S c:=by
 unfold iF
 simp [h]
theorem BJ {S:bB} {c:aP} (h:c.op=9):iF S c=iw S c:=by
 unfold iF
 simp [h]
theorem x5 {S:bB} {c:aP} (h:c.op=10):iF S c=cY S c:=by
 unfold iF
 simp [h]
theorem x6 {S:bB} {c:aP} (h:c.op=11):iF S c=og S c:=by
 unfold iF
 simp [h]
theorem x7 {S:bB} {c:aP} (h:c.op=12):iF S c=jw S c:=by
 unfold iF
 simp [h]
theorem x9 {S:bB} {c:aP} (h:c.op=13):iF S c=jW S c:=by
 unfold iF
 simp [h]
theorem yc {S:bB} {c:aP} (h:c.op=14):iF S c=kq S c:=by
 unfold iF
 simp [h]
theorem ye {S:bB} {c:aP} (h:c.op=15):iF S c=iV S c:=by
 unfold iF
 simp [h]
theorem AB {S:bB} {c:aP} (h:¬(1<=c.op/\c.op<=15)):iF S c=(230,S,c):=by
 unfold iF
 repeat rw [ahe zc]
section inv
variable {S:bB} {d to:Nat} {name aD text:ByteArray} {mode:Int} {c:aP}
theorem Ow (hI:Inv0 S):hnd S.us (bA S.X)=0:=by
 have:hnd S.us (bA S.X)=gV (λ_=>0) S.us:=lG (λp hp=>ahe (hI.fresh.us p hp))
 rw [this]
 have h0:∀us:bF Th,gV (λ_=>0) us=0:=λus=>by
  induction us with
  |nil=>rfl
  |cons p r ih=>show 0+_=0;rw [ih]
 exact h0 _
theorem GA (hI:Inv0 S) {kind mode:Int} {tg:ByteArray} (hm:jV mode) (ht:dG kind tg):qY {cU S.X kind mode with target:=tg}:=
 ⟨hm,⟨Int.le_refl _,by show (0:Int)<=2147483647;decide⟩,⟨Int.le_refl _,by show (0:Int)<=2147483647;decide⟩,hI.now,λ_=>rfl,λ_=>rfl,ht⟩
theorem bT.FY (hI:bT S) (hd:aT S.ar ⟨d,2⟩) (lS:(af S.O d).aH=false) (j6:cA name) (h0:gy S.X S.O S.ar d name=0) {kind mode:Int} {tg:ByteArray} (hk:kind=1\/kind=2\/kind=3) (hm:jV mode) (ht:dG kind tg) :
 bT (gu S d name {cU S.X kind mode with target:=tg}):=by
 have h:=hI.add (us':=S.us) (lH:=S.aI) (o:={cU S.X kind mode with target:=tg}) hd lS (vo h0) j6 (Cx h0) rfl hk rfl rfl rfl rfl rfl (GA hI.toInv0 hm ht) hI.usr hI.xX hI.Gx hI.aI (λh t e=>⟨.inl (hI.us h t e).1,(hI.us h t e).2⟩) (λ_ _=>rfl) (by rw [Ow hI.toInv0];rfl)
 exact h
theorem bT.mI (hI:bT S) (hd:aT S.ar ⟨d,2⟩) (lS:(af S.O d).aH=false) (j6:cA name) (hm:jV mode):bT (Proofs.YtbnfiigafobejaaGreat.mI S d name mode).2:=by
 unfold Proofs.YtbnfiigafobejaaGreat.mI
 split
 ·rename_i h0
  exact hI.FY hd lS j6 h0 (.inr (.inl rfl)) hm (.inl ⟨Pd,rfl⟩)
 exact hI
theorem abY {s:ByteArray} (h:ld s=0):dG 3 s:=by
 grind [ld,tI,dG]
theorem bT.jq (hI:bT S) (hd:aT S.ar ⟨d,2⟩) (lS:(af S.O d).aH=false) (j6:cA name):bT (Proofs.YtbnfiigafobejaaGreat.jq S d name text).2:=by
 unfold Proofs.YtbnfiigafobejaaGreat.jq
 split
 ·rename_i hb
  split
  ·rename_i h0
   exact hI.FY hd lS j6 h0 (.inr (.inr rfl)) ⟨Pd,Pd⟩ (abY hb)
  exact hI
 exact hI
theorem bT.iD (hI:bT S) (hd:aT S.ar ⟨d,2⟩):bT (Proofs.YtbnfiigafobejaaGreat.iD S d name).2:=by
 unfold Proofs.YtbnfiigafobejaaGreat.iD
 split
 ·exact hI
 rename_i t hl
 split
 ·exact hI
 rename_i hk
 exact hI.FX hd hl hk
theorem bT.jd (hI:bT S) (hd:aT S.ar ⟨d,2⟩):bT (Proofs.YtbnfiigafobejaaGreat.jd S d name).2:=by
 unfold Proofs.YtbnfiigafobejaaGreat.jd
 split
 ·exact hI
 rename_i t hl
 split
 ·split
  ·rename_i he
   exact hI.drop hd hl (λ_=>he)
  exact hI
 exact hI
theorem Tx {t:Th} (ht:t.k≠to):(af (bp S d name t).O to).aH=(af S.O to).aH:=by
 have h1:(af (bp S d name t).O to).aH=(af (bw S.X S.O d name t) to).aH:=by
  unfold bp
  simp only
  split
  ·show (af (aZ _ t.k _) to).aH=_
   rw [jb (λe=>ht e.symm)]
  rfl
 rw [h1]
 exact eW (g:=bM.aH) (λ_ _=>rfl) (λ_ _=>rfl) (λ_ _ _=>rfl)
theorem bT.dm (hI:bT S) (hd:aT S.ar ⟨d,2⟩) (d9:aT S.ar ⟨to,2⟩) (lS:(af S.O to).aH=false) (j6:cA aD):bT (Proofs.YtbnfiigafobejaaGreat.dm S d name to aD).2:=by
 unfold Proofs.YtbnfiigafobejaaGreat.dm
 split
 ·exact hI
 rename_i t hl
 split
 ·exact hI
 rename_i hb
 have hb:t.kind=2->¬sD S.O t.k to:=λh1 h2=>hb ⟨h1,h2⟩
 split
 ·rename_i hn
  exact hI.move hd hl d9 lS hn j6 hb
 rename_i o hl2
 split
 ·exact hI
 rename_i hot
 split
 ·exact hI
 rename_i hok
 split
 ·exact hI
 rename_i htk
 have ho:=(hI.bU d9 hl2).2
 have adl:o.k≠to:=hI.ne d9 hl2
 have h1:=hI.FX d9 hl2 hok
 have jE:aT (bp S to aD o).ar ⟨d,2⟩:=o3 hI.toInv0 d9 hl2 hd (λe=>hok (by have:=jx hd ho e;rw [←this]))
 have oY:aT (bp S to aD o).ar ⟨to,2⟩:=o3 hI.toInv0 d9 hl2 d9 (λe=>adl e.symm)
 exact h1.move jE (xZ hI.toInv0 d9 hl2 hl hot) oY (by rw [Tx adl];exact lS) (x3 hI.toInv0 d9 hl2) j6 (λh=>ahh h htk)
theorem bT.nN (hI:bT S) (hd:aT S.ar ⟨d,2⟩) (d9:aT S.ar ⟨to,2⟩) (lS:(af S.O to).aH=false) (j6:cA aD):bT (Proofs.YtbnfiigafobejaaGreat.nN S d name to aD).2:=by
 unfold Proofs.YtbnfiigafobejaaGreat.nN
 split
 ·exact hI
 rename_i t hl
 have ht:=(hI.bU hd hl).2
 split
 ·exact hI
 rename_i hk
 split
 ·rename_i hn
  split
  ·rename_i hr
   have hgt:(af S.O t.k).aH=false:=by
    cases hg:(af S.O t.k).aH with
    |false=>rfl
    |true=>
      have h1:=(hI.aH t ht hg).1
      have h2:=hI.aV t ht
      have h3:0<nG S.ar S.O t.k:=qZ hd hl
      omega
   exact hI.link d9 lS hn j6 ht hgt hk hr
  exact hI
 exact hI
theorem bT.oH (hI:bT S) (hd:aT S.ar ⟨d,2⟩) (lS:(af S.O d).aH=false) (j6:cA name) (hm:jV mode):bT (Proofs.YtbnfiigafobejaaGreat.oH S d name mode).2.2:=by
 unfold Proofs.YtbnfiigafobejaaGreat.oH
 split
 ·rename_i h0
  split
  ·rename_i fV
   obtain⟨g1,g2,_⟩:=least_le hI.usr (λx hx=>(hI.xX x hx).1)
   obtain⟨v1,v2⟩:=RI (t:=⟨bA S.X,1⟩) hI.usr hI.xX
   have hm2:=GA (kind:=1) (tg:=⟨#[]⟩) hI.toInv0 hm (.inl ⟨Pd,rfl⟩)
   refine hI.add (us':=ins (aF.aS S.us) ⟨bA S.X,1⟩ S.us) (lH:=max S.aI ((S.us.length:Int)+1)) (o:={cU S.X 1 mode with aK:=1}) hd lS (vo h0) j6 (Cx h0) rfl (.inl rfl) rfl rfl rfl rfl rfl ⟨hm2.mode,hm2.bg,hm2.bh,hm2.time,hm2.data,hm2.ah,hm2.target⟩ v1 v2 (by rw [lE];omega) (by have:=hI.aI;omega) (λh t e=>?_) (λk hk=>?_) ?_
   ·rw [wz g2] at e
    split at e
    ·cases e;exact⟨.inr rfl,by show (1:Int)≠3;decide⟩
    exact⟨.inl (hI.us h t e).1,(hI.us h t e).2⟩
   ·grind [KF]
   rw [KF,ahf rfl,Ow hI.toInv0];rfl
  exact hI
 exact hI
theorem bT.iF (hI:bT S) (c:aP):bT (Proofs.YtbnfiigafobejaaGreat.iF S c).2.1:=by
 have habout:∀{d6:Int} {d:Nat} {h:Int} {n:ByteArray},iO S.O S.us h n d6=.ok d->aT S.ar ⟨d,2⟩/\(af S.O d).aH=false/\cA n:=λ{d6 d h n} e=>by
  rcases kI hI.toInv0 h n d6 with ⟨e2,h1,_⟩|⟨d2,h1,h2,h3,h4,_⟩
  all_goals grind
 have VG:∀{t:Th},jL S.O S.us c=.ok t->aT S.ar t:=λ{t} e=>by
  rcases Ji hI.toInv0 c with ⟨e2,h1,_⟩|⟨k,h1,h2⟩|⟨k,h1,h2⟩|⟨k,h1,h2⟩<;>rw [e] at h1<;>cases h1<;>exact h2
 by_cases h:1<=c.op/\c.op<=15
 ·have h:c.op=1\/c.op=2\/c.op=3\/c.op=4\/c.op=5\/c.op=6\/c.op=7\/c.op=8\/c.op=9\/c.op=10\/c.op=11\/c.op=12\/c.op=13\/c.op=14\/c.op=15:=zc
  rcases h with h|h|h|h|h|h|h|h|h|h|h|h|h|h|h
  ·rw [zl h]
   unfold kX
   split
   ·exact hI
   rename_i t e
   split
   ·rename_i hk;exact hI.eH (hI.live e) (by rw [hk];decide)
   exact hI
  ·rw [BB h]
   unfold gZ
   split
   ·exact hI
   rename_i t e
   split
   ·exact hI
   rename_i hk
   split
   ·exact hI
   exact hI.eH (VG e) hk
  ·rw [BD h]
   unfold fZ
   split
   ·exact hI
   rename_i t e
   split
   ·exact hI
   rename_i hk
   split
   ·exact hI
   exact hI.eH (VG e) hk
  ·rw [zm h]
   unfold je
   split
   ·exact hI
   rename_i d e
   obtain⟨h1,h2,h3⟩:=habout e
   split
   ·rename_i hm;exact hI.mI h1 h2 h3 hm
   exact hI
  ·rw [BF h]
   unfold fq
   split
   ·exact hI
   rename_i d e
   obtain⟨h1,h2,h3⟩:=habout e
   split
   ·rename_i hm
    split
    ·exact hI.oH h1 h2 h3 hm
    exact hI
   exact hI
  ·rw [BG h]
   unfold iE
   split
   ·exact hI
   rename_i d e
   obtain⟨h1,h2,h3⟩:=habout e
   exact hI.jq h1 h2 h3
  ·rw [BH h]
   unfold dX
   split
   ·exact hI
   rename_i d e
   split
   ·exact hI
   rename_i to e2
   obtain⟨h1,h2,h3⟩:=habout e2
   exact hI.nN (habout e).1 h1 h2 h3
  ·rw [BI h]
   unfold jD
   split
   ·exact hI
   rename_i d e
   exact hI.iD (habout e).1
  ·rw [BJ h]
   unfold iw
   split
   ·exact hI
   rename_i t e
   split
   ·rename_i hk
    obtain⟨k,kd⟩:=t
    simp only at hk
    subst hk
    exact hI.gF (hI.us _ _ e).1 _
   exact hI
  ·rw [x5 h]
   unfold cY
   split
   ·exact hI
   split
   ·exact hI
   split
   ·rename_i hm
    split
    ·rename_i ho
     split
     ·rename_i ht;exact hI.ae3 hm ho ht
     exact hI
    exact hI
   exact hI
  ·rw [x6 h]
   unfold og
   split<;>exact hI
  ·rw [x7 h]
   unfold jw
   split<;>exact hI
  ·rw [x9 h]
   unfold jW
   split
   ·exact hI
   rename_i t e;exact hI.shut e
  ·rw [yc h]
   unfold kq
   split
   ·exact hI
   rename_i d e
   exact hI.jd (habout e).1
  rw [ye h]
  unfold iV
  split
  ·exact hI
  rename_i d e
  split
  ·exact hI
  rename_i to e2
  obtain⟨h1,h2,h3⟩:=habout e2
  exact hI.dm (habout e).1 h1 h2 h3
 rw [AB h];exact hI
theorem bT.gG (hI:bT S) (c:aP):bT (Proofs.YtbnfiigafobejaaGreat.gG S c).1:=hI.iF _
end inv
structure dO where
 at_:Int
 op:Int
 path:ByteArray
 to:ByteArray
 text:ByteArray
def slash:ByteArray:=⟨#[47]⟩
def bS (s:ByteArray):List ByteArray:=Lib.splitB slash 0 (Lib.countB s slash) s
noncomputable section
def qb (O:eu):Nat->List ByteArray->Except Int (Nat×ByteArray)
 |_,[]=>.error 170
 |d,[p]=>if (af O d).aH=true then .error 170 else .ok (d,p)
 |d,p::q::r=>match bN p (af O d).ah with
   |none=>.error 170
   |some t=>if t.kind=3 then .error 174 else if t.kind=1 then .error 173 else qb O t.k (q::r)
instance (ps:List ByteArray):Decidable (∀p∈ps,cA p):=Classical.propDecidable _
def mY (O:eu) (d:Nat) (path:ByteArray):Except Int (Nat×ByteArray):=if ∀p∈bS path,cA p then qb O d (bS path) else .error 95
def sE (S:bB) (d:Nat) (name text:ByteArray):Int×bB:=
 if gy S.X S.O S.ar d name=0 then (0,(gF (gu S d name (cU S.X 1 420)) (bA S.X) text.data.toList).2.2) else (gy S.X S.O S.ar d name,S)
def pH (S:bB) (d:Nat) (name text:ByteArray):Int×bB:=
 match bN name (af S.O d).ah with
 |none=>(170,S)
 |some t=>if t.kind=3 then (174,S) else if t.kind=2 then (172,S) else ((gF S t.k text.data.toList).2.1,(gF S t.k text.data.toList).2.2)
def nV (S:bB) (top:Nat) (a:dO) (d:Nat) (name:ByteArray):Int×bB:=
 if a.op=1 then sE S d name a.text
 else if a.op=2 then mI S d name 493
 else if a.op=3 then jq S d name a.text
 else if a.op=4 then iD S d name
 else if a.op=5 then jd S d name
 else if a.op=6 then match mY S.O top a.to with
  |.error e=>(e,S)
  |.ok (to,aD)=>dm S d name to aD
 else pH S d name a.text
def cR (S:bB) (au:Int) (a:dO):Int×bB:=
 if a.op<1\/a.op>7 then (230,S)
 else match aF.get S.ar au with
  |none=>(141,S)
  |some t=>if t.kind=2 then
   match mY S.O t.k a.path with
   |.error e=>(e,S)
   |.ok (d,name)=>nV S t.k a d name
   else (173,S)
end
section facts
variable {S:bB} {O:eu} {d d':Nat} {name:ByteArray} {t:Th}
theorem RO (hI:Inv0 S):∀(ps:List ByteArray) (d:Nat),aT S.ar ⟨d,2⟩->(∀p∈ps,cA p)->qb S.O d ps=.ok (d',name)->aT S.ar ⟨d',2⟩/\(af S.O d').aH=false/\cA name
 |[],d,_,_,h=>by cases h
 |[p],d,hd,hg,h=>by
   unfold qb at h
   split at h
   ·cases h
   rename_i hn
   cases h
   exact⟨hd,by simpa using hn,hg _ (ahO.2 rfl)⟩
 |p::q::r,d,hd,hg,h=>by
   unfold qb at h
   cases e:bN p (af S.O d).ah with
   |none=>rw [e] at h;cases h
   |some t=>
     rw [e] at h
     simp only at h
     split at h
     ·cases h
     rename_i h3
     split at h
     ·cases h
     rename_i h1
     have hl:=(hI.bU hd e).2
     have hk:t=⟨t.k,2⟩:=by
      have:=(hI.ob _ hl).2.2
      obtain⟨k,kd⟩:=t
      simp only at this h1 h3
      have:kd=2:=zc
      rw [this]
     rw [hk] at hl
     exact RO hI (q::r) t.k hl (λp hp=>hg p (ahq _ hp)) h
theorem KG {path:ByteArray} (hI:Inv0 S) (hd:aT S.ar ⟨d,2⟩) (h:mY S.O d path=.ok (d',name)):aT S.ar ⟨d',2⟩/\(af S.O d').aH=false/\cA name:=by
 grind [mY,RO]
theorem Ox (hI:bT S) {o:bM}:aT (ins (S.X.last+1) ⟨bA S.X,o.kind⟩ S.ar) ⟨bA S.X,o.kind⟩:=by
 unfold aT
 have h1:=q4 hI.toInv0
 have hn:S.X.last+1∉bn S.ar:=by
  cases e:aF.get S.ar (S.X.last+1) with
  |none=>exact get_none.1 e
  |some t=>have:=hI.ar _ _ e;omega
 rw [wz hn]
 simp only
 rw [h1,ahf rfl]
theorem bT.sE {text:ByteArray} (hI:bT S) (hd:aT S.ar ⟨d,2⟩) (lS:(af S.O d).aH=false) (j6:cA name):bT (Proofs.YtbnfiigafobejaaGreat.sE S d name text).2:=by
 unfold Proofs.YtbnfiigafobejaaGreat.sE
 split
 ·rename_i h0
  exact (hI.FY hd lS j6 h0 (.inl rfl) ⟨Pd,Pd⟩ (.inl ⟨Pd,rfl⟩)).gF (Ox hI (o:=cU S.X 1 420)) _
 exact hI
theorem bT.pH {text:ByteArray} (hI:bT S) (hd:aT S.ar ⟨d,2⟩):bT (Proofs.YtbnfiigafobejaaGreat.pH S d name text).2:=by
 unfold Proofs.YtbnfiigafobejaaGreat.pH
 split
 ·exact hI
 rename_i t e
 split
 ·exact hI
 split
 ·exact hI
 rename_i h3 h2
 have hl:=(hI.bU hd e).2
 have hk:t=⟨t.k,1⟩:=by
  have:=(hI.ob _ hl).2.2
  obtain⟨k,kd⟩:=t
  grind
 rw [hk] at hl
 exact hI.gF hl _
theorem bT.nV {top:Nat} {a:dO} (hI:bT S) (ht:aT S.ar ⟨top,2⟩) (hd:aT S.ar ⟨d,2⟩) (lS:(af S.O d).aH=false) (j6:cA name):bT (Proofs.YtbnfiigafobejaaGreat.nV S top a d name).2:=by
 unfold Proofs.YtbnfiigafobejaaGreat.nV
 split
 ·exact hI.sE hd lS j6
 split
 ·exact hI.mI hd lS j6 ⟨Pd,Pd⟩
 split
 ·exact hI.jq hd lS j6
 split
 ·exact hI.iD hd
 split
 ·exact hI.jd hd
 split
 ·split
  ·exact hI
  rename_i to aD e
  obtain⟨h1,h2,h3⟩:=KG hI.toInv0 ht e
  exact hI.dm hd h1 h2 h3
 exact hI.pH hd
theorem abZ {i:Int} (hI:Inv0 S) (e:aF.get S.ar i=some t) (hk:t.kind=2):aT S.ar ⟨t.k,2⟩:=by
 have:=hI.live e
 obtain⟨k,kd⟩:=t
 simp only at hk
 subst hk
 exact this
theorem bT.cR {au:Int} {a:dO} (hI:bT S):bT (Proofs.YtbnfiigafobejaaGreat.cR S au a).2:=by
 unfold Proofs.YtbnfiigafobejaaGreat.cR
 split
 ·exact hI
 split
 ·exact hI
 rename_i t e
 split
 ·rename_i hk
  split
  ·exact hI
  rename_i d name e2
  have ht:=abZ hI.toInv0 e hk
  obtain⟨h1,h2,h3⟩:=KG hI.toInv0 ht e2
  exact hI.nV ht h1 h2 h3
 exact hI
end facts
section err
variable {S:bB} {c:aP} {d to:Nat} {name aD text:ByteArray} {t:Th}
theorem EO (h:(eH S t).2.1≠0):(eH S t).2.2=S:=by
 grind [ox,oZ]
theorem Jj {m:Int} (h:(mI S d name m).1≠0):(mI S d name m).2=S:=by
 grind [mI]
theorem EP (h:(jq S d name text).1≠0):(jq S d name text).2=S:=by
 grind [jq]
theorem GD (h:(iD S d name).1≠0):(iD S d name).2=S:=by
 grind [iD]
theorem Jk (h:(jd S d name).1≠0):(jd S d name).2=S:=by
 grind [jd]
theorem GF (h:(dm S d name to aD).1≠0):(dm S d name to aD).2=S:=by
 unfold dm at *
 grind
theorem Jl {k:Nat} {bs:List UInt8} (h:(gF S k bs).2.1≠0):(gF S k bs).2.2=S:=by
 grind [gF]
theorem VH (h:(nN S d name to aD).1≠0):(nN S d name to aD).2=S:=by
 unfold nN at *
 grind
theorem QJ {m:Int} (h:(oH S d name m).2.1≠0):(oH S d name m).2.2=S:=by
 grind [oH]
theorem ab0 (h:(iF S c).1≠0):(iF S c).2.1=S:=by
 by_cases bX:1<=c.op/\c.op<=15
 case neg=>rw [AB bX]
 have bX:c.op=1\/c.op=2\/c.op=3\/c.op=4\/c.op=5\/c.op=6\/c.op=7\/c.op=8\/c.op=9\/c.op=10\/c.op=11\/c.op=12\/c.op=13\/c.op=14\/c.op=15:=zc
 rcases bX with e|e|e|e|e|e|e|e|e|e|e|e|e|e|e
 ·grind [zl,kX,EO]
 ·grind [BB,gZ,EO]
 ·grind [BD,fZ,EO]
 ·grind [zm,je,Jj]
 ·grind [BF,fq,QJ]
 ·grind [BG,iE,EP]
 ·grind [BH,dX,VH]
 ·grind [BI,jD,GD]
 ·grind [BJ,iw,Jl]
 ·grind [x5,cY]
 ·rw [x6 e]
  unfold og
  split<;>rfl
 all_goals grind [x7,jw,x9,jW,yc,kq,Jk,ye,iV,GF]
theorem ab1 (h:(gG S c).2.code≠0):(gG S c).1=S:=ab0 h
theorem YI {au:Int} {a:dO} (h:(cR S au a).1≠0):(cR S au a).2=S:=by
 unfold cR at *
 split
 ·rfl
 rename_i e0
 rw [ahe e0] at h
 cases e1:aF.get S.ar au with
 |none=>rfl
 |some t=>
   rw [e1] at h
   simp only at h ⊢
   split
   ·rename_i e2
    rw [ahf e2] at h
    cases e3:mY S.O t.k a.path with
    |error e=>rfl
    |ok x=>
      obtain⟨d,name⟩:=x
      rw [e3] at h
      grind [nV,sE,Jj,EP,GD,Jk,mY,GF,pH,bN,af,Jl]
   rfl
end err
end
section
open Go.RowKit Go.WideShapes Go.ChangeShapes Go.ChangeAt Go.Deep
theorem laidOut:laidOutB Tryz.prog=true:=KB
theorem own:ownKnob Tryz.prog.godebug=none:=KB
section row
variable {H:Type} {enc:TypeId×Value->H} {P:Program}
theorem D7 (hl:laidOutB P=true) {W W':World} (hb:Below W.heap.size W W') {sp:Nat->Bool}:∀{ts:List TypeId} {vs:List Value} {ds:List (DataW H)} {ps:List MemPlace},
 (∀t∈ts,P.readableRec t=true/\t<P.types.size)->DataW.TrodAll enc P W 0 (λ_=>true) true ts vs ds ps->(∀x∈ps,x.block<W.heap.size)->(∀x∈ps,sp x.block=true)->DataW.TrodAll enc P W' 0 sp true ts vs ds ps
 |[],vs,ds,ps,_,h,_,_=>by
   obtain⟨rfl,rfl,rfl⟩:=trodAll_nil h
   exact trodAll_mk0
 |t::ts,vs,ds,ps,hr,h,fV,hsp=>by
   obtain⟨v,vs',d,ds',p,q,rfl,rfl,rfl,h1,h2⟩:=trodAll_cons h
   have h3:=hr t ahr
   exact trodAll_cons_mk (WideElems.Trod_stays hl h3.1 h3.2 h1 (λx hx=>hb.same (fV x (ahE.2 (.inl hx)))) (λx hx=>hsp x (ahE.2 (.inl hx))))
    (D7 hl hb (λt ht=>hr t (ahq _ ht)) h2 (λx hx=>fV x (ahE.2 (.inr hx))) (λx hx=>hsp x (ahE.2 (.inr hx))))
def adm (P:Program) (f:Func):Bool:=f.params.toList.all λt=>P.readableRec t && decide (t<P.types.size)
theorem law_post (hl:laidOutB P=true) {f:Func} {s:ChangeSpec} {apart fresh handsOn again:Bool} {W W':World} {args:Array Value} {ds gs:List (DataW H)} {before:List MemPlace} {tb:TypeId} {rb:Bool}
 (hW:DataW.Whole enc P f.params.toList s.vars apart W args.toList ds gs before) (hvars:s.vars=[]) (hrow:adm P f=true) (hres:f.resultTypes=#[tb]) (hb0:P.underlying tb=some .bool)
 (hfn:(s.fn H (ds++gs)).results=[.lit (.bool rb)]) (hargs:(s.fn H (ds++gs)).args=ds) (hv:(s.fn H (ds++gs)).vars=[]) (hb:Below W.heap.size W W') :
 s.post enc P f apart fresh handsOn again W args (.bool rb) W':=by
 have hW':=hW
 obtain⟨p,q,hA,hV,rfl,_,_⟩:=hW
 rw [hvars] at hV
 obtain⟨rfl,rfl⟩:=trodVars_none hV
 have fV:∀x∈p,x.block<W.heap.size:=λx hx=>hW'.lt x (ahE.2 (.inl hx))
 have hr:∀t∈f.params.toList,P.readableRec t=true/\t<P.types.size:=λt ht=>by
  grind [adm]
 refine ML (pa:=p) (pv:=[]) hW' (λb sp hd=>?_) (λsp hsp=>?_) (λsp _=>?_) ahd hb (ok_one hres rfl (okWide_bool_mk hb0 _))
 ·rw [hfn,hres]
  exact trodAll_cons_mk (shut_bool hb0 _) trodAll_mk0
 ·grind [D7]
 rw [hvars,hv]
 exact rfl
end row
abbrev B0 (W:World):Bs:=⟨(· < W.heap.size),W⟩
theorem RP {w:World} {a:Addr} {v:Value} (h:w.cell? a=some v):a.block<w.heap.size:=by
 unfold World.cell? at h
 grind
theorem VI {w:World} {a:Addr} {v:Value} (h:w.cell? a=some v):a.spot=none:=by
 unfold World.cell? at h
 split at h
 ·split at h
  ·cases h
  rename_i h0
  cases hs:a.spot with
  |none=>rfl
  |some x=>rw [hs] at h0;exact ahh rfl h0
 cases h
theorem add_plain {a:Addr} (k:Nat) (h:a.spot=none):a.add k=⟨a.block,a.off+k,none⟩:=by
 obtain⟨b,o,s⟩:=a
 cases h
 unfold Addr.add
 split
 ·rename_i h0;subst h0;rfl
 rfl
theorem Dr {H:Type} {D:Nat->DataW H} {n i:Nat} (hi:i<n):Rows.uptoBulk (D i)<=Rows.uptoBulkAll ((List.range n).map D):=by
 have hm:D i∈(List.range n).map D:=Pe
 generalize (List.range n).map D=l at hm
 induction l with
 |nil=>cases hm
 |cons x r ih=>
   simp only [Rows.uptoBulkAll]
   grind
theorem YJ {H:Type} (d:DataW H):1<=Rows.uptoBulk d:=by
 cases d with
 |lit l=>cases l<;>simp [Rows.uptoBulk]
 |nil=>simp [Rows.uptoBulk]
 |ptr d=>simp [Rows.uptoBulk]
 |slice elems spare=>simp [Rows.uptoBulk]
 |agg parts=>simp [Rows.uptoBulk]
 |iface t d=>simp [Rows.uptoBulk]
 |map entries=>simp [Rows.uptoBulk]
 |held h=>simp [Rows.uptoBulk]
theorem wK {H:Type} (l:List (DataW H)):l.length<=Rows.uptoBulkAll l:=by
 induction l with
 |nil=>simp [Rows.uptoBulkAll]
 |cons x r ih=>have:=YJ x;simp only [Rows.uptoBulkAll,ahQ];omega
theorem bulk_mem {H:Type} {d:DataW H} {l:List (DataW H)} (h:d∈l):Rows.uptoBulk d<=Rows.uptoBulkAll l:=by
 induction l with
 |nil=>cases h
 |cons x r ih=>
   simp only [Rows.uptoBulkAll]
   grind
section open_
variable {H:Type} {enc:TypeId×Value->H} {P:Program} {W:World} {sp:Nat->Bool}
theorem uL {α:Type} [Inhabited α] {t e:TypeId} {size:Nat} {f:α->List Value} {Q:α->DataW H->Prop} (ht:P.underlying t=some (.slice e)) (hC:P.cellsOf e=size) (h0:0<size)
 (hel:∀n cs x,DataW.trod enc P W 0 sp true n e cs=some x->∃a,cs=f a/\Q a x.1) (hf:∀a,(f a).length=size)
 {fuel:Nat} {cs:List Value} {x:DataW H×List MemPlace} (h:DataW.trod enc P W 0 sp true fuel t cs=some x) :
 ∃A c,∃xs:List α,∃D:Nat->DataW H,cs=[.slice A xs.length c]/\xs.length<=c/\c<=maxLen/\cD (B0 W) A (fw (λ_ a=>f a) 0 xs)/\(∀i,i<xs.length->Q (xs.getD i default) (D i)) ∧
   Rows.uptoBulkAll ((List.range xs.length).map D)+1<=Rows.uptoBulk x.1:=by
 rcases open_slice ht h with ⟨hv,hx⟩|⟨a,len,cap,m,n,D,Pl,hcs,hb,hl,hm,hmm,hx,hi⟩
 ·subst hv
  refine⟨none,0,[],λ_=>.nil,rfl,aho _,ahj _,λj v hj=>by simp [fw] at hj,λi hi=>ahh hi (ahm i),?_⟩
  rw [hx]
  simp [Rows.uptoBulk,Rows.uptoBulkAll]
 have hlm:len<=m:=by rw [hmm];split<;>omega
 have hch:∀i,∃b:α,i<len->(W.cells? 0 (a.add (i*P.cellsOf e)) (P.cellsOf e)=some (f b)/\Q b (D i)):=λi=>by
  by_cases hil:i<len
  ·obtain⟨cs',h1,h2⟩:=hi i zc
   grind
  exact⟨default,λh=>ahh h hil⟩
 have hg:=λi=>Classical.choose_spec (hch i)
 generalize hG:(λi=>Classical.choose (hch i))=g at hg
 have hg:∀i,i<len->W.cells? 0 (a.add (i*P.cellsOf e)) (P.cellsOf e)=some (f (g i))/\Q (g i) (D i):=λi hi=>by
  grind
 have jy:((List.range len).map g).length=len:=ahd
 have hget:∀i,i<len->((List.range len).map g)[i]?=some (g i):=λi hi=>by simp [hi]
 have agH:∀i,i<len->((List.range len).map g).getD i default=g i:=Pe
 have hs1:0<len->a.spot=none:=λhl0=>by
  obtain⟨h2,-⟩:=hg 0 hl0
  rw [hC] at h2
  obtain⟨_,hcl,hat⟩:=World.cells?_some h2
  have h3:=hat 0 h0
  rw [ahs (by rw [hcl];exact h0)] at h3
  have e:(a.add (0*size)).add 0=a:=by rw [Nat.zero_mul];rfl
  rw [e] at h3
  exact VI h3
 refine⟨some a,cap,(List.range len).map g,D,by rw [jy];exact hcs,by rw [jy];exact hl,hm,λj v hj=>?_,λi hi'=>?_,?_⟩
 ·have hfl:=Br (f:=λ_ a=>f a) (s:=size) (λ_ a=>hf a) ((List.range len).map g) 0
  have hjl:=dF hj
  rw [hfl,jy] at hjl
  have uW:j / size<len:=(Nat.div_lt_iff_lt_mul h0).2 hjl
  have hj2:j % size<size:=Nat.mod_lt _ h0
  have e:=Nat.div_add_mod j size
  rw [Nat.mul_comm] at e
  have h1:=vg (f:=λ_ a=>f a) (s:=size) (λ_ a=>hf a) _ 0 _ (j % size) _ (hget _ uW) hj2
  rw [e,hj] at h1
  obtain⟨h2,-⟩:=hg _ uW
  rw [hC] at h2
  obtain⟨_,_,hat⟩:=World.cells?_some h2
  have h3:=hat _ hj2
  rw [←h1] at h3
  have hs1:=hs1 (Nat.lt_of_le_of_lt (ahj _) uW)
  rw [add_plain _ hs1] at h3
  rw [add_plain (a:=⟨a.block,a.off+j / size*size,none⟩) _ rfl] at h3
  have e2:a.off+j / size*size+j % size=a.off+j:=zc
  have h4:W.cell? ⟨a.block,a.off+j,none⟩=some v:=by rw [←e2];exact h3
  have ea:(some a:Option Addr)=some ⟨br (some a),bq (some a),none⟩:=by
   obtain⟨b,o,s⟩:=a
   cases hs1
   rfl
  exact⟨ea,RP h4,h4⟩
 ·grind
 rw [hx,jy]
 simp only [Rows.uptoBulk]
 omega
theorem RQ {t:TypeId} {n:Nat} {cs:List Value} {x:DataW H×List MemPlace} (ht:P.underlying t=some (.int .u8)) (h:DataW.trod enc P W 0 sp true n t cs=some x):∃b:UInt8,cs=[Bq b]/\True:=by
 obtain⟨z,h1,_,h3⟩:=DataW.trod_int ht h
 have h4:0<=z/\z<=255:=by simpa [Lit.wf,IntKind.min,IntKind.max,IntKind.signed,IntKind.bits] using h3
 refine⟨UInt8.ofNat z.toNat,?_,trivial⟩
 have e:(((UInt8.ofNat z.toNat).toNat:Nat):Int)=z:=by
  rw [UInt8.toNat_ofNat']
  omega
 rw [Bq,e]
 exact h1
def yg (z:Int):Prop:=-9223372036854775808<=z/\z<=9223372036854775807
theorem nW {t:TypeId} {n:Nat} {c:Value} {x:DataW H×List MemPlace} (ht:P.underlying t=some (.int .i64)) (h:DataW.trod enc P W 0 sp true n t [c]=some x):∃z,c=.int .i64 z/\yg z:=by
 obtain⟨z,h1,_,h3⟩:=DataW.trod_int ht h
 cases h1
 exact⟨z,rfl,by unfold yg;simpa [Lit.wf,IntKind.min,IntKind.max,IntKind.signed,IntKind.bits] using h3⟩
theorem uM {t:TypeId} {n:Nat} {c:Value} {x:DataW H×List MemPlace} (ht:P.underlying t=some .string) (h:DataW.trod enc P W 0 sp true n t [c]=some x):∃s:ByteArray,c=.string s/\s.size+1<=Rows.uptoBulk x.1:=by
 obtain⟨s,h1,h2,_⟩:=DataW.trod_string ht h
 cases h1
 refine⟨s,rfl,?_⟩
 rw [h2]
 simp only [Rows.uptoBulk,Array.length_toList]
 exact aho _
end open_
section graph
variable {H:Type} {enc:TypeId×Value->H} {W:World} {sp:Nat->Bool}
theorem Jm:∀(d:List UInt8) (k:Nat),fw (λ_ b=>[Bq b]) k d=dL d
 |[],_=>rfl
 |b::r,k=>by rw [fw,Jm r (k+1)];rfl
theorem Jo {n:Nat} {c:Value} {x:DataW H×List MemPlace} (h:DataW.trod enc Tryz.prog W 0 sp true n 51 [c]=some x) :
 ∃A cp,∃d:List UInt8,c=.slice A d.length cp/\bJ (B0 W) A d/\d.length+1<=Rows.uptoBulk x.1:=by
 obtain⟨A,cp,xs,D,h1,_,_,h2,_,h3⟩:=uL (α:=UInt8) (f:=λb=>[Bq b]) (Q:=λ_ _=>True) Tryz.underlying51 (size:=1) KB Pd (λn cs x h=>RQ Tryz.underlying5 h) (λ_=>rfl) h
 cases h1
 have:=wK ((List.range xs.length).map D)
 refine⟨A,cp,xs,rfl,?_,by simp at this;omega⟩
 rw [Jm] at h2
 exact h2
structure Ty (e:fH) (b:Nat):Prop where
 id:yg e.id
 name:e.name.size+1<=b
theorem cL {n:Nat} {cs:List Value} {xs:List (DataW H×List MemPlace)} {i:Nat} {t:TypeId} (h:DataW.trod enc Tryz.prog W 0 sp true n t cs=xs[i]?) (hi:i<xs.length):DataW.trod enc Tryz.prog W 0 sp true n t cs=some xs[i]/\Rows.uptoBulk (xs[i]).1<=Rows.uptoBulk (.agg (xs.map (·.1))):=by
 refine⟨h.trans (ahs hi),?_⟩
 have hm:(xs[i]).1∈xs.map (·.1):=Pe
 have:=bulk_mem hm
 simp only [Rows.uptoBulk]
 omega
theorem YK {n:Nat} {cs:List Value} {x:DataW H×List MemPlace} (h:DataW.trod enc Tryz.prog W 0 sp true n 149 cs=some x):∃e:fH,cs=G9 e/\Ty e (Rows.uptoBulk x.1):=by
 obtain⟨ys,m,_,hx,hl,wh,hf⟩:=DataW.trod_struct Tryz.underlying149 h
 have hC:Tryz.prog.cellsOf 149=2:=KB
 rw [hC] at hl
 match cs,hl with
 |[c0,c1],_=>
   obtain⟨h0,b0⟩:=cL (hf 0 _ rfl) (by rw [wh];decide)
   obtain⟨h1,_⟩:=cL (hf 1 _ rfl) (by rw [wh];decide)
   obtain⟨s,rfl,hs⟩:=uM Tryz.underlying9 h0
   obtain⟨z,rfl,hz⟩:=nW Tryz.underlying3 h1
   exact⟨⟨s,z⟩,rfl,⟨hz,by rw [hx];exact ahk hs b0⟩⟩
theorem VJ {n:Nat} {c:Value} {x:DataW H×List MemPlace} (h:DataW.trod enc Tryz.prog W 0 sp true n 93 [c]=some x) :
 ∃A cp,∃es:List fH,c=.slice A es.length cp/\cV (B0 W) A es/\es.length+1<=Rows.uptoBulk x.1/\∀i,i<es.length->Ty (en es i) (Rows.uptoBulk x.1):=by
 obtain⟨A,cp,xs,D,h1,_,_,h2,h4,h3⟩:=uL (α:=fH) (f:=G9) (Q:=λe d=>Ty e (Rows.uptoBulk d)) Tryz.underlying93 (size:=2) KB Pd (λn cs x h=>YK h) (λ_=>rfl) h
 cases h1
 have h5:=wK ((List.range xs.length).map D)
 refine⟨A,cp,xs,rfl,h2,by simp at h5;omega,λi hi=>⟨(h4 i hi).id,?_⟩⟩
 have h6:=(h4 i hi).name
 have h7:=Dr (D:=D) hi
 unfold en
 omega
structure aaQ (nd:aO) (b:Nat):Prop where
 ids:yg nd.id/\yg nd.kind/\yg nd.mode/\yg nd.bg/\yg nd.bh/\yg nd.aU/\yg nd.aJ
 data:nd.data.length+1<=b
 target:nd.target.size+1<=b
 ah:nd.ah.length+1<=b
 bU:∀i,i<nd.ah.length->Ty (en nd.ah i) b
structure Jp where
 n:aO
 dA:Option Addr
 dC:Nat
 eA:Option Addr
 eC:Nat
deriving Inhabited
def nlV (a:Jp):List Value:=[.int .i64 a.n.id,.int .i64 a.n.kind,.int .i64 a.n.mode,.int .i64 a.n.bg,.int .i64 a.n.bh,.int .i64 a.n.aU,.int .i64 a.n.aJ,.slice a.dA a.n.data.length a.dC,.string a.n.target,.slice a.eA a.n.ah.length a.eC]
structure aaR (W:World) (a:Jp) (b:Nat):Prop where
 nb:aaQ a.n b
 data:bJ (B0 W) a.dA a.n.data
 ah:cV (B0 W) a.eA a.n.ah
theorem VK {n:Nat} {cs:List Value} {x:DataW H×List MemPlace} (h:DataW.trod enc Tryz.prog W 0 sp true n 95 cs=some x):∃a:Jp,cs=nlV a/\aaR W a (Rows.uptoBulk x.1):=by
 obtain⟨ys,m,_,hx,hl,wh,hf⟩:=DataW.trod_struct Tryz.underlying95 h
 have hC:Tryz.prog.cellsOf 95=10:=KB
 rw [hC] at hl
 match cs,hl with
 |[c0,c1,c2,c3,c4,c5,c6,c7,c8,c9],_=>
   obtain⟨h0,_⟩:=cL (hf 0 _ rfl) (by rw [wh];decide)
   obtain⟨h1,_⟩:=cL (hf 1 _ rfl) (by rw [wh];decide)
   obtain⟨h2,_⟩:=cL (hf 2 _ rfl) (by rw [wh];decide)
   obtain⟨h3,_⟩:=cL (hf 3 _ rfl) (by rw [wh];decide)
   obtain⟨h4,_⟩:=cL (hf 4 _ rfl) (by rw [wh];decide)
   obtain⟨h5,_⟩:=cL (hf 5 _ rfl) (by rw [wh];decide)
   obtain⟨h6,b6⟩:=cL (hf 6 _ rfl) (by rw [wh];decide)
   obtain⟨h7,b7⟩:=cL (hf 7 _ rfl) (by rw [wh];decide)
   obtain⟨h8,b8⟩:=cL (hf 8 _ rfl) (by rw [wh];decide)
   obtain⟨z0,rfl,w0⟩:=nW Tryz.underlying3 h0
   obtain⟨z1,rfl,w1⟩:=nW Tryz.underlying3 h1
   obtain⟨z2,rfl,w2⟩:=nW Tryz.underlying3 h2
   obtain⟨z3,rfl,w3⟩:=nW Tryz.underlying3 h3
   obtain⟨z4,rfl,w4⟩:=nW Tryz.underlying3 h4
   obtain⟨us,_,_,_,_,yh,hu⟩:=DataW.trod_struct Tryz.underlying26 h5
   obtain⟨g0,_⟩:=cL (hu 0 _ rfl) (by rw [yh];decide)
   obtain⟨g1,_⟩:=cL (hu 1 _ rfl) (by rw [yh];decide)
   obtain⟨z5,rfl,w5⟩:=nW (c:=c5) Tryz.underlying3 g0
   obtain⟨z6,rfl,w6⟩:=nW (c:=c6) Tryz.underlying3 g1
   obtain⟨A7,p7,d7,rfl,q7,l7⟩:=Jo (c:=c7) h6
   obtain⟨s8,rfl,l8⟩:=uM (c:=c8) Tryz.underlying9 h7
   obtain⟨A9,p9,e9,rfl,q9,l9,k9⟩:=VJ (c:=c9) h8
   rw [hx]
   exact⟨⟨⟨z0,z1,z2,z3,z4,z5,z6,d7,s8,e9⟩,A7,p7,A9,p9⟩,rfl,⟨⟨w0,w1,w2,w3,w4,w5,w6⟩,ahk l7 b6,ahk l8 b7,ahk l9 b8,λi hi=>⟨(k9 i hi).id,ahk (k9 i hi).name b8⟩⟩,q7,q9⟩
structure j7 (ns:List aO) (b:Nat):Prop where
 len:ns.length+1<=b
 node:∀i,i<ns.length->aaQ (nd ns i) b
theorem Jq (L:eP):∀(xs:List Jp) (k:Nat),(∀i,i<xs.length->L.dA (k+i)=(xs.getD i default).dA/\L.dC (k+i)=(xs.getD i default).dC/\L.eA (k+i)=(xs.getD i default).eA/\L.eC (k+i)=(xs.getD i default).eC)->fw (λ_ a=>nlV a) k xs=fw (iy L) k (xs.map (·.n))
 |[],_,_=>rfl
 |a::r,k,h=>by
   obtain⟨h1,h2,h3,h4⟩:=h 0 ahd
   simp only [Nat.add_zero,List.getD_cons_zero] at h1 h2 h3 h4
   rw [fw,ahM,fw,Jq L r (k+1) (λi hi=>by
    have:=h (i+1) (by simp;omega)
    rw [List.getD_cons_succ] at this
    have e:k+(i+1)=k+1+i:=zc
    rw [e] at this
    exact this)]
   rw [iy,h1,h2,h3,h4]
   rfl
theorem Tz {n:Nat} {c:Value} {x:DataW H×List MemPlace} (h:DataW.trod enc Tryz.prog W 0 sp true n 22 [c]=some x) :
 ∃A cp,∃ns:List aO,∃L:eP,c=.slice A ns.length cp/\aQ (B0 W) A ns L/\j7 ns (Rows.uptoBulk x.1):=by
 obtain⟨A,cp,xs,D,h1,_,_,h2,h4,h3⟩:=uL (α:=Jp) (f:=nlV) (Q:=λa d=>aaR W a (Rows.uptoBulk d)) Tryz.underlying22 (size:=10) KB Pd (λn cs x h=>VK h) (λ_=>rfl) h
 cases h1
 have h5:=wK ((List.range xs.length).map D)
 have e:(xs.map (·.n)).length=xs.length:=ahd
 have hnd:∀i,i<xs.length->nd (xs.map (·.n)) i=(xs.getD i default).n:=λi hi=>by
  simp [nd,List.getD_eq_getElem?_getD,hi]
 refine⟨A,cp,xs.map (·.n),⟨λi=>(xs.getD i default).dA,λi=>(xs.getD i default).eA,λi=>(xs.getD i default).dC,λi=>(xs.getD i default).eC⟩,by rw [e],⟨?_,λi hi=>?_,λi hi=>?_⟩,by simp at h5;rw [e];omega,λi hi=>?_⟩
 ·rw [Jq ⟨λi=>(xs.getD i default).dA,λi=>(xs.getD i default).eA,λi=>(xs.getD i default).dC,λi=>(xs.getD i default).eC⟩ xs 0 (λi _=>Pe)] at h2
  exact h2
 ·rw [e] at hi
  rw [hnd i hi]
  exact (h4 i hi).data
 ·rw [e] at hi
  rw [hnd i hi]
  exact (h4 i hi).ah
 rw [e] at hi
 rw [hnd i hi]
 have h7:=Dr (D:=D) hi
 have h8:=(h4 i hi).nb
 exact⟨h8.ids,by have:=h8.data;omega,by have:=h8.target;omega,by have:=h8.ah;omega,λj hj=>⟨(h8.bU j hj).id,by have:=(h8.bU j hj).name;omega⟩⟩
end graph
end
section
open Go.RowKit
attribute [local irreducible] av bP aq aB kV
theorem YL {β:Bs} (A:Option Addr) (ns:List aO) (L:eP) (hG:aQ β A ns L) (hr:dH ns) (i:Nat) (hi:i<ns.length) (hel:(nd ns i).ah.length<=1048576) (hwf:∀j,j<(nd ns i).ah.length->-9223372036854775808<=(bU ns i j).id/\(bU ns i j).id<=9223372036854775807) (hnm:∀j,j<(nd ns i).ah.length->(bU ns i j).name.size<=1048576)
 (mb mp:Nat) (ps:List (Nat×Nat)) (hpl:ps.length<=16777216) (ax:∀p,p∈ps->p.1<ns.length) (hnp:(ps.map Prod.fst).Nodup) :
 aX Tryz.prog β 108 #[.pointer (some ⟨(br A),bq A+i*10,none⟩),.map (some mb),.map (some mp)] [.abs (bD Tryz.prog 3 mb (mf (bf A ns ns.length)) ns.length),.abs (bD Tryz.prog 3 mp (mf (pf ((ps).map (lu ns)))) ((ps).length))] (λv l=>(v=.bool true/\Dk ns i ps/\l=[.abs (bD Tryz.prog 3 mb (mf (bf A ns ns.length)) ns.length),.abs (bD Tryz.prog 3 mp (mf (pf ((iu ns i (nd ns i).ah.length++ps).map (lu ns)))) ((iu ns i (nd ns i).ah.length++ps).length))])\/(v=.bool false/\¬Dk ns i ps/\l=[])):=by
 refine SE Tryz.func108 Tryz.ntmps108 (λR=>SR (jK 1 [] [] (NS (jK 1 [7] [] (NZ (jK 6 [16,17,18] [(3,r_ (aQ.rd hG (i:=i) zc (j:=9) rfl))] (NN (aq.block (lJ (λ(j:Nat)=>(j<=(nd ns i).ah.length)/\(∀t,t<j->xq ns i t)/\(((iu ns i j++ps).map Prod.fst).Nodup)) (λ(j:Nat)=>(nd ns i).ah.length-j) (λ(j:Nat)=>[(0,.pointer (some ⟨(br A),bq A+i*10,none⟩)),(1,.map (some mb)),(2,.map (some mp)),(7,.string (Al ns i j)),(16,.slice (L.eA i) ((nd ns i).ah.length) ((L.eC i))),(17,vI ↑((nd ns i).ah.length)),(18,vI ↑j)]) (λ(j:Nat)=>[.abs (bD Tryz.prog 3 mb (mf (bf A ns ns.length)) ns.length),.abs (bD Tryz.prog 3 mp (mf (pf ((iu ns i j++ps).map (lu ns)))) ((iu ns i j++ps).length)),.abs R]) 0 [0,1,2] (⟨ahj _,λt ht=>ahh ht (ahm t),hnp⟩) ?_)))))))))
 rintro j ⟨hj,hok,hnd⟩
 refine SR (jK 1 [19] [] (NN (aq.seq (cP ((((j:Nat):Int):Int)<((((nd ns i).ah.length:Nat):Int):Int)) (λGv=>KX (aq.seq (aq.block (SR (jN 4 [9] (λb1=>[(0,x_ j ((nd ns i).ah.length) (cV.hd (hG.ah i zc) (i:=j) zc)),(1,r2 (cV.rd (hG.ah i zc) (i:=j) zc (j:=0) rfl) (cV.rd (hG.ah i zc) (i:=j) zc (j:=1) rfl)),(3,A_ 3 b1 2)]) (λ_=>[]) (λb1=>.ay b1 [.string (en (nd ns i).ah j).name,vI ((en (nd ns i).ah j).id)] 149) (λb1=>NS (jK 3 [22,24] [(2,a_ 3 b1)] ?_))))))) (λGv=>XX (zR (l:=[.abs (bD Tryz.prog 3 mb (mf (bf A ns ns.length)) ns.length),.abs (bD Tryz.prog 3 mp (mf (pf ((iu ns i j++ps).map (lu ns)))) ((iu ns i j++ps).length))]) (.inl ⟨rfl,⟨λt ht=>hok t zc,Pe⟩,Pe⟩)))))))
 by_cases hat:0<=gJ ns (en (nd ns i).ah j).id
 ·have htl:=mW hat
  refine av.ji 0 (d:=(some 25)) (t:=177) (K:=3) (E:=192) (b:=mb) (n:=ns.length) (f:=(mf (bf A ns ns.length))) (x:=(.tmp 22)) (ix:=(.tmp 24)) (key:=vI ((en (nd ns i).ah j).id)) (z:=.pointer none) (kl:=(.int .i64 (en (nd ns i).ah j).id)) (r:=(some (.pointer (some ⟨(br A),bq A+(cq ns (en (nd ns i).ah j).id)*10,none⟩)))) (λ_=>KB) KB (λ_=>KB) (λ_=>KB) iY Tryz.underlying177 (λ_=>KB) (wu (hwf j zc).1 (hwf j zc).2) (aeT hat htl.1) (jK 1 [10] [] (NZ (jK 5 [28,30] [(4,a_ 3 b1)] (gE [] (Aj (en (nd ns i).ah j).name (hnm j zc)) (jK 3 [34] [] (sN 34 (cA (en (nd ns i).ah j).name) (λyj=>jK 5 [39] [] (NT (zR (.inr ⟨rfl,λh=>yj (h.ah j zc).good,rfl⟩) [2]))) (λyj=>jK 5 [39] [(1,a_ 3 b1),(3,w_ (.bool (decide (jA ((en (nd ns i).ah j).name) (Al ns i j)))) (NU _ _))] (NN (cP (jA ((en (nd ns i).ah j).name) (Al ns i j)) (λnB=>zR (.inr ⟨rfl,λh=>(h.ah j zc).ord nB,rfl⟩) [2]) (λnB=>KX (SR (jK 3 [7] [(1,a_ 3 b1)] (NZ (jK 5 [46] [(3,r_ (aQ.rd hG (i:=(cq ns (en (nd ns i).ah j).id)) zc (j:=1) rfl))] (NN (cN (((nd ns (cq ns (en (nd ns i).ah j).id)).kind:Int)=(2:Int)) (λh46=>XX (aq.region (av.cO 1 (p':=.abs (bD Tryz.prog 3 mp (mf (pf ((iu ns i (j+1)++ps).map (lu ns)))) ((iu ns i (j+1)++ps).length))) rfl (by rw [rH h46]) (jK 2 [18] [(0,wJ ((j:Int)+1) (↑(j+1)))] (NL (tJ ((j+1)) [0,1,2] (⟨zc,λt ht=>(by rcases ahn.1 ht with h|h;exact hok t h;subst h;exact⟨hat,yj,nB⟩),(by rw [rH h46];exact hnd)⟩))))))) (λh46=>KX (SQ (jK 3 [48,50] [(2,a_ 3 b1)] ?_)))))))))))))))))))
  rcases hup:up ((iu ns i j++ps).map (lu ns)) (en (nd ns i).ah j).id with _|y
  ·exact av.Bn 1 (d:=(some 51)) (t:=107) (K:=3) (E:=3) (b:=mp) (n:=(iu ns i j++ps).length) (f:=(mf (pf ((iu ns i j++ps).map (lu ns))))) (x:=(.tmp 48)) (ix:=(.tmp 50)) (key:=vI ((en (nd ns i).ah j).id)) (z:=.int .i64 0) (kl:=(.int .i64 (en (nd ns i).ah j).id)) (r:=none) (λ_=>KB) KB (λ_=>KB) (λ_=>KB) iY Tryz.underlying107 (λ_=>KB) (wu (hwf j zc).1 (hwf j zc).2) (Di hup) (jK 5 [12] [] (NS (jK 1 [54] [] (NF (KX (aq.xj 7 KB KB (kV.seg (k':=7) (bY:=[(0,.pointer (some ⟨(br A),bq A+i*10,none⟩)),(1,.map (some mb)),(2,.map (some mp)),(7,.string (en (nd ns i).ah j).name),(16,.slice (L.eA i) ((nd ns i).ah.length) ((L.eC i))),(17,vI ↑((nd ns i).ah.length)),(18,vI ↑j),(55,.map (some mp)),(57,vI ((en (nd ns i).ah j).id)),(61,vI ((nd ns i).id))]) (fe:=[(Rd β ⟨(br A),bq A+i*10,none⟩ (vI ((nd ns i).id))),b1=b1]) [o_,o_,⟨[.at 3],none,none,none,none⟩,o_,o_,o_,⟨[.old (.int .i64 ((nd ns i).id))],none,none,none,none⟩] [0,1,2,7,16,17,18,55,57,61] (λ_ _=>KB) ⟨aQ.rd hG (i:=i) zc (j:=0) rfl,rfl,trivial⟩ Pd (kV.done rfl (av.qU 1 (d:=none) (t:=107) (K:=3) (E:=3) (b:=mp) (n:=(iu ns i j++ps).length) (f:=(mf (pf ((iu ns i j++ps).map (lu ns))))) (x:=(.tmp 55)) (ix:=(.tmp 57)) (y:=(.tmp 61)) (key:=vI ((en (nd ns i).ah j).id)) (u:=.int .i64 ((nd ns i).id)) (kl:=(.int .i64 (en (nd ns i).ah j).id)) (n':=(iu ns i (j+1)++ps).length) (f':=(mf (pf ((iu ns i (j+1)++ps).map (lu ns))))) (λ_=>KB) KB (λ_=>KB) (λ_=>KB) (λ_=>KB) iY Tryz.underlying107 (by have:=NV ns i j;rw [ahl];unfold maxLen;omega) (wu (hwf j zc).1 (hwf j zc).2) (Yc (Di hup) h46) (Yb hat h46) (LX (aq.region (jK 2 [18] [(0,wJ ((j:Int)+1) (↑(j+1)))] (NL (tJ ((j+1)) [0,1,2] (⟨zc,λt ht=>(by rcases ahn.1 ht with h|h;exact hok t h;subst h;exact⟨hat,yj,nB⟩),(Ta hat h46 hup hnd)⟩)))))))))))))))
  exact av.Bn 1 (d:=(some 51)) (t:=107) (K:=3) (E:=3) (b:=mp) (n:=(iu ns i j++ps).length) (f:=(mf (pf ((iu ns i j++ps).map (lu ns))))) (x:=(.tmp 48)) (ix:=(.tmp 50)) (key:=vI ((en (nd ns i).ah j).id)) (z:=.int .i64 0) (kl:=(.int .i64 (en (nd ns i).ah j).id)) (r:=(some (vI y))) (λ_=>KB) KB (λ_=>KB) (λ_=>KB) iY Tryz.underlying107 (λ_=>KB) (wu (hwf j zc).1 (hwf j zc).2) (aaK hup) (jK 5 [12] [] (NS (jK 1 [54] [] (NT (zR (.inr ⟨rfl,Qz hr ax hok hat h46 hup zc,rfl⟩) [2])))))
 exact av.ji 0 (d:=(some 25)) (t:=177) (K:=3) (E:=192) (b:=mb) (n:=ns.length) (f:=(mf (bf A ns ns.length))) (x:=(.tmp 22)) (ix:=(.tmp 24)) (key:=vI ((en (nd ns i).ah j).id)) (z:=.pointer none) (kl:=(.int .i64 (en (nd ns i).ah j).id)) (r:=none) (λ_=>KB) KB (λ_=>KB) (λ_=>KB) iY Tryz.underlying177 (λ_=>KB) (wu (hwf j zc).1 (hwf j zc).2) (abN hat) (jK 1 [10] [] (NZ (jK 14 [39] [] (NT (zR (.inr ⟨rfl,λh=>hat (h.ah j zc).at_,rfl⟩) [2])))))
end
section
open Go.RowKit Go.Maps
def dM (ns:List aO):Nat->Nat
 |0=>0
 |k+1=>dM ns k+(nd ns k).ah.length
def q6 (ns:List aO):Nat->Int
 |0=>0
 |k+1=>(nd ns k).id
structure cG (ns:List aO):Prop where
 len:ns.length<=4096
 node:∀i,i<ns.length->sA (nd ns i)
 ids:∀i,i<ns.length->1<=(nd ns i).id/\(nd ns i).id<=1099511627776
 fO:dH ns
 sum:dM ns ns.length<=8192
 ah:∀i,i<ns.length->∀j,j<(nd ns i).ah.length->xq ns i j
 nodup:((jo ns ns.length).map Prod.fst).Nodup
 ends:CK ((jo ns ns.length).map (lu ns))
noncomputable instance (ns:List aO):Decidable (cG ns):=Classical.propDecidable _
theorem cG.last {ns:List aO} (h:cG ns) {k:Nat} (hk:k<ns.length):q6 ns k<(nd ns k).id:=by
 cases k with
 |zero=>have:=(h.ids 0 hk).1;show (0:Int)<_;omega
 |succ k=>exact h.fO k (k+1) (ahI k) hk
structure wL (ns:List aO) (k:Nat):Prop where
 node:∀i,i<k->sA (nd ns i)
 ids:∀i,i<k->1<=(nd ns i).id/\(nd ns i).id<=1099511627776
 fO:∀i j,i<j->j<k->(nd ns i).id<(nd ns j).id
theorem wL.zero (ns:List aO):wL ns 0:=⟨λi h=>ahh h (ahm i),λi h=>ahh h (ahm i),λ_ j _ h=>ahh h (ahm j)⟩
theorem wL.last {ns:List aO} {k:Nat} (h:wL ns k):0<=q6 ns k/\q6 ns k<=1099511627776:=by
 cases k with
 |zero=>exact⟨Int.le_refl _,by show (0:Int)<=1099511627776;decide⟩
 |succ k=>have:=h.ids k (ahI k);exact⟨by show 0<=(nd ns k).id;omega,this.2⟩
theorem wL.step {ns:List aO} {k:Nat} (h:wL ns k) (h1:q6 ns k<(nd ns k).id) (h2:(nd ns k).id<=1099511627776) (h3:sA (nd ns k)):wL ns (k+1):=by
 have hl:=h.last
 refine⟨λi hi=>?_,λi hi=>?_,λi j hij hj=>?_⟩
 ·rcases ahn.1 hi with e|e
  ·exact h.node i e
  rw [e];exact h3
 ·rcases ahn.1 hi with e|e
  ·exact h.ids i e
  rw [e];omega
 rcases ahn.1 hj with e|e
 ·exact h.fO i j hij e
 subst e
 cases j with
 |zero=>omega
 |succ m=>
   have h4:(nd ns m).id<(nd ns (m+1)).id:=h1
   rcases ahn.1 hij with e|e
   ·have:=h.fO i m e (ahI m);omega
   rw [e];exact h4
theorem Oy {ns:List aO} {k:Nat} (h:∀i,i<k->(nd ns i).id<(nd ns k).id) (hk:k<ns.length):gJ ns (nd ns k).id=(k:Int):=by
 unfold gJ
 have hg:∀j (hj:j<ns.length),nd ns j=ns[j]:=λj hj=>by
  grind [nd]
 have:ns.findIdx? (λn=>n.id == (nd ns k).id)=some k:=by
  rw [ahY]
  grind
 rw [this]
theorem adn {A:Option Addr} {ns:List aO} {k:Nat} (h:∀i,i<k->(nd ns i).id<(nd ns k).id) (hk:k<ns.length) :
 ql (mf (bf A ns k)) (.int .i64 (nd ns k).id) (some (.pointer (some ⟨br A,bq A+k*10,none⟩)))=mf (bf A ns (k+1)):=by
 have ha:=Oy h hk
 rw [NA]
 congr 1
 funext z
 unfold bf
 by_cases e:z=(nd ns k).id
 ·grind [cq]
 rw [ahe e]
 by_cases e1:0<=gJ ns z/\gJ ns z<(k:Int)
 ·rw [ahf e1,ahf ⟨e1.1,zc⟩]
 rw [ahe e1,ahe (λe2=>?_)]
 have e3:gJ ns z=(k:Int):=zc
 have e4:=(mW e2.1).2
 grind
theorem YM {A:Option Addr} {ns:List aO} {k:Nat} (h:∀i,i<k->(nd ns i).id<(nd ns k).id) (hk:k<ns.length):(if ((mf (bf A ns k)) (.int .i64 (nd ns k).id)).isSome then k else k+1)=k+1:=by
 grind [Oy,mf,bf,nd]
theorem wL.below {ns:List aO} {k:Nat} (h:wL ns k) (h1:q6 ns k<(nd ns k).id):∀i,i<k->(nd ns i).id<(nd ns k).id:=by
 intro i hi
 cases k with
 |zero=>omega
 |succ m=>
   have h1:(nd ns m).id<(nd ns (m+1)).id:=h1
   rcases ahn.1 hi with e|e
   ·have:=h.fO i m e (ahI m);omega
   rw [e];exact h1
theorem ab2 {A:Option Addr} {ns:List aO}:mf (bf A ns 0)=λ_=>none:=by
 rw [←Km]
 congr 1
 funext z
 exact ahe (λe=>zc)
theorem ab3 {ns:List aO}:mf (pf ((jo ns 0).map (lu ns)))=λ_=>none:=by
 rw [←Km]
 congr 1
theorem AF {ns:List aO} {i:Nat} (hi:i<=ns.length) (h:∀a,a<i->∀j,j<(nd ns a).ah.length->xq ns a j):∀p,p∈jo ns i->p.1<ns.length/\p.2<ns.length:=by
 induction i with
 |zero=>intro p hp;cases hp
 |succ i ih=>
   intro p hp
   grind [jo,NW]
theorem Oz (ns:List aO) (i:Nat):(jo ns i).length<=dM ns i:=by
 induction i with
 |zero=>exact aho _
 |succ i ih=>
   grind [jo,dM,NV,nd]
theorem qG {ns:List aO} {i m:Nat} (h:i<=m):dM ns i<=dM ns m:=by
 induction m with
 |zero=>rw [Nat.le_zero.1 h];exact aho _
 |succ m ih=>
   grind [dM]
theorem VL {ns:List aO} {ps:List (Nat×Nat)} (hp:∀p,p∈ps->p.1<ns.length/\p.2<ns.length) (hid:∀i,i<ns.length->1<=(nd ns i).id/\(nd ns i).id<=1099511627776) :
 ∀z y,up (ps.map (lu ns)) z=some y->(-9223372036854775808<=z/\z<=9223372036854775807)/\(-9223372036854775808<=y/\y<=9223372036854775807):=by
 intro z y h
 unfold up at h
 induction ps with
 |nil=>cases h
 |cons p ps ih=>
   grind [lu,nd]
theorem ado {p:Prop} [Decidable p] {v:Value} {l:List HP} (h:v=.bool (decide p)/\l=[]):(v=.bool true/\p/\l=[])\/(v=.bool false/\¬p/\l=[]):=by
 by_cases hp:p
 all_goals grind
theorem Dk.next {ns:List aO} {i:Nat} (h:Dk ns i (jo ns i)):((jo ns (i+1)).map Prod.fst).Nodup:=h.nodup
theorem cG.row {ns:List aO} (h:cG ns) {i:Nat} (hi:i<ns.length):Dk ns i (jo ns i):=by
 refine⟨h.ah i hi,?_⟩
 obtain⟨l,hl⟩:=Ve (ns:=ns) (show i+1<=ns.length from hi)
 have:=h.nodup
 rw [hl] at this
 exact Ey this
end
section
open Go.RowKit
attribute [local irreducible] av bP aq aB
theorem ab4 {β:Bs} (A:Option Addr) (c:Nat) (ns:List aO) (L:eP) (hG:aQ β A ns L) (hl:ns.length<=1048576) (hd:∀i,i<ns.length->(nd ns i).data.length<=140737488355328/\(nd ns i).ah.length<=1048576) (hwf:∀i,i<ns.length->∀j,j<(nd ns i).ah.length->-9223372036854775808<=(bU ns i j).id/\(bU ns i j).id<=9223372036854775807) (hnm:∀i,i<ns.length->∀j,j<(nd ns i).ah.length->(bU ns i j).name.size<=1048576) :
 aX Tryz.prog β 90 #[.agg #[.slice A ns.length c]] [] (λv l=>(∃mb,v=.tuple #[.map (some mb),.bool true]/\cG ns/\l=[.abs (bD Tryz.prog 3 mb (mf (bf A ns ns.length)) ns.length)])\/(∃m,v=.tuple #[m,.bool false]/\¬cG ns/\l=[])):=by
 refine SE Tryz.func90 Tryz.ntmps90 (λR=>SR (jB 3 [1] (λb1=>.ay b1 [.slice A (ns.length) (c)] 24) (λb1=>NZ (jK 4 [14] [(1,a_ 1 b1)] (NN (cP ((((ns.length:Nat):Int):Int)>(4096:Int)) (λmz=>zR (v:=(.tuple #[.map none,.bool false])) (.inr ⟨_,rfl,λh=>by have:=h.len;omega,rfl⟩)) (λmz=>KX (SR (av.tG (d:=(some 15)) (t:=177) (λ_=>KB) Tryz.prog rfl 3 (λm2=>jK 1 [4] [] (NS (av.cO 2 (p:=.abs (bD Tryz.prog 3 m2 (λ_=>none) 0)) (p':=.abs (bD Tryz.prog 3 m2 (mf (bf A ns 0)) 0)) KB (by rw [ab2]) (jK 2 [5,6] [] (NZ (jK 4 [18,19] [(1,a_ 1 b1)] (NN (aq.block (lJ (ι:=Nat) (λ(k:Nat)=>(k<=ns.length)/\(wL ns k)/\(dM ns k<=k*1048576)) (λ(k:Nat)=>ns.length-k) (λ(k:Nat)=>[(1,vP b1),(4,.map (some m2)),(5,vI (q6 ns k)),(6,vI ↑(dM ns k)),(18,vI ↑ns.length),(19,vI ↑k)]) (λ(k:Nat)=>[.ay b1 [.slice A (ns.length) (c)] 24,.abs (bD Tryz.prog 3 m2 (mf (bf A ns k)) k),.abs R]) 0 [1,2,0] (⟨ahj _,wL.zero ns,ahj _⟩) ?_))))))))))))))))))
 rintro k ⟨hk,hu,hs⟩
 have hk4:=(hd k)
 refine SR (jK 1 [20] [] (NN (aq.seq (cP ((((k:Nat):Int):Int)<(((ns.length:Nat):Int):Int)) (λpu=>KX (aq.seq (aq.block (SR (jK 2 [7] [] (NS (jK 5 [8] [(1,a_ 0 b1),(3,x_ k ns.length (aQ.hd hG (i:=k) zc))] (NZ (jK 7 [32] [(3,r_ (aQ.rd hG (i:=k) zc (j:=0) rfl))] (sP 32 (((nd ns k).id:Int)<=(q6 ns k:Int)) (λsy=>jK 11 [43] [] (NT (zR (v:=(.tuple #[.map none,.bool false])) (.inr ⟨_,rfl,λh=>by have:=h.last (show k<ns.length by omega);omega,rfl⟩) [2]))) (λsy=>jK 7 [39] [(3,r_ (aQ.rd hG (i:=k) zc (j:=0) rfl))] (sP 39 (((nd ns k).id:Int)>(1099511627776:Int)) (λnB=>jK 4 [43] [] (NT (zR (v:=(.tuple #[.map none,.bool false])) (.inr ⟨_,rfl,λh=>by have:=(h.ids k zc).2;omega,rfl⟩) [2]))) (λnB=>jK 1 [40] [] (gE [] (Ya A ns L hG k zc) (jK 2 [43] [] (NN (cN (sA (nd ns k)) (λJr=>zR (v:=(.tuple #[.map none,.bool false])) (.inr ⟨_,rfl,λh=>Jr (h.node k zc),rfl⟩) [2]) (λJr=>KX (SR (jK 5 [5] [(3,r_ (aQ.rd hG (i:=k) zc (j:=0) rfl))] (NS (jK 6 [48,52,53] [(4,r_ (aQ.rd hG (i:=k) zc (j:=0) rfl))] (av.qU 1 (d:=none) (t:=177) (K:=3) (E:=192) (b:=m2) (n:=k) (f:=(mf (bf A ns k))) (x:=(.tmp 48)) (ix:=(.tmp 52)) (y:=(.tmp 53)) (key:=vI ((nd ns k).id)) (u:=.pointer (some ⟨(br A),bq A+k*10,none⟩)) (kl:=(.int .i64 (nd ns k).id)) (n':=k+1) (f':=(mf (bf A ns (k+1)))) (λ_=>KB) KB (λ_=>KB) (λ_=>KB) (λ_=>KB) iY Tryz.underlying177 (by unfold maxLen;omega) (wu (by have:=hu.last;omega) zc) (YM (hu.below zc) zc) (adn (hu.below zc) zc) (NN (aq.region (jK 8 [6] [(4,r_ (aQ.rd hG (i:=k) zc (j:=9) rfl)),(6,wJ (((dM ns k:Nat):Int)+(((nd ns k).ah.length:Nat):Int)) (↑((dM ns k)+((nd ns k).ah.length))))] (LX (aq.region (jK 2 [19] [(0,wJ ((k:Int)+1) (↑(k+1)))] (NL (tJ ((k+1)) [0,1,2] (⟨zc,hu.step zc zc Jr,by grind [dM]⟩)))))))))))))))))))))))))))))))) (λpu=>XX (SQ (jK 2 [63] [] (NN (cP ((((dM ns k:Nat):Int):Int)>(8192:Int)) (λh63=>zR (v:=(.tuple #[.map none,.bool false])) (.inr ⟨_,rfl,λh=>by have h1:=h.sum;grind,rfl⟩) [2]) (λh63=>KX (SR (av.tG (d:=(some 64)) (t:=107) (λ_=>KB) Tryz.prog rfl 3 (λm3=>jK 1 [9] [] (NZ (av.cO 3 (p:=.abs (bD Tryz.prog 3 m3 (λ_=>none) 0)) (p':=.abs (bD Tryz.prog 3 m3 (mf (pf ((jo ns 0).map (lu ns)))) ((jo ns 0).length))) KB (by rw [ab3];rfl) (av.cO 1 (p:=.abs (bD Tryz.prog 3 m2 (mf (bf A ns k)) k)) (p':=.abs (bD Tryz.prog 3 m2 (mf (bf A ns ns.length)) ns.length)) KB (by rw [show k=ns.length by omega]) (jK 4 [67,68] [(1,a_ 0 b1)] (NN (aq.block ?_)))))))))))))))))))
 have Ds:dH ns:=λa b ef hb=>hu.fO a b ef zc
 have hsum:dM ns ns.length<=8192:=by rw [show ns.length=k by omega];omega
 refine lJ (ι:=Nat) (λ(i:Nat)=>(i<=ns.length)/\(∀a,a<i->∀j,j<(nd ns a).ah.length->xq ns a j)/\(((jo ns i).map Prod.fst).Nodup)) (λ(i:Nat)=>ns.length-i) (λ(i:Nat)=>[(1,vP b1),(4,.map (some m2)),(9,.map (some m3)),(67,vI ↑ns.length),(68,vI ↑i)]) (λ(i:Nat)=>[.ay b1 [.slice A (ns.length) (c)] 24,.abs (bD Tryz.prog 3 m2 (mf (bf A ns ns.length)) ns.length),.abs (bD Tryz.prog 3 m3 (mf (pf ((jo ns i).map (lu ns)))) ((jo ns i).length)),.abs R]) 0 [0,1,3,2] (⟨ahj _,λa ha=>ahh ha (ahm a),List.nodup_nil⟩) ?_
 rintro i ⟨hi,BK,hnd⟩
 refine SR (jK 1 [69] [] (NN (aq.seq (cP ((((i:Nat):Int):Int)<(((ns.length:Nat):Int):Int)) (λh69=>?_) (λh69=>?_)))))
 ·refine KX (aq.seq (aq.block (SR (jK 2 [10] [] (NS (jK 6 [74,75,76] [(1,a_ 0 b1),(3,x_ i ns.length (aQ.hd hG (i:=i) zc))] (gL [1,2] (YL A ns L hG Ds i zc (hd i zc).2 (hwf i zc) (hnm i zc) m2 m3 (jo ns i) (by have:=Oz ns i;have:=qG (ns:=ns) (show i<=ns.length by omega);omega) (λp hp=>(AF zc BK p hp).1) hnd) ?_)))))))
  rintro _ _ (⟨rfl,hro,rfl⟩|⟨rfl,hro,rfl⟩)
  ·exact jK 1 [78] [] (NF (KX (aq.region (jK 2 [68] [(0,wJ ((i:Int)+1) (↑(i+1)))] (NL (tJ ((i+1)) [2,0,1,3] (⟨zc,λa ha=>(by rcases ahn.1 ha with h|h;exact BK a h;subst h;exact hro.ah),hro.next⟩)))))))
  exact jK 1 [78] [] (NT (zR (v:=(.tuple #[.map none,.bool false])) (.inr ⟨_,rfl,λh=>hro (h.row zc),rfl⟩) [1]))
 refine XX (SR (jK 2 [80,81] [] (av.cO 2 (p:=.abs (bD Tryz.prog 3 m3 (mf (pf ((jo ns i).map (lu ns)))) ((jo ns i).length))) (p':=.abs (bD Tryz.prog 3 m3 (mf (pf ((jo ns i).map (lu ns)))) (((jo ns i).map (lu ns)).length))) KB (by rw [ahz]) (gL [2] ((Vc m3 ((jo ns i).map (lu ns)) (by grind [Oz,qG]) (VL (AF zc BK) (λa ha=>hu.ids a zc))).mono (λv l h=>ado h)) ?_))))
 rintro _ _ (⟨rfl,hae,rfl⟩|⟨rfl,hae,rfl⟩)
 ·exact jK 2 [2,3] [] (eN (v:=(.tuple #[.map (some m2),.bool true])) (.inl ⟨m2,rfl,⟨zc,λa ha=>hu.node a zc,λa ha=>hu.ids a zc,Ds,zc,λa ha=>BK a zc,Pe,Pe⟩,rfl⟩) [1,2])
 exact jK 2 [2,3] [] (eN (v:=(.tuple #[.map (some m2),.bool false])) (.inr ⟨_,rfl,λh=>hae (by have:=h.ends;grind),rfl⟩) [2])
theorem YN {β:Bs} (A:Option Addr) (c:Nat) (ns:List aO) (L:eP) (hG:aQ β A ns L) (hl:ns.length<=1048576) (hd:∀i,i<ns.length->(nd ns i).data.length<=140737488355328/\(nd ns i).ah.length<=1048576) (hwf:∀i,i<ns.length->∀j,j<(nd ns i).ah.length->-9223372036854775808<=(bU ns i j).id/\(bU ns i j).id<=9223372036854775807) (hnm:∀i,i<ns.length->∀j,j<(nd ns i).ah.length->(bU ns i j).name.size<=1048576) :
 aX Tryz.prog β 63 #[.agg #[.slice A ns.length c]] [] (λv l=>v=vI (if cG ns then 0 else 140)/\l=[]):=by
 refine SE Tryz.func63 Tryz.ntmps63 (λR=>SR (jB 2 [1] (λb4=>.ay b4 [.slice A (ns.length) (c)] 24) (λb4=>NZ (jK 1 [6] [(0,a_ 1 b4)] (gL [] (ab4 A c ns L hG hl hd hwf hnm) ?_)))))
 rintro _ _ (⟨mb,rfl,hok,rfl⟩|⟨m,rfl,hok,rfl⟩)
 ·exact jK 5 [4] [] (NS (jK 2 [11] [] (NF (KX (zR ⟨ahg (Value.int .i64) (ahf hok).symm,rfl⟩ [1])))))
 exact jK 5 [4] [] (NS (jK 2 [11] [] (NT (zR ⟨ahg (Value.int .i64) (ahe hok).symm,rfl⟩))))
end
section
open Go.RowKit Go.Maps
def Dt (ed:List (Nat×Nat)) (k:Nat):Int:=match ed.lookup k with|some a=>(a:Int)|none=>-1
structure OA (n:Nat) (pl:List Int) (ed:List (Nat×Nat)):Prop where
 len:pl.length=n
 at_:∀k,k<n->pl.getD k 0=Dt ed k
theorem BL {w:List Int} {j:Nat} (hj:j<w.length):(j4 w)[j]?=some (.int .i64 (w.getD j 0)):=by
 grind [j4,getD_some]
theorem EQ (pl:List Int) (k:Nat) (x:Int):(j4 pl).set k (.int .i64 x)=j4 (pl.set k x):=by
 unfold j4
 rw [List.map_set]
theorem OB {pl:List Int} {k j:Nat} {x:Int} (hk:k<pl.length):(pl.set k x).getD j 0=if j=k then x else pl.getD j 0:=by
 grind
theorem OA.put {n:Nat} {pl:List Int} {ed:List (Nat×Nat)} (h:OA n pl ed) {k a:Nat} (hk:k<n):OA n (pl.set k (a:Int)) ((k,a)::ed):=by
 refine⟨by rw [ahp];exact h.len,λj hj=>?_⟩
 rw [OB (by rw [h.len];exact hk)]
 unfold Dt
 rw [List.lookup_cons]
 by_cases e:j=k
 ·subst e;simp
 have:(j == k)=false:=by simp [e]
 rw [ahe e,this,h.at_ j hj]
 rfl
theorem BM {ed:List (Nat×Nat)} {k:Nat}:Dt ed k<0↔k∉ed.map Prod.fst:=by
 grind [Dt]
theorem ab5 {ns:List aO} {ed:List (Nat×Nat)} {k:Nat} (hr:dH ns) (hk:k<ns.length) (hp:∀p,p∈ed->p.1<ns.length) :
 (Dt ed k<0/\up (ed.map (lu ns)) (nd ns k).id=none)\/∃a:Nat,Dt ed k=(a:Int)/\(k,a)∈ed/\up (ed.map (lu ns)) (nd ns k).id=some (nd ns a).id:=by
 unfold Dt up
 induction ed with
 |nil=>exact .inl ⟨ahd,rfl⟩
 |cons p ed ih=>
   obtain⟨a,b⟩:=p
   rw [ahM,lu,List.lookup_cons,List.lookup_cons]
   by_cases e:k=a
   ·grind
   have h1:(k == a)=false:=by simp [e]
   have h2:((nd ns k).id == (nd ns a).id)=false:=by
    simp
    exact λh=>e (hr.inj hk (hp (a,b) (ahr ..)) h)
   grind
theorem Way.back {ps:List (Int×Int)} {z0:Int} {w:List Int} (h:Way ps z0 w z0) (hl:0<w.length):¬Ends ps z0:=λ⟨k,hk⟩=>by
 obtain⟨j,hj,h2⟩:=h.long hk
 have:=ou.uniq hk h2
 omega
theorem OC:∀(n:Nat) (l:List Nat),l.Nodup->(∀x,x∈l->x<n)->l.length<=n
 |0,[],_,_=>aho _
 |0,a::l,_,h=>ahh (h a (ahr ..)) (ahm a)
 |n+1,l,hn,h=>by
   have h1:=OC n (l.erase n) (hn.erase n) (λx hx=>by
    have h2:=(List.Nodup.mem_erase_iff hn).1 hx
    have:=h x h2.2
    omega)
   by_cases hm:n∈l
   ·have:=List.length_erase_of_mem hm
    omega
   rw [List.erase_of_not_mem hm] at h1
   omega
theorem VN {ns:List aO} {ed:List (Nat×Nat)} (hp:∀p,p∈ed->p.1<ns.length) (h:∀i,i<ns.length->Ends (ed.map (lu ns)) (nd ns i).id):CK (ed.map (lu ns)):=by
 intro z
 cases hu:up (ed.map (lu ns)) z with
 |none=>exact⟨0,hu⟩
 |some y=>
   have:∃p,p∈ed/\z=(nd ns p.1).id:=by
    unfold up at hu
    clear h
    induction ed with
    |nil=>cases hu
    |cons p ed ih=>
      grind [lu,nd]
   obtain⟨p,h1,rfl⟩:=this
   exact h p.1 (hp p h1)
theorem OD {ns:List aO} {ed:List (Nat×Nat)} {pl:List Int} {z:Int} {b m:Nat} {w:List Int} (hr:dH ns) (hp:∀p,p∈ed->p.1<ns.length/\p.2<ns.length) (hpar:OA ns.length pl ed) (hb:b<ns.length) (hw:Way (ed.map (lu ns)) z w (nd ns b).id) (hm:w.length=m) :
 (pl.getD b 0<0/\Ends (ed.map (lu ns)) z)\/∃q:Nat,pl.getD b 0=(q:Int)/\q<ns.length/\Way (ed.map (lu ns)) z (w++[(nd ns b).id]) (nd ns q).id/\(w++[(nd ns b).id]).length=m+1:=by
 rw [hpar.at_ b hb]
 rcases ab5 hr hb (λp h=>(hp p h).1) with ⟨h1,h2⟩|⟨a,h1,h2,h3⟩
 ·exact .inl ⟨h1,(hw.ends ⟨0,h2⟩).1⟩
 exact .inr ⟨a,h1,(hp _ h2).2,hw.snoc h3,by simp;omega⟩
theorem Du {ns:List aO} {i j:Nat} (h1:0<=gJ ns (bU ns i j).id) (h2:cA (bU ns i j).name) (h3:0<j->¬jA (bU ns i j).name (bU ns i (j-1)).name):xq ns i j:=by
 refine⟨h1,h2,?_⟩
 cases j with
 |zero=>
   intro h
   have:=Qy.1 h
   have h4:=h2.1
   rw [this] at h4
   exact ahh h4 (by decide)
 |succ j=>exact h3 (Nat.succ_pos j)
theorem TA {ns:List aO} {k:Nat} (h:0<k):q6 ns k=(nd ns (k-1)).id:=by
 cases k with
 |zero=>omega
 |succ k=>rfl
theorem OE {ns:List aO} {i j:Nat} (h:0<j):Al ns i j=(bU ns i (j-1)).name:=by
 cases j with
 |zero=>omega
 |succ j=>rfl
theorem cG.few {ns:List aO} (h:cG ns):((jo ns ns.length).map (lu ns)).length<=ns.length:=by
 rw [ahz]
 have h1:=AF (ns:=ns) (aho _) h.ah
 have h2:=OC ns.length ((jo ns ns.length).map Prod.fst) h.nodup (λx hx=>by
  obtain⟨p,hp,rfl⟩:=ahx.1 hx
  exact (h1 p hp).1)
 rwa [ahz] at h2
end
end Go.Proofs.YtbnfiigafobejaaGreat
