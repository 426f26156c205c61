/-
  PROVED HERE: lemmas and contracts of functions (texts of this repo, joined; what the claim does not use is left out): Base, Sep, V, Vr, Vo, Vj, Vk, Vc, Vd, Vm, Va, Vb, Ve, Vt, Vi, Vw, Vy, Vz, Fam, Ld, Mn, Vq, Vg, Vn, Mq, Row, G, GO, GL, GT, GCopy, Shelf, GC, GM, Vs, GS.
  CONDITIONS: as the theorems say.
-/
import Derived.Test.YtjpdcppdoonmdaaProg
import Derived.WalkKit
import Derived.ChangeSame
import Derived.Lib.Hide
import Derived.Maps.OwnSet
import Derived.Maps.OwnOps
import Derived.Deep.Draws
import Derived.WalkSmall
import Derived.Deep.Quiet
import Derived.Deep.LoopGhost
import Derived.KernelRfl
import Derived.Laws.StructEq
import Derived.Maps.AppendAt
import Derived.Deep.Upon
import Derived.StillTail
import Derived.Maps.RangeWalk
import Derived.Laws.RangeAny
import Derived.Laws.OwnMore
import Derived.Lib.Bytealg
import Derived.OrdersHeld
import Derived.Test.YtjpdcppdoonmdaaRows
import Derived.ProofKit
import Derived.OpenShut
import Derived.Carry
import Derived.Deep.Slices
import Derived.Shelf.Small.Utf8
import Derived.Shelf.Small.Bits
import Derived.Shelf.Small.Strs
import Derived.Shelf.Strconv.Itoa0
import Derived.Shelf.Strings.Search1
import Derived.Shelf.Strings.LastIndex
import Derived.Shelf.Strings.Runes
import Derived.Shelf.Strings.IndexAny
import Derived.Shelf.Strings.AsciiSet
import Derived.Shelf.Strings.IndexAnyAll
import Derived.Ground.Names2Prog
import Derived.Shelf.Slices.SearchI
import Derived.Ground.SlgmProg
import Derived.Shelf.SortM.Plain
import Derived.Shelf.SortM.SortNone
import Derived.Lib.IndexLaws
import Derived.Scope
import Derived.Lib.DecodeN
import Derived.Lib.SpaceUEq
import Derived.Lib.QuoteLoop
set_option maxRecDepth 100000
set_option maxHeartbeats 4000000
namespace Go.Proofs.Ytjpdcppdoonmdaa
section
open Go.RowKit Go.WideShapes Go.ChangeShapes
section post
variable {H:Type} {enc:TypeId×Value->H} {P:Program}
theorem tJ {f:Func} {s:ChangeSpec} {apart fresh handsOn again:Bool} {W W':World} {args:Array Value} {v:Value} {ds gs:List (DataW H)} {before pa pv:List MemPlace}
 (hW:DataW.Whole enc P f.params.toList s.vars apart W args.toList ds gs before)
 (hres:∀(b:Nat) (sp:Nat->Bool) (hd:Bool),DataW.TrodAll enc P W' b sp hd f.resultTypes.toList (v.resultList f.resultTypes.size) (s.fn H (ds++gs)).results [])
 (hargs:∀sp:Nat->Bool,(∀p∈before,sp p.block=true)->DataW.TrodAll enc P W' 0 sp true f.params.toList args.toList (s.fn H (ds++gs)).args pa)
 (hvars:∀sp:Nat->Bool,(∀p∈before,sp p.block=true)->DataW.TrodVars enc P W' sp s.vars (s.fn H (ds++gs)).vars pv)
 (hps:before=pa++pv) (hb:Below W.heap.size W W')
 (hok:∀(j:Nat) (t:TypeId) (r:Value),f.resultTypes[j]?=some t->(v.resultList f.resultTypes.size)[j]?=some r->Value.okWide P W' .any 0 t r) :
 s.post enc P f apart fresh handsOn again W args v W':=by
 have hlt:∀p∈before,p.block<W.heap.size:=λp hp=>hW.lt p hp
 have hold:∀p∈before,(λb=>decide (b<W.heap.size)) p.block=true:=by grind
 refine⟨ds,gs,before,[],pa,pv,hW,hres _ _ _,hargs _ hold,hvars _ hold,World.keptBut_mono (λp hp=>⟨hp,?_⟩) (hb.frame (·∈before)),λ_=>?_⟩
 ·rw [hps,List.mem_append] at hp
  exact Or.inr hp
 obtain⟨_,_,_,_,_,hz,hn⟩:=hW
 refine⟨hok,_,_,([]++pa)++pv,⟨[]++pa,pv,trodAll_append (hargs _ (λ_ _=>rfl)) (hres _ _ _),hvars _ (λ_ _=>rfl),rfl,?_,?_⟩,?_⟩
 ·intro b off hp
  have hin:MemPlace.cell b off∈before:=by rw [hps];simpa using hp
  rw [hb.frozen (hlt _ hin)]
  exact hz b off hin
 all_goals grind
end post
structure Keeps (S:Nat->Prop) (w w':World):Prop where
 os:w'.os=w.os
 tape:w'.tape=w.tape
 output:w'.output=w.output
 size:w.heap.size<=w'.heap.size
 block:∀k,k<w.heap.size->¬S k->w'.heap[k]?=w.heap[k]?
section keeps
variable {S S':Nat->Prop} {a w w':World}
theorem Keeps.refl (S:Nat->Prop) (w:World):Keeps S w w:=⟨rfl,rfl,rfl,Nat.le_refl _,λ_ _ _=>rfl⟩
theorem Keeps.mono (h:Keeps S a w) (hs:∀k,k<a.heap.size->S k->S' k):Keeps S' a w:=
 ⟨h.os,h.tape,h.output,h.size,λi hi hn=>h.block i hi (λhk=>hn (hs i hi hk))⟩
theorem Keeps.drewN (h:Keeps S a w) (n:Nat):Keeps S a (w.drewN n):=⟨h.os,h.tape,h.output,h.size,h.block⟩
theorem Keeps.alloc (h:Keeps S a w) (o:Obj):Keeps S a (w.alloc o):=
 ⟨h.os,h.tape,h.output,Nat.le_trans h.size (by simp),λi hi hn=>(Below.heap_alloc w o i (Nat.lt_of_lt_of_le hi h.size)).trans (h.block i hi hn)⟩
theorem Keeps.setCell (h:Keeps S a w) {p:Addr} (hp:a.heap.size<=p.block\/S p.block) (u:Value):Keeps S a (w.setCell p u):=
 ⟨h.os,h.tape,h.output,by simpa [World.setCell] using h.size,λi hi hn=>(Below.heap_setCell w p u i (by
  rintro rfl
  rcases hp with hp|hp
  ·omega
  exact hn hp)).trans (h.block i hi hn)⟩
theorem Keeps.grown {row:Option Nat} (h:Keeps S a w) (hg:w.grownBy w' row) (hr:∀k,row=some k->a.heap.size<=k\/S k):Keeps S a w':=
 ⟨hg.os.trans h.os,hg.tape.trans h.tape,hg.output.trans h.output,Nat.le_trans h.size hg.size,λi hi hn=>
  (hg.block i (Nat.lt_of_lt_of_le hi h.size) (λe=>by
   rcases hr i e.symm with h1|h1
   ·omega
   exact hn h1)).trans (h.block i hi hn)⟩
theorem Keeps.ownsRow (h:Keeps S w w') {base:Nat} {e:TypeId} {size:Nat} {v:Value} {n:Nat} {xs:List Value} (ho:w.ownsRow base e size v n xs) (hn:∀k,v.ownBlock=some k->¬S k):w'.ownsRow base e size v n xs:=by
 have hl:=ho.lt
 obtain⟨h1,h2⟩:=ho
 refine⟨h1,?_⟩
 rcases h2 with h2|⟨g,cap,cur,hv,hg,hh,r⟩
 ·exact Or.inl h2
 have e:v.ownBlock=some g:=by rw [hv];rfl
 exact Or.inr ⟨g,cap,cur,hv,hg,(h.block g (hl g e).2 (hn g e)).trans hh,r⟩
theorem Keeps.ownsMap {H:Type} (h:Keeps S w w') {P:Program} {k:TypeId} {R:Value->Option (DataW H×List MemPlace)} {b n:Nat} {D:DataW H} (ho:w.ownsMap P k R b n D) (hn:¬S b):w'.ownsMap P k R b n D:=by
 have hlt:=ho.lt
 obtain⟨es,clock,hb,r⟩:=ho
 exact⟨es,clock,(h.block b hlt hn).trans hb,r⟩
end keeps
def nA (v:Value):Option (DataW Value×List MemPlace):=some (.held v,[])
def fk (P:Program) (K:TypeId) (w:World) (b:Nat) (f:Lit->Option Value) (n:Nat):Prop:=
 ∃D:DataW Value,w.ownsMap P K nA b n D/\Maps.size D=n/\(∀kl,Maps.has D kl=(f kl).isSome)/\∀kl v,f kl=some v->∀z,D.atKey kl z=.held v
def mI (f:Lit->Option Value) (kl:Lit) (v:Option Value):Lit->Option Value:=λx=>if x.sameKey kl then v else f x
section maps
open Go.Maps
variable {P:Program} {K E t:TypeId} {w w':World} {b n:Nat} {f:Lit->Option Value}
theorem fk.made (w:World) (P:Program) (K:TypeId):fk P K (w.alloc (.map #[] 0)) w.heap.size (λ_=>none) 0:=
 ⟨.map [],World.ownsMap_made _ _ _ _,rfl,λ_=>rfl,λ_ _ h=>by cases h⟩
theorem fk.lt (h:fk P K w b f n):b<w.heap.size:=let ⟨_,h1,_⟩:=h;h1.lt
theorem fk.keeps {S:Nat->Prop} (h:fk P K w b f n) (k:Keeps S w w') (hn:¬S b):fk P K w' b f n:=by
 obtain⟨D,h1,h2⟩:=h
 exact⟨D,k.ownsMap h1 hn,h2⟩
theorem fk.len (h:fk P K w b f n) (ht:P.underlying t=some (.map K E)) (ty:TypeId):(Builtin.len_ #[t] ty #[.map (some b)]).run P w=.ok (.int .i64 n) w:=by
 obtain⟨D,h1,h2,_⟩:=h
 rw [h1.len ht ty,h2]
theorem fk.look_ok (h:fk P K w b f n) (L:Keyed P K) (ht:P.underlying t=some (.map K E)) {z:Value} (hz:(zeroValue E).run P w=.ok z w) {key:Value} {kl:Lit} (hkey:keyOf P K key=some kl) :
 (Instr.lookup t (.map (some b)) key true).run P w=.ok (.tuple #[(f kl).getD z,.bool (f kl).isSome]) w:=by
 obtain⟨D,h1,_,h3,h4⟩:=h
 obtain⟨v,ps,hrun,hv⟩:=h1.look_ok L ht hz (R:=nA) (zd:=.held z) (zp:=[]) rfl hkey
 rw [hrun,h3 kl]
 simp only [nA,Option.some.injEq,Prod.mk.injEq] at hv
 cases hf:f kl with
 |none=>
   have hn:Maps.has D kl=false:=by rw [h3 kl,hf];rfl
   rw [atKey_of_not_has hn] at hv
   have e:v=z:=by simpa using hv.1
   simp [e]
 |some u=>
   grind
theorem fk.look (h:fk P K w b f n) (L:Keyed P K) (ht:P.underlying t=some (.map K E)) {z:Value} (hz:(zeroValue E).run P w=.ok z w) {key:Value} {kl:Lit} (hkey:keyOf P K key=some kl) :
 (Instr.lookup t (.map (some b)) key false).run P w=.ok ((f kl).getD z) w:=by
 obtain⟨D,h1,_,h3,h4⟩:=h
 obtain⟨v,ps,hrun,hv⟩:=h1.lookup L ht hz (R:=nA) (zd:=.held z) (zp:=[]) rfl hkey
 rw [hrun]
 simp only [nA,Option.some.injEq,Prod.mk.injEq] at hv
 cases hf:f kl with
 |none=>
   have hn:Maps.has D kl=false:=by rw [h3 kl,hf];rfl
   rw [atKey_of_not_has hn] at hv
   have e:v=z:=by simpa using hv.1
   simp [e]
 |some u=>
   grind
theorem xV {key:Value} {kl:Lit} (L:Keyed P K) (hkey:keyOf P K key=some kl):WideAt.IsKeyLit kl:=L.key hkey
theorem fk.store (h:fk P K w b f n) (L:Keyed P K) (ht:P.underlying t=some (.map K E)) (hn:n<maxLen) {key:Value} {kl:Lit} (hkey:keyOf P K key=some kl) (v:Value) :
 ∃w',(Instr.mapUpdate t (.map (some b)) key v).run P w=.ok () w'/\fk P K w' b (mI f kl (some v)) (if (f kl).isSome then n else n+1)/\Keeps (·=b) w w':=by
 obtain⟨D,h1,h2,h3,h4⟩:=h
 obtain⟨w',hrun,hown,hg⟩:=h1.update L ht hn hkey (val:=v) (d:=.held v) (ps:=[]) rfl
 have hkl:=xV L hkey
 have hsz:Maps.size (D.put kl (.held v))=if (f kl).isSome then n else n+1:=by
  rw [size_put (h1.tidy L),h2,h3 kl]
 refine⟨w',hrun,⟨D.put kl (.held v),?_,hsz,λx=>?_,λx u hx z=>?_⟩,(Keeps.refl _ _).grown hg (λk hk=>.inr (by cases hk;rfl))⟩
 ·obtain⟨es,clock,hb,F,hs,rD⟩:=hown
  exact⟨es,clock,hb,F,by rw [←hsz,rD];simp [Maps.size,length_sorted],rD⟩
 ·unfold mI
  by_cases e:x=kl
  ·subst e
   rw [has_put_same h1.isMap hkl]
   have:x.sameKey x=true:=WideAt.sameKey_self hkl
   simp [this]
  rw [has_put_other e,h3 x,sameKey_ne e]
  simp
 unfold mI at hx
 by_cases e:x=kl
 ·subst e
  rw [if_pos (WideAt.sameKey_self hkl)] at hx
  injection hx with hx
  rw [atKey_put_same h1.isMap hkl,hx]
 rw [sameKey_ne e] at hx
 simp only [Bool.false_eq_true,if_false] at hx
 rw [atKey_put_other e]
 exact h4 x u hx z
end maps
end
section
open Go.RowKit
abbrev Fp:=Nat->Prop
structure dh where
 h:Fp->World->Prop
 lt:∀{F w},h F w->∀k,F k->k<w.heap.size
 st:∀{F w},h F w->∀{S:Nat->Prop} {w':World},Keeps S w w'->(∀k,F k->¬S k)->h F w'
structure Step (F:Fp) (w:World) (F':Fp) (w':World):Prop where
 keeps:Keeps F w w'
 grow:∀k,F' k->F k\/w.heap.size<=k
def Apart (F G:Fp):Prop:=∀k,F k->¬G k
theorem Step.refl (F:Fp) (w:World):Step F w F w:=⟨Keeps.refl _ _,λ_ h=>.inl h⟩
theorem dh.frame {A:dh} {F G F':Fp} {w w':World} (hA:A.h G w) (hs:Step F w F' w') (hd:Apart G F):A.h G w'/\Apart G F':=by
 refine⟨A.st hA hs.keeps hd,λk hg hf=>?_⟩
 rcases hs.grow k hf with e|e
 ·exact hd k hg e
 have:=A.lt hA k hg;omega
structure ER (B:Nat) (A1 A2 A3 A4:dh) (w0 w:World):Prop where
 ex:∃F1 F2 F3 F4,A1.h F1 w/\A2.h F2 w/\A3.h F3 w/\A4.h F4 w/\Apart F1 F2/\Apart F1 F3/\Apart F1 F4/\Apart F2 F3/\Apart F2 F4/\Apart F3 F4 ∧
  (∀k,F1 k->B<=k)/\(∀k,F2 k->B<=k)/\(∀k,F3 k->B<=k)/\(∀k,F4 k->B<=k)
 below:Below B w0 w
 size:B<=w.heap.size
section sep
variable {B:Nat} {A1 A2 A3 A4 E4 E5 E6 E7:dh} {w0 w w':World}
end sep
end
section
open Go.RowKit
structure Bs where
 O:Nat->Prop
 w0:World
structure Bs.ok (β:Bs) (w:World):Prop where
 os:w.os=β.w0.os
 tape:w.tape=β.w0.tape
 output:w.output=β.w0.output
 size:β.w0.heap.size<=w.heap.size
 old:∀k,β.O k->k<β.w0.heap.size/\w.heap[k]?=β.w0.heap[k]?
theorem Bs.ok.keeps {β:Bs} {S:Nat->Prop} {w w':World} (h:β.ok w) (k:Keeps S w w') (hs:∀i,β.O i->¬S i):β.ok w':=
 ⟨k.os.trans h.os,k.tape.trans h.tape,k.output.trans h.output,Nat.le_trans h.size k.size,λi hi=>⟨(h.old i hi).1,(k.block i (Nat.lt_of_lt_of_le (h.old i hi).1 h.size) (hs i hi)).trans (h.old i hi).2⟩⟩
theorem Bs.ok.cell {β:Bs} {w:World} (h:β.ok w) {a:Addr} {v:Value} (ho:β.O a.block/\β.w0.cell? a=some v):w.cell? a=some v:=
 (World.cell?_of_block (w:=β.w0) (h.old a.block ho.1).2).trans ho.2
inductive HP
 |blk (b:Nat) (cs:List Value) (T:TypeId)
 |abs (A:dh)
def HP.h:HP->Fp->World->Prop
 |.blk b cs T,F,w=>w.heap[b]?=some (.cells ⟨cs⟩ T (0,0))/\∀k,F k↔k=b
 |.abs A,F,w=>A.h F w
theorem lt_of_some {α:Type} {xs:Array α} {i:Nat} {x:α} (h:xs[i]?=some x):i<xs.size:=by
 grind
theorem HP.lt {p:HP} {F:Fp} {w:World} (h:p.h F w) (k:Nat) (hk:F k):k<w.heap.size:=by
 cases p with
 |blk b cs T=>obtain⟨h1,h2⟩:=h;rw [(h2 k).1 hk];exact lt_of_some h1
 |abs A=>exact A.lt h k hk
theorem HP.st {p:HP} {F:Fp} {w w':World} {S:Nat->Prop} (h:p.h F w) (k:Keeps S w w') (hn:∀i,F i->¬S i):p.h F w':=by
 cases p with
 |blk b cs T=>obtain⟨h1,h2⟩:=h;exact⟨(k.block b (lt_of_some h1) (hn b ((h2 b).2 rfl))).trans h1,h2⟩
 |abs A=>exact A.st h k hn
def Sat (β:Bs) (l:List HP) (w:World):Prop:=
 β.ok w/\∃φ:Nat->Fp,(∀(i:Nat) (p:HP),l[i]?=some p->p.h (φ i) w)/\(∀i,i<l.length->∀k,φ i k->¬β.O k)/\∀i j,i<l.length->j<l.length->i≠j->Apart (φ i) (φ j)
section sat
variable {β:Bs} {l l':List HP} {w w':World} {p p':HP} {i:Nat}
theorem bZ {α:Type} {xs:List α} {i:Nat} {x:α} (h:xs[i]?=some x):i<xs.length:=by
 grind
theorem fY {α:Type} {xs:List α} {i:Nat} (h:i<xs.length):∃x,xs[i]?=some x:=⟨xs[i],List.getElem?_eq_getElem h⟩
theorem Sat.quiet (h:Sat β l w) (k:Keeps (λ_=>False) w w'):Sat β l w':=by
 obtain⟨ho,φ,h1,h2,h3⟩:=h
 exact⟨ho.keeps k (λ_ _ h=>h),φ,λi p hp=>HP.st (h1 i p hp) k (λ_ _ h=>h),h2,h3⟩
theorem Sat.drewN (h:Sat β l w) (n:Nat):Sat β l (w.drewN n):=h.quiet ((Keeps.refl _ _).drewN n)
theorem Sat.get (h:Sat β l w) (hp:l[i]?=some p):∃F,p.h F w:=by
 obtain⟨_,φ,h1,_⟩:=h
 exact⟨φ i,h1 i p hp⟩
theorem Sat.set (h:Sat β l w) (hp:l[i]?=some p) (hs:∀F,p.h F w->∃F',p'.h F' w'/\Step F w F' w'):Sat β (l.set i p') w':=by
 obtain⟨ho,φ,h1,h2,h3⟩:=h
 obtain⟨F',hF',st⟩:=hs _ (h1 i p hp)
 have hi:=bZ hp
 have hlt:∀j,j<l.length->∀k,φ j k->k<w.heap.size:=λj hj k hk=>by
  obtain⟨q,hq⟩:=fY hj
  exact HP.lt (h1 j q hq) k hk
 have hap:∀j,j<l.length->j≠i->∀k,F' k->φ j k->False:=λj hj hne k hk hk'=>by
  rcases st.grow k hk with e|e
  ·exact h3 i j hi hj (λe=>hne e.symm) k e hk'
  have:=hlt j hj k hk';omega
 refine⟨ho.keeps st.keeps (λk hk hk'=>h2 i hi k hk' hk),λj=>if j=i then F' else φ j,λj q hq=>?_,λj hj k hk hO=>?_,λj1 j2 iJ hj2 hne k hk hk'=>?_⟩
 ·by_cases e:j=i
  ·grind
  rw [List.getElem?_set_ne (λe'=>e e'.symm)] at hq
  simp only [e,if_false]
  exact HP.st (h1 j q hq) st.keeps (λk hk hk'=>h3 i j hi (bZ hq) (λe'=>e e'.symm) k hk' hk)
 ·rw [List.length_set] at hj
  by_cases e:j=i
  ·subst e
   simp only [if_true] at hk
   rcases st.grow k hk with e|e
   ·exact h2 j hi k e hO
   have:=(ho.old k hO).1;have:=ho.size;omega
  grind
 rw [List.length_set] at iJ hj2
 by_cases e1:j1=i
 ·grind
 simp only [e1,if_false] at hk
 by_cases e2:j2=i
 ·grind
 simp only [e2,if_false] at hk'
 exact h3 j1 j2 iJ hj2 hne k hk hk'
theorem Sat.new {F:Fp} (h:Sat β l w) (hF:p.h F w') (k:Keeps (λ_=>False) w w') (hn:∀k,F k->w.heap.size<=k):Sat β (l++[p]) w':=by
 obtain⟨ho,φ,h1,h2,h3⟩:=h
 have hlt:∀j,j<l.length->∀k,φ j k->k<w.heap.size:=λj hj k hk=>by
  obtain⟨q,hq⟩:=fY hj
  exact HP.lt (h1 j q hq) k hk
 refine⟨ho.keeps k (λ_ _ h=>h),λj=>if j=l.length then F else φ j,λj q hq=>?_,λj hj k hk hO=>?_,λj1 j2 iJ hj2 hne k hk hk'=>?_⟩
 ·grind [bZ,HP.st]
 ·by_cases e:j=l.length
  ·simp only [e,if_true] at hk
   have:=(ho.old k hO).1;have:=ho.size;have:=hn k hk;omega
  grind
 simp at iJ hj2
 by_cases e1:j1=l.length
 ·grind
 simp only [e1,if_false] at hk
 by_cases e2:j2=l.length
 ·grind
 simp only [e2,if_false] at hk'
 exact h3 j1 j2 (by omega) (by omega) hne k hk hk'
def dR (l:List HP):List Nat->Option (List HP)
 |[]=>some []
 |i::r=>match l[i]? with
   |some p=>match dR l r with
     |some q=>some (p::q)
     |none=>none
   |none=>none
def dG:List Nat->Bool
 |[]=>true
 |i::r=>!(r.contains i) && dG r
theorem pq:∀{idx:List Nat},dG idx=true->idx.Nodup
 |[],_=>List.nodup_nil
 |i::r,h=>by
   simp only [dG,Bool.and_eq_true,Bool.not_eq_true',List.contains_eq_mem,decide_eq_false_iff_not] at h
   exact List.nodup_cons.2 ⟨h.1,pq h.2⟩
theorem qz:∀{idx:List Nat} {l':List HP},dR l idx=some l'->l'.length=idx.length/\∀(j:Nat) (p:HP),l'[j]?=some p->∃i:Nat,idx[j]?=some i/\l[i]?=some p
 |[],l',h=>by cases h;grind
 |i::r,l',h=>by
   unfold dR at h
   split at h
   ·rename_i q hq
    split at h
    ·rename_i q' hq'
     cases h
     obtain⟨h1,h2⟩:=qz hq'
     refine⟨by simp [h1],λj p hp=>?_⟩
     cases j with
     |zero=>simp at hp;subst hp;exact⟨i,rfl,hq⟩
     |succ j=>simpa using h2 j p (by simpa using hp)
    cases h
   cases h
theorem Sat.pick {idx:List Nat} (h:Sat β l w) (hn:dG idx=true) (hp:dR l idx=some l'):Sat β l' w:=by
 obtain⟨ho,φ,h1,h2,h3⟩:=h
 obtain⟨hl,hi⟩:=qz hp
 have hnd:=pq hn
 have key:∀j,j<l'.length->idx.getD j 0<l.length:=λj hj=>by
  obtain⟨p,hp⟩:=fY hj
  grind
 refine⟨ho,λj=>φ (idx.getD j 0),λj p hp=>?_,λj hj=>h2 _ (key j hj),λj1 j2 iJ hj2 hne=>h3 _ _ (key j1 iJ) (key j2 hj2) (λe=>hne ?_)⟩
 ·grind
 rw [hl] at iJ hj2
 rw [List.getD_eq_getElem?_getD,List.getD_eq_getElem?_getD,List.getElem?_eq_getElem iJ,List.getElem?_eq_getElem hj2] at e
 have hp:=List.pairwise_iff_getElem.1 hnd
 grind
end sat
abbrev Fr:=List (Nat×Value)
def lk:Fr->(Nat->Value)->Nat->Value
 |[],j,t=>j t
 |(i,v)::r,j,t=>match Nat.beq i t with
   |true=>v
   |false=>lk r j t
structure dK where
 n:Nat
 ds:List Deferred
def dV (N:dK) (fr:Fr) (junk:Nat->Value):Act:=⟨((List.range N.n).map (lk fr junk)).toArray,N.ds⟩
def dI (N:dK) (fr:Fr) (junk:Nat->Value):Operand->Value
 |.tmp t=>match Nat.blt t N.n with
   |true=>lk fr junk t
   |false=>undef
 |.const v=>v
 |.global g=>.pointer (some ⟨g,0,none⟩)
 |.func f=>.func (.func f) #[] #[]
theorem rN (N:dK) (fr:Fr) (junk:Nat->Value) (t:Nat):(dV N fr junk).tmps[t]?=if t<N.n then some (lk fr junk t) else none:=by
 grind [dV]
theorem fq (N:dK) (fr:Fr) (junk:Nat->Value):(dV N fr junk).eval=dI N fr junk:=by
 funext x
 cases x with
 |tmp t=>
   simp only [Act.eval,dI,Array.getD_eq_getD_getElem?,rN]
   by_cases h:t<N.n
   ·have:Nat.blt t N.n=true:=by simpa [Nat.blt_eq] using h
    simp [h,this]
   have:Nat.blt t N.n=false:=by
    cases hb:Nat.blt t N.n
    ·rfl
    exact absurd (by simpa [Nat.blt_eq] using hb) h
   simp [h,this]
 |const v=>rfl
 |global g=>rfl
 |func f=>rfl
def dF (fr:Fr) (d:Option Tmp) (v:Value):Fr:=match d with
 |some d=>(d,v)::fr
 |none=>fr
theorem oQ (i:Nat) (v:Value) (fr:Fr) (junk:Nat->Value) (t:Nat):lk ((i,v)::fr) junk t=if i=t then v else lk fr junk t:=by
 simp only [lk]
 by_cases h:i=t
 ·subst h;simp [Nat.beq_refl]
 have:Nat.beq i t=false:=by
  cases hb:Nat.beq i t
  ·rfl
  exact absurd (Nat.eq_of_beq_eq_true hb) h
 simp [h,this]
theorem eX (N:dK) (fr:Fr) (junk:Nat->Value) (d:Option Tmp) (v:Value):(dV N fr junk).put d v=dV N (dF fr d v) junk:=by
 cases d with
 |none=>rfl
 |some d=>
   unfold Act.put
   have hd:(dV N fr junk).defers=(dV N (dF fr (some d) v) junk).defers:=rfl
   have ht:(dV N fr junk).tmps.setIfInBounds d v=(dV N (dF fr (some d) v) junk).tmps:=by
    grind [rN,dV,dF,oQ]
   show Act.mk _ _=_
   rw [ht]
   rfl
def yF (ops:Array Oper) (N:dK) (fr:Fr) (junk:Nat->Value) (j:Nat):Option Bool:=
 match ops.toList[j]? with
 |some o=>match o.dst with
   |some d=>match Nat.blt d N.n with
     |true=>match lk fr junk d with
       |.bool b=>some b
       |_=>none
     |false=>none
   |none=>none
 |none=>none
theorem tP (ops:Array Oper) (N:dK) (fr:Fr) (junk:Nat->Value) (j:Nat):yielded ops (dV N fr junk).tmps j=yF ops N fr junk j:=by
 unfold yielded yF
 rw [Array.getElem?_toList]
 cases ops[j]? with
 |none=>rfl
 |some o=>
   simp only [Option.bind_some]
   cases o.dst with
   |none=>rfl
   |some d=>
     simp only [Option.bind_some,rN]
     by_cases h:d<N.n
     ·have:Nat.blt d N.n=true:=by simpa [Nat.blt_eq] using h
      grind
     have:Nat.blt d N.n=false:=by
      cases hb:Nat.blt d N.n
      ·rfl
      exact absurd (by simpa [Nat.blt_eq] using hb) h
     simp [h,this]
def gS (fr:Fr) (junk:Nat->Value):List Nat->Fr
 |[]=>[]
 |i::r=>(i,lk fr junk i)::gS fr junk r
theorem tU (fr:Fr) (junk:Nat->Value):∀(idx:List Nat) (t:Nat),lk (gS fr junk idx) (lk fr junk) t=lk fr junk t
 |[],_=>rfl
 |i::r,t=>by
   rw [gS,oQ]
   by_cases h:i=t
   ·simp [h]
   simp [h,tU fr junk r t]
theorem gH (N:dK) (fr:Fr) (junk:Nat->Value) (idx:List Nat):dV N fr junk=dV N (gS fr junk idx) (lk fr junk):=by
 unfold dV
 have:(List.range N.n).map (lk fr junk)=(List.range N.n).map (lk (gS fr junk idx) (lk fr junk)):=List.map_congr_left (λt _=>(tU fr junk idx t).symm)
 rw [this]
end
section
open Go.RowKit
inductive Hint
 |at (i:Nat)
 |old (v:Value)
 |view (i:Nat) (v:Value)
structure SS where
 hints:List Hint
 hps:List HP
 ak:List Prop
 used:Bool
def jr:List Prop->Prop
 |[]=>True
 |p::r=>p/\jr r
theorem jr.mem:∀{l:List Prop},jr l->∀{p:Prop},p∈l->p
 |[],_,_,h=>by cases h
 |_::_,h,_,hm=>by
   rcases List.mem_cons.1 hm with e|e
   ·exact e ▸ h.1
   exact h.2.mem e
def bY (P:Program) (β:Bs) (n:Nat) (ro:Bool) {α:Type}:Sem α->SS->Option (α×SS)
 |.pure a,s=>some (a,s)
 |.load _ a k,s=>
   match s.hints with
   |.at i::hs=>
     match s.hps[i]? with
     |some (.blk b cs _)=>
       match a.spot with
       |none=>
         match cs[a.off]? with
         |some v=>bY P β n ro (k v) {s with hints:=hs,ak:=(a.block=b)::s.ak}
         |none=>none
       |some _=>none
     |_=>none
   |.old v::hs=>bY P β n ro (k v) {s with hints:=hs,ak:=(β.O a.block/\β.w0.cell? a=some v)::s.ak}
   |.view i v::hs=>
     match s.hps[i]? with
     |some (.abs A)=>bY P β n ro (k v) {s with hints:=hs,ak:=(∀F w,A.h F w->w.cell? a=some v)::s.ak}
     |_=>none
   |[]=>none
 |.store _ a v k,s=>
   match ro with
   |true=>none
   |false=>
   match v with
   |.agg _=>none
   |.tuple _=>none
   |v=>
     match s.hints with
     |.at i::hs=>
       match s.hps[i]? with
       |some (.blk b cs T)=>
         match a.spot with
         |none=>
           match cs[a.off]? with
           |some _=>bY P β n ro k {s with hints:=hs,hps:=s.hps.set i (.blk b (cs.set a.off v) T),ak:=(a.block=b)::s.ak}
           |none=>none
         |some _=>none
       |_=>none
     |_=>none
 |.new o k,s=>
   match ro,s.used,o with
   |false,false,.cells c T (0,0)=>bY P β n ro (k n) {s with hps:=s.hps++[.blk n c.toList T],used:=true}
   |_,_,_=>none
 |.shape r k,s=>
   match s.hints with
   |.at i::hs=>
     match s.hps[i]? with
     |some (.blk b cs T)=>bY P β n ro (k (some (T,cs.length))) {s with hints:=hs,ak:=(r=b)::s.ak}
     |_=>none
   |_=>none
 |.frozen a k,s=>
   match s.hints with
   |.at i::hs=>
     match s.hps[i]? with
     |some (.blk b _ _)=>bY P β n ro (k false) {s with hints:=hs,ak:=(a.block=b)::s.ak}
     |_=>none
   |_=>none
 |.program k,s=>bY P β n ro (k P) s
 |.mark _ k,s=>bY P β n ro k s
 |.freeze ..,_=>none
 |.getObj ..,_=>none
 |.setObj ..,_=>none
 |.choose ..,_=>none
 |.sys ..,_=>none
 |.halt _,_=>none
section sound
variable {P:Program} {β:Bs} {n:Nat} {ro:Bool}
theorem iV {α:Type}:∀(s:Sem α) (S S':SS) (x:α),bY P β n ro s S=some (x,S')->∀p,p∈S.ak->p∈S'.ak:=by
 intro s
 induction s with
 |pure a=>intro S S' x h p hp;simp only [bY,Option.some.injEq,Prod.mk.injEq] at h;rw [←h.2];exact hp
 |load m a k ih=>intro S S' x h p hp;simp only [bY] at h;(repeat' split at h);all_goals first|(cases h;done)|exact ih _ _ _ _ h p (List.mem_cons_of_mem _ hp)
 |store m a v k ih=>intro S S' x h p hp;simp only [bY] at h;(repeat' split at h);all_goals first|(cases h;done)|exact ih _ _ _ h p (List.mem_cons_of_mem _ hp)
 |new o k ih=>intro S S' x h p hp;simp only [bY] at h;(repeat' split at h);all_goals first|(cases h;done)|exact ih _ _ _ _ h p hp
 |shape r k ih=>intro S S' x h p hp;simp only [bY] at h;(repeat' split at h);all_goals first|(cases h;done)|exact ih _ _ _ _ h p (List.mem_cons_of_mem _ hp)
 |frozen r k ih=>intro S S' x h p hp;simp only [bY] at h;(repeat' split at h);all_goals first|(cases h;done)|exact ih _ _ _ _ h p (List.mem_cons_of_mem _ hp)
 |program k ih=>intro S S' x h p hp;simp only [bY] at h;exact ih _ _ _ _ h p hp
 |mark m k ih=>intro S S' x h p hp;simp only [bY] at h;exact ih _ _ _ h p hp
 |freeze a m k ih=>intro S S' x h;simp only [bY] at h;cases h
 |getObj r k ih=>intro S S' x h;simp only [bY] at h;cases h
 |setObj r o k ih=>intro S S' x h;simp only [bY] at h;cases h
 |choose q k ih=>intro S S' x h;simp only [bY] at h;cases h
 |sys c k ih=>intro S S' x h;simp only [bY] at h;cases h
 |halt e=>intro S S' x h;simp only [bY] at h;cases h
theorem v8 {α:Type}:∀(s:Sem α) (S S':SS) (x:α),bY P β n true s S=some (x,S')->S'.hps=S.hps/\S'.used=S.used:=by
 intro s
 induction s with
 |pure a=>intro S S' x h;simp only [bY,Option.some.injEq,Prod.mk.injEq] at h;rw [←h.2];exact⟨rfl,rfl⟩
 |load m a k ih=>intro S S' x h;simp only [bY] at h;(repeat' split at h);all_goals first|(cases h;done)|(have h':=ih _ _ _ _ h;exact h')
 |store m a v k ih=>intro S S' x h;simp only [bY] at h;cases h
 |new o k ih=>intro S S' x h;simp only [bY] at h;(repeat' split at h);all_goals first|(cases h;done)|contradiction
 |shape r k ih=>intro S S' x h;simp only [bY] at h;(repeat' split at h);all_goals first|(cases h;done)|(have h':=ih _ _ _ _ h;exact h')
 |frozen r k ih=>intro S S' x h;simp only [bY] at h;(repeat' split at h);all_goals first|(cases h;done)|(have h':=ih _ _ _ _ h;exact h')
 |program k ih=>intro S S' x h;simp only [bY] at h;(have h':=ih _ _ _ _ h;exact h')
 |mark m k ih=>intro S S' x h;simp only [bY] at h;exact ih _ _ _ h
 |freeze a m k ih=>intro S S' x h;simp only [bY] at h;cases h
 |getObj r k ih=>intro S S' x h;simp only [bY] at h;cases h
 |setObj r o k ih=>intro S S' x h;simp only [bY] at h;cases h
 |choose q k ih=>intro S S' x h;simp only [bY] at h;cases h
 |sys c k ih=>intro S S' x h;simp only [bY] at h;cases h
 |halt e=>intro S S' x h;simp only [bY] at h;cases h
theorem xW {α:Type}:∀(s:Sem α) (S S':SS) (x:α),bY P β n true s S=some (x,S')->S.hints=[]->S'.ak=S.ak:=by
 intro s
 induction s with
 |pure a=>intro S S' x h;simp only [bY,Option.some.injEq,Prod.mk.injEq] at h;rw [←h.2];exact λ_=>rfl
 |load m a k ih=>intro S S' x h hh;simp only [bY,hh] at h;cases h
 |store m a v k ih=>intro S S' x h;simp only [bY] at h;cases h
 |new o k ih=>intro S S' x h;simp only [bY] at h;(repeat' split at h);all_goals first|(cases h;done)|contradiction
 |shape r k ih=>intro S S' x h hh;simp only [bY,hh] at h;cases h
 |frozen r k ih=>intro S S' x h hh;simp only [bY,hh] at h;cases h
 |program k ih=>intro S S' x h;simp only [bY] at h;exact ih _ _ _ _ h
 |mark m k ih=>intro S S' x h;simp only [bY] at h;exact ih _ _ _ h
 |freeze a m k ih=>intro S S' x h;simp only [bY] at h;cases h
 |getObj r k ih=>intro S S' x h;simp only [bY] at h;cases h
 |setObj r o k ih=>intro S S' x h;simp only [bY] at h;cases h
 |choose q k ih=>intro S S' x h;simp only [bY] at h;cases h
 |sys c k ih=>intro S S' x h;simp only [bY] at h;cases h
 |halt e=>intro S S' x h;simp only [bY] at h;cases h
theorem mq {w:World} {b:Nat} {cs:List Value} {T:TypeId} {a:Addr} {v:Value} (h:w.heap[b]?=some (.cells ⟨cs⟩ T (0,0))) (hs:a.spot=none) (hb:a.block=b) (hv:cs[a.off]?=some v):w.cell? a=some v/\w.frozen? a=false:=by
 subst hb
 refine⟨?_,?_⟩
 ·simp [World.cell?,h,hs,hv]
 simp [World.frozen?,h]
theorem tV {w:World} {b:Nat} {cs:List Value} {T:TypeId} {a:Addr} {v:Value} {F:Fp} (h:(HP.blk b cs T).h F w) (hs:a.spot=none) (hb:a.block=b) :
 ∃F',(HP.blk b (cs.set a.off v) T).h F' (w.setCell a v)/\Step F w F' (w.setCell a v):=by
 obtain⟨h1,h2⟩:=h
 refine⟨F,⟨?_,h2⟩,⟨(Keeps.refl _ _).setCell (.inr ((h2 _).2 hb)) v,λ_ h=>.inl h⟩⟩
 subst hb
 simp [World.setCell,Array.getElem?_modify,h1,hs,Array.setIfInBounds_def]
 exact λh=>(List.set_eq_of_length_le h).symm
theorem tK (w:World) (p:Addr) (v:Value):(w.setCell p v).heap.size=w.heap.size:=by simp [World.setCell]
theorem kB {α:Type}:∀(s:Sem α) (S S':SS) (x:α) (w:World),bY P β n ro s S=some (x,S')->(∀p,p∈S'.ak->p)->Sat β S.hps w->(S.used=false->n=w.heap.size) →
 ∃w',s.run P w=.ok x w'/\Sat β S'.hps w'/\(S'.used=false->n=w'.heap.size)/\(ro=true->w'=w/\S'.hps=S.hps):=by
 intro s
 induction s with
 |pure a=>
   intro S S' x w h _ hS hn
   simp only [bY,Option.some.injEq,Prod.mk.injEq] at h
   obtain⟨rfl,rfl⟩:=h
   exact⟨w,rfl,hS,hn,λ_=>⟨rfl,rfl⟩⟩
 |load m a k ih=>
   intro S S' x w h ho hS hn
   simp only [bY] at h
   repeat' split at h
   all_goals first|(cases h;done)|skip
   ·rename_i hp _ hs _ v hv
    have hb:a.block=_:=ho _ (iV _ _ _ _ h _ List.mem_cons_self)
    obtain⟨F,hF⟩:=hS.get hp
    have hc:=(mq hF.1 hs hb hv).1
    obtain⟨w',h1,h2⟩:=ih _ _ _ _ w h ho hS hn
    exact⟨w',by simp only [Sem.run,hc];exact h1,h2⟩
   ·rename_i v hs hh
    have hc:=hS.1.cell (ho _ (iV _ _ _ _ h _ List.mem_cons_self))
    obtain⟨w',h1,h2⟩:=ih _ _ _ _ w h ho hS hn
    exact⟨w',by simp only [Sem.run,hc];exact h1,h2⟩
   rename_i A hp
   obtain⟨F,hF⟩:=hS.get hp
   have hc:=ho _ (iV _ _ _ _ h _ List.mem_cons_self) F w hF
   obtain⟨w',h1,h2⟩:=ih _ _ _ _ w h ho hS hn
   exact⟨w',by simp only [Sem.run,hc];exact h1,h2⟩
 |store m a v k ih=>
   intro S S' x w h ho hS hn
   simp only [bY] at h
   cases ro with
   |true=>simp at h
   |false=>
   simp only at h
   split at h
   ·cases h
   ·cases h
   rename_i hv1 hv2
   repeat' split at h
   all_goals first|(cases h;done)|skip
   rename_i hp _ hs _ u hu
   have hb:a.block=_:=ho _ (iV _ _ _ _ h _ List.mem_cons_self)
   obtain⟨F,hF⟩:=hS.get hp
   obtain⟨hc,hf⟩:=mq hF.1 hs hb hu
   have fN:=hS.set hp (λF hF=>tV (v:=v) hF hs hb)
   obtain⟨w',h1,h2⟩:=ih _ _ _ (w.setCell a v) h ho fN (λe=>by rw [tK];exact hn e)
   refine⟨w',?_,h2.1,h2.2.1,λe=>by cases e⟩
   rw [←h1]
   cases v<;>first|(simp only [Sem.run,hc,hf];rfl)|exact absurd rfl (hv1 _)|exact absurd rfl (hv2 _)
 |new o k ih=>
   intro S S' x w h ho hS hn
   simp only [bY] at h
   split at h
   ·rename_i c T hu
    have hn':=hn hu
    have fN:Sat β (S.hps++[.blk n c.toList T]) (w.alloc (.cells c T (0,0))):=hS.new (F:=λk=>k=n) ⟨by rw [hn'];exact heap_alloc_new w _,λ_=>Iff.rfl⟩ ((Keeps.refl _ _).alloc _) (λk e=>by rw [e,hn'];exact Nat.le_refl _)
    obtain⟨w',h1,h2⟩:=ih _ _ _ _ (w.alloc (.cells c T (0,0))) h ho fN (λe=>by cases e)
    refine⟨w',?_,h2.1,h2.2.1,λe=>by cases e⟩
    rw [←h1,hn']
    rfl
   cases h
 |shape r k ih=>
   intro S S' x w h ho hS hn
   simp only [bY] at h
   repeat' split at h
   all_goals first|(cases h;done)|skip
   rename_i b cs T hp
   have hb:r=b:=ho _ (iV _ _ _ _ h _ List.mem_cons_self)
   obtain⟨F,hF⟩:=hS.get hp
   have hc:w.shape? r=some (T,cs.length):=by simp [World.shape?,hb,hF.1]
   obtain⟨w',h1,h2⟩:=ih _ _ _ _ w h ho hS hn
   exact⟨w',by simp only [Sem.run,hc];exact h1,h2⟩
 |frozen a k ih=>
   intro S S' x w h ho hS hn
   simp only [bY] at h
   repeat' split at h
   all_goals first|(cases h;done)|skip
   rename_i b cs T hp
   have hb:a.block=b:=ho _ (iV _ _ _ _ h _ List.mem_cons_self)
   obtain⟨F,hF⟩:=hS.get hp
   have hc:w.frozen? a=false:=by simp [World.frozen?,hb,hF.1]
   obtain⟨w',h1,h2⟩:=ih _ _ _ _ w h ho hS hn
   exact⟨w',by simp only [Sem.run,hc];exact h1,h2⟩
 |program k ih=>intro S S' x w h ho hS hn;simp only [bY] at h;exact ih _ _ _ _ w h ho hS hn
 |mark m k ih=>intro S S' x w h ho hS hn;simp only [bY] at h;exact ih _ _ _ w h ho hS hn
 |freeze a m k ih=>intro S S' x w h;simp only [bY] at h;cases h
 |getObj r k ih=>intro S S' x w h;simp only [bY] at h;cases h
 |setObj r o k ih=>intro S S' x w h;simp only [bY] at h;cases h
 |choose q k ih=>intro S S' x w h;simp only [bY] at h;cases h
 |sys c k ih=>intro S S' x w h;simp only [bY] at h;cases h
 |halt e=>intro S S' x w h;simp only [bY] at h;cases h
end sound
end
section
open Go.RowKit
structure OH where
 hs:List Hint:=[]
 num:Option Nat:=none
 DE:Option Nat:=none
 base:Option Addr:=none
 conv:Option Value:=none
def o_:OH:=⟨[],none,none,none,none⟩
def au (A:Option Addr):Nat:=match A with
 |some a=>a.block
 |none=>0
def ar (A:Option Addr):Nat:=match A with
 |some a=>a.off
 |none=>0
def nB (P:Program) (β:Bs) (n:Nat) (ro:Bool) (ev:Operand->Value) (o:Oper) (h:OH) (S:SS):Option (Value×SS):=
 match h.num with
 |none=>
   match bY P β n ro (execOp ev o) {S with hints:=h.hs} with
   |some (.value v,S')=>some (v,S')
   |some (.skip,S')=>some (undef,S')
   |_=>none
 |some m=>
   match o.op with
   |.indexAddr t x ix=>
     match P.underlying t with
     |some (.slice e)=>
       match P.info? e with
       |some i=>
         match ev x with
         |.slice A len _=>
           match ev ix with
           |.int _ z=>
             match h.base with
             |some a=>some (.pointer (some ⟨a.block,a.off+m*i.size,none⟩),{S with ak:=(z=(m:Int))::(m<len)::(a.spot=none)::(A=some a)::S.ak})
             |none=>
               match A with
               |some a=>some (.pointer (some ⟨a.block,a.off+m*i.size,none⟩),{S with ak:=(z=(m:Int))::(m<len)::(a.spot=none)::S.ak})
               |none=>none
           |_=>none
         |_=>none
       |none=>none
     |_=>none
   |.index t x ix=>
     match P.underlying t with
     |some .string=>
       match ev x with
       |.string s=>
         match ev ix with
         |.int _ z=>some (.int .u8 (s.data.getD m 0).toNat,{S with ak:=(z=(m:Int))::(m<s.size)::S.ak})
         |_=>none
       |_=>none
     |_=>none
   |.slice t x lo hi mx=>
     match mx with
     |some _=>none
     |none=>
     match P.underlying t with
     |some .string=>
       match ev x with
       |.string s=>
         match lo,hi with
         |none,some hv=>
           match ev hv with
           |.int _ z=>some (.string (s.extract 0 m),{S with ak:=(z=(m:Int))::(m<=s.size)::S.ak})
           |_=>none
         |some lv,none=>
           match ev lv with
           |.int _ z=>some (.string (s.extract m s.size),{S with ak:=(z=(m:Int))::(m<=s.size)::S.ak})
           |_=>none
         |some lv,some hv=>
           match h.DE with
           |some m2=>
             match ev lv with
             |.int _ y=>
               match ev hv with
               |.int _ z=>some (.string (s.extract m2 m),{S with ak:=(z=(m:Int))::(y=(m2:Int))::(m<=s.size)::(m2<=m)::S.ak})
               |_=>none
             |_=>none
           |none=>none
         |none,none=>none
       |_=>none
     |some (.slice e)=>
       match P.info? e with
       |some i=>
         match ev x with
         |.slice A len cap=>
           match lo,hi with
           |none,some hv=>
             match ev hv with
             |.int _ z=>some (.slice A m cap,{S with ak:=(z=(m:Int))::(m<=cap)::S.ak})
             |_=>none
           |some lv,none=>
             match ev lv with
             |.int _ z=>
               match h.base with
               |some a=>some (.slice (some ⟨a.block,a.off+m*i.size,none⟩) (len-m) (cap-m),{S with ak:=(z=(m:Int))::(m<=len)::(m<cap)::(a.spot=none)::(A=some a)::S.ak})
               |none=>
                 match A with
                 |some a=>some (.slice (some ⟨a.block,a.off+m*i.size,none⟩) (len-m) (cap-m),{S with ak:=(z=(m:Int))::(m<=len)::(m<cap)::(a.spot=none)::S.ak})
                 |none=>none
             |_=>none
           |_,_=>none
         |_=>none
       |none=>none
     |_=>none
   |_=>none
def kN (P:Program) (β:Bs) (n:Nat) (ro:Bool) (ev:Operand->Value) (o:Oper) (h:OH) (S:SS):Option (Value×SS):=
 match nB P β n ro ev o h S with
 |some (v,S')=>
   match h.conv with
   |none=>some (v,S')
   |some v'=>some (v',{S' with ak:=(v=v')::S'.ak})
 |none=>none
def jt (P:Program) (ev:Operand->Value) (o:Oper) (w:World) (v:Value) (w':World):Prop:=
 (execOp ev o).run P w=.ok (.value v) w'\/(v=undef/\(execOp ev o).run P w=.ok .skip w')
theorem je {P:Program} {e:TypeId} {i:TypeInfo} (h:P.info? e=some i) (w:World):(sizeOf e).run P w=.ok i.size w:=by
 have h1:sizeOf e=.program λp=>(match p.info? e with|some i=>Sem.pure i|none=>stuck "no such type").bind λi=>.pure i.size:=rfl
 rw [h1]
 simp only [Sem.run,h]
 rfl
section kN
variable {P:Program} {β:Bs} {n:Nat} {ro:Bool} {ev:Operand->Value} {o:Oper} {h:OH} {S S':SS} {v:Value}
theorem xX (hr:nB P β n ro ev o h S=some (v,S')):∀p,p∈S.ak->p∈S'.ak:=by
 intro p hp
 unfold nB at hr
 repeat' split at hr
 all_goals grind [iV]
theorem pu {w:World} (hr:nB P β n ro ev o h S=some (v,S')) (ho:∀p,p∈S'.ak->p) (hS:Sat β S.hps w) (hn:S.used=false->n=w.heap.size) :
 ∃w',jt P ev o w v w'/\Sat β S'.hps w'/\(S'.used=false->n=w'.heap.size)/\(ro=true->w'=w/\S'.hps=S.hps):=by
 unfold nB at hr
 repeat' split at hr
 all_goals first|(cases hr;done)|skip
 ·rename_i h0;cases hr
  obtain⟨w',h1,h2⟩:=kB _ _ _ _ w h0 ho hS hn
  exact⟨w',.inl h1,h2⟩
 ·rename_i h0;cases hr
  obtain⟨w',h1,h2⟩:=kB _ _ _ _ w h0 ho hS hn
  exact⟨w',.inr ⟨rfl,h1⟩,h2⟩
 ·rename_i m _ _ t x ix hop _ e hu _ i hi _ A len cap hx _ k z iu _ a _
  cases hr
  have e1:z=(m:Int):=ho _ (by simp)
  have e2:m<len:=ho _ (by simp)
  have e3:a.spot=none:=ho _ (by simp)
  have e4:A=some a:=ho _ (by simp)
  subst e4
  refine⟨w,.inl ?_,hS,hn,λ_=>⟨rfl,rfl⟩⟩
  have ea:a.add (m*i.size)=⟨a.block,a.off+m*i.size,none⟩:=by
   unfold Addr.add
   split
   ·rename_i h0;cases a;simp_all
   rfl
  obtain⟨dst,op,type,pos,after,guard⟩:=o
  cases hop
  subst e1
  have h1:(underlying t).run P w=.ok (.slice e) w:=run_underlying hu w
  have h2:(sizeOf e).run P w=.ok i.size w:=je hi w
  simp [execOp,Instr.indexAt,hx,iu,go_sem,h1,h2,e2,ea]
 ·rename_i m _ _ t x ix hop _ e hu _ i hi _ len cap _ k z iu _ _ _ a hx
  cases hr
  have e1:z=(m:Int):=ho _ (by simp)
  have e2:m<len:=ho _ (by simp)
  have e3:a.spot=none:=ho _ (by simp)
  refine⟨w,.inl ?_,hS,hn,λ_=>⟨rfl,rfl⟩⟩
  have ea:a.add (m*i.size)=⟨a.block,a.off+m*i.size,none⟩:=by
   unfold Addr.add
   split
   ·rename_i h0;cases a;simp_all
   rfl
  obtain⟨dst,op,type,pos,after,guard⟩:=o
  cases hop
  subst e1
  have h1:(underlying t).run P w=.ok (.slice e) w:=run_underlying hu w
  have h2:(sizeOf e).run P w=.ok i.size w:=je hi w
  simp [execOp,Instr.indexAt,hx,iu,go_sem,h1,h2,e2,ea]
 ·rename_i m _ _ t x ix hop _ hu _ s hx _ k z iu
  cases hr
  have e1:z=(m:Int):=ho _ (by simp)
  have e2:m<s.size:=ho _ (by simp)
  refine⟨w,.inl ?_,hS,hn,λ_=>⟨rfl,rfl⟩⟩
  obtain⟨dst,op,type,pos,after,guard⟩:=o
  cases hop
  subst e1
  have h1:(underlying t).run P w=.ok .string w:=run_underlying hu w
  simp [execOp,Instr.index,hx,iu,go_sem,h1,e2]
  rfl
 ·rename_i _ m _ _ t x mx _ hu _ s hx lo hi hv hop _ k z hz
  cases hr
  have e1:z=(m:Int):=ho _ (by simp)
  have e2:m<=s.size:=ho _ (by simp)
  refine⟨w,.inl ?_,hS,hn,λ_=>⟨rfl,rfl⟩⟩
  have h1:(underlying t).run P w=.ok .string w:=run_underlying hu w
  obtain⟨dst,op,type,pos,after,guard⟩:=o
  cases hop
  subst e1
  simp [execOp,Instr.sliceAt,Instr.slice,Instr.sliceBounds,Instr.sliceBound,asIntOf,hx,hz,go_sem,h1,e2]
 ·rename_i _ m _ _ t x mx _ hu _ s hx lo hi lv hop _ k z hz
  cases hr
  have e1:z=(m:Int):=ho _ (by simp)
  have e2:m<=s.size:=ho _ (by simp)
  refine⟨w,.inl ?_,hS,hn,λ_=>⟨rfl,rfl⟩⟩
  have h1:(underlying t).run P w=.ok .string w:=run_underlying hu w
  obtain⟨dst,op,type,pos,after,guard⟩:=o
  cases hop
  subst e1
  simp [execOp,Instr.sliceAt,Instr.slice,Instr.sliceBounds,Instr.sliceBound,asIntOf,hx,hz,go_sem,h1,e2]
 ·rename_i _ m _ _ t x mx _ hu _ s hx lo hi lv hv hop _ m2 hm2 _ k y hy _ k' z hz
  cases hr
  have e1:z=(m:Int):=ho _ (by simp)
  have D9:y=(m2:Int):=ho _ (by simp)
  have e2:m<=s.size:=ho _ (by simp)
  have e3:m2<=m:=ho _ (by simp)
  refine⟨w,.inl ?_,hS,hn,λ_=>⟨rfl,rfl⟩⟩
  have h1:(underlying t).run P w=.ok .string w:=run_underlying hu w
  obtain⟨dst,op,type,pos,after,guard⟩:=o
  cases hop
  subst e1
  subst D9
  simp [execOp,Instr.sliceAt,Instr.slice,Instr.sliceBounds,Instr.sliceBound,asIntOf,hx,hy,hz,go_sem,h1,e2,e3]
 ·rename_i _ m _ _ t x mx _ e hu _ i hi _ A len cap hx lo hi' hv hop _ k z hz
  cases hr
  have e1:z=(m:Int):=ho _ (by simp)
  have e2:m<=cap:=ho _ (by simp)
  refine⟨w,.inl ?_,hS,hn,λ_=>⟨rfl,rfl⟩⟩
  have h1:(underlying t).run P w=.ok (.slice e) w:=run_underlying hu w
  have h2:(sizeOf e).run P w=.ok i.size w:=je hi w
  obtain⟨dst,op,type,pos,after,guard⟩:=o
  cases hop
  subst e1
  cases A<;>simp [execOp,Instr.sliceAt,Instr.slice,Instr.sliceBounds,Instr.sliceBound,asIntOf,hx,hz,go_sem,h1,h2,e2,Addr.add]
 ·rename_i _ m _ _ t x mx _ e hu _ i hi _ A len cap hx lo hi' lv hop _ k z hz _ a _
  cases hr
  have e1:z=(m:Int):=ho _ (by simp)
  have e2:m<=len:=ho _ (by simp)
  have e3:m<cap:=ho _ (by simp)
  have e4:a.spot=none:=ho _ (by simp)
  have e6:A=some a:=ho _ (by simp)
  subst e6
  refine⟨w,.inl ?_,hS,hn,λ_=>⟨rfl,rfl⟩⟩
  have h1:(underlying t).run P w=.ok (.slice e) w:=run_underlying hu w
  have h2:(sizeOf e).run P w=.ok i.size w:=je hi w
  have ea:a.add (m*i.size)=⟨a.block,a.off+m*i.size,none⟩:=by
   unfold Addr.add
   split
   ·rename_i h0;cases a;simp_all
   rfl
  have e5:¬cap=m:=by omega
  obtain⟨dst,op,type,pos,after,guard⟩:=o
  cases hop
  subst e1
  simp [execOp,Instr.sliceAt,Instr.slice,Instr.sliceBounds,Instr.sliceBound,asIntOf,hx,hz,go_sem,h1,h2,e2,e5,ea]
 rename_i _ m _ _ t x mx _ e hu _ i hi _ len cap lo hi' lv hop _ k z hz _ _ _ a hx
 cases hr
 have e1:z=(m:Int):=ho _ (by simp)
 have e2:m<=len:=ho _ (by simp)
 have e3:m<cap:=ho _ (by simp)
 have e4:a.spot=none:=ho _ (by simp)
 refine⟨w,.inl ?_,hS,hn,λ_=>⟨rfl,rfl⟩⟩
 have h1:(underlying t).run P w=.ok (.slice e) w:=run_underlying hu w
 have h2:(sizeOf e).run P w=.ok i.size w:=je hi w
 have ea:a.add (m*i.size)=⟨a.block,a.off+m*i.size,none⟩:=by
  unfold Addr.add
  split
  ·rename_i h0;cases a;simp_all
  rfl
 have e5:¬cap=m:=by omega
 obtain⟨dst,op,type,pos,after,guard⟩:=o
 cases hop
 subst e1
 simp [execOp,Instr.sliceAt,Instr.slice,Instr.sliceBounds,Instr.sliceBound,asIntOf,hx,hz,go_sem,h1,h2,e2,e5,ea]
theorem tW (hr:kN P β n ro ev o h S=some (v,S')):∀p,p∈S.ak->p∈S'.ak:=by
 intro p hp
 grind [kN,xX]
theorem kC {w:World} (hr:kN P β n ro ev o h S=some (v,S')) (ho:∀p,p∈S'.ak->p) (hS:Sat β S.hps w) (hn:S.used=false->n=w.heap.size) :
 ∃w',jt P ev o w v w'/\Sat β S'.hps w'/\(S'.used=false->n=w'.heap.size)/\(ro=true->w'=w/\S'.hps=S.hps):=by
 unfold kN at hr
 repeat' split at hr
 all_goals first|(cases hr;done)|skip
 ·grind [pu]
 rename_i v0 S0 h0 _ v' _
 cases hr
 have e:v0=v:=ho _ List.mem_cons_self
 grind [pu]
theorem zw (hr:nB P β n true ev o h S=some (v,S')):S'.hps=S.hps/\S'.used=S.used:=by
 unfold nB at hr
 repeat' split at hr
 all_goals first|(cases hr;done)|skip
 ·rename_i h0;cases hr;(have h':=v8 _ _ _ _ h0;exact h')
 ·rename_i h0;cases hr;(have h':=v8 _ _ _ _ h0;exact h')
 all_goals (cases hr;exact⟨rfl,rfl⟩)
theorem rO (hr:kN P β n true ev o h S=some (v,S')):S'.hps=S.hps/\S'.used=S.used:=by
 grind [kN,zw]
end kN
end
section
open Go.RowKit
def ij (P:Program) (β:Bs) (n:Nat) (ro:Bool) (N:dK) (junk:Nat->Value) (ops:Array Oper):List OH->Nat->Fr->SS->Option (Nat×Fr×SS)
 |[],k,fr,S=>some (k,fr,S)
 |h::hs,k,fr,S=>
   match ops.toList[k]? with
   |none=>none
   |some o=>
     match Region.wanted o (yF ops N fr junk) with
     |true=>
       match kN P β n ro (dI N fr junk) o h S with
       |some (v,S')=>ij P β n ro N junk ops hs (k+1) (dF fr o.dst v) S'
       |none=>none
     |false=>ij P β n ro N junk ops hs (k+1) (dF fr o.dst undef) S
def kO (P:Program) (β:Bs) (n:Nat) (ro:Bool) (N:dK) (junk:Nat->Value) (ops:Array Oper) (hs:List OH) (k:Nat) (fr:Fr) (hps:List HP) (idx pk:List Nat):Option (Nat×Fr×List HP×List Prop):=
 match ij P β n ro N junk ops hs k fr ⟨[],hps,[],ro⟩ with
 |some (k',fr',S)=>
   match dG pk with
   |true=>
     match dR S.hps pk with
     |some l=>some (k',gS fr' junk idx,l,S.ak)
     |none=>none
   |false=>none
 |none=>none
section runs
variable {P:Program} {β:Bs} {n:Nat} {ro:Bool} {N:dK} {junk:Nat->Value} {ops:Array Oper}
theorem j4:∀{hs:List OH} {k k':Nat} {fr fr':Fr} {S S':SS},ij P β n ro N junk ops hs k fr S=some (k',fr',S')->∀p,p∈S.ak->p∈S'.ak
 |[],k,k',fr,fr',S,S',h,p,hp=>by cases h;exact hp
 |h::hs,k,k',fr,fr',S,S',hr,p,hp=>by
   unfold ij at hr
   repeat' split at hr
   all_goals first|(cases hr;done)|skip
   ·rename_i h0;exact j4 hr p (tW h0 p hp)
   exact j4 hr p hp
theorem drop_cons {ops:Array Oper} {k:Nat} {o:Oper} (h:ops.toList[k]?=some o):ops.toList.drop k=o::ops.toList.drop (k+1):=by
 have hk:=bZ h
 rw [List.drop_eq_getElem_cons hk]
 rw [List.getElem?_eq_getElem hk] at h
 cases h
 rfl
theorem j5 {o:Oper} {a:Act} {w w':World} {v:Value} {K:Act->World->Prop} {Q:Exit->Act->World->Prop} (h:jt P a.eval o w v w') (hk:K (a.put o.dst v) w'):o.wp P a w K Q:=by
 unfold Oper.wp
 rcases h with h|⟨rfl,h⟩
 ·rw [h];exact hk
 rw [h];exact hk
theorem mr {Q:Exit->Act->World->Prop}:∀{hs:List OH} {k k':Nat} {fr fr':Fr} {S S':SS} {w:World},ij P β n ro N junk ops hs k fr S=some (k',fr',S')->(∀p,p∈S'.ak->p)->Sat β S.hps w->(S.used=false->n=w.heap.size) →
 (∀w',Sat β S'.hps w'->wpList P ops Q (ops.toList.drop k') (dV N fr' junk) w')->wpList P ops Q (ops.toList.drop k) (dV N fr junk) w
 |[],k,k',fr,fr',S,S',w,h,ho,hS,hn,hK=>by cases h;exact hK w hS
 |h::hs,k,k',fr,fr',S,S',w,hr,ho,hS,hn,hK=>by
   unfold ij at hr
   split at hr
   ·cases hr
   rename_i o hget
   rw [drop_cons hget]
   unfold wpList
   have hw:Region.wanted o (yielded ops (dV N fr junk).tmps)=Region.wanted o (yF ops N fr junk):=by
    have:yielded ops (dV N fr junk).tmps=yF ops N fr junk:=funext (tP ops N fr junk)
    rw [this]
   rw [hw]
   split at hr
   ·rename_i xY
    rw [if_pos xY]
    split at hr
    ·rename_i v S1 h0
     obtain⟨w',h1,h2,h3,_⟩:=kC h0 (λp hp=>ho p (j4 hr p hp)) hS hn
     refine .inl (j5 (v:=v) (w':=w') (by rw [fq];exact h1) ?_)
     rw [eX]
     exact mr hr ho h2 h3 hK
    cases hr
   rename_i hwf
   rw [if_neg (by simp [hwf])]
   rw [eX]
   exact mr hr ho hS hn hK
theorem mw {Q:Act->Prop}:∀{hs:List OH} {k k':Nat} {fr fr':Fr} {S S':SS},ij P β n true N junk ops hs k fr S=some (k',fr',S')->(∀p,p∈S'.ak->p)->S.used=true →
 (S'.hps=S.hps->wpQuiet P ops (Sat β S.hps) Q (ops.toList.drop k') (dV N fr' junk))->wpQuiet P ops (Sat β S.hps) Q (ops.toList.drop k) (dV N fr junk)
 |[],k,k',fr,fr',S,S',h,ho,hu,hK=>by cases h;exact hK rfl
 |h::hs,k,k',fr,fr',S,S',hr,ho,hu,hK=>by
   unfold ij at hr
   split at hr
   ·cases hr
   rename_i o hget
   rw [drop_cons hget]
   unfold wpQuiet
   have hw:Region.wanted o (yielded ops (dV N fr junk).tmps)=Region.wanted o (yF ops N fr junk):=by
    have:yielded ops (dV N fr junk).tmps=yF ops N fr junk:=funext (tP ops N fr junk)
    rw [this]
   rw [hw]
   split at hr
   ·rename_i xY
    rw [if_pos xY]
    split at hr
    ·rename_i v S1 h0
     obtain⟨e1,e2⟩:=rO h0
     refine⟨v,λw hS=>?_,?_⟩
     ·obtain⟨w',h1,h2,h3,h4⟩:=kC h0 (λp hp=>ho p (j4 hr p hp)) hS (λe=>by rw [hu] at e;cases e)
      obtain⟨rfl,e⟩:=h4 rfl
      unfold Oper.quietAt
      rw [fq]
      rcases h1 with h1|⟨h1,h1'⟩
      ·rw [h1];exact⟨rfl,rfl⟩
      rw [h1'];exact⟨rfl,h1⟩
     rw [eX,←e1]
     exact mw hr ho (e2.trans hu) (λe=>by rw [e1];exact hK (e.trans e1))
    cases hr
   rename_i hwf
   rw [if_neg (by simp [hwf])]
   rw [eX]
   exact mw hr ho hu hK
end runs
end
section
open Go.RowKit
abbrev Post:=Exit->Act->World->Prop
def af (P:Program) (β:Bs) (N:dK) (ops:Array Oper) (k:Nat) (fr:Fr) (hps:List HP) (Q:Post):Prop:=
 ∀junk w,Sat β hps w->wpList P ops Q (ops.toList.drop k) (dV N fr junk) w
def aN (P:Program) (β:Bs) (N:dK) (ops:Array Oper) (k:Nat) (fr:Fr) (hps:List HP) (Q:Post):Prop:=
 ∀junk,wpQuiet P ops (Sat β hps) (λa'=>∀w',Sat β hps w'->Q .normal a' w') (ops.toList.drop k) (dV N fr junk)
def ai (P:Program) (β:Bs) (N:dK) (c:Code) (fr:Fr) (hps:List HP) (Q:Post):Prop:=
 ∀junk w,Sat β hps w->c.wp P Q (dV N fr junk) w
def ah (β:Bs) (N:dK) (Q:Post) (e:Exit) (fr:Fr) (hps:List HP):Prop:=
 ∀junk w,Sat β hps w->Q e (dV N fr junk) w
section rules
variable {P:Program} {β:Bs} {N:dK} {ops:Array Oper} {k k':Nat} {fr fr':Fr} {hps aL:List HP} {Q:Post} {ak:List Prop} {c x y:Code} {e:Exit}
theorem pS {n:Nat} {ro:Bool} {junk:Nat->Value} {hs:List OH} {idx pk:List Nat} (h:kO P β n ro N junk ops hs k fr hps idx pk=some (k',fr',aL,ak)) :
 ∃pz S,ij P β n ro N junk ops hs k fr ⟨[],hps,[],ro⟩=some (k',pz,S)/\dG pk=true/\dR S.hps pk=some aL/\fr'=gS pz junk idx/\S.ak=ak:=by
 grind [kO]
theorem af.bD {fr':Nat->Fr} {aL:Nat->List HP} {ak:Nat->List Prop} (hs:List OH) (idx pk:List Nat) (h:∀n junk,kO P β n false N junk ops hs k fr hps idx pk=some (k',fr' n,aL n,ak n))
 (ho:∀n,jr (ak n)) (K:∀n,af P β N ops k' (fr' n) (aL n) Q):af P β N ops k fr hps Q:=by
 intro junk w hS
 obtain⟨pz,S,h1,h2,h3,h4,h5⟩:=pS (h w.heap.size junk)
 refine mr h1 (λp hp=>(ho _).mem (h5 ▸ hp)) hS (λ_=>rfl) (λw' fN=>?_)
 have hk:=K w.heap.size (lk pz junk) w' (fN.pick h2 h3)
 rw [h4,←gH] at hk
 exact hk
theorem af.seg (hs:List OH) (idx pk:List Nat) (h:∀n junk,kO P β n false N junk ops hs k fr hps idx pk=some (k',fr',aL,ak))
 (ho:jr ak) (K:af P β N ops k' fr' aL Q):af P β N ops k fr hps Q:=
 af.bD (fr':=λ_=>fr') (aL:=λ_=>aL) (ak:=λ_=>ak) hs idx pk h (λ_=>ho) (λ_=>K)
theorem af.aq (hs:List OH) (idx:List Nat) (h:∀n junk,kO P β n false N junk ops hs k fr hps idx (List.range hps.length)=some (k',fr',hps,ak))
 (ho:jr ak) (K:af P β N ops k' fr' hps Q):af P β N ops k fr hps Q:=af.seg hs idx (List.range hps.length) h ho K
theorem aN.seg (hs:List OH) (idx:List Nat) (h:∀n junk,kO P β n true N junk ops hs k fr hps idx (List.range hps.length)=some (k',fr',hps,ak))
 (ho:jr ak) (K:aN P β N ops k' fr' hps Q):aN P β N ops k fr hps Q:=by
 intro junk
 obtain⟨pz,S,h1,h2,h3,h4,h5⟩:=pS (h 0 junk)
 refine mw h1 (λp hp=>ho.mem (h5 ▸ hp)) rfl (λ_=>?_)
 have hk:=K (lk pz junk)
 rw [h4,←gH] at hk
 exact hk
theorem af.nil (h:ops.toList.drop k=[]) (K:ah β N Q .normal fr hps):af P β N ops k fr hps Q:=by
 intro junk w hS
 rw [h]
 exact K junk w hS
theorem aN.nil (h:ops.toList.drop k=[]) (K:ah β N Q .normal fr hps):aN P β N ops k fr hps Q:=by
 intro junk
 rw [h]
 exact λw' fN=>K junk w' fN
theorem af.tell {p:Prop} (h:∀w,Sat β hps w->p) (K:p->af P β N ops k fr hps Q):af P β N ops k fr hps Q:=λjunk w hS=>K (h w hS) junk w hS
theorem af.mem (h:∀w,Sat β hps w->Sat β aL w) (K:af P β N ops k fr aL Q):af P β N ops k fr hps Q:=λjunk w hS=>K junk w (h w hS)
theorem ah.mem (h:∀w,Sat β hps w->Sat β aL w) (K:ah β N Q e fr aL):ah β N Q e fr hps:=λjunk w hS=>K junk w (h w hS)
theorem ai.seq (h:ai P β N x fr hps (Exit.then (y.wp P Q) Q)):ai P β N (.seq x y) fr hps Q:=λjunk w hS=>wp_seq (h junk w hS)
theorem ah.next (h:ai P β N y fr hps Q):ah β N (Exit.then (y.wp P Q) Q) .normal fr hps:=λjunk w hS=>h junk w hS
theorem ah.aH {K:Act->World->Prop} {id:Nat} (h:ah β N Q (.exit id) fr hps):ah β N (Exit.then K Q) (.exit id) fr hps:=λjunk w hS=>h junk w hS
theorem ah.ay {K:Act->World->Prop} (h:ah β N Q .ret fr hps):ah β N (Exit.then K Q) .ret fr hps:=λjunk w hS=>h junk w hS
theorem ai.block {id:Nat} (h:ai P β N c fr hps (Exit.inBlock id Q)):ai P β N (.block id c) fr hps Q:=λjunk w hS=>wp_block (h junk w hS)
theorem ah.aJ {id:Nat} (h:ah β N Q .normal fr hps):ah β N (Exit.inBlock id Q) .normal fr hps:=λjunk w hS=>h junk w hS
theorem ah.aG {id:Nat} (h:ah β N Q .ret fr hps):ah β N (Exit.inBlock id Q) .ret fr hps:=λjunk w hS=>h junk w hS
theorem ah.bg {id:Nat} (h:ah β N Q .normal fr hps):ah β N (Exit.inBlock id Q) (.exit id) fr hps:=λjunk w hS=>by
 show (if id=id then Q .normal _ _ else _)
 rw [if_pos rfl]
 exact h junk w hS
theorem ah.xZ {id id':Nat} (hne:id'≠id) (h:ah β N Q (.exit id') fr hps):ah β N (Exit.inBlock id Q) (.exit id') fr hps:=λjunk w hS=>by
 show (if id'=id then Q .normal _ _ else Q (.exit id') _ _)
 rw [if_neg hne]
 exact h junk w hS
theorem ai.skip (h:ah β N Q .normal fr hps):ai P β N .skip fr hps Q:=λjunk w hS=>wp_skip (h junk w hS)
theorem ai.exit {id:Nat} (h:ah β N Q (.exit id) fr hps):ai P β N (.exit id) fr hps Q:=λjunk w hS=>wp_exit (h junk w hS)
theorem ai.ret (h:ah β N Q .ret fr hps):ai P β N .ret fr hps Q:=λjunk w hS=>wp_ret (h junk w hS)
theorem ai.cond {o:Operand} {b:Bool} (h:∀junk,dI N fr junk o=.bool b) (ht:b=true->ai P β N x fr hps Q) (hf:b=false->ai P β N y fr hps Q):ai P β N (.cond o x y) fr hps Q:=
 λjunk w hS=>wp_cond_split (by rw [fq];exact h junk) (λe=>ht e junk w hS) (λe=>hf e junk w hS)
theorem ai.bL {o:Operand} (h:∀junk,dI N fr junk o=.bool true) (ht:ai P β N x fr hps Q):ai P β N (.cond o x y) fr hps Q:=ai.cond h (λ_=>ht) (λe=>by cases e)
theorem ai.cU {o:Operand} (h:∀junk,dI N fr junk o=.bool false) (hf:ai P β N y fr hps Q):ai P β N (.cond o x y) fr hps Q:=ai.cond h (λe=>by cases e) (λ_=>hf)
theorem ai.aV {o:Operand} {p:Prop} [Decidable p] (h:∀junk,dI N fr junk o=.bool (decide p)) (ht:p->ai P β N x fr hps Q) (hf:¬p->ai P β N y fr hps Q):ai P β N (.cond o x y) fr hps Q:=
 ai.cond h (λe=>ht (of_decide_eq_true e)) (λe=>hf (of_decide_eq_false e))
theorem ai.region {id:Nat} (h:af P β N ops 0 fr hps Q):ai P β N (.region id ops false) fr hps Q:=λjunk w hS=>wp_region_list (h junk w hS)
theorem ai.ga {id:Nat} (hm:P.follows .mixedOrders=true) (hB:Region.lexB .any ops=true) (h:aN P β N ops 0 fr hps Q):ai P β N (.region id ops true) fr hps Q:=
 λjunk _ hS=>wp_region_quiet hm hB (hS.drewN 1) (h junk)
def BP (β:Bs) (N:dK) {ι:Type} (Inv:ι->Prop) (fr:ι->Fr) (hp:ι->List HP):Act->World->Prop:=λa w=>∃i,Inv i/\∃junk,a=dV N (fr i) junk/\Sat β (hp i) w
theorem ai.join {ι:Type} (Inv:ι->Prop) (fr':ι->Fr) (hp':ι->List HP) (hr:∀i,Inv i->ai P β N y (fr' i) (hp' i) Q) (hf:ai P β N x fr hps (Exit.then (BP β N Inv fr' hp') Q)):ai P β N (.seq x y) fr hps Q:=
 λjunk w hS=>wp_seq (Code.wp_mono (λe a w q=>by
  cases e with
  |normal=>
    obtain⟨i,hi,junk,rfl,hS⟩:=q
    exact hr i hi junk w hS
  |exit id=>exact q
  |goto l=>exact q
  |ret=>exact q
  |panic ch=>exact q
  |outgrown=>exact q) (hf junk w hS))
theorem ah.meet {ι:Type} {Inv:ι->Prop} {fr':ι->Fr} {hp':ι->List HP} (i:ι) {idx pk:List Nat} (hi:Inv i) (hf:∀junk,gS fr junk idx=fr' i) (hn:dG pk=true) (hp:dR hps pk=some (hp' i)) :
 ah β N (Exit.then (BP β N Inv fr' hp') Q) .normal fr hps:=λjunk w hS=>⟨i,hi,lk fr junk,by rw [gH N fr junk idx,hf junk],hS.pick hn hp⟩
def Turn (β:Bs) (N:dK) {ι:Type} (Inv:ι->Prop) (μ:ι->Nat) (fr:ι->Fr) (hp:ι->List HP) (m:Nat):Act->World->Prop:=λa w=>∃i,Inv i/\μ i<m/\∃junk,a=dV N (fr i) junk/\Sat β (hp i) w
theorem ai.loop {ι:Type} (Inv:ι->Prop) (μ:ι->Nat) (fr':ι->Fr) (hp':ι->List HP) (i0:ι) {idx pk:List Nat} (h0:Inv i0) (hf:∀junk,gS fr junk idx=fr' i0) (hn:dG pk=true) (hp:dR hps pk=some (hp' i0))
 (round:∀i,Inv i->ai P β N c (fr' i) (hp' i) (Exit.then (Turn β N Inv μ fr' hp' (μ i)) Q)):ai P β N (.loop c) fr hps Q:=by
 intro junk w hS
 refine wp_loop_ghost (λn a w=>∃i,Inv i/\μ i=n/\∃junk,a=dV N (fr' i) junk/\Sat β (hp' i) w) (μ i0) ⟨i0,h0,rfl,lk fr junk,by rw [gH N fr junk idx,hf junk],hS.pick hn hp⟩ ?_
 rintro n a w ⟨i,hi,rfl,junk,rfl,hS⟩
 refine Code.wp_mono (λe a w q=>?_) (round i hi junk w hS)
 cases e with
 |normal=>
   obtain⟨i',hi',hlt,qA,e,fN⟩:=q
   exact⟨μ i',hlt,i',hi',rfl,qA,e,fN⟩
 |exit id=>exact q
 |goto l=>exact q
 |ret=>exact q
 |panic ch=>exact q
 |outgrown=>exact q
theorem ah.turn {ι:Type} {Inv:ι->Prop} {μ:ι->Nat} {fr':ι->Fr} {hp':ι->List HP} {m:Nat} (i:ι) {idx pk:List Nat} (hi:Inv i) (hm:μ i<m) (hf:∀junk,gS fr junk idx=fr' i) (hn:dG pk=true) (hp:dR hps pk=some (hp' i)) :
 ah β N (Exit.then (Turn β N Inv μ fr' hp' m) Q) .normal fr hps:=λjunk w hS=>⟨i,hi,hm,lk fr junk,by rw [gH N fr junk idx,hf junk],hS.pick hn hp⟩
end rules
def pT (R:List HP):dh where
 h F w:=∃φ:Nat->Fp,(∀(i:Nat) (p:HP),R[i]?=some p->p.h (φ i) w)/\(∀i j,i<R.length->j<R.length->i≠j->Apart (φ i) (φ j))/\∀k,F k↔∃i,i<R.length/\φ i k
 lt:=by
  rintro F w ⟨φ,h1,h2,h3⟩ k hk
  obtain⟨i,hi,hk⟩:=(h3 k).1 hk
  obtain⟨p,hp⟩:=fY hi
  exact HP.lt (h1 i p hp) k hk
 st:=by
  rintro F w ⟨φ,h1,h2,h3⟩ S w' hk hn
  exact⟨φ,λi p hp=>HP.st (h1 i p hp) hk (λk h=>hn k ((h3 k).2 ⟨i,bZ hp,h⟩)),h2,h3⟩
section contracts
variable {P:Program} {β:Bs} {l R:List HP} {w:World}
theorem Sat.pT (h:Sat β (l++R) w):Sat β (l++[.abs (pT R)]) w:=by
 obtain⟨ho,φ,h1,h2,h3⟩:=h
 have hl:(l++R).length=l.length+R.length:=List.length_append
 refine⟨ho,λi=>if i<l.length then φ i else λk=>∃j,j<R.length/\φ (l.length+j) k,λi p hp=>?_,λi hi k hk hO=>?_,λi j hi hj hne k hk hk'=>?_⟩
 ·by_cases e:i<l.length
  ·grind
  have hi:i=l.length:=by have:=bZ hp;simp at this;omega
  subst hi
  simp at hp
  subst hp
  simp only [Nat.lt_irrefl,if_false]
  exact⟨λj=>φ (l.length+j),λj p hp=>h1 _ p (by grind),λi j hi hj hne=>h3 _ _ (by omega) (by omega) (by omega),λk=>Iff.rfl⟩
 ·by_cases e:i<l.length
  ·grind
  simp only [e,if_false] at hk
  grind
 simp at hi hj
 by_cases e1:i<l.length
 ·simp only [e1,if_true] at hk
  by_cases e2:j<l.length
  ·simp only [e2,if_true] at hk'
   exact h3 i j (by omega) (by omega) hne k hk hk'
  simp only [e2,if_false] at hk'
  obtain⟨t,ht,hk'⟩:=hk'
  exact h3 i (l.length+t) (by omega) (by omega) (by omega) k hk hk'
 simp only [e1,if_false] at hk
 obtain⟨t,ht,hk⟩:=hk
 by_cases e2:j<l.length
 ·simp only [e2,if_true] at hk'
  exact h3 j (l.length+t) (by omega) (by omega) (by omega) k hk' hk
 omega
theorem Sat.x3 (h:Sat β (l++[.abs (Go.Proofs.Ytjpdcppdoonmdaa.pT R)]) w):Sat β (l++R) w:=by
 obtain⟨ho,φ,h1,h2,h3⟩:=h
 have hl:(l++R).length=l.length+R.length:=List.length_append
 have hl':(l++[HP.abs (Go.Proofs.Ytjpdcppdoonmdaa.pT R)]).length=l.length+1:=by simp
 obtain⟨ψ,q1,q2,q3⟩:=h1 l.length (.abs (Go.Proofs.Ytjpdcppdoonmdaa.pT R)) (by simp)
 have hsub:∀i,l.length<=i->i<l.length+R.length->∀k,ψ (i-l.length) k->φ l.length k:=by grind
 refine⟨ho,λi=>if i<l.length then φ i else ψ (i-l.length),λi p hp=>?_,λi hi k hk hO=>?_,λi j hi hj hne k hk hk'=>?_⟩
 ·grind
 ·grind
 by_cases e1:i<l.length
 ·simp only [e1,if_true] at hk
  by_cases e2:j<l.length
  ·simp only [e2,if_true] at hk'
   exact h3 i j (by omega) (by omega) hne k hk hk'
  simp only [e2,if_false] at hk'
  exact h3 i l.length (by omega) (by omega) (by omega) k hk (hsub j (by omega) (by omega) k hk')
 simp only [e1,if_false] at hk
 by_cases e2:j<l.length
 ·simp only [e2,if_true] at hk'
  exact h3 j l.length (by omega) (by omega) (by omega) k hk' (hsub i (by omega) (by omega) k hk)
 simp only [e2,if_false] at hk'
 exact q2 (i-l.length) (j-l.length) (by omega) (by omega) (by omega) k hk hk'
def Spec (P:Program) (β:Bs) (f:FuncId) (args:Array Value) (pre:List HP) (post:Value->List HP->Prop):Prop:=
 ∀(R:dh) w,Sat β (pre++[.abs R]) w->Calls P f args w λe w'=>∃v l,e=.returned v/\post v l/\Sat β (l++[.abs R]) w'
theorem Spec.use {f:FuncId} {args:Array Value} {pre:List HP} {post:Value->List HP->Prop} (h:Spec P β f args pre post) (hS:Sat β (pre++R) w) :
 Calls P f args w λe w'=>∃v l,e=.returned v/\post v l/\Sat β (l++R) w':=
 (h _ w hS.pT).mono λ_ _ ⟨v,l,h1,h2,h3⟩=>⟨v,l,h1,h2,h3.x3⟩
theorem Spec.mono {f:FuncId} {args:Array Value} {pre:List HP} {post post':Value->List HP->Prop} (h:Spec P β f args pre post) (hp:∀v l,post v l->post' v l):Spec P β f args pre post':=
 λR w hS=>(h R w hS).mono λ_ _ ⟨v,l,h1,h2,h3⟩=>⟨v,l,h1,hp v l h2,h3⟩
end contracts
end
section
open Go.RowKit
def mJ (P:Program) (β:Bs) (N:dK) (junk:Nat->Value) (ops:Array Oper) (fr:Fr) (k:Nat):Option (FuncId×Array Value×Option Tmp):=
 match ops.toList[k]? with
 |some o=>
   match Region.wanted o (yF ops N fr junk) with
   |true=>
     match bY P β 0 true (execOp (dI N fr junk) o) ⟨[],[],[],true⟩ with
     |some (.enter f args,_)=>some (f,args,o.dst)
     |_=>none
   |false=>none
 |none=>none
section calls
variable {P:Program} {β:Bs} {N:dK} {ops:Array Oper} {k:Nat} {fr:Fr} {hps R:List HP} {Q:Post} {f:FuncId} {args:Array Value} {d:Option Tmp}
theorem Sat.nil {l:List HP} {w:World} (h:Sat β l w):Sat β [] w:=⟨h.1,λ_ _=>False,λi p hp=>by simp at hp,λi hi=>by simp at hi,λi j hi=>by simp at hi⟩
theorem mz {junk:Nat->Value} (h:mJ P β N junk ops fr k=some (f,args,d)):∃o,ops.toList[k]?=some o/\Region.wanted o (yF ops N fr junk)=true/\o.dst=d ∧
 ∀w,Sat β [] w->(execOp (dI N fr junk) o).run P w=.ok (.enter f args) w:=by
 unfold mJ at h
 repeat' split at h
 all_goals first|(cases h;done)|skip
 rename_i o h1 _ h2 _ f' args' S' h3
 cases h
 refine⟨o,h1,h2,rfl,λw hS=>?_⟩
 have Ea:=xW _ _ _ _ h3 rfl
 obtain⟨w',h4,_,_,h5⟩:=kB _ _ _ _ w h3 (λp hp=>by rw [Ea] at hp;cases hp) hS (λe=>by cases e)
 rw [h4,(h5 rfl).1]
theorem fW (o:Oper) (junk:Nat->Value):Region.wanted o (yielded ops (dV N fr junk).tmps)=Region.wanted o (yF ops N fr junk):=by
 have:yielded ops (dV N fr junk).tmps=yF ops N fr junk:=funext (tP ops N fr junk)
 rw [this]
theorem af.call {pre:List HP} {post:Value->List HP->Prop} {pk:List Nat} (hc:∀junk,mJ P β N junk ops fr k=some (f,args,d)) (hs:Spec P β f args pre post) (hn:dG pk=true) (hp:dR hps pk=some (pre++R))
 (K:∀v l,post v l->af P β N ops (k+1) (dF fr d v) (l++R) Q):af P β N ops k fr hps Q:=by
 intro junk w hS
 obtain⟨o,h1,h2,rfl,h3⟩:=mz (hc junk)
 rw [drop_cons h1]
 unfold wpList
 rw [fW,if_pos h2]
 refine .inl ?_
 unfold Oper.wp
 rw [fq,h3 w hS.nil,Oper.upon_enter]
 refine (hs.use (hS.pick hn hp)).mono ?_
 grind [dV,eX,mJ,Spec,dG,dR,af,dF]
theorem aN.call {pre:List HP} {post:Value->List HP->Prop} {pk sE:List Nat} {v0:Value} (hc:∀junk,mJ P β N junk ops fr k=some (f,args,d)) (hs:Spec P β f args pre post) (hn:dG pk=true) (hp:dR hps pk=some (pre++R))
 (hn':dG sE=true) (hp':dR (pre++R) sE=some hps) (hv:∀v l,post v l->v=v0/\l=pre)
 (K:aN P β N ops (k+1) (dF fr d v0) hps Q):aN P β N ops k fr hps Q:=by
 intro junk
 obtain⟨o,h1,h2,rfl,h3⟩:=mz (hc junk)
 rw [drop_cons h1]
 unfold wpQuiet
 rw [fW,if_pos h2]
 refine⟨v0,λw hS=>?_,?_⟩
 ·unfold Oper.quietAt
  rw [fq,h3 w hS.nil]
  refine⟨rfl,(hs.use (hS.pick hn hp)).mono ?_⟩
  rintro e w' ⟨v,l,rfl,hpost,fN⟩
  obtain⟨rfl,rfl⟩:=hv v l hpost
  exact⟨rfl,fN.pick hn' hp'⟩
 rw [eX]
 exact K junk
end calls
def pU:Nat->List Value->Fr
 |_,[]=>[]
 |k,x::r=>(k,x)::pU (k+1) r
theorem wg (junk:Nat->Value):∀(l:List Value) (k t:Nat),lk (pU k l) junk t=if k<=t/\t<k+l.length then l.getD (t-k) undef else junk t
 |[],k,t=>by simp [pU,lk];intros;omega
 |x::r,k,t=>by
   rw [pU,oQ,wg junk r (k+1) t]
   by_cases h:k=t
   ·subst h;simp
   by_cases h2:k+1<=t/\t<k+1+r.length
   ·have e:t-k=(t-(k+1))+1:=by omega
    simp only [h,if_false,h2,and_self,if_true]
    rw [if_pos (by simp;omega),e]
    simp
   rw [if_neg h,if_neg h2,if_neg (by simp;omega)]
theorem sF {N:Nat} {args:Array Value} (h:args.toList.length<=N):(⟨args++Array.replicate (N-args.size) undef,[]⟩:Act)=dV ⟨N,[]⟩ (pU 0 args.toList) (λ_=>undef):=by
 unfold dV
 congr 1
 grind [wg]
def zx (β:Bs) (R:dh) (post:Value->List HP->Prop):Ending->World->Prop:=λe w'=>∃v l,e=.returned v/\post v l/\Sat β (l++[.abs R]) w'
section ends
variable {P:Program} {β:Bs} {N:dK} {n0:Nat} {fr:Fr} {hps l:List HP} {f:FuncId} {args:Array Value} {pre:List HP} {post:Value->List HP->Prop} {fn:Func} {c:Code} {v:Value} {ak:List Prop}
theorem Spec.enter (hf:P.funcs[f]?=some fn) (hb:fn.body=some c) (hN:fn.ntmps=n0) (hl:args.toList.length<=n0) (h:∀R:dh,ai P β ⟨n0,[]⟩ c (pU 0 args.toList) (pre++[.abs R]) (bodyPost P fn (zx β R post))):Spec P β f args pre post:=by
 intro R w hS
 refine calls_of_wp hf hb ?_
 rw [hN,sF hl]
 exact h R _ w hS
def qB (P:Program) (β:Bs) (N:dK) (junk:Nat->Value) (fn:Func) (fr:Fr) (hps:List HP) (hints:List Hint):Option (Value×List Prop):=
 match bY P β 0 true (results fn (dV N fr junk).tmps) ⟨hints,hps,[],true⟩ with
 |some (v,S)=>some (v,S.ak)
 |none=>none
theorem nC {junk:Nat->Value} {hints:List Hint} {w:World} (h:qB P β N junk fn fr hps hints=some (v,ak)) (ho:jr ak) (hS:Sat β hps w):(results fn (dV N fr junk).tmps).run P w=.ok v w:=by
 unfold qB at h
 split at h
 ·rename_i v' S h0
  cases h
  obtain⟨w',h1,_,_,h2⟩:=kB _ _ _ _ w h0 (λp hp=>ho.mem hp) hS (λe=>by cases e)
  rw [h1,(h2 rfl).1]
 cases h
theorem ah.ret {R:dh} (hints:List Hint) (pk:List Nat) (hr:∀junk,qB P β ⟨n0,[]⟩ junk fn fr hps hints=some (v,ak)) (ho:jr ak) (hn:dG pk=true) (hp:dR hps pk=some (l++[.abs R])) (hpost:post v l) :
 ah β ⟨n0,[]⟩ (bodyPost P fn (zx β R post)) .ret fr hps:=
 λjunk _ hS=>⟨rfl,v,nC (hr junk) ho hS,v,l,rfl,hpost,hS.pick hn hp⟩
theorem Spec.Eb (h:∀w,β.ok w->Calls P f args w λe w'=>∃v,e=.returned v/\post v []/\Keeps (λ_=>False) w w'):Spec P β f args [] post:=by
 intro R w hS
 refine (h w hS.1).mono ?_
 rintro e w' ⟨v,rfl,hp,hk⟩
 exact⟨v,[],rfl,hp,hS.quiet hk⟩
def BQ:dh where
 h F _:=∀k,¬F k
 lt h k hk:=(h k hk).elim
 st h _ _ _ _:=h
theorem Spec.top {W:World} (h:Spec P ⟨(· < W.heap.size),W⟩ f args [] post):Calls P f args W λe w'=>(∃v l,e=.returned v/\post v l)/\Below W.heap.size W w':=by
 have hS:Sat ⟨(· < W.heap.size),W⟩ ([]++[.abs BQ]) W:=by
  refine⟨⟨rfl,rfl,rfl,Nat.le_refl _,λk hk=>⟨hk,rfl⟩⟩,λ_ _=>False,λi p hp=>?_,λi _ k hk=>hk.elim,λi j _ _ _ k hk=>hk.elim⟩
  match i,hp with
  |0,hp=>cases hp;exact λ_ h=>h
 refine (h BQ W hS).mono ?_
 rintro e w' ⟨v,l,he,hp,fN⟩
 have ho:=fN.1
 exact⟨⟨v,l,he,hp⟩,ho.os,ho.tape,ho.output,ho.size,λk hk=>(ho.old k hk).2⟩
end ends
end
section
open Go.RowKit
section slots
variable {P:Program} {β:Bs} {N:dK} {ops:Array Oper} {k:Nat} {fr:Fr} {hps:List HP} {Q:Post} {c x y:Code} {e:Exit} {i:Nat} {v v':Value} {b:Bool}
theorem pV {junk:Nat->Value} (h:lk fr junk i=v):dV N ((i,v)::fr) junk=dV N fr junk:=by
 unfold dV
 have:(List.range N.n).map (lk ((i,v)::fr) junk)=(List.range N.n).map (lk fr junk):=List.map_congr_left (λt _=>by
  rw [oQ]
  by_cases e:i=t
  ·subst e;simp [h]
  simp [e])
 rw [this]
theorem af.slot (i:Nat) (v v':Value) (h:∀junk,lk fr junk i=v) (hv:v=v') (K:af P β N ops k ((i,v')::fr) hps Q):af P β N ops k fr hps Q:=λjunk w hS=>by
 have:=K junk w hS
 rwa [pV (hv ▸ h junk)] at this
theorem aN.slot (i:Nat) (v v':Value) (h:∀junk,lk fr junk i=v) (hv:v=v') (K:aN P β N ops k ((i,v')::fr) hps Q):aN P β N ops k fr hps Q:=λjunk=>by
 have:=K junk
 rwa [pV (hv ▸ h junk)] at this
theorem ah.slot (i:Nat) (v v':Value) (h:∀junk,lk fr junk i=v) (hv:v=v') (K:ah β N Q e ((i,v')::fr) hps):ah β N Q e fr hps:=λjunk w hS=>by
 have:=K junk w hS
 rwa [pV (hv ▸ h junk)] at this
theorem af.qC (i:Nat) (b:Bool) (h:∀junk,lk fr junk i=.bool b) (ht:b=true->af P β N ops k ((i,.bool true)::fr) hps Q) (hf:b=false->af P β N ops k ((i,.bool false)::fr) hps Q):af P β N ops k fr hps Q:=by
 cases hb:b with
 |true=>exact af.slot i (.bool b) (.bool true) h (by rw [hb]) (ht hb)
 |false=>exact af.slot i (.bool b) (.bool false) h (by rw [hb]) (hf hb)
theorem aN.qC (i:Nat) (b:Bool) (h:∀junk,lk fr junk i=.bool b) (ht:b=true->aN P β N ops k ((i,.bool true)::fr) hps Q) (hf:b=false->aN P β N ops k ((i,.bool false)::fr) hps Q):aN P β N ops k fr hps Q:=by
 cases hb:b with
 |true=>exact aN.slot i (.bool b) (.bool true) h (by rw [hb]) (ht hb)
 |false=>exact aN.slot i (.bool b) (.bool false) h (by rw [hb]) (hf hb)
theorem af.bO (i:Nat) (p:Prop) [Decidable p] (h:∀junk,lk fr junk i=.bool (decide p)) (ht:p->af P β N ops k ((i,.bool true)::fr) hps Q) (hf:¬p->af P β N ops k ((i,.bool false)::fr) hps Q):af P β N ops k fr hps Q:=
 af.qC i _ h (λe=>ht (of_decide_eq_true e)) (λe=>hf (of_decide_eq_false e))
theorem aN.bO (i:Nat) (p:Prop) [Decidable p] (h:∀junk,lk fr junk i=.bool (decide p)) (ht:p->aN P β N ops k ((i,.bool true)::fr) hps Q) (hf:¬p->aN P β N ops k ((i,.bool false)::fr) hps Q):aN P β N ops k fr hps Q:=
 aN.qC i _ h (λe=>ht (of_decide_eq_true e)) (λe=>hf (of_decide_eq_false e))
theorem af.aZ (i:Nat) {p p':HP} (hp:hps[i]?=some p) (e:p=p') (K:af P β N ops k fr (hps.set i p') Q):af P β N ops k fr hps Q:=by
 subst e
 have:hps.set i p=hps:=by
  apply List.ext_getElem?
  grind
 rwa [this] at K
theorem kP {p:Prop} [Decidable p] (h:(!decide p)=true):¬p:=by simpa using h
theorem kf {p:Prop} [Decidable p] (h:(!decide p)=false):p:=by simpa using h
theorem af.eO (i:Nat) (p:Prop) [Decidable p] (h:∀junk,lk fr junk i=.bool (!decide p)) (ht:¬p->af P β N ops k ((i,.bool true)::fr) hps Q) (hf:p->af P β N ops k ((i,.bool false)::fr) hps Q):af P β N ops k fr hps Q:=
 af.qC i _ h (λe=>ht (kP e)) (λe=>hf (kf e))
theorem aN.eO (i:Nat) (p:Prop) [Decidable p] (h:∀junk,lk fr junk i=.bool (!decide p)) (ht:¬p->aN P β N ops k ((i,.bool true)::fr) hps Q) (hf:p->aN P β N ops k ((i,.bool false)::fr) hps Q):aN P β N ops k fr hps Q:=
 aN.qC i _ h (λe=>ht (kP e)) (λe=>hf (kf e))
theorem ai.cY {o:Operand} {p:Prop} [Decidable p] (h:∀junk,dI N fr junk o=.bool (!decide p)) (ht:¬p->ai P β N x fr hps Q) (hf:p->ai P β N y fr hps Q):ai P β N (.cond o x y) fr hps Q:=
 ai.cond h (λe=>ht (kP e)) (λe=>hf (kf e))
end slots
theorem aP {x y:Int} (h:x=y) (lo:-9223372036854775808<=y) (hi:y<=9223372036854775807):Value.int .i64 (IntKind.wrap .i64 x)=Value.int .i64 y:=by
 subst h
 rw [IntWalk.i64_in _ ⟨lo,hi⟩]
theorem oo (x y:ByteArray):(x.toList == y.toList)=decide (x=y):=by
 rw [←beq_toListBytes]
 obtain⟨⟨x⟩⟩:=x
 obtain⟨⟨y⟩⟩:=y
 show ((⟨x⟩:Array UInt8) == ⟨y⟩)=_
 by_cases h:x=y
 ·subst h;simp
 simp [h]
theorem eH (x y:ByteArray):Value.bool (x.toList == y.toList)=Value.bool (decide (x=y)):=by rw [oo]
theorem mK (x y:ByteArray):Value.bool (!(x.toList == y.toList))=Value.bool (!decide (x=y)):=by rw [oo]
end
section
open Go.RowKit Go.Maps
def eV (N:dK) (junk:Nat->Value) (ops:Array Oper) (fr:Fr) (k:Nat):Option (Op×Option Tmp):=
 match ops.toList[k]? with
 |some o=>
   match Region.wanted o (yF ops N fr junk) with
   |true=>some (o.op,o.dst)
   |false=>none
 |none=>none
theorem j6 {N:dK} {junk:Nat->Value} {ops:Array Oper} {fr:Fr} {k:Nat} {op:Op} {d:Option Tmp} (h:eV N junk ops fr k=some (op,d)) :
 ∃o,ops.toList[k]?=some o/\Region.wanted o (yF ops N fr junk)=true/\o.op=op/\o.dst=d:=by
 grind [eV]
def aE (P:Program) (K:TypeId) (b:Nat) (f:Lit->Option Value) (n:Nat):dh where
 h F w:=fk P K w b f n/\∀k,F k↔k=b
 lt:=by rintro F w ⟨h,hF⟩ k hk;rw [(hF k).1 hk];exact h.lt
 st:=by rintro F w ⟨h,hF⟩ S w' hk hn;exact⟨h.keeps hk (hn b ((hF b).2 rfl)),hF⟩
section maps
variable {P:Program} {β:Bs} {N:dK} {ops:Array Oper} {k:Nat} {fr:Fr} {hps aL:List HP} {Q:Post} {d:Option Tmp} {op:Op} {v:Value}
theorem af.gK (hop:∀junk,eV N junk ops fr k=some (op,d)) (h:∀(o:Oper) junk w,o.op=op->Sat β hps w->∃w',jt P (dI N fr junk) o w v w'/\Sat β aL w')
 (K:af P β N ops (k+1) (dF fr d v) aL Q):af P β N ops k fr hps Q:=by
 intro junk w hS
 obtain⟨o,h1,h2,h3,rfl⟩:=j6 (hop junk)
 obtain⟨w',h4,h5⟩:=h o junk w h3 hS
 rw [drop_cons h1]
 unfold wpList
 grind [fW,j5,fq,eX,eV,Sat,jt,dI,af,dF]
theorem af.rP {ι:Type} {v:ι->Value} {hp':ι->List HP} (hop:∀junk,eV N junk ops fr k=some (op,d)) (h:∀(o:Oper) junk w,o.op=op->Sat β hps w->∃i w',jt P (dI N fr junk) o w (v i) w'/\Sat β (hp' i) w')
 (K:∀i,af P β N ops (k+1) (dF fr d (v i)) (hp' i) Q):af P β N ops k fr hps Q:=by
 intro junk w hS
 obtain⟨o,h1,h2,h3,rfl⟩:=j6 (hop junk)
 obtain⟨i,w',h4,h5⟩:=h o junk w h3 hS
 rw [drop_cons h1]
 unfold wpList
 grind [fW,j5,fq,eX,eV,Sat,jt,dI,af,dF]
theorem aN.gK (hop:∀junk,eV N junk ops fr k=some (op,d)) (h:∀(o:Oper) junk w,o.op=op->Sat β hps w->jt P (dI N fr junk) o w v w)
 (K:aN P β N ops (k+1) (dF fr d v) hps Q):aN P β N ops k fr hps Q:=by
 intro junk
 obtain⟨o,h1,h2,h3,rfl⟩:=j6 (hop junk)
 rw [drop_cons h1]
 unfold wpQuiet
 rw [fW,if_pos h2]
 refine⟨v,λw hS=>?_,?_⟩
 ·unfold Oper.quietAt
  rw [fq]
  rcases h o junk w h3 hS with h4|⟨h4,h4'⟩
  ·rw [h4];exact⟨rfl,rfl⟩
  rw [h4'];exact⟨rfl,h4⟩
 rw [eX]
 exact K junk
variable {t K E:TypeId} {b n i:Nat} {f:Lit->Option Value} {x ix y:Operand} {key z u:Value} {kl:Lit} {r:Option Value}
theorem aE.get {w:World} (hS:Sat β hps w) (hp:hps[i]?=some (.abs (aE P K b f n))):fk P K w b f n:=by
 obtain⟨F,hF⟩:=hS.get hp
 exact hF.1
theorem qD {w:World} {o:Oper} {ev:Operand->Value} (ho:o.op=.lookup t x ix true) (hm:fk P K w b f n) (hx:ev x=.map (some b)) (iu:ev ix=key) (L:Keyed P K) (ht:P.underlying t=some (.map K E))
 (hz:(zeroValue E).run P w=.ok z w) (hkey:keyOf P K key=some kl):jt P ev o w (.tuple #[(f kl).getD z,.bool (f kl).isSome]) w:=by
 have h:=hm.look_ok L ht hz hkey
 obtain⟨dst,op,type,pos,after,guard⟩:=o
 cases ho
 refine .inl ?_
 simp only [execOp,hx,iu]
 simp [go_sem,h]
theorem nD {w:World} {o:Oper} {ev:Operand->Value} (ho:o.op=.lookup t x ix false) (hm:fk P K w b f n) (hx:ev x=.map (some b)) (iu:ev ix=key) (L:Keyed P K) (ht:P.underlying t=some (.map K E))
 (hz:(zeroValue E).run P w=.ok z w) (hkey:keyOf P K key=some kl):jt P ev o w ((f kl).getD z) w:=by
 have h:=hm.look L ht hz hkey
 obtain⟨dst,op,type,pos,after,guard⟩:=o
 cases ho
 refine .inl ?_
 simp only [execOp,hx,iu]
 simp [go_sem,h]
theorem af.lq (i:Nat) (hop:∀junk,eV N junk ops fr k=some (.lookup t x ix true,d)) (hp:hps[i]?=some (.abs (aE P K b f n))) (hx:∀junk,dI N fr junk x=.map (some b)) (iu:∀junk,dI N fr junk ix=key) (L:Keyed P K)
 (ht:P.underlying t=some (.map K E)) (hz:∀w,(zeroValue E).run P w=.ok z w) (hkey:keyOf P K key=some kl) (hr:f kl=r) (K':af P β N ops (k+1) (dF fr d (.tuple #[r.getD z,.bool r.isSome])) hps Q):af P β N ops k fr hps Q:=by
 subst hr
 exact af.gK hop (λo junk w ho hS=>⟨w,qD ho (aE.get hS hp) (hx junk) (iu junk) L ht (hz w) hkey,hS⟩) K'
theorem af.dO (i:Nat) (hop:∀junk,eV N junk ops fr k=some (.lookup t x ix false,d)) (hp:hps[i]?=some (.abs (aE P K b f n))) (hx:∀junk,dI N fr junk x=.map (some b)) (iu:∀junk,dI N fr junk ix=key) (L:Keyed P K)
 (ht:P.underlying t=some (.map K E)) (hz:∀w,(zeroValue E).run P w=.ok z w) (hkey:keyOf P K key=some kl) (hr:f kl=r) (K':af P β N ops (k+1) (dF fr d (r.getD z)) hps Q):af P β N ops k fr hps Q:=by
 subst hr
 exact af.gK hop (λo junk w ho hS=>⟨w,nD ho (aE.get hS hp) (hx junk) (iu junk) L ht (hz w) hkey,hS⟩) K'
theorem aN.dO (i:Nat) (hop:∀junk,eV N junk ops fr k=some (.lookup t x ix false,d)) (hp:hps[i]?=some (.abs (aE P K b f n))) (hx:∀junk,dI N fr junk x=.map (some b)) (iu:∀junk,dI N fr junk ix=key) (L:Keyed P K)
 (ht:P.underlying t=some (.map K E)) (hz:∀w,(zeroValue E).run P w=.ok z w) (hkey:keyOf P K key=some kl) (hr:f kl=r) (K':aN P β N ops (k+1) (dF fr d (r.getD z)) hps Q):aN P β N ops k fr hps Q:=by
 subst hr
 exact aN.gK hop (λo junk w ho hS=>nD ho (aE.get hS hp) (hx junk) (iu junk) L ht (hz w) hkey) K'
theorem step_map {w w':World} {f':Lit->Option Value} {n':Nat} {F:Fp} (hF:(HP.abs (aE P K b f n)).h F w) (h:fk P K w' b f' n') (hk:Keeps (·=b) w w'):∃F',(HP.abs (aE P K b f' n')).h F' w'/\Step F w F' w':=
 ⟨F,⟨h,hF.2⟩,hk.mono (λ_ _ e=>(hF.2 _).2 e),λ_ h=>.inl h⟩
theorem af.kQ (i:Nat) (hop:∀junk,eV N junk ops fr k=some (.mapUpdate t x ix y,d)) (hp:hps[i]?=some (.abs (aE P K b f n))) (hx:∀junk,dI N fr junk x=.map (some b)) (iu:∀junk,dI N fr junk ix=key) (hy:∀junk,dI N fr junk y=u) (L:Keyed P K)
 (ht:P.underlying t=some (.map K E)) (hn:n<maxLen) (hkey:keyOf P K key=some kl) {n':Nat} (hn':(if (f kl).isSome then n else n+1)=n') {f':Lit->Option Value} (hf':mI f kl (some u)=f')
 (K':af P β N ops (k+1) (dF fr d undef) (hps.set i (.abs (aE P K b f' n'))) Q):af P β N ops k fr hps Q:=by
 subst hn' hf'
 refine af.gK hop (λo junk w ho hS=>?_) K'
 obtain⟨F,hF⟩:=hS.get hp
 obtain⟨w',h1,h2,h3⟩:=hF.1.store L ht hn hkey u
 refine⟨w',.inr ⟨rfl,?_⟩,hS.set hp (λF hF=>step_map hF h2 h3)⟩
 obtain⟨dst,op,type,pos,after,guard⟩:=o
 cases ho
 simp only [execOp,hx junk,iu junk,hy junk]
 simp [go_sem,h1]
theorem Bo {w:World} {o:Oper} {ev:Operand->Value} {ats:Array TypeId} (ho:o.op=.call ⟨.builtin .len,#[x],ats⟩) (tX:ats=#[t]) (hm:fk P K w b f n) (hx:ev x=.map (some b)) (ht:P.underlying t=some (.map K E)) :
 jt P ev o w (.int .i64 ((n:Nat):Int)) w:=by
 have h:=hm.len ht o.type
 obtain⟨dst,op,type,pos,after,guard⟩:=o
 subst tX
 cases ho
 refine .inl ?_
 simp only [execOp,resolve,invoke,builtin]
 simp [go_sem,hx,h]
theorem af.kI (hop:∀junk,eV N junk ops fr k=some (.makeMap t none,d)) (P':Program) (hP:P'=P) (K:TypeId) (K':∀b,af P β N ops (k+1) (dF fr d (.map (some b))) (hps++[.abs (aE P K b (λ_=>none) 0)]) Q):af P β N ops k fr hps Q:=by
 subst hP
 refine af.rP (ι:=Nat) (v:=λb=>.map (some b)) (hp':=λb=>hps++[.abs (aE P' K b (λ_=>none) 0)]) hop (λo junk w ho hS=>⟨w.heap.size,w.alloc (.map #[] 0),.inl ?_,?_⟩) K'
 ·obtain⟨dst,op,type,pos,after,guard⟩:=o
  cases ho
  rfl
 exact hS.new (F:=λk=>k=w.heap.size) ⟨fk.made w P' K,λ_=>Iff.rfl⟩ ((Keeps.refl _ _).alloc _) (λk e=>Nat.le_of_eq e.symm)
end maps
end
section
open Go.RowKit
def av (e:TypeId) (size:Nat) (A:Option Addr) (n cap:Nat) (xs:List Value):dh where
 h F w:=w.ownsRow 0 e size (.slice A n cap) n xs/\∀k,F k↔(Value.slice A n cap).ownBlock=some k
 lt:=by rintro F w ⟨h,hF⟩ k hk;exact (h.lt k ((hF k).1 hk)).2
 st:=by rintro F w ⟨h,hF⟩ S w' hk hn;exact⟨hk.ownsRow h (λk e=>hn k ((hF k).2 e)),hF⟩
theorem av.len {e:TypeId} {size:Nat} {A:Option Addr} {n cap:Nat} {xs:List Value} {F:Fp} {w:World} (h:(HP.abs (av e size A n cap xs)).h F w):xs.length=n*size/\n<=cap:=by
 obtain⟨⟨h1,h2⟩,_⟩:=h
 grind
theorem av.head {e:TypeId} {size:Nat} {A:Option Addr} {n cap:Nat} {xs:List Value} {F:Fp} {w:World} (h:(HP.abs (av e size A n cap xs)).h F w) (hn:0<n):∃g,A=some ⟨g,0,none⟩:=by
 obtain⟨⟨h1,h2⟩,_⟩:=h
 grind
theorem av.cell {e:TypeId} {size:Nat} {g n cap j:Nat} {xs:List Value} {u:Value} (hj:xs[j]?=some u):∀F w,(av e size (some ⟨g,0,none⟩) n cap xs).h F w->w.cell? ⟨g,j,none⟩=some u:=by
 rintro F w ⟨h,_⟩
 obtain⟨h1,h2⟩:=h
 rcases h2 with ⟨e,_⟩|⟨g',cp,cur,e,_,hb,_,_,hs,ht⟩
 ·cases e
 cases e
 have hlt:=bZ hj
 have:cur.toList[j]?=some u:=by
  grind
 simpa [World.cell?,hb] using this
theorem av.nil (e:TypeId) (size:Nat) (w:World):(HP.abs (av e size none 0 0 [])).h (λ_=>False) w:=
 ⟨⟨by simp,.inl ⟨rfl,rfl⟩⟩,λk=>by simp [Value.ownBlock]⟩
theorem zy {α:Type} {l:List α} {i:Nat} {x:α} (h:l[i]?=some x):l.set i x=l:=by
 apply List.ext_getElem?
 grind
section rows
variable {P:Program} {β:Bs} {N:dK} {ops:Array Oper} {k:Nat} {fr:Fr} {hps aL:List HP} {Q:Post} {d:Option Tmp} {op:Op} {v:Value} {c:Code}
theorem Sat.fQ {e:TypeId} {size:Nat} {w:World} (h:Sat β hps w):Sat β (hps++[.abs (av e size none 0 0 [])]) w:=
 Sat.new h (av.nil e size w) (Keeps.refl _ _) (λ_ h=>h.elim)
theorem zA {b:Nat} {cs:List Value} {e:TypeId} {size n:Nat} {w:World} (hl:cs.length=n*size) (hm:n<=maxLen):∀F,(HP.blk b cs e).h F w->∃F',(HP.abs (av e size (some ⟨b,0,none⟩) n n cs)).h F' w/\Step F w F' w:=by
 rintro F ⟨h1,h2⟩
 refine⟨F,⟨⟨hl,.inr ⟨b,n,⟨cs⟩,rfl,Nat.zero_le _,h1,Nat.le_refl _,hm,by simpa using hl,?_⟩⟩,λk=>?_⟩,Step.refl F w⟩
 ·rw [←hl];exact List.take_length
 rw [h2 k]
 simp [Value.ownBlock,eq_comm]
theorem Sat.gT {b i:Nat} {cs:List Value} {e:TypeId} {w:World} (size n:Nat) (hp:hps[i]?=some (.blk b cs e)) (hl:cs.length=n*size) (hm:n<=maxLen) (h:Sat β hps w):Sat β (hps.set i (.abs (av e size (some ⟨b,0,none⟩) n n cs))) w:=
 h.set hp (zA hl hm)
theorem dS {b j:Nat} {news:List Value} {T:TypeId} (hp:hps[j]?=some (.blk b news T)):∀w,Sat β hps w->((some ⟨b,0,none⟩:Option Addr)=none/\news.length=0)\/∃ad,(some ⟨b,0,none⟩:Option Addr)=some ad/\∀j u,news[j]?=some u->w.cell? (ad.add j)=some u:=by
 intro w hS
 obtain⟨F,hF⟩:=hS.get hp
 refine .inr ⟨_,rfl,λj u hj=>?_⟩
 have ea:(⟨b,0,none⟩:Addr).add j=⟨b,j,none⟩:=by unfold Addr.add;split<;>simp_all
 rw [ea]
 exact (mq hF.1 rfl rfl hj).1
theorem af.append (i:Nat) {t e:TypeId} {z:Value} {size bytes n cap m c':Nat} {A A':Option Addr} {xs news:List Value} {s x:Operand} {ats:Array TypeId}
 (hop:∀junk,eV N junk ops fr k=some (.call ⟨.builtin .append,#[s,x],ats⟩,d)) (tX:ats=#[t,t]) (hp:hps[i]?=some (.abs (av e size A n cap xs))) (hs:∀junk,dI N fr junk s=.slice A n cap) (hx:∀junk,dI N fr junk x=.slice A' m c')
 (ht:P.underlying t=some (.slice e)) (fu:(P.info? e).map (λi=>(i.zero,i.size,i.bytes))=some (some z,size,bytes)) (hzs:z.cells.size=size) (hsz:0<size)
 (hl:news.length=m*size) (h1:∀u∈news,u.oneCell'=true) (hsrc:∀w,Sat β hps w->(A'=none/\news.length=0)\/∃ad,A'=some ad/\∀j u,news[j]?=some u->w.cell? (ad.add j)=some u)
 (h63:n+m<=maxLen) (hbytes:(n+m)*bytes<=140737488355328)
 (K':∀B cap',af P β N ops (k+1) (dF fr d (.slice B (n+m) cap')) (hps.set i (.abs (av e size B (n+m) cap' (xs++news)))) Q):af P β N ops k fr hps Q:=by
 subst tX
 obtain⟨inf,hi,hz,hsize,hby⟩:∃inf,P.info? e=some inf/\inf.zero=some z/\inf.size=size/\inf.bytes=bytes:=by
  cases h:P.info? e with
  |none=>rw [h] at fu;cases fu
  |some inf=>rw [h] at fu;simp at fu;exact⟨inf,rfl,fu.1,fu.2.1,fu.2.2⟩
 refine af.rP (ι:=Option Addr×Nat) (v:=λp=>.slice p.1 (n+m) p.2) (hp':=λp=>hps.set i (.abs (av e size p.1 (n+m) p.2 (xs++news)))) hop (λo junk w ho hS=>?_) (λp=>K' p.1 p.2)
 obtain⟨F,hF⟩:=hS.get hp
 have hlen:=av.len hF
 have hrun:∀v' w',(Builtin.append_ #[t,t] o.type #[.slice A n cap,.slice A' m c']).run P w=.ok v' w'->jt P (dI N fr junk) o w v' w':=λv' w' h=>by
  obtain⟨dst,op,type,pos,after,guard⟩:=o
  cases ho
  refine .inl ?_
  have h':(Builtin.append_ #[t,t] type #[.slice A n cap,.slice A' m c']).run P w=.ok v' w':=h
  simp only [execOp,resolve,invoke,builtin,hs junk,hx junk,List.map_toArray,List.map_cons,List.map_nil,Sem.run_bind,Sem.run_pure,Result.andThen_ok,h']
 rcases hsrc w hS with ⟨rfl,h0⟩|⟨ad,rfl,hnews⟩
 ·have hm0:m=0:=by
   rw [hl] at h0
   rcases Nat.mul_eq_zero.1 h0 with e|e
   ·exact e
   omega
  subst hm0
  have hn0:news=[]:=List.eq_nil_of_length_eq_zero h0
  subst hn0
  refine⟨(A,cap),w,hrun _ _ ?_,?_⟩
  ·have hu:=run_underlying ht w
   have h3:=je hi w
   rw [hsize] at h3
   have h4:(Builtin.append_ #[t,t] o.type #[.slice A n cap,.slice none 0 c']).run P w=.ok (.slice A n cap) w:=by
    cases A<;>simp [Builtin.append_,hu,h3,go_sem,Builtin.lenOf,Builtin.firstCells,hlen.2,storeCells]
   simpa using h4
  grind [av,zy]
 obtain⟨v',w',h2,h3,h4,_,h5⟩:=run_append_own_at (P:=P) w 0 t o.type e inf z size bytes ht hi hz hsize hby hzs hsz (.slice A n cap) n xs hF.1 ad m c' news hl hnews h1 h63 hbytes (Nat.zero_le _)
 have BR:∃B cap',v'=.slice B (n+m) cap':=by
  rcases h3.2 with ⟨e,e0⟩|⟨g,cp,cur,e,_⟩
  all_goals grind
 obtain⟨B,cap',rfl⟩:=BR
 refine⟨(B,cap'),w',hrun _ _ h2,hS.set hp (λF hF=>⟨λk=>(Value.slice B (n+m) cap').ownBlock=some k,⟨h3,λ_=>Iff.rfl⟩,((Keeps.refl F w).grown h4 (λk hk=>.inr ((hF.2 k).2 hk))),λk hk=>?_⟩)⟩
 rcases h5 with h5|h5
 ·exact .inl ((hF.2 k).2 (h5 ▸ hk))
 grind
end rows
end
section
open Go.RowKit
structure Bs.le (β β':Bs):Prop where
 O:∀k,β.O k->β'.O k
 os:β'.w0.os=β.w0.os
 tape:β'.w0.tape=β.w0.tape
 output:β'.w0.output=β.w0.output
 size:β.w0.heap.size<=β'.w0.heap.size
 old:∀k,β.O k->k<β.w0.heap.size/\β'.w0.heap[k]?=β.w0.heap[k]?
theorem Bs.le.trans {a b c:Bs} (h:a.le b) (g:b.le c):a.le c:=
 ⟨λk hk=>g.O k (h.O k hk),g.os.trans h.os,g.tape.trans h.tape,g.output.trans h.output,Nat.le_trans h.size g.size,λk hk=>⟨(h.old k hk).1,(g.old k (h.O k hk)).2.trans (h.old k hk).2⟩⟩
def Rd (β:Bs) (a:Addr) (v:Value):Prop:=β.O a.block/\β.w0.cell? a=some v
theorem Rd.le {β β':Bs} {a:Addr} {v:Value} (h:Rd β a v) (hle:β.le β'):Rd β' a v:=
 ⟨hle.O _ h.1,(World.cell?_of_block (w:=β.w0) (hle.old _ h.1).2).trans h.2⟩
theorem Bs.ok.le {β β':Bs} {w:World} (h:β'.ok w) (hle:β.le β'):β.ok w:=
 ⟨h.os.trans hle.os,h.tape.trans hle.tape,h.output.trans hle.output,Nat.le_trans hle.size h.size,λk hk=>⟨(hle.old k hk).1,(h.old k (hle.O k hk)).2.trans (hle.old k hk).2⟩⟩
theorem Sat.x5 {β β':Bs} {l:List HP} {w:World} (hle:β.le β') (h:Sat β' l w):Sat β l w:=by
 obtain⟨ho,φ,h1,h2,h3⟩:=h
 exact⟨ho.le hle,φ,h1,λi hi k hk hO=>h2 i hi k hk (hle.O k hO),h3⟩
theorem Sat.gy {β:Bs} {l l':List HP} {w:World} {p:HP} {i:Nat} {idx:List Nat} (h:Sat β l w) (hp:l[i]?=some p) (hn:dG (i::idx)=true) (hl:dR l idx=some l') :
 ∃F,p.h F w/\∃β':Bs,β.le β'/\(∀k,F k->β'.O k)/\β'.w0=w/\Sat β' l' w:=by
 have h':=h.pick (idx:=i::idx) (l':=p::l') hn (by simp only [dR,hp,hl])
 obtain⟨ho,φ,h1,h2,h3⟩:=h'
 refine⟨φ 0,h1 0 p rfl,⟨λk=>β.O k\/φ 0 k,w⟩,⟨λk hk=>.inl hk,ho.os,ho.tape,ho.output,ho.size,λk hk=>ho.old k hk⟩,λk hk=>.inr hk,rfl,⟨rfl,rfl,rfl,Nat.le_refl _,λk hk=>⟨?_,rfl⟩⟩,λj=>φ (j+1),λj q hq=>h1 (j+1) q (by simpa using hq),λj hj k hk hO=>?_,λj1 j2 iJ hj2 hne=>h3 _ _ (by simp;omega) (by simp;omega) (by omega)⟩
 ·rcases hk with hk|hk
  ·exact Nat.lt_of_lt_of_le (ho.old k hk).1 ho.size
  exact HP.lt (h1 0 p rfl) k hk
 rcases hO with hO|hO
 ·exact h2 (j+1) (by simp;omega) k hk hO
 exact h3 (j+1) 0 (by simp;omega) (by simp) (by omega) k hk hO
section rules
variable {P:Program} {β β':Bs} {N:dK} {ops:Array Oper} {k:Nat} {fr:Fr} {hps aL:List HP} {Q:Post} {c:Code} {e:Exit} {p:HP} {i:Nat} {idx:List Nat} {d:Option Tmp}
theorem af.gy {Φ:Bs->Prop} (i:Nat) (idx:List Nat) (hp:hps[i]?=some p) (hn:dG (i::idx)=true) (hl:dR hps idx=some aL) (wh:∀F w,p.h F w->∀β':Bs,(∀k,F k->β'.O k)->β'.w0=w->Φ β')
 (K:∀β':Bs,β.le β'->Φ β'->af P β' N ops k fr aL Q):af P β N ops k fr hps Q:=λjunk w hS=>by
 obtain⟨F,hF,β',hle,h1,h2,fN⟩:=hS.gy hp hn hl
 exact K β' hle (wh F w hF β' h1 h2) junk w fN
def cK (β:Bs) (A:Option Addr) (xs:List Value):Prop:=∀(j:Nat) (v:Value),xs[j]?=some v->A=some ⟨au A,ar A,none⟩/\Rd β ⟨au A,ar A+j,none⟩ v
theorem cK.le {A:Option Addr} {xs:List Value} (h:cK β A xs) (hle:β.le β'):cK β' A xs:=λj v hj=>⟨(h j v hj).1,(h j v hj).2.le hle⟩
theorem cK.gh {e:TypeId} {size n cap:Nat} {A:Option Addr} {xs:List Value} {F:Fp} {w:World} (h:(HP.abs (av e size A n cap xs)).h F w) (h1:∀k,F k->β'.O k) (h2:β'.w0=w):cK β' A xs:=by
 intro j v hj
 have hlt:=bZ hj
 have hl:=av.len h
 have hn:0<n:=by
  grind
 obtain⟨g,rfl⟩:=av.head h hn
 refine⟨rfl,h1 g ((h.2 g).2 rfl),?_⟩
 rw [h2]
 have:=av.cell hj F w h
 simpa [au,ar] using this
theorem av.tQ {e:TypeId} {size:Nat} {A:Option Addr} {n cap:Nat} {xs:List Value} {F:Fp} {w:World} (h:(HP.abs (av e size A n cap xs)).h F w) (hn:0<n):A=some ⟨au A,ar A,none⟩/\ar A=0:=by
 obtain⟨g,rfl⟩:=av.head h hn
 exact⟨rfl,rfl⟩
theorem pE {e:TypeId} {size n cap j g:Nat} {xs:List Value} {u:Value} {w:World} (_:j<xs.length):∀F,(HP.abs (av e size (some ⟨g,0,none⟩) n cap xs)).h F w →
 ∃F',(HP.abs (av e size (some ⟨g,0,none⟩) n cap (xs.set j u))).h F' (w.setCell ⟨g,j,none⟩ u)/\Step F w F' (w.setCell ⟨g,j,none⟩ u):=by
 rintro F ⟨⟨h1,h2⟩,hF⟩
 rcases h2 with ⟨e,_⟩|⟨g',cp,cur,e,_,hb,hle,hm,hs,ht⟩
 ·cases e
 cases e
 refine⟨F,⟨⟨by simpa using h1,.inr ⟨g,cap,cur.setIfInBounds j u,rfl,Nat.zero_le _,?_,hle,hm,by simpa using hs,?_⟩⟩,hF⟩,⟨(Keeps.refl _ _).setCell (.inr ((hF g).2 rfl)) u,λ_ h=>.inl h⟩⟩
 ·simp [World.setCell,Array.getElem?_modify,hb]
 rw [Array.toList_setIfInBounds,List.take_set,ht]
theorem af.j7 (i j:Nat) {T e:TypeId} {size n cap g:Nat} {xs:List Value} {u:Value} {a y:Operand} (hop:∀junk,eV N junk ops fr k=some (.store T a y,d)) (hp:hps[i]?=some (.abs (av e size (some ⟨g,0,none⟩) n cap xs)))
 (ha:∀junk,dI N fr junk a=.pointer (some ⟨g,j,none⟩)) (hy:∀junk,dI N fr junk y=u) (hT:(P.info? T).map (·.size)=some 1) (hu:u.oneCell'=true) (hj:j<xs.length)
 (K':af P β N ops (k+1) (dF fr d undef) (hps.set i (.abs (av e size (some ⟨g,0,none⟩) n cap (xs.set j u)))) Q):af P β N ops k fr hps Q:=by
 refine af.gK hop (λo junk w ho hS=>?_) K'
 obtain⟨F,hF⟩:=hS.get hp
 refine⟨w.setCell ⟨g,j,none⟩ u,.inr ⟨rfl,?_⟩,hS.set hp (pE hj)⟩
 obtain⟨x,hx⟩:=fY hj
 have hc:=av.cell hx F w hF
 have hf:w.frozen? ⟨g,j,none⟩=false:=by
  obtain⟨⟨_,h2⟩,_⟩:=hF
  rcases h2 with ⟨e,_⟩|⟨g',cp,cur,e,_,hb,_⟩
  ·cases e
  cases e;simp [World.frozen?,hb]
 obtain⟨inf,hi,hsz⟩:∃inf,P.info? T=some inf/\inf.size=1:=by
  cases h:P.info? T with
  |none=>rw [h] at hT;cases hT
  |some inf=>rw [h] at hT;exact⟨inf,rfl,by simpa using hT⟩
 have h3:=je hi w
 rw [hsz] at h3
 obtain⟨dst,op,type,pos,after,guard⟩:=o
 cases ho
 cases u<;>first
  |(simp [Value.oneCell'] at hu;done)
  |(simp only [execOp,ha junk,hy junk];simp [go_sem,Instr.storeAt,Instr.sureAddr,storeVar,h3,Value.cells,storeCells,store,Addr.add,Sem.run,hc,hf])
end rules
end
section
open Go.RowKit
theorem Bs.ok.wi {β:Bs} {w:World} (h:β.ok w):β.le β:=⟨λ_ h=>h,rfl,rfl,rfl,Nat.le_refl _,λk hk=>⟨(h.old k hk).1,rfl⟩⟩
def cO (P:Program) (β:Bs) (f:FuncId) (args:Array Value) (pre:List HP) (post:Bs->Value->List HP->Prop):Prop:=
 ∀(R:dh) w,Sat β (pre++[.abs R]) w->Calls P f args w λe w'=>∃β' v l,β.le β'/\e=.returned v/\post β' v l/\Sat β' (l++[.abs R]) w'
def AB (β:Bs) (R:dh) (post:Bs->Value->List HP->Prop):Ending->World->Prop:=λe w'=>∃β' v l,β.le β'/\e=.returned v/\post β' v l/\Sat β' (l++[.abs R]) w'
section C9
variable {P:Program} {β β':Bs} {N:dK} {n0:Nat} {ops:Array Oper} {k:Nat} {fr:Fr} {hps R l:List HP} {Q:Post} {f:FuncId} {args:Array Value} {d:Option Tmp} {pre:List HP} {post:Bs->Value->List HP->Prop} {pk idx:List Nat} {c:Code} {fn:Func} {v:Value} {ak:List Prop} {w:World}
theorem cO.use (h:cO P β f args pre post) (hS:Sat β (pre++R) w):Calls P f args w λe w'=>∃β' v l,β.le β'/\e=.returned v/\post β' v l/\Sat β' (l++R) w':=
 (h _ w hS.pT).mono λ_ _ ⟨β',v,l,h0,h1,h2,h3⟩=>⟨β',v,l,h0,h1,h2,h3.x3⟩
theorem cO.mono {post':Bs->Value->List HP->Prop} (h:cO P β f args pre post) (hp:∀β' v l,β.le β'->post β' v l->post' β' v l):cO P β f args pre post':=
 λR w hS=>(h R w hS).mono λ_ _ ⟨β',v,l,h0,h1,h2,h3⟩=>⟨β',v,l,h0,h1,hp β' v l h0 h2,h3⟩
theorem af.fo (hc:∀junk,mJ P β N junk ops fr k=some (f,args,d)) (hs:cO P β f args pre post) (hn:dG pk=true) (hp:dR hps pk=some (pre++R))
 (K:∀β' v l,β.le β'->post β' v l->af P β' N ops (k+1) (dF fr d v) (l++R) Q):af P β N ops k fr hps Q:=by
 intro junk w hS
 obtain⟨o,h1,h2,rfl,h3⟩:=mz (hc junk)
 rw [drop_cons h1]
 unfold wpList
 rw [fW,if_pos h2]
 refine .inl ?_
 unfold Oper.wp
 rw [fq,h3 w hS.nil,Oper.upon_enter]
 refine (hs.use (hS.pick hn hp)).mono ?_
 rintro e w' ⟨β',v,l,hle,rfl,hpost,fN⟩
 show wpList _ _ _ _ ((dV N fr junk).put o.dst v) w'
 rw [eX]
 exact K β' v l hle hpost junk w' fN
theorem cO.enter (hf:P.funcs[f]?=some fn) (hb:fn.body=some c) (hN:fn.ntmps=n0) (hl:args.toList.length<=n0) (h:β.le β->∀R:dh,ai P β ⟨n0,[]⟩ c (pU 0 args.toList) (pre++[.abs R]) (bodyPost P fn (AB β R post))):cO P β f args pre post:=by
 intro R w hS
 refine calls_of_wp hf hb ?_
 rw [hN,sF hl]
 exact h hS.1.wi R _ w hS
theorem ah.eW {R:dh} (hints:List Hint) (pk:List Nat) (hle:β.le β') (hr:∀junk,qB P β' ⟨n0,[]⟩ junk fn fr hps hints=some (v,ak)) (ho:jr ak) (hn:dG pk=true) (hp:dR hps pk=some (l++[.abs R])) (hpost:post β' v l) :
 ah β' ⟨n0,[]⟩ (bodyPost P fn (AB β R post)) .ret fr hps:=
 λjunk _ hS=>⟨rfl,v,nC (hr junk) ho hS,β',v,l,hle,rfl,hpost,hS.pick hn hp⟩
theorem ah.BS {R:dh} {post:Value->List HP->Prop} (hints:List Hint) (pk:List Nat) (hle:β.le β') (hr:∀junk,qB P β' ⟨n0,[]⟩ junk fn fr hps hints=some (v,ak)) (ho:jr ak) (hn:dG pk=true) (hp:dR hps pk=some (l++[.abs R])) (hpost:post v l) :
 ah β' ⟨n0,[]⟩ (bodyPost P fn (zx β R post)) .ret fr hps:=
 λjunk _ hS=>⟨rfl,v,nC (hr junk) ho hS,v,l,rfl,hpost,(hS.pick hn hp).x5 hle⟩
def AF (N:dK) {ι:Type} (bs:ι->Bs) (Inv:ι->Prop) (μ:ι->Nat) (fr:ι->Fr) (hp:ι->List HP) (m:Nat):Act->World->Prop:=λa w=>∃i,Inv i/\μ i<m/\∃junk,a=dV N (fr i) junk/\Sat (bs i) (hp i) w
theorem ai.oR {ι:Type} (bs:ι->Bs) (Inv:ι->Prop) (μ:ι->Nat) (fr':ι->Fr) (hp':ι->List HP) (i0:ι) (hb:bs i0=β) (h0:Inv i0) (hf:∀junk,gS fr junk idx=fr' i0) (hn:dG pk=true) (hp:dR hps pk=some (hp' i0))
 (round:∀i,Inv i->ai P (bs i) N c (fr' i) (hp' i) (Exit.then (AF N bs Inv μ fr' hp' (μ i)) Q)):ai P β N (.loop c) fr hps Q:=by
 intro junk w hS
 subst hb
 refine wp_loop_ghost (λn a w=>∃i,Inv i/\μ i=n/\∃junk,a=dV N (fr' i) junk/\Sat (bs i) (hp' i) w) (μ i0) ⟨i0,h0,rfl,lk fr junk,by rw [gH N fr junk idx,hf junk],hS.pick hn hp⟩ ?_
 rintro n a w ⟨i,hi,rfl,junk,rfl,hS⟩
 refine Code.wp_mono (λe a w q=>?_) (round i hi junk w hS)
 cases e with
 |normal=>
   obtain⟨i',hi',hlt,qA,e,fN⟩:=q
   exact⟨μ i',hlt,i',hi',rfl,qA,e,fN⟩
 |exit id=>exact q
 |goto l=>exact q
 |ret=>exact q
 |panic ch=>exact q
 |outgrown=>exact q
theorem ah.ju {ι:Type} {bs:ι->Bs} {Inv:ι->Prop} {μ:ι->Nat} {fr':ι->Fr} {hp':ι->List HP} {m:Nat} (i:ι) (hb:bs i=β) (hi:Inv i) (hm:μ i<m) (hf:∀junk,gS fr junk idx=fr' i) (hn:dG pk=true) (hp:dR hps pk=some (hp' i)) :
 ah β N (Exit.then (AF N bs Inv μ fr' hp' m) Q) .normal fr hps:=λjunk _ hS=>⟨i,hi,hm,lk fr junk,by rw [gH N fr junk idx,hf junk],hb ▸ hS.pick hn hp⟩
end C9
end
section
open Go.RowKit
section still
variable {P:Program} {β:Bs} {N:dK} {junk:Nat->Value} {ops:Array Oper} {n:Nat} {w:World}
theorem tY {hs:List OH}:∀{k k':Nat} {fr fr':Fr} {S S':SS},ij P β n true N junk ops hs k fr S=some (k',fr',S')->k<=k':=by
 induction hs with
 |nil=>intro k k' fr fr' S S' h;cases h;exact Nat.le_refl _
 |cons h hs ih=>
   grind [ij]
theorem mL {o:Oper} {k k':Nat} (h:ops.toList[k]?=some o) (hk:k<k'):(ops.toList.take k').drop k=o::(ops.toList.take k').drop (k+1):=by
 have h1:(ops.toList.take k')[k]?=some o:=by
  rw [List.getElem?_take,if_pos hk];exact h
 have h2:=bZ h1
 rw [List.drop_eq_getElem_cons h2]
 grind
end still
theorem Spec.quiet {P:Program} {β:Bs} {f:FuncId} {args:Array Value} {v:Value} (h:∀w,Calls P f args w λe w'=>e=.returned v/\w'=w):Spec P β f args [] (λv' l=>v'=v/\l=[]):=
 λ_ w hS=>(h w).mono λ_ _ ⟨h1,h2⟩=>⟨v,[],h1,⟨rfl,rfl⟩,h2 ▸ hS⟩
def cu (P:Program) (β:Bs) (N:dK) (ops:Array Oper) (n k:Nat) (fr:Fr) (hps:List HP) (Q:Post):Prop:=
 ∀junk w,Sat β hps w->wpStill P ops w (λa'=>wpList P ops Q (ops.toList.drop n) a' w) ((ops.toList.take n).drop k) (dV N fr junk)
section heads
variable {P:Program} {β:Bs} {N:dK} {ops:Array Oper} {n k k':Nat} {fr fr':Fr} {hps:List HP} {Q:Post} {ak:List Prop} {d:Option Tmp} {op:Op} {v:Value} {i:Nat}
theorem jv {junk:Nat->Value} {w:World} {m:Nat} {Q:Act->Prop}:∀{hs:List OH} {k k':Nat} {fr fr':Fr} {S S':SS},ij P β m true N junk ops hs k fr S=some (k',fr',S')->(∀p,p∈S'.ak->p)->S.used=true->Sat β S.hps w->k'<=n →
 wpStill P ops w Q ((ops.toList.take n).drop k') (dV N fr' junk)->wpStill P ops w Q ((ops.toList.take n).drop k) (dV N fr junk)
 |[],k,k',fr,fr',S,S',h,ho,hu,hS,hn,hK=>by cases h;exact hK
 |h::hs,k,k',fr,fr',S,S',hr,ho,hu,hS,hn,hK=>by
   unfold ij at hr
   split at hr
   ·cases hr
   rename_i o hget
   have hk:k<n:=by
    refine Nat.lt_of_lt_of_le ?_ hn
    split at hr
    ·split at hr
     ·exact tY hr
     cases hr
    exact tY hr
   rw [mL hget hk]
   unfold wpStill
   have hw:Region.wanted o (yielded ops (dV N fr junk).tmps)=Region.wanted o (yF ops N fr junk):=by
    have:yielded ops (dV N fr junk).tmps=yF ops N fr junk:=funext (tP ops N fr junk)
    rw [this]
   rw [hw]
   split at hr
   ·rename_i xY
    rw [if_pos xY]
    split at hr
    ·rename_i v S1 h0
     obtain⟨e1,e2⟩:=rO h0
     obtain⟨w',h1,h2,h3,h4⟩:=kC h0 (λp hp=>ho p (j4 hr p hp)) hS (λe=>by rw [hu] at e;cases e)
     obtain⟨ew,e⟩:=h4 rfl
     rw [ew] at h1 h2
     unfold Oper.still
     rw [fq]
     rcases h1 with h1|⟨h1,h1'⟩
     ·rw [h1,Oper.stillUpon_value,eX]
      exact jv hr ho (e2.trans hu) h2 hn hK
     subst h1
     rw [h1',Oper.stillUpon_skip,eX]
     exact jv hr ho (e2.trans hu) h2 hn hK
    cases hr
   rename_i hwf
   rw [if_neg (by simp [hwf])]
   rw [eX]
   exact jv hr ho hu hS hn hK
theorem ai.eY {id:Nat} (n:Nat) (hm:P.follows .mixedOrders=true) (hB:Region.lexTailB .any ops n=true) (h:cu P β N ops n 0 fr hps Q):ai P β N (.region id ops true) fr hps Q:=by
 intro junk w hS
 obtain⟨ops⟩:=ops
 exact wp_region_still_tail n hm hB (h junk (w.drewN 1) (hS.drewN 1))
theorem cu.seg (hs:List OH) (idx:List Nat) (h:∀m junk,kO P β m true N junk ops hs k fr hps idx (List.range hps.length)=some (k',fr',hps,ak)) (ho:jr ak) (hk:k'<=n) (K:cu P β N ops n k' fr' hps Q):cu P β N ops n k fr hps Q:=by
 intro junk w hS
 obtain⟨pz,S,h1,h2,h3,h4,h5⟩:=pS (h 0 junk)
 have hK:=K (lk pz junk) w hS
 rw [h4,←gH] at hK
 exact jv h1 (λp hp=>ho.mem (h5 ▸ hp)) rfl hS hk hK
theorem cu.done (hk:k=n) (K:af P β N ops n fr hps Q):cu P β N ops n k fr hps Q:=by
 intro junk w hS
 subst hk
 have e:(ops.toList.take k).drop k=[]:=by grind
 rw [e]
 exact K junk w hS
theorem cu.gK (hop:∀junk,eV N junk ops fr k=some (op,d)) (hk:k<n) (h:∀(o:Oper) junk w,o.op=op->Sat β hps w->jt P (dI N fr junk) o w v w) (K:cu P β N ops n (k+1) (dF fr d v) hps Q):cu P β N ops n k fr hps Q:=by
 intro junk w hS
 obtain⟨o,h1,h2,h3,rfl⟩:=j6 (hop junk)
 rw [mL h1 hk]
 unfold wpStill
 rw [fW,if_pos h2]
 unfold Oper.still
 rw [fq]
 have hK:=K junk w hS
 rw [←eX] at hK
 rcases h o junk w h3 hS with h4|⟨h4,h4'⟩
 ·rw [h4,Oper.stillUpon_value];exact hK
 subst h4
 rw [h4',Oper.stillUpon_skip];exact hK
section maps
open Go.Maps
variable {t K E:TypeId} {b cnt:Nat} {f:Lit->Option Value} {x ix:Operand} {key z:Value} {kl:Lit} {r:Option Value}
theorem cu.dO (i:Nat) (hop:∀junk,eV N junk ops fr k=some (.lookup t x ix false,d)) (hp:hps[i]?=some (.abs (aE P K b f cnt))) (hx:∀junk,dI N fr junk x=.map (some b)) (iu:∀junk,dI N fr junk ix=key) (L:Keyed P K)
 (ht:P.underlying t=some (.map K E)) (hz:∀w,(zeroValue E).run P w=.ok z w) (hkey:keyOf P K key=some kl) (hr:f kl=r) (hk:k<n) (K':cu P β N ops n (k+1) (dF fr d (r.getD z)) hps Q):cu P β N ops n k fr hps Q:=by
 subst hr
 exact cu.gK hop hk (λo junk w ho hS=>nD ho (aE.get hS hp) (hx junk) (iu junk) L ht (hz w) hkey) K'
end maps
end heads
end
section
open Go.RowKit Go.Maps
open Go.ChangeMaps (setBlock)
theorem rQ (w:World) (r:Nat) (o:Obj):Keeps (·=r) w (setBlock w r o):=
 ⟨rfl,rfl,rfl,by simp [setBlock],λk _ hk=>by
  show (w.heap.setIfInBounds r o)[k]?=_
  rw [Array.getElem?_setIfInBounds_ne (λe=>hk e.symm)]⟩
theorem tZ {w:World} {r:Nat} {o o':Obj} (h:w.heap[r]?=some o'):(setBlock w r o).heap[r]?=some o:=by
 have:=lt_of_some h
 show (w.heap.setIfInBounds r o)[r]?=_
 rw [Array.getElem?_setIfInBounds_self_of_lt this]
def jU (r:Nat) (s:ByteArray) (pos:Nat):dh where
 h F w:=w.heap[r]?=some (.stringIter s pos)/\∀k,F k↔k=r
 lt:=by grind
 st:=by rintro F w ⟨h,hF⟩ S w' hk hn;exact⟨(hk.block r (lt_of_some h) (hn r ((hF r).2 rfl))).trans h,hF⟩
def rR (P:Program) (b r:Nat) (t:Value) (w:World):Prop:=
 ∃w0:World,w0.heap[b]?=w.heap[b]?/\w0.heap[r]?=w.heap[r]?/\(Instr.entry (.pointer (some ⟨r,0,none⟩))).run P w0=.ok t w0
theorem rR.run {P:Program} {b r:Nat} {t:Value} {w:World} {es:Array MapEntry} {clock since c0:Nat} {seen:Array Nat} (h:rR P b r t w) (hb:w.heap[b]?=some (.map es clock)) (hr:w.heap[r]?=some (.mapIter (some b) since seen c0)) :
 (Instr.entry (.pointer (some ⟨r,0,none⟩))).run P w=.ok t w:=by
 obtain⟨w0,h1,h2,h3⟩:=h
 rw [hb] at h1
 rw [hr] at h2
 simp only [Instr.entry,getObj,Sem.run_bind,Sem.run,h2,hr,Result.andThen] at h3 ⊢
 cases hs:seen.back? with
 |none=>simp [hs,stuck] at h3
 |some st=>
   simp only [hs,Sem.run_bind,Sem.run,h1,hb,Result.andThen] at h3 ⊢
   by_cases hc:(clock != c0)=true
   ·simp [hc,unsupported,Sem.run,Result.andThen] at h3
   simp only [hc,Bool.false_eq_true,if_false] at h3 ⊢
   cases hf:es.find? (λe=>e.born == st) with
   |none=>simp [hf,unsupported] at h3
   |some e=>
     simp [hf] at h3 ⊢
     exact h3
structure wj (P:Program) (K:TypeId) (w:World) (b r:Nat) (f:Lit->Option Value) (n:Nat) (left:Lit->Bool) (cnt:Nat) (last:Option Value) (D:DataW Value):Prop where
 rg:w.ranges P K nA b r n D left cnt
 sz:Maps.size D=n
 has:∀kl,Maps.has D kl=(f kl).isSome
 at_:∀kl v,f kl=some v->∀z,D.atKey kl z=.held v
 sub:∀kl,left kl=true->(f kl).isSome=true
 last:∀t,last=some t->rR P b r t w
def eT (P:Program) (K:TypeId) (b r:Nat) (f:Lit->Option Value) (n:Nat) (left:Lit->Bool) (cnt:Nat) (last:Option Value):dh where
 h F w:=(∃D,wj P K w b r f n left cnt last D)/\∀k,F k↔(k=b\/k=r)
 lt:=by
  rintro F w ⟨⟨D,h⟩,hF⟩ k hk
  rcases (hF k).1 hk with rfl|rfl
  ·exact h.rg.owns.lt
  exact h.rg.lt
 st:=by
  rintro F w ⟨⟨D,h⟩,hF⟩ S w' hk hn
  have hb:=hk.block b h.rg.owns.lt (hn b ((hF b).2 (.inl rfl)))
  have hr:=hk.block r h.rg.lt (hn r ((hF r).2 (.inr rfl)))
  refine⟨⟨D,?_,h.sz,h.has,h.at_,h.sub,λt ht=>?_⟩,hF⟩
  ·obtain⟨es,clock,since,seen,c0,e1,e2,e3,e4,e5,e6⟩:=h.rg
   exact⟨es,clock,since,seen,c0,hb.trans e1,e2,e3,e4,hr.trans e5,e6⟩
  obtain⟨w0,h1,h2,h3⟩:=h.last t ht
  exact⟨w0,h1.trans hb.symm,h2.trans hr.symm,h3⟩
section rules
variable {P:Program} {β:Bs} {N:dK} {ops:Array Oper} {k:Nat} {fr fr':Fr} {hps aL:List HP} {Q:Post} {d:Option Tmp} {op:Op} {v:Value} {t K E:TypeId} {x:Operand} {s:ByteArray} {b r pos i n cnt:Nat} {f:Lit->Option Value} {left:Lit->Bool} {last:Option Value}
theorem af.t6 (hop:∀junk,eV N junk ops fr k=some (.range t x,d)) (hx:∀junk,dI N fr junk x=.string s) (ht:P.underlying t=some .string) (K':∀r,af P β N ops (k+1) (dF fr d (.pointer (some ⟨r,0,none⟩))) (hps++[.abs (jU r s 0)]) Q):af P β N ops k fr hps Q:=by
 refine af.rP (ι:=Nat) (v:=λr=>.pointer (some ⟨r,0,none⟩)) (hp':=λr=>hps++[.abs (jU r s 0)]) hop (λo junk w ho hS=>⟨w.heap.size,w.iter s 0,.inl ?_,?_⟩) K'
 ·obtain⟨dst,op,type,pos,after,guard⟩:=o
  cases ho
  simp only [execOp,hx]
  simp [go_sem,ht]
 exact hS.new (F:=λk=>k=w.heap.size) ⟨World.iter_heap w s 0,λ_=>Iff.rfl⟩ ((Keeps.refl _ _).alloc _) (λk e=>Nat.le_of_eq e.symm)
theorem af.wk (i:Nat) (hop:∀junk,eV N junk ops fr k=some (.next x true,d)) (hp:hps[i]?=some (.abs (jU r s pos))) (hx:∀junk,dI N fr junk x=.pointer (some ⟨r,0,none⟩)) (hlt:pos<s.size)
 (K':af P β N ops (k+1) (dF fr d (.tuple #[.bool true,.int .i64 pos,.int .i32 (Utf8.decode s pos).1])) (hps.set i (.abs (jU r s (pos+(Utf8.decode s pos).2)))) Q):af P β N ops k fr hps Q:=by
 refine af.gK hop (λo junk w ho hS=>?_) K'
 obtain⟨F,hF⟩:=hS.get hp
 refine⟨setBlock w r (.stringIter s (pos+(Utf8.decode s pos).2)),.inl ?_,hS.set hp (λF hF=>⟨F,⟨tZ hF.1,hF.2⟩,(rQ w r _).mono (λ_ _ e=>(hF.2 _).2 e),λ_ h=>.inl h⟩)⟩
 have hr:=hF.1
 obtain⟨dst,op,type,pos',after,guard⟩:=o
 cases ho
 simp only [execOp,hx]
 simp [go_sem,Instr.next,getObj,setObj,Sem.run,hr,hlt,setBlock,goInt]
theorem af.x6 (i:Nat) (hop:∀junk,eV N junk ops fr k=some (.next x true,d)) (hp:hps[i]?=some (.abs (jU r s pos))) (hx:∀junk,dI N fr junk x=.pointer (some ⟨r,0,none⟩)) (hlt:¬pos<s.size)
 (K':af P β N ops (k+1) (dF fr d (.tuple #[.bool false])) hps Q):af P β N ops k fr hps Q:=by
 refine af.gK hop (λo junk w ho hS=>⟨w,.inl ?_,hS⟩) K'
 obtain⟨F,hF⟩:=hS.get hp
 have hr:=hF.1
 obtain⟨dst,op,type,pos',after,guard⟩:=o
 cases ho
 simp only [execOp,hx]
 simp [go_sem,Instr.next,getObj,setObj,Sem.run,hr,hlt]
theorem af.mapRange (i:Nat) (hop:∀junk,eV N junk ops fr k=some (.range t x,d)) (hp:hps[i]?=some (.abs (aE P K b f n))) (hx:∀junk,dI N fr junk x=.map (some b)) (L:Keyed P K) (ht:P.underlying t=some (.map K E))
 (K':∀r,af P β N ops (k+1) (dF fr d (.pointer (some ⟨r,0,none⟩))) (hps.set i (.abs (eT P K b r f n (λkl=>(f kl).isSome) n none))) Q):af P β N ops k fr hps Q:=by
 refine af.rP (ι:=Nat) (v:=λr=>.pointer (some ⟨r,0,none⟩)) (hp':=λr=>hps.set i (.abs (eT P K b r f n (λkl=>(f kl).isSome) n none))) hop (λo junk w ho hS=>?_) K'
 obtain⟨D,h1,h2,h3,h4⟩:=aE.get hS hp
 obtain⟨w',hrun,r1,r2,r3⟩:=h1.range L ht
 refine⟨w.heap.size,w',.inl ?_,hS.set hp (λF hF=>⟨λk=>k=b\/k=w.heap.size,⟨⟨D,?_,h2,h3,h4,λ_ h=>h,λ_ h=>by cases h⟩,λ_=>Iff.rfl⟩,(Keeps.refl _ _).grown r2 (λ_ h=>by cases h),λk hk=>?_⟩)⟩
 ·obtain⟨dst,op,type,pos',after,guard⟩:=o
  cases ho
  simp only [execOp,hx]
  simp [hrun,Result.andThen]
 ·rw [←h2]
  have e:Maps.has D=λkl=>(f kl).isSome:=funext h3
  rw [e] at r1
  rw [h2] at r1 ⊢
  exact r1
 rcases hk with rfl|rfl
 ·exact .inl ((hF.2 _).2 rfl)
 exact .inr (Nat.le_refl _)
theorem eT.map {w:World} {D:DataW Value} (h:wj P K w b r f n left cnt last D):fk P K w b f n:=⟨D,h.rg.owns,h.sz,h.has,h.at_⟩
theorem af.mapNext (i:Nat) (hop:∀junk,eV N junk ops fr k=some (.next x false,d)) (hp:hps[i]?=some (.abs (eT P K b r f n left cnt last))) (hx:∀junk,dI N fr junk x=.pointer (some ⟨r,0,none⟩)) (L:Keyed P K) (hK:P.underlying K=some (.int .i64))
 (Da:cnt=0->(∀kl,left kl=false)->af P β N ops (k+1) (dF fr d (.tuple #[.bool false])) hps Q)
 (Db:∀(z:Int) (u:Value) (cnt':Nat),left (.int .i64 z)=true->f (.int .i64 z)=some u->(Lit.int .i64 z).wf=true->cnt'<cnt →
  af P β N ops (k+1) (dF fr d (.tuple #[.bool true,.int .i64 z,u])) (hps.set i (.abs (eT P K b r f n (λkl=>left kl && !kl.sameKey (.int .i64 z)) cnt' (some (.tuple #[.int .i64 z,u]))))) Q):af P β N ops k fr hps Q:=by
 intro junk w hS
 obtain⟨F,⟨D,h⟩,hF⟩:=hS.get hp
 obtain⟨o,h1,h2,h3,rfl⟩:=j6 (hop junk)
 rcases h.rg.next L o.type with ⟨e0,el,hrun⟩|⟨key,u,kl,y,w',cnt',hkey,hlk,hv,hat,hrun,hrg,hlt,hgr,hsz,hen⟩
 ·have hk:=Da e0 el junk w hS
  rw [drop_cons h1]
  unfold wpList
  rw [fW,if_pos h2]
  refine .inl (j5 (v:=.tuple #[.bool false]) (w':=w) (.inl ?_) (by rw [eX];exact hk))
  rw [fq]
  obtain⟨dst,op,type,pos',after,guard⟩:=o
  cases h3
  simp only [execOp,hx]
  simp at hrun
  simp [hrun,Result.andThen]
 obtain⟨z,rfl,rfl,hwf⟩:=Maps.keyOf_int_inv hK hkey
 have hsome:=h.sub _ hlk
 obtain⟨u',hu'⟩:=Option.isSome_iff_exists.1 hsome
 have e1:=h.at_ _ _ hu' (.held u')
 rw [hat] at e1
 have e2:y.1=.held u:=by
  unfold nA at hv
  cases hv
  rfl
 rw [e2] at e1
 cases e1
 have hk:=Db z u cnt' hlk hu' hwf hlt junk w' (hS.set hp (λF hF=>⟨F,⟨⟨D,hrg,h.sz,h.has,h.at_,λkl hl=>h.sub kl (by simp at hl;exact hl.1),λt ht=>by cases ht;exact⟨w',rfl,rfl,hen⟩⟩,hF.2⟩,(Keeps.refl (λk=>F k) w).grown hgr (λj hj=>by cases hj;exact .inr ((hF.2 _).2 (.inr rfl))),λ_ h=>.inl h⟩))
 rw [drop_cons h1]
 unfold wpList
 rw [fW,if_pos h2]
 refine .inl (j5 (v:=.tuple #[.bool true,.int .i64 z,u]) (w':=w') (.inl ?_) (by rw [eX];exact hk))
 rw [fq]
 obtain⟨dst,op,type,pos',after,guard⟩:=o
 cases h3
 simp only [execOp,hx]
 simp at hrun
 simp [hrun,Result.andThen]
theorem af.mapEntry (i:Nat) (hop:∀junk,eV N junk ops fr k=some (.entry x,d)) (hp:hps[i]?=some (.abs (eT P K b r f n left cnt (some v)))) (hx:∀junk,dI N fr junk x=.pointer (some ⟨r,0,none⟩))
 (K':af P β N ops (k+1) (dF fr d v) hps Q):af P β N ops k fr hps Q:=by
 refine af.gK hop (λo junk w ho hS=>⟨w,.inl ?_,hS⟩) K'
 obtain⟨F,⟨D,h⟩,hF⟩:=hS.get hp
 have hl:=h.last _ rfl
 obtain⟨es,clock,since,seen,c0,e1,e2,e3,e4,e5,e6⟩:=h.rg
 have hrun:=hl.run e1 e5
 obtain⟨dst,op,type,pos',after,guard⟩:=o
 cases ho
 simp only [execOp,hx]
 simp [hrun,Result.andThen]
theorem eT.getM {w:World} (hS:Sat β hps w) (hp:hps[i]?=some (.abs (eT P K b r f n left cnt last))):fk P K w b f n:=by
 obtain⟨F,⟨D,h⟩,hF⟩:=hS.get hp
 exact eT.map h
theorem af.pF {ix:Operand} {key z:Value} {kl:Lit} {u:Option Value} (i:Nat) (hop:∀junk,eV N junk ops fr k=some (.lookup t x ix true,d)) (hp:hps[i]?=some (.abs (eT P K b r f n left cnt last))) (hx:∀junk,dI N fr junk x=.map (some b)) (iu:∀junk,dI N fr junk ix=key) (L:Keyed P K)
 (ht:P.underlying t=some (.map K E)) (hz:∀w,(zeroValue E).run P w=.ok z w) (hkey:keyOf P K key=some kl) (hr:f kl=u) (K':af P β N ops (k+1) (dF fr d (.tuple #[u.getD z,.bool u.isSome])) hps Q):af P β N ops k fr hps Q:=by
 subst hr
 exact af.gK hop (λo junk w ho hS=>⟨w,qD ho (eT.getM hS hp) (hx junk) (iu junk) L ht (hz w) hkey,hS⟩) K'
theorem af.zB (i:Nat) {ats:Array TypeId} (hop:∀junk,eV N junk ops fr k=some (.call ⟨.builtin .len,#[x],ats⟩,d)) (hp:hps[i]?=some (.abs (eT P K b r f n left cnt last))) (hx:∀junk,dI N fr junk x=.map (some b)) (tX:ats=#[t]) (ht:P.underlying t=some (.map K E))
 (K':af P β N ops (k+1) (dF fr d (.int .i64 ((n:Nat):Int))) hps Q):af P β N ops k fr hps Q:=
 af.gK hop (λ_ junk w ho hS=>⟨w,Bo ho tX (eT.getM hS hp) (hx junk) ht,hS⟩) K'
end rules
end
section
open Go.RowKit
theorem tL (z:Value) (n:Nat):(madeCells #[z] (n*1)).toList=List.replicate n z:=by
 rw [Nat.mul_one]
 apply List.ext_getElem
 ·simp [madeCells]
 intro j h1 h2
 simp [madeCells,Nat.mod_one]
section make
variable {P:Program} {β:Bs} {N:dK} {ops:Array Oper} {k:Nat} {fr:Fr} {hps:List HP} {Q:Post} {d:Option Tmp}
theorem af.pW {t e:TypeId} {z:Value} {bytes n:Nat} {l c:Operand} (hop:∀junk,eV N junk ops fr k=some (.makeSlice t l c,d)) (hl:∀junk,dI N fr junk l=.int .i64 ((n:Nat):Int)) (hc:∀junk,dI N fr junk c=.int .i64 ((n:Nat):Int))
 (ht:P.underlying t=some (.slice e)) (fu:(P.info? e).map (λi=>(i.zero,i.size,i.bytes))=some (some z,1,bytes)) (hzs:z.cells=#[z]) (hn:n<=16777216) (hb:bytes*n<=281474976710656)
 (K':∀b,af P β N ops (k+1) (dF fr d (.slice (some ⟨b,0,none⟩) n n)) (hps++[.abs (av e 1 (some ⟨b,0,none⟩) n n (List.replicate n z))]) Q):af P β N ops k fr hps Q:=by
 obtain⟨inf,hi,hz,hsize,hby⟩:∃inf,P.info? e=some inf/\inf.zero=some z/\inf.size=1/\inf.bytes=bytes:=by
  cases h:P.info? e with
  |none=>rw [h] at fu;cases fu
  |some inf=>rw [h] at fu;simp at fu;exact⟨inf,rfl,fu.1,fu.2.1,fu.2.2⟩
 refine af.rP (ι:=Nat) (v:=λb=>.slice (some ⟨b,0,none⟩) n n) (hp':=λb=>hps++[.abs (av e 1 (some ⟨b,0,none⟩) n n (List.replicate n z))]) hop (λo junk w ho hS=>?_) K'
 obtain⟨w',h1,h2,h3⟩:=run_makeSlice_full (P:=P) w 0 t e inf z 1 ht hi hz hsize .i64 .i64 n (by omega) (by rw [hby];exact hb) (by unfold maxLen;omega) (Nat.zero_le _)
 rw [hzs,tL] at h2
 refine⟨w.heap.size,w',.inl ?_,hS.new (F:=λk=>k=w.heap.size) ⟨h2,λj=>by simp [Value.ownBlock,eq_comm]⟩ ((Keeps.refl _ _).grown h3 (λ_ h=>by cases h)) (λk e=>Nat.le_of_eq e.symm)⟩
 obtain⟨dst,op,type,pos,after,guard⟩:=o
 cases ho
 simp only [execOp,hl,hc]
 simp [h1,Result.andThen]
end make
end
section
open Go.RowKit
theorem Dc {x:Int} (h0:0<=x) (h1:x<=18446744073709551615):Value.int .u64 (IntKind.wrap .u64 x)=Value.int .u64 x:=by
 rw [IntWalk.u64_in _ ⟨h0,h1⟩]
theorem zC {x:Int} (h0:0<=x) (h1:x<=255):Value.int .u8 (IntKind.wrap .u8 x)=Value.int .u8 x:=by
 rw [IntWalk.u8_in _ ⟨h0,h1⟩]
theorem BU {k:IntKind} {m:Nat}:Value.int k (Int.fdiv ((m:Nat):Int) (2 ^ 1))=Value.int k ((m / 2:Nat):Int):=by
 grind
def qE (b:Nat) (cs:List Value) (T:TypeId):dh where
 h F w:=(∃fz,w.heap[b]?=some (.cells ⟨cs⟩ T fz))/\∀k,F k↔k=b
 lt:=by
  rintro F w ⟨⟨fz,h1⟩,h2⟩ k hk
  rw [(h2 k).1 hk]
  exact lt_of_some h1
 st:=by
  rintro F w ⟨⟨fz,h1⟩,h2⟩ S w' hk hn
  exact⟨⟨fz,(hk.block b (lt_of_some h1) (hn b ((h2 b).2 rfl))).trans h1⟩,h2⟩
theorem cK.Bp {β':Bs} {b n:Nat} {cs:List Value} {T:TypeId} {F:Fp} {w:World} (h:(HP.abs (qE b cs T)).h F w) (h1:∀k,F k->β'.O k) (h2:β'.w0=w):cK β' (some ⟨b,0,none⟩) (cs.take n):=by
 obtain⟨⟨fz,h3⟩,h4⟩:=h
 intro j v hj
 have hj':cs[j]?=some v:=by
  grind
 refine⟨rfl,h1 b ((h4 b).2 rfl),?_⟩
 show β'.w0.cell? ⟨b,0+j,none⟩=some v
 rw [h2,Nat.zero_add]
 unfold World.cell?
 rw [h3]
 simpa using hj'
section mark
variable {P:Program} {β:Bs} {N:dK} {ops:Array Oper} {k:Nat} {fr:Fr} {hps:List HP} {Q:Post} {d:Option Tmp}
theorem af.x7 (i:Nat) {t e T:TypeId} {b o n c:Nat} {cs:List Value} {x:Operand} (hop:∀junk,eV N junk ops fr k=some (.convert t t x,d)) (hp:hps[i]?=some (.blk b cs T)) (hx:∀junk,dI N fr junk x=.slice (some ⟨b,o,none⟩) n c)
 (ht:P.underlying t=some (.slice e)) (he:P.underlying e=some (.int .u8)) (K':af P β N ops (k+1) (dF fr d (.slice (some ⟨b,o,none⟩) n c)) (hps.set i (.abs (qE b cs T))) Q):af P β N ops k fr hps Q:=by
 refine af.gK hop (λo' junk w ho hS=>?_) K'
 obtain⟨F,hF⟩:=hS.get hp
 have hb:=hF.1
 have hsz:b<w.heap.size:=lt_of_some hb
 refine⟨w.freeze ⟨b,cs.length,none⟩ 1,.inl ?_,hS.set hp (λF hF=>?_)⟩
 ·obtain⟨dst,op,type,pos,after,guard⟩:=o'
  cases ho
  have h1:(underlying t).run P w=.ok (.slice e) w:=run_underlying ht w
  have h2:(underlying e).run P w=.ok (.int .u8) w:=run_underlying he w
  have h3:w.shape? b=some (T,cs.length):=by unfold World.shape?;rw [hb];rfl
  simp [execOp,convert,hx,go_sem,h1,h2,markStringish,h3]
 refine⟨F,⟨⟨(if ((0:Nat) == 0)=true then (cs.length,cs.length+1) else (min 0 cs.length,max 0 (cs.length+1))),?_⟩,hF.2⟩,⟨⟨rfl,rfl,rfl,?_,?_⟩,λ_ h=>.inl h⟩⟩
 ·simp [World.freeze,Array.getElem?_modify,hF.1]
 ·simp [World.freeze]
 intro k _ hk
 have hne:¬b=k:=λe=>hk ((hF.2 k).2 e.symm)
 simp [World.freeze,Array.getElem?_modify,hne]
end mark
section adds
variable {P:Program} {β:Bs} {N:dK} {ops:Array Oper} {e0 k:Nat} {fr:Fr} {hps:List HP} {Q:Post} {d:Option Tmp} {t t2:TypeId} {x y:Operand} {a b:ByteArray}
theorem wQ {w:World} {o:Oper} {ev:Operand->Value} (ho:o.op=.binOp .add t x y t2) (hx:ev x=.string a) (hy:ev y=.string b) (hs:a.size+b.size<=9223372036854775807):jt P ev o w (.string (a++b)) w:=by
 obtain⟨dst,op,type,pos,after,guard⟩:=o
 cases ho
 refine .inl ?_
 simp [execOp,hx,hy,binOp,eqGuard,Op.stringOp,go_sem]
 omega
theorem af.fU (hop:∀junk,eV N junk ops fr k=some (.binOp .add t x y t2,d)) (hx:∀junk,dI N fr junk x=.string a) (hy:∀junk,dI N fr junk y=.string b) (hs:a.size+b.size<=9223372036854775807) (K:af P β N ops (k+1) (dF fr d (.string (a++b))) hps Q):af P β N ops k fr hps Q:=
 af.gK hop (λ_ junk w ho hS=>⟨w,wQ ho (hx junk) (hy junk) hs,hS⟩) K
theorem zD {e:TypeId} {size n m cap:Nat} {A:Option Addr} {xs:List Value} {w:World} (hm:m<=n):∀F,(HP.abs (av e size A n cap xs)).h F w->∃F',(HP.abs (av e size A m cap (xs.take (m*size)))).h F' w/\Step F w F' w:=by
 rintro F ⟨⟨h1,h2⟩,hF⟩
 refine⟨F,⟨⟨?_,?_⟩,λk=>?_⟩,Step.refl F w⟩
 ·rw [List.length_take,h1]
  exact Nat.min_eq_left (Nat.mul_le_mul_right _ hm)
 ·rcases h2 with ⟨e1,e2⟩|⟨g,cp,cur,e1,h3,h4,h5,h6,h7,h8⟩
  ·grind
  cases e1
  refine .inr ⟨g,cap,cur,rfl,h3,h4,by omega,h6,h7,?_⟩
  rw [←h8,List.take_take]
  congr 1
  exact (Nat.min_eq_left (Nat.mul_le_mul_right _ hm)).symm
 rw [hF k]
 cases A<;>rfl
theorem Sat.cut {i e size n m cap:Nat} {A:Option Addr} {xs ys:List Value} {w:World} (hp:hps[i]?=some (.abs (av e size A n cap xs))) (hm:m<=n) (hy:xs.take (m*size)=ys) (h:Sat β hps w):Sat β (hps.set i (.abs (av e size A m cap ys))) w:=by
 subst hy
 exact h.set hp (zD hm)
end adds
theorem av.cellAt {e:TypeId} {A:Option Addr} {size n cap i j:Nat} {xs:List Value} {u:Value} (hi:i<n) (hj:xs[i*size+j]?=some u):∀F w,(av e size A n cap xs).h F w->w.cell? ⟨au A,ar A+i*size+j,none⟩=some u:=by
 intro F w h
 obtain⟨g,rfl⟩:=av.head h (by omega)
 have:=av.cell hj F w h
 grind [av,au,ar]
def eG (a b:ByteArray):Int:=Lib.compareBytes a.data.toList b.data.toList
theorem sG:∀a:List UInt8,Lib.compareBytes a a=0
 |[]=>rfl
 |a::r=>by
   have h:¬a<a:=by intro h;exact absurd h (by simp)
   simp only [Lib.compareBytes,if_neg h]
   exact sG r
theorem sH:∀{a b:List UInt8},Lib.compareBytes a b=0->a=b
 |[],[],_=>rfl
 |[],_::_,h=>by simp [Lib.compareBytes] at h
 |_::_,[],h=>by simp [Lib.compareBytes] at h
 |a::x,b::y,h=>by
   unfold Lib.compareBytes at h
   split at h
   ·cases h
   rename_i h1
   split at h
   ·cases h
   rename_i h2
   have e:a=b:=by
    apply UInt8.toNat_inj.1
    have h3:¬a.toNat<b.toNat:=λh=>h1 (UInt8.lt_iff_toNat_lt.2 h)
    have h4:¬b.toNat<a.toNat:=λh=>h2 (UInt8.lt_iff_toNat_lt.2 h)
    omega
   rw [e,sH h]
theorem sI:∀{a b:List UInt8},Lib.compareBytes a b<0↔Op.bytesLess a b=true
 |[],[]=>by simp [Lib.compareBytes,Op.bytesLess]
 |[],_::_=>by simp [Lib.compareBytes,Op.bytesLess]
 |_::_,[]=>by simp [Lib.compareBytes,Op.bytesLess]
 |a::x,b::y=>by
   unfold Lib.compareBytes Op.bytesLess
   by_cases h1:a<b
   ·simp [h1]
   by_cases h2:b<a
   ·have h3:¬a=b:=λe=>by subst e;exact h1 h2
    simp [h1,h2,h3]
   have e:a=b:=by
    apply UInt8.toNat_inj.1
    have h3:¬a.toNat<b.toNat:=λh=>h1 (UInt8.lt_iff_toNat_lt.2 h)
    have h4:¬b.toNat<a.toNat:=λh=>h2 (UInt8.lt_iff_toNat_lt.2 h)
    omega
   subst e
   simp only [h1,if_false,decide_false,beq_self_eq_true,Bool.true_and,Bool.false_or]
   exact sI
theorem qF:∀{a b c:List UInt8},Lib.compareBytes a b<0->Lib.compareBytes b c<=0->Lib.compareBytes a c<0
 |[],[],_,h,_=>by simp [Lib.compareBytes] at h
 |[],_::_,[],_,h=>by simp [Lib.compareBytes] at h
 |[],_::_,_::_,_,_=>by simp [Lib.compareBytes]
 |_::_,[],_,h,_=>by simp [Lib.compareBytes] at h
 |_::_,_::_,[],_,h=>by simp [Lib.compareBytes] at h
 |a::x,b::y,c::z,h,g=>by
   unfold Lib.compareBytes at h g ⊢
   by_cases h1:a<b
   ·by_cases g1:b<c
    ·have:a<c:=by rw [UInt8.lt_iff_toNat_lt] at *;omega
     simp [this]
    by_cases g2:c<b
    ·simp [g1,g2] at g
    have e:b=c:=by
     apply UInt8.toNat_inj.1
     rw [UInt8.lt_iff_toNat_lt] at *
     omega
    subst e
    simp [h1]
   by_cases h2:b<a
   ·simp [h1,h2] at h
   have e:a=b:=by
    apply UInt8.toNat_inj.1
    rw [UInt8.lt_iff_toNat_lt] at *
    omega
   subst e
   simp only [h1,if_false] at h
   by_cases g1:a<c
   ·simp [g1]
   by_cases g2:c<a
   ·simp [g1,g2] at g
   simp only [g1,g2,if_false] at g ⊢
   exact qF h g
theorem sJ:∀{a b:List UInt8},Lib.compareBytes b a = - Lib.compareBytes a b
 |[],[]=>rfl
 |[],_::_=>rfl
 |_::_,[]=>rfl
 |a::x,b::y=>by
   unfold Lib.compareBytes
   by_cases h1:a<b
   ·have h2:¬b<a:=by rw [UInt8.lt_iff_toNat_lt] at *;omega
    simp [h1,h2]
   by_cases h2:b<a
   ·simp [h1,h2]
   simp only [h1,h2,if_false]
   exact sJ
theorem lu (a:ByteArray):eG a a=0:=sG _
theorem oq {a b:ByteArray}:eG a b=0↔a=b:=by
 refine⟨λh=>?_,λh=>by rw [h];exact lu b⟩
 have:=sH h
 obtain⟨⟨a⟩⟩:=a
 obtain⟨⟨b⟩⟩:=b
 have this:a=b:=this
 rw [this]
theorem nE {a b c:ByteArray} (h:eG a b<0) (g:eG b c<=0):eG a c<0:=qF h g
theorem x9 (a b:ByteArray):eG b a = - eG a b:=sJ
end
section
open Go.RowKit
def NP (Q:Post):Post:=λe a w=>match e with
 |.normal=>Q .normal a w
 |_=>False
section order
variable {P:Program} {ops:Array Oper} {Q Q':Post} {n:Nat} {S:World->Prop}
theorem nF (h:LetsOut (NP Q)):False:=by
 obtain⟨a,w,h⟩:=h
 exact h
theorem AJ {o:Oper} {a:Act} {w:World} {K:Act->World->Prop} (h:o.wp P a w K (NP Q)):o.wp P a w K (NP Q'):=by
 unfold Oper.wp at *
 generalize (execOp a.eval o).run P w=r at *
 cases r with
 |ok m w'=>
   cases m<;>simp only [Oper.upon] at h ⊢ <;>
    first
     |exact h
     |exact Calls.mono h (λe w'' he=>by cases e<;>first|exact he|exact (nF he).elim)
 |halt x w'=>cases x<;>simp only [Oper.upon] at h ⊢;exact h
theorem ou {i:Nat} {o:Oper} {a:Act} {w:World} {K:Act->World->Prop} (hi:ops[i]?=some o) (hg:o.guard=none) (h:wpList P #[o] (NP λ_ a w=>K a w) [o] a w):wpOp P ops (NP Q) i K a w:=by
 unfold wpOp
 simp only [hi]
 have hw:∀y,Region.wanted o y=true:=λy=>by unfold Region.wanted;rw [hg]
 rw [if_pos (hw _)]
 unfold wpList at h
 rw [if_pos (hw _)] at h
 rcases h with h|⟨_,h⟩
 ·exact .inl (AJ (Oper.wp_mono (λa w h=>h) h))
 exact (nF h).elim
theorem sK {o:Oper} {a:Act} {w:World} (hq:∀a w,Q .normal a w->Q' .normal a w) (h:wpList P ops (NP Q) [o] a w):wpList P ops (NP Q') [o] a w:=by
 unfold wpList at *
 split
 ·rename_i hw
  rw [if_pos hw] at h
  rcases h with h|⟨_,h⟩
  ·exact .inl (AJ (Oper.wp_mono (λa w h=>hq a w h) h))
  exact (nF h).elim
 rename_i hw
 rw [if_neg hw] at h
 exact hq _ _ h
def mM (P:Program) (ops:Array Oper) (Q:Post) (n:Nat) (S:World->Prop):Nat->Array Bool->Act->World->Prop
 |0,listed,a,w=>Region.ready .any ops listed=[]/\Q .normal a w
 |fuel+1,listed,a,w=>(Region.ready .any ops listed=[]->Q .normal a w) ∧
   ∀i∈Region.ready .any ops listed,wpOp P ops Q i (λa' w'=>(i=n\/S w')/\mM P ops Q n S fuel (listed.setIfInBounds i true) a' w') a w
theorem qG:∀(fuel:Nat) (listed:Array Bool) (a:Act) (w:World),mM P ops Q n S fuel listed a w->wpAny P .any ops Q fuel listed a w
 |0,_,_,_,h=>h
 |fuel+1,_,_,_,h=>⟨h.1,λi hi=>wpOp_mono (λa' w' h'=>qG fuel _ a' w' h'.2) (h.2 i hi)⟩
def Closed (ops:Array Oper) (listed:Array Bool):Prop:=∀j oj,ops[j]?=some oj->listed.getD j false=true->∀e∈oj.after,Region.binds .any e=true->listed.getD e.on false=true
theorem Closed.set {listed:Array Bool} {j:Nat} (h:Closed ops listed) (hj:j∈Region.ready .any ops listed):Closed ops (listed.setIfInBounds j true):=by
 obtain⟨_,oj,hoj,hall⟩:=mem_ready.1 hj
 intro k ok hk hl e he hb
 refine getD_set_true ?_
 by_cases hjk:j=k
 ·grind
 rw [getD_set_ne false hjk] at hl
 exact h k ok hk hl e he hb
theorem sM (hs:Region.sinkB .any ops n=true) {listed:Array Bool} (hc:Closed ops listed):∀(m i:Nat),n-i<=m->i<n->listed.getD i false=false->n∉Region.ready .any ops listed
 |0,i,hm,hi,_=>by omega
 |m+1,i,hm,hi,hu=>λhr=>by
   unfold Region.sinkB at hs
   rw [List.all_eq_true] at hs
   have h1:=hs i (List.mem_range.2 hi)
   rw [List.any_eq_true] at h1
   obtain⟨j,hj,h2⟩:=h1
   rw [Bool.and_eq_true,decide_eq_true_iff] at h2
   have hj:=List.mem_range.1 hj
   obtain⟨oj,hoj,e,he,hb,heq⟩:=Region.waitsFor_spec h2.2
   by_cases hjn:j=n
   ·subst hjn
    obtain⟨_,oj',BV,hall⟩:=mem_ready.1 hr
    rw [hoj] at BV
    cases BV
    have:=hall e he hb
    rw [heq,hu] at this
    cases this
   cases hl:listed.getD j false with
   |true=>
     have:=hc j oj hoj hl e he hb
     rw [heq,hu] at this
     cases this
   |false=>exact sM (by unfold Region.sinkB;rw [List.all_eq_true];exact hs) hc m j (by omega) (by omega) hl hr
theorem kq {listed:Array Bool} {i:Nat} (h:i∈Region.ready .any ops listed):listed.getD i false=false:=by
 have h1:=(mem_ready.1 h).1
 grind
theorem t7 {i:Nat} {oi:Oper} {v:Value} (hi:ops[i]?=some oi) (hsel:Region.noSelect ops=true) (tR:Region.sinkB .any ops n=true) (hin:i<n) :
 ∀(fuel:Nat) (listed:Array Bool) (a:Act) (w:World),Closed ops listed →
   (∀j oj,ops[j]?=some oj->j≠i->listed.getD j true=false->(∀e∈oj.after,Region.binds .any e=true->e.on≠i)->oi.apart ops oj=true) →
   i∈Region.ready .any ops listed->YieldsIf P ops S oi v a->S w →
   mM P ops (NP Q) n S fuel (listed.setIfInBounds i true) (a.put oi.dst v) w->mM P ops (NP Q) n S (fuel+1) listed a w:=by
 intro fuel
 induction fuel with
 |zero=>
   intro listed a w _ _ hr hy hS H
   refine⟨λh=>(by rw [h] at hr;cases hr),λj hj=>?_⟩
   by_cases hji:j=i
   ·subst hji;exact hy.wpOp hi hS ⟨.inr hS,H⟩
   have:=ready_mono hj hji
   rw [H.1] at this
   cases this
 |succ fuel ih=>
   intro listed a w hcl hfree hr hy hS H
   refine⟨λh=>(by rw [h] at hr;cases hr),λj hj=>?_⟩
   by_cases hji:j=i
   ·subst hji;exact hy.wpOp hi hS ⟨.inr hS,H⟩
   have h1:=H.2 j (ready_mono hj hji)
   have hjn:j≠n:=λe=>by
    subst e
    exact sM tR hcl _ i (Nat.le_refl _) hin (kq hr) hj
   obtain⟨hjun,oj,hoj,hall⟩:=mem_ready.1 hj
   have hnot:∀e∈oj.after,Region.binds .any e=true->e.on≠i:=λe he hb heq=>by
    grind [kq]
   have h2:=wpOp_putIf (S:=S) (Q:=NP Q) hoj (hfree j oj hoj hji hjun hnot) (λcs b=>Region.noSelect_spec hsel i oi cs b hi) (λcs b=>Region.noSelect_spec hsel j oj cs b hoj) (λ_ _ _ h=>h) hy h1
   have hfree':∀k ok,ops[k]?=some ok->k≠i->(listed.setIfInBounds j true).getD k true=false →
    (∀e∈ok.after,Region.binds .any e=true->e.on≠i)->oi.apart ops ok=true:=λk ok hk hki hun hno=>by
    refine hfree k ok hk hki ?_ hno
    by_cases hjk:j=k
    ·subst hjk;exact hjun
    rw [getD_set_ne true hjk] at hun;exact hun
   refine wpOp_mono (λa' w' h3=>?_) h2
   have fN:S w':=h3.2.1.resolve_left hjn
   refine⟨.inr fN,ih (listed.setIfInBounds j true) a' w' (hcl.set hj) hfree' (ready_mono hr (Ne.symm hji)) h3.1 fN ?_⟩
   rw [Array.setIfInBounds_comm _ _ hji]
   exact h3.2.2
def jw (P:Program) (ops:Array Oper) (Q:Post) (S:World->Prop):Nat->List Nat->Act->World->Prop
 |_,[],a,w=>Q .normal a w
 |0,i::l,a,w=>wpOp P ops Q i (λa' w'=>(l=[]\/S w')/\jw P ops Q S 0 l a' w') a w
 |r+1,i::l,a,w=>∃o v,ops[i]?=some o/\YieldsIf P ops S o v a/\jw P ops Q S r l (a.put o.dst v) w
def nG (ops:Array Oper) (n:Nat):Nat->List Nat->Array Bool->Bool
 |_,[],listed=>(Region.ready .any ops listed).isEmpty
 |0,i::l,listed=>(Region.ready .any ops listed == [i]) && (!l.isEmpty || i == n) && nG ops n 0 l (listed.setIfInBounds i true)
 |r+1,i::l,listed=>decide (i<n) && Region.free .any ops listed i && (Region.ready .any ops listed).contains i && nG ops n r l (listed.setIfInBounds i true)
theorem sN (hsel:Region.noSelect ops=true):∀(l:List Nat) (listed:Array Bool) (a:Act) (w:World),nG ops n 0 l listed=true->jw P ops (NP Q) S 0 l a w->mM P ops (NP Q) n S l.length listed a w
 |[],listed,a,w,hb,h=>⟨List.isEmpty_iff.1 hb,h⟩
 |i::l,listed,a,w,hb,h=>by
   unfold nG at hb
   simp only [Bool.and_eq_true,beq_iff_eq] at hb
   obtain⟨⟨h1,h2⟩,h3⟩:=hb
   refine⟨λh0=>(by rw [h1] at h0;cases h0),λj hj=>?_⟩
   rw [h1] at hj
   have hj:j=i:=by simpa using hj
   subst hj
   refine wpOp_mono (λa' w' h4=>⟨?_,sN hsel l _ a' w' h3 h4.2⟩) h
   rcases h4.1 with h5|h5
   ·subst h5;exact .inl (by simpa using h2)
   exact .inr h5
theorem wm (hsel:Region.noSelect ops=true) (tR:Region.sinkB .any ops n=true):∀(r:Nat) (l:List Nat) (listed:Array Bool) (a:Act) (w:World),nG ops n r l listed=true->Closed ops listed->S w->jw P ops (NP Q) S r l a w->mM P ops (NP Q) n S l.length listed a w
 |0,l,listed,a,w,hb,_,_,h=>sN hsel l listed a w hb h
 |r+1,[],listed,a,w,hb,_,_,h=>⟨List.isEmpty_iff.1 hb,h⟩
 |r+1,i::l,listed,a,w,hb,hc,hS,h=>by
   unfold nG at hb
   simp only [Bool.and_eq_true,decide_eq_true_iff] at hb
   obtain⟨⟨⟨h1,h2⟩,h3⟩,h4⟩:=hb
   obtain⟨o,v,ho,hy,hk⟩:=h
   have hr:i∈Region.ready .any ops listed:=by simpa using h3
   exact t7 ho hsel tR h1 l.length listed a w hc (Region.free_spec ho h2) hr hy hS (wm hsel tR r l _ _ w h4 (hc.set hr) hS hk)
def yc (ops:Array Oper) (perm:List Nat) (nr:Nat):Bool:=
 Region.noSelect ops && Region.sinkB .any ops (ops.size-1) && (perm.length == ops.size) && nG ops (ops.size-1) nr perm (Array.replicate ops.size false)
end order
section mix
variable {P:Program} {β:Bs} {N:dK} {ops:Array Oper} {S:List HP} {r r':Nat} {l l':List Nat} {fr fr':Fr} {hps:List HP} {Q:Post} {ak:List Prop} {d:Option Tmp} {op:Op} {v:Value} {i:Nat} {pk:List Nat}
def aX (P:Program) (β:Bs) (N:dK) (ops:Array Oper) (S:List HP) (r:Nat) (l:List Nat) (fr:Fr) (hps:List HP) (Q:Post):Prop:=
 ∀junk w,Sat β hps w->jw P ops (NP Q) (Sat β S) r l (dV N fr junk) w
theorem ai.dL {id:Nat} (perm:List Nat) (nr:Nat) (pk:List Nat) (hm:P.follows .mixedOrders=true) (hB:yc ops perm nr=true) (hn:dG pk=true) (hp:dR hps pk=some S) (h:aX P β N ops S nr perm fr hps Q):ai P β N (.region id ops true) fr hps Q:=by
 intro junk w hS
 unfold yc at hB
 simp only [Bool.and_eq_true,beq_iff_eq] at hB
 obtain⟨⟨⟨h1,h2⟩,h3⟩,h4⟩:=hB
 have fN:=hS.drewN 1
 have h5:=wm (Q:=Q) h1 h2 nr perm _ _ _ h4 (λj oj _ hl=>by simp [Array.getD_eq_getD_getElem?,Array.getElem?_replicate] at hl;split at hl<;>simp at hl) (fN.pick hn hp) (h junk (w.drewN 1) fN)
 rw [h3] at h5
 refine Code.wp_mono (λe a w q=>?_) (wp_region_any hm (qG _ _ _ _ h5))
 cases e with
 |normal=>exact q
 |exit id=>exact q.elim
 |goto l=>exact q.elim
 |ret=>exact q.elim
 |panic ch=>exact q.elim
 |outgrown=>exact q.elim
def mN:Value->Bool
 |.tuple a=>decide (a.size≠0)
 |_=>true
theorem sO {v:Value} (h:mN v=true):¬v=undef:=λe=>by subst e;exact absurd h (by decide)
def mO (P:Program) (β:Bs) (N:dK) (junk:Nat->Value) (ops:Array Oper):List OH->List Nat->Fr->SS->Option (Fr×SS)
 |[],[],fr,S=>some (fr,S)
 |h::hs,i::is,fr,S=>
   match ops[i]? with
   |some o=>
     match o.guard with
     |none=>
       match kN P β 0 true (dI N fr junk) o h S with
       |some (v,S')=>
         match mN v with
         |true=>mO P β N junk ops hs is (dF fr o.dst v) S'
         |false=>none
       |none=>none
     |some _=>none
   |none=>none
 |_,_,_,_=>none
def wo (P:Program) (β:Bs) (N:dK) (junk:Nat->Value) (ops:Array Oper) (hs:List OH) (is:List Nat) (fr:Fr) (S:List HP) (idx:List Nat):Option (Fr×List Prop):=
 match mO P β N junk ops hs is fr ⟨[],S,[],true⟩ with
 |some (fr',S')=>some (gS fr' junk idx,S'.ak)
 |none=>none
theorem qH {junk:Nat->Value}:∀{hs:List OH} {is:List Nat} {fr fr':Fr} {S S':SS},mO P β N junk ops hs is fr S=some (fr',S')->∀p,p∈S.ak->p∈S'.ak
 |[],[],fr,fr',S,S',h,p,hp=>by cases h;exact hp
 |h::hs,i::is,fr,fr',S,S',hr,p,hp=>by
   unfold mO at hr
   repeat' split at hr
   all_goals first|(cases hr;done)|skip
   rename_i h0 _ _
   exact qH hr p (tW h0 p hp)
 |[],_::_,_,_,_,_,h,_,_=>by cases h
 |_::_,[],_,_,_,_,h,_,_=>by cases h
theorem ow {junk:Nat->Value} {w:World}:∀{hs:List OH} {is:List Nat} {fr fr':Fr} {T T':SS},mO P β N junk ops hs is fr T=some (fr',T')->(∀p,p∈T'.ak->p)->T.used=true->T.hps=S →
 jw P ops (NP Q) (Sat β S) r l (dV N fr' junk) w->jw P ops (NP Q) (Sat β S) (is.length+r) (is++l) (dV N fr junk) w
 |[],[],fr,fr',T,T',h,ho,hu,hT,hK=>by cases h;simpa using hK
 |h::hs,i::is,fr,fr',T,T',hr,ho,hu,hT,hK=>by
   unfold mO at hr
   repeat' split at hr
   all_goals first|(cases hr;done)|skip
   rename_i o hget _ BW _ v T1 h0 _ hv
   obtain⟨e1,e2⟩:=rO h0
   have e:(i::is).length+r=(is.length+r)+1:=by simp;omega
   rw [e,List.cons_append]
   unfold jw
   refine⟨o,v,hget,.inl ⟨by unfold Region.wanted;rw [BW],λw' fN=>?_⟩,?_⟩
   ·rw [fq]
    obtain⟨w2,h1,_,_,h4⟩:=kC h0 (λp hp=>ho p (qH hr p hp)) (by rw [hT];exact fN) (λe=>by rw [hu] at e;cases e)
    obtain⟨ew,_⟩:=h4 rfl
    rw [ew] at h1
    rcases h1 with h1|⟨h1,_⟩
    ·exact h1
    exact absurd h1 (sO hv)
   rw [eX]
   exact ow hr ho (e2.trans hu) (e1.trans hT) hK
 |[],_::_,_,_,_,_,h,_,_,_,_=>by cases h
 |_::_,[],_,_,_,_,h,_,_,_,_=>by cases h
theorem aX.reads (is:List Nat) (hs:List OH) (idx:List Nat) (h:∀junk,wo P β N junk ops hs is fr S idx=some (fr',ak)) (ho:jr ak) (hr:r'=is.length+r) (hl:l'=is++l) (K:aX P β N ops S r l fr' hps Q):aX P β N ops S r' l' fr hps Q:=by
 intro junk w hS
 subst hr hl
 have h0:=h junk
 unfold wo at h0
 split at h0
 ·rename_i pz S1 h1
  cases h0
  have hK:=K (lk pz junk) w hS
  rw [←gH] at hK
  exact ow h1 (λp hp=>ho.mem hp) rfl rfl hK
 cases h0
def ye (ops:Array Oper) (i:Nat):Option (Op×Option Tmp):=match ops[i]? with
 |some o=>match o.guard with
   |none=>some (o.op,o.dst)
   |some _=>none
 |none=>none
theorem zE (h:ye ops i=some (op,d)):∃o,ops[i]?=some o/\o.guard=none/\o.op=op/\o.dst=d:=by
 grind [ye]
theorem aX.Dd (hop:ye ops i=some (op,d)) (h:∀(o:Oper) junk w,o.op=op->Sat β S w->jt P (dI N fr junk) o w v w) (hv:mN v=true) (K:aX P β N ops S r l (dF fr d v) hps Q):aX P β N ops S (r+1) (i::l) fr hps Q:=by
 intro junk w hS
 obtain⟨o,h1,h2,h3,rfl⟩:=zE hop
 unfold jw
 refine⟨o,v,h1,.inl ⟨by unfold Region.wanted;rw [h2],λw' fN=>?_⟩,?_⟩
 all_goals grind [fq,sO,eX,ye,Sat,jt,dI,mN,aX,dF]
def BX (β:Bs) (N:dK) {ι:Type} (fr:ι->Fr) (hp:ι->List HP):Post:=λ_ a w=>∃i junk,a=dV N (fr i) junk/\Sat β (hp i) w
theorem aX.cut {ι:Type} {fr':ι->Fr} {hp':ι->List HP} {o:Oper} (pk:List Nat) (hop:ops[i]?=some o) (hg:o.guard=none) (h:af P β N #[o] 0 fr hps (NP (BX β N fr' hp'))) (hn:dG pk=true) (hp:∀j,dR (hp' j) pk=some S)
 (K:∀j,aX P β N ops S 0 l (fr' j) (hp' j) Q):aX P β N ops S 0 (i::l) fr hps Q:=by
 intro junk w hS
 unfold jw
 refine ou hop hg ?_
 have h1:=h junk w hS
 have h2:wpList P #[o] (NP (BX β N fr' hp')) [o] (dV N fr junk) w:=h1
 refine sK (λa w ⟨j,qA,ha,fN⟩=>?_) h2
 subst ha
 exact⟨.inr (fN.pick hn (hp j)),K j qA w fN⟩
theorem aX.last {o:Oper} (hop:ops[i]?=some o) (hg:o.guard=none) (h:af P β N #[o] 0 fr hps (NP Q)):aX P β N ops S 0 [i] fr hps Q:=by
 grind [jw,ou,NP,dV,sK,af,aX]
theorem ah.mid {ι:Type} {fr':ι->Fr} {hp':ι->List HP} (j:ι) {idx pk:List Nat} (hf:∀junk,gS fr junk idx=fr' j) (hn:dG pk=true) (hp:dR hps pk=some (hp' j)):ah β N (NP (BX β N fr' hp')) .normal fr hps:=
 λjunk _ hS=>⟨j,lk fr junk,by rw [gH N fr junk idx,hf junk],hS.pick hn hp⟩
theorem ah.np (h:ah β N Q .normal fr hps):ah β N (NP Q) .normal fr hps:=λjunk w hS=>h junk w hS
section maps
open Go.Maps
variable {t K E:TypeId} {b cnt:Nat} {f:Lit->Option Value} {x ix:Operand} {key z:Value} {kl:Lit} {q:Option Value}
theorem aX.dO (p:Nat) (hop:ye ops i=some (.lookup t x ix false,d)) (hp:S[p]?=some (.abs (aE P K b f cnt))) (hx:∀junk,dI N fr junk x=.map (some b)) (iu:∀junk,dI N fr junk ix=key) (L:Keyed P K)
 (ht:P.underlying t=some (.map K E)) (hz:∀w,(zeroValue E).run P w=.ok z w) (hkey:keyOf P K key=some kl) (hr:f kl=q) (hv:mN (q.getD z)=true) (K':aX P β N ops S r l (dF fr d (q.getD z)) hps Q):aX P β N ops S (r+1) (i::l) fr hps Q:=by
 subst hr
 exact aX.Dd hop (λ_ junk w ho hS=>nD ho (aE.get hS hp) (hx junk) (iu junk) L ht (hz w) hkey) hv K'
end maps
end mix
end
section
open Go.RowKit
section sat
variable {β:Bs} {l:List HP} {w:World} {p p1 p2:HP} {i:Nat}
theorem Sat.Df (h:Sat β l w) (hp:l[i]?=some p) (hs:∀F,p.h F w->∃F1 F2,p1.h F1 w/\p2.h F2 w/\Apart F1 F2/\∀k,F k↔F1 k\/F2 k):Sat β (l.set i p1++[p2]) w:=by
 obtain⟨ho,φ,h1,h2,h3⟩:=h
 obtain⟨F1,F2,g1,g2,g3,g4⟩:=hs _ (h1 i p hp)
 have hi:=bZ hp
 have hlen:(l.set i p1++[p2]).length=l.length+1:=by simp
 refine⟨ho,λj=>if j=l.length then F2 else if j=i then F1 else φ j,λj q hq=>?_,λj hj k hk hO=>?_,λa b ha hb hne k hk hk'=>?_⟩
 all_goals grind [bZ,Sat,Apart]
theorem Sat.AK {j:Nat} {idx:List Nat} {l':List HP} (h:Sat β l w) (hp:l[i]?=some p1) (hq:l[j]?=some p2) (hn:dG (i::j::idx)=true) (hl:dR l idx=some l') (hs:∀F1 F2,p1.h F1 w->p2.h F2 w->Apart F1 F2->∃F,p.h F w/\∀k,F k->F1 k\/F2 k):Sat β (p::l') w:=by
 have h':=h.pick (idx:=i::j::idx) (l':=p1::p2::l') hn (by simp only [dR,hp,hq,hl])
 obtain⟨ho,φ,h1,h2,h3⟩:=h'
 obtain⟨F,hF,hk⟩:=hs _ _ (h1 0 p1 rfl) (h1 1 p2 rfl) (h3 0 1 (by simp) (by simp) (by decide))
 have hlen:(p1::p2::l').length=l'.length+2:=rfl
 rw [hlen] at h2 h3
 refine⟨ho,λj=>if j=0 then F else φ (j+1),λj q hq=>?_,λj hj k hkk hO=>?_,λa b ha hb hne k hk1 hk2=>?_⟩
 ·grind
 ·grind
 simp only [List.length_cons] at ha hb
 have key:∀j,j<l'.length->F k->φ (j+2) k->False:=λj hj e1 e2=>by
  rcases hk k e1 with e|e
  ·exact h3 0 (j+2) (by omega) (by omega) (by omega) k e e2
  exact h3 1 (j+2) (by omega) (by omega) (by omega) k e e2
 cases a with
 |zero=>
   cases b with
   |zero=>exact hne rfl
   |succ b=>exact key b (by omega) (by simpa using hk1) (by simpa using hk2)
 |succ a=>
   cases b with
   |zero=>exact key a (by omega) (by simpa using hk2) (by simpa using hk1)
   |succ b=>exact h3 (a+2) (b+2) (by omega) (by omega) (by omega) k (by simpa using hk1) (by simpa using hk2)
end sat
def aC (R:Nat->dh) (n:Nat):dh where
 h F w:=∃φ:Nat->Fp,(∀i,i<n->(R i).h (φ i) w)/\(∀i j,i<n->j<n->i≠j->Apart (φ i) (φ j))/\∀k,F k↔∃i,i<n/\φ i k
 lt:=λ⟨_,h1,_,h3⟩ k hk=>let ⟨i,hi,hk⟩:=(h3 k).1 hk;(R i).lt (h1 i hi) k hk
 st:=λ⟨φ,h1,h2,h3⟩ _ _ hk hn=>⟨φ,λi hi=>(R i).st (h1 i hi) hk (λk hk=>hn k ((h3 k).2 ⟨i,hi,hk⟩)),h2,h3⟩
def dh.none:dh where
 h F _:=∀k,¬F k
 lt:=λh k hk=>absurd hk (h k)
 st:=λh _ _ _ _=>h
def fL (R:Nat->dh) (k:Nat) (a:dh):Nat->dh:=λi=>if i=k then a else R i
section Ec
variable {β:Bs} {l l':List HP} {w:World} {i n k:Nat} {R R':Nat->dh} {a:dh}
theorem aC.nil (R:Nat->dh) (w:World):(HP.abs (aC R 0)).h (λ_=>False) w:=⟨λ_ _=>False,λi hi=>absurd hi (Nat.not_lt_zero i),λi _ hi=>absurd hi (Nat.not_lt_zero i),λ_=>⟨λh=>h.elim,λ⟨i,hi,_⟩=>absurd hi (Nat.not_lt_zero i)⟩⟩
theorem Sat.eU (h:Sat β l w) (R:Nat->dh):Sat β (l++[.abs (aC R 0)]) w:=Sat.new h (aC.nil R w) (Keeps.refl _ _) (λ_ h=>h.elim)
theorem Sat.wq (h:Sat β l w) (hp:l[i]?=some (.abs (aC R n))) (hk:k<n):Sat β (l.set i (.abs (aC (fL R k dh.none) n))++[.abs (R k)]) w:=by
 refine h.Df hp ?_
 rintro F ⟨φ,h1,h2,h3⟩
 refine⟨λx=>∃i,i<n/\i≠k/\φ i x,φ k,⟨λi=>if i=k then λ_=>False else φ i,λi hi=>?_,λi j hi hj hne x hx hy=>?_,λx=>⟨λ⟨i,hi,hne,hx⟩=>⟨i,hi,by simpa [hne] using hx⟩,λ⟨i,hi,hx⟩=>?_⟩⟩,h1 k hk,λx ⟨i,hi,hne,hx⟩ hy=>h2 i k hi hk hne x hx hy,λx=>⟨λhx=>?_,λhx=>?_⟩⟩
 ·unfold fL
  by_cases e:i=k
  ·simp only [e,if_true];exact λ_ h=>h
  simp only [e,if_false];exact h1 i hi
 ·by_cases e1:i=k
  ·simp [e1] at hx
  by_cases e2:j=k
  ·simp [e2] at hy
  exact h2 i j hi hj hne x (by simpa [e1] using hx) (by simpa [e2] using hy)
 ·by_cases e1:i=k
  ·simp [e1] at hx
  exact⟨i,hi,e1,by simpa [e1] using hx⟩
 all_goals grind
theorem Sat.yg {j:Nat} {idx:List Nat} (h:Sat β l w) (hp:l[i]?=some (.abs (aC R n))) (hq:l[j]?=some (.abs a)) (hn:dG (i::j::idx)=true) (hl:dR l idx=some l') (hk:k<n) (hR:∀x,x<n->x≠k->R' x=R x) (ha:R' k=a):Sat β (.abs (aC R' n)::l') w:=by
 refine h.AK hp hq hn hl ?_
 rintro F1 F2 ⟨φ,h1,h2,h3⟩ hF hap
 refine⟨λx=>(∃i,i<n/\i≠k/\φ i x)\/F2 x,⟨λi=>if i=k then F2 else φ i,λi hi=>?_,λi j hi hj hne x hx hy=>?_,λx=>⟨λhx=>?_,λ⟨i,hi,hx⟩=>?_⟩⟩,λx hx=>hx.imp (λ⟨i,hi,_,hx⟩=>(h3 x).2 ⟨i,hi,hx⟩) id⟩
 ·by_cases e:i=k
  ·subst e;simp only [if_true];rw [ha];exact hF
  grind
 ·by_cases e1:i=k
  ·by_cases e2:j=k
   ·exact hne (e1.trans e2.symm)
   simp only [e1,if_true] at hx
   simp only [e2,if_false] at hy
   exact hap x ((h3 x).2 ⟨j,hj,hy⟩) hx
  simp only [e1,if_false] at hx
  by_cases e2:j=k
  ·simp only [e2,if_true] at hy
   exact hap x ((h3 x).2 ⟨i,hi,hx⟩) hy
  simp only [e2,if_false] at hy
  exact h2 i j hi hj hne x hx hy
 all_goals grind
theorem Sat.oT {j:Nat} {idx:List Nat} (h:Sat β l w) (hp:l[i]?=some (.abs (aC R n))) (hq:l[j]?=some (.abs a)) (hn:dG (i::j::idx)=true) (hl:dR l idx=some l') (hR:∀x,x<n->R' x=R x) (ha:R' n=a):Sat β (.abs (aC R' (n+1))::l') w:=by
 refine h.AK hp hq hn hl ?_
 rintro F1 F2 ⟨φ,h1,h2,h3⟩ hF hap
 refine⟨λx=>F1 x\/F2 x,⟨λi=>if i=n then F2 else φ i,λi hi=>?_,λi j hi hj hne x hx hy=>?_,λx=>⟨λhx=>?_,λ⟨i,hi,hx⟩=>?_⟩⟩,λx hx=>hx⟩
 ·by_cases e:i=n
  ·subst e;simp only [if_true];rw [ha];exact hF
  grind
 ·by_cases e1:i=n
  ·by_cases e2:j=n
   ·exact hne (e1.trans e2.symm)
   simp only [e1,if_true] at hx
   simp only [e2,if_false] at hy
   exact hap x ((h3 x).2 ⟨j,by omega,hy⟩) hx
  simp only [e1,if_false] at hx
  by_cases e2:j=n
  ·simp only [e2,if_true] at hy
   exact hap x ((h3 x).2 ⟨i,by omega,hx⟩) hy
  simp only [e2,if_false] at hy
  exact h2 i j (by omega) (by omega) hne x hx hy
 ·rcases hx with hx|hx
  ·grind
  exact⟨n,Nat.lt_succ_self n,by simpa using hx⟩
 grind
theorem aC.base {F:Fp} {β':Bs} (h:(HP.abs (aC R n)).h F w) (h1:∀k,F k->β'.O k) (_:β'.w0=w) {Φ:Nat->Bs->Prop} (wh:∀i,i<n->∀F,(R i).h F w->(∀k,F k->β'.O k)->Φ i β'):∀i,i<n->Φ i β':=by
 obtain⟨φ,g1,_,g3⟩:=h
 grind
end Ec
section nG
variable {P:Program} {β:Bs} {N:dK} {ops:Array Oper} {S:List HP} {l:List Nat} {fr:Fr} {hps:List HP} {Q:Post} {i:Nat}
end nG
end
section
open Go.RowKit
structure iW (β:Bs) (R:List HP) (β':Bs):Prop where
 le:β.le β'
 fp:∃φ:Nat->Fp,(∀(i:Nat) (p:HP),R[i]?=some p->p.h (φ i) β'.w0/\∀k,φ i k->β'.O k)/\(∀i,i<R.length->∀k,φ i k->¬β.O k)/\(∀i j,i<R.length->j<R.length->i≠j->Apart (φ i) (φ j))/\∀k,β'.O k->β.O k\/∃i,i<R.length/\φ i k
section DF
variable {β β' pG:Bs} {l R:List HP} {w:World} {p:HP} {i:Nat}
theorem iW.get (h:iW β R β') (i:Nat) (hp:R[i]?=some p):∃F,p.h F β'.w0/\∀k,F k->β'.O k:=by
 obtain⟨φ,h1,_⟩:=h.fp
 exact⟨φ i,h1 i p hp⟩
theorem Sat.turn {a b:List HP} (h:Sat β (a++b) w):Sat β (b++a) w:=by
 obtain⟨ho,φ,h1,h2,h3⟩:=h
 have hl:(a++b).length=a.length+b.length:=List.length_append
 have hl':(b++a).length=b.length+a.length:=List.length_append
 refine⟨ho,λi=>if i<b.length then φ (a.length+i) else φ (i-b.length),λi p hp=>?_,λi hi k hk hO=>?_,λi j hi hj hne k hk hk'=>?_⟩
 ·grind
 ·grind
 by_cases e1:i<b.length
 ·simp only [e1,if_true] at hk
  by_cases e2:j<b.length
  ·simp only [e2,if_true] at hk'
   exact h3 _ _ (by omega) (by omega) (by omega) k hk hk'
  simp only [e2,if_false] at hk'
  exact h3 _ _ (by omega) (by omega) (by omega) k hk hk'
 simp only [e1,if_false] at hk
 by_cases e2:j<b.length
 ·simp only [e2,if_true] at hk'
  exact h3 _ _ (by omega) (by omega) (by omega) k hk hk'
 simp only [e2,if_false] at hk'
 exact h3 _ _ (by omega) (by omega) (by omega) k hk hk'
theorem Sat.t8 (h:Sat β (l++R) w):∃β',iW β R β'/\β'.w0=w/\Sat β' l w:=by
 obtain⟨ho,φ,h1,h2,h3⟩:=h
 have hl:(l++R).length=l.length+R.length:=List.length_append
 have hR:∀(i:Nat) (p:HP),R[i]?=some p->p.h (φ (l.length+i)) w:=by grind
 refine⟨⟨λk=>β.O k\/∃i,i<R.length/\φ (l.length+i) k,w⟩,⟨⟨λk hk=>.inl hk,ho.os,ho.tape,ho.output,ho.size,λk hk=>ho.old k hk⟩,λi=>φ (l.length+i),λi p hp=>⟨hR i p hp,λk hk=>.inr ⟨i,bZ hp,hk⟩⟩,λi hi=>h2 _ (by omega),λi j hi hj hne=>h3 _ _ (by omega) (by omega) (by omega),λk hk=>hk⟩,rfl,⟨rfl,rfl,rfl,Nat.le_refl _,λk hk=>⟨?_,rfl⟩⟩,φ,λi p hp=>h1 i p (by rw [List.getElem?_append_left (bZ hp)];exact hp),λi hi k hk hO=>?_,λi j hi hj hne=>h3 i j (by omega) (by omega) hne⟩
 ·rcases hk with hk|⟨i,hi,hk⟩
  ·exact Nat.lt_of_lt_of_le (ho.old k hk).1 ho.size
  obtain⟨p,hp⟩:=fY hi
  exact HP.lt (hR i p hp) k hk
 rcases hO with hO|⟨j,hj,hO⟩
 ·exact h2 i (by omega) k hk hO
 exact h3 i (l.length+j) (by omega) (by omega) (by omega) k hk hO
theorem iW.back (h:iW β R β') (hS:Sat β' l w):Sat β (l++R) w:=by
 obtain⟨hle,φ,g1,g2,g3,g4⟩:=h
 obtain⟨ho,ψ,h1,h2,h3⟩:=hS
 have hl:(l++R).length=l.length+R.length:=List.length_append
 have hin:∀i,i<R.length->∀k,φ i k->β'.O k:=λi hi k hk=>by
  obtain⟨p,hp⟩:=fY hi
  exact (g1 i p hp).2 k hk
 have hk:∀i,i<R.length->Keeps (λk=>¬φ i k) β'.w0 w:=λi hi=>⟨ho.os,ho.tape,ho.output,ho.size,λk _ hn=>(ho.old k (hin i hi k (Classical.not_not.1 hn))).2⟩
 refine⟨ho.le hle,λi=>if i<l.length then ψ i else φ (i-l.length),λi p hp=>?_,λi hi k hk hO=>?_,λi j hi hj hne k hk hk'=>?_⟩
 ·grind [HP.st,bZ]
 ·by_cases e:i<l.length
  ·simp only [e,if_true] at hk
   exact h2 i e k hk (hle.O k hO)
  grind
 by_cases e1:i<l.length
 ·simp only [e1,if_true] at hk
  by_cases e2:j<l.length
  ·simp only [e2,if_true] at hk'
   exact h3 i j e1 e2 hne k hk hk'
  grind
 simp only [e1,if_false] at hk
 by_cases e2:j<l.length
 ·grind
 simp only [e2,if_false] at hk'
 exact g3 _ _ (by omega) (by omega) (by omega) k hk hk'
end DF
section rules
variable {P:Program} {β β' pG:Bs} {N:dK} {ops:Array Oper} {k:Nat} {fr:Fr} {hps l R:List HP} {Q:Post} {c:Code} {e:Exit} {pk:List Nat} {f:FuncId} {args:Array Value} {pre:List HP}
theorem af.t8 (R:List HP) (pk:List Nat) (hn:dG pk=true) (hp:dR hps pk=some (l++R)) (K:∀β':Bs,β.le β'->β'.le β'->iW β R β'->af P β' N ops k fr l Q):af P β N ops k fr hps Q:=λjunk w hS=>by
 obtain⟨β',h,_,fN⟩:=(hS.pick hn hp).t8
 exact K β' h.le fN.1.wi h junk w fN
theorem af.back (h:iW β R β') (hle:β'.le pG) (K:af P β N ops k fr (hps++R) Q):af P pG N ops k fr hps Q:=λjunk w hS=>K junk w (h.back (hS.x5 hle))
theorem Spec.base {post:Value->List HP->Prop} {Φ:Bs->Value->Prop} (h:Spec P β f args pre post) (wh:∀v l,post v l->∀β',iW β l β'->Φ β' v):cO P β f args pre (λβ' v l=>l=[]/\Φ β' v):=by
 intro A w hS
 refine (h A w hS).mono ?_
 rintro e w' ⟨v,l,h1,h2,h3⟩
 obtain⟨β',g1,_,g3⟩:=(Sat.turn h3).t8
 exact⟨β',v,[],g1.le,h1,⟨rfl,wh v l h2 β' g1⟩,g3⟩
end rules
end
section
open Go.RowKit
def fT (e:TypeId) (size:Nat) (A:Option Addr) (n cap:Nat) (P:List Value->Prop):dh where
 h F w:=∃xs,P xs/\(av e size A n cap xs).h F w
 lt:=λ⟨xs,_,h⟩=>(av e size A n cap xs).lt h
 st:=λ⟨xs,p,h⟩ _ _ hk hn=>⟨xs,p,(av e size A n cap xs).st h hk hn⟩
abbrev kR (e:TypeId) (size:Nat) (A:Option Addr) (n cap:Nat):dh:=fT e size A n cap (λ_=>True)
def cE (dN β:Bs) (Z:dh):Prop:=∃F,Z.h F β.w0/\∀k,F k->β.O k/\¬dN.O k
section made
variable {dN β β1 pG:Bs} {Z:dh} {R S R':Nat->dh} {n m:Nat} {F:Fp} {w:World}
theorem cE.le (h:cE dN β Z) (g:β.le β1):cE dN β1 Z:=by
 obtain⟨F,h1,h2⟩:=h
 exact⟨F,Z.st h1 (S:=λk=>¬β.O k) ⟨g.os,g.tape,g.output,g.size,λk _ hS=>(g.old k (Classical.not_not.1 hS)).2⟩ (λk hk hn=>hn (h2 k hk).1),λk hk=>⟨g.O k (h2 k hk).1,(h2 k hk).2⟩⟩
theorem cE.of (h:Z.h F w) (h1:∀k,F k->β1.O k) (h2:β1.w0=w) (h3:∀k,F k->¬dN.O k):cE dN β1 Z:=⟨F,h2 ▸ h,λk hk=>⟨h1 k hk,h3 k hk⟩⟩
theorem cE.mono (h:cE dN β Z) {Z':dh} (g:∀F w,Z.h F w->Z'.h F w):cE dN β Z':=let ⟨F,h1,h2⟩:=h;⟨F,g _ _ h1,h2⟩
theorem cE.down (h:cE β1 β Z) (g:dN.le β1):cE dN β Z:=let ⟨F,h1,h2⟩:=h;⟨F,h1,λk hk=>⟨(h2 k hk).1,λhO=>(h2 k hk).2 (g.O k hO)⟩⟩
theorem cE.row (e:TypeId) (size:Nat):cE dN β (kR e size none 0 0):=⟨λ_=>False,⟨[],trivial,av.nil e size _⟩,λ_ h=>h.elim⟩
theorem cE.BZ (R:Nat->dh):cE dN β (aC R 0):=⟨λ_=>False,aC.nil R _,λ_ h=>h.elim⟩
theorem cE.push (h:cE dN β (aC R n)) (g0:dN.le β) (g:β.le β1) (hZ:cE β β1 (R' n)) (hR:∀x,x<n->R' x=R x):cE dN β1 (aC R' (n+1)):=by
 obtain⟨F,⟨φ,h1,h2,h3⟩,h4⟩:=h
 obtain⟨G,g1,g2⟩:=hZ
 have key:cE dN β1 (aC R n):=cE.le ⟨F,⟨φ,h1,h2,h3⟩,h4⟩ g
 have st:∀i,i<n->(R i).h (φ i) β1.w0:=λi hi=>(R i).st (h1 i hi) (S:=λk=>¬β.O k) ⟨g.os,g.tape,g.output,g.size,λk _ hS=>(g.old k (Classical.not_not.1 hS)).2⟩ (λk hk hn=>hn (h4 k ((h3 k).2 ⟨i,hi,hk⟩)).1)
 refine⟨λk=>F k\/G k,⟨λi=>if i=n then G else φ i,λi hi=>?_,λi j hi hj hne x hx hy=>?_,λx=>⟨λhx=>?_,λ⟨i,hi,hx⟩=>?_⟩⟩,λk hk=>?_⟩
 ·by_cases e:i=n
  ·simp only [e,if_true];exact g1
  simp only [e,if_false];rw [hR i (by omega)];exact st i (by omega)
 ·by_cases e1:i=n
  ·by_cases e2:j=n
   ·exact hne (e1.trans e2.symm)
   simp only [e1,if_true] at hx
   simp only [e2,if_false] at hy
   exact (g2 x hx).2 (h4 x ((h3 x).2 ⟨j,by omega,hy⟩)).1
  simp only [e1,if_false] at hx
  by_cases e2:j=n
  ·simp only [e2,if_true] at hy
   exact (g2 x hy).2 (h4 x ((h3 x).2 ⟨i,by omega,hx⟩)).1
  simp only [e2,if_false] at hy
  exact h2 i j (by omega) (by omega) hne x hx hy
 ·rcases hx with hx|hx
  ·obtain⟨i,hi,hx⟩:=(h3 x).1 hx
   exact⟨i,by omega,by simpa [show i≠n by omega] using hx⟩
  exact⟨n,Nat.lt_succ_self n,by simpa using hx⟩
 ·by_cases e:i=n
  ·simp only [e,if_true] at hx;exact .inr hx
  simp only [e,if_false] at hx;exact .inl ((h3 x).2 ⟨i,by omega,hx⟩)
 rcases hk with hk|hk
 ·exact⟨g.O k (h4 k hk).1,(h4 k hk).2⟩
 exact⟨(g2 k hk).1,λhO=>(g2 k hk).2 (g0.O k hO)⟩
theorem cE.sum (h:cE dN β1 (aC R n)) (g0:dN.le β1) (g:β1.le pG) (k:cE β1 pG (aC S m)):cE dN pG (aC (λi=>if i<n then R i else S (i-n)) (n+m)):=by
 obtain⟨F,⟨φ,h1,h2,h3⟩,h4⟩:=cE.le h g
 have h5:∀x,F x->β1.O x\/True:=λ_ _=>.inr trivial
 obtain⟨F0,⟨B6,p1,p2,p3⟩,p4⟩:=h
 obtain⟨G,⟨ψ,k1,k2,k3⟩,k4⟩:=k
 have st:∀i,i<n->(R i).h (B6 i) pG.w0:=λi hi=>(R i).st (p1 i hi) (S:=λk=>¬β1.O k) ⟨g.os,g.tape,g.output,g.size,λk _ hS=>(g.old k (Classical.not_not.1 hS)).2⟩ (λk hk hn=>hn (p4 k ((p3 k).2 ⟨i,hi,hk⟩)).1)
 have ap:∀i j,i<n->j<m->∀x,B6 i x->ψ j x->False:=λi j hi hj x hx hy=>(k4 x ((k3 x).2 ⟨j,hj,hy⟩)).2 (p4 x ((p3 x).2 ⟨i,hi,hx⟩)).1
 refine⟨λx=>F0 x\/G x,⟨λi=>if i<n then B6 i else ψ (i-n),λi hi=>?_,λi j hi hj hne x hx hy=>?_,λx=>⟨λhx=>?_,λ⟨i,hi,hx⟩=>?_⟩⟩,λx hx=>?_⟩
 ·by_cases e:i<n
  ·simp only [e,if_true];exact st i e
  simp only [e,if_false];exact k1 _ (by omega)
 ·by_cases e1:i<n
  ·simp only [e1,if_true] at hx
   by_cases e2:j<n
   ·simp only [e2,if_true] at hy;exact p2 i j e1 e2 hne x hx hy
   simp only [e2,if_false] at hy;exact ap i _ e1 (by omega) x hx hy
  simp only [e1,if_false] at hx
  by_cases e2:j<n
  ·simp only [e2,if_true] at hy;exact ap j _ e2 (by omega) x hy hx
  simp only [e2,if_false] at hy;exact k2 (i-n) (j-n) (by omega) (by omega) (by omega) x hx hy
 ·rcases hx with hx|hx
  ·obtain⟨i,hi,hx⟩:=(p3 x).1 hx
   exact⟨i,by omega,by simpa [hi] using hx⟩
  obtain⟨i,hi,hx⟩:=(k3 x).1 hx
  exact⟨n+i,by omega,by simpa [show ¬n+i<n by omega,show n+i-n=i by omega] using hx⟩
 ·by_cases e:i<n
  ·simp only [e,if_true] at hx;exact .inl ((p3 x).2 ⟨i,e,hx⟩)
  simp only [e,if_false] at hx;exact .inr ((k3 x).2 ⟨_,by omega,hx⟩)
 rcases hx with hx|hx
 ·exact⟨g.O x (p4 x hx).1,(p4 x hx).2⟩
 exact⟨(k4 x hx).1,λhO=>(k4 x hx).2 (g0.O x hO)⟩
theorem cE.pick (h:cE dN β (aC R n)) (p:Nat->Nat) (hp:∀i,i<m->p i<n) (hi:∀i j,i<m->j<m->p i=p j->i=j) (hR:∀i,i<m->R' i=R (p i)):cE dN β (aC R' m):=by
 obtain⟨F,⟨φ,h1,h2,h3⟩,h4⟩:=h
 exact⟨λx=>∃i,i<m/\φ (p i) x,⟨λi=>φ (p i),λi hm=>hR i hm ▸ h1 _ (hp i hm),λi j hm hj hne=>h2 _ _ (hp i hm) (hp j hj) (λe=>hne (hi i j hm hj e)),λ_=>Iff.rfl⟩,λk ⟨i,hm,hk⟩=>h4 k ((h3 k).2 ⟨_,hp i hm,hk⟩)⟩
end made
section rules
variable {P:Program} {β dN:Bs} {N:dK} {ops:Array Oper} {k i n:Nat} {fr:Fr} {hps aL:List HP} {Q:Post} {Z:dh} {R R':Nat->dh} {w:World}
theorem Sat.oU {p:HP} {l l':List HP} {idx:List Nat} (h:Sat β l w) (hp:l[i]?=some p) (hn:dG (i::idx)=true) (hl:dR l idx=some l') :
 ∃F,p.h F w/\(∀k,F k->¬β.O k)/\∃β':Bs,β.le β'/\(∀k,F k->β'.O k)/\β'.w0=w/\Sat β' l' w:=by
 have h':=h.pick (idx:=i::idx) (l':=p::l') hn (by simp only [dR,hp,hl])
 obtain⟨ho,φ,h1,h2,h3⟩:=h'
 refine⟨φ 0,h1 0 p rfl,h2 0 (by simp),⟨λk=>β.O k\/φ 0 k,w⟩,⟨λk hk=>.inl hk,ho.os,ho.tape,ho.output,ho.size,λk hk=>ho.old k hk⟩,λk hk=>.inr hk,rfl,⟨rfl,rfl,rfl,Nat.le_refl _,λk hk=>⟨?_,rfl⟩⟩,λj=>φ (j+1),λj q hq=>h1 (j+1) q (by simpa using hq),λj hj k hk hO=>?_,λj1 j2 iJ hj2 hne=>h3 _ _ (by simp;omega) (by simp;omega) (by omega)⟩
 ·rcases hk with hk|hk
  ·exact Nat.lt_of_lt_of_le (ho.old k hk).1 ho.size
  exact HP.lt (h1 0 p rfl) k hk
 rcases hO with hO|hO
 ·exact h2 (j+1) (by simp;omega) k hk hO
 exact h3 (j+1) 0 (by simp;omega) (by simp) (by omega) k hk hO
theorem af.oU {Φ:Bs->Prop} (i:Nat) (idx:List Nat) (hp:hps[i]?=some (.abs Z)) (hn:dG (i::idx)=true) (hl:dR hps idx=some aL) (wh:∀F w,Z.h F w->∀β':Bs,(∀k,F k->β'.O k)->β'.w0=w->(∀k,F k->¬β.O k)->Φ β')
 (K:∀β':Bs,β.le β'->Φ β'->af P β' N ops k fr aL Q):af P β N ops k fr hps Q:=λjunk w hS=>by
 obtain⟨F,hF,hO,β',hle,h1,h2,fN⟩:=hS.oU hp hn hl
 exact K β' hle (wh F w hF β' h1 h2 hO) junk w fN
theorem af.Ca (hM:cE dN β Z) (hle:dN.le β) (K:af P dN N ops k fr (hps++[.abs Z]) Q):af P β N ops k fr hps Q:=λjunk w hS=>by
 refine K junk w ?_
 obtain⟨F,h1,h2⟩:=hM
 obtain⟨ho,φ,s1,s2,s3⟩:=hS
 have hZ:Z.h F w:=Z.st h1 (S:=λk=>¬β.O k) ⟨ho.os,ho.tape,ho.output,ho.size,λk _ hS=>(ho.old k (Classical.not_not.1 hS)).2⟩ (λk hk hn=>hn (h2 k hk).1)
 have hlen:(hps++[HP.abs Z]).length=hps.length+1:=by simp
 refine⟨ho.le hle,λj=>if j=hps.length then F else φ j,λj q hq=>?_,λj hj x hx hO=>?_,λa b ha hb hne x hx hy=>?_⟩
 ·by_cases e:j=hps.length
  ·subst e
   rw [List.getElem?_concat_length] at hq
   cases hq
   show Z.h _ w
   simpa using hZ
  have hj:j<hps.length:=by have:=bZ hq;omega
  rw [List.getElem?_append_left hj] at hq
  simpa [e] using s1 j q hq
 ·by_cases e:j=hps.length
  ·simp only [e,if_true] at hx;exact (h2 x hx).2 hO
  simp only [e,if_false] at hx;exact s2 j (by omega) x hx (hle.O x hO)
 by_cases e1:a=hps.length
 ·by_cases e2:b=hps.length
  ·exact hne (e1.trans e2.symm)
  simp only [e1,if_true] at hx
  simp only [e2,if_false] at hy
  exact s2 b (by omega) x hy (h2 x hx).1
 simp only [e1,if_false] at hx
 by_cases e2:b=hps.length
 ·simp only [e2,if_true] at hy
  exact s2 a (by omega) x hx (h2 x hy).1
 simp only [e2,if_false] at hy
 exact s3 a b (by omega) (by omega) hne x hx hy
theorem aC.step {w':World} {F:Fp} {x:Nat} (h:(aC R n).h F w) (hx:x<n) (hs:∀F,(R x).h F w->∃F',(R' x).h F' w'/\Step F w F' w') (hR:∀y,y<n->y≠x->R' y=R y):∃F',(aC R' n).h F' w'/\Step F w F' w':=by
 obtain⟨φ,h1,h2,h3⟩:=h
 obtain⟨F',g1,g2⟩:=hs _ (h1 x hx)
 have fr:∀i,i<n->i≠x->(R i).h (φ i) w'/\Apart (φ i) F':=λi hi hne=>dh.frame (h1 i hi) g2 (h2 i x hi hx hne)
 refine⟨λy=>F' y\/∃i,i<n/\i≠x/\φ i y,⟨λi=>if i=x then F' else φ i,λi hi=>?_,λi j hi hj hne=>?_,λy=>?_⟩,?_⟩
 ·by_cases e:i=x
  ·simp only [e,if_true];exact g1
  simp only [e,if_false];rw [hR i hi e];exact (fr i hi e).1
 ·intro y hy hy'
  by_cases e:i=x
  ·by_cases e2:j=x
   ·exact hne (e.trans e2.symm)
   simp only [e,if_true] at hy;simp only [e2,if_false] at hy';exact (fr j hj e2).2 y hy' hy
  simp only [e,if_false] at hy
  by_cases e2:j=x
  ·simp only [e2,if_true] at hy';exact (fr i hi e).2 y hy hy'
  simp only [e2,if_false] at hy';exact h2 i j hi hj hne y hy hy'
 ·constructor
  ·rintro (hy|⟨i,hi,hne,hy⟩)
   ·exact⟨x,hx,by simpa using hy⟩
   exact⟨i,hi,by simpa [hne] using hy⟩
  rintro⟨i,hi,hy⟩
  by_cases e:i=x
  ·simp only [e,if_true] at hy;exact .inl hy
  simp only [e,if_false] at hy;exact .inr ⟨i,hi,e,hy⟩
 obtain⟨q1,q2⟩:=g2
 refine⟨q1.mono (λy _ hy=>(h3 y).2 ⟨x,hx,hy⟩),λy hy=>?_⟩
 rcases hy with hy|⟨i,hi,_,hy⟩
 ·exact (q2 y hy).imp (λhy=>(h3 y).2 ⟨x,hx,hy⟩) id
 exact .inl ((h3 y).2 ⟨i,hi,hy⟩)
theorem aC.mono {F:Fp} (h:(aC R n).h F w) (hs:∀x,x<n->∀F,(R x).h F w->∃F',(R' x).h F' w/\∀k,F' k->F k):∃F',(aC R' n).h F' w/\Step F w F' w:=by
 obtain⟨φ,h1,h2,h3⟩:=h
 have hc:∀x,∃F':Fp,x<n->(R' x).h F' w/\∀k,F' k->φ x k:=λx=>by
  by_cases e:x<n
  ·obtain⟨F',g⟩:=hs x e _ (h1 x e);exact⟨F',λ_=>g⟩
  exact⟨λ_=>False,λq=>absurd q e⟩
 obtain⟨ψ,AL⟩:=Classical.axiomOfChoice hc
 exact⟨λy=>∃i,i<n/\ψ i y,⟨ψ,λi hi=>(AL i hi).1,λi j hi hj hne y hy hy'=>h2 i j hi hj hne y ((AL i hi).2 y hy) ((AL j hj).2 y hy'),λ_=>Iff.rfl⟩,Keeps.refl _ _,λy ⟨i,hi,hy⟩=>.inl ((h3 y).2 ⟨i,hi,(AL i hi).2 y hy⟩)⟩
theorem af.kJ (i:Nat) (R':Nat->dh) (hp:hps[i]?=some (.abs (aC R n))) (hs:∀x,x<n->∀F w,(R x).h F w->∃F',(R' x).h F' w/\∀k,F' k->F k) (K:af P β N ops k fr (hps.set i (.abs (aC R' n))) Q):af P β N ops k fr hps Q:=
 af.mem (λw hS=>hS.set (p':=.abs (aC R' n)) hp (λ_ h=>aC.mono (w:=w) h (λx hx F=>hs x hx F w))) K
end rules
end
section
open Go.RowKit
structure OP where
 h:OH
 ps:List Prop
 pf:jr ps
section fr
variable {P:Program} {β:Bs} {N:dK} {ops:Array Oper} {fr fr' add:Fr} {junk:Nat->Value} {t:Nat} {v:Value}
end fr
section rules
variable {P:Program} {β:Bs} {N:dK} {ops:Array Oper} {k:Nat} {fr:Fr} {hps:List HP} {Q:Post}
variable {c x y z:Code} {o:Operand} {id id':Nat} {ops':Array Oper} {e:Exit}
def ox (ops:Array Oper) (k:Nat):Option Tmp:=match ops.toList[k]? with
 |some o=>o.dst
 |none=>none
variable {f:FuncId} {args:Array Value} {pre:List HP} {post:Value->List HP->Prop}
variable {R:dh} {fn:Func} {l:List HP} {v:Value}
variable {S:List HP} {i:Nat} {lm:List Nat} {o':Oper}
end rules
end
section
open Go.RowKit
section order
variable {P:Program} {ops:Array Oper} {Q Q':Post} {n:Nat} {S:World->Prop}
def ud (P:Program) (ops:Array Oper) (Q:Post) (S:World->Prop):List (Bool×Nat)->Act->World->Prop
 |[],a,w=>Q .normal a w
 |(false,i)::l,a,w=>wpOp P ops Q i (λa' w'=>(l=[]\/S w')/\ud P ops Q S l a' w') a w
 |(true,i)::l,a,w=>∃o v,ops[i]?=some o/\YieldsIf P ops S o v a/\ud P ops Q S l (a.put o.dst v) w
def EK (ops:Array Oper) (i:Nat):Array Oper:=⟨ops.toList.take (i+1)⟩
def gB (ops:Array Oper) (i:Nat):Bool:=match ops[i]? with
 |some o=>match o.guard with
   |none=>true
   |some (j,_)=>decide (j<=i)
 |none=>false
end order
section mix
variable {P:Program} {β:Bs} {N:dK} {ops:Array Oper} {S:List HP} {l l':List (Bool×Nat)} {fr fr':Fr} {hps:List HP} {Q:Post} {ak:List Prop} {i:Nat} {pk:List Nat}
def ES (P:Program) (β:Bs) (N:dK) (ops:Array Oper) (S:List HP) (l:List (Bool×Nat)) (fr:Fr) (hps:List HP) (Q:Post):Prop:=
 ∀junk w,Sat β hps w->ud P ops (NP Q) (Sat β S) l (dV N fr junk) w
def uf (P:Program) (β:Bs) (N:dK) (junk:Nat->Value) (ops:Array Oper):List OH->List Nat->Fr->SS->Option (Fr×SS)
 |[],[],fr,S=>some (fr,S)
 |h::hs,i::is,fr,S=>
   match ops[i]? with
   |some o=>
     match Region.wanted o (yF ops N fr junk) with
     |true=>
       match kN P β 0 true (dI N fr junk) o h S with
       |some (v,S')=>
         match mN v with
         |true=>uf P β N junk ops hs is (dF fr o.dst v) S'
         |false=>none
       |none=>none
     |false=>uf P β N junk ops hs is (dF fr o.dst undef) S
   |none=>none
 |_,_,_,_=>none
def DG (P:Program) (β:Bs) (N:dK) (junk:Nat->Value) (ops:Array Oper) (hs:List OH) (is:List Nat) (fr:Fr) (S:List HP) (idx:List Nat):Option (Fr×List Prop):=
 match uf P β N junk ops hs is fr ⟨[],S,[],true⟩ with
 |some (fr',S')=>some (gS fr' junk idx,S'.ak)
 |none=>none
end mix
end
section
open Go.RowKit
def r2 {β:Bs} {a a':Addr} {v v':Value} (h:Rd β a v) (h':Rd β a' v'):OP:=⟨⟨[.old v,.old v'],none,none,none,none⟩,[Rd β a' v',Rd β a v],h',h,trivial⟩
section rules
variable {P:Program} {β:Bs} {N:dK} {ops:Array Oper} {k:Nat} {fr:Fr} {hps:List HP} {Q:Post}
variable {f:FuncId} {args:Array Value} {pre:List HP} {post:Bs->Value->List HP->Prop}
def nX (N:dK) (ops:Array Oper) (fr:Fr) (k j:Nat):Operand:=
 match eV N (λ_=>undef) ops fr k with
 |some (.call ⟨_,xs,_⟩,_)=>match xs.toList[j]? with
   |some x=>x
   |none=>.tmp 0
 |_=>.tmp 0
def zI (P:Program) (e:TypeId):Value:=match P.info? e with
 |some i=>match i.zero with
   |some z=>z
   |none=>undef
 |none=>undef
def bI (P:Program) (e:TypeId):Nat:=match P.info? e with
 |some i=>i.bytes
 |none=>0
theorem Cb {news:List Value} (h:news.all Value.oneCell'=true):∀u∈news,u.oneCell'=true:=List.all_eq_true.1 h
section turns
variable {ι:Type} {Inv:ι->Prop} {μ:ι->Nat} {fr':ι->Fr} {hp':ι->List HP} {m:Nat}
end turns
variable {R:dh} {fn:Func} {l:List HP} {v:Value} {n0:Nat} {β':Bs}
class nY (Q:Post) (e:Exit) (Q':outParam Post) (e':outParam Exit):Prop where
 h:∀{β:Bs} {N:dK} {fr:Fr} {hps:List HP},ah β N Q' e' fr hps->ah β N Q e fr hps
instance {K:Act->World->Prop} {Q':Post} {e':Exit} [H:nY Q .ret Q' e']:nY (Exit.then K Q) .ret Q' e':=⟨λh=>ah.ay (H.h h)⟩
instance {id:Nat} {Q':Post} {e':Exit} [H:nY Q .ret Q' e']:nY (Exit.inBlock id Q) .ret Q' e':=⟨λh=>ah.aG (H.h h)⟩
instance {X:Ending->World->Prop}:nY (bodyPost P fn X) .ret (bodyPost P fn X) .ret:=⟨λh=>h⟩
instance {K:Act->World->Prop}:nY (Exit.then K Q) .normal (Exit.then K Q) .normal:=⟨λh=>h⟩
instance {id:Nat} {Q':Post} {e':Exit} [H:nY Q .normal Q' e']:nY (Exit.inBlock id Q) .normal Q' e':=⟨λh=>ah.aJ (H.h h)⟩
instance {id:Nat} {Q':Post} {e':Exit} [H:nY Q .normal Q' e']:nY (Exit.inBlock id Q) (.exit id) Q' e':=⟨λh=>ah.bg (H.h h)⟩
instance {K:Act->World->Prop} {id:Nat} {Q':Post} {e':Exit} [H:nY Q (.exit id) Q' e']:nY (Exit.then K Q) (.exit id) Q' e':=⟨λh=>ah.aH (H.h h)⟩
variable {y z:Code} {Q':Post} {id:Nat}
end rules
section mix
variable {P:Program} {β:Bs} {N:dK} {ops:Array Oper} {S:List HP} {lm l':List (Bool×Nat)} {fr:Fr} {hps:List HP} {Q:Post} {i:Nat} {f:FuncId} {args:Array Value} {pre:List HP} {post:Value->List HP->Prop}
variable {fl:Bool}
section m
variable {lm l':List Nat} {o':Oper} {r':Nat}
end m
end mix
end
section
open Go.RowKit
def eM (e:TypeId) (A:Option Addr) (n c:Nat) (P:List Value->Prop) (A1:Option Addr) (n1 c1:Nat):dh where
 h F w:=(A1=A/\c1=c/\n<=n1/\n1<=c/\(fT e 1 A n c P).h F w)\/∃F1 F2,(fT e 1 A n c P).h F1 w/\(kR e 1 A1 n1 c1).h F2 w/\Apart F1 F2/\∀k,F k↔F1 k\/F2 k
 lt:=by
  rintro F w (⟨_,_,_,_,h⟩|⟨F1,F2,h1,h2,_,h4⟩) k hk
  ·exact (fT e 1 A n c P).lt h k hk
  rcases (h4 k).1 hk with hk|hk
  ·exact (fT e 1 A n c P).lt h1 k hk
  exact (kR e 1 A1 n1 c1).lt h2 k hk
 st:=by
  rintro F w (⟨a,b,c',d,h⟩|⟨F1,F2,h1,h2,h3,h4⟩) S w' hk hn
  ·exact .inl ⟨a,b,c',d,(fT e 1 A n c P).st h hk hn⟩
  exact .inr ⟨F1,F2,(fT e 1 A n c P).st h1 hk (λk q=>hn k ((h4 k).2 (.inl q))),(kR e 1 A1 n1 c1).st h2 hk (λk q=>hn k ((h4 k).2 (.inr q))),h3,h4⟩
section one
variable {P:Program} {e t ty:TypeId} {A A1:Option Addr} {n c n1 c1 m cc:Nat} {X:List Value->Prop} {F:Fp} {w:World} {inf:TypeInfo} {z:Value} {ad:Addr} {news:List Value}
theorem wu {cur:Array Value} {k cap:Nat} (h1:cur.size=cap) (h2:k<=cap) (h3:cap<=maxLen):(kR e 1 (some ⟨w.heap.size,0,none⟩) k cap).h (λk=>k=w.heap.size) (w.drew.alloc (.cells cur e)):=
 ⟨cur.toList.take k,trivial,⟨by simp;omega,.inr ⟨w.heap.size,cap,cur,rfl,Nat.zero_le _,heap_alloc_new w.drew _,h2,h3,by omega,by simp⟩⟩,λk=>by simp [Value.ownBlock,eq_comm]⟩
theorem sP {cur:Array Value}:Keeps (λ_=>False) w (w.drew.alloc (.cells cur e)):=⟨rfl,rfl,rfl,by simp,λk hk _=>heap_alloc_old w.drew _ hk⟩
theorem eM.moved (h:(fT e 1 A n c X).h F w) {B:Option Addr} {k cp:Nat} {w':World} {F2:Fp} (h2:(kR e 1 B k cp).h F2 w') (hk:Keeps (λ_=>False) w w') (hn:∀k,F2 k->w.heap.size<=k):∃F',(eM e A n c X B k cp).h F' w'/\Step F w F' w':=
 ⟨λk=>F k\/F2 k,.inr ⟨F,F2,(fT e 1 A n c X).st h hk (λ_ _ h=>h),h2,λk q q'=>absurd ((fT e 1 A n c X).lt h k q) (Nat.not_lt.2 (hn k q')),λ_=>Iff.rfl⟩,hk.mono (λ_ _ h=>h.elim),λk q=>q.imp id (hn k)⟩
structure jx (P:Program) (e:TypeId) (z:Value) (w:World) (run:Value->Sem Value) (m:Nat) (news:List Value):Prop where
 nil:(run (.slice none 0 0)).run P w=.ok (.slice (some ⟨w.heap.size,0,none⟩) m (grownCap w m 0 e)) (w.drew.alloc (.cells (news.toArray++Builtin.zeroCells z.cells (grownCap w m 0 e-m)) e))
 room:∀(g n1 c1:Nat) (cur:Array Value),w.heap[g]?=some (.cells cur e (0,0))->n1+m<=c1->n1+m<=cur.size->(run (.slice (some ⟨g,0,none⟩) n1 c1)).run P w=.ok (.slice (some ⟨g,0,none⟩) (n1+m) c1) (w.setRow g (cur.toList.take n1++news++cur.toList.drop (n1+m)).toArray)
 grow:∀(g n1 c1:Nat) (olds:List Value),olds.length=n1->(∀j v,olds[j]?=some v->w.cell? ((⟨g,0,none⟩:Addr).add j)=some v)->c1<n1+m->n1+m<=1099511627776->(run (.slice (some ⟨g,0,none⟩) n1 c1)).run P w=.ok (.slice (some ⟨w.heap.size,0,none⟩) (n1+m) (grownCap w (n1+m) c1 e)) (w.drew.alloc (.cells (olds.toArray++news.toArray++Builtin.zeroCells z.cells (grownCap w (n1+m) c1 e-(n1+m))) e))
theorem jx.slice (ht:P.underlying t=some (.slice e)) (hi:P.info? e=some inf) (hz:inf.zero=some z) (hs:inf.size=1) (hb:inf.bytes<=128) (hl:news.length=m) (hm:0<m) (hm2:m<=1099511627776)
 (hnews:∀j u,news[j]?=some u->w.cell? (ad.add j)=some u) (h1:∀u∈news,u.oneCell'=true):jx P e z w (λv=>Builtin.append_ #[t,t] ty #[v,.slice (some ad) m cc]) m news:=by
 have hl':news.length=m*inf.size:=by rw [hs,hl,Nat.mul_one]
 have hmb:∀k,k<=1099511627776->k*inf.bytes<=140737488355328:=λk hk=>Nat.le_trans (Nat.mul_le_mul hk hb) (by decide)
 refine⟨run_append_nil (P:=P) w t ty e inf z ht hi hz ad m cc news hl' hnews hm (by omega) (by have:=hmb m (by omega);omega),λg n1 c1 cur hg hr hc=>?_,λg n1 c1 olds ho hold hc hn=>?_⟩
 ·have h:=run_append_room (P:=P) w t ty e inf ht hi g n1 c1 cur hg ad m cc news hl' hnews h1 hr (by rw [hs,hl];omega)
  rw [hs,hl,Nat.mul_one] at h
  exact h
 exact run_append_grow (P:=P) w t ty e inf z ht hi hz ⟨g,0,none⟩ n1 c1 olds (by rw [hs,ho,Nat.mul_one]) hold ad m cc news hl' hnews hc (by omega) (growslice_fits (by omega) (by
  have:=Nat.mul_le_mul (show n1+m<=1099511627776 from hn) hb
  omega))
theorem zc (hzs:z.cells=#[z]):Builtin.zeroCells z.cells m=(List.replicate m z).toArray:=by
 rw [hzs]
 apply Array.ext
 ·simp [Builtin.zeroCells]
 intro i h1 h2
 simp [Builtin.zeroCells,Nat.mod_one]
theorem zl (hm2:m<=1024) (hb:inf.bytes<=128):¬((m:Int)<0)/\¬(281474976710656<(m:Int)*(inf.bytes:Int))/\IntKind.i64.wrap (m:Int)=m:=by
 refine⟨by omega,?_,by simp [IntKind.wrap,IntKind.bits,IntKind.signed];omega⟩
 have h:=Nat.mul_le_mul hm2 hb
 have h2:(m:Int)*(inf.bytes:Int)=((m*inf.bytes:Nat):Int):=by simp
 rw [h2]
 generalize m*inf.bytes=q at h ⊢
 omega
theorem jx.zeros {ti:TypeId} (ht:P.underlying t=some (.slice e)) (yh:P.underlying ti=some (.int .i64)) (hi:P.info? e=some inf) (hz:inf.zero=some z) (hs:inf.size=1) (hzs:z.cells=#[z]) (hz1:z.oneCell'=true) (hb:inf.bytes<=128) (hm:0<m) (hm2:m<=1024) :
 jx P e z w (λv=>Builtin.append_ #[t,ti] ty #[v,.int .i64 (m:Int)]) m (List.replicate m z):=by
 obtain⟨g1,g2,hw⟩:=zl hm2 hb
 have hm0:m≠0:=by omega
 refine⟨?_,λg n1 c1 cur hg hr Dw=>?_,λg n1 c1 olds ho hold hcc hn=>?_⟩
 ·have h48':¬(281474976710656<Builtin.nextslicecap m 0*inf.bytes):=by
   rw [nextslicecap_zero hm]
   have h:=Nat.mul_le_mul hm2 hb
   generalize m*inf.bytes=q at h ⊢
   omega
  have g4:¬(9223372036854775807<(m:Int)):=by omega
  simp [Builtin.append_,run_underlying ht,run_underlying yh,sizeOf,typeInfo,zeroValue,hi,hz,hs,asInt,asIntOf,hw,hm0,g1,g2,g4,h48',Question.forced,run_firstCells_none,newRow,grownCap,zc hzs]
 ·have hst:=run_storeCells_at P g n1 e (List.replicate m z) 0 cur w hg (by simpa using Dw) (λu hu=>by rw [(List.mem_replicate.1 hu).2];exact hz1)
  simp only [Nat.add_zero,List.length_replicate] at hst
  simp [Builtin.append_,run_underlying ht,run_underlying yh,sizeOf,typeInfo,zeroValue,hi,hz,hs,asInt,asIntOf,hw,hm0,g1,g2,hr,Addr.add_lit,zc hzs,hst]
 have hfit:Builtin.nextslicecap (n1+m) c1*inf.bytes<=281474976710656:=growslice_fits (by omega) (by
  have h:=Nat.mul_le_mul hn hb
  generalize (n1+m)*inf.bytes=q at h ⊢
  omega)
 have h48':¬(281474976710656<Builtin.nextslicecap (n1+m) c1*inf.bytes):=by omega
 have hn':¬(n1+m<=c1):=by omega
 have g4:¬(9223372036854775807<(n1:Int)+(m:Int)):=by omega
 have hfo:=run_firstCells_some (P:=P) w.drew 1 n1 ⟨g,0,none⟩ n1 c1 olds (by rw [ho,Nat.mul_one]) (by simpa using hold)
 simp [Builtin.append_,run_underlying ht,run_underlying yh,sizeOf,typeInfo,zeroValue,hi,hz,hs,asInt,asIntOf,hw,hm0,g1,g2,hn',g4,h48',Question.forced,hfo,newRow,grownCap,zc hzs]
theorem eM.Cc {run:Value->Sem Value} (L:jx P e z w run m news) (hzs:z.cells.size=1) (hl:news.length=m) (h:(fT e 1 A n c X).h F w) (hn1:n<=n1) (hn2:n1<=c) (h63:n1+m<=1099511627776) :
 ∃B cp w' F',(run (.slice A n1 c)).run P w=.ok (.slice B (n1+m) cp) w'/\(eM e A n c X B (n1+m) cp).h F' w'/\Step F w F' w':=by
 have hP:=h
 have Ed:n1+m<=maxLen:=by unfold maxLen;omega
 obtain⟨xs,hX,hr,hF⟩:=h
 rcases hr.2 with ⟨ev,rfl⟩|⟨g,cp,cur,ev,hbg,hg,hnc,hcm,hcs,htake⟩
 ·cases ev
  obtain rfl:n1=0:=by omega
  have hge:=grownCap_ge w m 0 e
  obtain⟨F',q1,q2⟩:=eM.moved hP (wu (e:=e) (w:=w) (cur:=news.toArray++Builtin.zeroCells z.cells (grownCap w m 0 e-m)) (k:=0+m) (cap:=grownCap w m 0 e) (by simp only [Array.size_append,List.size_toArray,size_zeroCells,hzs,hl];omega) (by omega) (grownCap_le_maxLen w m 0 e (by omega))) sP (λk q=>Nat.le_of_eq q.symm)
  exact⟨_,_,_,F',by rw [Nat.zero_add];exact L.nil,q1,q2⟩
 cases ev
 have Cd:(cur.toList.take n1).length=n1:=by simp;omega
 by_cases hroom:n1+m<=c
 ·refine⟨_,_,_,F,L.room g n1 c cur hg hroom (by omega),.inl ⟨rfl,rfl,by omega,hroom,xs,hX,⟨hr.1,.inr ⟨g,c,_,rfl,hbg,setRow_heap w g cur _ e _ hg,hnc,hcm,?_,?_⟩⟩,hF⟩,?_,λk q=>.inl q⟩
  ·simp only [List.size_toArray,List.length_append,List.length_take,List.length_drop,Array.length_toList]
   omega
  ·rw [←htake,Nat.mul_one,List.append_assoc,List.take_append_of_le_length (by omega),List.take_take,Nat.min_eq_left hn1]
  exact⟨rfl,rfl,rfl,by simp,λk _ hk=>setRow_other w g k _ (λq=>hk ((hF k).2 (by simp [Value.ownBlock,q])))⟩
 have hown:w.ownsRow 0 e 1 (.slice (some ⟨g,0,none⟩) n1 c) n1 (cur.toList.take n1):=⟨by rw [Cd,Nat.mul_one],.inr ⟨g,c,cur,rfl,hbg,hg,hn2,hcm,hcs,by rw [Nat.mul_one]⟩⟩
 have hge:=grownCap_ge w (n1+m) c e
 obtain⟨F',q1,q2⟩:=eM.moved hP (wu (e:=e) (w:=w) (cur:=(cur.toList.take n1).toArray++news.toArray++Builtin.zeroCells z.cells (grownCap w (n1+m) c e-(n1+m))) (k:=n1+m) (cap:=grownCap w (n1+m) c e) (by simp only [Array.size_append,List.size_toArray,size_zeroCells,hzs,hl,Cd];omega) hge (grownCap_le_maxLen w (n1+m) c e Ed)) sP (λk q=>Nat.le_of_eq q.symm)
 exact⟨_,_,_,F',L.grow g n1 c _ Cd (hown.cells (g:=g) rfl) (by omega) h63,q1,q2⟩
theorem kR.more (h:(fT e 1 A n c X).h F w) (h1:n<=n1) (h2:n1<=c):(kR e 1 A n1 c).h F w:=by
 obtain⟨xs,_,hr,hF⟩:=h
 rcases hr.2 with ⟨ev,rfl⟩|⟨g,cp,cur,ev,hbg,hg,hnc,hcm,hcs,htake⟩
 ·cases ev
  obtain rfl:n1=0:=by omega
  exact⟨xs,trivial,hr,hF⟩
 cases ev
 exact⟨cur.toList.take n1,trivial,⟨by simp;omega,.inr ⟨g,c,cur,rfl,hbg,hg,h2,hcm,hcs,by rw [Nat.mul_one]⟩⟩,λk=>(hF k).trans (by simp [Value.ownBlock])⟩
theorem eM.own {B:Option Addr} {k cp:Nat} (h:(eM e A n c X B k cp).h F w):∃F',(kR e 1 B k cp).h F' w/\∀y,F' y->F y:=by
 rcases h with ⟨rfl,rfl,h1,h2,h⟩|⟨F1,F2,_,h2,_,h4⟩
 ·exact⟨F,kR.more h h1 h2,λ_ q=>q⟩
 exact⟨F2,h2,λy q=>(h4 y).2 (.inr q)⟩
theorem eM.app {run:Value->Sem Value} (L:jx P e z w run m news) (hzs:z.cells.size=1) (hl:news.length=m) (h:(eM e A n c X A1 n1 c1).h F w) (h63:n1+m<=1099511627776) :
 ∃B cp w' F',(run (.slice A1 n1 c1)).run P w=.ok (.slice B (n1+m) cp) w'/\(eM e A n c X B (n1+m) cp).h F' w'/\Step F w F' w':=by
 rcases h with ⟨rfl,rfl,hn1,hn2,h⟩|⟨F1,F2,g1,g2,g3,g4⟩
 ·exact eM.Cc L hzs hl h hn1 hn2 h63
 have hc:n1<=c1:=let ⟨_,_,hr⟩:=g2;(av.len hr).2
 obtain⟨B,cp,w',F',q1,q2,q3⟩:=eM.Cc L hzs hl g2 (Nat.le_refl _) hc h63
 obtain⟨F3,q4,q5⟩:=eM.own q2
 obtain⟨q6,q7⟩:=dh.frame g1 q3 g3
 refine⟨B,cp,w',λk=>F1 k\/F3 k,q1,.inr ⟨F1,F3,q6,q4,λk a b=>q7 k a (q5 k b),λ_=>Iff.rfl⟩,q3.1.mono (λk _ q=>(g4 k).2 (.inr q)),λk q=>?_⟩
 rcases q with q|q
 ·exact .inl ((g4 k).2 (.inl q))
 exact (q3.2 k (q5 k q)).imp (λq=>(g4 k).2 (.inr q)) id
theorem eM.start (h:(fT e 1 A n c X).h F w):(eM e A n c X A n c).h F w:=let ⟨_,_,hr⟩:=h;.inl ⟨rfl,rfl,Nat.le_refl _,(av.len hr).2,h⟩
theorem eM.stop (h:(eM e A n c X A1 n1 c1).h F w):∃F',(fT e 1 A n c X).h F' w/\∀k,F' k->F k:=by
 rcases h with ⟨_,_,_,_,h⟩|⟨F1,F2,h1,_,_,h4⟩
 ·exact⟨F,h,λ_ q=>q⟩
 exact⟨F1,h1,λk q=>(h4 k).2 (.inl q)⟩
end one
section rules
variable {P:Program} {β:Bs} {N:dK} {ops:Array Oper} {k:Nat} {fr:Fr} {hps:List HP} {Q:Post} {R:Nat->dh} {e:TypeId} {A A1:Option Addr} {n c n1 c1 n0 x i:Nat} {X X':List Value->Prop}
def wv (N:dK) (ops:Array Oper) (fr:Fr) (k:Nat):Operand×Operand:=
 match eV N (λ_=>undef) ops fr k with
 |some (.store _ a y,_)=>(a,y)
 |_=>(.tmp 0,.tmp 0)
theorem af.Ce {y:Value} {t2:TypeId} {news:List Value} {m:Nat} (i x:Nat) (t:TypeId) (hp:hps[i]?=some (.abs (aC R n0))) (hx:x<n0) (hR:R x=eM e A n c X A1 n1 c1) (hzs:(zI P e).cells.size=1) (hl:news.length=m) (hb:n1+m<=1099511627776)
 (L:∀w ty,Sat β hps w->jx P e (zI P e) w (λv=>Builtin.append_ #[t,t2] ty #[v,y]) m news)
 (K:∀B cp,af P β N ops (k+1) (dF fr (ox ops k) (.slice B (n1+m) cp)) (hps.set i (.abs (aC (fL R x (eM e A n c X B (n1+m) cp)) n0))) Q)
 (hop:∀junk,eV N junk ops fr k=some (.call ⟨.builtin .append,#[nX N ops fr k 0,nX N ops fr k 1],#[t,t2]⟩,ox ops k))
 (hs:∀junk,dI N fr junk (nX N ops fr k 0)=.slice A1 n1 c1) (hy:∀junk,dI N fr junk (nX N ops fr k 1)=y):af P β N ops k fr hps Q:=by
 refine af.rP (ι:=Option Addr×Nat) (v:=λp=>.slice p.1 (n1+m) p.2) (hp':=λp=>hps.set i (.abs (aC (fL R x (eM e A n c X p.1 (n1+m) p.2)) n0))) hop (λo junk w ho hS=>?_) (λp=>K p.1 p.2)
 obtain⟨F,φ,f1,f2,f3⟩:=hS.get hp
 have h0:(eM e A n c X A1 n1 c1).h (φ x) w:=hR ▸ f1 x hx
 obtain⟨B,cp,w',_,q1,_,_⟩:=eM.app (L w o.type hS) hzs hl h0 hb
 refine⟨(B,cp),w',?_,hS.set hp (λF' hF'=>aC.step hF' hx (λG hG=>?_) (λy _ hne=>if_neg hne))⟩
 ·obtain⟨dst,op,type,pos,after,guard⟩:=o
  cases ho
  refine .inl ?_
  have h':(Builtin.append_ #[t,t2] type #[.slice A1 n1 c1,y]).run P w=.ok (.slice B (n1+m) cp) w':=q1
  simp only [execOp,resolve,invoke,builtin,hs junk,hy junk,List.map_toArray,List.map_cons,List.map_nil,Sem.run_bind,Sem.run_pure,Result.andThen_ok,h']
 obtain⟨B',E8,w2,F2,r1,r2,r3⟩:=eM.app (L w o.type hS) hzs hl (hR ▸ hG) hb
 have e1:=q1.symm.trans r1
 injection e1 with e2 e3
 injection e2 with e4 _ e5
 subst e3 e4 e5
 rw [fL,if_pos rfl]
 exact⟨F2,r2,r3⟩
theorem af.Bq (i x:Nat) (t:TypeId) (m cc:Nat) (ad:Addr) (news:List Value) (hp:hps[i]?=some (.abs (aC R n0))) (hx:x<n0) (hR:R x=eM e A n c X A1 n1 c1)
 (hsrc:∀w,Sat β hps w->∀j u,news[j]?=some u->w.cell? (ad.add j)=some u) (hb:n1+m<=1099511627776)
 (K:∀B cp,af P β N ops (k+1) (dF fr (ox ops k) (.slice B (n1+m) cp)) (hps.set i (.abs (aC (fL R x (eM e A n c X B (n1+m) cp)) n0))) Q)
 (hm:0<m:=by decide) (hl:news.length=m:=by rfl) (h1:∀u∈news,u.oneCell'=true:=by exact Cb (by kernel_rfl))
 (hop:∀junk,eV N junk ops fr k=some (.call ⟨.builtin .append,#[nX N ops fr k 0,nX N ops fr k 1],#[t,t]⟩,ox ops k):=by intro _;kernel_rfl)
 (hs:∀junk,dI N fr junk (nX N ops fr k 0)=.slice A1 n1 c1:=by intro _;kernel_rfl) (hy:∀junk,dI N fr junk (nX N ops fr k 1)=.slice (some ad) m cc:=by intro _;kernel_rfl)
 (ht:P.underlying t=some (.slice e):=by kernel_rfl) (fu:(P.info? e).map (λi=>(i.zero,i.size,i.bytes))=some (some (zI P e),1,bI P e):=by kernel_rfl)
 (hzs:(zI P e).cells.size=1:=by kernel_rfl) (Cg:Nat.ble (bI P e) 128=true:=by kernel_rfl):af P β N ops k fr hps Q:=by
 obtain⟨inf,hi,hz,hsize,hby⟩:∃inf,P.info? e=some inf/\inf.zero=some (zI P e)/\inf.size=1/\inf.bytes=bI P e:=by
  cases h:P.info? e with
  |none=>rw [h] at fu;cases fu
  |some inf=>rw [h] at fu;simp at fu;exact⟨inf,rfl,fu.1,fu.2.1,fu.2.2⟩
 exact af.Ce i x t hp hx hR hzs hl (by omega) (λw ty hS=>jx.slice ht hi hz hsize (by rw [hby];exact Nat.le_of_ble_eq_true Cg) hl hm (by omega) (hsrc w hS) h1) K hop hs hy
theorem af.Ch (i x:Nat) (t t2:TypeId) (m:Nat) (hp:hps[i]?=some (.abs (aC R n0))) (hx:x<n0) (hR:R x=eM e A n c X A1 n1 c1) (hb:n1+m<=1099511627776)
 (K:∀B cp,af P β N ops (k+1) (dF fr (ox ops k) (.slice B (n1+m) cp)) (hps.set i (.abs (aC (fL R x (eM e A n c X B (n1+m) cp)) n0))) Q)
 (hm:0<m:=by decide) (hm2:m<=1024:=by decide)
 (hop:∀junk,eV N junk ops fr k=some (.call ⟨.builtin .append,#[nX N ops fr k 0,nX N ops fr k 1],#[t,t2]⟩,ox ops k):=by intro _;kernel_rfl)
 (hs:∀junk,dI N fr junk (nX N ops fr k 0)=.slice A1 n1 c1:=by intro _;kernel_rfl) (hy:∀junk,dI N fr junk (nX N ops fr k 1)=.int .i64 (m:Int):=by intro _;kernel_rfl)
 (ht:P.underlying t=some (.slice e):=by kernel_rfl) (yh:P.underlying t2=some (.int .i64):=by kernel_rfl) (fu:(P.info? e).map (λi=>(i.zero,i.size,i.bytes))=some (some (zI P e),1,bI P e):=by kernel_rfl)
 (hzs:(zI P e).cells=#[zI P e]:=by kernel_rfl) (hz1:(zI P e).oneCell'=true:=by kernel_rfl) (Cg:Nat.ble (bI P e) 128=true:=by kernel_rfl):af P β N ops k fr hps Q:=by
 obtain⟨inf,hi,hz,hsize,hby⟩:∃inf,P.info? e=some inf/\inf.zero=some (zI P e)/\inf.size=1/\inf.bytes=bI P e:=by
  cases h:P.info? e with
  |none=>rw [h] at fu;cases fu
  |some inf=>rw [h] at fu;simp at fu;exact⟨inf,rfl,fu.1,fu.2.1,fu.2.2⟩
 exact af.Ce i x t hp hx hR (by rw [hzs];rfl) (List.length_replicate ..) (by omega) (λw ty hS=>jx.zeros ht yh hi hz hsize hzs hz1 (by rw [hby];exact Nat.le_of_ble_eq_true Cg) hm hm2) K hop hs hy
theorem Br {b j:Nat} {news:List Value} {T:TypeId} (hp:hps[j]?=some (.blk b news T)):∀w,Sat β hps w->∀j u,news[j]?=some u->w.cell? ((⟨b,0,none⟩:Addr).add j)=some u:=λw hS=>by
 rcases dS hp w hS with ⟨h,_⟩|⟨ad,h,g⟩
 ·cases h
 cases h;exact g
theorem af.DH (i x j:Nat) (T:TypeId) (u:Value) (hp:hps[i]?=some (.abs (aC R n0))) (hx:x<n0) (hR:R x=fT e 1 A n c X) (hj:j<n) (hX:∀xs,xs.length=n->X xs->X' (xs.set j u))
 (K:af P β N ops (k+1) (dF fr (ox ops k) undef) (hps.set i (.abs (aC (fL R x (fT e 1 A n c X')) n0))) Q)
 (hop:∀junk,eV N junk ops fr k=some (.store T (wv N ops fr k).1 (wv N ops fr k).2,ox ops k):=by intro _;kernel_rfl) (ha:∀junk,dI N fr junk (wv N ops fr k).1=.pointer (some ⟨au A,ar A+j*1,none⟩):=by intro _;kernel_rfl)
 (hy:∀junk,dI N fr junk (wv N ops fr k).2=u:=by intro _;kernel_rfl) (hT:(P.info? T).map (·.size)=some 1:=by kernel_rfl) (hu:u.oneCell'=true:=by rfl):af P β N ops k fr hps Q:=by
 have key:∀F w,(fT e 1 A n c X).h F w->(∃y,w.cell? ⟨au A,ar A+j*1,none⟩=some y)/\w.frozen? ⟨au A,ar A+j*1,none⟩=false/\∃F',(fT e 1 A n c X').h F' (w.setCell ⟨au A,ar A+j*1,none⟩ u)/\Step F w F' (w.setCell ⟨au A,ar A+j*1,none⟩ u):=by
  rintro F w ⟨xs,hP,h⟩
  obtain⟨g,rfl⟩:=av.head h (by omega)
  have hl:=(av.len h).1
  have hj':j<xs.length:=by omega
  rw [show (⟨au (some ⟨g,0,none⟩),ar (some ⟨g,0,none⟩)+j*1,none⟩:Addr)=⟨g,j,none⟩ from congrArg (λo=>(⟨g,o,none⟩:Addr)) (by show 0+j*1=j;omega)]
  obtain⟨y,hy⟩:=fY hj'
  refine⟨⟨y,av.cell hy F w h⟩,?_,let ⟨F',a,b⟩:=pE hj' F h;⟨F',⟨_,hX xs (by omega) hP,a⟩,b⟩⟩
  obtain⟨⟨_,h2⟩,_⟩:=h
  rcases h2 with ⟨e,_⟩|⟨g',cp,cur,e,_,hb,_⟩
  ·cases e
  cases e;simp [World.frozen?,hb]
 refine af.gK hop (λo junk w ho hS=>?_) K
 obtain⟨F,φ,f1,f2,f3⟩:=hS.get hp
 obtain⟨⟨y,hc⟩,hf,_⟩:=key _ w (hR ▸ f1 x hx)
 refine⟨w.setCell ⟨au A,ar A+j*1,none⟩ u,.inr ⟨rfl,?_⟩,hS.set hp (λF' hF'=>aC.step hF' hx (λG hG=>?_) (λy _ hne=>if_neg hne))⟩
 ·obtain⟨inf,hi,hsz⟩:∃inf,P.info? T=some inf/\inf.size=1:=by
   cases h:P.info? T with
   |none=>rw [h] at hT;cases hT
   |some inf=>rw [h] at hT;exact⟨inf,rfl,by simpa using hT⟩
  have h3:=je hi w
  rw [hsz] at h3
  have ha:=ha junk
  have hy:=hy junk
  generalize (wv N ops fr k).1=a1 at ha ho
  generalize (wv N ops fr k).2=y1 at hy ho
  obtain⟨dst,op,type,pos,after,guard⟩:=o
  cases ho
  generalize (⟨au A,ar A+j*1,none⟩:Addr)=a at hc hf ha
  obtain⟨b,q,s⟩:=a
  cases u<;>first
   |(simp [Value.oneCell'] at hu;done)
   |(simp only [execOp,ha,hy];simp [go_sem,Instr.storeAt,Instr.sureAddr,storeVar,h3,Value.cells,storeCells,store,Addr.add,Sem.run,hc,hf])
 rw [fL,if_pos rfl]
 exact (key G w (hR ▸ hG)).2.2
theorem af.AO (i x:Nat) (hp:hps[i]?=some (.abs (aC R n0))) (hx:x<n0) (hR:R x=fT e 1 A n c X) (hn:0<n) (H:A=some ⟨au A,ar A,none⟩->af P β N ops k fr hps Q):af P β N ops k fr hps Q:=
 af.tell (λ_ hS=>by
  obtain⟨F,φ,h1,_,_⟩:=hS.get hp
  obtain⟨xs,_,h⟩:(fT e 1 A n c X).h (φ x) _:=hR ▸ h1 x hx
  exact (av.tQ h hn).1) H
theorem af.wR (i:Nat) {size:Nat} {xs:List Value} (hp:hps[i]?=some (.abs (av e size A n c xs))) (hn:0<n) (K:A=some ⟨au A,ar A,none⟩->af P β N ops k fr hps Q):af P β N ops k fr hps Q:=
 af.tell (λ_ hS=>let ⟨_,h⟩:=hS.get hp;(av.tQ h hn).1) K
theorem aC.Dg {j:Nat} {u:Value} (hx:x<n0) (hR:R x=fT e 1 A n c X) (hj:j<n) (hX:∀xs,X xs->xs[j]?=some u):∀F w,(aC R n0).h F w->w.cell? ⟨au A,ar A+j*1,none⟩=some u:=by
 rintro F w ⟨φ,h1,_,_⟩
 obtain⟨xs,hP,h⟩:(fT e 1 A n c X).h (φ x) w:=hR ▸ h1 x hx
 obtain⟨g,rfl⟩:=av.head h (by omega)
 have:=av.cell (hX xs hP) _ _ h
 rwa [show (⟨au (some ⟨g,0,none⟩),ar (some ⟨g,0,none⟩)+j*1,none⟩:Addr)=⟨g,j,none⟩ from congrArg (λo=>(⟨g,o,none⟩:Addr)) (by show 0+j*1=j;omega)]
end rules
end
section
open Go.RowKit Go.WideShapes Go.ChangeShapes Go.ChangeAt Go.Deep
theorem laidOut:laidOutB Try.prog=true:=by kernel_rfl
theorem own:ownKnob Try.prog.godebug=none:=by kernel_rfl
section row
variable {H:Type} {enc:TypeId×Value->H} {P:Program}
theorem nZ (hl:laidOutB P=true) {W W':World} (hb:Below W.heap.size W W') {sp:Nat->Bool}:∀{ts:List TypeId} {vs:List Value} {ds:List (DataW H)} {ps:List MemPlace},
 (∀t∈ts,P.readableRec t=true/\t<P.types.size)->DataW.TrodAll enc P W 0 (λ_=>true) true ts vs ds ps->(∀x∈ps,x.block<W.heap.size)->(∀x∈ps,sp x.block=true)->DataW.TrodAll enc P W' 0 sp true ts vs ds ps
 |[],vs,ds,ps,_,h,_,_=>by
   obtain⟨rfl,rfl,rfl⟩:=trodAll_nil h
   exact trodAll_mk0
 |t::ts,vs,ds,ps,hr,h,hlt,hsp=>by
   obtain⟨v,vs',d,ds',p,q,rfl,rfl,rfl,h1,h2⟩:=trodAll_cons h
   have h3:=hr t List.mem_cons_self
   exact trodAll_cons_mk (WideElems.Trod_stays hl h3.1 h3.2 h1 (λx hx=>hb.same (hlt x (List.mem_append.2 (.inl hx)))) (λx hx=>hsp x (List.mem_append.2 (.inl hx))))
    (nZ hl hb (λt ht=>hr t (List.mem_cons_of_mem _ ht)) h2 (λx hx=>hlt x (List.mem_append.2 (.inr hx))) (λx hx=>hsp x (List.mem_append.2 (.inr hx))))
def Ci (P:Program) (f:Func):Bool:=f.params.toList.all λt=>P.readableRec t && decide (t<P.types.size)
theorem law_post (hl:laidOutB P=true) {f:Func} {s:ChangeSpec} {apart fresh handsOn again:Bool} {W W':World} {args:Array Value} {ds gs:List (DataW H)} {before:List MemPlace} {tb:TypeId} {rb:Bool}
 (hW:DataW.Whole enc P f.params.toList s.vars apart W args.toList ds gs before) (hvars:s.vars=[]) (hrow:Ci P f=true) (hres:f.resultTypes=#[tb]) (hb0:P.underlying tb=some .bool)
 (hfn:(s.fn H (ds++gs)).results=[.lit (.bool rb)]) (hargs:(s.fn H (ds++gs)).args=ds) (hv:(s.fn H (ds++gs)).vars=[]) (hb:Below W.heap.size W W') :
 s.post enc P f apart fresh handsOn again W args (.bool rb) W':=by
 have hW':=hW
 obtain⟨p,q,hA,hV,rfl,_,_⟩:=hW
 rw [hvars] at hV
 obtain⟨rfl,rfl⟩:=trodVars_none hV
 have hlt:∀x∈p,x.block<W.heap.size:=λx hx=>hW'.lt x (List.mem_append.2 (.inl hx))
 have hr:∀t∈f.params.toList,P.readableRec t=true/\t<P.types.size:=λt ht=>by
  grind [Ci]
 refine tJ (pa:=p) (pv:=[]) hW' (λb sp hd=>?_) (λsp hsp=>?_) (λsp _=>?_) (by simp) hb (ok_one hres rfl (okWide_bool_mk hb0 _))
 ·rw [hfn,hres]
  exact trodAll_cons_mk (shut_bool hb0 _) trodAll_mk0
 ·grind [nZ]
 rw [hvars,hv]
 exact rfl
end row
end
section
open Go.RowKit
structure bV where
 name:ByteArray
 id:Int
deriving Inhabited,DecidableEq
structure aD where
 id:Int
 kind:Int
 mode:Int
 uid:Int
 gid:Int
 sec:Int
 nano:Int
 data:List UInt8
 target:ByteArray
 aj:List bV
deriving Inhabited,DecidableEq
structure Lay where
 dA:Nat->Option Addr
 eA:Nat->Option Addr
 dC:Nat->Nat
 eC:Nat->Nat
def nd (ns:List aD) (i:Nat):aD:=ns.getD i default
def en (es:List bV) (i:Nat):bV:=es.getD i default
def oV (b:UInt8):Value:=.int .u8 ((b.toNat:Nat):Int)
def bX (d:List UInt8):List Value:=d.map oV
def pX (e:bV):List Value:=[.string e.name,.int .i64 e.id]
def bG (L:Lay) (i:Nat) (n:aD):List Value:=
 [.int .i64 n.id,.int .i64 n.kind,.int .i64 n.mode,.int .i64 n.uid,.int .i64 n.gid,.int .i64 n.sec,.int .i64 n.nano,.slice (L.dA i) n.data.length (L.dC i),.string n.target,.slice (L.eA i) n.aj.length (L.eC i)]
def cP {α:Type} (f:Nat->α->List Value):Nat->List α->List Value
 |_,[]=>[]
 |k,a::r=>f k a++cP f (k+1) r
section flat
variable {α:Type} {f:Nat->α->List Value} {s:Nat}
theorem j8 (hs:∀i a,(f i a).length=s):∀(l:List α) (k:Nat),(cP f k l).length=l.length*s
 |[],_=>by simp [cP]
 |a::r,k=>by rw [cP,List.length_append,hs,j8 hs r,List.length_cons,Nat.add_mul,Nat.one_mul,Nat.add_comm]
theorem jf (hs:∀i a,(f i a).length=s):∀(l:List α) (k i j:Nat) (a:α),l[i]?=some a->j<s->(cP f k l)[i*s+j]?=(f (k+i) a)[j]?
 |[],k,i,j,a,h,_=>by simp at h
 |b::r,k,0,j,a,h,hj=>by
   simp at h
   subst h
   rw [cP,Nat.zero_mul,Nat.zero_add,List.getElem?_append_left (by rw [hs];exact hj)]
   rfl
 |b::r,k,i+1,j,a,h,hj=>by
   have h':r[i]?=some a:=by simpa using h
   have e:(i+1)*s+j=s+(i*s+j):=by rw [Nat.add_mul,Nat.one_mul];omega
   rw [cP,e,List.getElem?_append_right (by rw [hs];omega),hs,Nat.add_sub_cancel_left,jf hs r (k+1) i j a h' hj]
   have:k+1+i=k+(i+1):=by omega
   rw [this]
theorem jy (a:α):∀(l:List α) (k:Nat),cP f k (l++[a])=cP f k l++f (k+l.length) a
 |[],k=>by simp [cP]
 |b::r,k=>by
   rw [List.cons_append,cP,cP,jy a r (k+1),List.append_assoc,List.length_cons]
   have:k+1+r.length=k+(r.length+1):=by omega
   rw [this]
theorem jV {g:Nat->α->List Value}:∀(l:List α) (k:Nat),(∀i a,l[i]?=some a->f (k+i) a=g (k+i) a)->cP f k l=cP g k l
 |[],_,_=>rfl
 |b::r,k,h=>by
   have h1:cP f (k+1) r=cP g (k+1) r:=jV r (k+1) (λi a hi=>by
    have:=h (i+1) a (by simpa using hi)
    have e:k+1+i=k+(i+1):=by omega
    rw [e]
    exact this)
   have h2:f k b=g k b:=h 0 b rfl
   rw [cP,cP,h1,h2]
end flat
def gA (es:List bV):List Value:=cP (λ_ e=>pX e) 0 es
def aK (L:Lay) (ns:List aD):List Value:=cP (bG L) 0 ns
theorem iF (d:List UInt8):(bX d).length=d.length:=by simp [bX]
theorem yj (es:List bV):(gA es).length=es.length*2:=j8 (s:=2) (λ_ _=>rfl) es 0
theorem qI (L:Lay) (ns:List aD):(aK L ns).length=ns.length*10:=j8 (s:=10) (λ_ _=>rfl) ns 0
theorem getD_some {α:Type} {l:List α} {i:Nat} {x:α} (h:i<l.length):l[i]?=some (l.getD i x):=by
 grind
theorem gu (d:List UInt8):∀u∈bX d,u.oneCell'=true:=by
 intro u hu
 obtain⟨b,_,rfl⟩:=List.mem_map.1 hu
 rfl
theorem sQ {α:Type} {f:Nat->α->List Value} (h:∀i a,∀u∈f i a,u.oneCell'=true):∀(l:List α) (k:Nat),∀u∈cP f k l,u.oneCell'=true
 |[],_,u,hu=>by simp [cP] at hu
 |b::r,k,u,hu=>by
   rw [cP] at hu
   rcases List.mem_append.1 hu with hu|hu
   ·exact h k b u hu
   exact sQ h r (k+1) u hu
theorem ug (es:List bV):∀u∈gA es,u.oneCell'=true:=sQ (λ_ a u hu=>by simp [pX] at hu;rcases hu with rfl|rfl<;>rfl) es 0
section at_
variable {β β':Bs} {A:Option Addr}
def bp (β:Bs) (A:Option Addr) (d:List UInt8):Prop:=cK β A (bX d)
def bh (β:Bs) (A:Option Addr) (es:List bV):Prop:=cK β A (gA es)
theorem bp.le {d:List UInt8} (h:bp β A d) (hle:β.le β'):bp β' A d:=cK.le h hle
theorem bh.le {es:List bV} (h:bh β A es) (hle:β.le β'):bh β' A es:=cK.le h hle
theorem bp.get {d:List UInt8} (h:bp β A d) {j:Nat} (hj:j<d.length):A=some ⟨au A,ar A,none⟩/\Rd β ⟨au A,ar A+j*1,none⟩ (.int .u8 (((d.getD j 0).toNat:Nat):Int)):=by
 have h1:(bX d)[j]?=some (oV (d.getD j 0)):=by
  grind [bX,getD_some]
 have:=h j _ h1
 rw [Nat.mul_one]
 exact this
theorem bp.hd {d:List UInt8} (h:bp β A d) {j:Nat} (hj:j<d.length):A=some ⟨au A,ar A,none⟩:=(h.get hj).1
theorem bp.rd {d:List UInt8} (h:bp β A d) {j:Nat} (hj:j<d.length):Rd β ⟨au A,ar A+j*1,none⟩ (.int .u8 (((d.getD j 0).toNat:Nat):Int)):=(h.get hj).2
theorem bh.get {es:List bV} (h:bh β A es) {i:Nat} (hi:i<es.length) {j:Nat} {v:Value} (hv:(pX (en es i))[j]?=some v):A=some ⟨au A,ar A,none⟩/\Rd β ⟨au A,ar A+i*2+j,none⟩ v:=by
 have hj:j<2:=bZ hv
 have h1:=jf (f:=λ_ e=>pX e) (s:=2) (λ_ _=>rfl) es 0 i j _ (getD_some (x:=default) hi) hj
 have:=h (i*2+j) v (h1.trans hv)
 rw [←Nat.add_assoc] at this
 exact this
theorem bh.hd {es:List bV} (h:bh β A es) {i:Nat} (hi:i<es.length):A=some ⟨au A,ar A,none⟩:=(h.get hi (j:=0) rfl).1
theorem bh.rd {es:List bV} (h:bh β A es) {i:Nat} (hi:i<es.length) {j:Nat} {v:Value} (hv:(pX (en es i))[j]?=some v):Rd β ⟨au A,ar A+i*2+j,none⟩ v:=(h.get hi hv).2
theorem cK.src {hps:List HP} {xs:List Value} (h:cK β A xs):∀w,Sat β hps w->(A=none/\xs.length=0)\/∃ad,A=some ad/\∀j u,xs[j]?=some u->w.cell? (ad.add j)=some u:=by
 intro w hS
 cases hA:A with
 |none=>
   refine .inl ⟨rfl,?_⟩
   cases xs with
   |nil=>rfl
   |cons x r=>have:=(h 0 x rfl).1;rw [hA] at this;cases this
 |some a=>
   refine .inr ⟨a,rfl,λj u hj=>?_⟩
   obtain⟨h1,h2⟩:=h j u hj
   rw [hA] at h1 h2
   have e1:a=⟨au (some a),ar (some a),none⟩:=by injection h1
   have ea:a.add j=⟨au (some a),ar (some a)+j,none⟩:=by
    rw [e1]
    unfold Addr.add
    split
    ·rename_i h0;subst h0;rfl
    rfl
   rw [ea]
   exact hS.1.cell h2
end at_
structure aA (β:Bs) (A:Option Addr) (ns:List aD) (L:Lay):Prop where
 row:cK β A (aK L ns)
 data:∀i,i<ns.length->bp β (L.dA i) (nd ns i).data
 aj:∀i,i<ns.length->bh β (L.eA i) (nd ns i).aj
structure gZ (β:Bs) (ns:List aD) (k:Nat) (L:Lay):Prop where
 data:∀i,i<k->bp β (L.dA i) (nd ns i).data
 aj:∀i,i<k->bh β (L.eA i) (nd ns i).aj
def Lay.put (L:Lay) (k:Nat) (dA:Option Addr) (dC:Nat) (eA:Option Addr) (eC:Nat):Lay:=
 ⟨λi=>if i=k then dA else L.dA i,λi=>if i=k then eA else L.eA i,λi=>if i=k then dC else L.dC i,λi=>if i=k then eC else L.eC i⟩
section graph
variable {β β':Bs} {A:Option Addr} {ns:List aD} {L:Lay}
theorem aA.le (h:aA β A ns L) (hle:β.le β'):aA β' A ns L:=⟨h.row.le hle,λi hi=>(h.data i hi).le hle,λi hi=>(h.aj i hi).le hle⟩
theorem aA.get (h:aA β A ns L) {i:Nat} (hi:i<ns.length) {j:Nat} {v:Value} (hv:(bG L i (nd ns i))[j]?=some v):A=some ⟨au A,ar A,none⟩/\Rd β ⟨au A,ar A+i*10+j,none⟩ v:=by
 have hj:j<10:=bZ hv
 have h1:=jf (f:=bG L) (s:=10) (λ_ _=>rfl) ns 0 i j _ (getD_some (x:=default) hi) hj
 rw [Nat.zero_add] at h1
 have:=h.row (i*10+j) v (h1.trans hv)
 rw [←Nat.add_assoc] at this
 exact this
theorem aA.hd (h:aA β A ns L) {i:Nat} (hi:i<ns.length):A=some ⟨au A,ar A,none⟩:=(h.get hi (j:=0) rfl).1
theorem aA.rd (h:aA β A ns L) {i:Nat} (hi:i<ns.length) {j:Nat} {v:Value} (hv:(bG L i (nd ns i))[j]?=some v):Rd β ⟨au A,ar A+i*10+j,none⟩ v:=(h.get hi hv).2
theorem gZ.le {k:Nat} (h:gZ β ns k L) (hle:β.le β'):gZ β' ns k L:=⟨λi hi=>(h.data i hi).le hle,λi hi=>(h.aj i hi).le hle⟩
theorem gZ.put {k:Nat} (h:gZ β ns k L) {dA eA:Option Addr} {dC eC:Nat} (hd:bp β dA (nd ns k).data) (he:bh β eA (nd ns k).aj):gZ β ns (k+1) (L.put k dA dC eA eC):=by
 refine⟨λi hi=>?_,λi hi=>?_⟩
 ·by_cases e:i=k
  ·subst e;simpa [Lay.put] using hd
  simpa [Lay.put,e] using h.data i (by omega)
 by_cases e:i=k
 ·subst e;simpa [Lay.put] using he
 simpa [Lay.put,e] using h.aj i (by omega)
theorem qJ {k:Nat} (hk:k<ns.length) (dA:Option Addr) (dC:Nat) (eA:Option Addr) (eC:Nat) :
 aK L (ns.take k)++[.int .i64 (nd ns k).id,.int .i64 (nd ns k).kind,.int .i64 (nd ns k).mode,.int .i64 (nd ns k).uid,.int .i64 (nd ns k).gid,.int .i64 (nd ns k).sec,.int .i64 (nd ns k).nano,.slice dA (nd ns k).data.length dC,.string (nd ns k).target,.slice eA (nd ns k).aj.length eC] =
  aK (L.put k dA dC eA eC) (ns.take (k+1)):=by
 have e1:ns.take (k+1)=ns.take k++[nd ns k]:=by
  rw [List.take_succ_eq_append_getElem hk]
  simp [nd,List.getD_eq_getElem?_getD,hk]
 have hlen:(ns.take k).length=k:=by simp;omega
 rw [aK,aK,e1,jy,hlen,Nat.zero_add]
 grind [cP,bG,jV,bZ,Lay.put]
theorem aA.mk' {k:Nat} (hrow:cK β A (aK L (ns.take k))) (h:gZ β ns k L) (hk:ns.length<=k):aA β A ns L:=by
 rw [List.take_of_length_le hk] at hrow
 exact⟨hrow,λi hi=>h.data i (by omega),λi hi=>h.aj i (by omega)⟩
end graph
end
section
open Go.RowKit Go.WideShapes Go.ChangeShapes Go.ChangeAt Go.Deep
abbrev B0 (W:World):Bs:=⟨(· < W.heap.size),W⟩
theorem Bt {w:World} {a:Addr} {v:Value} (h:w.cell? a=some v):a.block<w.heap.size:=by
 unfold World.cell? at h
 grind
theorem yq {w:World} {a:Addr} {v:Value} (h:w.cell? a=some v):a.spot=none:=by
 unfold World.cell? at h
 split at h
 ·split at h
  ·cases h
  rename_i h0
  cases hs:a.spot with
  |none=>rfl
  |some x=>rw [hs] at h0;exact absurd rfl h0
 cases h
theorem add_plain {a:Addr} (k:Nat) (h:a.spot=none):a.add k=⟨a.block,a.off+k,none⟩:=by
 obtain⟨b,o,s⟩:=a
 cases h
 unfold Addr.add
 split
 ·rename_i h0;subst h0;rfl
 rfl
theorem uh {H:Type} {D:Nat->DataW H} {n i:Nat} (hi:i<n):Rows.uptoBulk (D i)<=Rows.uptoBulkAll ((List.range n).map D):=by
 have hm:D i∈(List.range n).map D:=by grind
 generalize (List.range n).map D=l at hm
 induction l with
 |nil=>cases hm
 |cons x r ih=>
   simp only [Rows.uptoBulkAll]
   grind
theorem zF {H:Type} (d:DataW H):1<=Rows.uptoBulk d:=by
 cases d with
 |lit l=>cases l<;>simp [Rows.uptoBulk]
 |nil=>simp [Rows.uptoBulk]
 |ptr d=>simp [Rows.uptoBulk]
 |slice elems spare=>simp [Rows.uptoBulk]
 |agg parts=>simp [Rows.uptoBulk]
 |iface t d=>simp [Rows.uptoBulk]
 |map entries=>simp [Rows.uptoBulk]
 |held h=>simp [Rows.uptoBulk]
theorem pY {H:Type} (l:List (DataW H)):l.length<=Rows.uptoBulkAll l:=by
 induction l with
 |nil=>simp [Rows.uptoBulkAll]
 |cons x r ih=>have:=zF x;simp only [Rows.uptoBulkAll,List.length_cons];omega
theorem bulk_mem {H:Type} {d:DataW H} {l:List (DataW H)} (h:d∈l):Rows.uptoBulk d<=Rows.uptoBulkAll l:=by
 induction l with
 |nil=>cases h
 |cons x r ih=>
   simp only [Rows.uptoBulkAll]
   grind
section open_
variable {H:Type} {enc:TypeId×Value->H} {P:Program} {W:World} {sp:Nat->Bool}
theorem pZ {α:Type} [Inhabited α] {t e:TypeId} {size:Nat} {f:α->List Value} {Q:α->DataW H->Prop} (ht:P.underlying t=some (.slice e)) (hC:P.cellsOf e=size) (h0:0<size)
 (hel:∀n cs x,DataW.trod enc P W 0 sp true n e cs=some x->∃a,cs=f a/\Q a x.1) (hf:∀a,(f a).length=size)
 {fuel:Nat} {cs:List Value} {x:DataW H×List MemPlace} (h:DataW.trod enc P W 0 sp true fuel t cs=some x) :
 ∃A c,∃xs:List α,∃D:Nat->DataW H,cs=[.slice A xs.length c]/\xs.length<=c/\c<=maxLen/\cK (B0 W) A (cP (λ_ a=>f a) 0 xs)/\(∀i,i<xs.length->Q (xs.getD i default) (D i)) ∧
   Rows.uptoBulkAll ((List.range xs.length).map D)+1<=Rows.uptoBulk x.1:=by
 rcases open_slice ht h with ⟨hv,hx⟩|⟨a,len,cap,m,n,D,Pl,hcs,hb,hl,hm,hmm,hx,hi⟩
 ·subst hv
  refine⟨none,0,[],λ_=>.nil,rfl,Nat.le_refl _,Nat.zero_le _,λj v hj=>by simp [cP] at hj,λi hi=>absurd hi (Nat.not_lt_zero i),?_⟩
  rw [hx]
  simp [Rows.uptoBulk,Rows.uptoBulkAll]
 have E9:len<=m:=by rw [hmm];split<;>omega
 have hch:∀i,∃b:α,i<len->(W.cells? 0 (a.add (i*P.cellsOf e)) (P.cellsOf e)=some (f b)/\Q b (D i)):=λi=>by
  by_cases hil:i<len
  ·obtain⟨cs',h1,h2⟩:=hi i (by omega)
   grind
  exact⟨default,λh=>absurd h hil⟩
 have hg:=λi=>Classical.choose_spec (hch i)
 generalize hG:(λi=>Classical.choose (hch i))=g at hg
 have hg:∀i,i<len->W.cells? 0 (a.add (i*P.cellsOf e)) (P.cellsOf e)=some (f (g i))/\Q (g i) (D i):=λi hi=>by
  grind
 have hlen:((List.range len).map g).length=len:=by simp
 have hget:∀i,i<len->((List.range len).map g)[i]?=some (g i):=λi hi=>by simp [hi]
 have EL:∀i,i<len->((List.range len).map g).getD i default=g i:=by grind
 have hs1:0<len->a.spot=none:=λhl0=>by
  obtain⟨h2,-⟩:=hg 0 hl0
  rw [hC] at h2
  obtain⟨_,hcl,hat⟩:=World.cells?_some h2
  have h3:=hat 0 h0
  rw [List.getElem?_eq_getElem (by rw [hcl];exact h0)] at h3
  have e:(a.add (0*size)).add 0=a:=by rw [Nat.zero_mul];rfl
  rw [e] at h3
  exact yq h3
 refine⟨some a,cap,(List.range len).map g,D,by rw [hlen];exact hcs,by rw [hlen];exact hl,hm,λj v hj=>?_,λi hi'=>?_,?_⟩
 ·have hfl:=j8 (f:=λ_ a=>f a) (s:=size) (λ_ a=>hf a) ((List.range len).map g) 0
  have hjl:=bZ hj
  rw [hfl,hlen] at hjl
  have iJ:j / size<len:=(Nat.div_lt_iff_lt_mul h0).2 hjl
  have hj2:j % size<size:=Nat.mod_lt _ h0
  have e:=Nat.div_add_mod j size
  rw [Nat.mul_comm] at e
  have h1:=jf (f:=λ_ a=>f a) (s:=size) (λ_ a=>hf a) _ 0 _ (j % size) _ (hget _ iJ) hj2
  rw [e,hj] at h1
  obtain⟨h2,-⟩:=hg _ iJ
  rw [hC] at h2
  obtain⟨_,_,hat⟩:=World.cells?_some h2
  have h3:=hat _ hj2
  rw [←h1] at h3
  have hs1:=hs1 (Nat.lt_of_le_of_lt (Nat.zero_le _) iJ)
  rw [add_plain _ hs1] at h3
  rw [add_plain (a:=⟨a.block,a.off+j / size*size,none⟩) _ rfl] at h3
  have e2:a.off+j / size*size+j % size=a.off+j:=by omega
  have h4:W.cell? ⟨a.block,a.off+j,none⟩=some v:=by rw [←e2];exact h3
  have ea:(some a:Option Addr)=some ⟨au (some a),ar (some a),none⟩:=by
   obtain⟨b,o,s⟩:=a
   cases hs1
   rfl
  exact⟨ea,Bt h4,h4⟩
 ·grind
 rw [hx,hlen]
 simp only [Rows.uptoBulk]
 omega
theorem Bu {t:TypeId} {n:Nat} {cs:List Value} {x:DataW H×List MemPlace} (ht:P.underlying t=some (.int .u8)) (h:DataW.trod enc P W 0 sp true n t cs=some x):∃b:UInt8,cs=[oV b]/\True:=by
 obtain⟨z,h1,_,h3⟩:=DataW.trod_int ht h
 have h4:0<=z/\z<=255:=by simpa [Lit.wf,IntKind.min,IntKind.max,IntKind.signed,IntKind.bits] using h3
 refine⟨UInt8.ofNat z.toNat,?_,trivial⟩
 have e:(((UInt8.ofNat z.toNat).toNat:Nat):Int)=z:=by
  rw [UInt8.toNat_ofNat']
  omega
 rw [oV,e]
 exact h1
def fO (z:Int):Prop:=-9223372036854775808<=z/\z<=9223372036854775807
theorem i64_of {z:Int} (h:(Lit.int .i64 z).wf=true):fO z:=by
 unfold fO
 simpa [Lit.wf,IntKind.min,IntKind.max,IntKind.signed,IntKind.bits] using h
theorem iw {t:TypeId} {n:Nat} {c:Value} {x:DataW H×List MemPlace} (ht:P.underlying t=some (.int .i64)) (h:DataW.trod enc P W 0 sp true n t [c]=some x):∃z,c=.int .i64 z/\fO z:=by
 obtain⟨z,h1,_,h3⟩:=DataW.trod_int ht h
 cases h1
 exact⟨z,rfl,by unfold fO;simpa [Lit.wf,IntKind.min,IntKind.max,IntKind.signed,IntKind.bits] using h3⟩
theorem uj {t:TypeId} {n:Nat} {c:Value} {x:DataW H×List MemPlace} (ht:P.underlying t=some .string) (h:DataW.trod enc P W 0 sp true n t [c]=some x):∃s:ByteArray,c=.string s/\s.size+1<=Rows.uptoBulk x.1:=by
 obtain⟨s,h1,h2,_⟩:=DataW.trod_string ht h
 cases h1
 refine⟨s,rfl,?_⟩
 rw [h2]
 simp only [Rows.uptoBulk,Array.length_toList]
 exact Nat.le_refl _
end open_
section graph
variable {H:Type} {enc:TypeId×Value->H} {W:World} {sp:Nat->Bool}
theorem qK:∀(d:List UInt8) (k:Nat),cP (λ_ b=>[oV b]) k d=bX d
 |[],_=>rfl
 |b::r,k=>by rw [cP,qK r (k+1)];rfl
theorem wS {n:Nat} {c:Value} {x:DataW H×List MemPlace} (h:DataW.trod enc Try.prog W 0 sp true n 29 [c]=some x) :
 ∃A cp,∃d:List UInt8,c=.slice A d.length cp/\bp (B0 W) A d/\d.length+1<=Rows.uptoBulk x.1:=by
 obtain⟨A,cp,xs,D,h1,_,_,h2,_,h3⟩:=pZ (α:=UInt8) (f:=λb=>[oV b]) (Q:=λ_ _=>True) Try.underlying29 (size:=1) (by kernel_rfl) (by decide) (λn cs x h=>Bu Try.underlying5 h) (λ_=>rfl) h
 cases h1
 have:=pY ((List.range xs.length).map D)
 refine⟨A,cp,xs,rfl,?_,by simp at this;omega⟩
 rw [qK] at h2
 exact h2
structure ul (e:bV) (b:Nat):Prop where
 id:fO e.id
 name:e.name.size+1<=b
theorem d9 {n:Nat} {cs:List Value} {xs:List (DataW H×List MemPlace)} {i:Nat} {t:TypeId} (h:DataW.trod enc Try.prog W 0 sp true n t cs=xs[i]?) (hi:i<xs.length):DataW.trod enc Try.prog W 0 sp true n t cs=some xs[i]/\Rows.uptoBulk (xs[i]).1<=Rows.uptoBulk (.agg (xs.map (·.1))):=by
 refine⟨h.trans (List.getElem?_eq_getElem hi),?_⟩
 have hm:(xs[i]).1∈xs.map (·.1):=by grind
 have:=bulk_mem hm
 simp only [Rows.uptoBulk]
 omega
theorem zG {n:Nat} {cs:List Value} {x:DataW H×List MemPlace} (h:DataW.trod enc Try.prog W 0 sp true n 72 cs=some x):∃e:bV,cs=pX e/\ul e (Rows.uptoBulk x.1):=by
 obtain⟨ys,m,_,hx,hl,lC,hf⟩:=DataW.trod_struct Try.underlying72 h
 have hC:Try.prog.cellsOf 72=2:=by kernel_rfl
 rw [hC] at hl
 match cs,hl with
 |[c0,c1],_=>
   obtain⟨h0,b0⟩:=d9 (hf 0 _ rfl) (by rw [lC];decide)
   obtain⟨h1,_⟩:=d9 (hf 1 _ rfl) (by rw [lC];decide)
   obtain⟨s,rfl,hs⟩:=uj Try.underlying9 h0
   obtain⟨z,rfl,hz⟩:=iw Try.underlying3 h1
   exact⟨⟨s,z⟩,rfl,⟨hz,by rw [hx];exact Nat.le_trans hs b0⟩⟩
theorem yt {n:Nat} {c:Value} {x:DataW H×List MemPlace} (h:DataW.trod enc Try.prog W 0 sp true n 30 [c]=some x) :
 ∃A cp,∃es:List bV,c=.slice A es.length cp/\bh (B0 W) A es/\es.length+1<=Rows.uptoBulk x.1/\∀i,i<es.length->ul (en es i) (Rows.uptoBulk x.1):=by
 obtain⟨A,cp,xs,D,h1,_,_,h2,h4,h3⟩:=pZ (α:=bV) (f:=pX) (Q:=λe d=>ul e (Rows.uptoBulk d)) Try.underlying30 (size:=2) (by kernel_rfl) (by decide) (λn cs x h=>zG h) (λ_=>rfl) h
 cases h1
 have h5:=pY ((List.range xs.length).map D)
 refine⟨A,cp,xs,rfl,h2,by simp at h5;omega,λi hi=>⟨(h4 i hi).id,?_⟩⟩
 have h6:=(h4 i hi).name
 have h7:=uh (D:=D) hi
 unfold en
 omega
structure AP (nd:aD) (b:Nat):Prop where
 ids:fO nd.id/\fO nd.kind/\fO nd.mode/\fO nd.uid/\fO nd.gid/\fO nd.sec/\fO nd.nano
 data:nd.data.length+1<=b
 target:nd.target.size+1<=b
 aj:nd.aj.length+1<=b
 ent:∀i,i<nd.aj.length->ul (en nd.aj i) b
structure qL where
 n:aD
 dA:Option Addr
 dC:Nat
 eA:Option Addr
 eC:Nat
deriving Inhabited
def Cj (a:qL):List Value:=[.int .i64 a.n.id,.int .i64 a.n.kind,.int .i64 a.n.mode,.int .i64 a.n.uid,.int .i64 a.n.gid,.int .i64 a.n.sec,.int .i64 a.n.nano,.slice a.dA a.n.data.length a.dC,.string a.n.target,.slice a.eA a.n.aj.length a.eC]
structure AQ (W:World) (a:qL) (b:Nat):Prop where
 nb:AP a.n b
 data:bp (B0 W) a.dA a.n.data
 aj:bh (B0 W) a.eA a.n.aj
theorem yu {n:Nat} {cs:List Value} {x:DataW H×List MemPlace} (h:DataW.trod enc Try.prog W 0 sp true n 32 cs=some x):∃a:qL,cs=Cj a/\AQ W a (Rows.uptoBulk x.1):=by
 obtain⟨ys,m,_,hx,hl,lC,hf⟩:=DataW.trod_struct Try.underlying32 h
 have hC:Try.prog.cellsOf 32=10:=by kernel_rfl
 rw [hC] at hl
 match cs,hl with
 |[c0,c1,c2,c3,c4,c5,c6,c7,c8,c9],_=>
   obtain⟨h0,_⟩:=d9 (hf 0 _ rfl) (by rw [lC];decide)
   obtain⟨h1,_⟩:=d9 (hf 1 _ rfl) (by rw [lC];decide)
   obtain⟨h2,_⟩:=d9 (hf 2 _ rfl) (by rw [lC];decide)
   obtain⟨h3,_⟩:=d9 (hf 3 _ rfl) (by rw [lC];decide)
   obtain⟨h4,_⟩:=d9 (hf 4 _ rfl) (by rw [lC];decide)
   obtain⟨h5,_⟩:=d9 (hf 5 _ rfl) (by rw [lC];decide)
   obtain⟨h6,b6⟩:=d9 (hf 6 _ rfl) (by rw [lC];decide)
   obtain⟨h7,b7⟩:=d9 (hf 7 _ rfl) (by rw [lC];decide)
   obtain⟨h8,b8⟩:=d9 (hf 8 _ rfl) (by rw [lC];decide)
   obtain⟨z0,rfl,w0⟩:=iw Try.underlying3 h0
   obtain⟨z1,rfl,w1⟩:=iw Try.underlying3 h1
   obtain⟨z2,rfl,w2⟩:=iw Try.underlying3 h2
   obtain⟨z3,rfl,w3⟩:=iw Try.underlying3 h3
   obtain⟨z4,rfl,w4⟩:=iw Try.underlying3 h4
   obtain⟨us,_,_,_,_,Dx,hu⟩:=DataW.trod_struct Try.underlying28 h5
   obtain⟨g0,_⟩:=d9 (hu 0 _ rfl) (by rw [Dx];decide)
   obtain⟨g1,_⟩:=d9 (hu 1 _ rfl) (by rw [Dx];decide)
   obtain⟨z5,rfl,w5⟩:=iw (c:=c5) Try.underlying3 g0
   obtain⟨z6,rfl,w6⟩:=iw (c:=c6) Try.underlying3 g1
   obtain⟨A7,p7,d7,rfl,q7,l7⟩:=wS (c:=c7) h6
   obtain⟨s8,rfl,l8⟩:=uj (c:=c8) Try.underlying9 h7
   obtain⟨A9,p9,e9,rfl,q9,l9,k9⟩:=yt (c:=c9) h8
   rw [hx]
   exact⟨⟨⟨z0,z1,z2,z3,z4,z5,z6,d7,s8,e9⟩,A7,p7,A9,p9⟩,rfl,⟨⟨w0,w1,w2,w3,w4,w5,w6⟩,Nat.le_trans l7 b6,Nat.le_trans l8 b7,Nat.le_trans l9 b8,λi hi=>⟨(k9 i hi).id,Nat.le_trans (k9 i hi).name b8⟩⟩,q7,q9⟩
structure dM (ns:List aD) (b:Nat):Prop where
 len:ns.length+1<=b
 node:∀i,i<ns.length->AP (nd ns i) b
theorem qM (L:Lay):∀(xs:List qL) (k:Nat),(∀i,i<xs.length->L.dA (k+i)=(xs.getD i default).dA/\L.dC (k+i)=(xs.getD i default).dC/\L.eA (k+i)=(xs.getD i default).eA/\L.eC (k+i)=(xs.getD i default).eC)->cP (λ_ a=>Cj a) k xs=cP (bG L) k (xs.map (·.n))
 |[],_,_=>rfl
 |a::r,k,h=>by
   obtain⟨h1,h2,h3,h4⟩:=h 0 (by simp)
   simp only [Nat.add_zero,List.getD_cons_zero] at h1 h2 h3 h4
   rw [cP,List.map_cons,cP,qM L r (k+1) (λi hi=>by
    have:=h (i+1) (by simp;omega)
    rw [List.getD_cons_succ] at this
    have e:k+(i+1)=k+1+i:=by omega
    rw [e] at this
    exact this)]
   rw [bG,h1,h2,h3,h4]
   rfl
theorem wT {n:Nat} {c:Value} {x:DataW H×List MemPlace} (h:DataW.trod enc Try.prog W 0 sp true n 22 [c]=some x) :
 ∃A cp,∃ns:List aD,∃L:Lay,c=.slice A ns.length cp/\aA (B0 W) A ns L/\dM ns (Rows.uptoBulk x.1):=by
 obtain⟨A,cp,xs,D,h1,_,_,h2,h4,h3⟩:=pZ (α:=qL) (f:=Cj) (Q:=λa d=>AQ W a (Rows.uptoBulk d)) Try.underlying22 (size:=10) (by kernel_rfl) (by decide) (λn cs x h=>yu h) (λ_=>rfl) h
 cases h1
 have h5:=pY ((List.range xs.length).map D)
 have e:(xs.map (·.n)).length=xs.length:=by simp
 have hnd:∀i,i<xs.length->nd (xs.map (·.n)) i=(xs.getD i default).n:=λi hi=>by
  simp [nd,List.getD_eq_getElem?_getD,hi]
 refine⟨A,cp,xs.map (·.n),⟨λi=>(xs.getD i default).dA,λi=>(xs.getD i default).eA,λi=>(xs.getD i default).dC,λi=>(xs.getD i default).eC⟩,by rw [e],⟨?_,λi hi=>?_,λi hi=>?_⟩,by simp at h5;rw [e];omega,λi hi=>?_⟩
 ·rw [qM ⟨λi=>(xs.getD i default).dA,λi=>(xs.getD i default).eA,λi=>(xs.getD i default).dC,λi=>(xs.getD i default).eC⟩ xs 0 (λi _=>by grind)] at h2
  exact h2
 ·rw [e] at hi
  rw [hnd i hi]
  exact (h4 i hi).data
 ·rw [e] at hi
  rw [hnd i hi]
  exact (h4 i hi).aj
 rw [e] at hi
 rw [hnd i hi]
 have h7:=uh (D:=D) hi
 have h8:=(h4 i hi).nb
 exact⟨h8.ids,by have:=h8.data;omega,by have:=h8.target;omega,by have:=h8.aj;omega,λj hj=>⟨(h8.ent j hj).id,by have:=(h8.ent j hj).name;omega⟩⟩
theorem open_graph {v:Value} {d:DataW H} {ps:List MemPlace} {r:Reach} {b0:Nat} (hval:Value.okWide Try.prog W r b0 24 v) (h:DataW.Trod enc Try.prog W 0 sp true 24 v d ps) :
 ∃A cp,∃ns:List aD,∃L:Lay,v=.agg #[.slice A ns.length cp]/\aA (B0 W) A ns L/\dM ns (Rows.uptoBulk d):=by
 obtain⟨cs,rfl,hcs⟩:=okWide_struct Try.underlying24 hval
 obtain⟨fuel,h⟩:=h
 obtain⟨ys,m,_,hx,hl,lC,hf⟩:=DataW.trod_struct Try.underlying24 h
 have hC:Try.prog.cellsOf 24=1:=by kernel_rfl
 rw [hC] at hcs
 obtain⟨cs⟩:=cs
 match cs,hcs with
 |[c],_=>
   obtain⟨h0,b0⟩:=d9 (hf 0 _ rfl) (by rw [lC];decide)
   obtain⟨A,cp,ns,L,rfl,h1,h2⟩:=wT (c:=c) h0
   cases hx
   exact⟨A,cp,ns,L,rfl,h1,⟨Nat.le_trans h2.len b0,λi hi=>by
    have:=h2.node i hi
    exact⟨this.ids,Nat.le_trans this.data b0,Nat.le_trans this.target b0,Nat.le_trans this.aj b0,λj hj=>⟨(this.ent j hj).id,Nat.le_trans (this.ent j hj).name b0⟩⟩⟩⟩
end graph
end
section
theorem jJ {α:Type} {x:α} {a b:List α} (hl:a.length=b.length) (h:∀j,j<a.length->a.getD j x=b.getD j x):a=b:=by
 apply List.ext_getElem hl
 grind
theorem wz {a b:UInt8} (h:((a.toNat:Nat):Int)=((b.toNat:Nat):Int)):a=b:=UInt8.toNat_inj.1 (by omega)
theorem Dh {a b:bV} (h:a.name=b.name/\a.id=b.id):a=b:=by cases a;cases b;simp_all
theorem Ck {n m:aD} (h1:n.id=m.id) (h2:n.kind=m.kind) (h3:n.mode=m.mode) (h4:n.uid=m.uid) (h5:n.gid=m.gid) (h6:n.sec=m.sec/\n.nano=m.nano) (h7:n.target=m.target) (h8:n.data=m.data) (h9:n.aj=m.aj):n=m:=by
 cases n;cases m;simp_all
end
section
open Go.RowKit
theorem vL {w:World} {o:Oper} {ev:Operand->Value} {x y:Operand} {a b c d:Int} (ho:o.op=.binOp .neq 28 x y 28) (hx:ev x=.agg #[.int .i64 a,.int .i64 b]) (hy:ev y=.agg #[.int .i64 c,.int .i64 d]) :
 jt Try.prog ev o w (.bool (!decide (a=c/\b=d))) w:=by
 obtain⟨dst,op,type,pos,after,guard⟩:=o
 cases ho
 refine .inl ?_
 simp only [execOp,hx,hy]
 simp [go_sem]
 grind
theorem wU {w:World} {o:Oper} {ev:Operand->Value} {x y:Operand} {a c:ByteArray} {b d:Int} (ho:o.op=.binOp .neq 72 x y 72) (hx:ev x=.agg #[.string a,.int .i64 b]) (hy:ev y=.agg #[.string c,.int .i64 d]) :
 jt Try.prog ev o w (.bool (!decide (a=c/\b=d))) w:=by
 obtain⟨dst,op,type,pos,after,guard⟩:=o
 cases ho
 refine .inl ?_
 simp only [execOp,hx,hy]
 simp [go_sem,oo]
 grind
end
section
open Go.RowKit
attribute [local irreducible] af aN ai ah
theorem oy {β:Bs} (A1 A2:Option Addr) (c1 c2:Nat) (d1 d2:List UInt8) (yw:bp β A1 d1) (um:bp β A2 d2) (hl:d1.length<=1048576) :
 Spec Try.prog β 62 #[.slice A1 d1.length c1,.slice A2 d2.length c2] [] (λv l=>v=.bool (decide (d1=d2))/\l=[]):=by
 refine Spec.enter Try.func62 rfl Try.ntmps62 (Nat.le_of_ble_eq_true rfl) (λR=>?_)
 refine ai.seq (ai.region (af.aq (k':=1) (fr':=[(0,.slice A1 (d1.length) (c1)),(1,.slice A2 (d2.length) (c2))]) (ak:=[]) [o_] [0,1] (λ_ _=>by kernel_rfl) trivial ?_))
 refine af.nil (by kernel_rfl) (ah.next (ai.seq (ai.seq (ai.region ?_))))
 refine af.aq (k':=5) (fr':=[(0,.slice A1 (d1.length) (c1)),(1,.slice A2 (d2.length) (c2)),(10,.bool (!(decide ((((d1.length:Nat):Int):Int)=(((d2.length:Nat):Int):Int)))))]) (ak:=[]) [o_,o_,o_,o_,o_] [0,1,10] (λ_ _=>by kernel_rfl) trivial ?_
 refine af.nil (by kernel_rfl) (ah.next ?_)
 refine ai.cY (p:=(((d1.length:Nat):Int):Int)=(((d2.length:Nat):Int):Int)) (λ_=>by kernel_rfl) (λh10=>?_) (λh10=>?_)
 ·refine ai.seq (ai.region (af.aq (k':=1) (fr':=[(4,.bool false)]) (ak:=[]) [o_] [4] (λ_ _=>by kernel_rfl) trivial ?_))
  refine af.nil (by kernel_rfl) (ah.next (ai.ret (ah.ay ?_)))
  exact ah.ret (v:=.bool false) (l:=[]) (ak:=[]) [] [0] (λ_=>by kernel_rfl) trivial rfl (by kernel_rfl) (⟨by rw [decide_eq_false (λe=>h10 (by rw [e]))],rfl⟩)
 refine ai.skip (ah.next (ai.seq (ai.seq (ai.region ?_))))
 refine af.aq (k':=1) (fr':=[(0,.slice A1 (d1.length) (c1)),(1,.slice A2 (d2.length) (c2)),(5,.int .i64 0)]) (ak:=[]) [o_] [0,1,5] (λ_ _=>by kernel_rfl) trivial ?_
 refine af.nil (by kernel_rfl) (ah.next (ai.block ?_))
 refine ai.loop (ι:=Nat) (λ(i:Nat)=>(i<=d1.length)/\(∀j,j<i->d1.getD j 0=d2.getD j 0)) (λ(i:Nat)=>d1.length-i) (λ(i:Nat)=>[(0,.slice A1 (d1.length) (c1)),(1,.slice A2 (d2.length) (c2)),(5,.int .i64 ↑i)]) (λ(i:Nat)=>[.abs R]) 0 (idx:=[0,1,5]) (pk:=[0]) (show (0<=d1.length)/\(∀j,j<0->d1.getD j 0=d2.getD j 0) from ⟨Nat.zero_le _,λj hj=>absurd hj (Nat.not_lt_zero j)⟩) (λ_=>by kernel_rfl) rfl (by kernel_rfl) ?_
 rintro i ⟨hi,hall⟩
 show ai _ _ _ _ [(0,.slice A1 (d1.length) (c1)),(1,.slice A2 (d2.length) (c2)),(5,.int .i64 ↑i)] [.abs R] _
 refine ai.seq (ai.seq (ai.region (af.aq (k':=4) (fr':=[(0,.slice A1 (d1.length) (c1)),(1,.slice A2 (d2.length) (c2)),(5,.int .i64 ↑i),(14,.bool (decide ((((i:Nat):Int):Int)<(((d1.length:Nat):Int):Int))))]) (ak:=[]) [o_,o_,o_,o_] [0,1,5,14] (λ_ _=>by kernel_rfl) trivial ?_)))
 refine af.nil (by kernel_rfl) (ah.next ?_)
 refine ai.aV (p:=(((i:Nat):Int):Int)<(((d1.length:Nat):Int):Int)) (λ_=>by kernel_rfl) (λkr=>?_) (λkr=>?_)
 ·refine ai.skip (ah.next (ai.seq (ai.block (ai.seq ?_))))
  refine ai.ga (by kernel_rfl) (by kernel_rfl) ?_
  refine aN.seg (k':=9) (fr':=[(0,.slice A1 (d1.length) (c1)),(1,.slice A2 (d2.length) (c2)),(5,.int .i64 ↑i),(25,.bool (!(decide (((((List.getD d1 i 0).toNat:Nat):Int):Int)=((((List.getD d2 i 0).toNat:Nat):Int):Int)))))]) (ak:=[(Rd β ⟨(au A2),ar A2+i*1,none⟩ (.int .u8 ((((List.getD d2 i 0).toNat:Nat):Int)))),((i:Nat):Int)=((i:Nat):Int),i<d2.length,(⟨(au A2),ar A2,none⟩:Addr).spot=none,(A2:Option Addr)=some ⟨(au A2),ar A2,none⟩,(Rd β ⟨(au A1),ar A1+i*1,none⟩ (.int .u8 ((((List.getD d1 i 0).toNat:Nat):Int)))),((i:Nat):Int)=((i:Nat):Int),i<d1.length,(⟨(au A1),ar A1,none⟩:Addr).spot=none,(A1:Option Addr)=some ⟨(au A1),ar A1,none⟩]) [o_,o_,⟨[],some i,none,some ⟨(au A1),ar A1,none⟩,none⟩,⟨[.old (.int .u8 ((((List.getD d1 i 0).toNat:Nat):Int)))],none,none,none,none⟩,o_,o_,⟨[],some i,none,some ⟨(au A2),ar A2,none⟩,none⟩,⟨[.old (.int .u8 ((((List.getD d2 i 0).toNat:Nat):Int)))],none,none,none,none⟩,o_] [0,1,5,25] (λ_ _=>by kernel_rfl) ⟨bp.rd um (by omega),rfl,by omega,rfl,bp.hd um (j:=i) (by omega),bp.rd yw (by omega),rfl,by omega,rfl,bp.hd yw (j:=i) (by omega),trivial⟩ ?_
  refine aN.nil (by kernel_rfl) (ah.next ?_)
  refine ai.cY (p:=((((List.getD d1 i 0).toNat:Nat):Int):Int)=((((List.getD d2 i 0).toNat:Nat):Int):Int)) (λ_=>by kernel_rfl) (λoe=>?_) (λoe=>?_)
  ·refine ai.seq (ai.region (af.aq (k':=1) (fr':=[(4,.bool false)]) (ak:=[]) [o_] [4] (λ_ _=>by kernel_rfl) trivial ?_))
   refine af.nil (by kernel_rfl) (ah.next (ai.ret (ah.aG (ah.ay (ah.ay (ah.aG (ah.ay ?_)))))))
   exact ah.ret (v:=.bool false) (l:=[]) (ak:=[]) [] [0] (λ_=>by kernel_rfl) trivial rfl (by kernel_rfl) (⟨by rw [decide_eq_false (λe=>oe (by rw [e]))],rfl⟩)
  refine ai.skip (ah.aJ (ah.next (ai.region ?_)))
  refine af.aq (k':=3) (fr':=[(0,.slice A1 (d1.length) (c1)),(1,.slice A2 (d2.length) (c2)),(5,.int .i64 ↑(i+1))]) (ak:=[(Value.int .i64 (IntKind.wrap .i64 (((i:Nat):Int)+1)))=(.int .i64 ↑(i+1))]) [o_,⟨[],none,none,none,some (.int .i64 ↑(i+1))⟩,o_] [0,1,5] (λ_ _=>by kernel_rfl) ⟨aP (by omega) (by omega) (by omega),trivial⟩ ?_
  refine af.nil (by kernel_rfl) ?_
  exact ah.turn ((i+1)) (idx:=[0,1,5]) (pk:=[0]) (show (((i+1))<=d1.length)/\(∀j,j<((i+1))->d1.getD j 0=d2.getD j 0) from ⟨by omega,λj hj=>by rcases Nat.lt_succ_iff_lt_or_eq.1 hj with h|h;exact hall j h;subst h;exact wz oe⟩) (by show d1.length-((i+1))<d1.length-i;omega) (λ_=>by kernel_rfl) rfl (by kernel_rfl)
 refine ai.exit (ah.aH (ah.aH (ah.bg (ah.next (ai.seq (ai.region ?_))))))
 refine af.aq (k':=1) (fr':=[(4,.bool true)]) (ak:=[]) [o_] [4] (λ_ _=>by kernel_rfl) trivial ?_
 refine af.nil (by kernel_rfl) (ah.next (ai.ret ?_))
 exact ah.ret (v:=.bool true) (l:=[]) (ak:=[]) [] [0] (λ_=>by kernel_rfl) trivial rfl (by kernel_rfl) (⟨by rw [decide_eq_true (jJ (x:=0) (by omega) (λj hj=>hall j (by omega)))],rfl⟩)
theorem uo {β:Bs} (A:Option Addr) (c:Nat) (d:List UInt8) (hA:bp β A d) (hl:d.length<=1048576) :
 cO Try.prog β 48 #[.slice A d.length c] [] (λβ' v l=>∃B cap,v=.slice B d.length cap/\l=[]/\bp β' B d):=by
 refine cO.enter Try.func48 rfl Try.ntmps48 (Nat.le_of_ble_eq_true rfl) (λhle0 R=>?_)
 refine ai.seq (ai.region (af.aq (k':=1) (fr':=[(0,.slice A (d.length) (c))]) (ak:=[]) [o_] [0] (λ_ _=>by kernel_rfl) trivial ?_))
 refine af.nil (by kernel_rfl) (ah.next (ai.seq (ai.region ?_)))
 refine af.bD (k':=2) (fr':=λb1=>[(0,.slice A (d.length) (c)),(3,.slice (some ⟨b1,0,none⟩) (0) (0))]) (aL:=λb1=>[.abs R,.blk b1 [] 5]) (ak:=λb1=>[]) [o_,o_] [0,3] [0,1] (λ_ _=>by kernel_rfl) (λb1=>trivial) (λb1=>?_)
 refine af.nil (by kernel_rfl) (ah.next (ai.seq (ai.region ?_)))
 refine af.mem (λw hS=>hS.gT (i:=1) (b:=b1) (cs:=[]) (e:=5) 1 0 (by kernel_rfl) rfl (by decide)) ?_
 refine af.aq (k':=2) (fr':=[(5,.slice (some ⟨b1,0,none⟩) (0) (0)),(6,.slice A (d.length) (c))]) (ak:=[]) [o_,o_] [5,6] (λ_ _=>by kernel_rfl) trivial ?_
 refine af.append 1 (d:=(some 7)) (t:=29) (e:=5) (z:=.int .u8 0) (size:=1) (bytes:=1) (n:=0) (cap:=0) (A:=some ⟨b1,0,none⟩) (xs:=[]) (s:=(.tmp 5)) (x:=(.tmp 6)) (ats:=#[29,29]) (A':=A) (m:=d.length) (c':=c) (news:=(bX d)) (λ_=>by kernel_rfl) rfl (by kernel_rfl) (λ_=>by kernel_rfl) (λ_=>by kernel_rfl) Try.underlying29 (by kernel_rfl) rfl (by decide) (by rw [iF,Nat.mul_one]) (gu d) (hA.src) (by unfold maxLen;omega) (by omega) (λA2 c3=>?_)
 refine af.aZ 1 (p:=.abs (av 5 1 A2 (0+d.length) c3 ([]++(bX d)))) (p':=.abs (av 5 1 A2 d.length c3 (bX d))) (by kernel_rfl) (by rw [Nat.zero_add,List.nil_append]) ?_
 refine af.slot 7 (.slice A2 (0+d.length) (c3)) (.slice A2 (d.length) (c3)) (λ_=>by kernel_rfl) (by rw [Nat.zero_add]) ?_
 refine af.aq (k':=4) (fr':=[(3,.slice A2 (d.length) (c3))]) (ak:=[]) [o_] [3] (λ_ _=>by kernel_rfl) trivial ?_
 refine af.nil (by kernel_rfl) (ah.next (ai.seq (ai.region ?_)))
 refine af.gy (Φ:=λβ'=>bp β' A2 d) 1 [0] (aL:=[.abs R]) rfl rfl (by kernel_rfl) (λF w h β' h1 h2=>cK.gh h h1 h2) (λβ1 fw hB=>?_)
 replace hA:=hA.le fw
 replace hle0:=hle0.trans fw
 refine af.aq (k':=2) (fr':=[(2,.slice A2 (d.length) (c3))]) (ak:=[]) [o_,o_] [2] (λ_ _=>by kernel_rfl) trivial ?_
 refine af.nil (by kernel_rfl) (ah.next (ai.ret ?_))
 exact ah.eW (v:=.slice A2 (d.length) (c3)) (l:=[]) (ak:=[]) [] [0] hle0 (λ_=>by kernel_rfl) trivial rfl (by kernel_rfl) (⟨A2,c3,rfl,rfl,hB⟩)
theorem vM {β:Bs} (n m:aD) (dA eA dB eB:Option Addr) (dC eC dD eD:Nat) (hD:bp β dA n.data) (hE:bh β eA n.aj) (yx:bp β dB m.data) (qN:bh β eB m.aj) (hl1:n.data.length<=1048576) (hl2:n.aj.length<=1048576) :
 Spec Try.prog β 41 #[.agg #[.int .i64 (n.id),.int .i64 (n.kind),.int .i64 (n.mode),.int .i64 (n.uid),.int .i64 (n.gid),.int .i64 (n.sec),.int .i64 (n.nano),.slice dA (n.data.length) (dC),.string n.target,.slice eA (n.aj.length) (eC)],.agg #[.int .i64 (m.id),.int .i64 (m.kind),.int .i64 (m.mode),.int .i64 (m.uid),.int .i64 (m.gid),.int .i64 (m.sec),.int .i64 (m.nano),.slice dB (m.data.length) (dD),.string m.target,.slice eB (m.aj.length) (eD)]] [] (λv l=>v=.bool (decide (n=m))/\l=[]):=by
 refine Spec.enter Try.func41 rfl Try.ntmps41 (Nat.le_of_ble_eq_true rfl) (λR=>?_)
 refine ai.seq (ai.region (af.bD (k':=1) (fr':=λdJ=>[(1,.agg #[.int .i64 (m.id),.int .i64 (m.kind),.int .i64 (m.mode),.int .i64 (m.uid),.int .i64 (m.gid),.int .i64 (m.sec),.int .i64 (m.nano),.slice dB (m.data.length) (dD),.string m.target,.slice eB (m.aj.length) (eD)]),(2,.pointer (some ⟨dJ,0,none⟩))]) (aL:=λdJ=>[.abs R,.blk dJ [.int .i64 (n.id),.int .i64 (n.kind),.int .i64 (n.mode),.int .i64 (n.uid),.int .i64 (n.gid),.int .i64 (n.sec),.int .i64 (n.nano),.slice dA (n.data.length) (dC),.string n.target,.slice eA (n.aj.length) (eC)] 32]) (ak:=λdJ=>[]) [o_] [1,2] [0,1] (λ_ _=>by kernel_rfl) (λdJ=>trivial) (λdJ=>?_)))
 refine af.bD (k':=3) (fr':=λdQ=>[(2,.pointer (some ⟨dJ,0,none⟩)),(3,.pointer (some ⟨dQ,0,none⟩))]) (aL:=λdQ=>[.abs R,.blk dJ [.int .i64 (n.id),.int .i64 (n.kind),.int .i64 (n.mode),.int .i64 (n.uid),.int .i64 (n.gid),.int .i64 (n.sec),.int .i64 (n.nano),.slice dA (n.data.length) (dC),.string n.target,.slice eA (n.aj.length) (eC)] 32,.blk dQ [.int .i64 (m.id),.int .i64 (m.kind),.int .i64 (m.mode),.int .i64 (m.uid),.int .i64 (m.gid),.int .i64 (m.sec),.int .i64 (m.nano),.slice dB (m.data.length) (dD),.string m.target,.slice eB (m.aj.length) (eD)] 32]) (ak:=λdQ=>[]) [o_,o_] [2,3] [0,1,2] (λ_ _=>by kernel_rfl) (λdQ=>trivial) (λdQ=>?_)
 refine af.nil (by kernel_rfl) (ah.next (ai.seq (ai.seq (ai.region ?_))))
 refine af.aq (k':=6) (fr':=[(2,.pointer (some ⟨dJ,0,none⟩)),(3,.pointer (some ⟨dQ,0,none⟩)),(11,.bool (!(decide ((n.id:Int)=(m.id:Int)))))]) (ak:=[dQ=dQ,dJ=dJ]) [o_,⟨[.at 1],none,none,none,none⟩,o_,⟨[.at 2],none,none,none,none⟩,o_,o_] [2,3,11] (λ_ _=>by kernel_rfl) ⟨rfl,rfl,trivial⟩ ?_
 refine af.eO 11 ((n.id:Int)=(m.id:Int)) (λ_=>by kernel_rfl) (λh11=>?_) (λh11=>?_)
 ·refine af.aq (k':=64) (fr':=[(2,.pointer (some ⟨dJ,0,none⟩)),(3,.pointer (some ⟨dQ,0,none⟩)),(69,.bool true)]) (ak:=[]) [o_,o_,o_,o_,o_,o_,o_,o_,o_,o_,o_,o_,o_,o_,o_,o_,o_,o_,o_,o_,o_,o_,o_,o_,o_,o_,o_,o_,o_,o_,o_,o_,o_,o_,o_,o_,o_,o_,o_,o_,o_,o_,o_,o_,o_,o_,o_,o_,o_,o_,o_,o_,o_,o_,o_,o_,o_,o_] [2,3,69] (λ_ _=>by kernel_rfl) trivial ?_
  refine af.nil (by kernel_rfl) (ah.next ?_)
  refine ai.bL (λ_=>by kernel_rfl) ?_
  refine ai.seq (ai.region (af.aq (k':=1) (fr':=[(4,.bool false)]) (ak:=[]) [o_] [4] (λ_ _=>by kernel_rfl) trivial ?_))
  refine af.nil (by kernel_rfl) (ah.next (ai.ret (ah.ay ?_)))
  exact ah.ret (v:=.bool false) (l:=[]) (ak:=[]) [] [0] (λ_=>by kernel_rfl) trivial rfl (by kernel_rfl) (⟨by rw [decide_eq_false (λe=>h11 (by cases e;first|rfl|exact⟨rfl,rfl⟩))],rfl⟩)
 refine af.aq (k':=13) (fr':=[(2,.pointer (some ⟨dJ,0,none⟩)),(3,.pointer (some ⟨dQ,0,none⟩)),(18,.bool (!(decide ((n.kind:Int)=(m.kind:Int)))))]) (ak:=[dQ=dQ,dJ=dJ]) [o_,⟨[.at 1],none,none,none,none⟩,o_,⟨[.at 2],none,none,none,none⟩,o_,o_,o_] [2,3,18] (λ_ _=>by kernel_rfl) ⟨rfl,rfl,trivial⟩ ?_
 refine af.eO 18 ((n.kind:Int)=(m.kind:Int)) (λ_=>by kernel_rfl) (λlD=>?_) (λlD=>?_)
 ·refine af.aq (k':=64) (fr':=[(2,.pointer (some ⟨dJ,0,none⟩)),(3,.pointer (some ⟨dQ,0,none⟩)),(69,.bool true)]) (ak:=[]) [o_,o_,o_,o_,o_,o_,o_,o_,o_,o_,o_,o_,o_,o_,o_,o_,o_,o_,o_,o_,o_,o_,o_,o_,o_,o_,o_,o_,o_,o_,o_,o_,o_,o_,o_,o_,o_,o_,o_,o_,o_,o_,o_,o_,o_,o_,o_,o_,o_,o_,o_] [2,3,69] (λ_ _=>by kernel_rfl) trivial ?_
  refine af.nil (by kernel_rfl) (ah.next ?_)
  refine ai.bL (λ_=>by kernel_rfl) ?_
  refine ai.seq (ai.region (af.aq (k':=1) (fr':=[(4,.bool false)]) (ak:=[]) [o_] [4] (λ_ _=>by kernel_rfl) trivial ?_))
  refine af.nil (by kernel_rfl) (ah.next (ai.ret (ah.ay ?_)))
  exact ah.ret (v:=.bool false) (l:=[]) (ak:=[]) [] [0] (λ_=>by kernel_rfl) trivial rfl (by kernel_rfl) (⟨by rw [decide_eq_false (λe=>lD (by cases e;first|rfl|exact⟨rfl,rfl⟩))],rfl⟩)
 refine af.aq (k':=20) (fr':=[(2,.pointer (some ⟨dJ,0,none⟩)),(3,.pointer (some ⟨dQ,0,none⟩)),(25,.bool (!(decide ((n.mode:Int)=(m.mode:Int)))))]) (ak:=[dQ=dQ,dJ=dJ]) [o_,⟨[.at 1],none,none,none,none⟩,o_,⟨[.at 2],none,none,none,none⟩,o_,o_,o_] [2,3,25] (λ_ _=>by kernel_rfl) ⟨rfl,rfl,trivial⟩ ?_
 refine af.eO 25 ((n.mode:Int)=(m.mode:Int)) (λ_=>by kernel_rfl) (λoe=>?_) (λoe=>?_)
 ·refine af.aq (k':=64) (fr':=[(2,.pointer (some ⟨dJ,0,none⟩)),(3,.pointer (some ⟨dQ,0,none⟩)),(69,.bool true)]) (ak:=[]) [o_,o_,o_,o_,o_,o_,o_,o_,o_,o_,o_,o_,o_,o_,o_,o_,o_,o_,o_,o_,o_,o_,o_,o_,o_,o_,o_,o_,o_,o_,o_,o_,o_,o_,o_,o_,o_,o_,o_,o_,o_,o_,o_,o_] [2,3,69] (λ_ _=>by kernel_rfl) trivial ?_
  refine af.nil (by kernel_rfl) (ah.next ?_)
  refine ai.bL (λ_=>by kernel_rfl) ?_
  refine ai.seq (ai.region (af.aq (k':=1) (fr':=[(4,.bool false)]) (ak:=[]) [o_] [4] (λ_ _=>by kernel_rfl) trivial ?_))
  refine af.nil (by kernel_rfl) (ah.next (ai.ret (ah.ay ?_)))
  exact ah.ret (v:=.bool false) (l:=[]) (ak:=[]) [] [0] (λ_=>by kernel_rfl) trivial rfl (by kernel_rfl) (⟨by rw [decide_eq_false (λe=>oe (by cases e;first|rfl|exact⟨rfl,rfl⟩))],rfl⟩)
 refine af.aq (k':=27) (fr':=[(2,.pointer (some ⟨dJ,0,none⟩)),(3,.pointer (some ⟨dQ,0,none⟩)),(32,.bool (!(decide ((n.uid:Int)=(m.uid:Int)))))]) (ak:=[dQ=dQ,dJ=dJ]) [o_,⟨[.at 1],none,none,none,none⟩,o_,⟨[.at 2],none,none,none,none⟩,o_,o_,o_] [2,3,32] (λ_ _=>by kernel_rfl) ⟨rfl,rfl,trivial⟩ ?_
 refine af.eO 32 ((n.uid:Int)=(m.uid:Int)) (λ_=>by kernel_rfl) (λpH=>?_) (λpH=>?_)
 ·refine af.aq (k':=64) (fr':=[(2,.pointer (some ⟨dJ,0,none⟩)),(3,.pointer (some ⟨dQ,0,none⟩)),(69,.bool true)]) (ak:=[]) [o_,o_,o_,o_,o_,o_,o_,o_,o_,o_,o_,o_,o_,o_,o_,o_,o_,o_,o_,o_,o_,o_,o_,o_,o_,o_,o_,o_,o_,o_,o_,o_,o_,o_,o_,o_,o_] [2,3,69] (λ_ _=>by kernel_rfl) trivial ?_
  refine af.nil (by kernel_rfl) (ah.next ?_)
  refine ai.bL (λ_=>by kernel_rfl) ?_
  refine ai.seq (ai.region (af.aq (k':=1) (fr':=[(4,.bool false)]) (ak:=[]) [o_] [4] (λ_ _=>by kernel_rfl) trivial ?_))
  refine af.nil (by kernel_rfl) (ah.next (ai.ret (ah.ay ?_)))
  exact ah.ret (v:=.bool false) (l:=[]) (ak:=[]) [] [0] (λ_=>by kernel_rfl) trivial rfl (by kernel_rfl) (⟨by rw [decide_eq_false (λe=>pH (by cases e;first|rfl|exact⟨rfl,rfl⟩))],rfl⟩)
 refine af.aq (k':=34) (fr':=[(2,.pointer (some ⟨dJ,0,none⟩)),(3,.pointer (some ⟨dQ,0,none⟩)),(39,.bool (!(decide ((n.gid:Int)=(m.gid:Int)))))]) (ak:=[dQ=dQ,dJ=dJ]) [o_,⟨[.at 1],none,none,none,none⟩,o_,⟨[.at 2],none,none,none,none⟩,o_,o_,o_] [2,3,39] (λ_ _=>by kernel_rfl) ⟨rfl,rfl,trivial⟩ ?_
 refine af.eO 39 ((n.gid:Int)=(m.gid:Int)) (λ_=>by kernel_rfl) (λjA=>?_) (λjA=>?_)
 ·refine af.aq (k':=64) (fr':=[(2,.pointer (some ⟨dJ,0,none⟩)),(3,.pointer (some ⟨dQ,0,none⟩)),(69,.bool true)]) (ak:=[]) [o_,o_,o_,o_,o_,o_,o_,o_,o_,o_,o_,o_,o_,o_,o_,o_,o_,o_,o_,o_,o_,o_,o_,o_,o_,o_,o_,o_,o_,o_] [2,3,69] (λ_ _=>by kernel_rfl) trivial ?_
  refine af.nil (by kernel_rfl) (ah.next ?_)
  refine ai.bL (λ_=>by kernel_rfl) ?_
  refine ai.seq (ai.region (af.aq (k':=1) (fr':=[(4,.bool false)]) (ak:=[]) [o_] [4] (λ_ _=>by kernel_rfl) trivial ?_))
  refine af.nil (by kernel_rfl) (ah.next (ai.ret (ah.ay ?_)))
  exact ah.ret (v:=.bool false) (l:=[]) (ak:=[]) [] [0] (λ_=>by kernel_rfl) trivial rfl (by kernel_rfl) (⟨by rw [decide_eq_false (λe=>jA (by cases e;first|rfl|exact⟨rfl,rfl⟩))],rfl⟩)
 refine af.aq (k':=38) (fr':=[(2,.pointer (some ⟨dJ,0,none⟩)),(3,.pointer (some ⟨dQ,0,none⟩)),(39,.bool false),(41,.agg #[.int .i64 (n.sec),.int .i64 (n.nano)]),(43,.agg #[.int .i64 (m.sec),.int .i64 (m.nano)])]) (ak:=[dQ=dQ,dQ=dQ,dJ=dJ,dJ=dJ]) [o_,⟨[.at 1,.at 1],none,none,none,none⟩,o_,⟨[.at 2,.at 2],none,none,none,none⟩] [2,3,39,41,43] (λ_ _=>by kernel_rfl) ⟨rfl,rfl,rfl,rfl,trivial⟩ ?_
 refine af.gK (d:=(some 44)) (op:=.binOp .neq 28 (.tmp 41) (.tmp 43) 28) (v:=.bool (!(decide ((n.sec:Int)=(m.sec:Int)/\(n.nano:Int)=(m.nano:Int))))) (λ_=>by kernel_rfl) (λo junk w ho hS=>⟨w,vL ho (by kernel_rfl) (by kernel_rfl),hS⟩) ?_
 refine af.aq (k':=41) (fr':=[(2,.pointer (some ⟨dJ,0,none⟩)),(3,.pointer (some ⟨dQ,0,none⟩)),(46,.bool (!(decide ((n.sec:Int)=(m.sec:Int)/\(n.nano:Int)=(m.nano:Int)))))]) (ak:=[]) [o_,o_] [2,3,46] (λ_ _=>by kernel_rfl) trivial ?_
 refine af.eO 46 ((n.sec:Int)=(m.sec:Int)/\(n.nano:Int)=(m.nano:Int)) (λ_=>by kernel_rfl) (λh46=>?_) (λh46=>?_)
 ·refine af.aq (k':=64) (fr':=[(2,.pointer (some ⟨dJ,0,none⟩)),(3,.pointer (some ⟨dQ,0,none⟩)),(69,.bool true)]) (ak:=[]) [o_,o_,o_,o_,o_,o_,o_,o_,o_,o_,o_,o_,o_,o_,o_,o_,o_,o_,o_,o_,o_,o_,o_] [2,3,69] (λ_ _=>by kernel_rfl) trivial ?_
  refine af.nil (by kernel_rfl) (ah.next ?_)
  refine ai.bL (λ_=>by kernel_rfl) ?_
  refine ai.seq (ai.region (af.aq (k':=1) (fr':=[(4,.bool false)]) (ak:=[]) [o_] [4] (λ_ _=>by kernel_rfl) trivial ?_))
  refine af.nil (by kernel_rfl) (ah.next (ai.ret (ah.ay ?_)))
  exact ah.ret (v:=.bool false) (l:=[]) (ak:=[]) [] [0] (λ_=>by kernel_rfl) trivial rfl (by kernel_rfl) (⟨by rw [decide_eq_false (λe=>h46 (by cases e;first|rfl|exact⟨rfl,rfl⟩))],rfl⟩)
 refine af.aq (k':=48) (fr':=[(2,.pointer (some ⟨dJ,0,none⟩)),(3,.pointer (some ⟨dQ,0,none⟩)),(53,.bool (!(decide ((n.target:ByteArray)=m.target))))]) (ak:=[(Value.bool (!((n.target:ByteArray).toList == (m.target:ByteArray).toList)))=(.bool (!(decide ((n.target:ByteArray)=m.target)))),dQ=dQ,dJ=dJ]) [o_,⟨[.at 1],none,none,none,none⟩,o_,⟨[.at 2],none,none,none,none⟩,⟨[],none,none,none,some (.bool (!(decide ((n.target:ByteArray)=m.target))))⟩,o_,o_] [2,3,53] (λ_ _=>by kernel_rfl) ⟨mK _ _,rfl,rfl,trivial⟩ ?_
 refine af.eO 53 ((n.target:ByteArray)=m.target) (λ_=>by kernel_rfl) (λwA=>?_) (λwA=>?_)
 ·refine af.aq (k':=64) (fr':=[(2,.pointer (some ⟨dJ,0,none⟩)),(3,.pointer (some ⟨dQ,0,none⟩)),(69,.bool true)]) (ak:=[]) [o_,o_,o_,o_,o_,o_,o_,o_,o_,o_,o_,o_,o_,o_,o_,o_] [2,3,69] (λ_ _=>by kernel_rfl) trivial ?_
  refine af.nil (by kernel_rfl) (ah.next ?_)
  refine ai.bL (λ_=>by kernel_rfl) ?_
  refine ai.seq (ai.region (af.aq (k':=1) (fr':=[(4,.bool false)]) (ak:=[]) [o_] [4] (λ_ _=>by kernel_rfl) trivial ?_))
  refine af.nil (by kernel_rfl) (ah.next (ai.ret (ah.ay ?_)))
  exact ah.ret (v:=.bool false) (l:=[]) (ak:=[]) [] [0] (λ_=>by kernel_rfl) trivial rfl (by kernel_rfl) (⟨by rw [decide_eq_false (λe=>wA (by cases e;first|rfl|exact⟨rfl,rfl⟩))],rfl⟩)
 refine af.aq (k':=57) (fr':=[(2,.pointer (some ⟨dJ,0,none⟩)),(3,.pointer (some ⟨dQ,0,none⟩)),(62,.bool (!(decide ((((n.aj.length:Nat):Int):Int)=(((m.aj.length:Nat):Int):Int)))))]) (ak:=[dQ=dQ,dJ=dJ]) [o_,⟨[.at 1],none,none,none,none⟩,o_,o_,⟨[.at 2],none,none,none,none⟩,o_,o_,o_,o_] [2,3,62] (λ_ _=>by kernel_rfl) ⟨rfl,rfl,trivial⟩ ?_
 refine af.eO 62 ((((n.aj.length:Nat):Int):Int)=(((m.aj.length:Nat):Int):Int)) (λ_=>by kernel_rfl) (λDy=>?_) (λDy=>?_)
 ·refine af.aq (k':=64) (fr':=[(2,.pointer (some ⟨dJ,0,none⟩)),(3,.pointer (some ⟨dQ,0,none⟩)),(69,.bool true)]) (ak:=[]) [o_,o_,o_,o_,o_,o_,o_] [2,3,69] (λ_ _=>by kernel_rfl) trivial ?_
  refine af.nil (by kernel_rfl) (ah.next ?_)
  refine ai.bL (λ_=>by kernel_rfl) ?_
  refine ai.seq (ai.region (af.aq (k':=1) (fr':=[(4,.bool false)]) (ak:=[]) [o_] [4] (λ_ _=>by kernel_rfl) trivial ?_))
  refine af.nil (by kernel_rfl) (ah.next (ai.ret (ah.ay ?_)))
  exact ah.ret (v:=.bool false) (l:=[]) (ak:=[]) [] [0] (λ_=>by kernel_rfl) trivial rfl (by kernel_rfl) (⟨by rw [decide_eq_false (λe=>Dy (by cases e;first|rfl|exact⟨rfl,rfl⟩))],rfl⟩)
 refine af.aq (k':=61) (fr':=[(2,.pointer (some ⟨dJ,0,none⟩)),(3,.pointer (some ⟨dQ,0,none⟩)),(62,.bool false),(64,.slice dA (n.data.length) (dC)),(66,.slice dB (m.data.length) (dD))]) (ak:=[dQ=dQ,dJ=dJ]) [o_,⟨[.at 1],none,none,none,none⟩,o_,⟨[.at 2],none,none,none,none⟩] [2,3,62,64,66] (λ_ _=>by kernel_rfl) ⟨rfl,rfl,trivial⟩ ?_
 refine af.call (f:=62) (args:=#[.slice dA (n.data.length) (dC),.slice dB (m.data.length) (dD)]) (d:=(some 67)) (pre:=[]) (R:=[.abs R,.blk dJ [.int .i64 (n.id),.int .i64 (n.kind),.int .i64 (n.mode),.int .i64 (n.uid),.int .i64 (n.gid),.int .i64 (n.sec),.int .i64 (n.nano),.slice dA (n.data.length) (dC),.string n.target,.slice eA (n.aj.length) (eC)] 32,.blk dQ [.int .i64 (m.id),.int .i64 (m.kind),.int .i64 (m.mode),.int .i64 (m.uid),.int .i64 (m.gid),.int .i64 (m.sec),.int .i64 (m.nano),.slice dB (m.data.length) (dD),.string m.target,.slice eB (m.aj.length) (eD)] 32]) (pk:=[0,1,2]) (λ_=>by kernel_rfl) (oy dA dB dC dD n.data m.data hD yx hl1) rfl (by kernel_rfl) ?_
 rintro _ _ ⟨rfl,rfl⟩
 refine af.aq (k':=64) (fr':=[(2,.pointer (some ⟨dJ,0,none⟩)),(3,.pointer (some ⟨dQ,0,none⟩)),(69,.bool (!(decide (n.data=m.data))))]) (ak:=[]) [o_,o_] [2,3,69] (λ_ _=>by kernel_rfl) trivial ?_
 refine af.nil (by kernel_rfl) (ah.next ?_)
 refine ai.cY (p:=n.data=m.data) (λ_=>by kernel_rfl) (λwB=>?_) (λwB=>?_)
 ·refine ai.seq (ai.region (af.aq (k':=1) (fr':=[(4,.bool false)]) (ak:=[]) [o_] [4] (λ_ _=>by kernel_rfl) trivial ?_))
  refine af.nil (by kernel_rfl) (ah.next (ai.ret (ah.ay ?_)))
  exact ah.ret (v:=.bool false) (l:=[]) (ak:=[]) [] [0] (λ_=>by kernel_rfl) trivial rfl (by kernel_rfl) (⟨by rw [decide_eq_false (λe=>wB (by cases e;first|rfl|exact⟨rfl,rfl⟩))],rfl⟩)
 refine ai.skip (ah.next (ai.seq (ai.seq (ai.region ?_))))
 refine af.aq (k':=1) (fr':=[(2,.pointer (some ⟨dJ,0,none⟩)),(3,.pointer (some ⟨dQ,0,none⟩)),(5,.int .i64 0)]) (ak:=[]) [o_] [2,3,5] (λ_ _=>by kernel_rfl) trivial ?_
 refine af.nil (by kernel_rfl) (ah.next (ai.block ?_))
 refine ai.loop (ι:=Nat) (λ(i:Nat)=>(i<=n.aj.length)/\(∀j,j<i->n.aj.getD j default=m.aj.getD j default)) (λ(i:Nat)=>n.aj.length-i) (λ(i:Nat)=>[(2,.pointer (some ⟨dJ,0,none⟩)),(3,.pointer (some ⟨dQ,0,none⟩)),(5,.int .i64 ↑i)]) (λ(i:Nat)=>[.abs R,.blk dJ [.int .i64 (n.id),.int .i64 (n.kind),.int .i64 (n.mode),.int .i64 (n.uid),.int .i64 (n.gid),.int .i64 (n.sec),.int .i64 (n.nano),.slice dA (n.data.length) (dC),.string n.target,.slice eA (n.aj.length) (eC)] 32,.blk dQ [.int .i64 (m.id),.int .i64 (m.kind),.int .i64 (m.mode),.int .i64 (m.uid),.int .i64 (m.gid),.int .i64 (m.sec),.int .i64 (m.nano),.slice dB (m.data.length) (dD),.string m.target,.slice eB (m.aj.length) (eD)] 32]) 0 (idx:=[2,3,5]) (pk:=[0,1,2]) (show (0<=n.aj.length)/\(∀j,j<0->n.aj.getD j default=m.aj.getD j default) from ⟨Nat.zero_le _,λj hj=>absurd hj (Nat.not_lt_zero j)⟩) (λ_=>by kernel_rfl) rfl (by kernel_rfl) ?_
 rintro i ⟨hi,hall⟩
 show ai _ _ _ _ [(2,.pointer (some ⟨dJ,0,none⟩)),(3,.pointer (some ⟨dQ,0,none⟩)),(5,.int .i64 ↑i)] [.abs R,.blk dJ [.int .i64 (n.id),.int .i64 (n.kind),.int .i64 (n.mode),.int .i64 (n.uid),.int .i64 (n.gid),.int .i64 (n.sec),.int .i64 (n.nano),.slice dA (n.data.length) (dC),.string n.target,.slice eA (n.aj.length) (eC)] 32,.blk dQ [.int .i64 (m.id),.int .i64 (m.kind),.int .i64 (m.mode),.int .i64 (m.uid),.int .i64 (m.gid),.int .i64 (m.sec),.int .i64 (m.nano),.slice dB (m.data.length) (dD),.string m.target,.slice eB (m.aj.length) (eD)] 32] _
 refine ai.seq (ai.seq (ai.region (af.aq (k':=5) (fr':=[(2,.pointer (some ⟨dJ,0,none⟩)),(3,.pointer (some ⟨dQ,0,none⟩)),(5,.int .i64 ↑i),(74,.bool (decide ((((i:Nat):Int):Int)<(((n.aj.length:Nat):Int):Int))))]) (ak:=[dJ=dJ]) [o_,o_,⟨[.at 1],none,none,none,none⟩,o_,o_] [2,3,5,74] (λ_ _=>by kernel_rfl) ⟨rfl,trivial⟩ ?_)))
 refine af.nil (by kernel_rfl) (ah.next ?_)
 refine ai.aV (p:=(((i:Nat):Int):Int)<(((n.aj.length:Nat):Int):Int)) (λ_=>by kernel_rfl) (λCl=>?_) (λCl=>?_)
 ·refine ai.skip (ah.next (ai.seq (ai.block (ai.seq ?_))))
  refine ai.ga (by kernel_rfl) (by kernel_rfl) ?_
  refine aN.seg (k':=10) (fr':=[(2,.pointer (some ⟨dJ,0,none⟩)),(3,.pointer (some ⟨dQ,0,none⟩)),(5,.int .i64 ↑i),(81,.agg #[.string (en n.aj i).name,.int .i64 ((en n.aj i).id)]),(86,.agg #[.string (en m.aj i).name,.int .i64 ((en m.aj i).id)])]) (ak:=[(Rd β ⟨(au eB),ar eB+i*2+1,none⟩ (.int .i64 ((en m.aj i).id))),(Rd β ⟨(au eB),ar eB+i*2,none⟩ (.string (en m.aj i).name)),((i:Nat):Int)=((i:Nat):Int),i<m.aj.length,(⟨(au eB),ar eB,none⟩:Addr).spot=none,(eB:Option Addr)=some ⟨(au eB),ar eB,none⟩,dQ=dQ,(Rd β ⟨(au eA),ar eA+i*2+1,none⟩ (.int .i64 ((en n.aj i).id))),(Rd β ⟨(au eA),ar eA+i*2,none⟩ (.string (en n.aj i).name)),((i:Nat):Int)=((i:Nat):Int),i<n.aj.length,(⟨(au eA),ar eA,none⟩:Addr).spot=none,(eA:Option Addr)=some ⟨(au eA),ar eA,none⟩,dJ=dJ]) [o_,⟨[.at 1],none,none,none,none⟩,o_,⟨[],some i,none,some ⟨(au eA),ar eA,none⟩,none⟩,⟨[.old (.string (en n.aj i).name),.old (.int .i64 ((en n.aj i).id))],none,none,none,none⟩,o_,⟨[.at 2],none,none,none,none⟩,o_,⟨[],some i,none,some ⟨(au eB),ar eB,none⟩,none⟩,⟨[.old (.string (en m.aj i).name),.old (.int .i64 ((en m.aj i).id))],none,none,none,none⟩] [2,3,5,81,86] (λ_ _=>by kernel_rfl) ⟨bh.rd qN (i:=i) (by omega) (j:=1) rfl,bh.rd qN (i:=i) (by omega) (j:=0) rfl,rfl,by omega,rfl,bh.hd qN (i:=i) (by omega),rfl,bh.rd hE (i:=i) (by omega) (j:=1) rfl,bh.rd hE (i:=i) (by omega) (j:=0) rfl,rfl,by omega,rfl,bh.hd hE (i:=i) (by omega),rfl,trivial⟩ ?_
  refine aN.gK (d:=(some 87)) (op:=.binOp .neq 72 (.tmp 81) (.tmp 86) 72) (v:=.bool (!(decide ((en n.aj i).name=(en m.aj i).name/\((en n.aj i).id:Int)=((en m.aj i).id:Int))))) (λ_=>by kernel_rfl) (λo junk w ho _=>wU ho (by kernel_rfl) (by kernel_rfl)) ?_
  refine aN.nil (by kernel_rfl) (ah.next ?_)
  refine ai.cY (p:=(en n.aj i).name=(en m.aj i).name/\((en n.aj i).id:Int)=((en m.aj i).id:Int)) (λ_=>by kernel_rfl) (λh87=>?_) (λh87=>?_)
  ·refine ai.seq (ai.region (af.aq (k':=1) (fr':=[(4,.bool false)]) (ak:=[]) [o_] [4] (λ_ _=>by kernel_rfl) trivial ?_))
   refine af.nil (by kernel_rfl) (ah.next (ai.ret (ah.aG (ah.ay (ah.ay (ah.aG (ah.ay ?_)))))))
   exact ah.ret (v:=.bool false) (l:=[]) (ak:=[]) [] [0] (λ_=>by kernel_rfl) trivial rfl (by kernel_rfl) (⟨by rw [decide_eq_false (λe=>h87 (by cases e;first|rfl|exact⟨rfl,rfl⟩))],rfl⟩)
  refine ai.skip (ah.aJ (ah.next (ai.region ?_)))
  refine af.aq (k':=3) (fr':=[(2,.pointer (some ⟨dJ,0,none⟩)),(3,.pointer (some ⟨dQ,0,none⟩)),(5,.int .i64 ↑(i+1))]) (ak:=[(Value.int .i64 (IntKind.wrap .i64 (((i:Nat):Int)+1)))=(.int .i64 ↑(i+1))]) [o_,⟨[],none,none,none,some (.int .i64 ↑(i+1))⟩,o_] [2,3,5] (λ_ _=>by kernel_rfl) ⟨aP (by omega) (by omega) (by omega),trivial⟩ ?_
  refine af.nil (by kernel_rfl) ?_
  exact ah.turn ((i+1)) (idx:=[2,3,5]) (pk:=[0,1,2]) (show (((i+1))<=n.aj.length)/\(∀j,j<((i+1))->n.aj.getD j default=m.aj.getD j default) from ⟨by omega,λj hj=>by rcases Nat.lt_succ_iff_lt_or_eq.1 hj with h|h;exact hall j h;subst h;exact Dh h87⟩) (by show n.aj.length-((i+1))<n.aj.length-i;omega) (λ_=>by kernel_rfl) rfl (by kernel_rfl)
 refine ai.exit (ah.aH (ah.aH (ah.bg (ah.next (ai.seq (ai.region ?_))))))
 refine af.aq (k':=1) (fr':=[(4,.bool true)]) (ak:=[]) [o_] [4] (λ_ _=>by kernel_rfl) trivial ?_
 refine af.nil (by kernel_rfl) (ah.next (ai.ret ?_))
 exact ah.ret (v:=.bool true) (l:=[]) (ak:=[]) [] [0] (λ_=>by kernel_rfl) trivial rfl (by kernel_rfl) (⟨by rw [decide_eq_true (Ck (by omega) (by omega) (by omega) (by omega) (by omega) (by assumption) (by assumption) (by assumption) (jJ (x:=default) (by omega) (λj hj=>hall j (by omega))))],rfl⟩)
theorem uq {β:Bs} (A B:Option Addr) (c c':Nat) (ns ms:List aD) (L K:Lay) (hG:aA β A ns L) (hH:aA β B ms K) (hl:ns.length<=1048576) (hd:∀i,i<ns.length->(nd ns i).data.length<=1048576/\(nd ns i).aj.length<=1048576) :
 Spec Try.prog β 17 #[.agg #[.slice A ns.length c],.agg #[.slice B ms.length c']] [] (λv l=>v=.bool (decide (ns=ms))/\l=[]):=by
 refine Spec.enter Try.func17 rfl Try.ntmps17 (Nat.le_of_ble_eq_true rfl) (λR=>?_)
 refine ai.seq (ai.region (af.bD (k':=1) (fr':=λgW=>[(1,.agg #[.slice B (ms.length) (c')]),(2,.pointer (some ⟨gW,0,none⟩))]) (aL:=λgW=>[.abs R,.blk gW [.slice A (ns.length) (c)] 24]) (ak:=λgW=>[]) [o_] [1,2] [0,1] (λ_ _=>by kernel_rfl) (λgW=>trivial) (λgW=>?_)))
 refine af.bD (k':=3) (fr':=λiK=>[(2,.pointer (some ⟨gW,0,none⟩)),(3,.pointer (some ⟨iK,0,none⟩))]) (aL:=λiK=>[.abs R,.blk gW [.slice A (ns.length) (c)] 24,.blk iK [.slice B (ms.length) (c')] 24]) (ak:=λiK=>[]) [o_,o_] [2,3] [0,1,2] (λ_ _=>by kernel_rfl) (λiK=>trivial) (λiK=>?_)
 refine af.nil (by kernel_rfl) (ah.next (ai.seq (ai.seq (ai.region ?_))))
 refine af.aq (k':=7) (fr':=[(2,.pointer (some ⟨gW,0,none⟩)),(3,.pointer (some ⟨iK,0,none⟩)),(12,.bool (!(decide ((((ns.length:Nat):Int):Int)=(((ms.length:Nat):Int):Int)))))]) (ak:=[iK=iK,gW=gW]) [o_,⟨[.at 1],none,none,none,none⟩,o_,o_,⟨[.at 2],none,none,none,none⟩,o_,o_] [2,3,12] (λ_ _=>by kernel_rfl) ⟨rfl,rfl,trivial⟩ ?_
 refine af.nil (by kernel_rfl) (ah.next ?_)
 refine ai.cY (p:=(((ns.length:Nat):Int):Int)=(((ms.length:Nat):Int):Int)) (λ_=>by kernel_rfl) (λh12=>?_) (λh12=>?_)
 ·refine ai.seq (ai.region (af.aq (k':=1) (fr':=[(4,.bool false)]) (ak:=[]) [o_] [4] (λ_ _=>by kernel_rfl) trivial ?_))
  refine af.nil (by kernel_rfl) (ah.next (ai.ret (ah.ay ?_)))
  exact ah.ret (v:=.bool false) (l:=[]) (ak:=[]) [] [0] (λ_=>by kernel_rfl) trivial rfl (by kernel_rfl) (⟨by rw [decide_eq_false (λe=>h12 (by rw [e]))],rfl⟩)
 refine ai.skip (ah.next (ai.seq (ai.seq (ai.region ?_))))
 refine af.aq (k':=1) (fr':=[(2,.pointer (some ⟨gW,0,none⟩)),(3,.pointer (some ⟨iK,0,none⟩)),(5,.int .i64 0)]) (ak:=[]) [o_] [2,3,5] (λ_ _=>by kernel_rfl) trivial ?_
 refine af.nil (by kernel_rfl) (ah.next (ai.block ?_))
 refine ai.loop (ι:=Nat) (λ(i:Nat)=>(i<=ns.length)/\(∀j,j<i->ns.getD j default=ms.getD j default)) (λ(i:Nat)=>ns.length-i) (λ(i:Nat)=>[(2,.pointer (some ⟨gW,0,none⟩)),(3,.pointer (some ⟨iK,0,none⟩)),(5,.int .i64 ↑i)]) (λ(i:Nat)=>[.abs R,.blk gW [.slice A (ns.length) (c)] 24,.blk iK [.slice B (ms.length) (c')] 24]) 0 (idx:=[2,3,5]) (pk:=[0,1,2]) (show (0<=ns.length)/\(∀j,j<0->ns.getD j default=ms.getD j default) from ⟨Nat.zero_le _,λj hj=>absurd hj (Nat.not_lt_zero j)⟩) (λ_=>by kernel_rfl) rfl (by kernel_rfl) ?_
 rintro i ⟨hi,hall⟩
 show ai _ _ _ _ [(2,.pointer (some ⟨gW,0,none⟩)),(3,.pointer (some ⟨iK,0,none⟩)),(5,.int .i64 ↑i)] [.abs R,.blk gW [.slice A (ns.length) (c)] 24,.blk iK [.slice B (ms.length) (c')] 24] _
 refine ai.seq (ai.seq (ai.region (af.aq (k':=5) (fr':=[(2,.pointer (some ⟨gW,0,none⟩)),(3,.pointer (some ⟨iK,0,none⟩)),(5,.int .i64 ↑i),(17,.bool (decide ((((i:Nat):Int):Int)<(((ns.length:Nat):Int):Int))))]) (ak:=[gW=gW]) [o_,o_,⟨[.at 1],none,none,none,none⟩,o_,o_] [2,3,5,17] (λ_ _=>by kernel_rfl) ⟨rfl,trivial⟩ ?_)))
 refine af.nil (by kernel_rfl) (ah.next ?_)
 refine ai.aV (p:=(((i:Nat):Int):Int)<(((ns.length:Nat):Int):Int)) (λ_=>by kernel_rfl) (λmP=>?_) (λmP=>?_)
 ·refine ai.skip (ah.next (ai.seq (ai.block (ai.seq ?_))))
  refine ai.ga (by kernel_rfl) (by kernel_rfl) ?_
  refine aN.seg (k':=10) (fr':=[(2,.pointer (some ⟨gW,0,none⟩)),(3,.pointer (some ⟨iK,0,none⟩)),(5,.int .i64 ↑i),(24,.agg #[.int .i64 ((nd ns i).id),.int .i64 ((nd ns i).kind),.int .i64 ((nd ns i).mode),.int .i64 ((nd ns i).uid),.int .i64 ((nd ns i).gid),.int .i64 ((nd ns i).sec),.int .i64 ((nd ns i).nano),.slice (L.dA i) ((nd ns i).data.length) ((L.dC i)),.string (nd ns i).target,.slice (L.eA i) ((nd ns i).aj.length) ((L.eC i))]),(29,.agg #[.int .i64 ((nd ms i).id),.int .i64 ((nd ms i).kind),.int .i64 ((nd ms i).mode),.int .i64 ((nd ms i).uid),.int .i64 ((nd ms i).gid),.int .i64 ((nd ms i).sec),.int .i64 ((nd ms i).nano),.slice (K.dA i) ((nd ms i).data.length) ((K.dC i)),.string (nd ms i).target,.slice (K.eA i) ((nd ms i).aj.length) ((K.eC i))])]) (ak:=[(Rd β ⟨(au B),ar B+i*10+9,none⟩ (.slice (K.eA i) ((nd ms i).aj.length) ((K.eC i)))),(Rd β ⟨(au B),ar B+i*10+8,none⟩ (.string (nd ms i).target)),(Rd β ⟨(au B),ar B+i*10+7,none⟩ (.slice (K.dA i) ((nd ms i).data.length) ((K.dC i)))),(Rd β ⟨(au B),ar B+i*10+6,none⟩ (.int .i64 ((nd ms i).nano))),(Rd β ⟨(au B),ar B+i*10+5,none⟩ (.int .i64 ((nd ms i).sec))),(Rd β ⟨(au B),ar B+i*10+4,none⟩ (.int .i64 ((nd ms i).gid))),(Rd β ⟨(au B),ar B+i*10+3,none⟩ (.int .i64 ((nd ms i).uid))),(Rd β ⟨(au B),ar B+i*10+2,none⟩ (.int .i64 ((nd ms i).mode))),(Rd β ⟨(au B),ar B+i*10+1,none⟩ (.int .i64 ((nd ms i).kind))),(Rd β ⟨(au B),ar B+i*10,none⟩ (.int .i64 ((nd ms i).id))),((i:Nat):Int)=((i:Nat):Int),i<ms.length,(⟨(au B),ar B,none⟩:Addr).spot=none,(B:Option Addr)=some ⟨(au B),ar B,none⟩,iK=iK,(Rd β ⟨(au A),ar A+i*10+9,none⟩ (.slice (L.eA i) ((nd ns i).aj.length) ((L.eC i)))),(Rd β ⟨(au A),ar A+i*10+8,none⟩ (.string (nd ns i).target)),(Rd β ⟨(au A),ar A+i*10+7,none⟩ (.slice (L.dA i) ((nd ns i).data.length) ((L.dC i)))),(Rd β ⟨(au A),ar A+i*10+6,none⟩ (.int .i64 ((nd ns i).nano))),(Rd β ⟨(au A),ar A+i*10+5,none⟩ (.int .i64 ((nd ns i).sec))),(Rd β ⟨(au A),ar A+i*10+4,none⟩ (.int .i64 ((nd ns i).gid))),(Rd β ⟨(au A),ar A+i*10+3,none⟩ (.int .i64 ((nd ns i).uid))),(Rd β ⟨(au A),ar A+i*10+2,none⟩ (.int .i64 ((nd ns i).mode))),(Rd β ⟨(au A),ar A+i*10+1,none⟩ (.int .i64 ((nd ns i).kind))),(Rd β ⟨(au A),ar A+i*10,none⟩ (.int .i64 ((nd ns i).id))),((i:Nat):Int)=((i:Nat):Int),i<ns.length,(⟨(au A),ar A,none⟩:Addr).spot=none,(A:Option Addr)=some ⟨(au A),ar A,none⟩,gW=gW]) [o_,⟨[.at 1],none,none,none,none⟩,o_,⟨[],some i,none,some ⟨(au A),ar A,none⟩,none⟩,⟨[.old (.int .i64 ((nd ns i).id)),.old (.int .i64 ((nd ns i).kind)),.old (.int .i64 ((nd ns i).mode)),.old (.int .i64 ((nd ns i).uid)),.old (.int .i64 ((nd ns i).gid)),.old (.int .i64 ((nd ns i).sec)),.old (.int .i64 ((nd ns i).nano)),.old (.slice (L.dA i) ((nd ns i).data.length) ((L.dC i))),.old (.string (nd ns i).target),.old (.slice (L.eA i) ((nd ns i).aj.length) ((L.eC i)))],none,none,none,none⟩,o_,⟨[.at 2],none,none,none,none⟩,o_,⟨[],some i,none,some ⟨(au B),ar B,none⟩,none⟩,⟨[.old (.int .i64 ((nd ms i).id)),.old (.int .i64 ((nd ms i).kind)),.old (.int .i64 ((nd ms i).mode)),.old (.int .i64 ((nd ms i).uid)),.old (.int .i64 ((nd ms i).gid)),.old (.int .i64 ((nd ms i).sec)),.old (.int .i64 ((nd ms i).nano)),.old (.slice (K.dA i) ((nd ms i).data.length) ((K.dC i))),.old (.string (nd ms i).target),.old (.slice (K.eA i) ((nd ms i).aj.length) ((K.eC i)))],none,none,none,none⟩] [2,3,5,24,29] (λ_ _=>by kernel_rfl) ⟨aA.rd hH (i:=i) (by omega) (j:=9) rfl,aA.rd hH (i:=i) (by omega) (j:=8) rfl,aA.rd hH (i:=i) (by omega) (j:=7) rfl,aA.rd hH (i:=i) (by omega) (j:=6) rfl,aA.rd hH (i:=i) (by omega) (j:=5) rfl,aA.rd hH (i:=i) (by omega) (j:=4) rfl,aA.rd hH (i:=i) (by omega) (j:=3) rfl,aA.rd hH (i:=i) (by omega) (j:=2) rfl,aA.rd hH (i:=i) (by omega) (j:=1) rfl,aA.rd hH (i:=i) (by omega) (j:=0) rfl,rfl,by omega,rfl,aA.hd hH (i:=i) (by omega),rfl,aA.rd hG (i:=i) (by omega) (j:=9) rfl,aA.rd hG (i:=i) (by omega) (j:=8) rfl,aA.rd hG (i:=i) (by omega) (j:=7) rfl,aA.rd hG (i:=i) (by omega) (j:=6) rfl,aA.rd hG (i:=i) (by omega) (j:=5) rfl,aA.rd hG (i:=i) (by omega) (j:=4) rfl,aA.rd hG (i:=i) (by omega) (j:=3) rfl,aA.rd hG (i:=i) (by omega) (j:=2) rfl,aA.rd hG (i:=i) (by omega) (j:=1) rfl,aA.rd hG (i:=i) (by omega) (j:=0) rfl,rfl,by omega,rfl,aA.hd hG (i:=i) (by omega),rfl,trivial⟩ ?_
  refine aN.call (f:=41) (args:=#[.agg #[.int .i64 ((nd ns i).id),.int .i64 ((nd ns i).kind),.int .i64 ((nd ns i).mode),.int .i64 ((nd ns i).uid),.int .i64 ((nd ns i).gid),.int .i64 ((nd ns i).sec),.int .i64 ((nd ns i).nano),.slice (L.dA i) ((nd ns i).data.length) ((L.dC i)),.string (nd ns i).target,.slice (L.eA i) ((nd ns i).aj.length) ((L.eC i))],.agg #[.int .i64 ((nd ms i).id),.int .i64 ((nd ms i).kind),.int .i64 ((nd ms i).mode),.int .i64 ((nd ms i).uid),.int .i64 ((nd ms i).gid),.int .i64 ((nd ms i).sec),.int .i64 ((nd ms i).nano),.slice (K.dA i) ((nd ms i).data.length) ((K.dC i)),.string (nd ms i).target,.slice (K.eA i) ((nd ms i).aj.length) ((K.eC i))]]) (d:=(some 30)) (pre:=[]) (R:=[.abs R,.blk gW [.slice A (ns.length) (c)] 24,.blk iK [.slice B (ms.length) (c')] 24]) (pk:=[0,1,2]) (sE:=[0,1,2]) (v0:=.bool (decide (nd ns i=nd ms i))) (λ_=>by kernel_rfl) (vM (nd ns i) (nd ms i) (L.dA i) (L.eA i) (K.dA i) (K.eA i) (L.dC i) (L.eC i) (K.dC i) (K.eC i) (hG.data i (by omega)) (hG.aj i (by omega)) (hH.data i (by omega)) (hH.aj i (by omega)) (hd i (by omega)).1 (hd i (by omega)).2) rfl (by kernel_rfl) rfl (by kernel_rfl) (λ_ _ h=>h) ?_
  refine aN.seg (k':=12) (fr':=[(2,.pointer (some ⟨gW,0,none⟩)),(3,.pointer (some ⟨iK,0,none⟩)),(5,.int .i64 ↑i),(31,.bool (!(decide (nd ns i=nd ms i))))]) (ak:=[]) [o_] [2,3,5,31] (λ_ _=>by kernel_rfl) trivial ?_
  refine aN.nil (by kernel_rfl) (ah.next ?_)
  refine ai.cY (p:=nd ns i=nd ms i) (λ_=>by kernel_rfl) (λjB=>?_) (λjB=>?_)
  ·refine ai.seq (ai.region (af.aq (k':=1) (fr':=[(4,.bool false)]) (ak:=[]) [o_] [4] (λ_ _=>by kernel_rfl) trivial ?_))
   refine af.nil (by kernel_rfl) (ah.next (ai.ret (ah.aG (ah.ay (ah.ay (ah.aG (ah.ay ?_)))))))
   exact ah.ret (v:=.bool false) (l:=[]) (ak:=[]) [] [0] (λ_=>by kernel_rfl) trivial rfl (by kernel_rfl) (⟨by rw [decide_eq_false (λe=>jB (by rw [e]))],rfl⟩)
  refine ai.skip (ah.aJ (ah.next (ai.region ?_)))
  refine af.aq (k':=3) (fr':=[(2,.pointer (some ⟨gW,0,none⟩)),(3,.pointer (some ⟨iK,0,none⟩)),(5,.int .i64 ↑(i+1))]) (ak:=[(Value.int .i64 (IntKind.wrap .i64 (((i:Nat):Int)+1)))=(.int .i64 ↑(i+1))]) [o_,⟨[],none,none,none,some (.int .i64 ↑(i+1))⟩,o_] [2,3,5] (λ_ _=>by kernel_rfl) ⟨aP (by omega) (by omega) (by omega),trivial⟩ ?_
  refine af.nil (by kernel_rfl) ?_
  exact ah.turn ((i+1)) (idx:=[2,3,5]) (pk:=[0,1,2]) (show (((i+1))<=ns.length)/\(∀j,j<((i+1))->ns.getD j default=ms.getD j default) from ⟨by omega,λj hj=>by rcases Nat.lt_succ_iff_lt_or_eq.1 hj with h|h;exact hall j h;subst h;exact jB⟩) (by show ns.length-((i+1))<ns.length-i;omega) (λ_=>by kernel_rfl) rfl (by kernel_rfl)
 refine ai.exit (ah.aH (ah.aH (ah.bg (ah.next (ai.seq (ai.region ?_))))))
 refine af.aq (k':=1) (fr':=[(4,.bool true)]) (ak:=[]) [o_] [4] (λ_ _=>by kernel_rfl) trivial ?_
 refine af.nil (by kernel_rfl) (ah.next (ai.ret ?_))
 exact ah.ret (v:=.bool true) (l:=[]) (ak:=[]) [] [0] (λ_=>by kernel_rfl) trivial rfl (by kernel_rfl) (⟨by rw [decide_eq_true (jJ (x:=default) (by omega) (λj hj=>hall j (by omega)))],rfl⟩)
end
end Go.Proofs.Ytjpdcppdoonmdaa
section
namespace Go.Proofs
open Go.Shelf
def Try.lays119_ren:Go.Shelf.Ren:=⟨fun|119=>104|n=>n,fun|21=>21|4=>4|n=>n,fun|n=>n⟩
theorem Try.lays119:Go.Proofs.Lays.n119 Try.prog Try.lays119_ren:={
 mixed:=by kernel_rfl
 f119:=Try.func104.trans (congrArg some (by kernel_rfl))
 t4:=Try.underlying4
 a4:=Try.isAgg4
 z4:=Try.sizeOf4
 v4:=Try.zeroValue4
 t21:=Try.underlying21
 a21:=Try.isAgg21
 z21:=Try.sizeOf21
 v21:=Try.zeroValue21}
theorem Try.utf8_ValidRune (r:Int) (w:World) :
 Calls Try.prog 104 #[.int .i32 r] w λe w'=>e=.returned (.bool (Lib.validRune r))/\w'=w:=Any.utf8_ValidRune Try.lays119 r w
def Try.lays106_ren:Go.Shelf.Ren:=⟨fun|106=>45|213=>63|265=>73|n=>n,fun|9=>9|3=>3|n=>n,fun|n=>n⟩
theorem Try.lays106:Go.Proofs.Lays.n106 Try.prog Try.lays106_ren:={
 mixed:=by kernel_rfl
 f106:=Try.func45.trans (congrArg some (by kernel_rfl))
 f213:=Try.func63.trans (congrArg some (by kernel_rfl))
 f265:=Try.func73.trans (congrArg some (by kernel_rfl))
 t3:=Try.underlying3
 a3:=Try.isAgg3
 z3:=Try.sizeOf3
 v3:=Try.zeroValue3
 t9:=Try.underlying9
 a9:=Try.isAgg9
 z9:=Try.sizeOf9
 v9:=Try.zeroValue9}
open Go.RowKit in
theorem Try.strings_Compare (a b:ByteArray) (w:World) :
 Calls Try.prog 45 #[.string a,.string b] w λe w'=>e=.returned (.int .i64 (Lib.compareBytes a.data.toList b.data.toList))/\w'=w:=Any.strings_Compare Try.lays106 a b w
def Try.lays137_ren:Go.Shelf.Ren:=⟨fun|137=>77|217=>90|266=>98|n=>n,fun|9=>9|5=>5|3=>3|n=>n,fun|n=>n⟩
theorem Try.lays137:Go.Proofs.Lays.n137 Try.prog Try.lays137_ren:={
 mixed:=by kernel_rfl
 f137:=Try.func77.trans (congrArg some (by kernel_rfl))
 f217:=Try.func90.trans (congrArg some (by kernel_rfl))
 f266:=Try.func98.trans (congrArg some (by kernel_rfl))
 t3:=Try.underlying3
 a3:=Try.isAgg3
 z3:=Try.sizeOf3
 v3:=Try.zeroValue3
 t5:=Try.underlying5
 a5:=Try.isAgg5
 z5:=Try.sizeOf5
 v5:=Try.zeroValue5
 t9:=Try.underlying9
 a9:=Try.isAgg9
 z9:=Try.sizeOf9
 v9:=Try.zeroValue9}
open Go.RowKit in
theorem Try.strings_IndexByte (s:ByteArray) (c:Int) (w:World) :
 Calls Try.prog 77 #[.string s,.int .u8 c] w λe w'=>e=.returned (.int .i64 (Lib.indexByte s.data.toList c.toNat.toUInt8))/\w'=w:=Any.strings_IndexByte Try.lays137 s c w
def Try.lays149_ren:Go.Shelf.Ren:=⟨fun|149=>51|222=>64|n=>n,fun|9=>9|5=>5|3=>3|4=>4|n=>n,fun|n=>n⟩
theorem Try.lays149:Go.Proofs.Lays.n149 Try.prog Try.lays149_ren:={
 mixed:=by kernel_rfl
 f149:=Try.func51.trans (congrArg some (by kernel_rfl))
 f222:=Try.func64.trans (congrArg some (by kernel_rfl))
 t3:=Try.underlying3
 a3:=Try.isAgg3
 z3:=Try.sizeOf3
 v3:=Try.zeroValue3
 t4:=Try.underlying4
 a4:=Try.isAgg4
 z4:=Try.sizeOf4
 v4:=Try.zeroValue4
 t5:=Try.underlying5
 a5:=Try.isAgg5
 z5:=Try.sizeOf5
 v5:=Try.zeroValue5
 t9:=Try.underlying9
 a9:=Try.isAgg9
 z9:=Try.sizeOf9
 v9:=Try.zeroValue9}
open Go.RowKit Go.Lib in
theorem Try.strings_LastIndexByte (s:ByteArray) (c:Int) (hs:s.size<4611686018427387904) (w:World) :
 Calls Try.prog 51 #[.string s,.int .u8 c] w λe w'=>e=.returned (.int .i64 (Lib.lastIndexByte s c))/\w'=w:=Any.strings_LastIndexByte Try.lays149 s c hs w
def Try.lays152_ren:Go.Shelf.Ren:=⟨fun|152=>99|137=>77|119=>104|224=>105|225=>106|217=>90|266=>98|n=>n,fun|9=>9|21=>21|3=>3|4=>4|5=>5|0=>0|46=>112|n=>n,fun|n=>n⟩
theorem Try.lays152:Go.Proofs.Lays.n152 Try.prog Try.lays152_ren:={
 mixed:=by kernel_rfl
 f119:=Try.func104.trans (congrArg some (by kernel_rfl))
 f137:=Try.func77.trans (congrArg some (by kernel_rfl))
 f152:=Try.func99.trans (congrArg some (by kernel_rfl))
 f217:=Try.func90.trans (congrArg some (by kernel_rfl))
 f224:=Try.func105.trans (congrArg some (by kernel_rfl))
 f225:=Try.func106.trans (congrArg some (by kernel_rfl))
 f266:=Try.func98.trans (congrArg some (by kernel_rfl))
 t0:=Try.underlying0
 a0:=Try.isAgg0
 z0:=Try.sizeOf0
 v0:=Try.zeroValue0
 t3:=Try.underlying3
 a3:=Try.isAgg3
 z3:=Try.sizeOf3
 v3:=Try.zeroValue3
 t4:=Try.underlying4
 a4:=Try.isAgg4
 z4:=Try.sizeOf4
 v4:=Try.zeroValue4
 t5:=Try.underlying5
 a5:=Try.isAgg5
 z5:=Try.sizeOf5
 v5:=Try.zeroValue5
 t9:=Try.underlying9
 a9:=Try.isAgg9
 z9:=Try.sizeOf9
 v9:=Try.zeroValue9
 t21:=Try.underlying21
 a21:=Try.isAgg21
 z21:=Try.sizeOf21
 v21:=Try.zeroValue21
 t46:=Try.underlying112
 a46:=Try.isAgg112
 z46:=Try.sizeOf112
 v46:=Try.zeroValue112}
open Go.RowKit Go.Lib in
theorem Try.strings_IndexRune_ascii (s:ByteArray) (r:Int) (w:World) (h0:0<=r) (h1:r<128) :
 Calls Try.prog 99 #[.string s,.int .i32 r] w λe w'=>e=.returned (.int .i64 (Lib.indexByte s.data.toList r.toNat.toUInt8))/\w'=w:=Any.strings_IndexRune_ascii Try.lays152 s r w h0 h1
def Try.lays226_ren:Go.Shelf.Ren:=⟨fun|226=>100|n=>n,fun|3=>3|4=>4|n=>n,fun|n=>n⟩
theorem Try.lays226:Go.Proofs.Lays.n226 Try.prog Try.lays226_ren:={
 mixed:=by kernel_rfl
 f226:=Try.func100.trans (congrArg some (by kernel_rfl))
 t3:=Try.underlying3
 a3:=Try.isAgg3
 z3:=Try.sizeOf3
 v3:=Try.zeroValue3
 t4:=Try.underlying4
 a4:=Try.isAgg4
 z4:=Try.sizeOf4
 v4:=Try.zeroValue4}
open Go.RowKit Go.Lib in
theorem Try.strings_shouldUseASCIISet (n:Int) (w:World) :
 Calls Try.prog 100 #[.int .i64 n] w λe w'=>e=.returned (.bool (decide (8<n)))/\w'=w:=Any.strings_shouldUseASCIISet Try.lays226 n w
def Try.lays153_ren:Go.Shelf.Ren:=⟨fun|153=>91|152=>99|226=>100|227=>101|228=>102|137=>77|119=>104|224=>105|225=>106|217=>90|266=>98|n=>n,fun|9=>9|3=>3|4=>4|5=>5|21=>21|117=>144|116=>143|0=>0|46=>112|124=>152|n=>n,fun|n=>n⟩
theorem Try.lays153:Go.Proofs.Lays.n153 Try.prog Try.lays153_ren:={
 mixed:=by kernel_rfl
 f119:=Try.func104.trans (congrArg some (by kernel_rfl))
 f137:=Try.func77.trans (congrArg some (by kernel_rfl))
 f152:=Try.func99.trans (congrArg some (by kernel_rfl))
 f153:=Try.func91.trans (congrArg some (by kernel_rfl))
 f217:=Try.func90.trans (congrArg some (by kernel_rfl))
 f224:=Try.func105.trans (congrArg some (by kernel_rfl))
 f225:=Try.func106.trans (congrArg some (by kernel_rfl))
 f226:=Try.func100.trans (congrArg some (by kernel_rfl))
 f227:=Try.func101.trans (congrArg some (by kernel_rfl))
 f228:=Try.func102.trans (congrArg some (by kernel_rfl))
 f266:=Try.func98.trans (congrArg some (by kernel_rfl))
 t0:=Try.underlying0
 a0:=Try.isAgg0
 z0:=Try.sizeOf0
 v0:=Try.zeroValue0
 t3:=Try.underlying3
 a3:=Try.isAgg3
 z3:=Try.sizeOf3
 v3:=Try.zeroValue3
 t4:=Try.underlying4
 a4:=Try.isAgg4
 z4:=Try.sizeOf4
 v4:=Try.zeroValue4
 t5:=Try.underlying5
 a5:=Try.isAgg5
 z5:=Try.sizeOf5
 v5:=Try.zeroValue5
 t9:=Try.underlying9
 a9:=Try.isAgg9
 z9:=Try.sizeOf9
 v9:=Try.zeroValue9
 t21:=Try.underlying21
 a21:=Try.isAgg21
 z21:=Try.sizeOf21
 v21:=Try.zeroValue21
 t46:=Try.underlying112
 a46:=Try.isAgg112
 z46:=Try.sizeOf112
 v46:=Try.zeroValue112
 t116:=Try.underlying143
 a116:=Try.isAgg143
 z116:=Try.sizeOf143
 t117:=Try.underlying144
 a117:=Try.isAgg144
 z117:=Try.sizeOf144
 v117:=Try.zeroValue144
 t124:=Try.underlying152
 a124:=Try.isAgg152
 z124:=Try.sizeOf152
 v124:=Try.zeroValue152}
open Go.RowKit Go.Lib in
theorem Try.strings_IndexAny_long (hv116:∀w,(zeroValue 143).run Try.prog w=.ok (.agg (Array.replicate 256 (.bool false))) w) (s chars:ByteArray) (w:World) (h2:2<=chars.size) (h8:8<s.size) (hs:s.size<4294967281) (hcs:chars.size<4294967281) (hascii:∀(j:Nat) b,chars.data.toList[j]?=some b->b.toNat<128) :
 Calls Try.prog 91 #[.string s,.string chars] w λe w'=>e=.returned (.int .i64 (Lib.indexAny s.data.toList chars.data.toList))/\w'=((w.alloc (.cells (Lib.setCells chars.data.toList) 143)).alloc (.cells (Lib.setCells chars.data.toList) 143)):=Any.strings_IndexAny_long Try.lays153 hv116 (by kernel_rfl) s chars w h2 h8 hs hcs hascii
end Go.Proofs
end
namespace Go.Proofs.Ytjpdcppdoonmdaa
section
open Go.RowKit
def Within (a b c:Int):Prop:=b<=a/\a<=c
instance (a b c:Int):Decidable (Within a b c):=inferInstanceAs (Decidable (_/\_))
def dU (s n:Int):Prop:=0<=n/\n<1000000000/\-1099511627777<=s/\s<=1099511627776/\(s = -1099511627777->0<n)
noncomputable instance (a b:Int):Decidable (dU a b):=Classical.propDecidable _
def aW (s:ByteArray) (j:Nat):Nat:=(s.data.getD j 0).toNat
def iR (s:ByteArray):Prop:=∀j,j<s.size->¬aW s j=0
noncomputable instance (s:ByteArray):Decidable (iR s):=Classical.propDecidable _
def cZ (s:ByteArray):Prop:=1<=s.size/\s.size<=255/\¬s=⟨#[46]⟩/\¬s=⟨#[46,46]⟩/\∀j,j<s.size->¬aW s j=0/\¬aW s j=47
noncomputable instance (s:ByteArray):Decidable (cZ s):=Classical.propDecidable _
def bF (k:Int) (t:ByteArray):Prop:=(¬k=3/\t=⟨#[]⟩)\/(k=3/\1<=t.size/\t.size<=4096/\iR t)
noncomputable instance (k:Int) (s:ByteArray):Decidable (bF k s):=Classical.propDecidable _
structure fV (n:aD):Prop where
 kind:1<=n.kind/\n.kind<=3
 mode:0<=n.mode/\n.mode<=4095
 uid:0<=n.uid/\n.uid<=2147483647
 gid:0<=n.gid/\n.gid<=2147483647
 time:dU n.sec n.nano
 data:¬n.kind=1->n.data.length=0
 aj:¬n.kind=2->n.aj.length=0
 target:bF n.kind n.target
noncomputable instance (n:aD):Decidable (fV n):=Classical.propDecidable _
theorem bA {n:aD}:fV n↔(1<=n.kind/\n.kind<=3)/\(0<=n.mode/\n.mode<=4095)/\(0<=n.uid/\n.uid<=2147483647)/\(0<=n.gid/\n.gid<=2147483647)/\dU n.sec n.nano/\(¬n.kind=1->n.data.length=0)/\(¬n.kind=2->n.aj.length=0)/\bF n.kind n.target:=
 ⟨λh=>⟨h.1,h.2,h.3,h.4,h.5,h.6,h.7,h.8⟩,λ⟨a,b,c,d,e,f,g,h⟩=>⟨a,b,c,d,e,f,g,h⟩⟩
theorem bF.sym {k:Int} {t:ByteArray} (h:bF k t) (hk:k=3):1<=t.size/\t.size<=4096/\iR t:=h.elim (λh=>absurd hk h.1) (λh=>h.2)
def d6 (ns:List aD):Prop:=∀i j,i<j->j<ns.length->(nd ns i).id<(nd ns j).id
def cL (ns:List aD) (id:Int):Int:=
 match ns.findIdx? (λn=>n.id == id) with
 |some k=>(k:Int)
 |none=>-1
theorem ur {ns:List aD} {id:Int} (h:∀j,j<ns.length->¬(nd ns j).id=id):cL ns id = -1:=by
 unfold cL
 have:ns.findIdx? (λn=>n.id == id)=none:=by
  rw [List.findIdx?_eq_none_iff]
  intro n hn
  obtain⟨j,hj,rfl⟩:=List.getElem_of_mem hn
  grind [nd]
 rw [this]
theorem p5 {ns:List aD} {id:Int} {k:Nat} (hr:d6 ns) (hk:k<ns.length) (he:(nd ns k).id=id):cL ns id=(k:Int):=by
 unfold cL
 have hg:∀j (hj:j<ns.length),nd ns j=ns[j]:=λj hj=>by
  grind [nd]
 have:ns.findIdx? (λn=>n.id == id)=some k:=by
  rw [List.findIdx?_eq_some_iff_getElem]
  grind [d6,nd,cL]
 rw [this]
theorem d6.le {ns:List aD} (hr:d6 ns) {i j:Nat} (hi:i<=j) (hj:j<ns.length):(nd ns i).id<=(nd ns j).id:=by
 rcases Nat.lt_or_ge i j with h|h
 all_goals grind [d6,nd]
theorem iq {s:ByteArray}:s.size=0↔s=⟨#[]⟩:=by
 constructor
 ·intro h
  obtain⟨⟨l⟩⟩:=s
  have h:l.length=0:=h
  rw [List.length_eq_zero_iff.1 h]
 rintro rfl
 rfl
theorem oz {p q:Prop} [Decidable p] [Decidable q] (h:¬p↔q):(!decide p)=decide q:=by
 grind
theorem sR {s:ByteArray} {j:Nat} {b:UInt8} (h:s.data.toList[j]?=some b):j<s.size/\aW s j=b.toNat:=by
 have h1:=bZ h
 rw [Array.length_toList] at h1
 refine⟨h1,?_⟩
 unfold aW
 have:s.data[j]?=some b:=by simpa using h
 rw [Array.getD_eq_getD_getElem?,this]
 rfl
theorem mA {s:ByteArray} {j:Nat} (h:j<s.size):s.data.toList[j]?=some (s.data.getD j 0):=by
 have h1:j<s.data.size:=h
 rw [Array.getD_eq_getD_getElem?,Array.getElem?_eq_getElem h1]
 simp
theorem uw {s:ByteArray}:Lib.indexByte s.data.toList (0:Int).toNat.toUInt8<0↔iR s:=by
 constructor
 ·intro h j hj e
  have h1:=Lib.indexByte_ge s.data.toList (0:Int).toNat.toUInt8
  refine Lib.indexByte_none (by omega:Lib.indexByte s.data.toList (0:Int).toNat.toUInt8 = -1) j ?_
  rw [mA hj]
  have:s.data.getD j 0=0:=UInt8.toNat_inj.1 e
  rw [this]
  rfl
 intro h
 refine Decidable.byContradiction (λh1=>?_)
 obtain⟨o,ho⟩:=Int.eq_ofNat_of_zero_le (Int.not_lt.1 h1)
 obtain⟨h2,h3⟩:=sR (Lib.indexByte_some ho).1
 exact absurd h3 (h o h2)
end
section
open Go.RowKit Go.Maps
theorem fC:Keyed Try.prog 3:=int_keyed Try.underlying3
theorem fI {z:Int} (lo:-9223372036854775808<=z) (hi:z<=9223372036854775807):keyOf Try.prog 3 (.int .i64 z)=some (.int .i64 z):=
 keyOf_int_mk Try.underlying3 (WalkArith.wf_i64 (by omega))
def mf (g:Int->Option Value):Lit->Option Value
 |.int .i64 h=>g h
 |_=>none
theorem qO (g:Int->Option Value) (h:Int) (v:Option Value):mI (mf g) (.int .i64 h) v=mf (λz=>if z=h then v else g z):=by
 funext x
 unfold mI mf
 cases x with
 |int k n=>
   by_cases hk:k=.i64
   ·subst hk
    by_cases e:n=h
    ·simp [Lit.sameKey,e]
    simp [Lit.sameKey,e]
   have e:(Lit.int k n).sameKey (.int .i64 h)=false:=by simp [Lit.sameKey,hk]
   grind
 |_=>rfl
theorem oW:mf (λ_=>none)=λ_=>none:=by
 funext x
 unfold mf
 split<;>rfl
def up (ps:List (Int×Int)) (z:Int):Option Int:=ps.lookup z
def pf (ps:List (Int×Int)) (z:Int):Option Value:=(up ps z).map (Value.int .i64)
theorem Bv {ps:List (Int×Int)} {z:Int} {u:Value} (h:mf (pf ps) (.int .i64 z)=some u):∃y,up ps z=some y/\u=.int .i64 y:=by
 have h:(up ps z).map (Value.int .i64)=some u:=h
 cases hu:up ps z with
 |none=>rw [hu] at h;cases h
 |some y=>rw [hu] at h;cases h;exact⟨y,rfl,rfl⟩
theorem Bw {ps:List (Int×Int)} {a b:Int}:mf (λz=>if z=a then some (.int .i64 b) else pf ps z)=mf (pf ((a,b)::ps)):=by
 congr 1
 grind [pf,up]
def fR (ps:List (Int×Int)):Nat->Int->Prop
 |0,z=>up ps z=none
 |k+1,z=>∃y,up ps z=some y/\fR ps k y
def Ends (ps:List (Int×Int)) (z:Int):Prop:=∃k,fR ps k z
theorem fR.uniq {ps:List (Int×Int)}:∀{k j:Nat} {z:Int},fR ps k z->fR ps j z->k=j
 |0,0,_,_,_=>rfl
 |0,j+1,z,h,h'=>by
   obtain⟨y,hy,_⟩:=h'
   have h:up ps z=none:=h
   rw [h] at hy
   cases hy
 |k+1,0,z,h',h=>by
   obtain⟨y,hy,_⟩:=h'
   have h:up ps z=none:=h
   rw [h] at hy
   cases hy
 |k+1,j+1,z,⟨y,hy,h⟩,⟨y',hy',h'⟩=>by
   rw [hy] at hy'
   cases hy'
   rw [fR.uniq h h']
theorem sS {ps:List (Int×Int)} {z x:Int} (h:¬x=z):up (ps.filter (λp=>!(p.1 == z))) x=up ps x:=by
 unfold up
 induction ps with
 |nil=>rfl
 |cons p ps ih=>
   grind
theorem fR.le:∀(k:Nat) {ps:List (Int×Int)} {z:Int},fR ps k z->k<=ps.length
 |0,_,_,_=>Nat.zero_le _
 |k+1,ps,z,h=>by
   have h0:=h
   obtain⟨y,hy,hk⟩:=h0
   have hl:(ps.filter (λp=>!(p.1 == z))).length+1<=ps.length:=by
    have hm:∃b,(z,b)∈ps:=by
     unfold up at hy
     clear hk h
     induction ps with
     |nil=>cases hy
     |cons p ps ih=>
       obtain⟨a,b⟩:=p
       rw [List.lookup_cons] at hy
       by_cases e:z=a
       ·subst e;exact⟨b,List.mem_cons_self ..⟩
       have h1:(z == a)=false:=by simp [e]
       rw [h1] at hy
       obtain⟨c,hc⟩:=ih hy
       exact⟨c,List.mem_cons_of_mem _ hc⟩
    obtain⟨b,hb⟩:=hm
    have h1:(ps.filter (λp=>!(p.1 == z))).length<ps.length:=by
     rw [List.length_filter_lt_length_iff_exists]
     exact⟨(z,b),hb,by simp⟩
    omega
   have aux:∀(j:Nat) (x:Int),j<=k->fR ps j x->fR (ps.filter (λp=>!(p.1 == z))) j x:=by
    intro j
    induction j with
    |zero=>
      intro x _ hx
      have hx':up ps x=none:=hx
      have:¬x=z:=λe=>by subst e;rw [hx'] at hy;cases hy
      show up _ x=none
      rw [sS this]
      exact hx'
    |succ j ih=>
      intro x hj hx
      have:¬x=z:=λe=>by
       subst e
       have:=fR.uniq hx h
       omega
      obtain⟨u,hu,hx'⟩:=hx
      exact⟨u,by rw [sS this];exact hu,ih u (by omega) hx'⟩
   have:=fR.le k (aux k y (Nat.le_refl _) hk)
   omega
inductive Way (ps:List (Int×Int)) (z0:Int):List Int->Int->Prop
 |nil:Way ps z0 [] z0
 |snoc {w:List Int} {x y:Int}:Way ps z0 w x->up ps x=some y->Way ps z0 (w++[x]) y
theorem Ends.step {ps:List (Int×Int)} {x y:Int} (h:up ps x=some y) (hy:Ends ps y):Ends ps x:=let ⟨k,hk⟩:=hy;⟨k+1,y,h,hk⟩
theorem Way.ends {ps:List (Int×Int)} {z0 y:Int} {w:List Int} (h:Way ps z0 w y) (hy:Ends ps y):Ends ps z0/\∀x,x∈w->Ends ps x:=by
 induction h with
 |nil=>exact⟨hy,λx hx=>by cases hx⟩
 |snoc hw hu ih=>
   grind [Ends.step]
theorem Way.long {ps:List (Int×Int)} {z0 y:Int} {w:List Int} (h:Way ps z0 w y):∀{k:Nat},fR ps k z0->∃j,k=w.length+j/\fR ps j y:=by
 induction h with
 |nil=>intro k hk;exact⟨k,by simp,hk⟩
 |snoc hw hu ih=>
   intro k hk
   obtain⟨j,hj,h⟩:=ih hk
   cases j with
   |zero=>
     have h:up ps _=none:=h
     rw [hu] at h
     cases h
   |succ j=>
     grind [fR]
theorem Way.never {ps:List (Int×Int)} {z0 y:Int} {w:List Int} (h:Way ps z0 w y) (hl:ps.length<w.length):¬Ends ps z0:=λ⟨k,hk⟩=>by
 obtain⟨j,hj,_⟩:=h.long hk
 have:=fR.le k hk
 omega
def mQ (ps:List (Int×Int)):Prop:=∀z,Ends ps z
noncomputable instance (ps:List (Int×Int)):Decidable (mQ ps):=Classical.propDecidable _
def cq (w:List Int):List Value:=w.map (Value.int .i64)
theorem av.Di {e:TypeId} {A:Option Addr} {n cap:Nat} {w2:List Int} {j:Nat} (hj:j<w2.length):∀F w,(av e 1 A n cap (cq w2)).h F w->w.cell? ⟨au A,ar A+j*1,none⟩=some (.int .i64 (w2.getD j 0)):=by
 intro F w h
 have hl:=(av.len h).1
 have hx:(cq w2)[j]?=some (.int .i64 (w2.getD j 0)):=by
  grind [cq,getD_some]
 obtain⟨g,rfl⟩:=av.head h (by grind)
 have:=av.cell hx F w h
 grind [av,cq,au,ar]
def ff (fs:List Int) (z:Int):Option Value:=if z∈fs then some (.int .i64 1) else none
theorem Cm:mf (ff [])=λ_=>none:=by
 rw [←oW]
 congr 1
theorem Cn (fs:List Int) (h:Int):mI (mf (ff fs)) (.int .i64 h) (some (.int .i64 1))=mf (ff (h::fs)):=by
 rw [qO]
 congr 1
 grind [ff]
theorem wV {ps:List (Int×Int)} {left:Lit->Bool} {z:Int} (hd:∀x y,up ps x=some y->left (.int .i64 x)=false->Ends ps x) (hz:Ends ps z) :
 ∀x y,up ps x=some y->(left (.int .i64 x) && !(Lit.int .i64 x).sameKey (.int .i64 z))=false->Ends ps x:=by
 intro x y hx h
 by_cases e:x=z
 ·rw [e];exact hz
 refine hd x y hx ?_
 simpa [Lit.sameKey,e] using h
theorem zH {fn jC m L cnt cnt':Nat} (h:fn<=(L-cnt)*(L+2)) (h2:jC<=fn+m) (hm:m<=L+1) (hc:cnt'<cnt) (hL:cnt<=L):jC<=(L-cnt')*(L+2):=by
 have h1:(L-cnt+1)*(L+2)<=(L-cnt')*(L+2):=Nat.mul_le_mul_right _ (by omega)
 rw [Nat.add_mul,Nat.one_mul] at h1
 omega
theorem AR {ps:List (Int×Int)} {z y:Int} (h:up ps z=some y):mf (pf ps) (.int .i64 z)=some (.int .i64 y):=by
 grind [up,mf,pf]
theorem nH {ps:List (Int×Int)} {z:Int} (h:up ps z=none):mf (pf ps) (.int .i64 z)=none:=by
 grind [up,mf,pf]
theorem wC {w:List Int} {x lo hi:Int} (h:∀y,y∈w->lo<=y/\y<=hi) (hx:lo<=x/\x<=hi):∀y,y∈w++[x]->lo<=y/\y<=hi:=by
 grind
theorem ux {ps:List (Int×Int)} {z0 x:Int} {w:List Int} (h:Way ps z0 w x) (hu:up ps x=none):Ends ps z0/\∀y,y∈w++[x]->Ends ps y:=by
 have hx:Ends ps x:=⟨0,hu⟩
 obtain⟨h1,h2⟩:=h.ends hx
 grind
theorem p6 {w:List Int} {j:Nat} (h:j<w.length):w.getD j 0∈w:=by
 grind
end
section
open Go.RowKit
section scope
variable {P:Program} {β:Bs} {N:dK} {fr:Fr} {hps:List HP} {Q:Post} {c:Code} {id:Nat}
theorem ai.scope (h:ai P β N c fr hps (Exit.noGoto Q)):ai P β N (.scope c) fr hps Q:=λjunk w hS=>wp_scope_straight (h junk w hS)
theorem ah.p8 (h:ah β N Q .ret fr hps):ah β N (Exit.noGoto Q) .ret fr hps:=λjunk w hS=>h junk w hS
end scope
end
section
open Go.RowKit Go.Lib
def bB:ByteArray:=⟨#[47,0]⟩
def Clean (s:ByteArray):Prop:=∀j,j<s.size->¬aW s j=0/\¬aW s j=47
noncomputable instance (s:ByteArray):Decidable (Clean s):=Classical.propDecidable _
def qP (c:Nat):Int:=if c=47 then 0 else if c=0 then 1 else -1
theorem yA {c:Nat}:0<=qP c↔c=47\/c=0:=by
 grind [qP]
theorem qQ {s:ByteArray} {j:Nat} (h:j<s.size):(s.get! j).toNat=aW s j:=by
 have h1:j<s.data.size:=h
 have e:s.get! j=s.data[j]:=getElem!_pos s.data j h1
 unfold aW
 rw [Array.getD_eq_getD_getElem?,Array.getElem?_eq_getElem h1,e]
 rfl
theorem gU {s:ByteArray} {pos:Nat} (h:pos<s.size):1<=(Utf8.decode s pos).2/\pos+(Utf8.decode s pos).2<=s.size/\(((Utf8.decode s pos).1=47\/(Utf8.decode s pos).1=0)↔(aW s pos=47\/aW s pos=0))/\(∀j,pos<j->j<pos+(Utf8.decode s pos).2->128<=aW s j) ∧
 ((Utf8.decode s pos).1<55296\/(57343<(Utf8.decode s pos).1/\(Utf8.decode s pos).1<=1114111)):=by
 have h0:(s.get! pos).toNat<256:=(s.get! pos).toNat_lt
 have hb:=qQ h
 have c1:=decodeN_conts (s.size-pos) (s.get! pos).toNat (s.get! (pos+1)).toNat (s.get! (pos+2)).toNat (s.get! (pos+3)).toNat
 have c2:=decodeN_width_le (s.size-pos) (s.get! pos).toNat (s.get! (pos+1)).toNat (s.get! (pos+2)).toNat (s.get! (pos+3)).toNat (by omega)
 have c3:=decodeN_valid (s.size-pos) (s.get! pos).toNat (s.get! (pos+1)).toNat (s.get! (pos+2)).toNat (s.get! (pos+3)).toNat h0
 have c4:=decodeN_ge1 (s.size-pos) (s.get! pos).toNat (s.get! (pos+1)).toNat (s.get! (pos+2)).toNat (s.get! (pos+3)).toNat
 have c5:(decodeN (s.size-pos) (s.get! pos).toNat (s.get! (pos+1)).toNat (s.get! (pos+2)).toNat (s.get! (pos+3)).toNat).1<128->(decodeN (s.size-pos) (s.get! pos).toNat (s.get! (pos+1)).toNat (s.get! (pos+2)).toNat (s.get! (pos+3)).toNat).1=(s.get! pos).toNat:=by
  intro h
  by_cases h1:(s.get! pos).toNat<128
  ·rw [decodeN_ascii _ _ _ _ _ h1]
  exfalso
  unfold decodeN at h
  grind
 have c6:(s.get! pos).toNat<128->(decodeN (s.size-pos) (s.get! pos).toNat (s.get! (pos+1)).toNat (s.get! (pos+2)).toNat (s.get! (pos+3)).toNat).1=(s.get! pos).toNat:=λh1=>by rw [decodeN_ascii _ _ _ _ _ h1]
 rw [←decode_at] at c1 c2 c3 c4 c5 c6
 grind [qQ]
theorem zJ {c:Nat} (h:128<=c) (hv:c<55296\/(57343<c/\c<=1114111)):2<=(Utf8.encode (c:Int)).size/\(Utf8.encode (c:Int)).size<=4/\128<=aW (Utf8.encode (c:Int)) ((Utf8.encode (c:Int)).size-1):=by
 have hval:Utf8.valid (c:Int)=true:=by
  unfold Utf8.valid
  simp
  omega
 unfold Utf8.encode
 simp only [hval,if_true,Int.toNat_natCast]
 rw [if_neg (by omega)]
 split
 ·refine⟨Nat.le_refl _,Nat.le_of_ble_eq_true rfl,?_⟩
  show 128<=(UInt8.ofNat (0x80+c % 64)).toNat
  rw [UInt8.toNat_ofNat'];omega
 split
 ·refine⟨Nat.le_of_ble_eq_true rfl,Nat.le_of_ble_eq_true rfl,?_⟩
  show 128<=(UInt8.ofNat (0x80+c % 64)).toNat
  rw [UInt8.toNat_ofNat'];omega
 refine⟨Nat.le_of_ble_eq_true rfl,Nat.le_of_ble_eq_true rfl,?_⟩
 show 128<=(UInt8.ofNat (0x80+c % 64)).toNat
 rw [UInt8.toNat_ofNat'];omega
theorem rS {s:ByteArray}:0<=Lib.indexAny s.data.toList bB.data.toList↔¬Clean s:=by
 have key:∀x:UInt8,bB.data.toList.contains x=true↔(x.toNat=0\/x.toNat=47):=by
  intro x
  have e1:(x=47)↔x.toNat=47:=⟨λh=>by rw [h];rfl,λh=>UInt8.toNat_inj.1 h⟩
  have e2:(x=0)↔x.toNat=0:=⟨λh=>by rw [h];rfl,λh=>UInt8.toNat_inj.1 h⟩
  show ([47,0]:List UInt8).contains x=true↔_
  simp only [List.contains_cons,List.contains_nil,Bool.or_false,Bool.or_eq_true,beq_iff_eq]
  rw [e1,e2]
  omega
 constructor
 ·intro h hc
  have:Lib.indexAny s.data.toList bB.data.toList = -1:=Lib.indexAny_none (λj b hj hb=>by
   obtain⟨h1,h2⟩:=sR hb
   have h3:=hc j h1
   cases hx:bB.data.toList.contains b with
   |false=>rfl
   |true=>have:=(key b).1 hx;omega)
  omega
 intro h
 refine Decidable.byContradiction (λhn=>h ?_)
 have aux:∀i,i<=s.size->Lib.NoAny s.data.toList bB.data.toList i:=by
  intro i
  induction i with
  |zero=>intro _;exact Lib.NoAny.zero _ _
  |succ i ih=>
    intro hi
    have hx:=mA (show i<s.size by omega)
    refine (ih (by omega)).succ hx ?_
    cases hc:bB.data.toList.contains (s.data.getD i 0) with
    |false=>rfl
    |true=>
      have:=Lib.indexAny_hit (ih (by omega)) hx hc
      omega
 intro j hj
 have h1:=aux s.size (Nat.le_refl _) j (s.data.getD j 0) hj (mA hj)
 have h2:=mt (key (s.data.getD j 0)).2 (by rw [h1];exact Bool.false_ne_true)
 unfold aW
 omega
theorem qb {β:Bs} (s:ByteArray) (h8:8<s.size) (hs:s.size<=1048576):Spec Try.prog β 91 #[.string s,.string bB] [] (λv l=>(∃x:Int,v=.int .i64 x/\(0<=x↔¬Clean s))/\l=[]):=by
 intro R w hS
 refine (Try.strings_IndexAny_long (zero_of_info (n:=256) (by kernel_rfl)).1 s bB w (by decide) h8 (by omega) (by decide) (by
  intro j b hb
  have:j<2:=by grind [bZ,bB]
  have h:j=0\/j=1:=by omega
  rcases h with rfl|rfl
  ·have:b=47:=by simpa [bB] using hb.symm
   subst this;decide
  have:b=0:=by simpa [bB] using hb.symm
  subst this;decide)).mono ?_
 rintro e w' ⟨rfl,rfl⟩
 exact⟨_,[],rfl,⟨⟨_,rfl,rS⟩,rfl⟩,hS.quiet (((Keeps.refl _ _).alloc _).alloc _)⟩
theorem yB:∀c:Fin 128,Lib.indexByte [47,0] ((c.val:Int).toNat.toUInt8)=qP c.val:=by decide
theorem Bx {pos:Nat} (h:pos<bB.size):(Utf8.decode bB pos).1=47\/(Utf8.decode bB pos).1=0:=by
 refine (gU h).2.2.1.2 ?_
 have h:pos<2:=h
 have:pos=0\/pos=1:=by omega
 rcases this with rfl|rfl
 ·exact .inl rfl
 exact .inr rfl
theorem yC (i:Nat):aW bB i<128:=by
 unfold aW bB
 match i with
 |0=>decide
 |1=>decide
 |n+2=>exact (by decide:(0:UInt8).toNat<128)
theorem Co {c:Nat} (hv:c<55296\/(57343<c/\c<=1114111)):Lib.validRune (c:Int)=true:=by
 unfold Lib.validRune
 exact decide_eq_true (by omega)
theorem uy {β:Bs} {c:Nat} (hv:c<55296\/(57343<c/\c<=1114111)):Spec Try.prog β 104 #[.int .i32 ((c:Nat):Int)] [] (λv l=>v=.bool true/\l=[]):=
 Spec.quiet (λw=>(Try.utf8_ValidRune _ w).mono (λ_ _ ⟨h1,h2⟩=>⟨h1.trans (by rw [Co hv]),h2⟩))
theorem qc {β:Bs} {i:Nat} (hi:1<=i) (b:Int):Spec Try.prog β 77 #[.string (bB.extract (i+1) bB.size),.int .u8 b] [] (λv l=>v=.int .i64 (-1)/\l=[]):=
 Spec.quiet (λw=>(Try.strings_IndexByte _ b w).mono (λ_ _ ⟨h1,h2⟩=>⟨h1.trans (by
  have h0:(bB.extract (i+1) bB.size).size=0:=by
   rw [ByteArray.size_extract]
   have:bB.size=2:=rfl
   omega
  rw [iq.1 h0]
  rfl),h2⟩))
theorem qd {β:Bs} {c:Nat} (h:c<128):Spec Try.prog β 99 #[.string bB,.int .i32 ((c:Nat):Int)] [] (λv l=>v=.int .i64 (qP c)/\l=[]):=
 Spec.quiet (λw=>(Try.strings_IndexRune_ascii bB _ w (by omega) (by omega)).mono (λ_ _ ⟨h1,h2⟩=>⟨h1.trans (congrArg (λx=>Ending.returned (.int .i64 x)) (yB ⟨c,h⟩)),h2⟩))
theorem zK {c:Nat} (h:128<=c):qP c = -1:=by
 grind [qP]
theorem fD {s:ByteArray}:cZ s↔1<=s.size/\s.size<=255/\¬s=⟨#[46]⟩/\¬s=⟨#[46,46]⟩/\Clean s:=Iff.rfl
end
end Go.Proofs.Ytjpdcppdoonmdaa
