/-
  PROVED HERE: lemmas and contracts of functions (texts of this repo, joined; what the claim does not use is left out): Base, Sep, V, Vr, Vo, Vj, Vk, Vc, Vd, Vm, Va, Vb, Ve, Vt, Vi, Vw, Vy, Vz, Vq, Vg, Vn, G, GL, GT, GCopy, Shelf, GC, GM, Vs, GS, GStr, GRoot.
  CONDITIONS: as the theorems say.
-/
import Derived.Test.YtnipofpbcggjcaaGreatDoorProg
import Derived.WalkKit
import Derived.ChangeSame
import Derived.Lib.Hide
import Derived.Maps.OwnSet
import Derived.Maps.OwnOps
import Derived.Deep.Draws
import Derived.WalkSmall
import Derived.Deep.Quiet
import Derived.Deep.LoopGhost
import Derived.KernelRfl
import Derived.Laws.StructEq
import Derived.Maps.AppendAt
import Derived.Deep.Upon
import Derived.StillTail
import Derived.Maps.RangeWalk
import Derived.Laws.RangeAny
import Derived.Laws.OwnMore
import Derived.Lib.Bytealg
import Derived.OrdersHeld
import Derived.Shelf.Small.Utf8
import Derived.Shelf.Small.Bits
import Derived.Shelf.Small.Strs
import Derived.Shelf.Small.Wraps
import Derived.Shelf.Strconv.Itoa0
import Derived.Shelf.Strings.Search1
import Derived.Shelf.Sort.Plain
import Derived.Shelf.Strings.Runes
import Derived.Shelf.Strings.IndexAny
import Derived.Shelf.Strings.AsciiSet
import Derived.Shelf.Strings.IndexAnyAll
import Derived.Ground.Names2Prog
import Derived.Shelf.Slices.SearchI
import Derived.Shelf.Slices.In.SortNone
import Derived.Lib.IndexLaws
import Derived.Scope
import Derived.Lib.DecodeN
import Derived.Lib.SpaceUEq
import Derived.Lib.QuoteLoop
set_option maxRecDepth 100000
set_option maxHeartbeats 4000000
namespace Go.Proofs.YtnipofpbcggjcaaGreatDoor
section
open Go.RowKit Go.WideShapes Go.ChangeShapes
section post
variable {H:Type} {enc:TypeId×Value->H} {P:Program}
theorem Jy {f:Func} {s:ChangeSpec} {apart fresh handsOn again:Bool} {W W':World} {args:Array Value} {v:Value} {ds gs:List (DataW H)} {before pa pv:List MemPlace}
 (hW:DataW.Whole enc P f.params.toList s.vars apart W args.toList ds gs before)
 (hres:∀(b:Nat) (sp:Nat->Bool) (hd:Bool),DataW.TrodAll enc P W' b sp hd f.resultTypes.toList (v.resultList f.resultTypes.size) (s.fn H (ds++gs)).results [])
 (hargs:∀sp:Nat->Bool,(∀p∈before,sp p.block=true)->DataW.TrodAll enc P W' 0 sp true f.params.toList args.toList (s.fn H (ds++gs)).args pa)
 (hvars:∀sp:Nat->Bool,(∀p∈before,sp p.block=true)->DataW.TrodVars enc P W' sp s.vars (s.fn H (ds++gs)).vars pv)
 (hps:before=pa++pv) (hb:Below W.heap.size W W')
 (hok:∀(j:Nat) (t:TypeId) (r:Value),f.resultTypes[j]?=some t->(v.resultList f.resultTypes.size)[j]?=some r->Value.okWide P W' .any 0 t r) :
 s.post enc P f apart fresh handsOn again W args v W':=by
 have hlt:∀p∈before,p.block<W.heap.size:=λp hp=>hW.lt p hp
 have hold:∀p∈before,(λb=>decide (b<W.heap.size)) p.block=true:=by grind
 refine⟨ds,gs,before,[],pa,pv,hW,hres _ _ _,hargs _ hold,hvars _ hold,World.keptBut_mono (λp hp=>⟨hp,?_⟩) (hb.frame (·∈before)),λ_=>?_⟩
 ·rw [hps,List.mem_append] at hp
  exact Or.inr hp
 obtain⟨_,_,_,_,_,hz,hn⟩:=hW
 refine⟨hok,_,_,([]++pa)++pv,⟨[]++pa,pv,trodAll_append (hargs _ (λ_ _=>rfl)) (hres _ _ _),hvars _ (λ_ _=>rfl),rfl,?_,?_⟩,?_⟩
 ·intro b off hp
  have hin:MemPlace.cell b off∈before:=by rw [hps];simpa using hp
  rw [hb.frozen (hlt _ hin)]
  exact hz b off hin
 all_goals grind
end post
structure Keeps (S:Nat->Prop) (w w':World):Prop where
 os:w'.os=w.os
 tape:w'.tape=w.tape
 output:w'.output=w.output
 size:w.heap.size<=w'.heap.size
 block:∀k,k<w.heap.size->¬S k->w'.heap[k]?=w.heap[k]?
section keeps
variable {S S':Nat->Prop} {a w w':World}
theorem Keeps.refl (S:Nat->Prop) (w:World):Keeps S w w:=⟨rfl,rfl,rfl,Nat.le_refl _,λ_ _ _=>rfl⟩
theorem Keeps.trans (h:Keeps S a w) (k:Keeps S w w'):Keeps S a w':=
 ⟨k.os.trans h.os,k.tape.trans h.tape,k.output.trans h.output,Nat.le_trans h.size k.size,λi hi hn=>(k.block i (Nat.lt_of_lt_of_le hi h.size) hn).trans (h.block i hi hn)⟩
theorem Keeps.mono (h:Keeps S a w) (hs:∀k,k<a.heap.size->S k->S' k):Keeps S' a w:=
 ⟨h.os,h.tape,h.output,h.size,λi hi hn=>h.block i hi (λhk=>hn (hs i hi hk))⟩
theorem Keeps.andThen (h:Keeps S a w) (k:Keeps S' w w') (hs:∀i,i<a.heap.size->S' i->S i):Keeps S a w':=
 ⟨k.os.trans h.os,k.tape.trans h.tape,k.output.trans h.output,Nat.le_trans h.size k.size,λi hi hn=>(k.block i (Nat.lt_of_lt_of_le hi h.size) (λhk=>hn (hs i hi hk))).trans (h.block i hi hn)⟩
theorem Keeps.drewN (h:Keeps S a w) (n:Nat):Keeps S a (w.drewN n):=⟨h.os,h.tape,h.output,h.size,h.block⟩
theorem Keeps.drew (h:Keeps S a w):Keeps S a w.drew:=⟨h.os,h.tape,h.output,h.size,h.block⟩
theorem Keeps.alloc (h:Keeps S a w) (o:Obj):Keeps S a (w.alloc o):=
 ⟨h.os,h.tape,h.output,Nat.le_trans h.size (by simp),λi hi hn=>(Below.heap_alloc w o i (Nat.lt_of_lt_of_le hi h.size)).trans (h.block i hi hn)⟩
theorem Keeps.setCell (h:Keeps S a w) {p:Addr} (hp:a.heap.size<=p.block\/S p.block) (u:Value):Keeps S a (w.setCell p u):=
 ⟨h.os,h.tape,h.output,by simpa [World.setCell] using h.size,λi hi hn=>(Below.heap_setCell w p u i (by
  rintro rfl
  rcases hp with hp|hp
  ·omega
  exact hn hp)).trans (h.block i hi hn)⟩
theorem Keeps.grown {row:Option Nat} (h:Keeps S a w) (hg:w.grownBy w' row) (hr:∀k,row=some k->a.heap.size<=k\/S k):Keeps S a w':=
 ⟨hg.os.trans h.os,hg.tape.trans h.tape,hg.output.trans h.output,Nat.le_trans h.size hg.size,λi hi hn=>
  (hg.block i (Nat.lt_of_lt_of_le hi h.size) (λe=>by
   rcases hr i e.symm with h1|h1
   ·omega
   exact hn h1)).trans (h.block i hi hn)⟩
theorem Keeps.cell (h:Keeps S w w') {p:Addr} (hp:p.block<w.heap.size) (hn:¬S p.block):w'.cell? p=w.cell? p:=World.cell?_of_block (w:=w) (h.block p.block hp hn)
theorem Keeps.frozen (h:Keeps S w w') {p:Addr} (hp:p.block<w.heap.size) (hn:¬S p.block):w'.frozen? p=w.frozen? p:=World.frozen?_of_block (w:=w) (h.block p.block hp hn)
theorem Keeps.ownsRow (h:Keeps S w w') {base:Nat} {e:TypeId} {size:Nat} {v:Value} {n:Nat} {xs:List Value} (ho:w.ownsRow base e size v n xs) (hn:∀k,v.ownBlock=some k->¬S k):w'.ownsRow base e size v n xs:=by
 have hl:=ho.lt
 obtain⟨h1,h2⟩:=ho
 refine⟨h1,?_⟩
 rcases h2 with h2|⟨g,cap,cur,hv,hg,hh,r⟩
 ·exact Or.inl h2
 have e:v.ownBlock=some g:=by rw [hv];rfl
 exact Or.inr ⟨g,cap,cur,hv,hg,(h.block g (hl g e).2 (hn g e)).trans hh,r⟩
theorem Keeps.ownsMap {H:Type} (h:Keeps S w w') {P:Program} {k:TypeId} {R:Value->Option (DataW H×List MemPlace)} {b n:Nat} {D:DataW H} (ho:w.ownsMap P k R b n D) (hn:¬S b):w'.ownsMap P k R b n D:=by
 have hlt:=ho.lt
 obtain⟨es,clock,hb,r⟩:=ho
 exact⟨es,clock,(h.block b hlt hn).trans hb,r⟩
end keeps
def vl (v:Value):Option (DataW Value×List MemPlace):=some (.held v,[])
def iA (P:Program) (K:TypeId) (w:World) (b:Nat) (f:Lit->Option Value) (n:Nat):Prop:=
 ∃D:DataW Value,w.ownsMap P K vl b n D/\Maps.size D=n/\(∀kl,Maps.has D kl=(f kl).isSome)/\∀kl v,f kl=some v->∀z,D.atKey kl z=.held v
def o4 (f:Lit->Option Value) (kl:Lit) (v:Option Value):Lit->Option Value:=λx=>if x.sameKey kl then v else f x
section maps
open Go.Maps
variable {P:Program} {K E t:TypeId} {w w':World} {b n:Nat} {f:Lit->Option Value}
theorem iA.made (w:World) (P:Program) (K:TypeId):iA P K (w.alloc (.map #[] 0)) w.heap.size (λ_=>none) 0:=
 ⟨.map [],World.ownsMap_made _ _ _ _,rfl,λ_=>rfl,λ_ _ h=>by cases h⟩
theorem iA.lt (h:iA P K w b f n):b<w.heap.size:=let ⟨_,h1,_⟩:=h;h1.lt
theorem iA.keeps {S:Nat->Prop} (h:iA P K w b f n) (k:Keeps S w w') (hn:¬S b):iA P K w' b f n:=by
 obtain⟨D,h1,h2⟩:=h
 exact⟨D,k.ownsMap h1 hn,h2⟩
theorem iA.len (h:iA P K w b f n) (ht:P.underlying t=some (.map K E)) (ty:TypeId):(Builtin.len_ #[t] ty #[.map (some b)]).run P w=.ok (.int .i64 n) w:=by
 obtain⟨D,h1,h2,_⟩:=h
 rw [h1.len ht ty,h2]
theorem iA.look_ok (h:iA P K w b f n) (L:Keyed P K) (ht:P.underlying t=some (.map K E)) {z:Value} (hz:(zeroValue E).run P w=.ok z w) {key:Value} {kl:Lit} (hkey:keyOf P K key=some kl) :
 (Instr.lookup t (.map (some b)) key true).run P w=.ok (.tuple #[(f kl).getD z,.bool (f kl).isSome]) w:=by
 obtain⟨D,h1,_,h3,h4⟩:=h
 obtain⟨v,ps,hrun,hv⟩:=h1.look_ok L ht hz (R:=vl) (zd:=.held z) (zp:=[]) rfl hkey
 rw [hrun,h3 kl]
 simp only [vl,Option.some.injEq,Prod.mk.injEq] at hv
 cases hf:f kl with
 |none=>
   have hn:Maps.has D kl=false:=by rw [h3 kl,hf];rfl
   rw [atKey_of_not_has hn] at hv
   have e:v=z:=by simpa using hv.1
   simp [e]
 |some u=>
   grind
theorem iA.look (h:iA P K w b f n) (L:Keyed P K) (ht:P.underlying t=some (.map K E)) {z:Value} (hz:(zeroValue E).run P w=.ok z w) {key:Value} {kl:Lit} (hkey:keyOf P K key=some kl) :
 (Instr.lookup t (.map (some b)) key false).run P w=.ok ((f kl).getD z) w:=by
 obtain⟨D,h1,_,h3,h4⟩:=h
 obtain⟨v,ps,hrun,hv⟩:=h1.lookup L ht hz (R:=vl) (zd:=.held z) (zp:=[]) rfl hkey
 rw [hrun]
 simp only [vl,Option.some.injEq,Prod.mk.injEq] at hv
 cases hf:f kl with
 |none=>
   have hn:Maps.has D kl=false:=by rw [h3 kl,hf];rfl
   rw [atKey_of_not_has hn] at hv
   have e:v=z:=by simpa using hv.1
   simp [e]
 |some u=>
   grind
theorem HY {key:Value} {kl:Lit} (L:Keyed P K) (hkey:keyOf P K key=some kl):WideAt.IsKeyLit kl:=L.key hkey
theorem iA.store (h:iA P K w b f n) (L:Keyed P K) (ht:P.underlying t=some (.map K E)) (hn:n<maxLen) {key:Value} {kl:Lit} (hkey:keyOf P K key=some kl) (v:Value) :
 ∃w',(Instr.mapUpdate t (.map (some b)) key v).run P w=.ok () w'/\iA P K w' b (o4 f kl (some v)) (if (f kl).isSome then n else n+1)/\Keeps (·=b) w w':=by
 obtain⟨D,h1,h2,h3,h4⟩:=h
 obtain⟨w',hrun,hown,hg⟩:=h1.update L ht hn hkey (val:=v) (d:=.held v) (ps:=[]) rfl
 have hkl:=HY L hkey
 have hsz:Maps.size (D.put kl (.held v))=if (f kl).isSome then n else n+1:=by
  rw [size_put (h1.tidy L),h2,h3 kl]
 refine⟨w',hrun,⟨D.put kl (.held v),?_,hsz,λx=>?_,λx u hx z=>?_⟩,(Keeps.refl _ _).grown hg (λk hk=>.inr (by cases hk;rfl))⟩
 ·obtain⟨es,clock,hb,F,hs,rD⟩:=hown
  exact⟨es,clock,hb,F,by rw [←hsz,rD];simp [Maps.size,length_sorted],rD⟩
 ·unfold o4
  by_cases e:x=kl
  ·subst e
   rw [has_put_same h1.isMap hkl]
   have:x.sameKey x=true:=WideAt.sameKey_self hkl
   simp [this]
  rw [has_put_other e,h3 x,sameKey_ne e]
  simp
 unfold o4 at hx
 by_cases e:x=kl
 ·subst e
  rw [if_pos (WideAt.sameKey_self hkl)] at hx
  injection hx with hx
  rw [atKey_put_same h1.isMap hkl,hx]
 rw [sameKey_ne e] at hx
 simp only [Bool.false_eq_true,if_false] at hx
 rw [atKey_put_other e]
 exact h4 x u hx z
theorem iA.drop (h:iA P K w b f n) (L:Keyed P K) (ht:P.underlying t=some (.map K E)) {key:Value} {kl:Lit} (hkey:keyOf P K key=some kl) (ty:TypeId) :
 ∃w',(Builtin.delete_ #[t,K] ty #[.map (some b),key]).run P w=.ok (.tuple #[]) w'/\iA P K w' b (o4 f kl none) (if (f kl).isSome then n-1 else n)/\Keeps (·=b) w w':=by
 obtain⟨D,h1,h2,h3,h4⟩:=h
 obtain⟨w',hrun,hown,hg⟩:=h1.drop L ht hkey ty
 have hkl:=HY L hkey
 have hsz:Maps.size (D.del kl)=if (f kl).isSome then n-1 else n:=by
  have:=size_del (k:=kl) (h1.tidy L)
  grind
 refine⟨w',hrun,⟨D.del kl,?_,hsz,λx=>?_,λx u hx z=>?_⟩,(Keeps.refl _ _).grown hg.grown (λk hk=>.inr (by cases hk;rfl))⟩
 ·obtain⟨es,clock,hb,F,hs,rD⟩:=hown
  exact⟨es,clock,hb,F,by rw [←hsz,rD];simp [Maps.size,length_sorted],rD⟩
 ·unfold o4
  by_cases e:x=kl
  ·subst e
   rw [has_del_same]
   simp [WideAt.sameKey_self hkl]
  rw [has_del_other e,h3 x,sameKey_ne e]
  simp
 unfold o4 at hx
 by_cases e:x=kl
 ·subst e
  rw [if_pos (WideAt.sameKey_self hkl)] at hx
  cases hx
 rw [sameKey_ne e] at hx
 simp only [Bool.false_eq_true,if_false] at hx
 rw [atKey_del_other e]
 exact h4 x u hx z
end maps
end
section
open Go.RowKit
abbrev Fp:=Nat->Prop
structure cK where
 h:Fp->World->Prop
 lt:∀{F w},h F w->∀k,F k->k<w.heap.size
 st:∀{F w},h F w->∀{S:Nat->Prop} {w':World},Keeps S w w'->(∀k,F k->¬S k)->h F w'
structure Step (F:Fp) (w:World) (F':Fp) (w':World):Prop where
 keeps:Keeps F w w'
 grow:∀k,F' k->F k\/w.heap.size<=k
def Apart (F G:Fp):Prop:=∀k,F k->¬G k
theorem Step.refl (F:Fp) (w:World):Step F w F w:=⟨Keeps.refl _ _,λ_ h=>.inl h⟩
structure ade (B:Nat) (A1 A2 A3 A4:cK) (w0 w:World):Prop where
 ex:∃F1 F2 F3 F4,A1.h F1 w/\A2.h F2 w/\A3.h F3 w/\A4.h F4 w/\Apart F1 F2/\Apart F1 F3/\Apart F1 F4/\Apart F2 F3/\Apart F2 F4/\Apart F3 F4 ∧
  (∀k,F1 k->B<=k)/\(∀k,F2 k->B<=k)/\(∀k,F3 k->B<=k)/\(∀k,F4 k->B<=k)
 below:Below B w0 w
 size:B<=w.heap.size
section sep
variable {B:Nat} {A1 A2 A3 A4 A1' A2' A3' A4':cK} {w0 w w':World}
end sep
end
section
open Go.RowKit
abbrev vP (b:Nat):Value:=.pointer (some ⟨b,0,none⟩)
abbrev vI (x:Int):Value:=.int .i64 x
structure Bs where
 O:Nat->Prop
 w0:World
structure Bs.ok (β:Bs) (w:World):Prop where
 os:w.os=β.w0.os
 tape:w.tape=β.w0.tape
 output:w.output=β.w0.output
 size:β.w0.heap.size<=w.heap.size
 old:∀k,β.O k->k<β.w0.heap.size/\w.heap[k]?=β.w0.heap[k]?
theorem Bs.ok.keeps {β:Bs} {S:Nat->Prop} {w w':World} (h:β.ok w) (k:Keeps S w w') (hs:∀i,β.O i->¬S i):β.ok w':=
 ⟨k.os.trans h.os,k.tape.trans h.tape,k.output.trans h.output,Nat.le_trans h.size k.size,λi hi=>⟨(h.old i hi).1,(k.block i (Nat.lt_of_lt_of_le (h.old i hi).1 h.size) (hs i hi)).trans (h.old i hi).2⟩⟩
theorem Bs.ok.cell {β:Bs} {w:World} (h:β.ok w) {a:Addr} {v:Value} (ho:β.O a.block/\β.w0.cell? a=some v):w.cell? a=some v:=
 (World.cell?_of_block (w:=β.w0) (h.old a.block ho.1).2).trans ho.2
inductive HP
 |blk (b:Nat) (cs:List Value) (T:TypeId)
 |abs (A:cK)
def HP.h:HP->Fp->World->Prop
 |.blk b cs T,F,w=>w.heap[b]?=some (.cells ⟨cs⟩ T (0,0))/\∀k,F k↔k=b
 |.abs A,F,w=>A.h F w
theorem lt_of_some {α:Type} {xs:Array α} {i:Nat} {x:α} (h:xs[i]?=some x):i<xs.size:=by
 grind
theorem HP.lt {p:HP} {F:Fp} {w:World} (h:p.h F w) (k:Nat) (hk:F k):k<w.heap.size:=by
 cases p with
 |blk b cs T=>obtain⟨h1,h2⟩:=h;rw [(h2 k).1 hk];exact lt_of_some h1
 |abs A=>exact A.lt h k hk
theorem HP.st {p:HP} {F:Fp} {w w':World} {S:Nat->Prop} (h:p.h F w) (k:Keeps S w w') (hn:∀i,F i->¬S i):p.h F w':=by
 cases p with
 |blk b cs T=>obtain⟨h1,h2⟩:=h;exact⟨(k.block b (lt_of_some h1) (hn b ((h2 b).2 rfl))).trans h1,h2⟩
 |abs A=>exact A.st h k hn
def Sat (β:Bs) (l:List HP) (w:World):Prop:=
 β.ok w/\∃φ:Nat->Fp,(∀(i:Nat) (p:HP),l[i]?=some p->p.h (φ i) w)/\(∀i,i<l.length->∀k,φ i k->¬β.O k)/\∀i j,i<l.length->j<l.length->i≠j->Apart (φ i) (φ j)
section sat
variable {β:Bs} {l l':List HP} {w w':World} {p p':HP} {i:Nat}
theorem bT {α:Type} {xs:List α} {i:Nat} {x:α} (h:xs[i]?=some x):i<xs.length:=by
 grind
theorem jW {α:Type} {xs:List α} {i:Nat} (h:i<xs.length):∃x,xs[i]?=some x:=⟨xs[i],List.getElem?_eq_getElem h⟩
theorem Sat.quiet (h:Sat β l w) (k:Keeps (λ_=>False) w w'):Sat β l w':=by
 obtain⟨ho,φ,h1,h2,h3⟩:=h
 exact⟨ho.keeps k (λ_ _ h=>h),φ,λi p hp=>HP.st (h1 i p hp) k (λ_ _ h=>h),h2,h3⟩
theorem Sat.drewN (h:Sat β l w) (n:Nat):Sat β l (w.drewN n):=h.quiet ((Keeps.refl _ _).drewN n)
theorem Sat.get (h:Sat β l w) (hp:l[i]?=some p):∃F,p.h F w:=by
 obtain⟨_,φ,h1,_⟩:=h
 exact⟨φ i,h1 i p hp⟩
theorem Sat.set (h:Sat β l w) (hp:l[i]?=some p) (hs:∀F,p.h F w->∃F',p'.h F' w'/\Step F w F' w'):Sat β (l.set i p') w':=by
 obtain⟨ho,φ,h1,h2,h3⟩:=h
 obtain⟨F',hF',st⟩:=hs _ (h1 i p hp)
 have hi:=bT hp
 have hlt:∀j,j<l.length->∀k,φ j k->k<w.heap.size:=λj hj k hk=>by
  obtain⟨q,hq⟩:=jW hj
  exact HP.lt (h1 j q hq) k hk
 have hap:∀j,j<l.length->j≠i->∀k,F' k->φ j k->False:=λj hj hne k hk hk'=>by
  rcases st.grow k hk with e|e
  ·exact h3 i j hi hj (λe=>hne e.symm) k e hk'
  have:=hlt j hj k hk';omega
 refine⟨ho.keeps st.keeps (λk hk hk'=>h2 i hi k hk' hk),λj=>if j=i then F' else φ j,λj q hq=>?_,λj hj k hk hO=>?_,λj1 j2 sS hj2 hne k hk hk'=>?_⟩
 ·by_cases e:j=i
  ·grind
  rw [List.getElem?_set_ne (λe'=>e e'.symm)] at hq
  simp only [e,if_false]
  exact HP.st (h1 j q hq) st.keeps (λk hk hk'=>h3 i j hi (bT hq) (λe'=>e e'.symm) k hk' hk)
 ·rw [List.length_set] at hj
  by_cases e:j=i
  ·subst e
   simp only [if_true] at hk
   rcases st.grow k hk with e|e
   ·exact h2 j hi k e hO
   have:=(ho.old k hO).1;have:=ho.size;omega
  grind
 rw [List.length_set] at sS hj2
 by_cases e1:j1=i
 ·grind
 simp only [e1,if_false] at hk
 by_cases e2:j2=i
 ·grind
 simp only [e2,if_false] at hk'
 exact h3 j1 j2 sS hj2 hne k hk hk'
theorem Sat.new {F:Fp} (h:Sat β l w) (hF:p.h F w') (k:Keeps (λ_=>False) w w') (hn:∀k,F k->w.heap.size<=k):Sat β (l++[p]) w':=by
 obtain⟨ho,φ,h1,h2,h3⟩:=h
 have hlt:∀j,j<l.length->∀k,φ j k->k<w.heap.size:=λj hj k hk=>by
  obtain⟨q,hq⟩:=jW hj
  exact HP.lt (h1 j q hq) k hk
 refine⟨ho.keeps k (λ_ _ h=>h),λj=>if j=l.length then F else φ j,λj q hq=>?_,λj hj k hk hO=>?_,λj1 j2 sS hj2 hne k hk hk'=>?_⟩
 ·grind [bT,HP.st]
 ·by_cases e:j=l.length
  ·simp only [e,if_true] at hk
   have:=(ho.old k hO).1;have:=ho.size;have:=hn k hk;omega
  grind
 simp at sS hj2
 by_cases e1:j1=l.length
 ·grind
 simp only [e1,if_false] at hk
 by_cases e2:j2=l.length
 ·grind
 simp only [e2,if_false] at hk'
 exact h3 j1 j2 (by omega) (by omega) hne k hk hk'
def bh (l:List HP):List Nat->Option (List HP)
 |[]=>some []
 |i::r=>match l[i]? with
   |some p=>match bh l r with
     |some q=>some (p::q)
     |none=>none
   |none=>none
def nodupB:List Nat->Bool
 |[]=>true
 |i::r=>!(r.contains i) && nodupB r
theorem Dr:∀{idx:List Nat},nodupB idx=true->idx.Nodup
 |[],_=>List.nodup_nil
 |i::r,h=>by
   simp only [nodupB,Bool.and_eq_true,Bool.not_eq_true',List.contains_eq_mem,decide_eq_false_iff_not] at h
   exact List.nodup_cons.2 ⟨h.1,Dr h.2⟩
theorem ET:∀{idx:List Nat} {l':List HP},bh l idx=some l'->l'.length=idx.length/\∀(j:Nat) (p:HP),l'[j]?=some p->∃i:Nat,idx[j]?=some i/\l[i]?=some p
 |[],l',h=>by cases h;grind
 |i::r,l',h=>by
   unfold bh at h
   split at h
   ·rename_i q hq
    split at h
    ·rename_i q' hq'
     cases h
     obtain⟨h1,h2⟩:=ET hq'
     refine⟨by simp [h1],λj p hp=>?_⟩
     cases j with
     |zero=>simp at hp;subst hp;exact⟨i,rfl,hq⟩
     |succ j=>simpa using h2 j p (by simpa using hp)
    cases h
   cases h
theorem Sat.pick {idx:List Nat} (h:Sat β l w) (hn:nodupB idx=true) (hp:bh l idx=some l'):Sat β l' w:=by
 obtain⟨ho,φ,h1,h2,h3⟩:=h
 obtain⟨hl,hi⟩:=ET hp
 have hnd:=Dr hn
 have key:∀j,j<l'.length->idx.getD j 0<l.length:=λj hj=>by
  obtain⟨p,hp⟩:=jW hj
  grind
 refine⟨ho,λj=>φ (idx.getD j 0),λj p hp=>?_,λj hj=>h2 _ (key j hj),λj1 j2 sS hj2 hne=>h3 _ _ (key j1 sS) (key j2 hj2) (λe=>hne ?_)⟩
 ·grind
 rw [hl] at sS hj2
 rw [List.getD_eq_getElem?_getD,List.getD_eq_getElem?_getD,List.getElem?_eq_getElem sS,List.getElem?_eq_getElem hj2] at e
 have hp:=List.pairwise_iff_getElem.1 hnd
 grind
end sat
abbrev Fr:=List (Nat×Value)
def lk:Fr->(Nat->Value)->Nat->Value
 |[],j,t=>j t
 |(i,v)::r,j,t=>match Nat.beq i t with
   |true=>v
   |false=>lk r j t
structure dx where
 n:Nat
 ds:List Deferred
def cr (N:dx) (fr:Fr) (junk:Nat->Value):Act:=⟨((List.range N.n).map (lk fr junk)).toArray,N.ds⟩
def cL (N:dx) (fr:Fr) (junk:Nat->Value):Operand->Value
 |.tmp t=>match Nat.blt t N.n with
   |true=>lk fr junk t
   |false=>undef
 |.const v=>v
 |.global g=>.pointer (some ⟨g,0,none⟩)
 |.func f=>.func (.func f) #[] #[]
theorem Gt (N:dx) (fr:Fr) (junk:Nat->Value) (t:Nat):(cr N fr junk).tmps[t]?=if t<N.n then some (lk fr junk t) else none:=by
 grind [cr]
theorem fO (N:dx) (fr:Fr) (junk:Nat->Value):(cr N fr junk).eval=cL N fr junk:=by
 funext x
 cases x with
 |tmp t=>
   simp only [Act.eval,cL,Array.getD_eq_getD_getElem?,Gt]
   by_cases h:t<N.n
   ·have:Nat.blt t N.n=true:=by simpa [Nat.blt_eq] using h
    simp [h,this]
   have:Nat.blt t N.n=false:=by
    cases hb:Nat.blt t N.n
    ·rfl
    exact absurd (by simpa [Nat.blt_eq] using hb) h
   simp [h,this]
 |const v=>rfl
 |global g=>rfl
 |func f=>rfl
def cI (fr:Fr) (d:Option Tmp) (v:Value):Fr:=match d with
 |some d=>(d,v)::fr
 |none=>fr
theorem ic (i:Nat) (v:Value) (fr:Fr) (junk:Nat->Value) (t:Nat):lk ((i,v)::fr) junk t=if i=t then v else lk fr junk t:=by
 simp only [lk]
 by_cases h:i=t
 ·subst h;simp [Nat.beq_refl]
 have:Nat.beq i t=false:=by
  cases hb:Nat.beq i t
  ·rfl
  exact absurd (Nat.eq_of_beq_eq_true hb) h
 simp [h,this]
theorem eP (N:dx) (fr:Fr) (junk:Nat->Value) (d:Option Tmp) (v:Value):(cr N fr junk).put d v=cr N (cI fr d v) junk:=by
 cases d with
 |none=>rfl
 |some d=>
   unfold Act.put
   have hd:(cr N fr junk).defers=(cr N (cI fr (some d) v) junk).defers:=rfl
   have ht:(cr N fr junk).tmps.setIfInBounds d v=(cr N (cI fr (some d) v) junk).tmps:=by
    grind [Gt,cr,cI,ic]
   show Act.mk _ _=_
   rw [ht]
   rfl
def yF (ops:Array Oper) (N:dx) (fr:Fr) (junk:Nat->Value) (j:Nat):Option Bool:=
 match ops.toList[j]? with
 |some o=>match o.dst with
   |some d=>match Nat.blt d N.n with
     |true=>match lk fr junk d with
       |.bool b=>some b
       |_=>none
     |false=>none
   |none=>none
 |none=>none
theorem JH (ops:Array Oper) (N:dx) (fr:Fr) (junk:Nat->Value) (j:Nat):yielded ops (cr N fr junk).tmps j=yF ops N fr junk j:=by
 unfold yielded yF
 rw [Array.getElem?_toList]
 cases ops[j]? with
 |none=>rfl
 |some o=>
   simp only [Option.bind_some]
   cases o.dst with
   |none=>rfl
   |some d=>
     simp only [Option.bind_some,Gt]
     by_cases h:d<N.n
     ·have:Nat.blt d N.n=true:=by simpa [Nat.blt_eq] using h
      grind
     have:Nat.blt d N.n=false:=by
      cases hb:Nat.blt d N.n
      ·rfl
      exact absurd (by simpa [Nat.blt_eq] using hb) h
     simp [h,this]
def iG (fr:Fr) (junk:Nat->Value):List Nat->Fr
 |[]=>[]
 |i::r=>(i,lk fr junk i)::iG fr junk r
theorem DW (fr:Fr) (junk:Nat->Value):∀(idx:List Nat) (t:Nat),lk (iG fr junk idx) (lk fr junk) t=lk fr junk t
 |[],_=>rfl
 |i::r,t=>by
   rw [iG,ic]
   by_cases h:i=t
   ·simp [h]
   simp [h,DW fr junk r t]
theorem lq (N:dx) (fr:Fr) (junk:Nat->Value) (idx:List Nat):cr N fr junk=cr N (iG fr junk idx) (lk fr junk):=by
 unfold cr
 have:(List.range N.n).map (lk fr junk)=(List.range N.n).map (lk (iG fr junk idx) (lk fr junk)):=List.map_congr_left (λt _=>(DW fr junk idx t).symm)
 rw [this]
end
section
open Go.RowKit
inductive Hint
 |at (i:Nat)
 |old (v:Value)
 |view (i:Nat) (v:Value)
structure SS where
 hints:List Hint
 hps:List HP
 cG:List Prop
 used:Bool
def lG:List Prop->Prop
 |[]=>True
 |p::r=>p/\lG r
theorem lG.mem:∀{l:List Prop},lG l->∀{p:Prop},p∈l->p
 |[],_,_,h=>by cases h
 |_::_,h,_,hm=>by
   rcases List.mem_cons.1 hm with e|e
   ·exact e ▸ h.1
   exact h.2.mem e
def cJ (P:Program) (β:Bs) (n:Nat) (ro:Bool) {α:Type}:Sem α->SS->Option (α×SS)
 |.pure a,s=>some (a,s)
 |.load _ a k,s=>
   match s.hints with
   |.at i::hs=>
     match s.hps[i]? with
     |some (.blk b cs _)=>
       match a.spot with
       |none=>
         match cs[a.off]? with
         |some v=>cJ P β n ro (k v) {s with hints:=hs,cG:=(a.block=b)::s.cG}
         |none=>none
       |some _=>none
     |_=>none
   |.old v::hs=>cJ P β n ro (k v) {s with hints:=hs,cG:=(β.O a.block/\β.w0.cell? a=some v)::s.cG}
   |.view i v::hs=>
     match s.hps[i]? with
     |some (.abs A)=>cJ P β n ro (k v) {s with hints:=hs,cG:=(∀F w,A.h F w->w.cell? a=some v)::s.cG}
     |_=>none
   |[]=>none
 |.store _ a v k,s=>
   match ro with
   |true=>none
   |false=>
   match v with
   |.agg _=>none
   |.tuple _=>none
   |v=>
     match s.hints with
     |.at i::hs=>
       match s.hps[i]? with
       |some (.blk b cs T)=>
         match a.spot with
         |none=>
           match cs[a.off]? with
           |some _=>cJ P β n ro k {s with hints:=hs,hps:=s.hps.set i (.blk b (cs.set a.off v) T),cG:=(a.block=b)::s.cG}
           |none=>none
         |some _=>none
       |_=>none
     |_=>none
 |.new o k,s=>
   match ro,s.used,o with
   |false,false,.cells c T (0,0)=>cJ P β n ro (k n) {s with hps:=s.hps++[.blk n c.toList T],used:=true}
   |_,_,_=>none
 |.shape r k,s=>
   match s.hints with
   |.at i::hs=>
     match s.hps[i]? with
     |some (.blk b cs T)=>cJ P β n ro (k (some (T,cs.length))) {s with hints:=hs,cG:=(r=b)::s.cG}
     |_=>none
   |_=>none
 |.frozen a k,s=>
   match s.hints with
   |.at i::hs=>
     match s.hps[i]? with
     |some (.blk b _ _)=>cJ P β n ro (k false) {s with hints:=hs,cG:=(a.block=b)::s.cG}
     |_=>none
   |_=>none
 |.program k,s=>cJ P β n ro (k P) s
 |.mark _ k,s=>cJ P β n ro k s
 |.freeze ..,_=>none
 |.getObj ..,_=>none
 |.setObj ..,_=>none
 |.choose ..,_=>none
 |.sys ..,_=>none
 |.halt _,_=>none
section sound
variable {P:Program} {β:Bs} {n:Nat} {ro:Bool}
theorem qZ {α:Type}:∀(s:Sem α) (S S':SS) (x:α),cJ P β n ro s S=some (x,S')->∀p,p∈S.cG->p∈S'.cG:=by
 intro s
 induction s with
 |pure a=>intro S S' x h p hp;simp only [cJ,Option.some.injEq,Prod.mk.injEq] at h;rw [←h.2];exact hp
 |load m a k ih=>intro S S' x h p hp;simp only [cJ] at h;(repeat' split at h);all_goals first|(cases h;done)|exact ih _ _ _ _ h p (List.mem_cons_of_mem _ hp)
 |store m a v k ih=>intro S S' x h p hp;simp only [cJ] at h;(repeat' split at h);all_goals first|(cases h;done)|exact ih _ _ _ h p (List.mem_cons_of_mem _ hp)
 |new o k ih=>intro S S' x h p hp;simp only [cJ] at h;(repeat' split at h);all_goals first|(cases h;done)|exact ih _ _ _ _ h p hp
 |shape r k ih=>intro S S' x h p hp;simp only [cJ] at h;(repeat' split at h);all_goals first|(cases h;done)|exact ih _ _ _ _ h p (List.mem_cons_of_mem _ hp)
 |frozen r k ih=>intro S S' x h p hp;simp only [cJ] at h;(repeat' split at h);all_goals first|(cases h;done)|exact ih _ _ _ _ h p (List.mem_cons_of_mem _ hp)
 |program k ih=>intro S S' x h p hp;simp only [cJ] at h;exact ih _ _ _ _ h p hp
 |mark m k ih=>intro S S' x h p hp;simp only [cJ] at h;exact ih _ _ _ h p hp
 |freeze a m k ih=>intro S S' x h;simp only [cJ] at h;cases h
 |getObj r k ih=>intro S S' x h;simp only [cJ] at h;cases h
 |setObj r o k ih=>intro S S' x h;simp only [cJ] at h;cases h
 |choose q k ih=>intro S S' x h;simp only [cJ] at h;cases h
 |sys c k ih=>intro S S' x h;simp only [cJ] at h;cases h
 |halt e=>intro S S' x h;simp only [cJ] at h;cases h
theorem NM {α:Type}:∀(s:Sem α) (S S':SS) (x:α),cJ P β n true s S=some (x,S')->S'.hps=S.hps/\S'.used=S.used:=by
 intro s
 induction s with
 |pure a=>intro S S' x h;simp only [cJ,Option.some.injEq,Prod.mk.injEq] at h;rw [←h.2];exact⟨rfl,rfl⟩
 |load m a k ih=>intro S S' x h;simp only [cJ] at h;(repeat' split at h);all_goals first|(cases h;done)|(have h':=ih _ _ _ _ h;exact h')
 |store m a v k ih=>intro S S' x h;simp only [cJ] at h;cases h
 |new o k ih=>intro S S' x h;simp only [cJ] at h;(repeat' split at h);all_goals first|(cases h;done)|contradiction
 |shape r k ih=>intro S S' x h;simp only [cJ] at h;(repeat' split at h);all_goals first|(cases h;done)|(have h':=ih _ _ _ _ h;exact h')
 |frozen r k ih=>intro S S' x h;simp only [cJ] at h;(repeat' split at h);all_goals first|(cases h;done)|(have h':=ih _ _ _ _ h;exact h')
 |program k ih=>intro S S' x h;simp only [cJ] at h;(have h':=ih _ _ _ _ h;exact h')
 |mark m k ih=>intro S S' x h;simp only [cJ] at h;exact ih _ _ _ h
 |freeze a m k ih=>intro S S' x h;simp only [cJ] at h;cases h
 |getObj r k ih=>intro S S' x h;simp only [cJ] at h;cases h
 |setObj r o k ih=>intro S S' x h;simp only [cJ] at h;cases h
 |choose q k ih=>intro S S' x h;simp only [cJ] at h;cases h
 |sys c k ih=>intro S S' x h;simp only [cJ] at h;cases h
 |halt e=>intro S S' x h;simp only [cJ] at h;cases h
theorem QY {α:Type}:∀(s:Sem α) (S S':SS) (x:α),cJ P β n true s S=some (x,S')->S.hints=[]->S'.cG=S.cG:=by
 intro s
 induction s with
 |pure a=>intro S S' x h;simp only [cJ,Option.some.injEq,Prod.mk.injEq] at h;rw [←h.2];exact λ_=>rfl
 |load m a k ih=>intro S S' x h hh;simp only [cJ,hh] at h;cases h
 |store m a v k ih=>intro S S' x h;simp only [cJ] at h;cases h
 |new o k ih=>intro S S' x h;simp only [cJ] at h;(repeat' split at h);all_goals first|(cases h;done)|contradiction
 |shape r k ih=>intro S S' x h hh;simp only [cJ,hh] at h;cases h
 |frozen r k ih=>intro S S' x h hh;simp only [cJ,hh] at h;cases h
 |program k ih=>intro S S' x h;simp only [cJ] at h;exact ih _ _ _ _ h
 |mark m k ih=>intro S S' x h;simp only [cJ] at h;exact ih _ _ _ h
 |freeze a m k ih=>intro S S' x h;simp only [cJ] at h;cases h
 |getObj r k ih=>intro S S' x h;simp only [cJ] at h;cases h
 |setObj r o k ih=>intro S S' x h;simp only [cJ] at h;cases h
 |choose q k ih=>intro S S' x h;simp only [cJ] at h;cases h
 |sys c k ih=>intro S S' x h;simp only [cJ] at h;cases h
 |halt e=>intro S S' x h;simp only [cJ] at h;cases h
theorem jo {w:World} {b:Nat} {cs:List Value} {T:TypeId} {a:Addr} {v:Value} (h:w.heap[b]?=some (.cells ⟨cs⟩ T (0,0))) (hs:a.spot=none) (hb:a.block=b) (hv:cs[a.off]?=some v):w.cell? a=some v/\w.frozen? a=false:=by
 subst hb
 refine⟨?_,?_⟩
 ·simp [World.cell?,h,hs,hv]
 simp [World.frozen?,h]
theorem vS {w:World} {b:Nat} {cs:List Value} {T:TypeId} {a:Addr} {v:Value} {F:Fp} (h:(HP.blk b cs T).h F w) (hs:a.spot=none) (hb:a.block=b) :
 ∃F',(HP.blk b (cs.set a.off v) T).h F' (w.setCell a v)/\Step F w F' (w.setCell a v):=by
 obtain⟨h1,h2⟩:=h
 refine⟨F,⟨?_,h2⟩,⟨(Keeps.refl _ _).setCell (.inr ((h2 _).2 hb)) v,λ_ h=>.inl h⟩⟩
 subst hb
 simp [World.setCell,Array.getElem?_modify,h1,hs,Array.setIfInBounds_def]
 exact λh=>(List.set_eq_of_length_le h).symm
theorem Jz (w:World) (p:Addr) (v:Value):(w.setCell p v).heap.size=w.heap.size:=by simp [World.setCell]
theorem vm {α:Type}:∀(s:Sem α) (S S':SS) (x:α) (w:World),cJ P β n ro s S=some (x,S')->(∀p,p∈S'.cG->p)->Sat β S.hps w->(S.used=false->n=w.heap.size) →
 ∃w',s.run P w=.ok x w'/\Sat β S'.hps w'/\(S'.used=false->n=w'.heap.size)/\(ro=true->w'=w/\S'.hps=S.hps):=by
 intro s
 induction s with
 |pure a=>
   intro S S' x w h _ hS hn
   simp only [cJ,Option.some.injEq,Prod.mk.injEq] at h
   obtain⟨rfl,rfl⟩:=h
   exact⟨w,rfl,hS,hn,λ_=>⟨rfl,rfl⟩⟩
 |load m a k ih=>
   intro S S' x w h ho hS hn
   simp only [cJ] at h
   repeat' split at h
   all_goals first|(cases h;done)|skip
   ·rename_i hp _ hs _ v hv
    have hb:a.block=_:=ho _ (qZ _ _ _ _ h _ List.mem_cons_self)
    obtain⟨F,hF⟩:=hS.get hp
    have hc:=(jo hF.1 hs hb hv).1
    obtain⟨w',h1,h2⟩:=ih _ _ _ _ w h ho hS hn
    exact⟨w',by simp only [Sem.run,hc];exact h1,h2⟩
   ·rename_i v hs hh
    have hc:=hS.1.cell (ho _ (qZ _ _ _ _ h _ List.mem_cons_self))
    obtain⟨w',h1,h2⟩:=ih _ _ _ _ w h ho hS hn
    exact⟨w',by simp only [Sem.run,hc];exact h1,h2⟩
   rename_i A hp
   obtain⟨F,hF⟩:=hS.get hp
   have hc:=ho _ (qZ _ _ _ _ h _ List.mem_cons_self) F w hF
   obtain⟨w',h1,h2⟩:=ih _ _ _ _ w h ho hS hn
   exact⟨w',by simp only [Sem.run,hc];exact h1,h2⟩
 |store m a v k ih=>
   intro S S' x w h ho hS hn
   simp only [cJ] at h
   cases ro with
   |true=>simp at h
   |false=>
   simp only at h
   split at h
   ·cases h
   ·cases h
   rename_i hv1 hv2
   repeat' split at h
   all_goals first|(cases h;done)|skip
   rename_i hp _ hs _ u hu
   have hb:a.block=_:=ho _ (qZ _ _ _ _ h _ List.mem_cons_self)
   obtain⟨F,hF⟩:=hS.get hp
   obtain⟨hc,hf⟩:=jo hF.1 hs hb hu
   have dY:=hS.set hp (λF hF=>vS (v:=v) hF hs hb)
   obtain⟨w',h1,h2⟩:=ih _ _ _ (w.setCell a v) h ho dY (λe=>by rw [Jz];exact hn e)
   refine⟨w',?_,h2.1,h2.2.1,λe=>by cases e⟩
   rw [←h1]
   cases v<;>first|(simp only [Sem.run,hc,hf];rfl)|exact absurd rfl (hv1 _)|exact absurd rfl (hv2 _)
 |new o k ih=>
   intro S S' x w h ho hS hn
   simp only [cJ] at h
   split at h
   ·rename_i c T hu
    have hn':=hn hu
    have dY:Sat β (S.hps++[.blk n c.toList T]) (w.alloc (.cells c T (0,0))):=hS.new (F:=λk=>k=n) ⟨by rw [hn'];exact heap_alloc_new w _,λ_=>Iff.rfl⟩ ((Keeps.refl _ _).alloc _) (λk e=>by rw [e,hn'];exact Nat.le_refl _)
    obtain⟨w',h1,h2⟩:=ih _ _ _ _ (w.alloc (.cells c T (0,0))) h ho dY (λe=>by cases e)
    refine⟨w',?_,h2.1,h2.2.1,λe=>by cases e⟩
    rw [←h1,hn']
    rfl
   cases h
 |shape r k ih=>
   intro S S' x w h ho hS hn
   simp only [cJ] at h
   repeat' split at h
   all_goals first|(cases h;done)|skip
   rename_i b cs T hp
   have hb:r=b:=ho _ (qZ _ _ _ _ h _ List.mem_cons_self)
   obtain⟨F,hF⟩:=hS.get hp
   have hc:w.shape? r=some (T,cs.length):=by simp [World.shape?,hb,hF.1]
   obtain⟨w',h1,h2⟩:=ih _ _ _ _ w h ho hS hn
   exact⟨w',by simp only [Sem.run,hc];exact h1,h2⟩
 |frozen a k ih=>
   intro S S' x w h ho hS hn
   simp only [cJ] at h
   repeat' split at h
   all_goals first|(cases h;done)|skip
   rename_i b cs T hp
   have hb:a.block=b:=ho _ (qZ _ _ _ _ h _ List.mem_cons_self)
   obtain⟨F,hF⟩:=hS.get hp
   have hc:w.frozen? a=false:=by simp [World.frozen?,hb,hF.1]
   obtain⟨w',h1,h2⟩:=ih _ _ _ _ w h ho hS hn
   exact⟨w',by simp only [Sem.run,hc];exact h1,h2⟩
 |program k ih=>intro S S' x w h ho hS hn;simp only [cJ] at h;exact ih _ _ _ _ w h ho hS hn
 |mark m k ih=>intro S S' x w h ho hS hn;simp only [cJ] at h;exact ih _ _ _ w h ho hS hn
 |freeze a m k ih=>intro S S' x w h;simp only [cJ] at h;cases h
 |getObj r k ih=>intro S S' x w h;simp only [cJ] at h;cases h
 |setObj r o k ih=>intro S S' x w h;simp only [cJ] at h;cases h
 |choose q k ih=>intro S S' x w h;simp only [cJ] at h;cases h
 |sys c k ih=>intro S S' x w h;simp only [cJ] at h;cases h
 |halt e=>intro S S' x w h;simp only [cJ] at h;cases h
end sound
end
section
open Go.RowKit
structure OH where
 hs:List Hint:=[]
 num:Option Nat:=none
 abQ:Option Nat:=none
 base:Option Addr:=none
 conv:Option Value:=none
def o_:OH:=⟨[],none,none,none,none⟩
def aV (A:Option Addr):Nat:=match A with
 |some a=>a.block
 |none=>0
def aU (A:Option Addr):Nat:=match A with
 |some a=>a.off
 |none=>0
def zh (P:Program) (β:Bs) (n:Nat) (ro:Bool) (ev:Operand->Value) (o:Oper) (h:OH) (S:SS):Option (Value×SS):=
 match h.num with
 |none=>
   match cJ P β n ro (execOp ev o) {S with hints:=h.hs} with
   |some (.value v,S')=>some (v,S')
   |some (.skip,S')=>some (undef,S')
   |_=>none
 |some m=>
   match o.op with
   |.indexAddr t x ix=>
     match P.underlying t with
     |some (.slice e)=>
       match P.info? e with
       |some i=>
         match ev x with
         |.slice A len _=>
           match ev ix with
           |.int _ z=>
             match h.base with
             |some a=>some (.pointer (some ⟨a.block,a.off+m*i.size,none⟩),{S with cG:=(z=(m:Int))::(m<len)::(a.spot=none)::(A=some a)::S.cG})
             |none=>
               match A with
               |some a=>some (.pointer (some ⟨a.block,a.off+m*i.size,none⟩),{S with cG:=(z=(m:Int))::(m<len)::(a.spot=none)::S.cG})
               |none=>none
           |_=>none
         |_=>none
       |none=>none
     |_=>none
   |.index t x ix=>
     match P.underlying t with
     |some .string=>
       match ev x with
       |.string s=>
         match ev ix with
         |.int _ z=>some (.int .u8 (s.data.getD m 0).toNat,{S with cG:=(z=(m:Int))::(m<s.size)::S.cG})
         |_=>none
       |_=>none
     |_=>none
   |.slice t x lo hi mx=>
     match mx with
     |some _=>none
     |none=>
     match P.underlying t with
     |some .string=>
       match ev x with
       |.string s=>
         match lo,hi with
         |none,some hv=>
           match ev hv with
           |.int _ z=>some (.string (s.extract 0 m),{S with cG:=(z=(m:Int))::(m<=s.size)::S.cG})
           |_=>none
         |some lv,none=>
           match ev lv with
           |.int _ z=>some (.string (s.extract m s.size),{S with cG:=(z=(m:Int))::(m<=s.size)::S.cG})
           |_=>none
         |some lv,some hv=>
           match h.abQ with
           |some m2=>
             match ev lv with
             |.int _ y=>
               match ev hv with
               |.int _ z=>some (.string (s.extract m2 m),{S with cG:=(z=(m:Int))::(y=(m2:Int))::(m<=s.size)::(m2<=m)::S.cG})
               |_=>none
             |_=>none
           |none=>none
         |none,none=>none
       |_=>none
     |some (.slice e)=>
       match P.info? e with
       |some i=>
         match ev x with
         |.slice A len cap=>
           match lo,hi with
           |none,some hv=>
             match ev hv with
             |.int _ z=>some (.slice A m cap,{S with cG:=(z=(m:Int))::(m<=cap)::S.cG})
             |_=>none
           |some lv,none=>
             match ev lv with
             |.int _ z=>
               match h.base with
               |some a=>some (.slice (some ⟨a.block,a.off+m*i.size,none⟩) (len-m) (cap-m),{S with cG:=(z=(m:Int))::(m<=len)::(m<cap)::(a.spot=none)::(A=some a)::S.cG})
               |none=>
                 match A with
                 |some a=>some (.slice (some ⟨a.block,a.off+m*i.size,none⟩) (len-m) (cap-m),{S with cG:=(z=(m:Int))::(m<=len)::(m<cap)::(a.spot=none)::S.cG})
                 |none=>none
             |_=>none
           |_,_=>none
         |_=>none
       |none=>none
     |_=>none
   |_=>none
def vT (P:Program) (β:Bs) (n:Nat) (ro:Bool) (ev:Operand->Value) (o:Oper) (h:OH) (S:SS):Option (Value×SS):=
 match zh P β n ro ev o h S with
 |some (v,S')=>
   match h.conv with
   |none=>some (v,S')
   |some v'=>some (v',{S' with cG:=(v=v')::S'.cG})
 |none=>none
def pP (P:Program) (ev:Operand->Value) (o:Oper) (w:World) (v:Value) (w':World):Prop:=
 (execOp ev o).run P w=.ok (.value v) w'\/(v=undef/\(execOp ev o).run P w=.ok .skip w')
theorem pG {P:Program} {e:TypeId} {i:TypeInfo} (h:P.info? e=some i) (w:World):(sizeOf e).run P w=.ok i.size w:=by
 have h1:sizeOf e=.program λp=>(match p.info? e with|some i=>Sem.pure i|none=>stuck "no such type").bind λi=>.pure i.size:=rfl
 rw [h1]
 simp only [Sem.run,h]
 rfl
section vT
variable {P:Program} {β:Bs} {n:Nat} {ro:Bool} {ev:Operand->Value} {o:Oper} {h:OH} {S S':SS} {v:Value}
theorem QZ (hr:zh P β n ro ev o h S=some (v,S')):∀p,p∈S.cG->p∈S'.cG:=by
 intro p hp
 unfold zh at hr
 repeat' split at hr
 all_goals grind [qZ]
theorem Ds {w:World} (hr:zh P β n ro ev o h S=some (v,S')) (ho:∀p,p∈S'.cG->p) (hS:Sat β S.hps w) (hn:S.used=false->n=w.heap.size) :
 ∃w',pP P ev o w v w'/\Sat β S'.hps w'/\(S'.used=false->n=w'.heap.size)/\(ro=true->w'=w/\S'.hps=S.hps):=by
 unfold zh at hr
 repeat' split at hr
 all_goals first|(cases hr;done)|skip
 ·rename_i h0;cases hr
  obtain⟨w',h1,h2⟩:=vm _ _ _ _ w h0 ho hS hn
  exact⟨w',.inl h1,h2⟩
 ·rename_i h0;cases hr
  obtain⟨w',h1,h2⟩:=vm _ _ _ _ w h0 ho hS hn
  exact⟨w',.inr ⟨rfl,h1⟩,h2⟩
 ·rename_i m _ _ t x ix hop _ e hu _ i hi _ A len cap hx _ k z hix _ a _
  cases hr
  have e1:z=(m:Int):=ho _ (by simp)
  have e2:m<len:=ho _ (by simp)
  have e3:a.spot=none:=ho _ (by simp)
  have e4:A=some a:=ho _ (by simp)
  subst e4
  refine⟨w,.inl ?_,hS,hn,λ_=>⟨rfl,rfl⟩⟩
  have ea:a.add (m*i.size)=⟨a.block,a.off+m*i.size,none⟩:=by
   unfold Addr.add
   split
   ·rename_i h0;cases a;simp_all
   rfl
  obtain⟨dst,op,type,pos,after,guard⟩:=o
  cases hop
  subst e1
  have h1:(underlying t).run P w=.ok (.slice e) w:=run_underlying hu w
  have h2:(sizeOf e).run P w=.ok i.size w:=pG hi w
  simp [execOp,Instr.indexAt,hx,hix,go_sem,h1,h2,e2,ea]
 ·rename_i m _ _ t x ix hop _ e hu _ i hi _ len cap _ k z hix _ _ _ a hx
  cases hr
  have e1:z=(m:Int):=ho _ (by simp)
  have e2:m<len:=ho _ (by simp)
  have e3:a.spot=none:=ho _ (by simp)
  refine⟨w,.inl ?_,hS,hn,λ_=>⟨rfl,rfl⟩⟩
  have ea:a.add (m*i.size)=⟨a.block,a.off+m*i.size,none⟩:=by
   unfold Addr.add
   split
   ·rename_i h0;cases a;simp_all
   rfl
  obtain⟨dst,op,type,pos,after,guard⟩:=o
  cases hop
  subst e1
  have h1:(underlying t).run P w=.ok (.slice e) w:=run_underlying hu w
  have h2:(sizeOf e).run P w=.ok i.size w:=pG hi w
  simp [execOp,Instr.indexAt,hx,hix,go_sem,h1,h2,e2,ea]
 ·rename_i m _ _ t x ix hop _ hu _ s hx _ k z hix
  cases hr
  have e1:z=(m:Int):=ho _ (by simp)
  have e2:m<s.size:=ho _ (by simp)
  refine⟨w,.inl ?_,hS,hn,λ_=>⟨rfl,rfl⟩⟩
  obtain⟨dst,op,type,pos,after,guard⟩:=o
  cases hop
  subst e1
  have h1:(underlying t).run P w=.ok .string w:=run_underlying hu w
  simp [execOp,Instr.index,hx,hix,go_sem,h1,e2]
  rfl
 ·rename_i _ m _ _ t x mx _ hu _ s hx lo hi hv hop _ k z hz
  cases hr
  have e1:z=(m:Int):=ho _ (by simp)
  have e2:m<=s.size:=ho _ (by simp)
  refine⟨w,.inl ?_,hS,hn,λ_=>⟨rfl,rfl⟩⟩
  have h1:(underlying t).run P w=.ok .string w:=run_underlying hu w
  obtain⟨dst,op,type,pos,after,guard⟩:=o
  cases hop
  subst e1
  simp [execOp,Instr.sliceAt,Instr.slice,Instr.sliceBounds,Instr.sliceBound,asIntOf,hx,hz,go_sem,h1,e2]
 ·rename_i _ m _ _ t x mx _ hu _ s hx lo hi lv hop _ k z hz
  cases hr
  have e1:z=(m:Int):=ho _ (by simp)
  have e2:m<=s.size:=ho _ (by simp)
  refine⟨w,.inl ?_,hS,hn,λ_=>⟨rfl,rfl⟩⟩
  have h1:(underlying t).run P w=.ok .string w:=run_underlying hu w
  obtain⟨dst,op,type,pos,after,guard⟩:=o
  cases hop
  subst e1
  simp [execOp,Instr.sliceAt,Instr.slice,Instr.sliceBounds,Instr.sliceBound,asIntOf,hx,hz,go_sem,h1,e2]
 ·rename_i _ m _ _ t x mx _ hu _ s hx lo hi lv hv hop _ m2 hm2 _ k y hy _ k' z hz
  cases hr
  have e1:z=(m:Int):=ho _ (by simp)
  have e1':y=(m2:Int):=ho _ (by simp)
  have e2:m<=s.size:=ho _ (by simp)
  have e3:m2<=m:=ho _ (by simp)
  refine⟨w,.inl ?_,hS,hn,λ_=>⟨rfl,rfl⟩⟩
  have h1:(underlying t).run P w=.ok .string w:=run_underlying hu w
  obtain⟨dst,op,type,pos,after,guard⟩:=o
  cases hop
  subst e1
  subst e1'
  simp [execOp,Instr.sliceAt,Instr.slice,Instr.sliceBounds,Instr.sliceBound,asIntOf,hx,hy,hz,go_sem,h1,e2,e3]
 ·rename_i _ m _ _ t x mx _ e hu _ i hi _ A len cap hx lo hi' hv hop _ k z hz
  cases hr
  have e1:z=(m:Int):=ho _ (by simp)
  have e2:m<=cap:=ho _ (by simp)
  refine⟨w,.inl ?_,hS,hn,λ_=>⟨rfl,rfl⟩⟩
  have h1:(underlying t).run P w=.ok (.slice e) w:=run_underlying hu w
  have h2:(sizeOf e).run P w=.ok i.size w:=pG hi w
  obtain⟨dst,op,type,pos,after,guard⟩:=o
  cases hop
  subst e1
  cases A<;>simp [execOp,Instr.sliceAt,Instr.slice,Instr.sliceBounds,Instr.sliceBound,asIntOf,hx,hz,go_sem,h1,h2,e2,Addr.add]
 ·rename_i _ m _ _ t x mx _ e hu _ i hi _ A len cap hx lo hi' lv hop _ k z hz _ a _
  cases hr
  have e1:z=(m:Int):=ho _ (by simp)
  have e2:m<=len:=ho _ (by simp)
  have e3:m<cap:=ho _ (by simp)
  have e4:a.spot=none:=ho _ (by simp)
  have e6:A=some a:=ho _ (by simp)
  subst e6
  refine⟨w,.inl ?_,hS,hn,λ_=>⟨rfl,rfl⟩⟩
  have h1:(underlying t).run P w=.ok (.slice e) w:=run_underlying hu w
  have h2:(sizeOf e).run P w=.ok i.size w:=pG hi w
  have ea:a.add (m*i.size)=⟨a.block,a.off+m*i.size,none⟩:=by
   unfold Addr.add
   split
   ·rename_i h0;cases a;simp_all
   rfl
  have e5:¬cap=m:=by omega
  obtain⟨dst,op,type,pos,after,guard⟩:=o
  cases hop
  subst e1
  simp [execOp,Instr.sliceAt,Instr.slice,Instr.sliceBounds,Instr.sliceBound,asIntOf,hx,hz,go_sem,h1,h2,e2,e5,ea]
 rename_i _ m _ _ t x mx _ e hu _ i hi _ len cap lo hi' lv hop _ k z hz _ _ _ a hx
 cases hr
 have e1:z=(m:Int):=ho _ (by simp)
 have e2:m<=len:=ho _ (by simp)
 have e3:m<cap:=ho _ (by simp)
 have e4:a.spot=none:=ho _ (by simp)
 refine⟨w,.inl ?_,hS,hn,λ_=>⟨rfl,rfl⟩⟩
 have h1:(underlying t).run P w=.ok (.slice e) w:=run_underlying hu w
 have h2:(sizeOf e).run P w=.ok i.size w:=pG hi w
 have ea:a.add (m*i.size)=⟨a.block,a.off+m*i.size,none⟩:=by
  unfold Addr.add
  split
  ·rename_i h0;cases a;simp_all
  rfl
 have e5:¬cap=m:=by omega
 obtain⟨dst,op,type,pos,after,guard⟩:=o
 cases hop
 subst e1
 simp [execOp,Instr.sliceAt,Instr.slice,Instr.sliceBounds,Instr.sliceBound,asIntOf,hx,hz,go_sem,h1,h2,e2,e5,ea]
theorem DX (hr:vT P β n ro ev o h S=some (v,S')):∀p,p∈S.cG->p∈S'.cG:=by
 intro p hp
 grind [vT,QZ]
theorem mT {w:World} (hr:vT P β n ro ev o h S=some (v,S')) (ho:∀p,p∈S'.cG->p) (hS:Sat β S.hps w) (hn:S.used=false->n=w.heap.size) :
 ∃w',pP P ev o w v w'/\Sat β S'.hps w'/\(S'.used=false->n=w'.heap.size)/\(ro=true->w'=w/\S'.hps=S.hps):=by
 unfold vT at hr
 repeat' split at hr
 all_goals first|(cases hr;done)|skip
 ·grind [Ds]
 rename_i v0 S0 h0 _ v' _
 cases hr
 have e:v0=v:=ho _ List.mem_cons_self
 grind [Ds]
theorem Ui (hr:zh P β n true ev o h S=some (v,S')):S'.hps=S.hps/\S'.used=S.used:=by
 unfold zh at hr
 repeat' split at hr
 all_goals first|(cases hr;done)|skip
 ·rename_i h0;cases hr;(have h':=NM _ _ _ _ h0;exact h')
 ·rename_i h0;cases hr;(have h':=NM _ _ _ _ h0;exact h')
 all_goals (cases hr;exact⟨rfl,rfl⟩)
theorem vG (hr:vT P β n true ev o h S=some (v,S')):S'.hps=S.hps/\S'.used=S.used:=by
 grind [vT,Ui]
end vT
end
section
open Go.RowKit
def mz (P:Program) (β:Bs) (n:Nat) (ro:Bool) (N:dx) (junk:Nat->Value) (ops:Array Oper):List OH->Nat->Fr->SS->Option (Nat×Fr×SS)
 |[],k,fr,S=>some (k,fr,S)
 |h::hs,k,fr,S=>
   match ops.toList[k]? with
   |none=>none
   |some o=>
     match Region.wanted o (yF ops N fr junk) with
     |true=>
       match vT P β n ro (cL N fr junk) o h S with
       |some (v,S')=>mz P β n ro N junk ops hs (k+1) (cI fr o.dst v) S'
       |none=>none
     |false=>mz P β n ro N junk ops hs (k+1) (cI fr o.dst undef) S
def kx (P:Program) (β:Bs) (n:Nat) (ro:Bool) (N:dx) (junk:Nat->Value) (ops:Array Oper) (hs:List OH) (k:Nat) (fr:Fr) (hps:List HP) (idx pk:List Nat):Option (Nat×Fr×List HP×List Prop):=
 match mz P β n ro N junk ops hs k fr ⟨[],hps,[],ro⟩ with
 |some (k',fr',S)=>
   match nodupB pk with
   |true=>
     match bh S.hps pk with
     |some l=>some (k',iG fr' junk idx,l,S.cG)
     |none=>none
   |false=>none
 |none=>none
section runs
variable {P:Program} {β:Bs} {n:Nat} {ro:Bool} {N:dx} {junk:Nat->Value} {ops:Array Oper}
theorem uf:∀{hs:List OH} {k k':Nat} {fr fr':Fr} {S S':SS},mz P β n ro N junk ops hs k fr S=some (k',fr',S')->∀p,p∈S.cG->p∈S'.cG
 |[],k,k',fr,fr',S,S',h,p,hp=>by cases h;exact hp
 |h::hs,k,k',fr,fr',S,S',hr,p,hp=>by
   unfold mz at hr
   repeat' split at hr
   all_goals first|(cases hr;done)|skip
   ·rename_i h0;exact uf hr p (DX h0 p hp)
   exact uf hr p hp
theorem drop_cons {ops:Array Oper} {k:Nat} {o:Oper} (h:ops.toList[k]?=some o):ops.toList.drop k=o::ops.toList.drop (k+1):=by
 have hk:=bT h
 rw [List.drop_eq_getElem_cons hk]
 rw [List.getElem?_eq_getElem hk] at h
 cases h
 rfl
theorem mU {o:Oper} {a:Act} {w w':World} {v:Value} {K:Act->World->Prop} {Q:Exit->Act->World->Prop} (h:pP P a.eval o w v w') (hk:K (a.put o.dst v) w'):o.wp P a w K Q:=by
 unfold Oper.wp
 rcases h with h|⟨rfl,h⟩
 ·rw [h];exact hk
 rw [h];exact hk
theorem x9 {Q:Exit->Act->World->Prop}:∀{hs:List OH} {k k':Nat} {fr fr':Fr} {S S':SS} {w:World},mz P β n ro N junk ops hs k fr S=some (k',fr',S')->(∀p,p∈S'.cG->p)->Sat β S.hps w->(S.used=false->n=w.heap.size) →
 (∀w',Sat β S'.hps w'->wpList P ops Q (ops.toList.drop k') (cr N fr' junk) w')->wpList P ops Q (ops.toList.drop k) (cr N fr junk) w
 |[],k,k',fr,fr',S,S',w,h,ho,hS,hn,hK=>by cases h;exact hK w hS
 |h::hs,k,k',fr,fr',S,S',w,hr,ho,hS,hn,hK=>by
   unfold mz at hr
   split at hr
   ·cases hr
   rename_i o hget
   rw [drop_cons hget]
   unfold wpList
   have hw:Region.wanted o (yielded ops (cr N fr junk).tmps)=Region.wanted o (yF ops N fr junk):=by
    have:yielded ops (cr N fr junk).tmps=yF ops N fr junk:=funext (JH ops N fr junk)
    rw [this]
   rw [hw]
   split at hr
   ·rename_i Q0
    rw [if_pos Q0]
    split at hr
    ·rename_i v S1 h0
     obtain⟨w',h1,h2,h3,_⟩:=mT h0 (λp hp=>ho p (uf hr p hp)) hS hn
     refine .inl (mU (v:=v) (w':=w') (by rw [fO];exact h1) ?_)
     rw [eP]
     exact x9 hr ho h2 h3 hK
    cases hr
   rename_i hwf
   rw [if_neg (by simp [hwf])]
   rw [eP]
   exact x9 hr ho hS hn hK
theorem yc {Q:Act->Prop}:∀{hs:List OH} {k k':Nat} {fr fr':Fr} {S S':SS},mz P β n true N junk ops hs k fr S=some (k',fr',S')->(∀p,p∈S'.cG->p)->S.used=true →
 (S'.hps=S.hps->wpQuiet P ops (Sat β S.hps) Q (ops.toList.drop k') (cr N fr' junk))->wpQuiet P ops (Sat β S.hps) Q (ops.toList.drop k) (cr N fr junk)
 |[],k,k',fr,fr',S,S',h,ho,hu,hK=>by cases h;exact hK rfl
 |h::hs,k,k',fr,fr',S,S',hr,ho,hu,hK=>by
   unfold mz at hr
   split at hr
   ·cases hr
   rename_i o hget
   rw [drop_cons hget]
   unfold wpQuiet
   have hw:Region.wanted o (yielded ops (cr N fr junk).tmps)=Region.wanted o (yF ops N fr junk):=by
    have:yielded ops (cr N fr junk).tmps=yF ops N fr junk:=funext (JH ops N fr junk)
    rw [this]
   rw [hw]
   split at hr
   ·rename_i Q0
    rw [if_pos Q0]
    split at hr
    ·rename_i v S1 h0
     obtain⟨e1,e2⟩:=vG h0
     refine⟨v,λw hS=>?_,?_⟩
     ·obtain⟨w',h1,h2,h3,h4⟩:=mT h0 (λp hp=>ho p (uf hr p hp)) hS (λe=>by rw [hu] at e;cases e)
      obtain⟨rfl,e⟩:=h4 rfl
      unfold Oper.quietAt
      rw [fO]
      rcases h1 with h1|⟨h1,h1'⟩
      ·rw [h1];exact⟨rfl,rfl⟩
      rw [h1'];exact⟨rfl,h1⟩
     rw [eP,←e1]
     exact yc hr ho (e2.trans hu) (λe=>by rw [e1];exact hK (e.trans e1))
    cases hr
   rename_i hwf
   rw [if_neg (by simp [hwf])]
   rw [eP]
   exact yc hr ho hu hK
end runs
end
section
open Go.RowKit
abbrev Post:=Exit->Act->World->Prop
def ai (P:Program) (β:Bs) (N:dx) (ops:Array Oper) (k:Nat) (fr:Fr) (hps:List HP) (Q:Post):Prop:=
 ∀junk w,Sat β hps w->wpList P ops Q (ops.toList.drop k) (cr N fr junk) w
def aQ (P:Program) (β:Bs) (N:dx) (ops:Array Oper) (k:Nat) (fr:Fr) (hps:List HP) (Q:Post):Prop:=
 ∀junk,wpQuiet P ops (Sat β hps) (λa'=>∀w',Sat β hps w'->Q .normal a' w') (ops.toList.drop k) (cr N fr junk)
def ah (P:Program) (β:Bs) (N:dx) (c:Code) (fr:Fr) (hps:List HP) (Q:Post):Prop:=
 ∀junk w,Sat β hps w->c.wp P Q (cr N fr junk) w
def aj (β:Bs) (N:dx) (Q:Post) (e:Exit) (fr:Fr) (hps:List HP):Prop:=
 ∀junk w,Sat β hps w->Q e (cr N fr junk) w
section rules
variable {P:Program} {β:Bs} {N:dx} {ops:Array Oper} {k k':Nat} {fr fr':Fr} {hps dS:List HP} {Q:Post} {cG:List Prop} {c x y:Code} {e:Exit}
theorem DY {n:Nat} {ro:Bool} {junk:Nat->Value} {hs:List OH} {idx pk:List Nat} (h:kx P β n ro N junk ops hs k fr hps idx pk=some (k',fr',dS,cG)) :
 ∃o5 S,mz P β n ro N junk ops hs k fr ⟨[],hps,[],ro⟩=some (k',o5,S)/\nodupB pk=true/\bh S.hps pk=some dS/\fr'=iG o5 junk idx/\S.cG=cG:=by
 grind [kx]
theorem ai.nil (h:ops.toList.drop k=[]) (K:aj β N Q .normal fr hps):ai P β N ops k fr hps Q:=by
 intro junk w hS
 rw [h]
 exact K junk w hS
theorem aQ.nil (h:ops.toList.drop k=[]) (K:aj β N Q .normal fr hps):aQ P β N ops k fr hps Q:=by
 intro junk
 rw [h]
 exact λw' dY=>K junk w' dY
theorem ai.tell {p:Prop} (h:∀w,Sat β hps w->p) (K:p->ai P β N ops k fr hps Q):ai P β N ops k fr hps Q:=λjunk w hS=>K (h w hS) junk w hS
theorem ai.mem (h:∀w,Sat β hps w->Sat β dS w) (K:ai P β N ops k fr dS Q):ai P β N ops k fr hps Q:=λjunk w hS=>K junk w (h w hS)
theorem ah.mem (h:∀w,Sat β hps w->Sat β dS w) (K:ah P β N c fr dS Q):ah P β N c fr hps Q:=λjunk w hS=>K junk w (h w hS)
theorem aj.mem (h:∀w,Sat β hps w->Sat β dS w) (K:aj β N Q e fr dS):aj β N Q e fr hps:=λjunk w hS=>K junk w (h w hS)
theorem ah.seq (h:ah P β N x fr hps (Exit.then (y.wp P Q) Q)):ah P β N (.seq x y) fr hps Q:=λjunk w hS=>wp_seq (h junk w hS)
theorem aj.next (h:ah P β N y fr hps Q):aj β N (Exit.then (y.wp P Q) Q) .normal fr hps:=λjunk w hS=>h junk w hS
theorem aj.lV {K:Act->World->Prop} {id:Nat} (h:aj β N Q (.exit id) fr hps):aj β N (Exit.then K Q) (.exit id) fr hps:=λjunk w hS=>h junk w hS
theorem aj.aG {K:Act->World->Prop} (h:aj β N Q .ret fr hps):aj β N (Exit.then K Q) .ret fr hps:=λjunk w hS=>h junk w hS
theorem ah.block {id:Nat} (h:ah P β N c fr hps (Exit.inBlock id Q)):ah P β N (.block id c) fr hps Q:=λjunk w hS=>wp_block (h junk w hS)
theorem aj.kJ {id:Nat} (h:aj β N Q .normal fr hps):aj β N (Exit.inBlock id Q) .normal fr hps:=λjunk w hS=>h junk w hS
theorem aj.dm {id:Nat} (h:aj β N Q .ret fr hps):aj β N (Exit.inBlock id Q) .ret fr hps:=λjunk w hS=>h junk w hS
theorem aj.s5 {id:Nat} (h:aj β N Q .normal fr hps):aj β N (Exit.inBlock id Q) (.exit id) fr hps:=λjunk w hS=>by
 show (if id=id then Q .normal _ _ else _)
 rw [if_pos rfl]
 exact h junk w hS
theorem aj.Q5 {id id':Nat} (hne:id'≠id) (h:aj β N Q (.exit id') fr hps):aj β N (Exit.inBlock id Q) (.exit id') fr hps:=λjunk w hS=>by
 show (if id'=id then Q .normal _ _ else Q (.exit id') _ _)
 rw [if_neg hne]
 exact h junk w hS
theorem ah.skip (h:aj β N Q .normal fr hps):ah P β N .skip fr hps Q:=λjunk w hS=>wp_skip (h junk w hS)
theorem ah.exit {id:Nat} (h:aj β N Q (.exit id) fr hps):ah P β N (.exit id) fr hps Q:=λjunk w hS=>wp_exit (h junk w hS)
theorem ah.ret (h:aj β N Q .ret fr hps):ah P β N .ret fr hps Q:=λjunk w hS=>wp_ret (h junk w hS)
theorem ah.cond {o:Operand} {b:Bool} (h:∀junk,cL N fr junk o=.bool b) (ht:b=true->ah P β N x fr hps Q) (hf:b=false->ah P β N y fr hps Q):ah P β N (.cond o x y) fr hps Q:=
 λjunk w hS=>wp_cond_split (by rw [fO];exact h junk) (λe=>ht e junk w hS) (λe=>hf e junk w hS)
theorem ah.aa2 {o:Operand} (h:∀junk,cL N fr junk o=.bool true) (ht:ah P β N x fr hps Q):ah P β N (.cond o x y) fr hps Q:=ah.cond h (λ_=>ht) (λe=>by cases e)
theorem ah.aa3 {o:Operand} (h:∀junk,cL N fr junk o=.bool false) (hf:ah P β N y fr hps Q):ah P β N (.cond o x y) fr hps Q:=ah.cond h (λe=>by cases e) (λ_=>hf)
theorem ah.aa4 {o:Operand} {p:Prop} [Decidable p] (h:∀junk,cL N fr junk o=.bool (decide p)) (ht:p->ah P β N x fr hps Q) (hf:¬p->ah P β N y fr hps Q):ah P β N (.cond o x y) fr hps Q:=
 ah.cond h (λe=>ht (of_decide_eq_true e)) (λe=>hf (of_decide_eq_false e))
theorem ah.region {id:Nat} (h:ai P β N ops 0 fr hps Q):ah P β N (.region id ops false) fr hps Q:=λjunk w hS=>wp_region_list (h junk w hS)
theorem ah.CB {id:Nat} (hm:P.follows .mixedOrders=true) (hB:Region.lexB .any ops=true) (h:aQ P β N ops 0 fr hps Q):ah P β N (.region id ops true) fr hps Q:=
 λjunk _ hS=>wp_region_quiet hm hB (hS.drewN 1) (h junk)
def Uj (β:Bs) (N:dx) {ι:Type} (Inv:ι->Prop) (fr:ι->Fr) (hp:ι->List HP):Act->World->Prop:=λa w=>∃i,Inv i/\∃junk,a=cr N (fr i) junk/\Sat β (hp i) w
theorem ah.join {ι:Type} (Inv:ι->Prop) (fr':ι->Fr) (hp':ι->List HP) (hr:∀i,Inv i->ah P β N y (fr' i) (hp' i) Q) (hf:ah P β N x fr hps (Exit.then (Uj β N Inv fr' hp') Q)):ah P β N (.seq x y) fr hps Q:=
 λjunk w hS=>wp_seq (Code.wp_mono (λe a w q=>by
  cases e with
  |normal=>
    obtain⟨i,hi,junk,rfl,hS⟩:=q
    exact hr i hi junk w hS
  |exit id=>exact q
  |goto l=>exact q
  |ret=>exact q
  |panic ch=>exact q
  |outgrown=>exact q) (hf junk w hS))
theorem aj.meet {ι:Type} {Inv:ι->Prop} {fr':ι->Fr} {hp':ι->List HP} (i:ι) {idx pk:List Nat} (hi:Inv i) (hf:∀junk,iG fr junk idx=fr' i) (hn:nodupB pk=true) (hp:bh hps pk=some (hp' i)) :
 aj β N (Exit.then (Uj β N Inv fr' hp') Q) .normal fr hps:=λjunk w hS=>⟨i,hi,lk fr junk,by rw [lq N fr junk idx,hf junk],hS.pick hn hp⟩
def Turn (β:Bs) (N:dx) {ι:Type} (Inv:ι->Prop) (μ:ι->Nat) (fr:ι->Fr) (hp:ι->List HP) (m:Nat):Act->World->Prop:=λa w=>∃i,Inv i/\μ i<m/\∃junk,a=cr N (fr i) junk/\Sat β (hp i) w
theorem ah.loop {ι:Type} (Inv:ι->Prop) (μ:ι->Nat) (fr':ι->Fr) (hp':ι->List HP) (i0:ι) {idx pk:List Nat} (h0:Inv i0) (hf:∀junk,iG fr junk idx=fr' i0) (hn:nodupB pk=true) (hp:bh hps pk=some (hp' i0))
 (round:∀i,Inv i->ah P β N c (fr' i) (hp' i) (Exit.then (Turn β N Inv μ fr' hp' (μ i)) Q)):ah P β N (.loop c) fr hps Q:=by
 intro junk w hS
 refine wp_loop_ghost (λn a w=>∃i,Inv i/\μ i=n/\∃junk,a=cr N (fr' i) junk/\Sat β (hp' i) w) (μ i0) ⟨i0,h0,rfl,lk fr junk,by rw [lq N fr junk idx,hf junk],hS.pick hn hp⟩ ?_
 rintro n a w ⟨i,hi,rfl,junk,rfl,hS⟩
 refine Code.wp_mono (λe a w q=>?_) (round i hi junk w hS)
 cases e with
 |normal=>
   obtain⟨i',hi',hlt,jr,e,dY⟩:=q
   exact⟨μ i',hlt,i',hi',rfl,jr,e,dY⟩
 |exit id=>exact q
 |goto l=>exact q
 |ret=>exact q
 |panic ch=>exact q
 |outgrown=>exact q
theorem aj.turn {ι:Type} {Inv:ι->Prop} {μ:ι->Nat} {fr':ι->Fr} {hp':ι->List HP} {m:Nat} (i:ι) {idx pk:List Nat} (hi:Inv i) (hm:μ i<m) (hf:∀junk,iG fr junk idx=fr' i) (hn:nodupB pk=true) (hp:bh hps pk=some (hp' i)) :
 aj β N (Exit.then (Turn β N Inv μ fr' hp' m) Q) .normal fr hps:=λjunk w hS=>⟨i,hi,hm,lk fr junk,by rw [lq N fr junk idx,hf junk],hS.pick hn hp⟩
end rules
def mH (R:List HP):cK where
 h F w:=∃φ:Nat->Fp,(∀(i:Nat) (p:HP),R[i]?=some p->p.h (φ i) w)/\(∀i j,i<R.length->j<R.length->i≠j->Apart (φ i) (φ j))/\∀k,F k↔∃i,i<R.length/\φ i k
 lt:=by
  rintro F w ⟨φ,h1,h2,h3⟩ k hk
  obtain⟨i,hi,hk⟩:=(h3 k).1 hk
  obtain⟨p,hp⟩:=jW hi
  exact HP.lt (h1 i p hp) k hk
 st:=by
  rintro F w ⟨φ,h1,h2,h3⟩ S w' hk hn
  exact⟨φ,λi p hp=>HP.st (h1 i p hp) hk (λk h=>hn k ((h3 k).2 ⟨i,bT hp,h⟩)),h2,h3⟩
section contracts
variable {P:Program} {β:Bs} {l R:List HP} {w:World}
theorem Sat.mH (h:Sat β (l++R) w):Sat β (l++[.abs (mH R)]) w:=by
 obtain⟨ho,φ,h1,h2,h3⟩:=h
 have hl:(l++R).length=l.length+R.length:=List.length_append
 refine⟨ho,λi=>if i<l.length then φ i else λk=>∃j,j<R.length/\φ (l.length+j) k,λi p hp=>?_,λi hi k hk hO=>?_,λi j hi hj hne k hk hk'=>?_⟩
 ·by_cases e:i<l.length
  ·grind
  have hi:i=l.length:=by have:=bT hp;simp at this;omega
  subst hi
  simp at hp
  subst hp
  simp only [Nat.lt_irrefl,if_false]
  exact⟨λj=>φ (l.length+j),λj p hp=>h1 _ p (by grind),λi j hi hj hne=>h3 _ _ (by omega) (by omega) (by omega),λk=>Iff.rfl⟩
 ·by_cases e:i<l.length
  ·grind
  simp only [e,if_false] at hk
  grind
 simp at hi hj
 by_cases e1:i<l.length
 ·simp only [e1,if_true] at hk
  by_cases e2:j<l.length
  ·simp only [e2,if_true] at hk'
   exact h3 i j (by omega) (by omega) hne k hk hk'
  simp only [e2,if_false] at hk'
  obtain⟨t,ht,hk'⟩:=hk'
  exact h3 i (l.length+t) (by omega) (by omega) (by omega) k hk hk'
 simp only [e1,if_false] at hk
 obtain⟨t,ht,hk⟩:=hk
 by_cases e2:j<l.length
 ·simp only [e2,if_true] at hk'
  exact h3 j (l.length+t) (by omega) (by omega) (by omega) k hk' hk
 omega
theorem Sat.Bc (h:Sat β (l++[.abs (Go.Proofs.YtnipofpbcggjcaaGreatDoor.mH R)]) w):Sat β (l++R) w:=by
 obtain⟨ho,φ,h1,h2,h3⟩:=h
 have hl:(l++R).length=l.length+R.length:=List.length_append
 have hl':(l++[HP.abs (Go.Proofs.YtnipofpbcggjcaaGreatDoor.mH R)]).length=l.length+1:=by simp
 obtain⟨ψ,q1,q2,q3⟩:=h1 l.length (.abs (Go.Proofs.YtnipofpbcggjcaaGreatDoor.mH R)) (by simp)
 have hsub:∀i,l.length<=i->i<l.length+R.length->∀k,ψ (i-l.length) k->φ l.length k:=by grind
 refine⟨ho,λi=>if i<l.length then φ i else ψ (i-l.length),λi p hp=>?_,λi hi k hk hO=>?_,λi j hi hj hne k hk hk'=>?_⟩
 ·grind
 ·grind
 by_cases e1:i<l.length
 ·simp only [e1,if_true] at hk
  by_cases e2:j<l.length
  ·simp only [e2,if_true] at hk'
   exact h3 i j (by omega) (by omega) hne k hk hk'
  simp only [e2,if_false] at hk'
  exact h3 i l.length (by omega) (by omega) (by omega) k hk (hsub j (by omega) (by omega) k hk')
 simp only [e1,if_false] at hk
 by_cases e2:j<l.length
 ·simp only [e2,if_true] at hk'
  exact h3 j l.length (by omega) (by omega) (by omega) k hk' (hsub i (by omega) (by omega) k hk)
 simp only [e2,if_false] at hk'
 exact q2 (i-l.length) (j-l.length) (by omega) (by omega) (by omega) k hk hk'
def Spec (P:Program) (β:Bs) (f:FuncId) (args:Array Value) (pre:List HP) (post:Value->List HP->Prop):Prop:=
 ∀(R:cK) w,Sat β (pre++[.abs R]) w->Calls P f args w λe w'=>∃v l,e=.returned v/\post v l/\Sat β (l++[.abs R]) w'
theorem Spec.use {f:FuncId} {args:Array Value} {pre:List HP} {post:Value->List HP->Prop} (h:Spec P β f args pre post) (hS:Sat β (pre++R) w) :
 Calls P f args w λe w'=>∃v l,e=.returned v/\post v l/\Sat β (l++R) w':=
 (h _ w hS.mH).mono λ_ _ ⟨v,l,h1,h2,h3⟩=>⟨v,l,h1,h2,h3.Bc⟩
theorem Spec.mono {f:FuncId} {args:Array Value} {pre:List HP} {post post':Value->List HP->Prop} (h:Spec P β f args pre post) (hp:∀v l,post v l->post' v l):Spec P β f args pre post':=
 λR w hS=>(h R w hS).mono λ_ _ ⟨v,l,h1,h2,h3⟩=>⟨v,l,h1,hp v l h2,h3⟩
end contracts
end
section
open Go.RowKit
def nY (P:Program) (β:Bs) (N:dx) (junk:Nat->Value) (ops:Array Oper) (fr:Fr) (k:Nat):Option (FuncId×Array Value×Option Tmp):=
 match ops.toList[k]? with
 |some o=>
   match Region.wanted o (yF ops N fr junk) with
   |true=>
     match cJ P β 0 true (execOp (cL N fr junk) o) ⟨[],[],[],true⟩ with
     |some (.enter f args,_)=>some (f,args,o.dst)
     |_=>none
   |false=>none
 |none=>none
section calls
variable {P:Program} {β:Bs} {N:dx} {ops:Array Oper} {k:Nat} {fr:Fr} {hps R:List HP} {Q:Post} {f:FuncId} {args:Array Value} {d:Option Tmp}
theorem Sat.nil {l:List HP} {w:World} (h:Sat β l w):Sat β [] w:=⟨h.1,λ_ _=>False,λi p hp=>by simp at hp,λi hi=>by simp at hi,λi j hi=>by simp at hi⟩
theorem ye {junk:Nat->Value} (h:nY P β N junk ops fr k=some (f,args,d)):∃o,ops.toList[k]?=some o/\Region.wanted o (yF ops N fr junk)=true/\o.dst=d ∧
 ∀w,Sat β [] w->(execOp (cL N fr junk) o).run P w=.ok (.enter f args) w:=by
 unfold nY at h
 repeat' split at h
 all_goals first|(cases h;done)|skip
 rename_i o h1 _ h2 _ f' args' S' h3
 cases h
 refine⟨o,h1,h2,rfl,λw hS=>?_⟩
 have hob:=QY _ _ _ _ h3 rfl
 obtain⟨w',h4,_,_,h5⟩:=vm _ _ _ _ w h3 (λp hp=>by rw [hob] at hp;cases hp) hS (λe=>by cases e)
 rw [h4,(h5 rfl).1]
theorem fq (o:Oper) (junk:Nat->Value):Region.wanted o (yielded ops (cr N fr junk).tmps)=Region.wanted o (yF ops N fr junk):=by
 have:yielded ops (cr N fr junk).tmps=yF ops N fr junk:=funext (JH ops N fr junk)
 rw [this]
theorem ai.call {pre:List HP} {post:Value->List HP->Prop} {pk:List Nat} (hc:∀junk,nY P β N junk ops fr k=some (f,args,d)) (hs:Spec P β f args pre post) (hn:nodupB pk=true) (hp:bh hps pk=some (pre++R))
 (K:∀v l,post v l->ai P β N ops (k+1) (cI fr d v) (l++R) Q):ai P β N ops k fr hps Q:=by
 intro junk w hS
 obtain⟨o,h1,h2,rfl,h3⟩:=ye (hc junk)
 rw [drop_cons h1]
 unfold wpList
 rw [fq,if_pos h2]
 refine .inl ?_
 unfold Oper.wp
 rw [fO,h3 w hS.nil,Oper.upon_enter]
 refine (hs.use (hS.pick hn hp)).mono ?_
 grind [cr,eP,nY,Spec,nodupB,bh,ai,cI]
theorem aQ.call {pre:List HP} {post:Value->List HP->Prop} {pk Q6:List Nat} {v0:Value} (hc:∀junk,nY P β N junk ops fr k=some (f,args,d)) (hs:Spec P β f args pre post) (hn:nodupB pk=true) (hp:bh hps pk=some (pre++R))
 (hn':nodupB Q6=true) (hp':bh (pre++R) Q6=some hps) (hv:∀v l,post v l->v=v0/\l=pre)
 (K:aQ P β N ops (k+1) (cI fr d v0) hps Q):aQ P β N ops k fr hps Q:=by
 intro junk
 obtain⟨o,h1,h2,rfl,h3⟩:=ye (hc junk)
 rw [drop_cons h1]
 unfold wpQuiet
 rw [fq,if_pos h2]
 refine⟨v0,λw hS=>?_,?_⟩
 ·unfold Oper.quietAt
  rw [fO,h3 w hS.nil]
  refine⟨rfl,(hs.use (hS.pick hn hp)).mono ?_⟩
  rintro e w' ⟨v,l,rfl,hpost,dY⟩
  obtain⟨rfl,rfl⟩:=hv v l hpost
  exact⟨rfl,dY.pick hn' hp'⟩
 rw [eP]
 exact K junk
end calls
def zi:Nat->List Value->Fr
 |_,[]=>[]
 |k,x::r=>(k,x)::zi (k+1) r
theorem NR (junk:Nat->Value):∀(l:List Value) (k t:Nat),lk (zi k l) junk t=if k<=t/\t<k+l.length then l.getD (t-k) undef else junk t
 |[],k,t=>by simp [zi,lk];intros;omega
 |x::r,k,t=>by
   rw [zi,ic,NR junk r (k+1) t]
   by_cases h:k=t
   ·subst h;simp
   by_cases h2:k+1<=t/\t<k+1+r.length
   ·have e:t-k=(t-(k+1))+1:=by omega
    simp only [h,if_false,h2,and_self,if_true]
    rw [if_pos (by simp;omega),e]
    simp
   rw [if_neg h,if_neg h2,if_neg (by simp;omega)]
theorem HZ {N:Nat} {args:Array Value} (h:args.toList.length<=N):(⟨args++Array.replicate (N-args.size) undef,[]⟩:Act)=cr ⟨N,[]⟩ (zi 0 args.toList) (λ_=>undef):=by
 unfold cr
 congr 1
 grind [NR]
def vU (β:Bs) (R:cK) (post:Value->List HP->Prop):Ending->World->Prop:=λe w'=>∃v l,e=.returned v/\post v l/\Sat β (l++[.abs R]) w'
section ends
variable {P:Program} {β:Bs} {N:dx} {n0:Nat} {fr:Fr} {hps l:List HP} {f:FuncId} {args:Array Value} {pre:List HP} {post:Value->List HP->Prop} {fn:Func} {c:Code} {v:Value} {cG:List Prop}
theorem Spec.enter (hf:P.funcs[f]?=some fn) (hb:fn.body=some c) (hN:fn.ntmps=n0) (hl:args.toList.length<=n0) (h:∀R:cK,ah P β ⟨n0,[]⟩ c (zi 0 args.toList) (pre++[.abs R]) (bodyPost P fn (vU β R post))):Spec P β f args pre post:=by
 intro R w hS
 refine calls_of_wp hf hb ?_
 rw [hN,HZ hl]
 exact h R _ w hS
def pQ (P:Program) (β:Bs) (N:dx) (junk:Nat->Value) (fn:Func) (fr:Fr) (hps:List HP) (hints:List Hint):Option (Value×List Prop):=
 match cJ P β 0 true (results fn (cr N fr junk).tmps) ⟨hints,hps,[],true⟩ with
 |some (v,S)=>some (v,S.cG)
 |none=>none
theorem vn {junk:Nat->Value} {hints:List Hint} {w:World} (h:pQ P β N junk fn fr hps hints=some (v,cG)) (ho:lG cG) (hS:Sat β hps w):(results fn (cr N fr junk).tmps).run P w=.ok v w:=by
 unfold pQ at h
 split at h
 ·rename_i v' S h0
  cases h
  obtain⟨w',h1,_,_,h2⟩:=vm _ _ _ _ w h0 (λp hp=>ho.mem hp) hS (λe=>by cases e)
  rw [h1,(h2 rfl).1]
 cases h
theorem aj.ret {R:cK} (hints:List Hint) (pk:List Nat) (hr:∀junk,pQ P β ⟨n0,[]⟩ junk fn fr hps hints=some (v,cG)) (ho:lG cG) (hn:nodupB pk=true) (hp:bh hps pk=some (l++[.abs R])) (hpost:post v l) :
 aj β ⟨n0,[]⟩ (bodyPost P fn (vU β R post)) .ret fr hps:=
 λjunk _ hS=>⟨rfl,v,vn (hr junk) ho hS,v,l,rfl,hpost,hS.pick hn hp⟩
theorem aj.fin {R:cK} (hints:List Hint) (pk:List Nat) (hr:∀junk,pQ P β ⟨n0,[]⟩ junk fn fr hps hints=some (v,cG)) (ho:lG cG) (hn:nodupB pk=true) (hp:bh hps pk=some (l++[.abs R])) (hpost:post v l) :
 aj β ⟨n0,[]⟩ (bodyPost P fn (vU β R post)) .normal fr hps:=
 λjunk _ hS=>⟨rfl,v,vn (hr junk) ho hS,v,l,rfl,hpost,hS.pick hn hp⟩
theorem Spec.of1 {A:cK} (h:∀F w,A.h F w->Calls P f args w λe w'=>∃v p,e=.returned v/\post v [p]/\∃F',p.h F' w'/\Step F w F' w'):Spec P β f args [.abs A] post:=by
 intro R w hS
 obtain⟨F,hF⟩:=hS.get (i:=0) rfl
 have hS0:=hS
 obtain⟨ho,φ,h1,h2,h3⟩:=hS
 refine (h (φ 0) w (h1 0 _ rfl)).mono ?_
 rintro e w' ⟨v,p,rfl,hp,F',hF',st⟩
 refine⟨v,[p],rfl,hp,?_⟩
 have ho':=ho
 have h4:∀k,φ 1 k->k<w.heap.size:=λk hk=>HP.lt (h1 1 (.abs R) rfl) k hk
 refine⟨ho.keeps st.keeps (λk hk hk'=>h2 0 (by simp) k hk' hk),λi=>if i=0 then F' else φ 1,λi q hq=>?_,λi hi k hk hO=>?_,λi j hi hj hne k hk hk'=>?_⟩
 ·match i,hq with
  |0,hq=>cases hq;exact hF'
  |1,hq=>
    cases hq
    exact HP.st (h1 1 (.abs R) rfl) st.keeps (λk hk hk'=>h3 0 1 (by simp) (by simp) (by simp) k hk' hk)
 ·by_cases e:i=0
  ·simp only [e,if_true] at hk
   rcases st.grow k hk with e|e
   ·exact h2 0 (by simp) k e hO
   have:=(ho.old k hO).1;have:=ho.size;omega
  grind
 simp at hi hj
 have key:∀k,F' k->φ 1 k->False:=λk hk hk'=>by
  rcases st.grow k hk with e|e
  ·exact h3 0 1 (by simp) (by simp) (by simp) k e hk'
  have:=h4 k hk';omega
 grind
theorem Spec.J0 (h:∀w,β.ok w->Calls P f args w λe w'=>∃v p,e=.returned v/\post v [p]/\Keeps (λ_=>False) w w'/\∃F,p.h F w'/\∀k,F k->w.heap.size<=k):Spec P β f args [] post:=by
 intro R w hS
 refine (h w hS.1).mono ?_
 rintro e w' ⟨v,p,rfl,hp,hk,F,hF,hn⟩
 exact⟨v,[p],rfl,hp,(Sat.new hS hF hk hn).pick (idx:=[1,0]) rfl rfl⟩
def YP:cK where
 h F _:=∀k,¬F k
 lt h k hk:=(h k hk).elim
 st h _ _ _ _:=h
theorem Spec.top {W:World} (h:Spec P ⟨(· < W.heap.size),W⟩ f args [] post):Calls P f args W λe w'=>(∃v l,e=.returned v/\post v l)/\Below W.heap.size W w':=by
 have hS:Sat ⟨(· < W.heap.size),W⟩ ([]++[.abs YP]) W:=by
  refine⟨⟨rfl,rfl,rfl,Nat.le_refl _,λk hk=>⟨hk,rfl⟩⟩,λ_ _=>False,λi p hp=>?_,λi _ k hk=>hk.elim,λi j _ _ _ k hk=>hk.elim⟩
  match i,hp with
  |0,hp=>cases hp;exact λ_ h=>h
 refine (h YP W hS).mono ?_
 rintro e w' ⟨v,l,he,hp,dY⟩
 have ho:=dY.1
 exact⟨⟨v,l,he,hp⟩,ho.os,ho.tape,ho.output,ho.size,λk hk=>(ho.old k hk).2⟩
end ends
end
section
open Go.RowKit
section slots
variable {P:Program} {β:Bs} {N:dx} {ops:Array Oper} {k:Nat} {fr:Fr} {hps:List HP} {Q:Post} {c x y:Code} {e:Exit} {i:Nat} {v v':Value} {b:Bool}
theorem DZ {junk:Nat->Value} (h:lk fr junk i=v):cr N ((i,v)::fr) junk=cr N fr junk:=by
 unfold cr
 have:(List.range N.n).map (lk ((i,v)::fr) junk)=(List.range N.n).map (lk fr junk):=List.map_congr_left (λt _=>by
  rw [ic]
  by_cases e:i=t
  ·subst e;simp [h]
  simp [e])
 rw [this]
theorem ai.slot (i:Nat) (v v':Value) (h:∀junk,lk fr junk i=v) (hv:v=v') (K:ai P β N ops k ((i,v')::fr) hps Q):ai P β N ops k fr hps Q:=λjunk w hS=>by
 have:=K junk w hS
 rwa [DZ (hv ▸ h junk)] at this
theorem aQ.slot (i:Nat) (v v':Value) (h:∀junk,lk fr junk i=v) (hv:v=v') (K:aQ P β N ops k ((i,v')::fr) hps Q):aQ P β N ops k fr hps Q:=λjunk=>by
 have:=K junk
 rwa [DZ (hv ▸ h junk)] at this
theorem aj.slot (i:Nat) (v v':Value) (h:∀junk,lk fr junk i=v) (hv:v=v') (K:aj β N Q e ((i,v')::fr) hps):aj β N Q e fr hps:=λjunk w hS=>by
 have:=K junk w hS
 rwa [DZ (hv ▸ h junk)] at this
theorem ai.mA (i:Nat) (b:Bool) (h:∀junk,lk fr junk i=.bool b) (ht:b=true->ai P β N ops k ((i,.bool true)::fr) hps Q) (hf:b=false->ai P β N ops k ((i,.bool false)::fr) hps Q):ai P β N ops k fr hps Q:=by
 cases hb:b with
 |true=>exact ai.slot i (.bool b) (.bool true) h (by rw [hb]) (ht hb)
 |false=>exact ai.slot i (.bool b) (.bool false) h (by rw [hb]) (hf hb)
theorem aQ.mA (i:Nat) (b:Bool) (h:∀junk,lk fr junk i=.bool b) (ht:b=true->aQ P β N ops k ((i,.bool true)::fr) hps Q) (hf:b=false->aQ P β N ops k ((i,.bool false)::fr) hps Q):aQ P β N ops k fr hps Q:=by
 cases hb:b with
 |true=>exact aQ.slot i (.bool b) (.bool true) h (by rw [hb]) (ht hb)
 |false=>exact aQ.slot i (.bool b) (.bool false) h (by rw [hb]) (hf hb)
theorem ai.tU (i:Nat) (p:Prop) [Decidable p] (h:∀junk,lk fr junk i=.bool (decide p)) (ht:p->ai P β N ops k ((i,.bool true)::fr) hps Q) (hf:¬p->ai P β N ops k ((i,.bool false)::fr) hps Q):ai P β N ops k fr hps Q:=
 ai.mA i _ h (λe=>ht (of_decide_eq_true e)) (λe=>hf (of_decide_eq_false e))
theorem aQ.tU (i:Nat) (p:Prop) [Decidable p] (h:∀junk,lk fr junk i=.bool (decide p)) (ht:p->aQ P β N ops k ((i,.bool true)::fr) hps Q) (hf:¬p->aQ P β N ops k ((i,.bool false)::fr) hps Q):aQ P β N ops k fr hps Q:=
 aQ.mA i _ h (λe=>ht (of_decide_eq_true e)) (λe=>hf (of_decide_eq_false e))
theorem ai.bL (i:Nat) {p p':HP} (hp:hps[i]?=some p) (e:p=p') (K:ai P β N ops k fr (hps.set i p') Q):ai P β N ops k fr hps Q:=by
 subst e
 have:hps.set i p=hps:=by
  apply List.ext_getElem?
  grind
 rwa [this] at K
theorem vV {p:Prop} [Decidable p] (h:(!decide p)=true):¬p:=by simpa using h
theorem uP {p:Prop} [Decidable p] (h:(!decide p)=false):p:=by simpa using h
theorem ai.Pq (i:Nat) (p:Prop) [Decidable p] (h:∀junk,lk fr junk i=.bool (!decide p)) (ht:¬p->ai P β N ops k ((i,.bool true)::fr) hps Q) (hf:p->ai P β N ops k ((i,.bool false)::fr) hps Q):ai P β N ops k fr hps Q:=
 ai.mA i _ h (λe=>ht (vV e)) (λe=>hf (uP e))
theorem aQ.Pq (i:Nat) (p:Prop) [Decidable p] (h:∀junk,lk fr junk i=.bool (!decide p)) (ht:¬p->aQ P β N ops k ((i,.bool true)::fr) hps Q) (hf:p->aQ P β N ops k ((i,.bool false)::fr) hps Q):aQ P β N ops k fr hps Q:=
 aQ.mA i _ h (λe=>ht (vV e)) (λe=>hf (uP e))
theorem ah.aa5 {o:Operand} {p:Prop} [Decidable p] (h:∀junk,cL N fr junk o=.bool (!decide p)) (ht:¬p->ah P β N x fr hps Q) (hf:p->ah P β N y fr hps Q):ah P β N (.cond o x y) fr hps Q:=
 ah.cond h (λe=>ht (vV e)) (λe=>hf (uP e))
end slots
theorem vW {x y:Int} (h:x=y) (lo:-9223372036854775808<=y) (hi:y<=9223372036854775807):Value.int .i64 (IntKind.wrap .i64 x)=Value.int .i64 y:=by
 subst h
 rw [IntWalk.i64_in _ ⟨lo,hi⟩]
theorem WB {k:IntKind} {x y:Int} (h:x=y):Value.int k x=Value.int k y:=by rw [h]
theorem Bd (x y:ByteArray):(x.toList == y.toList)=decide (x=y):=by
 rw [←beq_toListBytes]
 obtain⟨⟨x⟩⟩:=x
 obtain⟨⟨y⟩⟩:=y
 show ((⟨x⟩:Array UInt8) == ⟨y⟩)=_
 by_cases h:x=y
 ·subst h;simp
 simp [h]
theorem nZ (x y:ByteArray):Value.bool (x.toList == y.toList)=Value.bool (decide (x=y)):=by rw [Bd]
theorem EU (x y:ByteArray):Value.bool (!(x.toList == y.toList))=Value.bool (!decide (x=y)):=by rw [Bd]
end
section
open Go.RowKit Go.Maps
def fH (N:dx) (junk:Nat->Value) (ops:Array Oper) (fr:Fr) (k:Nat):Option (Op×Option Tmp):=
 match ops.toList[k]? with
 |some o=>
   match Region.wanted o (yF ops N fr junk) with
   |true=>some (o.op,o.dst)
   |false=>none
 |none=>none
theorem fB {N:dx} {junk:Nat->Value} {ops:Array Oper} {fr:Fr} {k:Nat} {op:Op} {d:Option Tmp} (h:fH N junk ops fr k=some (op,d)) :
 ∃o,ops.toList[k]?=some o/\Region.wanted o (yF ops N fr junk)=true/\o.op=op/\o.dst=d:=by
 grind [fH]
def aY (P:Program) (K:TypeId) (b:Nat) (f:Lit->Option Value) (n:Nat):cK where
 h F w:=iA P K w b f n/\∀k,F k↔k=b
 lt:=by rintro F w ⟨h,hF⟩ k hk;rw [(hF k).1 hk];exact h.lt
 st:=by rintro F w ⟨h,hF⟩ S w' hk hn;exact⟨h.keeps hk (hn b ((hF b).2 rfl)),hF⟩
section maps
variable {P:Program} {β:Bs} {N:dx} {ops:Array Oper} {k:Nat} {fr:Fr} {hps dS:List HP} {Q:Post} {d:Option Tmp} {op:Op} {v:Value}
theorem ai.kB (hop:∀junk,fH N junk ops fr k=some (op,d)) (h:∀(o:Oper) junk w,o.op=op->Sat β hps w->∃w',pP P (cL N fr junk) o w v w'/\Sat β dS w')
 (K:ai P β N ops (k+1) (cI fr d v) dS Q):ai P β N ops k fr hps Q:=by
 intro junk w hS
 obtain⟨o,h1,h2,h3,rfl⟩:=fB (hop junk)
 obtain⟨w',h4,h5⟩:=h o junk w h3 hS
 rw [drop_cons h1]
 unfold wpList
 grind [fq,mU,fO,eP,fH,Sat,pP,cL,ai,cI]
theorem ai.Gu {ι:Type} {v:ι->Value} {hp':ι->List HP} (hop:∀junk,fH N junk ops fr k=some (op,d)) (h:∀(o:Oper) junk w,o.op=op->Sat β hps w->∃i w',pP P (cL N fr junk) o w (v i) w'/\Sat β (hp' i) w')
 (K:∀i,ai P β N ops (k+1) (cI fr d (v i)) (hp' i) Q):ai P β N ops k fr hps Q:=by
 intro junk w hS
 obtain⟨o,h1,h2,h3,rfl⟩:=fB (hop junk)
 obtain⟨i,w',h4,h5⟩:=h o junk w h3 hS
 rw [drop_cons h1]
 unfold wpList
 grind [fq,mU,fO,eP,fH,Sat,pP,cL,ai,cI]
theorem aQ.kB (hop:∀junk,fH N junk ops fr k=some (op,d)) (h:∀(o:Oper) junk w,o.op=op->Sat β hps w->pP P (cL N fr junk) o w v w)
 (K:aQ P β N ops (k+1) (cI fr d v) hps Q):aQ P β N ops k fr hps Q:=by
 intro junk
 obtain⟨o,h1,h2,h3,rfl⟩:=fB (hop junk)
 rw [drop_cons h1]
 unfold wpQuiet
 rw [fq,if_pos h2]
 refine⟨v,λw hS=>?_,?_⟩
 ·unfold Oper.quietAt
  rw [fO]
  rcases h o junk w h3 hS with h4|⟨h4,h4'⟩
  ·rw [h4];exact⟨rfl,rfl⟩
  rw [h4'];exact⟨rfl,h4⟩
 rw [eP]
 exact K junk
variable {t K E:TypeId} {b n i:Nat} {f:Lit->Option Value} {x ix y:Operand} {key z u:Value} {kl:Lit} {r:Option Value}
theorem aY.get {w:World} (hS:Sat β hps w) (hp:hps[i]?=some (.abs (aY P K b f n))):iA P K w b f n:=by
 obtain⟨F,hF⟩:=hS.get hp
 exact hF.1
theorem EV {w:World} {o:Oper} {ev:Operand->Value} (ho:o.op=.lookup t x ix true) (hm:iA P K w b f n) (hx:ev x=.map (some b)) (hix:ev ix=key) (L:Keyed P K) (ht:P.underlying t=some (.map K E))
 (hz:(zeroValue E).run P w=.ok z w) (hkey:keyOf P K key=some kl):pP P ev o w (.tuple #[(f kl).getD z,.bool (f kl).isSome]) w:=by
 have h:=hm.look_ok L ht hz hkey
 obtain⟨dst,op,type,pos,after,guard⟩:=o
 cases ho
 refine .inl ?_
 simp only [execOp,hx,hix]
 simp [go_sem,h]
theorem zj {w:World} {o:Oper} {ev:Operand->Value} (ho:o.op=.lookup t x ix false) (hm:iA P K w b f n) (hx:ev x=.map (some b)) (hix:ev ix=key) (L:Keyed P K) (ht:P.underlying t=some (.map K E))
 (hz:(zeroValue E).run P w=.ok z w) (hkey:keyOf P K key=some kl):pP P ev o w ((f kl).getD z) w:=by
 have h:=hm.look L ht hz hkey
 obtain⟨dst,op,type,pos,after,guard⟩:=o
 cases ho
 refine .inl ?_
 simp only [execOp,hx,hix]
 simp [go_sem,h]
theorem ai.xg (i:Nat) (hop:∀junk,fH N junk ops fr k=some (.lookup t x ix true,d)) (hp:hps[i]?=some (.abs (aY P K b f n))) (hx:∀junk,cL N fr junk x=.map (some b)) (hix:∀junk,cL N fr junk ix=key) (L:Keyed P K)
 (ht:P.underlying t=some (.map K E)) (hz:∀w,(zeroValue E).run P w=.ok z w) (hkey:keyOf P K key=some kl) (hr:f kl=r) (K':ai P β N ops (k+1) (cI fr d (.tuple #[r.getD z,.bool r.isSome])) hps Q):ai P β N ops k fr hps Q:=by
 subst hr
 exact ai.kB hop (λo junk w ho hS=>⟨w,EV ho (aY.get hS hp) (hx junk) (hix junk) L ht (hz w) hkey,hS⟩) K'
theorem ai.ig (i:Nat) (hop:∀junk,fH N junk ops fr k=some (.lookup t x ix false,d)) (hp:hps[i]?=some (.abs (aY P K b f n))) (hx:∀junk,cL N fr junk x=.map (some b)) (hix:∀junk,cL N fr junk ix=key) (L:Keyed P K)
 (ht:P.underlying t=some (.map K E)) (hz:∀w,(zeroValue E).run P w=.ok z w) (hkey:keyOf P K key=some kl) (hr:f kl=r) (K':ai P β N ops (k+1) (cI fr d (r.getD z)) hps Q):ai P β N ops k fr hps Q:=by
 subst hr
 exact ai.kB hop (λo junk w ho hS=>⟨w,zj ho (aY.get hS hp) (hx junk) (hix junk) L ht (hz w) hkey,hS⟩) K'
theorem aQ.ig (i:Nat) (hop:∀junk,fH N junk ops fr k=some (.lookup t x ix false,d)) (hp:hps[i]?=some (.abs (aY P K b f n))) (hx:∀junk,cL N fr junk x=.map (some b)) (hix:∀junk,cL N fr junk ix=key) (L:Keyed P K)
 (ht:P.underlying t=some (.map K E)) (hz:∀w,(zeroValue E).run P w=.ok z w) (hkey:keyOf P K key=some kl) (hr:f kl=r) (K':aQ P β N ops (k+1) (cI fr d (r.getD z)) hps Q):aQ P β N ops k fr hps Q:=by
 subst hr
 exact aQ.kB hop (λo junk w ho hS=>zj ho (aY.get hS hp) (hx junk) (hix junk) L ht (hz w) hkey) K'
theorem step_map {w w':World} {f':Lit->Option Value} {n':Nat} {F:Fp} (hF:(HP.abs (aY P K b f n)).h F w) (h:iA P K w' b f' n') (hk:Keeps (·=b) w w'):∃F',(HP.abs (aY P K b f' n')).h F' w'/\Step F w F' w':=
 ⟨F,⟨h,hF.2⟩,hk.mono (λ_ _ e=>(hF.2 _).2 e),λ_ h=>.inl h⟩
theorem ai.pY (i:Nat) (hop:∀junk,fH N junk ops fr k=some (.mapUpdate t x ix y,d)) (hp:hps[i]?=some (.abs (aY P K b f n))) (hx:∀junk,cL N fr junk x=.map (some b)) (hix:∀junk,cL N fr junk ix=key) (hy:∀junk,cL N fr junk y=u) (L:Keyed P K)
 (ht:P.underlying t=some (.map K E)) (hn:n<maxLen) (hkey:keyOf P K key=some kl) {n':Nat} (hn':(if (f kl).isSome then n else n+1)=n') {f':Lit->Option Value} (hf':o4 f kl (some u)=f')
 (K':ai P β N ops (k+1) (cI fr d undef) (hps.set i (.abs (aY P K b f' n'))) Q):ai P β N ops k fr hps Q:=by
 subst hn' hf'
 refine ai.kB hop (λo junk w ho hS=>?_) K'
 obtain⟨F,hF⟩:=hS.get hp
 obtain⟨w',h1,h2,h3⟩:=hF.1.store L ht hn hkey u
 refine⟨w',.inr ⟨rfl,?_⟩,hS.set hp (λF hF=>step_map hF h2 h3)⟩
 obtain⟨dst,op,type,pos,after,guard⟩:=o
 cases ho
 simp only [execOp,hx junk,hix junk,hy junk]
 simp [go_sem,h1]
theorem ai.EW (i:Nat) {ats:Array TypeId} (hop:∀junk,fH N junk ops fr k=some (.call ⟨.builtin .delete,#[x,ix],ats⟩,d)) (hp:hps[i]?=some (.abs (aY P K b f n))) (hx:∀junk,cL N fr junk x=.map (some b)) (hix:∀junk,cL N fr junk ix=key) (vX:ats=#[t,K]) (L:Keyed P K)
 (ht:P.underlying t=some (.map K E)) (hkey:keyOf P K key=some kl) {n':Nat} (hn':(if (f kl).isSome then n-1 else n)=n') {f':Lit->Option Value} (hf':o4 f kl none=f')
 (K':ai P β N ops (k+1) (cI fr d (.tuple #[])) (hps.set i (.abs (aY P K b f' n'))) Q):ai P β N ops k fr hps Q:=by
 subst hn' hf' vX
 refine ai.kB hop (λo junk w ho hS=>?_) K'
 obtain⟨F,hF⟩:=hS.get hp
 obtain⟨w',h1,h2,h3⟩:=hF.1.drop L ht hkey o.type
 refine⟨w',.inl ?_,hS.set hp (λF hF=>step_map hF h2 h3)⟩
 obtain⟨dst,op,type,pos,after,guard⟩:=o
 cases ho
 simp only [execOp,resolve,invoke,builtin]
 simp [go_sem,hx junk,hix junk,h1]
theorem CC {w:World} {o:Oper} {ev:Operand->Value} {ats:Array TypeId} (ho:o.op=.call ⟨.builtin .len,#[x],ats⟩) (vX:ats=#[t]) (hm:iA P K w b f n) (hx:ev x=.map (some b)) (ht:P.underlying t=some (.map K E)) :
 pP P ev o w (.int .i64 ((n:Nat):Int)) w:=by
 have h:=hm.len ht o.type
 obtain⟨dst,op,type,pos,after,guard⟩:=o
 subst vX
 cases ho
 refine .inl ?_
 simp only [execOp,resolve,invoke,builtin]
 simp [go_sem,hx,h]
theorem aQ.yB (i:Nat) {ats:Array TypeId} (hop:∀junk,fH N junk ops fr k=some (.call ⟨.builtin .len,#[x],ats⟩,d)) (hp:hps[i]?=some (.abs (aY P K b f n))) (hx:∀junk,cL N fr junk x=.map (some b)) (vX:ats=#[t]) (ht:P.underlying t=some (.map K E))
 (K':aQ P β N ops (k+1) (cI fr d (.int .i64 ((n:Nat):Int))) hps Q):aQ P β N ops k fr hps Q:=
 aQ.kB hop (λ_ junk _ ho hS=>CC ho vX (aY.get hS hp) (hx junk) ht) K'
theorem ai.rI (hop:∀junk,fH N junk ops fr k=some (.makeMap t none,d)) (P':Program) (hP:P'=P) (K:TypeId) (K':∀b,ai P β N ops (k+1) (cI fr d (.map (some b))) (hps++[.abs (aY P K b (λ_=>none) 0)]) Q):ai P β N ops k fr hps Q:=by
 subst hP
 refine ai.Gu (ι:=Nat) (v:=λb=>.map (some b)) (hp':=λb=>hps++[.abs (aY P' K b (λ_=>none) 0)]) hop (λo junk w ho hS=>⟨w.heap.size,w.alloc (.map #[] 0),.inl ?_,?_⟩) K'
 ·obtain⟨dst,op,type,pos,after,guard⟩:=o
  cases ho
  rfl
 exact hS.new (F:=λk=>k=w.heap.size) ⟨iA.made w P' K,λ_=>Iff.rfl⟩ ((Keeps.refl _ _).alloc _) (λk e=>Nat.le_of_eq e.symm)
end maps
end
section
open Go.RowKit
def aq (e:TypeId) (size:Nat) (A:Option Addr) (n cap:Nat) (xs:List Value):cK where
 h F w:=w.ownsRow 0 e size (.slice A n cap) n xs/\∀k,F k↔(Value.slice A n cap).ownBlock=some k
 lt:=by rintro F w ⟨h,hF⟩ k hk;exact (h.lt k ((hF k).1 hk)).2
 st:=by rintro F w ⟨h,hF⟩ S w' hk hn;exact⟨hk.ownsRow h (λk e=>hn k ((hF k).2 e)),hF⟩
theorem aq.len {e:TypeId} {size:Nat} {A:Option Addr} {n cap:Nat} {xs:List Value} {F:Fp} {w:World} (h:(HP.abs (aq e size A n cap xs)).h F w):xs.length=n*size/\n<=cap:=by
 obtain⟨⟨h1,h2⟩,_⟩:=h
 grind
theorem aq.head {e:TypeId} {size:Nat} {A:Option Addr} {n cap:Nat} {xs:List Value} {F:Fp} {w:World} (h:(HP.abs (aq e size A n cap xs)).h F w) (hn:0<n):∃g,A=some ⟨g,0,none⟩:=by
 obtain⟨⟨h1,h2⟩,_⟩:=h
 grind
theorem aq.cell {e:TypeId} {size:Nat} {g n cap j:Nat} {xs:List Value} {u:Value} (hj:xs[j]?=some u):∀F w,(aq e size (some ⟨g,0,none⟩) n cap xs).h F w->w.cell? ⟨g,j,none⟩=some u:=by
 rintro F w ⟨h,_⟩
 obtain⟨h1,h2⟩:=h
 rcases h2 with ⟨e,_⟩|⟨g',cp,cur,e,_,hb,_,_,hs,ht⟩
 ·cases e
 cases e
 have hlt:=bT hj
 have:cur.toList[j]?=some u:=by
  grind
 simpa [World.cell?,hb] using this
theorem aq.nil (e:TypeId) (size:Nat) (w:World):(HP.abs (aq e size none 0 0 [])).h (λ_=>False) w:=
 ⟨⟨by simp,.inl ⟨rfl,rfl⟩⟩,λk=>by simp [Value.ownBlock]⟩
theorem Uk {α:Type} {l:List α} {i:Nat} {x:α} (h:l[i]?=some x):l.set i x=l:=by
 apply List.ext_getElem?
 grind
section rows
variable {P:Program} {β:Bs} {N:dx} {ops:Array Oper} {k:Nat} {fr:Fr} {hps dS:List HP} {Q:Post} {d:Option Tmp} {op:Op} {v:Value} {c:Code}
theorem Sat.kO {e:TypeId} {size:Nat} {w:World} (h:Sat β hps w):Sat β (hps++[.abs (aq e size none 0 0 [])]) w:=
 Sat.new h (aq.nil e size w) (Keeps.refl _ _) (λ_ h=>h.elim)
theorem Ul {b:Nat} {cs:List Value} {e:TypeId} {size n:Nat} {w:World} (hl:cs.length=n*size) (hm:n<=maxLen):∀F,(HP.blk b cs e).h F w->∃F',(HP.abs (aq e size (some ⟨b,0,none⟩) n n cs)).h F' w/\Step F w F' w:=by
 rintro F ⟨h1,h2⟩
 refine⟨F,⟨⟨hl,.inr ⟨b,n,⟨cs⟩,rfl,Nat.zero_le _,h1,Nat.le_refl _,hm,by simpa using hl,?_⟩⟩,λk=>?_⟩,Step.refl F w⟩
 ·rw [←hl];exact List.take_length
 rw [h2 k]
 simp [Value.ownBlock,eq_comm]
theorem Sat.oI {b i:Nat} {cs:List Value} {e:TypeId} {w:World} (size n:Nat) (hp:hps[i]?=some (.blk b cs e)) (hl:cs.length=n*size) (hm:n<=maxLen) (h:Sat β hps w):Sat β (hps.set i (.abs (aq e size (some ⟨b,0,none⟩) n n cs))) w:=
 h.set hp (Ul hl hm)
theorem dI {b j:Nat} {news:List Value} {T:TypeId} (hp:hps[j]?=some (.blk b news T)):∀w,Sat β hps w->((some ⟨b,0,none⟩:Option Addr)=none/\news.length=0)\/∃ad,(some ⟨b,0,none⟩:Option Addr)=some ad/\∀j u,news[j]?=some u->w.cell? (ad.add j)=some u:=by
 intro w hS
 obtain⟨F,hF⟩:=hS.get hp
 refine .inr ⟨_,rfl,λj u hj=>?_⟩
 have ea:(⟨b,0,none⟩:Addr).add j=⟨b,j,none⟩:=by unfold Addr.add;split<;>simp_all
 rw [ea]
 exact (jo hF.1 rfl rfl hj).1
theorem ai.append (i:Nat) {t e:TypeId} {z:Value} {size bytes n cap m c':Nat} {A A':Option Addr} {xs news:List Value} {s x:Operand} {ats:Array TypeId}
 (hop:∀junk,fH N junk ops fr k=some (.call ⟨.builtin .append,#[s,x],ats⟩,d)) (vX:ats=#[t,t]) (hp:hps[i]?=some (.abs (aq e size A n cap xs))) (hs:∀junk,cL N fr junk s=.slice A n cap) (hx:∀junk,cL N fr junk x=.slice A' m c')
 (ht:P.underlying t=some (.slice e)) (oJ:(P.info? e).map (λi=>(i.zero,i.size,i.bytes))=some (some z,size,bytes)) (hzs:z.cells.size=size) (hsz:0<size)
 (hl:news.length=m*size) (h1:∀u∈news,u.oneCell'=true) (hsrc:∀w,Sat β hps w->(A'=none/\news.length=0)\/∃ad,A'=some ad/\∀j u,news[j]?=some u->w.cell? (ad.add j)=some u)
 (h63:n+m<=maxLen) (hbytes:(n+m)*bytes<=140737488355328)
 (K':∀B cap',ai P β N ops (k+1) (cI fr d (.slice B (n+m) cap')) (hps.set i (.abs (aq e size B (n+m) cap' (xs++news)))) Q):ai P β N ops k fr hps Q:=by
 subst vX
 obtain⟨inf,hi,hz,hsize,hby⟩:∃inf,P.info? e=some inf/\inf.zero=some z/\inf.size=size/\inf.bytes=bytes:=by
  cases h:P.info? e with
  |none=>rw [h] at oJ;cases oJ
  |some inf=>rw [h] at oJ;simp at oJ;exact⟨inf,rfl,oJ.1,oJ.2.1,oJ.2.2⟩
 refine ai.Gu (ι:=Option Addr×Nat) (v:=λp=>.slice p.1 (n+m) p.2) (hp':=λp=>hps.set i (.abs (aq e size p.1 (n+m) p.2 (xs++news)))) hop (λo junk w ho hS=>?_) (λp=>K' p.1 p.2)
 obtain⟨F,hF⟩:=hS.get hp
 have hlen:=aq.len hF
 have hrun:∀v' w',(Builtin.append_ #[t,t] o.type #[.slice A n cap,.slice A' m c']).run P w=.ok v' w'->pP P (cL N fr junk) o w v' w':=λv' w' h=>by
  obtain⟨dst,op,type,pos,after,guard⟩:=o
  cases ho
  refine .inl ?_
  have h':(Builtin.append_ #[t,t] type #[.slice A n cap,.slice A' m c']).run P w=.ok v' w':=h
  simp only [execOp,resolve,invoke,builtin,hs junk,hx junk,List.map_toArray,List.map_cons,List.map_nil,Sem.run_bind,Sem.run_pure,Result.andThen_ok,h']
 rcases hsrc w hS with ⟨rfl,h0⟩|⟨ad,rfl,hnews⟩
 ·have hm0:m=0:=by
   rw [hl] at h0
   rcases Nat.mul_eq_zero.1 h0 with e|e
   ·exact e
   omega
  subst hm0
  have hn0:news=[]:=List.eq_nil_of_length_eq_zero h0
  subst hn0
  refine⟨(A,cap),w,hrun _ _ ?_,?_⟩
  ·have hu:=run_underlying ht w
   have h3:=pG hi w
   rw [hsize] at h3
   have h4:(Builtin.append_ #[t,t] o.type #[.slice A n cap,.slice none 0 c']).run P w=.ok (.slice A n cap) w:=by
    cases A<;>simp [Builtin.append_,hu,h3,go_sem,Builtin.lenOf,Builtin.firstCells,hlen.2,storeCells]
   simpa using h4
  grind [aq,Uk]
 obtain⟨v',w',h2,h3,h4,_,h5⟩:=run_append_own_at (P:=P) w 0 t o.type e inf z size bytes ht hi hz hsize hby hzs hsz (.slice A n cap) n xs hF.1 ad m c' news hl hnews h1 h63 hbytes (Nat.zero_le _)
 have Be:∃B cap',v'=.slice B (n+m) cap':=by
  rcases h3.2 with ⟨e,e0⟩|⟨g,cp,cur,e,_⟩
  all_goals grind
 obtain⟨B,cap',rfl⟩:=Be
 refine⟨(B,cap'),w',hrun _ _ h2,hS.set hp (λF hF=>⟨λk=>(Value.slice B (n+m) cap').ownBlock=some k,⟨h3,λ_=>Iff.rfl⟩,((Keeps.refl F w).grown h4 (λk hk=>.inr ((hF.2 k).2 hk))),λk hk=>?_⟩)⟩
 rcases h5 with h5|h5
 ·exact .inl ((hF.2 k).2 (h5 ▸ hk))
 grind
end rows
end
section
open Go.RowKit
structure Bs.le (β β':Bs):Prop where
 O:∀k,β.O k->β'.O k
 os:β'.w0.os=β.w0.os
 tape:β'.w0.tape=β.w0.tape
 output:β'.w0.output=β.w0.output
 size:β.w0.heap.size<=β'.w0.heap.size
 old:∀k,β.O k->k<β.w0.heap.size/\β'.w0.heap[k]?=β.w0.heap[k]?
theorem Bs.le.trans {a b c:Bs} (h:a.le b) (g:b.le c):a.le c:=
 ⟨λk hk=>g.O k (h.O k hk),g.os.trans h.os,g.tape.trans h.tape,g.output.trans h.output,Nat.le_trans h.size g.size,λk hk=>⟨(h.old k hk).1,(g.old k (h.O k hk)).2.trans (h.old k hk).2⟩⟩
def Rd (β:Bs) (a:Addr) (v:Value):Prop:=β.O a.block/\β.w0.cell? a=some v
theorem Rd.le {β β':Bs} {a:Addr} {v:Value} (h:Rd β a v) (hle:β.le β'):Rd β' a v:=
 ⟨hle.O _ h.1,(World.cell?_of_block (w:=β.w0) (hle.old _ h.1).2).trans h.2⟩
theorem Bs.ok.le {β β':Bs} {w:World} (h:β'.ok w) (hle:β.le β'):β.ok w:=
 ⟨h.os.trans hle.os,h.tape.trans hle.tape,h.output.trans hle.output,Nat.le_trans hle.size h.size,λk hk=>⟨(hle.old k hk).1,(h.old k (hle.O k hk)).2.trans (hle.old k hk).2⟩⟩
theorem Sat.J1 {β β':Bs} {l:List HP} {w:World} (hle:β.le β') (h:Sat β' l w):Sat β l w:=by
 obtain⟨ho,φ,h1,h2,h3⟩:=h
 exact⟨ho.le hle,φ,h1,λi hi k hk hO=>h2 i hi k hk (hle.O k hO),h3⟩
theorem Sat.kP {β:Bs} {l l':List HP} {w:World} {p:HP} {i:Nat} {idx:List Nat} (h:Sat β l w) (hp:l[i]?=some p) (hn:nodupB (i::idx)=true) (hl:bh l idx=some l') :
 ∃F,p.h F w/\∃β':Bs,β.le β'/\(∀k,F k->β'.O k)/\β'.w0=w/\Sat β' l' w:=by
 have h':=h.pick (idx:=i::idx) (l':=p::l') hn (by simp only [bh,hp,hl])
 obtain⟨ho,φ,h1,h2,h3⟩:=h'
 refine⟨φ 0,h1 0 p rfl,⟨λk=>β.O k\/φ 0 k,w⟩,⟨λk hk=>.inl hk,ho.os,ho.tape,ho.output,ho.size,λk hk=>ho.old k hk⟩,λk hk=>.inr hk,rfl,⟨rfl,rfl,rfl,Nat.le_refl _,λk hk=>⟨?_,rfl⟩⟩,λj=>φ (j+1),λj q hq=>h1 (j+1) q (by simpa using hq),λj hj k hk hO=>?_,λj1 j2 sS hj2 hne=>h3 _ _ (by simp;omega) (by simp;omega) (by omega)⟩
 ·rcases hk with hk|hk
  ·exact Nat.lt_of_lt_of_le (ho.old k hk).1 ho.size
  exact HP.lt (h1 0 p rfl) k hk
 rcases hO with hO|hO
 ·exact h2 (j+1) (by simp;omega) k hk hO
 exact h3 (j+1) 0 (by simp;omega) (by simp) (by omega) k hk hO
section rules
variable {P:Program} {β β':Bs} {N:dx} {ops:Array Oper} {k:Nat} {fr:Fr} {hps dS:List HP} {Q:Post} {c:Code} {e:Exit} {p:HP} {i:Nat} {idx:List Nat} {d:Option Tmp}
theorem ai.kP {Φ:Bs->Prop} (i:Nat) (idx:List Nat) (hp:hps[i]?=some p) (hn:nodupB (i::idx)=true) (hl:bh hps idx=some dS) (NU:∀F w,p.h F w->∀β':Bs,(∀k,F k->β'.O k)->β'.w0=w->Φ β')
 (K:∀β':Bs,β.le β'->Φ β'->ai P β' N ops k fr dS Q):ai P β N ops k fr hps Q:=λjunk w hS=>by
 obtain⟨F,hF,β',hle,h1,h2,dY⟩:=hS.kP hp hn hl
 exact K β' hle (NU F w hF β' h1 h2) junk w dY
def bW (β:Bs) (A:Option Addr) (xs:List Value):Prop:=∀(j:Nat) (v:Value),xs[j]?=some v->A=some ⟨aV A,aU A,none⟩/\Rd β ⟨aV A,aU A+j,none⟩ v
theorem bW.le {A:Option Addr} {xs:List Value} (h:bW β A xs) (hle:β.le β'):bW β' A xs:=λj v hj=>⟨(h j v hj).1,(h j v hj).2.le hle⟩
theorem bW.gF {e:TypeId} {size n cap:Nat} {A:Option Addr} {xs:List Value} {F:Fp} {w:World} (h:(HP.abs (aq e size A n cap xs)).h F w) (h1:∀k,F k->β'.O k) (h2:β'.w0=w):bW β' A xs:=by
 intro j v hj
 have hlt:=bT hj
 have hl:=aq.len h
 have hn:0<n:=by
  grind
 obtain⟨g,rfl⟩:=aq.head h hn
 refine⟨rfl,h1 g ((h.2 g).2 rfl),?_⟩
 rw [h2]
 have:=aq.cell hj F w h
 simpa [aV,aU] using this
theorem aq.EX {e:TypeId} {size:Nat} {A:Option Addr} {n cap:Nat} {xs:List Value} {F:Fp} {w:World} (h:(HP.abs (aq e size A n cap xs)).h F w) (hn:0<n):A=some ⟨aV A,aU A,none⟩/\aU A=0:=by
 obtain⟨g,rfl⟩:=aq.head h hn
 exact⟨rfl,rfl⟩
theorem yg {e:TypeId} {size n cap j g:Nat} {xs:List Value} {u:Value} {w:World} (_:j<xs.length):∀F,(HP.abs (aq e size (some ⟨g,0,none⟩) n cap xs)).h F w →
 ∃F',(HP.abs (aq e size (some ⟨g,0,none⟩) n cap (xs.set j u))).h F' (w.setCell ⟨g,j,none⟩ u)/\Step F w F' (w.setCell ⟨g,j,none⟩ u):=by
 rintro F ⟨⟨h1,h2⟩,hF⟩
 rcases h2 with ⟨e,_⟩|⟨g',cp,cur,e,_,hb,hle,hm,hs,ht⟩
 ·cases e
 cases e
 refine⟨F,⟨⟨by simpa using h1,.inr ⟨g,cap,cur.setIfInBounds j u,rfl,Nat.zero_le _,?_,hle,hm,by simpa using hs,?_⟩⟩,hF⟩,⟨(Keeps.refl _ _).setCell (.inr ((hF g).2 rfl)) u,λ_ h=>.inl h⟩⟩
 ·simp [World.setCell,Array.getElem?_modify,hb]
 rw [Array.toList_setIfInBounds,List.take_set,ht]
theorem ai.EY (i j:Nat) {T e:TypeId} {size n cap g:Nat} {xs:List Value} {u:Value} {a y:Operand} (hop:∀junk,fH N junk ops fr k=some (.store T a y,d)) (hp:hps[i]?=some (.abs (aq e size (some ⟨g,0,none⟩) n cap xs)))
 (ha:∀junk,cL N fr junk a=.pointer (some ⟨g,j,none⟩)) (hy:∀junk,cL N fr junk y=u) (hT:(P.info? T).map (·.size)=some 1) (hu:u.oneCell'=true) (hj:j<xs.length)
 (K':ai P β N ops (k+1) (cI fr d undef) (hps.set i (.abs (aq e size (some ⟨g,0,none⟩) n cap (xs.set j u)))) Q):ai P β N ops k fr hps Q:=by
 refine ai.kB hop (λo junk w ho hS=>?_) K'
 obtain⟨F,hF⟩:=hS.get hp
 refine⟨w.setCell ⟨g,j,none⟩ u,.inr ⟨rfl,?_⟩,hS.set hp (yg hj)⟩
 obtain⟨x,hx⟩:=jW hj
 have hc:=aq.cell hx F w hF
 have hf:w.frozen? ⟨g,j,none⟩=false:=by
  obtain⟨⟨_,h2⟩,_⟩:=hF
  rcases h2 with ⟨e,_⟩|⟨g',cp,cur,e,_,hb,_⟩
  ·cases e
  cases e;simp [World.frozen?,hb]
 obtain⟨inf,hi,hsz⟩:∃inf,P.info? T=some inf/\inf.size=1:=by
  cases h:P.info? T with
  |none=>rw [h] at hT;cases hT
  |some inf=>rw [h] at hT;exact⟨inf,rfl,by simpa using hT⟩
 have h3:=pG hi w
 rw [hsz] at h3
 obtain⟨dst,op,type,pos,after,guard⟩:=o
 cases ho
 cases u<;>first
  |(simp [Value.oneCell'] at hu;done)
  |(simp only [execOp,ha junk,hy junk];simp [go_sem,Instr.storeAt,Instr.sureAddr,storeVar,h3,Value.cells,storeCells,store,Addr.add,Sem.run,hc,hf])
end rules
end
section
open Go.RowKit
theorem Bs.ok.XS {β:Bs} {w:World} (h:β.ok w):β.le β:=⟨λ_ h=>h,rfl,rfl,rfl,Nat.le_refl _,λk hk=>⟨(h.old k hk).1,rfl⟩⟩
def bV (P:Program) (β:Bs) (f:FuncId) (args:Array Value) (pre:List HP) (post:Bs->Value->List HP->Prop):Prop:=
 ∀(R:cK) w,Sat β (pre++[.abs R]) w->Calls P f args w λe w'=>∃β' v l,β.le β'/\e=.returned v/\post β' v l/\Sat β' (l++[.abs R]) w'
def EZ (β:Bs) (R:cK) (post:Bs->Value->List HP->Prop):Ending->World->Prop:=λe w'=>∃β' v l,β.le β'/\e=.returned v/\post β' v l/\Sat β' (l++[.abs R]) w'
section aa6
variable {P:Program} {β β':Bs} {N:dx} {n0:Nat} {ops:Array Oper} {k:Nat} {fr:Fr} {hps R l:List HP} {Q:Post} {f:FuncId} {args:Array Value} {d:Option Tmp} {pre:List HP} {post:Bs->Value->List HP->Prop} {pk idx:List Nat} {c:Code} {fn:Func} {v:Value} {cG:List Prop} {w:World}
theorem bV.use (h:bV P β f args pre post) (hS:Sat β (pre++R) w):Calls P f args w λe w'=>∃β' v l,β.le β'/\e=.returned v/\post β' v l/\Sat β' (l++R) w':=
 (h _ w hS.mH).mono λ_ _ ⟨β',v,l,h0,h1,h2,h3⟩=>⟨β',v,l,h0,h1,h2,h3.Bc⟩
theorem bV.mono {post':Bs->Value->List HP->Prop} (h:bV P β f args pre post) (hp:∀β' v l,β.le β'->post β' v l->post' β' v l):bV P β f args pre post':=
 λR w hS=>(h R w hS).mono λ_ _ ⟨β',v,l,h0,h1,h2,h3⟩=>⟨β',v,l,h0,h1,hp β' v l h0 h2,h3⟩
theorem ai.JI (hc:∀junk,nY P β N junk ops fr k=some (f,args,d)) (hs:bV P β f args pre post) (hn:nodupB pk=true) (hp:bh hps pk=some (pre++R))
 (K:∀β' v l,β.le β'->post β' v l->ai P β' N ops (k+1) (cI fr d v) (l++R) Q):ai P β N ops k fr hps Q:=by
 intro junk w hS
 obtain⟨o,h1,h2,rfl,h3⟩:=ye (hc junk)
 rw [drop_cons h1]
 unfold wpList
 rw [fq,if_pos h2]
 refine .inl ?_
 unfold Oper.wp
 rw [fO,h3 w hS.nil,Oper.upon_enter]
 refine (hs.use (hS.pick hn hp)).mono ?_
 rintro e w' ⟨β',v,l,hle,rfl,hpost,dY⟩
 show wpList _ _ _ _ ((cr N fr junk).put o.dst v) w'
 rw [eP]
 exact K β' v l hle hpost junk w' dY
theorem bV.enter (hf:P.funcs[f]?=some fn) (hb:fn.body=some c) (hN:fn.ntmps=n0) (hl:args.toList.length<=n0) (h:β.le β->∀R:cK,ah P β ⟨n0,[]⟩ c (zi 0 args.toList) (pre++[.abs R]) (bodyPost P fn (EZ β R post))):bV P β f args pre post:=by
 intro R w hS
 refine calls_of_wp hf hb ?_
 rw [hN,HZ hl]
 exact h hS.1.XS R _ w hS
theorem aj.abR {R:cK} (hints:List Hint) (pk:List Nat) (hle:β.le β') (hr:∀junk,pQ P β' ⟨n0,[]⟩ junk fn fr hps hints=some (v,cG)) (ho:lG cG) (hn:nodupB pk=true) (hp:bh hps pk=some (l++[.abs R])) (hpost:post β' v l) :
 aj β' ⟨n0,[]⟩ (bodyPost P fn (EZ β R post)) .ret fr hps:=
 λjunk _ hS=>⟨rfl,v,vn (hr junk) ho hS,β',v,l,hle,rfl,hpost,hS.pick hn hp⟩
theorem aj.YQ {R:cK} {post:Value->List HP->Prop} (hints:List Hint) (pk:List Nat) (hle:β.le β') (hr:∀junk,pQ P β' ⟨n0,[]⟩ junk fn fr hps hints=some (v,cG)) (ho:lG cG) (hn:nodupB pk=true) (hp:bh hps pk=some (l++[.abs R])) (hpost:post v l) :
 aj β' ⟨n0,[]⟩ (bodyPost P fn (vU β R post)) .ret fr hps:=
 λjunk _ hS=>⟨rfl,v,vn (hr junk) ho hS,v,l,rfl,hpost,(hS.pick hn hp).J1 hle⟩
def JJ (N:dx) {ι:Type} (bs:ι->Bs) (Inv:ι->Prop) (μ:ι->Nat) (fr:ι->Fr) (hp:ι->List HP) (m:Nat):Act->World->Prop:=λa w=>∃i,Inv i/\μ i<m/\∃junk,a=cr N (fr i) junk/\Sat (bs i) (hp i) w
theorem ah.aa7 {ι:Type} (bs:ι->Bs) (Inv:ι->Prop) (μ:ι->Nat) (fr':ι->Fr) (hp':ι->List HP) (i0:ι) (hb:bs i0=β) (h0:Inv i0) (hf:∀junk,iG fr junk idx=fr' i0) (hn:nodupB pk=true) (hp:bh hps pk=some (hp' i0))
 (round:∀i,Inv i->ah P (bs i) N c (fr' i) (hp' i) (Exit.then (JJ N bs Inv μ fr' hp' (μ i)) Q)):ah P β N (.loop c) fr hps Q:=by
 intro junk w hS
 subst hb
 refine wp_loop_ghost (λn a w=>∃i,Inv i/\μ i=n/\∃junk,a=cr N (fr' i) junk/\Sat (bs i) (hp' i) w) (μ i0) ⟨i0,h0,rfl,lk fr junk,by rw [lq N fr junk idx,hf junk],hS.pick hn hp⟩ ?_
 rintro n a w ⟨i,hi,rfl,junk,rfl,hS⟩
 refine Code.wp_mono (λe a w q=>?_) (round i hi junk w hS)
 cases e with
 |normal=>
   obtain⟨i',hi',hlt,jr,e,dY⟩:=q
   exact⟨μ i',hlt,i',hi',rfl,jr,e,dY⟩
 |exit id=>exact q
 |goto l=>exact q
 |ret=>exact q
 |panic ch=>exact q
 |outgrown=>exact q
theorem aj.aa8 {ι:Type} {bs:ι->Bs} {Inv:ι->Prop} {μ:ι->Nat} {fr':ι->Fr} {hp':ι->List HP} {m:Nat} (i:ι) (hb:bs i=β) (hi:Inv i) (hm:μ i<m) (hf:∀junk,iG fr junk idx=fr' i) (hn:nodupB pk=true) (hp:bh hps pk=some (hp' i)) :
 aj β N (Exit.then (JJ N bs Inv μ fr' hp' m) Q) .normal fr hps:=λjunk _ hS=>⟨i,hi,hm,lk fr junk,by rw [lq N fr junk idx,hf junk],hb ▸ hS.pick hn hp⟩
end aa6
end
section
open Go.RowKit
section still
variable {P:Program} {β:Bs} {N:dx} {junk:Nat->Value} {ops:Array Oper} {n:Nat} {w:World}
theorem J2 {hs:List OH}:∀{k k':Nat} {fr fr':Fr} {S S':SS},mz P β n true N junk ops hs k fr S=some (k',fr',S')->k<=k':=by
 induction hs with
 |nil=>intro k k' fr fr' S S' h;cases h;exact Nat.le_refl _
 |cons h hs ih=>
   grind [mz]
theorem yC {o:Oper} {k k':Nat} (h:ops.toList[k]?=some o) (hk:k<k'):(ops.toList.take k').drop k=o::(ops.toList.take k').drop (k+1):=by
 have h1:(ops.toList.take k')[k]?=some o:=by
  rw [List.getElem?_take,if_pos hk];exact h
 have h2:=bT h1
 rw [List.drop_eq_getElem_cons h2]
 grind
end still
theorem Spec.quiet {P:Program} {β:Bs} {f:FuncId} {args:Array Value} {v:Value} (h:∀w,Calls P f args w λe w'=>e=.returned v/\w'=w):Spec P β f args [] (λv' l=>v'=v/\l=[]):=
 λ_ w hS=>(h w).mono λ_ _ ⟨h1,h2⟩=>⟨v,[],h1,⟨rfl,rfl⟩,h2 ▸ hS⟩
def iL (P:Program) (β:Bs) (N:dx) (ops:Array Oper) (n k:Nat) (fr:Fr) (hps:List HP) (Q:Post):Prop:=
 ∀junk w,Sat β hps w->wpStill P ops w (λa'=>wpList P ops Q (ops.toList.drop n) a' w) ((ops.toList.take n).drop k) (cr N fr junk)
section heads
variable {P:Program} {β:Bs} {N:dx} {ops:Array Oper} {n k k':Nat} {fr fr':Fr} {hps:List HP} {Q:Post} {cG:List Prop} {d:Option Tmp} {op:Op} {v:Value} {i:Nat}
theorem sy {junk:Nat->Value} {w:World} {m:Nat} {Q:Act->Prop}:∀{hs:List OH} {k k':Nat} {fr fr':Fr} {S S':SS},mz P β m true N junk ops hs k fr S=some (k',fr',S')->(∀p,p∈S'.cG->p)->S.used=true->Sat β S.hps w->k'<=n →
 wpStill P ops w Q ((ops.toList.take n).drop k') (cr N fr' junk)->wpStill P ops w Q ((ops.toList.take n).drop k) (cr N fr junk)
 |[],k,k',fr,fr',S,S',h,ho,hu,hS,hn,hK=>by cases h;exact hK
 |h::hs,k,k',fr,fr',S,S',hr,ho,hu,hS,hn,hK=>by
   unfold mz at hr
   split at hr
   ·cases hr
   rename_i o hget
   have hk:k<n:=by
    refine Nat.lt_of_lt_of_le ?_ hn
    split at hr
    ·split at hr
     ·exact J2 hr
     cases hr
    exact J2 hr
   rw [yC hget hk]
   unfold wpStill
   have hw:Region.wanted o (yielded ops (cr N fr junk).tmps)=Region.wanted o (yF ops N fr junk):=by
    have:yielded ops (cr N fr junk).tmps=yF ops N fr junk:=funext (JH ops N fr junk)
    rw [this]
   rw [hw]
   split at hr
   ·rename_i Q0
    rw [if_pos Q0]
    split at hr
    ·rename_i v S1 h0
     obtain⟨e1,e2⟩:=vG h0
     obtain⟨w',h1,h2,h3,h4⟩:=mT h0 (λp hp=>ho p (uf hr p hp)) hS (λe=>by rw [hu] at e;cases e)
     obtain⟨ew,e⟩:=h4 rfl
     rw [ew] at h1 h2
     unfold Oper.still
     rw [fO]
     rcases h1 with h1|⟨h1,h1'⟩
     ·rw [h1,Oper.stillUpon_value,eP]
      exact sy hr ho (e2.trans hu) h2 hn hK
     subst h1
     rw [h1',Oper.stillUpon_skip,eP]
     exact sy hr ho (e2.trans hu) h2 hn hK
    cases hr
   rename_i hwf
   rw [if_neg (by simp [hwf])]
   rw [eP]
   exact sy hr ho hu hS hn hK
theorem ah.tV {id:Nat} (n:Nat) (hm:P.follows .mixedOrders=true) (hB:Region.lexTailB .any ops n=true) (h:iL P β N ops n 0 fr hps Q):ah P β N (.region id ops true) fr hps Q:=by
 intro junk w hS
 obtain⟨ops⟩:=ops
 exact wp_region_still_tail n hm hB (h junk (w.drewN 1) (hS.drewN 1))
theorem iL.seg (hs:List OH) (idx:List Nat) (h:∀m junk,kx P β m true N junk ops hs k fr hps idx (List.range hps.length)=some (k',fr',hps,cG)) (ho:lG cG) (hk:k'<=n) (K:iL P β N ops n k' fr' hps Q):iL P β N ops n k fr hps Q:=by
 intro junk w hS
 obtain⟨o5,S,h1,h2,h3,h4,h5⟩:=DY (h 0 junk)
 have hK:=K (lk o5 junk) w hS
 rw [h4,←lq] at hK
 exact sy h1 (λp hp=>ho.mem (h5 ▸ hp)) rfl hS hk hK
theorem iL.done (hk:k=n) (K:ai P β N ops n fr hps Q):iL P β N ops n k fr hps Q:=by
 intro junk w hS
 subst hk
 have e:(ops.toList.take k).drop k=[]:=by grind
 rw [e]
 exact K junk w hS
theorem iL.kB (hop:∀junk,fH N junk ops fr k=some (op,d)) (hk:k<n) (h:∀(o:Oper) junk w,o.op=op->Sat β hps w->pP P (cL N fr junk) o w v w) (K:iL P β N ops n (k+1) (cI fr d v) hps Q):iL P β N ops n k fr hps Q:=by
 intro junk w hS
 obtain⟨o,h1,h2,h3,rfl⟩:=fB (hop junk)
 rw [yC h1 hk]
 unfold wpStill
 rw [fq,if_pos h2]
 unfold Oper.still
 rw [fO]
 have hK:=K junk w hS
 rw [←eP] at hK
 rcases h o junk w h3 hS with h4|⟨h4,h4'⟩
 ·rw [h4,Oper.stillUpon_value];exact hK
 subst h4
 rw [h4',Oper.stillUpon_skip];exact hK
section maps
open Go.Maps
variable {t K E:TypeId} {b cnt:Nat} {f:Lit->Option Value} {x ix:Operand} {key z:Value} {kl:Lit} {r:Option Value}
theorem iL.yB (i:Nat) {ats:Array TypeId} (hop:∀junk,fH N junk ops fr k=some (.call ⟨.builtin .len,#[x],ats⟩,d)) (hp:hps[i]?=some (.abs (aY P K b f cnt))) (hx:∀junk,cL N fr junk x=.map (some b)) (vX:ats=#[t]) (ht:P.underlying t=some (.map K E))
 (hk:k<n) (K':iL P β N ops n (k+1) (cI fr d (.int .i64 ((cnt:Nat):Int))) hps Q):iL P β N ops n k fr hps Q:=
 iL.kB hop hk (λ_ junk _ ho hS=>CC ho vX (aY.get hS hp) (hx junk) ht) K'
end maps
end heads
end
section
open Go.RowKit Go.Maps
open Go.ChangeMaps (setBlock)
theorem Gv (w:World) (r:Nat) (o:Obj):Keeps (·=r) w (setBlock w r o):=
 ⟨rfl,rfl,rfl,by simp [setBlock],λk _ hk=>by
  show (w.heap.setIfInBounds r o)[k]?=_
  rw [Array.getElem?_setIfInBounds_ne (λe=>hk e.symm)]⟩
theorem J3 {w:World} {r:Nat} {o o':Obj} (h:w.heap[r]?=some o'):(setBlock w r o).heap[r]?=some o:=by
 have:=lt_of_some h
 show (w.heap.setIfInBounds r o)[r]?=_
 rw [Array.getElem?_setIfInBounds_self_of_lt this]
def zk (r:Nat) (s:ByteArray) (pos:Nat):cK where
 h F w:=w.heap[r]?=some (.stringIter s pos)/\∀k,F k↔k=r
 lt:=by grind
 st:=by rintro F w ⟨h,hF⟩ S w' hk hn;exact⟨(hk.block r (lt_of_some h) (hn r ((hF r).2 rfl))).trans h,hF⟩
def Gw (P:Program) (b r:Nat) (t:Value) (w:World):Prop:=
 ∃w0:World,w0.heap[b]?=w.heap[b]?/\w0.heap[r]?=w.heap[r]?/\(Instr.entry (.pointer (some ⟨r,0,none⟩))).run P w0=.ok t w0
theorem Gw.run {P:Program} {b r:Nat} {t:Value} {w:World} {es:Array MapEntry} {clock since c0:Nat} {seen:Array Nat} (h:Gw P b r t w) (hb:w.heap[b]?=some (.map es clock)) (hr:w.heap[r]?=some (.mapIter (some b) since seen c0)) :
 (Instr.entry (.pointer (some ⟨r,0,none⟩))).run P w=.ok t w:=by
 obtain⟨w0,h1,h2,h3⟩:=h
 rw [hb] at h1
 rw [hr] at h2
 simp only [Instr.entry,getObj,Sem.run_bind,Sem.run,h2,hr,Result.andThen] at h3 ⊢
 cases hs:seen.back? with
 |none=>simp [hs,stuck] at h3
 |some st=>
   simp only [hs,Sem.run_bind,Sem.run,h1,hb,Result.andThen] at h3 ⊢
   by_cases hc:(clock != c0)=true
   ·simp [hc,unsupported,Sem.run,Result.andThen] at h3
   simp only [hc,Bool.false_eq_true,if_false] at h3 ⊢
   cases hf:es.find? (λe=>e.born == st) with
   |none=>simp [hf,unsupported] at h3
   |some e=>
     simp [hf] at h3 ⊢
     exact h3
structure NV (P:Program) (K:TypeId) (w:World) (b r:Nat) (f:Lit->Option Value) (n:Nat) (left:Lit->Bool) (cnt:Nat) (last:Option Value) (D:DataW Value):Prop where
 rg:w.ranges P K vl b r n D left cnt
 sz:Maps.size D=n
 has:∀kl,Maps.has D kl=(f kl).isSome
 at_:∀kl v,f kl=some v->∀z,D.atKey kl z=.held v
 sub:∀kl,left kl=true->(f kl).isSome=true
 last:∀t,last=some t->Gw P b r t w
def kQ (P:Program) (K:TypeId) (b r:Nat) (f:Lit->Option Value) (n:Nat) (left:Lit->Bool) (cnt:Nat) (last:Option Value):cK where
 h F w:=(∃D,NV P K w b r f n left cnt last D)/\∀k,F k↔(k=b\/k=r)
 lt:=by
  rintro F w ⟨⟨D,h⟩,hF⟩ k hk
  rcases (hF k).1 hk with rfl|rfl
  ·exact h.rg.owns.lt
  exact h.rg.lt
 st:=by
  rintro F w ⟨⟨D,h⟩,hF⟩ S w' hk hn
  have hb:=hk.block b h.rg.owns.lt (hn b ((hF b).2 (.inl rfl)))
  have hr:=hk.block r h.rg.lt (hn r ((hF r).2 (.inr rfl)))
  refine⟨⟨D,?_,h.sz,h.has,h.at_,h.sub,λt ht=>?_⟩,hF⟩
  ·obtain⟨es,clock,since,seen,c0,e1,e2,e3,e4,e5,e6⟩:=h.rg
   exact⟨es,clock,since,seen,c0,hb.trans e1,e2,e3,e4,hr.trans e5,e6⟩
  obtain⟨w0,h1,h2,h3⟩:=h.last t ht
  exact⟨w0,h1.trans hb.symm,h2.trans hr.symm,h3⟩
section rules
variable {P:Program} {β:Bs} {N:dx} {ops:Array Oper} {k:Nat} {fr fr':Fr} {hps dS:List HP} {Q:Post} {d:Option Tmp} {op:Op} {v:Value} {t K E:TypeId} {x:Operand} {s:ByteArray} {b r pos i n cnt:Nat} {f:Lit->Option Value} {left:Lit->Bool} {last:Option Value}
theorem ai.J4 (hop:∀junk,fH N junk ops fr k=some (.range t x,d)) (hx:∀junk,cL N fr junk x=.string s) (ht:P.underlying t=some .string) (K':∀r,ai P β N ops (k+1) (cI fr d (.pointer (some ⟨r,0,none⟩))) (hps++[.abs (zk r s 0)]) Q):ai P β N ops k fr hps Q:=by
 refine ai.Gu (ι:=Nat) (v:=λr=>.pointer (some ⟨r,0,none⟩)) (hp':=λr=>hps++[.abs (zk r s 0)]) hop (λo junk w ho hS=>⟨w.heap.size,w.iter s 0,.inl ?_,?_⟩) K'
 ·obtain⟨dst,op,type,pos,after,guard⟩:=o
  cases ho
  simp only [execOp,hx]
  simp [go_sem,ht]
 exact hS.new (F:=λk=>k=w.heap.size) ⟨World.iter_heap w s 0,λ_=>Iff.rfl⟩ ((Keeps.refl _ _).alloc _) (λk e=>Nat.le_of_eq e.symm)
theorem ai.NW (i:Nat) (hop:∀junk,fH N junk ops fr k=some (.next x true,d)) (hp:hps[i]?=some (.abs (zk r s pos))) (hx:∀junk,cL N fr junk x=.pointer (some ⟨r,0,none⟩)) (hlt:pos<s.size)
 (K':ai P β N ops (k+1) (cI fr d (.tuple #[.bool true,.int .i64 pos,.int .i32 (Utf8.decode s pos).1])) (hps.set i (.abs (zk r s (pos+(Utf8.decode s pos).2)))) Q):ai P β N ops k fr hps Q:=by
 refine ai.kB hop (λo junk w ho hS=>?_) K'
 obtain⟨F,hF⟩:=hS.get hp
 refine⟨setBlock w r (.stringIter s (pos+(Utf8.decode s pos).2)),.inl ?_,hS.set hp (λF hF=>⟨F,⟨J3 hF.1,hF.2⟩,(Gv w r _).mono (λ_ _ e=>(hF.2 _).2 e),λ_ h=>.inl h⟩)⟩
 have hr:=hF.1
 obtain⟨dst,op,type,pos',after,guard⟩:=o
 cases ho
 simp only [execOp,hx]
 simp [go_sem,Instr.next,getObj,setObj,Sem.run,hr,hlt,setBlock,goInt]
theorem ai.Q7 (i:Nat) (hop:∀junk,fH N junk ops fr k=some (.next x true,d)) (hp:hps[i]?=some (.abs (zk r s pos))) (hx:∀junk,cL N fr junk x=.pointer (some ⟨r,0,none⟩)) (hlt:¬pos<s.size)
 (K':ai P β N ops (k+1) (cI fr d (.tuple #[.bool false])) hps Q):ai P β N ops k fr hps Q:=by
 refine ai.kB hop (λo junk w ho hS=>⟨w,.inl ?_,hS⟩) K'
 obtain⟨F,hF⟩:=hS.get hp
 have hr:=hF.1
 obtain⟨dst,op,type,pos',after,guard⟩:=o
 cases ho
 simp only [execOp,hx]
 simp [go_sem,Instr.next,getObj,setObj,Sem.run,hr,hlt]
theorem ai.mapRange (i:Nat) (hop:∀junk,fH N junk ops fr k=some (.range t x,d)) (hp:hps[i]?=some (.abs (aY P K b f n))) (hx:∀junk,cL N fr junk x=.map (some b)) (L:Keyed P K) (ht:P.underlying t=some (.map K E))
 (K':∀r,ai P β N ops (k+1) (cI fr d (.pointer (some ⟨r,0,none⟩))) (hps.set i (.abs (kQ P K b r f n (λkl=>(f kl).isSome) n none))) Q):ai P β N ops k fr hps Q:=by
 refine ai.Gu (ι:=Nat) (v:=λr=>.pointer (some ⟨r,0,none⟩)) (hp':=λr=>hps.set i (.abs (kQ P K b r f n (λkl=>(f kl).isSome) n none))) hop (λo junk w ho hS=>?_) K'
 obtain⟨D,h1,h2,h3,h4⟩:=aY.get hS hp
 obtain⟨w',hrun,r1,r2,r3⟩:=h1.range L ht
 refine⟨w.heap.size,w',.inl ?_,hS.set hp (λF hF=>⟨λk=>k=b\/k=w.heap.size,⟨⟨D,?_,h2,h3,h4,λ_ h=>h,λ_ h=>by cases h⟩,λ_=>Iff.rfl⟩,(Keeps.refl _ _).grown r2 (λ_ h=>by cases h),λk hk=>?_⟩)⟩
 ·obtain⟨dst,op,type,pos',after,guard⟩:=o
  cases ho
  simp only [execOp,hx]
  simp [hrun,Result.andThen]
 ·rw [←h2]
  have e:Maps.has D=λkl=>(f kl).isSome:=funext h3
  rw [e] at r1
  rw [h2] at r1 ⊢
  exact r1
 rcases hk with rfl|rfl
 ·exact .inl ((hF.2 _).2 rfl)
 exact .inr (Nat.le_refl _)
theorem kQ.map {w:World} {D:DataW Value} (h:NV P K w b r f n left cnt last D):iA P K w b f n:=⟨D,h.rg.owns,h.sz,h.has,h.at_⟩
theorem ai.mapNext (i:Nat) (hop:∀junk,fH N junk ops fr k=some (.next x false,d)) (hp:hps[i]?=some (.abs (kQ P K b r f n left cnt last))) (hx:∀junk,cL N fr junk x=.pointer (some ⟨r,0,none⟩)) (L:Keyed P K) (hK:P.underlying K=some (.int .i64))
 (aa9:cnt=0->(∀kl,left kl=false)->ai P β N ops (k+1) (cI fr d (.tuple #[.bool false])) hps Q)
 (abb:∀(z:Int) (u:Value) (cnt':Nat),left (.int .i64 z)=true->f (.int .i64 z)=some u->(Lit.int .i64 z).wf=true->cnt'<cnt →
  ai P β N ops (k+1) (cI fr d (.tuple #[.bool true,.int .i64 z,u])) (hps.set i (.abs (kQ P K b r f n (λkl=>left kl && !kl.sameKey (.int .i64 z)) cnt' (some (.tuple #[.int .i64 z,u]))))) Q):ai P β N ops k fr hps Q:=by
 intro junk w hS
 obtain⟨F,⟨D,h⟩,hF⟩:=hS.get hp
 obtain⟨o,h1,h2,h3,rfl⟩:=fB (hop junk)
 rcases h.rg.next L o.type with ⟨e0,el,hrun⟩|⟨key,u,kl,y,w',cnt',hkey,hlk,hv,hat,hrun,hrg,hlt,hgr,hsz,hen⟩
 ·have hk:=aa9 e0 el junk w hS
  rw [drop_cons h1]
  unfold wpList
  rw [fq,if_pos h2]
  refine .inl (mU (v:=.tuple #[.bool false]) (w':=w) (.inl ?_) (by rw [eP];exact hk))
  rw [fO]
  obtain⟨dst,op,type,pos',after,guard⟩:=o
  cases h3
  simp only [execOp,hx]
  simp at hrun
  simp [hrun,Result.andThen]
 obtain⟨z,rfl,rfl,hwf⟩:=Maps.keyOf_int_inv hK hkey
 have hsome:=h.sub _ hlk
 obtain⟨u',hu'⟩:=Option.isSome_iff_exists.1 hsome
 have e1:=h.at_ _ _ hu' (.held u')
 rw [hat] at e1
 have e2:y.1=.held u:=by
  unfold vl at hv
  cases hv
  rfl
 rw [e2] at e1
 cases e1
 have hk:=abb z u cnt' hlk hu' hwf hlt junk w' (hS.set hp (λF hF=>⟨F,⟨⟨D,hrg,h.sz,h.has,h.at_,λkl hl=>h.sub kl (by simp at hl;exact hl.1),λt ht=>by cases ht;exact⟨w',rfl,rfl,hen⟩⟩,hF.2⟩,(Keeps.refl (λk=>F k) w).grown hgr (λj hj=>by cases hj;exact .inr ((hF.2 _).2 (.inr rfl))),λ_ h=>.inl h⟩))
 rw [drop_cons h1]
 unfold wpList
 rw [fq,if_pos h2]
 refine .inl (mU (v:=.tuple #[.bool true,.int .i64 z,u]) (w':=w') (.inl ?_) (by rw [eP];exact hk))
 rw [fO]
 obtain⟨dst,op,type,pos',after,guard⟩:=o
 cases h3
 simp only [execOp,hx]
 simp at hrun
 simp [hrun,Result.andThen]
theorem ai.mapEntry (i:Nat) (hop:∀junk,fH N junk ops fr k=some (.entry x,d)) (hp:hps[i]?=some (.abs (kQ P K b r f n left cnt (some v)))) (hx:∀junk,cL N fr junk x=.pointer (some ⟨r,0,none⟩))
 (K':ai P β N ops (k+1) (cI fr d v) hps Q):ai P β N ops k fr hps Q:=by
 refine ai.kB hop (λo junk w ho hS=>⟨w,.inl ?_,hS⟩) K'
 obtain⟨F,⟨D,h⟩,hF⟩:=hS.get hp
 have hl:=h.last _ rfl
 obtain⟨es,clock,since,seen,c0,e1,e2,e3,e4,e5,e6⟩:=h.rg
 have hrun:=hl.run e1 e5
 obtain⟨dst,op,type,pos',after,guard⟩:=o
 cases ho
 simp only [execOp,hx]
 simp [hrun,Result.andThen]
theorem kQ.getM {w:World} (hS:Sat β hps w) (hp:hps[i]?=some (.abs (kQ P K b r f n left cnt last))):iA P K w b f n:=by
 obtain⟨F,⟨D,h⟩,hF⟩:=hS.get hp
 exact kQ.map h
theorem ai.Dt {ix:Operand} {key z:Value} {kl:Lit} {u:Option Value} (i:Nat) (hop:∀junk,fH N junk ops fr k=some (.lookup t x ix true,d)) (hp:hps[i]?=some (.abs (kQ P K b r f n left cnt last))) (hx:∀junk,cL N fr junk x=.map (some b)) (hix:∀junk,cL N fr junk ix=key) (L:Keyed P K)
 (ht:P.underlying t=some (.map K E)) (hz:∀w,(zeroValue E).run P w=.ok z w) (hkey:keyOf P K key=some kl) (hr:f kl=u) (K':ai P β N ops (k+1) (cI fr d (.tuple #[u.getD z,.bool u.isSome])) hps Q):ai P β N ops k fr hps Q:=by
 subst hr
 exact ai.kB hop (λo junk w ho hS=>⟨w,EV ho (kQ.getM hS hp) (hx junk) (hix junk) L ht (hz w) hkey,hS⟩) K'
theorem ai.Um (i:Nat) {ats:Array TypeId} (hop:∀junk,fH N junk ops fr k=some (.call ⟨.builtin .len,#[x],ats⟩,d)) (hp:hps[i]?=some (.abs (kQ P K b r f n left cnt last))) (hx:∀junk,cL N fr junk x=.map (some b)) (vX:ats=#[t]) (ht:P.underlying t=some (.map K E))
 (K':ai P β N ops (k+1) (cI fr d (.int .i64 ((n:Nat):Int))) hps Q):ai P β N ops k fr hps Q:=
 ai.kB hop (λ_ junk w ho hS=>⟨w,CC ho vX (kQ.getM hS hp) (hx junk) ht,hS⟩) K'
end rules
end
section
open Go.RowKit
theorem JA (z:Value) (n:Nat):(madeCells #[z] (n*1)).toList=List.replicate n z:=by
 rw [Nat.mul_one]
 apply List.ext_getElem
 ·simp [madeCells]
 intro j h1 h2
 simp [madeCells,Nat.mod_one]
section make
variable {P:Program} {β:Bs} {N:dx} {ops:Array Oper} {k:Nat} {fr:Fr} {hps:List HP} {Q:Post} {d:Option Tmp}
theorem ai.Un {t e:TypeId} {z:Value} {bytes n:Nat} {l c:Operand} (hop:∀junk,fH N junk ops fr k=some (.makeSlice t l c,d)) (hl:∀junk,cL N fr junk l=.int .i64 ((n:Nat):Int)) (hc:∀junk,cL N fr junk c=.int .i64 ((n:Nat):Int))
 (ht:P.underlying t=some (.slice e)) (oJ:(P.info? e).map (λi=>(i.zero,i.size,i.bytes))=some (some z,1,bytes)) (hzs:z.cells=#[z]) (hn:n<=16777216) (hb:bytes*n<=281474976710656)
 (K':∀b,ai P β N ops (k+1) (cI fr d (.slice (some ⟨b,0,none⟩) n n)) (hps++[.abs (aq e 1 (some ⟨b,0,none⟩) n n (List.replicate n z))]) Q):ai P β N ops k fr hps Q:=by
 obtain⟨inf,hi,hz,hsize,hby⟩:∃inf,P.info? e=some inf/\inf.zero=some z/\inf.size=1/\inf.bytes=bytes:=by
  cases h:P.info? e with
  |none=>rw [h] at oJ;cases oJ
  |some inf=>rw [h] at oJ;simp at oJ;exact⟨inf,rfl,oJ.1,oJ.2.1,oJ.2.2⟩
 refine ai.Gu (ι:=Nat) (v:=λb=>.slice (some ⟨b,0,none⟩) n n) (hp':=λb=>hps++[.abs (aq e 1 (some ⟨b,0,none⟩) n n (List.replicate n z))]) hop (λo junk w ho hS=>?_) K'
 obtain⟨w',h1,h2,h3⟩:=run_makeSlice_full (P:=P) w 0 t e inf z 1 ht hi hz hsize .i64 .i64 n (by omega) (by rw [hby];exact hb) (by unfold maxLen;omega) (Nat.zero_le _)
 rw [hzs,JA] at h2
 refine⟨w.heap.size,w',.inl ?_,hS.new (F:=λk=>k=w.heap.size) ⟨h2,λj=>by simp [Value.ownBlock,eq_comm]⟩ ((Keeps.refl _ _).grown h3 (λ_ h=>by cases h)) (λk e=>Nat.le_of_eq e.symm)⟩
 obtain⟨dst,op,type,pos,after,guard⟩:=o
 cases ho
 simp only [execOp,hl,hc]
 simp [h1,Result.andThen]
end make
end
section
open Go.RowKit
section mark
variable {P:Program} {β:Bs} {N:dx} {ops:Array Oper} {k:Nat} {fr:Fr} {hps:List HP} {Q:Post} {d:Option Tmp}
end mark
section adds
variable {P:Program} {β:Bs} {N:dx} {ops:Array Oper} {e0 k:Nat} {fr:Fr} {hps:List HP} {Q:Post} {d:Option Tmp} {t t2:TypeId} {x y:Operand} {a b:ByteArray}
end adds
theorem aq.cellAt {e:TypeId} {A:Option Addr} {size n cap i j:Nat} {xs:List Value} {u:Value} (hi:i<n) (hj:xs[i*size+j]?=some u):∀F w,(aq e size A n cap xs).h F w->w.cell? ⟨aV A,aU A+i*size+j,none⟩=some u:=by
 intro F w h
 obtain⟨g,rfl⟩:=aq.head h (by omega)
 have:=aq.cell hj F w h
 grind [aq,aV,aU]
def sA (a b:ByteArray):Int:=Lib.compareBytes a.data.toList b.data.toList
theorem H6:∀a:List UInt8,Lib.compareBytes a a=0
 |[]=>rfl
 |a::r=>by
   have h:¬a<a:=by intro h;exact absurd h (by simp)
   simp only [Lib.compareBytes,if_neg h]
   exact H6 r
theorem H7:∀{a b:List UInt8},Lib.compareBytes a b=0->a=b
 |[],[],_=>rfl
 |[],_::_,h=>by simp [Lib.compareBytes] at h
 |_::_,[],h=>by simp [Lib.compareBytes] at h
 |a::x,b::y,h=>by
   unfold Lib.compareBytes at h
   split at h
   ·cases h
   rename_i h1
   split at h
   ·cases h
   rename_i h2
   have e:a=b:=by
    apply UInt8.toNat_inj.1
    have h3:¬a.toNat<b.toNat:=λh=>h1 (UInt8.lt_iff_toNat_lt.2 h)
    have h4:¬b.toNat<a.toNat:=λh=>h2 (UInt8.lt_iff_toNat_lt.2 h)
    omega
   rw [e,H7 h]
theorem H8:∀{a b:List UInt8},Lib.compareBytes a b<0↔Op.bytesLess a b=true
 |[],[]=>by simp [Lib.compareBytes,Op.bytesLess]
 |[],_::_=>by simp [Lib.compareBytes,Op.bytesLess]
 |_::_,[]=>by simp [Lib.compareBytes,Op.bytesLess]
 |a::x,b::y=>by
   unfold Lib.compareBytes Op.bytesLess
   by_cases h1:a<b
   ·simp [h1]
   by_cases h2:b<a
   ·have h3:¬a=b:=λe=>by subst e;exact h1 h2
    simp [h1,h2,h3]
   have e:a=b:=by
    apply UInt8.toNat_inj.1
    have h3:¬a.toNat<b.toNat:=λh=>h1 (UInt8.lt_iff_toNat_lt.2 h)
    have h4:¬b.toNat<a.toNat:=λh=>h2 (UInt8.lt_iff_toNat_lt.2 h)
    omega
   subst e
   simp only [h1,if_false,decide_false,beq_self_eq_true,Bool.true_and,Bool.false_or]
   exact H8
theorem E0:∀{a b c:List UInt8},Lib.compareBytes a b<0->Lib.compareBytes b c<=0->Lib.compareBytes a c<0
 |[],[],_,h,_=>by simp [Lib.compareBytes] at h
 |[],_::_,[],_,h=>by simp [Lib.compareBytes] at h
 |[],_::_,_::_,_,_=>by simp [Lib.compareBytes]
 |_::_,[],_,h,_=>by simp [Lib.compareBytes] at h
 |_::_,_::_,[],_,h=>by simp [Lib.compareBytes] at h
 |a::x,b::y,c::z,h,g=>by
   unfold Lib.compareBytes at h g ⊢
   by_cases h1:a<b
   ·by_cases g1:b<c
    ·have:a<c:=by rw [UInt8.lt_iff_toNat_lt] at *;omega
     simp [this]
    by_cases g2:c<b
    ·simp [g1,g2] at g
    have e:b=c:=by
     apply UInt8.toNat_inj.1
     rw [UInt8.lt_iff_toNat_lt] at *
     omega
    subst e
    simp [h1]
   by_cases h2:b<a
   ·simp [h1,h2] at h
   have e:a=b:=by
    apply UInt8.toNat_inj.1
    rw [UInt8.lt_iff_toNat_lt] at *
    omega
   subst e
   simp only [h1,if_false] at h
   by_cases g1:a<c
   ·simp [g1]
   by_cases g2:c<a
   ·simp [g1,g2] at g
   simp only [g1,g2,if_false] at g ⊢
   exact E0 h g
theorem H9:∀{a b:List UInt8},Lib.compareBytes b a = - Lib.compareBytes a b
 |[],[]=>rfl
 |[],_::_=>rfl
 |_::_,[]=>rfl
 |a::x,b::y=>by
   unfold Lib.compareBytes
   by_cases h1:a<b
   ·have h2:¬b<a:=by rw [UInt8.lt_iff_toNat_lt] at *;omega
    simp [h1,h2]
   by_cases h2:b<a
   ·simp [h1,h2]
   simp only [h1,h2,if_false]
   exact H9
theorem Ia (a:ByteArray):sA a a=0:=H6 _
theorem Ib {a b:ByteArray}:sA a b=0↔a=b:=by
 refine⟨λh=>?_,λh=>by rw [h];exact Ia b⟩
 have:=H7 h
 obtain⟨⟨a⟩⟩:=a
 obtain⟨⟨b⟩⟩:=b
 have this:a=b:=this
 rw [this]
theorem E4 {a b c:ByteArray} (h:sA a b<0) (g:sA b c<=0):sA a c<0:=E0 h g
theorem Bf (a b:ByteArray):sA b a = - sA a b:=H9
end
section
open Go.RowKit
def NP (Q:Post):Post:=λe a w=>match e with
 |.normal=>Q .normal a w
 |_=>False
section order
variable {P:Program} {ops:Array Oper} {Q Q':Post} {n:Nat} {S:World->Prop}
theorem sB (h:LetsOut (NP Q)):False:=by
 obtain⟨a,w,h⟩:=h
 exact h
theorem JK {o:Oper} {a:Act} {w:World} {K:Act->World->Prop} (h:o.wp P a w K (NP Q)):o.wp P a w K (NP Q'):=by
 unfold Oper.wp at *
 generalize (execOp a.eval o).run P w=r at *
 cases r with
 |ok m w'=>
   cases m<;>simp only [Oper.upon] at h ⊢ <;>
    first
     |exact h
     |exact Calls.mono h (λe w'' he=>by cases e<;>first|exact he|exact (sB he).elim)
 |halt x w'=>cases x<;>simp only [Oper.upon] at h ⊢;exact h
theorem jq {i:Nat} {o:Oper} {a:Act} {w:World} {K:Act->World->Prop} (hi:ops[i]?=some o) (hg:o.guard=none) (h:wpList P #[o] (NP λ_ a w=>K a w) [o] a w):wpOp P ops (NP Q) i K a w:=by
 unfold wpOp
 simp only [hi]
 have hw:∀y,Region.wanted o y=true:=λy=>by unfold Region.wanted;rw [hg]
 rw [if_pos (hw _)]
 unfold wpList at h
 rw [if_pos (hw _)] at h
 rcases h with h|⟨_,h⟩
 ·exact .inl (JK (Oper.wp_mono (λa w h=>h) h))
 exact (sB h).elim
theorem lK {o:Oper} {a:Act} {w:World} (hq:∀a w,Q .normal a w->Q' .normal a w) (h:wpList P ops (NP Q) [o] a w):wpList P ops (NP Q') [o] a w:=by
 unfold wpList at *
 split
 ·rename_i hw
  rw [if_pos hw] at h
  rcases h with h|⟨_,h⟩
  ·exact .inl (JK (Oper.wp_mono (λa w h=>hq a w h) h))
  exact (sB h).elim
 rename_i hw
 rw [if_neg hw] at h
 exact hq _ _ h
def jy (P:Program) (ops:Array Oper) (Q:Post) (n:Nat) (S:World->Prop):Nat->Array Bool->Act->World->Prop
 |0,listed,a,w=>Region.ready .any ops listed=[]/\Q .normal a w
 |fuel+1,listed,a,w=>(Region.ready .any ops listed=[]->Q .normal a w) ∧
   ∀i∈Region.ready .any ops listed,wpOp P ops Q i (λa' w'=>(i=n\/S w')/\jy P ops Q n S fuel (listed.setIfInBounds i true) a' w') a w
theorem qm:∀(fuel:Nat) (listed:Array Bool) (a:Act) (w:World),jy P ops Q n S fuel listed a w->wpAny P .any ops Q fuel listed a w
 |0,_,_,_,h=>h
 |fuel+1,_,_,_,h=>⟨h.1,λi hi=>wpOp_mono (λa' w' h'=>qm fuel _ a' w' h'.2) (h.2 i hi)⟩
def Closed (ops:Array Oper) (listed:Array Bool):Prop:=∀j oj,ops[j]?=some oj->listed.getD j false=true->∀e∈oj.after,Region.binds .any e=true->listed.getD e.on false=true
theorem Closed.set {listed:Array Bool} {j:Nat} (h:Closed ops listed) (hj:j∈Region.ready .any ops listed):Closed ops (listed.setIfInBounds j true):=by
 obtain⟨_,oj,hoj,hall⟩:=mem_ready.1 hj
 intro k ok hk hl e he hb
 refine getD_set_true ?_
 by_cases hjk:j=k
 ·grind
 rw [getD_set_ne false hjk] at hl
 exact h k ok hk hl e he hb
theorem Ic (hs:Region.sinkB .any ops n=true) {listed:Array Bool} (hc:Closed ops listed):∀(m i:Nat),n-i<=m->i<n->listed.getD i false=false->n∉Region.ready .any ops listed
 |0,i,hm,hi,_=>by omega
 |m+1,i,hm,hi,hu=>λhr=>by
   unfold Region.sinkB at hs
   rw [List.all_eq_true] at hs
   have h1:=hs i (List.mem_range.2 hi)
   rw [List.any_eq_true] at h1
   obtain⟨j,hj,h2⟩:=h1
   rw [Bool.and_eq_true,decide_eq_true_iff] at h2
   have hj:=List.mem_range.1 hj
   obtain⟨oj,hoj,e,he,hb,heq⟩:=Region.waitsFor_spec h2.2
   by_cases hjn:j=n
   ·subst hjn
    obtain⟨_,oj',YR,hall⟩:=mem_ready.1 hr
    rw [hoj] at YR
    cases YR
    have:=hall e he hb
    rw [heq,hu] at this
    cases this
   cases hl:listed.getD j false with
   |true=>
     have:=hc j oj hoj hl e he hb
     rw [heq,hu] at this
     cases this
   |false=>exact Ic (by unfold Region.sinkB;rw [List.all_eq_true];exact hs) hc m j (by omega) (by omega) hl hr
theorem uX {listed:Array Bool} {i:Nat} (h:i∈Region.ready .any ops listed):listed.getD i false=false:=by
 have h1:=(mem_ready.1 h).1
 grind
theorem sC {i:Nat} {oi:Oper} {v:Value} (hi:ops[i]?=some oi) (hsel:Region.noSelect ops=true) (mV:Region.sinkB .any ops n=true) (hin:i<n) :
 ∀(fuel:Nat) (listed:Array Bool) (a:Act) (w:World),Closed ops listed →
   (∀j oj,ops[j]?=some oj->j≠i->listed.getD j true=false->(∀e∈oj.after,Region.binds .any e=true->e.on≠i)->oi.apart ops oj=true) →
   i∈Region.ready .any ops listed->YieldsIf P ops S oi v a->S w →
   jy P ops (NP Q) n S fuel (listed.setIfInBounds i true) (a.put oi.dst v) w->jy P ops (NP Q) n S (fuel+1) listed a w:=by
 intro fuel
 induction fuel with
 |zero=>
   intro listed a w _ _ hr hy hS H
   refine⟨λh=>(by rw [h] at hr;cases hr),λj hj=>?_⟩
   by_cases hji:j=i
   ·subst hji;exact hy.wpOp hi hS ⟨.inr hS,H⟩
   have:=ready_mono hj hji
   rw [H.1] at this
   cases this
 |succ fuel ih=>
   intro listed a w hcl hfree hr hy hS H
   refine⟨λh=>(by rw [h] at hr;cases hr),λj hj=>?_⟩
   by_cases hji:j=i
   ·subst hji;exact hy.wpOp hi hS ⟨.inr hS,H⟩
   have h1:=H.2 j (ready_mono hj hji)
   have hjn:j≠n:=λe=>by
    subst e
    exact Ic mV hcl _ i (Nat.le_refl _) hin (uX hr) hj
   obtain⟨hjun,oj,hoj,hall⟩:=mem_ready.1 hj
   have hnot:∀e∈oj.after,Region.binds .any e=true->e.on≠i:=λe he hb heq=>by
    grind [uX]
   have h2:=wpOp_putIf (S:=S) (Q:=NP Q) hoj (hfree j oj hoj hji hjun hnot) (λcs b=>Region.noSelect_spec hsel i oi cs b hi) (λcs b=>Region.noSelect_spec hsel j oj cs b hoj) (λ_ _ _ h=>h) hy h1
   have hfree':∀k ok,ops[k]?=some ok->k≠i->(listed.setIfInBounds j true).getD k true=false →
    (∀e∈ok.after,Region.binds .any e=true->e.on≠i)->oi.apart ops ok=true:=λk ok hk hki hun hno=>by
    refine hfree k ok hk hki ?_ hno
    by_cases hjk:j=k
    ·subst hjk;exact hjun
    rw [getD_set_ne true hjk] at hun;exact hun
   refine wpOp_mono (λa' w' h3=>?_) h2
   have dY:S w':=h3.2.1.resolve_left hjn
   refine⟨.inr dY,ih (listed.setIfInBounds j true) a' w' (hcl.set hj) hfree' (ready_mono hr (Ne.symm hji)) h3.1 dY ?_⟩
   rw [Array.setIfInBounds_comm _ _ hji]
   exact h3.2.2
def qX (P:Program) (ops:Array Oper) (Q:Post) (S:World->Prop):Nat->List Nat->Act->World->Prop
 |_,[],a,w=>Q .normal a w
 |0,i::l,a,w=>wpOp P ops Q i (λa' w'=>(l=[]\/S w')/\qX P ops Q S 0 l a' w') a w
 |r+1,i::l,a,w=>∃o v,ops[i]?=some o/\YieldsIf P ops S o v a/\qX P ops Q S r l (a.put o.dst v) w
def zl (ops:Array Oper) (n:Nat):Nat->List Nat->Array Bool->Bool
 |_,[],listed=>(Region.ready .any ops listed).isEmpty
 |0,i::l,listed=>(Region.ready .any ops listed == [i]) && (!l.isEmpty || i == n) && zl ops n 0 l (listed.setIfInBounds i true)
 |r+1,i::l,listed=>decide (i<n) && Region.free .any ops listed i && (Region.ready .any ops listed).contains i && zl ops n r l (listed.setIfInBounds i true)
theorem Ie (hsel:Region.noSelect ops=true):∀(l:List Nat) (listed:Array Bool) (a:Act) (w:World),zl ops n 0 l listed=true->qX P ops (NP Q) S 0 l a w->jy P ops (NP Q) n S l.length listed a w
 |[],listed,a,w,hb,h=>⟨List.isEmpty_iff.1 hb,h⟩
 |i::l,listed,a,w,hb,h=>by
   unfold zl at hb
   simp only [Bool.and_eq_true,beq_iff_eq] at hb
   obtain⟨⟨h1,h2⟩,h3⟩:=hb
   refine⟨λh0=>(by rw [h1] at h0;cases h0),λj hj=>?_⟩
   rw [h1] at hj
   have hj:j=i:=by simpa using hj
   subst hj
   refine wpOp_mono (λa' w' h4=>⟨?_,Ie hsel l _ a' w' h3 h4.2⟩) h
   rcases h4.1 with h5|h5
   ·subst h5;exact .inl (by simpa using h2)
   exact .inr h5
theorem Gx (hsel:Region.noSelect ops=true) (mV:Region.sinkB .any ops n=true):∀(r:Nat) (l:List Nat) (listed:Array Bool) (a:Act) (w:World),zl ops n r l listed=true->Closed ops listed->S w->qX P ops (NP Q) S r l a w->jy P ops (NP Q) n S l.length listed a w
 |0,l,listed,a,w,hb,_,_,h=>Ie hsel l listed a w hb h
 |r+1,[],listed,a,w,hb,_,_,h=>⟨List.isEmpty_iff.1 hb,h⟩
 |r+1,i::l,listed,a,w,hb,hc,hS,h=>by
   unfold zl at hb
   simp only [Bool.and_eq_true,decide_eq_true_iff] at hb
   obtain⟨⟨⟨h1,h2⟩,h3⟩,h4⟩:=hb
   obtain⟨o,v,ho,hy,hk⟩:=h
   have hr:i∈Region.ready .any ops listed:=by simpa using h3
   exact sC ho hsel mV h1 l.length listed a w hc (Region.free_spec ho h2) hr hy hS (Gx hsel mV r l _ _ w h4 (hc.set hr) hS hk)
def Bg (ops:Array Oper) (perm:List Nat) (nr:Nat):Bool:=
 Region.noSelect ops && Region.sinkB .any ops (ops.size-1) && (perm.length == ops.size) && zl ops (ops.size-1) nr perm (Array.replicate ops.size false)
end order
section mix
variable {P:Program} {β:Bs} {N:dx} {ops:Array Oper} {S:List HP} {r r':Nat} {l l':List Nat} {fr fr':Fr} {hps:List HP} {Q:Post} {cG:List Prop} {d:Option Tmp} {op:Op} {v:Value} {i:Nat} {pk:List Nat}
def bg (P:Program) (β:Bs) (N:dx) (ops:Array Oper) (S:List HP) (r:Nat) (l:List Nat) (fr:Fr) (hps:List HP) (Q:Post):Prop:=
 ∀junk w,Sat β hps w->qX P ops (NP Q) (Sat β S) r l (cr N fr junk) w
theorem ah.Q8 {id:Nat} (perm:List Nat) (nr:Nat) (pk:List Nat) (hm:P.follows .mixedOrders=true) (hB:Bg ops perm nr=true) (hn:nodupB pk=true) (hp:bh hps pk=some S) (h:bg P β N ops S nr perm fr hps Q):ah P β N (.region id ops true) fr hps Q:=by
 intro junk w hS
 unfold Bg at hB
 simp only [Bool.and_eq_true,beq_iff_eq] at hB
 obtain⟨⟨⟨h1,h2⟩,h3⟩,h4⟩:=hB
 have dY:=hS.drewN 1
 have h5:=Gx (Q:=Q) h1 h2 nr perm _ _ _ h4 (λj oj _ hl=>by simp [Array.getD_eq_getD_getElem?,Array.getElem?_replicate] at hl;split at hl<;>simp at hl) (dY.pick hn hp) (h junk (w.drewN 1) dY)
 rw [h3] at h5
 refine Code.wp_mono (λe a w q=>?_) (wp_region_any hm (qm _ _ _ _ h5))
 cases e with
 |normal=>exact q
 |exit id=>exact q.elim
 |goto l=>exact q.elim
 |ret=>exact q.elim
 |panic ch=>exact q.elim
 |outgrown=>exact q.elim
def yD:Value->Bool
 |.tuple a=>decide (a.size≠0)
 |_=>true
theorem rJ {v:Value} (h:yD v=true):¬v=undef:=λe=>by subst e;exact absurd h (by decide)
def ug (P:Program) (β:Bs) (N:dx) (junk:Nat->Value) (ops:Array Oper):List OH->List Nat->Fr->SS->Option (Fr×SS)
 |[],[],fr,S=>some (fr,S)
 |h::hs,i::is,fr,S=>
   match ops[i]? with
   |some o=>
     match o.guard with
     |none=>
       match vT P β 0 true (cL N fr junk) o h S with
       |some (v,S')=>
         match yD v with
         |true=>ug P β N junk ops hs is (cI fr o.dst v) S'
         |false=>none
       |none=>none
     |some _=>none
   |none=>none
 |_,_,_,_=>none
def tf (P:Program) (β:Bs) (N:dx) (junk:Nat->Value) (ops:Array Oper) (hs:List OH) (is:List Nat) (fr:Fr) (S:List HP) (idx:List Nat):Option (Fr×List Prop):=
 match ug P β N junk ops hs is fr ⟨[],S,[],true⟩ with
 |some (fr',S')=>some (iG fr' junk idx,S'.cG)
 |none=>none
theorem zm {junk:Nat->Value}:∀{hs:List OH} {is:List Nat} {fr fr':Fr} {S S':SS},ug P β N junk ops hs is fr S=some (fr',S')->∀p,p∈S.cG->p∈S'.cG
 |[],[],fr,fr',S,S',h,p,hp=>by cases h;exact hp
 |h::hs,i::is,fr,fr',S,S',hr,p,hp=>by
   unfold ug at hr
   repeat' split at hr
   all_goals first|(cases hr;done)|skip
   rename_i h0 _ _
   exact zm hr p (DX h0 p hp)
 |[],_::_,_,_,_,_,h,_,_=>by cases h
 |_::_,[],_,_,_,_,h,_,_=>by cases h
theorem Bh {junk:Nat->Value} {w:World}:∀{hs:List OH} {is:List Nat} {fr fr':Fr} {T T':SS},ug P β N junk ops hs is fr T=some (fr',T')->(∀p,p∈T'.cG->p)->T.used=true->T.hps=S →
 qX P ops (NP Q) (Sat β S) r l (cr N fr' junk) w->qX P ops (NP Q) (Sat β S) (is.length+r) (is++l) (cr N fr junk) w
 |[],[],fr,fr',T,T',h,ho,hu,hT,hK=>by cases h;simpa using hK
 |h::hs,i::is,fr,fr',T,T',hr,ho,hu,hT,hK=>by
   unfold ug at hr
   repeat' split at hr
   all_goals first|(cases hr;done)|skip
   rename_i o hget _ J5 _ v T1 h0 _ hv
   obtain⟨e1,e2⟩:=vG h0
   have e:(i::is).length+r=(is.length+r)+1:=by simp;omega
   rw [e,List.cons_append]
   unfold qX
   refine⟨o,v,hget,.inl ⟨by unfold Region.wanted;rw [J5],λw' dY=>?_⟩,?_⟩
   ·rw [fO]
    obtain⟨w2,h1,_,_,h4⟩:=mT h0 (λp hp=>ho p (zm hr p hp)) (by rw [hT];exact dY) (λe=>by rw [hu] at e;cases e)
    obtain⟨ew,_⟩:=h4 rfl
    rw [ew] at h1
    rcases h1 with h1|⟨h1,_⟩
    ·exact h1
    exact absurd h1 (rJ hv)
   rw [eP]
   exact Bh hr ho (e2.trans hu) (e1.trans hT) hK
 |[],_::_,_,_,_,_,h,_,_,_,_=>by cases h
 |_::_,[],_,_,_,_,h,_,_,_,_=>by cases h
theorem bg.reads (is:List Nat) (hs:List OH) (idx:List Nat) (h:∀junk,tf P β N junk ops hs is fr S idx=some (fr',cG)) (ho:lG cG) (hr:r'=is.length+r) (hl:l'=is++l) (K:bg P β N ops S r l fr' hps Q):bg P β N ops S r' l' fr hps Q:=by
 intro junk w hS
 subst hr hl
 have h0:=h junk
 unfold tf at h0
 split at h0
 ·rename_i o5 S1 h1
  cases h0
  have hK:=K (lk o5 junk) w hS
  rw [←lq] at hK
  exact Bh h1 (λp hp=>ho.mem hp) rfl rfl hK
 cases h0
def Q9 (ops:Array Oper) (i:Nat):Option (Op×Option Tmp):=match ops[i]? with
 |some o=>match o.guard with
   |none=>some (o.op,o.dst)
   |some _=>none
 |none=>none
theorem Uo (h:Q9 ops i=some (op,d)):∃o,ops[i]?=some o/\o.guard=none/\o.op=op/\o.dst=d:=by
 grind [Q9]
theorem bg.abd (hop:Q9 ops i=some (op,d)) (h:∀(o:Oper) junk w,o.op=op->Sat β S w->pP P (cL N fr junk) o w v w) (hv:yD v=true) (K:bg P β N ops S r l (cI fr d v) hps Q):bg P β N ops S (r+1) (i::l) fr hps Q:=by
 intro junk w hS
 obtain⟨o,h1,h2,h3,rfl⟩:=Uo hop
 unfold qX
 refine⟨o,v,h1,.inl ⟨by unfold Region.wanted;rw [h2],λw' dY=>?_⟩,?_⟩
 all_goals grind [fO,rJ,eP,Q9,Sat,pP,cL,yD,bg,cI]
def rK (β:Bs) (N:dx) {ι:Type} (fr:ι->Fr) (hp:ι->List HP):Post:=λ_ a w=>∃i junk,a=cr N (fr i) junk/\Sat β (hp i) w
theorem bg.cut {ι:Type} {fr':ι->Fr} {hp':ι->List HP} {o:Oper} (pk:List Nat) (hop:ops[i]?=some o) (hg:o.guard=none) (h:ai P β N #[o] 0 fr hps (NP (rK β N fr' hp'))) (hn:nodupB pk=true) (hp:∀j,bh (hp' j) pk=some S)
 (K:∀j,bg P β N ops S 0 l (fr' j) (hp' j) Q):bg P β N ops S 0 (i::l) fr hps Q:=by
 intro junk w hS
 unfold qX
 refine jq hop hg ?_
 have h1:=h junk w hS
 have h2:wpList P #[o] (NP (rK β N fr' hp')) [o] (cr N fr junk) w:=h1
 refine lK (λa w ⟨j,jr,ha,dY⟩=>?_) h2
 subst ha
 exact⟨.inr (dY.pick hn (hp j)),K j jr w dY⟩
theorem bg.last {o:Oper} (hop:ops[i]?=some o) (hg:o.guard=none) (h:ai P β N #[o] 0 fr hps (NP Q)):bg P β N ops S 0 [i] fr hps Q:=by
 grind [qX,jq,NP,cr,lK,ai,bg]
theorem aj.mid {ι:Type} {fr':ι->Fr} {hp':ι->List HP} (j:ι) {idx pk:List Nat} (hf:∀junk,iG fr junk idx=fr' j) (hn:nodupB pk=true) (hp:bh hps pk=some (hp' j)):aj β N (NP (rK β N fr' hp')) .normal fr hps:=
 λjunk _ hS=>⟨j,lk fr junk,by rw [lq N fr junk idx,hf junk],hS.pick hn hp⟩
theorem aj.np (h:aj β N Q .normal fr hps):aj β N (NP Q) .normal fr hps:=λjunk w hS=>h junk w hS
section maps
open Go.Maps
variable {t K E:TypeId} {b cnt:Nat} {f:Lit->Option Value} {x ix:Operand} {key z:Value} {kl:Lit} {q:Option Value}
theorem bg.ig (p:Nat) (hop:Q9 ops i=some (.lookup t x ix false,d)) (hp:S[p]?=some (.abs (aY P K b f cnt))) (hx:∀junk,cL N fr junk x=.map (some b)) (hix:∀junk,cL N fr junk ix=key) (L:Keyed P K)
 (ht:P.underlying t=some (.map K E)) (hz:∀w,(zeroValue E).run P w=.ok z w) (hkey:keyOf P K key=some kl) (hr:f kl=q) (hv:yD (q.getD z)=true) (K':bg P β N ops S r l (cI fr d (q.getD z)) hps Q):bg P β N ops S (r+1) (i::l) fr hps Q:=by
 subst hr
 exact bg.abd hop (λ_ junk w ho hS=>zj ho (aY.get hS hp) (hx junk) (hix junk) L ht (hz w) hkey) hv K'
end maps
end mix
end
section
open Go.RowKit
structure OP where
 h:OH
 ps:List Prop
 pf:lG ps
def n_:OP:=⟨o_,[],trivial⟩
def a_ (i b:Nat):OP:=⟨⟨[.at i],none,none,none,none⟩,[b=b],rfl,trivial⟩
def v_ {A:cK} {a:Addr} {v:Value} (i:Nat) (h:∀F w,A.h F w->w.cell? a=some v):OP:=⟨⟨[.view i v],none,none,none,none⟩,[∀F w,A.h F w->w.cell? a=some v],h,trivial⟩
def w_ {v:Value} (v':Value) (h:v=v'):OP:=⟨⟨[],none,none,none,some v'⟩,[v=v'],h,trivial⟩
def Pr {α:Type} (x:α):Nat->List α
 |0=>[]
 |n+1=>x::Pr x n
theorem YS {p:Prop} (h:p):∀n,lG (Pr p n)
 |0=>trivial
 |n+1=>⟨h,YS h n⟩
def A_ (i b n:Nat):OP:=⟨⟨Pr (.at i) n,none,none,none,none⟩,Pr (b=b) n,YS rfl n⟩
def wI (x y:Int) (h:x=y:=by first|rfl|omega) (lo:-9223372036854775808<=y:=by omega) (hi:y<=9223372036854775807:=by omega):OP:=w_ (.int .i64 y) (vW h lo hi)
def p_ (h:OH) (ps:List Prop) (pf:lG ps):OP:=⟨h,ps,pf⟩
def bX:Nat->List (Nat×OP)->Nat->List OP
 |0,_,_=>[]
 |n+1,l,i=>(match l with
   |(j,p)::r=>match Nat.beq i j with
     |true=>p::bX n r (i+1)
     |false=>n_::bX n l (i+1)
   |[]=>n_::bX n [] (i+1))
def owed:List OP->List Prop
 |[]=>[]
 |p::r=>owed r++p.ps
def bM:List OP->List OH
 |[]=>[]
 |p::r=>p.h::bM r
theorem lG.app:∀{l r:List Prop},lG l->lG r->lG (l++r)
 |[],_,_,h=>h
 |_::_,_,h,g=>⟨h.1,lG.app h.2 g⟩
theorem q4:∀l:List OP,lG (owed l)
 |[]=>trivial
 |p::r=>(q4 r).app p.pf
def aN:Fr->List Nat
 |[]=>[]
 |p::r=>p.1::aN r
def jx (t:Nat):List Nat->Bool
 |[]=>false
 |i::r=>match Nat.beq i t with
   |true=>true
   |false=>jx t r
def rL (ops:Array Oper):Nat->Nat->List Nat->List Nat->Bool
 |0,_,_,_=>true
 |n+1,k,add,fr=>(match ops.toList[k]? with
   |some o=>match o.dst with
     |some d=>match jx d add with
       |true=>true
       |false=>!jx d fr
     |none=>true
   |none=>true) && rL ops n (k+1) add fr
section fr
variable {P:Program} {β:Bs} {N:dx} {ops:Array Oper} {fr fr' add:Fr} {junk:Nat->Value} {t:Nat} {v:Value}
theorem jA:∀{l:List Nat},jx t l=true↔t∈l
 |[]=>by simp [jx]
 |i::r=>by
   unfold jx
   by_cases h:i=t
   ·subst h;simp [Nat.beq_refl]
   have:Nat.beq i t=false:=by
    cases hb:Nat.beq i t
    ·rfl
    exact absurd (Nat.eq_of_beq_eq_true hb) h
   rw [this,List.mem_cons,jA (l:=r)]
   exact⟨.inr,λe=>e.elim (λe=>absurd e.symm h) id⟩
theorem pZ:∀{fr:Fr},t∉aN fr->lk fr junk t=junk t
 |[],_=>rfl
 |p::r,h=>by
   rw [show p::r=(p.1,p.2)::r from rfl,ic,if_neg (λe=>h (by rw [←e];exact List.mem_cons_self)),pZ (λe=>h (List.mem_cons_of_mem _ e))]
theorem E5:∀{add fr:Fr},lk (add++fr) junk t=if t∈aN add then lk add junk t else lk fr junk t
 |[],fr=>by simp [aN]
 |(i,v)::r,fr=>by
   have e:aN ((i,v)::r)=i::aN r:=rfl
   rw [List.cons_append,ic,ic,E5 (add:=r),e]
   by_cases h:i=t
   ·rw [if_pos h,if_pos h,if_pos (by rw [h];exact List.mem_cons_self)]
   rw [if_neg h,if_neg h]
   by_cases h2:t∈aN r
   ·rw [if_pos h2,if_pos (List.mem_cons_of_mem _ h2)]
   rw [if_neg h2,if_neg (λe=>by grind)]
theorem JL:∀{fr:Fr} {j j':Nat->Value},t∈aN fr->lk fr j t=lk fr j' t
 |p::r,j,j',h=>by
   rw [show p::r=(p.1,p.2)::r from rfl,ic,ic]
   by_cases e:p.1=t
   ·rw [if_pos e,if_pos e]
   rw [if_neg e,if_neg e]
   rcases List.mem_cons.1 h with h|h
   ·exact absurd h.symm e
   exact JL h
theorem E6:∀(idx:List Nat),aN (iG fr junk idx)=idx
 |[]=>rfl
 |i::r=>congrArg (i::·) (E6 r)
theorem zn {n:Nat} {ro:Bool} {add:List Nat} {YT:List Nat}:∀{hs:List OH} {k k':Nat} {fr fr':Fr} {S S':SS},mz P β n ro N junk ops hs k fr S=some (k',fr',S')->rL ops hs.length k add YT=true->t∈YT->t∉add->lk fr' junk t=lk fr junk t
 |[],k,k',fr,fr',S,S',h,_,_,_=>by cases h;rfl
 |h::hs,k,k',fr,fr',S,S',hr,hb,h0,ha=>by
   unfold mz at hr
   have hb:rL ops (hs.length+1) k add YT=true:=hb
   unfold rL at hb
   rw [Bool.and_eq_true] at hb
   split at hr
   ·cases hr
   rename_i o hget
   have key:∀v,lk (cI fr o.dst v) junk t=lk fr junk t:=λv=>by
    cases hd:o.dst with
    |none=>rfl
    |some d=>
      show lk ((d,v)::fr) junk t=_
      rw [ic,if_neg]
      intro e
      subst e
      have h1:=hb.1
      rw [hget] at h1
      simp only [hd] at h1
      cases h2:jx d add with
      |true=>exact ha (jA.1 h2)
      |false=>
        rw [h2] at h1
        rw [jA.2 h0] at h1
        cases h1
   split at hr
   ·split at hr
    ·exact (zn hr hb.2 h0 ha).trans (key _)
    cases hr
   exact (zn hr hb.2 h0 ha).trans (key _)
theorem J6 {idx:List Nat} {n:Nat} {ro:Bool} {hs:List OH} {k k':Nat} {o5:Fr} {S S':SS} (h:mz P β n ro N junk ops hs k fr S=some (k',o5,S')) (hb:rL ops hs.length k idx (aN fr)=true):cr N o5 junk=cr N (iG o5 junk idx++fr) (lk o5 junk):=by
 unfold cr
 have:(List.range N.n).map (lk o5 junk)=(List.range N.n).map (lk (iG o5 junk idx++fr) (lk o5 junk)):=List.map_congr_left (λt _=>by
  rw [E5,E6]
  by_cases h1:t∈idx
  ·rw [if_pos h1,DW]
  rw [if_neg h1]
  by_cases h2:t∈aN fr
  ·rw [JL (j':=junk) h2,zn h hb h2 h1]
  rw [pZ h2])
 rw [this]
end fr
theorem vY:∀{n i:Nat} {l:List (Nat×OP)},(bM (bX n l i)).length=n
 |0,_,_=>rfl
 |n+1,i,l=>by
   unfold bX
   split
   ·split
    ·exact congrArg (·+1) (vY (n:=n))
    exact congrArg (·+1) (vY (n:=n))
   exact congrArg (·+1) (vY (n:=n))
def qo (l:List HP):List (Nat×HP)->List HP
 |[]=>l
 |(i,p)::r=>qo (l.set i p) r
def YU:List Value->List (Nat×Value)->List Value
 |cs,[]=>cs
 |cs,(j,u)::r=>YU (cs.set j u) r
def abS (ds:List (Nat×Value)):HP->HP
 |.blk b cs T=>.blk b (YU cs ds) T
 |p=>p
def J7:List HP->List (Nat×HP)->List HP
 |hps,[]=>hps
 |hps,(i,p)::r=>J7 (hps.set i p) r
def YV (ds:List (Nat×Value)):List HP->Nat->List HP
 |[],_=>[]
 |p::r,0=>abS ds p::r
 |p::r,i+1=>p::YV ds r i
def iq:List HP->List (Nat×List (Nat×Value))->List HP
 |l,[]=>l
 |l,(i,ds)::r=>iq (YV ds l i) r
def rN:Nat->Nat->List Nat
 |0,_=>[]
 |n+1,i=>i::rN n (i+1)
section rules
variable {P:Program} {β:Bs} {N:dx} {ops:Array Oper} {k:Nat} {fr:Fr} {hps:List HP} {Q:Post}
theorem gW (n:Nat) (add:Nat->Fr) (l:Nat->List (Nat×OP)) (dS:Nat->List HP) (K:∀b,ai P β N ops (k+n) (add b++fr) (dS b) Q)
 (h:∀b junk,kx P β b false N junk ops (bM (bX n (l b) 0)) k fr hps (aN (add b)) (rN (dS b).length 0)=some (k+n,add b,dS b,owed (bX n (l b) 0)))
 (hb:∀b,rL ops n k (aN (add b)) (aN fr)=true):ai P β N ops k fr hps Q:=by
 intro junk w hS
 obtain⟨o5,S,h1,h2,h3,h4,h5⟩:=DY (h w.heap.size junk)
 refine x9 h1 (λp hp=>(q4 (bX n (l w.heap.size) 0)).mem (h5 ▸ hp)) hS (λ_=>rfl) (λw' dY=>?_)
 have hk:=K w.heap.size (lk o5 junk) w' (dY.pick h2 h3)
 grind [J6,vY]
theorem gN (n:Nat) (add:Nat->Fr) (l:Nat->List (Nat×OP)) (ds:Nat->List (Nat×List (Nat×Value))) (new:Nat->HP) (K:∀b,ai P β N ops (k+n) (add b++fr) (iq hps (ds b)++[new b]) Q)
 (h:∀b junk,kx P β b false N junk ops (bM (bX n (l b) 0)) k fr hps (aN (add b)) (rN (iq hps (ds b)++[new b]).length 0)=some (k+n,add b,iq hps (ds b)++[new b],owed (bX n (l b) 0)):=by intro _ _;kernel_rfl)
 (hb:∀b,rL ops n k (aN (add b)) (aN fr)=true:=by intro _;kernel_rfl):ai P β N ops k fr hps Q:=gW n add l _ K h hb
theorem gC (n:Nat) (add:Fr) (l:List (Nat×OP)) (ds:List (Nat×List (Nat×Value))) (K:ai P β N ops (k+n) (add++fr) (iq hps ds) Q)
 (h:∀b junk,kx P β b false N junk ops (bM (bX n l 0)) k fr hps (aN add) (rN (iq hps ds).length 0)=some (k+n,add,iq hps ds,owed (bX n l 0)):=by intro _ _;kernel_rfl)
 (hb:rL ops n k (aN add) (aN fr)=true:=by kernel_rfl):ai P β N ops k fr hps Q:=
 gW n (λ_=>add) (λ_=>l) (λ_=>iq hps ds) (λ_=>K) h (λ_=>hb)
theorem ai.dX (ds:List (Nat×HP)) (h:∀w,Sat β hps w->Sat β (J7 hps ds) w) (K:ai P β N ops k fr (J7 hps ds) Q):ai P β N ops k fr hps Q:=ai.mem h K
theorem aj.dX {e:Exit} (ds:List (Nat×HP)) (h:∀w,Sat β hps w->Sat β (J7 hps ds) w) (K:aj β N Q e fr (J7 hps ds)):aj β N Q e fr hps:=aj.mem h K
theorem gK (n:Nat) (add:Fr) (l:List (Nat×OP)) (K:ai P β N ops (k+n) (add++fr) hps Q)
 (h:∀b junk,kx P β b false N junk ops (bM (bX n l 0)) k fr hps (aN add) (rN hps.length 0)=some (k+n,add,hps,owed (bX n l 0)):=by intro _ _;kernel_rfl)
 (hb:rL ops n k (aN add) (aN fr)=true:=by kernel_rfl):ai P β N ops k fr hps Q:=gW n (λ_=>add) (λ_=>l) (λ_=>hps) (λ_=>K) h (λ_=>hb)
theorem gQ (n:Nat) (add:Fr) (l:List (Nat×OP)) (K:aQ P β N ops (k+n) (add++fr) hps Q)
 (h:∀b junk,kx P β b true N junk ops (bM (bX n l 0)) k fr hps (aN add) (rN hps.length 0)=some (k+n,add,hps,owed (bX n l 0)):=by intro _ _;kernel_rfl)
 (hb:rL ops n k (aN add) (aN fr)=true:=by kernel_rfl):aQ P β N ops k fr hps Q:=by
 intro junk
 obtain⟨o5,S,h1,h2,h3,h4,h5⟩:=DY (h 0 junk)
 refine yc h1 (λp hp=>(q4 (bX n l 0)).mem (h5 ▸ hp)) rfl (λ_=>?_)
 have hk:=K (lk o5 junk)
 grind [J6,vY]
theorem NL (K:aj β N Q .normal fr hps) (h:ops.toList.drop k=[]:=by kernel_rfl):ai P β N ops k fr hps Q:=ai.nil h K
theorem NQ (K:aj β N Q .normal fr hps) (h:ops.toList.drop k=[]:=by kernel_rfl):aQ P β N ops k fr hps Q:=aQ.nil h K
variable {c x y z:Code} {o:Operand} {id id':Nat} {ops':Array Oper} {e:Exit}
theorem SR {f:Bool} (h:ai P β N ops' 0 fr hps (Exit.then (y.wp P Q) Q)) (hf:f=false:=by rfl):ah P β N (.seq (.region id ops' f) y) fr hps Q:=by
 subst hf;exact ah.seq (ah.region h)
theorem NX (h:ah P β N y fr hps Q):aj β N (Exit.then (y.wp P Q) Q) .normal fr hps:=aj.next h
theorem NN (K:ah P β N y fr hps Q) (h:ops.toList.drop k=[]:=by kernel_rfl):ai P β N ops k fr hps (Exit.then (y.wp P Q) Q):=NL (NX K) h
theorem NS {f:Bool} (K:ai P β N ops' 0 fr hps (Exit.then (y.wp P Q) Q)) (h:ops.toList.drop k=[]:=by kernel_rfl) (hf:f=false:=by rfl):ai P β N ops k fr hps (Exit.then ((Code.seq (.region id ops' f) y).wp P Q) Q):=NN (SR K hf) h
theorem CT (ht:ah P β N x fr hps Q) (h:∀junk,cL N fr junk o=.bool true:=by intro _;kernel_rfl):ah P β N (.cond o x y) fr hps Q:=ah.aa2 h ht
theorem CF (hf:ah P β N y fr hps Q) (h:∀junk,cL N fr junk o=.bool false:=by intro _;kernel_rfl):ah P β N (.cond o x y) fr hps Q:=ah.aa3 h hf
def jf (pre:List Nat) (l:List HP):Nat->List HP
 |i=>match l with
   |[]=>[]
   |p::r=>match jx i pre with
     |true=>jf pre r (i+1)
     |false=>p::jf pre r (i+1)
def kW (pre:List Nat):Nat->Nat->List Nat
 |0,_=>[]
 |n+1,i=>match jx i pre with
   |true=>kW pre n (i+1)
   |false=>i::kW pre n (i+1)
def gj (ops:Array Oper) (k:Nat):Option Tmp:=match ops.toList[k]? with
 |some o=>o.dst
 |none=>none
variable {f:FuncId} {args:Array Value} {pre:List HP} {post:Value->List HP->Prop}
theorem gL (ix:List Nat) (hs:Spec P β f args pre post) (K:∀v l,post v l->ai P β N ops (k+1) (cI fr (gj ops k) v) (l++jf ix hps 0) Q)
 (hc:∀junk,nY P β N junk ops fr k=some (f,args,gj ops k):=by intro _;kernel_rfl) (hn:nodupB (ix++kW ix hps.length 0)=true:=by kernel_rfl) (hp:bh hps (ix++kW ix hps.length 0)=some (pre++jf ix hps 0):=by kernel_rfl):ai P β N ops k fr hps Q:=
 ai.call hc hs hn hp K
variable {R:cK} {fn:Func} {l:List HP} {v:Value}
theorem RT {n0:Nat} (v:Value) (pk:List Nat) (hpost:post v l) (hr:∀junk,pQ P β ⟨n0,[]⟩ junk fn fr hps []=some (v,[]):=by intro _;kernel_rfl) (hn:nodupB pk=true:=by kernel_rfl) (hp:bh hps pk=some (l++[.abs R]):=by kernel_rfl) :
 aj β ⟨n0,[]⟩ (bodyPost P fn (vU β R post)) .ret fr hps:=aj.ret [] pk hr trivial hn hp hpost
theorem RF {n0:Nat} (v:Value) (pk:List Nat) (hpost:post v l) (hr:∀junk,pQ P β ⟨n0,[]⟩ junk fn fr hps []=some (v,[]):=by intro _;kernel_rfl) (hn:nodupB pk=true:=by kernel_rfl) (hp:bh hps pk=some (l++[.abs R]):=by kernel_rfl) :
 aj β ⟨n0,[]⟩ (bodyPost P fn (vU β R post)) .normal fr hps:=aj.fin [] pk hr trivial hn hp hpost
theorem MD {ι:Type} {fr':ι->Fr} {hp':ι->List HP} (j:ι) (idx pk:List Nat) (hf:∀junk,iG fr junk idx=fr' j:=by intro _;kernel_rfl) (hn:nodupB pk=true:=by kernel_rfl) (hp:bh hps pk=some (hp' j):=by kernel_rfl):aj β N (NP (rK β N fr' hp')) .normal fr hps:=aj.mid j hf hn hp
variable {S:List HP} {i:Nat} {lm:List Nat} {o':Oper}
theorem Bj {ι:Type} {fr':ι->Fr} {hp':ι->List HP} (j:ι):aj β N (NP (rK β N fr' hp')) .normal (fr' j) (hp' j):=λjunk _ hS=>⟨j,junk,rfl,hS⟩
theorem mC (pk:List Nat) (add:Fr) (l':List (Nat×OP)) (ds:List (Nat×List (Nat×Value))) (K:bg P β N ops S 0 lm (add++fr) (iq hps ds) Q) (hop:ops[i]?=some o':=by rfl) (hg:o'.guard=none:=by rfl)
 (h:∀b junk,kx P β b false N junk #[o'] (bM (bX 1 l' 0)) 0 fr hps (aN add) (rN (iq hps ds).length 0)=some (0+1,add,iq hps ds,owed (bX 1 l' 0)):=by intro _ _;kernel_rfl)
 (hb:rL #[o'] 1 0 (aN add) (aN fr)=true:=by kernel_rfl) (hn:nodupB pk=true:=by kernel_rfl) (hp:bh (iq hps ds) pk=some S:=by kernel_rfl):bg P β N ops S 0 (i::lm) fr hps Q:=
 bg.cut (ι:=Unit) (fr':=λ_=>add++fr) (hp':=λ_=>iq hps ds) pk hop hg (gC 1 add l' ds (ai.nil rfl (Bj ())) h hb) hn (λ_=>hp) (λ_=>K)
theorem mN (pk:List Nat) (add:Nat->Fr) (l':Nat->List (Nat×OP)) (new:Nat->HP) (K:∀b,bg P β N ops S 0 lm (add b++fr) (hps++[new b]) Q) (hop:ops[i]?=some o':=by rfl) (hg:o'.guard=none:=by rfl)
 (h:∀b junk,kx P β b false N junk #[o'] (bM (bX 1 (l' b) 0)) 0 fr hps (aN (add b)) (rN (hps++[new b]).length 0)=some (0+1,add b,hps++[new b],owed (bX 1 (l' b) 0)):=by intro _ _;kernel_rfl)
 (hb:∀b,rL #[o'] 1 0 (aN (add b)) (aN fr)=true:=by intro _;kernel_rfl) (hn:nodupB pk=true:=by kernel_rfl) (hp:∀b,bh (hps++[new b]) pk=some S:=by intro _;kernel_rfl):bg P β N ops S 0 (i::lm) fr hps Q:=
 bg.cut (ι:=Nat) (fr':=λb=>add b++fr) (hp':=λb=>hps++[new b]) pk hop hg (gW 1 add l' (λb=>hps++[new b]) (λb=>ai.nil rfl (Bj (fr':=λb=>add b++fr) (hp':=λb=>hps++[new b]) b)) h hb) hn hp K
theorem mL (pk ix:List Nat) (hs:Spec P β f args pre post) (K:∀v l,post v l->bg P β N ops S 0 lm (cI fr (gj #[o'] 0) v) (l++jf ix hps 0) Q) (hp:∀v l,post v l->bh (l++jf ix hps 0) pk=some S) (hop:ops[i]?=some o':=by rfl) (hg:o'.guard=none:=by rfl)
 (hc:∀junk,nY P β N junk #[o'] fr 0=some (f,args,gj #[o'] 0):=by intro _;kernel_rfl) (hn':nodupB (ix++kW ix hps.length 0)=true:=by kernel_rfl) (hp':bh hps (ix++kW ix hps.length 0)=some (pre++jf ix hps 0):=by kernel_rfl) (hn:nodupB pk=true:=by kernel_rfl):bg P β N ops S 0 (i::lm) fr hps Q:=
 bg.cut (ι:={x:Value×List HP // post x.1 x.2}) (fr':=λj=>cI fr (gj #[o'] 0) j.1.1) (hp':=λj=>j.1.2++jf ix hps 0) pk hop hg (gL ix hs (λv l hv=>ai.nil rfl (Bj (fr':=λj:{x:Value×List HP // post x.1 x.2}=>cI fr (gj #[o'] 0) j.1.1) (hp':=λj=>j.1.2++jf ix hps 0) ⟨(v,l),hv⟩)) hc hn' hp') hn (λj=>hp _ _ j.2) (λj=>K _ _ j.2)
end rules
end
section
open Go.RowKit
section order
variable {P:Program} {ops:Array Oper} {Q Q':Post} {n:Nat} {S:World->Prop}
def jD (P:Program) (ops:Array Oper) (Q:Post) (S:World->Prop):List (Bool×Nat)->Act->World->Prop
 |[],a,w=>Q .normal a w
 |(false,i)::l,a,w=>wpOp P ops Q i (λa' w'=>(l=[]\/S w')/\jD P ops Q S l a' w') a w
 |(true,i)::l,a,w=>∃o v,ops[i]?=some o/\YieldsIf P ops S o v a/\jD P ops Q S l (a.put o.dst v) w
def xh (ops:Array Oper) (n:Nat):List (Bool×Nat)->Array Bool->Bool
 |[],listed=>(Region.ready .any ops listed).isEmpty
 |(false,i)::l,listed=>(Region.ready .any ops listed == [i]) && (!l.isEmpty || i == n) && xh ops n l (listed.setIfInBounds i true)
 |(true,i)::l,listed=>decide (i<n) && Region.free .any ops listed i && (Region.ready .any ops listed).contains i && xh ops n l (listed.setIfInBounds i true)
theorem vZ (hsel:Region.noSelect ops=true) (mV:Region.sinkB .any ops n=true):∀(l:List (Bool×Nat)) (listed:Array Bool) (a:Act) (w:World),xh ops n l listed=true->Closed ops listed->(l=[]\/S w)->jD P ops (NP Q) S l a w->jy P ops (NP Q) n S l.length listed a w
 |[],listed,a,w,hb,_,_,h=>⟨List.isEmpty_iff.1 hb,h⟩
 |(false,i)::l,listed,a,w,hb,hc,_,h=>by
   unfold xh at hb
   simp only [Bool.and_eq_true,beq_iff_eq] at hb
   obtain⟨⟨h1,h2⟩,h3⟩:=hb
   refine⟨λh0=>(by rw [h1] at h0;cases h0),λj hj=>?_⟩
   have hr:=hj
   rw [h1] at hj
   have hj:j=i:=by simpa using hj
   subst hj
   refine wpOp_mono (λa' w' h4=>⟨?_,vZ hsel mV l _ a' w' h3 (hc.set hr) h4.1 h4.2⟩) h
   rcases h4.1 with h5|h5
   ·subst h5;exact .inl (by simpa using h2)
   exact .inr h5
 |(true,i)::l,listed,a,w,hb,hc,hS,h=>by
   unfold xh at hb
   simp only [Bool.and_eq_true,decide_eq_true_iff] at hb
   obtain⟨⟨⟨h1,h2⟩,h3⟩,h4⟩:=hb
   obtain⟨o,v,ho,hy,hk⟩:=h
   have hS:S w:=hS.resolve_left (by simp)
   have hr:i∈Region.ready .any ops listed:=by simpa using h3
   exact sC ho hsel mV h1 l.length listed a w hc (Region.free_spec ho h2) hr hy hS (vZ hsel mV l _ _ w h4 (hc.set hr) (.inr hS) hk)
def Gy (ops:Array Oper) (l:List (Bool×Nat)):Bool:=
 Region.noSelect ops && Region.sinkB .any ops (ops.size-1) && (l.length == ops.size) && xh ops (ops.size-1) l (Array.replicate ops.size false)
def jO (ops:Array Oper) (i:Nat):Array Oper:=⟨ops.toList.take (i+1)⟩
def gB (ops:Array Oper) (i:Nat):Bool:=match ops[i]? with
 |some o=>match o.guard with
   |none=>true
   |some (j,_)=>decide (j<=i)
 |none=>false
theorem Ra {i j:Nat} (h:j<=i):(jO ops i)[j]?=ops[j]?:=by
 grind [jO]
theorem Bk {i:Nat} {a:Act} {w:World} {K:Act->World->Prop} (hg:gB ops i=true) (h:wpList P (jO ops i) (NP λ_ a w=>K a w) ((jO ops i).toList.drop i) a w):wpOp P ops (NP Q) i K a w:=by
 unfold gB at hg
 split at hg
 ·rename_i o ho
  have hd:(jO ops i).toList.drop i=[o]:=by
   have hl:ops.toList[i]?=some o:=by simpa using ho
   have hi:i<ops.toList.length:=bT hl
   show (ops.toList.take (i+1)).drop i=[o]
   rw [List.drop_take]
   rw [show i+1-i=1 by omega,List.drop_eq_getElem_cons hi]
   grind
  have hw:Region.wanted o (yielded (jO ops i) a.tmps)=Region.wanted o (yielded ops a.tmps):=by
   unfold Region.wanted
   split at hg
   ·rename_i hn;rw [hn]
   rename_i j b hn
   rw [hn]
   have hj:j<=i:=by simpa using hg
   have:yielded (jO ops i) a.tmps j=yielded ops a.tmps j:=by
    unfold yielded
    rw [Ra hj]
   simp only [this]
  rw [hd] at h
  unfold wpOp
  simp only [ho]
  unfold wpList at h
  rw [hw] at h
  split at h
  ·rename_i hw
   rw [if_pos hw]
   rcases h with h|⟨_,h⟩
   ·exact .inl (JK (Oper.wp_mono (λa w h=>h) h))
   exact (sB h).elim
  rename_i hw
  rw [if_neg hw]
  exact h
 cases hg
end order
theorem vo {P:Program} {ops:Array Oper} {Q Q':Post} (hq:∀a w,Q .normal a w->Q' .normal a w):∀(l:List Oper) {a:Act} {w:World},wpList P ops (NP Q) l a w->wpList P ops (NP Q') l a w
 |[],_,_,h=>hq _ _ h
 |o::r,a,w,h=>by
   unfold wpList at *
   split
   ·rename_i hw
    rw [if_pos hw] at h
    rcases h with h|⟨_,h⟩
    ·exact .inl (JK (Oper.wp_mono (λa w h=>vo hq r h) h))
    exact (sB h).elim
   rename_i hw
   rw [if_neg hw] at h
   exact vo hq r h
section mix
variable {P:Program} {β:Bs} {N:dx} {ops:Array Oper} {S:List HP} {l l':List (Bool×Nat)} {fr fr':Fr} {hps:List HP} {Q:Post} {cG:List Prop} {i:Nat} {pk:List Nat}
def eM (P:Program) (β:Bs) (N:dx) (ops:Array Oper) (S:List HP) (l:List (Bool×Nat)) (fr:Fr) (hps:List HP) (Q:Post):Prop:=
 ∀junk w,Sat β hps w->jD P ops (NP Q) (Sat β S) l (cr N fr junk) w
theorem ah.Pt {id:Nat} (l:List (Bool×Nat)) (pk:List Nat) (hm:P.follows .mixedOrders=true) (hB:Gy ops l=true) (hn:nodupB pk=true) (hp:bh hps pk=some S) (h:eM P β N ops S l fr hps Q):ah P β N (.region id ops true) fr hps Q:=by
 intro junk w hS
 unfold Gy at hB
 simp only [Bool.and_eq_true,beq_iff_eq] at hB
 obtain⟨⟨⟨h1,h2⟩,h3⟩,h4⟩:=hB
 have dY:=hS.drewN 1
 have h5:=vZ (Q:=Q) h1 h2 l _ _ _ h4 (λj oj _ hl=>by simp [Array.getD_eq_getD_getElem?,Array.getElem?_replicate] at hl;split at hl<;>simp at hl) (.inr (dY.pick hn hp)) (h junk (w.drewN 1) dY)
 rw [h3] at h5
 refine Code.wp_mono (λe a w q=>?_) (wp_region_any hm (qm _ _ _ _ h5))
 cases e with
 |normal=>exact q
 |exit id=>exact q.elim
 |goto l=>exact q.elim
 |ret=>exact q.elim
 |panic ch=>exact q.elim
 |outgrown=>exact q.elim
def oe (P:Program) (β:Bs) (N:dx) (junk:Nat->Value) (ops:Array Oper):List OH->List Nat->Fr->SS->Option (Fr×SS)
 |[],[],fr,S=>some (fr,S)
 |h::hs,i::is,fr,S=>
   match ops[i]? with
   |some o=>
     match Region.wanted o (yF ops N fr junk) with
     |true=>
       match vT P β 0 true (cL N fr junk) o h S with
       |some (v,S')=>
         match yD v with
         |true=>oe P β N junk ops hs is (cI fr o.dst v) S'
         |false=>none
       |none=>none
     |false=>oe P β N junk ops hs is (cI fr o.dst undef) S
   |none=>none
 |_,_,_,_=>none
def q6 (P:Program) (β:Bs) (N:dx) (junk:Nat->Value) (ops:Array Oper) (hs:List OH) (is:List Nat) (fr:Fr) (S:List HP) (idx:List Nat):Option (Fr×List Prop):=
 match oe P β N junk ops hs is fr ⟨[],S,[],true⟩ with
 |some (fr',S')=>some (iG fr' junk idx,S'.cG)
 |none=>none
theorem vr {junk:Nat->Value}:∀{hs:List OH} {is:List Nat} {fr fr':Fr} {S S':SS},oe P β N junk ops hs is fr S=some (fr',S')->∀p,p∈S.cG->p∈S'.cG
 |[],[],fr,fr',S,S',h,p,hp=>by cases h;exact hp
 |h::hs,i::is,fr,fr',S,S',hr,p,hp=>by
   unfold oe at hr
   repeat' split at hr
   all_goals first|(cases hr;done)|skip
   ·rename_i h0 _ _
    exact vr hr p (DX h0 p hp)
   exact vr hr p hp
 |[],_::_,_,_,_,_,h,_,_=>by cases h
 |_::_,[],_,_,_,_,h,_,_=>by cases h
theorem v7 {junk:Nat->Value} {w:World}:∀{hs:List OH} {is:List Nat} {fr fr':Fr} {T T':SS},oe P β N junk ops hs is fr T=some (fr',T')->(∀p,p∈T'.cG->p)->T.used=true->T.hps=S →
 jD P ops (NP Q) (Sat β S) l (cr N fr' junk) w->jD P ops (NP Q) (Sat β S) (is.map (λi=>(true,i))++l) (cr N fr junk) w
 |[],[],fr,fr',T,T',h,ho,hu,hT,hK=>by cases h;exact hK
 |h::hs,i::is,fr,fr',T,T',hr,ho,hu,hT,hK=>by
   unfold oe at hr
   repeat' split at hr
   all_goals first|(cases hr;done)|skip
   ·rename_i o hget _ hwant _ v T1 h0 _ hv
    obtain⟨e1,e2⟩:=vG h0
    rw [List.map_cons,List.cons_append]
    unfold jD
    refine⟨o,v,hget,.inl ⟨by rw [fq];exact hwant,λw' dY=>?_⟩,?_⟩
    ·rw [fO]
     obtain⟨w2,h1,_,_,h4⟩:=mT h0 (λp hp=>ho p (vr hr p hp)) (by rw [hT];exact dY) (λe=>by rw [hu] at e;cases e)
     obtain⟨ew,_⟩:=h4 rfl
     rw [ew] at h1
     rcases h1 with h1|⟨h1,_⟩
     ·exact h1
     exact absurd h1 (rJ hv)
    rw [eP]
    exact v7 hr ho (e2.trans hu) (e1.trans hT) hK
   rename_i o hget _ hwant
   rw [List.map_cons,List.cons_append]
   unfold jD
   refine⟨o,undef,hget,.inr ⟨by rw [fq];exact hwant,rfl⟩,?_⟩
   rw [eP]
   exact v7 hr ho hu hT hK
 |[],_::_,_,_,_,_,h,_,_,_,_=>by cases h
 |_::_,[],_,_,_,_,h,_,_,_,_=>by cases h
theorem eM.reads (is:List Nat) (hs:List OH) (idx:List Nat) (h:∀junk,q6 P β N junk ops hs is fr S idx=some (fr',cG)) (ho:lG cG) (hl:l'=is.map (λi=>(true,i))++l) (K:eM P β N ops S l fr' hps Q):eM P β N ops S l' fr hps Q:=by
 intro junk w hS
 subst hl
 have h0:=h junk
 unfold q6 at h0
 split at h0
 ·rename_i o5 S1 h1
  cases h0
  have hK:=K (lk o5 junk) w hS
  rw [←lq] at hK
  exact v7 h1 (λp hp=>ho.mem hp) rfl rfl hK
 cases h0
theorem eM.cut {ι:Type} {fr':ι->Fr} {hp':ι->List HP} (pk:List Nat) (hg:gB ops i=true) (h:ai P β N (jO ops i) i fr hps (NP (rK β N fr' hp'))) (hn:nodupB pk=true) (hp:∀j,bh (hp' j) pk=some S)
 (K:∀j,eM P β N ops S l (fr' j) (hp' j) Q):eM P β N ops S ((false,i)::l) fr hps Q:=by
 intro junk w hS
 unfold jD
 refine Bk hg (vo (Q':=_) (λa w ⟨j,jr,ha,dY⟩=>?_) _ (h junk w hS))
 subst ha
 exact⟨.inr (dY.pick hn (hp j)),K j jr w dY⟩
theorem eM.last (hg:gB ops i=true) (h:ai P β N (jO ops i) i fr hps (NP Q)):eM P β N ops S [(false,i)] fr hps Q:=by
 grind [jD,Bk,vo,gB,ai,jO,NP,eM]
end mix
end
section
open Go.RowKit
def r_ {β:Bs} {a:Addr} {v:Value} (h:Rd β a v):OP:=⟨⟨[.old v],none,none,none,none⟩,[Rd β a v],h,trivial⟩
def x_ {A:Option Addr} (k n:Nat) (hA:A=some ⟨aV A,aU A,none⟩) (hk:k<n:=by omega):OP:=⟨⟨[],some k,none,some ⟨aV A,aU A,none⟩,none⟩,[((k:Nat):Int)=((k:Nat):Int),k<n,(⟨aV A,aU A,none⟩:Addr).spot=none,A=some ⟨aV A,aU A,none⟩],rfl,hk,rfl,hA,trivial⟩
def r2 {β:Bs} {a a':Addr} {v v':Value} (h:Rd β a v) (h':Rd β a' v'):OP:=⟨⟨[.old v,.old v'],none,none,none,none⟩,[Rd β a' v',Rd β a v],h',h,trivial⟩
def v2 {A:cK} {a a':Addr} {v v':Value} (i:Nat) (h:∀F w,A.h F w->w.cell? a=some v) (h':∀F w,A.h F w->w.cell? a'=some v'):OP:=⟨⟨[.view i v,.view i v'],none,none,none,none⟩,[∀F w,A.h F w->w.cell? a'=some v',∀F w,A.h F w->w.cell? a=some v],h',h,trivial⟩
def xP (k:Nat) (p:Prop) (h:p:=by omega):OP:=⟨⟨[],some k,none,none,none⟩,[((k:Nat):Int)=((k:Nat):Int),p],rfl,h,trivial⟩
def wJ (x y:Int) (h:x=y:=by omega) (lo:-9223372036854775808<=y:=by omega) (hi:y<=9223372036854775807:=by omega):OP:=w_ (.int .i64 y) (vW h lo hi)
def wT (p:Prop) [Decidable p] (h:p:=by omega):OP:=w_ (v:=.bool (decide p)) (.bool true) (congrArg Value.bool (decide_eq_true h))
def wF (p:Prop) [Decidable p] (h:¬p:=by omega):OP:=w_ (v:=.bool (decide p)) (.bool false) (congrArg Value.bool (decide_eq_false h))
def wNT (p:Prop) [Decidable p] (h:p:=by omega):OP:=w_ (v:=.bool (!decide p)) (.bool false) (congrArg (λb=>Value.bool !b) (decide_eq_true h))
def J8 (p:Prop) [Decidable p] (h:¬p:=by omega):OP:=w_ (v:=.bool (!decide p)) (.bool true) (congrArg (λb=>Value.bool !b) (decide_eq_false h))
def Uq (β:Bs) (b o:Nat):List Value->List Prop->List Prop
 |[],l=>l
 |v::r,l=>Uq β b (o+1) r (Rd β ⟨b,o,none⟩ v::l)
theorem J9 {β:Bs} {b:Nat}:∀{vs:List Value} {o:Nat} {l:List Prop},(∀j v,vs[j]?=some v->Rd β ⟨b,o+j,none⟩ v)->lG l->lG (Uq β b o vs l)
 |[],_,_,_,h=>h
 |v::r,o,l,h,hl=>J9 (vs:=r) (λj u hu=>by have:=h (j+1) u hu;rw [show o+(j+1)=o+1+j by omega] at this;exact this) ⟨h 0 v rfl,hl⟩
def Bl {β:Bs} {b o:Nat} (vs:List Value) (h:∀j v,vs[j]?=some v->Rd β ⟨b,o+j,none⟩ v):OP:=⟨⟨vs.map .old,none,none,none,none⟩,Uq β b o vs [],J9 h trivial⟩
section rules
variable {P:Program} {β:Bs} {N:dx} {ops:Array Oper} {k:Nat} {fr:Fr} {hps:List HP} {Q:Post}
def fJ (P:Program) (β:Bs) (b:Nat) (ro:Bool) (N:dx) (ops:Array Oper) (hs:List OH) (k:Nat) (fr:Fr) (hps:List HP) (idx:List Nat):Fr:=
 match mz P β b ro N (λ_=>undef) ops hs k fr ⟨[],hps,[],ro⟩ with
 |some (_,fr',_)=>iG fr' (λ_=>undef) idx
 |none=>[]
def fK (P:Program) (β:Bs) (b:Nat) (ro:Bool) (N:dx) (ops:Array Oper) (hs:List OH) (k:Nat) (fr:Fr) (hps:List HP) (idx:List Nat):Fr:=fJ P β b ro N ops hs k fr hps idx++fr
def zN:Nat->List Value->List (Nat×Value)
 |_,[]=>[]
 |i,v::r=>(i,v)::zN (i+1) r
def zC (l:List Value):List (Nat×Value):=zN 0 l
def tl:List Nat->List (Bool×Nat)
 |[]=>[]
 |i::r=>(match Nat.blt i 500 with
   |true=>(true,i)
   |false=>(false,i-500))::tl r
theorem jK (n:Nat) (idx:List Nat) (l:List (Nat×OP)) (K:ai P β N ops (k+n) (fK P β 0 false N ops (bM (bX n l 0)) k fr hps idx) hps Q)
 (h:∀b junk,kx P β b false N junk ops (bM (bX n l 0)) k fr hps (aN (fJ P β 0 false N ops (bM (bX n l 0)) k fr hps idx)) (rN hps.length 0)=some (k+n,fJ P β 0 false N ops (bM (bX n l 0)) k fr hps idx,hps,owed (bX n l 0)):=by intro _ _;kernel_rfl)
 (hb:rL ops n k (aN (fJ P β 0 false N ops (bM (bX n l 0)) k fr hps idx)) (aN fr)=true:=by kernel_rfl):ai P β N ops k fr hps Q:=gK n _ l K h hb
theorem jC (n:Nat) (idx:List Nat) (l:List (Nat×OP)) (ds:List (Nat×List (Nat×Value))) (K:ai P β N ops (k+n) (fK P β 0 false N ops (bM (bX n l 0)) k fr hps idx) (iq hps ds) Q)
 (h:∀b junk,kx P β b false N junk ops (bM (bX n l 0)) k fr hps (aN (fJ P β 0 false N ops (bM (bX n l 0)) k fr hps idx)) (rN (iq hps ds).length 0)=some (k+n,fJ P β 0 false N ops (bM (bX n l 0)) k fr hps idx,iq hps ds,owed (bX n l 0)):=by intro _ _;kernel_rfl)
 (hb:rL ops n k (aN (fJ P β 0 false N ops (bM (bX n l 0)) k fr hps idx)) (aN fr)=true:=by kernel_rfl):ai P β N ops k fr hps Q:=gC n _ l ds K h hb
theorem jN (n:Nat) (idx:List Nat) (l:Nat->List (Nat×OP)) (ds:Nat->List (Nat×List (Nat×Value))) (new:Nat->HP) (K:∀b,ai P β N ops (k+n) (fK P β b false N ops (bM (bX n (l b) 0)) k fr hps idx) (iq hps (ds b)++[new b]) Q)
 (h:∀b junk,kx P β b false N junk ops (bM (bX n (l b) 0)) k fr hps (aN (fJ P β b false N ops (bM (bX n (l b) 0)) k fr hps idx)) (rN (iq hps (ds b)++[new b]).length 0)=some (k+n,fJ P β b false N ops (bM (bX n (l b) 0)) k fr hps idx,iq hps (ds b)++[new b],owed (bX n (l b) 0)):=by intro _ _;kernel_rfl)
 (hb:∀b,rL ops n k (aN (fJ P β b false N ops (bM (bX n (l b) 0)) k fr hps idx)) (aN fr)=true:=by intro _;kernel_rfl):ai P β N ops k fr hps Q:=gN n _ l ds new K h hb
theorem jB (n:Nat) (idx:List Nat) (new:Nat->HP) (K:∀b,ai P β N ops (k+n) (fK P β b false N ops (bM (bX n [] 0)) k fr hps idx) (iq hps []++[new b]) Q)
 (h:∀b junk,kx P β b false N junk ops (bM (bX n [] 0)) k fr hps (aN (fJ P β b false N ops (bM (bX n [] 0)) k fr hps idx)) (rN (iq hps []++[new b]).length 0)=some (k+n,fJ P β b false N ops (bM (bX n [] 0)) k fr hps idx,iq hps []++[new b],owed (bX n [] 0)):=by intro _ _;kernel_rfl)
 (hb:∀b,rL ops n k (aN (fJ P β b false N ops (bM (bX n [] 0)) k fr hps idx)) (aN fr)=true:=by intro _;kernel_rfl):ai P β N ops k fr hps Q:=jN n idx (λ_=>[]) (λ_=>[]) new K h hb
theorem rQ {id:Nat} (h:aQ P β N ops 0 fr hps Q) (hm:P.follows .mixedOrders=true:=by kernel_rfl) (hB:Region.lexB .any ops=true:=by kernel_rfl):ah P β N (.region id ops true) fr hps Q:=ah.CB hm hB h
theorem jQ (n:Nat) (idx:List Nat) (l:List (Nat×OP)) (K:aQ P β N ops (k+n) (fK P β 0 true N ops (bM (bX n l 0)) k fr hps idx) hps Q)
 (h:∀b junk,kx P β b true N junk ops (bM (bX n l 0)) k fr hps (aN (fJ P β 0 true N ops (bM (bX n l 0)) k fr hps idx)) (rN hps.length 0)=some (k+n,fJ P β 0 true N ops (bM (bX n l 0)) k fr hps idx,hps,owed (bX n l 0)):=by intro _ _;kernel_rfl)
 (hb:rL ops n k (aN (fJ P β 0 true N ops (bM (bX n l 0)) k fr hps idx)) (aN fr)=true:=by kernel_rfl):aQ P β N ops k fr hps Q:=gQ n _ l K h hb
variable {f:FuncId} {args:Array Value} {pre:List HP} {post:Bs->Value->List HP->Prop}
theorem jE (ix:List Nat) (hs:bV P β f args pre post) (K:∀β' v l,β.le β'->post β' v l->ai P β' N ops (k+1) (cI fr (gj ops k) v) (l++jf ix hps 0) Q)
 (hc:∀junk,nY P β N junk ops fr k=some (f,args,gj ops k):=by intro _;kernel_rfl) (hn:nodupB (ix++kW ix hps.length 0)=true:=by kernel_rfl) (hp:bh hps (ix++kW ix hps.length 0)=some (pre++jf ix hps 0):=by kernel_rfl):ai P β N ops k fr hps Q:=
 ai.JI hc hs hn hp K
theorem gE {a:Value} {b:List HP} (ix:List Nat) (hs:Spec P β f args pre (λv l=>v=a/\l=b)) (K:ai P β N ops (k+1) (cI fr (gj ops k) a) (b++jf ix hps 0) Q)
 (hc:∀junk,nY P β N junk ops fr k=some (f,args,gj ops k):=by intro _;kernel_rfl) (hn:nodupB (ix++kW ix hps.length 0)=true:=by kernel_rfl) (hp:bh hps (ix++kW ix hps.length 0)=some (pre++jf ix hps 0):=by kernel_rfl):ai P β N ops k fr hps Q:=
 gL ix hs (λ_ _ h=>by obtain⟨rfl,rfl⟩:=h;exact K) hc hn hp
theorem gX {ι:Type} {a:ι->Value} {b:ι->List HP} (ix:List Nat) (hs:Spec P β f args pre (λv l=>∃x,v=a x/\l=b x)) (K:∀x,ai P β N ops (k+1) (cI fr (gj ops k) (a x)) (b x++jf ix hps 0) Q)
 (hc:∀junk,nY P β N junk ops fr k=some (f,args,gj ops k):=by intro _;kernel_rfl) (hn:nodupB (ix++kW ix hps.length 0)=true:=by kernel_rfl) (hp:bh hps (ix++kW ix hps.length 0)=some (pre++jf ix hps 0):=by kernel_rfl):ai P β N ops k fr hps Q:=
 gL ix hs (λ_ _ h=>by obtain⟨x,rfl,rfl⟩:=h;exact K x) hc hn hp
theorem cP {x y:Code} {o:Operand} (p:Prop) [Decidable p] (ht:p->ah P β N x fr hps Q) (hf:¬p->ah P β N y fr hps Q) (h:∀junk,cL N fr junk o=.bool (decide p):=by intro _;kernel_rfl):ah P β N (.cond o x y) fr hps Q:=ah.aa4 h ht hf
theorem SE {n0:Nat} {fn:Func} {c:Code} {post:Value->List HP->Prop} (hf:P.funcs[f]?=some fn) (hN:fn.ntmps=n0) (h:∀R:cK,ah P β ⟨n0,[]⟩ c (zi 0 args.toList) (pre++[.abs R]) (bodyPost P fn (vU β R post))) (hb:fn.body=some c:=by rfl) (hl:args.toList.length<=n0:=by exact Nat.le_of_ble_eq_true rfl):Spec P β f args pre post:=Spec.enter hf hb hN hl h
theorem o6 {n0:Nat} {fn:Func} {c:Code} (hf:P.funcs[f]?=some fn) (hN:fn.ntmps=n0) (h:β.le β->∀R:cK,ah P β ⟨n0,[]⟩ c (zi 0 args.toList) (pre++[.abs R]) (bodyPost P fn (EZ β R post))) (hb:fn.body=some c:=by rfl) (hl:args.toList.length<=n0:=by exact Nat.le_of_ble_eq_true rfl):bV P β f args pre post:=bV.enter hf hb hN hl h
def Ig (N:dx) (ops:Array Oper) (fr:Fr) (k j:Nat):Operand:=
 match fH N (λ_=>undef) ops fr k with
 |some (.call ⟨_,xs,_⟩,_)=>match xs.toList[j]? with
   |some x=>x
   |none=>.tmp 0
 |_=>.tmp 0
def zI (P:Program) (e:TypeId):Value:=match P.info? e with
 |some i=>match i.zero with
   |some z=>z
   |none=>undef
 |none=>undef
def bI (P:Program) (e:TypeId):Nat:=match P.info? e with
 |some i=>i.bytes
 |none=>0
theorem Rb {news:List Value} (h:news.all Value.oneCell'=true):∀u∈news,u.oneCell'=true:=List.all_eq_true.1 h
theorem kH (i:Nat) (t:TypeId) {e:TypeId} {size n cap:Nat} {A:Option Addr} {xs:List Value} (A':Option Addr) (m c':Nat) (news:List Value) (hp:hps[i]?=some (.abs (aq e size A n cap xs)))
 (hsrc:∀w,Sat β hps w->(A'=none/\news.length=0)\/∃ad,A'=some ad/\∀j u,news[j]?=some u->w.cell? (ad.add j)=some u)
 (K':∀B cap',ai P β N ops (k+1) (cI fr (gj ops k) (.slice B (n+m) cap')) (hps.set i (.abs (aq e size B (n+m) cap' (xs++news)))) Q)
 (hb:n+m<=1099511627776:=by omega) (hl:news.length=m*size:=by kernel_rfl) (h1:∀u∈news,u.oneCell'=true:=by exact Rb (by kernel_rfl))
 (hop:∀junk,fH N junk ops fr k=some (.call ⟨.builtin .append,#[Ig N ops fr k 0,Ig N ops fr k 1],#[t,t]⟩,gj ops k):=by intro _;kernel_rfl)
 (hs:∀junk,cL N fr junk (Ig N ops fr k 0)=.slice A n cap:=by intro _;kernel_rfl) (hx:∀junk,cL N fr junk (Ig N ops fr k 1)=.slice A' m c':=by intro _;kernel_rfl)
 (ht:P.underlying t=some (.slice e):=by kernel_rfl) (oJ:(P.info? e).map (λi=>(i.zero,i.size,i.bytes))=some (some (zI P e),size,bI P e):=by kernel_rfl)
 (hzs:(zI P e).cells.size=size:=by kernel_rfl) (hsz:0<size:=by decide) (YW:Nat.ble (bI P e) 128=true:=by kernel_rfl):ai P β N ops k fr hps Q:=
 ai.append i hop rfl hp hs hx ht oJ hzs hsz hl h1 hsrc (by unfold maxLen;omega) (Nat.le_trans (Nat.mul_le_mul hb (Nat.le_of_ble_eq_true YW)) (by decide)) K'
theorem Rc (i:Nat) (t:TypeId) {e:TypeId} {size n cap:Nat} {A:Option Addr} {xs:List Value} (A':Option Addr) (m c':Nat) (news:List Value) (hp:hps[i]?=some (.abs (aq e size A n cap xs)))
 (hsrc:∀w,Sat β hps w->(A'=none/\news.length=0)\/∃ad,A'=some ad/\∀j u,news[j]?=some u->w.cell? (ad.add j)=some u)
 (K':∀B cap',ai P β N ops (k+1) (cI fr (gj ops k) (.slice B (n+m) cap')) (hps.set i (.abs (aq e size B (n+m) cap' (xs++news)))) Q)
 (hb:n+m<=140737488355328:=by omega) (hl:news.length=m*size:=by kernel_rfl) (h1:∀u∈news,u.oneCell'=true:=by exact Rb (by kernel_rfl))
 (hop:∀junk,fH N junk ops fr k=some (.call ⟨.builtin .append,#[Ig N ops fr k 0,Ig N ops fr k 1],#[t,t]⟩,gj ops k):=by intro _;kernel_rfl)
 (hs:∀junk,cL N fr junk (Ig N ops fr k 0)=.slice A n cap:=by intro _;kernel_rfl) (hx:∀junk,cL N fr junk (Ig N ops fr k 1)=.slice A' m c':=by intro _;kernel_rfl)
 (ht:P.underlying t=some (.slice e):=by kernel_rfl) (oJ:(P.info? e).map (λi=>(i.zero,i.size,i.bytes))=some (some (zI P e),size,bI P e):=by kernel_rfl)
 (hzs:(zI P e).cells.size=size:=by kernel_rfl) (hsz:0<size:=by decide) (YW:Nat.ble (bI P e) 1=true:=by kernel_rfl):ai P β N ops k fr hps Q:=
 ai.append i hop rfl hp hs hx ht oJ hzs hsz hl h1 hsrc (by unfold maxLen;omega) (Nat.le_trans (Nat.mul_le_mul hb (Nat.le_of_ble_eq_true YW)) (by decide)) K'
theorem sl (i:Nat) (v v':Value) (hv:v=v') (K:ai P β N ops k ((i,v')::fr) hps Q) (h:∀junk,lk fr junk i=v:=by intro _;kernel_rfl):ai P β N ops k fr hps Q:=ai.slot i v v' h hv K
theorem sP (i:Nat) (p:Prop) [Decidable p] (ht:p->ai P β N ops k ((i,.bool true)::fr) hps Q) (hf:¬p->ai P β N ops k ((i,.bool false)::fr) hps Q) (h:∀junk,lk fr junk i=.bool (decide p):=by intro _;kernel_rfl):ai P β N ops k fr hps Q:=ai.tU i p h ht hf
theorem sN (i:Nat) (p:Prop) [Decidable p] (ht:¬p->ai P β N ops k ((i,.bool true)::fr) hps Q) (hf:p->ai P β N ops k ((i,.bool false)::fr) hps Q) (h:∀junk,lk fr junk i=.bool (!decide p):=by intro _;kernel_rfl):ai P β N ops k fr hps Q:=ai.Pq i p h ht hf
theorem cN {x y:Code} {o:Operand} (p:Prop) [Decidable p] (ht:¬p->ah P β N x fr hps Q) (hf:p->ah P β N y fr hps Q) (h:∀junk,cL N fr junk o=.bool (!decide p):=by intro _;kernel_rfl):ah P β N (.cond o x y) fr hps Q:=ah.aa5 h ht hf
section turns
variable {ι:Type} {Inv:ι->Prop} {μ:ι->Nat} {fr':ι->Fr} {hp':ι->List HP} {m:Nat}
theorem tJ (i:ι) (pk:List Nat) (hi:Inv i) (hm:μ i<m:=by first|omega|(dsimp only;omega)) (hf:∀junk,iG fr junk (aN (fr' i))=fr' i:=by intro _;kernel_rfl) (hn:nodupB pk=true:=by rfl) (hp:bh hps pk=some (hp' i):=by kernel_rfl) :
 aj β N (Exit.then (Turn β N Inv μ fr' hp' m) Q) .normal fr hps:=aj.turn i hi hm hf hn hp
theorem mJ (i:ι) (pk:List Nat) (hi:Inv i) (hf:∀junk,iG fr junk (aN (fr' i))=fr' i:=by intro _;kernel_rfl) (hn:nodupB pk=true:=by rfl) (hp:bh hps pk=some (hp' i):=by kernel_rfl) :
 aj β N (Exit.then (Uj β N Inv fr' hp') Q) .normal fr hps:=aj.meet i hi hf hn hp
theorem tB {bs:ι->Bs} (i:ι) (pk:List Nat) (hi:Inv i) (hm:μ i<m:=by first|omega|(dsimp only;omega)) (hb:bs i=β:=by rfl) (hf:∀junk,iG fr junk (aN (fr' i))=fr' i:=by intro _;kernel_rfl) (hn:nodupB pk=true:=by rfl)
 (hp:bh hps pk=some (hp' i):=by kernel_rfl):aj β N (Exit.then (JJ N bs Inv μ fr' hp' m) Q) .normal fr hps:=aj.aa8 i hb hi hm hf hn hp
end turns
theorem lJ {ι:Type} {c:Code} (Inv:ι->Prop) (μ:ι->Nat) (fr':ι->Fr) (hp':ι->List HP) (i0:ι) (pk:List Nat) (h0:Inv i0) (round:∀i,Inv i->ah P β N c (fr' i) (hp' i) (Exit.then (Turn β N Inv μ fr' hp' (μ i)) Q))
 (hf:∀junk,iG fr junk (aN (fr' i0))=fr' i0:=by intro _;kernel_rfl) (hn:nodupB pk=true:=by rfl) (hp:bh hps pk=some (hp' i0):=by kernel_rfl):ah P β N (.loop c) fr hps Q:=ah.loop Inv μ fr' hp' i0 h0 hf hn hp round
theorem lB {ι:Type} {c:Code} (bs:ι->Bs) (Inv:ι->Prop) (μ:ι->Nat) (fr':ι->Fr) (hp':ι->List HP) (i0:ι) (pk:List Nat) (h0:Inv i0) (round:∀i,Inv i->ah P (bs i) N c (fr' i) (hp' i) (Exit.then (JJ N bs Inv μ fr' hp' (μ i)) Q))
 (hb:bs i0=β:=by rfl) (hf:∀junk,iG fr junk (aN (fr' i0))=fr' i0:=by intro _;kernel_rfl) (hn:nodupB pk=true:=by rfl) (hp:bh hps pk=some (hp' i0):=by kernel_rfl):ah P β N (.loop c) fr hps Q:=ah.aa7 bs Inv μ fr' hp' i0 hb h0 hf hn hp round
def v8:List OP->List Hint
 |[]=>[]
 |p::r=>p.h.hs++v8 r
def CD:List OP->List Prop
 |[]=>[]
 |p::r=>CD r++p.ps
theorem Bn:∀l:List OP,lG (CD l)
 |[]=>trivial
 |p::r=>(Bn r).app p.pf
variable {R:cK} {fn:Func} {l:List HP} {v:Value} {n0:Nat} {β':Bs}
theorem rB (v:Value) (os:List OP) (pk:List Nat) (hle:β.le β') (hpost:post β' v l) (hr:∀junk,pQ P β' ⟨n0,[]⟩ junk fn fr hps (v8 os)=some (v,CD os):=by intro _;kernel_rfl) (hn:nodupB pk=true:=by kernel_rfl) (hp:bh hps pk=some (l++[.abs R]):=by kernel_rfl) :
 aj β' ⟨n0,[]⟩ (bodyPost P fn (EZ β R post)) .ret fr hps:=aj.abR (v8 os) pk hle hr (Bn os) hn hp hpost
theorem rT {post:Value->List HP->Prop} (v:Value) (os:List OP) (pk:List Nat) (hpost:post v l) (hr:∀junk,pQ P β ⟨n0,[]⟩ junk fn fr hps (v8 os)=some (v,CD os):=by intro _;kernel_rfl) (hn:nodupB pk=true:=by kernel_rfl) (hp:bh hps pk=some (l++[.abs R]):=by kernel_rfl) :
 aj β ⟨n0,[]⟩ (bodyPost P fn (vU β R post)) .ret fr hps:=aj.ret (v8 os) pk hr (Bn os) hn hp hpost
class rO (Q:Post) (e:Exit) (Q':outParam Post) (e':outParam Exit):Prop where
 h:∀{β:Bs} {N:dx} {fr:Fr} {hps:List HP},aj β N Q' e' fr hps->aj β N Q e fr hps
instance {K:Act->World->Prop} {Q':Post} {e':Exit} [H:rO Q .ret Q' e']:rO (Exit.then K Q) .ret Q' e':=⟨λh=>aj.aG (H.h h)⟩
instance {id:Nat} {Q':Post} {e':Exit} [H:rO Q .ret Q' e']:rO (Exit.inBlock id Q) .ret Q' e':=⟨λh=>aj.dm (H.h h)⟩
instance {X:Ending->World->Prop}:rO (bodyPost P fn X) .ret (bodyPost P fn X) .ret:=⟨λh=>h⟩
instance {K:Act->World->Prop}:rO (Exit.then K Q) .normal (Exit.then K Q) .normal:=⟨λh=>h⟩
instance {id:Nat} {Q':Post} {e':Exit} [H:rO Q .normal Q' e']:rO (Exit.inBlock id Q) .normal Q' e':=⟨λh=>aj.kJ (H.h h)⟩
instance {id:Nat} {Q':Post} {e':Exit} [H:rO Q .normal Q' e']:rO (Exit.inBlock id Q) (.exit id) Q' e':=⟨λh=>aj.s5 (H.h h)⟩
instance {K:Act->World->Prop} {id:Nat} {Q':Post} {e':Exit} [H:rO Q (.exit id) Q' e']:rO (Exit.then K Q) (.exit id) Q' e':=⟨λh=>aj.lV (H.h h)⟩
variable {y z:Code} {Q':Post} {id:Nat}
theorem KX [H:rO Q .normal (Exit.then (y.wp P Q') Q') .normal] (K:ah P β N y fr hps Q'):ah P β N .skip fr hps Q:=ah.skip (H.h (NX K))
theorem LX [H:rO Q .normal (Exit.then (y.wp P Q') Q') .normal] (K:ah P β N y fr hps Q') (h:ops.toList.drop k=[]:=by kernel_rfl):ai P β N ops k fr hps Q:=NL (H.h (NX K)) h
theorem BX [H:rO Q .normal (Exit.then (y.wp P Q') Q') .normal] (K:ah P β N y fr hps Q'):aj β N Q .normal fr hps:=H.h (NX K)
theorem XX [H:rO Q (.exit id) (Exit.then (y.wp P Q') Q') .normal] (K:ah P β N y fr hps Q'):ah P β N (.exit id) fr hps Q:=ah.exit (H.h (NX K))
theorem SQ {f:Bool} {ops':Array Oper} {i':Nat} (h:ai P β N ops' 0 fr hps (Exit.then (y.wp P (Exit.then (z.wp P Q) Q)) (Exit.then (z.wp P Q) Q))) (hf:f=false:=by rfl):ah P β N (.seq (.seq (.region i' ops' f) y) z) fr hps Q:=ah.seq (SR h hf)
theorem NZ {f:Bool} {ops':Array Oper} {i':Nat} (h':ai P β N ops' 0 fr hps (Exit.then (y.wp P (Exit.then (z.wp P Q) Q)) (Exit.then (z.wp P Q) Q))) (h:ops.toList.drop k=[]:=by kernel_rfl) (hf:f=false:=by rfl):ai P β N ops k fr hps (Exit.then ((Code.seq (.seq (.region i' ops' f) y) z).wp P Q) Q):=NN (SQ h' hf) h
theorem NT {o:Operand} (K:ah P β N y fr hps Q) (h':∀junk,cL N fr junk o=.bool true:=by intro _;kernel_rfl) (h:ops.toList.drop k=[]:=by kernel_rfl):ai P β N ops k fr hps (Exit.then ((Code.cond o y z).wp P Q) Q):=NN (CT K h') h
theorem NF {o:Operand} (K:ah P β N z fr hps Q) (h':∀junk,cL N fr junk o=.bool false:=by intro _;kernel_rfl) (h:ops.toList.drop k=[]:=by kernel_rfl):ai P β N ops k fr hps (Exit.then ((Code.cond o y z).wp P Q) Q):=NN (CF K h') h
theorem eN {post:Value->List HP->Prop} [H:rO Q .ret (bodyPost P fn (vU β R post)) .ret] (hpost:post v l) (pk:List Nat:=rN (l.length+1) 0) (h:ops.toList.drop k=[]:=by kernel_rfl) (hr:∀junk,pQ P β ⟨n0,[]⟩ junk fn fr hps []=some (v,[]):=by intro _;kernel_rfl) (hn:nodupB pk=true:=by kernel_rfl) (hp:bh hps pk=some (l++[.abs R]):=by kernel_rfl) :
 ai P β ⟨n0,[]⟩ ops k fr hps (Exit.then (Code.ret.wp P Q) Q):=NN (ah.ret (H.h (RT v pk hpost hr hn hp))) h
theorem eS {post:Value->List HP->Prop} [H:rO Q .ret (bodyPost P fn (vU β R post)) .ret] (os:List OP) (hpost:post v l) (pk:List Nat:=rN (l.length+1) 0) (h:ops.toList.drop k=[]:=by kernel_rfl) (hr:∀junk,pQ P β ⟨n0,[]⟩ junk fn fr hps (v8 os)=some (v,CD os):=by intro _;kernel_rfl) (hn:nodupB pk=true:=by kernel_rfl) (hp:bh hps pk=some (l++[.abs R]):=by kernel_rfl) :
 ai P β ⟨n0,[]⟩ ops k fr hps (Exit.then (Code.ret.wp P Q) Q):=NN (ah.ret (H.h (rT v os pk hpost hr hn hp))) h
theorem eO [H:rO Q .ret (bodyPost P fn (EZ β R post)) .ret] (os:List OP) (hle:β.le β') (hpost:post β' v l) (pk:List Nat:=rN (l.length+1) 0) (h:ops.toList.drop k=[]:=by kernel_rfl) (hr:∀junk,pQ P β' ⟨n0,[]⟩ junk fn fr hps (v8 os)=some (v,CD os):=by intro _;kernel_rfl) (hn:nodupB pk=true:=by kernel_rfl) (hp:bh hps pk=some (l++[.abs R]):=by kernel_rfl) :
 ai P β' ⟨n0,[]⟩ ops k fr hps (Exit.then (Code.ret.wp P Q) Q):=NN (ah.ret (H.h (rB v os pk hle hpost hr hn hp))) h
def Ka:List Oper->List Nat
 |[]=>[]
 |o::r=>match o.dst with
   |some d=>d::Ka r
   |none=>Ka r
theorem zR {post:Value->List HP->Prop} {ops':Array Oper} {f:Bool} {i':Nat} [H:rO Q .ret (bodyPost P fn (vU β R post)) .ret] (hpost:post v l) (pk:List Nat:=rN (l.length+1) 0)
 (h:∀b junk,kx P β b false ⟨n0,[]⟩ junk ops' (bM (bX ops'.size [] 0)) 0 fr hps (aN (fJ P β 0 false ⟨n0,[]⟩ ops' (bM (bX ops'.size [] 0)) 0 fr hps (Ka ops'.toList))) (rN hps.length 0)=some (0+ops'.size,fJ P β 0 false ⟨n0,[]⟩ ops' (bM (bX ops'.size [] 0)) 0 fr hps (Ka ops'.toList),hps,owed (bX ops'.size [] 0)):=by intro _ _;kernel_rfl)
 (hb:rL ops' ops'.size 0 (aN (fJ P β 0 false ⟨n0,[]⟩ ops' (bM (bX ops'.size [] 0)) 0 fr hps (Ka ops'.toList))) (aN fr)=true:=by kernel_rfl)
 (hd:ops'.toList.drop (0+ops'.size)=[]:=by kernel_rfl) (hr:∀junk,pQ P β ⟨n0,[]⟩ junk fn (fK P β 0 false ⟨n0,[]⟩ ops' (bM (bX ops'.size [] 0)) 0 fr hps (Ka ops'.toList)) hps []=some (v,[]):=by intro _;kernel_rfl)
 (hn:nodupB pk=true:=by kernel_rfl) (hp:bh hps pk=some (l++[.abs R]):=by kernel_rfl) (hf:f=false:=by rfl):ah P β ⟨n0,[]⟩ (.seq (.region i' ops' f) .ret) fr hps Q:=
 SR (jK ops'.size (Ka ops'.toList) [] (eN hpost pk hd hr hn hp) h hb) hf
end rules
section mix
variable {P:Program} {β:Bs} {N:dx} {ops:Array Oper} {S:List HP} {lm l':List (Bool×Nat)} {fr:Fr} {hps:List HP} {Q:Post} {i:Nat} {f:FuncId} {args:Array Value} {pre:List HP} {post:Value->List HP->Prop}
def fG (P:Program) (β:Bs) (N:dx) (ops:Array Oper) (hs:List OH) (is:List Nat) (fr:Fr) (S:List HP) (idx:List Nat):Fr:=
 match oe P β N (λ_=>undef) ops hs is fr ⟨[],S,[],true⟩ with
 |some (fr',_)=>iG fr' (λ_=>undef) idx
 |none=>[]
theorem jG (n:Nat) (idx:List Nat) (os:List (Nat×OP)) (K:eM P β N ops S (l'.drop n) (fG P β N ops (bM (bX n os 0)) ((l'.take n).map Prod.snd) fr S idx) hps Q)
 (h:∀junk,q6 P β N junk ops (bM (bX n os 0)) ((l'.take n).map Prod.snd) fr S idx=some (fG P β N ops (bM (bX n os 0)) ((l'.take n).map Prod.snd) fr S idx,owed (bX n os 0)):=by intro _;kernel_rfl) (hl:l'=((l'.take n).map Prod.snd).map (λi=>(true,i))++l'.drop n:=by kernel_rfl):eM P β N ops S l' fr hps Q:=
 eM.reads _ (bM (bX n os 0)) idx h (q4 _) hl K
theorem kC (pk:List Nat) (idx:List Nat) (os:List (Nat×OP)) (ds:List (Nat×List (Nat×Value))) (K:eM P β N ops S lm (fK P β 0 false N (jO ops i) (bM (bX 1 os 0)) i fr hps idx) (iq hps ds) Q) (hg:gB ops i=true:=by kernel_rfl)
 (h:∀b junk,kx P β b false N junk (jO ops i) (bM (bX 1 os 0)) i fr hps (aN (fJ P β 0 false N (jO ops i) (bM (bX 1 os 0)) i fr hps idx)) (rN (iq hps ds).length 0)=some (i+1,fJ P β 0 false N (jO ops i) (bM (bX 1 os 0)) i fr hps idx,iq hps ds,owed (bX 1 os 0)):=by intro _ _;kernel_rfl)
 (hb:rL (jO ops i) 1 i (aN (fJ P β 0 false N (jO ops i) (bM (bX 1 os 0)) i fr hps idx)) (aN fr)=true:=by kernel_rfl) (hd:(jO ops i).toList.drop (i+1)=[]:=by kernel_rfl) (hn:nodupB pk=true:=by kernel_rfl) (hp:bh (iq hps ds) pk=some S:=by kernel_rfl):eM P β N ops S ((false,i)::lm) fr hps Q:=
 eM.cut (ι:=Unit) (fr':=λ_=>fK P β 0 false N (jO ops i) (bM (bX 1 os 0)) i fr hps idx) (hp':=λ_=>iq hps ds) pk hg (gC 1 _ os ds (ai.nil hd (Bj ())) h hb) hn (λ_=>hp) (λ_=>K)
theorem kL (pk ix:List Nat) (hs:Spec P β f args pre post) (K:∀v l,post v l->eM P β N ops S lm (cI fr (gj ops i) v) (l++jf ix hps 0) Q) (hp:∀v l,post v l->bh (l++jf ix hps 0) pk=some S) (hg:gB ops i=true:=by kernel_rfl)
 (hc:∀junk,nY P β N junk (jO ops i) fr i=some (f,args,gj (jO ops i) i):=by intro _;kernel_rfl) (hd:(jO ops i).toList.drop (i+1)=[]:=by kernel_rfl) (he:gj ops i=gj (jO ops i) i:=by kernel_rfl) (hn':nodupB (ix++kW ix hps.length 0)=true:=by kernel_rfl) (hp':bh hps (ix++kW ix hps.length 0)=some (pre++jf ix hps 0):=by kernel_rfl) (hn:nodupB pk=true:=by kernel_rfl):eM P β N ops S ((false,i)::lm) fr hps Q:=
 eM.cut (ι:={x:Value×List HP // post x.1 x.2}) (fr':=λj=>cI fr (gj (jO ops i) i) j.1.1) (hp':=λj=>j.1.2++jf ix hps 0) pk hg (gL ix hs (λv l hv=>ai.nil hd (Bj (fr':=λj:{x:Value×List HP // post x.1 x.2}=>cI fr (gj (jO ops i) i) j.1.1) (hp':=λj=>j.1.2++jf ix hps 0) ⟨(v,l),hv⟩)) hc hn' hp') hn (λj=>hp _ _ j.2) (λj=>by rw [←he];exact K _ _ j.2)
def CG (l:List HP):List Nat->List HP
 |[]=>[]
 |i::r=>match l[i]? with
   |some p=>p::CG l r
   |none=>CG l r
variable {fl:Bool}
theorem jM {id:Nat} (o:List Nat) (pk:List Nat) (h:eM P β N ops (CG hps pk) (tl o) fr hps Q) (hm:P.follows .mixedOrders=true:=by kernel_rfl) (hB:Gy ops (tl o)=true:=by kernel_rfl) (hn:nodupB pk=true:=by kernel_rfl) (hp:bh hps pk=some (CG hps pk):=by kernel_rfl) (hf:fl=true:=by rfl):ah P β N (.region id ops fl) fr hps Q:=by
 grind [ah.Pt,tl]
theorem rM {id:Nat} (perm:List Nat) (nr:Nat) (pk:List Nat) (h:bg P β N ops (CG hps pk) nr perm fr hps Q) (hm:P.follows .mixedOrders=true:=by kernel_rfl) (hB:Bg ops perm nr=true:=by kernel_rfl) (hn:nodupB pk=true:=by rfl)
 (hp:bh hps pk=some (CG hps pk):=by kernel_rfl):ah P β N (.region id ops true) fr hps Q:=ah.Q8 perm nr pk hm hB hn hp h
section m
variable {lm l':List Nat} {o':Oper} {r':Nat}
def fR (P:Program) (β:Bs) (N:dx) (ops:Array Oper) (hs:List OH) (is:List Nat) (fr:Fr) (S:List HP) (idx:List Nat):Fr:=
 match tf P β N (λ_=>undef) ops hs is fr S idx with
 |some (fr',_)=>fr'
 |none=>[]
theorem jR (n:Nat) (idx:List Nat) (os:List (Nat×OP)) (K:bg P β N ops S (r'-n) (l'.drop n) (fR P β N ops (bM (bX n os 0)) (l'.take n) fr S idx) hps Q)
 (h:∀junk,tf P β N junk ops (bM (bX n os 0)) (l'.take n) fr S idx=some (fR P β N ops (bM (bX n os 0)) (l'.take n) fr S idx,owed (bX n os 0)):=by intro _;kernel_rfl) (hr:r'=(l'.take n).length+(r'-n):=by kernel_rfl) (hl:l'=l'.take n++l'.drop n:=by kernel_rfl):bg P β N ops S r' l' fr hps Q:=
 bg.reads _ (bM (bX n os 0)) idx h (q4 _) hr hl K
theorem nC (pk:List Nat) (idx:List Nat) (os:List (Nat×OP)) (ds:List (Nat×List (Nat×Value))) (K:bg P β N ops S 0 lm (fK P β 0 false N #[o'] (bM (bX 1 os 0)) 0 fr hps idx) (iq hps ds) Q) (hop:ops[i]?=some o':=by rfl) (hg:o'.guard=none:=by rfl)
 (h:∀b junk,kx P β b false N junk #[o'] (bM (bX 1 os 0)) 0 fr hps (aN (fJ P β 0 false N #[o'] (bM (bX 1 os 0)) 0 fr hps idx)) (rN (iq hps ds).length 0)=some (0+1,fJ P β 0 false N #[o'] (bM (bX 1 os 0)) 0 fr hps idx,iq hps ds,owed (bX 1 os 0)):=by intro _ _;kernel_rfl)
 (hb:rL #[o'] 1 0 (aN (fJ P β 0 false N #[o'] (bM (bX 1 os 0)) 0 fr hps idx)) (aN fr)=true:=by kernel_rfl) (hn:nodupB pk=true:=by kernel_rfl) (hp:bh (iq hps ds) pk=some S:=by kernel_rfl):bg P β N ops S 0 (i::lm) fr hps Q:=mC pk _ os ds K hop hg h hb hn hp
end m
theorem jU {k:Nat} (ix Q6:List Nat) (v0:Value) (hs:Spec P β f args pre post) (K:aQ P β N ops (k+1) (cI fr (gj ops k) v0) hps Q) (hv:∀v l,post v l->v=v0/\l=pre:=by intro _ _ h;exact h)
 (hc:∀junk,nY P β N junk ops fr k=some (f,args,gj ops k):=by intro _;kernel_rfl) (hn:nodupB (ix++kW ix hps.length 0)=true:=by kernel_rfl) (hp:bh hps (ix++kW ix hps.length 0)=some (pre++jf ix hps 0):=by kernel_rfl) (hn':nodupB Q6=true:=by kernel_rfl) (hp':bh (pre++jf ix hps 0) Q6=some hps:=by kernel_rfl):aQ P β N ops k fr hps Q:=
 aQ.call hc hs hn hp hn' hp' hv K
end mix
end
section
open Go.RowKit
structure cR where
 name:ByteArray
 id:Int
deriving Inhabited,DecidableEq
structure au where
 id:Int
 kind:Int
 mode:Int
 uid:Int
 gid:Int
 sec:Int
 nano:Int
 data:List UInt8
 target:ByteArray
 af:List cR
deriving Inhabited,DecidableEq
structure Lay where
 dA:Nat->Option Addr
 eA:Nat->Option Addr
 dC:Nat->Nat
 eC:Nat->Nat
def nd (ns:List au) (i:Nat):au:=ns.getD i default
def en (es:List cR) (i:Nat):cR:=es.getD i default
def xj (b:UInt8):Value:=.int .u8 ((b.toNat:Nat):Int)
def bY (d:List UInt8):List Value:=d.map xj
def D1 (e:cR):List Value:=[.string e.name,.int .i64 e.id]
def eT (L:Lay) (i:Nat) (n:au):List Value:=
 [.int .i64 n.id,.int .i64 n.kind,.int .i64 n.mode,.int .i64 n.uid,.int .i64 n.gid,.int .i64 n.sec,.int .i64 n.nano,.slice (L.dA i) n.data.length (L.dC i),.string n.target,.slice (L.eA i) n.af.length (L.eC i)]
def fw {α:Type} (f:Nat->α->List Value):Nat->List α->List Value
 |_,[]=>[]
 |k,a::r=>f k a++fw f (k+1) r
section flat
variable {α:Type} {f:Nat->α->List Value} {s:Nat}
theorem xk (hs:∀i a,(f i a).length=s):∀(l:List α) (k:Nat),(fw f k l).length=l.length*s
 |[],_=>by simp [fw]
 |a::r,k=>by rw [fw,List.length_append,hs,xk hs r,List.length_cons,Nat.add_mul,Nat.one_mul,Nat.add_comm]
theorem rP (hs:∀i a,(f i a).length=s):∀(l:List α) (k i j:Nat) (a:α),l[i]?=some a->j<s->(fw f k l)[i*s+j]?=(f (k+i) a)[j]?
 |[],k,i,j,a,h,_=>by simp at h
 |b::r,k,0,j,a,h,hj=>by
   simp at h
   subst h
   rw [fw,Nat.zero_mul,Nat.zero_add,List.getElem?_append_left (by rw [hs];exact hj)]
   rfl
 |b::r,k,i+1,j,a,h,hj=>by
   have h':r[i]?=some a:=by simpa using h
   have e:(i+1)*s+j=s+(i*s+j):=by rw [Nat.add_mul,Nat.one_mul];omega
   rw [fw,e,List.getElem?_append_right (by rw [hs];omega),hs,Nat.add_sub_cancel_left,rP hs r (k+1) i j a h' hj]
   have:k+1+i=k+(i+1):=by omega
   rw [this]
theorem zo (a:α):∀(l:List α) (k:Nat),fw f k (l++[a])=fw f k l++f (k+l.length) a
 |[],k=>by simp [fw]
 |b::r,k=>by
   rw [List.cons_append,fw,fw,zo a r (k+1),List.append_assoc,List.length_cons]
   have:k+1+r.length=k+(r.length+1):=by omega
   rw [this]
theorem yh {g:Nat->α->List Value}:∀(l:List α) (k:Nat),(∀i a,l[i]?=some a->f (k+i) a=g (k+i) a)->fw f k l=fw g k l
 |[],_,_=>rfl
 |b::r,k,h=>by
   have h1:fw f (k+1) r=fw g (k+1) r:=yh r (k+1) (λi a hi=>by
    have:=h (i+1) a (by simpa using hi)
    have e:k+1+i=k+(i+1):=by omega
    rw [e]
    exact this)
   have h2:f k b=g k b:=h 0 b rfl
   rw [fw,fw,h1,h2]
end flat
def jX (es:List cR):List Value:=fw (λ_ e=>D1 e) 0 es
def aJ (L:Lay) (ns:List au):List Value:=fw (eT L) 0 ns
theorem sD (d:List UInt8):(bY d).length=d.length:=by simp [bY]
theorem Ih (es:List cR):(jX es).length=es.length*2:=xk (s:=2) (λ_ _=>rfl) es 0
theorem kK (L:Lay) (ns:List au):(aJ L ns).length=ns.length*10:=xk (s:=10) (λ_ _=>rfl) ns 0
theorem getD_some {α:Type} {l:List α} {i:Nat} {x:α} (h:i<l.length):l[i]?=some (l.getD i x):=by
 grind
theorem o7 (d:List UInt8):∀u∈bY d,u.oneCell'=true:=by
 intro u hu
 obtain⟨b,_,rfl⟩:=List.mem_map.1 hu
 rfl
theorem Ii {α:Type} {f:Nat->α->List Value} (h:∀i a,∀u∈f i a,u.oneCell'=true):∀(l:List α) (k:Nat),∀u∈fw f k l,u.oneCell'=true
 |[],_,u,hu=>by simp [fw] at hu
 |b::r,k,u,hu=>by
   rw [fw] at hu
   rcases List.mem_append.1 hu with hu|hu
   ·exact h k b u hu
   exact Ii h r (k+1) u hu
theorem Bo (es:List cR):∀u∈jX es,u.oneCell'=true:=Ii (λ_ a u hu=>by simp [D1] at hu;rcases hu with rfl|rfl<;>rfl) es 0
section at_
variable {β β':Bs} {A:Option Addr}
def aW (β:Bs) (A:Option Addr) (d:List UInt8):Prop:=bW β A (bY d)
def bp (β:Bs) (A:Option Addr) (es:List cR):Prop:=bW β A (jX es)
theorem aW.le {d:List UInt8} (h:aW β A d) (hle:β.le β'):aW β' A d:=bW.le h hle
theorem bp.le {es:List cR} (h:bp β A es) (hle:β.le β'):bp β' A es:=bW.le h hle
theorem aW.get {d:List UInt8} (h:aW β A d) {j:Nat} (hj:j<d.length):A=some ⟨aV A,aU A,none⟩/\Rd β ⟨aV A,aU A+j*1,none⟩ (.int .u8 (((d.getD j 0).toNat:Nat):Int)):=by
 have h1:(bY d)[j]?=some (xj (d.getD j 0)):=by
  grind [bY,getD_some]
 have:=h j _ h1
 rw [Nat.mul_one]
 exact this
theorem aW.hd {d:List UInt8} (h:aW β A d) {j:Nat} (hj:j<d.length):A=some ⟨aV A,aU A,none⟩:=(h.get hj).1
theorem aW.rd {d:List UInt8} (h:aW β A d) {j:Nat} (hj:j<d.length):Rd β ⟨aV A,aU A+j*1,none⟩ (.int .u8 (((d.getD j 0).toNat:Nat):Int)):=(h.get hj).2
theorem bp.get {es:List cR} (h:bp β A es) {i:Nat} (hi:i<es.length) {j:Nat} {v:Value} (hv:(D1 (en es i))[j]?=some v):A=some ⟨aV A,aU A,none⟩/\Rd β ⟨aV A,aU A+i*2+j,none⟩ v:=by
 have hj:j<2:=bT hv
 have h1:=rP (f:=λ_ e=>D1 e) (s:=2) (λ_ _=>rfl) es 0 i j _ (getD_some (x:=default) hi) hj
 have:=h (i*2+j) v (h1.trans hv)
 rw [←Nat.add_assoc] at this
 exact this
theorem bp.hd {es:List cR} (h:bp β A es) {i:Nat} (hi:i<es.length):A=some ⟨aV A,aU A,none⟩:=(h.get hi (j:=0) rfl).1
theorem bp.rd {es:List cR} (h:bp β A es) {i:Nat} (hi:i<es.length) {j:Nat} {v:Value} (hv:(D1 (en es i))[j]?=some v):Rd β ⟨aV A,aU A+i*2+j,none⟩ v:=(h.get hi hv).2
theorem bW.src {hps:List HP} {xs:List Value} (h:bW β A xs):∀w,Sat β hps w->(A=none/\xs.length=0)\/∃ad,A=some ad/\∀j u,xs[j]?=some u->w.cell? (ad.add j)=some u:=by
 intro w hS
 cases hA:A with
 |none=>
   refine .inl ⟨rfl,?_⟩
   cases xs with
   |nil=>rfl
   |cons x r=>have:=(h 0 x rfl).1;rw [hA] at this;cases this
 |some a=>
   refine .inr ⟨a,rfl,λj u hj=>?_⟩
   obtain⟨h1,h2⟩:=h j u hj
   rw [hA] at h1 h2
   have e1:a=⟨aV (some a),aU (some a),none⟩:=by injection h1
   have ea:a.add j=⟨aV (some a),aU (some a)+j,none⟩:=by
    rw [e1]
    unfold Addr.add
    split
    ·rename_i h0;subst h0;rfl
    rfl
   rw [ea]
   exact hS.1.cell h2
end at_
structure av (β:Bs) (A:Option Addr) (ns:List au) (L:Lay):Prop where
 row:bW β A (aJ L ns)
 data:∀i,i<ns.length->aW β (L.dA i) (nd ns i).data
 af:∀i,i<ns.length->bp β (L.eA i) (nd ns i).af
structure kX (β:Bs) (ns:List au) (k:Nat) (L:Lay):Prop where
 data:∀i,i<k->aW β (L.dA i) (nd ns i).data
 af:∀i,i<k->bp β (L.eA i) (nd ns i).af
def Lay.put (L:Lay) (k:Nat) (dA:Option Addr) (dC:Nat) (eA:Option Addr) (eC:Nat):Lay:=
 ⟨λi=>if i=k then dA else L.dA i,λi=>if i=k then eA else L.eA i,λi=>if i=k then dC else L.dC i,λi=>if i=k then eC else L.eC i⟩
section graph
variable {β β':Bs} {A:Option Addr} {ns:List au} {L:Lay}
theorem av.le (h:av β A ns L) (hle:β.le β'):av β' A ns L:=⟨h.row.le hle,λi hi=>(h.data i hi).le hle,λi hi=>(h.af i hi).le hle⟩
theorem av.get (h:av β A ns L) {i:Nat} (hi:i<ns.length) {j:Nat} {v:Value} (hv:(eT L i (nd ns i))[j]?=some v):A=some ⟨aV A,aU A,none⟩/\Rd β ⟨aV A,aU A+i*10+j,none⟩ v:=by
 have hj:j<10:=bT hv
 have h1:=rP (f:=eT L) (s:=10) (λ_ _=>rfl) ns 0 i j _ (getD_some (x:=default) hi) hj
 rw [Nat.zero_add] at h1
 have:=h.row (i*10+j) v (h1.trans hv)
 rw [←Nat.add_assoc] at this
 exact this
theorem av.hd (h:av β A ns L) {i:Nat} (hi:i<ns.length):A=some ⟨aV A,aU A,none⟩:=(h.get hi (j:=0) rfl).1
theorem av.rd (h:av β A ns L) {i:Nat} (hi:i<ns.length) {j:Nat} {v:Value} (hv:(eT L i (nd ns i))[j]?=some v):Rd β ⟨aV A,aU A+i*10+j,none⟩ v:=(h.get hi hv).2
theorem kX.le {k:Nat} (h:kX β ns k L) (hle:β.le β'):kX β' ns k L:=⟨λi hi=>(h.data i hi).le hle,λi hi=>(h.af i hi).le hle⟩
theorem kX.put {k:Nat} (h:kX β ns k L) {dA eA:Option Addr} {dC eC:Nat} (hd:aW β dA (nd ns k).data) (he:bp β eA (nd ns k).af):kX β ns (k+1) (L.put k dA dC eA eC):=by
 refine⟨λi hi=>?_,λi hi=>?_⟩
 ·by_cases e:i=k
  ·subst e;simpa [Lay.put] using hd
  simpa [Lay.put,e] using h.data i (by omega)
 by_cases e:i=k
 ·subst e;simpa [Lay.put] using he
 simpa [Lay.put,e] using h.af i (by omega)
theorem E7 {k:Nat} (hk:k<ns.length) (dA:Option Addr) (dC:Nat) (eA:Option Addr) (eC:Nat) :
 aJ L (ns.take k)++[.int .i64 (nd ns k).id,.int .i64 (nd ns k).kind,.int .i64 (nd ns k).mode,.int .i64 (nd ns k).uid,.int .i64 (nd ns k).gid,.int .i64 (nd ns k).sec,.int .i64 (nd ns k).nano,.slice dA (nd ns k).data.length dC,.string (nd ns k).target,.slice eA (nd ns k).af.length eC] =
  aJ (L.put k dA dC eA eC) (ns.take (k+1)):=by
 have e1:ns.take (k+1)=ns.take k++[nd ns k]:=by
  rw [List.take_succ_eq_append_getElem hk]
  simp [nd,List.getD_eq_getElem?_getD,hk]
 have hlen:(ns.take k).length=k:=by simp;omega
 rw [aJ,aJ,e1,zo,hlen,Nat.zero_add]
 grind [fw,eT,yh,bT,Lay.put]
theorem av.mk' {k:Nat} (hrow:bW β A (aJ L (ns.take k))) (h:kX β ns k L) (hk:ns.length<=k):av β A ns L:=by
 rw [List.take_of_length_le hk] at hrow
 exact⟨hrow,λi hi=>h.data i (by omega),λi hi=>h.af i (by omega)⟩
end graph
end
section
theorem D2 {α:Type} {x:α} {a b:List α} (hl:a.length=b.length) (h:∀j,j<a.length->a.getD j x=b.getD j x):a=b:=by
 apply List.ext_getElem hl
 grind
theorem XT {a b:UInt8} (h:((a.toNat:Nat):Int)=((b.toNat:Nat):Int)):a=b:=UInt8.toNat_inj.1 (by omega)
theorem abe {a b:cR} (h:a.name=b.name/\a.id=b.id):a=b:=by cases a;cases b;simp_all
theorem YX {n m:au} (h1:n.id=m.id) (h2:n.kind=m.kind) (h3:n.mode=m.mode) (h4:n.uid=m.uid) (h5:n.gid=m.gid) (h6:n.sec=m.sec/\n.nano=m.nano) (h7:n.target=m.target) (h8:n.data=m.data) (h9:n.af=m.af):n=m:=by
 cases n;cases m;simp_all
end
section
open Go.RowKit
theorem M6 {w:World} {o:Oper} {ev:Operand->Value} {x y:Operand} {a b c d:Int} (ho:o.op=.binOp .neq 26 x y 26) (hx:ev x=.agg #[.int .i64 a,.int .i64 b]) (hy:ev y=.agg #[.int .i64 c,.int .i64 d]) :
 pP Tryz.prog ev o w (.bool (!decide (a=c/\b=d))) w:=by
 obtain⟨dst,op,type,pos,after,guard⟩:=o
 cases ho
 refine .inl ?_
 simp only [execOp,hx,hy]
 simp [go_sem]
 grind
theorem Pu {w:World} {o:Oper} {ev:Operand->Value} {x y:Operand} {a c:ByteArray} {b d:Int} (ho:o.op=.binOp .neq 90 x y 90) (hx:ev x=.agg #[.string a,.int .i64 b]) (hy:ev y=.agg #[.string c,.int .i64 d]) :
 pP Tryz.prog ev o w (.bool (!decide (a=c/\b=d))) w:=by
 obtain⟨dst,op,type,pos,after,guard⟩:=o
 cases ho
 refine .inl ?_
 simp only [execOp,hx,hy]
 simp [go_sem,Bd]
 grind
end
section
open Go.RowKit
attribute [local irreducible] ai aQ ah aj
theorem Bp {β:Bs} (A1 A2:Option Addr) (c1 c2:Nat) (d1 d2:List UInt8) (hA1:aW β A1 d1) (WC:aW β A2 d2) (hl:d1.length<=140737488355328) :
 Spec Tryz.prog β 45 #[.slice A1 d1.length c1,.slice A2 d2.length c2] [] (λv l=>v=.bool (decide (d1=d2))/\l=[]):=by
 refine SE Tryz.func45 Tryz.ntmps45 (λR=>SR (jK 1 [] [] (NZ (jK 5 [10] [] (NN (cN ((((d1.length:Nat):Int):Int)=(((d2.length:Nat):Int):Int)) (λh10=>zR ⟨by rw [decide_eq_false (λe=>h10 (by rw [e]))],rfl⟩) (λh10=>KX (SQ (jK 1 [5] [] (NN (ah.block (lJ (λ(i:Nat)=>(i<=d1.length)/\(∀j,j<i->d1.getD j 0=d2.getD j 0)) (λ(i:Nat)=>d1.length-i) (λ(i:Nat)=>[(0,.slice A1 (d1.length) (c1)),(1,.slice A2 (d2.length) (c2)),(5,vI ↑i)]) (λ(i:Nat)=>[.abs R]) 0 [0] (⟨Nat.zero_le _,λj hj=>absurd hj (Nat.not_lt_zero j)⟩) ?_))))))))))))
 rintro i ⟨hi,hall⟩
 exact SQ (jK 4 [14] [] (NN (cP ((((i:Nat):Int):Int)<(((d1.length:Nat):Int):Int)) (λjg=>KX (ah.seq (ah.block (ah.seq (rQ (jQ 9 [25] [(2,x_ i d1.length (aW.hd hA1 (j:=i) (by omega))),(3,p_ ⟨[.old (.int .u8 ((((List.getD d1 i 0).toNat:Nat):Int)))],none,none,none,none⟩ [(Rd β ⟨(aV A1),aU A1+i*1,none⟩ (.int .u8 ((((List.getD d1 i 0).toNat:Nat):Int))))] ⟨aW.rd hA1 (by omega),trivial⟩),(6,x_ i d2.length (aW.hd WC (j:=i) (by omega))),(7,p_ ⟨[.old (.int .u8 ((((List.getD d2 i 0).toNat:Nat):Int)))],none,none,none,none⟩ [(Rd β ⟨(aV A2),aU A2+i*1,none⟩ (.int .u8 ((((List.getD d2 i 0).toNat:Nat):Int))))] ⟨aW.rd WC (by omega),trivial⟩)] (NQ (NX (cN (((((List.getD d1 i 0).toNat:Nat):Int):Int)=((((List.getD d2 i 0).toNat:Nat):Int):Int)) (λoC=>zR ⟨by rw [decide_eq_false (λe=>oC (by rw [e]))],rfl⟩) (λoC=>KX (ah.region (jK 3 [5] [(1,wJ ((i:Int)+1) (↑(i+1)))] (NL (tJ ((i+1)) [0] (⟨by omega,λj hj=>by grind [XT]⟩))))))))))))))) (λjg=>XX (zR ⟨by rw [decide_eq_true (D2 (x:=0) (by omega) (λj hj=>hall j (by omega)))],rfl⟩)))))
theorem Kb {β:Bs} (A:Option Addr) (c:Nat) (d:List UInt8) (hA:aW β A d) (hl:d.length<=1048576) :
 bV Tryz.prog β 42 #[.slice A d.length c] [] (λβ' v l=>∃B cap,v=.slice B d.length cap/\l=[]/\aW β' B d):=by
 refine o6 Tryz.func42 Tryz.ntmps42 (λhle0 R=>SR (jK 1 [] [] (NS (jB 2 [3] (λb1=>.blk b1 [] 5) (λb1=>NS (ai.mem (λw hS=>hS.oI (i:=1) (b:=b1) (cs:=[]) (e:=5) 1 0 (by kernel_rfl) rfl (by decide)) (jK 2 [5,6] [] (Rc 1 46 A d.length c (bY d) rfl (hA.src) (λA2 c3=>ai.bL 1 rfl (by rw [Nat.zero_add,List.nil_append]) (sl 7 (.slice A2 (0+d.length) (c3)) (.slice A2 (d.length) (c3)) (by rw [Nat.zero_add]) (jK 1 [3] [] (NS (ai.kP (Φ:=λβ'=>aW β' A2 d) 1 [0] (dS:=[.abs R]) rfl rfl (by kernel_rfl) (λF w h β' h1 h2=>bW.gF h h1 h2) (λβ1 aF hB=>?_)))))) (hl:=by rw [sD,Nat.mul_one]) (h1:=o7 d)))))))))
 replace hA:=hA.le aF
 replace hle0:=hle0.trans aF
 exact jK 2 [2] [] (eO [] hle0 ⟨A2,c3,rfl,rfl,hB⟩)
theorem M7 {β:Bs} (n:au) (dA eA:Option Addr) (dC eC:Nat) (hD:aW β dA n.data) (hE:bp β eA n.af) (hl1:n.data.length<=1048576) (hl2:n.af.length<=1048576) :
 bV Tryz.prog β 24 #[.agg #[vI (n.id),vI (n.kind),vI (n.mode),vI (n.uid),vI (n.gid),vI (n.sec),vI (n.nano),.slice dA (n.data.length) (dC),.string n.target,.slice eA (n.af.length) (eC)]] [] (λβ' v l=>∃dB cd eB ce,v=.agg #[vI (n.id),vI (n.kind),vI (n.mode),vI (n.uid),vI (n.gid),vI (n.sec),vI (n.nano),.slice dB (n.data.length) (cd),.string n.target,.slice eB (n.af.length) (ce)]/\l=[]/\aW β' dB n.data/\bp β' eB n.af):=by
 refine o6 Tryz.func24 Tryz.ntmps24 (λhle0 R=>SR (jB 1 [1] (λb4=>.blk b4 [vI (n.id),vI (n.kind),vI (n.mode),vI (n.uid),vI (n.gid),vI (n.sec),vI (n.nano),.slice dA (n.data.length) (dC),.string n.target,.slice eA (n.af.length) (eC)] 75) (λb4=>jB 1 [2] (λb5=>.blk b5 [vI 0,vI 0,vI 0,vI 0,vI 0,vI 0,vI 0,.slice none (0) (0),.string ⟨#[]⟩,.slice none (0) (0)] 75) (λb5=>NS (jK 2 [5] [(1,a_ 1 b4)] (ai.JI (args:=#[.slice dA (n.data.length) (dC)]) (d:=(some 6)) (pre:=[]) (R:=[.abs R,.blk b4 [vI (n.id),vI (n.kind),vI (n.mode),vI (n.uid),vI (n.gid),vI (n.sec),vI (n.nano),.slice dA (n.data.length) (dC),.string n.target,.slice eA (n.af.length) (eC)] 75,.blk b5 [vI 0,vI 0,vI 0,vI 0,vI 0,vI 0,vI 0,.slice none (0) (0),.string ⟨#[]⟩,.slice none (0) (0)] 75]) (pk:=[0,1,2]) (λ_=>by kernel_rfl) (Kb dA dC n.data hD hl1) rfl (by kernel_rfl) ?_))))))
 rintro β1 _ _ aF ⟨B6,c7,rfl,rfl,yE⟩
 replace hD:=hD.le aF
 replace hE:=hE.le aF
 replace hle0:=hle0.trans aF
 refine jC 2 [] [(1,a_ 1 b4)] [(1,[(7,.slice B6 (n.data.length) (c7))])] (NS (jB 2 [3] (λb8=>.blk b8 [] 90) (λb8=>NS (ai.mem (λw hS=>hS.oI (i:=3) (b:=b8) (cs:=[]) (e:=90) 2 0 (by kernel_rfl) rfl (by decide)) (jK 3 [9,11] [(2,a_ 1 b4)] (kH 3 73 eA n.af.length eC (jX n.af) rfl (hE.src) (λA9 c10=>ai.bL 3 rfl (by rw [Nat.zero_add,List.nil_append]) (sl 12 (.slice A9 (0+n.af.length) (c10)) (.slice A9 (n.af.length) (c10)) (by rw [Nat.zero_add]) (jK 1 [3] [] (NS (ai.kP (Φ:=λβ'=>bp β' A9 n.af) 3 [0,1,2] (dS:=[.abs R,.blk b4 [vI (n.id),vI (n.kind),vI (n.mode),vI (n.uid),vI (n.gid),vI (n.sec),vI (n.nano),.slice B6 (n.data.length) (c7),.string n.target,.slice eA (n.af.length) (eC)] 75,.blk b5 [vI 0,vI 0,vI 0,vI 0,vI 0,vI 0,vI 0,.slice none (0) (0),.string ⟨#[]⟩,.slice none (0) (0)] 75]) rfl rfl (by kernel_rfl) (λF w h β' h1 h2=>bW.gF h h1 h2) (λkI cC hE1=>?_)))))) (hl:=by rw [Ih]) (h1:=Bo n.af)))))))
 replace hD:=hD.le cC
 replace hE:=hE.le cC
 replace yE:=yE.le cC
 replace hle0:=hle0.trans cC
 exact jC 3 [] [(2,a_ 1 b4)] [(1,[(9,.slice A9 (n.af.length) (c10))])] (NS (jC 2 [] [(0,A_ 1 b4 10),(1,A_ 2 b5 10)] [(2,[(0,vI (n.id)),(1,vI (n.kind)),(2,vI (n.mode)),(3,vI (n.uid)),(4,vI (n.gid)),(5,vI (n.sec)),(6,vI (n.nano)),(7,.slice B6 (n.data.length) (c7)),(8,.string n.target),(9,.slice A9 (n.af.length) (c10))])] (eO [A_ 2 b5 10] hle0 ⟨B6,c7,A9,c10,rfl,rfl,yE,hE1⟩)))
theorem Kc {β:Bs} (A:Option Addr) (c:Nat) (ns:List au) (L:Lay) (hG:av β A ns L) (hl:ns.length<=1048576) (hd:∀i,i<ns.length->(nd ns i).data.length<=1048576/\(nd ns i).af.length<=1048576) :
 bV Tryz.prog β 6 #[.agg #[.slice A ns.length c]] [] (λβ' v l=>∃B cap L',v=.agg #[.slice B ns.length cap]/\l=[]/\av β' B ns L'):=by
 refine o6 Tryz.func6 Tryz.ntmps6 (λhle0 R=>SR (jB 1 [1] (λb11=>.blk b11 [.slice A (ns.length) (c)] 24) (λb11=>jB 1 [2] (λb12=>.blk b12 [.slice none (0) (0)] 24) (λb12=>NS (jB 2 [3] (λb13=>.blk b13 [] 75) (λb13=>NZ (ai.mem (λw hS=>hS.oI (i:=3) (b:=b13) (cs:=[]) (e:=75) 10 0 (by kernel_rfl) rfl (by decide)) (jK 1 [4] [] (NN (ah.block (lB (λ(k,b,Ao,cp,L')=>b) (λ(k,b,Ao,cp,L')=>(k<=ns.length)/\(β.le b)/\(av b A ns L)/\(kX b ns k L')) (λ(k,b,Ao,cp,L')=>ns.length-k) (λ(k,b,Ao,cp,L')=>[(1,vP b11),(2,vP b12),(3,.slice Ao (k) (cp)),(4,vI ↑k)]) (λ(k,b,Ao,cp,L')=>[.blk b11 [.slice A (ns.length) (c)] 24,.blk b12 [.slice none (0) (0)] 24,.abs (aq 75 10 Ao k cp (aJ L' (ns.take k))),.abs R]) (0,β,some ⟨b13,0,none⟩,0,⟨λ_=>none,λ_=>none,λ_=>0,λ_=>0⟩) [1,2,3,0] (⟨Nat.zero_le _,hle0,hG,⟨λi hi=>absurd hi (Nat.not_lt_zero _),λi hi=>absurd hi (Nat.not_lt_zero _)⟩⟩) ?_)))))))))))
 rintro⟨k,b,Ao,cp,L'⟩ ⟨hk,hle0,hG,hI⟩
 refine SQ (jK 5 [10] [(2,a_ 0 b11)] (NN (cP ((((k:Nat):Int):Int)<(((ns.length:Nat):Int):Int)) (λh10=>?_) (λh10=>?_))))
 ·refine KX (ah.seq (ah.block (ah.region (jK 6 [13,18] [(2,a_ 0 b11),(4,x_ k ns.length (av.hd hG (i:=k) (by omega))),(5,Bl (eT L k (nd ns k)) (λ_ _ h=>av.rd hG (by omega) h))] (ai.JI (args:=#[.agg ⟨eT L k (nd ns k)⟩]) (d:=(some 19)) (pre:=[]) (R:=[.blk b11 [.slice A (ns.length) (c)] 24,.blk b12 [.slice none (0) (0)] 24,.abs (aq 75 10 Ao k cp (aJ L' (ns.take k))),.abs R]) (pk:=[0,1,2,3]) (λ_=>by kernel_rfl) (M7 (nd ns k) (L.dA k) (L.eA k) (L.dC k) (L.eC k) (hG.data k (by omega)) (hG.af k (by omega)) (hd k (by omega)).1 (hd k (by omega)).2) rfl (by kernel_rfl) ?_)))))
  rintro Ur _ _ tj ⟨Us,Ut,Uu,Uv,rfl,rfl,hdB,heB⟩
  replace hG:=hG.le tj
  replace hI:=hI.le tj
  replace hle0:=hle0.trans tj
  exact jB 1 [20] (λb19=>.blk b19 [vI ((nd ns k).id),vI ((nd ns k).kind),vI ((nd ns k).mode),vI ((nd ns k).uid),vI ((nd ns k).gid),vI ((nd ns k).sec),vI ((nd ns k).nano),.slice Us ((nd ns k).data.length) (Ut),.string (nd ns k).target,.slice Uu ((nd ns k).af.length) (Uv)] 75) (λb19=>kH 2 22 (some ⟨b19,0,none⟩) 1 1 [vI ((nd ns k).id),vI ((nd ns k).kind),vI ((nd ns k).mode),vI ((nd ns k).uid),vI ((nd ns k).gid),vI ((nd ns k).sec),vI ((nd ns k).nano),.slice Us ((nd ns k).data.length) (Ut),.string (nd ns k).target,.slice Uu ((nd ns k).af.length) (Uv)] rfl (dI (j:=4) rfl) (λkR kS=>ai.bL 2 rfl (by rw [E7 (by omega)]) (jK 1 [3] [] (LX (ah.region (jK 3 [4] [(1,wJ ((k:Int)+1) (↑(k+1)))] (NL (tB ((k+1),Ur,kR,kS,(L'.put k Us Ut Uu Uv)) [0,1,2,3] (⟨by omega,hle0,hG,hI.put hdB heB⟩)))))))))
 refine XX (SR (ai.kP (Φ:=λβ'=>bW β' Ao (aJ L' (ns.take k))) 2 [0,1,3] (dS:=[.blk b11 [.slice A (ns.length) (c)] 24,.blk b12 [.slice none (0) (0)] 24,.abs R]) rfl rfl (by kernel_rfl) (λF w h β' h1 h2=>bW.gF h h1 h2) (λβz Gz hR=>?_)))
 replace hG:=hG.le Gz
 replace hI:=hI.le Gz
 replace hle0:=hle0.trans Gz
 exact sl 3 (.slice Ao (k) (cp)) (.slice Ao (ns.length) (cp)) (by rw [show k=ns.length by omega]) (jC 3 [] [(2,a_ 1 b12)] [(1,[(0,.slice Ao (ns.length) (cp))])] (eO [a_ 1 b12] hle0 ⟨Ao,cp,L',rfl,rfl,av.mk' hR hI (by omega)⟩ [2]))
theorem M8 {β:Bs} (n m:au) (dA eA dB eB:Option Addr) (dC eC dD eD:Nat) (hD:aW β dA n.data) (hE:bp β eA n.af) (WD:aW β dB m.data) (uh:bp β eB m.af) (hl1:n.data.length<=140737488355328) (hl2:n.af.length<=1048576) :
 Spec Tryz.prog β 100 #[.agg #[vI (n.id),vI (n.kind),vI (n.mode),vI (n.uid),vI (n.gid),vI (n.sec),vI (n.nano),.slice dA (n.data.length) (dC),.string n.target,.slice eA (n.af.length) (eC)],.agg #[vI (m.id),vI (m.kind),vI (m.mode),vI (m.uid),vI (m.gid),vI (m.sec),vI (m.nano),.slice dB (m.data.length) (dD),.string m.target,.slice eB (m.af.length) (eD)]] [] (λv l=>v=.bool (decide (n=m))/\l=[]):=by
 refine SE Tryz.func100 Tryz.ntmps100 (λR=>SR (jB 1 [2] (λwg=>.blk wg [vI (n.id),vI (n.kind),vI (n.mode),vI (n.uid),vI (n.gid),vI (n.sec),vI (n.nano),.slice dA (n.data.length) (dC),.string n.target,.slice eA (n.af.length) (eC)] 75) (λwg=>jB 2 [3] (λsE=>.blk sE [vI (m.id),vI (m.kind),vI (m.mode),vI (m.uid),vI (m.gid),vI (m.sec),vI (m.nano),.slice dB (m.data.length) (dD),.string m.target,.slice eB (m.af.length) (eD)] 75) (λsE=>NZ (jK 6 [11] [(1,a_ 1 wg),(3,a_ 2 sE)] (sN 11 ((n.id:Int)=(m.id:Int)) (λh11=>jK 58 [69] [] (NT (zR ⟨by rw [decide_eq_false (λe=>h11 (by grind))],rfl⟩))) (λh11=>jK 7 [18] [(1,a_ 1 wg),(3,a_ 2 sE)] (sN 18 ((n.kind:Int)=(m.kind:Int)) (λmF=>jK 51 [69] [] (NT (zR ⟨by rw [decide_eq_false (λe=>mF (by grind))],rfl⟩))) (λmF=>jK 7 [25] [(1,a_ 1 wg),(3,a_ 2 sE)] (sN 25 ((n.mode:Int)=(m.mode:Int)) (λoC=>jK 44 [69] [] (NT (zR ⟨by rw [decide_eq_false (λe=>oC (by grind))],rfl⟩))) (λoC=>jK 7 [32] [(1,a_ 1 wg),(3,a_ 2 sE)] (sN 32 ((n.uid:Int)=(m.uid:Int)) (λo8=>jK 37 [69] [] (NT (zR ⟨by rw [decide_eq_false (λe=>o8 (by grind))],rfl⟩))) (λo8=>jK 7 [39] [(1,a_ 1 wg),(3,a_ 2 sE)] (sN 39 ((n.gid:Int)=(m.gid:Int)) (λqB=>jK 30 [69] [] (NT (zR ⟨by rw [decide_eq_false (λe=>qB (by grind))],rfl⟩))) (λqB=>jK 4 [41,43] [(1,A_ 1 wg 2),(3,A_ 2 sE 2)] (ai.kB (d:=(some 44)) (op:=.binOp .neq 26 (.tmp 41) (.tmp 43) 26) (v:=.bool (!(decide ((n.sec:Int)=(m.sec:Int)/\(n.nano:Int)=(m.nano:Int))))) (λ_=>by kernel_rfl) (λo junk w ho hS=>⟨w,M6 ho (by kernel_rfl) (by kernel_rfl),hS⟩) (jK 2 [46] [] (sN 46 ((n.sec:Int)=(m.sec:Int)/\(n.nano:Int)=(m.nano:Int)) (λh46=>jK 23 [69] [] (NT (zR ⟨by rw [decide_eq_false (λe=>h46 (by grind))],rfl⟩))) (λh46=>jK 7 [53] [(1,a_ 1 wg),(3,a_ 2 sE),(4,w_ (.bool (!(decide ((n.target:ByteArray)=m.target)))) (EU _ _))] (sN 53 ((n.target:ByteArray)=m.target) (λDu=>jK 16 [69] [] (NT (zR ⟨by rw [decide_eq_false (λe=>Du (by grind))],rfl⟩))) (λDu=>jK 9 [62] [(1,a_ 1 wg),(4,a_ 2 sE)] (sN 62 ((((n.af.length:Nat):Int):Int)=(((m.af.length:Nat):Int):Int)) (λDv=>jK 7 [69] [] (NT (zR ⟨by rw [decide_eq_false (λe=>Dv (by grind))],rfl⟩))) (λDv=>jK 4 [64,66] [(1,a_ 1 wg),(3,a_ 2 sE)] (gE [] (Bp dA dB dC dD n.data m.data hD WD hl1) (jK 2 [69] [] (NN (cN (n.data=m.data) (λWE=>zR ⟨by rw [decide_eq_false (λe=>WE (by grind))],rfl⟩) (λWE=>KX (SQ (jK 1 [5] [] (NN (ah.block (lJ (λ(i:Nat)=>(i<=n.af.length)/\(∀j,j<i->n.af.getD j default=m.af.getD j default)) (λ(i:Nat)=>n.af.length-i) (λ(i:Nat)=>[(2,vP wg),(3,vP sE),(5,vI ↑i)]) (λ(i:Nat)=>[.abs R,.blk wg [vI (n.id),vI (n.kind),vI (n.mode),vI (n.uid),vI (n.gid),vI (n.sec),vI (n.nano),.slice dA (n.data.length) (dC),.string n.target,.slice eA (n.af.length) (eC)] 75,.blk sE [vI (m.id),vI (m.kind),vI (m.mode),vI (m.uid),vI (m.gid),vI (m.sec),vI (m.nano),.slice dB (m.data.length) (dD),.string m.target,.slice eB (m.af.length) (eD)] 75]) 0 [0,1,2] (⟨Nat.zero_le _,λj hj=>absurd hj (Nat.not_lt_zero j)⟩) ?_)))))))))))))))))))))))))))))))))
 rintro i ⟨hi,hall⟩
 exact SQ (jK 5 [74] [(2,a_ 1 wg)] (NN (cP ((((i:Nat):Int):Int)<(((n.af.length:Nat):Int):Int)) (λDw=>KX (ah.seq (ah.block (ah.seq (rQ (jQ 10 [81,86] [(1,a_ 1 wg),(3,x_ i n.af.length (bp.hd hE (i:=i) (by omega))),(4,r2 (bp.rd hE (i:=i) (by omega) (j:=0) rfl) (bp.rd hE (i:=i) (by omega) (j:=1) rfl)),(6,a_ 2 sE),(8,x_ i m.af.length (bp.hd uh (i:=i) (by omega))),(9,r2 (bp.rd uh (i:=i) (by omega) (j:=0) rfl) (bp.rd uh (i:=i) (by omega) (j:=1) rfl))] (aQ.kB (d:=(some 87)) (op:=.binOp .neq 90 (.tmp 81) (.tmp 86) 90) (v:=.bool (!(decide ((en n.af i).name=(en m.af i).name/\((en n.af i).id:Int)=((en m.af i).id:Int))))) (λ_=>by kernel_rfl) (λo junk w ho _=>Pu ho (by kernel_rfl) (by kernel_rfl)) (NQ (NX (cN ((en n.af i).name=(en m.af i).name/\((en n.af i).id:Int)=((en m.af i).id:Int)) (λh87=>zR ⟨by rw [decide_eq_false (λe=>h87 (by grind))],rfl⟩) (λh87=>KX (ah.region (jK 3 [5] [(1,wJ ((i:Int)+1) (↑(i+1)))] (NL (tJ ((i+1)) [0,1,2] (⟨by omega,λj hj=>by rcases Nat.lt_succ_iff_lt_or_eq.1 hj with h|h;exact hall j h;subst h;exact abe h87⟩)))))))))))))))) (λDw=>XX (zR ⟨by rw [decide_eq_true (YX (by omega) (by omega) (by omega) (by omega) (by omega) (by assumption) (by assumption) (by assumption) (D2 (x:=default) (by omega) (λj hj=>hall j (by omega))))],rfl⟩)))))
theorem Ke {β:Bs} (A B:Option Addr) (c c':Nat) (ns ms:List au) (L K:Lay) (hG:av β A ns L) (hH:av β B ms K) (hl:ns.length<=1048576) (hd:∀i,i<ns.length->(nd ns i).data.length<=140737488355328/\(nd ns i).af.length<=1048576) :
 Spec Tryz.prog β 47 #[.agg #[.slice A ns.length c],.agg #[.slice B ms.length c']] [] (λv l=>v=.bool (decide (ns=ms))/\l=[]):=by
 refine SE Tryz.func47 Tryz.ntmps47 (λR=>SR (jB 1 [2] (λBq=>.blk Bq [.slice A (ns.length) (c)] 24) (λBq=>jB 2 [3] (λNY=>.blk NY [.slice B (ms.length) (c')] 24) (λNY=>NZ (jK 7 [12] [(1,a_ 1 Bq),(4,a_ 2 NY)] (NN (cN ((((ns.length:Nat):Int):Int)=(((ms.length:Nat):Int):Int)) (λh12=>zR ⟨by rw [decide_eq_false (λe=>h12 (by rw [e]))],rfl⟩) (λh12=>KX (SQ (jK 1 [5] [] (NN (ah.block (lJ (λ(i:Nat)=>(i<=ns.length)/\(∀j,j<i->ns.getD j default=ms.getD j default)) (λ(i:Nat)=>ns.length-i) (λ(i:Nat)=>[(2,vP Bq),(3,vP NY),(5,vI ↑i)]) (λ(i:Nat)=>[.abs R,.blk Bq [.slice A (ns.length) (c)] 24,.blk NY [.slice B (ms.length) (c')] 24]) 0 [0,1,2] (⟨Nat.zero_le _,λj hj=>absurd hj (Nat.not_lt_zero j)⟩) ?_)))))))))))))
 rintro i ⟨hi,hall⟩
 exact SQ (jK 5 [17] [(2,a_ 1 Bq)] (NN (cP ((((i:Nat):Int):Int)<(((ns.length:Nat):Int):Int)) (λBr=>KX (ah.seq (ah.block (ah.seq (rQ (jQ 10 [24,29] [(1,a_ 1 Bq),(3,x_ i ns.length (av.hd hG (i:=i) (by omega))),(4,Bl (eT L i (nd ns i)) (λ_ _ h=>av.rd hG (by omega) h)),(6,a_ 2 NY),(8,x_ i ms.length (av.hd hH (i:=i) (by omega))),(9,Bl (eT K i (nd ms i)) (λ_ _ h=>av.rd hH (by omega) h))] (jU [] [0,1,2] (.bool (decide (nd ns i=nd ms i))) (M8 (nd ns i) (nd ms i) (L.dA i) (L.eA i) (K.dA i) (K.eA i) (L.dC i) (L.eC i) (K.dC i) (K.eC i) (hG.data i (by omega)) (hG.af i (by omega)) (hH.data i (by omega)) (hH.af i (by omega)) (hd i (by omega)).1 (hd i (by omega)).2) (jQ 1 [31] [] (NQ (NX (cN (nd ns i=nd ms i) (λRf=>zR ⟨by rw [decide_eq_false (λe=>Rf (by rw [e]))],rfl⟩) (λRf=>KX (ah.region (jK 3 [5] [(1,wJ ((i:Int)+1) (↑(i+1)))] (NL (tJ ((i+1)) [0,1,2] (⟨by omega,λj hj=>by rcases Nat.lt_succ_iff_lt_or_eq.1 hj with h|h;exact hall j h;subst h;exact Rf⟩))))))))))))))))) (λBr=>XX (zR ⟨by rw [decide_eq_true (D2 (x:=default) (by omega) (λj hj=>hall j (by omega)))],rfl⟩)))))
end
end Go.Proofs.YtnipofpbcggjcaaGreatDoor
section
namespace Go.Proofs
open Go.Shelf
def Tryz.lays119_ren:Go.Shelf.Ren:=⟨fun|119=>191|n=>n,fun|21=>21|4=>4|n=>n,fun|n=>n⟩
theorem Tryz.lays119:Go.Proofs.Lays.n119 Tryz.prog Tryz.lays119_ren:={
 mixed:=by kernel_rfl
 f119:=Tryz.func191.trans (congrArg some (by kernel_rfl))
 t4:=Tryz.underlying4
 a4:=Tryz.isAgg4
 z4:=Tryz.sizeOf4
 v4:=Tryz.zeroValue4
 t21:=Tryz.underlying21
 a21:=Tryz.isAgg21
 z21:=Tryz.sizeOf21
 v21:=Tryz.zeroValue21}
theorem Tryz.utf8_ValidRune (r:Int) (w:World) :
 Calls Tryz.prog 191 #[.int .i32 r] w λe w'=>e=.returned (.bool (Lib.validRune r))/\w'=w:=Any.utf8_ValidRune Tryz.lays119 r w
def Tryz.lays137_ren:Go.Shelf.Ren:=⟨fun|137=>120|217=>143|266=>174|n=>n,fun|9=>9|5=>5|3=>3|n=>n,fun|n=>n⟩
theorem Tryz.lays137:Go.Proofs.Lays.n137 Tryz.prog Tryz.lays137_ren:={
 mixed:=by kernel_rfl
 f137:=Tryz.func120.trans (congrArg some (by kernel_rfl))
 f217:=Tryz.func143.trans (congrArg some (by kernel_rfl))
 f266:=Tryz.func174.trans (congrArg some (by kernel_rfl))
 t3:=Tryz.underlying3
 a3:=Tryz.isAgg3
 z3:=Tryz.sizeOf3
 v3:=Tryz.zeroValue3
 t5:=Tryz.underlying5
 a5:=Tryz.isAgg5
 z5:=Tryz.sizeOf5
 v5:=Tryz.zeroValue5
 t9:=Tryz.underlying9
 a9:=Tryz.isAgg9
 z9:=Tryz.sizeOf9
 v9:=Tryz.zeroValue9}
open Go.RowKit in
theorem Tryz.strings_IndexByte (s:ByteArray) (c:Int) (w:World) :
 Calls Tryz.prog 120 #[.string s,.int .u8 c] w λe w'=>e=.returned (.int .i64 (Lib.indexByte s.data.toList c.toNat.toUInt8))/\w'=w:=Any.strings_IndexByte Tryz.lays137 s c w
def Tryz.lays189_ren:Go.Shelf.Ren:=⟨fun|189=>104|125=>133|257=>132|128=>155|129=>156|294=>146|295=>147|296=>148|297=>149|298=>150|299=>151|216=>152|300=>153|301=>154|328=>177|329=>178|330=>179|331=>180|332=>181|215=>182|343=>193|n=>n,fun|28=>38|3=>3|46=>190|0=>0|51=>208|53=>210|4=>4|183=>202|182=>201|131=>194|5=>5|9=>9|218=>230|222=>234|228=>243|229=>244|n=>n,fun|n=>n⟩
def Tryz.lays190_ren:Go.Shelf.Ren:=⟨fun|190=>107|125=>133|258=>135|128=>155|129=>156|302=>157|303=>158|304=>159|305=>160|306=>161|307=>162|308=>163|309=>164|310=>165|333=>183|329=>178|330=>179|334=>184|335=>185|336=>186|344=>194|n=>n,fun|31=>129|9=>9|3=>3|46=>190|0=>0|51=>208|53=>210|4=>4|183=>202|182=>201|131=>194|5=>5|218=>230|222=>234|228=>243|229=>244|n=>n,fun|n=>n⟩
def Tryz.lays152_ren:Go.Shelf.Ren:=⟨fun|152=>170|137=>120|119=>191|224=>189|225=>188|217=>143|266=>174|n=>n,fun|9=>9|21=>21|3=>3|4=>4|5=>5|0=>0|46=>190|n=>n,fun|n=>n⟩
theorem Tryz.lays152:Go.Proofs.Lays.n152 Tryz.prog Tryz.lays152_ren:={
 mixed:=by kernel_rfl
 f119:=Tryz.func191.trans (congrArg some (by kernel_rfl))
 f137:=Tryz.func120.trans (congrArg some (by kernel_rfl))
 f152:=Tryz.func170.trans (congrArg some (by kernel_rfl))
 f217:=Tryz.func143.trans (congrArg some (by kernel_rfl))
 f224:=Tryz.func189.trans (congrArg some (by kernel_rfl))
 f225:=Tryz.func188.trans (congrArg some (by kernel_rfl))
 f266:=Tryz.func174.trans (congrArg some (by kernel_rfl))
 t0:=Tryz.underlying0
 a0:=Tryz.isAgg0
 z0:=Tryz.sizeOf0
 v0:=Tryz.zeroValue0
 t3:=Tryz.underlying3
 a3:=Tryz.isAgg3
 z3:=Tryz.sizeOf3
 v3:=Tryz.zeroValue3
 t4:=Tryz.underlying4
 a4:=Tryz.isAgg4
 z4:=Tryz.sizeOf4
 v4:=Tryz.zeroValue4
 t5:=Tryz.underlying5
 a5:=Tryz.isAgg5
 z5:=Tryz.sizeOf5
 v5:=Tryz.zeroValue5
 t9:=Tryz.underlying9
 a9:=Tryz.isAgg9
 z9:=Tryz.sizeOf9
 v9:=Tryz.zeroValue9
 t21:=Tryz.underlying21
 a21:=Tryz.isAgg21
 z21:=Tryz.sizeOf21
 v21:=Tryz.zeroValue21
 t46:=Tryz.underlying190
 a46:=Tryz.isAgg190
 z46:=Tryz.sizeOf190
 v46:=Tryz.zeroValue190}
open Go.RowKit Go.Lib in
theorem Tryz.strings_IndexRune_ascii (s:ByteArray) (r:Int) (w:World) (h0:0<=r) (h1:r<128) :
 Calls Tryz.prog 170 #[.string s,.int .i32 r] w λe w'=>e=.returned (.int .i64 (Lib.indexByte s.data.toList r.toNat.toUInt8))/\w'=w:=Any.strings_IndexRune_ascii Tryz.lays152 s r w h0 h1
def Tryz.lays226_ren:Go.Shelf.Ren:=⟨fun|226=>171|n=>n,fun|3=>3|4=>4|n=>n,fun|n=>n⟩
theorem Tryz.lays226:Go.Proofs.Lays.n226 Tryz.prog Tryz.lays226_ren:={
 mixed:=by kernel_rfl
 f226:=Tryz.func171.trans (congrArg some (by kernel_rfl))
 t3:=Tryz.underlying3
 a3:=Tryz.isAgg3
 z3:=Tryz.sizeOf3
 v3:=Tryz.zeroValue3
 t4:=Tryz.underlying4
 a4:=Tryz.isAgg4
 z4:=Tryz.sizeOf4
 v4:=Tryz.zeroValue4}
open Go.RowKit Go.Lib in
theorem Tryz.strings_shouldUseASCIISet (n:Int) (w:World) :
 Calls Tryz.prog 171 #[.int .i64 n] w λe w'=>e=.returned (.bool (decide (8<n)))/\w'=w:=Any.strings_shouldUseASCIISet Tryz.lays226 n w
def Tryz.lays153_ren:Go.Shelf.Ren:=⟨fun|153=>142|152=>170|226=>171|227=>172|228=>173|137=>120|119=>191|224=>189|225=>188|217=>143|266=>174|n=>n,fun|9=>9|3=>3|4=>4|5=>5|21=>21|117=>222|116=>221|0=>0|46=>190|124=>239|n=>n,fun|n=>n⟩
theorem Tryz.lays153:Go.Proofs.Lays.n153 Tryz.prog Tryz.lays153_ren:={
 mixed:=by kernel_rfl
 f119:=Tryz.func191.trans (congrArg some (by kernel_rfl))
 f137:=Tryz.func120.trans (congrArg some (by kernel_rfl))
 f152:=Tryz.func170.trans (congrArg some (by kernel_rfl))
 f153:=Tryz.func142.trans (congrArg some (by kernel_rfl))
 f217:=Tryz.func143.trans (congrArg some (by kernel_rfl))
 f224:=Tryz.func189.trans (congrArg some (by kernel_rfl))
 f225:=Tryz.func188.trans (congrArg some (by kernel_rfl))
 f226:=Tryz.func171.trans (congrArg some (by kernel_rfl))
 f227:=Tryz.func172.trans (congrArg some (by kernel_rfl))
 f228:=Tryz.func173.trans (congrArg some (by kernel_rfl))
 f266:=Tryz.func174.trans (congrArg some (by kernel_rfl))
 t0:=Tryz.underlying0
 a0:=Tryz.isAgg0
 z0:=Tryz.sizeOf0
 v0:=Tryz.zeroValue0
 t3:=Tryz.underlying3
 a3:=Tryz.isAgg3
 z3:=Tryz.sizeOf3
 v3:=Tryz.zeroValue3
 t4:=Tryz.underlying4
 a4:=Tryz.isAgg4
 z4:=Tryz.sizeOf4
 v4:=Tryz.zeroValue4
 t5:=Tryz.underlying5
 a5:=Tryz.isAgg5
 z5:=Tryz.sizeOf5
 v5:=Tryz.zeroValue5
 t9:=Tryz.underlying9
 a9:=Tryz.isAgg9
 z9:=Tryz.sizeOf9
 v9:=Tryz.zeroValue9
 t21:=Tryz.underlying21
 a21:=Tryz.isAgg21
 z21:=Tryz.sizeOf21
 v21:=Tryz.zeroValue21
 t46:=Tryz.underlying190
 a46:=Tryz.isAgg190
 z46:=Tryz.sizeOf190
 v46:=Tryz.zeroValue190
 t116:=Tryz.underlying221
 a116:=Tryz.isAgg221
 z116:=Tryz.sizeOf221
 t117:=Tryz.underlying222
 a117:=Tryz.isAgg222
 z117:=Tryz.sizeOf222
 v117:=Tryz.zeroValue222
 t124:=Tryz.underlying239
 a124:=Tryz.isAgg239
 z124:=Tryz.sizeOf239
 v124:=Tryz.zeroValue239}
open Go.RowKit Go.Lib in
theorem Tryz.strings_IndexAny_long (hv116:∀w,(zeroValue 221).run Tryz.prog w=.ok (.agg (Array.replicate 256 (.bool false))) w) (s chars:ByteArray) (w:World) (h2:2<=chars.size) (h8:8<s.size) (hs:s.size<4294967281) (hcs:chars.size<4294967281) (hascii:∀(j:Nat) b,chars.data.toList[j]?=some b->b.toNat<128) :
 Calls Tryz.prog 142 #[.string s,.string chars] w λe w'=>e=.returned (.int .i64 (Lib.indexAny s.data.toList chars.data.toList))/\w'=((w.alloc (.cells (Lib.setCells chars.data.toList) 221)).alloc (.cells (Lib.setCells chars.data.toList) 221)):=Any.strings_IndexAny_long Tryz.lays153 hv116 (by kernel_rfl) s chars w h2 h8 hs hcs hascii
end Go.Proofs
end
namespace Go.Proofs.YtnipofpbcggjcaaGreatDoor
section
open Go.RowKit
def Within (a b c:Int):Prop:=b<=a/\a<=c
instance (a b c:Int):Decidable (Within a b c):=inferInstanceAs (Decidable (_/\_))
def dz (s n:Int):Prop:=0<=n/\n<1000000000/\-1099511627777<=s/\s<=1099511627776/\(s = -1099511627777->0<n)
noncomputable instance (a b:Int):Decidable (dz a b):=Classical.propDecidable _
def bO (s:ByteArray) (j:Nat):Nat:=(s.data.getD j 0).toNat
def nW (s:ByteArray):Prop:=∀j,j<s.size->¬bO s j=0
noncomputable instance (s:ByteArray):Decidable (nW s):=Classical.propDecidable _
def aS (s:ByteArray):Prop:=1<=s.size/\s.size<=255/\¬s=⟨#[46]⟩/\¬s=⟨#[46,46]⟩/\∀j,j<s.size->¬bO s j=0/\¬bO s j=47
noncomputable instance (s:ByteArray):Decidable (aS s):=Classical.propDecidable _
def bJ (k:Int) (t:ByteArray):Prop:=(¬k=3/\t=⟨#[]⟩)\/(k=3/\1<=t.size/\t.size<=4096/\nW t)
noncomputable instance (k:Int) (s:ByteArray):Decidable (bJ k s):=Classical.propDecidable _
structure o9 (n:au):Prop where
 kind:1<=n.kind/\n.kind<=3
 mode:0<=n.mode/\n.mode<=4095
 uid:0<=n.uid/\n.uid<=2147483647
 gid:0<=n.gid/\n.gid<=2147483647
 time:dz n.sec n.nano
 data:¬n.kind=1->n.data.length=0
 af:¬n.kind=2->n.af.length=0
 target:bJ n.kind n.target
noncomputable instance (n:au):Decidable (o9 n):=Classical.propDecidable _
theorem bH {n:au}:o9 n↔(1<=n.kind/\n.kind<=3)/\(0<=n.mode/\n.mode<=4095)/\(0<=n.uid/\n.uid<=2147483647)/\(0<=n.gid/\n.gid<=2147483647)/\dz n.sec n.nano/\(¬n.kind=1->n.data.length=0)/\(¬n.kind=2->n.af.length=0)/\bJ n.kind n.target:=
 ⟨λh=>⟨h.1,h.2,h.3,h.4,h.5,h.6,h.7,h.8⟩,λ⟨a,b,c,d,e,f,g,h⟩=>⟨a,b,c,d,e,f,g,h⟩⟩
theorem bJ.sym {k:Int} {t:ByteArray} (h:bJ k t) (hk:k=3):1<=t.size/\t.size<=4096/\nW t:=h.elim (λh=>absurd hk h.1) (λh=>h.2)
def bK (ns:List au):Prop:=∀i j,i<j->j<ns.length->(nd ns i).id<(nd ns j).id
def dV (ns:List au) (id:Int):Int:=
 match ns.findIdx? (λn=>n.id == id) with
 |some k=>(k:Int)
 |none=>-1
theorem D3 {ns:List au} {id:Int} (h:∀j,j<ns.length->¬(nd ns j).id=id):dV ns id = -1:=by
 unfold dV
 have:ns.findIdx? (λn=>n.id == id)=none:=by
  rw [List.findIdx?_eq_none_iff]
  intro n hn
  obtain⟨j,hj,rfl⟩:=List.getElem_of_mem hn
  grind [nd]
 rw [this]
theorem Kf {ns:List au} {id:Int} {k:Nat} (hr:bK ns) (hk:k<ns.length) (he:(nd ns k).id=id):dV ns id=(k:Int):=by
 unfold dV
 have hg:∀j (hj:j<ns.length),nd ns j=ns[j]:=λj hj=>by
  grind [nd]
 have:ns.findIdx? (λn=>n.id == id)=some k:=by
  rw [List.findIdx?_eq_some_iff_getElem]
  grind [bK,nd,dV]
 rw [this]
theorem bK.le {ns:List au} (hr:bK ns) {i j:Nat} (hi:i<=j) (hj:j<ns.length):(nd ns i).id<=(nd ns j).id:=by
 rcases Nat.lt_or_ge i j with h|h
 all_goals grind [bK,nd]
theorem qp {s:ByteArray}:s.size=0↔s=⟨#[]⟩:=by
 constructor
 ·intro h
  obtain⟨⟨l⟩⟩:=s
  have h:l.length=0:=h
  rw [List.length_eq_zero_iff.1 h]
 rintro rfl
 rfl
theorem Bt {p q:Prop} [Decidable p] [Decidable q] (h:¬p↔q):(!decide p)=decide q:=by
 grind
theorem Bu {s:ByteArray} {j:Nat} {b:UInt8} (h:s.data.toList[j]?=some b):j<s.size/\bO s j=b.toNat:=by
 have h1:=bT h
 rw [Array.length_toList] at h1
 refine⟨h1,?_⟩
 unfold bO
 have:s.data[j]?=some b:=by simpa using h
 rw [Array.getD_eq_getD_getElem?,this]
 rfl
theorem tW {s:ByteArray} {j:Nat} (h:j<s.size):s.data.toList[j]?=some (s.data.getD j 0):=by
 have h1:j<s.data.size:=h
 rw [Array.getD_eq_getD_getElem?,Array.getElem?_eq_getElem h1]
 simp
theorem Kg {s:ByteArray}:Lib.indexByte s.data.toList (0:Int).toNat.toUInt8<0↔nW s:=by
 constructor
 ·intro h j hj e
  have h1:=Lib.indexByte_ge s.data.toList (0:Int).toNat.toUInt8
  refine Lib.indexByte_none (by omega:Lib.indexByte s.data.toList (0:Int).toNat.toUInt8 = -1) j ?_
  rw [tW hj]
  have:s.data.getD j 0=0:=UInt8.toNat_inj.1 e
  rw [this]
  rfl
 intro h
 refine Decidable.byContradiction (λh1=>?_)
 obtain⟨o,ho⟩:=Int.eq_ofNat_of_zero_le (Int.not_lt.1 h1)
 obtain⟨h2,h3⟩:=Bu (Lib.indexByte_some ho).1
 exact absurd h3 (h o h2)
end
section
open Go.RowKit Go.Maps
theorem gH:Keyed Tryz.prog 3:=int_keyed Tryz.underlying3
theorem tq {z:Int} (lo:-9223372036854775808<=z) (hi:z<=9223372036854775807):keyOf Tryz.prog 3 (.int .i64 z)=some (.int .i64 z):=
 keyOf_int_mk Tryz.underlying3 (WalkArith.wf_i64 (by omega))
def mf (g:Int->Option Value):Lit->Option Value
 |.int .i64 h=>g h
 |_=>none
theorem Kh (g:Int->Option Value) (h:Int) (v:Option Value):o4 (mf g) (.int .i64 h) v=mf (λz=>if z=h then v else g z):=by
 funext x
 unfold o4 mf
 cases x with
 |int k n=>
   by_cases hk:k=.i64
   ·subst hk
    by_cases e:n=h
    ·simp [Lit.sameKey,e]
    simp [Lit.sameKey,e]
   have e:(Lit.int k n).sameKey (.int .i64 h)=false:=by simp [Lit.sameKey,hk]
   grind
 |_=>rfl
theorem GA:mf (λ_=>none)=λ_=>none:=by
 funext x
 unfold mf
 split<;>rfl
def up (ps:List (Int×Int)) (z:Int):Option Int:=ps.lookup z
def pf (ps:List (Int×Int)) (z:Int):Option Value:=(up ps z).map (Value.int .i64)
theorem XU {ps:List (Int×Int)} {z:Int} {u:Value} (h:mf (pf ps) (.int .i64 z)=some u):∃y,up ps z=some y/\u=.int .i64 y:=by
 have h:(up ps z).map (Value.int .i64)=some u:=h
 cases hu:up ps z with
 |none=>rw [hu] at h;cases h
 |some y=>rw [hu] at h;cases h;exact⟨y,rfl,rfl⟩
theorem XV {ps:List (Int×Int)} {a b:Int}:mf (λz=>if z=a then some (.int .i64 b) else pf ps z)=mf (pf ((a,b)::ps)):=by
 congr 1
 grind [pf,up]
def kT (ps:List (Int×Int)):Nat->Int->Prop
 |0,z=>up ps z=none
 |k+1,z=>∃y,up ps z=some y/\kT ps k y
def Ends (ps:List (Int×Int)) (z:Int):Prop:=∃k,kT ps k z
theorem kT.uniq {ps:List (Int×Int)}:∀{k j:Nat} {z:Int},kT ps k z->kT ps j z->k=j
 |0,0,_,_,_=>rfl
 |0,j+1,z,h,h'=>by
   obtain⟨y,hy,_⟩:=h'
   have h:up ps z=none:=h
   rw [h] at hy
   cases hy
 |k+1,0,z,h',h=>by
   obtain⟨y,hy,_⟩:=h'
   have h:up ps z=none:=h
   rw [h] at hy
   cases hy
 |k+1,j+1,z,⟨y,hy,h⟩,⟨y',hy',h'⟩=>by
   rw [hy] at hy'
   cases hy'
   rw [kT.uniq h h']
theorem Ij {ps:List (Int×Int)} {z x:Int} (h:¬x=z):up (ps.filter (λp=>!(p.1 == z))) x=up ps x:=by
 unfold up
 induction ps with
 |nil=>rfl
 |cons p ps ih=>
   grind
theorem kT.le:∀(k:Nat) {ps:List (Int×Int)} {z:Int},kT ps k z->k<=ps.length
 |0,_,_,_=>Nat.zero_le _
 |k+1,ps,z,h=>by
   have h0:=h
   obtain⟨y,hy,hk⟩:=h0
   have hl:(ps.filter (λp=>!(p.1 == z))).length+1<=ps.length:=by
    have hm:∃b,(z,b)∈ps:=by
     unfold up at hy
     clear hk h
     induction ps with
     |nil=>cases hy
     |cons p ps ih=>
       obtain⟨a,b⟩:=p
       rw [List.lookup_cons] at hy
       by_cases e:z=a
       ·subst e;exact⟨b,List.mem_cons_self ..⟩
       have h1:(z == a)=false:=by simp [e]
       rw [h1] at hy
       obtain⟨c,hc⟩:=ih hy
       exact⟨c,List.mem_cons_of_mem _ hc⟩
    obtain⟨b,hb⟩:=hm
    have h1:(ps.filter (λp=>!(p.1 == z))).length<ps.length:=by
     rw [List.length_filter_lt_length_iff_exists]
     exact⟨(z,b),hb,by simp⟩
    omega
   have aux:∀(j:Nat) (x:Int),j<=k->kT ps j x->kT (ps.filter (λp=>!(p.1 == z))) j x:=by
    intro j
    induction j with
    |zero=>
      intro x _ hx
      have hx':up ps x=none:=hx
      have:¬x=z:=λe=>by subst e;rw [hx'] at hy;cases hy
      show up _ x=none
      rw [Ij this]
      exact hx'
    |succ j ih=>
      intro x hj hx
      have:¬x=z:=λe=>by
       subst e
       have:=kT.uniq hx h
       omega
      obtain⟨u,hu,hx'⟩:=hx
      exact⟨u,by rw [Ij this];exact hu,ih u (by omega) hx'⟩
   have:=kT.le k (aux k y (Nat.le_refl _) hk)
   omega
inductive Way (ps:List (Int×Int)) (z0:Int):List Int->Int->Prop
 |nil:Way ps z0 [] z0
 |snoc {w:List Int} {x y:Int}:Way ps z0 w x->up ps x=some y->Way ps z0 (w++[x]) y
theorem Ends.step {ps:List (Int×Int)} {x y:Int} (h:up ps x=some y) (hy:Ends ps y):Ends ps x:=let ⟨k,hk⟩:=hy;⟨k+1,y,h,hk⟩
theorem Way.ends {ps:List (Int×Int)} {z0 y:Int} {w:List Int} (h:Way ps z0 w y) (hy:Ends ps y):Ends ps z0/\∀x,x∈w->Ends ps x:=by
 induction h with
 |nil=>exact⟨hy,λx hx=>by cases hx⟩
 |snoc hw hu ih=>
   grind [Ends.step]
theorem Way.long {ps:List (Int×Int)} {z0 y:Int} {w:List Int} (h:Way ps z0 w y):∀{k:Nat},kT ps k z0->∃j,k=w.length+j/\kT ps j y:=by
 induction h with
 |nil=>intro k hk;exact⟨k,by simp,hk⟩
 |snoc hw hu ih=>
   intro k hk
   obtain⟨j,hj,h⟩:=ih hk
   cases j with
   |zero=>
     have h:up ps _=none:=h
     rw [hu] at h
     cases h
   |succ j=>
     grind [kT]
theorem Way.never {ps:List (Int×Int)} {z0 y:Int} {w:List Int} (h:Way ps z0 w y) (hl:ps.length<w.length):¬Ends ps z0:=λ⟨k,hk⟩=>by
 obtain⟨j,hj,_⟩:=h.long hk
 have:=kT.le k hk
 omega
def yG (ps:List (Int×Int)):Prop:=∀z,Ends ps z
noncomputable instance (ps:List (Int×Int)):Decidable (yG ps):=Classical.propDecidable _
def gZ (w:List Int):List Value:=w.map (Value.int .i64)
theorem aq.abf {e:TypeId} {A:Option Addr} {n cap:Nat} {w2:List Int} {j:Nat} (hj:j<w2.length):∀F w,(aq e 1 A n cap (gZ w2)).h F w->w.cell? ⟨aV A,aU A+j*1,none⟩=some (.int .i64 (w2.getD j 0)):=by
 intro F w h
 have hl:=(aq.len h).1
 have hx:(gZ w2)[j]?=some (.int .i64 (w2.getD j 0)):=by
  grind [gZ,getD_some]
 obtain⟨g,rfl⟩:=aq.head h (by grind)
 have:=aq.cell hx F w h
 grind [aq,gZ,aV,aU]
def ff (fs:List Int) (z:Int):Option Value:=if z∈fs then some (.int .i64 1) else none
theorem YZ:mf (ff [])=λ_=>none:=by
 rw [←GA]
 congr 1
theorem Y1 (fs:List Int) (h:Int):o4 (mf (ff fs)) (.int .i64 h) (some (.int .i64 1))=mf (ff (h::fs)):=by
 rw [Kh]
 congr 1
 grind [ff]
theorem Pv {ps:List (Int×Int)} {left:Lit->Bool} {z:Int} (hd:∀x y,up ps x=some y->left (.int .i64 x)=false->Ends ps x) (hz:Ends ps z) :
 ∀x y,up ps x=some y->(left (.int .i64 x) && !(Lit.int .i64 x).sameKey (.int .i64 z))=false->Ends ps x:=by
 intro x y hx h
 by_cases e:x=z
 ·rw [e];exact hz
 refine hd x y hx ?_
 simpa [Lit.sameKey,e] using h
theorem Uw {fn wh m L cnt cnt':Nat} (h:fn<=(L-cnt)*(L+2)) (h2:wh<=fn+m) (hm:m<=L+1) (hc:cnt'<cnt) (hL:cnt<=L):wh<=(L-cnt')*(L+2):=by
 have h1:(L-cnt+1)*(L+2)<=(L-cnt')*(L+2):=Nat.mul_le_mul_right _ (by omega)
 rw [Nat.add_mul,Nat.one_mul] at h1
 omega
theorem WG {ps:List (Int×Int)} {z y:Int} (h:up ps z=some y):mf (pf ps) (.int .i64 z)=some (.int .i64 y):=by
 grind [up,mf,pf]
theorem zq {ps:List (Int×Int)} {z:Int} (h:up ps z=none):mf (pf ps) (.int .i64 z)=none:=by
 grind [up,mf,pf]
theorem N0 {w:List Int} {x lo hi:Int} (h:∀y,y∈w->lo<=y/\y<=hi) (hx:lo<=x/\x<=hi):∀y,y∈w++[x]->lo<=y/\y<=hi:=by
 grind
theorem Ki {ps:List (Int×Int)} {z0 x:Int} {w:List Int} (h:Way ps z0 w x) (hu:up ps x=none):Ends ps z0/\∀y,y∈w++[x]->Ends ps y:=by
 have hx:Ends ps x:=⟨0,hu⟩
 obtain⟨h1,h2⟩:=h.ends hx
 grind
theorem D4 {w:List Int} {j:Nat} (h:j<w.length):w.getD j 0∈w:=by
 grind
end
section
open Go.RowKit
section scope
variable {P:Program} {β:Bs} {N:dx} {fr:Fr} {hps:List HP} {Q:Post} {c:Code} {id:Nat}
theorem ah.scope (h:ah P β N c fr hps (Exit.noGoto Q)):ah P β N (.scope c) fr hps Q:=λjunk w hS=>wp_scope_straight (h junk w hS)
theorem aj.D5 (h:aj β N Q .ret fr hps):aj β N (Exit.noGoto Q) .ret fr hps:=λjunk w hS=>h junk w hS
end scope
end
section
open Go.RowKit Go.Lib
def fk:ByteArray:=⟨#[47,0]⟩
def Clean (s:ByteArray):Prop:=∀j,j<s.size->¬bO s j=0/\¬bO s j=47
noncomputable instance (s:ByteArray):Decidable (Clean s):=Classical.propDecidable _
def Ik (c:Nat):Int:=if c=47 then 0 else if c=0 then 1 else -1
theorem Rg {c:Nat}:0<=Ik c↔c=47\/c=0:=by
 grind [Ik]
theorem E8 {s:ByteArray} {j:Nat} (h:j<s.size):(s.get! j).toNat=bO s j:=by
 have h1:j<s.data.size:=h
 have e:s.get! j=s.data[j]:=getElem!_pos s.data j h1
 unfold bO
 rw [Array.getD_eq_getD_getElem?,Array.getElem?_eq_getElem h1,e]
 rfl
theorem p4 {s:ByteArray} {pos:Nat} (h:pos<s.size):1<=(Utf8.decode s pos).2/\pos+(Utf8.decode s pos).2<=s.size/\(((Utf8.decode s pos).1=47\/(Utf8.decode s pos).1=0)↔(bO s pos=47\/bO s pos=0))/\(∀j,pos<j->j<pos+(Utf8.decode s pos).2->128<=bO s j) ∧
 ((Utf8.decode s pos).1<55296\/(57343<(Utf8.decode s pos).1/\(Utf8.decode s pos).1<=1114111)):=by
 have h0:(s.get! pos).toNat<256:=(s.get! pos).toNat_lt
 have hb:=E8 h
 have c1:=decodeN_conts (s.size-pos) (s.get! pos).toNat (s.get! (pos+1)).toNat (s.get! (pos+2)).toNat (s.get! (pos+3)).toNat
 have c2:=decodeN_width_le (s.size-pos) (s.get! pos).toNat (s.get! (pos+1)).toNat (s.get! (pos+2)).toNat (s.get! (pos+3)).toNat (by omega)
 have c3:=decodeN_valid (s.size-pos) (s.get! pos).toNat (s.get! (pos+1)).toNat (s.get! (pos+2)).toNat (s.get! (pos+3)).toNat h0
 have c4:=decodeN_ge1 (s.size-pos) (s.get! pos).toNat (s.get! (pos+1)).toNat (s.get! (pos+2)).toNat (s.get! (pos+3)).toNat
 have c5:(decodeN (s.size-pos) (s.get! pos).toNat (s.get! (pos+1)).toNat (s.get! (pos+2)).toNat (s.get! (pos+3)).toNat).1<128->(decodeN (s.size-pos) (s.get! pos).toNat (s.get! (pos+1)).toNat (s.get! (pos+2)).toNat (s.get! (pos+3)).toNat).1=(s.get! pos).toNat:=by
  intro h
  by_cases h1:(s.get! pos).toNat<128
  ·rw [decodeN_ascii _ _ _ _ _ h1]
  exfalso
  unfold decodeN at h
  grind
 have c6:(s.get! pos).toNat<128->(decodeN (s.size-pos) (s.get! pos).toNat (s.get! (pos+1)).toNat (s.get! (pos+2)).toNat (s.get! (pos+3)).toNat).1=(s.get! pos).toNat:=λh1=>by rw [decodeN_ascii _ _ _ _ _ h1]
 rw [←decode_at] at c1 c2 c3 c4 c5 c6
 grind [E8]
theorem Ux {c:Nat} (h:128<=c) (hv:c<55296\/(57343<c/\c<=1114111)):2<=(Utf8.encode (c:Int)).size/\(Utf8.encode (c:Int)).size<=4/\128<=bO (Utf8.encode (c:Int)) ((Utf8.encode (c:Int)).size-1):=by
 have hval:Utf8.valid (c:Int)=true:=by
  unfold Utf8.valid
  simp
  omega
 unfold Utf8.encode
 simp only [hval,if_true,Int.toNat_natCast]
 rw [if_neg (by omega)]
 split
 ·refine⟨Nat.le_refl _,Nat.le_of_ble_eq_true rfl,?_⟩
  show 128<=(UInt8.ofNat (0x80+c % 64)).toNat
  rw [UInt8.toNat_ofNat'];omega
 split
 ·refine⟨Nat.le_of_ble_eq_true rfl,Nat.le_of_ble_eq_true rfl,?_⟩
  show 128<=(UInt8.ofNat (0x80+c % 64)).toNat
  rw [UInt8.toNat_ofNat'];omega
 refine⟨Nat.le_of_ble_eq_true rfl,Nat.le_of_ble_eq_true rfl,?_⟩
 show 128<=(UInt8.ofNat (0x80+c % 64)).toNat
 rw [UInt8.toNat_ofNat'];omega
theorem GD {s:ByteArray}:0<=Lib.indexAny s.data.toList fk.data.toList↔¬Clean s:=by
 have key:∀x:UInt8,fk.data.toList.contains x=true↔(x.toNat=0\/x.toNat=47):=by
  intro x
  have e1:(x=47)↔x.toNat=47:=⟨λh=>by rw [h];rfl,λh=>UInt8.toNat_inj.1 h⟩
  have e2:(x=0)↔x.toNat=0:=⟨λh=>by rw [h];rfl,λh=>UInt8.toNat_inj.1 h⟩
  show ([47,0]:List UInt8).contains x=true↔_
  simp only [List.contains_cons,List.contains_nil,Bool.or_false,Bool.or_eq_true,beq_iff_eq]
  rw [e1,e2]
  omega
 constructor
 ·intro h hc
  have:Lib.indexAny s.data.toList fk.data.toList = -1:=Lib.indexAny_none (λj b hj hb=>by
   obtain⟨h1,h2⟩:=Bu hb
   have h3:=hc j h1
   cases hx:fk.data.toList.contains b with
   |false=>rfl
   |true=>have:=(key b).1 hx;omega)
  omega
 intro h
 refine Decidable.byContradiction (λhn=>h ?_)
 have aux:∀i,i<=s.size->Lib.NoAny s.data.toList fk.data.toList i:=by
  intro i
  induction i with
  |zero=>intro _;exact Lib.NoAny.zero _ _
  |succ i ih=>
    intro hi
    have hx:=tW (show i<s.size by omega)
    refine (ih (by omega)).succ hx ?_
    cases hc:fk.data.toList.contains (s.data.getD i 0) with
    |false=>rfl
    |true=>
      have:=Lib.indexAny_hit (ih (by omega)) hx hc
      omega
 intro j hj
 have h1:=aux s.size (Nat.le_refl _) j (s.data.getD j 0) hj (tW hj)
 have h2:=mt (key (s.data.getD j 0)).2 (by rw [h1];exact Bool.false_ne_true)
 unfold bO
 omega
theorem D6 {β:Bs} (s:ByteArray) (h8:8<s.size) (hs:s.size<=1048576):Spec Tryz.prog β 142 #[.string s,.string fk] [] (λv l=>(∃x:Int,v=.int .i64 x/\(0<=x↔¬Clean s))/\l=[]):=by
 intro R w hS
 refine (Tryz.strings_IndexAny_long (zero_of_info (n:=256) (by kernel_rfl)).1 s fk w (by decide) h8 (by omega) (by decide) (by
  intro j b hb
  have:j<2:=by grind [bT,fk]
  have h:j=0\/j=1:=by omega
  rcases h with rfl|rfl
  ·have:b=47:=by simpa [fk] using hb.symm
   subst this;decide
  have:b=0:=by simpa [fk] using hb.symm
  subst this;decide)).mono ?_
 rintro e w' ⟨rfl,rfl⟩
 exact⟨_,[],rfl,⟨⟨_,rfl,GD⟩,rfl⟩,hS.quiet (((Keeps.refl _ _).alloc _).alloc _)⟩
theorem Rh:∀c:Fin 128,Lib.indexByte [47,0] ((c.val:Int).toNat.toUInt8)=Ik c.val:=by decide
theorem XW {pos:Nat} (h:pos<fk.size):(Utf8.decode fk pos).1=47\/(Utf8.decode fk pos).1=0:=by
 refine (p4 h).2.2.1.2 ?_
 have h:pos<2:=h
 have:pos=0\/pos=1:=by omega
 rcases this with rfl|rfl
 ·exact .inl rfl
 exact .inr rfl
theorem Ri (i:Nat):bO fk i<128:=by
 unfold bO fk
 match i with
 |0=>decide
 |1=>decide
 |n+2=>exact (by decide:(0:UInt8).toNat<128)
theorem Y4 {c:Nat} (hv:c<55296\/(57343<c/\c<=1114111)):Lib.validRune (c:Int)=true:=by
 unfold Lib.validRune
 exact decide_eq_true (by omega)
theorem Kj {β:Bs} {c:Nat} (hv:c<55296\/(57343<c/\c<=1114111)):Spec Tryz.prog β 191 #[.int .i32 ((c:Nat):Int)] [] (λv l=>v=.bool true/\l=[]):=
 Spec.quiet (λw=>(Tryz.utf8_ValidRune _ w).mono (λ_ _ ⟨h1,h2⟩=>⟨h1.trans (by rw [Y4 hv]),h2⟩))
theorem D7 {β:Bs} {i:Nat} (hi:1<=i) (b:Int):Spec Tryz.prog β 120 #[.string (fk.extract (i+1) fk.size),.int .u8 b] [] (λv l=>v=.int .i64 (-1)/\l=[]):=
 Spec.quiet (λw=>(Tryz.strings_IndexByte _ b w).mono (λ_ _ ⟨h1,h2⟩=>⟨h1.trans (by
  have h0:(fk.extract (i+1) fk.size).size=0:=by
   rw [ByteArray.size_extract]
   have:fk.size=2:=rfl
   omega
  rw [qp.1 h0]
  rfl),h2⟩))
theorem D8 {β:Bs} {c:Nat} (h:c<128):Spec Tryz.prog β 170 #[.string fk,.int .i32 ((c:Nat):Int)] [] (λv l=>v=.int .i64 (Ik c)/\l=[]):=
 Spec.quiet (λw=>(Tryz.strings_IndexRune_ascii fk _ w (by omega) (by omega)).mono (λ_ _ ⟨h1,h2⟩=>⟨h1.trans (congrArg (λx=>Ending.returned (.int .i64 x)) (Rh ⟨c,h⟩)),h2⟩))
theorem Uy {c:Nat} (h:128<=c):Ik c = -1:=by
 grind [Ik]
theorem lW {s:ByteArray}:aS s↔1<=s.size/\s.size<=255/\¬s=⟨#[46]⟩/\¬s=⟨#[46,46]⟩/\Clean s:=Iff.rfl
end
section
open Go.RowKit
attribute [local irreducible] ai aQ ah aj
theorem Dp {β:Bs} (c:Nat) (h128:128<=c) (hv:c<55296\/(57343<c/\c<=1114111)) :
 Spec Tryz.prog β 170 #[.string fk,.int .i32 ((c:Nat):Int)] [] (λv l=>v=vI (-1)/\l=[]):=by
 have he:=Ux h128 hv
 refine SE Tryz.func170 Tryz.ntmps170 (λR=>SR (jK 1 [] [] (NN (ah.block (SR (jK 3 [163] [] (sP 163 ((0:Int)<=(((c:Nat):Int):Int)) (λY6=>jK 4 [160] [] (NN (cP ((((c:Nat):Int):Int)<(128:Int)) (λY7=>absurd Y7 (by omega)) (λY7=>SR (jK 3 [171] [] (NN (cP ((((c:Nat):Int):Int)=(65533:Int)) (λabT=>?_) (λabT=>?_)))))))) (λY6=>absurd Y6 (by omega)))))))))
 ·refine SQ (jK 1 [174] [] (ai.J4 (d:=(some 175)) (t:=9) (x:=(.tmp 174)) (s:=fk) (λ_=>by kernel_rfl) (λ_=>by kernel_rfl) Tryz.underlying9 (λr1=>NN (ah.block (lJ (λ(pos:Nat)=>(pos<=2)) (λ(pos:Nat)=>2-pos) (λ(pos:Nat)=>[(175,vP r1)]) (λ(pos:Nat)=>[.abs (zk r1 fk pos),.abs R]) 0 [1,0] (Nat.zero_le _) ?_)))))
  rintro pos hp
  refine SR ?_
  rcases Nat.lt_or_ge pos ((fk:ByteArray).size) with hpos|hpos
  ·exact ai.NW 0 (d:=(some 176)) (r:=r1) (s:=fk) (pos:=pos) (x:=(.tmp 175)) (λ_=>by kernel_rfl) (by kernel_rfl) (λ_=>by kernel_rfl) hpos (jK 1 [177] [] (NN (ah.seq (CT (KX (ah.block (SR (jK 4 [5,6] [] (NS (jK 2 [181] [] (NN (cP (((((Utf8.decode fk pos).1:Nat):Int):Int)=(65533:Int)) (λY8=>absurd Y8 (by have:=XW hpos;omega)) (λY8=>ah.skip (aj.kJ (tJ (pos+(Utf8.decode fk pos).2) [0,1] ((by have:=(p4 (s:=fk) hpos).2.1;have:fk.size=2:=rfl;omega)) (hm:=by show 2-(pos+(Utf8.decode fk pos).2)<2-pos;have h1:=(p4 (s:=fk) hpos).1;have h2:fk.size=2:=rfl;omega))))))))))))))))
  exact ai.Q7 0 (d:=(some 176)) (r:=r1) (s:=fk) (pos:=pos) (x:=(.tmp 175)) (λ_=>by kernel_rfl) (by kernel_rfl) (λ_=>by kernel_rfl) (Nat.not_lt.2 hpos) (jK 1 [177] [] (NN (ah.seq (CF (XX (zR ⟨rfl,rfl⟩ [1]))))))
 refine SR (jK 1 [184] [] (gE [] (Kj hv) (jK 2 [183] [] (NF (ah.scope (SR (jK 3 [7] [] (NS (jK 4 [8] [(2,wJ (((((Utf8.encode (c:Int)):ByteArray).size:Nat):Int)-1) (↑((Utf8.encode ((c:Nat):Int)).size-1)))] (NS (jK 2 [9] [] (NS (jK 1 [] [] (NN (ah.seq (ah.block (lJ (λ(i:Nat)=>(i=(Utf8.encode ((c:Nat):Int)).size-1)) (λ(i:Nat)=>0) (λ(i:Nat)=>[(0,.string fk),(7,.string (Utf8.encode ((c:Nat):Int))),(8,vI ↑((Utf8.encode ((c:Nat):Int)).size-1)),(9,vI ↑i)]) (λ(i:Nat)=>[.abs R]) (((Utf8.encode ((c:Nat):Int)).size-1)) [0] (rfl) ?_)))))))))))))))))
 rintro i hi
 exact SQ (jK 4 [26] [] (NN (cP ((((i:Nat):Int):Int)<((((fk:ByteArray).size:Nat):Int):Int)) (λAK=>KX (ah.block (ah.scope (ah.seq (ah.seq (rQ (jQ 7 [33] [(2,xP i (i<(fk:ByteArray).size)),(5,xP ((Utf8.encode ((c:Nat):Int)).size-1) (((Utf8.encode ((c:Nat):Int)).size-1)<((Utf8.encode ((c:Nat):Int)):ByteArray).size))] (NQ (NX (cN ((((((fk:ByteArray).data.getD (i) 0).toNat:Nat):Int):Int)=((((((Utf8.encode ((c:Nat):Int)):ByteArray).data.getD (((Utf8.encode ((c:Nat):Int)).size-1)) 0).toNat:Nat):Int):Int)) (λIl=>ah.seq (rQ (jQ 7 [37,40] [(2,wJ ((i:Int)+1) (↑(i+1))),(3,xP (i+1) (i+1<=(fk:ByteArray).size)),(6,xP ((Utf8.encode ((c:Nat):Int)).size-1) (((Utf8.encode ((c:Nat):Int)).size-1)<((Utf8.encode ((c:Nat):Int)):ByteArray).size))] (jU [] [0] (.int .i64 (-1)) (D7 (i:=i) (by have:fk.size=2:=rfl;omega) (((((Utf8.encode ((c:Nat):Int)):ByteArray).data.getD (((Utf8.encode ((c:Nat):Int)).size-1)) 0).toNat:Nat):Int)) (jQ 1 [11] [] (NQ (NX (SQ (jK 2 [43] [] (NT (SR (jK 1 [4] [] (NN (ah.ret (aj.aG (aj.aG (aj.D5 (aj.dm (aj.aG (aj.dm (aj.aG (aj.D5 (aj.dm (RT _ [0] (⟨rfl,rfl⟩))))))))))))))))))))))))) (λIl=>absurd Il (by have h1:=Ri i;grind [bO])))))))))))) (λAK=>XX (SQ (jK 1 [4] [] (NN (ah.ret (aj.aG (aj.D5 (aj.dm (RT _ [0] (⟨rfl,rfl⟩)))))))))))))
theorem Kk {β:Bs} (c:Nat) (hv:c<55296\/(57343<c/\c<=1114111)) :
 Spec Tryz.prog β 170 #[.string fk,.int .i32 ((c:Nat):Int)] [] (λv l=>v=vI (Ik c)/\l=[]):=by
 rcases Nat.lt_or_ge c 128 with h|h
 ·exact D8 h
 rw [Uy h]
 exact Dp c h hv
theorem Dq {β:Bs} (s:ByteArray) (h8:s.size<=8) :
 Spec Tryz.prog β 142 #[.string s,.string fk] [] (λv l=>(∃x:Int,v=vI x/\(0<=x↔¬Clean s))/\l=[]):=by
 refine SE Tryz.func142 Tryz.ntmps142 (λR=>SR (jK 1 [] [] (NZ (jK 2 [12] [(1,w_ (.bool (decide ((fk:ByteArray)=⟨#[]⟩))) (nZ _ _))] (NN (cP ((fk:ByteArray)=⟨#[]⟩) (λh12=>absurd h12 (by decide)) (λh12=>KX (SQ (jK 3 [15] [] (NN (cP (((((fk:ByteArray).size:Nat):Int):Int)=(1:Int)) (λKl=>absurd Kl (by decide)) (λKl=>KX (SQ (jK 2 [25] [] (gE [] (Spec.quiet (λw=>Tryz.strings_shouldUseASCIISet ((s.size:Nat):Int) w)) (NN (cP ((8:Int)<((s.size:Nat):Int)) (λAK=>absurd AK (by omega)) (λAK=>KX (SQ (jK 1 [44] [] (ai.J4 (d:=(some 45)) (t:=9) (x:=(.tmp 44)) (s:=s) (λ_=>by kernel_rfl) (λ_=>by kernel_rfl) Tryz.underlying9 (λr2=>NN (ah.block (lJ (λ(pos:Nat)=>(pos<=s.size)/\(∀j,j<pos->¬bO s j=0/\¬bO s j=47)) (λ(pos:Nat)=>s.size-pos) (λ(pos:Nat)=>[(1,.string fk),(45,vP r2)]) (λ(pos:Nat)=>[.abs (zk r2 s pos),.abs R]) 0 [1,0] (⟨Nat.zero_le _,λj hj=>absurd hj (Nat.not_lt_zero j)⟩) ?_))))))))))))))))))))))))
 rintro pos ⟨hp,hno⟩
 refine SR ?_
 rcases Nat.lt_or_ge pos ((s:ByteArray).size) with hpos|hpos
 ·exact ai.NW 0 (d:=(some 46)) (r:=r2) (s:=s) (pos:=pos) (x:=(.tmp 45)) (λ_=>by kernel_rfl) (by kernel_rfl) (λ_=>by kernel_rfl) hpos (jK 1 [47] [] (NN (ah.seq (CT (KX (ah.block (SR (jK 4 [9,10] [] (NS (jK 2 [50,51] [] (gE [] (Kk (Utf8.decode s pos).1 (p4 hpos).2.2.2.2) (jK 1 [53] [] (NN (cP ((Ik (Utf8.decode s pos).1:Int)>=(0:Int)) (λDu=>zR (v:=(.int .i64 ↑pos)) ⟨⟨_,rfl,⟨λ_ hc=>by have h1:=Rg.1 Du;have h2:=(p4 hpos).2.2.1.1 h1;have:=hc pos hpos;omega,λ_=>Int.natCast_nonneg _⟩⟩,rfl⟩ [1]) (λDu=>ah.skip (aj.kJ (tJ (pos+(Utf8.decode s pos).2) [0,1] (⟨(p4 hpos).2.1,λj hj=>by rcases Nat.lt_trichotomy j pos with h|h|h;exact hno j h;subst h;have h1:=mt Rg.2 Du;all_goals grind [p4]⟩) (hm:=by grind [p4]))))))))))))))))))
 exact ai.Q7 0 (d:=(some 46)) (r:=r2) (s:=s) (pos:=pos) (x:=(.tmp 45)) (λ_=>by kernel_rfl) (by kernel_rfl) (λ_=>by kernel_rfl) (Nat.not_lt.2 hpos) (jK 1 [47] [] (NN (ah.seq (CF (XX (zR (v:=(.int .i64 (-1))) ⟨⟨_,rfl,⟨λh=>absurd h (by decide),λh=>absurd (λj hj=>hno j (by omega)) h⟩⟩,rfl⟩ [1]))))))
theorem M9 {β:Bs} (s:ByteArray) (hs:s.size<=1048576) :
 Spec Tryz.prog β 142 #[.string s,.string fk] [] (λv l=>(∃x:Int,v=vI x/\(0<=x↔¬Clean s))/\l=[]):=by
 rcases Nat.lt_or_ge 8 s.size with h|h
 ·exact D6 s h hs
 exact Dq s h
theorem tu {β:Bs} (s:ByteArray) (hs:s.size<=1048576) :
 Spec Tryz.prog β 118 #[.string s,.string fk] [] (λv l=>v=.bool (decide (¬Clean s))/\l=[]):=by
 refine SE Tryz.func118 Tryz.ntmps118 (λR=>SR (jK 1 [] [] (NS (jK 2 [5,6] [] (gL [] (M9 s hs) ?_)))))
 rintro _ _ ⟨⟨x,rfl,hx⟩,rfl⟩
 exact jK 2 [4] [] (eN (v:=(.bool (decide ((x:Int)>=(0:Int))))) ⟨congrArg Value.bool (decide_eq_decide.2 (by exact hx)),rfl⟩)
theorem wi {β:Bs} (s:ByteArray) (hs:s.size<=1048576) :
 Spec Tryz.prog β 68 #[.string s] [] (λv l=>v=.bool (decide (aS s))/\l=[]):=by
 exact SE Tryz.func68 Tryz.ntmps68 (λR=>SR (jK 1 [] [] (NZ (jK 1 [3] [] (NN (ah.block (SQ (jK 2 [4] [(0,w_ (.bool (decide ((s:ByteArray)=⟨#[]⟩))) (nZ _ _))] (NN (cP ((s:ByteArray)=⟨#[]⟩) (λh4=>KX (cP ((s:ByteArray)=⟨#[]⟩) (λh4=>zR ⟨congrArg Value.bool (decide_eq_false (by grind [qp,lW])).symm,rfl⟩) (λh4=>KX (SR (jK 4 [11] [] (sP 11 (((((s:ByteArray).size:Nat):Int):Int)<=(255:Int)) (λh11=>jK 1 [12] [] (gE [] (tu s hs) (jK 3 [2] [] (eN (v:=(.bool (!(decide (¬Clean s))))) ⟨congrArg Value.bool (Bt (by grind)),rfl⟩)))) (λh11=>jK 5 [2] [] (eN ⟨congrArg Value.bool (decide_eq_false (by grind [qp,lW])).symm,rfl⟩)))))))) (λh4=>SR (jK 2 [4] [(0,w_ (.bool (decide ((s:ByteArray)=⟨#[46]⟩))) (nZ _ _))] (NN (cP ((s:ByteArray)=⟨#[46]⟩) (λh4=>KX (cP ((s:ByteArray)=⟨#[46]⟩) (λh4=>zR ⟨congrArg Value.bool (decide_eq_false (by grind [qp,lW])).symm,rfl⟩) (λh4=>KX (SR (jK 4 [11] [] (sP 11 (((((s:ByteArray).size:Nat):Int):Int)<=(255:Int)) (λh11=>jK 1 [12] [] (gE [] (tu s hs) (jK 3 [2] [] (eN (v:=(.bool (!(decide (¬Clean s))))) ⟨congrArg Value.bool (Bt (by grind)),rfl⟩)))) (λh11=>jK 5 [2] [] (eN ⟨congrArg Value.bool (decide_eq_false (by grind [qp,lW])).symm,rfl⟩)))))))) (λh4=>ah.region (jK 2 [4] [(0,w_ (.bool (decide ((s:ByteArray)=⟨#[46,46]⟩))) (nZ _ _))] (NN (cP ((s:ByteArray)=⟨#[46,46]⟩) (λh4=>zR ⟨congrArg Value.bool (decide_eq_false (by grind [qp,lW])).symm,rfl⟩) (λh4=>KX (SR (jK 4 [11] [] (sP 11 (((((s:ByteArray).size:Nat):Int):Int)<=(255:Int)) (λh11=>jK 1 [12] [] (gE [] (tu s hs) (jK 3 [2] [] (eN (v:=(.bool (!(decide (¬Clean s))))) ⟨congrArg Value.bool (Bt (by have h0:=qp (s:=s);rw [lW];grind)),rfl⟩)))) (λh11=>jK 5 [2] [] (eN ⟨congrArg Value.bool (decide_eq_false (by grind [qp,lW])).symm,rfl⟩))))))))))))))))))))))))
end
section
open Go.RowKit
attribute [local irreducible] ai aQ ah aj
theorem Rj {β:Bs} (m:Nat) (ps:List (Int×Int)) (hl:ps.length<=1048576) (hw:∀z y,up ps z=some y->(-9223372036854775808<=z/\z<=9223372036854775807)/\(-9223372036854775808<=y/\y<=9223372036854775807)) :
 Spec Tryz.prog β 111 #[.map (some m)] [.abs (aY Tryz.prog 3 m (mf (pf ps)) ps.length)] (λv l=>v=.bool (decide (yG ps))/\l=[]):=by
 refine SE Tryz.func111 Tryz.ntmps111 (λR=>SR (jK 1 [] [] (NS (ai.rI (d:=(some 11)) (t:=169) (λ_=>by kernel_rfl) Tryz.prog rfl 3 (λm1=>jK 1 [3] [] (NZ (ai.bL 2 (p':=.abs (aY Tryz.prog 3 m1 (mf (ff [])) 0)) rfl (by rw [YZ]) (jK 1 [12] [] (ai.mapRange 0 (d:=(some 13)) (t:=169) (K:=3) (E:=3) (b:=m) (n:=ps.length) (f:=(mf (pf ps))) (x:=(.tmp 12)) (λ_=>by kernel_rfl) (by kernel_rfl) (λ_=>by kernel_rfl) gH Tryz.underlying169 (λr2=>NN (ah.block (lJ (λ(left,cnt,last,fs,fn)=>(cnt<=ps.length)/\(∀x y,up ps x=some y->left (.int .i64 x)=false->Ends ps x)/\(∀x,x∈fs->Ends ps x)/\(fn<=(ps.length-cnt)*(ps.length+2))) (λ(left,cnt,last,fs,fn)=>cnt) (λ(left,cnt,last,fs,fn)=>[(0,.map (some m)),(3,.map (some m1)),(13,vP r2)]) (λ(left,cnt,last,fs,fn)=>[.abs (kQ Tryz.prog 3 m r2 (mf (pf ps)) ps.length left cnt last),.abs (aY Tryz.prog 3 m1 (mf (ff fs)) fn),.abs R]) ((λkl=>((mf (pf ps)) kl).isSome),ps.length,none,[],0) [0,2,1] (⟨Nat.le_refl _,λx y hx h=>(by have h:((up ps x).map (Value.int .i64)).isSome=false:=h;rw [hx] at h;cases h),λx hx=>(by cases hx),Nat.zero_le _⟩) ?_))))))))))))
 rintro⟨left,cnt,last,fs,fn⟩ ⟨abU,hdone,hfs,hfn⟩
 have hfb:fn<=1048576*1048578:=Nat.le_trans hfn (Nat.mul_le_mul (by omega) (by omega))
 refine SR (ai.mapNext 0 (d:=(some 14)) (K:=3) (b:=m) (r:=r2) (f:=(mf (pf ps))) (n:=ps.length) (left:=left) (cnt:=cnt) (last:=last) (x:=(.tmp 13)) (λ_=>by kernel_rfl) (by kernel_rfl) (λ_=>by kernel_rfl) gH Tryz.underlying3 (λhc0 hl0=>jK 1 [15] [] (NN (ah.seq (CF (XX (zR ⟨congrArg Value.bool (decide_eq_true (p:=yG ps) (λz=>by cases hu:up ps z with|none=>exact⟨0,hu⟩|some y=>exact hdone z y hu (hl0 _))).symm,rfl⟩ [2])))))) (λz u cnt' hlz hfz hwz abV=>?_))
 obtain⟨y,hy,rfl⟩:=XU hfz
 refine jK 1 [15] [] (NN (ah.seq (CT (KX (ah.block (SR (ai.mapEntry 0 (d:=(some 16)) (K:=3) (b:=m) (r:=r2) (f:=(mf (pf ps))) (n:=ps.length) (left:=(λkl=>left kl && !kl.sameKey (.int .i64 z))) (cnt:=cnt') (v:=.tuple #[.int .i64 (z),.int .i64 (y)]) (x:=(.tmp 13)) (λ_=>by kernel_rfl) (by kernel_rfl) (λ_=>by kernel_rfl) (jK 2 [4] [] (NS (jK 1 [5] [] (NN (ah.join (ι:=(List Int)×(Option Addr)×Nat) (λ(w2,A2,c2)=>(Ends ps z)/\(∀x,x∈w2->Ends ps x)/\(w2.length<=ps.length+1)/\(∀x,x∈w2->-9223372036854775808<=x/\x<=9223372036854775807)) (λ(w2,A2,c2)=>[(0,.map (some m)),(3,.map (some m1)),(5,.slice A2 (w2.length) (c2)),(13,vP r2)]) (λ(w2,A2,c2)=>[.abs (kQ Tryz.prog 3 m r2 (mf (pf ps)) ps.length (λkl=>left kl && !kl.sameKey (.int .i64 z)) cnt' (some (.tuple #[.int .i64 (z),.int .i64 (y)]))),.abs (aY Tryz.prog 3 m1 (mf (ff fs)) fn),.abs (aq 3 1 A2 w2.length c2 (gZ w2)),.abs R]) ?_ ?_))))))))))))
 ·rintro⟨w2,A2,c2⟩ ⟨hend,abg,adf,Y9⟩
  refine SR (jK 3 [41,42,43] [] (NN (ah.block (lJ (λ(j,AL,wh)=>(j<=w2.length)/\(∀x,x∈AL->Ends ps x)/\(wh<=fn+j)) (λ(j,AL,wh)=>w2.length-j) (λ(j,AL,wh)=>[(0,.map (some m)),(3,.map (some m1)),(13,vP r2),(41,.slice A2 (w2.length) (c2)),(42,.int .i64 ↑w2.length),(43,.int .i64 ↑j)]) (λ(j,AL,wh)=>[.abs (kQ Tryz.prog 3 m r2 (mf (pf ps)) ps.length (λkl=>left kl && !kl.sameKey (.int .i64 z)) cnt' (some (.tuple #[.int .i64 (z),.int .i64 (y)]))),.abs (aY Tryz.prog 3 m1 (mf (ff AL)) wh),.abs (aq 3 1 A2 w2.length c2 (gZ w2)),.abs R]) (0,fs,fn) [0,1,2,3] (⟨Nat.zero_le _,hfs,Nat.le_refl _⟩) ?_))))
  rintro⟨j,AL,wh⟩ ⟨hj,Za,abW⟩
  exact SR (jK 1 [44] [] (NN (ah.seq (cP ((((j:Nat):Int):Int)<(((w2.length:Nat):Int):Int)) (λuY=>KX (ah.seq (ah.block (SR (ai.tell (λw hS=>let ⟨F,h⟩:=hS.get (i:=2) rfl;(aq.EX h (by omega)).1) (λWC=>jK 3 [10] [(0,x_ j w2.length (WC)),(1,p_ ⟨[.view 2 (.int .i64 ((w2.getD j 0)))],none,none,none,none⟩ [(∀F w,(aq 3 1 A2 w2.length c2 (gZ w2)).h F w->w.cell? ⟨(aV A2),aU A2+j*1,none⟩=some (.int .i64 ((w2.getD j 0))))] ⟨aq.abf (by omega),trivial⟩)] (NN (ah.region (jK 2 [47,48] [] (ai.pY 1 (d:=none) (t:=169) (K:=3) (E:=3) (b:=m1) (n:=wh) (f:=(mf (ff AL))) (x:=(.tmp 47)) (ix:=(.tmp 48)) (y:=(.const (.int .i64 1))) (key:=.int .i64 ((w2.getD j 0))) (u:=.int .i64 1) (kl:=(.int .i64 (w2.getD j 0))) (n':=(if (ff AL (w2.getD j 0)).isSome then wh else wh+1)) (f':=(mf (ff ((w2.getD j 0)::AL)))) (λ_=>by kernel_rfl) (by kernel_rfl) (λ_=>by kernel_rfl) (λ_=>by kernel_rfl) (λ_=>by kernel_rfl) gH Tryz.underlying169 (by unfold maxLen;omega) (tq (Y9 _ (D4 (by omega))).1 (Y9 _ (D4 (by omega))).2) (rfl) (Y1 _ _) (LX (ah.region (jK 2 [43] [(0,wJ ((j:Int)+1) (↑(j+1)))] (NL (tJ ((j+1),((w2.getD j 0)::AL),(if (ff AL (w2.getD j 0)).isSome then wh else wh+1)) [0,1,2,3] (⟨by omega,λx hx=>(List.mem_cons.1 hx).elim (λe=>e ▸ abg _ (D4 (by omega))) (Za x),by split<;>omega⟩)))))))))))))))) (λuY=>ah.exit (aj.lV (aj.lV (aj.s5 (aj.kJ (tJ ((λkl=>left kl && !kl.sameKey (.int .i64 z)),cnt',(some (.tuple #[.int .i64 (z),.int .i64 (y)])),AL,wh) [0,1,3] (⟨by omega,Pv hdone hend,Za,Uw hfn abW (by omega) abV abU⟩)))))))))))
 refine SR (ai.mem (λw hS=>hS.kO (e:=3) (size:=1)) (jK 2 [6] [] (NN (ah.block (lJ (λ(at_,w,Aw,cw)=>(Way ps z w at_)/\(w.length<=ps.length)/\(∀x,x∈w->-9223372036854775808<=x/\x<=9223372036854775807)/\(-9223372036854775808<=at_/\at_<=9223372036854775807)) (λ(at_,w,Aw,cw)=>ps.length+1-w.length) (λ(at_,w,Aw,cw)=>[(0,.map (some m)),(3,.map (some m1)),(5,.slice Aw (w.length) (cw)),(6,.int .i64 (at_)),(13,vP r2)]) (λ(at_,w,Aw,cw)=>[.abs (kQ Tryz.prog 3 m r2 (mf (pf ps)) ps.length (λkl=>left kl && !kl.sameKey (.int .i64 z)) cnt' (some (.tuple #[.int .i64 (z),.int .i64 (y)]))),.abs (aY Tryz.prog 3 m1 (mf (ff fs)) fn),.abs (aq 3 1 Aw w.length cw (gZ w)),.abs R]) (z,[],none,0) [0,1,3,2] (⟨.nil,Nat.zero_le _,λx hx=>(by cases hx),(hw z y hy).1⟩) ?_)))))
 rintro⟨at_,w,Aw,cw⟩ ⟨lX,hwl,Zb,hab⟩
 refine SQ (jK 2 [19,20] [] ?_)
 by_cases hfa:at_∈fs
 ·exact ai.ig 1 (d:=(some 21)) (t:=169) (K:=3) (E:=3) (b:=m1) (n:=fn) (f:=(mf (ff fs))) (x:=(.tmp 19)) (ix:=(.tmp 20)) (key:=.int .i64 (at_)) (z:=.int .i64 0) (kl:=(.int .i64 at_)) (r:=(some (.int .i64 1))) (λ_=>by kernel_rfl) (by kernel_rfl) (λ_=>by kernel_rfl) (λ_=>by kernel_rfl) gH Tryz.underlying169 (λ_=>by kernel_rfl) (tq hab.1 hab.2) (if_pos hfa) (jK 1 [22] [] (NF (ah.exit (aj.lV (aj.lV (aj.s5 (mJ (w,Aw,cw) [0,1,2,3] (⟨(lX.ends (hfs at_ hfa)).1,(lX.ends (hfs at_ hfa)).2,by omega,Zb⟩))))))))
 refine ai.ig 1 (d:=(some 21)) (t:=169) (K:=3) (E:=3) (b:=m1) (n:=fn) (f:=(mf (ff fs))) (x:=(.tmp 19)) (ix:=(.tmp 20)) (key:=.int .i64 (at_)) (z:=.int .i64 0) (kl:=(.int .i64 at_)) (r:=none) (λ_=>by kernel_rfl) (by kernel_rfl) (λ_=>by kernel_rfl) (λ_=>by kernel_rfl) gH Tryz.underlying169 (λ_=>by kernel_rfl) (tq hab.1 hab.2) (if_neg hfa) (jK 1 [22] [] (NT (KX (ah.block (SR (jB 3 [23,25] (λb3=>.blk b3 [.int .i64 (at_)] 3) (λb3=>kH 2 38 (some ⟨b3,0,none⟩) 1 1 [.int .i64 (at_)] rfl (dI (j:=4) rfl) (λA4 c5=>ai.bL 2 (p':=.abs (aq 3 1 A4 ((w++[at_]).length) c5 (gZ (w++[at_])))) rfl (by simp [gZ]) (sl 26 (.slice A4 (w.length+1) (c5)) (.slice A4 ((w++[at_]).length) (c5)) (by simp) (jK 1 [5] [] (NS (jK 2 [28,29] [] ?_))))))))))))
 rcases hup:up ps at_ with _|y2
 ·exact ai.Dt 0 (d:=(some 30)) (t:=169) (K:=3) (E:=3) (b:=m) (n:=ps.length) (f:=(mf (pf ps))) (r:=r2) (left:=(λkl=>left kl && !kl.sameKey (.int .i64 z))) (cnt:=cnt') (last:=(some (.tuple #[.int .i64 (z),.int .i64 (y)]))) (x:=(.tmp 28)) (ix:=(.tmp 29)) (key:=.int .i64 (at_)) (z:=.int .i64 0) (kl:=(.int .i64 at_)) (u:=none) (λ_=>by kernel_rfl) (by kernel_rfl) (λ_=>by kernel_rfl) (λ_=>by kernel_rfl) gH Tryz.underlying169 (λ_=>by kernel_rfl) (tq hab.1 hab.2) (zq hup) (jK 5 [7,8] [] (NZ (jK 2 [34] [] (NT (ah.exit (aj.lV (aj.Q5 (by decide) (aj.lV (aj.s5 (mJ ((w++[at_]),A4,c5) [0,1,2,3] (⟨(Ki lX hup).1,(Ki lX hup).2,by simp;omega,N0 Zb hab⟩)))))))))))
 exact ai.Dt 0 (d:=(some 30)) (t:=169) (K:=3) (E:=3) (b:=m) (n:=ps.length) (f:=(mf (pf ps))) (r:=r2) (left:=(λkl=>left kl && !kl.sameKey (.int .i64 z))) (cnt:=cnt') (last:=(some (.tuple #[.int .i64 (z),.int .i64 (y)]))) (x:=(.tmp 28)) (ix:=(.tmp 29)) (key:=.int .i64 (at_)) (z:=.int .i64 0) (kl:=(.int .i64 at_)) (u:=(some (.int .i64 y2))) (λ_=>by kernel_rfl) (by kernel_rfl) (λ_=>by kernel_rfl) (λ_=>by kernel_rfl) gH Tryz.underlying169 (λ_=>by kernel_rfl) (tq hab.1 hab.2) (WG hup) (jK 5 [7,8] [] (NZ (jK 2 [34] [] (NF (KX (SQ (jK 3 [36,37] [] (ai.Um 0 (d:=(some 38)) (t:=169) (K:=3) (E:=3) (b:=m) (n:=ps.length) (f:=(mf (pf ps))) (r:=r2) (left:=(λkl=>left kl && !kl.sameKey (.int .i64 z))) (cnt:=cnt') (last:=(some (.tuple #[.int .i64 (z),.int .i64 (y)]))) (x:=(.tmp 37)) (ats:=#[169]) (λ_=>by kernel_rfl) (by kernel_rfl) (λ_=>by kernel_rfl) rfl Tryz.underlying169 (jK 1 [39] [] (NN (cP (((((w++[at_]).length:Nat):Int):Int)>(((ps.length:Nat):Int):Int)) (λqB=>zR ⟨congrArg Value.bool (decide_eq_false (p:=yG ps) (λhall=>(lX.snoc hup).never (by simp at qB ⊢;omega) (hall z))).symm,rfl⟩ [3]) (λqB=>KX (ah.region (jK 2 [6] [] (NL (aj.kJ (tJ (y2,(w++[at_]),A4,c5) [0,1,2,3] (⟨lX.snoc hup,by simp at qB ⊢;omega,N0 Zb hab,(hw at_ y2 hup).2⟩) (hm:=by grind))))))))))))))))))
end
end Go.Proofs.YtnipofpbcggjcaaGreatDoor
