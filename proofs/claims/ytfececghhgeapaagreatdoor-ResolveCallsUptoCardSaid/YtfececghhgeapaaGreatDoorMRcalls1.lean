/-
  PROVED HERE: lemmas and contracts of functions (texts of this repo, joined; what the claim does not use is left out): Base, Sep, V, Vr, Vo, Vj, Vk, Vc, Vd, Vm, Va, Vb, Ve, Vt, Vi, Vw, Vy, Vz, Vq, Vg, Vn, Fam, Wy, Vv, Ld, Vf, Row, G, GO, GL, GT, GCopy, Shelf, GC.
  CONDITIONS: as the theorems say.
-/
import Derived.Test.YtfececghhgeapaaGreatDoorProg
import Derived.WalkKit
import Derived.ChangeSame
import Derived.Lib.Hide
import Derived.Maps.OwnSet
import Derived.Maps.OwnOps
import Derived.Deep.Draws
import Derived.WalkSmall
import Derived.Deep.Quiet
import Derived.Deep.LoopGhost
import Derived.KernelRfl
import Derived.Laws.StructEq
import Derived.Maps.AppendAt
import Derived.Deep.Upon
import Derived.StillTail
import Derived.Maps.RangeWalk
import Derived.Laws.RangeAny
import Derived.Laws.OwnMore
import Derived.Lib.Bytealg
import Derived.OrdersHeld
import Derived.Test.YtfececghhgeapaaGreatDoorRows
import Derived.ProofKit
import Derived.OpenShut
import Derived.Carry
import Derived.Deep.Slices
import Derived.Shelf.Small.Utf8
import Derived.Shelf.Small.Bits
import Derived.Shelf.Small.Strs
import Derived.Shelf.Small.Wraps
import Derived.Shelf.Strconv.Itoa0
import Derived.Shelf.Strings.Search1
import Derived.Shelf.Sort.Plain
import Derived.Shelf.Strings.Runes
import Derived.Shelf.Strings.IndexAny
import Derived.Shelf.Strings.AsciiSet
import Derived.Shelf.Strings.IndexAnyAll
import Derived.Ground.Names2Prog
import Derived.Shelf.Slices.SearchI
import Derived.Shelf.Slices.In.SortNone
import Derived.Lib.IndexLaws
set_option maxRecDepth 100000
set_option maxHeartbeats 4000000
namespace Go.Proofs.YtfececghhgeapaaGreatDoor
theorem d5 {P:Prop} (h:P:=by omega):P:=h
theorem d6 {P:Prop} (h:P:=by kernel_rfl):P:=h
theorem d8 {P:Prop} (h:P:=by decide):P:=h
theorem gn {P:Prop} (h:P:=by grind):P:=h
theorem iu {P:Prop} (h:P:=by rfl):P:=h
theorem nh {P:Prop} (h:P:=by simp):P:=h
abbrev nw:=@if_neg
abbrev t8:=@if_pos
abbrev zc:=@congrArg
abbrev KB:=@absurd
abbrev Lk:=@decide_eq_false
abbrev L4:=@Nat.zero_le
abbrev N5:=@Nat.not_lt_zero
abbrev N6:=@Nat.le_refl
abbrev Pd:=@Nat.lt_succ_iff_lt_or_eq
abbrev Pe:=@Nat.le_trans
abbrev T3:=@List.length_append
abbrev T4:=@List.mem_cons_of_mem
abbrev T5:=@List.mem_cons_self
abbrev T6:=@List.getElem?_eq_getElem
abbrev T7:=@List.length_set
abbrev T8:=@List.mem_cons
abbrev aii:=@decide_eq_decide
abbrev aik:=@List.mem_map
abbrev ail:=@List.pairwise_cons
abbrev ain:=@Nat.zero_add
abbrev aio:=@decide_eq_true
abbrev aip:=@List.length_map
abbrev aiq:=@Nat.lt_of_lt_of_le
abbrev air:=@List.mem_append
abbrev ais:=@Nat.le_of_ble_eq_true
abbrev ait:=@Bool.and_eq_true
abbrev aiu:=@List.take_length
abbrev aiv:=@List.append_assoc
abbrev aiw:=@List.getD_eq_getElem?_getD
abbrev aix:=@List.length_cons
abbrev aiy:=@Classical.byContradiction
abbrev aiz:=@List.length_take
abbrev aiA:=@Nat.lt_succ_self
abbrev aiB:=@List.map_cons
abbrev aiC:=@List.take_add_one
abbrev aiD:=@List.mem_singleton
abbrev aiE:=@List.cons_append
abbrev aiF:=@List.mem_of_getElem?
abbrev aiG:=@List.map_congr_left
abbrev aiH:=@Int.toNat_natCast
abbrev aiI:=@UInt8.toNat_inj
abbrev aiJ:=@List.mem_iff_getElem
abbrev aiK:=@List.eq_nil_of_length_eq_zero
abbrev aiL:=@Eq.symm
abbrev aiM:=@List.map_append
abbrev aiN:=@List.findIdx?_eq_some_iff_getElem
abbrev aiO:=@List.getElem?_append_right
abbrev aiP:=@List.take_of_length_le
abbrev aiQ:=@of_decide_eq_true
abbrev aiR:=@List.drop_eq_getElem_cons
abbrev aiS:=@Nat.lt_trichotomy
abbrev aiT:=@List.getElem_of_mem
abbrev aiU:=@ByteArray.size_extract
abbrev aiV:=@List.length_filter_le
abbrev aiW:=@List.length_singleton
abbrev aiX:=@List.getElem?_append_left
abbrev aiY:=@Code.wp_mono
abbrev aiZ:=@List.pairwise_iff_getElem
abbrev ai0:=@beq_iff_eq
abbrev ai1:=@Nat.lt_irrefl
abbrev ai2:=@Option.some.inj
abbrev ai3:=@List.getElem?_eq_none
abbrev ai4:=@Nat.min_eq_left
abbrev ai5:=@List.Pairwise.filter
abbrev ai6:=@List.nodup_cons
abbrev ai7:=@Nat.add_assoc
abbrev ai8:=@List.getElem?_set_self
abbrev ai9:=@Eq.trans
abbrev aja:=@Nat.le_of_lt
abbrev ajb:=@Nat.add_comm
end Go.Proofs.YtfececghhgeapaaGreatDoor
namespace Go.Proofs.YtfececghhgeapaaGreatDoor
section
open Go.RowKit Go.WideShapes Go.ChangeShapes
section post
variable {H:Type} {enc:TypeId×Value->H} {P:Program}
theorem Nb {f:Func} {s:ChangeSpec} {apart fresh handsOn again:Bool} {W W':World} {args:Array Value} {v:Value} {ds gs:List (DataW H)} {before pa pv:List MemPlace}
 (hW:DataW.Whole enc P f.params.toList s.vars apart W args.toList ds gs before)
 (hres:∀(b:Nat) (sp:Nat->Bool) (hd:Bool),DataW.TrodAll enc P W' b sp hd f.resultTypes.toList (v.resultList f.resultTypes.size) (s.fn H (ds++gs)).results [])
 (hargs:∀sp:Nat->Bool,(∀p∈before,sp p.block=true)->DataW.TrodAll enc P W' 0 sp true f.params.toList args.toList (s.fn H (ds++gs)).args pa)
 (hvars:∀sp:Nat->Bool,(∀p∈before,sp p.block=true)->DataW.TrodVars enc P W' sp s.vars (s.fn H (ds++gs)).vars pv)
 (ay:before=pa++pv) (hb:Below W.heap.size W W')
 (hok:∀(j:Nat) (t:TypeId) (r:Value),f.resultTypes[j]?=some t->(v.resultList f.resultTypes.size)[j]?=some r->Value.okWide P W' .any 0 t r) :
 s.post enc P f apart fresh handsOn again W args v W':=by
 have fX:∀p∈before,p.block<W.heap.size:=λp hp=>hW.lt p hp
 have hold:∀p∈before,(λb=>decide (b<W.heap.size)) p.block=true:=gn
 refine⟨ds,gs,before,[],pa,pv,hW,hres _ _ _,hargs _ hold,hvars _ hold,World.keptBut_mono (λp hp=>⟨hp,?_⟩) (hb.frame (·∈before)),λ_=>?_⟩
 ·rw [ay,air] at hp
  exact Or.inr hp
 obtain⟨_,_,_,_,_,hz,hn⟩:=hW
 refine⟨hok,_,_,([]++pa)++pv,⟨[]++pa,pv,trodAll_append (hargs _ (λ_ _=>rfl)) (hres _ _ _),hvars _ (λ_ _=>rfl),rfl,?_,?_⟩,?_⟩
 ·intro b off hp
  have hin:MemPlace.cell b off∈before:=by rw [ay];simpa using hp
  rw [hb.frozen (fX _ hin)]
  exact hz b off hin
 all_goals grind
end post
structure cL (S:Nat->Prop) (w w':World):Prop where
 os:w'.os=w.os
 tape:w'.tape=w.tape
 output:w'.output=w.output
 size:w.heap.size<=w'.heap.size
 block:∀k,k<w.heap.size->¬S k->w'.heap[k]?=w.heap[k]?
section keeps
variable {S S':Nat->Prop} {a w w':World}
theorem cL.refl (S:Nat->Prop) (w:World):cL S w w:=⟨rfl,rfl,rfl,N6 _,λ_ _ _=>rfl⟩
theorem cL.trans (h:cL S a w) (k:cL S w w'):cL S a w':=
 ⟨k.os.trans h.os,k.tape.trans h.tape,k.output.trans h.output,Pe h.size k.size,λi hi hn=>(k.block i (aiq hi h.size) hn).trans (h.block i hi hn)⟩
theorem cL.mono (h:cL S a w) (hs:∀k,k<a.heap.size->S k->S' k):cL S' a w:=
 ⟨h.os,h.tape,h.output,h.size,λi hi hn=>h.block i hi (λhk=>hn (hs i hi hk))⟩
theorem cL.andThen (h:cL S a w) (k:cL S' w w') (hs:∀i,i<a.heap.size->S' i->S i):cL S a w':=
 ⟨k.os.trans h.os,k.tape.trans h.tape,k.output.trans h.output,Pe h.size k.size,λi hi hn=>(k.block i (aiq hi h.size) (λhk=>hn (hs i hi hk))).trans (h.block i hi hn)⟩
theorem cL.drewN (h:cL S a w) (n:Nat):cL S a (w.drewN n):=⟨h.os,h.tape,h.output,h.size,h.block⟩
theorem cL.drew (h:cL S a w):cL S a w.drew:=⟨h.os,h.tape,h.output,h.size,h.block⟩
theorem cL.alloc (h:cL S a w) (o:Obj):cL S a (w.alloc o):=
 ⟨h.os,h.tape,h.output,Pe h.size nh,λi hi hn=>(Below.heap_alloc w o i (aiq hi h.size)).trans (h.block i hi hn)⟩
theorem cL.setCell (h:cL S a w) {p:Addr} (hp:a.heap.size<=p.block\/S p.block) (u:Value):cL S a (w.setCell p u):=
 ⟨h.os,h.tape,h.output,by simpa [World.setCell] using h.size,λi hi hn=>(Below.heap_setCell w p u i (by
  rintro rfl
  rcases hp with hp|hp
  ·omega
  exact hn hp)).trans (h.block i hi hn)⟩
theorem cL.grown {row:Option Nat} (h:cL S a w) (hg:w.grownBy w' row) (hr:∀k,row=some k->a.heap.size<=k\/S k):cL S a w':=
 ⟨hg.os.trans h.os,hg.tape.trans h.tape,hg.output.trans h.output,Pe h.size hg.size,λi hi hn=>
  (hg.block i (aiq hi h.size) (λe=>by
   rcases hr i e.symm with h1|h1
   ·omega
   exact hn h1)).trans (h.block i hi hn)⟩
theorem cL.cell (h:cL S w w') {p:Addr} (hp:p.block<w.heap.size) (hn:¬S p.block):w'.cell? p=w.cell? p:=World.cell?_of_block (w:=w) (h.block p.block hp hn)
theorem cL.frozen (h:cL S w w') {p:Addr} (hp:p.block<w.heap.size) (hn:¬S p.block):w'.frozen? p=w.frozen? p:=World.frozen?_of_block (w:=w) (h.block p.block hp hn)
theorem cL.ownsRow (h:cL S w w') {base:Nat} {e:TypeId} {size:Nat} {v:Value} {n:Nat} {xs:List Value} (ho:w.ownsRow base e size v n xs) (hn:∀k,v.ownBlock=some k->¬S k):w'.ownsRow base e size v n xs:=by
 have hl:=ho.lt
 obtain⟨h1,h2⟩:=ho
 refine⟨h1,?_⟩
 rcases h2 with h2|⟨g,cap,cur,hv,hg,hh,r⟩
 ·exact Or.inl h2
 have e:v.ownBlock=some g:=by rw [hv];rfl
 exact Or.inr ⟨g,cap,cur,hv,hg,(h.block g (hl g e).2 (hn g e)).trans hh,r⟩
theorem cL.ownsMap {H:Type} (h:cL S w w') {P:Program} {k:TypeId} {R:Value->Option (DataW H×List MemPlace)} {b n:Nat} {D:DataW H} (ho:w.ownsMap P k R b n D) (hn:¬S b):w'.ownsMap P k R b n D:=by
 have fX:=ho.lt
 obtain⟨es,clock,hb,r⟩:=ho
 exact⟨es,clock,(h.block b fX hn).trans hb,r⟩
end keeps
def yU (v:Value):Option (DataW Value×List MemPlace):=some (.held v,[])
def kN (P:Program) (K:TypeId) (w:World) (b:Nat) (f:Lit->Option Value) (n:Nat):Prop:=
 ∃D:DataW Value,w.ownsMap P K yU b n D/\Maps.size D=n/\(∀kl,Maps.has D kl=(f kl).isSome)/\∀kl v,f kl=some v->∀z,D.atKey kl z=.held v
def pZ (f:Lit->Option Value) (kl:Lit) (v:Option Value):Lit->Option Value:=λx=>if x.sameKey kl then v else f x
section maps
open Go.Maps
variable {P:Program} {K E t:TypeId} {w w':World} {b n:Nat} {f:Lit->Option Value}
theorem kN.made (w:World) (P:Program) (K:TypeId):kN P K (w.alloc (.map #[] 0)) w.heap.size (λ_=>none) 0:=
 ⟨.map [],World.ownsMap_made _ _ _ _,rfl,λ_=>rfl,λ_ _ h=>by cases h⟩
theorem kN.lt (h:kN P K w b f n):b<w.heap.size:=let ⟨_,h1,_⟩:=h;h1.lt
theorem kN.keeps {S:Nat->Prop} (h:kN P K w b f n) (k:cL S w w') (hn:¬S b):kN P K w' b f n:=by
 obtain⟨D,h1,h2⟩:=h
 exact⟨D,k.ownsMap h1 hn,h2⟩
theorem kN.len (h:kN P K w b f n) (ht:P.underlying t=some (.map K E)) (ty:TypeId):(Builtin.len_ #[t] ty #[.map (some b)]).run P w=.ok (.int .i64 n) w:=by
 obtain⟨D,h1,h2,_⟩:=h
 rw [h1.len ht ty,h2]
theorem kN.look_ok (h:kN P K w b f n) (L:Keyed P K) (ht:P.underlying t=some (.map K E)) {z:Value} (hz:(zeroValue E).run P w=.ok z w) {key:Value} {kl:Lit} (mo:keyOf P K key=some kl) :
 (Instr.lookup t (.map (some b)) key true).run P w=.ok (.tuple #[(f kl).getD z,.bool (f kl).isSome]) w:=by
 obtain⟨D,h1,_,h3,h4⟩:=h
 obtain⟨v,ps,hrun,hv⟩:=h1.look_ok L ht hz (R:=yU) (zd:=.held z) (zp:=[]) rfl mo
 rw [hrun,h3 kl]
 simp only [yU,Option.some.injEq,Prod.mk.injEq] at hv
 cases hf:f kl with
 |none=>
   have hn:Maps.has D kl=false:=by rw [h3 kl,hf];rfl
   rw [atKey_of_not_has hn] at hv
   have e:v=z:=by simpa using hv.1
   simp [e]
 |some u=>
   grind
theorem kN.look (h:kN P K w b f n) (L:Keyed P K) (ht:P.underlying t=some (.map K E)) {z:Value} (hz:(zeroValue E).run P w=.ok z w) {key:Value} {kl:Lit} (mo:keyOf P K key=some kl) :
 (Instr.lookup t (.map (some b)) key false).run P w=.ok ((f kl).getD z) w:=by
 obtain⟨D,h1,_,h3,h4⟩:=h
 obtain⟨v,ps,hrun,hv⟩:=h1.lookup L ht hz (R:=yU) (zd:=.held z) (zp:=[]) rfl mo
 rw [hrun]
 simp only [yU,Option.some.injEq,Prod.mk.injEq] at hv
 cases hf:f kl with
 |none=>
   have hn:Maps.has D kl=false:=by rw [h3 kl,hf];rfl
   rw [atKey_of_not_has hn] at hv
   have e:v=z:=by simpa using hv.1
   simp [e]
 |some u=>
   grind
theorem LG {key:Value} {kl:Lit} (L:Keyed P K) (mo:keyOf P K key=some kl):WideAt.IsKeyLit kl:=L.key mo
theorem kN.store (h:kN P K w b f n) (L:Keyed P K) (ht:P.underlying t=some (.map K E)) (hn:n<maxLen) {key:Value} {kl:Lit} (mo:keyOf P K key=some kl) (v:Value) :
 ∃w',(Instr.mapUpdate t (.map (some b)) key v).run P w=.ok () w'/\kN P K w' b (pZ f kl (some v)) (if (f kl).isSome then n else n+1)/\cL (·=b) w w':=by
 obtain⟨D,h1,h2,h3,h4⟩:=h
 obtain⟨w',hrun,qt,hg⟩:=h1.update L ht hn mo (val:=v) (d:=.held v) (ps:=[]) rfl
 have hkl:=LG L mo
 have eV:Maps.size (D.put kl (.held v))=if (f kl).isSome then n else n+1:=by
  rw [size_put (h1.tidy L),h2,h3 kl]
 refine⟨w',hrun,⟨D.put kl (.held v),?_,eV,λx=>?_,λx u hx z=>?_⟩,(cL.refl _ _).grown hg (λk hk=>.inr (by cases hk;rfl))⟩
 ·obtain⟨es,clock,hb,F,hs,rD⟩:=qt
  exact⟨es,clock,hb,F,by rw [←eV,rD];simp [Maps.size,length_sorted],rD⟩
 ·unfold pZ
  by_cases e:x=kl
  ·subst e
   rw [has_put_same h1.isMap hkl]
   have:x.sameKey x=true:=WideAt.sameKey_self hkl
   simp [this]
  rw [has_put_other e,h3 x,sameKey_ne e]
  simp
 unfold pZ at hx
 by_cases e:x=kl
 ·subst e
  rw [t8 (WideAt.sameKey_self hkl)] at hx
  injection hx with hx
  rw [atKey_put_same h1.isMap hkl,hx]
 rw [sameKey_ne e] at hx
 simp only [Bool.false_eq_true,if_false] at hx
 rw [atKey_put_other e]
 exact h4 x u hx z
theorem kN.drop (h:kN P K w b f n) (L:Keyed P K) (ht:P.underlying t=some (.map K E)) {key:Value} {kl:Lit} (mo:keyOf P K key=some kl) (ty:TypeId) :
 ∃w',(Builtin.delete_ #[t,K] ty #[.map (some b),key]).run P w=.ok (.tuple #[]) w'/\kN P K w' b (pZ f kl none) (if (f kl).isSome then n-1 else n)/\cL (·=b) w w':=by
 obtain⟨D,h1,h2,h3,h4⟩:=h
 obtain⟨w',hrun,qt,hg⟩:=h1.drop L ht mo ty
 have hkl:=LG L mo
 have eV:Maps.size (D.del kl)=if (f kl).isSome then n-1 else n:=by
  have:=size_del (k:=kl) (h1.tidy L)
  grind
 refine⟨w',hrun,⟨D.del kl,?_,eV,λx=>?_,λx u hx z=>?_⟩,(cL.refl _ _).grown hg.grown (λk hk=>.inr (by cases hk;rfl))⟩
 ·obtain⟨es,clock,hb,F,hs,rD⟩:=qt
  exact⟨es,clock,hb,F,by rw [←eV,rD];simp [Maps.size,length_sorted],rD⟩
 ·unfold pZ
  by_cases e:x=kl
  ·subst e
   rw [has_del_same]
   simp [WideAt.sameKey_self hkl]
  rw [has_del_other e,h3 x,sameKey_ne e]
  simp
 unfold pZ at hx
 by_cases e:x=kl
 ·subst e
  rw [t8 (WideAt.sameKey_self hkl)] at hx
  cases hx
 rw [sameKey_ne e] at hx
 simp only [Bool.false_eq_true,if_false] at hx
 rw [atKey_del_other e]
 exact h4 x u hx z
end maps
end
section
open Go.RowKit
abbrev Fp:=Nat->Prop
structure eG where
 h:Fp->World->Prop
 lt:∀{F w},h F w->∀k,F k->k<w.heap.size
 st:∀{F w},h F w->∀{S:Nat->Prop} {w':World},cL S w w'->(∀k,F k->¬S k)->h F w'
structure Step (F:Fp) (w:World) (F':Fp) (w':World):Prop where
 keeps:cL F w w'
 grow:∀k,F' k->F k\/w.heap.size<=k
def Apart (F G:Fp):Prop:=∀k,F k->¬G k
theorem Step.refl (F:Fp) (w:World):Step F w F w:=⟨cL.refl _ _,λ_ h=>.inl h⟩
structure ahX (B:Nat) (A1 A2 A3 A4:eG) (w0 w:World):Prop where
 ex:∃F1 F2 F3 F4,A1.h F1 w/\A2.h F2 w/\A3.h F3 w/\A4.h F4 w/\Apart F1 F2/\Apart F1 F3/\Apart F1 F4/\Apart F2 F3/\Apart F2 F4/\Apart F3 F4 ∧
  (∀k,F1 k->B<=k)/\(∀k,F2 k->B<=k)/\(∀k,F3 k->B<=k)/\(∀k,F4 k->B<=k)
 below:Below B w0 w
 size:B<=w.heap.size
section sep
variable {B:Nat} {A1 A2 A3 A4 A1' A2' A3' A4':eG} {w0 w w':World}
end sep
abbrev vP (b:Nat):Value:=.pointer (some ⟨b,0,none⟩)
abbrev vI (x:Int):Value:=.int .i64 x
structure Bs where
 O:Nat->Prop
 w0:World
structure Bs.ok (β:Bs) (w:World):Prop where
 os:w.os=β.w0.os
 tape:w.tape=β.w0.tape
 output:w.output=β.w0.output
 size:β.w0.heap.size<=w.heap.size
 old:∀k,β.O k->k<β.w0.heap.size/\w.heap[k]?=β.w0.heap[k]?
theorem Bs.ok.keeps {β:Bs} {S:Nat->Prop} {w w':World} (h:β.ok w) (k:cL S w w') (hs:∀i,β.O i->¬S i):β.ok w':=
 ⟨k.os.trans h.os,k.tape.trans h.tape,k.output.trans h.output,Pe h.size k.size,λi hi=>⟨(h.old i hi).1,(k.block i (aiq (h.old i hi).1 h.size) (hs i hi)).trans (h.old i hi).2⟩⟩
theorem Bs.ok.cell {β:Bs} {w:World} (h:β.ok w) {a:Addr} {v:Value} (ho:β.O a.block/\β.w0.cell? a=some v):w.cell? a=some v:=
 (World.cell?_of_block (w:=β.w0) (h.old a.block ho.1).2).trans ho.2
inductive HP
 |aD (b:Nat) (cs:List Value) (T:TypeId)
 |abs (A:eG)
def HP.h:HP->Fp->World->Prop
 |.aD b cs T,F,w=>w.heap[b]?=some (.cells ⟨cs⟩ T (0,0))/\∀k,F k↔k=b
 |.abs A,F,w=>A.h F w
theorem lt_of_some {α:Type} {xs:Array α} {i:Nat} {x:α} (h:xs[i]?=some x):i<xs.size:=by
 grind
theorem HP.lt {p:HP} {F:Fp} {w:World} (h:p.h F w) (k:Nat) (hk:F k):k<w.heap.size:=by
 cases p with
 |aD b cs T=>obtain⟨h1,h2⟩:=h;rw [(h2 k).1 hk];exact lt_of_some h1
 |abs A=>exact A.lt h k hk
theorem HP.st {p:HP} {F:Fp} {w w':World} {S:Nat->Prop} (h:p.h F w) (k:cL S w w') (hn:∀i,F i->¬S i):p.h F w':=by
 cases p with
 |aD b cs T=>obtain⟨h1,h2⟩:=h;exact⟨(k.block b (lt_of_some h1) (hn b ((h2 b).2 rfl))).trans h1,h2⟩
 |abs A=>exact A.st h k hn
def aP (β:Bs) (l:List HP) (w:World):Prop:=
 β.ok w/\∃φ:Nat->Fp,(∀(i:Nat) (p:HP),l[i]?=some p->p.h (φ i) w)/\(∀i,i<l.length->∀k,φ i k->¬β.O k)/\∀i j,i<l.length->j<l.length->i≠j->Apart (φ i) (φ j)
section sat
variable {β:Bs} {l l':List HP} {w w':World} {p p':HP} {i:Nat}
theorem dH {α:Type} {xs:List α} {i:Nat} {x:α} (h:xs[i]?=some x):i<xs.length:=by
 grind
theorem lq {α:Type} {xs:List α} {i:Nat} (h:i<xs.length):∃x,xs[i]?=some x:=⟨xs[i],T6 h⟩
theorem aP.quiet (h:aP β l w) (k:cL (λ_=>False) w w'):aP β l w':=by
 obtain⟨ho,φ,h1,h2,h3⟩:=h
 exact⟨ho.keeps k (λ_ _ h=>h),φ,λi p hp=>HP.st (h1 i p hp) k (λ_ _ h=>h),h2,h3⟩
theorem aP.drewN (h:aP β l w) (n:Nat):aP β l (w.drewN n):=h.quiet ((cL.refl _ _).drewN n)
theorem aP.get (h:aP β l w) (hp:l[i]?=some p):∃F,p.h F w:=by
 obtain⟨_,φ,h1,_⟩:=h
 exact⟨φ i,h1 i p hp⟩
theorem aP.set (h:aP β l w) (hp:l[i]?=some p) (hs:∀F,p.h F w->∃F',p'.h F' w'/\Step F w F' w'):aP β (l.set i p') w':=by
 obtain⟨ho,φ,h1,h2,h3⟩:=h
 obtain⟨F',hF',st⟩:=hs _ (h1 i p hp)
 have hi:=dH hp
 have fX:∀j,j<l.length->∀k,φ j k->k<w.heap.size:=λj hj k hk=>by
  obtain⟨q,hq⟩:=lq hj
  exact HP.lt (h1 j q hq) k hk
 have hap:∀j,j<l.length->j≠i->∀k,F' k->φ j k->False:=λj hj cF k hk jA=>by
  rcases st.grow k hk with e|e
  ·exact h3 i j hi hj (λe=>cF e.symm) k e jA
  have:=fX j hj k jA;omega
 refine⟨ho.keeps st.keeps (λk hk jA=>h2 i hi k jA hk),λj=>if j=i then F' else φ j,λj q hq=>?_,λj hj k hk hO=>?_,λj1 j2 uL hj2 cF k hk jA=>?_⟩
 ·by_cases e:j=i
  ·grind
  rw [List.getElem?_set_ne (λe'=>e e'.symm)] at hq
  simp only [e,if_false]
  exact HP.st (h1 j q hq) st.keeps (λk hk jA=>h3 i j hi (dH hq) (λe'=>e e'.symm) k jA hk)
 ·rw [T7] at hj
  by_cases e:j=i
  ·subst e
   simp only [if_true] at hk
   rcases st.grow k hk with e|e
   ·exact h2 j hi k e hO
   have:=(ho.old k hO).1;have:=ho.size;omega
  grind
 rw [T7] at uL hj2
 by_cases e1:j1=i
 ·grind
 simp only [e1,if_false] at hk
 by_cases e2:j2=i
 ·grind
 simp only [e2,if_false] at jA
 exact h3 j1 j2 uL hj2 cF k hk jA
theorem aP.new {F:Fp} (h:aP β l w) (hF:p.h F w') (k:cL (λ_=>False) w w') (hn:∀k,F k->w.heap.size<=k):aP β (l++[p]) w':=by
 obtain⟨ho,φ,h1,h2,h3⟩:=h
 have fX:∀j,j<l.length->∀k,φ j k->k<w.heap.size:=λj hj k hk=>by
  obtain⟨q,hq⟩:=lq hj
  exact HP.lt (h1 j q hq) k hk
 refine⟨ho.keeps k (λ_ _ h=>h),λj=>if j=l.length then F else φ j,λj q hq=>?_,λj hj k hk hO=>?_,λj1 j2 uL hj2 cF k hk jA=>?_⟩
 ·grind [dH,HP.st]
 ·by_cases e:j=l.length
  ·simp only [e,if_true] at hk
   have:=(ho.old k hO).1;have:=ho.size;have:=hn k hk;omega
  grind
 simp at uL hj2
 by_cases e1:j1=l.length
 ·grind
 simp only [e1,if_false] at hk
 by_cases e2:j2=l.length
 ·grind
 simp only [e2,if_false] at jA
 exact h3 j1 j2 d5 d5 cF k hk jA
def cT (l:List HP):List Nat->Option (List HP)
 |[]=>some []
 |i::r=>match l[i]? with
   |some p=>match cT l r with
     |some q=>some (p::q)
     |none=>none
   |none=>none
def bU:List Nat->Bool
 |[]=>true
 |i::r=>!(r.contains i) && bU r
theorem Ch:∀{ax:List Nat},bU ax=true->ax.Nodup
 |[],_=>List.nodup_nil
 |i::r,h=>by
   simp only [bU,ait,Bool.not_eq_true',List.contains_eq_mem,decide_eq_false_iff_not] at h
   exact ai6.2 ⟨h.1,Ch h.2⟩
theorem C6:∀{ax:List Nat} {l':List HP},cT l ax=some l'->l'.length=ax.length/\∀(j:Nat) (p:HP),l'[j]?=some p->∃i:Nat,ax[j]?=some i/\l[i]?=some p
 |[],l',h=>by cases h;grind
 |i::r,l',h=>by
   unfold cT at h
   split at h
   ·rename_i q hq
    split at h
    ·rename_i q' hq'
     cases h
     obtain⟨h1,h2⟩:=C6 hq'
     refine⟨by simp [h1],λj p hp=>?_⟩
     cases j with
     |zero=>simp at hp;subst hp;exact⟨i,rfl,hq⟩
     |succ j=>simpa using h2 j p (by simpa using hp)
    cases h
   cases h
theorem aP.pick {ax:List Nat} (h:aP β l w) (hn:bU ax=true) (hp:cT l ax=some l'):aP β l' w:=by
 obtain⟨ho,φ,h1,h2,h3⟩:=h
 obtain⟨hl,hi⟩:=C6 hp
 have hnd:=Ch hn
 have key:∀j,j<l'.length->ax.getD j 0<l.length:=λj hj=>by
  obtain⟨p,hp⟩:=lq hj
  grind
 refine⟨ho,λj=>φ (ax.getD j 0),λj p hp=>?_,λj hj=>h2 _ (key j hj),λj1 j2 uL hj2 cF=>h3 _ _ (key j1 uL) (key j2 hj2) (λe=>cF ?_)⟩
 ·grind
 rw [hl] at uL hj2
 rw [aiw,aiw,T6 uL,T6 hj2] at e
 have hp:=aiZ.1 hnd
 grind
end sat
abbrev Fr:=List (Nat×Value)
def lk:Fr->(Nat->Value)->Nat->Value
 |[],j,t=>j t
 |(i,v)::r,j,t=>match Nat.beq i t with
   |true=>v
   |false=>lk r j t
structure fP where
 n:Nat
 ds:List Deferred
def fk (N:fP) (fr:Fr) (ar:Nat->Value):Act:=⟨((List.range N.n).map (lk fr ar)).toArray,N.ds⟩
def fo (N:fP) (fr:Fr) (ar:Nat->Value):Operand->Value
 |.tmp t=>match Nat.blt t N.n with
   |true=>lk fr ar t
   |false=>undef
 |.const v=>v
 |.global g=>.pointer (some ⟨g,0,none⟩)
 |.func f=>.func (.func f) #[] #[]
theorem Kq (N:fP) (fr:Fr) (ar:Nat->Value) (t:Nat):(fk N fr ar).tmps[t]?=if t<N.n then some (lk fr ar t) else none:=by
 grind [fk]
theorem iY (N:fP) (fr:Fr) (ar:Nat->Value):(fk N fr ar).eval=fo N fr ar:=by
 funext x
 cases x with
 |tmp t=>
   simp only [Act.eval,fo,Array.getD_eq_getD_getElem?,Kq]
   by_cases h:t<N.n
   ·have:Nat.blt t N.n=true:=by simpa [Nat.blt_eq] using h
    simp [h,this]
   have:Nat.blt t N.n=false:=by
    cases hb:Nat.blt t N.n
    ·rfl
    exact KB (by simpa [Nat.blt_eq] using hb) h
   simp [h,this]
 |const v=>rfl
 |global g=>rfl
 |func f=>rfl
def eX (fr:Fr) (d:Option Tmp) (v:Value):Fr:=match d with
 |some d=>(d,v)::fr
 |none=>fr
theorem lV (i:Nat) (v:Value) (fr:Fr) (ar:Nat->Value) (t:Nat):lk ((i,v)::fr) ar t=if i=t then v else lk fr ar t:=by
 simp only [lk]
 by_cases h:i=t
 ·subst h;simp [Nat.beq_refl]
 have:Nat.beq i t=false:=by
  cases hb:Nat.beq i t
  ·rfl
  exact KB (Nat.eq_of_beq_eq_true hb) h
 simp [h,this]
theorem gS (N:fP) (fr:Fr) (ar:Nat->Value) (d:Option Tmp) (v:Value):(fk N fr ar).put d v=fk N (eX fr d v) ar:=by
 cases d with
 |none=>rfl
 |some d=>
   unfold Act.put
   have hd:(fk N fr ar).defers=(fk N (eX fr (some d) v) ar).defers:=rfl
   have ht:(fk N fr ar).tmps.setIfInBounds d v=(fk N (eX fr (some d) v) ar).tmps:=by
    grind [Kq,fk,eX,lV]
   show Act.mk _ _=_
   rw [ht]
   rfl
def yF (ops:Array Oper) (N:fP) (fr:Fr) (ar:Nat->Value) (j:Nat):Option Bool:=
 match ops.toList[j]? with
 |some o=>match o.dst with
   |some d=>match Nat.blt d N.n with
     |true=>match lk fr ar d with
       |.bool b=>some b
       |_=>none
     |false=>none
   |none=>none
 |none=>none
theorem Np (ops:Array Oper) (N:fP) (fr:Fr) (ar:Nat->Value) (j:Nat):yielded ops (fk N fr ar).tmps j=yF ops N fr ar j:=by
 unfold yielded yF
 rw [Array.getElem?_toList]
 cases ops[j]? with
 |none=>rfl
 |some o=>
   simp only [Option.bind_some]
   cases o.dst with
   |none=>rfl
   |some d=>
     simp only [Option.bind_some,Kq]
     by_cases h:d<N.n
     ·have:Nat.blt d N.n=true:=by simpa [Nat.blt_eq] using h
      grind
     have:Nat.blt d N.n=false:=by
      cases hb:Nat.blt d N.n
      ·rfl
      exact KB (by simpa [Nat.blt_eq] using hb) h
     simp [h,this]
def kO (fr:Fr) (ar:Nat->Value):List Nat->Fr
 |[]=>[]
 |i::r=>(i,lk fr ar i)::kO fr ar r
theorem HM (fr:Fr) (ar:Nat->Value):∀(ax:List Nat) (t:Nat),lk (kO fr ar ax) (lk fr ar) t=lk fr ar t
 |[],_=>rfl
 |i::r,t=>by
   rw [kO,lV]
   by_cases h:i=t
   ·simp [h]
   simp [h,HM fr ar r t]
theorem nS (N:fP) (fr:Fr) (ar:Nat->Value) (ax:List Nat):fk N fr ar=fk N (kO fr ar ax) (lk fr ar):=by
 unfold fk
 have:(List.range N.n).map (lk fr ar)=(List.range N.n).map (lk (kO fr ar ax) (lk fr ar)):=aiG (λt _=>(HM fr ar ax t).symm)
 rw [this]
inductive Hint
 |at (i:Nat)
 |old (v:Value)
 |view (i:Nat) (v:Value)
structure SS where
 hints:List Hint
 ay:List HP
 eT:List Prop
 used:Bool
def oP:List Prop->Prop
 |[]=>True
 |p::r=>p/\oP r
theorem oP.mem:∀{l:List Prop},oP l->∀{p:Prop},p∈l->p
 |[],_,_,h=>by cases h
 |_::_,h,_,hm=>by
   rcases T8.1 hm with e|e
   ·exact e ▸ h.1
   exact h.2.mem e
def fe (P:Program) (β:Bs) (n:Nat) (ro:Bool) {α:Type}:Sem α->SS->Option (α×SS)
 |.pure a,s=>some (a,s)
 |.load _ a k,s=>
   match s.hints with
   |.at i::hs=>
     match s.ay[i]? with
     |some (.aD b cs _)=>
       match a.spot with
       |none=>
         match cs[a.off]? with
         |some v=>fe P β n ro (k v) {s with hints:=hs,eT:=(a.block=b)::s.eT}
         |none=>none
       |some _=>none
     |_=>none
   |.old v::hs=>fe P β n ro (k v) {s with hints:=hs,eT:=(β.O a.block/\β.w0.cell? a=some v)::s.eT}
   |.view i v::hs=>
     match s.ay[i]? with
     |some (.abs A)=>fe P β n ro (k v) {s with hints:=hs,eT:=(∀F w,A.h F w->w.cell? a=some v)::s.eT}
     |_=>none
   |[]=>none
 |.store _ a v k,s=>
   match ro with
   |true=>none
   |false=>
   match v with
   |.agg _=>none
   |.tuple _=>none
   |v=>
     match s.hints with
     |.at i::hs=>
       match s.ay[i]? with
       |some (.aD b cs T)=>
         match a.spot with
         |none=>
           match cs[a.off]? with
           |some _=>fe P β n ro k {s with hints:=hs,ay:=s.ay.set i (.aD b (cs.set a.off v) T),eT:=(a.block=b)::s.eT}
           |none=>none
         |some _=>none
       |_=>none
     |_=>none
 |.new o k,s=>
   match ro,s.used,o with
   |false,false,.cells c T (0,0)=>fe P β n ro (k n) {s with ay:=s.ay++[.aD n c.toList T],used:=true}
   |_,_,_=>none
 |.shape r k,s=>
   match s.hints with
   |.at i::hs=>
     match s.ay[i]? with
     |some (.aD b cs T)=>fe P β n ro (k (some (T,cs.length))) {s with hints:=hs,eT:=(r=b)::s.eT}
     |_=>none
   |_=>none
 |.frozen a k,s=>
   match s.hints with
   |.at i::hs=>
     match s.ay[i]? with
     |some (.aD b _ _)=>fe P β n ro (k false) {s with hints:=hs,eT:=(a.block=b)::s.eT}
     |_=>none
   |_=>none
 |.program k,s=>fe P β n ro (k P) s
 |.mark _ k,s=>fe P β n ro k s
 |.freeze ..,_=>none
 |.getObj ..,_=>none
 |.setObj ..,_=>none
 |.choose ..,_=>none
 |.sys ..,_=>none
 |.halt _,_=>none
section sound
variable {P:Program} {β:Bs} {n:Nat} {ro:Bool}
theorem uo {α:Type}:∀(s:Sem α) (S S':SS) (x:α),fe P β n ro s S=some (x,S')->∀p,p∈S.eT->p∈S'.eT:=by
 intro s
 induction s with
 |pure a=>intro S S' x h p hp;simp only [fe,Option.some.injEq,Prod.mk.injEq] at h;rw [←h.2];exact hp
 |load m a k ih=>intro S S' x h p hp;simp only [fe] at h;(repeat' split at h);all_goals first|(cases h;done)|exact ih _ _ _ _ h p (T4 _ hp)
 |store m a v k ih=>intro S S' x h p hp;simp only [fe] at h;(repeat' split at h);all_goals first|(cases h;done)|exact ih _ _ _ h p (T4 _ hp)
 |new o k ih=>intro S S' x h p hp;simp only [fe] at h;(repeat' split at h);all_goals first|(cases h;done)|exact ih _ _ _ _ h p hp
 |shape r k ih=>intro S S' x h p hp;simp only [fe] at h;(repeat' split at h);all_goals first|(cases h;done)|exact ih _ _ _ _ h p (T4 _ hp)
 |frozen r k ih=>intro S S' x h p hp;simp only [fe] at h;(repeat' split at h);all_goals first|(cases h;done)|exact ih _ _ _ _ h p (T4 _ hp)
 |program k ih=>intro S S' x h p hp;simp only [fe] at h;exact ih _ _ _ _ h p hp
 |mark m k ih=>intro S S' x h p hp;simp only [fe] at h;exact ih _ _ _ h p hp
 |freeze a m k ih=>intro S S' x h;simp only [fe] at h;cases h
 |getObj r k ih=>intro S S' x h;simp only [fe] at h;cases h
 |setObj r o k ih=>intro S S' x h;simp only [fe] at h;cases h
 |choose q k ih=>intro S S' x h;simp only [fe] at h;cases h
 |sys c k ih=>intro S S' x h;simp only [fe] at h;cases h
 |halt e=>intro S S' x h;simp only [fe] at h;cases h
theorem RV {α:Type}:∀(s:Sem α) (S S':SS) (x:α),fe P β n true s S=some (x,S')->S'.ay=S.ay/\S'.used=S.used:=by
 intro s
 induction s with
 |pure a=>intro S S' x h;simp only [fe,Option.some.injEq,Prod.mk.injEq] at h;rw [←h.2];exact⟨rfl,rfl⟩
 |load m a k ih=>intro S S' x h;simp only [fe] at h;(repeat' split at h);all_goals first|(cases h;done)|(have h':=ih _ _ _ _ h;exact h')
 |store m a v k ih=>intro S S' x h;simp only [fe] at h;cases h
 |new o k ih=>intro S S' x h;simp only [fe] at h;(repeat' split at h);all_goals first|(cases h;done)|contradiction
 |shape r k ih=>intro S S' x h;simp only [fe] at h;(repeat' split at h);all_goals first|(cases h;done)|(have h':=ih _ _ _ _ h;exact h')
 |frozen r k ih=>intro S S' x h;simp only [fe] at h;(repeat' split at h);all_goals first|(cases h;done)|(have h':=ih _ _ _ _ h;exact h')
 |program k ih=>intro S S' x h;simp only [fe] at h;(have h':=ih _ _ _ _ h;exact h')
 |mark m k ih=>intro S S' x h;simp only [fe] at h;exact ih _ _ _ h
 |freeze a m k ih=>intro S S' x h;simp only [fe] at h;cases h
 |getObj r k ih=>intro S S' x h;simp only [fe] at h;cases h
 |setObj r o k ih=>intro S S' x h;simp only [fe] at h;cases h
 |choose q k ih=>intro S S' x h;simp only [fe] at h;cases h
 |sys c k ih=>intro S S' x h;simp only [fe] at h;cases h
 |halt e=>intro S S' x h;simp only [fe] at h;cases h
theorem LH {α:Type}:∀(s:Sem α) (S S':SS) (x:α),fe P β n true s S=some (x,S')->S.hints=[]->S'.eT=S.eT:=by
 intro s
 induction s with
 |pure a=>intro S S' x h;simp only [fe,Option.some.injEq,Prod.mk.injEq] at h;rw [←h.2];exact λ_=>rfl
 |load m a k ih=>intro S S' x h hh;simp only [fe,hh] at h;cases h
 |store m a v k ih=>intro S S' x h;simp only [fe] at h;cases h
 |new o k ih=>intro S S' x h;simp only [fe] at h;(repeat' split at h);all_goals first|(cases h;done)|contradiction
 |shape r k ih=>intro S S' x h hh;simp only [fe,hh] at h;cases h
 |frozen r k ih=>intro S S' x h hh;simp only [fe,hh] at h;cases h
 |program k ih=>intro S S' x h;simp only [fe] at h;exact ih _ _ _ _ h
 |mark m k ih=>intro S S' x h;simp only [fe] at h;exact ih _ _ _ h
 |freeze a m k ih=>intro S S' x h;simp only [fe] at h;cases h
 |getObj r k ih=>intro S S' x h;simp only [fe] at h;cases h
 |setObj r o k ih=>intro S S' x h;simp only [fe] at h;cases h
 |choose q k ih=>intro S S' x h;simp only [fe] at h;cases h
 |sys c k ih=>intro S S' x h;simp only [fe] at h;cases h
 |halt e=>intro S S' x h;simp only [fe] at h;cases h
theorem lu {w:World} {b:Nat} {cs:List Value} {T:TypeId} {a:Addr} {v:Value} (h:w.heap[b]?=some (.cells ⟨cs⟩ T (0,0))) (hs:a.spot=none) (hb:a.block=b) (hv:cs[a.off]?=some v):w.cell? a=some v/\w.frozen? a=false:=by
 subst hb
 refine⟨?_,?_⟩
 ·simp [World.cell?,h,hs,hv]
 simp [World.frozen?,h]
theorem zo {w:World} {b:Nat} {cs:List Value} {T:TypeId} {a:Addr} {v:Value} {F:Fp} (h:(HP.aD b cs T).h F w) (hs:a.spot=none) (hb:a.block=b) :
 ∃F',(HP.aD b (cs.set a.off v) T).h F' (w.setCell a v)/\Step F w F' (w.setCell a v):=by
 obtain⟨h1,h2⟩:=h
 refine⟨F,⟨?_,h2⟩,⟨(cL.refl _ _).setCell (.inr ((h2 _).2 hb)) v,λ_ h=>.inl h⟩⟩
 subst hb
 simp [World.setCell,Array.getElem?_modify,h1,hs,Array.setIfInBounds_def]
 exact λh=>(List.set_eq_of_length_le h).symm
theorem Nc (w:World) (p:Addr) (v:Value):(w.setCell p v).heap.size=w.heap.size:=by simp [World.setCell]
theorem vr {α:Type}:∀(s:Sem α) (S S':SS) (x:α) (w:World),fe P β n ro s S=some (x,S')->(∀p,p∈S'.eT->p)->aP β S.ay w->(S.used=false->n=w.heap.size) →
 ∃w',s.run P w=.ok x w'/\aP β S'.ay w'/\(S'.used=false->n=w'.heap.size)/\(ro=true->w'=w/\S'.ay=S.ay):=by
 intro s
 induction s with
 |pure a=>
   intro S S' x w h _ hS hn
   simp only [fe,Option.some.injEq,Prod.mk.injEq] at h
   obtain⟨rfl,rfl⟩:=h
   exact⟨w,rfl,hS,hn,λ_=>⟨rfl,rfl⟩⟩
 |load m a k ih=>
   intro S S' x w h ho hS hn
   simp only [fe] at h
   repeat' split at h
   all_goals first|(cases h;done)|skip
   ·rename_i hp _ hs _ v hv
    have hb:a.block=_:=ho _ (uo _ _ _ _ h _ T5)
    obtain⟨F,hF⟩:=hS.get hp
    have hc:=(lu hF.1 hs hb hv).1
    obtain⟨w',h1,h2⟩:=ih _ _ _ _ w h ho hS hn
    exact⟨w',by simp only [Sem.run,hc];exact h1,h2⟩
   ·rename_i v hs hh
    have hc:=hS.1.cell (ho _ (uo _ _ _ _ h _ T5))
    obtain⟨w',h1,h2⟩:=ih _ _ _ _ w h ho hS hn
    exact⟨w',by simp only [Sem.run,hc];exact h1,h2⟩
   rename_i A hp
   obtain⟨F,hF⟩:=hS.get hp
   have hc:=ho _ (uo _ _ _ _ h _ T5) F w hF
   obtain⟨w',h1,h2⟩:=ih _ _ _ _ w h ho hS hn
   exact⟨w',by simp only [Sem.run,hc];exact h1,h2⟩
 |store m a v k ih=>
   intro S S' x w h ho hS hn
   simp only [fe] at h
   cases ro with
   |true=>simp at h
   |false=>
   simp only at h
   split at h
   ·cases h
   ·cases h
   rename_i hv1 hv2
   repeat' split at h
   all_goals first|(cases h;done)|skip
   rename_i hp _ hs _ u hu
   have hb:a.block=_:=ho _ (uo _ _ _ _ h _ T5)
   obtain⟨F,hF⟩:=hS.get hp
   obtain⟨hc,hf⟩:=lu hF.1 hs hb hu
   have gG:=hS.set hp (λF hF=>zo (v:=v) hF hs hb)
   obtain⟨w',h1,h2⟩:=ih _ _ _ (w.setCell a v) h ho gG (λe=>by rw [Nc];exact hn e)
   refine⟨w',?_,h2.1,h2.2.1,λe=>by cases e⟩
   rw [←h1]
   cases v<;>first|(simp only [Sem.run,hc,hf];rfl)|exact KB rfl (hv1 _)|exact KB rfl (hv2 _)
 |new o k ih=>
   intro S S' x w h ho hS hn
   simp only [fe] at h
   split at h
   ·rename_i c T hu
    have hn':=hn hu
    have gG:aP β (S.ay++[.aD n c.toList T]) (w.alloc (.cells c T (0,0))):=hS.new (F:=λk=>k=n) ⟨by rw [hn'];exact heap_alloc_new w _,λ_=>Iff.rfl⟩ ((cL.refl _ _).alloc _) (λk e=>by rw [e,hn'];exact N6 _)
    obtain⟨w',h1,h2⟩:=ih _ _ _ _ (w.alloc (.cells c T (0,0))) h ho gG (λe=>by cases e)
    refine⟨w',?_,h2.1,h2.2.1,λe=>by cases e⟩
    rw [←h1,hn']
    rfl
   cases h
 |shape r k ih=>
   intro S S' x w h ho hS hn
   simp only [fe] at h
   repeat' split at h
   all_goals first|(cases h;done)|skip
   rename_i b cs T hp
   have hb:r=b:=ho _ (uo _ _ _ _ h _ T5)
   obtain⟨F,hF⟩:=hS.get hp
   have hc:w.shape? r=some (T,cs.length):=by simp [World.shape?,hb,hF.1]
   obtain⟨w',h1,h2⟩:=ih _ _ _ _ w h ho hS hn
   exact⟨w',by simp only [Sem.run,hc];exact h1,h2⟩
 |frozen a k ih=>
   intro S S' x w h ho hS hn
   simp only [fe] at h
   repeat' split at h
   all_goals first|(cases h;done)|skip
   rename_i b cs T hp
   have hb:a.block=b:=ho _ (uo _ _ _ _ h _ T5)
   obtain⟨F,hF⟩:=hS.get hp
   have hc:w.frozen? a=false:=by simp [World.frozen?,hb,hF.1]
   obtain⟨w',h1,h2⟩:=ih _ _ _ _ w h ho hS hn
   exact⟨w',by simp only [Sem.run,hc];exact h1,h2⟩
 |program k ih=>intro S S' x w h ho hS hn;simp only [fe] at h;exact ih _ _ _ _ w h ho hS hn
 |mark m k ih=>intro S S' x w h ho hS hn;simp only [fe] at h;exact ih _ _ _ w h ho hS hn
 |freeze a m k ih=>intro S S' x w h;simp only [fe] at h;cases h
 |getObj r k ih=>intro S S' x w h;simp only [fe] at h;cases h
 |setObj r o k ih=>intro S S' x w h;simp only [fe] at h;cases h
 |choose q k ih=>intro S S' x w h;simp only [fe] at h;cases h
 |sys c k ih=>intro S S' x w h;simp only [fe] at h;cases h
 |halt e=>intro S S' x w h;simp only [fe] at h;cases h
end sound
structure OH where
 hs:List Hint:=[]
 num:Option Nat:=none
 agG:Option Nat:=none
 base:Option Addr:=none
 conv:Option Value:=none
def o_:OH:=⟨[],none,none,none,none⟩
def bG (A:Option Addr):Nat:=match A with
 |some a=>a.block
 |none=>0
def bE (A:Option Addr):Nat:=match A with
 |some a=>a.off
 |none=>0
def C8 (P:Program) (β:Bs) (n:Nat) (ro:Bool) (ev:Operand->Value) (o:Oper) (h:OH) (S:SS):Option (Value×SS):=
 match h.num with
 |none=>
   match fe P β n ro (execOp ev o) {S with hints:=h.hs} with
   |some (.value v,S')=>some (v,S')
   |some (.skip,S')=>some (undef,S')
   |_=>none
 |some m=>
   match o.op with
   |.indexAddr t x ix=>
     match P.underlying t with
     |some (.slice e)=>
       match P.info? e with
       |some i=>
         match ev x with
         |.slice A len _=>
           match ev ix with
           |.int _ z=>
             match h.base with
             |some a=>some (.pointer (some ⟨a.block,a.off+m*i.size,none⟩),{S with eT:=(z=(m:Int))::(m<len)::(a.spot=none)::(A=some a)::S.eT})
             |none=>
               match A with
               |some a=>some (.pointer (some ⟨a.block,a.off+m*i.size,none⟩),{S with eT:=(z=(m:Int))::(m<len)::(a.spot=none)::S.eT})
               |none=>none
           |_=>none
         |_=>none
       |none=>none
     |_=>none
   |.index t x ix=>
     match P.underlying t with
     |some .string=>
       match ev x with
       |.string s=>
         match ev ix with
         |.int _ z=>some (.int .u8 (s.data.getD m 0).toNat,{S with eT:=(z=(m:Int))::(m<s.size)::S.eT})
         |_=>none
       |_=>none
     |_=>none
   |.slice t x lo hi mx=>
     match mx with
     |some _=>none
     |none=>
     match P.underlying t with
     |some .string=>
       match ev x with
       |.string s=>
         match lo,hi with
         |none,some hv=>
           match ev hv with
           |.int _ z=>some (.string (s.extract 0 m),{S with eT:=(z=(m:Int))::(m<=s.size)::S.eT})
           |_=>none
         |some lv,none=>
           match ev lv with
           |.int _ z=>some (.string (s.extract m s.size),{S with eT:=(z=(m:Int))::(m<=s.size)::S.eT})
           |_=>none
         |some lv,some hv=>
           match h.agG with
           |some m2=>
             match ev lv with
             |.int _ y=>
               match ev hv with
               |.int _ z=>some (.string (s.extract m2 m),{S with eT:=(z=(m:Int))::(y=(m2:Int))::(m<=s.size)::(m2<=m)::S.eT})
               |_=>none
             |_=>none
           |none=>none
         |none,none=>none
       |_=>none
     |some (.slice e)=>
       match P.info? e with
       |some i=>
         match ev x with
         |.slice A len cap=>
           match lo,hi with
           |none,some hv=>
             match ev hv with
             |.int _ z=>some (.slice A m cap,{S with eT:=(z=(m:Int))::(m<=cap)::S.eT})
             |_=>none
           |some lv,none=>
             match ev lv with
             |.int _ z=>
               match h.base with
               |some a=>some (.slice (some ⟨a.block,a.off+m*i.size,none⟩) (len-m) (cap-m),{S with eT:=(z=(m:Int))::(m<=len)::(m<cap)::(a.spot=none)::(A=some a)::S.eT})
               |none=>
                 match A with
                 |some a=>some (.slice (some ⟨a.block,a.off+m*i.size,none⟩) (len-m) (cap-m),{S with eT:=(z=(m:Int))::(m<=len)::(m<cap)::(a.spot=none)::S.eT})
                 |none=>none
             |_=>none
           |_,_=>none
         |_=>none
       |none=>none
     |_=>none
   |_=>none
def zq (P:Program) (β:Bs) (n:Nat) (ro:Bool) (ev:Operand->Value) (o:Oper) (h:OH) (S:SS):Option (Value×SS):=
 match C8 P β n ro ev o h S with
 |some (v,S')=>
   match h.conv with
   |none=>some (v,S')
   |some v'=>some (v',{S' with eT:=(v=v')::S'.eT})
 |none=>none
def sB (P:Program) (ev:Operand->Value) (o:Oper) (w:World) (v:Value) (w':World):Prop:=
 (execOp ev o).run P w=.ok (.value v) w'\/(v=undef/\(execOp ev o).run P w=.ok .skip w')
theorem sx {P:Program} {e:TypeId} {i:TypeInfo} (h:P.info? e=some i) (w:World):(sizeOf e).run P w=.ok i.size w:=by
 have h1:sizeOf e=.program λp=>(match p.info? e with|some i=>Sem.pure i|none=>stuck "no such type").bind λi=>.pure i.size:=rfl
 rw [h1]
 simp only [Sem.run,h]
 rfl
section zq
variable {P:Program} {β:Bs} {n:Nat} {ro:Bool} {ev:Operand->Value} {o:Oper} {h:OH} {S S':SS} {v:Value}
theorem VN (hr:C8 P β n ro ev o h S=some (v,S')):∀p,p∈S.eT->p∈S'.eT:=by
 intro p hp
 unfold C8 at hr
 repeat' split at hr
 all_goals grind [uo]
theorem GJ {w:World} (hr:C8 P β n ro ev o h S=some (v,S')) (ho:∀p,p∈S'.eT->p) (hS:aP β S.ay w) (hn:S.used=false->n=w.heap.size) :
 ∃w',sB P ev o w v w'/\aP β S'.ay w'/\(S'.used=false->n=w'.heap.size)/\(ro=true->w'=w/\S'.ay=S.ay):=by
 unfold C8 at hr
 repeat' split at hr
 all_goals first|(cases hr;done)|skip
 ·rename_i h0;cases hr
  obtain⟨w',h1,h2⟩:=vr _ _ _ _ w h0 ho hS hn
  exact⟨w',.inl h1,h2⟩
 ·rename_i h0;cases hr
  obtain⟨w',h1,h2⟩:=vr _ _ _ _ w h0 ho hS hn
  exact⟨w',.inr ⟨rfl,h1⟩,h2⟩
 ·rename_i m _ _ t x ix cD _ e hu _ i hi _ A len cap hx _ k z fT _ a _
  cases hr
  have e1:z=(m:Int):=ho _ nh
  have e2:m<len:=ho _ nh
  have e3:a.spot=none:=ho _ nh
  have e4:A=some a:=ho _ nh
  subst e4
  refine⟨w,.inl ?_,hS,hn,λ_=>⟨rfl,rfl⟩⟩
  have ea:a.add (m*i.size)=⟨a.block,a.off+m*i.size,none⟩:=by
   unfold Addr.add
   split
   ·rename_i h0;cases a;simp_all
   rfl
  obtain⟨dst,op,type,pos,after,guard⟩:=o
  cases cD
  subst e1
  have h1:(underlying t).run P w=.ok (.slice e) w:=run_underlying hu w
  have h2:(sizeOf e).run P w=.ok i.size w:=sx hi w
  simp [execOp,Instr.indexAt,hx,fT,go_sem,h1,h2,e2,ea]
 ·rename_i m _ _ t x ix cD _ e hu _ i hi _ len cap _ k z fT _ _ _ a hx
  cases hr
  have e1:z=(m:Int):=ho _ nh
  have e2:m<len:=ho _ nh
  have e3:a.spot=none:=ho _ nh
  refine⟨w,.inl ?_,hS,hn,λ_=>⟨rfl,rfl⟩⟩
  have ea:a.add (m*i.size)=⟨a.block,a.off+m*i.size,none⟩:=by
   unfold Addr.add
   split
   ·rename_i h0;cases a;simp_all
   rfl
  obtain⟨dst,op,type,pos,after,guard⟩:=o
  cases cD
  subst e1
  have h1:(underlying t).run P w=.ok (.slice e) w:=run_underlying hu w
  have h2:(sizeOf e).run P w=.ok i.size w:=sx hi w
  simp [execOp,Instr.indexAt,hx,fT,go_sem,h1,h2,e2,ea]
 ·rename_i m _ _ t x ix cD _ hu _ s hx _ k z fT
  cases hr
  have e1:z=(m:Int):=ho _ nh
  have e2:m<s.size:=ho _ nh
  refine⟨w,.inl ?_,hS,hn,λ_=>⟨rfl,rfl⟩⟩
  obtain⟨dst,op,type,pos,after,guard⟩:=o
  cases cD
  subst e1
  have h1:(underlying t).run P w=.ok .string w:=run_underlying hu w
  simp [execOp,Instr.index,hx,fT,go_sem,h1,e2]
  rfl
 ·rename_i _ m _ _ t x mx _ hu _ s hx lo hi hv cD _ k z hz
  cases hr
  have e1:z=(m:Int):=ho _ nh
  have e2:m<=s.size:=ho _ nh
  refine⟨w,.inl ?_,hS,hn,λ_=>⟨rfl,rfl⟩⟩
  have h1:(underlying t).run P w=.ok .string w:=run_underlying hu w
  obtain⟨dst,op,type,pos,after,guard⟩:=o
  cases cD
  subst e1
  simp [execOp,Instr.sliceAt,Instr.slice,Instr.sliceBounds,Instr.sliceBound,asIntOf,hx,hz,go_sem,h1,e2]
 ·rename_i _ m _ _ t x mx _ hu _ s hx lo hi lv cD _ k z hz
  cases hr
  have e1:z=(m:Int):=ho _ nh
  have e2:m<=s.size:=ho _ nh
  refine⟨w,.inl ?_,hS,hn,λ_=>⟨rfl,rfl⟩⟩
  have h1:(underlying t).run P w=.ok .string w:=run_underlying hu w
  obtain⟨dst,op,type,pos,after,guard⟩:=o
  cases cD
  subst e1
  simp [execOp,Instr.sliceAt,Instr.slice,Instr.sliceBounds,Instr.sliceBound,asIntOf,hx,hz,go_sem,h1,e2]
 ·rename_i _ m _ _ t x mx _ hu _ s hx lo hi lv hv cD _ m2 hm2 _ k y hy _ k' z hz
  cases hr
  have e1:z=(m:Int):=ho _ nh
  have e1':y=(m2:Int):=ho _ nh
  have e2:m<=s.size:=ho _ nh
  have e3:m2<=m:=ho _ nh
  refine⟨w,.inl ?_,hS,hn,λ_=>⟨rfl,rfl⟩⟩
  have h1:(underlying t).run P w=.ok .string w:=run_underlying hu w
  obtain⟨dst,op,type,pos,after,guard⟩:=o
  cases cD
  subst e1
  subst e1'
  simp [execOp,Instr.sliceAt,Instr.slice,Instr.sliceBounds,Instr.sliceBound,asIntOf,hx,hy,hz,go_sem,h1,e2,e3]
 ·rename_i _ m _ _ t x mx _ e hu _ i hi _ A len cap hx lo hi' hv cD _ k z hz
  cases hr
  have e1:z=(m:Int):=ho _ nh
  have e2:m<=cap:=ho _ nh
  refine⟨w,.inl ?_,hS,hn,λ_=>⟨rfl,rfl⟩⟩
  have h1:(underlying t).run P w=.ok (.slice e) w:=run_underlying hu w
  have h2:(sizeOf e).run P w=.ok i.size w:=sx hi w
  obtain⟨dst,op,type,pos,after,guard⟩:=o
  cases cD
  subst e1
  cases A<;>simp [execOp,Instr.sliceAt,Instr.slice,Instr.sliceBounds,Instr.sliceBound,asIntOf,hx,hz,go_sem,h1,h2,e2,Addr.add]
 ·rename_i _ m _ _ t x mx _ e hu _ i hi _ A len cap hx lo hi' lv cD _ k z hz _ a _
  cases hr
  have e1:z=(m:Int):=ho _ nh
  have e2:m<=len:=ho _ nh
  have e3:m<cap:=ho _ nh
  have e4:a.spot=none:=ho _ nh
  have e6:A=some a:=ho _ nh
  subst e6
  refine⟨w,.inl ?_,hS,hn,λ_=>⟨rfl,rfl⟩⟩
  have h1:(underlying t).run P w=.ok (.slice e) w:=run_underlying hu w
  have h2:(sizeOf e).run P w=.ok i.size w:=sx hi w
  have ea:a.add (m*i.size)=⟨a.block,a.off+m*i.size,none⟩:=by
   unfold Addr.add
   split
   ·rename_i h0;cases a;simp_all
   rfl
  have e5:¬cap=m:=d5
  obtain⟨dst,op,type,pos,after,guard⟩:=o
  cases cD
  subst e1
  simp [execOp,Instr.sliceAt,Instr.slice,Instr.sliceBounds,Instr.sliceBound,asIntOf,hx,hz,go_sem,h1,h2,e2,e5,ea]
 rename_i _ m _ _ t x mx _ e hu _ i hi _ len cap lo hi' lv cD _ k z hz _ _ _ a hx
 cases hr
 have e1:z=(m:Int):=ho _ nh
 have e2:m<=len:=ho _ nh
 have e3:m<cap:=ho _ nh
 have e4:a.spot=none:=ho _ nh
 refine⟨w,.inl ?_,hS,hn,λ_=>⟨rfl,rfl⟩⟩
 have h1:(underlying t).run P w=.ok (.slice e) w:=run_underlying hu w
 have h2:(sizeOf e).run P w=.ok i.size w:=sx hi w
 have ea:a.add (m*i.size)=⟨a.block,a.off+m*i.size,none⟩:=by
  unfold Addr.add
  split
  ·rename_i h0;cases a;simp_all
  rfl
 have e5:¬cap=m:=d5
 obtain⟨dst,op,type,pos,after,guard⟩:=o
 cases cD
 subst e1
 simp [execOp,Instr.sliceAt,Instr.slice,Instr.sliceBounds,Instr.sliceBound,asIntOf,hx,hz,go_sem,h1,h2,e2,e5,ea]
theorem HT (hr:zq P β n ro ev o h S=some (v,S')):∀p,p∈S.eT->p∈S'.eT:=by
 intro p hp
 grind [zq,VN]
theorem p4 {w:World} (hr:zq P β n ro ev o h S=some (v,S')) (ho:∀p,p∈S'.eT->p) (hS:aP β S.ay w) (hn:S.used=false->n=w.heap.size) :
 ∃w',sB P ev o w v w'/\aP β S'.ay w'/\(S'.used=false->n=w'.heap.size)/\(ro=true->w'=w/\S'.ay=S.ay):=by
 unfold zq at hr
 repeat' split at hr
 all_goals first|(cases hr;done)|skip
 ·grind [GJ]
 rename_i v0 S0 h0 _ v' _
 cases hr
 have e:v0=v:=ho _ T5
 grind [GJ]
theorem YS (hr:C8 P β n true ev o h S=some (v,S')):S'.ay=S.ay/\S'.used=S.used:=by
 unfold C8 at hr
 repeat' split at hr
 all_goals first|(cases hr;done)|skip
 ·rename_i h0;cases hr;(have h':=RV _ _ _ _ h0;exact h')
 ·rename_i h0;cases hr;(have h':=RV _ _ _ _ h0;exact h')
 all_goals (cases hr;exact⟨rfl,rfl⟩)
theorem y8 (hr:zq P β n true ev o h S=some (v,S')):S'.ay=S.ay/\S'.used=S.used:=by
 grind [zq,YS]
end zq
def pH (P:Program) (β:Bs) (n:Nat) (ro:Bool) (N:fP) (ar:Nat->Value) (ops:Array Oper):List OH->Nat->Fr->SS->Option (Nat×Fr×SS)
 |[],k,fr,S=>some (k,fr,S)
 |h::hs,k,fr,S=>
   match ops.toList[k]? with
   |none=>none
   |some o=>
     match Region.wanted o (yF ops N fr ar) with
     |true=>
       match zq P β n ro (fo N fr ar) o h S with
       |some (v,S')=>pH P β n ro N ar ops hs (k+1) (eX fr o.dst v) S'
       |none=>none
     |false=>pH P β n ro N ar ops hs (k+1) (eX fr o.dst undef) S
def nM (P:Program) (β:Bs) (n:Nat) (ro:Bool) (N:fP) (ar:Nat->Value) (ops:Array Oper) (hs:List OH) (k:Nat) (fr:Fr) (ay:List HP) (ax pk:List Nat):Option (Nat×Fr×List HP×List Prop):=
 match pH P β n ro N ar ops hs k fr ⟨[],ay,[],ro⟩ with
 |some (k',bN,S)=>
   match bU pk with
   |true=>
     match cT S.ay pk with
     |some l=>some (k',kO bN ar ax,l,S.eT)
     |none=>none
   |false=>none
 |none=>none
section runs
variable {P:Program} {β:Bs} {n:Nat} {ro:Bool} {N:fP} {ar:Nat->Value} {ops:Array Oper}
theorem xL:∀{hs:List OH} {k k':Nat} {fr bN:Fr} {S S':SS},pH P β n ro N ar ops hs k fr S=some (k',bN,S')->∀p,p∈S.eT->p∈S'.eT
 |[],k,k',fr,bN,S,S',h,p,hp=>by cases h;exact hp
 |h::hs,k,k',fr,bN,S,S',hr,p,hp=>by
   unfold pH at hr
   repeat' split at hr
   all_goals first|(cases hr;done)|skip
   ·rename_i h0;exact xL hr p (HT h0 p hp)
   exact xL hr p hp
theorem drop_cons {ops:Array Oper} {k:Nat} {o:Oper} (h:ops.toList[k]?=some o):ops.toList.drop k=o::ops.toList.drop (k+1):=by
 have hk:=dH h
 rw [aiR hk]
 rw [T6 hk] at h
 cases h
 rfl
theorem p8 {o:Oper} {a:Act} {w w':World} {v:Value} {K:Act->World->Prop} {Q:Exit->Act->World->Prop} (h:sB P a.eval o w v w') (hk:K (a.put o.dst v) w'):o.wp P a w K Q:=by
 unfold Oper.wp
 rcases h with h|⟨rfl,h⟩
 ·rw [h];exact hk
 rw [h];exact hk
theorem Ci {Q:Exit->Act->World->Prop}:∀{hs:List OH} {k k':Nat} {fr bN:Fr} {S S':SS} {w:World},pH P β n ro N ar ops hs k fr S=some (k',bN,S')->(∀p,p∈S'.eT->p)->aP β S.ay w->(S.used=false->n=w.heap.size) →
 (∀w',aP β S'.ay w'->wpList P ops Q (ops.toList.drop k') (fk N bN ar) w')->wpList P ops Q (ops.toList.drop k) (fk N fr ar) w
 |[],k,k',fr,bN,S,S',w,h,ho,hS,hn,hK=>by cases h;exact hK w hS
 |h::hs,k,k',fr,bN,S,S',w,hr,ho,hS,hn,hK=>by
   unfold pH at hr
   split at hr
   ·cases hr
   rename_i o hget
   rw [drop_cons hget]
   unfold wpList
   have hw:Region.wanted o (yielded ops (fk N fr ar).tmps)=Region.wanted o (yF ops N fr ar):=by
    have:yielded ops (fk N fr ar).tmps=yF ops N fr ar:=funext (Np ops N fr ar)
    rw [this]
   rw [hw]
   split at hr
   ·rename_i VO
    rw [t8 VO]
    split at hr
    ·rename_i v S1 h0
     obtain⟨w',h1,h2,h3,_⟩:=p4 h0 (λp hp=>ho p (xL hr p hp)) hS hn
     refine .inl (p8 (v:=v) (w':=w') (by rw [iY];exact h1) ?_)
     rw [gS]
     exact Ci hr ho h2 h3 hK
    cases hr
   rename_i hwf
   rw [nw (by simp [hwf])]
   rw [gS]
   exact Ci hr ho hS hn hK
theorem Cj {Q:Act->Prop}:∀{hs:List OH} {k k':Nat} {fr bN:Fr} {S S':SS},pH P β n true N ar ops hs k fr S=some (k',bN,S')->(∀p,p∈S'.eT->p)->S.used=true →
 (S'.ay=S.ay->wpQuiet P ops (aP β S.ay) Q (ops.toList.drop k') (fk N bN ar))->wpQuiet P ops (aP β S.ay) Q (ops.toList.drop k) (fk N fr ar)
 |[],k,k',fr,bN,S,S',h,ho,hu,hK=>by cases h;exact hK rfl
 |h::hs,k,k',fr,bN,S,S',hr,ho,hu,hK=>by
   unfold pH at hr
   split at hr
   ·cases hr
   rename_i o hget
   rw [drop_cons hget]
   unfold wpQuiet
   have hw:Region.wanted o (yielded ops (fk N fr ar).tmps)=Region.wanted o (yF ops N fr ar):=by
    have:yielded ops (fk N fr ar).tmps=yF ops N fr ar:=funext (Np ops N fr ar)
    rw [this]
   rw [hw]
   split at hr
   ·rename_i VO
    rw [t8 VO]
    split at hr
    ·rename_i v S1 h0
     obtain⟨e1,e2⟩:=y8 h0
     refine⟨v,λw hS=>?_,?_⟩
     ·obtain⟨w',h1,h2,h3,h4⟩:=p4 h0 (λp hp=>ho p (xL hr p hp)) hS (λe=>by rw [hu] at e;cases e)
      obtain⟨rfl,e⟩:=h4 rfl
      unfold Oper.quietAt
      rw [iY]
      rcases h1 with h1|⟨h1,h1'⟩
      ·rw [h1];exact⟨rfl,rfl⟩
      rw [h1'];exact⟨rfl,h1⟩
     rw [gS,←e1]
     exact Cj hr ho (e2.trans hu) (λe=>by rw [e1];exact hK (e.trans e1))
    cases hr
   rename_i hwf
   rw [nw (by simp [hwf])]
   rw [gS]
   exact Cj hr ho hu hK
end runs
abbrev Post:=Exit->Act->World->Prop
def aB (P:Program) (β:Bs) (N:fP) (ops:Array Oper) (k:Nat) (fr:Fr) (ay:List HP) (Q:Post):Prop:=
 ∀ar w,aP β ay w->wpList P ops Q (ops.toList.drop k) (fk N fr ar) w
def bJ (P:Program) (β:Bs) (N:fP) (ops:Array Oper) (k:Nat) (fr:Fr) (ay:List HP) (Q:Post):Prop:=
 ∀ar,wpQuiet P ops (aP β ay) (λa'=>∀w',aP β ay w'->Q .normal a' w') (ops.toList.drop k) (fk N fr ar)
def av (P:Program) (β:Bs) (N:fP) (c:Code) (fr:Fr) (ay:List HP) (Q:Post):Prop:=
 ∀ar w,aP β ay w->c.wp P Q (fk N fr ar) w
def aF (β:Bs) (N:fP) (Q:Post) (e:Exit) (fr:Fr) (ay:List HP):Prop:=
 ∀ar w,aP β ay w->Q e (fk N fr ar) w
section rules
variable {P:Program} {β:Bs} {N:fP} {ops:Array Oper} {k k':Nat} {fr bN:Fr} {ay gj:List HP} {Q:Post} {eT:List Prop} {c x y:Code} {e:Exit}
theorem HV {n:Nat} {ro:Bool} {ar:Nat->Value} {hs:List OH} {ax pk:List Nat} (h:nM P β n ro N ar ops hs k fr ay ax pk=some (k',bN,gj,eT)) :
 ∃fr1 S,pH P β n ro N ar ops hs k fr ⟨[],ay,[],ro⟩=some (k',fr1,S)/\bU pk=true/\cT S.ay pk=some gj/\bN=kO fr1 ar ax/\S.eT=eT:=by
 grind [nM]
theorem aB.nil (h:ops.toList.drop k=[]) (K:aF β N Q .normal fr ay):aB P β N ops k fr ay Q:=by
 intro ar w hS
 rw [h]
 exact K ar w hS
theorem bJ.nil (h:ops.toList.drop k=[]) (K:aF β N Q .normal fr ay):bJ P β N ops k fr ay Q:=by
 intro ar
 rw [h]
 exact λw' gG=>K ar w' gG
theorem aB.tell {p:Prop} (h:∀w,aP β ay w->p) (K:p->aB P β N ops k fr ay Q):aB P β N ops k fr ay Q:=λar w hS=>K (h w hS) ar w hS
theorem aB.mem (h:∀w,aP β ay w->aP β gj w) (K:aB P β N ops k fr gj Q):aB P β N ops k fr ay Q:=λar w hS=>K ar w (h w hS)
theorem av.mem (h:∀w,aP β ay w->aP β gj w) (K:av P β N c fr gj Q):av P β N c fr ay Q:=λar w hS=>K ar w (h w hS)
theorem aF.mem (h:∀w,aP β ay w->aP β gj w) (K:aF β N Q e fr gj):aF β N Q e fr ay:=λar w hS=>K ar w (h w hS)
theorem av.seq (h:av P β N x fr ay (Exit.then (y.wp P Q) Q)):av P β N (.seq x y) fr ay Q:=λar w hS=>wp_seq (h ar w hS)
theorem aF.next (h:av P β N y fr ay Q):aF β N (Exit.then (y.wp P Q) Q) .normal fr ay:=λar w hS=>h ar w hS
theorem aF.o7 {K:Act->World->Prop} {id:Nat} (h:aF β N Q (.exit id) fr ay):aF β N (Exit.then K Q) (.exit id) fr ay:=λar w hS=>h ar w hS
theorem aF.br {K:Act->World->Prop} (h:aF β N Q .ret fr ay):aF β N (Exit.then K Q) .ret fr ay:=λar w hS=>h ar w hS
theorem av.block {id:Nat} (h:av P β N c fr ay (Exit.inBlock id Q)):av P β N (.block id c) fr ay Q:=λar w hS=>wp_block (h ar w hS)
theorem aF.j8 {id:Nat} (h:aF β N Q .normal fr ay):aF β N (Exit.inBlock id Q) .normal fr ay:=λar w hS=>h ar w hS
theorem aF.fM {id:Nat} (h:aF β N Q .ret fr ay):aF β N (Exit.inBlock id Q) .ret fr ay:=λar w hS=>h ar w hS
theorem aF.wL {id:Nat} (h:aF β N Q .normal fr ay):aF β N (Exit.inBlock id Q) (.exit id) fr ay:=λar w hS=>by
 show (if id=id then Q .normal _ _ else _)
 rw [t8 rfl]
 exact h ar w hS
theorem aF.VP {id id':Nat} (cF:id'≠id) (h:aF β N Q (.exit id') fr ay):aF β N (Exit.inBlock id Q) (.exit id') fr ay:=λar w hS=>by
 show (if id'=id then Q .normal _ _ else Q (.exit id') _ _)
 rw [nw cF]
 exact h ar w hS
theorem av.skip (h:aF β N Q .normal fr ay):av P β N .skip fr ay Q:=λar w hS=>wp_skip (h ar w hS)
theorem av.exit {id:Nat} (h:aF β N Q (.exit id) fr ay):av P β N (.exit id) fr ay Q:=λar w hS=>wp_exit (h ar w hS)
theorem av.ret (h:aF β N Q .ret fr ay):av P β N .ret fr ay Q:=λar w hS=>wp_ret (h ar w hS)
theorem av.cond {o:Operand} {b:Bool} (h:∀ar,fo N fr ar o=.bool b) (ht:b=true->av P β N x fr ay Q) (hf:b=false->av P β N y fr ay Q):av P β N (.cond o x y) fr ay Q:=
 λar w hS=>wp_cond_split (by rw [iY];exact h ar) (λe=>ht e ar w hS) (λe=>hf e ar w hS)
theorem av.afN {o:Operand} (h:∀ar,fo N fr ar o=.bool true) (ht:av P β N x fr ay Q):av P β N (.cond o x y) fr ay Q:=av.cond h (λ_=>ht) (λe=>by cases e)
theorem av.afO {o:Operand} (h:∀ar,fo N fr ar o=.bool false) (hf:av P β N y fr ay Q):av P β N (.cond o x y) fr ay Q:=av.cond h (λe=>by cases e) (λ_=>hf)
theorem av.afP {o:Operand} {p:Prop} [Decidable p] (h:∀ar,fo N fr ar o=.bool (decide p)) (ht:p->av P β N x fr ay Q) (hf:¬p->av P β N y fr ay Q):av P β N (.cond o x y) fr ay Q:=
 av.cond h (λe=>ht (aiQ e)) (λe=>hf (of_decide_eq_false e))
theorem av.region {id:Nat} (h:aB P β N ops 0 fr ay Q):av P β N (.region id ops false) fr ay Q:=λar w hS=>wp_region_list (h ar w hS)
theorem av.FQ {id:Nat} (hm:P.follows .mixedOrders=true) (hB:Region.lexB .any ops=true) (h:bJ P β N ops 0 fr ay Q):av P β N (.region id ops true) fr ay Q:=
 λar _ hS=>wp_region_quiet hm hB (hS.drewN 1) (h ar)
def YT (β:Bs) (N:fP) {ι:Type} (bB:ι->Prop) (fr:ι->Fr) (hp:ι->List HP):Act->World->Prop:=λa w=>∃i,bB i/\∃ar,a=fk N (fr i) ar/\aP β (hp i) w
theorem av.join {ι:Type} (bB:ι->Prop) (bN:ι->Fr) (dh:ι->List HP) (hr:∀i,bB i->av P β N y (bN i) (dh i) Q) (hf:av P β N x fr ay (Exit.then (YT β N bB bN dh) Q)):av P β N (.seq x y) fr ay Q:=
 λar w hS=>wp_seq (aiY (λe a w q=>by
  cases e with
  |normal=>
    obtain⟨i,hi,ar,rfl,hS⟩:=q
    exact hr i hi ar w hS
  |exit id=>exact q
  |goto l=>exact q
  |ret=>exact q
  |panic ch=>exact q
  |outgrown=>exact q) (hf ar w hS))
theorem aF.meet {ι:Type} {bB:ι->Prop} {bN:ι->Fr} {dh:ι->List HP} (i:ι) {ax pk:List Nat} (hi:bB i) (hf:∀ar,kO fr ar ax=bN i) (hn:bU pk=true) (hp:cT ay pk=some (dh i)) :
 aF β N (Exit.then (YT β N bB bN dh) Q) .normal fr ay:=λar w hS=>⟨i,hi,lk fr ar,by rw [nS N fr ar ax,hf ar],hS.pick hn hp⟩
def Turn (β:Bs) (N:fP) {ι:Type} (bB:ι->Prop) (μ:ι->Nat) (fr:ι->Fr) (hp:ι->List HP) (m:Nat):Act->World->Prop:=λa w=>∃i,bB i/\μ i<m/\∃ar,a=fk N (fr i) ar/\aP β (hp i) w
theorem av.loop {ι:Type} (bB:ι->Prop) (μ:ι->Nat) (bN:ι->Fr) (dh:ι->List HP) (i0:ι) {ax pk:List Nat} (h0:bB i0) (hf:∀ar,kO fr ar ax=bN i0) (hn:bU pk=true) (hp:cT ay pk=some (dh i0))
 (round:∀i,bB i->av P β N c (bN i) (dh i) (Exit.then (Turn β N bB μ bN dh (μ i)) Q)):av P β N (.loop c) fr ay Q:=by
 intro ar w hS
 refine wp_loop_ghost (λn a w=>∃i,bB i/\μ i=n/\∃ar,a=fk N (bN i) ar/\aP β (dh i) w) (μ i0) ⟨i0,h0,rfl,lk fr ar,by rw [nS N fr ar ax,hf ar],hS.pick hn hp⟩ ?_
 rintro n a w ⟨i,hi,rfl,ar,rfl,hS⟩
 refine aiY (λe a w q=>?_) (round i hi ar w hS)
 cases e with
 |normal=>
   obtain⟨i',hi',fX,nV,e,gG⟩:=q
   exact⟨μ i',fX,i',hi',rfl,nV,e,gG⟩
 |exit id=>exact q
 |goto l=>exact q
 |ret=>exact q
 |panic ch=>exact q
 |outgrown=>exact q
theorem aF.turn {ι:Type} {bB:ι->Prop} {μ:ι->Nat} {bN:ι->Fr} {dh:ι->List HP} {m:Nat} (i:ι) {ax pk:List Nat} (hi:bB i) (hm:μ i<m) (hf:∀ar,kO fr ar ax=bN i) (hn:bU pk=true) (hp:cT ay pk=some (dh i)) :
 aF β N (Exit.then (Turn β N bB μ bN dh m) Q) .normal fr ay:=λar w hS=>⟨i,hi,hm,lk fr ar,by rw [nS N fr ar ax,hf ar],hS.pick hn hp⟩
end rules
def gy (R:List HP):eG where
 h F w:=∃φ:Nat->Fp,(∀(i:Nat) (p:HP),R[i]?=some p->p.h (φ i) w)/\(∀i j,i<R.length->j<R.length->i≠j->Apart (φ i) (φ j))/\∀k,F k↔∃i,i<R.length/\φ i k
 lt:=by
  rintro F w ⟨φ,h1,h2,h3⟩ k hk
  obtain⟨i,hi,hk⟩:=(h3 k).1 hk
  obtain⟨p,hp⟩:=lq hi
  exact HP.lt (h1 i p hp) k hk
 st:=by
  rintro F w ⟨φ,h1,h2,h3⟩ S w' hk hn
  exact⟨φ,λi p hp=>HP.st (h1 i p hp) hk (λk h=>hn k ((h3 k).2 ⟨i,dH hp,h⟩)),h2,h3⟩
section contracts
variable {P:Program} {β:Bs} {l R:List HP} {w:World}
theorem aP.gy (h:aP β (l++R) w):aP β (l++[.abs (gy R)]) w:=by
 obtain⟨ho,φ,h1,h2,h3⟩:=h
 have hl:(l++R).length=l.length+R.length:=T3
 refine⟨ho,λi=>if i<l.length then φ i else λk=>∃j,j<R.length/\φ (l.length+j) k,λi p hp=>?_,λi hi k hk hO=>?_,λi j hi hj cF k hk jA=>?_⟩
 ·by_cases e:i<l.length
  ·grind
  have hi:i=l.length:=by have:=dH hp;simp at this;omega
  subst hi
  simp at hp
  subst hp
  simp only [ai1,if_false]
  exact⟨λj=>φ (l.length+j),λj p hp=>h1 _ p gn,λi j hi hj cF=>h3 _ _ d5 d5 d5,λk=>Iff.rfl⟩
 ·by_cases e:i<l.length
  ·grind
  simp only [e,if_false] at hk
  grind
 simp at hi hj
 by_cases e1:i<l.length
 ·simp only [e1,if_true] at hk
  by_cases e2:j<l.length
  ·simp only [e2,if_true] at jA
   exact h3 i j d5 d5 cF k hk jA
  simp only [e2,if_false] at jA
  obtain⟨t,ht,jA⟩:=jA
  exact h3 i (l.length+t) d5 d5 d5 k hk jA
 simp only [e1,if_false] at hk
 obtain⟨t,ht,hk⟩:=hk
 by_cases e2:j<l.length
 ·simp only [e2,if_true] at jA
  exact h3 j (l.length+t) d5 d5 d5 k jA hk
 omega
theorem aP.rX (h:aP β (l++[.abs (Go.Proofs.YtfececghhgeapaaGreatDoor.gy R)]) w):aP β (l++R) w:=by
 obtain⟨ho,φ,h1,h2,h3⟩:=h
 have hl:(l++R).length=l.length+R.length:=T3
 have hl':(l++[HP.abs (Go.Proofs.YtfececghhgeapaaGreatDoor.gy R)]).length=l.length+1:=nh
 obtain⟨ψ,q1,q2,q3⟩:=h1 l.length (.abs (Go.Proofs.YtfececghhgeapaaGreatDoor.gy R)) nh
 have hsub:∀i,l.length<=i->i<l.length+R.length->∀k,ψ (i-l.length) k->φ l.length k:=gn
 refine⟨ho,λi=>if i<l.length then φ i else ψ (i-l.length),λi p hp=>?_,λi hi k hk hO=>?_,λi j hi hj cF k hk jA=>?_⟩
 ·grind
 ·grind
 by_cases e1:i<l.length
 ·simp only [e1,if_true] at hk
  by_cases e2:j<l.length
  ·simp only [e2,if_true] at jA
   exact h3 i j d5 d5 cF k hk jA
  simp only [e2,if_false] at jA
  exact h3 i l.length d5 d5 d5 k hk (hsub j d5 d5 k jA)
 simp only [e1,if_false] at hk
 by_cases e2:j<l.length
 ·simp only [e2,if_true] at jA
  exact h3 j l.length d5 d5 d5 k jA (hsub i d5 d5 k hk)
 simp only [e2,if_false] at jA
 exact q2 (i-l.length) (j-l.length) d5 d5 d5 k hk jA
def aU (P:Program) (β:Bs) (f:FuncId) (args:Array Value) (pre:List HP) (post:Value->List HP->Prop):Prop:=
 ∀(R:eG) w,aP β (pre++[.abs R]) w->Calls P f args w λe w'=>∃v l,e=.returned v/\post v l/\aP β (l++[.abs R]) w'
theorem aU.use {f:FuncId} {args:Array Value} {pre:List HP} {post:Value->List HP->Prop} (h:aU P β f args pre post) (hS:aP β (pre++R) w) :
 Calls P f args w λe w'=>∃v l,e=.returned v/\post v l/\aP β (l++R) w':=
 (h _ w hS.gy).mono λ_ _ ⟨v,l,h1,h2,h3⟩=>⟨v,l,h1,h2,h3.rX⟩
theorem aU.mono {f:FuncId} {args:Array Value} {pre:List HP} {post post':Value->List HP->Prop} (h:aU P β f args pre post) (hp:∀v l,post v l->post' v l):aU P β f args pre post':=
 λR w hS=>(h R w hS).mono λ_ _ ⟨v,l,h1,h2,h3⟩=>⟨v,l,h1,hp v l h2,h3⟩
end contracts
def qG (P:Program) (β:Bs) (N:fP) (ar:Nat->Value) (ops:Array Oper) (fr:Fr) (k:Nat):Option (FuncId×Array Value×Option Tmp):=
 match ops.toList[k]? with
 |some o=>
   match Region.wanted o (yF ops N fr ar) with
   |true=>
     match fe P β 0 true (execOp (fo N fr ar) o) ⟨[],[],[],true⟩ with
     |some (.enter f args,_)=>some (f,args,o.dst)
     |_=>none
   |false=>none
 |none=>none
section calls
variable {P:Program} {β:Bs} {N:fP} {ops:Array Oper} {k:Nat} {fr:Fr} {ay R:List HP} {Q:Post} {f:FuncId} {args:Array Value} {d:Option Tmp}
theorem aP.nil {l:List HP} {w:World} (h:aP β l w):aP β [] w:=⟨h.1,λ_ _=>False,λi p hp=>by simp at hp,λi hi=>by simp at hi,λi j hi=>by simp at hi⟩
theorem Ck {ar:Nat->Value} (h:qG P β N ar ops fr k=some (f,args,d)):∃o,ops.toList[k]?=some o/\Region.wanted o (yF ops N fr ar)=true/\o.dst=d ∧
 ∀w,aP β [] w->(execOp (fo N fr ar) o).run P w=.ok (.enter f args) w:=by
 unfold qG at h
 repeat' split at h
 all_goals first|(cases h;done)|skip
 rename_i o h1 _ h2 _ f' args' S' h3
 cases h
 refine⟨o,h1,h2,rfl,λw hS=>?_⟩
 have hob:=LH _ _ _ _ h3 rfl
 obtain⟨w',h4,_,_,h5⟩:=vr _ _ _ _ w h3 (λp hp=>by rw [hob] at hp;cases hp) hS (λe=>by cases e)
 rw [h4,(h5 rfl).1]
theorem gY (o:Oper) (ar:Nat->Value):Region.wanted o (yielded ops (fk N fr ar).tmps)=Region.wanted o (yF ops N fr ar):=by
 have:yielded ops (fk N fr ar).tmps=yF ops N fr ar:=funext (Np ops N fr ar)
 rw [this]
theorem aB.call {pre:List HP} {post:Value->List HP->Prop} {pk:List Nat} (hc:∀ar,qG P β N ar ops fr k=some (f,args,d)) (hs:aU P β f args pre post) (hn:bU pk=true) (hp:cT ay pk=some (pre++R))
 (K:∀v l,post v l->aB P β N ops (k+1) (eX fr d v) (l++R) Q):aB P β N ops k fr ay Q:=by
 intro ar w hS
 obtain⟨o,h1,h2,rfl,h3⟩:=Ck (hc ar)
 rw [drop_cons h1]
 unfold wpList
 rw [gY,t8 h2]
 refine .inl ?_
 unfold Oper.wp
 rw [iY,h3 w hS.nil,Oper.upon_enter]
 refine (hs.use (hS.pick hn hp)).mono ?_
 grind [fk,gS,qG,aU,bU,cT,aB,eX]
theorem bJ.call {pre:List HP} {post:Value->List HP->Prop} {pk VQ:List Nat} {v0:Value} (hc:∀ar,qG P β N ar ops fr k=some (f,args,d)) (hs:aU P β f args pre post) (hn:bU pk=true) (hp:cT ay pk=some (pre++R))
 (hn':bU VQ=true) (dh:cT (pre++R) VQ=some ay) (hv:∀v l,post v l->v=v0/\l=pre)
 (K:bJ P β N ops (k+1) (eX fr d v0) ay Q):bJ P β N ops k fr ay Q:=by
 intro ar
 obtain⟨o,h1,h2,rfl,h3⟩:=Ck (hc ar)
 rw [drop_cons h1]
 unfold wpQuiet
 rw [gY,t8 h2]
 refine⟨v0,λw hS=>?_,?_⟩
 ·unfold Oper.quietAt
  rw [iY,h3 w hS.nil]
  refine⟨rfl,(hs.use (hS.pick hn hp)).mono ?_⟩
  rintro e w' ⟨v,l,rfl,kE,gG⟩
  obtain⟨rfl,rfl⟩:=hv v l kE
  exact⟨rfl,gG.pick hn' dh⟩
 rw [gS]
 exact K ar
end calls
def zu:Nat->List Value->Fr
 |_,[]=>[]
 |k,x::r=>(k,x)::zu (k+1) r
theorem RW (ar:Nat->Value):∀(l:List Value) (k t:Nat),lk (zu k l) ar t=if k<=t/\t<k+l.length then l.getD (t-k) undef else ar t
 |[],k,t=>by simp [zu,lk];intros;omega
 |x::r,k,t=>by
   rw [zu,lV,RW ar r (k+1) t]
   by_cases h:k=t
   ·subst h;simp
   by_cases h2:k+1<=t/\t<k+1+r.length
   ·have e:t-k=(t-(k+1))+1:=d5
    simp only [h,if_false,h2,and_self,if_true]
    rw [t8 (by simp;omega),e]
    simp
   rw [nw h,nw h2,nw (by simp;omega)]
theorem Bd {N:Nat} {args:Array Value} (h:args.toList.length<=N):(⟨args++Array.replicate (N-args.size) undef,[]⟩:Act)=fk ⟨N,[]⟩ (zu 0 args.toList) (λ_=>undef):=by
 unfold fk
 congr 1
 grind [RW]
def zw (β:Bs) (R:eG) (post:Value->List HP->Prop):Ending->World->Prop:=λe w'=>∃v l,e=.returned v/\post v l/\aP β (l++[.abs R]) w'
section ends
variable {P:Program} {β:Bs} {N:fP} {n0:Nat} {fr:Fr} {ay l:List HP} {f:FuncId} {args:Array Value} {pre:List HP} {post:Value->List HP->Prop} {fn:Func} {c:Code} {v:Value} {eT:List Prop}
theorem aU.enter (hf:P.funcs[f]?=some fn) (hb:fn.body=some c) (hN:fn.ntmps=n0) (hl:args.toList.length<=n0) (h:∀R:eG,av P β ⟨n0,[]⟩ c (zu 0 args.toList) (pre++[.abs R]) (bodyPost P fn (zw β R post))):aU P β f args pre post:=by
 intro R w hS
 refine calls_of_wp hf hb ?_
 rw [hN,Bd hl]
 exact h R _ w hS
def rH (P:Program) (β:Bs) (N:fP) (ar:Nat->Value) (fn:Func) (fr:Fr) (ay:List HP) (hints:List Hint):Option (Value×List Prop):=
 match fe P β 0 true (results fn (fk N fr ar).tmps) ⟨hints,ay,[],true⟩ with
 |some (v,S)=>some (v,S.eT)
 |none=>none
theorem vu {ar:Nat->Value} {hints:List Hint} {w:World} (h:rH P β N ar fn fr ay hints=some (v,eT)) (ho:oP eT) (hS:aP β ay w):(results fn (fk N fr ar).tmps).run P w=.ok v w:=by
 unfold rH at h
 split at h
 ·rename_i v' S h0
  cases h
  obtain⟨w',h1,_,_,h2⟩:=vr _ _ _ _ w h0 (λp hp=>ho.mem hp) hS (λe=>by cases e)
  rw [h1,(h2 rfl).1]
 cases h
theorem aF.ret {R:eG} (hints:List Hint) (pk:List Nat) (hr:∀ar,rH P β ⟨n0,[]⟩ ar fn fr ay hints=some (v,eT)) (ho:oP eT) (hn:bU pk=true) (hp:cT ay pk=some (l++[.abs R])) (kE:post v l) :
 aF β ⟨n0,[]⟩ (bodyPost P fn (zw β R post)) .ret fr ay:=
 λar _ hS=>⟨rfl,v,vu (hr ar) ho hS,v,l,rfl,kE,hS.pick hn hp⟩
theorem aF.fin {R:eG} (hints:List Hint) (pk:List Nat) (hr:∀ar,rH P β ⟨n0,[]⟩ ar fn fr ay hints=some (v,eT)) (ho:oP eT) (hn:bU pk=true) (hp:cT ay pk=some (l++[.abs R])) (kE:post v l) :
 aF β ⟨n0,[]⟩ (bodyPost P fn (zw β R post)) .normal fr ay:=
 λar _ hS=>⟨rfl,v,vu (hr ar) ho hS,v,l,rfl,kE,hS.pick hn hp⟩
theorem aU.of1 {A:eG} (h:∀F w,A.h F w->Calls P f args w λe w'=>∃v p,e=.returned v/\post v [p]/\∃F',p.h F' w'/\Step F w F' w'):aU P β f args [.abs A] post:=by
 intro R w hS
 obtain⟨F,hF⟩:=hS.get (i:=0) rfl
 have hS0:=hS
 obtain⟨ho,φ,h1,h2,h3⟩:=hS
 refine (h (φ 0) w (h1 0 _ rfl)).mono ?_
 rintro e w' ⟨v,p,rfl,hp,F',hF',st⟩
 refine⟨v,[p],rfl,hp,?_⟩
 have ho':=ho
 have h4:∀k,φ 1 k->k<w.heap.size:=λk hk=>HP.lt (h1 1 (.abs R) rfl) k hk
 refine⟨ho.keeps st.keeps (λk hk jA=>h2 0 nh k jA hk),λi=>if i=0 then F' else φ 1,λi q hq=>?_,λi hi k hk hO=>?_,λi j hi hj cF k hk jA=>?_⟩
 ·match i,hq with
  |0,hq=>cases hq;exact hF'
  |1,hq=>
    cases hq
    exact HP.st (h1 1 (.abs R) rfl) st.keeps (λk hk jA=>h3 0 1 nh nh nh k jA hk)
 ·by_cases e:i=0
  ·simp only [e,if_true] at hk
   rcases st.grow k hk with e|e
   ·exact h2 0 nh k e hO
   have:=(ho.old k hO).1;have:=ho.size;omega
  grind
 simp at hi hj
 have key:∀k,F' k->φ 1 k->False:=λk hk jA=>by
  rcases st.grow k hk with e|e
  ·exact h3 0 1 nh nh nh k e jA
  have:=h4 k jA;omega
 grind
theorem aU.NG (h:∀w,β.ok w->Calls P f args w λe w'=>∃v p,e=.returned v/\post v [p]/\cL (λ_=>False) w w'/\∃F,p.h F w'/\∀k,F k->w.heap.size<=k):aU P β f args [] post:=by
 intro R w hS
 refine (h w hS.1).mono ?_
 rintro e w' ⟨v,p,rfl,hp,hk,F,hF,hn⟩
 exact⟨v,[p],rfl,hp,(aP.new hS hF hk hn).pick (ax:=[1,0]) rfl rfl⟩
def adL:eG where
 h F _:=∀k,¬F k
 lt h k hk:=(h k hk).elim
 st h _ _ _ _:=h
theorem aU.top {W:World} (h:aU P ⟨(· < W.heap.size),W⟩ f args [] post):Calls P f args W λe w'=>(∃v l,e=.returned v/\post v l)/\Below W.heap.size W w':=by
 have hS:aP ⟨(· < W.heap.size),W⟩ ([]++[.abs adL]) W:=by
  refine⟨⟨rfl,rfl,rfl,N6 _,λk hk=>⟨hk,rfl⟩⟩,λ_ _=>False,λi p hp=>?_,λi _ k hk=>hk.elim,λi j _ _ _ k hk=>hk.elim⟩
  match i,hp with
  |0,hp=>cases hp;exact λ_ h=>h
 refine (h adL W hS).mono ?_
 rintro e w' ⟨v,l,he,hp,gG⟩
 have ho:=gG.1
 exact⟨⟨v,l,he,hp⟩,ho.os,ho.tape,ho.output,ho.size,λk hk=>(ho.old k hk).2⟩
end ends
section slots
variable {P:Program} {β:Bs} {N:fP} {ops:Array Oper} {k:Nat} {fr:Fr} {ay:List HP} {Q:Post} {c x y:Code} {e:Exit} {i:Nat} {v v':Value} {b:Bool}
theorem HX {ar:Nat->Value} (h:lk fr ar i=v):fk N ((i,v)::fr) ar=fk N fr ar:=by
 unfold fk
 have:(List.range N.n).map (lk ((i,v)::fr) ar)=(List.range N.n).map (lk fr ar):=aiG (λt _=>by
  rw [lV]
  by_cases e:i=t
  ·subst e;simp [h]
  simp [e])
 rw [this]
theorem aB.slot (i:Nat) (v v':Value) (h:∀ar,lk fr ar i=v) (hv:v=v') (K:aB P β N ops k ((i,v')::fr) ay Q):aB P β N ops k fr ay Q:=λar w hS=>by
 have:=K ar w hS
 rwa [HX (hv ▸ h ar)] at this
theorem bJ.slot (i:Nat) (v v':Value) (h:∀ar,lk fr ar i=v) (hv:v=v') (K:bJ P β N ops k ((i,v')::fr) ay Q):bJ P β N ops k fr ay Q:=λar=>by
 have:=K ar
 rwa [HX (hv ▸ h ar)] at this
theorem aF.slot (i:Nat) (v v':Value) (h:∀ar,lk fr ar i=v) (hv:v=v') (K:aF β N Q e ((i,v')::fr) ay):aF β N Q e fr ay:=λar w hS=>by
 have:=K ar w hS
 rwa [HX (hv ▸ h ar)] at this
theorem aB.qD (i:Nat) (b:Bool) (h:∀ar,lk fr ar i=.bool b) (ht:b=true->aB P β N ops k ((i,.bool true)::fr) ay Q) (hf:b=false->aB P β N ops k ((i,.bool false)::fr) ay Q):aB P β N ops k fr ay Q:=by
 cases hb:b with
 |true=>exact aB.slot i (.bool b) (.bool true) h (by rw [hb]) (ht hb)
 |false=>exact aB.slot i (.bool b) (.bool false) h (by rw [hb]) (hf hb)
theorem bJ.qD (i:Nat) (b:Bool) (h:∀ar,lk fr ar i=.bool b) (ht:b=true->bJ P β N ops k ((i,.bool true)::fr) ay Q) (hf:b=false->bJ P β N ops k ((i,.bool false)::fr) ay Q):bJ P β N ops k fr ay Q:=by
 cases hb:b with
 |true=>exact bJ.slot i (.bool b) (.bool true) h (by rw [hb]) (ht hb)
 |false=>exact bJ.slot i (.bool b) (.bool false) h (by rw [hb]) (hf hb)
theorem aB.xB (i:Nat) (p:Prop) [Decidable p] (h:∀ar,lk fr ar i=.bool (decide p)) (ht:p->aB P β N ops k ((i,.bool true)::fr) ay Q) (hf:¬p->aB P β N ops k ((i,.bool false)::fr) ay Q):aB P β N ops k fr ay Q:=
 aB.qD i _ h (λe=>ht (aiQ e)) (λe=>hf (of_decide_eq_false e))
theorem bJ.xB (i:Nat) (p:Prop) [Decidable p] (h:∀ar,lk fr ar i=.bool (decide p)) (ht:p->bJ P β N ops k ((i,.bool true)::fr) ay Q) (hf:¬p->bJ P β N ops k ((i,.bool false)::fr) ay Q):bJ P β N ops k fr ay Q:=
 bJ.qD i _ h (λe=>ht (aiQ e)) (λe=>hf (of_decide_eq_false e))
theorem aB.cR (i:Nat) {p p':HP} (hp:ay[i]?=some p) (e:p=p') (K:aB P β N ops k fr (ay.set i p') Q):aB P β N ops k fr ay Q:=by
 subst e
 have:ay.set i p=ay:=by
  apply List.ext_getElem?
  grind
 rwa [this] at K
theorem zx {p:Prop} [Decidable p] (h:(!decide p)=true):¬p:=by simpa using h
theorem yD {p:Prop} [Decidable p] (h:(!decide p)=false):p:=by simpa using h
theorem aB.TJ (i:Nat) (p:Prop) [Decidable p] (h:∀ar,lk fr ar i=.bool (!decide p)) (ht:¬p->aB P β N ops k ((i,.bool true)::fr) ay Q) (hf:p->aB P β N ops k ((i,.bool false)::fr) ay Q):aB P β N ops k fr ay Q:=
 aB.qD i _ h (λe=>ht (zx e)) (λe=>hf (yD e))
theorem bJ.TJ (i:Nat) (p:Prop) [Decidable p] (h:∀ar,lk fr ar i=.bool (!decide p)) (ht:¬p->bJ P β N ops k ((i,.bool true)::fr) ay Q) (hf:p->bJ P β N ops k ((i,.bool false)::fr) ay Q):bJ P β N ops k fr ay Q:=
 bJ.qD i _ h (λe=>ht (zx e)) (λe=>hf (yD e))
theorem av.afQ {o:Operand} {p:Prop} [Decidable p] (h:∀ar,fo N fr ar o=.bool (!decide p)) (ht:¬p->av P β N x fr ay Q) (hf:p->av P β N y fr ay Q):av P β N (.cond o x y) fr ay Q:=
 av.cond h (λe=>ht (zx e)) (λe=>hf (yD e))
end slots
theorem vw {x y:Int} (h:x=y) (lo:-9223372036854775808<=y) (hi:y<=9223372036854775807):Value.int .i64 (IntKind.wrap .i64 x)=Value.int .i64 y:=by
 subst h
 rw [IntWalk.i64_in _ ⟨lo,hi⟩]
theorem abI {k:IntKind} {x y:Int} (h:x=y):Value.int k x=Value.int k y:=by rw [h]
theorem Ek (x y:ByteArray):(x.toList == y.toList)=decide (x=y):=by
 rw [←beq_toListBytes]
 obtain⟨⟨x⟩⟩:=x
 obtain⟨⟨y⟩⟩:=y
 show ((⟨x⟩:Array UInt8) == ⟨y⟩)=_
 by_cases h:x=y
 ·subst h;simp
 simp [h]
theorem qH (x y:ByteArray):Value.bool (x.toList == y.toList)=Value.bool (decide (x=y)):=by rw [Ek]
theorem IY (x y:ByteArray):Value.bool (!(x.toList == y.toList))=Value.bool (!decide (x=y)):=by rw [Ek]
end
section
open Go.RowKit Go.Maps
def iZ (N:fP) (ar:Nat->Value) (ops:Array Oper) (fr:Fr) (k:Nat):Option (Op×Option Tmp):=
 match ops.toList[k]? with
 |some o=>
   match Region.wanted o (yF ops N fr ar) with
   |true=>some (o.op,o.dst)
   |false=>none
 |none=>none
theorem jd {N:fP} {ar:Nat->Value} {ops:Array Oper} {fr:Fr} {k:Nat} {op:Op} {d:Option Tmp} (h:iZ N ar ops fr k=some (op,d)) :
 ∃o,ops.toList[k]?=some o/\Region.wanted o (yF ops N fr ar)=true/\o.op=op/\o.dst=d:=by
 grind [iZ]
def bM (P:Program) (K:TypeId) (b:Nat) (f:Lit->Option Value) (n:Nat):eG where
 h F w:=kN P K w b f n/\∀k,F k↔k=b
 lt:=by rintro F w ⟨h,hF⟩ k hk;rw [(hF k).1 hk];exact h.lt
 st:=by rintro F w ⟨h,hF⟩ S w' hk hn;exact⟨h.keeps hk (hn b ((hF b).2 rfl)),hF⟩
section maps
variable {P:Program} {β:Bs} {N:fP} {ops:Array Oper} {k:Nat} {fr:Fr} {ay gj:List HP} {Q:Post} {d:Option Tmp} {op:Op} {v:Value}
theorem aB.nH (cD:∀ar,iZ N ar ops fr k=some (op,d)) (h:∀(o:Oper) ar w,o.op=op->aP β ay w->∃w',sB P (fo N fr ar) o w v w'/\aP β gj w')
 (K:aB P β N ops (k+1) (eX fr d v) gj Q):aB P β N ops k fr ay Q:=by
 intro ar w hS
 obtain⟨o,h1,h2,h3,rfl⟩:=jd (cD ar)
 obtain⟨w',h4,h5⟩:=h o ar w h3 hS
 rw [drop_cons h1]
 unfold wpList
 grind [gY,p8,iY,gS,iZ,aP,sB,fo,aB,eX]
theorem aB.Kr {ι:Type} {v:ι->Value} {dh:ι->List HP} (cD:∀ar,iZ N ar ops fr k=some (op,d)) (h:∀(o:Oper) ar w,o.op=op->aP β ay w->∃i w',sB P (fo N fr ar) o w (v i) w'/\aP β (dh i) w')
 (K:∀i,aB P β N ops (k+1) (eX fr d (v i)) (dh i) Q):aB P β N ops k fr ay Q:=by
 intro ar w hS
 obtain⟨o,h1,h2,h3,rfl⟩:=jd (cD ar)
 obtain⟨i,w',h4,h5⟩:=h o ar w h3 hS
 rw [drop_cons h1]
 unfold wpList
 grind [gY,p8,iY,gS,iZ,aP,sB,fo,aB,eX]
theorem bJ.nH (cD:∀ar,iZ N ar ops fr k=some (op,d)) (h:∀(o:Oper) ar w,o.op=op->aP β ay w->sB P (fo N fr ar) o w v w)
 (K:bJ P β N ops (k+1) (eX fr d v) ay Q):bJ P β N ops k fr ay Q:=by
 intro ar
 obtain⟨o,h1,h2,h3,rfl⟩:=jd (cD ar)
 rw [drop_cons h1]
 unfold wpQuiet
 rw [gY,t8 h2]
 refine⟨v,λw hS=>?_,?_⟩
 ·unfold Oper.quietAt
  rw [iY]
  rcases h o ar w h3 hS with h4|⟨h4,h4'⟩
  ·rw [h4];exact⟨rfl,rfl⟩
  rw [h4'];exact⟨rfl,h4⟩
 rw [gS]
 exact K ar
variable {t K E:TypeId} {b n i:Nat} {f:Lit->Option Value} {x ix y:Operand} {key z u:Value} {kl:Lit} {r:Option Value}
theorem bM.get {w:World} (hS:aP β ay w) (hp:ay[i]?=some (.abs (bM P K b f n))):kN P K w b f n:=by
 obtain⟨F,hF⟩:=hS.get hp
 exact hF.1
theorem IZ {w:World} {o:Oper} {ev:Operand->Value} (ho:o.op=.lookup t x ix true) (hm:kN P K w b f n) (hx:ev x=.map (some b)) (fT:ev ix=key) (L:Keyed P K) (ht:P.underlying t=some (.map K E))
 (hz:(zeroValue E).run P w=.ok z w) (mo:keyOf P K key=some kl):sB P ev o w (.tuple #[(f kl).getD z,.bool (f kl).isSome]) w:=by
 have h:=hm.look_ok L ht hz mo
 obtain⟨dst,op,type,pos,after,guard⟩:=o
 cases ho
 refine .inl ?_
 simp only [execOp,hx,fT]
 simp [go_sem,h]
theorem C9 {w:World} {o:Oper} {ev:Operand->Value} (ho:o.op=.lookup t x ix false) (hm:kN P K w b f n) (hx:ev x=.map (some b)) (fT:ev ix=key) (L:Keyed P K) (ht:P.underlying t=some (.map K E))
 (hz:(zeroValue E).run P w=.ok z w) (mo:keyOf P K key=some kl):sB P ev o w ((f kl).getD z) w:=by
 have h:=hm.look L ht hz mo
 obtain⟨dst,op,type,pos,after,guard⟩:=o
 cases ho
 refine .inl ?_
 simp only [execOp,hx,fT]
 simp [go_sem,h]
theorem aB.Be (i:Nat) (cD:∀ar,iZ N ar ops fr k=some (.lookup t x ix true,d)) (hp:ay[i]?=some (.abs (bM P K b f n))) (hx:∀ar,fo N fr ar x=.map (some b)) (fT:∀ar,fo N fr ar ix=key) (L:Keyed P K)
 (ht:P.underlying t=some (.map K E)) (hz:∀w,(zeroValue E).run P w=.ok z w) (mo:keyOf P K key=some kl) (hr:f kl=r) (K':aB P β N ops (k+1) (eX fr d (.tuple #[r.getD z,.bool r.isSome])) ay Q):aB P β N ops k fr ay Q:=by
 subst hr
 exact aB.nH cD (λo ar w ho hS=>⟨w,IZ ho (bM.get hS hp) (hx ar) (fT ar) L ht (hz w) mo,hS⟩) K'
theorem aB.jo (i:Nat) (cD:∀ar,iZ N ar ops fr k=some (.lookup t x ix false,d)) (hp:ay[i]?=some (.abs (bM P K b f n))) (hx:∀ar,fo N fr ar x=.map (some b)) (fT:∀ar,fo N fr ar ix=key) (L:Keyed P K)
 (ht:P.underlying t=some (.map K E)) (hz:∀w,(zeroValue E).run P w=.ok z w) (mo:keyOf P K key=some kl) (hr:f kl=r) (K':aB P β N ops (k+1) (eX fr d (r.getD z)) ay Q):aB P β N ops k fr ay Q:=by
 subst hr
 exact aB.nH cD (λo ar w ho hS=>⟨w,C9 ho (bM.get hS hp) (hx ar) (fT ar) L ht (hz w) mo,hS⟩) K'
theorem bJ.jo (i:Nat) (cD:∀ar,iZ N ar ops fr k=some (.lookup t x ix false,d)) (hp:ay[i]?=some (.abs (bM P K b f n))) (hx:∀ar,fo N fr ar x=.map (some b)) (fT:∀ar,fo N fr ar ix=key) (L:Keyed P K)
 (ht:P.underlying t=some (.map K E)) (hz:∀w,(zeroValue E).run P w=.ok z w) (mo:keyOf P K key=some kl) (hr:f kl=r) (K':bJ P β N ops (k+1) (eX fr d (r.getD z)) ay Q):bJ P β N ops k fr ay Q:=by
 subst hr
 exact bJ.nH cD (λo ar w ho hS=>C9 ho (bM.get hS hp) (hx ar) (fT ar) L ht (hz w) mo) K'
theorem step_map {w w':World} {f':Lit->Option Value} {n':Nat} {F:Fp} (hF:(HP.abs (bM P K b f n)).h F w) (h:kN P K w' b f' n') (hk:cL (·=b) w w'):∃F',(HP.abs (bM P K b f' n')).h F' w'/\Step F w F' w':=
 ⟨F,⟨h,hF.2⟩,hk.mono (λ_ _ e=>(hF.2 _).2 e),λ_ h=>.inl h⟩
theorem aB.qI (i:Nat) (cD:∀ar,iZ N ar ops fr k=some (.mapUpdate t x ix y,d)) (hp:ay[i]?=some (.abs (bM P K b f n))) (hx:∀ar,fo N fr ar x=.map (some b)) (fT:∀ar,fo N fr ar ix=key) (hy:∀ar,fo N fr ar y=u) (L:Keyed P K)
 (ht:P.underlying t=some (.map K E)) (hn:n<maxLen) (mo:keyOf P K key=some kl) {n':Nat} (hn':(if (f kl).isSome then n else n+1)=n') {f':Lit->Option Value} (hf':pZ f kl (some u)=f')
 (K':aB P β N ops (k+1) (eX fr d undef) (ay.set i (.abs (bM P K b f' n'))) Q):aB P β N ops k fr ay Q:=by
 subst hn' hf'
 refine aB.nH cD (λo ar w ho hS=>?_) K'
 obtain⟨F,hF⟩:=hS.get hp
 obtain⟨w',h1,h2,h3⟩:=hF.1.store L ht hn mo u
 refine⟨w',.inr ⟨rfl,?_⟩,hS.set hp (λF hF=>step_map hF h2 h3)⟩
 obtain⟨dst,op,type,pos,after,guard⟩:=o
 cases ho
 simp only [execOp,hx ar,fT ar,hy ar]
 simp [go_sem,h1]
theorem aB.I0 (i:Nat) {ats:Array TypeId} (cD:∀ar,iZ N ar ops fr k=some (.call ⟨.builtin .delete,#[x,ix],ats⟩,d)) (hp:ay[i]?=some (.abs (bM P K b f n))) (hx:∀ar,fo N fr ar x=.map (some b)) (fT:∀ar,fo N fr ar ix=key) (zy:ats=#[t,K]) (L:Keyed P K)
 (ht:P.underlying t=some (.map K E)) (mo:keyOf P K key=some kl) {n':Nat} (hn':(if (f kl).isSome then n-1 else n)=n') {f':Lit->Option Value} (hf':pZ f kl none=f')
 (K':aB P β N ops (k+1) (eX fr d (.tuple #[])) (ay.set i (.abs (bM P K b f' n'))) Q):aB P β N ops k fr ay Q:=by
 subst hn' hf' zy
 refine aB.nH cD (λo ar w ho hS=>?_) K'
 obtain⟨F,hF⟩:=hS.get hp
 obtain⟨w',h1,h2,h3⟩:=hF.1.drop L ht mo o.type
 refine⟨w',.inl ?_,hS.set hp (λF hF=>step_map hF h2 h3)⟩
 obtain⟨dst,op,type,pos,after,guard⟩:=o
 cases ho
 simp only [execOp,resolve,invoke,builtin]
 simp [go_sem,hx ar,fT ar,h1]
theorem FR {w:World} {o:Oper} {ev:Operand->Value} {ats:Array TypeId} (ho:o.op=.call ⟨.builtin .len,#[x],ats⟩) (zy:ats=#[t]) (hm:kN P K w b f n) (hx:ev x=.map (some b)) (ht:P.underlying t=some (.map K E)) :
 sB P ev o w (.int .i64 ((n:Nat):Int)) w:=by
 have h:=hm.len ht o.type
 obtain⟨dst,op,type,pos,after,guard⟩:=o
 subst zy
 cases ho
 refine .inl ?_
 simp only [execOp,resolve,invoke,builtin]
 simp [go_sem,hx,h]
theorem bJ.Cx (i:Nat) {ats:Array TypeId} (cD:∀ar,iZ N ar ops fr k=some (.call ⟨.builtin .len,#[x],ats⟩,d)) (hp:ay[i]?=some (.abs (bM P K b f n))) (hx:∀ar,fo N fr ar x=.map (some b)) (zy:ats=#[t]) (ht:P.underlying t=some (.map K E))
 (K':bJ P β N ops (k+1) (eX fr d (.int .i64 ((n:Nat):Int))) ay Q):bJ P β N ops k fr ay Q:=
 bJ.nH cD (λ_ ar _ ho hS=>FR ho zy (bM.get hS hp) (hx ar) ht) K'
theorem aB.sX (cD:∀ar,iZ N ar ops fr k=some (.makeMap t none,d)) (P':Program) (hP:P'=P) (K:TypeId) (K':∀b,aB P β N ops (k+1) (eX fr d (.map (some b))) (ay++[.abs (bM P K b (λ_=>none) 0)]) Q):aB P β N ops k fr ay Q:=by
 subst hP
 refine aB.Kr (ι:=Nat) (v:=λb=>.map (some b)) (dh:=λb=>ay++[.abs (bM P' K b (λ_=>none) 0)]) cD (λo ar w ho hS=>⟨w.heap.size,w.alloc (.map #[] 0),.inl ?_,?_⟩) K'
 ·obtain⟨dst,op,type,pos,after,guard⟩:=o
  cases ho
  rfl
 exact hS.new (F:=λk=>k=w.heap.size) ⟨kN.made w P' K,λ_=>Iff.rfl⟩ ((cL.refl _ _).alloc _) (λk e=>Nat.le_of_eq e.symm)
end maps
end
section
open Go.RowKit
def aI (e:TypeId) (size:Nat) (A:Option Addr) (n cap:Nat) (xs:List Value):eG where
 h F w:=w.ownsRow 0 e size (.slice A n cap) n xs/\∀k,F k↔(Value.slice A n cap).ownBlock=some k
 lt:=by rintro F w ⟨h,hF⟩ k hk;exact (h.lt k ((hF k).1 hk)).2
 st:=by rintro F w ⟨h,hF⟩ S w' hk hn;exact⟨hk.ownsRow h (λk e=>hn k ((hF k).2 e)),hF⟩
theorem aI.len {e:TypeId} {size:Nat} {A:Option Addr} {n cap:Nat} {xs:List Value} {F:Fp} {w:World} (h:(HP.abs (aI e size A n cap xs)).h F w):xs.length=n*size/\n<=cap:=by
 obtain⟨⟨h1,h2⟩,_⟩:=h
 grind
theorem aI.head {e:TypeId} {size:Nat} {A:Option Addr} {n cap:Nat} {xs:List Value} {F:Fp} {w:World} (h:(HP.abs (aI e size A n cap xs)).h F w) (hn:0<n):∃g,A=some ⟨g,0,none⟩:=by
 obtain⟨⟨h1,h2⟩,_⟩:=h
 grind
theorem aI.cell {e:TypeId} {size:Nat} {g n cap j:Nat} {xs:List Value} {u:Value} (hj:xs[j]?=some u):∀F w,(aI e size (some ⟨g,0,none⟩) n cap xs).h F w->w.cell? ⟨g,j,none⟩=some u:=by
 rintro F w ⟨h,_⟩
 obtain⟨h1,h2⟩:=h
 rcases h2 with ⟨e,_⟩|⟨g',cp,cur,e,_,hb,_,_,hs,ht⟩
 ·cases e
 cases e
 have fX:=dH hj
 have:cur.toList[j]?=some u:=by
  grind
 simpa [World.cell?,hb] using this
theorem aI.nil (e:TypeId) (size:Nat) (w:World):(HP.abs (aI e size none 0 0 [])).h (λ_=>False) w:=
 ⟨⟨nh,.inl ⟨rfl,rfl⟩⟩,λk=>by simp [Value.ownBlock]⟩
theorem YU {α:Type} {l:List α} {i:Nat} {x:α} (h:l[i]?=some x):l.set i x=l:=by
 apply List.ext_getElem?
 grind
section rows
variable {P:Program} {β:Bs} {N:fP} {ops:Array Oper} {k:Nat} {fr:Fr} {ay gj:List HP} {Q:Post} {d:Option Tmp} {op:Op} {v:Value} {c:Code}
theorem aP.nN {e:TypeId} {size:Nat} {w:World} (h:aP β ay w):aP β (ay++[.abs (aI e size none 0 0 [])]) w:=
 aP.new h (aI.nil e size w) (cL.refl _ _) (λ_ h=>h.elim)
theorem YV {b:Nat} {cs:List Value} {e:TypeId} {size n:Nat} {w:World} (hl:cs.length=n*size) (hm:n<=maxLen):∀F,(HP.aD b cs e).h F w->∃F',(HP.abs (aI e size (some ⟨b,0,none⟩) n n cs)).h F' w/\Step F w F' w:=by
 rintro F ⟨h1,h2⟩
 refine⟨F,⟨⟨hl,.inr ⟨b,n,⟨cs⟩,rfl,L4 _,h1,N6 _,hm,by simpa using hl,?_⟩⟩,λk=>?_⟩,Step.refl F w⟩
 ·rw [←hl];exact aiu
 rw [h2 k]
 simp [Value.ownBlock,eq_comm]
theorem aP.nW {b i:Nat} {cs:List Value} {e:TypeId} {w:World} (size n:Nat) (hp:ay[i]?=some (.aD b cs e)) (hl:cs.length=n*size) (hm:n<=maxLen) (h:aP β ay w):aP β (ay.set i (.abs (aI e size (some ⟨b,0,none⟩) n n cs))) w:=
 h.set hp (YV hl hm)
theorem gq {b j:Nat} {news:List Value} {T:TypeId} (hp:ay[j]?=some (.aD b news T)):∀w,aP β ay w->((some ⟨b,0,none⟩:Option Addr)=none/\news.length=0)\/∃ad,(some ⟨b,0,none⟩:Option Addr)=some ad/\∀j u,news[j]?=some u->w.cell? (ad.add j)=some u:=by
 intro w hS
 obtain⟨F,hF⟩:=hS.get hp
 refine .inr ⟨_,rfl,λj u hj=>?_⟩
 have ea:(⟨b,0,none⟩:Addr).add j=⟨b,j,none⟩:=by unfold Addr.add;split<;>simp_all
 rw [ea]
 exact (lu hF.1 rfl rfl hj).1
theorem aB.append (i:Nat) {t e:TypeId} {z:Value} {size bytes n cap m c':Nat} {A A':Option Addr} {xs news:List Value} {s x:Operand} {ats:Array TypeId}
 (cD:∀ar,iZ N ar ops fr k=some (.call ⟨.builtin .append,#[s,x],ats⟩,d)) (zy:ats=#[t,t]) (hp:ay[i]?=some (.abs (aI e size A n cap xs))) (hs:∀ar,fo N fr ar s=.slice A n cap) (hx:∀ar,fo N fr ar x=.slice A' m c')
 (ht:P.underlying t=some (.slice e)) (rI:(P.info? e).map (λi=>(i.zero,i.size,i.bytes))=some (some z,size,bytes)) (hzs:z.cells.size=size) (eV:0<size)
 (hl:news.length=m*size) (h1:∀u∈news,u.oneCell'=true) (hsrc:∀w,aP β ay w->(A'=none/\news.length=0)\/∃ad,A'=some ad/\∀j u,news[j]?=some u->w.cell? (ad.add j)=some u)
 (h63:n+m<=maxLen) (hbytes:(n+m)*bytes<=140737488355328)
 (K':∀B cap',aB P β N ops (k+1) (eX fr d (.slice B (n+m) cap')) (ay.set i (.abs (aI e size B (n+m) cap' (xs++news)))) Q):aB P β N ops k fr ay Q:=by
 subst zy
 obtain⟨inf,hi,hz,hsize,hby⟩:∃inf,P.info? e=some inf/\inf.zero=some z/\inf.size=size/\inf.bytes=bytes:=by
  cases h:P.info? e with
  |none=>rw [h] at rI;cases rI
  |some inf=>rw [h] at rI;simp at rI;exact⟨inf,rfl,rI.1,rI.2.1,rI.2.2⟩
 refine aB.Kr (ι:=Option Addr×Nat) (v:=λp=>.slice p.1 (n+m) p.2) (dh:=λp=>ay.set i (.abs (aI e size p.1 (n+m) p.2 (xs++news)))) cD (λo ar w ho hS=>?_) (λp=>K' p.1 p.2)
 obtain⟨F,hF⟩:=hS.get hp
 have jX:=aI.len hF
 have hrun:∀v' w',(Builtin.append_ #[t,t] o.type #[.slice A n cap,.slice A' m c']).run P w=.ok v' w'->sB P (fo N fr ar) o w v' w':=λv' w' h=>by
  obtain⟨dst,op,type,pos,after,guard⟩:=o
  cases ho
  refine .inl ?_
  have h':(Builtin.append_ #[t,t] type #[.slice A n cap,.slice A' m c']).run P w=.ok v' w':=h
  simp only [execOp,resolve,invoke,builtin,hs ar,hx ar,List.map_toArray,aiB,List.map_nil,Sem.run_bind,Sem.run_pure,Result.andThen_ok,h']
 rcases hsrc w hS with ⟨rfl,h0⟩|⟨ad,rfl,hnews⟩
 ·have hm0:m=0:=by
   rw [hl] at h0
   rcases Nat.mul_eq_zero.1 h0 with e|e
   ·exact e
   omega
  subst hm0
  have hn0:news=[]:=aiK h0
  subst hn0
  refine⟨(A,cap),w,hrun _ _ ?_,?_⟩
  ·have hu:=run_underlying ht w
   have h3:=sx hi w
   rw [hsize] at h3
   have h4:(Builtin.append_ #[t,t] o.type #[.slice A n cap,.slice none 0 c']).run P w=.ok (.slice A n cap) w:=by
    cases A<;>simp [Builtin.append_,hu,h3,go_sem,Builtin.lenOf,Builtin.firstCells,jX.2,storeCells]
   simpa using h4
  grind [aI,YU]
 obtain⟨v',w',h2,h3,h4,_,h5⟩:=run_append_own_at (P:=P) w 0 t o.type e inf z size bytes ht hi hz hsize hby hzs eV (.slice A n cap) n xs hF.1 ad m c' news hl hnews h1 h63 hbytes (L4 _)
 have El:∃B cap',v'=.slice B (n+m) cap':=by
  rcases h3.2 with ⟨e,e0⟩|⟨g,cp,cur,e,_⟩
  all_goals grind
 obtain⟨B,cap',rfl⟩:=El
 refine⟨(B,cap'),w',hrun _ _ h2,hS.set hp (λF hF=>⟨λk=>(Value.slice B (n+m) cap').ownBlock=some k,⟨h3,λ_=>Iff.rfl⟩,((cL.refl F w).grown h4 (λk hk=>.inr ((hF.2 k).2 hk))),λk hk=>?_⟩)⟩
 rcases h5 with h5|h5
 ·exact .inl ((hF.2 k).2 (h5 ▸ hk))
 grind
end rows
structure Bs.le (β β':Bs):Prop where
 O:∀k,β.O k->β'.O k
 os:β'.w0.os=β.w0.os
 tape:β'.w0.tape=β.w0.tape
 output:β'.w0.output=β.w0.output
 size:β.w0.heap.size<=β'.w0.heap.size
 old:∀k,β.O k->k<β.w0.heap.size/\β'.w0.heap[k]?=β.w0.heap[k]?
theorem Bs.le.trans {a b c:Bs} (h:a.le b) (g:b.le c):a.le c:=
 ⟨λk hk=>g.O k (h.O k hk),g.os.trans h.os,g.tape.trans h.tape,g.output.trans h.output,Pe h.size g.size,λk hk=>⟨(h.old k hk).1,(g.old k (h.O k hk)).2.trans (h.old k hk).2⟩⟩
def Rd (β:Bs) (a:Addr) (v:Value):Prop:=β.O a.block/\β.w0.cell? a=some v
theorem Rd.le {β β':Bs} {a:Addr} {v:Value} (h:Rd β a v) (dP:β.le β'):Rd β' a v:=
 ⟨dP.O _ h.1,(World.cell?_of_block (w:=β.w0) (dP.old _ h.1).2).trans h.2⟩
theorem Bs.ok.le {β β':Bs} {w:World} (h:β'.ok w) (dP:β.le β'):β.ok w:=
 ⟨h.os.trans dP.os,h.tape.trans dP.tape,h.output.trans dP.output,Pe dP.size h.size,λk hk=>⟨(dP.old k hk).1,(h.old k (dP.O k hk)).2.trans (dP.old k hk).2⟩⟩
theorem aP.I3 {β β':Bs} {l:List HP} {w:World} (dP:β.le β') (h:aP β' l w):aP β l w:=by
 obtain⟨ho,φ,h1,h2,h3⟩:=h
 exact⟨ho.le dP,φ,h1,λi hi k hk hO=>h2 i hi k hk (dP.O k hO),h3⟩
theorem aP.mA {β:Bs} {l l':List HP} {w:World} {p:HP} {i:Nat} {ax:List Nat} (h:aP β l w) (hp:l[i]?=some p) (hn:bU (i::ax)=true) (hl:cT l ax=some l') :
 ∃F,p.h F w/\∃β':Bs,β.le β'/\(∀k,F k->β'.O k)/\β'.w0=w/\aP β' l' w:=by
 have h':=h.pick (ax:=i::ax) (l':=p::l') hn (by simp only [cT,hp,hl])
 obtain⟨ho,φ,h1,h2,h3⟩:=h'
 refine⟨φ 0,h1 0 p rfl,⟨λk=>β.O k\/φ 0 k,w⟩,⟨λk hk=>.inl hk,ho.os,ho.tape,ho.output,ho.size,λk hk=>ho.old k hk⟩,λk hk=>.inr hk,rfl,⟨rfl,rfl,rfl,N6 _,λk hk=>⟨?_,rfl⟩⟩,λj=>φ (j+1),λj q hq=>h1 (j+1) q (by simpa using hq),λj hj k hk hO=>?_,λj1 j2 uL hj2 cF=>h3 _ _ (by simp;omega) (by simp;omega) d5⟩
 ·rcases hk with hk|hk
  ·exact aiq (ho.old k hk).1 ho.size
  exact HP.lt (h1 0 p rfl) k hk
 rcases hO with hO|hO
 ·exact h2 (j+1) (by simp;omega) k hk hO
 exact h3 (j+1) 0 (by simp;omega) nh d5 k hk hO
section rules
variable {P:Program} {β β':Bs} {N:fP} {ops:Array Oper} {k:Nat} {fr:Fr} {ay gj:List HP} {Q:Post} {c:Code} {e:Exit} {p:HP} {i:Nat} {ax:List Nat} {d:Option Tmp}
theorem aB.mA {Φ:Bs->Prop} (i:Nat) (ax:List Nat) (hp:ay[i]?=some p) (hn:bU (i::ax)=true) (hl:cT ay ax=some gj) (GK:∀F w,p.h F w->∀β':Bs,(∀k,F k->β'.O k)->β'.w0=w->Φ β')
 (K:∀β':Bs,β.le β'->Φ β'->aB P β' N ops k fr gj Q):aB P β N ops k fr ay Q:=λar w hS=>by
 obtain⟨F,hF,β',dP,h1,h2,gG⟩:=hS.mA hp hn hl
 exact K β' dP (GK F w hF β' h1 h2) ar w gG
def cq (β:Bs) (A:Option Addr) (xs:List Value):Prop:=∀(j:Nat) (v:Value),xs[j]?=some v->A=some ⟨bG A,bE A,none⟩/\Rd β ⟨bG A,bE A+j,none⟩ v
theorem cq.le {A:Option Addr} {xs:List Value} (h:cq β A xs) (dP:β.le β'):cq β' A xs:=λj v hj=>⟨(h j v hj).1,(h j v hj).2.le dP⟩
theorem cq.gZ {e:TypeId} {size n cap:Nat} {A:Option Addr} {xs:List Value} {F:Fp} {w:World} (h:(HP.abs (aI e size A n cap xs)).h F w) (h1:∀k,F k->β'.O k) (h2:β'.w0=w):cq β' A xs:=by
 intro j v hj
 have fX:=dH hj
 have hl:=aI.len h
 have hn:0<n:=by
  grind
 obtain⟨g,rfl⟩:=aI.head h hn
 refine⟨rfl,h1 g ((h.2 g).2 rfl),?_⟩
 rw [h2]
 have:=aI.cell hj F w h
 simpa [bG,bE] using this
theorem aI.I4 {e:TypeId} {size:Nat} {A:Option Addr} {n cap:Nat} {xs:List Value} {F:Fp} {w:World} (h:(HP.abs (aI e size A n cap xs)).h F w) (hn:0<n):A=some ⟨bG A,bE A,none⟩/\bE A=0:=by
 obtain⟨g,rfl⟩:=aI.head h hn
 exact⟨rfl,rfl⟩
theorem Cl {e:TypeId} {size n cap j g:Nat} {xs:List Value} {u:Value} {w:World} (_:j<xs.length):∀F,(HP.abs (aI e size (some ⟨g,0,none⟩) n cap xs)).h F w →
 ∃F',(HP.abs (aI e size (some ⟨g,0,none⟩) n cap (xs.set j u))).h F' (w.setCell ⟨g,j,none⟩ u)/\Step F w F' (w.setCell ⟨g,j,none⟩ u):=by
 rintro F ⟨⟨h1,h2⟩,hF⟩
 rcases h2 with ⟨e,_⟩|⟨g',cp,cur,e,_,hb,dP,hm,hs,ht⟩
 ·cases e
 cases e
 refine⟨F,⟨⟨by simpa using h1,.inr ⟨g,cap,cur.setIfInBounds j u,rfl,L4 _,?_,dP,hm,by simpa using hs,?_⟩⟩,hF⟩,⟨(cL.refl _ _).setCell (.inr ((hF g).2 rfl)) u,λ_ h=>.inl h⟩⟩
 ·simp [World.setCell,Array.getElem?_modify,hb]
 rw [Array.toList_setIfInBounds,List.take_set,ht]
theorem aB.Em (i j:Nat) {T e:TypeId} {size n cap g:Nat} {xs:List Value} {u:Value} {a y:Operand} (cD:∀ar,iZ N ar ops fr k=some (.store T a y,d)) (hp:ay[i]?=some (.abs (aI e size (some ⟨g,0,none⟩) n cap xs)))
 (ha:∀ar,fo N fr ar a=.pointer (some ⟨g,j,none⟩)) (hy:∀ar,fo N fr ar y=u) (hT:(P.info? T).map (·.size)=some 1) (hu:u.oneCell'=true) (hj:j<xs.length)
 (K':aB P β N ops (k+1) (eX fr d undef) (ay.set i (.abs (aI e size (some ⟨g,0,none⟩) n cap (xs.set j u)))) Q):aB P β N ops k fr ay Q:=by
 refine aB.nH cD (λo ar w ho hS=>?_) K'
 obtain⟨F,hF⟩:=hS.get hp
 refine⟨w.setCell ⟨g,j,none⟩ u,.inr ⟨rfl,?_⟩,hS.set hp (Cl hj)⟩
 obtain⟨x,hx⟩:=lq hj
 have hc:=aI.cell hx F w hF
 have hf:w.frozen? ⟨g,j,none⟩=false:=by
  obtain⟨⟨_,h2⟩,_⟩:=hF
  rcases h2 with ⟨e,_⟩|⟨g',cp,cur,e,_,hb,_⟩
  ·cases e
  cases e;simp [World.frozen?,hb]
 obtain⟨inf,hi,eV⟩:∃inf,P.info? T=some inf/\inf.size=1:=by
  cases h:P.info? T with
  |none=>rw [h] at hT;cases hT
  |some inf=>rw [h] at hT;exact⟨inf,rfl,by simpa using hT⟩
 have h3:=sx hi w
 rw [eV] at h3
 obtain⟨dst,op,type,pos,after,guard⟩:=o
 cases ho
 cases u<;>first
  |(simp [Value.oneCell'] at hu;done)
  |(simp only [execOp,ha ar,hy ar];simp [go_sem,Instr.storeAt,Instr.sureAddr,storeVar,h3,Value.cells,storeCells,store,Addr.add,Sem.run,hc,hf])
end rules
theorem Bs.ok.Cy {β:Bs} {w:World} (h:β.ok w):β.le β:=⟨λ_ h=>h,rfl,rfl,rfl,N6 _,λk hk=>⟨(h.old k hk).1,rfl⟩⟩
def bK (P:Program) (β:Bs) (f:FuncId) (args:Array Value) (pre:List HP) (post:Bs->Value->List HP->Prop):Prop:=
 ∀(R:eG) w,aP β (pre++[.abs R]) w->Calls P f args w λe w'=>∃β' v l,β.le β'/\e=.returned v/\post β' v l/\aP β' (l++[.abs R]) w'
def uf (β:Bs) (R:eG) (post:Bs->Value->List HP->Prop):Ending->World->Prop:=λe w'=>∃β' v l,β.le β'/\e=.returned v/\post β' v l/\aP β' (l++[.abs R]) w'
section afR
variable {P:Program} {β β':Bs} {N:fP} {n0:Nat} {ops:Array Oper} {k:Nat} {fr:Fr} {ay R l:List HP} {Q:Post} {f:FuncId} {args:Array Value} {d:Option Tmp} {pre:List HP} {post:Bs->Value->List HP->Prop} {pk ax:List Nat} {c:Code} {fn:Func} {v:Value} {eT:List Prop} {w:World}
theorem bK.use (h:bK P β f args pre post) (hS:aP β (pre++R) w):Calls P f args w λe w'=>∃β' v l,β.le β'/\e=.returned v/\post β' v l/\aP β' (l++R) w':=
 (h _ w hS.gy).mono λ_ _ ⟨β',v,l,h0,h1,h2,h3⟩=>⟨β',v,l,h0,h1,h2,h3.rX⟩
theorem bK.mono {post':Bs->Value->List HP->Prop} (h:bK P β f args pre post) (hp:∀β' v l,β.le β'->post β' v l->post' β' v l):bK P β f args pre post':=
 λR w hS=>(h R w hS).mono λ_ _ ⟨β',v,l,h0,h1,h2,h3⟩=>⟨β',v,l,h0,h1,hp β' v l h0 h2,h3⟩
theorem aB.TK (hc:∀ar,qG P β N ar ops fr k=some (f,args,d)) (hs:bK P β f args pre post) (hn:bU pk=true) (hp:cT ay pk=some (pre++R))
 (K:∀β' v l,β.le β'->post β' v l->aB P β' N ops (k+1) (eX fr d v) (l++R) Q):aB P β N ops k fr ay Q:=by
 intro ar w hS
 obtain⟨o,h1,h2,rfl,h3⟩:=Ck (hc ar)
 rw [drop_cons h1]
 unfold wpList
 rw [gY,t8 h2]
 refine .inl ?_
 unfold Oper.wp
 rw [iY,h3 w hS.nil,Oper.upon_enter]
 refine (hs.use (hS.pick hn hp)).mono ?_
 rintro e w' ⟨β',v,l,dP,rfl,kE,gG⟩
 show wpList _ _ _ _ ((fk N fr ar).put o.dst v) w'
 rw [gS]
 exact K β' v l dP kE ar w' gG
theorem bK.enter (hf:P.funcs[f]?=some fn) (hb:fn.body=some c) (hN:fn.ntmps=n0) (hl:args.toList.length<=n0) (h:β.le β->∀R:eG,av P β ⟨n0,[]⟩ c (zu 0 args.toList) (pre++[.abs R]) (bodyPost P fn (uf β R post))):bK P β f args pre post:=by
 intro R w hS
 refine calls_of_wp hf hb ?_
 rw [hN,Bd hl]
 exact h hS.1.Cy R _ w hS
theorem aF.agH {R:eG} (hints:List Hint) (pk:List Nat) (dP:β.le β') (hr:∀ar,rH P β' ⟨n0,[]⟩ ar fn fr ay hints=some (v,eT)) (ho:oP eT) (hn:bU pk=true) (hp:cT ay pk=some (l++[.abs R])) (kE:post β' v l) :
 aF β' ⟨n0,[]⟩ (bodyPost P fn (uf β R post)) .ret fr ay:=
 λar _ hS=>⟨rfl,v,vu (hr ar) ho hS,β',v,l,dP,rfl,kE,hS.pick hn hp⟩
theorem aF.YW {R:eG} (hints:List Hint) (pk:List Nat) (dP:β.le β') (hr:∀ar,rH P β' ⟨n0,[]⟩ ar fn fr ay hints=some (v,eT)) (ho:oP eT) (hn:bU pk=true) (hp:cT ay pk=some (l++[.abs R])) (kE:post β' v l) :
 aF β' ⟨n0,[]⟩ (bodyPost P fn (uf β R post)) .normal fr ay:=
 λar _ hS=>⟨rfl,v,vu (hr ar) ho hS,β',v,l,dP,rfl,kE,hS.pick hn hp⟩
theorem aF.adM {R:eG} {post:Value->List HP->Prop} (hints:List Hint) (pk:List Nat) (dP:β.le β') (hr:∀ar,rH P β' ⟨n0,[]⟩ ar fn fr ay hints=some (v,eT)) (ho:oP eT) (hn:bU pk=true) (hp:cT ay pk=some (l++[.abs R])) (kE:post v l) :
 aF β' ⟨n0,[]⟩ (bodyPost P fn (zw β R post)) .ret fr ay:=
 λar _ hS=>⟨rfl,v,vu (hr ar) ho hS,v,l,rfl,kE,(hS.pick hn hp).I3 dP⟩
def Nq (N:fP) {ι:Type} (bs:ι->Bs) (bB:ι->Prop) (μ:ι->Nat) (fr:ι->Fr) (hp:ι->List HP) (m:Nat):Act->World->Prop:=λa w=>∃i,bB i/\μ i<m/\∃ar,a=fk N (fr i) ar/\aP (bs i) (hp i) w
theorem av.afS {ι:Type} (bs:ι->Bs) (bB:ι->Prop) (μ:ι->Nat) (bN:ι->Fr) (dh:ι->List HP) (i0:ι) (hb:bs i0=β) (h0:bB i0) (hf:∀ar,kO fr ar ax=bN i0) (hn:bU pk=true) (hp:cT ay pk=some (dh i0))
 (round:∀i,bB i->av P (bs i) N c (bN i) (dh i) (Exit.then (Nq N bs bB μ bN dh (μ i)) Q)):av P β N (.loop c) fr ay Q:=by
 intro ar w hS
 subst hb
 refine wp_loop_ghost (λn a w=>∃i,bB i/\μ i=n/\∃ar,a=fk N (bN i) ar/\aP (bs i) (dh i) w) (μ i0) ⟨i0,h0,rfl,lk fr ar,by rw [nS N fr ar ax,hf ar],hS.pick hn hp⟩ ?_
 rintro n a w ⟨i,hi,rfl,ar,rfl,hS⟩
 refine aiY (λe a w q=>?_) (round i hi ar w hS)
 cases e with
 |normal=>
   obtain⟨i',hi',fX,nV,e,gG⟩:=q
   exact⟨μ i',fX,i',hi',rfl,nV,e,gG⟩
 |exit id=>exact q
 |goto l=>exact q
 |ret=>exact q
 |panic ch=>exact q
 |outgrown=>exact q
theorem aF.afT {ι:Type} {bs:ι->Bs} {bB:ι->Prop} {μ:ι->Nat} {bN:ι->Fr} {dh:ι->List HP} {m:Nat} (i:ι) (hb:bs i=β) (hi:bB i) (hm:μ i<m) (hf:∀ar,kO fr ar ax=bN i) (hn:bU pk=true) (hp:cT ay pk=some (dh i)) :
 aF β N (Exit.then (Nq N bs bB μ bN dh m) Q) .normal fr ay:=λar _ hS=>⟨i,hi,hm,lk fr ar,by rw [nS N fr ar ax,hf ar],hb ▸ hS.pick hn hp⟩
end afR
section still
variable {P:Program} {β:Bs} {N:fP} {ar:Nat->Value} {ops:Array Oper} {n:Nat} {w:World}
theorem NH {hs:List OH}:∀{k k':Nat} {fr bN:Fr} {S S':SS},pH P β n true N ar ops hs k fr S=some (k',bN,S')->k<=k':=by
 induction hs with
 |nil=>intro k k' fr bN S S' h;cases h;exact N6 _
 |cons h hs ih=>
   grind [pH]
theorem Cz {o:Oper} {k k':Nat} (h:ops.toList[k]?=some o) (hk:k<k'):(ops.toList.take k').drop k=o::(ops.toList.take k').drop (k+1):=by
 have h1:(ops.toList.take k')[k]?=some o:=by
  rw [List.getElem?_take,t8 hk];exact h
 have h2:=dH h1
 rw [aiR h2]
 grind
end still
theorem aU.quiet {P:Program} {β:Bs} {f:FuncId} {args:Array Value} {v:Value} (h:∀w,Calls P f args w λe w'=>e=.returned v/\w'=w):aU P β f args [] (λv' l=>v'=v/\l=[]):=
 λ_ w hS=>(h w).mono λ_ _ ⟨h1,h2⟩=>⟨v,[],h1,⟨rfl,rfl⟩,h2 ▸ hS⟩
def lQ (P:Program) (β:Bs) (N:fP) (ops:Array Oper) (n k:Nat) (fr:Fr) (ay:List HP) (Q:Post):Prop:=
 ∀ar w,aP β ay w->wpStill P ops w (λa'=>wpList P ops Q (ops.toList.drop n) a' w) ((ops.toList.take n).drop k) (fk N fr ar)
section heads
variable {P:Program} {β:Bs} {N:fP} {ops:Array Oper} {n k k':Nat} {fr bN:Fr} {ay:List HP} {Q:Post} {eT:List Prop} {d:Option Tmp} {op:Op} {v:Value} {i:Nat}
theorem vz {ar:Nat->Value} {w:World} {m:Nat} {Q:Act->Prop}:∀{hs:List OH} {k k':Nat} {fr bN:Fr} {S S':SS},pH P β m true N ar ops hs k fr S=some (k',bN,S')->(∀p,p∈S'.eT->p)->S.used=true->aP β S.ay w->k'<=n →
 wpStill P ops w Q ((ops.toList.take n).drop k') (fk N bN ar)->wpStill P ops w Q ((ops.toList.take n).drop k) (fk N fr ar)
 |[],k,k',fr,bN,S,S',h,ho,hu,hS,hn,hK=>by cases h;exact hK
 |h::hs,k,k',fr,bN,S,S',hr,ho,hu,hS,hn,hK=>by
   unfold pH at hr
   split at hr
   ·cases hr
   rename_i o hget
   have hk:k<n:=by
    refine aiq ?_ hn
    split at hr
    ·split at hr
     ·exact NH hr
     cases hr
    exact NH hr
   rw [Cz hget hk]
   unfold wpStill
   have hw:Region.wanted o (yielded ops (fk N fr ar).tmps)=Region.wanted o (yF ops N fr ar):=by
    have:yielded ops (fk N fr ar).tmps=yF ops N fr ar:=funext (Np ops N fr ar)
    rw [this]
   rw [hw]
   split at hr
   ·rename_i VO
    rw [t8 VO]
    split at hr
    ·rename_i v S1 h0
     obtain⟨e1,e2⟩:=y8 h0
     obtain⟨w',h1,h2,h3,h4⟩:=p4 h0 (λp hp=>ho p (xL hr p hp)) hS (λe=>by rw [hu] at e;cases e)
     obtain⟨ew,e⟩:=h4 rfl
     rw [ew] at h1 h2
     unfold Oper.still
     rw [iY]
     rcases h1 with h1|⟨h1,h1'⟩
     ·rw [h1,Oper.stillUpon_value,gS]
      exact vz hr ho (e2.trans hu) h2 hn hK
     subst h1
     rw [h1',Oper.stillUpon_skip,gS]
     exact vz hr ho (e2.trans hu) h2 hn hK
    cases hr
   rename_i hwf
   rw [nw (by simp [hwf])]
   rw [gS]
   exact vz hr ho hu hS hn hK
theorem av.Cm {id:Nat} (n:Nat) (hm:P.follows .mixedOrders=true) (hB:Region.lexTailB .any ops n=true) (h:lQ P β N ops n 0 fr ay Q):av P β N (.region id ops true) fr ay Q:=by
 intro ar w hS
 obtain⟨ops⟩:=ops
 exact wp_region_still_tail n hm hB (h ar (w.drewN 1) (hS.drewN 1))
theorem lQ.seg (hs:List OH) (ax:List Nat) (h:∀m ar,nM P β m true N ar ops hs k fr ay ax (List.range ay.length)=some (k',bN,ay,eT)) (ho:oP eT) (hk:k'<=n) (K:lQ P β N ops n k' bN ay Q):lQ P β N ops n k fr ay Q:=by
 intro ar w hS
 obtain⟨fr1,S,h1,h2,h3,h4,h5⟩:=HV (h 0 ar)
 have hK:=K (lk fr1 ar) w hS
 rw [h4,←nS] at hK
 exact vz h1 (λp hp=>ho.mem (h5 ▸ hp)) rfl hS hk hK
theorem lQ.done (hk:k=n) (K:aB P β N ops n fr ay Q):lQ P β N ops n k fr ay Q:=by
 intro ar w hS
 subst hk
 have e:(ops.toList.take k).drop k=[]:=gn
 rw [e]
 exact K ar w hS
theorem lQ.nH (cD:∀ar,iZ N ar ops fr k=some (op,d)) (hk:k<n) (h:∀(o:Oper) ar w,o.op=op->aP β ay w->sB P (fo N fr ar) o w v w) (K:lQ P β N ops n (k+1) (eX fr d v) ay Q):lQ P β N ops n k fr ay Q:=by
 intro ar w hS
 obtain⟨o,h1,h2,h3,rfl⟩:=jd (cD ar)
 rw [Cz h1 hk]
 unfold wpStill
 rw [gY,t8 h2]
 unfold Oper.still
 rw [iY]
 have hK:=K ar w hS
 rw [←gS] at hK
 rcases h o ar w h3 hS with h4|⟨h4,h4'⟩
 ·rw [h4,Oper.stillUpon_value];exact hK
 subst h4
 rw [h4',Oper.stillUpon_skip];exact hK
section maps
open Go.Maps
variable {t K E:TypeId} {b cnt:Nat} {f:Lit->Option Value} {x ix:Operand} {key z:Value} {kl:Lit} {r:Option Value}
theorem lQ.Cx (i:Nat) {ats:Array TypeId} (cD:∀ar,iZ N ar ops fr k=some (.call ⟨.builtin .len,#[x],ats⟩,d)) (hp:ay[i]?=some (.abs (bM P K b f cnt))) (hx:∀ar,fo N fr ar x=.map (some b)) (zy:ats=#[t]) (ht:P.underlying t=some (.map K E))
 (hk:k<n) (K':lQ P β N ops n (k+1) (eX fr d (.int .i64 ((cnt:Nat):Int))) ay Q):lQ P β N ops n k fr ay Q:=
 lQ.nH cD hk (λ_ ar _ ho hS=>FR ho zy (bM.get hS hp) (hx ar) ht) K'
end maps
end heads
end
section
open Go.RowKit Go.Maps
open Go.ChangeMaps (setBlock)
theorem Kt (w:World) (r:Nat) (o:Obj):cL (·=r) w (setBlock w r o):=
 ⟨rfl,rfl,rfl,by simp [setBlock],λk _ hk=>by
  show (w.heap.setIfInBounds r o)[k]?=_
  rw [Array.getElem?_setIfInBounds_ne (λe=>hk e.symm)]⟩
theorem NI {w:World} {r:Nat} {o o':Obj} (h:w.heap[r]?=some o'):(setBlock w r o).heap[r]?=some o:=by
 have:=lt_of_some h
 show (w.heap.setIfInBounds r o)[r]?=_
 rw [Array.getElem?_setIfInBounds_self_of_lt this]
def Da (r:Nat) (s:ByteArray) (pos:Nat):eG where
 h F w:=w.heap[r]?=some (.stringIter s pos)/\∀k,F k↔k=r
 lt:=gn
 st:=by rintro F w ⟨h,hF⟩ S w' hk hn;exact⟨(hk.block r (lt_of_some h) (hn r ((hF r).2 rfl))).trans h,hF⟩
def Ku (P:Program) (b r:Nat) (t:Value) (w:World):Prop:=
 ∃w0:World,w0.heap[b]?=w.heap[b]?/\w0.heap[r]?=w.heap[r]?/\(Instr.entry (.pointer (some ⟨r,0,none⟩))).run P w0=.ok t w0
theorem Ku.run {P:Program} {b r:Nat} {t:Value} {w:World} {es:Array MapEntry} {clock since c0:Nat} {seen:Array Nat} (h:Ku P b r t w) (hb:w.heap[b]?=some (.map es clock)) (hr:w.heap[r]?=some (.mapIter (some b) since seen c0)) :
 (Instr.entry (.pointer (some ⟨r,0,none⟩))).run P w=.ok t w:=by
 obtain⟨w0,h1,h2,h3⟩:=h
 rw [hb] at h1
 rw [hr] at h2
 simp only [Instr.entry,getObj,Sem.run_bind,Sem.run,h2,hr,Result.andThen] at h3 ⊢
 cases hs:seen.back? with
 |none=>simp [hs,stuck] at h3
 |some st=>
   simp only [hs,Sem.run_bind,Sem.run,h1,hb,Result.andThen] at h3 ⊢
   by_cases hc:(clock != c0)=true
   ·simp [hc,unsupported,Sem.run,Result.andThen] at h3
   simp only [hc,Bool.false_eq_true,if_false] at h3 ⊢
   cases hf:es.find? (λe=>e.born == st) with
   |none=>simp [hf,unsupported] at h3
   |some e=>
     simp [hf] at h3 ⊢
     exact h3
structure RX (P:Program) (K:TypeId) (w:World) (b r:Nat) (f:Lit->Option Value) (n:Nat) (left:Lit->Bool) (cnt:Nat) (last:Option Value) (D:DataW Value):Prop where
 rg:w.ranges P K yU b r n D left cnt
 sz:Maps.size D=n
 has:∀kl,Maps.has D kl=(f kl).isSome
 at_:∀kl v,f kl=some v->∀z,D.atKey kl z=.held v
 sub:∀kl,left kl=true->(f kl).isSome=true
 last:∀t,last=some t->Ku P b r t w
def nZ (P:Program) (K:TypeId) (b r:Nat) (f:Lit->Option Value) (n:Nat) (left:Lit->Bool) (cnt:Nat) (last:Option Value):eG where
 h F w:=(∃D,RX P K w b r f n left cnt last D)/\∀k,F k↔(k=b\/k=r)
 lt:=by
  rintro F w ⟨⟨D,h⟩,hF⟩ k hk
  rcases (hF k).1 hk with rfl|rfl
  ·exact h.rg.owns.lt
  exact h.rg.lt
 st:=by
  rintro F w ⟨⟨D,h⟩,hF⟩ S w' hk hn
  have hb:=hk.block b h.rg.owns.lt (hn b ((hF b).2 (.inl rfl)))
  have hr:=hk.block r h.rg.lt (hn r ((hF r).2 (.inr rfl)))
  refine⟨⟨D,?_,h.sz,h.has,h.at_,h.sub,λt ht=>?_⟩,hF⟩
  ·obtain⟨es,clock,since,seen,c0,e1,e2,e3,e4,e5,e6⟩:=h.rg
   exact⟨es,clock,since,seen,c0,hb.trans e1,e2,e3,e4,hr.trans e5,e6⟩
  obtain⟨w0,h1,h2,h3⟩:=h.last t ht
  exact⟨w0,h1.trans hb.symm,h2.trans hr.symm,h3⟩
section rules
variable {P:Program} {β:Bs} {N:fP} {ops:Array Oper} {k:Nat} {fr bN:Fr} {ay gj:List HP} {Q:Post} {d:Option Tmp} {op:Op} {v:Value} {t K E:TypeId} {x:Operand} {s:ByteArray} {b r pos i n cnt:Nat} {f:Lit->Option Value} {left:Lit->Bool} {last:Option Value}
theorem aB.NJ (cD:∀ar,iZ N ar ops fr k=some (.range t x,d)) (hx:∀ar,fo N fr ar x=.string s) (ht:P.underlying t=some .string) (K':∀r,aB P β N ops (k+1) (eX fr d (.pointer (some ⟨r,0,none⟩))) (ay++[.abs (Da r s 0)]) Q):aB P β N ops k fr ay Q:=by
 refine aB.Kr (ι:=Nat) (v:=λr=>.pointer (some ⟨r,0,none⟩)) (dh:=λr=>ay++[.abs (Da r s 0)]) cD (λo ar w ho hS=>⟨w.heap.size,w.iter s 0,.inl ?_,?_⟩) K'
 ·obtain⟨dst,op,type,pos,after,guard⟩:=o
  cases ho
  simp only [execOp,hx]
  simp [go_sem,ht]
 exact hS.new (F:=λk=>k=w.heap.size) ⟨World.iter_heap w s 0,λ_=>Iff.rfl⟩ ((cL.refl _ _).alloc _) (λk e=>Nat.le_of_eq e.symm)
theorem aB.RY (i:Nat) (cD:∀ar,iZ N ar ops fr k=some (.next x true,d)) (hp:ay[i]?=some (.abs (Da r s pos))) (hx:∀ar,fo N fr ar x=.pointer (some ⟨r,0,none⟩)) (fX:pos<s.size)
 (K':aB P β N ops (k+1) (eX fr d (.tuple #[.bool true,.int .i64 pos,.int .i32 (Utf8.decode s pos).1])) (ay.set i (.abs (Da r s (pos+(Utf8.decode s pos).2)))) Q):aB P β N ops k fr ay Q:=by
 refine aB.nH cD (λo ar w ho hS=>?_) K'
 obtain⟨F,hF⟩:=hS.get hp
 refine⟨setBlock w r (.stringIter s (pos+(Utf8.decode s pos).2)),.inl ?_,hS.set hp (λF hF=>⟨F,⟨NI hF.1,hF.2⟩,(Kt w r _).mono (λ_ _ e=>(hF.2 _).2 e),λ_ h=>.inl h⟩)⟩
 have hr:=hF.1
 obtain⟨dst,op,type,pos',after,guard⟩:=o
 cases ho
 simp only [execOp,hx]
 simp [go_sem,Instr.next,getObj,setObj,Sem.run,hr,fX,setBlock,goInt]
theorem aB.VR (i:Nat) (cD:∀ar,iZ N ar ops fr k=some (.next x true,d)) (hp:ay[i]?=some (.abs (Da r s pos))) (hx:∀ar,fo N fr ar x=.pointer (some ⟨r,0,none⟩)) (fX:¬pos<s.size)
 (K':aB P β N ops (k+1) (eX fr d (.tuple #[.bool false])) ay Q):aB P β N ops k fr ay Q:=by
 refine aB.nH cD (λo ar w ho hS=>⟨w,.inl ?_,hS⟩) K'
 obtain⟨F,hF⟩:=hS.get hp
 have hr:=hF.1
 obtain⟨dst,op,type,pos',after,guard⟩:=o
 cases ho
 simp only [execOp,hx]
 simp [go_sem,Instr.next,getObj,setObj,Sem.run,hr,fX]
theorem aB.mapRange (i:Nat) (cD:∀ar,iZ N ar ops fr k=some (.range t x,d)) (hp:ay[i]?=some (.abs (bM P K b f n))) (hx:∀ar,fo N fr ar x=.map (some b)) (L:Keyed P K) (ht:P.underlying t=some (.map K E))
 (K':∀r,aB P β N ops (k+1) (eX fr d (.pointer (some ⟨r,0,none⟩))) (ay.set i (.abs (nZ P K b r f n (λkl=>(f kl).isSome) n none))) Q):aB P β N ops k fr ay Q:=by
 refine aB.Kr (ι:=Nat) (v:=λr=>.pointer (some ⟨r,0,none⟩)) (dh:=λr=>ay.set i (.abs (nZ P K b r f n (λkl=>(f kl).isSome) n none))) cD (λo ar w ho hS=>?_) K'
 obtain⟨D,h1,h2,h3,h4⟩:=bM.get hS hp
 obtain⟨w',hrun,r1,r2,r3⟩:=h1.range L ht
 refine⟨w.heap.size,w',.inl ?_,hS.set hp (λF hF=>⟨λk=>k=b\/k=w.heap.size,⟨⟨D,?_,h2,h3,h4,λ_ h=>h,λ_ h=>by cases h⟩,λ_=>Iff.rfl⟩,(cL.refl _ _).grown r2 (λ_ h=>by cases h),λk hk=>?_⟩)⟩
 ·obtain⟨dst,op,type,pos',after,guard⟩:=o
  cases ho
  simp only [execOp,hx]
  simp [hrun,Result.andThen]
 ·rw [←h2]
  have e:Maps.has D=λkl=>(f kl).isSome:=funext h3
  rw [e] at r1
  rw [h2] at r1 ⊢
  exact r1
 rcases hk with rfl|rfl
 ·exact .inl ((hF.2 _).2 rfl)
 exact .inr (N6 _)
theorem nZ.map {w:World} {D:DataW Value} (h:RX P K w b r f n left cnt last D):kN P K w b f n:=⟨D,h.rg.owns,h.sz,h.has,h.at_⟩
theorem aB.mapNext (i:Nat) (cD:∀ar,iZ N ar ops fr k=some (.next x false,d)) (hp:ay[i]?=some (.abs (nZ P K b r f n left cnt last))) (hx:∀ar,fo N fr ar x=.pointer (some ⟨r,0,none⟩)) (L:Keyed P K) (hK:P.underlying K=some (.int .i64))
 (afU:cnt=0->(∀kl,left kl=false)->aB P β N ops (k+1) (eX fr d (.tuple #[.bool false])) ay Q)
 (afV:∀(z:Int) (u:Value) (cnt':Nat),left (.int .i64 z)=true->f (.int .i64 z)=some u->(Lit.int .i64 z).wf=true->cnt'<cnt →
  aB P β N ops (k+1) (eX fr d (.tuple #[.bool true,.int .i64 z,u])) (ay.set i (.abs (nZ P K b r f n (λkl=>left kl && !kl.sameKey (.int .i64 z)) cnt' (some (.tuple #[.int .i64 z,u]))))) Q):aB P β N ops k fr ay Q:=by
 intro ar w hS
 obtain⟨F,⟨D,h⟩,hF⟩:=hS.get hp
 obtain⟨o,h1,h2,h3,rfl⟩:=jd (cD ar)
 rcases h.rg.next L o.type with ⟨e0,el,hrun⟩|⟨key,u,kl,y,w',cnt',mo,fC,hv,hat,hrun,hrg,fX,hgr,eV,hen⟩
 ·have hk:=afU e0 el ar w hS
  rw [drop_cons h1]
  unfold wpList
  rw [gY,t8 h2]
  refine .inl (p8 (v:=.tuple #[.bool false]) (w':=w) (.inl ?_) (by rw [gS];exact hk))
  rw [iY]
  obtain⟨dst,op,type,pos',after,guard⟩:=o
  cases h3
  simp only [execOp,hx]
  simp at hrun
  simp [hrun,Result.andThen]
 obtain⟨z,rfl,rfl,hwf⟩:=Maps.keyOf_int_inv hK mo
 have hsome:=h.sub _ fC
 obtain⟨u',hu'⟩:=Option.isSome_iff_exists.1 hsome
 have e1:=h.at_ _ _ hu' (.held u')
 rw [hat] at e1
 have e2:y.1=.held u:=by
  unfold yU at hv
  cases hv
  rfl
 rw [e2] at e1
 cases e1
 have hk:=afV z u cnt' fC hu' hwf fX ar w' (hS.set hp (λF hF=>⟨F,⟨⟨D,hrg,h.sz,h.has,h.at_,λkl hl=>h.sub kl (by simp at hl;exact hl.1),λt ht=>by cases ht;exact⟨w',rfl,rfl,hen⟩⟩,hF.2⟩,(cL.refl (λk=>F k) w).grown hgr (λj hj=>by cases hj;exact .inr ((hF.2 _).2 (.inr rfl))),λ_ h=>.inl h⟩))
 rw [drop_cons h1]
 unfold wpList
 rw [gY,t8 h2]
 refine .inl (p8 (v:=.tuple #[.bool true,.int .i64 z,u]) (w':=w') (.inl ?_) (by rw [gS];exact hk))
 rw [iY]
 obtain⟨dst,op,type,pos',after,guard⟩:=o
 cases h3
 simp only [execOp,hx]
 simp at hrun
 simp [hrun,Result.andThen]
theorem aB.mapEntry (i:Nat) (cD:∀ar,iZ N ar ops fr k=some (.entry x,d)) (hp:ay[i]?=some (.abs (nZ P K b r f n left cnt (some v)))) (hx:∀ar,fo N fr ar x=.pointer (some ⟨r,0,none⟩))
 (K':aB P β N ops (k+1) (eX fr d v) ay Q):aB P β N ops k fr ay Q:=by
 refine aB.nH cD (λo ar w ho hS=>⟨w,.inl ?_,hS⟩) K'
 obtain⟨F,⟨D,h⟩,hF⟩:=hS.get hp
 have hl:=h.last _ rfl
 obtain⟨es,clock,since,seen,c0,e1,e2,e3,e4,e5,e6⟩:=h.rg
 have hrun:=hl.run e1 e5
 obtain⟨dst,op,type,pos',after,guard⟩:=o
 cases ho
 simp only [execOp,hx]
 simp [hrun,Result.andThen]
theorem nZ.getM {w:World} (hS:aP β ay w) (hp:ay[i]?=some (.abs (nZ P K b r f n left cnt last))):kN P K w b f n:=by
 obtain⟨F,⟨D,h⟩,hF⟩:=hS.get hp
 exact nZ.map h
theorem aB.GN {ix:Operand} {key z:Value} {kl:Lit} {u:Option Value} (i:Nat) (cD:∀ar,iZ N ar ops fr k=some (.lookup t x ix true,d)) (hp:ay[i]?=some (.abs (nZ P K b r f n left cnt last))) (hx:∀ar,fo N fr ar x=.map (some b)) (fT:∀ar,fo N fr ar ix=key) (L:Keyed P K)
 (ht:P.underlying t=some (.map K E)) (hz:∀w,(zeroValue E).run P w=.ok z w) (mo:keyOf P K key=some kl) (hr:f kl=u) (K':aB P β N ops (k+1) (eX fr d (.tuple #[u.getD z,.bool u.isSome])) ay Q):aB P β N ops k fr ay Q:=by
 subst hr
 exact aB.nH cD (λo ar w ho hS=>⟨w,IZ ho (nZ.getM hS hp) (hx ar) (fT ar) L ht (hz w) mo,hS⟩) K'
theorem aB.YX (i:Nat) {ats:Array TypeId} (cD:∀ar,iZ N ar ops fr k=some (.call ⟨.builtin .len,#[x],ats⟩,d)) (hp:ay[i]?=some (.abs (nZ P K b r f n left cnt last))) (hx:∀ar,fo N fr ar x=.map (some b)) (zy:ats=#[t]) (ht:P.underlying t=some (.map K E))
 (K':aB P β N ops (k+1) (eX fr d (.int .i64 ((n:Nat):Int))) ay Q):aB P β N ops k fr ay Q:=
 aB.nH cD (λ_ ar w ho hS=>⟨w,FR ho zy (nZ.getM hS hp) (hx ar) ht,hS⟩) K'
end rules
end
section
open Go.RowKit
theorem Nd (z:Value) (n:Nat):(madeCells #[z] (n*1)).toList=List.replicate n z:=by
 rw [Nat.mul_one]
 apply List.ext_getElem
 ·simp [madeCells]
 intro j h1 h2
 simp [madeCells,Nat.mod_one]
section make
variable {P:Program} {β:Bs} {N:fP} {ops:Array Oper} {k:Nat} {fr:Fr} {ay:List HP} {Q:Post} {d:Option Tmp}
theorem aB.YZ {t e:TypeId} {z:Value} {bytes n:Nat} {l c:Operand} (cD:∀ar,iZ N ar ops fr k=some (.makeSlice t l c,d)) (hl:∀ar,fo N fr ar l=.int .i64 ((n:Nat):Int)) (hc:∀ar,fo N fr ar c=.int .i64 ((n:Nat):Int))
 (ht:P.underlying t=some (.slice e)) (rI:(P.info? e).map (λi=>(i.zero,i.size,i.bytes))=some (some z,1,bytes)) (hzs:z.cells=#[z]) (hn:n<=16777216) (hb:bytes*n<=281474976710656)
 (K':∀b,aB P β N ops (k+1) (eX fr d (.slice (some ⟨b,0,none⟩) n n)) (ay++[.abs (aI e 1 (some ⟨b,0,none⟩) n n (List.replicate n z))]) Q):aB P β N ops k fr ay Q:=by
 obtain⟨inf,hi,hz,hsize,hby⟩:∃inf,P.info? e=some inf/\inf.zero=some z/\inf.size=1/\inf.bytes=bytes:=by
  cases h:P.info? e with
  |none=>rw [h] at rI;cases rI
  |some inf=>rw [h] at rI;simp at rI;exact⟨inf,rfl,rI.1,rI.2.1,rI.2.2⟩
 refine aB.Kr (ι:=Nat) (v:=λb=>.slice (some ⟨b,0,none⟩) n n) (dh:=λb=>ay++[.abs (aI e 1 (some ⟨b,0,none⟩) n n (List.replicate n z))]) cD (λo ar w ho hS=>?_) K'
 obtain⟨w',h1,h2,h3⟩:=run_makeSlice_full (P:=P) w 0 t e inf z 1 ht hi hz hsize .i64 .i64 n d5 (by rw [hby];exact hb) (by unfold maxLen;omega) (L4 _)
 rw [hzs,Nd] at h2
 refine⟨w.heap.size,w',.inl ?_,hS.new (F:=λk=>k=w.heap.size) ⟨h2,λj=>by simp [Value.ownBlock,eq_comm]⟩ ((cL.refl _ _).grown h3 (λ_ h=>by cases h)) (λk e=>Nat.le_of_eq e.symm)⟩
 obtain⟨dst,op,type,pos,after,guard⟩:=o
 cases ho
 simp only [execOp,hl,hc]
 simp [h1,Result.andThen]
end make
section mark
variable {P:Program} {β:Bs} {N:fP} {ops:Array Oper} {k:Nat} {fr:Fr} {ay:List HP} {Q:Post} {d:Option Tmp}
end mark
section adds
variable {P:Program} {β:Bs} {N:fP} {ops:Array Oper} {e0 k:Nat} {fr:Fr} {ay:List HP} {Q:Post} {d:Option Tmp} {t t2:TypeId} {x y:Operand} {a b:ByteArray}
end adds
theorem aI.cellAt {e:TypeId} {A:Option Addr} {size n cap i j:Nat} {xs:List Value} {u:Value} (hi:i<n) (hj:xs[i*size+j]?=some u):∀F w,(aI e size A n cap xs).h F w->w.cell? ⟨bG A,bE A+i*size+j,none⟩=some u:=by
 intro F w h
 obtain⟨g,rfl⟩:=aI.head h d5
 have:=aI.cell hj F w h
 grind [aI,bG,bE]
def vA (a b:ByteArray):Int:=Lib.compareBytes a.data.toList b.data.toList
theorem LI:∀a:List UInt8,Lib.compareBytes a a=0
 |[]=>rfl
 |a::r=>by
   have h:¬a<a:=by intro h;exact KB h (by simp)
   simp only [Lib.compareBytes,nw h]
   exact LI r
theorem LJ:∀{a b:List UInt8},Lib.compareBytes a b=0->a=b
 |[],[],_=>rfl
 |[],_::_,h=>by simp [Lib.compareBytes] at h
 |_::_,[],h=>by simp [Lib.compareBytes] at h
 |a::x,b::y,h=>by
   unfold Lib.compareBytes at h
   split at h
   ·cases h
   rename_i h1
   split at h
   ·cases h
   rename_i h2
   have e:a=b:=by
    apply aiI.1
    have h3:¬a.toNat<b.toNat:=λh=>h1 (UInt8.lt_iff_toNat_lt.2 h)
    have h4:¬b.toNat<a.toNat:=λh=>h2 (UInt8.lt_iff_toNat_lt.2 h)
    omega
   rw [e,LJ h]
theorem LK:∀{a b:List UInt8},Lib.compareBytes a b<0↔Op.bytesLess a b=true
 |[],[]=>by simp [Lib.compareBytes,Op.bytesLess]
 |[],_::_=>by simp [Lib.compareBytes,Op.bytesLess]
 |_::_,[]=>by simp [Lib.compareBytes,Op.bytesLess]
 |a::x,b::y=>by
   unfold Lib.compareBytes Op.bytesLess
   by_cases h1:a<b
   ·simp [h1]
   by_cases h2:b<a
   ·have h3:¬a=b:=λe=>by subst e;exact h1 h2
    simp [h1,h2,h3]
   have e:a=b:=by
    apply aiI.1
    have h3:¬a.toNat<b.toNat:=λh=>h1 (UInt8.lt_iff_toNat_lt.2 h)
    have h4:¬b.toNat<a.toNat:=λh=>h2 (UInt8.lt_iff_toNat_lt.2 h)
    omega
   subst e
   simp only [h1,if_false,decide_false,beq_self_eq_true,Bool.true_and,Bool.false_or]
   exact LK
theorem I5:∀{a b c:List UInt8},Lib.compareBytes a b<0->Lib.compareBytes b c<=0->Lib.compareBytes a c<0
 |[],[],_,h,_=>by simp [Lib.compareBytes] at h
 |[],_::_,[],_,h=>by simp [Lib.compareBytes] at h
 |[],_::_,_::_,_,_=>by simp [Lib.compareBytes]
 |_::_,[],_,h,_=>by simp [Lib.compareBytes] at h
 |_::_,_::_,[],_,h=>by simp [Lib.compareBytes] at h
 |a::x,b::y,c::z,h,g=>by
   unfold Lib.compareBytes at h g ⊢
   by_cases h1:a<b
   ·by_cases g1:b<c
    ·have:a<c:=by rw [UInt8.lt_iff_toNat_lt] at *;omega
     simp [this]
    by_cases g2:c<b
    ·simp [g1,g2] at g
    have e:b=c:=by
     apply aiI.1
     rw [UInt8.lt_iff_toNat_lt] at *
     omega
    subst e
    simp [h1]
   by_cases h2:b<a
   ·simp [h1,h2] at h
   have e:a=b:=by
    apply aiI.1
    rw [UInt8.lt_iff_toNat_lt] at *
    omega
   subst e
   simp only [h1,if_false] at h
   by_cases g1:a<c
   ·simp [g1]
   by_cases g2:c<a
   ·simp [g1,g2] at g
   simp only [g1,g2,if_false] at g ⊢
   exact I5 h g
theorem LM:∀{a b:List UInt8},Lib.compareBytes b a = - Lib.compareBytes a b
 |[],[]=>rfl
 |[],_::_=>rfl
 |_::_,[]=>rfl
 |a::x,b::y=>by
   unfold Lib.compareBytes
   by_cases h1:a<b
   ·have h2:¬b<a:=by rw [UInt8.lt_iff_toNat_lt] at *;omega
    simp [h1,h2]
   by_cases h2:b<a
   ·simp [h1,h2]
   simp only [h1,h2,if_false]
   exact LM
theorem LO (a:ByteArray):vA a a=0:=LI _
theorem LP {a b:ByteArray}:vA a b=0↔a=b:=by
 refine⟨λh=>?_,λh=>by rw [h];exact LO b⟩
 have:=LJ h
 obtain⟨⟨a⟩⟩:=a
 obtain⟨⟨b⟩⟩:=b
 have this:a=b:=this
 rw [this]
theorem I6 {a b c:ByteArray} (h:vA a b<0) (g:vA b c<=0):vA a c<0:=I5 h g
theorem En (a b:ByteArray):vA b a = - vA a b:=LM
def NP (Q:Post):Post:=λe a w=>match e with
 |.normal=>Q .normal a w
 |_=>False
section order
variable {P:Program} {ops:Array Oper} {Q Q':Post} {n:Nat} {S:World->Prop}
theorem vB (h:LetsOut (NP Q)):False:=by
 obtain⟨a,w,h⟩:=h
 exact h
theorem Nr {o:Oper} {a:Act} {w:World} {K:Act->World->Prop} (h:o.wp P a w K (NP Q)):o.wp P a w K (NP Q'):=by
 unfold Oper.wp at *
 generalize (execOp a.eval o).run P w=r at *
 cases r with
 |ok m w'=>
   cases m<;>simp only [Oper.upon] at h ⊢ <;>
    first
     |exact h
     |exact Calls.mono h (λe w'' he=>by cases e<;>first|exact he|exact (vB he).elim)
 |halt x w'=>cases x<;>simp only [Oper.upon] at h ⊢;exact h
theorem vC {i:Nat} {o:Oper} {a:Act} {w:World} {K:Act->World->Prop} (hi:ops[i]?=some o) (hg:o.guard=none) (h:wpList P #[o] (NP λ_ a w=>K a w) [o] a w):wpOp P ops (NP Q) i K a w:=by
 unfold wpOp
 simp only [hi]
 have hw:∀y,Region.wanted o y=true:=λy=>by unfold Region.wanted;rw [hg]
 rw [t8 (hw _)]
 unfold wpList at h
 rw [t8 (hw _)] at h
 rcases h with h|⟨_,h⟩
 ·exact .inl (Nr (Oper.wp_mono (λa w h=>h) h))
 exact (vB h).elim
theorem Bg {o:Oper} {a:Act} {w:World} (hq:∀a w,Q .normal a w->Q' .normal a w) (h:wpList P ops (NP Q) [o] a w):wpList P ops (NP Q') [o] a w:=by
 unfold wpList at *
 split
 ·rename_i hw
  rw [t8 hw] at h
  rcases h with h|⟨_,h⟩
  ·exact .inl (Nr (Oper.wp_mono (λa w h=>hq a w h) h))
  exact (vB h).elim
 rename_i hw
 rw [nw hw] at h
 exact hq _ _ h
def xM (P:Program) (ops:Array Oper) (Q:Post) (n:Nat) (S:World->Prop):Nat->Array Bool->Act->World->Prop
 |0,bP,a,w=>Region.ready .any ops bP=[]/\Q .normal a w
 |fuel+1,bP,a,w=>(Region.ready .any ops bP=[]->Q .normal a w) ∧
   ∀i∈Region.ready .any ops bP,wpOp P ops Q i (λa' w'=>(i=n\/S w')/\xM P ops Q n S fuel (bP.setIfInBounds i true) a' w') a w
theorem sY:∀(fuel:Nat) (bP:Array Bool) (a:Act) (w:World),xM P ops Q n S fuel bP a w->wpAny P .any ops Q fuel bP a w
 |0,_,_,_,h=>h
 |fuel+1,_,_,_,h=>⟨h.1,λi hi=>wpOp_mono (λa' w' h'=>sY fuel _ a' w' h'.2) (h.2 i hi)⟩
def Closed (ops:Array Oper) (bP:Array Bool):Prop:=∀j oj,ops[j]?=some oj->bP.getD j false=true->∀e∈oj.after,Region.binds .any e=true->bP.getD e.on false=true
theorem Closed.set {bP:Array Bool} {j:Nat} (h:Closed ops bP) (hj:j∈Region.ready .any ops bP):Closed ops (bP.setIfInBounds j true):=by
 obtain⟨_,oj,hoj,j3⟩:=mem_ready.1 hj
 intro k ok hk hl e he hb
 refine getD_set_true ?_
 by_cases hjk:j=k
 ·grind
 rw [getD_set_ne false hjk] at hl
 exact h k ok hk hl e he hb
theorem LQ (hs:Region.sinkB .any ops n=true) {bP:Array Bool} (hc:Closed ops bP):∀(m i:Nat),n-i<=m->i<n->bP.getD i false=false->n∉Region.ready .any ops bP
 |0,i,hm,hi,_=>d5
 |m+1,i,hm,hi,hu=>λhr=>by
   unfold Region.sinkB at hs
   rw [List.all_eq_true] at hs
   have h1:=hs i (List.mem_range.2 hi)
   rw [List.any_eq_true] at h1
   obtain⟨j,hj,h2⟩:=h1
   rw [ait,decide_eq_true_iff] at h2
   have hj:=List.mem_range.1 hj
   obtain⟨oj,hoj,e,he,hb,heq⟩:=Region.waitsFor_spec h2.2
   by_cases hjn:j=n
   ·subst hjn
    obtain⟨_,oj',adN,j3⟩:=mem_ready.1 hr
    rw [hoj] at adN
    cases adN
    have:=j3 e he hb
    rw [heq,hu] at this
    cases this
   cases hl:bP.getD j false with
   |true=>
     have:=hc j oj hoj hl e he hb
     rw [heq,hu] at this
     cases this
   |false=>exact LQ (by unfold Region.sinkB;rw [List.all_eq_true];exact hs) hc m j d5 d5 hl hr
theorem yL {bP:Array Bool} {i:Nat} (h:i∈Region.ready .any ops bP):bP.getD i false=false:=by
 have h1:=(mem_ready.1 h).1
 grind
theorem zA {i:Nat} {oi:Oper} {v:Value} (hi:ops[i]?=some oi) (hsel:Region.noSelect ops=true) (qb:Region.sinkB .any ops n=true) (hin:i<n) :
 ∀(fuel:Nat) (bP:Array Bool) (a:Act) (w:World),Closed ops bP →
   (∀j oj,ops[j]?=some oj->j≠i->bP.getD j true=false->(∀e∈oj.after,Region.binds .any e=true->e.on≠i)->oi.apart ops oj=true) →
   i∈Region.ready .any ops bP->YieldsIf P ops S oi v a->S w →
   xM P ops (NP Q) n S fuel (bP.setIfInBounds i true) (a.put oi.dst v) w->xM P ops (NP Q) n S (fuel+1) bP a w:=by
 intro fuel
 induction fuel with
 |zero=>
   intro bP a w _ _ hr hy hS H
   refine⟨λh=>(by rw [h] at hr;cases hr),λj hj=>?_⟩
   by_cases hji:j=i
   ·subst hji;exact hy.wpOp hi hS ⟨.inr hS,H⟩
   have:=ready_mono hj hji
   rw [H.1] at this
   cases this
 |succ fuel ih=>
   intro bP a w hcl hfree hr hy hS H
   refine⟨λh=>(by rw [h] at hr;cases hr),λj hj=>?_⟩
   by_cases hji:j=i
   ·subst hji;exact hy.wpOp hi hS ⟨.inr hS,H⟩
   have h1:=H.2 j (ready_mono hj hji)
   have hjn:j≠n:=λe=>by
    subst e
    exact LQ qb hcl _ i (N6 _) hin (yL hr) hj
   obtain⟨hjun,oj,hoj,j3⟩:=mem_ready.1 hj
   have hnot:∀e∈oj.after,Region.binds .any e=true->e.on≠i:=λe he hb heq=>by
    grind [yL]
   have h2:=wpOp_putIf (S:=S) (Q:=NP Q) hoj (hfree j oj hoj hji hjun hnot) (λcs b=>Region.noSelect_spec hsel i oi cs b hi) (λcs b=>Region.noSelect_spec hsel j oj cs b hoj) (λ_ _ _ h=>h) hy h1
   have hfree':∀k ok,ops[k]?=some ok->k≠i->(bP.setIfInBounds j true).getD k true=false →
    (∀e∈ok.after,Region.binds .any e=true->e.on≠i)->oi.apart ops ok=true:=λk ok hk hki hun jD=>by
    refine hfree k ok hk hki ?_ jD
    by_cases hjk:j=k
    ·subst hjk;exact hjun
    rw [getD_set_ne true hjk] at hun;exact hun
   refine wpOp_mono (λa' w' h3=>?_) h2
   have gG:S w':=h3.2.1.resolve_left hjn
   refine⟨.inr gG,ih (bP.setIfInBounds j true) a' w' (hcl.set hj) hfree' (ready_mono hr (Ne.symm hji)) h3.1 gG ?_⟩
   rw [Array.setIfInBounds_comm _ _ hji]
   exact h3.2.2
def ug (P:Program) (ops:Array Oper) (Q:Post) (S:World->Prop):Nat->List Nat->Act->World->Prop
 |_,[],a,w=>Q .normal a w
 |0,i::l,a,w=>wpOp P ops Q i (λa' w'=>(l=[]\/S w')/\ug P ops Q S 0 l a' w') a w
 |r+1,i::l,a,w=>∃o v,ops[i]?=some o/\YieldsIf P ops S o v a/\ug P ops Q S r l (a.put o.dst v) w
def Db (ops:Array Oper) (n:Nat):Nat->List Nat->Array Bool->Bool
 |_,[],bP=>(Region.ready .any ops bP).isEmpty
 |0,i::l,bP=>(Region.ready .any ops bP == [i]) && (!l.isEmpty || i == n) && Db ops n 0 l (bP.setIfInBounds i true)
 |r+1,i::l,bP=>decide (i<n) && Region.free .any ops bP i && (Region.ready .any ops bP).contains i && Db ops n r l (bP.setIfInBounds i true)
theorem LR (hsel:Region.noSelect ops=true):∀(l:List Nat) (bP:Array Bool) (a:Act) (w:World),Db ops n 0 l bP=true->ug P ops (NP Q) S 0 l a w->xM P ops (NP Q) n S l.length bP a w
 |[],bP,a,w,hb,h=>⟨List.isEmpty_iff.1 hb,h⟩
 |i::l,bP,a,w,hb,h=>by
   unfold Db at hb
   simp only [ait,ai0] at hb
   obtain⟨⟨h1,h2⟩,h3⟩:=hb
   refine⟨λh0=>(by rw [h1] at h0;cases h0),λj hj=>?_⟩
   rw [h1] at hj
   have hj:j=i:=by simpa using hj
   subst hj
   refine wpOp_mono (λa' w' h4=>⟨?_,LR hsel l _ a' w' h3 h4.2⟩) h
   rcases h4.1 with h5|h5
   ·subst h5;exact .inl (by simpa using h2)
   exact .inr h5
theorem Kv (hsel:Region.noSelect ops=true) (qb:Region.sinkB .any ops n=true):∀(r:Nat) (l:List Nat) (bP:Array Bool) (a:Act) (w:World),Db ops n r l bP=true->Closed ops bP->S w->ug P ops (NP Q) S r l a w->xM P ops (NP Q) n S l.length bP a w
 |0,l,bP,a,w,hb,_,_,h=>LR hsel l bP a w hb h
 |r+1,[],bP,a,w,hb,_,_,h=>⟨List.isEmpty_iff.1 hb,h⟩
 |r+1,i::l,bP,a,w,hb,hc,hS,h=>by
   unfold Db at hb
   simp only [ait,decide_eq_true_iff] at hb
   obtain⟨⟨⟨h1,h2⟩,h3⟩,h4⟩:=hb
   obtain⟨o,v,ho,hy,hk⟩:=h
   have hr:i∈Region.ready .any ops bP:=by simpa using h3
   exact zA ho hsel qb h1 l.length bP a w hc (Region.free_spec ho h2) hr hy hS (Kv hsel qb r l _ _ w h4 (hc.set hr) hS hk)
def Eo (ops:Array Oper) (perm:List Nat) (nr:Nat):Bool:=
 Region.noSelect ops && Region.sinkB .any ops (ops.size-1) && (perm.length == ops.size) && Db ops (ops.size-1) nr perm (Array.replicate ops.size false)
end order
section mix
variable {P:Program} {β:Bs} {N:fP} {ops:Array Oper} {S:List HP} {r r':Nat} {l l':List Nat} {fr bN:Fr} {ay:List HP} {Q:Post} {eT:List Prop} {d:Option Tmp} {op:Op} {v:Value} {i:Nat} {pk:List Nat}
def cC (P:Program) (β:Bs) (N:fP) (ops:Array Oper) (S:List HP) (r:Nat) (l:List Nat) (fr:Fr) (ay:List HP) (Q:Post):Prop:=
 ∀ar w,aP β ay w->ug P ops (NP Q) (aP β S) r l (fk N fr ar) w
theorem av.VS {id:Nat} (perm:List Nat) (nr:Nat) (pk:List Nat) (hm:P.follows .mixedOrders=true) (hB:Eo ops perm nr=true) (hn:bU pk=true) (hp:cT ay pk=some S) (h:cC P β N ops S nr perm fr ay Q):av P β N (.region id ops true) fr ay Q:=by
 intro ar w hS
 unfold Eo at hB
 simp only [ait,ai0] at hB
 obtain⟨⟨⟨h1,h2⟩,h3⟩,h4⟩:=hB
 have gG:=hS.drewN 1
 have h5:=Kv (Q:=Q) h1 h2 nr perm _ _ _ h4 (λj oj _ hl=>by simp [Array.getD_eq_getD_getElem?,Array.getElem?_replicate] at hl;split at hl<;>simp at hl) (gG.pick hn hp) (h ar (w.drewN 1) gG)
 rw [h3] at h5
 refine aiY (λe a w q=>?_) (wp_region_any hm (sY _ _ _ _ h5))
 cases e with
 |normal=>exact q
 |exit id=>exact q.elim
 |goto l=>exact q.elim
 |ret=>exact q.elim
 |panic ch=>exact q.elim
 |outgrown=>exact q.elim
def CA:Value->Bool
 |.tuple a=>decide (a.size≠0)
 |_=>true
theorem uM {v:Value} (h:CA v=true):¬v=undef:=λe=>by subst e;exact KB h (by decide)
def CB (P:Program) (β:Bs) (N:fP) (ar:Nat->Value) (ops:Array Oper):List OH->List Nat->Fr->SS->Option (Fr×SS)
 |[],[],fr,S=>some (fr,S)
 |h::hs,i::is,fr,S=>
   match ops[i]? with
   |some o=>
     match o.guard with
     |none=>
       match zq P β 0 true (fo N fr ar) o h S with
       |some (v,S')=>
         match CA v with
         |true=>CB P β N ar ops hs is (eX fr o.dst v) S'
         |false=>none
       |none=>none
     |some _=>none
   |none=>none
 |_,_,_,_=>none
def FT (P:Program) (β:Bs) (N:fP) (ar:Nat->Value) (ops:Array Oper) (hs:List OH) (is:List Nat) (fr:Fr) (S:List HP) (ax:List Nat):Option (Fr×List Prop):=
 match CB P β N ar ops hs is fr ⟨[],S,[],true⟩ with
 |some (bN,S')=>some (kO bN ar ax,S'.eT)
 |none=>none
theorem I7 {ar:Nat->Value}:∀{hs:List OH} {is:List Nat} {fr bN:Fr} {S S':SS},CB P β N ar ops hs is fr S=some (bN,S')->∀p,p∈S.eT->p∈S'.eT
 |[],[],fr,bN,S,S',h,p,hp=>by cases h;exact hp
 |h::hs,i::is,fr,bN,S,S',hr,p,hp=>by
   unfold CB at hr
   repeat' split at hr
   all_goals first|(cases hr;done)|skip
   rename_i h0 _ _
   exact I7 hr p (HT h0 p hp)
 |[],_::_,_,_,_,_,h,_,_=>by cases h
 |_::_,[],_,_,_,_,h,_,_=>by cases h
theorem Ep {ar:Nat->Value} {w:World}:∀{hs:List OH} {is:List Nat} {fr bN:Fr} {T T':SS},CB P β N ar ops hs is fr T=some (bN,T')->(∀p,p∈T'.eT->p)->T.used=true->T.ay=S →
 ug P ops (NP Q) (aP β S) r l (fk N bN ar) w->ug P ops (NP Q) (aP β S) (is.length+r) (is++l) (fk N fr ar) w
 |[],[],fr,bN,T,T',h,ho,hu,hT,hK=>by cases h;simpa using hK
 |h::hs,i::is,fr,bN,T,T',hr,ho,hu,hT,hK=>by
   unfold CB at hr
   repeat' split at hr
   all_goals first|(cases hr;done)|skip
   rename_i o hget _ adO _ v T1 h0 _ hv
   obtain⟨e1,e2⟩:=y8 h0
   have e:(i::is).length+r=(is.length+r)+1:=by simp;omega
   rw [e,aiE]
   unfold ug
   refine⟨o,v,hget,.inl ⟨by unfold Region.wanted;rw [adO],λw' gG=>?_⟩,?_⟩
   ·rw [iY]
    obtain⟨w2,h1,_,_,h4⟩:=p4 h0 (λp hp=>ho p (I7 hr p hp)) (by rw [hT];exact gG) (λe=>by rw [hu] at e;cases e)
    obtain⟨ew,_⟩:=h4 rfl
    rw [ew] at h1
    rcases h1 with h1|⟨h1,_⟩
    ·exact h1
    exact KB h1 (uM hv)
   rw [gS]
   exact Ep hr ho (e2.trans hu) (e1.trans hT) hK
 |[],_::_,_,_,_,_,h,_,_,_,_=>by cases h
 |_::_,[],_,_,_,_,h,_,_,_,_=>by cases h
theorem cC.reads (is:List Nat) (hs:List OH) (ax:List Nat) (h:∀ar,FT P β N ar ops hs is fr S ax=some (bN,eT)) (ho:oP eT) (hr:r'=is.length+r) (hl:l'=is++l) (K:cC P β N ops S r l bN ay Q):cC P β N ops S r' l' fr ay Q:=by
 intro ar w hS
 subst hr hl
 have h0:=h ar
 unfold FT at h0
 split at h0
 ·rename_i fr1 S1 h1
  cases h0
  have hK:=K (lk fr1 ar) w hS
  rw [←nS] at hK
  exact Ep h1 (λp hp=>ho.mem hp) rfl rfl hK
 cases h0
def VT (ops:Array Oper) (i:Nat):Option (Op×Option Tmp):=match ops[i]? with
 |some o=>match o.guard with
   |none=>some (o.op,o.dst)
   |some _=>none
 |none=>none
theorem Y6 (h:VT ops i=some (op,d)):∃o,ops[i]?=some o/\o.guard=none/\o.op=op/\o.dst=d:=by
 grind [VT]
theorem cC.afW (cD:VT ops i=some (op,d)) (h:∀(o:Oper) ar w,o.op=op->aP β S w->sB P (fo N fr ar) o w v w) (hv:CA v=true) (K:cC P β N ops S r l (eX fr d v) ay Q):cC P β N ops S (r+1) (i::l) fr ay Q:=by
 intro ar w hS
 obtain⟨o,h1,h2,h3,rfl⟩:=Y6 cD
 unfold ug
 refine⟨o,v,h1,.inl ⟨by unfold Region.wanted;rw [h2],λw' gG=>?_⟩,?_⟩
 all_goals grind [iY,uM,gS,VT,aP,sB,fo,CA,cC,eX]
def Er (β:Bs) (N:fP) {ι:Type} (fr:ι->Fr) (hp:ι->List HP):Post:=λ_ a w=>∃i ar,a=fk N (fr i) ar/\aP β (hp i) w
theorem cC.cut {ι:Type} {bN:ι->Fr} {dh:ι->List HP} {o:Oper} (pk:List Nat) (cD:ops[i]?=some o) (hg:o.guard=none) (h:aB P β N #[o] 0 fr ay (NP (Er β N bN dh))) (hn:bU pk=true) (hp:∀j,cT (dh j) pk=some S)
 (K:∀j,cC P β N ops S 0 l (bN j) (dh j) Q):cC P β N ops S 0 (i::l) fr ay Q:=by
 intro ar w hS
 unfold ug
 refine vC cD hg ?_
 have h1:=h ar w hS
 have h2:wpList P #[o] (NP (Er β N bN dh)) [o] (fk N fr ar) w:=h1
 refine Bg (λa w ⟨j,nV,ha,gG⟩=>?_) h2
 subst ha
 exact⟨.inr (gG.pick hn (hp j)),K j nV w gG⟩
theorem cC.last {o:Oper} (cD:ops[i]?=some o) (hg:o.guard=none) (h:aB P β N #[o] 0 fr ay (NP Q)):cC P β N ops S 0 [i] fr ay Q:=by
 grind [ug,vC,NP,fk,Bg,aB,cC]
theorem aF.mid {ι:Type} {bN:ι->Fr} {dh:ι->List HP} (j:ι) {ax pk:List Nat} (hf:∀ar,kO fr ar ax=bN j) (hn:bU pk=true) (hp:cT ay pk=some (dh j)):aF β N (NP (Er β N bN dh)) .normal fr ay:=
 λar _ hS=>⟨j,lk fr ar,by rw [nS N fr ar ax,hf ar],hS.pick hn hp⟩
theorem aF.np (h:aF β N Q .normal fr ay):aF β N (NP Q) .normal fr ay:=λar w hS=>h ar w hS
section maps
open Go.Maps
variable {t K E:TypeId} {b cnt:Nat} {f:Lit->Option Value} {x ix:Operand} {key z:Value} {kl:Lit} {q:Option Value}
theorem cC.jo (p:Nat) (cD:VT ops i=some (.lookup t x ix false,d)) (hp:S[p]?=some (.abs (bM P K b f cnt))) (hx:∀ar,fo N fr ar x=.map (some b)) (fT:∀ar,fo N fr ar ix=key) (L:Keyed P K)
 (ht:P.underlying t=some (.map K E)) (hz:∀w,(zeroValue E).run P w=.ok z w) (mo:keyOf P K key=some kl) (hr:f kl=q) (hv:CA (q.getD z)=true) (K':cC P β N ops S r l (eX fr d (q.getD z)) ay Q):cC P β N ops S (r+1) (i::l) fr ay Q:=by
 subst hr
 exact cC.afW cD (λ_ ar w ho hS=>C9 ho (bM.get hS hp) (hx ar) (fT ar) L ht (hz w) mo) hv K'
end maps
end mix
structure OP where
 h:OH
 ps:List Prop
 pf:oP ps
def n_:OP:=⟨o_,[],trivial⟩
def a_ (i b:Nat):OP:=⟨⟨[.at i],none,none,none,none⟩,[b=b],rfl,trivial⟩
def v_ {A:eG} {a:Addr} {v:Value} (i:Nat) (h:∀F w,A.h F w->w.cell? a=some v):OP:=⟨⟨[.view i v],none,none,none,none⟩,[∀F w,A.h F w->w.cell? a=some v],h,trivial⟩
def w_ {v:Value} (v':Value) (h:v=v'):OP:=⟨⟨[],none,none,none,some v'⟩,[v=v'],h,trivial⟩
def TL {α:Type} (x:α):Nat->List α
 |0=>[]
 |n+1=>x::TL x n
theorem adP {p:Prop} (h:p):∀n,oP (TL p n)
 |0=>trivial
 |n+1=>⟨h,adP h n⟩
def A_ (i b n:Nat):OP:=⟨⟨TL (.at i) n,none,none,none,none⟩,TL (b=b) n,adP rfl n⟩
def wI (x y:Int) (h:x=y:=by first|rfl|omega) (lo:-9223372036854775808<=y:=by omega) (hi:y<=9223372036854775807:=by omega):OP:=w_ (.int .i64 y) (vw h lo hi)
def p_ (h:OH) (ps:List Prop) (pf:oP ps):OP:=⟨h,ps,pf⟩
def dZ:Nat->List (Nat×OP)->Nat->List OP
 |0,_,_=>[]
 |n+1,l,i=>(match l with
   |(j,p)::r=>match Nat.beq i j with
     |true=>p::dZ n r (i+1)
     |false=>n_::dZ n l (i+1)
   |[]=>n_::dZ n [] (i+1))
def owed:List OP->List Prop
 |[]=>[]
 |p::r=>owed r++p.ps
def dR:List OP->List OH
 |[]=>[]
 |p::r=>p.h::dR r
theorem oP.app:∀{l r:List Prop},oP l->oP r->oP (l++r)
 |[],_,_,h=>h
 |_::_,_,h,g=>⟨h.1,oP.app h.2 g⟩
theorem uq:∀l:List OP,oP (owed l)
 |[]=>trivial
 |p::r=>(uq r).app p.pf
def bY:Fr->List Nat
 |[]=>[]
 |p::r=>p.1::bY r
def nj (t:Nat):List Nat->Bool
 |[]=>false
 |i::r=>match Nat.beq i t with
   |true=>true
   |false=>nj t r
def uN (ops:Array Oper):Nat->Nat->List Nat->List Nat->Bool
 |0,_,_,_=>true
 |n+1,k,add,fr=>(match ops.toList[k]? with
   |some o=>match o.dst with
     |some d=>match nj d add with
       |true=>true
       |false=>!nj d fr
     |none=>true
   |none=>true) && uN ops n (k+1) add fr
section fr
variable {P:Program} {β:Bs} {N:fP} {ops:Array Oper} {fr bN add:Fr} {ar:Nat->Value} {t:Nat} {v:Value}
theorem tM:∀{l:List Nat},nj t l=true↔t∈l
 |[]=>by simp [nj]
 |i::r=>by
   unfold nj
   by_cases h:i=t
   ·subst h;simp [Nat.beq_refl]
   have:Nat.beq i t=false:=by
    cases hb:Nat.beq i t
    ·rfl
    exact KB (Nat.eq_of_beq_eq_true hb) h
   rw [this,T8,tM (l:=r)]
   exact⟨.inr,λe=>e.elim (λe=>KB e.symm h) id⟩
theorem zB:∀{fr:Fr},t∉bY fr->lk fr ar t=ar t
 |[],_=>rfl
 |p::r,h=>by
   rw [show p::r=(p.1,p.2)::r from rfl,lV,nw (λe=>h (by rw [←e];exact T5)),zB (λe=>h (T4 _ e))]
theorem I8:∀{add fr:Fr},lk (add++fr) ar t=if t∈bY add then lk add ar t else lk fr ar t
 |[],fr=>by simp [bY]
 |(i,v)::r,fr=>by
   have e:bY ((i,v)::r)=i::bY r:=rfl
   rw [aiE,lV,lV,I8 (add:=r),e]
   by_cases h:i=t
   ·rw [t8 h,t8 h,t8 (by rw [h];exact T5)]
   rw [nw h,nw h]
   by_cases h2:t∈bY r
   ·rw [t8 h2,t8 (T4 _ h2)]
   rw [nw h2,nw (λe=>gn)]
theorem Ns:∀{fr:Fr} {j j':Nat->Value},t∈bY fr->lk fr j t=lk fr j' t
 |p::r,j,j',h=>by
   rw [show p::r=(p.1,p.2)::r from rfl,lV,lV]
   by_cases e:p.1=t
   ·rw [t8 e,t8 e]
   rw [nw e,nw e]
   rcases T8.1 h with h|h
   ·exact KB h.symm e
   exact Ns h
theorem I9:∀(ax:List Nat),bY (kO fr ar ax)=ax
 |[]=>rfl
 |i::r=>zc (i::·) (I9 r)
theorem Dc {n:Nat} {ro:Bool} {add:List Nat} {fr0:List Nat}:∀{hs:List OH} {k k':Nat} {fr bN:Fr} {S S':SS},pH P β n ro N ar ops hs k fr S=some (k',bN,S')->uN ops hs.length k add fr0=true->t∈fr0->t∉add->lk bN ar t=lk fr ar t
 |[],k,k',fr,bN,S,S',h,_,_,_=>by cases h;rfl
 |h::hs,k,k',fr,bN,S,S',hr,hb,h0,ha=>by
   unfold pH at hr
   have hb:uN ops (hs.length+1) k add fr0=true:=hb
   unfold uN at hb
   rw [ait] at hb
   split at hr
   ·cases hr
   rename_i o hget
   have key:∀v,lk (eX fr o.dst v) ar t=lk fr ar t:=λv=>by
    cases hd:o.dst with
    |none=>rfl
    |some d=>
      show lk ((d,v)::fr) ar t=_
      rw [lV,nw]
      intro e
      subst e
      have h1:=hb.1
      rw [hget] at h1
      simp only [hd] at h1
      cases h2:nj d add with
      |true=>exact ha (tM.1 h2)
      |false=>
        rw [h2] at h1
        rw [tM.2 h0] at h1
        cases h1
   split at hr
   ·split at hr
    ·exact (Dc hr hb.2 h0 ha).trans (key _)
    cases hr
   exact (Dc hr hb.2 h0 ha).trans (key _)
theorem NK {ax:List Nat} {n:Nat} {ro:Bool} {hs:List OH} {k k':Nat} {fr1:Fr} {S S':SS} (h:pH P β n ro N ar ops hs k fr S=some (k',fr1,S')) (hb:uN ops hs.length k ax (bY fr)=true):fk N fr1 ar=fk N (kO fr1 ar ax++fr) (lk fr1 ar):=by
 unfold fk
 have:(List.range N.n).map (lk fr1 ar)=(List.range N.n).map (lk (kO fr1 ar ax++fr) (lk fr1 ar)):=aiG (λt _=>by
  rw [I8,I9]
  by_cases h1:t∈ax
  ·rw [t8 h1,HM]
  rw [nw h1]
  by_cases h2:t∈bY fr
  ·rw [Ns (j':=ar) h2,Dc h hb h2 h1]
  rw [zB h2])
 rw [this]
end fr
theorem zD:∀{n i:Nat} {l:List (Nat×OP)},(dR (dZ n l i)).length=n
 |0,_,_=>rfl
 |n+1,i,l=>by
   unfold dZ
   split
   ·split
    ·exact zc (·+1) (zD (n:=n))
    exact zc (·+1) (zD (n:=n))
   exact zc (·+1) (zD (n:=n))
def sZ (l:List HP):List (Nat×HP)->List HP
 |[]=>l
 |(i,p)::r=>sZ (l.set i p) r
def adQ:List Value->List (Nat×Value)->List Value
 |cs,[]=>cs
 |cs,(j,u)::r=>adQ (cs.set j u) r
def agI (ds:List (Nat×Value)):HP->HP
 |.aD b cs T=>.aD b (adQ cs ds) T
 |p=>p
def NM:List HP->List (Nat×HP)->List HP
 |ay,[]=>ay
 |ay,(i,p)::r=>NM (ay.set i p) r
def adR (ds:List (Nat×Value)):List HP->Nat->List HP
 |[],_=>[]
 |p::r,0=>agI ds p::r
 |p::r,i+1=>p::adR ds r i
def kF:List HP->List (Nat×List (Nat×Value))->List HP
 |l,[]=>l
 |l,(i,ds)::r=>kF (adR ds l i) r
def uO:Nat->Nat->List Nat
 |0,_=>[]
 |n+1,i=>i::uO n (i+1)
section rules
variable {P:Program} {β:Bs} {N:fP} {ops:Array Oper} {k:Nat} {fr:Fr} {ay:List HP} {Q:Post}
theorem gW (n:Nat) (add:Nat->Fr) (l:Nat->List (Nat×OP)) (gj:Nat->List HP) (K:∀b,aB P β N ops (k+n) (add b++fr) (gj b) Q)
 (h:∀b ar,nM P β b false N ar ops (dR (dZ n (l b) 0)) k fr ay (bY (add b)) (uO (gj b).length 0)=some (k+n,add b,gj b,owed (dZ n (l b) 0)))
 (hb:∀b,uN ops n k (bY (add b)) (bY fr)=true):aB P β N ops k fr ay Q:=by
 intro ar w hS
 obtain⟨fr1,S,h1,h2,h3,h4,h5⟩:=HV (h w.heap.size ar)
 refine Ci h1 (λp hp=>(uq (dZ n (l w.heap.size) 0)).mem (h5 ▸ hp)) hS (λ_=>rfl) (λw' gG=>?_)
 have hk:=K w.heap.size (lk fr1 ar) w' (gG.pick h2 h3)
 grind [NK,zD]
theorem gN (n:Nat) (add:Nat->Fr) (l:Nat->List (Nat×OP)) (ds:Nat->List (Nat×List (Nat×Value))) (new:Nat->HP) (K:∀b,aB P β N ops (k+n) (add b++fr) (kF ay (ds b)++[new b]) Q)
 (h:∀b ar,nM P β b false N ar ops (dR (dZ n (l b) 0)) k fr ay (bY (add b)) (uO (kF ay (ds b)++[new b]).length 0)=some (k+n,add b,kF ay (ds b)++[new b],owed (dZ n (l b) 0)):=by intro _ _;kernel_rfl)
 (hb:∀b,uN ops n k (bY (add b)) (bY fr)=true:=by intro _;kernel_rfl):aB P β N ops k fr ay Q:=gW n add l _ K h hb
theorem gC (n:Nat) (add:Fr) (l:List (Nat×OP)) (ds:List (Nat×List (Nat×Value))) (K:aB P β N ops (k+n) (add++fr) (kF ay ds) Q)
 (h:∀b ar,nM P β b false N ar ops (dR (dZ n l 0)) k fr ay (bY add) (uO (kF ay ds).length 0)=some (k+n,add,kF ay ds,owed (dZ n l 0)):=by intro _ _;kernel_rfl)
 (hb:uN ops n k (bY add) (bY fr)=true:=by kernel_rfl):aB P β N ops k fr ay Q:=
 gW n (λ_=>add) (λ_=>l) (λ_=>kF ay ds) (λ_=>K) h (λ_=>hb)
theorem aB.jq (ds:List (Nat×HP)) (h:∀w,aP β ay w->aP β (NM ay ds) w) (K:aB P β N ops k fr (NM ay ds) Q):aB P β N ops k fr ay Q:=aB.mem h K
theorem aF.jq {e:Exit} (ds:List (Nat×HP)) (h:∀w,aP β ay w->aP β (NM ay ds) w) (K:aF β N Q e fr (NM ay ds)):aF β N Q e fr ay:=aF.mem h K
theorem gK (n:Nat) (add:Fr) (l:List (Nat×OP)) (K:aB P β N ops (k+n) (add++fr) ay Q)
 (h:∀b ar,nM P β b false N ar ops (dR (dZ n l 0)) k fr ay (bY add) (uO ay.length 0)=some (k+n,add,ay,owed (dZ n l 0)):=by intro _ _;kernel_rfl)
 (hb:uN ops n k (bY add) (bY fr)=true:=by kernel_rfl):aB P β N ops k fr ay Q:=gW n (λ_=>add) (λ_=>l) (λ_=>ay) (λ_=>K) h (λ_=>hb)
theorem gQ (n:Nat) (add:Fr) (l:List (Nat×OP)) (K:bJ P β N ops (k+n) (add++fr) ay Q)
 (h:∀b ar,nM P β b true N ar ops (dR (dZ n l 0)) k fr ay (bY add) (uO ay.length 0)=some (k+n,add,ay,owed (dZ n l 0)):=by intro _ _;kernel_rfl)
 (hb:uN ops n k (bY add) (bY fr)=true:=by kernel_rfl):bJ P β N ops k fr ay Q:=by
 intro ar
 obtain⟨fr1,S,h1,h2,h3,h4,h5⟩:=HV (h 0 ar)
 refine Cj h1 (λp hp=>(uq (dZ n l 0)).mem (h5 ▸ hp)) rfl (λ_=>?_)
 have hk:=K (lk fr1 ar)
 grind [NK,zD]
theorem NL (K:aF β N Q .normal fr ay) (h:ops.toList.drop k=[]:=by kernel_rfl):aB P β N ops k fr ay Q:=aB.nil h K
theorem NQ (K:aF β N Q .normal fr ay) (h:ops.toList.drop k=[]:=by kernel_rfl):bJ P β N ops k fr ay Q:=bJ.nil h K
variable {c x y z:Code} {o:Operand} {id id':Nat} {lE:Array Oper} {e:Exit}
theorem SR {f:Bool} (h:aB P β N lE 0 fr ay (Exit.then (y.wp P Q) Q)) (hf:f=false:=by rfl):av P β N (.seq (.region id lE f) y) fr ay Q:=by
 subst hf;exact av.seq (av.region h)
theorem NX (h:av P β N y fr ay Q):aF β N (Exit.then (y.wp P Q) Q) .normal fr ay:=aF.next h
theorem NN (K:av P β N y fr ay Q) (h:ops.toList.drop k=[]:=by kernel_rfl):aB P β N ops k fr ay (Exit.then (y.wp P Q) Q):=NL (NX K) h
theorem NS {f:Bool} (K:aB P β N lE 0 fr ay (Exit.then (y.wp P Q) Q)) (h:ops.toList.drop k=[]:=by kernel_rfl) (hf:f=false:=by rfl):aB P β N ops k fr ay (Exit.then ((Code.seq (.region id lE f) y).wp P Q) Q):=NN (SR K hf) h
theorem CT (ht:av P β N x fr ay Q) (h:∀ar,fo N fr ar o=.bool true:=by intro _;kernel_rfl):av P β N (.cond o x y) fr ay Q:=av.afN h ht
theorem CF (hf:av P β N y fr ay Q) (h:∀ar,fo N fr ar o=.bool false:=by intro _;kernel_rfl):av P β N (.cond o x y) fr ay Q:=av.afO h hf
def lS (pre:List Nat) (l:List HP):Nat->List HP
 |i=>match l with
   |[]=>[]
   |p::r=>match nj i pre with
     |true=>lS pre r (i+1)
     |false=>p::lS pre r (i+1)
def oq (pre:List Nat):Nat->Nat->List Nat
 |0,_=>[]
 |n+1,i=>match nj i pre with
   |true=>oq pre n (i+1)
   |false=>i::oq pre n (i+1)
def jI (ops:Array Oper) (k:Nat):Option Tmp:=match ops.toList[k]? with
 |some o=>o.dst
 |none=>none
variable {f:FuncId} {args:Array Value} {pre:List HP} {post:Value->List HP->Prop}
theorem gL (ix:List Nat) (hs:aU P β f args pre post) (K:∀v l,post v l->aB P β N ops (k+1) (eX fr (jI ops k) v) (l++lS ix ay 0) Q)
 (hc:∀ar,qG P β N ar ops fr k=some (f,args,jI ops k):=by intro _;kernel_rfl) (hn:bU (ix++oq ix ay.length 0)=true:=by kernel_rfl) (hp:cT ay (ix++oq ix ay.length 0)=some (pre++lS ix ay 0):=by kernel_rfl):aB P β N ops k fr ay Q:=
 aB.call hc hs hn hp K
variable {R:eG} {fn:Func} {l:List HP} {v:Value}
theorem RT {n0:Nat} (v:Value) (pk:List Nat) (kE:post v l) (hr:∀ar,rH P β ⟨n0,[]⟩ ar fn fr ay []=some (v,[]):=by intro _;kernel_rfl) (hn:bU pk=true:=by kernel_rfl) (hp:cT ay pk=some (l++[.abs R]):=by kernel_rfl) :
 aF β ⟨n0,[]⟩ (bodyPost P fn (zw β R post)) .ret fr ay:=aF.ret [] pk hr trivial hn hp kE
theorem RF {n0:Nat} (v:Value) (pk:List Nat) (kE:post v l) (hr:∀ar,rH P β ⟨n0,[]⟩ ar fn fr ay []=some (v,[]):=by intro _;kernel_rfl) (hn:bU pk=true:=by kernel_rfl) (hp:cT ay pk=some (l++[.abs R]):=by kernel_rfl) :
 aF β ⟨n0,[]⟩ (bodyPost P fn (zw β R post)) .normal fr ay:=aF.fin [] pk hr trivial hn hp kE
theorem MD {ι:Type} {bN:ι->Fr} {dh:ι->List HP} (j:ι) (ax pk:List Nat) (hf:∀ar,kO fr ar ax=bN j:=by intro _;kernel_rfl) (hn:bU pk=true:=by kernel_rfl) (hp:cT ay pk=some (dh j):=by kernel_rfl):aF β N (NP (Er β N bN dh)) .normal fr ay:=aF.mid j hf hn hp
variable {S:List HP} {i:Nat} {lm:List Nat} {o':Oper}
theorem Es {ι:Type} {bN:ι->Fr} {dh:ι->List HP} (j:ι):aF β N (NP (Er β N bN dh)) .normal (bN j) (dh j):=λar _ hS=>⟨j,ar,rfl,hS⟩
theorem mC (pk:List Nat) (add:Fr) (l':List (Nat×OP)) (ds:List (Nat×List (Nat×Value))) (K:cC P β N ops S 0 lm (add++fr) (kF ay ds) Q) (cD:ops[i]?=some o':=by rfl) (hg:o'.guard=none:=by rfl)
 (h:∀b ar,nM P β b false N ar #[o'] (dR (dZ 1 l' 0)) 0 fr ay (bY add) (uO (kF ay ds).length 0)=some (0+1,add,kF ay ds,owed (dZ 1 l' 0)):=by intro _ _;kernel_rfl)
 (hb:uN #[o'] 1 0 (bY add) (bY fr)=true:=by kernel_rfl) (hn:bU pk=true:=by kernel_rfl) (hp:cT (kF ay ds) pk=some S:=by kernel_rfl):cC P β N ops S 0 (i::lm) fr ay Q:=
 cC.cut (ι:=Unit) (bN:=λ_=>add++fr) (dh:=λ_=>kF ay ds) pk cD hg (gC 1 add l' ds (aB.nil rfl (Es ())) h hb) hn (λ_=>hp) (λ_=>K)
theorem mN (pk:List Nat) (add:Nat->Fr) (l':Nat->List (Nat×OP)) (new:Nat->HP) (K:∀b,cC P β N ops S 0 lm (add b++fr) (ay++[new b]) Q) (cD:ops[i]?=some o':=by rfl) (hg:o'.guard=none:=by rfl)
 (h:∀b ar,nM P β b false N ar #[o'] (dR (dZ 1 (l' b) 0)) 0 fr ay (bY (add b)) (uO (ay++[new b]).length 0)=some (0+1,add b,ay++[new b],owed (dZ 1 (l' b) 0)):=by intro _ _;kernel_rfl)
 (hb:∀b,uN #[o'] 1 0 (bY (add b)) (bY fr)=true:=by intro _;kernel_rfl) (hn:bU pk=true:=by kernel_rfl) (hp:∀b,cT (ay++[new b]) pk=some S:=by intro _;kernel_rfl):cC P β N ops S 0 (i::lm) fr ay Q:=
 cC.cut (ι:=Nat) (bN:=λb=>add b++fr) (dh:=λb=>ay++[new b]) pk cD hg (gW 1 add l' (λb=>ay++[new b]) (λb=>aB.nil rfl (Es (bN:=λb=>add b++fr) (dh:=λb=>ay++[new b]) b)) h hb) hn hp K
theorem mL (pk ix:List Nat) (hs:aU P β f args pre post) (K:∀v l,post v l->cC P β N ops S 0 lm (eX fr (jI #[o'] 0) v) (l++lS ix ay 0) Q) (hp:∀v l,post v l->cT (l++lS ix ay 0) pk=some S) (cD:ops[i]?=some o':=by rfl) (hg:o'.guard=none:=by rfl)
 (hc:∀ar,qG P β N ar #[o'] fr 0=some (f,args,jI #[o'] 0):=by intro _;kernel_rfl) (hn':bU (ix++oq ix ay.length 0)=true:=by kernel_rfl) (dh:cT ay (ix++oq ix ay.length 0)=some (pre++lS ix ay 0):=by kernel_rfl) (hn:bU pk=true:=by kernel_rfl):cC P β N ops S 0 (i::lm) fr ay Q:=
 cC.cut (ι:={x:Value×List HP // post x.1 x.2}) (bN:=λj=>eX fr (jI #[o'] 0) j.1.1) (dh:=λj=>j.1.2++lS ix ay 0) pk cD hg (gL ix hs (λv l hv=>aB.nil rfl (Es (bN:=λj:{x:Value×List HP // post x.1 x.2}=>eX fr (jI #[o'] 0) j.1.1) (dh:=λj=>j.1.2++lS ix ay 0) ⟨(v,l),hv⟩)) hc hn' dh) hn (λj=>hp _ _ j.2) (λj=>K _ _ j.2)
end rules
section order
variable {P:Program} {ops:Array Oper} {Q Q':Post} {n:Nat} {S:World->Prop}
def kJ (P:Program) (ops:Array Oper) (Q:Post) (S:World->Prop):List (Bool×Nat)->Act->World->Prop
 |[],a,w=>Q .normal a w
 |(false,i)::l,a,w=>wpOp P ops Q i (λa' w'=>(l=[]\/S w')/\kJ P ops Q S l a' w') a w
 |(true,i)::l,a,w=>∃o v,ops[i]?=some o/\YieldsIf P ops S o v a/\kJ P ops Q S l (a.put o.dst v) w
def Dd (ops:Array Oper) (n:Nat):List (Bool×Nat)->Array Bool->Bool
 |[],bP=>(Region.ready .any ops bP).isEmpty
 |(false,i)::l,bP=>(Region.ready .any ops bP == [i]) && (!l.isEmpty || i == n) && Dd ops n l (bP.setIfInBounds i true)
 |(true,i)::l,bP=>decide (i<n) && Region.free .any ops bP i && (Region.ready .any ops bP).contains i && Dd ops n l (bP.setIfInBounds i true)
theorem zE (hsel:Region.noSelect ops=true) (qb:Region.sinkB .any ops n=true):∀(l:List (Bool×Nat)) (bP:Array Bool) (a:Act) (w:World),Dd ops n l bP=true->Closed ops bP->(l=[]\/S w)->kJ P ops (NP Q) S l a w->xM P ops (NP Q) n S l.length bP a w
 |[],bP,a,w,hb,_,_,h=>⟨List.isEmpty_iff.1 hb,h⟩
 |(false,i)::l,bP,a,w,hb,hc,_,h=>by
   unfold Dd at hb
   simp only [ait,ai0] at hb
   obtain⟨⟨h1,h2⟩,h3⟩:=hb
   refine⟨λh0=>(by rw [h1] at h0;cases h0),λj hj=>?_⟩
   have hr:=hj
   rw [h1] at hj
   have hj:j=i:=by simpa using hj
   subst hj
   refine wpOp_mono (λa' w' h4=>⟨?_,zE hsel qb l _ a' w' h3 (hc.set hr) h4.1 h4.2⟩) h
   rcases h4.1 with h5|h5
   ·subst h5;exact .inl (by simpa using h2)
   exact .inr h5
 |(true,i)::l,bP,a,w,hb,hc,hS,h=>by
   unfold Dd at hb
   simp only [ait,decide_eq_true_iff] at hb
   obtain⟨⟨⟨h1,h2⟩,h3⟩,h4⟩:=hb
   obtain⟨o,v,ho,hy,hk⟩:=h
   have hS:S w:=hS.resolve_left nh
   have hr:i∈Region.ready .any ops bP:=by simpa using h3
   exact zA ho hsel qb h1 l.length bP a w hc (Region.free_spec ho h2) hr hy hS (zE hsel qb l _ _ w h4 (hc.set hr) (.inr hS) hk)
def CC (ops:Array Oper) (l:List (Bool×Nat)):Bool:=
 Region.noSelect ops && Region.sinkB .any ops (ops.size-1) && (l.length == ops.size) && Dd ops (ops.size-1) l (Array.replicate ops.size false)
def kY (ops:Array Oper) (i:Nat):Array Oper:=⟨ops.toList.take (i+1)⟩
def gB (ops:Array Oper) (i:Nat):Bool:=match ops[i]? with
 |some o=>match o.guard with
   |none=>true
   |some (j,_)=>decide (j<=i)
 |none=>false
theorem VU {i j:Nat} (h:j<=i):(kY ops i)[j]?=ops[j]?:=by
 grind [kY]
theorem sE {i:Nat} {a:Act} {w:World} {K:Act->World->Prop} (hg:gB ops i=true) (h:wpList P (kY ops i) (NP λ_ a w=>K a w) ((kY ops i).toList.drop i) a w):wpOp P ops (NP Q) i K a w:=by
 unfold gB at hg
 split at hg
 ·rename_i o ho
  have hd:(kY ops i).toList.drop i=[o]:=by
   have hl:ops.toList[i]?=some o:=by simpa using ho
   have hi:i<ops.toList.length:=dH hl
   show (ops.toList.take (i+1)).drop i=[o]
   rw [List.drop_take]
   rw [show i+1-i=1 by omega,aiR hi]
   grind
  have hw:Region.wanted o (yielded (kY ops i) a.tmps)=Region.wanted o (yielded ops a.tmps):=by
   unfold Region.wanted
   split at hg
   ·rename_i hn;rw [hn]
   rename_i j b hn
   rw [hn]
   have hj:j<=i:=by simpa using hg
   have:yielded (kY ops i) a.tmps j=yielded ops a.tmps j:=by
    unfold yielded
    rw [VU hj]
   simp only [this]
  rw [hd] at h
  unfold wpOp
  simp only [ho]
  unfold wpList at h
  rw [hw] at h
  split at h
  ·rename_i hw
   rw [t8 hw]
   rcases h with h|⟨_,h⟩
   ·exact .inl (Nr (Oper.wp_mono (λa w h=>h) h))
   exact (vB h).elim
  rename_i hw
  rw [nw hw]
  exact h
 cases hg
end order
theorem rJ {P:Program} {ops:Array Oper} {Q Q':Post} (hq:∀a w,Q .normal a w->Q' .normal a w):∀(l:List Oper) {a:Act} {w:World},wpList P ops (NP Q) l a w->wpList P ops (NP Q') l a w
 |[],_,_,h=>hq _ _ h
 |o::r,a,w,h=>by
   unfold wpList at *
   split
   ·rename_i hw
    rw [t8 hw] at h
    rcases h with h|⟨_,h⟩
    ·exact .inl (Nr (Oper.wp_mono (λa w h=>rJ hq r h) h))
    exact (vB h).elim
   rename_i hw
   rw [nw hw] at h
   exact rJ hq r h
section mix
variable {P:Program} {β:Bs} {N:fP} {ops:Array Oper} {S:List HP} {l l':List (Bool×Nat)} {fr bN:Fr} {ay:List HP} {Q:Post} {eT:List Prop} {i:Nat} {pk:List Nat}
def eH (P:Program) (β:Bs) (N:fP) (ops:Array Oper) (S:List HP) (l:List (Bool×Nat)) (fr:Fr) (ay:List HP) (Q:Post):Prop:=
 ∀ar w,aP β ay w->kJ P ops (NP Q) (aP β S) l (fk N fr ar) w
theorem av.TM {id:Nat} (l:List (Bool×Nat)) (pk:List Nat) (hm:P.follows .mixedOrders=true) (hB:CC ops l=true) (hn:bU pk=true) (hp:cT ay pk=some S) (h:eH P β N ops S l fr ay Q):av P β N (.region id ops true) fr ay Q:=by
 intro ar w hS
 unfold CC at hB
 simp only [ait,ai0] at hB
 obtain⟨⟨⟨h1,h2⟩,h3⟩,h4⟩:=hB
 have gG:=hS.drewN 1
 have h5:=zE (Q:=Q) h1 h2 l _ _ _ h4 (λj oj _ hl=>by simp [Array.getD_eq_getD_getElem?,Array.getElem?_replicate] at hl;split at hl<;>simp at hl) (.inr (gG.pick hn hp)) (h ar (w.drewN 1) gG)
 rw [h3] at h5
 refine aiY (λe a w q=>?_) (wp_region_any hm (sY _ _ _ _ h5))
 cases e with
 |normal=>exact q
 |exit id=>exact q.elim
 |goto l=>exact q.elim
 |ret=>exact q.elim
 |panic ch=>exact q.elim
 |outgrown=>exact q.elim
def o8 (P:Program) (β:Bs) (N:fP) (ar:Nat->Value) (ops:Array Oper):List OH->List Nat->Fr->SS->Option (Fr×SS)
 |[],[],fr,S=>some (fr,S)
 |h::hs,i::is,fr,S=>
   match ops[i]? with
   |some o=>
     match Region.wanted o (yF ops N fr ar) with
     |true=>
       match zq P β 0 true (fo N fr ar) o h S with
       |some (v,S')=>
         match CA v with
         |true=>o8 P β N ar ops hs is (eX fr o.dst v) S'
         |false=>none
       |none=>none
     |false=>o8 P β N ar ops hs is (eX fr o.dst undef) S
   |none=>none
 |_,_,_,_=>none
def rK (P:Program) (β:Bs) (N:fP) (ar:Nat->Value) (ops:Array Oper) (hs:List OH) (is:List Nat) (fr:Fr) (S:List HP) (ax:List Nat):Option (Fr×List Prop):=
 match o8 P β N ar ops hs is fr ⟨[],S,[],true⟩ with
 |some (bN,S')=>some (kO bN ar ax,S'.eT)
 |none=>none
theorem vD {ar:Nat->Value}:∀{hs:List OH} {is:List Nat} {fr bN:Fr} {S S':SS},o8 P β N ar ops hs is fr S=some (bN,S')->∀p,p∈S.eT->p∈S'.eT
 |[],[],fr,bN,S,S',h,p,hp=>by cases h;exact hp
 |h::hs,i::is,fr,bN,S,S',hr,p,hp=>by
   unfold o8 at hr
   repeat' split at hr
   all_goals first|(cases hr;done)|skip
   ·rename_i h0 _ _
    exact vD hr p (HT h0 p hp)
   exact vD hr p hp
 |[],_::_,_,_,_,_,h,_,_=>by cases h
 |_::_,[],_,_,_,_,h,_,_=>by cases h
theorem zF {ar:Nat->Value} {w:World}:∀{hs:List OH} {is:List Nat} {fr bN:Fr} {T T':SS},o8 P β N ar ops hs is fr T=some (bN,T')->(∀p,p∈T'.eT->p)->T.used=true->T.ay=S →
 kJ P ops (NP Q) (aP β S) l (fk N bN ar) w->kJ P ops (NP Q) (aP β S) (is.map (λi=>(true,i))++l) (fk N fr ar) w
 |[],[],fr,bN,T,T',h,ho,hu,hT,hK=>by cases h;exact hK
 |h::hs,i::is,fr,bN,T,T',hr,ho,hu,hT,hK=>by
   unfold o8 at hr
   repeat' split at hr
   all_goals first|(cases hr;done)|skip
   ·rename_i o hget _ hwant _ v T1 h0 _ hv
    obtain⟨e1,e2⟩:=y8 h0
    rw [aiB,aiE]
    unfold kJ
    refine⟨o,v,hget,.inl ⟨by rw [gY];exact hwant,λw' gG=>?_⟩,?_⟩
    ·rw [iY]
     obtain⟨w2,h1,_,_,h4⟩:=p4 h0 (λp hp=>ho p (vD hr p hp)) (by rw [hT];exact gG) (λe=>by rw [hu] at e;cases e)
     obtain⟨ew,_⟩:=h4 rfl
     rw [ew] at h1
     rcases h1 with h1|⟨h1,_⟩
     ·exact h1
     exact KB h1 (uM hv)
    rw [gS]
    exact zF hr ho (e2.trans hu) (e1.trans hT) hK
   rename_i o hget _ hwant
   rw [aiB,aiE]
   unfold kJ
   refine⟨o,undef,hget,.inr ⟨by rw [gY];exact hwant,rfl⟩,?_⟩
   rw [gS]
   exact zF hr ho hu hT hK
 |[],_::_,_,_,_,_,h,_,_,_,_=>by cases h
 |_::_,[],_,_,_,_,h,_,_,_,_=>by cases h
theorem eH.reads (is:List Nat) (hs:List OH) (ax:List Nat) (h:∀ar,rK P β N ar ops hs is fr S ax=some (bN,eT)) (ho:oP eT) (hl:l'=is.map (λi=>(true,i))++l) (K:eH P β N ops S l bN ay Q):eH P β N ops S l' fr ay Q:=by
 intro ar w hS
 subst hl
 have h0:=h ar
 unfold rK at h0
 split at h0
 ·rename_i fr1 S1 h1
  cases h0
  have hK:=K (lk fr1 ar) w hS
  rw [←nS] at hK
  exact zF h1 (λp hp=>ho.mem hp) rfl rfl hK
 cases h0
theorem eH.cut {ι:Type} {bN:ι->Fr} {dh:ι->List HP} (pk:List Nat) (hg:gB ops i=true) (h:aB P β N (kY ops i) i fr ay (NP (Er β N bN dh))) (hn:bU pk=true) (hp:∀j,cT (dh j) pk=some S)
 (K:∀j,eH P β N ops S l (bN j) (dh j) Q):eH P β N ops S ((false,i)::l) fr ay Q:=by
 intro ar w hS
 unfold kJ
 refine sE hg (rJ (Q':=_) (λa w ⟨j,nV,ha,gG⟩=>?_) _ (h ar w hS))
 subst ha
 exact⟨.inr (gG.pick hn (hp j)),K j nV w gG⟩
theorem eH.last (hg:gB ops i=true) (h:aB P β N (kY ops i) i fr ay (NP Q)):eH P β N ops S [(false,i)] fr ay Q:=by
 grind [kJ,sE,rJ,gB,aB,kY,NP,eH]
end mix
def r_ {β:Bs} {a:Addr} {v:Value} (h:Rd β a v):OP:=⟨⟨[.old v],none,none,none,none⟩,[Rd β a v],h,trivial⟩
def x_ {A:Option Addr} (k n:Nat) (hA:A=some ⟨bG A,bE A,none⟩) (hk:k<n:=by omega):OP:=⟨⟨[],some k,none,some ⟨bG A,bE A,none⟩,none⟩,[((k:Nat):Int)=((k:Nat):Int),k<n,(⟨bG A,bE A,none⟩:Addr).spot=none,A=some ⟨bG A,bE A,none⟩],rfl,hk,rfl,hA,trivial⟩
def r2 {β:Bs} {a a':Addr} {v v':Value} (h:Rd β a v) (h':Rd β a' v'):OP:=⟨⟨[.old v,.old v'],none,none,none,none⟩,[Rd β a' v',Rd β a v],h',h,trivial⟩
def v2 {A:eG} {a a':Addr} {v v':Value} (i:Nat) (h:∀F w,A.h F w->w.cell? a=some v) (h':∀F w,A.h F w->w.cell? a'=some v'):OP:=⟨⟨[.view i v,.view i v'],none,none,none,none⟩,[∀F w,A.h F w->w.cell? a'=some v',∀F w,A.h F w->w.cell? a=some v],h',h,trivial⟩
def xP (k:Nat) (p:Prop) (h:p:=by omega):OP:=⟨⟨[],some k,none,none,none⟩,[((k:Nat):Int)=((k:Nat):Int),p],rfl,h,trivial⟩
def wJ (x y:Int) (h:x=y:=by omega) (lo:-9223372036854775808<=y:=by omega) (hi:y<=9223372036854775807:=by omega):OP:=w_ (.int .i64 y) (vw h lo hi)
def wT (p:Prop) [Decidable p] (h:p:=by omega):OP:=w_ (v:=.bool (decide p)) (.bool true) (zc Value.bool (aio h))
def wF (p:Prop) [Decidable p] (h:¬p:=by omega):OP:=w_ (v:=.bool (decide p)) (.bool false) (zc Value.bool (Lk h))
def wNF (p:Prop) [Decidable p] (h:¬p:=by omega):OP:=w_ (v:=.bool (!decide p)) (.bool true) (zc (λb=>Value.bool !b) (Lk h))
def Y7 (β:Bs) (b o:Nat):List Value->List Prop->List Prop
 |[],l=>l
 |v::r,l=>Y7 β b (o+1) r (Rd β ⟨b,o,none⟩ v::l)
theorem NR {β:Bs} {b:Nat}:∀{vs:List Value} {o:Nat} {l:List Prop},(∀j v,vs[j]?=some v->Rd β ⟨b,o+j,none⟩ v)->oP l->oP (Y7 β b o vs l)
 |[],_,_,_,h=>h
 |v::r,o,l,h,hl=>NR (vs:=r) (λj u hu=>by have:=h (j+1) u hu;rw [show o+(j+1)=o+1+j by omega] at this;exact this) ⟨h 0 v rfl,hl⟩
def Et {β:Bs} {b o:Nat} (vs:List Value) (h:∀j v,vs[j]?=some v->Rd β ⟨b,o+j,none⟩ v):OP:=⟨⟨vs.map .old,none,none,none,none⟩,Y7 β b o vs [],NR h trivial⟩
section rules
variable {P:Program} {β:Bs} {N:fP} {ops:Array Oper} {k:Nat} {fr:Fr} {ay:List HP} {Q:Post}
def fJ (P:Program) (β:Bs) (b:Nat) (ro:Bool) (N:fP) (ops:Array Oper) (hs:List OH) (k:Nat) (fr:Fr) (ay:List HP) (ax:List Nat):Fr:=
 match pH P β b ro N (λ_=>undef) ops hs k fr ⟨[],ay,[],ro⟩ with
 |some (_,bN,_)=>kO bN (λ_=>undef) ax
 |none=>[]
def fK (P:Program) (β:Bs) (b:Nat) (ro:Bool) (N:fP) (ops:Array Oper) (hs:List OH) (k:Nat) (fr:Fr) (ay:List HP) (ax:List Nat):Fr:=fJ P β b ro N ops hs k fr ay ax++fr
def zN:Nat->List Value->List (Nat×Value)
 |_,[]=>[]
 |i,v::r=>(i,v)::zN (i+1) r
def zC (l:List Value):List (Nat×Value):=zN 0 l
def tl:List Nat->List (Bool×Nat)
 |[]=>[]
 |i::r=>(match Nat.blt i 500 with
   |true=>(true,i)
   |false=>(false,i-500))::tl r
theorem jK (n:Nat) (ax:List Nat) (l:List (Nat×OP)) (K:aB P β N ops (k+n) (fK P β 0 false N ops (dR (dZ n l 0)) k fr ay ax) ay Q)
 (h:∀b ar,nM P β b false N ar ops (dR (dZ n l 0)) k fr ay (bY (fJ P β 0 false N ops (dR (dZ n l 0)) k fr ay ax)) (uO ay.length 0)=some (k+n,fJ P β 0 false N ops (dR (dZ n l 0)) k fr ay ax,ay,owed (dZ n l 0)):=by intro _ _;kernel_rfl)
 (hb:uN ops n k (bY (fJ P β 0 false N ops (dR (dZ n l 0)) k fr ay ax)) (bY fr)=true:=by kernel_rfl):aB P β N ops k fr ay Q:=gK n _ l K h hb
theorem jC (n:Nat) (ax:List Nat) (l:List (Nat×OP)) (ds:List (Nat×List (Nat×Value))) (K:aB P β N ops (k+n) (fK P β 0 false N ops (dR (dZ n l 0)) k fr ay ax) (kF ay ds) Q)
 (h:∀b ar,nM P β b false N ar ops (dR (dZ n l 0)) k fr ay (bY (fJ P β 0 false N ops (dR (dZ n l 0)) k fr ay ax)) (uO (kF ay ds).length 0)=some (k+n,fJ P β 0 false N ops (dR (dZ n l 0)) k fr ay ax,kF ay ds,owed (dZ n l 0)):=by intro _ _;kernel_rfl)
 (hb:uN ops n k (bY (fJ P β 0 false N ops (dR (dZ n l 0)) k fr ay ax)) (bY fr)=true:=by kernel_rfl):aB P β N ops k fr ay Q:=gC n _ l ds K h hb
theorem jN (n:Nat) (ax:List Nat) (l:Nat->List (Nat×OP)) (ds:Nat->List (Nat×List (Nat×Value))) (new:Nat->HP) (K:∀b,aB P β N ops (k+n) (fK P β b false N ops (dR (dZ n (l b) 0)) k fr ay ax) (kF ay (ds b)++[new b]) Q)
 (h:∀b ar,nM P β b false N ar ops (dR (dZ n (l b) 0)) k fr ay (bY (fJ P β b false N ops (dR (dZ n (l b) 0)) k fr ay ax)) (uO (kF ay (ds b)++[new b]).length 0)=some (k+n,fJ P β b false N ops (dR (dZ n (l b) 0)) k fr ay ax,kF ay (ds b)++[new b],owed (dZ n (l b) 0)):=by intro _ _;kernel_rfl)
 (hb:∀b,uN ops n k (bY (fJ P β b false N ops (dR (dZ n (l b) 0)) k fr ay ax)) (bY fr)=true:=by intro _;kernel_rfl):aB P β N ops k fr ay Q:=gN n _ l ds new K h hb
theorem jB (n:Nat) (ax:List Nat) (new:Nat->HP) (K:∀b,aB P β N ops (k+n) (fK P β b false N ops (dR (dZ n [] 0)) k fr ay ax) (kF ay []++[new b]) Q)
 (h:∀b ar,nM P β b false N ar ops (dR (dZ n [] 0)) k fr ay (bY (fJ P β b false N ops (dR (dZ n [] 0)) k fr ay ax)) (uO (kF ay []++[new b]).length 0)=some (k+n,fJ P β b false N ops (dR (dZ n [] 0)) k fr ay ax,kF ay []++[new b],owed (dZ n [] 0)):=by intro _ _;kernel_rfl)
 (hb:∀b,uN ops n k (bY (fJ P β b false N ops (dR (dZ n [] 0)) k fr ay ax)) (bY fr)=true:=by intro _;kernel_rfl):aB P β N ops k fr ay Q:=jN n ax (λ_=>[]) (λ_=>[]) new K h hb
theorem rQ {id:Nat} (h:bJ P β N ops 0 fr ay Q) (hm:P.follows .mixedOrders=true:=by kernel_rfl) (hB:Region.lexB .any ops=true:=by kernel_rfl):av P β N (.region id ops true) fr ay Q:=av.FQ hm hB h
theorem jQ (n:Nat) (ax:List Nat) (l:List (Nat×OP)) (K:bJ P β N ops (k+n) (fK P β 0 true N ops (dR (dZ n l 0)) k fr ay ax) ay Q)
 (h:∀b ar,nM P β b true N ar ops (dR (dZ n l 0)) k fr ay (bY (fJ P β 0 true N ops (dR (dZ n l 0)) k fr ay ax)) (uO ay.length 0)=some (k+n,fJ P β 0 true N ops (dR (dZ n l 0)) k fr ay ax,ay,owed (dZ n l 0)):=by intro _ _;kernel_rfl)
 (hb:uN ops n k (bY (fJ P β 0 true N ops (dR (dZ n l 0)) k fr ay ax)) (bY fr)=true:=by kernel_rfl):bJ P β N ops k fr ay Q:=gQ n _ l K h hb
variable {f:FuncId} {args:Array Value} {pre:List HP} {post:Bs->Value->List HP->Prop}
theorem ia (ix:List Nat) (hs:bK P β f args pre post) (K:∀β' v l,β.le β'->post β' v l->aB P β' N ops (k+1) (eX fr (jI ops k) v) (l++lS ix ay 0) Q)
 (hc:∀ar,qG P β N ar ops fr k=some (f,args,jI ops k):=by intro _;kernel_rfl) (hn:bU (ix++oq ix ay.length 0)=true:=by kernel_rfl) (hp:cT ay (ix++oq ix ay.length 0)=some (pre++lS ix ay 0):=by kernel_rfl):aB P β N ops k fr ay Q:=
 aB.TK hc hs hn hp K
theorem gE {a:Value} {b:List HP} (ix:List Nat) (hs:aU P β f args pre (λv l=>v=a/\l=b)) (K:aB P β N ops (k+1) (eX fr (jI ops k) a) (b++lS ix ay 0) Q)
 (hc:∀ar,qG P β N ar ops fr k=some (f,args,jI ops k):=by intro _;kernel_rfl) (hn:bU (ix++oq ix ay.length 0)=true:=by kernel_rfl) (hp:cT ay (ix++oq ix ay.length 0)=some (pre++lS ix ay 0):=by kernel_rfl):aB P β N ops k fr ay Q:=
 gL ix hs (λ_ _ h=>by obtain⟨rfl,rfl⟩:=h;exact K) hc hn hp
theorem gX {ι:Type} {a:ι->Value} {b:ι->List HP} (ix:List Nat) (hs:aU P β f args pre (λv l=>∃x,v=a x/\l=b x)) (K:∀x,aB P β N ops (k+1) (eX fr (jI ops k) (a x)) (b x++lS ix ay 0) Q)
 (hc:∀ar,qG P β N ar ops fr k=some (f,args,jI ops k):=by intro _;kernel_rfl) (hn:bU (ix++oq ix ay.length 0)=true:=by kernel_rfl) (hp:cT ay (ix++oq ix ay.length 0)=some (pre++lS ix ay 0):=by kernel_rfl):aB P β N ops k fr ay Q:=
 gL ix hs (λ_ _ h=>by obtain⟨x,rfl,rfl⟩:=h;exact K x) hc hn hp
theorem cP {x y:Code} {o:Operand} (p:Prop) [Decidable p] (ht:p->av P β N x fr ay Q) (hf:¬p->av P β N y fr ay Q) (h:∀ar,fo N fr ar o=.bool (decide p):=by intro _;kernel_rfl):av P β N (.cond o x y) fr ay Q:=av.afP h ht hf
theorem SE {n0:Nat} {fn:Func} {c:Code} {post:Value->List HP->Prop} (hf:P.funcs[f]?=some fn) (hN:fn.ntmps=n0) (h:∀R:eG,av P β ⟨n0,[]⟩ c (zu 0 args.toList) (pre++[.abs R]) (bodyPost P fn (zw β R post))) (hb:fn.body=some c:=by rfl) (hl:args.toList.length<=n0:=by exact ais rfl):aU P β f args pre post:=aU.enter hf hb hN hl h
theorem lW {n0:Nat} {fn:Func} {c:Code} (hf:P.funcs[f]?=some fn) (hN:fn.ntmps=n0) (h:β.le β->∀R:eG,av P β ⟨n0,[]⟩ c (zu 0 args.toList) (pre++[.abs R]) (bodyPost P fn (uf β R post))) (hb:fn.body=some c:=by rfl) (hl:args.toList.length<=n0:=by exact ais rfl):bK P β f args pre post:=bK.enter hf hb hN hl h
def LU (N:fP) (ops:Array Oper) (fr:Fr) (k j:Nat):Operand:=
 match iZ N (λ_=>undef) ops fr k with
 |some (.call ⟨_,xs,_⟩,_)=>match xs.toList[j]? with
   |some x=>x
   |none=>.tmp 0
 |_=>.tmp 0
def zI (P:Program) (e:TypeId):Value:=match P.info? e with
 |some i=>match i.zero with
   |some z=>z
   |none=>undef
 |none=>undef
def bI (P:Program) (e:TypeId):Nat:=match P.info? e with
 |some i=>i.bytes
 |none=>0
theorem VW {news:List Value} (h:news.all Value.oneCell'=true):∀u∈news,u.oneCell'=true:=List.all_eq_true.1 h
theorem mO (i:Nat) (t:TypeId) {e:TypeId} {size n cap:Nat} {A:Option Addr} {xs:List Value} (A':Option Addr) (m c':Nat) (news:List Value) (hp:ay[i]?=some (.abs (aI e size A n cap xs)))
 (hsrc:∀w,aP β ay w->(A'=none/\news.length=0)\/∃ad,A'=some ad/\∀j u,news[j]?=some u->w.cell? (ad.add j)=some u)
 (K':∀B cap',aB P β N ops (k+1) (eX fr (jI ops k) (.slice B (n+m) cap')) (ay.set i (.abs (aI e size B (n+m) cap' (xs++news)))) Q)
 (hb:n+m<=1099511627776:=by omega) (hl:news.length=m*size:=by kernel_rfl) (h1:∀u∈news,u.oneCell'=true:=by exact VW d6)
 (cD:∀ar,iZ N ar ops fr k=some (.call ⟨.builtin .append,#[LU N ops fr k 0,LU N ops fr k 1],#[t,t]⟩,jI ops k):=by intro _;kernel_rfl)
 (hs:∀ar,fo N fr ar (LU N ops fr k 0)=.slice A n cap:=by intro _;kernel_rfl) (hx:∀ar,fo N fr ar (LU N ops fr k 1)=.slice A' m c':=by intro _;kernel_rfl)
 (ht:P.underlying t=some (.slice e):=by kernel_rfl) (rI:(P.info? e).map (λi=>(i.zero,i.size,i.bytes))=some (some (zI P e),size,bI P e):=by kernel_rfl)
 (hzs:(zI P e).cells.size=size:=by kernel_rfl) (eV:0<size:=by decide) (hb8:Nat.ble (bI P e) 128=true:=by kernel_rfl):aB P β N ops k fr ay Q:=
 aB.append i cD rfl hp hs hx ht rI hzs eV hl h1 hsrc (by unfold maxLen;omega) (Pe (Nat.mul_le_mul hb (ais hb8)) d8) K'
theorem VX (i:Nat) (t:TypeId) {e:TypeId} {size n cap:Nat} {A:Option Addr} {xs:List Value} (A':Option Addr) (m c':Nat) (news:List Value) (hp:ay[i]?=some (.abs (aI e size A n cap xs)))
 (hsrc:∀w,aP β ay w->(A'=none/\news.length=0)\/∃ad,A'=some ad/\∀j u,news[j]?=some u->w.cell? (ad.add j)=some u)
 (K':∀B cap',aB P β N ops (k+1) (eX fr (jI ops k) (.slice B (n+m) cap')) (ay.set i (.abs (aI e size B (n+m) cap' (xs++news)))) Q)
 (hb:n+m<=140737488355328:=by omega) (hl:news.length=m*size:=by kernel_rfl) (h1:∀u∈news,u.oneCell'=true:=by exact VW d6)
 (cD:∀ar,iZ N ar ops fr k=some (.call ⟨.builtin .append,#[LU N ops fr k 0,LU N ops fr k 1],#[t,t]⟩,jI ops k):=by intro _;kernel_rfl)
 (hs:∀ar,fo N fr ar (LU N ops fr k 0)=.slice A n cap:=by intro _;kernel_rfl) (hx:∀ar,fo N fr ar (LU N ops fr k 1)=.slice A' m c':=by intro _;kernel_rfl)
 (ht:P.underlying t=some (.slice e):=by kernel_rfl) (rI:(P.info? e).map (λi=>(i.zero,i.size,i.bytes))=some (some (zI P e),size,bI P e):=by kernel_rfl)
 (hzs:(zI P e).cells.size=size:=by kernel_rfl) (eV:0<size:=by decide) (hb8:Nat.ble (bI P e) 1=true:=by kernel_rfl):aB P β N ops k fr ay Q:=
 aB.append i cD rfl hp hs hx ht rI hzs eV hl h1 hsrc (by unfold maxLen;omega) (Pe (Nat.mul_le_mul hb (ais hb8)) d8) K'
theorem sl (i:Nat) (v v':Value) (hv:v=v') (K:aB P β N ops k ((i,v')::fr) ay Q) (h:∀ar,lk fr ar i=v:=by intro _;kernel_rfl):aB P β N ops k fr ay Q:=aB.slot i v v' h hv K
theorem sP (i:Nat) (p:Prop) [Decidable p] (ht:p->aB P β N ops k ((i,.bool true)::fr) ay Q) (hf:¬p->aB P β N ops k ((i,.bool false)::fr) ay Q) (h:∀ar,lk fr ar i=.bool (decide p):=by intro _;kernel_rfl):aB P β N ops k fr ay Q:=aB.xB i p h ht hf
theorem sN (i:Nat) (p:Prop) [Decidable p] (ht:¬p->aB P β N ops k ((i,.bool true)::fr) ay Q) (hf:p->aB P β N ops k ((i,.bool false)::fr) ay Q) (h:∀ar,lk fr ar i=.bool (!decide p):=by intro _;kernel_rfl):aB P β N ops k fr ay Q:=aB.TJ i p h ht hf
theorem cN {x y:Code} {o:Operand} (p:Prop) [Decidable p] (ht:¬p->av P β N x fr ay Q) (hf:p->av P β N y fr ay Q) (h:∀ar,fo N fr ar o=.bool (!decide p):=by intro _;kernel_rfl):av P β N (.cond o x y) fr ay Q:=av.afQ h ht hf
section turns
variable {ι:Type} {bB:ι->Prop} {μ:ι->Nat} {bN:ι->Fr} {dh:ι->List HP} {m:Nat}
theorem tJ (i:ι) (pk:List Nat) (hi:bB i) (hm:μ i<m:=by first|omega|(dsimp only;omega)) (hf:∀ar,kO fr ar (bY (bN i))=bN i:=by intro _;kernel_rfl) (hn:bU pk=true:=by rfl) (hp:cT ay pk=some (dh i):=by kernel_rfl) :
 aF β N (Exit.then (Turn β N bB μ bN dh m) Q) .normal fr ay:=aF.turn i hi hm hf hn hp
theorem mJ (i:ι) (pk:List Nat) (hi:bB i) (hf:∀ar,kO fr ar (bY (bN i))=bN i:=by intro _;kernel_rfl) (hn:bU pk=true:=by rfl) (hp:cT ay pk=some (dh i):=by kernel_rfl) :
 aF β N (Exit.then (YT β N bB bN dh) Q) .normal fr ay:=aF.meet i hi hf hn hp
theorem tB {bs:ι->Bs} (i:ι) (pk:List Nat) (hi:bB i) (hm:μ i<m:=by first|omega|(dsimp only;omega)) (hb:bs i=β:=by rfl) (hf:∀ar,kO fr ar (bY (bN i))=bN i:=by intro _;kernel_rfl) (hn:bU pk=true:=by rfl)
 (hp:cT ay pk=some (dh i):=by kernel_rfl):aF β N (Exit.then (Nq N bs bB μ bN dh m) Q) .normal fr ay:=aF.afT i hb hi hm hf hn hp
end turns
theorem lJ {ι:Type} {c:Code} (bB:ι->Prop) (μ:ι->Nat) (bN:ι->Fr) (dh:ι->List HP) (i0:ι) (pk:List Nat) (h0:bB i0) (round:∀i,bB i->av P β N c (bN i) (dh i) (Exit.then (Turn β N bB μ bN dh (μ i)) Q))
 (hf:∀ar,kO fr ar (bY (bN i0))=bN i0:=by intro _;kernel_rfl) (hn:bU pk=true:=by rfl) (hp:cT ay pk=some (dh i0):=by kernel_rfl):av P β N (.loop c) fr ay Q:=av.loop bB μ bN dh i0 h0 hf hn hp round
theorem lB {ι:Type} {c:Code} (bs:ι->Bs) (bB:ι->Prop) (μ:ι->Nat) (bN:ι->Fr) (dh:ι->List HP) (i0:ι) (pk:List Nat) (h0:bB i0) (round:∀i,bB i->av P (bs i) N c (bN i) (dh i) (Exit.then (Nq N bs bB μ bN dh (μ i)) Q))
 (hb:bs i0=β:=by rfl) (hf:∀ar,kO fr ar (bY (bN i0))=bN i0:=by intro _;kernel_rfl) (hn:bU pk=true:=by rfl) (hp:cT ay pk=some (dh i0):=by kernel_rfl):av P β N (.loop c) fr ay Q:=av.afS bs bB μ bN dh i0 hb h0 hf hn hp round
def zG:List OP->List Hint
 |[]=>[]
 |p::r=>p.h.hs++zG r
def FU:List OP->List Prop
 |[]=>[]
 |p::r=>FU r++p.ps
theorem Eu:∀l:List OP,oP (FU l)
 |[]=>trivial
 |p::r=>(Eu r).app p.pf
variable {R:eG} {fn:Func} {l:List HP} {v:Value} {n0:Nat} {β':Bs}
theorem rB (v:Value) (os:List OP) (pk:List Nat) (dP:β.le β') (kE:post β' v l) (hr:∀ar,rH P β' ⟨n0,[]⟩ ar fn fr ay (zG os)=some (v,FU os):=by intro _;kernel_rfl) (hn:bU pk=true:=by kernel_rfl) (hp:cT ay pk=some (l++[.abs R]):=by kernel_rfl) :
 aF β' ⟨n0,[]⟩ (bodyPost P fn (uf β R post)) .ret fr ay:=aF.agH (zG os) pk dP hr (Eu os) hn hp kE
theorem rT {post:Value->List HP->Prop} (v:Value) (os:List OP) (pk:List Nat) (kE:post v l) (hr:∀ar,rH P β ⟨n0,[]⟩ ar fn fr ay (zG os)=some (v,FU os):=by intro _;kernel_rfl) (hn:bU pk=true:=by kernel_rfl) (hp:cT ay pk=some (l++[.abs R]):=by kernel_rfl) :
 aF β ⟨n0,[]⟩ (bodyPost P fn (zw β R post)) .ret fr ay:=aF.ret (zG os) pk hr (Eu os) hn hp kE
class uP (Q:Post) (e:Exit) (Q':outParam Post) (e':outParam Exit):Prop where
 h:∀{β:Bs} {N:fP} {fr:Fr} {ay:List HP},aF β N Q' e' fr ay->aF β N Q e fr ay
instance {K:Act->World->Prop} {Q':Post} {e':Exit} [H:uP Q .ret Q' e']:uP (Exit.then K Q) .ret Q' e':=⟨λh=>aF.br (H.h h)⟩
instance {id:Nat} {Q':Post} {e':Exit} [H:uP Q .ret Q' e']:uP (Exit.inBlock id Q) .ret Q' e':=⟨λh=>aF.fM (H.h h)⟩
instance {X:Ending->World->Prop}:uP (bodyPost P fn X) .ret (bodyPost P fn X) .ret:=⟨λh=>h⟩
instance {K:Act->World->Prop}:uP (Exit.then K Q) .normal (Exit.then K Q) .normal:=⟨λh=>h⟩
instance {id:Nat} {Q':Post} {e':Exit} [H:uP Q .normal Q' e']:uP (Exit.inBlock id Q) .normal Q' e':=⟨λh=>aF.j8 (H.h h)⟩
instance {id:Nat} {Q':Post} {e':Exit} [H:uP Q .normal Q' e']:uP (Exit.inBlock id Q) (.exit id) Q' e':=⟨λh=>aF.wL (H.h h)⟩
instance {K:Act->World->Prop} {id:Nat} {Q':Post} {e':Exit} [H:uP Q (.exit id) Q' e']:uP (Exit.then K Q) (.exit id) Q' e':=⟨λh=>aF.o7 (H.h h)⟩
variable {y z:Code} {Q':Post} {id:Nat}
theorem KX [H:uP Q .normal (Exit.then (y.wp P Q') Q') .normal] (K:av P β N y fr ay Q'):av P β N .skip fr ay Q:=av.skip (H.h (NX K))
theorem LX [H:uP Q .normal (Exit.then (y.wp P Q') Q') .normal] (K:av P β N y fr ay Q') (h:ops.toList.drop k=[]:=by kernel_rfl):aB P β N ops k fr ay Q:=NL (H.h (NX K)) h
theorem BX [H:uP Q .normal (Exit.then (y.wp P Q') Q') .normal] (K:av P β N y fr ay Q'):aF β N Q .normal fr ay:=H.h (NX K)
theorem XX [H:uP Q (.exit id) (Exit.then (y.wp P Q') Q') .normal] (K:av P β N y fr ay Q'):av P β N (.exit id) fr ay Q:=av.exit (H.h (NX K))
theorem SQ {f:Bool} {lE:Array Oper} {i':Nat} (h:aB P β N lE 0 fr ay (Exit.then (y.wp P (Exit.then (z.wp P Q) Q)) (Exit.then (z.wp P Q) Q))) (hf:f=false:=by rfl):av P β N (.seq (.seq (.region i' lE f) y) z) fr ay Q:=av.seq (SR h hf)
theorem NZ {f:Bool} {lE:Array Oper} {i':Nat} (h':aB P β N lE 0 fr ay (Exit.then (y.wp P (Exit.then (z.wp P Q) Q)) (Exit.then (z.wp P Q) Q))) (h:ops.toList.drop k=[]:=by kernel_rfl) (hf:f=false:=by rfl):aB P β N ops k fr ay (Exit.then ((Code.seq (.seq (.region i' lE f) y) z).wp P Q) Q):=NN (SQ h' hf) h
theorem NT {o:Operand} (K:av P β N y fr ay Q) (h':∀ar,fo N fr ar o=.bool true:=by intro _;kernel_rfl) (h:ops.toList.drop k=[]:=by kernel_rfl):aB P β N ops k fr ay (Exit.then ((Code.cond o y z).wp P Q) Q):=NN (CT K h') h
theorem NF {o:Operand} (K:av P β N z fr ay Q) (h':∀ar,fo N fr ar o=.bool false:=by intro _;kernel_rfl) (h:ops.toList.drop k=[]:=by kernel_rfl):aB P β N ops k fr ay (Exit.then ((Code.cond o y z).wp P Q) Q):=NN (CF K h') h
theorem eN {post:Value->List HP->Prop} [H:uP Q .ret (bodyPost P fn (zw β R post)) .ret] (kE:post v l) (pk:List Nat:=uO (l.length+1) 0) (h:ops.toList.drop k=[]:=by kernel_rfl) (hr:∀ar,rH P β ⟨n0,[]⟩ ar fn fr ay []=some (v,[]):=by intro _;kernel_rfl) (hn:bU pk=true:=by kernel_rfl) (hp:cT ay pk=some (l++[.abs R]):=by kernel_rfl) :
 aB P β ⟨n0,[]⟩ ops k fr ay (Exit.then (Code.ret.wp P Q) Q):=NN (av.ret (H.h (RT v pk kE hr hn hp))) h
theorem eS {post:Value->List HP->Prop} [H:uP Q .ret (bodyPost P fn (zw β R post)) .ret] (os:List OP) (kE:post v l) (pk:List Nat:=uO (l.length+1) 0) (h:ops.toList.drop k=[]:=by kernel_rfl) (hr:∀ar,rH P β ⟨n0,[]⟩ ar fn fr ay (zG os)=some (v,FU os):=by intro _;kernel_rfl) (hn:bU pk=true:=by kernel_rfl) (hp:cT ay pk=some (l++[.abs R]):=by kernel_rfl) :
 aB P β ⟨n0,[]⟩ ops k fr ay (Exit.then (Code.ret.wp P Q) Q):=NN (av.ret (H.h (rT v os pk kE hr hn hp))) h
theorem eO [H:uP Q .ret (bodyPost P fn (uf β R post)) .ret] (os:List OP) (dP:β.le β') (kE:post β' v l) (pk:List Nat:=uO (l.length+1) 0) (h:ops.toList.drop k=[]:=by kernel_rfl) (hr:∀ar,rH P β' ⟨n0,[]⟩ ar fn fr ay (zG os)=some (v,FU os):=by intro _;kernel_rfl) (hn:bU pk=true:=by kernel_rfl) (hp:cT ay pk=some (l++[.abs R]):=by kernel_rfl) :
 aB P β' ⟨n0,[]⟩ ops k fr ay (Exit.then (Code.ret.wp P Q) Q):=NN (av.ret (H.h (rB v os pk dP kE hr hn hp))) h
def NU:List Oper->List Nat
 |[]=>[]
 |o::r=>match o.dst with
   |some d=>d::NU r
   |none=>NU r
theorem zR {post:Value->List HP->Prop} {lE:Array Oper} {f:Bool} {i':Nat} [H:uP Q .ret (bodyPost P fn (zw β R post)) .ret] (kE:post v l) (pk:List Nat:=uO (l.length+1) 0)
 (h:∀b ar,nM P β b false ⟨n0,[]⟩ ar lE (dR (dZ lE.size [] 0)) 0 fr ay (bY (fJ P β 0 false ⟨n0,[]⟩ lE (dR (dZ lE.size [] 0)) 0 fr ay (NU lE.toList))) (uO ay.length 0)=some (0+lE.size,fJ P β 0 false ⟨n0,[]⟩ lE (dR (dZ lE.size [] 0)) 0 fr ay (NU lE.toList),ay,owed (dZ lE.size [] 0)):=by intro _ _;kernel_rfl)
 (hb:uN lE lE.size 0 (bY (fJ P β 0 false ⟨n0,[]⟩ lE (dR (dZ lE.size [] 0)) 0 fr ay (NU lE.toList))) (bY fr)=true:=by kernel_rfl)
 (hd:lE.toList.drop (0+lE.size)=[]:=by kernel_rfl) (hr:∀ar,rH P β ⟨n0,[]⟩ ar fn (fK P β 0 false ⟨n0,[]⟩ lE (dR (dZ lE.size [] 0)) 0 fr ay (NU lE.toList)) ay []=some (v,[]):=by intro _;kernel_rfl)
 (hn:bU pk=true:=by kernel_rfl) (hp:cT ay pk=some (l++[.abs R]):=by kernel_rfl) (hf:f=false:=by rfl):av P β ⟨n0,[]⟩ (.seq (.region i' lE f) .ret) fr ay Q:=
 SR (jK lE.size (NU lE.toList) [] (eN kE pk hd hr hn hp) h hb) hf
end rules
section mix
variable {P:Program} {β:Bs} {N:fP} {ops:Array Oper} {S:List HP} {lm l':List (Bool×Nat)} {fr:Fr} {ay:List HP} {Q:Post} {i:Nat} {f:FuncId} {args:Array Value} {pre:List HP} {post:Value->List HP->Prop}
def fG (P:Program) (β:Bs) (N:fP) (ops:Array Oper) (hs:List OH) (is:List Nat) (fr:Fr) (S:List HP) (ax:List Nat):Fr:=
 match o8 P β N (λ_=>undef) ops hs is fr ⟨[],S,[],true⟩ with
 |some (bN,_)=>kO bN (λ_=>undef) ax
 |none=>[]
theorem jG (n:Nat) (ax:List Nat) (os:List (Nat×OP)) (K:eH P β N ops S (l'.drop n) (fG P β N ops (dR (dZ n os 0)) ((l'.take n).map Prod.snd) fr S ax) ay Q)
 (h:∀ar,rK P β N ar ops (dR (dZ n os 0)) ((l'.take n).map Prod.snd) fr S ax=some (fG P β N ops (dR (dZ n os 0)) ((l'.take n).map Prod.snd) fr S ax,owed (dZ n os 0)):=by intro _;kernel_rfl) (hl:l'=((l'.take n).map Prod.snd).map (λi=>(true,i))++l'.drop n:=by kernel_rfl):eH P β N ops S l' fr ay Q:=
 eH.reads _ (dR (dZ n os 0)) ax h (uq _) hl K
theorem kC (pk:List Nat) (ax:List Nat) (os:List (Nat×OP)) (ds:List (Nat×List (Nat×Value))) (K:eH P β N ops S lm (fK P β 0 false N (kY ops i) (dR (dZ 1 os 0)) i fr ay ax) (kF ay ds) Q) (hg:gB ops i=true:=by kernel_rfl)
 (h:∀b ar,nM P β b false N ar (kY ops i) (dR (dZ 1 os 0)) i fr ay (bY (fJ P β 0 false N (kY ops i) (dR (dZ 1 os 0)) i fr ay ax)) (uO (kF ay ds).length 0)=some (i+1,fJ P β 0 false N (kY ops i) (dR (dZ 1 os 0)) i fr ay ax,kF ay ds,owed (dZ 1 os 0)):=by intro _ _;kernel_rfl)
 (hb:uN (kY ops i) 1 i (bY (fJ P β 0 false N (kY ops i) (dR (dZ 1 os 0)) i fr ay ax)) (bY fr)=true:=by kernel_rfl) (hd:(kY ops i).toList.drop (i+1)=[]:=by kernel_rfl) (hn:bU pk=true:=by kernel_rfl) (hp:cT (kF ay ds) pk=some S:=by kernel_rfl):eH P β N ops S ((false,i)::lm) fr ay Q:=
 eH.cut (ι:=Unit) (bN:=λ_=>fK P β 0 false N (kY ops i) (dR (dZ 1 os 0)) i fr ay ax) (dh:=λ_=>kF ay ds) pk hg (gC 1 _ os ds (aB.nil hd (Es ())) h hb) hn (λ_=>hp) (λ_=>K)
theorem kL (pk ix:List Nat) (hs:aU P β f args pre post) (K:∀v l,post v l->eH P β N ops S lm (eX fr (jI ops i) v) (l++lS ix ay 0) Q) (hp:∀v l,post v l->cT (l++lS ix ay 0) pk=some S) (hg:gB ops i=true:=by kernel_rfl)
 (hc:∀ar,qG P β N ar (kY ops i) fr i=some (f,args,jI (kY ops i) i):=by intro _;kernel_rfl) (hd:(kY ops i).toList.drop (i+1)=[]:=by kernel_rfl) (he:jI ops i=jI (kY ops i) i:=by kernel_rfl) (hn':bU (ix++oq ix ay.length 0)=true:=by kernel_rfl) (dh:cT ay (ix++oq ix ay.length 0)=some (pre++lS ix ay 0):=by kernel_rfl) (hn:bU pk=true:=by kernel_rfl):eH P β N ops S ((false,i)::lm) fr ay Q:=
 eH.cut (ι:={x:Value×List HP // post x.1 x.2}) (bN:=λj=>eX fr (jI (kY ops i) i) j.1.1) (dh:=λj=>j.1.2++lS ix ay 0) pk hg (gL ix hs (λv l hv=>aB.nil hd (Es (bN:=λj:{x:Value×List HP // post x.1 x.2}=>eX fr (jI (kY ops i) i) j.1.1) (dh:=λj=>j.1.2++lS ix ay 0) ⟨(v,l),hv⟩)) hc hn' dh) hn (λj=>hp _ _ j.2) (λj=>by rw [←he];exact K _ _ j.2)
def FV (l:List HP):List Nat->List HP
 |[]=>[]
 |i::r=>match l[i]? with
   |some p=>p::FV l r
   |none=>FV l r
variable {fl:Bool}
theorem jM {id:Nat} (o:List Nat) (pk:List Nat) (h:eH P β N ops (FV ay pk) (tl o) fr ay Q) (hm:P.follows .mixedOrders=true:=by kernel_rfl) (hB:CC ops (tl o)=true:=by kernel_rfl) (hn:bU pk=true:=by kernel_rfl) (hp:cT ay pk=some (FV ay pk):=by kernel_rfl) (hf:fl=true:=by rfl):av P β N (.region id ops fl) fr ay Q:=by
 grind [av.TM,tl]
theorem rM {id:Nat} (perm:List Nat) (nr:Nat) (pk:List Nat) (h:cC P β N ops (FV ay pk) nr perm fr ay Q) (hm:P.follows .mixedOrders=true:=by kernel_rfl) (hB:Eo ops perm nr=true:=by kernel_rfl) (hn:bU pk=true:=by rfl)
 (hp:cT ay pk=some (FV ay pk):=by kernel_rfl):av P β N (.region id ops true) fr ay Q:=av.VS perm nr pk hm hB hn hp h
section m
variable {lm l':List Nat} {o':Oper} {r':Nat}
def fR (P:Program) (β:Bs) (N:fP) (ops:Array Oper) (hs:List OH) (is:List Nat) (fr:Fr) (S:List HP) (ax:List Nat):Fr:=
 match FT P β N (λ_=>undef) ops hs is fr S ax with
 |some (bN,_)=>bN
 |none=>[]
theorem jR (n:Nat) (ax:List Nat) (os:List (Nat×OP)) (K:cC P β N ops S (r'-n) (l'.drop n) (fR P β N ops (dR (dZ n os 0)) (l'.take n) fr S ax) ay Q)
 (h:∀ar,FT P β N ar ops (dR (dZ n os 0)) (l'.take n) fr S ax=some (fR P β N ops (dR (dZ n os 0)) (l'.take n) fr S ax,owed (dZ n os 0)):=by intro _;kernel_rfl) (hr:r'=(l'.take n).length+(r'-n):=by kernel_rfl) (hl:l'=l'.take n++l'.drop n:=by kernel_rfl):cC P β N ops S r' l' fr ay Q:=
 cC.reads _ (dR (dZ n os 0)) ax h (uq _) hr hl K
theorem nC (pk:List Nat) (ax:List Nat) (os:List (Nat×OP)) (ds:List (Nat×List (Nat×Value))) (K:cC P β N ops S 0 lm (fK P β 0 false N #[o'] (dR (dZ 1 os 0)) 0 fr ay ax) (kF ay ds) Q) (cD:ops[i]?=some o':=by rfl) (hg:o'.guard=none:=by rfl)
 (h:∀b ar,nM P β b false N ar #[o'] (dR (dZ 1 os 0)) 0 fr ay (bY (fJ P β 0 false N #[o'] (dR (dZ 1 os 0)) 0 fr ay ax)) (uO (kF ay ds).length 0)=some (0+1,fJ P β 0 false N #[o'] (dR (dZ 1 os 0)) 0 fr ay ax,kF ay ds,owed (dZ 1 os 0)):=by intro _ _;kernel_rfl)
 (hb:uN #[o'] 1 0 (bY (fJ P β 0 false N #[o'] (dR (dZ 1 os 0)) 0 fr ay ax)) (bY fr)=true:=by kernel_rfl) (hn:bU pk=true:=by kernel_rfl) (hp:cT (kF ay ds) pk=some S:=by kernel_rfl):cC P β N ops S 0 (i::lm) fr ay Q:=mC pk _ os ds K cD hg h hb hn hp
end m
theorem zH {k:Nat} (ix VQ:List Nat) (v0:Value) (hs:aU P β f args pre post) (K:bJ P β N ops (k+1) (eX fr (jI ops k) v0) ay Q) (hv:∀v l,post v l->v=v0/\l=pre:=by intro _ _ h;exact h)
 (hc:∀ar,qG P β N ar ops fr k=some (f,args,jI ops k):=by intro _;kernel_rfl) (hn:bU (ix++oq ix ay.length 0)=true:=by kernel_rfl) (hp:cT ay (ix++oq ix ay.length 0)=some (pre++lS ix ay 0):=by kernel_rfl) (hn':bU VQ=true:=by kernel_rfl) (dh:cT (pre++lS ix ay 0) VQ=some ay:=by kernel_rfl):bJ P β N ops k fr ay Q:=
 bJ.call hc hs hn hp hn' dh hv K
end mix
section sat
variable {β:Bs} {l:List HP} {w:World} {p p1 p2:HP} {i:Nat}
theorem aP.abJ (h:aP β l w) (hp:l[i]?=some p) (hs:∀F,p.h F w->∃F1 F2,p1.h F1 w/\p2.h F2 w/\Apart F1 F2/\∀k,F k↔F1 k\/F2 k):aP β (l.set i p1++[p2]) w:=by
 obtain⟨ho,φ,h1,h2,h3⟩:=h
 obtain⟨F1,F2,g1,g2,g3,g4⟩:=hs _ (h1 i p hp)
 have hi:=dH hp
 have jX:(l.set i p1++[p2]).length=l.length+1:=nh
 refine⟨ho,λj=>if j=l.length then F2 else if j=i then F1 else φ j,λj q hq=>?_,λj hj k hk hO=>?_,λa b ha hb cF k hk jA=>?_⟩
 all_goals grind [dH,aP,Apart]
theorem aP.abK {j:Nat} {ax:List Nat} {l':List HP} (h:aP β l w) (hp:l[i]?=some p1) (hq:l[j]?=some p2) (hn:bU (i::j::ax)=true) (hl:cT l ax=some l') (hs:∀F1 F2,p1.h F1 w->p2.h F2 w->Apart F1 F2->∃F,p.h F w/\∀k,F k->F1 k\/F2 k):aP β (p::l') w:=by
 have h':=h.pick (ax:=i::j::ax) (l':=p1::p2::l') hn (by simp only [cT,hp,hq,hl])
 obtain⟨ho,φ,h1,h2,h3⟩:=h'
 obtain⟨F,hF,hk⟩:=hs _ _ (h1 0 p1 rfl) (h1 1 p2 rfl) (h3 0 1 nh nh d8)
 have jX:(p1::p2::l').length=l'.length+2:=rfl
 rw [jX] at h2 h3
 refine⟨ho,λj=>if j=0 then F else φ (j+1),λj q hq=>?_,λj hj k hkk hO=>?_,λa b ha hb cF k hk1 hk2=>?_⟩
 ·grind
 ·grind
 simp only [aix] at ha hb
 have key:∀j,j<l'.length->F k->φ (j+2) k->False:=λj hj e1 e2=>by
  rcases hk k e1 with e|e
  ·exact h3 0 (j+2) d5 d5 d5 k e e2
  exact h3 1 (j+2) d5 d5 d5 k e e2
 cases a with
 |zero=>
   cases b with
   |zero=>exact cF rfl
   |succ b=>exact key b d5 (by simpa using hk1) (by simpa using hk2)
 |succ a=>
   cases b with
   |zero=>exact key a d5 (by simpa using hk2) (by simpa using hk1)
   |succ b=>exact h3 (a+2) (b+2) d5 d5 d5 k (by simpa using hk1) (by simpa using hk2)
end sat
def ld (R:Nat->eG) (n:Nat):eG where
 h F w:=∃φ:Nat->Fp,(∀i,i<n->(R i).h (φ i) w)/\(∀i j,i<n->j<n->i≠j->Apart (φ i) (φ j))/\∀k,F k↔∃i,i<n/\φ i k
 lt:=λ⟨_,h1,_,h3⟩ k hk=>let ⟨i,hi,hk⟩:=(h3 k).1 hk;(R i).lt (h1 i hi) k hk
 st:=λ⟨φ,h1,h2,h3⟩ _ _ hk hn=>⟨φ,λi hi=>(R i).st (h1 i hi) hk (λk hk=>hn k ((h3 k).2 ⟨i,hi,hk⟩)),h2,h3⟩
def eG.none:eG where
 h F _:=∀k,¬F k
 lt:=λh k hk=>KB hk (h k)
 st:=λh _ _ _ _=>h
def pU (R:Nat->eG) (k:Nat) (a:eG):Nat->eG:=λi=>if i=k then a else R i
section VY
variable {β:Bs} {l l':List HP} {w:World} {i n k:Nat} {R R':Nat->eG} {a:eG}
theorem ld.nil (R:Nat->eG) (w:World):(HP.abs (ld R 0)).h (λ_=>False) w:=⟨λ_ _=>False,λi hi=>KB hi (N5 i),λi _ hi=>KB hi (N5 i),λ_=>⟨λh=>h.elim,λ⟨i,hi,_⟩=>KB hi (N5 i)⟩⟩
theorem aP.Ja (h:aP β l w) (R:Nat->eG):aP β (l++[.abs (ld R 0)]) w:=aP.new h (ld.nil R w) (cL.refl _ _) (λ_ h=>h.elim)
theorem aP.acG (h:aP β l w) (hp:l[i]?=some (.abs (ld R n))) (hk:k<n):aP β (l.set i (.abs (ld (pU R k eG.none) n))++[.abs (R k)]) w:=by
 refine h.abJ hp ?_
 rintro F ⟨φ,h1,h2,h3⟩
 refine⟨λx=>∃i,i<n/\i≠k/\φ i x,φ k,⟨λi=>if i=k then λ_=>False else φ i,λi hi=>?_,λi j hi hj cF x hx hy=>?_,λx=>⟨λ⟨i,hi,cF,hx⟩=>⟨i,hi,by simpa [cF] using hx⟩,λ⟨i,hi,hx⟩=>?_⟩⟩,h1 k hk,λx ⟨i,hi,cF,hx⟩ hy=>h2 i k hi hk cF x hx hy,λx=>⟨λhx=>?_,λhx=>?_⟩⟩
 ·unfold pU
  by_cases e:i=k
  ·simp only [e,if_true];exact λ_ h=>h
  simp only [e,if_false];exact h1 i hi
 ·by_cases e1:i=k
  ·simp [e1] at hx
  by_cases e2:j=k
  ·simp [e2] at hy
  exact h2 i j hi hj cF x (by simpa [e1] using hx) (by simpa [e2] using hy)
 ·by_cases e1:i=k
  ·simp [e1] at hx
  exact⟨i,hi,e1,by simpa [e1] using hx⟩
 all_goals grind
theorem aP.uQ {j:Nat} {ax:List Nat} (h:aP β l w) (hp:l[i]?=some (.abs (ld R n))) (hq:l[j]?=some (.abs a)) (hn:bU (i::j::ax)=true) (hl:cT l ax=some l') (hR:∀x,x<n->R' x=R x) (ha:R' n=a):aP β (.abs (ld R' (n+1))::l') w:=by
 refine h.abK hp hq hn hl ?_
 rintro F1 F2 ⟨φ,h1,h2,h3⟩ hF hap
 refine⟨λx=>F1 x\/F2 x,⟨λi=>if i=n then F2 else φ i,λi hi=>?_,λi j hi hj cF x hx hy=>?_,λx=>⟨λhx=>?_,λ⟨i,hi,hx⟩=>?_⟩⟩,λx hx=>hx⟩
 ·by_cases e:i=n
  ·subst e;simp only [if_true];rw [ha];exact hF
  grind
 ·by_cases e1:i=n
  ·by_cases e2:j=n
   ·exact cF (e1.trans e2.symm)
   simp only [e1,if_true] at hx
   simp only [e2,if_false] at hy
   exact hap x ((h3 x).2 ⟨j,d5,hy⟩) hx
  simp only [e1,if_false] at hx
  by_cases e2:j=n
  ·simp only [e2,if_true] at hy
   exact hap x ((h3 x).2 ⟨i,d5,hx⟩) hy
  simp only [e2,if_false] at hy
  exact h2 i j d5 d5 cF x hx hy
 ·rcases hx with hx|hx
  ·grind
  exact⟨n,aiA n,by simpa using hx⟩
 grind
theorem ld.base {F:Fp} {β':Bs} (h:(HP.abs (ld R n)).h F w) (h1:∀k,F k->β'.O k) (_:β'.w0=w) {Φ:Nat->Bs->Prop} (GK:∀i,i<n->∀F,(R i).h F w->(∀k,F k->β'.O k)->Φ i β'):∀i,i<n->Φ i β':=by
 obtain⟨φ,g1,_,g3⟩:=h
 grind
end VY
section Db
variable {P:Program} {β:Bs} {N:fP} {ops:Array Oper} {S:List HP} {l:List Nat} {fr:Fr} {ay:List HP} {Q:Post} {i:Nat}
def adS (β:Bs) (N:fP) {ι:Type} (B:ι->Bs) (Φ:ι->Prop) (fr:ι->Fr) (hp:ι->List HP):Post:=λ_ a w=>∃i ar,β.le (B i)/\Φ i/\a=fk N (fr i) ar/\aP (B i) (hp i) w
theorem aF.adT {xO:Bs} {ι:Type} {B:ι->Bs} {Φ:ι->Prop} {bN:ι->Fr} {dh:ι->List HP} (j:ι) {ax pk:List Nat} (hb:B j=β) (dP:xO.le β) (GK:Φ j) (hf:∀ar,kO fr ar ax=bN j) (hn:bU pk=true) (hp:cT ay pk=some (dh j)):aF β N (NP (adS xO N B Φ bN dh)) .normal fr ay:=by
 subst hb
 exact λar _ hS=>⟨j,lk fr ar,dP,GK,by rw [nS N fr ar ax,hf ar],hS.pick hn hp⟩
end Db
section y
variable {P:Program} {β xO:Bs} {N:fP} {ops:Array Oper} {S:List HP} {l l':List (Bool×Nat)} {fr bN:Fr} {ay:List HP} {Q:Post} {i:Nat} {eT:List Prop}
def rY (P:Program) (ops:Array Oper) (Q:Post) (R S:World->Prop):List (Bool×Nat)->Act->World->Prop
 |[],a,w=>Q .normal a w
 |(false,i)::l,a,w=>wpOp P ops Q i (λa' w'=>(l=[]\/S w')/\rY P ops Q R S l a' w') a w
 |(true,i)::l,a,w=>∃o v,ops[i]?=some o/\YieldsIf P ops R o v a/\rY P ops Q R S l (a.put o.dst v) w
theorem HY {R S:World->Prop} (hs:∀w,S w->R w):∀(l:List (Bool×Nat)) (a:Act) (w:World),rY P ops Q R S l a w->kJ P ops Q S l a w
 |[],_,_,h=>h
 |(false,i)::l,a,w,h=>by
   unfold rY at h;unfold kJ
   exact wpOp_mono (λa' w' h'=>⟨h'.1,HY hs l a' w' h'.2⟩) h
 |(true,i)::l,a,w,h=>by
   unfold rY at h;unfold kJ
   obtain⟨o,v,h1,h2,h3⟩:=h
   exact⟨o,v,h1,h2.imp (λq=>⟨q.1,λw hw=>q.2 w (hs w hw)⟩) id,HY hs l _ w h3⟩
def Bs.bare (β:Bs):Bs:=⟨λ_=>False,β.w0⟩
theorem aP.bare {w:World} (h:aP β S w):aP β.bare [] w:=by
 obtain⟨ho,_⟩:=h
 exact⟨⟨ho.os,ho.tape,ho.output,ho.size,λk hk=>hk.elim⟩,λ_ _=>False,λi p h=>KB h (by simp),λi hi=>KB hi (N5 i),λi j hi=>KB hi (N5 i)⟩
def Grown (a b:Bs):Prop:=a=b\/a.le b
theorem Grown.trans {a b c:Bs} (h:Grown a b) (g:b.le c):Grown a c:=.inr (h.elim (λe=>e ▸ g) (λh=>h.trans g))
theorem Grown.sat {a b:Bs} {w:World} (h:Grown a b) (hS:aP b S w):aP a S w:=h.elim (λe=>e ▸ hS) (λh=>hS.I3 h)
def tI (P:Program) (β xO:Bs) (N:fP) (ops:Array Oper) (S:List HP) (l:List (Bool×Nat)) (fr:Fr) (ay:List HP) (Q:Post):Prop:=
 ∀ar w,aP β ay w->rY P ops (NP Q) (aP xO.bare []) (aP xO S) l (fk N fr ar) w
theorem eH.toH (K:tI P β β N ops S l fr ay Q):eH P β N ops S l fr ay Q:=λar w hS=>HY (λ_ h=>h.bare) _ _ _ (K ar w hS)
theorem tI.last (hg:gB ops i=true) (h:aB P β N (kY ops i) i fr ay (NP Q)):tI P β xO N ops S [(false,i)] fr ay Q:=by
 grind [rY,sE,rJ,gB,aB,kY,NP,tI]
theorem zJ {ar:Nat->Value} {w:World} {S2:World->Prop}:∀{hs:List OH} {is:List Nat} {fr bN:Fr} {T T':SS},o8 P β N ar ops hs is fr T=some (bN,T')->(∀p,p∈T'.eT->p)->T.used=true->T.ay=S →
 rY P ops (NP Q) (aP β S) S2 l (fk N bN ar) w->rY P ops (NP Q) (aP β S) S2 (is.map (λi=>(true,i))++l) (fk N fr ar) w
 |[],[],fr,bN,T,T',h,ho,hu,hT,hK=>by cases h;exact hK
 |h::hs,i::is,fr,bN,T,T',hr,ho,hu,hT,hK=>by
   unfold o8 at hr
   repeat' split at hr
   all_goals first|(cases hr;done)|skip
   ·rename_i o hget _ hwant _ v T1 h0 _ hv
    obtain⟨e1,e2⟩:=y8 h0
    rw [aiB,aiE]
    unfold rY
    refine⟨o,v,hget,.inl ⟨by rw [gY];exact hwant,λw' gG=>?_⟩,?_⟩
    ·rw [iY]
     obtain⟨w2,h1,_,_,h4⟩:=p4 h0 (λp hp=>ho p (vD hr p hp)) (by rw [hT];exact gG) (λe=>by rw [hu] at e;cases e)
     obtain⟨ew,_⟩:=h4 rfl
     rw [ew] at h1
     rcases h1 with h1|⟨h1,_⟩
     ·exact h1
     exact KB h1 (uM hv)
    rw [gS]
    exact zJ hr ho (e2.trans hu) (e1.trans hT) hK
   rename_i o hget _ hwant
   rw [aiB,aiE]
   unfold rY
   refine⟨o,undef,hget,.inr ⟨by rw [gY];exact hwant,rfl⟩,?_⟩
   rw [gS]
   exact zJ hr ho hu hT hK
 |[],_::_,_,_,_,_,h,_,_,_,_=>by cases h
 |_::_,[],_,_,_,_,h,_,_,_,_=>by cases h
theorem gH (l2:List (Bool×Nat)) (Ev:Fr) (is:List Nat) (os:List (Nat×OP)) (K:tI P β xO N ops S l2 Ev ay Q)
 (h:∀ar,rK P xO.bare N ar ops (dR (dZ is.length os 0)) is fr [] (bY Ev)=some (Ev,owed (dZ is.length os 0)):=by intro _;kernel_rfl) (hl:l'=is.map (λi=>(true,i))++l2:=by rfl):tI P β xO N ops S l' fr ay Q:=by
 intro ar w hS
 subst hl
 have h0:=h ar
 unfold rK at h0
 split at h0
 ·rename_i fr1 S1 h1
  injection h0 with h0
  injection h0 with e1 e2
  have hK:=K (lk fr1 ar) w hS
  rw [←e1,←nS] at hK
  exact zJ h1 (λp hp=>(uq _).mem (by rw [←e2];exact hp)) rfl rfl hK
 cases h0
end y
inductive OT
 |lin (l:List (Bool×Nat))
 |rd (i:Nat) (t:OT)
 |two (i:Nat) (a:OT) (j:Nat) (b:OT)
 |three (i:Nat) (a:OT) (j:Nat) (b:OT) (k:Nat) (c:OT)
section order
variable {P:Program} {ops:Array Oper} {Q:Post} {n:Nat} {S:World->Prop}
def xQ (P:Program) (ops:Array Oper) (Q:Post) (S:World->Prop):OT->Act->World->Prop
 |.lin l,a,w=>kJ P ops Q S l a w
 |.rd i t,a,w=>∃o v,ops[i]?=some o/\YieldsIf P ops S o v a/\xQ P ops Q S t (a.put o.dst v) w
 |.two i x j y,a,w=>wpOp P ops Q i (λa' w'=>S w'/\xQ P ops Q S x a' w') a w/\wpOp P ops Q j (λa' w'=>S w'/\xQ P ops Q S y a' w') a w
 |.three i x j y k z,a,w=>wpOp P ops Q i (λa' w'=>S w'/\xQ P ops Q S x a' w') a w/\wpOp P ops Q j (λa' w'=>S w'/\xQ P ops Q S y a' w') a w/\wpOp P ops Q k (λa' w'=>S w'/\xQ P ops Q S z a' w') a w
def yE:OT->Nat
 |.lin l=>l.length
 |.rd _ t=>yE t+1
 |.two _ x _ _=>yE x+1
 |.three _ x _ _ _ _=>yE x+1
def vE (ops:Array Oper) (n:Nat):OT->Array Bool->Bool
 |.lin l,bP=>Dd ops n l bP
 |.rd i t,bP=>decide (i<n) && Region.free .any ops bP i && (Region.ready .any ops bP).contains i && vE ops n t (bP.setIfInBounds i true)
 |.two i x j y,bP=>(Region.ready .any ops bP == [i,j]) && (yE x == yE y) && vE ops n x (bP.setIfInBounds i true) && vE ops n y (bP.setIfInBounds j true)
 |.three i x j y k z,bP=>(Region.ready .any ops bP == [i,j,k]) && (yE x == yE y) && (yE x == yE z) && vE ops n x (bP.setIfInBounds i true) && vE ops n y (bP.setIfInBounds j true) && vE ops n z (bP.setIfInBounds k true)
theorem Df (hsel:Region.noSelect ops=true) (qb:Region.sinkB .any ops n=true):∀(t:OT) (bP:Array Bool) (a:Act) (w:World),vE ops n t bP=true->Closed ops bP->S w->xQ P ops (NP Q) S t a w->xM P ops (NP Q) n S (yE t) bP a w
 |.lin l,bP,a,w,hb,hc,hS,h=>zE hsel qb l bP a w hb hc (.inr hS) h
 |.rd i t,bP,a,w,hb,hc,hS,h=>by
   unfold vE at hb
   simp only [ait,decide_eq_true_iff] at hb
   obtain⟨⟨⟨h1,h2⟩,h3⟩,h4⟩:=hb
   obtain⟨o,v,ho,hy,hk⟩:=h
   have hr:i∈Region.ready .any ops bP:=by simpa using h3
   exact zA ho hsel qb h1 (yE t) bP a w hc (Region.free_spec ho h2) hr hy hS (Df hsel qb t _ _ w h4 (hc.set hr) hS hk)
 |.two i x j y,bP,a,w,hb,hc,_,h=>by
   unfold vE at hb
   simp only [ait,ai0] at hb
   obtain⟨⟨⟨h1,h2⟩,h3⟩,h4⟩:=hb
   refine⟨λh0=>(by rw [h1] at h0;cases h0),λm hm=>?_⟩
   have hr:=hm
   rw [h1] at hm
   have hm:m=i\/m=j:=by simpa using hm
   rcases hm with rfl|rfl
   ·exact wpOp_mono (λa' w' g=>⟨.inr g.1,Df hsel qb x _ a' w' h3 (hc.set hr) g.1 g.2⟩) h.1
   exact wpOp_mono (λa' w' g=>⟨.inr g.1,by rw [h2];exact Df hsel qb y _ a' w' h4 (hc.set hr) g.1 g.2⟩) h.2
 |.three i x j y k z,bP,a,w,hb,hc,_,h=>by
   unfold vE at hb
   simp only [ait,ai0] at hb
   obtain⟨⟨⟨⟨⟨h1,h2⟩,h3⟩,h4⟩,h5⟩,h6⟩:=hb
   refine⟨λh0=>(by rw [h1] at h0;cases h0),λm hm=>?_⟩
   have hr:=hm
   rw [h1] at hm
   have hm:m=i\/m=j\/m=k:=by simpa using hm
   rcases hm with rfl|rfl|rfl
   ·exact wpOp_mono (λa' w' g=>⟨.inr g.1,Df hsel qb x _ a' w' h4 (hc.set hr) g.1 g.2⟩) h.1
   ·exact wpOp_mono (λa' w' g=>⟨.inr g.1,by rw [h2];exact Df hsel qb y _ a' w' h5 (hc.set hr) g.1 g.2⟩) h.2.1
   exact wpOp_mono (λa' w' g=>⟨.inr g.1,by rw [h3];exact Df hsel qb z _ a' w' h6 (hc.set hr) g.1 g.2⟩) h.2.2
def Kw (ops:Array Oper) (t:OT):Bool:=Region.noSelect ops && Region.sinkB .any ops (ops.size-1) && (yE t == ops.size) && vE ops (ops.size-1) t (Array.replicate ops.size false)
def wo:List Nat->OT->OT
 |[],t=>t
 |i::l,t=>.rd i (wo l t)
end order
section mix
variable {P:Program} {β:Bs} {N:fP} {ops:Array Oper} {S:List HP} {t t' x y z:OT} {fr bN:Fr} {ay:List HP} {Q:Post} {eT:List Prop} {i j k:Nat}
def lX (P:Program) (β:Bs) (N:fP) (ops:Array Oper) (S:List HP) (t:OT) (fr:Fr) (ay:List HP) (Q:Post):Prop:=∀ar w,aP β ay w->xQ P ops (NP Q) (aP β S) t (fk N fr ar) w
def ahY (P:Program) (β:Bs) (N:fP) (ops:Array Oper) (S:List HP) (i:Nat) (t:OT) (fr:Fr) (ay:List HP) (Q:Post):Prop:=∀ar w,aP β ay w->wpOp P ops (NP Q) i (λa' w'=>aP β S w'/\xQ P ops (NP Q) (aP β S) t a' w') (fk N fr ar) w
theorem av.NV {id:Nat} (t:OT) (hp:∀w,aP β ay w->aP β S w) (h:lX P β N ops S t fr ay Q) (hm:P.follows .mixedOrders=true:=by kernel_rfl) (hB:Kw ops t=true:=by kernel_rfl):av P β N (.region id ops true) fr ay Q:=by
 intro ar w hS
 unfold Kw at hB
 simp only [ait,ai0] at hB
 obtain⟨⟨⟨h1,h2⟩,h3⟩,h4⟩:=hB
 have gG:=hS.drewN 1
 have h5:=Df (Q:=Q) h1 h2 t _ _ _ h4 (λj oj _ hl=>by simp [Array.getD_eq_getD_getElem?,Array.getElem?_replicate] at hl;split at hl<;>simp at hl) (hp _ gG) (h ar (w.drewN 1) gG)
 rw [h3] at h5
 refine aiY (λe a w q=>?_) (wp_region_any hm (sY _ _ _ _ h5))
 cases e with
 |normal=>exact q
 |exit id=>exact q.elim
 |goto l=>exact q.elim
 |ret=>exact q.elim
 |panic ch=>exact q.elim
 |outgrown=>exact q.elim
theorem av.pW {id:Nat} (t:OT) (pk:List Nat) (h:lX P β N ops S t fr ay Q) (hp:cT ay pk=some S:=by kernel_rfl) (hm:P.follows .mixedOrders=true:=by kernel_rfl) (hB:Kw ops t=true:=by kernel_rfl) (hn:bU pk=true:=by kernel_rfl):av P β N (.region id ops true) fr ay Q:=
 .NV t (λ_ hS=>hS.pick hn hp) h hm hB
theorem zK {ar:Nat->Value} {w:World}:∀{hs:List OH} {is:List Nat} {fr bN:Fr} {T T':SS},o8 P β N ar ops hs is fr T=some (bN,T')->(∀p,p∈T'.eT->p)->T.used=true->T.ay=S →
 xQ P ops (NP Q) (aP β S) t (fk N bN ar) w->xQ P ops (NP Q) (aP β S) (wo is t) (fk N fr ar) w
 |[],[],fr,bN,T,T',h,ho,hu,hT,hK=>by cases h;exact hK
 |h::hs,i::is,fr,bN,T,T',hr,ho,hu,hT,hK=>by
   unfold o8 at hr
   repeat' split at hr
   all_goals first|(cases hr;done)|skip
   ·rename_i o hget _ hwant _ v T1 h0 _ hv
    obtain⟨e1,e2⟩:=y8 h0
    unfold wo xQ
    refine⟨o,v,hget,.inl ⟨by rw [gY];exact hwant,λw' gG=>?_⟩,?_⟩
    ·rw [iY]
     obtain⟨w2,h1,_,_,h4⟩:=p4 h0 (λp hp=>ho p (vD hr p hp)) (by rw [hT];exact gG) (λe=>by rw [hu] at e;cases e)
     obtain⟨ew,_⟩:=h4 rfl
     rw [ew] at h1
     rcases h1 with h1|⟨h1,_⟩
     ·exact h1
     exact KB h1 (uM hv)
    rw [gS]
    exact zK hr ho (e2.trans hu) (e1.trans hT) hK
   rename_i o hget _ hwant
   unfold wo xQ
   refine⟨o,undef,hget,.inr ⟨by rw [gY];exact hwant,rfl⟩,?_⟩
   rw [gS]
   exact zK hr ho hu hT hK
 |[],_::_,_,_,_,_,h,_,_,_,_=>by cases h
 |_::_,[],_,_,_,_,h,_,_,_,_=>by cases h
theorem gT (t:OT) (Ev:Fr) (is:List Nat) (os:List (Nat×OP)) (K:lX P β N ops S t Ev ay Q)
 (h:∀ar,rK P β N ar ops (dR (dZ is.length os 0)) is fr S (bY Ev)=some (Ev,owed (dZ is.length os 0)):=by intro _;kernel_rfl) (hl:t'=wo is t:=by rfl):lX P β N ops S t' fr ay Q:=by
 intro ar w hS
 subst hl
 have h0:=h ar
 unfold rK at h0
 split at h0
 ·rename_i fr1 S1 h1
  injection h0 with h0
  injection h0 with ha hb
  have hK:=K (lk fr1 ar) w hS
  rw [←ha,←nS] at hK
  refine zK h1 (λp hp=>?_) rfl rfl hK
  rw [hb] at hp
  exact (uq _).mem hp
 cases h0
end mix
structure oe (β:Bs) (R:List HP) (β':Bs):Prop where
 le:β.le β'
 fp:∃φ:Nat->Fp,(∀(i:Nat) (p:HP),R[i]?=some p->p.h (φ i) β'.w0/\∀k,φ i k->β'.O k)/\(∀i,i<R.length->∀k,φ i k->¬β.O k)/\(∀i j,i<R.length->j<R.length->i≠j->Apart (φ i) (φ j))/\∀k,β'.O k->β.O k\/∃i,i<R.length/\φ i k
section Y8
variable {β β' oV:Bs} {l R:List HP} {w:World} {p:HP} {i:Nat}
theorem oe.get (h:oe β R β') (i:Nat) (hp:R[i]?=some p):∃F,p.h F β'.w0/\∀k,F k->β'.O k:=by
 obtain⟨φ,h1,_⟩:=h.fp
 exact⟨φ i,h1 i p hp⟩
theorem aP.turn {a b:List HP} (h:aP β (a++b) w):aP β (b++a) w:=by
 obtain⟨ho,φ,h1,h2,h3⟩:=h
 have hl:(a++b).length=a.length+b.length:=T3
 have hl':(b++a).length=b.length+a.length:=T3
 refine⟨ho,λi=>if i<b.length then φ (a.length+i) else φ (i-b.length),λi p hp=>?_,λi hi k hk hO=>?_,λi j hi hj cF k hk jA=>?_⟩
 ·grind
 ·grind
 by_cases e1:i<b.length
 ·simp only [e1,if_true] at hk
  by_cases e2:j<b.length
  ·simp only [e2,if_true] at jA
   exact h3 _ _ d5 d5 d5 k hk jA
  simp only [e2,if_false] at jA
  exact h3 _ _ d5 d5 d5 k hk jA
 simp only [e1,if_false] at hk
 by_cases e2:j<b.length
 ·simp only [e2,if_true] at jA
  exact h3 _ _ d5 d5 d5 k hk jA
 simp only [e2,if_false] at jA
 exact h3 _ _ d5 d5 d5 k hk jA
theorem aP.sF (h:aP β (l++R) w):∃β',oe β R β'/\β'.w0=w/\aP β' l w:=by
 obtain⟨ho,φ,h1,h2,h3⟩:=h
 have hl:(l++R).length=l.length+R.length:=T3
 have hR:∀(i:Nat) (p:HP),R[i]?=some p->p.h (φ (l.length+i)) w:=gn
 refine⟨⟨λk=>β.O k\/∃i,i<R.length/\φ (l.length+i) k,w⟩,⟨⟨λk hk=>.inl hk,ho.os,ho.tape,ho.output,ho.size,λk hk=>ho.old k hk⟩,λi=>φ (l.length+i),λi p hp=>⟨hR i p hp,λk hk=>.inr ⟨i,dH hp,hk⟩⟩,λi hi=>h2 _ d5,λi j hi hj cF=>h3 _ _ d5 d5 d5,λk hk=>hk⟩,rfl,⟨rfl,rfl,rfl,N6 _,λk hk=>⟨?_,rfl⟩⟩,φ,λi p hp=>h1 i p (by rw [aiX (dH hp)];exact hp),λi hi k hk hO=>?_,λi j hi hj cF=>h3 i j d5 d5 cF⟩
 ·rcases hk with hk|⟨i,hi,hk⟩
  ·exact aiq (ho.old k hk).1 ho.size
  obtain⟨p,hp⟩:=lq hi
  exact HP.lt (hR i p hp) k hk
 rcases hO with hO|⟨j,hj,hO⟩
 ·exact h2 i d5 k hk hO
 exact h3 i (l.length+j) d5 d5 d5 k hk hO
theorem oe.back (h:oe β R β') (hS:aP β' l w):aP β (l++R) w:=by
 obtain⟨dP,φ,g1,g2,g3,g4⟩:=h
 obtain⟨ho,ψ,h1,h2,h3⟩:=hS
 have hl:(l++R).length=l.length+R.length:=T3
 have hin:∀i,i<R.length->∀k,φ i k->β'.O k:=λi hi k hk=>by
  obtain⟨p,hp⟩:=lq hi
  exact (g1 i p hp).2 k hk
 have hk:∀i,i<R.length->cL (λk=>¬φ i k) β'.w0 w:=λi hi=>⟨ho.os,ho.tape,ho.output,ho.size,λk _ hn=>(ho.old k (hin i hi k (Classical.not_not.1 hn))).2⟩
 refine⟨ho.le dP,λi=>if i<l.length then ψ i else φ (i-l.length),λi p hp=>?_,λi hi k hk hO=>?_,λi j hi hj cF k hk jA=>?_⟩
 ·grind [HP.st,dH]
 ·by_cases e:i<l.length
  ·simp only [e,if_true] at hk
   exact h2 i e k hk (dP.O k hO)
  grind
 by_cases e1:i<l.length
 ·simp only [e1,if_true] at hk
  by_cases e2:j<l.length
  ·simp only [e2,if_true] at jA
   exact h3 i j e1 e2 cF k hk jA
  grind
 simp only [e1,if_false] at hk
 by_cases e2:j<l.length
 ·grind
 simp only [e2,if_false] at jA
 exact g3 _ _ d5 d5 d5 k hk jA
end Y8
section rules
variable {P:Program} {β β' oV:Bs} {N:fP} {ops:Array Oper} {k:Nat} {fr:Fr} {ay l R:List HP} {Q:Post} {c:Code} {e:Exit} {pk:List Nat} {f:FuncId} {args:Array Value} {pre:List HP}
theorem aB.sF (R:List HP) (pk:List Nat) (hn:bU pk=true) (hp:cT ay pk=some (l++R)) (K:∀β':Bs,β.le β'->β'.le β'->oe β R β'->aB P β' N ops k fr l Q):aB P β N ops k fr ay Q:=λar w hS=>by
 obtain⟨β',h,_,gG⟩:=(hS.pick hn hp).sF
 exact K β' h.le gG.1.Cy h ar w gG
end rules
def oJ (j:Nat) (l2:List (Bool×Nat)):List (Bool×Nat)->OT
 |[]=>.lin ((false,j)::l2)
 |(false,i)::l=>.two i (oJ j l2 l) j (.lin ((false,i)::(l++l2)))
 |(true,i)::l=>.rd i (oJ j l2 l)
def oK (j k:Nat) (l2:List (Bool×Nat)):List (Bool×Nat)->OT
 |[]=>.two j (oJ k l2 []) k (oJ j l2 [])
 |(false,i)::l=>.three i (oK j k l2 l) j (oJ k l2 ((false,i)::l)) k (oJ j l2 ((false,i)::l))
 |(true,i)::l=>.rd i (oK j k l2 l)
section mix
variable {P:Program} {β:Bs} {N:fP} {ops:Array Oper} {S:List HP} {l l' l2:List (Bool×Nat)} {fr bN:Fr} {ay:List HP} {Q:Post} {eT:List Prop} {i j k:Nat}
theorem aP.left {a b:List HP} {w:World} (h:aP β (a++b) w):aP β a w:=by
 obtain⟨h0,φ,h1,h2,h3⟩:=h
 have jX:a.length<=(a++b).length:=nh
 exact⟨h0,φ,λi p hp=>h1 i p gn,λi hi=>h2 i d5,λi j hi hj=>h3 i j d5 d5⟩
def iJ (P:Program) (β:Bs) (N:fP) (ops:Array Oper) (Q:Post) (i d:Nat) (ds:List Nat) (fr:Fr) (pre:List HP) (post:Value->List HP->Prop):Prop:=
 ∀ar w (A:eG),aP β (pre++[.abs A]) w->wpOp P ops (NP Q) i (λa' w'=>∃v l nV,post v l/\a'=fk N fr nV/\nV d=v/\(∀t∈ds,t≠d->nV t=ar t)/\aP β (l++[.abs A]) w') (fk N fr ar) w
def sG (uR:List Nat) (u:Nat->Value):Fr:=uR.map λt=>(t,u t)
theorem LV {uR:List Nat} {u:Nat->Value}:bY (sG uR u)=uR:=by
 induction uR with
 |nil=>rfl
 |cons a r ih=>exact zc (a::·) ih
theorem VZ {uR:List Nat} {u ar:Nat->Value} {t:Nat} (h:t∈uR):lk (sG uR u) ar t=u t:=by
 induction uR with
 |nil=>cases h
 |cons a r ih=>
   grind [lk,sG,lV]
theorem CD {fr Ev:Fr} {ar TN:Nat->Value} (h:∀t,lk fr ar t=lk Ev TN t):fk N fr ar=fk N Ev TN:=by
 unfold fk
 rw [show lk fr ar=lk Ev TN from funext h]
theorem iJ.of {ι:Type} {v:ι->Value} {l:ι->List HP} {o:Oper} {d:Nat} {pre:List HP} (uR:List Nat) (cD:ops[i]?=some o) (hg:o.guard=none) (ahZ:(d::uR).all (λt=>!nj t (bY fr))=true) (hd:nj d uR=false)
 (h:∀(u:Nat->Value) (A:eG),aB P β N #[o] 0 (sG uR u++fr) (pre++[.abs A]) (NP (Er β N (λx=>(d,v x)::(sG uR u++fr)) (λx=>l x++[.abs A])))):iJ P β N ops Q i d (d::uR) fr pre (λv' l'=>∃x,v'=v x/\l'=l x):=by
 intro ar w A hS
 have hout:∀t∈d::uR,t∉bY fr:=λt ht hm=>by
  grind [tM]
 have hdo:d∉uR:=by grind [tM]
 have e1:fk N fr ar=fk N (sG uR ar++fr) ar:=CD λt=>by
  grind [I8,LV,VZ,zB]
 rw [e1]
 refine vC cD hg (Bg (λa w ⟨x,afX,ha,gG⟩=>⟨v x,l x,lk ((d,v x)::(sG uR ar++fr)) afX,⟨x,rfl,rfl⟩,?_,by rw [lV,t8 rfl],λt ht hn=>?_,gG⟩) (show wpList P #[o] (NP (Er β N _ _)) [o] (fk N (sG uR ar++fr) ar) w from h ar A ar w hS))
 all_goals grind [CD,bY,lV,I8,LV,Ns,zB,VZ]
theorem iJ.at_ {d:Nat} {ds:List Nat} {pre X Y:List HP} {post:Value->List HP->Prop} {ar:Nat->Value} {w:World} {K:Act->World->Prop} (h:iJ P β N ops Q i d ds fr pre post) (hS:aP β (X++(pre++Y)) w)
 (hK:∀v l nV w',post v l->nV d=v->(∀t∈ds,t≠d->nV t=ar t)->aP β (X++(l++Y)) w'->K (fk N fr nV) w'):wpOp P ops (NP Q) i K (fk N fr ar) w:=by
 have h1:=aP.turn hS
 rw [aiv] at h1
 refine wpOp_mono (λa' w' ⟨v,l,j2,g1,g2,g3,g4,g5⟩=>?_) (h ar w _ h1.gy)
 rw [g2]
 refine hK v l j2 w' g1 g3 g4 ?_
 have h2:=g5.rX
 rw [←aiv] at h2
 exact aP.turn h2
theorem iJ.grow {d d1:Nat} {ds:List Nat} {pre:List HP} {q:Value->List HP->Prop} (h:iJ P β N ops Q i d (d::d1::ds) fr pre q) (h1:d1∉bY fr) (hd:d1≠d) (hn:d1∉ds) (v1:Value):iJ P β N ops Q i d (d::ds) ((d1,v1)::fr) pre q:=by
 intro ar w A hS
 have e:fk N ((d1,v1)::fr) ar=fk N fr (λt=>if t=d1 then v1 else ar t):=CD λt=>by
  grind [lV,zB,bY,Ns]
 rw [e]
 refine wpOp_mono (λa' w' ⟨v,l,j2,g1,g2,g3,g4,g5⟩=>?_) (h _ w A hS)
 have k1:j2 d1=v1:=gn
 refine⟨v,l,j2,g1,?_,g3,λt ht cF=>?_,g5⟩
 ·rw [g2]
  refine CD λt=>?_
  grind [lV,zB]
 grind
abbrev GP (c:List (Bool×Nat×Nat)):List (Bool×Nat):=c.map (λx=>(x.1,x.2.1))
abbrev Bh (c:List (Bool×Nat×Nat)):List Nat:=c.map (·.2.2)
def o9 (G:List HP->Prop) (P:Program) (β:Bs) (N:fP) (ops:Array Oper) (Q:Post) (S:List HP) (ds:List Nat):List (Bool×Nat×Nat)->Fr->List HP->(Fr->List HP->Prop)->Prop
 |[],fr,ay,R=>R fr ay
 |(false,i,d)::c,fr,ay,R=>(d∉bY fr/\d∉ds)/\∃q:Value->List HP->Prop,iJ P β N ops Q i d (d::ds) fr ay q/\∀v l,q v l->G l/\o9 G P β N ops Q S ds c ((d,v)::fr) l R
 |(true,i,d)::c,fr,ay,R=>(d∉bY fr/\d∉ds)/\∃o v,ops[i]?=some o/\o.dst=some d/\(∀ar,YieldsIf P ops (aP β S) o v (fk N fr ar))/\o9 G P β N ops Q S ds c ((d,v)::fr) ay R
abbrev ef:=o9 λ_=>True
theorem RZ {d:Nat} {a b:List Nat} (h:(!nj d a && !nj d b)=true):d∉a/\d∉b:=by
 simp only [ait,Bool.not_eq_true'] at h
 exact⟨λe=>by rw [tM.2 e] at h;exact KB h.1 (by decide),λe=>by rw [tM.2 e] at h;exact KB h.2 (by decide)⟩
theorem o9.step {G:List HP->Prop} {ds:List Nat} {d:Nat} {c:List (Bool×Nat×Nat)} {R:Fr->List HP->Prop} {q:Value->List HP->Prop} (h:iJ P β N ops Q i d (d::ds) fr ay q) (K:∀v l,q v l->G l/\o9 G P β N ops Q S ds c ((d,v)::fr) l R) (h1:(!nj d (bY fr) && !nj d ds)=true:=by rfl):o9 G P β N ops Q S ds ((false,i,d)::c) fr ay R:=
 ⟨RZ h1,q,h,K⟩
theorem ef.step {ds:List Nat} {d:Nat} {c:List (Bool×Nat×Nat)} {R:Fr->List HP->Prop} {q:Value->List HP->Prop} (h:iJ P β N ops Q i d (d::ds) fr ay q) (K:∀v l,q v l->ef P β N ops Q S ds c ((d,v)::fr) l R) (h1:(!nj d (bY fr) && !nj d ds)=true:=by rfl):ef P β N ops Q S ds ((false,i,d)::c) fr ay R:=
 o9.step h (λv l e=>⟨trivial,K v l e⟩) h1
theorem ef.read {G:List HP->Prop} {ds:List Nat} {d:Nat} {c:List (Bool×Nat×Nat)} {R:Fr->List HP->Prop} (v:Value) (K:o9 G P β N ops Q S ds c ((d,v)::fr) ay R) (h:∀ar,rK P β N ar ops [o_] [i] fr S (d::bY fr)=some ((d,v)::fr,[]):=by intro _;kernel_rfl) (hd:(ops[i]?).map Oper.dst=some (some d):=by rfl) (h1:(!nj d (bY fr) && !nj d ds)=true:=by rfl):o9 G P β N ops Q S ds ((true,i,d)::c) fr ay R:=by
 obtain⟨o,ho,hod⟩:=Option.map_eq_some_iff.1 hd
 refine⟨RZ h1,o,v,ho,hod,λar=>?_,K⟩
 have h0:=h ar
 unfold rK at h0
 split at h0
 ·rename_i fr1 S1 hr
  injection h0 with h0
  injection h0 with ha hb
  unfold o8 at hr
  rw [ho] at hr
  simp only at hr
  repeat' split at hr
  all_goals first|(cases hr;done)|skip
  ·rename_i _ hwant _ v1 T1 hrun _ hv
   unfold o8 at hr
   injection hr with hr
   injection hr with hr1 hr2
   have hv1:v1=v:=by
    grind [lk,kO,eX,bY,lV]
   refine .inl ⟨by rw [gY];exact hwant,λw' gG=>?_⟩
   rw [iY]
   obtain⟨w2,g1,_,_,g4⟩:=p4 hrun (λp hp=>by rw [hr2,hb] at hp;cases hp) (by exact gG) (λe=>by cases e)
   obtain⟨ew,_⟩:=g4 rfl
   rw [ew] at g1
   rcases g1 with g1|⟨g1,_⟩
   all_goals grind [uM]
  rename_i _ hwant
  unfold o8 at hr
  injection hr with hr
  injection hr with hr1 hr2
  have hv1:undef=v:=by
   grind [lk,kO,eX,bY,lV]
  exact .inr ⟨by rw [gY];exact hwant,hv1.symm⟩
 cases h0
theorem Za {h a b Z:List HP} {w:World} (hS:aP β (h++(a++(b++Z))) w):aP β (h++(b++(a++Z))) w:=by
 have h1:aP β ((b++Z++h)++a) w:=by have:=aP.turn (a:=h++a) (b:=b++Z) (by simpa using hS);simpa using this
 have h3:aP β ((Z++h++[.abs (gy a)])++b) w:=by have:=aP.turn (a:=b) (b:=Z++h++[.abs (gy a)]) (by simpa using h1.gy);simpa using this
 have h5:aP β ([.abs (gy a),.abs (gy b)]++(Z++h)) w:=by have:=aP.turn (a:=Z++h) (b:=[.abs (gy a),.abs (gy b)]) (by simpa using h3.gy);simpa using this
 have h7:aP β ([.abs (gy b),.abs (gy a)]++[.abs (gy (Z++h))]) w:=aP.pick (ax:=[1,0,2]) h5.gy rfl rfl
 have h9:aP β ((Z++h++[.abs (gy b)])++[.abs (gy a)]) w:=by have:=aP.turn (a:=[.abs (gy b),.abs (gy a)]) (b:=Z++h) (by simpa using h7.rX);simpa using this
 have h11:aP β ((a++(Z++h))++[.abs (gy b)]) w:=by have:=aP.turn (a:=Z++h++[.abs (gy b)]) (b:=a) (by simpa using h9.rX);simpa using this
 have sH:=aP.turn (a:=a++Z) (b:=h++b) (by simpa using h11.rX)
 simpa using sH
theorem wM {d:Nat} {v:Value} {ar:Nat->Value} (hv:ar d=v) (hd:d∉bY fr):fk N fr ar=fk N ((d,v)::fr) ar:=CD λt=>by
 rw [lV]
 by_cases e1:d=t
 ·subst e1;rw [t8 rfl,zB hd,hv]
 rw [nw e1]
section bes
variable {G:List HP->Prop} {ds:List Nat} {pc Z:List HP} {R:Fr->List HP->Prop}
theorem kept {d:Nat} {v:Value} (h:d∉ds) (ho:∀t∈ds,t∉bY fr):∀t∈ds,t∉bY ((d,v)::fr):=λt ht hm=>by
 rcases T8.1 (show t∈d::bY fr from hm) with e|e
 ·exact h (e ▸ ht)
 exact ho t ht e
theorem Ew {D:List Nat} {u:Nat->Value} (hD:∀t∈D,t∈ds) (hG:∀h X w,G h->aP β (h++(X++Z)) w->aP β S w) (hK:∀f1 h1,R f1 h1->∀ar w,(∀t∈D,ar t=u t)->(∀t∈ds,t∉bY f1)->aP β (h1++Z) w->kJ P ops (NP Q) (aP β S) l2 (fk N f1 ar) w) :
 ∀(c:List (Bool×Nat×Nat)) (fr:Fr) (ay:List HP) (ar:Nat->Value) (w:World),(∀t∈ds,t∉bY fr)->o9 G P β N ops Q S ds c fr ay R->(∀t∈D,ar t=u t)->aP β (ay++Z) w->kJ P ops (NP Q) (aP β S) (GP c++l2) (fk N fr ar) w
 |[],fr,ay,ar,w,ho,hc,hu,hS=>hK fr ay hc ar w hu ho hS
 |(false,i,d)::c,fr,ay,ar,w,ho,⟨⟨h1,h2⟩,q,h3,h4⟩,hu,hS=>by
   show kJ _ _ _ _ ((false,i)::(GP c++l2)) _ _
   unfold kJ
   refine h3.at_ (X:=[]) hS (λv' l j2 w' g1 g2 g3 g4=>⟨.inr (hG l [] w' (h4 v' l g1).1 g4),?_⟩)
   rw [wM g2 h1]
   exact Ew hD hG hK c _ l j2 w' (kept h2 ho) (h4 v' l g1).2 (λt ht=>(g3 t (T4 _ (hD t ht)) (λe=>h2 (e ▸ hD t ht))).trans (hu t ht)) g4
 |(true,i,d)::c,fr,ay,ar,w,ho,⟨⟨h1,h2⟩,o,v',h3,h4,h5,h6⟩,hu,hS=>by
   show kJ _ _ _ _ ((true,i)::(GP c++l2)) _ _
   unfold kJ
   refine⟨o,v',h3,h5 ar,?_⟩
   rw [h4,gS]
   exact Ew hD hG hK c _ ay ar w (kept h2 ho) h6 hu hS
theorem Jb {d:Nat} {c:List Nat} (hnd:bU (d::c)=true):d∉c/\bU c=true:=by
 unfold bU at hnd
 simp only [ait] at hnd
 exact⟨λhm=>by have h:=hnd.1;simp_all,hnd.2⟩
theorem uS {r dr:Nat} {D:List Nat} {u:Nat->Value} {qr:Value->List HP->Prop} (hr:dr∈ds) (hD:∀t∈D,t∈ds) (hn:dr∉D) (hG:∀h X w,G h->aP β (h++(X++Z)) w->aP β S w)
 (hK:∀f1 h1,R f1 h1->∀v lp,qr v lp->∀ar w,ar dr=v->(∀t∈D,ar t=u t)->(∀t∈ds,t∉bY f1)->aP β (h1++(lp++Z)) w->kJ P ops (NP Q) (aP β S) l2 (fk N f1 ar) w) :
 ∀(c:List (Bool×Nat×Nat)) (fr:Fr) (ay:List HP) (ar:Nat->Value) (w:World),bU (Bh c)=true->(∀t∈ds,t∉bY fr)->iJ P β N ops Q r dr (dr::(Bh c++D)) fr [] qr->o9 G P β N ops Q S ds c fr ay R->(∀t∈D,ar t=u t)->G ay->aP β (ay++Z) w->xQ P ops (NP Q) (aP β S) (oJ r l2 (GP c)) (fk N fr ar) w
 |[],fr,ay,ar,w,_,ho,hj,hc,hu,hg,hS=>by
   show kJ _ _ _ _ ((false,r)::l2) _ _
   unfold kJ
   exact hj.at_ (X:=ay) hS (λv l j2 w' g1 g2 g3 g4=>⟨.inr (hG ay l w' hg g4),hK fr ay hc v l g1 j2 w' g2 (λt ht=>(g3 t (by simp [ht]) (λe=>hn (e ▸ ht))).trans (hu t ht)) ho g4⟩)
 |(false,i,d)::c,fr,ay,ar,w,hnd,ho,hj,hc,hu,hg,hS=>by
   have hc0:=hc
   obtain⟨⟨h1,h2⟩,q,h3,h4⟩:=hc
   obtain⟨n1,n2⟩:=Jb hnd
   refine⟨h3.at_ (X:=[]) hS (λv' l j2 w' g1 g2 g3 g4=>⟨hG l [] w' (h4 v' l g1).1 g4,?_⟩),hj.at_ (X:=ay) hS (λv l j2 w' g1 g2 g3 g4=>⟨hG ay l w' hg g4,?_⟩)⟩
   ·rw [wM g2 h1]
    exact uS hr hD hn hG hK c _ l j2 w' n2 (kept h2 ho) (hj.grow h1 (show d≠dr from λe=>h2 (e ▸ hr)) (λe=>(air.1 e).elim n1 (λe=>h2 (hD d e))) v') (h4 v' l g1).2 (λt ht=>(g3 t (T4 _ (hD t ht)) (λe=>h2 (e ▸ hD t ht))).trans (hu t ht)) (h4 v' l g1).1 g4
   exact Ew (Z:=l++Z) (D:=dr::D) (u:=j2) (λt ht=>(T8.1 ht).elim (λe=>e ▸ hr) (hD t)) (λh X w hg hs=>hG h (X++l) w hg (by simpa using hs))
    (λf1 h1 k1 ar w k2 k3 k4=>hK f1 h1 k1 v l g1 ar w ((k2 dr nh).trans g2) (λt ht=>(k2 t (by simp [ht])).trans ((g3 t (by simp [ht]) (λe=>hn (e ▸ ht))).trans (hu t ht))) k3 k4)
    ((false,i,d)::c) fr ay j2 w' ho hc0 (λ_ _=>rfl) g4
 |(true,i,d)::c,fr,ay,ar,w,hnd,ho,hj,⟨⟨h1,h2⟩,o,v',h3,h4,h5,h6⟩,hu,hg,hS=>by
   obtain⟨n1,n2⟩:=Jb hnd
   refine⟨o,v',h3,h5 ar,?_⟩
   rw [h4,gS]
   exact uS hr hD hn hG hK c _ ay ar w n2 (kept h2 ho) (hj.grow h1 (show d≠dr from λe=>h2 (e ▸ hr)) (λe=>(air.1 e).elim n1 (λe=>h2 (hD d e))) v') h6 hu hg hS
theorem Ey {dj dk:Nat} {qj qk:Value->List HP->Prop} (cF:dj≠dk) (hG:∀h X w,G h->aP β (h++(X++Z)) w->aP β S w)
 (hK:∀f1 h1,R f1 h1->∀va la,qj va la->∀vb lb,qk vb lb->∀ar w,ar dj=va->ar dk=vb->(∀t∈[dj,dk],t∉bY f1)->aP β (h1++(la++(lb++Z))) w->kJ P ops (NP Q) (aP β S) l2 (fk N f1 ar) w)
 (c:List (Bool×Nat×Nat)) (fr:Fr) (ay:List HP) (ar:Nat->Value) (w:World) (hnd:bU (Bh c)=true) (ho:∀t∈[dj,dk],t∉bY fr) (hj:iJ P β N ops Q j dj (dj::(Bh c++[dk])) fr [] qj) (hk:iJ P β N ops Q k dk (dk::(Bh c++[dj])) fr [] qk) (hc:o9 G P β N ops Q S [dj,dk] c fr ay R) (hg:G ay) (hS:aP β (ay++Z) w):xQ P ops (NP Q) (aP β S) (oK j k l2 (GP c)) (fk N fr ar) w:=by
 have aj:wpOp P ops (NP Q) j (λa' w'=>aP β S w'/\xQ P ops (NP Q) (aP β S) (oJ k l2 (GP c)) a' w') (fk N fr ar) w:=
  hj.at_ (X:=ay) hS (λv l j2 w' g1 g2 g3 g4=>⟨hG ay l w' hg g4,uS (D:=[dj]) (u:=j2) (Z:=l++Z) nh nh (by simpa using cF.symm) (λh X w hg hs=>hG h (X++l) w hg (by simpa using hs))
   (λf1 h1 k1 vb lb k2 ar w k3 k4 k5 k6=>hK f1 h1 k1 v l g1 vb lb k2 ar w ((k4 dj nh).trans g2) k3 k5 (Za k6)) c fr ay j2 w' hnd ho hk hc (λ_ _=>rfl) hg g4⟩)
 have ak:wpOp P ops (NP Q) k (λa' w'=>aP β S w'/\xQ P ops (NP Q) (aP β S) (oJ j l2 (GP c)) a' w') (fk N fr ar) w:=
  hk.at_ (X:=ay) hS (λv l j2 w' g1 g2 g3 g4=>⟨hG ay l w' hg g4,uS (D:=[dk]) (u:=j2) (Z:=l++Z) nh nh (by simpa using cF) (λh X w hg hs=>hG h (X++l) w hg (by simpa using hs))
   (λf1 h1 k1 va la k2 ar w k3 k4 k5 k6=>hK f1 h1 k1 va la k2 v l g1 ar w k3 ((k4 dk nh).trans g2) k5 k6) c fr ay j2 w' hnd ho hj hc (λ_ _=>rfl) hg g4⟩)
 match c,hc with
 |[],_=>exact⟨aj,ak⟩
 |(false,i,d)::c,⟨⟨h1,h2⟩,q,h3,h4⟩=>
   obtain⟨n1,n2⟩:=Jb hnd
   have hm:∀x∈[dj,dk],d∉Bh c++[x]:=λx hx e=>(air.1 e).elim n1 (λe=>h2 (aiD.1 e ▸ hx))
   refine⟨h3.at_ (X:=[]) hS (λv' l j2 w' g1 g2 g3 g4=>⟨hG l [] w' (h4 v' l g1).1 g4,?_⟩),aj,ak⟩
   rw [wM g2 h1]
   exact Ey cF hG hK c _ l j2 w' n2 (kept h2 ho) (hj.grow h1 (show d≠dj from λe=>h2 (by simp [e])) (hm dk nh) v') (hk.grow h1 (show d≠dk from λe=>h2 (by simp [e])) (hm dj nh) v') (h4 v' l g1).2 (h4 v' l g1).1 g4
 |(true,i,d)::c,⟨⟨h1,h2⟩,o,v',h3,h4,h5,h6⟩=>
   obtain⟨n1,n2⟩:=Jb hnd
   have hm:∀x∈[dj,dk],d∉Bh c++[x]:=λx hx e=>(air.1 e).elim n1 (λe=>h2 (aiD.1 e ▸ hx))
   refine⟨o,v',h3,h5 ar,?_⟩
   rw [h4,gS]
   exact Ey cF hG hK c _ ay ar w n2 (kept h2 ho) (hj.grow h1 (show d≠dj from λe=>h2 (by simp [e])) (hm dk nh) v') (hk.grow h1 (show d≠dk from λe=>h2 (by simp [e])) (hm dj nh) v') h6 hg hS
termination_by c.length
theorem adU {pS:List Nat} (hn:bU pS=true) (hp:cT Z pS=some S) (h X:List HP) (w:World) (_:True) (hS:aP β (h++(X++Z)) w):aP β S w:=aP.pick (ax:=pS) (l:=Z) (aP.left (aP.turn (a:=h++X) (by simpa using hS))) hn hp
theorem lX.beside {t:OT} {dj:Nat} {qj:Value->List HP->Prop} (G:List HP->Prop) (pk:List Nat) (c:List (Bool×Nat×Nat)) (hG:∀h X w,G h->aP β (h++(X++Z)) w->aP β S w) (hg:G pc) (hj:iJ P β N ops Q j dj (dj::(Bh c++[])) fr [] qj) (hc:o9 G P β N ops Q S [dj] c fr pc R)
 (K:∀f1 h1,R f1 h1->∀v lp,qj v lp->eH P β N ops S l2 ((dj,v)::f1) (h1++(lp++Z)) Q)
 (hl:t=oJ j l2 (GP c):=by rfl) (hn:bU pk=true:=by rfl) (hp:cT ay pk=some (pc++Z):=by rfl) (hnd:bU (Bh c)=true:=by rfl) (hd:(!nj dj (bY fr) && !nj dj [])=true:=by rfl):lX P β N ops S t fr ay Q:=by
 intro ar w hS
 subst hl
 refine uS (D:=[]) (u:=ar) nh nh nh hG (λf1 h1 hr v lp hv ar w a1 _ a3 a4=>?_) c fr pc ar w hnd (by simpa using (RZ hd).1) hj hc nh hg (hS.pick hn hp)
 rw [wM a1 (a3 dj nh)]
 exact K f1 h1 hr v lp hv ar w a4
theorem lX.one {t:OT} {dj:Nat} {qj:Value->List HP->Prop} (pS:List Nat) (c:List (Bool×Nat×Nat)) (hj:iJ P β N ops Q j dj (dj::(Bh c++[])) fr [] qj) (hc:ef P β N ops Q S [dj] c fr [] R)
 (K:∀f1 h1,R f1 h1->∀v lp,qj v lp->eH P β N ops S l2 ((dj,v)::f1) (h1++(lp++ay)) Q)
 (hl:t=oJ j l2 (GP c):=by rfl) (hn:bU pS=true:=by rfl) (hp:cT ay pS=some S:=by rfl) (hnd:bU (Bh c)=true:=by rfl) (hd:(!nj dj (bY fr) && !nj dj [])=true:=by rfl):lX P β N ops S t fr ay Q:=by
 intro ar w hS
 subst hl
 refine uS (D:=[]) (u:=ar) nh nh nh (adU hn hp) (λf1 h1 hr v lp hv ar w a1 _ a3 a4=>?_) c fr [] ar w hnd (by simpa using (RZ hd).1) hj hc nh trivial hS
 rw [wM a1 (a3 dj nh)]
 exact K f1 h1 hr v lp hv ar w a4
theorem lX.both {t:OT} {dj dk:Nat} {qj qk:Value->List HP->Prop} (pS:List Nat) (c:List (Bool×Nat×Nat)) (hj:iJ P β N ops Q j dj (dj::(Bh c++[dk])) fr [] qj) (hk:iJ P β N ops Q k dk (dk::(Bh c++[dj])) fr [] qk) (hc:ef P β N ops Q S [dj,dk] c fr [] R)
 (K:∀f1 h1,R f1 h1->∀va la,qj va la->∀vb lb,qk vb lb->eH P β N ops S l2 ((dj,va)::(dk,vb)::f1) (h1++(la++(lb++ay))) Q)
 (hl:t=oK j k l2 (GP c):=by rfl) (hn:bU pS=true:=by rfl) (hp:cT ay pS=some S:=by rfl) (hnd:bU (Bh c)=true:=by rfl) (hd:(!nj dj (bY fr) && !nj dj [dk])=true:=by rfl) (hd2:(!nj dk (bY fr) && !nj dk [])=true:=by rfl):lX P β N ops S t fr ay Q:=by
 intro ar w hS
 subst hl
 obtain⟨n1,n2⟩:=RZ hd
 have n3:=(RZ hd2).1
 have cF:dj≠dk:=by simpa using n2
 refine Ey cF (adU hn hp) (λf1 h1 hr va la ha vb lb hb ar w a1 a2 a3 a4=>?_) c fr [] ar w hnd (by simp [n1,n3]) hj hk hc trivial hS
 rw [wM a2 (a3 dk nh),wM a1 (fr:=(dk,vb)::f1) (λhm=>(T8.1 (show dj∈dk::bY f1 from hm)).elim cF (a3 dj nh))]
 exact K f1 h1 hr va la ha vb lb hb ar w a4
end bes
end mix
end
section
open Go.RowKit Go.WideShapes Go.ChangeShapes Go.ChangeAt Go.Deep
theorem laidOut:laidOutB Tryz.prog=true:=d6
theorem own:ownKnob Tryz.prog.godebug=none:=d6
section row
variable {H:Type} {enc:TypeId×Value->H} {P:Program}
theorem D6 (hl:laidOutB P=true) {W W':World} (hb:Below W.heap.size W W') {sp:Nat->Bool}:∀{ts:List TypeId} {vs:List Value} {ds:List (DataW H)} {ps:List MemPlace},
 (∀t∈ts,P.readableRec t=true/\t<P.types.size)->DataW.TrodAll enc P W 0 (λ_=>true) true ts vs ds ps->(∀x∈ps,x.block<W.heap.size)->(∀x∈ps,sp x.block=true)->DataW.TrodAll enc P W' 0 sp true ts vs ds ps
 |[],vs,ds,ps,_,h,_,_=>by
   obtain⟨rfl,rfl,rfl⟩:=trodAll_nil h
   exact trodAll_mk0
 |t::ts,vs,ds,ps,hr,h,fX,hsp=>by
   obtain⟨v,vs',d,ds',p,q,rfl,rfl,rfl,h1,h2⟩:=trodAll_cons h
   have h3:=hr t T5
   exact trodAll_cons_mk (WideElems.Trod_stays hl h3.1 h3.2 h1 (λx hx=>hb.same (fX x (air.2 (.inl hx)))) (λx hx=>hsp x (air.2 (.inl hx))))
    (D6 hl hb (λt ht=>hr t (T4 _ ht)) h2 (λx hx=>fX x (air.2 (.inr hx))) (λx hx=>hsp x (air.2 (.inr hx))))
def adV (P:Program) (f:Func):Bool:=f.params.toList.all λt=>P.readableRec t && decide (t<P.types.size)
theorem law_post (hl:laidOutB P=true) {f:Func} {s:ChangeSpec} {apart fresh handsOn again:Bool} {W W':World} {args:Array Value} {ds gs:List (DataW H)} {before:List MemPlace} {tb:TypeId} {rb:Bool}
 (hW:DataW.Whole enc P f.params.toList s.vars apart W args.toList ds gs before) (hvars:s.vars=[]) (hrow:adV P f=true) (hres:f.resultTypes=#[tb]) (hb0:P.underlying tb=some .bool)
 (hfn:(s.fn H (ds++gs)).results=[.lit (.bool rb)]) (hargs:(s.fn H (ds++gs)).args=ds) (hv:(s.fn H (ds++gs)).vars=[]) (hb:Below W.heap.size W W') :
 s.post enc P f apart fresh handsOn again W args (.bool rb) W':=by
 have hW':=hW
 obtain⟨p,q,hA,hV,rfl,_,_⟩:=hW
 rw [hvars] at hV
 obtain⟨rfl,rfl⟩:=trodVars_none hV
 have fX:∀x∈p,x.block<W.heap.size:=λx hx=>hW'.lt x (air.2 (.inl hx))
 have hr:∀t∈f.params.toList,P.readableRec t=true/\t<P.types.size:=λt ht=>by
  grind [adV]
 refine Nb (pa:=p) (pv:=[]) hW' (λb sp hd=>?_) (λsp hsp=>?_) (λsp _=>?_) nh hb (ok_one hres rfl (okWide_bool_mk hb0 _))
 ·rw [hfn,hres]
  exact trodAll_cons_mk (shut_bool hb0 _) trodAll_mk0
 ·grind [D6]
 rw [hvars,hv]
 exact rfl
end row
end
section
open Go.RowKit
structure fO where
 name:ByteArray
 id:Int
deriving Inhabited,DecidableEq
structure aO where
 id:Int
 kind:Int
 mode:Int
 cM:Int
 cO:Int
 bH:Int
 bh:Int
 data:List UInt8
 target:ByteArray
 aq:List fO
deriving Inhabited,DecidableEq
structure fq where
 dA:Nat->Option Addr
 eA:Nat->Option Addr
 dC:Nat->Nat
 eC:Nat->Nat
def nd (ns:List aO) (i:Nat):aO:=ns.getD i default
def en (es:List fO) (i:Nat):fO:=es.getD i default
def Dg (b:UInt8):Value:=.int .u8 ((b.toNat:Nat):Int)
def d9 (d:List UInt8):List Value:=d.map Dg
def HZ (e:fO):List Value:=[.string e.name,.int .i64 e.id]
def iT (L:fq) (i:Nat) (n:aO):List Value:=
 [.int .i64 n.id,.int .i64 n.kind,.int .i64 n.mode,.int .i64 n.cM,.int .i64 n.cO,.int .i64 n.bH,.int .i64 n.bh,.slice (L.dA i) n.data.length (L.dC i),.string n.target,.slice (L.eA i) n.aq.length (L.eC i)]
def fA {α:Type} (f:Nat->α->List Value):Nat->List α->List Value
 |_,[]=>[]
 |k,a::r=>f k a++fA f (k+1) r
section flat
variable {α:Type} {f:Nat->α->List Value} {s:Nat}
theorem Bj (hs:∀i a,(f i a).length=s):∀(l:List α) (k:Nat),(fA f k l).length=l.length*s
 |[],_=>by simp [fA]
 |a::r,k=>by rw [fA,T3,hs,Bj hs r,aix,Nat.add_mul,Nat.one_mul,ajb]
theorem uT (hs:∀i a,(f i a).length=s):∀(l:List α) (k i j:Nat) (a:α),l[i]?=some a->j<s->(fA f k l)[i*s+j]?=(f (k+i) a)[j]?
 |[],k,i,j,a,h,_=>by simp at h
 |b::r,k,0,j,a,h,hj=>by
   simp at h
   subst h
   rw [fA,Nat.zero_mul,ain,aiX (by rw [hs];exact hj)]
   rfl
 |b::r,k,i+1,j,a,h,hj=>by
   have h':r[i]?=some a:=by simpa using h
   have e:(i+1)*s+j=s+(i*s+j):=by rw [Nat.add_mul,Nat.one_mul];omega
   rw [fA,e,aiO (by rw [hs];omega),hs,Nat.add_sub_cancel_left,uT hs r (k+1) i j a h' hj]
   have:k+1+i=k+(i+1):=d5
   rw [this]
theorem Dh (a:α):∀(l:List α) (k:Nat),fA f k (l++[a])=fA f k l++f (k+l.length) a
 |[],k=>by simp [fA]
 |b::r,k=>by
   rw [aiE,fA,fA,Dh a r (k+1),aiv,aix]
   have:k+1+r.length=k+(r.length+1):=d5
   rw [this]
theorem Cn {g:Nat->α->List Value}:∀(l:List α) (k:Nat),(∀i a,l[i]?=some a->f (k+i) a=g (k+i) a)->fA f k l=fA g k l
 |[],_,_=>rfl
 |b::r,k,h=>by
   have h1:fA f (k+1) r=fA g (k+1) r:=Cn r (k+1) (λi a hi=>by
    have:=h (i+1) a (by simpa using hi)
    have e:k+1+i=k+(i+1):=d5
    rw [e]
    exact this)
   have h2:f k b=g k b:=h 0 b rfl
   rw [fA,fA,h1,h2]
end flat
def mQ (es:List fO):List Value:=fA (λ_ e=>HZ e) 0 es
def bS (L:fq) (ns:List aO):List Value:=fA (iT L) 0 ns
theorem vF (d:List UInt8):(d9 d).length=d.length:=by simp [d9]
theorem LW (es:List fO):(mQ es).length=es.length*2:=Bj (s:=2) (λ_ _=>rfl) es 0
theorem s5 (L:fq) (ns:List aO):(bS L ns).length=ns.length*10:=Bj (s:=10) (λ_ _=>rfl) ns 0
theorem getD_some {α:Type} {l:List α} {i:Nat} {x:α} (h:i<l.length):l[i]?=some (l.getD i x):=by
 grind
theorem r8 (d:List UInt8):∀u∈d9 d,u.oneCell'=true:=by
 intro u hu
 obtain⟨b,_,rfl⟩:=aik.1 hu
 rfl
theorem xR {α:Type} {f:Nat->α->List Value} (h:∀i a,∀u∈f i a,u.oneCell'=true):∀(l:List α) (k:Nat),∀u∈fA f k l,u.oneCell'=true
 |[],_,u,hu=>by simp [fA] at hu
 |b::r,k,u,hu=>by
   rw [fA] at hu
   rcases air.1 hu with hu|hu
   ·exact h k b u hu
   exact xR h r (k+1) u hu
theorem Ez (es:List fO):∀u∈mQ es,u.oneCell'=true:=xR (λ_ a u hu=>by simp [HZ] at hu;rcases hu with rfl|rfl<;>rfl) es 0
section at_
variable {β β':Bs} {A:Option Addr}
def bO (β:Bs) (A:Option Addr) (d:List UInt8):Prop:=cq β A (d9 d)
def cV (β:Bs) (A:Option Addr) (es:List fO):Prop:=cq β A (mQ es)
theorem bO.le {d:List UInt8} (h:bO β A d) (dP:β.le β'):bO β' A d:=cq.le h dP
theorem cV.le {es:List fO} (h:cV β A es) (dP:β.le β'):cV β' A es:=cq.le h dP
theorem bO.get {d:List UInt8} (h:bO β A d) {j:Nat} (hj:j<d.length):A=some ⟨bG A,bE A,none⟩/\Rd β ⟨bG A,bE A+j*1,none⟩ (.int .u8 (((d.getD j 0).toNat:Nat):Int)):=by
 have h1:(d9 d)[j]?=some (Dg (d.getD j 0)):=by
  grind [d9,getD_some]
 have:=h j _ h1
 rw [Nat.mul_one]
 exact this
theorem bO.hd {d:List UInt8} (h:bO β A d) {j:Nat} (hj:j<d.length):A=some ⟨bG A,bE A,none⟩:=(h.get hj).1
theorem bO.rd {d:List UInt8} (h:bO β A d) {j:Nat} (hj:j<d.length):Rd β ⟨bG A,bE A+j*1,none⟩ (.int .u8 (((d.getD j 0).toNat:Nat):Int)):=(h.get hj).2
theorem cV.get {es:List fO} (h:cV β A es) {i:Nat} (hi:i<es.length) {j:Nat} {v:Value} (hv:(HZ (en es i))[j]?=some v):A=some ⟨bG A,bE A,none⟩/\Rd β ⟨bG A,bE A+i*2+j,none⟩ v:=by
 have hj:j<2:=dH hv
 have h1:=uT (f:=λ_ e=>HZ e) (s:=2) (λ_ _=>rfl) es 0 i j _ (getD_some (x:=default) hi) hj
 have:=h (i*2+j) v (h1.trans hv)
 rw [←ai7] at this
 exact this
theorem cV.hd {es:List fO} (h:cV β A es) {i:Nat} (hi:i<es.length):A=some ⟨bG A,bE A,none⟩:=(h.get hi (j:=0) rfl).1
theorem cV.rd {es:List fO} (h:cV β A es) {i:Nat} (hi:i<es.length) {j:Nat} {v:Value} (hv:(HZ (en es i))[j]?=some v):Rd β ⟨bG A,bE A+i*2+j,none⟩ v:=(h.get hi hv).2
theorem cq.src {ay:List HP} {xs:List Value} (h:cq β A xs):∀w,aP β ay w->(A=none/\xs.length=0)\/∃ad,A=some ad/\∀j u,xs[j]?=some u->w.cell? (ad.add j)=some u:=by
 intro w hS
 cases hA:A with
 |none=>
   refine .inl ⟨rfl,?_⟩
   cases xs with
   |nil=>rfl
   |cons x r=>have:=(h 0 x rfl).1;rw [hA] at this;cases this
 |some a=>
   refine .inr ⟨a,rfl,λj u hj=>?_⟩
   obtain⟨h1,h2⟩:=h j u hj
   rw [hA] at h1 h2
   have e1:a=⟨bG (some a),bE (some a),none⟩:=by injection h1
   have ea:a.add j=⟨bG (some a),bE (some a)+j,none⟩:=by
    rw [e1]
    unfold Addr.add
    split
    ·rename_i h0;subst h0;rfl
    rfl
   rw [ea]
   exact hS.1.cell h2
end at_
structure aN (β:Bs) (A:Option Addr) (ns:List aO) (L:fq):Prop where
 row:cq β A (bS L ns)
 data:∀i,i<ns.length->bO β (L.dA i) (nd ns i).data
 aq:∀i,i<ns.length->cV β (L.eA i) (nd ns i).aq
structure ou (β:Bs) (ns:List aO) (k:Nat) (L:fq):Prop where
 data:∀i,i<k->bO β (L.dA i) (nd ns i).data
 aq:∀i,i<k->cV β (L.eA i) (nd ns i).aq
def fq.put (L:fq) (k:Nat) (dA:Option Addr) (dC:Nat) (eA:Option Addr) (eC:Nat):fq:=
 ⟨λi=>if i=k then dA else L.dA i,λi=>if i=k then eA else L.eA i,λi=>if i=k then dC else L.dC i,λi=>if i=k then eC else L.eC i⟩
section graph
variable {β β':Bs} {A:Option Addr} {ns:List aO} {L:fq}
theorem aN.le (h:aN β A ns L) (dP:β.le β'):aN β' A ns L:=⟨h.row.le dP,λi hi=>(h.data i hi).le dP,λi hi=>(h.aq i hi).le dP⟩
theorem aN.get (h:aN β A ns L) {i:Nat} (hi:i<ns.length) {j:Nat} {v:Value} (hv:(iT L i (nd ns i))[j]?=some v):A=some ⟨bG A,bE A,none⟩/\Rd β ⟨bG A,bE A+i*10+j,none⟩ v:=by
 have hj:j<10:=dH hv
 have h1:=uT (f:=iT L) (s:=10) (λ_ _=>rfl) ns 0 i j _ (getD_some (x:=default) hi) hj
 rw [ain] at h1
 have:=h.row (i*10+j) v (h1.trans hv)
 rw [←ai7] at this
 exact this
theorem aN.hd (h:aN β A ns L) {i:Nat} (hi:i<ns.length):A=some ⟨bG A,bE A,none⟩:=(h.get hi (j:=0) rfl).1
theorem aN.rd (h:aN β A ns L) {i:Nat} (hi:i<ns.length) {j:Nat} {v:Value} (hv:(iT L i (nd ns i))[j]?=some v):Rd β ⟨bG A,bE A+i*10+j,none⟩ v:=(h.get hi hv).2
theorem ou.le {k:Nat} (h:ou β ns k L) (dP:β.le β'):ou β' ns k L:=⟨λi hi=>(h.data i hi).le dP,λi hi=>(h.aq i hi).le dP⟩
theorem ou.put {k:Nat} (h:ou β ns k L) {dA eA:Option Addr} {dC eC:Nat} (hd:bO β dA (nd ns k).data) (he:cV β eA (nd ns k).aq):ou β ns (k+1) (L.put k dA dC eA eC):=by
 refine⟨λi hi=>?_,λi hi=>?_⟩
 ·by_cases e:i=k
  ·subst e;simpa [fq.put] using hd
  simpa [fq.put,e] using h.data i d5
 by_cases e:i=k
 ·subst e;simpa [fq.put] using he
 simpa [fq.put,e] using h.aq i d5
theorem Jc {k:Nat} (hk:k<ns.length) (dA:Option Addr) (dC:Nat) (eA:Option Addr) (eC:Nat) :
 bS L (ns.take k)++[.int .i64 (nd ns k).id,.int .i64 (nd ns k).kind,.int .i64 (nd ns k).mode,.int .i64 (nd ns k).cM,.int .i64 (nd ns k).cO,.int .i64 (nd ns k).bH,.int .i64 (nd ns k).bh,.slice dA (nd ns k).data.length dC,.string (nd ns k).target,.slice eA (nd ns k).aq.length eC] =
  bS (L.put k dA dC eA eC) (ns.take (k+1)):=by
 have e1:ns.take (k+1)=ns.take k++[nd ns k]:=by
  rw [List.take_succ_eq_append_getElem hk]
  simp [nd,List.getD_eq_getElem?_getD,hk]
 have jX:(ns.take k).length=k:=by simp;omega
 rw [bS,bS,e1,Dh,jX,ain]
 grind [fA,iT,Cn,dH,fq.put]
theorem aN.mk' {k:Nat} (hrow:cq β A (bS L (ns.take k))) (h:ou β ns k L) (hk:ns.length<=k):aN β A ns L:=by
 rw [aiP hk] at hrow
 exact⟨hrow,λi hi=>h.data i d5,λi hi=>h.aq i d5⟩
end graph
end
section
open Go.RowKit Go.WideShapes Go.ChangeShapes Go.ChangeAt Go.Deep
abbrev B0 (W:World):Bs:=⟨(· < W.heap.size),W⟩
theorem Kx {w:World} {a:Addr} {v:Value} (h:w.cell? a=some v):a.block<w.heap.size:=by
 unfold World.cell? at h
 grind
theorem V5 {w:World} {a:Addr} {v:Value} (h:w.cell? a=some v):a.spot=none:=by
 unfold World.cell? at h
 split at h
 ·split at h
  ·cases h
  rename_i h0
  cases hs:a.spot with
  |none=>rfl
  |some x=>rw [hs] at h0;exact KB rfl h0
 cases h
theorem add_plain {a:Addr} (k:Nat) (h:a.spot=none):a.add k=⟨a.block,a.off+k,none⟩:=by
 obtain⟨b,o,s⟩:=a
 cases h
 unfold Addr.add
 split
 ·rename_i h0;subst h0;rfl
 rfl
theorem Di {H:Type} {D:Nat->DataW H} {n i:Nat} (hi:i<n):Rows.uptoBulk (D i)<=Rows.uptoBulkAll ((List.range n).map D):=by
 have hm:D i∈(List.range n).map D:=gn
 generalize (List.range n).map D=l at hm
 induction l with
 |nil=>cases hm
 |cons x r ih=>
   simp only [Rows.uptoBulkAll]
   grind
theorem Zb {H:Type} (d:DataW H):1<=Rows.uptoBulk d:=by
 cases d with
 |lit l=>cases l<;>simp [Rows.uptoBulk]
 |nil=>simp [Rows.uptoBulk]
 |ptr d=>simp [Rows.uptoBulk]
 |slice elems spare=>simp [Rows.uptoBulk]
 |agg parts=>simp [Rows.uptoBulk]
 |iface t d=>simp [Rows.uptoBulk]
 |map entries=>simp [Rows.uptoBulk]
 |held h=>simp [Rows.uptoBulk]
theorem wN {H:Type} (l:List (DataW H)):l.length<=Rows.uptoBulkAll l:=by
 induction l with
 |nil=>simp [Rows.uptoBulkAll]
 |cons x r ih=>have:=Zb x;simp only [Rows.uptoBulkAll,aix];omega
theorem bulk_mem {H:Type} {d:DataW H} {l:List (DataW H)} (h:d∈l):Rows.uptoBulk d<=Rows.uptoBulkAll l:=by
 induction l with
 |nil=>cases h
 |cons x r ih=>
   simp only [Rows.uptoBulkAll]
   grind
section open_
variable {H:Type} {enc:TypeId×Value->H} {P:Program} {W:World} {sp:Nat->Bool}
theorem wO {α:Type} [Inhabited α] {t e:TypeId} {size:Nat} {f:α->List Value} {Q:α->DataW H->Prop} (ht:P.underlying t=some (.slice e)) (hC:P.cellsOf e=size) (h0:0<size)
 (hel:∀n cs x,DataW.trod enc P W 0 sp true n e cs=some x->∃a,cs=f a/\Q a x.1) (hf:∀a,(f a).length=size)
 {fuel:Nat} {cs:List Value} {x:DataW H×List MemPlace} (h:DataW.trod enc P W 0 sp true fuel t cs=some x) :
 ∃A c,∃xs:List α,∃D:Nat->DataW H,cs=[.slice A xs.length c]/\xs.length<=c/\c<=maxLen/\cq (B0 W) A (fA (λ_ a=>f a) 0 xs)/\(∀i,i<xs.length->Q (xs.getD i default) (D i)) ∧
   Rows.uptoBulkAll ((List.range xs.length).map D)+1<=Rows.uptoBulk x.1:=by
 rcases open_slice ht h with ⟨hv,hx⟩|⟨a,len,cap,m,n,D,Pl,hcs,hb,hl,hm,hmm,hx,hi⟩
 ·subst hv
  refine⟨none,0,[],λ_=>.nil,rfl,N6 _,L4 _,λj v hj=>by simp [fA] at hj,λi hi=>KB hi (N5 i),?_⟩
  rw [hx]
  simp [Rows.uptoBulk,Rows.uptoBulkAll]
 have hlm:len<=m:=by rw [hmm];split<;>omega
 have hch:∀i,∃b:α,i<len->(W.cells? 0 (a.add (i*P.cellsOf e)) (P.cellsOf e)=some (f b)/\Q b (D i)):=λi=>by
  by_cases hil:i<len
  ·obtain⟨cs',h1,h2⟩:=hi i d5
   grind
  exact⟨default,λh=>KB h hil⟩
 have hg:=λi=>Classical.choose_spec (hch i)
 generalize hG:(λi=>Classical.choose (hch i))=g at hg
 have hg:∀i,i<len->W.cells? 0 (a.add (i*P.cellsOf e)) (P.cellsOf e)=some (f (g i))/\Q (g i) (D i):=λi hi=>by
  grind
 have jX:((List.range len).map g).length=len:=nh
 have hget:∀i,i<len->((List.range len).map g)[i]?=some (g i):=λi hi=>by simp [hi]
 have ahH:∀i,i<len->((List.range len).map g).getD i default=g i:=gn
 have hs1:0<len->a.spot=none:=λhl0=>by
  obtain⟨h2,-⟩:=hg 0 hl0
  rw [hC] at h2
  obtain⟨_,hcl,hat⟩:=World.cells?_some h2
  have h3:=hat 0 h0
  rw [T6 (by rw [hcl];exact h0)] at h3
  have e:(a.add (0*size)).add 0=a:=by rw [Nat.zero_mul];rfl
  rw [e] at h3
  exact V5 h3
 refine⟨some a,cap,(List.range len).map g,D,by rw [jX];exact hcs,by rw [jX];exact hl,hm,λj v hj=>?_,λi hi'=>?_,?_⟩
 ·have hfl:=Bj (f:=λ_ a=>f a) (s:=size) (λ_ a=>hf a) ((List.range len).map g) 0
  have hjl:=dH hj
  rw [hfl,jX] at hjl
  have uL:j / size<len:=(Nat.div_lt_iff_lt_mul h0).2 hjl
  have hj2:j % size<size:=Nat.mod_lt _ h0
  have e:=Nat.div_add_mod j size
  rw [Nat.mul_comm] at e
  have h1:=uT (f:=λ_ a=>f a) (s:=size) (λ_ a=>hf a) _ 0 _ (j % size) _ (hget _ uL) hj2
  rw [e,hj] at h1
  obtain⟨h2,-⟩:=hg _ uL
  rw [hC] at h2
  obtain⟨_,_,hat⟩:=World.cells?_some h2
  have h3:=hat _ hj2
  rw [←h1] at h3
  have hs1:=hs1 (Nat.lt_of_le_of_lt (L4 _) uL)
  rw [add_plain _ hs1] at h3
  rw [add_plain (a:=⟨a.block,a.off+j / size*size,none⟩) _ rfl] at h3
  have e2:a.off+j / size*size+j % size=a.off+j:=d5
  have h4:W.cell? ⟨a.block,a.off+j,none⟩=some v:=by rw [←e2];exact h3
  have ea:(some a:Option Addr)=some ⟨bG (some a),bE (some a),none⟩:=by
   obtain⟨b,o,s⟩:=a
   cases hs1
   rfl
  exact⟨ea,Kx h4,h4⟩
 ·grind
 rw [hx,jX]
 simp only [Rows.uptoBulk]
 omega
theorem acH {t:TypeId} {n:Nat} {cs:List Value} {x:DataW H×List MemPlace} (ht:P.underlying t=some (.int .u8)) (h:DataW.trod enc P W 0 sp true n t cs=some x):∃b:UInt8,cs=[Dg b]/\True:=by
 obtain⟨z,h1,_,h3⟩:=DataW.trod_int ht h
 have h4:0<=z/\z<=255:=by simpa [Lit.wf,IntKind.min,IntKind.max,IntKind.signed,IntKind.bits] using h3
 refine⟨UInt8.ofNat z.toNat,?_,trivial⟩
 have e:(((UInt8.ofNat z.toNat).toNat:Nat):Int)=z:=by
  rw [UInt8.toNat_ofNat']
  omega
 rw [Dg,e]
 exact h1
def uU (z:Int):Prop:=-9223372036854775808<=z/\z<=9223372036854775807
theorem nT {t:TypeId} {n:Nat} {c:Value} {x:DataW H×List MemPlace} (ht:P.underlying t=some (.int .i64)) (h:DataW.trod enc P W 0 sp true n t [c]=some x):∃z,c=.int .i64 z/\uU z:=by
 obtain⟨z,h1,_,h3⟩:=DataW.trod_int ht h
 cases h1
 exact⟨z,rfl,by unfold uU;simpa [Lit.wf,IntKind.min,IntKind.max,IntKind.signed,IntKind.bits] using h3⟩
theorem zL {t:TypeId} {n:Nat} {c:Value} {x:DataW H×List MemPlace} (ht:P.underlying t=some .string) (h:DataW.trod enc P W 0 sp true n t [c]=some x):∃s:ByteArray,c=.string s/\s.size+1<=Rows.uptoBulk x.1:=by
 obtain⟨s,h1,h2,_⟩:=DataW.trod_string ht h
 cases h1
 refine⟨s,rfl,?_⟩
 rw [h2]
 simp only [Rows.uptoBulk,Array.length_toList]
 exact N6 _
end open_
section graph
variable {H:Type} {enc:TypeId×Value->H} {W:World} {sp:Nat->Bool}
theorem Jd:∀(d:List UInt8) (k:Nat),fA (λ_ b=>[Dg b]) k d=d9 d
 |[],_=>rfl
 |b::r,k=>by rw [fA,Jd r (k+1)];rfl
theorem TP {n:Nat} {c:Value} {x:DataW H×List MemPlace} (h:DataW.trod enc Tryz.prog W 0 sp true n 61 [c]=some x) :
 ∃A cp,∃d:List UInt8,c=.slice A d.length cp/\bO (B0 W) A d/\d.length+1<=Rows.uptoBulk x.1:=by
 obtain⟨A,cp,xs,D,h1,_,_,h2,_,h3⟩:=wO (α:=UInt8) (f:=λb=>[Dg b]) (Q:=λ_ _=>True) Tryz.underlying61 (size:=1) d6 d8 (λn cs x h=>acH Tryz.underlying5 h) (λ_=>rfl) h
 cases h1
 have:=wN ((List.range xs.length).map D)
 refine⟨A,cp,xs,rfl,?_,by simp at this;omega⟩
 rw [Jd] at h2
 exact h2
structure TQ (e:fO) (b:Nat):Prop where
 id:uU e.id
 name:e.name.size+1<=b
theorem dO {n:Nat} {cs:List Value} {xs:List (DataW H×List MemPlace)} {i:Nat} {t:TypeId} (h:DataW.trod enc Tryz.prog W 0 sp true n t cs=xs[i]?) (hi:i<xs.length):DataW.trod enc Tryz.prog W 0 sp true n t cs=some xs[i]/\Rows.uptoBulk (xs[i]).1<=Rows.uptoBulk (.agg (xs.map (·.1))):=by
 refine⟨h.trans (T6 hi),?_⟩
 have hm:(xs[i]).1∈xs.map (·.1):=gn
 have:=bulk_mem hm
 simp only [Rows.uptoBulk]
 omega
theorem Zc {n:Nat} {cs:List Value} {x:DataW H×List MemPlace} (h:DataW.trod enc Tryz.prog W 0 sp true n 126 cs=some x):∃e:fO,cs=HZ e/\TQ e (Rows.uptoBulk x.1):=by
 obtain⟨ys,m,_,hx,hl,tG,hf⟩:=DataW.trod_struct Tryz.underlying126 h
 have hC:Tryz.prog.cellsOf 126=2:=d6
 rw [hC] at hl
 match cs,hl with
 |[c0,c1],_=>
   obtain⟨h0,b0⟩:=dO (hf 0 _ rfl) (by rw [tG];decide)
   obtain⟨h1,_⟩:=dO (hf 1 _ rfl) (by rw [tG];decide)
   obtain⟨s,rfl,hs⟩:=zL Tryz.underlying9 h0
   obtain⟨z,rfl,hz⟩:=nT Tryz.underlying3 h1
   exact⟨⟨s,z⟩,rfl,⟨hz,by rw [hx];exact Pe hs b0⟩⟩
theorem V6 {n:Nat} {c:Value} {x:DataW H×List MemPlace} (h:DataW.trod enc Tryz.prog W 0 sp true n 100 [c]=some x) :
 ∃A cp,∃es:List fO,c=.slice A es.length cp/\cV (B0 W) A es/\es.length+1<=Rows.uptoBulk x.1/\∀i,i<es.length->TQ (en es i) (Rows.uptoBulk x.1):=by
 obtain⟨A,cp,xs,D,h1,_,_,h2,h4,h3⟩:=wO (α:=fO) (f:=HZ) (Q:=λe d=>TQ e (Rows.uptoBulk d)) Tryz.underlying100 (size:=2) d6 d8 (λn cs x h=>Zc h) (λ_=>rfl) h
 cases h1
 have h5:=wN ((List.range xs.length).map D)
 refine⟨A,cp,xs,rfl,h2,by simp at h5;omega,λi hi=>⟨(h4 i hi).id,?_⟩⟩
 have h6:=(h4 i hi).name
 have h7:=Di (D:=D) hi
 unfold en
 omega
structure abL (nd:aO) (b:Nat):Prop where
 ids:uU nd.id/\uU nd.kind/\uU nd.mode/\uU nd.cM/\uU nd.cO/\uU nd.bH/\uU nd.bh
 data:nd.data.length+1<=b
 target:nd.target.size+1<=b
 aq:nd.aq.length+1<=b
 bR:∀i,i<nd.aq.length->TQ (en nd.aq i) b
structure Je where
 n:aO
 dA:Option Addr
 dC:Nat
 eA:Option Addr
 eC:Nat
deriving Inhabited
def nlV (a:Je):List Value:=[.int .i64 a.n.id,.int .i64 a.n.kind,.int .i64 a.n.mode,.int .i64 a.n.cM,.int .i64 a.n.cO,.int .i64 a.n.bH,.int .i64 a.n.bh,.slice a.dA a.n.data.length a.dC,.string a.n.target,.slice a.eA a.n.aq.length a.eC]
structure abM (W:World) (a:Je) (b:Nat):Prop where
 nb:abL a.n b
 data:bO (B0 W) a.dA a.n.data
 aq:cV (B0 W) a.eA a.n.aq
theorem V7 {n:Nat} {cs:List Value} {x:DataW H×List MemPlace} (h:DataW.trod enc Tryz.prog W 0 sp true n 102 cs=some x):∃a:Je,cs=nlV a/\abM W a (Rows.uptoBulk x.1):=by
 obtain⟨ys,m,_,hx,hl,tG,hf⟩:=DataW.trod_struct Tryz.underlying102 h
 have hC:Tryz.prog.cellsOf 102=10:=d6
 rw [hC] at hl
 match cs,hl with
 |[c0,c1,c2,c3,c4,c5,c6,c7,c8,c9],_=>
   obtain⟨h0,_⟩:=dO (hf 0 _ rfl) (by rw [tG];decide)
   obtain⟨h1,_⟩:=dO (hf 1 _ rfl) (by rw [tG];decide)
   obtain⟨h2,_⟩:=dO (hf 2 _ rfl) (by rw [tG];decide)
   obtain⟨h3,_⟩:=dO (hf 3 _ rfl) (by rw [tG];decide)
   obtain⟨h4,_⟩:=dO (hf 4 _ rfl) (by rw [tG];decide)
   obtain⟨h5,_⟩:=dO (hf 5 _ rfl) (by rw [tG];decide)
   obtain⟨h6,b6⟩:=dO (hf 6 _ rfl) (by rw [tG];decide)
   obtain⟨h7,b7⟩:=dO (hf 7 _ rfl) (by rw [tG];decide)
   obtain⟨h8,b8⟩:=dO (hf 8 _ rfl) (by rw [tG];decide)
   obtain⟨z0,rfl,w0⟩:=nT Tryz.underlying3 h0
   obtain⟨z1,rfl,w1⟩:=nT Tryz.underlying3 h1
   obtain⟨z2,rfl,w2⟩:=nT Tryz.underlying3 h2
   obtain⟨z3,rfl,w3⟩:=nT Tryz.underlying3 h3
   obtain⟨z4,rfl,w4⟩:=nT Tryz.underlying3 h4
   obtain⟨us,_,_,_,_,hul,hu⟩:=DataW.trod_struct Tryz.underlying26 h5
   obtain⟨g0,_⟩:=dO (hu 0 _ rfl) (by rw [hul];decide)
   obtain⟨g1,_⟩:=dO (hu 1 _ rfl) (by rw [hul];decide)
   obtain⟨z5,rfl,w5⟩:=nT (c:=c5) Tryz.underlying3 g0
   obtain⟨z6,rfl,w6⟩:=nT (c:=c6) Tryz.underlying3 g1
   obtain⟨A7,p7,d7,rfl,q7,l7⟩:=TP (c:=c7) h6
   obtain⟨s8,rfl,l8⟩:=zL (c:=c8) Tryz.underlying9 h7
   obtain⟨A9,p9,e9,rfl,q9,l9,k9⟩:=V6 (c:=c9) h8
   rw [hx]
   exact⟨⟨⟨z0,z1,z2,z3,z4,z5,z6,d7,s8,e9⟩,A7,p7,A9,p9⟩,rfl,⟨⟨w0,w1,w2,w3,w4,w5,w6⟩,Pe l7 b6,Pe l8 b7,Pe l9 b8,λi hi=>⟨(k9 i hi).id,Pe (k9 i hi).name b8⟩⟩,q7,q9⟩
structure kA (ns:List aO) (b:Nat):Prop where
 len:ns.length+1<=b
 node:∀i,i<ns.length->abL (nd ns i) b
theorem Jf (L:fq):∀(xs:List Je) (k:Nat),(∀i,i<xs.length->L.dA (k+i)=(xs.getD i default).dA/\L.dC (k+i)=(xs.getD i default).dC/\L.eA (k+i)=(xs.getD i default).eA/\L.eC (k+i)=(xs.getD i default).eC)->fA (λ_ a=>nlV a) k xs=fA (iT L) k (xs.map (·.n))
 |[],_,_=>rfl
 |a::r,k,h=>by
   obtain⟨h1,h2,h3,h4⟩:=h 0 nh
   simp only [Nat.add_zero,List.getD_cons_zero] at h1 h2 h3 h4
   rw [fA,aiB,fA,Jf L r (k+1) (λi hi=>by
    have:=h (i+1) (by simp;omega)
    rw [List.getD_cons_succ] at this
    have e:k+(i+1)=k+1+i:=d5
    rw [e] at this
    exact this)]
   rw [iT,h1,h2,h3,h4]
   rfl
theorem TR {n:Nat} {c:Value} {x:DataW H×List MemPlace} (h:DataW.trod enc Tryz.prog W 0 sp true n 22 [c]=some x) :
 ∃A cp,∃ns:List aO,∃L:fq,c=.slice A ns.length cp/\aN (B0 W) A ns L/\kA ns (Rows.uptoBulk x.1):=by
 obtain⟨A,cp,xs,D,h1,_,_,h2,h4,h3⟩:=wO (α:=Je) (f:=nlV) (Q:=λa d=>abM W a (Rows.uptoBulk d)) Tryz.underlying22 (size:=10) d6 d8 (λn cs x h=>V7 h) (λ_=>rfl) h
 cases h1
 have h5:=wN ((List.range xs.length).map D)
 have e:(xs.map (·.n)).length=xs.length:=nh
 have hnd:∀i,i<xs.length->nd (xs.map (·.n)) i=(xs.getD i default).n:=λi hi=>by
  simp [nd,List.getD_eq_getElem?_getD,hi]
 refine⟨A,cp,xs.map (·.n),⟨λi=>(xs.getD i default).dA,λi=>(xs.getD i default).eA,λi=>(xs.getD i default).dC,λi=>(xs.getD i default).eC⟩,by rw [e],⟨?_,λi hi=>?_,λi hi=>?_⟩,by simp at h5;rw [e];omega,λi hi=>?_⟩
 ·rw [Jf ⟨λi=>(xs.getD i default).dA,λi=>(xs.getD i default).eA,λi=>(xs.getD i default).dC,λi=>(xs.getD i default).eC⟩ xs 0 (λi _=>gn)] at h2
  exact h2
 ·rw [e] at hi
  rw [hnd i hi]
  exact (h4 i hi).data
 ·rw [e] at hi
  rw [hnd i hi]
  exact (h4 i hi).aq
 rw [e] at hi
 rw [hnd i hi]
 have h7:=Di (D:=D) hi
 have h8:=(h4 i hi).nb
 exact⟨h8.ids,by have:=h8.data;omega,by have:=h8.target;omega,by have:=h8.aq;omega,λj hj=>⟨(h8.bR j hj).id,by have:=(h8.bR j hj).name;omega⟩⟩
end graph
end
section
theorem H6 {α:Type} {x:α} {a b:List α} (hl:a.length=b.length) (h:∀j,j<a.length->a.getD j x=b.getD j x):a=b:=by
 apply List.ext_getElem hl
 grind
theorem acI {a b:UInt8} (h:((a.toNat:Nat):Int)=((b.toNat:Nat):Int)):a=b:=aiI.1 d5
theorem afY {a b:fO} (h:a.name=b.name/\a.id=b.id):a=b:=by cases a;cases b;simp_all
theorem adW {n m:aO} (h1:n.id=m.id) (h2:n.kind=m.kind) (h3:n.mode=m.mode) (h4:n.cM=m.cM) (h5:n.cO=m.cO) (h6:n.bH=m.bH/\n.bh=m.bh) (h7:n.target=m.target) (h8:n.data=m.data) (h9:n.aq=m.aq):n=m:=by
 cases n;cases m;simp_all
end
section
open Go.RowKit
theorem QZ {w:World} {o:Oper} {ev:Operand->Value} {x y:Operand} {a b c d:Int} (ho:o.op=.binOp .neq 26 x y 26) (hx:ev x=.agg #[.int .i64 a,.int .i64 b]) (hy:ev y=.agg #[.int .i64 c,.int .i64 d]) :
 sB Tryz.prog ev o w (.bool (!decide (a=c/\b=d))) w:=by
 obtain⟨dst,op,type,pos,after,guard⟩:=o
 cases ho
 refine .inl ?_
 simp only [execOp,hx,hy]
 simp [go_sem]
 grind
theorem TS {w:World} {o:Oper} {ev:Operand->Value} {x y:Operand} {a c:ByteArray} {b d:Int} (ho:o.op=.binOp .neq 126 x y 126) (hx:ev x=.agg #[.string a,.int .i64 b]) (hy:ev y=.agg #[.string c,.int .i64 d]) :
 sB Tryz.prog ev o w (.bool (!decide (a=c/\b=d))) w:=by
 obtain⟨dst,op,type,pos,after,guard⟩:=o
 cases ho
 refine .inl ?_
 simp only [execOp,hx,hy]
 simp [go_sem,Ek]
 grind
end
section
open Go.RowKit
attribute [local irreducible] aB bJ av aF
theorem EA {β:Bs} (A1 A2:Option Addr) (c1 c2:Nat) (d1 d2:List UInt8) (hA1:bO β A1 d1) (hA2:bO β A2 d2) (hl:d1.length<=140737488355328) :
 aU Tryz.prog β 49 #[.slice A1 d1.length c1,.slice A2 d2.length c2] [] (λv l=>v=.bool (decide (d1=d2))/\l=[]):=by
 refine SE Tryz.func49 Tryz.ntmps49 (λR=>SR (jK 1 [] [] (NZ (jK 5 [10] [] (NN (cN ((((d1.length:Nat):Int):Int)=(((d2.length:Nat):Int):Int)) (λh10=>zR ⟨by rw [Lk (λe=>h10 (by rw [e]))],rfl⟩) (λh10=>KX (SQ (jK 1 [5] [] (NN (av.block (lJ (λ(i:Nat)=>(i<=d1.length)/\(∀j,j<i->d1.getD j 0=d2.getD j 0)) (λ(i:Nat)=>d1.length-i) (λ(i:Nat)=>[(0,.slice A1 (d1.length) (c1)),(1,.slice A2 (d2.length) (c2)),(5,vI ↑i)]) (λ(i:Nat)=>[.abs R]) 0 [0] (⟨L4 _,λj hj=>KB hj (N5 j)⟩) ?_))))))))))))
 rintro i ⟨hi,j3⟩
 exact SQ (jK 4 [14] [] (NN (cP ((((i:Nat):Int):Int)<(((d1.length:Nat):Int):Int)) (λnO=>KX (av.seq (av.block (av.seq (rQ (jQ 9 [25] [(2,x_ i d1.length (bO.hd hA1 (j:=i) d5)),(3,p_ ⟨[.old (.int .u8 ((((List.getD d1 i 0).toNat:Nat):Int)))],none,none,none,none⟩ [(Rd β ⟨(bG A1),bE A1+i*1,none⟩ (.int .u8 ((((List.getD d1 i 0).toNat:Nat):Int))))] ⟨bO.rd hA1 d5,trivial⟩),(6,x_ i d2.length (bO.hd hA2 (j:=i) d5)),(7,p_ ⟨[.old (.int .u8 ((((List.getD d2 i 0).toNat:Nat):Int)))],none,none,none,none⟩ [(Rd β ⟨(bG A2),bE A2+i*1,none⟩ (.int .u8 ((((List.getD d2 i 0).toNat:Nat):Int))))] ⟨bO.rd hA2 d5,trivial⟩)] (NQ (NX (cN (((((List.getD d1 i 0).toNat:Nat):Int):Int)=((((List.getD d2 i 0).toNat:Nat):Int):Int)) (λqJ=>zR ⟨by rw [Lk (λe=>qJ (by rw [e]))],rfl⟩) (λqJ=>KX (av.region (jK 3 [5] [(1,wJ ((i:Int)+1) (↑(i+1)))] (NL (tJ ((i+1)) [0] (⟨d5,λj hj=>by grind [acI]⟩))))))))))))))) (λnO=>XX (zR ⟨by rw [aio (H6 (x:=0) d5 (λj hj=>j3 j d5))],rfl⟩)))))
theorem NW {β:Bs} (A:Option Addr) (c:Nat) (d:List UInt8) (hA:bO β A d) (hl:d.length<=1048576) :
 bK Tryz.prog β 36 #[.slice A d.length c] [] (λβ' v l=>∃B cap,v=.slice B d.length cap/\l=[]/\bO β' B d):=by
 refine lW Tryz.func36 Tryz.ntmps36 (λaE R=>SR (jK 1 [] [] (NS (jB 2 [3] (λb1=>.aD b1 [] 5) (λb1=>NS (aB.mem (λw hS=>hS.nW (i:=1) (b:=b1) (cs:=[]) (e:=5) 1 0 d6 rfl d8) (jK 2 [5,6] [] (VX 1 61 A d.length c (d9 d) rfl (hA.src) (λA2 c3=>aB.cR 1 rfl (by rw [ain,List.nil_append]) (sl 7 (.slice A2 (0+d.length) (c3)) (.slice A2 (d.length) (c3)) (by rw [ain]) (jK 1 [3] [] (NS (aB.mA (Φ:=λβ'=>bO β' A2 d) 1 [0] (gj:=[.abs R]) rfl rfl d6 (λF w h β' h1 h2=>cq.gZ h h1 h2) (λβ1 cW hB=>?_)))))) (hl:=by rw [vF,Nat.mul_one]) (h1:=r8 d)))))))))
 replace hA:=hA.le cW
 replace aE:=aE.trans cW
 exact jK 2 [2] [] (eO [] aE ⟨A2,c3,rfl,rfl,hB⟩)
theorem Q0 {β:Bs} (n:aO) (dA eA:Option Addr) (dC eC:Nat) (hD:bO β dA n.data) (hE:cV β eA n.aq) (hl1:n.data.length<=1048576) (hl2:n.aq.length<=1048576) :
 bK Tryz.prog β 54 #[.agg #[vI (n.id),vI (n.kind),vI (n.mode),vI (n.cM),vI (n.cO),vI (n.bH),vI (n.bh),.slice dA (n.data.length) (dC),.string n.target,.slice eA (n.aq.length) (eC)]] [] (λβ' v l=>∃dB cd eB ce,v=.agg #[vI (n.id),vI (n.kind),vI (n.mode),vI (n.cM),vI (n.cO),vI (n.bH),vI (n.bh),.slice dB (n.data.length) (cd),.string n.target,.slice eB (n.aq.length) (ce)]/\l=[]/\bO β' dB n.data/\cV β' eB n.aq):=by
 refine lW Tryz.func54 Tryz.ntmps54 (λaE R=>SR (jB 1 [1] (λb4=>.aD b4 [vI (n.id),vI (n.kind),vI (n.mode),vI (n.cM),vI (n.cO),vI (n.bH),vI (n.bh),.slice dA (n.data.length) (dC),.string n.target,.slice eA (n.aq.length) (eC)] 102) (λb4=>jB 1 [2] (λb5=>.aD b5 [vI 0,vI 0,vI 0,vI 0,vI 0,vI 0,vI 0,.slice none (0) (0),.string ⟨#[]⟩,.slice none (0) (0)] 102) (λb5=>NS (jK 2 [5] [(1,a_ 1 b4)] (aB.TK (args:=#[.slice dA (n.data.length) (dC)]) (d:=(some 6)) (pre:=[]) (R:=[.abs R,.aD b4 [vI (n.id),vI (n.kind),vI (n.mode),vI (n.cM),vI (n.cO),vI (n.bH),vI (n.bh),.slice dA (n.data.length) (dC),.string n.target,.slice eA (n.aq.length) (eC)] 102,.aD b5 [vI 0,vI 0,vI 0,vI 0,vI 0,vI 0,vI 0,.slice none (0) (0),.string ⟨#[]⟩,.slice none (0) (0)] 102]) (pk:=[0,1,2]) (λ_=>d6) (NW dA dC n.data hD hl1) rfl d6 ?_))))))
 rintro β1 _ _ cW ⟨B6,c7,rfl,rfl,CG⟩
 replace hD:=hD.le cW
 replace hE:=hE.le cW
 replace aE:=aE.trans cW
 refine jC 2 [] [(1,a_ 1 b4)] [(1,[(7,.slice B6 (n.data.length) (c7))])] (NS (jB 2 [3] (λb8=>.aD b8 [] 126) (λb8=>NS (aB.mem (λw hS=>hS.nW (i:=3) (b:=b8) (cs:=[]) (e:=126) 2 0 d6 rfl d8) (jK 3 [9,11] [(2,a_ 1 b4)] (mO 3 100 eA n.aq.length eC (mQ n.aq) rfl (hE.src) (λA9 c10=>aB.cR 3 rfl (by rw [ain,List.nil_append]) (sl 12 (.slice A9 (0+n.aq.length) (c10)) (.slice A9 (n.aq.length) (c10)) (by rw [ain]) (jK 1 [3] [] (NS (aB.mA (Φ:=λβ'=>cV β' A9 n.aq) 3 [0,1,2] (gj:=[.abs R,.aD b4 [vI (n.id),vI (n.kind),vI (n.mode),vI (n.cM),vI (n.cO),vI (n.bH),vI (n.bh),.slice B6 (n.data.length) (c7),.string n.target,.slice eA (n.aq.length) (eC)] 102,.aD b5 [vI 0,vI 0,vI 0,vI 0,vI 0,vI 0,vI 0,.slice none (0) (0),.string ⟨#[]⟩,.slice none (0) (0)] 102]) rfl rfl d6 (λF w h β' h1 h2=>cq.gZ h h1 h2) (λoV gJ hE1=>?_)))))) (hl:=by rw [LW]) (h1:=Ez n.aq)))))))
 replace hD:=hD.le gJ
 replace hE:=hE.le gJ
 replace CG:=CG.le gJ
 replace aE:=aE.trans gJ
 exact jC 3 [] [(2,a_ 1 b4)] [(1,[(9,.slice A9 (n.aq.length) (c10))])] (NS (jC 2 [] [(0,A_ 1 b4 10),(1,A_ 2 b5 10)] [(2,[(0,vI (n.id)),(1,vI (n.kind)),(2,vI (n.mode)),(3,vI (n.cM)),(4,vI (n.cO)),(5,vI (n.bH)),(6,vI (n.bh)),(7,.slice B6 (n.data.length) (c7)),(8,.string n.target),(9,.slice A9 (n.aq.length) (c10))])] (eO [A_ 2 b5 10] aE ⟨B6,c7,A9,c10,rfl,rfl,CG,hE1⟩)))
theorem NY {β:Bs} (A:Option Addr) (c:Nat) (ns:List aO) (L:fq) (hG:aN β A ns L) (hl:ns.length<=1048576) (hd:∀i,i<ns.length->(nd ns i).data.length<=1048576/\(nd ns i).aq.length<=1048576) :
 bK Tryz.prog β 27 #[.agg #[.slice A ns.length c]] [] (λβ' v l=>∃B cap L',v=.agg #[.slice B ns.length cap]/\l=[]/\aN β' B ns L'):=by
 refine lW Tryz.func27 Tryz.ntmps27 (λaE R=>SR (jB 1 [1] (λb11=>.aD b11 [.slice A (ns.length) (c)] 24) (λb11=>jB 1 [2] (λb12=>.aD b12 [.slice none (0) (0)] 24) (λb12=>NS (jB 2 [3] (λb13=>.aD b13 [] 102) (λb13=>NZ (aB.mem (λw hS=>hS.nW (i:=3) (b:=b13) (cs:=[]) (e:=102) 10 0 d6 rfl d8) (jK 1 [4] [] (NN (av.block (lB (λ(k,b,Ao,cp,L')=>b) (λ(k,b,Ao,cp,L')=>(k<=ns.length)/\(β.le b)/\(aN b A ns L)/\(ou b ns k L')) (λ(k,b,Ao,cp,L')=>ns.length-k) (λ(k,b,Ao,cp,L')=>[(1,vP b11),(2,vP b12),(3,.slice Ao (k) (cp)),(4,vI ↑k)]) (λ(k,b,Ao,cp,L')=>[.aD b11 [.slice A (ns.length) (c)] 24,.aD b12 [.slice none (0) (0)] 24,.abs (aI 102 10 Ao k cp (bS L' (ns.take k))),.abs R]) (0,β,some ⟨b13,0,none⟩,0,⟨λ_=>none,λ_=>none,λ_=>0,λ_=>0⟩) [1,2,3,0] (⟨L4 _,aE,hG,⟨λi hi=>KB hi (N5 _),λi hi=>KB hi (N5 _)⟩⟩) ?_)))))))))))
 rintro⟨k,b,Ao,cp,L'⟩ ⟨hk,aE,hG,hI⟩
 refine SQ (jK 5 [10] [(2,a_ 0 b11)] (NN (cP ((((k:Nat):Int):Int)<(((ns.length:Nat):Int):Int)) (λh10=>?_) (λh10=>?_))))
 ·refine KX (av.seq (av.block (av.region (jK 6 [13,18] [(2,a_ 0 b11),(4,x_ k ns.length (aN.hd hG (i:=k) d5)),(5,Et (iT L k (nd ns k)) (λ_ _ h=>aN.rd hG d5 h))] (aB.TK (args:=#[.agg ⟨iT L k (nd ns k)⟩]) (d:=(some 19)) (pre:=[]) (R:=[.aD b11 [.slice A (ns.length) (c)] 24,.aD b12 [.slice none (0) (0)] 24,.abs (aI 102 10 Ao k cp (bS L' (ns.take k))),.abs R]) (pk:=[0,1,2,3]) (λ_=>d6) (Q0 (nd ns k) (L.dA k) (L.eA k) (L.dC k) (L.eC k) (hG.data k d5) (hG.aq k d5) (hd k d5).1 (hd k d5).2) rfl d6 ?_)))))
  rintro adX _ _ ur ⟨Zd,Ze,Zf,Zg,rfl,rfl,hdB,heB⟩
  replace hG:=hG.le ur
  replace hI:=hI.le ur
  replace aE:=aE.trans ur
  exact jB 1 [20] (λb19=>.aD b19 [vI ((nd ns k).id),vI ((nd ns k).kind),vI ((nd ns k).mode),vI ((nd ns k).cM),vI ((nd ns k).cO),vI ((nd ns k).bH),vI ((nd ns k).bh),.slice Zd ((nd ns k).data.length) (Ze),.string (nd ns k).target,.slice Zf ((nd ns k).aq.length) (Zg)] 102) (λb19=>mO 2 22 (some ⟨b19,0,none⟩) 1 1 [vI ((nd ns k).id),vI ((nd ns k).kind),vI ((nd ns k).mode),vI ((nd ns k).cM),vI ((nd ns k).cO),vI ((nd ns k).bH),vI ((nd ns k).bh),.slice Zd ((nd ns k).data.length) (Ze),.string (nd ns k).target,.slice Zf ((nd ns k).aq.length) (Zg)] rfl (gq (j:=4) rfl) (λog oh=>aB.cR 2 rfl (by rw [Jc d5]) (jK 1 [3] [] (LX (av.region (jK 3 [4] [(1,wJ ((k:Int)+1) (↑(k+1)))] (NL (tB ((k+1),adX,og,oh,(L'.put k Zd Ze Zf Zg)) [0,1,2,3] (⟨d5,aE,hG,hI.put hdB heB⟩)))))))))
 refine XX (SR (aB.mA (Φ:=λβ'=>cq β' Ao (bS L' (ns.take k))) 2 [0,1,3] (gj:=[.aD b11 [.slice A (ns.length) (c)] 24,.aD b12 [.slice none (0) (0)] 24,.abs R]) rfl rfl d6 (λF w h β' h1 h2=>cq.gZ h h1 h2) (λβz Ky hR=>?_)))
 replace hG:=hG.le Ky
 replace hI:=hI.le Ky
 replace aE:=aE.trans Ky
 exact sl 3 (.slice Ao (k) (cp)) (.slice Ao (ns.length) (cp)) (by rw [show k=ns.length by omega]) (jC 3 [] [(2,a_ 1 b12)] [(1,[(0,.slice Ao (ns.length) (cp))])] (eO [a_ 1 b12] aE ⟨Ao,cp,L',rfl,rfl,aN.mk' hR hI d5⟩ [2]))
theorem Q5 {β:Bs} (n m:aO) (dA eA dB eB:Option Addr) (dC eC dD eD:Nat) (hD:bO β dA n.data) (hE:cV β eA n.aq) (D7:bO β dB m.data) (xS:cV β eB m.aq) (hl1:n.data.length<=140737488355328) (hl2:n.aq.length<=1048576) :
 aU Tryz.prog β 44 #[.agg #[vI (n.id),vI (n.kind),vI (n.mode),vI (n.cM),vI (n.cO),vI (n.bH),vI (n.bh),.slice dA (n.data.length) (dC),.string n.target,.slice eA (n.aq.length) (eC)],.agg #[vI (m.id),vI (m.kind),vI (m.mode),vI (m.cM),vI (m.cO),vI (m.bH),vI (m.bh),.slice dB (m.data.length) (dD),.string m.target,.slice eB (m.aq.length) (eD)]] [] (λv l=>v=.bool (decide (n=m))/\l=[]):=by
 refine SE Tryz.func44 Tryz.ntmps44 (λR=>SR (jB 1 [2] (λzM=>.aD zM [vI (n.id),vI (n.kind),vI (n.mode),vI (n.cM),vI (n.cO),vI (n.bH),vI (n.bh),.slice dA (n.data.length) (dC),.string n.target,.slice eA (n.aq.length) (eC)] 102) (λzM=>jB 2 [3] (λvG=>.aD vG [vI (m.id),vI (m.kind),vI (m.mode),vI (m.cM),vI (m.cO),vI (m.bH),vI (m.bh),.slice dB (m.data.length) (dD),.string m.target,.slice eB (m.aq.length) (eD)] 102) (λvG=>NZ (jK 6 [11] [(1,a_ 1 zM),(3,a_ 2 vG)] (sN 11 ((n.id:Int)=(m.id:Int)) (λh11=>jK 58 [69] [] (NT (zR ⟨by rw [Lk (λe=>h11 gn)],rfl⟩))) (λh11=>jK 7 [18] [(1,a_ 1 zM),(3,a_ 2 vG)] (sN 18 ((n.kind:Int)=(m.kind:Int)) (λpQ=>jK 51 [69] [] (NT (zR ⟨by rw [Lk (λe=>pQ gn)],rfl⟩))) (λpQ=>jK 7 [25] [(1,a_ 1 zM),(3,a_ 2 vG)] (sN 25 ((n.mode:Int)=(m.mode:Int)) (λqJ=>jK 44 [69] [] (NT (zR ⟨by rw [Lk (λe=>qJ gn)],rfl⟩))) (λqJ=>jK 7 [32] [(1,a_ 1 zM),(3,a_ 2 vG)] (sN 32 ((n.cM:Int)=(m.cM:Int)) (λr9=>jK 37 [69] [] (NT (zR ⟨by rw [Lk (λe=>r9 gn)],rfl⟩))) (λr9=>jK 7 [39] [(1,a_ 1 zM),(3,a_ 2 vG)] (sN 39 ((n.cO:Int)=(m.cO:Int)) (λlY=>jK 30 [69] [] (NT (zR ⟨by rw [Lk (λe=>lY gn)],rfl⟩))) (λlY=>jK 4 [41,43] [(1,A_ 1 zM 2),(3,A_ 2 vG 2)] (aB.nH (d:=(some 44)) (op:=.binOp .neq 26 (.tmp 41) (.tmp 43) 26) (v:=.bool (!(decide ((n.bH:Int)=(m.bH:Int)/\(n.bh:Int)=(m.bh:Int))))) (λ_=>d6) (λo ar w ho hS=>⟨w,QZ ho d6 d6,hS⟩) (jK 2 [46] [] (sN 46 ((n.bH:Int)=(m.bH:Int)/\(n.bh:Int)=(m.bh:Int)) (λh46=>jK 23 [69] [] (NT (zR ⟨by rw [Lk (λe=>h46 gn)],rfl⟩))) (λh46=>jK 7 [53] [(1,a_ 1 zM),(3,a_ 2 vG),(4,w_ (.bool (!(decide ((n.target:ByteArray)=m.target)))) (IY _ _))] (sN 53 ((n.target:ByteArray)=m.target) (λR3=>jK 16 [69] [] (NT (zR ⟨by rw [Lk (λe=>R3 gn)],rfl⟩))) (λR3=>jK 9 [62] [(1,a_ 1 zM),(4,a_ 2 vG)] (sN 62 ((((n.aq.length:Nat):Int):Int)=(((m.aq.length:Nat):Int):Int)) (λD8=>jK 7 [69] [] (NT (zR ⟨by rw [Lk (λe=>D8 gn)],rfl⟩))) (λD8=>jK 4 [64,66] [(1,a_ 1 zM),(3,a_ 2 vG)] (gE [] (EA dA dB dC dD n.data m.data hD D7 hl1) (jK 2 [69] [] (NN (cN (n.data=m.data) (λh69=>zR ⟨by rw [Lk (λe=>h69 gn)],rfl⟩) (λh69=>KX (SQ (jK 1 [5] [] (NN (av.block (lJ (λ(i:Nat)=>(i<=n.aq.length)/\(∀j,j<i->n.aq.getD j default=m.aq.getD j default)) (λ(i:Nat)=>n.aq.length-i) (λ(i:Nat)=>[(2,vP zM),(3,vP vG),(5,vI ↑i)]) (λ(i:Nat)=>[.abs R,.aD zM [vI (n.id),vI (n.kind),vI (n.mode),vI (n.cM),vI (n.cO),vI (n.bH),vI (n.bh),.slice dA (n.data.length) (dC),.string n.target,.slice eA (n.aq.length) (eC)] 102,.aD vG [vI (m.id),vI (m.kind),vI (m.mode),vI (m.cM),vI (m.cO),vI (m.bH),vI (m.bh),.slice dB (m.data.length) (dD),.string m.target,.slice eB (m.aq.length) (eD)] 102]) 0 [0,1,2] (⟨L4 _,λj hj=>KB hj (N5 j)⟩) ?_)))))))))))))))))))))))))))))))))
 rintro i ⟨hi,j3⟩
 exact SQ (jK 5 [74] [(2,a_ 1 zM)] (NN (cP ((((i:Nat):Int):Int)<(((n.aq.length:Nat):Int):Int)) (λGQ=>KX (av.seq (av.block (av.seq (rQ (jQ 10 [81,86] [(1,a_ 1 zM),(3,x_ i n.aq.length (cV.hd hE (i:=i) d5)),(4,r2 (cV.rd hE (i:=i) d5 (j:=0) rfl) (cV.rd hE (i:=i) d5 (j:=1) rfl)),(6,a_ 2 vG),(8,x_ i m.aq.length (cV.hd xS (i:=i) d5)),(9,r2 (cV.rd xS (i:=i) d5 (j:=0) rfl) (cV.rd xS (i:=i) d5 (j:=1) rfl))] (bJ.nH (d:=(some 87)) (op:=.binOp .neq 126 (.tmp 81) (.tmp 86) 126) (v:=.bool (!(decide ((en n.aq i).name=(en m.aq i).name/\((en n.aq i).id:Int)=((en m.aq i).id:Int))))) (λ_=>d6) (λo ar w ho _=>TS ho d6 d6) (NQ (NX (cN ((en n.aq i).name=(en m.aq i).name/\((en n.aq i).id:Int)=((en m.aq i).id:Int)) (λh87=>zR ⟨by rw [Lk (λe=>h87 gn)],rfl⟩) (λh87=>KX (av.region (jK 3 [5] [(1,wJ ((i:Int)+1) (↑(i+1)))] (NL (tJ ((i+1)) [0,1,2] (⟨d5,λj hj=>by rcases Pd.1 hj with h|h;exact j3 j h;subst h;exact afY h87⟩)))))))))))))))) (λGQ=>XX (zR ⟨by rw [aio (adW d5 d5 d5 d5 d5 (by assumption) (by assumption) (by assumption) (H6 (x:=default) d5 (λj hj=>j3 j d5)))],rfl⟩)))))
theorem N0 {β:Bs} (A B:Option Addr) (c c':Nat) (ns ms:List aO) (L K:fq) (hG:aN β A ns L) (hH:aN β B ms K) (hl:ns.length<=1048576) (hd:∀i,i<ns.length->(nd ns i).data.length<=140737488355328/\(nd ns i).aq.length<=1048576) :
 aU Tryz.prog β 18 #[.agg #[.slice A ns.length c],.agg #[.slice B ms.length c']] [] (λv l=>v=.bool (decide (ns=ms))/\l=[]):=by
 refine SE Tryz.func18 Tryz.ntmps18 (λR=>SR (jB 1 [2] (λEB=>.aD EB [.slice A (ns.length) (c)] 24) (λEB=>jB 2 [3] (λR4=>.aD R4 [.slice B (ms.length) (c')] 24) (λR4=>NZ (jK 7 [12] [(1,a_ 1 EB),(4,a_ 2 R4)] (NN (cN ((((ns.length:Nat):Int):Int)=(((ms.length:Nat):Int):Int)) (λh12=>zR ⟨by rw [Lk (λe=>h12 (by rw [e]))],rfl⟩) (λh12=>KX (SQ (jK 1 [5] [] (NN (av.block (lJ (λ(i:Nat)=>(i<=ns.length)/\(∀j,j<i->ns.getD j default=ms.getD j default)) (λ(i:Nat)=>ns.length-i) (λ(i:Nat)=>[(2,vP EB),(3,vP R4),(5,vI ↑i)]) (λ(i:Nat)=>[.abs R,.aD EB [.slice A (ns.length) (c)] 24,.aD R4 [.slice B (ms.length) (c')] 24]) 0 [0,1,2] (⟨L4 _,λj hj=>KB hj (N5 j)⟩) ?_)))))))))))))
 rintro i ⟨hi,j3⟩
 exact SQ (jK 5 [17] [(2,a_ 1 EB)] (NN (cP ((((i:Nat):Int):Int)<(((ns.length:Nat):Int):Int)) (λJg=>KX (av.seq (av.block (av.seq (rQ (jQ 10 [24,29] [(1,a_ 1 EB),(3,x_ i ns.length (aN.hd hG (i:=i) d5)),(4,Et (iT L i (nd ns i)) (λ_ _ h=>aN.rd hG d5 h)),(6,a_ 2 R4),(8,x_ i ms.length (aN.hd hH (i:=i) d5)),(9,Et (iT K i (nd ms i)) (λ_ _ h=>aN.rd hH d5 h))] (zH [] [0,1,2] (.bool (decide (nd ns i=nd ms i))) (Q5 (nd ns i) (nd ms i) (L.dA i) (L.eA i) (K.dA i) (K.eA i) (L.dC i) (L.eC i) (K.dC i) (K.eC i) (hG.data i d5) (hG.aq i d5) (hH.data i d5) (hH.aq i d5) (hd i d5).1 (hd i d5).2) (jQ 1 [31] [] (NQ (NX (cN (nd ns i=nd ms i) (λLY=>zR ⟨by rw [Lk (λe=>LY (by rw [e]))],rfl⟩) (λLY=>KX (av.region (jK 3 [5] [(1,wJ ((i:Int)+1) (↑(i+1)))] (NL (tJ ((i+1)) [0,1,2] (⟨d5,λj hj=>by rcases Pd.1 hj with h|h;exact j3 j h;subst h;exact LY⟩))))))))))))))))) (λJg=>XX (zR ⟨by rw [aio (H6 (x:=default) d5 (λj hj=>j3 j d5))],rfl⟩)))))
end
end Go.Proofs.YtfececghhgeapaaGreatDoor
section
namespace Go.Proofs
open Go.Shelf
def Tryz.lays119_ren:Go.Shelf.Ren:=⟨fun|119=>176|n=>n,fun|21=>21|4=>4|n=>n,fun|n=>n⟩
theorem Tryz.lays119:Go.Proofs.Lays.n119 Tryz.prog Tryz.lays119_ren:={
 mixed:=by kernel_rfl
 f119:=Tryz.func176.trans (congrArg some (by kernel_rfl))
 t4:=Tryz.underlying4
 a4:=Tryz.isAgg4
 z4:=Tryz.sizeOf4
 v4:=Tryz.zeroValue4
 t21:=Tryz.underlying21
 a21:=Tryz.isAgg21
 z21:=Tryz.sizeOf21
 v21:=Tryz.zeroValue21}
theorem Tryz.utf8_ValidRune (r:Int) (w:World) :
 Calls Tryz.prog 176 #[.int .i32 r] w λe w'=>e=.returned (.bool (Lib.validRune r))/\w'=w:=Any.utf8_ValidRune Tryz.lays119 r w
def Tryz.lays137_ren:Go.Shelf.Ren:=⟨fun|137=>165|217=>169|266=>171|n=>n,fun|9=>9|5=>5|3=>3|n=>n,fun|n=>n⟩
theorem Tryz.lays137:Go.Proofs.Lays.n137 Tryz.prog Tryz.lays137_ren:={
 mixed:=by kernel_rfl
 f137:=Tryz.func165.trans (congrArg some (by kernel_rfl))
 f217:=Tryz.func169.trans (congrArg some (by kernel_rfl))
 f266:=Tryz.func171.trans (congrArg some (by kernel_rfl))
 t3:=Tryz.underlying3
 a3:=Tryz.isAgg3
 z3:=Tryz.sizeOf3
 v3:=Tryz.zeroValue3
 t5:=Tryz.underlying5
 a5:=Tryz.isAgg5
 z5:=Tryz.sizeOf5
 v5:=Tryz.zeroValue5
 t9:=Tryz.underlying9
 a9:=Tryz.isAgg9
 z9:=Tryz.sizeOf9
 v9:=Tryz.zeroValue9}
open Go.RowKit in
theorem Tryz.strings_IndexByte (s:ByteArray) (c:Int) (w:World) :
 Calls Tryz.prog 165 #[.string s,.int .u8 c] w λe w'=>e=.returned (.int .i64 (Lib.indexByte s.data.toList c.toNat.toUInt8))/\w'=w:=Any.strings_IndexByte Tryz.lays137 s c w
def Tryz.lays189_ren:Go.Shelf.Ren:=⟨fun|189=>104|125=>122|257=>121|128=>141|129=>142|294=>132|295=>133|296=>134|297=>135|298=>136|299=>137|216=>138|300=>139|301=>140|328=>155|329=>156|330=>157|331=>158|332=>159|215=>160|343=>167|n=>n,fun|28=>41|3=>3|46=>253|0=>0|51=>271|53=>273|4=>4|183=>264|182=>263|131=>268|5=>5|9=>9|218=>281|222=>285|228=>290|229=>291|n=>n,fun|n=>n⟩
def Tryz.lays190_ren:Go.Shelf.Ren:=⟨fun|190=>107|125=>122|258=>124|128=>141|129=>142|302=>143|303=>144|304=>145|305=>146|306=>147|307=>148|308=>149|309=>150|310=>151|333=>161|329=>156|330=>157|334=>162|335=>163|336=>164|344=>168|n=>n,fun|31=>67|9=>9|3=>3|46=>253|0=>0|51=>271|53=>273|4=>4|183=>264|182=>263|131=>268|5=>5|218=>281|222=>285|228=>290|229=>291|n=>n,fun|n=>n⟩
def Tryz.lays152_ren:Go.Shelf.Ren:=⟨fun|152=>172|137=>165|119=>176|224=>177|225=>178|217=>169|266=>171|n=>n,fun|9=>9|21=>21|3=>3|4=>4|5=>5|0=>0|46=>253|n=>n,fun|n=>n⟩
theorem Tryz.lays152:Go.Proofs.Lays.n152 Tryz.prog Tryz.lays152_ren:={
 mixed:=by kernel_rfl
 f119:=Tryz.func176.trans (congrArg some (by kernel_rfl))
 f137:=Tryz.func165.trans (congrArg some (by kernel_rfl))
 f152:=Tryz.func172.trans (congrArg some (by kernel_rfl))
 f217:=Tryz.func169.trans (congrArg some (by kernel_rfl))
 f224:=Tryz.func177.trans (congrArg some (by kernel_rfl))
 f225:=Tryz.func178.trans (congrArg some (by kernel_rfl))
 f266:=Tryz.func171.trans (congrArg some (by kernel_rfl))
 t0:=Tryz.underlying0
 a0:=Tryz.isAgg0
 z0:=Tryz.sizeOf0
 v0:=Tryz.zeroValue0
 t3:=Tryz.underlying3
 a3:=Tryz.isAgg3
 z3:=Tryz.sizeOf3
 v3:=Tryz.zeroValue3
 t4:=Tryz.underlying4
 a4:=Tryz.isAgg4
 z4:=Tryz.sizeOf4
 v4:=Tryz.zeroValue4
 t5:=Tryz.underlying5
 a5:=Tryz.isAgg5
 z5:=Tryz.sizeOf5
 v5:=Tryz.zeroValue5
 t9:=Tryz.underlying9
 a9:=Tryz.isAgg9
 z9:=Tryz.sizeOf9
 v9:=Tryz.zeroValue9
 t21:=Tryz.underlying21
 a21:=Tryz.isAgg21
 z21:=Tryz.sizeOf21
 v21:=Tryz.zeroValue21
 t46:=Tryz.underlying253
 a46:=Tryz.isAgg253
 z46:=Tryz.sizeOf253
 v46:=Tryz.zeroValue253}
open Go.RowKit Go.Lib in
theorem Tryz.strings_IndexRune_ascii (s:ByteArray) (r:Int) (w:World) (h0:0<=r) (h1:r<128) :
 Calls Tryz.prog 172 #[.string s,.int .i32 r] w λe w'=>e=.returned (.int .i64 (Lib.indexByte s.data.toList r.toNat.toUInt8))/\w'=w:=Any.strings_IndexRune_ascii Tryz.lays152 s r w h0 h1
def Tryz.lays226_ren:Go.Shelf.Ren:=⟨fun|226=>173|n=>n,fun|3=>3|4=>4|n=>n,fun|n=>n⟩
theorem Tryz.lays226:Go.Proofs.Lays.n226 Tryz.prog Tryz.lays226_ren:={
 mixed:=by kernel_rfl
 f226:=Tryz.func173.trans (congrArg some (by kernel_rfl))
 t3:=Tryz.underlying3
 a3:=Tryz.isAgg3
 z3:=Tryz.sizeOf3
 v3:=Tryz.zeroValue3
 t4:=Tryz.underlying4
 a4:=Tryz.isAgg4
 z4:=Tryz.sizeOf4
 v4:=Tryz.zeroValue4}
open Go.RowKit Go.Lib in
theorem Tryz.strings_shouldUseASCIISet (n:Int) (w:World) :
 Calls Tryz.prog 173 #[.int .i64 n] w λe w'=>e=.returned (.bool (decide (8<n)))/\w'=w:=Any.strings_shouldUseASCIISet Tryz.lays226 n w
def Tryz.lays153_ren:Go.Shelf.Ren:=⟨fun|153=>170|152=>172|226=>173|227=>174|228=>175|137=>165|119=>176|224=>177|225=>178|217=>169|266=>171|n=>n,fun|9=>9|3=>3|4=>4|5=>5|21=>21|117=>298|116=>297|0=>0|46=>253|124=>302|n=>n,fun|n=>n⟩
theorem Tryz.lays153:Go.Proofs.Lays.n153 Tryz.prog Tryz.lays153_ren:={
 mixed:=by kernel_rfl
 f119:=Tryz.func176.trans (congrArg some (by kernel_rfl))
 f137:=Tryz.func165.trans (congrArg some (by kernel_rfl))
 f152:=Tryz.func172.trans (congrArg some (by kernel_rfl))
 f153:=Tryz.func170.trans (congrArg some (by kernel_rfl))
 f217:=Tryz.func169.trans (congrArg some (by kernel_rfl))
 f224:=Tryz.func177.trans (congrArg some (by kernel_rfl))
 f225:=Tryz.func178.trans (congrArg some (by kernel_rfl))
 f226:=Tryz.func173.trans (congrArg some (by kernel_rfl))
 f227:=Tryz.func174.trans (congrArg some (by kernel_rfl))
 f228:=Tryz.func175.trans (congrArg some (by kernel_rfl))
 f266:=Tryz.func171.trans (congrArg some (by kernel_rfl))
 t0:=Tryz.underlying0
 a0:=Tryz.isAgg0
 z0:=Tryz.sizeOf0
 v0:=Tryz.zeroValue0
 t3:=Tryz.underlying3
 a3:=Tryz.isAgg3
 z3:=Tryz.sizeOf3
 v3:=Tryz.zeroValue3
 t4:=Tryz.underlying4
 a4:=Tryz.isAgg4
 z4:=Tryz.sizeOf4
 v4:=Tryz.zeroValue4
 t5:=Tryz.underlying5
 a5:=Tryz.isAgg5
 z5:=Tryz.sizeOf5
 v5:=Tryz.zeroValue5
 t9:=Tryz.underlying9
 a9:=Tryz.isAgg9
 z9:=Tryz.sizeOf9
 v9:=Tryz.zeroValue9
 t21:=Tryz.underlying21
 a21:=Tryz.isAgg21
 z21:=Tryz.sizeOf21
 v21:=Tryz.zeroValue21
 t46:=Tryz.underlying253
 a46:=Tryz.isAgg253
 z46:=Tryz.sizeOf253
 v46:=Tryz.zeroValue253
 t116:=Tryz.underlying297
 a116:=Tryz.isAgg297
 z116:=Tryz.sizeOf297
 t117:=Tryz.underlying298
 a117:=Tryz.isAgg298
 z117:=Tryz.sizeOf298
 v117:=Tryz.zeroValue298
 t124:=Tryz.underlying302
 a124:=Tryz.isAgg302
 z124:=Tryz.sizeOf302
 v124:=Tryz.zeroValue302}
open Go.RowKit Go.Lib in
theorem Tryz.strings_IndexAny_long (hv116:∀w,(zeroValue 297).run Tryz.prog w=.ok (.agg (Array.replicate 256 (.bool false))) w) (s chars:ByteArray) (w:World) (h2:2<=chars.size) (h8:8<s.size) (hs:s.size<4294967281) (hcs:chars.size<4294967281) (hascii:∀(j:Nat) b,chars.data.toList[j]?=some b->b.toNat<128) :
 Calls Tryz.prog 170 #[.string s,.string chars] w λe w'=>e=.returned (.int .i64 (Lib.indexAny s.data.toList chars.data.toList))/\w'=((w.alloc (.cells (Lib.setCells chars.data.toList) 297)).alloc (.cells (Lib.setCells chars.data.toList) 297)):=Any.strings_IndexAny_long Tryz.lays153 hv116 (by kernel_rfl) s chars w h2 h8 hs hcs hascii
end Go.Proofs
end
namespace Go.Proofs.YtfececghhgeapaaGreatDoor
section
open Go.RowKit
def Within (a b c:Int):Prop:=b<=a/\a<=c
instance (a b c:Int):Decidable (Within a b c):=inferInstanceAs (Decidable (_/\_))
def iU (s n:Int):Prop:=0<=n/\n<1000000000/\-1099511627777<=s/\s<=1099511627776/\(s = -1099511627777->0<n)
noncomputable instance (a b:Int):Decidable (iU a b):=Classical.propDecidable _
def dS (s:ByteArray) (j:Nat):Nat:=(s.data.getD j 0).toNat
def qE (s:ByteArray):Prop:=∀j,j<s.size->¬dS s j=0
noncomputable instance (s:ByteArray):Decidable (qE s):=Classical.propDecidable _
def bW (s:ByteArray):Prop:=1<=s.size/\s.size<=255/\¬s=⟨#[46]⟩/\¬s=⟨#[46,46]⟩/\∀j,j<s.size->¬dS s j=0/\¬dS s j=47
noncomputable instance (s:ByteArray):Decidable (bW s):=Classical.propDecidable _
def dL (k:Int) (t:ByteArray):Prop:=(¬k=3/\t=⟨#[]⟩)\/(k=3/\1<=t.size/\t.size<=4096/\qE t)
noncomputable instance (k:Int) (s:ByteArray):Decidable (dL k s):=Classical.propDecidable _
structure si (n:aO):Prop where
 kind:1<=n.kind/\n.kind<=3
 mode:0<=n.mode/\n.mode<=4095
 cM:0<=n.cM/\n.cM<=2147483647
 cO:0<=n.cO/\n.cO<=2147483647
 time:iU n.bH n.bh
 data:¬n.kind=1->n.data.length=0
 aq:¬n.kind=2->n.aq.length=0
 target:dL n.kind n.target
noncomputable instance (n:aO):Decidable (si n):=Classical.propDecidable _
theorem dF {n:aO}:si n↔(1<=n.kind/\n.kind<=3)/\(0<=n.mode/\n.mode<=4095)/\(0<=n.cM/\n.cM<=2147483647)/\(0<=n.cO/\n.cO<=2147483647)/\iU n.bH n.bh/\(¬n.kind=1->n.data.length=0)/\(¬n.kind=2->n.aq.length=0)/\dL n.kind n.target:=
 ⟨λh=>⟨h.1,h.2,h.3,h.4,h.5,h.6,h.7,h.8⟩,λ⟨a,b,c,d,e,f,g,h⟩=>⟨a,b,c,d,e,f,g,h⟩⟩
theorem dL.sym {k:Int} {t:ByteArray} (h:dL k t) (hk:k=3):1<=t.size/\t.size<=4096/\qE t:=h.elim (λh=>KB hk h.1) (λh=>h.2)
def dM (ns:List aO):Prop:=∀i j,i<j->j<ns.length->(nd ns i).id<(nd ns j).id
def gU (ns:List aO) (id:Int):Int:=
 match ns.findIdx? (λn=>n.id == id) with
 |some k=>(k:Int)
 |none=>-1
theorem Dj {ns:List aO} {id:Int} (h:∀j,j<ns.length->¬(nd ns j).id=id):gU ns id = -1:=by
 unfold gU
 have:ns.findIdx? (λn=>n.id == id)=none:=by
  rw [List.findIdx?_eq_none_iff]
  intro n hn
  obtain⟨j,hj,rfl⟩:=aiT hn
  grind [nd]
 rw [this]
theorem H7 {ns:List aO} {id:Int} {k:Nat} (hr:dM ns) (hk:k<ns.length) (he:(nd ns k).id=id):gU ns id=(k:Int):=by
 unfold gU
 have hg:∀j (hj:j<ns.length),nd ns j=ns[j]:=λj hj=>by
  grind [nd]
 have:ns.findIdx? (λn=>n.id == id)=some k:=by
  rw [aiN]
  grind [dM,nd,gU]
 rw [this]
theorem dM.le {ns:List aO} (hr:dM ns) {i j:Nat} (hi:i<=j) (hj:j<ns.length):(nd ns i).id<=(nd ns j).id:=by
 rcases Nat.lt_or_ge i j with h|h
 all_goals grind [dM,nd]
theorem tf {s:ByteArray}:s.size=0↔s=⟨#[]⟩:=by
 constructor
 ·intro h
  obtain⟨⟨l⟩⟩:=s
  have h:l.length=0:=h
  rw [List.length_eq_zero_iff.1 h]
 rintro rfl
 rfl
theorem EC {p q:Prop} [Decidable p] [Decidable q] (h:¬p↔q):(!decide p)=decide q:=by
 grind
theorem ED {s:ByteArray} {j:Nat} {b:UInt8} (h:s.data.toList[j]?=some b):j<s.size/\dS s j=b.toNat:=by
 have h1:=dH h
 rw [Array.length_toList] at h1
 refine⟨h1,?_⟩
 unfold dS
 have:s.data[j]?=some b:=by simpa using h
 rw [Array.getD_eq_getD_getElem?,this]
 rfl
theorem xC {s:ByteArray} {j:Nat} (h:j<s.size):s.data.toList[j]?=some (s.data.getD j 0):=by
 have h1:j<s.data.size:=h
 rw [Array.getD_eq_getD_getElem?,Array.getElem?_eq_getElem h1]
 simp
theorem N7 {s:ByteArray}:Lib.indexByte s.data.toList (0:Int).toNat.toUInt8<0↔qE s:=by
 constructor
 ·intro h j hj e
  have h1:=Lib.indexByte_ge s.data.toList (0:Int).toNat.toUInt8
  refine Lib.indexByte_none (by omega:Lib.indexByte s.data.toList (0:Int).toNat.toUInt8 = -1) j ?_
  rw [xC hj]
  have:s.data.getD j 0=0:=aiI.1 e
  rw [this]
  rfl
 intro h
 refine Decidable.byContradiction (λh1=>?_)
 obtain⟨o,ho⟩:=Int.eq_ofNat_of_zero_le (Int.not_lt.1 h1)
 obtain⟨h2,h3⟩:=ED (Lib.indexByte_some ho).1
 exact KB h3 (h o h2)
end
end Go.Proofs.YtfececghhgeapaaGreatDoor
