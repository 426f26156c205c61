/-
  PROVED HERE: lemmas and contracts of functions (texts of this repo, joined; what the claim does not use is left out): Base, Sep, V, Vr, Vo, Vj, Vk, Vc, Vd, Vm, Va, Vb, Ve, Vt, Vi, Vw, Vy, Vz, Vq, Vg, Vn, Fam, Wy, Row, G, GO, GL, GT, GCopy, Shelf, GC, GM, Vs, GS, GStr, GRoot.
  CONDITIONS: as the theorems say.
-/
import Derived.Test.YtbnfiigafobejaaGreatProg
import Derived.WalkKit
import Derived.ChangeSame
import Derived.Lib.Hide
import Derived.Maps.OwnSet
import Derived.Maps.OwnOps
import Derived.Deep.Draws
import Derived.WalkSmall
import Derived.Deep.Quiet
import Derived.Deep.LoopGhost
import Derived.KernelRfl
import Derived.Laws.StructEq
import Derived.Maps.AppendAt
import Derived.Deep.Upon
import Derived.StillTail
import Derived.Maps.RangeWalk
import Derived.Laws.RangeAny
import Derived.Laws.OwnMore
import Derived.Lib.Bytealg
import Derived.OrdersHeld
import Derived.Test.YtbnfiigafobejaaGreatRows
import Derived.ProofKit
import Derived.OpenShut
import Derived.Carry
import Derived.Deep.Slices
import Derived.Shelf.Small.Utf8
import Derived.Shelf.Small.Bits
import Derived.Shelf.Small.Strs
import Derived.Shelf.Small.Wraps
import Derived.Shelf.Strconv.Itoa0
import Derived.Shelf.Strings.Search1
import Derived.Shelf.Sort.Plain
import Derived.Shelf.Strings.Runes
import Derived.Shelf.Strings.IndexAny
import Derived.Shelf.Strings.AsciiSet
import Derived.Shelf.Strings.IndexAnyAll
import Derived.Ground.Names2Prog
import Derived.Shelf.Slices.SearchI
import Derived.Shelf.Slices.In.SortNone
import Derived.Lib.IndexLaws
import Derived.Scope
import Derived.Lib.DecodeN
import Derived.Lib.SpaceUEq
import Derived.Lib.QuoteLoop
set_option maxRecDepth 100000
set_option maxHeartbeats 4000000
namespace Go.Proofs.YtbnfiigafobejaaGreat
theorem zc {P:Prop} (h:P:=by omega):P:=h
theorem KB {P:Prop} (h:P:=by kernel_rfl):P:=h
theorem Pd {P:Prop} (h:P:=by decide):P:=h
theorem Pe {P:Prop} (h:P:=by grind):P:=h
theorem aic {P:Prop} (h:P:=by rfl):P:=h
theorem aii {P:Prop} (h:P:=by simp):P:=h
abbrev aij:=@if_neg
abbrev aik:=@if_pos
abbrev ail:=@congrArg
abbrev ain:=@absurd
abbrev aio:=@Nat.zero_le
abbrev aip:=@decide_eq_false
abbrev aiq:=@Nat.not_lt_zero
abbrev air:=@Nat.le_trans
abbrev ais:=@Nat.lt_succ_iff_lt_or_eq
abbrev ait:=@List.length_append
abbrev aiu:=@Nat.le_refl
abbrev aiv:=@List.mem_cons_of_mem
abbrev aiw:=@List.mem_cons_self
abbrev aix:=@List.length_set
abbrev aiy:=@List.getElem?_eq_getElem
abbrev aiz:=@decide_eq_decide
abbrev aiA:=@List.mem_cons
abbrev aiB:=@List.pairwise_cons
abbrev aiC:=@List.mem_map
abbrev aiD:=@decide_eq_true
abbrev aiE:=@Nat.zero_add
abbrev aiF:=@List.length_map
abbrev aiG:=@Nat.lt_of_lt_of_le
abbrev aiH:=@List.length_take
abbrev aiI:=@Classical.byContradiction
abbrev aiJ:=@Bool.and_eq_true
abbrev aiK:=@List.take_length
abbrev aiL:=@List.mem_append
abbrev aiM:=@Nat.lt_succ_self
abbrev aiN:=@List.append_assoc
abbrev aiO:=@Int.toNat_natCast
abbrev aiP:=@List.map_cons
abbrev aiQ:=@List.take_add_one
abbrev aiR:=@Nat.le_of_ble_eq_true
abbrev aiS:=@List.getD_eq_getElem?_getD
abbrev aiT:=@List.cons_append
abbrev aiU:=@List.mem_of_getElem?
abbrev aiV:=@List.length_cons
abbrev aiW:=@List.map_congr_left
abbrev aiX:=@UInt8.toNat_inj
abbrev aiY:=@List.mem_iff_getElem
abbrev aiZ:=@List.eq_nil_of_length_eq_zero
abbrev ai0:=@Eq.symm
abbrev ai1:=@List.map_append
abbrev ai2:=@List.findIdx?_eq_some_iff_getElem
abbrev ai3:=@List.mem_singleton
abbrev ai4:=@List.take_of_length_le
abbrev ai5:=@List.getElem_of_mem
abbrev ai6:=@ByteArray.size_extract
abbrev ai7:=@List.length_filter_le
abbrev ai8:=@List.drop_eq_getElem_cons
abbrev ai9:=@Nat.lt_trichotomy
abbrev aja:=@of_decide_eq_true
abbrev ajb:=@Code.wp_mono
abbrev ajc:=@List.length_singleton
abbrev ajd:=@beq_iff_eq
abbrev aje:=@Nat.lt_irrefl
abbrev ajf:=@List.getElem?_append_right
abbrev ajg:=@List.pairwise_iff_getElem
abbrev ajh:=@Nat.min_eq_left
abbrev aji:=@List.getElem?_eq_none
abbrev ajj:=@List.nodup_cons
abbrev ajk:=@List.Pairwise.filter
abbrev ajl:=@Nat.add_assoc
abbrev ajm:=@List.getElem?_append_left
abbrev ajn:=@Eq.trans
abbrev ajo:=@Option.some.inj
abbrev ajp:=@Nat.le_of_lt
abbrev ajq:=@Nat.add_comm
end Go.Proofs.YtbnfiigafobejaaGreat
namespace Go.Proofs.YtbnfiigafobejaaGreat
section
open Go.RowKit Go.WideShapes Go.ChangeShapes
section post
variable {H:Type} {enc:TypeId×Value->H} {P:Program}
theorem N0 {f:Func} {s:ChangeSpec} {apart fresh handsOn again:Bool} {W W':World} {args:Array Value} {v:Value} {ds gs:List (DataW H)} {before pa pv:List MemPlace}
 (hW:DataW.Whole enc P f.params.toList s.vars apart W args.toList ds gs before)
 (hres:∀(b:Nat) (sp:Nat->Bool) (hd:Bool),DataW.TrodAll enc P W' b sp hd f.resultTypes.toList (v.resultList f.resultTypes.size) (s.fn H (ds++gs)).results [])
 (hargs:∀sp:Nat->Bool,(∀p∈before,sp p.block=true)->DataW.TrodAll enc P W' 0 sp true f.params.toList args.toList (s.fn H (ds++gs)).args pa)
 (hvars:∀sp:Nat->Bool,(∀p∈before,sp p.block=true)->DataW.TrodVars enc P W' sp s.vars (s.fn H (ds++gs)).vars pv)
 (au:before=pa++pv) (hb:Below W.heap.size W W')
 (hok:∀(j:Nat) (t:TypeId) (r:Value),f.resultTypes[j]?=some t->(v.resultList f.resultTypes.size)[j]?=some r->Value.okWide P W' .any 0 t r) :
 s.post enc P f apart fresh handsOn again W args v W':=by
 have fP:∀p∈before,p.block<W.heap.size:=λp hp=>hW.lt p hp
 have hold:∀p∈before,(λb=>decide (b<W.heap.size)) p.block=true:=Pe
 refine⟨ds,gs,before,[],pa,pv,hW,hres _ _ _,hargs _ hold,hvars _ hold,World.keptBut_mono (λp hp=>⟨hp,?_⟩) (hb.frame (·∈before)),λ_=>?_⟩
 ·rw [au,aiL] at hp
  exact Or.inr hp
 obtain⟨_,_,_,_,_,hz,hn⟩:=hW
 refine⟨hok,_,_,([]++pa)++pv,⟨[]++pa,pv,trodAll_append (hargs _ (λ_ _=>rfl)) (hres _ _ _),hvars _ (λ_ _=>rfl),rfl,?_,?_⟩,?_⟩
 ·intro b off hp
  have hin:MemPlace.cell b off∈before:=by rw [au];simpa using hp
  rw [hb.frozen (fP _ hin)]
  exact hz b off hin
 all_goals grind
end post
structure cF (S:Nat->Prop) (w w':World):Prop where
 os:w'.os=w.os
 tape:w'.tape=w.tape
 output:w'.output=w.output
 size:w.heap.size<=w'.heap.size
 block:∀k,k<w.heap.size->¬S k->w'.heap[k]?=w.heap[k]?
section keeps
variable {S S':Nat->Prop} {a w w':World}
theorem cF.refl (S:Nat->Prop) (w:World):cF S w w:=⟨rfl,rfl,rfl,aiu _,λ_ _ _=>rfl⟩
theorem cF.trans (h:cF S a w) (k:cF S w w'):cF S a w':=
 ⟨k.os.trans h.os,k.tape.trans h.tape,k.output.trans h.output,air h.size k.size,λi hi hn=>(k.block i (aiG hi h.size) hn).trans (h.block i hi hn)⟩
theorem cF.mono (h:cF S a w) (hs:∀k,k<a.heap.size->S k->S' k):cF S' a w:=
 ⟨h.os,h.tape,h.output,h.size,λi hi hn=>h.block i hi (λhk=>hn (hs i hi hk))⟩
theorem cF.andThen (h:cF S a w) (k:cF S' w w') (hs:∀i,i<a.heap.size->S' i->S i):cF S a w':=
 ⟨k.os.trans h.os,k.tape.trans h.tape,k.output.trans h.output,air h.size k.size,λi hi hn=>(k.block i (aiG hi h.size) (λhk=>hn (hs i hi hk))).trans (h.block i hi hn)⟩
theorem cF.drewN (h:cF S a w) (n:Nat):cF S a (w.drewN n):=⟨h.os,h.tape,h.output,h.size,h.block⟩
theorem cF.drew (h:cF S a w):cF S a w.drew:=⟨h.os,h.tape,h.output,h.size,h.block⟩
theorem cF.alloc (h:cF S a w) (o:Obj):cF S a (w.alloc o):=
 ⟨h.os,h.tape,h.output,air h.size aii,λi hi hn=>(Below.heap_alloc w o i (aiG hi h.size)).trans (h.block i hi hn)⟩
theorem cF.setCell (h:cF S a w) {p:Addr} (hp:a.heap.size<=p.block\/S p.block) (u:Value):cF S a (w.setCell p u):=
 ⟨h.os,h.tape,h.output,by simpa [World.setCell] using h.size,λi hi hn=>(Below.heap_setCell w p u i (by
  rintro rfl
  rcases hp with hp|hp
  ·omega
  exact hn hp)).trans (h.block i hi hn)⟩
theorem cF.grown {row:Option Nat} (h:cF S a w) (hg:w.grownBy w' row) (hr:∀k,row=some k->a.heap.size<=k\/S k):cF S a w':=
 ⟨hg.os.trans h.os,hg.tape.trans h.tape,hg.output.trans h.output,air h.size hg.size,λi hi hn=>
  (hg.block i (aiG hi h.size) (λe=>by
   rcases hr i e.symm with h1|h1
   ·omega
   exact hn h1)).trans (h.block i hi hn)⟩
theorem cF.cell (h:cF S w w') {p:Addr} (hp:p.block<w.heap.size) (hn:¬S p.block):w'.cell? p=w.cell? p:=World.cell?_of_block (w:=w) (h.block p.block hp hn)
theorem cF.frozen (h:cF S w w') {p:Addr} (hp:p.block<w.heap.size) (hn:¬S p.block):w'.frozen? p=w.frozen? p:=World.frozen?_of_block (w:=w) (h.block p.block hp hn)
theorem cF.ownsRow (h:cF S w w') {base:Nat} {e:TypeId} {size:Nat} {v:Value} {n:Nat} {xs:List Value} (ho:w.ownsRow base e size v n xs) (hn:∀k,v.ownBlock=some k->¬S k):w'.ownsRow base e size v n xs:=by
 have hl:=ho.lt
 obtain⟨h1,h2⟩:=ho
 refine⟨h1,?_⟩
 rcases h2 with h2|⟨g,cap,cur,hv,hg,hh,r⟩
 ·exact Or.inl h2
 have e:v.ownBlock=some g:=by rw [hv];rfl
 exact Or.inr ⟨g,cap,cur,hv,hg,(h.block g (hl g e).2 (hn g e)).trans hh,r⟩
theorem cF.ownsMap {H:Type} (h:cF S w w') {P:Program} {k:TypeId} {R:Value->Option (DataW H×List MemPlace)} {b n:Nat} {D:DataW H} (ho:w.ownsMap P k R b n D) (hn:¬S b):w'.ownsMap P k R b n D:=by
 have fP:=ho.lt
 obtain⟨es,clock,hb,r⟩:=ho
 exact⟨es,clock,(h.block b fP hn).trans hb,r⟩
end keeps
def zw (v:Value):Option (DataW Value×List MemPlace):=some (.held v,[])
def kI (P:Program) (K:TypeId) (w:World) (b:Nat) (f:Lit->Option Value) (n:Nat):Prop:=
 ∃D:DataW Value,w.ownsMap P K zw b n D/\Maps.size D=n/\(∀kl,Maps.has D kl=(f kl).isSome)/\∀kl v,f kl=some v->∀z,D.atKey kl z=.held v
def qA (f:Lit->Option Value) (kl:Lit) (v:Option Value):Lit->Option Value:=λx=>if x.sameKey kl then v else f x
section maps
open Go.Maps
variable {P:Program} {K E t:TypeId} {w w':World} {b n:Nat} {f:Lit->Option Value}
theorem kI.made (w:World) (P:Program) (K:TypeId):kI P K (w.alloc (.map #[] 0)) w.heap.size (λ_=>none) 0:=
 ⟨.map [],World.ownsMap_made _ _ _ _,rfl,λ_=>rfl,λ_ _ h=>by cases h⟩
theorem kI.lt (h:kI P K w b f n):b<w.heap.size:=let ⟨_,h1,_⟩:=h;h1.lt
theorem kI.keeps {S:Nat->Prop} (h:kI P K w b f n) (k:cF S w w') (hn:¬S b):kI P K w' b f n:=by
 obtain⟨D,h1,h2⟩:=h
 exact⟨D,k.ownsMap h1 hn,h2⟩
theorem kI.len (h:kI P K w b f n) (ht:P.underlying t=some (.map K E)) (ty:TypeId):(Builtin.len_ #[t] ty #[.map (some b)]).run P w=.ok (.int .i64 n) w:=by
 obtain⟨D,h1,h2,_⟩:=h
 rw [h1.len ht ty,h2]
theorem kI.look_ok (h:kI P K w b f n) (L:Keyed P K) (ht:P.underlying t=some (.map K E)) {z:Value} (hz:(zeroValue E).run P w=.ok z w) {key:Value} {kl:Lit} (mO:keyOf P K key=some kl) :
 (Instr.lookup t (.map (some b)) key true).run P w=.ok (.tuple #[(f kl).getD z,.bool (f kl).isSome]) w:=by
 obtain⟨D,h1,_,h3,h4⟩:=h
 obtain⟨v,ps,hrun,hv⟩:=h1.look_ok L ht hz (R:=zw) (zd:=.held z) (zp:=[]) rfl mO
 rw [hrun,h3 kl]
 simp only [zw,Option.some.injEq,Prod.mk.injEq] at hv
 cases hf:f kl with
 |none=>
   have hn:Maps.has D kl=false:=by rw [h3 kl,hf];rfl
   rw [atKey_of_not_has hn] at hv
   have e:v=z:=by simpa using hv.1
   simp [e]
 |some u=>
   grind
theorem kI.look (h:kI P K w b f n) (L:Keyed P K) (ht:P.underlying t=some (.map K E)) {z:Value} (hz:(zeroValue E).run P w=.ok z w) {key:Value} {kl:Lit} (mO:keyOf P K key=some kl) :
 (Instr.lookup t (.map (some b)) key false).run P w=.ok ((f kl).getD z) w:=by
 obtain⟨D,h1,_,h3,h4⟩:=h
 obtain⟨v,ps,hrun,hv⟩:=h1.lookup L ht hz (R:=zw) (zd:=.held z) (zp:=[]) rfl mO
 rw [hrun]
 simp only [zw,Option.some.injEq,Prod.mk.injEq] at hv
 cases hf:f kl with
 |none=>
   have hn:Maps.has D kl=false:=by rw [h3 kl,hf];rfl
   rw [atKey_of_not_has hn] at hv
   have e:v=z:=by simpa using hv.1
   simp [e]
 |some u=>
   grind
theorem Mk {key:Value} {kl:Lit} (L:Keyed P K) (mO:keyOf P K key=some kl):WideAt.IsKeyLit kl:=L.key mO
theorem kI.store (h:kI P K w b f n) (L:Keyed P K) (ht:P.underlying t=some (.map K E)) (hn:n<maxLen) {key:Value} {kl:Lit} (mO:keyOf P K key=some kl) (v:Value) :
 ∃w',(Instr.mapUpdate t (.map (some b)) key v).run P w=.ok () w'/\kI P K w' b (qA f kl (some v)) (if (f kl).isSome then n else n+1)/\cF (·=b) w w':=by
 obtain⟨D,h1,h2,h3,h4⟩:=h
 obtain⟨w',hrun,kQ,hg⟩:=h1.update L ht hn mO (val:=v) (d:=.held v) (ps:=[]) rfl
 have hkl:=Mk L mO
 have eG:Maps.size (D.put kl (.held v))=if (f kl).isSome then n else n+1:=by
  rw [size_put (h1.tidy L),h2,h3 kl]
 refine⟨w',hrun,⟨D.put kl (.held v),?_,eG,λx=>?_,λx u hx z=>?_⟩,(cF.refl _ _).grown hg (λk hk=>.inr (by cases hk;rfl))⟩
 ·obtain⟨es,clock,hb,F,hs,rD⟩:=kQ
  exact⟨es,clock,hb,F,by rw [←eG,rD];simp [Maps.size,length_sorted],rD⟩
 ·unfold qA
  by_cases e:x=kl
  ·subst e
   rw [has_put_same h1.isMap hkl]
   have:x.sameKey x=true:=WideAt.sameKey_self hkl
   simp [this]
  rw [has_put_other e,h3 x,sameKey_ne e]
  simp
 unfold qA at hx
 by_cases e:x=kl
 ·subst e
  rw [aik (WideAt.sameKey_self hkl)] at hx
  injection hx with hx
  rw [atKey_put_same h1.isMap hkl,hx]
 rw [sameKey_ne e] at hx
 simp only [Bool.false_eq_true,if_false] at hx
 rw [atKey_put_other e]
 exact h4 x u hx z
theorem kI.drop (h:kI P K w b f n) (L:Keyed P K) (ht:P.underlying t=some (.map K E)) {key:Value} {kl:Lit} (mO:keyOf P K key=some kl) (ty:TypeId) :
 ∃w',(Builtin.delete_ #[t,K] ty #[.map (some b),key]).run P w=.ok (.tuple #[]) w'/\kI P K w' b (qA f kl none) (if (f kl).isSome then n-1 else n)/\cF (·=b) w w':=by
 obtain⟨D,h1,h2,h3,h4⟩:=h
 obtain⟨w',hrun,kQ,hg⟩:=h1.drop L ht mO ty
 have hkl:=Mk L mO
 have eG:Maps.size (D.del kl)=if (f kl).isSome then n-1 else n:=by
  have:=size_del (k:=kl) (h1.tidy L)
  grind
 refine⟨w',hrun,⟨D.del kl,?_,eG,λx=>?_,λx u hx z=>?_⟩,(cF.refl _ _).grown hg.grown (λk hk=>.inr (by cases hk;rfl))⟩
 ·obtain⟨es,clock,hb,F,hs,rD⟩:=kQ
  exact⟨es,clock,hb,F,by rw [←eG,rD];simp [Maps.size,length_sorted],rD⟩
 ·unfold qA
  by_cases e:x=kl
  ·subst e
   rw [has_del_same]
   simp [WideAt.sameKey_self hkl]
  rw [has_del_other e,h3 x,sameKey_ne e]
  simp
 unfold qA at hx
 by_cases e:x=kl
 ·subst e
  rw [aik (WideAt.sameKey_self hkl)] at hx
  cases hx
 rw [sameKey_ne e] at hx
 simp only [Bool.false_eq_true,if_false] at hx
 rw [atKey_del_other e]
 exact h4 x u hx z
end maps
end
section
open Go.RowKit
abbrev Fp:=Nat->Prop
structure d9 where
 h:Fp->World->Prop
 lt:∀{F w},h F w->∀k,F k->k<w.heap.size
 st:∀{F w},h F w->∀{S:Nat->Prop} {w':World},cF S w w'->(∀k,F k->¬S k)->h F w'
structure Step (F:Fp) (w:World) (F':Fp) (w':World):Prop where
 keeps:cF F w w'
 grow:∀k,F' k->F k\/w.heap.size<=k
def Apart (F G:Fp):Prop:=∀k,F k->¬G k
theorem Step.refl (F:Fp) (w:World):Step F w F w:=⟨cF.refl _ _,λ_ h=>.inl h⟩
structure ahU (B:Nat) (A1 A2 A3 A4:d9) (w0 w:World):Prop where
 ex:∃F1 F2 F3 F4,A1.h F1 w/\A2.h F2 w/\A3.h F3 w/\A4.h F4 w/\Apart F1 F2/\Apart F1 F3/\Apart F1 F4/\Apart F2 F3/\Apart F2 F4/\Apart F3 F4 ∧
  (∀k,F1 k->B<=k)/\(∀k,F2 k->B<=k)/\(∀k,F3 k->B<=k)/\(∀k,F4 k->B<=k)
 below:Below B w0 w
 size:B<=w.heap.size
section sep
variable {B:Nat} {A1 A2 A3 A4 A1' A2' A3' A4':d9} {w0 w w':World}
end sep
abbrev vP (b:Nat):Value:=.pointer (some ⟨b,0,none⟩)
abbrev vI (x:Int):Value:=.int .i64 x
structure Bs where
 O:Nat->Prop
 w0:World
structure Bs.ok (β:Bs) (w:World):Prop where
 os:w.os=β.w0.os
 tape:w.tape=β.w0.tape
 output:w.output=β.w0.output
 size:β.w0.heap.size<=w.heap.size
 old:∀k,β.O k->k<β.w0.heap.size/\w.heap[k]?=β.w0.heap[k]?
theorem Bs.ok.keeps {β:Bs} {S:Nat->Prop} {w w':World} (h:β.ok w) (k:cF S w w') (hs:∀i,β.O i->¬S i):β.ok w':=
 ⟨k.os.trans h.os,k.tape.trans h.tape,k.output.trans h.output,air h.size k.size,λi hi=>⟨(h.old i hi).1,(k.block i (aiG (h.old i hi).1 h.size) (hs i hi)).trans (h.old i hi).2⟩⟩
theorem Bs.ok.cell {β:Bs} {w:World} (h:β.ok w) {a:Addr} {v:Value} (ho:β.O a.block/\β.w0.cell? a=some v):w.cell? a=some v:=
 (World.cell?_of_block (w:=β.w0) (h.old a.block ho.1).2).trans ho.2
inductive HP
 |ax (b:Nat) (cs:List Value) (T:TypeId)
 |abs (A:d9)
def HP.h:HP->Fp->World->Prop
 |.ax b cs T,F,w=>w.heap[b]?=some (.cells ⟨cs⟩ T (0,0))/\∀k,F k↔k=b
 |.abs A,F,w=>A.h F w
theorem lt_of_some {α:Type} {xs:Array α} {i:Nat} {x:α} (h:xs[i]?=some x):i<xs.size:=by
 grind
theorem HP.lt {p:HP} {F:Fp} {w:World} (h:p.h F w) (k:Nat) (hk:F k):k<w.heap.size:=by
 cases p with
 |ax b cs T=>obtain⟨h1,h2⟩:=h;rw [(h2 k).1 hk];exact lt_of_some h1
 |abs A=>exact A.lt h k hk
theorem HP.st {p:HP} {F:Fp} {w w':World} {S:Nat->Prop} (h:p.h F w) (k:cF S w w') (hn:∀i,F i->¬S i):p.h F w':=by
 cases p with
 |ax b cs T=>obtain⟨h1,h2⟩:=h;exact⟨(k.block b (lt_of_some h1) (hn b ((h2 b).2 rfl))).trans h1,h2⟩
 |abs A=>exact A.st h k hn
def aR (β:Bs) (l:List HP) (w:World):Prop:=
 β.ok w/\∃φ:Nat->Fp,(∀(i:Nat) (p:HP),l[i]?=some p->p.h (φ i) w)/\(∀i,i<l.length->∀k,φ i k->¬β.O k)/\∀i j,i<l.length->j<l.length->i≠j->Apart (φ i) (φ j)
section sat
variable {β:Bs} {l l':List HP} {w w':World} {p p':HP} {i:Nat}
theorem dO {α:Type} {xs:List α} {i:Nat} {x:α} (h:xs[i]?=some x):i<xs.length:=by
 grind
theorem nj {α:Type} {xs:List α} {i:Nat} (h:i<xs.length):∃x,xs[i]?=some x:=⟨xs[i],aiy h⟩
theorem aR.quiet (h:aR β l w) (k:cF (λ_=>False) w w'):aR β l w':=by
 obtain⟨ho,φ,h1,h2,h3⟩:=h
 exact⟨ho.keeps k (λ_ _ h=>h),φ,λi p hp=>HP.st (h1 i p hp) k (λ_ _ h=>h),h2,h3⟩
theorem aR.drewN (h:aR β l w) (n:Nat):aR β l (w.drewN n):=h.quiet ((cF.refl _ _).drewN n)
theorem aR.get (h:aR β l w) (hp:l[i]?=some p):∃F,p.h F w:=by
 obtain⟨_,φ,h1,_⟩:=h
 exact⟨φ i,h1 i p hp⟩
theorem aR.set (h:aR β l w) (hp:l[i]?=some p) (hs:∀F,p.h F w->∃F',p'.h F' w'/\Step F w F' w'):aR β (l.set i p') w':=by
 obtain⟨ho,φ,h1,h2,h3⟩:=h
 obtain⟨F',hF',st⟩:=hs _ (h1 i p hp)
 have hi:=dO hp
 have fP:∀j,j<l.length->∀k,φ j k->k<w.heap.size:=λj hj k hk=>by
  obtain⟨q,hq⟩:=nj hj
  exact HP.lt (h1 j q hq) k hk
 have hap:∀j,j<l.length->j≠i->∀k,F' k->φ j k->False:=λj hj cu k hk jw=>by
  rcases st.grow k hk with e|e
  ·exact h3 i j hi hj (λe=>cu e.symm) k e jw
  have:=fP j hj k jw;omega
 refine⟨ho.keeps st.keeps (λk hk jw=>h2 i hi k jw hk),λj=>if j=i then F' else φ j,λj q hq=>?_,λj hj k hk hO=>?_,λj1 j2 vA hj2 cu k hk jw=>?_⟩
 ·by_cases e:j=i
  ·grind
  rw [List.getElem?_set_ne (λe'=>e e'.symm)] at hq
  simp only [e,if_false]
  exact HP.st (h1 j q hq) st.keeps (λk hk jw=>h3 i j hi (dO hq) (λe'=>e e'.symm) k jw hk)
 ·rw [aix] at hj
  by_cases e:j=i
  ·subst e
   simp only [if_true] at hk
   rcases st.grow k hk with e|e
   ·exact h2 j hi k e hO
   have:=(ho.old k hO).1;have:=ho.size;omega
  grind
 rw [aix] at vA hj2
 by_cases e1:j1=i
 ·grind
 simp only [e1,if_false] at hk
 by_cases e2:j2=i
 ·grind
 simp only [e2,if_false] at jw
 exact h3 j1 j2 vA hj2 cu k hk jw
theorem aR.new {F:Fp} (h:aR β l w) (hF:p.h F w') (k:cF (λ_=>False) w w') (hn:∀k,F k->w.heap.size<=k):aR β (l++[p]) w':=by
 obtain⟨ho,φ,h1,h2,h3⟩:=h
 have fP:∀j,j<l.length->∀k,φ j k->k<w.heap.size:=λj hj k hk=>by
  obtain⟨q,hq⟩:=nj hj
  exact HP.lt (h1 j q hq) k hk
 refine⟨ho.keeps k (λ_ _ h=>h),λj=>if j=l.length then F else φ j,λj q hq=>?_,λj hj k hk hO=>?_,λj1 j2 vA hj2 cu k hk jw=>?_⟩
 ·grind [dO,HP.st]
 ·by_cases e:j=l.length
  ·simp only [e,if_true] at hk
   have:=(ho.old k hO).1;have:=ho.size;have:=hn k hk;omega
  grind
 simp at vA hj2
 by_cases e1:j1=l.length
 ·grind
 simp only [e1,if_false] at hk
 by_cases e2:j2=l.length
 ·grind
 simp only [e2,if_false] at jw
 exact h3 j1 j2 zc zc cu k hk jw
def cU (l:List HP):List Nat->Option (List HP)
 |[]=>some []
 |i::r=>match l[i]? with
   |some p=>match cU l r with
     |some q=>some (p::q)
     |none=>none
   |none=>none
def cC:List Nat->Bool
 |[]=>true
 |i::r=>!(r.contains i) && cC r
theorem G3:∀{aq:List Nat},cC aq=true->aq.Nodup
 |[],_=>List.nodup_nil
 |i::r,h=>by
   simp only [cC,aiJ,Bool.not_eq_true',List.contains_eq_mem,decide_eq_false_iff_not] at h
   exact ajj.2 ⟨h.1,G3 h.2⟩
theorem Js:∀{aq:List Nat} {l':List HP},cU l aq=some l'->l'.length=aq.length/\∀(j:Nat) (p:HP),l'[j]?=some p->∃i:Nat,aq[j]?=some i/\l[i]?=some p
 |[],l',h=>by cases h;grind
 |i::r,l',h=>by
   unfold cU at h
   split at h
   ·rename_i q hq
    split at h
    ·rename_i q' hq'
     cases h
     obtain⟨h1,h2⟩:=Js hq'
     refine⟨by simp [h1],λj p hp=>?_⟩
     cases j with
     |zero=>simp at hp;subst hp;exact⟨i,rfl,hq⟩
     |succ j=>simpa using h2 j p (by simpa using hp)
    cases h
   cases h
theorem aR.pick {aq:List Nat} (h:aR β l w) (hn:cC aq=true) (hp:cU l aq=some l'):aR β l' w:=by
 obtain⟨ho,φ,h1,h2,h3⟩:=h
 obtain⟨hl,hi⟩:=Js hp
 have hnd:=G3 hn
 have key:∀j,j<l'.length->aq.getD j 0<l.length:=λj hj=>by
  obtain⟨p,hp⟩:=nj hj
  grind
 refine⟨ho,λj=>φ (aq.getD j 0),λj p hp=>?_,λj hj=>h2 _ (key j hj),λj1 j2 vA hj2 cu=>h3 _ _ (key j1 vA) (key j2 hj2) (λe=>cu ?_)⟩
 ·grind
 rw [hl] at vA hj2
 rw [aiS,aiS,aiy vA,aiy hj2] at e
 have hp:=ajg.1 hnd
 grind
end sat
abbrev Fr:=List (Nat×Value)
def lk:Fr->(Nat->Value)->Nat->Value
 |[],j,t=>j t
 |(i,v)::r,j,t=>match Nat.beq i t with
   |true=>v
   |false=>lk r j t
structure fL where
 n:Nat
 ds:List Deferred
def fB (N:fL) (fr:Fr) (ai:Nat->Value):Act:=⟨((List.range N.n).map (lk fr ai)).toArray,N.ds⟩
def eW (N:fL) (fr:Fr) (ai:Nat->Value):Operand->Value
 |.tmp t=>match Nat.blt t N.n with
   |true=>lk fr ai t
   |false=>undef
 |.const v=>v
 |.global g=>.pointer (some ⟨g,0,none⟩)
 |.func f=>.func (.func f) #[] #[]
theorem Le (N:fL) (fr:Fr) (ai:Nat->Value) (t:Nat):(fB N fr ai).tmps[t]?=if t<N.n then some (lk fr ai t) else none:=by
 grind [fB]
theorem jb (N:fL) (fr:Fr) (ai:Nat->Value):(fB N fr ai).eval=eW N fr ai:=by
 funext x
 cases x with
 |tmp t=>
   simp only [Act.eval,eW,Array.getD_eq_getD_getElem?,Le]
   by_cases h:t<N.n
   ·have:Nat.blt t N.n=true:=by simpa [Nat.blt_eq] using h
    simp [h,this]
   have:Nat.blt t N.n=false:=by
    cases hb:Nat.blt t N.n
    ·rfl
    exact ain (by simpa [Nat.blt_eq] using hb) h
   simp [h,this]
 |const v=>rfl
 |global g=>rfl
 |func f=>rfl
def eT (fr:Fr) (d:Option Tmp) (v:Value):Fr:=match d with
 |some d=>(d,v)::fr
 |none=>fr
theorem mB (i:Nat) (v:Value) (fr:Fr) (ai:Nat->Value) (t:Nat):lk ((i,v)::fr) ai t=if i=t then v else lk fr ai t:=by
 simp only [lk]
 by_cases h:i=t
 ·subst h;simp [Nat.beq_refl]
 have:Nat.beq i t=false:=by
  cases hb:Nat.beq i t
  ·rfl
  exact ain (Nat.eq_of_beq_eq_true hb) h
 simp [h,this]
theorem ij (N:fL) (fr:Fr) (ai:Nat->Value) (d:Option Tmp) (v:Value):(fB N fr ai).put d v=fB N (eT fr d v) ai:=by
 cases d with
 |none=>rfl
 |some d=>
   unfold Act.put
   have hd:(fB N fr ai).defers=(fB N (eT fr (some d) v) ai).defers:=rfl
   have ht:(fB N fr ai).tmps.setIfInBounds d v=(fB N (eT fr (some d) v) ai).tmps:=by
    grind [Le,fB,eT,mB]
   show Act.mk _ _=_
   rw [ht]
   rfl
def yF (ops:Array Oper) (N:fL) (fr:Fr) (ai:Nat->Value) (j:Nat):Option Bool:=
 match ops.toList[j]? with
 |some o=>match o.dst with
   |some d=>match Nat.blt d N.n with
     |true=>match lk fr ai d with
       |.bool b=>some b
       |_=>none
     |false=>none
   |none=>none
 |none=>none
theorem Og (ops:Array Oper) (N:fL) (fr:Fr) (ai:Nat->Value) (j:Nat):yielded ops (fB N fr ai).tmps j=yF ops N fr ai j:=by
 unfold yielded yF
 rw [Array.getElem?_toList]
 cases ops[j]? with
 |none=>rfl
 |some o=>
   simp only [Option.bind_some]
   cases o.dst with
   |none=>rfl
   |some d=>
     simp only [Option.bind_some,Le]
     by_cases h:d<N.n
     ·have:Nat.blt d N.n=true:=by simpa [Nat.blt_eq] using h
      grind
     have:Nat.blt d N.n=false:=by
      cases hb:Nat.blt d N.n
      ·rfl
      exact ain (by simpa [Nat.blt_eq] using hb) h
     simp [h,this]
def kJ (fr:Fr) (ai:Nat->Value):List Nat->Fr
 |[]=>[]
 |i::r=>(i,lk fr ai i)::kJ fr ai r
theorem Ic (fr:Fr) (ai:Nat->Value):∀(aq:List Nat) (t:Nat),lk (kJ fr ai aq) (lk fr ai) t=lk fr ai t
 |[],_=>rfl
 |i::r,t=>by
   rw [kJ,mB]
   by_cases h:i=t
   ·simp [h]
   simp [h,Ic fr ai r t]
theorem og (N:fL) (fr:Fr) (ai:Nat->Value) (aq:List Nat):fB N fr ai=fB N (kJ fr ai aq) (lk fr ai):=by
 unfold fB
 have:(List.range N.n).map (lk fr ai)=(List.range N.n).map (lk (kJ fr ai aq) (lk fr ai)):=aiW (λt _=>(Ic fr ai aq t).symm)
 rw [this]
inductive Hint
 |at (i:Nat)
 |old (v:Value)
 |view (i:Nat) (v:Value)
structure SS where
 hints:List Hint
 au:List HP
 eV:List Prop
 used:Bool
def pJ:List Prop->Prop
 |[]=>True
 |p::r=>p/\pJ r
theorem pJ.mem:∀{l:List Prop},pJ l->∀{p:Prop},p∈l->p
 |[],_,_,h=>by cases h
 |_::_,h,_,hm=>by
   rcases aiA.1 hm with e|e
   ·exact e ▸ h.1
   exact h.2.mem e
def eU (P:Program) (β:Bs) (n:Nat) (ro:Bool) {α:Type}:Sem α->SS->Option (α×SS)
 |.pure a,s=>some (a,s)
 |.load _ a k,s=>
   match s.hints with
   |.at i::hs=>
     match s.au[i]? with
     |some (.ax b cs _)=>
       match a.spot with
       |none=>
         match cs[a.off]? with
         |some v=>eU P β n ro (k v) {s with hints:=hs,eV:=(a.block=b)::s.eV}
         |none=>none
       |some _=>none
     |_=>none
   |.old v::hs=>eU P β n ro (k v) {s with hints:=hs,eV:=(β.O a.block/\β.w0.cell? a=some v)::s.eV}
   |.view i v::hs=>
     match s.au[i]? with
     |some (.abs A)=>eU P β n ro (k v) {s with hints:=hs,eV:=(∀F w,A.h F w->w.cell? a=some v)::s.eV}
     |_=>none
   |[]=>none
 |.store _ a v k,s=>
   match ro with
   |true=>none
   |false=>
   match v with
   |.agg _=>none
   |.tuple _=>none
   |v=>
     match s.hints with
     |.at i::hs=>
       match s.au[i]? with
       |some (.ax b cs T)=>
         match a.spot with
         |none=>
           match cs[a.off]? with
           |some _=>eU P β n ro k {s with hints:=hs,au:=s.au.set i (.ax b (cs.set a.off v) T),eV:=(a.block=b)::s.eV}
           |none=>none
         |some _=>none
       |_=>none
     |_=>none
 |.new o k,s=>
   match ro,s.used,o with
   |false,false,.cells c T (0,0)=>eU P β n ro (k n) {s with au:=s.au++[.ax n c.toList T],used:=true}
   |_,_,_=>none
 |.shape r k,s=>
   match s.hints with
   |.at i::hs=>
     match s.au[i]? with
     |some (.ax b cs T)=>eU P β n ro (k (some (T,cs.length))) {s with hints:=hs,eV:=(r=b)::s.eV}
     |_=>none
   |_=>none
 |.frozen a k,s=>
   match s.hints with
   |.at i::hs=>
     match s.au[i]? with
     |some (.ax b _ _)=>eU P β n ro (k false) {s with hints:=hs,eV:=(a.block=b)::s.eV}
     |_=>none
   |_=>none
 |.program k,s=>eU P β n ro (k P) s
 |.mark _ k,s=>eU P β n ro k s
 |.freeze ..,_=>none
 |.getObj ..,_=>none
 |.setObj ..,_=>none
 |.choose ..,_=>none
 |.sys ..,_=>none
 |.halt _,_=>none
section sound
variable {P:Program} {β:Bs} {n:Nat} {ro:Bool}
theorem uU {α:Type}:∀(s:Sem α) (S S':SS) (x:α),eU P β n ro s S=some (x,S')->∀p,p∈S.eV->p∈S'.eV:=by
 intro s
 induction s with
 |pure a=>intro S S' x h p hp;simp only [eU,Option.some.injEq,Prod.mk.injEq] at h;rw [←h.2];exact hp
 |load m a k ih=>intro S S' x h p hp;simp only [eU] at h;(repeat' split at h);all_goals first|(cases h;done)|exact ih _ _ _ _ h p (aiv _ hp)
 |store m a v k ih=>intro S S' x h p hp;simp only [eU] at h;(repeat' split at h);all_goals first|(cases h;done)|exact ih _ _ _ h p (aiv _ hp)
 |new o k ih=>intro S S' x h p hp;simp only [eU] at h;(repeat' split at h);all_goals first|(cases h;done)|exact ih _ _ _ _ h p hp
 |shape r k ih=>intro S S' x h p hp;simp only [eU] at h;(repeat' split at h);all_goals first|(cases h;done)|exact ih _ _ _ _ h p (aiv _ hp)
 |frozen r k ih=>intro S S' x h p hp;simp only [eU] at h;(repeat' split at h);all_goals first|(cases h;done)|exact ih _ _ _ _ h p (aiv _ hp)
 |program k ih=>intro S S' x h p hp;simp only [eU] at h;exact ih _ _ _ _ h p hp
 |mark m k ih=>intro S S' x h p hp;simp only [eU] at h;exact ih _ _ _ h p hp
 |freeze a m k ih=>intro S S' x h;simp only [eU] at h;cases h
 |getObj r k ih=>intro S S' x h;simp only [eU] at h;cases h
 |setObj r o k ih=>intro S S' x h;simp only [eU] at h;cases h
 |choose q k ih=>intro S S' x h;simp only [eU] at h;cases h
 |sys c k ih=>intro S S' x h;simp only [eU] at h;cases h
 |halt e=>intro S S' x h;simp only [eU] at h;cases h
theorem SC {α:Type}:∀(s:Sem α) (S S':SS) (x:α),eU P β n true s S=some (x,S')->S'.au=S.au/\S'.used=S.used:=by
 intro s
 induction s with
 |pure a=>intro S S' x h;simp only [eU,Option.some.injEq,Prod.mk.injEq] at h;rw [←h.2];exact⟨rfl,rfl⟩
 |load m a k ih=>intro S S' x h;simp only [eU] at h;(repeat' split at h);all_goals first|(cases h;done)|(have h':=ih _ _ _ _ h;exact h')
 |store m a v k ih=>intro S S' x h;simp only [eU] at h;cases h
 |new o k ih=>intro S S' x h;simp only [eU] at h;(repeat' split at h);all_goals first|(cases h;done)|contradiction
 |shape r k ih=>intro S S' x h;simp only [eU] at h;(repeat' split at h);all_goals first|(cases h;done)|(have h':=ih _ _ _ _ h;exact h')
 |frozen r k ih=>intro S S' x h;simp only [eU] at h;(repeat' split at h);all_goals first|(cases h;done)|(have h':=ih _ _ _ _ h;exact h')
 |program k ih=>intro S S' x h;simp only [eU] at h;(have h':=ih _ _ _ _ h;exact h')
 |mark m k ih=>intro S S' x h;simp only [eU] at h;exact ih _ _ _ h
 |freeze a m k ih=>intro S S' x h;simp only [eU] at h;cases h
 |getObj r k ih=>intro S S' x h;simp only [eU] at h;cases h
 |setObj r o k ih=>intro S S' x h;simp only [eU] at h;cases h
 |choose q k ih=>intro S S' x h;simp only [eU] at h;cases h
 |sys c k ih=>intro S S' x h;simp only [eU] at h;cases h
 |halt e=>intro S S' x h;simp only [eU] at h;cases h
theorem V1 {α:Type}:∀(s:Sem α) (S S':SS) (x:α),eU P β n true s S=some (x,S')->S.hints=[]->S'.eV=S.eV:=by
 intro s
 induction s with
 |pure a=>intro S S' x h;simp only [eU,Option.some.injEq,Prod.mk.injEq] at h;rw [←h.2];exact λ_=>rfl
 |load m a k ih=>intro S S' x h hh;simp only [eU,hh] at h;cases h
 |store m a v k ih=>intro S S' x h;simp only [eU] at h;cases h
 |new o k ih=>intro S S' x h;simp only [eU] at h;(repeat' split at h);all_goals first|(cases h;done)|contradiction
 |shape r k ih=>intro S S' x h hh;simp only [eU,hh] at h;cases h
 |frozen r k ih=>intro S S' x h hh;simp only [eU,hh] at h;cases h
 |program k ih=>intro S S' x h;simp only [eU] at h;exact ih _ _ _ _ h
 |mark m k ih=>intro S S' x h;simp only [eU] at h;exact ih _ _ _ h
 |freeze a m k ih=>intro S S' x h;simp only [eU] at h;cases h
 |getObj r k ih=>intro S S' x h;simp only [eU] at h;cases h
 |setObj r o k ih=>intro S S' x h;simp only [eU] at h;cases h
 |choose q k ih=>intro S S' x h;simp only [eU] at h;cases h
 |sys c k ih=>intro S S' x h;simp only [eU] at h;cases h
 |halt e=>intro S S' x h;simp only [eU] at h;cases h
theorem lQ {w:World} {b:Nat} {cs:List Value} {T:TypeId} {a:Addr} {v:Value} (h:w.heap[b]?=some (.cells ⟨cs⟩ T (0,0))) (hs:a.spot=none) (hb:a.block=b) (hv:cs[a.off]?=some v):w.cell? a=some v/\w.frozen? a=false:=by
 subst hb
 refine⟨?_,?_⟩
 ·simp [World.cell?,h,hs,hv]
 simp [World.frozen?,h]
theorem Ak {w:World} {b:Nat} {cs:List Value} {T:TypeId} {a:Addr} {v:Value} {F:Fp} (h:(HP.ax b cs T).h F w) (hs:a.spot=none) (hb:a.block=b) :
 ∃F',(HP.ax b (cs.set a.off v) T).h F' (w.setCell a v)/\Step F w F' (w.setCell a v):=by
 obtain⟨h1,h2⟩:=h
 refine⟨F,⟨?_,h2⟩,⟨(cF.refl _ _).setCell (.inr ((h2 _).2 hb)) v,λ_ h=>.inl h⟩⟩
 subst hb
 simp [World.setCell,Array.getElem?_modify,h1,hs,Array.setIfInBounds_def]
 exact λh=>(List.set_eq_of_length_le h).symm
theorem N5 (w:World) (p:Addr) (v:Value):(w.setCell p v).heap.size=w.heap.size:=by simp [World.setCell]
theorem zx {α:Type}:∀(s:Sem α) (S S':SS) (x:α) (w:World),eU P β n ro s S=some (x,S')->(∀p,p∈S'.eV->p)->aR β S.au w->(S.used=false->n=w.heap.size) →
 ∃w',s.run P w=.ok x w'/\aR β S'.au w'/\(S'.used=false->n=w'.heap.size)/\(ro=true->w'=w/\S'.au=S.au):=by
 intro s
 induction s with
 |pure a=>
   intro S S' x w h _ hS hn
   simp only [eU,Option.some.injEq,Prod.mk.injEq] at h
   obtain⟨rfl,rfl⟩:=h
   exact⟨w,rfl,hS,hn,λ_=>⟨rfl,rfl⟩⟩
 |load m a k ih=>
   intro S S' x w h ho hS hn
   simp only [eU] at h
   repeat' split at h
   all_goals first|(cases h;done)|skip
   ·rename_i hp _ hs _ v hv
    have hb:a.block=_:=ho _ (uU _ _ _ _ h _ aiw)
    obtain⟨F,hF⟩:=hS.get hp
    have hc:=(lQ hF.1 hs hb hv).1
    obtain⟨w',h1,h2⟩:=ih _ _ _ _ w h ho hS hn
    exact⟨w',by simp only [Sem.run,hc];exact h1,h2⟩
   ·rename_i v hs hh
    have hc:=hS.1.cell (ho _ (uU _ _ _ _ h _ aiw))
    obtain⟨w',h1,h2⟩:=ih _ _ _ _ w h ho hS hn
    exact⟨w',by simp only [Sem.run,hc];exact h1,h2⟩
   rename_i A hp
   obtain⟨F,hF⟩:=hS.get hp
   have hc:=ho _ (uU _ _ _ _ h _ aiw) F w hF
   obtain⟨w',h1,h2⟩:=ih _ _ _ _ w h ho hS hn
   exact⟨w',by simp only [Sem.run,hc];exact h1,h2⟩
 |store m a v k ih=>
   intro S S' x w h ho hS hn
   simp only [eU] at h
   cases ro with
   |true=>simp at h
   |false=>
   simp only at h
   split at h
   ·cases h
   ·cases h
   rename_i hv1 hv2
   repeat' split at h
   all_goals first|(cases h;done)|skip
   rename_i hp _ hs _ u hu
   have hb:a.block=_:=ho _ (uU _ _ _ _ h _ aiw)
   obtain⟨F,hF⟩:=hS.get hp
   obtain⟨hc,hf⟩:=lQ hF.1 hs hb hu
   have iA:=hS.set hp (λF hF=>Ak (v:=v) hF hs hb)
   obtain⟨w',h1,h2⟩:=ih _ _ _ (w.setCell a v) h ho iA (λe=>by rw [N5];exact hn e)
   refine⟨w',?_,h2.1,h2.2.1,λe=>by cases e⟩
   rw [←h1]
   cases v<;>first|(simp only [Sem.run,hc,hf];rfl)|exact ain rfl (hv1 _)|exact ain rfl (hv2 _)
 |new o k ih=>
   intro S S' x w h ho hS hn
   simp only [eU] at h
   split at h
   ·rename_i c T hu
    have hn':=hn hu
    have iA:aR β (S.au++[.ax n c.toList T]) (w.alloc (.cells c T (0,0))):=hS.new (F:=λk=>k=n) ⟨by rw [hn'];exact heap_alloc_new w _,λ_=>Iff.rfl⟩ ((cF.refl _ _).alloc _) (λk e=>by rw [e,hn'];exact aiu _)
    obtain⟨w',h1,h2⟩:=ih _ _ _ _ (w.alloc (.cells c T (0,0))) h ho iA (λe=>by cases e)
    refine⟨w',?_,h2.1,h2.2.1,λe=>by cases e⟩
    rw [←h1,hn']
    rfl
   cases h
 |shape r k ih=>
   intro S S' x w h ho hS hn
   simp only [eU] at h
   repeat' split at h
   all_goals first|(cases h;done)|skip
   rename_i b cs T hp
   have hb:r=b:=ho _ (uU _ _ _ _ h _ aiw)
   obtain⟨F,hF⟩:=hS.get hp
   have hc:w.shape? r=some (T,cs.length):=by simp [World.shape?,hb,hF.1]
   obtain⟨w',h1,h2⟩:=ih _ _ _ _ w h ho hS hn
   exact⟨w',by simp only [Sem.run,hc];exact h1,h2⟩
 |frozen a k ih=>
   intro S S' x w h ho hS hn
   simp only [eU] at h
   repeat' split at h
   all_goals first|(cases h;done)|skip
   rename_i b cs T hp
   have hb:a.block=b:=ho _ (uU _ _ _ _ h _ aiw)
   obtain⟨F,hF⟩:=hS.get hp
   have hc:w.frozen? a=false:=by simp [World.frozen?,hb,hF.1]
   obtain⟨w',h1,h2⟩:=ih _ _ _ _ w h ho hS hn
   exact⟨w',by simp only [Sem.run,hc];exact h1,h2⟩
 |program k ih=>intro S S' x w h ho hS hn;simp only [eU] at h;exact ih _ _ _ _ w h ho hS hn
 |mark m k ih=>intro S S' x w h ho hS hn;simp only [eU] at h;exact ih _ _ _ w h ho hS hn
 |freeze a m k ih=>intro S S' x w h;simp only [eU] at h;cases h
 |getObj r k ih=>intro S S' x w h;simp only [eU] at h;cases h
 |setObj r o k ih=>intro S S' x w h;simp only [eU] at h;cases h
 |choose q k ih=>intro S S' x w h;simp only [eU] at h;cases h
 |sys c k ih=>intro S S' x w h;simp only [eU] at h;cases h
 |halt e=>intro S S' x w h;simp only [eU] at h;cases h
end sound
structure OH where
 hs:List Hint:=[]
 num:Option Nat:=none
 agE:Option Nat:=none
 base:Option Addr:=none
 conv:Option Value:=none
def o_:OH:=⟨[],none,none,none,none⟩
def bG (A:Option Addr):Nat:=match A with
 |some a=>a.block
 |none=>0
def bE (A:Option Addr):Nat:=match A with
 |some a=>a.off
 |none=>0
def DB (P:Program) (β:Bs) (n:Nat) (ro:Bool) (ev:Operand->Value) (o:Oper) (h:OH) (S:SS):Option (Value×SS):=
 match h.num with
 |none=>
   match eU P β n ro (execOp ev o) {S with hints:=h.hs} with
   |some (.value v,S')=>some (v,S')
   |some (.skip,S')=>some (undef,S')
   |_=>none
 |some m=>
   match o.op with
   |.indexAddr t x ix=>
     match P.underlying t with
     |some (.slice e)=>
       match P.info? e with
       |some i=>
         match ev x with
         |.slice A len _=>
           match ev ix with
           |.int _ z=>
             match h.base with
             |some a=>some (.pointer (some ⟨a.block,a.off+m*i.size,none⟩),{S with eV:=(z=(m:Int))::(m<len)::(a.spot=none)::(A=some a)::S.eV})
             |none=>
               match A with
               |some a=>some (.pointer (some ⟨a.block,a.off+m*i.size,none⟩),{S with eV:=(z=(m:Int))::(m<len)::(a.spot=none)::S.eV})
               |none=>none
           |_=>none
         |_=>none
       |none=>none
     |_=>none
   |.index t x ix=>
     match P.underlying t with
     |some .string=>
       match ev x with
       |.string s=>
         match ev ix with
         |.int _ z=>some (.int .u8 (s.data.getD m 0).toNat,{S with eV:=(z=(m:Int))::(m<s.size)::S.eV})
         |_=>none
       |_=>none
     |_=>none
   |.slice t x lo hi mx=>
     match mx with
     |some _=>none
     |none=>
     match P.underlying t with
     |some .string=>
       match ev x with
       |.string s=>
         match lo,hi with
         |none,some hv=>
           match ev hv with
           |.int _ z=>some (.string (s.extract 0 m),{S with eV:=(z=(m:Int))::(m<=s.size)::S.eV})
           |_=>none
         |some lv,none=>
           match ev lv with
           |.int _ z=>some (.string (s.extract m s.size),{S with eV:=(z=(m:Int))::(m<=s.size)::S.eV})
           |_=>none
         |some lv,some hv=>
           match h.agE with
           |some m2=>
             match ev lv with
             |.int _ y=>
               match ev hv with
               |.int _ z=>some (.string (s.extract m2 m),{S with eV:=(z=(m:Int))::(y=(m2:Int))::(m<=s.size)::(m2<=m)::S.eV})
               |_=>none
             |_=>none
           |none=>none
         |none,none=>none
       |_=>none
     |some (.slice e)=>
       match P.info? e with
       |some i=>
         match ev x with
         |.slice A len cap=>
           match lo,hi with
           |none,some hv=>
             match ev hv with
             |.int _ z=>some (.slice A m cap,{S with eV:=(z=(m:Int))::(m<=cap)::S.eV})
             |_=>none
           |some lv,none=>
             match ev lv with
             |.int _ z=>
               match h.base with
               |some a=>some (.slice (some ⟨a.block,a.off+m*i.size,none⟩) (len-m) (cap-m),{S with eV:=(z=(m:Int))::(m<=len)::(m<cap)::(a.spot=none)::(A=some a)::S.eV})
               |none=>
                 match A with
                 |some a=>some (.slice (some ⟨a.block,a.off+m*i.size,none⟩) (len-m) (cap-m),{S with eV:=(z=(m:Int))::(m<=len)::(m<cap)::(a.spot=none)::S.eV})
                 |none=>none
             |_=>none
           |_,_=>none
         |_=>none
       |none=>none
     |_=>none
   |_=>none
def Al (P:Program) (β:Bs) (n:Nat) (ro:Bool) (ev:Operand->Value) (o:Oper) (h:OH) (S:SS):Option (Value×SS):=
 match DB P β n ro ev o h S with
 |some (v,S')=>
   match h.conv with
   |none=>some (v,S')
   |some v'=>some (v',{S' with eV:=(v=v')::S'.eV})
 |none=>none
def tv (P:Program) (ev:Operand->Value) (o:Oper) (w:World) (v:Value) (w':World):Prop:=
 (execOp ev o).run P w=.ok (.value v) w'\/(v=undef/\(execOp ev o).run P w=.ok .skip w')
theorem s5 {P:Program} {e:TypeId} {i:TypeInfo} (h:P.info? e=some i) (w:World):(sizeOf e).run P w=.ok i.size w:=by
 have h1:sizeOf e=.program λp=>(match p.info? e with|some i=>Sem.pure i|none=>stuck "no such type").bind λi=>.pure i.size:=rfl
 rw [h1]
 simp only [Sem.run,h]
 rfl
section Al
variable {P:Program} {β:Bs} {n:Nat} {ro:Bool} {ev:Operand->Value} {o:Oper} {h:OH} {S S':SS} {v:Value}
theorem V3 (hr:DB P β n ro ev o h S=some (v,S')):∀p,p∈S.eV->p∈S'.eV:=by
 intro p hp
 unfold DB at hr
 repeat' split at hr
 all_goals grind [uU]
theorem G4 {w:World} (hr:DB P β n ro ev o h S=some (v,S')) (ho:∀p,p∈S'.eV->p) (hS:aR β S.au w) (hn:S.used=false->n=w.heap.size) :
 ∃w',tv P ev o w v w'/\aR β S'.au w'/\(S'.used=false->n=w'.heap.size)/\(ro=true->w'=w/\S'.au=S.au):=by
 unfold DB at hr
 repeat' split at hr
 all_goals first|(cases hr;done)|skip
 ·rename_i h0;cases hr
  obtain⟨w',h1,h2⟩:=zx _ _ _ _ w h0 ho hS hn
  exact⟨w',.inl h1,h2⟩
 ·rename_i h0;cases hr
  obtain⟨w',h1,h2⟩:=zx _ _ _ _ w h0 ho hS hn
  exact⟨w',.inr ⟨rfl,h1⟩,h2⟩
 ·rename_i m _ _ t x ix bW _ e hu _ i hi _ A len cap hx _ k z fC _ a _
  cases hr
  have e1:z=(m:Int):=ho _ aii
  have e2:m<len:=ho _ aii
  have e3:a.spot=none:=ho _ aii
  have e4:A=some a:=ho _ aii
  subst e4
  refine⟨w,.inl ?_,hS,hn,λ_=>⟨rfl,rfl⟩⟩
  have ea:a.add (m*i.size)=⟨a.block,a.off+m*i.size,none⟩:=by
   unfold Addr.add
   split
   ·rename_i h0;cases a;simp_all
   rfl
  obtain⟨dst,op,type,pos,after,guard⟩:=o
  cases bW
  subst e1
  have h1:(underlying t).run P w=.ok (.slice e) w:=run_underlying hu w
  have h2:(sizeOf e).run P w=.ok i.size w:=s5 hi w
  simp [execOp,Instr.indexAt,hx,fC,go_sem,h1,h2,e2,ea]
 ·rename_i m _ _ t x ix bW _ e hu _ i hi _ len cap _ k z fC _ _ _ a hx
  cases hr
  have e1:z=(m:Int):=ho _ aii
  have e2:m<len:=ho _ aii
  have e3:a.spot=none:=ho _ aii
  refine⟨w,.inl ?_,hS,hn,λ_=>⟨rfl,rfl⟩⟩
  have ea:a.add (m*i.size)=⟨a.block,a.off+m*i.size,none⟩:=by
   unfold Addr.add
   split
   ·rename_i h0;cases a;simp_all
   rfl
  obtain⟨dst,op,type,pos,after,guard⟩:=o
  cases bW
  subst e1
  have h1:(underlying t).run P w=.ok (.slice e) w:=run_underlying hu w
  have h2:(sizeOf e).run P w=.ok i.size w:=s5 hi w
  simp [execOp,Instr.indexAt,hx,fC,go_sem,h1,h2,e2,ea]
 ·rename_i m _ _ t x ix bW _ hu _ s hx _ k z fC
  cases hr
  have e1:z=(m:Int):=ho _ aii
  have e2:m<s.size:=ho _ aii
  refine⟨w,.inl ?_,hS,hn,λ_=>⟨rfl,rfl⟩⟩
  obtain⟨dst,op,type,pos,after,guard⟩:=o
  cases bW
  subst e1
  have h1:(underlying t).run P w=.ok .string w:=run_underlying hu w
  simp [execOp,Instr.index,hx,fC,go_sem,h1,e2]
  rfl
 ·rename_i _ m _ _ t x mx _ hu _ s hx lo hi hv bW _ k z hz
  cases hr
  have e1:z=(m:Int):=ho _ aii
  have e2:m<=s.size:=ho _ aii
  refine⟨w,.inl ?_,hS,hn,λ_=>⟨rfl,rfl⟩⟩
  have h1:(underlying t).run P w=.ok .string w:=run_underlying hu w
  obtain⟨dst,op,type,pos,after,guard⟩:=o
  cases bW
  subst e1
  simp [execOp,Instr.sliceAt,Instr.slice,Instr.sliceBounds,Instr.sliceBound,asIntOf,hx,hz,go_sem,h1,e2]
 ·rename_i _ m _ _ t x mx _ hu _ s hx lo hi lv bW _ k z hz
  cases hr
  have e1:z=(m:Int):=ho _ aii
  have e2:m<=s.size:=ho _ aii
  refine⟨w,.inl ?_,hS,hn,λ_=>⟨rfl,rfl⟩⟩
  have h1:(underlying t).run P w=.ok .string w:=run_underlying hu w
  obtain⟨dst,op,type,pos,after,guard⟩:=o
  cases bW
  subst e1
  simp [execOp,Instr.sliceAt,Instr.slice,Instr.sliceBounds,Instr.sliceBound,asIntOf,hx,hz,go_sem,h1,e2]
 ·rename_i _ m _ _ t x mx _ hu _ s hx lo hi lv hv bW _ m2 hm2 _ k y hy _ k' z hz
  cases hr
  have e1:z=(m:Int):=ho _ aii
  have e1':y=(m2:Int):=ho _ aii
  have e2:m<=s.size:=ho _ aii
  have e3:m2<=m:=ho _ aii
  refine⟨w,.inl ?_,hS,hn,λ_=>⟨rfl,rfl⟩⟩
  have h1:(underlying t).run P w=.ok .string w:=run_underlying hu w
  obtain⟨dst,op,type,pos,after,guard⟩:=o
  cases bW
  subst e1
  subst e1'
  simp [execOp,Instr.sliceAt,Instr.slice,Instr.sliceBounds,Instr.sliceBound,asIntOf,hx,hy,hz,go_sem,h1,e2,e3]
 ·rename_i _ m _ _ t x mx _ e hu _ i hi _ A len cap hx lo hi' hv bW _ k z hz
  cases hr
  have e1:z=(m:Int):=ho _ aii
  have e2:m<=cap:=ho _ aii
  refine⟨w,.inl ?_,hS,hn,λ_=>⟨rfl,rfl⟩⟩
  have h1:(underlying t).run P w=.ok (.slice e) w:=run_underlying hu w
  have h2:(sizeOf e).run P w=.ok i.size w:=s5 hi w
  obtain⟨dst,op,type,pos,after,guard⟩:=o
  cases bW
  subst e1
  cases A<;>simp [execOp,Instr.sliceAt,Instr.slice,Instr.sliceBounds,Instr.sliceBound,asIntOf,hx,hz,go_sem,h1,h2,e2,Addr.add]
 ·rename_i _ m _ _ t x mx _ e hu _ i hi _ A len cap hx lo hi' lv bW _ k z hz _ a _
  cases hr
  have e1:z=(m:Int):=ho _ aii
  have e2:m<=len:=ho _ aii
  have e3:m<cap:=ho _ aii
  have e4:a.spot=none:=ho _ aii
  have e6:A=some a:=ho _ aii
  subst e6
  refine⟨w,.inl ?_,hS,hn,λ_=>⟨rfl,rfl⟩⟩
  have h1:(underlying t).run P w=.ok (.slice e) w:=run_underlying hu w
  have h2:(sizeOf e).run P w=.ok i.size w:=s5 hi w
  have ea:a.add (m*i.size)=⟨a.block,a.off+m*i.size,none⟩:=by
   unfold Addr.add
   split
   ·rename_i h0;cases a;simp_all
   rfl
  have e5:¬cap=m:=zc
  obtain⟨dst,op,type,pos,after,guard⟩:=o
  cases bW
  subst e1
  simp [execOp,Instr.sliceAt,Instr.slice,Instr.sliceBounds,Instr.sliceBound,asIntOf,hx,hz,go_sem,h1,h2,e2,e5,ea]
 rename_i _ m _ _ t x mx _ e hu _ i hi _ len cap lo hi' lv bW _ k z hz _ _ _ a hx
 cases hr
 have e1:z=(m:Int):=ho _ aii
 have e2:m<=len:=ho _ aii
 have e3:m<cap:=ho _ aii
 have e4:a.spot=none:=ho _ aii
 refine⟨w,.inl ?_,hS,hn,λ_=>⟨rfl,rfl⟩⟩
 have h1:(underlying t).run P w=.ok (.slice e) w:=run_underlying hu w
 have h2:(sizeOf e).run P w=.ok i.size w:=s5 hi w
 have ea:a.add (m*i.size)=⟨a.block,a.off+m*i.size,none⟩:=by
  unfold Addr.add
  split
  ·rename_i h0;cases a;simp_all
  rfl
 have e5:¬cap=m:=zc
 obtain⟨dst,op,type,pos,after,guard⟩:=o
 cases bW
 subst e1
 simp [execOp,Instr.sliceAt,Instr.slice,Instr.sliceBounds,Instr.sliceBound,asIntOf,hx,hz,go_sem,h1,h2,e2,e5,ea]
theorem Ie (hr:Al P β n ro ev o h S=some (v,S')):∀p,p∈S.eV->p∈S'.eV:=by
 intro p hp
 grind [Al,V3]
theorem qC {w:World} (hr:Al P β n ro ev o h S=some (v,S')) (ho:∀p,p∈S'.eV->p) (hS:aR β S.au w) (hn:S.used=false->n=w.heap.size) :
 ∃w',tv P ev o w v w'/\aR β S'.au w'/\(S'.used=false->n=w'.heap.size)/\(ro=true->w'=w/\S'.au=S.au):=by
 unfold Al at hr
 repeat' split at hr
 all_goals first|(cases hr;done)|skip
 ·grind [G4]
 rename_i v0 S0 h0 _ v' _
 cases hr
 have e:v0=v:=ho _ aiw
 grind [G4]
theorem Y6 (hr:DB P β n true ev o h S=some (v,S')):S'.au=S.au/\S'.used=S.used:=by
 unfold DB at hr
 repeat' split at hr
 all_goals first|(cases hr;done)|skip
 ·rename_i h0;cases hr;(have h':=SC _ _ _ _ h0;exact h')
 ·rename_i h0;cases hr;(have h':=SC _ _ _ _ h0;exact h')
 all_goals (cases hr;exact⟨rfl,rfl⟩)
theorem zU (hr:Al P β n true ev o h S=some (v,S')):S'.au=S.au/\S'.used=S.used:=by
 grind [Al,Y6]
end Al
def p8 (P:Program) (β:Bs) (n:Nat) (ro:Bool) (N:fL) (ai:Nat->Value) (ops:Array Oper):List OH->Nat->Fr->SS->Option (Nat×Fr×SS)
 |[],k,fr,S=>some (k,fr,S)
 |h::hs,k,fr,S=>
   match ops.toList[k]? with
   |none=>none
   |some o=>
     match Region.wanted o (yF ops N fr ai) with
     |true=>
       match Al P β n ro (eW N fr ai) o h S with
       |some (v,S')=>p8 P β n ro N ai ops hs (k+1) (eT fr o.dst v) S'
       |none=>none
     |false=>p8 P β n ro N ai ops hs (k+1) (eT fr o.dst undef) S
def nV (P:Program) (β:Bs) (n:Nat) (ro:Bool) (N:fL) (ai:Nat->Value) (ops:Array Oper) (hs:List OH) (k:Nat) (fr:Fr) (au:List HP) (aq pk:List Nat):Option (Nat×Fr×List HP×List Prop):=
 match p8 P β n ro N ai ops hs k fr ⟨[],au,[],ro⟩ with
 |some (k',bL,S)=>
   match cC pk with
   |true=>
     match cU S.au pk with
     |some l=>some (k',kJ bL ai aq,l,S.eV)
     |none=>none
   |false=>none
 |none=>none
section runs
variable {P:Program} {β:Bs} {n:Nat} {ro:Bool} {N:fL} {ai:Nat->Value} {ops:Array Oper}
theorem x7:∀{hs:List OH} {k k':Nat} {fr bL:Fr} {S S':SS},p8 P β n ro N ai ops hs k fr S=some (k',bL,S')->∀p,p∈S.eV->p∈S'.eV
 |[],k,k',fr,bL,S,S',h,p,hp=>by cases h;exact hp
 |h::hs,k,k',fr,bL,S,S',hr,p,hp=>by
   unfold p8 at hr
   repeat' split at hr
   all_goals first|(cases hr;done)|skip
   ·rename_i h0;exact x7 hr p (Ie h0 p hp)
   exact x7 hr p hp
theorem drop_cons {ops:Array Oper} {k:Nat} {o:Oper} (h:ops.toList[k]?=some o):ops.toList.drop k=o::ops.toList.drop (k+1):=by
 have hk:=dO h
 rw [ai8 hk]
 rw [aiy hk] at h
 cases h
 rfl
theorem qD {o:Oper} {a:Act} {w w':World} {v:Value} {K:Act->World->Prop} {Q:Exit->Act->World->Prop} (h:tv P a.eval o w v w') (hk:K (a.put o.dst v) w'):o.wp P a w K Q:=by
 unfold Oper.wp
 rcases h with h|⟨rfl,h⟩
 ·rw [h];exact hk
 rw [h];exact hk
theorem CJ {Q:Exit->Act->World->Prop}:∀{hs:List OH} {k k':Nat} {fr bL:Fr} {S S':SS} {w:World},p8 P β n ro N ai ops hs k fr S=some (k',bL,S')->(∀p,p∈S'.eV->p)->aR β S.au w->(S.used=false->n=w.heap.size) →
 (∀w',aR β S'.au w'->wpList P ops Q (ops.toList.drop k') (fB N bL ai) w')->wpList P ops Q (ops.toList.drop k) (fB N fr ai) w
 |[],k,k',fr,bL,S,S',w,h,ho,hS,hn,hK=>by cases h;exact hK w hS
 |h::hs,k,k',fr,bL,S,S',w,hr,ho,hS,hn,hK=>by
   unfold p8 at hr
   split at hr
   ·cases hr
   rename_i o hget
   rw [drop_cons hget]
   unfold wpList
   have hw:Region.wanted o (yielded ops (fB N fr ai).tmps)=Region.wanted o (yF ops N fr ai):=by
    have:yielded ops (fB N fr ai).tmps=yF ops N fr ai:=funext (Og ops N fr ai)
    rw [this]
   rw [hw]
   split at hr
   ·rename_i Jt
    rw [aik Jt]
    split at hr
    ·rename_i v S1 h0
     obtain⟨w',h1,h2,h3,_⟩:=qC h0 (λp hp=>ho p (x7 hr p hp)) hS hn
     refine .inl (qD (v:=v) (w':=w') (by rw [jb];exact h1) ?_)
     rw [ij]
     exact CJ hr ho h2 h3 hK
    cases hr
   rename_i hwf
   rw [aij (by simp [hwf])]
   rw [ij]
   exact CJ hr ho hS hn hK
theorem CK {Q:Act->Prop}:∀{hs:List OH} {k k':Nat} {fr bL:Fr} {S S':SS},p8 P β n true N ai ops hs k fr S=some (k',bL,S')->(∀p,p∈S'.eV->p)->S.used=true →
 (S'.au=S.au->wpQuiet P ops (aR β S.au) Q (ops.toList.drop k') (fB N bL ai))->wpQuiet P ops (aR β S.au) Q (ops.toList.drop k) (fB N fr ai)
 |[],k,k',fr,bL,S,S',h,ho,hu,hK=>by cases h;exact hK rfl
 |h::hs,k,k',fr,bL,S,S',hr,ho,hu,hK=>by
   unfold p8 at hr
   split at hr
   ·cases hr
   rename_i o hget
   rw [drop_cons hget]
   unfold wpQuiet
   have hw:Region.wanted o (yielded ops (fB N fr ai).tmps)=Region.wanted o (yF ops N fr ai):=by
    have:yielded ops (fB N fr ai).tmps=yF ops N fr ai:=funext (Og ops N fr ai)
    rw [this]
   rw [hw]
   split at hr
   ·rename_i Jt
    rw [aik Jt]
    split at hr
    ·rename_i v S1 h0
     obtain⟨e1,e2⟩:=zU h0
     refine⟨v,λw hS=>?_,?_⟩
     ·obtain⟨w',h1,h2,h3,h4⟩:=qC h0 (λp hp=>ho p (x7 hr p hp)) hS (λe=>by rw [hu] at e;cases e)
      obtain⟨rfl,e⟩:=h4 rfl
      unfold Oper.quietAt
      rw [jb]
      rcases h1 with h1|⟨h1,h1'⟩
      ·rw [h1];exact⟨rfl,rfl⟩
      rw [h1'];exact⟨rfl,h1⟩
     rw [ij,←e1]
     exact CK hr ho (e2.trans hu) (λe=>by rw [e1];exact hK (e.trans e1))
    cases hr
   rename_i hwf
   rw [aij (by simp [hwf])]
   rw [ij]
   exact CK hr ho hu hK
end runs
abbrev Post:=Exit->Act->World->Prop
def ar (P:Program) (β:Bs) (N:fL) (ops:Array Oper) (k:Nat) (fr:Fr) (au:List HP) (Q:Post):Prop:=
 ∀ai w,aR β au w->wpList P ops Q (ops.toList.drop k) (fB N fr ai) w
def bN (P:Program) (β:Bs) (N:fL) (ops:Array Oper) (k:Nat) (fr:Fr) (au:List HP) (Q:Post):Prop:=
 ∀ai,wpQuiet P ops (aR β au) (λa'=>∀w',aR β au w'->Q .normal a' w') (ops.toList.drop k) (fB N fr ai)
def ak (P:Program) (β:Bs) (N:fL) (c:Code) (fr:Fr) (au:List HP) (Q:Post):Prop:=
 ∀ai w,aR β au w->c.wp P Q (fB N fr ai) w
def ay (β:Bs) (N:fL) (Q:Post) (e:Exit) (fr:Fr) (au:List HP):Prop:=
 ∀ai w,aR β au w->Q e (fB N fr ai) w
section rules
variable {P:Program} {β:Bs} {N:fL} {ops:Array Oper} {k k':Nat} {fr bL:Fr} {au eX:List HP} {Q:Post} {eV:List Prop} {c x y:Code} {e:Exit}
theorem Ig {n:Nat} {ro:Bool} {ai:Nat->Value} {hs:List OH} {aq pk:List Nat} (h:nV P β n ro N ai ops hs k fr au aq pk=some (k',bL,eX,eV)) :
 ∃sQ S,p8 P β n ro N ai ops hs k fr ⟨[],au,[],ro⟩=some (k',sQ,S)/\cC pk=true/\cU S.au pk=some eX/\bL=kJ sQ ai aq/\S.eV=eV:=by
 grind [nV]
theorem ar.nil (h:ops.toList.drop k=[]) (K:ay β N Q .normal fr au):ar P β N ops k fr au Q:=by
 intro ai w hS
 rw [h]
 exact K ai w hS
theorem bN.nil (h:ops.toList.drop k=[]) (K:ay β N Q .normal fr au):bN P β N ops k fr au Q:=by
 intro ai
 rw [h]
 exact λw' iA=>K ai w' iA
theorem ar.tell {p:Prop} (h:∀w,aR β au w->p) (K:p->ar P β N ops k fr au Q):ar P β N ops k fr au Q:=λai w hS=>K (h w hS) ai w hS
theorem ar.mem (h:∀w,aR β au w->aR β eX w) (K:ar P β N ops k fr eX Q):ar P β N ops k fr au Q:=λai w hS=>K ai w (h w hS)
theorem ak.mem (h:∀w,aR β au w->aR β eX w) (K:ak P β N c fr eX Q):ak P β N c fr au Q:=λai w hS=>K ai w (h w hS)
theorem ay.mem (h:∀w,aR β au w->aR β eX w) (K:ay β N Q e fr eX):ay β N Q e fr au:=λai w hS=>K ai w (h w hS)
theorem ak.seq (h:ak P β N x fr au (Exit.then (y.wp P Q) Q)):ak P β N (.seq x y) fr au Q:=λai w hS=>wp_seq (h ai w hS)
theorem ay.next (h:ak P β N y fr au Q):ay β N (Exit.then (y.wp P Q) Q) .normal fr au:=λai w hS=>h ai w hS
theorem ay.oZ {K:Act->World->Prop} {id:Nat} (h:ay β N Q (.exit id) fr au):ay β N (Exit.then K Q) (.exit id) fr au:=λai w hS=>h ai w hS
theorem ay.bB {K:Act->World->Prop} (h:ay β N Q .ret fr au):ay β N (Exit.then K Q) .ret fr au:=λai w hS=>h ai w hS
theorem ak.block {id:Nat} (h:ak P β N c fr au (Exit.inBlock id Q)):ak P β N (.block id c) fr au Q:=λai w hS=>wp_block (h ai w hS)
theorem ay.gh {id:Nat} (h:ay β N Q .normal fr au):ay β N (Exit.inBlock id Q) .normal fr au:=λai w hS=>h ai w hS
theorem ay.fT {id:Nat} (h:ay β N Q .ret fr au):ay β N (Exit.inBlock id Q) .ret fr au:=λai w hS=>h ai w hS
theorem ay.uW {id:Nat} (h:ay β N Q .normal fr au):ay β N (Exit.inBlock id Q) (.exit id) fr au:=λai w hS=>by
 show (if id=id then Q .normal _ _ else _)
 rw [aik rfl]
 exact h ai w hS
theorem ay.Ml {id id':Nat} (cu:id'≠id) (h:ay β N Q (.exit id') fr au):ay β N (Exit.inBlock id Q) (.exit id') fr au:=λai w hS=>by
 show (if id'=id then Q .normal _ _ else Q (.exit id') _ _)
 rw [aij cu]
 exact h ai w hS
theorem ak.skip (h:ay β N Q .normal fr au):ak P β N .skip fr au Q:=λai w hS=>wp_skip (h ai w hS)
theorem ak.exit {id:Nat} (h:ay β N Q (.exit id) fr au):ak P β N (.exit id) fr au Q:=λai w hS=>wp_exit (h ai w hS)
theorem ak.ret (h:ay β N Q .ret fr au):ak P β N .ret fr au Q:=λai w hS=>wp_ret (h ai w hS)
theorem ak.cond {o:Operand} {b:Bool} (h:∀ai,eW N fr ai o=.bool b) (ht:b=true->ak P β N x fr au Q) (hf:b=false->ak P β N y fr au Q):ak P β N (.cond o x y) fr au Q:=
 λai w hS=>wp_cond_split (by rw [jb];exact h ai) (λe=>ht e ai w hS) (λe=>hf e ai w hS)
theorem ak.afO {o:Operand} (h:∀ai,eW N fr ai o=.bool true) (ht:ak P β N x fr au Q):ak P β N (.cond o x y) fr au Q:=ak.cond h (λ_=>ht) (λe=>by cases e)
theorem ak.afP {o:Operand} (h:∀ai,eW N fr ai o=.bool false) (hf:ak P β N y fr au Q):ak P β N (.cond o x y) fr au Q:=ak.cond h (λe=>by cases e) (λ_=>hf)
theorem ak.afQ {o:Operand} {p:Prop} [Decidable p] (h:∀ai,eW N fr ai o=.bool (decide p)) (ht:p->ak P β N x fr au Q) (hf:¬p->ak P β N y fr au Q):ak P β N (.cond o x y) fr au Q:=
 ak.cond h (λe=>ht (aja e)) (λe=>hf (of_decide_eq_false e))
theorem ak.region {id:Nat} (h:ar P β N ops 0 fr au Q):ak P β N (.region id ops false) fr au Q:=λai w hS=>wp_region_list (h ai w hS)
theorem ak.Gj {id:Nat} (hm:P.follows .mixedOrders=true) (hB:Region.lexB .any ops=true) (h:bN P β N ops 0 fr au Q):ak P β N (.region id ops true) fr au Q:=
 λai _ hS=>wp_region_quiet hm hB (hS.drewN 1) (h ai)
def Y7 (β:Bs) (N:fL) {ι:Type} (bO:ι->Prop) (fr:ι->Fr) (hp:ι->List HP):Act->World->Prop:=λa w=>∃i,bO i/\∃ai,a=fB N (fr i) ai/\aR β (hp i) w
theorem ak.join {ι:Type} (bO:ι->Prop) (bL:ι->Fr) (cR:ι->List HP) (hr:∀i,bO i->ak P β N y (bL i) (cR i) Q) (hf:ak P β N x fr au (Exit.then (Y7 β N bO bL cR) Q)):ak P β N (.seq x y) fr au Q:=
 λai w hS=>wp_seq (ajb (λe a w q=>by
  cases e with
  |normal=>
    obtain⟨i,hi,ai,rfl,hS⟩:=q
    exact hr i hi ai w hS
  |exit id=>exact q
  |goto l=>exact q
  |ret=>exact q
  |panic ch=>exact q
  |outgrown=>exact q) (hf ai w hS))
theorem ay.meet {ι:Type} {bO:ι->Prop} {bL:ι->Fr} {cR:ι->List HP} (i:ι) {aq pk:List Nat} (hi:bO i) (hf:∀ai,kJ fr ai aq=bL i) (hn:cC pk=true) (hp:cU au pk=some (cR i)) :
 ay β N (Exit.then (Y7 β N bO bL cR) Q) .normal fr au:=λai w hS=>⟨i,hi,lk fr ai,by rw [og N fr ai aq,hf ai],hS.pick hn hp⟩
def Turn (β:Bs) (N:fL) {ι:Type} (bO:ι->Prop) (μ:ι->Nat) (fr:ι->Fr) (hp:ι->List HP) (m:Nat):Act->World->Prop:=λa w=>∃i,bO i/\μ i<m/\∃ai,a=fB N (fr i) ai/\aR β (hp i) w
theorem ak.loop {ι:Type} (bO:ι->Prop) (μ:ι->Nat) (bL:ι->Fr) (cR:ι->List HP) (i0:ι) {aq pk:List Nat} (h0:bO i0) (hf:∀ai,kJ fr ai aq=bL i0) (hn:cC pk=true) (hp:cU au pk=some (cR i0))
 (round:∀i,bO i->ak P β N c (bL i) (cR i) (Exit.then (Turn β N bO μ bL cR (μ i)) Q)):ak P β N (.loop c) fr au Q:=by
 intro ai w hS
 refine wp_loop_ghost (λn a w=>∃i,bO i/\μ i=n/\∃ai,a=fB N (bL i) ai/\aR β (cR i) w) (μ i0) ⟨i0,h0,rfl,lk fr ai,by rw [og N fr ai aq,hf ai],hS.pick hn hp⟩ ?_
 rintro n a w ⟨i,hi,rfl,ai,rfl,hS⟩
 refine ajb (λe a w q=>?_) (round i hi ai w hS)
 cases e with
 |normal=>
   obtain⟨i',hi',fP,oy,e,iA⟩:=q
   exact⟨μ i',fP,i',hi',rfl,oy,e,iA⟩
 |exit id=>exact q
 |goto l=>exact q
 |ret=>exact q
 |panic ch=>exact q
 |outgrown=>exact q
theorem ay.turn {ι:Type} {bO:ι->Prop} {μ:ι->Nat} {bL:ι->Fr} {cR:ι->List HP} {m:Nat} (i:ι) {aq pk:List Nat} (hi:bO i) (hm:μ i<m) (hf:∀ai,kJ fr ai aq=bL i) (hn:cC pk=true) (hp:cU au pk=some (cR i)) :
 ay β N (Exit.then (Turn β N bO μ bL cR m) Q) .normal fr au:=λai w hS=>⟨i,hi,hm,lk fr ai,by rw [og N fr ai aq,hf ai],hS.pick hn hp⟩
end rules
def ko (R:List HP):d9 where
 h F w:=∃φ:Nat->Fp,(∀(i:Nat) (p:HP),R[i]?=some p->p.h (φ i) w)/\(∀i j,i<R.length->j<R.length->i≠j->Apart (φ i) (φ j))/\∀k,F k↔∃i,i<R.length/\φ i k
 lt:=by
  rintro F w ⟨φ,h1,h2,h3⟩ k hk
  obtain⟨i,hi,hk⟩:=(h3 k).1 hk
  obtain⟨p,hp⟩:=nj hi
  exact HP.lt (h1 i p hp) k hk
 st:=by
  rintro F w ⟨φ,h1,h2,h3⟩ S w' hk hn
  exact⟨φ,λi p hp=>HP.st (h1 i p hp) hk (λk h=>hn k ((h3 k).2 ⟨i,dO hp,h⟩)),h2,h3⟩
section contracts
variable {P:Program} {β:Bs} {l R:List HP} {w:World}
theorem aR.ko (h:aR β (l++R) w):aR β (l++[.abs (ko R)]) w:=by
 obtain⟨ho,φ,h1,h2,h3⟩:=h
 have hl:(l++R).length=l.length+R.length:=ait
 refine⟨ho,λi=>if i<l.length then φ i else λk=>∃j,j<R.length/\φ (l.length+j) k,λi p hp=>?_,λi hi k hk hO=>?_,λi j hi hj cu k hk jw=>?_⟩
 ·by_cases e:i<l.length
  ·grind
  have hi:i=l.length:=by have:=dO hp;simp at this;omega
  subst hi
  simp at hp
  subst hp
  simp only [aje,if_false]
  exact⟨λj=>φ (l.length+j),λj p hp=>h1 _ p Pe,λi j hi hj cu=>h3 _ _ zc zc zc,λk=>Iff.rfl⟩
 ·by_cases e:i<l.length
  ·grind
  simp only [e,if_false] at hk
  grind
 simp at hi hj
 by_cases e1:i<l.length
 ·simp only [e1,if_true] at hk
  by_cases e2:j<l.length
  ·simp only [e2,if_true] at jw
   exact h3 i j zc zc cu k hk jw
  simp only [e2,if_false] at jw
  obtain⟨t,ht,jw⟩:=jw
  exact h3 i (l.length+t) zc zc zc k hk jw
 simp only [e1,if_false] at hk
 obtain⟨t,ht,hk⟩:=hk
 by_cases e2:j<l.length
 ·simp only [e2,if_true] at jw
  exact h3 j (l.length+t) zc zc zc k jw hk
 omega
theorem aR.x9 (h:aR β (l++[.abs (Go.Proofs.YtbnfiigafobejaaGreat.ko R)]) w):aR β (l++R) w:=by
 obtain⟨ho,φ,h1,h2,h3⟩:=h
 have hl:(l++R).length=l.length+R.length:=ait
 have hl':(l++[HP.abs (Go.Proofs.YtbnfiigafobejaaGreat.ko R)]).length=l.length+1:=aii
 obtain⟨ψ,q1,q2,q3⟩:=h1 l.length (.abs (Go.Proofs.YtbnfiigafobejaaGreat.ko R)) aii
 have hsub:∀i,l.length<=i->i<l.length+R.length->∀k,ψ (i-l.length) k->φ l.length k:=Pe
 refine⟨ho,λi=>if i<l.length then φ i else ψ (i-l.length),λi p hp=>?_,λi hi k hk hO=>?_,λi j hi hj cu k hk jw=>?_⟩
 ·grind
 ·grind
 by_cases e1:i<l.length
 ·simp only [e1,if_true] at hk
  by_cases e2:j<l.length
  ·simp only [e2,if_true] at jw
   exact h3 i j zc zc cu k hk jw
  simp only [e2,if_false] at jw
  exact h3 i l.length zc zc zc k hk (hsub j zc zc k jw)
 simp only [e1,if_false] at hk
 by_cases e2:j<l.length
 ·simp only [e2,if_true] at jw
  exact h3 j l.length zc zc zc k jw (hsub i zc zc k hk)
 simp only [e2,if_false] at jw
 exact q2 (i-l.length) (j-l.length) zc zc zc k hk jw
def aU (P:Program) (β:Bs) (f:FuncId) (args:Array Value) (pre:List HP) (post:Value->List HP->Prop):Prop:=
 ∀(R:d9) w,aR β (pre++[.abs R]) w->Calls P f args w λe w'=>∃v l,e=.returned v/\post v l/\aR β (l++[.abs R]) w'
theorem aU.use {f:FuncId} {args:Array Value} {pre:List HP} {post:Value->List HP->Prop} (h:aU P β f args pre post) (hS:aR β (pre++R) w) :
 Calls P f args w λe w'=>∃v l,e=.returned v/\post v l/\aR β (l++R) w':=
 (h _ w hS.ko).mono λ_ _ ⟨v,l,h1,h2,h3⟩=>⟨v,l,h1,h2,h3.x9⟩
theorem aU.mono {f:FuncId} {args:Array Value} {pre:List HP} {post post':Value->List HP->Prop} (h:aU P β f args pre post) (hp:∀v l,post v l->post' v l):aU P β f args pre post':=
 λR w hS=>(h R w hS).mono λ_ _ ⟨v,l,h1,h2,h3⟩=>⟨v,l,h1,hp v l h2,h3⟩
end contracts
def rC (P:Program) (β:Bs) (N:fL) (ai:Nat->Value) (ops:Array Oper) (fr:Fr) (k:Nat):Option (FuncId×Array Value×Option Tmp):=
 match ops.toList[k]? with
 |some o=>
   match Region.wanted o (yF ops N fr ai) with
   |true=>
     match eU P β 0 true (execOp (eW N fr ai) o) ⟨[],[],[],true⟩ with
     |some (.enter f args,_)=>some (f,args,o.dst)
     |_=>none
   |false=>none
 |none=>none
section calls
variable {P:Program} {β:Bs} {N:fL} {ops:Array Oper} {k:Nat} {fr:Fr} {au R:List HP} {Q:Post} {f:FuncId} {args:Array Value} {d:Option Tmp}
theorem aR.nil {l:List HP} {w:World} (h:aR β l w):aR β [] w:=⟨h.1,λ_ _=>False,λi p hp=>by simp at hp,λi hi=>by simp at hi,λi j hi=>by simp at hi⟩
theorem CM {ai:Nat->Value} (h:rC P β N ai ops fr k=some (f,args,d)):∃o,ops.toList[k]?=some o/\Region.wanted o (yF ops N fr ai)=true/\o.dst=d ∧
 ∀w,aR β [] w->(execOp (eW N fr ai) o).run P w=.ok (.enter f args) w:=by
 unfold rC at h
 repeat' split at h
 all_goals first|(cases h;done)|skip
 rename_i o h1 _ h2 _ f' args' S' h3
 cases h
 refine⟨o,h1,h2,rfl,λw hS=>?_⟩
 have hob:=V1 _ _ _ _ h3 rfl
 obtain⟨w',h4,_,_,h5⟩:=zx _ _ _ _ w h3 (λp hp=>by rw [hob] at hp;cases hp) hS (λe=>by cases e)
 rw [h4,(h5 rfl).1]
theorem ia (o:Oper) (ai:Nat->Value):Region.wanted o (yielded ops (fB N fr ai).tmps)=Region.wanted o (yF ops N fr ai):=by
 have:yielded ops (fB N fr ai).tmps=yF ops N fr ai:=funext (Og ops N fr ai)
 rw [this]
theorem ar.call {pre:List HP} {post:Value->List HP->Prop} {pk:List Nat} (hc:∀ai,rC P β N ai ops fr k=some (f,args,d)) (hs:aU P β f args pre post) (hn:cC pk=true) (hp:cU au pk=some (pre++R))
 (K:∀v l,post v l->ar P β N ops (k+1) (eT fr d v) (l++R) Q):ar P β N ops k fr au Q:=by
 intro ai w hS
 obtain⟨o,h1,h2,rfl,h3⟩:=CM (hc ai)
 rw [drop_cons h1]
 unfold wpList
 rw [ia,aik h2]
 refine .inl ?_
 unfold Oper.wp
 rw [jb,h3 w hS.nil,Oper.upon_enter]
 refine (hs.use (hS.pick hn hp)).mono ?_
 grind [fB,ij,rC,aU,cC,cU,ar,eT]
theorem bN.call {pre:List HP} {post:Value->List HP->Prop} {pk V4:List Nat} {v0:Value} (hc:∀ai,rC P β N ai ops fr k=some (f,args,d)) (hs:aU P β f args pre post) (hn:cC pk=true) (hp:cU au pk=some (pre++R))
 (hn':cC V4=true) (cR:cU (pre++R) V4=some au) (hv:∀v l,post v l->v=v0/\l=pre)
 (K:bN P β N ops (k+1) (eT fr d v0) au Q):bN P β N ops k fr au Q:=by
 intro ai
 obtain⟨o,h1,h2,rfl,h3⟩:=CM (hc ai)
 rw [drop_cons h1]
 unfold wpQuiet
 rw [ia,aik h2]
 refine⟨v0,λw hS=>?_,?_⟩
 ·unfold Oper.quietAt
  rw [jb,h3 w hS.nil]
  refine⟨rfl,(hs.use (hS.pick hn hp)).mono ?_⟩
  rintro e w' ⟨v,l,rfl,lT,iA⟩
  obtain⟨rfl,rfl⟩:=hv v l lT
  exact⟨rfl,iA.pick hn' cR⟩
 rw [ij]
 exact K ai
end calls
def DC:Nat->List Value->Fr
 |_,[]=>[]
 |k,x::r=>(k,x)::DC (k+1) r
theorem SD (ai:Nat->Value):∀(l:List Value) (k t:Nat),lk (DC k l) ai t=if k<=t/\t<k+l.length then l.getD (t-k) undef else ai t
 |[],k,t=>by simp [DC,lk];intros;omega
 |x::r,k,t=>by
   rw [DC,mB,SD ai r (k+1) t]
   by_cases h:k=t
   ·subst h;simp
   by_cases h2:k+1<=t/\t<k+1+r.length
   ·have e:t-k=(t-(k+1))+1:=zc
    simp only [h,if_false,h2,and_self,if_true]
    rw [aik (by simp;omega),e]
    simp
   rw [aij h,aij h2,aij (by simp;omega)]
theorem Mn {N:Nat} {args:Array Value} (h:args.toList.length<=N):(⟨args++Array.replicate (N-args.size) undef,[]⟩:Act)=fB ⟨N,[]⟩ (DC 0 args.toList) (λ_=>undef):=by
 unfold fB
 congr 1
 grind [SD]
def Am (β:Bs) (R:d9) (post:Value->List HP->Prop):Ending->World->Prop:=λe w'=>∃v l,e=.returned v/\post v l/\aR β (l++[.abs R]) w'
section ends
variable {P:Program} {β:Bs} {N:fL} {n0:Nat} {fr:Fr} {au l:List HP} {f:FuncId} {args:Array Value} {pre:List HP} {post:Value->List HP->Prop} {fn:Func} {c:Code} {v:Value} {eV:List Prop}
theorem aU.enter (hf:P.funcs[f]?=some fn) (hb:fn.body=some c) (hN:fn.ntmps=n0) (hl:args.toList.length<=n0) (h:∀R:d9,ak P β ⟨n0,[]⟩ c (DC 0 args.toList) (pre++[.abs R]) (bodyPost P fn (Am β R post))):aU P β f args pre post:=by
 intro R w hS
 refine calls_of_wp hf hb ?_
 rw [hN,Mn hl]
 exact h R _ w hS
def tD (P:Program) (β:Bs) (N:fL) (ai:Nat->Value) (fn:Func) (fr:Fr) (au:List HP) (hints:List Hint):Option (Value×List Prop):=
 match eU P β 0 true (results fn (fB N fr ai).tmps) ⟨hints,au,[],true⟩ with
 |some (v,S)=>some (v,S.eV)
 |none=>none
theorem zy {ai:Nat->Value} {hints:List Hint} {w:World} (h:tD P β N ai fn fr au hints=some (v,eV)) (ho:pJ eV) (hS:aR β au w):(results fn (fB N fr ai).tmps).run P w=.ok v w:=by
 unfold tD at h
 split at h
 ·rename_i v' S h0
  cases h
  obtain⟨w',h1,_,_,h2⟩:=zx _ _ _ _ w h0 (λp hp=>ho.mem hp) hS (λe=>by cases e)
  rw [h1,(h2 rfl).1]
 cases h
theorem ay.ret {R:d9} (hints:List Hint) (pk:List Nat) (hr:∀ai,tD P β ⟨n0,[]⟩ ai fn fr au hints=some (v,eV)) (ho:pJ eV) (hn:cC pk=true) (hp:cU au pk=some (l++[.abs R])) (lT:post v l) :
 ay β ⟨n0,[]⟩ (bodyPost P fn (Am β R post)) .ret fr au:=
 λai _ hS=>⟨rfl,v,zy (hr ai) ho hS,v,l,rfl,lT,hS.pick hn hp⟩
theorem ay.fin {R:d9} (hints:List Hint) (pk:List Nat) (hr:∀ai,tD P β ⟨n0,[]⟩ ai fn fr au hints=some (v,eV)) (ho:pJ eV) (hn:cC pk=true) (hp:cU au pk=some (l++[.abs R])) (lT:post v l) :
 ay β ⟨n0,[]⟩ (bodyPost P fn (Am β R post)) .normal fr au:=
 λai _ hS=>⟨rfl,v,zy (hr ai) ho hS,v,l,rfl,lT,hS.pick hn hp⟩
theorem aU.of1 {A:d9} (h:∀F w,A.h F w->Calls P f args w λe w'=>∃v p,e=.returned v/\post v [p]/\∃F',p.h F' w'/\Step F w F' w'):aU P β f args [.abs A] post:=by
 intro R w hS
 obtain⟨F,hF⟩:=hS.get (i:=0) rfl
 have hS0:=hS
 obtain⟨ho,φ,h1,h2,h3⟩:=hS
 refine (h (φ 0) w (h1 0 _ rfl)).mono ?_
 rintro e w' ⟨v,p,rfl,hp,F',hF',st⟩
 refine⟨v,[p],rfl,hp,?_⟩
 have ho':=ho
 have h4:∀k,φ 1 k->k<w.heap.size:=λk hk=>HP.lt (h1 1 (.abs R) rfl) k hk
 refine⟨ho.keeps st.keeps (λk hk jw=>h2 0 aii k jw hk),λi=>if i=0 then F' else φ 1,λi q hq=>?_,λi hi k hk hO=>?_,λi j hi hj cu k hk jw=>?_⟩
 ·match i,hq with
  |0,hq=>cases hq;exact hF'
  |1,hq=>
    cases hq
    exact HP.st (h1 1 (.abs R) rfl) st.keeps (λk hk jw=>h3 0 1 aii aii aii k jw hk)
 ·by_cases e:i=0
  ·simp only [e,if_true] at hk
   rcases st.grow k hk with e|e
   ·exact h2 0 aii k e hO
   have:=(ho.old k hO).1;have:=ho.size;omega
  grind
 simp at hi hj
 have key:∀k,F' k->φ 1 k->False:=λk hk jw=>by
  rcases st.grow k hk with e|e
  ·exact h3 0 1 aii aii aii k e jw
  have:=h4 k jw;omega
 grind
theorem aU.OC (h:∀w,β.ok w->Calls P f args w λe w'=>∃v p,e=.returned v/\post v [p]/\cF (λ_=>False) w w'/\∃F,p.h F w'/\∀k,F k->w.heap.size<=k):aU P β f args [] post:=by
 intro R w hS
 refine (h w hS.1).mono ?_
 rintro e w' ⟨v,p,rfl,hp,hk,F,hF,hn⟩
 exact⟨v,[p],rfl,hp,(aR.new hS hF hk hn).pick (aq:=[1,0]) rfl rfl⟩
def adW:d9 where
 h F _:=∀k,¬F k
 lt h k hk:=(h k hk).elim
 st h _ _ _ _:=h
theorem aU.top {W:World} (h:aU P ⟨(· < W.heap.size),W⟩ f args [] post):Calls P f args W λe w'=>(∃v l,e=.returned v/\post v l)/\Below W.heap.size W w':=by
 have hS:aR ⟨(· < W.heap.size),W⟩ ([]++[.abs adW]) W:=by
  refine⟨⟨rfl,rfl,rfl,aiu _,λk hk=>⟨hk,rfl⟩⟩,λ_ _=>False,λi p hp=>?_,λi _ k hk=>hk.elim,λi j _ _ _ k hk=>hk.elim⟩
  match i,hp with
  |0,hp=>cases hp;exact λ_ h=>h
 refine (h adW W hS).mono ?_
 rintro e w' ⟨v,l,he,hp,iA⟩
 have ho:=iA.1
 exact⟨⟨v,l,he,hp⟩,ho.os,ho.tape,ho.output,ho.size,λk hk=>(ho.old k hk).2⟩
end ends
section slots
variable {P:Program} {β:Bs} {N:fL} {ops:Array Oper} {k:Nat} {fr:Fr} {au:List HP} {Q:Post} {c x y:Code} {e:Exit} {i:Nat} {v v':Value} {b:Bool}
theorem Ih {ai:Nat->Value} (h:lk fr ai i=v):fB N ((i,v)::fr) ai=fB N fr ai:=by
 unfold fB
 have:(List.range N.n).map (lk ((i,v)::fr) ai)=(List.range N.n).map (lk fr ai):=aiW (λt _=>by
  rw [mB]
  by_cases e:i=t
  ·subst e;simp [h]
  simp [e])
 rw [this]
theorem ar.slot (i:Nat) (v v':Value) (h:∀ai,lk fr ai i=v) (hv:v=v') (K:ar P β N ops k ((i,v')::fr) au Q):ar P β N ops k fr au Q:=λai w hS=>by
 have:=K ai w hS
 rwa [Ih (hv ▸ h ai)] at this
theorem bN.slot (i:Nat) (v v':Value) (h:∀ai,lk fr ai i=v) (hv:v=v') (K:bN P β N ops k ((i,v')::fr) au Q):bN P β N ops k fr au Q:=λai=>by
 have:=K ai
 rwa [Ih (hv ▸ h ai)] at this
theorem ay.slot (i:Nat) (v v':Value) (h:∀ai,lk fr ai i=v) (hv:v=v') (K:ay β N Q e ((i,v')::fr) au):ay β N Q e fr au:=λai w hS=>by
 have:=K ai w hS
 rwa [Ih (hv ▸ h ai)] at this
theorem ar.qb (i:Nat) (b:Bool) (h:∀ai,lk fr ai i=.bool b) (ht:b=true->ar P β N ops k ((i,.bool true)::fr) au Q) (hf:b=false->ar P β N ops k ((i,.bool false)::fr) au Q):ar P β N ops k fr au Q:=by
 cases hb:b with
 |true=>exact ar.slot i (.bool b) (.bool true) h (by rw [hb]) (ht hb)
 |false=>exact ar.slot i (.bool b) (.bool false) h (by rw [hb]) (hf hb)
theorem bN.qb (i:Nat) (b:Bool) (h:∀ai,lk fr ai i=.bool b) (ht:b=true->bN P β N ops k ((i,.bool true)::fr) au Q) (hf:b=false->bN P β N ops k ((i,.bool false)::fr) au Q):bN P β N ops k fr au Q:=by
 cases hb:b with
 |true=>exact bN.slot i (.bool b) (.bool true) h (by rw [hb]) (ht hb)
 |false=>exact bN.slot i (.bool b) (.bool false) h (by rw [hb]) (hf hb)
theorem ar.xO (i:Nat) (p:Prop) [Decidable p] (h:∀ai,lk fr ai i=.bool (decide p)) (ht:p->ar P β N ops k ((i,.bool true)::fr) au Q) (hf:¬p->ar P β N ops k ((i,.bool false)::fr) au Q):ar P β N ops k fr au Q:=
 ar.qb i _ h (λe=>ht (aja e)) (λe=>hf (of_decide_eq_false e))
theorem bN.xO (i:Nat) (p:Prop) [Decidable p] (h:∀ai,lk fr ai i=.bool (decide p)) (ht:p->bN P β N ops k ((i,.bool true)::fr) au Q) (hf:¬p->bN P β N ops k ((i,.bool false)::fr) au Q):bN P β N ops k fr au Q:=
 bN.qb i _ h (λe=>ht (aja e)) (λe=>hf (of_decide_eq_false e))
theorem ar.cJ (i:Nat) {p p':HP} (hp:au[i]?=some p) (e:p=p') (K:ar P β N ops k fr (au.set i p') Q):ar P β N ops k fr au Q:=by
 subst e
 have:au.set i p=au:=by
  apply List.ext_getElem?
  grind
 rwa [this] at K
theorem Ap {p:Prop} [Decidable p] (h:(!decide p)=true):¬p:=by simpa using h
theorem y6 {p:Prop} [Decidable p] (h:(!decide p)=false):p:=by simpa using h
theorem ar.Ue (i:Nat) (p:Prop) [Decidable p] (h:∀ai,lk fr ai i=.bool (!decide p)) (ht:¬p->ar P β N ops k ((i,.bool true)::fr) au Q) (hf:p->ar P β N ops k ((i,.bool false)::fr) au Q):ar P β N ops k fr au Q:=
 ar.qb i _ h (λe=>ht (Ap e)) (λe=>hf (y6 e))
theorem bN.Ue (i:Nat) (p:Prop) [Decidable p] (h:∀ai,lk fr ai i=.bool (!decide p)) (ht:¬p->bN P β N ops k ((i,.bool true)::fr) au Q) (hf:p->bN P β N ops k ((i,.bool false)::fr) au Q):bN P β N ops k fr au Q:=
 bN.qb i _ h (λe=>ht (Ap e)) (λe=>hf (y6 e))
theorem ak.afR {o:Operand} {p:Prop} [Decidable p] (h:∀ai,eW N fr ai o=.bool (!decide p)) (ht:¬p->ak P β N x fr au Q) (hf:p->ak P β N y fr au Q):ak P β N (.cond o x y) fr au Q:=
 ak.cond h (λe=>ht (Ap e)) (λe=>hf (y6 e))
end slots
theorem vV {x y:Int} (h:x=y) (lo:-9223372036854775808<=y) (hi:y<=9223372036854775807):Value.int .i64 (IntKind.wrap .i64 x)=Value.int .i64 y:=by
 subst h
 rw [IntWalk.i64_in _ ⟨lo,hi⟩]
theorem abW {k:IntKind} {x y:Int} (h:x=y):Value.int k x=Value.int k y:=by rw [h]
theorem EP (x y:ByteArray):(x.toList == y.toList)=decide (x=y):=by
 rw [←beq_toListBytes]
 obtain⟨⟨x⟩⟩:=x
 obtain⟨⟨y⟩⟩:=y
 show ((⟨x⟩:Array UInt8) == ⟨y⟩)=_
 by_cases h:x=y
 ·subst h;simp
 simp [h]
theorem rE (x y:ByteArray):Value.bool (x.toList == y.toList)=Value.bool (decide (x=y)):=by rw [EP]
theorem Ju (x y:ByteArray):Value.bool (!(x.toList == y.toList))=Value.bool (!decide (x=y)):=by rw [EP]
end
section
open Go.RowKit Go.Maps
def iY (N:fL) (ai:Nat->Value) (ops:Array Oper) (fr:Fr) (k:Nat):Option (Op×Option Tmp):=
 match ops.toList[k]? with
 |some o=>
   match Region.wanted o (yF ops N fr ai) with
   |true=>some (o.op,o.dst)
   |false=>none
 |none=>none
theorem iU {N:fL} {ai:Nat->Value} {ops:Array Oper} {fr:Fr} {k:Nat} {op:Op} {d:Option Tmp} (h:iY N ai ops fr k=some (op,d)) :
 ∃o,ops.toList[k]?=some o/\Region.wanted o (yF ops N fr ai)=true/\o.op=op/\o.dst=d:=by
 grind [iY]
def bM (P:Program) (K:TypeId) (b:Nat) (f:Lit->Option Value) (n:Nat):d9 where
 h F w:=kI P K w b f n/\∀k,F k↔k=b
 lt:=by rintro F w ⟨h,hF⟩ k hk;rw [(hF k).1 hk];exact h.lt
 st:=by rintro F w ⟨h,hF⟩ S w' hk hn;exact⟨h.keeps hk (hn b ((hF b).2 rfl)),hF⟩
section maps
variable {P:Program} {β:Bs} {N:fL} {ops:Array Oper} {k:Nat} {fr:Fr} {au eX:List HP} {Q:Post} {d:Option Tmp} {op:Op} {v:Value}
theorem ar.oh (bW:∀ai,iY N ai ops fr k=some (op,d)) (h:∀(o:Oper) ai w,o.op=op->aR β au w->∃w',tv P (eW N fr ai) o w v w'/\aR β eX w')
 (K:ar P β N ops (k+1) (eT fr d v) eX Q):ar P β N ops k fr au Q:=by
 intro ai w hS
 obtain⟨o,h1,h2,h3,rfl⟩:=iU (bW ai)
 obtain⟨w',h4,h5⟩:=h o ai w h3 hS
 rw [drop_cons h1]
 unfold wpList
 grind [ia,qD,jb,ij,iY,aR,tv,eW,ar,eT]
theorem ar.Lf {ι:Type} {v:ι->Value} {cR:ι->List HP} (bW:∀ai,iY N ai ops fr k=some (op,d)) (h:∀(o:Oper) ai w,o.op=op->aR β au w->∃i w',tv P (eW N fr ai) o w (v i) w'/\aR β (cR i) w')
 (K:∀i,ar P β N ops (k+1) (eT fr d (v i)) (cR i) Q):ar P β N ops k fr au Q:=by
 intro ai w hS
 obtain⟨o,h1,h2,h3,rfl⟩:=iU (bW ai)
 obtain⟨i,w',h4,h5⟩:=h o ai w h3 hS
 rw [drop_cons h1]
 unfold wpList
 grind [ia,qD,jb,ij,iY,aR,tv,eW,ar,eT]
theorem bN.oh (bW:∀ai,iY N ai ops fr k=some (op,d)) (h:∀(o:Oper) ai w,o.op=op->aR β au w->tv P (eW N fr ai) o w v w)
 (K:bN P β N ops (k+1) (eT fr d v) au Q):bN P β N ops k fr au Q:=by
 intro ai
 obtain⟨o,h1,h2,h3,rfl⟩:=iU (bW ai)
 rw [drop_cons h1]
 unfold wpQuiet
 rw [ia,aik h2]
 refine⟨v,λw hS=>?_,?_⟩
 ·unfold Oper.quietAt
  rw [jb]
  rcases h o ai w h3 hS with h4|⟨h4,h4'⟩
  ·rw [h4];exact⟨rfl,rfl⟩
  rw [h4'];exact⟨rfl,h4⟩
 rw [ij]
 exact K ai
variable {t K E:TypeId} {b n i:Nat} {f:Lit->Option Value} {x ix y:Operand} {key z u:Value} {kl:Lit} {r:Option Value}
theorem bM.get {w:World} (hS:aR β au w) (hp:au[i]?=some (.abs (bM P K b f n))):kI P K w b f n:=by
 obtain⟨F,hF⟩:=hS.get hp
 exact hF.1
theorem Jv {w:World} {o:Oper} {ev:Operand->Value} (ho:o.op=.lookup t x ix true) (hm:kI P K w b f n) (hx:ev x=.map (some b)) (fC:ev ix=key) (L:Keyed P K) (ht:P.underlying t=some (.map K E))
 (hz:(zeroValue E).run P w=.ok z w) (mO:keyOf P K key=some kl):tv P ev o w (.tuple #[(f kl).getD z,.bool (f kl).isSome]) w:=by
 have h:=hm.look_ok L ht hz mO
 obtain⟨dst,op,type,pos,after,guard⟩:=o
 cases ho
 refine .inl ?_
 simp only [execOp,hx,fC]
 simp [go_sem,h]
theorem DE {w:World} {o:Oper} {ev:Operand->Value} (ho:o.op=.lookup t x ix false) (hm:kI P K w b f n) (hx:ev x=.map (some b)) (fC:ev ix=key) (L:Keyed P K) (ht:P.underlying t=some (.map K E))
 (hz:(zeroValue E).run P w=.ok z w) (mO:keyOf P K key=some kl):tv P ev o w ((f kl).getD z) w:=by
 have h:=hm.look L ht hz mO
 obtain⟨dst,op,type,pos,after,guard⟩:=o
 cases ho
 refine .inl ?_
 simp only [execOp,hx,fC]
 simp [go_sem,h]
theorem ar.BK (i:Nat) (bW:∀ai,iY N ai ops fr k=some (.lookup t x ix true,d)) (hp:au[i]?=some (.abs (bM P K b f n))) (hx:∀ai,eW N fr ai x=.map (some b)) (fC:∀ai,eW N fr ai ix=key) (L:Keyed P K)
 (ht:P.underlying t=some (.map K E)) (hz:∀w,(zeroValue E).run P w=.ok z w) (mO:keyOf P K key=some kl) (hr:f kl=r) (K':ar P β N ops (k+1) (eT fr d (.tuple #[r.getD z,.bool r.isSome])) au Q):ar P β N ops k fr au Q:=by
 subst hr
 exact ar.oh bW (λo ai w ho hS=>⟨w,Jv ho (bM.get hS hp) (hx ai) (fC ai) L ht (hz w) mO,hS⟩) K'
theorem ar.jj (i:Nat) (bW:∀ai,iY N ai ops fr k=some (.lookup t x ix false,d)) (hp:au[i]?=some (.abs (bM P K b f n))) (hx:∀ai,eW N fr ai x=.map (some b)) (fC:∀ai,eW N fr ai ix=key) (L:Keyed P K)
 (ht:P.underlying t=some (.map K E)) (hz:∀w,(zeroValue E).run P w=.ok z w) (mO:keyOf P K key=some kl) (hr:f kl=r) (K':ar P β N ops (k+1) (eT fr d (r.getD z)) au Q):ar P β N ops k fr au Q:=by
 subst hr
 exact ar.oh bW (λo ai w ho hS=>⟨w,DE ho (bM.get hS hp) (hx ai) (fC ai) L ht (hz w) mO,hS⟩) K'
theorem bN.jj (i:Nat) (bW:∀ai,iY N ai ops fr k=some (.lookup t x ix false,d)) (hp:au[i]?=some (.abs (bM P K b f n))) (hx:∀ai,eW N fr ai x=.map (some b)) (fC:∀ai,eW N fr ai ix=key) (L:Keyed P K)
 (ht:P.underlying t=some (.map K E)) (hz:∀w,(zeroValue E).run P w=.ok z w) (mO:keyOf P K key=some kl) (hr:f kl=r) (K':bN P β N ops (k+1) (eT fr d (r.getD z)) au Q):bN P β N ops k fr au Q:=by
 subst hr
 exact bN.oh bW (λo ai w ho hS=>DE ho (bM.get hS hp) (hx ai) (fC ai) L ht (hz w) mO) K'
theorem step_map {w w':World} {f':Lit->Option Value} {n':Nat} {F:Fp} (hF:(HP.abs (bM P K b f n)).h F w) (h:kI P K w' b f' n') (hk:cF (·=b) w w'):∃F',(HP.abs (bM P K b f' n')).h F' w'/\Step F w F' w':=
 ⟨F,⟨h,hF.2⟩,hk.mono (λ_ _ e=>(hF.2 _).2 e),λ_ h=>.inl h⟩
theorem ar.rF (i:Nat) (bW:∀ai,iY N ai ops fr k=some (.mapUpdate t x ix y,d)) (hp:au[i]?=some (.abs (bM P K b f n))) (hx:∀ai,eW N fr ai x=.map (some b)) (fC:∀ai,eW N fr ai ix=key) (hy:∀ai,eW N fr ai y=u) (L:Keyed P K)
 (ht:P.underlying t=some (.map K E)) (hn:n<maxLen) (mO:keyOf P K key=some kl) {n':Nat} (hn':(if (f kl).isSome then n else n+1)=n') {f':Lit->Option Value} (hf':qA f kl (some u)=f')
 (K':ar P β N ops (k+1) (eT fr d undef) (au.set i (.abs (bM P K b f' n'))) Q):ar P β N ops k fr au Q:=by
 subst hn' hf'
 refine ar.oh bW (λo ai w ho hS=>?_) K'
 obtain⟨F,hF⟩:=hS.get hp
 obtain⟨w',h1,h2,h3⟩:=hF.1.store L ht hn mO u
 refine⟨w',.inr ⟨rfl,?_⟩,hS.set hp (λF hF=>step_map hF h2 h3)⟩
 obtain⟨dst,op,type,pos,after,guard⟩:=o
 cases ho
 simp only [execOp,hx ai,fC ai,hy ai]
 simp [go_sem,h1]
theorem ar.Jw (i:Nat) {ats:Array TypeId} (bW:∀ai,iY N ai ops fr k=some (.call ⟨.builtin .delete,#[x,ix],ats⟩,d)) (hp:au[i]?=some (.abs (bM P K b f n))) (hx:∀ai,eW N fr ai x=.map (some b)) (fC:∀ai,eW N fr ai ix=key) (Ar:ats=#[t,K]) (L:Keyed P K)
 (ht:P.underlying t=some (.map K E)) (mO:keyOf P K key=some kl) {n':Nat} (hn':(if (f kl).isSome then n-1 else n)=n') {f':Lit->Option Value} (hf':qA f kl none=f')
 (K':ar P β N ops (k+1) (eT fr d (.tuple #[])) (au.set i (.abs (bM P K b f' n'))) Q):ar P β N ops k fr au Q:=by
 subst hn' hf' Ar
 refine ar.oh bW (λo ai w ho hS=>?_) K'
 obtain⟨F,hF⟩:=hS.get hp
 obtain⟨w',h1,h2,h3⟩:=hF.1.drop L ht mO o.type
 refine⟨w',.inl ?_,hS.set hp (λF hF=>step_map hF h2 h3)⟩
 obtain⟨dst,op,type,pos,after,guard⟩:=o
 cases ho
 simp only [execOp,resolve,invoke,builtin]
 simp [go_sem,hx ai,fC ai,h1]
theorem Gl {w:World} {o:Oper} {ev:Operand->Value} {ats:Array TypeId} (ho:o.op=.call ⟨.builtin .len,#[x],ats⟩) (Ar:ats=#[t]) (hm:kI P K w b f n) (hx:ev x=.map (some b)) (ht:P.underlying t=some (.map K E)) :
 tv P ev o w (.int .i64 ((n:Nat):Int)) w:=by
 have h:=hm.len ht o.type
 obtain⟨dst,op,type,pos,after,guard⟩:=o
 subst Ar
 cases ho
 refine .inl ?_
 simp only [execOp,resolve,invoke,builtin]
 simp [go_sem,hx,h]
theorem bN.C8 (i:Nat) {ats:Array TypeId} (bW:∀ai,iY N ai ops fr k=some (.call ⟨.builtin .len,#[x],ats⟩,d)) (hp:au[i]?=some (.abs (bM P K b f n))) (hx:∀ai,eW N fr ai x=.map (some b)) (Ar:ats=#[t]) (ht:P.underlying t=some (.map K E))
 (K':bN P β N ops (k+1) (eT fr d (.int .i64 ((n:Nat):Int))) au Q):bN P β N ops k fr au Q:=
 bN.oh bW (λ_ ai _ ho hS=>Gl ho Ar (bM.get hS hp) (hx ai) ht) K'
theorem ar.tX (bW:∀ai,iY N ai ops fr k=some (.makeMap t none,d)) (P':Program) (hP:P'=P) (K:TypeId) (K':∀b,ar P β N ops (k+1) (eT fr d (.map (some b))) (au++[.abs (bM P K b (λ_=>none) 0)]) Q):ar P β N ops k fr au Q:=by
 subst hP
 refine ar.Lf (ι:=Nat) (v:=λb=>.map (some b)) (cR:=λb=>au++[.abs (bM P' K b (λ_=>none) 0)]) bW (λo ai w ho hS=>⟨w.heap.size,w.alloc (.map #[] 0),.inl ?_,?_⟩) K'
 ·obtain⟨dst,op,type,pos,after,guard⟩:=o
  cases ho
  rfl
 exact hS.new (F:=λk=>k=w.heap.size) ⟨kI.made w P' K,λ_=>Iff.rfl⟩ ((cF.refl _ _).alloc _) (λk e=>Nat.le_of_eq e.symm)
end maps
end
section
open Go.RowKit
def aF (e:TypeId) (size:Nat) (A:Option Addr) (n cap:Nat) (xs:List Value):d9 where
 h F w:=w.ownsRow 0 e size (.slice A n cap) n xs/\∀k,F k↔(Value.slice A n cap).ownBlock=some k
 lt:=by rintro F w ⟨h,hF⟩ k hk;exact (h.lt k ((hF k).1 hk)).2
 st:=by rintro F w ⟨h,hF⟩ S w' hk hn;exact⟨hk.ownsRow h (λk e=>hn k ((hF k).2 e)),hF⟩
theorem aF.len {e:TypeId} {size:Nat} {A:Option Addr} {n cap:Nat} {xs:List Value} {F:Fp} {w:World} (h:(HP.abs (aF e size A n cap xs)).h F w):xs.length=n*size/\n<=cap:=by
 obtain⟨⟨h1,h2⟩,_⟩:=h
 grind
theorem aF.head {e:TypeId} {size:Nat} {A:Option Addr} {n cap:Nat} {xs:List Value} {F:Fp} {w:World} (h:(HP.abs (aF e size A n cap xs)).h F w) (hn:0<n):∃g,A=some ⟨g,0,none⟩:=by
 obtain⟨⟨h1,h2⟩,_⟩:=h
 grind
theorem aF.cell {e:TypeId} {size:Nat} {g n cap j:Nat} {xs:List Value} {u:Value} (hj:xs[j]?=some u):∀F w,(aF e size (some ⟨g,0,none⟩) n cap xs).h F w->w.cell? ⟨g,j,none⟩=some u:=by
 rintro F w ⟨h,_⟩
 obtain⟨h1,h2⟩:=h
 rcases h2 with ⟨e,_⟩|⟨g',cp,cur,e,_,hb,_,_,hs,ht⟩
 ·cases e
 cases e
 have fP:=dO hj
 have:cur.toList[j]?=some u:=by
  grind
 simpa [World.cell?,hb] using this
theorem aF.nil (e:TypeId) (size:Nat) (w:World):(HP.abs (aF e size none 0 0 [])).h (λ_=>False) w:=
 ⟨⟨aii,.inl ⟨rfl,rfl⟩⟩,λk=>by simp [Value.ownBlock]⟩
theorem Y8 {α:Type} {l:List α} {i:Nat} {x:α} (h:l[i]?=some x):l.set i x=l:=by
 apply List.ext_getElem?
 grind
section rows
variable {P:Program} {β:Bs} {N:fL} {ops:Array Oper} {k:Nat} {fr:Fr} {au eX:List HP} {Q:Post} {d:Option Tmp} {op:Op} {v:Value} {c:Code}
theorem aR.mQ {e:TypeId} {size:Nat} {w:World} (h:aR β au w):aR β (au++[.abs (aF e size none 0 0 [])]) w:=
 aR.new h (aF.nil e size w) (cF.refl _ _) (λ_ h=>h.elim)
theorem Y9 {b:Nat} {cs:List Value} {e:TypeId} {size n:Nat} {w:World} (hl:cs.length=n*size) (hm:n<=maxLen):∀F,(HP.ax b cs e).h F w->∃F',(HP.abs (aF e size (some ⟨b,0,none⟩) n n cs)).h F' w/\Step F w F' w:=by
 rintro F ⟨h1,h2⟩
 refine⟨F,⟨⟨hl,.inr ⟨b,n,⟨cs⟩,rfl,aio _,h1,aiu _,hm,by simpa using hl,?_⟩⟩,λk=>?_⟩,Step.refl F w⟩
 ·rw [←hl];exact aiK
 rw [h2 k]
 simp [Value.ownBlock,eq_comm]
theorem aR.o9 {b i:Nat} {cs:List Value} {e:TypeId} {w:World} (size n:Nat) (hp:au[i]?=some (.ax b cs e)) (hl:cs.length=n*size) (hm:n<=maxLen) (h:aR β au w):aR β (au.set i (.abs (aF e size (some ⟨b,0,none⟩) n n cs))) w:=
 h.set hp (Y9 hl hm)
theorem fQ {b j:Nat} {news:List Value} {T:TypeId} (hp:au[j]?=some (.ax b news T)):∀w,aR β au w->((some ⟨b,0,none⟩:Option Addr)=none/\news.length=0)\/∃ad,(some ⟨b,0,none⟩:Option Addr)=some ad/\∀j u,news[j]?=some u->w.cell? (ad.add j)=some u:=by
 intro w hS
 obtain⟨F,hF⟩:=hS.get hp
 refine .inr ⟨_,rfl,λj u hj=>?_⟩
 have ea:(⟨b,0,none⟩:Addr).add j=⟨b,j,none⟩:=by unfold Addr.add;split<;>simp_all
 rw [ea]
 exact (lQ hF.1 rfl rfl hj).1
theorem ar.append (i:Nat) {t e:TypeId} {z:Value} {size bytes n cap m c':Nat} {A A':Option Addr} {xs news:List Value} {s x:Operand} {ats:Array TypeId}
 (bW:∀ai,iY N ai ops fr k=some (.call ⟨.builtin .append,#[s,x],ats⟩,d)) (Ar:ats=#[t,t]) (hp:au[i]?=some (.abs (aF e size A n cap xs))) (hs:∀ai,eW N fr ai s=.slice A n cap) (hx:∀ai,eW N fr ai x=.slice A' m c')
 (ht:P.underlying t=some (.slice e)) (sj:(P.info? e).map (λi=>(i.zero,i.size,i.bytes))=some (some z,size,bytes)) (hzs:z.cells.size=size) (eG:0<size)
 (hl:news.length=m*size) (h1:∀u∈news,u.oneCell'=true) (hsrc:∀w,aR β au w->(A'=none/\news.length=0)\/∃ad,A'=some ad/\∀j u,news[j]?=some u->w.cell? (ad.add j)=some u)
 (h63:n+m<=maxLen) (hbytes:(n+m)*bytes<=140737488355328)
 (K':∀B cap',ar P β N ops (k+1) (eT fr d (.slice B (n+m) cap')) (au.set i (.abs (aF e size B (n+m) cap' (xs++news)))) Q):ar P β N ops k fr au Q:=by
 subst Ar
 obtain⟨inf,hi,hz,hsize,hby⟩:∃inf,P.info? e=some inf/\inf.zero=some z/\inf.size=size/\inf.bytes=bytes:=by
  cases h:P.info? e with
  |none=>rw [h] at sj;cases sj
  |some inf=>rw [h] at sj;simp at sj;exact⟨inf,rfl,sj.1,sj.2.1,sj.2.2⟩
 refine ar.Lf (ι:=Option Addr×Nat) (v:=λp=>.slice p.1 (n+m) p.2) (cR:=λp=>au.set i (.abs (aF e size p.1 (n+m) p.2 (xs++news)))) bW (λo ai w ho hS=>?_) (λp=>K' p.1 p.2)
 obtain⟨F,hF⟩:=hS.get hp
 have jD:=aF.len hF
 have hrun:∀v' w',(Builtin.append_ #[t,t] o.type #[.slice A n cap,.slice A' m c']).run P w=.ok v' w'->tv P (eW N fr ai) o w v' w':=λv' w' h=>by
  obtain⟨dst,op,type,pos,after,guard⟩:=o
  cases ho
  refine .inl ?_
  have h':(Builtin.append_ #[t,t] type #[.slice A n cap,.slice A' m c']).run P w=.ok v' w':=h
  simp only [execOp,resolve,invoke,builtin,hs ai,hx ai,List.map_toArray,aiP,List.map_nil,Sem.run_bind,Sem.run_pure,Result.andThen_ok,h']
 rcases hsrc w hS with ⟨rfl,h0⟩|⟨ad,rfl,hnews⟩
 ·have hm0:m=0:=by
   rw [hl] at h0
   rcases Nat.mul_eq_zero.1 h0 with e|e
   ·exact e
   omega
  subst hm0
  have hn0:news=[]:=aiZ h0
  subst hn0
  refine⟨(A,cap),w,hrun _ _ ?_,?_⟩
  ·have hu:=run_underlying ht w
   have h3:=s5 hi w
   rw [hsize] at h3
   have h4:(Builtin.append_ #[t,t] o.type #[.slice A n cap,.slice none 0 c']).run P w=.ok (.slice A n cap) w:=by
    cases A<;>simp [Builtin.append_,hu,h3,go_sem,Builtin.lenOf,Builtin.firstCells,jD.2,storeCells]
   simpa using h4
  grind [aF,Y8]
 obtain⟨v',w',h2,h3,h4,_,h5⟩:=run_append_own_at (P:=P) w 0 t o.type e inf z size bytes ht hi hz hsize hby hzs eG (.slice A n cap) n xs hF.1 ad m c' news hl hnews h1 h63 hbytes (aio _)
 have EQ:∃B cap',v'=.slice B (n+m) cap':=by
  rcases h3.2 with ⟨e,e0⟩|⟨g,cp,cur,e,_⟩
  all_goals grind
 obtain⟨B,cap',rfl⟩:=EQ
 refine⟨(B,cap'),w',hrun _ _ h2,hS.set hp (λF hF=>⟨λk=>(Value.slice B (n+m) cap').ownBlock=some k,⟨h3,λ_=>Iff.rfl⟩,((cF.refl F w).grown h4 (λk hk=>.inr ((hF.2 k).2 hk))),λk hk=>?_⟩)⟩
 rcases h5 with h5|h5
 ·exact .inl ((hF.2 k).2 (h5 ▸ hk))
 grind
end rows
structure Bs.le (β β':Bs):Prop where
 O:∀k,β.O k->β'.O k
 os:β'.w0.os=β.w0.os
 tape:β'.w0.tape=β.w0.tape
 output:β'.w0.output=β.w0.output
 size:β.w0.heap.size<=β'.w0.heap.size
 old:∀k,β.O k->k<β.w0.heap.size/\β'.w0.heap[k]?=β.w0.heap[k]?
theorem Bs.le.trans {a b c:Bs} (h:a.le b) (g:b.le c):a.le c:=
 ⟨λk hk=>g.O k (h.O k hk),g.os.trans h.os,g.tape.trans h.tape,g.output.trans h.output,air h.size g.size,λk hk=>⟨(h.old k hk).1,(g.old k (h.O k hk)).2.trans (h.old k hk).2⟩⟩
def Rd (β:Bs) (a:Addr) (v:Value):Prop:=β.O a.block/\β.w0.cell? a=some v
theorem Rd.le {β β':Bs} {a:Addr} {v:Value} (h:Rd β a v) (dL:β.le β'):Rd β' a v:=
 ⟨dL.O _ h.1,(World.cell?_of_block (w:=β.w0) (dL.old _ h.1).2).trans h.2⟩
theorem Bs.ok.le {β β':Bs} {w:World} (h:β'.ok w) (dL:β.le β'):β.ok w:=
 ⟨h.os.trans dL.os,h.tape.trans dL.tape,h.output.trans dL.output,air dL.size h.size,λk hk=>⟨(dL.old k hk).1,(h.old k (dL.O k hk)).2.trans (dL.old k hk).2⟩⟩
theorem aR.Jx {β β':Bs} {l:List HP} {w:World} (dL:β.le β') (h:aR β' l w):aR β l w:=by
 obtain⟨ho,φ,h1,h2,h3⟩:=h
 exact⟨ho.le dL,φ,h1,λi hi k hk hO=>h2 i hi k hk (dL.O k hO),h3⟩
theorem aR.nw {β:Bs} {l l':List HP} {w:World} {p:HP} {i:Nat} {aq:List Nat} (h:aR β l w) (hp:l[i]?=some p) (hn:cC (i::aq)=true) (hl:cU l aq=some l') :
 ∃F,p.h F w/\∃β':Bs,β.le β'/\(∀k,F k->β'.O k)/\β'.w0=w/\aR β' l' w:=by
 have h':=h.pick (aq:=i::aq) (l':=p::l') hn (by simp only [cU,hp,hl])
 obtain⟨ho,φ,h1,h2,h3⟩:=h'
 refine⟨φ 0,h1 0 p rfl,⟨λk=>β.O k\/φ 0 k,w⟩,⟨λk hk=>.inl hk,ho.os,ho.tape,ho.output,ho.size,λk hk=>ho.old k hk⟩,λk hk=>.inr hk,rfl,⟨rfl,rfl,rfl,aiu _,λk hk=>⟨?_,rfl⟩⟩,λj=>φ (j+1),λj q hq=>h1 (j+1) q (by simpa using hq),λj hj k hk hO=>?_,λj1 j2 vA hj2 cu=>h3 _ _ (by simp;omega) (by simp;omega) zc⟩
 ·rcases hk with hk|hk
  ·exact aiG (ho.old k hk).1 ho.size
  exact HP.lt (h1 0 p rfl) k hk
 rcases hO with hO|hO
 ·exact h2 (j+1) (by simp;omega) k hk hO
 exact h3 (j+1) 0 (by simp;omega) aii zc k hk hO
section rules
variable {P:Program} {β β':Bs} {N:fL} {ops:Array Oper} {k:Nat} {fr:Fr} {au eX:List HP} {Q:Post} {c:Code} {e:Exit} {p:HP} {i:Nat} {aq:List Nat} {d:Option Tmp}
theorem ar.nw {Φ:Bs->Prop} (i:Nat) (aq:List Nat) (hp:au[i]?=some p) (hn:cC (i::aq)=true) (hl:cU au aq=some eX) (Ey:∀F w,p.h F w->∀β':Bs,(∀k,F k->β'.O k)->β'.w0=w->Φ β')
 (K:∀β':Bs,β.le β'->Φ β'->ar P β' N ops k fr eX Q):ar P β N ops k fr au Q:=λai w hS=>by
 obtain⟨F,hF,β',dL,h1,h2,iA⟩:=hS.nw hp hn hl
 exact K β' dL (Ey F w hF β' h1 h2) ai w iA
def cA (β:Bs) (A:Option Addr) (xs:List Value):Prop:=∀(j:Nat) (v:Value),xs[j]?=some v->A=some ⟨bG A,bE A,none⟩/\Rd β ⟨bG A,bE A+j,none⟩ v
theorem cA.le {A:Option Addr} {xs:List Value} (h:cA β A xs) (dL:β.le β'):cA β' A xs:=λj v hj=>⟨(h j v hj).1,(h j v hj).2.le dL⟩
theorem cA.iM {e:TypeId} {size n cap:Nat} {A:Option Addr} {xs:List Value} {F:Fp} {w:World} (h:(HP.abs (aF e size A n cap xs)).h F w) (h1:∀k,F k->β'.O k) (h2:β'.w0=w):cA β' A xs:=by
 intro j v hj
 have fP:=dO hj
 have hl:=aF.len h
 have hn:0<n:=by
  grind
 obtain⟨g,rfl⟩:=aF.head h hn
 refine⟨rfl,h1 g ((h.2 g).2 rfl),?_⟩
 rw [h2]
 have:=aF.cell hj F w h
 simpa [bG,bE] using this
theorem aF.Jy {e:TypeId} {size:Nat} {A:Option Addr} {n cap:Nat} {xs:List Value} {F:Fp} {w:World} (h:(HP.abs (aF e size A n cap xs)).h F w) (hn:0<n):A=some ⟨bG A,bE A,none⟩/\bE A=0:=by
 obtain⟨g,rfl⟩:=aF.head h hn
 exact⟨rfl,rfl⟩
theorem CN {e:TypeId} {size n cap j g:Nat} {xs:List Value} {u:Value} {w:World} (_:j<xs.length):∀F,(HP.abs (aF e size (some ⟨g,0,none⟩) n cap xs)).h F w →
 ∃F',(HP.abs (aF e size (some ⟨g,0,none⟩) n cap (xs.set j u))).h F' (w.setCell ⟨g,j,none⟩ u)/\Step F w F' (w.setCell ⟨g,j,none⟩ u):=by
 rintro F ⟨⟨h1,h2⟩,hF⟩
 rcases h2 with ⟨e,_⟩|⟨g',cp,cur,e,_,hb,dL,hm,hs,ht⟩
 ·cases e
 cases e
 refine⟨F,⟨⟨by simpa using h1,.inr ⟨g,cap,cur.setIfInBounds j u,rfl,aio _,?_,dL,hm,by simpa using hs,?_⟩⟩,hF⟩,⟨(cF.refl _ _).setCell (.inr ((hF g).2 rfl)) u,λ_ h=>.inl h⟩⟩
 ·simp [World.setCell,Array.getElem?_modify,hb]
 rw [Array.toList_setIfInBounds,List.take_set,ht]
theorem ar.ER (i j:Nat) {T e:TypeId} {size n cap g:Nat} {xs:List Value} {u:Value} {a y:Operand} (bW:∀ai,iY N ai ops fr k=some (.store T a y,d)) (hp:au[i]?=some (.abs (aF e size (some ⟨g,0,none⟩) n cap xs)))
 (ha:∀ai,eW N fr ai a=.pointer (some ⟨g,j,none⟩)) (hy:∀ai,eW N fr ai y=u) (hT:(P.info? T).map (·.size)=some 1) (hu:u.oneCell'=true) (hj:j<xs.length)
 (K':ar P β N ops (k+1) (eT fr d undef) (au.set i (.abs (aF e size (some ⟨g,0,none⟩) n cap (xs.set j u)))) Q):ar P β N ops k fr au Q:=by
 refine ar.oh bW (λo ai w ho hS=>?_) K'
 obtain⟨F,hF⟩:=hS.get hp
 refine⟨w.setCell ⟨g,j,none⟩ u,.inr ⟨rfl,?_⟩,hS.set hp (CN hj)⟩
 obtain⟨x,hx⟩:=nj hj
 have hc:=aF.cell hx F w hF
 have hf:w.frozen? ⟨g,j,none⟩=false:=by
  obtain⟨⟨_,h2⟩,_⟩:=hF
  rcases h2 with ⟨e,_⟩|⟨g',cp,cur,e,_,hb,_⟩
  ·cases e
  cases e;simp [World.frozen?,hb]
 obtain⟨inf,hi,eG⟩:∃inf,P.info? T=some inf/\inf.size=1:=by
  cases h:P.info? T with
  |none=>rw [h] at hT;cases hT
  |some inf=>rw [h] at hT;exact⟨inf,rfl,by simpa using hT⟩
 have h3:=s5 hi w
 rw [eG] at h3
 obtain⟨dst,op,type,pos,after,guard⟩:=o
 cases ho
 cases u<;>first
  |(simp [Value.oneCell'] at hu;done)
  |(simp only [execOp,ha ai,hy ai];simp [go_sem,Instr.storeAt,Instr.sureAddr,storeVar,h3,Value.cells,storeCells,store,Addr.add,Sem.run,hc,hf])
end rules
theorem Bs.ok.acW {β:Bs} {w:World} (h:β.ok w):β.le β:=⟨λ_ h=>h,rfl,rfl,rfl,aiu _,λk hk=>⟨(h.old k hk).1,rfl⟩⟩
def bU (P:Program) (β:Bs) (f:FuncId) (args:Array Value) (pre:List HP) (post:Bs->Value->List HP->Prop):Prop:=
 ∀(R:d9) w,aR β (pre++[.abs R]) w->Calls P f args w λe w'=>∃β' v l,β.le β'/\e=.returned v/\post β' v l/\aR β' (l++[.abs R]) w'
def Jz (β:Bs) (R:d9) (post:Bs->Value->List HP->Prop):Ending->World->Prop:=λe w'=>∃β' v l,β.le β'/\e=.returned v/\post β' v l/\aR β' (l++[.abs R]) w'
section afS
variable {P:Program} {β β':Bs} {N:fL} {n0:Nat} {ops:Array Oper} {k:Nat} {fr:Fr} {au R l:List HP} {Q:Post} {f:FuncId} {args:Array Value} {d:Option Tmp} {pre:List HP} {post:Bs->Value->List HP->Prop} {pk aq:List Nat} {c:Code} {fn:Func} {v:Value} {eV:List Prop} {w:World}
theorem bU.use (h:bU P β f args pre post) (hS:aR β (pre++R) w):Calls P f args w λe w'=>∃β' v l,β.le β'/\e=.returned v/\post β' v l/\aR β' (l++R) w':=
 (h _ w hS.ko).mono λ_ _ ⟨β',v,l,h0,h1,h2,h3⟩=>⟨β',v,l,h0,h1,h2,h3.x9⟩
theorem bU.mono {post':Bs->Value->List HP->Prop} (h:bU P β f args pre post) (hp:∀β' v l,β.le β'->post β' v l->post' β' v l):bU P β f args pre post':=
 λR w hS=>(h R w hS).mono λ_ _ ⟨β',v,l,h0,h1,h2,h3⟩=>⟨β',v,l,h0,h1,hp β' v l h0 h2,h3⟩
theorem ar.Uf (hc:∀ai,rC P β N ai ops fr k=some (f,args,d)) (hs:bU P β f args pre post) (hn:cC pk=true) (hp:cU au pk=some (pre++R))
 (K:∀β' v l,β.le β'->post β' v l->ar P β' N ops (k+1) (eT fr d v) (l++R) Q):ar P β N ops k fr au Q:=by
 intro ai w hS
 obtain⟨o,h1,h2,rfl,h3⟩:=CM (hc ai)
 rw [drop_cons h1]
 unfold wpList
 rw [ia,aik h2]
 refine .inl ?_
 unfold Oper.wp
 rw [jb,h3 w hS.nil,Oper.upon_enter]
 refine (hs.use (hS.pick hn hp)).mono ?_
 rintro e w' ⟨β',v,l,dL,rfl,lT,iA⟩
 show wpList _ _ _ _ ((fB N fr ai).put o.dst v) w'
 rw [ij]
 exact K β' v l dL lT ai w' iA
theorem bU.enter (hf:P.funcs[f]?=some fn) (hb:fn.body=some c) (hN:fn.ntmps=n0) (hl:args.toList.length<=n0) (h:β.le β->∀R:d9,ak P β ⟨n0,[]⟩ c (DC 0 args.toList) (pre++[.abs R]) (bodyPost P fn (Jz β R post))):bU P β f args pre post:=by
 intro R w hS
 refine calls_of_wp hf hb ?_
 rw [hN,Mn hl]
 exact h hS.1.acW R _ w hS
theorem ay.agF {R:d9} (hints:List Hint) (pk:List Nat) (dL:β.le β') (hr:∀ai,tD P β' ⟨n0,[]⟩ ai fn fr au hints=some (v,eV)) (ho:pJ eV) (hn:cC pk=true) (hp:cU au pk=some (l++[.abs R])) (lT:post β' v l) :
 ay β' ⟨n0,[]⟩ (bodyPost P fn (Jz β R post)) .ret fr au:=
 λai _ hS=>⟨rfl,v,zy (hr ai) ho hS,β',v,l,dL,rfl,lT,hS.pick hn hp⟩
theorem ay.adX {R:d9} {post:Value->List HP->Prop} (hints:List Hint) (pk:List Nat) (dL:β.le β') (hr:∀ai,tD P β' ⟨n0,[]⟩ ai fn fr au hints=some (v,eV)) (ho:pJ eV) (hn:cC pk=true) (hp:cU au pk=some (l++[.abs R])) (lT:post v l) :
 ay β' ⟨n0,[]⟩ (bodyPost P fn (Am β R post)) .ret fr au:=
 λai _ hS=>⟨rfl,v,zy (hr ai) ho hS,v,l,rfl,lT,(hS.pick hn hp).Jx dL⟩
def Oh (N:fL) {ι:Type} (bs:ι->Bs) (bO:ι->Prop) (μ:ι->Nat) (fr:ι->Fr) (hp:ι->List HP) (m:Nat):Act->World->Prop:=λa w=>∃i,bO i/\μ i<m/\∃ai,a=fB N (fr i) ai/\aR (bs i) (hp i) w
theorem ak.afT {ι:Type} (bs:ι->Bs) (bO:ι->Prop) (μ:ι->Nat) (bL:ι->Fr) (cR:ι->List HP) (i0:ι) (hb:bs i0=β) (h0:bO i0) (hf:∀ai,kJ fr ai aq=bL i0) (hn:cC pk=true) (hp:cU au pk=some (cR i0))
 (round:∀i,bO i->ak P (bs i) N c (bL i) (cR i) (Exit.then (Oh N bs bO μ bL cR (μ i)) Q)):ak P β N (.loop c) fr au Q:=by
 intro ai w hS
 subst hb
 refine wp_loop_ghost (λn a w=>∃i,bO i/\μ i=n/\∃ai,a=fB N (bL i) ai/\aR (bs i) (cR i) w) (μ i0) ⟨i0,h0,rfl,lk fr ai,by rw [og N fr ai aq,hf ai],hS.pick hn hp⟩ ?_
 rintro n a w ⟨i,hi,rfl,ai,rfl,hS⟩
 refine ajb (λe a w q=>?_) (round i hi ai w hS)
 cases e with
 |normal=>
   obtain⟨i',hi',fP,oy,e,iA⟩:=q
   exact⟨μ i',fP,i',hi',rfl,oy,e,iA⟩
 |exit id=>exact q
 |goto l=>exact q
 |ret=>exact q
 |panic ch=>exact q
 |outgrown=>exact q
theorem ay.afU {ι:Type} {bs:ι->Bs} {bO:ι->Prop} {μ:ι->Nat} {bL:ι->Fr} {cR:ι->List HP} {m:Nat} (i:ι) (hb:bs i=β) (hi:bO i) (hm:μ i<m) (hf:∀ai,kJ fr ai aq=bL i) (hn:cC pk=true) (hp:cU au pk=some (cR i)) :
 ay β N (Exit.then (Oh N bs bO μ bL cR m) Q) .normal fr au:=λai _ hS=>⟨i,hi,hm,lk fr ai,by rw [og N fr ai aq,hf ai],hb ▸ hS.pick hn hp⟩
end afS
section still
variable {P:Program} {β:Bs} {N:fL} {ai:Nat->Value} {ops:Array Oper} {n:Nat} {w:World}
theorem OD {hs:List OH}:∀{k k':Nat} {fr bL:Fr} {S S':SS},p8 P β n true N ai ops hs k fr S=some (k',bL,S')->k<=k':=by
 induction hs with
 |nil=>intro k k' fr bL S S' h;cases h;exact aiu _
 |cons h hs ih=>
   grind [p8]
theorem C9 {o:Oper} {k k':Nat} (h:ops.toList[k]?=some o) (hk:k<k'):(ops.toList.take k').drop k=o::(ops.toList.take k').drop (k+1):=by
 have h1:(ops.toList.take k')[k]?=some o:=by
  rw [List.getElem?_take,aik hk];exact h
 have h2:=dO h1
 rw [ai8 h2]
 grind
end still
theorem aU.quiet {P:Program} {β:Bs} {f:FuncId} {args:Array Value} {v:Value} (h:∀w,Calls P f args w λe w'=>e=.returned v/\w'=w):aU P β f args [] (λv' l=>v'=v/\l=[]):=
 λ_ w hS=>(h w).mono λ_ _ ⟨h1,h2⟩=>⟨v,[],h1,⟨rfl,rfl⟩,h2 ▸ hS⟩
def lq (P:Program) (β:Bs) (N:fL) (ops:Array Oper) (n k:Nat) (fr:Fr) (au:List HP) (Q:Post):Prop:=
 ∀ai w,aR β au w->wpStill P ops w (λa'=>wpList P ops Q (ops.toList.drop n) a' w) ((ops.toList.take n).drop k) (fB N fr ai)
section heads
variable {P:Program} {β:Bs} {N:fL} {ops:Array Oper} {n k k':Nat} {fr bL:Fr} {au:List HP} {Q:Post} {eV:List Prop} {d:Option Tmp} {op:Op} {v:Value} {i:Nat}
theorem vW {ai:Nat->Value} {w:World} {m:Nat} {Q:Act->Prop}:∀{hs:List OH} {k k':Nat} {fr bL:Fr} {S S':SS},p8 P β m true N ai ops hs k fr S=some (k',bL,S')->(∀p,p∈S'.eV->p)->S.used=true->aR β S.au w->k'<=n →
 wpStill P ops w Q ((ops.toList.take n).drop k') (fB N bL ai)->wpStill P ops w Q ((ops.toList.take n).drop k) (fB N fr ai)
 |[],k,k',fr,bL,S,S',h,ho,hu,hS,hn,hK=>by cases h;exact hK
 |h::hs,k,k',fr,bL,S,S',hr,ho,hu,hS,hn,hK=>by
   unfold p8 at hr
   split at hr
   ·cases hr
   rename_i o hget
   have hk:k<n:=by
    refine aiG ?_ hn
    split at hr
    ·split at hr
     ·exact OD hr
     cases hr
    exact OD hr
   rw [C9 hget hk]
   unfold wpStill
   have hw:Region.wanted o (yielded ops (fB N fr ai).tmps)=Region.wanted o (yF ops N fr ai):=by
    have:yielded ops (fB N fr ai).tmps=yF ops N fr ai:=funext (Og ops N fr ai)
    rw [this]
   rw [hw]
   split at hr
   ·rename_i Jt
    rw [aik Jt]
    split at hr
    ·rename_i v S1 h0
     obtain⟨e1,e2⟩:=zU h0
     obtain⟨w',h1,h2,h3,h4⟩:=qC h0 (λp hp=>ho p (x7 hr p hp)) hS (λe=>by rw [hu] at e;cases e)
     obtain⟨ew,e⟩:=h4 rfl
     rw [ew] at h1 h2
     unfold Oper.still
     rw [jb]
     rcases h1 with h1|⟨h1,h1'⟩
     ·rw [h1,Oper.stillUpon_value,ij]
      exact vW hr ho (e2.trans hu) h2 hn hK
     subst h1
     rw [h1',Oper.stillUpon_skip,ij]
     exact vW hr ho (e2.trans hu) h2 hn hK
    cases hr
   rename_i hwf
   rw [aij (by simp [hwf])]
   rw [ij]
   exact vW hr ho hu hS hn hK
theorem ak.xQ {id:Nat} (n:Nat) (hm:P.follows .mixedOrders=true) (hB:Region.lexTailB .any ops n=true) (h:lq P β N ops n 0 fr au Q):ak P β N (.region id ops true) fr au Q:=by
 intro ai w hS
 obtain⟨ops⟩:=ops
 exact wp_region_still_tail n hm hB (h ai (w.drewN 1) (hS.drewN 1))
theorem lq.seg (hs:List OH) (aq:List Nat) (h:∀m ai,nV P β m true N ai ops hs k fr au aq (List.range au.length)=some (k',bL,au,eV)) (ho:pJ eV) (hk:k'<=n) (K:lq P β N ops n k' bL au Q):lq P β N ops n k fr au Q:=by
 intro ai w hS
 obtain⟨sQ,S,h1,h2,h3,h4,h5⟩:=Ig (h 0 ai)
 have hK:=K (lk sQ ai) w hS
 rw [h4,←og] at hK
 exact vW h1 (λp hp=>ho.mem (h5 ▸ hp)) rfl hS hk hK
theorem lq.done (hk:k=n) (K:ar P β N ops n fr au Q):lq P β N ops n k fr au Q:=by
 intro ai w hS
 subst hk
 have e:(ops.toList.take k).drop k=[]:=Pe
 rw [e]
 exact K ai w hS
theorem lq.oh (bW:∀ai,iY N ai ops fr k=some (op,d)) (hk:k<n) (h:∀(o:Oper) ai w,o.op=op->aR β au w->tv P (eW N fr ai) o w v w) (K:lq P β N ops n (k+1) (eT fr d v) au Q):lq P β N ops n k fr au Q:=by
 intro ai w hS
 obtain⟨o,h1,h2,h3,rfl⟩:=iU (bW ai)
 rw [C9 h1 hk]
 unfold wpStill
 rw [ia,aik h2]
 unfold Oper.still
 rw [jb]
 have hK:=K ai w hS
 rw [←ij] at hK
 rcases h o ai w h3 hS with h4|⟨h4,h4'⟩
 ·rw [h4,Oper.stillUpon_value];exact hK
 subst h4
 rw [h4',Oper.stillUpon_skip];exact hK
section maps
open Go.Maps
variable {t K E:TypeId} {b cnt:Nat} {f:Lit->Option Value} {x ix:Operand} {key z:Value} {kl:Lit} {r:Option Value}
theorem lq.C8 (i:Nat) {ats:Array TypeId} (bW:∀ai,iY N ai ops fr k=some (.call ⟨.builtin .len,#[x],ats⟩,d)) (hp:au[i]?=some (.abs (bM P K b f cnt))) (hx:∀ai,eW N fr ai x=.map (some b)) (Ar:ats=#[t]) (ht:P.underlying t=some (.map K E))
 (hk:k<n) (K':lq P β N ops n (k+1) (eT fr d (.int .i64 ((cnt:Nat):Int))) au Q):lq P β N ops n k fr au Q:=
 lq.oh bW hk (λ_ ai _ ho hS=>Gl ho Ar (bM.get hS hp) (hx ai) ht) K'
end maps
end heads
end
section
open Go.RowKit Go.Maps
open Go.ChangeMaps (setBlock)
theorem Lg (w:World) (r:Nat) (o:Obj):cF (·=r) w (setBlock w r o):=
 ⟨rfl,rfl,rfl,by simp [setBlock],λk _ hk=>by
  show (w.heap.setIfInBounds r o)[k]?=_
  rw [Array.getElem?_setIfInBounds_ne (λe=>hk e.symm)]⟩
theorem OE {w:World} {r:Nat} {o o':Obj} (h:w.heap[r]?=some o'):(setBlock w r o).heap[r]?=some o:=by
 have:=lt_of_some h
 show (w.heap.setIfInBounds r o)[r]?=_
 rw [Array.getElem?_setIfInBounds_self_of_lt this]
def DF (r:Nat) (s:ByteArray) (pos:Nat):d9 where
 h F w:=w.heap[r]?=some (.stringIter s pos)/\∀k,F k↔k=r
 lt:=Pe
 st:=by rintro F w ⟨h,hF⟩ S w' hk hn;exact⟨(hk.block r (lt_of_some h) (hn r ((hF r).2 rfl))).trans h,hF⟩
def Lh (P:Program) (b r:Nat) (t:Value) (w:World):Prop:=
 ∃w0:World,w0.heap[b]?=w.heap[b]?/\w0.heap[r]?=w.heap[r]?/\(Instr.entry (.pointer (some ⟨r,0,none⟩))).run P w0=.ok t w0
theorem Lh.run {P:Program} {b r:Nat} {t:Value} {w:World} {es:Array MapEntry} {clock since c0:Nat} {seen:Array Nat} (h:Lh P b r t w) (hb:w.heap[b]?=some (.map es clock)) (hr:w.heap[r]?=some (.mapIter (some b) since seen c0)) :
 (Instr.entry (.pointer (some ⟨r,0,none⟩))).run P w=.ok t w:=by
 obtain⟨w0,h1,h2,h3⟩:=h
 rw [hb] at h1
 rw [hr] at h2
 simp only [Instr.entry,getObj,Sem.run_bind,Sem.run,h2,hr,Result.andThen] at h3 ⊢
 cases hs:seen.back? with
 |none=>simp [hs,stuck] at h3
 |some st=>
   simp only [hs,Sem.run_bind,Sem.run,h1,hb,Result.andThen] at h3 ⊢
   by_cases hc:(clock != c0)=true
   ·simp [hc,unsupported,Sem.run,Result.andThen] at h3
   simp only [hc,Bool.false_eq_true,if_false] at h3 ⊢
   cases hf:es.find? (λe=>e.born == st) with
   |none=>simp [hf,unsupported] at h3
   |some e=>
     simp [hf] at h3 ⊢
     exact h3
structure SF (P:Program) (K:TypeId) (w:World) (b r:Nat) (f:Lit->Option Value) (n:Nat) (left:Lit->Bool) (cnt:Nat) (last:Option Value) (D:DataW Value):Prop where
 rg:w.ranges P K zw b r n D left cnt
 sz:Maps.size D=n
 has:∀kl,Maps.has D kl=(f kl).isSome
 at_:∀kl v,f kl=some v->∀z,D.atKey kl z=.held v
 sub:∀kl,left kl=true->(f kl).isSome=true
 last:∀t,last=some t->Lh P b r t w
def oG (P:Program) (K:TypeId) (b r:Nat) (f:Lit->Option Value) (n:Nat) (left:Lit->Bool) (cnt:Nat) (last:Option Value):d9 where
 h F w:=(∃D,SF P K w b r f n left cnt last D)/\∀k,F k↔(k=b\/k=r)
 lt:=by
  rintro F w ⟨⟨D,h⟩,hF⟩ k hk
  rcases (hF k).1 hk with rfl|rfl
  ·exact h.rg.owns.lt
  exact h.rg.lt
 st:=by
  rintro F w ⟨⟨D,h⟩,hF⟩ S w' hk hn
  have hb:=hk.block b h.rg.owns.lt (hn b ((hF b).2 (.inl rfl)))
  have hr:=hk.block r h.rg.lt (hn r ((hF r).2 (.inr rfl)))
  refine⟨⟨D,?_,h.sz,h.has,h.at_,h.sub,λt ht=>?_⟩,hF⟩
  ·obtain⟨es,clock,since,seen,c0,e1,e2,e3,e4,e5,e6⟩:=h.rg
   exact⟨es,clock,since,seen,c0,hb.trans e1,e2,e3,e4,hr.trans e5,e6⟩
  obtain⟨w0,h1,h2,h3⟩:=h.last t ht
  exact⟨w0,h1.trans hb.symm,h2.trans hr.symm,h3⟩
section rules
variable {P:Program} {β:Bs} {N:fL} {ops:Array Oper} {k:Nat} {fr bL:Fr} {au eX:List HP} {Q:Post} {d:Option Tmp} {op:Op} {v:Value} {t K E:TypeId} {x:Operand} {s:ByteArray} {b r pos i n cnt:Nat} {f:Lit->Option Value} {left:Lit->Bool} {last:Option Value}
theorem ar.OG (bW:∀ai,iY N ai ops fr k=some (.range t x,d)) (hx:∀ai,eW N fr ai x=.string s) (ht:P.underlying t=some .string) (K':∀r,ar P β N ops (k+1) (eT fr d (.pointer (some ⟨r,0,none⟩))) (au++[.abs (DF r s 0)]) Q):ar P β N ops k fr au Q:=by
 refine ar.Lf (ι:=Nat) (v:=λr=>.pointer (some ⟨r,0,none⟩)) (cR:=λr=>au++[.abs (DF r s 0)]) bW (λo ai w ho hS=>⟨w.heap.size,w.iter s 0,.inl ?_,?_⟩) K'
 ·obtain⟨dst,op,type,pos,after,guard⟩:=o
  cases ho
  simp only [execOp,hx]
  simp [go_sem,ht]
 exact hS.new (F:=λk=>k=w.heap.size) ⟨World.iter_heap w s 0,λ_=>Iff.rfl⟩ ((cF.refl _ _).alloc _) (λk e=>Nat.le_of_eq e.symm)
theorem ar.SG (i:Nat) (bW:∀ai,iY N ai ops fr k=some (.next x true,d)) (hp:au[i]?=some (.abs (DF r s pos))) (hx:∀ai,eW N fr ai x=.pointer (some ⟨r,0,none⟩)) (fP:pos<s.size)
 (K':ar P β N ops (k+1) (eT fr d (.tuple #[.bool true,.int .i64 pos,.int .i32 (Utf8.decode s pos).1])) (au.set i (.abs (DF r s (pos+(Utf8.decode s pos).2)))) Q):ar P β N ops k fr au Q:=by
 refine ar.oh bW (λo ai w ho hS=>?_) K'
 obtain⟨F,hF⟩:=hS.get hp
 refine⟨setBlock w r (.stringIter s (pos+(Utf8.decode s pos).2)),.inl ?_,hS.set hp (λF hF=>⟨F,⟨OE hF.1,hF.2⟩,(Lg w r _).mono (λ_ _ e=>(hF.2 _).2 e),λ_ h=>.inl h⟩)⟩
 have hr:=hF.1
 obtain⟨dst,op,type,pos',after,guard⟩:=o
 cases ho
 simp only [execOp,hx]
 simp [go_sem,Instr.next,getObj,setObj,Sem.run,hr,fP,setBlock,goInt]
theorem ar.V5 (i:Nat) (bW:∀ai,iY N ai ops fr k=some (.next x true,d)) (hp:au[i]?=some (.abs (DF r s pos))) (hx:∀ai,eW N fr ai x=.pointer (some ⟨r,0,none⟩)) (fP:¬pos<s.size)
 (K':ar P β N ops (k+1) (eT fr d (.tuple #[.bool false])) au Q):ar P β N ops k fr au Q:=by
 refine ar.oh bW (λo ai w ho hS=>⟨w,.inl ?_,hS⟩) K'
 obtain⟨F,hF⟩:=hS.get hp
 have hr:=hF.1
 obtain⟨dst,op,type,pos',after,guard⟩:=o
 cases ho
 simp only [execOp,hx]
 simp [go_sem,Instr.next,getObj,setObj,Sem.run,hr,fP]
theorem ar.mapRange (i:Nat) (bW:∀ai,iY N ai ops fr k=some (.range t x,d)) (hp:au[i]?=some (.abs (bM P K b f n))) (hx:∀ai,eW N fr ai x=.map (some b)) (L:Keyed P K) (ht:P.underlying t=some (.map K E))
 (K':∀r,ar P β N ops (k+1) (eT fr d (.pointer (some ⟨r,0,none⟩))) (au.set i (.abs (oG P K b r f n (λkl=>(f kl).isSome) n none))) Q):ar P β N ops k fr au Q:=by
 refine ar.Lf (ι:=Nat) (v:=λr=>.pointer (some ⟨r,0,none⟩)) (cR:=λr=>au.set i (.abs (oG P K b r f n (λkl=>(f kl).isSome) n none))) bW (λo ai w ho hS=>?_) K'
 obtain⟨D,h1,h2,h3,h4⟩:=bM.get hS hp
 obtain⟨w',hrun,r1,r2,r3⟩:=h1.range L ht
 refine⟨w.heap.size,w',.inl ?_,hS.set hp (λF hF=>⟨λk=>k=b\/k=w.heap.size,⟨⟨D,?_,h2,h3,h4,λ_ h=>h,λ_ h=>by cases h⟩,λ_=>Iff.rfl⟩,(cF.refl _ _).grown r2 (λ_ h=>by cases h),λk hk=>?_⟩)⟩
 ·obtain⟨dst,op,type,pos',after,guard⟩:=o
  cases ho
  simp only [execOp,hx]
  simp [hrun,Result.andThen]
 ·rw [←h2]
  have e:Maps.has D=λkl=>(f kl).isSome:=funext h3
  rw [e] at r1
  rw [h2] at r1 ⊢
  exact r1
 rcases hk with rfl|rfl
 ·exact .inl ((hF.2 _).2 rfl)
 exact .inr (aiu _)
theorem oG.map {w:World} {D:DataW Value} (h:SF P K w b r f n left cnt last D):kI P K w b f n:=⟨D,h.rg.owns,h.sz,h.has,h.at_⟩
theorem ar.mapNext (i:Nat) (bW:∀ai,iY N ai ops fr k=some (.next x false,d)) (hp:au[i]?=some (.abs (oG P K b r f n left cnt last))) (hx:∀ai,eW N fr ai x=.pointer (some ⟨r,0,none⟩)) (L:Keyed P K) (hK:P.underlying K=some (.int .i64))
 (afV:cnt=0->(∀kl,left kl=false)->ar P β N ops (k+1) (eT fr d (.tuple #[.bool false])) au Q)
 (afW:∀(z:Int) (u:Value) (cnt':Nat),left (.int .i64 z)=true->f (.int .i64 z)=some u->(Lit.int .i64 z).wf=true->cnt'<cnt →
  ar P β N ops (k+1) (eT fr d (.tuple #[.bool true,.int .i64 z,u])) (au.set i (.abs (oG P K b r f n (λkl=>left kl && !kl.sameKey (.int .i64 z)) cnt' (some (.tuple #[.int .i64 z,u]))))) Q):ar P β N ops k fr au Q:=by
 intro ai w hS
 obtain⟨F,⟨D,h⟩,hF⟩:=hS.get hp
 obtain⟨o,h1,h2,h3,rfl⟩:=iU (bW ai)
 rcases h.rg.next L o.type with ⟨e0,el,hrun⟩|⟨key,u,kl,y,w',cnt',mO,eu,hv,hat,hrun,hrg,fP,hgr,eG,hen⟩
 ·have hk:=afV e0 el ai w hS
  rw [drop_cons h1]
  unfold wpList
  rw [ia,aik h2]
  refine .inl (qD (v:=.tuple #[.bool false]) (w':=w) (.inl ?_) (by rw [ij];exact hk))
  rw [jb]
  obtain⟨dst,op,type,pos',after,guard⟩:=o
  cases h3
  simp only [execOp,hx]
  simp at hrun
  simp [hrun,Result.andThen]
 obtain⟨z,rfl,rfl,hwf⟩:=Maps.keyOf_int_inv hK mO
 have hsome:=h.sub _ eu
 obtain⟨u',hu'⟩:=Option.isSome_iff_exists.1 hsome
 have e1:=h.at_ _ _ hu' (.held u')
 rw [hat] at e1
 have e2:y.1=.held u:=by
  unfold zw at hv
  cases hv
  rfl
 rw [e2] at e1
 cases e1
 have hk:=afW z u cnt' eu hu' hwf fP ai w' (hS.set hp (λF hF=>⟨F,⟨⟨D,hrg,h.sz,h.has,h.at_,λkl hl=>h.sub kl (by simp at hl;exact hl.1),λt ht=>by cases ht;exact⟨w',rfl,rfl,hen⟩⟩,hF.2⟩,(cF.refl (λk=>F k) w).grown hgr (λj hj=>by cases hj;exact .inr ((hF.2 _).2 (.inr rfl))),λ_ h=>.inl h⟩))
 rw [drop_cons h1]
 unfold wpList
 rw [ia,aik h2]
 refine .inl (qD (v:=.tuple #[.bool true,.int .i64 z,u]) (w':=w') (.inl ?_) (by rw [ij];exact hk))
 rw [jb]
 obtain⟨dst,op,type,pos',after,guard⟩:=o
 cases h3
 simp only [execOp,hx]
 simp at hrun
 simp [hrun,Result.andThen]
theorem ar.mapEntry (i:Nat) (bW:∀ai,iY N ai ops fr k=some (.entry x,d)) (hp:au[i]?=some (.abs (oG P K b r f n left cnt (some v)))) (hx:∀ai,eW N fr ai x=.pointer (some ⟨r,0,none⟩))
 (K':ar P β N ops (k+1) (eT fr d v) au Q):ar P β N ops k fr au Q:=by
 refine ar.oh bW (λo ai w ho hS=>⟨w,.inl ?_,hS⟩) K'
 obtain⟨F,⟨D,h⟩,hF⟩:=hS.get hp
 have hl:=h.last _ rfl
 obtain⟨es,clock,since,seen,c0,e1,e2,e3,e4,e5,e6⟩:=h.rg
 have hrun:=hl.run e1 e5
 obtain⟨dst,op,type,pos',after,guard⟩:=o
 cases ho
 simp only [execOp,hx]
 simp [hrun,Result.andThen]
theorem oG.getM {w:World} (hS:aR β au w) (hp:au[i]?=some (.abs (oG P K b r f n left cnt last))):kI P K w b f n:=by
 obtain⟨F,⟨D,h⟩,hF⟩:=hS.get hp
 exact oG.map h
theorem ar.G5 {ix:Operand} {key z:Value} {kl:Lit} {u:Option Value} (i:Nat) (bW:∀ai,iY N ai ops fr k=some (.lookup t x ix true,d)) (hp:au[i]?=some (.abs (oG P K b r f n left cnt last))) (hx:∀ai,eW N fr ai x=.map (some b)) (fC:∀ai,eW N fr ai ix=key) (L:Keyed P K)
 (ht:P.underlying t=some (.map K E)) (hz:∀w,(zeroValue E).run P w=.ok z w) (mO:keyOf P K key=some kl) (hr:f kl=u) (K':ar P β N ops (k+1) (eT fr d (.tuple #[u.getD z,.bool u.isSome])) au Q):ar P β N ops k fr au Q:=by
 subst hr
 exact ar.oh bW (λo ai w ho hS=>⟨w,Jv ho (oG.getM hS hp) (hx ai) (fC ai) L ht (hz w) mO,hS⟩) K'
theorem ar.Za (i:Nat) {ats:Array TypeId} (bW:∀ai,iY N ai ops fr k=some (.call ⟨.builtin .len,#[x],ats⟩,d)) (hp:au[i]?=some (.abs (oG P K b r f n left cnt last))) (hx:∀ai,eW N fr ai x=.map (some b)) (Ar:ats=#[t]) (ht:P.underlying t=some (.map K E))
 (K':ar P β N ops (k+1) (eT fr d (.int .i64 ((n:Nat):Int))) au Q):ar P β N ops k fr au Q:=
 ar.oh bW (λ_ ai w ho hS=>⟨w,Gl ho Ar (oG.getM hS hp) (hx ai) ht,hS⟩) K'
end rules
end
section
open Go.RowKit
theorem N6 (z:Value) (n:Nat):(madeCells #[z] (n*1)).toList=List.replicate n z:=by
 rw [Nat.mul_one]
 apply List.ext_getElem
 ·simp [madeCells]
 intro j h1 h2
 simp [madeCells,Nat.mod_one]
section make
variable {P:Program} {β:Bs} {N:fL} {ops:Array Oper} {k:Nat} {fr:Fr} {au:List HP} {Q:Post} {d:Option Tmp}
theorem ar.Zb {t e:TypeId} {z:Value} {bytes n:Nat} {l c:Operand} (bW:∀ai,iY N ai ops fr k=some (.makeSlice t l c,d)) (hl:∀ai,eW N fr ai l=.int .i64 ((n:Nat):Int)) (hc:∀ai,eW N fr ai c=.int .i64 ((n:Nat):Int))
 (ht:P.underlying t=some (.slice e)) (sj:(P.info? e).map (λi=>(i.zero,i.size,i.bytes))=some (some z,1,bytes)) (hzs:z.cells=#[z]) (hn:n<=16777216) (hb:bytes*n<=281474976710656)
 (K':∀b,ar P β N ops (k+1) (eT fr d (.slice (some ⟨b,0,none⟩) n n)) (au++[.abs (aF e 1 (some ⟨b,0,none⟩) n n (List.replicate n z))]) Q):ar P β N ops k fr au Q:=by
 obtain⟨inf,hi,hz,hsize,hby⟩:∃inf,P.info? e=some inf/\inf.zero=some z/\inf.size=1/\inf.bytes=bytes:=by
  cases h:P.info? e with
  |none=>rw [h] at sj;cases sj
  |some inf=>rw [h] at sj;simp at sj;exact⟨inf,rfl,sj.1,sj.2.1,sj.2.2⟩
 refine ar.Lf (ι:=Nat) (v:=λb=>.slice (some ⟨b,0,none⟩) n n) (cR:=λb=>au++[.abs (aF e 1 (some ⟨b,0,none⟩) n n (List.replicate n z))]) bW (λo ai w ho hS=>?_) K'
 obtain⟨w',h1,h2,h3⟩:=run_makeSlice_full (P:=P) w 0 t e inf z 1 ht hi hz hsize .i64 .i64 n zc (by rw [hby];exact hb) (by unfold maxLen;omega) (aio _)
 rw [hzs,N6] at h2
 refine⟨w.heap.size,w',.inl ?_,hS.new (F:=λk=>k=w.heap.size) ⟨h2,λj=>by simp [Value.ownBlock,eq_comm]⟩ ((cF.refl _ _).grown h3 (λ_ h=>by cases h)) (λk e=>Nat.le_of_eq e.symm)⟩
 obtain⟨dst,op,type,pos,after,guard⟩:=o
 cases ho
 simp only [execOp,hl,hc]
 simp [h1,Result.andThen]
end make
section mark
variable {P:Program} {β:Bs} {N:fL} {ops:Array Oper} {k:Nat} {fr:Fr} {au:List HP} {Q:Post} {d:Option Tmp}
end mark
section adds
variable {P:Program} {β:Bs} {N:fL} {ops:Array Oper} {e0 k:Nat} {fr:Fr} {au:List HP} {Q:Post} {d:Option Tmp} {t t2:TypeId} {x y:Operand} {a b:ByteArray}
end adds
theorem aF.cellAt {e:TypeId} {A:Option Addr} {size n cap i j:Nat} {xs:List Value} {u:Value} (hi:i<n) (hj:xs[i*size+j]?=some u):∀F w,(aF e size A n cap xs).h F w->w.cell? ⟨bG A,bE A+i*size+j,none⟩=some u:=by
 intro F w h
 obtain⟨g,rfl⟩:=aF.head h zc
 have:=aF.cell hj F w h
 grind [aF,bG,bE]
def vX (a b:ByteArray):Int:=Lib.compareBytes a.data.toList b.data.toList
theorem Mp:∀a:List UInt8,Lib.compareBytes a a=0
 |[]=>rfl
 |a::r=>by
   have h:¬a<a:=by intro h;exact ain h (by simp)
   simp only [Lib.compareBytes,aij h]
   exact Mp r
theorem Mq:∀{a b:List UInt8},Lib.compareBytes a b=0->a=b
 |[],[],_=>rfl
 |[],_::_,h=>by simp [Lib.compareBytes] at h
 |_::_,[],h=>by simp [Lib.compareBytes] at h
 |a::x,b::y,h=>by
   unfold Lib.compareBytes at h
   split at h
   ·cases h
   rename_i h1
   split at h
   ·cases h
   rename_i h2
   have e:a=b:=by
    apply aiX.1
    have h3:¬a.toNat<b.toNat:=λh=>h1 (UInt8.lt_iff_toNat_lt.2 h)
    have h4:¬b.toNat<a.toNat:=λh=>h2 (UInt8.lt_iff_toNat_lt.2 h)
    omega
   rw [e,Mq h]
theorem Mr:∀{a b:List UInt8},Lib.compareBytes a b<0↔Op.bytesLess a b=true
 |[],[]=>by simp [Lib.compareBytes,Op.bytesLess]
 |[],_::_=>by simp [Lib.compareBytes,Op.bytesLess]
 |_::_,[]=>by simp [Lib.compareBytes,Op.bytesLess]
 |a::x,b::y=>by
   unfold Lib.compareBytes Op.bytesLess
   by_cases h1:a<b
   ·simp [h1]
   by_cases h2:b<a
   ·have h3:¬a=b:=λe=>by subst e;exact h1 h2
    simp [h1,h2,h3]
   have e:a=b:=by
    apply aiX.1
    have h3:¬a.toNat<b.toNat:=λh=>h1 (UInt8.lt_iff_toNat_lt.2 h)
    have h4:¬b.toNat<a.toNat:=λh=>h2 (UInt8.lt_iff_toNat_lt.2 h)
    omega
   subst e
   simp only [h1,if_false,decide_false,beq_self_eq_true,Bool.true_and,Bool.false_or]
   exact Mr
theorem JA:∀{a b c:List UInt8},Lib.compareBytes a b<0->Lib.compareBytes b c<=0->Lib.compareBytes a c<0
 |[],[],_,h,_=>by simp [Lib.compareBytes] at h
 |[],_::_,[],_,h=>by simp [Lib.compareBytes] at h
 |[],_::_,_::_,_,_=>by simp [Lib.compareBytes]
 |_::_,[],_,h,_=>by simp [Lib.compareBytes] at h
 |_::_,_::_,[],_,h=>by simp [Lib.compareBytes] at h
 |a::x,b::y,c::z,h,g=>by
   unfold Lib.compareBytes at h g ⊢
   by_cases h1:a<b
   ·by_cases g1:b<c
    ·have:a<c:=by rw [UInt8.lt_iff_toNat_lt] at *;omega
     simp [this]
    by_cases g2:c<b
    ·simp [g1,g2] at g
    have e:b=c:=by
     apply aiX.1
     rw [UInt8.lt_iff_toNat_lt] at *
     omega
    subst e
    simp [h1]
   by_cases h2:b<a
   ·simp [h1,h2] at h
   have e:a=b:=by
    apply aiX.1
    rw [UInt8.lt_iff_toNat_lt] at *
    omega
   subst e
   simp only [h1,if_false] at h
   by_cases g1:a<c
   ·simp [g1]
   by_cases g2:c<a
   ·simp [g1,g2] at g
   simp only [g1,g2,if_false] at g ⊢
   exact JA h g
theorem Ms:∀{a b:List UInt8},Lib.compareBytes b a = - Lib.compareBytes a b
 |[],[]=>rfl
 |[],_::_=>rfl
 |_::_,[]=>rfl
 |a::x,b::y=>by
   unfold Lib.compareBytes
   by_cases h1:a<b
   ·have h2:¬b<a:=by rw [UInt8.lt_iff_toNat_lt] at *;omega
    simp [h1,h2]
   by_cases h2:b<a
   ·simp [h1,h2]
   simp only [h1,h2,if_false]
   exact Ms
theorem Mt (a:ByteArray):vX a a=0:=Mp _
theorem Mu {a b:ByteArray}:vX a b=0↔a=b:=by
 refine⟨λh=>?_,λh=>by rw [h];exact Mt b⟩
 have:=Mq h
 obtain⟨⟨a⟩⟩:=a
 obtain⟨⟨b⟩⟩:=b
 have this:a=b:=this
 rw [this]
theorem JB {a b c:ByteArray} (h:vX a b<0) (g:vX b c<=0):vX a c<0:=JA h g
theorem ES (a b:ByteArray):vX b a = - vX a b:=Ms
def NP (Q:Post):Post:=λe a w=>match e with
 |.normal=>Q .normal a w
 |_=>False
section order
variable {P:Program} {ops:Array Oper} {Q Q':Post} {n:Nat} {S:World->Prop}
theorem vY (h:LetsOut (NP Q)):False:=by
 obtain⟨a,w,h⟩:=h
 exact h
theorem Oi {o:Oper} {a:Act} {w:World} {K:Act->World->Prop} (h:o.wp P a w K (NP Q)):o.wp P a w K (NP Q'):=by
 unfold Oper.wp at *
 generalize (execOp a.eval o).run P w=r at *
 cases r with
 |ok m w'=>
   cases m<;>simp only [Oper.upon] at h ⊢ <;>
    first
     |exact h
     |exact Calls.mono h (λe w'' he=>by cases e<;>first|exact he|exact (vY he).elim)
 |halt x w'=>cases x<;>simp only [Oper.upon] at h ⊢;exact h
theorem vZ {i:Nat} {o:Oper} {a:Act} {w:World} {K:Act->World->Prop} (hi:ops[i]?=some o) (hg:o.guard=none) (h:wpList P #[o] (NP λ_ a w=>K a w) [o] a w):wpOp P ops (NP Q) i K a w:=by
 unfold wpOp
 simp only [hi]
 have hw:∀y,Region.wanted o y=true:=λy=>by unfold Region.wanted;rw [hg]
 rw [aik (hw _)]
 unfold wpList at h
 rw [aik (hw _)] at h
 rcases h with h|⟨_,h⟩
 ·exact .inl (Oi (Oper.wp_mono (λa w h=>h) h))
 exact (vY h).elim
theorem BL {o:Oper} {a:Act} {w:World} (hq:∀a w,Q .normal a w->Q' .normal a w) (h:wpList P ops (NP Q) [o] a w):wpList P ops (NP Q') [o] a w:=by
 unfold wpList at *
 split
 ·rename_i hw
  rw [aik hw] at h
  rcases h with h|⟨_,h⟩
  ·exact .inl (Oi (Oper.wp_mono (λa w h=>hq a w h) h))
  exact (vY h).elim
 rename_i hw
 rw [aij hw] at h
 exact hq _ _ h
def yc (P:Program) (ops:Array Oper) (Q:Post) (n:Nat) (S:World->Prop):Nat->Array Bool->Act->World->Prop
 |0,bP,a,w=>Region.ready .any ops bP=[]/\Q .normal a w
 |fuel+1,bP,a,w=>(Region.ready .any ops bP=[]->Q .normal a w) ∧
   ∀i∈Region.ready .any ops bP,wpOp P ops Q i (λa' w'=>(i=n\/S w')/\yc P ops Q n S fuel (bP.setIfInBounds i true) a' w') a w
theorem tY:∀(fuel:Nat) (bP:Array Bool) (a:Act) (w:World),yc P ops Q n S fuel bP a w->wpAny P .any ops Q fuel bP a w
 |0,_,_,_,h=>h
 |fuel+1,_,_,_,h=>⟨h.1,λi hi=>wpOp_mono (λa' w' h'=>tY fuel _ a' w' h'.2) (h.2 i hi)⟩
def Closed (ops:Array Oper) (bP:Array Bool):Prop:=∀j oj,ops[j]?=some oj->bP.getD j false=true->∀e∈oj.after,Region.binds .any e=true->bP.getD e.on false=true
theorem Closed.set {bP:Array Bool} {j:Nat} (h:Closed ops bP) (hj:j∈Region.ready .any ops bP):Closed ops (bP.setIfInBounds j true):=by
 obtain⟨_,oj,hoj,jW⟩:=mem_ready.1 hj
 intro k ok hk hl e he hb
 refine getD_set_true ?_
 by_cases hjk:j=k
 ·grind
 rw [getD_set_ne false hjk] at hl
 exact h k ok hk hl e he hb
theorem Mv (hs:Region.sinkB .any ops n=true) {bP:Array Bool} (hc:Closed ops bP):∀(m i:Nat),n-i<=m->i<n->bP.getD i false=false->n∉Region.ready .any ops bP
 |0,i,hm,hi,_=>zc
 |m+1,i,hm,hi,hu=>λhr=>by
   unfold Region.sinkB at hs
   rw [List.all_eq_true] at hs
   have h1:=hs i (List.mem_range.2 hi)
   rw [List.any_eq_true] at h1
   obtain⟨j,hj,h2⟩:=h1
   rw [aiJ,decide_eq_true_iff] at h2
   have hj:=List.mem_range.1 hj
   obtain⟨oj,hoj,e,he,hb,heq⟩:=Region.waitsFor_spec h2.2
   by_cases hjn:j=n
   ·subst hjn
    obtain⟨_,oj',adY,jW⟩:=mem_ready.1 hr
    rw [hoj] at adY
    cases adY
    have:=jW e he hb
    rw [heq,hu] at this
    cases this
   cases hl:bP.getD j false with
   |true=>
     have:=hc j oj hoj hl e he hb
     rw [heq,hu] at this
     cases this
   |false=>exact Mv (by unfold Region.sinkB;rw [List.all_eq_true];exact hs) hc m j zc zc hl hr
theorem zi {bP:Array Bool} {i:Nat} (h:i∈Region.ready .any ops bP):bP.getD i false=false:=by
 have h1:=(mem_ready.1 h).1
 grind
theorem Au {i:Nat} {oi:Oper} {v:Value} (hi:ops[i]?=some oi) (hsel:Region.noSelect ops=true) (qE:Region.sinkB .any ops n=true) (hin:i<n) :
 ∀(fuel:Nat) (bP:Array Bool) (a:Act) (w:World),Closed ops bP →
   (∀j oj,ops[j]?=some oj->j≠i->bP.getD j true=false->(∀e∈oj.after,Region.binds .any e=true->e.on≠i)->oi.apart ops oj=true) →
   i∈Region.ready .any ops bP->YieldsIf P ops S oi v a->S w →
   yc P ops (NP Q) n S fuel (bP.setIfInBounds i true) (a.put oi.dst v) w->yc P ops (NP Q) n S (fuel+1) bP a w:=by
 intro fuel
 induction fuel with
 |zero=>
   intro bP a w _ _ hr hy hS H
   refine⟨λh=>(by rw [h] at hr;cases hr),λj hj=>?_⟩
   by_cases hji:j=i
   ·subst hji;exact hy.wpOp hi hS ⟨.inr hS,H⟩
   have:=ready_mono hj hji
   rw [H.1] at this
   cases this
 |succ fuel ih=>
   intro bP a w hcl hfree hr hy hS H
   refine⟨λh=>(by rw [h] at hr;cases hr),λj hj=>?_⟩
   by_cases hji:j=i
   ·subst hji;exact hy.wpOp hi hS ⟨.inr hS,H⟩
   have h1:=H.2 j (ready_mono hj hji)
   have hjn:j≠n:=λe=>by
    subst e
    exact Mv qE hcl _ i (aiu _) hin (zi hr) hj
   obtain⟨hjun,oj,hoj,jW⟩:=mem_ready.1 hj
   have hnot:∀e∈oj.after,Region.binds .any e=true->e.on≠i:=λe he hb heq=>by
    grind [zi]
   have h2:=wpOp_putIf (S:=S) (Q:=NP Q) hoj (hfree j oj hoj hji hjun hnot) (λcs b=>Region.noSelect_spec hsel i oi cs b hi) (λcs b=>Region.noSelect_spec hsel j oj cs b hoj) (λ_ _ _ h=>h) hy h1
   have hfree':∀k ok,ops[k]?=some ok->k≠i->(bP.setIfInBounds j true).getD k true=false →
    (∀e∈ok.after,Region.binds .any e=true->e.on≠i)->oi.apart ops ok=true:=λk ok hk hki hun iV=>by
    refine hfree k ok hk hki ?_ iV
    by_cases hjk:j=k
    ·subst hjk;exact hjun
    rw [getD_set_ne true hjk] at hun;exact hun
   refine wpOp_mono (λa' w' h3=>?_) h2
   have iA:S w':=h3.2.1.resolve_left hjn
   refine⟨.inr iA,ih (bP.setIfInBounds j true) a' w' (hcl.set hj) hfree' (ready_mono hr (Ne.symm hji)) h3.1 iA ?_⟩
   rw [Array.setIfInBounds_comm _ _ hji]
   exact h3.2.2
def uS (P:Program) (ops:Array Oper) (Q:Post) (S:World->Prop):Nat->List Nat->Act->World->Prop
 |_,[],a,w=>Q .normal a w
 |0,i::l,a,w=>wpOp P ops Q i (λa' w'=>(l=[]\/S w')/\uS P ops Q S 0 l a' w') a w
 |r+1,i::l,a,w=>∃o v,ops[i]?=some o/\YieldsIf P ops S o v a/\uS P ops Q S r l (a.put o.dst v) w
def DG (ops:Array Oper) (n:Nat):Nat->List Nat->Array Bool->Bool
 |_,[],bP=>(Region.ready .any ops bP).isEmpty
 |0,i::l,bP=>(Region.ready .any ops bP == [i]) && (!l.isEmpty || i == n) && DG ops n 0 l (bP.setIfInBounds i true)
 |r+1,i::l,bP=>decide (i<n) && Region.free .any ops bP i && (Region.ready .any ops bP).contains i && DG ops n r l (bP.setIfInBounds i true)
theorem Mw (hsel:Region.noSelect ops=true):∀(l:List Nat) (bP:Array Bool) (a:Act) (w:World),DG ops n 0 l bP=true->uS P ops (NP Q) S 0 l a w->yc P ops (NP Q) n S l.length bP a w
 |[],bP,a,w,hb,h=>⟨List.isEmpty_iff.1 hb,h⟩
 |i::l,bP,a,w,hb,h=>by
   unfold DG at hb
   simp only [aiJ,ajd] at hb
   obtain⟨⟨h1,h2⟩,h3⟩:=hb
   refine⟨λh0=>(by rw [h1] at h0;cases h0),λj hj=>?_⟩
   rw [h1] at hj
   have hj:j=i:=by simpa using hj
   subst hj
   refine wpOp_mono (λa' w' h4=>⟨?_,Mw hsel l _ a' w' h3 h4.2⟩) h
   rcases h4.1 with h5|h5
   ·subst h5;exact .inl (by simpa using h2)
   exact .inr h5
theorem Li (hsel:Region.noSelect ops=true) (qE:Region.sinkB .any ops n=true):∀(r:Nat) (l:List Nat) (bP:Array Bool) (a:Act) (w:World),DG ops n r l bP=true->Closed ops bP->S w->uS P ops (NP Q) S r l a w->yc P ops (NP Q) n S l.length bP a w
 |0,l,bP,a,w,hb,_,_,h=>Mw hsel l bP a w hb h
 |r+1,[],bP,a,w,hb,_,_,h=>⟨List.isEmpty_iff.1 hb,h⟩
 |r+1,i::l,bP,a,w,hb,hc,hS,h=>by
   unfold DG at hb
   simp only [aiJ,decide_eq_true_iff] at hb
   obtain⟨⟨⟨h1,h2⟩,h3⟩,h4⟩:=hb
   obtain⟨o,v,ho,hy,hk⟩:=h
   have hr:i∈Region.ready .any ops bP:=by simpa using h3
   exact Au ho hsel qE h1 l.length bP a w hc (Region.free_spec ho h2) hr hy hS (Li hsel qE r l _ _ w h4 (hc.set hr) hS hk)
def ET (ops:Array Oper) (perm:List Nat) (nr:Nat):Bool:=
 Region.noSelect ops && Region.sinkB .any ops (ops.size-1) && (perm.length == ops.size) && DG ops (ops.size-1) nr perm (Array.replicate ops.size false)
end order
section mix
variable {P:Program} {β:Bs} {N:fL} {ops:Array Oper} {S:List HP} {r r':Nat} {l l':List Nat} {fr bL:Fr} {au:List HP} {Q:Post} {eV:List Prop} {d:Option Tmp} {op:Op} {v:Value} {i:Nat} {pk:List Nat}
def bZ (P:Program) (β:Bs) (N:fL) (ops:Array Oper) (S:List HP) (r:Nat) (l:List Nat) (fr:Fr) (au:List HP) (Q:Post):Prop:=
 ∀ai w,aR β au w->uS P ops (NP Q) (aR β S) r l (fB N fr ai) w
theorem ak.V6 {id:Nat} (perm:List Nat) (nr:Nat) (pk:List Nat) (hm:P.follows .mixedOrders=true) (hB:ET ops perm nr=true) (hn:cC pk=true) (hp:cU au pk=some S) (h:bZ P β N ops S nr perm fr au Q):ak P β N (.region id ops true) fr au Q:=by
 intro ai w hS
 unfold ET at hB
 simp only [aiJ,ajd] at hB
 obtain⟨⟨⟨h1,h2⟩,h3⟩,h4⟩:=hB
 have iA:=hS.drewN 1
 have h5:=Li (Q:=Q) h1 h2 nr perm _ _ _ h4 (λj oj _ hl=>by simp [Array.getD_eq_getD_getElem?,Array.getElem?_replicate] at hl;split at hl<;>simp at hl) (iA.pick hn hp) (h ai (w.drewN 1) iA)
 rw [h3] at h5
 refine ajb (λe a w q=>?_) (wp_region_any hm (tY _ _ _ _ h5))
 cases e with
 |normal=>exact q
 |exit id=>exact q.elim
 |goto l=>exact q.elim
 |ret=>exact q.elim
 |panic ch=>exact q.elim
 |outgrown=>exact q.elim
def Da:Value->Bool
 |.tuple a=>decide (a.size≠0)
 |_=>true
theorem vB {v:Value} (h:Da v=true):¬v=undef:=λe=>by subst e;exact ain h (by decide)
def Db (P:Program) (β:Bs) (N:fL) (ai:Nat->Value) (ops:Array Oper):List OH->List Nat->Fr->SS->Option (Fr×SS)
 |[],[],fr,S=>some (fr,S)
 |h::hs,i::is,fr,S=>
   match ops[i]? with
   |some o=>
     match o.guard with
     |none=>
       match Al P β 0 true (eW N fr ai) o h S with
       |some (v,S')=>
         match Da v with
         |true=>Db P β N ai ops hs is (eT fr o.dst v) S'
         |false=>none
       |none=>none
     |some _=>none
   |none=>none
 |_,_,_,_=>none
def Gm (P:Program) (β:Bs) (N:fL) (ai:Nat->Value) (ops:Array Oper) (hs:List OH) (is:List Nat) (fr:Fr) (S:List HP) (aq:List Nat):Option (Fr×List Prop):=
 match Db P β N ai ops hs is fr ⟨[],S,[],true⟩ with
 |some (bL,S')=>some (kJ bL ai aq,S'.eV)
 |none=>none
theorem JC {ai:Nat->Value}:∀{hs:List OH} {is:List Nat} {fr bL:Fr} {S S':SS},Db P β N ai ops hs is fr S=some (bL,S')->∀p,p∈S.eV->p∈S'.eV
 |[],[],fr,bL,S,S',h,p,hp=>by cases h;exact hp
 |h::hs,i::is,fr,bL,S,S',hr,p,hp=>by
   unfold Db at hr
   repeat' split at hr
   all_goals first|(cases hr;done)|skip
   rename_i h0 _ _
   exact JC hr p (Ie h0 p hp)
 |[],_::_,_,_,_,_,h,_,_=>by cases h
 |_::_,[],_,_,_,_,h,_,_=>by cases h
theorem EU {ai:Nat->Value} {w:World}:∀{hs:List OH} {is:List Nat} {fr bL:Fr} {T T':SS},Db P β N ai ops hs is fr T=some (bL,T')->(∀p,p∈T'.eV->p)->T.used=true->T.au=S →
 uS P ops (NP Q) (aR β S) r l (fB N bL ai) w->uS P ops (NP Q) (aR β S) (is.length+r) (is++l) (fB N fr ai) w
 |[],[],fr,bL,T,T',h,ho,hu,hT,hK=>by cases h;simpa using hK
 |h::hs,i::is,fr,bL,T,T',hr,ho,hu,hT,hK=>by
   unfold Db at hr
   repeat' split at hr
   all_goals first|(cases hr;done)|skip
   rename_i o hget _ adZ _ v T1 h0 _ hv
   obtain⟨e1,e2⟩:=zU h0
   have e:(i::is).length+r=(is.length+r)+1:=by simp;omega
   rw [e,aiT]
   unfold uS
   refine⟨o,v,hget,.inl ⟨by unfold Region.wanted;rw [adZ],λw' iA=>?_⟩,?_⟩
   ·rw [jb]
    obtain⟨w2,h1,_,_,h4⟩:=qC h0 (λp hp=>ho p (JC hr p hp)) (by rw [hT];exact iA) (λe=>by rw [hu] at e;cases e)
    obtain⟨ew,_⟩:=h4 rfl
    rw [ew] at h1
    rcases h1 with h1|⟨h1,_⟩
    ·exact h1
    exact ain h1 (vB hv)
   rw [ij]
   exact EU hr ho (e2.trans hu) (e1.trans hT) hK
 |[],_::_,_,_,_,_,h,_,_,_,_=>by cases h
 |_::_,[],_,_,_,_,h,_,_,_,_=>by cases h
theorem bZ.reads (is:List Nat) (hs:List OH) (aq:List Nat) (h:∀ai,Gm P β N ai ops hs is fr S aq=some (bL,eV)) (ho:pJ eV) (hr:r'=is.length+r) (hl:l'=is++l) (K:bZ P β N ops S r l bL au Q):bZ P β N ops S r' l' fr au Q:=by
 intro ai w hS
 subst hr hl
 have h0:=h ai
 unfold Gm at h0
 split at h0
 ·rename_i sQ S1 h1
  cases h0
  have hK:=K (lk sQ ai) w hS
  rw [←og] at hK
  exact EU h1 (λp hp=>ho.mem hp) rfl rfl hK
 cases h0
def V7 (ops:Array Oper) (i:Nat):Option (Op×Option Tmp):=match ops[i]? with
 |some o=>match o.guard with
   |none=>some (o.op,o.dst)
   |some _=>none
 |none=>none
theorem Zc (h:V7 ops i=some (op,d)):∃o,ops[i]?=some o/\o.guard=none/\o.op=op/\o.dst=d:=by
 grind [V7]
theorem bZ.afX (bW:V7 ops i=some (op,d)) (h:∀(o:Oper) ai w,o.op=op->aR β S w->tv P (eW N fr ai) o w v w) (hv:Da v=true) (K:bZ P β N ops S r l (eT fr d v) au Q):bZ P β N ops S (r+1) (i::l) fr au Q:=by
 intro ai w hS
 obtain⟨o,h1,h2,h3,rfl⟩:=Zc bW
 unfold uS
 refine⟨o,v,h1,.inl ⟨by unfold Region.wanted;rw [h2],λw' iA=>?_⟩,?_⟩
 all_goals grind [jb,vB,ij,V7,aR,tv,eW,Da,bZ,eT]
def G6 (β:Bs) (N:fL) {ι:Type} (fr:ι->Fr) (hp:ι->List HP):Post:=λ_ a w=>∃i ai,a=fB N (fr i) ai/\aR β (hp i) w
theorem bZ.cut {ι:Type} {bL:ι->Fr} {cR:ι->List HP} {o:Oper} (pk:List Nat) (bW:ops[i]?=some o) (hg:o.guard=none) (h:ar P β N #[o] 0 fr au (NP (G6 β N bL cR))) (hn:cC pk=true) (hp:∀j,cU (cR j) pk=some S)
 (K:∀j,bZ P β N ops S 0 l (bL j) (cR j) Q):bZ P β N ops S 0 (i::l) fr au Q:=by
 intro ai w hS
 unfold uS
 refine vZ bW hg ?_
 have h1:=h ai w hS
 have h2:wpList P #[o] (NP (G6 β N bL cR)) [o] (fB N fr ai) w:=h1
 refine BL (λa w ⟨j,oy,ha,iA⟩=>?_) h2
 subst ha
 exact⟨.inr (iA.pick hn (hp j)),K j oy w iA⟩
theorem bZ.last {o:Oper} (bW:ops[i]?=some o) (hg:o.guard=none) (h:ar P β N #[o] 0 fr au (NP Q)):bZ P β N ops S 0 [i] fr au Q:=by
 grind [uS,vZ,NP,fB,BL,ar,bZ]
theorem ay.mid {ι:Type} {bL:ι->Fr} {cR:ι->List HP} (j:ι) {aq pk:List Nat} (hf:∀ai,kJ fr ai aq=bL j) (hn:cC pk=true) (hp:cU au pk=some (cR j)):ay β N (NP (G6 β N bL cR)) .normal fr au:=
 λai _ hS=>⟨j,lk fr ai,by rw [og N fr ai aq,hf ai],hS.pick hn hp⟩
theorem ay.np (h:ay β N Q .normal fr au):ay β N (NP Q) .normal fr au:=λai w hS=>h ai w hS
section maps
open Go.Maps
variable {t K E:TypeId} {b cnt:Nat} {f:Lit->Option Value} {x ix:Operand} {key z:Value} {kl:Lit} {q:Option Value}
theorem bZ.jj (p:Nat) (bW:V7 ops i=some (.lookup t x ix false,d)) (hp:S[p]?=some (.abs (bM P K b f cnt))) (hx:∀ai,eW N fr ai x=.map (some b)) (fC:∀ai,eW N fr ai ix=key) (L:Keyed P K)
 (ht:P.underlying t=some (.map K E)) (hz:∀w,(zeroValue E).run P w=.ok z w) (mO:keyOf P K key=some kl) (hr:f kl=q) (hv:Da (q.getD z)=true) (K':bZ P β N ops S r l (eT fr d (q.getD z)) au Q):bZ P β N ops S (r+1) (i::l) fr au Q:=by
 subst hr
 exact bZ.afX bW (λ_ ai w ho hS=>DE ho (bM.get hS hp) (hx ai) (fC ai) L ht (hz w) mO) hv K'
end maps
end mix
structure OP where
 h:OH
 ps:List Prop
 pf:pJ ps
def n_:OP:=⟨o_,[],trivial⟩
def a_ (i b:Nat):OP:=⟨⟨[.at i],none,none,none,none⟩,[b=b],rfl,trivial⟩
def v_ {A:d9} {a:Addr} {v:Value} (i:Nat) (h:∀F w,A.h F w->w.cell? a=some v):OP:=⟨⟨[.view i v],none,none,none,none⟩,[∀F w,A.h F w->w.cell? a=some v],h,trivial⟩
def w_ {v:Value} (v':Value) (h:v=v'):OP:=⟨⟨[],none,none,none,some v'⟩,[v=v'],h,trivial⟩
def Ug {α:Type} (x:α):Nat->List α
 |0=>[]
 |n+1=>x::Ug x n
theorem ad0 {p:Prop} (h:p):∀n,pJ (Ug p n)
 |0=>trivial
 |n+1=>⟨h,ad0 h n⟩
def A_ (i b n:Nat):OP:=⟨⟨Ug (.at i) n,none,none,none,none⟩,Ug (b=b) n,ad0 rfl n⟩
def wI (x y:Int) (h:x=y:=by first|rfl|omega) (lo:-9223372036854775808<=y:=by omega) (hi:y<=9223372036854775807:=by omega):OP:=w_ (.int .i64 y) (vV h lo hi)
def p_ (h:OH) (ps:List Prop) (pf:pJ ps):OP:=⟨h,ps,pf⟩
def dU:Nat->List (Nat×OP)->Nat->List OP
 |0,_,_=>[]
 |n+1,l,i=>(match l with
   |(j,p)::r=>match Nat.beq i j with
     |true=>p::dU n r (i+1)
     |false=>n_::dU n l (i+1)
   |[]=>n_::dU n [] (i+1))
def owed:List OP->List Prop
 |[]=>[]
 |p::r=>owed r++p.ps
def dJ:List OP->List OH
 |[]=>[]
 |p::r=>p.h::dJ r
theorem pJ.app:∀{l r:List Prop},pJ l->pJ r->pJ (l++r)
 |[],_,_,h=>h
 |_::_,_,h,g=>⟨h.1,pJ.app h.2 g⟩
theorem uX:∀l:List OP,pJ (owed l)
 |[]=>trivial
 |p::r=>(uX r).app p.pf
def cE:Fr->List Nat
 |[]=>[]
 |p::r=>p.1::cE r
def qh (t:Nat):List Nat->Bool
 |[]=>false
 |i::r=>match Nat.beq i t with
   |true=>true
   |false=>qh t r
def vC (ops:Array Oper):Nat->Nat->List Nat->List Nat->Bool
 |0,_,_,_=>true
 |n+1,k,add,fr=>(match ops.toList[k]? with
   |some o=>match o.dst with
     |some d=>match qh d add with
       |true=>true
       |false=>!qh d fr
     |none=>true
   |none=>true) && vC ops n (k+1) add fr
section fr
variable {P:Program} {β:Bs} {N:fL} {ops:Array Oper} {fr bL add:Fr} {ai:Nat->Value} {t:Nat} {v:Value}
theorem uz:∀{l:List Nat},qh t l=true↔t∈l
 |[]=>by simp [qh]
 |i::r=>by
   unfold qh
   by_cases h:i=t
   ·subst h;simp [Nat.beq_refl]
   have:Nat.beq i t=false:=by
    cases hb:Nat.beq i t
    ·rfl
    exact ain (Nat.eq_of_beq_eq_true hb) h
   rw [this,aiA,uz (l:=r)]
   exact⟨.inr,λe=>e.elim (λe=>ain e.symm h) id⟩
theorem Ax:∀{fr:Fr},t∉cE fr->lk fr ai t=ai t
 |[],_=>rfl
 |p::r,h=>by
   rw [show p::r=(p.1,p.2)::r from rfl,mB,aij (λe=>h (by rw [←e];exact aiw)),Ax (λe=>h (aiv _ e))]
theorem JD:∀{add fr:Fr},lk (add++fr) ai t=if t∈cE add then lk add ai t else lk fr ai t
 |[],fr=>by simp [cE]
 |(i,v)::r,fr=>by
   have e:cE ((i,v)::r)=i::cE r:=rfl
   rw [aiT,mB,mB,JD (add:=r),e]
   by_cases h:i=t
   ·rw [aik h,aik h,aik (by rw [h];exact aiw)]
   rw [aij h,aij h]
   by_cases h2:t∈cE r
   ·rw [aik h2,aik (aiv _ h2)]
   rw [aij h2,aij (λe=>Pe)]
theorem Oj:∀{fr:Fr} {j j':Nat->Value},t∈cE fr->lk fr j t=lk fr j' t
 |p::r,j,j',h=>by
   rw [show p::r=(p.1,p.2)::r from rfl,mB,mB]
   by_cases e:p.1=t
   ·rw [aik e,aik e]
   rw [aij e,aij e]
   rcases aiA.1 h with h|h
   ·exact ain h.symm e
   exact Oj h
theorem JE:∀(aq:List Nat),cE (kJ fr ai aq)=aq
 |[]=>rfl
 |i::r=>ail (i::·) (JE r)
theorem DH {n:Nat} {ro:Bool} {add:List Nat} {fr0:List Nat}:∀{hs:List OH} {k k':Nat} {fr bL:Fr} {S S':SS},p8 P β n ro N ai ops hs k fr S=some (k',bL,S')->vC ops hs.length k add fr0=true->t∈fr0->t∉add->lk bL ai t=lk fr ai t
 |[],k,k',fr,bL,S,S',h,_,_,_=>by cases h;rfl
 |h::hs,k,k',fr,bL,S,S',hr,hb,h0,ha=>by
   unfold p8 at hr
   have hb:vC ops (hs.length+1) k add fr0=true:=hb
   unfold vC at hb
   rw [aiJ] at hb
   split at hr
   ·cases hr
   rename_i o hget
   have key:∀v,lk (eT fr o.dst v) ai t=lk fr ai t:=λv=>by
    cases hd:o.dst with
    |none=>rfl
    |some d=>
      show lk ((d,v)::fr) ai t=_
      rw [mB,aij]
      intro e
      subst e
      have h1:=hb.1
      rw [hget] at h1
      simp only [hd] at h1
      cases h2:qh d add with
      |true=>exact ha (uz.1 h2)
      |false=>
        rw [h2] at h1
        rw [uz.2 h0] at h1
        cases h1
   split at hr
   ·split at hr
    ·exact (DH hr hb.2 h0 ha).trans (key _)
    cases hr
   exact (DH hr hb.2 h0 ha).trans (key _)
theorem OI {aq:List Nat} {n:Nat} {ro:Bool} {hs:List OH} {k k':Nat} {sQ:Fr} {S S':SS} (h:p8 P β n ro N ai ops hs k fr S=some (k',sQ,S')) (hb:vC ops hs.length k aq (cE fr)=true):fB N sQ ai=fB N (kJ sQ ai aq++fr) (lk sQ ai):=by
 unfold fB
 have:(List.range N.n).map (lk sQ ai)=(List.range N.n).map (lk (kJ sQ ai aq++fr) (lk sQ ai)):=aiW (λt _=>by
  rw [JD,JE]
  by_cases h1:t∈aq
  ·rw [aik h1,Ic]
  rw [aij h1]
  by_cases h2:t∈cE fr
  ·rw [Oj (j':=ai) h2,DH h hb h2 h1]
  rw [Ax h2])
 rw [this]
end fr
theorem Ay:∀{n i:Nat} {l:List (Nat×OP)},(dJ (dU n l i)).length=n
 |0,_,_=>rfl
 |n+1,i,l=>by
   unfold dU
   split
   ·split
    ·exact ail (·+1) (Ay (n:=n))
    exact ail (·+1) (Ay (n:=n))
   exact ail (·+1) (Ay (n:=n))
def tZ (l:List HP):List (Nat×HP)->List HP
 |[]=>l
 |(i,p)::r=>tZ (l.set i p) r
def ad1:List Value->List (Nat×Value)->List Value
 |cs,[]=>cs
 |cs,(j,u)::r=>ad1 (cs.set j u) r
def agG (ds:List (Nat×Value)):HP->HP
 |.ax b cs T=>.ax b (ad1 cs ds) T
 |p=>p
def OJ:List HP->List (Nat×HP)->List HP
 |au,[]=>au
 |au,(i,p)::r=>OJ (au.set i p) r
def ad2 (ds:List (Nat×Value)):List HP->Nat->List HP
 |[],_=>[]
 |p::r,0=>agG ds p::r
 |p::r,i+1=>p::ad2 ds r i
def kq:List HP->List (Nat×List (Nat×Value))->List HP
 |l,[]=>l
 |l,(i,ds)::r=>kq (ad2 ds l i) r
def vD:Nat->Nat->List Nat
 |0,_=>[]
 |n+1,i=>i::vD n (i+1)
section rules
variable {P:Program} {β:Bs} {N:fL} {ops:Array Oper} {k:Nat} {fr:Fr} {au:List HP} {Q:Post}
theorem gW (n:Nat) (add:Nat->Fr) (l:Nat->List (Nat×OP)) (eX:Nat->List HP) (K:∀b,ar P β N ops (k+n) (add b++fr) (eX b) Q)
 (h:∀b ai,nV P β b false N ai ops (dJ (dU n (l b) 0)) k fr au (cE (add b)) (vD (eX b).length 0)=some (k+n,add b,eX b,owed (dU n (l b) 0)))
 (hb:∀b,vC ops n k (cE (add b)) (cE fr)=true):ar P β N ops k fr au Q:=by
 intro ai w hS
 obtain⟨sQ,S,h1,h2,h3,h4,h5⟩:=Ig (h w.heap.size ai)
 refine CJ h1 (λp hp=>(uX (dU n (l w.heap.size) 0)).mem (h5 ▸ hp)) hS (λ_=>rfl) (λw' iA=>?_)
 have hk:=K w.heap.size (lk sQ ai) w' (iA.pick h2 h3)
 grind [OI,Ay]
theorem gN (n:Nat) (add:Nat->Fr) (l:Nat->List (Nat×OP)) (ds:Nat->List (Nat×List (Nat×Value))) (new:Nat->HP) (K:∀b,ar P β N ops (k+n) (add b++fr) (kq au (ds b)++[new b]) Q)
 (h:∀b ai,nV P β b false N ai ops (dJ (dU n (l b) 0)) k fr au (cE (add b)) (vD (kq au (ds b)++[new b]).length 0)=some (k+n,add b,kq au (ds b)++[new b],owed (dU n (l b) 0)):=by intro _ _;kernel_rfl)
 (hb:∀b,vC ops n k (cE (add b)) (cE fr)=true:=by intro _;kernel_rfl):ar P β N ops k fr au Q:=gW n add l _ K h hb
theorem gC (n:Nat) (add:Fr) (l:List (Nat×OP)) (ds:List (Nat×List (Nat×Value))) (K:ar P β N ops (k+n) (add++fr) (kq au ds) Q)
 (h:∀b ai,nV P β b false N ai ops (dJ (dU n l 0)) k fr au (cE add) (vD (kq au ds).length 0)=some (k+n,add,kq au ds,owed (dU n l 0)):=by intro _ _;kernel_rfl)
 (hb:vC ops n k (cE add) (cE fr)=true:=by kernel_rfl):ar P β N ops k fr au Q:=
 gW n (λ_=>add) (λ_=>l) (λ_=>kq au ds) (λ_=>K) h (λ_=>hb)
theorem ar.gA (ds:List (Nat×HP)) (h:∀w,aR β au w->aR β (OJ au ds) w) (K:ar P β N ops k fr (OJ au ds) Q):ar P β N ops k fr au Q:=ar.mem h K
theorem ay.gA {e:Exit} (ds:List (Nat×HP)) (h:∀w,aR β au w->aR β (OJ au ds) w) (K:ay β N Q e fr (OJ au ds)):ay β N Q e fr au:=ay.mem h K
theorem gK (n:Nat) (add:Fr) (l:List (Nat×OP)) (K:ar P β N ops (k+n) (add++fr) au Q)
 (h:∀b ai,nV P β b false N ai ops (dJ (dU n l 0)) k fr au (cE add) (vD au.length 0)=some (k+n,add,au,owed (dU n l 0)):=by intro _ _;kernel_rfl)
 (hb:vC ops n k (cE add) (cE fr)=true:=by kernel_rfl):ar P β N ops k fr au Q:=gW n (λ_=>add) (λ_=>l) (λ_=>au) (λ_=>K) h (λ_=>hb)
theorem gQ (n:Nat) (add:Fr) (l:List (Nat×OP)) (K:bN P β N ops (k+n) (add++fr) au Q)
 (h:∀b ai,nV P β b true N ai ops (dJ (dU n l 0)) k fr au (cE add) (vD au.length 0)=some (k+n,add,au,owed (dU n l 0)):=by intro _ _;kernel_rfl)
 (hb:vC ops n k (cE add) (cE fr)=true:=by kernel_rfl):bN P β N ops k fr au Q:=by
 intro ai
 obtain⟨sQ,S,h1,h2,h3,h4,h5⟩:=Ig (h 0 ai)
 refine CK h1 (λp hp=>(uX (dU n l 0)).mem (h5 ▸ hp)) rfl (λ_=>?_)
 have hk:=K (lk sQ ai)
 grind [OI,Ay]
theorem NL (K:ay β N Q .normal fr au) (h:ops.toList.drop k=[]:=by kernel_rfl):ar P β N ops k fr au Q:=ar.nil h K
theorem NQ (K:ay β N Q .normal fr au) (h:ops.toList.drop k=[]:=by kernel_rfl):bN P β N ops k fr au Q:=bN.nil h K
variable {c x y z:Code} {o:Operand} {id id':Nat} {lU:Array Oper} {e:Exit}
theorem SR {f:Bool} (h:ar P β N lU 0 fr au (Exit.then (y.wp P Q) Q)) (hf:f=false:=by rfl):ak P β N (.seq (.region id lU f) y) fr au Q:=by
 subst hf;exact ak.seq (ak.region h)
theorem NX (h:ak P β N y fr au Q):ay β N (Exit.then (y.wp P Q) Q) .normal fr au:=ay.next h
theorem NN (K:ak P β N y fr au Q) (h:ops.toList.drop k=[]:=by kernel_rfl):ar P β N ops k fr au (Exit.then (y.wp P Q) Q):=NL (NX K) h
theorem NS {f:Bool} (K:ar P β N lU 0 fr au (Exit.then (y.wp P Q) Q)) (h:ops.toList.drop k=[]:=by kernel_rfl) (hf:f=false:=by rfl):ar P β N ops k fr au (Exit.then ((Code.seq (.region id lU f) y).wp P Q) Q):=NN (SR K hf) h
theorem CT (ht:ak P β N x fr au Q) (h:∀ai,eW N fr ai o=.bool true:=by intro _;kernel_rfl):ak P β N (.cond o x y) fr au Q:=ak.afO h ht
theorem CF (hf:ak P β N y fr au Q) (h:∀ai,eW N fr ai o=.bool false:=by intro _;kernel_rfl):ak P β N (.cond o x y) fr au Q:=ak.afP h hf
def mo (pre:List Nat) (l:List HP):Nat->List HP
 |i=>match l with
   |[]=>[]
   |p::r=>match qh i pre with
     |true=>mo pre r (i+1)
     |false=>p::mo pre r (i+1)
def oO (pre:List Nat):Nat->Nat->List Nat
 |0,_=>[]
 |n+1,i=>match qh i pre with
   |true=>oO pre n (i+1)
   |false=>i::oO pre n (i+1)
def jE (ops:Array Oper) (k:Nat):Option Tmp:=match ops.toList[k]? with
 |some o=>o.dst
 |none=>none
variable {f:FuncId} {args:Array Value} {pre:List HP} {post:Value->List HP->Prop}
theorem gL (ix:List Nat) (hs:aU P β f args pre post) (K:∀v l,post v l->ar P β N ops (k+1) (eT fr (jE ops k) v) (l++mo ix au 0) Q)
 (hc:∀ai,rC P β N ai ops fr k=some (f,args,jE ops k):=by intro _;kernel_rfl) (hn:cC (ix++oO ix au.length 0)=true:=by kernel_rfl) (hp:cU au (ix++oO ix au.length 0)=some (pre++mo ix au 0):=by kernel_rfl):ar P β N ops k fr au Q:=
 ar.call hc hs hn hp K
variable {R:d9} {fn:Func} {l:List HP} {v:Value}
theorem RT {n0:Nat} (v:Value) (pk:List Nat) (lT:post v l) (hr:∀ai,tD P β ⟨n0,[]⟩ ai fn fr au []=some (v,[]):=by intro _;kernel_rfl) (hn:cC pk=true:=by kernel_rfl) (hp:cU au pk=some (l++[.abs R]):=by kernel_rfl) :
 ay β ⟨n0,[]⟩ (bodyPost P fn (Am β R post)) .ret fr au:=ay.ret [] pk hr trivial hn hp lT
theorem RF {n0:Nat} (v:Value) (pk:List Nat) (lT:post v l) (hr:∀ai,tD P β ⟨n0,[]⟩ ai fn fr au []=some (v,[]):=by intro _;kernel_rfl) (hn:cC pk=true:=by kernel_rfl) (hp:cU au pk=some (l++[.abs R]):=by kernel_rfl) :
 ay β ⟨n0,[]⟩ (bodyPost P fn (Am β R post)) .normal fr au:=ay.fin [] pk hr trivial hn hp lT
theorem MD {ι:Type} {bL:ι->Fr} {cR:ι->List HP} (j:ι) (aq pk:List Nat) (hf:∀ai,kJ fr ai aq=bL j:=by intro _;kernel_rfl) (hn:cC pk=true:=by kernel_rfl) (hp:cU au pk=some (cR j):=by kernel_rfl):ay β N (NP (G6 β N bL cR)) .normal fr au:=ay.mid j hf hn hp
variable {S:List HP} {i:Nat} {lm:List Nat} {o':Oper}
theorem EV {ι:Type} {bL:ι->Fr} {cR:ι->List HP} (j:ι):ay β N (NP (G6 β N bL cR)) .normal (bL j) (cR j):=λai _ hS=>⟨j,ai,rfl,hS⟩
theorem mC (pk:List Nat) (add:Fr) (l':List (Nat×OP)) (ds:List (Nat×List (Nat×Value))) (K:bZ P β N ops S 0 lm (add++fr) (kq au ds) Q) (bW:ops[i]?=some o':=by rfl) (hg:o'.guard=none:=by rfl)
 (h:∀b ai,nV P β b false N ai #[o'] (dJ (dU 1 l' 0)) 0 fr au (cE add) (vD (kq au ds).length 0)=some (0+1,add,kq au ds,owed (dU 1 l' 0)):=by intro _ _;kernel_rfl)
 (hb:vC #[o'] 1 0 (cE add) (cE fr)=true:=by kernel_rfl) (hn:cC pk=true:=by kernel_rfl) (hp:cU (kq au ds) pk=some S:=by kernel_rfl):bZ P β N ops S 0 (i::lm) fr au Q:=
 bZ.cut (ι:=Unit) (bL:=λ_=>add++fr) (cR:=λ_=>kq au ds) pk bW hg (gC 1 add l' ds (ar.nil rfl (EV ())) h hb) hn (λ_=>hp) (λ_=>K)
theorem mN (pk:List Nat) (add:Nat->Fr) (l':Nat->List (Nat×OP)) (new:Nat->HP) (K:∀b,bZ P β N ops S 0 lm (add b++fr) (au++[new b]) Q) (bW:ops[i]?=some o':=by rfl) (hg:o'.guard=none:=by rfl)
 (h:∀b ai,nV P β b false N ai #[o'] (dJ (dU 1 (l' b) 0)) 0 fr au (cE (add b)) (vD (au++[new b]).length 0)=some (0+1,add b,au++[new b],owed (dU 1 (l' b) 0)):=by intro _ _;kernel_rfl)
 (hb:∀b,vC #[o'] 1 0 (cE (add b)) (cE fr)=true:=by intro _;kernel_rfl) (hn:cC pk=true:=by kernel_rfl) (hp:∀b,cU (au++[new b]) pk=some S:=by intro _;kernel_rfl):bZ P β N ops S 0 (i::lm) fr au Q:=
 bZ.cut (ι:=Nat) (bL:=λb=>add b++fr) (cR:=λb=>au++[new b]) pk bW hg (gW 1 add l' (λb=>au++[new b]) (λb=>ar.nil rfl (EV (bL:=λb=>add b++fr) (cR:=λb=>au++[new b]) b)) h hb) hn hp K
theorem mL (pk ix:List Nat) (hs:aU P β f args pre post) (K:∀v l,post v l->bZ P β N ops S 0 lm (eT fr (jE #[o'] 0) v) (l++mo ix au 0) Q) (hp:∀v l,post v l->cU (l++mo ix au 0) pk=some S) (bW:ops[i]?=some o':=by rfl) (hg:o'.guard=none:=by rfl)
 (hc:∀ai,rC P β N ai #[o'] fr 0=some (f,args,jE #[o'] 0):=by intro _;kernel_rfl) (hn':cC (ix++oO ix au.length 0)=true:=by kernel_rfl) (cR:cU au (ix++oO ix au.length 0)=some (pre++mo ix au 0):=by kernel_rfl) (hn:cC pk=true:=by kernel_rfl):bZ P β N ops S 0 (i::lm) fr au Q:=
 bZ.cut (ι:={x:Value×List HP // post x.1 x.2}) (bL:=λj=>eT fr (jE #[o'] 0) j.1.1) (cR:=λj=>j.1.2++mo ix au 0) pk bW hg (gL ix hs (λv l hv=>ar.nil rfl (EV (bL:=λj:{x:Value×List HP // post x.1 x.2}=>eT fr (jE #[o'] 0) j.1.1) (cR:=λj=>j.1.2++mo ix au 0) ⟨(v,l),hv⟩)) hc hn' cR) hn (λj=>hp _ _ j.2) (λj=>K _ _ j.2)
end rules
section order
variable {P:Program} {ops:Array Oper} {Q Q':Post} {n:Nat} {S:World->Prop}
def lF (P:Program) (ops:Array Oper) (Q:Post) (S:World->Prop):List (Bool×Nat)->Act->World->Prop
 |[],a,w=>Q .normal a w
 |(false,i)::l,a,w=>wpOp P ops Q i (λa' w'=>(l=[]\/S w')/\lF P ops Q S l a' w') a w
 |(true,i)::l,a,w=>∃o v,ops[i]?=some o/\YieldsIf P ops S o v a/\lF P ops Q S l (a.put o.dst v) w
def DI (ops:Array Oper) (n:Nat):List (Bool×Nat)->Array Bool->Bool
 |[],bP=>(Region.ready .any ops bP).isEmpty
 |(false,i)::l,bP=>(Region.ready .any ops bP == [i]) && (!l.isEmpty || i == n) && DI ops n l (bP.setIfInBounds i true)
 |(true,i)::l,bP=>decide (i<n) && Region.free .any ops bP i && (Region.ready .any ops bP).contains i && DI ops n l (bP.setIfInBounds i true)
theorem Az (hsel:Region.noSelect ops=true) (qE:Region.sinkB .any ops n=true):∀(l:List (Bool×Nat)) (bP:Array Bool) (a:Act) (w:World),DI ops n l bP=true->Closed ops bP->(l=[]\/S w)->lF P ops (NP Q) S l a w->yc P ops (NP Q) n S l.length bP a w
 |[],bP,a,w,hb,_,_,h=>⟨List.isEmpty_iff.1 hb,h⟩
 |(false,i)::l,bP,a,w,hb,hc,_,h=>by
   unfold DI at hb
   simp only [aiJ,ajd] at hb
   obtain⟨⟨h1,h2⟩,h3⟩:=hb
   refine⟨λh0=>(by rw [h1] at h0;cases h0),λj hj=>?_⟩
   have hr:=hj
   rw [h1] at hj
   have hj:j=i:=by simpa using hj
   subst hj
   refine wpOp_mono (λa' w' h4=>⟨?_,Az hsel qE l _ a' w' h3 (hc.set hr) h4.1 h4.2⟩) h
   rcases h4.1 with h5|h5
   ·subst h5;exact .inl (by simpa using h2)
   exact .inr h5
 |(true,i)::l,bP,a,w,hb,hc,hS,h=>by
   unfold DI at hb
   simp only [aiJ,decide_eq_true_iff] at hb
   obtain⟨⟨⟨h1,h2⟩,h3⟩,h4⟩:=hb
   obtain⟨o,v,ho,hy,hk⟩:=h
   have hS:S w:=hS.resolve_left aii
   have hr:i∈Region.ready .any ops bP:=by simpa using h3
   exact Au ho hsel qE h1 l.length bP a w hc (Region.free_spec ho h2) hr hy hS (Az hsel qE l _ _ w h4 (hc.set hr) (.inr hS) hk)
def Dc (ops:Array Oper) (l:List (Bool×Nat)):Bool:=
 Region.noSelect ops && Region.sinkB .any ops (ops.size-1) && (l.length == ops.size) && DI ops (ops.size-1) l (Array.replicate ops.size false)
def lu (ops:Array Oper) (i:Nat):Array Oper:=⟨ops.toList.take (i+1)⟩
def gB (ops:Array Oper) (i:Nat):Bool:=match ops[i]? with
 |some o=>match o.guard with
   |none=>true
   |some (j,_)=>decide (j<=i)
 |none=>false
theorem V8 {i j:Nat} (h:j<=i):(lu ops i)[j]?=ops[j]?:=by
 grind [lu]
theorem tI {i:Nat} {a:Act} {w:World} {K:Act->World->Prop} (hg:gB ops i=true) (h:wpList P (lu ops i) (NP λ_ a w=>K a w) ((lu ops i).toList.drop i) a w):wpOp P ops (NP Q) i K a w:=by
 unfold gB at hg
 split at hg
 ·rename_i o ho
  have hd:(lu ops i).toList.drop i=[o]:=by
   have hl:ops.toList[i]?=some o:=by simpa using ho
   have hi:i<ops.toList.length:=dO hl
   show (ops.toList.take (i+1)).drop i=[o]
   rw [List.drop_take]
   rw [show i+1-i=1 by omega,ai8 hi]
   grind
  have hw:Region.wanted o (yielded (lu ops i) a.tmps)=Region.wanted o (yielded ops a.tmps):=by
   unfold Region.wanted
   split at hg
   ·rename_i hn;rw [hn]
   rename_i j b hn
   rw [hn]
   have hj:j<=i:=by simpa using hg
   have:yielded (lu ops i) a.tmps j=yielded ops a.tmps j:=by
    unfold yielded
    rw [V8 hj]
   simp only [this]
  rw [hd] at h
  unfold wpOp
  simp only [ho]
  unfold wpList at h
  rw [hw] at h
  split at h
  ·rename_i hw
   rw [aik hw]
   rcases h with h|⟨_,h⟩
   ·exact .inl (Oi (Oper.wp_mono (λa w h=>h) h))
   exact (vY h).elim
  rename_i hw
  rw [aij hw]
  exact h
 cases hg
end order
theorem su {P:Program} {ops:Array Oper} {Q Q':Post} (hq:∀a w,Q .normal a w->Q' .normal a w):∀(l:List Oper) {a:Act} {w:World},wpList P ops (NP Q) l a w->wpList P ops (NP Q') l a w
 |[],_,_,h=>hq _ _ h
 |o::r,a,w,h=>by
   unfold wpList at *
   split
   ·rename_i hw
    rw [aik hw] at h
    rcases h with h|⟨_,h⟩
    ·exact .inl (Oi (Oper.wp_mono (λa w h=>su hq r h) h))
    exact (vY h).elim
   rename_i hw
   rw [aij hw] at h
   exact su hq r h
section mix
variable {P:Program} {β:Bs} {N:fL} {ops:Array Oper} {S:List HP} {l l':List (Bool×Nat)} {fr bL:Fr} {au:List HP} {Q:Post} {eV:List Prop} {i:Nat} {pk:List Nat}
def eH (P:Program) (β:Bs) (N:fL) (ops:Array Oper) (S:List HP) (l:List (Bool×Nat)) (fr:Fr) (au:List HP) (Q:Post):Prop:=
 ∀ai w,aR β au w->lF P ops (NP Q) (aR β S) l (fB N fr ai) w
theorem ak.Uh {id:Nat} (l:List (Bool×Nat)) (pk:List Nat) (hm:P.follows .mixedOrders=true) (hB:Dc ops l=true) (hn:cC pk=true) (hp:cU au pk=some S) (h:eH P β N ops S l fr au Q):ak P β N (.region id ops true) fr au Q:=by
 intro ai w hS
 unfold Dc at hB
 simp only [aiJ,ajd] at hB
 obtain⟨⟨⟨h1,h2⟩,h3⟩,h4⟩:=hB
 have iA:=hS.drewN 1
 have h5:=Az (Q:=Q) h1 h2 l _ _ _ h4 (λj oj _ hl=>by simp [Array.getD_eq_getD_getElem?,Array.getElem?_replicate] at hl;split at hl<;>simp at hl) (.inr (iA.pick hn hp)) (h ai (w.drewN 1) iA)
 rw [h3] at h5
 refine ajb (λe a w q=>?_) (wp_region_any hm (tY _ _ _ _ h5))
 cases e with
 |normal=>exact q
 |exit id=>exact q.elim
 |goto l=>exact q.elim
 |ret=>exact q.elim
 |panic ch=>exact q.elim
 |outgrown=>exact q.elim
def pK (P:Program) (β:Bs) (N:fL) (ai:Nat->Value) (ops:Array Oper):List OH->List Nat->Fr->SS->Option (Fr×SS)
 |[],[],fr,S=>some (fr,S)
 |h::hs,i::is,fr,S=>
   match ops[i]? with
   |some o=>
     match Region.wanted o (yF ops N fr ai) with
     |true=>
       match Al P β 0 true (eW N fr ai) o h S with
       |some (v,S')=>
         match Da v with
         |true=>pK P β N ai ops hs is (eT fr o.dst v) S'
         |false=>none
       |none=>none
     |false=>pK P β N ai ops hs is (eT fr o.dst undef) S
   |none=>none
 |_,_,_,_=>none
def sx (P:Program) (β:Bs) (N:fL) (ai:Nat->Value) (ops:Array Oper) (hs:List OH) (is:List Nat) (fr:Fr) (S:List HP) (aq:List Nat):Option (Fr×List Prop):=
 match pK P β N ai ops hs is fr ⟨[],S,[],true⟩ with
 |some (bL,S')=>some (kJ bL ai aq,S'.eV)
 |none=>none
theorem wg {ai:Nat->Value}:∀{hs:List OH} {is:List Nat} {fr bL:Fr} {S S':SS},pK P β N ai ops hs is fr S=some (bL,S')->∀p,p∈S.eV->p∈S'.eV
 |[],[],fr,bL,S,S',h,p,hp=>by cases h;exact hp
 |h::hs,i::is,fr,bL,S,S',hr,p,hp=>by
   unfold pK at hr
   repeat' split at hr
   all_goals first|(cases hr;done)|skip
   ·rename_i h0 _ _
    exact wg hr p (Ie h0 p hp)
   exact wg hr p hp
 |[],_::_,_,_,_,_,h,_,_=>by cases h
 |_::_,[],_,_,_,_,h,_,_=>by cases h
theorem AA {ai:Nat->Value} {w:World}:∀{hs:List OH} {is:List Nat} {fr bL:Fr} {T T':SS},pK P β N ai ops hs is fr T=some (bL,T')->(∀p,p∈T'.eV->p)->T.used=true->T.au=S →
 lF P ops (NP Q) (aR β S) l (fB N bL ai) w->lF P ops (NP Q) (aR β S) (is.map (λi=>(true,i))++l) (fB N fr ai) w
 |[],[],fr,bL,T,T',h,ho,hu,hT,hK=>by cases h;exact hK
 |h::hs,i::is,fr,bL,T,T',hr,ho,hu,hT,hK=>by
   unfold pK at hr
   repeat' split at hr
   all_goals first|(cases hr;done)|skip
   ·rename_i o hget _ sy _ v T1 h0 _ hv
    obtain⟨e1,e2⟩:=zU h0
    rw [aiP,aiT]
    unfold lF
    refine⟨o,v,hget,.inl ⟨by rw [ia];exact sy,λw' iA=>?_⟩,?_⟩
    ·rw [jb]
     obtain⟨w2,h1,_,_,h4⟩:=qC h0 (λp hp=>ho p (wg hr p hp)) (by rw [hT];exact iA) (λe=>by rw [hu] at e;cases e)
     obtain⟨ew,_⟩:=h4 rfl
     rw [ew] at h1
     rcases h1 with h1|⟨h1,_⟩
     ·exact h1
     exact ain h1 (vB hv)
    rw [ij]
    exact AA hr ho (e2.trans hu) (e1.trans hT) hK
   rename_i o hget _ sy
   rw [aiP,aiT]
   unfold lF
   refine⟨o,undef,hget,.inr ⟨by rw [ia];exact sy,rfl⟩,?_⟩
   rw [ij]
   exact AA hr ho hu hT hK
 |[],_::_,_,_,_,_,h,_,_,_,_=>by cases h
 |_::_,[],_,_,_,_,h,_,_,_,_=>by cases h
theorem eH.reads (is:List Nat) (hs:List OH) (aq:List Nat) (h:∀ai,sx P β N ai ops hs is fr S aq=some (bL,eV)) (ho:pJ eV) (hl:l'=is.map (λi=>(true,i))++l) (K:eH P β N ops S l bL au Q):eH P β N ops S l' fr au Q:=by
 intro ai w hS
 subst hl
 have h0:=h ai
 unfold sx at h0
 split at h0
 ·rename_i sQ S1 h1
  cases h0
  have hK:=K (lk sQ ai) w hS
  rw [←og] at hK
  exact AA h1 (λp hp=>ho.mem hp) rfl rfl hK
 cases h0
theorem eH.cut {ι:Type} {bL:ι->Fr} {cR:ι->List HP} (pk:List Nat) (hg:gB ops i=true) (h:ar P β N (lu ops i) i fr au (NP (G6 β N bL cR))) (hn:cC pk=true) (hp:∀j,cU (cR j) pk=some S)
 (K:∀j,eH P β N ops S l (bL j) (cR j) Q):eH P β N ops S ((false,i)::l) fr au Q:=by
 intro ai w hS
 unfold lF
 refine tI hg (su (Q':=_) (λa w ⟨j,oy,ha,iA⟩=>?_) _ (h ai w hS))
 subst ha
 exact⟨.inr (iA.pick hn (hp j)),K j oy w iA⟩
theorem eH.last (hg:gB ops i=true) (h:ar P β N (lu ops i) i fr au (NP Q)):eH P β N ops S [(false,i)] fr au Q:=by
 grind [lF,tI,su,gB,ar,lu,NP,eH]
end mix
def r_ {β:Bs} {a:Addr} {v:Value} (h:Rd β a v):OP:=⟨⟨[.old v],none,none,none,none⟩,[Rd β a v],h,trivial⟩
def x_ {A:Option Addr} (k n:Nat) (hA:A=some ⟨bG A,bE A,none⟩) (hk:k<n:=by omega):OP:=⟨⟨[],some k,none,some ⟨bG A,bE A,none⟩,none⟩,[((k:Nat):Int)=((k:Nat):Int),k<n,(⟨bG A,bE A,none⟩:Addr).spot=none,A=some ⟨bG A,bE A,none⟩],rfl,hk,rfl,hA,trivial⟩
def r2 {β:Bs} {a a':Addr} {v v':Value} (h:Rd β a v) (h':Rd β a' v'):OP:=⟨⟨[.old v,.old v'],none,none,none,none⟩,[Rd β a' v',Rd β a v],h',h,trivial⟩
def v2 {A:d9} {a a':Addr} {v v':Value} (i:Nat) (h:∀F w,A.h F w->w.cell? a=some v) (h':∀F w,A.h F w->w.cell? a'=some v'):OP:=⟨⟨[.view i v,.view i v'],none,none,none,none⟩,[∀F w,A.h F w->w.cell? a'=some v',∀F w,A.h F w->w.cell? a=some v],h',h,trivial⟩
def xP (k:Nat) (p:Prop) (h:p:=by omega):OP:=⟨⟨[],some k,none,none,none⟩,[((k:Nat):Int)=((k:Nat):Int),p],rfl,h,trivial⟩
def wJ (x y:Int) (h:x=y:=by omega) (lo:-9223372036854775808<=y:=by omega) (hi:y<=9223372036854775807:=by omega):OP:=w_ (.int .i64 y) (vV h lo hi)
def wT (p:Prop) [Decidable p] (h:p:=by omega):OP:=w_ (v:=.bool (decide p)) (.bool true) (ail Value.bool (aiD h))
def wF (p:Prop) [Decidable p] (h:¬p:=by omega):OP:=w_ (v:=.bool (decide p)) (.bool false) (ail Value.bool (aip h))
def wNT (p:Prop) [Decidable p] (h:p:=by omega):OP:=w_ (v:=.bool (!decide p)) (.bool false) (ail (λb=>Value.bool !b) (aiD h))
def OL (p:Prop) [Decidable p] (h:¬p:=by omega):OP:=w_ (v:=.bool (!decide p)) (.bool true) (ail (λb=>Value.bool !b) (aip h))
def Zd (β:Bs) (b o:Nat):List Value->List Prop->List Prop
 |[],l=>l
 |v::r,l=>Zd β b (o+1) r (Rd β ⟨b,o,none⟩ v::l)
theorem OM {β:Bs} {b:Nat}:∀{vs:List Value} {o:Nat} {l:List Prop},(∀j v,vs[j]?=some v->Rd β ⟨b,o+j,none⟩ v)->pJ l->pJ (Zd β b o vs l)
 |[],_,_,_,h=>h
 |v::r,o,l,h,hl=>OM (vs:=r) (λj u hu=>by have:=h (j+1) u hu;rw [show o+(j+1)=o+1+j by omega] at this;exact this) ⟨h 0 v rfl,hl⟩
def Ez {β:Bs} {b o:Nat} (vs:List Value) (h:∀j v,vs[j]?=some v->Rd β ⟨b,o+j,none⟩ v):OP:=⟨⟨vs.map .old,none,none,none,none⟩,Zd β b o vs [],OM h trivial⟩
section rules
variable {P:Program} {β:Bs} {N:fL} {ops:Array Oper} {k:Nat} {fr:Fr} {au:List HP} {Q:Post}
def fJ (P:Program) (β:Bs) (b:Nat) (ro:Bool) (N:fL) (ops:Array Oper) (hs:List OH) (k:Nat) (fr:Fr) (au:List HP) (aq:List Nat):Fr:=
 match p8 P β b ro N (λ_=>undef) ops hs k fr ⟨[],au,[],ro⟩ with
 |some (_,bL,_)=>kJ bL (λ_=>undef) aq
 |none=>[]
def fK (P:Program) (β:Bs) (b:Nat) (ro:Bool) (N:fL) (ops:Array Oper) (hs:List OH) (k:Nat) (fr:Fr) (au:List HP) (aq:List Nat):Fr:=fJ P β b ro N ops hs k fr au aq++fr
def zN:Nat->List Value->List (Nat×Value)
 |_,[]=>[]
 |i,v::r=>(i,v)::zN (i+1) r
def zC (l:List Value):List (Nat×Value):=zN 0 l
def tl:List Nat->List (Bool×Nat)
 |[]=>[]
 |i::r=>(match Nat.blt i 500 with
   |true=>(true,i)
   |false=>(false,i-500))::tl r
theorem jK (n:Nat) (aq:List Nat) (l:List (Nat×OP)) (K:ar P β N ops (k+n) (fK P β 0 false N ops (dJ (dU n l 0)) k fr au aq) au Q)
 (h:∀b ai,nV P β b false N ai ops (dJ (dU n l 0)) k fr au (cE (fJ P β 0 false N ops (dJ (dU n l 0)) k fr au aq)) (vD au.length 0)=some (k+n,fJ P β 0 false N ops (dJ (dU n l 0)) k fr au aq,au,owed (dU n l 0)):=by intro _ _;kernel_rfl)
 (hb:vC ops n k (cE (fJ P β 0 false N ops (dJ (dU n l 0)) k fr au aq)) (cE fr)=true:=by kernel_rfl):ar P β N ops k fr au Q:=gK n _ l K h hb
theorem jC (n:Nat) (aq:List Nat) (l:List (Nat×OP)) (ds:List (Nat×List (Nat×Value))) (K:ar P β N ops (k+n) (fK P β 0 false N ops (dJ (dU n l 0)) k fr au aq) (kq au ds) Q)
 (h:∀b ai,nV P β b false N ai ops (dJ (dU n l 0)) k fr au (cE (fJ P β 0 false N ops (dJ (dU n l 0)) k fr au aq)) (vD (kq au ds).length 0)=some (k+n,fJ P β 0 false N ops (dJ (dU n l 0)) k fr au aq,kq au ds,owed (dU n l 0)):=by intro _ _;kernel_rfl)
 (hb:vC ops n k (cE (fJ P β 0 false N ops (dJ (dU n l 0)) k fr au aq)) (cE fr)=true:=by kernel_rfl):ar P β N ops k fr au Q:=gC n _ l ds K h hb
theorem jN (n:Nat) (aq:List Nat) (l:Nat->List (Nat×OP)) (ds:Nat->List (Nat×List (Nat×Value))) (new:Nat->HP) (K:∀b,ar P β N ops (k+n) (fK P β b false N ops (dJ (dU n (l b) 0)) k fr au aq) (kq au (ds b)++[new b]) Q)
 (h:∀b ai,nV P β b false N ai ops (dJ (dU n (l b) 0)) k fr au (cE (fJ P β b false N ops (dJ (dU n (l b) 0)) k fr au aq)) (vD (kq au (ds b)++[new b]).length 0)=some (k+n,fJ P β b false N ops (dJ (dU n (l b) 0)) k fr au aq,kq au (ds b)++[new b],owed (dU n (l b) 0)):=by intro _ _;kernel_rfl)
 (hb:∀b,vC ops n k (cE (fJ P β b false N ops (dJ (dU n (l b) 0)) k fr au aq)) (cE fr)=true:=by intro _;kernel_rfl):ar P β N ops k fr au Q:=gN n _ l ds new K h hb
theorem jB (n:Nat) (aq:List Nat) (new:Nat->HP) (K:∀b,ar P β N ops (k+n) (fK P β b false N ops (dJ (dU n [] 0)) k fr au aq) (kq au []++[new b]) Q)
 (h:∀b ai,nV P β b false N ai ops (dJ (dU n [] 0)) k fr au (cE (fJ P β b false N ops (dJ (dU n [] 0)) k fr au aq)) (vD (kq au []++[new b]).length 0)=some (k+n,fJ P β b false N ops (dJ (dU n [] 0)) k fr au aq,kq au []++[new b],owed (dU n [] 0)):=by intro _ _;kernel_rfl)
 (hb:∀b,vC ops n k (cE (fJ P β b false N ops (dJ (dU n [] 0)) k fr au aq)) (cE fr)=true:=by intro _;kernel_rfl):ar P β N ops k fr au Q:=jN n aq (λ_=>[]) (λ_=>[]) new K h hb
theorem rQ {id:Nat} (h:bN P β N ops 0 fr au Q) (hm:P.follows .mixedOrders=true:=by kernel_rfl) (hB:Region.lexB .any ops=true:=by kernel_rfl):ak P β N (.region id ops true) fr au Q:=ak.Gj hm hB h
theorem jQ (n:Nat) (aq:List Nat) (l:List (Nat×OP)) (K:bN P β N ops (k+n) (fK P β 0 true N ops (dJ (dU n l 0)) k fr au aq) au Q)
 (h:∀b ai,nV P β b true N ai ops (dJ (dU n l 0)) k fr au (cE (fJ P β 0 true N ops (dJ (dU n l 0)) k fr au aq)) (vD au.length 0)=some (k+n,fJ P β 0 true N ops (dJ (dU n l 0)) k fr au aq,au,owed (dU n l 0)):=by intro _ _;kernel_rfl)
 (hb:vC ops n k (cE (fJ P β 0 true N ops (dJ (dU n l 0)) k fr au aq)) (cE fr)=true:=by kernel_rfl):bN P β N ops k fr au Q:=gQ n _ l K h hb
variable {f:FuncId} {args:Array Value} {pre:List HP} {post:Bs->Value->List HP->Prop}
theorem gu (ix:List Nat) (hs:bU P β f args pre post) (K:∀β' v l,β.le β'->post β' v l->ar P β' N ops (k+1) (eT fr (jE ops k) v) (l++mo ix au 0) Q)
 (hc:∀ai,rC P β N ai ops fr k=some (f,args,jE ops k):=by intro _;kernel_rfl) (hn:cC (ix++oO ix au.length 0)=true:=by kernel_rfl) (hp:cU au (ix++oO ix au.length 0)=some (pre++mo ix au 0):=by kernel_rfl):ar P β N ops k fr au Q:=
 ar.Uf hc hs hn hp K
theorem gE {a:Value} {b:List HP} (ix:List Nat) (hs:aU P β f args pre (λv l=>v=a/\l=b)) (K:ar P β N ops (k+1) (eT fr (jE ops k) a) (b++mo ix au 0) Q)
 (hc:∀ai,rC P β N ai ops fr k=some (f,args,jE ops k):=by intro _;kernel_rfl) (hn:cC (ix++oO ix au.length 0)=true:=by kernel_rfl) (hp:cU au (ix++oO ix au.length 0)=some (pre++mo ix au 0):=by kernel_rfl):ar P β N ops k fr au Q:=
 gL ix hs (λ_ _ h=>by obtain⟨rfl,rfl⟩:=h;exact K) hc hn hp
theorem gX {ι:Type} {a:ι->Value} {b:ι->List HP} (ix:List Nat) (hs:aU P β f args pre (λv l=>∃x,v=a x/\l=b x)) (K:∀x,ar P β N ops (k+1) (eT fr (jE ops k) (a x)) (b x++mo ix au 0) Q)
 (hc:∀ai,rC P β N ai ops fr k=some (f,args,jE ops k):=by intro _;kernel_rfl) (hn:cC (ix++oO ix au.length 0)=true:=by kernel_rfl) (hp:cU au (ix++oO ix au.length 0)=some (pre++mo ix au 0):=by kernel_rfl):ar P β N ops k fr au Q:=
 gL ix hs (λ_ _ h=>by obtain⟨x,rfl,rfl⟩:=h;exact K x) hc hn hp
theorem cP {x y:Code} {o:Operand} (p:Prop) [Decidable p] (ht:p->ak P β N x fr au Q) (hf:¬p->ak P β N y fr au Q) (h:∀ai,eW N fr ai o=.bool (decide p):=by intro _;kernel_rfl):ak P β N (.cond o x y) fr au Q:=ak.afQ h ht hf
theorem SE {n0:Nat} {fn:Func} {c:Code} {post:Value->List HP->Prop} (hf:P.funcs[f]?=some fn) (hN:fn.ntmps=n0) (h:∀R:d9,ak P β ⟨n0,[]⟩ c (DC 0 args.toList) (pre++[.abs R]) (bodyPost P fn (Am β R post))) (hb:fn.body=some c:=by rfl) (hl:args.toList.length<=n0:=by exact aiR rfl):aU P β f args pre post:=aU.enter hf hb hN hl h
theorem mM {n0:Nat} {fn:Func} {c:Code} (hf:P.funcs[f]?=some fn) (hN:fn.ntmps=n0) (h:β.le β->∀R:d9,ak P β ⟨n0,[]⟩ c (DC 0 args.toList) (pre++[.abs R]) (bodyPost P fn (Jz β R post))) (hb:fn.body=some c:=by rfl) (hl:args.toList.length<=n0:=by exact aiR rfl):bU P β f args pre post:=bU.enter hf hb hN hl h
def Mx (N:fL) (ops:Array Oper) (fr:Fr) (k j:Nat):Operand:=
 match iY N (λ_=>undef) ops fr k with
 |some (.call ⟨_,xs,_⟩,_)=>match xs.toList[j]? with
   |some x=>x
   |none=>.tmp 0
 |_=>.tmp 0
def zI (P:Program) (e:TypeId):Value:=match P.info? e with
 |some i=>match i.zero with
   |some z=>z
   |none=>undef
 |none=>undef
def bI (P:Program) (e:TypeId):Nat:=match P.info? e with
 |some i=>i.bytes
 |none=>0
theorem V9 {news:List Value} (h:news.all Value.oneCell'=true):∀u∈news,u.oneCell'=true:=List.all_eq_true.1 h
theorem ny (i:Nat) (t:TypeId) {e:TypeId} {size n cap:Nat} {A:Option Addr} {xs:List Value} (A':Option Addr) (m c':Nat) (news:List Value) (hp:au[i]?=some (.abs (aF e size A n cap xs)))
 (hsrc:∀w,aR β au w->(A'=none/\news.length=0)\/∃ad,A'=some ad/\∀j u,news[j]?=some u->w.cell? (ad.add j)=some u)
 (K':∀B cap',ar P β N ops (k+1) (eT fr (jE ops k) (.slice B (n+m) cap')) (au.set i (.abs (aF e size B (n+m) cap' (xs++news)))) Q)
 (hb:n+m<=1099511627776:=by omega) (hl:news.length=m*size:=by kernel_rfl) (h1:∀u∈news,u.oneCell'=true:=by exact V9 KB)
 (bW:∀ai,iY N ai ops fr k=some (.call ⟨.builtin .append,#[Mx N ops fr k 0,Mx N ops fr k 1],#[t,t]⟩,jE ops k):=by intro _;kernel_rfl)
 (hs:∀ai,eW N fr ai (Mx N ops fr k 0)=.slice A n cap:=by intro _;kernel_rfl) (hx:∀ai,eW N fr ai (Mx N ops fr k 1)=.slice A' m c':=by intro _;kernel_rfl)
 (ht:P.underlying t=some (.slice e):=by kernel_rfl) (sj:(P.info? e).map (λi=>(i.zero,i.size,i.bytes))=some (some (zI P e),size,bI P e):=by kernel_rfl)
 (hzs:(zI P e).cells.size=size:=by kernel_rfl) (eG:0<size:=by decide) (hb8:Nat.ble (bI P e) 128=true:=by kernel_rfl):ar P β N ops k fr au Q:=
 ar.append i bW rfl hp hs hx ht sj hzs eG hl h1 hsrc (by unfold maxLen;omega) (air (Nat.mul_le_mul hb (aiR hb8)) Pd) K'
theorem SH (i:Nat) (t:TypeId) {e:TypeId} {size n cap:Nat} {A:Option Addr} {xs:List Value} (A':Option Addr) (m c':Nat) (news:List Value) (hp:au[i]?=some (.abs (aF e size A n cap xs)))
 (hsrc:∀w,aR β au w->(A'=none/\news.length=0)\/∃ad,A'=some ad/\∀j u,news[j]?=some u->w.cell? (ad.add j)=some u)
 (K':∀B cap',ar P β N ops (k+1) (eT fr (jE ops k) (.slice B (n+m) cap')) (au.set i (.abs (aF e size B (n+m) cap' (xs++news)))) Q)
 (hb:n+m<=140737488355328:=by omega) (hl:news.length=m*size:=by kernel_rfl) (h1:∀u∈news,u.oneCell'=true:=by exact V9 KB)
 (bW:∀ai,iY N ai ops fr k=some (.call ⟨.builtin .append,#[Mx N ops fr k 0,Mx N ops fr k 1],#[t,t]⟩,jE ops k):=by intro _;kernel_rfl)
 (hs:∀ai,eW N fr ai (Mx N ops fr k 0)=.slice A n cap:=by intro _;kernel_rfl) (hx:∀ai,eW N fr ai (Mx N ops fr k 1)=.slice A' m c':=by intro _;kernel_rfl)
 (ht:P.underlying t=some (.slice e):=by kernel_rfl) (sj:(P.info? e).map (λi=>(i.zero,i.size,i.bytes))=some (some (zI P e),size,bI P e):=by kernel_rfl)
 (hzs:(zI P e).cells.size=size:=by kernel_rfl) (eG:0<size:=by decide) (hb8:Nat.ble (bI P e) 1=true:=by kernel_rfl):ar P β N ops k fr au Q:=
 ar.append i bW rfl hp hs hx ht sj hzs eG hl h1 hsrc (by unfold maxLen;omega) (air (Nat.mul_le_mul hb (aiR hb8)) Pd) K'
theorem sl (i:Nat) (v v':Value) (hv:v=v') (K:ar P β N ops k ((i,v')::fr) au Q) (h:∀ai,lk fr ai i=v:=by intro _;kernel_rfl):ar P β N ops k fr au Q:=ar.slot i v v' h hv K
theorem sP (i:Nat) (p:Prop) [Decidable p] (ht:p->ar P β N ops k ((i,.bool true)::fr) au Q) (hf:¬p->ar P β N ops k ((i,.bool false)::fr) au Q) (h:∀ai,lk fr ai i=.bool (decide p):=by intro _;kernel_rfl):ar P β N ops k fr au Q:=ar.xO i p h ht hf
theorem sN (i:Nat) (p:Prop) [Decidable p] (ht:¬p->ar P β N ops k ((i,.bool true)::fr) au Q) (hf:p->ar P β N ops k ((i,.bool false)::fr) au Q) (h:∀ai,lk fr ai i=.bool (!decide p):=by intro _;kernel_rfl):ar P β N ops k fr au Q:=ar.Ue i p h ht hf
theorem cN {x y:Code} {o:Operand} (p:Prop) [Decidable p] (ht:¬p->ak P β N x fr au Q) (hf:p->ak P β N y fr au Q) (h:∀ai,eW N fr ai o=.bool (!decide p):=by intro _;kernel_rfl):ak P β N (.cond o x y) fr au Q:=ak.afR h ht hf
section turns
variable {ι:Type} {bO:ι->Prop} {μ:ι->Nat} {bL:ι->Fr} {cR:ι->List HP} {m:Nat}
theorem tJ (i:ι) (pk:List Nat) (hi:bO i) (hm:μ i<m:=by first|omega|(dsimp only;omega)) (hf:∀ai,kJ fr ai (cE (bL i))=bL i:=by intro _;kernel_rfl) (hn:cC pk=true:=by rfl) (hp:cU au pk=some (cR i):=by kernel_rfl) :
 ay β N (Exit.then (Turn β N bO μ bL cR m) Q) .normal fr au:=ay.turn i hi hm hf hn hp
theorem mJ (i:ι) (pk:List Nat) (hi:bO i) (hf:∀ai,kJ fr ai (cE (bL i))=bL i:=by intro _;kernel_rfl) (hn:cC pk=true:=by rfl) (hp:cU au pk=some (cR i):=by kernel_rfl) :
 ay β N (Exit.then (Y7 β N bO bL cR) Q) .normal fr au:=ay.meet i hi hf hn hp
theorem tB {bs:ι->Bs} (i:ι) (pk:List Nat) (hi:bO i) (hm:μ i<m:=by first|omega|(dsimp only;omega)) (hb:bs i=β:=by rfl) (hf:∀ai,kJ fr ai (cE (bL i))=bL i:=by intro _;kernel_rfl) (hn:cC pk=true:=by rfl)
 (hp:cU au pk=some (cR i):=by kernel_rfl):ay β N (Exit.then (Oh N bs bO μ bL cR m) Q) .normal fr au:=ay.afU i hb hi hm hf hn hp
end turns
theorem lJ {ι:Type} {c:Code} (bO:ι->Prop) (μ:ι->Nat) (bL:ι->Fr) (cR:ι->List HP) (i0:ι) (pk:List Nat) (h0:bO i0) (round:∀i,bO i->ak P β N c (bL i) (cR i) (Exit.then (Turn β N bO μ bL cR (μ i)) Q))
 (hf:∀ai,kJ fr ai (cE (bL i0))=bL i0:=by intro _;kernel_rfl) (hn:cC pk=true:=by rfl) (hp:cU au pk=some (cR i0):=by kernel_rfl):ak P β N (.loop c) fr au Q:=ak.loop bO μ bL cR i0 h0 hf hn hp round
theorem lB {ι:Type} {c:Code} (bs:ι->Bs) (bO:ι->Prop) (μ:ι->Nat) (bL:ι->Fr) (cR:ι->List HP) (i0:ι) (pk:List Nat) (h0:bO i0) (round:∀i,bO i->ak P (bs i) N c (bL i) (cR i) (Exit.then (Oh N bs bO μ bL cR (μ i)) Q))
 (hb:bs i0=β:=by rfl) (hf:∀ai,kJ fr ai (cE (bL i0))=bL i0:=by intro _;kernel_rfl) (hn:cC pk=true:=by rfl) (hp:cU au pk=some (cR i0):=by kernel_rfl):ak P β N (.loop c) fr au Q:=ak.afT bs bO μ bL cR i0 hb h0 hf hn hp round
def AB:List OP->List Hint
 |[]=>[]
 |p::r=>p.h.hs++AB r
def Gn:List OP->List Prop
 |[]=>[]
 |p::r=>Gn r++p.ps
theorem EW:∀l:List OP,pJ (Gn l)
 |[]=>trivial
 |p::r=>(EW r).app p.pf
variable {R:d9} {fn:Func} {l:List HP} {v:Value} {n0:Nat} {β':Bs}
theorem rB (v:Value) (os:List OP) (pk:List Nat) (dL:β.le β') (lT:post β' v l) (hr:∀ai,tD P β' ⟨n0,[]⟩ ai fn fr au (AB os)=some (v,Gn os):=by intro _;kernel_rfl) (hn:cC pk=true:=by kernel_rfl) (hp:cU au pk=some (l++[.abs R]):=by kernel_rfl) :
 ay β' ⟨n0,[]⟩ (bodyPost P fn (Jz β R post)) .ret fr au:=ay.agF (AB os) pk dL hr (EW os) hn hp lT
theorem rT {post:Value->List HP->Prop} (v:Value) (os:List OP) (pk:List Nat) (lT:post v l) (hr:∀ai,tD P β ⟨n0,[]⟩ ai fn fr au (AB os)=some (v,Gn os):=by intro _;kernel_rfl) (hn:cC pk=true:=by kernel_rfl) (hp:cU au pk=some (l++[.abs R]):=by kernel_rfl) :
 ay β ⟨n0,[]⟩ (bodyPost P fn (Am β R post)) .ret fr au:=ay.ret (AB os) pk hr (EW os) hn hp lT
class vE (Q:Post) (e:Exit) (Q':outParam Post) (e':outParam Exit):Prop where
 h:∀{β:Bs} {N:fL} {fr:Fr} {au:List HP},ay β N Q' e' fr au->ay β N Q e fr au
instance {K:Act->World->Prop} {Q':Post} {e':Exit} [H:vE Q .ret Q' e']:vE (Exit.then K Q) .ret Q' e':=⟨λh=>ay.bB (H.h h)⟩
instance {id:Nat} {Q':Post} {e':Exit} [H:vE Q .ret Q' e']:vE (Exit.inBlock id Q) .ret Q' e':=⟨λh=>ay.fT (H.h h)⟩
instance {X:Ending->World->Prop}:vE (bodyPost P fn X) .ret (bodyPost P fn X) .ret:=⟨λh=>h⟩
instance {K:Act->World->Prop}:vE (Exit.then K Q) .normal (Exit.then K Q) .normal:=⟨λh=>h⟩
instance {id:Nat} {Q':Post} {e':Exit} [H:vE Q .normal Q' e']:vE (Exit.inBlock id Q) .normal Q' e':=⟨λh=>ay.gh (H.h h)⟩
instance {id:Nat} {Q':Post} {e':Exit} [H:vE Q .normal Q' e']:vE (Exit.inBlock id Q) (.exit id) Q' e':=⟨λh=>ay.uW (H.h h)⟩
instance {K:Act->World->Prop} {id:Nat} {Q':Post} {e':Exit} [H:vE Q (.exit id) Q' e']:vE (Exit.then K Q) (.exit id) Q' e':=⟨λh=>ay.oZ (H.h h)⟩
variable {y z:Code} {Q':Post} {id:Nat}
theorem KX [H:vE Q .normal (Exit.then (y.wp P Q') Q') .normal] (K:ak P β N y fr au Q'):ak P β N .skip fr au Q:=ak.skip (H.h (NX K))
theorem LX [H:vE Q .normal (Exit.then (y.wp P Q') Q') .normal] (K:ak P β N y fr au Q') (h:ops.toList.drop k=[]:=by kernel_rfl):ar P β N ops k fr au Q:=NL (H.h (NX K)) h
theorem BX [H:vE Q .normal (Exit.then (y.wp P Q') Q') .normal] (K:ak P β N y fr au Q'):ay β N Q .normal fr au:=H.h (NX K)
theorem XX [H:vE Q (.exit id) (Exit.then (y.wp P Q') Q') .normal] (K:ak P β N y fr au Q'):ak P β N (.exit id) fr au Q:=ak.exit (H.h (NX K))
theorem SQ {f:Bool} {lU:Array Oper} {i':Nat} (h:ar P β N lU 0 fr au (Exit.then (y.wp P (Exit.then (z.wp P Q) Q)) (Exit.then (z.wp P Q) Q))) (hf:f=false:=by rfl):ak P β N (.seq (.seq (.region i' lU f) y) z) fr au Q:=ak.seq (SR h hf)
theorem NZ {f:Bool} {lU:Array Oper} {i':Nat} (h':ar P β N lU 0 fr au (Exit.then (y.wp P (Exit.then (z.wp P Q) Q)) (Exit.then (z.wp P Q) Q))) (h:ops.toList.drop k=[]:=by kernel_rfl) (hf:f=false:=by rfl):ar P β N ops k fr au (Exit.then ((Code.seq (.seq (.region i' lU f) y) z).wp P Q) Q):=NN (SQ h' hf) h
theorem NT {o:Operand} (K:ak P β N y fr au Q) (h':∀ai,eW N fr ai o=.bool true:=by intro _;kernel_rfl) (h:ops.toList.drop k=[]:=by kernel_rfl):ar P β N ops k fr au (Exit.then ((Code.cond o y z).wp P Q) Q):=NN (CT K h') h
theorem NF {o:Operand} (K:ak P β N z fr au Q) (h':∀ai,eW N fr ai o=.bool false:=by intro _;kernel_rfl) (h:ops.toList.drop k=[]:=by kernel_rfl):ar P β N ops k fr au (Exit.then ((Code.cond o y z).wp P Q) Q):=NN (CF K h') h
theorem eN {post:Value->List HP->Prop} [H:vE Q .ret (bodyPost P fn (Am β R post)) .ret] (lT:post v l) (pk:List Nat:=vD (l.length+1) 0) (h:ops.toList.drop k=[]:=by kernel_rfl) (hr:∀ai,tD P β ⟨n0,[]⟩ ai fn fr au []=some (v,[]):=by intro _;kernel_rfl) (hn:cC pk=true:=by kernel_rfl) (hp:cU au pk=some (l++[.abs R]):=by kernel_rfl) :
 ar P β ⟨n0,[]⟩ ops k fr au (Exit.then (Code.ret.wp P Q) Q):=NN (ak.ret (H.h (RT v pk lT hr hn hp))) h
theorem eS {post:Value->List HP->Prop} [H:vE Q .ret (bodyPost P fn (Am β R post)) .ret] (os:List OP) (lT:post v l) (pk:List Nat:=vD (l.length+1) 0) (h:ops.toList.drop k=[]:=by kernel_rfl) (hr:∀ai,tD P β ⟨n0,[]⟩ ai fn fr au (AB os)=some (v,Gn os):=by intro _;kernel_rfl) (hn:cC pk=true:=by kernel_rfl) (hp:cU au pk=some (l++[.abs R]):=by kernel_rfl) :
 ar P β ⟨n0,[]⟩ ops k fr au (Exit.then (Code.ret.wp P Q) Q):=NN (ak.ret (H.h (rT v os pk lT hr hn hp))) h
theorem eO [H:vE Q .ret (bodyPost P fn (Jz β R post)) .ret] (os:List OP) (dL:β.le β') (lT:post β' v l) (pk:List Nat:=vD (l.length+1) 0) (h:ops.toList.drop k=[]:=by kernel_rfl) (hr:∀ai,tD P β' ⟨n0,[]⟩ ai fn fr au (AB os)=some (v,Gn os):=by intro _;kernel_rfl) (hn:cC pk=true:=by kernel_rfl) (hp:cU au pk=some (l++[.abs R]):=by kernel_rfl) :
 ar P β' ⟨n0,[]⟩ ops k fr au (Exit.then (Code.ret.wp P Q) Q):=NN (ak.ret (H.h (rB v os pk dL lT hr hn hp))) h
def OO:List Oper->List Nat
 |[]=>[]
 |o::r=>match o.dst with
   |some d=>d::OO r
   |none=>OO r
theorem zR {post:Value->List HP->Prop} {lU:Array Oper} {f:Bool} {i':Nat} [H:vE Q .ret (bodyPost P fn (Am β R post)) .ret] (lT:post v l) (pk:List Nat:=vD (l.length+1) 0)
 (h:∀b ai,nV P β b false ⟨n0,[]⟩ ai lU (dJ (dU lU.size [] 0)) 0 fr au (cE (fJ P β 0 false ⟨n0,[]⟩ lU (dJ (dU lU.size [] 0)) 0 fr au (OO lU.toList))) (vD au.length 0)=some (0+lU.size,fJ P β 0 false ⟨n0,[]⟩ lU (dJ (dU lU.size [] 0)) 0 fr au (OO lU.toList),au,owed (dU lU.size [] 0)):=by intro _ _;kernel_rfl)
 (hb:vC lU lU.size 0 (cE (fJ P β 0 false ⟨n0,[]⟩ lU (dJ (dU lU.size [] 0)) 0 fr au (OO lU.toList))) (cE fr)=true:=by kernel_rfl)
 (hd:lU.toList.drop (0+lU.size)=[]:=by kernel_rfl) (hr:∀ai,tD P β ⟨n0,[]⟩ ai fn (fK P β 0 false ⟨n0,[]⟩ lU (dJ (dU lU.size [] 0)) 0 fr au (OO lU.toList)) au []=some (v,[]):=by intro _;kernel_rfl)
 (hn:cC pk=true:=by kernel_rfl) (hp:cU au pk=some (l++[.abs R]):=by kernel_rfl) (hf:f=false:=by rfl):ak P β ⟨n0,[]⟩ (.seq (.region i' lU f) .ret) fr au Q:=
 SR (jK lU.size (OO lU.toList) [] (eN lT pk hd hr hn hp) h hb) hf
end rules
section mix
variable {P:Program} {β:Bs} {N:fL} {ops:Array Oper} {S:List HP} {lm l':List (Bool×Nat)} {fr:Fr} {au:List HP} {Q:Post} {i:Nat} {f:FuncId} {args:Array Value} {pre:List HP} {post:Value->List HP->Prop}
def fG (P:Program) (β:Bs) (N:fL) (ops:Array Oper) (hs:List OH) (is:List Nat) (fr:Fr) (S:List HP) (aq:List Nat):Fr:=
 match pK P β N (λ_=>undef) ops hs is fr ⟨[],S,[],true⟩ with
 |some (bL,_)=>kJ bL (λ_=>undef) aq
 |none=>[]
theorem jG (n:Nat) (aq:List Nat) (os:List (Nat×OP)) (K:eH P β N ops S (l'.drop n) (fG P β N ops (dJ (dU n os 0)) ((l'.take n).map Prod.snd) fr S aq) au Q)
 (h:∀ai,sx P β N ai ops (dJ (dU n os 0)) ((l'.take n).map Prod.snd) fr S aq=some (fG P β N ops (dJ (dU n os 0)) ((l'.take n).map Prod.snd) fr S aq,owed (dU n os 0)):=by intro _;kernel_rfl) (hl:l'=((l'.take n).map Prod.snd).map (λi=>(true,i))++l'.drop n:=by kernel_rfl):eH P β N ops S l' fr au Q:=
 eH.reads _ (dJ (dU n os 0)) aq h (uX _) hl K
theorem kC (pk:List Nat) (aq:List Nat) (os:List (Nat×OP)) (ds:List (Nat×List (Nat×Value))) (K:eH P β N ops S lm (fK P β 0 false N (lu ops i) (dJ (dU 1 os 0)) i fr au aq) (kq au ds) Q) (hg:gB ops i=true:=by kernel_rfl)
 (h:∀b ai,nV P β b false N ai (lu ops i) (dJ (dU 1 os 0)) i fr au (cE (fJ P β 0 false N (lu ops i) (dJ (dU 1 os 0)) i fr au aq)) (vD (kq au ds).length 0)=some (i+1,fJ P β 0 false N (lu ops i) (dJ (dU 1 os 0)) i fr au aq,kq au ds,owed (dU 1 os 0)):=by intro _ _;kernel_rfl)
 (hb:vC (lu ops i) 1 i (cE (fJ P β 0 false N (lu ops i) (dJ (dU 1 os 0)) i fr au aq)) (cE fr)=true:=by kernel_rfl) (hd:(lu ops i).toList.drop (i+1)=[]:=by kernel_rfl) (hn:cC pk=true:=by kernel_rfl) (hp:cU (kq au ds) pk=some S:=by kernel_rfl):eH P β N ops S ((false,i)::lm) fr au Q:=
 eH.cut (ι:=Unit) (bL:=λ_=>fK P β 0 false N (lu ops i) (dJ (dU 1 os 0)) i fr au aq) (cR:=λ_=>kq au ds) pk hg (gC 1 _ os ds (ar.nil hd (EV ())) h hb) hn (λ_=>hp) (λ_=>K)
theorem kL (pk ix:List Nat) (hs:aU P β f args pre post) (K:∀v l,post v l->eH P β N ops S lm (eT fr (jE ops i) v) (l++mo ix au 0) Q) (hp:∀v l,post v l->cU (l++mo ix au 0) pk=some S) (hg:gB ops i=true:=by kernel_rfl)
 (hc:∀ai,rC P β N ai (lu ops i) fr i=some (f,args,jE (lu ops i) i):=by intro _;kernel_rfl) (hd:(lu ops i).toList.drop (i+1)=[]:=by kernel_rfl) (he:jE ops i=jE (lu ops i) i:=by kernel_rfl) (hn':cC (ix++oO ix au.length 0)=true:=by kernel_rfl) (cR:cU au (ix++oO ix au.length 0)=some (pre++mo ix au 0):=by kernel_rfl) (hn:cC pk=true:=by kernel_rfl):eH P β N ops S ((false,i)::lm) fr au Q:=
 eH.cut (ι:={x:Value×List HP // post x.1 x.2}) (bL:=λj=>eT fr (jE (lu ops i) i) j.1.1) (cR:=λj=>j.1.2++mo ix au 0) pk hg (gL ix hs (λv l hv=>ar.nil hd (EV (bL:=λj:{x:Value×List HP // post x.1 x.2}=>eT fr (jE (lu ops i) i) j.1.1) (cR:=λj=>j.1.2++mo ix au 0) ⟨(v,l),hv⟩)) hc hn' cR) hn (λj=>hp _ _ j.2) (λj=>by rw [←he];exact K _ _ j.2)
def Gp (l:List HP):List Nat->List HP
 |[]=>[]
 |i::r=>match l[i]? with
   |some p=>p::Gp l r
   |none=>Gp l r
variable {fl:Bool}
theorem jM {id:Nat} (o:List Nat) (pk:List Nat) (h:eH P β N ops (Gp au pk) (tl o) fr au Q) (hm:P.follows .mixedOrders=true:=by kernel_rfl) (hB:Dc ops (tl o)=true:=by kernel_rfl) (hn:cC pk=true:=by kernel_rfl) (hp:cU au pk=some (Gp au pk):=by kernel_rfl) (hf:fl=true:=by rfl):ak P β N (.region id ops fl) fr au Q:=by
 grind [ak.Uh,tl]
theorem rM {id:Nat} (perm:List Nat) (nr:Nat) (pk:List Nat) (h:bZ P β N ops (Gp au pk) nr perm fr au Q) (hm:P.follows .mixedOrders=true:=by kernel_rfl) (hB:ET ops perm nr=true:=by kernel_rfl) (hn:cC pk=true:=by rfl)
 (hp:cU au pk=some (Gp au pk):=by kernel_rfl):ak P β N (.region id ops true) fr au Q:=ak.V6 perm nr pk hm hB hn hp h
section m
variable {lm l':List Nat} {o':Oper} {r':Nat}
def fR (P:Program) (β:Bs) (N:fL) (ops:Array Oper) (hs:List OH) (is:List Nat) (fr:Fr) (S:List HP) (aq:List Nat):Fr:=
 match Gm P β N (λ_=>undef) ops hs is fr S aq with
 |some (bL,_)=>bL
 |none=>[]
theorem jR (n:Nat) (aq:List Nat) (os:List (Nat×OP)) (K:bZ P β N ops S (r'-n) (l'.drop n) (fR P β N ops (dJ (dU n os 0)) (l'.take n) fr S aq) au Q)
 (h:∀ai,Gm P β N ai ops (dJ (dU n os 0)) (l'.take n) fr S aq=some (fR P β N ops (dJ (dU n os 0)) (l'.take n) fr S aq,owed (dU n os 0)):=by intro _;kernel_rfl) (hr:r'=(l'.take n).length+(r'-n):=by kernel_rfl) (hl:l'=l'.take n++l'.drop n:=by kernel_rfl):bZ P β N ops S r' l' fr au Q:=
 bZ.reads _ (dJ (dU n os 0)) aq h (uX _) hr hl K
theorem nC (pk:List Nat) (aq:List Nat) (os:List (Nat×OP)) (ds:List (Nat×List (Nat×Value))) (K:bZ P β N ops S 0 lm (fK P β 0 false N #[o'] (dJ (dU 1 os 0)) 0 fr au aq) (kq au ds) Q) (bW:ops[i]?=some o':=by rfl) (hg:o'.guard=none:=by rfl)
 (h:∀b ai,nV P β b false N ai #[o'] (dJ (dU 1 os 0)) 0 fr au (cE (fJ P β 0 false N #[o'] (dJ (dU 1 os 0)) 0 fr au aq)) (vD (kq au ds).length 0)=some (0+1,fJ P β 0 false N #[o'] (dJ (dU 1 os 0)) 0 fr au aq,kq au ds,owed (dU 1 os 0)):=by intro _ _;kernel_rfl)
 (hb:vC #[o'] 1 0 (cE (fJ P β 0 false N #[o'] (dJ (dU 1 os 0)) 0 fr au aq)) (cE fr)=true:=by kernel_rfl) (hn:cC pk=true:=by kernel_rfl) (hp:cU (kq au ds) pk=some S:=by kernel_rfl):bZ P β N ops S 0 (i::lm) fr au Q:=mC pk _ os ds K bW hg h hb hn hp
end m
theorem mY {k:Nat} (ix V4:List Nat) (v0:Value) (hs:aU P β f args pre post) (K:bN P β N ops (k+1) (eT fr (jE ops k) v0) au Q) (hv:∀v l,post v l->v=v0/\l=pre:=by intro _ _ h;exact h)
 (hc:∀ai,rC P β N ai ops fr k=some (f,args,jE ops k):=by intro _;kernel_rfl) (hn:cC (ix++oO ix au.length 0)=true:=by kernel_rfl) (hp:cU au (ix++oO ix au.length 0)=some (pre++mo ix au 0):=by kernel_rfl) (hn':cC V4=true:=by kernel_rfl) (cR:cU (pre++mo ix au 0) V4=some au:=by kernel_rfl):bN P β N ops k fr au Q:=
 bN.call hc hs hn hp hn' cR hv K
end mix
section sat
variable {β:Bs} {l:List HP} {w:World} {p p1 p2:HP} {i:Nat}
theorem aR.abX (h:aR β l w) (hp:l[i]?=some p) (hs:∀F,p.h F w->∃F1 F2,p1.h F1 w/\p2.h F2 w/\Apart F1 F2/\∀k,F k↔F1 k\/F2 k):aR β (l.set i p1++[p2]) w:=by
 obtain⟨ho,φ,h1,h2,h3⟩:=h
 obtain⟨F1,F2,g1,g2,g3,g4⟩:=hs _ (h1 i p hp)
 have hi:=dO hp
 have jD:(l.set i p1++[p2]).length=l.length+1:=aii
 refine⟨ho,λj=>if j=l.length then F2 else if j=i then F1 else φ j,λj q hq=>?_,λj hj k hk hO=>?_,λa b ha hb cu k hk jw=>?_⟩
 all_goals grind [dO,aR,Apart]
theorem aR.abY {j:Nat} {aq:List Nat} {l':List HP} (h:aR β l w) (hp:l[i]?=some p1) (hq:l[j]?=some p2) (hn:cC (i::j::aq)=true) (hl:cU l aq=some l') (hs:∀F1 F2,p1.h F1 w->p2.h F2 w->Apart F1 F2->∃F,p.h F w/\∀k,F k->F1 k\/F2 k):aR β (p::l') w:=by
 have h':=h.pick (aq:=i::j::aq) (l':=p1::p2::l') hn (by simp only [cU,hp,hq,hl])
 obtain⟨ho,φ,h1,h2,h3⟩:=h'
 obtain⟨F,hF,hk⟩:=hs _ _ (h1 0 p1 rfl) (h1 1 p2 rfl) (h3 0 1 aii aii Pd)
 have jD:(p1::p2::l').length=l'.length+2:=rfl
 rw [jD] at h2 h3
 refine⟨ho,λj=>if j=0 then F else φ (j+1),λj q hq=>?_,λj hj k hkk hO=>?_,λa b ha hb cu k hk1 hk2=>?_⟩
 ·grind
 ·grind
 simp only [aiV] at ha hb
 have key:∀j,j<l'.length->F k->φ (j+2) k->False:=λj hj e1 e2=>by
  rcases hk k e1 with e|e
  ·exact h3 0 (j+2) zc zc zc k e e2
  exact h3 1 (j+2) zc zc zc k e e2
 cases a with
 |zero=>
   cases b with
   |zero=>exact cu rfl
   |succ b=>exact key b zc (by simpa using hk1) (by simpa using hk2)
 |succ a=>
   cases b with
   |zero=>exact key a zc (by simpa using hk2) (by simpa using hk1)
   |succ b=>exact h3 (a+2) (b+2) zc zc zc k (by simpa using hk1) (by simpa using hk2)
end sat
def kR (R:Nat->d9) (n:Nat):d9 where
 h F w:=∃φ:Nat->Fp,(∀i,i<n->(R i).h (φ i) w)/\(∀i j,i<n->j<n->i≠j->Apart (φ i) (φ j))/\∀k,F k↔∃i,i<n/\φ i k
 lt:=λ⟨_,h1,_,h3⟩ k hk=>let ⟨i,hi,hk⟩:=(h3 k).1 hk;(R i).lt (h1 i hi) k hk
 st:=λ⟨φ,h1,h2,h3⟩ _ _ hk hn=>⟨φ,λi hi=>(R i).st (h1 i hi) hk (λk hk=>hn k ((h3 k).2 ⟨i,hi,hk⟩)),h2,h3⟩
def d9.none:d9 where
 h F _:=∀k,¬F k
 lt:=λh k hk=>ain hk (h k)
 st:=λh _ _ _ _=>h
def ol (R:Nat->d9) (k:Nat) (a:d9):Nat->d9:=λi=>if i=k then a else R i
section Wa
variable {β:Bs} {l l':List HP} {w:World} {i n k:Nat} {R R':Nat->d9} {a:d9}
theorem kR.nil (R:Nat->d9) (w:World):(HP.abs (kR R 0)).h (λ_=>False) w:=⟨λ_ _=>False,λi hi=>ain hi (aiq i),λi _ hi=>ain hi (aiq i),λ_=>⟨λh=>h.elim,λ⟨i,hi,_⟩=>ain hi (aiq i)⟩⟩
theorem aR.JF (h:aR β l w) (R:Nat->d9):aR β (l++[.abs (kR R 0)]) w:=aR.new h (kR.nil R w) (cF.refl _ _) (λ_ h=>h.elim)
theorem aR.SI (h:aR β l w) (hp:l[i]?=some (.abs (kR R n))) (hk:k<n):aR β (l.set i (.abs (kR (ol R k d9.none) n))++[.abs (R k)]) w:=by
 refine h.abX hp ?_
 rintro F ⟨φ,h1,h2,h3⟩
 refine⟨λx=>∃i,i<n/\i≠k/\φ i x,φ k,⟨λi=>if i=k then λ_=>False else φ i,λi hi=>?_,λi j hi hj cu x hx hy=>?_,λx=>⟨λ⟨i,hi,cu,hx⟩=>⟨i,hi,by simpa [cu] using hx⟩,λ⟨i,hi,hx⟩=>?_⟩⟩,h1 k hk,λx ⟨i,hi,cu,hx⟩ hy=>h2 i k hi hk cu x hx hy,λx=>⟨λhx=>?_,λhx=>?_⟩⟩
 ·unfold ol
  by_cases e:i=k
  ·simp only [e,if_true];exact λ_ h=>h
  simp only [e,if_false];exact h1 i hi
 ·by_cases e1:i=k
  ·simp [e1] at hx
  by_cases e2:j=k
  ·simp [e2] at hy
  exact h2 i j hi hj cu x (by simpa [e1] using hx) (by simpa [e2] using hy)
 ·by_cases e1:i=k
  ·simp [e1] at hx
  exact⟨i,hi,e1,by simpa [e1] using hx⟩
 all_goals grind
theorem aR.vF {j:Nat} {aq:List Nat} (h:aR β l w) (hp:l[i]?=some (.abs (kR R n))) (hq:l[j]?=some (.abs a)) (hn:cC (i::j::aq)=true) (hl:cU l aq=some l') (hR:∀x,x<n->R' x=R x) (ha:R' n=a):aR β (.abs (kR R' (n+1))::l') w:=by
 refine h.abY hp hq hn hl ?_
 rintro F1 F2 ⟨φ,h1,h2,h3⟩ hF hap
 refine⟨λx=>F1 x\/F2 x,⟨λi=>if i=n then F2 else φ i,λi hi=>?_,λi j hi hj cu x hx hy=>?_,λx=>⟨λhx=>?_,λ⟨i,hi,hx⟩=>?_⟩⟩,λx hx=>hx⟩
 ·by_cases e:i=n
  ·subst e;simp only [if_true];rw [ha];exact hF
  grind
 ·by_cases e1:i=n
  ·by_cases e2:j=n
   ·exact cu (e1.trans e2.symm)
   simp only [e1,if_true] at hx
   simp only [e2,if_false] at hy
   exact hap x ((h3 x).2 ⟨j,zc,hy⟩) hx
  simp only [e1,if_false] at hx
  by_cases e2:j=n
  ·simp only [e2,if_true] at hy
   exact hap x ((h3 x).2 ⟨i,zc,hx⟩) hy
  simp only [e2,if_false] at hy
  exact h2 i j zc zc cu x hx hy
 ·rcases hx with hx|hx
  ·grind
  exact⟨n,aiM n,by simpa using hx⟩
 grind
theorem kR.base {F:Fp} {β':Bs} (h:(HP.abs (kR R n)).h F w) (h1:∀k,F k->β'.O k) (_:β'.w0=w) {Φ:Nat->Bs->Prop} (Ey:∀i,i<n->∀F,(R i).h F w->(∀k,F k->β'.O k)->Φ i β'):∀i,i<n->Φ i β':=by
 obtain⟨φ,g1,_,g3⟩:=h
 grind
end Wa
section DG
variable {P:Program} {β:Bs} {N:fL} {ops:Array Oper} {S:List HP} {l:List Nat} {fr:Fr} {au:List HP} {Q:Post} {i:Nat}
def Ze (β:Bs) (N:fL) {ι:Type} (B:ι->Bs) (Φ:ι->Prop) (fr:ι->Fr) (hp:ι->List HP):Post:=λ_ a w=>∃i ai,β.le (B i)/\Φ i/\a=fB N (fr i) ai/\aR (B i) (hp i) w
theorem ay.DJ {ye:Bs} {ι:Type} {B:ι->Bs} {Φ:ι->Prop} {bL:ι->Fr} {cR:ι->List HP} (j:ι) {aq pk:List Nat} (hb:B j=β) (dL:ye.le β) (Ey:Φ j) (hf:∀ai,kJ fr ai aq=bL j) (hn:cC pk=true) (hp:cU au pk=some (cR j)):ay β N (NP (Ze ye N B Φ bL cR)) .normal fr au:=by
 subst hb
 exact λai _ hS=>⟨j,lk fr ai,dL,Ey,by rw [og N fr ai aq,hf ai],hS.pick hn hp⟩
end DG
section y
variable {P:Program} {β ye:Bs} {N:fL} {ops:Array Oper} {S:List HP} {l l':List (Bool×Nat)} {fr bL:Fr} {au:List HP} {Q:Post} {i:Nat} {eV:List Prop}
def rG (P:Program) (ops:Array Oper) (Q:Post) (R S:World->Prop):List (Bool×Nat)->Act->World->Prop
 |[],a,w=>Q .normal a w
 |(false,i)::l,a,w=>wpOp P ops Q i (λa' w'=>(l=[]\/S w')/\rG P ops Q R S l a' w') a w
 |(true,i)::l,a,w=>∃o v,ops[i]?=some o/\YieldsIf P ops R o v a/\rG P ops Q R S l (a.put o.dst v) w
theorem Ii {R S:World->Prop} (hs:∀w,S w->R w):∀(l:List (Bool×Nat)) (a:Act) (w:World),rG P ops Q R S l a w->lF P ops Q S l a w
 |[],_,_,h=>h
 |(false,i)::l,a,w,h=>by
   unfold rG at h;unfold lF
   exact wpOp_mono (λa' w' h'=>⟨h'.1,Ii hs l a' w' h'.2⟩) h
 |(true,i)::l,a,w,h=>by
   unfold rG at h;unfold lF
   obtain⟨o,v,h1,h2,h3⟩:=h
   exact⟨o,v,h1,h2.imp (λq=>⟨q.1,λw hw=>q.2 w (hs w hw)⟩) id,Ii hs l _ w h3⟩
def Bs.bare (β:Bs):Bs:=⟨λ_=>False,β.w0⟩
theorem aR.bare {w:World} (h:aR β S w):aR β.bare [] w:=by
 obtain⟨ho,_⟩:=h
 exact⟨⟨ho.os,ho.tape,ho.output,ho.size,λk hk=>hk.elim⟩,λ_ _=>False,λi p h=>ain h (by simp),λi hi=>ain hi (aiq i),λi j hi=>ain hi (aiq i)⟩
def Grown (a b:Bs):Prop:=a=b\/a.le b
theorem Grown.trans {a b c:Bs} (h:Grown a b) (g:b.le c):Grown a c:=.inr (h.elim (λe=>e ▸ g) (λh=>h.trans g))
theorem Grown.sat {a b:Bs} {w:World} (h:Grown a b) (hS:aR b S w):aR a S w:=h.elim (λe=>e ▸ hS) (λh=>hS.Jx h)
def kr (P:Program) (β ye:Bs) (N:fL) (ops:Array Oper) (S:List HP) (l:List (Bool×Nat)) (fr:Fr) (au:List HP) (Q:Post):Prop:=
 ∀ai w,aR β au w->rG P ops (NP Q) (aR ye.bare []) (aR ye S) l (fB N fr ai) w
theorem eH.Mz (K:kr P β β N ops S l fr au Q):eH P β N ops S l fr au Q:=λai w hS=>Ii (λ_ h=>h.bare) _ _ _ (K ai w hS)
theorem kr.agH {ι:Type} {B:ι->Bs} {Φ:ι->Prop} {bL:ι->Fr} {cR:ι->List HP} (pk:List Nat) (dL:Grown ye β) (hg:gB ops i=true) (h:ar P β N (lu ops i) i fr au (NP (Ze β N B Φ bL cR))) (hn:cC pk=true) (hp:∀j,cU (cR j) pk=some S)
 (K:∀j,β.le (B j)->Φ j->kr P (B j) ye N ops S l (bL j) (cR j) Q):kr P β ye N ops S ((false,i)::l) fr au Q:=by
 intro ai w hS
 unfold rG
 refine tI hg (su (Q':=_) (λa w ⟨j,oy,hle2,Ey,ha,iA⟩=>?_) _ (h ai w hS))
 subst ha
 exact⟨.inr ((dL.trans hle2).sat (iA.pick hn (hp j))),K j hle2 Ey oy w iA⟩
theorem kr.last (hg:gB ops i=true) (h:ar P β N (lu ops i) i fr au (NP Q)):kr P β ye N ops S [(false,i)] fr au Q:=by
 grind [rG,tI,su,gB,ar,lu,NP,kr]
theorem AF {ai:Nat->Value} {w:World} {S2:World->Prop}:∀{hs:List OH} {is:List Nat} {fr bL:Fr} {T T':SS},pK P β N ai ops hs is fr T=some (bL,T')->(∀p,p∈T'.eV->p)->T.used=true->T.au=S →
 rG P ops (NP Q) (aR β S) S2 l (fB N bL ai) w->rG P ops (NP Q) (aR β S) S2 (is.map (λi=>(true,i))++l) (fB N fr ai) w
 |[],[],fr,bL,T,T',h,ho,hu,hT,hK=>by cases h;exact hK
 |h::hs,i::is,fr,bL,T,T',hr,ho,hu,hT,hK=>by
   unfold pK at hr
   repeat' split at hr
   all_goals first|(cases hr;done)|skip
   ·rename_i o hget _ sy _ v T1 h0 _ hv
    obtain⟨e1,e2⟩:=zU h0
    rw [aiP,aiT]
    unfold rG
    refine⟨o,v,hget,.inl ⟨by rw [ia];exact sy,λw' iA=>?_⟩,?_⟩
    ·rw [jb]
     obtain⟨w2,h1,_,_,h4⟩:=qC h0 (λp hp=>ho p (wg hr p hp)) (by rw [hT];exact iA) (λe=>by rw [hu] at e;cases e)
     obtain⟨ew,_⟩:=h4 rfl
     rw [ew] at h1
     rcases h1 with h1|⟨h1,_⟩
     ·exact h1
     exact ain h1 (vB hv)
    rw [ij]
    exact AF hr ho (e2.trans hu) (e1.trans hT) hK
   rename_i o hget _ sy
   rw [aiP,aiT]
   unfold rG
   refine⟨o,undef,hget,.inr ⟨by rw [ia];exact sy,rfl⟩,?_⟩
   rw [ij]
   exact AF hr ho hu hT hK
 |[],_::_,_,_,_,_,h,_,_,_,_=>by cases h
 |_::_,[],_,_,_,_,h,_,_,_,_=>by cases h
theorem gH (l2:List (Bool×Nat)) (EX:Fr) (is:List Nat) (os:List (Nat×OP)) (K:kr P β ye N ops S l2 EX au Q)
 (h:∀ai,sx P ye.bare N ai ops (dJ (dU is.length os 0)) is fr [] (cE EX)=some (EX,owed (dU is.length os 0)):=by intro _;kernel_rfl) (hl:l'=is.map (λi=>(true,i))++l2:=by rfl):kr P β ye N ops S l' fr au Q:=by
 intro ai w hS
 subst hl
 have h0:=h ai
 unfold sx at h0
 split at h0
 ·rename_i sQ S1 h1
  injection h0 with h0
  injection h0 with e1 e2
  have hK:=K (lk sQ ai) w hS
  rw [←e1,←og] at hK
  exact AF h1 (λp hp=>(uX _).mem (by rw [←e2];exact hp)) rfl rfl hK
 cases h0
end y
end
section
open Go.RowKit Go.WideShapes Go.ChangeShapes Go.ChangeAt Go.Deep
theorem laidOut:laidOutB Tryz.prog=true:=KB
theorem own:ownKnob Tryz.prog.godebug=none:=KB
section row
variable {H:Type} {enc:TypeId×Value->H} {P:Program}
theorem EA (hl:laidOutB P=true) {W W':World} (hb:Below W.heap.size W W') {sp:Nat->Bool}:∀{ts:List TypeId} {vs:List Value} {ds:List (DataW H)} {ps:List MemPlace},
 (∀t∈ts,P.readableRec t=true/\t<P.types.size)->DataW.TrodAll enc P W 0 (λ_=>true) true ts vs ds ps->(∀x∈ps,x.block<W.heap.size)->(∀x∈ps,sp x.block=true)->DataW.TrodAll enc P W' 0 sp true ts vs ds ps
 |[],vs,ds,ps,_,h,_,_=>by
   obtain⟨rfl,rfl,rfl⟩:=trodAll_nil h
   exact trodAll_mk0
 |t::ts,vs,ds,ps,hr,h,fP,hsp=>by
   obtain⟨v,vs',d,ds',p,q,rfl,rfl,rfl,h1,h2⟩:=trodAll_cons h
   have h3:=hr t aiw
   exact trodAll_cons_mk (WideElems.Trod_stays hl h3.1 h3.2 h1 (λx hx=>hb.same (fP x (aiL.2 (.inl hx)))) (λx hx=>hsp x (aiL.2 (.inl hx))))
    (EA hl hb (λt ht=>hr t (aiv _ ht)) h2 (λx hx=>fP x (aiL.2 (.inr hx))) (λx hx=>hsp x (aiL.2 (.inr hx))))
def ad3 (P:Program) (f:Func):Bool:=f.params.toList.all λt=>P.readableRec t && decide (t<P.types.size)
theorem law_post (hl:laidOutB P=true) {f:Func} {s:ChangeSpec} {apart fresh handsOn again:Bool} {W W':World} {args:Array Value} {ds gs:List (DataW H)} {before:List MemPlace} {tb:TypeId} {rb:Bool}
 (hW:DataW.Whole enc P f.params.toList s.vars apart W args.toList ds gs before) (hvars:s.vars=[]) (hrow:ad3 P f=true) (hres:f.resultTypes=#[tb]) (hb0:P.underlying tb=some .bool)
 (hfn:(s.fn H (ds++gs)).results=[.lit (.bool rb)]) (hargs:(s.fn H (ds++gs)).args=ds) (hv:(s.fn H (ds++gs)).vars=[]) (hb:Below W.heap.size W W') :
 s.post enc P f apart fresh handsOn again W args (.bool rb) W':=by
 have hW':=hW
 obtain⟨p,q,hA,hV,rfl,_,_⟩:=hW
 rw [hvars] at hV
 obtain⟨rfl,rfl⟩:=trodVars_none hV
 have fP:∀x∈p,x.block<W.heap.size:=λx hx=>hW'.lt x (aiL.2 (.inl hx))
 have hr:∀t∈f.params.toList,P.readableRec t=true/\t<P.types.size:=λt ht=>by
  grind [ad3]
 refine N0 (pa:=p) (pv:=[]) hW' (λb sp hd=>?_) (λsp hsp=>?_) (λsp _=>?_) aii hb (ok_one hres rfl (okWide_bool_mk hb0 _))
 ·rw [hfn,hres]
  exact trodAll_cons_mk (shut_bool hb0 _) trodAll_mk0
 ·grind [EA]
 rw [hvars,hv]
 exact rfl
end row
end
section
open Go.RowKit
structure fA where
 name:ByteArray
 id:Int
deriving Inhabited,DecidableEq
structure aL where
 id:Int
 kind:Int
 mode:Int
 bg:Int
 bh:Int
 aT:Int
 aJ:Int
 data:List UInt8
 target:ByteArray
 ah:List fA
deriving Inhabited,DecidableEq
structure eP where
 dA:Nat->Option Addr
 eA:Nat->Option Addr
 dC:Nat->Nat
 eC:Nat->Nat
def nd (ns:List aL) (i:Nat):aL:=ns.getD i default
def en (es:List fA) (i:Nat):fA:=es.getD i default
def BM (b:UInt8):Value:=.int .u8 ((b.toNat:Nat):Int)
def dQ (d:List UInt8):List Value:=d.map BM
def Ij (e:fA):List Value:=[.string e.name,.int .i64 e.id]
def iy (L:eP) (i:Nat) (n:aL):List Value:=
 [.int .i64 n.id,.int .i64 n.kind,.int .i64 n.mode,.int .i64 n.bg,.int .i64 n.bh,.int .i64 n.aT,.int .i64 n.aJ,.slice (L.dA i) n.data.length (L.dC i),.string n.target,.slice (L.eA i) n.ah.length (L.eC i)]
def fk {α:Type} (f:Nat->α->List Value):Nat->List α->List Value
 |_,[]=>[]
 |k,a::r=>f k a++fk f (k+1) r
section flat
variable {α:Type} {f:Nat->α->List Value} {s:Nat}
theorem BN (hs:∀i a,(f i a).length=s):∀(l:List α) (k:Nat),(fk f k l).length=l.length*s
 |[],_=>by simp [fk]
 |a::r,k=>by rw [fk,ait,hs,BN hs r,aiV,Nat.add_mul,Nat.one_mul,ajq]
theorem vG (hs:∀i a,(f i a).length=s):∀(l:List α) (k i j:Nat) (a:α),l[i]?=some a->j<s->(fk f k l)[i*s+j]?=(f (k+i) a)[j]?
 |[],k,i,j,a,h,_=>by simp at h
 |b::r,k,0,j,a,h,hj=>by
   simp at h
   subst h
   rw [fk,Nat.zero_mul,aiE,ajm (by rw [hs];exact hj)]
   rfl
 |b::r,k,i+1,j,a,h,hj=>by
   have h':r[i]?=some a:=by simpa using h
   have e:(i+1)*s+j=s+(i*s+j):=by rw [Nat.add_mul,Nat.one_mul];omega
   rw [fk,e,ajf (by rw [hs];omega),hs,Nat.add_sub_cancel_left,vG hs r (k+1) i j a h' hj]
   have:k+1+i=k+(i+1):=zc
   rw [this]
theorem DK (a:α):∀(l:List α) (k:Nat),fk f k (l++[a])=fk f k l++f (k+l.length) a
 |[],k=>by simp [fk]
 |b::r,k=>by
   rw [aiT,fk,fk,DK a r (k+1),aiN,aiV]
   have:k+1+r.length=k+(r.length+1):=zc
   rw [this]
theorem CO {g:Nat->α->List Value}:∀(l:List α) (k:Nat),(∀i a,l[i]?=some a->f (k+i) a=g (k+i) a)->fk f k l=fk g k l
 |[],_,_=>rfl
 |b::r,k,h=>by
   have h1:fk f (k+1) r=fk g (k+1) r:=CO r (k+1) (λi a hi=>by
    have:=h (i+1) a (by simpa using hi)
    have e:k+1+i=k+(i+1):=zc
    rw [e]
    exact this)
   have h2:f k b=g k b:=h 0 b rfl
   rw [fk,fk,h1,h2]
end flat
def nB (es:List fA):List Value:=fk (λ_ e=>Ij e) 0 es
def bD (L:eP) (ns:List aL):List Value:=fk (iy L) 0 ns
theorem t6 (d:List UInt8):(dQ d).length=d.length:=by simp [dQ]
theorem MB (es:List fA):(nB es).length=es.length*2:=BN (s:=2) (λ_ _=>rfl) es 0
theorem oz (L:eP) (ns:List aL):(bD L ns).length=ns.length*10:=BN (s:=10) (λ_ _=>rfl) ns 0
theorem getD_some {α:Type} {l:List α} {i:Nat} {x:α} (h:i<l.length):l[i]?=some (l.getD i x):=by
 grind
theorem qw (d:List UInt8):∀u∈dQ d,u.oneCell'=true:=by
 intro u hu
 obtain⟨b,_,rfl⟩:=aiC.1 hu
 rfl
theorem yg {α:Type} {f:Nat->α->List Value} (h:∀i a,∀u∈f i a,u.oneCell'=true):∀(l:List α) (k:Nat),∀u∈fk f k l,u.oneCell'=true
 |[],_,u,hu=>by simp [fk] at hu
 |b::r,k,u,hu=>by
   rw [fk] at hu
   rcases aiL.1 hu with hu|hu
   ·exact h k b u hu
   exact yg h r (k+1) u hu
theorem EY (es:List fA):∀u∈nB es,u.oneCell'=true:=yg (λ_ a u hu=>by simp [Ij] at hu;rcases hu with rfl|rfl<;>rfl) es 0
section at_
variable {β β':Bs} {A:Option Addr}
def bp (β:Bs) (A:Option Addr) (d:List UInt8):Prop:=cA β A (dQ d)
def cT (β:Bs) (A:Option Addr) (es:List fA):Prop:=cA β A (nB es)
theorem bp.le {d:List UInt8} (h:bp β A d) (dL:β.le β'):bp β' A d:=cA.le h dL
theorem cT.le {es:List fA} (h:cT β A es) (dL:β.le β'):cT β' A es:=cA.le h dL
theorem bp.get {d:List UInt8} (h:bp β A d) {j:Nat} (hj:j<d.length):A=some ⟨bG A,bE A,none⟩/\Rd β ⟨bG A,bE A+j*1,none⟩ (.int .u8 (((d.getD j 0).toNat:Nat):Int)):=by
 have h1:(dQ d)[j]?=some (BM (d.getD j 0)):=by
  grind [dQ,getD_some]
 have:=h j _ h1
 rw [Nat.mul_one]
 exact this
theorem bp.hd {d:List UInt8} (h:bp β A d) {j:Nat} (hj:j<d.length):A=some ⟨bG A,bE A,none⟩:=(h.get hj).1
theorem bp.rd {d:List UInt8} (h:bp β A d) {j:Nat} (hj:j<d.length):Rd β ⟨bG A,bE A+j*1,none⟩ (.int .u8 (((d.getD j 0).toNat:Nat):Int)):=(h.get hj).2
theorem cT.get {es:List fA} (h:cT β A es) {i:Nat} (hi:i<es.length) {j:Nat} {v:Value} (hv:(Ij (en es i))[j]?=some v):A=some ⟨bG A,bE A,none⟩/\Rd β ⟨bG A,bE A+i*2+j,none⟩ v:=by
 have hj:j<2:=dO hv
 have h1:=vG (f:=λ_ e=>Ij e) (s:=2) (λ_ _=>rfl) es 0 i j _ (getD_some (x:=default) hi) hj
 have:=h (i*2+j) v (h1.trans hv)
 rw [←ajl] at this
 exact this
theorem cT.hd {es:List fA} (h:cT β A es) {i:Nat} (hi:i<es.length):A=some ⟨bG A,bE A,none⟩:=(h.get hi (j:=0) rfl).1
theorem cT.rd {es:List fA} (h:cT β A es) {i:Nat} (hi:i<es.length) {j:Nat} {v:Value} (hv:(Ij (en es i))[j]?=some v):Rd β ⟨bG A,bE A+i*2+j,none⟩ v:=(h.get hi hv).2
theorem cA.src {au:List HP} {xs:List Value} (h:cA β A xs):∀w,aR β au w->(A=none/\xs.length=0)\/∃ad,A=some ad/\∀j u,xs[j]?=some u->w.cell? (ad.add j)=some u:=by
 intro w hS
 cases hA:A with
 |none=>
   refine .inl ⟨rfl,?_⟩
   cases xs with
   |nil=>rfl
   |cons x r=>have:=(h 0 x rfl).1;rw [hA] at this;cases this
 |some a=>
   refine .inr ⟨a,rfl,λj u hj=>?_⟩
   obtain⟨h1,h2⟩:=h j u hj
   rw [hA] at h1 h2
   have e1:a=⟨bG (some a),bE (some a),none⟩:=by injection h1
   have ea:a.add j=⟨bG (some a),bE (some a)+j,none⟩:=by
    rw [e1]
    unfold Addr.add
    split
    ·rename_i h0;subst h0;rfl
    rfl
   rw [ea]
   exact hS.1.cell h2
end at_
structure aN (β:Bs) (A:Option Addr) (ns:List aL) (L:eP):Prop where
 row:cA β A (bD L ns)
 data:∀i,i<ns.length->bp β (L.dA i) (nd ns i).data
 ah:∀i,i<ns.length->cT β (L.eA i) (nd ns i).ah
structure oP (β:Bs) (ns:List aL) (k:Nat) (L:eP):Prop where
 data:∀i,i<k->bp β (L.dA i) (nd ns i).data
 ah:∀i,i<k->cT β (L.eA i) (nd ns i).ah
def eP.put (L:eP) (k:Nat) (dA:Option Addr) (dC:Nat) (eA:Option Addr) (eC:Nat):eP:=
 ⟨λi=>if i=k then dA else L.dA i,λi=>if i=k then eA else L.eA i,λi=>if i=k then dC else L.dC i,λi=>if i=k then eC else L.eC i⟩
section graph
variable {β β':Bs} {A:Option Addr} {ns:List aL} {L:eP}
theorem aN.le (h:aN β A ns L) (dL:β.le β'):aN β' A ns L:=⟨h.row.le dL,λi hi=>(h.data i hi).le dL,λi hi=>(h.ah i hi).le dL⟩
theorem aN.get (h:aN β A ns L) {i:Nat} (hi:i<ns.length) {j:Nat} {v:Value} (hv:(iy L i (nd ns i))[j]?=some v):A=some ⟨bG A,bE A,none⟩/\Rd β ⟨bG A,bE A+i*10+j,none⟩ v:=by
 have hj:j<10:=dO hv
 have h1:=vG (f:=iy L) (s:=10) (λ_ _=>rfl) ns 0 i j _ (getD_some (x:=default) hi) hj
 rw [aiE] at h1
 have:=h.row (i*10+j) v (h1.trans hv)
 rw [←ajl] at this
 exact this
theorem aN.hd (h:aN β A ns L) {i:Nat} (hi:i<ns.length):A=some ⟨bG A,bE A,none⟩:=(h.get hi (j:=0) rfl).1
theorem aN.rd (h:aN β A ns L) {i:Nat} (hi:i<ns.length) {j:Nat} {v:Value} (hv:(iy L i (nd ns i))[j]?=some v):Rd β ⟨bG A,bE A+i*10+j,none⟩ v:=(h.get hi hv).2
theorem oP.le {k:Nat} (h:oP β ns k L) (dL:β.le β'):oP β' ns k L:=⟨λi hi=>(h.data i hi).le dL,λi hi=>(h.ah i hi).le dL⟩
theorem oP.put {k:Nat} (h:oP β ns k L) {dA eA:Option Addr} {dC eC:Nat} (hd:bp β dA (nd ns k).data) (he:cT β eA (nd ns k).ah):oP β ns (k+1) (L.put k dA dC eA eC):=by
 refine⟨λi hi=>?_,λi hi=>?_⟩
 ·by_cases e:i=k
  ·subst e;simpa [eP.put] using hd
  simpa [eP.put,e] using h.data i zc
 by_cases e:i=k
 ·subst e;simpa [eP.put] using he
 simpa [eP.put,e] using h.ah i zc
theorem JG {k:Nat} (hk:k<ns.length) (dA:Option Addr) (dC:Nat) (eA:Option Addr) (eC:Nat) :
 bD L (ns.take k)++[.int .i64 (nd ns k).id,.int .i64 (nd ns k).kind,.int .i64 (nd ns k).mode,.int .i64 (nd ns k).bg,.int .i64 (nd ns k).bh,.int .i64 (nd ns k).aT,.int .i64 (nd ns k).aJ,.slice dA (nd ns k).data.length dC,.string (nd ns k).target,.slice eA (nd ns k).ah.length eC] =
  bD (L.put k dA dC eA eC) (ns.take (k+1)):=by
 have e1:ns.take (k+1)=ns.take k++[nd ns k]:=by
  rw [List.take_succ_eq_append_getElem hk]
  simp [nd,List.getD_eq_getElem?_getD,hk]
 have jD:(ns.take k).length=k:=by simp;omega
 rw [bD,bD,e1,DK,jD,aiE]
 grind [fk,iy,CO,dO,eP.put]
theorem aN.mk' {k:Nat} (hrow:cA β A (bD L (ns.take k))) (h:oP β ns k L) (hk:ns.length<=k):aN β A ns L:=by
 rw [ai4 hk] at hrow
 exact⟨hrow,λi hi=>h.data i zc,λi hi=>h.ah i zc⟩
end graph
end
section
open Go.RowKit Go.WideShapes Go.ChangeShapes Go.ChangeAt Go.Deep
abbrev B0 (W:World):Bs:=⟨(· < W.heap.size),W⟩
theorem SJ {w:World} {a:Addr} {v:Value} (h:w.cell? a=some v):a.block<w.heap.size:=by
 unfold World.cell? at h
 grind
theorem Wb {w:World} {a:Addr} {v:Value} (h:w.cell? a=some v):a.spot=none:=by
 unfold World.cell? at h
 split at h
 ·split at h
  ·cases h
  rename_i h0
  cases hs:a.spot with
  |none=>rfl
  |some x=>rw [hs] at h0;exact ain rfl h0
 cases h
theorem add_plain {a:Addr} (k:Nat) (h:a.spot=none):a.add k=⟨a.block,a.off+k,none⟩:=by
 obtain⟨b,o,s⟩:=a
 cases h
 unfold Addr.add
 split
 ·rename_i h0;subst h0;rfl
 rfl
theorem DL {H:Type} {D:Nat->DataW H} {n i:Nat} (hi:i<n):Rows.uptoBulk (D i)<=Rows.uptoBulkAll ((List.range n).map D):=by
 have hm:D i∈(List.range n).map D:=Pe
 generalize (List.range n).map D=l at hm
 induction l with
 |nil=>cases hm
 |cons x r ih=>
   simp only [Rows.uptoBulkAll]
   grind
theorem Zf {H:Type} (d:DataW H):1<=Rows.uptoBulk d:=by
 cases d with
 |lit l=>cases l<;>simp [Rows.uptoBulk]
 |nil=>simp [Rows.uptoBulk]
 |ptr d=>simp [Rows.uptoBulk]
 |slice elems spare=>simp [Rows.uptoBulk]
 |agg parts=>simp [Rows.uptoBulk]
 |iface t d=>simp [Rows.uptoBulk]
 |map entries=>simp [Rows.uptoBulk]
 |held h=>simp [Rows.uptoBulk]
theorem wU {H:Type} (l:List (DataW H)):l.length<=Rows.uptoBulkAll l:=by
 induction l with
 |nil=>simp [Rows.uptoBulkAll]
 |cons x r ih=>have:=Zf x;simp only [Rows.uptoBulkAll,aiV];omega
theorem bulk_mem {H:Type} {d:DataW H} {l:List (DataW H)} (h:d∈l):Rows.uptoBulk d<=Rows.uptoBulkAll l:=by
 induction l with
 |nil=>cases h
 |cons x r ih=>
   simp only [Rows.uptoBulkAll]
   grind
section open_
variable {H:Type} {enc:TypeId×Value->H} {P:Program} {W:World} {sp:Nat->Bool}
theorem uY {α:Type} [Inhabited α] {t e:TypeId} {size:Nat} {f:α->List Value} {Q:α->DataW H->Prop} (ht:P.underlying t=some (.slice e)) (hC:P.cellsOf e=size) (h0:0<size)
 (hel:∀n cs x,DataW.trod enc P W 0 sp true n e cs=some x->∃a,cs=f a/\Q a x.1) (hf:∀a,(f a).length=size)
 {fuel:Nat} {cs:List Value} {x:DataW H×List MemPlace} (h:DataW.trod enc P W 0 sp true fuel t cs=some x) :
 ∃A c,∃xs:List α,∃D:Nat->DataW H,cs=[.slice A xs.length c]/\xs.length<=c/\c<=maxLen/\cA (B0 W) A (fk (λ_ a=>f a) 0 xs)/\(∀i,i<xs.length->Q (xs.getD i default) (D i)) ∧
   Rows.uptoBulkAll ((List.range xs.length).map D)+1<=Rows.uptoBulk x.1:=by
 rcases open_slice ht h with ⟨hv,hx⟩|⟨a,len,cap,m,n,D,Pl,hcs,hb,hl,hm,hmm,hx,hi⟩
 ·subst hv
  refine⟨none,0,[],λ_=>.nil,rfl,aiu _,aio _,λj v hj=>by simp [fk] at hj,λi hi=>ain hi (aiq i),?_⟩
  rw [hx]
  simp [Rows.uptoBulk,Rows.uptoBulkAll]
 have hlm:len<=m:=by rw [hmm];split<;>omega
 have hch:∀i,∃b:α,i<len->(W.cells? 0 (a.add (i*P.cellsOf e)) (P.cellsOf e)=some (f b)/\Q b (D i)):=λi=>by
  by_cases hil:i<len
  ·obtain⟨cs',h1,h2⟩:=hi i zc
   grind
  exact⟨default,λh=>ain h hil⟩
 have hg:=λi=>Classical.choose_spec (hch i)
 generalize hG:(λi=>Classical.choose (hch i))=g at hg
 have hg:∀i,i<len->W.cells? 0 (a.add (i*P.cellsOf e)) (P.cellsOf e)=some (f (g i))/\Q (g i) (D i):=λi hi=>by
  grind
 have jD:((List.range len).map g).length=len:=aii
 have hget:∀i,i<len->((List.range len).map g)[i]?=some (g i):=λi hi=>by simp [hi]
 have ahG:∀i,i<len->((List.range len).map g).getD i default=g i:=Pe
 have hs1:0<len->a.spot=none:=λhl0=>by
  obtain⟨h2,-⟩:=hg 0 hl0
  rw [hC] at h2
  obtain⟨_,hcl,hat⟩:=World.cells?_some h2
  have h3:=hat 0 h0
  rw [aiy (by rw [hcl];exact h0)] at h3
  have e:(a.add (0*size)).add 0=a:=by rw [Nat.zero_mul];rfl
  rw [e] at h3
  exact Wb h3
 refine⟨some a,cap,(List.range len).map g,D,by rw [jD];exact hcs,by rw [jD];exact hl,hm,λj v hj=>?_,λi hi'=>?_,?_⟩
 ·have hfl:=BN (f:=λ_ a=>f a) (s:=size) (λ_ a=>hf a) ((List.range len).map g) 0
  have hjl:=dO hj
  rw [hfl,jD] at hjl
  have vA:j / size<len:=(Nat.div_lt_iff_lt_mul h0).2 hjl
  have hj2:j % size<size:=Nat.mod_lt _ h0
  have e:=Nat.div_add_mod j size
  rw [Nat.mul_comm] at e
  have h1:=vG (f:=λ_ a=>f a) (s:=size) (λ_ a=>hf a) _ 0 _ (j % size) _ (hget _ vA) hj2
  rw [e,hj] at h1
  obtain⟨h2,-⟩:=hg _ vA
  rw [hC] at h2
  obtain⟨_,_,hat⟩:=World.cells?_some h2
  have h3:=hat _ hj2
  rw [←h1] at h3
  have hs1:=hs1 (Nat.lt_of_le_of_lt (aio _) vA)
  rw [add_plain _ hs1] at h3
  rw [add_plain (a:=⟨a.block,a.off+j / size*size,none⟩) _ rfl] at h3
  have e2:a.off+j / size*size+j % size=a.off+j:=zc
  have h4:W.cell? ⟨a.block,a.off+j,none⟩=some v:=by rw [←e2];exact h3
  have ea:(some a:Option Addr)=some ⟨bG (some a),bE (some a),none⟩:=by
   obtain⟨b,o,s⟩:=a
   cases hs1
   rfl
  exact⟨ea,SJ h4,h4⟩
 ·grind
 rw [hx,jD]
 simp only [Rows.uptoBulk]
 omega
theorem SK {t:TypeId} {n:Nat} {cs:List Value} {x:DataW H×List MemPlace} (ht:P.underlying t=some (.int .u8)) (h:DataW.trod enc P W 0 sp true n t cs=some x):∃b:UInt8,cs=[BM b]/\True:=by
 obtain⟨z,h1,_,h3⟩:=DataW.trod_int ht h
 have h4:0<=z/\z<=255:=by simpa [Lit.wf,IntKind.min,IntKind.max,IntKind.signed,IntKind.bits] using h3
 refine⟨UInt8.ofNat z.toNat,?_,trivial⟩
 have e:(((UInt8.ofNat z.toNat).toNat:Nat):Int)=z:=by
  rw [UInt8.toNat_ofNat']
  omega
 rw [BM,e]
 exact h1
def yh (z:Int):Prop:=-9223372036854775808<=z/\z<=9223372036854775807
theorem om {t:TypeId} {n:Nat} {c:Value} {x:DataW H×List MemPlace} (ht:P.underlying t=some (.int .i64)) (h:DataW.trod enc P W 0 sp true n t [c]=some x):∃z,c=.int .i64 z/\yh z:=by
 obtain⟨z,h1,_,h3⟩:=DataW.trod_int ht h
 cases h1
 exact⟨z,rfl,by unfold yh;simpa [Lit.wf,IntKind.min,IntKind.max,IntKind.signed,IntKind.bits] using h3⟩
theorem vf {t:TypeId} {n:Nat} {c:Value} {x:DataW H×List MemPlace} (ht:P.underlying t=some .string) (h:DataW.trod enc P W 0 sp true n t [c]=some x):∃s:ByteArray,c=.string s/\s.size+1<=Rows.uptoBulk x.1:=by
 obtain⟨s,h1,h2,_⟩:=DataW.trod_string ht h
 cases h1
 refine⟨s,rfl,?_⟩
 rw [h2]
 simp only [Rows.uptoBulk,Array.length_toList]
 exact aiu _
end open_
section graph
variable {H:Type} {enc:TypeId×Value->H} {W:World} {sp:Nat->Bool}
theorem JH:∀(d:List UInt8) (k:Nat),fk (λ_ b=>[BM b]) k d=dQ d
 |[],_=>rfl
 |b::r,k=>by rw [fk,JH r (k+1)];rfl
theorem JI {n:Nat} {c:Value} {x:DataW H×List MemPlace} (h:DataW.trod enc Tryz.prog W 0 sp true n 51 [c]=some x) :
 ∃A cp,∃d:List UInt8,c=.slice A d.length cp/\bp (B0 W) A d/\d.length+1<=Rows.uptoBulk x.1:=by
 obtain⟨A,cp,xs,D,h1,_,_,h2,_,h3⟩:=uY (α:=UInt8) (f:=λb=>[BM b]) (Q:=λ_ _=>True) Tryz.underlying51 (size:=1) KB Pd (λn cs x h=>SK Tryz.underlying5 h) (λ_=>rfl) h
 cases h1
 have:=wU ((List.range xs.length).map D)
 refine⟨A,cp,xs,rfl,?_,by simp at this;omega⟩
 rw [JH] at h2
 exact h2
structure Ui (e:fA) (b:Nat):Prop where
 id:yh e.id
 name:e.name.size+1<=b
theorem cG {n:Nat} {cs:List Value} {xs:List (DataW H×List MemPlace)} {i:Nat} {t:TypeId} (h:DataW.trod enc Tryz.prog W 0 sp true n t cs=xs[i]?) (hi:i<xs.length):DataW.trod enc Tryz.prog W 0 sp true n t cs=some xs[i]/\Rows.uptoBulk (xs[i]).1<=Rows.uptoBulk (.agg (xs.map (·.1))):=by
 refine⟨h.trans (aiy hi),?_⟩
 have hm:(xs[i]).1∈xs.map (·.1):=Pe
 have:=bulk_mem hm
 simp only [Rows.uptoBulk]
 omega
theorem Zg {n:Nat} {cs:List Value} {x:DataW H×List MemPlace} (h:DataW.trod enc Tryz.prog W 0 sp true n 149 cs=some x):∃e:fA,cs=Ij e/\Ui e (Rows.uptoBulk x.1):=by
 obtain⟨ys,m,_,hx,hl,wG,hf⟩:=DataW.trod_struct Tryz.underlying149 h
 have hC:Tryz.prog.cellsOf 149=2:=KB
 rw [hC] at hl
 match cs,hl with
 |[c0,c1],_=>
   obtain⟨h0,b0⟩:=cG (hf 0 _ rfl) (by rw [wG];decide)
   obtain⟨h1,_⟩:=cG (hf 1 _ rfl) (by rw [wG];decide)
   obtain⟨s,rfl,hs⟩:=vf Tryz.underlying9 h0
   obtain⟨z,rfl,hz⟩:=om Tryz.underlying3 h1
   exact⟨⟨s,z⟩,rfl,⟨hz,by rw [hx];exact air hs b0⟩⟩
theorem Wd {n:Nat} {c:Value} {x:DataW H×List MemPlace} (h:DataW.trod enc Tryz.prog W 0 sp true n 93 [c]=some x) :
 ∃A cp,∃es:List fA,c=.slice A es.length cp/\cT (B0 W) A es/\es.length+1<=Rows.uptoBulk x.1/\∀i,i<es.length->Ui (en es i) (Rows.uptoBulk x.1):=by
 obtain⟨A,cp,xs,D,h1,_,_,h2,h4,h3⟩:=uY (α:=fA) (f:=Ij) (Q:=λe d=>Ui e (Rows.uptoBulk d)) Tryz.underlying93 (size:=2) KB Pd (λn cs x h=>Zg h) (λ_=>rfl) h
 cases h1
 have h5:=wU ((List.range xs.length).map D)
 refine⟨A,cp,xs,rfl,h2,by simp at h5;omega,λi hi=>⟨(h4 i hi).id,?_⟩⟩
 have h6:=(h4 i hi).name
 have h7:=DL (D:=D) hi
 unfold en
 omega
structure abZ (nd:aL) (b:Nat):Prop where
 ids:yh nd.id/\yh nd.kind/\yh nd.mode/\yh nd.bg/\yh nd.bh/\yh nd.aT/\yh nd.aJ
 data:nd.data.length+1<=b
 target:nd.target.size+1<=b
 ah:nd.ah.length+1<=b
 bS:∀i,i<nd.ah.length->Ui (en nd.ah i) b
structure JJ where
 n:aL
 dA:Option Addr
 dC:Nat
 eA:Option Addr
 eC:Nat
deriving Inhabited
def nlV (a:JJ):List Value:=[.int .i64 a.n.id,.int .i64 a.n.kind,.int .i64 a.n.mode,.int .i64 a.n.bg,.int .i64 a.n.bh,.int .i64 a.n.aT,.int .i64 a.n.aJ,.slice a.dA a.n.data.length a.dC,.string a.n.target,.slice a.eA a.n.ah.length a.eC]
structure ab0 (W:World) (a:JJ) (b:Nat):Prop where
 nb:abZ a.n b
 data:bp (B0 W) a.dA a.n.data
 ah:cT (B0 W) a.eA a.n.ah
theorem Wf {n:Nat} {cs:List Value} {x:DataW H×List MemPlace} (h:DataW.trod enc Tryz.prog W 0 sp true n 95 cs=some x):∃a:JJ,cs=nlV a/\ab0 W a (Rows.uptoBulk x.1):=by
 obtain⟨ys,m,_,hx,hl,wG,hf⟩:=DataW.trod_struct Tryz.underlying95 h
 have hC:Tryz.prog.cellsOf 95=10:=KB
 rw [hC] at hl
 match cs,hl with
 |[c0,c1,c2,c3,c4,c5,c6,c7,c8,c9],_=>
   obtain⟨h0,_⟩:=cG (hf 0 _ rfl) (by rw [wG];decide)
   obtain⟨h1,_⟩:=cG (hf 1 _ rfl) (by rw [wG];decide)
   obtain⟨h2,_⟩:=cG (hf 2 _ rfl) (by rw [wG];decide)
   obtain⟨h3,_⟩:=cG (hf 3 _ rfl) (by rw [wG];decide)
   obtain⟨h4,_⟩:=cG (hf 4 _ rfl) (by rw [wG];decide)
   obtain⟨h5,_⟩:=cG (hf 5 _ rfl) (by rw [wG];decide)
   obtain⟨h6,b6⟩:=cG (hf 6 _ rfl) (by rw [wG];decide)
   obtain⟨h7,b7⟩:=cG (hf 7 _ rfl) (by rw [wG];decide)
   obtain⟨h8,b8⟩:=cG (hf 8 _ rfl) (by rw [wG];decide)
   obtain⟨z0,rfl,w0⟩:=om Tryz.underlying3 h0
   obtain⟨z1,rfl,w1⟩:=om Tryz.underlying3 h1
   obtain⟨z2,rfl,w2⟩:=om Tryz.underlying3 h2
   obtain⟨z3,rfl,w3⟩:=om Tryz.underlying3 h3
   obtain⟨z4,rfl,w4⟩:=om Tryz.underlying3 h4
   obtain⟨us,_,_,_,_,yj,hu⟩:=DataW.trod_struct Tryz.underlying26 h5
   obtain⟨g0,_⟩:=cG (hu 0 _ rfl) (by rw [yj];decide)
   obtain⟨g1,_⟩:=cG (hu 1 _ rfl) (by rw [yj];decide)
   obtain⟨z5,rfl,w5⟩:=om (c:=c5) Tryz.underlying3 g0
   obtain⟨z6,rfl,w6⟩:=om (c:=c6) Tryz.underlying3 g1
   obtain⟨A7,p7,d7,rfl,q7,l7⟩:=JI (c:=c7) h6
   obtain⟨s8,rfl,l8⟩:=vf (c:=c8) Tryz.underlying9 h7
   obtain⟨A9,p9,e9,rfl,q9,l9,k9⟩:=Wd (c:=c9) h8
   rw [hx]
   exact⟨⟨⟨z0,z1,z2,z3,z4,z5,z6,d7,s8,e9⟩,A7,p7,A9,p9⟩,rfl,⟨⟨w0,w1,w2,w3,w4,w5,w6⟩,air l7 b6,air l8 b7,air l9 b8,λi hi=>⟨(k9 i hi).id,air (k9 i hi).name b8⟩⟩,q7,q9⟩
structure j6 (ns:List aL) (b:Nat):Prop where
 len:ns.length+1<=b
 node:∀i,i<ns.length->abZ (nd ns i) b
theorem JK (L:eP):∀(xs:List JJ) (k:Nat),(∀i,i<xs.length->L.dA (k+i)=(xs.getD i default).dA/\L.dC (k+i)=(xs.getD i default).dC/\L.eA (k+i)=(xs.getD i default).eA/\L.eC (k+i)=(xs.getD i default).eC)->fk (λ_ a=>nlV a) k xs=fk (iy L) k (xs.map (·.n))
 |[],_,_=>rfl
 |a::r,k,h=>by
   obtain⟨h1,h2,h3,h4⟩:=h 0 aii
   simp only [Nat.add_zero,List.getD_cons_zero] at h1 h2 h3 h4
   rw [fk,aiP,fk,JK L r (k+1) (λi hi=>by
    have:=h (i+1) (by simp;omega)
    rw [List.getD_cons_succ] at this
    have e:k+(i+1)=k+1+i:=zc
    rw [e] at this
    exact this)]
   rw [iy,h1,h2,h3,h4]
   rfl
theorem Uj {n:Nat} {c:Value} {x:DataW H×List MemPlace} (h:DataW.trod enc Tryz.prog W 0 sp true n 22 [c]=some x) :
 ∃A cp,∃ns:List aL,∃L:eP,c=.slice A ns.length cp/\aN (B0 W) A ns L/\j6 ns (Rows.uptoBulk x.1):=by
 obtain⟨A,cp,xs,D,h1,_,_,h2,h4,h3⟩:=uY (α:=JJ) (f:=nlV) (Q:=λa d=>ab0 W a (Rows.uptoBulk d)) Tryz.underlying22 (size:=10) KB Pd (λn cs x h=>Wf h) (λ_=>rfl) h
 cases h1
 have h5:=wU ((List.range xs.length).map D)
 have e:(xs.map (·.n)).length=xs.length:=aii
 have hnd:∀i,i<xs.length->nd (xs.map (·.n)) i=(xs.getD i default).n:=λi hi=>by
  simp [nd,List.getD_eq_getElem?_getD,hi]
 refine⟨A,cp,xs.map (·.n),⟨λi=>(xs.getD i default).dA,λi=>(xs.getD i default).eA,λi=>(xs.getD i default).dC,λi=>(xs.getD i default).eC⟩,by rw [e],⟨?_,λi hi=>?_,λi hi=>?_⟩,by simp at h5;rw [e];omega,λi hi=>?_⟩
 ·rw [JK ⟨λi=>(xs.getD i default).dA,λi=>(xs.getD i default).eA,λi=>(xs.getD i default).dC,λi=>(xs.getD i default).eC⟩ xs 0 (λi _=>Pe)] at h2
  exact h2
 ·rw [e] at hi
  rw [hnd i hi]
  exact (h4 i hi).data
 ·rw [e] at hi
  rw [hnd i hi]
  exact (h4 i hi).ah
 rw [e] at hi
 rw [hnd i hi]
 have h7:=DL (D:=D) hi
 have h8:=(h4 i hi).nb
 exact⟨h8.ids,by have:=h8.data;omega,by have:=h8.target;omega,by have:=h8.ah;omega,λj hj=>⟨(h8.bS j hj).id,by have:=(h8.bS j hj).name;omega⟩⟩
end graph
end
section
theorem Ik {α:Type} {x:α} {a b:List α} (hl:a.length=b.length) (h:∀j,j<a.length->a.getD j x=b.getD j x):a=b:=by
 apply List.ext_getElem hl
 grind
theorem acX {a b:UInt8} (h:((a.toNat:Nat):Int)=((b.toNat:Nat):Int)):a=b:=aiX.1 zc
theorem afY {a b:fA} (h:a.name=b.name/\a.id=b.id):a=b:=by cases a;cases b;simp_all
theorem ad4 {n m:aL} (h1:n.id=m.id) (h2:n.kind=m.kind) (h3:n.mode=m.mode) (h4:n.bg=m.bg) (h5:n.bh=m.bh) (h6:n.aT=m.aT/\n.aJ=m.aJ) (h7:n.target=m.target) (h8:n.data=m.data) (h9:n.ah=m.ah):n=m:=by
 cases n;cases m;simp_all
end
section
open Go.RowKit
theorem RA {w:World} {o:Oper} {ev:Operand->Value} {x y:Operand} {a b c d:Int} (ho:o.op=.binOp .neq 26 x y 26) (hx:ev x=.agg #[.int .i64 a,.int .i64 b]) (hy:ev y=.agg #[.int .i64 c,.int .i64 d]) :
 tv Tryz.prog ev o w (.bool (!decide (a=c/\b=d))) w:=by
 obtain⟨dst,op,type,pos,after,guard⟩:=o
 cases ho
 refine .inl ?_
 simp only [execOp,hx,hy]
 simp [go_sem]
 grind
theorem Uk {w:World} {o:Oper} {ev:Operand->Value} {x y:Operand} {a c:ByteArray} {b d:Int} (ho:o.op=.binOp .neq 149 x y 149) (hx:ev x=.agg #[.string a,.int .i64 b]) (hy:ev y=.agg #[.string c,.int .i64 d]) :
 tv Tryz.prog ev o w (.bool (!decide (a=c/\b=d))) w:=by
 obtain⟨dst,op,type,pos,after,guard⟩:=o
 cases ho
 refine .inl ?_
 simp only [execOp,hx,hy]
 simp [go_sem,EP]
 grind
end
section
open Go.RowKit
attribute [local irreducible] ar bN ak ay
theorem EZ {β:Bs} (A1 A2:Option Addr) (c1 c2:Nat) (d1 d2:List UInt8) (hA1:bp β A1 d1) (hA2:bp β A2 d2) (hl:d1.length<=140737488355328) :
 aU Tryz.prog β 38 #[.slice A1 d1.length c1,.slice A2 d2.length c2] [] (λv l=>v=.bool (decide (d1=d2))/\l=[]):=by
 refine SE Tryz.func38 Tryz.ntmps38 (λR=>SR (jK 1 [] [] (NZ (jK 5 [10] [] (NN (cN ((((d1.length:Nat):Int):Int)=(((d2.length:Nat):Int):Int)) (λh10=>zR ⟨by rw [aip (λe=>h10 (by rw [e]))],rfl⟩) (λh10=>KX (SQ (jK 1 [5] [] (NN (ak.block (lJ (λ(i:Nat)=>(i<=d1.length)/\(∀j,j<i->d1.getD j 0=d2.getD j 0)) (λ(i:Nat)=>d1.length-i) (λ(i:Nat)=>[(0,.slice A1 (d1.length) (c1)),(1,.slice A2 (d2.length) (c2)),(5,vI ↑i)]) (λ(i:Nat)=>[.abs R]) 0 [0] (⟨aio _,λj hj=>ain hj (aiq j)⟩) ?_))))))))))))
 rintro i ⟨hi,jW⟩
 exact SQ (jK 4 [14] [] (NN (cP ((((i:Nat):Int):Int)<(((d1.length:Nat):Int):Int)) (λmZ=>KX (ak.seq (ak.block (ak.seq (rQ (jQ 9 [25] [(2,x_ i d1.length (bp.hd hA1 (j:=i) zc)),(3,p_ ⟨[.old (.int .u8 ((((List.getD d1 i 0).toNat:Nat):Int)))],none,none,none,none⟩ [(Rd β ⟨(bG A1),bE A1+i*1,none⟩ (.int .u8 ((((List.getD d1 i 0).toNat:Nat):Int))))] ⟨bp.rd hA1 zc,trivial⟩),(6,x_ i d2.length (bp.hd hA2 (j:=i) zc)),(7,p_ ⟨[.old (.int .u8 ((((List.getD d2 i 0).toNat:Nat):Int)))],none,none,none,none⟩ [(Rd β ⟨(bG A2),bE A2+i*1,none⟩ (.int .u8 ((((List.getD d2 i 0).toNat:Nat):Int))))] ⟨bp.rd hA2 zc,trivial⟩)] (NQ (NX (cN (((((List.getD d1 i 0).toNat:Nat):Int):Int)=((((List.getD d2 i 0).toNat:Nat):Int):Int)) (λqi=>zR ⟨by rw [aip (λe=>qi (by rw [e]))],rfl⟩) (λqi=>KX (ak.region (jK 3 [5] [(1,wJ ((i:Int)+1) (↑(i+1)))] (NL (tJ ((i+1)) [0] (⟨zc,λj hj=>by grind [acX]⟩))))))))))))))) (λmZ=>XX (zR ⟨by rw [aiD (Ik (x:=0) zc (λj hj=>jW j zc))],rfl⟩)))))
theorem OQ {β:Bs} (A:Option Addr) (c:Nat) (d:List UInt8) (hA:bp β A d) (hl:d.length<=1048576) :
 bU Tryz.prog β 25 #[.slice A d.length c] [] (λβ' v l=>∃B cap,v=.slice B d.length cap/\l=[]/\bp β' B d):=by
 refine mM Tryz.func25 Tryz.ntmps25 (λav R=>SR (jK 1 [] [] (NS (jB 2 [3] (λb1=>.ax b1 [] 5) (λb1=>NS (ar.mem (λw hS=>hS.o9 (i:=1) (b:=b1) (cs:=[]) (e:=5) 1 0 KB rfl Pd) (jK 2 [5,6] [] (SH 1 51 A d.length c (dQ d) rfl (hA.src) (λA2 c3=>ar.cJ 1 rfl (by rw [aiE,List.nil_append]) (sl 7 (.slice A2 (0+d.length) (c3)) (.slice A2 (d.length) (c3)) (by rw [aiE]) (jK 1 [3] [] (NS (ar.nw (Φ:=λβ'=>bp β' A2 d) 1 [0] (eX:=[.abs R]) rfl rfl KB (λF w h β' h1 h2=>cA.iM h h1 h2) (λβ1 cD hB=>?_)))))) (hl:=by rw [t6,Nat.mul_one]) (h1:=qw d)))))))))
 replace hA:=hA.le cD
 replace av:=av.trans cD
 exact jK 2 [2] [] (eO [] av ⟨A2,c3,rfl,rfl,hB⟩)
theorem RG {β:Bs} (n:aL) (dA eA:Option Addr) (dC eC:Nat) (hD:bp β dA n.data) (hE:cT β eA n.ah) (hl1:n.data.length<=1048576) (hl2:n.ah.length<=1048576) :
 bU Tryz.prog β 47 #[.agg #[vI (n.id),vI (n.kind),vI (n.mode),vI (n.bg),vI (n.bh),vI (n.aT),vI (n.aJ),.slice dA (n.data.length) (dC),.string n.target,.slice eA (n.ah.length) (eC)]] [] (λβ' v l=>∃dB cd eB ce,v=.agg #[vI (n.id),vI (n.kind),vI (n.mode),vI (n.bg),vI (n.bh),vI (n.aT),vI (n.aJ),.slice dB (n.data.length) (cd),.string n.target,.slice eB (n.ah.length) (ce)]/\l=[]/\bp β' dB n.data/\cT β' eB n.ah):=by
 refine mM Tryz.func47 Tryz.ntmps47 (λav R=>SR (jB 1 [1] (λb4=>.ax b4 [vI (n.id),vI (n.kind),vI (n.mode),vI (n.bg),vI (n.bh),vI (n.aT),vI (n.aJ),.slice dA (n.data.length) (dC),.string n.target,.slice eA (n.ah.length) (eC)] 95) (λb4=>jB 1 [2] (λb5=>.ax b5 [vI 0,vI 0,vI 0,vI 0,vI 0,vI 0,vI 0,.slice none (0) (0),.string ⟨#[]⟩,.slice none (0) (0)] 95) (λb5=>NS (jK 2 [5] [(1,a_ 1 b4)] (ar.Uf (args:=#[.slice dA (n.data.length) (dC)]) (d:=(some 6)) (pre:=[]) (R:=[.abs R,.ax b4 [vI (n.id),vI (n.kind),vI (n.mode),vI (n.bg),vI (n.bh),vI (n.aT),vI (n.aJ),.slice dA (n.data.length) (dC),.string n.target,.slice eA (n.ah.length) (eC)] 95,.ax b5 [vI 0,vI 0,vI 0,vI 0,vI 0,vI 0,vI 0,.slice none (0) (0),.string ⟨#[]⟩,.slice none (0) (0)] 95]) (pk:=[0,1,2]) (λ_=>KB) (OQ dA dC n.data hD hl1) rfl KB ?_))))))
 rintro β1 _ _ cD ⟨B6,c7,rfl,rfl,Dd⟩
 replace hD:=hD.le cD
 replace hE:=hE.le cD
 replace av:=av.trans cD
 refine jC 2 [] [(1,a_ 1 b4)] [(1,[(7,.slice B6 (n.data.length) (c7))])] (NS (jB 2 [3] (λb8=>.ax b8 [] 149) (λb8=>NS (ar.mem (λw hS=>hS.o9 (i:=3) (b:=b8) (cs:=[]) (e:=149) 2 0 KB rfl Pd) (jK 3 [9,11] [(2,a_ 1 b4)] (ny 3 93 eA n.ah.length eC (nB n.ah) rfl (hE.src) (λA9 c10=>ar.cJ 3 rfl (by rw [aiE,List.nil_append]) (sl 12 (.slice A9 (0+n.ah.length) (c10)) (.slice A9 (n.ah.length) (c10)) (by rw [aiE]) (jK 1 [3] [] (NS (ar.nw (Φ:=λβ'=>cT β' A9 n.ah) 3 [0,1,2] (eX:=[.abs R,.ax b4 [vI (n.id),vI (n.kind),vI (n.mode),vI (n.bg),vI (n.bh),vI (n.aT),vI (n.aJ),.slice B6 (n.data.length) (c7),.string n.target,.slice eA (n.ah.length) (eC)] 95,.ax b5 [vI 0,vI 0,vI 0,vI 0,vI 0,vI 0,vI 0,.slice none (0) (0),.string ⟨#[]⟩,.slice none (0) (0)] 95]) rfl rfl KB (λF w h β' h1 h2=>cA.iM h h1 h2) (λox fo hE1=>?_)))))) (hl:=by rw [MB]) (h1:=EY n.ah)))))))
 replace hD:=hD.le fo
 replace hE:=hE.le fo
 replace Dd:=Dd.le fo
 replace av:=av.trans fo
 exact jC 3 [] [(2,a_ 1 b4)] [(1,[(9,.slice A9 (n.ah.length) (c10))])] (NS (jC 2 [] [(0,A_ 1 b4 10),(1,A_ 2 b5 10)] [(2,[(0,vI (n.id)),(1,vI (n.kind)),(2,vI (n.mode)),(3,vI (n.bg)),(4,vI (n.bh)),(5,vI (n.aT)),(6,vI (n.aJ)),(7,.slice B6 (n.data.length) (c7)),(8,.string n.target),(9,.slice A9 (n.ah.length) (c10))])] (eO [A_ 2 b5 10] av ⟨B6,c7,A9,c10,rfl,rfl,Dd,hE1⟩)))
theorem OU {β:Bs} (A:Option Addr) (c:Nat) (ns:List aL) (L:eP) (hG:aN β A ns L) (hl:ns.length<=1048576) (hd:∀i,i<ns.length->(nd ns i).data.length<=1048576/\(nd ns i).ah.length<=1048576) :
 bU Tryz.prog β 19 #[.agg #[.slice A ns.length c]] [] (λβ' v l=>∃B cap L',v=.agg #[.slice B ns.length cap]/\l=[]/\aN β' B ns L'):=by
 refine mM Tryz.func19 Tryz.ntmps19 (λav R=>SR (jB 1 [1] (λb11=>.ax b11 [.slice A (ns.length) (c)] 24) (λb11=>jB 1 [2] (λb12=>.ax b12 [.slice none (0) (0)] 24) (λb12=>NS (jB 2 [3] (λb13=>.ax b13 [] 95) (λb13=>NZ (ar.mem (λw hS=>hS.o9 (i:=3) (b:=b13) (cs:=[]) (e:=95) 10 0 KB rfl Pd) (jK 1 [4] [] (NN (ak.block (lB (λ(k,b,Ao,cp,L')=>b) (λ(k,b,Ao,cp,L')=>(k<=ns.length)/\(β.le b)/\(aN b A ns L)/\(oP b ns k L')) (λ(k,b,Ao,cp,L')=>ns.length-k) (λ(k,b,Ao,cp,L')=>[(1,vP b11),(2,vP b12),(3,.slice Ao (k) (cp)),(4,vI ↑k)]) (λ(k,b,Ao,cp,L')=>[.ax b11 [.slice A (ns.length) (c)] 24,.ax b12 [.slice none (0) (0)] 24,.abs (aF 95 10 Ao k cp (bD L' (ns.take k))),.abs R]) (0,β,some ⟨b13,0,none⟩,0,⟨λ_=>none,λ_=>none,λ_=>0,λ_=>0⟩) [1,2,3,0] (⟨aio _,av,hG,⟨λi hi=>ain hi (aiq _),λi hi=>ain hi (aiq _)⟩⟩) ?_)))))))))))
 rintro⟨k,b,Ao,cp,L'⟩ ⟨hk,av,hG,hI⟩
 refine SQ (jK 5 [10] [(2,a_ 0 b11)] (NN (cP ((((k:Nat):Int):Int)<(((ns.length:Nat):Int):Int)) (λh10=>?_) (λh10=>?_))))
 ·refine KX (ak.seq (ak.block (ak.region (jK 6 [13,18] [(2,a_ 0 b11),(4,x_ k ns.length (aN.hd hG (i:=k) zc)),(5,Ez (iy L k (nd ns k)) (λ_ _ h=>aN.rd hG zc h))] (ar.Uf (args:=#[.agg ⟨iy L k (nd ns k)⟩]) (d:=(some 19)) (pre:=[]) (R:=[.ax b11 [.slice A (ns.length) (c)] 24,.ax b12 [.slice none (0) (0)] 24,.abs (aF 95 10 Ao k cp (bD L' (ns.take k))),.abs R]) (pk:=[0,1,2,3]) (λ_=>KB) (RG (nd ns k) (L.dA k) (L.eA k) (L.dC k) (L.eC k) (hG.data k zc) (hG.ah k zc) (hd k zc).1 (hd k zc).2) rfl KB ?_)))))
  rintro vg _ _ iJ ⟨Zh,Zi,Zj,Zk,rfl,rfl,hdB,heB⟩
  replace hG:=hG.le iJ
  replace hI:=hI.le iJ
  replace av:=av.trans iJ
  exact jB 1 [20] (λb19=>.ax b19 [vI ((nd ns k).id),vI ((nd ns k).kind),vI ((nd ns k).mode),vI ((nd ns k).bg),vI ((nd ns k).bh),vI ((nd ns k).aT),vI ((nd ns k).aJ),.slice Zh ((nd ns k).data.length) (Zi),.string (nd ns k).target,.slice Zj ((nd ns k).ah.length) (Zk)] 95) (λb19=>ny 2 22 (some ⟨b19,0,none⟩) 1 1 [vI ((nd ns k).id),vI ((nd ns k).kind),vI ((nd ns k).mode),vI ((nd ns k).bg),vI ((nd ns k).bh),vI ((nd ns k).aT),vI ((nd ns k).aJ),.slice Zh ((nd ns k).data.length) (Zi),.string (nd ns k).target,.slice Zj ((nd ns k).ah.length) (Zk)] rfl (fQ (j:=4) rfl) (λoH oI=>ar.cJ 2 rfl (by rw [JG zc]) (jK 1 [3] [] (LX (ak.region (jK 3 [4] [(1,wJ ((k:Int)+1) (↑(k+1)))] (NL (tB ((k+1),vg,oH,oI,(L'.put k Zh Zi Zj Zk)) [0,1,2,3] (⟨zc,av,hG,hI.put hdB heB⟩)))))))))
 refine XX (SR (ar.nw (Φ:=λβ'=>cA β' Ao (bD L' (ns.take k))) 2 [0,1,3] (eX:=[.ax b11 [.slice A (ns.length) (c)] 24,.ax b12 [.slice none (0) (0)] 24,.abs R]) rfl rfl KB (λF w h β' h1 h2=>cA.iM h h1 h2) (λβz Lj hR=>?_)))
 replace hG:=hG.le Lj
 replace hI:=hI.le Lj
 replace av:=av.trans Lj
 exact sl 3 (.slice Ao (k) (cp)) (.slice Ao (ns.length) (cp)) (by rw [show k=ns.length by omega]) (jC 3 [] [(2,a_ 1 b12)] [(1,[(0,.slice Ao (ns.length) (cp))])] (eO [a_ 1 b12] av ⟨Ao,cp,L',rfl,rfl,aN.mk' hR hI zc⟩ [2]))
theorem RH {β:Bs} (n m:aL) (dA eA dB eB:Option Addr) (dC eC dD eD:Nat) (hD:bp β dA n.data) (hE:cT β eA n.ah) (BO:bp β dB m.data) (yq:cT β eB m.ah) (hl1:n.data.length<=140737488355328) (hl2:n.ah.length<=1048576) :
 aU Tryz.prog β 58 #[.agg #[vI (n.id),vI (n.kind),vI (n.mode),vI (n.bg),vI (n.bh),vI (n.aT),vI (n.aJ),.slice dA (n.data.length) (dC),.string n.target,.slice eA (n.ah.length) (eC)],.agg #[vI (m.id),vI (m.kind),vI (m.mode),vI (m.bg),vI (m.bh),vI (m.aT),vI (m.aJ),.slice dB (m.data.length) (dD),.string m.target,.slice eB (m.ah.length) (eD)]] [] (λv l=>v=.bool (decide (n=m))/\l=[]):=by
 refine SE Tryz.func58 Tryz.ntmps58 (λR=>SR (jB 1 [2] (λAJ=>.ax AJ [vI (n.id),vI (n.kind),vI (n.mode),vI (n.bg),vI (n.bh),vI (n.aT),vI (n.aJ),.slice dA (n.data.length) (dC),.string n.target,.slice eA (n.ah.length) (eC)] 95) (λAJ=>jB 2 [3] (λwh=>.ax wh [vI (m.id),vI (m.kind),vI (m.mode),vI (m.bg),vI (m.bh),vI (m.aT),vI (m.aJ),.slice dB (m.data.length) (dD),.string m.target,.slice eB (m.ah.length) (eD)] 95) (λwh=>NZ (jK 6 [11] [(1,a_ 1 AJ),(3,a_ 2 wh)] (sN 11 ((n.id:Int)=(m.id:Int)) (λh11=>jK 58 [69] [] (NT (zR ⟨by rw [aip (λe=>h11 Pe)],rfl⟩))) (λh11=>jK 7 [18] [(1,a_ 1 AJ),(3,a_ 2 wh)] (sN 18 ((n.kind:Int)=(m.kind:Int)) (λql=>jK 51 [69] [] (NT (zR ⟨by rw [aip (λe=>ql Pe)],rfl⟩))) (λql=>jK 7 [25] [(1,a_ 1 AJ),(3,a_ 2 wh)] (sN 25 ((n.mode:Int)=(m.mode:Int)) (λqi=>jK 44 [69] [] (NT (zR ⟨by rw [aip (λe=>qi Pe)],rfl⟩))) (λqi=>jK 7 [32] [(1,a_ 1 AJ),(3,a_ 2 wh)] (sN 32 ((n.bg:Int)=(m.bg:Int)) (λsR=>jK 37 [69] [] (NT (zR ⟨by rw [aip (λe=>sR Pe)],rfl⟩))) (λsR=>jK 7 [39] [(1,a_ 1 AJ),(3,a_ 2 wh)] (sN 39 ((n.bh:Int)=(m.bh:Int)) (λnN=>jK 30 [69] [] (NT (zR ⟨by rw [aip (λe=>nN Pe)],rfl⟩))) (λnN=>jK 4 [41,43] [(1,A_ 1 AJ 2),(3,A_ 2 wh 2)] (ar.oh (d:=(some 44)) (op:=.binOp .neq 26 (.tmp 41) (.tmp 43) 26) (v:=.bool (!(decide ((n.aT:Int)=(m.aT:Int)/\(n.aJ:Int)=(m.aJ:Int))))) (λ_=>KB) (λo ai w ho hS=>⟨w,RA ho KB KB,hS⟩) (jK 2 [46] [] (sN 46 ((n.aT:Int)=(m.aT:Int)/\(n.aJ:Int)=(m.aJ:Int)) (λh46=>jK 23 [69] [] (NT (zR ⟨by rw [aip (λe=>h46 Pe)],rfl⟩))) (λh46=>jK 7 [53] [(1,a_ 1 AJ),(3,a_ 2 wh),(4,w_ (.bool (!(decide ((n.target:ByteArray)=m.target)))) (Ju _ _))] (sN 53 ((n.target:ByteArray)=m.target) (λMC=>jK 16 [69] [] (NT (zR ⟨by rw [aip (λe=>MC Pe)],rfl⟩))) (λMC=>jK 9 [62] [(1,a_ 1 AJ),(4,a_ 2 wh)] (sN 62 ((((n.ah.length:Nat):Int):Int)=(((m.ah.length:Nat):Int):Int)) (λG7=>jK 7 [69] [] (NT (zR ⟨by rw [aip (λe=>G7 Pe)],rfl⟩))) (λG7=>jK 4 [64,66] [(1,a_ 1 AJ),(3,a_ 2 wh)] (gE [] (EZ dA dB dC dD n.data m.data hD BO hl1) (jK 2 [69] [] (NN (cN (n.data=m.data) (λh69=>zR ⟨by rw [aip (λe=>h69 Pe)],rfl⟩) (λh69=>KX (SQ (jK 1 [5] [] (NN (ak.block (lJ (λ(i:Nat)=>(i<=n.ah.length)/\(∀j,j<i->n.ah.getD j default=m.ah.getD j default)) (λ(i:Nat)=>n.ah.length-i) (λ(i:Nat)=>[(2,vP AJ),(3,vP wh),(5,vI ↑i)]) (λ(i:Nat)=>[.abs R,.ax AJ [vI (n.id),vI (n.kind),vI (n.mode),vI (n.bg),vI (n.bh),vI (n.aT),vI (n.aJ),.slice dA (n.data.length) (dC),.string n.target,.slice eA (n.ah.length) (eC)] 95,.ax wh [vI (m.id),vI (m.kind),vI (m.mode),vI (m.bg),vI (m.bh),vI (m.aT),vI (m.aJ),.slice dB (m.data.length) (dD),.string m.target,.slice eB (m.ah.length) (eD)] 95]) 0 [0,1,2] (⟨aio _,λj hj=>ain hj (aiq j)⟩) ?_)))))))))))))))))))))))))))))))))
 rintro i ⟨hi,jW⟩
 exact SQ (jK 5 [74] [(2,a_ 1 AJ)] (NN (cP ((((i:Nat):Int):Int)<(((n.ah.length:Nat):Int):Int)) (λG8=>KX (ak.seq (ak.block (ak.seq (rQ (jQ 10 [81,86] [(1,a_ 1 AJ),(3,x_ i n.ah.length (cT.hd hE (i:=i) zc)),(4,r2 (cT.rd hE (i:=i) zc (j:=0) rfl) (cT.rd hE (i:=i) zc (j:=1) rfl)),(6,a_ 2 wh),(8,x_ i m.ah.length (cT.hd yq (i:=i) zc)),(9,r2 (cT.rd yq (i:=i) zc (j:=0) rfl) (cT.rd yq (i:=i) zc (j:=1) rfl))] (bN.oh (d:=(some 87)) (op:=.binOp .neq 149 (.tmp 81) (.tmp 86) 149) (v:=.bool (!(decide ((en n.ah i).name=(en m.ah i).name/\((en n.ah i).id:Int)=((en m.ah i).id:Int))))) (λ_=>KB) (λo ai w ho _=>Uk ho KB KB) (NQ (NX (cN ((en n.ah i).name=(en m.ah i).name/\((en n.ah i).id:Int)=((en m.ah i).id:Int)) (λh87=>zR ⟨by rw [aip (λe=>h87 Pe)],rfl⟩) (λh87=>KX (ak.region (jK 3 [5] [(1,wJ ((i:Int)+1) (↑(i+1)))] (NL (tJ ((i+1)) [0,1,2] (⟨zc,λj hj=>by rcases ais.1 hj with h|h;exact jW j h;subst h;exact afY h87⟩)))))))))))))))) (λG8=>XX (zR ⟨by rw [aiD (ad4 zc zc zc zc zc (by assumption) (by assumption) (by assumption) (Ik (x:=default) zc (λj hj=>jW j zc)))],rfl⟩)))))
theorem OV {β:Bs} (A B:Option Addr) (c c':Nat) (ns ms:List aL) (L K:eP) (hG:aN β A ns L) (hH:aN β B ms K) (hl:ns.length<=1048576) (hd:∀i,i<ns.length->(nd ns i).data.length<=140737488355328/\(nd ns i).ah.length<=1048576) :
 aU Tryz.prog β 39 #[.agg #[.slice A ns.length c],.agg #[.slice B ms.length c']] [] (λv l=>v=.bool (decide (ns=ms))/\l=[]):=by
 refine SE Tryz.func39 Tryz.ntmps39 (λR=>SR (jB 1 [2] (λE0=>.ax E0 [.slice A (ns.length) (c)] 24) (λE0=>jB 2 [3] (λSL=>.ax SL [.slice B (ms.length) (c')] 24) (λSL=>NZ (jK 7 [12] [(1,a_ 1 E0),(4,a_ 2 SL)] (NN (cN ((((ns.length:Nat):Int):Int)=(((ms.length:Nat):Int):Int)) (λh12=>zR ⟨by rw [aip (λe=>h12 (by rw [e]))],rfl⟩) (λh12=>KX (SQ (jK 1 [5] [] (NN (ak.block (lJ (λ(i:Nat)=>(i<=ns.length)/\(∀j,j<i->ns.getD j default=ms.getD j default)) (λ(i:Nat)=>ns.length-i) (λ(i:Nat)=>[(2,vP E0),(3,vP SL),(5,vI ↑i)]) (λ(i:Nat)=>[.abs R,.ax E0 [.slice A (ns.length) (c)] 24,.ax SL [.slice B (ms.length) (c')] 24]) 0 [0,1,2] (⟨aio _,λj hj=>ain hj (aiq j)⟩) ?_)))))))))))))
 rintro i ⟨hi,jW⟩
 exact SQ (jK 5 [17] [(2,a_ 1 E0)] (NN (cP ((((i:Nat):Int):Int)<(((ns.length:Nat):Int):Int)) (λE4=>KX (ak.seq (ak.block (ak.seq (rQ (jQ 10 [24,29] [(1,a_ 1 E0),(3,x_ i ns.length (aN.hd hG (i:=i) zc)),(4,Ez (iy L i (nd ns i)) (λ_ _ h=>aN.rd hG zc h)),(6,a_ 2 SL),(8,x_ i ms.length (aN.hd hH (i:=i) zc)),(9,Ez (iy K i (nd ms i)) (λ_ _ h=>aN.rd hH zc h))] (mY [] [0,1,2] (.bool (decide (nd ns i=nd ms i))) (RH (nd ns i) (nd ms i) (L.dA i) (L.eA i) (K.dA i) (K.eA i) (L.dC i) (L.eC i) (K.dC i) (K.eC i) (hG.data i zc) (hG.ah i zc) (hH.data i zc) (hH.ah i zc) (hd i zc).1 (hd i zc).2) (jQ 1 [31] [] (NQ (NX (cN (nd ns i=nd ms i) (λWg=>zR ⟨by rw [aip (λe=>Wg (by rw [e]))],rfl⟩) (λWg=>KX (ak.region (jK 3 [5] [(1,wJ ((i:Int)+1) (↑(i+1)))] (NL (tJ ((i+1)) [0,1,2] (⟨zc,λj hj=>by rcases ais.1 hj with h|h;exact jW j h;subst h;exact Wg⟩))))))))))))))))) (λE4=>XX (zR ⟨by rw [aiD (Ik (x:=default) zc (λj hj=>jW j zc))],rfl⟩)))))
end
end Go.Proofs.YtbnfiigafobejaaGreat
section
namespace Go.Proofs
open Go.Shelf
def Tryz.lays119_ren:Go.Shelf.Ren:=⟨fun|119=>163|n=>n,fun|21=>21|4=>4|n=>n,fun|n=>n⟩
theorem Tryz.lays119:Go.Proofs.Lays.n119 Tryz.prog Tryz.lays119_ren:={
 mixed:=by kernel_rfl
 f119:=Tryz.func163.trans (congrArg some (by kernel_rfl))
 t4:=Tryz.underlying4
 a4:=Tryz.isAgg4
 z4:=Tryz.sizeOf4
 v4:=Tryz.zeroValue4
 t21:=Tryz.underlying21
 a21:=Tryz.isAgg21
 z21:=Tryz.sizeOf21
 v21:=Tryz.zeroValue21}
theorem Tryz.utf8_ValidRune (r:Int) (w:World) :
 Calls Tryz.prog 163 #[.int .i32 r] w λe w'=>e=.returned (.bool (Lib.validRune r))/\w'=w:=Any.utf8_ValidRune Tryz.lays119 r w
def Tryz.lays137_ren:Go.Shelf.Ren:=⟨fun|137=>142|217=>154|266=>158|n=>n,fun|9=>9|5=>5|3=>3|n=>n,fun|n=>n⟩
theorem Tryz.lays137:Go.Proofs.Lays.n137 Tryz.prog Tryz.lays137_ren:={
 mixed:=by kernel_rfl
 f137:=Tryz.func142.trans (congrArg some (by kernel_rfl))
 f217:=Tryz.func154.trans (congrArg some (by kernel_rfl))
 f266:=Tryz.func158.trans (congrArg some (by kernel_rfl))
 t3:=Tryz.underlying3
 a3:=Tryz.isAgg3
 z3:=Tryz.sizeOf3
 v3:=Tryz.zeroValue3
 t5:=Tryz.underlying5
 a5:=Tryz.isAgg5
 z5:=Tryz.sizeOf5
 v5:=Tryz.zeroValue5
 t9:=Tryz.underlying9
 a9:=Tryz.isAgg9
 z9:=Tryz.sizeOf9
 v9:=Tryz.zeroValue9}
open Go.RowKit in
theorem Tryz.strings_IndexByte (s:ByteArray) (c:Int) (w:World) :
 Calls Tryz.prog 142 #[.string s,.int .u8 c] w λe w'=>e=.returned (.int .i64 (Lib.indexByte s.data.toList c.toNat.toUInt8))/\w'=w:=Any.strings_IndexByte Tryz.lays137 s c w
def Tryz.lays189_ren:Go.Shelf.Ren:=⟨fun|189=>92|125=>112|257=>111|128=>131|129=>132|294=>122|295=>123|296=>124|297=>125|298=>126|299=>127|216=>128|300=>129|301=>130|328=>144|329=>145|330=>146|331=>147|332=>148|215=>149|343=>156|n=>n,fun|28=>41|3=>3|46=>199|0=>0|51=>214|53=>216|4=>4|183=>208|182=>207|131=>205|5=>5|9=>9|218=>224|222=>228|228=>233|229=>234|n=>n,fun|n=>n⟩
def Tryz.lays190_ren:Go.Shelf.Ren:=⟨fun|190=>95|125=>112|258=>114|128=>131|129=>132|302=>133|303=>134|304=>135|305=>136|306=>137|307=>138|308=>139|309=>140|310=>141|333=>150|329=>145|330=>146|334=>151|335=>152|336=>153|344=>157|n=>n,fun|31=>157|9=>9|3=>3|46=>199|0=>0|51=>214|53=>216|4=>4|183=>208|182=>207|131=>205|5=>5|218=>224|222=>228|228=>233|229=>234|n=>n,fun|n=>n⟩
def Tryz.lays152_ren:Go.Shelf.Ren:=⟨fun|152=>159|137=>142|119=>163|224=>164|225=>165|217=>154|266=>158|n=>n,fun|9=>9|21=>21|3=>3|4=>4|5=>5|0=>0|46=>199|n=>n,fun|n=>n⟩
theorem Tryz.lays152:Go.Proofs.Lays.n152 Tryz.prog Tryz.lays152_ren:={
 mixed:=by kernel_rfl
 f119:=Tryz.func163.trans (congrArg some (by kernel_rfl))
 f137:=Tryz.func142.trans (congrArg some (by kernel_rfl))
 f152:=Tryz.func159.trans (congrArg some (by kernel_rfl))
 f217:=Tryz.func154.trans (congrArg some (by kernel_rfl))
 f224:=Tryz.func164.trans (congrArg some (by kernel_rfl))
 f225:=Tryz.func165.trans (congrArg some (by kernel_rfl))
 f266:=Tryz.func158.trans (congrArg some (by kernel_rfl))
 t0:=Tryz.underlying0
 a0:=Tryz.isAgg0
 z0:=Tryz.sizeOf0
 v0:=Tryz.zeroValue0
 t3:=Tryz.underlying3
 a3:=Tryz.isAgg3
 z3:=Tryz.sizeOf3
 v3:=Tryz.zeroValue3
 t4:=Tryz.underlying4
 a4:=Tryz.isAgg4
 z4:=Tryz.sizeOf4
 v4:=Tryz.zeroValue4
 t5:=Tryz.underlying5
 a5:=Tryz.isAgg5
 z5:=Tryz.sizeOf5
 v5:=Tryz.zeroValue5
 t9:=Tryz.underlying9
 a9:=Tryz.isAgg9
 z9:=Tryz.sizeOf9
 v9:=Tryz.zeroValue9
 t21:=Tryz.underlying21
 a21:=Tryz.isAgg21
 z21:=Tryz.sizeOf21
 v21:=Tryz.zeroValue21
 t46:=Tryz.underlying199
 a46:=Tryz.isAgg199
 z46:=Tryz.sizeOf199
 v46:=Tryz.zeroValue199}
open Go.RowKit Go.Lib in
theorem Tryz.strings_IndexRune_ascii (s:ByteArray) (r:Int) (w:World) (h0:0<=r) (h1:r<128) :
 Calls Tryz.prog 159 #[.string s,.int .i32 r] w λe w'=>e=.returned (.int .i64 (Lib.indexByte s.data.toList r.toNat.toUInt8))/\w'=w:=Any.strings_IndexRune_ascii Tryz.lays152 s r w h0 h1
def Tryz.lays226_ren:Go.Shelf.Ren:=⟨fun|226=>160|n=>n,fun|3=>3|4=>4|n=>n,fun|n=>n⟩
theorem Tryz.lays226:Go.Proofs.Lays.n226 Tryz.prog Tryz.lays226_ren:={
 mixed:=by kernel_rfl
 f226:=Tryz.func160.trans (congrArg some (by kernel_rfl))
 t3:=Tryz.underlying3
 a3:=Tryz.isAgg3
 z3:=Tryz.sizeOf3
 v3:=Tryz.zeroValue3
 t4:=Tryz.underlying4
 a4:=Tryz.isAgg4
 z4:=Tryz.sizeOf4
 v4:=Tryz.zeroValue4}
open Go.RowKit Go.Lib in
theorem Tryz.strings_shouldUseASCIISet (n:Int) (w:World) :
 Calls Tryz.prog 160 #[.int .i64 n] w λe w'=>e=.returned (.bool (decide (8<n)))/\w'=w:=Any.strings_shouldUseASCIISet Tryz.lays226 n w
def Tryz.lays153_ren:Go.Shelf.Ren:=⟨fun|153=>155|152=>159|226=>160|227=>161|228=>162|137=>142|119=>163|224=>164|225=>165|217=>154|266=>158|n=>n,fun|9=>9|3=>3|4=>4|5=>5|21=>21|117=>240|116=>239|0=>0|46=>199|124=>244|n=>n,fun|n=>n⟩
theorem Tryz.lays153:Go.Proofs.Lays.n153 Tryz.prog Tryz.lays153_ren:={
 mixed:=by kernel_rfl
 f119:=Tryz.func163.trans (congrArg some (by kernel_rfl))
 f137:=Tryz.func142.trans (congrArg some (by kernel_rfl))
 f152:=Tryz.func159.trans (congrArg some (by kernel_rfl))
 f153:=Tryz.func155.trans (congrArg some (by kernel_rfl))
 f217:=Tryz.func154.trans (congrArg some (by kernel_rfl))
 f224:=Tryz.func164.trans (congrArg some (by kernel_rfl))
 f225:=Tryz.func165.trans (congrArg some (by kernel_rfl))
 f226:=Tryz.func160.trans (congrArg some (by kernel_rfl))
 f227:=Tryz.func161.trans (congrArg some (by kernel_rfl))
 f228:=Tryz.func162.trans (congrArg some (by kernel_rfl))
 f266:=Tryz.func158.trans (congrArg some (by kernel_rfl))
 t0:=Tryz.underlying0
 a0:=Tryz.isAgg0
 z0:=Tryz.sizeOf0
 v0:=Tryz.zeroValue0
 t3:=Tryz.underlying3
 a3:=Tryz.isAgg3
 z3:=Tryz.sizeOf3
 v3:=Tryz.zeroValue3
 t4:=Tryz.underlying4
 a4:=Tryz.isAgg4
 z4:=Tryz.sizeOf4
 v4:=Tryz.zeroValue4
 t5:=Tryz.underlying5
 a5:=Tryz.isAgg5
 z5:=Tryz.sizeOf5
 v5:=Tryz.zeroValue5
 t9:=Tryz.underlying9
 a9:=Tryz.isAgg9
 z9:=Tryz.sizeOf9
 v9:=Tryz.zeroValue9
 t21:=Tryz.underlying21
 a21:=Tryz.isAgg21
 z21:=Tryz.sizeOf21
 v21:=Tryz.zeroValue21
 t46:=Tryz.underlying199
 a46:=Tryz.isAgg199
 z46:=Tryz.sizeOf199
 v46:=Tryz.zeroValue199
 t116:=Tryz.underlying239
 a116:=Tryz.isAgg239
 z116:=Tryz.sizeOf239
 t117:=Tryz.underlying240
 a117:=Tryz.isAgg240
 z117:=Tryz.sizeOf240
 v117:=Tryz.zeroValue240
 t124:=Tryz.underlying244
 a124:=Tryz.isAgg244
 z124:=Tryz.sizeOf244
 v124:=Tryz.zeroValue244}
open Go.RowKit Go.Lib in
theorem Tryz.strings_IndexAny_long (hv116:∀w,(zeroValue 239).run Tryz.prog w=.ok (.agg (Array.replicate 256 (.bool false))) w) (s chars:ByteArray) (w:World) (h2:2<=chars.size) (h8:8<s.size) (hs:s.size<4294967281) (hcs:chars.size<4294967281) (hascii:∀(j:Nat) b,chars.data.toList[j]?=some b->b.toNat<128) :
 Calls Tryz.prog 155 #[.string s,.string chars] w λe w'=>e=.returned (.int .i64 (Lib.indexAny s.data.toList chars.data.toList))/\w'=((w.alloc (.cells (Lib.setCells chars.data.toList) 239)).alloc (.cells (Lib.setCells chars.data.toList) 239)):=Any.strings_IndexAny_long Tryz.lays153 hv116 (by kernel_rfl) s chars w h2 h8 hs hcs hascii
end Go.Proofs
end
namespace Go.Proofs.YtbnfiigafobejaaGreat
section
open Go.RowKit
def Within (a b c:Int):Prop:=b<=a/\a<=c
instance (a b c:Int):Decidable (Within a b c):=inferInstanceAs (Decidable (_/\_))
def fU (s n:Int):Prop:=0<=n/\n<1000000000/\-1099511627777<=s/\s<=1099511627776/\(s = -1099511627777->0<n)
noncomputable instance (a b:Int):Decidable (fU a b):=Classical.propDecidable _
def dK (s:ByteArray) (j:Nat):Nat:=(s.data.getD j 0).toNat
def rf (s:ByteArray):Prop:=∀j,j<s.size->¬dK s j=0
noncomputable instance (s:ByteArray):Decidable (rf s):=Classical.propDecidable _
def ck (s:ByteArray):Prop:=1<=s.size/\s.size<=255/\¬s=⟨#[46]⟩/\¬s=⟨#[46,46]⟩/\∀j,j<s.size->¬dK s j=0/\¬dK s j=47
noncomputable instance (s:ByteArray):Decidable (ck s):=Classical.propDecidable _
def dG (k:Int) (t:ByteArray):Prop:=(¬k=3/\t=⟨#[]⟩)\/(k=3/\1<=t.size/\t.size<=4096/\rf t)
noncomputable instance (k:Int) (s:ByteArray):Decidable (dG k s):=Classical.propDecidable _
structure sS (n:aL):Prop where
 kind:1<=n.kind/\n.kind<=3
 mode:0<=n.mode/\n.mode<=4095
 bg:0<=n.bg/\n.bg<=2147483647
 bh:0<=n.bh/\n.bh<=2147483647
 time:fU n.aT n.aJ
 data:¬n.kind=1->n.data.length=0
 ah:¬n.kind=2->n.ah.length=0
 target:dG n.kind n.target
noncomputable instance (n:aL):Decidable (sS n):=Classical.propDecidable _
theorem dz {n:aL}:sS n↔(1<=n.kind/\n.kind<=3)/\(0<=n.mode/\n.mode<=4095)/\(0<=n.bg/\n.bg<=2147483647)/\(0<=n.bh/\n.bh<=2147483647)/\fU n.aT n.aJ/\(¬n.kind=1->n.data.length=0)/\(¬n.kind=2->n.ah.length=0)/\dG n.kind n.target:=
 ⟨λh=>⟨h.1,h.2,h.3,h.4,h.5,h.6,h.7,h.8⟩,λ⟨a,b,c,d,e,f,g,h⟩=>⟨a,b,c,d,e,f,g,h⟩⟩
theorem dG.sym {k:Int} {t:ByteArray} (h:dG k t) (hk:k=3):1<=t.size/\t.size<=4096/\rf t:=h.elim (λh=>ain hk h.1) (λh=>h.2)
def dH (ns:List aL):Prop:=∀i j,i<j->j<ns.length->(nd ns i).id<(nd ns j).id
def gF (ns:List aL) (id:Int):Int:=
 match ns.findIdx? (λn=>n.id == id) with
 |some k=>(k:Int)
 |none=>-1
theorem DM {ns:List aL} {id:Int} (h:∀j,j<ns.length->¬(nd ns j).id=id):gF ns id = -1:=by
 unfold gF
 have:ns.findIdx? (λn=>n.id == id)=none:=by
  rw [List.findIdx?_eq_none_iff]
  intro n hn
  obtain⟨j,hj,rfl⟩:=ai5 hn
  grind [nd]
 rw [this]
theorem Il {ns:List aL} {id:Int} {k:Nat} (hr:dH ns) (hk:k<ns.length) (he:(nd ns k).id=id):gF ns id=(k:Int):=by
 unfold gF
 have hg:∀j (hj:j<ns.length),nd ns j=ns[j]:=λj hj=>by
  grind [nd]
 have:ns.findIdx? (λn=>n.id == id)=some k:=by
  rw [ai2]
  grind [dH,nd,gF]
 rw [this]
theorem dH.le {ns:List aL} (hr:dH ns) {i j:Nat} (hi:i<=j) (hj:j<ns.length):(nd ns i).id<=(nd ns j).id:=by
 rcases Nat.lt_or_ge i j with h|h
 all_goals grind [dH,nd]
theorem t7 {s:ByteArray}:s.size=0↔s=⟨#[]⟩:=by
 constructor
 ·intro h
  obtain⟨⟨l⟩⟩:=s
  have h:l.length=0:=h
  rw [List.length_eq_zero_iff.1 h]
 rintro rfl
 rfl
theorem E5 {p q:Prop} [Decidable p] [Decidable q] (h:¬p↔q):(!decide p)=decide q:=by
 grind
theorem E6 {s:ByteArray} {j:Nat} {b:UInt8} (h:s.data.toList[j]?=some b):j<s.size/\dK s j=b.toNat:=by
 have h1:=dO h
 rw [Array.length_toList] at h1
 refine⟨h1,?_⟩
 unfold dK
 have:s.data[j]?=some b:=by simpa using h
 rw [Array.getD_eq_getD_getElem?,this]
 rfl
theorem xR {s:ByteArray} {j:Nat} (h:j<s.size):s.data.toList[j]?=some (s.data.getD j 0):=by
 have h1:j<s.data.size:=h
 rw [Array.getD_eq_getD_getElem?,Array.getElem?_eq_getElem h1]
 simp
theorem OW {s:ByteArray}:Lib.indexByte s.data.toList (0:Int).toNat.toUInt8<0↔rf s:=by
 constructor
 ·intro h j hj e
  have h1:=Lib.indexByte_ge s.data.toList (0:Int).toNat.toUInt8
  refine Lib.indexByte_none (by omega:Lib.indexByte s.data.toList (0:Int).toNat.toUInt8 = -1) j ?_
  rw [xR hj]
  have:s.data.getD j 0=0:=aiX.1 e
  rw [this]
  rfl
 intro h
 refine Decidable.byContradiction (λh1=>?_)
 obtain⟨o,ho⟩:=Int.eq_ofNat_of_zero_le (Int.not_lt.1 h1)
 obtain⟨h2,h3⟩:=E6 (Lib.indexByte_some ho).1
 exact ain h3 (h o h2)
end
section
open Go.RowKit Go.Maps
theorem iZ:Keyed Tryz.prog 3:=int_keyed Tryz.underlying3
theorem wV {z:Int} (lo:-9223372036854775808<=z) (hi:z<=9223372036854775807):keyOf Tryz.prog 3 (.int .i64 z)=some (.int .i64 z):=
 keyOf_int_mk Tryz.underlying3 (WalkArith.wf_i64 zc)
def mf (g:Int->Option Value):Lit->Option Value
 |.int .i64 h=>g h
 |_=>none
theorem OX (g:Int->Option Value) (h:Int) (v:Option Value):qA (mf g) (.int .i64 h) v=mf (λz=>if z=h then v else g z):=by
 funext x
 unfold qA mf
 cases x with
 |int k n=>
   by_cases hk:k=.i64
   ·subst hk
    by_cases e:n=h
    ·simp [Lit.sameKey,e]
    simp [Lit.sameKey,e]
   have e:(Lit.int k n).sameKey (.int .i64 h)=false:=by simp [Lit.sameKey,hk]
   grind
 |_=>rfl
theorem Lk:mf (λ_=>none)=λ_=>none:=by
 funext x
 unfold mf
 split<;>rfl
def up (ps:List (Int×Int)) (z:Int):Option Int:=ps.lookup z
def pf (ps:List (Int×Int)) (z:Int):Option Value:=(up ps z).map (Value.int .i64)
theorem acY {ps:List (Int×Int)} {z:Int} {u:Value} (h:mf (pf ps) (.int .i64 z)=some u):∃y,up ps z=some y/\u=.int .i64 y:=by
 have h:(up ps z).map (Value.int .i64)=some u:=h
 cases hu:up ps z with
 |none=>rw [hu] at h;cases h
 |some y=>rw [hu] at h;cases h;exact⟨y,rfl,rfl⟩
theorem acZ {ps:List (Int×Int)} {a b:Int}:mf (λz=>if z=a then some (.int .i64 b) else pf ps z)=mf (pf ((a,b)::ps)):=by
 congr 1
 grind [pf,up]
def oK (ps:List (Int×Int)):Nat->Int->Prop
 |0,z=>up ps z=none
 |k+1,z=>∃y,up ps z=some y/\oK ps k y
def Ends (ps:List (Int×Int)) (z:Int):Prop:=∃k,oK ps k z
theorem oK.uniq {ps:List (Int×Int)}:∀{k j:Nat} {z:Int},oK ps k z->oK ps j z->k=j
 |0,0,_,_,_=>rfl
 |0,j+1,z,h,h'=>by
   obtain⟨y,hy,_⟩:=h'
   have h:up ps z=none:=h
   rw [h] at hy
   cases hy
 |k+1,0,z,h',h=>by
   obtain⟨y,hy,_⟩:=h'
   have h:up ps z=none:=h
   rw [h] at hy
   cases hy
 |k+1,j+1,z,⟨y,hy,h⟩,⟨y',hy',h'⟩=>by
   rw [hy] at hy'
   cases hy'
   rw [oK.uniq h h']
theorem ME {ps:List (Int×Int)} {z x:Int} (h:¬x=z):up (ps.filter (λp=>!(p.1 == z))) x=up ps x:=by
 unfold up
 induction ps with
 |nil=>rfl
 |cons p ps ih=>
   grind
theorem oK.le:∀(k:Nat) {ps:List (Int×Int)} {z:Int},oK ps k z->k<=ps.length
 |0,_,_,_=>aio _
 |k+1,ps,z,h=>by
   have h0:=h
   obtain⟨y,hy,hk⟩:=h0
   have hl:(ps.filter (λp=>!(p.1 == z))).length+1<=ps.length:=by
    have hm:∃b,(z,b)∈ps:=by
     unfold up at hy
     clear hk h
     induction ps with
     |nil=>cases hy
     |cons p ps ih=>
       obtain⟨a,b⟩:=p
       rw [List.lookup_cons] at hy
       by_cases e:z=a
       ·subst e;exact⟨b,aiw ..⟩
       have h1:(z == a)=false:=by simp [e]
       rw [h1] at hy
       obtain⟨c,hc⟩:=ih hy
       exact⟨c,aiv _ hc⟩
    obtain⟨b,hb⟩:=hm
    have h1:(ps.filter (λp=>!(p.1 == z))).length<ps.length:=by
     rw [List.length_filter_lt_length_iff_exists]
     exact⟨(z,b),hb,aii⟩
    omega
   have aux:∀(j:Nat) (x:Int),j<=k->oK ps j x->oK (ps.filter (λp=>!(p.1 == z))) j x:=by
    intro j
    induction j with
    |zero=>
      intro x _ hx
      have hx':up ps x=none:=hx
      have:¬x=z:=λe=>by subst e;rw [hx'] at hy;cases hy
      show up _ x=none
      rw [ME this]
      exact hx'
    |succ j ih=>
      intro x hj hx
      have:¬x=z:=λe=>by
       subst e
       have:=oK.uniq hx h
       omega
      obtain⟨u,hu,hx'⟩:=hx
      exact⟨u,by rw [ME this];exact hu,ih u zc hx'⟩
   have:=oK.le k (aux k y (aiu _) hk)
   omega
inductive Way (ps:List (Int×Int)) (z0:Int):List Int->Int->Prop
 |nil:Way ps z0 [] z0
 |snoc {w:List Int} {x y:Int}:Way ps z0 w x->up ps x=some y->Way ps z0 (w++[x]) y
theorem Ends.step {ps:List (Int×Int)} {x y:Int} (h:up ps x=some y) (hy:Ends ps y):Ends ps x:=let ⟨k,hk⟩:=hy;⟨k+1,y,h,hk⟩
theorem Way.ends {ps:List (Int×Int)} {z0 y:Int} {w:List Int} (h:Way ps z0 w y) (hy:Ends ps y):Ends ps z0/\∀x,x∈w->Ends ps x:=by
 induction h with
 |nil=>exact⟨hy,λx hx=>by cases hx⟩
 |snoc hw hu ih=>
   grind [Ends.step]
theorem Way.long {ps:List (Int×Int)} {z0 y:Int} {w:List Int} (h:Way ps z0 w y):∀{k:Nat},oK ps k z0->∃j,k=w.length+j/\oK ps j y:=by
 induction h with
 |nil=>intro k hk;exact⟨k,aii,hk⟩
 |snoc hw hu ih=>
   intro k hk
   obtain⟨j,hj,h⟩:=ih hk
   cases j with
   |zero=>
     have h:up ps _=none:=h
     rw [hu] at h
     cases h
   |succ j=>
     grind [oK]
theorem Way.never {ps:List (Int×Int)} {z0 y:Int} {w:List Int} (h:Way ps z0 w y) (hl:ps.length<w.length):¬Ends ps z0:=λ⟨k,hk⟩=>by
 obtain⟨j,hj,_⟩:=h.long hk
 have:=oK.le k hk
 omega
def Df (ps:List (Int×Int)):Prop:=∀z,Ends ps z
noncomputable instance (ps:List (Int×Int)):Decidable (Df ps):=Classical.propDecidable _
def j5 (w:List Int):List Value:=w.map (Value.int .i64)
theorem aF.afZ {e:TypeId} {A:Option Addr} {n cap:Nat} {w2:List Int} {j:Nat} (hj:j<w2.length):∀F w,(aF e 1 A n cap (j5 w2)).h F w->w.cell? ⟨bG A,bE A+j*1,none⟩=some (.int .i64 (w2.getD j 0)):=by
 intro F w h
 have hl:=(aF.len h).1
 have hx:(j5 w2)[j]?=some (.int .i64 (w2.getD j 0)):=by
  grind [j5,getD_some]
 obtain⟨g,rfl⟩:=aF.head h Pe
 have:=aF.cell hx F w h
 grind [aF,j5,bG,bE]
def ff (fs:List Int) (z:Int):Option Value:=if z∈fs then some (.int .i64 1) else none
theorem ad5:mf (ff [])=λ_=>none:=by
 rw [←Lk]
 congr 1
theorem ad6 (fs:List Int) (h:Int):qA (mf (ff fs)) (.int .i64 h) (some (.int .i64 1))=mf (ff (h::fs)):=by
 rw [OX]
 congr 1
 grind [ff]
theorem Ul {ps:List (Int×Int)} {left:Lit->Bool} {z:Int} (hd:∀x y,up ps x=some y->left (.int .i64 x)=false->Ends ps x) (hz:Ends ps z) :
 ∀x y,up ps x=some y->(left (.int .i64 x) && !(Lit.int .i64 x).sameKey (.int .i64 z))=false->Ends ps x:=by
 intro x y hx h
 by_cases e:x=z
 ·rw [e];exact hz
 refine hd x y hx ?_
 simpa [Lit.sameKey,e] using h
theorem Zl {fn AK m L cnt cnt':Nat} (h:fn<=(L-cnt)*(L+2)) (h2:AK<=fn+m) (hm:m<=L+1) (hc:cnt'<cnt) (hL:cnt<=L):AK<=(L-cnt')*(L+2):=by
 have h1:(L-cnt+1)*(L+2)<=(L-cnt')*(L+2):=Nat.mul_le_mul_right _ zc
 rw [Nat.add_mul,Nat.one_mul] at h1
 omega
theorem ab1 {ps:List (Int×Int)} {z y:Int} (h:up ps z=some y):mf (pf ps) (.int .i64 z)=some (.int .i64 y):=by
 grind [up,mf,pf]
theorem DN {ps:List (Int×Int)} {z:Int} (h:up ps z=none):mf (pf ps) (.int .i64 z)=none:=by
 grind [up,mf,pf]
theorem SM {w:List Int} {x lo hi:Int} (h:∀y,y∈w->lo<=y/\y<=hi) (hx:lo<=x/\x<=hi):∀y,y∈w++[x]->lo<=y/\y<=hi:=by
 grind
theorem OY {ps:List (Int×Int)} {z0 x:Int} {w:List Int} (h:Way ps z0 w x) (hu:up ps x=none):Ends ps z0/\∀y,y∈w++[x]->Ends ps y:=by
 have hx:Ends ps x:=⟨0,hu⟩
 obtain⟨h1,h2⟩:=h.ends hx
 grind
theorem Im {w:List Int} {j:Nat} (h:j<w.length):w.getD j 0∈w:=by
 grind
end
section
open Go.RowKit
section scope
variable {P:Program} {β:Bs} {N:fL} {fr:Fr} {au:List HP} {Q:Post} {c:Code} {id:Nat}
theorem ak.scope (h:ak P β N c fr au (Exit.noGoto Q)):ak P β N (.scope c) fr au Q:=λai w hS=>wp_scope_straight (h ai w hS)
theorem ay.Io (h:ay β N Q .ret fr au):ay β N (Exit.noGoto Q) .ret fr au:=λai w hS=>h ai w hS
end scope
end
section
open Go.RowKit Go.Lib
def iN:ByteArray:=⟨#[47,0]⟩
def Clean (s:ByteArray):Prop:=∀j,j<s.size->¬dK s j=0/\¬dK s j=47
noncomputable instance (s:ByteArray):Decidable (Clean s):=Classical.propDecidable _
def MF (c:Nat):Int:=if c=47 then 0 else if c=0 then 1 else -1
theorem Wh {c:Nat}:0<=MF c↔c=47\/c=0:=by
 grind [MF]
theorem JL {s:ByteArray} {j:Nat} (h:j<s.size):(s.get! j).toNat=dK s j:=by
 have h1:j<s.data.size:=h
 have e:s.get! j=s.data[j]:=getElem!_pos s.data j h1
 unfold dK
 rw [Array.getD_eq_getD_getElem?,Array.getElem?_eq_getElem h1,e]
 rfl
theorem tK {s:ByteArray} {pos:Nat} (h:pos<s.size):1<=(Utf8.decode s pos).2/\pos+(Utf8.decode s pos).2<=s.size/\(((Utf8.decode s pos).1=47\/(Utf8.decode s pos).1=0)↔(dK s pos=47\/dK s pos=0))/\(∀j,pos<j->j<pos+(Utf8.decode s pos).2->128<=dK s j) ∧
 ((Utf8.decode s pos).1<55296\/(57343<(Utf8.decode s pos).1/\(Utf8.decode s pos).1<=1114111)):=by
 have h0:(s.get! pos).toNat<256:=(s.get! pos).toNat_lt
 have hb:=JL h
 have c1:=decodeN_conts (s.size-pos) (s.get! pos).toNat (s.get! (pos+1)).toNat (s.get! (pos+2)).toNat (s.get! (pos+3)).toNat
 have c2:=decodeN_width_le (s.size-pos) (s.get! pos).toNat (s.get! (pos+1)).toNat (s.get! (pos+2)).toNat (s.get! (pos+3)).toNat zc
 have c3:=decodeN_valid (s.size-pos) (s.get! pos).toNat (s.get! (pos+1)).toNat (s.get! (pos+2)).toNat (s.get! (pos+3)).toNat h0
 have c4:=decodeN_ge1 (s.size-pos) (s.get! pos).toNat (s.get! (pos+1)).toNat (s.get! (pos+2)).toNat (s.get! (pos+3)).toNat
 have c5:(decodeN (s.size-pos) (s.get! pos).toNat (s.get! (pos+1)).toNat (s.get! (pos+2)).toNat (s.get! (pos+3)).toNat).1<128->(decodeN (s.size-pos) (s.get! pos).toNat (s.get! (pos+1)).toNat (s.get! (pos+2)).toNat (s.get! (pos+3)).toNat).1=(s.get! pos).toNat:=by
  intro h
  by_cases h1:(s.get! pos).toNat<128
  ·rw [decodeN_ascii _ _ _ _ _ h1]
  exfalso
  unfold decodeN at h
  grind
 have c6:(s.get! pos).toNat<128->(decodeN (s.size-pos) (s.get! pos).toNat (s.get! (pos+1)).toNat (s.get! (pos+2)).toNat (s.get! (pos+3)).toNat).1=(s.get! pos).toNat:=λh1=>by rw [decodeN_ascii _ _ _ _ _ h1]
 rw [←decode_at] at c1 c2 c3 c4 c5 c6
 grind [JL]
theorem Zm {c:Nat} (h:128<=c) (hv:c<55296\/(57343<c/\c<=1114111)):2<=(Utf8.encode (c:Int)).size/\(Utf8.encode (c:Int)).size<=4/\128<=dK (Utf8.encode (c:Int)) ((Utf8.encode (c:Int)).size-1):=by
 have hval:Utf8.valid (c:Int)=true:=by
  unfold Utf8.valid
  simp
  omega
 unfold Utf8.encode
 simp only [hval,if_true,aiO]
 rw [aij zc]
 split
 ·refine⟨aiu _,aiR rfl,?_⟩
  show 128<=(UInt8.ofNat (0x80+c % 64)).toNat
  rw [UInt8.toNat_ofNat'];omega
 split
 ·refine⟨aiR rfl,aiR rfl,?_⟩
  show 128<=(UInt8.ofNat (0x80+c % 64)).toNat
  rw [UInt8.toNat_ofNat'];omega
 refine⟨aiR rfl,aiR rfl,?_⟩
 show 128<=(UInt8.ofNat (0x80+c % 64)).toNat
 rw [UInt8.toNat_ofNat'];omega
theorem Ll {s:ByteArray}:0<=Lib.indexAny s.data.toList iN.data.toList↔¬Clean s:=by
 have key:∀x:UInt8,iN.data.toList.contains x=true↔(x.toNat=0\/x.toNat=47):=by
  intro x
  have e1:(x=47)↔x.toNat=47:=⟨λh=>by rw [h];rfl,λh=>aiX.1 h⟩
  have e2:(x=0)↔x.toNat=0:=⟨λh=>by rw [h];rfl,λh=>aiX.1 h⟩
  show ([47,0]:List UInt8).contains x=true↔_
  simp only [List.contains_cons,List.contains_nil,Bool.or_false,Bool.or_eq_true,ajd]
  rw [e1,e2]
  omega
 constructor
 ·intro h hc
  have:Lib.indexAny s.data.toList iN.data.toList = -1:=Lib.indexAny_none (λj b hj hb=>by
   obtain⟨h1,h2⟩:=E6 hb
   have h3:=hc j h1
   cases hx:iN.data.toList.contains b with
   |false=>rfl
   |true=>have:=(key b).1 hx;omega)
  omega
 intro h
 refine Decidable.byContradiction (λhn=>h ?_)
 have aux:∀i,i<=s.size->Lib.NoAny s.data.toList iN.data.toList i:=by
  intro i
  induction i with
  |zero=>intro _;exact Lib.NoAny.zero _ _
  |succ i ih=>
    intro hi
    have hx:=xR (show i<s.size by omega)
    refine (ih zc).succ hx ?_
    cases hc:iN.data.toList.contains (s.data.getD i 0) with
    |false=>rfl
    |true=>
      have:=Lib.indexAny_hit (ih zc) hx hc
      omega
 intro j hj
 have h1:=aux s.size (aiu _) j (s.data.getD j 0) hj (xR hj)
 have h2:=mt (key (s.data.getD j 0)).2 (by rw [h1];exact Bool.false_ne_true)
 unfold dK
 omega
theorem Ip {β:Bs} (s:ByteArray) (h8:8<s.size) (hs:s.size<=1048576):aU Tryz.prog β 155 #[.string s,.string iN] [] (λv l=>(∃x:Int,v=.int .i64 x/\(0<=x↔¬Clean s))/\l=[]):=by
 intro R w hS
 refine (Tryz.strings_IndexAny_long (zero_of_info (n:=256) KB).1 s iN w Pd h8 zc Pd (by
  intro j b hb
  have:j<2:=by grind [dO,iN]
  have h:j=0\/j=1:=zc
  rcases h with rfl|rfl
  ·have:b=47:=by simpa [iN] using hb.symm
   subst this;decide
  have:b=0:=by simpa [iN] using hb.symm
  subst this;decide)).mono ?_
 rintro e w' ⟨rfl,rfl⟩
 exact⟨_,[],rfl,⟨⟨_,rfl,Ll⟩,rfl⟩,hS.quiet (((cF.refl _ _).alloc _).alloc _)⟩
theorem Wi:∀c:Fin 128,Lib.indexByte [47,0] ((c.val:Int).toNat.toUInt8)=MF c.val:=Pd
theorem ac0 {pos:Nat} (h:pos<iN.size):(Utf8.decode iN pos).1=47\/(Utf8.decode iN pos).1=0:=by
 refine (tK h).2.2.1.2 ?_
 have h:pos<2:=h
 have:pos=0\/pos=1:=zc
 rcases this with rfl|rfl
 ·exact .inl rfl
 exact .inr rfl
theorem Wj (i:Nat):dK iN i<128:=by
 unfold dK iN
 match i with
 |0=>decide
 |1=>decide
 |n+2=>exact (by decide:(0:UInt8).toNat<128)
theorem ad7 {c:Nat} (hv:c<55296\/(57343<c/\c<=1114111)):Lib.validRune (c:Int)=true:=by
 unfold Lib.validRune
 exact aiD zc
theorem OZ {β:Bs} {c:Nat} (hv:c<55296\/(57343<c/\c<=1114111)):aU Tryz.prog β 163 #[.int .i32 ((c:Nat):Int)] [] (λv l=>v=.bool true/\l=[]):=
 aU.quiet (λw=>(Tryz.utf8_ValidRune _ w).mono (λ_ _ ⟨h1,h2⟩=>⟨h1.trans (by rw [ad7 hv]),h2⟩))
theorem Iq {β:Bs} {i:Nat} (hi:1<=i) (b:Int):aU Tryz.prog β 142 #[.string (iN.extract (i+1) iN.size),.int .u8 b] [] (λv l=>v=.int .i64 (-1)/\l=[]):=
 aU.quiet (λw=>(Tryz.strings_IndexByte _ b w).mono (λ_ _ ⟨h1,h2⟩=>⟨h1.trans (by
  have h0:(iN.extract (i+1) iN.size).size=0:=by
   rw [ai6]
   have:iN.size=2:=rfl
   omega
  rw [t7.1 h0]
  rfl),h2⟩))
theorem Ir {β:Bs} {c:Nat} (h:c<128):aU Tryz.prog β 159 #[.string iN,.int .i32 ((c:Nat):Int)] [] (λv l=>v=.int .i64 (MF c)/\l=[]):=
 aU.quiet (λw=>(Tryz.strings_IndexRune_ascii iN _ w zc zc).mono (λ_ _ ⟨h1,h2⟩=>⟨h1.trans (ail (λx=>Ending.returned (.int .i64 x)) (Wi ⟨c,h⟩)),h2⟩))
theorem Zn {c:Nat} (h:128<=c):MF c = -1:=by
 grind [MF]
theorem pN {s:ByteArray}:ck s↔1<=s.size/\s.size<=255/\¬s=⟨#[46]⟩/\¬s=⟨#[46,46]⟩/\Clean s:=Iff.rfl
end
section
open Go.RowKit
attribute [local irreducible] ar bN ak ay
theorem GZ {β:Bs} (c:Nat) (h128:128<=c) (hv:c<55296\/(57343<c/\c<=1114111)) :
 aU Tryz.prog β 159 #[.string iN,.int .i32 ((c:Nat):Int)] [] (λv l=>v=vI (-1)/\l=[]):=by
 have he:=Zm h128 hv
 refine SE Tryz.func159 Tryz.ntmps159 (λR=>SR (jK 1 [] [] (NN (ak.block (SR (jK 3 [163] [] (sP 163 ((0:Int)<=(((c:Nat):Int):Int)) (λad8=>jK 4 [160] [] (NN (cP ((((c:Nat):Int):Int)<(128:Int)) (λad9=>ain ad9 (by omega)) (λad9=>SR (jK 3 [171] [] (NN (cP ((((c:Nat):Int):Int)=(65533:Int)) (λagI=>?_) (λagI=>?_)))))))) (λad8=>ain ad8 (by omega)))))))))
 ·refine SQ (jK 1 [174] [] (ar.OG (d:=(some 175)) (t:=9) (x:=(.tmp 174)) (s:=iN) (λ_=>KB) (λ_=>KB) Tryz.underlying9 (λr1=>NN (ak.block (lJ (λ(pos:Nat)=>(pos<=2)) (λ(pos:Nat)=>2-pos) (λ(pos:Nat)=>[(175,vP r1)]) (λ(pos:Nat)=>[.abs (DF r1 iN pos),.abs R]) 0 [1,0] (aio _) ?_)))))
  rintro pos hp
  refine SR ?_
  rcases Nat.lt_or_ge pos ((iN:ByteArray).size) with hpos|hpos
  ·exact ar.SG 0 (d:=(some 176)) (r:=r1) (s:=iN) (pos:=pos) (x:=(.tmp 175)) (λ_=>KB) KB (λ_=>KB) hpos (jK 1 [177] [] (NN (ak.seq (CT (KX (ak.block (SR (jK 4 [5,6] [] (NS (jK 2 [181] [] (NN (cP (((((Utf8.decode iN pos).1:Nat):Int):Int)=(65533:Int)) (λaea=>ain aea (by have:=ac0 hpos;omega)) (λaea=>ak.skip (ay.gh (tJ (pos+(Utf8.decode iN pos).2) [0,1] ((by have:=(tK (s:=iN) hpos).2.1;have:iN.size=2:=rfl;omega)) (hm:=by show 2-(pos+(Utf8.decode iN pos).2)<2-pos;have h1:=(tK (s:=iN) hpos).1;have h2:iN.size=2:=rfl;omega))))))))))))))))
  exact ar.V5 0 (d:=(some 176)) (r:=r1) (s:=iN) (pos:=pos) (x:=(.tmp 175)) (λ_=>KB) KB (λ_=>KB) (Nat.not_lt.2 hpos) (jK 1 [177] [] (NN (ak.seq (CF (XX (zR ⟨rfl,rfl⟩ [1]))))))
 refine SR (jK 1 [184] [] (gE [] (OZ hv) (jK 2 [183] [] (NF (ak.scope (SR (jK 3 [7] [] (NS (jK 4 [8] [(2,wJ (((((Utf8.encode (c:Int)):ByteArray).size:Nat):Int)-1) (↑((Utf8.encode ((c:Nat):Int)).size-1)))] (NS (jK 2 [9] [] (NS (jK 1 [] [] (NN (ak.seq (ak.block (lJ (λ(i:Nat)=>(i=(Utf8.encode ((c:Nat):Int)).size-1)) (λ(i:Nat)=>0) (λ(i:Nat)=>[(0,.string iN),(7,.string (Utf8.encode ((c:Nat):Int))),(8,vI ↑((Utf8.encode ((c:Nat):Int)).size-1)),(9,vI ↑i)]) (λ(i:Nat)=>[.abs R]) (((Utf8.encode ((c:Nat):Int)).size-1)) [0] (rfl) ?_)))))))))))))))))
 rintro i hi
 exact SQ (jK 4 [26] [] (NN (cP ((((i:Nat):Int):Int)<((((iN:ByteArray).size:Nat):Int):Int)) (λzj=>KX (ak.block (ak.scope (ak.seq (ak.seq (rQ (jQ 7 [33] [(2,xP i (i<(iN:ByteArray).size)),(5,xP ((Utf8.encode ((c:Nat):Int)).size-1) (((Utf8.encode ((c:Nat):Int)).size-1)<((Utf8.encode ((c:Nat):Int)):ByteArray).size))] (NQ (NX (cN ((((((iN:ByteArray).data.getD (i) 0).toNat:Nat):Int):Int)=((((((Utf8.encode ((c:Nat):Int)):ByteArray).data.getD (((Utf8.encode ((c:Nat):Int)).size-1)) 0).toNat:Nat):Int):Int)) (λMG=>ak.seq (rQ (jQ 7 [37,40] [(2,wJ ((i:Int)+1) (↑(i+1))),(3,xP (i+1) (i+1<=(iN:ByteArray).size)),(6,xP ((Utf8.encode ((c:Nat):Int)).size-1) (((Utf8.encode ((c:Nat):Int)).size-1)<((Utf8.encode ((c:Nat):Int)):ByteArray).size))] (mY [] [0] (.int .i64 (-1)) (Iq (i:=i) (by have:iN.size=2:=rfl;omega) (((((Utf8.encode ((c:Nat):Int)):ByteArray).data.getD (((Utf8.encode ((c:Nat):Int)).size-1)) 0).toNat:Nat):Int)) (jQ 1 [11] [] (NQ (NX (SQ (jK 2 [43] [] (NT (SR (jK 1 [4] [] (NN (ak.ret (ay.bB (ay.bB (ay.Io (ay.fT (ay.bB (ay.fT (ay.bB (ay.Io (ay.fT (RT _ [0] (⟨rfl,rfl⟩))))))))))))))))))))))))) (λMG=>ain MG (by have h1:=Wj i;grind [dK])))))))))))) (λzj=>XX (SQ (jK 1 [4] [] (NN (ak.ret (ay.bB (ay.Io (ay.fT (RT _ [0] (⟨rfl,rfl⟩)))))))))))))
theorem O0 {β:Bs} (c:Nat) (hv:c<55296\/(57343<c/\c<=1114111)) :
 aU Tryz.prog β 159 #[.string iN,.int .i32 ((c:Nat):Int)] [] (λv l=>v=vI (MF c)/\l=[]):=by
 rcases Nat.lt_or_ge c 128 with h|h
 ·exact Ir h
 rw [Zn h]
 exact GZ c h hv
theorem G0 {β:Bs} (s:ByteArray) (h8:s.size<=8) :
 aU Tryz.prog β 155 #[.string s,.string iN] [] (λv l=>(∃x:Int,v=vI x/\(0<=x↔¬Clean s))/\l=[]):=by
 refine SE Tryz.func155 Tryz.ntmps155 (λR=>SR (jK 1 [] [] (NZ (jK 2 [12] [(1,w_ (.bool (decide ((iN:ByteArray)=⟨#[]⟩))) (rE _ _))] (NN (cP ((iN:ByteArray)=⟨#[]⟩) (λh12=>ain h12 (by decide)) (λh12=>KX (SQ (jK 3 [15] [] (NN (cP (((((iN:ByteArray).size:Nat):Int):Int)=(1:Int)) (λO3=>ain O3 (by decide)) (λO3=>KX (SQ (jK 2 [25] [] (gE [] (aU.quiet (λw=>Tryz.strings_shouldUseASCIISet ((s.size:Nat):Int) w)) (NN (cP ((8:Int)<((s.size:Nat):Int)) (λzj=>ain zj (by omega)) (λzj=>KX (SQ (jK 1 [44] [] (ar.OG (d:=(some 45)) (t:=9) (x:=(.tmp 44)) (s:=s) (λ_=>KB) (λ_=>KB) Tryz.underlying9 (λr2=>NN (ak.block (lJ (λ(pos:Nat)=>(pos<=s.size)/\(∀j,j<pos->¬dK s j=0/\¬dK s j=47)) (λ(pos:Nat)=>s.size-pos) (λ(pos:Nat)=>[(1,.string iN),(45,vP r2)]) (λ(pos:Nat)=>[.abs (DF r2 s pos),.abs R]) 0 [1,0] (⟨aio _,λj hj=>ain hj (aiq j)⟩) ?_))))))))))))))))))))))))
 rintro pos ⟨hp,iV⟩
 refine SR ?_
 rcases Nat.lt_or_ge pos ((s:ByteArray).size) with hpos|hpos
 ·exact ar.SG 0 (d:=(some 46)) (r:=r2) (s:=s) (pos:=pos) (x:=(.tmp 45)) (λ_=>KB) KB (λ_=>KB) hpos (jK 1 [47] [] (NN (ak.seq (CT (KX (ak.block (SR (jK 4 [9,10] [] (NS (jK 2 [50,51] [] (gE [] (O0 (Utf8.decode s pos).1 (tK hpos).2.2.2.2) (jK 1 [53] [] (NN (cP ((MF (Utf8.decode s pos).1:Int)>=(0:Int)) (λMC=>zR (v:=(vI ↑pos)) ⟨⟨_,rfl,⟨λ_ hc=>by have h1:=Wh.1 MC;have h2:=(tK hpos).2.2.1.1 h1;have:=hc pos hpos;omega,λ_=>Int.natCast_nonneg _⟩⟩,rfl⟩ [1]) (λMC=>ak.skip (ay.gh (tJ (pos+(Utf8.decode s pos).2) [0,1] (⟨(tK hpos).2.1,λj hj=>by rcases ai9 j pos with h|h|h;exact iV j h;subst h;have h1:=mt Wh.2 MC;all_goals grind [tK]⟩) (hm:=by grind [tK]))))))))))))))))))
 exact ar.V5 0 (d:=(some 46)) (r:=r2) (s:=s) (pos:=pos) (x:=(.tmp 45)) (λ_=>KB) KB (λ_=>KB) (Nat.not_lt.2 hpos) (jK 1 [47] [] (NN (ak.seq (CF (XX (zR (v:=(vI (-1))) ⟨⟨_,rfl,⟨λh=>ain h (by decide),λh=>ain (λj hj=>iV j zc) h⟩⟩,rfl⟩ [1]))))))
theorem RI {β:Bs} (s:ByteArray) (hs:s.size<=1048576) :
 aU Tryz.prog β 155 #[.string s,.string iN] [] (λv l=>(∃x:Int,v=vI x/\(0<=x↔¬Clean s))/\l=[]):=by
 rcases Nat.lt_or_ge 8 s.size with h|h
 ·exact Ip s h hs
 exact G0 s h
theorem wW {β:Bs} (s:ByteArray) (hs:s.size<=1048576) :
 aU Tryz.prog β 143 #[.string s,.string iN] [] (λv l=>v=.bool (decide (¬Clean s))/\l=[]):=by
 refine SE Tryz.func143 Tryz.ntmps143 (λR=>SR (jK 1 [] [] (NS (jK 2 [5,6] [] (gL [] (RI s hs) ?_)))))
 rintro _ _ ⟨⟨x,rfl,hx⟩,rfl⟩
 exact jK 2 [4] [] (eN (v:=(.bool (decide ((x:Int)>=(0:Int))))) ⟨ail Value.bool (aiz.2 (by exact hx)),rfl⟩)
theorem AL {β:Bs} (s:ByteArray) (hs:s.size<=1048576) :
 aU Tryz.prog β 121 #[.string s] [] (λv l=>v=.bool (decide (ck s))/\l=[]):=by
 exact SE Tryz.func121 Tryz.ntmps121 (λR=>SR (jK 1 [] [] (NZ (jK 1 [3] [] (NN (ak.block (SQ (jK 2 [4] [(0,w_ (.bool (decide ((s:ByteArray)=⟨#[]⟩))) (rE _ _))] (NN (cP ((s:ByteArray)=⟨#[]⟩) (λh4=>KX (cP ((s:ByteArray)=⟨#[]⟩) (λh4=>zR ⟨ail Value.bool (aip (by grind [t7,pN])).symm,rfl⟩) (λh4=>KX (SR (jK 4 [11] [] (sP 11 (((((s:ByteArray).size:Nat):Int):Int)<=(255:Int)) (λh11=>jK 1 [12] [] (gE [] (wW s hs) (jK 3 [2] [] (eN (v:=(.bool (!(decide (¬Clean s))))) ⟨ail Value.bool (E5 Pe),rfl⟩)))) (λh11=>jK 5 [2] [] (eN ⟨ail Value.bool (aip (by grind [t7,pN])).symm,rfl⟩)))))))) (λh4=>SR (jK 2 [4] [(0,w_ (.bool (decide ((s:ByteArray)=⟨#[46]⟩))) (rE _ _))] (NN (cP ((s:ByteArray)=⟨#[46]⟩) (λh4=>KX (cP ((s:ByteArray)=⟨#[46]⟩) (λh4=>zR ⟨ail Value.bool (aip (by grind [t7,pN])).symm,rfl⟩) (λh4=>KX (SR (jK 4 [11] [] (sP 11 (((((s:ByteArray).size:Nat):Int):Int)<=(255:Int)) (λh11=>jK 1 [12] [] (gE [] (wW s hs) (jK 3 [2] [] (eN (v:=(.bool (!(decide (¬Clean s))))) ⟨ail Value.bool (E5 Pe),rfl⟩)))) (λh11=>jK 5 [2] [] (eN ⟨ail Value.bool (aip (by grind [t7,pN])).symm,rfl⟩)))))))) (λh4=>ak.region (jK 2 [4] [(0,w_ (.bool (decide ((s:ByteArray)=⟨#[46,46]⟩))) (rE _ _))] (NN (cP ((s:ByteArray)=⟨#[46,46]⟩) (λh4=>zR ⟨ail Value.bool (aip (by grind [t7,pN])).symm,rfl⟩) (λh4=>KX (SR (jK 4 [11] [] (sP 11 (((((s:ByteArray).size:Nat):Int):Int)<=(255:Int)) (λh11=>jK 1 [12] [] (gE [] (wW s hs) (jK 3 [2] [] (eN (v:=(.bool (!(decide (¬Clean s))))) ⟨ail Value.bool (E5 (by have h0:=t7 (s:=s);rw [pN];grind)),rfl⟩)))) (λh11=>jK 5 [2] [] (eN ⟨ail Value.bool (aip (by grind [t7,pN])).symm,rfl⟩))))))))))))))))))))))))
theorem Wk {β:Bs} (m:Nat) (ps:List (Int×Int)) (hl:ps.length<=1048576) (hw:∀z y,up ps z=some y->(-9223372036854775808<=z/\z<=9223372036854775807)/\(-9223372036854775808<=y/\y<=9223372036854775807)) :
 aU Tryz.prog β 109 #[.map (some m)] [.abs (bM Tryz.prog 3 m (mf (pf ps)) ps.length)] (λv l=>v=.bool (decide (Df ps))/\l=[]):=by
 refine SE Tryz.func109 Tryz.ntmps109 (λR=>SR (jK 1 [] [] (NS (ar.tX (d:=(some 11)) (t:=107) (λ_=>KB) Tryz.prog rfl 3 (λm1=>jK 1 [3] [] (NZ (ar.cJ 2 (p':=.abs (bM Tryz.prog 3 m1 (mf (ff [])) 0)) rfl (by rw [ad5]) (jK 1 [12] [] (ar.mapRange 0 (d:=(some 13)) (t:=107) (K:=3) (E:=3) (b:=m) (n:=ps.length) (f:=(mf (pf ps))) (x:=(.tmp 12)) (λ_=>KB) KB (λ_=>KB) iZ Tryz.underlying107 (λr2=>NN (ak.block (lJ (λ(left,cnt,last,fs,fn)=>(cnt<=ps.length)/\(∀x y,up ps x=some y->left (.int .i64 x)=false->Ends ps x)/\(∀x,x∈fs->Ends ps x)/\(fn<=(ps.length-cnt)*(ps.length+2))) (λ(left,cnt,last,fs,fn)=>cnt) (λ(left,cnt,last,fs,fn)=>[(0,.map (some m)),(3,.map (some m1)),(13,vP r2)]) (λ(left,cnt,last,fs,fn)=>[.abs (oG Tryz.prog 3 m r2 (mf (pf ps)) ps.length left cnt last),.abs (bM Tryz.prog 3 m1 (mf (ff fs)) fn),.abs R]) ((λkl=>((mf (pf ps)) kl).isSome),ps.length,none,[],0) [0,2,1] (⟨aiu _,λx y hx h=>(by have h:((up ps x).map (Value.int .i64)).isSome=false:=h;rw [hx] at h;cases h),λx hx=>(by cases hx),aio _⟩) ?_))))))))))))
 rintro⟨left,cnt,last,fs,fn⟩ ⟨agJ,hdone,hfs,hfn⟩
 have o5:fn<=1048576*1048578:=air hfn (Nat.mul_le_mul zc zc)
 refine SR (ar.mapNext 0 (d:=(some 14)) (K:=3) (b:=m) (r:=r2) (f:=(mf (pf ps))) (n:=ps.length) (left:=left) (cnt:=cnt) (last:=last) (x:=(.tmp 13)) (λ_=>KB) KB (λ_=>KB) iZ Tryz.underlying3 (λhc0 hl0=>jK 1 [15] [] (NN (ak.seq (CF (XX (zR ⟨ail Value.bool (aiD (p:=Df ps) (λz=>by cases hu:up ps z with|none=>exact⟨0,hu⟩|some y=>exact hdone z y hu (hl0 _))).symm,rfl⟩ [2])))))) (λz u cnt' hlz hfz hwz agK=>?_))
 obtain⟨y,hy,rfl⟩:=acY hfz
 refine jK 1 [15] [] (NN (ak.seq (CT (KX (ak.block (SR (ar.mapEntry 0 (d:=(some 16)) (K:=3) (b:=m) (r:=r2) (f:=(mf (pf ps))) (n:=ps.length) (left:=(λkl=>left kl && !kl.sameKey (.int .i64 z))) (cnt:=cnt') (v:=.tuple #[.int .i64 (z),.int .i64 (y)]) (x:=(.tmp 13)) (λ_=>KB) KB (λ_=>KB) (jK 2 [4] [] (NS (jK 1 [5] [] (NN (ak.join (ι:=(List Int)×(Option Addr)×Nat) (λ(w2,A2,c2)=>(Ends ps z)/\(∀x,x∈w2->Ends ps x)/\(w2.length<=ps.length+1)/\(∀x,x∈w2->-9223372036854775808<=x/\x<=9223372036854775807)) (λ(w2,A2,c2)=>[(0,.map (some m)),(3,.map (some m1)),(5,.slice A2 (w2.length) (c2)),(13,vP r2)]) (λ(w2,A2,c2)=>[.abs (oG Tryz.prog 3 m r2 (mf (pf ps)) ps.length (λkl=>left kl && !kl.sameKey (.int .i64 z)) cnt' (some (.tuple #[.int .i64 (z),.int .i64 (y)]))),.abs (bM Tryz.prog 3 m1 (mf (ff fs)) fn),.abs (aF 3 1 A2 w2.length c2 (j5 w2)),.abs R]) ?_ ?_))))))))))))
 ·rintro⟨w2,A2,c2⟩ ⟨hend,af0,ahV,aeb⟩
  refine SR (jK 3 [41,42,43] [] (NN (ak.block (lJ (λ(j,EB,AK)=>(j<=w2.length)/\(∀x,x∈EB->Ends ps x)/\(AK<=fn+j)) (λ(j,EB,AK)=>w2.length-j) (λ(j,EB,AK)=>[(0,.map (some m)),(3,.map (some m1)),(13,vP r2),(41,.slice A2 (w2.length) (c2)),(42,.int .i64 ↑w2.length),(43,.int .i64 ↑j)]) (λ(j,EB,AK)=>[.abs (oG Tryz.prog 3 m r2 (mf (pf ps)) ps.length (λkl=>left kl && !kl.sameKey (.int .i64 z)) cnt' (some (.tuple #[.int .i64 (z),.int .i64 (y)]))),.abs (bM Tryz.prog 3 m1 (mf (ff EB)) AK),.abs (aF 3 1 A2 w2.length c2 (j5 w2)),.abs R]) (0,fs,fn) [0,1,2,3] (⟨aio _,hfs,aiu _⟩) ?_))))
  rintro⟨j,EB,AK⟩ ⟨hj,aec,agL⟩
  exact SR (jK 1 [44] [] (NN (ak.seq (cP ((((j:Nat):Int):Int)<(((w2.length:Nat):Int):Int)) (λzk=>KX (ak.seq (ak.block (SR (ar.tell (λw hS=>let ⟨F,h⟩:=hS.get (i:=2) rfl;(aF.Jy h zc).1) (λhA2=>jK 3 [10] [(0,x_ j w2.length (hA2)),(1,p_ ⟨[.view 2 (.int .i64 ((w2.getD j 0)))],none,none,none,none⟩ [(∀F w,(aF 3 1 A2 w2.length c2 (j5 w2)).h F w->w.cell? ⟨(bG A2),bE A2+j*1,none⟩=some (.int .i64 ((w2.getD j 0))))] ⟨aF.afZ zc,trivial⟩)] (NN (ak.region (jK 2 [47,48] [] (ar.rF 1 (d:=none) (t:=107) (K:=3) (E:=3) (b:=m1) (n:=AK) (f:=(mf (ff EB))) (x:=(.tmp 47)) (ix:=(.tmp 48)) (y:=(.const (.int .i64 1))) (key:=.int .i64 ((w2.getD j 0))) (u:=.int .i64 1) (kl:=(.int .i64 (w2.getD j 0))) (n':=(if (ff EB (w2.getD j 0)).isSome then AK else AK+1)) (f':=(mf (ff ((w2.getD j 0)::EB)))) (λ_=>KB) KB (λ_=>KB) (λ_=>KB) (λ_=>KB) iZ Tryz.underlying107 (by unfold maxLen;omega) (wV (aeb _ (Im zc)).1 (aeb _ (Im zc)).2) (rfl) (ad6 _ _) (LX (ak.region (jK 2 [43] [(0,wJ ((j:Int)+1) (↑(j+1)))] (NL (tJ ((j+1),((w2.getD j 0)::EB),(if (ff EB (w2.getD j 0)).isSome then AK else AK+1)) [0,1,2,3] (⟨zc,λx hx=>(aiA.1 hx).elim (λe=>e ▸ af0 _ (Im zc)) (aec x),by split<;>omega⟩)))))))))))))))) (λzk=>ak.exit (ay.oZ (ay.oZ (ay.uW (ay.gh (tJ ((λkl=>left kl && !kl.sameKey (.int .i64 z)),cnt',(some (.tuple #[.int .i64 (z),.int .i64 (y)])),EB,AK) [0,1,3] (⟨zc,Ul hdone hend,aec,Zl hfn agL zc agK agJ⟩)))))))))))
 refine SR (ar.mem (λw hS=>hS.mQ (e:=3) (size:=1)) (jK 2 [6] [] (NN (ak.block (lJ (λ(at_,w,Aw,cw)=>(Way ps z w at_)/\(w.length<=ps.length)/\(∀x,x∈w->-9223372036854775808<=x/\x<=9223372036854775807)/\(-9223372036854775808<=at_/\at_<=9223372036854775807)) (λ(at_,w,Aw,cw)=>ps.length+1-w.length) (λ(at_,w,Aw,cw)=>[(0,.map (some m)),(3,.map (some m1)),(5,.slice Aw (w.length) (cw)),(6,.int .i64 (at_)),(13,vP r2)]) (λ(at_,w,Aw,cw)=>[.abs (oG Tryz.prog 3 m r2 (mf (pf ps)) ps.length (λkl=>left kl && !kl.sameKey (.int .i64 z)) cnt' (some (.tuple #[.int .i64 (z),.int .i64 (y)]))),.abs (bM Tryz.prog 3 m1 (mf (ff fs)) fn),.abs (aF 3 1 Aw w.length cw (j5 w)),.abs R]) (z,[],none,0) [0,1,3,2] (⟨.nil,aio _,λx hx=>(by cases hx),(hw z y hy).1⟩) ?_)))))
 rintro⟨at_,w,Aw,cw⟩ ⟨pP,hwl,vH,dR⟩
 refine SQ (jK 2 [19,20] [] ?_)
 by_cases hfa:at_∈fs
 ·exact ar.jj 1 (d:=(some 21)) (t:=107) (K:=3) (E:=3) (b:=m1) (n:=fn) (f:=(mf (ff fs))) (x:=(.tmp 19)) (ix:=(.tmp 20)) (key:=.int .i64 (at_)) (z:=.int .i64 0) (kl:=(.int .i64 at_)) (r:=(some (.int .i64 1))) (λ_=>KB) KB (λ_=>KB) (λ_=>KB) iZ Tryz.underlying107 (λ_=>KB) (wV dR.1 dR.2) (aik hfa) (jK 1 [22] [] (NF (ak.exit (ay.oZ (ay.oZ (ay.uW (mJ (w,Aw,cw) [0,1,2,3] (⟨(pP.ends (hfs at_ hfa)).1,(pP.ends (hfs at_ hfa)).2,zc,vH⟩))))))))
 refine ar.jj 1 (d:=(some 21)) (t:=107) (K:=3) (E:=3) (b:=m1) (n:=fn) (f:=(mf (ff fs))) (x:=(.tmp 19)) (ix:=(.tmp 20)) (key:=.int .i64 (at_)) (z:=.int .i64 0) (kl:=(.int .i64 at_)) (r:=none) (λ_=>KB) KB (λ_=>KB) (λ_=>KB) iZ Tryz.underlying107 (λ_=>KB) (wV dR.1 dR.2) (aij hfa) (jK 1 [22] [] (NT (KX (ak.block (SR (jB 3 [23,25] (λb3=>.ax b3 [.int .i64 (at_)] 3) (λb3=>ny 2 41 (some ⟨b3,0,none⟩) 1 1 [.int .i64 (at_)] rfl (fQ (j:=4) rfl) (λA4 c5=>ar.cJ 2 (p':=.abs (aF 3 1 A4 ((w++[at_]).length) c5 (j5 (w++[at_])))) rfl (by simp [j5]) (sl 26 (.slice A4 (w.length+1) (c5)) (.slice A4 ((w++[at_]).length) (c5)) aii (jK 1 [5] [] (NS (jK 2 [28,29] [] ?_))))))))))))
 rcases hup:up ps at_ with _|y2
 ·exact ar.G5 0 (d:=(some 30)) (t:=107) (K:=3) (E:=3) (b:=m) (n:=ps.length) (f:=(mf (pf ps))) (r:=r2) (left:=(λkl=>left kl && !kl.sameKey (.int .i64 z))) (cnt:=cnt') (last:=(some (.tuple #[.int .i64 (z),.int .i64 (y)]))) (x:=(.tmp 28)) (ix:=(.tmp 29)) (key:=.int .i64 (at_)) (z:=.int .i64 0) (kl:=(.int .i64 at_)) (u:=none) (λ_=>KB) KB (λ_=>KB) (λ_=>KB) iZ Tryz.underlying107 (λ_=>KB) (wV dR.1 dR.2) (DN hup) (jK 5 [7,8] [] (NZ (jK 2 [34] [] (NT (ak.exit (ay.oZ (ay.Ml Pd (ay.oZ (ay.uW (mJ ((w++[at_]),A4,c5) [0,1,2,3] (⟨(OY pP hup).1,(OY pP hup).2,by simp;omega,SM vH dR⟩)))))))))))
 exact ar.G5 0 (d:=(some 30)) (t:=107) (K:=3) (E:=3) (b:=m) (n:=ps.length) (f:=(mf (pf ps))) (r:=r2) (left:=(λkl=>left kl && !kl.sameKey (.int .i64 z))) (cnt:=cnt') (last:=(some (.tuple #[.int .i64 (z),.int .i64 (y)]))) (x:=(.tmp 28)) (ix:=(.tmp 29)) (key:=.int .i64 (at_)) (z:=.int .i64 0) (kl:=(.int .i64 at_)) (u:=(some (.int .i64 y2))) (λ_=>KB) KB (λ_=>KB) (λ_=>KB) iZ Tryz.underlying107 (λ_=>KB) (wV dR.1 dR.2) (ab1 hup) (jK 5 [7,8] [] (NZ (jK 2 [34] [] (NF (KX (SQ (jK 3 [36,37] [] (ar.Za 0 (d:=(some 38)) (t:=107) (K:=3) (E:=3) (b:=m) (n:=ps.length) (f:=(mf (pf ps))) (r:=r2) (left:=(λkl=>left kl && !kl.sameKey (.int .i64 z))) (cnt:=cnt') (last:=(some (.tuple #[.int .i64 (z),.int .i64 (y)]))) (x:=(.tmp 37)) (ats:=#[107]) (λ_=>KB) KB (λ_=>KB) rfl Tryz.underlying107 (jK 1 [39] [] (NN (cP (((((w++[at_]).length:Nat):Int):Int)>(((ps.length:Nat):Int):Int)) (λnN=>zR ⟨ail Value.bool (aip (p:=Df ps) (λjW=>(pP.snoc hup).never (by simp at nN ⊢;omega) (jW z))).symm,rfl⟩ [3]) (λnN=>KX (ak.region (jK 2 [6] [] (NL (ay.gh (tJ (y2,(w++[at_]),A4,c5) [0,1,2,3] (⟨pP.snoc hup,by simp at nN ⊢;omega,SM vH dR,(hw at_ y2 hup).2⟩) (hm:=by grind))))))))))))))))))
end
end Go.Proofs.YtbnfiigafobejaaGreat
