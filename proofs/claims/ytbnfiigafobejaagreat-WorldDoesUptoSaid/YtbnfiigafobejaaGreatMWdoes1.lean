/-
  PROVED HERE: lemmas and contracts of functions (texts of this repo, joined; what the claim does not use is left out): Base, Sep, V, Vr, Vo, Vj, Vk, Vc, Vd, Vm, Va, Vb, Ve, Vt, Vi, Vw, Vy, Vz, Vq, Vg, Vn, Row, G, GO, GL, GT, GCopy, Shelf, GC, GM, Vs, GS, GStr, GRoot.
  CONDITIONS: as the theorems say.
-/
import Derived.Test.YtbnfiigafobejaaGreatProg
import Derived.WalkKit
import Derived.ChangeSame
import Derived.Lib.Hide
import Derived.Maps.OwnSet
import Derived.Maps.OwnOps
import Derived.Deep.Draws
import Derived.WalkSmall
import Derived.Deep.Quiet
import Derived.Deep.LoopGhost
import Derived.KernelRfl
import Derived.Laws.StructEq
import Derived.Maps.AppendAt
import Derived.Deep.Upon
import Derived.StillTail
import Derived.Maps.RangeWalk
import Derived.Laws.RangeAny
import Derived.Laws.OwnMore
import Derived.Lib.Bytealg
import Derived.OrdersHeld
import Derived.Test.YtbnfiigafobejaaGreatRows
import Derived.ProofKit
import Derived.OpenShut
import Derived.Carry
import Derived.Deep.Slices
import Derived.Shelf.Small.Utf8
import Derived.Shelf.Small.Bits
import Derived.Shelf.Small.Strs
import Derived.Shelf.Small.Wraps
import Derived.Shelf.Strconv.Itoa0
import Derived.Shelf.Strings.Search1
import Derived.Shelf.Sort.Plain
import Derived.Shelf.Strings.Runes
import Derived.Shelf.Strings.IndexAny
import Derived.Shelf.Strings.AsciiSet
import Derived.Shelf.Strings.IndexAnyAll
import Derived.Ground.Names2Prog
import Derived.Shelf.Slices.SearchI
import Derived.Shelf.Slices.In.SortNone
import Derived.Lib.IndexLaws
import Derived.Scope
import Derived.Lib.DecodeN
import Derived.Lib.SpaceUEq
import Derived.Lib.QuoteLoop
set_option maxRecDepth 100000
set_option maxHeartbeats 4000000
namespace Go.Proofs.YtbnfiigafobejaaGreat
theorem zc {P:Prop} (h:P:=by omega):P:=h
theorem KB {P:Prop} (h:P:=by kernel_rfl):P:=h
theorem Pd {P:Prop} (h:P:=by decide):P:=h
theorem Pe {P:Prop} (h:P:=by grind):P:=h
theorem agS {P:Prop} (h:P:=by rfl):P:=h
theorem agU {P:Prop} (h:P:=by simp):P:=h
abbrev agV:=@if_neg
abbrev agW:=@if_pos
abbrev agX:=@congrArg
abbrev agY:=@absurd
abbrev agZ:=@decide_eq_false
abbrev ag0:=@Nat.zero_le
abbrev ag1:=@Nat.le_trans
abbrev ag2:=@Nat.not_lt_zero
abbrev ag3:=@Nat.lt_succ_iff_lt_or_eq
abbrev ag4:=@List.length_append
abbrev ag5:=@Nat.le_refl
abbrev ag6:=@List.mem_cons_of_mem
abbrev ag7:=@List.mem_cons_self
abbrev ag8:=@List.length_set
abbrev ag9:=@List.getElem?_eq_getElem
abbrev aha:=@List.mem_cons
abbrev ahb:=@decide_eq_decide
abbrev ahc:=@List.pairwise_cons
abbrev ahd:=@Nat.zero_add
abbrev ahe:=@List.mem_map
abbrev ahf:=@List.length_map
abbrev ahg:=@Nat.lt_of_lt_of_le
abbrev ahh:=@decide_eq_true
abbrev ahi:=@List.length_take
abbrev ahj:=@List.mem_append
abbrev ahk:=@Classical.byContradiction
abbrev ahl:=@List.take_length
abbrev ahm:=@Bool.and_eq_true
abbrev ahn:=@Nat.lt_succ_self
abbrev aho:=@Int.toNat_natCast
abbrev ahp:=@List.append_assoc
abbrev ahq:=@List.take_add_one
abbrev ahr:=@Nat.le_of_ble_eq_true
abbrev ahs:=@List.map_cons
abbrev aht:=@List.mem_of_getElem?
abbrev ahu:=@List.mem_singleton
abbrev ahv:=@List.map_append
abbrev ahw:=@List.length_cons
abbrev ahx:=@List.map_congr_left
abbrev ahy:=@List.getD_eq_getElem?_getD
abbrev ahz:=@UInt8.toNat_inj
abbrev ahA:=@List.mem_iff_getElem
abbrev ahB:=@List.cons_append
abbrev ahC:=@List.eq_nil_of_length_eq_zero
abbrev ahD:=@Eq.symm
abbrev ahE:=@List.findIdx?_eq_some_iff_getElem
abbrev ahF:=@List.take_of_length_le
abbrev ahG:=@List.getElem_of_mem
abbrev ahH:=@ByteArray.size_extract
abbrev ahI:=@List.length_filter_le
abbrev ahJ:=@List.drop_eq_getElem_cons
abbrev ahK:=@Nat.lt_trichotomy
abbrev ahL:=@of_decide_eq_true
abbrev ahM:=@List.length_singleton
abbrev ahN:=@Code.wp_mono
abbrev ahO:=@Nat.lt_irrefl
abbrev ahP:=@beq_iff_eq
abbrev ahQ:=@List.getElem?_append_right
abbrev ahR:=@List.pairwise_iff_getElem
abbrev ahS:=@Nat.min_eq_left
abbrev ahT:=@List.getElem?_eq_none
abbrev ahU:=@List.Pairwise.filter
abbrev ahV:=@List.nodup_cons
abbrev ahW:=@Nat.add_assoc
abbrev ahX:=@List.getElem?_append_left
abbrev ahY:=@Eq.trans
abbrev ahZ:=@Option.some.inj
abbrev ah0:=@Nat.add_comm
abbrev ah1:=@Nat.le_of_lt
end Go.Proofs.YtbnfiigafobejaaGreat
namespace Go.Proofs.YtbnfiigafobejaaGreat
section
open Go.RowKit Go.WideShapes Go.ChangeShapes
section post
variable {H:Type} {enc:TypeId×Value->H} {P:Program}
theorem MH {f:Func} {s:ChangeSpec} {apart fresh handsOn again:Bool} {W W':World} {args:Array Value} {v:Value} {ds gs:List (DataW H)} {before pa pv:List MemPlace}
 (hW:DataW.Whole enc P f.params.toList s.vars apart W args.toList ds gs before)
 (hres:∀(b:Nat) (sp:Nat->Bool) (hd:Bool),DataW.TrodAll enc P W' b sp hd f.resultTypes.toList (v.resultList f.resultTypes.size) (s.fn H (ds++gs)).results [])
 (hargs:∀sp:Nat->Bool,(∀p∈before,sp p.block=true)->DataW.TrodAll enc P W' 0 sp true f.params.toList args.toList (s.fn H (ds++gs)).args pa)
 (hvars:∀sp:Nat->Bool,(∀p∈before,sp p.block=true)->DataW.TrodVars enc P W' sp s.vars (s.fn H (ds++gs)).vars pv)
 (ax:before=pa++pv) (hb:Below W.heap.size W W')
 (hok:∀(j:Nat) (t:TypeId) (r:Value),f.resultTypes[j]?=some t->(v.resultList f.resultTypes.size)[j]?=some r->Value.okWide P W' .any 0 t r) :
 s.post enc P f apart fresh handsOn again W args v W':=by
 have fU:∀p∈before,p.block<W.heap.size:=λp hp=>hW.lt p hp
 have hold:∀p∈before,(λb=>decide (b<W.heap.size)) p.block=true:=Pe
 refine⟨ds,gs,before,[],pa,pv,hW,hres _ _ _,hargs _ hold,hvars _ hold,World.keptBut_mono (λp hp=>⟨hp,?_⟩) (hb.frame (·∈before)),λ_=>?_⟩
 ·rw [ax,ahj] at hp
  exact Or.inr hp
 obtain⟨_,_,_,_,_,hz,hn⟩:=hW
 refine⟨hok,_,_,([]++pa)++pv,⟨[]++pa,pv,trodAll_append (hargs _ (λ_ _=>rfl)) (hres _ _ _),hvars _ (λ_ _=>rfl),rfl,?_,?_⟩,?_⟩
 ·intro b off hp
  have hin:MemPlace.cell b off∈before:=by rw [ax];simpa using hp
  rw [hb.frozen (fU _ hin)]
  exact hz b off hin
 all_goals grind
end post
structure cJ (S:Nat->Prop) (w w':World):Prop where
 os:w'.os=w.os
 tape:w'.tape=w.tape
 output:w'.output=w.output
 size:w.heap.size<=w'.heap.size
 block:∀k,k<w.heap.size->¬S k->w'.heap[k]?=w.heap[k]?
section keeps
variable {S S':Nat->Prop} {a w w':World}
theorem cJ.refl (S:Nat->Prop) (w:World):cJ S w w:=⟨rfl,rfl,rfl,ag5 _,λ_ _ _=>rfl⟩
theorem cJ.trans (h:cJ S a w) (k:cJ S w w'):cJ S a w':=
 ⟨k.os.trans h.os,k.tape.trans h.tape,k.output.trans h.output,ag1 h.size k.size,λi hi hn=>(k.block i (ahg hi h.size) hn).trans (h.block i hi hn)⟩
theorem cJ.mono (h:cJ S a w) (hs:∀k,k<a.heap.size->S k->S' k):cJ S' a w:=
 ⟨h.os,h.tape,h.output,h.size,λi hi hn=>h.block i hi (λhk=>hn (hs i hi hk))⟩
theorem cJ.andThen (h:cJ S a w) (k:cJ S' w w') (hs:∀i,i<a.heap.size->S' i->S i):cJ S a w':=
 ⟨k.os.trans h.os,k.tape.trans h.tape,k.output.trans h.output,ag1 h.size k.size,λi hi hn=>(k.block i (ahg hi h.size) (λhk=>hn (hs i hi hk))).trans (h.block i hi hn)⟩
theorem cJ.drewN (h:cJ S a w) (n:Nat):cJ S a (w.drewN n):=⟨h.os,h.tape,h.output,h.size,h.block⟩
theorem cJ.drew (h:cJ S a w):cJ S a w.drew:=⟨h.os,h.tape,h.output,h.size,h.block⟩
theorem cJ.alloc (h:cJ S a w) (o:Obj):cJ S a (w.alloc o):=
 ⟨h.os,h.tape,h.output,ag1 h.size agU,λi hi hn=>(Below.heap_alloc w o i (ahg hi h.size)).trans (h.block i hi hn)⟩
theorem cJ.setCell (h:cJ S a w) {p:Addr} (hp:a.heap.size<=p.block\/S p.block) (u:Value):cJ S a (w.setCell p u):=
 ⟨h.os,h.tape,h.output,by simpa [World.setCell] using h.size,λi hi hn=>(Below.heap_setCell w p u i (by
  rintro rfl
  rcases hp with hp|hp
  ·omega
  exact hn hp)).trans (h.block i hi hn)⟩
theorem cJ.grown {row:Option Nat} (h:cJ S a w) (hg:w.grownBy w' row) (hr:∀k,row=some k->a.heap.size<=k\/S k):cJ S a w':=
 ⟨hg.os.trans h.os,hg.tape.trans h.tape,hg.output.trans h.output,ag1 h.size hg.size,λi hi hn=>
  (hg.block i (ahg hi h.size) (λe=>by
   rcases hr i e.symm with h1|h1
   ·omega
   exact hn h1)).trans (h.block i hi hn)⟩
theorem cJ.cell (h:cJ S w w') {p:Addr} (hp:p.block<w.heap.size) (hn:¬S p.block):w'.cell? p=w.cell? p:=World.cell?_of_block (w:=w) (h.block p.block hp hn)
theorem cJ.frozen (h:cJ S w w') {p:Addr} (hp:p.block<w.heap.size) (hn:¬S p.block):w'.frozen? p=w.frozen? p:=World.frozen?_of_block (w:=w) (h.block p.block hp hn)
theorem cJ.ownsRow (h:cJ S w w') {base:Nat} {e:TypeId} {size:Nat} {v:Value} {n:Nat} {xs:List Value} (ho:w.ownsRow base e size v n xs) (hn:∀k,v.ownBlock=some k->¬S k):w'.ownsRow base e size v n xs:=by
 have hl:=ho.lt
 obtain⟨h1,h2⟩:=ho
 refine⟨h1,?_⟩
 rcases h2 with h2|⟨g,cap,cur,hv,hg,hh,r⟩
 ·exact Or.inl h2
 have e:v.ownBlock=some g:=by rw [hv];rfl
 exact Or.inr ⟨g,cap,cur,hv,hg,(h.block g (hl g e).2 (hn g e)).trans hh,r⟩
theorem cJ.ownsMap {H:Type} (h:cJ S w w') {P:Program} {k:TypeId} {R:Value->Option (DataW H×List MemPlace)} {b n:Nat} {D:DataW H} (ho:w.ownsMap P k R b n D) (hn:¬S b):w'.ownsMap P k R b n D:=by
 have fU:=ho.lt
 obtain⟨es,clock,hb,r⟩:=ho
 exact⟨es,clock,(h.block b fU hn).trans hb,r⟩
end keeps
def yS (v:Value):Option (DataW Value×List MemPlace):=some (.held v,[])
def kr (P:Program) (K:TypeId) (w:World) (b:Nat) (f:Lit->Option Value) (n:Nat):Prop:=
 ∃D:DataW Value,w.ownsMap P K yS b n D/\Maps.size D=n/\(∀kl,Maps.has D kl=(f kl).isSome)/\∀kl v,f kl=some v->∀z,D.atKey kl z=.held v
def qd (f:Lit->Option Value) (kl:Lit) (v:Option Value):Lit->Option Value:=λx=>if x.sameKey kl then v else f x
section maps
open Go.Maps
variable {P:Program} {K E t:TypeId} {w w':World} {b n:Nat} {f:Lit->Option Value}
theorem kr.made (w:World) (P:Program) (K:TypeId):kr P K (w.alloc (.map #[] 0)) w.heap.size (λ_=>none) 0:=
 ⟨.map [],World.ownsMap_made _ _ _ _,rfl,λ_=>rfl,λ_ _ h=>by cases h⟩
theorem kr.lt (h:kr P K w b f n):b<w.heap.size:=let ⟨_,h1,_⟩:=h;h1.lt
theorem kr.keeps {S:Nat->Prop} (h:kr P K w b f n) (k:cJ S w w') (hn:¬S b):kr P K w' b f n:=by
 obtain⟨D,h1,h2⟩:=h
 exact⟨D,k.ownsMap h1 hn,h2⟩
theorem kr.len (h:kr P K w b f n) (ht:P.underlying t=some (.map K E)) (ty:TypeId):(Builtin.len_ #[t] ty #[.map (some b)]).run P w=.ok (.int .i64 n) w:=by
 obtain⟨D,h1,h2,_⟩:=h
 rw [h1.len ht ty,h2]
theorem kr.look_ok (h:kr P K w b f n) (L:Keyed P K) (ht:P.underlying t=some (.map K E)) {z:Value} (hz:(zeroValue E).run P w=.ok z w) {key:Value} {kl:Lit} (mz:keyOf P K key=some kl) :
 (Instr.lookup t (.map (some b)) key true).run P w=.ok (.tuple #[(f kl).getD z,.bool (f kl).isSome]) w:=by
 obtain⟨D,h1,_,h3,h4⟩:=h
 obtain⟨v,ps,hrun,hv⟩:=h1.look_ok L ht hz (R:=yS) (zd:=.held z) (zp:=[]) rfl mz
 rw [hrun,h3 kl]
 simp only [yS,Option.some.injEq,Prod.mk.injEq] at hv
 cases hf:f kl with
 |none=>
   have hn:Maps.has D kl=false:=by rw [h3 kl,hf];rfl
   rw [atKey_of_not_has hn] at hv
   have e:v=z:=by simpa using hv.1
   simp [e]
 |some u=>
   grind
theorem kr.look (h:kr P K w b f n) (L:Keyed P K) (ht:P.underlying t=some (.map K E)) {z:Value} (hz:(zeroValue E).run P w=.ok z w) {key:Value} {kl:Lit} (mz:keyOf P K key=some kl) :
 (Instr.lookup t (.map (some b)) key false).run P w=.ok ((f kl).getD z) w:=by
 obtain⟨D,h1,_,h3,h4⟩:=h
 obtain⟨v,ps,hrun,hv⟩:=h1.lookup L ht hz (R:=yS) (zd:=.held z) (zp:=[]) rfl mz
 rw [hrun]
 simp only [yS,Option.some.injEq,Prod.mk.injEq] at hv
 cases hf:f kl with
 |none=>
   have hn:Maps.has D kl=false:=by rw [h3 kl,hf];rfl
   rw [atKey_of_not_has hn] at hv
   have e:v=z:=by simpa using hv.1
   simp [e]
 |some u=>
   grind
theorem K9 {key:Value} {kl:Lit} (L:Keyed P K) (mz:keyOf P K key=some kl):WideAt.IsKeyLit kl:=L.key mz
theorem kr.store (h:kr P K w b f n) (L:Keyed P K) (ht:P.underlying t=some (.map K E)) (hn:n<maxLen) {key:Value} {kl:Lit} (mz:keyOf P K key=some kl) (v:Value) :
 ∃w',(Instr.mapUpdate t (.map (some b)) key v).run P w=.ok () w'/\kr P K w' b (qd f kl (some v)) (if (f kl).isSome then n else n+1)/\cJ (·=b) w w':=by
 obtain⟨D,h1,h2,h3,h4⟩:=h
 obtain⟨w',hrun,kB,hg⟩:=h1.update L ht hn mz (val:=v) (d:=.held v) (ps:=[]) rfl
 have hkl:=K9 L mz
 have eT:Maps.size (D.put kl (.held v))=if (f kl).isSome then n else n+1:=by
  rw [size_put (h1.tidy L),h2,h3 kl]
 refine⟨w',hrun,⟨D.put kl (.held v),?_,eT,λx=>?_,λx u hx z=>?_⟩,(cJ.refl _ _).grown hg (λk hk=>.inr (by cases hk;rfl))⟩
 ·obtain⟨es,clock,hb,F,hs,rD⟩:=kB
  exact⟨es,clock,hb,F,by rw [←eT,rD];simp [Maps.size,length_sorted],rD⟩
 ·unfold qd
  by_cases e:x=kl
  ·subst e
   rw [has_put_same h1.isMap hkl]
   have:x.sameKey x=true:=WideAt.sameKey_self hkl
   simp [this]
  rw [has_put_other e,h3 x,sameKey_ne e]
  simp
 unfold qd at hx
 by_cases e:x=kl
 ·subst e
  rw [agW (WideAt.sameKey_self hkl)] at hx
  injection hx with hx
  rw [atKey_put_same h1.isMap hkl,hx]
 rw [sameKey_ne e] at hx
 simp only [Bool.false_eq_true,if_false] at hx
 rw [atKey_put_other e]
 exact h4 x u hx z
theorem kr.drop (h:kr P K w b f n) (L:Keyed P K) (ht:P.underlying t=some (.map K E)) {key:Value} {kl:Lit} (mz:keyOf P K key=some kl) (ty:TypeId) :
 ∃w',(Builtin.delete_ #[t,K] ty #[.map (some b),key]).run P w=.ok (.tuple #[]) w'/\kr P K w' b (qd f kl none) (if (f kl).isSome then n-1 else n)/\cJ (·=b) w w':=by
 obtain⟨D,h1,h2,h3,h4⟩:=h
 obtain⟨w',hrun,kB,hg⟩:=h1.drop L ht mz ty
 have hkl:=K9 L mz
 have eT:Maps.size (D.del kl)=if (f kl).isSome then n-1 else n:=by
  have:=size_del (k:=kl) (h1.tidy L)
  grind
 refine⟨w',hrun,⟨D.del kl,?_,eT,λx=>?_,λx u hx z=>?_⟩,(cJ.refl _ _).grown hg.grown (λk hk=>.inr (by cases hk;rfl))⟩
 ·obtain⟨es,clock,hb,F,hs,rD⟩:=kB
  exact⟨es,clock,hb,F,by rw [←eT,rD];simp [Maps.size,length_sorted],rD⟩
 ·unfold qd
  by_cases e:x=kl
  ·subst e
   rw [has_del_same]
   simp [WideAt.sameKey_self hkl]
  rw [has_del_other e,h3 x,sameKey_ne e]
  simp
 unfold qd at hx
 by_cases e:x=kl
 ·subst e
  rw [agW (WideAt.sameKey_self hkl)] at hx
  cases hx
 rw [sameKey_ne e] at hx
 simp only [Bool.false_eq_true,if_false] at hx
 rw [atKey_del_other e]
 exact h4 x u hx z
end maps
end
section
open Go.RowKit
abbrev Fp:=Nat->Prop
structure eH where
 h:Fp->World->Prop
 lt:∀{F w},h F w->∀k,F k->k<w.heap.size
 st:∀{F w},h F w->∀{S:Nat->Prop} {w':World},cJ S w w'->(∀k,F k->¬S k)->h F w'
structure Step (F:Fp) (w:World) (F':Fp) (w':World):Prop where
 keeps:cJ F w w'
 grow:∀k,F' k->F k\/w.heap.size<=k
def Apart (F G:Fp):Prop:=∀k,F k->¬G k
theorem Step.refl (F:Fp) (w:World):Step F w F w:=⟨cJ.refl _ _,λ_ h=>.inl h⟩
structure agB (B:Nat) (A1 A2 A3 A4:eH) (w0 w:World):Prop where
 ex:∃F1 F2 F3 F4,A1.h F1 w/\A2.h F2 w/\A3.h F3 w/\A4.h F4 w/\Apart F1 F2/\Apart F1 F3/\Apart F1 F4/\Apart F2 F3/\Apart F2 F4/\Apart F3 F4 ∧
  (∀k,F1 k->B<=k)/\(∀k,F2 k->B<=k)/\(∀k,F3 k->B<=k)/\(∀k,F4 k->B<=k)
 below:Below B w0 w
 size:B<=w.heap.size
section sep
variable {B:Nat} {A1 A2 A3 A4 A1' A2' A3' A4':eH} {w0 w w':World}
end sep
abbrev vP (b:Nat):Value:=.pointer (some ⟨b,0,none⟩)
abbrev vI (x:Int):Value:=.int .i64 x
structure Bs where
 O:Nat->Prop
 w0:World
structure Bs.ok (β:Bs) (w:World):Prop where
 os:w.os=β.w0.os
 tape:w.tape=β.w0.tape
 output:w.output=β.w0.output
 size:β.w0.heap.size<=w.heap.size
 old:∀k,β.O k->k<β.w0.heap.size/\w.heap[k]?=β.w0.heap[k]?
theorem Bs.ok.keeps {β:Bs} {S:Nat->Prop} {w w':World} (h:β.ok w) (k:cJ S w w') (hs:∀i,β.O i->¬S i):β.ok w':=
 ⟨k.os.trans h.os,k.tape.trans h.tape,k.output.trans h.output,ag1 h.size k.size,λi hi=>⟨(h.old i hi).1,(k.block i (ahg (h.old i hi).1 h.size) (hs i hi)).trans (h.old i hi).2⟩⟩
theorem Bs.ok.cell {β:Bs} {w:World} (h:β.ok w) {a:Addr} {v:Value} (ho:β.O a.block/\β.w0.cell? a=some v):w.cell? a=some v:=
 (World.cell?_of_block (w:=β.w0) (h.old a.block ho.1).2).trans ho.2
inductive HP
 |aD (b:Nat) (cs:List Value) (T:TypeId)
 |abs (A:eH)
def HP.h:HP->Fp->World->Prop
 |.aD b cs T,F,w=>w.heap[b]?=some (.cells ⟨cs⟩ T (0,0))/\∀k,F k↔k=b
 |.abs A,F,w=>A.h F w
theorem lt_of_some {α:Type} {xs:Array α} {i:Nat} {x:α} (h:xs[i]?=some x):i<xs.size:=by
 grind
theorem HP.lt {p:HP} {F:Fp} {w:World} (h:p.h F w) (k:Nat) (hk:F k):k<w.heap.size:=by
 cases p with
 |aD b cs T=>obtain⟨h1,h2⟩:=h;rw [(h2 k).1 hk];exact lt_of_some h1
 |abs A=>exact A.lt h k hk
theorem HP.st {p:HP} {F:Fp} {w w':World} {S:Nat->Prop} (h:p.h F w) (k:cJ S w w') (hn:∀i,F i->¬S i):p.h F w':=by
 cases p with
 |aD b cs T=>obtain⟨h1,h2⟩:=h;exact⟨(k.block b (lt_of_some h1) (hn b ((h2 b).2 rfl))).trans h1,h2⟩
 |abs A=>exact A.st h k hn
def aR (β:Bs) (l:List HP) (w:World):Prop:=
 β.ok w/\∃φ:Nat->Fp,(∀(i:Nat) (p:HP),l[i]?=some p->p.h (φ i) w)/\(∀i,i<l.length->∀k,φ i k->¬β.O k)/\∀i j,i<l.length->j<l.length->i≠j->Apart (φ i) (φ j)
section sat
variable {β:Bs} {l l':List HP} {w w':World} {p p':HP} {i:Nat}
theorem dP {α:Type} {xs:List α} {i:Nat} {x:α} (h:xs[i]?=some x):i<xs.length:=by
 grind
theorem mP {α:Type} {xs:List α} {i:Nat} (h:i<xs.length):∃x,xs[i]?=some x:=⟨xs[i],ag9 h⟩
theorem aR.quiet (h:aR β l w) (k:cJ (λ_=>False) w w'):aR β l w':=by
 obtain⟨ho,φ,h1,h2,h3⟩:=h
 exact⟨ho.keeps k (λ_ _ h=>h),φ,λi p hp=>HP.st (h1 i p hp) k (λ_ _ h=>h),h2,h3⟩
theorem aR.drewN (h:aR β l w) (n:Nat):aR β l (w.drewN n):=h.quiet ((cJ.refl _ _).drewN n)
theorem aR.get (h:aR β l w) (hp:l[i]?=some p):∃F,p.h F w:=by
 obtain⟨_,φ,h1,_⟩:=h
 exact⟨φ i,h1 i p hp⟩
theorem aR.set (h:aR β l w) (hp:l[i]?=some p) (hs:∀F,p.h F w->∃F',p'.h F' w'/\Step F w F' w'):aR β (l.set i p') w':=by
 obtain⟨ho,φ,h1,h2,h3⟩:=h
 obtain⟨F',hF',st⟩:=hs _ (h1 i p hp)
 have hi:=dP hp
 have fU:∀j,j<l.length->∀k,φ j k->k<w.heap.size:=λj hj k hk=>by
  obtain⟨q,hq⟩:=mP hj
  exact HP.lt (h1 j q hq) k hk
 have hap:∀j,j<l.length->j≠i->∀k,F' k->φ j k->False:=λj hj bX k hk jq=>by
  rcases st.grow k hk with e|e
  ·exact h3 i j hi hj (λe=>bX e.symm) k e jq
  have:=fU j hj k jq;omega
 refine⟨ho.keeps st.keeps (λk hk jq=>h2 i hi k jq hk),λj=>if j=i then F' else φ j,λj q hq=>?_,λj hj k hk hO=>?_,λj1 j2 uJ hj2 bX k hk jq=>?_⟩
 ·by_cases e:j=i
  ·grind
  rw [List.getElem?_set_ne (λe'=>e e'.symm)] at hq
  simp only [e,if_false]
  exact HP.st (h1 j q hq) st.keeps (λk hk jq=>h3 i j hi (dP hq) (λe'=>e e'.symm) k jq hk)
 ·rw [ag8] at hj
  by_cases e:j=i
  ·subst e
   simp only [if_true] at hk
   rcases st.grow k hk with e|e
   ·exact h2 j hi k e hO
   have:=(ho.old k hO).1;have:=ho.size;omega
  grind
 rw [ag8] at uJ hj2
 by_cases e1:j1=i
 ·grind
 simp only [e1,if_false] at hk
 by_cases e2:j2=i
 ·grind
 simp only [e2,if_false] at jq
 exact h3 j1 j2 uJ hj2 bX k hk jq
theorem aR.new {F:Fp} (h:aR β l w) (hF:p.h F w') (k:cJ (λ_=>False) w w') (hn:∀k,F k->w.heap.size<=k):aR β (l++[p]) w':=by
 obtain⟨ho,φ,h1,h2,h3⟩:=h
 have fU:∀j,j<l.length->∀k,φ j k->k<w.heap.size:=λj hj k hk=>by
  obtain⟨q,hq⟩:=mP hj
  exact HP.lt (h1 j q hq) k hk
 refine⟨ho.keeps k (λ_ _ h=>h),λj=>if j=l.length then F else φ j,λj q hq=>?_,λj hj k hk hO=>?_,λj1 j2 uJ hj2 bX k hk jq=>?_⟩
 ·grind [dP,HP.st]
 ·by_cases e:j=l.length
  ·simp only [e,if_true] at hk
   have:=(ho.old k hO).1;have:=ho.size;have:=hn k hk;omega
  grind
 simp at uJ hj2
 by_cases e1:j1=l.length
 ·grind
 simp only [e1,if_false] at hk
 by_cases e2:j2=l.length
 ·grind
 simp only [e2,if_false] at jq
 exact h3 j1 j2 zc zc bX k hk jq
def cW (l:List HP):List Nat->Option (List HP)
 |[]=>some []
 |i::r=>match l[i]? with
   |some p=>match cW l r with
     |some q=>some (p::q)
     |none=>none
   |none=>none
def cD:List Nat->Bool
 |[]=>true
 |i::r=>!(r.contains i) && cD r
theorem Gd:∀{ar:List Nat},cD ar=true->ar.Nodup
 |[],_=>List.nodup_nil
 |i::r,h=>by
   simp only [cD,ahm,Bool.not_eq_true',List.contains_eq_mem,decide_eq_false_iff_not] at h
   exact ahV.2 ⟨h.1,Gd h.2⟩
theorem Ip:∀{ar:List Nat} {l':List HP},cW l ar=some l'->l'.length=ar.length/\∀(j:Nat) (p:HP),l'[j]?=some p->∃i:Nat,ar[j]?=some i/\l[i]?=some p
 |[],l',h=>by cases h;grind
 |i::r,l',h=>by
   unfold cW at h
   split at h
   ·rename_i q hq
    split at h
    ·rename_i q' hq'
     cases h
     obtain⟨h1,h2⟩:=Ip hq'
     refine⟨by simp [h1],λj p hp=>?_⟩
     cases j with
     |zero=>simp at hp;subst hp;exact⟨i,rfl,hq⟩
     |succ j=>simpa using h2 j p (by simpa using hp)
    cases h
   cases h
theorem aR.pick {ar:List Nat} (h:aR β l w) (hn:cD ar=true) (hp:cW l ar=some l'):aR β l' w:=by
 obtain⟨ho,φ,h1,h2,h3⟩:=h
 obtain⟨hl,hi⟩:=Ip hp
 have hnd:=Gd hn
 have key:∀j,j<l'.length->ar.getD j 0<l.length:=λj hj=>by
  obtain⟨p,hp⟩:=mP hj
  grind
 refine⟨ho,λj=>φ (ar.getD j 0),λj p hp=>?_,λj hj=>h2 _ (key j hj),λj1 j2 uJ hj2 bX=>h3 _ _ (key j1 uJ) (key j2 hj2) (λe=>bX ?_)⟩
 ·grind
 rw [hl] at uJ hj2
 rw [ahy,ahy,ag9 uJ,ag9 hj2] at e
 have hp:=ahR.1 hnd
 grind
end sat
abbrev Fr:=List (Nat×Value)
def lk:Fr->(Nat->Value)->Nat->Value
 |[],j,t=>j t
 |(i,v)::r,j,t=>match Nat.beq i t with
   |true=>v
   |false=>lk r j t
structure fY where
 n:Nat
 ds:List Deferred
def fF (N:fY) (fr:Fr) (ai:Nat->Value):Act:=⟨((List.range N.n).map (lk fr ai)).toArray,N.ds⟩
def eY (N:fY) (fr:Fr) (ai:Nat->Value):Operand->Value
 |.tmp t=>match Nat.blt t N.n with
   |true=>lk fr ai t
   |false=>undef
 |.const v=>v
 |.global g=>.pointer (some ⟨g,0,none⟩)
 |.func f=>.func (.func f) #[] #[]
theorem J8 (N:fY) (fr:Fr) (ai:Nat->Value) (t:Nat):(fF N fr ai).tmps[t]?=if t<N.n then some (lk fr ai t) else none:=by
 grind [fF]
theorem ji (N:fY) (fr:Fr) (ai:Nat->Value):(fF N fr ai).eval=eY N fr ai:=by
 funext x
 cases x with
 |tmp t=>
   simp only [Act.eval,eY,Array.getD_eq_getD_getElem?,J8]
   by_cases h:t<N.n
   ·have:Nat.blt t N.n=true:=by simpa [Nat.blt_eq] using h
    simp [h,this]
   have:Nat.blt t N.n=false:=by
    cases hb:Nat.blt t N.n
    ·rfl
    exact agY (by simpa [Nat.blt_eq] using hb) h
   simp [h,this]
 |const v=>rfl
 |global g=>rfl
 |func f=>rfl
def eW (fr:Fr) (d:Option Tmp) (v:Value):Fr:=match d with
 |some d=>(d,v)::fr
 |none=>fr
theorem lV (i:Nat) (v:Value) (fr:Fr) (ai:Nat->Value) (t:Nat):lk ((i,v)::fr) ai t=if i=t then v else lk fr ai t:=by
 simp only [lk]
 by_cases h:i=t
 ·subst h;simp [Nat.beq_refl]
 have:Nat.beq i t=false:=by
  cases hb:Nat.beq i t
  ·rfl
  exact agY (Nat.eq_of_beq_eq_true hb) h
 simp [h,this]
theorem iz (N:fY) (fr:Fr) (ai:Nat->Value) (d:Option Tmp) (v:Value):(fF N fr ai).put d v=fF N (eW fr d v) ai:=by
 cases d with
 |none=>rfl
 |some d=>
   unfold Act.put
   have hd:(fF N fr ai).defers=(fF N (eW fr (some d) v) ai).defers:=rfl
   have ht:(fF N fr ai).tmps.setIfInBounds d v=(fF N (eW fr (some d) v) ai).tmps:=by
    grind [J8,fF,eW,lV]
   show Act.mk _ _=_
   rw [ht]
   rfl
def yF (ops:Array Oper) (N:fY) (fr:Fr) (ai:Nat->Value) (j:Nat):Option Bool:=
 match ops.toList[j]? with
 |some o=>match o.dst with
   |some d=>match Nat.blt d N.n with
     |true=>match lk fr ai d with
       |.bool b=>some b
       |_=>none
     |false=>none
   |none=>none
 |none=>none
theorem MV (ops:Array Oper) (N:fY) (fr:Fr) (ai:Nat->Value) (j:Nat):yielded ops (fF N fr ai).tmps j=yF ops N fr ai j:=by
 unfold yielded yF
 rw [Array.getElem?_toList]
 cases ops[j]? with
 |none=>rfl
 |some o=>
   simp only [Option.bind_some]
   cases o.dst with
   |none=>rfl
   |some d=>
     simp only [Option.bind_some,J8]
     by_cases h:d<N.n
     ·have:Nat.blt d N.n=true:=by simpa [Nat.blt_eq] using h
      grind
     have:Nat.blt d N.n=false:=by
      cases hb:Nat.blt d N.n
      ·rfl
      exact agY (by simpa [Nat.blt_eq] using hb) h
     simp [h,this]
def kG (fr:Fr) (ai:Nat->Value):List Nat->Fr
 |[]=>[]
 |i::r=>(i,lk fr ai i)::kG fr ai r
theorem GS (fr:Fr) (ai:Nat->Value):∀(ar:List Nat) (t:Nat),lk (kG fr ai ar) (lk fr ai) t=lk fr ai t
 |[],_=>rfl
 |i::r,t=>by
   rw [kG,lV]
   by_cases h:i=t
   ·simp [h]
   simp [h,GS fr ai r t]
theorem oW (N:fY) (fr:Fr) (ai:Nat->Value) (ar:List Nat):fF N fr ai=fF N (kG fr ai ar) (lk fr ai):=by
 unfold fF
 have:(List.range N.n).map (lk fr ai)=(List.range N.n).map (lk (kG fr ai ar) (lk fr ai)):=ahx (λt _=>(GS fr ai ar t).symm)
 rw [this]
inductive Hint
 |at (i:Nat)
 |old (v:Value)
 |view (i:Nat) (v:Value)
structure SS where
 hints:List Hint
 ax:List HP
 eZ:List Prop
 used:Bool
def oY:List Prop->Prop
 |[]=>True
 |p::r=>p/\oY r
theorem oY.mem:∀{l:List Prop},oY l->∀{p:Prop},p∈l->p
 |[],_,_,h=>by cases h
 |_::_,h,_,hm=>by
   rcases aha.1 hm with e|e
   ·exact e ▸ h.1
   exact h.2.mem e
def eX (P:Program) (β:Bs) (n:Nat) (ro:Bool) {α:Type}:Sem α->SS->Option (α×SS)
 |.pure a,s=>some (a,s)
 |.load _ a k,s=>
   match s.hints with
   |.at i::hs=>
     match s.ax[i]? with
     |some (.aD b cs _)=>
       match a.spot with
       |none=>
         match cs[a.off]? with
         |some v=>eX P β n ro (k v) {s with hints:=hs,eZ:=(a.block=b)::s.eZ}
         |none=>none
       |some _=>none
     |_=>none
   |.old v::hs=>eX P β n ro (k v) {s with hints:=hs,eZ:=(β.O a.block/\β.w0.cell? a=some v)::s.eZ}
   |.view i v::hs=>
     match s.ax[i]? with
     |some (.abs A)=>eX P β n ro (k v) {s with hints:=hs,eZ:=(∀F w,A.h F w->w.cell? a=some v)::s.eZ}
     |_=>none
   |[]=>none
 |.store _ a v k,s=>
   match ro with
   |true=>none
   |false=>
   match v with
   |.agg _=>none
   |.tuple _=>none
   |v=>
     match s.hints with
     |.at i::hs=>
       match s.ax[i]? with
       |some (.aD b cs T)=>
         match a.spot with
         |none=>
           match cs[a.off]? with
           |some _=>eX P β n ro k {s with hints:=hs,ax:=s.ax.set i (.aD b (cs.set a.off v) T),eZ:=(a.block=b)::s.eZ}
           |none=>none
         |some _=>none
       |_=>none
     |_=>none
 |.new o k,s=>
   match ro,s.used,o with
   |false,false,.cells c T (0,0)=>eX P β n ro (k n) {s with ax:=s.ax++[.aD n c.toList T],used:=true}
   |_,_,_=>none
 |.shape r k,s=>
   match s.hints with
   |.at i::hs=>
     match s.ax[i]? with
     |some (.aD b cs T)=>eX P β n ro (k (some (T,cs.length))) {s with hints:=hs,eZ:=(r=b)::s.eZ}
     |_=>none
   |_=>none
 |.frozen a k,s=>
   match s.hints with
   |.at i::hs=>
     match s.ax[i]? with
     |some (.aD b _ _)=>eX P β n ro (k false) {s with hints:=hs,eZ:=(a.block=b)::s.eZ}
     |_=>none
   |_=>none
 |.program k,s=>eX P β n ro (k P) s
 |.mark _ k,s=>eX P β n ro k s
 |.freeze ..,_=>none
 |.getObj ..,_=>none
 |.setObj ..,_=>none
 |.choose ..,_=>none
 |.sys ..,_=>none
 |.halt _,_=>none
section sound
variable {P:Program} {β:Bs} {n:Nat} {ro:Bool}
theorem um {α:Type}:∀(s:Sem α) (S S':SS) (x:α),eX P β n ro s S=some (x,S')->∀p,p∈S.eZ->p∈S'.eZ:=by
 intro s
 induction s with
 |pure a=>intro S S' x h p hp;simp only [eX,Option.some.injEq,Prod.mk.injEq] at h;rw [←h.2];exact hp
 |load m a k ih=>intro S S' x h p hp;simp only [eX] at h;(repeat' split at h);all_goals first|(cases h;done)|exact ih _ _ _ _ h p (ag6 _ hp)
 |store m a v k ih=>intro S S' x h p hp;simp only [eX] at h;(repeat' split at h);all_goals first|(cases h;done)|exact ih _ _ _ h p (ag6 _ hp)
 |new o k ih=>intro S S' x h p hp;simp only [eX] at h;(repeat' split at h);all_goals first|(cases h;done)|exact ih _ _ _ _ h p hp
 |shape r k ih=>intro S S' x h p hp;simp only [eX] at h;(repeat' split at h);all_goals first|(cases h;done)|exact ih _ _ _ _ h p (ag6 _ hp)
 |frozen r k ih=>intro S S' x h p hp;simp only [eX] at h;(repeat' split at h);all_goals first|(cases h;done)|exact ih _ _ _ _ h p (ag6 _ hp)
 |program k ih=>intro S S' x h p hp;simp only [eX] at h;exact ih _ _ _ _ h p hp
 |mark m k ih=>intro S S' x h p hp;simp only [eX] at h;exact ih _ _ _ h p hp
 |freeze a m k ih=>intro S S' x h;simp only [eX] at h;cases h
 |getObj r k ih=>intro S S' x h;simp only [eX] at h;cases h
 |setObj r o k ih=>intro S S' x h;simp only [eX] at h;cases h
 |choose q k ih=>intro S S' x h;simp only [eX] at h;cases h
 |sys c k ih=>intro S S' x h;simp only [eX] at h;cases h
 |halt e=>intro S S' x h;simp only [eX] at h;cases h
theorem Rb {α:Type}:∀(s:Sem α) (S S':SS) (x:α),eX P β n true s S=some (x,S')->S'.ax=S.ax/\S'.used=S.used:=by
 intro s
 induction s with
 |pure a=>intro S S' x h;simp only [eX,Option.some.injEq,Prod.mk.injEq] at h;rw [←h.2];exact⟨rfl,rfl⟩
 |load m a k ih=>intro S S' x h;simp only [eX] at h;(repeat' split at h);all_goals first|(cases h;done)|(have h':=ih _ _ _ _ h;exact h')
 |store m a v k ih=>intro S S' x h;simp only [eX] at h;cases h
 |new o k ih=>intro S S' x h;simp only [eX] at h;(repeat' split at h);all_goals first|(cases h;done)|contradiction
 |shape r k ih=>intro S S' x h;simp only [eX] at h;(repeat' split at h);all_goals first|(cases h;done)|(have h':=ih _ _ _ _ h;exact h')
 |frozen r k ih=>intro S S' x h;simp only [eX] at h;(repeat' split at h);all_goals first|(cases h;done)|(have h':=ih _ _ _ _ h;exact h')
 |program k ih=>intro S S' x h;simp only [eX] at h;(have h':=ih _ _ _ _ h;exact h')
 |mark m k ih=>intro S S' x h;simp only [eX] at h;exact ih _ _ _ h
 |freeze a m k ih=>intro S S' x h;simp only [eX] at h;cases h
 |getObj r k ih=>intro S S' x h;simp only [eX] at h;cases h
 |setObj r o k ih=>intro S S' x h;simp only [eX] at h;cases h
 |choose q k ih=>intro S S' x h;simp only [eX] at h;cases h
 |sys c k ih=>intro S S' x h;simp only [eX] at h;cases h
 |halt e=>intro S S' x h;simp only [eX] at h;cases h
theorem UU {α:Type}:∀(s:Sem α) (S S':SS) (x:α),eX P β n true s S=some (x,S')->S.hints=[]->S'.eZ=S.eZ:=by
 intro s
 induction s with
 |pure a=>intro S S' x h;simp only [eX,Option.some.injEq,Prod.mk.injEq] at h;rw [←h.2];exact λ_=>rfl
 |load m a k ih=>intro S S' x h hh;simp only [eX,hh] at h;cases h
 |store m a v k ih=>intro S S' x h;simp only [eX] at h;cases h
 |new o k ih=>intro S S' x h;simp only [eX] at h;(repeat' split at h);all_goals first|(cases h;done)|contradiction
 |shape r k ih=>intro S S' x h hh;simp only [eX,hh] at h;cases h
 |frozen r k ih=>intro S S' x h hh;simp only [eX,hh] at h;cases h
 |program k ih=>intro S S' x h;simp only [eX] at h;exact ih _ _ _ _ h
 |mark m k ih=>intro S S' x h;simp only [eX] at h;exact ih _ _ _ h
 |freeze a m k ih=>intro S S' x h;simp only [eX] at h;cases h
 |getObj r k ih=>intro S S' x h;simp only [eX] at h;cases h
 |setObj r o k ih=>intro S S' x h;simp only [eX] at h;cases h
 |choose q k ih=>intro S S' x h;simp only [eX] at h;cases h
 |sys c k ih=>intro S S' x h;simp only [eX] at h;cases h
 |halt e=>intro S S' x h;simp only [eX] at h;cases h
theorem lY {w:World} {b:Nat} {cs:List Value} {T:TypeId} {a:Addr} {v:Value} (h:w.heap[b]?=some (.cells ⟨cs⟩ T (0,0))) (hs:a.spot=none) (hb:a.block=b) (hv:cs[a.off]?=some v):w.cell? a=some v/\w.frozen? a=false:=by
 subst hb
 refine⟨?_,?_⟩
 ·simp [World.cell?,h,hs,hv]
 simp [World.frozen?,h]
theorem zF {w:World} {b:Nat} {cs:List Value} {T:TypeId} {a:Addr} {v:Value} {F:Fp} (h:(HP.aD b cs T).h F w) (hs:a.spot=none) (hb:a.block=b) :
 ∃F',(HP.aD b (cs.set a.off v) T).h F' (w.setCell a v)/\Step F w F' (w.setCell a v):=by
 obtain⟨h1,h2⟩:=h
 refine⟨F,⟨?_,h2⟩,⟨(cJ.refl _ _).setCell (.inr ((h2 _).2 hb)) v,λ_ h=>.inl h⟩⟩
 subst hb
 simp [World.setCell,Array.getElem?_modify,h1,hs,Array.setIfInBounds_def]
 exact λh=>(List.set_eq_of_length_le h).symm
theorem MI (w:World) (p:Addr) (v:Value):(w.setCell p v).heap.size=w.heap.size:=by simp [World.setCell]
theorem yT {α:Type}:∀(s:Sem α) (S S':SS) (x:α) (w:World),eX P β n ro s S=some (x,S')->(∀p,p∈S'.eZ->p)->aR β S.ax w->(S.used=false->n=w.heap.size) →
 ∃w',s.run P w=.ok x w'/\aR β S'.ax w'/\(S'.used=false->n=w'.heap.size)/\(ro=true->w'=w/\S'.ax=S.ax):=by
 intro s
 induction s with
 |pure a=>
   intro S S' x w h _ hS hn
   simp only [eX,Option.some.injEq,Prod.mk.injEq] at h
   obtain⟨rfl,rfl⟩:=h
   exact⟨w,rfl,hS,hn,λ_=>⟨rfl,rfl⟩⟩
 |load m a k ih=>
   intro S S' x w h ho hS hn
   simp only [eX] at h
   repeat' split at h
   all_goals first|(cases h;done)|skip
   ·rename_i hp _ hs _ v hv
    have hb:a.block=_:=ho _ (um _ _ _ _ h _ ag7)
    obtain⟨F,hF⟩:=hS.get hp
    have hc:=(lY hF.1 hs hb hv).1
    obtain⟨w',h1,h2⟩:=ih _ _ _ _ w h ho hS hn
    exact⟨w',by simp only [Sem.run,hc];exact h1,h2⟩
   ·rename_i v hs hh
    have hc:=hS.1.cell (ho _ (um _ _ _ _ h _ ag7))
    obtain⟨w',h1,h2⟩:=ih _ _ _ _ w h ho hS hn
    exact⟨w',by simp only [Sem.run,hc];exact h1,h2⟩
   rename_i A hp
   obtain⟨F,hF⟩:=hS.get hp
   have hc:=ho _ (um _ _ _ _ h _ ag7) F w hF
   obtain⟨w',h1,h2⟩:=ih _ _ _ _ w h ho hS hn
   exact⟨w',by simp only [Sem.run,hc];exact h1,h2⟩
 |store m a v k ih=>
   intro S S' x w h ho hS hn
   simp only [eX] at h
   cases ro with
   |true=>simp at h
   |false=>
   simp only at h
   split at h
   ·cases h
   ·cases h
   rename_i hv1 hv2
   repeat' split at h
   all_goals first|(cases h;done)|skip
   rename_i hp _ hs _ u hu
   have hb:a.block=_:=ho _ (um _ _ _ _ h _ ag7)
   obtain⟨F,hF⟩:=hS.get hp
   obtain⟨hc,hf⟩:=lY hF.1 hs hb hu
   have ju:=hS.set hp (λF hF=>zF (v:=v) hF hs hb)
   obtain⟨w',h1,h2⟩:=ih _ _ _ (w.setCell a v) h ho ju (λe=>by rw [MI];exact hn e)
   refine⟨w',?_,h2.1,h2.2.1,λe=>by cases e⟩
   rw [←h1]
   cases v<;>first|(simp only [Sem.run,hc,hf];rfl)|exact agY rfl (hv1 _)|exact agY rfl (hv2 _)
 |new o k ih=>
   intro S S' x w h ho hS hn
   simp only [eX] at h
   split at h
   ·rename_i c T hu
    have hn':=hn hu
    have ju:aR β (S.ax++[.aD n c.toList T]) (w.alloc (.cells c T (0,0))):=hS.new (F:=λk=>k=n) ⟨by rw [hn'];exact heap_alloc_new w _,λ_=>Iff.rfl⟩ ((cJ.refl _ _).alloc _) (λk e=>by rw [e,hn'];exact ag5 _)
    obtain⟨w',h1,h2⟩:=ih _ _ _ _ (w.alloc (.cells c T (0,0))) h ho ju (λe=>by cases e)
    refine⟨w',?_,h2.1,h2.2.1,λe=>by cases e⟩
    rw [←h1,hn']
    rfl
   cases h
 |shape r k ih=>
   intro S S' x w h ho hS hn
   simp only [eX] at h
   repeat' split at h
   all_goals first|(cases h;done)|skip
   rename_i b cs T hp
   have hb:r=b:=ho _ (um _ _ _ _ h _ ag7)
   obtain⟨F,hF⟩:=hS.get hp
   have hc:w.shape? r=some (T,cs.length):=by simp [World.shape?,hb,hF.1]
   obtain⟨w',h1,h2⟩:=ih _ _ _ _ w h ho hS hn
   exact⟨w',by simp only [Sem.run,hc];exact h1,h2⟩
 |frozen a k ih=>
   intro S S' x w h ho hS hn
   simp only [eX] at h
   repeat' split at h
   all_goals first|(cases h;done)|skip
   rename_i b cs T hp
   have hb:a.block=b:=ho _ (um _ _ _ _ h _ ag7)
   obtain⟨F,hF⟩:=hS.get hp
   have hc:w.frozen? a=false:=by simp [World.frozen?,hb,hF.1]
   obtain⟨w',h1,h2⟩:=ih _ _ _ _ w h ho hS hn
   exact⟨w',by simp only [Sem.run,hc];exact h1,h2⟩
 |program k ih=>intro S S' x w h ho hS hn;simp only [eX] at h;exact ih _ _ _ _ w h ho hS hn
 |mark m k ih=>intro S S' x w h ho hS hn;simp only [eX] at h;exact ih _ _ _ w h ho hS hn
 |freeze a m k ih=>intro S S' x w h;simp only [eX] at h;cases h
 |getObj r k ih=>intro S S' x w h;simp only [eX] at h;cases h
 |setObj r o k ih=>intro S S' x w h;simp only [eX] at h;cases h
 |choose q k ih=>intro S S' x w h;simp only [eX] at h;cases h
 |sys c k ih=>intro S S' x w h;simp only [eX] at h;cases h
 |halt e=>intro S S' x w h;simp only [eX] at h;cases h
end sound
structure OH where
 hs:List Hint:=[]
 num:Option Nat:=none
 afj:Option Nat:=none
 base:Option Addr:=none
 conv:Option Value:=none
def o_:OH:=⟨[],none,none,none,none⟩
def bw (A:Option Addr):Nat:=match A with
 |some a=>a.block
 |none=>0
def br (A:Option Addr):Nat:=match A with
 |some a=>a.off
 |none=>0
def CV (P:Program) (β:Bs) (n:Nat) (ro:Bool) (ev:Operand->Value) (o:Oper) (h:OH) (S:SS):Option (Value×SS):=
 match h.num with
 |none=>
   match eX P β n ro (execOp ev o) {S with hints:=h.hs} with
   |some (.value v,S')=>some (v,S')
   |some (.skip,S')=>some (undef,S')
   |_=>none
 |some m=>
   match o.op with
   |.indexAddr t x ix=>
     match P.underlying t with
     |some (.slice e)=>
       match P.info? e with
       |some i=>
         match ev x with
         |.slice A len _=>
           match ev ix with
           |.int _ z=>
             match h.base with
             |some a=>some (.pointer (some ⟨a.block,a.off+m*i.size,none⟩),{S with eZ:=(z=(m:Int))::(m<len)::(a.spot=none)::(A=some a)::S.eZ})
             |none=>
               match A with
               |some a=>some (.pointer (some ⟨a.block,a.off+m*i.size,none⟩),{S with eZ:=(z=(m:Int))::(m<len)::(a.spot=none)::S.eZ})
               |none=>none
           |_=>none
         |_=>none
       |none=>none
     |_=>none
   |.index t x ix=>
     match P.underlying t with
     |some .string=>
       match ev x with
       |.string s=>
         match ev ix with
         |.int _ z=>some (.int .u8 (s.data.getD m 0).toNat,{S with eZ:=(z=(m:Int))::(m<s.size)::S.eZ})
         |_=>none
       |_=>none
     |_=>none
   |.slice t x lo hi mx=>
     match mx with
     |some _=>none
     |none=>
     match P.underlying t with
     |some .string=>
       match ev x with
       |.string s=>
         match lo,hi with
         |none,some hv=>
           match ev hv with
           |.int _ z=>some (.string (s.extract 0 m),{S with eZ:=(z=(m:Int))::(m<=s.size)::S.eZ})
           |_=>none
         |some lv,none=>
           match ev lv with
           |.int _ z=>some (.string (s.extract m s.size),{S with eZ:=(z=(m:Int))::(m<=s.size)::S.eZ})
           |_=>none
         |some lv,some hv=>
           match h.afj with
           |some m2=>
             match ev lv with
             |.int _ y=>
               match ev hv with
               |.int _ z=>some (.string (s.extract m2 m),{S with eZ:=(z=(m:Int))::(y=(m2:Int))::(m<=s.size)::(m2<=m)::S.eZ})
               |_=>none
             |_=>none
           |none=>none
         |none,none=>none
       |_=>none
     |some (.slice e)=>
       match P.info? e with
       |some i=>
         match ev x with
         |.slice A len cap=>
           match lo,hi with
           |none,some hv=>
             match ev hv with
             |.int _ z=>some (.slice A m cap,{S with eZ:=(z=(m:Int))::(m<=cap)::S.eZ})
             |_=>none
           |some lv,none=>
             match ev lv with
             |.int _ z=>
               match h.base with
               |some a=>some (.slice (some ⟨a.block,a.off+m*i.size,none⟩) (len-m) (cap-m),{S with eZ:=(z=(m:Int))::(m<=len)::(m<cap)::(a.spot=none)::(A=some a)::S.eZ})
               |none=>
                 match A with
                 |some a=>some (.slice (some ⟨a.block,a.off+m*i.size,none⟩) (len-m) (cap-m),{S with eZ:=(z=(m:Int))::(m<=len)::(m<cap)::(a.spot=none)::S.eZ})
                 |none=>none
             |_=>none
           |_,_=>none
         |_=>none
       |none=>none
     |_=>none
   |_=>none
def zG (P:Program) (β:Bs) (n:Nat) (ro:Bool) (ev:Operand->Value) (o:Oper) (h:OH) (S:SS):Option (Value×SS):=
 match CV P β n ro ev o h S with
 |some (v,S')=>
   match h.conv with
   |none=>some (v,S')
   |some v'=>some (v',{S' with eZ:=(v=v')::S'.eZ})
 |none=>none
def sG (P:Program) (ev:Operand->Value) (o:Oper) (w:World) (v:Value) (w':World):Prop:=
 (execOp ev o).run P w=.ok (.value v) w'\/(v=undef/\(execOp ev o).run P w=.ok .skip w')
theorem sC {P:Program} {e:TypeId} {i:TypeInfo} (h:P.info? e=some i) (w:World):(sizeOf e).run P w=.ok i.size w:=by
 have h1:sizeOf e=.program λp=>(match p.info? e with|some i=>Sem.pure i|none=>stuck "no such type").bind λi=>.pure i.size:=rfl
 rw [h1]
 simp only [Sem.run,h]
 rfl
section zG
variable {P:Program} {β:Bs} {n:Nat} {ro:Bool} {ev:Operand->Value} {o:Oper} {h:OH} {S S':SS} {v:Value}
theorem UW (hr:CV P β n ro ev o h S=some (v,S')):∀p,p∈S.eZ->p∈S'.eZ:=by
 intro p hp
 unfold CV at hr
 repeat' split at hr
 all_goals grind [um]
theorem Ge {w:World} (hr:CV P β n ro ev o h S=some (v,S')) (ho:∀p,p∈S'.eZ->p) (hS:aR β S.ax w) (hn:S.used=false->n=w.heap.size) :
 ∃w',sG P ev o w v w'/\aR β S'.ax w'/\(S'.used=false->n=w'.heap.size)/\(ro=true->w'=w/\S'.ax=S.ax):=by
 unfold CV at hr
 repeat' split at hr
 all_goals first|(cases hr;done)|skip
 ·rename_i h0;cases hr
  obtain⟨w',h1,h2⟩:=yT _ _ _ _ w h0 ho hS hn
  exact⟨w',.inl h1,h2⟩
 ·rename_i h0;cases hr
  obtain⟨w',h1,h2⟩:=yT _ _ _ _ w h0 ho hS hn
  exact⟨w',.inr ⟨rfl,h1⟩,h2⟩
 ·rename_i m _ _ t x ix bZ _ e hu _ i hi _ A len cap hx _ k z fH _ a _
  cases hr
  have e1:z=(m:Int):=ho _ agU
  have e2:m<len:=ho _ agU
  have e3:a.spot=none:=ho _ agU
  have e4:A=some a:=ho _ agU
  subst e4
  refine⟨w,.inl ?_,hS,hn,λ_=>⟨rfl,rfl⟩⟩
  have ea:a.add (m*i.size)=⟨a.block,a.off+m*i.size,none⟩:=by
   unfold Addr.add
   split
   ·rename_i h0;cases a;simp_all
   rfl
  obtain⟨dst,op,type,pos,after,guard⟩:=o
  cases bZ
  subst e1
  have h1:(underlying t).run P w=.ok (.slice e) w:=run_underlying hu w
  have h2:(sizeOf e).run P w=.ok i.size w:=sC hi w
  simp [execOp,Instr.indexAt,hx,fH,go_sem,h1,h2,e2,ea]
 ·rename_i m _ _ t x ix bZ _ e hu _ i hi _ len cap _ k z fH _ _ _ a hx
  cases hr
  have e1:z=(m:Int):=ho _ agU
  have e2:m<len:=ho _ agU
  have e3:a.spot=none:=ho _ agU
  refine⟨w,.inl ?_,hS,hn,λ_=>⟨rfl,rfl⟩⟩
  have ea:a.add (m*i.size)=⟨a.block,a.off+m*i.size,none⟩:=by
   unfold Addr.add
   split
   ·rename_i h0;cases a;simp_all
   rfl
  obtain⟨dst,op,type,pos,after,guard⟩:=o
  cases bZ
  subst e1
  have h1:(underlying t).run P w=.ok (.slice e) w:=run_underlying hu w
  have h2:(sizeOf e).run P w=.ok i.size w:=sC hi w
  simp [execOp,Instr.indexAt,hx,fH,go_sem,h1,h2,e2,ea]
 ·rename_i m _ _ t x ix bZ _ hu _ s hx _ k z fH
  cases hr
  have e1:z=(m:Int):=ho _ agU
  have e2:m<s.size:=ho _ agU
  refine⟨w,.inl ?_,hS,hn,λ_=>⟨rfl,rfl⟩⟩
  obtain⟨dst,op,type,pos,after,guard⟩:=o
  cases bZ
  subst e1
  have h1:(underlying t).run P w=.ok .string w:=run_underlying hu w
  simp [execOp,Instr.index,hx,fH,go_sem,h1,e2]
  rfl
 ·rename_i _ m _ _ t x mx _ hu _ s hx lo hi hv bZ _ k z hz
  cases hr
  have e1:z=(m:Int):=ho _ agU
  have e2:m<=s.size:=ho _ agU
  refine⟨w,.inl ?_,hS,hn,λ_=>⟨rfl,rfl⟩⟩
  have h1:(underlying t).run P w=.ok .string w:=run_underlying hu w
  obtain⟨dst,op,type,pos,after,guard⟩:=o
  cases bZ
  subst e1
  simp [execOp,Instr.sliceAt,Instr.slice,Instr.sliceBounds,Instr.sliceBound,asIntOf,hx,hz,go_sem,h1,e2]
 ·rename_i _ m _ _ t x mx _ hu _ s hx lo hi lv bZ _ k z hz
  cases hr
  have e1:z=(m:Int):=ho _ agU
  have e2:m<=s.size:=ho _ agU
  refine⟨w,.inl ?_,hS,hn,λ_=>⟨rfl,rfl⟩⟩
  have h1:(underlying t).run P w=.ok .string w:=run_underlying hu w
  obtain⟨dst,op,type,pos,after,guard⟩:=o
  cases bZ
  subst e1
  simp [execOp,Instr.sliceAt,Instr.slice,Instr.sliceBounds,Instr.sliceBound,asIntOf,hx,hz,go_sem,h1,e2]
 ·rename_i _ m _ _ t x mx _ hu _ s hx lo hi lv hv bZ _ m2 hm2 _ k y hy _ k' z hz
  cases hr
  have e1:z=(m:Int):=ho _ agU
  have e1':y=(m2:Int):=ho _ agU
  have e2:m<=s.size:=ho _ agU
  have e3:m2<=m:=ho _ agU
  refine⟨w,.inl ?_,hS,hn,λ_=>⟨rfl,rfl⟩⟩
  have h1:(underlying t).run P w=.ok .string w:=run_underlying hu w
  obtain⟨dst,op,type,pos,after,guard⟩:=o
  cases bZ
  subst e1
  subst e1'
  simp [execOp,Instr.sliceAt,Instr.slice,Instr.sliceBounds,Instr.sliceBound,asIntOf,hx,hy,hz,go_sem,h1,e2,e3]
 ·rename_i _ m _ _ t x mx _ e hu _ i hi _ A len cap hx lo hi' hv bZ _ k z hz
  cases hr
  have e1:z=(m:Int):=ho _ agU
  have e2:m<=cap:=ho _ agU
  refine⟨w,.inl ?_,hS,hn,λ_=>⟨rfl,rfl⟩⟩
  have h1:(underlying t).run P w=.ok (.slice e) w:=run_underlying hu w
  have h2:(sizeOf e).run P w=.ok i.size w:=sC hi w
  obtain⟨dst,op,type,pos,after,guard⟩:=o
  cases bZ
  subst e1
  cases A<;>simp [execOp,Instr.sliceAt,Instr.slice,Instr.sliceBounds,Instr.sliceBound,asIntOf,hx,hz,go_sem,h1,h2,e2,Addr.add]
 ·rename_i _ m _ _ t x mx _ e hu _ i hi _ A len cap hx lo hi' lv bZ _ k z hz _ a _
  cases hr
  have e1:z=(m:Int):=ho _ agU
  have e2:m<=len:=ho _ agU
  have e3:m<cap:=ho _ agU
  have e4:a.spot=none:=ho _ agU
  have e6:A=some a:=ho _ agU
  subst e6
  refine⟨w,.inl ?_,hS,hn,λ_=>⟨rfl,rfl⟩⟩
  have h1:(underlying t).run P w=.ok (.slice e) w:=run_underlying hu w
  have h2:(sizeOf e).run P w=.ok i.size w:=sC hi w
  have ea:a.add (m*i.size)=⟨a.block,a.off+m*i.size,none⟩:=by
   unfold Addr.add
   split
   ·rename_i h0;cases a;simp_all
   rfl
  have e5:¬cap=m:=zc
  obtain⟨dst,op,type,pos,after,guard⟩:=o
  cases bZ
  subst e1
  simp [execOp,Instr.sliceAt,Instr.slice,Instr.sliceBounds,Instr.sliceBound,asIntOf,hx,hz,go_sem,h1,h2,e2,e5,ea]
 rename_i _ m _ _ t x mx _ e hu _ i hi _ len cap lo hi' lv bZ _ k z hz _ _ _ a hx
 cases hr
 have e1:z=(m:Int):=ho _ agU
 have e2:m<=len:=ho _ agU
 have e3:m<cap:=ho _ agU
 have e4:a.spot=none:=ho _ agU
 refine⟨w,.inl ?_,hS,hn,λ_=>⟨rfl,rfl⟩⟩
 have h1:(underlying t).run P w=.ok (.slice e) w:=run_underlying hu w
 have h2:(sizeOf e).run P w=.ok i.size w:=sC hi w
 have ea:a.add (m*i.size)=⟨a.block,a.off+m*i.size,none⟩:=by
  unfold Addr.add
  split
  ·rename_i h0;cases a;simp_all
  rfl
 have e5:¬cap=m:=zc
 obtain⟨dst,op,type,pos,after,guard⟩:=o
 cases bZ
 subst e1
 simp [execOp,Instr.sliceAt,Instr.slice,Instr.sliceBounds,Instr.sliceBound,asIntOf,hx,hz,go_sem,h1,h2,e2,e5,ea]
theorem GU (hr:zG P β n ro ev o h S=some (v,S')):∀p,p∈S.eZ->p∈S'.eZ:=by
 intro p hp
 grind [zG,UW]
theorem rG {w:World} (hr:zG P β n ro ev o h S=some (v,S')) (ho:∀p,p∈S'.eZ->p) (hS:aR β S.ax w) (hn:S.used=false->n=w.heap.size) :
 ∃w',sG P ev o w v w'/\aR β S'.ax w'/\(S'.used=false->n=w'.heap.size)/\(ro=true->w'=w/\S'.ax=S.ax):=by
 unfold zG at hr
 repeat' split at hr
 all_goals first|(cases hr;done)|skip
 ·grind [Ge]
 rename_i v0 S0 h0 _ v' _
 cases hr
 have e:v0=v:=ho _ ag7
 grind [Ge]
theorem XM (hr:CV P β n true ev o h S=some (v,S')):S'.ax=S.ax/\S'.used=S.used:=by
 unfold CV at hr
 repeat' split at hr
 all_goals first|(cases hr;done)|skip
 ·rename_i h0;cases hr;(have h':=Rb _ _ _ _ h0;exact h')
 ·rename_i h0;cases hr;(have h':=Rb _ _ _ _ h0;exact h')
 all_goals (cases hr;exact⟨rfl,rfl⟩)
theorem Cs (hr:zG P β n true ev o h S=some (v,S')):S'.ax=S.ax/\S'.used=S.used:=by
 grind [zG,XM]
end zG
def pH (P:Program) (β:Bs) (n:Nat) (ro:Bool) (N:fY) (ai:Nat->Value) (ops:Array Oper):List OH->Nat->Fr->SS->Option (Nat×Fr×SS)
 |[],k,fr,S=>some (k,fr,S)
 |h::hs,k,fr,S=>
   match ops.toList[k]? with
   |none=>none
   |some o=>
     match Region.wanted o (yF ops N fr ai) with
     |true=>
       match zG P β n ro (eY N fr ai) o h S with
       |some (v,S')=>pH P β n ro N ai ops hs (k+1) (eW fr o.dst v) S'
       |none=>none
     |false=>pH P β n ro N ai ops hs (k+1) (eW fr o.dst undef) S
def nI (P:Program) (β:Bs) (n:Nat) (ro:Bool) (N:fY) (ai:Nat->Value) (ops:Array Oper) (hs:List OH) (k:Nat) (fr:Fr) (ax:List HP) (ar pk:List Nat):Option (Nat×Fr×List HP×List Prop):=
 match pH P β n ro N ai ops hs k fr ⟨[],ax,[],ro⟩ with
 |some (k',bU,S)=>
   match cD pk with
   |true=>
     match cW S.ax pk with
     |some l=>some (k',kG bU ai ar,l,S.eZ)
     |none=>none
   |false=>none
 |none=>none
section runs
variable {P:Program} {β:Bs} {n:Nat} {ro:Bool} {N:fY} {ai:Nat->Value} {ops:Array Oper}
theorem xq:∀{hs:List OH} {k k':Nat} {fr bU:Fr} {S S':SS},pH P β n ro N ai ops hs k fr S=some (k',bU,S')->∀p,p∈S.eZ->p∈S'.eZ
 |[],k,k',fr,bU,S,S',h,p,hp=>by cases h;exact hp
 |h::hs,k,k',fr,bU,S,S',hr,p,hp=>by
   unfold pH at hr
   repeat' split at hr
   all_goals first|(cases hr;done)|skip
   ·rename_i h0;exact xq hr p (GU h0 p hp)
   exact xq hr p hp
theorem drop_cons {ops:Array Oper} {k:Nat} {o:Oper} (h:ops.toList[k]?=some o):ops.toList.drop k=o::ops.toList.drop (k+1):=by
 have hk:=dP h
 rw [ahJ hk]
 rw [ag9 hk] at h
 cases h
 rfl
theorem qf {o:Oper} {a:Act} {w w':World} {v:Value} {K:Act->World->Prop} {Q:Exit->Act->World->Prop} (h:sG P a.eval o w v w') (hk:K (a.put o.dst v) w'):o.wp P a w K Q:=by
 unfold Oper.wp
 rcases h with h|⟨rfl,h⟩
 ·rw [h];exact hk
 rw [h];exact hk
theorem Cd {Q:Exit->Act->World->Prop}:∀{hs:List OH} {k k':Nat} {fr bU:Fr} {S S':SS} {w:World},pH P β n ro N ai ops hs k fr S=some (k',bU,S')->(∀p,p∈S'.eZ->p)->aR β S.ax w->(S.used=false->n=w.heap.size) →
 (∀w',aR β S'.ax w'->wpList P ops Q (ops.toList.drop k') (fF N bU ai) w')->wpList P ops Q (ops.toList.drop k) (fF N fr ai) w
 |[],k,k',fr,bU,S,S',w,h,ho,hS,hn,hK=>by cases h;exact hK w hS
 |h::hs,k,k',fr,bU,S,S',w,hr,ho,hS,hn,hK=>by
   unfold pH at hr
   split at hr
   ·cases hr
   rename_i o hget
   rw [drop_cons hget]
   unfold wpList
   have hw:Region.wanted o (yielded ops (fF N fr ai).tmps)=Region.wanted o (yF ops N fr ai):=by
    have:yielded ops (fF N fr ai).tmps=yF ops N fr ai:=funext (MV ops N fr ai)
    rw [this]
   rw [hw]
   split at hr
   ·rename_i Iq
    rw [agW Iq]
    split at hr
    ·rename_i v S1 h0
     obtain⟨w',h1,h2,h3,_⟩:=rG h0 (λp hp=>ho p (xq hr p hp)) hS hn
     refine .inl (qf (v:=v) (w':=w') (by rw [ji];exact h1) ?_)
     rw [iz]
     exact Cd hr ho h2 h3 hK
    cases hr
   rename_i hwf
   rw [agV (by simp [hwf])]
   rw [iz]
   exact Cd hr ho hS hn hK
theorem Ce {Q:Act->Prop}:∀{hs:List OH} {k k':Nat} {fr bU:Fr} {S S':SS},pH P β n true N ai ops hs k fr S=some (k',bU,S')->(∀p,p∈S'.eZ->p)->S.used=true →
 (S'.ax=S.ax->wpQuiet P ops (aR β S.ax) Q (ops.toList.drop k') (fF N bU ai))->wpQuiet P ops (aR β S.ax) Q (ops.toList.drop k) (fF N fr ai)
 |[],k,k',fr,bU,S,S',h,ho,hu,hK=>by cases h;exact hK rfl
 |h::hs,k,k',fr,bU,S,S',hr,ho,hu,hK=>by
   unfold pH at hr
   split at hr
   ·cases hr
   rename_i o hget
   rw [drop_cons hget]
   unfold wpQuiet
   have hw:Region.wanted o (yielded ops (fF N fr ai).tmps)=Region.wanted o (yF ops N fr ai):=by
    have:yielded ops (fF N fr ai).tmps=yF ops N fr ai:=funext (MV ops N fr ai)
    rw [this]
   rw [hw]
   split at hr
   ·rename_i Iq
    rw [agW Iq]
    split at hr
    ·rename_i v S1 h0
     obtain⟨e1,e2⟩:=Cs h0
     refine⟨v,λw hS=>?_,?_⟩
     ·obtain⟨w',h1,h2,h3,h4⟩:=rG h0 (λp hp=>ho p (xq hr p hp)) hS (λe=>by rw [hu] at e;cases e)
      obtain⟨rfl,e⟩:=h4 rfl
      unfold Oper.quietAt
      rw [ji]
      rcases h1 with h1|⟨h1,h1'⟩
      ·rw [h1];exact⟨rfl,rfl⟩
      rw [h1'];exact⟨rfl,h1⟩
     rw [iz,←e1]
     exact Ce hr ho (e2.trans hu) (λe=>by rw [e1];exact hK (e.trans e1))
    cases hr
   rename_i hwf
   rw [agV (by simp [hwf])]
   rw [iz]
   exact Ce hr ho hu hK
end runs
abbrev Post:=Exit->Act->World->Prop
def av (P:Program) (β:Bs) (N:fY) (ops:Array Oper) (k:Nat) (fr:Fr) (ax:List HP) (Q:Post):Prop:=
 ∀ai w,aR β ax w->wpList P ops Q (ops.toList.drop k) (fF N fr ai) w
def bN (P:Program) (β:Bs) (N:fY) (ops:Array Oper) (k:Nat) (fr:Fr) (ax:List HP) (Q:Post):Prop:=
 ∀ai,wpQuiet P ops (aR β ax) (λa'=>∀w',aR β ax w'->Q .normal a' w') (ops.toList.drop k) (fF N fr ai)
def aq (P:Program) (β:Bs) (N:fY) (c:Code) (fr:Fr) (ax:List HP) (Q:Post):Prop:=
 ∀ai w,aR β ax w->c.wp P Q (fF N fr ai) w
def aB (β:Bs) (N:fY) (Q:Post) (e:Exit) (fr:Fr) (ax:List HP):Prop:=
 ∀ai w,aR β ax w->Q e (fF N fr ai) w
section rules
variable {P:Program} {β:Bs} {N:fY} {ops:Array Oper} {k k':Nat} {fr bU:Fr} {ax fe:List HP} {Q:Post} {eZ:List Prop} {c x y:Code} {e:Exit}
theorem GV {n:Nat} {ro:Bool} {ai:Nat->Value} {hs:List OH} {ar pk:List Nat} (h:nI P β n ro N ai ops hs k fr ax ar pk=some (k',bU,fe,eZ)) :
 ∃sO S,pH P β n ro N ai ops hs k fr ⟨[],ax,[],ro⟩=some (k',sO,S)/\cD pk=true/\cW S.ax pk=some fe/\bU=kG sO ai ar/\S.eZ=eZ:=by
 grind [nI]
theorem av.nil (h:ops.toList.drop k=[]) (K:aB β N Q .normal fr ax):av P β N ops k fr ax Q:=by
 intro ai w hS
 rw [h]
 exact K ai w hS
theorem bN.nil (h:ops.toList.drop k=[]) (K:aB β N Q .normal fr ax):bN P β N ops k fr ax Q:=by
 intro ai
 rw [h]
 exact λw' ju=>K ai w' ju
theorem av.tell {p:Prop} (h:∀w,aR β ax w->p) (K:p->av P β N ops k fr ax Q):av P β N ops k fr ax Q:=λai w hS=>K (h w hS) ai w hS
theorem av.mem (h:∀w,aR β ax w->aR β fe w) (K:av P β N ops k fr fe Q):av P β N ops k fr ax Q:=λai w hS=>K ai w (h w hS)
theorem aq.mem (h:∀w,aR β ax w->aR β fe w) (K:aq P β N c fr fe Q):aq P β N c fr ax Q:=λai w hS=>K ai w (h w hS)
theorem aB.mem (h:∀w,aR β ax w->aR β fe w) (K:aB β N Q e fr fe):aB β N Q e fr ax:=λai w hS=>K ai w (h w hS)
theorem aq.seq (h:aq P β N x fr ax (Exit.then (y.wp P Q) Q)):aq P β N (.seq x y) fr ax Q:=λai w hS=>wp_seq (h ai w hS)
theorem aB.next (h:aq P β N y fr ax Q):aB β N (Exit.then (y.wp P Q) Q) .normal fr ax:=λai w hS=>h ai w hS
theorem aB.oZ {K:Act->World->Prop} {id:Nat} (h:aB β N Q (.exit id) fr ax):aB β N (Exit.then K Q) (.exit id) fr ax:=λai w hS=>h ai w hS
theorem aB.bD {K:Act->World->Prop} (h:aB β N Q .ret fr ax):aB β N (Exit.then K Q) .ret fr ax:=λai w hS=>h ai w hS
theorem aq.block {id:Nat} (h:aq P β N c fr ax (Exit.inBlock id Q)):aq P β N (.block id c) fr ax Q:=λai w hS=>wp_block (h ai w hS)
theorem aB.jX {id:Nat} (h:aB β N Q .normal fr ax):aB β N (Exit.inBlock id Q) .normal fr ax:=λai w hS=>h ai w hS
theorem aB.fW {id:Nat} (h:aB β N Q .ret fr ax):aB β N (Exit.inBlock id Q) .ret fr ax:=λai w hS=>h ai w hS
theorem aB.vU {id:Nat} (h:aB β N Q .normal fr ax):aB β N (Exit.inBlock id Q) (.exit id) fr ax:=λai w hS=>by
 show (if id=id then Q .normal _ _ else _)
 rw [agW rfl]
 exact h ai w hS
theorem aB.UX {id id':Nat} (bX:id'≠id) (h:aB β N Q (.exit id') fr ax):aB β N (Exit.inBlock id Q) (.exit id') fr ax:=λai w hS=>by
 show (if id'=id then Q .normal _ _ else Q (.exit id') _ _)
 rw [agV bX]
 exact h ai w hS
theorem aq.skip (h:aB β N Q .normal fr ax):aq P β N .skip fr ax Q:=λai w hS=>wp_skip (h ai w hS)
theorem aq.exit {id:Nat} (h:aB β N Q (.exit id) fr ax):aq P β N (.exit id) fr ax Q:=λai w hS=>wp_exit (h ai w hS)
theorem aq.ret (h:aB β N Q .ret fr ax):aq P β N .ret fr ax Q:=λai w hS=>wp_ret (h ai w hS)
theorem aq.cond {o:Operand} {b:Bool} (h:∀ai,eY N fr ai o=.bool b) (ht:b=true->aq P β N x fr ax Q) (hf:b=false->aq P β N y fr ax Q):aq P β N (.cond o x y) fr ax Q:=
 λai w hS=>wp_cond_split (by rw [ji];exact h ai) (λe=>ht e ai w hS) (λe=>hf e ai w hS)
theorem aq.aex {o:Operand} (h:∀ai,eY N fr ai o=.bool true) (ht:aq P β N x fr ax Q):aq P β N (.cond o x y) fr ax Q:=aq.cond h (λ_=>ht) (λe=>by cases e)
theorem aq.aey {o:Operand} (h:∀ai,eY N fr ai o=.bool false) (hf:aq P β N y fr ax Q):aq P β N (.cond o x y) fr ax Q:=aq.cond h (λe=>by cases e) (λ_=>hf)
theorem aq.aez {o:Operand} {p:Prop} [Decidable p] (h:∀ai,eY N fr ai o=.bool (decide p)) (ht:p->aq P β N x fr ax Q) (hf:¬p->aq P β N y fr ax Q):aq P β N (.cond o x y) fr ax Q:=
 aq.cond h (λe=>ht (ahL e)) (λe=>hf (of_decide_eq_false e))
theorem aq.region {id:Nat} (h:av P β N ops 0 fr ax Q):aq P β N (.region id ops false) fr ax Q:=λai w hS=>wp_region_list (h ai w hS)
theorem aq.Fv {id:Nat} (hm:P.follows .mixedOrders=true) (hB:Region.lexB .any ops=true) (h:bN P β N ops 0 fr ax Q):aq P β N (.region id ops true) fr ax Q:=
 λai _ hS=>wp_region_quiet hm hB (hS.drewN 1) (h ai)
def XO (β:Bs) (N:fY) {ι:Type} (bR:ι->Prop) (fr:ι->Fr) (hp:ι->List HP):Act->World->Prop:=λa w=>∃i,bR i/\∃ai,a=fF N (fr i) ai/\aR β (hp i) w
theorem aq.join {ι:Type} (bR:ι->Prop) (bU:ι->Fr) (dI:ι->List HP) (hr:∀i,bR i->aq P β N y (bU i) (dI i) Q) (hf:aq P β N x fr ax (Exit.then (XO β N bR bU dI) Q)):aq P β N (.seq x y) fr ax Q:=
 λai w hS=>wp_seq (ahN (λe a w q=>by
  cases e with
  |normal=>
    obtain⟨i,hi,ai,rfl,hS⟩:=q
    exact hr i hi ai w hS
  |exit id=>exact q
  |goto l=>exact q
  |ret=>exact q
  |panic ch=>exact q
  |outgrown=>exact q) (hf ai w hS))
theorem aB.meet {ι:Type} {bR:ι->Prop} {bU:ι->Fr} {dI:ι->List HP} (i:ι) {ar pk:List Nat} (hi:bR i) (hf:∀ai,kG fr ai ar=bU i) (hn:cD pk=true) (hp:cW ax pk=some (dI i)) :
 aB β N (Exit.then (XO β N bR bU dI) Q) .normal fr ax:=λai w hS=>⟨i,hi,lk fr ai,by rw [oW N fr ai ar,hf ai],hS.pick hn hp⟩
def Turn (β:Bs) (N:fY) {ι:Type} (bR:ι->Prop) (μ:ι->Nat) (fr:ι->Fr) (hp:ι->List HP) (m:Nat):Act->World->Prop:=λa w=>∃i,bR i/\μ i<m/\∃ai,a=fF N (fr i) ai/\aR β (hp i) w
theorem aq.loop {ι:Type} (bR:ι->Prop) (μ:ι->Nat) (bU:ι->Fr) (dI:ι->List HP) (i0:ι) {ar pk:List Nat} (h0:bR i0) (hf:∀ai,kG fr ai ar=bU i0) (hn:cD pk=true) (hp:cW ax pk=some (dI i0))
 (round:∀i,bR i->aq P β N c (bU i) (dI i) (Exit.then (Turn β N bR μ bU dI (μ i)) Q)):aq P β N (.loop c) fr ax Q:=by
 intro ai w hS
 refine wp_loop_ghost (λn a w=>∃i,bR i/\μ i=n/\∃ai,a=fF N (bU i) ai/\aR β (dI i) w) (μ i0) ⟨i0,h0,rfl,lk fr ai,by rw [oW N fr ai ar,hf ai],hS.pick hn hp⟩ ?_
 rintro n a w ⟨i,hi,rfl,ai,rfl,hS⟩
 refine ahN (λe a w q=>?_) (round i hi ai w hS)
 cases e with
 |normal=>
   obtain⟨i',hi',fU,qg,e,ju⟩:=q
   exact⟨μ i',fU,i',hi',rfl,qg,e,ju⟩
 |exit id=>exact q
 |goto l=>exact q
 |ret=>exact q
 |panic ch=>exact q
 |outgrown=>exact q
theorem aB.turn {ι:Type} {bR:ι->Prop} {μ:ι->Nat} {bU:ι->Fr} {dI:ι->List HP} {m:Nat} (i:ι) {ar pk:List Nat} (hi:bR i) (hm:μ i<m) (hf:∀ai,kG fr ai ar=bU i) (hn:cD pk=true) (hp:cW ax pk=some (dI i)) :
 aB β N (Exit.then (Turn β N bR μ bU dI m) Q) .normal fr ax:=λai w hS=>⟨i,hi,hm,lk fr ai,by rw [oW N fr ai ar,hf ai],hS.pick hn hp⟩
end rules
def gU (R:List HP):eH where
 h F w:=∃φ:Nat->Fp,(∀(i:Nat) (p:HP),R[i]?=some p->p.h (φ i) w)/\(∀i j,i<R.length->j<R.length->i≠j->Apart (φ i) (φ j))/\∀k,F k↔∃i,i<R.length/\φ i k
 lt:=by
  rintro F w ⟨φ,h1,h2,h3⟩ k hk
  obtain⟨i,hi,hk⟩:=(h3 k).1 hk
  obtain⟨p,hp⟩:=mP hi
  exact HP.lt (h1 i p hp) k hk
 st:=by
  rintro F w ⟨φ,h1,h2,h3⟩ S w' hk hn
  exact⟨φ,λi p hp=>HP.st (h1 i p hp) hk (λk h=>hn k ((h3 k).2 ⟨i,dP hp,h⟩)),h2,h3⟩
section contracts
variable {P:Program} {β:Bs} {l R:List HP} {w:World}
theorem aR.gU (h:aR β (l++R) w):aR β (l++[.abs (gU R)]) w:=by
 obtain⟨ho,φ,h1,h2,h3⟩:=h
 have hl:(l++R).length=l.length+R.length:=ag4
 refine⟨ho,λi=>if i<l.length then φ i else λk=>∃j,j<R.length/\φ (l.length+j) k,λi p hp=>?_,λi hi k hk hO=>?_,λi j hi hj bX k hk jq=>?_⟩
 ·by_cases e:i<l.length
  ·grind
  have hi:i=l.length:=by have:=dP hp;simp at this;omega
  subst hi
  simp at hp
  subst hp
  simp only [ahO,if_false]
  exact⟨λj=>φ (l.length+j),λj p hp=>h1 _ p Pe,λi j hi hj bX=>h3 _ _ zc zc zc,λk=>Iff.rfl⟩
 ·by_cases e:i<l.length
  ·grind
  simp only [e,if_false] at hk
  grind
 simp at hi hj
 by_cases e1:i<l.length
 ·simp only [e1,if_true] at hk
  by_cases e2:j<l.length
  ·simp only [e2,if_true] at jq
   exact h3 i j zc zc bX k hk jq
  simp only [e2,if_false] at jq
  obtain⟨t,ht,jq⟩:=jq
  exact h3 i (l.length+t) zc zc zc k hk jq
 simp only [e1,if_false] at hk
 obtain⟨t,ht,hk⟩:=hk
 by_cases e2:j<l.length
 ·simp only [e2,if_true] at jq
  exact h3 j (l.length+t) zc zc zc k jq hk
 omega
theorem aR.sQ (h:aR β (l++[.abs (Go.Proofs.YtbnfiigafobejaaGreat.gU R)]) w):aR β (l++R) w:=by
 obtain⟨ho,φ,h1,h2,h3⟩:=h
 have hl:(l++R).length=l.length+R.length:=ag4
 have hl':(l++[HP.abs (Go.Proofs.YtbnfiigafobejaaGreat.gU R)]).length=l.length+1:=agU
 obtain⟨ψ,q1,q2,q3⟩:=h1 l.length (.abs (Go.Proofs.YtbnfiigafobejaaGreat.gU R)) agU
 have hsub:∀i,l.length<=i->i<l.length+R.length->∀k,ψ (i-l.length) k->φ l.length k:=Pe
 refine⟨ho,λi=>if i<l.length then φ i else ψ (i-l.length),λi p hp=>?_,λi hi k hk hO=>?_,λi j hi hj bX k hk jq=>?_⟩
 ·grind
 ·grind
 by_cases e1:i<l.length
 ·simp only [e1,if_true] at hk
  by_cases e2:j<l.length
  ·simp only [e2,if_true] at jq
   exact h3 i j zc zc bX k hk jq
  simp only [e2,if_false] at jq
  exact h3 i l.length zc zc zc k hk (hsub j zc zc k jq)
 simp only [e1,if_false] at hk
 by_cases e2:j<l.length
 ·simp only [e2,if_true] at jq
  exact h3 j l.length zc zc zc k jq (hsub i zc zc k hk)
 simp only [e2,if_false] at jq
 exact q2 (i-l.length) (j-l.length) zc zc zc k hk jq
def aW (P:Program) (β:Bs) (f:FuncId) (args:Array Value) (pre:List HP) (post:Value->List HP->Prop):Prop:=
 ∀(R:eH) w,aR β (pre++[.abs R]) w->Calls P f args w λe w'=>∃v l,e=.returned v/\post v l/\aR β (l++[.abs R]) w'
theorem aW.use {f:FuncId} {args:Array Value} {pre:List HP} {post:Value->List HP->Prop} (h:aW P β f args pre post) (hS:aR β (pre++R) w) :
 Calls P f args w λe w'=>∃v l,e=.returned v/\post v l/\aR β (l++R) w':=
 (h _ w hS.gU).mono λ_ _ ⟨v,l,h1,h2,h3⟩=>⟨v,l,h1,h2,h3.sQ⟩
theorem aW.mono {f:FuncId} {args:Array Value} {pre:List HP} {post post':Value->List HP->Prop} (h:aW P β f args pre post) (hp:∀v l,post v l->post' v l):aW P β f args pre post':=
 λR w hS=>(h R w hS).mono λ_ _ ⟨v,l,h1,h2,h3⟩=>⟨v,l,h1,hp v l h2,h3⟩
end contracts
def qM (P:Program) (β:Bs) (N:fY) (ai:Nat->Value) (ops:Array Oper) (fr:Fr) (k:Nat):Option (FuncId×Array Value×Option Tmp):=
 match ops.toList[k]? with
 |some o=>
   match Region.wanted o (yF ops N fr ai) with
   |true=>
     match eX P β 0 true (execOp (eY N fr ai) o) ⟨[],[],[],true⟩ with
     |some (.enter f args,_)=>some (f,args,o.dst)
     |_=>none
   |false=>none
 |none=>none
section calls
variable {P:Program} {β:Bs} {N:fY} {ops:Array Oper} {k:Nat} {fr:Fr} {ax R:List HP} {Q:Post} {f:FuncId} {args:Array Value} {d:Option Tmp}
theorem aR.nil {l:List HP} {w:World} (h:aR β l w):aR β [] w:=⟨h.1,λ_ _=>False,λi p hp=>by simp at hp,λi hi=>by simp at hi,λi j hi=>by simp at hi⟩
theorem Cg {ai:Nat->Value} (h:qM P β N ai ops fr k=some (f,args,d)):∃o,ops.toList[k]?=some o/\Region.wanted o (yF ops N fr ai)=true/\o.dst=d ∧
 ∀w,aR β [] w->(execOp (eY N fr ai) o).run P w=.ok (.enter f args) w:=by
 unfold qM at h
 repeat' split at h
 all_goals first|(cases h;done)|skip
 rename_i o h1 _ h2 _ f' args' S' h3
 cases h
 refine⟨o,h1,h2,rfl,λw hS=>?_⟩
 have hob:=UU _ _ _ _ h3 rfl
 obtain⟨w',h4,_,_,h5⟩:=yT _ _ _ _ w h3 (λp hp=>by rw [hob] at hp;cases hp) hS (λe=>by cases e)
 rw [h4,(h5 rfl).1]
theorem iL (o:Oper) (ai:Nat->Value):Region.wanted o (yielded ops (fF N fr ai).tmps)=Region.wanted o (yF ops N fr ai):=by
 have:yielded ops (fF N fr ai).tmps=yF ops N fr ai:=funext (MV ops N fr ai)
 rw [this]
theorem av.call {pre:List HP} {post:Value->List HP->Prop} {pk:List Nat} (hc:∀ai,qM P β N ai ops fr k=some (f,args,d)) (hs:aW P β f args pre post) (hn:cD pk=true) (hp:cW ax pk=some (pre++R))
 (K:∀v l,post v l->av P β N ops (k+1) (eW fr d v) (l++R) Q):av P β N ops k fr ax Q:=by
 intro ai w hS
 obtain⟨o,h1,h2,rfl,h3⟩:=Cg (hc ai)
 rw [drop_cons h1]
 unfold wpList
 rw [iL,agW h2]
 refine .inl ?_
 unfold Oper.wp
 rw [ji,h3 w hS.nil,Oper.upon_enter]
 refine (hs.use (hS.pick hn hp)).mono ?_
 grind [fF,iz,qM,aW,cD,cW,av,eW]
theorem bN.call {pre:List HP} {post:Value->List HP->Prop} {pk UY:List Nat} {v0:Value} (hc:∀ai,qM P β N ai ops fr k=some (f,args,d)) (hs:aW P β f args pre post) (hn:cD pk=true) (hp:cW ax pk=some (pre++R))
 (hn':cD UY=true) (dI:cW (pre++R) UY=some ax) (hv:∀v l,post v l->v=v0/\l=pre)
 (K:bN P β N ops (k+1) (eW fr d v0) ax Q):bN P β N ops k fr ax Q:=by
 intro ai
 obtain⟨o,h1,h2,rfl,h3⟩:=Cg (hc ai)
 rw [drop_cons h1]
 unfold wpQuiet
 rw [iL,agW h2]
 refine⟨v0,λw hS=>?_,?_⟩
 ·unfold Oper.quietAt
  rw [ji,h3 w hS.nil]
  refine⟨rfl,(hs.use (hS.pick hn hp)).mono ?_⟩
  rintro e w' ⟨v,l,rfl,lg,ju⟩
  obtain⟨rfl,rfl⟩:=hv v l lg
  exact⟨rfl,ju.pick hn' dI⟩
 rw [iz]
 exact K ai
end calls
def CW:Nat->List Value->Fr
 |_,[]=>[]
 |k,x::r=>(k,x)::CW (k+1) r
theorem Rc (ai:Nat->Value):∀(l:List Value) (k t:Nat),lk (CW k l) ai t=if k<=t/\t<k+l.length then l.getD (t-k) undef else ai t
 |[],k,t=>by simp [CW,lk];intros;omega
 |x::r,k,t=>by
   rw [CW,lV,Rc ai r (k+1) t]
   by_cases h:k=t
   ·subst h;simp
   by_cases h2:k+1<=t/\t<k+1+r.length
   ·have e:t-k=(t-(k+1))+1:=zc
    simp only [h,if_false,h2,and_self,if_true]
    rw [agW (by simp;omega),e]
    simp
   rw [agV h,agV h2,agV (by simp;omega)]
theorem La {N:Nat} {args:Array Value} (h:args.toList.length<=N):(⟨args++Array.replicate (N-args.size) undef,[]⟩:Act)=fF ⟨N,[]⟩ (CW 0 args.toList) (λ_=>undef):=by
 unfold fF
 congr 1
 grind [Rc]
def zH (β:Bs) (R:eH) (post:Value->List HP->Prop):Ending->World->Prop:=λe w'=>∃v l,e=.returned v/\post v l/\aR β (l++[.abs R]) w'
section ends
variable {P:Program} {β:Bs} {N:fY} {n0:Nat} {fr:Fr} {ax l:List HP} {f:FuncId} {args:Array Value} {pre:List HP} {post:Value->List HP->Prop} {fn:Func} {c:Code} {v:Value} {eZ:List Prop}
theorem aW.enter (hf:P.funcs[f]?=some fn) (hb:fn.body=some c) (hN:fn.ntmps=n0) (hl:args.toList.length<=n0) (h:∀R:eH,aq P β ⟨n0,[]⟩ c (CW 0 args.toList) (pre++[.abs R]) (bodyPost P fn (zH β R post))):aW P β f args pre post:=by
 intro R w hS
 refine calls_of_wp hf hb ?_
 rw [hN,La hl]
 exact h R _ w hS
def sH (P:Program) (β:Bs) (N:fY) (ai:Nat->Value) (fn:Func) (fr:Fr) (ax:List HP) (hints:List Hint):Option (Value×List Prop):=
 match eX P β 0 true (results fn (fF N fr ai).tmps) ⟨hints,ax,[],true⟩ with
 |some (v,S)=>some (v,S.eZ)
 |none=>none
theorem yU {ai:Nat->Value} {hints:List Hint} {w:World} (h:sH P β N ai fn fr ax hints=some (v,eZ)) (ho:oY eZ) (hS:aR β ax w):(results fn (fF N fr ai).tmps).run P w=.ok v w:=by
 unfold sH at h
 split at h
 ·rename_i v' S h0
  cases h
  obtain⟨w',h1,_,_,h2⟩:=yT _ _ _ _ w h0 (λp hp=>ho.mem hp) hS (λe=>by cases e)
  rw [h1,(h2 rfl).1]
 cases h
theorem aB.ret {R:eH} (hints:List Hint) (pk:List Nat) (hr:∀ai,sH P β ⟨n0,[]⟩ ai fn fr ax hints=some (v,eZ)) (ho:oY eZ) (hn:cD pk=true) (hp:cW ax pk=some (l++[.abs R])) (lg:post v l) :
 aB β ⟨n0,[]⟩ (bodyPost P fn (zH β R post)) .ret fr ax:=
 λai _ hS=>⟨rfl,v,yU (hr ai) ho hS,v,l,rfl,lg,hS.pick hn hp⟩
theorem aB.fin {R:eH} (hints:List Hint) (pk:List Nat) (hr:∀ai,sH P β ⟨n0,[]⟩ ai fn fr ax hints=some (v,eZ)) (ho:oY eZ) (hn:cD pk=true) (hp:cW ax pk=some (l++[.abs R])) (lg:post v l) :
 aB β ⟨n0,[]⟩ (bodyPost P fn (zH β R post)) .normal fr ax:=
 λai _ hS=>⟨rfl,v,yU (hr ai) ho hS,v,l,rfl,lg,hS.pick hn hp⟩
theorem aW.of1 {A:eH} (h:∀F w,A.h F w->Calls P f args w λe w'=>∃v p,e=.returned v/\post v [p]/\∃F',p.h F' w'/\Step F w F' w'):aW P β f args [.abs A] post:=by
 intro R w hS
 obtain⟨F,hF⟩:=hS.get (i:=0) rfl
 have hS0:=hS
 obtain⟨ho,φ,h1,h2,h3⟩:=hS
 refine (h (φ 0) w (h1 0 _ rfl)).mono ?_
 rintro e w' ⟨v,p,rfl,hp,F',hF',st⟩
 refine⟨v,[p],rfl,hp,?_⟩
 have ho':=ho
 have h4:∀k,φ 1 k->k<w.heap.size:=λk hk=>HP.lt (h1 1 (.abs R) rfl) k hk
 refine⟨ho.keeps st.keeps (λk hk jq=>h2 0 agU k jq hk),λi=>if i=0 then F' else φ 1,λi q hq=>?_,λi hi k hk hO=>?_,λi j hi hj bX k hk jq=>?_⟩
 ·match i,hq with
  |0,hq=>cases hq;exact hF'
  |1,hq=>
    cases hq
    exact HP.st (h1 1 (.abs R) rfl) st.keeps (λk hk jq=>h3 0 1 agU agU agU k jq hk)
 ·by_cases e:i=0
  ·simp only [e,if_true] at hk
   rcases st.grow k hk with e|e
   ·exact h2 0 agU k e hO
   have:=(ho.old k hO).1;have:=ho.size;omega
  grind
 simp at hi hj
 have key:∀k,F' k->φ 1 k->False:=λk hk jq=>by
  rcases st.grow k hk with e|e
  ·exact h3 0 1 agU agU agU k e jq
  have:=h4 k jq;omega
 grind
theorem aW.Ng (h:∀w,β.ok w->Calls P f args w λe w'=>∃v p,e=.returned v/\post v [p]/\cJ (λ_=>False) w w'/\∃F,p.h F w'/\∀k,F k->w.heap.size<=k):aW P β f args [] post:=by
 intro R w hS
 refine (h w hS.1).mono ?_
 rintro e w' ⟨v,p,rfl,hp,hk,F,hF,hn⟩
 exact⟨v,[p],rfl,hp,(aR.new hS hF hk hn).pick (ar:=[1,0]) rfl rfl⟩
def acF:eH where
 h F _:=∀k,¬F k
 lt h k hk:=(h k hk).elim
 st h _ _ _ _:=h
theorem aW.top {W:World} (h:aW P ⟨(· < W.heap.size),W⟩ f args [] post):Calls P f args W λe w'=>(∃v l,e=.returned v/\post v l)/\Below W.heap.size W w':=by
 have hS:aR ⟨(· < W.heap.size),W⟩ ([]++[.abs acF]) W:=by
  refine⟨⟨rfl,rfl,rfl,ag5 _,λk hk=>⟨hk,rfl⟩⟩,λ_ _=>False,λi p hp=>?_,λi _ k hk=>hk.elim,λi j _ _ _ k hk=>hk.elim⟩
  match i,hp with
  |0,hp=>cases hp;exact λ_ h=>h
 refine (h acF W hS).mono ?_
 rintro e w' ⟨v,l,he,hp,ju⟩
 have ho:=ju.1
 exact⟨⟨v,l,he,hp⟩,ho.os,ho.tape,ho.output,ho.size,λk hk=>(ho.old k hk).2⟩
end ends
section slots
variable {P:Program} {β:Bs} {N:fY} {ops:Array Oper} {k:Nat} {fr:Fr} {ax:List HP} {Q:Post} {c x y:Code} {e:Exit} {i:Nat} {v v':Value} {b:Bool}
theorem GW {ai:Nat->Value} (h:lk fr ai i=v):fF N ((i,v)::fr) ai=fF N fr ai:=by
 unfold fF
 have:(List.range N.n).map (lk ((i,v)::fr) ai)=(List.range N.n).map (lk fr ai):=ahx (λt _=>by
  rw [lV]
  by_cases e:i=t
  ·subst e;simp [h]
  simp [e])
 rw [this]
theorem av.slot (i:Nat) (v v':Value) (h:∀ai,lk fr ai i=v) (hv:v=v') (K:av P β N ops k ((i,v')::fr) ax Q):av P β N ops k fr ax Q:=λai w hS=>by
 have:=K ai w hS
 rwa [GW (hv ▸ h ai)] at this
theorem bN.slot (i:Nat) (v v':Value) (h:∀ai,lk fr ai i=v) (hv:v=v') (K:bN P β N ops k ((i,v')::fr) ax Q):bN P β N ops k fr ax Q:=λai=>by
 have:=K ai
 rwa [GW (hv ▸ h ai)] at this
theorem aB.slot (i:Nat) (v v':Value) (h:∀ai,lk fr ai i=v) (hv:v=v') (K:aB β N Q e ((i,v')::fr) ax):aB β N Q e fr ax:=λai w hS=>by
 have:=K ai w hS
 rwa [GW (hv ▸ h ai)] at this
theorem av.pJ (i:Nat) (b:Bool) (h:∀ai,lk fr ai i=.bool b) (ht:b=true->av P β N ops k ((i,.bool true)::fr) ax Q) (hf:b=false->av P β N ops k ((i,.bool false)::fr) ax Q):av P β N ops k fr ax Q:=by
 cases hb:b with
 |true=>exact av.slot i (.bool b) (.bool true) h (by rw [hb]) (ht hb)
 |false=>exact av.slot i (.bool b) (.bool false) h (by rw [hb]) (hf hb)
theorem bN.pJ (i:Nat) (b:Bool) (h:∀ai,lk fr ai i=.bool b) (ht:b=true->bN P β N ops k ((i,.bool true)::fr) ax Q) (hf:b=false->bN P β N ops k ((i,.bool false)::fr) ax Q):bN P β N ops k fr ax Q:=by
 cases hb:b with
 |true=>exact bN.slot i (.bool b) (.bool true) h (by rw [hb]) (ht hb)
 |false=>exact bN.slot i (.bool b) (.bool false) h (by rw [hb]) (hf hb)
theorem av.wQ (i:Nat) (p:Prop) [Decidable p] (h:∀ai,lk fr ai i=.bool (decide p)) (ht:p->av P β N ops k ((i,.bool true)::fr) ax Q) (hf:¬p->av P β N ops k ((i,.bool false)::fr) ax Q):av P β N ops k fr ax Q:=
 av.pJ i _ h (λe=>ht (ahL e)) (λe=>hf (of_decide_eq_false e))
theorem bN.wQ (i:Nat) (p:Prop) [Decidable p] (h:∀ai,lk fr ai i=.bool (decide p)) (ht:p->bN P β N ops k ((i,.bool true)::fr) ax Q) (hf:¬p->bN P β N ops k ((i,.bool false)::fr) ax Q):bN P β N ops k fr ax Q:=
 bN.pJ i _ h (λe=>ht (ahL e)) (λe=>hf (of_decide_eq_false e))
theorem av.cL (i:Nat) {p p':HP} (hp:ax[i]?=some p) (e:p=p') (K:av P β N ops k fr (ax.set i p') Q):av P β N ops k fr ax Q:=by
 subst e
 have:ax.set i p=ax:=by
  apply List.ext_getElem?
  grind
 rwa [this] at K
theorem zJ {p:Prop} [Decidable p] (h:(!decide p)=true):¬p:=by simpa using h
theorem yA {p:Prop} [Decidable p] (h:(!decide p)=false):p:=by simpa using h
theorem av.SN (i:Nat) (p:Prop) [Decidable p] (h:∀ai,lk fr ai i=.bool (!decide p)) (ht:¬p->av P β N ops k ((i,.bool true)::fr) ax Q) (hf:p->av P β N ops k ((i,.bool false)::fr) ax Q):av P β N ops k fr ax Q:=
 av.pJ i _ h (λe=>ht (zJ e)) (λe=>hf (yA e))
theorem bN.SN (i:Nat) (p:Prop) [Decidable p] (h:∀ai,lk fr ai i=.bool (!decide p)) (ht:¬p->bN P β N ops k ((i,.bool true)::fr) ax Q) (hf:p->bN P β N ops k ((i,.bool false)::fr) ax Q):bN P β N ops k fr ax Q:=
 bN.pJ i _ h (λe=>ht (zJ e)) (λe=>hf (yA e))
theorem aq.aeA {o:Operand} {p:Prop} [Decidable p] (h:∀ai,eY N fr ai o=.bool (!decide p)) (ht:¬p->aq P β N x fr ax Q) (hf:p->aq P β N y fr ax Q):aq P β N (.cond o x y) fr ax Q:=
 aq.cond h (λe=>ht (zJ e)) (λe=>hf (yA e))
end slots
theorem vg {x y:Int} (h:x=y) (lo:-9223372036854775808<=y) (hi:y<=9223372036854775807):Value.int .i64 (IntKind.wrap .i64 x)=Value.int .i64 y:=by
 subst h
 rw [IntWalk.i64_in _ ⟨lo,hi⟩]
theorem aaE {k:IntKind} {x y:Int} (h:x=y):Value.int k x=Value.int k y:=by rw [h]
theorem D7 (x y:ByteArray):(x.toList == y.toList)=decide (x=y):=by
 rw [←beq_toListBytes]
 obtain⟨⟨x⟩⟩:=x
 obtain⟨⟨y⟩⟩:=y
 show ((⟨x⟩:Array UInt8) == ⟨y⟩)=_
 by_cases h:x=y
 ·subst h;simp
 simp [h]
theorem qN (x y:ByteArray):Value.bool (x.toList == y.toList)=Value.bool (decide (x=y)):=by rw [D7]
theorem Ir (x y:ByteArray):Value.bool (!(x.toList == y.toList))=Value.bool (!decide (x=y)):=by rw [D7]
end
section
open Go.RowKit Go.Maps
def iT (N:fY) (ai:Nat->Value) (ops:Array Oper) (fr:Fr) (k:Nat):Option (Op×Option Tmp):=
 match ops.toList[k]? with
 |some o=>
   match Region.wanted o (yF ops N fr ai) with
   |true=>some (o.op,o.dst)
   |false=>none
 |none=>none
theorem iO {N:fY} {ai:Nat->Value} {ops:Array Oper} {fr:Fr} {k:Nat} {op:Op} {d:Option Tmp} (h:iT N ai ops fr k=some (op,d)) :
 ∃o,ops.toList[k]?=some o/\Region.wanted o (yF ops N fr ai)=true/\o.op=op/\o.dst=d:=by
 grind [iT]
def bM (P:Program) (K:TypeId) (b:Nat) (f:Lit->Option Value) (n:Nat):eH where
 h F w:=kr P K w b f n/\∀k,F k↔k=b
 lt:=by rintro F w ⟨h,hF⟩ k hk;rw [(hF k).1 hk];exact h.lt
 st:=by rintro F w ⟨h,hF⟩ S w' hk hn;exact⟨h.keeps hk (hn b ((hF b).2 rfl)),hF⟩
section maps
variable {P:Program} {β:Bs} {N:fY} {ops:Array Oper} {k:Nat} {fr:Fr} {ax fe:List HP} {Q:Post} {d:Option Tmp} {op:Op} {v:Value}
theorem av.nP (bZ:∀ai,iT N ai ops fr k=some (op,d)) (h:∀(o:Oper) ai w,o.op=op->aR β ax w->∃w',sG P (eY N fr ai) o w v w'/\aR β fe w')
 (K:av P β N ops (k+1) (eW fr d v) fe Q):av P β N ops k fr ax Q:=by
 intro ai w hS
 obtain⟨o,h1,h2,h3,rfl⟩:=iO (bZ ai)
 obtain⟨w',h4,h5⟩:=h o ai w h3 hS
 rw [drop_cons h1]
 unfold wpList
 grind [iL,qf,ji,iz,iT,aR,sG,eY,av,eW]
theorem av.J9 {ι:Type} {v:ι->Value} {dI:ι->List HP} (bZ:∀ai,iT N ai ops fr k=some (op,d)) (h:∀(o:Oper) ai w,o.op=op->aR β ax w->∃i w',sG P (eY N fr ai) o w (v i) w'/\aR β (dI i) w')
 (K:∀i,av P β N ops (k+1) (eW fr d (v i)) (dI i) Q):av P β N ops k fr ax Q:=by
 intro ai w hS
 obtain⟨o,h1,h2,h3,rfl⟩:=iO (bZ ai)
 obtain⟨i,w',h4,h5⟩:=h o ai w h3 hS
 rw [drop_cons h1]
 unfold wpList
 grind [iL,qf,ji,iz,iT,aR,sG,eY,av,eW]
theorem bN.nP (bZ:∀ai,iT N ai ops fr k=some (op,d)) (h:∀(o:Oper) ai w,o.op=op->aR β ax w->sG P (eY N fr ai) o w v w)
 (K:bN P β N ops (k+1) (eW fr d v) ax Q):bN P β N ops k fr ax Q:=by
 intro ai
 obtain⟨o,h1,h2,h3,rfl⟩:=iO (bZ ai)
 rw [drop_cons h1]
 unfold wpQuiet
 rw [iL,agW h2]
 refine⟨v,λw hS=>?_,?_⟩
 ·unfold Oper.quietAt
  rw [ji]
  rcases h o ai w h3 hS with h4|⟨h4,h4'⟩
  ·rw [h4];exact⟨rfl,rfl⟩
  rw [h4'];exact⟨rfl,h4⟩
 rw [iz]
 exact K ai
variable {t K E:TypeId} {b n i:Nat} {f:Lit->Option Value} {x ix y:Operand} {key z u:Value} {kl:Lit} {r:Option Value}
theorem bM.get {w:World} (hS:aR β ax w) (hp:ax[i]?=some (.abs (bM P K b f n))):kr P K w b f n:=by
 obtain⟨F,hF⟩:=hS.get hp
 exact hF.1
theorem Iu {w:World} {o:Oper} {ev:Operand->Value} (ho:o.op=.lookup t x ix true) (hm:kr P K w b f n) (hx:ev x=.map (some b)) (fH:ev ix=key) (L:Keyed P K) (ht:P.underlying t=some (.map K E))
 (hz:(zeroValue E).run P w=.ok z w) (mz:keyOf P K key=some kl):sG P ev o w (.tuple #[(f kl).getD z,.bool (f kl).isSome]) w:=by
 have h:=hm.look_ok L ht hz mz
 obtain⟨dst,op,type,pos,after,guard⟩:=o
 cases ho
 refine .inl ?_
 simp only [execOp,hx,fH]
 simp [go_sem,h]
theorem CX {w:World} {o:Oper} {ev:Operand->Value} (ho:o.op=.lookup t x ix false) (hm:kr P K w b f n) (hx:ev x=.map (some b)) (fH:ev ix=key) (L:Keyed P K) (ht:P.underlying t=some (.map K E))
 (hz:(zeroValue E).run P w=.ok z w) (mz:keyOf P K key=some kl):sG P ev o w ((f kl).getD z) w:=by
 have h:=hm.look L ht hz mz
 obtain⟨dst,op,type,pos,after,guard⟩:=o
 cases ho
 refine .inl ?_
 simp only [execOp,hx,fH]
 simp [go_sem,h]
theorem av.AX (i:Nat) (bZ:∀ai,iT N ai ops fr k=some (.lookup t x ix true,d)) (hp:ax[i]?=some (.abs (bM P K b f n))) (hx:∀ai,eY N fr ai x=.map (some b)) (fH:∀ai,eY N fr ai ix=key) (L:Keyed P K)
 (ht:P.underlying t=some (.map K E)) (hz:∀w,(zeroValue E).run P w=.ok z w) (mz:keyOf P K key=some kl) (hr:f kl=r) (K':av P β N ops (k+1) (eW fr d (.tuple #[r.getD z,.bool r.isSome])) ax Q):av P β N ops k fr ax Q:=by
 subst hr
 exact av.nP bZ (λo ai w ho hS=>⟨w,Iu ho (bM.get hS hp) (hx ai) (fH ai) L ht (hz w) mz,hS⟩) K'
theorem av.je (i:Nat) (bZ:∀ai,iT N ai ops fr k=some (.lookup t x ix false,d)) (hp:ax[i]?=some (.abs (bM P K b f n))) (hx:∀ai,eY N fr ai x=.map (some b)) (fH:∀ai,eY N fr ai ix=key) (L:Keyed P K)
 (ht:P.underlying t=some (.map K E)) (hz:∀w,(zeroValue E).run P w=.ok z w) (mz:keyOf P K key=some kl) (hr:f kl=r) (K':av P β N ops (k+1) (eW fr d (r.getD z)) ax Q):av P β N ops k fr ax Q:=by
 subst hr
 exact av.nP bZ (λo ai w ho hS=>⟨w,CX ho (bM.get hS hp) (hx ai) (fH ai) L ht (hz w) mz,hS⟩) K'
theorem bN.je (i:Nat) (bZ:∀ai,iT N ai ops fr k=some (.lookup t x ix false,d)) (hp:ax[i]?=some (.abs (bM P K b f n))) (hx:∀ai,eY N fr ai x=.map (some b)) (fH:∀ai,eY N fr ai ix=key) (L:Keyed P K)
 (ht:P.underlying t=some (.map K E)) (hz:∀w,(zeroValue E).run P w=.ok z w) (mz:keyOf P K key=some kl) (hr:f kl=r) (K':bN P β N ops (k+1) (eW fr d (r.getD z)) ax Q):bN P β N ops k fr ax Q:=by
 subst hr
 exact bN.nP bZ (λo ai w ho hS=>CX ho (bM.get hS hp) (hx ai) (fH ai) L ht (hz w) mz) K'
theorem step_map {w w':World} {f':Lit->Option Value} {n':Nat} {F:Fp} (hF:(HP.abs (bM P K b f n)).h F w) (h:kr P K w' b f' n') (hk:cJ (·=b) w w'):∃F',(HP.abs (bM P K b f' n')).h F' w'/\Step F w F' w':=
 ⟨F,⟨h,hF.2⟩,hk.mono (λ_ _ e=>(hF.2 _).2 e),λ_ h=>.inl h⟩
theorem av.qO (i:Nat) (bZ:∀ai,iT N ai ops fr k=some (.mapUpdate t x ix y,d)) (hp:ax[i]?=some (.abs (bM P K b f n))) (hx:∀ai,eY N fr ai x=.map (some b)) (fH:∀ai,eY N fr ai ix=key) (hy:∀ai,eY N fr ai y=u) (L:Keyed P K)
 (ht:P.underlying t=some (.map K E)) (hn:n<maxLen) (mz:keyOf P K key=some kl) {n':Nat} (hn':(if (f kl).isSome then n else n+1)=n') {f':Lit->Option Value} (hf':qd f kl (some u)=f')
 (K':av P β N ops (k+1) (eW fr d undef) (ax.set i (.abs (bM P K b f' n'))) Q):av P β N ops k fr ax Q:=by
 subst hn' hf'
 refine av.nP bZ (λo ai w ho hS=>?_) K'
 obtain⟨F,hF⟩:=hS.get hp
 obtain⟨w',h1,h2,h3⟩:=hF.1.store L ht hn mz u
 refine⟨w',.inr ⟨rfl,?_⟩,hS.set hp (λF hF=>step_map hF h2 h3)⟩
 obtain⟨dst,op,type,pos,after,guard⟩:=o
 cases ho
 simp only [execOp,hx ai,fH ai,hy ai]
 simp [go_sem,h1]
theorem av.Iw (i:Nat) {ats:Array TypeId} (bZ:∀ai,iT N ai ops fr k=some (.call ⟨.builtin .delete,#[x,ix],ats⟩,d)) (hp:ax[i]?=some (.abs (bM P K b f n))) (hx:∀ai,eY N fr ai x=.map (some b)) (fH:∀ai,eY N fr ai ix=key) (zK:ats=#[t,K]) (L:Keyed P K)
 (ht:P.underlying t=some (.map K E)) (mz:keyOf P K key=some kl) {n':Nat} (hn':(if (f kl).isSome then n-1 else n)=n') {f':Lit->Option Value} (hf':qd f kl none=f')
 (K':av P β N ops (k+1) (eW fr d (.tuple #[])) (ax.set i (.abs (bM P K b f' n'))) Q):av P β N ops k fr ax Q:=by
 subst hn' hf' zK
 refine av.nP bZ (λo ai w ho hS=>?_) K'
 obtain⟨F,hF⟩:=hS.get hp
 obtain⟨w',h1,h2,h3⟩:=hF.1.drop L ht mz o.type
 refine⟨w',.inl ?_,hS.set hp (λF hF=>step_map hF h2 h3)⟩
 obtain⟨dst,op,type,pos,after,guard⟩:=o
 cases ho
 simp only [execOp,resolve,invoke,builtin]
 simp [go_sem,hx ai,fH ai,h1]
theorem Fw {w:World} {o:Oper} {ev:Operand->Value} {ats:Array TypeId} (ho:o.op=.call ⟨.builtin .len,#[x],ats⟩) (zK:ats=#[t]) (hm:kr P K w b f n) (hx:ev x=.map (some b)) (ht:P.underlying t=some (.map K E)) :
 sG P ev o w (.int .i64 ((n:Nat):Int)) w:=by
 have h:=hm.len ht o.type
 obtain⟨dst,op,type,pos,after,guard⟩:=o
 subst zK
 cases ho
 refine .inl ?_
 simp only [execOp,resolve,invoke,builtin]
 simp [go_sem,hx,h]
theorem bN.Ct (i:Nat) {ats:Array TypeId} (bZ:∀ai,iT N ai ops fr k=some (.call ⟨.builtin .len,#[x],ats⟩,d)) (hp:ax[i]?=some (.abs (bM P K b f n))) (hx:∀ai,eY N fr ai x=.map (some b)) (zK:ats=#[t]) (ht:P.underlying t=some (.map K E))
 (K':bN P β N ops (k+1) (eW fr d (.int .i64 ((n:Nat):Int))) ax Q):bN P β N ops k fr ax Q:=
 bN.nP bZ (λ_ ai _ ho hS=>Fw ho zK (bM.get hS hp) (hx ai) ht) K'
theorem av.tj (bZ:∀ai,iT N ai ops fr k=some (.makeMap t none,d)) (P':Program) (hP:P'=P) (K:TypeId) (K':∀b,av P β N ops (k+1) (eW fr d (.map (some b))) (ax++[.abs (bM P K b (λ_=>none) 0)]) Q):av P β N ops k fr ax Q:=by
 subst hP
 refine av.J9 (ι:=Nat) (v:=λb=>.map (some b)) (dI:=λb=>ax++[.abs (bM P' K b (λ_=>none) 0)]) bZ (λo ai w ho hS=>⟨w.heap.size,w.alloc (.map #[] 0),.inl ?_,?_⟩) K'
 ·obtain⟨dst,op,type,pos,after,guard⟩:=o
  cases ho
  rfl
 exact hS.new (F:=λk=>k=w.heap.size) ⟨kr.made w P' K,λ_=>Iff.rfl⟩ ((cJ.refl _ _).alloc _) (λk e=>Nat.le_of_eq e.symm)
end maps
end
section
open Go.RowKit
def aH (e:TypeId) (size:Nat) (A:Option Addr) (n cap:Nat) (xs:List Value):eH where
 h F w:=w.ownsRow 0 e size (.slice A n cap) n xs/\∀k,F k↔(Value.slice A n cap).ownBlock=some k
 lt:=by rintro F w ⟨h,hF⟩ k hk;exact (h.lt k ((hF k).1 hk)).2
 st:=by rintro F w ⟨h,hF⟩ S w' hk hn;exact⟨hk.ownsRow h (λk e=>hn k ((hF k).2 e)),hF⟩
theorem aH.len {e:TypeId} {size:Nat} {A:Option Addr} {n cap:Nat} {xs:List Value} {F:Fp} {w:World} (h:(HP.abs (aH e size A n cap xs)).h F w):xs.length=n*size/\n<=cap:=by
 obtain⟨⟨h1,h2⟩,_⟩:=h
 grind
theorem aH.head {e:TypeId} {size:Nat} {A:Option Addr} {n cap:Nat} {xs:List Value} {F:Fp} {w:World} (h:(HP.abs (aH e size A n cap xs)).h F w) (hn:0<n):∃g,A=some ⟨g,0,none⟩:=by
 obtain⟨⟨h1,h2⟩,_⟩:=h
 grind
theorem aH.cell {e:TypeId} {size:Nat} {g n cap j:Nat} {xs:List Value} {u:Value} (hj:xs[j]?=some u):∀F w,(aH e size (some ⟨g,0,none⟩) n cap xs).h F w->w.cell? ⟨g,j,none⟩=some u:=by
 rintro F w ⟨h,_⟩
 obtain⟨h1,h2⟩:=h
 rcases h2 with ⟨e,_⟩|⟨g',cp,cur,e,_,hb,_,_,hs,ht⟩
 ·cases e
 cases e
 have fU:=dP hj
 have:cur.toList[j]?=some u:=by
  grind
 simpa [World.cell?,hb] using this
theorem aH.nil (e:TypeId) (size:Nat) (w:World):(HP.abs (aH e size none 0 0 [])).h (λ_=>False) w:=
 ⟨⟨agU,.inl ⟨rfl,rfl⟩⟩,λk=>by simp [Value.ownBlock]⟩
theorem XP {α:Type} {l:List α} {i:Nat} {x:α} (h:l[i]?=some x):l.set i x=l:=by
 apply List.ext_getElem?
 grind
section rows
variable {P:Program} {β:Bs} {N:fY} {ops:Array Oper} {k:Nat} {fr:Fr} {ax fe:List HP} {Q:Post} {d:Option Tmp} {op:Op} {v:Value} {c:Code}
theorem aR.mB {e:TypeId} {size:Nat} {w:World} (h:aR β ax w):aR β (ax++[.abs (aH e size none 0 0 [])]) w:=
 aR.new h (aH.nil e size w) (cJ.refl _ _) (λ_ h=>h.elim)
theorem XQ {b:Nat} {cs:List Value} {e:TypeId} {size n:Nat} {w:World} (hl:cs.length=n*size) (hm:n<=maxLen):∀F,(HP.aD b cs e).h F w->∃F',(HP.abs (aH e size (some ⟨b,0,none⟩) n n cs)).h F' w/\Step F w F' w:=by
 rintro F ⟨h1,h2⟩
 refine⟨F,⟨⟨hl,.inr ⟨b,n,⟨cs⟩,rfl,ag0 _,h1,ag5 _,hm,by simpa using hl,?_⟩⟩,λk=>?_⟩,Step.refl F w⟩
 ·rw [←hl];exact ahl
 rw [h2 k]
 simp [Value.ownBlock,eq_comm]
theorem aR.ou {b i:Nat} {cs:List Value} {e:TypeId} {w:World} (size n:Nat) (hp:ax[i]?=some (.aD b cs e)) (hl:cs.length=n*size) (hm:n<=maxLen) (h:aR β ax w):aR β (ax.set i (.abs (aH e size (some ⟨b,0,none⟩) n n cs))) w:=
 h.set hp (XQ hl hm)
theorem fP {b j:Nat} {news:List Value} {T:TypeId} (hp:ax[j]?=some (.aD b news T)):∀w,aR β ax w->((some ⟨b,0,none⟩:Option Addr)=none/\news.length=0)\/∃ad,(some ⟨b,0,none⟩:Option Addr)=some ad/\∀j u,news[j]?=some u->w.cell? (ad.add j)=some u:=by
 intro w hS
 obtain⟨F,hF⟩:=hS.get hp
 refine .inr ⟨_,rfl,λj u hj=>?_⟩
 have ea:(⟨b,0,none⟩:Addr).add j=⟨b,j,none⟩:=by unfold Addr.add;split<;>simp_all
 rw [ea]
 exact (lY hF.1 rfl rfl hj).1
theorem av.append (i:Nat) {t e:TypeId} {z:Value} {size bytes n cap m c':Nat} {A A':Option Addr} {xs news:List Value} {s x:Operand} {ats:Array TypeId}
 (bZ:∀ai,iT N ai ops fr k=some (.call ⟨.builtin .append,#[s,x],ats⟩,d)) (zK:ats=#[t,t]) (hp:ax[i]?=some (.abs (aH e size A n cap xs))) (hs:∀ai,eY N fr ai s=.slice A n cap) (hx:∀ai,eY N fr ai x=.slice A' m c')
 (ht:P.underlying t=some (.slice e)) (rH:(P.info? e).map (λi=>(i.zero,i.size,i.bytes))=some (some z,size,bytes)) (hzs:z.cells.size=size) (eT:0<size)
 (hl:news.length=m*size) (h1:∀u∈news,u.oneCell'=true) (hsrc:∀w,aR β ax w->(A'=none/\news.length=0)\/∃ad,A'=some ad/\∀j u,news[j]?=some u->w.cell? (ad.add j)=some u)
 (h63:n+m<=maxLen) (hbytes:(n+m)*bytes<=140737488355328)
 (K':∀B cap',av P β N ops (k+1) (eW fr d (.slice B (n+m) cap')) (ax.set i (.abs (aH e size B (n+m) cap' (xs++news)))) Q):av P β N ops k fr ax Q:=by
 subst zK
 obtain⟨inf,hi,hz,hsize,hby⟩:∃inf,P.info? e=some inf/\inf.zero=some z/\inf.size=size/\inf.bytes=bytes:=by
  cases h:P.info? e with
  |none=>rw [h] at rH;cases rH
  |some inf=>rw [h] at rH;simp at rH;exact⟨inf,rfl,rH.1,rH.2.1,rH.2.2⟩
 refine av.J9 (ι:=Option Addr×Nat) (v:=λp=>.slice p.1 (n+m) p.2) (dI:=λp=>ax.set i (.abs (aH e size p.1 (n+m) p.2 (xs++news)))) bZ (λo ai w ho hS=>?_) (λp=>K' p.1 p.2)
 obtain⟨F,hF⟩:=hS.get hp
 have jv:=aH.len hF
 have hrun:∀v' w',(Builtin.append_ #[t,t] o.type #[.slice A n cap,.slice A' m c']).run P w=.ok v' w'->sG P (eY N fr ai) o w v' w':=λv' w' h=>by
  obtain⟨dst,op,type,pos,after,guard⟩:=o
  cases ho
  refine .inl ?_
  have h':(Builtin.append_ #[t,t] type #[.slice A n cap,.slice A' m c']).run P w=.ok v' w':=h
  simp only [execOp,resolve,invoke,builtin,hs ai,hx ai,List.map_toArray,ahs,List.map_nil,Sem.run_bind,Sem.run_pure,Result.andThen_ok,h']
 rcases hsrc w hS with ⟨rfl,h0⟩|⟨ad,rfl,hnews⟩
 ·have hm0:m=0:=by
   rw [hl] at h0
   rcases Nat.mul_eq_zero.1 h0 with e|e
   ·exact e
   omega
  subst hm0
  have hn0:news=[]:=ahC h0
  subst hn0
  refine⟨(A,cap),w,hrun _ _ ?_,?_⟩
  ·have hu:=run_underlying ht w
   have h3:=sC hi w
   rw [hsize] at h3
   have h4:(Builtin.append_ #[t,t] o.type #[.slice A n cap,.slice none 0 c']).run P w=.ok (.slice A n cap) w:=by
    cases A<;>simp [Builtin.append_,hu,h3,go_sem,Builtin.lenOf,Builtin.firstCells,jv.2,storeCells]
   simpa using h4
  grind [aH,XP]
 obtain⟨v',w',h2,h3,h4,_,h5⟩:=run_append_own_at (P:=P) w 0 t o.type e inf z size bytes ht hi hz hsize hby hzs eT (.slice A n cap) n xs hF.1 ad m c' news hl hnews h1 h63 hbytes (ag0 _)
 have D8:∃B cap',v'=.slice B (n+m) cap':=by
  rcases h3.2 with ⟨e,e0⟩|⟨g,cp,cur,e,_⟩
  all_goals grind
 obtain⟨B,cap',rfl⟩:=D8
 refine⟨(B,cap'),w',hrun _ _ h2,hS.set hp (λF hF=>⟨λk=>(Value.slice B (n+m) cap').ownBlock=some k,⟨h3,λ_=>Iff.rfl⟩,((cJ.refl F w).grown h4 (λk hk=>.inr ((hF.2 k).2 hk))),λk hk=>?_⟩)⟩
 rcases h5 with h5|h5
 ·exact .inl ((hF.2 k).2 (h5 ▸ hk))
 grind
end rows
structure Bs.le (β β':Bs):Prop where
 O:∀k,β.O k->β'.O k
 os:β'.w0.os=β.w0.os
 tape:β'.w0.tape=β.w0.tape
 output:β'.w0.output=β.w0.output
 size:β.w0.heap.size<=β'.w0.heap.size
 old:∀k,β.O k->k<β.w0.heap.size/\β'.w0.heap[k]?=β.w0.heap[k]?
theorem Bs.le.trans {a b c:Bs} (h:a.le b) (g:b.le c):a.le c:=
 ⟨λk hk=>g.O k (h.O k hk),g.os.trans h.os,g.tape.trans h.tape,g.output.trans h.output,ag1 h.size g.size,λk hk=>⟨(h.old k hk).1,(g.old k (h.O k hk)).2.trans (h.old k hk).2⟩⟩
def Rd (β:Bs) (a:Addr) (v:Value):Prop:=β.O a.block/\β.w0.cell? a=some v
theorem Rd.le {β β':Bs} {a:Addr} {v:Value} (h:Rd β a v) (dU:β.le β'):Rd β' a v:=
 ⟨dU.O _ h.1,(World.cell?_of_block (w:=β.w0) (dU.old _ h.1).2).trans h.2⟩
theorem Bs.ok.le {β β':Bs} {w:World} (h:β'.ok w) (dU:β.le β'):β.ok w:=
 ⟨h.os.trans dU.os,h.tape.trans dU.tape,h.output.trans dU.output,ag1 dU.size h.size,λk hk=>⟨(dU.old k hk).1,(h.old k (dU.O k hk)).2.trans (dU.old k hk).2⟩⟩
theorem aR.Nh {β β':Bs} {l:List HP} {w:World} (dU:β.le β') (h:aR β' l w):aR β l w:=by
 obtain⟨ho,φ,h1,h2,h3⟩:=h
 exact⟨ho.le dU,φ,h1,λi hi k hk hO=>h2 i hi k hk (dU.O k hO),h3⟩
theorem aR.mQ {β:Bs} {l l':List HP} {w:World} {p:HP} {i:Nat} {ar:List Nat} (h:aR β l w) (hp:l[i]?=some p) (hn:cD (i::ar)=true) (hl:cW l ar=some l') :
 ∃F,p.h F w/\∃β':Bs,β.le β'/\(∀k,F k->β'.O k)/\β'.w0=w/\aR β' l' w:=by
 have h':=h.pick (ar:=i::ar) (l':=p::l') hn (by simp only [cW,hp,hl])
 obtain⟨ho,φ,h1,h2,h3⟩:=h'
 refine⟨φ 0,h1 0 p rfl,⟨λk=>β.O k\/φ 0 k,w⟩,⟨λk hk=>.inl hk,ho.os,ho.tape,ho.output,ho.size,λk hk=>ho.old k hk⟩,λk hk=>.inr hk,rfl,⟨rfl,rfl,rfl,ag5 _,λk hk=>⟨?_,rfl⟩⟩,λj=>φ (j+1),λj q hq=>h1 (j+1) q (by simpa using hq),λj hj k hk hO=>?_,λj1 j2 uJ hj2 bX=>h3 _ _ (by simp;omega) (by simp;omega) zc⟩
 ·rcases hk with hk|hk
  ·exact ahg (ho.old k hk).1 ho.size
  exact HP.lt (h1 0 p rfl) k hk
 rcases hO with hO|hO
 ·exact h2 (j+1) (by simp;omega) k hk hO
 exact h3 (j+1) 0 (by simp;omega) agU zc k hk hO
section rules
variable {P:Program} {β β':Bs} {N:fY} {ops:Array Oper} {k:Nat} {fr:Fr} {ax fe:List HP} {Q:Post} {c:Code} {e:Exit} {p:HP} {i:Nat} {ar:List Nat} {d:Option Tmp}
theorem av.mQ {Φ:Bs->Prop} (i:Nat) (ar:List Nat) (hp:ax[i]?=some p) (hn:cD (i::ar)=true) (hl:cW ax ar=some fe) (Rf:∀F w,p.h F w->∀β':Bs,(∀k,F k->β'.O k)->β'.w0=w->Φ β')
 (K:∀β':Bs,β.le β'->Φ β'->av P β' N ops k fr fe Q):av P β N ops k fr ax Q:=λai w hS=>by
 obtain⟨F,hF,β',dU,h1,h2,ju⟩:=hS.mQ hp hn hl
 exact K β' dU (Rf F w hF β' h1 h2) ai w ju
def cC (β:Bs) (A:Option Addr) (xs:List Value):Prop:=∀(j:Nat) (v:Value),xs[j]?=some v->A=some ⟨bw A,br A,none⟩/\Rd β ⟨bw A,br A+j,none⟩ v
theorem cC.le {A:Option Addr} {xs:List Value} (h:cC β A xs) (dU:β.le β'):cC β' A xs:=λj v hj=>⟨(h j v hj).1,(h j v hj).2.le dU⟩
theorem cC.iH {e:TypeId} {size n cap:Nat} {A:Option Addr} {xs:List Value} {F:Fp} {w:World} (h:(HP.abs (aH e size A n cap xs)).h F w) (h1:∀k,F k->β'.O k) (h2:β'.w0=w):cC β' A xs:=by
 intro j v hj
 have fU:=dP hj
 have hl:=aH.len h
 have hn:0<n:=by
  grind
 obtain⟨g,rfl⟩:=aH.head h hn
 refine⟨rfl,h1 g ((h.2 g).2 rfl),?_⟩
 rw [h2]
 have:=aH.cell hj F w h
 simpa [bw,br] using this
theorem aH.Ix {e:TypeId} {size:Nat} {A:Option Addr} {n cap:Nat} {xs:List Value} {F:Fp} {w:World} (h:(HP.abs (aH e size A n cap xs)).h F w) (hn:0<n):A=some ⟨bw A,br A,none⟩/\br A=0:=by
 obtain⟨g,rfl⟩:=aH.head h hn
 exact⟨rfl,rfl⟩
theorem Ch {e:TypeId} {size n cap j g:Nat} {xs:List Value} {u:Value} {w:World} (_:j<xs.length):∀F,(HP.abs (aH e size (some ⟨g,0,none⟩) n cap xs)).h F w →
 ∃F',(HP.abs (aH e size (some ⟨g,0,none⟩) n cap (xs.set j u))).h F' (w.setCell ⟨g,j,none⟩ u)/\Step F w F' (w.setCell ⟨g,j,none⟩ u):=by
 rintro F ⟨⟨h1,h2⟩,hF⟩
 rcases h2 with ⟨e,_⟩|⟨g',cp,cur,e,_,hb,dU,hm,hs,ht⟩
 ·cases e
 cases e
 refine⟨F,⟨⟨by simpa using h1,.inr ⟨g,cap,cur.setIfInBounds j u,rfl,ag0 _,?_,dU,hm,by simpa using hs,?_⟩⟩,hF⟩,⟨(cJ.refl _ _).setCell (.inr ((hF g).2 rfl)) u,λ_ h=>.inl h⟩⟩
 ·simp [World.setCell,Array.getElem?_modify,hb]
 rw [Array.toList_setIfInBounds,List.take_set,ht]
theorem av.D9 (i j:Nat) {T e:TypeId} {size n cap g:Nat} {xs:List Value} {u:Value} {a y:Operand} (bZ:∀ai,iT N ai ops fr k=some (.store T a y,d)) (hp:ax[i]?=some (.abs (aH e size (some ⟨g,0,none⟩) n cap xs)))
 (ha:∀ai,eY N fr ai a=.pointer (some ⟨g,j,none⟩)) (hy:∀ai,eY N fr ai y=u) (hT:(P.info? T).map (·.size)=some 1) (hu:u.oneCell'=true) (hj:j<xs.length)
 (K':av P β N ops (k+1) (eW fr d undef) (ax.set i (.abs (aH e size (some ⟨g,0,none⟩) n cap (xs.set j u)))) Q):av P β N ops k fr ax Q:=by
 refine av.nP bZ (λo ai w ho hS=>?_) K'
 obtain⟨F,hF⟩:=hS.get hp
 refine⟨w.setCell ⟨g,j,none⟩ u,.inr ⟨rfl,?_⟩,hS.set hp (Ch hj)⟩
 obtain⟨x,hx⟩:=mP hj
 have hc:=aH.cell hx F w hF
 have hf:w.frozen? ⟨g,j,none⟩=false:=by
  obtain⟨⟨_,h2⟩,_⟩:=hF
  rcases h2 with ⟨e,_⟩|⟨g',cp,cur,e,_,hb,_⟩
  ·cases e
  cases e;simp [World.frozen?,hb]
 obtain⟨inf,hi,eT⟩:∃inf,P.info? T=some inf/\inf.size=1:=by
  cases h:P.info? T with
  |none=>rw [h] at hT;cases hT
  |some inf=>rw [h] at hT;exact⟨inf,rfl,by simpa using hT⟩
 have h3:=sC hi w
 rw [eT] at h3
 obtain⟨dst,op,type,pos,after,guard⟩:=o
 cases ho
 cases u<;>first
  |(simp [Value.oneCell'] at hu;done)
  |(simp only [execOp,ha ai,hy ai];simp [go_sem,Instr.storeAt,Instr.sureAddr,storeVar,h3,Value.cells,storeCells,store,Addr.add,Sem.run,hc,hf])
end rules
theorem Bs.ok.abD {β:Bs} {w:World} (h:β.ok w):β.le β:=⟨λ_ h=>h,rfl,rfl,rfl,ag5 _,λk hk=>⟨(h.old k hk).1,rfl⟩⟩
def cE (P:Program) (β:Bs) (f:FuncId) (args:Array Value) (pre:List HP) (post:Bs->Value->List HP->Prop):Prop:=
 ∀(R:eH) w,aR β (pre++[.abs R]) w->Calls P f args w λe w'=>∃β' v l,β.le β'/\e=.returned v/\post β' v l/\aR β' (l++[.abs R]) w'
def Iy (β:Bs) (R:eH) (post:Bs->Value->List HP->Prop):Ending->World->Prop:=λe w'=>∃β' v l,β.le β'/\e=.returned v/\post β' v l/\aR β' (l++[.abs R]) w'
section aeB
variable {P:Program} {β β':Bs} {N:fY} {n0:Nat} {ops:Array Oper} {k:Nat} {fr:Fr} {ax R l:List HP} {Q:Post} {f:FuncId} {args:Array Value} {d:Option Tmp} {pre:List HP} {post:Bs->Value->List HP->Prop} {pk ar:List Nat} {c:Code} {fn:Func} {v:Value} {eZ:List Prop} {w:World}
theorem cE.use (h:cE P β f args pre post) (hS:aR β (pre++R) w):Calls P f args w λe w'=>∃β' v l,β.le β'/\e=.returned v/\post β' v l/\aR β' (l++R) w':=
 (h _ w hS.gU).mono λ_ _ ⟨β',v,l,h0,h1,h2,h3⟩=>⟨β',v,l,h0,h1,h2,h3.sQ⟩
theorem cE.mono {post':Bs->Value->List HP->Prop} (h:cE P β f args pre post) (hp:∀β' v l,β.le β'->post β' v l->post' β' v l):cE P β f args pre post':=
 λR w hS=>(h R w hS).mono λ_ _ ⟨β',v,l,h0,h1,h2,h3⟩=>⟨β',v,l,h0,h1,hp β' v l h0 h2,h3⟩
theorem av.SV (hc:∀ai,qM P β N ai ops fr k=some (f,args,d)) (hs:cE P β f args pre post) (hn:cD pk=true) (hp:cW ax pk=some (pre++R))
 (K:∀β' v l,β.le β'->post β' v l->av P β' N ops (k+1) (eW fr d v) (l++R) Q):av P β N ops k fr ax Q:=by
 intro ai w hS
 obtain⟨o,h1,h2,rfl,h3⟩:=Cg (hc ai)
 rw [drop_cons h1]
 unfold wpList
 rw [iL,agW h2]
 refine .inl ?_
 unfold Oper.wp
 rw [ji,h3 w hS.nil,Oper.upon_enter]
 refine (hs.use (hS.pick hn hp)).mono ?_
 rintro e w' ⟨β',v,l,dU,rfl,lg,ju⟩
 show wpList _ _ _ _ ((fF N fr ai).put o.dst v) w'
 rw [iz]
 exact K β' v l dU lg ai w' ju
theorem cE.enter (hf:P.funcs[f]?=some fn) (hb:fn.body=some c) (hN:fn.ntmps=n0) (hl:args.toList.length<=n0) (h:β.le β->∀R:eH,aq P β ⟨n0,[]⟩ c (CW 0 args.toList) (pre++[.abs R]) (bodyPost P fn (Iy β R post))):cE P β f args pre post:=by
 intro R w hS
 refine calls_of_wp hf hb ?_
 rw [hN,La hl]
 exact h hS.1.abD R _ w hS
theorem aB.afk {R:eH} (hints:List Hint) (pk:List Nat) (dU:β.le β') (hr:∀ai,sH P β' ⟨n0,[]⟩ ai fn fr ax hints=some (v,eZ)) (ho:oY eZ) (hn:cD pk=true) (hp:cW ax pk=some (l++[.abs R])) (lg:post β' v l) :
 aB β' ⟨n0,[]⟩ (bodyPost P fn (Iy β R post)) .ret fr ax:=
 λai _ hS=>⟨rfl,v,yU (hr ai) ho hS,β',v,l,dU,rfl,lg,hS.pick hn hp⟩
theorem aB.acG {R:eH} {post:Value->List HP->Prop} (hints:List Hint) (pk:List Nat) (dU:β.le β') (hr:∀ai,sH P β' ⟨n0,[]⟩ ai fn fr ax hints=some (v,eZ)) (ho:oY eZ) (hn:cD pk=true) (hp:cW ax pk=some (l++[.abs R])) (lg:post v l) :
 aB β' ⟨n0,[]⟩ (bodyPost P fn (zH β R post)) .ret fr ax:=
 λai _ hS=>⟨rfl,v,yU (hr ai) ho hS,v,l,rfl,lg,(hS.pick hn hp).Nh dU⟩
def MW (N:fY) {ι:Type} (bs:ι->Bs) (bR:ι->Prop) (μ:ι->Nat) (fr:ι->Fr) (hp:ι->List HP) (m:Nat):Act->World->Prop:=λa w=>∃i,bR i/\μ i<m/\∃ai,a=fF N (fr i) ai/\aR (bs i) (hp i) w
theorem aq.aeC {ι:Type} (bs:ι->Bs) (bR:ι->Prop) (μ:ι->Nat) (bU:ι->Fr) (dI:ι->List HP) (i0:ι) (hb:bs i0=β) (h0:bR i0) (hf:∀ai,kG fr ai ar=bU i0) (hn:cD pk=true) (hp:cW ax pk=some (dI i0))
 (round:∀i,bR i->aq P (bs i) N c (bU i) (dI i) (Exit.then (MW N bs bR μ bU dI (μ i)) Q)):aq P β N (.loop c) fr ax Q:=by
 intro ai w hS
 subst hb
 refine wp_loop_ghost (λn a w=>∃i,bR i/\μ i=n/\∃ai,a=fF N (bU i) ai/\aR (bs i) (dI i) w) (μ i0) ⟨i0,h0,rfl,lk fr ai,by rw [oW N fr ai ar,hf ai],hS.pick hn hp⟩ ?_
 rintro n a w ⟨i,hi,rfl,ai,rfl,hS⟩
 refine ahN (λe a w q=>?_) (round i hi ai w hS)
 cases e with
 |normal=>
   obtain⟨i',hi',fU,qg,e,ju⟩:=q
   exact⟨μ i',fU,i',hi',rfl,qg,e,ju⟩
 |exit id=>exact q
 |goto l=>exact q
 |ret=>exact q
 |panic ch=>exact q
 |outgrown=>exact q
theorem aB.aeD {ι:Type} {bs:ι->Bs} {bR:ι->Prop} {μ:ι->Nat} {bU:ι->Fr} {dI:ι->List HP} {m:Nat} (i:ι) (hb:bs i=β) (hi:bR i) (hm:μ i<m) (hf:∀ai,kG fr ai ar=bU i) (hn:cD pk=true) (hp:cW ax pk=some (dI i)) :
 aB β N (Exit.then (MW N bs bR μ bU dI m) Q) .normal fr ax:=λai _ hS=>⟨i,hi,hm,lk fr ai,by rw [oW N fr ai ar,hf ai],hb ▸ hS.pick hn hp⟩
end aeB
section still
variable {P:Program} {β:Bs} {N:fY} {ai:Nat->Value} {ops:Array Oper} {n:Nat} {w:World}
theorem Ni {hs:List OH}:∀{k k':Nat} {fr bU:Fr} {S S':SS},pH P β n true N ai ops hs k fr S=some (k',bU,S')->k<=k':=by
 induction hs with
 |nil=>intro k k' fr bU S S' h;cases h;exact ag5 _
 |cons h hs ih=>
   grind [pH]
theorem Cu {o:Oper} {k k':Nat} (h:ops.toList[k]?=some o) (hk:k<k'):(ops.toList.take k').drop k=o::(ops.toList.take k').drop (k+1):=by
 have h1:(ops.toList.take k')[k]?=some o:=by
  rw [List.getElem?_take,agW hk];exact h
 have h2:=dP h1
 rw [ahJ h2]
 grind
end still
theorem aW.quiet {P:Program} {β:Bs} {f:FuncId} {args:Array Value} {v:Value} (h:∀w,Calls P f args w λe w'=>e=.returned v/\w'=w):aW P β f args [] (λv' l=>v'=v/\l=[]):=
 λ_ w hS=>(h w).mono λ_ _ ⟨h1,h2⟩=>⟨v,[],h1,⟨rfl,rfl⟩,h2 ▸ hS⟩
def kS (P:Program) (β:Bs) (N:fY) (ops:Array Oper) (n k:Nat) (fr:Fr) (ax:List HP) (Q:Post):Prop:=
 ∀ai w,aR β ax w->wpStill P ops w (λa'=>wpList P ops Q (ops.toList.drop n) a' w) ((ops.toList.take n).drop k) (fF N fr ai)
section heads
variable {P:Program} {β:Bs} {N:fY} {ops:Array Oper} {n k k':Nat} {fr bU:Fr} {ax:List HP} {Q:Post} {eZ:List Prop} {d:Option Tmp} {op:Op} {v:Value} {i:Nat}
theorem vk {ai:Nat->Value} {w:World} {m:Nat} {Q:Act->Prop}:∀{hs:List OH} {k k':Nat} {fr bU:Fr} {S S':SS},pH P β m true N ai ops hs k fr S=some (k',bU,S')->(∀p,p∈S'.eZ->p)->S.used=true->aR β S.ax w->k'<=n →
 wpStill P ops w Q ((ops.toList.take n).drop k') (fF N bU ai)->wpStill P ops w Q ((ops.toList.take n).drop k) (fF N fr ai)
 |[],k,k',fr,bU,S,S',h,ho,hu,hS,hn,hK=>by cases h;exact hK
 |h::hs,k,k',fr,bU,S,S',hr,ho,hu,hS,hn,hK=>by
   unfold pH at hr
   split at hr
   ·cases hr
   rename_i o hget
   have hk:k<n:=by
    refine ahg ?_ hn
    split at hr
    ·split at hr
     ·exact Ni hr
     cases hr
    exact Ni hr
   rw [Cu hget hk]
   unfold wpStill
   have hw:Region.wanted o (yielded ops (fF N fr ai).tmps)=Region.wanted o (yF ops N fr ai):=by
    have:yielded ops (fF N fr ai).tmps=yF ops N fr ai:=funext (MV ops N fr ai)
    rw [this]
   rw [hw]
   split at hr
   ·rename_i Iq
    rw [agW Iq]
    split at hr
    ·rename_i v S1 h0
     obtain⟨e1,e2⟩:=Cs h0
     obtain⟨w',h1,h2,h3,h4⟩:=rG h0 (λp hp=>ho p (xq hr p hp)) hS (λe=>by rw [hu] at e;cases e)
     obtain⟨ew,e⟩:=h4 rfl
     rw [ew] at h1 h2
     unfold Oper.still
     rw [ji]
     rcases h1 with h1|⟨h1,h1'⟩
     ·rw [h1,Oper.stillUpon_value,iz]
      exact vk hr ho (e2.trans hu) h2 hn hK
     subst h1
     rw [h1',Oper.stillUpon_skip,iz]
     exact vk hr ho (e2.trans hu) h2 hn hK
    cases hr
   rename_i hwf
   rw [agV (by simp [hwf])]
   rw [iz]
   exact vk hr ho hu hS hn hK
theorem aq.wR {id:Nat} (n:Nat) (hm:P.follows .mixedOrders=true) (hB:Region.lexTailB .any ops n=true) (h:kS P β N ops n 0 fr ax Q):aq P β N (.region id ops true) fr ax Q:=by
 intro ai w hS
 obtain⟨ops⟩:=ops
 exact wp_region_still_tail n hm hB (h ai (w.drewN 1) (hS.drewN 1))
theorem kS.seg (hs:List OH) (ar:List Nat) (h:∀m ai,nI P β m true N ai ops hs k fr ax ar (List.range ax.length)=some (k',bU,ax,eZ)) (ho:oY eZ) (hk:k'<=n) (K:kS P β N ops n k' bU ax Q):kS P β N ops n k fr ax Q:=by
 intro ai w hS
 obtain⟨sO,S,h1,h2,h3,h4,h5⟩:=GV (h 0 ai)
 have hK:=K (lk sO ai) w hS
 rw [h4,←oW] at hK
 exact vk h1 (λp hp=>ho.mem (h5 ▸ hp)) rfl hS hk hK
theorem kS.done (hk:k=n) (K:av P β N ops n fr ax Q):kS P β N ops n k fr ax Q:=by
 intro ai w hS
 subst hk
 have e:(ops.toList.take k).drop k=[]:=Pe
 rw [e]
 exact K ai w hS
theorem kS.nP (bZ:∀ai,iT N ai ops fr k=some (op,d)) (hk:k<n) (h:∀(o:Oper) ai w,o.op=op->aR β ax w->sG P (eY N fr ai) o w v w) (K:kS P β N ops n (k+1) (eW fr d v) ax Q):kS P β N ops n k fr ax Q:=by
 intro ai w hS
 obtain⟨o,h1,h2,h3,rfl⟩:=iO (bZ ai)
 rw [Cu h1 hk]
 unfold wpStill
 rw [iL,agW h2]
 unfold Oper.still
 rw [ji]
 have hK:=K ai w hS
 rw [←iz] at hK
 rcases h o ai w h3 hS with h4|⟨h4,h4'⟩
 ·rw [h4,Oper.stillUpon_value];exact hK
 subst h4
 rw [h4',Oper.stillUpon_skip];exact hK
section maps
open Go.Maps
variable {t K E:TypeId} {b cnt:Nat} {f:Lit->Option Value} {x ix:Operand} {key z:Value} {kl:Lit} {r:Option Value}
theorem kS.Ct (i:Nat) {ats:Array TypeId} (bZ:∀ai,iT N ai ops fr k=some (.call ⟨.builtin .len,#[x],ats⟩,d)) (hp:ax[i]?=some (.abs (bM P K b f cnt))) (hx:∀ai,eY N fr ai x=.map (some b)) (zK:ats=#[t]) (ht:P.underlying t=some (.map K E))
 (hk:k<n) (K':kS P β N ops n (k+1) (eW fr d (.int .i64 ((cnt:Nat):Int))) ax Q):kS P β N ops n k fr ax Q:=
 kS.nP bZ hk (λ_ ai _ ho hS=>Fw ho zK (bM.get hS hp) (hx ai) ht) K'
end maps
end heads
end
section
open Go.RowKit Go.Maps
open Go.ChangeMaps (setBlock)
theorem Ka (w:World) (r:Nat) (o:Obj):cJ (·=r) w (setBlock w r o):=
 ⟨rfl,rfl,rfl,by simp [setBlock],λk _ hk=>by
  show (w.heap.setIfInBounds r o)[k]?=_
  rw [Array.getElem?_setIfInBounds_ne (λe=>hk e.symm)]⟩
theorem Nj {w:World} {r:Nat} {o o':Obj} (h:w.heap[r]?=some o'):(setBlock w r o).heap[r]?=some o:=by
 have:=lt_of_some h
 show (w.heap.setIfInBounds r o)[r]?=_
 rw [Array.getElem?_setIfInBounds_self_of_lt this]
def CY (r:Nat) (s:ByteArray) (pos:Nat):eH where
 h F w:=w.heap[r]?=some (.stringIter s pos)/\∀k,F k↔k=r
 lt:=Pe
 st:=by rintro F w ⟨h,hF⟩ S w' hk hn;exact⟨(hk.block r (lt_of_some h) (hn r ((hF r).2 rfl))).trans h,hF⟩
def Kb (P:Program) (b r:Nat) (t:Value) (w:World):Prop:=
 ∃w0:World,w0.heap[b]?=w.heap[b]?/\w0.heap[r]?=w.heap[r]?/\(Instr.entry (.pointer (some ⟨r,0,none⟩))).run P w0=.ok t w0
theorem Kb.run {P:Program} {b r:Nat} {t:Value} {w:World} {es:Array MapEntry} {clock since c0:Nat} {seen:Array Nat} (h:Kb P b r t w) (hb:w.heap[b]?=some (.map es clock)) (hr:w.heap[r]?=some (.mapIter (some b) since seen c0)) :
 (Instr.entry (.pointer (some ⟨r,0,none⟩))).run P w=.ok t w:=by
 obtain⟨w0,h1,h2,h3⟩:=h
 rw [hb] at h1
 rw [hr] at h2
 simp only [Instr.entry,getObj,Sem.run_bind,Sem.run,h2,hr,Result.andThen] at h3 ⊢
 cases hs:seen.back? with
 |none=>simp [hs,stuck] at h3
 |some st=>
   simp only [hs,Sem.run_bind,Sem.run,h1,hb,Result.andThen] at h3 ⊢
   by_cases hc:(clock != c0)=true
   ·simp [hc,unsupported,Sem.run,Result.andThen] at h3
   simp only [hc,Bool.false_eq_true,if_false] at h3 ⊢
   cases hf:es.find? (λe=>e.born == st) with
   |none=>simp [hf,unsupported] at h3
   |some e=>
     simp [hf] at h3 ⊢
     exact h3
structure Rg (P:Program) (K:TypeId) (w:World) (b r:Nat) (f:Lit->Option Value) (n:Nat) (left:Lit->Bool) (cnt:Nat) (last:Option Value) (D:DataW Value):Prop where
 rg:w.ranges P K yS b r n D left cnt
 sz:Maps.size D=n
 has:∀kl,Maps.has D kl=(f kl).isSome
 at_:∀kl v,f kl=some v->∀z,D.atKey kl z=.held v
 sub:∀kl,left kl=true->(f kl).isSome=true
 last:∀t,last=some t->Kb P b r t w
def oe (P:Program) (K:TypeId) (b r:Nat) (f:Lit->Option Value) (n:Nat) (left:Lit->Bool) (cnt:Nat) (last:Option Value):eH where
 h F w:=(∃D,Rg P K w b r f n left cnt last D)/\∀k,F k↔(k=b\/k=r)
 lt:=by
  rintro F w ⟨⟨D,h⟩,hF⟩ k hk
  rcases (hF k).1 hk with rfl|rfl
  ·exact h.rg.owns.lt
  exact h.rg.lt
 st:=by
  rintro F w ⟨⟨D,h⟩,hF⟩ S w' hk hn
  have hb:=hk.block b h.rg.owns.lt (hn b ((hF b).2 (.inl rfl)))
  have hr:=hk.block r h.rg.lt (hn r ((hF r).2 (.inr rfl)))
  refine⟨⟨D,?_,h.sz,h.has,h.at_,h.sub,λt ht=>?_⟩,hF⟩
  ·obtain⟨es,clock,since,seen,c0,e1,e2,e3,e4,e5,e6⟩:=h.rg
   exact⟨es,clock,since,seen,c0,hb.trans e1,e2,e3,e4,hr.trans e5,e6⟩
  obtain⟨w0,h1,h2,h3⟩:=h.last t ht
  exact⟨w0,h1.trans hb.symm,h2.trans hr.symm,h3⟩
section rules
variable {P:Program} {β:Bs} {N:fY} {ops:Array Oper} {k:Nat} {fr bU:Fr} {ax fe:List HP} {Q:Post} {d:Option Tmp} {op:Op} {v:Value} {t K E:TypeId} {x:Operand} {s:ByteArray} {b r pos i n cnt:Nat} {f:Lit->Option Value} {left:Lit->Bool} {last:Option Value}
theorem av.Nk (bZ:∀ai,iT N ai ops fr k=some (.range t x,d)) (hx:∀ai,eY N fr ai x=.string s) (ht:P.underlying t=some .string) (K':∀r,av P β N ops (k+1) (eW fr d (.pointer (some ⟨r,0,none⟩))) (ax++[.abs (CY r s 0)]) Q):av P β N ops k fr ax Q:=by
 refine av.J9 (ι:=Nat) (v:=λr=>.pointer (some ⟨r,0,none⟩)) (dI:=λr=>ax++[.abs (CY r s 0)]) bZ (λo ai w ho hS=>⟨w.heap.size,w.iter s 0,.inl ?_,?_⟩) K'
 ·obtain⟨dst,op,type,pos,after,guard⟩:=o
  cases ho
  simp only [execOp,hx]
  simp [go_sem,ht]
 exact hS.new (F:=λk=>k=w.heap.size) ⟨World.iter_heap w s 0,λ_=>Iff.rfl⟩ ((cJ.refl _ _).alloc _) (λk e=>Nat.le_of_eq e.symm)
theorem av.Rh (i:Nat) (bZ:∀ai,iT N ai ops fr k=some (.next x true,d)) (hp:ax[i]?=some (.abs (CY r s pos))) (hx:∀ai,eY N fr ai x=.pointer (some ⟨r,0,none⟩)) (fU:pos<s.size)
 (K':av P β N ops (k+1) (eW fr d (.tuple #[.bool true,.int .i64 pos,.int .i32 (Utf8.decode s pos).1])) (ax.set i (.abs (CY r s (pos+(Utf8.decode s pos).2)))) Q):av P β N ops k fr ax Q:=by
 refine av.nP bZ (λo ai w ho hS=>?_) K'
 obtain⟨F,hF⟩:=hS.get hp
 refine⟨setBlock w r (.stringIter s (pos+(Utf8.decode s pos).2)),.inl ?_,hS.set hp (λF hF=>⟨F,⟨Nj hF.1,hF.2⟩,(Ka w r _).mono (λ_ _ e=>(hF.2 _).2 e),λ_ h=>.inl h⟩)⟩
 have hr:=hF.1
 obtain⟨dst,op,type,pos',after,guard⟩:=o
 cases ho
 simp only [execOp,hx]
 simp [go_sem,Instr.next,getObj,setObj,Sem.run,hr,fU,setBlock,goInt]
theorem av.UZ (i:Nat) (bZ:∀ai,iT N ai ops fr k=some (.next x true,d)) (hp:ax[i]?=some (.abs (CY r s pos))) (hx:∀ai,eY N fr ai x=.pointer (some ⟨r,0,none⟩)) (fU:¬pos<s.size)
 (K':av P β N ops (k+1) (eW fr d (.tuple #[.bool false])) ax Q):av P β N ops k fr ax Q:=by
 refine av.nP bZ (λo ai w ho hS=>⟨w,.inl ?_,hS⟩) K'
 obtain⟨F,hF⟩:=hS.get hp
 have hr:=hF.1
 obtain⟨dst,op,type,pos',after,guard⟩:=o
 cases ho
 simp only [execOp,hx]
 simp [go_sem,Instr.next,getObj,setObj,Sem.run,hr,fU]
theorem av.mapRange (i:Nat) (bZ:∀ai,iT N ai ops fr k=some (.range t x,d)) (hp:ax[i]?=some (.abs (bM P K b f n))) (hx:∀ai,eY N fr ai x=.map (some b)) (L:Keyed P K) (ht:P.underlying t=some (.map K E))
 (K':∀r,av P β N ops (k+1) (eW fr d (.pointer (some ⟨r,0,none⟩))) (ax.set i (.abs (oe P K b r f n (λkl=>(f kl).isSome) n none))) Q):av P β N ops k fr ax Q:=by
 refine av.J9 (ι:=Nat) (v:=λr=>.pointer (some ⟨r,0,none⟩)) (dI:=λr=>ax.set i (.abs (oe P K b r f n (λkl=>(f kl).isSome) n none))) bZ (λo ai w ho hS=>?_) K'
 obtain⟨D,h1,h2,h3,h4⟩:=bM.get hS hp
 obtain⟨w',hrun,r1,r2,r3⟩:=h1.range L ht
 refine⟨w.heap.size,w',.inl ?_,hS.set hp (λF hF=>⟨λk=>k=b\/k=w.heap.size,⟨⟨D,?_,h2,h3,h4,λ_ h=>h,λ_ h=>by cases h⟩,λ_=>Iff.rfl⟩,(cJ.refl _ _).grown r2 (λ_ h=>by cases h),λk hk=>?_⟩)⟩
 ·obtain⟨dst,op,type,pos',after,guard⟩:=o
  cases ho
  simp only [execOp,hx]
  simp [hrun,Result.andThen]
 ·rw [←h2]
  have e:Maps.has D=λkl=>(f kl).isSome:=funext h3
  rw [e] at r1
  rw [h2] at r1 ⊢
  exact r1
 rcases hk with rfl|rfl
 ·exact .inl ((hF.2 _).2 rfl)
 exact .inr (ag5 _)
theorem oe.map {w:World} {D:DataW Value} (h:Rg P K w b r f n left cnt last D):kr P K w b f n:=⟨D,h.rg.owns,h.sz,h.has,h.at_⟩
theorem av.mapNext (i:Nat) (bZ:∀ai,iT N ai ops fr k=some (.next x false,d)) (hp:ax[i]?=some (.abs (oe P K b r f n left cnt last))) (hx:∀ai,eY N fr ai x=.pointer (some ⟨r,0,none⟩)) (L:Keyed P K) (hK:P.underlying K=some (.int .i64))
 (aeE:cnt=0->(∀kl,left kl=false)->av P β N ops (k+1) (eW fr d (.tuple #[.bool false])) ax Q)
 (aeF:∀(z:Int) (u:Value) (cnt':Nat),left (.int .i64 z)=true->f (.int .i64 z)=some u->(Lit.int .i64 z).wf=true->cnt'<cnt →
  av P β N ops (k+1) (eW fr d (.tuple #[.bool true,.int .i64 z,u])) (ax.set i (.abs (oe P K b r f n (λkl=>left kl && !kl.sameKey (.int .i64 z)) cnt' (some (.tuple #[.int .i64 z,u]))))) Q):av P β N ops k fr ax Q:=by
 intro ai w hS
 obtain⟨F,⟨D,h⟩,hF⟩:=hS.get hp
 obtain⟨o,h1,h2,h3,rfl⟩:=iO (bZ ai)
 rcases h.rg.next L o.type with ⟨e0,el,hrun⟩|⟨key,u,kl,y,w',cnt',mz,eF,hv,hat,hrun,hrg,fU,hgr,eT,hen⟩
 ·have hk:=aeE e0 el ai w hS
  rw [drop_cons h1]
  unfold wpList
  rw [iL,agW h2]
  refine .inl (qf (v:=.tuple #[.bool false]) (w':=w) (.inl ?_) (by rw [iz];exact hk))
  rw [ji]
  obtain⟨dst,op,type,pos',after,guard⟩:=o
  cases h3
  simp only [execOp,hx]
  simp at hrun
  simp [hrun,Result.andThen]
 obtain⟨z,rfl,rfl,hwf⟩:=Maps.keyOf_int_inv hK mz
 have hsome:=h.sub _ eF
 obtain⟨u',hu'⟩:=Option.isSome_iff_exists.1 hsome
 have e1:=h.at_ _ _ hu' (.held u')
 rw [hat] at e1
 have e2:y.1=.held u:=by
  unfold yS at hv
  cases hv
  rfl
 rw [e2] at e1
 cases e1
 have hk:=aeF z u cnt' eF hu' hwf fU ai w' (hS.set hp (λF hF=>⟨F,⟨⟨D,hrg,h.sz,h.has,h.at_,λkl hl=>h.sub kl (by simp at hl;exact hl.1),λt ht=>by cases ht;exact⟨w',rfl,rfl,hen⟩⟩,hF.2⟩,(cJ.refl (λk=>F k) w).grown hgr (λj hj=>by cases hj;exact .inr ((hF.2 _).2 (.inr rfl))),λ_ h=>.inl h⟩))
 rw [drop_cons h1]
 unfold wpList
 rw [iL,agW h2]
 refine .inl (qf (v:=.tuple #[.bool true,.int .i64 z,u]) (w':=w') (.inl ?_) (by rw [iz];exact hk))
 rw [ji]
 obtain⟨dst,op,type,pos',after,guard⟩:=o
 cases h3
 simp only [execOp,hx]
 simp at hrun
 simp [hrun,Result.andThen]
theorem av.mapEntry (i:Nat) (bZ:∀ai,iT N ai ops fr k=some (.entry x,d)) (hp:ax[i]?=some (.abs (oe P K b r f n left cnt (some v)))) (hx:∀ai,eY N fr ai x=.pointer (some ⟨r,0,none⟩))
 (K':av P β N ops (k+1) (eW fr d v) ax Q):av P β N ops k fr ax Q:=by
 refine av.nP bZ (λo ai w ho hS=>⟨w,.inl ?_,hS⟩) K'
 obtain⟨F,⟨D,h⟩,hF⟩:=hS.get hp
 have hl:=h.last _ rfl
 obtain⟨es,clock,since,seen,c0,e1,e2,e3,e4,e5,e6⟩:=h.rg
 have hrun:=hl.run e1 e5
 obtain⟨dst,op,type,pos',after,guard⟩:=o
 cases ho
 simp only [execOp,hx]
 simp [hrun,Result.andThen]
theorem oe.getM {w:World} (hS:aR β ax w) (hp:ax[i]?=some (.abs (oe P K b r f n left cnt last))):kr P K w b f n:=by
 obtain⟨F,⟨D,h⟩,hF⟩:=hS.get hp
 exact oe.map h
theorem av.Gf {ix:Operand} {key z:Value} {kl:Lit} {u:Option Value} (i:Nat) (bZ:∀ai,iT N ai ops fr k=some (.lookup t x ix true,d)) (hp:ax[i]?=some (.abs (oe P K b r f n left cnt last))) (hx:∀ai,eY N fr ai x=.map (some b)) (fH:∀ai,eY N fr ai ix=key) (L:Keyed P K)
 (ht:P.underlying t=some (.map K E)) (hz:∀w,(zeroValue E).run P w=.ok z w) (mz:keyOf P K key=some kl) (hr:f kl=u) (K':av P β N ops (k+1) (eW fr d (.tuple #[u.getD z,.bool u.isSome])) ax Q):av P β N ops k fr ax Q:=by
 subst hr
 exact av.nP bZ (λo ai w ho hS=>⟨w,Iu ho (oe.getM hS hp) (hx ai) (fH ai) L ht (hz w) mz,hS⟩) K'
theorem av.XR (i:Nat) {ats:Array TypeId} (bZ:∀ai,iT N ai ops fr k=some (.call ⟨.builtin .len,#[x],ats⟩,d)) (hp:ax[i]?=some (.abs (oe P K b r f n left cnt last))) (hx:∀ai,eY N fr ai x=.map (some b)) (zK:ats=#[t]) (ht:P.underlying t=some (.map K E))
 (K':av P β N ops (k+1) (eW fr d (.int .i64 ((n:Nat):Int))) ax Q):av P β N ops k fr ax Q:=
 av.nP bZ (λ_ ai w ho hS=>⟨w,Fw ho zK (oe.getM hS hp) (hx ai) ht,hS⟩) K'
end rules
end
section
open Go.RowKit
theorem MJ (z:Value) (n:Nat):(madeCells #[z] (n*1)).toList=List.replicate n z:=by
 rw [Nat.mul_one]
 apply List.ext_getElem
 ·simp [madeCells]
 intro j h1 h2
 simp [madeCells,Nat.mod_one]
section make
variable {P:Program} {β:Bs} {N:fY} {ops:Array Oper} {k:Nat} {fr:Fr} {ax:List HP} {Q:Post} {d:Option Tmp}
theorem av.XS {t e:TypeId} {z:Value} {bytes n:Nat} {l c:Operand} (bZ:∀ai,iT N ai ops fr k=some (.makeSlice t l c,d)) (hl:∀ai,eY N fr ai l=.int .i64 ((n:Nat):Int)) (hc:∀ai,eY N fr ai c=.int .i64 ((n:Nat):Int))
 (ht:P.underlying t=some (.slice e)) (rH:(P.info? e).map (λi=>(i.zero,i.size,i.bytes))=some (some z,1,bytes)) (hzs:z.cells=#[z]) (hn:n<=16777216) (hb:bytes*n<=281474976710656)
 (K':∀b,av P β N ops (k+1) (eW fr d (.slice (some ⟨b,0,none⟩) n n)) (ax++[.abs (aH e 1 (some ⟨b,0,none⟩) n n (List.replicate n z))]) Q):av P β N ops k fr ax Q:=by
 obtain⟨inf,hi,hz,hsize,hby⟩:∃inf,P.info? e=some inf/\inf.zero=some z/\inf.size=1/\inf.bytes=bytes:=by
  cases h:P.info? e with
  |none=>rw [h] at rH;cases rH
  |some inf=>rw [h] at rH;simp at rH;exact⟨inf,rfl,rH.1,rH.2.1,rH.2.2⟩
 refine av.J9 (ι:=Nat) (v:=λb=>.slice (some ⟨b,0,none⟩) n n) (dI:=λb=>ax++[.abs (aH e 1 (some ⟨b,0,none⟩) n n (List.replicate n z))]) bZ (λo ai w ho hS=>?_) K'
 obtain⟨w',h1,h2,h3⟩:=run_makeSlice_full (P:=P) w 0 t e inf z 1 ht hi hz hsize .i64 .i64 n zc (by rw [hby];exact hb) (by unfold maxLen;omega) (ag0 _)
 rw [hzs,MJ] at h2
 refine⟨w.heap.size,w',.inl ?_,hS.new (F:=λk=>k=w.heap.size) ⟨h2,λj=>by simp [Value.ownBlock,eq_comm]⟩ ((cJ.refl _ _).grown h3 (λ_ h=>by cases h)) (λk e=>Nat.le_of_eq e.symm)⟩
 obtain⟨dst,op,type,pos,after,guard⟩:=o
 cases ho
 simp only [execOp,hl,hc]
 simp [h1,Result.andThen]
end make
section mark
variable {P:Program} {β:Bs} {N:fY} {ops:Array Oper} {k:Nat} {fr:Fr} {ax:List HP} {Q:Post} {d:Option Tmp}
end mark
section adds
variable {P:Program} {β:Bs} {N:fY} {ops:Array Oper} {e0 k:Nat} {fr:Fr} {ax:List HP} {Q:Post} {d:Option Tmp} {t t2:TypeId} {x y:Operand} {a b:ByteArray}
end adds
theorem aH.cellAt {e:TypeId} {A:Option Addr} {size n cap i j:Nat} {xs:List Value} {u:Value} (hi:i<n) (hj:xs[i*size+j]?=some u):∀F w,(aH e size A n cap xs).h F w->w.cell? ⟨bw A,br A+i*size+j,none⟩=some u:=by
 intro F w h
 obtain⟨g,rfl⟩:=aH.head h zc
 have:=aH.cell hj F w h
 grind [aH,bw,br]
def vl (a b:ByteArray):Int:=Lib.compareBytes a.data.toList b.data.toList
theorem Lb:∀a:List UInt8,Lib.compareBytes a a=0
 |[]=>rfl
 |a::r=>by
   have h:¬a<a:=by intro h;exact agY h (by simp)
   simp only [Lib.compareBytes,agV h]
   exact Lb r
theorem Lc:∀{a b:List UInt8},Lib.compareBytes a b=0->a=b
 |[],[],_=>rfl
 |[],_::_,h=>by simp [Lib.compareBytes] at h
 |_::_,[],h=>by simp [Lib.compareBytes] at h
 |a::x,b::y,h=>by
   unfold Lib.compareBytes at h
   split at h
   ·cases h
   rename_i h1
   split at h
   ·cases h
   rename_i h2
   have e:a=b:=by
    apply ahz.1
    have h3:¬a.toNat<b.toNat:=λh=>h1 (UInt8.lt_iff_toNat_lt.2 h)
    have h4:¬b.toNat<a.toNat:=λh=>h2 (UInt8.lt_iff_toNat_lt.2 h)
    omega
   rw [e,Lc h]
theorem Ld:∀{a b:List UInt8},Lib.compareBytes a b<0↔Op.bytesLess a b=true
 |[],[]=>by simp [Lib.compareBytes,Op.bytesLess]
 |[],_::_=>by simp [Lib.compareBytes,Op.bytesLess]
 |_::_,[]=>by simp [Lib.compareBytes,Op.bytesLess]
 |a::x,b::y=>by
   unfold Lib.compareBytes Op.bytesLess
   by_cases h1:a<b
   ·simp [h1]
   by_cases h2:b<a
   ·have h3:¬a=b:=λe=>by subst e;exact h1 h2
    simp [h1,h2,h3]
   have e:a=b:=by
    apply ahz.1
    have h3:¬a.toNat<b.toNat:=λh=>h1 (UInt8.lt_iff_toNat_lt.2 h)
    have h4:¬b.toNat<a.toNat:=λh=>h2 (UInt8.lt_iff_toNat_lt.2 h)
    omega
   subst e
   simp only [h1,if_false,decide_false,beq_self_eq_true,Bool.true_and,Bool.false_or]
   exact Ld
theorem Iz:∀{a b c:List UInt8},Lib.compareBytes a b<0->Lib.compareBytes b c<=0->Lib.compareBytes a c<0
 |[],[],_,h,_=>by simp [Lib.compareBytes] at h
 |[],_::_,[],_,h=>by simp [Lib.compareBytes] at h
 |[],_::_,_::_,_,_=>by simp [Lib.compareBytes]
 |_::_,[],_,h,_=>by simp [Lib.compareBytes] at h
 |_::_,_::_,[],_,h=>by simp [Lib.compareBytes] at h
 |a::x,b::y,c::z,h,g=>by
   unfold Lib.compareBytes at h g ⊢
   by_cases h1:a<b
   ·by_cases g1:b<c
    ·have:a<c:=by rw [UInt8.lt_iff_toNat_lt] at *;omega
     simp [this]
    by_cases g2:c<b
    ·simp [g1,g2] at g
    have e:b=c:=by
     apply ahz.1
     rw [UInt8.lt_iff_toNat_lt] at *
     omega
    subst e
    simp [h1]
   by_cases h2:b<a
   ·simp [h1,h2] at h
   have e:a=b:=by
    apply ahz.1
    rw [UInt8.lt_iff_toNat_lt] at *
    omega
   subst e
   simp only [h1,if_false] at h
   by_cases g1:a<c
   ·simp [g1]
   by_cases g2:c<a
   ·simp [g1,g2] at g
   simp only [g1,g2,if_false] at g ⊢
   exact Iz h g
theorem Le:∀{a b:List UInt8},Lib.compareBytes b a = - Lib.compareBytes a b
 |[],[]=>rfl
 |[],_::_=>rfl
 |_::_,[]=>rfl
 |a::x,b::y=>by
   unfold Lib.compareBytes
   by_cases h1:a<b
   ·have h2:¬b<a:=by rw [UInt8.lt_iff_toNat_lt] at *;omega
    simp [h1,h2]
   by_cases h2:b<a
   ·simp [h1,h2]
   simp only [h1,h2,if_false]
   exact Le
theorem Lf (a:ByteArray):vl a a=0:=Lb _
theorem Lg {a b:ByteArray}:vl a b=0↔a=b:=by
 refine⟨λh=>?_,λh=>by rw [h];exact Lf b⟩
 have:=Lc h
 obtain⟨⟨a⟩⟩:=a
 obtain⟨⟨b⟩⟩:=b
 have this:a=b:=this
 rw [this]
theorem IB {a b c:ByteArray} (h:vl a b<0) (g:vl b c<=0):vl a c<0:=Iz h g
theorem Ea (a b:ByteArray):vl b a = - vl a b:=Le
def NP (Q:Post):Post:=λe a w=>match e with
 |.normal=>Q .normal a w
 |_=>False
section order
variable {P:Program} {ops:Array Oper} {Q Q':Post} {n:Nat} {S:World->Prop}
theorem vm (h:LetsOut (NP Q)):False:=by
 obtain⟨a,w,h⟩:=h
 exact h
theorem MX {o:Oper} {a:Act} {w:World} {K:Act->World->Prop} (h:o.wp P a w K (NP Q)):o.wp P a w K (NP Q'):=by
 unfold Oper.wp at *
 generalize (execOp a.eval o).run P w=r at *
 cases r with
 |ok m w'=>
   cases m<;>simp only [Oper.upon] at h ⊢ <;>
    first
     |exact h
     |exact Calls.mono h (λe w'' he=>by cases e<;>first|exact he|exact (vm he).elim)
 |halt x w'=>cases x<;>simp only [Oper.upon] at h ⊢;exact h
theorem vn {i:Nat} {o:Oper} {a:Act} {w:World} {K:Act->World->Prop} (hi:ops[i]?=some o) (hg:o.guard=none) (h:wpList P #[o] (NP λ_ a w=>K a w) [o] a w):wpOp P ops (NP Q) i K a w:=by
 unfold wpOp
 simp only [hi]
 have hw:∀y,Region.wanted o y=true:=λy=>by unfold Region.wanted;rw [hg]
 rw [agW (hw _)]
 unfold wpList at h
 rw [agW (hw _)] at h
 rcases h with h|⟨_,h⟩
 ·exact .inl (MX (Oper.wp_mono (λa w h=>h) h))
 exact (vm h).elim
theorem AY {o:Oper} {a:Act} {w:World} (hq:∀a w,Q .normal a w->Q' .normal a w) (h:wpList P ops (NP Q) [o] a w):wpList P ops (NP Q') [o] a w:=by
 unfold wpList at *
 split
 ·rename_i hw
  rw [agW hw] at h
  rcases h with h|⟨_,h⟩
  ·exact .inl (MX (Oper.wp_mono (λa w h=>hq a w h) h))
  exact (vm h).elim
 rename_i hw
 rw [agV hw] at h
 exact hq _ _ h
def xu (P:Program) (ops:Array Oper) (Q:Post) (n:Nat) (S:World->Prop):Nat->Array Bool->Act->World->Prop
 |0,bO,a,w=>Region.ready .any ops bO=[]/\Q .normal a w
 |fuel+1,bO,a,w=>(Region.ready .any ops bO=[]->Q .normal a w) ∧
   ∀i∈Region.ready .any ops bO,wpOp P ops Q i (λa' w'=>(i=n\/S w')/\xu P ops Q n S fuel (bO.setIfInBounds i true) a' w') a w
theorem vo:∀(fuel:Nat) (bO:Array Bool) (a:Act) (w:World),xu P ops Q n S fuel bO a w->wpAny P .any ops Q fuel bO a w
 |0,_,_,_,h=>h
 |fuel+1,_,_,_,h=>⟨h.1,λi hi=>wpOp_mono (λa' w' h'=>vo fuel _ a' w' h'.2) (h.2 i hi)⟩
def Closed (ops:Array Oper) (bO:Array Bool):Prop:=∀j oj,ops[j]?=some oj->bO.getD j false=true->∀e∈oj.after,Region.binds .any e=true->bO.getD e.on false=true
theorem Closed.set {bO:Array Bool} {j:Nat} (h:Closed ops bO) (hj:j∈Region.ready .any ops bO):Closed ops (bO.setIfInBounds j true):=by
 obtain⟨_,oj,hoj,jP⟩:=mem_ready.1 hj
 intro k ok hk hl e he hb
 refine getD_set_true ?_
 by_cases hjk:j=k
 ·grind
 rw [getD_set_ne false hjk] at hl
 exact h k ok hk hl e he hb
theorem Lh (hs:Region.sinkB .any ops n=true) {bO:Array Bool} (hc:Closed ops bO):∀(m i:Nat),n-i<=m->i<n->bO.getD i false=false->n∉Region.ready .any ops bO
 |0,i,hm,hi,_=>zc
 |m+1,i,hm,hi,hu=>λhr=>by
   unfold Region.sinkB at hs
   rw [List.all_eq_true] at hs
   have h1:=hs i (List.mem_range.2 hi)
   rw [List.any_eq_true] at h1
   obtain⟨j,hj,h2⟩:=h1
   rw [ahm,decide_eq_true_iff] at h2
   have hj:=List.mem_range.1 hj
   obtain⟨oj,hoj,e,he,hb,heq⟩:=Region.waitsFor_spec h2.2
   by_cases hjn:j=n
   ·subst hjn
    obtain⟨_,oj',acH,jP⟩:=mem_ready.1 hr
    rw [hoj] at acH
    cases acH
    have:=jP e he hb
    rw [heq,hu] at this
    cases this
   cases hl:bO.getD j false with
   |true=>
     have:=hc j oj hoj hl e he hb
     rw [heq,hu] at this
     cases this
   |false=>exact Lh (by unfold Region.sinkB;rw [List.all_eq_true];exact hs) hc m j zc zc hl hr
theorem yH {bO:Array Bool} {i:Nat} (h:i∈Region.ready .any ops bO):bO.getD i false=false:=by
 have h1:=(mem_ready.1 h).1
 grind
theorem zL {i:Nat} {oi:Oper} {v:Value} (hi:ops[i]?=some oi) (hsel:Region.noSelect ops=true) (qh:Region.sinkB .any ops n=true) (hin:i<n) :
 ∀(fuel:Nat) (bO:Array Bool) (a:Act) (w:World),Closed ops bO →
   (∀j oj,ops[j]?=some oj->j≠i->bO.getD j true=false->(∀e∈oj.after,Region.binds .any e=true->e.on≠i)->oi.apart ops oj=true) →
   i∈Region.ready .any ops bO->YieldsIf P ops S oi v a->S w →
   xu P ops (NP Q) n S fuel (bO.setIfInBounds i true) (a.put oi.dst v) w->xu P ops (NP Q) n S (fuel+1) bO a w:=by
 intro fuel
 induction fuel with
 |zero=>
   intro bO a w _ _ hr hy hS H
   refine⟨λh=>(by rw [h] at hr;cases hr),λj hj=>?_⟩
   by_cases hji:j=i
   ·subst hji;exact hy.wpOp hi hS ⟨.inr hS,H⟩
   have:=ready_mono hj hji
   rw [H.1] at this
   cases this
 |succ fuel ih=>
   intro bO a w hcl hfree hr hy hS H
   refine⟨λh=>(by rw [h] at hr;cases hr),λj hj=>?_⟩
   by_cases hji:j=i
   ·subst hji;exact hy.wpOp hi hS ⟨.inr hS,H⟩
   have h1:=H.2 j (ready_mono hj hji)
   have hjn:j≠n:=λe=>by
    subst e
    exact Lh qh hcl _ i (ag5 _) hin (yH hr) hj
   obtain⟨hjun,oj,hoj,jP⟩:=mem_ready.1 hj
   have hnot:∀e∈oj.after,Region.binds .any e=true->e.on≠i:=λe he hb heq=>by
    grind [yH]
   have h2:=wpOp_putIf (S:=S) (Q:=NP Q) hoj (hfree j oj hoj hji hjun hnot) (λcs b=>Region.noSelect_spec hsel i oi cs b hi) (λcs b=>Region.noSelect_spec hsel j oj cs b hoj) (λ_ _ _ h=>h) hy h1
   have hfree':∀k ok,ops[k]?=some ok->k≠i->(bO.setIfInBounds j true).getD k true=false →
    (∀e∈ok.after,Region.binds .any e=true->e.on≠i)->oi.apart ops ok=true:=λk ok hk hki hun iP=>by
    refine hfree k ok hk hki ?_ iP
    by_cases hjk:j=k
    ·subst hjk;exact hjun
    rw [getD_set_ne true hjk] at hun;exact hun
   refine wpOp_mono (λa' w' h3=>?_) h2
   have ju:S w':=h3.2.1.resolve_left hjn
   refine⟨.inr ju,ih (bO.setIfInBounds j true) a' w' (hcl.set hj) hfree' (ready_mono hr (Ne.symm hji)) h3.1 ju ?_⟩
   rw [Array.setIfInBounds_comm _ _ hji]
   exact h3.2.2
def uj (P:Program) (ops:Array Oper) (Q:Post) (S:World->Prop):Nat->List Nat->Act->World->Prop
 |_,[],a,w=>Q .normal a w
 |0,i::l,a,w=>wpOp P ops Q i (λa' w'=>(l=[]\/S w')/\uj P ops Q S 0 l a' w') a w
 |r+1,i::l,a,w=>∃o v,ops[i]?=some o/\YieldsIf P ops S o v a/\uj P ops Q S r l (a.put o.dst v) w
def CZ (ops:Array Oper) (n:Nat):Nat->List Nat->Array Bool->Bool
 |_,[],bO=>(Region.ready .any ops bO).isEmpty
 |0,i::l,bO=>(Region.ready .any ops bO == [i]) && (!l.isEmpty || i == n) && CZ ops n 0 l (bO.setIfInBounds i true)
 |r+1,i::l,bO=>decide (i<n) && Region.free .any ops bO i && (Region.ready .any ops bO).contains i && CZ ops n r l (bO.setIfInBounds i true)
theorem Li (hsel:Region.noSelect ops=true):∀(l:List Nat) (bO:Array Bool) (a:Act) (w:World),CZ ops n 0 l bO=true->uj P ops (NP Q) S 0 l a w->xu P ops (NP Q) n S l.length bO a w
 |[],bO,a,w,hb,h=>⟨List.isEmpty_iff.1 hb,h⟩
 |i::l,bO,a,w,hb,h=>by
   unfold CZ at hb
   simp only [ahm,ahP] at hb
   obtain⟨⟨h1,h2⟩,h3⟩:=hb
   refine⟨λh0=>(by rw [h1] at h0;cases h0),λj hj=>?_⟩
   rw [h1] at hj
   have hj:j=i:=by simpa using hj
   subst hj
   refine wpOp_mono (λa' w' h4=>⟨?_,Li hsel l _ a' w' h3 h4.2⟩) h
   rcases h4.1 with h5|h5
   ·subst h5;exact .inl (by simpa using h2)
   exact .inr h5
theorem Kc (hsel:Region.noSelect ops=true) (qh:Region.sinkB .any ops n=true):∀(r:Nat) (l:List Nat) (bO:Array Bool) (a:Act) (w:World),CZ ops n r l bO=true->Closed ops bO->S w->uj P ops (NP Q) S r l a w->xu P ops (NP Q) n S l.length bO a w
 |0,l,bO,a,w,hb,_,_,h=>Li hsel l bO a w hb h
 |r+1,[],bO,a,w,hb,_,_,h=>⟨List.isEmpty_iff.1 hb,h⟩
 |r+1,i::l,bO,a,w,hb,hc,hS,h=>by
   unfold CZ at hb
   simp only [ahm,decide_eq_true_iff] at hb
   obtain⟨⟨⟨h1,h2⟩,h3⟩,h4⟩:=hb
   obtain⟨o,v,ho,hy,hk⟩:=h
   have hr:i∈Region.ready .any ops bO:=by simpa using h3
   exact zL ho hsel qh h1 l.length bO a w hc (Region.free_spec ho h2) hr hy hS (Kc hsel qh r l _ _ w h4 (hc.set hr) hS hk)
def Eb (ops:Array Oper) (perm:List Nat) (nr:Nat):Bool:=
 Region.noSelect ops && Region.sinkB .any ops (ops.size-1) && (perm.length == ops.size) && CZ ops (ops.size-1) nr perm (Array.replicate ops.size false)
end order
section mix
variable {P:Program} {β:Bs} {N:fY} {ops:Array Oper} {S:List HP} {r r':Nat} {l l':List Nat} {fr bU:Fr} {ax:List HP} {Q:Post} {eZ:List Prop} {d:Option Tmp} {op:Op} {v:Value} {i:Nat} {pk:List Nat}
def ck (P:Program) (β:Bs) (N:fY) (ops:Array Oper) (S:List HP) (r:Nat) (l:List Nat) (fr:Fr) (ax:List HP) (Q:Post):Prop:=
 ∀ai w,aR β ax w->uj P ops (NP Q) (aR β S) r l (fF N fr ai) w
theorem aq.U0 {id:Nat} (perm:List Nat) (nr:Nat) (pk:List Nat) (hm:P.follows .mixedOrders=true) (hB:Eb ops perm nr=true) (hn:cD pk=true) (hp:cW ax pk=some S) (h:ck P β N ops S nr perm fr ax Q):aq P β N (.region id ops true) fr ax Q:=by
 intro ai w hS
 unfold Eb at hB
 simp only [ahm,ahP] at hB
 obtain⟨⟨⟨h1,h2⟩,h3⟩,h4⟩:=hB
 have ju:=hS.drewN 1
 have h5:=Kc (Q:=Q) h1 h2 nr perm _ _ _ h4 (λj oj _ hl=>by simp [Array.getD_eq_getD_getElem?,Array.getElem?_replicate] at hl;split at hl<;>simp at hl) (ju.pick hn hp) (h ai (w.drewN 1) ju)
 rw [h3] at h5
 refine ahN (λe a w q=>?_) (wp_region_any hm (vo _ _ _ _ h5))
 cases e with
 |normal=>exact q
 |exit id=>exact q.elim
 |goto l=>exact q.elim
 |ret=>exact q.elim
 |panic ch=>exact q.elim
 |outgrown=>exact q.elim
def Cv:Value->Bool
 |.tuple a=>decide (a.size≠0)
 |_=>true
theorem xw {v:Value} (h:Cv v=true):¬v=undef:=λe=>by subst e;exact agY h (by decide)
def Cw (P:Program) (β:Bs) (N:fY) (ai:Nat->Value) (ops:Array Oper):List OH->List Nat->Fr->SS->Option (Fr×SS)
 |[],[],fr,S=>some (fr,S)
 |h::hs,i::is,fr,S=>
   match ops[i]? with
   |some o=>
     match o.guard with
     |none=>
       match zG P β 0 true (eY N fr ai) o h S with
       |some (v,S')=>
         match Cv v with
         |true=>Cw P β N ai ops hs is (eW fr o.dst v) S'
         |false=>none
       |none=>none
     |some _=>none
   |none=>none
 |_,_,_,_=>none
def Fx (P:Program) (β:Bs) (N:fY) (ai:Nat->Value) (ops:Array Oper) (hs:List OH) (is:List Nat) (fr:Fr) (S:List HP) (ar:List Nat):Option (Fr×List Prop):=
 match Cw P β N ai ops hs is fr ⟨[],S,[],true⟩ with
 |some (bU,S')=>some (kG bU ai ar,S'.eZ)
 |none=>none
theorem IC {ai:Nat->Value}:∀{hs:List OH} {is:List Nat} {fr bU:Fr} {S S':SS},Cw P β N ai ops hs is fr S=some (bU,S')->∀p,p∈S.eZ->p∈S'.eZ
 |[],[],fr,bU,S,S',h,p,hp=>by cases h;exact hp
 |h::hs,i::is,fr,bU,S,S',hr,p,hp=>by
   unfold Cw at hr
   repeat' split at hr
   all_goals first|(cases hr;done)|skip
   rename_i h0 _ _
   exact IC hr p (GU h0 p hp)
 |[],_::_,_,_,_,_,h,_,_=>by cases h
 |_::_,[],_,_,_,_,h,_,_=>by cases h
theorem Ec {ai:Nat->Value} {w:World}:∀{hs:List OH} {is:List Nat} {fr bU:Fr} {T T':SS},Cw P β N ai ops hs is fr T=some (bU,T')->(∀p,p∈T'.eZ->p)->T.used=true->T.ax=S →
 uj P ops (NP Q) (aR β S) r l (fF N bU ai) w->uj P ops (NP Q) (aR β S) (is.length+r) (is++l) (fF N fr ai) w
 |[],[],fr,bU,T,T',h,ho,hu,hT,hK=>by cases h;simpa using hK
 |h::hs,i::is,fr,bU,T,T',hr,ho,hu,hT,hK=>by
   unfold Cw at hr
   repeat' split at hr
   all_goals first|(cases hr;done)|skip
   rename_i o hget _ acI _ v T1 h0 _ hv
   obtain⟨e1,e2⟩:=Cs h0
   have e:(i::is).length+r=(is.length+r)+1:=by simp;omega
   rw [e,ahB]
   unfold uj
   refine⟨o,v,hget,.inl ⟨by unfold Region.wanted;rw [acI],λw' ju=>?_⟩,?_⟩
   ·rw [ji]
    obtain⟨w2,h1,_,_,h4⟩:=rG h0 (λp hp=>ho p (IC hr p hp)) (by rw [hT];exact ju) (λe=>by rw [hu] at e;cases e)
    obtain⟨ew,_⟩:=h4 rfl
    rw [ew] at h1
    rcases h1 with h1|⟨h1,_⟩
    ·exact h1
    exact agY h1 (xw hv)
   rw [iz]
   exact Ec hr ho (e2.trans hu) (e1.trans hT) hK
 |[],_::_,_,_,_,_,h,_,_,_,_=>by cases h
 |_::_,[],_,_,_,_,h,_,_,_,_=>by cases h
theorem ck.reads (is:List Nat) (hs:List OH) (ar:List Nat) (h:∀ai,Fx P β N ai ops hs is fr S ar=some (bU,eZ)) (ho:oY eZ) (hr:r'=is.length+r) (hl:l'=is++l) (K:ck P β N ops S r l bU ax Q):ck P β N ops S r' l' fr ax Q:=by
 intro ai w hS
 subst hr hl
 have h0:=h ai
 unfold Fx at h0
 split at h0
 ·rename_i sO S1 h1
  cases h0
  have hK:=K (lk sO ai) w hS
  rw [←oW] at hK
  exact Ec h1 (λp hp=>ho.mem hp) rfl rfl hK
 cases h0
def U1 (ops:Array Oper) (i:Nat):Option (Op×Option Tmp):=match ops[i]? with
 |some o=>match o.guard with
   |none=>some (o.op,o.dst)
   |some _=>none
 |none=>none
theorem XT (h:U1 ops i=some (op,d)):∃o,ops[i]?=some o/\o.guard=none/\o.op=op/\o.dst=d:=by
 grind [U1]
theorem ck.aeG (bZ:U1 ops i=some (op,d)) (h:∀(o:Oper) ai w,o.op=op->aR β S w->sG P (eY N fr ai) o w v w) (hv:Cv v=true) (K:ck P β N ops S r l (eW fr d v) ax Q):ck P β N ops S (r+1) (i::l) fr ax Q:=by
 intro ai w hS
 obtain⟨o,h1,h2,h3,rfl⟩:=XT bZ
 unfold uj
 refine⟨o,v,h1,.inl ⟨by unfold Region.wanted;rw [h2],λw' ju=>?_⟩,?_⟩
 all_goals grind [ji,xw,iz,U1,aR,sG,eY,Cv,ck,eW]
def Gg (β:Bs) (N:fY) {ι:Type} (fr:ι->Fr) (hp:ι->List HP):Post:=λ_ a w=>∃i ai,a=fF N (fr i) ai/\aR β (hp i) w
theorem ck.cut {ι:Type} {bU:ι->Fr} {dI:ι->List HP} {o:Oper} (pk:List Nat) (bZ:ops[i]?=some o) (hg:o.guard=none) (h:av P β N #[o] 0 fr ax (NP (Gg β N bU dI))) (hn:cD pk=true) (hp:∀j,cW (dI j) pk=some S)
 (K:∀j,ck P β N ops S 0 l (bU j) (dI j) Q):ck P β N ops S 0 (i::l) fr ax Q:=by
 intro ai w hS
 unfold uj
 refine vn bZ hg ?_
 have h1:=h ai w hS
 have h2:wpList P #[o] (NP (Gg β N bU dI)) [o] (fF N fr ai) w:=h1
 refine AY (λa w ⟨j,qg,ha,ju⟩=>?_) h2
 subst ha
 exact⟨.inr (ju.pick hn (hp j)),K j qg w ju⟩
theorem ck.last {o:Oper} (bZ:ops[i]?=some o) (hg:o.guard=none) (h:av P β N #[o] 0 fr ax (NP Q)):ck P β N ops S 0 [i] fr ax Q:=by
 grind [uj,vn,NP,fF,AY,av,ck]
theorem aB.mid {ι:Type} {bU:ι->Fr} {dI:ι->List HP} (j:ι) {ar pk:List Nat} (hf:∀ai,kG fr ai ar=bU j) (hn:cD pk=true) (hp:cW ax pk=some (dI j)):aB β N (NP (Gg β N bU dI)) .normal fr ax:=
 λai _ hS=>⟨j,lk fr ai,by rw [oW N fr ai ar,hf ai],hS.pick hn hp⟩
theorem aB.np (h:aB β N Q .normal fr ax):aB β N (NP Q) .normal fr ax:=λai w hS=>h ai w hS
section maps
open Go.Maps
variable {t K E:TypeId} {b cnt:Nat} {f:Lit->Option Value} {x ix:Operand} {key z:Value} {kl:Lit} {q:Option Value}
theorem ck.je (p:Nat) (bZ:U1 ops i=some (.lookup t x ix false,d)) (hp:S[p]?=some (.abs (bM P K b f cnt))) (hx:∀ai,eY N fr ai x=.map (some b)) (fH:∀ai,eY N fr ai ix=key) (L:Keyed P K)
 (ht:P.underlying t=some (.map K E)) (hz:∀w,(zeroValue E).run P w=.ok z w) (mz:keyOf P K key=some kl) (hr:f kl=q) (hv:Cv (q.getD z)=true) (K':ck P β N ops S r l (eW fr d (q.getD z)) ax Q):ck P β N ops S (r+1) (i::l) fr ax Q:=by
 subst hr
 exact ck.aeG bZ (λ_ ai w ho hS=>CX ho (bM.get hS hp) (hx ai) (fH ai) L ht (hz w) mz) hv K'
end maps
end mix
structure OP where
 h:OH
 ps:List Prop
 pf:oY ps
def n_:OP:=⟨o_,[],trivial⟩
def a_ (i b:Nat):OP:=⟨⟨[.at i],none,none,none,none⟩,[b=b],rfl,trivial⟩
def v_ {A:eH} {a:Addr} {v:Value} (i:Nat) (h:∀F w,A.h F w->w.cell? a=some v):OP:=⟨⟨[.view i v],none,none,none,none⟩,[∀F w,A.h F w->w.cell? a=some v],h,trivial⟩
def w_ {v:Value} (v':Value) (h:v=v'):OP:=⟨⟨[],none,none,none,some v'⟩,[v=v'],h,trivial⟩
def SX {α:Type} (x:α):Nat->List α
 |0=>[]
 |n+1=>x::SX x n
theorem acJ {p:Prop} (h:p):∀n,oY (SX p n)
 |0=>trivial
 |n+1=>⟨h,acJ h n⟩
def A_ (i b n:Nat):OP:=⟨⟨SX (.at i) n,none,none,none,none⟩,SX (b=b) n,acJ rfl n⟩
def wI (x y:Int) (h:x=y:=by first|rfl|omega) (lo:-9223372036854775808<=y:=by omega) (hi:y<=9223372036854775807:=by omega):OP:=w_ (.int .i64 y) (vg h lo hi)
def p_ (h:OH) (ps:List Prop) (pf:oY ps):OP:=⟨h,ps,pf⟩
def dX:Nat->List (Nat×OP)->Nat->List OP
 |0,_,_=>[]
 |n+1,l,i=>(match l with
   |(j,p)::r=>match Nat.beq i j with
     |true=>p::dX n r (i+1)
     |false=>n_::dX n l (i+1)
   |[]=>n_::dX n [] (i+1))
def owed:List OP->List Prop
 |[]=>[]
 |p::r=>owed r++p.ps
def dM:List OP->List OH
 |[]=>[]
 |p::r=>p.h::dM r
theorem oY.app:∀{l r:List Prop},oY l->oY r->oY (l++r)
 |[],_,_,h=>h
 |_::_,_,h,g=>⟨h.1,oY.app h.2 g⟩
theorem vV:∀l:List OP,oY (owed l)
 |[]=>trivial
 |p::r=>(vV r).app p.pf
def cr:Fr->List Nat
 |[]=>[]
 |p::r=>p.1::cr r
def ox (t:Nat):List Nat->Bool
 |[]=>false
 |i::r=>match Nat.beq i t with
   |true=>true
   |false=>ox t r
def uK (ops:Array Oper):Nat->Nat->List Nat->List Nat->Bool
 |0,_,_,_=>true
 |n+1,k,add,fr=>(match ops.toList[k]? with
   |some o=>match o.dst with
     |some d=>match ox d add with
       |true=>true
       |false=>!ox d fr
     |none=>true
   |none=>true) && uK ops n (k+1) add fr
section fr
variable {P:Program} {β:Bs} {N:fY} {ops:Array Oper} {fr bU add:Fr} {ai:Nat->Value} {t:Nat} {v:Value}
theorem tQ:∀{l:List Nat},ox t l=true↔t∈l
 |[]=>by simp [ox]
 |i::r=>by
   unfold ox
   by_cases h:i=t
   ·subst h;simp [Nat.beq_refl]
   have:Nat.beq i t=false:=by
    cases hb:Nat.beq i t
    ·rfl
    exact agY (Nat.eq_of_beq_eq_true hb) h
   rw [this,aha,tQ (l:=r)]
   exact⟨.inr,λe=>e.elim (λe=>agY e.symm h) id⟩
theorem zM:∀{fr:Fr},t∉cr fr->lk fr ai t=ai t
 |[],_=>rfl
 |p::r,h=>by
   rw [show p::r=(p.1,p.2)::r from rfl,lV,agV (λe=>h (by rw [←e];exact ag7)),zM (λe=>h (ag6 _ e))]
theorem IE:∀{add fr:Fr},lk (add++fr) ai t=if t∈cr add then lk add ai t else lk fr ai t
 |[],fr=>by simp [cr]
 |(i,v)::r,fr=>by
   have e:cr ((i,v)::r)=i::cr r:=rfl
   rw [ahB,lV,lV,IE (add:=r),e]
   by_cases h:i=t
   ·rw [agW h,agW h,agW (by rw [h];exact ag7)]
   rw [agV h,agV h]
   by_cases h2:t∈cr r
   ·rw [agW h2,agW (ag6 _ h2)]
   rw [agV h2,agV (λe=>Pe)]
theorem MY:∀{fr:Fr} {j j':Nat->Value},t∈cr fr->lk fr j t=lk fr j' t
 |p::r,j,j',h=>by
   rw [show p::r=(p.1,p.2)::r from rfl,lV,lV]
   by_cases e:p.1=t
   ·rw [agW e,agW e]
   rw [agV e,agV e]
   rcases aha.1 h with h|h
   ·exact agY h.symm e
   exact MY h
theorem IG:∀(ar:List Nat),cr (kG fr ai ar)=ar
 |[]=>rfl
 |i::r=>agX (i::·) (IG r)
theorem C0 {n:Nat} {ro:Bool} {add:List Nat} {fr0:List Nat}:∀{hs:List OH} {k k':Nat} {fr bU:Fr} {S S':SS},pH P β n ro N ai ops hs k fr S=some (k',bU,S')->uK ops hs.length k add fr0=true->t∈fr0->t∉add->lk bU ai t=lk fr ai t
 |[],k,k',fr,bU,S,S',h,_,_,_=>by cases h;rfl
 |h::hs,k,k',fr,bU,S,S',hr,hb,h0,ha=>by
   unfold pH at hr
   have hb:uK ops (hs.length+1) k add fr0=true:=hb
   unfold uK at hb
   rw [ahm] at hb
   split at hr
   ·cases hr
   rename_i o hget
   have key:∀v,lk (eW fr o.dst v) ai t=lk fr ai t:=λv=>by
    cases hd:o.dst with
    |none=>rfl
    |some d=>
      show lk ((d,v)::fr) ai t=_
      rw [lV,agV]
      intro e
      subst e
      have h1:=hb.1
      rw [hget] at h1
      simp only [hd] at h1
      cases h2:ox d add with
      |true=>exact ha (tQ.1 h2)
      |false=>
        rw [h2] at h1
        rw [tQ.2 h0] at h1
        cases h1
   split at hr
   ·split at hr
    ·exact (C0 hr hb.2 h0 ha).trans (key _)
    cases hr
   exact (C0 hr hb.2 h0 ha).trans (key _)
theorem Nl {ar:List Nat} {n:Nat} {ro:Bool} {hs:List OH} {k k':Nat} {sO:Fr} {S S':SS} (h:pH P β n ro N ai ops hs k fr S=some (k',sO,S')) (hb:uK ops hs.length k ar (cr fr)=true):fF N sO ai=fF N (kG sO ai ar++fr) (lk sO ai):=by
 unfold fF
 have:(List.range N.n).map (lk sO ai)=(List.range N.n).map (lk (kG sO ai ar++fr) (lk sO ai)):=ahx (λt _=>by
  rw [IE,IG]
  by_cases h1:t∈ar
  ·rw [agW h1,GS]
  rw [agV h1]
  by_cases h2:t∈cr fr
  ·rw [MY (j':=ai) h2,C0 h hb h2 h1]
  rw [zM h2])
 rw [this]
end fr
theorem zO:∀{n i:Nat} {l:List (Nat×OP)},(dM (dX n l i)).length=n
 |0,_,_=>rfl
 |n+1,i,l=>by
   unfold dX
   split
   ·split
    ·exact agX (·+1) (zO (n:=n))
    exact agX (·+1) (zO (n:=n))
   exact agX (·+1) (zO (n:=n))
def tq (l:List HP):List (Nat×HP)->List HP
 |[]=>l
 |(i,p)::r=>tq (l.set i p) r
def acK:List Value->List (Nat×Value)->List Value
 |cs,[]=>cs
 |cs,(j,u)::r=>acK (cs.set j u) r
def afl (ds:List (Nat×Value)):HP->HP
 |.aD b cs T=>.aD b (acK cs ds) T
 |p=>p
def Nn:List HP->List (Nat×HP)->List HP
 |ax,[]=>ax
 |ax,(i,p)::r=>Nn (ax.set i p) r
def acL (ds:List (Nat×Value)):List HP->Nat->List HP
 |[],_=>[]
 |p::r,0=>afl ds p::r
 |p::r,i+1=>p::acL ds r i
def j7:List HP->List (Nat×List (Nat×Value))->List HP
 |l,[]=>l
 |l,(i,ds)::r=>j7 (acL ds l i) r
def uL:Nat->Nat->List Nat
 |0,_=>[]
 |n+1,i=>i::uL n (i+1)
section rules
variable {P:Program} {β:Bs} {N:fY} {ops:Array Oper} {k:Nat} {fr:Fr} {ax:List HP} {Q:Post}
theorem gW (n:Nat) (add:Nat->Fr) (l:Nat->List (Nat×OP)) (fe:Nat->List HP) (K:∀b,av P β N ops (k+n) (add b++fr) (fe b) Q)
 (h:∀b ai,nI P β b false N ai ops (dM (dX n (l b) 0)) k fr ax (cr (add b)) (uL (fe b).length 0)=some (k+n,add b,fe b,owed (dX n (l b) 0)))
 (hb:∀b,uK ops n k (cr (add b)) (cr fr)=true):av P β N ops k fr ax Q:=by
 intro ai w hS
 obtain⟨sO,S,h1,h2,h3,h4,h5⟩:=GV (h w.heap.size ai)
 refine Cd h1 (λp hp=>(vV (dX n (l w.heap.size) 0)).mem (h5 ▸ hp)) hS (λ_=>rfl) (λw' ju=>?_)
 have hk:=K w.heap.size (lk sO ai) w' (ju.pick h2 h3)
 grind [Nl,zO]
theorem gN (n:Nat) (add:Nat->Fr) (l:Nat->List (Nat×OP)) (ds:Nat->List (Nat×List (Nat×Value))) (new:Nat->HP) (K:∀b,av P β N ops (k+n) (add b++fr) (j7 ax (ds b)++[new b]) Q)
 (h:∀b ai,nI P β b false N ai ops (dM (dX n (l b) 0)) k fr ax (cr (add b)) (uL (j7 ax (ds b)++[new b]).length 0)=some (k+n,add b,j7 ax (ds b)++[new b],owed (dX n (l b) 0)):=by intro _ _;kernel_rfl)
 (hb:∀b,uK ops n k (cr (add b)) (cr fr)=true:=by intro _;kernel_rfl):av P β N ops k fr ax Q:=gW n add l _ K h hb
theorem gC (n:Nat) (add:Fr) (l:List (Nat×OP)) (ds:List (Nat×List (Nat×Value))) (K:av P β N ops (k+n) (add++fr) (j7 ax ds) Q)
 (h:∀b ai,nI P β b false N ai ops (dM (dX n l 0)) k fr ax (cr add) (uL (j7 ax ds).length 0)=some (k+n,add,j7 ax ds,owed (dX n l 0)):=by intro _ _;kernel_rfl)
 (hb:uK ops n k (cr add) (cr fr)=true:=by kernel_rfl):av P β N ops k fr ax Q:=
 gW n (λ_=>add) (λ_=>l) (λ_=>j7 ax ds) (λ_=>K) h (λ_=>hb)
theorem av.gG (ds:List (Nat×HP)) (h:∀w,aR β ax w->aR β (Nn ax ds) w) (K:av P β N ops k fr (Nn ax ds) Q):av P β N ops k fr ax Q:=av.mem h K
theorem aB.gG {e:Exit} (ds:List (Nat×HP)) (h:∀w,aR β ax w->aR β (Nn ax ds) w) (K:aB β N Q e fr (Nn ax ds)):aB β N Q e fr ax:=aB.mem h K
theorem gK (n:Nat) (add:Fr) (l:List (Nat×OP)) (K:av P β N ops (k+n) (add++fr) ax Q)
 (h:∀b ai,nI P β b false N ai ops (dM (dX n l 0)) k fr ax (cr add) (uL ax.length 0)=some (k+n,add,ax,owed (dX n l 0)):=by intro _ _;kernel_rfl)
 (hb:uK ops n k (cr add) (cr fr)=true:=by kernel_rfl):av P β N ops k fr ax Q:=gW n (λ_=>add) (λ_=>l) (λ_=>ax) (λ_=>K) h (λ_=>hb)
theorem gQ (n:Nat) (add:Fr) (l:List (Nat×OP)) (K:bN P β N ops (k+n) (add++fr) ax Q)
 (h:∀b ai,nI P β b true N ai ops (dM (dX n l 0)) k fr ax (cr add) (uL ax.length 0)=some (k+n,add,ax,owed (dX n l 0)):=by intro _ _;kernel_rfl)
 (hb:uK ops n k (cr add) (cr fr)=true:=by kernel_rfl):bN P β N ops k fr ax Q:=by
 intro ai
 obtain⟨sO,S,h1,h2,h3,h4,h5⟩:=GV (h 0 ai)
 refine Ce h1 (λp hp=>(vV (dX n l 0)).mem (h5 ▸ hp)) rfl (λ_=>?_)
 have hk:=K (lk sO ai)
 grind [Nl,zO]
theorem NL (K:aB β N Q .normal fr ax) (h:ops.toList.drop k=[]:=by kernel_rfl):av P β N ops k fr ax Q:=av.nil h K
theorem NQ (K:aB β N Q .normal fr ax) (h:ops.toList.drop k=[]:=by kernel_rfl):bN P β N ops k fr ax Q:=bN.nil h K
variable {c x y z:Code} {o:Operand} {id id':Nat} {lq:Array Oper} {e:Exit}
theorem SR {f:Bool} (h:av P β N lq 0 fr ax (Exit.then (y.wp P Q) Q)) (hf:f=false:=by rfl):aq P β N (.seq (.region id lq f) y) fr ax Q:=by
 subst hf;exact aq.seq (aq.region h)
theorem NX (h:aq P β N y fr ax Q):aB β N (Exit.then (y.wp P Q) Q) .normal fr ax:=aB.next h
theorem NN (K:aq P β N y fr ax Q) (h:ops.toList.drop k=[]:=by kernel_rfl):av P β N ops k fr ax (Exit.then (y.wp P Q) Q):=NL (NX K) h
theorem NS {f:Bool} (K:av P β N lq 0 fr ax (Exit.then (y.wp P Q) Q)) (h:ops.toList.drop k=[]:=by kernel_rfl) (hf:f=false:=by rfl):av P β N ops k fr ax (Exit.then ((Code.seq (.region id lq f) y).wp P Q) Q):=NN (SR K hf) h
theorem CT (ht:aq P β N x fr ax Q) (h:∀ai,eY N fr ai o=.bool true:=by intro _;kernel_rfl):aq P β N (.cond o x y) fr ax Q:=aq.aex h ht
theorem CF (hf:aq P β N y fr ax Q) (h:∀ai,eY N fr ai o=.bool false:=by intro _;kernel_rfl):aq P β N (.cond o x y) fr ax Q:=aq.aey h hf
def lN (pre:List Nat) (l:List HP):Nat->List HP
 |i=>match l with
   |[]=>[]
   |p::r=>match ox i pre with
     |true=>lN pre r (i+1)
     |false=>p::lN pre r (i+1)
def oy (pre:List Nat):Nat->Nat->List Nat
 |0,_=>[]
 |n+1,i=>match ox i pre with
   |true=>oy pre n (i+1)
   |false=>i::oy pre n (i+1)
def jw (ops:Array Oper) (k:Nat):Option Tmp:=match ops.toList[k]? with
 |some o=>o.dst
 |none=>none
variable {f:FuncId} {args:Array Value} {pre:List HP} {post:Value->List HP->Prop}
theorem gL (ix:List Nat) (hs:aW P β f args pre post) (K:∀v l,post v l->av P β N ops (k+1) (eW fr (jw ops k) v) (l++lN ix ax 0) Q)
 (hc:∀ai,qM P β N ai ops fr k=some (f,args,jw ops k):=by intro _;kernel_rfl) (hn:cD (ix++oy ix ax.length 0)=true:=by kernel_rfl) (hp:cW ax (ix++oy ix ax.length 0)=some (pre++lN ix ax 0):=by kernel_rfl):av P β N ops k fr ax Q:=
 av.call hc hs hn hp K
variable {R:eH} {fn:Func} {l:List HP} {v:Value}
theorem RT {n0:Nat} (v:Value) (pk:List Nat) (lg:post v l) (hr:∀ai,sH P β ⟨n0,[]⟩ ai fn fr ax []=some (v,[]):=by intro _;kernel_rfl) (hn:cD pk=true:=by kernel_rfl) (hp:cW ax pk=some (l++[.abs R]):=by kernel_rfl) :
 aB β ⟨n0,[]⟩ (bodyPost P fn (zH β R post)) .ret fr ax:=aB.ret [] pk hr trivial hn hp lg
theorem RF {n0:Nat} (v:Value) (pk:List Nat) (lg:post v l) (hr:∀ai,sH P β ⟨n0,[]⟩ ai fn fr ax []=some (v,[]):=by intro _;kernel_rfl) (hn:cD pk=true:=by kernel_rfl) (hp:cW ax pk=some (l++[.abs R]):=by kernel_rfl) :
 aB β ⟨n0,[]⟩ (bodyPost P fn (zH β R post)) .normal fr ax:=aB.fin [] pk hr trivial hn hp lg
theorem MD {ι:Type} {bU:ι->Fr} {dI:ι->List HP} (j:ι) (ar pk:List Nat) (hf:∀ai,kG fr ai ar=bU j:=by intro _;kernel_rfl) (hn:cD pk=true:=by kernel_rfl) (hp:cW ax pk=some (dI j):=by kernel_rfl):aB β N (NP (Gg β N bU dI)) .normal fr ax:=aB.mid j hf hn hp
variable {S:List HP} {i:Nat} {lm:List Nat} {o':Oper}
theorem Ed {ι:Type} {bU:ι->Fr} {dI:ι->List HP} (j:ι):aB β N (NP (Gg β N bU dI)) .normal (bU j) (dI j):=λai _ hS=>⟨j,ai,rfl,hS⟩
theorem mC (pk:List Nat) (add:Fr) (l':List (Nat×OP)) (ds:List (Nat×List (Nat×Value))) (K:ck P β N ops S 0 lm (add++fr) (j7 ax ds) Q) (bZ:ops[i]?=some o':=by rfl) (hg:o'.guard=none:=by rfl)
 (h:∀b ai,nI P β b false N ai #[o'] (dM (dX 1 l' 0)) 0 fr ax (cr add) (uL (j7 ax ds).length 0)=some (0+1,add,j7 ax ds,owed (dX 1 l' 0)):=by intro _ _;kernel_rfl)
 (hb:uK #[o'] 1 0 (cr add) (cr fr)=true:=by kernel_rfl) (hn:cD pk=true:=by kernel_rfl) (hp:cW (j7 ax ds) pk=some S:=by kernel_rfl):ck P β N ops S 0 (i::lm) fr ax Q:=
 ck.cut (ι:=Unit) (bU:=λ_=>add++fr) (dI:=λ_=>j7 ax ds) pk bZ hg (gC 1 add l' ds (av.nil rfl (Ed ())) h hb) hn (λ_=>hp) (λ_=>K)
theorem mN (pk:List Nat) (add:Nat->Fr) (l':Nat->List (Nat×OP)) (new:Nat->HP) (K:∀b,ck P β N ops S 0 lm (add b++fr) (ax++[new b]) Q) (bZ:ops[i]?=some o':=by rfl) (hg:o'.guard=none:=by rfl)
 (h:∀b ai,nI P β b false N ai #[o'] (dM (dX 1 (l' b) 0)) 0 fr ax (cr (add b)) (uL (ax++[new b]).length 0)=some (0+1,add b,ax++[new b],owed (dX 1 (l' b) 0)):=by intro _ _;kernel_rfl)
 (hb:∀b,uK #[o'] 1 0 (cr (add b)) (cr fr)=true:=by intro _;kernel_rfl) (hn:cD pk=true:=by kernel_rfl) (hp:∀b,cW (ax++[new b]) pk=some S:=by intro _;kernel_rfl):ck P β N ops S 0 (i::lm) fr ax Q:=
 ck.cut (ι:=Nat) (bU:=λb=>add b++fr) (dI:=λb=>ax++[new b]) pk bZ hg (gW 1 add l' (λb=>ax++[new b]) (λb=>av.nil rfl (Ed (bU:=λb=>add b++fr) (dI:=λb=>ax++[new b]) b)) h hb) hn hp K
theorem mL (pk ix:List Nat) (hs:aW P β f args pre post) (K:∀v l,post v l->ck P β N ops S 0 lm (eW fr (jw #[o'] 0) v) (l++lN ix ax 0) Q) (hp:∀v l,post v l->cW (l++lN ix ax 0) pk=some S) (bZ:ops[i]?=some o':=by rfl) (hg:o'.guard=none:=by rfl)
 (hc:∀ai,qM P β N ai #[o'] fr 0=some (f,args,jw #[o'] 0):=by intro _;kernel_rfl) (hn':cD (ix++oy ix ax.length 0)=true:=by kernel_rfl) (dI:cW ax (ix++oy ix ax.length 0)=some (pre++lN ix ax 0):=by kernel_rfl) (hn:cD pk=true:=by kernel_rfl):ck P β N ops S 0 (i::lm) fr ax Q:=
 ck.cut (ι:={x:Value×List HP // post x.1 x.2}) (bU:=λj=>eW fr (jw #[o'] 0) j.1.1) (dI:=λj=>j.1.2++lN ix ax 0) pk bZ hg (gL ix hs (λv l hv=>av.nil rfl (Ed (bU:=λj:{x:Value×List HP // post x.1 x.2}=>eW fr (jw #[o'] 0) j.1.1) (dI:=λj=>j.1.2++lN ix ax 0) ⟨(v,l),hv⟩)) hc hn' dI) hn (λj=>hp _ _ j.2) (λj=>K _ _ j.2)
end rules
section order
variable {P:Program} {ops:Array Oper} {Q Q':Post} {n:Nat} {S:World->Prop}
def lZ (P:Program) (ops:Array Oper) (Q:Post) (S:World->Prop):List (Bool×Nat)->Act->World->Prop
 |[],a,w=>Q .normal a w
 |(false,i)::l,a,w=>wpOp P ops Q i (λa' w'=>(l=[]\/S w')/\lZ P ops Q S l a' w') a w
 |(true,i)::l,a,w=>∃o v,ops[i]?=some o/\YieldsIf P ops S o v a/\lZ P ops Q S l (a.put o.dst v) w
def C2 (ops:Array Oper) (n:Nat):List (Bool×Nat)->Array Bool->Bool
 |[],bO=>(Region.ready .any ops bO).isEmpty
 |(false,i)::l,bO=>(Region.ready .any ops bO == [i]) && (!l.isEmpty || i == n) && C2 ops n l (bO.setIfInBounds i true)
 |(true,i)::l,bO=>decide (i<n) && Region.free .any ops bO i && (Region.ready .any ops bO).contains i && C2 ops n l (bO.setIfInBounds i true)
theorem C3 (hsel:Region.noSelect ops=true) (qh:Region.sinkB .any ops n=true):∀(l:List (Bool×Nat)) (bO:Array Bool) (a:Act) (w:World),C2 ops n l bO=true->Closed ops bO->(l=[]\/S w)->lZ P ops (NP Q) S l a w->xu P ops (NP Q) n S l.length bO a w
 |[],bO,a,w,hb,_,_,h=>⟨List.isEmpty_iff.1 hb,h⟩
 |(false,i)::l,bO,a,w,hb,hc,_,h=>by
   unfold C2 at hb
   simp only [ahm,ahP] at hb
   obtain⟨⟨h1,h2⟩,h3⟩:=hb
   refine⟨λh0=>(by rw [h1] at h0;cases h0),λj hj=>?_⟩
   have hr:=hj
   rw [h1] at hj
   have hj:j=i:=by simpa using hj
   subst hj
   refine wpOp_mono (λa' w' h4=>⟨?_,C3 hsel qh l _ a' w' h3 (hc.set hr) h4.1 h4.2⟩) h
   rcases h4.1 with h5|h5
   ·subst h5;exact .inl (by simpa using h2)
   exact .inr h5
 |(true,i)::l,bO,a,w,hb,hc,hS,h=>by
   unfold C2 at hb
   simp only [ahm,decide_eq_true_iff] at hb
   obtain⟨⟨⟨h1,h2⟩,h3⟩,h4⟩:=hb
   obtain⟨o,v,ho,hy,hk⟩:=h
   have hS:S w:=hS.resolve_left agU
   have hr:i∈Region.ready .any ops bO:=by simpa using h3
   exact zL ho hsel qh h1 l.length bO a w hc (Region.free_spec ho h2) hr hy hS (C3 hsel qh l _ _ w h4 (hc.set hr) (.inr hS) hk)
def Ke (ops:Array Oper) (l:List (Bool×Nat)):Bool:=
 Region.noSelect ops && Region.sinkB .any ops (ops.size-1) && (l.length == ops.size) && C2 ops (ops.size-1) l (Array.replicate ops.size false)
def mK (ops:Array Oper) (i:Nat):Array Oper:=⟨ops.toList.take (i+1)⟩
def gB (ops:Array Oper) (i:Nat):Bool:=match ops[i]? with
 |some o=>match o.guard with
   |none=>true
   |some (j,_)=>decide (j<=i)
 |none=>false
theorem U2 {i j:Nat} (h:j<=i):(mK ops i)[j]?=ops[j]?:=by
 grind [mK]
theorem Ee {i:Nat} {a:Act} {w:World} {K:Act->World->Prop} (hg:gB ops i=true) (h:wpList P (mK ops i) (NP λ_ a w=>K a w) ((mK ops i).toList.drop i) a w):wpOp P ops (NP Q) i K a w:=by
 unfold gB at hg
 split at hg
 ·rename_i o ho
  have hd:(mK ops i).toList.drop i=[o]:=by
   have hl:ops.toList[i]?=some o:=by simpa using ho
   have hi:i<ops.toList.length:=dP hl
   show (ops.toList.take (i+1)).drop i=[o]
   rw [List.drop_take]
   rw [show i+1-i=1 by omega,ahJ hi]
   grind
  have hw:Region.wanted o (yielded (mK ops i) a.tmps)=Region.wanted o (yielded ops a.tmps):=by
   unfold Region.wanted
   split at hg
   ·rename_i hn;rw [hn]
   rename_i j b hn
   rw [hn]
   have hj:j<=i:=by simpa using hg
   have:yielded (mK ops i) a.tmps j=yielded ops a.tmps j:=by
    unfold yielded
    rw [U2 hj]
   simp only [this]
  rw [hd] at h
  unfold wpOp
  simp only [ho]
  unfold wpList at h
  rw [hw] at h
  split at h
  ·rename_i hw
   rw [agW hw]
   rcases h with h|⟨_,h⟩
   ·exact .inl (MX (Oper.wp_mono (λa w h=>h) h))
   exact (vm h).elim
  rename_i hw
  rw [agV hw]
  exact h
 cases hg
end order
theorem yV {P:Program} {ops:Array Oper} {Q Q':Post} (hq:∀a w,Q .normal a w->Q' .normal a w):∀(l:List Oper) {a:Act} {w:World},wpList P ops (NP Q) l a w->wpList P ops (NP Q') l a w
 |[],_,_,h=>hq _ _ h
 |o::r,a,w,h=>by
   unfold wpList at *
   split
   ·rename_i hw
    rw [agW hw] at h
    rcases h with h|⟨_,h⟩
    ·exact .inl (MX (Oper.wp_mono (λa w h=>yV hq r h) h))
    exact (vm h).elim
   rename_i hw
   rw [agV hw] at h
   exact yV hq r h
section mix
variable {P:Program} {β:Bs} {N:fY} {ops:Array Oper} {S:List HP} {l l':List (Bool×Nat)} {fr bU:Fr} {ax:List HP} {Q:Post} {eZ:List Prop} {i:Nat} {pk:List Nat}
def fN (P:Program) (β:Bs) (N:fY) (ops:Array Oper) (S:List HP) (l:List (Bool×Nat)) (fr:Fr) (ax:List HP) (Q:Post):Prop:=
 ∀ai w,aR β ax w->lZ P ops (NP Q) (aR β S) l (fF N fr ai) w
theorem aq.SY {id:Nat} (l:List (Bool×Nat)) (pk:List Nat) (hm:P.follows .mixedOrders=true) (hB:Ke ops l=true) (hn:cD pk=true) (hp:cW ax pk=some S) (h:fN P β N ops S l fr ax Q):aq P β N (.region id ops true) fr ax Q:=by
 intro ai w hS
 unfold Ke at hB
 simp only [ahm,ahP] at hB
 obtain⟨⟨⟨h1,h2⟩,h3⟩,h4⟩:=hB
 have ju:=hS.drewN 1
 have h5:=C3 (Q:=Q) h1 h2 l _ _ _ h4 (λj oj _ hl=>by simp [Array.getD_eq_getD_getElem?,Array.getElem?_replicate] at hl;split at hl<;>simp at hl) (.inr (ju.pick hn hp)) (h ai (w.drewN 1) ju)
 rw [h3] at h5
 refine ahN (λe a w q=>?_) (wp_region_any hm (vo _ _ _ _ h5))
 cases e with
 |normal=>exact q
 |exit id=>exact q.elim
 |goto l=>exact q.elim
 |ret=>exact q.elim
 |panic ch=>exact q.elim
 |outgrown=>exact q.elim
def qP (P:Program) (β:Bs) (N:fY) (ai:Nat->Value) (ops:Array Oper):List OH->List Nat->Fr->SS->Option (Fr×SS)
 |[],[],fr,S=>some (fr,S)
 |h::hs,i::is,fr,S=>
   match ops[i]? with
   |some o=>
     match Region.wanted o (yF ops N fr ai) with
     |true=>
       match zG P β 0 true (eY N fr ai) o h S with
       |some (v,S')=>
         match Cv v with
         |true=>qP P β N ai ops hs is (eW fr o.dst v) S'
         |false=>none
       |none=>none
     |false=>qP P β N ai ops hs is (eW fr o.dst undef) S
   |none=>none
 |_,_,_,_=>none
def uo (P:Program) (β:Bs) (N:fY) (ai:Nat->Value) (ops:Array Oper) (hs:List OH) (is:List Nat) (fr:Fr) (S:List HP) (ar:List Nat):Option (Fr×List Prop):=
 match qP P β N ai ops hs is fr ⟨[],S,[],true⟩ with
 |some (bU,S')=>some (kG bU ai ar,S'.eZ)
 |none=>none
theorem yX {ai:Nat->Value}:∀{hs:List OH} {is:List Nat} {fr bU:Fr} {S S':SS},qP P β N ai ops hs is fr S=some (bU,S')->∀p,p∈S.eZ->p∈S'.eZ
 |[],[],fr,bU,S,S',h,p,hp=>by cases h;exact hp
 |h::hs,i::is,fr,bU,S,S',hr,p,hp=>by
   unfold qP at hr
   repeat' split at hr
   all_goals first|(cases hr;done)|skip
   ·rename_i h0 _ _
    exact yX hr p (GU h0 p hp)
   exact yX hr p hp
 |[],_::_,_,_,_,_,h,_,_=>by cases h
 |_::_,[],_,_,_,_,h,_,_=>by cases h
theorem zP {ai:Nat->Value} {w:World}:∀{hs:List OH} {is:List Nat} {fr bU:Fr} {T T':SS},qP P β N ai ops hs is fr T=some (bU,T')->(∀p,p∈T'.eZ->p)->T.used=true->T.ax=S →
 lZ P ops (NP Q) (aR β S) l (fF N bU ai) w->lZ P ops (NP Q) (aR β S) (is.map (λi=>(true,i))++l) (fF N fr ai) w
 |[],[],fr,bU,T,T',h,ho,hu,hT,hK=>by cases h;exact hK
 |h::hs,i::is,fr,bU,T,T',hr,ho,hu,hT,hK=>by
   unfold qP at hr
   repeat' split at hr
   all_goals first|(cases hr;done)|skip
   ·rename_i o hget _ vr _ v T1 h0 _ hv
    obtain⟨e1,e2⟩:=Cs h0
    rw [ahs,ahB]
    unfold lZ
    refine⟨o,v,hget,.inl ⟨by rw [iL];exact vr,λw' ju=>?_⟩,?_⟩
    ·rw [ji]
     obtain⟨w2,h1,_,_,h4⟩:=rG h0 (λp hp=>ho p (yX hr p hp)) (by rw [hT];exact ju) (λe=>by rw [hu] at e;cases e)
     obtain⟨ew,_⟩:=h4 rfl
     rw [ew] at h1
     rcases h1 with h1|⟨h1,_⟩
     ·exact h1
     exact agY h1 (xw hv)
    rw [iz]
    exact zP hr ho (e2.trans hu) (e1.trans hT) hK
   rename_i o hget _ vr
   rw [ahs,ahB]
   unfold lZ
   refine⟨o,undef,hget,.inr ⟨by rw [iL];exact vr,rfl⟩,?_⟩
   rw [iz]
   exact zP hr ho hu hT hK
 |[],_::_,_,_,_,_,h,_,_,_,_=>by cases h
 |_::_,[],_,_,_,_,h,_,_,_,_=>by cases h
theorem fN.reads (is:List Nat) (hs:List OH) (ar:List Nat) (h:∀ai,uo P β N ai ops hs is fr S ar=some (bU,eZ)) (ho:oY eZ) (hl:l'=is.map (λi=>(true,i))++l) (K:fN P β N ops S l bU ax Q):fN P β N ops S l' fr ax Q:=by
 intro ai w hS
 subst hl
 have h0:=h ai
 unfold uo at h0
 split at h0
 ·rename_i sO S1 h1
  cases h0
  have hK:=K (lk sO ai) w hS
  rw [←oW] at hK
  exact zP h1 (λp hp=>ho.mem hp) rfl rfl hK
 cases h0
theorem fN.cut {ι:Type} {bU:ι->Fr} {dI:ι->List HP} (pk:List Nat) (hg:gB ops i=true) (h:av P β N (mK ops i) i fr ax (NP (Gg β N bU dI))) (hn:cD pk=true) (hp:∀j,cW (dI j) pk=some S)
 (K:∀j,fN P β N ops S l (bU j) (dI j) Q):fN P β N ops S ((false,i)::l) fr ax Q:=by
 intro ai w hS
 unfold lZ
 refine Ee hg (yV (Q':=_) (λa w ⟨j,qg,ha,ju⟩=>?_) _ (h ai w hS))
 subst ha
 exact⟨.inr (ju.pick hn (hp j)),K j qg w ju⟩
theorem fN.last (hg:gB ops i=true) (h:av P β N (mK ops i) i fr ax (NP Q)):fN P β N ops S [(false,i)] fr ax Q:=by
 grind [lZ,Ee,yV,gB,av,mK,NP,fN]
end mix
def r_ {β:Bs} {a:Addr} {v:Value} (h:Rd β a v):OP:=⟨⟨[.old v],none,none,none,none⟩,[Rd β a v],h,trivial⟩
def x_ {A:Option Addr} (k n:Nat) (hA:A=some ⟨bw A,br A,none⟩) (hk:k<n:=by omega):OP:=⟨⟨[],some k,none,some ⟨bw A,br A,none⟩,none⟩,[((k:Nat):Int)=((k:Nat):Int),k<n,(⟨bw A,br A,none⟩:Addr).spot=none,A=some ⟨bw A,br A,none⟩],rfl,hk,rfl,hA,trivial⟩
def r2 {β:Bs} {a a':Addr} {v v':Value} (h:Rd β a v) (h':Rd β a' v'):OP:=⟨⟨[.old v,.old v'],none,none,none,none⟩,[Rd β a' v',Rd β a v],h',h,trivial⟩
def v2 {A:eH} {a a':Addr} {v v':Value} (i:Nat) (h:∀F w,A.h F w->w.cell? a=some v) (h':∀F w,A.h F w->w.cell? a'=some v'):OP:=⟨⟨[.view i v,.view i v'],none,none,none,none⟩,[∀F w,A.h F w->w.cell? a'=some v',∀F w,A.h F w->w.cell? a=some v],h',h,trivial⟩
def xP (k:Nat) (p:Prop) (h:p:=by omega):OP:=⟨⟨[],some k,none,none,none⟩,[((k:Nat):Int)=((k:Nat):Int),p],rfl,h,trivial⟩
def wJ (x y:Int) (h:x=y:=by omega) (lo:-9223372036854775808<=y:=by omega) (hi:y<=9223372036854775807:=by omega):OP:=w_ (.int .i64 y) (vg h lo hi)
def wT (p:Prop) [Decidable p] (h:p:=by omega):OP:=w_ (v:=.bool (decide p)) (.bool true) (agX Value.bool (ahh h))
def wF (p:Prop) [Decidable p] (h:¬p:=by omega):OP:=w_ (v:=.bool (decide p)) (.bool false) (agX Value.bool (agZ h))
def wNT (p:Prop) [Decidable p] (h:p:=by omega):OP:=w_ (v:=.bool (!decide p)) (.bool false) (agX (λb=>Value.bool !b) (ahh h))
def Np (p:Prop) [Decidable p] (h:¬p:=by omega):OP:=w_ (v:=.bool (!decide p)) (.bool true) (agX (λb=>Value.bool !b) (agZ h))
def XU (β:Bs) (b o:Nat):List Value->List Prop->List Prop
 |[],l=>l
 |v::r,l=>XU β b (o+1) r (Rd β ⟨b,o,none⟩ v::l)
theorem Nq {β:Bs} {b:Nat}:∀{vs:List Value} {o:Nat} {l:List Prop},(∀j v,vs[j]?=some v->Rd β ⟨b,o+j,none⟩ v)->oY l->oY (XU β b o vs l)
 |[],_,_,_,h=>h
 |v::r,o,l,h,hl=>Nq (vs:=r) (λj u hu=>by have:=h (j+1) u hu;rw [show o+(j+1)=o+1+j by omega] at this;exact this) ⟨h 0 v rfl,hl⟩
def DR {β:Bs} {b o:Nat} (vs:List Value) (h:∀j v,vs[j]?=some v->Rd β ⟨b,o+j,none⟩ v):OP:=⟨⟨vs.map .old,none,none,none,none⟩,XU β b o vs [],Nq h trivial⟩
section rules
variable {P:Program} {β:Bs} {N:fY} {ops:Array Oper} {k:Nat} {fr:Fr} {ax:List HP} {Q:Post}
def fJ (P:Program) (β:Bs) (b:Nat) (ro:Bool) (N:fY) (ops:Array Oper) (hs:List OH) (k:Nat) (fr:Fr) (ax:List HP) (ar:List Nat):Fr:=
 match pH P β b ro N (λ_=>undef) ops hs k fr ⟨[],ax,[],ro⟩ with
 |some (_,bU,_)=>kG bU (λ_=>undef) ar
 |none=>[]
def fK (P:Program) (β:Bs) (b:Nat) (ro:Bool) (N:fY) (ops:Array Oper) (hs:List OH) (k:Nat) (fr:Fr) (ax:List HP) (ar:List Nat):Fr:=fJ P β b ro N ops hs k fr ax ar++fr
def zN:Nat->List Value->List (Nat×Value)
 |_,[]=>[]
 |i,v::r=>(i,v)::zN (i+1) r
def zC (l:List Value):List (Nat×Value):=zN 0 l
def tl:List Nat->List (Bool×Nat)
 |[]=>[]
 |i::r=>(match Nat.blt i 500 with
   |true=>(true,i)
   |false=>(false,i-500))::tl r
theorem jK (n:Nat) (ar:List Nat) (l:List (Nat×OP)) (K:av P β N ops (k+n) (fK P β 0 false N ops (dM (dX n l 0)) k fr ax ar) ax Q)
 (h:∀b ai,nI P β b false N ai ops (dM (dX n l 0)) k fr ax (cr (fJ P β 0 false N ops (dM (dX n l 0)) k fr ax ar)) (uL ax.length 0)=some (k+n,fJ P β 0 false N ops (dM (dX n l 0)) k fr ax ar,ax,owed (dX n l 0)):=by intro _ _;kernel_rfl)
 (hb:uK ops n k (cr (fJ P β 0 false N ops (dM (dX n l 0)) k fr ax ar)) (cr fr)=true:=by kernel_rfl):av P β N ops k fr ax Q:=gK n _ l K h hb
theorem jC (n:Nat) (ar:List Nat) (l:List (Nat×OP)) (ds:List (Nat×List (Nat×Value))) (K:av P β N ops (k+n) (fK P β 0 false N ops (dM (dX n l 0)) k fr ax ar) (j7 ax ds) Q)
 (h:∀b ai,nI P β b false N ai ops (dM (dX n l 0)) k fr ax (cr (fJ P β 0 false N ops (dM (dX n l 0)) k fr ax ar)) (uL (j7 ax ds).length 0)=some (k+n,fJ P β 0 false N ops (dM (dX n l 0)) k fr ax ar,j7 ax ds,owed (dX n l 0)):=by intro _ _;kernel_rfl)
 (hb:uK ops n k (cr (fJ P β 0 false N ops (dM (dX n l 0)) k fr ax ar)) (cr fr)=true:=by kernel_rfl):av P β N ops k fr ax Q:=gC n _ l ds K h hb
theorem jN (n:Nat) (ar:List Nat) (l:Nat->List (Nat×OP)) (ds:Nat->List (Nat×List (Nat×Value))) (new:Nat->HP) (K:∀b,av P β N ops (k+n) (fK P β b false N ops (dM (dX n (l b) 0)) k fr ax ar) (j7 ax (ds b)++[new b]) Q)
 (h:∀b ai,nI P β b false N ai ops (dM (dX n (l b) 0)) k fr ax (cr (fJ P β b false N ops (dM (dX n (l b) 0)) k fr ax ar)) (uL (j7 ax (ds b)++[new b]).length 0)=some (k+n,fJ P β b false N ops (dM (dX n (l b) 0)) k fr ax ar,j7 ax (ds b)++[new b],owed (dX n (l b) 0)):=by intro _ _;kernel_rfl)
 (hb:∀b,uK ops n k (cr (fJ P β b false N ops (dM (dX n (l b) 0)) k fr ax ar)) (cr fr)=true:=by intro _;kernel_rfl):av P β N ops k fr ax Q:=gN n _ l ds new K h hb
theorem jB (n:Nat) (ar:List Nat) (new:Nat->HP) (K:∀b,av P β N ops (k+n) (fK P β b false N ops (dM (dX n [] 0)) k fr ax ar) (j7 ax []++[new b]) Q)
 (h:∀b ai,nI P β b false N ai ops (dM (dX n [] 0)) k fr ax (cr (fJ P β b false N ops (dM (dX n [] 0)) k fr ax ar)) (uL (j7 ax []++[new b]).length 0)=some (k+n,fJ P β b false N ops (dM (dX n [] 0)) k fr ax ar,j7 ax []++[new b],owed (dX n [] 0)):=by intro _ _;kernel_rfl)
 (hb:∀b,uK ops n k (cr (fJ P β b false N ops (dM (dX n [] 0)) k fr ax ar)) (cr fr)=true:=by intro _;kernel_rfl):av P β N ops k fr ax Q:=jN n ar (λ_=>[]) (λ_=>[]) new K h hb
theorem rQ {id:Nat} (h:bN P β N ops 0 fr ax Q) (hm:P.follows .mixedOrders=true:=by kernel_rfl) (hB:Region.lexB .any ops=true:=by kernel_rfl):aq P β N (.region id ops true) fr ax Q:=aq.Fv hm hB h
theorem jQ (n:Nat) (ar:List Nat) (l:List (Nat×OP)) (K:bN P β N ops (k+n) (fK P β 0 true N ops (dM (dX n l 0)) k fr ax ar) ax Q)
 (h:∀b ai,nI P β b true N ai ops (dM (dX n l 0)) k fr ax (cr (fJ P β 0 true N ops (dM (dX n l 0)) k fr ax ar)) (uL ax.length 0)=some (k+n,fJ P β 0 true N ops (dM (dX n l 0)) k fr ax ar,ax,owed (dX n l 0)):=by intro _ _;kernel_rfl)
 (hb:uK ops n k (cr (fJ P β 0 true N ops (dM (dX n l 0)) k fr ax ar)) (cr fr)=true:=by kernel_rfl):bN P β N ops k fr ax Q:=gQ n _ l K h hb
variable {f:FuncId} {args:Array Value} {pre:List HP} {post:Bs->Value->List HP->Prop}
theorem jx (ix:List Nat) (hs:cE P β f args pre post) (K:∀β' v l,β.le β'->post β' v l->av P β' N ops (k+1) (eW fr (jw ops k) v) (l++lN ix ax 0) Q)
 (hc:∀ai,qM P β N ai ops fr k=some (f,args,jw ops k):=by intro _;kernel_rfl) (hn:cD (ix++oy ix ax.length 0)=true:=by kernel_rfl) (hp:cW ax (ix++oy ix ax.length 0)=some (pre++lN ix ax 0):=by kernel_rfl):av P β N ops k fr ax Q:=
 av.SV hc hs hn hp K
theorem gE {a:Value} {b:List HP} (ix:List Nat) (hs:aW P β f args pre (λv l=>v=a/\l=b)) (K:av P β N ops (k+1) (eW fr (jw ops k) a) (b++lN ix ax 0) Q)
 (hc:∀ai,qM P β N ai ops fr k=some (f,args,jw ops k):=by intro _;kernel_rfl) (hn:cD (ix++oy ix ax.length 0)=true:=by kernel_rfl) (hp:cW ax (ix++oy ix ax.length 0)=some (pre++lN ix ax 0):=by kernel_rfl):av P β N ops k fr ax Q:=
 gL ix hs (λ_ _ h=>by obtain⟨rfl,rfl⟩:=h;exact K) hc hn hp
theorem gX {ι:Type} {a:ι->Value} {b:ι->List HP} (ix:List Nat) (hs:aW P β f args pre (λv l=>∃x,v=a x/\l=b x)) (K:∀x,av P β N ops (k+1) (eW fr (jw ops k) (a x)) (b x++lN ix ax 0) Q)
 (hc:∀ai,qM P β N ai ops fr k=some (f,args,jw ops k):=by intro _;kernel_rfl) (hn:cD (ix++oy ix ax.length 0)=true:=by kernel_rfl) (hp:cW ax (ix++oy ix ax.length 0)=some (pre++lN ix ax 0):=by kernel_rfl):av P β N ops k fr ax Q:=
 gL ix hs (λ_ _ h=>by obtain⟨x,rfl,rfl⟩:=h;exact K x) hc hn hp
theorem cP {x y:Code} {o:Operand} (p:Prop) [Decidable p] (ht:p->aq P β N x fr ax Q) (hf:¬p->aq P β N y fr ax Q) (h:∀ai,eY N fr ai o=.bool (decide p):=by intro _;kernel_rfl):aq P β N (.cond o x y) fr ax Q:=aq.aez h ht hf
theorem SE {n0:Nat} {fn:Func} {c:Code} {post:Value->List HP->Prop} (hf:P.funcs[f]?=some fn) (hN:fn.ntmps=n0) (h:∀R:eH,aq P β ⟨n0,[]⟩ c (CW 0 args.toList) (pre++[.abs R]) (bodyPost P fn (zH β R post))) (hb:fn.body=some c:=by rfl) (hl:args.toList.length<=n0:=by exact ahr rfl):aW P β f args pre post:=aW.enter hf hb hN hl h
theorem oI {n0:Nat} {fn:Func} {c:Code} (hf:P.funcs[f]?=some fn) (hN:fn.ntmps=n0) (h:β.le β->∀R:eH,aq P β ⟨n0,[]⟩ c (CW 0 args.toList) (pre++[.abs R]) (bodyPost P fn (Iy β R post))) (hb:fn.body=some c:=by rfl) (hl:args.toList.length<=n0:=by exact ahr rfl):cE P β f args pre post:=cE.enter hf hb hN hl h
def Lj (N:fY) (ops:Array Oper) (fr:Fr) (k j:Nat):Operand:=
 match iT N (λ_=>undef) ops fr k with
 |some (.call ⟨_,xs,_⟩,_)=>match xs.toList[j]? with
   |some x=>x
   |none=>.tmp 0
 |_=>.tmp 0
def zI (P:Program) (e:TypeId):Value:=match P.info? e with
 |some i=>match i.zero with
   |some z=>z
   |none=>undef
 |none=>undef
def bI (P:Program) (e:TypeId):Nat:=match P.info? e with
 |some i=>i.bytes
 |none=>0
theorem U3 {news:List Value} (h:news.all Value.oneCell'=true):∀u∈news,u.oneCell'=true:=List.all_eq_true.1 h
theorem mR (i:Nat) (t:TypeId) {e:TypeId} {size n cap:Nat} {A:Option Addr} {xs:List Value} (A':Option Addr) (m c':Nat) (news:List Value) (hp:ax[i]?=some (.abs (aH e size A n cap xs)))
 (hsrc:∀w,aR β ax w->(A'=none/\news.length=0)\/∃ad,A'=some ad/\∀j u,news[j]?=some u->w.cell? (ad.add j)=some u)
 (K':∀B cap',av P β N ops (k+1) (eW fr (jw ops k) (.slice B (n+m) cap')) (ax.set i (.abs (aH e size B (n+m) cap' (xs++news)))) Q)
 (hb:n+m<=1099511627776:=by omega) (hl:news.length=m*size:=by kernel_rfl) (h1:∀u∈news,u.oneCell'=true:=by exact U3 KB)
 (bZ:∀ai,iT N ai ops fr k=some (.call ⟨.builtin .append,#[Lj N ops fr k 0,Lj N ops fr k 1],#[t,t]⟩,jw ops k):=by intro _;kernel_rfl)
 (hs:∀ai,eY N fr ai (Lj N ops fr k 0)=.slice A n cap:=by intro _;kernel_rfl) (hx:∀ai,eY N fr ai (Lj N ops fr k 1)=.slice A' m c':=by intro _;kernel_rfl)
 (ht:P.underlying t=some (.slice e):=by kernel_rfl) (rH:(P.info? e).map (λi=>(i.zero,i.size,i.bytes))=some (some (zI P e),size,bI P e):=by kernel_rfl)
 (hzs:(zI P e).cells.size=size:=by kernel_rfl) (eT:0<size:=by decide) (hb8:Nat.ble (bI P e) 128=true:=by kernel_rfl):av P β N ops k fr ax Q:=
 av.append i bZ rfl hp hs hx ht rH hzs eT hl h1 hsrc (by unfold maxLen;omega) (ag1 (Nat.mul_le_mul hb (ahr hb8)) Pd) K'
theorem Ri (i:Nat) (t:TypeId) {e:TypeId} {size n cap:Nat} {A:Option Addr} {xs:List Value} (A':Option Addr) (m c':Nat) (news:List Value) (hp:ax[i]?=some (.abs (aH e size A n cap xs)))
 (hsrc:∀w,aR β ax w->(A'=none/\news.length=0)\/∃ad,A'=some ad/\∀j u,news[j]?=some u->w.cell? (ad.add j)=some u)
 (K':∀B cap',av P β N ops (k+1) (eW fr (jw ops k) (.slice B (n+m) cap')) (ax.set i (.abs (aH e size B (n+m) cap' (xs++news)))) Q)
 (hb:n+m<=140737488355328:=by omega) (hl:news.length=m*size:=by kernel_rfl) (h1:∀u∈news,u.oneCell'=true:=by exact U3 KB)
 (bZ:∀ai,iT N ai ops fr k=some (.call ⟨.builtin .append,#[Lj N ops fr k 0,Lj N ops fr k 1],#[t,t]⟩,jw ops k):=by intro _;kernel_rfl)
 (hs:∀ai,eY N fr ai (Lj N ops fr k 0)=.slice A n cap:=by intro _;kernel_rfl) (hx:∀ai,eY N fr ai (Lj N ops fr k 1)=.slice A' m c':=by intro _;kernel_rfl)
 (ht:P.underlying t=some (.slice e):=by kernel_rfl) (rH:(P.info? e).map (λi=>(i.zero,i.size,i.bytes))=some (some (zI P e),size,bI P e):=by kernel_rfl)
 (hzs:(zI P e).cells.size=size:=by kernel_rfl) (eT:0<size:=by decide) (hb8:Nat.ble (bI P e) 1=true:=by kernel_rfl):av P β N ops k fr ax Q:=
 av.append i bZ rfl hp hs hx ht rH hzs eT hl h1 hsrc (by unfold maxLen;omega) (ag1 (Nat.mul_le_mul hb (ahr hb8)) Pd) K'
theorem sl (i:Nat) (v v':Value) (hv:v=v') (K:av P β N ops k ((i,v')::fr) ax Q) (h:∀ai,lk fr ai i=v:=by intro _;kernel_rfl):av P β N ops k fr ax Q:=av.slot i v v' h hv K
theorem sP (i:Nat) (p:Prop) [Decidable p] (ht:p->av P β N ops k ((i,.bool true)::fr) ax Q) (hf:¬p->av P β N ops k ((i,.bool false)::fr) ax Q) (h:∀ai,lk fr ai i=.bool (decide p):=by intro _;kernel_rfl):av P β N ops k fr ax Q:=av.wQ i p h ht hf
theorem sN (i:Nat) (p:Prop) [Decidable p] (ht:¬p->av P β N ops k ((i,.bool true)::fr) ax Q) (hf:p->av P β N ops k ((i,.bool false)::fr) ax Q) (h:∀ai,lk fr ai i=.bool (!decide p):=by intro _;kernel_rfl):av P β N ops k fr ax Q:=av.SN i p h ht hf
theorem cN {x y:Code} {o:Operand} (p:Prop) [Decidable p] (ht:¬p->aq P β N x fr ax Q) (hf:p->aq P β N y fr ax Q) (h:∀ai,eY N fr ai o=.bool (!decide p):=by intro _;kernel_rfl):aq P β N (.cond o x y) fr ax Q:=aq.aeA h ht hf
section turns
variable {ι:Type} {bR:ι->Prop} {μ:ι->Nat} {bU:ι->Fr} {dI:ι->List HP} {m:Nat}
theorem tJ (i:ι) (pk:List Nat) (hi:bR i) (hm:μ i<m:=by first|omega|(dsimp only;omega)) (hf:∀ai,kG fr ai (cr (bU i))=bU i:=by intro _;kernel_rfl) (hn:cD pk=true:=by rfl) (hp:cW ax pk=some (dI i):=by kernel_rfl) :
 aB β N (Exit.then (Turn β N bR μ bU dI m) Q) .normal fr ax:=aB.turn i hi hm hf hn hp
theorem mJ (i:ι) (pk:List Nat) (hi:bR i) (hf:∀ai,kG fr ai (cr (bU i))=bU i:=by intro _;kernel_rfl) (hn:cD pk=true:=by rfl) (hp:cW ax pk=some (dI i):=by kernel_rfl) :
 aB β N (Exit.then (XO β N bR bU dI) Q) .normal fr ax:=aB.meet i hi hf hn hp
theorem tB {bs:ι->Bs} (i:ι) (pk:List Nat) (hi:bR i) (hm:μ i<m:=by first|omega|(dsimp only;omega)) (hb:bs i=β:=by rfl) (hf:∀ai,kG fr ai (cr (bU i))=bU i:=by intro _;kernel_rfl) (hn:cD pk=true:=by rfl)
 (hp:cW ax pk=some (dI i):=by kernel_rfl):aB β N (Exit.then (MW N bs bR μ bU dI m) Q) .normal fr ax:=aB.aeD i hb hi hm hf hn hp
end turns
theorem lJ {ι:Type} {c:Code} (bR:ι->Prop) (μ:ι->Nat) (bU:ι->Fr) (dI:ι->List HP) (i0:ι) (pk:List Nat) (h0:bR i0) (round:∀i,bR i->aq P β N c (bU i) (dI i) (Exit.then (Turn β N bR μ bU dI (μ i)) Q))
 (hf:∀ai,kG fr ai (cr (bU i0))=bU i0:=by intro _;kernel_rfl) (hn:cD pk=true:=by rfl) (hp:cW ax pk=some (dI i0):=by kernel_rfl):aq P β N (.loop c) fr ax Q:=aq.loop bR μ bU dI i0 h0 hf hn hp round
theorem lB {ι:Type} {c:Code} (bs:ι->Bs) (bR:ι->Prop) (μ:ι->Nat) (bU:ι->Fr) (dI:ι->List HP) (i0:ι) (pk:List Nat) (h0:bR i0) (round:∀i,bR i->aq P (bs i) N c (bU i) (dI i) (Exit.then (MW N bs bR μ bU dI (μ i)) Q))
 (hb:bs i0=β:=by rfl) (hf:∀ai,kG fr ai (cr (bU i0))=bU i0:=by intro _;kernel_rfl) (hn:cD pk=true:=by rfl) (hp:cW ax pk=some (dI i0):=by kernel_rfl):aq P β N (.loop c) fr ax Q:=aq.aeC bs bR μ bU dI i0 hb h0 hf hn hp round
def zQ:List OP->List Hint
 |[]=>[]
 |p::r=>p.h.hs++zQ r
def Fy:List OP->List Prop
 |[]=>[]
 |p::r=>Fy r++p.ps
theorem Ef:∀l:List OP,oY (Fy l)
 |[]=>trivial
 |p::r=>(Ef r).app p.pf
variable {R:eH} {fn:Func} {l:List HP} {v:Value} {n0:Nat} {β':Bs}
theorem rB (v:Value) (os:List OP) (pk:List Nat) (dU:β.le β') (lg:post β' v l) (hr:∀ai,sH P β' ⟨n0,[]⟩ ai fn fr ax (zQ os)=some (v,Fy os):=by intro _;kernel_rfl) (hn:cD pk=true:=by kernel_rfl) (hp:cW ax pk=some (l++[.abs R]):=by kernel_rfl) :
 aB β' ⟨n0,[]⟩ (bodyPost P fn (Iy β R post)) .ret fr ax:=aB.afk (zQ os) pk dU hr (Ef os) hn hp lg
theorem rT {post:Value->List HP->Prop} (v:Value) (os:List OP) (pk:List Nat) (lg:post v l) (hr:∀ai,sH P β ⟨n0,[]⟩ ai fn fr ax (zQ os)=some (v,Fy os):=by intro _;kernel_rfl) (hn:cD pk=true:=by kernel_rfl) (hp:cW ax pk=some (l++[.abs R]):=by kernel_rfl) :
 aB β ⟨n0,[]⟩ (bodyPost P fn (zH β R post)) .ret fr ax:=aB.ret (zQ os) pk hr (Ef os) hn hp lg
class uM (Q:Post) (e:Exit) (Q':outParam Post) (e':outParam Exit):Prop where
 h:∀{β:Bs} {N:fY} {fr:Fr} {ax:List HP},aB β N Q' e' fr ax->aB β N Q e fr ax
instance {K:Act->World->Prop} {Q':Post} {e':Exit} [H:uM Q .ret Q' e']:uM (Exit.then K Q) .ret Q' e':=⟨λh=>aB.bD (H.h h)⟩
instance {id:Nat} {Q':Post} {e':Exit} [H:uM Q .ret Q' e']:uM (Exit.inBlock id Q) .ret Q' e':=⟨λh=>aB.fW (H.h h)⟩
instance {X:Ending->World->Prop}:uM (bodyPost P fn X) .ret (bodyPost P fn X) .ret:=⟨λh=>h⟩
instance {K:Act->World->Prop}:uM (Exit.then K Q) .normal (Exit.then K Q) .normal:=⟨λh=>h⟩
instance {id:Nat} {Q':Post} {e':Exit} [H:uM Q .normal Q' e']:uM (Exit.inBlock id Q) .normal Q' e':=⟨λh=>aB.jX (H.h h)⟩
instance {id:Nat} {Q':Post} {e':Exit} [H:uM Q .normal Q' e']:uM (Exit.inBlock id Q) (.exit id) Q' e':=⟨λh=>aB.vU (H.h h)⟩
instance {K:Act->World->Prop} {id:Nat} {Q':Post} {e':Exit} [H:uM Q (.exit id) Q' e']:uM (Exit.then K Q) (.exit id) Q' e':=⟨λh=>aB.oZ (H.h h)⟩
variable {y z:Code} {Q':Post} {id:Nat}
theorem KX [H:uM Q .normal (Exit.then (y.wp P Q') Q') .normal] (K:aq P β N y fr ax Q'):aq P β N .skip fr ax Q:=aq.skip (H.h (NX K))
theorem LX [H:uM Q .normal (Exit.then (y.wp P Q') Q') .normal] (K:aq P β N y fr ax Q') (h:ops.toList.drop k=[]:=by kernel_rfl):av P β N ops k fr ax Q:=NL (H.h (NX K)) h
theorem BX [H:uM Q .normal (Exit.then (y.wp P Q') Q') .normal] (K:aq P β N y fr ax Q'):aB β N Q .normal fr ax:=H.h (NX K)
theorem XX [H:uM Q (.exit id) (Exit.then (y.wp P Q') Q') .normal] (K:aq P β N y fr ax Q'):aq P β N (.exit id) fr ax Q:=aq.exit (H.h (NX K))
theorem SQ {f:Bool} {lq:Array Oper} {i':Nat} (h:av P β N lq 0 fr ax (Exit.then (y.wp P (Exit.then (z.wp P Q) Q)) (Exit.then (z.wp P Q) Q))) (hf:f=false:=by rfl):aq P β N (.seq (.seq (.region i' lq f) y) z) fr ax Q:=aq.seq (SR h hf)
theorem NZ {f:Bool} {lq:Array Oper} {i':Nat} (h':av P β N lq 0 fr ax (Exit.then (y.wp P (Exit.then (z.wp P Q) Q)) (Exit.then (z.wp P Q) Q))) (h:ops.toList.drop k=[]:=by kernel_rfl) (hf:f=false:=by rfl):av P β N ops k fr ax (Exit.then ((Code.seq (.seq (.region i' lq f) y) z).wp P Q) Q):=NN (SQ h' hf) h
theorem NT {o:Operand} (K:aq P β N y fr ax Q) (h':∀ai,eY N fr ai o=.bool true:=by intro _;kernel_rfl) (h:ops.toList.drop k=[]:=by kernel_rfl):av P β N ops k fr ax (Exit.then ((Code.cond o y z).wp P Q) Q):=NN (CT K h') h
theorem NF {o:Operand} (K:aq P β N z fr ax Q) (h':∀ai,eY N fr ai o=.bool false:=by intro _;kernel_rfl) (h:ops.toList.drop k=[]:=by kernel_rfl):av P β N ops k fr ax (Exit.then ((Code.cond o y z).wp P Q) Q):=NN (CF K h') h
theorem eN {post:Value->List HP->Prop} [H:uM Q .ret (bodyPost P fn (zH β R post)) .ret] (lg:post v l) (pk:List Nat:=uL (l.length+1) 0) (h:ops.toList.drop k=[]:=by kernel_rfl) (hr:∀ai,sH P β ⟨n0,[]⟩ ai fn fr ax []=some (v,[]):=by intro _;kernel_rfl) (hn:cD pk=true:=by kernel_rfl) (hp:cW ax pk=some (l++[.abs R]):=by kernel_rfl) :
 av P β ⟨n0,[]⟩ ops k fr ax (Exit.then (Code.ret.wp P Q) Q):=NN (aq.ret (H.h (RT v pk lg hr hn hp))) h
theorem eS {post:Value->List HP->Prop} [H:uM Q .ret (bodyPost P fn (zH β R post)) .ret] (os:List OP) (lg:post v l) (pk:List Nat:=uL (l.length+1) 0) (h:ops.toList.drop k=[]:=by kernel_rfl) (hr:∀ai,sH P β ⟨n0,[]⟩ ai fn fr ax (zQ os)=some (v,Fy os):=by intro _;kernel_rfl) (hn:cD pk=true:=by kernel_rfl) (hp:cW ax pk=some (l++[.abs R]):=by kernel_rfl) :
 av P β ⟨n0,[]⟩ ops k fr ax (Exit.then (Code.ret.wp P Q) Q):=NN (aq.ret (H.h (rT v os pk lg hr hn hp))) h
theorem eO [H:uM Q .ret (bodyPost P fn (Iy β R post)) .ret] (os:List OP) (dU:β.le β') (lg:post β' v l) (pk:List Nat:=uL (l.length+1) 0) (h:ops.toList.drop k=[]:=by kernel_rfl) (hr:∀ai,sH P β' ⟨n0,[]⟩ ai fn fr ax (zQ os)=some (v,Fy os):=by intro _;kernel_rfl) (hn:cD pk=true:=by kernel_rfl) (hp:cW ax pk=some (l++[.abs R]):=by kernel_rfl) :
 av P β' ⟨n0,[]⟩ ops k fr ax (Exit.then (Code.ret.wp P Q) Q):=NN (aq.ret (H.h (rB v os pk dU lg hr hn hp))) h
def Nr:List Oper->List Nat
 |[]=>[]
 |o::r=>match o.dst with
   |some d=>d::Nr r
   |none=>Nr r
theorem zR {post:Value->List HP->Prop} {lq:Array Oper} {f:Bool} {i':Nat} [H:uM Q .ret (bodyPost P fn (zH β R post)) .ret] (lg:post v l) (pk:List Nat:=uL (l.length+1) 0)
 (h:∀b ai,nI P β b false ⟨n0,[]⟩ ai lq (dM (dX lq.size [] 0)) 0 fr ax (cr (fJ P β 0 false ⟨n0,[]⟩ lq (dM (dX lq.size [] 0)) 0 fr ax (Nr lq.toList))) (uL ax.length 0)=some (0+lq.size,fJ P β 0 false ⟨n0,[]⟩ lq (dM (dX lq.size [] 0)) 0 fr ax (Nr lq.toList),ax,owed (dX lq.size [] 0)):=by intro _ _;kernel_rfl)
 (hb:uK lq lq.size 0 (cr (fJ P β 0 false ⟨n0,[]⟩ lq (dM (dX lq.size [] 0)) 0 fr ax (Nr lq.toList))) (cr fr)=true:=by kernel_rfl)
 (hd:lq.toList.drop (0+lq.size)=[]:=by kernel_rfl) (hr:∀ai,sH P β ⟨n0,[]⟩ ai fn (fK P β 0 false ⟨n0,[]⟩ lq (dM (dX lq.size [] 0)) 0 fr ax (Nr lq.toList)) ax []=some (v,[]):=by intro _;kernel_rfl)
 (hn:cD pk=true:=by kernel_rfl) (hp:cW ax pk=some (l++[.abs R]):=by kernel_rfl) (hf:f=false:=by rfl):aq P β ⟨n0,[]⟩ (.seq (.region i' lq f) .ret) fr ax Q:=
 SR (jK lq.size (Nr lq.toList) [] (eN lg pk hd hr hn hp) h hb) hf
end rules
section mix
variable {P:Program} {β:Bs} {N:fY} {ops:Array Oper} {S:List HP} {lm l':List (Bool×Nat)} {fr:Fr} {ax:List HP} {Q:Post} {i:Nat} {f:FuncId} {args:Array Value} {pre:List HP} {post:Value->List HP->Prop}
def fG (P:Program) (β:Bs) (N:fY) (ops:Array Oper) (hs:List OH) (is:List Nat) (fr:Fr) (S:List HP) (ar:List Nat):Fr:=
 match qP P β N (λ_=>undef) ops hs is fr ⟨[],S,[],true⟩ with
 |some (bU,_)=>kG bU (λ_=>undef) ar
 |none=>[]
theorem jG (n:Nat) (ar:List Nat) (os:List (Nat×OP)) (K:fN P β N ops S (l'.drop n) (fG P β N ops (dM (dX n os 0)) ((l'.take n).map Prod.snd) fr S ar) ax Q)
 (h:∀ai,uo P β N ai ops (dM (dX n os 0)) ((l'.take n).map Prod.snd) fr S ar=some (fG P β N ops (dM (dX n os 0)) ((l'.take n).map Prod.snd) fr S ar,owed (dX n os 0)):=by intro _;kernel_rfl) (hl:l'=((l'.take n).map Prod.snd).map (λi=>(true,i))++l'.drop n:=by kernel_rfl):fN P β N ops S l' fr ax Q:=
 fN.reads _ (dM (dX n os 0)) ar h (vV _) hl K
theorem kC (pk:List Nat) (ar:List Nat) (os:List (Nat×OP)) (ds:List (Nat×List (Nat×Value))) (K:fN P β N ops S lm (fK P β 0 false N (mK ops i) (dM (dX 1 os 0)) i fr ax ar) (j7 ax ds) Q) (hg:gB ops i=true:=by kernel_rfl)
 (h:∀b ai,nI P β b false N ai (mK ops i) (dM (dX 1 os 0)) i fr ax (cr (fJ P β 0 false N (mK ops i) (dM (dX 1 os 0)) i fr ax ar)) (uL (j7 ax ds).length 0)=some (i+1,fJ P β 0 false N (mK ops i) (dM (dX 1 os 0)) i fr ax ar,j7 ax ds,owed (dX 1 os 0)):=by intro _ _;kernel_rfl)
 (hb:uK (mK ops i) 1 i (cr (fJ P β 0 false N (mK ops i) (dM (dX 1 os 0)) i fr ax ar)) (cr fr)=true:=by kernel_rfl) (hd:(mK ops i).toList.drop (i+1)=[]:=by kernel_rfl) (hn:cD pk=true:=by kernel_rfl) (hp:cW (j7 ax ds) pk=some S:=by kernel_rfl):fN P β N ops S ((false,i)::lm) fr ax Q:=
 fN.cut (ι:=Unit) (bU:=λ_=>fK P β 0 false N (mK ops i) (dM (dX 1 os 0)) i fr ax ar) (dI:=λ_=>j7 ax ds) pk hg (gC 1 _ os ds (av.nil hd (Ed ())) h hb) hn (λ_=>hp) (λ_=>K)
theorem kL (pk ix:List Nat) (hs:aW P β f args pre post) (K:∀v l,post v l->fN P β N ops S lm (eW fr (jw ops i) v) (l++lN ix ax 0) Q) (hp:∀v l,post v l->cW (l++lN ix ax 0) pk=some S) (hg:gB ops i=true:=by kernel_rfl)
 (hc:∀ai,qM P β N ai (mK ops i) fr i=some (f,args,jw (mK ops i) i):=by intro _;kernel_rfl) (hd:(mK ops i).toList.drop (i+1)=[]:=by kernel_rfl) (he:jw ops i=jw (mK ops i) i:=by kernel_rfl) (hn':cD (ix++oy ix ax.length 0)=true:=by kernel_rfl) (dI:cW ax (ix++oy ix ax.length 0)=some (pre++lN ix ax 0):=by kernel_rfl) (hn:cD pk=true:=by kernel_rfl):fN P β N ops S ((false,i)::lm) fr ax Q:=
 fN.cut (ι:={x:Value×List HP // post x.1 x.2}) (bU:=λj=>eW fr (jw (mK ops i) i) j.1.1) (dI:=λj=>j.1.2++lN ix ax 0) pk hg (gL ix hs (λv l hv=>av.nil hd (Ed (bU:=λj:{x:Value×List HP // post x.1 x.2}=>eW fr (jw (mK ops i) i) j.1.1) (dI:=λj=>j.1.2++lN ix ax 0) ⟨(v,l),hv⟩)) hc hn' dI) hn (λj=>hp _ _ j.2) (λj=>by rw [←he];exact K _ _ j.2)
def Fz (l:List HP):List Nat->List HP
 |[]=>[]
 |i::r=>match l[i]? with
   |some p=>p::Fz l r
   |none=>Fz l r
variable {fl:Bool}
theorem jM {id:Nat} (o:List Nat) (pk:List Nat) (h:fN P β N ops (Fz ax pk) (tl o) fr ax Q) (hm:P.follows .mixedOrders=true:=by kernel_rfl) (hB:Ke ops (tl o)=true:=by kernel_rfl) (hn:cD pk=true:=by kernel_rfl) (hp:cW ax pk=some (Fz ax pk):=by kernel_rfl) (hf:fl=true:=by rfl):aq P β N (.region id ops fl) fr ax Q:=by
 grind [aq.SY,tl]
theorem rM {id:Nat} (perm:List Nat) (nr:Nat) (pk:List Nat) (h:ck P β N ops (Fz ax pk) nr perm fr ax Q) (hm:P.follows .mixedOrders=true:=by kernel_rfl) (hB:Eb ops perm nr=true:=by kernel_rfl) (hn:cD pk=true:=by rfl)
 (hp:cW ax pk=some (Fz ax pk):=by kernel_rfl):aq P β N (.region id ops true) fr ax Q:=aq.U0 perm nr pk hm hB hn hp h
section m
variable {lm l':List Nat} {o':Oper} {r':Nat}
def fR (P:Program) (β:Bs) (N:fY) (ops:Array Oper) (hs:List OH) (is:List Nat) (fr:Fr) (S:List HP) (ar:List Nat):Fr:=
 match Fx P β N (λ_=>undef) ops hs is fr S ar with
 |some (bU,_)=>bU
 |none=>[]
theorem jR (n:Nat) (ar:List Nat) (os:List (Nat×OP)) (K:ck P β N ops S (r'-n) (l'.drop n) (fR P β N ops (dM (dX n os 0)) (l'.take n) fr S ar) ax Q)
 (h:∀ai,Fx P β N ai ops (dM (dX n os 0)) (l'.take n) fr S ar=some (fR P β N ops (dM (dX n os 0)) (l'.take n) fr S ar,owed (dX n os 0)):=by intro _;kernel_rfl) (hr:r'=(l'.take n).length+(r'-n):=by kernel_rfl) (hl:l'=l'.take n++l'.drop n:=by kernel_rfl):ck P β N ops S r' l' fr ax Q:=
 ck.reads _ (dM (dX n os 0)) ar h (vV _) hr hl K
theorem nC (pk:List Nat) (ar:List Nat) (os:List (Nat×OP)) (ds:List (Nat×List (Nat×Value))) (K:ck P β N ops S 0 lm (fK P β 0 false N #[o'] (dM (dX 1 os 0)) 0 fr ax ar) (j7 ax ds) Q) (bZ:ops[i]?=some o':=by rfl) (hg:o'.guard=none:=by rfl)
 (h:∀b ai,nI P β b false N ai #[o'] (dM (dX 1 os 0)) 0 fr ax (cr (fJ P β 0 false N #[o'] (dM (dX 1 os 0)) 0 fr ax ar)) (uL (j7 ax ds).length 0)=some (0+1,fJ P β 0 false N #[o'] (dM (dX 1 os 0)) 0 fr ax ar,j7 ax ds,owed (dX 1 os 0)):=by intro _ _;kernel_rfl)
 (hb:uK #[o'] 1 0 (cr (fJ P β 0 false N #[o'] (dM (dX 1 os 0)) 0 fr ax ar)) (cr fr)=true:=by kernel_rfl) (hn:cD pk=true:=by kernel_rfl) (hp:cW (j7 ax ds) pk=some S:=by kernel_rfl):ck P β N ops S 0 (i::lm) fr ax Q:=mC pk _ os ds K bZ hg h hb hn hp
end m
theorem mD {k:Nat} (ix UY:List Nat) (v0:Value) (hs:aW P β f args pre post) (K:bN P β N ops (k+1) (eW fr (jw ops k) v0) ax Q) (hv:∀v l,post v l->v=v0/\l=pre:=by intro _ _ h;exact h)
 (hc:∀ai,qM P β N ai ops fr k=some (f,args,jw ops k):=by intro _;kernel_rfl) (hn:cD (ix++oy ix ax.length 0)=true:=by kernel_rfl) (hp:cW ax (ix++oy ix ax.length 0)=some (pre++lN ix ax 0):=by kernel_rfl) (hn':cD UY=true:=by kernel_rfl) (dI:cW (pre++lN ix ax 0) UY=some ax:=by kernel_rfl):bN P β N ops k fr ax Q:=
 bN.call hc hs hn hp hn' dI hv K
end mix
end
section
open Go.RowKit Go.WideShapes Go.ChangeShapes Go.ChangeAt Go.Deep
theorem laidOut:laidOutB Tryz.prog=true:=KB
theorem own:ownKnob Tryz.prog.godebug=none:=KB
section row
variable {H:Type} {enc:TypeId×Value->H} {P:Program}
theorem DS (hl:laidOutB P=true) {W W':World} (hb:Below W.heap.size W W') {sp:Nat->Bool}:∀{ts:List TypeId} {vs:List Value} {ds:List (DataW H)} {ps:List MemPlace},
 (∀t∈ts,P.readableRec t=true/\t<P.types.size)->DataW.TrodAll enc P W 0 (λ_=>true) true ts vs ds ps->(∀x∈ps,x.block<W.heap.size)->(∀x∈ps,sp x.block=true)->DataW.TrodAll enc P W' 0 sp true ts vs ds ps
 |[],vs,ds,ps,_,h,_,_=>by
   obtain⟨rfl,rfl,rfl⟩:=trodAll_nil h
   exact trodAll_mk0
 |t::ts,vs,ds,ps,hr,h,fU,hsp=>by
   obtain⟨v,vs',d,ds',p,q,rfl,rfl,rfl,h1,h2⟩:=trodAll_cons h
   have h3:=hr t ag7
   exact trodAll_cons_mk (WideElems.Trod_stays hl h3.1 h3.2 h1 (λx hx=>hb.same (fU x (ahj.2 (.inl hx)))) (λx hx=>hsp x (ahj.2 (.inl hx))))
    (DS hl hb (λt ht=>hr t (ag6 _ ht)) h2 (λx hx=>fU x (ahj.2 (.inr hx))) (λx hx=>hsp x (ahj.2 (.inr hx))))
def acM (P:Program) (f:Func):Bool:=f.params.toList.all λt=>P.readableRec t && decide (t<P.types.size)
theorem law_post (hl:laidOutB P=true) {f:Func} {s:ChangeSpec} {apart fresh handsOn again:Bool} {W W':World} {args:Array Value} {ds gs:List (DataW H)} {before:List MemPlace} {tb:TypeId} {rb:Bool}
 (hW:DataW.Whole enc P f.params.toList s.vars apart W args.toList ds gs before) (hvars:s.vars=[]) (hrow:acM P f=true) (hres:f.resultTypes=#[tb]) (hb0:P.underlying tb=some .bool)
 (hfn:(s.fn H (ds++gs)).results=[.lit (.bool rb)]) (hargs:(s.fn H (ds++gs)).args=ds) (hv:(s.fn H (ds++gs)).vars=[]) (hb:Below W.heap.size W W') :
 s.post enc P f apart fresh handsOn again W args (.bool rb) W':=by
 have hW':=hW
 obtain⟨p,q,hA,hV,rfl,_,_⟩:=hW
 rw [hvars] at hV
 obtain⟨rfl,rfl⟩:=trodVars_none hV
 have fU:∀x∈p,x.block<W.heap.size:=λx hx=>hW'.lt x (ahj.2 (.inl hx))
 have hr:∀t∈f.params.toList,P.readableRec t=true/\t<P.types.size:=λt ht=>by
  grind [acM]
 refine MH (pa:=p) (pv:=[]) hW' (λb sp hd=>?_) (λsp hsp=>?_) (λsp _=>?_) agU hb (ok_one hres rfl (okWide_bool_mk hb0 _))
 ·rw [hfn,hres]
  exact trodAll_cons_mk (shut_bool hb0 _) trodAll_mk0
 ·grind [DS]
 rw [hvars,hv]
 exact rfl
end row
end
section
open Go.RowKit
structure fD where
 name:ByteArray
 id:Int
deriving Inhabited,DecidableEq
structure aO where
 id:Int
 kind:Int
 mode:Int
 bg:Int
 bh:Int
 aU:Int
 aI:Int
 data:List UInt8
 target:ByteArray
 ah:List fD
deriving Inhabited,DecidableEq
structure eV where
 dA:Nat->Option Addr
 eA:Nat->Option Addr
 dC:Nat->Nat
 eC:Nat->Nat
def nd (ns:List aO) (i:Nat):aO:=ns.getD i default
def en (es:List fD) (i:Nat):fD:=es.getD i default
def Bb (b:UInt8):Value:=.int .u8 ((b.toNat:Nat):Int)
def dR (d:List UInt8):List Value:=d.map Bb
def GX (e:fD):List Value:=[.string e.name,.int .i64 e.id]
def iq (L:eV) (i:Nat) (n:aO):List Value:=
 [.int .i64 n.id,.int .i64 n.kind,.int .i64 n.mode,.int .i64 n.bg,.int .i64 n.bh,.int .i64 n.aU,.int .i64 n.aI,.slice (L.dA i) n.data.length (L.dC i),.string n.target,.slice (L.eA i) n.ah.length (L.eC i)]
def fq {α:Type} (f:Nat->α->List Value):Nat->List α->List Value
 |_,[]=>[]
 |k,a::r=>f k a++fq f (k+1) r
section flat
variable {α:Type} {f:Nat->α->List Value} {s:Nat}
theorem Bc (hs:∀i a,(f i a).length=s):∀(l:List α) (k:Nat),(fq f k l).length=l.length*s
 |[],_=>by simp [fq]
 |a::r,k=>by rw [fq,ag4,hs,Bc hs r,ahw,Nat.add_mul,Nat.one_mul,ah0]
theorem uN (hs:∀i a,(f i a).length=s):∀(l:List α) (k i j:Nat) (a:α),l[i]?=some a->j<s->(fq f k l)[i*s+j]?=(f (k+i) a)[j]?
 |[],k,i,j,a,h,_=>by simp at h
 |b::r,k,0,j,a,h,hj=>by
   simp at h
   subst h
   rw [fq,Nat.zero_mul,ahd,ahX (by rw [hs];exact hj)]
   rfl
 |b::r,k,i+1,j,a,h,hj=>by
   have h':r[i]?=some a:=by simpa using h
   have e:(i+1)*s+j=s+(i*s+j):=by rw [Nat.add_mul,Nat.one_mul];omega
   rw [fq,e,ahQ (by rw [hs];omega),hs,Nat.add_sub_cancel_left,uN hs r (k+1) i j a h' hj]
   have:k+1+i=k+(i+1):=zc
   rw [this]
theorem C4 (a:α):∀(l:List α) (k:Nat),fq f k (l++[a])=fq f k l++f (k+l.length) a
 |[],k=>by simp [fq]
 |b::r,k=>by
   rw [ahB,fq,fq,C4 a r (k+1),ahp,ahw]
   have:k+1+r.length=k+(r.length+1):=zc
   rw [this]
theorem Ci {g:Nat->α->List Value}:∀(l:List α) (k:Nat),(∀i a,l[i]?=some a->f (k+i) a=g (k+i) a)->fq f k l=fq g k l
 |[],_,_=>rfl
 |b::r,k,h=>by
   have h1:fq f (k+1) r=fq g (k+1) r:=Ci r (k+1) (λi a hi=>by
    have:=h (i+1) a (by simpa using hi)
    have e:k+1+i=k+(i+1):=zc
    rw [e]
    exact this)
   have h2:f k b=g k b:=h 0 b rfl
   rw [fq,fq,h1,h2]
end flat
def mT (es:List fD):List Value:=fq (λ_ e=>GX e) 0 es
def bG (L:eV) (ns:List aO):List Value:=fq (iq L) 0 ns
theorem tu (d:List UInt8):(dR d).length=d.length:=by simp [dR]
theorem Lk (es:List fD):(mT es).length=es.length*2:=Bc (s:=2) (λ_ _=>rfl) es 0
theorem nW (L:eV) (ns:List aO):(bG L ns).length=ns.length*10:=Bc (s:=10) (λ_ _=>rfl) ns 0
theorem getD_some {α:Type} {l:List α} {i:Nat} {x:α} (h:i<l.length):l[i]?=some (l.getD i x):=by
 grind
theorem pZ (d:List UInt8):∀u∈dR d,u.oneCell'=true:=by
 intro u hu
 obtain⟨b,_,rfl⟩:=ahe.1 hu
 rfl
theorem xA {α:Type} {f:Nat->α->List Value} (h:∀i a,∀u∈f i a,u.oneCell'=true):∀(l:List α) (k:Nat),∀u∈fq f k l,u.oneCell'=true
 |[],_,u,hu=>by simp [fq] at hu
 |b::r,k,u,hu=>by
   rw [fq] at hu
   rcases ahj.1 hu with hu|hu
   ·exact h k b u hu
   exact xA h r (k+1) u hu
theorem Eg (es:List fD):∀u∈mT es,u.oneCell'=true:=xA (λ_ a u hu=>by simp [GX] at hu;rcases hu with rfl|rfl<;>rfl) es 0
section at_
variable {β β':Bs} {A:Option Addr}
def bF (β:Bs) (A:Option Addr) (d:List UInt8):Prop:=cC β A (dR d)
def cU (β:Bs) (A:Option Addr) (es:List fD):Prop:=cC β A (mT es)
theorem bF.le {d:List UInt8} (h:bF β A d) (dU:β.le β'):bF β' A d:=cC.le h dU
theorem cU.le {es:List fD} (h:cU β A es) (dU:β.le β'):cU β' A es:=cC.le h dU
theorem bF.get {d:List UInt8} (h:bF β A d) {j:Nat} (hj:j<d.length):A=some ⟨bw A,br A,none⟩/\Rd β ⟨bw A,br A+j*1,none⟩ (.int .u8 (((d.getD j 0).toNat:Nat):Int)):=by
 have h1:(dR d)[j]?=some (Bb (d.getD j 0)):=by
  grind [dR,getD_some]
 have:=h j _ h1
 rw [Nat.mul_one]
 exact this
theorem bF.hd {d:List UInt8} (h:bF β A d) {j:Nat} (hj:j<d.length):A=some ⟨bw A,br A,none⟩:=(h.get hj).1
theorem bF.rd {d:List UInt8} (h:bF β A d) {j:Nat} (hj:j<d.length):Rd β ⟨bw A,br A+j*1,none⟩ (.int .u8 (((d.getD j 0).toNat:Nat):Int)):=(h.get hj).2
theorem cU.get {es:List fD} (h:cU β A es) {i:Nat} (hi:i<es.length) {j:Nat} {v:Value} (hv:(GX (en es i))[j]?=some v):A=some ⟨bw A,br A,none⟩/\Rd β ⟨bw A,br A+i*2+j,none⟩ v:=by
 have hj:j<2:=dP hv
 have h1:=uN (f:=λ_ e=>GX e) (s:=2) (λ_ _=>rfl) es 0 i j _ (getD_some (x:=default) hi) hj
 have:=h (i*2+j) v (h1.trans hv)
 rw [←ahW] at this
 exact this
theorem cU.hd {es:List fD} (h:cU β A es) {i:Nat} (hi:i<es.length):A=some ⟨bw A,br A,none⟩:=(h.get hi (j:=0) rfl).1
theorem cU.rd {es:List fD} (h:cU β A es) {i:Nat} (hi:i<es.length) {j:Nat} {v:Value} (hv:(GX (en es i))[j]?=some v):Rd β ⟨bw A,br A+i*2+j,none⟩ v:=(h.get hi hv).2
theorem cC.src {ax:List HP} {xs:List Value} (h:cC β A xs):∀w,aR β ax w->(A=none/\xs.length=0)\/∃ad,A=some ad/\∀j u,xs[j]?=some u->w.cell? (ad.add j)=some u:=by
 intro w hS
 cases hA:A with
 |none=>
   refine .inl ⟨rfl,?_⟩
   cases xs with
   |nil=>rfl
   |cons x r=>have:=(h 0 x rfl).1;rw [hA] at this;cases this
 |some a=>
   refine .inr ⟨a,rfl,λj u hj=>?_⟩
   obtain⟨h1,h2⟩:=h j u hj
   rw [hA] at h1 h2
   have e1:a=⟨bw (some a),br (some a),none⟩:=by injection h1
   have ea:a.add j=⟨bw (some a),br (some a)+j,none⟩:=by
    rw [e1]
    unfold Addr.add
    split
    ·rename_i h0;subst h0;rfl
    rfl
   rw [ea]
   exact hS.1.cell h2
end at_
structure aP (β:Bs) (A:Option Addr) (ns:List aO) (L:eV):Prop where
 row:cC β A (bG L ns)
 data:∀i,i<ns.length->bF β (L.dA i) (nd ns i).data
 ah:∀i,i<ns.length->cU β (L.eA i) (nd ns i).ah
structure oz (β:Bs) (ns:List aO) (k:Nat) (L:eV):Prop where
 data:∀i,i<k->bF β (L.dA i) (nd ns i).data
 ah:∀i,i<k->cU β (L.eA i) (nd ns i).ah
def eV.put (L:eV) (k:Nat) (dA:Option Addr) (dC:Nat) (eA:Option Addr) (eC:Nat):eV:=
 ⟨λi=>if i=k then dA else L.dA i,λi=>if i=k then eA else L.eA i,λi=>if i=k then dC else L.dC i,λi=>if i=k then eC else L.eC i⟩
section graph
variable {β β':Bs} {A:Option Addr} {ns:List aO} {L:eV}
theorem aP.le (h:aP β A ns L) (dU:β.le β'):aP β' A ns L:=⟨h.row.le dU,λi hi=>(h.data i hi).le dU,λi hi=>(h.ah i hi).le dU⟩
theorem aP.get (h:aP β A ns L) {i:Nat} (hi:i<ns.length) {j:Nat} {v:Value} (hv:(iq L i (nd ns i))[j]?=some v):A=some ⟨bw A,br A,none⟩/\Rd β ⟨bw A,br A+i*10+j,none⟩ v:=by
 have hj:j<10:=dP hv
 have h1:=uN (f:=iq L) (s:=10) (λ_ _=>rfl) ns 0 i j _ (getD_some (x:=default) hi) hj
 rw [ahd] at h1
 have:=h.row (i*10+j) v (h1.trans hv)
 rw [←ahW] at this
 exact this
theorem aP.hd (h:aP β A ns L) {i:Nat} (hi:i<ns.length):A=some ⟨bw A,br A,none⟩:=(h.get hi (j:=0) rfl).1
theorem aP.rd (h:aP β A ns L) {i:Nat} (hi:i<ns.length) {j:Nat} {v:Value} (hv:(iq L i (nd ns i))[j]?=some v):Rd β ⟨bw A,br A+i*10+j,none⟩ v:=(h.get hi hv).2
theorem oz.le {k:Nat} (h:oz β ns k L) (dU:β.le β'):oz β' ns k L:=⟨λi hi=>(h.data i hi).le dU,λi hi=>(h.ah i hi).le dU⟩
theorem oz.put {k:Nat} (h:oz β ns k L) {dA eA:Option Addr} {dC eC:Nat} (hd:bF β dA (nd ns k).data) (he:cU β eA (nd ns k).ah):oz β ns (k+1) (L.put k dA dC eA eC):=by
 refine⟨λi hi=>?_,λi hi=>?_⟩
 ·by_cases e:i=k
  ·subst e;simpa [eV.put] using hd
  simpa [eV.put,e] using h.data i zc
 by_cases e:i=k
 ·subst e;simpa [eV.put] using he
 simpa [eV.put,e] using h.ah i zc
theorem II {k:Nat} (hk:k<ns.length) (dA:Option Addr) (dC:Nat) (eA:Option Addr) (eC:Nat) :
 bG L (ns.take k)++[.int .i64 (nd ns k).id,.int .i64 (nd ns k).kind,.int .i64 (nd ns k).mode,.int .i64 (nd ns k).bg,.int .i64 (nd ns k).bh,.int .i64 (nd ns k).aU,.int .i64 (nd ns k).aI,.slice dA (nd ns k).data.length dC,.string (nd ns k).target,.slice eA (nd ns k).ah.length eC] =
  bG (L.put k dA dC eA eC) (ns.take (k+1)):=by
 have e1:ns.take (k+1)=ns.take k++[nd ns k]:=by
  rw [List.take_succ_eq_append_getElem hk]
  simp [nd,List.getD_eq_getElem?_getD,hk]
 have jv:(ns.take k).length=k:=by simp;omega
 rw [bG,bG,e1,C4,jv,ahd]
 grind [fq,iq,Ci,dP,eV.put]
theorem aP.mk' {k:Nat} (hrow:cC β A (bG L (ns.take k))) (h:oz β ns k L) (hk:ns.length<=k):aP β A ns L:=by
 rw [ahF hk] at hrow
 exact⟨hrow,λi hi=>h.data i zc,λi hi=>h.ah i zc⟩
end graph
end
section
open Go.RowKit Go.WideShapes Go.ChangeShapes Go.ChangeAt Go.Deep
abbrev B0 (W:World):Bs:=⟨(· < W.heap.size),W⟩
theorem Rj {w:World} {a:Addr} {v:Value} (h:w.cell? a=some v):a.block<w.heap.size:=by
 unfold World.cell? at h
 grind
theorem U4 {w:World} {a:Addr} {v:Value} (h:w.cell? a=some v):a.spot=none:=by
 unfold World.cell? at h
 split at h
 ·split at h
  ·cases h
  rename_i h0
  cases hs:a.spot with
  |none=>rfl
  |some x=>rw [hs] at h0;exact agY rfl h0
 cases h
theorem add_plain {a:Addr} (k:Nat) (h:a.spot=none):a.add k=⟨a.block,a.off+k,none⟩:=by
 obtain⟨b,o,s⟩:=a
 cases h
 unfold Addr.add
 split
 ·rename_i h0;subst h0;rfl
 rfl
theorem C5 {H:Type} {D:Nat->DataW H} {n i:Nat} (hi:i<n):Rows.uptoBulk (D i)<=Rows.uptoBulkAll ((List.range n).map D):=by
 have hm:D i∈(List.range n).map D:=Pe
 generalize (List.range n).map D=l at hm
 induction l with
 |nil=>cases hm
 |cons x r ih=>
   simp only [Rows.uptoBulkAll]
   grind
theorem XV {H:Type} (d:DataW H):1<=Rows.uptoBulk d:=by
 cases d with
 |lit l=>cases l<;>simp [Rows.uptoBulk]
 |nil=>simp [Rows.uptoBulk]
 |ptr d=>simp [Rows.uptoBulk]
 |slice elems spare=>simp [Rows.uptoBulk]
 |agg parts=>simp [Rows.uptoBulk]
 |iface t d=>simp [Rows.uptoBulk]
 |map entries=>simp [Rows.uptoBulk]
 |held h=>simp [Rows.uptoBulk]
theorem vW {H:Type} (l:List (DataW H)):l.length<=Rows.uptoBulkAll l:=by
 induction l with
 |nil=>simp [Rows.uptoBulkAll]
 |cons x r ih=>have:=XV x;simp only [Rows.uptoBulkAll,ahw];omega
theorem bulk_mem {H:Type} {d:DataW H} {l:List (DataW H)} (h:d∈l):Rows.uptoBulk d<=Rows.uptoBulkAll l:=by
 induction l with
 |nil=>cases h
 |cons x r ih=>
   simp only [Rows.uptoBulkAll]
   grind
section open_
variable {H:Type} {enc:TypeId×Value->H} {P:Program} {W:World} {sp:Nat->Bool}
theorem uq {α:Type} [Inhabited α] {t e:TypeId} {size:Nat} {f:α->List Value} {Q:α->DataW H->Prop} (ht:P.underlying t=some (.slice e)) (hC:P.cellsOf e=size) (h0:0<size)
 (hel:∀n cs x,DataW.trod enc P W 0 sp true n e cs=some x->∃a,cs=f a/\Q a x.1) (hf:∀a,(f a).length=size)
 {fuel:Nat} {cs:List Value} {x:DataW H×List MemPlace} (h:DataW.trod enc P W 0 sp true fuel t cs=some x) :
 ∃A c,∃xs:List α,∃D:Nat->DataW H,cs=[.slice A xs.length c]/\xs.length<=c/\c<=maxLen/\cC (B0 W) A (fq (λ_ a=>f a) 0 xs)/\(∀i,i<xs.length->Q (xs.getD i default) (D i)) ∧
   Rows.uptoBulkAll ((List.range xs.length).map D)+1<=Rows.uptoBulk x.1:=by
 rcases open_slice ht h with ⟨hv,hx⟩|⟨a,len,cap,m,n,D,Pl,hcs,hb,hl,hm,hmm,hx,hi⟩
 ·subst hv
  refine⟨none,0,[],λ_=>.nil,rfl,ag5 _,ag0 _,λj v hj=>by simp [fq] at hj,λi hi=>agY hi (ag2 i),?_⟩
  rw [hx]
  simp [Rows.uptoBulk,Rows.uptoBulkAll]
 have hlm:len<=m:=by rw [hmm];split<;>omega
 have hch:∀i,∃b:α,i<len->(W.cells? 0 (a.add (i*P.cellsOf e)) (P.cellsOf e)=some (f b)/\Q b (D i)):=λi=>by
  by_cases hil:i<len
  ·obtain⟨cs',h1,h2⟩:=hi i zc
   grind
  exact⟨default,λh=>agY h hil⟩
 have hg:=λi=>Classical.choose_spec (hch i)
 generalize hG:(λi=>Classical.choose (hch i))=g at hg
 have hg:∀i,i<len->W.cells? 0 (a.add (i*P.cellsOf e)) (P.cellsOf e)=some (f (g i))/\Q (g i) (D i):=λi hi=>by
  grind
 have jv:((List.range len).map g).length=len:=agU
 have hget:∀i,i<len->((List.range len).map g)[i]?=some (g i):=λi hi=>by simp [hi]
 have agm:∀i,i<len->((List.range len).map g).getD i default=g i:=Pe
 have hs1:0<len->a.spot=none:=λhl0=>by
  obtain⟨h2,-⟩:=hg 0 hl0
  rw [hC] at h2
  obtain⟨_,hcl,hat⟩:=World.cells?_some h2
  have h3:=hat 0 h0
  rw [ag9 (by rw [hcl];exact h0)] at h3
  have e:(a.add (0*size)).add 0=a:=by rw [Nat.zero_mul];rfl
  rw [e] at h3
  exact U4 h3
 refine⟨some a,cap,(List.range len).map g,D,by rw [jv];exact hcs,by rw [jv];exact hl,hm,λj v hj=>?_,λi hi'=>?_,?_⟩
 ·have hfl:=Bc (f:=λ_ a=>f a) (s:=size) (λ_ a=>hf a) ((List.range len).map g) 0
  have hjl:=dP hj
  rw [hfl,jv] at hjl
  have uJ:j / size<len:=(Nat.div_lt_iff_lt_mul h0).2 hjl
  have hj2:j % size<size:=Nat.mod_lt _ h0
  have e:=Nat.div_add_mod j size
  rw [Nat.mul_comm] at e
  have h1:=uN (f:=λ_ a=>f a) (s:=size) (λ_ a=>hf a) _ 0 _ (j % size) _ (hget _ uJ) hj2
  rw [e,hj] at h1
  obtain⟨h2,-⟩:=hg _ uJ
  rw [hC] at h2
  obtain⟨_,_,hat⟩:=World.cells?_some h2
  have h3:=hat _ hj2
  rw [←h1] at h3
  have hs1:=hs1 (Nat.lt_of_le_of_lt (ag0 _) uJ)
  rw [add_plain _ hs1] at h3
  rw [add_plain (a:=⟨a.block,a.off+j / size*size,none⟩) _ rfl] at h3
  have e2:a.off+j / size*size+j % size=a.off+j:=zc
  have h4:W.cell? ⟨a.block,a.off+j,none⟩=some v:=by rw [←e2];exact h3
  have ea:(some a:Option Addr)=some ⟨bw (some a),br (some a),none⟩:=by
   obtain⟨b,o,s⟩:=a
   cases hs1
   rfl
  exact⟨ea,Rj h4,h4⟩
 ·grind
 rw [hx,jv]
 simp only [Rows.uptoBulk]
 omega
theorem Rk {t:TypeId} {n:Nat} {cs:List Value} {x:DataW H×List MemPlace} (ht:P.underlying t=some (.int .u8)) (h:DataW.trod enc P W 0 sp true n t cs=some x):∃b:UInt8,cs=[Bb b]/\True:=by
 obtain⟨z,h1,_,h3⟩:=DataW.trod_int ht h
 have h4:0<=z/\z<=255:=by simpa [Lit.wf,IntKind.min,IntKind.max,IntKind.signed,IntKind.bits] using h3
 refine⟨UInt8.ofNat z.toNat,?_,trivial⟩
 have e:(((UInt8.ofNat z.toNat).toNat:Nat):Int)=z:=by
  rw [UInt8.toNat_ofNat']
  omega
 rw [Bb,e]
 exact h1
def xB (z:Int):Prop:=-9223372036854775808<=z/\z<=9223372036854775807
theorem nQ {t:TypeId} {n:Nat} {c:Value} {x:DataW H×List MemPlace} (ht:P.underlying t=some (.int .i64)) (h:DataW.trod enc P W 0 sp true n t [c]=some x):∃z,c=.int .i64 z/\xB z:=by
 obtain⟨z,h1,_,h3⟩:=DataW.trod_int ht h
 cases h1
 exact⟨z,rfl,by unfold xB;simpa [Lit.wf,IntKind.min,IntKind.max,IntKind.signed,IntKind.bits] using h3⟩
theorem ur {t:TypeId} {n:Nat} {c:Value} {x:DataW H×List MemPlace} (ht:P.underlying t=some .string) (h:DataW.trod enc P W 0 sp true n t [c]=some x):∃s:ByteArray,c=.string s/\s.size+1<=Rows.uptoBulk x.1:=by
 obtain⟨s,h1,h2,_⟩:=DataW.trod_string ht h
 cases h1
 refine⟨s,rfl,?_⟩
 rw [h2]
 simp only [Rows.uptoBulk,Array.length_toList]
 exact ag5 _
end open_
section graph
variable {H:Type} {enc:TypeId×Value->H} {W:World} {sp:Nat->Bool}
theorem IJ:∀(d:List UInt8) (k:Nat),fq (λ_ b=>[Bb b]) k d=dR d
 |[],_=>rfl
 |b::r,k=>by rw [fq,IJ r (k+1)];rfl
theorem IK {n:Nat} {c:Value} {x:DataW H×List MemPlace} (h:DataW.trod enc Tryz.prog W 0 sp true n 51 [c]=some x) :
 ∃A cp,∃d:List UInt8,c=.slice A d.length cp/\bF (B0 W) A d/\d.length+1<=Rows.uptoBulk x.1:=by
 obtain⟨A,cp,xs,D,h1,_,_,h2,_,h3⟩:=uq (α:=UInt8) (f:=λb=>[Bb b]) (Q:=λ_ _=>True) Tryz.underlying51 (size:=1) KB Pd (λn cs x h=>Rk Tryz.underlying5 h) (λ_=>rfl) h
 cases h1
 have:=vW ((List.range xs.length).map D)
 refine⟨A,cp,xs,rfl,?_,by simp at this;omega⟩
 rw [IJ] at h2
 exact h2
structure SZ (e:fD) (b:Nat):Prop where
 id:xB e.id
 name:e.name.size+1<=b
theorem cK {n:Nat} {cs:List Value} {xs:List (DataW H×List MemPlace)} {i:Nat} {t:TypeId} (h:DataW.trod enc Tryz.prog W 0 sp true n t cs=xs[i]?) (hi:i<xs.length):DataW.trod enc Tryz.prog W 0 sp true n t cs=some xs[i]/\Rows.uptoBulk (xs[i]).1<=Rows.uptoBulk (.agg (xs.map (·.1))):=by
 refine⟨h.trans (ag9 hi),?_⟩
 have hm:(xs[i]).1∈xs.map (·.1):=Pe
 have:=bulk_mem hm
 simp only [Rows.uptoBulk]
 omega
theorem XW {n:Nat} {cs:List Value} {x:DataW H×List MemPlace} (h:DataW.trod enc Tryz.prog W 0 sp true n 149 cs=some x):∃e:fD,cs=GX e/\SZ e (Rows.uptoBulk x.1):=by
 obtain⟨ys,m,_,hx,hl,vK,hf⟩:=DataW.trod_struct Tryz.underlying149 h
 have hC:Tryz.prog.cellsOf 149=2:=KB
 rw [hC] at hl
 match cs,hl with
 |[c0,c1],_=>
   obtain⟨h0,b0⟩:=cK (hf 0 _ rfl) (by rw [vK];decide)
   obtain⟨h1,_⟩:=cK (hf 1 _ rfl) (by rw [vK];decide)
   obtain⟨s,rfl,hs⟩:=ur Tryz.underlying9 h0
   obtain⟨z,rfl,hz⟩:=nQ Tryz.underlying3 h1
   exact⟨⟨s,z⟩,rfl,⟨hz,by rw [hx];exact ag1 hs b0⟩⟩
theorem U5 {n:Nat} {c:Value} {x:DataW H×List MemPlace} (h:DataW.trod enc Tryz.prog W 0 sp true n 93 [c]=some x) :
 ∃A cp,∃es:List fD,c=.slice A es.length cp/\cU (B0 W) A es/\es.length+1<=Rows.uptoBulk x.1/\∀i,i<es.length->SZ (en es i) (Rows.uptoBulk x.1):=by
 obtain⟨A,cp,xs,D,h1,_,_,h2,h4,h3⟩:=uq (α:=fD) (f:=GX) (Q:=λe d=>SZ e (Rows.uptoBulk d)) Tryz.underlying93 (size:=2) KB Pd (λn cs x h=>XW h) (λ_=>rfl) h
 cases h1
 have h5:=vW ((List.range xs.length).map D)
 refine⟨A,cp,xs,rfl,h2,by simp at h5;omega,λi hi=>⟨(h4 i hi).id,?_⟩⟩
 have h6:=(h4 i hi).name
 have h7:=C5 (D:=D) hi
 unfold en
 omega
structure aaF (nd:aO) (b:Nat):Prop where
 ids:xB nd.id/\xB nd.kind/\xB nd.mode/\xB nd.bg/\xB nd.bh/\xB nd.aU/\xB nd.aI
 data:nd.data.length+1<=b
 target:nd.target.size+1<=b
 ah:nd.ah.length+1<=b
 bS:∀i,i<nd.ah.length->SZ (en nd.ah i) b
structure IL where
 n:aO
 dA:Option Addr
 dC:Nat
 eA:Option Addr
 eC:Nat
deriving Inhabited
def nlV (a:IL):List Value:=[.int .i64 a.n.id,.int .i64 a.n.kind,.int .i64 a.n.mode,.int .i64 a.n.bg,.int .i64 a.n.bh,.int .i64 a.n.aU,.int .i64 a.n.aI,.slice a.dA a.n.data.length a.dC,.string a.n.target,.slice a.eA a.n.ah.length a.eC]
structure aaG (W:World) (a:IL) (b:Nat):Prop where
 nb:aaF a.n b
 data:bF (B0 W) a.dA a.n.data
 ah:cU (B0 W) a.eA a.n.ah
theorem U6 {n:Nat} {cs:List Value} {x:DataW H×List MemPlace} (h:DataW.trod enc Tryz.prog W 0 sp true n 95 cs=some x):∃a:IL,cs=nlV a/\aaG W a (Rows.uptoBulk x.1):=by
 obtain⟨ys,m,_,hx,hl,vK,hf⟩:=DataW.trod_struct Tryz.underlying95 h
 have hC:Tryz.prog.cellsOf 95=10:=KB
 rw [hC] at hl
 match cs,hl with
 |[c0,c1,c2,c3,c4,c5,c6,c7,c8,c9],_=>
   obtain⟨h0,_⟩:=cK (hf 0 _ rfl) (by rw [vK];decide)
   obtain⟨h1,_⟩:=cK (hf 1 _ rfl) (by rw [vK];decide)
   obtain⟨h2,_⟩:=cK (hf 2 _ rfl) (by rw [vK];decide)
   obtain⟨h3,_⟩:=cK (hf 3 _ rfl) (by rw [vK];decide)
   obtain⟨h4,_⟩:=cK (hf 4 _ rfl) (by rw [vK];decide)
   obtain⟨h5,_⟩:=cK (hf 5 _ rfl) (by rw [vK];decide)
   obtain⟨h6,b6⟩:=cK (hf 6 _ rfl) (by rw [vK];decide)
   obtain⟨h7,b7⟩:=cK (hf 7 _ rfl) (by rw [vK];decide)
   obtain⟨h8,b8⟩:=cK (hf 8 _ rfl) (by rw [vK];decide)
   obtain⟨z0,rfl,w0⟩:=nQ Tryz.underlying3 h0
   obtain⟨z1,rfl,w1⟩:=nQ Tryz.underlying3 h1
   obtain⟨z2,rfl,w2⟩:=nQ Tryz.underlying3 h2
   obtain⟨z3,rfl,w3⟩:=nQ Tryz.underlying3 h3
   obtain⟨z4,rfl,w4⟩:=nQ Tryz.underlying3 h4
   obtain⟨us,_,_,_,_,xC,hu⟩:=DataW.trod_struct Tryz.underlying26 h5
   obtain⟨g0,_⟩:=cK (hu 0 _ rfl) (by rw [xC];decide)
   obtain⟨g1,_⟩:=cK (hu 1 _ rfl) (by rw [xC];decide)
   obtain⟨z5,rfl,w5⟩:=nQ (c:=c5) Tryz.underlying3 g0
   obtain⟨z6,rfl,w6⟩:=nQ (c:=c6) Tryz.underlying3 g1
   obtain⟨A7,p7,d7,rfl,q7,l7⟩:=IK (c:=c7) h6
   obtain⟨s8,rfl,l8⟩:=ur (c:=c8) Tryz.underlying9 h7
   obtain⟨A9,p9,e9,rfl,q9,l9,k9⟩:=U5 (c:=c9) h8
   rw [hx]
   exact⟨⟨⟨z0,z1,z2,z3,z4,z5,z6,d7,s8,e9⟩,A7,p7,A9,p9⟩,rfl,⟨⟨w0,w1,w2,w3,w4,w5,w6⟩,ag1 l7 b6,ag1 l8 b7,ag1 l9 b8,λi hi=>⟨(k9 i hi).id,ag1 (k9 i hi).name b8⟩⟩,q7,q9⟩
structure jZ (ns:List aO) (b:Nat):Prop where
 len:ns.length+1<=b
 node:∀i,i<ns.length->aaF (nd ns i) b
theorem IQ (L:eV):∀(xs:List IL) (k:Nat),(∀i,i<xs.length->L.dA (k+i)=(xs.getD i default).dA/\L.dC (k+i)=(xs.getD i default).dC/\L.eA (k+i)=(xs.getD i default).eA/\L.eC (k+i)=(xs.getD i default).eC)->fq (λ_ a=>nlV a) k xs=fq (iq L) k (xs.map (·.n))
 |[],_,_=>rfl
 |a::r,k,h=>by
   obtain⟨h1,h2,h3,h4⟩:=h 0 agU
   simp only [Nat.add_zero,List.getD_cons_zero] at h1 h2 h3 h4
   rw [fq,ahs,fq,IQ L r (k+1) (λi hi=>by
    have:=h (i+1) (by simp;omega)
    rw [List.getD_cons_succ] at this
    have e:k+(i+1)=k+1+i:=zc
    rw [e] at this
    exact this)]
   rw [iq,h1,h2,h3,h4]
   rfl
theorem S5 {n:Nat} {c:Value} {x:DataW H×List MemPlace} (h:DataW.trod enc Tryz.prog W 0 sp true n 22 [c]=some x) :
 ∃A cp,∃ns:List aO,∃L:eV,c=.slice A ns.length cp/\aP (B0 W) A ns L/\jZ ns (Rows.uptoBulk x.1):=by
 obtain⟨A,cp,xs,D,h1,_,_,h2,h4,h3⟩:=uq (α:=IL) (f:=nlV) (Q:=λa d=>aaG W a (Rows.uptoBulk d)) Tryz.underlying22 (size:=10) KB Pd (λn cs x h=>U6 h) (λ_=>rfl) h
 cases h1
 have h5:=vW ((List.range xs.length).map D)
 have e:(xs.map (·.n)).length=xs.length:=agU
 have hnd:∀i,i<xs.length->nd (xs.map (·.n)) i=(xs.getD i default).n:=λi hi=>by
  simp [nd,List.getD_eq_getElem?_getD,hi]
 refine⟨A,cp,xs.map (·.n),⟨λi=>(xs.getD i default).dA,λi=>(xs.getD i default).eA,λi=>(xs.getD i default).dC,λi=>(xs.getD i default).eC⟩,by rw [e],⟨?_,λi hi=>?_,λi hi=>?_⟩,by simp at h5;rw [e];omega,λi hi=>?_⟩
 ·rw [IQ ⟨λi=>(xs.getD i default).dA,λi=>(xs.getD i default).eA,λi=>(xs.getD i default).dC,λi=>(xs.getD i default).eC⟩ xs 0 (λi _=>Pe)] at h2
  exact h2
 ·rw [e] at hi
  rw [hnd i hi]
  exact (h4 i hi).data
 ·rw [e] at hi
  rw [hnd i hi]
  exact (h4 i hi).ah
 rw [e] at hi
 rw [hnd i hi]
 have h7:=C5 (D:=D) hi
 have h8:=(h4 i hi).nb
 exact⟨h8.ids,by have:=h8.data;omega,by have:=h8.target;omega,by have:=h8.ah;omega,λj hj=>⟨(h8.bS j hj).id,by have:=(h8.bS j hj).name;omega⟩⟩
end graph
end
section
theorem GY {α:Type} {x:α} {a b:List α} (hl:a.length=b.length) (h:∀j,j<a.length->a.getD j x=b.getD j x):a=b:=by
 apply List.ext_getElem hl
 grind
theorem abE {a b:UInt8} (h:((a.toNat:Nat):Int)=((b.toNat:Nat):Int)):a=b:=ahz.1 zc
theorem aeH {a b:fD} (h:a.name=b.name/\a.id=b.id):a=b:=by cases a;cases b;simp_all
theorem acN {n m:aO} (h1:n.id=m.id) (h2:n.kind=m.kind) (h3:n.mode=m.mode) (h4:n.bg=m.bg) (h5:n.bh=m.bh) (h6:n.aU=m.aU/\n.aI=m.aI) (h7:n.target=m.target) (h8:n.data=m.data) (h9:n.ah=m.ah):n=m:=by
 cases n;cases m;simp_all
end
section
open Go.RowKit
theorem Qo {w:World} {o:Oper} {ev:Operand->Value} {x y:Operand} {a b c d:Int} (ho:o.op=.binOp .neq 26 x y 26) (hx:ev x=.agg #[.int .i64 a,.int .i64 b]) (hy:ev y=.agg #[.int .i64 c,.int .i64 d]) :
 sG Tryz.prog ev o w (.bool (!decide (a=c/\b=d))) w:=by
 obtain⟨dst,op,type,pos,after,guard⟩:=o
 cases ho
 refine .inl ?_
 simp only [execOp,hx,hy]
 simp [go_sem]
 grind
theorem S6 {w:World} {o:Oper} {ev:Operand->Value} {x y:Operand} {a c:ByteArray} {b d:Int} (ho:o.op=.binOp .neq 149 x y 149) (hx:ev x=.agg #[.string a,.int .i64 b]) (hy:ev y=.agg #[.string c,.int .i64 d]) :
 sG Tryz.prog ev o w (.bool (!decide (a=c/\b=d))) w:=by
 obtain⟨dst,op,type,pos,after,guard⟩:=o
 cases ho
 refine .inl ?_
 simp only [execOp,hx,hy]
 simp [go_sem,D7]
 grind
end
section
open Go.RowKit
attribute [local irreducible] av bN aq aB
theorem Eh {β:Bs} (A1 A2:Option Addr) (c1 c2:Nat) (d1 d2:List UInt8) (hA1:bF β A1 d1) (hA2:bF β A2 d2) (hl:d1.length<=140737488355328) :
 aW Tryz.prog β 38 #[.slice A1 d1.length c1,.slice A2 d2.length c2] [] (λv l=>v=.bool (decide (d1=d2))/\l=[]):=by
 refine SE Tryz.func38 Tryz.ntmps38 (λR=>SR (jK 1 [] [] (NZ (jK 5 [10] [] (NN (cN ((((d1.length:Nat):Int):Int)=(((d2.length:Nat):Int):Int)) (λh10=>zR ⟨by rw [agZ (λe=>h10 (by rw [e]))],rfl⟩) (λh10=>KX (SQ (jK 1 [5] [] (NN (aq.block (lJ (λ(i:Nat)=>(i<=d1.length)/\(∀j,j<i->d1.getD j 0=d2.getD j 0)) (λ(i:Nat)=>d1.length-i) (λ(i:Nat)=>[(0,.slice A1 (d1.length) (c1)),(1,.slice A2 (d2.length) (c2)),(5,vI ↑i)]) (λ(i:Nat)=>[.abs R]) 0 [0] (⟨ag0 _,λj hj=>agY hj (ag2 j)⟩) ?_))))))))))))
 rintro i ⟨hi,jP⟩
 exact SQ (jK 4 [14] [] (NN (cP ((((i:Nat):Int):Int)<(((d1.length:Nat):Int):Int)) (λmw=>KX (aq.seq (aq.block (aq.seq (rQ (jQ 9 [25] [(2,x_ i d1.length (bF.hd hA1 (j:=i) zc)),(3,p_ ⟨[.old (.int .u8 ((((List.getD d1 i 0).toNat:Nat):Int)))],none,none,none,none⟩ [(Rd β ⟨(bw A1),br A1+i*1,none⟩ (.int .u8 ((((List.getD d1 i 0).toNat:Nat):Int))))] ⟨bF.rd hA1 zc,trivial⟩),(6,x_ i d2.length (bF.hd hA2 (j:=i) zc)),(7,p_ ⟨[.old (.int .u8 ((((List.getD d2 i 0).toNat:Nat):Int)))],none,none,none,none⟩ [(Rd β ⟨(bw A2),br A2+i*1,none⟩ (.int .u8 ((((List.getD d2 i 0).toNat:Nat):Int))))] ⟨bF.rd hA2 zc,trivial⟩)] (NQ (NX (cN (((((List.getD d1 i 0).toNat:Nat):Int):Int)=((((List.getD d2 i 0).toNat:Nat):Int):Int)) (λpR=>zR ⟨by rw [agZ (λe=>pR (by rw [e]))],rfl⟩) (λpR=>KX (aq.region (jK 3 [5] [(1,wJ ((i:Int)+1) (↑(i+1)))] (NL (tJ ((i+1)) [0] (⟨zc,λj hj=>by grind [abE]⟩))))))))))))))) (λmw=>XX (zR ⟨by rw [ahh (GY (x:=0) zc (λj hj=>jP j zc))],rfl⟩)))))
theorem Ns {β:Bs} (A:Option Addr) (c:Nat) (d:List UInt8) (hA:bF β A d) (hl:d.length<=1048576) :
 cE Tryz.prog β 25 #[.slice A d.length c] [] (λβ' v l=>∃B cap,v=.slice B d.length cap/\l=[]/\bF β' B d):=by
 refine oI Tryz.func25 Tryz.ntmps25 (λaE R=>SR (jK 1 [] [] (NS (jB 2 [3] (λb1=>.aD b1 [] 5) (λb1=>NS (av.mem (λw hS=>hS.ou (i:=1) (b:=b1) (cs:=[]) (e:=5) 1 0 KB rfl Pd) (jK 2 [5,6] [] (Ri 1 51 A d.length c (dR d) rfl (hA.src) (λA2 c3=>av.cL 1 rfl (by rw [ahd,List.nil_append]) (sl 7 (.slice A2 (0+d.length) (c3)) (.slice A2 (d.length) (c3)) (by rw [ahd]) (jK 1 [3] [] (NS (av.mQ (Φ:=λβ'=>bF β' A2 d) 1 [0] (fe:=[.abs R]) rfl rfl KB (λF w h β' h1 h2=>cC.iH h h1 h2) (λβ1 cG hB=>?_)))))) (hl:=by rw [tu,Nat.mul_one]) (h1:=pZ d)))))))))
 replace hA:=hA.le cG
 replace aE:=aE.trans cG
 exact jK 2 [2] [] (eO [] aE ⟨A2,c3,rfl,rfl,hB⟩)
theorem Qp {β:Bs} (n:aO) (dA eA:Option Addr) (dC eC:Nat) (hD:bF β dA n.data) (hE:cU β eA n.ah) (hl1:n.data.length<=1048576) (hl2:n.ah.length<=1048576) :
 cE Tryz.prog β 47 #[.agg #[vI (n.id),vI (n.kind),vI (n.mode),vI (n.bg),vI (n.bh),vI (n.aU),vI (n.aI),.slice dA (n.data.length) (dC),.string n.target,.slice eA (n.ah.length) (eC)]] [] (λβ' v l=>∃dB cd eB ce,v=.agg #[vI (n.id),vI (n.kind),vI (n.mode),vI (n.bg),vI (n.bh),vI (n.aU),vI (n.aI),.slice dB (n.data.length) (cd),.string n.target,.slice eB (n.ah.length) (ce)]/\l=[]/\bF β' dB n.data/\cU β' eB n.ah):=by
 refine oI Tryz.func47 Tryz.ntmps47 (λaE R=>SR (jB 1 [1] (λb4=>.aD b4 [vI (n.id),vI (n.kind),vI (n.mode),vI (n.bg),vI (n.bh),vI (n.aU),vI (n.aI),.slice dA (n.data.length) (dC),.string n.target,.slice eA (n.ah.length) (eC)] 95) (λb4=>jB 1 [2] (λb5=>.aD b5 [vI 0,vI 0,vI 0,vI 0,vI 0,vI 0,vI 0,.slice none (0) (0),.string ⟨#[]⟩,.slice none (0) (0)] 95) (λb5=>NS (jK 2 [5] [(1,a_ 1 b4)] (av.SV (args:=#[.slice dA (n.data.length) (dC)]) (d:=(some 6)) (pre:=[]) (R:=[.abs R,.aD b4 [vI (n.id),vI (n.kind),vI (n.mode),vI (n.bg),vI (n.bh),vI (n.aU),vI (n.aI),.slice dA (n.data.length) (dC),.string n.target,.slice eA (n.ah.length) (eC)] 95,.aD b5 [vI 0,vI 0,vI 0,vI 0,vI 0,vI 0,vI 0,.slice none (0) (0),.string ⟨#[]⟩,.slice none (0) (0)] 95]) (pk:=[0,1,2]) (λ_=>KB) (Ns dA dC n.data hD hl1) rfl KB ?_))))))
 rintro β1 _ _ cG ⟨B6,c7,rfl,rfl,Cx⟩
 replace hD:=hD.le cG
 replace hE:=hE.le cG
 replace aE:=aE.trans cG
 refine jC 2 [] [(1,a_ 1 b4)] [(1,[(7,.slice B6 (n.data.length) (c7))])] (NS (jB 2 [3] (λb8=>.aD b8 [] 149) (λb8=>NS (av.mem (λw hS=>hS.ou (i:=3) (b:=b8) (cs:=[]) (e:=149) 2 0 KB rfl Pd) (jK 3 [9,11] [(2,a_ 1 b4)] (mR 3 93 eA n.ah.length eC (mT n.ah) rfl (hE.src) (λA9 c10=>av.cL 3 rfl (by rw [ahd,List.nil_append]) (sl 12 (.slice A9 (0+n.ah.length) (c10)) (.slice A9 (n.ah.length) (c10)) (by rw [ahd]) (jK 1 [3] [] (NS (av.mQ (Φ:=λβ'=>cU β' A9 n.ah) 3 [0,1,2] (fe:=[.abs R,.aD b4 [vI (n.id),vI (n.kind),vI (n.mode),vI (n.bg),vI (n.bh),vI (n.aU),vI (n.aI),.slice B6 (n.data.length) (c7),.string n.target,.slice eA (n.ah.length) (eC)] 95,.aD b5 [vI 0,vI 0,vI 0,vI 0,vI 0,vI 0,vI 0,.slice none (0) (0),.string ⟨#[]⟩,.slice none (0) (0)] 95]) rfl rfl KB (λF w h β' h1 h2=>cC.iH h h1 h2) (λnV fw hE1=>?_)))))) (hl:=by rw [Lk]) (h1:=Eg n.ah)))))))
 replace hD:=hD.le fw
 replace hE:=hE.le fw
 replace Cx:=Cx.le fw
 replace aE:=aE.trans fw
 exact jC 3 [] [(2,a_ 1 b4)] [(1,[(9,.slice A9 (n.ah.length) (c10))])] (NS (jC 2 [] [(0,A_ 1 b4 10),(1,A_ 2 b5 10)] [(2,[(0,vI (n.id)),(1,vI (n.kind)),(2,vI (n.mode)),(3,vI (n.bg)),(4,vI (n.bh)),(5,vI (n.aU)),(6,vI (n.aI)),(7,.slice B6 (n.data.length) (c7)),(8,.string n.target),(9,.slice A9 (n.ah.length) (c10))])] (eO [A_ 2 b5 10] aE ⟨B6,c7,A9,c10,rfl,rfl,Cx,hE1⟩)))
theorem Nt {β:Bs} (A:Option Addr) (c:Nat) (ns:List aO) (L:eV) (hG:aP β A ns L) (hl:ns.length<=1048576) (hd:∀i,i<ns.length->(nd ns i).data.length<=1048576/\(nd ns i).ah.length<=1048576) :
 cE Tryz.prog β 19 #[.agg #[.slice A ns.length c]] [] (λβ' v l=>∃B cap L',v=.agg #[.slice B ns.length cap]/\l=[]/\aP β' B ns L'):=by
 refine oI Tryz.func19 Tryz.ntmps19 (λaE R=>SR (jB 1 [1] (λb11=>.aD b11 [.slice A (ns.length) (c)] 24) (λb11=>jB 1 [2] (λb12=>.aD b12 [.slice none (0) (0)] 24) (λb12=>NS (jB 2 [3] (λb13=>.aD b13 [] 95) (λb13=>NZ (av.mem (λw hS=>hS.ou (i:=3) (b:=b13) (cs:=[]) (e:=95) 10 0 KB rfl Pd) (jK 1 [4] [] (NN (aq.block (lB (λ(k,b,Ao,cp,L')=>b) (λ(k,b,Ao,cp,L')=>(k<=ns.length)/\(β.le b)/\(aP b A ns L)/\(oz b ns k L')) (λ(k,b,Ao,cp,L')=>ns.length-k) (λ(k,b,Ao,cp,L')=>[(1,vP b11),(2,vP b12),(3,.slice Ao (k) (cp)),(4,vI ↑k)]) (λ(k,b,Ao,cp,L')=>[.aD b11 [.slice A (ns.length) (c)] 24,.aD b12 [.slice none (0) (0)] 24,.abs (aH 95 10 Ao k cp (bG L' (ns.take k))),.abs R]) (0,β,some ⟨b13,0,none⟩,0,⟨λ_=>none,λ_=>none,λ_=>0,λ_=>0⟩) [1,2,3,0] (⟨ag0 _,aE,hG,⟨λi hi=>agY hi (ag2 _),λi hi=>agY hi (ag2 _)⟩⟩) ?_)))))))))))
 rintro⟨k,b,Ao,cp,L'⟩ ⟨hk,aE,hG,hI⟩
 refine SQ (jK 5 [10] [(2,a_ 0 b11)] (NN (cP ((((k:Nat):Int):Int)<(((ns.length:Nat):Int):Int)) (λh10=>?_) (λh10=>?_))))
 ·refine KX (aq.seq (aq.block (aq.region (jK 6 [13,18] [(2,a_ 0 b11),(4,x_ k ns.length (aP.hd hG (i:=k) zc)),(5,DR (iq L k (nd ns k)) (λ_ _ h=>aP.rd hG zc h))] (av.SV (args:=#[.agg ⟨iq L k (nd ns k)⟩]) (d:=(some 19)) (pre:=[]) (R:=[.aD b11 [.slice A (ns.length) (c)] 24,.aD b12 [.slice none (0) (0)] 24,.abs (aH 95 10 Ao k cp (bG L' (ns.take k))),.abs R]) (pk:=[0,1,2,3]) (λ_=>KB) (Qp (nd ns k) (L.dA k) (L.eA k) (L.dC k) (L.eC k) (hG.data k zc) (hG.ah k zc) (hd k zc).1 (hd k zc).2) rfl KB ?_)))))
  rintro S7 _ _ sR ⟨XY,XZ,X3,X4,rfl,rfl,hdB,heB⟩
  replace hG:=hG.le sR
  replace hI:=hI.le sR
  replace aE:=aE.trans sR
  exact jB 1 [20] (λb19=>.aD b19 [vI ((nd ns k).id),vI ((nd ns k).kind),vI ((nd ns k).mode),vI ((nd ns k).bg),vI ((nd ns k).bh),vI ((nd ns k).aU),vI ((nd ns k).aI),.slice XY ((nd ns k).data.length) (XZ),.string (nd ns k).target,.slice X3 ((nd ns k).ah.length) (X4)] 95) (λb19=>mR 2 22 (some ⟨b19,0,none⟩) 1 1 [vI ((nd ns k).id),vI ((nd ns k).kind),vI ((nd ns k).mode),vI ((nd ns k).bg),vI ((nd ns k).bh),vI ((nd ns k).aU),vI ((nd ns k).aI),.slice XY ((nd ns k).data.length) (XZ),.string (nd ns k).target,.slice X3 ((nd ns k).ah.length) (X4)] rfl (fP (j:=4) rfl) (λog oh=>av.cL 2 rfl (by rw [II zc]) (jK 1 [3] [] (LX (aq.region (jK 3 [4] [(1,wJ ((k:Int)+1) (↑(k+1)))] (NL (tB ((k+1),S7,og,oh,(L'.put k XY XZ X3 X4)) [0,1,2,3] (⟨zc,aE,hG,hI.put hdB heB⟩)))))))))
 refine XX (SR (av.mQ (Φ:=λβ'=>cC β' Ao (bG L' (ns.take k))) 2 [0,1,3] (fe:=[.aD b11 [.slice A (ns.length) (c)] 24,.aD b12 [.slice none (0) (0)] 24,.abs R]) rfl rfl KB (λF w h β' h1 h2=>cC.iH h h1 h2) (λβz Kf hR=>?_)))
 replace hG:=hG.le Kf
 replace hI:=hI.le Kf
 replace aE:=aE.trans Kf
 exact sl 3 (.slice Ao (k) (cp)) (.slice Ao (ns.length) (cp)) (by rw [show k=ns.length by omega]) (jC 3 [] [(2,a_ 1 b12)] [(1,[(0,.slice Ao (ns.length) (cp))])] (eO [a_ 1 b12] aE ⟨Ao,cp,L',rfl,rfl,aP.mk' hR hI zc⟩ [2]))
theorem Qq {β:Bs} (n m:aO) (dA eA dB eB:Option Addr) (dC eC dD eD:Nat) (hD:bF β dA n.data) (hE:cU β eA n.ah) (Bd:bF β dB m.data) (xD:cU β eB m.ah) (hl1:n.data.length<=140737488355328) (hl2:n.ah.length<=1048576) :
 aW Tryz.prog β 58 #[.agg #[vI (n.id),vI (n.kind),vI (n.mode),vI (n.bg),vI (n.bh),vI (n.aU),vI (n.aI),.slice dA (n.data.length) (dC),.string n.target,.slice eA (n.ah.length) (eC)],.agg #[vI (m.id),vI (m.kind),vI (m.mode),vI (m.bg),vI (m.bh),vI (m.aU),vI (m.aI),.slice dB (m.data.length) (dD),.string m.target,.slice eB (m.ah.length) (eD)]] [] (λv l=>v=.bool (decide (n=m))/\l=[]):=by
 refine SE Tryz.func58 Tryz.ntmps58 (λR=>SR (jB 1 [2] (λzS=>.aD zS [vI (n.id),vI (n.kind),vI (n.mode),vI (n.bg),vI (n.bh),vI (n.aU),vI (n.aI),.slice dA (n.data.length) (dC),.string n.target,.slice eA (n.ah.length) (eC)] 95) (λzS=>jB 2 [3] (λvu=>.aD vu [vI (m.id),vI (m.kind),vI (m.mode),vI (m.bg),vI (m.bh),vI (m.aU),vI (m.aI),.slice dB (m.data.length) (dD),.string m.target,.slice eB (m.ah.length) (eD)] 95) (λvu=>NZ (jK 6 [11] [(1,a_ 1 zS),(3,a_ 2 vu)] (sN 11 ((n.id:Int)=(m.id:Int)) (λh11=>jK 58 [69] [] (NT (zR ⟨by rw [agZ (λe=>h11 Pe)],rfl⟩))) (λh11=>jK 7 [18] [(1,a_ 1 zS),(3,a_ 2 vu)] (sN 18 ((n.kind:Int)=(m.kind:Int)) (λpU=>jK 51 [69] [] (NT (zR ⟨by rw [agZ (λe=>pU Pe)],rfl⟩))) (λpU=>jK 7 [25] [(1,a_ 1 zS),(3,a_ 2 vu)] (sN 25 ((n.mode:Int)=(m.mode:Int)) (λpR=>jK 44 [69] [] (NT (zR ⟨by rw [agZ (λe=>pR Pe)],rfl⟩))) (λpR=>jK 7 [32] [(1,a_ 1 zS),(3,a_ 2 vu)] (sN 32 ((n.bg:Int)=(m.bg:Int)) (λr8=>jK 37 [69] [] (NT (zR ⟨by rw [agZ (λe=>r8 Pe)],rfl⟩))) (λr8=>jK 7 [39] [(1,a_ 1 zS),(3,a_ 2 vu)] (sN 39 ((n.bh:Int)=(m.bh:Int)) (λnh=>jK 30 [69] [] (NT (zR ⟨by rw [agZ (λe=>nh Pe)],rfl⟩))) (λnh=>jK 4 [41,43] [(1,A_ 1 zS 2),(3,A_ 2 vu 2)] (av.nP (d:=(some 44)) (op:=.binOp .neq 26 (.tmp 41) (.tmp 43) 26) (v:=.bool (!(decide ((n.aU:Int)=(m.aU:Int)/\(n.aI:Int)=(m.aI:Int))))) (λ_=>KB) (λo ai w ho hS=>⟨w,Qo ho KB KB,hS⟩) (jK 2 [46] [] (sN 46 ((n.aU:Int)=(m.aU:Int)/\(n.aI:Int)=(m.aI:Int)) (λh46=>jK 23 [69] [] (NT (zR ⟨by rw [agZ (λe=>h46 Pe)],rfl⟩))) (λh46=>jK 7 [53] [(1,a_ 1 zS),(3,a_ 2 vu),(4,w_ (.bool (!(decide ((n.target:ByteArray)=m.target)))) (Ir _ _))] (sN 53 ((n.target:ByteArray)=m.target) (λLl=>jK 16 [69] [] (NT (zR ⟨by rw [agZ (λe=>Ll Pe)],rfl⟩))) (λLl=>jK 9 [62] [(1,a_ 1 zS),(4,a_ 2 vu)] (sN 62 ((((n.ah.length:Nat):Int):Int)=(((m.ah.length:Nat):Int):Int)) (λGh=>jK 7 [69] [] (NT (zR ⟨by rw [agZ (λe=>Gh Pe)],rfl⟩))) (λGh=>jK 4 [64,66] [(1,a_ 1 zS),(3,a_ 2 vu)] (gE [] (Eh dA dB dC dD n.data m.data hD Bd hl1) (jK 2 [69] [] (NN (cN (n.data=m.data) (λh69=>zR ⟨by rw [agZ (λe=>h69 Pe)],rfl⟩) (λh69=>KX (SQ (jK 1 [5] [] (NN (aq.block (lJ (λ(i:Nat)=>(i<=n.ah.length)/\(∀j,j<i->n.ah.getD j default=m.ah.getD j default)) (λ(i:Nat)=>n.ah.length-i) (λ(i:Nat)=>[(2,vP zS),(3,vP vu),(5,vI ↑i)]) (λ(i:Nat)=>[.abs R,.aD zS [vI (n.id),vI (n.kind),vI (n.mode),vI (n.bg),vI (n.bh),vI (n.aU),vI (n.aI),.slice dA (n.data.length) (dC),.string n.target,.slice eA (n.ah.length) (eC)] 95,.aD vu [vI (m.id),vI (m.kind),vI (m.mode),vI (m.bg),vI (m.bh),vI (m.aU),vI (m.aI),.slice dB (m.data.length) (dD),.string m.target,.slice eB (m.ah.length) (eD)] 95]) 0 [0,1,2] (⟨ag0 _,λj hj=>agY hj (ag2 j)⟩) ?_)))))))))))))))))))))))))))))))))
 rintro i ⟨hi,jP⟩
 exact SQ (jK 5 [74] [(2,a_ 1 zS)] (NN (cP ((((i:Nat):Int):Int)<(((n.ah.length:Nat):Int):Int)) (λGi=>KX (aq.seq (aq.block (aq.seq (rQ (jQ 10 [81,86] [(1,a_ 1 zS),(3,x_ i n.ah.length (cU.hd hE (i:=i) zc)),(4,r2 (cU.rd hE (i:=i) zc (j:=0) rfl) (cU.rd hE (i:=i) zc (j:=1) rfl)),(6,a_ 2 vu),(8,x_ i m.ah.length (cU.hd xD (i:=i) zc)),(9,r2 (cU.rd xD (i:=i) zc (j:=0) rfl) (cU.rd xD (i:=i) zc (j:=1) rfl))] (bN.nP (d:=(some 87)) (op:=.binOp .neq 149 (.tmp 81) (.tmp 86) 149) (v:=.bool (!(decide ((en n.ah i).name=(en m.ah i).name/\((en n.ah i).id:Int)=((en m.ah i).id:Int))))) (λ_=>KB) (λo ai w ho _=>S6 ho KB KB) (NQ (NX (cN ((en n.ah i).name=(en m.ah i).name/\((en n.ah i).id:Int)=((en m.ah i).id:Int)) (λh87=>zR ⟨by rw [agZ (λe=>h87 Pe)],rfl⟩) (λh87=>KX (aq.region (jK 3 [5] [(1,wJ ((i:Int)+1) (↑(i+1)))] (NL (tJ ((i+1)) [0,1,2] (⟨zc,λj hj=>by rcases ag3.1 hj with h|h;exact jP j h;subst h;exact aeH h87⟩)))))))))))))))) (λGi=>XX (zR ⟨by rw [ahh (acN zc zc zc zc zc (by assumption) (by assumption) (by assumption) (GY (x:=default) zc (λj hj=>jP j zc)))],rfl⟩)))))
theorem Nu {β:Bs} (A B:Option Addr) (c c':Nat) (ns ms:List aO) (L K:eV) (hG:aP β A ns L) (hH:aP β B ms K) (hl:ns.length<=1048576) (hd:∀i,i<ns.length->(nd ns i).data.length<=140737488355328/\(nd ns i).ah.length<=1048576) :
 aW Tryz.prog β 39 #[.agg #[.slice A ns.length c],.agg #[.slice B ms.length c']] [] (λv l=>v=.bool (decide (ns=ms))/\l=[]):=by
 refine SE Tryz.func39 Tryz.ntmps39 (λR=>SR (jB 1 [2] (λEi=>.aD Ei [.slice A (ns.length) (c)] 24) (λEi=>jB 2 [3] (λRl=>.aD Rl [.slice B (ms.length) (c')] 24) (λRl=>NZ (jK 7 [12] [(1,a_ 1 Ei),(4,a_ 2 Rl)] (NN (cN ((((ns.length:Nat):Int):Int)=(((ms.length:Nat):Int):Int)) (λh12=>zR ⟨by rw [agZ (λe=>h12 (by rw [e]))],rfl⟩) (λh12=>KX (SQ (jK 1 [5] [] (NN (aq.block (lJ (λ(i:Nat)=>(i<=ns.length)/\(∀j,j<i->ns.getD j default=ms.getD j default)) (λ(i:Nat)=>ns.length-i) (λ(i:Nat)=>[(2,vP Ei),(3,vP Rl),(5,vI ↑i)]) (λ(i:Nat)=>[.abs R,.aD Ei [.slice A (ns.length) (c)] 24,.aD Rl [.slice B (ms.length) (c')] 24]) 0 [0,1,2] (⟨ag0 _,λj hj=>agY hj (ag2 j)⟩) ?_)))))))))))))
 rintro i ⟨hi,jP⟩
 exact SQ (jK 5 [17] [(2,a_ 1 Ei)] (NN (cP ((((i:Nat):Int):Int)<(((ns.length:Nat):Int):Int)) (λEj=>KX (aq.seq (aq.block (aq.seq (rQ (jQ 10 [24,29] [(1,a_ 1 Ei),(3,x_ i ns.length (aP.hd hG (i:=i) zc)),(4,DR (iq L i (nd ns i)) (λ_ _ h=>aP.rd hG zc h)),(6,a_ 2 Rl),(8,x_ i ms.length (aP.hd hH (i:=i) zc)),(9,DR (iq K i (nd ms i)) (λ_ _ h=>aP.rd hH zc h))] (mD [] [0,1,2] (.bool (decide (nd ns i=nd ms i))) (Qq (nd ns i) (nd ms i) (L.dA i) (L.eA i) (K.dA i) (K.eA i) (L.dC i) (L.eC i) (K.dC i) (K.eC i) (hG.data i zc) (hG.ah i zc) (hH.data i zc) (hH.ah i zc) (hd i zc).1 (hd i zc).2) (jQ 1 [31] [] (NQ (NX (cN (nd ns i=nd ms i) (λU7=>zR ⟨by rw [agZ (λe=>U7 (by rw [e]))],rfl⟩) (λU7=>KX (aq.region (jK 3 [5] [(1,wJ ((i:Int)+1) (↑(i+1)))] (NL (tJ ((i+1)) [0,1,2] (⟨zc,λj hj=>by rcases ag3.1 hj with h|h;exact jP j h;subst h;exact U7⟩))))))))))))))))) (λEj=>XX (zR ⟨by rw [ahh (GY (x:=default) zc (λj hj=>jP j zc))],rfl⟩)))))
end
end Go.Proofs.YtbnfiigafobejaaGreat
section
namespace Go.Proofs
open Go.Shelf
def Tryz.lays119_ren:Go.Shelf.Ren:=⟨fun|119=>163|n=>n,fun|21=>21|4=>4|n=>n,fun|n=>n⟩
theorem Tryz.lays119:Go.Proofs.Lays.n119 Tryz.prog Tryz.lays119_ren:={
 mixed:=by kernel_rfl
 f119:=Tryz.func163.trans (congrArg some (by kernel_rfl))
 t4:=Tryz.underlying4
 a4:=Tryz.isAgg4
 z4:=Tryz.sizeOf4
 v4:=Tryz.zeroValue4
 t21:=Tryz.underlying21
 a21:=Tryz.isAgg21
 z21:=Tryz.sizeOf21
 v21:=Tryz.zeroValue21}
theorem Tryz.utf8_ValidRune (r:Int) (w:World) :
 Calls Tryz.prog 163 #[.int .i32 r] w λe w'=>e=.returned (.bool (Lib.validRune r))/\w'=w:=Any.utf8_ValidRune Tryz.lays119 r w
def Tryz.lays137_ren:Go.Shelf.Ren:=⟨fun|137=>142|217=>154|266=>158|n=>n,fun|9=>9|5=>5|3=>3|n=>n,fun|n=>n⟩
theorem Tryz.lays137:Go.Proofs.Lays.n137 Tryz.prog Tryz.lays137_ren:={
 mixed:=by kernel_rfl
 f137:=Tryz.func142.trans (congrArg some (by kernel_rfl))
 f217:=Tryz.func154.trans (congrArg some (by kernel_rfl))
 f266:=Tryz.func158.trans (congrArg some (by kernel_rfl))
 t3:=Tryz.underlying3
 a3:=Tryz.isAgg3
 z3:=Tryz.sizeOf3
 v3:=Tryz.zeroValue3
 t5:=Tryz.underlying5
 a5:=Tryz.isAgg5
 z5:=Tryz.sizeOf5
 v5:=Tryz.zeroValue5
 t9:=Tryz.underlying9
 a9:=Tryz.isAgg9
 z9:=Tryz.sizeOf9
 v9:=Tryz.zeroValue9}
open Go.RowKit in
theorem Tryz.strings_IndexByte (s:ByteArray) (c:Int) (w:World) :
 Calls Tryz.prog 142 #[.string s,.int .u8 c] w λe w'=>e=.returned (.int .i64 (Lib.indexByte s.data.toList c.toNat.toUInt8))/\w'=w:=Any.strings_IndexByte Tryz.lays137 s c w
def Tryz.lays189_ren:Go.Shelf.Ren:=⟨fun|189=>92|125=>112|257=>111|128=>131|129=>132|294=>122|295=>123|296=>124|297=>125|298=>126|299=>127|216=>128|300=>129|301=>130|328=>144|329=>145|330=>146|331=>147|332=>148|215=>149|343=>156|n=>n,fun|28=>41|3=>3|46=>199|0=>0|51=>214|53=>216|4=>4|183=>208|182=>207|131=>205|5=>5|9=>9|218=>224|222=>228|228=>233|229=>234|n=>n,fun|n=>n⟩
def Tryz.lays190_ren:Go.Shelf.Ren:=⟨fun|190=>95|125=>112|258=>114|128=>131|129=>132|302=>133|303=>134|304=>135|305=>136|306=>137|307=>138|308=>139|309=>140|310=>141|333=>150|329=>145|330=>146|334=>151|335=>152|336=>153|344=>157|n=>n,fun|31=>157|9=>9|3=>3|46=>199|0=>0|51=>214|53=>216|4=>4|183=>208|182=>207|131=>205|5=>5|218=>224|222=>228|228=>233|229=>234|n=>n,fun|n=>n⟩
def Tryz.lays152_ren:Go.Shelf.Ren:=⟨fun|152=>159|137=>142|119=>163|224=>164|225=>165|217=>154|266=>158|n=>n,fun|9=>9|21=>21|3=>3|4=>4|5=>5|0=>0|46=>199|n=>n,fun|n=>n⟩
theorem Tryz.lays152:Go.Proofs.Lays.n152 Tryz.prog Tryz.lays152_ren:={
 mixed:=by kernel_rfl
 f119:=Tryz.func163.trans (congrArg some (by kernel_rfl))
 f137:=Tryz.func142.trans (congrArg some (by kernel_rfl))
 f152:=Tryz.func159.trans (congrArg some (by kernel_rfl))
 f217:=Tryz.func154.trans (congrArg some (by kernel_rfl))
 f224:=Tryz.func164.trans (congrArg some (by kernel_rfl))
 f225:=Tryz.func165.trans (congrArg some (by kernel_rfl))
 f266:=Tryz.func158.trans (congrArg some (by kernel_rfl))
 t0:=Tryz.underlying0
 a0:=Tryz.isAgg0
 z0:=Tryz.sizeOf0
 v0:=Tryz.zeroValue0
 t3:=Tryz.underlying3
 a3:=Tryz.isAgg3
 z3:=Tryz.sizeOf3
 v3:=Tryz.zeroValue3
 t4:=Tryz.underlying4
 a4:=Tryz.isAgg4
 z4:=Tryz.sizeOf4
 v4:=Tryz.zeroValue4
 t5:=Tryz.underlying5
 a5:=Tryz.isAgg5
 z5:=Tryz.sizeOf5
 v5:=Tryz.zeroValue5
 t9:=Tryz.underlying9
 a9:=Tryz.isAgg9
 z9:=Tryz.sizeOf9
 v9:=Tryz.zeroValue9
 t21:=Tryz.underlying21
 a21:=Tryz.isAgg21
 z21:=Tryz.sizeOf21
 v21:=Tryz.zeroValue21
 t46:=Tryz.underlying199
 a46:=Tryz.isAgg199
 z46:=Tryz.sizeOf199
 v46:=Tryz.zeroValue199}
open Go.RowKit Go.Lib in
theorem Tryz.strings_IndexRune_ascii (s:ByteArray) (r:Int) (w:World) (h0:0<=r) (h1:r<128) :
 Calls Tryz.prog 159 #[.string s,.int .i32 r] w λe w'=>e=.returned (.int .i64 (Lib.indexByte s.data.toList r.toNat.toUInt8))/\w'=w:=Any.strings_IndexRune_ascii Tryz.lays152 s r w h0 h1
def Tryz.lays226_ren:Go.Shelf.Ren:=⟨fun|226=>160|n=>n,fun|3=>3|4=>4|n=>n,fun|n=>n⟩
theorem Tryz.lays226:Go.Proofs.Lays.n226 Tryz.prog Tryz.lays226_ren:={
 mixed:=by kernel_rfl
 f226:=Tryz.func160.trans (congrArg some (by kernel_rfl))
 t3:=Tryz.underlying3
 a3:=Tryz.isAgg3
 z3:=Tryz.sizeOf3
 v3:=Tryz.zeroValue3
 t4:=Tryz.underlying4
 a4:=Tryz.isAgg4
 z4:=Tryz.sizeOf4
 v4:=Tryz.zeroValue4}
open Go.RowKit Go.Lib in
theorem Tryz.strings_shouldUseASCIISet (n:Int) (w:World) :
 Calls Tryz.prog 160 #[.int .i64 n] w λe w'=>e=.returned (.bool (decide (8<n)))/\w'=w:=Any.strings_shouldUseASCIISet Tryz.lays226 n w
def Tryz.lays153_ren:Go.Shelf.Ren:=⟨fun|153=>155|152=>159|226=>160|227=>161|228=>162|137=>142|119=>163|224=>164|225=>165|217=>154|266=>158|n=>n,fun|9=>9|3=>3|4=>4|5=>5|21=>21|117=>240|116=>239|0=>0|46=>199|124=>244|n=>n,fun|n=>n⟩
theorem Tryz.lays153:Go.Proofs.Lays.n153 Tryz.prog Tryz.lays153_ren:={
 mixed:=by kernel_rfl
 f119:=Tryz.func163.trans (congrArg some (by kernel_rfl))
 f137:=Tryz.func142.trans (congrArg some (by kernel_rfl))
 f152:=Tryz.func159.trans (congrArg some (by kernel_rfl))
 f153:=Tryz.func155.trans (congrArg some (by kernel_rfl))
 f217:=Tryz.func154.trans (congrArg some (by kernel_rfl))
 f224:=Tryz.func164.trans (congrArg some (by kernel_rfl))
 f225:=Tryz.func165.trans (congrArg some (by kernel_rfl))
 f226:=Tryz.func160.trans (congrArg some (by kernel_rfl))
 f227:=Tryz.func161.trans (congrArg some (by kernel_rfl))
 f228:=Tryz.func162.trans (congrArg some (by kernel_rfl))
 f266:=Tryz.func158.trans (congrArg some (by kernel_rfl))
 t0:=Tryz.underlying0
 a0:=Tryz.isAgg0
 z0:=Tryz.sizeOf0
 v0:=Tryz.zeroValue0
 t3:=Tryz.underlying3
 a3:=Tryz.isAgg3
 z3:=Tryz.sizeOf3
 v3:=Tryz.zeroValue3
 t4:=Tryz.underlying4
 a4:=Tryz.isAgg4
 z4:=Tryz.sizeOf4
 v4:=Tryz.zeroValue4
 t5:=Tryz.underlying5
 a5:=Tryz.isAgg5
 z5:=Tryz.sizeOf5
 v5:=Tryz.zeroValue5
 t9:=Tryz.underlying9
 a9:=Tryz.isAgg9
 z9:=Tryz.sizeOf9
 v9:=Tryz.zeroValue9
 t21:=Tryz.underlying21
 a21:=Tryz.isAgg21
 z21:=Tryz.sizeOf21
 v21:=Tryz.zeroValue21
 t46:=Tryz.underlying199
 a46:=Tryz.isAgg199
 z46:=Tryz.sizeOf199
 v46:=Tryz.zeroValue199
 t116:=Tryz.underlying239
 a116:=Tryz.isAgg239
 z116:=Tryz.sizeOf239
 t117:=Tryz.underlying240
 a117:=Tryz.isAgg240
 z117:=Tryz.sizeOf240
 v117:=Tryz.zeroValue240
 t124:=Tryz.underlying244
 a124:=Tryz.isAgg244
 z124:=Tryz.sizeOf244
 v124:=Tryz.zeroValue244}
open Go.RowKit Go.Lib in
theorem Tryz.strings_IndexAny_long (hv116:∀w,(zeroValue 239).run Tryz.prog w=.ok (.agg (Array.replicate 256 (.bool false))) w) (s chars:ByteArray) (w:World) (h2:2<=chars.size) (h8:8<s.size) (hs:s.size<4294967281) (hcs:chars.size<4294967281) (hascii:∀(j:Nat) b,chars.data.toList[j]?=some b->b.toNat<128) :
 Calls Tryz.prog 155 #[.string s,.string chars] w λe w'=>e=.returned (.int .i64 (Lib.indexAny s.data.toList chars.data.toList))/\w'=((w.alloc (.cells (Lib.setCells chars.data.toList) 239)).alloc (.cells (Lib.setCells chars.data.toList) 239)):=Any.strings_IndexAny_long Tryz.lays153 hv116 (by kernel_rfl) s chars w h2 h8 hs hcs hascii
end Go.Proofs
end
namespace Go.Proofs.YtbnfiigafobejaaGreat
section
open Go.RowKit
def Within (a b c:Int):Prop:=b<=a/\a<=c
instance (a b c:Int):Decidable (Within a b c):=inferInstanceAs (Decidable (_/\_))
def fZ (s n:Int):Prop:=0<=n/\n<1000000000/\-1099511627777<=s/\s<=1099511627776/\(s = -1099511627777->0<n)
noncomputable instance (a b:Int):Decidable (fZ a b):=Classical.propDecidable _
def dL (s:ByteArray) (j:Nat):Nat:=(s.data.getD j 0).toNat
def qJ (s:ByteArray):Prop:=∀j,j<s.size->¬dL s j=0
noncomputable instance (s:ByteArray):Decidable (qJ s):=Classical.propDecidable _
def cq (s:ByteArray):Prop:=1<=s.size/\s.size<=255/\¬s=⟨#[46]⟩/\¬s=⟨#[46,46]⟩/\∀j,j<s.size->¬dL s j=0/\¬dL s j=47
noncomputable instance (s:ByteArray):Decidable (cq s):=Classical.propDecidable _
def dG (k:Int) (t:ByteArray):Prop:=(¬k=3/\t=⟨#[]⟩)\/(k=3/\1<=t.size/\t.size<=4096/\qJ t)
noncomputable instance (k:Int) (s:ByteArray):Decidable (dG k s):=Classical.propDecidable _
structure r9 (n:aO):Prop where
 kind:1<=n.kind/\n.kind<=3
 mode:0<=n.mode/\n.mode<=4095
 bg:0<=n.bg/\n.bg<=2147483647
 bh:0<=n.bh/\n.bh<=2147483647
 time:fZ n.aU n.aI
 data:¬n.kind=1->n.data.length=0
 ah:¬n.kind=2->n.ah.length=0
 target:dG n.kind n.target
noncomputable instance (n:aO):Decidable (r9 n):=Classical.propDecidable _
theorem dx {n:aO}:r9 n↔(1<=n.kind/\n.kind<=3)/\(0<=n.mode/\n.mode<=4095)/\(0<=n.bg/\n.bg<=2147483647)/\(0<=n.bh/\n.bh<=2147483647)/\fZ n.aU n.aI/\(¬n.kind=1->n.data.length=0)/\(¬n.kind=2->n.ah.length=0)/\dG n.kind n.target:=
 ⟨λh=>⟨h.1,h.2,h.3,h.4,h.5,h.6,h.7,h.8⟩,λ⟨a,b,c,d,e,f,g,h⟩=>⟨a,b,c,d,e,f,g,h⟩⟩
theorem dG.sym {k:Int} {t:ByteArray} (h:dG k t) (hk:k=3):1<=t.size/\t.size<=4096/\qJ t:=h.elim (λh=>agY hk h.1) (λh=>h.2)
def dH (ns:List aO):Prop:=∀i j,i<j->j<ns.length->(nd ns i).id<(nd ns j).id
def gI (ns:List aO) (id:Int):Int:=
 match ns.findIdx? (λn=>n.id == id) with
 |some k=>(k:Int)
 |none=>-1
theorem C6 {ns:List aO} {id:Int} (h:∀j,j<ns.length->¬(nd ns j).id=id):gI ns id = -1:=by
 unfold gI
 have:ns.findIdx? (λn=>n.id == id)=none:=by
  rw [List.findIdx?_eq_none_iff]
  intro n hn
  obtain⟨j,hj,rfl⟩:=ahG hn
  grind [nd]
 rw [this]
theorem GZ {ns:List aO} {id:Int} {k:Nat} (hr:dH ns) (hk:k<ns.length) (he:(nd ns k).id=id):gI ns id=(k:Int):=by
 unfold gI
 have hg:∀j (hj:j<ns.length),nd ns j=ns[j]:=λj hj=>by
  grind [nd]
 have:ns.findIdx? (λn=>n.id == id)=some k:=by
  rw [ahE]
  grind [dH,nd,gI]
 rw [this]
theorem dH.le {ns:List aO} (hr:dH ns) {i j:Nat} (hi:i<=j) (hj:j<ns.length):(nd ns i).id<=(nd ns j).id:=by
 rcases Nat.lt_or_ge i j with h|h
 all_goals grind [dH,nd]
theorem tv {s:ByteArray}:s.size=0↔s=⟨#[]⟩:=by
 constructor
 ·intro h
  obtain⟨⟨l⟩⟩:=s
  have h:l.length=0:=h
  rw [List.length_eq_zero_iff.1 h]
 rintro rfl
 rfl
theorem Ek {p q:Prop} [Decidable p] [Decidable q] (h:¬p↔q):(!decide p)=decide q:=by
 grind
theorem El {s:ByteArray} {j:Nat} {b:UInt8} (h:s.data.toList[j]?=some b):j<s.size/\dL s j=b.toNat:=by
 have h1:=dP h
 rw [Array.length_toList] at h1
 refine⟨h1,?_⟩
 unfold dL
 have:s.data[j]?=some b:=by simpa using h
 rw [Array.getD_eq_getD_getElem?,this]
 rfl
theorem wS {s:ByteArray} {j:Nat} (h:j<s.size):s.data.toList[j]?=some (s.data.getD j 0):=by
 have h1:j<s.data.size:=h
 rw [Array.getD_eq_getD_getElem?,Array.getElem?_eq_getElem h1]
 simp
theorem Nv {s:ByteArray}:Lib.indexByte s.data.toList (0:Int).toNat.toUInt8<0↔qJ s:=by
 constructor
 ·intro h j hj e
  have h1:=Lib.indexByte_ge s.data.toList (0:Int).toNat.toUInt8
  refine Lib.indexByte_none (by omega:Lib.indexByte s.data.toList (0:Int).toNat.toUInt8 = -1) j ?_
  rw [wS hj]
  have:s.data.getD j 0=0:=ahz.1 e
  rw [this]
  rfl
 intro h
 refine Decidable.byContradiction (λh1=>?_)
 obtain⟨o,ho⟩:=Int.eq_ofNat_of_zero_le (Int.not_lt.1 h1)
 obtain⟨h2,h3⟩:=El (Lib.indexByte_some ho).1
 exact agY h3 (h o h2)
end
section
open Go.RowKit Go.Maps
theorem iU:Keyed Tryz.prog 3:=int_keyed Tryz.underlying3
theorem vX {z:Int} (lo:-9223372036854775808<=z) (hi:z<=9223372036854775807):keyOf Tryz.prog 3 (.int .i64 z)=some (.int .i64 z):=
 keyOf_int_mk Tryz.underlying3 (WalkArith.wf_i64 zc)
def mf (g:Int->Option Value):Lit->Option Value
 |.int .i64 h=>g h
 |_=>none
theorem Nw (g:Int->Option Value) (h:Int) (v:Option Value):qd (mf g) (.int .i64 h) v=mf (λz=>if z=h then v else g z):=by
 funext x
 unfold qd mf
 cases x with
 |int k n=>
   by_cases hk:k=.i64
   ·subst hk
    by_cases e:n=h
    ·simp [Lit.sameKey,e]
    simp [Lit.sameKey,e]
   have e:(Lit.int k n).sameKey (.int .i64 h)=false:=by simp [Lit.sameKey,hk]
   grind
 |_=>rfl
theorem Kg:mf (λ_=>none)=λ_=>none:=by
 funext x
 unfold mf
 split<;>rfl
def up (ps:List (Int×Int)) (z:Int):Option Int:=ps.lookup z
def pf (ps:List (Int×Int)) (z:Int):Option Value:=(up ps z).map (Value.int .i64)
theorem abF {ps:List (Int×Int)} {z:Int} {u:Value} (h:mf (pf ps) (.int .i64 z)=some u):∃y,up ps z=some y/\u=.int .i64 y:=by
 have h:(up ps z).map (Value.int .i64)=some u:=h
 cases hu:up ps z with
 |none=>rw [hu] at h;cases h
 |some y=>rw [hu] at h;cases h;exact⟨y,rfl,rfl⟩
theorem abG {ps:List (Int×Int)} {a b:Int}:mf (λz=>if z=a then some (.int .i64 b) else pf ps z)=mf (pf ((a,b)::ps)):=by
 congr 1
 grind [pf,up]
def ol (ps:List (Int×Int)):Nat->Int->Prop
 |0,z=>up ps z=none
 |k+1,z=>∃y,up ps z=some y/\ol ps k y
def Ends (ps:List (Int×Int)) (z:Int):Prop:=∃k,ol ps k z
theorem ol.uniq {ps:List (Int×Int)}:∀{k j:Nat} {z:Int},ol ps k z->ol ps j z->k=j
 |0,0,_,_,_=>rfl
 |0,j+1,z,h,h'=>by
   obtain⟨y,hy,_⟩:=h'
   have h:up ps z=none:=h
   rw [h] at hy
   cases hy
 |k+1,0,z,h',h=>by
   obtain⟨y,hy,_⟩:=h'
   have h:up ps z=none:=h
   rw [h] at hy
   cases hy
 |k+1,j+1,z,⟨y,hy,h⟩,⟨y',hy',h'⟩=>by
   rw [hy] at hy'
   cases hy'
   rw [ol.uniq h h']
theorem Lm {ps:List (Int×Int)} {z x:Int} (h:¬x=z):up (ps.filter (λp=>!(p.1 == z))) x=up ps x:=by
 unfold up
 induction ps with
 |nil=>rfl
 |cons p ps ih=>
   grind
theorem ol.le:∀(k:Nat) {ps:List (Int×Int)} {z:Int},ol ps k z->k<=ps.length
 |0,_,_,_=>ag0 _
 |k+1,ps,z,h=>by
   have h0:=h
   obtain⟨y,hy,hk⟩:=h0
   have hl:(ps.filter (λp=>!(p.1 == z))).length+1<=ps.length:=by
    have hm:∃b,(z,b)∈ps:=by
     unfold up at hy
     clear hk h
     induction ps with
     |nil=>cases hy
     |cons p ps ih=>
       obtain⟨a,b⟩:=p
       rw [List.lookup_cons] at hy
       by_cases e:z=a
       ·subst e;exact⟨b,ag7 ..⟩
       have h1:(z == a)=false:=by simp [e]
       rw [h1] at hy
       obtain⟨c,hc⟩:=ih hy
       exact⟨c,ag6 _ hc⟩
    obtain⟨b,hb⟩:=hm
    have h1:(ps.filter (λp=>!(p.1 == z))).length<ps.length:=by
     rw [List.length_filter_lt_length_iff_exists]
     exact⟨(z,b),hb,agU⟩
    omega
   have aux:∀(j:Nat) (x:Int),j<=k->ol ps j x->ol (ps.filter (λp=>!(p.1 == z))) j x:=by
    intro j
    induction j with
    |zero=>
      intro x _ hx
      have hx':up ps x=none:=hx
      have:¬x=z:=λe=>by subst e;rw [hx'] at hy;cases hy
      show up _ x=none
      rw [Lm this]
      exact hx'
    |succ j ih=>
      intro x hj hx
      have:¬x=z:=λe=>by
       subst e
       have:=ol.uniq hx h
       omega
      obtain⟨u,hu,hx'⟩:=hx
      exact⟨u,by rw [Lm this];exact hu,ih u zc hx'⟩
   have:=ol.le k (aux k y (ag5 _) hk)
   omega
inductive Way (ps:List (Int×Int)) (z0:Int):List Int->Int->Prop
 |nil:Way ps z0 [] z0
 |snoc {w:List Int} {x y:Int}:Way ps z0 w x->up ps x=some y->Way ps z0 (w++[x]) y
theorem Ends.step {ps:List (Int×Int)} {x y:Int} (h:up ps x=some y) (hy:Ends ps y):Ends ps x:=let ⟨k,hk⟩:=hy;⟨k+1,y,h,hk⟩
theorem Way.ends {ps:List (Int×Int)} {z0 y:Int} {w:List Int} (h:Way ps z0 w y) (hy:Ends ps y):Ends ps z0/\∀x,x∈w->Ends ps x:=by
 induction h with
 |nil=>exact⟨hy,λx hx=>by cases hx⟩
 |snoc hw hu ih=>
   grind [Ends.step]
theorem Way.long {ps:List (Int×Int)} {z0 y:Int} {w:List Int} (h:Way ps z0 w y):∀{k:Nat},ol ps k z0->∃j,k=w.length+j/\ol ps j y:=by
 induction h with
 |nil=>intro k hk;exact⟨k,agU,hk⟩
 |snoc hw hu ih=>
   intro k hk
   obtain⟨j,hj,h⟩:=ih hk
   cases j with
   |zero=>
     have h:up ps _=none:=h
     rw [hu] at h
     cases h
   |succ j=>
     grind [ol]
theorem Way.never {ps:List (Int×Int)} {z0 y:Int} {w:List Int} (h:Way ps z0 w y) (hl:ps.length<w.length):¬Ends ps z0:=λ⟨k,hk⟩=>by
 obtain⟨j,hj,_⟩:=h.long hk
 have:=ol.le k hk
 omega
def Cy (ps:List (Int×Int)):Prop:=∀z,Ends ps z
noncomputable instance (ps:List (Int×Int)):Decidable (Cy ps):=Classical.propDecidable _
def jY (w:List Int):List Value:=w.map (Value.int .i64)
theorem aH.aeI {e:TypeId} {A:Option Addr} {n cap:Nat} {w2:List Int} {j:Nat} (hj:j<w2.length):∀F w,(aH e 1 A n cap (jY w2)).h F w->w.cell? ⟨bw A,br A+j*1,none⟩=some (.int .i64 (w2.getD j 0)):=by
 intro F w h
 have hl:=(aH.len h).1
 have hx:(jY w2)[j]?=some (.int .i64 (w2.getD j 0)):=by
  grind [jY,getD_some]
 obtain⟨g,rfl⟩:=aH.head h Pe
 have:=aH.cell hx F w h
 grind [aH,jY,bw,br]
def ff (fs:List Int) (z:Int):Option Value:=if z∈fs then some (.int .i64 1) else none
theorem acO:mf (ff [])=λ_=>none:=by
 rw [←Kg]
 congr 1
theorem acP (fs:List Int) (h:Int):qd (mf (ff fs)) (.int .i64 h) (some (.int .i64 1))=mf (ff (h::fs)):=by
 rw [Nw]
 congr 1
 grind [ff]
theorem S8 {ps:List (Int×Int)} {left:Lit->Bool} {z:Int} (hd:∀x y,up ps x=some y->left (.int .i64 x)=false->Ends ps x) (hz:Ends ps z) :
 ∀x y,up ps x=some y->(left (.int .i64 x) && !(Lit.int .i64 x).sameKey (.int .i64 z))=false->Ends ps x:=by
 intro x y hx h
 by_cases e:x=z
 ·rw [e];exact hz
 refine hd x y hx ?_
 simpa [Lit.sameKey,e] using h
theorem X5 {fn zT m L cnt cnt':Nat} (h:fn<=(L-cnt)*(L+2)) (h2:zT<=fn+m) (hm:m<=L+1) (hc:cnt'<cnt) (hL:cnt<=L):zT<=(L-cnt')*(L+2):=by
 have h1:(L-cnt+1)*(L+2)<=(L-cnt')*(L+2):=Nat.mul_le_mul_right _ zc
 rw [Nat.add_mul,Nat.one_mul] at h1
 omega
theorem aaH {ps:List (Int×Int)} {z y:Int} (h:up ps z=some y):mf (pf ps) (.int .i64 z)=some (.int .i64 y):=by
 grind [up,mf,pf]
theorem C8 {ps:List (Int×Int)} {z:Int} (h:up ps z=none):mf (pf ps) (.int .i64 z)=none:=by
 grind [up,mf,pf]
theorem Rm {w:List Int} {x lo hi:Int} (h:∀y,y∈w->lo<=y/\y<=hi) (hx:lo<=x/\x<=hi):∀y,y∈w++[x]->lo<=y/\y<=hi:=by
 grind
theorem Nx {ps:List (Int×Int)} {z0 x:Int} {w:List Int} (h:Way ps z0 w x) (hu:up ps x=none):Ends ps z0/\∀y,y∈w++[x]->Ends ps y:=by
 have hx:Ends ps x:=⟨0,hu⟩
 obtain⟨h1,h2⟩:=h.ends hx
 grind
theorem G0 {w:List Int} {j:Nat} (h:j<w.length):w.getD j 0∈w:=by
 grind
end
section
open Go.RowKit
section scope
variable {P:Program} {β:Bs} {N:fY} {fr:Fr} {ax:List HP} {Q:Post} {c:Code} {id:Nat}
theorem aq.scope (h:aq P β N c fr ax (Exit.noGoto Q)):aq P β N (.scope c) fr ax Q:=λai w hS=>wp_scope_straight (h ai w hS)
theorem aB.G3 (h:aB β N Q .ret fr ax):aB β N (Exit.noGoto Q) .ret fr ax:=λai w hS=>h ai w hS
end scope
end
section
open Go.RowKit Go.Lib
def iI:ByteArray:=⟨#[47,0]⟩
def Clean (s:ByteArray):Prop:=∀j,j<s.size->¬dL s j=0/\¬dL s j=47
noncomputable instance (s:ByteArray):Decidable (Clean s):=Classical.propDecidable _
def Ln (c:Nat):Int:=if c=47 then 0 else if c=0 then 1 else -1
theorem U8 {c:Nat}:0<=Ln c↔c=47\/c=0:=by
 grind [Ln]
theorem IU {s:ByteArray} {j:Nat} (h:j<s.size):(s.get! j).toNat=dL s j:=by
 have h1:j<s.data.size:=h
 have e:s.get! j=s.data[j]:=getElem!_pos s.data j h1
 unfold dL
 rw [Array.getD_eq_getD_getElem?,Array.getElem?_eq_getElem h1,e]
 rfl
theorem sS {s:ByteArray} {pos:Nat} (h:pos<s.size):1<=(Utf8.decode s pos).2/\pos+(Utf8.decode s pos).2<=s.size/\(((Utf8.decode s pos).1=47\/(Utf8.decode s pos).1=0)↔(dL s pos=47\/dL s pos=0))/\(∀j,pos<j->j<pos+(Utf8.decode s pos).2->128<=dL s j) ∧
 ((Utf8.decode s pos).1<55296\/(57343<(Utf8.decode s pos).1/\(Utf8.decode s pos).1<=1114111)):=by
 have h0:(s.get! pos).toNat<256:=(s.get! pos).toNat_lt
 have hb:=IU h
 have c1:=decodeN_conts (s.size-pos) (s.get! pos).toNat (s.get! (pos+1)).toNat (s.get! (pos+2)).toNat (s.get! (pos+3)).toNat
 have c2:=decodeN_width_le (s.size-pos) (s.get! pos).toNat (s.get! (pos+1)).toNat (s.get! (pos+2)).toNat (s.get! (pos+3)).toNat zc
 have c3:=decodeN_valid (s.size-pos) (s.get! pos).toNat (s.get! (pos+1)).toNat (s.get! (pos+2)).toNat (s.get! (pos+3)).toNat h0
 have c4:=decodeN_ge1 (s.size-pos) (s.get! pos).toNat (s.get! (pos+1)).toNat (s.get! (pos+2)).toNat (s.get! (pos+3)).toNat
 have c5:(decodeN (s.size-pos) (s.get! pos).toNat (s.get! (pos+1)).toNat (s.get! (pos+2)).toNat (s.get! (pos+3)).toNat).1<128->(decodeN (s.size-pos) (s.get! pos).toNat (s.get! (pos+1)).toNat (s.get! (pos+2)).toNat (s.get! (pos+3)).toNat).1=(s.get! pos).toNat:=by
  intro h
  by_cases h1:(s.get! pos).toNat<128
  ·rw [decodeN_ascii _ _ _ _ _ h1]
  exfalso
  unfold decodeN at h
  grind
 have c6:(s.get! pos).toNat<128->(decodeN (s.size-pos) (s.get! pos).toNat (s.get! (pos+1)).toNat (s.get! (pos+2)).toNat (s.get! (pos+3)).toNat).1=(s.get! pos).toNat:=λh1=>by rw [decodeN_ascii _ _ _ _ _ h1]
 rw [←decode_at] at c1 c2 c3 c4 c5 c6
 grind [IU]
theorem X6 {c:Nat} (h:128<=c) (hv:c<55296\/(57343<c/\c<=1114111)):2<=(Utf8.encode (c:Int)).size/\(Utf8.encode (c:Int)).size<=4/\128<=dL (Utf8.encode (c:Int)) ((Utf8.encode (c:Int)).size-1):=by
 have hval:Utf8.valid (c:Int)=true:=by
  unfold Utf8.valid
  simp
  omega
 unfold Utf8.encode
 simp only [hval,if_true,aho]
 rw [agV zc]
 split
 ·refine⟨ag5 _,ahr rfl,?_⟩
  show 128<=(UInt8.ofNat (0x80+c % 64)).toNat
  rw [UInt8.toNat_ofNat'];omega
 split
 ·refine⟨ahr rfl,ahr rfl,?_⟩
  show 128<=(UInt8.ofNat (0x80+c % 64)).toNat
  rw [UInt8.toNat_ofNat'];omega
 refine⟨ahr rfl,ahr rfl,?_⟩
 show 128<=(UInt8.ofNat (0x80+c % 64)).toNat
 rw [UInt8.toNat_ofNat'];omega
theorem Kh {s:ByteArray}:0<=Lib.indexAny s.data.toList iI.data.toList↔¬Clean s:=by
 have key:∀x:UInt8,iI.data.toList.contains x=true↔(x.toNat=0\/x.toNat=47):=by
  intro x
  have e1:(x=47)↔x.toNat=47:=⟨λh=>by rw [h];rfl,λh=>ahz.1 h⟩
  have e2:(x=0)↔x.toNat=0:=⟨λh=>by rw [h];rfl,λh=>ahz.1 h⟩
  show ([47,0]:List UInt8).contains x=true↔_
  simp only [List.contains_cons,List.contains_nil,Bool.or_false,Bool.or_eq_true,ahP]
  rw [e1,e2]
  omega
 constructor
 ·intro h hc
  have:Lib.indexAny s.data.toList iI.data.toList = -1:=Lib.indexAny_none (λj b hj hb=>by
   obtain⟨h1,h2⟩:=El hb
   have h3:=hc j h1
   cases hx:iI.data.toList.contains b with
   |false=>rfl
   |true=>have:=(key b).1 hx;omega)
  omega
 intro h
 refine Decidable.byContradiction (λhn=>h ?_)
 have aux:∀i,i<=s.size->Lib.NoAny s.data.toList iI.data.toList i:=by
  intro i
  induction i with
  |zero=>intro _;exact Lib.NoAny.zero _ _
  |succ i ih=>
    intro hi
    have hx:=wS (show i<s.size by omega)
    refine (ih zc).succ hx ?_
    cases hc:iI.data.toList.contains (s.data.getD i 0) with
    |false=>rfl
    |true=>
      have:=Lib.indexAny_hit (ih zc) hx hc
      omega
 intro j hj
 have h1:=aux s.size (ag5 _) j (s.data.getD j 0) hj (wS hj)
 have h2:=mt (key (s.data.getD j 0)).2 (by rw [h1];exact Bool.false_ne_true)
 unfold dL
 omega
theorem G4 {β:Bs} (s:ByteArray) (h8:8<s.size) (hs:s.size<=1048576):aW Tryz.prog β 155 #[.string s,.string iI] [] (λv l=>(∃x:Int,v=.int .i64 x/\(0<=x↔¬Clean s))/\l=[]):=by
 intro R w hS
 refine (Tryz.strings_IndexAny_long (zero_of_info (n:=256) KB).1 s iI w Pd h8 zc Pd (by
  intro j b hb
  have:j<2:=by grind [dP,iI]
  have h:j=0\/j=1:=zc
  rcases h with rfl|rfl
  ·have:b=47:=by simpa [iI] using hb.symm
   subst this;decide
  have:b=0:=by simpa [iI] using hb.symm
  subst this;decide)).mono ?_
 rintro e w' ⟨rfl,rfl⟩
 exact⟨_,[],rfl,⟨⟨_,rfl,Kh⟩,rfl⟩,hS.quiet (((cJ.refl _ _).alloc _).alloc _)⟩
theorem U9:∀c:Fin 128,Lib.indexByte [47,0] ((c.val:Int).toNat.toUInt8)=Ln c.val:=Pd
theorem abH {pos:Nat} (h:pos<iI.size):(Utf8.decode iI pos).1=47\/(Utf8.decode iI pos).1=0:=by
 refine (sS h).2.2.1.2 ?_
 have h:pos<2:=h
 have:pos=0\/pos=1:=zc
 rcases this with rfl|rfl
 ·exact .inl rfl
 exact .inr rfl
theorem Va (i:Nat):dL iI i<128:=by
 unfold dL iI
 match i with
 |0=>decide
 |1=>decide
 |n+2=>exact (by decide:(0:UInt8).toNat<128)
theorem acQ {c:Nat} (hv:c<55296\/(57343<c/\c<=1114111)):Lib.validRune (c:Int)=true:=by
 unfold Lib.validRune
 exact ahh zc
theorem Ny {β:Bs} {c:Nat} (hv:c<55296\/(57343<c/\c<=1114111)):aW Tryz.prog β 163 #[.int .i32 ((c:Nat):Int)] [] (λv l=>v=.bool true/\l=[]):=
 aW.quiet (λw=>(Tryz.utf8_ValidRune _ w).mono (λ_ _ ⟨h1,h2⟩=>⟨h1.trans (by rw [acQ hv]),h2⟩))
theorem G5 {β:Bs} {i:Nat} (hi:1<=i) (b:Int):aW Tryz.prog β 142 #[.string (iI.extract (i+1) iI.size),.int .u8 b] [] (λv l=>v=.int .i64 (-1)/\l=[]):=
 aW.quiet (λw=>(Tryz.strings_IndexByte _ b w).mono (λ_ _ ⟨h1,h2⟩=>⟨h1.trans (by
  have h0:(iI.extract (i+1) iI.size).size=0:=by
   rw [ahH]
   have:iI.size=2:=rfl
   omega
  rw [tv.1 h0]
  rfl),h2⟩))
theorem G6 {β:Bs} {c:Nat} (h:c<128):aW Tryz.prog β 159 #[.string iI,.int .i32 ((c:Nat):Int)] [] (λv l=>v=.int .i64 (Ln c)/\l=[]):=
 aW.quiet (λw=>(Tryz.strings_IndexRune_ascii iI _ w zc zc).mono (λ_ _ ⟨h1,h2⟩=>⟨h1.trans (agX (λx=>Ending.returned (.int .i64 x)) (U9 ⟨c,h⟩)),h2⟩))
theorem X7 {c:Nat} (h:128<=c):Ln c = -1:=by
 grind [Ln]
theorem o3 {s:ByteArray}:cq s↔1<=s.size/\s.size<=255/\¬s=⟨#[46]⟩/\¬s=⟨#[46,46]⟩/\Clean s:=Iff.rfl
end
section
open Go.RowKit
attribute [local irreducible] av bN aq aB
theorem Gb {β:Bs} (c:Nat) (h128:128<=c) (hv:c<55296\/(57343<c/\c<=1114111)) :
 aW Tryz.prog β 159 #[.string iI,.int .i32 ((c:Nat):Int)] [] (λv l=>v=vI (-1)/\l=[]):=by
 have he:=X6 h128 hv
 refine SE Tryz.func159 Tryz.ntmps159 (λR=>SR (jK 1 [] [] (NN (aq.block (SR (jK 3 [163] [] (sP 163 ((0:Int)<=(((c:Nat):Int):Int)) (λacR=>jK 4 [160] [] (NN (cP ((((c:Nat):Int):Int)<(128:Int)) (λacS=>agY acS (by omega)) (λacS=>SR (jK 3 [171] [] (NN (cP ((((c:Nat):Int):Int)=(65533:Int)) (λafm=>?_) (λafm=>?_)))))))) (λacR=>agY acR (by omega)))))))))
 ·refine SQ (jK 1 [174] [] (av.Nk (d:=(some 175)) (t:=9) (x:=(.tmp 174)) (s:=iI) (λ_=>KB) (λ_=>KB) Tryz.underlying9 (λr1=>NN (aq.block (lJ (λ(pos:Nat)=>(pos<=2)) (λ(pos:Nat)=>2-pos) (λ(pos:Nat)=>[(175,vP r1)]) (λ(pos:Nat)=>[.abs (CY r1 iI pos),.abs R]) 0 [1,0] (ag0 _) ?_)))))
  rintro pos hp
  refine SR ?_
  rcases Nat.lt_or_ge pos ((iI:ByteArray).size) with hpos|hpos
  ·exact av.Rh 0 (d:=(some 176)) (r:=r1) (s:=iI) (pos:=pos) (x:=(.tmp 175)) (λ_=>KB) KB (λ_=>KB) hpos (jK 1 [177] [] (NN (aq.seq (CT (KX (aq.block (SR (jK 4 [5,6] [] (NS (jK 2 [181] [] (NN (cP (((((Utf8.decode iI pos).1:Nat):Int):Int)=(65533:Int)) (λacT=>agY acT (by have:=abH hpos;omega)) (λacT=>aq.skip (aB.jX (tJ (pos+(Utf8.decode iI pos).2) [0,1] ((by have:=(sS (s:=iI) hpos).2.1;have:iI.size=2:=rfl;omega)) (hm:=by show 2-(pos+(Utf8.decode iI pos).2)<2-pos;have h1:=(sS (s:=iI) hpos).1;have h2:iI.size=2:=rfl;omega))))))))))))))))
  exact av.UZ 0 (d:=(some 176)) (r:=r1) (s:=iI) (pos:=pos) (x:=(.tmp 175)) (λ_=>KB) KB (λ_=>KB) (Nat.not_lt.2 hpos) (jK 1 [177] [] (NN (aq.seq (CF (XX (zR ⟨rfl,rfl⟩ [1]))))))
 refine SR (jK 1 [184] [] (gE [] (Ny hv) (jK 2 [183] [] (NF (aq.scope (SR (jK 3 [7] [] (NS (jK 4 [8] [(2,wJ (((((Utf8.encode (c:Int)):ByteArray).size:Nat):Int)-1) (↑((Utf8.encode ((c:Nat):Int)).size-1)))] (NS (jK 2 [9] [] (NS (jK 1 [] [] (NN (aq.seq (aq.block (lJ (λ(i:Nat)=>(i=(Utf8.encode ((c:Nat):Int)).size-1)) (λ(i:Nat)=>0) (λ(i:Nat)=>[(0,.string iI),(7,.string (Utf8.encode ((c:Nat):Int))),(8,vI ↑((Utf8.encode ((c:Nat):Int)).size-1)),(9,vI ↑i)]) (λ(i:Nat)=>[.abs R]) (((Utf8.encode ((c:Nat):Int)).size-1)) [0] (rfl) ?_)))))))))))))))))
 rintro i hi
 exact SQ (jK 4 [26] [] (NN (cP ((((i:Nat):Int):Int)<((((iI:ByteArray).size:Nat):Int):Int)) (λyI=>KX (aq.block (aq.scope (aq.seq (aq.seq (rQ (jQ 7 [33] [(2,xP i (i<(iI:ByteArray).size)),(5,xP ((Utf8.encode ((c:Nat):Int)).size-1) (((Utf8.encode ((c:Nat):Int)).size-1)<((Utf8.encode ((c:Nat):Int)):ByteArray).size))] (NQ (NX (cN ((((((iI:ByteArray).data.getD (i) 0).toNat:Nat):Int):Int)=((((((Utf8.encode ((c:Nat):Int)):ByteArray).data.getD (((Utf8.encode ((c:Nat):Int)).size-1)) 0).toNat:Nat):Int):Int)) (λLp=>aq.seq (rQ (jQ 7 [37,40] [(2,wJ ((i:Int)+1) (↑(i+1))),(3,xP (i+1) (i+1<=(iI:ByteArray).size)),(6,xP ((Utf8.encode ((c:Nat):Int)).size-1) (((Utf8.encode ((c:Nat):Int)).size-1)<((Utf8.encode ((c:Nat):Int)):ByteArray).size))] (mD [] [0] (.int .i64 (-1)) (G5 (i:=i) (by have:iI.size=2:=rfl;omega) (((((Utf8.encode ((c:Nat):Int)):ByteArray).data.getD (((Utf8.encode ((c:Nat):Int)).size-1)) 0).toNat:Nat):Int)) (jQ 1 [11] [] (NQ (NX (SQ (jK 2 [43] [] (NT (SR (jK 1 [4] [] (NN (aq.ret (aB.bD (aB.bD (aB.G3 (aB.fW (aB.bD (aB.fW (aB.bD (aB.G3 (aB.fW (RT _ [0] (⟨rfl,rfl⟩))))))))))))))))))))))))) (λLp=>agY Lp (by have h1:=Va i;grind [dL])))))))))))) (λyI=>XX (SQ (jK 1 [4] [] (NN (aq.ret (aB.bD (aB.G3 (aB.fW (RT _ [0] (⟨rfl,rfl⟩)))))))))))))
theorem Nz {β:Bs} (c:Nat) (hv:c<55296\/(57343<c/\c<=1114111)) :
 aW Tryz.prog β 159 #[.string iI,.int .i32 ((c:Nat):Int)] [] (λv l=>v=vI (Ln c)/\l=[]):=by
 rcases Nat.lt_or_ge c 128 with h|h
 ·exact G6 h
 rw [X7 h]
 exact Gb c h hv
theorem Gc {β:Bs} (s:ByteArray) (h8:s.size<=8) :
 aW Tryz.prog β 155 #[.string s,.string iI] [] (λv l=>(∃x:Int,v=vI x/\(0<=x↔¬Clean s))/\l=[]):=by
 refine SE Tryz.func155 Tryz.ntmps155 (λR=>SR (jK 1 [] [] (NZ (jK 2 [12] [(1,w_ (.bool (decide ((iI:ByteArray)=⟨#[]⟩))) (qN _ _))] (NN (cP ((iI:ByteArray)=⟨#[]⟩) (λh12=>agY h12 (by decide)) (λh12=>KX (SQ (jK 3 [15] [] (NN (cP (((((iI:ByteArray).size:Nat):Int):Int)=(1:Int)) (λNA=>agY NA (by decide)) (λNA=>KX (SQ (jK 2 [25] [] (gE [] (aW.quiet (λw=>Tryz.strings_shouldUseASCIISet ((s.size:Nat):Int) w)) (NN (cP ((8:Int)<((s.size:Nat):Int)) (λyI=>agY yI (by omega)) (λyI=>KX (SQ (jK 1 [44] [] (av.Nk (d:=(some 45)) (t:=9) (x:=(.tmp 44)) (s:=s) (λ_=>KB) (λ_=>KB) Tryz.underlying9 (λr2=>NN (aq.block (lJ (λ(pos:Nat)=>(pos<=s.size)/\(∀j,j<pos->¬dL s j=0/\¬dL s j=47)) (λ(pos:Nat)=>s.size-pos) (λ(pos:Nat)=>[(1,.string iI),(45,vP r2)]) (λ(pos:Nat)=>[.abs (CY r2 s pos),.abs R]) 0 [1,0] (⟨ag0 _,λj hj=>agY hj (ag2 j)⟩) ?_))))))))))))))))))))))))
 rintro pos ⟨hp,iP⟩
 refine SR ?_
 rcases Nat.lt_or_ge pos ((s:ByteArray).size) with hpos|hpos
 ·exact av.Rh 0 (d:=(some 46)) (r:=r2) (s:=s) (pos:=pos) (x:=(.tmp 45)) (λ_=>KB) KB (λ_=>KB) hpos (jK 1 [47] [] (NN (aq.seq (CT (KX (aq.block (SR (jK 4 [9,10] [] (NS (jK 2 [50,51] [] (gE [] (Nz (Utf8.decode s pos).1 (sS hpos).2.2.2.2) (jK 1 [53] [] (NN (cP ((Ln (Utf8.decode s pos).1:Int)>=(0:Int)) (λLl=>zR (v:=(vI ↑pos)) ⟨⟨_,rfl,⟨λ_ hc=>by have h1:=U8.1 Ll;have h2:=(sS hpos).2.2.1.1 h1;have:=hc pos hpos;omega,λ_=>Int.natCast_nonneg _⟩⟩,rfl⟩ [1]) (λLl=>aq.skip (aB.jX (tJ (pos+(Utf8.decode s pos).2) [0,1] (⟨(sS hpos).2.1,λj hj=>by rcases ahK j pos with h|h|h;exact iP j h;subst h;have h1:=mt U8.2 Ll;all_goals grind [sS]⟩) (hm:=by grind [sS]))))))))))))))))))
 exact av.UZ 0 (d:=(some 46)) (r:=r2) (s:=s) (pos:=pos) (x:=(.tmp 45)) (λ_=>KB) KB (λ_=>KB) (Nat.not_lt.2 hpos) (jK 1 [47] [] (NN (aq.seq (CF (XX (zR (v:=(vI (-1))) ⟨⟨_,rfl,⟨λh=>agY h (by decide),λh=>agY (λj hj=>iP j zc) h⟩⟩,rfl⟩ [1]))))))
theorem Qr {β:Bs} (s:ByteArray) (hs:s.size<=1048576) :
 aW Tryz.prog β 155 #[.string s,.string iI] [] (λv l=>(∃x:Int,v=vI x/\(0<=x↔¬Clean s))/\l=[]):=by
 rcases Nat.lt_or_ge 8 s.size with h|h
 ·exact G4 s h hs
 exact Gc s h
theorem vY {β:Bs} (s:ByteArray) (hs:s.size<=1048576) :
 aW Tryz.prog β 143 #[.string s,.string iI] [] (λv l=>v=.bool (decide (¬Clean s))/\l=[]):=by
 refine SE Tryz.func143 Tryz.ntmps143 (λR=>SR (jK 1 [] [] (NS (jK 2 [5,6] [] (gL [] (Qr s hs) ?_)))))
 rintro _ _ ⟨⟨x,rfl,hx⟩,rfl⟩
 exact jK 2 [4] [] (eN (v:=(.bool (decide ((x:Int)>=(0:Int))))) ⟨agX Value.bool (ahb.2 (by exact hx)),rfl⟩)
theorem zU {β:Bs} (s:ByteArray) (hs:s.size<=1048576) :
 aW Tryz.prog β 121 #[.string s] [] (λv l=>v=.bool (decide (cq s))/\l=[]):=by
 exact SE Tryz.func121 Tryz.ntmps121 (λR=>SR (jK 1 [] [] (NZ (jK 1 [3] [] (NN (aq.block (SQ (jK 2 [4] [(0,w_ (.bool (decide ((s:ByteArray)=⟨#[]⟩))) (qN _ _))] (NN (cP ((s:ByteArray)=⟨#[]⟩) (λh4=>KX (cP ((s:ByteArray)=⟨#[]⟩) (λh4=>zR ⟨agX Value.bool (agZ (by grind [tv,o3])).symm,rfl⟩) (λh4=>KX (SR (jK 4 [11] [] (sP 11 (((((s:ByteArray).size:Nat):Int):Int)<=(255:Int)) (λh11=>jK 1 [12] [] (gE [] (vY s hs) (jK 3 [2] [] (eN (v:=(.bool (!(decide (¬Clean s))))) ⟨agX Value.bool (Ek Pe),rfl⟩)))) (λh11=>jK 5 [2] [] (eN ⟨agX Value.bool (agZ (by grind [tv,o3])).symm,rfl⟩)))))))) (λh4=>SR (jK 2 [4] [(0,w_ (.bool (decide ((s:ByteArray)=⟨#[46]⟩))) (qN _ _))] (NN (cP ((s:ByteArray)=⟨#[46]⟩) (λh4=>KX (cP ((s:ByteArray)=⟨#[46]⟩) (λh4=>zR ⟨agX Value.bool (agZ (by grind [tv,o3])).symm,rfl⟩) (λh4=>KX (SR (jK 4 [11] [] (sP 11 (((((s:ByteArray).size:Nat):Int):Int)<=(255:Int)) (λh11=>jK 1 [12] [] (gE [] (vY s hs) (jK 3 [2] [] (eN (v:=(.bool (!(decide (¬Clean s))))) ⟨agX Value.bool (Ek Pe),rfl⟩)))) (λh11=>jK 5 [2] [] (eN ⟨agX Value.bool (agZ (by grind [tv,o3])).symm,rfl⟩)))))))) (λh4=>aq.region (jK 2 [4] [(0,w_ (.bool (decide ((s:ByteArray)=⟨#[46,46]⟩))) (qN _ _))] (NN (cP ((s:ByteArray)=⟨#[46,46]⟩) (λh4=>zR ⟨agX Value.bool (agZ (by grind [tv,o3])).symm,rfl⟩) (λh4=>KX (SR (jK 4 [11] [] (sP 11 (((((s:ByteArray).size:Nat):Int):Int)<=(255:Int)) (λh11=>jK 1 [12] [] (gE [] (vY s hs) (jK 3 [2] [] (eN (v:=(.bool (!(decide (¬Clean s))))) ⟨agX Value.bool (Ek (by have h0:=tv (s:=s);rw [o3];grind)),rfl⟩)))) (λh11=>jK 5 [2] [] (eN ⟨agX Value.bool (agZ (by grind [tv,o3])).symm,rfl⟩))))))))))))))))))))))))
theorem Vb {β:Bs} (m:Nat) (ps:List (Int×Int)) (hl:ps.length<=1048576) (hw:∀z y,up ps z=some y->(-9223372036854775808<=z/\z<=9223372036854775807)/\(-9223372036854775808<=y/\y<=9223372036854775807)) :
 aW Tryz.prog β 109 #[.map (some m)] [.abs (bM Tryz.prog 3 m (mf (pf ps)) ps.length)] (λv l=>v=.bool (decide (Cy ps))/\l=[]):=by
 refine SE Tryz.func109 Tryz.ntmps109 (λR=>SR (jK 1 [] [] (NS (av.tj (d:=(some 11)) (t:=107) (λ_=>KB) Tryz.prog rfl 3 (λm1=>jK 1 [3] [] (NZ (av.cL 2 (p':=.abs (bM Tryz.prog 3 m1 (mf (ff [])) 0)) rfl (by rw [acO]) (jK 1 [12] [] (av.mapRange 0 (d:=(some 13)) (t:=107) (K:=3) (E:=3) (b:=m) (n:=ps.length) (f:=(mf (pf ps))) (x:=(.tmp 12)) (λ_=>KB) KB (λ_=>KB) iU Tryz.underlying107 (λr2=>NN (aq.block (lJ (λ(left,cnt,last,fs,fn)=>(cnt<=ps.length)/\(∀x y,up ps x=some y->left (.int .i64 x)=false->Ends ps x)/\(∀x,x∈fs->Ends ps x)/\(fn<=(ps.length-cnt)*(ps.length+2))) (λ(left,cnt,last,fs,fn)=>cnt) (λ(left,cnt,last,fs,fn)=>[(0,.map (some m)),(3,.map (some m1)),(13,vP r2)]) (λ(left,cnt,last,fs,fn)=>[.abs (oe Tryz.prog 3 m r2 (mf (pf ps)) ps.length left cnt last),.abs (bM Tryz.prog 3 m1 (mf (ff fs)) fn),.abs R]) ((λkl=>((mf (pf ps)) kl).isSome),ps.length,none,[],0) [0,2,1] (⟨ag5 _,λx y hx h=>(by have h:((up ps x).map (Value.int .i64)).isSome=false:=h;rw [hx] at h;cases h),λx hx=>(by cases hx),ag0 _⟩) ?_))))))))))))
 rintro⟨left,cnt,last,fs,fn⟩ ⟨afn,hdone,hfs,hfn⟩
 have oL:fn<=1048576*1048578:=ag1 hfn (Nat.mul_le_mul zc zc)
 refine SR (av.mapNext 0 (d:=(some 14)) (K:=3) (b:=m) (r:=r2) (f:=(mf (pf ps))) (n:=ps.length) (left:=left) (cnt:=cnt) (last:=last) (x:=(.tmp 13)) (λ_=>KB) KB (λ_=>KB) iU Tryz.underlying3 (λhc0 hl0=>jK 1 [15] [] (NN (aq.seq (CF (XX (zR ⟨agX Value.bool (ahh (p:=Cy ps) (λz=>by cases hu:up ps z with|none=>exact⟨0,hu⟩|some y=>exact hdone z y hu (hl0 _))).symm,rfl⟩ [2])))))) (λz u cnt' hlz hfz hwz afo=>?_))
 obtain⟨y,hy,rfl⟩:=abF hfz
 refine jK 1 [15] [] (NN (aq.seq (CT (KX (aq.block (SR (av.mapEntry 0 (d:=(some 16)) (K:=3) (b:=m) (r:=r2) (f:=(mf (pf ps))) (n:=ps.length) (left:=(λkl=>left kl && !kl.sameKey (.int .i64 z))) (cnt:=cnt') (v:=.tuple #[.int .i64 (z),.int .i64 (y)]) (x:=(.tmp 13)) (λ_=>KB) KB (λ_=>KB) (jK 2 [4] [] (NS (jK 1 [5] [] (NN (aq.join (ι:=(List Int)×(Option Addr)×Nat) (λ(w2,A2,c2)=>(Ends ps z)/\(∀x,x∈w2->Ends ps x)/\(w2.length<=ps.length+1)/\(∀x,x∈w2->-9223372036854775808<=x/\x<=9223372036854775807)) (λ(w2,A2,c2)=>[(0,.map (some m)),(3,.map (some m1)),(5,.slice A2 (w2.length) (c2)),(13,vP r2)]) (λ(w2,A2,c2)=>[.abs (oe Tryz.prog 3 m r2 (mf (pf ps)) ps.length (λkl=>left kl && !kl.sameKey (.int .i64 z)) cnt' (some (.tuple #[.int .i64 (z),.int .i64 (y)]))),.abs (bM Tryz.prog 3 m1 (mf (ff fs)) fn),.abs (aH 3 1 A2 w2.length c2 (jY w2)),.abs R]) ?_ ?_))))))))))))
 ·rintro⟨w2,A2,c2⟩ ⟨hend,aeJ,agC,acU⟩
  refine SR (jK 3 [41,42,43] [] (NN (aq.block (lJ (λ(j,DT,zT)=>(j<=w2.length)/\(∀x,x∈DT->Ends ps x)/\(zT<=fn+j)) (λ(j,DT,zT)=>w2.length-j) (λ(j,DT,zT)=>[(0,.map (some m)),(3,.map (some m1)),(13,vP r2),(41,.slice A2 (w2.length) (c2)),(42,.int .i64 ↑w2.length),(43,.int .i64 ↑j)]) (λ(j,DT,zT)=>[.abs (oe Tryz.prog 3 m r2 (mf (pf ps)) ps.length (λkl=>left kl && !kl.sameKey (.int .i64 z)) cnt' (some (.tuple #[.int .i64 (z),.int .i64 (y)]))),.abs (bM Tryz.prog 3 m1 (mf (ff DT)) zT),.abs (aH 3 1 A2 w2.length c2 (jY w2)),.abs R]) (0,fs,fn) [0,1,2,3] (⟨ag0 _,hfs,ag5 _⟩) ?_))))
  rintro⟨j,DT,zT⟩ ⟨hj,acV,afp⟩
  exact SR (jK 1 [44] [] (NN (aq.seq (cP ((((j:Nat):Int):Int)<(((w2.length:Nat):Int):Int)) (λyJ=>KX (aq.seq (aq.block (SR (av.tell (λw hS=>let ⟨F,h⟩:=hS.get (i:=2) rfl;(aH.Ix h zc).1) (λhA2=>jK 3 [10] [(0,x_ j w2.length (hA2)),(1,p_ ⟨[.view 2 (.int .i64 ((w2.getD j 0)))],none,none,none,none⟩ [(∀F w,(aH 3 1 A2 w2.length c2 (jY w2)).h F w->w.cell? ⟨(bw A2),br A2+j*1,none⟩=some (.int .i64 ((w2.getD j 0))))] ⟨aH.aeI zc,trivial⟩)] (NN (aq.region (jK 2 [47,48] [] (av.qO 1 (d:=none) (t:=107) (K:=3) (E:=3) (b:=m1) (n:=zT) (f:=(mf (ff DT))) (x:=(.tmp 47)) (ix:=(.tmp 48)) (y:=(.const (.int .i64 1))) (key:=.int .i64 ((w2.getD j 0))) (u:=.int .i64 1) (kl:=(.int .i64 (w2.getD j 0))) (n':=(if (ff DT (w2.getD j 0)).isSome then zT else zT+1)) (f':=(mf (ff ((w2.getD j 0)::DT)))) (λ_=>KB) KB (λ_=>KB) (λ_=>KB) (λ_=>KB) iU Tryz.underlying107 (by unfold maxLen;omega) (vX (acU _ (G0 zc)).1 (acU _ (G0 zc)).2) (rfl) (acP _ _) (LX (aq.region (jK 2 [43] [(0,wJ ((j:Int)+1) (↑(j+1)))] (NL (tJ ((j+1),((w2.getD j 0)::DT),(if (ff DT (w2.getD j 0)).isSome then zT else zT+1)) [0,1,2,3] (⟨zc,λx hx=>(aha.1 hx).elim (λe=>e ▸ aeJ _ (G0 zc)) (acV x),by split<;>omega⟩)))))))))))))))) (λyJ=>aq.exit (aB.oZ (aB.oZ (aB.vU (aB.jX (tJ ((λkl=>left kl && !kl.sameKey (.int .i64 z)),cnt',(some (.tuple #[.int .i64 (z),.int .i64 (y)])),DT,zT) [0,1,3] (⟨zc,S8 hdone hend,acV,X5 hfn afp zc afo afn⟩)))))))))))
 refine SR (av.mem (λw hS=>hS.mB (e:=3) (size:=1)) (jK 2 [6] [] (NN (aq.block (lJ (λ(at_,w,Aw,cw)=>(Way ps z w at_)/\(w.length<=ps.length)/\(∀x,x∈w->-9223372036854775808<=x/\x<=9223372036854775807)/\(-9223372036854775808<=at_/\at_<=9223372036854775807)) (λ(at_,w,Aw,cw)=>ps.length+1-w.length) (λ(at_,w,Aw,cw)=>[(0,.map (some m)),(3,.map (some m1)),(5,.slice Aw (w.length) (cw)),(6,.int .i64 (at_)),(13,vP r2)]) (λ(at_,w,Aw,cw)=>[.abs (oe Tryz.prog 3 m r2 (mf (pf ps)) ps.length (λkl=>left kl && !kl.sameKey (.int .i64 z)) cnt' (some (.tuple #[.int .i64 (z),.int .i64 (y)]))),.abs (bM Tryz.prog 3 m1 (mf (ff fs)) fn),.abs (aH 3 1 Aw w.length cw (jY w)),.abs R]) (z,[],none,0) [0,1,3,2] (⟨.nil,ag0 _,λx hx=>(by cases hx),(hw z y hy).1⟩) ?_)))))
 rintro⟨at_,w,Aw,cw⟩ ⟨o4,hwl,uO,d8⟩
 refine SQ (jK 2 [19,20] [] ?_)
 by_cases hfa:at_∈fs
 ·exact av.je 1 (d:=(some 21)) (t:=107) (K:=3) (E:=3) (b:=m1) (n:=fn) (f:=(mf (ff fs))) (x:=(.tmp 19)) (ix:=(.tmp 20)) (key:=.int .i64 (at_)) (z:=.int .i64 0) (kl:=(.int .i64 at_)) (r:=(some (.int .i64 1))) (λ_=>KB) KB (λ_=>KB) (λ_=>KB) iU Tryz.underlying107 (λ_=>KB) (vX d8.1 d8.2) (agW hfa) (jK 1 [22] [] (NF (aq.exit (aB.oZ (aB.oZ (aB.vU (mJ (w,Aw,cw) [0,1,2,3] (⟨(o4.ends (hfs at_ hfa)).1,(o4.ends (hfs at_ hfa)).2,zc,uO⟩))))))))
 refine av.je 1 (d:=(some 21)) (t:=107) (K:=3) (E:=3) (b:=m1) (n:=fn) (f:=(mf (ff fs))) (x:=(.tmp 19)) (ix:=(.tmp 20)) (key:=.int .i64 (at_)) (z:=.int .i64 0) (kl:=(.int .i64 at_)) (r:=none) (λ_=>KB) KB (λ_=>KB) (λ_=>KB) iU Tryz.underlying107 (λ_=>KB) (vX d8.1 d8.2) (agV hfa) (jK 1 [22] [] (NT (KX (aq.block (SR (jB 3 [23,25] (λb3=>.aD b3 [.int .i64 (at_)] 3) (λb3=>mR 2 41 (some ⟨b3,0,none⟩) 1 1 [.int .i64 (at_)] rfl (fP (j:=4) rfl) (λA4 c5=>av.cL 2 (p':=.abs (aH 3 1 A4 ((w++[at_]).length) c5 (jY (w++[at_])))) rfl (by simp [jY]) (sl 26 (.slice A4 (w.length+1) (c5)) (.slice A4 ((w++[at_]).length) (c5)) agU (jK 1 [5] [] (NS (jK 2 [28,29] [] ?_))))))))))))
 rcases hup:up ps at_ with _|y2
 ·exact av.Gf 0 (d:=(some 30)) (t:=107) (K:=3) (E:=3) (b:=m) (n:=ps.length) (f:=(mf (pf ps))) (r:=r2) (left:=(λkl=>left kl && !kl.sameKey (.int .i64 z))) (cnt:=cnt') (last:=(some (.tuple #[.int .i64 (z),.int .i64 (y)]))) (x:=(.tmp 28)) (ix:=(.tmp 29)) (key:=.int .i64 (at_)) (z:=.int .i64 0) (kl:=(.int .i64 at_)) (u:=none) (λ_=>KB) KB (λ_=>KB) (λ_=>KB) iU Tryz.underlying107 (λ_=>KB) (vX d8.1 d8.2) (C8 hup) (jK 5 [7,8] [] (NZ (jK 2 [34] [] (NT (aq.exit (aB.oZ (aB.UX Pd (aB.oZ (aB.vU (mJ ((w++[at_]),A4,c5) [0,1,2,3] (⟨(Nx o4 hup).1,(Nx o4 hup).2,by simp;omega,Rm uO d8⟩)))))))))))
 exact av.Gf 0 (d:=(some 30)) (t:=107) (K:=3) (E:=3) (b:=m) (n:=ps.length) (f:=(mf (pf ps))) (r:=r2) (left:=(λkl=>left kl && !kl.sameKey (.int .i64 z))) (cnt:=cnt') (last:=(some (.tuple #[.int .i64 (z),.int .i64 (y)]))) (x:=(.tmp 28)) (ix:=(.tmp 29)) (key:=.int .i64 (at_)) (z:=.int .i64 0) (kl:=(.int .i64 at_)) (u:=(some (.int .i64 y2))) (λ_=>KB) KB (λ_=>KB) (λ_=>KB) iU Tryz.underlying107 (λ_=>KB) (vX d8.1 d8.2) (aaH hup) (jK 5 [7,8] [] (NZ (jK 2 [34] [] (NF (KX (SQ (jK 3 [36,37] [] (av.XR 0 (d:=(some 38)) (t:=107) (K:=3) (E:=3) (b:=m) (n:=ps.length) (f:=(mf (pf ps))) (r:=r2) (left:=(λkl=>left kl && !kl.sameKey (.int .i64 z))) (cnt:=cnt') (last:=(some (.tuple #[.int .i64 (z),.int .i64 (y)]))) (x:=(.tmp 37)) (ats:=#[107]) (λ_=>KB) KB (λ_=>KB) rfl Tryz.underlying107 (jK 1 [39] [] (NN (cP (((((w++[at_]).length:Nat):Int):Int)>(((ps.length:Nat):Int):Int)) (λnh=>zR ⟨agX Value.bool (agZ (p:=Cy ps) (λjP=>(o4.snoc hup).never (by simp at nh ⊢;omega) (jP z))).symm,rfl⟩ [3]) (λnh=>KX (aq.region (jK 2 [6] [] (NL (aB.jX (tJ (y2,(w++[at_]),A4,c5) [0,1,2,3] (⟨o4.snoc hup,by simp at nh ⊢;omega,Rm uO d8,(hw at_ y2 hup).2⟩) (hm:=by grind))))))))))))))))))
end
end Go.Proofs.YtbnfiigafobejaaGreat
