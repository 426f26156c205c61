/-
  PROVED HERE: lemmas and contracts of functions (texts of this repo, joined; what the claim does not use is left out): Cg, Wk, Wz, Wy, XC, Zg, Lv.
  CONDITIONS: as the theorems say.
-/
import Derived.Test.YtidjcblbdmfalaaGreatMWconfined5
import Derived.ChangeMaps5
import Derived.Leaving
import Derived.JoinedCond
set_option maxRecDepth 100000
set_option maxHeartbeats 4000000
namespace Go.Proofs.YtidjcblbdmfalaaGreat
section
open Go.RowKit Go.Maps bD aE
def Gb (ns:List aB) (root last:Int) (k:Nat):Prop:=((k:Int)∈(bE ns root).1)\/last < (k:Int)
theorem LD (ns:List aB) (root:Int):(bE ns root).1.length<=ns.length:=by
  classical
  by_cases h:fL ns root=0
  ·rw [mP h]
   show (nM ns (tgt ns root)).length<=_
   unfold nM
   rw [List.length_map]
   exact Nat.le_trans (List.length_filter_le _ _) (by simp)
  rw [rV h];exact Nat.zero_le _
section cg
variable {X:FM} {ns:List aB} {S0 S:aH} {root:Int} {q j:Nat}
theorem zu (hu:(bE ns root).2=0):fL ns root=0:=by
  refine Classical.byContradiction fun h=>?_
  rw [rV h] at hu
  exact h hu
theorem ND (hu:(bE ns root).2=0) {last:Int} (k:Nat) (e:root=(k:Int)):Gb ns root last k:=by
  have hb:=zu hu
  obtain⟨_,h2,_⟩:=zq hb
  have h3:=jd h2
  refine .inl ?_
  rw [mP hb,← e]
  exact rU.2 ⟨_,h3.1,.refl,h3.2.1⟩
theorem JI (hE:eY X ns ns.length 0 S) (hok:bh ns) (hu:(bE ns root).2=0):bV (Gb ns root S.X.last) S S:=by
  have hI:Inv S:=hE.full
  have hg:av S=ns:=hE.graph hok
  have hb:=zu hu
  refine⟨⟨fun _ _=>rfl,fun k hk e he=>?_⟩,fun p hp=>(by rw [hE.us] at hp;cases hp),fun _ h _=>h,Int.le_refl _,fun k hk=>.inr hk⟩
  rcases hk with hk|hk
  ·rw [mP hb] at hk
   obtain⟨i,hi,hr,hid⟩:=rU.1 hk
   rw [← hg,iC] at hi
   have hla:=oG hI.toInv0 hi
   have hid:(nd (av S) i).id=(k:Int):=by rw [hg];exact hid
   rw [ju hi] at hid
   have hid:cJ S i=(k:Int):=hid
   have hkk:(fJ S i).k=k:=by have:=hla.2;omega
   rw [← hkk] at he
   obtain⟨t,ht,e1⟩:=List.getElem_of_mem he
   have hes:=yO ht
   rw [List.getElem?_eq_getElem ht,e1] at hes
   have e2:e.2=qV (obj S.O (fJ S i).k).ah t:=by injection hes with hes;rw [hes]
   have ht2:t < (nd (av S) i).ah.length:=by
     rw [ju hi]
     show t < ((obj S.O (fJ S i).k).ah.map _).length
     rw [List.length_map];exact ht
   obtain⟨a,ha,h1,h2,_⟩:=Le hI.toInv0 hi ht2
   refine .inl ?_
   rw [mP hb]
   refine rU.2 ⟨a,by rw [← hg,iC];exact ha,?_,?_⟩
   ·rw [← h2,hg]
    rw [hg] at ht2
    exact .step t hr ht2
   rw [← hg,ju ha]
   show cJ S a=_
   rw [(oG hI.toInv0 ha).2,h1,e2]
  rw [(hI.dead k (fun t ht e=>by have:=(hI.idx _ _ ht).2.2;omega)).1] at he
  cases he
theorem Gc (hE:eY X ns ns.length 0 S0) (hok:bh ns) (hC:bV (Gb ns root S0.X.last) S0 S) (hI:Inv0 S) (hq:q < ns.length) (hn:(nd ns q).id∉(bE ns root).1):∃ j,j < (av S).length/\nd (av S) j=nd ns q:=by
  have DR:Inv S0:=hE.full
  have hg:av S0=ns:=hE.graph hok
  have OU:q < S0.idx.length:=by rw [← iC,hg];exact hq
  have hla:=oG DR.toInv0 OU
  have hid:(nd ns q).id=cJ S0 q:=by rw [← hg,ju OU];rfl
  obtain⟨j,hj,e⟩:=hC.kept DR.toInv0 hI OU (fun h=>by
    rcases h with h|h
    ·rw [← hla.2,← hid] at h;exact hn h
    have:=(DR.idx _ _ (get_at DR.toInv0 OU)).2.2
    have:=hla.2
    omega)
  exact⟨j,by rw [iC];exact hj,e.trans (by rw [hg])⟩
theorem NE (hE:eY X ns ns.length 0 S0) (hok:bh ns) (hC:bV (Gb ns root S0.X.last) S0 S) (hI:Inv0 S) (hq:q < ns.length) (hn:(nd ns q).id∉(bE ns root).1) (hj:j < (av S).length) (e:(nd (av S) j).id=(nd ns q).id):nd (av S) j=nd ns q:=by
  obtain⟨t,ht,h⟩:=Gc hE hok hC hI hq hn
  have hr:=BQ hI
  have:j=t:=by
    rcases Nat.lt_trichotomy j t with h1|h1|h1
    ·have:=hr j t h1 ht;rw [e,h] at this;omega
    ·exact h1
    have:=hr t j h1 hj;rw [e,h] at this;omega
  rw [this];exact h
def mA (l:List Int) (z:Int) (j:Nat) (fl:Bool):Prop:=fl=true↔∃ t,t < j/\l.getD t 0=z
theorem mA.zero (l:List Int) (z:Int):mA l z 0 false:=⟨fun h=>(by cases h),fun ⟨_,h,_⟩=>absurd h (Nat.not_lt_zero _)⟩
theorem mA.hit {l:List Int} {z:Int} {j:Nat} (h:l.getD j 0=z):mA l z (j+1) true:=⟨fun _=>⟨j,Nat.lt_succ_self j,h⟩,fun _=>rfl⟩
theorem mA.miss {l:List Int} {z:Int} {j:Nat} {fl:Bool} (c:mA l z j fl) (h:¬ l.getD j 0=z):mA l z (j+1) fl:=by
  refine⟨fun e=>(c.1 e).imp fun t ⟨h1,h2⟩=>⟨by omega,h2⟩,fun ⟨t,h1,h2⟩=>c.2 ⟨t,?_,h2⟩⟩
  rcases Nat.lt_succ_iff_lt_or_eq.1 h1 with h3|h3
  ·exact h3
  rw [h3] at h2;exact absurd h2 h
def Wi (ns G:List aB) (q j:Nat) (kp:Bool):Prop:=kp=true↔∃ t,t < j/\(nd G t).id=(nd ns q).id
end cg
end
section
open Go.RowKit Go.Maps bD aE
section k
variable {xs:List cO} {z root:Int} {j n:Nat} {fs:List bP} {S:aH} {c:aF} {k:Int}
theorem NG:(kr root c).op=c.op:=by
  unfold kr;split<;>rfl
end k
end
section
open Go.RowKit Go.Maps bD aE
section z
variable {In:Nat->Prop} {S0 S:aH} {root k:Int} {fs:List bP} {c:aF} {n:Nat} {X:FM} {ns:List aB}
theorem bV.cA (h:bV In S0 S) (hI:Inv S) (hr:c.op=1->∀ t,aE.get S.idx c.other=some t->In t.k):bV In S0 (Proofs.YtidjcblbdmfalaaGreat.cA S c).1:=h.cP (c:={ c with answer:=0,code:=230 }) hI hr
theorem bV.fN (hr:∀ k:Nat,root=(k:Int)->In k):∀ (xs:List cO) {S:aH},bV In S0 S->Inv S->bV In S0 (Proofs.YtidjcblbdmfalaaGreat.fN root S xs)
  | [],_,h,_=>h
  | _::r,_,h,hI=>bV.fN hr r (h.cF hI (fun _ e=>hr _ (hI.idx _ _ e).1)) hI.cF
theorem bV.gU {xs:List cO} (h:bV In S0 S) (hI:Inv S) (hr:∀ k:Nat,root=(k:Int)->In k):bV In S0 (Proofs.YtidjcblbdmfalaaGreat.gU fs xs root n S c).1:=by
  have h1:=bV.fN hr (bK xs n) h hI
  have bU:=hI.fN (root:=root) (bK xs n)
  have hd:∀ c':aF,(c'.op=1->c'.other=root)->bV In S0 (Proofs.YtidjcblbdmfalaaGreat.cA (Proofs.YtidjcblbdmfalaaGreat.fN root S (bK xs n)) c').1:=fun c' hc=>h1.cA bU (fun q t e=>hr _ (by rw [← hc q];exact (bU.idx _ _ e).1))
  have hrc:(kr root c).op=1->(kr root c).other=root:=by
    intro q
    rw [NG] at q
    unfold kr
    rw [if_pos q]
  unfold Proofs.YtidjcblbdmfalaaGreat.gU br
  split
  ·show bV _ _ (if _ then _ else _)
   split
   ·exact hd _ hrc
   exact h1
  split
  ·exact h1
  split
  ·rename_i q
   exact hd _ (fun e=>by
     have e2:(kr root c).op=1:=e
     have:=q.2.1
     omega)
  exact hd _ hrc
theorem NH (h0:cT X ns root=0):(bE ns root).2=0:=by
  obtain⟨hc,hg⟩:=xZ h0
  have hb:fL ns root=0:=by
    rcases Fq ns root with ⟨i,hi⟩|h
    ·by_cases hk:(nd ns i).kind=2
     ·have ha:=qR hg.rise hi.1
      rw [hi.2.1] at ha
      exact DS hg (by rw [ha.1];omega) (by rw [ha.2];exact hk)
     rw [wm hc hg hi hk] at h0;cases h0
    rw [uD hc hg h] at h0;cases h0
  rw [mP hb]
structure kN (ns G:List aB) (U:List Int) (q j:Nat) (fl kp:Bool):Prop where
  a:fl=true->kp=true
  b:(nd ns q).id∉U->∀ t,t < j->(nd G t).id=(nd ns q).id->kp=true
variable {G:List aB} {U:List Int} {q j z:Nat} {fl kp:Bool}
theorem kN.zero:kN ns G U q 0 fl fl:=⟨fun h=>h,fun _ _ h=>absurd h (Nat.not_lt_zero _)⟩
theorem kN.hit:kN ns G U q j fl true:=⟨fun _=>rfl,fun _ _ _ _=>rfl⟩
theorem kN.miss (h:kN ns G U q j fl kp) (hn:(nd ns q).id∉U->(nd G j).id≠(nd ns q).id):kN ns G U q (j+1) fl kp:=⟨h.a,fun hu t ht e=>by
  rcases Nat.lt_succ_iff_lt_or_eq.1 ht with h1|h1
  ·exact h.b hu t h1 e
  rw [h1] at e;exact absurd e (hn hu)⟩
theorem kN.all (h:kN ns G U q j fl kp) (hz:U.length=z) (hj:G.length=j) (hc:mA U (nd ns q).id z fl) (hk:(nd ns q).id∉U->∃ t,t < G.length/\nd G t=nd ns q):kp=true:=by
  by_cases hu:(nd ns q).id∈U
  ·obtain⟨t,ht,e⟩:=List.getElem_of_mem hu
   exact h.a (hc.2 ⟨t,by omega,by rw [List.getD_eq_getElem?_getD,List.getElem?_eq_getElem ht];exact e⟩)
  obtain⟨t,ht,e⟩:=hk hu
  exact h.b hu t (by omega) (by rw [e])
end z
end
section
open Go.RowKit
section y
variable {P:Program} {β uK:Bs} {N:Nat} {ops:Array Oper} {S:List HP} {l l':List (Bool×Nat)} {fr fr':Fr} {hps:List HP} {Q:Post} {i:Nat} {bC:List Prop}
def lq (P:Program) (ops:Array Oper) (Q:Post) (R S:World->Prop):List (Bool×Nat)->Act->World->Prop
  | [],a,w=>Q .normal a w
  | (false,i)::l,a,w=>wpOp P ops Q i (fun a' w'=>(l=[]\/S w')/\lq P ops Q R S l a' w') a w
  | (true,i)::l,a,w=>∃ o v,ops[i]?=some o/\YieldsIf P ops R o v a/\lq P ops Q R S l (a.put o.dst v) w
theorem Al {R S:World->Prop} (hs:∀ w,S w->R w):∀ (l:List (Bool×Nat)) (a:Act) (w:World),lq P ops Q R S l a w->kz P ops Q S l a w
  | [],_,_,h=>h
  | (false,i)::l,a,w,h=>by
    unfold lq at h;unfold kz
    exact wpOp_mono (fun a' w' h'=>⟨h'.1,Al hs l a' w' h'.2⟩) h
  | (true,i)::l,a,w,h=>by
    unfold lq at h;unfold kz
    obtain⟨o,v,h1,h2,h3⟩:=h
    exact⟨o,v,h1,h2.imp (fun q=>⟨q.1,fun w hw=>q.2 w (hs w hw)⟩) id,Al hs l _ w h3⟩
def Bs.bare (β:Bs):Bs:=⟨fun _=>False,β.w0⟩
theorem Sat.bare {w:World} (h:Sat β S w):Sat β.bare [] w:=by
  obtain⟨ho,_⟩:=h
  exact⟨⟨ho.os,ho.tape,ho.output,ho.size,fun k hk=>hk.elim⟩,fun _ _=>False,fun i p h=>absurd h (by simp),fun i hi=>absurd hi (Nat.not_lt_zero i),fun i j hi=>absurd hi (Nat.not_lt_zero i)⟩
def Grown (a b:Bs):Prop:=a=b\/a.le b
theorem Grown.trans {a b c:Bs} (h:Grown a b) (g:b.le c):Grown a c:=.inr (h.elim (fun e=>e ▸ g) (fun h=>h.trans g))
theorem Grown.sat {a b:Bs} {w:World} (h:Grown a b) (hS:Sat b S w):Sat a S w:=h.elim (fun e=>e ▸ hS) (fun h=>hS.Az h)
def qg (P:Program) (β uK:Bs) (N:Nat) (ops:Array Oper) (S:List HP) (l:List (Bool×Nat)) (fr:Fr) (hps:List HP) (Q:Post):Prop:=
  ∀ junk w,Sat β hps w->lq P ops (NP Q) (Sat uK.bare []) (Sat uK S) l (bX N fr junk) w
theorem iE.VZ (K:qg P β β N ops S l fr hps Q):iE P β N ops S l fr hps Q:=fun junk w hS=>Al (fun _ h=>h.bare) _ _ _ (K junk w hS)
theorem qg.RX {ι:Type} {B:ι->Bs} {Φ:ι->Prop} {fr':ι->Fr} {hp':ι->List HP} (pk:List Nat) (hle:Grown uK β) (hg:gB ops i=true) (h:aj P β N (o4 ops i) i fr hps (NP (Qd β N B Φ fr' hp'))) (hn:bB pk=true) (hp:∀ j,bQ (hp' j) pk=some S)
    (K:∀ j,β.le (B j)->Φ j->qg P (B j) uK N ops S l (fr' j) (hp' j) Q):qg P β uK N ops S ((false,i)::l) fr hps Q:=by
  intro junk w hS
  unfold lq
  refine o5 hg (nj (Q':=_) (fun a w ⟨j,gj,hle2,wU,ha,dM⟩=>?_) _ (h junk w hS))
  subst ha
  exact⟨.inr ((hle.trans hle2).sat (dM.pick hn (hp j))),K j hle2 wU gj w dM⟩
theorem qg.last (hg:gB ops i=true) (h:aj P β N (o4 ops i) i fr hps (NP Q)):qg P β uK N ops S [(false,i)] fr hps Q:=by
  intro junk w hS
  unfold lq
  exact o5 hg (nj (Q':=_) (fun a w hq=>⟨.inl rfl,by unfold lq;exact hq⟩) _ (h junk w hS))
theorem tL {junk:Nat->Value} {w:World} {S2:World->Prop}:∀ {hs:List OH} {is:List Nat} {fr fr':Fr} {T T':SS},o6 P β N junk ops hs is fr T=some (fr',T')->(∀ p,p∈T'.bC->p)->T.used=true->T.hps=S →
    lq P ops (NP Q) (Sat β S) S2 l (bX N fr' junk) w->lq P ops (NP Q) (Sat β S) S2 (is.map (fun i=>(true,i))++l) (bX N fr junk) w
  | [],[],fr,fr',T,T',h,ho,hu,hT,hK=>by cases h;exact hK
  | h::hs,i::is,fr,fr',T,T',hr,ho,hu,hT,hK=>by
    unfold o6 at hr
    repeat' split at hr
    all_goals first|(cases hr;done)|skip
    ·rename_i o hget _ wq _ v T1 h0 _ hv
     obtain⟨e1,e2⟩:=rW h0
     rw [List.map_cons,List.cons_append]
     unfold lq
     refine⟨o,v,hget,.inl ⟨by rw [eM];exact wq,fun w' dM=>?_⟩,?_⟩
     ·rw [eF]
      obtain⟨w2,h1,_,_,h4⟩:=lF h0 (fun p hp=>ho p (rT hr p hp)) (by rw [hT];exact dM) (fun e=>by rw [hu] at e;cases e)
      obtain⟨ew,_⟩:=h4 rfl
      rw [ew] at h1
      rcases h1 with h1|⟨h1,_⟩
      ·exact h1
      exact absurd h1 (qx hv)
     rw [d6]
     exact tL hr ho (e2.trans hu) (e1.trans hT) hK
    rename_i o hget _ wq
    rw [List.map_cons,List.cons_append]
    unfold lq
    refine⟨o,undef,hget,.inr ⟨by rw [eM];exact wq,rfl⟩,?_⟩
    rw [d6]
    exact tL hr ho hu hT hK
  | [],_::_,_,_,_,_,h,_,_,_,_=>by cases h
  | _::_,[],_,_,_,_,h,_,_,_,_=>by cases h
theorem gH (l2:List (Bool×Nat)) (nu:Fr) (is:List Nat) (os:List (Nat×OP)) (K:qg P β uK N ops S l2 nu hps Q)
    (h:∀ junk,tD P uK.bare N junk ops (jv (gT is.length os 0)) is fr [] (bO nu)=some (nu,owed (gT is.length os 0)):=by intro _;kernel_rfl) (hl:l'=is.map (fun i=>(true,i))++l2:=by rfl):qg P β uK N ops S l' fr hps Q:=by
  intro junk w hS
  subst hl
  have h0:=h junk
  unfold tD at h0
  split at h0
  ·rename_i lu S1 h1
   injection h0 with h0
   injection h0 with e1 e2
   have hK:=K (lk lu junk) w hS
   rw [← e1,← jr] at hK
   exact tL h1 (fun p hp=>(nT _).mem (by rw [← e2];exact hp)) rfl rfl hK
  cases h0
end y
end
section
open Go.RowKit Go.Maps bD aE
attribute [local irreducible] aj aP af ai
theorem law_worldConfined (W:World) (A:Option Addr) (c:Nat) (ns:List aB) (Y:Lay) (hG:au (B0 W) A ns Y) (hB:eV ns 1048576) (X:FM) (root:Int) (Af:Option Addr) (cf:Nat) (fs:List bP) (hF:cE (B0 W) Af (bS eX fs)) (lV:ig fs 1048576) (Aa:Option Addr) (ca:Nat) (xs:List cO) (hA:cE (B0 W) Aa (bS fT xs)) (hab:ja xs 1048576) (hrw:(Lit.int .i64 root).wf=true) (A1:Option Addr) (c1:Nat) (cs:List aF) (hS:ez (B0 W) A1 cs) (_Wz:cs.length<=1048576) (hxc:cs.length<=c1) (hg:jg (B0 W)) :
    Spec Tryz.prog (B0 W) 6 #[.agg #[.slice A (ns.length) (c),vI (root),vI (X.cN),vI (X.cB),vI (X.cH),vI (X.cS),vI (X.cZ),.slice Af (fs.length) (cf),.slice Aa (xs.length) (ca)],.slice A1 (cs.length) (c1)] [] (fun v _=>v=.bool true):=by
 have hle0:=B0.refl W
 have hfl:=lV.len
 have hxn:=hab.len
 have hz:nE root:=PG hrw
 refine Spec.enter Tryz.func6 rfl Tryz.ntmps6 (Nat.le_of_ble_eq_true rfl) (fun R=>?_)
 refine SR (gN 2 (fun b1=>[(2,vP b1)]) (fun _=>[]) (fun _=>[]) (fun b1=>.blk b1 [.slice A (ns.length) (c),vI (root),vI (X.cN),vI (X.cB),vI (X.cH),vI (X.cS),vI (X.cZ),.slice Af (fs.length) (cf),.slice Aa (xs.length) (ca)] 34) (fun b1=>?_))
 refine NN (af.seq (SR (aj.jA (d:=(some 14)) (R:=[.abs R,.blk b1 [.slice A (ns.length) (c),vI (root),vI (X.cN),vI (X.cB),vI (X.cH),vI (X.cS),vI (X.cZ),.slice Af (fs.length) (cf),.slice Aa (xs.length) (ca)] 34]) (pk:=[0,1]) (fun _=>by kernel_rfl) (Nx hg) rfl (by kernel_rfl) ?_)))
 rintro Ez _ _ iG ⟨rfl,rfl⟩
 replace hG:=hG.le iG
 replace hF:=hF.le iG
 replace hA:=hA.le iG
 replace hS:=hS.le iG
 replace hg:=hg.le iG
 replace hle0:=hle0.trans iG
 refine gK 1 [(15,.bool false)] [] ?_
 refine NN (CF (af.skip (NX (af.seq ?_))))
 by_cases h0:cT X ns root=0
 ·have hok:=xZ h0
  have hu:=NH h0
  refine af.region (gK 1 [(17,.agg #[.slice A (ns.length) (c),vI (root),vI (X.cN),vI (X.cB),vI (X.cH),vI (X.cS),vI (X.cZ),.slice Af (fs.length) (cf),.slice Aa (xs.length) (ca)])] [(0,A_ 1 b1 9)] ?_)
  refine aj.jA (d:=(some 18)) (R:=[.abs R,.blk b1 [.slice A (ns.length) (c),vI (root),vI (X.cN),vI (X.cB),vI (X.cH),vI (X.cS),vI (X.cZ),.slice Af (fs.length) (cf),.slice Aa (xs.length) (ca)] 34]) (pk:=[0,1]) (fun _=>by kernel_rfl) (Cb (β:=Ez) (X:=X) h0 A c Y hG hB Af cf fs hF (lV.wide (by decide)) Aa ca xs hA hab) rfl (by kernel_rfl) ?_
  rintro Lm _ _ jK ⟨N,G,V,rfl,rfl,pP⟩
  replace hG:=hG.le jK
  replace hF:=hF.le jK
  replace hA:=hA.le jK
  replace hS:=hS.le jK
  replace hg:=hg.le jK
  replace hle0:=hle0.trans jK
  refine gK 5 [(5,vP G.w),(6,vI 0)] [] ?_
  refine NN (af.seq (SR (gK 6 [(26,.bool false)] [(1,p_ ⟨[],none,none,none,some (.bool false)⟩ [((.bool false:Value))=(.bool false)] ⟨rfl,trivial⟩)] ?_)))
  refine NN (CF (af.skip (NX (af.seq (af.nk (S:=[.blk b1 [.slice A (ns.length) (c),vI (root),vI (X.cN),vI (X.cB),vI (X.cH),vI (X.cS),vI (X.cZ),.slice Af (fs.length) (cf),.slice Aa (xs.length) (ca)] 34]) [(true,0),(true,1),(true,3),(true,4),(false,2),(false,5),(true,6),(true,7),(true,8),(true,9),(false,10)] [2] (by kernel_rfl) (by kernel_rfl) rfl (by kernel_rfl) ?_)))))
  refine gG [(false,2),(false,5),(true,6),(true,7),(true,8),(true,9),(false,10)] [(1,.slice A1 (cs.length) (c1)),(2,vP b1),(5,vP G.w),(35,.agg #[.slice A (ns.length) (c)]),(38,vI (root))] [0,1,3,4] [(1,a_ 0 b1),(3,a_ 0 b1)] ?_
  refine iE.VZ ?_
  have Ij:Grown Lm Lm:=.inl rfl
  refine qg.RX (ι:=Nat×Bs×(Option Addr)×Lay) (B:=fun ((c5,yt,B4,K6):Nat×Bs×(Option Addr)×Lay)=>yt) (Φ:=fun ((c5,yt,B4,K6):Nat×Bs×(Option Addr)×Lay)=>(au yt B4 ns K6)) (fr':=fun ((c5,yt,B4,K6):Nat×Bs×(Option Addr)×Lay)=>[(1,.slice A1 (cs.length) (c1)),(2,vP b1),(5,vP G.w),(36,.agg #[.slice B4 (ns.length) (c5)]),(38,vI (root))]) (hp':=fun ((c5,yt,B4,K6):Nat×Bs×(Option Addr)×Lay)=>[wA G fs xs root N.1 V ([]),.abs R,.blk b1 [.slice A (ns.length) (c),vI (root),vI (X.cN),vI (X.cB),vI (X.cH),vI (X.cS),vI (X.cZ),.slice Af (fs.length) (cf),.slice Aa (xs.length) (ca)] 34]) [2] Ij (by kernel_rfl) ?_ rfl (fun _=>by kernel_rfl) ?_
  ·refine aj.jA (d:=(some 36)) (R:=[wA G fs xs root N.1 V ([]),.abs R,.blk b1 [.slice A (ns.length) (c),vI (root),vI (X.cN),vI (X.cB),vI (X.cH),vI (X.cS),vI (X.cZ),.slice Af (fs.length) (cf),.slice Aa (xs.length) (ca)] 34]) (pk:=[0,1,2]) (fun _=>by kernel_rfl) (xg A c ns Y hG (tS hB) (Bb hB)) rfl (by kernel_rfl) ?_
   rintro yt _ _ eH ⟨B4,c5,K6,rfl,rfl,zh⟩
   replace hG:=hG.le eH
   replace hF:=hF.le eH
   replace hA:=hA.le eH
   replace hS:=hS.le eH
   replace hg:=hg.le eH
   replace pP:=pP.le eH
   replace hle0:=hle0.trans eH
   refine NL ?_
   exact ai.Qe (c5,yt,B4,K6) rfl eH (zh) (idx:=[1,2,5,36,38]) (pk:=[0,1,2]) (fun _=>by kernel_rfl) rfl (by kernel_rfl)
  rintro⟨c5,yt,B4,K6⟩ eH zh
  show qg _ yt _ _ _ _ _ [(1,.slice A1 (cs.length) (c1)),(2,vP b1),(5,vP G.w),(36,.agg #[.slice B4 (ns.length) (c5)]),(38,vI (root))] [wA G fs xs root N.1 V ([]),.abs R,.blk b1 [.slice A (ns.length) (c),vI (root),vI (X.cN),vI (X.cB),vI (X.cH),vI (X.cS),vI (X.cZ),.slice Af (fs.length) (cf),.slice Aa (xs.length) (ca)] 34] _
  replace hG:=hG.le eH
  replace hF:=hF.le eH
  replace hA:=hA.le eH
  replace hS:=hS.le eH
  replace hg:=hg.le eH
  replace pP:=pP.le eH
  replace hle0:=hle0.trans eH
  replace Ij:=Ij.trans eH
  refine qg.RX (ι:=Nat×Bs×(Option Addr)) (B:=fun ((c9,kI,B8):Nat×Bs×(Option Addr))=>kI) (Φ:=fun ((c9,kI,B8):Nat×Bs×(Option Addr))=>(cE kI B8 (ij (bE ns root).1))) (fr':=fun ((c9,kI,B8):Nat×Bs×(Option Addr))=>[(1,.slice A1 (cs.length) (c1)),(2,vP b1),(5,vP G.w),(39,.tuple #[.slice B8 ((bE ns root).1.length) (c9),vI ((bE ns root).2)])]) (hp':=fun ((c9,kI,B8):Nat×Bs×(Option Addr))=>[wA G fs xs root N.1 V ([]),.abs R,.blk b1 [.slice A (ns.length) (c),vI (root),vI (X.cN),vI (X.cB),vI (X.cH),vI (X.cS),vI (X.cZ),.slice Af (fs.length) (cf),.slice Aa (xs.length) (ca)] 34]) [2] Ij (by kernel_rfl) ?_ rfl (fun _=>by kernel_rfl) ?_
  ·refine aj.jA (d:=(some 39)) (R:=[wA G fs xs root N.1 V ([]),.abs R,.blk b1 [.slice A (ns.length) (c),vI (root),vI (X.cN),vI (X.cB),vI (X.cH),vI (X.cS),vI (X.cZ),.slice Af (fs.length) (cf),.slice Aa (xs.length) (ca)] 34]) (pk:=[0,1,2]) (fun _=>by kernel_rfl) (NC B4 c5 ns K6 zh hB root hz) rfl (by kernel_rfl) ?_
   rintro kI _ _ dH ⟨B8,c9,rfl,rfl,hU⟩
   replace hG:=hG.le dH
   replace hF:=hF.le dH
   replace hA:=hA.le dH
   replace hS:=hS.le dH
   replace hg:=hg.le dH
   replace pP:=pP.le dH
   replace zh:=zh.le dH
   replace hle0:=hle0.trans dH
   refine NL ?_
   exact ai.Qe (c9,kI,B8) rfl dH (hU) (idx:=[1,2,5,39]) (pk:=[0,1,2]) (fun _=>by kernel_rfl) rfl (by kernel_rfl)
  rintro⟨c9,kI,B8⟩ dH hU
  show qg _ kI _ _ _ _ _ [(1,.slice A1 (cs.length) (c1)),(2,vP b1),(5,vP G.w),(39,.tuple #[.slice B8 ((bE ns root).1.length) (c9),vI ((bE ns root).2)])] [wA G fs xs root N.1 V ([]),.abs R,.blk b1 [.slice A (ns.length) (c),vI (root),vI (X.cN),vI (X.cB),vI (X.cH),vI (X.cS),vI (X.cZ),.slice Af (fs.length) (cf),.slice Aa (xs.length) (ca)] 34] _
  replace hG:=hG.le dH
  replace hF:=hF.le dH
  replace hA:=hA.le dH
  replace hS:=hS.le dH
  replace hg:=hg.le dH
  replace pP:=pP.le dH
  replace zh:=zh.le dH
  replace hle0:=hle0.trans dH
  replace Ij:=Ij.trans dH
  refine gH [(false,10)] [(1,.slice A1 (cs.length) (c1)),(2,vP b1),(5,vP G.w),(7,.slice B8 ((bE ns root).1.length) (c9)),(41,vI ((bE ns root).2))] [6,7,8,9] [] ?_
  refine qg.last (by kernel_rfl) ?_
  refine gK 1 [(6,vI ((bE ns root).2))] [] ?_
  refine NL (ai.np (NX (af.seq (SR ?_))))
  refine gK 2 [(43,.bool false)] [(1,p_ ⟨[],none,none,none,some (.bool false)⟩ [((.bool (!(decide (((bE ns root).2:Int)=(0:Int)))):Value))=(.bool false)] ⟨congrArg (fun b=>Value.bool !b) (decide_eq_true hu),trivial⟩)] ?_
  refine NN (CF (af.skip (NX (SR (gK 1 [(44,.slice A1 (cs.length) (c1))] [] ?_)))))
  refine gL [] (Rq A1 c1 cs hxc) ?_
  rintro _ _ ⟨n,hn,Xa,rfl,rfl⟩
  refine gK 1 [(1,.slice A1 (n) (c1))] [] ?_
  refine NN (af.seq (SR (gK 1 [(8,vI 0)] [] ?_)))
  refine NN (af.block ?_)
  refine af.NK (ι:=Nat×Bs×aH×WV×(List aF)) (fun ((i,b,S,V,tr):Nat×Bs×aH×WV×(List aF))=>b) (fun ((i,b,S,V,tr):Nat×Bs×aH×WV×(List aF))=>(i<=n)/\((B0 W).le b)/\(au b A ns Y)/\(ez b A1 cs)/\(jg b)/\(cE b B8 (ij (bE ns root).1))/\(Inv S)/\(jX b G.Z xs)/\(tr.length=i)/\(bV (Gb ns root N.1.X.last) N.1 S)) (fun ((i,b,S,V,tr):Nat×Bs×aH×WV×(List aF))=>n - i) (fun ((i,b,S,V,tr):Nat×Bs×aH×WV×(List aF))=>[(1,.slice A1 (n) (c1)),(2,vP b1),(5,vP G.w),(7,.slice B8 ((bE ns root).1.length) (c9)),(8,vI ↑i)]) (fun ((i,b,S,V,tr):Nat×Bs×aH×WV×(List aF))=>[.blk b1 [.slice A (ns.length) (c),vI (root),vI (X.cN),vI (X.cB),vI (X.cH),vI (X.cS),vI (X.cZ),.slice Af (fs.length) (cf),.slice Aa (xs.length) (ca)] 34,wA G fs xs root S V tr,.abs R]) (0,kI,N.1,V,[]) rfl (idx:=[1,2,5,7,8]) (pk:=[2,0,1]) (show (0<=n)/\((B0 W).le kI)/\(au kI A ns Y)/\(ez kI A1 cs)/\(jg kI)/\(cE kI B8 (ij (bE ns root).1))/\(Inv N.1)/\(jX kI G.Z xs)/\(([]).length=0)/\(bV (Gb ns root N.1.X.last) N.1 N.1) from ⟨Nat.zero_le _,hle0,hG,hS,hg,hU,N.2.full,pP,rfl,JI N.2 hok.2 hu⟩) (fun _=>by kernel_rfl) rfl (by kernel_rfl) ?_
  rintro⟨i,b,S,V,tr⟩ ⟨hi,hle0,hG,hS,hg,hU,hI,pP,htr,hC⟩
  show af _ b _ _ [(1,.slice A1 (n) (c1)),(2,vP b1),(5,vP G.w),(7,.slice B8 ((bE ns root).1.length) (c9)),(8,vI ↑i)] [.blk b1 [.slice A (ns.length) (c),vI (root),vI (X.cN),vI (X.cB),vI (X.cH),vI (X.cS),vI (X.cZ),.slice Af (fs.length) (cf),.slice Aa (xs.length) (ca)] 34,wA G fs xs root S V tr,.abs R] _
  refine af.seq (SR (gK 4 [(49,.bool (decide ((((i:Nat):Int):Int) < (((n:Nat):Int):Int))))] [] ?_))
  refine NN (af.aV (p:=(((i:Nat):Int):Int) < (((n:Nat):Int):Int)) (fun _=>by kernel_rfl) (fun rA=>?_) (fun rA=>?_))
  ·refine af.skip (NX (af.seq (af.block (af.region ?_))))
   refine gK 5 [(52,vP G.w),(56,.agg #[vI ((fA cs i).op),vI ((fA cs i).handle),vI ((fA cs i).other),.string (fA cs i).name,.string (fA cs i).text,.slice (fA cs i).dA ((fA cs i).data.length) ((fA cs i).dC),vI ((fA cs i).mode),vI ((fA cs i).uid),vI ((fA cs i).gid),vI ((fA cs i).sec),vI ((fA cs i).nano),vI ((fA cs i).code),vI ((fA cs i).answer)])] [(3,p_ ⟨[],some i,none,some ⟨(ar A1),aq A1,none⟩,none⟩ [((i:Nat):Int)=((i:Nat):Int),i < n,(⟨(ar A1),aq A1,none⟩:Addr).spot=none,(A1:Option Addr)=some ⟨(ar A1),aq A1,none⟩] ⟨rfl,by omega,rfl,ez.hd hS (i:=i) (by omega),trivial⟩),(4,p_ ⟨[.old (.int .i64 ((fA cs i).op)),.old (.int .i64 ((fA cs i).handle)),.old (.int .i64 ((fA cs i).other)),.old (.string (fA cs i).name),.old (.string (fA cs i).text),.old (.slice (fA cs i).dA ((fA cs i).data.length) ((fA cs i).dC)),.old (.int .i64 ((fA cs i).mode)),.old (.int .i64 ((fA cs i).uid)),.old (.int .i64 ((fA cs i).gid)),.old (.int .i64 ((fA cs i).sec)),.old (.int .i64 ((fA cs i).nano)),.old (.int .i64 ((fA cs i).code)),.old (.int .i64 ((fA cs i).answer))],none,none,none,none⟩ [(Rd b ⟨(ar A1),aq A1+i * 13+12,none⟩ (.int .i64 ((fA cs i).answer))),(Rd b ⟨(ar A1),aq A1+i * 13+11,none⟩ (.int .i64 ((fA cs i).code))),(Rd b ⟨(ar A1),aq A1+i * 13+10,none⟩ (.int .i64 ((fA cs i).nano))),(Rd b ⟨(ar A1),aq A1+i * 13+9,none⟩ (.int .i64 ((fA cs i).sec))),(Rd b ⟨(ar A1),aq A1+i * 13+8,none⟩ (.int .i64 ((fA cs i).gid))),(Rd b ⟨(ar A1),aq A1+i * 13+7,none⟩ (.int .i64 ((fA cs i).uid))),(Rd b ⟨(ar A1),aq A1+i * 13+6,none⟩ (.int .i64 ((fA cs i).mode))),(Rd b ⟨(ar A1),aq A1+i * 13+5,none⟩ (.slice (fA cs i).dA ((fA cs i).data.length) ((fA cs i).dC))),(Rd b ⟨(ar A1),aq A1+i * 13+4,none⟩ (.string (fA cs i).text)),(Rd b ⟨(ar A1),aq A1+i * 13+3,none⟩ (.string (fA cs i).name)),(Rd b ⟨(ar A1),aq A1+i * 13+2,none⟩ (.int .i64 ((fA cs i).other))),(Rd b ⟨(ar A1),aq A1+i * 13+1,none⟩ (.int .i64 ((fA cs i).handle))),(Rd b ⟨(ar A1),aq A1+i * 13,none⟩ (.int .i64 ((fA cs i).op)))] ⟨ez.rd hS (i:=i) (by omega) (j:=12) rfl,ez.rd hS (i:=i) (by omega) (j:=11) rfl,ez.rd hS (i:=i) (by omega) (j:=10) rfl,ez.rd hS (i:=i) (by omega) (j:=9) rfl,ez.rd hS (i:=i) (by omega) (j:=8) rfl,ez.rd hS (i:=i) (by omega) (j:=7) rfl,ez.rd hS (i:=i) (by omega) (j:=6) rfl,ez.rd hS (i:=i) (by omega) (j:=5) rfl,ez.rd hS (i:=i) (by omega) (j:=4) rfl,ez.rd hS (i:=i) (by omega) (j:=3) rfl,ez.rd hS (i:=i) (by omega) (j:=2) rfl,ez.rd hS (i:=i) (by omega) (j:=1) rfl,ez.rd hS (i:=i) (by omega) (j:=0) rfl,trivial⟩)] ?_
   refine aj.jA (d:=(some 57)) (R:=[.blk b1 [.slice A (ns.length) (c),vI (root),vI (X.cN),vI (X.cB),vI (X.cH),vI (X.cS),vI (X.cZ),.slice Af (fs.length) (cf),.slice Aa (xs.length) (ca)] 34,wA G fs xs root S V tr,.abs R]) (pk:=[0,1,2]) (fun _=>by kernel_rfl) (GL (fA cs i) (hS.q i (by omega)).data (hS.q i (by omega)).len) rfl (by kernel_rfl) ?_
   rintro JD _ _ iF ⟨Bc,pc,rfl,rfl,RY,hpc⟩
   replace hG:=hG.le iF
   replace hS:=hS.le iF
   replace hg:=hg.le iF
   replace pP:=pP.le iF
   replace hU:=hU.le iF
   replace hle0:=hle0.trans iF
   obtain⟨⟨Sx,cx⟩,RZ⟩:∃ q,gU fs xs root (tr.length+1) S (fA cs i)=q:=⟨_,rfl⟩
   refine aj.jA (d:=(some 58)) (R:=[.blk b1 [.slice A (ns.length) (c),vI (root),vI (X.cN),vI (X.cB),vI (X.cH),vI (X.cS),vI (X.cZ),.slice Af (fs.length) (cf),.slice Aa (xs.length) (ca)] 34,.abs R]) (pk:=[1,0,2]) (fun _=>by kernel_rfl) (BZ (β:=JD) (G:=G) (fs:=fs) (xs:=xs) (S:=S) (V:=V) (tr:=tr) (c:=bW Bc pc (fA cs i)) (c2:=bW Bc pc cx) (S2:=Sx) hrw hI (by omega) pP hab hg RY (hS.q i (by omega)).len (hS.q i (by omega)).hw (hS.q i (by omega)).ow (hS.q i (by omega)).name (hS.q i (by omega)).text (KD.trans (by rw [RZ]))) rfl (by kernel_rfl) ?_
   rintro wv _ _ iU ⟨V0,Ud,Ue,Xb,Xc,rfl,rfl,WA,WB,_⟩
   replace hG:=hG.le iU
   replace hS:=hS.le iU
   replace hg:=hg.le iU
   replace pP:=pP.le iU
   replace hU:=hU.le iU
   replace RY:=RY.le iU
   replace hle0:=hle0.trans iU
   refine NL (ai.aJ (NX (af.region ?_)))
   refine gK 3 [(8,vI ↑(i+1))] [(1,p_ ⟨[],none,none,none,some (vI ↑(i+1))⟩ [(Value.int .i64 (IntKind.wrap .i64 (((i:Nat):Int)+1)))=(.int .i64 ↑(i+1))] ⟨bn (by omega) (by omega) (by omega),trivial⟩)] ?_
   refine NL ?_
   exact ai.NM ((i+1),wv,Sx,V0,(tr++[bW Ud Ue cx])) (hb:=rfl) (idx:=[1,2,5,7,8]) (pk:=[1,0,2]) (show (((i+1))<=n)/\((B0 W).le wv)/\(au wv A ns Y)/\(ez wv A1 cs)/\(jg wv)/\(cE wv B8 (ij (bE ns root).1))/\(Inv Sx)/\(jX wv G.Z xs)/\(((tr++[bW Ud Ue cx])).length=((i+1)))/\(bV (Gb ns root N.1.X.last) N.1 Sx) from ⟨by omega,hle0,hG,hS,hg,hU,(by have h:=Inv.gU (fs:=fs) (xs:=xs) (root:=root) (n:=tr.length+1) (c:=fA cs i) hI;rw [RZ] at h;exact h),pP,by rw [List.length_append,htr];rfl,(by have h:=bV.gU (fs:=fs) (xs:=xs) (n:=tr.length+1) (c:=fA cs i) hC hI (fun k e=>ND hu k e);rw [RZ] at h;exact h)⟩) (by show n - ((i+1)) < n - i;omega) (fun _=>by kernel_rfl) rfl (by kernel_rfl)
  refine af.exit (ai.aS (ai.aS (ai.cD (NX (SR ?_)))))
  refine gK 1 [(59,vP G.w)] [] ?_
  refine aj.jA (d:=(some 60)) (R:=[.blk b1 [.slice A (ns.length) (c),vI (root),vI (X.cN),vI (X.cB),vI (X.cH),vI (X.cS),vI (X.cZ),.slice Af (fs.length) (cf),.slice Aa (xs.length) (ca)] 34,.abs R]) (pk:=[1,0,2]) (fun _=>by kernel_rfl) (Ca (β:=b) (G:=G) (fs:=fs) (xs:=xs) (root:=root) (S:=S) (V:=V) (tr:=tr) hI) rfl (by kernel_rfl) ?_
  rintro jE _ _ qh ⟨gF,DX,oK,rfl,rfl,hH⟩
  replace hG:=hG.le qh
  replace hS:=hS.le qh
  replace hg:=hg.le qh
  replace pP:=pP.le qh
  replace hU:=hU.le qh
  replace hle0:=hle0.trans qh
  refine gN 2 (fun jV=>[(9,vP jV)]) (fun jV=>[(1,a_ 3 jV)]) (fun _=>[]) (fun jV=>.blk jV [.slice gF ((av S).length) (DX)] 24) (fun jV=>?_)
  refine NN (af.seq (SR ?_))
  have hgl:=Nk hI.toInv0
  have hnl:=tS hB
  have pu:=LD ns root
  refine gK 1 [(10,vI 0)] [] ?_
  refine NN (af.block ?_)
  refine af.loop (ι:=Nat) (fun (q:Nat)=>(q<=ns.length)) (fun (q:Nat)=>ns.length - q) (fun (q:Nat)=>[(2,vP b1),(7,.slice B8 ((bE ns root).1.length) (c9)),(9,vP jV),(10,vI ↑q)]) (fun (q:Nat)=>[wA G fs xs root S V tr,.blk b1 [.slice A (ns.length) (c),vI (root),vI (X.cN),vI (X.cB),vI (X.cH),vI (X.cS),vI (X.cZ),.slice Af (fs.length) (cf),.slice Aa (xs.length) (ca)] 34,.abs R,.blk jV [.slice gF ((av S).length) (DX)] 24]) 0 (idx:=[2,7,9,10]) (pk:=[0,1,2,3]) (show (0<=ns.length) from Nat.zero_le _) (fun _=>by kernel_rfl) rfl (by kernel_rfl) ?_
  rintro q hq
  show af _ _ _ _ [(2,vP b1),(7,.slice B8 ((bE ns root).1.length) (c9)),(9,vP jV),(10,vI ↑q)] [wA G fs xs root S V tr,.blk b1 [.slice A (ns.length) (c),vI (root),vI (X.cN),vI (X.cB),vI (X.cH),vI (X.cS),vI (X.cZ),.slice Af (fs.length) (cf),.slice Aa (xs.length) (ca)] 34,.abs R,.blk jV [.slice gF ((av S).length) (DX)] 24] _
  refine af.seq (SR (gK 6 [(66,.bool (decide ((((q:Nat):Int):Int) < (((ns.length:Nat):Int):Int))))] [(3,a_ 1 b1)] ?_))
  refine NN (af.aV (p:=(((q:Nat):Int):Int) < (((ns.length:Nat):Int):Int)) (fun _=>by kernel_rfl) (fun xj=>?_) (fun xj=>?_))
  ·refine af.skip (NX (af.seq (af.block (SR ?_))))
   refine gK 1 [(11,.bool false)] [] ?_
   refine NN (af.seq (SR (gK 1 [(12,vI 0)] [] ?_)))
   refine NN (af.block ?_)
   refine af.loop (ι:=Nat×Bool) (fun ((z,fl):Nat×Bool)=>(z<=(bE ns root).1.length)/\(mA (bE ns root).1 (nd ns q).id z fl)) (fun ((z,fl):Nat×Bool)=>(bE ns root).1.length - z) (fun ((z,fl):Nat×Bool)=>[(2,vP b1),(7,.slice B8 ((bE ns root).1.length) (c9)),(9,vP jV),(10,vI ↑q),(11,.bool fl),(12,vI ↑z)]) (fun ((z,fl):Nat×Bool)=>[wA G fs xs root S V tr,.blk b1 [.slice A (ns.length) (c),vI (root),vI (X.cN),vI (X.cB),vI (X.cH),vI (X.cS),vI (X.cZ),.slice Af (fs.length) (cf),.slice Aa (xs.length) (ca)] 34,.abs R,.blk jV [.slice gF ((av S).length) (DX)] 24]) (0,false) (idx:=[2,7,9,10,11,12]) (pk:=[0,1,2,3]) (show (0<=(bE ns root).1.length)/\(mA (bE ns root).1 (nd ns q).id 0 false) from ⟨Nat.zero_le _,mA.zero _ _⟩) (fun _=>by kernel_rfl) rfl (by kernel_rfl) ?_
   rintro⟨z,fl⟩ ⟨hzz,hcm⟩
   show af _ _ _ _ [(2,vP b1),(7,.slice B8 ((bE ns root).1.length) (c9)),(9,vP jV),(10,vI ↑q),(11,.bool fl),(12,vI ↑z)] [wA G fs xs root S V tr,.blk b1 [.slice A (ns.length) (c),vI (root),vI (X.cN),vI (X.cB),vI (X.cH),vI (X.cS),vI (X.cZ),.slice Af (fs.length) (cf),.slice Aa (xs.length) (ca)] 34,.abs R,.blk jV [.slice gF ((av S).length) (DX)] 24] _
   refine af.seq (SR (gK 4 [(72,.bool (decide ((((z:Nat):Int):Int) < ((((bE ns root).1.length:Nat):Int):Int))))] [] ?_))
   refine NN (af.aV (p:=(((z:Nat):Int):Int) < ((((bE ns root).1.length:Nat):Int):Int)) (fun _=>by kernel_rfl) (fun Rp=>?_) (fun Rp=>?_))
   ·refine af.skip (NX (af.seq (af.block (af.seq ?_))))
    refine af.bF (by kernel_rfl) (by kernel_rfl) ?_
    refine gQ 12 [(86,.bool (decide ((((bE ns root).1.getD z 0):Int)=((nd ns q).id:Int))))] [(2,p_ ⟨[],some z,none,some ⟨(ar B8),aq B8,none⟩,none⟩ [((z:Nat):Int)=((z:Nat):Int),z < (bE ns root).1.length,(⟨(ar B8),aq B8,none⟩:Addr).spot=none,(B8:Option Addr)=some ⟨(ar B8),aq B8,none⟩] ⟨rfl,by omega,rfl,yT.hd (l:=(bE ns root).1) hU (j:=z) (by omega),trivial⟩),(3,p_ ⟨[.old (.int .i64 (((bE ns root).1.getD z 0)))],none,none,none,none⟩ [(Rd jE ⟨(ar B8),aq B8+z * 1,none⟩ (.int .i64 (((bE ns root).1.getD z 0))))] ⟨yT.rd (l:=(bE ns root).1) hU (j:=z) (by omega),trivial⟩),(6,a_ 1 b1),(8,p_ ⟨[],some q,none,some ⟨(ar A),aq A,none⟩,none⟩ [((q:Nat):Int)=((q:Nat):Int),q < ns.length,(⟨(ar A),aq A,none⟩:Addr).spot=none,(A:Option Addr)=some ⟨(ar A),aq A,none⟩] ⟨rfl,by omega,rfl,au.hd hG (i:=q) (by omega),trivial⟩),(10,p_ ⟨[.old (.int .i64 ((nd ns q).id))],none,none,none,none⟩ [(Rd jE ⟨(ar A),aq A+q * 10,none⟩ (.int .i64 ((nd ns q).id)))] ⟨au.rd hG (i:=q) (by omega) (j:=0) rfl,trivial⟩)] ?_
    refine NQ (NX ?_)
    refine af.aV (p:=(((bE ns root).1.getD z 0):Int)=((nd ns q).id:Int)) (fun _=>by kernel_rfl) (fun R3=>?_) (fun R3=>?_)
    ·refine af.region (gK 1 [(11,.bool true)] [] ?_)
     refine NL (ai.aJ (NX (af.region ?_)))
     refine gK 3 [(12,vI ↑(z+1))] [(1,p_ ⟨[],none,none,none,some (vI ↑(z+1))⟩ [(Value.int .i64 (IntKind.wrap .i64 (((z:Nat):Int)+1)))=(.int .i64 ↑(z+1))] ⟨bn (by omega) (by omega) (by omega),trivial⟩)] ?_
     refine NL ?_
     exact ai.turn ((z+1),true) (idx:=[2,7,9,10,11,12]) (pk:=[0,1,2,3]) (show (((z+1))<=(bE ns root).1.length)/\(mA (bE ns root).1 (nd ns q).id ((z+1)) true) from ⟨by omega,mA.hit R3⟩) (by show (bE ns root).1.length - ((z+1)) < (bE ns root).1.length - z;omega) (fun _=>by kernel_rfl) rfl (by kernel_rfl)
    refine af.skip (ai.aJ (NX (af.region ?_)))
    refine gK 3 [(12,vI ↑(z+1))] [(1,p_ ⟨[],none,none,none,some (vI ↑(z+1))⟩ [(Value.int .i64 (IntKind.wrap .i64 (((z:Nat):Int)+1)))=(.int .i64 ↑(z+1))] ⟨bn (by omega) (by omega) (by omega),trivial⟩)] ?_
    refine NL ?_
    exact ai.turn ((z+1),fl) (idx:=[2,7,9,10,11,12]) (pk:=[0,1,2,3]) (show (((z+1))<=(bE ns root).1.length)/\(mA (bE ns root).1 (nd ns q).id ((z+1)) fl) from ⟨by omega,hcm.miss R3⟩) (by show (bE ns root).1.length - ((z+1)) < (bE ns root).1.length - z;omega) (fun _=>by kernel_rfl) rfl (by kernel_rfl)
   refine af.exit (ai.aS (ai.aS (ai.cD (NX (af.seq (SR ?_))))))
   refine gK 1 [(13,vI 0)] [] ?_
   refine NN (af.block ?_)
   refine af.loop (ι:=Nat×Bool) (fun ((j,kp):Nat×Bool)=>(j<=(av S).length)/\(kN ns (av S) (bE ns root).1 q j fl kp)) (fun ((j,kp):Nat×Bool)=>(av S).length - j) (fun ((j,kp):Nat×Bool)=>[(2,vP b1),(7,.slice B8 ((bE ns root).1.length) (c9)),(9,vP jV),(10,vI ↑q),(11,.bool kp),(13,vI ↑j)]) (fun ((j,kp):Nat×Bool)=>[wA G fs xs root S V tr,.blk b1 [.slice A (ns.length) (c),vI (root),vI (X.cN),vI (X.cB),vI (X.cH),vI (X.cS),vI (X.cZ),.slice Af (fs.length) (cf),.slice Aa (xs.length) (ca)] 34,.abs R,.blk jV [.slice gF ((av S).length) (DX)] 24]) (0,fl) (idx:=[2,7,9,10,11,13]) (pk:=[0,1,2,3]) (show (0<=(av S).length)/\(kN ns (av S) (bE ns root).1 q 0 fl fl) from ⟨Nat.zero_le _,kN.zero⟩) (fun _=>by kernel_rfl) rfl (by kernel_rfl) ?_
   rintro⟨j,kp⟩ ⟨hj,hkp⟩
   show af _ _ _ _ [(2,vP b1),(7,.slice B8 ((bE ns root).1.length) (c9)),(9,vP jV),(10,vI ↑q),(11,.bool kp),(13,vI ↑j)] [wA G fs xs root S V tr,.blk b1 [.slice A (ns.length) (c),vI (root),vI (X.cN),vI (X.cB),vI (X.cH),vI (X.cS),vI (X.cZ),.slice Af (fs.length) (cf),.slice Aa (xs.length) (ca)] 34,.abs R,.blk jV [.slice gF ((av S).length) (DX)] 24] _
   refine af.seq (SR (gK 5 [(91,.bool (decide ((((j:Nat):Int):Int) < ((((av S).length:Nat):Int):Int))))] [(2,a_ 3 jV)] ?_))
   refine NN (af.aV (p:=(((j:Nat):Int):Int) < ((((av S).length:Nat):Int):Int)) (fun _=>by kernel_rfl) (fun V1=>?_) (fun V1=>?_))
   ·refine af.skip (NX (af.seq (af.block (af.seq ?_))))
    refine af.bF (by kernel_rfl) (by kernel_rfl) ?_
    refine gQ 15 [(108,.bool (decide (((nd (av S) j).id:Int)=((nd ns q).id:Int))))] [(1,a_ 3 jV),(3,p_ ⟨[],some j,none,some ⟨(ar gF),aq gF,none⟩,none⟩ [((j:Nat):Int)=((j:Nat):Int),j < (av S).length,(⟨(ar gF),aq gF,none⟩:Addr).spot=none,(gF:Option Addr)=some ⟨(ar gF),aq gF,none⟩] ⟨rfl,by omega,rfl,au.hd hH (i:=j) (by omega),trivial⟩),(5,p_ ⟨[.old (.int .i64 ((nd (av S) j).id))],none,none,none,none⟩ [(Rd jE ⟨(ar gF),aq gF+j * 10,none⟩ (.int .i64 ((nd (av S) j).id)))] ⟨au.rd hH (i:=j) (by omega) (j:=0) rfl,trivial⟩),(8,a_ 1 b1),(10,p_ ⟨[],some q,none,some ⟨(ar A),aq A,none⟩,none⟩ [((q:Nat):Int)=((q:Nat):Int),q < ns.length,(⟨(ar A),aq A,none⟩:Addr).spot=none,(A:Option Addr)=some ⟨(ar A),aq A,none⟩] ⟨rfl,by omega,rfl,au.hd hG (i:=q) (by omega),trivial⟩),(12,p_ ⟨[.old (.int .i64 ((nd ns q).id))],none,none,none,none⟩ [(Rd jE ⟨(ar A),aq A+q * 10,none⟩ (.int .i64 ((nd ns q).id)))] ⟨au.rd hG (i:=q) (by omega) (j:=0) rfl,trivial⟩)] ?_
    refine aP.gE 108 (((nd (av S) j).id:Int)=((nd ns q).id:Int)) (fun _=>by kernel_rfl) (fun R4=>?_) (fun R4=>?_)
    ·refine gQ 11 [(113,.agg #[vI ((nd (av S) j).id),vI ((nd (av S) j).kind),vI ((nd (av S) j).mode),vI ((nd (av S) j).uid),vI ((nd (av S) j).gid),vI ((nd (av S) j).sec),vI ((nd (av S) j).nano),.slice (oK.dA j) ((nd (av S) j).data.length) ((oK.dC j)),.string (nd (av S) j).target,.slice (oK.eA j) ((nd (av S) j).ah.length) ((oK.eC j))]),(119,.agg #[vI ((nd ns q).id),vI ((nd ns q).kind),vI ((nd ns q).mode),vI ((nd ns q).uid),vI ((nd ns q).gid),vI ((nd ns q).sec),vI ((nd ns q).nano),.slice (Y.dA q) ((nd ns q).data.length) ((Y.dC q)),.string (nd ns q).target,.slice (Y.eA q) ((nd ns q).ah.length) ((Y.eC q))])] [(1,a_ 3 jV),(3,p_ ⟨[],some j,none,some ⟨(ar gF),aq gF,none⟩,none⟩ [((j:Nat):Int)=((j:Nat):Int),j < (av S).length,(⟨(ar gF),aq gF,none⟩:Addr).spot=none,(gF:Option Addr)=some ⟨(ar gF),aq gF,none⟩] ⟨rfl,by omega,rfl,au.hd hH (i:=j) (by omega),trivial⟩),(4,p_ ⟨[.old (.int .i64 ((nd (av S) j).id)),.old (.int .i64 ((nd (av S) j).kind)),.old (.int .i64 ((nd (av S) j).mode)),.old (.int .i64 ((nd (av S) j).uid)),.old (.int .i64 ((nd (av S) j).gid)),.old (.int .i64 ((nd (av S) j).sec)),.old (.int .i64 ((nd (av S) j).nano)),.old (.slice (oK.dA j) ((nd (av S) j).data.length) ((oK.dC j))),.old (.string (nd (av S) j).target),.old (.slice (oK.eA j) ((nd (av S) j).ah.length) ((oK.eC j)))],none,none,none,none⟩ [(Rd jE ⟨(ar gF),aq gF+j * 10+9,none⟩ (.slice (oK.eA j) ((nd (av S) j).ah.length) ((oK.eC j)))),(Rd jE ⟨(ar gF),aq gF+j * 10+8,none⟩ (.string (nd (av S) j).target)),(Rd jE ⟨(ar gF),aq gF+j * 10+7,none⟩ (.slice (oK.dA j) ((nd (av S) j).data.length) ((oK.dC j)))),(Rd jE ⟨(ar gF),aq gF+j * 10+6,none⟩ (.int .i64 ((nd (av S) j).nano))),(Rd jE ⟨(ar gF),aq gF+j * 10+5,none⟩ (.int .i64 ((nd (av S) j).sec))),(Rd jE ⟨(ar gF),aq gF+j * 10+4,none⟩ (.int .i64 ((nd (av S) j).gid))),(Rd jE ⟨(ar gF),aq gF+j * 10+3,none⟩ (.int .i64 ((nd (av S) j).uid))),(Rd jE ⟨(ar gF),aq gF+j * 10+2,none⟩ (.int .i64 ((nd (av S) j).mode))),(Rd jE ⟨(ar gF),aq gF+j * 10+1,none⟩ (.int .i64 ((nd (av S) j).kind))),(Rd jE ⟨(ar gF),aq gF+j * 10,none⟩ (.int .i64 ((nd (av S) j).id)))] ⟨au.rd hH (i:=j) (by omega) (j:=9) rfl,au.rd hH (i:=j) (by omega) (j:=8) rfl,au.rd hH (i:=j) (by omega) (j:=7) rfl,au.rd hH (i:=j) (by omega) (j:=6) rfl,au.rd hH (i:=j) (by omega) (j:=5) rfl,au.rd hH (i:=j) (by omega) (j:=4) rfl,au.rd hH (i:=j) (by omega) (j:=3) rfl,au.rd hH (i:=j) (by omega) (j:=2) rfl,au.rd hH (i:=j) (by omega) (j:=1) rfl,au.rd hH (i:=j) (by omega) (j:=0) rfl,trivial⟩),(7,a_ 1 b1),(9,p_ ⟨[],some q,none,some ⟨(ar A),aq A,none⟩,none⟩ [((q:Nat):Int)=((q:Nat):Int),q < ns.length,(⟨(ar A),aq A,none⟩:Addr).spot=none,(A:Option Addr)=some ⟨(ar A),aq A,none⟩] ⟨rfl,by omega,rfl,au.hd hG (i:=q) (by omega),trivial⟩),(10,p_ ⟨[.old (.int .i64 ((nd ns q).id)),.old (.int .i64 ((nd ns q).kind)),.old (.int .i64 ((nd ns q).mode)),.old (.int .i64 ((nd ns q).uid)),.old (.int .i64 ((nd ns q).gid)),.old (.int .i64 ((nd ns q).sec)),.old (.int .i64 ((nd ns q).nano)),.old (.slice (Y.dA q) ((nd ns q).data.length) ((Y.dC q))),.old (.string (nd ns q).target),.old (.slice (Y.eA q) ((nd ns q).ah.length) ((Y.eC q)))],none,none,none,none⟩ [(Rd jE ⟨(ar A),aq A+q * 10+9,none⟩ (.slice (Y.eA q) ((nd ns q).ah.length) ((Y.eC q)))),(Rd jE ⟨(ar A),aq A+q * 10+8,none⟩ (.string (nd ns q).target)),(Rd jE ⟨(ar A),aq A+q * 10+7,none⟩ (.slice (Y.dA q) ((nd ns q).data.length) ((Y.dC q)))),(Rd jE ⟨(ar A),aq A+q * 10+6,none⟩ (.int .i64 ((nd ns q).nano))),(Rd jE ⟨(ar A),aq A+q * 10+5,none⟩ (.int .i64 ((nd ns q).sec))),(Rd jE ⟨(ar A),aq A+q * 10+4,none⟩ (.int .i64 ((nd ns q).gid))),(Rd jE ⟨(ar A),aq A+q * 10+3,none⟩ (.int .i64 ((nd ns q).uid))),(Rd jE ⟨(ar A),aq A+q * 10+2,none⟩ (.int .i64 ((nd ns q).mode))),(Rd jE ⟨(ar A),aq A+q * 10+1,none⟩ (.int .i64 ((nd ns q).kind))),(Rd jE ⟨(ar A),aq A+q * 10,none⟩ (.int .i64 ((nd ns q).id)))] ⟨au.rd hG (i:=q) (by omega) (j:=9) rfl,au.rd hG (i:=q) (by omega) (j:=8) rfl,au.rd hG (i:=q) (by omega) (j:=7) rfl,au.rd hG (i:=q) (by omega) (j:=6) rfl,au.rd hG (i:=q) (by omega) (j:=5) rfl,au.rd hG (i:=q) (by omega) (j:=4) rfl,au.rd hG (i:=q) (by omega) (j:=3) rfl,au.rd hG (i:=q) (by omega) (j:=2) rfl,au.rd hG (i:=q) (by omega) (j:=1) rfl,au.rd hG (i:=q) (by omega) (j:=0) rfl,trivial⟩)] ?_
     refine aP.call (f:=33) (args:=#[.agg #[vI ((nd (av S) j).id),vI ((nd (av S) j).kind),vI ((nd (av S) j).mode),vI ((nd (av S) j).uid),vI ((nd (av S) j).gid),vI ((nd (av S) j).sec),vI ((nd (av S) j).nano),.slice (oK.dA j) ((nd (av S) j).data.length) ((oK.dC j)),.string (nd (av S) j).target,.slice (oK.eA j) ((nd (av S) j).ah.length) ((oK.eC j))],.agg #[vI ((nd ns q).id),vI ((nd ns q).kind),vI ((nd ns q).mode),vI ((nd ns q).uid),vI ((nd ns q).gid),vI ((nd ns q).sec),vI ((nd ns q).nano),.slice (Y.dA q) ((nd ns q).data.length) ((Y.dC q)),.string (nd ns q).target,.slice (Y.eA q) ((nd ns q).ah.length) ((Y.eC q))]]) (d:=(some 120)) (pre:=[]) (R:=[wA G fs xs root S V tr,.blk b1 [.slice A (ns.length) (c),vI (root),vI (X.cN),vI (X.cB),vI (X.cH),vI (X.cS),vI (X.cZ),.slice Af (fs.length) (cf),.slice Aa (xs.length) (ca)] 34,.abs R,.blk jV [.slice gF ((av S).length) (DX)] 24]) (pk:=[0,1,2,3]) (ji:=[0,1,2,3]) (v0:=.bool (decide (nd (av S) j=nd ns q))) (fun _=>by kernel_rfl) (Gf (nd (av S) j) (nd ns q) (oK.dA j) (oK.eA j) (Y.dA q) (Y.eA q) (oK.dC j) (oK.eC j) (Y.dC q) (Y.eC q) (hH.data j (by omega)) (hH.ah j (by omega)) (hG.data q (by omega)) (hG.ah q (by omega)) (FV hI.toInv0 j (by omega)).1 (FV hI.toInv0 j (by omega)).2) rfl (by kernel_rfl) rfl (by kernel_rfl) (fun _ _ h=>h) ?_
     refine gQ 1 [(121,.bool (decide (nd (av S) j=nd ns q)))] [] ?_
     refine NQ (NX ?_)
     refine af.aV (p:=nd (av S) j=nd ns q) (fun _=>by kernel_rfl) (fun R5=>?_) (fun R5=>?_)
     ·refine af.region (gK 1 [(11,.bool true)] [] ?_)
      refine NL (ai.aJ (NX (af.region ?_)))
      refine gK 3 [(13,vI ↑(j+1))] [(1,p_ ⟨[],none,none,none,some (vI ↑(j+1))⟩ [(Value.int .i64 (IntKind.wrap .i64 (((j:Nat):Int)+1)))=(.int .i64 ↑(j+1))] ⟨bn (by omega) (by omega) (by omega),trivial⟩)] ?_
      refine NL ?_
      exact ai.turn ((j+1),true) (idx:=[2,7,9,10,11,13]) (pk:=[0,1,2,3]) (show (((j+1))<=(av S).length)/\(kN ns (av S) (bE ns root).1 q ((j+1)) fl true) from ⟨by omega,kN.hit⟩) (by show (av S).length - ((j+1)) < (av S).length - j;omega) (fun _=>by kernel_rfl) rfl (by kernel_rfl)
     refine af.skip (ai.aJ (NX (af.region ?_)))
     refine gK 3 [(13,vI ↑(j+1))] [(1,p_ ⟨[],none,none,none,some (vI ↑(j+1))⟩ [(Value.int .i64 (IntKind.wrap .i64 (((j:Nat):Int)+1)))=(.int .i64 ↑(j+1))] ⟨bn (by omega) (by omega) (by omega),trivial⟩)] ?_
     refine NL ?_
     exact ai.turn ((j+1),kp) (idx:=[2,7,9,10,11,13]) (pk:=[0,1,2,3]) (show (((j+1))<=(av S).length)/\(kN ns (av S) (bE ns root).1 q ((j+1)) fl kp) from ⟨by omega,hkp.miss (fun hno e=>R5 (NE N.2 hok.2 hC hI.toInv0 (by omega) hno (by omega) e))⟩) (by show (av S).length - ((j+1)) < (av S).length - j;omega) (fun _=>by kernel_rfl) rfl (by kernel_rfl)
    refine gQ 13 [(121,.bool false)] [] ?_
    refine NQ (NX ?_)
    refine CF (af.skip (ai.aJ (NX (af.region ?_))))
    refine gK 3 [(13,vI ↑(j+1))] [(1,p_ ⟨[],none,none,none,some (vI ↑(j+1))⟩ [(Value.int .i64 (IntKind.wrap .i64 (((j:Nat):Int)+1)))=(.int .i64 ↑(j+1))] ⟨bn (by omega) (by omega) (by omega),trivial⟩)] ?_
    refine NL ?_
    exact ai.turn ((j+1),kp) (idx:=[2,7,9,10,11,13]) (pk:=[0,1,2,3]) (show (((j+1))<=(av S).length)/\(kN ns (av S) (bE ns root).1 q ((j+1)) fl kp) from ⟨by omega,hkp.miss (fun _=>R4)⟩) (by show (av S).length - ((j+1)) < (av S).length - j;omega) (fun _=>by kernel_rfl) rfl (by kernel_rfl)
   refine af.exit (ai.aS (ai.aS (ai.cD (NX (SR ?_)))))
   refine gK 2 [(123,.bool (!kp))] [] ?_
   refine NN (af.cond (b:=(!kp)) (fun _=>by kernel_rfl) (fun R6=>?_) (fun R6=>?_))
   ·exact absurd (hkp.all (show (bE ns root).1.length=z by omega) (show (av S).length=j by omega) hcm (Gc N.2 hok.2 hC hI.toInv0 (by omega))) (by revert R6;cases kp<;>decide)
   refine af.skip (ai.aJ (NX (af.region ?_)))
   refine gK 3 [(10,vI ↑(q+1))] [(1,p_ ⟨[],none,none,none,some (vI ↑(q+1))⟩ [(Value.int .i64 (IntKind.wrap .i64 (((q:Nat):Int)+1)))=(.int .i64 ↑(q+1))] ⟨bn (by omega) (by omega) (by omega),trivial⟩)] ?_
   refine NL ?_
   exact ai.turn ((q+1)) (idx:=[2,7,9,10]) (pk:=[0,1,2,3]) (show (((q+1))<=ns.length) from by omega) (by show ns.length - ((q+1)) < ns.length - q;omega) (fun _=>by kernel_rfl) rfl (by kernel_rfl)
  refine af.exit (ai.aS (ai.aS (ai.cD (NX (SR ?_)))))
  refine gK 1 [(4,.bool true)] [] ?_
  refine NN (af.ret ?_)
  exact ai.PF (v:=.bool true) (l:=[]) (bC:=[]) [] [2] hle0 (fun _=>by kernel_rfl) trivial rfl (by kernel_rfl) (rfl)
 refine af.region (gK 1 [(17,.agg #[.slice A (ns.length) (c),vI (root),vI (X.cN),vI (X.cB),vI (X.cH),vI (X.cS),vI (X.cZ),.slice Af (fs.length) (cf),.slice Aa (xs.length) (ca)])] [(0,A_ 1 b1 9)] ?_)
 refine aj.jA (d:=(some 18)) (R:=[.abs R,.blk b1 [.slice A (ns.length) (c),vI (root),vI (X.cN),vI (X.cB),vI (X.cH),vI (X.cS),vI (X.cZ),.slice Af (fs.length) (cf),.slice Aa (xs.length) (ca)] 34]) (pk:=[0,1]) (fun _=>by kernel_rfl) (JC (β:=Ez) (X:=X) h0 A c Y hG hB Af cf fs hF (lV.wide (by decide)) Aa ca xs hA hab) rfl (by kernel_rfl) ?_
 rintro WC _ _ qi ⟨rfl,rfl⟩
 replace hG:=hG.le qi
 replace hF:=hF.le qi
 replace hA:=hA.le qi
 replace hS:=hS.le qi
 replace hg:=hg.le qi
 replace hle0:=hle0.trans qi
 refine gK 5 [(5,.pointer none),(6,vI ((cT X ns root)))] [] ?_
 refine NN (af.seq (SR (gK 6 [(26,.bool true)] [(1,p_ ⟨[],none,none,none,some (.bool true)⟩ [((.bool (!(decide (((cT X ns root):Int)=(0:Int)))):Value))=(.bool true)] ⟨congrArg (fun b=>Value.bool !b) (decide_eq_false h0),trivial⟩)] ?_)))
 refine NN (CT (SR (gK 7 [(4,.bool true)] [(4,p_ ⟨[],none,none,none,some (.bool true)⟩ [((.bool (!(decide (((cT X ns root):Int)=(0:Int)))):Value))=(.bool true)] ⟨congrArg (fun b=>Value.bool !b) (decide_eq_false h0),trivial⟩)] ?_)))
 refine NN (af.ret (ai.ak ?_))
 exact ai.PF (v:=.bool true) (l:=[]) (bC:=[]) [] [0] hle0 (fun _=>by kernel_rfl) trivial rfl (by kernel_rfl) (rfl)
end
section
open Go.RowKit
theorem glob_ok {W:World} (h:W.ShapedOpen Tryz.prog):jg (B0 W):=by
  obtain⟨m,hm⟩:=cell_of_shapedOpen_int (g:=0) (t:=3) (zero:=#[.int .i64 0]) (k:=.i64) h (Nat.le_of_ble_eq_true (by kernel_rfl)) (by kernel_rfl) rfl (by kernel_rfl) (by kernel_rfl) Tryz.underlying3
  exact⟨m,GR hm,hm⟩
end
section
theorem Am {a:Assume} {stops:Option Stop.Interp} {C:Checked} {os:Os} {f:FuncId} {r:Go.Reach} {okInput:Program->World->Go.Reach->Nat->FuncId->Input->Prop} {Pre:World->Array Value->Prop} {Post:World->Array Value->Value->World->Prop} {always:Machine->Prop}
    (h:ReturnsInOpen a stops C os f r okInput Pre Post (aloneAtReturn C.prog) always):ReturnsInOpen a stops C os f r okInput Pre Post (leavingAtReturn C.prog) always:=by
  obtain⟨g0,g1,g2,g3,U5⟩:=h
  refine⟨g0,g1,g2,g3,fun w tape i hf=>?_⟩
  obtain⟨n,v,w',hn,hc,hr,hp,⟨j,last,hj,hs,hq,hh,he⟩,ha⟩:=U5 w tape i hf
  exact⟨n,v,w',hn,hc,hr,hp,⟨j,last,hj,hs,hh,onlyLeaving_of_quiet hq,he⟩,ha⟩
theorem holds_leaving {p:Pinned} {s:OpenSpec} {c:OpenClaim} (hw:c.wf s=true) (hst:c.start=.entering) (hs:c.stops=[]) (hl:c.leaving=true) (h:({ c with leaving:=false }:OpenClaim).holds p s):c.holds p s:=by
  obtain⟨k1,k2,k3,k4,k5,k6,k7,k8,f,fn,k9,k10,k11,k12,k13,k14,k15,k16,k17,k18,k19,k20,k21,k22,k23,k24,k25,k26,k27,k28,V2,L,V3,hf⟩:=h
  refine⟨hw,k2,k3,k4,k5,k6,k7,k8,f,fn,k9,k10,k11,k12,k13,k14,k15,k16,k17,k18,k19,k20,k21,k22,k23,k24,k25,k26,k27,k28,V2,L,V3,fun os h1 h2 H enc inj=>?_⟩
  have h3:=hf os h1 h2 H enc inj
  unfold OpenClaim.form at h3 ⊢
  simp only [hst,hs] at h3 ⊢
  intro F
  have h4:=Am (h3 F)
  unfold OpenClaim.atReturn
  rw [hl]
  exact h4
end
end Go.Proofs.YtidjcblbdmfalaaGreat
