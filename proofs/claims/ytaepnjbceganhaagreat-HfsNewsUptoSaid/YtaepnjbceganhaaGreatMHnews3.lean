/-
  PROVED HERE: lemmas and contracts of functions (texts of this repo, joined; what the claim does not use is left out): Hk, Hl, Hq, H3, Hr, H4, Ht, Hu, TabMath2, Hv, Hw, H5, Hx, H6, Hy, H7, Vg, H8.
  CONDITIONS: as the theorems say.
-/
import Derived.Test.YtaepnjbceganhaaGreatMHnews2
import Derived.LaidEqlPtr
set_option maxRecDepth 100000
set_option maxHeartbeats 4000000
namespace Go.Proofs.YtaepnjbceganhaaGreat
section
open Go.RowKit Go.Maps ck aB
section inv
variable {S:aH} {d k:Nat} {name:ByteArray} {t u:Th}
theorem Inv0.key (h:Inv0 S) {i:Int} (e:aB.get S.idx i=some t):i=(t.k:Int):=(h.idx i t e).1
theorem Inv0.live (h:Inv0 S) {i:Int} (e:aB.get S.idx i=some t):Live S.idx t:=by
  have:=h.key e
  subst this
  exact e
theorem eY {idx:Used Th} (h1:Live idx t) (h2:Live idx u) (e:t.k=u.k):t=u:=by
  unfold Live at h1 h2
  rw [e,h2] at h1
  exact (Option.some.inj h1).symm
theorem Inv0.kind (h:Inv0 S) (hl:Live S.idx t):(obj S.O t.k).kind=t.kind:=(h.ob t hl).2.1
theorem Ej {x:ByteArray}:fJ x x:=by unfold fJ;simp
theorem iH.twice {es:dS Th} (h:iH es):lV es:=List.Pairwise.imp (fun {a b} hab e=>hab (by rw [e];exact Ej)) h
theorem Inv0.twice (h:Inv0 S) (hl:Live S.idx t):lV (obj S.O t.k).ah:=(h.sorted t hl).twice
theorem Inv0.ent (h:Inv0 S) (hd:Live S.idx u) (hl:aP name (obj S.O u.k).ah=some t):bI name/\Live S.idx t:=h.ah u hd _ (kf hl)
theorem Inv0.ne (h:Inv0 S) (hd:Live S.idx ⟨d,2⟩) (hl:aP name (obj S.O d).ah=some t):t.k≠d:=fun e=>by
  have h1:=(h.ent hd hl).2
  have h2:t=⟨d,2⟩:=eY h1 hd e
  subst h2
  have h3:=(h.up _ hd d).2 ⟨rfl,hd,name,hl⟩
  obtain⟨dp,hdp⟩:=h.deep
  have:dp d < dp d:=hdp _ _ h3
  omega
theorem Inv0.free (h:Inv0 S) (hk:S.X.last < (k:Int)) (hl:Live S.idx t):t.k≠k:=fun e=>by
  have:=(h.idx _ t hl).2.2
  subst e
  omega
theorem jq.of {o o':aO} (h:jq o) (e1:o'.mode=o.mode) (e2:o'.uid=o.uid) (e3:o'.gid=o.gid) (e4:cg o'.sec o'.nano) (e5:o'.kind=o.kind) (e6:o'.data=o.data\/o.kind=1) (e7:o'.ah=o.ah\/o.kind=2) (e8:o'.target=o.target):jq o':=
  ⟨e1 ▸ h.mode,e2 ▸ h.uid,e3 ▸ h.gid,e4,fun hk=>by
    rw [e5] at hk
    rcases e6 with e|e
    ·rw [e];exact h.data hk
    ·exact absurd e hk,fun hk=>by
    rw [e5] at hk
    rcases e7 with e|e
    ·rw [e];exact h.ah hk
    exact absurd e hk,by rw [e5,e8];exact h.target⟩
theorem Inv0.own (h:Inv0 S) {f:aO->aO} {jl eP:Int} {us':Used Th} (f1:∀ o,(f o).id=o.id) (f2:∀ o,(f o).kind=o.kind) (f3:∀ o,(f o).ah=o.ah) (f4:∀ o,(f o).up=o.up) (f5:∀ o,(f o).links=o.links) (f6:∀ o,(f o).gone=o.gone)
    (hm:∀ t,Live S.idx t->t.k=k->jq (f (obj S.O k))) (ho:∀ t,Live S.idx t->(obj (aA S.O k f) t.k).opens=(hnd us' t.k:Int))
    (u1:aB.bN (keys us')) (u2:∀ x∈keys us',1<=x/\x<=eP) (u3:(us'.length:Int)<=S.X.cH) (u4:0<=eP/\eP<=S.X.cH) (u5:∀ h t,aB.get us' h=some t->Live S.idx t/\t.kind≠3)
    (hu:jl=(bytes S.idx (aA S.O k f):Int)/\jl<=140737488355328):Inv0 { S with X:={ S.X with used:=jl },O:=aA S.O k f,us:=us',av:=eP }:=by
  have g1:∀ x,(obj (aA S.O k f) x).id=(obj S.O x).id:=fun x=>cX (g:=aO.id) f1
  have g2:∀ x,(obj (aA S.O k f) x).kind=(obj S.O x).kind:=fun x=>cX (g:=aO.kind) f2
  have g3:∀ x,(obj (aA S.O k f) x).ah=(obj S.O x).ah:=fun x=>cX (g:=aO.ah) f3
  have g4:∀ x,(obj (aA S.O k f) x).up=(obj S.O x).up:=fun x=>cX (g:=aO.up) f4
  have g5:∀ x,(obj (aA S.O k f) x).links=(obj S.O x).links:=fun x=>cX (g:=aO.links) f5
  have g6:∀ x,(obj (aA S.O k f) x).gone=(obj S.O x).gone:=fun x=>cX (g:=aO.gone) f6
  refine { h with ob:=fun t hl=>?_,mt:=fun t hl=>?_,ah:=fun t hl=>?_,sorted:=fun t hl=>?_,dead:=fun x hx=>?_,oP:=fun x hx=>by rw [g2];exact h.oP x hx,total:=?_,links:=fun t hl=>?_,once:=fun t hl=>?_,opens:=ho,usr:=u1,tV:=u2,zB:=u3,av:=u4,us:=u5,gone:=fun t hl=>?_,up:=fun t hl e=>?_,deep:=?_,used:=hu }
  ·rw [g1,g2];exact h.ob t hl
  ·show jq (obj (aA S.O k f) t.k)
   by_cases e:t.k=k
   ·rw [e,bB];exact hm t hl e
   rw [bP e];exact h.mt t hl
  ·rw [g3];exact h.ah t hl
  ·rw [g3];exact h.sorted t hl
  ·rw [g3,g4];exact h.dead x hx
  ·have:tot S.idx (aA S.O k f)=tot S.idx S.O:=eO (fun p _=>by rw [g3])
   show S.X.ah=(tot S.idx (aA S.O k f):Int)/\_
   rw [this];exact h.total
  ·show (obj (aA S.O k f) t.k).links=(gu S.idx (aA S.O k f) t.k:Int)
   have:gu S.idx (aA S.O k f) t.k=gu S.idx S.O t.k:=FZ g3
   rw [g5,this];exact h.links t hl
  ·rw [g5];exact h.once t hl
  ·rw [g6,g5,g3];exact h.gone t hl
  ·show (obj (aA S.O k f) t.k).up=some e↔t.kind=2/\Live S.idx ⟨e,2⟩/\∃ n,aP n (obj (aA S.O k f) e).ah=some t
   rw [g4,g3];exact h.up t hl e
  obtain⟨dp,hdp⟩:=h.deep
  exact⟨dp,fun x e he=>hdp x e (by rw [g4] at he;exact he)⟩
def oQ (S:aH) (t:Th):aH:={ S with X:={ S.X with used:=iR S.O S.X.used t },idx:=iG S.O S.idx t }
theorem Inv0.oQ (h:Inv0 S) (ht:Live S.idx t) (hf:∀ u,Live S.idx u->u≠t->(obj S.O u.k).gone=true->0 < (obj S.O u.k).opens):Inv (Proofs.YtaepnjbceganhaaGreat.oQ S t):=by
  by_cases hF:oO S.O t
  ·have e1:Proofs.YtaepnjbceganhaaGreat.oQ S t={ S with X:={ S.X with used:=S.X.used - (obj S.O t.k).data.length },idx:=del (t.k:Int) S.idx }:=by
     unfold Proofs.YtaepnjbceganhaaGreat.oQ iR iG
     rw [if_pos hF,if_pos hF,(h.ob t ht).1]
     split
     ·rfl
     rename_i e
     have:=(h.mt t ht).data (by rw [h.kind ht];exact e)
     rw [this]
     simp
   rw [e1]
   obtain⟨hg,hop⟩:=hF
   obtain⟨hlk,hen⟩:=h.gone t ht hg
   have dN:∀ x,Live (del (t.k:Int) S.idx) x↔Live S.idx x/\x.k≠t.k:=fun x=>by
     unfold Live
     rw [rE]
     constructor
     ·intro e
      split at e
      ·cases e
      rename_i e2;exact⟨e,fun e3=>e2 (by rw [e3])⟩
     rintro⟨e,e2⟩
     rw [if_neg (by omega)];exact e
   have hl0:gu S.idx S.O t.k=0:=by have:=h.links t ht;omega
   have hne:∀ x,Live S.idx x->∀ e∈(obj S.O x.k).ah,e.2.k≠t.k:=fun x hx e he hk=>by
     have:0 < gu S.idx S.O t.k:=Nat.lt_of_lt_of_le (List.countP_pos_iff.2 ⟨e,he,by simpa using hk⟩) (jU (g:=fun p=>(obj S.O p.2.k).ah.countP (fun e=>decide (e.2.k=t.k))) hx)
     omega
   have hsum:∀ q:ByteArray×Th->Bool,cV (fun p=>(obj S.O p.2.k).ah.countP q) (del (t.k:Int) S.idx)=cV (fun p=>(obj S.O p.2.k).ah.countP q) S.idx:=fun q=>by
     have h1:=wi (g:=fun p:Int×Th=>(obj S.O p.2.k).ah.countP q) h.rise ht
     have h2:(obj S.O t.k).ah.countP q=0:=by rw [hen];rfl
     have h3:cV (fun p:Int×Th=>(obj S.O p.2.k).ah.countP q) (del (t.k:Int) S.idx)+(obj S.O t.k).ah.countP q=_:=h1
     omega
   refine { h with rise:=Bv h.rise,len:=?_,idx:=fun i x e=>?_,ob:=fun x hx=>h.ob x ((dN x).1 hx).1,mt:=fun x hx=>h.mt x ((dN x).1 hx).1,ah:=fun x hx e he=>?_,sorted:=fun x hx=>h.sorted x ((dN x).1 hx).1,dead:=fun x hx=>?_,total:=?_,links:=fun x hx=>?_,once:=fun x hx=>h.once x ((dN x).1 hx).1,opens:=fun x hx=>h.opens x ((dN x).1 hx).1,us:=fun i x e=>?_,gone:=fun x hx=>h.gone x ((dN x).1 hx).1,up:=fun x hx e=>?_,used:=?_,full:=fun x hx hg=>hf x ((dN x).1 hx).1 (fun e=>((dN x).1 hx).2 (by rw [e])) hg }
   ·have h1:=mZ h.rise (get_some ht)
    have h2:=h.len
    show (del (t.k:Int) S.idx).length<=4096
    omega
   ·have e:aB.get (del (t.k:Int) S.idx) i=some x:=e
    rw [rE] at e
    split at e
    ·cases e
    exact h.idx i x e
   ·have hx':=((dN x).1 hx).1
    have h1:=h.ah x hx' e he
    exact⟨h1.1,(dN _).2 ⟨h1.2,hne x hx' e he⟩⟩
   ·by_cases e:x=t.k
    ·subst e
     refine⟨hen,?_⟩
     cases hu:(obj S.O t.k).up with
     | none=>rfl
     | some y=>
       obtain⟨_,h2,n,h3⟩:=(h.up t ht y).1 hu
       exact absurd rfl (hne _ h2 _ (kf h3))
    exact h.dead x (fun y hy e2=>hx y ((dN y).2 ⟨hy,fun e3=>e (e2.symm.trans e3)⟩) e2)
   ·show S.X.ah=(tot (del (t.k:Int) S.idx) S.O:Int)/\_
    rw [kx,hsum,← kx];exact h.total
   ·show _=(gu (del (t.k:Int) S.idx) S.O x.k:Int)
    have:gu (del (t.k:Int) S.idx) S.O x.k=gu S.idx S.O x.k:=hsum _
    rw [this];exact h.links x ((dN x).1 hx).1
   ·obtain⟨h1,h2⟩:=h.us i x e
    refine⟨(dN x).2 ⟨h1,fun e2=>?_⟩,h2⟩
    have h3:=h.opens t ht
    have h4:0 < hnd S.us t.k:=Nat.lt_of_lt_of_le (by simp [e2]) (jU (g:=fun p:Int×Th=>if p.2.k=t.k then 1 else 0) e)
    omega
   ·rw [h.up x ((dN x).1 hx).1 e]
    constructor
    ·rintro⟨h1,h2,n,h3⟩
     refine⟨h1,(dN _).2 ⟨h2,fun e2=>?_⟩,n,h3⟩
     have e2:e=t.k:=e2
     rw [e2,hen] at h3;cases h3
    rintro⟨h1,h2,h3⟩
    exact⟨h1,((dN _).1 h2).1,h3⟩
   obtain⟨h1,h2⟩:=h.used
   have h3:cV (fun p:Int×Th=>(obj S.O p.2.k).data.length) (del (t.k:Int) S.idx)+(obj S.O t.k).data.length=cV (fun p:Int×Th=>(obj S.O p.2.k).data.length) S.idx:=wi (g:=fun p:Int×Th=>(obj S.O p.2.k).data.length) h.rise ht
   show S.X.used - ((obj S.O t.k).data.length:Int)=(bytes (del (t.k:Int) S.idx) S.O:Int)/\S.X.used - ((obj S.O t.k).data.length:Int)<=140737488355328
   unfold bytes at h1 ⊢
   omega
  have e1:Proofs.YtaepnjbceganhaaGreat.oQ S t=S:=by
    unfold Proofs.YtaepnjbceganhaaGreat.oQ iR iG
    rw [if_neg hF,if_neg hF]
  rw [e1]
  refine { h with full:=fun u hu hg=>?_ }
  by_cases e:u=t
  ·subst e
   have h1:=h.opens u hu
   have:¬ (obj S.O u.k).opens=0:=fun e=>hF ⟨hg,e⟩
   omega
  exact hf u hu e hg
end inv
end
section
open Go.RowKit Go.Maps ck aB
section facts
variable {S:aH} {X:FM} {O:bO} {d k:Nat} {name:ByteArray} {t u:Th}
theorem cR {α:Type} {g:aO->α} (h1:∀ o es,g { o with ah:=es }=g o) (h2:∀ o l,g { o with links:=l }=g o) (h3:∀ o a b,g { o with sec:=a,nano:=b }=g o):g (obj (aM X O d name t) k)=g (obj O k):=by
  unfold aM nO
  rw [cX (fun o=>h2 o _),cX (fun o=>h3 o _ _),cX (fun o=>h1 o _)]
theorem kQ {α:Type} {g:aO->α} (h1:∀ o es,g { o with ah:=es }=g o) (h2:∀ o l,g { o with links:=l }=g o) (h3:∀ o a b,g { o with sec:=a,nano:=b }=g o) (h4:∀ o u,g { o with up:=u }=g o):g (obj (cC X O d name t) k)=g (obj O k):=by
  unfold cC nO
  rw [cX (fun o=>h3 o _ _),vX h1 h2 h4]
theorem Inv0.hX (h:Inv0 S):0<=S.X.ah/\S.X.ah<=1048576/\-1125899906842624<=S.X.used/\S.X.used<=1125899906842624/\0<=S.X.last/\S.X.last<=1125899906842624:=by
  have:=h.total;have:=h.used;have:=h.last
  omega
theorem Inv0.fq (h:Inv0 S) (hl:Live S.idx t):(obj S.O t.k).ah.length<=8192:=by
  have h1:=h.total
  have h2:(obj S.O t.k).ah.length<=tot S.idx S.O:=jU (g:=fun p:Int×Th=>(obj S.O p.2.k).ah.length) hl
  omega
theorem Inv0.lb (h:Inv0 S) (hl:Live S.idx t):0<=(obj S.O t.k).links/\(obj S.O t.k).links<=8192:=by
  have h1:=h.total
  have h2:=h.links t hl
  have h3:gu S.idx S.O t.k<=tot S.idx S.O:=F5
  omega
theorem Lf {us:Used Th}:hnd us k<=us.length:=by
  have:hnd us k<=cV (fun _=>1) us:=Dq (fun p _=>by split<;>omega)
  have h2:∀ us:Used Th,cV (fun _=>1) us=us.length:=fun us=>by
    induction us with
    | nil=>rfl
    | cons p r ih=>show 1+_=_;rw [ih,List.length_cons];omega
  rw [h2] at this;exact this
theorem Inv0.zC (h:Inv0 S) (hl:Live S.idx t):0<=(obj S.O t.k).opens/\(obj S.O t.k).opens<=1024:=by
  have h1:=h.opens t hl
  have h2:hnd S.us t.k<=S.us.length:=Lf
  have:=h.zB;have:=h.cH
  omega
theorem Inv0.Bw (h:Inv0 S) (hl:Live S.idx t):(obj S.O t.k).data.length<=1125899906842624:=by
  have h1:=h.used
  have h2:(obj S.O t.k).data.length<=bytes S.idx S.O:=jU (g:=fun p:Int×Th=>(obj S.O p.2.k).data.length) hl
  omega
theorem Inv0.Ek (h:Inv0 S) (hl:Live S.idx t):(obj S.O t.k).data.length<=140737488355328:=by
  have h1:=h.used
  have h2:(obj S.O t.k).data.length<=bytes S.idx S.O:=jU (g:=fun p:Int×Th=>(obj S.O p.2.k).data.length) hl
  omega
theorem Inv0.F6 (h:Inv0 S) (hl:Live S.idx t):(Lit.int .i64 (obj S.O t.k).id).wf=true:=by
  have h1:=h.ob t hl
  have h2:=h.idx _ t hl
  have h3:=h.last
  exact WalkArith.wf_i64 (by omega)
theorem Inv0.lD (h:Inv0 S) (hd:Live S.idx ⟨d,2⟩) (name:ByteArray):aP name (obj S.O d).ah=none\/(∃ k,aP name (obj S.O d).ah=some ⟨k,1⟩/\Live S.idx ⟨k,1⟩)\/(∃ k,aP name (obj S.O d).ah=some ⟨k,2⟩/\Live S.idx ⟨k,2⟩)\/∃ k,aP name (obj S.O d).ah=some ⟨k,3⟩/\Live S.idx ⟨k,3⟩:=by
  cases e:aP name (obj S.O d).ah with
  | none=>exact .inl rfl
  | some t=>
    obtain⟨k,kd⟩:=t
    have h1:=(h.ent hd e).2
    rcases (h.ob _ h1).2.2 with e2|e2|e2<;>subst e2
    ·exact .inr (.inl ⟨k,rfl,h1⟩)
    ·exact .inr (.inr (.inl ⟨k,rfl,h1⟩))
    exact .inr (.inr (.inr ⟨k,rfl,h1⟩))
theorem Inv0.Ob (h:Inv0 S) (i:Int):aB.get S.idx i=none\/(∃ k,aB.get S.idx i=some ⟨k,1⟩/\Live S.idx ⟨k,1⟩)\/(∃ k,aB.get S.idx i=some ⟨k,2⟩/\Live S.idx ⟨k,2⟩)\/∃ k,aB.get S.idx i=some ⟨k,3⟩/\Live S.idx ⟨k,3⟩:=by
  cases e:aB.get S.idx i with
  | none=>exact .inl rfl
  | some t=>
    obtain⟨k,kd⟩:=t
    have h1:=h.live e
    rcases (h.ob _ h1).2.2 with e2|e2|e2<;>subst e2
    ·exact .inr (.inl ⟨k,rfl,h1⟩)
    ·exact .inr (.inr (.inl ⟨k,rfl,h1⟩))
    exact .inr (.inr (.inr ⟨k,rfl,h1⟩))
theorem Inv0.hand (h:Inv0 S) (i:Int):aB.get S.us i=none\/(∃ k,aB.get S.us i=some ⟨k,1⟩/\Live S.idx ⟨k,1⟩)\/∃ k,aB.get S.us i=some ⟨k,2⟩/\Live S.idx ⟨k,2⟩:=by
  cases e:aB.get S.us i with
  | none=>exact .inl rfl
  | some t=>
    obtain⟨k,kd⟩:=t
    obtain⟨h1,h0⟩:=h.us i _ e
    rcases (h.ob _ h1).2.2 with e2|e2|e2
    ·simp only at e2;subst e2;exact .inr (.inl ⟨k,rfl,h1⟩)
    ·simp only at e2;subst e2;exact .inr (.inr ⟨k,rfl,h1⟩)
    exact absurd e2 h0
theorem Inv0.MQ (h:Inv0 S) (hd:Live S.idx ⟨d,2⟩) (hl:aP name (obj S.O d).ah=some t):1<=S.X.ah:=by
  have h1:=h.total
  have h2:0 < gu S.idx S.O t.k:=kP hd hl
  have h3:gu S.idx S.O t.k<=tot S.idx S.O:=F5
  omega
theorem Inv0.vA (h:Inv0 S) (hd:Live S.idx ⟨d,2⟩) (hl:aP name (obj S.O d).ah=some t):0<=S.X.ah - 1/\S.X.ah - 1<=1048576/\-1125899906842624<=S.X.used/\S.X.used<=1125899906842624/\0<=S.X.last/\S.X.last<=1125899906842624:=by
  have:=h.MQ hd hl;have:=h.hX
  omega
theorem ni {L:HL} {us:Used Th} {h:Int} (e:aB.get us h=none):aB.get (aT L us) h=none:=by
  unfold aT;rw [get_map,e];rfl
theorem jg {L:HL} {us:Used Th} {h:Int} (e:aB.get us h=some t):aB.get (aT L us) h=some (dh L t):=by
  unfold aT;rw [get_map,e];rfl
theorem o4 {L:HL} {us:Used Th} {h:Int} (hn:aB.get us h=none):jP (aV (aT L us)) (.int .i64 h) (some (dh L t))=aV (aT L (ins h t us)):=by
  rw [yu (get_none.1 (ni hn))]
  exact congrArg aV (Dj (dh L) h t us).symm
theorem F7 {L:HL} {us:Used Th}:aB.least (aT L us)=aB.least us:=by unfold aB.least;rw [v8]
theorem yx {TT:TypeId} {L:HL} {us:Used Th} {v:Value} {l:List HP} {b:Nat} {most av:Int} (h:v=.tuple #[.int .i64 (aB.least (aT L us)),.int .i64 0]/\l=[.abs (bH TT b most (max av (((aT L us).length:Int)+1)) (ins (aB.least (aT L us)) (dh L t) (aT L us)))]):v=.tuple #[.int .i64 (aB.least us),.int .i64 0]/\l=[.abs (bH TT b most (max av ((us.length:Int)+1)) (aT L (ins (aB.least us) t us)))]:=by
  rw [F7,nh] at h
  have e:ins (aB.least us) (dh L t) (aT L us)=aT L (ins (aB.least us) t us):=(Dj (dh L) (aB.least us) t us).symm
  rw [e] at h
  exact h
theorem HV {α:Type} {es:dS α} {n:ByteArray} (h:es=[]):aP n es=none:=by rw [h];rfl
end facts
section blocks
variable {O:bO} {L:HL} {k j:Nat} {t u:Th}
theorem uV (hk:(obj O k).kind≠0) {F:Fp} {w:World} (h:(ay (bD O L)).h F w):∃ cs T,w.heap[L.b k]?=some (.cells cs T (0,0)):=by
  obtain⟨G,g⟩:=ay.at k h
  rw [jI hk] at g
  exact⟨_,_,g.1⟩
theorem Dr (hk:(obj O k).kind≠0) (hj:(obj O j).kind≠0) {F:Fp} {w:World} (h:(ay (bD O L)).h F w) (e:L.b k=L.b j):k=j:=by
  apply Classical.byContradiction
  intro hne
  obtain⟨φ,h1,h2,_⟩:=h
  have g1:=h1 k
  have g2:=h1 j
  rw [jI hk] at g1
  rw [jI hj] at g2
  exact h2 k j hne (L.b k) ((g1.2 _).2 rfl) ((g2.2 _).2 e)
theorem yA:Tryz.prog.underlying 76=some (.pointer 79):=by kernel_rfl
theorem HX:Tryz.prog.underlying 69=some (.pointer 72):=by kernel_rfl
theorem HY:Tryz.prog.underlying 73=some (.pointer 75):=by kernel_rfl
end blocks
end
section
open Go.RowKit Go.Maps ck aB
theorem HZ {s:ByteArray}:0<=Lib.indexByte s.data.toList ((0:Int).toNat.toUInt8)↔¬ jF s:=by
  have hge:=Lib.indexByte_ge s.data.toList ((0:Int).toNat.toUInt8)
  constructor
  ·intro h hn
   obtain⟨o,ho⟩:=Int.eq_ofNat_of_zero_le h
   have h1:=(Lib.indexByte_some ho).1
   obtain⟨h2,h3⟩:=tB h1
   exact hn o h2 h3
  intro hn
  apply Classical.byContradiction
  intro hlt
  refine hn (fun j hj h0=>Lib.indexByte_none (show Lib.indexByte s.data.toList ((0:Int).toNat.toUInt8) = -1 by omega) j ?_)
  rw [nG hj]
  congr 1
  apply UInt8.toNat_inj.1
  exact h0
theorem CP {β:Bs} (s:ByteArray):Spec Tryz.prog β 118 #[.string s,.int .u8 0] [] (fun v l=>(∃ x:Int,v=.int .i64 x/\(0<=x↔¬ jF s))/\l=[]):=
  fun _ w hS=>(Tryz.strings_IndexByte s 0 w).mono fun _ _ ⟨h1,h2⟩=>⟨_,[],h1,⟨⟨_,rfl,HZ⟩,rfl⟩,h2 ▸ hS⟩
section ptr
variable {O:bO} {L:HL} {k j:Nat}
theorem H6:∃ j,Tryz.prog.info? 79=some j/\j.size≠0:=by
  have h:(match Tryz.prog.info? 79 with|some j=>j.size != 0|none=>false)=true:=by kernel_rfl
  cases e:Tryz.prog.info? 79 with
  | none=>rw [e] at h;cases h
  | some j=>rw [e] at h;exact⟨j,rfl,by simpa using h⟩
theorem F8 {w:World} {o:Oper} {ev:Operand->Value} {x y:Operand} (ho:o.op=.binOp .eql 76 x y 76) (hx:ev x=.pointer (some ⟨L.b k,0,none⟩)) (hy:ev y=.pointer (some ⟨L.b j,0,none⟩)) (hk:(obj O k).kind≠0) (hj:(obj O j).kind≠0) {F:Fp} (hF:(ay (bD O L)).h F w) :
    lP Tryz.prog ev o w (.bool (decide (k=j))) w:=by
  obtain⟨dst,op,type,pos,after,guard⟩:=o
  cases ho
  refine .inl ?_
  simp only [execOp,hx,hy]
  obtain⟨ca,ta,ha⟩:=uV hk hF
  obtain⟨cb,tb,hb⟩:=uV hj hF
  obtain⟨i,hi,hsz⟩:=H6
  have h1:(binOp .eql 76 (.pointer (some ⟨L.b k,0,none⟩)) (.pointer (some ⟨L.b j,0,none⟩))).run Tryz.prog w=.ok (.bool (decide (k=j))) w:=by
    by_cases e:k=j
    ·subst e
     rw [run_eql_ptr_same _ _ yA hi]
     simp
    rw [run_eql_ptr_other _ yA hi hsz (fun h=>e (Dr hk hj hF (congrArg Addr.block h))) ha hb]
    simp [e]
  simp [go_sem,eqGuard,h1]
def Bx (tp te:TypeId):Prop:=Tryz.prog.underlying tp=some (.pointer te)/\(∃ i,Tryz.prog.info? tp=some i/\i.comparable=true)/\∃ j,Tryz.prog.info? te=some j/\j.size≠0
theorem yB {tp te:TypeId} (h1:Tryz.prog.underlying tp=some (.pointer te)) (h2:(match Tryz.prog.info? tp with|some j=>j.comparable|none=>false)=true) (h3:(match Tryz.prog.info? te with|some j=>j.size != 0|none=>false)=true):Bx tp te:=by
  refine⟨h1,?_,?_⟩
  ·cases e:Tryz.prog.info? tp with
   | none=>rw [e] at h2;cases h2
   | some j=>rw [e] at h2;exact⟨j,rfl,h2⟩
  cases e:Tryz.prog.info? te with
  | none=>rw [e] at h3;cases h3
  | some j=>rw [e] at h3;exact⟨j,rfl,by simpa using h3⟩
theorem Lg:Bx 69 72:=yB HX (by kernel_rfl) (by kernel_rfl)
theorem MR:Bx 76 79:=yB yA (by kernel_rfl) (by kernel_rfl)
theorem Lh:Bx 73 75:=yB HY (by kernel_rfl) (by kernel_rfl)
theorem wj {tp te:TypeId} (hT:Bx tp te) {w:World} {o:Oper} {ev:Operand->Value} {x y:Operand} (ho:o.op=.binOp .eql 64 x y 64) (hx:ev x=.iface tp (.pointer (some ⟨L.b k,0,none⟩))) (hy:ev y=.iface tp (.pointer (some ⟨L.b j,0,none⟩))) (hk:(obj O k).kind≠0) (hj:(obj O j).kind≠0) {F:Fp} (hF:(ay (bD O L)).h F w) :
    lP Tryz.prog ev o w (.bool (decide (k=j))) w:=by
  obtain⟨dst,op,type,pos,after,guard⟩:=o
  cases ho
  refine .inl ?_
  simp only [execOp,hx,hy]
  obtain⟨ca,ta,ha⟩:=uV hk hF
  obtain⟨cb,tb,hb⟩:=uV hj hF
  obtain⟨g1,⟨i,hi,hc⟩,j',hj',hsz⟩:=hT
  have h1:(binOp .eql 64 (.iface tp (.pointer (some ⟨L.b k,0,none⟩))) (.iface tp (.pointer (some ⟨L.b j,0,none⟩)))).run Tryz.prog w=.ok (.bool (decide (k=j))) w:=by
    by_cases e:k=j
    ·subst e
     rw [run_eql_iface_ptr_same _ _ Tryz.underlying64 g1 hi hc hj']
     simp
    rw [run_eql_iface_ptr_other _ Tryz.underlying64 g1 hi hc hj' hsz (fun h=>e (Dr hk hj hF (congrArg Addr.block h))) ha hb]
    simp [e]
  simp [go_sem,eqGuard,h1]
end ptr
end
section
open Go.RowKit Go.Maps ck aB
attribute [local irreducible] ak aK af ai
abbrev xw (f:Nat) (L:HL) (d:Nat) (name):=([(0,vP f),(1,vP (L.b d)),(2,.string name)]:Fr)
abbrev Li (f:Nat) (L:HL) (d:Nat) (name):=([(18,vP f),(19,vP (L.b d)),(20,.string name)]:Fr)
abbrev Lj (f:Nat) (L:HL) (d:Nat) (name):=([(8,vP f),(9,vP (L.b d)),(10,.string name)]:Fr)
abbrev Bz (f:Nat) (L:HL) (d:Nat) (name):=([(0,vP f),(1,vP (L.b d)),(2,.string name)]:Fr)
abbrev sO (f:Nat) (m:Nat) (t) (X:FM) (L:HL) (idx) (O:bO) (R:bY):=([pF f m t X,pI m L idx,pO O L,pE O L,.abs R]:List HP)
abbrev Lk (S:aH) (tk:Nat) (L:HL):=([(24,vI ((obj S.O tk).opens+1)),(26,.pointer (some ⟨(L.b tk),7,none⟩))]:Fr)
theorem lJ {β:Bs} (S:aH) (L:HL) (f m t:Nat) (hI:Inv S) (d:Nat) (hd:Live S.idx ⟨d,2⟩) (name:ByteArray) (hsz:name.size<=1048576) (th:Th) (hlk:aP name (obj S.O d).ah=some th) :
    Spec Tryz.prog β 95 #[vP f,vP (L.b d),.string name] [pF f m t S.X,pO S.O L,pE S.O L,pI m L S.idx] (fun v l=>v=.tuple #[]/\l=[pF f m t ((aD S d name th).X),pO ((aD S d name th).O) L,pE ((aD S d name th).O) L,pI m L ((aD S d name th).idx)]):=by
 have hX:=hI.hX
 have hel:(obj S.O d).ah.length<=8192:=hI.fq hd
 have hkd:(obj S.O d).kind=2:=hI.kind hd
 refine Spec.enter Tryz.func95 rfl Tryz.ntmps95 (Nat.le_of_ble_eq_true rfl) (fun R=>?_)
 refine af.seq ?_
 obtain⟨tk,kd⟩:=th;have hlv:=(hI.ent hd hlk).2;have PX:=hI.ne hd hlk;rcases (hI.ob _ hlv).2.2 with e0|e0|e0<;>simp only at e0<;>subst e0
 ·have hkt:(obj S.O tk).kind=1:=hI.kind hlv
  have hlb:=hI.lb hlv;have hid:=hI.ob _ hlv;have hop:=hI.zC hlv;have hdl:=hI.Bw hlv;have nj:=hI.F6 hlv
  refine af.region (gK 3 (Lj f L d name) [] ?_)
  refine gL [0,1,2] (iz S.X f m t hX S.O L d hkd name hsz ⟨tk,1⟩ hkt (by simp) hlk (hI.twice hd) (by omega) (by simp only at hlb ⊢;omega)) ?_
  rintro _ _ ⟨rfl,rfl⟩
  refine gK 1 [(6,.iface 69 (vP (L.b tk)))] [] ?_
  refine NS ?_
  have iJ:(obj (aM S.X S.O d name ⟨tk,1⟩) d).kind=2:=(cr).trans (hkd)
  have kq:(obj (aM S.X S.O d name ⟨tk,1⟩) tk).kind=1:=(cr).trans (hkt)
  have tX:(obj (aM S.X S.O d name ⟨tk,1⟩) tk).id=(obj S.O tk).id:=cR (g:=aO.id) (fun _ _=>rfl) (fun _ _=>rfl) (fun _ _ _=>rfl)
  have tY:(obj (aM S.X S.O d name ⟨tk,1⟩) tk).opens=(obj S.O tk).opens:=cR (g:=aO.opens) (fun _ _=>rfl) (fun _ _=>rfl) (fun _ _ _=>rfl)
  have tZ:(obj (aM S.X S.O d name ⟨tk,1⟩) tk).data=(obj S.O tk).data:=cR (g:=aO.data) (fun _ _=>rfl) (fun _ _=>rfl) (fun _ _ _=>rfl)
  generalize bJ:(aM S.X S.O d name ⟨tk,1⟩)=bR at iJ kq tX tY tZ ⊢
  refine gK 1 [(12,.iface 69 (vP (L.b tk)))] [] ?_
  refine gL [] (cJ (L.b tk)) ?_
  rintro _ _ ⟨rfl,rfl⟩
  refine gK 1 [(7,vP (L.b tk))] [] ?_
  refine NS (gK 5 [(18,.bool (decide (((obj bR tk).links:Int)=(0:Int))))] [(3,v_ 1 (kM L kq))] ?_)
  refine NN (af.aR (p:=((obj bR tk).links:Int)=(0:Int)) (fun _=>by kernel_rfl) (fun kS=>?_) (fun kS=>?_))
  ·refine SR (gK 3 [(21,.pointer (some ⟨(L.b tk),8,none⟩))] [] ?_)
   refine pQ 1 [(2,1)] tk 8 (fun o=>{ o with gone:=true }) kq (fun dx cM=>?_)
   have yC:=ku cM iJ
   have tM:=ku cM kq
   have F9:(obj dx tk).id=(obj S.O tk).id:=fu aO.id cM tX
   have Ll:(obj dx tk).opens=(obj S.O tk).opens:=fu aO.opens cM tY
   have O5:(obj dx tk).data=(obj S.O tk).data:=fu aO.data cM tZ
   refine NN (af.region (gK 2 [(22,vP f),(23,.iface 69 (vP (L.b tk)))] [] ?_))
   refine gL [1,0,3] (nR { S.X with ah:=S.X.ah - 1 } f m t (hI.vA hd hlk) dx L S.idx hI.rise ⟨tk,1⟩ tM (by simp) (by rw [Ll];exact hop.1) (fun _=>by rw [F9,hid.1];exact hlv) (by rw [F9];exact nj) (by rw [O5];exact hdl)) ?_
   rintro _ _ ⟨rfl,rfl⟩
   refine NL ?_
   exact RF (l:=[pF f m t { S.X with ah:=S.X.ah - 1,used:=iR dx S.X.used ⟨tk,1⟩ },pO dx L,pE dx L,pI m L (iG dx S.idx ⟨tk,1⟩)]) (.tuple #[]) [1,0,3,2,4] (⟨rfl,by subst cM;subst bJ;rw [show aD S d name ⟨tk,1⟩=_ from qv kS]<;>rfl⟩)
  refine af.skip ?_
  exact RF (l:=[pF f m t { S.X with ah:=S.X.ah - 1 },pO bR L,pE bR L,pI m L S.idx]) (.tuple #[]) [0,1,2,3,4] (⟨rfl,by subst bJ;rw [show aD S d name ⟨tk,1⟩=_ from qw kS]<;>rfl⟩)
 ·have hkt:(obj S.O tk).kind=2:=hI.kind hlv
  have hlb:=hI.lb hlv;have hid:=hI.ob _ hlv;have hop:=hI.zC hlv;have hdl:=hI.Bw hlv;have nj:=hI.F6 hlv
  refine af.region (gK 3 (Lj f L d name) [] ?_)
  refine gL [0,1,2] (iz S.X f m t hX S.O L d hkd name hsz ⟨tk,2⟩ hkt (by simp) hlk (hI.twice hd) (by omega) (by simp only at hlb ⊢;omega)) ?_
  rintro _ _ ⟨rfl,rfl⟩
  refine gK 1 [(6,.iface 76 (vP (L.b tk)))] [] ?_
  refine NS ?_
  have Lm:(obj (aM S.X S.O d name ⟨tk,2⟩) d).kind=2:=(cr).trans (hkd)
  have yh:(obj (aM S.X S.O d name ⟨tk,2⟩) tk).kind=2:=(cr).trans (hkt)
  have tX:(obj (aM S.X S.O d name ⟨tk,2⟩) tk).id=(obj S.O tk).id:=cR (g:=aO.id) (fun _ _=>rfl) (fun _ _=>rfl) (fun _ _ _=>rfl)
  have tY:(obj (aM S.X S.O d name ⟨tk,2⟩) tk).opens=(obj S.O tk).opens:=cR (g:=aO.opens) (fun _ _=>rfl) (fun _ _=>rfl) (fun _ _ _=>rfl)
  have tZ:(obj (aM S.X S.O d name ⟨tk,2⟩) tk).data=(obj S.O tk).data:=cR (g:=aO.data) (fun _ _=>rfl) (fun _ _=>rfl) (fun _ _ _=>rfl)
  generalize bJ:(aM S.X S.O d name ⟨tk,2⟩)=bR at Lm yh tX tY tZ ⊢
  refine gK 1 [(12,.iface 76 (vP (L.b tk)))] [] ?_
  refine gL [] (cJ (L.b tk)) ?_
  rintro _ _ ⟨rfl,rfl⟩
  refine gK 1 [(7,vP (L.b tk))] [] ?_
  refine NS (gK 5 [(18,.bool (decide (((obj bR tk).links:Int)=(0:Int))))] [(3,v_ 1 (kM L yh))] ?_)
  refine NN (af.aR (p:=((obj bR tk).links:Int)=(0:Int)) (fun _=>by kernel_rfl) (fun kS=>?_) (fun kS=>?_))
  ·refine SR (gK 3 [(21,.pointer (some ⟨(L.b tk),8,none⟩))] [] ?_)
   refine pQ 1 [(2,1)] tk 8 (fun o=>{ o with gone:=true }) yh (fun dx cM=>?_)
   have D7:=ku cM Lm
   have Jq:=ku cM yh
   have Ln:(obj dx tk).id=(obj S.O tk).id:=fu aO.id cM tX
   have Oc:(obj dx tk).opens=(obj S.O tk).opens:=fu aO.opens cM tY
   have Od:(obj dx tk).data=(obj S.O tk).data:=fu aO.data cM tZ
   refine NN (af.region (gK 2 [(22,vP f),(23,.iface 76 (vP (L.b tk)))] [] ?_))
   refine gL [1,0,3] (nR { S.X with ah:=S.X.ah - 1 } f m t (hI.vA hd hlk) dx L S.idx hI.rise ⟨tk,2⟩ Jq (by simp) (by rw [Oc];exact hop.1) (fun _=>by rw [Ln,hid.1];exact hlv) (by rw [Ln];exact nj) (by rw [Od];exact hdl)) ?_
   rintro _ _ ⟨rfl,rfl⟩
   refine NL ?_
   exact RF (l:=[pF f m t { S.X with ah:=S.X.ah - 1,used:=iR dx S.X.used ⟨tk,2⟩ },pO dx L,pE dx L,pI m L (iG dx S.idx ⟨tk,2⟩)]) (.tuple #[]) [1,0,3,2,4] (⟨rfl,by subst cM;subst bJ;rw [show aD S d name ⟨tk,2⟩=_ from qv kS]<;>rfl⟩)
  refine af.skip ?_
  exact RF (l:=[pF f m t { S.X with ah:=S.X.ah - 1 },pO bR L,pE bR L,pI m L S.idx]) (.tuple #[]) [0,1,2,3,4] (⟨rfl,by subst bJ;rw [show aD S d name ⟨tk,2⟩=_ from qw kS]<;>rfl⟩)
 have hkt:(obj S.O tk).kind=3:=hI.kind hlv
 have hlb:=hI.lb hlv;have hid:=hI.ob _ hlv;have hop:=hI.zC hlv;have hdl:=hI.Bw hlv;have nj:=hI.F6 hlv
 refine af.region (gK 3 (Lj f L d name) [] ?_)
 refine gL [0,1,2] (iz S.X f m t hX S.O L d hkd name hsz ⟨tk,3⟩ hkt (by simp) hlk (hI.twice hd) (by omega) (by simp only at hlb ⊢;omega)) ?_
 rintro _ _ ⟨rfl,rfl⟩
 refine gK 1 [(6,.iface 73 (vP (L.b tk)))] [] ?_
 refine NS ?_
 have Jx:(obj (aM S.X S.O d name ⟨tk,3⟩) d).kind=2:=(cr).trans (hkd)
 have wZ:(obj (aM S.X S.O d name ⟨tk,3⟩) tk).kind=3:=(cr).trans (hkt)
 have tX:(obj (aM S.X S.O d name ⟨tk,3⟩) tk).id=(obj S.O tk).id:=cR (g:=aO.id) (fun _ _=>rfl) (fun _ _=>rfl) (fun _ _ _=>rfl)
 have tY:(obj (aM S.X S.O d name ⟨tk,3⟩) tk).opens=(obj S.O tk).opens:=cR (g:=aO.opens) (fun _ _=>rfl) (fun _ _=>rfl) (fun _ _ _=>rfl)
 have tZ:(obj (aM S.X S.O d name ⟨tk,3⟩) tk).data=(obj S.O tk).data:=cR (g:=aO.data) (fun _ _=>rfl) (fun _ _=>rfl) (fun _ _ _=>rfl)
 generalize bJ:(aM S.X S.O d name ⟨tk,3⟩)=bR at Jx wZ tX tY tZ ⊢
 refine gK 1 [(12,.iface 73 (vP (L.b tk)))] [] ?_
 refine gL [] (cJ (L.b tk)) ?_
 rintro _ _ ⟨rfl,rfl⟩
 refine gK 1 [(7,vP (L.b tk))] [] ?_
 refine NS (gK 5 [(18,.bool (decide (((obj bR tk).links:Int)=(0:Int))))] [(3,v_ 1 (kM L wZ))] ?_)
 refine NN (af.aR (p:=((obj bR tk).links:Int)=(0:Int)) (fun _=>by kernel_rfl) (fun kS=>?_) (fun kS=>?_))
 ·refine SR (gK 3 [(21,.pointer (some ⟨(L.b tk),8,none⟩))] [] ?_)
  refine pQ 1 [(2,1)] tk 8 (fun o=>{ o with gone:=true }) wZ (fun dx cM=>?_)
  have ME:=ku cM Jx
  have w9:=ku cM wZ
  have Lp:(obj dx tk).id=(obj S.O tk).id:=fu aO.id cM tX
  have Oe:(obj dx tk).opens=(obj S.O tk).opens:=fu aO.opens cM tY
  have Og:(obj dx tk).data=(obj S.O tk).data:=fu aO.data cM tZ
  refine NN (af.region (gK 2 [(22,vP f),(23,.iface 73 (vP (L.b tk)))] [] ?_))
  refine gL [1,0,3] (nR { S.X with ah:=S.X.ah - 1 } f m t (hI.vA hd hlk) dx L S.idx hI.rise ⟨tk,3⟩ w9 (by simp) (by rw [Oe];exact hop.1) (fun _=>by rw [Lp,hid.1];exact hlv) (by rw [Lp];exact nj) (by rw [Og];exact hdl)) ?_
  rintro _ _ ⟨rfl,rfl⟩
  refine NL ?_
  exact RF (l:=[pF f m t { S.X with ah:=S.X.ah - 1,used:=iR dx S.X.used ⟨tk,3⟩ },pO dx L,pE dx L,pI m L (iG dx S.idx ⟨tk,3⟩)]) (.tuple #[]) [1,0,3,2,4] (⟨rfl,by subst cM;subst bJ;rw [show aD S d name ⟨tk,3⟩=_ from qv kS]<;>rfl⟩)
 refine af.skip ?_
 exact RF (l:=[pF f m t { S.X with ah:=S.X.ah - 1 },pO bR L,pE bR L,pI m L S.idx]) (.tuple #[]) [0,1,2,3,4] (⟨rfl,by subst bJ;rw [show aD S d name ⟨tk,3⟩=_ from qw kS]<;>rfl⟩)
theorem t6 {β:Bs} (S:aH) (L:HL) (f m t:Nat) (hI:Inv S) (d:Nat) (hd:Live S.idx ⟨d,2⟩) (name:ByteArray) (hsz:name.size<=1048576) :
    Spec Tryz.prog β 70 #[vP f,vP (L.b d),.string name] [pF f m t S.X,pI m L S.idx,pE S.O L,pO S.O L] (fun v l=>v=vI (cF S.X S.O S.idx d name)/\l=[pF f m t S.X,pI m L S.idx,pE S.O L,pO S.O L]):=by
 have hX:=hI.hX
 have hel:(obj S.O d).ah.length<=8192:=hI.fq hd
 have hkd:(obj S.O d).kind=2:=hI.kind hd
 refine Spec.enter Tryz.func70 rfl Tryz.ntmps70 (Nat.le_of_ble_eq_true rfl) (fun R=>?_)
 refine af.seq ?_
 rcases hI.lD hd name with hlk|⟨tk,hlk,hlv⟩|⟨tk,hlk,hlv⟩|⟨tk,hlk,hlv⟩
 ·refine af.region (gK 1 [] [] ?_)
  refine NN (af.seq (SR (gK 5 [(10,.map (some (L.m d))),(11,.string name)] [(3,v_ 3 (br L hkd))] ?_)))
  refine iE 2 hkd hlk ?_
  refine gK 1 [(13,.bool false)] [] ?_
  refine NN (CF (af.skip (NX (af.seq (SR (gK 1 [(14,vP f)] [] ?_))))))
  refine gL [0,1] (Bu S.X f m t L S.idx) ?_
  rintro _ _ ⟨rfl,rfl⟩
  refine gK 1 [(16,.bool (!(decide (((S.idx.length:Int) < S.X.cN/\S.X.last < 1099511627776/\S.X.ah < 8192)))))] [] ?_
  refine NN (af.cu (p:=((S.idx.length:Int) < S.X.cN/\S.X.last < 1099511627776/\S.X.ah < 8192)) (fun _=>by kernel_rfl) (fun tD=>?_) (fun tD=>?_))
  ·refine SR (gK 1 [(6,vI 177)] [] ?_)
   refine NN (af.ret (ai.aj ?_))
   exact RT (vI 177) [0,1,2,3,4] (⟨congrArg (Value.int .i64) (Eq.symm (show cF S.X S.O S.idx d name=_ from (if_pos hlk).trans (if_neg tD))),rfl⟩)
  refine af.skip (NX (SR (gK 1 [(6,vI 0)] [] ?_)))
  refine NN (af.ret ?_)
  exact RT (vI 0) [0,1,2,3,4] (⟨congrArg (Value.int .i64) (Eq.symm (show cF S.X S.O S.idx d name=_ from (if_pos hlk).trans (if_pos tD))),rfl⟩)
 ·have hkt:(obj S.O tk).kind=1:=hI.kind hlv
  refine af.region (gK 1 [] [] ?_)
  refine NN (af.seq (SR (gK 5 [(10,.map (some (L.m d))),(11,.string name)] [(3,v_ 3 (br L hkd))] ?_)))
  refine iE 2 hkd hlk ?_
  refine gK 1 [(13,.bool true)] [] ?_
  refine NN (CT (SR (gK 1 [(6,vI 171)] [] ?_)))
  refine NN (af.ret (ai.aj ?_))
  exact RT (vI 171) [0,1,2,3,4] (⟨congrArg (Value.int .i64) (Eq.symm (show cF S.X S.O S.idx d name=_ from if_neg (by rw [hlk];simp))),rfl⟩)
 ·have hkt:(obj S.O tk).kind=2:=hI.kind hlv
  refine af.region (gK 1 [] [] ?_)
  refine NN (af.seq (SR (gK 5 [(10,.map (some (L.m d))),(11,.string name)] [(3,v_ 3 (br L hkd))] ?_)))
  refine iE 2 hkd hlk ?_
  refine gK 1 [(13,.bool true)] [] ?_
  refine NN (CT (SR (gK 1 [(6,vI 171)] [] ?_)))
  refine NN (af.ret (ai.aj ?_))
  exact RT (vI 171) [0,1,2,3,4] (⟨congrArg (Value.int .i64) (Eq.symm (show cF S.X S.O S.idx d name=_ from if_neg (by rw [hlk];simp))),rfl⟩)
 have hkt:(obj S.O tk).kind=3:=hI.kind hlv
 refine af.region (gK 1 [] [] ?_)
 refine NN (af.seq (SR (gK 5 [(10,.map (some (L.m d))),(11,.string name)] [(3,v_ 3 (br L hkd))] ?_)))
 refine iE 2 hkd hlk ?_
 refine gK 1 [(13,.bool true)] [] ?_
 refine NN (CT (SR (gK 1 [(6,vI 171)] [] ?_)))
 refine NN (af.ret (ai.aj ?_))
 exact RT (vI 171) [0,1,2,3,4] (⟨congrArg (Value.int .i64) (Eq.symm (show cF S.X S.O S.idx d name=_ from if_neg (by rw [hlk];simp))),rfl⟩)
theorem J7 {β:Bs} (s:ByteArray) (hsz:s.size<=1048576) :
    Spec Tryz.prog β 94 #[.string s] [] (fun v l=>v=vI (kW s)/\l=[]):=by
 refine Spec.enter Tryz.func94 rfl Tryz.ntmps94 (Nat.le_of_ble_eq_true rfl) (fun R=>?_)
 refine SR (gK 1 [] [] ?_)
 refine NN (af.seq (af.block (SR ?_)))
 refine gK 3 [(3,.bool (decide ((s:ByteArray)=⟨#[]⟩)))] [(1,p_ ⟨[],none,none,none,some (.bool (decide ((s:ByteArray)=⟨#[]⟩)))⟩ [(Value.bool ((s:ByteArray).toList == (⟨#[]⟩:ByteArray).toList))=(.bool (decide ((s:ByteArray)=⟨#[]⟩)))] ⟨kY _ _,trivial⟩)] ?_
 refine NN (af.aR (p:=(s:ByteArray)=⟨#[]⟩) (fun _=>by kernel_rfl) (fun h3=>?_) (fun h3=>?_))
 ·refine SR (gK 1 [(2,vI 90)] [] ?_)
  refine NN (af.ret (ai.ax (ai.aj ?_)))
  exact RT (vI 90) [0] (⟨congrArg (Value.int .i64) (Eq.symm (show kW s=_ from if_pos h3)),rfl⟩)
 refine SR (gK 4 [(6,.bool (decide (((((s:ByteArray).size:Nat):Int):Int) > (4096:Int))))] [] ?_)
 refine NN (af.aR (p:=((((s:ByteArray).size:Nat):Int):Int) > (4096:Int)) (fun _=>by kernel_rfl) (fun h6=>?_) (fun h6=>?_))
 ·refine SR (gK 1 [(2,vI 93)] [] ?_)
  refine NN (af.ret (ai.ax (ai.aj ?_)))
  exact RT (vI 93) [0] (⟨congrArg (Value.int .i64) (Eq.symm (show kW s=_ from (if_neg h3).trans (if_pos (by omega)))),rfl⟩)
 refine SR (gK 1 [(11,.string s)] [] ?_)
 refine gL [] (CP s) ?_
 rintro _ _ ⟨⟨x,rfl,hx⟩,rfl⟩
 refine gK 2 [(10,.bool (decide ((x:Int) ≥ (0:Int))))] [] ?_
 refine NN (af.aR (p:=(x:Int) ≥ (0:Int)) (fun _=>by kernel_rfl) (fun h10=>?_) (fun h10=>?_))
 ·refine SR (gK 1 [(2,vI 91)] [] ?_)
  refine NN (af.ret (ai.ax (ai.aj ?_)))
  exact RT (vI 91) [0] (⟨congrArg (Value.int .i64) (Eq.symm (show kW s=_ from (if_neg h3).trans ((if_neg (by omega)).trans (if_neg (hx.1 (by omega)))))),rfl⟩)
 refine af.skip (ai.aF (NX (SR ?_)))
 refine gK 1 [(2,vI 0)] [] ?_
 refine NN (af.ret ?_)
 exact RT (vI 0) [0] (⟨congrArg (Value.int .i64) (Eq.symm (show kW s=_ from (if_neg h3).trans ((if_neg (by omega)).trans (if_pos (Classical.byContradiction (fun hn=>absurd (hx.2 hn) (by omega))))))),rfl⟩)
theorem pW {β:Bs} (S:aH) (L:HL) (f m t:Nat) (th:Th) (hkt:(obj S.O th.k).kind=th.kind) (h3:th.kind=1\/th.kind=2\/th.kind=3) (hop:0<=(obj S.O th.k).opens/\(obj S.O th.k).opens<=1048576) :
    Spec Tryz.prog β 66 #[vP f,(dh L th)] [pF f m t S.X,pT t S.X.cH S.av L S.us,pO S.O L] (fun v l=>v=.tuple #[vI (bK S th).1,vI (bK S th).2.1]/\l=[pF f m t S.X,pT t S.X.cH ((bK S th).2.2.av) L ((bK S th).2.2.us),pO ((bK S th).2.2.O) L]):=by
 refine Spec.enter Tryz.func66 rfl Tryz.ntmps66 (Nat.le_of_ble_eq_true rfl) (fun R=>?_)
 refine af.seq ?_
 obtain⟨tk,kd⟩:=th;simp only at hkt h3;rcases Int.lt_or_le (S.us.length:Int) S.X.cH with qx|qx<;>rcases h3 with e0|e0|e0<;>subst e0
 ·replace hkt:(obj S.O tk).kind=1:=hkt
  replace hop:0<=(obj S.O tk).opens/\(obj S.O tk).opens<=1048576:=hop
  refine af.region (gK 2 [] [] ?_)
  refine NS (gK 5 [(12,vP t),(13,.iface 69 (vP (L.b tk)))] [(3,a_ 0 f)] ?_)
  refine gL [1] ((v7 t S.X.cH S.av (aT L S.us) (dh L ⟨tk,1⟩) (by rw [nh];exact qx)).mono (fun v l h=>yx h)) ?_
  rintro _ _ ⟨rfl,rfl⟩
  refine gK 5 [(6,vI ((aB.least S.us))),(7,vI 0)] [] ?_
  refine NN (af.seq (SR (gK 2 [(18,.bool true)] [] ?_)))
  refine NN (CT (af.region (gK 1 [(19,.iface 69 (vP (L.b tk)))] [] ?_)))
  refine gL [] (cJ (L.b tk)) ?_
  rintro _ _ ⟨rfl,rfl⟩
  refine gK 6 (Lk S tk L) [(2,v_ 2 (iN L hkt)),(3,p_ ⟨[],none,none,none,some (vI ((obj S.O tk).opens+1))⟩ [(Value.int .i64 (IntKind.wrap .i64 ((obj S.O tk).opens+1)))=(.int .i64 ((obj S.O tk).opens+1))] ⟨aU (by omega) (by omega) (by omega),trivial⟩)] ?_
  refine pQ 2 [] tk 7 (fun o=>{ o with opens:=o.opens+1 }) hkt (fun bR bJ=>?_)
  have PF:=ku bJ hkt
  refine NS (gK 4 [(4,vI ((aB.least S.us))),(5,vI 0)] [] ?_)
  refine NN (af.ret ?_)
  exact RT (l:=[pF f m t S.X,pT t S.X.cH (max S.av ((S.us.length:Int)+1)) L (ins (aB.least S.us) ⟨tk,1⟩ S.us),pO bR L]) (.tuple #[vI ((aB.least S.us)),vI 0]) [1,0,2,3] (by subst bJ;rw [show bK S ⟨tk,1⟩=_ from iT qx]<;>exact⟨rfl,rfl⟩)
 ·replace hkt:(obj S.O tk).kind=2:=hkt
  replace hop:0<=(obj S.O tk).opens/\(obj S.O tk).opens<=1048576:=hop
  refine af.region (gK 2 [] [] ?_)
  refine NS (gK 5 [(12,vP t),(13,.iface 76 (vP (L.b tk)))] [(3,a_ 0 f)] ?_)
  refine gL [1] ((v7 t S.X.cH S.av (aT L S.us) (dh L ⟨tk,2⟩) (by rw [nh];exact qx)).mono (fun v l h=>yx h)) ?_
  rintro _ _ ⟨rfl,rfl⟩
  refine gK 5 [(6,vI ((aB.least S.us))),(7,vI 0)] [] ?_
  refine NN (af.seq (SR (gK 2 [(18,.bool true)] [] ?_)))
  refine NN (CT (af.region (gK 1 [(19,.iface 76 (vP (L.b tk)))] [] ?_)))
  refine gL [] (cJ (L.b tk)) ?_
  rintro _ _ ⟨rfl,rfl⟩
  refine gK 6 (Lk S tk L) [(2,v_ 2 (iN L hkt)),(3,p_ ⟨[],none,none,none,some (vI ((obj S.O tk).opens+1))⟩ [(Value.int .i64 (IntKind.wrap .i64 ((obj S.O tk).opens+1)))=(.int .i64 ((obj S.O tk).opens+1))] ⟨aU (by omega) (by omega) (by omega),trivial⟩)] ?_
  refine pQ 2 [] tk 7 (fun o=>{ o with opens:=o.opens+1 }) hkt (fun bR bJ=>?_)
  have Js:=ku bJ hkt
  refine NS (gK 4 [(4,vI ((aB.least S.us))),(5,vI 0)] [] ?_)
  refine NN (af.ret ?_)
  exact RT (l:=[pF f m t S.X,pT t S.X.cH (max S.av ((S.us.length:Int)+1)) L (ins (aB.least S.us) ⟨tk,2⟩ S.us),pO bR L]) (.tuple #[vI ((aB.least S.us)),vI 0]) [1,0,2,3] (by subst bJ;rw [show bK S ⟨tk,2⟩=_ from iT qx]<;>exact⟨rfl,rfl⟩)
 ·replace hkt:(obj S.O tk).kind=3:=hkt
  replace hop:0<=(obj S.O tk).opens/\(obj S.O tk).opens<=1048576:=hop
  refine af.region (gK 2 [] [] ?_)
  refine NS (gK 5 [(12,vP t),(13,.iface 73 (vP (L.b tk)))] [(3,a_ 0 f)] ?_)
  refine gL [1] ((v7 t S.X.cH S.av (aT L S.us) (dh L ⟨tk,3⟩) (by rw [nh];exact qx)).mono (fun v l h=>yx h)) ?_
  rintro _ _ ⟨rfl,rfl⟩
  refine gK 5 [(6,vI ((aB.least S.us))),(7,vI 0)] [] ?_
  refine NN (af.seq (SR (gK 2 [(18,.bool true)] [] ?_)))
  refine NN (CT (af.region (gK 1 [(19,.iface 73 (vP (L.b tk)))] [] ?_)))
  refine gL [] (cJ (L.b tk)) ?_
  rintro _ _ ⟨rfl,rfl⟩
  refine gK 6 (Lk S tk L) [(2,v_ 2 (iN L hkt)),(3,p_ ⟨[],none,none,none,some (vI ((obj S.O tk).opens+1))⟩ [(Value.int .i64 (IntKind.wrap .i64 ((obj S.O tk).opens+1)))=(.int .i64 ((obj S.O tk).opens+1))] ⟨aU (by omega) (by omega) (by omega),trivial⟩)] ?_
  refine pQ 2 [] tk 7 (fun o=>{ o with opens:=o.opens+1 }) hkt (fun bR bJ=>?_)
  have zZ:=ku bJ hkt
  refine NS (gK 4 [(4,vI ((aB.least S.us))),(5,vI 0)] [] ?_)
  refine NN (af.ret ?_)
  exact RT (l:=[pF f m t S.X,pT t S.X.cH (max S.av ((S.us.length:Int)+1)) L (ins (aB.least S.us) ⟨tk,3⟩ S.us),pO bR L]) (.tuple #[vI ((aB.least S.us)),vI 0]) [1,0,2,3] (by subst bJ;rw [show bK S ⟨tk,3⟩=_ from iT qx]<;>exact⟨rfl,rfl⟩)
 ·replace hkt:(obj S.O tk).kind=1:=hkt
  replace hop:0<=(obj S.O tk).opens/\(obj S.O tk).opens<=1048576:=hop
  refine af.region (gK 2 [] [] ?_)
  refine NS (gK 5 [(12,vP t),(13,.iface 69 (vP (L.b tk)))] [(3,a_ 0 f)] ?_)
  refine gL [1] (tR t S.X.cH S.av (aT L S.us) (dh L ⟨tk,1⟩) (by rw [nh];exact qx)) ?_
  rintro _ _ ⟨rfl,rfl⟩
  refine gK 5 [(6,vI 0),(7,vI 130)] [] ?_
  refine NN (af.seq (SR (gK 2 [(18,.bool false)] [] ?_)))
  refine NN (CF (af.skip (NX (SR (gK 4 [(4,vI 0),(5,vI 130)] [] ?_)))))
  refine NN (af.ret ?_)
  exact RT (.tuple #[vI 0,vI 130]) [1,0,2,3] (by skip;rw [show bK S ⟨tk,1⟩=_ from kr (by omega)]<;>exact⟨rfl,rfl⟩)
 ·replace hkt:(obj S.O tk).kind=2:=hkt
  replace hop:0<=(obj S.O tk).opens/\(obj S.O tk).opens<=1048576:=hop
  refine af.region (gK 2 [] [] ?_)
  refine NS (gK 5 [(12,vP t),(13,.iface 76 (vP (L.b tk)))] [(3,a_ 0 f)] ?_)
  refine gL [1] (tR t S.X.cH S.av (aT L S.us) (dh L ⟨tk,2⟩) (by rw [nh];exact qx)) ?_
  rintro _ _ ⟨rfl,rfl⟩
  refine gK 5 [(6,vI 0),(7,vI 130)] [] ?_
  refine NN (af.seq (SR (gK 2 [(18,.bool false)] [] ?_)))
  refine NN (CF (af.skip (NX (SR (gK 4 [(4,vI 0),(5,vI 130)] [] ?_)))))
  refine NN (af.ret ?_)
  exact RT (.tuple #[vI 0,vI 130]) [1,0,2,3] (by skip;rw [show bK S ⟨tk,2⟩=_ from kr (by omega)]<;>exact⟨rfl,rfl⟩)
 replace hkt:(obj S.O tk).kind=3:=hkt
 replace hop:0<=(obj S.O tk).opens/\(obj S.O tk).opens<=1048576:=hop
 refine af.region (gK 2 [] [] ?_)
 refine NS (gK 5 [(12,vP t),(13,.iface 73 (vP (L.b tk)))] [(3,a_ 0 f)] ?_)
 refine gL [1] (tR t S.X.cH S.av (aT L S.us) (dh L ⟨tk,3⟩) (by rw [nh];exact qx)) ?_
 rintro _ _ ⟨rfl,rfl⟩
 refine gK 5 [(6,vI 0),(7,vI 130)] [] ?_
 refine NN (af.seq (SR (gK 2 [(18,.bool false)] [] ?_)))
 refine NN (CF (af.skip (NX (SR (gK 4 [(4,vI 0),(5,vI 130)] [] ?_)))))
 refine NN (af.ret ?_)
 exact RT (.tuple #[vI 0,vI 130]) [1,0,2,3] (by skip;rw [show bK S ⟨tk,3⟩=_ from kr (by omega)]<;>exact⟨rfl,rfl⟩)
theorem dz {β:Bs} (S:aH) (L:HL) (f m t:Nat) (hI:Inv S) (h:Int) (hw:(Lit.int .i64 h).wf=true) (name:ByteArray) (hsz:name.size<=1048576) (need:Int) :
    Spec Tryz.prog β 68 #[vP f,vI (h),.string name,vI (need)] [pF f m t S.X,pT t S.X.cH S.av L S.us,pO S.O L] (fun v l=>v=N8 L (cY S.O S.us h name need)/\l=[pF f m t S.X,pT t S.X.cH S.av L S.us,pO S.O L]):=by
 refine Spec.enter Tryz.func68 rfl Tryz.ntmps68 (Nat.le_of_ble_eq_true rfl) (fun R=>?_)
 refine af.seq ?_
 rcases hI.hand h with cT|⟨tk,cT,hlv⟩|⟨tk,cT,hlv⟩
 ·refine af.region (gK 2 [] [] ?_)
  refine NS (gK 5 [(18,vP t),(19,vI (h))] [(3,a_ 0 f)] ?_)
  refine gL [1] (nQ t S.X.cH S.av (aT L S.us) h hw (ni cT)) ?_
  rintro _ _ ⟨rfl,rfl⟩
  refine gK 5 [(10,.nilIface),(11,vI 131)] [] ?_
  refine NN (af.seq (SR (gK 2 [(24,.bool true)] [] ?_)))
  refine NN (CT (SR (gK 3 [(8,.pointer none),(9,vI 131)] [] ?_)))
  refine NN (af.ret (ai.aj ?_))
  exact RT (.tuple #[.pointer none,vI 131]) [1,0,2,3] (⟨by rw [show cY S.O S.us h name need=.error 131 by unfold cY;rw [cT]];rfl,rfl⟩)
 ·have hkt:(obj S.O tk).kind=1:=hI.kind hlv
  refine af.region (gK 2 [] [] ?_)
  refine NS (gK 5 [(18,vP t),(19,vI (h))] [(3,a_ 0 f)] ?_)
  refine gL [1] (jN t S.X.cH S.av (aT L S.us) h hw (dh L ⟨tk,1⟩) (jg cT)) ?_
  rintro _ _ ⟨rfl,rfl⟩
  refine gK 5 [(10,.iface 69 (vP (L.b tk))),(11,vI 0)] [] ?_
  refine NN (af.seq (SR (gK 2 [(24,.bool false)] [] ?_)))
  refine NN (CF (af.skip (NX (SR (gK 7 [(12,.pointer none),(13,.bool false)] [] ?_)))))
  refine NN (af.seq (af.block (SR ?_)))
  refine gK 3 [(31,.bool true)] [] ?_
  refine NN (CT (SR (gK 2 [(8,.pointer none),(9,vI 173)] [] ?_)))
  refine NN (af.ret (ai.ax (ai.aj ?_)))
  exact RT (.tuple #[.pointer none,vI 173]) [1,0,2,3] (⟨by rw [show cY S.O S.us h name need=.error 173 by unfold cY;rw [cT];exact if_neg (by simp)];rfl,rfl⟩)
 have hkt:(obj S.O tk).kind=2:=hI.kind hlv
 refine af.region (gK 2 [] [] ?_)
 refine NS (gK 5 [(18,vP t),(19,vI (h))] [(3,a_ 0 f)] ?_)
 refine gL [1] (jN t S.X.cH S.av (aT L S.us) h hw (dh L ⟨tk,2⟩) (jg cT)) ?_
 rintro _ _ ⟨rfl,rfl⟩
 refine gK 5 [(10,.iface 76 (vP (L.b tk))),(11,vI 0)] [] ?_
 refine NN (af.seq (SR (gK 2 [(24,.bool false)] [] ?_)))
 refine NN (CF (af.skip (NX (SR (gK 7 [(12,vP (L.b tk)),(13,.bool true)] [] ?_)))))
 refine NN (af.seq (af.block (SR ?_)))
 refine gK 3 [(31,.bool false)] [] ?_
 refine NN (CF (SR (gK 6 [(34,.bool (obj S.O tk).gone)] [(4,v_ 2 (mA L hkt))] ?_)))
 refine NN (af.cond (b:=(obj S.O tk).gone) (fun _=>by kernel_rfl) (fun rG=>?_) (fun rG=>?_))
 ·refine SR (gK 2 [(8,.pointer none),(9,vI 170)] [] ?_)
  refine NN (af.ret (ai.ax (ai.aj ?_)))
  exact RT (.tuple #[.pointer none,vI 170]) [1,0,2,3] (⟨by rw [show cY S.O S.us h name need=.error 170 by unfold cY;rw [cT];exact (if_pos rfl).trans (if_pos rG)];rfl,rfl⟩)
 refine SR (gK 1 [(41,.string name)] [] ?_)
 refine gL [] (tC name hsz) ?_
 rintro _ _ ⟨rfl,rfl⟩
 refine gK 2 [(40,.bool (!(decide (bI name))))] [] ?_
 refine NN (af.cu (p:=bI name) (fun _=>by kernel_rfl) (fun BA=>?_) (fun BA=>?_))
 ·refine SR (gK 2 [(8,.pointer none),(9,vI 95)] [] ?_)
  refine NN (af.ret (ai.ax (ai.aj ?_)))
  exact RT (.tuple #[.pointer none,vI 95]) [1,0,2,3] (⟨by rw [show cY S.O S.us h name need=.error 95 by unfold cY;rw [cT];exact (if_pos rfl).trans ((if_neg (by rw [rG];decide)).trans (if_neg BA))];rfl,rfl⟩)
 refine SR (gK 10 [(44,.bool (!(decide ((bits BinOp.and .i64 ((obj S.O tk).mode) need:Int)=(need:Int)))))] [(4,v_ 2 (pP L hkt))] ?_)
 refine NN (af.cu (p:=(bits BinOp.and .i64 ((obj S.O tk).mode) need:Int)=(need:Int)) (fun _=>by kernel_rfl) (fun vw=>?_) (fun vw=>?_))
 ·refine SR (gK 2 [(8,.pointer none),(9,vI 175)] [] ?_)
  refine NN (af.ret (ai.ax (ai.aj ?_)))
  exact RT (.tuple #[.pointer none,vI 175]) [1,0,2,3] (⟨by rw [show cY S.O S.us h name need=.error 175 by unfold cY;rw [cT];exact (if_pos rfl).trans ((if_neg (by rw [rG];decide)).trans ((if_pos BA).trans (if_neg vw)))];rfl,rfl⟩)
 refine af.skip (ai.aF (NX (SR ?_)))
 refine gK 3 [(8,vP (L.b tk)),(9,vI 0)] [] ?_
 refine NN (af.ret ?_)
 exact RT (.tuple #[vP (L.b tk),vI 0]) [1,0,2,3] (⟨by rw [show cY S.O S.us h name need=.ok tk by unfold cY;rw [cT];exact (if_pos rfl).trans ((if_neg (by rw [rG];decide)).trans ((if_pos BA).trans (if_pos vw)))];rfl,rfl⟩)
theorem J8 {β:Bs} (X:FM) (f m t:Nat) (hX:0<=X.ah/\X.ah<=1048576/\-1125899906842624<=X.used/\X.used<=1125899906842624/\0<=X.last/\X.last<=1125899906842624) (O:bO) (L:HL) (d:Nat) (hkd:(obj O d).kind=2) (name:ByteArray) (hsz:name.size<=1048576) (hno:aP name (obj O d).ah=none) (hel:(obj O d).ah.length<=1048576) (idx:Used Th) (hil:idx.length<=1048576) (th:Th) (hkt:(obj O th.k).kind=th.kind) (h3:th.kind=1\/th.kind=2\/th.kind=3) (hb:0<=(obj O th.k).links/\(obj O th.k).links<=1048576) (hni:aB.get idx (obj O th.k).id=none) (hw:(Lit.int .i64 (obj O th.k).id).wf=true) :
    Spec Tryz.prog β 72 #[vP f,vP (L.b d),.string name,(dh L th)] [pF f m t X,pI m L idx,pO O L,pE O L] (fun v l=>v=.tuple #[]/\l=[pF f m t { X with ah:=X.ah+1 },pI m L (ins (obj O th.k).id th idx),pO (cC X O d name th) L,pE (cC X O d name th) L]):=by
 refine Spec.enter Tryz.func72 rfl Tryz.ntmps72 (Nat.le_of_ble_eq_true rfl) (fun R=>?_)
 refine af.seq ?_
 obtain⟨tk,kd⟩:=th;simp only at hkt h3;rcases h3 with rfl|rfl|rfl
 ·replace hkt:(obj O tk).kind=1:=hkt
  replace hni:aB.get idx (obj O tk).id=none:=hni
  replace hw:(Lit.int .i64 (obj O tk).id).wf=true:=hw
  refine af.ct (S:=(sO f m t X L idx O R)) [0,1,2,3,4,9,5,6,7,8,10] 6 [0,1,2,3,4] (by kernel_rfl) (by kernel_rfl) rfl (by kernel_rfl) ?_
  refine gR 0 [5,6,7,8,10] (Bz f L d name++[(3,.iface 69 (vP (L.b tk))),(11,.map (some m)),(12,.iface 69 (vP (L.b tk))),(17,.iface 69 (vP (L.b tk)))]) [0,1,2,3,4,9] [(3,a_ 0 f)] ?_
  refine mL [0,1,2,3,4] [] (cJ (L.b tk)) ?_ (by rintro _ _ ⟨rfl,rfl⟩;rfl)
  rintro _ _ ⟨rfl,rfl⟩
  refine aG.cut (ι:=Unit) (fr':=fun (_:Unit)=>(xw f L d name++[(3,.iface 69 (vP (L.b tk))),(11,.map (some m)),(14,vP (L.b tk)),(17,.iface 69 (vP (L.b tk)))])) (hp':=fun (_:Unit)=>(sO f m t X L idx O R)) [0,1,2,3,4] rfl rfl ?_ rfl (fun _=>by kernel_rfl) ?_
  ·refine gK 1 [(14,vP (L.b tk))] [] ?_
   refine NL ?_
   exact MD () [0,1,2,3,11,14,17] [0,1,2,3,4]
  rintro _
  refine aG.cut (ι:=Unit) (fr':=fun (_:Unit)=>(xw f L d name++[(3,.iface 69 (vP (L.b tk))),(11,.map (some m)),(15,vP (L.b tk)),(17,.iface 69 (vP (L.b tk)))])) (hp':=fun (_:Unit)=>(sO f m t X L idx O R)) [0,1,2,3,4] rfl rfl ?_ rfl (fun _=>by kernel_rfl) ?_
  ·refine gK 1 [(15,vP (L.b tk))] [] ?_
   refine NL ?_
   exact MD () [0,1,2,3,11,15,17] [0,1,2,3,4]
  rintro _
  refine aG.cut (ι:=Unit) (fr':=fun (_:Unit)=>(xw f L d name++[(3,.iface 69 (vP (L.b tk))),(11,.map (some m)),(16,vI ((obj O tk).id)),(17,.iface 69 (vP (L.b tk)))])) (hp':=fun (_:Unit)=>(sO f m t X L idx O R)) [0,1,2,3,4] rfl rfl ?_ rfl (fun _=>by kernel_rfl) ?_
  ·refine gK 1 [(16,vI ((obj O tk).id))] [(0,v_ 2 (oh L hkt))] ?_
   refine NL ?_
   exact MD () [0,1,2,3,11,16,17] [0,1,2,3,4]
  rintro _
  refine aG.last rfl rfl ?_
  refine ak.j7 1 (d:=none) (t:=60) (K:=3) (E:=64) (b:=m) (n:=idx.length) (f:=(aV (aT L idx))) (x:=(.tmp 11)) (ix:=(.tmp 16)) (y:=(.tmp 17)) (key:=.int .i64 ((obj O tk).id)) (u:=.iface 69 (vP (L.b tk))) (kl:=(.int .i64 (obj O tk).id)) (n':=(idx.length+1)) (f':=(aV (aT L (ins (obj O tk).id ⟨tk,1⟩ idx)))) (fun _=>by kernel_rfl) (by kernel_rfl) (fun _=>by kernel_rfl) (fun _=>by kernel_rfl) (fun _=>by kernel_rfl) dW Tryz.underlying60 (by unfold maxLen;omega) (jf hw) (by rw [eX,hni];rfl) (o4 (L:=L) (t:=⟨tk,1⟩) hni) ?_
  refine NL (ai.np (NX (af.region ?_)))
  refine gK 4 (Li f L d name++[(21,.iface 69 (vP (L.b tk)))]) [] ?_
  refine gL [0,2,3] (fW X f m t hX O L d hkd name hsz hno hel ⟨tk,1⟩ hkt (by simp) hb) ?_
  rintro _ _ ⟨rfl,rfl⟩
  refine NL (ai.cW [(3,.abs (aN Tryz.prog 3 m (aV (aT L (ins (obj O tk).id ⟨tk,1⟩ idx))) ((ins (obj O tk).id ⟨tk,1⟩ idx).length)))] (fun w hS=>by rw [show (ins (obj O tk).id ⟨tk,1⟩ idx).length=idx.length+1 from gy _ _ _];exact hS) ?_)
  exact RF (.tuple #[]) [0,3,1,2,4] (⟨rfl,rfl⟩)
 ·replace hkt:(obj O tk).kind=2:=hkt
  replace hni:aB.get idx (obj O tk).id=none:=hni
  replace hw:(Lit.int .i64 (obj O tk).id).wf=true:=hw
  refine af.ct (S:=(sO f m t X L idx O R)) [0,1,2,3,4,9,5,6,7,8,10] 6 [0,1,2,3,4] (by kernel_rfl) (by kernel_rfl) rfl (by kernel_rfl) ?_
  refine gR 0 [5,6,7,8,10] (Bz f L d name++[(3,.iface 76 (vP (L.b tk))),(11,.map (some m)),(12,.iface 76 (vP (L.b tk))),(17,.iface 76 (vP (L.b tk)))]) [0,1,2,3,4,9] [(3,a_ 0 f)] ?_
  refine mL [0,1,2,3,4] [] (cJ (L.b tk)) ?_ (by rintro _ _ ⟨rfl,rfl⟩;rfl)
  rintro _ _ ⟨rfl,rfl⟩
  refine aG.cut (ι:=Unit) (fr':=fun (_:Unit)=>(xw f L d name++[(3,.iface 76 (vP (L.b tk))),(11,.map (some m)),(14,vP (L.b tk)),(17,.iface 76 (vP (L.b tk)))])) (hp':=fun (_:Unit)=>(sO f m t X L idx O R)) [0,1,2,3,4] rfl rfl ?_ rfl (fun _=>by kernel_rfl) ?_
  ·refine gK 1 [(14,vP (L.b tk))] [] ?_
   refine NL ?_
   exact MD () [0,1,2,3,11,14,17] [0,1,2,3,4]
  rintro _
  refine aG.cut (ι:=Unit) (fr':=fun (_:Unit)=>(xw f L d name++[(3,.iface 76 (vP (L.b tk))),(11,.map (some m)),(15,vP (L.b tk)),(17,.iface 76 (vP (L.b tk)))])) (hp':=fun (_:Unit)=>(sO f m t X L idx O R)) [0,1,2,3,4] rfl rfl ?_ rfl (fun _=>by kernel_rfl) ?_
  ·refine gK 1 [(15,vP (L.b tk))] [] ?_
   refine NL ?_
   exact MD () [0,1,2,3,11,15,17] [0,1,2,3,4]
  rintro _
  refine aG.cut (ι:=Unit) (fr':=fun (_:Unit)=>(xw f L d name++[(3,.iface 76 (vP (L.b tk))),(11,.map (some m)),(16,vI ((obj O tk).id)),(17,.iface 76 (vP (L.b tk)))])) (hp':=fun (_:Unit)=>(sO f m t X L idx O R)) [0,1,2,3,4] rfl rfl ?_ rfl (fun _=>by kernel_rfl) ?_
  ·refine gK 1 [(16,vI ((obj O tk).id))] [(0,v_ 2 (oh L hkt))] ?_
   refine NL ?_
   exact MD () [0,1,2,3,11,16,17] [0,1,2,3,4]
  rintro _
  refine aG.last rfl rfl ?_
  refine ak.j7 1 (d:=none) (t:=60) (K:=3) (E:=64) (b:=m) (n:=idx.length) (f:=(aV (aT L idx))) (x:=(.tmp 11)) (ix:=(.tmp 16)) (y:=(.tmp 17)) (key:=.int .i64 ((obj O tk).id)) (u:=.iface 76 (vP (L.b tk))) (kl:=(.int .i64 (obj O tk).id)) (n':=(idx.length+1)) (f':=(aV (aT L (ins (obj O tk).id ⟨tk,2⟩ idx)))) (fun _=>by kernel_rfl) (by kernel_rfl) (fun _=>by kernel_rfl) (fun _=>by kernel_rfl) (fun _=>by kernel_rfl) dW Tryz.underlying60 (by unfold maxLen;omega) (jf hw) (by rw [eX,hni];rfl) (o4 (L:=L) (t:=⟨tk,2⟩) hni) ?_
  refine NL (ai.np (NX (af.region ?_)))
  refine gK 4 (Li f L d name++[(21,.iface 76 (vP (L.b tk)))]) [] ?_
  refine gL [0,2,3] (fW X f m t hX O L d hkd name hsz hno hel ⟨tk,2⟩ hkt (by simp) hb) ?_
  rintro _ _ ⟨rfl,rfl⟩
  refine NL (ai.cW [(3,.abs (aN Tryz.prog 3 m (aV (aT L (ins (obj O tk).id ⟨tk,2⟩ idx))) ((ins (obj O tk).id ⟨tk,2⟩ idx).length)))] (fun w hS=>by rw [show (ins (obj O tk).id ⟨tk,2⟩ idx).length=idx.length+1 from gy _ _ _];exact hS) ?_)
  exact RF (.tuple #[]) [0,3,1,2,4] (⟨rfl,rfl⟩)
 replace hkt:(obj O tk).kind=3:=hkt
 replace hni:aB.get idx (obj O tk).id=none:=hni
 replace hw:(Lit.int .i64 (obj O tk).id).wf=true:=hw
 refine af.ct (S:=(sO f m t X L idx O R)) [0,1,2,3,4,9,5,6,7,8,10] 6 [0,1,2,3,4] (by kernel_rfl) (by kernel_rfl) rfl (by kernel_rfl) ?_
 refine gR 0 [5,6,7,8,10] (Bz f L d name++[(3,.iface 73 (vP (L.b tk))),(11,.map (some m)),(12,.iface 73 (vP (L.b tk))),(17,.iface 73 (vP (L.b tk)))]) [0,1,2,3,4,9] [(3,a_ 0 f)] ?_
 refine mL [0,1,2,3,4] [] (cJ (L.b tk)) ?_ (by rintro _ _ ⟨rfl,rfl⟩;rfl)
 rintro _ _ ⟨rfl,rfl⟩
 refine aG.cut (ι:=Unit) (fr':=fun (_:Unit)=>(xw f L d name++[(3,.iface 73 (vP (L.b tk))),(11,.map (some m)),(14,vP (L.b tk)),(17,.iface 73 (vP (L.b tk)))])) (hp':=fun (_:Unit)=>(sO f m t X L idx O R)) [0,1,2,3,4] rfl rfl ?_ rfl (fun _=>by kernel_rfl) ?_
 ·refine gK 1 [(14,vP (L.b tk))] [] ?_
  refine NL ?_
  exact MD () [0,1,2,3,11,14,17] [0,1,2,3,4]
 rintro _
 refine aG.cut (ι:=Unit) (fr':=fun (_:Unit)=>(xw f L d name++[(3,.iface 73 (vP (L.b tk))),(11,.map (some m)),(15,vP (L.b tk)),(17,.iface 73 (vP (L.b tk)))])) (hp':=fun (_:Unit)=>(sO f m t X L idx O R)) [0,1,2,3,4] rfl rfl ?_ rfl (fun _=>by kernel_rfl) ?_
 ·refine gK 1 [(15,vP (L.b tk))] [] ?_
  refine NL ?_
  exact MD () [0,1,2,3,11,15,17] [0,1,2,3,4]
 rintro _
 refine aG.cut (ι:=Unit) (fr':=fun (_:Unit)=>(xw f L d name++[(3,.iface 73 (vP (L.b tk))),(11,.map (some m)),(16,vI ((obj O tk).id)),(17,.iface 73 (vP (L.b tk)))])) (hp':=fun (_:Unit)=>(sO f m t X L idx O R)) [0,1,2,3,4] rfl rfl ?_ rfl (fun _=>by kernel_rfl) ?_
 ·refine gK 1 [(16,vI ((obj O tk).id))] [(0,v_ 2 (oh L hkt))] ?_
  refine NL ?_
  exact MD () [0,1,2,3,11,16,17] [0,1,2,3,4]
 rintro _
 refine aG.last rfl rfl ?_
 refine ak.j7 1 (d:=none) (t:=60) (K:=3) (E:=64) (b:=m) (n:=idx.length) (f:=(aV (aT L idx))) (x:=(.tmp 11)) (ix:=(.tmp 16)) (y:=(.tmp 17)) (key:=.int .i64 ((obj O tk).id)) (u:=.iface 73 (vP (L.b tk))) (kl:=(.int .i64 (obj O tk).id)) (n':=(idx.length+1)) (f':=(aV (aT L (ins (obj O tk).id ⟨tk,3⟩ idx)))) (fun _=>by kernel_rfl) (by kernel_rfl) (fun _=>by kernel_rfl) (fun _=>by kernel_rfl) (fun _=>by kernel_rfl) dW Tryz.underlying60 (by unfold maxLen;omega) (jf hw) (by rw [eX,hni];rfl) (o4 (L:=L) (t:=⟨tk,3⟩) hni) ?_
 refine NL (ai.np (NX (af.region ?_)))
 refine gK 4 (Li f L d name++[(21,.iface 73 (vP (L.b tk)))]) [] ?_
 refine gL [0,2,3] (fW X f m t hX O L d hkd name hsz hno hel ⟨tk,3⟩ hkt (by simp) hb) ?_
 rintro _ _ ⟨rfl,rfl⟩
 refine NL (ai.cW [(3,.abs (aN Tryz.prog 3 m (aV (aT L (ins (obj O tk).id ⟨tk,3⟩ idx))) ((ins (obj O tk).id ⟨tk,3⟩ idx).length)))] (fun w hS=>by rw [show (ins (obj O tk).id ⟨tk,3⟩ idx).length=idx.length+1 from gy _ _ _];exact hS) ?_)
 exact RF (.tuple #[]) [0,3,1,2,4] (⟨rfl,rfl⟩)
end
section
open Go.RowKit Go.Maps ck aB
structure qy (O:bO) (idx us:Used Th) (k:Nat):Prop where
  up:∀ x,(obj O x).up≠some k
  ah:∀ x,∀ e∈(obj O x).ah,e.2.k≠k
  idx:∀ p∈idx,p.2.k≠k
  us:∀ p∈us,p.2.k≠k
section fresh
variable {S:aH} {O:bO} {idx us:Used Th} {L L':HL} {k b m c:Nat} {A:Option Addr} {o:aO} {t:Th}
theorem o5 (h:Inv0 S):(aJ S.X:Int)=S.X.last+1:=by
  have:=h.last
  unfold aJ
  omega
theorem Inv0.t7 (h:Inv0 S) (ht:Live S.idx t):t.k≠aJ S.X:=h.free (by have:=o5 h;omega) ht
theorem Inv0.yD (h:Inv0 S) (hk:S.X.last < (k:Int)):qy S.O S.idx S.us k:=by
  have key:∀ x,(∃ t,Live S.idx t/\t.k=x)\/(obj S.O x).ah=[]/\(obj S.O x).up=none:=fun x=>by
    by_cases hx:∃ t,Live S.idx t/\t.k=x
    ·exact .inl hx
    exact .inr (h.dead x (fun t ht e=>hx ⟨t,ht,e⟩))
  refine⟨fun x e=>?_,fun x e he=>?_,fun p hp=>?_,fun p hp=>?_⟩
  ·rcases key x with ⟨t,ht,rfl⟩|hx
   ·obtain⟨_,h2,_⟩:=(h.up t ht _).1 e
    exact h.free hk h2 rfl
   rw [hx.2] at e;cases e
  ·rcases key x with ⟨t,ht,rfl⟩|hx
   ·exact h.free hk (h.ah t ht e he).2
   rw [hx.1] at he;cases he
  ·exact h.free hk (h.live (lZ h.rise hp))
  exact h.free hk (h.us _ _ (lZ h.usr hp)).1
theorem Inv0.fresh (h:Inv0 S):qy S.O S.idx S.us (aJ S.X):=h.yD (by have:=o5 h;omega)
theorem uW (hL:L'=L.put k b m A c) {x:Nat} (h:x≠k):L'.b x=L.b x:=by subst hL;exact if_neg h
theorem BB (hL:L'=L.put k b m A c):L'.b k=b:=by subst hL;exact if_pos rfl
theorem BD (hL:L'=L.put k b m A c):L'.m k=m:=by subst hL;exact if_pos rfl
theorem Ga (hL:L'=L.put k b m A c) (h:t.k≠k):dh L' t=dh L t:=by unfold dh;rw [uW hL h]
theorem nk (hL:L'=L.put k b m A c) (kind:Int):dh L' ⟨k,kind⟩=.iface (Na kind) (.pointer (some ⟨b,0,none⟩)):=by unfold dh;rw [BB hL]
theorem fT (hL:L'=L.put k b m A c) (h:∀ p∈us,p.2.k≠k):aT L' us=aT L us:=List.map_congr_left (fun p hp=>by rw [Ga hL (h p hp)])
theorem H7 {es:dS Th} {n:ByteArray} (h:∀ e∈es,e.2.k≠k) (e:aP n es=some t):t.k≠k:=h _ (kf e)
theorem H8 (hL:L'=L.put k b m A c) {es:dS Th} (h:∀ e∈es,e.2.k≠k):gi L' es=gi L es:=by
  unfold gi
  congr 1
  funext n
  cases e:aP n es with
  | none=>rfl
  | some t=>exact congrArg some (Ga hL (H7 h e))
theorem Ds (hL:L'=L.put k b m A c) (hf:qy O idx us k) {x:Nat} (h:x≠k):bD O L' x=bD O L x:=by
  have e1:=uW hL h
  have e2:eU L' x (obj O x)=eU L x (obj O x):=by
    unfold eU uP
    have h1:q5 L' (obj O x).up=q5 L (obj O x).up:=by
      cases hu:(obj O x).up with
      | none=>rfl
      | some d=>show Value.pointer _=Value.pointer _;rw [uW hL (fun e=>hf.up x (by rw [hu,e]))]
    rw [h1]
    subst hL
    simp only [HL.put,if_neg h]
  unfold bD
  rw [e1,e2]
theorem yE (hL:L'=L.put k b m A c) (hf:qy O idx us k) {x:Nat} (h:x≠k):cE O L' x=cE O L x:=by
  unfold cE
  rw [H8 hL (hf.ah x)]
  subst hL
  simp only [HL.put,if_neg h]
theorem uX (hL:L'=L.put k b m A c) {x:Nat} (h:x≠k):bq O L' x=bq O L x:=by
  unfold bq
  subst hL
  simp only [HL.put,if_neg h]
end fresh
theorem pX {O O':bO} {L:HL} (h1:∀ x,(obj O' x).data=(obj O x).data) (h2:∀ x,(obj O' x).kind=(obj O x).kind):bq O' L=bq O L:=by
  funext x
  unfold bq
  rw [h1,h2]
theorem fZ {X:FM} {O:bO} {L:HL} {d:Nat} {name:ByteArray} {t:Th}:bq (cC X O d name t) L=bq O L:=
  pX (fun _=>kQ (g:=aO.data) (fun _ _=>rfl) (fun _ _=>rfl) (fun _ _ _=>rfl) (fun _ _=>rfl)) (fun _=>CK)
theorem iW {X:FM} {O:bO} {L:HL} {d:Nat} {name:ByteArray} {t:Th}:bq (aM X O d name t) L=bq O L:=
  pX (fun _=>cR (g:=aO.data) (fun _ _=>rfl) (fun _ _=>rfl) (fun _ _ _=>rfl)) (fun _=>cr)
theorem nu {α:Type} {g:aO->α} {O:bO} {k j:Nat} (h:∀ o b,g { o with gone:=b }=g o):g (obj (nH O j) k)=g (obj O k):=cX (f:=fun o=>{ o with gone:=true }) (fun o=>h o true)
theorem H9 {O:bO} {L:HL} {k:Nat}:bq (nH O k) L=bq O L:=pX (fun _=>nu (g:=aO.data) (fun _ _=>rfl)) (fun _=>nu (g:=aO.kind) (fun _ _=>rfl))
theorem lK {S:aH} {L:HL} {d:Nat} {name:ByteArray} {t:Th}:bq (aD S d name t).O L=bq S.O L:=by
  unfold aD
  simp only
  split
  ·exact H9.trans iW
  exact iW
theorem xA {S:aH} {d k:Nat} {name:ByteArray} {t:Th}:(obj (aD S d name t).O k).kind=(obj S.O k).kind:=by
  unfold aD
  simp only
  split
  ·exact (nu (g:=aO.kind) (fun _ _=>rfl)).trans cr
  exact cr
theorem nT {X:FM} {O:bO} {idx:Used Th} {d:Nat} {name:ByteArray} (h:cF X O idx d name=0):aP name (obj O d).ah=none:=by
  unfold cF at h
  split at h
  ·assumption
  cases h
theorem qQ {X:FM} {O:bO} {idx:Used Th} {d:Nat} {name:ByteArray} (h:cF X O idx d name=0):Room X idx:=by
  unfold cF at h
  split at h
  ·split at h
   ·assumption
   cases h
  cases h
theorem qR {X:FM} {O:bO} {idx:Used Th} {d:Nat} {name:ByteArray} (h:cF X O idx d name=0):X.last < 1099511627776:=(qQ h).2.1
section sat
variable {β:Bs} {l l':List HP} {w:World} {i j k b m c:Nat} {O:bO} {us:Used Th} {idx' us':Used Th} {L L':HL} {cs:List Value} {T:TypeId} {ix:List Nat} {A:Option Addr} {o:aO} {R R':Nat->bY}
theorem Sat.less {p p':HP} (h:Sat β l w) (hp:l[i]?=some p) (hs:∀ F,p.h F w->∃ F',p'.h F' w/\∀ x,F' x->F x):Sat β (l.set i p') w:=
  h.set hp (fun F hF=>let ⟨F',h1,h2⟩:=hs F hF;⟨F',h1,⟨Keeps.refl _ _,fun k hk=>.inl (h2 k hk)⟩⟩)
theorem Sat.t8 (h:Sat β l w) (hp:l[i]?=some (.abs (ay R))) (k:Nat) (hR:∀ x,x≠k->R' x=R x) (ha:R' k=bY.none):Sat β (l.set i (.abs (ay R'))) w:=by
  refine h.less hp ?_
  rintro F ⟨φ,h1,h2,h3⟩
  refine⟨fun x=>∃ i,i≠k/\φ i x,⟨fun i=>if i=k then fun _=>False else φ i,fun i=>?_,fun i j hne x hx hy=>?_,fun x=>⟨fun ⟨i,hne,hx⟩=>⟨i,by simpa [hne] using hx⟩,fun ⟨i,hx⟩=>?_⟩⟩,fun x ⟨i,_,hx⟩=>(h3 x).2 ⟨i,hx⟩⟩
  ·by_cases e:i=k
   ·subst e;simp only [if_true];rw [ha];exact fun _ h=>h
   simp only [e,if_false];rw [hR i e];exact h1 i
  ·by_cases e1:i=k
   ·simp [e1] at hx
   by_cases e2:j=k
   ·simp [e2] at hy
   exact h2 i j hne x (by simpa [e1] using hx) (by simpa [e2] using hy)
  by_cases e1:i=k
  ·simp [e1] at hx
  exact⟨i,e1,by simpa [e1] using hx⟩
theorem Sat.r9 (h:Sat β l w) (hL:L'=L.put k b m A c) (hf:qy O idx' us' k) (hp:l[i]?=some (.abs (ay (bD O L)))) (hq:l[j]?=some (.blk b cs T)) (hd:aZ (i::j::ix)=true) (hl:bF l ix=some l') (h0:o.kind≠0) (hc:eU L' k o=cs) (hT:je o.kind=T):Sat β (.abs (ay (bD (aA O k (fun _=>o)) L'))::l') w:=by
  refine h.oJ (a:=vW b cs T) hp hq (fun _ _ h=>h) hd hl k (fun x hx=>?_) (by rw [q6,if_neg h0,hc,hT,BB hL])
  rw [q8 hx,Ds hL hf hx]
theorem Sat.Jy (h:Sat β l w) (hL:L'=L.put k b m A c) (hf:qy O idx' us' k) (hp:l[i]?=some (.abs (ay (cE O L)))) (hq:l[j]?=some (.abs (aN Tryz.prog 9 m (fun _=>none) 0))) (hd:aZ (i::j::ix)=true) (hl:bF l ix=some l') (h2:o.kind=2) (he:o.ah=[]):Sat β (.abs (ay (cE (aA O k (fun _=>o)) L'))::l') w:=by
  refine h.oJ hp hq (fun _ _ h=>h) hd hl k (fun x hx=>by rw [tG hx,yE hL hf hx]) ?_
  rw [lW (by rw [bB];exact h2),bB,he,Hf,BD hL];rfl
theorem Sat.ud (h:Sat β l w) (hL:L'=L.put k b m A c) (hf:qy O idx' us' k) (hp:l[i]?=some (.abs (ay (cE O L)))) (h2:o.kind≠2):Sat β (l.set i (.abs (ay (cE (aA O k (fun _=>o)) L')))) w:=by
  refine h.t8 hp k (fun x hx=>by rw [tG hx,yE hL hf hx]) ?_
  unfold cE;rw [bB,if_neg h2]
theorem Sat.xB (h:Sat β l w) (hL:L'=L.put k b m A c) (hp:l[i]?=some (.abs (ay (bq O L)))) (h1:o.kind≠1):Sat β (l.set i (.abs (ay (bq (aA O k (fun _=>o)) L')))) w:=by
  refine h.t8 hp k (fun x hx=>by rw [tH hx,uX hL hx]) ?_
  unfold bq;rw [bB,if_neg h1]
theorem Sat.Jz (h:Sat β l w) (hL:L'=L.put k b m none 0) (hp:l[i]?=some (.abs (ay (bq O L)))) (hq:l[j]?=some (.abs (aC 5 1 none 0 0 []))) (hd:aZ (i::j::ix)=true) (hl:bF l ix=some l') (h1:o.kind=1) (he:o.data=[]):Sat β (.abs (ay (bq (aA O k (fun _=>o)) L'))::l') w:=by
  refine h.oJ hp hq (fun _ _ h=>h) hd hl k (fun x hx=>by rw [tH hx,uX hL hx]) ?_
  rw [pN (by rw [bB];exact h1),bB,he]
  subst hL
  simp only [HL.put,if_true]
  rfl
end sat
end
section
open Go.RowKit Go.Maps ck aB
attribute [local irreducible] ak aK af ai
theorem si {β:Bs} (S:aH) (L:HL) (f m t:Nat) (hI:Inv0 S) (d:Nat) (hd:Live S.idx ⟨d,2⟩) (name:ByteArray) (hsz:name.size<=1048576) (hno:aP name (obj S.O d).ah=none) (o:aO) (hid:o.id=S.X.last+1) (hk3:o.kind=1\/o.kind=2\/o.kind=3) (hl0:o.links=0) (hlast:S.X.last < 1099511627776) :
    Spec Tryz.prog β 72 #[vP f,vP (L.b d),.string name,dh L ⟨(aJ S.X),o.kind⟩] [pF f m t { S.X with last:=S.X.last+1 },pI m L S.idx,pO (aA S.O (aJ S.X) (fun _=>o)) L,pE (aA S.O (aJ S.X) (fun _=>o)) L] (fun v l=>v=.tuple #[]/\l=[pF f m t ((iK S d name o).X),pI m L ((iK S d name o).idx),pO ((iK S d name o).O) L,pE ((iK S d name o).O) L]):=by
  have hX:=hI.hX
  have hne:d≠(aJ S.X):=hI.t7 hd
  have hkd:(obj S.O d).kind=2:=hI.kind hd
  have hel:(obj S.O d).ah.length<=8192:=hI.fq hd
  have hlen:=hI.len
  have e1:obj (aA S.O (aJ S.X) (fun _=>o)) (aJ S.X)=o:=bB
  have e2:obj (aA S.O (aJ S.X) (fun _=>o)) d=obj S.O d:=bP hne
  have hnk:=o5 hI
  have h:=J8 (β:=β) { S.X with last:=S.X.last+1 } f m t (by simp only;omega) (aA S.O (aJ S.X) (fun _=>o)) L d (by rw [e2];exact hkd) name hsz (by rw [e2];exact hno) (by rw [e2];omega) S.idx (by omega) ⟨(aJ S.X),o.kind⟩ (by rw [e1]) hk3 (by rw [e1,hl0];decide) (by
    rw [e1,hid]
    cases e:aB.get S.idx (S.X.last+1) with
    | none=>rfl
    | some u=>have:=(hI.idx _ u e).2.2;omega) (by rw [e1,hid];exact WalkArith.wf_i64 (by have:=hI.last;omega))
  rw [e1,hid] at h
  exact h
theorem Gb {β:Bs} (S:aH) (L:HL) (f m t:Nat) (hI:Inv S) (d:Nat) (hd:Live S.idx ⟨d,2⟩) (name:ByteArray) (hsz:name.size<=1048576) (mode:Int) :
    Spec Tryz.prog β 69 #[vP f,vP (L.b d),.string name,vI (mode)] (pA f m t L S) (fun v l=>∃ L2,v=vI (iF S d name mode).1/\l=(pA f m t L2 ((iF S d name mode).2))):=by
 have hX:=hI.hX
 have hel:(obj S.O d).ah.length<=8192:=hI.fq hd
 have hkd:(obj S.O d).kind=2:=hI.kind hd
 refine Spec.enter Tryz.func69 rfl Tryz.ntmps69 (Nat.le_of_ble_eq_true rfl) (fun R=>?_)
 refine SR (gK 1 [] [] ?_)
 refine NS (gK 3 [(10,vP f),(11,vP (L.b d)),(12,.string name)] [] ?_)
 refine gL [0,1,5,3] (t6 S L f m t hI d hd name hsz) ?_
 rintro _ _ ⟨rfl,rfl⟩
 refine gK 1 [(9,vI ((cF S.X S.O S.idx d name)))] [] ?_
 refine NN (af.seq (SR (gK 2 [(15,.bool (decide (((cF S.X S.O S.idx d name):Int)=(0:Int))))] [] ?_)))
 refine NN (af.aR (p:=((cF S.X S.O S.idx d name):Int)=(0:Int)) (fun _=>by kernel_rfl) (fun h0=>?_) (fun h0=>?_))
 ·have hno:=nT h0
  refine af.region (gK 5 [(16,vP f),(17,vP (L.b d)),(18,.string name),(19,vP f),(20,vI (mode))] [] ?_)
  refine gL [0] (tT S.X f m t hX mode) ?_
  rintro _ _ ⟨rfl,rfl⟩
  refine ak.lQ (d:=(some 22)) (t:=77) (fun _=>by kernel_rfl) Tryz.prog rfl 9 (fun m1=>?_)
  refine gN 3 (fun b2=>[(25,.iface 76 (vP b2))]) (fun _=>[]) (fun _=>[]) (fun b2=>.blk b2 [vI (S.X.last+1),vI (mode),vI 0,vI 0,vI (S.X.cS),vI (S.X.cZ),vI 0,vI 0,.bool false,.map (some m1),.pointer none] 79) (fun b2=>?_)
  obtain⟨L2,hL2⟩:∃ L2:HL,L2=L.put (aJ S.X) b2 m1 none 0:=⟨_,rfl⟩
  have hfr:=hI.toInv0.fresh
  refine ak.mem (fun w hS=>hS.r9 hL2 hfr (o:=(bQ S.X 2 mode)) (i:=3) (j:=8) (ix:=[0,1,2,4,5,6,7]) rfl rfl (by kernel_rfl) rfl (by show (2:Int)≠0;decide) ((jJ (L:=L2) (k:=(aJ S.X)) (o:=(bQ S.X 2 mode)) rfl).trans (by rw [BD hL2];rfl)) rfl) ?_
  refine ak.mem (fun w hS=>hS.Jy hL2 hfr (o:=(bQ S.X 2 mode)) (i:=3) (j:=7) (ix:=[0,1,2,4,5,6]) rfl rfl (by kernel_rfl) rfl rfl rfl) ?_
  refine ak.cW [(5,pD (aA S.O (aJ S.X) (fun _=>(bQ S.X 2 mode))) L2)] (fun w hS=>hS.xB hL2 (o:=(bQ S.X 2 mode)) (i:=5) rfl (by show (2:Int)≠1;decide)) ?_
  refine ak.cW [(3,.abs (aN Tryz.prog 3 m (aV (aT L2 S.idx)) S.idx.length)),(4,.abs (bH 110 t S.X.cH S.av (aT L2 S.us)))] (fun w hS=>by rw [fT hL2 hfr.idx,fT hL2 hfr.us];exact hS) ?_
  refine gL (f:=72) (args:=#[vP f,vP (L.b d),.string name,.iface 76 (vP b2)]) (pre:=[pF f m t { S.X with last:=S.X.last+1 },pI m L2 S.idx,pO (aA S.O (aJ S.X) (fun _=>(bQ S.X 2 mode))) L2,pE (aA S.O (aJ S.X) (fun _=>(bQ S.X 2 mode))) L2]) [2,3,1,0] ((by have h:=si (β:=β) S L2 f m t hI.toInv0 d hd name hsz hno (bQ S.X 2 mode) rfl (by simp [bQ]) rfl (qR h0);rw [uW hL2 (hI.t7 hd),nk hL2] at h;exact h)) ?_
  rintro _ _ ⟨rfl,rfl⟩
  refine NS (ak.cW [(5,.abs (ay (bq ((iK S d name (bQ S.X 2 mode)).O) L2)))] (fun w hS=>by rw [show bq ((iK S d name (bQ S.X 2 mode)).O) L2=bq (aA S.O (aJ S.X) (fun _=>(bQ S.X 2 mode))) L2 from fZ];exact hS) ?_)
  refine gK 2 [(8,vI ((cF S.X S.O S.idx d name)))] [] ?_
  refine NN (af.ret ?_)
  exact RT (vI ((cF S.X S.O S.idx d name))) [0,1,4,2,5,3,6] (⟨L2,by rw [show iF S d name mode=_ from if_pos h0];refine⟨congrArg _ h0,?_⟩;rfl⟩)
 refine af.skip (NX (SR (gK 2 [(8,vI ((cF S.X S.O S.idx d name)))] [] ?_)))
 refine NN (af.ret ?_)
 exact RT (vI ((cF S.X S.O S.idx d name))) [0,1,4,3,5,2,6] (⟨L,by rw [show iF S d name mode=_ from if_neg h0]<;>exact⟨rfl,rfl⟩⟩)
theorem CQ {β:Bs} (S:aH) (L:HL) (f m t:Nat) (hI:Inv S) (d:Nat) (hd:Live S.idx ⟨d,2⟩) (name:ByteArray) (hsz:name.size<=1048576) (text:ByteArray) (O6:text.size<=1048576) :
    Spec Tryz.prog β 73 #[vP f,vP (L.b d),.string name,.string text] (pA f m t L S) (fun v l=>∃ L2,v=vI (fD S d name text).1/\l=(pA f m t L2 ((fD S d name text).2))):=by
 have hX:=hI.hX
 have hel:(obj S.O d).ah.length<=8192:=hI.fq hd
 have hkd:(obj S.O d).kind=2:=hI.kind hd
 refine Spec.enter Tryz.func73 rfl Tryz.ntmps73 (Nat.le_of_ble_eq_true rfl) (fun R=>?_)
 refine SR (gK 1 [] [] ?_)
 refine NS (gK 1 [(10,.string text)] [] ?_)
 refine gL [] (J7 text O6) ?_
 rintro _ _ ⟨rfl,rfl⟩
 refine gK 1 [(9,vI ((kW text)))] [] ?_
 refine NN (af.seq (SR (gK 2 [(13,.bool (decide (((kW text):Int)=(0:Int))))] [] ?_)))
 refine NN (af.aR (p:=((kW text):Int)=(0:Int)) (fun _=>by kernel_rfl) (fun hb=>?_) (fun hb=>?_))
 ·refine af.region (gK 3 [(14,vP f),(15,vP (L.b d)),(16,.string name)] [] ?_)
  refine gL [0,1,5,3] (t6 S L f m t hI d hd name hsz) ?_
  rintro _ _ ⟨rfl,rfl⟩
  refine gK 1 [(9,vI ((cF S.X S.O S.idx d name)))] [] ?_
  refine NN (af.seq (SR (gK 2 [(19,.bool (decide (((cF S.X S.O S.idx d name):Int)=(0:Int))))] [] ?_)))
  refine NN (af.aR (p:=((cF S.X S.O S.idx d name):Int)=(0:Int)) (fun _=>by kernel_rfl) (fun h0=>?_) (fun h0=>?_))
  ·have hno:=nT h0
   refine af.region (gK 4 [(20,vP f),(21,vP (L.b d)),(22,.string name),(23,vP f)] [] ?_)
   refine gL [0] (tT S.X f m t hX 511) ?_
   rintro _ _ ⟨rfl,rfl⟩
   refine gN 4 (fun b3=>[(28,.iface 73 (vP b3))]) (fun _=>[]) (fun _=>[]) (fun b3=>.blk b3 [vI (S.X.last+1),vI (511),vI 0,vI 0,vI (S.X.cS),vI (S.X.cZ),vI 0,vI 0,.bool false,.string text] 75) (fun b3=>?_)
   obtain⟨L2,hL2⟩:∃ L2:HL,L2=L.put (aJ S.X) b3 0 none 0:=⟨_,rfl⟩
   have hfr:=hI.toInv0.fresh
   refine ak.mem (fun w hS=>hS.r9 hL2 hfr (o:={ bQ S.X 3 511 with target:=text }) (i:=3) (j:=7) (ix:=[0,1,2,4,5,6]) rfl rfl (by kernel_rfl) rfl (by show (3:Int)≠0;decide) ((tI (L:=L2) (k:=(aJ S.X)) (o:={ bQ S.X 3 511 with target:=text }) rfl).trans (by rfl)) rfl) ?_
   refine ak.cW [(3,pE (aA S.O (aJ S.X) (fun _=>{ bQ S.X 3 511 with target:=text })) L2)] (fun w hS=>hS.ud hL2 hfr (o:={ bQ S.X 3 511 with target:=text }) (i:=3) rfl (by show (3:Int)≠2;decide)) ?_
   refine ak.cW [(5,pD (aA S.O (aJ S.X) (fun _=>{ bQ S.X 3 511 with target:=text })) L2)] (fun w hS=>hS.xB hL2 (o:={ bQ S.X 3 511 with target:=text }) (i:=5) rfl (by show (3:Int)≠1;decide)) ?_
   refine ak.cW [(2,.abs (aN Tryz.prog 3 m (aV (aT L2 S.idx)) S.idx.length)),(4,.abs (bH 110 t S.X.cH S.av (aT L2 S.us)))] (fun w hS=>by rw [fT hL2 hfr.idx,fT hL2 hfr.us];exact hS) ?_
   refine gL (f:=72) (args:=#[vP f,vP (L.b d),.string name,.iface 73 (vP b3)]) (pre:=[pF f m t { S.X with last:=S.X.last+1 },pI m L2 S.idx,pO (aA S.O (aJ S.X) (fun _=>{ bQ S.X 3 511 with target:=text })) L2,pE (aA S.O (aJ S.X) (fun _=>{ bQ S.X 3 511 with target:=text })) L2]) [1,2,0,3] ((by have h:=si (β:=β) S L2 f m t hI.toInv0 d hd name hsz hno { bQ S.X 3 511 with target:=text } rfl (by simp [bQ]) rfl (qR h0);rw [uW hL2 (hI.t7 hd),nk hL2] at h;exact h)) ?_
   rintro _ _ ⟨rfl,rfl⟩
   refine NS (ak.cW [(5,.abs (ay (bq ((iK S d name { bQ S.X 3 511 with target:=text }).O) L2)))] (fun w hS=>by rw [show bq ((iK S d name { bQ S.X 3 511 with target:=text }).O) L2=bq (aA S.O (aJ S.X) (fun _=>{ bQ S.X 3 511 with target:=text })) L2 from fZ];exact hS) ?_)
   refine gK 2 [(8,vI ((cF S.X S.O S.idx d name)))] [] ?_
   refine NN (af.ret ?_)
   exact RT (vI ((cF S.X S.O S.idx d name))) [0,1,4,2,5,3,6] (⟨L2,by rw [show fD S d name text=_ from (if_pos hb).trans (if_pos h0)];refine⟨congrArg _ h0,?_⟩;rfl⟩)
  refine af.skip (NX (SR (gK 2 [(8,vI ((cF S.X S.O S.idx d name)))] [] ?_)))
  refine NN (af.ret ?_)
  exact RT (vI ((cF S.X S.O S.idx d name))) [0,1,4,3,5,2,6] (⟨L,by rw [show fD S d name text=_ from (if_pos hb).trans (if_neg h0)]<;>exact⟨rfl,rfl⟩⟩)
 refine af.skip (NX (af.seq (SR (gK 2 [(19,.bool (decide (((kW text):Int)=(0:Int))))] [] ?_))))
 refine NN (af.aR (p:=((kW text):Int)=(0:Int)) (fun _=>by kernel_rfl) (fun h0=>?_) (fun h0=>?_))
 ·exact absurd h0 hb
 refine af.skip (NX (SR (gK 2 [(8,vI ((kW text)))] [] ?_)))
 refine NN (af.ret ?_)
 exact RT (vI ((kW text))) [0,1,2,3,4,5,6] (⟨L,by rw [show fD S d name text=_ from if_neg hb]<;>exact⟨rfl,rfl⟩⟩)
theorem El {β:Bs} (S:aH) (L:HL) (f m t:Nat) (hI:Inv S) (d:Nat) (hd:Live S.idx ⟨d,2⟩) (name:ByteArray) (hsz:name.size<=1048576) :
    Spec Tryz.prog β 76 #[vP f,vP (L.b d),.string name] (pA f m t L S) (fun v l=>∃ L2,v=vI (ez S d name).1/\l=(pA f m t L2 ((ez S d name).2))):=by
 have hX:=hI.hX
 have hel:(obj S.O d).ah.length<=8192:=hI.fq hd
 have hkd:(obj S.O d).kind=2:=hI.kind hd
 refine Spec.enter Tryz.func76 rfl Tryz.ntmps76 (Nat.le_of_ble_eq_true rfl) (fun R=>?_)
 refine af.seq ?_
 rcases hI.lD hd name with hlk|⟨tk,hlk,hlv⟩|⟨tk,hlk,hlv⟩|⟨tk,hlk,hlv⟩
 ·refine af.region (gK 1 [] [] ?_)
  refine NN (af.seq (SR (gK 5 [(10,.map (some (L.m d))),(11,.string name)] [(3,v_ 3 (br L hkd))] ?_)))
  refine iE 5 hkd hlk ?_
  refine NN (af.block (SR ?_))
  refine gK 1 [(13,.bool true)] [] ?_
  refine NN (CT (SR (gK 1 [(6,vI 170)] [] ?_)))
  refine NN (af.ret (ai.ax (ai.aj ?_)))
  exact RT (vI 170) [0,1,2,3,4,5,6] (⟨L,by rw [show ez S d name=(170,S) by unfold ez;rw [hlk]]<;>exact⟨rfl,rfl⟩⟩)
 ·have hkt:(obj S.O tk).kind=1:=hI.kind hlv
  refine af.region (gK 1 [] [] ?_)
  refine NN (af.seq (SR (gK 5 [(10,.map (some (L.m d))),(11,.string name)] [(3,v_ 3 (br L hkd))] ?_)))
  refine iE 5 hkd hlk ?_
  refine NN (af.block (SR ?_))
  refine gK 1 [(13,.bool false)] [] ?_
  refine NN (CF (SR (gK 3 [(15,.bool false)] [] ?_)))
  refine NN (CF (af.skip (ai.aF (NX (SR ?_)))))
  refine gK 3 [(17,vP f),(18,vP (L.b d)),(19,.string name)] [] ?_
  refine gL [0,3,5,1] (lJ S L f m t hI d hd name hsz ⟨tk,1⟩ hlk) ?_
  rintro _ _ ⟨rfl,rfl⟩
  refine NS (ak.cW [(5,.abs (ay (bq ((aD S d name ⟨tk,1⟩).O) L)))] (fun w hS=>by rw [show bq ((aD S d name ⟨tk,1⟩).O) L=bq S.O L from lK];exact hS) ?_)
  refine gK 1 [(6,vI 0)] [] ?_
  refine NN (af.ret ?_)
  exact RT (vI 0) [0,3,4,1,5,2,6] (⟨L,by rw [show ez S d name=(0,aD S d name ⟨tk,1⟩) by unfold ez;rw [hlk];exact if_neg (by simp)]<;>exact⟨rfl,rfl⟩⟩)
 ·have hkt:(obj S.O tk).kind=2:=hI.kind hlv
  refine af.region (gK 1 [] [] ?_)
  refine NN (af.seq (SR (gK 5 [(10,.map (some (L.m d))),(11,.string name)] [(3,v_ 3 (br L hkd))] ?_)))
  refine iE 5 hkd hlk ?_
  refine NN (af.block (SR ?_))
  refine gK 1 [(13,.bool false)] [] ?_
  refine NN (CF (SR (gK 3 [(15,.bool true)] [] ?_)))
  refine NN (CT (SR (gK 1 [(6,vI 172)] [] ?_)))
  refine NN (af.ret (ai.ax (ai.aj ?_)))
  exact RT (vI 172) [0,1,2,3,4,5,6] (⟨L,by rw [show ez S d name=(172,S) by unfold ez;rw [hlk];exact if_pos rfl]<;>exact⟨rfl,rfl⟩⟩)
 have hkt:(obj S.O tk).kind=3:=hI.kind hlv
 refine af.region (gK 1 [] [] ?_)
 refine NN (af.seq (SR (gK 5 [(10,.map (some (L.m d))),(11,.string name)] [(3,v_ 3 (br L hkd))] ?_)))
 refine iE 5 hkd hlk ?_
 refine NN (af.block (SR ?_))
 refine gK 1 [(13,.bool false)] [] ?_
 refine NN (CF (SR (gK 3 [(15,.bool false)] [] ?_)))
 refine NN (CF (af.skip (ai.aF (NX (SR ?_)))))
 refine gK 3 [(17,vP f),(18,vP (L.b d)),(19,.string name)] [] ?_
 refine gL [0,3,5,1] (lJ S L f m t hI d hd name hsz ⟨tk,3⟩ hlk) ?_
 rintro _ _ ⟨rfl,rfl⟩
 refine NS (ak.cW [(5,.abs (ay (bq ((aD S d name ⟨tk,3⟩).O) L)))] (fun w hS=>by rw [show bq ((aD S d name ⟨tk,3⟩).O) L=bq S.O L from lK];exact hS) ?_)
 refine gK 1 [(6,vI 0)] [] ?_
 refine NN (af.ret ?_)
 exact RT (vI 0) [0,3,4,1,5,2,6] (⟨L,by rw [show ez S d name=(0,aD S d name ⟨tk,3⟩) by unfold ez;rw [hlk];exact if_neg (by simp)]<;>exact⟨rfl,rfl⟩⟩)
theorem Gc {β:Bs} (S:aH) (L:HL) (f m t:Nat) (hI:Inv S) (d:Nat) (hd:Live S.idx ⟨d,2⟩) (name:ByteArray) (hsz:name.size<=1048576) :
    Spec Tryz.prog β 82 #[vP f,vP (L.b d),.string name] (pA f m t L S) (fun v l=>∃ L2,v=vI (eS S d name).1/\l=(pA f m t L2 ((eS S d name).2))):=by
 have hX:=hI.hX
 have hel:(obj S.O d).ah.length<=8192:=hI.fq hd
 have hkd:(obj S.O d).kind=2:=hI.kind hd
 refine Spec.enter Tryz.func82 rfl Tryz.ntmps82 (Nat.le_of_ble_eq_true rfl) (fun R=>?_)
 refine af.seq ?_
 rcases hI.lD hd name with hlk|⟨tk,hlk,hlv⟩|⟨tk,hlk,hlv⟩|⟨tk,hlk,hlv⟩
 ·refine af.region (gK 1 [] [] ?_)
  refine NS (gK 5 [(13,.map (some (L.m d))),(14,.string name)] [(3,v_ 3 (br L hkd))] ?_)
  refine iE 5 hkd hlk ?_
  refine gK 1 [(7,.nilIface)] [] ?_
  refine NN (af.seq (SR (gK 2 [(17,.bool true)] [] ?_)))
  refine NN (CT (SR (gK 1 [(6,vI 170)] [] ?_)))
  refine NN (af.ret (ai.aj ?_))
  exact RT (vI 170) [0,1,2,3,4,5,6] (⟨L,by skip;rw [show eS S d name=(170,S) by unfold eS;rw [hlk]]<;>exact⟨rfl,rfl⟩⟩)
 ·have hkt:(obj S.O tk).kind=1:=hI.kind hlv
  refine af.region (gK 1 [] [] ?_)
  refine NS (gK 5 [(13,.map (some (L.m d))),(14,.string name)] [(3,v_ 3 (br L hkd))] ?_)
  refine iE 5 hkd hlk ?_
  refine gK 1 [(7,.iface 69 (vP (L.b tk)))] [] ?_
  refine NN (af.seq (SR (gK 2 [(17,.bool false)] [] ?_)))
  refine NN (CF (af.skip (NX (SR (gK 7 [(8,.pointer none),(9,.bool false)] [] ?_)))))
  refine NN (af.seq (SR (gK 2 [(24,.bool true)] [] ?_)))
  refine NN (CT (SR (gK 1 [(6,vI 173)] [] ?_)))
  refine NN (af.ret (ai.aj ?_))
  exact RT (vI 173) [0,1,2,3,4,5,6] (⟨L,by skip;rw [show eS S d name=(173,S) by unfold eS;rw [hlk];exact if_neg (by simp)]<;>exact⟨rfl,rfl⟩⟩)
 ·have hkt:(obj S.O tk).kind=2:=hI.kind hlv
  have PY:(obj S.O tk).ah.length<=8192:=hI.fq hlv
  refine af.region (gK 1 [] [] ?_)
  refine NS (gK 5 [(13,.map (some (L.m d))),(14,.string name)] [(3,v_ 3 (br L hkd))] ?_)
  refine iE 5 hkd hlk ?_
  refine gK 1 [(7,.iface 76 (vP (L.b tk)))] [] ?_
  refine NN (af.seq (SR (gK 2 [(17,.bool false)] [] ?_)))
  refine NN (CF (af.skip (NX (SR (gK 7 [(8,vP (L.b tk)),(9,.bool true)] [] ?_)))))
  refine NN (af.seq (SR (gK 2 [(24,.bool false)] [] ?_)))
  refine NN (CF (af.skip (NX (af.seq (SR (gK 4 [(28,.map (some (L.m tk)))] [(3,v_ 3 (br L hkt))] ?_))))))
  refine OZ 5 hkt ?_
  refine gK 1 [(30,.bool (decide (((((obj S.O tk).ah.length:Nat):Int):Int) > (0:Int))))] [] ?_
  refine NN (af.aR (p:=((((obj S.O tk).ah.length:Nat):Int):Int) > (0:Int)) (fun _=>by kernel_rfl) (fun jR=>?_) (fun jR=>?_))
  ·refine SR (gK 1 [(6,vI 178)] [] ?_)
   refine NN (af.ret (ai.aj ?_))
   exact RT (vI 178) [0,1,2,3,4,5,6] (⟨L,by skip;rw [show eS S d name=(178,S) by unfold eS;rw [hlk];exact (if_pos rfl).trans (if_neg (fun e=>by rw [show (obj S.O tk).ah=[] from e] at jR;simp at jR))]<;>exact⟨rfl,rfl⟩⟩)
  refine af.skip (NX (SR (gK 3 [(31,vP f),(32,vP (L.b d)),(33,.string name)] [] ?_)))
  refine gL [0,3,5,1] (lJ S L f m t hI d hd name hsz ⟨tk,2⟩ hlk) ?_
  rintro _ _ ⟨rfl,rfl⟩
  refine NS (ak.cW [(5,.abs (ay (bq ((aD S d name ⟨tk,2⟩).O) L)))] (fun w hS=>by rw [show bq ((aD S d name ⟨tk,2⟩).O) L=bq S.O L from lK];exact hS) ?_)
  have tM:(obj (aD S d name ⟨tk,2⟩).O d).kind=2:=(xA).trans (hkd)
  have tN:(obj (aD S d name ⟨tk,2⟩).O tk).kind=2:=(xA).trans (hkt)
  generalize bJ:(aD S d name ⟨tk,2⟩).O=bR at tM tN ⊢
  refine gK 3 [(37,.pointer (some ⟨(L.b tk),10,none⟩))] [] ?_
  refine Nc 1 [(2,1),(5,2)] tk (none) tN (fun dx cM=>?_)
  have Hl:=ku cM tM
  have D6:=ku cM tN
  refine NS (gK 1 [(6,vI 0)] [] ?_)
  refine NN (af.ret ?_)
  exact RT (l:=[pF f m t ((aD S d name ⟨tk,2⟩).X),pI m L ((aD S d name ⟨tk,2⟩).idx),pT t S.X.cH S.av L S.us,pO dx L,pD dx L,pE dx L]) (.int .i64 0) [0,3,4,1,5,2,6] (⟨L,by subst cM;subst bJ;rw [show eS S d name=(0,{ aD S d name ⟨tk,2⟩ with O:=orphan (aD S d name ⟨tk,2⟩).O tk }) by unfold eS;rw [hlk];exact (if_pos rfl).trans (if_pos (List.eq_nil_of_length_eq_zero (by show (obj S.O tk).ah.length=0;omega)))]<;>exact⟨rfl,rfl⟩⟩)
 have hkt:(obj S.O tk).kind=3:=hI.kind hlv
 refine af.region (gK 1 [] [] ?_)
 refine NS (gK 5 [(13,.map (some (L.m d))),(14,.string name)] [(3,v_ 3 (br L hkd))] ?_)
 refine iE 5 hkd hlk ?_
 refine gK 1 [(7,.iface 73 (vP (L.b tk)))] [] ?_
 refine NN (af.seq (SR (gK 2 [(17,.bool false)] [] ?_)))
 refine NN (CF (af.skip (NX (SR (gK 7 [(8,.pointer none),(9,.bool false)] [] ?_)))))
 refine NN (af.seq (SR (gK 2 [(24,.bool true)] [] ?_)))
 refine NN (CT (SR (gK 1 [(6,vI 173)] [] ?_)))
 refine NN (af.ret (ai.aj ?_))
 exact RT (vI 173) [0,1,2,3,4,5,6] (⟨L,by skip;rw [show eS S d name=(173,S) by unfold eS;rw [hlk];exact if_neg (by simp)]<;>exact⟨rfl,rfl⟩⟩)
end
section
open Go.RowKit Go.Maps ck aB
section inv
variable {S:aH} {d:Nat} {name:ByteArray} {t:Th} {O':bO}
theorem iH.del {es:dS Th} (h:iH es):iH (eT name es):=List.Pairwise.filter _ h
theorem pY {x y:ByteArray}:¬ fJ x y↔lG y x < 0:=by
  unfold fJ
  rw [sX,Lib.toList_data,Lib.toList_data]
  have h1:=@zj x.data.toList y.data.toList
  have h2:=@zm x y
  have h3:=s5 x y
  unfold lG at h2 h3 ⊢
  rw [Bool.or_eq_true,decide_eq_true_iff,← h1,← h2]
  omega
theorem iH.ins {es:dS Th} (h:iH es) (hn:aP name es=none):iH (eH name t es):=by
  induction es with
  | nil=>exact List.pairwise_singleton ..
  | cons e r ih=>
    obtain⟨h1,h2⟩:=List.pairwise_cons.1 h
    have hall:=rV.1 hn
    unfold eH
    split
    ·rename_i hlt
     refine List.pairwise_cons.2 ⟨fun x hx=>?_,h⟩
     rcases List.mem_cons.1 hx with rfl|hx
     ·exact hlt
     have h3:=h1 x hx
     exact pY.2 (wN (pY.1 hlt) (Int.le_of_lt (pY.1 h3)))
    rename_i hle
    refine List.pairwise_cons.2 ⟨fun x hx=>?_,ih h2 (rV.2 (fun x hx=>hall x (List.mem_cons_of_mem _ hx)))⟩
    rcases vU.1 hx with rfl|hx
    ·have hne:¬ e.1=name:=hall e (List.mem_cons_self ..)
     refine pY.2 ?_
     have h4:¬ lG name e.1 < 0:=fun hc=>hle (pY.2 hc)
     have h5:=s5 e.1 name
     have h6:¬ lG e.1 name=0:=fun hc=>hne (zm.1 hc)
     show lG e.1 name < 0
     omega
    exact h1 x hx
theorem Inv0.cut (hI:Inv0 S) (hd:Live S.idx ⟨d,2⟩) (hl:aP name (obj S.O d).ah=some t) {g:Bool}
    (hO:∀ k,obj O' k=if k=d then { obj S.O d with ah:=eT name (obj S.O d).ah,sec:=S.X.cS,nano:=S.X.cZ } else if k=t.k then { obj S.O k with links:=(obj S.O k).links - 1,gone:=g,up:=none } else obj S.O k)
    (hg:g=(obj S.O t.k).gone\/(obj S.O t.k).links - 1=0/\(t.kind=2->(obj S.O t.k).ah=[])):Inv0 { S with X:={ S.X with ah:=S.X.ah - 1 },O:=O' }:=by
  have hne:=hI.ne hd hl
  have ht:=(hI.ent hd hl).2
  have oD:obj O' d={ obj S.O d with ah:=eT name (obj S.O d).ah,sec:=S.X.cS,nano:=S.X.cZ }:=by rw [hO,if_pos rfl]
  have oT:obj O' t.k={ obj S.O t.k with links:=(obj S.O t.k).links - 1,gone:=g,up:=none }:=by rw [hO,if_neg hne,if_pos rfl]
  have oX:∀ x,x≠d->x≠t.k->obj O' x=obj S.O x:=fun x h1 h2=>by rw [hO,if_neg h1,if_neg h2]
  have vB:∀ {α:Type} (G:aO->α),(∀ o es a b,G { o with ah:=es,sec:=a,nano:=b }=G o)->(∀ o l g,G { o with links:=l,gone:=g,up:=none }=G o)->∀ x,G (obj O' x)=G (obj S.O x):=fun G h1 h2 x=>by
    by_cases e:x=d
    ·subst e;rw [oD];exact h1 _ _ _ _
    by_cases e2:x=t.k
    ·subst e2;rw [oT];exact h2 _ _ _
    rw [oX x e e2]
  have Lr:=vB aO.id (fun _ _ _ _=>rfl) (fun _ _ _=>rfl)
  have xC:=vB aO.kind (fun _ _ _ _=>rfl) (fun _ _ _=>rfl)
  have Em:=vB aO.data (fun _ _ _ _=>rfl) (fun _ _ _=>rfl)
  have Ls:=vB aO.opens (fun _ _ _ _=>rfl) (fun _ _ _=>rfl)
  have fE:∀ x,x≠d->(obj O' x).ah=(obj S.O x).ah:=fun x hx=>by
    by_cases e2:x=t.k
    ·subst e2;rw [oT]
    rw [oX x hx e2]
  have vC:(obj O' d).ah=eT name (obj S.O d).ah:=by rw [oD]
  have hlk:0 < gu S.idx S.O t.k:=kP hd hl
  have hlt:=hI.links t ht
  have hky:∀ i u,aB.get S.idx i=some u->i=(u.k:Int):=fun i u e=>hI.key e
  have hsum:∀ q:ByteArray×Th->Bool,_:=fun q=>HM (q:=q) hI.rise hd hky fE vC (hI.twice hd) hl
  have En:∀ x,gu S.idx O' x+(if t.k=x then 1 else 0)=gu S.idx S.O x:=fun x=>by
    have h1:=hsum (fun e=>decide (e.2.k=x))
    simp only [decide_eq_true_eq] at h1
    exact h1
  refine { hI with ob:=fun x hx=>?_,mt:=fun x hx=>?_,ah:=fun x hx e he=>?_,sorted:=fun x hx=>?_,dead:=fun x hx=>?_,oP:=fun x hx=>(xC x).trans (hI.oP x hx),total:=?_,links:=fun x hx=>?_,once:=fun x hx hk=>?_,opens:=fun x hx=>?_,gone:=fun x hx gS=>?_,up:=fun x hx e=>?_,deep:=?_,used:=?_ }
  ·show (obj O' x.k).id=_/\(obj O' x.k).kind=_/\_
   rw [Lr,xC];exact hI.ob x hx
  ·show jq (obj O' x.k)
   have hm:=hI.mt x hx
   by_cases e:x.k=d
   ·rw [e] at hm ⊢
    rw [oD]
    exact hm.of rfl rfl rfl hI.now rfl (.inl rfl) (.inr (hI.kind hd)) rfl
   by_cases e2:x.k=t.k
   ·rw [e2] at hm ⊢
    rw [oT]
    exact hm.of rfl rfl rfl hm.time rfl (.inl rfl) (.inl rfl) rfl
   rw [oX _ e e2];exact hm
  ·by_cases e1:x.k=d
   ·have he:e∈(obj O' x.k).ah:=he
    rw [e1,vC] at he
    exact hI.ah _ hd e (HF he).1
   have he:e∈(obj O' x.k).ah:=he
   rw [fE _ e1] at he
   exact hI.ah x hx e he
  ·show iH (obj O' x.k).ah
   by_cases e1:x.k=d
   ·rw [e1,vC];exact iH.del (hI.sorted _ hd)
   rw [fE _ e1];exact hI.sorted x hx
  ·show (obj O' x).ah=[]/\(obj O' x).up=none
   rw [oX x (fun e=>hx _ hd e.symm) (fun e=>hx t ht e.symm)]
   exact hI.dead x hx
  ·have h1:=hsum (fun _=>true)
   have h2:=hI.total
   rw [kx] at h2
   show S.X.ah - 1=(tot S.idx O':Int)/\S.X.ah - 1<=8192
   rw [kx]
   simp only [if_true] at h1
   omega
  ·show (obj O' x.k).links=(gu S.idx O' x.k:Int)
   have h1:=En x.k
   have h2:=hI.links x hx
   by_cases e2:x.k=t.k
   ·rw [if_pos e2.symm] at h1
    rw [e2,oT]
    rw [e2] at h1
    show (obj S.O t.k).links - 1=_
    omega
   rw [if_neg (fun e=>e2 e.symm)] at h1
   have:(obj O' x.k).links=(obj S.O x.k).links:=by
     by_cases e:x.k=d
     ·rw [e,oD]
     rw [oX _ e e2]
   omega
  ·show (obj O' x.k).links<=1
   have h1:=hI.once x hx hk
   by_cases e2:x.k=t.k
   ·rw [e2] at h1 ⊢
    rw [oT]
    show (obj S.O t.k).links - 1<=1
    omega
   by_cases e:x.k=d
   ·rw [e] at h1 ⊢;rw [oD];exact h1
   rw [oX _ e e2];exact h1
  ·show (obj O' x.k).opens=_
   rw [Ls];exact hI.opens x hx
  ·have gS:(obj O' x.k).gone=true:=gS
   show (obj O' x.k).links=0/\(obj O' x.k).ah=[]
   by_cases e2:x.k=t.k
   ·rw [e2] at gS ⊢
    rw [fE _ hne,oT]
    rw [oT] at gS
    show (obj S.O t.k).links - 1=0/\_
    rcases hg with h|⟨h1,h2⟩
    ·have gS:g=true:=gS
     rw [h] at gS
     have:=(hI.gone t ht gS).1
     omega
    refine⟨h1,?_⟩
    by_cases hk:t.kind=2
    ·exact h2 hk
    exact (hI.mt t ht).ah (by rw [hI.kind ht];exact hk)
   by_cases e:x.k=d
   ·rw [e,oD] at gS
    have:=(hI.gone _ hd gS).2
    rw [HV this] at hl;cases hl
   rw [oX _ e e2] at gS ⊢;exact hI.gone x hx gS
  ·show (obj O' x.k).up=some e↔x.kind=2/\Live S.idx ⟨e,2⟩/\∃ n,aP n (obj O' e).ah=some x
   by_cases e2:x.k=t.k
   ·have Gd:x=t:=eY hx ht e2
    subst Gd
    rw [oT]
    constructor
    ·intro h;cases h
    rintro⟨hk,hle,n,hn⟩
    have h1:=hI.once x hx hk
    have h2:=En x.k
    rw [if_pos rfl] at h2
    have h3:0 < gu S.idx O' x.k:=kP hle hn
    omega
   have h1:(obj O' x.k).up=(obj S.O x.k).up:=by
     by_cases e:x.k=d
     ·rw [e,oD]
     rw [oX _ e e2]
   have h2:∀ n,aP n (obj O' e).ah=some x↔aP n (obj S.O e).ah=some x:=fun n=>by
     by_cases e3:e=d
     ·rw [e3,vC,nN]
      by_cases hnn:n=name
      ·rw [if_pos hnn,hnn,hl]
       constructor
       ·intro h;cases h
       intro h;exact absurd (congrArg Th.k (Option.some.inj h)).symm e2
      rw [if_neg hnn]
     rw [fE _ e3]
   rw [h1,hI.up x hx e]
   simp only [h2]
  ·obtain⟨dp,hdp⟩:=hI.deep
   refine⟨dp,fun x e hx=>?_⟩
   have hx:(obj O' x).up=some e:=hx
   by_cases e2:x=t.k
   ·rw [e2,oT] at hx;cases hx
   by_cases e3:x=d
   ·rw [e3,oD] at hx;rw [e3];exact hdp _ _ hx
   rw [oX _ e3 e2] at hx;exact hdp _ _ hx
  have:bytes S.idx O'=bytes S.idx S.O:=eO (fun p _=>by rw [Em])
  show S.X.used=(bytes S.idx O':Int)/\_
  rw [this];exact hI.used
theorem Eo {O O1:bO} {s k:Nat} (h:∀ x e,(obj O1 x).up=some e->(obj O x).up=some e) (hb:iI O1 s k):iI O s k:=by
  induction hb with
  | here=>exact .here
  | up hu _ ih=>exact .up (h _ _ hu) ih
theorem zD {O:bO} {s k:Nat}:iI O s k↔k=s\/∃ e,(obj O k).up=some e/\iI O s e:=by
  constructor
  ·rintro (_|⟨h1,h2⟩)
   ·exact .inl rfl
   exact .inr ⟨_,h1,h2⟩
  rintro (h|⟨e,h1,h2⟩)
  ·subst h;exact .here
  exact .up h1 h2
theorem Inv0.put (hI:Inv0 S) (hd:Live S.idx ⟨d,2⟩) (ji:(obj S.O d).gone=false) (hn:aP name (obj S.O d).ah=none) (jj:bI name) (ht:Live S.idx t) (Dm:(obj S.O t.k).gone=false) (Ia:t.kind=2->(obj S.O t.k).links=0/\¬ iI S.O t.k d) (htd:t.k≠d) (hroom:S.X.ah < 8192) {ta tb:Int} (O7:cg ta tb)
    (hO:∀ k,obj O' k=if k=d then { obj S.O d with ah:=eH name t (obj S.O d).ah,sec:=ta,nano:=tb } else if k=t.k then { obj S.O k with links:=(obj S.O k).links+1,up:=if t.kind=2 then some d else (obj S.O k).up } else obj S.O k) :
    Inv0 { S with X:={ S.X with ah:=S.X.ah+1 },O:=O' }:=by
  have hne:=htd
  have oD:obj O' d={ obj S.O d with ah:=eH name t (obj S.O d).ah,sec:=ta,nano:=tb }:=by rw [hO,if_pos rfl]
  have oT:obj O' t.k={ obj S.O t.k with links:=(obj S.O t.k).links+1,up:=if t.kind=2 then some d else (obj S.O t.k).up }:=by rw [hO,if_neg hne,if_pos rfl]
  have oX:∀ x,x≠d->x≠t.k->obj O' x=obj S.O x:=fun x h1 h2=>by rw [hO,if_neg h1,if_neg h2]
  have vB:∀ {α:Type} (G:aO->α),(∀ o es a b,G { o with ah:=es,sec:=a,nano:=b }=G o)->(∀ o l u,G { o with links:=l,up:=u }=G o)->∀ x,G (obj O' x)=G (obj S.O x):=fun G h1 h2 x=>by
    by_cases e:x=d
    ·subst e;rw [oD];exact h1 _ _ _ _
    by_cases e2:x=t.k
    ·subst e2;rw [oT];exact h2 _ _ _
    rw [oX x e e2]
  have Lr:=vB aO.id (fun _ _ _ _=>rfl) (fun _ _ _=>rfl)
  have xC:=vB aO.kind (fun _ _ _ _=>rfl) (fun _ _ _=>rfl)
  have Em:=vB aO.data (fun _ _ _ _=>rfl) (fun _ _ _=>rfl)
  have Ls:=vB aO.opens (fun _ _ _ _=>rfl) (fun _ _ _=>rfl)
  have fG:=vB aO.gone (fun _ _ _ _=>rfl) (fun _ _ _=>rfl)
  have fE:∀ x,x≠d->(obj O' x).ah=(obj S.O x).ah:=fun x hx=>by
    by_cases e2:x=t.k
    ·subst e2;rw [oT]
    rw [oX x hx e2]
  have vC:(obj O' d).ah=eH name t (obj S.O d).ah:=by rw [oD]
  have hky:∀ i u,aB.get S.idx i=some u->i=(u.k:Int):=fun i u e=>hI.key e
  have hsum:∀ q:ByteArray×Th->Bool,_:=fun q=>HT (q:=q) hI.rise hd hky fE vC
  have En:∀ x,gu S.idx O' x=gu S.idx S.O x+(if t.k=x then 1 else 0):=fun x=>by
    have h1:=hsum (fun e=>decide (e.2.k=x))
    simp only [decide_eq_true_eq] at h1
    exact h1
  have hlt:=hI.links t ht
  have Lu:t.kind=2->∀ e n,Live S.idx ⟨e,2⟩->aP n (obj S.O e).ah≠some t:=fun hk e n hle h=>by
    have h1:0 < gu S.idx S.O t.k:=kP hle h
    have:=(Ia hk).1
    omega
  refine { hI with ob:=fun x hx=>?_,mt:=fun x hx=>?_,ah:=fun x hx e he=>?_,sorted:=fun x hx=>?_,dead:=fun x hx=>?_,oP:=fun x hx=>(xC x).trans (hI.oP x hx),total:=?_,links:=fun x hx=>?_,once:=fun x hx hk=>?_,opens:=fun x hx=>?_,gone:=fun x hx gS=>?_,up:=fun x hx e=>?_,deep:=?_,used:=?_ }
  ·show (obj O' x.k).id=_/\(obj O' x.k).kind=_/\_
   rw [Lr,xC];exact hI.ob x hx
  ·show jq (obj O' x.k)
   have hm:=hI.mt x hx
   by_cases e:x.k=d
   ·rw [e] at hm ⊢
    rw [oD]
    exact hm.of rfl rfl rfl O7 rfl (.inl rfl) (.inr (hI.kind hd)) rfl
   by_cases e2:x.k=t.k
   ·rw [e2] at hm ⊢
    rw [oT]
    exact hm.of rfl rfl rfl hm.time rfl (.inl rfl) (.inl rfl) rfl
   rw [oX _ e e2];exact hm
  ·have he:e∈(obj O' x.k).ah:=he
   by_cases e1:x.k=d
   ·rw [e1,vC] at he
    rcases vU.1 he with rfl|he
    ·exact⟨jj,ht⟩
    exact hI.ah _ hd e he
   rw [fE _ e1] at he
   exact hI.ah x hx e he
  ·show iH (obj O' x.k).ah
   by_cases e1:x.k=d
   ·rw [e1,vC];exact iH.ins (hI.sorted _ hd) hn
   rw [fE _ e1];exact hI.sorted x hx
  ·show (obj O' x).ah=[]/\(obj O' x).up=none
   rw [oX x (fun e=>hx _ hd e.symm) (fun e=>hx t ht e.symm)]
   exact hI.dead x hx
  ·have h1:=hsum (fun _=>true)
   have h2:=hI.total
   rw [kx] at h2
   show S.X.ah+1=(tot S.idx O':Int)/\S.X.ah+1<=8192
   rw [kx]
   simp only [if_true] at h1
   omega
  ·show (obj O' x.k).links=(gu S.idx O' x.k:Int)
   have h1:=En x.k
   have h2:=hI.links x hx
   by_cases e2:x.k=t.k
   ·rw [if_pos e2.symm] at h1
    rw [e2,oT]
    rw [e2] at h1
    show (obj S.O t.k).links+1=_
    omega
   rw [if_neg (fun e=>e2 e.symm)] at h1
   have:(obj O' x.k).links=(obj S.O x.k).links:=by
     by_cases e:x.k=d
     ·rw [e,oD]
     rw [oX _ e e2]
   omega
  ·show (obj O' x.k).links<=1
   have h1:=hI.once x hx hk
   by_cases e2:x.k=t.k
   ·have Gd:x=t:=eY hx ht e2
    subst Gd
    have:=(Ia hk).1
    rw [oT]
    show (obj S.O x.k).links+1<=1
    omega
   by_cases e:x.k=d
   ·rw [e] at h1 ⊢;rw [oD];exact h1
   rw [oX _ e e2];exact h1
  ·show (obj O' x.k).opens=_
   rw [Ls];exact hI.opens x hx
  ·have gS:(obj O' x.k).gone=true:=gS
   rw [fG] at gS
   show (obj O' x.k).links=0/\(obj O' x.k).ah=[]
   by_cases e2:x.k=t.k
   ·rw [e2,Dm] at gS;cases gS
   by_cases e:x.k=d
   ·rw [e,ji] at gS;cases gS
   rw [oX _ e e2];exact hI.gone x hx gS
  ·show (obj O' x.k).up=some e↔x.kind=2/\Live S.idx ⟨e,2⟩/\∃ n,aP n (obj O' e).ah=some x
   by_cases e2:x.k=t.k
   ·have Gd:x=t:=eY hx ht e2
    subst Gd
    rw [oT]
    show (if x.kind=2 then some d else (obj S.O x.k).up)=some e↔_
    by_cases hk:x.kind=2
    ·rw [if_pos hk]
     constructor
     ·intro h
      cases h
      exact⟨hk,hd,name,by rw [vC,tF hn,if_pos rfl]⟩
     rintro⟨_,hle,n,h⟩
     by_cases e3:e=d
     ·rw [e3]
     rw [fE _ e3] at h
     exact absurd h (Lu hk e n hle)
    rw [if_neg hk,hI.up x hx e]
    constructor
    ·rintro⟨h,_⟩;exact absurd h hk
    rintro⟨h,_⟩;exact absurd h hk
   have h1:(obj O' x.k).up=(obj S.O x.k).up:=by
     by_cases e:x.k=d
     ·rw [e,oD]
     rw [oX _ e e2]
   have h2:∀ n,aP n (obj O' e).ah=some x↔aP n (obj S.O e).ah=some x:=fun n=>by
     by_cases e3:e=d
     ·rw [e3,vC,tF hn]
      by_cases hnn:n=name
      ·rw [if_pos hnn,hnn,hn]
       constructor
       ·intro h;exact absurd (congrArg Th.k (Option.some.inj h)).symm e2
       intro h;cases h
      rw [if_neg hnn]
     rw [fE _ e3]
   rw [h1,hI.up x hx e]
   simp only [h2]
  ·obtain⟨dp,hdp⟩:=hI.deep
   by_cases hk:t.kind=2
   ·obtain⟨hl0,hnb⟩:=Ia hk
    have PZ:(obj S.O t.k).up=none:=by
      cases hu:(obj S.O t.k).up with
      | none=>rfl
      | some e=>
        obtain⟨_,h2,n,h3⟩:=(hI.up t ht e).1 hu
        exact absurd h3 (Lu hk e n h2)
    refine⟨fun x=>if iI S.O t.k x then dp x+dp d+1 else dp x,fun x e hx=>?_⟩
    have hx:(obj O' x).up=some e:=hx
    by_cases e2:x=t.k
    ·rw [e2,oT] at hx
     have hx:(if t.kind=2 then some d else (obj S.O t.k).up)=some e:=hx
     rw [if_pos hk] at hx
     cases hx
     subst e2
     simp only [if_neg hnb,if_pos (iI.here:iI S.O t.k t.k)]
     omega
    have hx:(obj S.O x).up=some e:=by
      by_cases e3:x=d
      ·rw [e3,oD] at hx;rw [e3];exact hx
      rw [oX _ e3 e2] at hx;exact hx
    have h1:=hdp _ _ hx
    by_cases hb:iI S.O t.k e
    ·simp only [if_pos hb,if_pos (iI.up hx hb)];omega
    have:¬ iI S.O t.k x:=fun h=>by
      rcases zD.1 h with h|⟨e',h1,h2⟩
      ·exact e2 h
      rw [hx] at h1;cases h1;exact hb h2
    simp only [if_neg hb,if_neg this];exact h1
   refine⟨dp,fun x e hx=>?_⟩
   have hx:(obj O' x).up=some e:=hx
   by_cases e2:x=t.k
   ·rw [e2,oT] at hx
    have hx:(if t.kind=2 then some d else (obj S.O t.k).up)=some e:=hx
    rw [if_neg hk] at hx
    rw [e2];exact hdp _ _ hx
   by_cases e3:x=d
   ·rw [e3,oD] at hx;rw [e3];exact hdp _ _ hx
   rw [oX _ e3 e2] at hx;exact hdp _ _ hx
  have:bytes S.idx O'=bytes S.idx S.O:=eO (fun p _=>by rw [Em])
  show S.X.used=(bytes S.idx O':Int)/\_
  rw [this];exact hI.used
end inv
end
section
open Go.RowKit Go.Maps ck aB
section new
variable {S:aH} {d:Nat} {name:ByteArray} {t:Th} {o:aO} {us':Used Th} {eP:Int}
theorem Inv0.newAt (hI:Inv0 S) {k0:Nat} (hlt:S.X.last < (k0:Int)) (hle:(k0:Int)<=1099511627776) {jl:Int} (PG:jl=S.X.used+o.data.length/\jl<=140737488355328) (hid:o.id=(k0:Int)) (hk3:o.kind=1\/o.kind=2\/o.kind=3) (hl0:o.links=0) (he0:o.ah=[]) (hu0:o.up=none) (hg0:o.gone=false) (hm:jq o) (hlen:S.idx.length < 4096)
    (u1:aB.bN (keys us')) (u2:∀ x∈keys us',1<=x/\x<=eP) (u3:(us'.length:Int)<=S.X.cH) (u4:0<=eP/\eP<=S.X.cH) (u5:∀ h t,aB.get us' h=some t->(Live S.idx t\/t=⟨k0,o.kind⟩)/\t.kind≠3) (u6:∀ k,k≠k0->hnd us' k=hnd S.us k) (u7:o.opens=(hnd us' (k0):Int)) :
    Inv0 { S with X:={ S.X with last:=(k0:Int),used:=jl },O:=aA S.O (k0) (fun _=>o),idx:=ins ((k0:Int)) ⟨k0,o.kind⟩ S.idx,us:=us',av:=eP }:=by
  have hnot:aB.get S.idx ((k0:Int))=none:=by
    cases e:aB.get S.idx ((k0:Int)) with
    | none=>rfl
    | some u=>have:=(hI.idx _ u e).2.2;omega
  have hget:∀ i,aB.get (ins ((k0:Int)) ⟨k0,o.kind⟩ S.idx) i=if i=(k0:Int) then some ⟨k0,o.kind⟩ else aB.get S.idx i:=fun i=>rC (get_none.1 hnot) i
  have dN:∀ x,Live (ins ((k0:Int)) ⟨k0,o.kind⟩ S.idx) x↔x=⟨k0,o.kind⟩\/Live S.idx x:=fun x=>by
    unfold Live
    rw [hget]
    constructor
    ·intro h
     split at h
     ·exact .inl (Option.some.inj h).symm
     exact .inr h
    rintro (h|h)
    ·subst h;rw [if_pos rfl]
    rw [if_neg (by intro e;rw [e,hnot] at h;cases h)];exact h
  have oN:obj (aA S.O (k0) (fun _=>o)) (k0)=o:=bB
  have oX:∀ x,Live S.idx x->obj (aA S.O (k0) (fun _=>o)) x.k=obj S.O x.k:=fun x hx=>bP (hI.free hlt hx)
  have hfr:=hI.yD hlt
  have hmem:∀ p∈S.idx,obj (aA S.O (k0) (fun _=>o)) p.2.k=obj S.O p.2.k:=fun p hp=>bP (hfr.idx p hp)
  have hsum:∀ g:aO->Nat,g o=0->cV (fun p:Int×Th=>g (obj (aA S.O (k0) (fun _=>o)) p.2.k)) (ins ((k0:Int)) ⟨k0,o.kind⟩ S.idx)=cV (fun p:Int×Th=>g (obj S.O p.2.k)) S.idx:=fun g hg=>by
    rw [wg]
    show g (obj _ (k0))+_=_
    rw [oN,hg,Nat.zero_add]
    exact eO (fun p hp=>by rw [hmem p hp])
  refine { hI with last:=?_,rise:=?_,len:=?_,idx:=fun i x e=>?_,ob:=fun x hx=>?_,mt:=fun x hx=>?_,ah:=fun x hx e he=>?_,sorted:=fun x hx=>?_,dead:=fun x hx=>?_,oP:=fun x hx=>?_,total:=?_,links:=fun x hx=>?_,once:=fun x hx hk=>?_,opens:=fun x hx=>?_,usr:=u1,tV:=u2,zB:=u3,av:=u4,us:=fun h x e=>?_,gone:=fun x hx gS=>?_,up:=fun x hx e=>?_,deep:=?_,used:=?_ }
  ·have:=hI.last
   show 0<=(k0:Int)/\(k0:Int)<=1099511627776
   omega
  ·exact rZ hI.rise (get_none.1 hnot)
  ·have:=hI.cN
   show (ins ((k0:Int)) _ S.idx).length<=4096
   rw [gy];omega
  ·have e:aB.get (ins ((k0:Int)) ⟨k0,o.kind⟩ S.idx) i=some x:=e
   rw [hget] at e
   have:=hI.last
   show i=(x.k:Int)/\0 < i/\i<=(k0:Int)
   split at e
   ·cases e
    rename_i e2
    refine⟨by rw [e2],by omega,by omega⟩
   have:=hI.idx i x e
   omega
  ·show (obj (aA S.O (k0) (fun _=>o)) x.k).id=_/\(obj (aA S.O (k0) (fun _=>o)) x.k).kind=_/\_
   rcases (dN x).1 hx with h|h
   ·subst h;rw [oN];exact⟨hid,rfl,hk3⟩
   rw [oX x h];exact hI.ob x h
  ·show jq (obj (aA S.O (k0) (fun _=>o)) x.k)
   rcases (dN x).1 hx with h|h
   ·subst h;rw [oN];exact hm
   rw [oX x h];exact hI.mt x h
  ·have he:e∈(obj (aA S.O (k0) (fun _=>o)) x.k).ah:=he
   rcases (dN x).1 hx with h|h
   ·subst h;rw [oN,he0] at he;cases he
   rw [oX x h] at he
   have h1:=hI.ah x h e he
   exact⟨h1.1,(dN _).2 (.inr h1.2)⟩
  ·show iH (obj (aA S.O (k0) (fun _=>o)) x.k).ah
   rcases (dN x).1 hx with h|h
   ·subst h;rw [oN,he0];exact List.Pairwise.nil
   rw [oX x h];exact hI.sorted x h
  ·show (obj (aA S.O (k0) (fun _=>o)) x).ah=[]/\(obj (aA S.O (k0) (fun _=>o)) x).up=none
   have h1:x≠k0:=fun e=>hx ⟨k0,o.kind⟩ ((dN _).2 (.inl rfl)) e.symm
   rw [bP h1]
   exact hI.dead x (fun u hu=>hx u ((dN _).2 (.inr hu)))
  ·have hx:(k0:Int) < (x:Int):=hx
   show (obj (aA S.O (k0) (fun _=>o)) x).kind=0
   rw [bP (fun e=>by rw [e] at hx;omega)]
   exact hI.oP x (by omega)
  ·show S.X.ah=(tot _ _:Int)/\S.X.ah<=8192
   have:tot (ins ((k0:Int)) ⟨k0,o.kind⟩ S.idx) (aA S.O (k0) (fun _=>o))=tot S.idx S.O:=hsum (fun o=>o.ah.length) (by rw [he0];rfl)
   rw [this];exact hI.total
  ·show (obj (aA S.O (k0) (fun _=>o)) x.k).links=(gu _ _ x.k:Int)
   have:gu (ins ((k0:Int)) ⟨k0,o.kind⟩ S.idx) (aA S.O (k0) (fun _=>o)) x.k=gu S.idx S.O x.k:=hsum (fun o=>o.ah.countP (fun e:ByteArray×Th=>decide (e.2.k=x.k))) (by rw [he0];rfl)
   rw [this]
   rcases (dN x).1 hx with h|h
   ·subst h
    rw [oN,hl0]
    have:gu S.idx S.O (k0)=0:=by
      apply Classical.byContradiction
      intro hne
      obtain⟨i,u,hu,e,he,hek⟩:=xu hI.rise (Nat.pos_of_ne_zero hne)
      exact hfr.ah u.k e he hek
    rw [this];rfl
   rw [oX x h];exact hI.links x h
  ·show (obj (aA S.O (k0) (fun _=>o)) x.k).links<=1
   rcases (dN x).1 hx with h|h
   ·subst h;rw [oN,hl0];decide
   rw [oX x h];exact hI.once x h hk
  ·show (obj (aA S.O (k0) (fun _=>o)) x.k).opens=(hnd us' x.k:Int)
   rcases (dN x).1 hx with h|h
   ·subst h;rw [oN];exact u7
   rw [oX x h,u6 _ (hI.free hlt h)];exact hI.opens x h
  ·obtain⟨h1,h2⟩:=u5 h x e
   exact⟨(dN x).2 h1.symm,h2⟩
  ·have gS:(obj (aA S.O (k0) (fun _=>o)) x.k).gone=true:=gS
   show (obj (aA S.O (k0) (fun _=>o)) x.k).links=0/\(obj (aA S.O (k0) (fun _=>o)) x.k).ah=[]
   rcases (dN x).1 hx with h|h
   ·subst h;rw [oN,hg0] at gS;cases gS
   rw [oX x h] at gS ⊢;exact hI.gone x h gS
  ·show (obj (aA S.O (k0) (fun _=>o)) x.k).up=some e↔x.kind=2/\Live _ ⟨e,2⟩/\∃ n,aP n (obj (aA S.O (k0) (fun _=>o)) e).ah=some x
   rcases (dN x).1 hx with h|h
   ·subst h
    rw [oN,hu0]
    constructor
    ·intro h;cases h
    rintro⟨_,hle,n,h⟩
    by_cases e2:e=k0
    ·rw [e2,oN,he0] at h;cases h
    rw [bP e2] at h;exact absurd rfl (hfr.ah e _ (kf h))
   rw [oX x h,hI.up x h e]
   constructor
   ·rintro⟨h1,h2,n,h3⟩
    exact⟨h1,(dN _).2 (.inr h2),n,by rw [oX ⟨e,2⟩ h2];exact h3⟩
   rintro⟨h1,h2,n,h3⟩
   by_cases e2:e=k0
   ·rw [e2,oN,he0] at h3;cases h3
   rw [bP e2] at h3
   refine⟨h1,?_,n,h3⟩
   rcases (dN _).1 h2 with h4|h4
   ·exact absurd (congrArg Th.k h4) e2
   exact h4
  ·obtain⟨dp,hdp⟩:=hI.deep
   refine⟨dp,fun x e hx=>?_⟩
   have hx:(obj (aA S.O (k0) (fun _=>o)) x).up=some e:=hx
   by_cases e2:x=k0
   ·rw [e2,oN,hu0] at hx;cases hx
   rw [bP e2] at hx;exact hdp _ _ hx
  show jl=(bytes _ _:Int)/\_
  have h1:bytes (ins (k0:Int) ⟨k0,o.kind⟩ S.idx) (aA S.O k0 (fun _=>o))=o.data.length+bytes S.idx S.O:=by
    unfold bytes
    rw [wg]
    show (obj _ k0).data.length+_=_
    rw [oN]
    congr 1
    exact eO (fun p hp=>by rw [hmem p hp])
  have h2:=hI.used
  rw [h1]
  show jl=_/\jl<=140737488355328
  omega
theorem Inv0.new (hI:Inv0 S) (hid:o.id=S.X.last+1) (hk3:o.kind=1\/o.kind=2\/o.kind=3) (hl0:o.links=0) (he0:o.ah=[]) (hu0:o.up=none) (hg0:o.gone=false) (Lv:o.data=[]) (hm:jq o) (hlast:S.X.last < 1099511627776) (hlen:(S.idx.length:Int) < S.X.cN)
    (u1:aB.bN (keys us')) (u2:∀ x∈keys us',1<=x/\x<=eP) (u3:(us'.length:Int)<=S.X.cH) (u4:0<=eP/\eP<=S.X.cH) (u5:∀ h t,aB.get us' h=some t->(Live S.idx t\/t=⟨aJ S.X,o.kind⟩)/\t.kind≠3) (u6:∀ k,k≠aJ S.X->hnd us' k=hnd S.us k) (u7:o.opens=(hnd us' (aJ S.X):Int)) :
    Inv0 { S with X:={ S.X with last:=S.X.last+1 },O:=aA S.O (aJ S.X) (fun _=>o),idx:=ins (S.X.last+1) ⟨aJ S.X,o.kind⟩ S.idx,us:=us',av:=eP }:=by
  have hnk:=o5 hI
  have h:=hI.newAt (k0:=aJ S.X) (jl:=S.X.used) (by omega) (by omega) ⟨by rw [Lv];simp,hI.used.2⟩ (hid.trans hnk.symm) hk3 hl0 he0 hu0 hg0 hm (by have:=hI.cN;omega) u1 u2 u3 u4 u5 u6 u7
  rw [hnk] at h
  exact h
theorem Inv.add (hI:Inv S) (hd:Live S.idx ⟨d,2⟩) (ji:(obj S.O d).gone=false) (hn:aP name (obj S.O d).ah=none) (jj:bI name) (hroom:Room S.X S.idx)
    (hid:o.id=S.X.last+1) (hk3:o.kind=1\/o.kind=2\/o.kind=3) (hl0:o.links=0) (he0:o.ah=[]) (hu0:o.up=none) (hg0:o.gone=false) (Lv:o.data=[]) (hm:jq o)
    (u1:aB.bN (keys us')) (u2:∀ x∈keys us',1<=x/\x<=eP) (u3:(us'.length:Int)<=S.X.cH) (u4:0<=eP/\eP<=S.X.cH) (u5:∀ h t,aB.get us' h=some t->(Live S.idx t\/t=⟨aJ S.X,o.kind⟩)/\t.kind≠3) (u6:∀ k,k≠aJ S.X->hnd us' k=hnd S.us k) (u7:o.opens=(hnd us' (aJ S.X):Int)) :
    Inv (iK { S with us:=us',av:=eP } d name o):=by
  have h1:=hI.toInv0.new hid hk3 hl0 he0 hu0 hg0 Lv hm hroom.2.1 hroom.1 u1 u2 u3 u4 u5 u6 u7
  have hne:d≠aJ S.X:=hI.t7 hd
  have hnk:=o5 hI.toInv0
  have hnot:aB.get S.idx (S.X.last+1)=none:=by
    cases e:aB.get S.idx (S.X.last+1) with
    | none=>rfl
    | some u=>have:=(hI.idx _ u e).2.2;omega
  have hget:∀ i,aB.get (ins (S.X.last+1) ⟨aJ S.X,o.kind⟩ S.idx) i=if i=S.X.last+1 then some ⟨aJ S.X,o.kind⟩ else aB.get S.idx i:=fun i=>rC (get_none.1 hnot) i
  have hdl:Live (ins (S.X.last+1) ⟨aJ S.X,o.kind⟩ S.idx) ⟨d,2⟩:=by
    unfold Live
    rw [hget,if_neg (by intro e;have:aB.get S.idx ((d:Nat):Int)=some ⟨d,2⟩:=hd;rw [show ((⟨d,2⟩:Th).k:Int)=(d:Int) from rfl] at e;rw [e,hnot] at this;cases this)]
    exact hd
  have hnl:Live (ins (S.X.last+1) ⟨aJ S.X,o.kind⟩ S.idx) ⟨aJ S.X,o.kind⟩:=by
    unfold Live
    rw [hget,if_pos hnk]
  have oN:obj (aA S.O (aJ S.X) (fun _=>o)) (aJ S.X)=o:=bB
  have oD:obj (aA S.O (aJ S.X) (fun _=>o)) d=obj S.O d:=bP hne
  have hnb:¬ iI (aA S.O (aJ S.X) (fun _=>o)) (aJ S.X) d:=fun hb=>by
    have key:∀ x,iI (aA S.O (aJ S.X) (fun _=>o)) (aJ S.X) x->x=aJ S.X:=fun x hx=>by
      induction hx with
      | here=>rfl
      | @up k j hu _ ih=>
        subst ih
        by_cases e:k=aJ S.X
        ·exact e
        rw [bP e] at hu;exact absurd hu (hI.fresh.up k)
    exact hne (key d hb)
  have h2:=h1.put (d:=d) (name:=name) (t:=⟨aJ S.X,o.kind⟩) (O':=(iK { S with us:=us',av:=eP } d name o).O) hdl (by rw [oD];exact ji) (by rw [oD];exact hn) jj hnl (by rw [oN];exact hg0) (fun _=>⟨by rw [oN];exact hl0,hnb⟩) (fun e=>hne e.symm) hroom.2.2 h1.now (fun k=>tW (fun e=>hne e.symm))
  refine⟨h2,fun x hx gS=>?_⟩
  have g1:∀ k,(obj (iK { S with us:=us',av:=eP } d name o).O k).gone=(obj (aA S.O (aJ S.X) (fun _=>o)) k).gone:=fun k=>kQ (g:=aO.gone) (fun _ _=>rfl) (fun _ _=>rfl) (fun _ _ _=>rfl) (fun _ _=>rfl)
  have g2:∀ k,(obj (iK { S with us:=us',av:=eP } d name o).O k).opens=(obj (aA S.O (aJ S.X) (fun _=>o)) k).opens:=fun k=>kQ (g:=aO.opens) (fun _ _=>rfl) (fun _ _=>rfl) (fun _ _ _=>rfl) (fun _ _=>rfl)
  rw [g1] at gS
  rw [g2]
  by_cases e:x.k=aJ S.X
  ·rw [e,oN,hg0] at gS;cases gS
  rw [bP e] at gS ⊢
  refine hI.full x ?_ gS
  have hx:aB.get (ins (S.X.last+1) ⟨aJ S.X,o.kind⟩ S.idx) x.k=some x:=hx
  rw [hget] at hx
  split at hx
  ·exact absurd (congrArg Th.k (Option.some.inj hx)).symm e
  exact hx
end new
section drop
variable {S:aH} {d:Nat} {name:ByteArray} {t:Th}
theorem gE {α:Type} {g:aO->α} {O:bO} {k j:Nat} (h:∀ o,g { o with up:=none }=g o):g (obj (orphan O j) k)=g (obj O k):=cX (f:=fun o=>{ o with up:=none }) h
theorem uf {O:bO} {k:Nat}:oO (orphan O k) t↔oO O t:=by
  unfold oO
  rw [gE (g:=aO.gone) (fun _=>rfl),gE (g:=aO.opens) (fun _=>rfl)]
theorem BF {O:bO} {k:Nat} {u:Int}:iR (orphan O k) u t=iR O u t:=by
  unfold iR
  simp only [uf,gE (g:=aO.data) (fun _=>rfl)]
theorem BG {O:bO} {k:Nat} {idx:Used Th}:iG (orphan O k) idx t=iG O idx t:=by
  unfold iG
  simp only [uf,gE (g:=aO.id) (fun _=>rfl)]
theorem Inv.drop (hI:Inv S) (hd:Live S.idx ⟨d,2⟩) (hl:aP name (obj S.O d).ah=some t) (he:t.kind=2->(obj S.O t.k).ah=[]):Inv { aD S d name t with O:=orphan (aD S d name t).O t.k }:=by
  have hne:=hI.ne hd hl
  have ht:=(hI.ent hd hl).2
  have hlk:(obj (aM S.X S.O d name t) t.k).links=(obj S.O t.k).links - 1:=by rw [gH hne,if_neg hne,if_pos rfl]
  have hfull:∀ (O2:bO),(∀ u,u≠t.k->(obj O2 u).gone=(obj S.O u).gone/\(obj O2 u).opens=(obj S.O u).opens)->∀ u,Live S.idx u->u≠t->(obj O2 u.k).gone=true->0 < (obj O2 u.k).opens:=fun O2 h u hu hut hg=>by
    have hk:u.k≠t.k:=fun e=>hut (eY hu ht e)
    rw [(h _ hk).1] at hg
    rw [(h _ hk).2]
    exact hI.full u hu hg
  by_cases h0:(obj (aM S.X S.O d name t) t.k).links=0
  ·have e1:aD S d name t=_:=qv h0
   have hO:∀ k,obj (orphan (nH (aM S.X S.O d name t) t.k) t.k) k=if k=d then { obj S.O d with ah:=eT name (obj S.O d).ah,sec:=S.X.cS,nano:=S.X.cZ } else if k=t.k then { obj S.O k with links:=(obj S.O k).links - 1,gone:=true,up:=none } else obj S.O k:=fun k=>by
     unfold orphan nH
     rw [qq,jd]
     by_cases e:k=t.k
     ·rw [if_pos e,gH hne,if_neg (fun e2=>hne (e.symm.trans e2)),if_pos e,if_neg (fun e2=>hne (e.symm.trans e2)),if_pos e]
     rw [if_neg e,gH hne,if_neg e,if_neg e]
   have h1:=hI.toInv0.cut hd hl hO (.inr ⟨by rw [← hlk];exact h0,he⟩)
   have h2:=h1.oQ (t:=t) ht (hfull _ (fun u hu=>by
     rw [gE (g:=aO.gone) (fun _=>rfl),gE (g:=aO.opens) (fun _=>rfl)]
     show (obj (aA _ t.k _) u).gone=_/\(obj (aA _ t.k _) u).opens=_
     rw [bP hu,cR (g:=aO.gone) (fun _ _=>rfl) (fun _ _=>rfl) (fun _ _ _=>rfl),cR (g:=aO.opens) (fun _ _=>rfl) (fun _ _=>rfl) (fun _ _ _=>rfl)]
     exact⟨rfl,rfl⟩))
   rw [e1]
   unfold oQ at h2
   simp only [BF,BG] at h2
   exact h2
  have e1:aD S d name t=_:=qw h0
  have hnd:t.kind≠2:=fun hk=>by
    have h1:=hI.once t ht hk
    have h2:=hI.links t ht
    have h3:0 < gu S.idx S.O t.k:=kP hd hl
    omega
  have Ep:(obj S.O t.k).up=none:=by
    cases hu:(obj S.O t.k).up with
    | none=>rfl
    | some e=>exact absurd ((hI.up t ht e).1 hu).1 hnd
  have hO:∀ k,obj (orphan (aM S.X S.O d name t) t.k) k=if k=d then { obj S.O d with ah:=eT name (obj S.O d).ah,sec:=S.X.cS,nano:=S.X.cZ } else if k=t.k then { obj S.O k with links:=(obj S.O k).links - 1,gone:=(obj S.O t.k).gone,up:=none } else obj S.O k:=fun k=>by
    unfold orphan
    rw [jd]
    by_cases e:k=t.k
    ·rw [if_pos e,gH hne,if_neg (fun e2=>hne (e.symm.trans e2)),if_pos e,if_neg (fun e2=>hne (e.symm.trans e2)),if_pos e,e]
    rw [if_neg e,gH hne,if_neg e,if_neg e]
  have h1:=hI.toInv0.cut hd hl hO (.inl rfl)
  rw [e1]
  refine⟨h1,fun u hu hg=>?_⟩
  have hg:(obj (orphan (aM S.X S.O d name t) t.k) u.k).gone=true:=hg
  show 0 < (obj (orphan (aM S.X S.O d name t) t.k) u.k).opens
  rw [gE (g:=aO.gone) (fun _=>rfl),cR (g:=aO.gone) (fun _ _=>rfl) (fun _ _=>rfl) (fun _ _ _=>rfl)] at hg
  rw [gE (g:=aO.opens) (fun _=>rfl),cR (g:=aO.opens) (fun _ _=>rfl) (fun _ _=>rfl) (fun _ _ _=>rfl)]
  exact hI.full u hu hg
theorem Ib {k:Nat}:(obj (aD S d name t).O k).up=(obj S.O k).up:=by
  unfold aD
  simp only
  split
  ·exact (nu (g:=aO.up) (fun _ _=>rfl)).trans (cR (g:=aO.up) (fun _ _=>rfl) (fun _ _=>rfl) (fun _ _ _=>rfl))
  exact cR (g:=aO.up) (fun _ _=>rfl) (fun _ _=>rfl) (fun _ _ _=>rfl)
theorem Inv.uY (hI:Inv S) (hd:Live S.idx ⟨d,2⟩) (hl:aP name (obj S.O d).ah=some t) (hk:t.kind≠2):Inv (aD S d name t):=by
  have h:=hI.drop hd hl (fun e=>absurd e hk)
  have ht:=(hI.ent hd hl).2
  have Ep:(obj S.O t.k).up=none:=by
    cases hu:(obj S.O t.k).up with
    | none=>rfl
    | some e=>exact absurd ((hI.up t ht e).1 hu).1 hk
  have e:orphan (aD S d name t).O t.k=(aD S d name t).O:=JZ (by
    have:(obj (aD S d name t).O t.k).up=none:=Ib.trans Ep
    rw [← this])
  rw [e] at h
  exact h
end drop
end
end Go.Proofs.YtaepnjbceganhaaGreat
section
namespace Go.Proofs.YtaepnjbceganhaaGreat.aB
open ck
variable {V:Type}
theorem sj (us:Used V):(keys us).length=us.length:=by simp [keys]
theorem least_le {us:Used V} (hr:bN (keys us)) (hp:∀ x∈keys us,1<=x):1<=least us/\least us∉keys us/\∀ x,1<=x->x < least us->x∈keys us:=kN (keys us) 1 hr hp
theorem ug:∀ (ks:List Int) (h:Int),fX h ks<=h+ks.length
  | [],h=>by simp [fX]
  | k::r,h=>by
    unfold fX
    split
    ·have:=ug r (h+1);simp only [List.length_cons];push_cast;omega
    simp only [List.length_cons];push_cast;omega
theorem CR (us:Used V):least us<=us.length+1:=by
  have:=ug (keys us) 1
  rw [sj] at this
  unfold least;omega
end Go.Proofs.YtaepnjbceganhaaGreat.aB
end
namespace Go.Proofs.YtaepnjbceganhaaGreat
section
open Go.RowKit Go.Maps ck aB
section ops
variable {S:aH} {d to:Nat} {name toName:ByteArray} {t:Th}
theorem Inv.link (hI:Inv S) (hd:Live S.idx ⟨d,2⟩) (ji:(obj S.O d).gone=false) (hn:aP name (obj S.O d).ah=none) (jj:bI name) (ht:Live S.idx t) (Dm:(obj S.O t.k).gone=false) (hk:t.kind≠2) (hroom:S.X.ah < 8192) :
    Inv { S with X:={ S.X with ah:=S.X.ah+1 },O:=cC S.X S.O d name t }:=by
  have hne:t.k≠d:=fun e=>hk (congrArg Th.kind (eY ht hd e))
  have h1:=hI.toInv0.put hd ji hn jj ht Dm (fun e=>absurd e hk) hne hroom hI.now (fun k=>tW hne)
  refine⟨h1,fun x hx hg=>?_⟩
  have hg:(obj (cC S.X S.O d name t) x.k).gone=true:=hg
  show 0 < (obj (cC S.X S.O d name t) x.k).opens
  rw [kQ (g:=aO.gone) (fun _ _=>rfl) (fun _ _=>rfl) (fun _ _ _=>rfl) (fun _ _=>rfl)] at hg
  rw [kQ (g:=aO.opens) (fun _ _=>rfl) (fun _ _=>rfl) (fun _ _ _=>rfl) (fun _ _=>rfl)]
  exact hI.full x hx hg
theorem iX (hne:t.k≠d) {X:FM} {O:bO} (h:aP toName (obj O to).ah=none):aP toName (obj (aM X O d name t) to).ah=none:=by
  rw [gH hne]
  split
  ·rename_i e
   subst e
   show aP toName (eT name (obj O to).ah)=none
   rw [nN];split
   ·rfl
   exact h
  split
  ·exact h
  exact h
theorem Inv.move (hI:Inv S) (hd:Live S.idx ⟨d,2⟩) (hl:aP name (obj S.O d).ah=some t) (hto:Live S.idx ⟨to,2⟩) (ji:(obj S.O to).gone=false) (hn:aP toName (obj S.O to).ah=none) (jj:bI toName) (hb:t.kind=2->¬ iI S.O t.k to):Inv (lu S d name to toName t):=by
  have hne:=hI.ne hd hl
  have ht:=(hI.ent hd hl).2
  have Ic:t.k≠to:=fun e=>by
    have h1:t=⟨to,2⟩:=eY ht hto e
    exact hb (by rw [h1]) (by rw [e];exact .here)
  have hgt:(obj S.O t.k).gone=false:=by
    cases hg:(obj S.O t.k).gone with
    | false=>rfl
    | true=>
      have h1:=(hI.gone t ht hg).1
      have h2:=hI.links t ht
      have h3:0 < gu S.idx S.O t.k:=kP hd hl
      omega
  have hO:∀ k,obj (orphan (aM S.X S.O d name t) t.k) k=if k=d then { obj S.O d with ah:=eT name (obj S.O d).ah,sec:=S.X.cS,nano:=S.X.cZ } else if k=t.k then { obj S.O k with links:=(obj S.O k).links - 1,gone:=(obj S.O t.k).gone,up:=none } else obj S.O k:=fun k=>by
    unfold orphan
    rw [jd]
    by_cases e:k=t.k
    ·rw [if_pos e,gH hne,if_neg (fun e2=>hne (e.symm.trans e2)),if_pos e,if_neg (fun e2=>hne (e.symm.trans e2)),if_pos e,e]
    rw [if_neg e,gH hne,if_neg e,if_neg e]
  have h1:=hI.toInv0.cut hd hl hO (.inl rfl)
  have g0:∀ {α:Type} (g:aO->α),(∀ o es,g { o with ah:=es }=g o)->(∀ o l,g { o with links:=l }=g o)->(∀ o a b,g { o with sec:=a,nano:=b }=g o)->(∀ o u,g { o with up:=u }=g o)->∀ k,g (obj (orphan (aM S.X S.O d name t) t.k) k)=g (obj S.O k):=fun g a b c e k=>(gE (fun o=>e o none)).trans (cR a b c)
  have hlk:=hI.links t ht
  have hlp:0 < gu S.idx S.O t.k:=kP hd hl
  have hend:(obj (orphan (aM S.X S.O d name t) t.k) to).ah=(obj (aM S.X S.O d name t) to).ah:=gE (g:=aO.ah) (fun _=>rfl)
  have h2:=h1.put (d:=to) (name:=toName) (t:=t) (O':=(lu S d name to toName t).O) hto (by
      show (obj (orphan (aM S.X S.O d name t) t.k) to).gone=false
      rw [g0 aO.gone (fun _ _=>rfl) (fun _ _=>rfl) (fun _ _ _=>rfl) (fun _ _=>rfl)];exact ji) (by
      show aP toName (obj (orphan (aM S.X S.O d name t) t.k) to).ah=none
      rw [hend];exact iX hne hn) jj ht (by
      show (obj (orphan (aM S.X S.O d name t) t.k) t.k).gone=false
      rw [g0 aO.gone (fun _ _=>rfl) (fun _ _=>rfl) (fun _ _ _=>rfl) (fun _ _=>rfl)];exact hgt) (fun hk=>⟨by
        have h3:=hI.once t ht hk
        show (obj (orphan (aM S.X S.O d name t) t.k) t.k).links=0
        rw [hO,if_neg hne,if_pos rfl]
        show (obj S.O t.k).links - 1=0
        omega,fun hb2=>hb hk (Eo (fun x e hx=>by
          have hx:(obj (orphan (aM S.X S.O d name t) t.k) x).up=some e:=hx
          by_cases e1:x=t.k
          ·rw [hO,if_neg (by rw [e1];exact hne),if_pos e1] at hx;cases hx
          rw [hO] at hx
          split at hx
          ·rename_i e2;rw [e2];exact hx
          first|exact hx|(rw [if_neg e1] at hx;exact hx)) hb2)⟩) Ic (by
      have:=hI.total
      show S.X.ah - 1 < 8192
      omega) hI.now (fun k=>by
      show obj (cC S.X (aM S.X S.O d name t) to toName t) k=_
      rw [tW Ic]
      by_cases e:k=to
      ·rw [if_pos e,if_pos e]
       have h3:obj (orphan (aM S.X S.O d name t) t.k) to=obj (aM S.X S.O d name t) to:=bP (fun e=>Ic e.symm)
       rw [show obj _ to=_ from h3]
      rw [if_neg e,if_neg e]
      by_cases e2:k=t.k
      ·rw [if_pos e2,if_pos e2,e2]
       show _={ obj (orphan (aM S.X S.O d name t) t.k) t.k with links:=(obj (orphan (aM S.X S.O d name t) t.k) t.k).links+1,up:=if t.kind=2 then some to else (obj (orphan (aM S.X S.O d name t) t.k) t.k).up }
       have h3:obj (orphan (aM S.X S.O d name t) t.k) t.k={ obj (aM S.X S.O d name t) t.k with up:=none }:=bB
       rw [h3]
       by_cases hk:t.kind=2
       ·rw [if_pos hk,if_pos hk]
       rw [if_neg hk,if_neg hk]
       have Ep:(obj (aM S.X S.O d name t) t.k).up=none:=by
         rw [cR (g:=aO.up) (fun _ _=>rfl) (fun _ _=>rfl) (fun _ _ _=>rfl)]
         cases hu:(obj S.O t.k).up with
         | none=>rfl
         | some e=>exact absurd ((hI.up t ht e).1 hu).1 hk
       rw [Ep]
      rw [if_neg e2,if_neg e2]
      have h3:obj (orphan (aM S.X S.O d name t) t.k) k=obj (aM S.X S.O d name t) k:=bP e2
      exact h3.symm)
  refine⟨h2,fun x hx hg=>?_⟩
  have g3:∀ {α:Type} (g:aO->α),(∀ o es,g { o with ah:=es }=g o)->(∀ o l,g { o with links:=l }=g o)->(∀ o a b,g { o with sec:=a,nano:=b }=g o)->(∀ o u,g { o with up:=u }=g o)->∀ k,g (obj (lu S d name to toName t).O k)=g (obj S.O k):=fun g a b c e k=>(kQ a b c e).trans (cR a b c)
  rw [g3 aO.gone (fun _ _=>rfl) (fun _ _=>rfl) (fun _ _ _=>rfl) (fun _ _=>rfl)] at hg
  rw [g3 aO.opens (fun _ _=>rfl) (fun _ _=>rfl) (fun _ _ _=>rfl) (fun _ _=>rfl)]
  exact hI.full x hx hg
theorem yG {us:Used Th} {h:Int} {k:Nat}:hnd (ins h t us) k=(if t.k=k then 1 else 0)+hnd us k:=wg
theorem J9 {us:Used Th} {h:Int} {k:Nat} (hr:aB.bN (keys us)) (e:aB.get us h=some t):hnd (del h us) k+(if t.k=k then 1 else 0)=hnd us k:=wi (g:=fun p:Int×Th=>if p.2.k=k then 1 else 0) hr e
theorem Dt {us:Used Th} {av:Int} (hr:aB.bN (keys us)) (h1:∀ x∈keys us,1<=x/\x<=av):aB.bN (keys (ins (aB.least us) t us))/\∀ x∈keys (ins (aB.least us) t us),1<=x/\x<=max av ((us.length:Int)+1):=by
  obtain⟨g1,g2,_⟩:=least_le hr (fun x hx=>(h1 x hx).1)
  have g3:=CR us
  refine⟨rZ hr g2,fun x hx=>?_⟩
  rcases (jK _ _ _ _).1 hx with e|e
  ·subst e;omega
  have:=h1 x e;omega
theorem Inv.bK (hI:Inv S) (ht:Live S.idx t) (hk:t.kind≠3):Inv (Proofs.YtaepnjbceganhaaGreat.bK S t).2.2:=by
  by_cases hlt:(S.us.length:Int) < S.X.cH
  ·rw [iT hlt]
   obtain⟨g1,g2,_⟩:=least_le hI.usr (fun x hx=>(hI.tV x hx).1)
   obtain⟨v1,v2⟩:=Dt (t:=t) hI.usr hI.tV
   have hb:bytes S.idx (aA S.O t.k (fun o=>{ o with opens:=o.opens+1 }))=bytes S.idx S.O:=eO (fun p _=>by rw [cX (f:=fun o=>{ o with opens:=o.opens+1 }) (g:=aO.data) (fun _=>rfl)])
   have h1:=hI.toInv0.own (k:=t.k) (f:=fun o=>{ o with opens:=o.opens+1 }) (jl:=S.X.used) (us':=ins (aB.least S.us) t S.us) (eP:=max S.av ((S.us.length:Int)+1)) (fun _=>rfl) (fun _=>rfl) (fun _=>rfl) (fun _=>rfl) (fun _=>rfl) (fun _=>rfl)
     (fun u hu e=>by rw [← e];exact (hI.mt u hu).of rfl rfl rfl (hI.mt u hu).time rfl (.inl rfl) (.inl rfl) rfl)
     (fun u hu=>by
       have h2:=hI.opens u hu
       rw [yG]
       by_cases e:u.k=t.k
       ·rw [e,bB,if_pos rfl,← e]
        show (obj S.O u.k).opens+1=_
        omega
       rw [bP e,if_neg (fun e2=>e e2.symm)];omega)
     v1 v2 (by rw [gy];omega) (by have:=hI.av;omega) (fun h u e=>by
       rw [rC g2] at e
       split at e
       ·cases e;exact⟨ht,hk⟩
       exact hI.us h u e) ⟨by rw [hb];exact hI.used.1,hI.used.2⟩
   refine⟨h1,fun u hu hg=>?_⟩
   have hg:(obj (aA S.O t.k (fun o=>{ o with opens:=o.opens+1 })) u.k).gone=true:=hg
   rw [cX (f:=fun o=>{ o with opens:=o.opens+1 }) (g:=aO.gone) (fun _=>rfl)] at hg
   have h2:=hI.full u hu hg
   show 0 < (obj (aA S.O t.k (fun o=>{ o with opens:=o.opens+1 })) u.k).opens
   by_cases e:u.k=t.k
   ·rw [e,bB];rw [e] at h2;show 0 < (obj S.O t.k).opens+1;omega
   rw [bP e];exact h2
  rw [kr hlt];exact hI
theorem Inv.fH (hI:Inv S) {k:Nat} (ht:Live S.idx ⟨k,1⟩) (bs:List UInt8):Inv (Proofs.YtaepnjbceganhaaGreat.fH S k bs).2.2:=by
  unfold Proofs.YtaepnjbceganhaaGreat.fH
  split
  ·exact hI
  split
  ·exact hI
  rename_i hroom
  have hlen:(obj (aA S.O k (fun o=>{ o with data:=o.data++bs.take (aW S.X bs.length),sec:=S.X.cS,nano:=S.X.cZ })) k).data.length=(obj S.O k).data.length+aW S.X bs.length:=by
    rw [bB]
    show ((obj S.O k).data++bs.take (aW S.X bs.length)).length=_
    rw [List.length_append,List.length_take]
    unfold aW
    omega
  have hb:=wh (g:=fun p:Int×Th=>(obj S.O p.2.k).data.length) (g':=fun p:Int×Th=>(obj (aA S.O k (fun o=>{ o with data:=o.data++bs.take (aW S.X bs.length),sec:=S.X.cS,nano:=S.X.cZ })) p.2.k).data.length) hI.rise ht (fun p hp hne=>by
    have h1:=hI.key (lZ hI.rise hp)
    show (obj (aA _ k _) p.2.k).data.length=_
    rw [bP (fun e=>hne (by rw [h1,e]))])
  have hb:bytes S.idx (aA S.O k (fun o=>{ o with data:=o.data++bs.take (aW S.X bs.length),sec:=S.X.cS,nano:=S.X.cZ }))+(obj S.O k).data.length=bytes S.idx S.O+(obj (aA S.O k (fun o=>{ o with data:=o.data++bs.take (aW S.X bs.length),sec:=S.X.cS,nano:=S.X.cZ })) k).data.length:=hb
  have hu:=hI.used
  have hcB:=hI.cB
  have h1:=hI.toInv0.own (k:=k) (f:=fun o=>{ o with data:=o.data++bs.take (aW S.X bs.length),sec:=S.X.cS,nano:=S.X.cZ }) (jl:=S.X.used+(aW S.X bs.length:Int)) (us':=S.us) (eP:=S.av) (fun _=>rfl) (fun _=>rfl) (fun _=>rfl) (fun _=>rfl) (fun _=>rfl) (fun _=>rfl)
    (fun u hu e=>by
      have hk1:u=⟨k,1⟩:=eY hu ht e
      have MS:=hI.kind hu
      rw [← e]
      exact (hI.mt u hu).of rfl rfl rfl hI.now rfl (.inr (by rw [MS,hk1])) (.inl rfl) rfl)
    (fun u hu=>by rw [cX (f:=fun o=>{ o with data:=o.data++bs.take (aW S.X bs.length),sec:=S.X.cS,nano:=S.X.cZ }) (g:=aO.opens) (fun _=>rfl)];exact hI.opens u hu)
    hI.usr hI.tV hI.zB hI.av hI.us ⟨by omega,by unfold aW;omega⟩
  refine⟨h1,fun u hu hg=>?_⟩
  have hg:(obj (aA S.O k (fun o=>{ o with data:=o.data++bs.take (aW S.X bs.length),sec:=S.X.cS,nano:=S.X.cZ })) u.k).gone=true:=hg
  rw [cX (f:=fun o=>{ o with data:=o.data++bs.take (aW S.X bs.length),sec:=S.X.cS,nano:=S.X.cZ }) (g:=aO.gone) (fun _=>rfl)] at hg
  show 0 < (obj (aA S.O k (fun o=>{ o with data:=o.data++bs.take (aW S.X bs.length),sec:=S.X.cS,nano:=S.X.cZ })) u.k).opens
  rw [cX (f:=fun o=>{ o with data:=o.data++bs.take (aW S.X bs.length),sec:=S.X.cS,nano:=S.X.cZ }) (g:=aO.opens) (fun _=>rfl)]
  exact hI.full u hu hg
theorem Inv.MT (hI:Inv S) {k:Nat} {mode uid gid sec nano:Int} (h1:lq mode) (h2:xq uid/\xq gid) (h3:cg sec nano):Inv { S with O:=aA S.O k (fun o=>{ o with mode:=mode,uid:=uid,gid:=gid,sec:=sec,nano:=nano }) }:=by
  have hb:bytes S.idx (aA S.O k (fun o=>{ o with mode:=mode,uid:=uid,gid:=gid,sec:=sec,nano:=nano }))=bytes S.idx S.O:=eO (fun p _=>by rw [cX (f:=fun o=>{ o with mode:=mode,uid:=uid,gid:=gid,sec:=sec,nano:=nano }) (g:=aO.data) (fun _=>rfl)])
  have g1:=hI.toInv0.own (k:=k) (f:=fun o=>{ o with mode:=mode,uid:=uid,gid:=gid,sec:=sec,nano:=nano }) (jl:=S.X.used) (us':=S.us) (eP:=S.av) (fun _=>rfl) (fun _=>rfl) (fun _=>rfl) (fun _=>rfl) (fun _=>rfl) (fun _=>rfl)
    (fun u hu e=>by
      have hm:=hI.mt u hu
      rw [e] at hm
      exact⟨h1,h2.1,h2.2,h3,hm.data,hm.ah,hm.target⟩)
    (fun u hu=>by rw [cX (f:=fun o=>{ o with mode:=mode,uid:=uid,gid:=gid,sec:=sec,nano:=nano }) (g:=aO.opens) (fun _=>rfl)];exact hI.opens u hu)
    hI.usr hI.tV hI.zB hI.av hI.us ⟨by rw [hb];exact hI.used.1,hI.used.2⟩
  refine⟨g1,fun u hu hg=>?_⟩
  have hg:(obj (aA S.O k (fun o=>{ o with mode:=mode,uid:=uid,gid:=gid,sec:=sec,nano:=nano })) u.k).gone=true:=hg
  rw [cX (f:=fun o=>{ o with mode:=mode,uid:=uid,gid:=gid,sec:=sec,nano:=nano }) (g:=aO.gone) (fun _=>rfl)] at hg
  show 0 < (obj (aA S.O k (fun o=>{ o with mode:=mode,uid:=uid,gid:=gid,sec:=sec,nano:=nano })) u.k).opens
  rw [cX (f:=fun o=>{ o with mode:=mode,uid:=uid,gid:=gid,sec:=sec,nano:=nano }) (g:=aO.opens) (fun _=>rfl)]
  exact hI.full u hu hg
theorem Inv.shut (hI:Inv S) {h:Int} (e:aB.get S.us h=some t):Inv { S with
      X:={ S.X with used:=iR (nS S.O t.k) S.X.used t }
      O:=nS S.O t.k
      idx:=iG (nS S.O t.k) S.idx t
      us:=del h S.us }:=by
  have ht:=(hI.us h t e).1
  have hb:bytes S.idx (nS S.O t.k)=bytes S.idx S.O:=eO (fun p _=>by unfold nS;rw [cX (f:=fun o=>{ o with opens:=o.opens - 1 }) (g:=aO.data) (fun _=>rfl)])
  have hd:=fun k=>J9 (k:=k) hI.usr e
  have h1:=hI.toInv0.own (k:=t.k) (f:=fun o=>{ o with opens:=o.opens - 1 }) (jl:=S.X.used) (us':=del h S.us) (eP:=S.av) (fun _=>rfl) (fun _=>rfl) (fun _=>rfl) (fun _=>rfl) (fun _=>rfl) (fun _=>rfl)
    (fun u hu e=>by rw [← e];exact (hI.mt u hu).of rfl rfl rfl (hI.mt u hu).time rfl (.inl rfl) (.inl rfl) rfl)
    (fun u hu=>by
      have h2:=hI.opens u hu
      have h3:=hd u.k
      by_cases e2:u.k=t.k
      ·rw [e2,bB]
       rw [e2] at h2 h3
       rw [if_pos rfl] at h3
       show (obj S.O t.k).opens - 1=_
       omega
      rw [if_neg (fun e3=>e2 e3.symm)] at h3
      rw [bP e2];omega)
    (Bv hI.usr) (fun x hx=>hI.tV x (by rw [lI] at hx;exact (List.mem_filter.1 hx).1)) (by have:=mZ hI.usr (get_some e);have:=hI.zB;omega) hI.av (fun i u hu=>by
      rw [rE] at hu
      split at hu
      ·cases hu
      exact hI.us i u hu) ⟨by rw [show bytes S.idx (aA S.O t.k (fun o=>{ o with opens:=o.opens - 1 }))=bytes S.idx S.O from hb];exact hI.used.1,hI.used.2⟩
  exact h1.oQ (t:=t) ht (fun u hu hut hg=>by
    have hk:u.k≠t.k:=fun e=>hut (eY hu ht e)
    have hg:(obj (aA S.O t.k (fun o=>{ o with opens:=o.opens - 1 })) u.k).gone=true:=hg
    rw [bP hk] at hg
    show 0 < (obj (aA S.O t.k (fun o=>{ o with opens:=o.opens - 1 })) u.k).opens
    rw [bP hk]
    exact hI.full u hu hg)
end ops
end
section
open Go.RowKit Go.Maps ck aB
section facts
variable {S:aH} {X:FM} {O:bO} {d k to:Nat} {name toName:ByteArray} {t o:Th}
def uh (dp:Nat->Nat):Option Nat->Nat
  | none=>0
  | some y=>dp y+1
theorem Ge {dp:Nat->Nat} (h:∀ k d,(obj O k).up=some d->dp d < dp k) {y:Nat}:uh dp (obj O y).up < uh dp (some y):=by
  cases e:(obj O y).up with
  | none=>exact Nat.succ_pos _
  | some z=>exact Nat.succ_lt_succ (h y z e)
theorem xD {s y:Nat} (h:¬ y=s):iI O s y↔∃ z,(obj O y).up=some z/\iI O s z:=zD.trans (or_iff_right h)
theorem xE (hne:t.k≠d):(obj (aD S d name t).O k).ah=if k=d then eT name (obj S.O d).ah else (obj S.O k).ah:=by
  have h1:(obj (aD S d name t).O k).ah=(obj (aM S.X S.O d name t) k).ah:=by
    unfold aD
    simp only
    split
    ·exact nu (g:=aO.ah) (fun _ _=>rfl)
    rfl
  rw [h1,gH hne]
  split
  ·rfl
  split<;>rfl
theorem nU (hI:Inv0 S) (hto:Live S.idx ⟨to,2⟩) (hl2:aP toName (obj S.O to).ah=some o) (hl:aP name (obj S.O d).ah=some t) (hot:o≠t):aP name (obj (aD S to toName o).O d).ah=some t:=by
  rw [xE (hI.ne hto hl2)]
  split
  ·rename_i e
   subst e
   rw [nN,if_neg (fun e=>by rw [e,hl2] at hl;exact hot (Option.some.inj hl))]
   exact hl
  exact hl
theorem nV (hI:Inv0 S) (hto:Live S.idx ⟨to,2⟩) (hl2:aP toName (obj S.O to).ah=some o):aP toName (obj (aD S to toName o).O to).ah=none:=by
  rw [xE (hI.ne hto hl2),if_pos rfl,nN,if_pos rfl]
theorem iA (hI:Inv0 S) (hto:Live S.idx ⟨to,2⟩) (hl2:aP toName (obj S.O to).ah=some o) (hx:Live S.idx t) (hk:t.k≠o.k):Live (aD S to toName o).idx t:=by
  unfold aD
  simp only
  split
  ·unfold iG
   split
   ·unfold Live
    rw [rE,if_neg]
    ·exact hx
    intro e
    have h1:=(hI.ob o (hI.ent hto hl2).2).1
    rw [nu (g:=aO.id) (fun _ _=>rfl),cR (g:=aO.id) (fun _ _=>rfl) (fun _ _=>rfl) (fun _ _ _=>rfl),h1] at e
    exact hk (by omega)
   exact hx
  exact hx
theorem kz (hne:t.k≠d):(obj (aM X O d name t) k).ah.length<=(obj O k).ah.length:=by
  rw [gH hne]
  split
  ·rename_i e
   subst e
   exact List.length_filter_le _ _
  split<;>exact Nat.le_refl _
theorem jh (hI:Inv0 S) (hd:Live S.idx ⟨d,2⟩) (hl:aP name (obj S.O d).ah=some t):0<=(obj (aM S.X S.O d name t) t.k).links/\(obj (aM S.X S.O d name t) t.k).links<=1048576:=by
  have ht:=(hI.ent hd hl).2
  have h1:=hI.links t ht
  have h2:0 < gu S.idx S.O t.k:=kP hd hl
  have h3:=hI.lb ht
  rw [gH (hI.ne hd hl),if_neg (hI.ne hd hl),if_pos rfl]
  show 0<=(obj S.O t.k).links - 1/\(obj S.O t.k).links - 1<=1048576
  omega
end facts
end
section
open Go.RowKit Go.Maps ck aB
attribute [local irreducible] ak aK af ai
abbrev BH (f:Nat) (L:HL) (d:Nat) (name):=([(61,vP f),(62,vP (L.b d)),(63,.string name)]:Fr)
abbrev BI (f:Nat) (L:HL) (to:Nat) (toName):=([(65,vP f),(66,vP (L.b to)),(67,.string toName)]:Fr)
abbrev sP (L:HL) (to:Nat) (toName):=([(45,.map (some (L.m to))),(46,.string toName)]:Fr)
abbrev JA (f:Nat) (L:HL) (to:Nat) (toName):=([(57,vP f),(58,vP (L.b to)),(59,.string toName)]:Fr)
abbrev JB (L:HL) (to:Nat):=([(12,.pointer none),(13,.bool false),(14,vP (L.b to))]:Fr)
abbrev JC (L:HL) (to:Nat) (toName):=([(3,vP (L.b to)),(4,.string toName)]:Fr)
theorem Er {β:Bs} (S:aH) (L:HL) (f m t:Nat) (hI:Inv S) (d:Nat) (hd:Live S.idx ⟨d,2⟩) (name:ByteArray) (hsz:name.size<=1048576) (to:Nat) (hto:Live S.idx ⟨to,2⟩) (toName:ByteArray) (pZ:toName.size<=1048576) :
    Spec Tryz.prog β 83 #[vP f,vP (L.b d),.string name,vP (L.b to),.string toName] (pA f m t L S) (fun v l=>∃ L2,v=vI (bC S d name to toName).1/\l=(pA f m t L2 ((bC S d name to toName).2))):=by
 have hX:=hI.hX
 have hel:(obj S.O d).ah.length<=8192:=hI.fq hd
 have hkd:(obj S.O d).kind=2:=hI.kind hd
 have dG:(obj S.O to).kind=2:=hI.kind hto
 have PI:(obj S.O to).ah.length<=8192:=hI.fq hto
 refine Spec.enter Tryz.func83 rfl Tryz.ntmps83 (Nat.le_of_ble_eq_true rfl) (fun R=>?_)
 refine af.seq ?_
 rcases hI.lD hd name with hlk|⟨tk,hlk,hlv⟩|⟨tk,hlk,hlv⟩|⟨tk,hlk,hlv⟩
 ·refine af.region (gK 1 [] [] ?_)
  refine NS (gK 5 [(19,.map (some (L.m d))),(20,.string name)] [(3,v_ 3 (br L hkd))] ?_)
  refine iE 5 hkd hlk ?_
  refine gK 1 [(11,.nilIface)] [] ?_
  refine NN (af.seq (SR (gK 2 [(23,.bool true)] [] ?_)))
  refine NN (CT (SR (gK 1 [(10,vI 170)] [] ?_)))
  refine NN (af.ret (ai.aj ?_))
  exact RT (vI 170) [0,1,2,3,4,5,6] (⟨L,by rw [show bC S d name to toName=(170,S) by unfold bC;rw [hlk]]<;>exact⟨rfl,rfl⟩⟩)
 ·have hkt:(obj S.O tk).kind=1:=hI.kind hlv
  refine af.region (gK 1 [] [] ?_)
  refine NS (gK 5 [(19,.map (some (L.m d))),(20,.string name)] [(3,v_ 3 (br L hkd))] ?_)
  refine iE 5 hkd hlk ?_
  refine gK 1 [(11,.iface 69 (vP (L.b tk)))] [] ?_
  refine NN (af.seq (SR (gK 2 [(23,.bool false)] [] ?_)))
  refine NN (CF (af.skip (NX (SR (gK 7 [(12,.pointer none),(13,.bool false)] [] ?_)))))
  refine NN (af.seq (SR (gK 2 [(14,vP (L.b to))] [] ?_)))
  refine NN (af.block ?_)
  refine af.loop (ι:=Unit) (fun (u:Unit)=>True) (fun (u:Unit)=>0) (fun (u:Unit)=>(Bz f L d name++JC L to toName++[(11,.iface 69 (vP (L.b tk)))]++JB L to)) (fun (u:Unit)=>((pA f m t L S)++[.abs R])) () (idx:=[0,1,2,3,4,11,12,13,14]) (pk:=[0,1,2,3,4,5,6]) (show True from trivial) (fun _=>by kernel_rfl) rfl (by kernel_rfl) ?_
  rintro u _
  show af _ _ _ _ (Bz f L d name++JC L to toName++[(11,.iface 69 (vP (L.b tk)))]++JB L to) ((pA f m t L S)++[.abs R]) _
  refine af.seq (SR (gK 5 [(34,.bool false)] [] ?_))
  refine NN (CF (af.exit (ai.aL (ai.aL (ai.bG (NX (af.seq ?_)))))))
  skip
  rcases hI.lD hto toName with bg|⟨ok,bg,d8⟩|⟨ok,bg,d8⟩|⟨ok,bg,d8⟩
  ·refine af.region (gK 5 (sP L to toName) [(3,v_ 3 (br L dG))] ?_)
   refine iE 5 dG bg ?_
   refine gK 1 [(15,.nilIface)] [] ?_
   refine NN (af.seq (SR (gK 3 [(50,.bool false)] [] ?_)))
   refine NN (CF (af.skip (NX (af.seq (SR (gK 2 [(52,.bool false)] [] ?_))))))
   refine NN (CF (af.skip (NX (SR ?_))))
   have bT:Inv S:=hI
   have hd1:=hd
   have dK:=hlk
   have nw:=bg
   have iL:=hto
   have iJ:(obj S.O d).kind=2:=bT.kind hd1
   have ny:(obj S.O to).kind=2:=bT.kind iL
   have jr:Live S.idx ⟨tk,1⟩:=(bT.ent hd1 dK).2
   have jt:(obj S.O tk).kind=1:=bT.kind jr
   have yH:(obj S.O d).ah.length<=8192:=bT.fq hd1
   have yI:(obj S.O to).ah.length<=8192:=bT.fq iL
   have nA:=bT.lb jr
   have ju:tk≠d:=bT.ne hd1 dK
   refine gK 3 (BH f L d name) [] ?_
   refine gL [0,3,5] (iz S.X f m t bT.hX S.O L d iJ name hsz ⟨tk,1⟩ jt (by simp) dK (bT.twice hd1) (by omega) (by simp only at nA ⊢;omega)) ?_
   rintro _ _ ⟨rfl,rfl⟩
   refine NS (gK 4 (BI f L to toName++[(68,.iface 69 (vP (L.b tk)))]) [] ?_)
   refine gL [0,1,2] (fW { S.X with ah:=S.X.ah - 1 } f m t (bT.vA hd1 dK) (aM S.X S.O d name ⟨tk,1⟩) L to (cr.trans ny) toName pZ (iX ju nw) (Nat.le_trans (kz ju) (by omega)) ⟨tk,1⟩ (cr.trans jt) (by simp) (jh bT.toInv0 hd1 dK)) ?_
   rintro _ _ ⟨rfl,rfl⟩
   refine NS (ak.cW [(5,.abs (ay (bq (cC S.X (aM S.X S.O d name ⟨tk,1⟩) to toName ⟨tk,1⟩) L)))] (fun w hS=>by rw [show bq (cC S.X (aM S.X S.O d name ⟨tk,1⟩) to toName ⟨tk,1⟩) L=bq S.O L from fZ.trans iW];exact hS) ?_)
   refine gK 1 [(10,vI 0)] [] ?_
   refine NN (af.ret ?_)
   exact RT (vI 0) [0,3,4,1,5,2,6] (⟨L,by rw [show bC S d name to toName=(0,lu S d name to toName ⟨tk,1⟩) by unfold bC;rw [hlk];refine (if_neg (fun h=>absurd h.1 (by simp))).trans ?_;rw [bg]]<;>exact⟨rfl,rfl⟩⟩)
  ·have kA:(obj S.O ok).kind=1:=hI.kind d8
   refine af.region (gK 5 (sP L to toName) [(3,v_ 3 (br L dG))] ?_)
   refine iE 5 dG bg ?_
   refine gK 1 [(15,.iface 69 (vP (L.b ok)))] [] ?_
   refine NN (af.seq (SR (gK 2 [(48,.iface 69 (vP (L.b ok))),(49,.iface 69 (vP (L.b tk)))] [] ?_)))
   refine ak.gU (d:=(some 50)) (op:=.binOp .eql 64 (.tmp 48) (.tmp 49) 64) (v:=.bool (decide (ok=tk))) (fun _=>by kernel_rfl) (fun o junk w ho hS=>by obtain⟨F,hF⟩:=hS.get (i:=3) rfl;exact⟨w,wj Lg ho (by kernel_rfl) (by kernel_rfl) (by rw [kA];decide) (by rw [hkt];decide) hF,hS⟩) ?_
   refine NN (af.aR (p:=ok=tk) (fun _=>by kernel_rfl) (fun h50=>?_) (fun h50=>?_))
   ·refine SR (gK 1 [(10,vI 0)] [] ?_)
    refine NN (af.ret (ai.aj ?_))
    exact RT (vI 0) [0,1,2,3,4,5,6] (⟨L,by rw [show bC S d name to toName=(0,S) by unfold bC;rw [hlk];refine (if_neg (fun h=>absurd h.1 (by simp))).trans ?_;rw [bg];exact if_pos (by rw [h50])]<;>exact⟨rfl,rfl⟩⟩)
   refine af.skip (NX (af.seq (SR (gK 2 [(52,.bool true)] [] ?_))))
   refine NN (CT (af.seq (SR (gK 1 [(53,.iface 69 (vP (L.b ok)))] [] ?_))))
   refine gL [] (kg (vP (L.b ok))) ?_
   rintro _ _ ⟨rfl,rfl⟩
   refine gK 1 [(55,.bool false)] [] ?_
   refine NN (CF (af.skip (NX (af.seq (SR (gK 1 [(56,.bool false)] [] ?_))))))
   refine NN (CF (af.skip (NX (af.region (gK 3 (JA f L to toName) [] ?_)))))
   refine gL [0,3,5,1] (lJ S L f m t hI to hto toName pZ ⟨ok,1⟩ bg) ?_
   rintro _ _ ⟨rfl,rfl⟩
   refine NS ?_
   have bT:Inv (aD S to toName ⟨ok,1⟩):=hI.uY hto bg (by simp)
   have hot:(⟨ok,1⟩:Th)≠⟨tk,1⟩:=fun e=>h50 (congrArg Th.k e)
   have hd1:Live (aD S to toName ⟨ok,1⟩).idx ⟨d,2⟩:=iA hI.toInv0 hto bg hd (fun e=>by have:=eY hd d8 e;cases this)
   have iL:Live (aD S to toName ⟨ok,1⟩).idx ⟨to,2⟩:=iA hI.toInv0 hto bg hto (fun e=>by have:=eY hto d8 e;cases this)
   have dK:aP name (obj (aD S to toName ⟨ok,1⟩).O d).ah=some ⟨tk,1⟩:=nU hI.toInv0 hto bg hlk hot
   have nw:aP toName (obj (aD S to toName ⟨ok,1⟩).O to).ah=none:=nV hI.toInv0 hto bg
   have iJ:(obj (aD S to toName ⟨ok,1⟩).O d).kind=2:=bT.kind hd1
   have ny:(obj (aD S to toName ⟨ok,1⟩).O to).kind=2:=bT.kind iL
   have jr:Live (aD S to toName ⟨ok,1⟩).idx ⟨tk,1⟩:=(bT.ent hd1 dK).2
   have jt:(obj (aD S to toName ⟨ok,1⟩).O tk).kind=1:=bT.kind jr
   have yH:(obj (aD S to toName ⟨ok,1⟩).O d).ah.length<=8192:=bT.fq hd1
   have yI:(obj (aD S to toName ⟨ok,1⟩).O to).ah.length<=8192:=bT.fq iL
   have nA:=bT.lb jr
   have ju:tk≠d:=bT.ne hd1 dK
   refine gK 3 (BH f L d name) [] ?_
   refine gL [0,1,2] (iz (aD S to toName ⟨ok,1⟩).X f m t bT.hX (aD S to toName ⟨ok,1⟩).O L d iJ name hsz ⟨tk,1⟩ jt (by simp) dK (bT.twice hd1) (by omega) (by simp only at nA ⊢;omega)) ?_
   rintro _ _ ⟨rfl,rfl⟩
   refine NS (gK 4 (BI f L to toName++[(68,.iface 69 (vP (L.b tk)))]) [] ?_)
   refine gL [0,1,2] (fW { (aD S to toName ⟨ok,1⟩).X with ah:=(aD S to toName ⟨ok,1⟩).X.ah - 1 } f m t (bT.vA hd1 dK) (aM (aD S to toName ⟨ok,1⟩).X (aD S to toName ⟨ok,1⟩).O d name ⟨tk,1⟩) L to (cr.trans ny) toName pZ (iX ju nw) (Nat.le_trans (kz ju) (by omega)) ⟨tk,1⟩ (cr.trans jt) (by simp) (jh bT.toInv0 hd1 dK)) ?_
   rintro _ _ ⟨rfl,rfl⟩
   refine NS (ak.cW [(5,.abs (ay (bq (cC (aD S to toName ⟨ok,1⟩).X (aM (aD S to toName ⟨ok,1⟩).X (aD S to toName ⟨ok,1⟩).O d name ⟨tk,1⟩) to toName ⟨tk,1⟩) L)))] (fun w hS=>by rw [show bq (cC (aD S to toName ⟨ok,1⟩).X (aM (aD S to toName ⟨ok,1⟩).X (aD S to toName ⟨ok,1⟩).O d name ⟨tk,1⟩) to toName ⟨tk,1⟩) L=bq S.O L from fZ.trans (iW.trans lK)];exact hS) ?_)
   refine gK 1 [(10,vI 0)] [] ?_
   refine NN (af.ret ?_)
   exact RT (vI 0) [0,3,4,1,5,2,6] (⟨L,by rw [show bC S d name to toName=(0,lu (aD S to toName ⟨ok,1⟩) d name to toName ⟨tk,1⟩) by unfold bC;rw [hlk];refine (if_neg (fun h=>absurd h.1 (by simp))).trans ?_;rw [bg];exact (if_neg (fun e=>h50 (congrArg Th.k e))).trans ((if_neg (by simp)).trans (if_neg (by simp)))]<;>exact⟨rfl,rfl⟩⟩)
  ·have kA:(obj S.O ok).kind=2:=hI.kind d8
   refine af.region (gK 5 (sP L to toName) [(3,v_ 3 (br L dG))] ?_)
   refine iE 5 dG bg ?_
   refine gK 1 [(15,.iface 76 (vP (L.b ok)))] [] ?_
   refine NN (af.seq (SR (gK 3 [(50,.bool false)] [] ?_)))
   refine NN (CF (af.skip (NX (af.seq (SR (gK 2 [(52,.bool true)] [] ?_))))))
   refine NN (CT (af.seq (SR (gK 1 [(53,.iface 76 (vP (L.b ok)))] [] ?_))))
   refine gL [] (ko (vP (L.b ok))) ?_
   rintro _ _ ⟨rfl,rfl⟩
   refine gK 1 [(55,.bool true)] [] ?_
   refine NN (CT (SR (gK 1 [(10,vI 172)] [] ?_)))
   refine NN (af.ret (ai.aj (ai.aj ?_)))
   exact RT (vI 172) [0,1,2,3,4,5,6] (⟨L,by rw [show bC S d name to toName=(172,S) by unfold bC;rw [hlk];refine (if_neg (fun h=>absurd h.1 (by simp))).trans ?_;rw [bg];exact (if_neg (fun e=>by cases e)).trans (if_pos rfl)]<;>exact⟨rfl,rfl⟩⟩)
  have kA:(obj S.O ok).kind=3:=hI.kind d8
  refine af.region (gK 5 (sP L to toName) [(3,v_ 3 (br L dG))] ?_)
  refine iE 5 dG bg ?_
  refine gK 1 [(15,.iface 73 (vP (L.b ok)))] [] ?_
  refine NN (af.seq (SR (gK 3 [(50,.bool false)] [] ?_)))
  refine NN (CF (af.skip (NX (af.seq (SR (gK 2 [(52,.bool true)] [] ?_))))))
  refine NN (CT (af.seq (SR (gK 1 [(53,.iface 73 (vP (L.b ok)))] [] ?_))))
  refine gL [] (lH (vP (L.b ok))) ?_
  rintro _ _ ⟨rfl,rfl⟩
  refine gK 1 [(55,.bool false)] [] ?_
  refine NN (CF (af.skip (NX (af.seq (SR (gK 1 [(56,.bool false)] [] ?_))))))
  refine NN (CF (af.skip (NX (af.region (gK 3 (JA f L to toName) [] ?_)))))
  refine gL [0,3,5,1] (lJ S L f m t hI to hto toName pZ ⟨ok,3⟩ bg) ?_
  rintro _ _ ⟨rfl,rfl⟩
  refine NS ?_
  have bT:Inv (aD S to toName ⟨ok,3⟩):=hI.uY hto bg (by simp)
  have hot:(⟨ok,3⟩:Th)≠⟨tk,1⟩:=fun e=>by cases e
  have hd1:Live (aD S to toName ⟨ok,3⟩).idx ⟨d,2⟩:=iA hI.toInv0 hto bg hd (fun e=>by have:=eY hd d8 e;cases this)
  have iL:Live (aD S to toName ⟨ok,3⟩).idx ⟨to,2⟩:=iA hI.toInv0 hto bg hto (fun e=>by have:=eY hto d8 e;cases this)
  have dK:aP name (obj (aD S to toName ⟨ok,3⟩).O d).ah=some ⟨tk,1⟩:=nU hI.toInv0 hto bg hlk hot
  have nw:aP toName (obj (aD S to toName ⟨ok,3⟩).O to).ah=none:=nV hI.toInv0 hto bg
  have iJ:(obj (aD S to toName ⟨ok,3⟩).O d).kind=2:=bT.kind hd1
  have ny:(obj (aD S to toName ⟨ok,3⟩).O to).kind=2:=bT.kind iL
  have jr:Live (aD S to toName ⟨ok,3⟩).idx ⟨tk,1⟩:=(bT.ent hd1 dK).2
  have jt:(obj (aD S to toName ⟨ok,3⟩).O tk).kind=1:=bT.kind jr
  have yH:(obj (aD S to toName ⟨ok,3⟩).O d).ah.length<=8192:=bT.fq hd1
  have yI:(obj (aD S to toName ⟨ok,3⟩).O to).ah.length<=8192:=bT.fq iL
  have nA:=bT.lb jr
  have ju:tk≠d:=bT.ne hd1 dK
  refine gK 3 (BH f L d name) [] ?_
  refine gL [0,1,2] (iz (aD S to toName ⟨ok,3⟩).X f m t bT.hX (aD S to toName ⟨ok,3⟩).O L d iJ name hsz ⟨tk,1⟩ jt (by simp) dK (bT.twice hd1) (by omega) (by simp only at nA ⊢;omega)) ?_
  rintro _ _ ⟨rfl,rfl⟩
  refine NS (gK 4 (BI f L to toName++[(68,.iface 69 (vP (L.b tk)))]) [] ?_)
  refine gL [0,1,2] (fW { (aD S to toName ⟨ok,3⟩).X with ah:=(aD S to toName ⟨ok,3⟩).X.ah - 1 } f m t (bT.vA hd1 dK) (aM (aD S to toName ⟨ok,3⟩).X (aD S to toName ⟨ok,3⟩).O d name ⟨tk,1⟩) L to (cr.trans ny) toName pZ (iX ju nw) (Nat.le_trans (kz ju) (by omega)) ⟨tk,1⟩ (cr.trans jt) (by simp) (jh bT.toInv0 hd1 dK)) ?_
  rintro _ _ ⟨rfl,rfl⟩
  refine NS (ak.cW [(5,.abs (ay (bq (cC (aD S to toName ⟨ok,3⟩).X (aM (aD S to toName ⟨ok,3⟩).X (aD S to toName ⟨ok,3⟩).O d name ⟨tk,1⟩) to toName ⟨tk,1⟩) L)))] (fun w hS=>by rw [show bq (cC (aD S to toName ⟨ok,3⟩).X (aM (aD S to toName ⟨ok,3⟩).X (aD S to toName ⟨ok,3⟩).O d name ⟨tk,1⟩) to toName ⟨tk,1⟩) L=bq S.O L from fZ.trans (iW.trans lK)];exact hS) ?_)
  refine gK 1 [(10,vI 0)] [] ?_
  refine NN (af.ret ?_)
  exact RT (vI 0) [0,3,4,1,5,2,6] (⟨L,by rw [show bC S d name to toName=(0,lu (aD S to toName ⟨ok,3⟩) d name to toName ⟨tk,1⟩) by unfold bC;rw [hlk];refine (if_neg (fun h=>absurd h.1 (by simp))).trans ?_;rw [bg];exact (if_neg (fun e=>by cases e)).trans ((if_neg (by simp)).trans (if_neg (by simp)))]<;>exact⟨rfl,rfl⟩⟩)
 ·have hkt:(obj S.O tk).kind=2:=hI.kind hlv
  refine af.region (gK 1 [] [] ?_)
  refine NS (gK 5 [(19,.map (some (L.m d))),(20,.string name)] [(3,v_ 3 (br L hkd))] ?_)
  refine iE 5 hkd hlk ?_
  refine gK 1 [(11,.iface 76 (vP (L.b tk)))] [] ?_
  refine NN (af.seq (SR (gK 2 [(23,.bool false)] [] ?_)))
  refine NN (CF (af.skip (NX (SR (gK 7 [(12,vP (L.b tk)),(13,.bool true)] [] ?_)))))
  refine NN (af.seq (SR (gK 2 [(14,vP (L.b to))] [] ?_)))
  refine NN (af.block ?_)
  obtain⟨dp,hdp⟩:=hI.deep
  refine af.loop (ι:=(Option Nat)) (fun (x:Option Nat)=>(iI S.O tk to↔∃ z0,x=some z0/\iI S.O tk z0)/\(∀ z0,x=some z0->Live S.idx ⟨z0,2⟩)) (fun (x:Option Nat)=>uh dp x) (fun (x:Option Nat)=>[(0,vP f),(1,vP (L.b d)),(2,.string name),(3,vP (L.b to)),(4,.string toName),(11,.iface 76 (vP (L.b tk))),(12,vP (L.b tk)),(13,.bool true),(14,(q5 L x))]) (fun (x:Option Nat)=>((pA f m t L S)++[.abs R])) ((some to)) (idx:=[0,1,2,3,4,11,12,13,14]) (pk:=[0,1,2,3,4,5,6]) (show (iI S.O tk to↔∃ z0,((some to))=some z0/\iI S.O tk z0)/\(∀ z0,((some to))=some z0->Live S.idx ⟨z0,2⟩) from ⟨⟨fun h=>⟨to,rfl,h⟩,fun ⟨y,e,h⟩=>by cases e;exact h⟩,fun y e=>by cases e;exact hto⟩) (fun _=>by kernel_rfl) rfl (by kernel_rfl) ?_
  rintro x ⟨Lw,hlx⟩
  show af _ _ _ _ [(0,vP f),(1,vP (L.b d)),(2,.string name),(3,vP (L.b to)),(4,.string toName),(11,.iface 76 (vP (L.b tk))),(12,vP (L.b tk)),(13,.bool true),(14,(q5 L x))] ((pA f m t L S)++[.abs R]) _
  refine af.seq (af.seq ?_)
  rcases hx:x with _|y
  ·refine af.region (gK 5 [(34,.bool false)] [] ?_)
   refine NN (CF (af.exit (ai.aL (ai.aL (ai.bG (NX (af.seq ?_)))))))
   have hnb:¬ iI S.O tk to:=fun h=>by obtain⟨y,e,_⟩:=Lw.1 h;rw [hx] at e;cases e
   rcases hI.lD hto toName with bg|⟨ok,bg,d8⟩|⟨ok,bg,d8⟩|⟨ok,bg,d8⟩
   ·refine af.region (gK 5 (sP L to toName) [(3,v_ 3 (br L dG))] ?_)
    refine iE 5 dG bg ?_
    refine gK 1 [(15,.nilIface)] [] ?_
    refine NN (af.seq (SR (gK 3 [(50,.bool false)] [] ?_)))
    refine NN (CF (af.skip (NX (af.seq (SR (gK 2 [(52,.bool false)] [] ?_))))))
    refine NN (CF (af.skip (NX (SR ?_))))
    have bT:Inv S:=hI
    have hd1:=hd
    have dK:=hlk
    have nw:=bg
    have iL:=hto
    have iJ:(obj S.O d).kind=2:=bT.kind hd1
    have ny:(obj S.O to).kind=2:=bT.kind iL
    have jr:Live S.idx ⟨tk,2⟩:=(bT.ent hd1 dK).2
    have jt:(obj S.O tk).kind=2:=bT.kind jr
    have yH:(obj S.O d).ah.length<=8192:=bT.fq hd1
    have yI:(obj S.O to).ah.length<=8192:=bT.fq iL
    have nA:=bT.lb jr
    have ju:tk≠d:=bT.ne hd1 dK
    refine gK 3 (BH f L d name) [] ?_
    refine gL [0,3,5] (iz S.X f m t bT.hX S.O L d iJ name hsz ⟨tk,2⟩ jt (by simp) dK (bT.twice hd1) (by omega) (by simp only at nA ⊢;omega)) ?_
    rintro _ _ ⟨rfl,rfl⟩
    refine NS (gK 4 (BI f L to toName++[(68,.iface 76 (vP (L.b tk)))]) [] ?_)
    refine gL [0,1,2] (fW { S.X with ah:=S.X.ah - 1 } f m t (bT.vA hd1 dK) (aM S.X S.O d name ⟨tk,2⟩) L to (cr.trans ny) toName pZ (iX ju nw) (Nat.le_trans (kz ju) (by omega)) ⟨tk,2⟩ (cr.trans jt) (by simp) (jh bT.toInv0 hd1 dK)) ?_
    rintro _ _ ⟨rfl,rfl⟩
    refine NS (ak.cW [(5,.abs (ay (bq (cC S.X (aM S.X S.O d name ⟨tk,2⟩) to toName ⟨tk,2⟩) L)))] (fun w hS=>by rw [show bq (cC S.X (aM S.X S.O d name ⟨tk,2⟩) to toName ⟨tk,2⟩) L=bq S.O L from fZ.trans iW];exact hS) ?_)
    refine gK 1 [(10,vI 0)] [] ?_
    refine NN (af.ret ?_)
    exact RT (vI 0) [0,3,4,1,5,2,6] (⟨L,by rw [show bC S d name to toName=(0,lu S d name to toName ⟨tk,2⟩) by unfold bC;rw [hlk];refine (if_neg (fun h=>hnb h.2)).trans ?_;rw [bg]]<;>exact⟨rfl,rfl⟩⟩)
   ·have kA:(obj S.O ok).kind=1:=hI.kind d8
    refine af.region (gK 5 (sP L to toName) [(3,v_ 3 (br L dG))] ?_)
    refine iE 5 dG bg ?_
    refine gK 1 [(15,.iface 69 (vP (L.b ok)))] [] ?_
    refine NN (af.seq (SR (gK 3 [(50,.bool false)] [] ?_)))
    refine NN (CF (af.skip (NX (af.seq (SR (gK 2 [(52,.bool true)] [] ?_))))))
    refine NN (CT (af.seq (SR (gK 1 [(53,.iface 69 (vP (L.b ok)))] [] ?_))))
    refine gL [] (kg (vP (L.b ok))) ?_
    rintro _ _ ⟨rfl,rfl⟩
    refine gK 1 [(55,.bool false)] [] ?_
    refine NN (CF (af.skip (NX (af.seq (SR (gK 1 [(56,.bool true)] [] ?_))))))
    refine NN (CT (SR (gK 1 [(10,vI 173)] [] ?_)))
    refine NN (af.ret (ai.aj (ai.aj ?_)))
    exact RT (vI 173) [0,1,2,3,4,5,6] (⟨L,by rw [show bC S d name to toName=(173,S) by unfold bC;rw [hlk];refine (if_neg (fun h=>hnb h.2)).trans ?_;rw [bg];exact (if_neg (fun e=>by cases e)).trans ((if_neg (by simp)).trans (if_pos rfl))]<;>exact⟨rfl,rfl⟩⟩)
   ·have kA:(obj S.O ok).kind=2:=hI.kind d8
    refine af.region (gK 5 (sP L to toName) [(3,v_ 3 (br L dG))] ?_)
    refine iE 5 dG bg ?_
    refine gK 1 [(15,.iface 76 (vP (L.b ok)))] [] ?_
    refine NN (af.seq (SR (gK 2 [(48,.iface 76 (vP (L.b ok))),(49,.iface 76 (vP (L.b tk)))] [] ?_)))
    refine ak.gU (d:=(some 50)) (op:=.binOp .eql 64 (.tmp 48) (.tmp 49) 64) (v:=.bool (decide (ok=tk))) (fun _=>by kernel_rfl) (fun o junk w ho hS=>by obtain⟨F,hF⟩:=hS.get (i:=3) rfl;exact⟨w,wj MR ho (by kernel_rfl) (by kernel_rfl) (by rw [kA];decide) (by rw [hkt];decide) hF,hS⟩) ?_
    refine NN (af.aR (p:=ok=tk) (fun _=>by kernel_rfl) (fun h50=>?_) (fun h50=>?_))
    ·refine SR (gK 1 [(10,vI 0)] [] ?_)
     refine NN (af.ret (ai.aj ?_))
     exact RT (vI 0) [0,1,2,3,4,5,6] (⟨L,by rw [show bC S d name to toName=(0,S) by unfold bC;rw [hlk];refine (if_neg (fun h=>hnb h.2)).trans ?_;rw [bg];exact if_pos (by rw [h50])]<;>exact⟨rfl,rfl⟩⟩)
    refine af.skip (NX (af.seq (SR (gK 2 [(52,.bool true)] [] ?_))))
    refine NN (CT (af.seq (SR (gK 1 [(53,.iface 76 (vP (L.b ok)))] [] ?_))))
    refine gL [] (ko (vP (L.b ok))) ?_
    rintro _ _ ⟨rfl,rfl⟩
    refine gK 1 [(55,.bool true)] [] ?_
    refine NN (CT (SR (gK 1 [(10,vI 172)] [] ?_)))
    refine NN (af.ret (ai.aj (ai.aj ?_)))
    exact RT (vI 172) [0,1,2,3,4,5,6] (⟨L,by rw [show bC S d name to toName=(172,S) by unfold bC;rw [hlk];refine (if_neg (fun h=>hnb h.2)).trans ?_;rw [bg];exact (if_neg (fun e=>h50 (congrArg Th.k e))).trans (if_pos rfl)]<;>exact⟨rfl,rfl⟩⟩)
   have kA:(obj S.O ok).kind=3:=hI.kind d8
   refine af.region (gK 5 (sP L to toName) [(3,v_ 3 (br L dG))] ?_)
   refine iE 5 dG bg ?_
   refine gK 1 [(15,.iface 73 (vP (L.b ok)))] [] ?_
   refine NN (af.seq (SR (gK 3 [(50,.bool false)] [] ?_)))
   refine NN (CF (af.skip (NX (af.seq (SR (gK 2 [(52,.bool true)] [] ?_))))))
   refine NN (CT (af.seq (SR (gK 1 [(53,.iface 73 (vP (L.b ok)))] [] ?_))))
   refine gL [] (lH (vP (L.b ok))) ?_
   rintro _ _ ⟨rfl,rfl⟩
   refine gK 1 [(55,.bool false)] [] ?_
   refine NN (CF (af.skip (NX (af.seq (SR (gK 1 [(56,.bool true)] [] ?_))))))
   refine NN (CT (SR (gK 1 [(10,vI 173)] [] ?_)))
   refine NN (af.ret (ai.aj (ai.aj ?_)))
   exact RT (vI 173) [0,1,2,3,4,5,6] (⟨L,by rw [show bC S d name to toName=(173,S) by unfold bC;rw [hlk];refine (if_neg (fun h=>hnb h.2)).trans ?_;rw [bg];exact (if_neg (fun e=>by cases e)).trans ((if_neg (by simp)).trans (if_pos rfl))]<;>exact⟨rfl,rfl⟩⟩)
  have hky:(obj S.O y).kind=2:=hI.kind (hlx y hx)
  refine af.region (gK 5 [(34,.bool true)] [] ?_)
  refine NN (CT (af.skip (NX (af.seq (af.block (SR ?_))))))
  refine gK 2 [(39,vP (L.b y)),(40,vP (L.b tk))] [] ?_
  refine ak.gU (d:=(some 41)) (op:=.binOp .eql 76 (.tmp 39) (.tmp 40) 76) (v:=.bool (decide (y=tk))) (fun _=>by kernel_rfl) (fun o junk w ho hS=>by obtain⟨F,hF⟩:=hS.get (i:=3) rfl;exact⟨w,F8 ho (by kernel_rfl) (by kernel_rfl) (by rw [hky];decide) (by rw [hkt];decide) hF,hS⟩) ?_
  refine NN (af.aR (p:=y=tk) (fun _=>by kernel_rfl) (fun JD=>?_) (fun JD=>?_))
  ·refine SR (gK 1 [(10,vI 174)] [] ?_)
   refine NN (af.ret (ai.ax (ai.aj (ai.aj (ai.ax (ai.aj ?_))))))
   exact RT (vI 174) [0,1,2,3,4,5,6] (⟨L,by rw [show bC S d name to toName=(174,S) by unfold bC;rw [hlk];exact if_pos ⟨rfl,Lw.2 ⟨y,hx,by rw [JD];exact .here⟩⟩]<;>exact⟨rfl,rfl⟩⟩)
  refine af.skip (ai.aF (NX (af.region ?_)))
  refine gK 5 [(14,(q5 L (obj S.O y).up))] [(3,v_ 3 (NY L hky))] ?_
  refine NL ?_
  exact ai.turn (((obj S.O y).up)) (idx:=[0,1,2,3,4,11,12,13,14]) (pk:=[0,1,2,3,4,5,6]) (show (iI S.O tk to↔∃ z0,(((obj S.O y).up))=some z0/\iI S.O tk z0)/\(∀ z0,(((obj S.O y).up))=some z0->Live S.idx ⟨z0,2⟩) from ⟨Lw.trans ⟨fun ⟨y2,e,h⟩=>by rw [hx] at e;cases e;exact (xD JD).1 h,fun h=>⟨y,hx,(xD JD).2 h⟩⟩,fun z e=>((hI.up ⟨y,2⟩ (hlx y hx) z).1 e).2.1⟩) (by show uh dp (((obj S.O y).up)) < uh dp (some y);exact Ge hdp) (fun _=>by kernel_rfl) rfl (by kernel_rfl)
 have hkt:(obj S.O tk).kind=3:=hI.kind hlv
 refine af.region (gK 1 [] [] ?_)
 refine NS (gK 5 [(19,.map (some (L.m d))),(20,.string name)] [(3,v_ 3 (br L hkd))] ?_)
 refine iE 5 hkd hlk ?_
 refine gK 1 [(11,.iface 73 (vP (L.b tk)))] [] ?_
 refine NN (af.seq (SR (gK 2 [(23,.bool false)] [] ?_)))
 refine NN (CF (af.skip (NX (SR (gK 7 [(12,.pointer none),(13,.bool false)] [] ?_)))))
 refine NN (af.seq (SR (gK 2 [(14,vP (L.b to))] [] ?_)))
 refine NN (af.block ?_)
 refine af.loop (ι:=Unit) (fun (u:Unit)=>True) (fun (u:Unit)=>0) (fun (u:Unit)=>(Bz f L d name++JC L to toName++[(11,.iface 73 (vP (L.b tk)))]++JB L to)) (fun (u:Unit)=>((pA f m t L S)++[.abs R])) () (idx:=[0,1,2,3,4,11,12,13,14]) (pk:=[0,1,2,3,4,5,6]) (show True from trivial) (fun _=>by kernel_rfl) rfl (by kernel_rfl) ?_
 rintro u _
 show af _ _ _ _ (Bz f L d name++JC L to toName++[(11,.iface 73 (vP (L.b tk)))]++JB L to) ((pA f m t L S)++[.abs R]) _
 refine af.seq (SR (gK 5 [(34,.bool false)] [] ?_))
 refine NN (CF (af.exit (ai.aL (ai.aL (ai.bG (NX (af.seq ?_)))))))
 skip
 rcases hI.lD hto toName with bg|⟨ok,bg,d8⟩|⟨ok,bg,d8⟩|⟨ok,bg,d8⟩
 ·refine af.region (gK 5 (sP L to toName) [(3,v_ 3 (br L dG))] ?_)
  refine iE 5 dG bg ?_
  refine gK 1 [(15,.nilIface)] [] ?_
  refine NN (af.seq (SR (gK 3 [(50,.bool false)] [] ?_)))
  refine NN (CF (af.skip (NX (af.seq (SR (gK 2 [(52,.bool false)] [] ?_))))))
  refine NN (CF (af.skip (NX (SR ?_))))
  have bT:Inv S:=hI
  have hd1:=hd
  have dK:=hlk
  have nw:=bg
  have iL:=hto
  have iJ:(obj S.O d).kind=2:=bT.kind hd1
  have ny:(obj S.O to).kind=2:=bT.kind iL
  have jr:Live S.idx ⟨tk,3⟩:=(bT.ent hd1 dK).2
  have jt:(obj S.O tk).kind=3:=bT.kind jr
  have yH:(obj S.O d).ah.length<=8192:=bT.fq hd1
  have yI:(obj S.O to).ah.length<=8192:=bT.fq iL
  have nA:=bT.lb jr
  have ju:tk≠d:=bT.ne hd1 dK
  refine gK 3 (BH f L d name) [] ?_
  refine gL [0,3,5] (iz S.X f m t bT.hX S.O L d iJ name hsz ⟨tk,3⟩ jt (by simp) dK (bT.twice hd1) (by omega) (by simp only at nA ⊢;omega)) ?_
  rintro _ _ ⟨rfl,rfl⟩
  refine NS (gK 4 (BI f L to toName++[(68,.iface 73 (vP (L.b tk)))]) [] ?_)
  refine gL [0,1,2] (fW { S.X with ah:=S.X.ah - 1 } f m t (bT.vA hd1 dK) (aM S.X S.O d name ⟨tk,3⟩) L to (cr.trans ny) toName pZ (iX ju nw) (Nat.le_trans (kz ju) (by omega)) ⟨tk,3⟩ (cr.trans jt) (by simp) (jh bT.toInv0 hd1 dK)) ?_
  rintro _ _ ⟨rfl,rfl⟩
  refine NS (ak.cW [(5,.abs (ay (bq (cC S.X (aM S.X S.O d name ⟨tk,3⟩) to toName ⟨tk,3⟩) L)))] (fun w hS=>by rw [show bq (cC S.X (aM S.X S.O d name ⟨tk,3⟩) to toName ⟨tk,3⟩) L=bq S.O L from fZ.trans iW];exact hS) ?_)
  refine gK 1 [(10,vI 0)] [] ?_
  refine NN (af.ret ?_)
  exact RT (vI 0) [0,3,4,1,5,2,6] (⟨L,by rw [show bC S d name to toName=(0,lu S d name to toName ⟨tk,3⟩) by unfold bC;rw [hlk];refine (if_neg (fun h=>absurd h.1 (by simp))).trans ?_;rw [bg]]<;>exact⟨rfl,rfl⟩⟩)
 ·have kA:(obj S.O ok).kind=1:=hI.kind d8
  refine af.region (gK 5 (sP L to toName) [(3,v_ 3 (br L dG))] ?_)
  refine iE 5 dG bg ?_
  refine gK 1 [(15,.iface 69 (vP (L.b ok)))] [] ?_
  refine NN (af.seq (SR (gK 3 [(50,.bool false)] [] ?_)))
  refine NN (CF (af.skip (NX (af.seq (SR (gK 2 [(52,.bool true)] [] ?_))))))
  refine NN (CT (af.seq (SR (gK 1 [(53,.iface 69 (vP (L.b ok)))] [] ?_))))
  refine gL [] (kg (vP (L.b ok))) ?_
  rintro _ _ ⟨rfl,rfl⟩
  refine gK 1 [(55,.bool false)] [] ?_
  refine NN (CF (af.skip (NX (af.seq (SR (gK 1 [(56,.bool false)] [] ?_))))))
  refine NN (CF (af.skip (NX (af.region (gK 3 (JA f L to toName) [] ?_)))))
  refine gL [0,3,5,1] (lJ S L f m t hI to hto toName pZ ⟨ok,1⟩ bg) ?_
  rintro _ _ ⟨rfl,rfl⟩
  refine NS ?_
  have bT:Inv (aD S to toName ⟨ok,1⟩):=hI.uY hto bg (by simp)
  have hot:(⟨ok,1⟩:Th)≠⟨tk,3⟩:=fun e=>by cases e
  have hd1:Live (aD S to toName ⟨ok,1⟩).idx ⟨d,2⟩:=iA hI.toInv0 hto bg hd (fun e=>by have:=eY hd d8 e;cases this)
  have iL:Live (aD S to toName ⟨ok,1⟩).idx ⟨to,2⟩:=iA hI.toInv0 hto bg hto (fun e=>by have:=eY hto d8 e;cases this)
  have dK:aP name (obj (aD S to toName ⟨ok,1⟩).O d).ah=some ⟨tk,3⟩:=nU hI.toInv0 hto bg hlk hot
  have nw:aP toName (obj (aD S to toName ⟨ok,1⟩).O to).ah=none:=nV hI.toInv0 hto bg
  have iJ:(obj (aD S to toName ⟨ok,1⟩).O d).kind=2:=bT.kind hd1
  have ny:(obj (aD S to toName ⟨ok,1⟩).O to).kind=2:=bT.kind iL
  have jr:Live (aD S to toName ⟨ok,1⟩).idx ⟨tk,3⟩:=(bT.ent hd1 dK).2
  have jt:(obj (aD S to toName ⟨ok,1⟩).O tk).kind=3:=bT.kind jr
  have yH:(obj (aD S to toName ⟨ok,1⟩).O d).ah.length<=8192:=bT.fq hd1
  have yI:(obj (aD S to toName ⟨ok,1⟩).O to).ah.length<=8192:=bT.fq iL
  have nA:=bT.lb jr
  have ju:tk≠d:=bT.ne hd1 dK
  refine gK 3 (BH f L d name) [] ?_
  refine gL [0,1,2] (iz (aD S to toName ⟨ok,1⟩).X f m t bT.hX (aD S to toName ⟨ok,1⟩).O L d iJ name hsz ⟨tk,3⟩ jt (by simp) dK (bT.twice hd1) (by omega) (by simp only at nA ⊢;omega)) ?_
  rintro _ _ ⟨rfl,rfl⟩
  refine NS (gK 4 (BI f L to toName++[(68,.iface 73 (vP (L.b tk)))]) [] ?_)
  refine gL [0,1,2] (fW { (aD S to toName ⟨ok,1⟩).X with ah:=(aD S to toName ⟨ok,1⟩).X.ah - 1 } f m t (bT.vA hd1 dK) (aM (aD S to toName ⟨ok,1⟩).X (aD S to toName ⟨ok,1⟩).O d name ⟨tk,3⟩) L to (cr.trans ny) toName pZ (iX ju nw) (Nat.le_trans (kz ju) (by omega)) ⟨tk,3⟩ (cr.trans jt) (by simp) (jh bT.toInv0 hd1 dK)) ?_
  rintro _ _ ⟨rfl,rfl⟩
  refine NS (ak.cW [(5,.abs (ay (bq (cC (aD S to toName ⟨ok,1⟩).X (aM (aD S to toName ⟨ok,1⟩).X (aD S to toName ⟨ok,1⟩).O d name ⟨tk,3⟩) to toName ⟨tk,3⟩) L)))] (fun w hS=>by rw [show bq (cC (aD S to toName ⟨ok,1⟩).X (aM (aD S to toName ⟨ok,1⟩).X (aD S to toName ⟨ok,1⟩).O d name ⟨tk,3⟩) to toName ⟨tk,3⟩) L=bq S.O L from fZ.trans (iW.trans lK)];exact hS) ?_)
  refine gK 1 [(10,vI 0)] [] ?_
  refine NN (af.ret ?_)
  exact RT (vI 0) [0,3,4,1,5,2,6] (⟨L,by rw [show bC S d name to toName=(0,lu (aD S to toName ⟨ok,1⟩) d name to toName ⟨tk,3⟩) by unfold bC;rw [hlk];refine (if_neg (fun h=>absurd h.1 (by simp))).trans ?_;rw [bg];exact (if_neg (fun e=>by cases e)).trans ((if_neg (by simp)).trans (if_neg (by simp)))]<;>exact⟨rfl,rfl⟩⟩)
 ·have kA:(obj S.O ok).kind=2:=hI.kind d8
  refine af.region (gK 5 (sP L to toName) [(3,v_ 3 (br L dG))] ?_)
  refine iE 5 dG bg ?_
  refine gK 1 [(15,.iface 76 (vP (L.b ok)))] [] ?_
  refine NN (af.seq (SR (gK 3 [(50,.bool false)] [] ?_)))
  refine NN (CF (af.skip (NX (af.seq (SR (gK 2 [(52,.bool true)] [] ?_))))))
  refine NN (CT (af.seq (SR (gK 1 [(53,.iface 76 (vP (L.b ok)))] [] ?_))))
  refine gL [] (ko (vP (L.b ok))) ?_
  rintro _ _ ⟨rfl,rfl⟩
  refine gK 1 [(55,.bool true)] [] ?_
  refine NN (CT (SR (gK 1 [(10,vI 172)] [] ?_)))
  refine NN (af.ret (ai.aj (ai.aj ?_)))
  exact RT (vI 172) [0,1,2,3,4,5,6] (⟨L,by rw [show bC S d name to toName=(172,S) by unfold bC;rw [hlk];refine (if_neg (fun h=>absurd h.1 (by simp))).trans ?_;rw [bg];exact (if_neg (fun e=>by cases e)).trans (if_pos rfl)]<;>exact⟨rfl,rfl⟩⟩)
 have kA:(obj S.O ok).kind=3:=hI.kind d8
 refine af.region (gK 5 (sP L to toName) [(3,v_ 3 (br L dG))] ?_)
 refine iE 5 dG bg ?_
 refine gK 1 [(15,.iface 73 (vP (L.b ok)))] [] ?_
 refine NN (af.seq (SR (gK 2 [(48,.iface 73 (vP (L.b ok))),(49,.iface 73 (vP (L.b tk)))] [] ?_)))
 refine ak.gU (d:=(some 50)) (op:=.binOp .eql 64 (.tmp 48) (.tmp 49) 64) (v:=.bool (decide (ok=tk))) (fun _=>by kernel_rfl) (fun o junk w ho hS=>by obtain⟨F,hF⟩:=hS.get (i:=3) rfl;exact⟨w,wj Lh ho (by kernel_rfl) (by kernel_rfl) (by rw [kA];decide) (by rw [hkt];decide) hF,hS⟩) ?_
 refine NN (af.aR (p:=ok=tk) (fun _=>by kernel_rfl) (fun h50=>?_) (fun h50=>?_))
 ·refine SR (gK 1 [(10,vI 0)] [] ?_)
  refine NN (af.ret (ai.aj ?_))
  exact RT (vI 0) [0,1,2,3,4,5,6] (⟨L,by rw [show bC S d name to toName=(0,S) by unfold bC;rw [hlk];refine (if_neg (fun h=>absurd h.1 (by simp))).trans ?_;rw [bg];exact if_pos (by rw [h50])]<;>exact⟨rfl,rfl⟩⟩)
 refine af.skip (NX (af.seq (SR (gK 2 [(52,.bool true)] [] ?_))))
 refine NN (CT (af.seq (SR (gK 1 [(53,.iface 73 (vP (L.b ok)))] [] ?_))))
 refine gL [] (lH (vP (L.b ok))) ?_
 rintro _ _ ⟨rfl,rfl⟩
 refine gK 1 [(55,.bool false)] [] ?_
 refine NN (CF (af.skip (NX (af.seq (SR (gK 1 [(56,.bool false)] [] ?_))))))
 refine NN (CF (af.skip (NX (af.region (gK 3 (JA f L to toName) [] ?_)))))
 refine gL [0,3,5,1] (lJ S L f m t hI to hto toName pZ ⟨ok,3⟩ bg) ?_
 rintro _ _ ⟨rfl,rfl⟩
 refine NS ?_
 have bT:Inv (aD S to toName ⟨ok,3⟩):=hI.uY hto bg (by simp)
 have hot:(⟨ok,3⟩:Th)≠⟨tk,3⟩:=fun e=>h50 (congrArg Th.k e)
 have hd1:Live (aD S to toName ⟨ok,3⟩).idx ⟨d,2⟩:=iA hI.toInv0 hto bg hd (fun e=>by have:=eY hd d8 e;cases this)
 have iL:Live (aD S to toName ⟨ok,3⟩).idx ⟨to,2⟩:=iA hI.toInv0 hto bg hto (fun e=>by have:=eY hto d8 e;cases this)
 have dK:aP name (obj (aD S to toName ⟨ok,3⟩).O d).ah=some ⟨tk,3⟩:=nU hI.toInv0 hto bg hlk hot
 have nw:aP toName (obj (aD S to toName ⟨ok,3⟩).O to).ah=none:=nV hI.toInv0 hto bg
 have iJ:(obj (aD S to toName ⟨ok,3⟩).O d).kind=2:=bT.kind hd1
 have ny:(obj (aD S to toName ⟨ok,3⟩).O to).kind=2:=bT.kind iL
 have jr:Live (aD S to toName ⟨ok,3⟩).idx ⟨tk,3⟩:=(bT.ent hd1 dK).2
 have jt:(obj (aD S to toName ⟨ok,3⟩).O tk).kind=3:=bT.kind jr
 have yH:(obj (aD S to toName ⟨ok,3⟩).O d).ah.length<=8192:=bT.fq hd1
 have yI:(obj (aD S to toName ⟨ok,3⟩).O to).ah.length<=8192:=bT.fq iL
 have nA:=bT.lb jr
 have ju:tk≠d:=bT.ne hd1 dK
 refine gK 3 (BH f L d name) [] ?_
 refine gL [0,1,2] (iz (aD S to toName ⟨ok,3⟩).X f m t bT.hX (aD S to toName ⟨ok,3⟩).O L d iJ name hsz ⟨tk,3⟩ jt (by simp) dK (bT.twice hd1) (by omega) (by simp only at nA ⊢;omega)) ?_
 rintro _ _ ⟨rfl,rfl⟩
 refine NS (gK 4 (BI f L to toName++[(68,.iface 73 (vP (L.b tk)))]) [] ?_)
 refine gL [0,1,2] (fW { (aD S to toName ⟨ok,3⟩).X with ah:=(aD S to toName ⟨ok,3⟩).X.ah - 1 } f m t (bT.vA hd1 dK) (aM (aD S to toName ⟨ok,3⟩).X (aD S to toName ⟨ok,3⟩).O d name ⟨tk,3⟩) L to (cr.trans ny) toName pZ (iX ju nw) (Nat.le_trans (kz ju) (by omega)) ⟨tk,3⟩ (cr.trans jt) (by simp) (jh bT.toInv0 hd1 dK)) ?_
 rintro _ _ ⟨rfl,rfl⟩
 refine NS (ak.cW [(5,.abs (ay (bq (cC (aD S to toName ⟨ok,3⟩).X (aM (aD S to toName ⟨ok,3⟩).X (aD S to toName ⟨ok,3⟩).O d name ⟨tk,3⟩) to toName ⟨tk,3⟩) L)))] (fun w hS=>by rw [show bq (cC (aD S to toName ⟨ok,3⟩).X (aM (aD S to toName ⟨ok,3⟩).X (aD S to toName ⟨ok,3⟩).O d name ⟨tk,3⟩) to toName ⟨tk,3⟩) L=bq S.O L from fZ.trans (iW.trans lK)];exact hS) ?_)
 refine gK 1 [(10,vI 0)] [] ?_
 refine NN (af.ret ?_)
 exact RT (vI 0) [0,3,4,1,5,2,6] (⟨L,by rw [show bC S d name to toName=(0,lu (aD S to toName ⟨ok,3⟩) d name to toName ⟨tk,3⟩) by unfold bC;rw [hlk];refine (if_neg (fun h=>absurd h.1 (by simp))).trans ?_;rw [bg];exact (if_neg (fun e=>h50 (congrArg Th.k e))).trans ((if_neg (by simp)).trans (if_neg (by simp)))]<;>exact⟨rfl,rfl⟩⟩)
end
section
open Go.RowKit Go.Maps ck aB
theorem cq.take {β:Bs} {A:Option Addr} {d:List UInt8} (h:cq β A d) (n:Nat):cq β A (d.take n):=by
  intro j v hj
  refine h j v ?_
  unfold cA at hj ⊢
  rw [List.map_take] at hj
  rw [List.getElem?_take] at hj
  split at hj
  ·exact hj
  cases hj
theorem Es {a b:List UInt8}:cA (a++b)=cA a++cA b:=List.map_append
theorem Inv0.MU {S:aH} {t:Th} (h:Inv0 S) (hl:Live S.idx t):((obj S.O t.k).data.length:Int)<=S.X.used:=by
  have h1:=h.used
  have h2:(obj S.O t.k).data.length<=bytes S.idx S.O:=jU (g:=fun p:Int×Th=>(obj S.O p.2.k).data.length) hl
  omega
theorem Gf {X:FM} {n:Nat} (h:0 < X.cB - X.used):min (n:Int) (X.cB - X.used)=(aW X n:Int):=by
  unfold aW
  omega
theorem Gg {X:FM} {n:Nat} (h:0 < X.cB - X.used):aW X n<=n/\(aW X n:Int)<=X.cB - X.used:=by
  unfold aW
  omega
section data
variable {O:bO} {us:Used Th} {L L':HL} {k c:Nat} {A:Option Addr} {t:Th}
theorem BJ (hL:L'=L.data k A c):aT L' us=aT L us:=by subst hL;rfl
theorem Ie (hL:L'=L.data k A c):cE O L'=cE O L:=by
  subst hL
  funext x
  rfl
theorem Ig (hL:L'=L.data k A c) {x:Nat} (h:x≠k):bD O L' x=bD O L x:=by
  have e2:eU L' x (obj O x)=eU L x (obj O x):=by
    subst hL
    unfold eU uP
    simp only [HL.data,if_neg h]
    rfl
  unfold bD
  rw [e2]
  subst hL
  rfl
theorem Ih (hL:L'=L.data k A c) {x:Nat} (h:x≠k):bq O L' x=bq O L x:=by
  unfold bq
  subst hL
  simp only [HL.data,if_neg h]
theorem Du (hL:L'=L.data k A c):L'.dA k=A:=by subst hL;exact if_pos rfl
theorem Dv (hL:L'=L.data k A c):L'.dC k=c:=by subst hL;exact if_pos rfl
theorem Gh (hL:L'=L.data k A c) {x:Nat}:L'.b x=L.b x:=by subst hL;rfl
end data
section sat
variable {β:Bs} {l l':List HP} {w:World} {i j k c n:Nat} {O:bO} {L L':HL} {f:aO->aO} {cs:List Value} {T:TypeId} {ix:List Nat} {A:Option Addr} {R:Nat->bY} {xs:List Value}
theorem Sat.Lx (h:Sat β l w) (hL:L'=L.data k A c) (hp:l[i]?=some (.abs (ay (kV (bD O L) k bY.none)))) (hq:l[j]?=some (.blk (L.b k) cs T)) (hd:aZ (i::j::ix)=true) (hl:bF l ix=some l') (h0:(f (obj O k)).kind≠0) (hc:eU L' k (f (obj O k))=cs) (hT:je (f (obj O k)).kind=T):Sat β (.abs (ay (bD (aA O k f) L'))::l') w:=by
  refine h.oJ (a:=vW (L.b k) cs T) hp hq (fun _ _ h=>h) hd hl k (fun x hx=>?_) (by rw [q6,if_neg h0,hc,hT,Gh hL])
  rw [q8 hx,Ig hL hx,lX hx]
theorem Sat.Lz (h:Sat β l w) (hL:L'=L.data k A c) (hp:l[i]?=some (.abs (ay (kV (bq O L) k bY.none)))) (hq:l[j]?=some (.abs (aC 5 1 A n c xs))) (hd:aZ (i::j::ix)=true) (hl:bF l ix=some l') (h1:(f (obj O k)).kind=1) (hn:n=(f (obj O k)).data.length) (hx:xs=cA (f (obj O k)).data):Sat β (.abs (ay (bq (aA O k f) L'))::l') w:=by
  refine h.oJ hp hq (fun _ _ h=>h) hd hl k (fun x hx=>by rw [tH hx,Ih hL hx,lX hx]) ?_
  rw [pN (by rw [bB];exact h1),bB,Du hL,Dv hL,hn,hx]
end sat
end
section
open Go.RowKit Go.Maps ck aB
attribute [local irreducible] ak aK af ai
abbrev Nh (S:aH) (L:HL) (k:Nat):=(.abs (ay (kV (bq S.O L) k bY.none)):HP)
abbrev LA (A1:Option Addr) (S:aH) (k:Nat) (bs:List UInt8) (c2:Nat):=(.abs (aC 5 1 A1 (((obj S.O k).data++bs.take (aW S.X bs.length)).length) c2 (cA ((obj S.O k).data++bs.take (aW S.X bs.length)))):HP)
abbrev Gi (f:Nat) (m:Nat) (t) (S:aH) (L:HL) (k:Nat) (R:bY):=([pF f m t S.X,pI m L S.idx,pT t S.X.cH S.av L S.us,pO S.O L,Nh S L k,pE S.O L,.abs R]:List HP)
theorem Gj {β:Bs} (S:aH) (L:HL) (f m t:Nat) (hI:Inv S) (k:Nat) (hk:Live S.idx ⟨k,1⟩) (A:Option Addr) (c:Nat) (bs:List UInt8) (hA:cq β A bs) (hbl:bs.length<=1099511627776) (hbc:bs.length<=c) :
    Spec Tryz.prog β 78 #[vP f,vP (L.b k),.slice A (bs.length) (c)] (pA f m t L S) (fun v l=>∃ L2,v=.tuple #[vI (fH S k bs).1,vI (fH S k bs).2.1]/\l=(pA f m t L2 ((fH S k bs).2.2))):=by
 have hX:=hI.hX
 have hkk:(obj S.O k).kind=1:=hI.kind hk
 have Qf:((obj S.O k).data.length:Int)<=S.X.used:=hI.MU hk
 have hcB:=hI.cB
 refine Spec.enter Tryz.func78 rfl Tryz.ntmps78 (Nat.le_of_ble_eq_true rfl) (fun R=>?_)
 refine SR (gK 2 [] [] ?_)
 refine NN (af.seq (SR (gK 3 [(12,.bool (decide ((((bs.length:Nat):Int):Int)=(0:Int))))] [] ?_)))
 refine NN (af.aR (p:=(((bs.length:Nat):Int):Int)=(0:Int)) (fun _=>by kernel_rfl) (fun h12=>?_) (fun h12=>?_))
 ·have he:bs=[]:=List.eq_nil_of_length_eq_zero (by omega)
  refine SR (gK 2 [(6,vI 0),(7,vI 0)] [] ?_)
  refine NN (af.ret (ai.aj ?_))
  exact RT (.tuple #[vI 0,vI 0]) [0,1,2,3,4,5,6] (⟨L,by rw [show fH S k bs=(0,0,S) from if_pos he]<;>exact⟨rfl,rfl⟩⟩)
 have hlen:0 < bs.length:=by omega
 refine af.skip (NX (af.seq (af.bp (by kernel_rfl) (by kernel_rfl) ?_)))
 refine gQ 11 [(8,vI (S.X.cB - S.X.used))] [(4,a_ 0 f),(8,a_ 0 f),(9,p_ ⟨[],none,none,none,some (vI (S.X.cB - S.X.used))⟩ [(Value.int .i64 (IntKind.wrap .i64 (S.X.cB - S.X.used)))=(.int .i64 (S.X.cB - S.X.used))] ⟨aU (by omega) (by omega) (by omega),trivial⟩)] ?_
 refine NQ (NX (af.seq (SR ?_)))
 refine gK 2 [(24,.bool (decide ((S.X.cB - S.X.used:Int)<=(0:Int))))] [] ?_
 refine NN (af.aR (p:=(S.X.cB - S.X.used:Int)<=(0:Int)) (fun _=>by kernel_rfl) (fun wS=>?_) (fun wS=>?_))
 ·refine SR (gK 2 [(6,vI 0),(7,vI 176)] [] ?_)
  refine NN (af.ret (ai.aj ?_))
  exact RT (.tuple #[vI 0,vI 176]) [0,1,2,3,4,5,6] (⟨L,by rw [show fH S k bs=(0,176,S) from (if_neg (fun e=>by rw [e] at hlen;exact absurd hlen (by simp))).trans (if_pos wS)]<;>exact⟨rfl,rfl⟩⟩)
 refine af.skip (NX (SR (gK 4 [(28,vI (min ((bs.length:Nat):Int) (S.X.cB - S.X.used)))] [(3,p_ ⟨[],none,none,none,some (vI (min ((bs.length:Nat):Int) (S.X.cB - S.X.used)))⟩ [(Value.int .i64 (if S.X.cB - S.X.used < ((bs.length:Nat):Int) then S.X.cB - S.X.used else ((bs.length:Nat):Int)))=(.int .i64 (min ((bs.length:Nat):Int) (S.X.cB - S.X.used)))] ⟨congrArg (Value.int .i64) (Jw _ _),trivial⟩)] ?_)))
 refine ak.slot 28 (.int .i64 (min ((bs.length:Nat):Int) (S.X.cB - S.X.used))) (.int .i64 ↑(aW S.X bs.length)) (fun _=>by kernel_rfl) (congrArg (Value.int .i64) (Gf (by omega))) ?_
 refine gK 1 [(9,vI ↑(aW S.X bs.length))] [] ?_
 refine NN (af.seq ?_)
 have hwl:=Gg (X:=S.X) (n:=bs.length) (by omega)
 refine af.mem (cO:=(Gi f m t S L k R++[.abs (aC 5 1 (L.dA k) ((obj S.O k).data.length) (L.dC k) (cA (obj S.O k).data))])) (fun w hS=>hS.FB (i:=4) (k:=k) rfl hkk) ?_
 refine af.ct (S:=(Gi f m t S L k R)) [0,1,2,3,4,5,6,7,8,9,10,11] 8 [0,1,2,3,4,5,6] (by kernel_rfl) (by kernel_rfl) rfl (by kernel_rfl) ?_
 refine gR 0 [8,9,10,11] [(0,vP f),(1,vP (L.b k)),(9,vI ↑(aW S.X bs.length)),(29,vP (L.b k)),(33,.slice (L.dA k) ((obj S.O k).data.length) ((L.dC k))),(36,.slice A ((aW S.X bs.length)) (c))] [0,1,2,3,4,5,6,7] [(4,v_ 3 (Bd L hkk)),(7,p_ ⟨[],some (aW S.X bs.length),none,none,none⟩ [(((aW S.X bs.length):Nat):Int)=(((aW S.X bs.length):Nat):Int),(aW S.X bs.length)<=c] ⟨rfl,by omega,trivial⟩)] ?_
 refine aG.cut (ι:=(Option Addr)×Nat) (fr':=fun ((A1,c2):(Option Addr)×Nat)=>[(0,vP f),(1,vP (L.b k)),(9,vI ↑(aW S.X bs.length)),(29,vP (L.b k)),(37,.slice A1 (((obj S.O k).data++bs.take (aW S.X bs.length)).length) (c2))]) (hp':=fun ((A1,c2):(Option Addr)×Nat)=>(Gi f m t S L k R++[LA A1 S k bs c2])) [0,1,2,3,4,5,6] rfl rfl ?_ rfl (fun _=>by kernel_rfl) ?_
 ·refine ak.append 7 (d:=(some 37)) (t:=48) (e:=5) (z:=.int .u8 0) (size:=1) (bytes:=1) (n:=(obj S.O k).data.length) (cap:=(L.dC k)) (A:=(L.dA k)) (xs:=(cA (obj S.O k).data)) (s:=(.tmp 33)) (x:=(.tmp 36)) (ats:=#[48,48]) (A':=A) (m:=(aW S.X bs.length)) (c':=c) (news:=(cA (bs.take (aW S.X bs.length)))) (fun _=>by kernel_rfl) rfl (by kernel_rfl) (fun _=>by kernel_rfl) (fun _=>by kernel_rfl) Tryz.underlying48 (by kernel_rfl) rfl (by decide) (by rw [rP,List.length_take,Nat.min_eq_left hwl.1,Nat.mul_one]) (oe (bs.take (aW S.X bs.length))) ((hA.take (aW S.X bs.length)).src) (by unfold maxLen;omega) (by omega) (fun A1 c2=>?_)
  refine ak.dV 7 (p:=.abs (aC 5 1 A1 (((obj S.O k).data.length)+(aW S.X bs.length)) c2 ((cA (obj S.O k).data)++(cA (bs.take (aW S.X bs.length)))))) (p':=.abs (aC 5 1 A1 (((obj S.O k).data++bs.take (aW S.X bs.length)).length) c2 (cA ((obj S.O k).data++bs.take (aW S.X bs.length))))) (by kernel_rfl) (by rw [Es,List.length_append,List.length_take,Nat.min_eq_left hwl.1]) ?_
  refine ak.slot 37 (.slice A1 (((obj S.O k).data.length)+(aW S.X bs.length)) (c2)) (.slice A1 (((obj S.O k).data++bs.take (aW S.X bs.length)).length) (c2)) (fun _=>by kernel_rfl) (by rw [List.length_append,List.length_take,Nat.min_eq_left hwl.1]) ?_
  refine NL ?_
  exact MD (A1,c2) [0,1,9,29,37] [0,1,2,3,4,5,6,7]
 rintro⟨A1,c2⟩
 refine aG.cut (ι:=Unit) (fr':=fun (_:Unit)=>[(0,vP f),(1,vP (L.b k)),(9,vI ↑(aW S.X bs.length)),(37,.slice A1 (((obj S.O k).data++bs.take (aW S.X bs.length)).length) (c2)),(38,vP (L.b k))]) (hp':=fun (_:Unit)=>(Gi f m t S L k R++[LA A1 S k bs c2])) [0,1,2,3,4,5,6] rfl rfl ?_ rfl (fun _=>by kernel_rfl) ?_
 ·refine gK 1 [(38,vP (L.b k))] [] ?_
  refine NL ?_
  exact MD () [0,1,9,37,38] [0,1,2,3,4,5,6,7]
 rintro _
 refine aG.cut (ι:=Unit) (fr':=fun (_:Unit)=>[(0,vP f),(1,vP (L.b k)),(9,vI ↑(aW S.X bs.length)),(37,.slice A1 (((obj S.O k).data++bs.take (aW S.X bs.length)).length) (c2)),(39,.pointer (some ⟨(L.b k),9,none⟩))]) (hp':=fun (_:Unit)=>(Gi f m t S L k R++[LA A1 S k bs c2])) [0,1,2,3,4,5,6] rfl rfl ?_ rfl (fun _=>by kernel_rfl) ?_
 ·refine gK 1 [(39,.pointer (some ⟨(L.b k),9,none⟩))] [] ?_
  refine NL ?_
  exact MD () [0,1,9,37,39] [0,1,2,3,4,5,6,7]
 rintro _
 refine aG.last rfl rfl ?_
 refine ak.mem (fun w hS=>hS.tK (i:=3) (k:=k) rfl (by rw [hkk];decide) (fV (hkk)) (congrArg je (hkk))) ?_
 refine gC 1 [] [(0,a_ 8 (L.b k))] [(8,[(9,.slice A1 (((obj S.O k).data++bs.take (aW S.X bs.length)).length) (c2))])] ?_
 obtain⟨L2,hL2⟩:∃ L2:HL,L2=L.data k A1 c2:=⟨_,rfl⟩
 refine ak.mem (cO:=[.abs (ay (bD (aA S.O k (fun o=>{ o with data:=o.data++bs.take (aW S.X bs.length) })) L2)),.blk f [vI (S.X.cN),vI (S.X.cB),vI (S.X.cH),vI (S.X.cS),vI (S.X.cZ),.map (some m),vP t,vI (S.X.last),vI (S.X.ah),vI (S.X.used)] 66,.abs (aN Tryz.prog 3 m (aV (aT L S.idx)) S.idx.length),.abs (bH 110 t S.X.cH S.av (aT L S.us)),.abs (ay (kV (bq S.O L) k bY.none)),.abs (ay (cE S.O L)),.abs R,.abs (aC 5 1 A1 (((obj S.O k).data++bs.take (aW S.X bs.length)).length) c2 (cA ((obj S.O k).data++bs.take (aW S.X bs.length))))]) (fun w hS=>hS.Lx hL2 (f:=(fun o=>{ o with data:=o.data++bs.take (aW S.X bs.length) })) (i:=3) (j:=8) (ix:=[0,1,2,4,5,6,7]) rfl rfl (by kernel_rfl) rfl (by show (obj S.O k).kind≠0;rw [hkk];decide) ((fV (L:=L2) (k:=k) (o:=(fun o=>{ o with data:=o.data++bs.take (aW S.X bs.length) }) (obj S.O k)) hkk).trans (by rw [Du hL2,Dv hL2]<;>rfl)) (by show je (obj S.O k).kind=_;rw [hkk]<;>rfl)) ?_
 refine ak.mem (cO:=[pD (aA S.O k (fun o=>{ o with data:=o.data++bs.take (aW S.X bs.length) })) L2,pO (aA S.O k (fun o=>{ o with data:=o.data++bs.take (aW S.X bs.length) })) L2,pF f m t S.X,pI m L S.idx,pT t S.X.cH S.av L S.us,pE S.O L,.abs R]) (fun w hS=>hS.Lz hL2 (f:=(fun o=>{ o with data:=o.data++bs.take (aW S.X bs.length) })) (i:=4) (j:=7) (ix:=[0,1,2,3,5,6]) rfl rfl (by kernel_rfl) rfl hkk rfl rfl) ?_
 refine ak.cW [(3,.abs (aN Tryz.prog 3 m (aV (aT L2 S.idx)) S.idx.length)),(4,.abs (bH 110 t S.X.cH S.av (aT L2 S.us))),(5,.abs (ay (cE (aA S.O k (fun o=>{ o with data:=o.data++bs.take (aW S.X bs.length) })) L2)))] (fun w hS=>by rw [BJ hL2,BJ hL2,show cE (aA S.O k (fun o=>{ o with data:=o.data++bs.take (aW S.X bs.length) })) L2=cE S.O L from (kL (O:=S.O) (k:=k) (f:=(fun o=>{ o with data:=o.data++bs.take (aW S.X bs.length) })) rfl rfl).trans (Ie hL2)];exact hS) ?_
 have yC:(obj (aA S.O k (fun o=>{ o with data:=o.data++bs.take (aW S.X bs.length) })) k).kind=1:=(iD (f:=(fun o=>{ o with data:=o.data++bs.take (aW S.X bs.length) })) (fun _=>rfl)).trans hkk
 have hbk:L2.b k=L.b k:=Gh hL2
 generalize bJ:(aA S.O k (fun o=>{ o with data:=o.data++bs.take (aW S.X bs.length) }))=bR at yC ⊢
 refine NL (ai.np (NX (SR ?_)))
 refine gK 1 [(40,vP (L.b k))] [] ?_
 refine ak.slot 40 (vP (L.b k)) (vP (L2.b k)) (fun _=>by kernel_rfl) (by rw [hbk]) ?_
 refine gK 8 [(45,.agg #[vI (S.X.cS),vI (S.X.cZ)]),(48,.pointer (some ⟨(L2.b k),4,none⟩))] [(4,A_ 2 f 2)] ?_
 refine FE 1 [(5,1),(0,2)] k S.X.cS S.X.cZ yC (fun dx cM=>?_)
 have tM:=ku cM yC
 refine NS (gC 9 [] [(3,a_ 2 f),(5,p_ ⟨[],none,none,none,some (vI (S.X.used+(((aW S.X bs.length):Nat):Int)))⟩ [(Value.int .i64 (IntKind.wrap .i64 (S.X.used+(((aW S.X bs.length):Nat):Int))))=(.int .i64 (S.X.used+(((aW S.X bs.length):Nat):Int)))] ⟨aU (by omega) (by omega) (by omega),trivial⟩),(8,a_ 2 f)] [(2,[(9,vI (S.X.used+(((aW S.X bs.length):Nat):Int)))])] ?_)
 refine NS (gK 3 [(6,vI ↑(aW S.X bs.length)),(7,vI 0)] [] ?_)
 refine NN (af.ret ?_)
 exact RT (l:=[pF f m t { S.X with used:=S.X.used+(((aW S.X bs.length):Nat):Int) },pI m L2 S.idx,pT t S.X.cH S.av L2 S.us,pO dx L2,pD dx L2,pE dx L2]) (.tuple #[vI ↑(aW S.X bs.length),vI 0]) [2,3,4,1,0,5,6] (⟨L2,by subst cM;subst bJ;rw [show fH S k bs=_ from (if_neg (fun e=>by rw [e] at hlen;exact absurd hlen (by simp))).trans (if_neg wS)];exact⟨rfl,by rw [qq]⟩⟩)
end
section
open Go.RowKit Go.Maps ck aB
structure fI (β:Bs) (c:aQ):Prop where
  hw:(Lit.int .i64 c.handle).wf=true
  ow:(Lit.int .i64 c.other).wf=true
  nm:c.name.size<=1048576
  tx:c.text.size<=1048576
  da:cq β c.dA c.data
  dl:c.data.length<=1099511627776
  dc:c.data.length<=c.dC
section facts
variable {S:aH} {h:Int} {name:ByteArray} {need:Int} {t:Th} {c:aQ}
theorem jS (hI:Inv0 S) (h:Int) (name:ByteArray) (need:Int):(∃ e,cY S.O S.us h name need=.error e/\e≠0)\/∃ d,cY S.O S.us h name need=.ok d/\Live S.idx ⟨d,2⟩/\(obj S.O d).gone=false/\bI name/\aB.get S.us h=some ⟨d,2⟩:=by
  unfold cY
  cases e:aB.get S.us h with
  | none=>exact .inl ⟨131,rfl,by decide⟩
  | some t=>
    simp only
    split
    ·rename_i hk
     split
     ·exact .inl ⟨170,rfl,by decide⟩
     rename_i hg
     split
     ·rename_i hn
      split
      ·obtain⟨k,kd⟩:=t
       simp only at hk
       subst hk
       exact .inr ⟨k,rfl,(hI.us h _ e).1,by simpa using hg,hn,rfl⟩
      exact .inl ⟨175,rfl,by decide⟩
     exact .inl ⟨95,rfl,by decide⟩
    exact .inl ⟨173,rfl,by decide⟩
theorem xG (hI:Inv0 S) (c:aQ):(∃ e,fo S.O S.us c=.error e/\e≠0)\/(∃ k,fo S.O S.us c=.ok ⟨k,1⟩/\Live S.idx ⟨k,1⟩)\/(∃ k,fo S.O S.us c=.ok ⟨k,2⟩/\Live S.idx ⟨k,2⟩)\/∃ k,fo S.O S.us c=.ok ⟨k,3⟩/\Live S.idx ⟨k,3⟩:=by
  unfold fo
  rcases jS hI c.handle c.name 64 with ⟨e,h1,h2⟩|⟨d,h1,h2,_⟩
  ·rw [h1];exact .inl ⟨e,rfl,h2⟩
  rw [h1]
  simp only
  rcases hI.lD h2 c.name with h3|⟨k,h3,h4⟩|⟨k,h3,h4⟩|⟨k,h3,h4⟩
  ·rw [h3];exact .inl ⟨170,rfl,by decide⟩
  ·rw [h3];exact .inr (.inl ⟨k,rfl,h4⟩)
  ·rw [h3];exact .inr (.inr (.inl ⟨k,rfl,h4⟩))
  rw [h3];exact .inr (.inr (.inr ⟨k,rfl,h4⟩))
theorem BK {L:HL} {us:Used Th} {h:Int}:aT L (del h us)=del h (aT L us):=Dk (dh L) h us
theorem Dw {us:Used Th} {h:Int} (e:aB.get us h=some t):0 < hnd us t.k:=Nat.lt_of_lt_of_le (by simp) (jU (g:=fun p:Int×Th=>if p.2.k=t.k then 1 else 0) e)
theorem wk {L:HL}:bq (bK S t).2.2.O L=bq S.O L:=by
  by_cases h:(S.us.length:Int) < S.X.cH
  ·rw [iT h];exact pX (fun _=>cX (f:=fun o=>{ o with opens:=o.opens+1 }) (g:=aO.data) (fun _=>rfl)) (fun _=>iD (f:=fun o=>{ o with opens:=o.opens+1 }) (fun _=>rfl))
  rw [kr h]
theorem wm {L:HL}:cE (bK S t).2.2.O L=cE S.O L:=by
  by_cases h:(S.us.length:Int) < S.X.cH
  ·rw [iT h];exact kL (f:=fun o=>{ o with opens:=o.opens+1 }) rfl rfl
  rw [kr h]
theorem Ka:(iU S c).2.2.op=c.op:=by unfold iU;(repeat' split)<;>rfl
theorem Et:(eE S c).2.2.op=c.op:=by unfold eE;(repeat' split)<;>rfl
theorem CS:(d6 S c).2.2.op=c.op:=by unfold d6;(repeat' split)<;>rfl
theorem Eu:(fF S c).2.2.op=c.op:=by unfold fF;(repeat' split)<;>rfl
theorem CU:(dI S c).2.2.op=c.op:=by unfold dI;(repeat' split)<;>rfl
theorem BL:(fB S c).2.2.op=c.op:=by unfold fB;(repeat' split)<;>rfl
theorem Gl:(cx S c).2.2.op=c.op:=by unfold cx;(repeat' split)<;>rfl
theorem CV:(fY S c).2.2.op=c.op:=by unfold fY;(repeat' split)<;>rfl
theorem Ev:(gX S c).2.2.op=c.op:=by unfold gX;(repeat' split)<;>rfl
theorem CW:(eV S c).2.2.op=c.op:=by unfold eV;(repeat' split)<;>rfl
theorem Ew:(fR S c).2.2.op=c.op:=by unfold fR;(repeat' split)<;>rfl
theorem Ey:(bA S c).2.2.op=c.op:=by unfold bA;(repeat' split)<;>rfl
theorem Kb:(j3 S c).2.2.op=c.op:=by unfold j3;(repeat' split)<;>rfl
theorem Gm:(fS S c).2.2.op=c.op:=by unfold fS;(repeat' split)<;>rfl
theorem Ii:(iV S c).2.2.op=c.op:=by unfold iV;(repeat' split)<;>rfl
end facts
theorem Aa {S:aH} {c:aQ} (h:c.op=1):cK S c=iU S c:=by
  unfold cK
  simp [h]
theorem Ab {S:aH} {c:aQ} (h:c.op=2):cK S c=eE S c:=by
  unfold cK
  simp [h]
theorem Ez {S:aH} {c:aQ} (h:c.op=3):cK S c=d6 S c:=by
  unfold cK
  simp [h]
theorem Ac {S:aH} {c:aQ} (h:c.op=4):cK S c=fF S c:=by
  unfold cK
  simp [h]
theorem EA {S:aH} {c:aQ} (h:c.op=5):cK S c=dI S c:=by
  unfold cK
  simp [h]
theorem EB {S:aH} {c:aQ} (h:c.op=6):cK S c=fB S c:=by
  unfold cK
  simp [h]
theorem EC {S:aH} {c:aQ} (h:c.op=7):cK S c=cx S c:=by
  unfold cK
  simp [h]
theorem ED {S:aH} {c:aQ} (h:c.op=8):cK S c=fY S c:=by
  unfold cK
  simp [h]
theorem EF {S:aH} {c:aQ} (h:c.op=9):cK S c=fR S c:=by
  unfold cK
  simp [h]
theorem BM {S:aH} {c:aQ} (h:c.op=10):cK S c=bA S c:=by
  unfold cK
  simp [h]
theorem BN {S:aH} {c:aQ} (h:c.op=11):cK S c=j3 S c:=by
  unfold cK
  simp [h]
theorem BO {S:aH} {c:aQ} (h:c.op=12):cK S c=fS S c:=by
  unfold cK
  simp [h]
theorem BP {S:aH} {c:aQ} (h:c.op=13):cK S c=iV S c:=by
  unfold cK
  simp [h]
theorem BQ {S:aH} {c:aQ} (h:c.op=14):cK S c=gX S c:=by
  unfold cK
  simp [h]
theorem BR {S:aH} {c:aQ} (h:c.op=15):cK S c=eV S c:=by
  unfold cK
  simp [h]
theorem BS {S:aH} {c:aQ} (h:¬ (1<=c.op/\c.op<=15)):cK S c=(230,S,c):=by
  unfold cK
  repeat rw [if_neg (by omega)]
end
section
open Go.RowKit Go.Maps ck aB
attribute [local irreducible] ak aK af ai
abbrev kB (t)(S:aH) (L:HL):=(pT t S.X.cH S.av L S.us:HP)
abbrev l5 (m:Nat) (L:HL) (S:aH) (cb:Nat) (c) (R:bY):=([pI m L S.idx,pD S.O L,pE S.O L,pC cb c,.abs R]:List HP)
abbrev JE (f:Nat) (c:aQ):=([(8,vP f),(12,vI (c.handle)),(16,.string c.name)]:Fr)
abbrev BU (L:HL) (d:Nat):=([(5,vP (L.b d)),(6,vI 0)]:Fr)
abbrev LB (f:Nat) (L:HL) (d:Nat) (c:aQ):=([(23,vP f),(24,vP (L.b d)),(28,.string c.name)]:Fr)
abbrev mQ (f:Nat) (m:Nat) (t) (S:aH) (L:HL):=([pF f m t S.X,kB t S L,pO S.O L]:List HP)
abbrev Gn (e):=([(5,.pointer none),(6,vI (e))]:Fr)
theorem gh {β:Bs} (S:aH) (L:HL) (f m t:Nat) (hI:Inv S) (cb:Nat) (c:aQ) (hC:fI β c) :
    Spec Tryz.prog β 67 #[vP f,vP cb] ((pA f m t L S)++[pC cb c]) (fun v l=>v=N9 L (fo S.O S.us c)/\l=((pA f m t L S)++[pC cb c])):=by
 refine Spec.enter Tryz.func67 rfl Tryz.ntmps67 (Nat.le_of_ble_eq_true rfl) (fun R=>?_)
 refine SR (gK 2 [] [] ?_)
 refine NN (af.seq (af.bp (by kernel_rfl) (by kernel_rfl) ?_))
 refine gQ 9 [(10,vP f),(14,vI (c.handle)),(18,.string c.name)] [(4,a_ 6 cb),(8,a_ 6 cb)] ?_
 rcases jS hI.toInv0 c.handle c.name 64 with ⟨e,hab,hne⟩|⟨d,hab,hd,ji,jj,cT⟩
 ·refine aK.call (f:=68) (args:=#[vP f,vI (c.handle),.string c.name,vI 64]) (d:=(some 19)) (pre:=(mQ f m t S L)) (R:=(l5 m L S cb c R)) (pk:=[0,2,3,1,4,5,6,7]) (gq:=[0,3,1,2,4,5,6,7]) (v0:=.tuple #[.pointer none,vI (e)]) (fun _=>by kernel_rfl) ((by have h:=dz S L f m t hI c.handle hC.hw c.name hC.nm 64 (β:=β);rw [hab] at h;exact h)) rfl (by kernel_rfl) rfl (by kernel_rfl) (fun _ _ h=>h) ?_
  refine gQ 5 [(6,.pointer none),(7,vI (e))] [] ?_
  refine NQ (NX (af.seq (SR ?_)))
  refine gK 2 [(23,.bool (!(decide ((e:Int)=(0:Int)))))] [] ?_
  refine NN (af.cu (p:=(e:Int)=(0:Int)) (fun _=>by kernel_rfl) (fun h23=>?_) (fun h23=>?_))
  ·refine SR (gK 3 [(4,.nilIface),(5,vI (e))] [] ?_)
   refine NN (af.ret (ai.aj ?_))
   exact RT (.tuple #[.nilIface,vI (e)]) [0,1,2,3,4,5,6,7] (⟨by rw [show fo S.O S.us c=.error e by unfold fo;rw [hab]];rfl,rfl⟩)
  exact absurd h23 hne
 have hkd:(obj S.O d).kind=2:=hI.kind hd
 refine aK.call (f:=68) (args:=#[vP f,vI (c.handle),.string c.name,vI 64]) (d:=(some 19)) (pre:=(mQ f m t S L)) (R:=(l5 m L S cb c R)) (pk:=[0,2,3,1,4,5,6,7]) (gq:=[0,3,1,2,4,5,6,7]) (v0:=.tuple #[vP (L.b d),vI 0]) (fun _=>by kernel_rfl) ((by have h:=dz S L f m t hI c.handle hC.hw c.name hC.nm 64 (β:=β);rw [hab] at h;exact h)) rfl (by kernel_rfl) rfl (by kernel_rfl) (fun _ _ h=>h) ?_
 refine gQ 5 [(6,vP (L.b d)),(7,vI 0)] [] ?_
 refine NQ (NX (af.seq (SR ?_)))
 refine gK 2 [(23,.bool false)] [] ?_
 refine NN (CF (af.skip (NX (af.seq ?_))))
 have hel:(obj S.O d).ah.length<=8192:=hI.fq hd
 have MV:=hC.nm
 rcases hI.lD hd c.name with hlk|⟨tk,hlk,hlv⟩|⟨tk,hlk,hlv⟩|⟨tk,hlk,hlv⟩
 ·refine af.bp (by kernel_rfl) (by kernel_rfl) ?_
  refine gQ 8 [(28,.map (some (L.m d))),(32,.string c.name)] [(3,v_ 3 (br L hkd)),(7,a_ 6 cb)] ?_
  refine oz 5 hkd hlk ?_
  refine gQ 1 [(8,.nilIface)] [] ?_
  refine NQ (NX (af.seq (SR ?_)))
  refine gK 2 [(35,.bool true)] [] ?_
  refine NN (CT (SR (gK 2 [(4,.nilIface),(5,vI 170)] [] ?_)))
  refine NN (af.ret (ai.aj ?_))
  exact RT (.tuple #[.nilIface,vI 170]) [0,1,2,3,4,5,6,7] (⟨by rw [show fo S.O S.us c=.error 170 by unfold fo;rw [hab];simp only;rw [hlk]];rfl,rfl⟩)
 ·have hkt:(obj S.O tk).kind=1:=hI.kind hlv
  refine af.bp (by kernel_rfl) (by kernel_rfl) ?_
  refine gQ 8 [(28,.map (some (L.m d))),(32,.string c.name)] [(3,v_ 3 (br L hkd)),(7,a_ 6 cb)] ?_
  refine oz 5 hkd hlk ?_
  refine gQ 1 [(8,.iface 69 (vP (L.b tk)))] [] ?_
  refine NQ (NX (af.seq (SR ?_)))
  refine gK 2 [(35,.bool false)] [] ?_
  refine NN (CF (af.skip (NX (SR (gK 3 [(4,.iface 69 (vP (L.b tk))),(5,vI 0)] [] ?_)))))
  refine NN (af.ret ?_)
  exact RT (.tuple #[.iface 69 (vP (L.b tk)),vI 0]) [0,1,2,3,4,5,6,7] (⟨by rw [show fo S.O S.us c=.ok ⟨tk,1⟩ by unfold fo;rw [hab];simp only;rw [hlk]];rfl,rfl⟩)
 ·have hkt:(obj S.O tk).kind=2:=hI.kind hlv
  refine af.bp (by kernel_rfl) (by kernel_rfl) ?_
  refine gQ 8 [(28,.map (some (L.m d))),(32,.string c.name)] [(3,v_ 3 (br L hkd)),(7,a_ 6 cb)] ?_
  refine oz 5 hkd hlk ?_
  refine gQ 1 [(8,.iface 76 (vP (L.b tk)))] [] ?_
  refine NQ (NX (af.seq (SR ?_)))
  refine gK 2 [(35,.bool false)] [] ?_
  refine NN (CF (af.skip (NX (SR (gK 3 [(4,.iface 76 (vP (L.b tk))),(5,vI 0)] [] ?_)))))
  refine NN (af.ret ?_)
  exact RT (.tuple #[.iface 76 (vP (L.b tk)),vI 0]) [0,1,2,3,4,5,6,7] (⟨by rw [show fo S.O S.us c=.ok ⟨tk,2⟩ by unfold fo;rw [hab];simp only;rw [hlk]];rfl,rfl⟩)
 have hkt:(obj S.O tk).kind=3:=hI.kind hlv
 refine af.bp (by kernel_rfl) (by kernel_rfl) ?_
 refine gQ 8 [(28,.map (some (L.m d))),(32,.string c.name)] [(3,v_ 3 (br L hkd)),(7,a_ 6 cb)] ?_
 refine oz 5 hkd hlk ?_
 refine gQ 1 [(8,.iface 73 (vP (L.b tk)))] [] ?_
 refine NQ (NX (af.seq (SR ?_)))
 refine gK 2 [(35,.bool false)] [] ?_
 refine NN (CF (af.skip (NX (SR (gK 3 [(4,.iface 73 (vP (L.b tk))),(5,vI 0)] [] ?_)))))
 refine NN (af.ret ?_)
 exact RT (.tuple #[.iface 73 (vP (L.b tk)),vI 0]) [0,1,2,3,4,5,6,7] (⟨by rw [show fo S.O S.us c=.ok ⟨tk,3⟩ by unfold fo;rw [hab];simp only;rw [hlk]];rfl,rfl⟩)
theorem EG {β:Bs} (S:aH) (L:HL) (f m t:Nat) (hI:Inv S) (cb:Nat) (c:aQ) (hC:fI β c) :
    Spec Tryz.prog β 42 #[vP f,vP cb] ((pA f m t L S)++[pC cb c]) (fun v l=>∃ L2,v=vI (iU S c).1/\l=((pA f m t L2 ((iU S c).2.1))++[.blk cb (gM ((iU S c).2.2)) 50])):=by
 have hX:=hI.hX
 refine Spec.enter Tryz.func42 rfl Tryz.ntmps42 (Nat.le_of_ble_eq_true rfl) (fun R=>?_)
 refine SR (gK 1 [] [] ?_)
 refine NN (af.seq ?_)
 rcases hI.Ob c.other with d5|⟨tk,d5,hlv⟩|⟨tk,d5,hlv⟩|⟨tk,d5,hlv⟩
 ·refine af.bp (by kernel_rfl) (by kernel_rfl) ?_
  refine gQ 8 [(10,.map (some m)),(14,vI (c.other))] [(3,a_ 0 f),(7,a_ 6 cb)] ?_
  refine aK.eW 1 (d:=(some 15)) (t:=60) (K:=3) (E:=64) (b:=m) (n:=S.idx.length) (f:=(aV (aT L S.idx))) (x:=(.tmp 10)) (ix:=(.tmp 14)) (key:=.int .i64 (c.other)) (z:=.nilIface) (kl:=(.int .i64 c.other)) (r:=none) (fun _=>by kernel_rfl) (by kernel_rfl) (fun _=>by kernel_rfl) (fun _=>by kernel_rfl) dW Tryz.underlying60 (fun _=>by kernel_rfl) (jf hC.ow) (by rw [eX,d5];rfl) ?_
  refine gQ 1 [(5,.nilIface)] [] ?_
  refine NQ (NX (af.seq (SR ?_)))
  refine gK 2 [(17,.bool true)] [] ?_
  refine NN (CT (SR (gK 1 [(4,vI 141)] [] ?_)))
  refine NN (af.ret (ai.aj ?_))
  exact RT (vI 141) [0,1,2,3,4,5,6,7] (⟨L,by rw [show (iU S c)=(141,S,c) by unfold iU;rw [d5]]<;>exact⟨rfl,rfl⟩⟩)
 ·have hkt:(obj S.O tk).kind=1:=hI.kind hlv
  refine af.bp (by kernel_rfl) (by kernel_rfl) ?_
  refine gQ 8 [(10,.map (some m)),(14,vI (c.other))] [(3,a_ 0 f),(7,a_ 6 cb)] ?_
  refine aK.eW 1 (d:=(some 15)) (t:=60) (K:=3) (E:=64) (b:=m) (n:=S.idx.length) (f:=(aV (aT L S.idx))) (x:=(.tmp 10)) (ix:=(.tmp 14)) (key:=.int .i64 (c.other)) (z:=.nilIface) (kl:=(.int .i64 c.other)) (r:=(some (dh L ⟨tk,1⟩))) (fun _=>by kernel_rfl) (by kernel_rfl) (fun _=>by kernel_rfl) (fun _=>by kernel_rfl) dW Tryz.underlying60 (fun _=>by kernel_rfl) (jf hC.ow) (by rw [eX,d5];rfl) ?_
  refine gQ 1 [(5,.iface 69 (vP (L.b tk)))] [] ?_
  refine NQ (NX (af.seq (SR ?_)))
  refine gK 2 [(17,.bool false)] [] ?_
  refine NN (CF (af.skip (NX (af.seq (SR (gK 1 [(18,.iface 69 (vP (L.b tk)))] [] ?_))))))
  refine gL [] (kg (vP (L.b tk))) ?_
  rintro _ _ ⟨rfl,rfl⟩
  refine gK 1 [(20,.bool true)] [] ?_
  refine NN (CT (SR (gK 1 [(4,vI 173)] [] ?_)))
  refine NN (af.ret (ai.aj ?_))
  exact RT (vI 173) [0,1,2,3,4,5,6,7] (⟨L,by rw [show (iU S c)=(173,S,c) by unfold iU;rw [d5];exact if_neg (by simp)]<;>exact⟨rfl,rfl⟩⟩)
 ·have hkt:(obj S.O tk).kind=2:=hI.kind hlv
  refine af.bp (by kernel_rfl) (by kernel_rfl) ?_
  refine gQ 8 [(10,.map (some m)),(14,vI (c.other))] [(3,a_ 0 f),(7,a_ 6 cb)] ?_
  refine aK.eW 1 (d:=(some 15)) (t:=60) (K:=3) (E:=64) (b:=m) (n:=S.idx.length) (f:=(aV (aT L S.idx))) (x:=(.tmp 10)) (ix:=(.tmp 14)) (key:=.int .i64 (c.other)) (z:=.nilIface) (kl:=(.int .i64 c.other)) (r:=(some (dh L ⟨tk,2⟩))) (fun _=>by kernel_rfl) (by kernel_rfl) (fun _=>by kernel_rfl) (fun _=>by kernel_rfl) dW Tryz.underlying60 (fun _=>by kernel_rfl) (jf hC.ow) (by rw [eX,d5];rfl) ?_
  refine gQ 1 [(5,.iface 76 (vP (L.b tk)))] [] ?_
  refine NQ (NX (af.seq (SR ?_)))
  refine gK 2 [(17,.bool false)] [] ?_
  refine NN (CF (af.skip (NX (af.seq (SR (gK 1 [(18,.iface 76 (vP (L.b tk)))] [] ?_))))))
  refine gL [] (ko (vP (L.b tk))) ?_
  rintro _ _ ⟨rfl,rfl⟩
  refine gK 1 [(20,.bool false)] [] ?_
  refine NN (CF (af.skip (NX (SR (gK 1 [] [] ?_)))))
  refine NS (gK 3 [(22,vP cb),(23,vP f),(24,.iface 76 (vP (L.b tk)))] [] ?_)
  refine gL [0,2,3] (pW S L f m t ⟨tk,2⟩ hkt (by simp) (by have:=hI.zC hlv;simp only at this ⊢;omega)) ?_
  rintro _ _ ⟨rfl,rfl⟩
  refine gC 7 [(6,vI ((bK S ⟨tk,2⟩).2.1))] [(5,a_ 6 cb)] [(6,[(12,vI ((bK S ⟨tk,2⟩).1))])] ?_
  refine NS (ak.cW [(4,.abs (ay (bq ((bK S ⟨tk,2⟩).2.2.O) L))),(5,.abs (ay (cE ((bK S ⟨tk,2⟩).2.2.O) L)))] (fun w hS=>by rw [wk,wm];exact hS) ?_)
  refine gK 2 [(4,vI ((bK S ⟨tk,2⟩).2.1))] [] ?_
  refine NN (af.ret ?_)
  exact RT (vI ((bK S ⟨tk,2⟩).2.1)) [0,3,1,2,4,5,6,7] (⟨L,by rw [show (iU S c)=((bK S ⟨tk,2⟩).2.1,(bK S ⟨tk,2⟩).2.2,{ c with answer:=(bK S ⟨tk,2⟩).1 }) by unfold iU;rw [d5];exact if_pos rfl]<;>exact⟨rfl,rfl⟩⟩)
 have hkt:(obj S.O tk).kind=3:=hI.kind hlv
 refine af.bp (by kernel_rfl) (by kernel_rfl) ?_
 refine gQ 8 [(10,.map (some m)),(14,vI (c.other))] [(3,a_ 0 f),(7,a_ 6 cb)] ?_
 refine aK.eW 1 (d:=(some 15)) (t:=60) (K:=3) (E:=64) (b:=m) (n:=S.idx.length) (f:=(aV (aT L S.idx))) (x:=(.tmp 10)) (ix:=(.tmp 14)) (key:=.int .i64 (c.other)) (z:=.nilIface) (kl:=(.int .i64 c.other)) (r:=(some (dh L ⟨tk,3⟩))) (fun _=>by kernel_rfl) (by kernel_rfl) (fun _=>by kernel_rfl) (fun _=>by kernel_rfl) dW Tryz.underlying60 (fun _=>by kernel_rfl) (jf hC.ow) (by rw [eX,d5];rfl) ?_
 refine gQ 1 [(5,.iface 73 (vP (L.b tk)))] [] ?_
 refine NQ (NX (af.seq (SR ?_)))
 refine gK 2 [(17,.bool false)] [] ?_
 refine NN (CF (af.skip (NX (af.seq (SR (gK 1 [(18,.iface 73 (vP (L.b tk)))] [] ?_))))))
 refine gL [] (lH (vP (L.b tk))) ?_
 rintro _ _ ⟨rfl,rfl⟩
 refine gK 1 [(20,.bool true)] [] ?_
 refine NN (CT (SR (gK 1 [(4,vI 173)] [] ?_)))
 refine NN (af.ret (ai.aj ?_))
 exact RT (vI 173) [0,1,2,3,4,5,6,7] (⟨L,by rw [show (iU S c)=(173,S,c) by unfold iU;rw [d5];exact if_neg (by simp)]<;>exact⟨rfl,rfl⟩⟩)
theorem zR {β:Bs} (S:aH) (L:HL) (f m t:Nat) (hI:Inv S) (cb:Nat) (c:aQ) (hC:fI β c) :
    Spec Tryz.prog β 43 #[vP f,vP cb] ((pA f m t L S)++[pC cb c]) (fun v l=>∃ L2,v=vI (eE S c).1/\l=((pA f m t L2 ((eE S c).2.1))++[.blk cb (gM ((eE S c).2.2)) 50])):=by
 have hX:=hI.hX
 refine Spec.enter Tryz.func43 rfl Tryz.ntmps43 (Nat.le_of_ble_eq_true rfl) (fun R=>?_)
 refine SR (gK 1 [] [] ?_)
 refine NS (gK 2 [(8,vP f),(9,vP cb)] [] ?_)
 rcases xG hI.toInv0 c with ⟨e,hnm,hne⟩|⟨tk,hnm,hlv⟩|⟨tk,hnm,hlv⟩|⟨tk,hnm,hlv⟩
 ·refine gL (f:=67) (args:=#[vP f,vP cb]) (pre:=((pA f m t L S)++[pC cb c])) [0,1,2,3,4,5,6] ((by have h:=gh S L f m t hI cb c hC (β:=β);rw [hnm] at h;exact h)) ?_
  rintro _ _ ⟨rfl,rfl⟩
  refine gK 5 [(5,.nilIface),(6,vI (e))] [] ?_
  refine NN (af.seq (SR (gK 2 [(14,.bool (!(decide ((e:Int)=(0:Int)))))] [] ?_)))
  refine NN (af.cu (p:=(e:Int)=(0:Int)) (fun _=>by kernel_rfl) (fun fO=>?_) (fun fO=>?_))
  ·refine SR (gK 2 [(4,vI (e))] [] ?_)
   refine NN (af.ret (ai.aj ?_))
   exact RT (vI (e)) [0,1,2,3,4,5,6,7] (⟨L,by rw [show (eE S c)=(e,S,c) by unfold eE;rw [hnm]]<;>exact⟨rfl,rfl⟩⟩)
  exact absurd fO hne
 ·have hkt:(obj S.O tk).kind=1:=hI.kind hlv
  refine gL (f:=67) (args:=#[vP f,vP cb]) (pre:=((pA f m t L S)++[pC cb c])) [0,1,2,3,4,5,6] ((by have h:=gh S L f m t hI cb c hC (β:=β);rw [hnm] at h;exact h)) ?_
  rintro _ _ ⟨rfl,rfl⟩
  refine gK 5 [(5,.iface 69 (vP (L.b tk))),(6,vI 0)] [] ?_
  refine NN (af.seq (SR (gK 2 [(14,.bool false)] [] ?_)))
  refine NN (CF (af.skip (NX (af.seq (SR (gK 1 [(16,.iface 69 (vP (L.b tk)))] [] ?_))))))
  refine NN (af.block (SR ?_))
  refine gK 3 [(18,.bool false)] [] ?_
  refine NN (CF (SR (gK 3 [(21,.bool true)] [] ?_)))
  refine NN (CT (SR (gK 1 [(4,vI 173)] [] ?_)))
  refine NN (af.ret (ai.ax (ai.aj ?_)))
  exact RT (vI 173) [0,1,2,3,4,5,6,7] (⟨L,by rw [show (eE S c)=(173,S,c) by unfold eE;rw [hnm];exact (if_neg (by simp)).trans (if_pos rfl)]<;>exact⟨rfl,rfl⟩⟩)
 ·have hkt:(obj S.O tk).kind=2:=hI.kind hlv
  refine gL (f:=67) (args:=#[vP f,vP cb]) (pre:=((pA f m t L S)++[pC cb c])) [0,1,2,3,4,5,6] ((by have h:=gh S L f m t hI cb c hC (β:=β);rw [hnm] at h;exact h)) ?_
  rintro _ _ ⟨rfl,rfl⟩
  refine gK 5 [(5,.iface 76 (vP (L.b tk))),(6,vI 0)] [] ?_
  refine NN (af.seq (SR (gK 2 [(14,.bool false)] [] ?_)))
  refine NN (CF (af.skip (NX (af.seq (SR (gK 1 [(16,.iface 76 (vP (L.b tk)))] [] ?_))))))
  refine NN (af.block (SR ?_))
  refine gK 3 [(18,.bool false)] [] ?_
  refine NN (CF (SR (gK 3 [(21,.bool false)] [] ?_)))
  refine NN (CF (af.skip (ai.aF (NX (SR ?_)))))
  refine gK 3 [(24,vP cb),(25,vP f),(26,.iface 76 (vP (L.b tk)))] [] ?_
  refine gL [0,2,3] (pW S L f m t ⟨tk,2⟩ hkt (by simp) (by have:=hI.zC hlv;simp only at this ⊢;omega)) ?_
  rintro _ _ ⟨rfl,rfl⟩
  refine gC 7 [(6,vI ((bK S ⟨tk,2⟩).2.1))] [(5,a_ 6 cb)] [(6,[(12,vI ((bK S ⟨tk,2⟩).1))])] ?_
  refine NS (ak.cW [(4,.abs (ay (bq ((bK S ⟨tk,2⟩).2.2.O) L))),(5,.abs (ay (cE ((bK S ⟨tk,2⟩).2.2.O) L)))] (fun w hS=>by rw [wk,wm];exact hS) ?_)
  refine gK 2 [(4,vI ((bK S ⟨tk,2⟩).2.1))] [] ?_
  refine NN (af.ret ?_)
  exact RT (vI ((bK S ⟨tk,2⟩).2.1)) [0,3,1,2,4,5,6,7] (⟨L,by rw [show (eE S c)=((bK S ⟨tk,2⟩).2.1,(bK S ⟨tk,2⟩).2.2,{ c with answer:=(bK S ⟨tk,2⟩).1 }) by unfold eE;rw [hnm];exact (if_neg (by simp)).trans (if_neg (by simp))]<;>exact⟨rfl,rfl⟩⟩)
 have hkt:(obj S.O tk).kind=3:=hI.kind hlv
 refine gL (f:=67) (args:=#[vP f,vP cb]) (pre:=((pA f m t L S)++[pC cb c])) [0,1,2,3,4,5,6] ((by have h:=gh S L f m t hI cb c hC (β:=β);rw [hnm] at h;exact h)) ?_
 rintro _ _ ⟨rfl,rfl⟩
 refine gK 5 [(5,.iface 73 (vP (L.b tk))),(6,vI 0)] [] ?_
 refine NN (af.seq (SR (gK 2 [(14,.bool false)] [] ?_)))
 refine NN (CF (af.skip (NX (af.seq (SR (gK 1 [(16,.iface 73 (vP (L.b tk)))] [] ?_))))))
 refine NN (af.block (SR ?_))
 refine gK 3 [(18,.bool true)] [] ?_
 refine NN (CT (SR (gK 1 [(4,vI 174)] [] ?_)))
 refine NN (af.ret (ai.ax (ai.aj ?_)))
 exact RT (vI 174) [0,1,2,3,4,5,6,7] (⟨L,by rw [show (eE S c)=(174,S,c) by unfold eE;rw [hnm];exact if_pos rfl]<;>exact⟨rfl,rfl⟩⟩)
theorem yJ {β:Bs} (S:aH) (L:HL) (f m t:Nat) (hI:Inv S) (cb:Nat) (c:aQ) (hC:fI β c) :
    Spec Tryz.prog β 44 #[vP f,vP cb] ((pA f m t L S)++[pC cb c]) (fun v l=>∃ L2,v=vI (d6 S c).1/\l=((pA f m t L2 ((d6 S c).2.1))++[.blk cb (gM ((d6 S c).2.2)) 50])):=by
 have hX:=hI.hX
 refine Spec.enter Tryz.func44 rfl Tryz.ntmps44 (Nat.le_of_ble_eq_true rfl) (fun R=>?_)
 refine SR (gK 1 [] [] ?_)
 refine NS (gK 2 [(8,vP f),(9,vP cb)] [] ?_)
 rcases xG hI.toInv0 c with ⟨e,hnm,hne⟩|⟨tk,hnm,hlv⟩|⟨tk,hnm,hlv⟩|⟨tk,hnm,hlv⟩
 ·refine gL (f:=67) (args:=#[vP f,vP cb]) (pre:=((pA f m t L S)++[pC cb c])) [0,1,2,3,4,5,6] ((by have h:=gh S L f m t hI cb c hC (β:=β);rw [hnm] at h;exact h)) ?_
  rintro _ _ ⟨rfl,rfl⟩
  refine gK 5 [(5,.nilIface),(6,vI (e))] [] ?_
  refine NN (af.seq (SR (gK 2 [(14,.bool (!(decide ((e:Int)=(0:Int)))))] [] ?_)))
  refine NN (af.cu (p:=(e:Int)=(0:Int)) (fun _=>by kernel_rfl) (fun fO=>?_) (fun fO=>?_))
  ·refine SR (gK 2 [(4,vI (e))] [] ?_)
   refine NN (af.ret (ai.aj ?_))
   exact RT (vI (e)) [0,1,2,3,4,5,6,7] (⟨L,by rw [show (d6 S c)=(e,S,c) by unfold d6;rw [hnm]]<;>exact⟨rfl,rfl⟩⟩)
  exact absurd fO hne
 ·have hkt:(obj S.O tk).kind=1:=hI.kind hlv
  refine gL (f:=67) (args:=#[vP f,vP cb]) (pre:=((pA f m t L S)++[pC cb c])) [0,1,2,3,4,5,6] ((by have h:=gh S L f m t hI cb c hC (β:=β);rw [hnm] at h;exact h)) ?_
  rintro _ _ ⟨rfl,rfl⟩
  refine gK 5 [(5,.iface 69 (vP (L.b tk))),(6,vI 0)] [] ?_
  refine NN (af.seq (SR (gK 2 [(14,.bool false)] [] ?_)))
  refine NN (CF (af.skip (NX (af.seq (SR (gK 1 [(16,.iface 69 (vP (L.b tk)))] [] ?_))))))
  refine NN (af.block (SR ?_))
  refine gK 3 [(18,.bool false)] [] ?_
  refine NN (CF (SR (gK 3 [(21,.bool false)] [] ?_)))
  refine NN (CF (af.skip (ai.aF (NX (SR ?_)))))
  refine gK 3 [(24,vP cb),(25,vP f),(26,.iface 69 (vP (L.b tk)))] [] ?_
  refine gL [0,2,3] (pW S L f m t ⟨tk,1⟩ hkt (by simp) (by have:=hI.zC hlv;simp only at this ⊢;omega)) ?_
  rintro _ _ ⟨rfl,rfl⟩
  refine gC 7 [(6,vI ((bK S ⟨tk,1⟩).2.1))] [(5,a_ 6 cb)] [(6,[(12,vI ((bK S ⟨tk,1⟩).1))])] ?_
  refine NS (ak.cW [(4,.abs (ay (bq ((bK S ⟨tk,1⟩).2.2.O) L))),(5,.abs (ay (cE ((bK S ⟨tk,1⟩).2.2.O) L)))] (fun w hS=>by rw [wk,wm];exact hS) ?_)
  refine gK 2 [(4,vI ((bK S ⟨tk,1⟩).2.1))] [] ?_
  refine NN (af.ret ?_)
  exact RT (vI ((bK S ⟨tk,1⟩).2.1)) [0,3,1,2,4,5,6,7] (⟨L,by rw [show (d6 S c)=((bK S ⟨tk,1⟩).2.1,(bK S ⟨tk,1⟩).2.2,{ c with answer:=(bK S ⟨tk,1⟩).1 }) by unfold d6;rw [hnm];exact (if_neg (by simp)).trans (if_neg (by simp))]<;>exact⟨rfl,rfl⟩⟩)
 ·have hkt:(obj S.O tk).kind=2:=hI.kind hlv
  refine gL (f:=67) (args:=#[vP f,vP cb]) (pre:=((pA f m t L S)++[pC cb c])) [0,1,2,3,4,5,6] ((by have h:=gh S L f m t hI cb c hC (β:=β);rw [hnm] at h;exact h)) ?_
  rintro _ _ ⟨rfl,rfl⟩
  refine gK 5 [(5,.iface 76 (vP (L.b tk))),(6,vI 0)] [] ?_
  refine NN (af.seq (SR (gK 2 [(14,.bool false)] [] ?_)))
  refine NN (CF (af.skip (NX (af.seq (SR (gK 1 [(16,.iface 76 (vP (L.b tk)))] [] ?_))))))
  refine NN (af.block (SR ?_))
  refine gK 3 [(18,.bool false)] [] ?_
  refine NN (CF (SR (gK 3 [(21,.bool true)] [] ?_)))
  refine NN (CT (SR (gK 1 [(4,vI 172)] [] ?_)))
  refine NN (af.ret (ai.ax (ai.aj ?_)))
  exact RT (vI 172) [0,1,2,3,4,5,6,7] (⟨L,by rw [show (d6 S c)=(172,S,c) by unfold d6;rw [hnm];exact (if_neg (by simp)).trans (if_pos rfl)]<;>exact⟨rfl,rfl⟩⟩)
 have hkt:(obj S.O tk).kind=3:=hI.kind hlv
 refine gL (f:=67) (args:=#[vP f,vP cb]) (pre:=((pA f m t L S)++[pC cb c])) [0,1,2,3,4,5,6] ((by have h:=gh S L f m t hI cb c hC (β:=β);rw [hnm] at h;exact h)) ?_
 rintro _ _ ⟨rfl,rfl⟩
 refine gK 5 [(5,.iface 73 (vP (L.b tk))),(6,vI 0)] [] ?_
 refine NN (af.seq (SR (gK 2 [(14,.bool false)] [] ?_)))
 refine NN (CF (af.skip (NX (af.seq (SR (gK 1 [(16,.iface 73 (vP (L.b tk)))] [] ?_))))))
 refine NN (af.block (SR ?_))
 refine gK 3 [(18,.bool true)] [] ?_
 refine NN (CT (SR (gK 1 [(4,vI 174)] [] ?_)))
 refine NN (af.ret (ai.ax (ai.aj ?_)))
 exact RT (vI 174) [0,1,2,3,4,5,6,7] (⟨L,by rw [show (d6 S c)=(174,S,c) by unfold d6;rw [hnm];exact if_pos rfl]<;>exact⟨rfl,rfl⟩⟩)
theorem CX {β:Bs} (S:aH) (L:HL) (f m t:Nat) (hI:Inv S) (cb:Nat) (c:aQ) (hC:fI β c) :
    Spec Tryz.prog β 45 #[vP f,vP cb] ((pA f m t L S)++[pC cb c]) (fun v l=>∃ L2,v=vI (fF S c).1/\l=((pA f m t L2 ((fF S c).2.1))++[.blk cb (gM ((fF S c).2.2)) 50])):=by
 have hX:=hI.hX
 refine Spec.enter Tryz.func45 rfl Tryz.ntmps45 (Nat.le_of_ble_eq_true rfl) (fun R=>?_)
 refine SR (gK 1 [] [] ?_)
 refine NN (af.seq (af.bp (by kernel_rfl) (by kernel_rfl) ?_))
 refine gQ 9 (JE f c) [(4,a_ 6 cb),(8,a_ 6 cb)] ?_
 rcases jS hI.toInv0 c.handle c.name 192 with ⟨e,hab,hne⟩|⟨d,hab,hd,ji,jj,cT⟩
 ·refine aK.call (f:=68) (args:=#[vP f,vI (c.handle),.string c.name,vI 192]) (d:=(some 17)) (pre:=(mQ f m t S L)) (R:=(l5 m L S cb c R)) (pk:=[0,2,3,1,4,5,6,7]) (gq:=[0,3,1,2,4,5,6,7]) (v0:=.tuple #[.pointer none,vI (e)]) (fun _=>by kernel_rfl) ((by have h:=dz S L f m t hI c.handle hC.hw c.name hC.nm 192 (β:=β);rw [hab] at h;exact h)) rfl (by kernel_rfl) rfl (by kernel_rfl) (fun _ _ h=>h) ?_
  refine gQ 5 (Gn e) [] ?_
  refine NQ (NX (af.seq (SR ?_)))
  refine gK 2 [(21,.bool (!(decide ((e:Int)=(0:Int)))))] [] ?_
  refine NN (af.cu (p:=(e:Int)=(0:Int)) (fun _=>by kernel_rfl) (fun rF=>?_) (fun rF=>?_))
  ·refine SR (gK 2 [(4,vI (e))] [] ?_)
   refine NN (af.ret (ai.aj ?_))
   exact RT (vI (e)) [0,1,2,3,4,5,6,7] (⟨L,by rw [show (fF S c)=(e,S,c) by unfold fF;rw [hab]]<;>exact⟨rfl,rfl⟩⟩)
  exact absurd rF hne
 have hkd:(obj S.O d).kind=2:=hI.kind hd
 refine aK.call (f:=68) (args:=#[vP f,vI (c.handle),.string c.name,vI 192]) (d:=(some 17)) (pre:=(mQ f m t S L)) (R:=(l5 m L S cb c R)) (pk:=[0,2,3,1,4,5,6,7]) (gq:=[0,3,1,2,4,5,6,7]) (v0:=.tuple #[vP (L.b d),vI 0]) (fun _=>by kernel_rfl) ((by have h:=dz S L f m t hI c.handle hC.hw c.name hC.nm 192 (β:=β);rw [hab] at h;exact h)) rfl (by kernel_rfl) rfl (by kernel_rfl) (fun _ _ h=>h) ?_
 refine gQ 5 (BU L d) [] ?_
 refine NQ (NX (af.seq (SR ?_)))
 refine gK 2 [(21,.bool false)] [] ?_
 refine NN (CF (af.skip (NX (af.seq (SR (gK 4 [(26,vI (c.mode))] [(3,a_ 6 cb)] ?_))))))
 refine gL [] (ef (c.mode) 4095) ?_
 rintro _ _ ⟨rfl,rfl⟩
 refine gK 1 [(28,.bool (!(decide (0<=c.mode/\c.mode<=4095))))] [] ?_
 refine NN (af.cu (p:=0<=c.mode/\c.mode<=4095) (fun _=>by kernel_rfl) (fun Fs=>?_) (fun Fs=>?_))
 ·refine SR (gK 1 [(4,vI 120)] [] ?_)
  refine NN (af.ret (ai.aj ?_))
  exact RT (vI 120) [0,1,2,3,4,5,6,7] (⟨L,by rw [show (fF S c)=(120,S,c) by unfold fF;rw [hab];exact if_neg Fs]<;>exact⟨rfl,rfl⟩⟩)
 refine af.skip (NX (af.seq (af.ct (S:=[pC cb c]) [0,1,2,3,4,5,6,7,8,9,10,11] 10 [6] (by kernel_rfl) (by kernel_rfl) rfl (by kernel_rfl) ?_)))
 refine gR 0 [10,11] [(29,vP f),(30,vP (L.b d)),(34,.string c.name),(38,vI (c.mode))] [0,1,2,3,4,5,6,7,8,9] [(5,a_ 0 cb),(9,a_ 0 cb)] ?_
 refine mL [6] [0,1,2,3,4,5] (Gb S L f m t hI d hd c.name hC.nm c.mode) ?_ (by rintro _ _ ⟨L2,rfl,rfl⟩;rfl)
 rintro _ _ ⟨L2,rfl,rfl⟩
 refine aG.last rfl rfl ?_
 refine gK 1 [(4,vI ((iF S d c.name c.mode).1))] [] ?_
 refine NL (ai.np (NX (af.ret ?_)))
 exact RT (vI ((iF S d c.name c.mode).1)) [0,1,2,3,4,5,6,7] (⟨L2,by rw [show (fF S c)=((iF S d c.name c.mode).1,(iF S d c.name c.mode).2,c) by unfold fF;rw [hab];exact if_pos Fs]<;>exact⟨rfl,rfl⟩⟩)
theorem zS {β:Bs} (S:aH) (L:HL) (f m t:Nat) (hI:Inv S) (cb:Nat) (c:aQ) (hC:fI β c) :
    Spec Tryz.prog β 47 #[vP f,vP cb] ((pA f m t L S)++[pC cb c]) (fun v l=>∃ L2,v=vI (fB S c).1/\l=((pA f m t L2 ((fB S c).2.1))++[.blk cb (gM ((fB S c).2.2)) 50])):=by
 have hX:=hI.hX
 refine Spec.enter Tryz.func47 rfl Tryz.ntmps47 (Nat.le_of_ble_eq_true rfl) (fun R=>?_)
 refine SR (gK 1 [] [] ?_)
 refine NN (af.seq (af.bp (by kernel_rfl) (by kernel_rfl) ?_))
 refine gQ 9 (JE f c) [(4,a_ 6 cb),(8,a_ 6 cb)] ?_
 rcases jS hI.toInv0 c.handle c.name 192 with ⟨e,hab,hne⟩|⟨d,hab,hd,ji,jj,cT⟩
 ·refine aK.call (f:=68) (args:=#[vP f,vI (c.handle),.string c.name,vI 192]) (d:=(some 17)) (pre:=(mQ f m t S L)) (R:=(l5 m L S cb c R)) (pk:=[0,2,3,1,4,5,6,7]) (gq:=[0,3,1,2,4,5,6,7]) (v0:=.tuple #[.pointer none,vI (e)]) (fun _=>by kernel_rfl) ((by have h:=dz S L f m t hI c.handle hC.hw c.name hC.nm 192 (β:=β);rw [hab] at h;exact h)) rfl (by kernel_rfl) rfl (by kernel_rfl) (fun _ _ h=>h) ?_
  refine gQ 5 (Gn e) [] ?_
  refine NQ (NX (af.seq (SR ?_)))
  refine gK 2 [(21,.bool (!(decide ((e:Int)=(0:Int)))))] [] ?_
  refine NN (af.cu (p:=(e:Int)=(0:Int)) (fun _=>by kernel_rfl) (fun rF=>?_) (fun rF=>?_))
  ·refine SR (gK 2 [(4,vI (e))] [] ?_)
   refine NN (af.ret (ai.aj ?_))
   exact RT (vI (e)) [0,1,2,3,4,5,6,7] (⟨L,by rw [show (fB S c)=(e,S,c) by unfold fB;rw [hab]]<;>exact⟨rfl,rfl⟩⟩)
  exact absurd rF hne
 have hkd:(obj S.O d).kind=2:=hI.kind hd
 refine aK.call (f:=68) (args:=#[vP f,vI (c.handle),.string c.name,vI 192]) (d:=(some 17)) (pre:=(mQ f m t S L)) (R:=(l5 m L S cb c R)) (pk:=[0,2,3,1,4,5,6,7]) (gq:=[0,3,1,2,4,5,6,7]) (v0:=.tuple #[vP (L.b d),vI 0]) (fun _=>by kernel_rfl) ((by have h:=dz S L f m t hI c.handle hC.hw c.name hC.nm 192 (β:=β);rw [hab] at h;exact h)) rfl (by kernel_rfl) rfl (by kernel_rfl) (fun _ _ h=>h) ?_
 refine gQ 5 (BU L d) [] ?_
 refine NQ (NX (af.seq (SR ?_)))
 refine gK 2 [(21,.bool false)] [] ?_
 refine NN (CF (af.skip (NX (af.seq (af.ct (S:=[pC cb c]) [0,1,2,3,4,5,6,7,8,9,10,11] 10 [6] (by kernel_rfl) (by kernel_rfl) rfl (by kernel_rfl) ?_)))))
 refine gR 0 [10,11] (LB f L d c++[(32,.string c.text)]) [0,1,2,3,4,5,6,7,8,9] [(5,a_ 0 cb),(9,a_ 0 cb)] ?_
 refine mL [6] [0,1,2,3,4,5] (CQ S L f m t hI d hd c.name hC.nm c.text hC.tx) ?_ (by rintro _ _ ⟨L2,rfl,rfl⟩;rfl)
 rintro _ _ ⟨L2,rfl,rfl⟩
 refine aG.last rfl rfl ?_
 refine gK 1 [(4,vI ((fD S d c.name c.text).1))] [] ?_
 refine NL (ai.np (NX (af.ret ?_)))
 exact RT (vI ((fD S d c.name c.text).1)) [0,1,2,3,4,5,6,7] (⟨L2,by rw [show (fB S c)=((fD S d c.name c.text).1,(fD S d c.name c.text).2,c) by unfold fB;rw [hab]]<;>exact⟨rfl,rfl⟩⟩)
theorem BV {β:Bs} (S:aH) (L:HL) (f m t:Nat) (hI:Inv S) (cb:Nat) (c:aQ) (hC:fI β c) :
    Spec Tryz.prog β 49 #[vP f,vP cb] ((pA f m t L S)++[pC cb c]) (fun v l=>∃ L2,v=vI (fY S c).1/\l=((pA f m t L2 ((fY S c).2.1))++[.blk cb (gM ((fY S c).2.2)) 50])):=by
 have hX:=hI.hX
 refine Spec.enter Tryz.func49 rfl Tryz.ntmps49 (Nat.le_of_ble_eq_true rfl) (fun R=>?_)
 refine SR (gK 1 [] [] ?_)
 refine NN (af.seq (af.bp (by kernel_rfl) (by kernel_rfl) ?_))
 refine gQ 9 (JE f c) [(4,a_ 6 cb),(8,a_ 6 cb)] ?_
 rcases jS hI.toInv0 c.handle c.name 192 with ⟨e,hab,hne⟩|⟨d,hab,hd,ji,jj,cT⟩
 ·refine aK.call (f:=68) (args:=#[vP f,vI (c.handle),.string c.name,vI 192]) (d:=(some 17)) (pre:=(mQ f m t S L)) (R:=(l5 m L S cb c R)) (pk:=[0,2,3,1,4,5,6,7]) (gq:=[0,3,1,2,4,5,6,7]) (v0:=.tuple #[.pointer none,vI (e)]) (fun _=>by kernel_rfl) ((by have h:=dz S L f m t hI c.handle hC.hw c.name hC.nm 192 (β:=β);rw [hab] at h;exact h)) rfl (by kernel_rfl) rfl (by kernel_rfl) (fun _ _ h=>h) ?_
  refine gQ 5 (Gn e) [] ?_
  refine NQ (NX (af.seq (SR ?_)))
  refine gK 2 [(21,.bool (!(decide ((e:Int)=(0:Int)))))] [] ?_
  refine NN (af.cu (p:=(e:Int)=(0:Int)) (fun _=>by kernel_rfl) (fun rF=>?_) (fun rF=>?_))
  ·refine SR (gK 2 [(4,vI (e))] [] ?_)
   refine NN (af.ret (ai.aj ?_))
   exact RT (vI (e)) [0,1,2,3,4,5,6,7] (⟨L,by rw [show (fY S c)=(e,S,c) by unfold fY;rw [hab]]<;>exact⟨rfl,rfl⟩⟩)
  exact absurd rF hne
 have hkd:(obj S.O d).kind=2:=hI.kind hd
 refine aK.call (f:=68) (args:=#[vP f,vI (c.handle),.string c.name,vI 192]) (d:=(some 17)) (pre:=(mQ f m t S L)) (R:=(l5 m L S cb c R)) (pk:=[0,2,3,1,4,5,6,7]) (gq:=[0,3,1,2,4,5,6,7]) (v0:=.tuple #[vP (L.b d),vI 0]) (fun _=>by kernel_rfl) ((by have h:=dz S L f m t hI c.handle hC.hw c.name hC.nm 192 (β:=β);rw [hab] at h;exact h)) rfl (by kernel_rfl) rfl (by kernel_rfl) (fun _ _ h=>h) ?_
 refine gQ 5 (BU L d) [] ?_
 refine NQ (NX (af.seq (SR ?_)))
 refine gK 2 [(21,.bool false)] [] ?_
 refine NN (CF (af.skip (NX (SR (gK 6 (LB f L d c) [(5,a_ 6 cb)] ?_)))))
 refine gL [0,1,2,3,4,5] (El S L f m t hI d hd c.name hC.nm) ?_
 rintro _ _ ⟨L2,rfl,rfl⟩
 refine gK 1 [(4,vI ((ez S d c.name).1))] [] ?_
 refine NN (af.ret ?_)
 exact RT (vI ((ez S d c.name).1)) [0,1,2,3,4,5,6,7] (⟨L2,by rw [show (fY S c)=((ez S d c.name).1,(ez S d c.name).2,c) by unfold fY;rw [hab]]<;>exact⟨rfl,rfl⟩⟩)
theorem CY {β:Bs} (S:aH) (L:HL) (f m t:Nat) (hI:Inv S) (cb:Nat) (c:aQ) (hC:fI β c) :
    Spec Tryz.prog β 55 #[vP f,vP cb] ((pA f m t L S)++[pC cb c]) (fun v l=>∃ L2,v=vI (gX S c).1/\l=((pA f m t L2 ((gX S c).2.1))++[.blk cb (gM ((gX S c).2.2)) 50])):=by
 have hX:=hI.hX
 refine Spec.enter Tryz.func55 rfl Tryz.ntmps55 (Nat.le_of_ble_eq_true rfl) (fun R=>?_)
 refine SR (gK 1 [] [] ?_)
 refine NN (af.seq (af.bp (by kernel_rfl) (by kernel_rfl) ?_))
 refine gQ 9 (JE f c) [(4,a_ 6 cb),(8,a_ 6 cb)] ?_
 rcases jS hI.toInv0 c.handle c.name 192 with ⟨e,hab,hne⟩|⟨d,hab,hd,ji,jj,cT⟩
 ·refine aK.call (f:=68) (args:=#[vP f,vI (c.handle),.string c.name,vI 192]) (d:=(some 17)) (pre:=(mQ f m t S L)) (R:=(l5 m L S cb c R)) (pk:=[0,2,3,1,4,5,6,7]) (gq:=[0,3,1,2,4,5,6,7]) (v0:=.tuple #[.pointer none,vI (e)]) (fun _=>by kernel_rfl) ((by have h:=dz S L f m t hI c.handle hC.hw c.name hC.nm 192 (β:=β);rw [hab] at h;exact h)) rfl (by kernel_rfl) rfl (by kernel_rfl) (fun _ _ h=>h) ?_
  refine gQ 5 (Gn e) [] ?_
  refine NQ (NX (af.seq (SR ?_)))
  refine gK 2 [(21,.bool (!(decide ((e:Int)=(0:Int)))))] [] ?_
  refine NN (af.cu (p:=(e:Int)=(0:Int)) (fun _=>by kernel_rfl) (fun rF=>?_) (fun rF=>?_))
  ·refine SR (gK 2 [(4,vI (e))] [] ?_)
   refine NN (af.ret (ai.aj ?_))
   exact RT (vI (e)) [0,1,2,3,4,5,6,7] (⟨L,by rw [show (gX S c)=(e,S,c) by unfold gX;rw [hab]]<;>exact⟨rfl,rfl⟩⟩)
  exact absurd rF hne
 have hkd:(obj S.O d).kind=2:=hI.kind hd
 refine aK.call (f:=68) (args:=#[vP f,vI (c.handle),.string c.name,vI 192]) (d:=(some 17)) (pre:=(mQ f m t S L)) (R:=(l5 m L S cb c R)) (pk:=[0,2,3,1,4,5,6,7]) (gq:=[0,3,1,2,4,5,6,7]) (v0:=.tuple #[vP (L.b d),vI 0]) (fun _=>by kernel_rfl) ((by have h:=dz S L f m t hI c.handle hC.hw c.name hC.nm 192 (β:=β);rw [hab] at h;exact h)) rfl (by kernel_rfl) rfl (by kernel_rfl) (fun _ _ h=>h) ?_
 refine gQ 5 (BU L d) [] ?_
 refine NQ (NX (af.seq (SR ?_)))
 refine gK 2 [(21,.bool false)] [] ?_
 refine NN (CF (af.skip (NX (SR (gK 6 (LB f L d c) [(5,a_ 6 cb)] ?_)))))
 refine gL [0,1,2,3,4,5] (Gc S L f m t hI d hd c.name hC.nm) ?_
 rintro _ _ ⟨L2,rfl,rfl⟩
 refine gK 1 [(4,vI ((eS S d c.name).1))] [] ?_
 refine NN (af.ret ?_)
 exact RT (vI ((eS S d c.name).1)) [0,1,2,3,4,5,6,7] (⟨L2,by rw [show (gX S c)=((eS S d c.name).1,(eS S d c.name).2,c) by unfold gX;rw [hab]]<;>exact⟨rfl,rfl⟩⟩)
theorem BW {β:Bs} (S:aH) (L:HL) (f m t:Nat) (hI:Inv S) (cb:Nat) (c:aQ) (hC:fI β c) :
    Spec Tryz.prog β 56 #[vP f,vP cb] ((pA f m t L S)++[pC cb c]) (fun v l=>∃ L2,v=vI (eV S c).1/\l=((pA f m t L2 ((eV S c).2.1))++[.blk cb (gM ((eV S c).2.2)) 50])):=by
 have hX:=hI.hX
 refine Spec.enter Tryz.func56 rfl Tryz.ntmps56 (Nat.le_of_ble_eq_true rfl) (fun R=>?_)
 refine SR (gK 1 [] [] ?_)
 refine NN (af.seq (af.bp (by kernel_rfl) (by kernel_rfl) ?_))
 refine gQ 9 [(9,vP f),(13,vI (c.handle)),(17,.string c.name)] [(4,a_ 6 cb),(8,a_ 6 cb)] ?_
 rcases jS hI.toInv0 c.handle c.name 192 with ⟨e,hab,hne⟩|⟨d,hab,hd,ji,jj,cT⟩
 ·refine aK.call (f:=68) (args:=#[vP f,vI (c.handle),.string c.name,vI 192]) (d:=(some 18)) (pre:=(mQ f m t S L)) (R:=(l5 m L S cb c R)) (pk:=[0,2,3,1,4,5,6,7]) (gq:=[0,3,1,2,4,5,6,7]) (v0:=.tuple #[.pointer none,vI (e)]) (fun _=>by kernel_rfl) ((by have h:=dz S L f m t hI c.handle hC.hw c.name hC.nm 192 (β:=β);rw [hab] at h;exact h)) rfl (by kernel_rfl) rfl (by kernel_rfl) (fun _ _ h=>h) ?_
  refine gQ 5 (Gn e) [] ?_
  refine NQ (NX (af.seq (SR ?_)))
  refine gK 2 [(22,.bool (!(decide ((e:Int)=(0:Int)))))] [] ?_
  refine NN (af.cu (p:=(e:Int)=(0:Int)) (fun _=>by kernel_rfl) (fun Dd=>?_) (fun Dd=>?_))
  ·refine SR (gK 2 [(4,vI (e))] [] ?_)
   refine NN (af.ret (ai.aj ?_))
   exact RT (vI (e)) [0,1,2,3,4,5,6,7] (⟨L,by rw [show (eV S c)=(e,S,c) by unfold eV;rw [hab]]<;>exact⟨rfl,rfl⟩⟩)
  exact absurd Dd hne
 have hkd:(obj S.O d).kind=2:=hI.kind hd
 refine aK.call (f:=68) (args:=#[vP f,vI (c.handle),.string c.name,vI 192]) (d:=(some 18)) (pre:=(mQ f m t S L)) (R:=(l5 m L S cb c R)) (pk:=[0,2,3,1,4,5,6,7]) (gq:=[0,3,1,2,4,5,6,7]) (v0:=.tuple #[vP (L.b d),vI 0]) (fun _=>by kernel_rfl) ((by have h:=dz S L f m t hI c.handle hC.hw c.name hC.nm 192 (β:=β);rw [hab] at h;exact h)) rfl (by kernel_rfl) rfl (by kernel_rfl) (fun _ _ h=>h) ?_
 refine gQ 5 (BU L d) [] ?_
 refine NQ (NX (af.seq (SR ?_)))
 refine gK 2 [(22,.bool false)] [] ?_
 refine NN (CF (af.skip (NX (af.seq (af.bp (by kernel_rfl) (by kernel_rfl) ?_)))))
 refine gQ 9 [(25,vP f),(29,vI (c.other)),(33,.string c.text)] [(4,a_ 6 cb),(8,a_ 6 cb)] ?_
 rcases jS hI.toInv0 c.other c.text 192 with ⟨e2,iM,Ij⟩|⟨to,iM,hd2,Oh,Oi,Oj⟩
 ·refine aK.call (f:=68) (args:=#[vP f,vI (c.other),.string c.text,vI 192]) (d:=(some 34)) (pre:=(mQ f m t S L)) (R:=(l5 m L S cb c R)) (pk:=[0,2,3,1,4,5,6,7]) (gq:=[0,3,1,2,4,5,6,7]) (v0:=.tuple #[.pointer none,vI (e2)]) (fun _=>by kernel_rfl) ((by have h:=dz S L f m t hI c.other hC.ow c.text hC.tx 192 (β:=β);rw [iM] at h;exact h)) rfl (by kernel_rfl) rfl (by kernel_rfl) (fun _ _ h=>h) ?_
  refine gQ 5 [(6,vI (e2)),(7,.pointer none)] [] ?_
  refine NQ (NX (af.seq (SR ?_)))
  refine gK 2 [(38,.bool (!(decide ((e2:Int)=(0:Int)))))] [] ?_
  refine NN (af.cu (p:=(e2:Int)=(0:Int)) (fun _=>by kernel_rfl) (fun wT=>?_) (fun wT=>?_))
  ·refine SR (gK 2 [(4,vI (e2))] [] ?_)
   refine NN (af.ret (ai.aj ?_))
   exact RT (vI (e2)) [0,1,2,3,4,5,6,7] (⟨L,by rw [show (eV S c)=(e2,S,c) by unfold eV;rw [hab];simp only;rw [iM]]<;>exact⟨rfl,rfl⟩⟩)
  exact absurd wT Ij
 have dG:(obj S.O to).kind=2:=hI.kind hd2
 refine aK.call (f:=68) (args:=#[vP f,vI (c.other),.string c.text,vI 192]) (d:=(some 34)) (pre:=(mQ f m t S L)) (R:=(l5 m L S cb c R)) (pk:=[0,2,3,1,4,5,6,7]) (gq:=[0,3,1,2,4,5,6,7]) (v0:=.tuple #[vP (L.b to),vI 0]) (fun _=>by kernel_rfl) ((by have h:=dz S L f m t hI c.other hC.ow c.text hC.tx 192 (β:=β);rw [iM] at h;exact h)) rfl (by kernel_rfl) rfl (by kernel_rfl) (fun _ _ h=>h) ?_
 refine gQ 5 [(6,vI 0),(7,vP (L.b to))] [] ?_
 refine NQ (NX (af.seq (SR ?_)))
 refine gK 2 [(38,.bool false)] [] ?_
 refine NN (CF (af.skip (NX (af.seq (af.ct (S:=[pC cb c]) [0,1,2,3,4,5,6,7,8,9,10,11,12] 11 [6] (by kernel_rfl) (by kernel_rfl) rfl (by kernel_rfl) ?_)))))
 refine gR 0 [11,12] [(40,vP f),(41,vP (L.b d)),(45,.string c.name),(46,vP (L.b to)),(50,.string c.text)] [0,1,2,3,4,5,6,7,8,9,10] [(5,a_ 0 cb),(10,a_ 0 cb)] ?_
 refine mL [6] [0,1,2,3,4,5] (Er S L f m t hI d hd c.name hC.nm to hd2 c.text hC.tx) ?_ (by rintro _ _ ⟨L2,rfl,rfl⟩;rfl)
 rintro _ _ ⟨L2,rfl,rfl⟩
 refine aG.last rfl rfl ?_
 refine gK 1 [(4,vI ((bC S d c.name to c.text).1))] [] ?_
 refine NL (ai.np (NX (af.ret ?_)))
 exact RT (vI ((bC S d c.name to c.text).1)) [0,1,2,3,4,5,6,7] (⟨L2,by rw [show (eV S c)=((bC S d c.name to c.text).1,(bC S d c.name to c.text).2,c) by unfold eV;rw [hab];simp only;rw [iM]]<;>exact⟨rfl,rfl⟩⟩)
end
section
open Go.RowKit
section order
variable {P:Program} {ops:Array Oper} {Q Q':Post} {n:Nat} {S:World->Prop}
def kC (P:Program) (ops:Array Oper) (Q:Post) (S:World->Prop):List (Bool×Nat)->Act->World->Prop
  | [],a,w=>Q .normal a w
  | (false,i)::l,a,w=>wpOp P ops Q i (fun a' w'=>(l=[]\/S w')/\kC P ops Q S l a' w') a w
  | (true,i)::l,a,w=>∃ o v,ops[i]?=some o/\YieldsIf P ops S o v a/\kC P ops Q S l (a.put o.dst v) w
def uZ (ops:Array Oper) (n:Nat):List (Bool×Nat)->Array Bool->Bool
  | [],listed=>(Region.ready .any ops listed).isEmpty
  | (false,i)::l,listed=>(Region.ready .any ops listed == [i]) && (!l.isEmpty || i == n) && uZ ops n l (listed.setIfInBounds i true)
  | (true,i)::l,listed=>decide (i < n) && Region.free .any ops listed i && (Region.ready .any ops listed).contains i && uZ ops n l (listed.setIfInBounds i true)
theorem wo (hsel:Region.noSelect ops=true) (mq:Region.sinkB .any ops n=true):∀ (l:List (Bool×Nat)) (listed:Array Bool) (a:Act) (w:World),uZ ops n l listed=true->Closed ops listed->(l=[]\/S w)->kC P ops (NP Q) S l a w->fN P ops (NP Q) n S l.length listed a w
  | [],listed,a,w,hb,_,_,h=>⟨List.isEmpty_iff.1 hb,h⟩
  | (false,i)::l,listed,a,w,hb,hc,_,h=>by
    unfold uZ at hb
    simp only [Bool.and_eq_true,beq_iff_eq] at hb
    obtain⟨⟨h1,h2⟩,h3⟩:=hb
    refine⟨fun h0=>(by rw [h1] at h0;cases h0),fun j hj=>?_⟩
    have hr:=hj
    rw [h1] at hj
    have hj:j=i:=by simpa using hj
    subst hj
    refine wpOp_mono (fun a' w' h4=>⟨?_,wo hsel mq l _ a' w' h3 (hc.set hr) h4.1 h4.2⟩) h
    rcases h4.1 with h5|h5
    ·subst h5;exact .inl (by simpa using h2)
    exact .inr h5
  | (true,i)::l,listed,a,w,hb,hc,hS,h=>by
    unfold uZ at hb
    simp only [Bool.and_eq_true,decide_eq_true_iff] at hb
    obtain⟨⟨⟨h1,h2⟩,h3⟩,h4⟩:=hb
    obtain⟨o,v,ho,hy,hk⟩:=h
    have hS:S w:=hS.resolve_left (by simp)
    have hr:i∈Region.ready .any ops listed:=by simpa using h3
    exact pH ho hsel mq h1 l.length listed a w hc (Region.free_spec ho h2) hr hy hS (wo hsel mq l _ _ w h4 (hc.set hr) (.inr hS) hk)
def Dx (ops:Array Oper) (l:List (Bool×Nat)):Bool:=
  Region.noSelect ops && Region.sinkB .any ops (ops.size - 1) && (l.length == ops.size) && uZ ops (ops.size - 1) l (Array.replicate ops.size false)
def oR (ops:Array Oper) (i:Nat):Array Oper:=⟨ops.toList.take (i+1)⟩
def gB (ops:Array Oper) (i:Nat):Bool:=match ops[i]? with
  | some o=>match o.guard with
    | none=>true
    | some (j,_)=>decide (j<=i)
  | none=>false
theorem Gp {i j:Nat} (h:j<=i):(oR ops i)[j]?=ops[j]?:=by
  unfold oR
  obtain⟨l⟩:=ops
  simp only [List.getElem?_toArray,List.getElem?_take]
  rw [if_pos (by omega)]
theorem uj {i:Nat} {a:Act} {w:World} {K:Act->World->Prop} (hg:gB ops i=true) (h:wpList P (oR ops i) (NP fun _ a w=>K a w) ((oR ops i).toList.drop i) a w):wpOp P ops (NP Q) i K a w:=by
  unfold gB at hg
  split at hg
  ·rename_i o ho
   have hd:(oR ops i).toList.drop i=[o]:=by
     have hl:ops.toList[i]?=some o:=by simpa using ho
     have hi:i < ops.toList.length:=bh hl
     show (ops.toList.take (i+1)).drop i=[o]
     rw [List.drop_take]
     rw [show i+1 - i=1 by omega,List.drop_eq_getElem_cons hi]
     rw [List.getElem?_eq_getElem hi] at hl
     cases hl
     rfl
   have hw:Region.wanted o (yielded (oR ops i) a.tmps)=Region.wanted o (yielded ops a.tmps):=by
     unfold Region.wanted
     split at hg
     ·rename_i hn;rw [hn]
     rename_i j b hn
     rw [hn]
     have hj:j<=i:=by simpa using hg
     have:yielded (oR ops i) a.tmps j=yielded ops a.tmps j:=by
       unfold yielded
       rw [Gp hj]
     simp only [this]
   rw [hd] at h
   unfold wpOp
   simp only [ho]
   unfold wpList at h
   rw [hw] at h
   split at h
   ·rename_i hw
    rw [if_pos hw]
    rcases h with h|⟨_,h⟩
    ·exact .inl (zX (Oper.wp_mono (fun a w h=>h) h))
    exact (mh h).elim
   rename_i hw
   rw [if_neg hw]
   exact h
  cases hg
end order
theorem oU {P:Program} {ops:Array Oper} {Q Q':Post} (hq:∀ a w,Q .normal a w->Q' .normal a w):∀ (l:List Oper) {a:Act} {w:World},wpList P ops (NP Q) l a w->wpList P ops (NP Q') l a w
  | [],_,_,h=>hq _ _ h
  | o::r,a,w,h=>by
    unfold wpList at *
    split
    ·rename_i hw
     rw [if_pos hw] at h
     rcases h with h|⟨_,h⟩
     ·exact .inl (zX (Oper.wp_mono (fun a w h=>oU hq r h) h))
     exact (mh h).elim
    rename_i hw
    rw [if_neg hw] at h
    exact oU hq r h
section mix
variable {P:Program} {β:Bs} {N:Nat} {ops:Array Oper} {S:List HP} {l l':List (Bool×Nat)} {fr fr':Fr} {hps:List HP} {Q:Post} {bw:List Prop} {i:Nat} {pk:List Nat}
def gI (P:Program) (β:Bs) (N:Nat) (ops:Array Oper) (S:List HP) (l:List (Bool×Nat)) (fr:Fr) (hps:List HP) (Q:Post):Prop:=
  ∀ junk w,Sat β hps w->kC P ops (NP Q) (Sat β S) l (bM N fr junk) w
theorem af.oV {id:Nat} (l:List (Bool×Nat)) (pk:List Nat) (hm:P.follows .mixedOrders=true) (hB:Dx ops l=true) (hn:aZ pk=true) (hp:bF hps pk=some S) (h:gI P β N ops S l fr hps Q):af P β N (.region id ops true) fr hps Q:=by
  intro junk w hS
  unfold Dx at hB
  simp only [Bool.and_eq_true,beq_iff_eq] at hB
  obtain⟨⟨⟨h1,h2⟩,h3⟩,h4⟩:=hB
  have di:=hS.drewN 1
  have h5:=wo (Q:=Q) h1 h2 l _ _ _ h4 (fun j oj _ hl=>by simp [Array.getD_eq_getD_getElem?,Array.getElem?_replicate] at hl;split at hl<;>simp at hl) (.inr (di.pick hn hp)) (h junk (w.drewN 1) di)
  rw [h3] at h5
  refine Code.wp_mono (fun e a w q=>?_) (wp_region_any hm (mo _ _ _ _ h5))
  cases e with
  | normal=>exact q
  | exit id=>exact q.elim
  | goto l=>exact q.elim
  | ret=>exact q.elim
  | panic ch=>exact q.elim
  | outgrown=>exact q.elim
def p4 (P:Program) (β:Bs) (N:Nat) (junk:Nat->Value) (ops:Array Oper):List OH->List Nat->Fr->SS->Option (Fr×SS)
  | [],[],fr,S=>some (fr,S)
  | h::hs,i::is,fr,S=>
    match ops[i]? with
    | some o=>
      match Region.wanted o (yF ops N fr junk) with
      | true=>
        match o9 P β 0 true (cP N fr junk) o h S with
        | some (v,S')=>
          match tf v with
          | true=>p4 P β N junk ops hs is (cU fr o.dst v) S'
          | false=>none
        | none=>none
      | false=>p4 P β N junk ops hs is (cU fr o.dst undef) S
    | none=>none
  | _,_,_,_=>none
def wq (P:Program) (β:Bs) (N:Nat) (junk:Nat->Value) (ops:Array Oper) (hs:List OH) (is:List Nat) (fr:Fr) (S:List HP) (idx:List Nat):Option (Fr×List Prop):=
  match p4 P β N junk ops hs is fr ⟨[],S,[],true⟩ with
  | some (fr',S')=>some (ig fr' junk idx,S'.bw)
  | none=>none
theorem su {junk:Nat->Value}:∀ {hs:List OH} {is:List Nat} {fr fr':Fr} {S S':SS},p4 P β N junk ops hs is fr S=some (fr',S')->∀ p,p∈S.bw->p∈S'.bw
  | [],[],fr,fr',S,S',h,p,hp=>by cases h;exact hp
  | h::hs,i::is,fr,fr',S,S',hr,p,hp=>by
    unfold p4 at hr
    repeat' split at hr
    all_goals first|(cases hr;done)|skip
    ·rename_i h0 _ _
     exact su hr p (vH h0 p hp)
    exact su hr p hp
  | [],_::_,_,_,_,_,h,_,_=>by cases h
  | _::_,[],_,_,_,_,h,_,_=>by cases h
theorem p5 {junk:Nat->Value} {w:World}:∀ {hs:List OH} {is:List Nat} {fr fr':Fr} {T T':SS},p4 P β N junk ops hs is fr T=some (fr',T')->(∀ p,p∈T'.bw->p)->T.used=true->T.hps=S →
    kC P ops (NP Q) (Sat β S) l (bM N fr' junk) w->kC P ops (NP Q) (Sat β S) (is.map (fun i=>(true,i))++l) (bM N fr junk) w
  | [],[],fr,fr',T,T',h,ho,hu,hT,hK=>by cases h;exact hK
  | h::hs,i::is,fr,fr',T,T',hr,ho,hu,hT,hK=>by
    unfold p4 at hr
    repeat' split at hr
    all_goals first|(cases hr;done)|skip
    ·rename_i o hget _ EH _ v T1 h0 _ hv
     obtain⟨e1,e2⟩:=qW h0
     rw [List.map_cons,List.cons_append]
     unfold kC
     refine⟨o,v,hget,.inl ⟨by rw [dQ];exact EH,fun w' di=>?_⟩,?_⟩
     ·rw [dH]
      obtain⟨w2,h1,_,_,h4⟩:=kF h0 (fun p hp=>ho p (su hr p hp)) (by rw [hT];exact di) (fun e=>by rw [hu] at e;cases e)
      obtain⟨ew,_⟩:=h4 rfl
      rw [ew] at h1
      rcases h1 with h1|⟨h1,_⟩
      ·exact h1
      exact absurd h1 (qo hv)
     rw [dF]
     exact p5 hr ho (e2.trans hu) (e1.trans hT) hK
    rename_i o hget _ EH
    rw [List.map_cons,List.cons_append]
    unfold kC
    refine⟨o,undef,hget,.inr ⟨by rw [dQ];exact EH,rfl⟩,?_⟩
    rw [dF]
    exact p5 hr ho hu hT hK
  | [],_::_,_,_,_,_,h,_,_,_,_=>by cases h
  | _::_,[],_,_,_,_,h,_,_,_,_=>by cases h
theorem gI.reads (is:List Nat) (hs:List OH) (idx:List Nat) (h:∀ junk,wq P β N junk ops hs is fr S idx=some (fr',bw)) (ho:iZ bw) (hl:l'=is.map (fun i=>(true,i))++l) (K:gI P β N ops S l fr' hps Q):gI P β N ops S l' fr hps Q:=by
  intro junk w hS
  subst hl
  have h0:=h junk
  unfold wq at h0
  split at h0
  ·rename_i jZ S1 h1
   cases h0
   have hK:=K (lk jZ junk) w hS
   rw [← iY] at hK
   exact p5 h1 (fun p hp=>ho.mem hp) rfl rfl hK
  cases h0
theorem gG (l2:List (Bool×Nat)) (mK:Fr) (is:List Nat) (os:List (Nat×OP)) (K:gI P β N ops S l2 mK hps Q)
    (h:∀ junk,wq P β N junk ops (iB (fK is.length os 0)) is fr S (bE mK)=some (mK,owed (fK is.length os 0)):=by intro _;kernel_rfl) (hl:l'=is.map (fun i=>(true,i))++l2:=by rfl):gI P β N ops S l' fr hps Q:=
  gI.reads is (iB (fK is.length os 0)) (bE mK) h (mU _) hl K
theorem gI.cut {ι:Type} {fr':ι->Fr} {hp':ι->List HP} (pk:List Nat) (hg:gB ops i=true) (h:ak P β N (oR ops i) i fr hps (NP (lT β N fr' hp'))) (hn:aZ pk=true) (hp:∀ j,bF (hp' j) pk=some S)
    (K:∀ j,gI P β N ops S l (fr' j) (hp' j) Q):gI P β N ops S ((false,i)::l) fr hps Q:=by
  intro junk w hS
  unfold kC
  refine uj hg (oU (Q':=_) (fun a w ⟨j,fw,ha,di⟩=>?_) _ (h junk w hS))
  subst ha
  exact⟨.inr (di.pick hn (hp j)),K j fw w di⟩
theorem gI.last (hg:gB ops i=true) (h:ak P β N (oR ops i) i fr hps (NP Q)):gI P β N ops S [(false,i)] fr hps Q:=by
  intro junk w hS
  unfold kC
  exact uj hg (oU (Q':=_) (fun a w hq=>⟨.inl rfl,by unfold kC;exact hq⟩) _ (h junk w hS))
end mix
end
section
open Go.RowKit Go.Maps ck aB
attribute [local irreducible] ak aK af ai
abbrev Dy (cb:Nat) (c:aQ):=(pC cb { c with other:=0,mode:=0,uid:=0,gid:=0,sec:=0,nano:=0 }:HP)
abbrev Dz (cb:Nat) (c:aQ) (S:aH) (tk:Nat):=(pC cb { c with other:=0,mode:=0,uid:=0,gid:=0,sec:=0,nano:=0,answer:=(obj S.O tk).id }:HP)
abbrev Ni (cb:Nat) (c:aQ) (S:aH) (tk:Nat):=(pC cb { c with other:=1,mode:=(obj S.O tk).mode,uid:=(obj S.O tk).uid,gid:=0,sec:=0,nano:=0,answer:=(obj S.O tk).id }:HP)
abbrev Nj (cb:Nat) (c:aQ) (S:aH) (tk:Nat):=(pC cb { c with other:=1,mode:=(obj S.O tk).mode,uid:=(obj S.O tk).uid,gid:=(obj S.O tk).gid,sec:=0,nano:=0,answer:=(obj S.O tk).id }:HP)
abbrev Nk (cb:Nat) (c:aQ) (S:aH) (tk:Nat):=(pC cb { c with other:=2,mode:=(obj S.O tk).mode,uid:=(obj S.O tk).uid,gid:=0,sec:=0,nano:=0,answer:=(obj S.O tk).id }:HP)
abbrev Nl (cb:Nat) (c:aQ) (S:aH) (tk:Nat):=(pC cb { c with other:=2,mode:=(obj S.O tk).mode,uid:=(obj S.O tk).uid,gid:=(obj S.O tk).gid,sec:=0,nano:=0,answer:=(obj S.O tk).id }:HP)
abbrev Nn (cb:Nat) (c:aQ) (S:aH) (tk:Nat):=(pC cb { c with other:=3,mode:=(obj S.O tk).mode,uid:=(obj S.O tk).uid,gid:=0,sec:=0,nano:=0,answer:=(obj S.O tk).id }:HP)
abbrev Np (cb:Nat) (c:aQ) (S:aH) (tk:Nat):=(pC cb { c with other:=3,mode:=(obj S.O tk).mode,uid:=(obj S.O tk).uid,gid:=(obj S.O tk).gid,sec:=0,nano:=0,answer:=(obj S.O tk).id }:HP)
abbrev j4 (S:aH) (tk:Nat):=([(44,vI ((obj S.O tk).uid)),(48,vI ((obj S.O tk).gid)),(52,.agg #[vI ((obj S.O tk).sec),vI ((obj S.O tk).nano)])]:Fr)
abbrev Ik (cb:Nat) (S:aH) (tk:Nat):=([(25,vP cb),(26,vP cb),(27,vP cb),(28,vP cb),(29,vP cb),(30,vP cb),(34,vI ((obj S.O tk).id))]:Fr)
abbrev yK (cb:Nat) (S:aH) (tk:Nat):=([(30,vP cb),(48,vI ((obj S.O tk).gid)),(52,.agg #[vI ((obj S.O tk).sec),vI ((obj S.O tk).nano)])]:Fr)
abbrev ol (cb:Nat):=([(27,vP cb),(28,vP cb),(29,vP cb),(30,vP cb)]:Fr)
abbrev Il (S:aH) (tk:Nat):=([(40,vI ((obj S.O tk).mode)),(44,vI ((obj S.O tk).uid)),(48,vI ((obj S.O tk).gid)),(52,.agg #[vI ((obj S.O tk).sec),vI ((obj S.O tk).nano)])]:Fr)
abbrev om (f:Nat) (m:Nat) (t) (S:aH) (L:HL) (cb:Nat) (c) (R:bY):=([pF f m t S.X,pI m L S.idx,pO S.O L,pD S.O L,pE S.O L,pC cb c,.abs R]:List HP)
abbrev EI:=([(2,vI 0),(6,vI 0),(7,vI 0),(8,vI 0),(9,vI 0),(10,vI 0)]:Fr)
abbrev yL (t)(c:aQ):=([(11,vP t),(15,vI (c.handle))]:Fr)
abbrev yM (cb:Nat) (S:aH) (tk:Nat):=([(28,vP cb),(29,vP cb),(30,vP cb),(40,vI ((obj S.O tk).mode))]:Fr)
abbrev ul (L:HL) (to:Nat) (c:aQ):=([(61,.map (some (L.m to))),(65,.string c.text)]:Fr)
abbrev Im (S:aH) (tk:Nat) (cb:Nat):=([(52,.agg #[vI ((obj S.O tk).sec),vI ((obj S.O tk).nano)]),(64,.pointer (some ⟨cb,9,none⟩))]:Fr)
abbrev EJ (L:HL) (tk:Nat):=([(5,.iface 69 (vP (L.b tk))),(6,vI 0)]:Fr)
abbrev EK (L:HL) (tk:Nat):=([(5,.iface 76 (vP (L.b tk))),(6,vI 0)]:Fr)
abbrev Io (t)(c:aQ):=([(13,vP t),(17,vI (c.handle))]:Fr)
abbrev Ip (S:aH) (tk:Nat):=([(9,vI ((obj S.O tk).sec)),(10,vI ((obj S.O tk).nano))]:Fr)
theorem EL {β:Bs} (S:aH) (L:HL) (f m t:Nat) (hI:Inv S) (cb:Nat) (c:aQ) (hC:fI β c) :
    Spec Tryz.prog β 48 #[vP f,vP cb] ((pA f m t L S)++[pC cb c]) (fun v l=>∃ L2,v=vI (cx S c).1/\l=((pA f m t L2 ((cx S c).2.1))++[.blk cb (gM ((cx S c).2.2)) 50])):=by
 have hX:=hI.hX
 refine Spec.enter Tryz.func48 rfl Tryz.ntmps48 (Nat.le_of_ble_eq_true rfl) (fun R=>?_)
 refine SR (gK 1 [] [] ?_)
 refine NN (af.seq (af.bp (by kernel_rfl) (by kernel_rfl) ?_))
 refine gQ 9 [(10,vP f),(14,vI (c.handle)),(18,.string c.name)] [(4,a_ 6 cb),(8,a_ 6 cb)] ?_
 rcases jS hI.toInv0 c.handle c.name 64 with ⟨e,hab,hne⟩|⟨d,hab,hd,ji,jj,cT⟩
 ·refine aK.call (f:=68) (args:=#[vP f,vI (c.handle),.string c.name,vI 64]) (d:=(some 19)) (pre:=(mQ f m t S L)) (R:=(l5 m L S cb c R)) (pk:=[0,2,3,1,4,5,6,7]) (gq:=[0,3,1,2,4,5,6,7]) (v0:=.tuple #[.pointer none,vI (e)]) (fun _=>by kernel_rfl) ((by have h:=dz S L f m t hI c.handle hC.hw c.name hC.nm 64 (β:=β);rw [hab] at h;exact h)) rfl (by kernel_rfl) rfl (by kernel_rfl) (fun _ _ h=>h) ?_
  refine gQ 5 [(5,.pointer none),(6,vI (e))] [] ?_
  refine NQ (NX (af.seq (SR ?_)))
  refine gK 2 [(23,.bool (!(decide ((e:Int)=(0:Int)))))] [] ?_
  refine NN (af.cu (p:=(e:Int)=(0:Int)) (fun _=>by kernel_rfl) (fun h23=>?_) (fun h23=>?_))
  ·refine SR (gK 2 [(4,vI (e))] [] ?_)
   refine NN (af.ret (ai.aj ?_))
   exact RT (vI (e)) [0,1,2,3,4,5,6,7] (⟨L,by rw [show (cx S c)=(e,S,c) by unfold cx;rw [hab]]<;>exact⟨rfl,rfl⟩⟩)
  exact absurd h23 hne
 have hkd:(obj S.O d).kind=2:=hI.kind hd
 refine aK.call (f:=68) (args:=#[vP f,vI (c.handle),.string c.name,vI 64]) (d:=(some 19)) (pre:=(mQ f m t S L)) (R:=(l5 m L S cb c R)) (pk:=[0,2,3,1,4,5,6,7]) (gq:=[0,3,1,2,4,5,6,7]) (v0:=.tuple #[vP (L.b d),vI 0]) (fun _=>by kernel_rfl) ((by have h:=dz S L f m t hI c.handle hC.hw c.name hC.nm 64 (β:=β);rw [hab] at h;exact h)) rfl (by kernel_rfl) rfl (by kernel_rfl) (fun _ _ h=>h) ?_
 refine gQ 5 (BU L d) [] ?_
 refine NQ (NX (af.seq (SR ?_)))
 refine gK 2 [(23,.bool false)] [] ?_
 refine NN (CF (af.skip (NX (af.seq (af.bp (by kernel_rfl) (by kernel_rfl) ?_)))))
 refine gQ 9 [(26,vP f),(30,vI (c.other)),(34,.string c.text)] [(4,a_ 6 cb),(8,a_ 6 cb)] ?_
 rcases jS hI.toInv0 c.other c.text 192 with ⟨e2,iM,Ij⟩|⟨to,iM,hd2,Oh,Oi,Oj⟩
 ·refine aK.call (f:=68) (args:=#[vP f,vI (c.other),.string c.text,vI 192]) (d:=(some 35)) (pre:=(mQ f m t S L)) (R:=(l5 m L S cb c R)) (pk:=[0,2,3,1,4,5,6,7]) (gq:=[0,3,1,2,4,5,6,7]) (v0:=.tuple #[.pointer none,vI (e2)]) (fun _=>by kernel_rfl) ((by have h:=dz S L f m t hI c.other hC.ow c.text hC.tx 192 (β:=β);rw [iM] at h;exact h)) rfl (by kernel_rfl) rfl (by kernel_rfl) (fun _ _ h=>h) ?_
  refine gQ 5 [(6,vI (e2)),(7,.pointer none)] [] ?_
  refine NQ (NX (af.seq (SR ?_)))
  refine gK 2 [(39,.bool (!(decide ((e2:Int)=(0:Int)))))] [] ?_
  refine NN (af.cu (p:=(e2:Int)=(0:Int)) (fun _=>by kernel_rfl) (fun mO=>?_) (fun mO=>?_))
  ·refine SR (gK 2 [(4,vI (e2))] [] ?_)
   refine NN (af.ret (ai.aj ?_))
   exact RT (vI (e2)) [0,1,2,3,4,5,6,7] (⟨L,by rw [show (cx S c)=(e2,S,c) by unfold cx;rw [hab];simp only;rw [iM]]<;>exact⟨rfl,rfl⟩⟩)
  exact absurd mO Ij
 have dG:(obj S.O to).kind=2:=hI.kind hd2
 refine aK.call (f:=68) (args:=#[vP f,vI (c.other),.string c.text,vI 192]) (d:=(some 35)) (pre:=(mQ f m t S L)) (R:=(l5 m L S cb c R)) (pk:=[0,2,3,1,4,5,6,7]) (gq:=[0,3,1,2,4,5,6,7]) (v0:=.tuple #[vP (L.b to),vI 0]) (fun _=>by kernel_rfl) ((by have h:=dz S L f m t hI c.other hC.ow c.text hC.tx 192 (β:=β);rw [iM] at h;exact h)) rfl (by kernel_rfl) rfl (by kernel_rfl) (fun _ _ h=>h) ?_
 refine gQ 5 [(6,vI 0),(7,vP (L.b to))] [] ?_
 refine NQ (NX (af.seq (SR ?_)))
 refine gK 2 [(39,.bool false)] [] ?_
 refine NN (CF (af.skip (NX (af.seq ?_))))
 have hel:(obj S.O d).ah.length<=8192:=hI.fq hd
 have MV:=hC.nm
 rcases hI.lD hd c.name with hlk|⟨tk,hlk,hlv⟩|⟨tk,hlk,hlv⟩|⟨tk,hlk,hlv⟩
 ·refine af.bp (by kernel_rfl) (by kernel_rfl) ?_
  refine gQ 8 [(44,.map (some (L.m d))),(48,.string c.name)] [(3,v_ 3 (br L hkd)),(7,a_ 6 cb)] ?_
  refine oz 5 hkd hlk ?_
  refine gQ 1 [(8,.nilIface)] [] ?_
  refine NQ (NX (af.seq (af.block (SR ?_))))
  refine gK 3 [(50,.bool true)] [] ?_
  refine NN (CT (SR (gK 1 [(4,vI 170)] [] ?_)))
  refine NN (af.ret (ai.ax (ai.aj ?_)))
  exact RT (vI 170) [0,1,2,3,4,5,6,7] (⟨L,by rw [show (cx S c)=(170,S,c) by unfold cx;rw [hab];simp only;rw [iM];simp only;rw [show (dZ S d c.name to c.text)=(170,S) by unfold dZ;rw [hlk]]]<;>exact⟨rfl,rfl⟩⟩)
 ·have hkt:(obj S.O tk).kind=1:=hI.kind hlv
  refine af.bp (by kernel_rfl) (by kernel_rfl) ?_
  refine gQ 8 [(44,.map (some (L.m d))),(48,.string c.name)] [(3,v_ 3 (br L hkd)),(7,a_ 6 cb)] ?_
  refine oz 5 hkd hlk ?_
  refine gQ 1 [(8,.iface 69 (vP (L.b tk)))] [] ?_
  refine NQ (NX (af.seq (af.block (SR ?_))))
  refine gK 3 [(50,.bool false)] [] ?_
  refine NN (CF (SR (gK 1 [(54,.iface 69 (vP (L.b tk)))] [] ?_)))
  refine gL [] (kg (vP (L.b tk))) ?_
  rintro _ _ ⟨rfl,rfl⟩
  refine gK 2 [(53,.bool false)] [] ?_
  refine NN (CF (af.seq ?_))
  have wu:(obj S.O to).ah.length<=8192:=hI.fq hd2
  have LC:=hC.tx
  rcases hI.lD hd2 c.text with bg|⟨ok,bg,d8⟩|⟨ok,bg,d8⟩|⟨ok,bg,d8⟩
  ·refine af.bp (by kernel_rfl) (by kernel_rfl) ?_
   refine gQ 8 (ul L to c) [(3,v_ 3 (br L dG)),(7,a_ 6 cb)] ?_
   refine oz 5 dG bg ?_
   refine gQ 2 [(57,.bool false)] [] ?_
   refine NQ (NX ?_)
   refine CF (SR (gK 1 [(69,vP f)] [] ?_))
   refine gL [0] (qP S.X f m t) ?_
   rintro _ _ ⟨rfl,rfl⟩
   refine gK 2 [(68,.bool (!(decide (S.X.ah < 8192))))] [] ?_
   refine NN (af.cu (p:=S.X.ah < 8192) (fun _=>by kernel_rfl) (fun h68=>?_) (fun h68=>?_))
   ·refine SR (gK 1 [(4,vI 177)] [] ?_)
    refine NN (af.ret (ai.ax (ai.aj ?_)))
    exact RT (vI 177) [0,1,2,3,4,5,6,7] (⟨L,by rw [show (cx S c)=(177,S,c) by unfold cx;rw [hab];simp only;rw [iM];simp only;rw [show (dZ S d c.name to c.text)=(177,S) by unfold dZ;rw [hlk];exact (if_neg (by simp)).trans ((if_pos bg).trans (if_neg h68))]]<;>exact⟨rfl,rfl⟩⟩)
   refine af.skip (ai.aF (NX (SR ?_)))
   refine gK 7 [(72,vP f),(73,vP (L.b to)),(77,.string c.text),(78,.iface 69 (vP (L.b tk)))] [(5,a_ 6 cb)] ?_
   refine gL [0,3,5] (fW S.X f m t hX S.O L to dG c.text hC.tx bg (by omega) ⟨tk,1⟩ hkt (by simp) (by have:=hI.lb hlv;simp only at this ⊢;omega)) ?_
   rintro _ _ ⟨rfl,rfl⟩
   refine NS (ak.cW [(5,.abs (ay (bq (cC S.X S.O to c.text ⟨tk,1⟩) L)))] (fun w hS=>by rw [show bq (cC S.X S.O to c.text ⟨tk,1⟩) L=bq S.O L from fZ];exact hS) ?_)
   refine gK 1 [(4,vI 0)] [] ?_
   refine NN (af.ret ?_)
   exact RT (vI 0) [0,3,4,1,5,2,6,7] (⟨L,by rw [show (cx S c)=(0,{ S with X:={ S.X with ah:=S.X.ah+1 },O:=cC S.X S.O to c.text ⟨tk,1⟩ },c) by unfold cx;rw [hab];simp only;rw [iM];simp only;rw [show (dZ S d c.name to c.text)=(0,{ S with X:={ S.X with ah:=S.X.ah+1 },O:=cC S.X S.O to c.text ⟨tk,1⟩ }) by unfold dZ;rw [hlk];exact (if_neg (by simp)).trans ((if_pos bg).trans (if_pos h68))]]<;>exact⟨rfl,rfl⟩⟩)
  ·have kA:(obj S.O ok).kind=1:=hI.kind d8
   refine af.bp (by kernel_rfl) (by kernel_rfl) ?_
   refine gQ 8 (ul L to c) [(3,v_ 3 (br L dG)),(7,a_ 6 cb)] ?_
   refine oz 5 dG bg ?_
   refine gQ 2 [(57,.bool true)] [] ?_
   refine NQ (NX ?_)
   refine CT (SR (gK 1 [(4,vI 171)] [] ?_))
   refine NN (af.ret (ai.ax (ai.aj ?_)))
   exact RT (vI 171) [0,1,2,3,4,5,6,7] (⟨L,by rw [show (cx S c)=(171,S,c) by unfold cx;rw [hab];simp only;rw [iM];simp only;rw [show (dZ S d c.name to c.text)=(171,S) by unfold dZ;rw [hlk];exact (if_neg (by simp)).trans (if_neg (by rw [bg];simp))]]<;>exact⟨rfl,rfl⟩⟩)
  ·have kA:(obj S.O ok).kind=2:=hI.kind d8
   refine af.bp (by kernel_rfl) (by kernel_rfl) ?_
   refine gQ 8 (ul L to c) [(3,v_ 3 (br L dG)),(7,a_ 6 cb)] ?_
   refine oz 5 dG bg ?_
   refine gQ 2 [(57,.bool true)] [] ?_
   refine NQ (NX ?_)
   refine CT (SR (gK 1 [(4,vI 171)] [] ?_))
   refine NN (af.ret (ai.ax (ai.aj ?_)))
   exact RT (vI 171) [0,1,2,3,4,5,6,7] (⟨L,by rw [show (cx S c)=(171,S,c) by unfold cx;rw [hab];simp only;rw [iM];simp only;rw [show (dZ S d c.name to c.text)=(171,S) by unfold dZ;rw [hlk];exact (if_neg (by simp)).trans (if_neg (by rw [bg];simp))]]<;>exact⟨rfl,rfl⟩⟩)
  have kA:(obj S.O ok).kind=3:=hI.kind d8
  refine af.bp (by kernel_rfl) (by kernel_rfl) ?_
  refine gQ 8 (ul L to c) [(3,v_ 3 (br L dG)),(7,a_ 6 cb)] ?_
  refine oz 5 dG bg ?_
  refine gQ 2 [(57,.bool true)] [] ?_
  refine NQ (NX ?_)
  refine CT (SR (gK 1 [(4,vI 171)] [] ?_))
  refine NN (af.ret (ai.ax (ai.aj ?_)))
  exact RT (vI 171) [0,1,2,3,4,5,6,7] (⟨L,by rw [show (cx S c)=(171,S,c) by unfold cx;rw [hab];simp only;rw [iM];simp only;rw [show (dZ S d c.name to c.text)=(171,S) by unfold dZ;rw [hlk];exact (if_neg (by simp)).trans (if_neg (by rw [bg];simp))]]<;>exact⟨rfl,rfl⟩⟩)
 ·have hkt:(obj S.O tk).kind=2:=hI.kind hlv
  refine af.bp (by kernel_rfl) (by kernel_rfl) ?_
  refine gQ 8 [(44,.map (some (L.m d))),(48,.string c.name)] [(3,v_ 3 (br L hkd)),(7,a_ 6 cb)] ?_
  refine oz 5 hkd hlk ?_
  refine gQ 1 [(8,.iface 76 (vP (L.b tk)))] [] ?_
  refine NQ (NX (af.seq (af.block (SR ?_))))
  refine gK 3 [(50,.bool false)] [] ?_
  refine NN (CF (SR (gK 1 [(54,.iface 76 (vP (L.b tk)))] [] ?_)))
  refine gL [] (ko (vP (L.b tk))) ?_
  rintro _ _ ⟨rfl,rfl⟩
  refine gK 2 [(53,.bool true)] [] ?_
  refine NN (CT (SR (gK 1 [(4,vI 172)] [] ?_)))
  refine NN (af.ret (ai.ax (ai.aj ?_)))
  exact RT (vI 172) [0,1,2,3,4,5,6,7] (⟨L,by rw [show (cx S c)=(172,S,c) by unfold cx;rw [hab];simp only;rw [iM];simp only;rw [show (dZ S d c.name to c.text)=(172,S) by unfold dZ;rw [hlk];exact if_pos rfl]]<;>exact⟨rfl,rfl⟩⟩)
 have hkt:(obj S.O tk).kind=3:=hI.kind hlv
 refine af.bp (by kernel_rfl) (by kernel_rfl) ?_
 refine gQ 8 [(44,.map (some (L.m d))),(48,.string c.name)] [(3,v_ 3 (br L hkd)),(7,a_ 6 cb)] ?_
 refine oz 5 hkd hlk ?_
 refine gQ 1 [(8,.iface 73 (vP (L.b tk)))] [] ?_
 refine NQ (NX (af.seq (af.block (SR ?_))))
 refine gK 3 [(50,.bool false)] [] ?_
 refine NN (CF (SR (gK 1 [(54,.iface 73 (vP (L.b tk)))] [] ?_)))
 refine gL [] (lH (vP (L.b tk))) ?_
 rintro _ _ ⟨rfl,rfl⟩
 refine gK 2 [(53,.bool false)] [] ?_
 refine NN (CF (af.seq ?_))
 have wu:(obj S.O to).ah.length<=8192:=hI.fq hd2
 have LC:=hC.tx
 rcases hI.lD hd2 c.text with bg|⟨ok,bg,d8⟩|⟨ok,bg,d8⟩|⟨ok,bg,d8⟩
 ·refine af.bp (by kernel_rfl) (by kernel_rfl) ?_
  refine gQ 8 (ul L to c) [(3,v_ 3 (br L dG)),(7,a_ 6 cb)] ?_
  refine oz 5 dG bg ?_
  refine gQ 2 [(57,.bool false)] [] ?_
  refine NQ (NX ?_)
  refine CF (SR (gK 1 [(69,vP f)] [] ?_))
  refine gL [0] (qP S.X f m t) ?_
  rintro _ _ ⟨rfl,rfl⟩
  refine gK 2 [(68,.bool (!(decide (S.X.ah < 8192))))] [] ?_
  refine NN (af.cu (p:=S.X.ah < 8192) (fun _=>by kernel_rfl) (fun h68=>?_) (fun h68=>?_))
  ·refine SR (gK 1 [(4,vI 177)] [] ?_)
   refine NN (af.ret (ai.ax (ai.aj ?_)))
   exact RT (vI 177) [0,1,2,3,4,5,6,7] (⟨L,by rw [show (cx S c)=(177,S,c) by unfold cx;rw [hab];simp only;rw [iM];simp only;rw [show (dZ S d c.name to c.text)=(177,S) by unfold dZ;rw [hlk];exact (if_neg (by simp)).trans ((if_pos bg).trans (if_neg h68))]]<;>exact⟨rfl,rfl⟩⟩)
  refine af.skip (ai.aF (NX (SR ?_)))
  refine gK 7 [(72,vP f),(73,vP (L.b to)),(77,.string c.text),(78,.iface 73 (vP (L.b tk)))] [(5,a_ 6 cb)] ?_
  refine gL [0,3,5] (fW S.X f m t hX S.O L to dG c.text hC.tx bg (by omega) ⟨tk,3⟩ hkt (by simp) (by have:=hI.lb hlv;simp only at this ⊢;omega)) ?_
  rintro _ _ ⟨rfl,rfl⟩
  refine NS (ak.cW [(5,.abs (ay (bq (cC S.X S.O to c.text ⟨tk,3⟩) L)))] (fun w hS=>by rw [show bq (cC S.X S.O to c.text ⟨tk,3⟩) L=bq S.O L from fZ];exact hS) ?_)
  refine gK 1 [(4,vI 0)] [] ?_
  refine NN (af.ret ?_)
  exact RT (vI 0) [0,3,4,1,5,2,6,7] (⟨L,by rw [show (cx S c)=(0,{ S with X:={ S.X with ah:=S.X.ah+1 },O:=cC S.X S.O to c.text ⟨tk,3⟩ },c) by unfold cx;rw [hab];simp only;rw [iM];simp only;rw [show (dZ S d c.name to c.text)=(0,{ S with X:={ S.X with ah:=S.X.ah+1 },O:=cC S.X S.O to c.text ⟨tk,3⟩ }) by unfold dZ;rw [hlk];exact (if_neg (by simp)).trans ((if_pos bg).trans (if_pos h68))]]<;>exact⟨rfl,rfl⟩⟩)
 ·have kA:(obj S.O ok).kind=1:=hI.kind d8
  refine af.bp (by kernel_rfl) (by kernel_rfl) ?_
  refine gQ 8 (ul L to c) [(3,v_ 3 (br L dG)),(7,a_ 6 cb)] ?_
  refine oz 5 dG bg ?_
  refine gQ 2 [(57,.bool true)] [] ?_
  refine NQ (NX ?_)
  refine CT (SR (gK 1 [(4,vI 171)] [] ?_))
  refine NN (af.ret (ai.ax (ai.aj ?_)))
  exact RT (vI 171) [0,1,2,3,4,5,6,7] (⟨L,by rw [show (cx S c)=(171,S,c) by unfold cx;rw [hab];simp only;rw [iM];simp only;rw [show (dZ S d c.name to c.text)=(171,S) by unfold dZ;rw [hlk];exact (if_neg (by simp)).trans (if_neg (by rw [bg];simp))]]<;>exact⟨rfl,rfl⟩⟩)
 ·have kA:(obj S.O ok).kind=2:=hI.kind d8
  refine af.bp (by kernel_rfl) (by kernel_rfl) ?_
  refine gQ 8 (ul L to c) [(3,v_ 3 (br L dG)),(7,a_ 6 cb)] ?_
  refine oz 5 dG bg ?_
  refine gQ 2 [(57,.bool true)] [] ?_
  refine NQ (NX ?_)
  refine CT (SR (gK 1 [(4,vI 171)] [] ?_))
  refine NN (af.ret (ai.ax (ai.aj ?_)))
  exact RT (vI 171) [0,1,2,3,4,5,6,7] (⟨L,by rw [show (cx S c)=(171,S,c) by unfold cx;rw [hab];simp only;rw [iM];simp only;rw [show (dZ S d c.name to c.text)=(171,S) by unfold dZ;rw [hlk];exact (if_neg (by simp)).trans (if_neg (by rw [bg];simp))]]<;>exact⟨rfl,rfl⟩⟩)
 have kA:(obj S.O ok).kind=3:=hI.kind d8
 refine af.bp (by kernel_rfl) (by kernel_rfl) ?_
 refine gQ 8 (ul L to c) [(3,v_ 3 (br L dG)),(7,a_ 6 cb)] ?_
 refine oz 5 dG bg ?_
 refine gQ 2 [(57,.bool true)] [] ?_
 refine NQ (NX ?_)
 refine CT (SR (gK 1 [(4,vI 171)] [] ?_))
 refine NN (af.ret (ai.ax (ai.aj ?_)))
 exact RT (vI 171) [0,1,2,3,4,5,6,7] (⟨L,by rw [show (cx S c)=(171,S,c) by unfold cx;rw [hab];simp only;rw [iM];simp only;rw [show (dZ S d c.name to c.text)=(171,S) by unfold dZ;rw [hlk];exact (if_neg (by simp)).trans (if_neg (by rw [bg];simp))]]<;>exact⟨rfl,rfl⟩⟩)
theorem CZ {β:Bs} (S:aH) (L:HL) (f m t:Nat) (hI:Inv S) (cb:Nat) (c:aQ) (hC:fI β c) :
    Spec Tryz.prog β 50 #[vP f,vP cb] ((pA f m t L S)++[pC cb c]) (fun v l=>∃ L2,v=vI (fR S c).1/\l=((pA f m t L2 ((fR S c).2.1))++[.blk cb (gM ((fR S c).2.2)) 50])):=by
 have hX:=hI.hX
 refine Spec.enter Tryz.func50 rfl Tryz.ntmps50 (Nat.le_of_ble_eq_true rfl) (fun R=>?_)
 refine af.seq ?_
 rcases hI.hand c.handle with cT|⟨tk,cT,hlv⟩|⟨tk,cT,hlv⟩
 ·refine af.region (gK 1 [] [] ?_)
  refine NN (af.seq (af.bp (by kernel_rfl) (by kernel_rfl) ?_))
  refine gQ 8 (Io t c) [(3,a_ 0 f),(7,a_ 6 cb)] ?_
  refine aK.call (f:=77) (args:=#[vP t,vI (c.handle)]) (d:=(some 18)) (pre:=[kB t S L]) (R:=(om f m t S L cb c R)) (pk:=[2,0,1,3,4,5,6,7]) (gq:=[1,2,0,3,4,5,6,7]) (v0:=.tuple #[.nilIface,vI 131]) (fun _=>by kernel_rfl) (nQ t S.X.cH S.av (aT L S.us) c.handle hC.hw (ni cT)) rfl (by kernel_rfl) rfl (by kernel_rfl) (fun _ _ h=>h) ?_
  refine gQ 5 [(5,.nilIface),(6,vI 131)] [] ?_
  refine NQ (NX (af.seq (SR ?_)))
  refine gK 2 [(22,.bool true)] [] ?_
  refine NN (CT (SR (gK 2 [(4,vI 131)] [] ?_)))
  refine NN (af.ret (ai.aj ?_))
  exact RT (vI 131) [0,1,2,3,4,5,6,7] (⟨L,by rw [show (fR S c)=(131,S,c) by unfold fR;rw [cT]]<;>exact⟨rfl,rfl⟩⟩)
 ·have hkt:(obj S.O tk).kind=1:=hI.kind hlv
  refine af.region (gK 1 [] [] ?_)
  refine NN (af.seq (af.bp (by kernel_rfl) (by kernel_rfl) ?_))
  refine gQ 8 (Io t c) [(3,a_ 0 f),(7,a_ 6 cb)] ?_
  refine aK.call (f:=77) (args:=#[vP t,vI (c.handle)]) (d:=(some 18)) (pre:=[kB t S L]) (R:=(om f m t S L cb c R)) (pk:=[2,0,1,3,4,5,6,7]) (gq:=[1,2,0,3,4,5,6,7]) (v0:=.tuple #[.iface 69 (vP (L.b tk)),vI 0]) (fun _=>by kernel_rfl) (jN t S.X.cH S.av (aT L S.us) c.handle hC.hw (dh L ⟨tk,1⟩) (jg cT)) rfl (by kernel_rfl) rfl (by kernel_rfl) (fun _ _ h=>h) ?_
  refine gQ 5 (EJ L tk) [] ?_
  refine NQ (NX (af.seq (SR ?_)))
  refine gK 2 [(22,.bool false)] [] ?_
  refine NN (CF (af.skip (NX (SR (gK 7 [(7,vP (L.b tk)),(8,.bool true)] [] ?_)))))
  refine NN (af.seq (SR (gK 2 [(30,.bool false)] [] ?_)))
  refine NN (CF (af.skip (NX (SR (gK 7 [(32,vP cb),(33,vP f),(34,vP (L.b tk)),(38,.slice c.dA (c.data.length) (c.dC))] [(6,a_ 6 cb)] ?_)))))
  refine gL [0,1,2,3,4,5] (Gj S L f m t hI tk hlv c.dA c.dC c.data hC.da hC.dl hC.dc) ?_
  rintro _ _ ⟨L2,rfl,rfl⟩
  refine gC 7 [(6,vI ((fH S tk c.data).2.1))] [(5,a_ 6 cb)] [(6,[(12,vI ((fH S tk c.data).1))])] ?_
  refine NS (gK 2 [(4,vI ((fH S tk c.data).2.1))] [] ?_)
  refine NN (af.ret ?_)
  exact RT (vI ((fH S tk c.data).2.1)) [0,1,2,3,4,5,6,7] (⟨L2,by rw [show (fR S c)=((fH S tk c.data).2.1,(fH S tk c.data).2.2,{ c with answer:=(fH S tk c.data).1 }) by unfold fR;rw [cT];exact if_pos rfl]<;>exact⟨rfl,rfl⟩⟩)
 have hkt:(obj S.O tk).kind=2:=hI.kind hlv
 refine af.region (gK 1 [] [] ?_)
 refine NN (af.seq (af.bp (by kernel_rfl) (by kernel_rfl) ?_))
 refine gQ 8 (Io t c) [(3,a_ 0 f),(7,a_ 6 cb)] ?_
 refine aK.call (f:=77) (args:=#[vP t,vI (c.handle)]) (d:=(some 18)) (pre:=[kB t S L]) (R:=(om f m t S L cb c R)) (pk:=[2,0,1,3,4,5,6,7]) (gq:=[1,2,0,3,4,5,6,7]) (v0:=.tuple #[.iface 76 (vP (L.b tk)),vI 0]) (fun _=>by kernel_rfl) (jN t S.X.cH S.av (aT L S.us) c.handle hC.hw (dh L ⟨tk,2⟩) (jg cT)) rfl (by kernel_rfl) rfl (by kernel_rfl) (fun _ _ h=>h) ?_
 refine gQ 5 (EK L tk) [] ?_
 refine NQ (NX (af.seq (SR ?_)))
 refine gK 2 [(22,.bool false)] [] ?_
 refine NN (CF (af.skip (NX (SR (gK 7 [(7,.pointer none),(8,.bool false)] [] ?_)))))
 refine NN (af.seq (SR (gK 2 [(30,.bool true)] [] ?_)))
 refine NN (CT (SR (gK 1 [(4,vI 172)] [] ?_)))
 refine NN (af.ret (ai.aj ?_))
 exact RT (vI 172) [0,1,2,3,4,5,6,7] (⟨L,by rw [show (fR S c)=(172,S,c) by unfold fR;rw [cT];exact if_neg (by simp)]<;>exact⟨rfl,rfl⟩⟩)
theorem lM {β:Bs} (S:aH) (L:HL) (hI:Inv S) (cb:Nat) (c:aQ) (ot:Option Th) (ht:ot=none\/(∃ k,ot=some ⟨k,1⟩/\Live S.idx ⟨k,1⟩)\/(∃ k,ot=some ⟨k,2⟩/\Live S.idx ⟨k,2⟩)\/∃ k,ot=some ⟨k,3⟩/\Live S.idx ⟨k,3⟩) :
    Spec Tryz.prog β 79 #[vP cb,(match ot with|none=>.nilIface|some th=>dh L th)] [pO S.O L,pC cb c] (fun v l=>v=.tuple #[]/\l=[pO S.O L,.blk cb (gM (lC S.O c ot)) 50]):=by
 refine Spec.enter Tryz.func79 rfl Tryz.ntmps79 (Nat.le_of_ble_eq_true rfl) (fun R=>?_)
 refine af.seq ?_
 rcases ht with rfl|⟨tk,rfl,hlv⟩|⟨tk,rfl,hlv⟩|⟨tk,rfl,hlv⟩
 ·refine af.region (gC 21 [] [(8,a_ 1 cb),(11,a_ 1 cb),(14,a_ 1 cb),(17,a_ 1 cb),(20,A_ 1 cb 2)] [(1,(EI))] ?_)
  refine NN (af.seq (SR (gK 2 [(22,.bool true)] [] ?_)))
  refine NN (CT (af.ret (ai.aj ?_)))
  exact RT (.tuple #[]) [0,1,2] (⟨rfl,rfl⟩)
 ·have hkt:(obj S.O tk).kind=1:=hI.kind hlv
  refine af.region (gC 21 [] [(8,a_ 1 cb),(11,a_ 1 cb),(14,a_ 1 cb),(17,a_ 1 cb),(20,A_ 1 cb 2)] [(1,(EI))] ?_)
  refine NN (af.seq (SR (gK 2 [(22,.bool false)] [] ?_)))
  refine NN (CF (af.skip (NX (SR (gK 1 [(23,.iface 69 (vP (L.b tk)))] [] ?_)))))
  refine gL [] (cJ (L.b tk)) ?_
  rintro _ _ ⟨rfl,rfl⟩
  refine gK 1 [(4,vP (L.b tk))] [] ?_
  refine NN (af.ct (S:=[pO S.O L]) [0,1,2,3,4,5,6,7,8,9,10,12,13,14,15,16,17,18,19,20,21,22,23,24,25,26,27,11,28,29,30,31,32,33,34,35,36,37,38,39,40,41,42,43,44,45] 27 [0] (by kernel_rfl) (by kernel_rfl) rfl (by kernel_rfl) ?_)
  refine gR 0 [11,28,29,30,31,32,33,34,35,36,37,38,39,40,41,42,43,44,45] (Ik cb S tk++[(35,.iface 69 (vP (L.b tk)))]++Il S tk) [0,1,2,3,4,5,6,7,8,9,10,12,13,14,15,16,17,18,19,20,21,22,23,24,25,26,27] [(9,v_ 0 (oh L hkt)),(14,v_ 0 (pP L hkt)),(18,v_ 0 (uR L hkt)),(22,v_ 0 (uS L hkt)),(26,p_ ⟨[.view 0 (.int .i64 ((obj S.O tk).sec)),.view 0 (.int .i64 ((obj S.O tk).nano))],none,none,none,none⟩ [(∀ F w,(ay (bD S.O L)).h F w->w.cell? ⟨(L.b tk),5,none⟩=some (vI ((obj S.O tk).nano))),(∀ F w,(ay (bD S.O L)).h F w->w.cell? ⟨(L.b tk),4,none⟩=some (vI ((obj S.O tk).sec)))] ⟨dw (by rw [hkt];decide) (rfl),dw (by rw [hkt];decide) (rfl),trivial⟩)] ?_
  refine mL [0] [] (kg (vP (L.b tk))) ?_ (by rintro _ _ ⟨rfl,rfl⟩;rfl)
  rintro _ _ ⟨rfl,rfl⟩
  refine aG.cut (ι:=Unit) (fr':=fun (_:Unit)=>([(26,vP cb)]++ol cb++[(34,vI ((obj S.O tk).id)),(36,vI 1),(40,vI ((obj S.O tk).mode))]++j4 S tk++[(53,vP cb)])) (hp':=fun (_:Unit)=>[pO S.O L,Dy cb c,.abs R]) [0] rfl rfl ?_ rfl (fun _=>by kernel_rfl) ?_
  ·refine gK 1 [(53,vP cb)] [] ?_
   refine NL ?_
   exact MD () [26,27,28,29,30,34,36,40,44,48,52,53] [0,1,2]
  rintro _
  refine aG.cut (ι:=Unit) (fr':=fun (_:Unit)=>([(26,vP cb)]++ol cb++[(34,vI ((obj S.O tk).id)),(36,vI 1),(40,vI ((obj S.O tk).mode))]++j4 S tk++[(54,.pointer (some ⟨cb,12,none⟩))])) (hp':=fun (_:Unit)=>[pO S.O L,Dy cb c,.abs R]) [0] rfl rfl ?_ rfl (fun _=>by kernel_rfl) ?_
  ·refine gK 1 [(54,.pointer (some ⟨cb,12,none⟩))] [] ?_
   refine NL ?_
   exact MD () [26,27,28,29,30,34,36,40,44,48,52,54] [0,1,2]
  rintro _
  refine mC [0] [] [(0,a_ 1 cb)] [(1,[(12,vI ((obj S.O tk).id))])] ?_
  refine aG.cut (ι:=Unit) (fr':=fun (_:Unit)=>(ol cb++[(36,vI 1),(40,vI ((obj S.O tk).mode))]++j4 S tk++[(55,vP cb)])) (hp':=fun (_:Unit)=>[pO S.O L,Dz cb c S tk,.abs R]) [0] rfl rfl ?_ rfl (fun _=>by kernel_rfl) ?_
  ·refine gK 1 [(55,vP cb)] [] ?_
   refine NL ?_
   exact MD () [27,28,29,30,36,40,44,48,52,55] [0,1,2]
  rintro _
  refine aG.cut (ι:=Unit) (fr':=fun (_:Unit)=>(ol cb++[(36,vI 1),(40,vI ((obj S.O tk).mode))]++j4 S tk++[(56,.pointer (some ⟨cb,2,none⟩))])) (hp':=fun (_:Unit)=>[pO S.O L,Dz cb c S tk,.abs R]) [0] rfl rfl ?_ rfl (fun _=>by kernel_rfl) ?_
  ·refine gK 1 [(56,.pointer (some ⟨cb,2,none⟩))] [] ?_
   refine NL ?_
   exact MD () [27,28,29,30,36,40,44,48,52,56] [0,1,2]
  rintro _
  refine mC [0] [] [(0,a_ 1 cb)] [(1,[(2,vI 1)])] ?_
  refine aG.cut (ι:=Unit) (fr':=fun (_:Unit)=>(yM cb S tk++j4 S tk++[(57,vP cb)])) (hp':=fun (_:Unit)=>[pO S.O L,pC cb { c with other:=1,mode:=0,uid:=0,gid:=0,sec:=0,nano:=0,answer:=(obj S.O tk).id },.abs R]) [0] rfl rfl ?_ rfl (fun _=>by kernel_rfl) ?_
  ·refine gK 1 [(57,vP cb)] [] ?_
   refine NL ?_
   exact MD () [28,29,30,40,44,48,52,57] [0,1,2]
  rintro _
  refine aG.cut (ι:=Unit) (fr':=fun (_:Unit)=>(yM cb S tk++j4 S tk++[(58,.pointer (some ⟨cb,6,none⟩))])) (hp':=fun (_:Unit)=>[pO S.O L,pC cb { c with other:=1,mode:=0,uid:=0,gid:=0,sec:=0,nano:=0,answer:=(obj S.O tk).id },.abs R]) [0] rfl rfl ?_ rfl (fun _=>by kernel_rfl) ?_
  ·refine gK 1 [(58,.pointer (some ⟨cb,6,none⟩))] [] ?_
   refine NL ?_
   exact MD () [28,29,30,40,44,48,52,58] [0,1,2]
  rintro _
  refine mC [0] [] [(0,a_ 1 cb)] [(1,[(6,vI ((obj S.O tk).mode))])] ?_
  refine aG.cut (ι:=Unit) (fr':=fun (_:Unit)=>([(29,vP cb),(30,vP cb)]++j4 S tk++[(59,vP cb)])) (hp':=fun (_:Unit)=>[pO S.O L,pC cb { c with other:=1,mode:=(obj S.O tk).mode,uid:=0,gid:=0,sec:=0,nano:=0,answer:=(obj S.O tk).id },.abs R]) [0] rfl rfl ?_ rfl (fun _=>by kernel_rfl) ?_
  ·refine gK 1 [(59,vP cb)] [] ?_
   refine NL ?_
   exact MD () [29,30,44,48,52,59] [0,1,2]
  rintro _
  refine aG.cut (ι:=Unit) (fr':=fun (_:Unit)=>([(29,vP cb),(30,vP cb)]++j4 S tk++[(60,.pointer (some ⟨cb,7,none⟩))])) (hp':=fun (_:Unit)=>[pO S.O L,pC cb { c with other:=1,mode:=(obj S.O tk).mode,uid:=0,gid:=0,sec:=0,nano:=0,answer:=(obj S.O tk).id },.abs R]) [0] rfl rfl ?_ rfl (fun _=>by kernel_rfl) ?_
  ·refine gK 1 [(60,.pointer (some ⟨cb,7,none⟩))] [] ?_
   refine NL ?_
   exact MD () [29,30,44,48,52,60] [0,1,2]
  rintro _
  refine mC [0] [] [(0,a_ 1 cb)] [(1,[(7,vI ((obj S.O tk).uid))])] ?_
  refine aG.cut (ι:=Unit) (fr':=fun (_:Unit)=>(yK cb S tk++[(61,vP cb)])) (hp':=fun (_:Unit)=>[pO S.O L,Ni cb c S tk,.abs R]) [0] rfl rfl ?_ rfl (fun _=>by kernel_rfl) ?_
  ·refine gK 1 [(61,vP cb)] [] ?_
   refine NL ?_
   exact MD () [30,48,52,61] [0,1,2]
  rintro _
  refine aG.cut (ι:=Unit) (fr':=fun (_:Unit)=>(yK cb S tk++[(62,.pointer (some ⟨cb,8,none⟩))])) (hp':=fun (_:Unit)=>[pO S.O L,Ni cb c S tk,.abs R]) [0] rfl rfl ?_ rfl (fun _=>by kernel_rfl) ?_
  ·refine gK 1 [(62,.pointer (some ⟨cb,8,none⟩))] [] ?_
   refine NL ?_
   exact MD () [30,48,52,62] [0,1,2]
  rintro _
  refine mC [0] [] [(0,a_ 1 cb)] [(1,[(8,vI ((obj S.O tk).gid))])] ?_
  refine aG.cut (ι:=Unit) (fr':=fun (_:Unit)=>[(52,.agg #[vI ((obj S.O tk).sec),vI ((obj S.O tk).nano)]),(63,vP cb)]) (hp':=fun (_:Unit)=>[pO S.O L,Nj cb c S tk,.abs R]) [0] rfl rfl ?_ rfl (fun _=>by kernel_rfl) ?_
  ·refine gK 1 [(63,vP cb)] [] ?_
   refine NL ?_
   exact MD () [52,63] [0,1,2]
  rintro _
  refine aG.cut (ι:=Unit) (fr':=fun (_:Unit)=>(Im S tk cb)) (hp':=fun (_:Unit)=>[pO S.O L,Nj cb c S tk,.abs R]) [0] rfl rfl ?_ rfl (fun _=>by kernel_rfl) ?_
  ·refine gK 1 [(64,.pointer (some ⟨cb,9,none⟩))] [] ?_
   refine NL ?_
   exact MD () [52,64] [0,1,2]
  rintro _
  refine aG.last rfl rfl ?_
  refine gC 1 [] [(0,A_ 1 cb 2)] [(1,(Ip S tk))] ?_
  refine NL (ai.np ?_)
  exact RF (.tuple #[]) [0,1,2] (⟨rfl,rfl⟩)
 ·have hkt:(obj S.O tk).kind=2:=hI.kind hlv
  refine af.region (gC 21 [] [(8,a_ 1 cb),(11,a_ 1 cb),(14,a_ 1 cb),(17,a_ 1 cb),(20,A_ 1 cb 2)] [(1,(EI))] ?_)
  refine NN (af.seq (SR (gK 2 [(22,.bool false)] [] ?_)))
  refine NN (CF (af.skip (NX (SR (gK 1 [(23,.iface 76 (vP (L.b tk)))] [] ?_)))))
  refine gL [] (cJ (L.b tk)) ?_
  rintro _ _ ⟨rfl,rfl⟩
  refine gK 1 [(4,vP (L.b tk))] [] ?_
  refine NN (af.ct (S:=[pO S.O L]) [0,1,2,3,4,5,6,7,8,9,10,12,13,14,15,16,17,18,19,20,21,22,23,24,25,26,27,11,28,29,30,31,32,33,34,35,36,37,38,39,40,41,42,43,44,45] 27 [0] (by kernel_rfl) (by kernel_rfl) rfl (by kernel_rfl) ?_)
  refine gR 0 [11,28,29,30,31,32,33,34,35,36,37,38,39,40,41,42,43,44,45] (Ik cb S tk++[(35,.iface 76 (vP (L.b tk)))]++Il S tk) [0,1,2,3,4,5,6,7,8,9,10,12,13,14,15,16,17,18,19,20,21,22,23,24,25,26,27] [(9,v_ 0 (oh L hkt)),(14,v_ 0 (pP L hkt)),(18,v_ 0 (uR L hkt)),(22,v_ 0 (uS L hkt)),(26,p_ ⟨[.view 0 (.int .i64 ((obj S.O tk).sec)),.view 0 (.int .i64 ((obj S.O tk).nano))],none,none,none,none⟩ [(∀ F w,(ay (bD S.O L)).h F w->w.cell? ⟨(L.b tk),5,none⟩=some (vI ((obj S.O tk).nano))),(∀ F w,(ay (bD S.O L)).h F w->w.cell? ⟨(L.b tk),4,none⟩=some (vI ((obj S.O tk).sec)))] ⟨dw (by rw [hkt];decide) (rfl),dw (by rw [hkt];decide) (rfl),trivial⟩)] ?_
  refine mL [0] [] (ko (vP (L.b tk))) ?_ (by rintro _ _ ⟨rfl,rfl⟩;rfl)
  rintro _ _ ⟨rfl,rfl⟩
  refine aG.cut (ι:=Unit) (fr':=fun (_:Unit)=>([(26,vP cb)]++ol cb++[(34,vI ((obj S.O tk).id)),(36,vI 2),(40,vI ((obj S.O tk).mode))]++j4 S tk++[(53,vP cb)])) (hp':=fun (_:Unit)=>[pO S.O L,Dy cb c,.abs R]) [0] rfl rfl ?_ rfl (fun _=>by kernel_rfl) ?_
  ·refine gK 1 [(53,vP cb)] [] ?_
   refine NL ?_
   exact MD () [26,27,28,29,30,34,36,40,44,48,52,53] [0,1,2]
  rintro _
  refine aG.cut (ι:=Unit) (fr':=fun (_:Unit)=>([(26,vP cb)]++ol cb++[(34,vI ((obj S.O tk).id)),(36,vI 2),(40,vI ((obj S.O tk).mode))]++j4 S tk++[(54,.pointer (some ⟨cb,12,none⟩))])) (hp':=fun (_:Unit)=>[pO S.O L,Dy cb c,.abs R]) [0] rfl rfl ?_ rfl (fun _=>by kernel_rfl) ?_
  ·refine gK 1 [(54,.pointer (some ⟨cb,12,none⟩))] [] ?_
   refine NL ?_
   exact MD () [26,27,28,29,30,34,36,40,44,48,52,54] [0,1,2]
  rintro _
  refine mC [0] [] [(0,a_ 1 cb)] [(1,[(12,vI ((obj S.O tk).id))])] ?_
  refine aG.cut (ι:=Unit) (fr':=fun (_:Unit)=>(ol cb++[(36,vI 2),(40,vI ((obj S.O tk).mode))]++j4 S tk++[(55,vP cb)])) (hp':=fun (_:Unit)=>[pO S.O L,Dz cb c S tk,.abs R]) [0] rfl rfl ?_ rfl (fun _=>by kernel_rfl) ?_
  ·refine gK 1 [(55,vP cb)] [] ?_
   refine NL ?_
   exact MD () [27,28,29,30,36,40,44,48,52,55] [0,1,2]
  rintro _
  refine aG.cut (ι:=Unit) (fr':=fun (_:Unit)=>(ol cb++[(36,vI 2),(40,vI ((obj S.O tk).mode))]++j4 S tk++[(56,.pointer (some ⟨cb,2,none⟩))])) (hp':=fun (_:Unit)=>[pO S.O L,Dz cb c S tk,.abs R]) [0] rfl rfl ?_ rfl (fun _=>by kernel_rfl) ?_
  ·refine gK 1 [(56,.pointer (some ⟨cb,2,none⟩))] [] ?_
   refine NL ?_
   exact MD () [27,28,29,30,36,40,44,48,52,56] [0,1,2]
  rintro _
  refine mC [0] [] [(0,a_ 1 cb)] [(1,[(2,vI 2)])] ?_
  refine aG.cut (ι:=Unit) (fr':=fun (_:Unit)=>(yM cb S tk++j4 S tk++[(57,vP cb)])) (hp':=fun (_:Unit)=>[pO S.O L,pC cb { c with other:=2,mode:=0,uid:=0,gid:=0,sec:=0,nano:=0,answer:=(obj S.O tk).id },.abs R]) [0] rfl rfl ?_ rfl (fun _=>by kernel_rfl) ?_
  ·refine gK 1 [(57,vP cb)] [] ?_
   refine NL ?_
   exact MD () [28,29,30,40,44,48,52,57] [0,1,2]
  rintro _
  refine aG.cut (ι:=Unit) (fr':=fun (_:Unit)=>(yM cb S tk++j4 S tk++[(58,.pointer (some ⟨cb,6,none⟩))])) (hp':=fun (_:Unit)=>[pO S.O L,pC cb { c with other:=2,mode:=0,uid:=0,gid:=0,sec:=0,nano:=0,answer:=(obj S.O tk).id },.abs R]) [0] rfl rfl ?_ rfl (fun _=>by kernel_rfl) ?_
  ·refine gK 1 [(58,.pointer (some ⟨cb,6,none⟩))] [] ?_
   refine NL ?_
   exact MD () [28,29,30,40,44,48,52,58] [0,1,2]
  rintro _
  refine mC [0] [] [(0,a_ 1 cb)] [(1,[(6,vI ((obj S.O tk).mode))])] ?_
  refine aG.cut (ι:=Unit) (fr':=fun (_:Unit)=>([(29,vP cb),(30,vP cb)]++j4 S tk++[(59,vP cb)])) (hp':=fun (_:Unit)=>[pO S.O L,pC cb { c with other:=2,mode:=(obj S.O tk).mode,uid:=0,gid:=0,sec:=0,nano:=0,answer:=(obj S.O tk).id },.abs R]) [0] rfl rfl ?_ rfl (fun _=>by kernel_rfl) ?_
  ·refine gK 1 [(59,vP cb)] [] ?_
   refine NL ?_
   exact MD () [29,30,44,48,52,59] [0,1,2]
  rintro _
  refine aG.cut (ι:=Unit) (fr':=fun (_:Unit)=>([(29,vP cb),(30,vP cb)]++j4 S tk++[(60,.pointer (some ⟨cb,7,none⟩))])) (hp':=fun (_:Unit)=>[pO S.O L,pC cb { c with other:=2,mode:=(obj S.O tk).mode,uid:=0,gid:=0,sec:=0,nano:=0,answer:=(obj S.O tk).id },.abs R]) [0] rfl rfl ?_ rfl (fun _=>by kernel_rfl) ?_
  ·refine gK 1 [(60,.pointer (some ⟨cb,7,none⟩))] [] ?_
   refine NL ?_
   exact MD () [29,30,44,48,52,60] [0,1,2]
  rintro _
  refine mC [0] [] [(0,a_ 1 cb)] [(1,[(7,vI ((obj S.O tk).uid))])] ?_
  refine aG.cut (ι:=Unit) (fr':=fun (_:Unit)=>(yK cb S tk++[(61,vP cb)])) (hp':=fun (_:Unit)=>[pO S.O L,Nk cb c S tk,.abs R]) [0] rfl rfl ?_ rfl (fun _=>by kernel_rfl) ?_
  ·refine gK 1 [(61,vP cb)] [] ?_
   refine NL ?_
   exact MD () [30,48,52,61] [0,1,2]
  rintro _
  refine aG.cut (ι:=Unit) (fr':=fun (_:Unit)=>(yK cb S tk++[(62,.pointer (some ⟨cb,8,none⟩))])) (hp':=fun (_:Unit)=>[pO S.O L,Nk cb c S tk,.abs R]) [0] rfl rfl ?_ rfl (fun _=>by kernel_rfl) ?_
  ·refine gK 1 [(62,.pointer (some ⟨cb,8,none⟩))] [] ?_
   refine NL ?_
   exact MD () [30,48,52,62] [0,1,2]
  rintro _
  refine mC [0] [] [(0,a_ 1 cb)] [(1,[(8,vI ((obj S.O tk).gid))])] ?_
  refine aG.cut (ι:=Unit) (fr':=fun (_:Unit)=>[(52,.agg #[vI ((obj S.O tk).sec),vI ((obj S.O tk).nano)]),(63,vP cb)]) (hp':=fun (_:Unit)=>[pO S.O L,Nl cb c S tk,.abs R]) [0] rfl rfl ?_ rfl (fun _=>by kernel_rfl) ?_
  ·refine gK 1 [(63,vP cb)] [] ?_
   refine NL ?_
   exact MD () [52,63] [0,1,2]
  rintro _
  refine aG.cut (ι:=Unit) (fr':=fun (_:Unit)=>(Im S tk cb)) (hp':=fun (_:Unit)=>[pO S.O L,Nl cb c S tk,.abs R]) [0] rfl rfl ?_ rfl (fun _=>by kernel_rfl) ?_
  ·refine gK 1 [(64,.pointer (some ⟨cb,9,none⟩))] [] ?_
   refine NL ?_
   exact MD () [52,64] [0,1,2]
  rintro _
  refine aG.last rfl rfl ?_
  refine gC 1 [] [(0,A_ 1 cb 2)] [(1,(Ip S tk))] ?_
  refine NL (ai.np ?_)
  exact RF (.tuple #[]) [0,1,2] (⟨rfl,rfl⟩)
 have hkt:(obj S.O tk).kind=3:=hI.kind hlv
 refine af.region (gC 21 [] [(8,a_ 1 cb),(11,a_ 1 cb),(14,a_ 1 cb),(17,a_ 1 cb),(20,A_ 1 cb 2)] [(1,(EI))] ?_)
 refine NN (af.seq (SR (gK 2 [(22,.bool false)] [] ?_)))
 refine NN (CF (af.skip (NX (SR (gK 1 [(23,.iface 73 (vP (L.b tk)))] [] ?_)))))
 refine gL [] (cJ (L.b tk)) ?_
 rintro _ _ ⟨rfl,rfl⟩
 refine gK 1 [(4,vP (L.b tk))] [] ?_
 refine NN (af.ct (S:=[pO S.O L]) [0,1,2,3,4,5,6,7,8,9,10,12,13,14,15,16,17,18,19,20,21,22,23,24,25,26,27,11,28,29,30,31,32,33,34,35,36,37,38,39,40,41,42,43,44,45] 27 [0] (by kernel_rfl) (by kernel_rfl) rfl (by kernel_rfl) ?_)
 refine gR 0 [11,28,29,30,31,32,33,34,35,36,37,38,39,40,41,42,43,44,45] (Ik cb S tk++[(35,.iface 73 (vP (L.b tk)))]++Il S tk) [0,1,2,3,4,5,6,7,8,9,10,12,13,14,15,16,17,18,19,20,21,22,23,24,25,26,27] [(9,v_ 0 (oh L hkt)),(14,v_ 0 (pP L hkt)),(18,v_ 0 (uR L hkt)),(22,v_ 0 (uS L hkt)),(26,p_ ⟨[.view 0 (.int .i64 ((obj S.O tk).sec)),.view 0 (.int .i64 ((obj S.O tk).nano))],none,none,none,none⟩ [(∀ F w,(ay (bD S.O L)).h F w->w.cell? ⟨(L.b tk),5,none⟩=some (vI ((obj S.O tk).nano))),(∀ F w,(ay (bD S.O L)).h F w->w.cell? ⟨(L.b tk),4,none⟩=some (vI ((obj S.O tk).sec)))] ⟨dw (by rw [hkt];decide) (rfl),dw (by rw [hkt];decide) (rfl),trivial⟩)] ?_
 refine mL [0] [] (lH (vP (L.b tk))) ?_ (by rintro _ _ ⟨rfl,rfl⟩;rfl)
 rintro _ _ ⟨rfl,rfl⟩
 refine aG.cut (ι:=Unit) (fr':=fun (_:Unit)=>([(26,vP cb)]++ol cb++[(34,vI ((obj S.O tk).id)),(36,vI 3),(40,vI ((obj S.O tk).mode))]++j4 S tk++[(53,vP cb)])) (hp':=fun (_:Unit)=>[pO S.O L,Dy cb c,.abs R]) [0] rfl rfl ?_ rfl (fun _=>by kernel_rfl) ?_
 ·refine gK 1 [(53,vP cb)] [] ?_
  refine NL ?_
  exact MD () [26,27,28,29,30,34,36,40,44,48,52,53] [0,1,2]
 rintro _
 refine aG.cut (ι:=Unit) (fr':=fun (_:Unit)=>([(26,vP cb)]++ol cb++[(34,vI ((obj S.O tk).id)),(36,vI 3),(40,vI ((obj S.O tk).mode))]++j4 S tk++[(54,.pointer (some ⟨cb,12,none⟩))])) (hp':=fun (_:Unit)=>[pO S.O L,Dy cb c,.abs R]) [0] rfl rfl ?_ rfl (fun _=>by kernel_rfl) ?_
 ·refine gK 1 [(54,.pointer (some ⟨cb,12,none⟩))] [] ?_
  refine NL ?_
  exact MD () [26,27,28,29,30,34,36,40,44,48,52,54] [0,1,2]
 rintro _
 refine mC [0] [] [(0,a_ 1 cb)] [(1,[(12,vI ((obj S.O tk).id))])] ?_
 refine aG.cut (ι:=Unit) (fr':=fun (_:Unit)=>(ol cb++[(36,vI 3),(40,vI ((obj S.O tk).mode))]++j4 S tk++[(55,vP cb)])) (hp':=fun (_:Unit)=>[pO S.O L,Dz cb c S tk,.abs R]) [0] rfl rfl ?_ rfl (fun _=>by kernel_rfl) ?_
 ·refine gK 1 [(55,vP cb)] [] ?_
  refine NL ?_
  exact MD () [27,28,29,30,36,40,44,48,52,55] [0,1,2]
 rintro _
 refine aG.cut (ι:=Unit) (fr':=fun (_:Unit)=>(ol cb++[(36,vI 3),(40,vI ((obj S.O tk).mode))]++j4 S tk++[(56,.pointer (some ⟨cb,2,none⟩))])) (hp':=fun (_:Unit)=>[pO S.O L,Dz cb c S tk,.abs R]) [0] rfl rfl ?_ rfl (fun _=>by kernel_rfl) ?_
 ·refine gK 1 [(56,.pointer (some ⟨cb,2,none⟩))] [] ?_
  refine NL ?_
  exact MD () [27,28,29,30,36,40,44,48,52,56] [0,1,2]
 rintro _
 refine mC [0] [] [(0,a_ 1 cb)] [(1,[(2,vI 3)])] ?_
 refine aG.cut (ι:=Unit) (fr':=fun (_:Unit)=>(yM cb S tk++j4 S tk++[(57,vP cb)])) (hp':=fun (_:Unit)=>[pO S.O L,pC cb { c with other:=3,mode:=0,uid:=0,gid:=0,sec:=0,nano:=0,answer:=(obj S.O tk).id },.abs R]) [0] rfl rfl ?_ rfl (fun _=>by kernel_rfl) ?_
 ·refine gK 1 [(57,vP cb)] [] ?_
  refine NL ?_
  exact MD () [28,29,30,40,44,48,52,57] [0,1,2]
 rintro _
 refine aG.cut (ι:=Unit) (fr':=fun (_:Unit)=>(yM cb S tk++j4 S tk++[(58,.pointer (some ⟨cb,6,none⟩))])) (hp':=fun (_:Unit)=>[pO S.O L,pC cb { c with other:=3,mode:=0,uid:=0,gid:=0,sec:=0,nano:=0,answer:=(obj S.O tk).id },.abs R]) [0] rfl rfl ?_ rfl (fun _=>by kernel_rfl) ?_
 ·refine gK 1 [(58,.pointer (some ⟨cb,6,none⟩))] [] ?_
  refine NL ?_
  exact MD () [28,29,30,40,44,48,52,58] [0,1,2]
 rintro _
 refine mC [0] [] [(0,a_ 1 cb)] [(1,[(6,vI ((obj S.O tk).mode))])] ?_
 refine aG.cut (ι:=Unit) (fr':=fun (_:Unit)=>([(29,vP cb),(30,vP cb)]++j4 S tk++[(59,vP cb)])) (hp':=fun (_:Unit)=>[pO S.O L,pC cb { c with other:=3,mode:=(obj S.O tk).mode,uid:=0,gid:=0,sec:=0,nano:=0,answer:=(obj S.O tk).id },.abs R]) [0] rfl rfl ?_ rfl (fun _=>by kernel_rfl) ?_
 ·refine gK 1 [(59,vP cb)] [] ?_
  refine NL ?_
  exact MD () [29,30,44,48,52,59] [0,1,2]
 rintro _
 refine aG.cut (ι:=Unit) (fr':=fun (_:Unit)=>([(29,vP cb),(30,vP cb)]++j4 S tk++[(60,.pointer (some ⟨cb,7,none⟩))])) (hp':=fun (_:Unit)=>[pO S.O L,pC cb { c with other:=3,mode:=(obj S.O tk).mode,uid:=0,gid:=0,sec:=0,nano:=0,answer:=(obj S.O tk).id },.abs R]) [0] rfl rfl ?_ rfl (fun _=>by kernel_rfl) ?_
 ·refine gK 1 [(60,.pointer (some ⟨cb,7,none⟩))] [] ?_
  refine NL ?_
  exact MD () [29,30,44,48,52,60] [0,1,2]
 rintro _
 refine mC [0] [] [(0,a_ 1 cb)] [(1,[(7,vI ((obj S.O tk).uid))])] ?_
 refine aG.cut (ι:=Unit) (fr':=fun (_:Unit)=>(yK cb S tk++[(61,vP cb)])) (hp':=fun (_:Unit)=>[pO S.O L,Nn cb c S tk,.abs R]) [0] rfl rfl ?_ rfl (fun _=>by kernel_rfl) ?_
 ·refine gK 1 [(61,vP cb)] [] ?_
  refine NL ?_
  exact MD () [30,48,52,61] [0,1,2]
 rintro _
 refine aG.cut (ι:=Unit) (fr':=fun (_:Unit)=>(yK cb S tk++[(62,.pointer (some ⟨cb,8,none⟩))])) (hp':=fun (_:Unit)=>[pO S.O L,Nn cb c S tk,.abs R]) [0] rfl rfl ?_ rfl (fun _=>by kernel_rfl) ?_
 ·refine gK 1 [(62,.pointer (some ⟨cb,8,none⟩))] [] ?_
  refine NL ?_
  exact MD () [30,48,52,62] [0,1,2]
 rintro _
 refine mC [0] [] [(0,a_ 1 cb)] [(1,[(8,vI ((obj S.O tk).gid))])] ?_
 refine aG.cut (ι:=Unit) (fr':=fun (_:Unit)=>[(52,.agg #[vI ((obj S.O tk).sec),vI ((obj S.O tk).nano)]),(63,vP cb)]) (hp':=fun (_:Unit)=>[pO S.O L,Np cb c S tk,.abs R]) [0] rfl rfl ?_ rfl (fun _=>by kernel_rfl) ?_
 ·refine gK 1 [(63,vP cb)] [] ?_
  refine NL ?_
  exact MD () [52,63] [0,1,2]
 rintro _
 refine aG.cut (ι:=Unit) (fr':=fun (_:Unit)=>(Im S tk cb)) (hp':=fun (_:Unit)=>[pO S.O L,Np cb c S tk,.abs R]) [0] rfl rfl ?_ rfl (fun _=>by kernel_rfl) ?_
 ·refine gK 1 [(64,.pointer (some ⟨cb,9,none⟩))] [] ?_
  refine NL ?_
  exact MD () [52,64] [0,1,2]
 rintro _
 refine aG.last rfl rfl ?_
 refine gC 1 [] [(0,A_ 1 cb 2)] [(1,(Ip S tk))] ?_
 refine NL (ai.np ?_)
 exact RF (.tuple #[]) [0,1,2] (⟨rfl,rfl⟩)
theorem EM {β:Bs} (S:aH) (L:HL) (f m t:Nat) (hI:Inv S) (cb:Nat) (c:aQ) (hC:fI β c) :
    Spec Tryz.prog β 52 #[vP f,vP cb] ((pA f m t L S)++[pC cb c]) (fun v l=>∃ L2,v=vI (j3 S c).1/\l=((pA f m t L2 ((j3 S c).2.1))++[.blk cb (gM ((j3 S c).2.2)) 50])):=by
 have hX:=hI.hX
 refine Spec.enter Tryz.func52 rfl Tryz.ntmps52 (Nat.le_of_ble_eq_true rfl) (fun R=>?_)
 refine af.seq ?_
 rcases hI.hand c.handle with cT|⟨tk,cT,hlv⟩|⟨tk,cT,hlv⟩
 ·refine af.region (gK 1 [] [] ?_)
  refine NN (af.seq (af.bp (by kernel_rfl) (by kernel_rfl) ?_))
  refine gQ 8 (yL t c) [(3,a_ 0 f),(7,a_ 6 cb)] ?_
  refine aK.call (f:=77) (args:=#[vP t,vI (c.handle)]) (d:=(some 16)) (pre:=[kB t S L]) (R:=(om f m t S L cb c R)) (pk:=[2,0,1,3,4,5,6,7]) (gq:=[1,2,0,3,4,5,6,7]) (v0:=.tuple #[.nilIface,vI 131]) (fun _=>by kernel_rfl) (nQ t S.X.cH S.av (aT L S.us) c.handle hC.hw (ni cT)) rfl (by kernel_rfl) rfl (by kernel_rfl) (fun _ _ h=>h) ?_
  refine gQ 5 [(5,.nilIface),(6,vI 131)] [] ?_
  refine NQ (NX (SR ?_))
  refine gK 2 [(19,vP cb),(20,.nilIface)] [] ?_
  refine gL [3,6] (lM S L hI cb c none (.inl rfl)) ?_
  rintro _ _ ⟨rfl,rfl⟩
  refine NS (gK 2 [(4,vI 131)] [] ?_)
  refine NN (af.ret ?_)
  exact RT (vI 131) [2,3,4,0,5,6,1,7] (⟨L,by rw [show (j3 S c)=(131,S,lC S.O c none) by unfold j3;rw [cT]]<;>exact⟨rfl,rfl⟩⟩)
 ·have hkt:(obj S.O tk).kind=1:=hI.kind hlv
  refine af.region (gK 1 [] [] ?_)
  refine NN (af.seq (af.bp (by kernel_rfl) (by kernel_rfl) ?_))
  refine gQ 8 (yL t c) [(3,a_ 0 f),(7,a_ 6 cb)] ?_
  refine aK.call (f:=77) (args:=#[vP t,vI (c.handle)]) (d:=(some 16)) (pre:=[kB t S L]) (R:=(om f m t S L cb c R)) (pk:=[2,0,1,3,4,5,6,7]) (gq:=[1,2,0,3,4,5,6,7]) (v0:=.tuple #[.iface 69 (vP (L.b tk)),vI 0]) (fun _=>by kernel_rfl) (jN t S.X.cH S.av (aT L S.us) c.handle hC.hw (dh L ⟨tk,1⟩) (jg cT)) rfl (by kernel_rfl) rfl (by kernel_rfl) (fun _ _ h=>h) ?_
  refine gQ 5 (EJ L tk) [] ?_
  refine NQ (NX (SR ?_))
  refine gK 2 [(19,vP cb),(20,.iface 69 (vP (L.b tk)))] [] ?_
  refine gL [3,6] (lM S L hI cb c (some ⟨tk,1⟩) (.inr (.inl ⟨tk,rfl,hlv⟩))) ?_
  rintro _ _ ⟨rfl,rfl⟩
  refine NS (gK 2 [(4,vI 0)] [] ?_)
  refine NN (af.ret ?_)
  exact RT (vI 0) [2,3,4,0,5,6,1,7] (⟨L,by rw [show (j3 S c)=(0,S,lC S.O c (some ⟨tk,1⟩)) by unfold j3;rw [cT]]<;>exact⟨rfl,rfl⟩⟩)
 have hkt:(obj S.O tk).kind=2:=hI.kind hlv
 refine af.region (gK 1 [] [] ?_)
 refine NN (af.seq (af.bp (by kernel_rfl) (by kernel_rfl) ?_))
 refine gQ 8 (yL t c) [(3,a_ 0 f),(7,a_ 6 cb)] ?_
 refine aK.call (f:=77) (args:=#[vP t,vI (c.handle)]) (d:=(some 16)) (pre:=[kB t S L]) (R:=(om f m t S L cb c R)) (pk:=[2,0,1,3,4,5,6,7]) (gq:=[1,2,0,3,4,5,6,7]) (v0:=.tuple #[.iface 76 (vP (L.b tk)),vI 0]) (fun _=>by kernel_rfl) (jN t S.X.cH S.av (aT L S.us) c.handle hC.hw (dh L ⟨tk,2⟩) (jg cT)) rfl (by kernel_rfl) rfl (by kernel_rfl) (fun _ _ h=>h) ?_
 refine gQ 5 (EK L tk) [] ?_
 refine NQ (NX (SR ?_))
 refine gK 2 [(19,vP cb),(20,.iface 76 (vP (L.b tk)))] [] ?_
 refine gL [3,6] (lM S L hI cb c (some ⟨tk,2⟩) (.inr (.inr (.inl ⟨tk,rfl,hlv⟩)))) ?_
 rintro _ _ ⟨rfl,rfl⟩
 refine NS (gK 2 [(4,vI 0)] [] ?_)
 refine NN (af.ret ?_)
 exact RT (vI 0) [2,3,4,0,5,6,1,7] (⟨L,by rw [show (j3 S c)=(0,S,lC S.O c (some ⟨tk,2⟩)) by unfold j3;rw [cT]]<;>exact⟨rfl,rfl⟩⟩)
theorem BX {β:Bs} (S:aH) (L:HL) (f m t:Nat) (hI:Inv S) (cb:Nat) (c:aQ) (hC:fI β c) :
    Spec Tryz.prog β 53 #[vP f,vP cb] ((pA f m t L S)++[pC cb c]) (fun v l=>∃ L2,v=vI (fS S c).1/\l=((pA f m t L2 ((fS S c).2.1))++[.blk cb (gM ((fS S c).2.2)) 50])):=by
 have hX:=hI.hX
 refine Spec.enter Tryz.func53 rfl Tryz.ntmps53 (Nat.le_of_ble_eq_true rfl) (fun R=>?_)
 refine SR (gK 1 [] [] ?_)
 refine NS (gK 2 [(8,vP f),(9,vP cb)] [] ?_)
 rcases xG hI.toInv0 c with ⟨e,hnm,hne⟩|⟨tk,hnm,hlv⟩|⟨tk,hnm,hlv⟩|⟨tk,hnm,hlv⟩
 ·refine gL (f:=67) (args:=#[vP f,vP cb]) (pre:=((pA f m t L S)++[pC cb c])) [0,1,2,3,4,5,6] ((by have h:=gh S L f m t hI cb c hC (β:=β);rw [hnm] at h;exact h)) ?_
  rintro _ _ ⟨rfl,rfl⟩
  refine gK 5 [(5,.nilIface),(6,vI (e))] [] ?_
  refine NS (gK 2 [(13,vP cb),(14,.nilIface)] [] ?_)
  refine gL [3,6] (lM S L hI cb c none (.inl rfl)) ?_
  rintro _ _ ⟨rfl,rfl⟩
  refine NS (gK 2 [(4,vI (e))] [] ?_)
  refine NN (af.ret ?_)
  exact RT (vI (e)) [2,3,4,0,5,6,1,7] (⟨L,by rw [show (fS S c)=(e,S,lC S.O c none) by unfold fS;rw [hnm]]<;>exact⟨rfl,rfl⟩⟩)
 ·have hkt:(obj S.O tk).kind=1:=hI.kind hlv
  refine gL (f:=67) (args:=#[vP f,vP cb]) (pre:=((pA f m t L S)++[pC cb c])) [0,1,2,3,4,5,6] ((by have h:=gh S L f m t hI cb c hC (β:=β);rw [hnm] at h;exact h)) ?_
  rintro _ _ ⟨rfl,rfl⟩
  refine gK 5 (EJ L tk) [] ?_
  refine NS (gK 2 [(13,vP cb),(14,.iface 69 (vP (L.b tk)))] [] ?_)
  refine gL [3,6] (lM S L hI cb c (some ⟨tk,1⟩) (.inr (.inl ⟨tk,rfl,hlv⟩))) ?_
  rintro _ _ ⟨rfl,rfl⟩
  refine NS (gK 2 [(4,vI 0)] [] ?_)
  refine NN (af.ret ?_)
  exact RT (vI 0) [2,3,4,0,5,6,1,7] (⟨L,by rw [show (fS S c)=(0,S,lC S.O c (some ⟨tk,1⟩)) by unfold fS;rw [hnm]]<;>exact⟨rfl,rfl⟩⟩)
 ·have hkt:(obj S.O tk).kind=2:=hI.kind hlv
  refine gL (f:=67) (args:=#[vP f,vP cb]) (pre:=((pA f m t L S)++[pC cb c])) [0,1,2,3,4,5,6] ((by have h:=gh S L f m t hI cb c hC (β:=β);rw [hnm] at h;exact h)) ?_
  rintro _ _ ⟨rfl,rfl⟩
  refine gK 5 (EK L tk) [] ?_
  refine NS (gK 2 [(13,vP cb),(14,.iface 76 (vP (L.b tk)))] [] ?_)
  refine gL [3,6] (lM S L hI cb c (some ⟨tk,2⟩) (.inr (.inr (.inl ⟨tk,rfl,hlv⟩)))) ?_
  rintro _ _ ⟨rfl,rfl⟩
  refine NS (gK 2 [(4,vI 0)] [] ?_)
  refine NN (af.ret ?_)
  exact RT (vI 0) [2,3,4,0,5,6,1,7] (⟨L,by rw [show (fS S c)=(0,S,lC S.O c (some ⟨tk,2⟩)) by unfold fS;rw [hnm]]<;>exact⟨rfl,rfl⟩⟩)
 have hkt:(obj S.O tk).kind=3:=hI.kind hlv
 refine gL (f:=67) (args:=#[vP f,vP cb]) (pre:=((pA f m t L S)++[pC cb c])) [0,1,2,3,4,5,6] ((by have h:=gh S L f m t hI cb c hC (β:=β);rw [hnm] at h;exact h)) ?_
 rintro _ _ ⟨rfl,rfl⟩
 refine gK 5 [(5,.iface 73 (vP (L.b tk))),(6,vI 0)] [] ?_
 refine NS (gK 2 [(13,vP cb),(14,.iface 73 (vP (L.b tk)))] [] ?_)
 refine gL [3,6] (lM S L hI cb c (some ⟨tk,3⟩) (.inr (.inr (.inr ⟨tk,rfl,hlv⟩)))) ?_
 rintro _ _ ⟨rfl,rfl⟩
 refine NS (gK 2 [(4,vI 0)] [] ?_)
 refine NN (af.ret ?_)
 exact RT (vI 0) [2,3,4,0,5,6,1,7] (⟨L,by rw [show (fS S c)=(0,S,lC S.O c (some ⟨tk,3⟩)) by unfold fS;rw [hnm]]<;>exact⟨rfl,rfl⟩⟩)
theorem C0 {β:Bs} (S:aH) (L:HL) (f m t:Nat) (hI:Inv S) (cb:Nat) (c:aQ) (hC:fI β c) :
    Spec Tryz.prog β 54 #[vP f,vP cb] ((pA f m t L S)++[pC cb c]) (fun v l=>∃ L2,v=vI (iV S c).1/\l=((pA f m t L2 ((iV S c).2.1))++[.blk cb (gM ((iV S c).2.2)) 50])):=by
 have hX:=hI.hX
 refine Spec.enter Tryz.func54 rfl Tryz.ntmps54 (Nat.le_of_ble_eq_true rfl) (fun R=>?_)
 refine af.seq ?_
 rcases hI.hand c.handle with cT|⟨tk,cT,hlv⟩|⟨tk,cT,hlv⟩
 ·refine af.region (gK 1 [] [] ?_)
  refine NN (af.seq (af.oV (S:=[pF f m t S.X,pC cb c]) [(true,0),(true,1),(true,2),(true,3),(true,4),(true,5),(true,6),(true,7),(false,8),(true,9),(true,10),(true,11),(true,12),(false,13)] [0,6] (by kernel_rfl) (by kernel_rfl) rfl (by kernel_rfl) ?_))
  refine gG [(false,8),(true,9),(true,10),(true,11),(true,12),(false,13)] ([(0,vP f)]++yL t c) [0,1,2,3,4,5,6,7] [(3,a_ 0 f),(7,a_ 1 cb)] ?_
  refine gI.cut (ι:=Unit) (fr':=fun (_:Unit)=>[(0,vP f),(16,.tuple #[.nilIface,vI 131])]) (hp':=fun (_:Unit)=>([kB t S L]++om f m t S L cb c R)) [1,6] (by kernel_rfl) ?_ rfl (fun _=>by kernel_rfl) ?_
  ·refine gL [2] (CO t S.X.cH S.av (aT L S.us) c.handle hC.hw (ni cT)) ?_
   rintro _ _ ⟨rfl,rfl⟩
   refine NL ?_
   exact MD () [0,16] [0,1,2,3,4,5,6,7]
  rintro _
  refine gG [(false,13)] [(0,vP f),(5,.nilIface),(18,vI 131)] [9,10,11,12] [] ?_
  refine gI.last (by kernel_rfl) ?_
  refine gK 1 [(6,vI 131)] [] ?_
  refine NL (ai.np (NX (af.seq (SR ?_))))
  refine gK 2 [(20,.bool true)] [] ?_
  refine NN (CT (SR (gK 2 [(4,vI 131)] [] ?_)))
  refine NN (af.ret (ai.aj ?_))
  exact RT (vI 131) [1,2,0,3,4,5,6,7] (⟨L,by rw [show (iV S c)=(131,S,c) by unfold iV;rw [cT]]<;>exact⟨rfl,rfl⟩⟩)
 ·have hkt:(obj S.O tk).kind=1:=hI.kind hlv
  have hid:=hI.ob _ hlv
  have nj:=hI.F6 hlv
  have hdl:=hI.Bw hlv
  have hop:0 < (obj S.O tk).opens/\(obj S.O tk).opens<=1024:=⟨by have h1:=hI.opens _ hlv;have h2:=Dw cT;simp only at h1 h2;omega,(hI.zC hlv).2⟩
  refine af.region (gK 1 [] [] ?_)
  refine NN (af.seq (af.oV (S:=[pF f m t S.X,pC cb c]) [(true,0),(true,1),(true,2),(true,3),(true,4),(true,5),(true,6),(true,7),(false,8),(true,9),(true,10),(true,11),(true,12),(false,13)] [0,6] (by kernel_rfl) (by kernel_rfl) rfl (by kernel_rfl) ?_))
  refine gG [(false,8),(true,9),(true,10),(true,11),(true,12),(false,13)] ([(0,vP f)]++yL t c) [0,1,2,3,4,5,6,7] [(3,a_ 0 f),(7,a_ 1 cb)] ?_
  refine gI.cut (ι:=Unit) (fr':=fun (_:Unit)=>[(0,vP f),(16,.tuple #[.iface 69 (vP (L.b tk)),vI 0])]) (hp':=fun (_:Unit)=>([pT t S.X.cH S.av L (del c.handle S.us)]++om f m t S L cb c R)) [1,6] (by kernel_rfl) ?_ rfl (fun _=>by kernel_rfl) ?_
  ·refine gL (f:=80) (args:=#[vP t,vI (c.handle)]) (pre:=[kB t S L]) [2] ((by have h:=zA (β:=β) t S.X.cH S.av (aT L S.us) c.handle hC.hw (dh L ⟨tk,1⟩) (jg cT);rw [← BK] at h;exact h)) ?_
   rintro _ _ ⟨rfl,rfl⟩
   refine NL ?_
   exact MD () [0,16] [0,1,2,3,4,5,6,7]
  rintro _
  refine gG [(false,13)] [(0,vP f),(5,.iface 69 (vP (L.b tk))),(18,vI 0)] [9,10,11,12] [] ?_
  refine gI.last (by kernel_rfl) ?_
  refine gK 1 [(6,vI 0)] [] ?_
  refine NL (ai.np (NX (af.seq (SR ?_))))
  refine gK 2 [(20,.bool false)] [] ?_
  refine NN (CF (af.skip (NX (SR (gK 1 [(22,.iface 69 (vP (L.b tk)))] [] ?_)))))
  refine gL [] (cJ (L.b tk)) ?_
  rintro _ _ ⟨rfl,rfl⟩
  refine gK 6 [(27,vI ((obj S.O tk).opens - 1)),(29,.pointer (some ⟨(L.b tk),7,none⟩))] [(2,v_ 3 (iN L hkt)),(3,p_ ⟨[],none,none,none,some (vI ((obj S.O tk).opens - 1))⟩ [(Value.int .i64 (IntKind.wrap .i64 ((obj S.O tk).opens - 1)))=(.int .i64 ((obj S.O tk).opens - 1))] ⟨aU (by omega) (by omega) (by omega),trivial⟩)] ?_
  refine pQ 3 [(5,1),(4,2)] tk 7 (fun o=>{ o with opens:=o.opens - 1 }) hkt (fun bR bJ=>?_)
  have iJ:=ku bJ hkt
  have hf2:(obj bR tk).id=(obj S.O tk).id:=fu aO.id bJ rfl
  have hf3:(obj bR tk).data=(obj S.O tk).data:=fu aO.data bJ rfl
  refine NS ?_
  have Iq:(obj bR tk).opens=(obj S.O tk).opens - 1:=by rw [bJ];exact congrArg aO.opens bB
  refine gK 2 [(30,vP f),(31,.iface 69 (vP (L.b tk)))] [] ?_
  refine gL [3,1,2] (nR S.X f m t hX bR L S.idx hI.rise ⟨tk,1⟩ iJ (by simp) (by rw [Iq];omega) (fun _=>by rw [hf2,hid.1];exact hlv) (by rw [hf2];exact nj) (by rw [hf3];exact hdl)) ?_
  rintro _ _ ⟨rfl,rfl⟩
  refine NS (gK 1 [(4,vI 0)] [] ?_)
  refine NN (af.ret ?_)
  exact RT (l:=[pF f m t { S.X with used:=iR bR S.X.used ⟨tk,1⟩ },pI m L (iG bR S.idx ⟨tk,1⟩),pT t S.X.cH S.av L (del c.handle S.us),pO bR L,pD bR L,pE bR L,pC cb c]) (.int .i64 0) [1,2,3,0,4,5,6,7] (⟨L,by subst bJ;rw [show iV S c=(0,_,c) by unfold iV;rw [cT]];exact⟨rfl,rfl⟩⟩)
 have hkt:(obj S.O tk).kind=2:=hI.kind hlv
 have hid:=hI.ob _ hlv
 have nj:=hI.F6 hlv
 have hdl:=hI.Bw hlv
 have hop:0 < (obj S.O tk).opens/\(obj S.O tk).opens<=1024:=⟨by have h1:=hI.opens _ hlv;have h2:=Dw cT;simp only at h1 h2;omega,(hI.zC hlv).2⟩
 refine af.region (gK 1 [] [] ?_)
 refine NN (af.seq (af.oV (S:=[pF f m t S.X,pC cb c]) [(true,0),(true,1),(true,2),(true,3),(true,4),(true,5),(true,6),(true,7),(false,8),(true,9),(true,10),(true,11),(true,12),(false,13)] [0,6] (by kernel_rfl) (by kernel_rfl) rfl (by kernel_rfl) ?_))
 refine gG [(false,8),(true,9),(true,10),(true,11),(true,12),(false,13)] ([(0,vP f)]++yL t c) [0,1,2,3,4,5,6,7] [(3,a_ 0 f),(7,a_ 1 cb)] ?_
 refine gI.cut (ι:=Unit) (fr':=fun (_:Unit)=>[(0,vP f),(16,.tuple #[.iface 76 (vP (L.b tk)),vI 0])]) (hp':=fun (_:Unit)=>([pT t S.X.cH S.av L (del c.handle S.us)]++om f m t S L cb c R)) [1,6] (by kernel_rfl) ?_ rfl (fun _=>by kernel_rfl) ?_
 ·refine gL (f:=80) (args:=#[vP t,vI (c.handle)]) (pre:=[kB t S L]) [2] ((by have h:=zA (β:=β) t S.X.cH S.av (aT L S.us) c.handle hC.hw (dh L ⟨tk,2⟩) (jg cT);rw [← BK] at h;exact h)) ?_
  rintro _ _ ⟨rfl,rfl⟩
  refine NL ?_
  exact MD () [0,16] [0,1,2,3,4,5,6,7]
 rintro _
 refine gG [(false,13)] [(0,vP f),(5,.iface 76 (vP (L.b tk))),(18,vI 0)] [9,10,11,12] [] ?_
 refine gI.last (by kernel_rfl) ?_
 refine gK 1 [(6,vI 0)] [] ?_
 refine NL (ai.np (NX (af.seq (SR ?_))))
 refine gK 2 [(20,.bool false)] [] ?_
 refine NN (CF (af.skip (NX (SR (gK 1 [(22,.iface 76 (vP (L.b tk)))] [] ?_)))))
 refine gL [] (cJ (L.b tk)) ?_
 rintro _ _ ⟨rfl,rfl⟩
 refine gK 6 [(27,vI ((obj S.O tk).opens - 1)),(29,.pointer (some ⟨(L.b tk),7,none⟩))] [(2,v_ 3 (iN L hkt)),(3,p_ ⟨[],none,none,none,some (vI ((obj S.O tk).opens - 1))⟩ [(Value.int .i64 (IntKind.wrap .i64 ((obj S.O tk).opens - 1)))=(.int .i64 ((obj S.O tk).opens - 1))] ⟨aU (by omega) (by omega) (by omega),trivial⟩)] ?_
 refine pQ 3 [(5,1),(4,2)] tk 7 (fun o=>{ o with opens:=o.opens - 1 }) hkt (fun bR bJ=>?_)
 have tM:=ku bJ hkt
 have F9:(obj bR tk).id=(obj S.O tk).id:=fu aO.id bJ rfl
 have Ll:(obj bR tk).data=(obj S.O tk).data:=fu aO.data bJ rfl
 refine NS ?_
 have Iq:(obj bR tk).opens=(obj S.O tk).opens - 1:=by rw [bJ];exact congrArg aO.opens bB
 refine gK 2 [(30,vP f),(31,.iface 76 (vP (L.b tk)))] [] ?_
 refine gL [3,1,2] (nR S.X f m t hX bR L S.idx hI.rise ⟨tk,2⟩ tM (by simp) (by rw [Iq];omega) (fun _=>by rw [F9,hid.1];exact hlv) (by rw [F9];exact nj) (by rw [Ll];exact hdl)) ?_
 rintro _ _ ⟨rfl,rfl⟩
 refine NS (gK 1 [(4,vI 0)] [] ?_)
 refine NN (af.ret ?_)
 exact RT (l:=[pF f m t { S.X with used:=iR bR S.X.used ⟨tk,2⟩ },pI m L (iG bR S.idx ⟨tk,2⟩),pT t S.X.cH S.av L (del c.handle S.us),pO bR L,pD bR L,pE bR L,pC cb c]) (.int .i64 0) [1,2,3,0,4,5,6,7] (⟨L,by subst bJ;rw [show iV S c=(0,_,c) by unfold iV;rw [cT]];exact⟨rfl,rfl⟩⟩)
end
end Go.Proofs.YtaepnjbceganhaaGreat
