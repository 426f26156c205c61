/-
  PROVED HERE: lemmas and contracts of functions (texts of this repo, joined; what the claim does not use is left out): Hu, TabMath2, Hv, Hw, Hx, Op, Hy, Hz, Ac, Wo, Wx, ShelfS, SK, HG, Vp, Fz, Ws, Wk, Hc, Hd, H1, H2, H3, H4.
  CONDITIONS: as the theorems say.
-/
import Derived.Test.YtiehgnlnofhbaaaGreatDoorMRfinds2
import Derived.Lib.Split
import Derived.Shelf.SlGeneric
import Derived.Shelf.SlIter.Nil
import Derived.Shelf.SortM.Plain
import Derived.Shelf.SortM.SortNone
import Derived.Ground.GgzProg
import Derived.Ground.SlgmProg
import Derived.Test.YtiehgnlnofhbaaaGreatDoorProg
set_option maxRecDepth 100000
set_option maxHeartbeats 4000000
namespace Go.Proofs.YtiehgnlnofhbaaaGreatDoor
section
open Go.RowKit Go.Maps bq aF
section new
variable {S:aJ} {d:Nat} {name:ByteArray} {t:Th} {o:aY} {us':Used Th} {iq:Int}
theorem Inv0.newAt (hI:Inv0 S) {k0:Nat} (hlt:S.X.last < (k0:Int)) (hle:(k0:Int)<=1099511627776) {kT:Int} (YQ:kT=S.X.used+o.data.length/\kT<=140737488355328) (hid:o.id=(k0:Int)) (hk3:o.kind=1\/o.kind=2\/o.kind=3) (hl0:o.links=0) (he0:o.ah=[]) (hu0:o.up=none) (hg0:o.gone=false) (hm:lf o) (hlen:S.idx.length < 4096)
    (u1:aF.cJ (keys us')) (u2:∀ x∈keys us',1<=x/\x<=iq) (u3:(us'.length:Int)<=S.X.cH) (u4:0<=iq/\iq<=S.X.cH) (u5:∀ h t,aF.get us' h=some t->(Live S.idx t\/t=⟨k0,o.kind⟩)/\t.kind≠3) (u6:∀ k,k≠k0->hnd us' k=hnd S.us k) (u7:o.opens=(hnd us' (k0):Int)) :
    Inv0 { S with X:={ S.X with last:=(k0:Int),used:=kT },O:=aN S.O (k0) (fun _=>o),idx:=ins ((k0:Int)) ⟨k0,o.kind⟩ S.idx,us:=us',aD:=iq }:=by
  have hnot:aF.get S.idx ((k0:Int))=none:=by
    cases e:aF.get S.idx ((k0:Int)) with
    | none=>rfl
    | some u=>have:=(hI.idx _ u e).2.2;omega
  have hget:∀ i,aF.get (ins ((k0:Int)) ⟨k0,o.kind⟩ S.idx) i=if i=(k0:Int) then some ⟨k0,o.kind⟩ else aF.get S.idx i:=fun i=>kZ (get_none.1 hnot) i
  have fT:∀ x,Live (ins ((k0:Int)) ⟨k0,o.kind⟩ S.idx) x↔x=⟨k0,o.kind⟩\/Live S.idx x:=fun x=>by
    unfold Live
    rw [hget]
    constructor
    ·intro h
     split at h
     ·exact .inl (Option.some.inj h).symm
     exact .inr h
    rintro (h|h)
    ·subst h;rw [if_pos rfl]
    rw [if_neg (by intro e;rw [e,hnot] at h;cases h)];exact h
  have oN:obj (aN S.O (k0) (fun _=>o)) (k0)=o:=cA
  have oX:∀ x,Live S.idx x->obj (aN S.O (k0) (fun _=>o)) x.k=obj S.O x.k:=fun x hx=>ct (hI.free hlt hx)
  have hfr:=hI.D6 hlt
  have hmem:∀ p∈S.idx,obj (aN S.O (k0) (fun _=>o)) p.2.k=obj S.O p.2.k:=fun p hp=>ct (hfr.idx p hp)
  have hsum:∀ g:aY->Nat,g o=0->dz (fun p:Int×Th=>g (obj (aN S.O (k0) (fun _=>o)) p.2.k)) (ins ((k0:Int)) ⟨k0,o.kind⟩ S.idx)=dz (fun p:Int×Th=>g (obj S.O p.2.k)) S.idx:=fun g hg=>by
    rw [BD]
    show g (obj _ (k0))+_=_
    rw [oN,hg,Nat.zero_add]
    exact ij (fun p hp=>by rw [hmem p hp])
  refine { hI with last:=?_,rise:=?_,len:=?_,idx:=fun i x e=>?_,ob:=fun x hx=>?_,mt:=fun x hx=>?_,ah:=fun x hx e he=>?_,sorted:=fun x hx=>?_,dead:=fun x hx=>?_,uF:=fun x hx=>?_,total:=?_,links:=fun x hx=>?_,once:=fun x hx hk=>?_,opens:=fun x hx=>?_,usr:=u1,su:=u2,Cy:=u3,aD:=u4,us:=fun h x e=>?_,gone:=fun x hx jF=>?_,up:=fun x hx e=>?_,deep:=?_,used:=?_ }
  ·have:=hI.last
   show 0<=(k0:Int)/\(k0:Int)<=1099511627776
   omega
  ·exact wJ hI.rise (get_none.1 hnot)
  ·have:=hI.cN
   show (ins ((k0:Int)) _ S.idx).length<=4096
   rw [iG];omega
  ·have e:aF.get (ins ((k0:Int)) ⟨k0,o.kind⟩ S.idx) i=some x:=e
   rw [hget] at e
   have:=hI.last
   show i=(x.k:Int)/\0 < i/\i<=(k0:Int)
   split at e
   ·cases e
    rename_i e2
    refine⟨by rw [e2],by omega,by omega⟩
   have:=hI.idx i x e
   omega
  ·show (obj (aN S.O (k0) (fun _=>o)) x.k).id=_/\(obj (aN S.O (k0) (fun _=>o)) x.k).kind=_/\_
   rcases (fT x).1 hx with h|h
   ·subst h;rw [oN];exact⟨hid,rfl,hk3⟩
   rw [oX x h];exact hI.ob x h
  ·show lf (obj (aN S.O (k0) (fun _=>o)) x.k)
   rcases (fT x).1 hx with h|h
   ·subst h;rw [oN];exact hm
   rw [oX x h];exact hI.mt x h
  ·have he:e∈(obj (aN S.O (k0) (fun _=>o)) x.k).ah:=he
   rcases (fT x).1 hx with h|h
   ·subst h;rw [oN,he0] at he;cases he
   rw [oX x h] at he
   have h1:=hI.ah x h e he
   exact⟨h1.1,(fT _).2 (.inr h1.2)⟩
  ·show j9 (obj (aN S.O (k0) (fun _=>o)) x.k).ah
   rcases (fT x).1 hx with h|h
   ·subst h;rw [oN,he0];exact List.Pairwise.nil
   rw [oX x h];exact hI.sorted x h
  ·show (obj (aN S.O (k0) (fun _=>o)) x).ah=[]/\(obj (aN S.O (k0) (fun _=>o)) x).up=none
   have h1:x≠k0:=fun e=>hx ⟨k0,o.kind⟩ ((fT _).2 (.inl rfl)) e.symm
   rw [ct h1]
   exact hI.dead x (fun u hu=>hx u ((fT _).2 (.inr hu)))
  ·have hx:(k0:Int) < (x:Int):=hx
   show (obj (aN S.O (k0) (fun _=>o)) x).kind=0
   rw [ct (fun e=>by rw [e] at hx;omega)]
   exact hI.uF x (by omega)
  ·show S.X.ah=(tot _ _:Int)/\S.X.ah<=8192
   have:tot (ins ((k0:Int)) ⟨k0,o.kind⟩ S.idx) (aN S.O (k0) (fun _=>o))=tot S.idx S.O:=hsum (fun o=>o.ah.length) (by rw [he0];rfl)
   rw [this];exact hI.total
  ·show (obj (aN S.O (k0) (fun _=>o)) x.k).links=(jl _ _ x.k:Int)
   have:jl (ins ((k0:Int)) ⟨k0,o.kind⟩ S.idx) (aN S.O (k0) (fun _=>o)) x.k=jl S.idx S.O x.k:=hsum (fun o=>o.ah.countP (fun e:ByteArray×Th=>decide (e.2.k=x.k))) (by rw [he0];rfl)
   rw [this]
   rcases (fT x).1 hx with h|h
   ·subst h
    rw [oN,hl0]
    have:jl S.idx S.O (k0)=0:=by
      apply Classical.byContradiction
      intro hne
      obtain⟨i,u,hu,e,he,hek⟩:=Cz hI.rise (Nat.pos_of_ne_zero hne)
      exact hfr.ah u.k e he hek
    rw [this];rfl
   rw [oX x h];exact hI.links x h
  ·show (obj (aN S.O (k0) (fun _=>o)) x.k).links<=1
   rcases (fT x).1 hx with h|h
   ·subst h;rw [oN,hl0];decide
   rw [oX x h];exact hI.once x h hk
  ·show (obj (aN S.O (k0) (fun _=>o)) x.k).opens=(hnd us' x.k:Int)
   rcases (fT x).1 hx with h|h
   ·subst h;rw [oN];exact u7
   rw [oX x h,u6 _ (hI.free hlt h)];exact hI.opens x h
  ·obtain⟨h1,h2⟩:=u5 h x e
   exact⟨(fT x).2 h1.symm,h2⟩
  ·have jF:(obj (aN S.O (k0) (fun _=>o)) x.k).gone=true:=jF
   show (obj (aN S.O (k0) (fun _=>o)) x.k).links=0/\(obj (aN S.O (k0) (fun _=>o)) x.k).ah=[]
   rcases (fT x).1 hx with h|h
   ·subst h;rw [oN,hg0] at jF;cases jF
   rw [oX x h] at jF ⊢;exact hI.gone x h jF
  ·show (obj (aN S.O (k0) (fun _=>o)) x.k).up=some e↔x.kind=2/\Live _ ⟨e,2⟩/\∃ n,aT n (obj (aN S.O (k0) (fun _=>o)) e).ah=some x
   rcases (fT x).1 hx with h|h
   ·subst h
    rw [oN,hu0]
    constructor
    ·intro h;cases h
    rintro⟨_,hle,n,h⟩
    by_cases e2:e=k0
    ·rw [e2,oN,he0] at h;cases h
    rw [ct e2] at h;exact absurd rfl (hfr.ah e _ (lN h))
   rw [oX x h,hI.up x h e]
   constructor
   ·rintro⟨h1,h2,n,h3⟩
    exact⟨h1,(fT _).2 (.inr h2),n,by rw [oX ⟨e,2⟩ h2];exact h3⟩
   rintro⟨h1,h2,n,h3⟩
   by_cases e2:e=k0
   ·rw [e2,oN,he0] at h3;cases h3
   rw [ct e2] at h3
   refine⟨h1,?_,n,h3⟩
   rcases (fT _).1 h2 with h4|h4
   ·exact absurd (congrArg Th.k h4) e2
   exact h4
  ·obtain⟨dp,hdp⟩:=hI.deep
   refine⟨dp,fun x e hx=>?_⟩
   have hx:(obj (aN S.O (k0) (fun _=>o)) x).up=some e:=hx
   by_cases e2:x=k0
   ·rw [e2,oN,hu0] at hx;cases hx
   rw [ct e2] at hx;exact hdp _ _ hx
  show kT=(bytes _ _:Int)/\_
  have h1:bytes (ins (k0:Int) ⟨k0,o.kind⟩ S.idx) (aN S.O k0 (fun _=>o))=o.data.length+bytes S.idx S.O:=by
    unfold bytes
    rw [BD]
    show (obj _ k0).data.length+_=_
    rw [oN]
    congr 1
    exact ij (fun p hp=>by rw [hmem p hp])
  have h2:=hI.used
  rw [h1]
  show kT=_/\kT<=140737488355328
  omega
theorem Inv0.new (hI:Inv0 S) (hid:o.id=S.X.last+1) (hk3:o.kind=1\/o.kind=2\/o.kind=3) (hl0:o.links=0) (he0:o.ah=[]) (hu0:o.up=none) (hg0:o.gone=false) (TK:o.data=[]) (hm:lf o) (hlast:S.X.last < 1099511627776) (hlen:(S.idx.length:Int) < S.X.cN)
    (u1:aF.cJ (keys us')) (u2:∀ x∈keys us',1<=x/\x<=iq) (u3:(us'.length:Int)<=S.X.cH) (u4:0<=iq/\iq<=S.X.cH) (u5:∀ h t,aF.get us' h=some t->(Live S.idx t\/t=⟨bJ S.X,o.kind⟩)/\t.kind≠3) (u6:∀ k,k≠bJ S.X->hnd us' k=hnd S.us k) (u7:o.opens=(hnd us' (bJ S.X):Int)) :
    Inv0 { S with X:={ S.X with last:=S.X.last+1 },O:=aN S.O (bJ S.X) (fun _=>o),idx:=ins (S.X.last+1) ⟨bJ S.X,o.kind⟩ S.idx,us:=us',aD:=iq }:=by
  have hnk:=sW hI
  have h:=hI.newAt (k0:=bJ S.X) (kT:=S.X.used) (by omega) (by omega) ⟨by rw [TK];simp,hI.used.2⟩ (hid.trans hnk.symm) hk3 hl0 he0 hu0 hg0 hm (by have:=hI.cN;omega) u1 u2 u3 u4 u5 u6 u7
  rw [hnk] at h
  exact h
theorem Inv.add (hI:Inv S) (hd:Live S.idx ⟨d,2⟩) (ko:(obj S.O d).gone=false) (hn:aT name (obj S.O d).ah=none) (hgn:bD name) (hroom:Room S.X S.idx)
    (hid:o.id=S.X.last+1) (hk3:o.kind=1\/o.kind=2\/o.kind=3) (hl0:o.links=0) (he0:o.ah=[]) (hu0:o.up=none) (hg0:o.gone=false) (TK:o.data=[]) (hm:lf o)
    (u1:aF.cJ (keys us')) (u2:∀ x∈keys us',1<=x/\x<=iq) (u3:(us'.length:Int)<=S.X.cH) (u4:0<=iq/\iq<=S.X.cH) (u5:∀ h t,aF.get us' h=some t->(Live S.idx t\/t=⟨bJ S.X,o.kind⟩)/\t.kind≠3) (u6:∀ k,k≠bJ S.X->hnd us' k=hnd S.us k) (u7:o.opens=(hnd us' (bJ S.X):Int)) :
    Inv (gj { S with us:=us',aD:=iq } d name o):=by
  have h1:=hI.toInv0.new hid hk3 hl0 he0 hu0 hg0 TK hm hroom.2.1 hroom.1 u1 u2 u3 u4 u5 u6 u7
  have hne:d≠bJ S.X:=hI.yK hd
  have hnk:=sW hI.toInv0
  have hnot:aF.get S.idx (S.X.last+1)=none:=by
    cases e:aF.get S.idx (S.X.last+1) with
    | none=>rfl
    | some u=>have:=(hI.idx _ u e).2.2;omega
  have hget:∀ i,aF.get (ins (S.X.last+1) ⟨bJ S.X,o.kind⟩ S.idx) i=if i=S.X.last+1 then some ⟨bJ S.X,o.kind⟩ else aF.get S.idx i:=fun i=>kZ (get_none.1 hnot) i
  have hdl:Live (ins (S.X.last+1) ⟨bJ S.X,o.kind⟩ S.idx) ⟨d,2⟩:=by
    unfold Live
    rw [hget,if_neg (by intro e;have:aF.get S.idx ((d:Nat):Int)=some ⟨d,2⟩:=hd;rw [show ((⟨d,2⟩:Th).k:Int)=(d:Int) from rfl] at e;rw [e,hnot] at this;cases this)]
    exact hd
  have hnl:Live (ins (S.X.last+1) ⟨bJ S.X,o.kind⟩ S.idx) ⟨bJ S.X,o.kind⟩:=by
    unfold Live
    rw [hget,if_pos hnk]
  have oN:obj (aN S.O (bJ S.X) (fun _=>o)) (bJ S.X)=o:=cA
  have oD:obj (aN S.O (bJ S.X) (fun _=>o)) d=obj S.O d:=ct hne
  have hnb:¬ jM (aN S.O (bJ S.X) (fun _=>o)) (bJ S.X) d:=fun hb=>by
    have key:∀ x,jM (aN S.O (bJ S.X) (fun _=>o)) (bJ S.X) x->x=bJ S.X:=fun x hx=>by
      induction hx with
      | here=>rfl
      | @up k j hu _ ih=>
        subst ih
        by_cases e:k=bJ S.X
        ·exact e
        rw [ct e] at hu;exact absurd hu (hI.fresh.up k)
    exact hne (key d hb)
  have h2:=h1.put (d:=d) (name:=name) (t:=⟨bJ S.X,o.kind⟩) (O':=(gj { S with us:=us',aD:=iq } d name o).O) hdl (by rw [oD];exact ko) (by rw [oD];exact hn) hgn hnl (by rw [oN];exact hg0) (fun _=>⟨by rw [oN];exact hl0,hnb⟩) (fun e=>hne e.symm) hroom.2.2 h1.now (fun k=>yJ (fun e=>hne e.symm))
  refine⟨h2,fun x hx jF=>?_⟩
  have g1:∀ k,(obj (gj { S with us:=us',aD:=iq } d name o).O k).gone=(obj (aN S.O (bJ S.X) (fun _=>o)) k).gone:=fun k=>nH (g:=aY.gone) (fun _ _=>rfl) (fun _ _=>rfl) (fun _ _ _=>rfl) (fun _ _=>rfl)
  have g2:∀ k,(obj (gj { S with us:=us',aD:=iq } d name o).O k).opens=(obj (aN S.O (bJ S.X) (fun _=>o)) k).opens:=fun k=>nH (g:=aY.opens) (fun _ _=>rfl) (fun _ _=>rfl) (fun _ _ _=>rfl) (fun _ _=>rfl)
  rw [g1] at jF
  rw [g2]
  by_cases e:x.k=bJ S.X
  ·rw [e,oN,hg0] at jF;cases jF
  rw [ct e] at jF ⊢
  refine hI.full x ?_ jF
  have hx:aF.get (ins (S.X.last+1) ⟨bJ S.X,o.kind⟩ S.idx) x.k=some x:=hx
  rw [hget] at hx
  split at hx
  ·exact absurd (congrArg Th.k (Option.some.inj hx)).symm e
  exact hx
end new
section drop
variable {S:aJ} {d:Nat} {name:ByteArray} {t:Th}
theorem jy {α:Type} {g:aY->α} {O:bU} {k j:Nat} (h:∀ o,g { o with up:=none }=g o):g (obj (orphan O j) k)=g (obj O k):=dH (f:=fun o=>{ o with up:=none }) h
theorem yL {O:bU} {k:Nat}:sI (orphan O k) t↔sI O t:=by
  unfold sI
  rw [jy (g:=aY.gone) (fun _=>rfl),jy (g:=aY.opens) (fun _=>rfl)]
theorem GK {O:bU} {k:Nat} {u:Int}:jO (orphan O k) u t=jO O u t:=by
  unfold jO
  simp only [yL,jy (g:=aY.data) (fun _=>rfl)]
theorem GL {O:bU} {k:Nat} {idx:Used Th}:iP (orphan O k) idx t=iP O idx t:=by
  unfold iP
  simp only [yL,jy (g:=aY.id) (fun _=>rfl)]
theorem Inv.drop (hI:Inv S) (hd:Live S.idx ⟨d,2⟩) (hl:aT name (obj S.O d).ah=some t) (he:t.kind=2->(obj S.O t.k).ah=[]):Inv { aL S d name t with O:=orphan (aL S d name t).O t.k }:=by
  have hne:=hI.ne hd hl
  have ht:=(hI.ent hd hl).2
  have hlk:(obj (aR S.X S.O d name t) t.k).links=(obj S.O t.k).links - 1:=by rw [jE hne,if_neg hne,if_pos rfl]
  have hfull:∀ (O2:bU),(∀ u,u≠t.k->(obj O2 u).gone=(obj S.O u).gone/\(obj O2 u).opens=(obj S.O u).opens)->∀ u,Live S.idx u->u≠t->(obj O2 u.k).gone=true->0 < (obj O2 u.k).opens:=fun O2 h u hu hut hg=>by
    have hk:u.k≠t.k:=fun e=>hut (iH hu ht e)
    rw [(h _ hk).1] at hg
    rw [(h _ hk).2]
    exact hI.full u hu hg
  by_cases h0:(obj (aR S.X S.O d name t) t.k).links=0
  ·have e1:aL S d name t=_:=uD h0
   have hO:∀ k,obj (orphan (qU (aR S.X S.O d name t) t.k) t.k) k=if k=d then { obj S.O d with ah:=iB name (obj S.O d).ah,sec:=S.X.cS,nano:=S.X.cZ } else if k=t.k then { obj S.O k with links:=(obj S.O k).links - 1,gone:=true,up:=none } else obj S.O k:=fun k=>by
     unfold orphan qU
     rw [yw,kP]
     by_cases e:k=t.k
     ·rw [if_pos e,jE hne,if_neg (fun e2=>hne (e.symm.trans e2)),if_pos e,if_neg (fun e2=>hne (e.symm.trans e2)),if_pos e]
     rw [if_neg e,jE hne,if_neg e,if_neg e]
   have h1:=hI.toInv0.cut hd hl hO (.inr ⟨by rw [← hlk];exact h0,he⟩)
   have h2:=h1.sJ (t:=t) ht (hfull _ (fun u hu=>by
     rw [jy (g:=aY.gone) (fun _=>rfl),jy (g:=aY.opens) (fun _=>rfl)]
     show (obj (aN _ t.k _) u).gone=_/\(obj (aN _ t.k _) u).opens=_
     rw [ct hu,dS (g:=aY.gone) (fun _ _=>rfl) (fun _ _=>rfl) (fun _ _ _=>rfl),dS (g:=aY.opens) (fun _ _=>rfl) (fun _ _=>rfl) (fun _ _ _=>rfl)]
     exact⟨rfl,rfl⟩))
   rw [e1]
   unfold sJ at h2
   simp only [GK,GL] at h2
   exact h2
  have e1:aL S d name t=_:=uE h0
  have hnd:t.kind≠2:=fun hk=>by
    have h1:=hI.once t ht hk
    have h2:=hI.links t ht
    have h3:0 < jl S.idx S.O t.k:=nG hd hl
    omega
  have KU:(obj S.O t.k).up=none:=by
    cases hu:(obj S.O t.k).up with
    | none=>rfl
    | some e=>exact absurd ((hI.up t ht e).1 hu).1 hnd
  have hO:∀ k,obj (orphan (aR S.X S.O d name t) t.k) k=if k=d then { obj S.O d with ah:=iB name (obj S.O d).ah,sec:=S.X.cS,nano:=S.X.cZ } else if k=t.k then { obj S.O k with links:=(obj S.O k).links - 1,gone:=(obj S.O t.k).gone,up:=none } else obj S.O k:=fun k=>by
    unfold orphan
    rw [kP]
    by_cases e:k=t.k
    ·rw [if_pos e,jE hne,if_neg (fun e2=>hne (e.symm.trans e2)),if_pos e,if_neg (fun e2=>hne (e.symm.trans e2)),if_pos e,e]
    rw [if_neg e,jE hne,if_neg e,if_neg e]
  have h1:=hI.toInv0.cut hd hl hO (.inl rfl)
  rw [e1]
  refine⟨h1,fun u hu hg=>?_⟩
  have hg:(obj (orphan (aR S.X S.O d name t) t.k) u.k).gone=true:=hg
  show 0 < (obj (orphan (aR S.X S.O d name t) t.k) u.k).opens
  rw [jy (g:=aY.gone) (fun _=>rfl),dS (g:=aY.gone) (fun _ _=>rfl) (fun _ _=>rfl) (fun _ _ _=>rfl)] at hg
  rw [jy (g:=aY.opens) (fun _=>rfl),dS (g:=aY.opens) (fun _ _=>rfl) (fun _ _=>rfl) (fun _ _ _=>rfl)]
  exact hI.full u hu hg
theorem PF {k:Nat}:(obj (aL S d name t).O k).up=(obj S.O k).up:=by
  unfold aL
  simp only
  split
  ·exact (qC (g:=aY.up) (fun _ _=>rfl)).trans (dS (g:=aY.up) (fun _ _=>rfl) (fun _ _=>rfl) (fun _ _ _=>rfl))
  exact dS (g:=aY.up) (fun _ _=>rfl) (fun _ _=>rfl) (fun _ _ _=>rfl)
theorem Inv.zZ (hI:Inv S) (hd:Live S.idx ⟨d,2⟩) (hl:aT name (obj S.O d).ah=some t) (hk:t.kind≠2):Inv (aL S d name t):=by
  have h:=hI.drop hd hl (fun e=>absurd e hk)
  have ht:=(hI.ent hd hl).2
  have KU:(obj S.O t.k).up=none:=by
    cases hu:(obj S.O t.k).up with
    | none=>rfl
    | some e=>exact absurd ((hI.up t ht e).1 hu).1 hk
  have e:orphan (aL S d name t).O t.k=(aL S d name t).O:=RS (by
    have:(obj (aL S d name t).O t.k).up=none:=PF.trans KU
    rw [← this])
  rw [e] at h
  exact h
end drop
end
end Go.Proofs.YtiehgnlnofhbaaaGreatDoor
section
namespace Go.Proofs.YtiehgnlnofhbaaaGreatDoor.aF
open bq
variable {V:Type}
theorem BI (us:Used V):(keys us).length=us.length:=by simp [keys]
theorem least_le {us:Used V} (hr:cJ (keys us)) (hp:∀ x∈keys us,1<=x):1<=least us/\least us∉keys us/\∀ x,1<=x->x < least us->x∈keys us:=nF (keys us) 1 hr hp
theorem yM:∀ (ks:List Int) (h:Int),iF h ks<=h+ks.length
  | [],h=>by simp [iF]
  | k::r,h=>by
    unfold iF
    split
    ·have:=yM r (h+1);simp only [List.length_cons];push_cast;omega
    simp only [List.length_cons];push_cast;omega
theorem Jb (us:Used V):least us<=us.length+1:=by
  have:=yM (keys us) 1
  rw [BI] at this
  unfold least;omega
end Go.Proofs.YtiehgnlnofhbaaaGreatDoor.aF
end
namespace Go.Proofs.YtiehgnlnofhbaaaGreatDoor
section
open Go.RowKit Go.Maps bq aF
section ops
variable {S:aJ} {d to:Nat} {name toName:ByteArray} {t:Th}
theorem Inv.link (hI:Inv S) (hd:Live S.idx ⟨d,2⟩) (ko:(obj S.O d).gone=false) (hn:aT name (obj S.O d).ah=none) (hgn:bD name) (ht:Live S.idx t) (Cu:(obj S.O t.k).gone=false) (hk:t.kind≠2) (hroom:S.X.ah < 8192) :
    Inv { S with X:={ S.X with ah:=S.X.ah+1 },O:=dX S.X S.O d name t }:=by
  have hne:t.k≠d:=fun e=>hk (congrArg Th.kind (iH ht hd e))
  have h1:=hI.toInv0.put hd ko hn hgn ht Cu (fun e=>absurd e hk) hne hroom hI.now (fun k=>yJ hne)
  refine⟨h1,fun x hx hg=>?_⟩
  have hg:(obj (dX S.X S.O d name t) x.k).gone=true:=hg
  show 0 < (obj (dX S.X S.O d name t) x.k).opens
  rw [nH (g:=aY.gone) (fun _ _=>rfl) (fun _ _=>rfl) (fun _ _ _=>rfl) (fun _ _=>rfl)] at hg
  rw [nH (g:=aY.opens) (fun _ _=>rfl) (fun _ _=>rfl) (fun _ _ _=>rfl) (fun _ _=>rfl)]
  exact hI.full x hx hg
theorem kK (hne:t.k≠d) {X:FM} {O:bU} (h:aT toName (obj O to).ah=none):aT toName (obj (aR X O d name t) to).ah=none:=by
  rw [jE hne]
  split
  ·rename_i e
   subst e
   show aT toName (iB name (obj O to).ah)=none
   rw [rA];split
   ·rfl
   exact h
  split
  ·exact h
  exact h
theorem Inv.move (hI:Inv S) (hd:Live S.idx ⟨d,2⟩) (hl:aT name (obj S.O d).ah=some t) (hto:Live S.idx ⟨to,2⟩) (ko:(obj S.O to).gone=false) (hn:aT toName (obj S.O to).ah=none) (hgn:bD toName) (hb:t.kind=2->¬ jM S.O t.k to):Inv (oh S d name to toName t):=by
  have hne:=hI.ne hd hl
  have ht:=(hI.ent hd hl).2
  have PG:t.k≠to:=fun e=>by
    have h1:t=⟨to,2⟩:=iH ht hto e
    exact hb (by rw [h1]) (by rw [e];exact .here)
  have hgt:(obj S.O t.k).gone=false:=by
    cases hg:(obj S.O t.k).gone with
    | false=>rfl
    | true=>
      have h1:=(hI.gone t ht hg).1
      have h2:=hI.links t ht
      have h3:0 < jl S.idx S.O t.k:=nG hd hl
      omega
  have hO:∀ k,obj (orphan (aR S.X S.O d name t) t.k) k=if k=d then { obj S.O d with ah:=iB name (obj S.O d).ah,sec:=S.X.cS,nano:=S.X.cZ } else if k=t.k then { obj S.O k with links:=(obj S.O k).links - 1,gone:=(obj S.O t.k).gone,up:=none } else obj S.O k:=fun k=>by
    unfold orphan
    rw [kP]
    by_cases e:k=t.k
    ·rw [if_pos e,jE hne,if_neg (fun e2=>hne (e.symm.trans e2)),if_pos e,if_neg (fun e2=>hne (e.symm.trans e2)),if_pos e,e]
    rw [if_neg e,jE hne,if_neg e,if_neg e]
  have h1:=hI.toInv0.cut hd hl hO (.inl rfl)
  have g0:∀ {α:Type} (g:aY->α),(∀ o es,g { o with ah:=es }=g o)->(∀ o l,g { o with links:=l }=g o)->(∀ o a b,g { o with sec:=a,nano:=b }=g o)->(∀ o u,g { o with up:=u }=g o)->∀ k,g (obj (orphan (aR S.X S.O d name t) t.k) k)=g (obj S.O k):=fun g a b c e k=>(jy (fun o=>e o none)).trans (dS a b c)
  have hlk:=hI.links t ht
  have hlp:0 < jl S.idx S.O t.k:=nG hd hl
  have hend:(obj (orphan (aR S.X S.O d name t) t.k) to).ah=(obj (aR S.X S.O d name t) to).ah:=jy (g:=aY.ah) (fun _=>rfl)
  have h2:=h1.put (d:=to) (name:=toName) (t:=t) (O':=(oh S d name to toName t).O) hto (by
      show (obj (orphan (aR S.X S.O d name t) t.k) to).gone=false
      rw [g0 aY.gone (fun _ _=>rfl) (fun _ _=>rfl) (fun _ _ _=>rfl) (fun _ _=>rfl)];exact ko) (by
      show aT toName (obj (orphan (aR S.X S.O d name t) t.k) to).ah=none
      rw [hend];exact kK hne hn) hgn ht (by
      show (obj (orphan (aR S.X S.O d name t) t.k) t.k).gone=false
      rw [g0 aY.gone (fun _ _=>rfl) (fun _ _=>rfl) (fun _ _ _=>rfl) (fun _ _=>rfl)];exact hgt) (fun hk=>⟨by
        have h3:=hI.once t ht hk
        show (obj (orphan (aR S.X S.O d name t) t.k) t.k).links=0
        rw [hO,if_neg hne,if_pos rfl]
        show (obj S.O t.k).links - 1=0
        omega,fun hb2=>hb hk (KT (fun x e hx=>by
          have hx:(obj (orphan (aR S.X S.O d name t) t.k) x).up=some e:=hx
          by_cases e1:x=t.k
          ·rw [hO,if_neg (by rw [e1];exact hne),if_pos e1] at hx;cases hx
          rw [hO] at hx
          split at hx
          ·rename_i e2;rw [e2];exact hx
          first|exact hx|(rw [if_neg e1] at hx;exact hx)) hb2)⟩) PG (by
      have:=hI.total
      show S.X.ah - 1 < 8192
      omega) hI.now (fun k=>by
      show obj (dX S.X (aR S.X S.O d name t) to toName t) k=_
      rw [yJ PG]
      by_cases e:k=to
      ·rw [if_pos e,if_pos e]
       have h3:obj (orphan (aR S.X S.O d name t) t.k) to=obj (aR S.X S.O d name t) to:=ct (fun e=>PG e.symm)
       rw [show obj _ to=_ from h3]
      rw [if_neg e,if_neg e]
      by_cases e2:k=t.k
      ·rw [if_pos e2,if_pos e2,e2]
       show _={ obj (orphan (aR S.X S.O d name t) t.k) t.k with links:=(obj (orphan (aR S.X S.O d name t) t.k) t.k).links+1,up:=if t.kind=2 then some to else (obj (orphan (aR S.X S.O d name t) t.k) t.k).up }
       have h3:obj (orphan (aR S.X S.O d name t) t.k) t.k={ obj (aR S.X S.O d name t) t.k with up:=none }:=cA
       rw [h3]
       by_cases hk:t.kind=2
       ·rw [if_pos hk,if_pos hk]
       rw [if_neg hk,if_neg hk]
       have KU:(obj (aR S.X S.O d name t) t.k).up=none:=by
         rw [dS (g:=aY.up) (fun _ _=>rfl) (fun _ _=>rfl) (fun _ _ _=>rfl)]
         cases hu:(obj S.O t.k).up with
         | none=>rfl
         | some e=>exact absurd ((hI.up t ht e).1 hu).1 hk
       rw [KU]
      rw [if_neg e2,if_neg e2]
      have h3:obj (orphan (aR S.X S.O d name t) t.k) k=obj (aR S.X S.O d name t) k:=ct e2
      exact h3.symm)
  refine⟨h2,fun x hx hg=>?_⟩
  have g3:∀ {α:Type} (g:aY->α),(∀ o es,g { o with ah:=es }=g o)->(∀ o l,g { o with links:=l }=g o)->(∀ o a b,g { o with sec:=a,nano:=b }=g o)->(∀ o u,g { o with up:=u }=g o)->∀ k,g (obj (oh S d name to toName t).O k)=g (obj S.O k):=fun g a b c e k=>(nH a b c e).trans (dS a b c)
  rw [g3 aY.gone (fun _ _=>rfl) (fun _ _=>rfl) (fun _ _ _=>rfl) (fun _ _=>rfl)] at hg
  rw [g3 aY.opens (fun _ _=>rfl) (fun _ _=>rfl) (fun _ _ _=>rfl) (fun _ _=>rfl)]
  exact hI.full x hx hg
theorem D8 {us:Used Th} {h:Int} {k:Nat}:hnd (ins h t us) k=(if t.k=k then 1 else 0)+hnd us k:=BD
theorem R5 {us:Used Th} {h:Int} {k:Nat} (hr:aF.cJ (keys us)) (e:aF.get us h=some t):hnd (del h us) k+(if t.k=k then 1 else 0)=hnd us k:=BG (g:=fun p:Int×Th=>if p.2.k=k then 1 else 0) hr e
theorem JU {us:Used Th} {aD:Int} (hr:aF.cJ (keys us)) (h1:∀ x∈keys us,1<=x/\x<=aD):aF.cJ (keys (ins (aF.least us) t us))/\∀ x∈keys (ins (aF.least us) t us),1<=x/\x<=max aD ((us.length:Int)+1):=by
  obtain⟨g1,g2,_⟩:=least_le hr (fun x hx=>(h1 x hx).1)
  have g3:=Jb us
  refine⟨wJ hr g2,fun x hx=>?_⟩
  rcases (l5 _ _ _ _).1 hx with e|e
  ·subst e;omega
  have:=h1 x e;omega
theorem Inv.dg (hI:Inv S) (ht:Live S.idx t) (hk:t.kind≠3):Inv (Proofs.YtiehgnlnofhbaaaGreatDoor.dg S t).2.2:=by
  by_cases hlt:(S.us.length:Int) < S.X.cH
  ·rw [jD hlt]
   obtain⟨g1,g2,_⟩:=least_le hI.usr (fun x hx=>(hI.su x hx).1)
   obtain⟨v1,v2⟩:=JU (t:=t) hI.usr hI.su
   have hb:bytes S.idx (aN S.O t.k (fun o=>{ o with opens:=o.opens+1 }))=bytes S.idx S.O:=ij (fun p _=>by rw [dH (f:=fun o=>{ o with opens:=o.opens+1 }) (g:=aY.data) (fun _=>rfl)])
   have h1:=hI.toInv0.own (k:=t.k) (f:=fun o=>{ o with opens:=o.opens+1 }) (kT:=S.X.used) (us':=ins (aF.least S.us) t S.us) (iq:=max S.aD ((S.us.length:Int)+1)) (fun _=>rfl) (fun _=>rfl) (fun _=>rfl) (fun _=>rfl) (fun _=>rfl) (fun _=>rfl)
     (fun u hu e=>by rw [← e];exact (hI.mt u hu).of rfl rfl rfl (hI.mt u hu).time rfl (.inl rfl) (.inl rfl) rfl)
     (fun u hu=>by
       have h2:=hI.opens u hu
       rw [D8]
       by_cases e:u.k=t.k
       ·rw [e,cA,if_pos rfl,← e]
        show (obj S.O u.k).opens+1=_
        omega
       rw [ct e,if_neg (fun e2=>e e2.symm)];omega)
     v1 v2 (by rw [iG];omega) (by have:=hI.aD;omega) (fun h u e=>by
       rw [kZ g2] at e
       split at e
       ·cases e;exact⟨ht,hk⟩
       exact hI.us h u e) ⟨by rw [hb];exact hI.used.1,hI.used.2⟩
   refine⟨h1,fun u hu hg=>?_⟩
   have hg:(obj (aN S.O t.k (fun o=>{ o with opens:=o.opens+1 })) u.k).gone=true:=hg
   rw [dH (f:=fun o=>{ o with opens:=o.opens+1 }) (g:=aY.gone) (fun _=>rfl)] at hg
   have h2:=hI.full u hu hg
   show 0 < (obj (aN S.O t.k (fun o=>{ o with opens:=o.opens+1 })) u.k).opens
   by_cases e:u.k=t.k
   ·rw [e,cA];rw [e] at h2;show 0 < (obj S.O t.k).opens+1;omega
   rw [ct e];exact h2
  rw [jW hlt];exact hI
theorem Inv.fe (hI:Inv S) {k:Nat} (ht:Live S.idx ⟨k,1⟩) (bs:List UInt8):Inv (Proofs.YtiehgnlnofhbaaaGreatDoor.fe S k bs).2.2:=by
  unfold Proofs.YtiehgnlnofhbaaaGreatDoor.fe
  split
  ·exact hI
  split
  ·exact hI
  rename_i hroom
  have hlen:(obj (aN S.O k (fun o=>{ o with data:=o.data++bs.take (br S.X bs.length),sec:=S.X.cS,nano:=S.X.cZ })) k).data.length=(obj S.O k).data.length+br S.X bs.length:=by
    rw [cA]
    show ((obj S.O k).data++bs.take (br S.X bs.length)).length=_
    rw [List.length_append,List.length_take]
    unfold br
    omega
  have hb:=BF (g:=fun p:Int×Th=>(obj S.O p.2.k).data.length) (g':=fun p:Int×Th=>(obj (aN S.O k (fun o=>{ o with data:=o.data++bs.take (br S.X bs.length),sec:=S.X.cS,nano:=S.X.cZ })) p.2.k).data.length) hI.rise ht (fun p hp hne=>by
    have h1:=hI.key (oY hI.rise hp)
    show (obj (aN _ k _) p.2.k).data.length=_
    rw [ct (fun e=>hne (by rw [h1,e]))])
  have hb:bytes S.idx (aN S.O k (fun o=>{ o with data:=o.data++bs.take (br S.X bs.length),sec:=S.X.cS,nano:=S.X.cZ }))+(obj S.O k).data.length=bytes S.idx S.O+(obj (aN S.O k (fun o=>{ o with data:=o.data++bs.take (br S.X bs.length),sec:=S.X.cS,nano:=S.X.cZ })) k).data.length:=hb
  have hu:=hI.used
  have hcB:=hI.cB
  have h1:=hI.toInv0.own (k:=k) (f:=fun o=>{ o with data:=o.data++bs.take (br S.X bs.length),sec:=S.X.cS,nano:=S.X.cZ }) (kT:=S.X.used+(br S.X bs.length:Int)) (us':=S.us) (iq:=S.aD) (fun _=>rfl) (fun _=>rfl) (fun _=>rfl) (fun _=>rfl) (fun _=>rfl) (fun _=>rfl)
    (fun u hu e=>by
      have hk1:u=⟨k,1⟩:=iH hu ht e
      have Vu:=hI.kind hu
      rw [← e]
      exact (hI.mt u hu).of rfl rfl rfl hI.now rfl (.inr (by rw [Vu,hk1])) (.inl rfl) rfl)
    (fun u hu=>by rw [dH (f:=fun o=>{ o with data:=o.data++bs.take (br S.X bs.length),sec:=S.X.cS,nano:=S.X.cZ }) (g:=aY.opens) (fun _=>rfl)];exact hI.opens u hu)
    hI.usr hI.su hI.Cy hI.aD hI.us ⟨by omega,by unfold br;omega⟩
  refine⟨h1,fun u hu hg=>?_⟩
  have hg:(obj (aN S.O k (fun o=>{ o with data:=o.data++bs.take (br S.X bs.length),sec:=S.X.cS,nano:=S.X.cZ })) u.k).gone=true:=hg
  rw [dH (f:=fun o=>{ o with data:=o.data++bs.take (br S.X bs.length),sec:=S.X.cS,nano:=S.X.cZ }) (g:=aY.gone) (fun _=>rfl)] at hg
  show 0 < (obj (aN S.O k (fun o=>{ o with data:=o.data++bs.take (br S.X bs.length),sec:=S.X.cS,nano:=S.X.cZ })) u.k).opens
  rw [dH (f:=fun o=>{ o with data:=o.data++bs.take (br S.X bs.length),sec:=S.X.cS,nano:=S.X.cZ }) (g:=aY.opens) (fun _=>rfl)]
  exact hI.full u hu hg
theorem Inv.Vv (hI:Inv S) {k:Nat} {mode uid gid sec nano:Int} (h1:nZ mode) (h2:Cx uid/\Cx gid) (h3:fO sec nano):Inv { S with O:=aN S.O k (fun o=>{ o with mode:=mode,uid:=uid,gid:=gid,sec:=sec,nano:=nano }) }:=by
  have hb:bytes S.idx (aN S.O k (fun o=>{ o with mode:=mode,uid:=uid,gid:=gid,sec:=sec,nano:=nano }))=bytes S.idx S.O:=ij (fun p _=>by rw [dH (f:=fun o=>{ o with mode:=mode,uid:=uid,gid:=gid,sec:=sec,nano:=nano }) (g:=aY.data) (fun _=>rfl)])
  have g1:=hI.toInv0.own (k:=k) (f:=fun o=>{ o with mode:=mode,uid:=uid,gid:=gid,sec:=sec,nano:=nano }) (kT:=S.X.used) (us':=S.us) (iq:=S.aD) (fun _=>rfl) (fun _=>rfl) (fun _=>rfl) (fun _=>rfl) (fun _=>rfl) (fun _=>rfl)
    (fun u hu e=>by
      have hm:=hI.mt u hu
      rw [e] at hm
      exact⟨h1,h2.1,h2.2,h3,hm.data,hm.ah,hm.target⟩)
    (fun u hu=>by rw [dH (f:=fun o=>{ o with mode:=mode,uid:=uid,gid:=gid,sec:=sec,nano:=nano }) (g:=aY.opens) (fun _=>rfl)];exact hI.opens u hu)
    hI.usr hI.su hI.Cy hI.aD hI.us ⟨by rw [hb];exact hI.used.1,hI.used.2⟩
  refine⟨g1,fun u hu hg=>?_⟩
  have hg:(obj (aN S.O k (fun o=>{ o with mode:=mode,uid:=uid,gid:=gid,sec:=sec,nano:=nano })) u.k).gone=true:=hg
  rw [dH (f:=fun o=>{ o with mode:=mode,uid:=uid,gid:=gid,sec:=sec,nano:=nano }) (g:=aY.gone) (fun _=>rfl)] at hg
  show 0 < (obj (aN S.O k (fun o=>{ o with mode:=mode,uid:=uid,gid:=gid,sec:=sec,nano:=nano })) u.k).opens
  rw [dH (f:=fun o=>{ o with mode:=mode,uid:=uid,gid:=gid,sec:=sec,nano:=nano }) (g:=aY.opens) (fun _=>rfl)]
  exact hI.full u hu hg
theorem Inv.shut (hI:Inv S) {h:Int} (e:aF.get S.us h=some t):Inv { S with
      X:={ S.X with used:=jO (iy S.O t.k) S.X.used t }
      O:=iy S.O t.k
      idx:=iP (iy S.O t.k) S.idx t
      us:=del h S.us }:=by
  have ht:=(hI.us h t e).1
  have hb:bytes S.idx (iy S.O t.k)=bytes S.idx S.O:=ij (fun p _=>by unfold iy;rw [dH (f:=fun o=>{ o with opens:=o.opens - 1 }) (g:=aY.data) (fun _=>rfl)])
  have hd:=fun k=>R5 (k:=k) hI.usr e
  have h1:=hI.toInv0.own (k:=t.k) (f:=fun o=>{ o with opens:=o.opens - 1 }) (kT:=S.X.used) (us':=del h S.us) (iq:=S.aD) (fun _=>rfl) (fun _=>rfl) (fun _=>rfl) (fun _=>rfl) (fun _=>rfl) (fun _=>rfl)
    (fun u hu e=>by rw [← e];exact (hI.mt u hu).of rfl rfl rfl (hI.mt u hu).time rfl (.inl rfl) (.inl rfl) rfl)
    (fun u hu=>by
      have h2:=hI.opens u hu
      have h3:=hd u.k
      by_cases e2:u.k=t.k
      ·rw [e2,cA]
       rw [e2] at h2 h3
       rw [if_pos rfl] at h3
       show (obj S.O t.k).opens - 1=_
       omega
      rw [if_neg (fun e3=>e2 e3.symm)] at h3
      rw [ct e2];omega)
    (GA hI.usr) (fun x hx=>hI.su x (by rw [ox] at hx;exact (List.mem_filter.1 hx).1)) (by have:=nE hI.usr (get_some e);have:=hI.Cy;omega) hI.aD (fun i u hu=>by
      rw [qv] at hu
      split at hu
      ·cases hu
      exact hI.us i u hu) ⟨by rw [show bytes S.idx (aN S.O t.k (fun o=>{ o with opens:=o.opens - 1 }))=bytes S.idx S.O from hb];exact hI.used.1,hI.used.2⟩
  exact h1.sJ (t:=t) ht (fun u hu hut hg=>by
    have hk:u.k≠t.k:=fun e=>hut (iH hu ht e)
    have hg:(obj (aN S.O t.k (fun o=>{ o with opens:=o.opens - 1 })) u.k).gone=true:=hg
    rw [ct hk] at hg
    show 0 < (obj (aN S.O t.k (fun o=>{ o with opens:=o.opens - 1 })) u.k).opens
    rw [ct hk]
    exact hI.full u hu hg)
end ops
end
section
open Go.RowKit Go.Maps bq aF
section facts
variable {S:aJ} {X:FM} {O:bU} {d k to:Nat} {name toName:ByteArray} {t o:Th}
def yN (dp:Nat->Nat):Option Nat->Nat
  | none=>0
  | some y=>dp y+1
theorem M6 {dp:Nat->Nat} (h:∀ k d,(obj O k).up=some d->dp d < dp k) {y:Nat}:yN dp (obj O y).up < yN dp (some y):=by
  cases e:(obj O y).up with
  | none=>exact Nat.succ_pos _
  | some z=>exact Nat.succ_lt_succ (h y z e)
theorem CG {s y:Nat} (h:¬ y=s):jM O s y↔∃ z,(obj O y).up=some z/\jM O s z:=ER.trans (or_iff_right h)
theorem CH (hne:t.k≠d):(obj (aL S d name t).O k).ah=if k=d then iB name (obj S.O d).ah else (obj S.O k).ah:=by
  have h1:(obj (aL S d name t).O k).ah=(obj (aR S.X S.O d name t) k).ah:=by
    unfold aL
    simp only
    split
    ·exact qC (g:=aY.ah) (fun _ _=>rfl)
    rfl
  rw [h1,jE hne]
  split
  ·rfl
  split<;>rfl
theorem rG (hI:Inv0 S) (hto:Live S.idx ⟨to,2⟩) (hl2:aT toName (obj S.O to).ah=some o) (hl:aT name (obj S.O d).ah=some t) (hot:o≠t):aT name (obj (aL S to toName o).O d).ah=some t:=by
  rw [CH (hI.ne hto hl2)]
  split
  ·rename_i e
   subst e
   rw [rA,if_neg (fun e=>by rw [e,hl2] at hl;exact hot (Option.some.inj hl))]
   exact hl
  exact hl
theorem rH (hI:Inv0 S) (hto:Live S.idx ⟨to,2⟩) (hl2:aT toName (obj S.O to).ah=some o):aT toName (obj (aL S to toName o).O to).ah=none:=by
  rw [CH (hI.ne hto hl2),if_pos rfl,rA,if_pos rfl]
theorem jY (hI:Inv0 S) (hto:Live S.idx ⟨to,2⟩) (hl2:aT toName (obj S.O to).ah=some o) (hx:Live S.idx t) (hk:t.k≠o.k):Live (aL S to toName o).idx t:=by
  unfold aL
  simp only
  split
  ·unfold iP
   split
   ·unfold Live
    rw [qv,if_neg]
    ·exact hx
    intro e
    have h1:=(hI.ob o (hI.ent hto hl2).2).1
    rw [qC (g:=aY.id) (fun _ _=>rfl),dS (g:=aY.id) (fun _ _=>rfl) (fun _ _=>rfl) (fun _ _ _=>rfl),h1] at e
    exact hk (by omega)
   exact hx
  exact hx
theorem mZ (hne:t.k≠d):(obj (aR X O d name t) k).ah.length<=(obj O k).ah.length:=by
  rw [jE hne]
  split
  ·rename_i e
   subst e
   exact List.length_filter_le _ _
  split<;>exact Nat.le_refl _
theorem kQ (hI:Inv0 S) (hd:Live S.idx ⟨d,2⟩) (hl:aT name (obj S.O d).ah=some t):0<=(obj (aR S.X S.O d name t) t.k).links/\(obj (aR S.X S.O d name t) t.k).links<=1048576:=by
  have ht:=(hI.ent hd hl).2
  have h1:=hI.links t ht
  have h2:0 < jl S.idx S.O t.k:=nG hd hl
  have h3:=hI.lb ht
  rw [jE (hI.ne hd hl),if_neg (hI.ne hd hl),if_pos rfl]
  show 0<=(obj S.O t.k).links - 1/\(obj S.O t.k).links - 1<=1048576
  omega
end facts
end
section
open Go.RowKit Go.Maps bq aF
theorem bG.take {β:Bs} {A:Option Addr} {d:List UInt8} (h:bG β A d) (n:Nat):bG β A (d.take n):=by
  intro j v hj
  refine h j v ?_
  unfold cG at hj ⊢
  rw [List.map_take] at hj
  rw [List.getElem?_take] at hj
  split at hj
  ·exact hj
  cases hj
theorem KV {a b:List UInt8}:cG (a++b)=cG a++cG b:=List.map_append
theorem Inv0.Vw {S:aJ} {t:Th} (h:Inv0 S) (hl:Live S.idx t):((obj S.O t.k).data.length:Int)<=S.X.used:=by
  have h1:=h.used
  have h2:(obj S.O t.k).data.length<=bytes S.idx S.O:=ld (g:=fun p:Int×Th=>(obj S.O p.2.k).data.length) hl
  omega
theorem M7 {X:FM} {n:Nat} (h:0 < X.cB - X.used):min (n:Int) (X.cB - X.used)=(br X n:Int):=by
  unfold br
  omega
theorem M8 {X:FM} {n:Nat} (h:0 < X.cB - X.used):br X n<=n/\(br X n:Int)<=X.cB - X.used:=by
  unfold br
  omega
section data
variable {O:bU} {us:Used Th} {L L':HL} {k c:Nat} {A:Option Addr} {t:Th}
theorem GN (hL:L'=L.data k A c):bH L' us=bH L us:=by subst hL;rfl
theorem PI (hL:L'=L.data k A c):cY O L'=cY O L:=by
  subst hL
  funext x
  rfl
theorem PJ (hL:L'=L.data k A c) {x:Nat} (h:x≠k):bS O L' x=bS O L x:=by
  have e2:iL L' x (obj O x)=iL L x (obj O x):=by
    subst hL
    unfold iL zN
    simp only [HL.data,if_neg h]
    rfl
  unfold bS
  rw [e2]
  subst hL
  rfl
theorem PK (hL:L'=L.data k A c) {x:Nat} (h:x≠k):cg O L' x=cg O L x:=by
  unfold cg
  subst hL
  simp only [HL.data,if_neg h]
theorem JV (hL:L'=L.data k A c):L'.dA k=A:=by subst hL;exact if_pos rfl
theorem JW (hL:L'=L.data k A c):L'.dC k=c:=by subst hL;exact if_pos rfl
theorem M9 (hL:L'=L.data k A c) {x:Nat}:L'.b x=L.b x:=by subst hL;rfl
end data
section sat
variable {β:Bs} {l l':List HP} {w:World} {i j k c n:Nat} {O:bU} {L L':HL} {f:aY->aY} {cs:List Value} {T:TypeId} {ix:List Nat} {A:Option Addr} {R:Nat->bW} {xs:List Value}
theorem Sat.TL (h:Sat β l w) (hL:L'=L.data k A c) (hp:l[i]?=some (.abs (aG (kX (bS O L) k bW.none)))) (hq:l[j]?=some (.blk (L.b k) cs T)) (hd:nodupB (i::j::ix)=true) (hl:bN l ix=some l') (h0:(f (obj O k)).kind≠0) (hc:iL L' k (f (obj O k))=cs) (hT:rX (f (obj O k)).kind=T):Sat β (.abs (aG (bS (aN O k f) L'))::l') w:=by
  refine h.sH (a:=DV (L.b k) cs T) hp hq (fun _ _ h=>h) hd hl k (fun x hx=>?_) (by rw [zO,if_neg h0,hc,hT,M9 hL])
  rw [Cp hx,PJ hL hx,zR hx]
theorem Sat.TM (h:Sat β l w) (hL:L'=L.data k A c) (hp:l[i]?=some (.abs (aG (kX (cg O L) k bW.none)))) (hq:l[j]?=some (.abs (aH 5 1 A n c xs))) (hd:nodupB (i::j::ix)=true) (hl:bN l ix=some l') (h1:(f (obj O k)).kind=1) (hn:n=(f (obj O k)).data.length) (hx:xs=cG (f (obj O k)).data):Sat β (.abs (aG (cg (aN O k f) L'))::l') w:=by
  refine h.sH hp hq (fun _ _ h=>h) hd hl k (fun x hx=>by rw [Cr hx,PK hL hx,zR hx]) ?_
  rw [tE (by rw [cA];exact h1),cA,JV hL,JW hL,hn,hx]
end sat
end
section
def lP (n:Int):Prop:=n=1\/n=2\/n=4\/n=11\/n=13
end
section
open Go.RowKit Go.Maps bq aF
structure lg (β:Bs) (c:aB):Prop where
  hw:(Lit.int .i64 c.handle).wf=true
  ow:(Lit.int .i64 c.other).wf=true
  nm:c.name.size<=1048576
  tx:c.text.size<=1048576
  da:bG β c.dA c.data
  dl:c.data.length<=1099511627776
  dc:c.data.length<=c.dC
  op:lP c.op
section facts
variable {S:aJ} {h:Int} {name:ByteArray} {need:Int} {t:Th} {c:aB}
theorem CI (hI:Inv0 S) (h:Int) (name:ByteArray) (need:Int):(∃ e,dP S.O S.us h name need=.error e/\e≠0)\/∃ d,dP S.O S.us h name need=.ok d/\Live S.idx ⟨d,2⟩/\(obj S.O d).gone=false/\bD name/\aF.get S.us h=some ⟨d,2⟩:=by
  unfold dP
  cases e:aF.get S.us h with
  | none=>exact .inl ⟨131,rfl,by decide⟩
  | some t=>
    simp only
    split
    ·rename_i hk
     split
     ·exact .inl ⟨170,rfl,by decide⟩
     rename_i hg
     split
     ·rename_i hn
      split
      ·obtain⟨k,kd⟩:=t
       simp only at hk
       subst hk
       exact .inr ⟨k,rfl,(hI.us h _ e).1,by simpa using hg,hn,rfl⟩
      exact .inl ⟨175,rfl,by decide⟩
     exact .inl ⟨95,rfl,by decide⟩
    exact .inl ⟨173,rfl,by decide⟩
theorem Na (hI:Inv0 S) (c:aB):(∃ e,fC S.O S.us c=.error e/\e≠0)\/(∃ k,fC S.O S.us c=.ok ⟨k,1⟩/\Live S.idx ⟨k,1⟩)\/(∃ k,fC S.O S.us c=.ok ⟨k,2⟩/\Live S.idx ⟨k,2⟩)\/∃ k,fC S.O S.us c=.ok ⟨k,3⟩/\Live S.idx ⟨k,3⟩:=by
  unfold fC
  rcases CI hI c.handle c.name 64 with ⟨e,h1,h2⟩|⟨d,h1,h2,_⟩
  ·rw [h1];exact .inl ⟨e,rfl,h2⟩
  rw [h1]
  simp only
  rcases hI.pR h2 c.name with h3|⟨k,h3,h4⟩|⟨k,h3,h4⟩|⟨k,h3,h4⟩
  ·rw [h3];exact .inl ⟨170,rfl,by decide⟩
  ·rw [h3];exact .inr (.inl ⟨k,rfl,h4⟩)
  ·rw [h3];exact .inr (.inr (.inl ⟨k,rfl,h4⟩))
  rw [h3];exact .inr (.inr (.inr ⟨k,rfl,h4⟩))
theorem GP {L:HL} {us:Used Th} {h:Int}:bH L (del h us)=del h (bH L us):=JL (eu L) h us
theorem JX {us:Used Th} {h:Int} (e:aF.get us h=some t):0 < hnd us t.k:=Nat.lt_of_lt_of_le (by simp) (ld (g:=fun p:Int×Th=>if p.2.k=t.k then 1 else 0) e)
theorem GQ {L:HL}:cg (dg S t).2.2.O L=cg S.O L:=by
  by_cases h:(S.us.length:Int) < S.X.cH
  ·rw [jD h];exact tJ (fun _=>dH (f:=fun o=>{ o with opens:=o.opens+1 }) (g:=aY.data) (fun _=>rfl)) (fun _=>oq (f:=fun o=>{ o with opens:=o.opens+1 }) (fun _=>rfl))
  rw [jW h]
theorem GR {L:HL}:cY (dg S t).2.2.O L=cY S.O L:=by
  by_cases h:(S.us.length:Int) < S.X.cH
  ·rw [jD h];exact zQ (f:=fun o=>{ o with opens:=o.opens+1 }) rfl rfl
  rw [jW h]
theorem R6:(jq S c).2.2.op=c.op:=by unfold jq;(repeat' split)<;>rfl
theorem KW:(eF S c).2.2.op=c.op:=by unfold eF;(repeat' split)<;>rfl
theorem Jc:(mU S c).2.2.op=c.op:=by unfold mU;(repeat' split)<;>rfl
theorem KX:(gI S c).2.2.op=c.op:=by unfold gI;(repeat' split)<;>rfl
theorem Jd:(mV S c).2.2.op=c.op:=by unfold mV;(repeat' split)<;>rfl
theorem GS:(l6 S c).2.2.op=c.op:=by unfold l6;(repeat' split)<;>rfl
theorem Nb:(qy S c).2.2.op=c.op:=by unfold qy;(repeat' split)<;>rfl
theorem Je:(mW S c).2.2.op=c.op:=by unfold mW;(repeat' split)<;>rfl
theorem KY:(oy S c).2.2.op=c.op:=by unfold oy;(repeat' split)<;>rfl
theorem Jf:(mX S c).2.2.op=c.op:=by unfold mX;(repeat' split)<;>rfl
theorem KZ:(oz S c).2.2.op=c.op:=by unfold oz;(repeat' split)<;>rfl
theorem K1:(oA S c).2.2.op=c.op:=by unfold oA;(repeat' split)<;>rfl
theorem R7:(kI S c).2.2.op=c.op:=by unfold kI;(repeat' split)<;>rfl
theorem Nc:(qz S c).2.2.op=c.op:=by unfold qz;(repeat' split)<;>rfl
theorem PL:(jt S c).2.2.op=c.op:=by unfold jt;(repeat' split)<;>rfl
end facts
theorem sK {S:aJ} {c:aB} (h:c.op=1):cR S c=jq S c:=by
  unfold cR
  simp [h]
theorem qW {S:aJ} {c:aB} (h:c.op=2):cR S c=eF S c:=by
  unfold cR
  simp [h]
theorem CJ {S:aJ} {c:aB} (h:c.op=3):cR S c=mU S c:=by
  unfold cR
  simp [h]
theorem uH {S:aJ} {c:aB} (h:c.op=4):cR S c=gI S c:=by
  unfold cR
  simp [h]
theorem CK {S:aJ} {c:aB} (h:c.op=5):cR S c=mV S c:=by
  unfold cR
  simp [h]
theorem CM {S:aJ} {c:aB} (h:c.op=6):cR S c=l6 S c:=by
  unfold cR
  simp [h]
theorem CN {S:aJ} {c:aB} (h:c.op=7):cR S c=qy S c:=by
  unfold cR
  simp [h]
theorem CO {S:aJ} {c:aB} (h:c.op=8):cR S c=mW S c:=by
  unfold cR
  simp [h]
theorem CP {S:aJ} {c:aB} (h:c.op=9):cR S c=oz S c:=by
  unfold cR
  simp [h]
theorem yO {S:aJ} {c:aB} (h:c.op=10):cR S c=oA S c:=by
  unfold cR
  simp [h]
theorem tL {S:aJ} {c:aB} (h:c.op=11):cR S c=kI S c:=by
  unfold cR
  simp [h]
theorem yP {S:aJ} {c:aB} (h:c.op=12):cR S c=qz S c:=by
  unfold cR
  simp [h]
theorem rI {S:aJ} {c:aB} (h:c.op=13):cR S c=jt S c:=by
  unfold cR
  simp [h]
theorem yQ {S:aJ} {c:aB} (h:c.op=14):cR S c=oy S c:=by
  unfold cR
  simp [h]
theorem yR {S:aJ} {c:aB} (h:c.op=15):cR S c=mX S c:=by
  unfold cR
  simp [h]
theorem vL {S:aJ} {c:aB} (h:¬ (1<=c.op/\c.op<=15)):cR S c=(230,S,c):=by
  unfold cR
  repeat rw [if_neg (by omega)]
end
section
open Go.RowKit Go.Maps bq aF
section inv
variable {S:aJ} {d to:Nat} {name toName text:ByteArray} {mode:Int} {c:aB}
theorem GU (hI:Inv0 S):hnd S.us (bJ S.X)=0:=by
  have:hnd S.us (bJ S.X)=dz (fun _=>0) S.us:=ij (fun p hp=>if_neg (hI.fresh.us p hp))
  rw [this]
  have h0:∀ us:Used Th,dz (fun _=>0) us=0:=fun us=>by
    induction us with
    | nil=>rfl
    | cons p r ih=>show 0+_=0;rw [ih]
  exact h0 _
theorem AF (hI:Inv0 S) {kind mode:Int} {tg:ByteArray} (hm:nZ mode) (ht:fw kind tg):lf { bg S.X kind mode with target:=tg }:=
  ⟨hm,⟨Int.le_refl _,by show (0:Int)<=2147483647;decide⟩,⟨Int.le_refl _,by show (0:Int)<=2147483647;decide⟩,hI.now,fun _=>rfl,fun _=>rfl,ht⟩
theorem Inv.FH (hI:Inv S) (hd:Live S.idx ⟨d,2⟩) (ko:(obj S.O d).gone=false) (hgn:bD name) (h0:cQ S.X S.O S.idx d name=0) {kind mode:Int} {tg:ByteArray} (hk:kind=1\/kind=2\/kind=3) (hm:nZ mode) (ht:fw kind tg) :
    Inv (gj S d name { bg S.X kind mode with target:=tg }):=by
  have h:=hI.add (us':=S.us) (iq:=S.aD) (o:={ bg S.X kind mode with target:=tg }) hd ko (rF h0) hgn (vo h0) rfl hk rfl rfl rfl rfl rfl (AF hI.toInv0 hm ht) hI.usr hI.su hI.Cy hI.aD (fun h t e=>⟨.inl (hI.us h t e).1,(hI.us h t e).2⟩) (fun _ _=>rfl) (by rw [GU hI.toInv0];rfl)
  exact h
theorem Inv.gY (hI:Inv S) (hd:Live S.idx ⟨d,2⟩) (ko:(obj S.O d).gone=false) (hgn:bD name) (hm:nZ mode):Inv (Proofs.YtiehgnlnofhbaaaGreatDoor.gY S d name mode).2:=by
  unfold Proofs.YtiehgnlnofhbaaaGreatDoor.gY
  split
  ·rename_i h0
   exact hI.FH hd ko hgn h0 (.inr (.inl rfl)) hm (.inl ⟨by decide,rfl⟩)
  exact hI
theorem R8 {s:ByteArray} (h:nQ s=0):fw 3 s:=by
  unfold nQ at h
  split at h
  ·cases h
  rename_i h1
  split at h
  ·cases h
  split at h
  ·rename_i h2 h3
   refine .inr ⟨rfl,?_,by omega,h3⟩
   apply Classical.byContradiction
   intro hn
   have:s.size=0:=by omega
   exact h1 (lU.1 this)
  cases h
theorem Inv.gF (hI:Inv S) (hd:Live S.idx ⟨d,2⟩) (ko:(obj S.O d).gone=false) (hgn:bD name):Inv (Proofs.YtiehgnlnofhbaaaGreatDoor.gF S d name text).2:=by
  unfold Proofs.YtiehgnlnofhbaaaGreatDoor.gF
  split
  ·rename_i hb
   split
   ·rename_i h0
    exact hI.FH hd ko hgn h0 (.inr (.inr rfl)) ⟨by decide,by decide⟩ (R8 hb)
   exact hI
  exact hI
theorem Inv.fP (hI:Inv S) (hd:Live S.idx ⟨d,2⟩):Inv (Proofs.YtiehgnlnofhbaaaGreatDoor.fP S d name).2:=by
  unfold Proofs.YtiehgnlnofhbaaaGreatDoor.fP
  split
  ·exact hI
  rename_i t hl
  split
  ·exact hI
  rename_i hk
  exact hI.zZ hd hl hk
theorem Inv.gq (hI:Inv S) (hd:Live S.idx ⟨d,2⟩):Inv (Proofs.YtiehgnlnofhbaaaGreatDoor.gq S d name).2:=by
  unfold Proofs.YtiehgnlnofhbaaaGreatDoor.gq
  split
  ·exact hI
  rename_i t hl
  split
  ·split
   ·rename_i he
    exact hI.drop hd hl (fun _=>he)
   exact hI
  exact hI
theorem K2 {t:Th} (ht:t.k≠to):(obj (aL S d name t).O to).gone=(obj S.O to).gone:=by
  have h1:(obj (aL S d name t).O to).gone=(obj (aR S.X S.O d name t) to).gone:=by
    unfold aL
    simp only
    split
    ·show (obj (aN _ t.k _) to).gone=_
     rw [ct (fun e=>ht e.symm)]
    rfl
  rw [h1]
  exact dS (g:=aY.gone) (fun _ _=>rfl) (fun _ _=>rfl) (fun _ _ _=>rfl)
theorem Inv.bL (hI:Inv S) (hd:Live S.idx ⟨d,2⟩) (hto:Live S.idx ⟨to,2⟩) (ko:(obj S.O to).gone=false) (hgn:bD toName):Inv (Proofs.YtiehgnlnofhbaaaGreatDoor.bL S d name to toName).2:=by
  unfold Proofs.YtiehgnlnofhbaaaGreatDoor.bL
  split
  ·exact hI
  rename_i t hl
  split
  ·exact hI
  rename_i hb
  have hb:t.kind=2->¬ jM S.O t.k to:=fun h1 h2=>hb ⟨h1,h2⟩
  split
  ·rename_i hn
   exact hI.move hd hl hto ko hn hgn hb
  rename_i o hl2
  split
  ·exact hI
  rename_i hot
  split
  ·exact hI
  rename_i hok
  split
  ·exact hI
  rename_i X6
  have ho:=(hI.ent hto hl2).2
  have TN:o.k≠to:=hI.ne hto hl2
  have h1:=hI.zZ hto hl2 hok
  have hd1:Live (aL S to toName o).idx ⟨d,2⟩:=jY hI.toInv0 hto hl2 hd (fun e=>hok (by have:=iH hd ho e;rw [← this]))
  have kz:Live (aL S to toName o).idx ⟨to,2⟩:=jY hI.toInv0 hto hl2 hto (fun e=>TN e.symm)
  exact h1.move hd1 (rG hI.toInv0 hto hl2 hl hot) kz (by rw [K2 TN];exact ko) (rH hI.toInv0 hto hl2) hgn (fun h=>absurd h X6)
theorem Inv.zV (hI:Inv S) (hd:Live S.idx ⟨d,2⟩) (hto:Live S.idx ⟨to,2⟩) (ko:(obj S.O to).gone=false) (hgn:bD toName):Inv (Proofs.YtiehgnlnofhbaaaGreatDoor.zV S d name to toName).2:=by
  unfold Proofs.YtiehgnlnofhbaaaGreatDoor.zV
  split
  ·exact hI
  rename_i t hl
  have ht:=(hI.ent hd hl).2
  split
  ·exact hI
  rename_i hk
  split
  ·rename_i hn
   split
   ·rename_i hr
    have hgt:(obj S.O t.k).gone=false:=by
      cases hg:(obj S.O t.k).gone with
      | false=>rfl
      | true=>
        have h1:=(hI.gone t ht hg).1
        have h2:=hI.links t ht
        have h3:0 < jl S.idx S.O t.k:=nG hd hl
        omega
    exact hI.link hto ko hn hgn ht hgt hk hr
   exact hI
  exact hI
theorem Inv.qx (hI:Inv S) (hd:Live S.idx ⟨d,2⟩) (ko:(obj S.O d).gone=false) (hgn:bD name) (hm:nZ mode):Inv (Proofs.YtiehgnlnofhbaaaGreatDoor.qx S d name mode).2.2:=by
  unfold Proofs.YtiehgnlnofhbaaaGreatDoor.qx
  split
  ·rename_i h0
   split
   ·rename_i hlt
    obtain⟨g1,g2,_⟩:=least_le hI.usr (fun x hx=>(hI.su x hx).1)
    obtain⟨v1,v2⟩:=JU (t:=⟨bJ S.X,1⟩) hI.usr hI.su
    have hm2:=AF (kind:=1) (tg:=⟨#[]⟩) hI.toInv0 hm (.inl ⟨by decide,rfl⟩)
    refine hI.add (us':=ins (aF.least S.us) ⟨bJ S.X,1⟩ S.us) (iq:=max S.aD ((S.us.length:Int)+1)) (o:={ bg S.X 1 mode with opens:=1 }) hd ko (rF h0) hgn (vo h0) rfl (.inl rfl) rfl rfl rfl rfl rfl ⟨hm2.mode,hm2.uid,hm2.gid,hm2.time,hm2.data,hm2.ah,hm2.target⟩ v1 v2 (by rw [iG];omega) (by have:=hI.aD;omega) (fun h t e=>?_) (fun k hk=>?_) ?_
    ·rw [kZ g2] at e
     split at e
     ·cases e;exact⟨.inr rfl,by show (1:Int)≠3;decide⟩
     exact⟨.inl (hI.us h t e).1,(hI.us h t e).2⟩
    ·rw [D8,if_neg (fun e=>hk e.symm),Nat.zero_add]
    rw [D8,if_pos rfl,GU hI.toInv0];rfl
   exact hI
  exact hI
theorem Inv.cR (hI:Inv S) (c:aB):Inv (Proofs.YtiehgnlnofhbaaaGreatDoor.cR S c).2.1:=by
  have habout:∀ {need:Int} {d:Nat} {h:Int} {n:ByteArray},dP S.O S.us h n need=.ok d->Live S.idx ⟨d,2⟩/\(obj S.O d).gone=false/\bD n:=fun {need d h n} e=>by
    rcases CI hI.toInv0 h n need with ⟨e2,h1,_⟩|⟨d2,h1,h2,h3,h4,_⟩
    ·rw [e] at h1;cases h1
    rw [e] at h1;cases h1;exact⟨h2,h3,h4⟩
  have hnamed:∀ {t:Th},fC S.O S.us c=.ok t->Live S.idx t:=fun {t} e=>by
    rcases Na hI.toInv0 c with ⟨e2,h1,_⟩|⟨k,h1,h2⟩|⟨k,h1,h2⟩|⟨k,h1,h2⟩<;>rw [e] at h1<;>cases h1<;>exact h2
  by_cases h:1<=c.op/\c.op<=15
  ·have h:c.op=1\/c.op=2\/c.op=3\/c.op=4\/c.op=5\/c.op=6\/c.op=7\/c.op=8\/c.op=9\/c.op=10\/c.op=11\/c.op=12\/c.op=13\/c.op=14\/c.op=15:=by omega
   rcases h with h|h|h|h|h|h|h|h|h|h|h|h|h|h|h
   ·rw [sK h]
    unfold jq
    split
    ·exact hI
    rename_i t e
    split
    ·rename_i hk;exact hI.dg (hI.live e) (by rw [hk];decide)
    exact hI
   ·rw [qW h]
    unfold eF
    split
    ·exact hI
    rename_i t e
    split
    ·exact hI
    rename_i hk
    split
    ·exact hI
    exact hI.dg (hnamed e) hk
   ·rw [CJ h]
    unfold mU
    split
    ·exact hI
    rename_i t e
    split
    ·exact hI
    rename_i hk
    split
    ·exact hI
    exact hI.dg (hnamed e) hk
   ·rw [uH h]
    unfold gI
    split
    ·exact hI
    rename_i d e
    obtain⟨h1,h2,h3⟩:=habout e
    split
    ·rename_i hm;exact hI.gY h1 h2 h3 hm
    exact hI
   ·rw [CK h]
    unfold mV
    split
    ·exact hI
    rename_i d e
    obtain⟨h1,h2,h3⟩:=habout e
    split
    ·rename_i hm
     split
     ·exact hI.qx h1 h2 h3 hm
     exact hI
    exact hI
   ·rw [CM h]
    unfold l6
    split
    ·exact hI
    rename_i d e
    obtain⟨h1,h2,h3⟩:=habout e
    exact hI.gF h1 h2 h3
   ·rw [CN h]
    unfold qy
    split
    ·exact hI
    rename_i d e
    split
    ·exact hI
    rename_i to e2
    obtain⟨h1,h2,h3⟩:=habout e2
    exact hI.zV (habout e).1 h1 h2 h3
   ·rw [CO h]
    unfold mW
    split
    ·exact hI
    rename_i d e
    exact hI.fP (habout e).1
   ·rw [CP h]
    unfold oz
    split
    ·exact hI
    rename_i t e
    split
    ·rename_i hk
     obtain⟨k,kd⟩:=t
     simp only at hk
     subst hk
     exact hI.fe (hI.us _ _ e).1 _
    exact hI
   ·rw [yO h]
    unfold oA
    split
    ·exact hI
    split
    ·exact hI
    split
    ·rename_i hm
     split
     ·rename_i ho
      split
      ·rename_i ht;exact hI.Vv hm ho ht
      exact hI
     exact hI
    exact hI
   ·rw [tL h]
    unfold kI
    split<;>exact hI
   ·rw [yP h]
    unfold qz
    split<;>exact hI
   ·rw [rI h]
    unfold jt
    split
    ·exact hI
    rename_i t e;exact hI.shut e
   ·rw [yQ h]
    unfold oy
    split
    ·exact hI
    rename_i d e
    exact hI.gq (habout e).1
   rw [yR h]
   unfold mX
   split
   ·exact hI
   rename_i d e
   split
   ·exact hI
   rename_i to e2
   obtain⟨h1,h2,h3⟩:=habout e2
   exact hI.bL (habout e).1 h1 h2 h3
  rw [vL h];exact hI
theorem Inv.bI (hI:Inv S) (c:aB):Inv (Proofs.YtiehgnlnofhbaaaGreatDoor.bI S c).1:=hI.cR _
end inv
end
section
open Go.RowKit Go.Maps bq aF
structure bK where
  at_:Int
  op:Int
  path:ByteArray
  to:ByteArray
  text:ByteArray
def slash:ByteArray:=⟨#[47]⟩
def jG (s:ByteArray):List ByteArray:=Lib.splitB slash 0 (Lib.countB s slash) s
noncomputable section
def kA (O:bU):Nat->List ByteArray->Except Int (Nat×ByteArray)
  | _,[]=>.error 170
  | d,[p]=>if (obj O d).gone=true then .error 170 else .ok (d,p)
  | d,p::q::r=>match aT p (obj O d).ah with
    | none=>.error 170
    | some t=>if t.kind=3 then .error 174 else if t.kind=1 then .error 173 else kA O t.k (q::r)
instance (ps:List ByteArray):Decidable (∀ p∈ps,bD p):=Classical.propDecidable _
def jP (O:bU) (d:Nat) (path:ByteArray):Except Int (Nat×ByteArray):=if ∀ p∈jG path,bD p then kA O d (jG path) else .error 95
def rJ (S:aJ) (d:Nat) (name text:ByteArray):Int×aJ:=
  if cQ S.X S.O S.idx d name=0 then (0,(fe (gj S d name (bg S.X 1 420)) (bJ S.X) text.data.toList).2.2) else (cQ S.X S.O S.idx d name,S)
def kR (S:aJ) (d:Nat) (name text:ByteArray):Int×aJ:=
  match aT name (obj S.O d).ah with
  | none=>(170,S)
  | some t=>if t.kind=3 then (174,S) else if t.kind=2 then (172,S) else ((fe S t.k text.data.toList).2.1,(fe S t.k text.data.toList).2.2)
def mD (S:aJ) (top:Nat) (a:bK) (d:Nat) (name:ByteArray):Int×aJ:=
  if a.op=1 then rJ S d name a.text
  else if a.op=2 then gY S d name 493
  else if a.op=3 then gF S d name a.text
  else if a.op=4 then fP S d name
  else if a.op=5 then gq S d name
  else if a.op=6 then match jP S.O top a.to with
    | .error e=>(e,S)
    | .ok (to,toName)=>bL S d name to toName
  else kR S d name a.text
def cI (S:aJ) (root:Int) (a:bK):Int×aJ:=
  if a.op < 1\/a.op > 7 then (230,S)
  else match aF.get S.idx root with
    | none=>(141,S)
    | some t=>if t.kind=2 then
        match jP S.O t.k a.path with
        | .error e=>(e,S)
        | .ok (d,name)=>mD S t.k a d name
      else (173,S)
end
section facts
variable {S:aJ} {O:bU} {d d':Nat} {name:ByteArray} {t:Th}
theorem JY (hI:Inv0 S):∀ (ps:List ByteArray) (d:Nat),Live S.idx ⟨d,2⟩->(∀ p∈ps,bD p)->kA S.O d ps=.ok (d',name)->Live S.idx ⟨d',2⟩/\(obj S.O d').gone=false/\bD name
  | [],d,_,_,h=>by cases h
  | [p],d,hd,hg,h=>by
    unfold kA at h
    split at h
    ·cases h
    rename_i hn
    cases h
    exact⟨hd,by simpa using hn,hg _ (List.mem_singleton.2 rfl)⟩
  | p::q::r,d,hd,hg,h=>by
    unfold kA at h
    cases e:aT p (obj S.O d).ah with
    | none=>rw [e] at h;cases h
    | some t=>
      rw [e] at h
      simp only at h
      split at h
      ·cases h
      rename_i h3
      split at h
      ·cases h
      rename_i h1
      have hl:=(hI.ent hd e).2
      have hk:t=⟨t.k,2⟩:=by
        have:=(hI.ob _ hl).2.2
        obtain⟨k,kd⟩:=t
        simp only at this h1 h3
        have:kd=2:=by omega
        rw [this]
      rw [hk] at hl
      exact JY hI (q::r) t.k hl (fun p hp=>hg p (List.mem_cons_of_mem _ hp)) h
theorem D9 {path:ByteArray} (hI:Inv0 S) (hd:Live S.idx ⟨d,2⟩) (h:jP S.O d path=.ok (d',name)):Live S.idx ⟨d',2⟩/\(obj S.O d').gone=false/\bD name:=by
  unfold jP at h
  split at h
  ·rename_i hg
   exact JY hI _ _ hd hg h
  cases h
theorem GV (hI:Inv S) {o:aY}:Live (ins (S.X.last+1) ⟨bJ S.X,o.kind⟩ S.idx) ⟨bJ S.X,o.kind⟩:=by
  unfold Live
  have h1:=sW hI.toInv0
  have hn:S.X.last+1∉keys S.idx:=by
    cases e:aF.get S.idx (S.X.last+1) with
    | none=>exact get_none.1 e
    | some t=>have:=hI.idx _ _ e;omega
  rw [kZ hn]
  simp only
  rw [h1,if_pos rfl]
theorem Inv.rJ {text:ByteArray} (hI:Inv S) (hd:Live S.idx ⟨d,2⟩) (ko:(obj S.O d).gone=false) (hgn:bD name):Inv (Proofs.YtiehgnlnofhbaaaGreatDoor.rJ S d name text).2:=by
  unfold Proofs.YtiehgnlnofhbaaaGreatDoor.rJ
  split
  ·rename_i h0
   exact (hI.FH hd ko hgn h0 (.inl rfl) ⟨by decide,by decide⟩ (.inl ⟨by decide,rfl⟩)).fe (GV hI (o:=bg S.X 1 420)) _
  exact hI
theorem Inv.kR {text:ByteArray} (hI:Inv S) (hd:Live S.idx ⟨d,2⟩):Inv (Proofs.YtiehgnlnofhbaaaGreatDoor.kR S d name text).2:=by
  unfold Proofs.YtiehgnlnofhbaaaGreatDoor.kR
  split
  ·exact hI
  rename_i t e
  split
  ·exact hI
  split
  ·exact hI
  rename_i h3 h2
  have hl:=(hI.ent hd e).2
  have hk:t=⟨t.k,1⟩:=by
    have:=(hI.ob _ hl).2.2
    obtain⟨k,kd⟩:=t
    simp only at this h2 h3
    have:kd=1:=by omega
    rw [this]
  rw [hk] at hl
  exact hI.fe hl _
theorem Inv.mD {top:Nat} {a:bK} (hI:Inv S) (ht:Live S.idx ⟨top,2⟩) (hd:Live S.idx ⟨d,2⟩) (ko:(obj S.O d).gone=false) (hgn:bD name):Inv (Proofs.YtiehgnlnofhbaaaGreatDoor.mD S top a d name).2:=by
  unfold Proofs.YtiehgnlnofhbaaaGreatDoor.mD
  split
  ·exact hI.rJ hd ko hgn
  split
  ·exact hI.gY hd ko hgn ⟨by decide,by decide⟩
  split
  ·exact hI.gF hd ko hgn
  split
  ·exact hI.fP hd
  split
  ·exact hI.gq hd
  split
  ·split
   ·exact hI
   rename_i to toName e
   obtain⟨h1,h2,h3⟩:=D9 hI.toInv0 ht e
   exact hI.bL hd h1 h2 h3
  exact hI.kR hd
theorem R9 {i:Int} (hI:Inv0 S) (e:aF.get S.idx i=some t) (hk:t.kind=2):Live S.idx ⟨t.k,2⟩:=by
  have:=hI.live e
  obtain⟨k,kd⟩:=t
  simp only at hk
  subst hk
  exact this
theorem Inv.cI {root:Int} {a:bK} (hI:Inv S):Inv (Proofs.YtiehgnlnofhbaaaGreatDoor.cI S root a).2:=by
  unfold Proofs.YtiehgnlnofhbaaaGreatDoor.cI
  split
  ·exact hI
  split
  ·exact hI
  rename_i t e
  split
  ·rename_i hk
   split
   ·exact hI
   rename_i d name e2
   have ht:=R9 hI.toInv0 e hk
   obtain⟨h1,h2,h3⟩:=D9 hI.toInv0 ht e2
   exact hI.mD ht h1 h2 h3
  exact hI
end facts
section err
variable {S:aJ} {c:aB} {d to:Nat} {name toName text:ByteArray} {t:Th}
end err
end
section
open Go.RowKit Go.Maps bq aF
noncomputable section
structure bh where
  at_:Int
  kind:Int
def fU (f:bh):List Value:=[.int .i64 f.at_,.int .i64 f.kind]
instance:Inhabited bh:=⟨⟨0,0⟩⟩
instance:Inhabited bK:=⟨⟨0,0,⟨#[]⟩,⟨#[]⟩,⟨#[]⟩⟩⟩
def kq (fs:List bh) (i:Nat):bh:=fs.getD i default
def act (xs:List bK) (i:Nat):bK:=xs.getD i default
def FK (f:bh):Prop:=1<=f.kind/\f.kind<=3
instance (f:bh):Decidable (FK f):=inferInstanceAs (Decidable (_/\_))
def iY:List bh->Int->Int
  | [],_=>0
  | f::r,n=>if f.at_=n/\FK f then f.kind else iY r n
def bF (xs:List bK) (n:Int):List bK:=xs.filter (fun a=>decide (a.at_=n))
def fK (root:Int) (S:aJ) (xs:List bK):aJ:=xs.foldl (fun S a=>(cI S root a).2) S
def cK (c:aB) (e:Int):aB:=if c.op=11\/c.op=12 then ⟨c.op,c.handle,0,c.name,c.text,c.dA,c.dC,c.data,0,0,0,0,0,e,0⟩ else { c with answer:=0,code:=e }
def bE (k:Int) (S:aJ) (c:aB):aJ×aB:=
  if k=1 then (if c.op=13 then (bI S c).1 else S,cK c 180)
  else if k=2/\(c.op=4\/c.op=5\/c.op=6\/c.op=7\/c.op=9) then (S,cK c 176)
  else if k=3/\c.op=9/\2<=c.data.length then ((bI S { c with data:=c.data.take (c.data.length / 2) }).1,{ (bI S { c with data:=c.data.take (c.data.length / 2) }).2 with dA:=c.dA,dC:=c.dC,data:=c.data })
  else bI S c
def nI (root:Int) (c:aB):aB:=if c.op=1 then { c with other:=root } else c
def aS (fs:List bh) (xs:List bK) (root:Int) (n:Nat) (S:aJ) (c:aB):aJ×aB:=bE (iY fs n) (fK root S (bF xs n)) (nI root c)
section p
variable {S:aJ} {c:aB} {fs gs:List bh} {xs ys:List bK} {root k:Int} {n:Nat} {A:Option Addr} {m:Nat}
theorem sM (f:bh) (x:Int):∀ fs:List bh,iY (fs++[f]) x=if iY fs x=0 then (if f.at_=x/\FK f then f.kind else 0) else iY fs x
  | []=>rfl
  | g::r=>by
    show (if g.at_=x/\FK g then g.kind else iY (r++[f]) x)=if (if g.at_=x/\FK g then g.kind else iY r x)=0 then _ else (if g.at_=x/\FK g then g.kind else iY r x)
    by_cases h:g.at_=x/\FK g
    ·have:¬ g.kind=0:=by have:=h.2.1;omega
     rw [if_pos h,if_pos h,if_neg this]
    rw [if_neg h,if_neg h,sM f x r]
theorem AJ (a:bK) (x:Int):bF (xs++[a]) x=if a.at_=x then bF xs x++[a] else bF xs x:=by
  unfold bF
  rw [List.filter_append]
  by_cases h:a.at_=x
  ·rw [if_pos h,List.filter_cons_of_pos (by simpa using h),List.filter_nil]
  rw [if_neg h,List.filter_cons_of_neg (by simpa using h),List.filter_nil,List.append_nil]
theorem CQ (x:Int):(bF xs x).length<=xs.length:=List.length_filter_le ..
theorem K3 {x:Int} {a:bK} (h:a∈bF xs x):a∈xs:=(List.mem_filter.1 h).1
theorem K5 (a:bK):fK root S (xs++[a])=(cI (fK root S xs) root a).2:=by
  unfold fK;rw [List.foldl_append];rfl
theorem sY {i:Nat} (h:i < xs.length):xs[i]?=some (act xs i):=getD_some h
theorem z7 {i:Nat} (h:i < fs.length):fs[i]?=some (kq fs i):=getD_some h
theorem K6 {i:Nat} (h:i < xs.length):fK root S (xs.take (i+1))=(cI (fK root S (xs.take i)) root (act xs i)).2:=by
  rw [List.take_add_one,sY h];exact K5 _
theorem Inv.fK (h:Inv S):∀ xs:List bK,Inv (Proofs.YtiehgnlnofhbaaaGreatDoor.fK root S xs):=fun xs=>by
  induction xs generalizing S with
  | nil=>exact h
  | cons a r ih=>exact ih h.cI
theorem Inv.bE (h:Inv S):Inv (Proofs.YtiehgnlnofhbaaaGreatDoor.bE k S c).1:=by
  unfold Proofs.YtiehgnlnofhbaaaGreatDoor.bE
  split
  ·show Inv (if c.op=13 then _ else _)
   split
   ·exact h.bI _
   exact h
  split
  ·exact h
  split
  ·exact h.bI _
  exact h.bI _
theorem Inv.aS (h:Inv S):Inv (Proofs.YtiehgnlnofhbaaaGreatDoor.aS fs xs root n S c).1:=(h.fK _).bE
def dF (A:Option Addr) (m:Nat) (c:aB):aB:={ c with dA:=A,dC:=m }
theorem TP:cR S (dF A m c)=((cR S c).1,(cR S c).2.1,dF A m (cR S c).2.2):=by
  by_cases hop:1<=c.op/\c.op<=15
  case neg=>rw [vL hop,vL (c:=dF A m c) hop]
  have hop:c.op=1\/c.op=2\/c.op=3\/c.op=4\/c.op=5\/c.op=6\/c.op=7\/c.op=8\/c.op=9\/c.op=10\/c.op=11\/c.op=12\/c.op=13\/c.op=14\/c.op=15:=by omega
  rcases hop with q|q|q|q|q|q|q|q|q|q|q|q|q|q|q
  ·rw [sK q,sK (c:=dF A m c) q];unfold jq dF;simp only;cases aF.get S.idx c.other<;>(try simp only)<;>(repeat' split)<;>rfl
  ·rw [qW q,qW (c:=dF A m c) q];unfold eF fC dF;simp only;split<;>(repeat' split)<;>rfl
  ·rw [CJ q,CJ (c:=dF A m c) q];unfold mU fC dF;simp only;split<;>(repeat' split)<;>rfl
  ·rw [uH q,uH (c:=dF A m c) q];unfold gI dF;simp only;split<;>(repeat' split)<;>rfl
  ·rw [CK q,CK (c:=dF A m c) q];unfold mV dF;simp only;split<;>(repeat' split)<;>rfl
  ·rw [CM q,CM (c:=dF A m c) q];unfold l6 dF;simp only;split<;>(repeat' split)<;>rfl
  ·rw [CN q,CN (c:=dF A m c) q];unfold qy dF;simp only;split<;>(repeat' split)<;>rfl
  ·rw [CO q,CO (c:=dF A m c) q];unfold mW dF;simp only;split<;>(repeat' split)<;>rfl
  ·rw [CP q,CP (c:=dF A m c) q];unfold oz dF;simp only;split<;>(repeat' split)<;>rfl
  ·rw [yO q,yO (c:=dF A m c) q];unfold oA dF;simp only;split<;>(repeat' split)<;>rfl
  ·rw [tL q,tL (c:=dF A m c) q];unfold kI dF;simp only;split<;>(repeat' split)<;>rfl
  ·rw [yP q,yP (c:=dF A m c) q];unfold qz fC dF;simp only;split<;>(repeat' split)<;>rfl
  ·rw [rI q,rI (c:=dF A m c) q];unfold jt dF;simp only;split<;>(repeat' split)<;>rfl
  ·rw [yQ q,yQ (c:=dF A m c) q];unfold oy dF;simp only;split<;>(repeat' split)<;>rfl
  rw [yR q,yR (c:=dF A m c) q];unfold mX dF;simp only;split<;>(repeat' split)<;>rfl
theorem PN:(cR S c).2.2.data=c.data:=by
  by_cases hop:1<=c.op/\c.op<=15
  case neg=>rw [vL hop]
  have hop:c.op=1\/c.op=2\/c.op=3\/c.op=4\/c.op=5\/c.op=6\/c.op=7\/c.op=8\/c.op=9\/c.op=10\/c.op=11\/c.op=12\/c.op=13\/c.op=14\/c.op=15:=by omega
  rcases hop with q|q|q|q|q|q|q|q|q|q|q|q|q|q|q
  ·rw [sK q];unfold jq;(repeat' split)<;>rfl
  ·rw [qW q];unfold eF;(repeat' split)<;>rfl
  ·rw [CJ q];unfold mU;(repeat' split)<;>rfl
  ·rw [uH q];unfold gI;(repeat' split)<;>rfl
  ·rw [CK q];unfold mV;(repeat' split)<;>rfl
  ·rw [CM q];unfold l6;(repeat' split)<;>rfl
  ·rw [CN q];unfold qy;(repeat' split)<;>rfl
  ·rw [CO q];unfold mW;(repeat' split)<;>rfl
  ·rw [CP q];unfold oz;(repeat' split)<;>rfl
  ·rw [yO q];unfold oA;(repeat' split)<;>rfl
  ·rw [tL q];unfold kI qV;(repeat' split)<;>rfl
  ·rw [yP q];unfold qz qV;(repeat' split)<;>rfl
  ·rw [rI q];unfold jt;(repeat' split)<;>rfl
  ·rw [yQ q];unfold oy;(repeat' split)<;>rfl
  rw [yR q];unfold mX;(repeat' split)<;>rfl
theorem GW:bI S (dF A m c)=((bI S c).1,dF A m (bI S c).2):=by
  have h:=TP (S:=S) (A:=A) (m:=m) (c:={ c with answer:=0,code:=230 })
  unfold bI
  rw [show ({ dF A m c with answer:=0,code:=230 }:aB)=dF A m { c with answer:=0,code:=230 } from rfl,h]
  rfl
theorem PO:(bI S c).2.data=c.data:=PN (c:={ c with answer:=0,code:=230 })
theorem GX {e:Int}:cK (dF A m c) e=dF A m (cK c e):=by
  unfold cK
  by_cases h:c.op=11\/c.op=12
  ·rw [if_pos h,if_pos (show (dF A m c).op=11\/(dF A m c).op=12 from h)];rfl
  rw [if_neg h,if_neg (show ¬ ((dF A m c).op=11\/(dF A m c).op=12) from h)];rfl
theorem CR {e:Int}:(cK c e).data=c.data:=by
  unfold cK;split<;>rfl
theorem Jg:(bE k S c).2.data=c.data:=by
  unfold bE
  split
  ·exact CR
  split
  ·exact CR
  split
  ·rfl
  exact PO
theorem Nd:bE k S (dF A m c)=((bE k S c).1,dF A m (bE k S c).2):=by
  unfold bE
  by_cases h1:k=1
  ·rw [if_pos h1,if_pos h1]
   show (if c.op=13 then (bI S (dF A m c)).1 else S,cK (dF A m c) 180)=_
   rw [GW,GX]
  rw [if_neg h1,if_neg h1]
  by_cases h2:k=2/\(c.op=4\/c.op=5\/c.op=6\/c.op=7\/c.op=9)
  ·rw [if_pos h2,if_pos (show k=2/\((dF A m c).op=4\/(dF A m c).op=5\/(dF A m c).op=6\/(dF A m c).op=7\/(dF A m c).op=9) from h2),GX]
  rw [if_neg h2,if_neg (show ¬ (k=2/\((dF A m c).op=4\/(dF A m c).op=5\/(dF A m c).op=6\/(dF A m c).op=7\/(dF A m c).op=9)) from h2)]
  by_cases h3:k=3/\c.op=9/\2<=c.data.length
  ·rw [if_pos h3,if_pos (show k=3/\(dF A m c).op=9/\2<=(dF A m c).data.length from h3)]
   show ((bI S (dF A m { c with data:=c.data.take (c.data.length / 2) })).1,{ (bI S (dF A m { c with data:=c.data.take (c.data.length / 2) })).2 with dA:=A,dC:=m,data:=c.data })=_
   rw [GW];rfl
  rw [if_neg h3,if_neg (show ¬ (k=3/\(dF A m c).op=9/\2<=(dF A m c).data.length) from h3)]
  exact GW
theorem K7:(nI root c).data=c.data:=by
  unfold nI;split<;>rfl
theorem Jh:(aS fs xs root n S c).2.data=c.data:=Jg.trans K7
theorem Ji {kS:Int} (h:kS=if c.op=1 then root else c.other):nI root c={ c with other:=kS }:=by
  unfold nI
  by_cases e:c.op=1
  ·rw [if_pos e] at h ⊢;rw [h]
  rw [if_neg e] at h ⊢;rw [h]
end p
end
end
section
open Go.RowKit Go.WideShapes Go.ChangeShapes Go.ChangeAt Go.Deep
def bR {α:Type} (f:α->List Value) (xs:List α):List Value:=dI (fun _ x=>f x) 0 xs
theorem Nf {α:Type} {f:α->List Value} {s:Nat} (hf:∀ a,(f a).length=s) {xs:List α} {i j:Nat} {a:α} (h:xs[i]?=some a) (hj:j < s):(bR f xs)[i * s+j]?=(f a)[j]?:=q6 (f:=fun _ x=>f x) (s:=s) (fun _ a=>hf a) xs 0 i j _ h hj
def gM (a:bK):List Value:=[.int .i64 a.at_,.int .i64 a.op,.string a.path,.string a.to,.string a.text]
structure yS (a:bK) (b:Nat):Prop where
  aw:(Lit.int .i64 a.at_).wf=true
  path:a.path.size<=b
  to:a.to.size<=b
  text:a.text.size<=b
theorem yS.wide {a:bK} {b b':Nat} (h:yS a b) (g:b<=b'):yS a b':=⟨h.aw,Nat.le_trans h.path g,Nat.le_trans h.to g,Nat.le_trans h.text g⟩
structure Vx (β:Bs) (c:aB) (b:Nat):Prop where
  data:bG β c.dA c.data
  len:c.data.length<=b
  name:c.name.size<=b
  text:c.text.size<=b
  hw:(Lit.int .i64 c.handle).wf=true
  ow:(Lit.int .i64 c.other).wf=true
instance:Inhabited aB:=⟨⟨0,0,0,⟨#[]⟩,⟨#[]⟩,none,0,[],0,0,0,0,0,0,0⟩⟩
def X7 (xs:List aB) (i:Nat):aB:=xs.getD i default
structure ef (xs:List bK) (b:Nat):Prop where
  len:xs.length<=b
  q:∀ a∈xs,yS a b
structure jj (xs:List bh) (b:Nat):Prop where
  len:xs.length<=b
  q:∀ a∈xs,(Lit.int .i64 a.at_).wf=true
theorem ef.wide {xs:List bK} {b b':Nat} (h:ef xs b) (g:b<=b'):ef xs b':=⟨Nat.le_trans h.len g,fun a ha=>(h.q a ha).wide g⟩
theorem jj.wide {xs:List bh} {b b':Nat} (h:jj xs b) (g:b<=b'):jj xs b':=⟨Nat.le_trans h.len g,h.q⟩
structure XQ (β:Bs) (A:Option Addr) (xs:List aB):Prop where
  row:cM β A (bR dr xs)
  q:∀ i,i < xs.length->Vx β (X7 xs i) 1048576
section s
variable {β β':Bs} {A:Option Addr} {i j:Nat} {v:Value}
theorem QU {α:Type} {f:α->List Value} {s:Nat} {xs:List α} {a:α} (h:cM β A (bR f xs)) (hf:∀ a,(f a).length=s) (hi:xs[i]?=some a) (hv:(f a)[j]?=some v):A=some ⟨ay A,ax A,none⟩/\Rd β ⟨ay A,ax A+i * s+j,none⟩ v:=by
  have hj:j < s:=by rw [← hf a];exact bw hv
  have:=h (i * s+j) v ((Nf hf hi hj).trans hv)
  rw [← Nat.add_assoc] at this
  exact this
theorem QV {xs:List bK} (h:cM β A (bR gM xs)) (hi:i < xs.length):A=some ⟨ay A,ax A,none⟩:=(QU (s:=5) (j:=0) h (fun _=>rfl) (sY hi) rfl).1
theorem qX {xs:List bK} (h:cM β A (bR gM xs)) (hi:i < xs.length) (hv:(gM (act xs i))[j]?=some v):Rd β ⟨ay A,ax A+i * 5+j,none⟩ v:=(QU h (fun _=>rfl) (sY hi) hv).2
theorem Vy {xs:List bh} (h:cM β A (bR fU xs)) (hi:i < xs.length):A=some ⟨ay A,ax A,none⟩:=(QU (s:=2) (j:=0) h (fun _=>rfl) (z7 hi) rfl).1
theorem QW {xs:List bh} (h:cM β A (bR fU xs)) (hi:i < xs.length) (hv:(fU (kq xs i))[j]?=some v):Rd β ⟨ay A,ax A+i * 2+j,none⟩ v:=(QU h (fun _=>rfl) (z7 hi) hv).2
theorem jj.at {xs:List bh} {b:Nat} (h:jj xs b) (hi:i < xs.length):(Lit.int .i64 (kq xs i).at_).wf=true:=h.q _ (List.mem_of_getElem? (z7 hi))
theorem ef.at {xs:List bK} {b:Nat} (h:ef xs b) (hi:i < xs.length):yS (act xs i) b:=h.q _ (List.mem_of_getElem? (sY hi))
end s
section a
variable {H:Type} {enc:TypeId×Value->H} {W:World} {sp:Nat->Bool}
theorem vM {t:TypeId} {n:Nat} {c:Value} {x:DataW H×List MemPlace} (ht:Tryz.prog.underlying t=some (.int .i64)) (h:DataW.trod enc Tryz.prog W 0 sp true n t [c]=some x):∃ z,c=.int .i64 z/\(Lit.int .i64 z).wf=true:=by
  obtain⟨z,h1,_,h3⟩:=DataW.trod_int ht h
  cases h1
  exact⟨z,rfl,h3⟩
theorem PS {n:Nat} {cs:List Value} {x:DataW H×List MemPlace} (h:DataW.trod enc Tryz.prog W 0 sp true n 136 cs=some x):∃ a:bK,cs=gM a/\yS a (Rows.uptoBulk x.1):=by
  obtain⟨vs,m,_,hx,hl,hvl,hv⟩:=DataW.trod_struct Tryz.underlying136 h
  have hC:Tryz.prog.cellsOf 136=5:=by kernel_rfl
  rw [hC] at hl
  match cs,hl with
  | [c0,c1,c2,c3,c4],_=>
    obtain⟨a0,_⟩:=bO (hv 0 _ rfl) (by rw [hvl];decide)
    obtain⟨a1,_⟩:=bO (hv 1 _ rfl) (by rw [hvl];decide)
    obtain⟨a2,e2⟩:=bO (hv 2 _ rfl) (by rw [hvl];decide)
    obtain⟨a3,e3⟩:=bO (hv 3 _ rfl) (by rw [hvl];decide)
    obtain⟨a4,e4⟩:=bO (hv 4 _ rfl) (by rw [hvl];decide)
    obtain⟨z0,rfl,w0⟩:=vM (c:=c0) Tryz.underlying3 a0
    obtain⟨z1,rfl,_⟩:=vM (c:=c1) Tryz.underlying3 a1
    obtain⟨s2,rfl,l2⟩:=tu (c:=c2) Tryz.underlying9 a2
    obtain⟨s3,rfl,l3⟩:=tu (c:=c3) Tryz.underlying9 a3
    obtain⟨s4,rfl,l4⟩:=tu (c:=c4) Tryz.underlying9 a4
    have hb:Rows.uptoBulk x.1=Rows.uptoBulk (.agg (vs.map (·.1))):=by rw [hx]
    exact⟨⟨z0,z1,s2,s3,s4⟩,rfl,⟨w0,by show s2.size<=_;omega,by show s3.size<=_;omega,by show s4.size<=_;omega⟩⟩
theorem K9 {n:Nat} {cs:List Value} {x:DataW H×List MemPlace} (h:DataW.trod enc Tryz.prog W 0 sp true n 139 cs=some x):∃ a:bh,cs=fU a/\(Lit.int .i64 a.at_).wf=true:=by
  obtain⟨vs,m,_,hx,hl,hvl,hv⟩:=DataW.trod_struct Tryz.underlying139 h
  have hC:Tryz.prog.cellsOf 139=2:=by kernel_rfl
  rw [hC] at hl
  match cs,hl with
  | [c0,c1],_=>
    obtain⟨a0,_⟩:=bO (hv 0 _ rfl) (by rw [hvl];decide)
    obtain⟨a1,_⟩:=bO (hv 1 _ rfl) (by rw [hvl];decide)
    obtain⟨z0,rfl,w0⟩:=vM (c:=c0) Tryz.underlying3 a0
    obtain⟨z1,rfl,_⟩:=vM (c:=c1) Tryz.underlying3 a1
    exact⟨⟨z0,z1⟩,rfl,w0⟩
theorem La {n:Nat} {c:Value} {x:DataW H×List MemPlace} (h:DataW.trod enc Tryz.prog W 0 sp true n 30 [c]=some x):∃ A cp,∃ xs:List bK,c=.slice A xs.length cp/\cM (B0 W) A (bR gM xs)/\ef xs (Rows.uptoBulk x.1)/\xs.length<=cp:=by
  obtain⟨A,cp,xs,D,h1,TQ,_,h2,h4,h3⟩:=qq (α:=bK) (f:=gM) (Q:=fun a d=>yS a (Rows.uptoBulk d)) Tryz.underlying30 (size:=5) (by kernel_rfl) (by decide) (fun n cs x h=>PS h) (fun _=>rfl) h
  cases h1
  have h5:=qp ((List.range xs.length).map D)
  refine⟨A,cp,xs,rfl,h2,⟨by simp at h5;omega,fun a ha=>?_⟩,TQ⟩
  obtain⟨i,hi,e⟩:=List.mem_iff_getElem.1 ha
  have h6:=h4 i hi
  rw [show xs.getD i default=a by rw [← e];simp [hi]] at h6
  exact h6.wide (by have:=wu (D:=D) hi;omega)
theorem GY {n:Nat} {c:Value} {x:DataW H×List MemPlace} (h:DataW.trod enc Tryz.prog W 0 sp true n 29 [c]=some x):∃ A cp,∃ xs:List bh,c=.slice A xs.length cp/\cM (B0 W) A (bR fU xs)/\jj xs (Rows.uptoBulk x.1)/\xs.length<=cp:=by
  obtain⟨A,cp,xs,D,h1,TQ,_,h2,h4,h3⟩:=qq (α:=bh) (f:=fU) (Q:=fun a _=>(Lit.int .i64 a.at_).wf=true) Tryz.underlying29 (size:=2) (by kernel_rfl) (by decide) (fun n cs x h=>K9 h) (fun _=>rfl) h
  cases h1
  have h5:=qp ((List.range xs.length).map D)
  refine⟨A,cp,xs,rfl,h2,⟨by simp at h5;omega,fun a ha=>?_⟩,TQ⟩
  obtain⟨i,hi,e⟩:=List.mem_iff_getElem.1 ha
  have h6:=h4 i hi
  rw [show xs.getD i default=a by rw [← e];simp [hi]] at h6
  exact h6
def Ea (A:Option Addr) (n cp:Nat) (root:Int) (X:FM) (Af:Option Addr) (nf cf:Nat) (Aa:Option Addr) (na ca:Nat):Value:=.agg #[.slice A n cp,.int .i64 root,.int .i64 X.cN,.int .i64 X.cB,.int .i64 X.cH,.int .i64 X.cS,.int .i64 X.cZ,.slice Af nf cf,.slice Aa na ca]
theorem open_wstart {v:Value} {d:DataW H} {ps:List MemPlace} {r:Go.Reach} {b0:Nat} (hval:Value.okWide Tryz.prog W r b0 34 v) (h:DataW.Trod enc Tryz.prog W 0 sp true 34 v d ps) :
    ∃ A cp,∃ ns:List aI,∃ L:Lay,∃ root:Int,∃ X:FM,∃ Af cf,∃ fs:List bh,∃ Aa ca,∃ xs:List bK,v=Ea A ns.length cp root X Af fs.length cf Aa xs.length ca/\aE (B0 W) A ns L/\fN ns (Rows.uptoBulk d)/\Xa X/\(Lit.int .i64 root).wf=true ∧
      cM (B0 W) Af (bR fU fs)/\jj fs (Rows.uptoBulk d)/\fs.length<=cf/\cM (B0 W) Aa (bR gM xs)/\ef xs (Rows.uptoBulk d)/\xs.length<=ca:=by
  obtain⟨cs,rfl,hcs⟩:=okWide_struct Tryz.underlying34 hval
  obtain⟨fuel,h⟩:=h
  obtain⟨ys,m,_,hx,hl,qg,hf⟩:=DataW.trod_struct Tryz.underlying34 h
  have hC:Tryz.prog.cellsOf 34=9:=by kernel_rfl
  rw [hC] at hcs
  obtain⟨cs⟩:=cs
  match cs,hcs with
  | [c0,c1,c2,c3,c4,c5,c6,c7,c8],_=>
    obtain⟨h0,b0⟩:=bO (hf 0 _ rfl) (by rw [qg];decide)
    obtain⟨hr,_⟩:=bO (hf 1 _ rfl) (by rw [qg];decide)
    obtain⟨h1,_⟩:=bO (hf 2 _ rfl) (by rw [qg];decide)
    obtain⟨h3,b3⟩:=bO (hf 3 _ rfl) (by rw [qg];decide)
    obtain⟨us,_,_,X8,_,Mk,hu⟩:=DataW.trod_struct Tryz.underlying24 h0
    obtain⟨g0,e0⟩:=bO (hu 0 _ rfl) (by rw [Mk];decide)
    obtain⟨A,cp,ns,L,rfl,hG,hB⟩:=KA (c:=c0) g0
    obtain⟨vs,_,_,_,_,hvl,hv⟩:=DataW.trod_struct Tryz.underlying28 h1
    obtain⟨k0,_⟩:=bO (hv 0 _ rfl) (by rw [hvl];decide)
    obtain⟨k1,_⟩:=bO (hv 1 _ rfl) (by rw [hvl];decide)
    obtain⟨k2,_⟩:=bO (hv 2 _ rfl) (by rw [hvl];decide)
    obtain⟨k3,_⟩:=bO (hv 3 _ rfl) (by rw [hvl];decide)
    obtain⟨ts,_,_,_,_,htl,ht⟩:=DataW.trod_struct Tryz.underlying26 k3
    obtain⟨t0,_⟩:=bO (ht 0 _ rfl) (by rw [htl];decide)
    obtain⟨t1,_⟩:=bO (ht 1 _ rfl) (by rw [htl];decide)
    obtain⟨zr,rfl,wr⟩:=vM (c:=c1) Tryz.underlying3 hr
    obtain⟨z0,rfl,w0⟩:=jv (c:=c2) Tryz.underlying3 k0
    obtain⟨z1,rfl,w1⟩:=jv (c:=c3) Tryz.underlying3 k1
    obtain⟨z2,rfl,w2⟩:=jv (c:=c4) Tryz.underlying3 k2
    obtain⟨z3,rfl,w3⟩:=jv (c:=c5) Tryz.underlying3 t0
    obtain⟨z4,rfl,w4⟩:=jv (c:=c6) Tryz.underlying3 t1
    obtain⟨ws,_,_,hwx,_,hwl,hw⟩:=DataW.trod_struct Tryz.underlying32 h3
    obtain⟨q0,d0⟩:=bO (hw 0 _ rfl) (by rw [hwl];decide)
    obtain⟨q1,d1⟩:=bO (hw 1 _ rfl) (by rw [hwl];decide)
    obtain⟨Af,cf,fs,rfl,hF,V7,X9⟩:=GY (c:=c7) q0
    obtain⟨Aa,ca,xs,rfl,hA,V8,Ya⟩:=La (c:=c8) q1
    cases hx
    rw [X8] at b0
    rw [hwx] at b3
    exact⟨A,cp,ns,L,zr,⟨z0,z1,z2,z3,z4,0,0,0⟩,Af,cf,fs,Aa,ca,xs,rfl,hG,hB.wide (Nat.le_trans e0 b0),⟨w0,w1,w2,w3,w4⟩,wr,hF,⟨Nat.le_trans V7.len (Nat.le_trans d0 b3),V7.q⟩,X9,hA,⟨Nat.le_trans V8.len (Nat.le_trans d1 b3),fun a ha=>(V8.q a ha).wide (Nat.le_trans d1 b3)⟩,Ya⟩
end a
end
end Go.Proofs.YtiehgnlnofhbaaaGreatDoor
section
namespace Go.Proofs
open Go.Shelf
def Tryz.keysS_ren:Go.Shelf.Ren:=⟨fun|7=>60|10=>82|n=>n,fun|23=>174|26=>9|3=>156|28=>172|0=>0|27=>171|33=>214|4=>4|n=>n,fun|n=>n⟩
theorem Tryz.keysS:Go.Proofs.SlLaysZ.n7 Tryz.prog Tryz.keysS_ren:={
  mixed:=by kernel_rfl
  f7:=⟨Tryz.f60.name,by decide,Tryz.func60.trans (congrArg some (by kernel_rfl))⟩
  f10:=⟨Tryz.f82.name,by decide,Tryz.func82.trans (congrArg some (by kernel_rfl))⟩
  t0:=Tryz.underlying0
  a0:=Tryz.isAgg0
  z0:=Tryz.sizeOf0
  v0:=Tryz.zeroValue0
  t4:=Tryz.underlying4
  a4:=Tryz.isAgg4
  z4:=Tryz.sizeOf4
  v4:=Tryz.zeroValue4
  t23:=Tryz.underlying174
  a23:=Tryz.isAgg174
  z23:=Tryz.sizeOf174
  v23:=Tryz.zeroValue174
  t26:=Tryz.underlying9
  a26:=Tryz.isAgg9
  z26:=Tryz.sizeOf9
  v26:=Tryz.zeroValue9
  t27:=Tryz.underlying171
  a27:=Tryz.isAgg171
  z27:=Tryz.sizeOf171
  v27:=Tryz.zeroValue171
  t28:=Tryz.underlying172
  a28:=Tryz.isAgg172
  z28:=Tryz.sizeOf172
  v28:=Tryz.zeroValue172
  t33:=Tryz.underlying214
  a33:=Tryz.isAgg214
  z33:=Tryz.sizeOf214
  v33:=Tryz.zeroValue214 }
def Tryz.sortedS_ren:Go.Shelf.Ren:=⟨fun|6=>59|8=>80|9=>81|11=>92|13=>85|12=>93|23=>103|24=>104|14=>107|15=>108|16=>109|17=>110|18=>111|19=>112|20=>113|21=>114|22=>115|25=>124|26=>117|27=>118|28=>125|29=>126|30=>127|31=>134|n=>n,fun|26=>9|28=>172|24=>35|0=>0|3=>3|37=>193|48=>235|50=>237|4=>4|40=>229|39=>228|45=>121|5=>5|9=>9|51=>245|55=>249|57=>253|58=>254|33=>214|n=>n,fun|n=>n⟩
theorem Tryz.sortedS:Go.Proofs.SlLaysZ.n6 Tryz.prog Tryz.sortedS_ren:={
  mixed:=by kernel_rfl
  f6:=⟨Tryz.f59.name,by decide,Tryz.func59.trans (congrArg some (by kernel_rfl))⟩
  f8:=⟨Tryz.f80.name,by decide,Tryz.func80.trans (congrArg some (by kernel_rfl))⟩
  f11:=⟨Tryz.f92.name,by decide,Tryz.func92.trans (congrArg some (by kernel_rfl))⟩
  t0:=Tryz.underlying0
  a0:=Tryz.isAgg0
  z0:=Tryz.sizeOf0
  v0:=Tryz.zeroValue0
  t24:=Tryz.underlying35
  a24:=Tryz.isAgg35
  z24:=Tryz.sizeOf35
  v24:=Tryz.zeroValue35
  t26:=Tryz.underlying9
  a26:=Tryz.isAgg9
  z26:=Tryz.sizeOf9
  v26:=Tryz.zeroValue9
  t28:=Tryz.underlying172
  a28:=Tryz.isAgg172
  z28:=Tryz.sizeOf172
  v28:=Tryz.zeroValue172
  i26:=by kernel_rfl }
def Tryz.sortS_ren:Go.Shelf.Ren:=⟨fun|6=>81|8=>85|9=>93|19=>103|20=>104|21=>107|22=>108|23=>109|24=>110|25=>111|26=>112|27=>113|28=>114|29=>115|36=>124|31=>117|32=>118|37=>125|38=>126|39=>127|41=>134|n=>n,fun|27=>35|29=>9|3=>3|32=>193|26=>35|0=>0|44=>235|46=>237|4=>4|36=>229|35=>228|41=>121|5=>5|9=>9|53=>245|57=>249|63=>253|64=>254|n=>n,fun|n=>n⟩
theorem Tryz.sortS:Go.Proofs.SlLaysM.n6 Tryz.prog Tryz.sortS_ren:={
  mixed:=by kernel_rfl
  f6:=⟨Tryz.f81.name,by decide,Tryz.func81.trans (congrArg some (by kernel_rfl))⟩
  f8:=Tryz.func85.trans (congrArg some (by kernel_rfl))
  f9:=⟨Tryz.f93.name,by decide,Tryz.func93.trans (congrArg some (by kernel_rfl))⟩
  f19:=Tryz.func103.trans (congrArg some (by kernel_rfl))
  f20:=Tryz.func104.trans (congrArg some (by kernel_rfl))
  f21:=⟨Tryz.f107.name,by decide,Tryz.func107.trans (congrArg some (by kernel_rfl))⟩
  f22:=⟨Tryz.f108.name,by decide,Tryz.func108.trans (congrArg some (by kernel_rfl))⟩
  f23:=⟨Tryz.f109.name,by decide,Tryz.func109.trans (congrArg some (by kernel_rfl))⟩
  f24:=⟨Tryz.f110.name,by decide,Tryz.func110.trans (congrArg some (by kernel_rfl))⟩
  f25:=⟨Tryz.f111.name,by decide,Tryz.func111.trans (congrArg some (by kernel_rfl))⟩
  f26:=⟨Tryz.f112.name,by decide,Tryz.func112.trans (congrArg some (by kernel_rfl))⟩
  f27:=⟨Tryz.f113.name,by decide,Tryz.func113.trans (congrArg some (by kernel_rfl))⟩
  f28:=⟨Tryz.f114.name,by decide,Tryz.func114.trans (congrArg some (by kernel_rfl))⟩
  f29:=⟨Tryz.f115.name,by decide,Tryz.func115.trans (congrArg some (by kernel_rfl))⟩
  f31:=Tryz.func117.trans (congrArg some (by kernel_rfl))
  f32:=Tryz.func118.trans (congrArg some (by kernel_rfl))
  f36:=⟨Tryz.f124.name,by decide,Tryz.func124.trans (congrArg some (by kernel_rfl))⟩
  f37:=⟨Tryz.f125.name,by decide,Tryz.func125.trans (congrArg some (by kernel_rfl))⟩
  f38:=⟨Tryz.f126.name,by decide,Tryz.func126.trans (congrArg some (by kernel_rfl))⟩
  f39:=⟨Tryz.f127.name,by decide,Tryz.func127.trans (congrArg some (by kernel_rfl))⟩
  f41:=⟨Tryz.f134.name,by decide,Tryz.func134.trans (congrArg some (by kernel_rfl))⟩
  t0:=Tryz.underlying0
  a0:=Tryz.isAgg0
  z0:=Tryz.sizeOf0
  v0:=Tryz.zeroValue0
  t3:=Tryz.underlying3
  a3:=Tryz.isAgg3
  z3:=Tryz.sizeOf3
  v3:=Tryz.zeroValue3
  t4:=Tryz.underlying4
  a4:=Tryz.isAgg4
  z4:=Tryz.sizeOf4
  v4:=Tryz.zeroValue4
  t5:=Tryz.underlying5
  a5:=Tryz.isAgg5
  z5:=Tryz.sizeOf5
  v5:=Tryz.zeroValue5
  t9:=Tryz.underlying9
  a9:=Tryz.isAgg9
  z9:=Tryz.sizeOf9
  v9:=Tryz.zeroValue9
  t26:=Tryz.underlying35
  a26:=Tryz.isAgg35
  z26:=Tryz.sizeOf35
  v26:=Tryz.zeroValue35
  t27:=Tryz.underlying35
  a27:=Tryz.isAgg35
  z27:=Tryz.sizeOf35
  v27:=Tryz.zeroValue35
  t29:=Tryz.underlying9
  a29:=Tryz.isAgg9
  z29:=Tryz.sizeOf9
  v29:=Tryz.zeroValue9
  t32:=Tryz.underlying193
  a32:=Tryz.isAgg193
  z32:=Tryz.sizeOf193
  v32:=Tryz.zeroValue193
  t35:=Tryz.underlying228
  a35:=Tryz.isAgg228
  z35:=Tryz.sizeOf228
  v35:=Tryz.zeroValue228
  t36:=Tryz.underlying229
  a36:=Tryz.isAgg229
  z36:=Tryz.sizeOf229
  v36:=Tryz.zeroValue229
  t41:=Tryz.underlying121
  a41:=Tryz.isAgg121
  z41:=Tryz.sizeOf121
  v41:=Tryz.zeroValue121
  t44:=Tryz.underlying235
  a44:=Tryz.isAgg235
  z44:=Tryz.sizeOf235
  v44:=Tryz.zeroValue235
  t46:=Tryz.underlying237
  a46:=Tryz.isAgg237
  z46:=Tryz.sizeOf237
  v46:=Tryz.zeroValue237
  t53:=Tryz.underlying245
  a53:=Tryz.isAgg245
  z53:=Tryz.sizeOf245
  v53:=Tryz.zeroValue245
  t57:=Tryz.underlying249
  a57:=Tryz.isAgg249
  z57:=Tryz.sizeOf249
  v57:=Tryz.zeroValue249
  t63:=Tryz.underlying253
  a63:=Tryz.isAgg253
  z63:=Tryz.sizeOf253
  v63:=Tryz.zeroValue253
  t64:=Tryz.underlying254
  a64:=Tryz.isAgg254
  z64:=Tryz.sizeOf254
  v64:=Tryz.zeroValue254 }
end Go.Proofs
end
namespace Go.Proofs.YtiehgnlnofhbaaaGreatDoor
section
open Go.RowKit Go.Maps Go.Sort Go.Shelf
theorem TR (m:Nat):AnyZ.SortsIn Tryz.prog Tryz.sortedS_ren Fence.wide m:=
  ⟨fun blk off cap ss W hH hblk hsz=>callsIn_wide.2 (AnyM.slices_Sort_string Tryz.sortS blk off cap ss W hH hblk hsz),
   fun p cap W=>callsIn_wide.2 (AnyM.slices_Sort_string_none Tryz.sortS p cap W)⟩
def Eb (bk:Nat):Value:=.func (.func 82) #[] #[.pointer (some ⟨bk,0,none⟩)]
theorem PU {β:Bs} (mb:Option Nat):Spec Tryz.prog β 60 #[.map mb] [] (fun v l=>∃ bk,v=Eb bk/\l=[.blk bk [.map mb] 174]):=
  Spec.FT fun W _=>by
    have h:CallsIn Fence.wide 5 Tryz.prog 60 #[.map mb] W fun e w'=>e=.returned (Eb W.heap.size)/\w'=W.alloc (.cells #[.map mb] 174):=AnyZ.keys_in Tryz.keysS Fence.wide 5 trivial rfl mb W
    refine ((callsIn_wide (n:=5)).1 h).mono ?_
    rintro e w' ⟨rfl,rfl⟩
    refine⟨_,_,rfl,⟨W.heap.size,rfl,rfl⟩,(Keeps.refl _ _).alloc _,fun k=>k=W.heap.size,⟨?_,fun k=>Iff.rfl⟩,fun k hk=>Nat.le_of_eq hk.symm⟩
    show (W.heap.push _)[W.heap.size]?=_
    simp
def rK (es:fY Th):List Value:=es.map (fun e=>.string e.1)
theorem Jj {es:fY Th} (h:j9 es):(es.map (fun e=>e.1.data.toList)).Pairwise (· < ·):=by
  refine List.pairwise_map.2 (h.imp (fun {a b} hab=>?_))
  unfold je at hab
  have h1:¬ Op.bytesLess b.1.toList a.1.toList=true:=fun e=>hab (by rw [e];rfl)
  have h2:¬ b.1.toList=a.1.toList:=fun e=>hab (by rw [e];simp)
  rw [bytesLess_eq,Lib.toList_data,Lib.toList_data] at h1
  rw [Lib.toList_data,Lib.toList_data] at h2
  by_cases e:a.1.data.toList < b.1.data.toList
  ·exact e
  exfalso
  have e:=List.not_lt.1 e
  rcases List.le_iff_lt_or_eq.1 e with e|e
  ·exact h1 (by simpa using e)
  exact h2 e
theorem PV {w:World} {b n:Nat} {L:HL} {es:fY Th} {D:DataW Value} (hr:j9 es) (hown:w.ownsMap Tryz.prog 9 sB b n D) (hf:∀ kl,Maps.has D kl=(jm L es kl).isSome) {ss:List (List UInt8)} (hp:ss.Perm (strKeys D)) :
    ss.mergeSort (fun x y=>decide (x<=y))=es.map (fun e=>e.1.data.toList):=by
  have hsort:=Jj hr
  obtain⟨es',hD,hpw,_⟩:=hown.entries Bx
  obtain⟨Yb,QJ,hko⟩:=hown.keysOf
  obtain rfl:es'=Yb:=by rw [hD] at QJ;simpa using QJ
  have hp2:(es.map (fun e=>e.1.data.toList)).Perm (strKeys D):=by
    rw [hD]
    refine perm_strKeys hpw (fun p hp=>?_) (hsort.imp (fun {a b} h e=>by subst e;exact absurd h (List.lt_irrefl a))) (fun x=>?_)
    ·obtain⟨v,hv⟩:=hko p hp
     obtain⟨x,_,h,_⟩:=keyOf_str Tryz.underlying9 hv
     exact⟨x,h⟩
    rw [← hD,hf]
    show _↔((aT ⟨x.toArray⟩ es).map (eu L)).isSome=true
    rw [Option.isSome_map]
    constructor
    ·intro hx
     obtain⟨e,he,rfl⟩:=List.mem_map.1 hx
     have h1:(⟨e.1.data.toList.toArray⟩:ByteArray)=e.1:=by rw [Array.toArray_toList]
     rw [h1,tI (t:=e.2) (j9.twice hr) he];rfl
    intro hx
    obtain⟨t,ht⟩:=Option.isSome_iff_exists.1 hx
    exact List.mem_map.2 ⟨_,lN ht,by simp⟩
  have h3:=mergeSort_of_perm (hp.trans hp2.symm)
  have h4:(es.map (fun e=>e.1.data.toList)).mergeSort leB=es.map (fun e=>e.1.data.toList):=List.mergeSort_of_pairwise (hsort.imp (fun {a b} h=>by simp only [leB,decide_eq_true_eq];exact List.le_of_lt h))
  exact h3.trans h4
theorem Lb {β:Bs} (L:HL) (b bk n:Nat) (es:fY Th) (hr:j9 es) (hn:n<=8192) :
    Spec Tryz.prog β 59 #[Eb bk] [.abs (aP Tryz.prog 9 b (jm L es) n),.blk bk [.map (some b)] 174] (fun v l=>∃ A cap,v=.slice A es.length cap ∧
      l=[.abs (aP Tryz.prog 9 b (jm L es) n),.blk bk [.map (some b)] 174,.abs (aH 9 1 A es.length cap (rK es))]):=by
  intro R w hS
  obtain⟨F1,h1⟩:=hS.get (i:=0) (p:=.abs (aP Tryz.prog 9 b (jm L es) n)) rfl
  obtain⟨F2,h2⟩:=hS.get (i:=1) (p:=.blk bk [.map (some b)] 174) rfl
  obtain⟨D,hown,hsz,hhas,_⟩:=h1.1
  have hcell:w.cell? ⟨bk,0,none⟩=some (.map (some b)):=(ia h2.1 rfl rfl rfl).1
  have hseq:SeqGives Fence.wide 2 Tryz.prog 82 #[.pointer (some ⟨bk,0,none⟩)] encStr (fun ss=>ss.Perm (strKeys D)) (Maps.size D) w:=
    AnyZ.keys_gives (ρ:=Tryz.keysS_ren) { Tryz.keysS with } Fence.wide _ trivial rfl (by omega) bk b n D w (lt_of_some h2.1) hcell hown
  have cS:=AnyZ.sorted_in Tryz.sortedS Fence.wide 5 trivial trivial trivial trivial rfl (by omega) (TR _) (enters_of Tryz.func81 (by kernel_rfl) rfl) 82 #[.pointer (some ⟨bk,0,none⟩)] trivial (enters_of Tryz.func82 (by kernel_rfl) rfl)
    (fun ss=>ss.Perm (strKeys D)) (Maps.size D) (by rw [hsz];unfold maxLen;omega) (by rw [hsz];omega) w hseq
  change CallsIn _ _ Tryz.prog 59 _ _ _ at cS
  refine ((callsIn_wide (n:=5)).1 cS).mono ?_
  rintro e w' ⟨v,ss,rfl,hp,hrow,hnil,hb⟩
  have hkeys:=PV hr hown hhas hp
  have hl2:ss.length=es.length:=by
    have h3:(ss.mergeSort (fun x y=>decide (x<=y))).length=ss.length:=List.length_mergeSort ss
    rw [hkeys,List.length_map] at h3
    exact h3.symm
  rw [hkeys,hl2] at hrow
  have x7:∃ A cap,v=.slice A es.length cap:=by
    rcases hrow.2 with ⟨e1,e2⟩|⟨g,cp,cur,e1,_⟩
    ·exact⟨none,0,by rw [e1,e2]⟩
    exact⟨_,cp,e1⟩
  obtain⟨A,cap,rfl⟩:=x7
  have Yc:(es.map (fun e=>e.1.data.toList)).map encStr=rK es:=by
    rw [List.map_map]
    refine List.map_congr_left (fun e _=>?_)
    show encStr e.1.data.toList=.string e.1
    unfold encStr
    rw [Array.toArray_toList]
  rw [Yc] at hrow
  have hq:Sat β ([.abs (aP Tryz.prog 9 b (jm L es) n),.blk bk [.map (some b)] 174,.abs R]++[.abs (aH 9 1 A es.length cap (rK es))]) w':=by
    refine Sat.new (F:=fun k=>(Value.slice A es.length cap).ownBlock=some k) hS ⟨?_,fun k=>Iff.rfl⟩ ⟨hb.os,hb.tape,hb.output,hb.size,fun k hk _=>hb.block k hk⟩ (fun k hk=>(hrow.lt k hk).1)
    refine⟨hrow.1,?_⟩
    rcases hrow.2 with h|⟨g,cp,cur,e1,_,h3,h4⟩
    ·exact .inl h
    exact .inr ⟨g,cp,cur,e1,Nat.zero_le _,h3,h4⟩
  exact⟨_,[.abs (aP Tryz.prog 9 b (jm L es) n),.blk bk [.map (some b)] 174,.abs (aH 9 1 A es.length cap (rK es))],rfl,⟨A,cap,rfl,rfl⟩,hq.pick (idx:=[0,1,3,2]) rfl rfl⟩
end
section
open Go.RowKit Go.Maps bq aF
theorem JZ {ns:List aI} {n:aI} {k:Nat} (h:k < ns.length):nd (ns++[n]) k=nd ns k:=by
  unfold nd;rw [List.getD_eq_getElem?_getD,List.getD_eq_getElem?_getD,List.getElem?_append_left h]
theorem Ec {ns:List aI} {n:aI}:nd (ns++[n]) ns.length=n:=by
  unfold nd;rw [List.getD_eq_getElem?_getD,List.getElem?_append_right (Nat.le_refl _)];simp
def PW:Lay:=⟨fun _=>none,fun _=>none,fun _=>0,fun _=>0⟩
def fZ (ns:List aI) (L:Lay) (k:Nat):bW:=aH 110 2 (L.eA k) (nd ns k).ah.length (L.eC k) (iO (nd ns k).ah)
def gh (ns:List aI) (L:Lay) (k:Nat):bW:=aH 5 1 (L.dA k) (nd ns k).data.length (L.dC k) (cG (nd ns k).data)
def Xg (A:Option Addr) (c:Nat) (ns:List aI) (L:Lay):HP:=.abs (aH 108 10 A ns.length c (bP L ns))
def GZ (A:Option Addr) (c:Nat) (ns:List aI) (L:Lay):List HP:=[Xg A c ns L,.abs (cW (fZ ns L) ns.length),.abs (cW (gh ns L) ns.length)]
theorem pP.graph {β β':Bs} {A:Option Addr} {c:Nat} {ns:List aI} {L:Lay} (h:pP β (GZ A c ns L) β'):aE β' A ns L:=by
  obtain⟨F,h1,h2⟩:=h.get 0 rfl
  obtain⟨G,g1,g2⟩:=h.get 1 rfl
  obtain⟨K,k1,k2⟩:=h.get 2 rfl
  exact⟨cM.jA h1 h2 rfl,
    cW.base k1 k2 rfl (Φ:=fun i b=>bG b (L.dA i) (nd ns i).data) (fun i _ F hF hO=>cM.jA (show (HP.abs (aH 5 1 (L.dA i) (nd ns i).data.length (L.dC i) (cG (nd ns i).data))).h F _ from hF) hO rfl),
    cW.base g1 g2 rfl (Φ:=fun i b=>cO b (L.eA i) (nd ns i).ah) (fun i _ F hF hO=>cM.jA (show (HP.abs (aH 110 2 (L.eA i) (nd ns i).ah.length (L.eC i) (iO (nd ns i).ah))).h F _ from hF) hO rfl)⟩
theorem Jk {L:Lay} {ns:List aI} {n:aI} {dA eA:Option Addr} {dC eC:Nat}:bP L ns++[.int .i64 n.id,.int .i64 n.kind,.int .i64 n.mode,.int .i64 n.uid,.int .i64 n.gid,.int .i64 n.sec,.int .i64 n.nano,.slice dA n.data.length dC,.string n.target,.slice eA n.ah.length eC]=bP (L.put ns.length dA dC eA eC) (ns++[n]):=by
  have h:=Cc (ns:=ns++[n]) (L:=L) (k:=ns.length) (by simp) dA dC eA eC
  rw [Ec,List.take_left,List.take_of_length_le (by simp)] at h
  exact h
theorem ES {ns:List aI} {L:Lay} {n:aI} {dA eA:Option Addr} {dC eC:Nat}:(∀ x,x < ns.length->gh (ns++[n]) (L.put ns.length dA dC eA eC) x=gh ns L x)/\gh (ns++[n]) (L.put ns.length dA dC eA eC) ns.length=aH 5 1 dA n.data.length dC (cG n.data):=by
  refine⟨fun x hx=>?_,?_⟩
  ·unfold gh Lay.put
   rw [JZ hx]
   have:¬ x=ns.length:=by omega
   simp [this]
  unfold gh Lay.put
  rw [Ec]
  simp
theorem ET {ns:List aI} {L:Lay} {n:aI} {dA eA:Option Addr} {dC eC:Nat}:(∀ x,x < ns.length->fZ (ns++[n]) (L.put ns.length dA dC eA eC) x=fZ ns L x)/\fZ (ns++[n]) (L.put ns.length dA dC eA eC) ns.length=aH 110 2 eA n.ah.length eC (iO n.ah):=by
  refine⟨fun x hx=>?_,?_⟩
  ·unfold fZ Lay.put
   rw [JZ hx]
   have:¬ x=ns.length:=by omega
   simp [this]
  unfold fZ Lay.put
  rw [Ec]
  simp
def jI (O:bU) (e:ByteArray×Th):gV:=⟨e.1,(obj O e.2.k).id⟩
def pU (O:bU) (id:Int) (t:Th):aI:=⟨id,t.kind,(obj O t.k).mode,(obj O t.k).uid,(obj O t.k).gid,(obj O t.k).sec,(obj O t.k).nano,(obj O t.k).data,(obj O t.k).target,(obj O t.k).ah.map (jI O)⟩
def av (S:aJ):List aI:=S.idx.map (fun p=>pU S.O p.1 p.2)
theorem eX {S:aJ}:(av S).length=S.idx.length:=List.length_map ..
def bT (S:aJ) (i:Nat):Th:=(S.idx.getD i (0,⟨0,0⟩)).2
def bZ (S:aJ) (i:Nat):Int:=(S.idx.getD i (0,⟨0,0⟩)).1
section at_
variable {S:aJ} {i:Nat}
theorem vN (hi:i < S.idx.length):S.idx[i]?=some (bZ S i,bT S i):=by
  unfold bZ bT
  rw [List.getD_eq_getElem?_getD,List.getElem?_eq_getElem hi];rfl
theorem get_at (h:Inv0 S) (hi:i < S.idx.length):aF.get S.idx (bZ S i)=some (bT S i):=oY h.rise (List.mem_of_getElem? (vN hi))
theorem lq (h:Inv0 S) (hi:i < S.idx.length):Live S.idx (bT S i)/\bZ S i=((bT S i).k:Int):=⟨h.live (get_at h hi),h.key (get_at h hi)⟩
theorem G0 (hi:i < S.idx.length):(keys S.idx)[i]?=some (bZ S i):=by
  unfold keys
  rw [List.getElem?_map,vN hi];rfl
theorem wM (hi:i < S.idx.length):(av S).take (i+1)=(av S).take i++[pU S.O (bZ S i) (bT S i)]:=by
  rw [List.take_add_one]
  congr 1
  unfold av
  rw [List.getElem?_map,vN hi];rfl
theorem d9 (hi:i<=S.idx.length):((av S).take i).length=i:=by rw [List.length_take,eX];omega
end at_
section sat
variable {β:Bs} {l l':List HP} {w:World} {i j k:Nat} {O:bU} {L:HL} {ix:List Nat}
theorem Sat.TS (h:Sat β l w) (hp:l[i]?=some (.abs (aG (kX (cg O L) k bW.none)))) (hq:l[j]?=some (.abs (aH 5 1 (L.dA k) (obj O k).data.length (L.dC k) (cG (obj O k).data)))) (hd:nodupB (i::j::ix)=true) (hl:bN l ix=some l') (h2:(obj O k).kind=1):Sat β (.abs (aG (cg O L))::l') w:=
  h.sH hp hq (fun _ _ h=>h) hd hl k (fun _ hx=>(zR hx).symm) (tE h2)
end sat
theorem Lc {es:List gV} {e:gV}:iO es++[.string e.name,.int .i64 e.id]=iO (es++[e]):=(wo e es 0).symm
section grow
variable {ns G':List aI} {n:aI} {L:Lay} {i dn en:Nat} {dA eA:Option Addr} {dC eC:Nat}
theorem wN (hl:ns.length=i) (hG:G'=ns++[n]) (hd:n.data.length=dn) (he:n.ah.length=en):bP L ns++[.int .i64 n.id,.int .i64 n.kind,.int .i64 n.mode,.int .i64 n.uid,.int .i64 n.gid,.int .i64 n.sec,.int .i64 n.nano,.slice dA dn dC,.string n.target,.slice eA en eC]=bP (L.put i dA dC eA eC) G':=by
  subst hl hG hd he;exact Jk
theorem BJ (hl:ns.length=i) (hG:G'=ns++[n]):∀ x,x < i->gh G' (L.put i dA dC eA eC) x=gh ns L x:=by
  subst hl hG;exact ES.1
theorem yT (hl:ns.length=i) (hG:G'=ns++[n]) (hd:n.data.length=dn):gh G' (L.put i dA dC eA eC) i=aH 5 1 dA dn dC (cG n.data):=by
  subst hl hG hd;exact ES.2
theorem BK (hl:ns.length=i) (hG:G'=ns++[n]):∀ x,x < i->fZ G' (L.put i dA dC eA eC) x=fZ ns L x:=by
  subst hl hG;exact ET.1
theorem yU (hl:ns.length=i) (hG:G'=ns++[n]) (he:n.ah.length=en):fZ G' (L.put i dA dC eA eC) i=aH 110 2 eA en eC (iO n.ah):=by
  subst hl hG he;exact ET.2
end grow
section more
variable {S:aJ} {i j k:Nat}
theorem Vz (h:Inv0 S) (hi:i < S.idx.length):(∃ k,bT S i=⟨k,1⟩/\Live S.idx ⟨k,1⟩)\/(∃ k,bT S i=⟨k,2⟩/\Live S.idx ⟨k,2⟩)\/∃ k,bT S i=⟨k,3⟩/\Live S.idx ⟨k,3⟩:=by
  have h1:=(lq h hi).1
  generalize bT S i=t at h1 ⊢
  obtain⟨k,kd⟩:=t
  rcases (h.ob _ h1).2.2 with e|e|e<;>simp only at e<;>subst e
  ·exact .inl ⟨k,rfl,h1⟩
  ·exact .inr (.inl ⟨k,rfl,h1⟩)
  exact .inr (.inr ⟨k,rfl,h1⟩)
theorem Ed (h:Inv0 S) (hi:i < S.idx.length):(Lit.int .i64 (bZ S i)).wf=true:=by
  have h1:=h.idx _ _ (get_at h hi)
  have h2:=h.last
  exact WalkArith.wf_i64 (by omega)
theorem PX (hi:i < S.idx.length):(ints (keys S.idx))[i * 1+0]?=some (.int .i64 (bZ S i)):=by
  rw [Nat.mul_one,Nat.add_zero]
  unfold ints
  rw [List.getElem?_map,G0 hi];rfl
theorem G1 (h:Inv0 S) {t:Th} (hl:Live S.idx t) (hk:t.kind≠3):(obj S.O t.k).target=⟨#[]⟩:=by
  rcases (h.mt t hl).target with e|e
  ·exact e.2
  exact absurd (h.kind hl ▸ e.1) hk
theorem rL (h:Inv0 S) (hi:i < S.idx.length) (lQ:bT S i=⟨k,1⟩) (hl:Live S.idx ⟨k,1⟩):(av S).take (i+1)=(av S).take i++[⟨bZ S i,1,(obj S.O k).mode,(obj S.O k).uid,(obj S.O k).gid,(obj S.O k).sec,(obj S.O k).nano,(obj S.O k).data,⟨#[]⟩,[]⟩]:=by
  rw [wM hi,lQ]
  unfold pU
  rw [show (obj S.O k).target=⟨#[]⟩ from G1 h hl (by simp),show (obj S.O k).ah=[] from (h.mt _ hl).ah (by rw [h.kind hl];simp)];rfl
theorem rM (h:Inv0 S) (hi:i < S.idx.length) (lQ:bT S i=⟨k,3⟩) (hl:Live S.idx ⟨k,3⟩):(av S).take (i+1)=(av S).take i++[⟨bZ S i,3,(obj S.O k).mode,(obj S.O k).uid,(obj S.O k).gid,(obj S.O k).sec,(obj S.O k).nano,[],(obj S.O k).target,[]⟩]:=by
  rw [wM hi,lQ]
  unfold pU
  rw [show (obj S.O k).data=[] from (h.mt _ hl).data (by rw [h.kind hl];simp),show (obj S.O k).ah=[] from (h.mt _ hl).ah (by rw [h.kind hl];simp)];rfl
theorem tM (h:Inv0 S) (hi:i < S.idx.length) (lQ:bT S i=⟨k,2⟩) (hl:Live S.idx ⟨k,2⟩):(av S).take (i+1)=(av S).take i++[⟨bZ S i,2,(obj S.O k).mode,(obj S.O k).uid,(obj S.O k).gid,(obj S.O k).sec,(obj S.O k).nano,[],⟨#[]⟩,(obj S.O k).ah.map (jI S.O)⟩]:=by
  rw [wM hi,lQ]
  unfold pU
  rw [show (obj S.O k).target=⟨#[]⟩ from G1 h hl (by simp),show (obj S.O k).data=[] from (h.mt _ hl).data (by rw [h.kind hl];simp)]
def fB (es:fY Th) (j:Nat):ByteArray:=(es.getD j (⟨#[]⟩,⟨0,0⟩)).1
def nR (es:fY Th) (j:Nat):Th:=(es.getD j (⟨#[]⟩,⟨0,0⟩)).2
theorem pV {es:fY Th} (hj:j < es.length):es[j]?=some (fB es j,nR es j):=by
  unfold fB nR
  rw [List.getD_eq_getElem?_getD,List.getElem?_eq_getElem hj];rfl
theorem Ld {es:fY Th} (hj:j < es.length):(rK es)[j * 1+0]?=some (.string (fB es j)):=by
  rw [Nat.mul_one,Nat.add_zero]
  unfold rK
  rw [List.getElem?_map,pV hj];rfl
theorem Xh (h:Inv0 S) {t:Th} (hl:Live S.idx t) (hj:j < (obj S.O t.k).ah.length):bD (fB (obj S.O t.k).ah j)/\((∃ k,aT (fB (obj S.O t.k).ah j) (obj S.O t.k).ah=some ⟨k,1⟩/\Live S.idx ⟨k,1⟩/\nR (obj S.O t.k).ah j=⟨k,1⟩)\/(∃ k,aT (fB (obj S.O t.k).ah j) (obj S.O t.k).ah=some ⟨k,2⟩/\Live S.idx ⟨k,2⟩/\nR (obj S.O t.k).ah j=⟨k,2⟩)\/∃ k,aT (fB (obj S.O t.k).ah j) (obj S.O t.k).ah=some ⟨k,3⟩/\Live S.idx ⟨k,3⟩/\nR (obj S.O t.k).ah j=⟨k,3⟩):=by
  have hm:=List.mem_of_getElem? (pV hj)
  have h1:=h.ah t hl _ hm
  have h2:=tI (h.twice hl) hm
  refine⟨h1.1,?_⟩
  have h3:=h1.2
  generalize nR (obj S.O t.k).ah j=u at h2 h3 ⊢
  obtain⟨k,kd⟩:=u
  rcases (h.ob _ h3).2.2 with e|e|e<;>simp only at e<;>subst e
  ·exact .inl ⟨k,h2,h3,rfl⟩
  ·exact .inr (.inl ⟨k,h2,h3,rfl⟩)
  exact .inr (.inr ⟨k,h2,h3,rfl⟩)
theorem yV {O:bU} {es:fY Th} {kd:Int} (hj:j < es.length) (he:nR es j=⟨k,kd⟩):iO ((es.take j).map (jI O))++[.string (fB es j),.int .i64 (obj O k).id]=iO ((es.take (j+1)).map (jI O)):=by
  rw [List.take_add_one,pV hj,he,List.map_append]
  exact Lc (es:=(es.take j).map (jI O)) (e:=⟨fB es j,(obj O k).id⟩)
end more
theorem pP.bytes {β β':Bs} {A:Option Addr} {n c:Nat} {d:List UInt8} (h:pP β [.abs (aH 5 1 A n c (cG d))] β'):bG β' A d:=by
  obtain⟨F,h1,h2⟩:=h.get 0 rfl
  exact cM.jA h1 h2 rfl
end
section
open Go.RowKit
section order
variable {P:Program} {ops:Array Oper} {Q Q':Post} {n:Nat} {S:World->Prop}
inductive tN
  | one (i:Nat)
  | two (i j:Nat)
  | three (i k j:Nat)
  | perm (G:List Nat)
  | beside (c:List Nat) (j:Nat)
def G2 (P:Program) (ops:Array Oper) (Q:Post) (S:World->Prop) (K:Act->World->Prop):Nat->List Nat->Act->World->Prop
  | 0,_,a,w=>K a w
  | n+1,G,a,w=>∀ i∈G,wpOp P ops Q i (fun a' w'=>S w'/\G2 P ops Q S K n (G.erase i) a' w') a w
def FI (ops:Array Oper) (f:Array Bool->Bool):Nat->List Nat->Array Bool->Bool
  | 0,_,listed=>f listed
  | n+1,G,listed=>(Region.ready .any ops listed == G) && !G.isEmpty && G.all (fun i=>FI ops f n (G.erase i) (listed.setIfInBounds i true))
def FJ (P:Program) (ops:Array Oper) (Q:Post) (S:World->Prop) (K:Act->World->Prop):List Nat->Act->World->Prop
  | [],a,w=>K a w
  | i::c,a,w=>wpOp P ops Q i (fun a' w'=>S w'/\FJ P ops Q S K c a' w') a w
def wO (P:Program) (ops:Array Oper) (Q:Post) (S:World->Prop) (K:Act->World->Prop) (j:Nat):List Nat->Act->World->Prop
  | [],a,w=>wpOp P ops Q j (fun a' w'=>S w'/\K a' w') a w
  | i::c,a,w=>wpOp P ops Q i (fun a' w'=>S w'/\wO P ops Q S K j c a' w') a w/\wpOp P ops Q j (fun a' w'=>S w'/\FJ P ops Q S K (i::c) a' w') a w
def seqB (ops:Array Oper) (f:Array Bool->Bool):List Nat->Array Bool->Bool
  | [],listed=>f listed
  | i::c,listed=>(Region.ready .any ops listed == [i]) && seqB ops f c (listed.setIfInBounds i true)
def vO (ops:Array Oper) (f:Array Bool->Bool) (j:Nat):List Nat->Array Bool->Bool
  | [],listed=>(Region.ready .any ops listed == [j]) && f (listed.setIfInBounds j true)
  | i::c,listed=>(Region.ready .any ops listed == (if i < j then [i,j] else [j,i])) && vO ops f j c (listed.setIfInBounds i true) && seqB ops f (i::c) (listed.setIfInBounds j true)
def mg (P:Program) (ops:Array Oper) (Q:Post) (S:World->Prop):List tN->Act->World->Prop
  | [],a,w=>Q .normal a w
  | .one i::l,a,w=>wpOp P ops Q i (fun a' w'=>(l=[]\/S w')/\mg P ops Q S l a' w') a w
  | .two i j::l,a,w=>
    wpOp P ops Q i (fun a' w'=>S w'/\wpOp P ops Q j (fun a2 w2=>S w2/\mg P ops Q S l a2 w2) a' w') a w ∧
    wpOp P ops Q j (fun a' w'=>S w'/\wpOp P ops Q i (fun a2 w2=>S w2/\mg P ops Q S l a2 w2) a' w') a w
  | .three i k j::l,a,w=>
    wpOp P ops Q i (fun a1 w1=>S w1/\wpOp P ops Q k (fun a2 w2=>S w2/\wpOp P ops Q j (fun a3 w3=>S w3/\mg P ops Q S l a3 w3) a2 w2) a1 w1 ∧
      wpOp P ops Q j (fun a2 w2=>S w2/\wpOp P ops Q k (fun a3 w3=>S w3/\mg P ops Q S l a3 w3) a2 w2) a1 w1) a w ∧
    wpOp P ops Q j (fun a1 w1=>S w1/\wpOp P ops Q i (fun a2 w2=>S w2/\wpOp P ops Q k (fun a3 w3=>S w3/\mg P ops Q S l a3 w3) a2 w2) a1 w1) a w
  | .perm G::l,a,w=>G2 P ops Q S (mg P ops Q S l) G.length G a w
  | .beside c j::l,a,w=>wO P ops Q S (mg P ops Q S l) j c a w
def vu (ops:Array Oper) (n:Nat):List tN->Array Bool->Bool
  | [],listed=>(Region.ready .any ops listed).isEmpty
  | .one i::l,listed=>(Region.ready .any ops listed == [i]) && (!l.isEmpty || i == n) && vu ops n l (listed.setIfInBounds i true)
  | .two i j::l,listed=>(Region.ready .any ops listed == [i,j]) && (Region.ready .any ops (listed.setIfInBounds i true) == [j]) && (Region.ready .any ops (listed.setIfInBounds j true) == [i]) && decide (i≠j) && vu ops n l ((listed.setIfInBounds i true).setIfInBounds j true)
  | .three i k j::l,listed=>(Region.ready .any ops listed == [i,j]) && (Region.ready .any ops (listed.setIfInBounds i true) == [k,j]) && (Region.ready .any ops ((listed.setIfInBounds i true).setIfInBounds k true) == [j]) && (Region.ready .any ops ((listed.setIfInBounds i true).setIfInBounds j true) == [k]) &&
    (Region.ready .any ops (listed.setIfInBounds j true) == [i]) && decide (i≠j) && decide (k≠j) && vu ops n l (((listed.setIfInBounds i true).setIfInBounds k true).setIfInBounds j true)
  | .perm G::l,listed=>FI ops (vu ops n l) G.length G listed
  | .beside c j::l,listed=>vO ops (vu ops n l) j c listed
def rY:List tN->Nat
  | []=>0
  | .one _::l=>rY l+1
  | .two _ _::l=>rY l+2
  | .three _ _ _::l=>rY l+3
  | .perm G::l=>rY l+G.length
  | .beside c _::l=>rY l+(c.length+1)
theorem EU {m i:Nat} {listed:Array Bool} {a:Act} {w:World} (hr:Region.ready .any ops listed=[i]) (h:wpOp P ops (NP Q) i (fun a' w'=>S w'/\iU P ops (NP Q) n S m (listed.setIfInBounds i true) a' w') a w):iU P ops (NP Q) n S (m+1) listed a w:=by
  refine⟨fun h0=>(by rw [hr] at h0;cases h0),fun y hy=>?_⟩
  rw [hr] at hy
  have hy:y=i:=by simpa using hy
  subst hy
  exact wpOp_mono (fun a' w' h=>⟨.inr h.1,h.2⟩) h
theorem J0 {K:Act->World->Prop} {f:Array Bool->Bool} {m:Nat} (hK:∀ listed a w,f listed=true->K a w->iU P ops (NP Q) n S m listed a w):∀ (c:List Nat) (listed:Array Bool) (a:Act) (w:World),seqB ops f c listed=true->FJ P ops (NP Q) S K c a w->iU P ops (NP Q) n S (m+c.length) listed a w
  | [],listed,a,w,hb,h=>hK listed a w hb h
  | i::c,listed,a,w,hb,h=>by
    unfold seqB at hb
    simp only [Bool.and_eq_true,beq_iff_eq] at hb
    exact EU hb.1 (wpOp_mono (fun a' w' g=>⟨g.1,J0 hK c _ a' w' hb.2 g.2⟩) h)
theorem CS {K:Act->World->Prop} {f:Array Bool->Bool} {m j:Nat} (hK:∀ listed a w,f listed=true->K a w->iU P ops (NP Q) n S m listed a w):∀ (c:List Nat) (listed:Array Bool) (a:Act) (w:World),vO ops f j c listed=true->wO P ops (NP Q) S K j c a w->iU P ops (NP Q) n S (m+(c.length+1)) listed a w
  | [],listed,a,w,hb,h=>by
    unfold vO at hb
    simp only [Bool.and_eq_true,beq_iff_eq] at hb
    exact EU hb.1 (wpOp_mono (fun a' w' g=>⟨g.1,hK _ a' w' hb.2 g.2⟩) h)
  | i::c,listed,a,w,hb,h=>by
    unfold vO at hb
    simp only [Bool.and_eq_true,beq_iff_eq] at hb
    obtain⟨⟨h1,h2⟩,h3⟩:=hb
    refine⟨fun h0=>(by rw [h1] at h0;split at h0<;>cases h0),fun y hy=>?_⟩
    rw [h1] at hy
    have hy:y=i\/y=j:=by
      split at hy
      ·simpa using hy
      have:y=j\/y=i:=by simpa using hy
      exact this.symm
    rcases hy with rfl|rfl
    ·exact wpOp_mono (fun a' w' g=>⟨.inr g.1,CS hK c _ a' w' h2 g.2⟩) h.1
    exact wpOp_mono (fun a' w' g=>⟨.inr g.1,J0 hK (i::c) _ a' w' h3 g.2⟩) h.2
theorem G3 {K:Act->World->Prop} {f:Array Bool->Bool} {m:Nat} (hK:∀ listed a w,f listed=true->K a w->iU P ops (NP Q) n S m listed a w):∀ (k:Nat) (G:List Nat) (listed:Array Bool) (a:Act) (w:World),FI ops f k G listed=true->G2 P ops (NP Q) S K k G a w->iU P ops (NP Q) n S (m+k) listed a w
  | 0,G,listed,a,w,hb,h=>hK listed a w hb h
  | k+1,G,listed,a,w,hb,h=>by
    unfold FI at hb
    simp only [Bool.and_eq_true,beq_iff_eq] at hb
    obtain⟨⟨h1,h2⟩,h3⟩:=hb
    refine⟨fun h0=>(by rw [h1] at h0;rw [h0] at h2;cases h2),fun j hj=>?_⟩
    rw [h1] at hj
    exact wpOp_mono (fun a' w' g=>⟨.inr g.1,G3 hK k (G.erase j) _ a' w' (List.all_eq_true.1 h3 j hj) g.2⟩) (h j hj)
theorem nJ:∀ (l:List tN) (listed:Array Bool) (a:Act) (w:World),vu ops n l listed=true->mg P ops (NP Q) S l a w->iU P ops (NP Q) n S (rY l) listed a w
  | [],listed,a,w,hb,h=>⟨List.isEmpty_iff.1 hb,h⟩
  | .one i::l,listed,a,w,hb,h=>by
    unfold vu at hb
    simp only [Bool.and_eq_true,beq_iff_eq] at hb
    obtain⟨⟨h1,h2⟩,h3⟩:=hb
    refine⟨fun h0=>(by rw [h1] at h0;cases h0),fun j hj=>?_⟩
    rw [h1] at hj
    have hj:j=i:=by simpa using hj
    subst hj
    refine wpOp_mono (fun a' w' h4=>⟨?_,nJ l _ a' w' h3 h4.2⟩) h
    rcases h4.1 with h5|h5
    ·subst h5;exact .inl (by simpa using h2)
    exact .inr h5
  | .two i j::l,listed,a,w,hb,h=>by
    unfold vu at hb
    simp only [Bool.and_eq_true,beq_iff_eq,decide_eq_true_iff] at hb
    obtain⟨⟨⟨⟨h1,h2⟩,h3⟩,hij⟩,h4⟩:=hb
    refine⟨fun h0=>(by rw [h1] at h0;cases h0),fun k hk=>?_⟩
    rw [h1] at hk
    have hk:k=i\/k=j:=by simpa using hk
    rcases hk with rfl|rfl
    ·refine wpOp_mono (fun a' w' h5=>⟨.inr h5.1,fun h0=>(by rw [h2] at h0;cases h0),fun k' hk'=>?_⟩) h.1
     rw [h2] at hk'
     have hk':k'=j:=by simpa using hk'
     subst hk'
     exact wpOp_mono (fun a2 w2 h6=>⟨.inr h6.1,nJ l _ a2 w2 h4 h6.2⟩) h5.2
    refine wpOp_mono (fun a' w' h5=>⟨.inr h5.1,fun h0=>(by rw [h3] at h0;cases h0),fun k' hk'=>?_⟩) h.2
    rw [h3] at hk'
    have hk':k'=i:=by simpa using hk'
    subst hk'
    refine wpOp_mono (fun a2 w2 h6=>⟨.inr h6.1,?_⟩) h5.2
    rw [Array.setIfInBounds_comm _ _ (fun e=>hij e.symm)]
    exact nJ l _ a2 w2 h4 h6.2
  | .three i k j::l,listed,a,w,hb,h=>by
    unfold vu at hb
    simp only [Bool.and_eq_true,beq_iff_eq,decide_eq_true_iff] at hb
    obtain⟨⟨⟨⟨⟨⟨⟨h1,h2⟩,h3⟩,h4⟩,h5⟩,hij⟩,hkj⟩,h6⟩:=hb
    have one:∀ {x:Nat} {ls:Array Bool} {fuel:Nat} {a:Act} {w:World},Region.ready .any ops ls=[x]->wpOp P ops (NP Q) x (fun a' w'=>S w'/\iU P ops (NP Q) n S fuel (ls.setIfInBounds x true) a' w') a w->iU P ops (NP Q) n S (fuel+1) ls a w:=fun {x ls fuel a w} hr hx=>by
      refine⟨fun h0=>(by rw [hr] at h0;cases h0),fun y hy=>?_⟩
      rw [hr] at hy
      have hy:y=x:=by simpa using hy
      subst hy
      exact wpOp_mono (fun a' w' h=>⟨.inr h.1,h.2⟩) hx
    have e1:(((listed.setIfInBounds i true).setIfInBounds j true).setIfInBounds k true)=(((listed.setIfInBounds i true).setIfInBounds k true).setIfInBounds j true):=Array.setIfInBounds_comm _ _ (fun e=>hkj e.symm)
    have e2:((listed.setIfInBounds j true).setIfInBounds i true)=((listed.setIfInBounds i true).setIfInBounds j true):=Array.setIfInBounds_comm _ _ (fun e=>hij e.symm)
    refine⟨fun h0=>(by rw [h1] at h0;cases h0),fun x hx=>?_⟩
    rw [h1] at hx
    have hx:x=i\/x=j:=by simpa using hx
    rcases hx with rfl|rfl
    ·refine wpOp_mono (fun a1 w1 g=>⟨.inr g.1,fun h0=>(by rw [h2] at h0;cases h0),fun y hy=>?_⟩) h.1
     rw [h2] at hy
     have hy:y=k\/y=j:=by simpa using hy
     rcases hy with rfl|rfl
     ·exact wpOp_mono (fun a2 w2 g2=>⟨.inr g2.1,one h3 (wpOp_mono (fun a3 w3 g3=>⟨g3.1,nJ l _ a3 w3 h6 g3.2⟩) g2.2)⟩) g.2.1
     exact wpOp_mono (fun a2 w2 g2=>⟨.inr g2.1,one h4 (wpOp_mono (fun a3 w3 g3=>⟨g3.1,by rw [e1];exact nJ l _ a3 w3 h6 g3.2⟩) g2.2)⟩) g.2.2
    refine wpOp_mono (fun a1 w1 g=>⟨.inr g.1,one h5 (wpOp_mono (fun a2 w2 g2=>⟨g2.1,?_⟩) g.2)⟩) h.2
    rw [e2]
    exact one h4 (wpOp_mono (fun a3 w3 g3=>⟨g3.1,by rw [e1];exact nJ l _ a3 w3 h6 g3.2⟩) g2.2)
  | .perm G::l,listed,a,w,hb,h=>G3 (m:=rY l) (fun ls a w hb h=>nJ l ls a w hb h) G.length G listed a w hb h
  | .beside c j::l,listed,a,w,hb,h=>CS (m:=rY l) (fun ls a w hb h=>nJ l ls a w hb h) c listed a w hb h
def pW (P:Program) (ops:Array Oper) (Q:Post) (S:World->Prop) (es:List tN):List Nat->Act->World->Prop
  | [],a,w=>mg P ops Q S es a w
  | i::l,a,w=>∃ o v,ops[i]?=some o/\YieldsIf P ops S o v a/\pW P ops Q S es l (a.put o.dst v) w
def FL (ops:Array Oper) (n:Nat) (es:List tN):List Nat->Array Bool->Bool
  | [],listed=>vu ops n es listed
  | i::l,listed=>decide (i < n) && Region.free .any ops listed i && (Region.ready .any ops listed).contains i && FL ops n es l (listed.setIfInBounds i true)
theorem G4 {es:List tN} (hsel:Region.noSelect ops=true) (kH:Region.sinkB .any ops n=true):∀ (l:List Nat) (listed:Array Bool) (a:Act) (w:World),FL ops n es l listed=true->Closed ops listed->S w->pW P ops (NP Q) S es l a w->iU P ops (NP Q) n S (l.length+rY es) listed a w
  | [],listed,a,w,hb,_,_,h=>by
    rw [List.length_nil,Nat.zero_add]
    exact nJ es listed a w hb h
  | i::l,listed,a,w,hb,hc,hS,h=>by
    unfold FL at hb
    simp only [Bool.and_eq_true,decide_eq_true_iff] at hb
    obtain⟨⟨⟨h1,h2⟩,h3⟩,h4⟩:=hb
    obtain⟨o,v,ho,hy,hk⟩:=h
    have hr:i∈Region.ready .any ops listed:=by simpa using h3
    have e:(i::l).length+rY es=(l.length+rY es)+1:=by rw [List.length_cons];omega
    rw [e]
    exact pH ho hsel kH h1 _ listed a w hc (Region.free_spec ho h2) hr hy hS (G4 hsel kH l _ _ w h4 (hc.set hr) hS hk)
def J1 (ops:Array Oper) (rs:List Nat) (es:List tN):Bool:=
  Region.noSelect ops && Region.sinkB .any ops (ops.size - 1) && (rs.length+rY es == ops.size) && FL ops (ops.size - 1) es rs (Array.replicate ops.size false)
end order
section mix
variable {P:Program} {β:Bs} {N:dG} {ops:Array Oper} {S:List HP} {rs:List Nat} {es:List tN} {fr fr':Fr} {hps:List HP} {Q:Post} {aZ:List Prop} {i j:Nat}
def jo (P:Program) (β:Bs) (N:dG) (ops:Array Oper) (S:List HP) (es:List tN) (rs:List Nat) (fr:Fr) (hps:List HP) (Q:Post):Prop:=
  ∀ junk w,Sat β hps w->pW P ops (NP Q) (Sat β S) es rs (bM N fr junk) w
theorem af.sN {id:Nat} (rs:List Nat) (es:List tN) (pk:List Nat) (hm:P.follows .mixedOrders=true) (hB:J1 ops rs es=true) (hn:nodupB pk=true) (hp:bN hps pk=some S) (h:jo P β N ops S es rs fr hps Q):af P β N (.region id ops true) fr hps Q:=by
  intro junk w hS
  unfold J1 at hB
  simp only [Bool.and_eq_true,beq_iff_eq] at hB
  obtain⟨⟨⟨h1,h2⟩,h3⟩,h4⟩:=hB
  have cE:=hS.drewN 1
  have h5:=G4 (Q:=Q) h1 h2 rs _ _ _ h4 (fun j oj _ hl=>by simp [Array.getD_eq_getD_getElem?,Array.getElem?_replicate] at hl;split at hl<;>simp at hl) (cE.pick hn hp) (h junk (w.drewN 1) cE)
  rw [h3] at h5
  refine Code.wp_mono (fun e a w q=>?_) (wp_region_any hm (lT _ _ _ _ h5))
  cases e with
  | normal=>exact q
  | exit id=>exact q.elim
  | goto l=>exact q.elim
  | ret=>exact q.elim
  | panic ch=>exact q.elim
  | outgrown=>exact q.elim
theorem xK {junk:Nat->Value} {w:World}:∀ {hs:List OH} {is:List Nat} {fr fr':Fr} {T T':SS},rf P β N junk ops hs is fr T=some (fr',T')->(∀ p,p∈T'.aZ->p)->T.used=true->T.hps=S →
    pW P ops (NP Q) (Sat β S) es rs (bM N fr' junk) w->pW P ops (NP Q) (Sat β S) es (is++rs) (bM N fr junk) w
  | [],[],fr,fr',T,T',h,ho,hu,hT,hK=>by cases h;exact hK
  | h::hs,i::is,fr,fr',T,T',hr,ho,hu,hT,hK=>by
    unfold rf at hr
    repeat' split at hr
    all_goals first|(cases hr;done)|skip
    rename_i o hget _ FZ _ v T1 h0 _ hv
    obtain⟨e1,e2⟩:=qo h0
    rw [List.cons_append]
    unfold pW
    refine⟨o,v,hget,.inl ⟨by unfold Region.wanted;rw [FZ],fun w' cE=>?_⟩,?_⟩
    ·rw [dY]
     obtain⟨w2,h1,_,_,h4⟩:=jN h0 (fun p hp=>ho p (wz hr p hp)) (by rw [hT];exact cE) (fun e=>by rw [hu] at e;cases e)
     obtain⟨ew,_⟩:=h4 rfl
     rw [ew] at h1
     rcases h1 with h1|⟨h1,_⟩
     ·exact h1
     exact absurd h1 (mM hv)
    rw [dM]
    exact xK hr ho (e2.trans hu) (e1.trans hT) hK
  | [],_::_,_,_,_,_,h,_,_,_,_=>by cases h
  | _::_,[],_,_,_,_,h,_,_,_,_=>by cases h
theorem jo.reads (is:List Nat) (hs:List OH) (idx:List Nat) (h:∀ junk,sP P β N junk ops hs is fr S idx=some (fr',aZ)) (ho:kx aZ) (K:jo P β N ops S es rs fr' hps Q):jo P β N ops S es (is++rs) fr hps Q:=by
  intro junk w hS
  have h0:=h junk
  unfold sP at h0
  split at h0
  ·rename_i kG S1 h1
   cases h0
   have hK:=K (lk kG junk) w hS
   rw [← ju] at hK
   exact xK h1 (fun p hp=>ho.mem hp) rfl rfl hK
  cases h0
theorem gP (lM:Fr) (is:List Nat) (os:List (Nat×OP)) (K:jo P β N ops S es [] lM hps Q)
    (h:∀ junk,sP P β N junk ops (jB (ic is.length os 0)) is fr S (bn lM)=some (lM,owed (ic is.length os 0)):=by intro _;kernel_rfl):jo P β N ops S es (is++[]) fr hps Q:=
  jo.reads is (jB (ic is.length os 0)) (bn lM) h (mO _) K
theorem jo.pair {ι TU TV:Type} {Ng:TU->Fr} {hpi:TU->List HP} {Nh:TV->Fr} {Ni:TV->List HP} {fr':ι->Fr} {hp':ι->List HP} {oi oj:Oper} (V9 Wa pk:List Nat)
    (hi:ops[i]?=some oi) (QX:oi.guard=none) (hj:ops[j]?=some oj) (Wb:oj.guard=none)
    (h1:ak P β N #[oi] 0 fr hps (NP (nM β N Ng hpi))) (h2:∀ a,ak P β N #[oj] 0 (Ng a) (hpi a) (NP (nM β N fr' hp')))
    (h3:ak P β N #[oj] 0 fr hps (NP (nM β N Nh Ni))) (h4:∀ a,ak P β N #[oi] 0 (Nh a) (Ni a) (NP (nM β N fr' hp')))
    (hni:nodupB V9=true) (Xi:∀ a,bN (hpi a) V9=some S) (Yd:nodupB Wa=true) (Xj:∀ a,bN (Ni a) Wa=some S) (hn:nodupB pk=true) (hp:∀ a,bN (hp' a) pk=some S)
    (K:∀ a,jo P β N ops S es [] (fr' a) (hp' a) Q):jo P β N ops S (.two i j::es) [] fr hps Q:=by
  intro junk w hS
  unfold pW mg
  refine⟨iJ hi QX (jU (fun a w ⟨x,fH,ha,cE⟩=>?_) (show wpList P #[oi] (NP (nM β N Ng hpi)) [oi] (bM N fr junk) w from h1 junk w hS)),iJ hj Wb (jU (fun a w ⟨x,fH,ha,cE⟩=>?_) (show wpList P #[oj] (NP (nM β N Nh Ni)) [oj] (bM N fr junk) w from h3 junk w hS))⟩
  ·subst ha
   refine⟨cE.pick hni (Xi x),iJ hj Wb (jU (fun a w ⟨y,wQ,ha,vJ⟩=>?_) (show wpList P #[oj] (NP (nM β N fr' hp')) [oj] (bM N (Ng x) fH) w from h2 x fH w cE))⟩
   subst ha
   exact⟨vJ.pick hn (hp y),K y wQ _ vJ⟩
  subst ha
  refine⟨cE.pick Yd (Xj x),iJ hi QX (jU (fun a w ⟨y,wQ,ha,vJ⟩=>?_) (show wpList P #[oi] (NP (nM β N fr' hp')) [oi] (bM N (Nh x) fH) w from h4 x fH w cE))⟩
  subst ha
  exact⟨vJ.pick hn (hp y),K y wQ _ vJ⟩
theorem jo.cut {ι:Type} {fr':ι->Fr} {hp':ι->List HP} {o:Oper} (pk:List Nat) (hop:ops[i]?=some o) (hg:o.guard=none) (h:ak P β N #[o] 0 fr hps (NP (nM β N fr' hp'))) (hn:nodupB pk=true) (hp:∀ j,bN (hp' j) pk=some S)
    (K:∀ j,jo P β N ops S es [] (fr' j) (hp' j) Q):jo P β N ops S (.one i::es) [] fr hps Q:=by
  intro junk w hS
  unfold pW mg
  refine iJ hop hg (jU (fun a w ⟨j,fH,ha,cE⟩=>?_) (show wpList P #[o] (NP (nM β N fr' hp')) [o] (bM N fr junk) w from h junk w hS))
  subst ha
  exact⟨.inr (cE.pick hn (hp j)),K j fH _ cE⟩
theorem Sat.left {a b:List HP} {w:World} (h:Sat β (a++b) w):Sat β a w:=by
  obtain⟨h0,φ,h1,h2,h3⟩:=h
  have hlen:a.length<=(a++b).length:=by simp
  exact⟨h0,φ,fun i p hp=>h1 i p (by rw [List.getElem?_append_left (bw hp)];exact hp),fun i hi=>h2 i (by omega),fun i j hi hj=>h3 i j (by omega) (by omega)⟩
def iM (P:Program) (β:Bs) (N:dG) (ops:Array Oper) (Q:Post) (i d:Nat) (ds:List Nat) (fr:Fr) (pre:List HP) (post:Value->List HP->Prop):Prop:=
  ∀ junk w (A:bW),Sat β (pre++[.abs A]) w->wpOp P ops (NP Q) i (fun a' w'=>∃ v l fH,post v l/\a'=bM N fr fH/\fH d=v/\(∀ t∈ds,t≠d->fH t=junk t)/\Sat β (l++[.abs A]) w') (bM N fr junk) w
def kS (nN:List Nat) (u:Nat->Value):Fr:=nN.map fun t=>(t,u t)
theorem yX {nN:List Nat} {u:Nat->Value}:bn (kS nN u)=nN:=by
  induction nN with
  | nil=>rfl
  | cons a r ih=>exact congrArg (a::·) ih
theorem Nj {nN:List Nat} {u junk:Nat->Value} {t:Nat} (h:t∈nN):lk (kS nN u) junk t=u t:=by
  induction nN with
  | nil=>cases h
  | cons a r ih=>
    show lk ((a,u a)::kS r u) junk t=_
    rw [fM]
    by_cases e:a=t
    ·rw [if_pos e,e]
    rw [if_neg e]
    rcases List.mem_cons.1 h with h|h
    ·exact absurd h.symm e
    exact ih h
theorem nK {fr lM:Fr} {junk wQ:Nat->Value} (h:∀ t,lk fr junk t=lk lM wQ t):bM N fr junk=bM N lM wQ:=by
  unfold bM
  rw [show lk fr junk=lk lM wQ from funext h]
theorem iM.of {ι:Type} {v:ι->Value} {l:ι->List HP} {o:Oper} {d:Nat} {pre:List HP} (nN:List Nat) (hop:ops[i]?=some o) (hg:o.guard=none) (Xk:(d::nN).all (fun t=>!iZ t (bn fr))=true) (hd:iZ d nN=false)
    (h:∀ (u:Nat->Value) (A:bW),ak P β N #[o] 0 (kS nN u++fr) (pre++[.abs A]) (NP (nM β N (fun x=>(d,v x)::(kS nN u++fr)) (fun x=>l x++[.abs A])))):iM P β N ops Q i d (d::nN) fr pre (fun v' l'=>∃ x,v'=v x/\l'=l x):=by
  intro junk w A hS
  have hout:∀ t∈d::nN,t∉bn fr:=fun t ht hm=>by
    have h1:=List.all_eq_true.1 Xk t ht
    rw [iK.2 hm] at h1;cases h1
  have ZC:d∉nN:=fun hm=>by rw [iK.2 hm] at hd;cases hd
  have e1:bM N fr junk=bM N (kS nN junk++fr) junk:=nK fun t=>by
    rw [yh,yX]
    by_cases ht:t∈nN
    ·rw [if_pos ht,Nj ht,kV (hout t (List.mem_cons_of_mem _ ht))]
    rw [if_neg ht]
  rw [e1]
  refine iJ hop hg (jU (fun a w ⟨x,VA,ha,cE⟩=>?_) (show wpList P #[o] (NP (nM β N _ _)) [o] (bM N (kS nN junk++fr) junk) w from h junk A junk w hS))
  refine⟨v x,l x,lk ((d,v x)::(kS nN junk++fr)) VA,⟨x,rfl,rfl⟩,?_,by rw [fM,if_pos rfl],fun t ht hn=>?_,cE⟩
  ·rw [ha]
   refine nK fun t=>?_
   by_cases ht:t∈bn fr
   ·have h1:¬ d=t:=fun e=>hout d List.mem_cons_self (e ▸ ht)
    have h2:t∉nN:=fun hm=>hout t (List.mem_cons_of_mem _ hm) ht
    rw [fM,if_neg h1,yh,yX,if_neg h2]
    exact FA ht
   rw [kV ht]
  rw [fM,if_neg (fun e=>hn e.symm),yh,yX,if_pos ((List.mem_cons.1 ht).resolve_left hn),Nj ((List.mem_cons.1 ht).resolve_left hn)]
theorem iM.at_ {d:Nat} {ds:List Nat} {pre X Y:List HP} {post:Value->List HP->Prop} {junk:Nat->Value} {w:World} {K:Act->World->Prop} (h:iM P β N ops Q i d ds fr pre post) (hS:Sat β (X++(pre++Y)) w)
    (hK:∀ v l fH w',post v l->fH d=v->(∀ t∈ds,t≠d->fH t=junk t)->Sat β (X++(l++Y)) w'->K (bM N fr fH) w'):wpOp P ops (NP Q) i K (bM N fr junk) w:=by
  have h1:=Sat.turn hS
  rw [List.append_assoc] at h1
  refine wpOp_mono (fun a' w' ⟨v,l,j2,g1,g2,g3,g4,g5⟩=>?_) (h junk w _ h1.fD)
  rw [g2]
  refine hK v l j2 w' g1 g3 g4 ?_
  have h2:=g5.o9
  rw [← List.append_assoc] at h2
  exact Sat.turn h2
theorem iM.grow {d d1:Nat} {ds:List Nat} {pre:List HP} {q:Value->List HP->Prop} (h:iM P β N ops Q i d (d::d1::ds) fr pre q) (h1:d1∉bn fr) (hd:d1≠d) (hn:d1∉ds) (v1:Value):iM P β N ops Q i d (d::ds) ((d1,v1)::fr) pre q:=by
  intro junk w A hS
  have e:bM N ((d1,v1)::fr) junk=bM N fr (fun t=>if t=d1 then v1 else junk t):=nK fun t=>by
    rw [fM]
    by_cases e1:d1=t
    ·subst e1;rw [if_pos rfl,kV h1,if_pos rfl]
    rw [if_neg e1]
    by_cases ht:t∈bn fr
    ·exact FA ht
    rw [kV ht,kV ht,if_neg (fun e=>e1 e.symm)]
  rw [e]
  refine wpOp_mono (fun a' w' ⟨v,l,j2,g1,g2,g3,g4,g5⟩=>?_) (h _ w A hS)
  have k1:j2 d1=v1:=(g4 d1 (by simp) hd).trans (if_pos rfl)
  refine⟨v,l,j2,g1,?_,g3,fun t ht hne=>?_,g5⟩
  ·rw [g2]
   refine nK fun t=>?_
   rw [fM]
   by_cases e1:d1=t
   ·subst e1;rw [if_pos rfl,kV h1,k1]
   rw [if_neg e1]
  have h2:t≠d1:=fun e=>by
    subst e
    rcases List.mem_cons.1 ht with e|e
    ·exact hd e
    exact hn e
  refine (g4 t ?_ hne).trans (if_neg h2)
  rcases List.mem_cons.1 ht with e|e
  ·exact absurd e hne
  exact List.mem_cons_of_mem _ (List.mem_cons_of_mem _ e)
def lu (P:Program) (β:Bs) (N:dG) (ops:Array Oper) (Q:Post) (dj:Nat):List (Nat×Nat)->Fr->List HP->(Fr->List HP->Prop)->Prop
  | [],fr,hps,R=>R fr hps
  | (i,d)::c,fr,hps,R=>(iZ d (bn fr)=false/\d≠dj)/\∃ q:Value->List HP->Prop,iM P β N ops Q i d [d,dj] fr hps q/\∀ v l,q v l->lu P β N ops Q dj c ((d,v)::fr) l R
theorem lu.step {dj d:Nat} {c:List (Nat×Nat)} {R:Fr->List HP->Prop} {q:Value->List HP->Prop} (h:iM P β N ops Q i d [d,dj] fr hps q) (h1:(!iZ d (bn fr) && decide (d≠dj))=true) (K:∀ v l,q v l->lu P β N ops Q dj c ((d,v)::fr) l R):lu P β N ops Q dj ((i,d)::c) fr hps R:=by
  simp only [Bool.and_eq_true,Bool.not_eq_true',decide_eq_true_iff] at h1
  exact⟨h1,q,h,K⟩
section TW
variable {dj:Nat} {Z pj:List HP} {qj:Value->List HP->Prop} {R:Fr->List HP->Prop} {pS:List Nat} {F:Act->World->Prop}
theorem Sat.rest {X:List HP} {w:World} (xL:nodupB pS=true) (xM:bN Z pS=some S) (h:Sat β (X++Z) w):Sat β S w:=Sat.pick (idx:=pS) (l:=Z) (Sat.left (Sat.turn h)) xL xM
theorem EV {v:Value} {l2:List HP} (xL:nodupB pS=true) (xM:bN Z pS=some S) (hK:∀ f1 h1,R f1 h1->∀ junk w,Sat β (h1++(l2++Z)) w->F (bM N ((dj,v)::f1) junk) w) :
    ∀ (c:List (Nat×Nat)) (fr:Fr) (hps:List HP) (junk:Nat->Value) (w:World),iZ dj (bn fr)=false->lu P β N ops Q dj c fr hps R->junk dj=v->Sat β (hps++(l2++Z)) w->FJ P ops (NP Q) (Sat β S) F (c.map (·.1)) (bM N fr junk) w
  | [],fr,hps,junk,w,hdj,hc,hv,hS=>by
    have e:bM N fr junk=bM N ((dj,v)::fr) junk:=nK fun t=>by
      rw [fM]
      by_cases e1:dj=t
      ·subst e1;rw [if_pos rfl,kV (fun hm=>by rw [iK.2 hm] at hdj;cases hdj),hv]
      rw [if_neg e1]
    show F (bM N fr junk) w
    rw [e]
    exact hK fr hps hc junk w hS
  | (i,d)::c,fr,hps,junk,w,hdj,⟨⟨h1,h2⟩,q,h3,h4⟩,hv,hS=>by
    show wpOp P ops (NP Q) i _ _ _
    refine h3.at_ (X:=[]) hS (fun v' l j2 w' g1 g2 g3 g4=>⟨Sat.rest (X:=l++l2) xL xM (by rw [List.append_assoc];exact g4),?_⟩)
    have e:bM N fr j2=bM N ((d,v')::fr) j2:=nK fun t=>by
      rw [fM]
      by_cases e1:d=t
      ·subst e1;rw [if_pos rfl,kV (fun hm=>by rw [iK.2 hm] at h1;cases h1),g2]
      rw [if_neg e1]
    rw [e]
    refine EV xL xM hK c _ l j2 w' ?_ (h4 v' l g1) ((g3 dj (by simp) (fun e=>h2 e.symm)).trans hv) g4
    cases hb:iZ dj (bn ((d,v')::fr)) with
    | false=>rfl
    | true=>
      rcases List.mem_cons.1 (iK.1 hb) with e|e
      ·exact absurd e.symm h2
      rw [iK.2 e] at hdj;cases hdj
theorem EW {j:Nat} (xL:nodupB pS=true) (xM:bN Z pS=some S) (hK:∀ f1 h1,R f1 h1->∀ v l2,qj v l2->∀ junk w,Sat β (h1++(l2++Z)) w->F (bM N ((dj,v)::f1) junk) w) :
    ∀ (c:List (Nat×Nat)) (fr:Fr) (hps:List HP) (junk:Nat->Value) (w:World),nodupB (c.map (·.2))=true->iZ dj (bn fr)=false->iM P β N ops Q j dj (dj::c.map (·.2)) fr pj qj->lu P β N ops Q dj c fr hps R->Sat β (hps++(pj++Z)) w->wO P ops (NP Q) (Sat β S) F j (c.map (·.1)) (bM N fr junk) w
  | [],fr,hps,junk,w,_,hdj,hj,hc,hS=>by
    show wpOp P ops (NP Q) j _ _ _
    refine hj.at_ (X:=hps) hS (fun v l j2 w' g1 g2 g3 g4=>⟨Sat.rest (X:=hps++l) xL xM (by rw [List.append_assoc];exact g4),?_⟩)
    have e:bM N fr j2=bM N ((dj,v)::fr) j2:=nK fun t=>by
      rw [fM]
      by_cases e1:dj=t
      ·subst e1;rw [if_pos rfl,kV (fun hm=>by rw [iK.2 hm] at hdj;cases hdj),g2]
      rw [if_neg e1]
    rw [e]
    exact hK fr hps hc v l g1 j2 w' g4
  | (i,d)::c,fr,hps,junk,w,hnd,hdj,hj,hc,hS=>by
    obtain⟨⟨h1,h2⟩,q,h3,h4⟩:=hc
    have hout:d∉bn fr:=fun hm=>by rw [iK.2 hm] at h1;cases h1
    refine⟨h3.at_ (X:=[]) hS (fun v' l j2 w' g1 g2 g3 g4=>⟨Sat.rest (X:=l++pj) xL xM (by rw [List.append_assoc];exact g4),?_⟩),hj.at_ (X:=hps) hS (fun v l j2 w' g1 g2 g3 g4=>⟨Sat.rest (X:=hps++l) xL xM (by rw [List.append_assoc];exact g4),?_⟩)⟩
    ·have e:bM N fr j2=bM N ((d,v')::fr) j2:=nK fun t=>by
       rw [fM]
       by_cases e1:d=t
       ·subst e1;rw [if_pos rfl,kV hout,g2]
       rw [if_neg e1]
     rw [e]
     have yY:d∉c.map (·.2)/\nodupB (c.map (·.2))=true:=by
       have hx:nodupB (d::c.map (·.2))=true:=hnd
       unfold nodupB at hx
       simp only [Bool.and_eq_true] at hx
       exact⟨fun hm=>by have h:=hx.1;simp_all,hx.2⟩
     refine EW xL xM hK c _ l j2 w' yY.2 ?_ (hj.grow hout h2 yY.1 v') (h4 v' l g1) g4
     cases hb:iZ dj (bn ((d,v')::fr)) with
     | false=>rfl
     | true=>
       rcases List.mem_cons.1 (iK.1 hb) with e|e
       ·exact absurd e.symm h2
       rw [iK.2 e] at hdj;cases hdj
    exact EV xL xM (fun f1 h1 hr=>hK f1 h1 hr v l g1) ((i,d)::c) fr hps j2 w' hdj ⟨⟨h1,h2⟩,q,h3,h4⟩ g2 g4
theorem jo.beside {j:Nat} {pc:List HP} (pk pS:List Nat) (c:List (Nat×Nat)) (hn:nodupB pk=true) (hp:bN hps pk=some (pc++(pj++Z))) (xL:nodupB pS=true) (xM:bN Z pS=some S) (hnd:nodupB (c.map (·.2))=true) (hdj:iZ dj (bn fr)=false)
    (hj:iM P β N ops Q j dj (dj::c.map (·.2)) fr pj qj) (hc:lu P β N ops Q dj c fr pc R)
    (K:∀ f1 h1,R f1 h1->∀ v l,qj v l->jo P β N ops S es [] ((dj,v)::f1) (h1++(l++Z)) Q):jo P β N ops S (.beside (c.map (·.1)) j::es) [] fr hps Q:=by
  intro junk w hS
  exact EW (F:=mg P ops (NP Q) (Sat β S) es) xL xM (fun f1 h1 hr v l2 hv junk w hS=>K f1 h1 hr v l2 hv junk w hS) c fr pc junk w hnd hdj hj hc (hS.pick hn hp)
end TW
theorem jo.last {o:Oper} (hop:ops[i]?=some o) (hg:o.guard=none) (h:ak P β N #[o] 0 fr hps (NP Q)):jo P β N ops S [.one i] [] fr hps Q:=by
  intro junk w hS
  unfold pW mg
  exact iJ hop hg (jU (fun a w hq=>⟨.inl rfl,by unfold mg;exact hq⟩) (show wpList P #[o] (NP Q) [o] (bM N fr junk) w from h junk w hS))
end mix
end
section
open Go.RowKit
def lC (β:Bs) (Φ:Bs->Prop):bW where
  h F w:=∃ β':Bs,β.le β'/\(∀ k,β'.O k->β.O k\/F k)/\(∀ k,F k->β'.O k)/\β'.w0.heap.size<=w.heap.size/\(∀ k,F k->k < β'.w0.heap.size/\w.heap[k]?=β'.w0.heap[k]?)/\Φ β'
  lt:=fun ⟨_,_,_,_,h4,h5,_⟩ k hk=>Nat.lt_of_lt_of_le (h5 k hk).1 h4
  st:=fun ⟨β',h1,h2,h3,h4,h5,h6⟩ _ _ hk hs=>⟨β',h1,h2,h3,Nat.le_trans h4 hk.size,fun k hF=>⟨(h5 k hF).1,(hk.block k (Nat.lt_of_lt_of_le (h5 k hF).1 h4) (hs k hF)).trans (h5 k hF).2⟩,h6⟩
section QY
variable {P:Program} {β:Bs} {N:dG} {ops:Array Oper} {k:Nat} {fr:Fr} {hps dm:List HP} {Q:Post} {f:FuncId} {args:Array Value} {pre:List HP}
theorem bp.QY {ι:Type} {vv:ι->Value} {ll:ι->List HP} {Φ:ι->Bs->Prop} (h:bp P β f args pre (fun β' v l=>∃ x,v=vv x/\l=ll x/\Φ x β')):Spec P β f args pre (fun v l=>∃ x,v=vv x/\l=.abs (lC β (Φ x))::ll x):=by
  intro R w hS
  refine (h R w hS).mono ?_
  rintro e w' ⟨β',v,l,hle,he,⟨x,rfl,rfl,vE⟩,ho,φ,h1,h2,h3⟩
  refine⟨vv x,_,he,⟨x,rfl,rfl⟩,ho.le hle,fun i=>match i with
    | 0=>fun k=>β'.O k/\¬ β.O k
    | i+1=>φ i,fun i p hp=>?_,fun i hi k hk hO=>?_,fun i j hi hj hne k hk hk'=>?_⟩
  ·cases i with
   | zero=>
     have hp:some (HP.abs (lC β (Φ x)))=some p:=hp
     cases hp
     exact⟨β',hle,fun k hk=>(Classical.em (β.O k)).elim .inl (fun hn=>.inr ⟨hk,hn⟩),fun k hk=>hk.1,ho.size,fun k hk=>ho.old k hk.1,vE⟩
   | succ i=>exact h1 i p (by simpa using hp)
  ·cases i with
   | zero=>exact hk.2 hO
   | succ i=>exact h2 i (by simp at hi ⊢;omega) k hk (hle.O k hO)
  cases i with
  | zero=>
    cases j with
    | zero=>exact hne rfl
    | succ j=>exact h2 j (by simp at hj ⊢;omega) k hk' hk.1
  | succ i=>
    cases j with
    | zero=>exact h2 i (by simp at hi ⊢;omega) k hk hk'.1
    | succ j=>exact h3 i j (by simp at hi ⊢;omega) (by simp at hj ⊢;omega) (by omega) k hk hk'
theorem Sat.G5 {Φ:Bs->Prop} {l:List HP} {w:World} (h:Sat β (.abs (lC β Φ)::l) w):∃ β':Bs,β.le β'/\Φ β'/\Sat β' l w:=by
  obtain⟨ho,φ,h1,h2,h3⟩:=h
  have hF:(lC β Φ).h (φ 0) w:=h1 0 _ rfl
  obtain⟨β',g1,g2,g3,g4,g5,g6⟩:=hF
  refine⟨β',g1,g6,⟨ho.os.trans g1.os.symm,ho.tape.trans g1.tape.symm,ho.output.trans g1.output.symm,g4,fun k hk=>?_⟩,fun j=>φ (j+1),fun j p hp=>h1 (j+1) p (by simpa using hp),fun j hj k hk hO=>?_,fun a b ha hb hne=>h3 (a+1) (b+1) (by simp;omega) (by simp;omega) (by omega)⟩
  ·rcases g2 k hk with hb|hb
   ·have e1:=g1.old k hb
    have e2:=ho.old k hb
    exact⟨Nat.lt_of_lt_of_le e1.1 g1.size,e2.2.trans e1.2.symm⟩
   exact g5 k hb
  rcases g2 k hO with hb|hb
  ·exact h2 (j+1) (by simp;omega) k hk hb
  exact h3 (j+1) 0 (by simp;omega) (by simp) (by omega) k hk hb
theorem Spec.Le {Φ:Bs->Prop} {post:Value->List HP->Prop} (h:∀ β':Bs,β.le β'->Φ β'->Spec P β' f args pre post):Spec P β f args (.abs (lC β Φ)::pre) post:=by
  intro R w hS
  obtain⟨β',g1,g2,g3⟩:=Sat.G5 (l:=pre++[.abs R]) hS
  refine (h β' g1 g2 R w g3).mono ?_
  rintro e w' ⟨v,l,h1,h2,h3⟩
  exact⟨v,l,h1,h2,h3.Cb g1⟩
end QY
end
section
open Go.RowKit Go.Maps bq aF
theorem Lf (_:Nat) (f:bh):∀ u∈fU f,u.oneCell'=true:=by
  intro u hu
  simp only [fU,List.mem_cons,List.not_mem_nil,or_false] at hu
  rcases hu with rfl|rfl<;>rfl
theorem PY (_:Nat) (a:bK):∀ u∈gM a,u.oneCell'=true:=by
  intro u hu
  simp only [gM,List.mem_cons,List.not_mem_nil,or_false] at hu
  rcases hu with rfl|rfl|rfl|rfl|rfl<;>rfl
theorem CU {α:Type} (f:α->List Value) (a:α) (ys:List α):bR f (ys++[a])=bR f ys++f a:=by
  have:∀ (k:Nat) (ys:List α),dI (fun _ x=>f x) k (ys++[a])=dI (fun _ x=>f x) k ys++f a:=fun k ys=>by
    induction ys generalizing k with
    | nil=>exact List.append_nil _
    | cons y r ih=>show f y++dI _ (k+1) (r++[a])=(f y++dI _ (k+1) r)++f a;rw [ih,List.append_assoc]
  exact this 0 ys
theorem EX {α:Type} {f:α->List Value} {s:Nat} (hf:∀ a,(f a).length=s):∀ xs:List α,(bR f xs).length=xs.length * s:=fun xs=>by
  have:∀ (k:Nat) (xs:List α),(dI (fun _ x=>f x) k xs).length=xs.length * s:=fun k xs=>by
    induction xs generalizing k with
    | nil=>simp [dI]
    | cons y r ih=>show (f y++dI _ (k+1) r).length=_;rw [List.length_append,ih,hf,List.length_cons,Nat.succ_mul,Nat.add_comm]
  exact this 0 xs
structure AZ where
  A:Int->Option Addr
  c:Int->Nat
def AZ.none:AZ:=⟨fun _=>Option.none,fun _=>0⟩
def AZ.put (Z:AZ) (n:Int) (B:Option Addr) (k:Nat):AZ:=⟨fun x=>if x=n then B else Z.A x,fun x=>if x=n then k else Z.c x⟩
def aA (Z:AZ) (xs:List bK) (n:Int):Option Addr:=if bF xs n=[] then .none else Z.A n
def aC (Z:AZ) (xs:List bK) (n:Int):Nat:=if bF xs n=[] then 0 else Z.c n
def zz:Int->Nat
  | .ofNat n=>2 * n
  | .negSucc n=>2 * n+1
def AK (k:Nat):Int:=if k % 2=0 then .ofNat (k / 2) else .negSucc (k / 2)
def gS (Z:AZ) (xs:List bK):Lit->Option Value
  | .int .i64 n=>if bF xs n=[] then .none else some (.slice (aA Z xs n) (bF xs n).length (aC Z xs n))
  | _=>.none
def eY (fs:List bh):Lit->Option Value
  | .int .i64 n=>if iY fs n=0 then .none else some (.int .i64 (iY fs n))
  | _=>.none
abbrev BL (Z:AZ) (xs:List bK) (n:Int):bW:=aH 136 5 (aA Z xs n) (bF xs n).length (aC Z xs n) (bR gM (bF xs n))
def ni (Z:AZ) (xs:List bK) (k:Nat):bW:=if bF xs (AK k)=[] then bW.none else BL Z xs (AK k)
def fF (β:Bs) (Z:AZ) (xs:List bK):Prop:=∀ n,cM β (aA Z xs n) (bR gM (bF xs n))
section z
variable {Z:AZ} {xs:List bK} {n x:Int} {k c:Nat} {B:Option Addr} {a:bK} {β β':Bs} {l l':List HP} {w:World} {i j:Nat}
theorem G6:∀ n,AK (zz n)=n
  | .ofNat n=>by show AK (2 * n)=_;unfold AK;rw [if_pos (by omega)];exact congrArg Int.ofNat (by omega)
  | .negSucc n=>by show AK (2 * n+1)=_;unfold AK;rw [if_neg (by omega)];exact congrArg Int.negSucc (by omega)
theorem TY (k:Nat):zz (AK k)=k:=by
  unfold AK
  split
  ·show 2 * (k / 2)=k;omega
  show 2 * (k / 2)+1=k;omega
theorem fF.le (h:fF β Z xs) (g:β.le β'):fF β' Z xs:=fun n=>(h n).le g
theorem BM:(gS Z xs (.int .i64 n)).getD (.slice .none 0 0)=.slice (aA Z xs n) (bF xs n).length (aC Z xs n):=by
  unfold gS
  by_cases h:bF xs n=[]
  ·simp only
   rw [if_pos h]
   unfold aA aC
   rw [if_pos h,if_pos h,h];rfl
  simp only
  rw [if_neg h];rfl
theorem EY {fs:List bh}:(eY fs (.int .i64 n)).getD (.int .i64 0)=.int .i64 (iY fs n):=by
  unfold eY
  simp only
  split
  ·rename_i h;rw [h];rfl
  rfl
theorem PZ:gS Z []=fun _=>.none:=funext fun l=>by
  unfold gS
  split<;>rfl
theorem Nk:eY []=fun _=>.none:=funext fun l=>by
  unfold eY
  split<;>rfl
theorem uI {m:Int} (h:m≠a.at_):bF (xs++[a]) m=bF xs m:=by
  rw [AJ,if_neg (fun e=>h e.symm)]
theorem uJ:bF (xs++[a]) a.at_=bF xs a.at_++[a]:=by
  rw [AJ,if_pos rfl]
theorem QZ {m:Int} (h:m≠a.at_):aA (Z.put a.at_ B c) (xs++[a]) m=aA Z xs m:=by
  unfold aA AZ.put
  rw [uI h]
  simp only
  rw [if_neg h]
theorem Q0 {m:Int} (h:m≠a.at_):aC (Z.put a.at_ B c) (xs++[a]) m=aC Z xs m:=by
  unfold aC AZ.put
  rw [uI h]
  simp only
  rw [if_neg h]
theorem Q5:aA (Z.put a.at_ B c) (xs++[a]) a.at_=B:=by
  unfold aA AZ.put
  rw [uJ,if_neg (by simp)]
  simp
theorem Q6:aC (Z.put a.at_ B c) (xs++[a]) a.at_=c:=by
  unfold aC AZ.put
  rw [uJ,if_neg (by simp)]
  simp
theorem J2 {f g:Lit->Option Value} {v:Option Value} (hv:g (.int .i64 n)=v) (ho:∀ l,l≠.int .i64 n->g l=f l):kD f (.int .i64 n) v=g:=funext fun l=>by
  unfold kD
  by_cases h:l.sameKey (.int .i64 n)=true
  ·rw [if_pos h]
   have:l=.int .i64 n:=by
     cases l with
     | int q a=>simp [Lit.sameKey] at h;obtain⟨rfl,rfl⟩:=h;rfl
     | _=>simp [Lit.sameKey] at h
   rw [this,hv]
  rw [if_neg h,ho l (fun e=>h (by rw [e];simp [Lit.sameKey]))]
theorem P0:kD (gS Z xs) (.int .i64 a.at_) (some (.slice B ((bF xs a.at_).length+1) c))=gS (Z.put a.at_ B c) (xs++[a]):=by
  refine J2 ?_ (fun l h=>?_)
  ·unfold gS
   simp only
   rw [uJ,if_neg (by simp),Q5,Q6,List.length_append];rfl
  unfold gS
  split
  ·rename_i m
   have hm:m≠a.at_:=fun e=>h (by rw [e])
   rw [uI hm,QZ hm,Q0 hm]
  rfl
theorem Nl {fs:List bh} {f:bh} (h:FK f) (h0:iY fs f.at_=0):kD (eY fs) (.int .i64 f.at_) (some (.int .i64 f.kind))=eY (fs++[f]):=by
  have hk:¬ f.kind=0:=by have:=h.1;omega
  refine J2 ?_ (fun l hl=>?_)
  ·unfold eY
   simp only
   have e:iY (fs++[f]) f.at_=f.kind:=by rw [sM,if_pos h0,if_pos (show f.at_=f.at_/\FK f from ⟨rfl,h⟩)]
   rw [e,if_neg hk]
  unfold eY
  split
  ·rename_i m
   have hm:¬ (f.at_=m/\FK f):=fun e=>hl (by rw [e.1])
   rw [sM,if_neg hm]
   by_cases h2:iY fs m=0
   ·rw [if_pos h2,h2]
   rw [if_neg h2]
  rfl
theorem wR {fs:List bh} {f:bh} (h:¬ FK f\/iY fs f.at_≠0):eY (fs++[f])=eY fs:=funext fun l=>by
  unfold eY
  split
  ·rename_i m
   have:iY (fs++[f]) m=iY fs m:=by
     rw [sM]
     by_cases h2:iY fs m=0
     ·rw [if_pos h2,if_neg (fun e=>?_),h2]
      rcases h with h|h
      ·exact h e.2
      exact h (by rw [e.1];exact h2)
     rw [if_neg h2]
   rw [this]
  rfl
theorem Sat.T9 (h:Sat β l w):Sat β (l++[.abs (aG (ni AZ.none []))]) w:=h.FC _ (fun _=>if_pos rfl)
theorem Sat.Sd (h:Sat β l w) (hp:l[i]?=some (.abs (aG (ni Z xs)))) (n:Int):Sat β (l.set i (.abs (aG (kX (ni Z xs) (zz n) bW.none)))++[.abs (BL Z xs n)]) w:=by
  have h1:=h.Co hp (zz n)
  by_cases e:bF xs n=[]
  ·have e2:BL Z xs n=aH 136 5 .none 0 0 []:=by
     unfold BL aA aC
     rw [if_pos e,if_pos e,e];rfl
   rw [e2]
   exact (Sat.left h1).mo (e:=136) (size:=5)
  have e2:ni Z xs (zz n)=BL Z xs n:=by
    unfold ni
    rw [G6,if_neg e]
  rw [e2] at h1
  exact h1
theorem Sat.Ua {idx:List Nat} (h:Sat β l w) (hp:l[i]?=some (.abs (aG (kX (ni Z xs) (zz a.at_) bW.none)))) (hq:l[j]?=some (.abs (aH 136 5 B ((bF xs a.at_).length+1) c (bR gM (bF xs a.at_)++gM a)))) (hn:nodupB (i::j::idx)=true) (hl:bN l idx=some l') :
    Sat β (.abs (aG (ni (Z.put a.at_ B c) (xs++[a])))::l') w:=by
  refine h.sH hp hq (fun _ _ h=>h) hn hl (zz a.at_) (fun x hx=>?_) ?_
  ·have hne:AK x≠a.at_:=fun e=>hx (by rw [← e,TY])
   unfold kX
   rw [if_neg hx]
   unfold ni BL
   rw [uI hne,QZ hne,Q0 hne]
  unfold ni BL
  rw [G6,uJ,if_neg (by simp),Q5,Q6]
  rw [CU,List.length_append];rfl
theorem fF.of {F:Fp} (h:(HP.abs (aG (ni Z xs))).h F w) (h1:∀ k,F k->β.O k) (h2:β.w0=w):fF β Z xs:=fun n=>by
  by_cases e:bF xs n=[]
  ·rw [e];exact fun j v hj=>by simp [bR,dI] at hj
  obtain⟨φ,g1,_,g3⟩:=h
  have h3:=g1 (zz n)
  unfold ni at h3
  rw [G6,if_neg e] at h3
  exact cM.jA h3 (fun k hk=>h1 k ((g3 k).2 ⟨_,hk⟩)) h2
end z
theorem G7 {xs:List bK} {i:Nat} (h:i < xs.length):xs.take (i+1)=xs.take i++[act xs i]:=by
  rw [List.take_add_one,sY h];rfl
theorem wS {fs:List bh} {i:Nat} (h:i < fs.length):fs.take (i+1)=fs.take i++[kq fs i]:=by
  rw [List.take_add_one,z7 h];rfl
theorem Nn {n:Nat} (h:n<=9223372036854775807):(Lit.int .i64 (n:Int)).wf=true:=by
  simp [Lit.wf,IntKind.min,IntKind.max,IntKind.signed,IntKind.bits]
  omega
theorem P4 {d:List UInt8} {m j:Nat} {v:Value} (h:(cG (d.take m))[j]?=some v):(cG d)[j]?=some v:=by
  unfold cG at h ⊢
  rw [List.getElem?_map] at h ⊢
  rw [List.getElem?_take] at h
  split at h
  ·exact h
  cases h
theorem Jl {β:Bs} {c:aB} (h:lg β c):lg β { c with data:=c.data.take (c.data.length / 2) }:=⟨h.hw,h.ow,h.nm,h.tx,fun j v hj=>h.da j v (P4 hj),by
  show (c.data.take _).length<=_
  rw [List.length_take];have:=h.dl;omega,by
  show (c.data.take _).length<=c.dC
  rw [List.length_take];have:=h.dc;omega,h.op⟩
structure WG where
  w:Nat
  o:Nat
  q:Nat
  am:Nat
  km:Nat
  an:Nat
  kn:Nat
  f:Nat
  m:Nat
  t:Nat
  Z:AZ
structure WV where
  L:HL
  A:Option Addr
  c:Nat
abbrev wB (w o f:Nat) (root:Int) (A:Option Addr) (n c:Nat):HP:=.blk w [.iface 39 (vP w),vP f,.iface 140 (vP o),.int .i64 root,.slice A n c] 53
abbrev oB (o q f:Nat) (root:Int) (am n:Nat):HP:=.blk o [.iface 141 (vP q),vP f,.int .i64 root,.map (some am),.int .i64 n] 145
abbrev qB (q f km n:Nat):HP:=.blk q [.iface 49 (vP f),.map (some km),.int .i64 n] 143
abbrev aM (am an:Nat) (Z:AZ) (xs:List bK):HP:=.abs (aP Tryz.prog 3 am (gS Z xs) an)
abbrev kM (km kn:Nat) (fs:List bh):HP:=.abs (aP Tryz.prog 3 km (eY fs) kn)
abbrev tR (A:Option Addr) (c:Nat) (tr:List aB):HP:=.abs (aH 88 13 A tr.length c (bR dr tr))
abbrev wP (G:WG) (fs:List bh) (xs:List bK) (root:Int) (S:aJ) (V:WV) (tr:List aB):List HP:=[wB G.w G.o G.f root V.A tr.length V.c,oB G.o G.q G.f root G.am tr.length,qB G.q G.f G.km tr.length,aM G.am G.an G.Z xs,kM G.km G.kn fs,tR V.A V.c tr]++pA G.f G.m G.t V.L S
def wA (G:WG) (fs:List bh) (xs:List bK) (root:Int) (S:aJ) (V:WV) (tr:List aB):HP:=.abs (fD (wP G fs xs root S V tr))
def Zb (β:Bs) (tr:List aB):Prop:=∀ c∈tr,bG β c.dA c.data/\c.data.length<=1048576
theorem Spec.one {P:Program} {β:Bs} {f:FuncId} {args:Array Value} {pre:List HP} {post:Value->List HP->Prop} (h:Spec P β f args pre post):Spec P β f args [.abs (fD pre)] (fun v l=>∃ l0,post v l0/\l=[.abs (fD l0)]):=by
  intro R w hS
  have h1:Sat β ([.abs R]++[.abs (fD pre)]) w:=Sat.turn hS
  refine (h R w (Sat.turn h1.o9)).mono ?_
  rintro e w' ⟨v,l,h2,h3,h4⟩
  exact⟨v,[.abs (fD l)],h2,⟨l,h3,rfl⟩,Sat.turn (Sat.fD (Sat.turn h4))⟩
theorem bp.one {P:Program} {β:Bs} {f:FuncId} {args:Array Value} {pre:List HP} {post:Bs->Value->List HP->Prop} (h:bp P β f args pre post):bp P β f args [.abs (fD pre)] (fun β' v l=>∃ l0,post β' v l0/\l=[.abs (fD l0)]):=by
  intro R w hS
  have h1:Sat β ([.abs R]++[.abs (fD pre)]) w:=Sat.turn hS
  refine (h R w (Sat.turn h1.o9)).mono ?_
  rintro e w' ⟨β',v,l,hle,h2,h3,h4⟩
  exact⟨β',v,[.abs (fD l)],hle,h2,⟨l,h3,rfl⟩,Sat.turn (Sat.fD (Sat.turn h4))⟩
theorem aj.G5 {β:Bs} {N:dG} {Q:Post} {e:Exit} {fr:Fr} {hps dm:List HP} {Φ:Bs->Prop} (i:Nat) (idx:List Nat) (hp:hps[i]?=some (.abs (lC β Φ))) (hn:nodupB (i::idx)=true) (hl:bN hps idx=some dm) (K:∀ β':Bs,β.le β'->Φ β'->aj β' N Q e fr dm):aj β N Q e fr hps:=fun junk w hS=>by
  obtain⟨β',g1,g2,g3⟩:=(hS.pick (idx:=i::idx) (l':=.abs (lC β Φ)::dm) hn (by simp only [bN,hp,hl])).G5
  exact K β' g1 g2 junk w g3
theorem bp.Le {P:Program} {β:Bs} {f:FuncId} {args:Array Value} {pre:List HP} {Φ:Bs->Prop} {post:Bs->Value->List HP->Prop} (h:∀ β':Bs,β.le β'->Φ β'->bp P β' f args pre post):bp P β f args (.abs (lC β Φ)::pre) post:=by
  intro A w hS
  obtain⟨β',g1,g2,g3⟩:=Sat.G5 (l:=pre++[.abs A]) hS
  refine (h β' g1 g2 A w g3).mono ?_
  rintro e w' ⟨β'',v,l,hle,h2⟩
  exact⟨β'',v,l,g1.trans hle,h2⟩
theorem bp.Ub {P:Program} {β:Bs} {f:FuncId} {args:Array Value} {R:List HP} {post:Bs->Value->List HP->Prop} (h:∀ β':Bs,pP β R β'->bp P β' f args [] post):bp P β f args R post:=by
  intro A w hS
  have h4:Sat β ([.abs A]++R) w:=Sat.turn hS
  obtain⟨β',g1,_,g3⟩:=h4.yA
  refine (h β' g1 A w g3).mono ?_
  rintro e w' ⟨β'',v,l,hle,h2⟩
  exact⟨β'',v,l,g1.le.trans hle,h2⟩
theorem bp.CV {P:Program} {β:Bs} {f:FuncId} {args:Array Value} {pre:List HP} {post:Value->List HP->Prop} (h:bp P β f args pre (fun _ v l=>post v l)):Spec P β f args pre post:=by
  intro A w hS
  refine (h A w hS).mono ?_
  rintro e w' ⟨β',v,l,hle,h2,h3,h4⟩
  exact⟨v,l,h2,h3,h4.Cb hle⟩
theorem bp.Uc {P:Program} {β:Bs} {f:FuncId} {args:Array Value} {pre:List HP} {post post':Bs->Value->List HP->Prop} (h:bp P β f args pre post) (hp:∀ β' v l,post β' v l->(l=[]/\post' β' v [])\/post' β' v [.abs (fD l)]):bp P β f args pre post':=by
  intro R w hS
  refine (h R w hS).mono ?_
  rintro e w' ⟨β',v,l,hle,h2,h3,h4⟩
  rcases hp β' v l h3 with ⟨rfl,h5⟩|h5
  ·exact⟨β',v,[],hle,h2,h5,h4⟩
  exact⟨β',v,[.abs (fD l)],hle,h2,h5,Sat.turn (Sat.fD (Sat.turn h4))⟩
end
section
open Go.RowKit Go.Maps bq aF
section k
variable {xs:List bK} {z root:Int} {j n:Nat} {fs:List bh} {S:aJ} {c:aB} {k:Int}
theorem G8:(nI root c).op=c.op:=by
  unfold nI;split<;>rfl
theorem CW {e:Int}:(cK c e).code=e/\(cK c e).answer=0:=by
  unfold cK;split<;>exact⟨rfl,rfl⟩
end k
end
section
open Go.RowKit
section
variable {O:bU} {k:Nat} {kd:Int}
theorem rZ (L:HL) (h:(obj O k).kind=kd) (h0:kd≠0:=by decide):∀ F w,(aG (bS O L)).h F w->w.cell? ⟨L.b k,0,none⟩=some (.int .i64 (obj O k).id):=eV (by rw [h];exact h0) rfl
theorem tO (L:HL) (h:(obj O k).kind=kd) (h0:kd≠0:=by decide):∀ F w,(aG (bS O L)).h F w->w.cell? ⟨L.b k,1,none⟩=some (.int .i64 (obj O k).mode):=eV (by rw [h];exact h0) rfl
theorem z8 (L:HL) (h:(obj O k).kind=kd) (h0:kd≠0:=by decide):∀ F w,(aG (bS O L)).h F w->w.cell? ⟨L.b k,2,none⟩=some (.int .i64 (obj O k).uid):=eV (by rw [h];exact h0) rfl
theorem Ab (L:HL) (h:(obj O k).kind=kd) (h0:kd≠0:=by decide):∀ F w,(aG (bS O L)).h F w->w.cell? ⟨L.b k,3,none⟩=some (.int .i64 (obj O k).gid):=eV (by rw [h];exact h0) rfl
theorem nL (L:HL) (h:(obj O k).kind=kd) (h0:kd≠0:=by decide):∀ F w,(aG (bS O L)).h F w->w.cell? ⟨L.b k,6,none⟩=some (.int .i64 (obj O k).links):=eV (by rw [h];exact h0) rfl
theorem lD (L:HL) (h:(obj O k).kind=kd) (h0:kd≠0:=by decide):∀ F w,(aG (bS O L)).h F w->w.cell? ⟨L.b k,7,none⟩=some (.int .i64 (obj O k).opens):=eV (by rw [h];exact h0) rfl
theorem rN (L:HL) (h:(obj O k).kind=kd) (h0:kd≠0:=by decide):∀ F w,(aG (bS O L)).h F w->w.cell? ⟨L.b k,8,none⟩=some (.bool (obj O k).gone):=eV (by rw [h];exact h0) rfl
theorem G9 (L:HL) (h:(obj O k).kind=1):∀ F w,(aG (bS O L)).h F w->w.cell? ⟨L.b k,9,none⟩=some (.slice (L.dA k) (obj O k).data.length (L.dC k)):=eV (by rw [h];decide) (by rw [rB h];rfl)
theorem bQ (L:HL) (h:(obj O k).kind=2):∀ F w,(aG (bS O L)).h F w->w.cell? ⟨L.b k,9,none⟩=some (.map (some (L.m k))):=eV (by rw [h];decide) (by rw [ou h];rfl)
theorem Xl (L:HL) (h:(obj O k).kind=2):∀ F w,(aG (bS O L)).h F w->w.cell? ⟨L.b k,10,none⟩=some (Ay L (obj O k).up):=eV (by rw [h];decide) (by rw [ou h];rfl)
theorem VB (L:HL) (h:(obj O k).kind=3):∀ F w,(aG (bS O L)).h F w->w.cell? ⟨L.b k,9,none⟩=some (.string (obj O k).target):=eV (by rw [h];decide) (by rw [yB h];rfl)
end
end
section
open Go.RowKit Go.Maps
theorem aG.step {R R':Nat->bW} {k:Nat} {F:Fp} {w w':World} (hF:(aG R).h F w) (hR:∀ x,x≠k->R' x=R x) (hs:∀ G,(R k).h G w->∃ G',(R' k).h G' w'/\Step G w G' w'):∃ F',(aG R').h F' w'/\Step F w F' w':=by
  obtain⟨φ,h1,h2,h3⟩:=hF
  obtain⟨G',g1,st⟩:=hs _ (h1 k)
  have hap:∀ i,i≠k->∀ x,G' x->φ i x->False:=fun i hne x hx hy=>by
    rcases st.grow x hx with e|e
    ·exact h2 i k hne x hy e
    have:=(R i).lt (h1 i) x hy;omega
  refine⟨fun x=>∃ i,(if i=k then G' else φ i) x,⟨fun i=>if i=k then G' else φ i,fun i=>?_,fun i j hne x hx hy=>?_,fun x=>Iff.rfl⟩,⟨st.keeps.mono (fun x _ hx=>(h3 x).2 ⟨k,hx⟩),fun x ⟨i,hx⟩=>?_⟩⟩
  ·by_cases e:i=k
   ·subst e;simp only [if_true];exact g1
   simp only [e,if_false]
   rw [hR i e]
   exact (R i).st (h1 i) st.keeps (fun x hx hk=>h2 i k e x hx hk)
  ·by_cases e1:i=k
   ·have e2:j≠k:=fun e=>hne (e1.trans e.symm)
    simp only [e1,if_true] at hx
    simp only [e2,if_false] at hy
    exact hap j e2 x hx hy
   simp only [e1,if_false] at hx
   by_cases e2:j=k
   ·simp only [e2,if_true] at hy
    exact hap i e1 x hy hx
   simp only [e2,if_false] at hy
   exact h2 i j hne x hx hy
  by_cases e:i=k
  ·simp only [e,if_true] at hx
   rcases st.grow x hx with h|h
   ·exact .inl ((h3 x).2 ⟨k,h⟩)
   exact .inr h
  simp only [e,if_false] at hx
  exact .inl ((h3 x).2 ⟨i,hx⟩)
def Ee (O:bU) (L:HL):Nat->HP
  | 0=>.abs (aG (bS O L))
  | 1=>.abs (aG (cY O L))
  | _=>.abs (aG (cg O L))
def qD (O:bU) (L:HL):List (Nat×Nat)->List (Nat×HP)
  | []=>[]
  | q::r=>(q.1,Ee O L q.2)::qD O L r
def uK (hps:List HP) (O:bU) (L:HL):List (Nat×Nat)->Prop
  | []=>True
  | q::r=>hps[q.1]?=some (Ee O L q.2)/\uK hps O L r
theorem vQ {hps:List HP} {O O2:bU} {L:HL} {p:Nat} (he:∀ q,q≠p->Ee O2 L q=Ee O L q):∀ {js:List (Nat×Nat)},uK hps O L js->iZ p (js.map (·.2))=false->nC hps (qD O2 L js)=hps
  | [],_,_=>rfl
  | q::r,h,hn=>by
    have hq:q.2≠p:=fun e=>by
      rw [show iZ p ((q::r).map (·.2))=true from iK.2 (by simp [e])] at hn;cases hn
    have hr:iZ p (r.map (·.2))=false:=by
      cases hb:iZ p (r.map (·.2)) with
      | false=>rfl
      | true=>rw [show iZ p ((q::r).map (·.2))=true from iK.2 (List.mem_cons_of_mem _ (iK.1 hb))] at hn;cases hn
    show nC (hps.set q.1 (Ee O2 L q.2)) (qD O2 L r)=hps
    have e:hps.set q.1 (Ee O2 L q.2)=hps:=by
      rw [he _ hq]
      refine List.ext_getElem? (fun n=>?_)
      rw [List.getElem?_set]
      split
      ·rename_i e;subst e
       rw [h.1];split
       ·rfl
       rename_i hlt;exact absurd (bw h.1) hlt
      rfl
    rw [e]
    exact vQ he h.2 hr
def CX (P:Program) (N:dG) (junk:Nat->Value) (ops:Array Oper) (fr:Fr) (k:Nat):Option (Addr×Value):=
  match fW N junk ops fr k with
  | some (.store T a y,_)=>match (P.info? T).map (·.size) with
    | some 1=>match dL N fr junk a with
      | .pointer (some ad)=>some (ad,dL N fr junk y)
      | _=>none
    | _=>none
  | _=>none
def CY (N:dG) (junk:Nat->Value) (ops:Array Oper) (fr:Fr) (k:Nat):Option (TypeId×Nat×Value):=
  match fW N junk ops fr k with
  | some (.lookup t x ix false,_)=>match dL N fr junk x with
    | .map (some b)=>some (t,b,dL N fr junk ix)
    | _=>none
  | _=>none
def setAt (N:dG) (junk:Nat->Value) (ops:Array Oper) (fr:Fr) (k:Nat):Option (TypeId×Nat×Value×Value):=
  match fW N junk ops fr k with
  | some (.mapUpdate t x ix y,_)=>match dL N fr junk x with
    | .map (some b)=>some (t,b,dL N fr junk ix,dL N fr junk y)
    | _=>none
  | _=>none
def Lg (N:dG) (junk:Nat->Value) (ops:Array Oper) (fr:Fr) (k:Nat):Option (TypeId×TypeId×Nat×Value):=
  match fW N junk ops fr k with
  | some (.call ⟨.builtin .delete,xs,ts⟩,_)=>match xs.toList with
    | [x,ix]=>match ts.toList with
      | [t,K]=>match dL N fr junk x with
        | .map (some b)=>some (t,K,b,dL N fr junk ix)
        | _=>none
      | _=>none
    | _=>none
  | _=>none
def He (L:HL):Option Th->Value
  | none=>.nilIface
  | some t=>eu L t
section rules
variable {β:Bs} {N:dG} {ops:Array Oper} {k x:Nat} {fr:Fr} {hps:List HP} {Q:Post} {O:bU} {L:HL} {name:ByteArray} {r:Option Th} {t:Th}
theorem vR {junk:Nat->Value} {op:Op} {d:Option Tmp} (h:fW N junk ops fr k=some (op,d)):d=jC ops k:=by
  obtain⟨o,h1,_,_,h4⟩:=eG h
  unfold jC
  rw [h1,← h4]
theorem Hf {P:Program} {junk:Nat->Value} {ad:Addr} {u:Value} (h:CX P N junk ops fr k=some (ad,u)):∃ T a y,fW N junk ops fr k=some (.store T a y,jC ops k)/\(P.info? T).map (·.size)=some 1/\dL N fr junk a=.pointer (some ad)/\dL N fr junk y=u:=by
  unfold CX at h
  repeat' split at h
  all_goals first|(cases h;done)|skip
  rename_i T a y d h0 _ h1 _ Ye h2
  cases h
  have:=vR h0
  subst this
  exact⟨T,a,y,h0,h1,h2,rfl⟩
theorem oZ {junk:Nat->Value} {T:TypeId} {b:Nat} {key:Value} (h:CY N junk ops fr k=some (T,b,key)):∃ a y,fW N junk ops fr k=some (.lookup T a y false,jC ops k)/\dL N fr junk a=.map (some b)/\dL N fr junk y=key:=by
  unfold CY at h
  repeat' split at h
  all_goals first|(cases h;done)|skip
  rename_i T' a y d h0 _ b' h1
  cases h
  have:=vR h0
  subst this
  exact⟨a,y,h0,h1,rfl⟩
theorem P5 {junk:Nat->Value} {T:TypeId} {b:Nat} {key u:Value} (h:setAt N junk ops fr k=some (T,b,key,u)):∃ a y z,fW N junk ops fr k=some (.mapUpdate T a y z,jC ops k)/\dL N fr junk a=.map (some b)/\dL N fr junk y=key/\dL N fr junk z=u:=by
  unfold setAt at h
  repeat' split at h
  all_goals first|(cases h;done)|skip
  rename_i T' a y z d h0 _ b' h1
  cases h
  have:=vR h0
  subst this
  exact⟨a,y,z,h0,h1,rfl,rfl⟩
theorem Np {P:Program} {T:TypeId} {a y:Operand} {o:Oper} {ev:Operand->Value} {w:World} {ad:Addr} {u v0:Value} (ho:o.op=.store T a y) (hT:(P.info? T).map (·.size)=some 1) (ha:ev a=.pointer (some ad)) (hy:ev y=u) (hu:u.oneCell'=true) (hc:w.cell? ad=some v0) (hf:w.frozen? ad=false) (hs:ad.spot=none):oP P ev o w undef (w.setCell ad u):=by
  obtain⟨inf,hi,hsz⟩:∃ inf,P.info? T=some inf/\inf.size=1:=by
    cases h:P.info? T with
    | none=>rw [h] at hT;cases hT
    | some inf=>rw [h] at hT;exact⟨inf,rfl,by simpa using hT⟩
  have h3:=oQ hi w
  rw [hsz] at h3
  obtain⟨dst,op,type,pos,after,guard⟩:=o
  obtain⟨bk,off,spot⟩:=ad
  simp only at hs
  subst hs
  cases ho
  refine .inr ⟨rfl,?_⟩
  cases u<;>first
    | (simp [Value.oneCell'] at hu;done)
    | (simp only [execOp,ha,hy];simp [go_sem,Instr.storeAt,Instr.sureAddr,storeVar,h3,Value.cells,storeCells,store,Addr.add,Sem.run,hc,hf])
theorem Wd (i:Nat) (js:List (Nat×Nat)) (x j:Nat) (f:aY->aY) (u:Value) {kd:Int} (hk:(obj O x).kind=kd)
    (K:∀ O2,O2=aN O x f->ak Tryz.prog β N ops (k+1) (dw fr (jC ops k) undef) ((nC hps (qD O2 L js)).set i (.abs (aG (bS O2 L)))) Q)
    (hp:hps[i]?=some (.abs (aG (bS O L)))) (hj:uK hps O L js)
    (ho:∀ junk,CX Tryz.prog N junk ops fr k=some (⟨L.b x,j,none⟩,u))
    (hn:iZ 0 (js.map (·.2))=false) (h0:kd≠0) (hc:iL L x (f (obj O x))=(iL L x (obj O x)).set j u) (hu:u.oneCell'=true) (h9:j < (iL L x (obj O x)).length)
    (he:(f (obj O x)).ah=(obj O x).ah) (hd:(f (obj O x)).data=(obj O x).data) (CZ:(f (obj O x)).kind=(obj O x).kind):ak Tryz.prog β N ops k fr hps Q:=by
  obtain⟨T,a,y,h1,h2,h3,h4⟩:=Hf (ho (fun _=>undef))
  intro junk w hS
  obtain⟨T,a,y,h1,h2,h3,h4⟩:=Hf (ho junk)
  obtain⟨o,g1,g2,g3,g4⟩:=eG h1
  have hx0:(obj O x).kind≠0:=by rw [hk];exact h0
  have Hg:nC hps (qD (aN O x f) L js)=hps:=vQ (p:=0) (fun q hq=>by
    match q,hq with
    | 0,hq=>exact absurd rfl hq
    | 1,_=>exact congrArg (fun R=>HP.abs (aG R)) (zQ he CZ)
    | q+2,_=>exact congrArg (fun R=>HP.abs (aG R)) (zP hd CZ)) hj hn
  have hcell:∃ v0,(iL L x (obj O x))[j]?=some v0:=jb h9
  obtain⟨v0,hv0⟩:=hcell
  obtain⟨F,hF⟩:=hS.get hp
  obtain⟨G,hG⟩:=aG.at x hF
  have ql:=hG
  rw [lZ hx0] at ql
  obtain⟨hb,_⟩:=ql
  obtain⟨c1,c2⟩:=ia (a:=⟨L.b x,j,none⟩) hb rfl rfl hv0
  have vJ:Sat β (hps.set i (.abs (aG (bS (aN O x f) L)))) (w.setCell ⟨L.b x,j,none⟩ (u)):=hS.set hp (fun F hF=>aG.step (k:=x) (show (aG (bS O L)).h F w from hF) (fun y hy=>Cp hy) (fun G hG=>by
    rw [lZ hx0] at hG
    rw [zO,if_neg (by rw [CZ];exact hx0),hc,CZ]
    exact s5 hG rfl rfl))
  rw [drop_cons g1]
  unfold wpList
  rw [dO,if_pos g2]
  refine .inl (kF (v:=undef) (w':=w.setCell ⟨L.b x,j,none⟩ (u)) (by rw [dY];exact Np g3 h2 h3 h4 hu c1 c2 rfl) ?_)
  rw [dM]
  have hK:=K _ rfl junk _ (by rw [Hg];exact vJ)
  rw [← g4] at hK
  exact hK
theorem uL (i:Nat) (js:List (Nat×Nat)) (x j:Nat) (f:aY->aY) {kd:Int} (hk:(obj O x).kind=kd)
    (K:∀ O2,O2=aN O x f->ak Tryz.prog β N ops (k+1) (dw fr (jC ops k) undef) ((nC hps (qD O2 L js)).set i (.abs (aG (bS O2 L)))) Q)
    (hp:hps[i]?=some (.abs (aG (bS O L))):=by rfl) (hj:uK hps O L js:=by first|exact⟨rfl,trivial⟩|exact⟨rfl,rfl,trivial⟩|exact trivial)
    (ho:∀ junk,CX Tryz.prog N junk ops fr k=some (⟨L.b x,j,none⟩,(zM (f (obj O x))).getD j undef):=by intro _;kernel_rfl)
    (hn:iZ 0 (js.map (·.2))=false:=by rfl) (h0:kd≠0:=by decide) (hc:iL L x (f (obj O x))=(iL L x (obj O x)).set j ((zM (f (obj O x))).getD j undef):=by rfl) (hu:((zM (f (obj O x))).getD j undef).oneCell'=true:=by rfl) (h9:Nat.blt j 9=true:=by rfl)
    (he:(f (obj O x)).ah=(obj O x).ah:=by rfl) (hd:(f (obj O x)).data=(obj O x).data:=by rfl) (CZ:(f (obj O x)).kind=(obj O x).kind:=by rfl):ak Tryz.prog β N ops k fr hps Q:=
  Wd i js x j f _ hk K hp hj ho hn h0 hc hu (Nat.lt_of_lt_of_le (show j < 9 by simpa [Nat.blt_eq] using h9) (by unfold iL zM;simp)) he hd CZ
theorem Wf (i:Nat) (js:List (Nat×Nat)) (x:Nat) (y:Option Nat) (hk:(obj O x).kind=2)
    (K:∀ O2,O2=aN O x (fun o=>{ o with up:=y })->ak Tryz.prog β N ops (k+1) (dw fr (jC ops k) undef) ((nC hps (qD O2 L js)).set i (.abs (aG (bS O2 L)))) Q)
    (hp:hps[i]?=some (.abs (aG (bS O L))):=by rfl) (hj:uK hps O L js:=by first|exact⟨rfl,trivial⟩|exact⟨rfl,rfl,trivial⟩|exact trivial)
    (ho:∀ junk,CX Tryz.prog N junk ops fr k=some (⟨L.b x,10,none⟩,Ay L y):=by intro _;kernel_rfl) (hn:iZ 0 (js.map (·.2))=false:=by rfl):ak Tryz.prog β N ops k fr hps Q:=
  Wd i js x 10 (fun o=>{ o with up:=y }) (Ay L y) hk K hp hj ho hn (by decide) (by rw [ou (show ({ obj O x with up:=y }:aY).kind=2 from hk),ou hk];rfl) (by cases y<;>rfl) (by rw [ou hk];exact Nat.lt_succ_self 10) rfl rfl rfl
theorem Sat.Q7 {w:World} {i j:Nat} {f:aY->aY} {u:Value} (hS:Sat β hps w) (hp:hps[i]?=some (.abs (aG (bS O L)))) (hx0:(obj O x).kind≠0) (hc:iL L x (f (obj O x))=(iL L x (obj O x)).set j u) (CZ:(f (obj O x)).kind=(obj O x).kind) (h9:j < (iL L x (obj O x)).length) :
    Sat β (hps.set i (.abs (aG (bS (aN O x f) L)))) (w.setCell ⟨L.b x,j,none⟩ u)/\(∃ v0,w.cell? ⟨L.b x,j,none⟩=some v0)/\w.frozen? ⟨L.b x,j,none⟩=false:=by
  obtain⟨v0,hv0⟩:=jb h9
  obtain⟨F,hF⟩:=hS.get hp
  obtain⟨G,hG⟩:=aG.at x (show (aG (bS O L)).h F w from hF)
  rw [lZ hx0] at hG
  obtain⟨c1,c2⟩:=ia (a:=⟨L.b x,j,none⟩) hG.1 rfl rfl hv0
  refine⟨hS.set hp (fun F hF=>aG.step (k:=x) (show (aG (bS O L)).h F w from hF) (fun y hy=>Cp hy) (fun G hG=>?_)),⟨v0,c1⟩,c2⟩
  rw [lZ hx0] at hG
  rw [zO,if_neg (by rw [CZ];exact hx0),hc,CZ]
  exact s5 hG rfl rfl
def Hj (P:Program) (N:dG) (junk:Nat->Value) (ops:Array Oper) (fr:Fr) (k:Nat):Option (Addr×Value):=
  match fW N junk ops fr k with
  | some (.store T a y,_)=>match (P.info? T).map (·.size) with
    | some 2=>match dL N fr junk a with
      | .pointer (some ad)=>some (ad,dL N fr junk y)
      | _=>none
    | _=>none
  | _=>none
theorem Nq {P:Program} {junk:Nat->Value} {ad:Addr} {u:Value} (h:Hj P N junk ops fr k=some (ad,u)):∃ T a y,fW N junk ops fr k=some (.store T a y,jC ops k)/\(P.info? T).map (·.size)=some 2/\dL N fr junk a=.pointer (some ad)/\dL N fr junk y=u:=by
  unfold Hj at h
  repeat' split at h
  all_goals first|(cases h;done)|skip
  rename_i T a y d h0 _ h1 _ Ye h2
  cases h
  have:=vR h0
  subst this
  exact⟨T,a,y,h0,h1,h2,rfl⟩
theorem Lh {P:Program} {T:TypeId} {a y:Operand} {o:Oper} {ev:Operand->Value} {w:World} {b j:Nat} {z1 z2:Int} {v0 v1:Value} (ho:o.op=.store T a y) (hT:(P.info? T).map (·.size)=some 2) (ha:ev a=.pointer (some ⟨b,j,none⟩)) (hy:ev y=.agg #[.int .i64 z1,.int .i64 z2])
    (hc:w.cell? ⟨b,j,none⟩=some v0) (hf:w.frozen? ⟨b,j,none⟩=false) (hc1:(w.setCell ⟨b,j,none⟩ (.int .i64 z1)).cell? ⟨b,j+1,none⟩=some v1) (hf1:(w.setCell ⟨b,j,none⟩ (.int .i64 z1)).frozen? ⟨b,j+1,none⟩=false) :
    oP P ev o w undef ((w.setCell ⟨b,j,none⟩ (.int .i64 z1)).setCell ⟨b,j+1,none⟩ (.int .i64 z2)):=by
  obtain⟨inf,hi,hsz⟩:∃ inf,P.info? T=some inf/\inf.size=2:=by
    cases h:P.info? T with
    | none=>rw [h] at hT;cases hT
    | some inf=>rw [h] at hT;exact⟨inf,rfl,by simpa using hT⟩
  have h3:=oQ hi w
  rw [hsz] at h3
  obtain⟨dst,op,type,pos,after,guard⟩:=o
  cases ho
  refine .inr ⟨rfl,?_⟩
  simp only [execOp,ha,hy]
  simp [go_sem,Instr.storeAt,Instr.sureAddr,storeVar,h3,Value.cells,storeCells,store,Addr.add,Sem.run,hc,hf,hc1,hf1]
theorem Nr (i:Nat) (js:List (Nat×Nat)) (x:Nat) (z1 z2:Int) {kd:Int} (hk:(obj O x).kind=kd)
    (K:∀ O2,O2=aN O x (fun o=>{ o with sec:=z1,nano:=z2 })->ak Tryz.prog β N ops (k+1) (dw fr (jC ops k) undef) ((nC hps (qD O2 L js)).set i (.abs (aG (bS O2 L)))) Q)
    (hp:hps[i]?=some (.abs (aG (bS O L))):=by rfl) (hj:uK hps O L js:=by first|exact⟨rfl,trivial⟩|exact⟨rfl,rfl,trivial⟩|exact trivial)
    (ho:∀ junk,Hj Tryz.prog N junk ops fr k=some (⟨L.b x,4,none⟩,.agg #[.int .i64 z1,.int .i64 z2]):=by intro _;kernel_rfl)
    (hn:iZ 0 (js.map (·.2))=false:=by rfl) (h0:kd≠0:=by decide):ak Tryz.prog β N ops k fr hps Q:=by
  intro junk w hS
  obtain⟨T,a,y,h1,h2,h3,h4⟩:=Nq (ho junk)
  obtain⟨o,g1,g2,g3,g4⟩:=eG h1
  have hx0:(obj O x).kind≠0:=by rw [hk];exact h0
  have Hg:nC hps (qD (aN O x (fun o=>{ o with sec:=z1,nano:=z2 })) L js)=hps:=vQ (p:=0) (fun q hq=>by
    match q,hq with
    | 0,hq=>exact absurd rfl hq
    | 1,_=>exact congrArg (fun R=>HP.abs (aG R)) (zQ rfl rfl)
    | q+2,_=>exact congrArg (fun R=>HP.abs (aG R)) (zP rfl rfl)) hj hn
  have hlen:∀ o:aY,9<=(iL L x o).length:=fun o=>by unfold iL zM;simp
  obtain⟨s1,⟨v0,c1⟩,f1⟩:=hS.Q7 (x:=x) (j:=4) (f:=fun o=>{ o with sec:=z1 }) (u:=.int .i64 z1) hp hx0 rfl rfl (by have:=hlen (obj O x);omega)
  have hi:i < hps.length:=bw hp
  have e1:obj (aN O x (fun o=>{ o with sec:=z1 })) x={ obj O x with sec:=z1 }:=cA
  obtain⟨s2,⟨v1,c2⟩,f2⟩:=s1.Q7 (x:=x) (j:=5) (f:=fun o=>{ o with nano:=z2 }) (u:=.int .i64 z2) (i:=i) (O:=aN O x (fun o=>{ o with sec:=z1 })) (by rw [List.getElem?_set,if_pos rfl,if_pos hi]) (by rw [e1];exact hx0) rfl rfl (by have:=hlen (obj (aN O x (fun o=>{ o with sec:=z1 })) x);omega)
  rw [List.set_set,yw] at s2
  rw [drop_cons g1]
  unfold wpList
  rw [dO,if_pos g2]
  refine .inl (kF (v:=undef) (w':=_) (by rw [dY];exact Lh g3 h2 h3 h4 c1 f1 c2 f2) ?_)
  rw [dM]
  have hK:=K _ rfl junk _ (by rw [Hg];exact s2)
  rw [← g4] at hK
  exact hK
theorem Ac {w:World} {i:Nat} (hS:Sat β hps w) (hp:hps[i]?=some (.abs (aG (cY O L)))) (hd:(obj O x).kind=2):gA Tryz.prog 9 w (L.m x) (jm L (obj O x).ah) (obj O x).ah.length:=by
  obtain⟨F,hF⟩:=hS.get hp
  obtain⟨G,hG⟩:=aG.at x (show (aG (cY O L)).h F w from hF)
  rw [oW hd] at hG
  exact hG.1
theorem J3 {w:World} {i:Nat} {o:Oper} {ev:Operand->Value} {a y:Operand} (hS:Sat β hps w) (hp:hps[i]?=some (.abs (aG (cY O L)))) (hd:(obj O x).kind=2) (hl:aT name (obj O x).ah=r) (h3:o.op=.lookup 174 a y false) (ha:ev a=.map (some (L.m x))) (hy:ev y=.string name) (hsz:name.size<=1048576):oP Tryz.prog ev o w (He L r) w:=by
  have h:=wj (z:=.nilIface) h3 (Ac hS hp hd) ha hy Bx Tryz.underlying174 (by kernel_rfl) (DU (by omega))
  rw [sS,hl] at h
  cases r<;>exact h
theorem jg (i:Nat) (hd:(obj O x).kind=2) (hl:aT name (obj O x).ah=r) (K:ak Tryz.prog β N ops (k+1) (dw fr (jC ops k) (He L r)) hps Q) (hp:hps[i]?=some (.abs (aG (cY O L))):=by rfl)
    (ho:∀ junk,CY N junk ops fr k=some (174,L.m x,.string name):=by intro _;kernel_rfl) (hsz:name.size<=1048576:=by omega):ak Tryz.prog β N ops k fr hps Q:=by
  intro junk w hS
  obtain⟨a,y,h1,h2,h3⟩:=oZ (ho junk)
  exact ak.jH (dm:=hps) (v:=He L r) (d:=jC ops k) (op:=.lookup 174 a y false) (fun j=>by
    obtain⟨a',y',h1',_,_⟩:=oZ (ho j)
    obtain⟨o,g1,g2,g3,g4⟩:=eG h1
    obtain⟨o',rO,Ns,tP,Nt⟩:=eG h1'
    rw [g1] at rO
    cases rO
    rw [g3] at tP
    cases tP
    exact h1') (fun o junk w ho' hS=>by
    obtain⟨a',y',h1',h2',h3'⟩:=oZ (ho junk)
    obtain⟨o1,g1,g2,g3,g4⟩:=eG h1
    obtain⟨o',rO,Ns,tP,Nt⟩:=eG h1'
    rw [g1] at rO
    cases rO
    rw [g3] at tP
    cases tP
    exact⟨w,J3 hS hp hd hl ho' h2' h3' hsz,hS⟩) K junk w hS
theorem Q8 (i:Nat) (hd:(obj O x).kind=2) (hl:aT name (obj O x).ah=r) (K:aU Tryz.prog β N ops (k+1) (dw fr (jC ops k) (He L r)) hps Q) (hp:hps[i]?=some (.abs (aG (cY O L))):=by rfl)
    (ho:∀ junk,CY N junk ops fr k=some (174,L.m x,.string name):=by intro _;kernel_rfl) (hsz:name.size<=1048576:=by omega):aU Tryz.prog β N ops k fr hps Q:=by
  intro junk
  obtain⟨a,y,h1,h2,h3⟩:=oZ (ho junk)
  exact aU.jH (v:=He L r) (d:=jC ops k) (op:=.lookup 174 a y false) (fun j=>by
    obtain⟨a',y',h1',_,_⟩:=oZ (ho j)
    obtain⟨o,g1,g2,g3,g4⟩:=eG h1
    obtain⟨o',rO,Ns,tP,Nt⟩:=eG h1'
    rw [g1] at rO
    cases rO
    rw [g3] at tP
    cases tP
    exact h1') (fun o junk w ho' hS=>by
    obtain⟨a',y',h1',h2',h3'⟩:=oZ (ho junk)
    obtain⟨o1,g1,g2,g3,g4⟩:=eG h1
    obtain⟨o',rO,Ns,tP,Nt⟩:=eG h1'
    rw [g1] at rO
    cases rO
    rw [g3] at tP
    cases tP
    exact J3 hS hp hd hl ho' h2' h3' hsz) K junk
def Li (N:dG) (junk:Nat->Value) (ops:Array Oper) (fr:Fr) (k:Nat):Option (TypeId×Nat):=
  match fW N junk ops fr k with
  | some (.call ⟨.builtin .len,xs,ts⟩,_)=>match xs.toList with
    | [x]=>match ts.toList with
      | [t]=>match dL N fr junk x with
        | .map (some b)=>some (t,b)
        | _=>none
      | _=>none
    | _=>none
  | _=>none
theorem BN {junk:Nat->Value} {T:TypeId} {b:Nat} (h:Li N junk ops fr k=some (T,b)):∃ a,fW N junk ops fr k=some (.call ⟨.builtin .len,#[a],#[T]⟩,jC ops k)/\dL N fr junk a=.map (some b):=by
  unfold Li at h
  repeat' split at h
  all_goals first|(cases h;done)|skip
  rename_i xs ts d h0 _ a h1 _ t' h2 _ b' h3
  cases h
  have:=vR h0
  subst this
  refine⟨a,?_,h3⟩
  rw [h0]
  obtain⟨xs⟩:=xs
  obtain⟨ts⟩:=ts
  cases h1
  cases h2
  rfl
theorem Yf (i:Nat) (hd:(obj O x).kind=2) (K:ak Tryz.prog β N ops (k+1) (dw fr (jC ops k) (.int .i64 (((obj O x).ah.length:Nat):Int))) hps Q) (hp:hps[i]?=some (.abs (aG (cY O L))):=by rfl)
    (ho:∀ junk,Li N junk ops fr k=some (174,L.m x):=by intro _;kernel_rfl):ak Tryz.prog β N ops k fr hps Q:=by
  obtain⟨a,h1,h2⟩:=BN (ho (fun _=>undef))
  obtain⟨o,g1,g2,g3,g4⟩:=eG h1
  refine ak.jH (dm:=hps) (v:=.int .i64 (((obj O x).ah.length:Nat):Int)) (d:=jC ops k) (op:=o.op) (fun j=>?_) (fun o' junk w ho' hS=>?_) K
  ·obtain⟨a',h1',_⟩:=BN (ho j)
   obtain⟨o',rO,Ns,tP,Nt⟩:=eG h1'
   rw [g1] at rO
   cases rO
   rw [tP]
   exact h1'
  obtain⟨a',h1',h2'⟩:=BN (ho junk)
  obtain⟨o1,rO,Ns,tP,Nt⟩:=eG h1'
  rw [g1] at rO
  cases rO
  exact⟨w,zH (ho'.trans tP) rfl (Ac hS hp hd) h2' Tryz.underlying174,hS⟩
theorem Ud (i:Nat) (js:List (Nat×Nat)) {t:Th} (hd:(obj O x).kind=2) (hno:aT name (obj O x).ah=none)
    (K:∀ O2,O2=aN O x (fun o=>{ o with ah:=iA name t o.ah })->ak Tryz.prog β N ops (k+1) (dw fr (jC ops k) undef) ((nC hps (qD O2 L js)).set i (.abs (aG (cY O2 L)))) Q)
    (hp:hps[i]?=some (.abs (aG (cY O L))):=by rfl) (hj:uK hps O L js:=by first|exact⟨rfl,trivial⟩|exact⟨rfl,rfl,trivial⟩|exact trivial)
    (ho:∀ junk,setAt N junk ops fr k=some (174,L.m x,.string name,eu L t):=by intro _;kernel_rfl) (hn:iZ 1 (js.map (·.2))=false:=by rfl) (hsz:name.size<=1048576:=by omega) (hel:(obj O x).ah.length<=1048576:=by omega):ak Tryz.prog β N ops k fr hps Q:=by
  intro junk w hS
  obtain⟨a,y,z,h1,h2,h3,h4⟩:=P5 (ho junk)
  obtain⟨o,g1,g2,g3,g4⟩:=eG h1
  have Hg:nC hps (qD (aN O x (fun o=>{ o with ah:=iA name t o.ah })) L js)=hps:=vQ (p:=1) (fun q hq=>by
    match q,hq with
    | 0,_=>exact congrArg (fun R=>HP.abs (aG R)) (Gs (es:=fun o=>iA name t o.ah))
    | 1,hq=>exact absurd rfl hq
    | q+2,_=>exact congrArg (fun R=>HP.abs (aG R)) (zP rfl rfl)) hj hn
  obtain⟨w',m1,m2,m3⟩:=(Ac hS hp hd).store Bx Tryz.underlying174 (by unfold maxLen;omega) (DU (p:=name) (by omega)) (eu L t)
  have e1:(jm L (obj O x).ah) (.string name.data.toList)=none:=by rw [sS,hno];rfl
  rw [e1,Pa hno] at m2
  have vJ:Sat β (hps.set i (.abs (aG (cY (aN O x (fun o=>{ o with ah:=iA name t o.ah })) L)))) w':=hS.set hp (fun F hF=>aG.step (k:=x) (show (aG (cY O L)).h F w from hF) (fun y hy=>Cq hy) (fun G hG=>by
    rw [oW hd] at hG
    rw [oW (by rw [cA];exact hd),cA,Gq]
    exact step_map hG m2 m3))
  rw [drop_cons g1]
  unfold wpList
  rw [dO,if_pos g2]
  refine .inl (kF (v:=undef) (w':=w') (by
    rw [dY]
    refine .inr ⟨rfl,?_⟩
    obtain⟨dst,op,type,pos,after,guard⟩:=o
    cases g3
    simp only [execOp,h2,h3,h4]
    simp [go_sem,m1]) ?_)
  rw [dM]
  have hK:=K _ rfl junk _ (by rw [Hg];exact vJ)
  rw [← g4] at hK
  exact hK
theorem P6 {junk:Nat->Value} {T K0:TypeId} {b:Nat} {key:Value} (h:Lg N junk ops fr k=some (T,K0,b,key)):∃ a y,fW N junk ops fr k=some (.call ⟨.builtin .delete,#[a,y],#[T,K0]⟩,jC ops k)/\dL N fr junk a=.map (some b)/\dL N fr junk y=key:=by
  unfold Lg at h
  repeat' split at h
  all_goals first|(cases h;done)|skip
  rename_i xs ts d h0 _ a y h1 _ t' K' h2 _ b' h3
  cases h
  have:=vR h0
  subst this
  refine⟨a,y,?_,h3,rfl⟩
  rw [h0]
  obtain⟨xs⟩:=xs
  obtain⟨ts⟩:=ts
  cases h1
  cases h2
  rfl
theorem Ue (i:Nat) (js:List (Nat×Nat)) {t:Th} (hd:(obj O x).kind=2) (wT:aT name (obj O x).ah=some t) (hnt:oV (obj O x).ah)
    (K:∀ O2,O2=aN O x (fun o=>{ o with ah:=iB name o.ah })->ak Tryz.prog β N ops (k+1) (dw fr (jC ops k) (.tuple #[])) ((nC hps (qD O2 L js)).set i (.abs (aG (cY O2 L)))) Q)
    (hp:hps[i]?=some (.abs (aG (cY O L))):=by rfl) (hj:uK hps O L js:=by first|exact⟨rfl,trivial⟩|exact⟨rfl,rfl,trivial⟩|exact trivial)
    (ho:∀ junk,Lg N junk ops fr k=some (174,9,L.m x,.string name):=by intro _;kernel_rfl) (hn:iZ 1 (js.map (·.2))=false:=by rfl) (hsz:name.size<=1048576:=by omega):ak Tryz.prog β N ops k fr hps Q:=by
  intro junk w hS
  obtain⟨a,y,h1,h2,h3⟩:=P6 (ho junk)
  obtain⟨o,g1,g2,g3,g4⟩:=eG h1
  have Hg:nC hps (qD (aN O x (fun o=>{ o with ah:=iB name o.ah })) L js)=hps:=vQ (p:=1) (fun q hq=>by
    match q,hq with
    | 0,_=>exact congrArg (fun R=>HP.abs (aG R)) (Gs (es:=fun o=>iB name o.ah))
    | 1,hq=>exact absurd rfl hq
    | q+2,_=>exact congrArg (fun R=>HP.abs (aG R)) (zP rfl rfl)) hj hn
  obtain⟨w',m1,m2,m3⟩:=(Ac hS hp hd).drop Bx Tryz.underlying174 (DU (p:=name) (by omega)) o.type
  have e1:(jm L (obj O x).ah) (.string name.data.toList)=some (eu L t):=by rw [sS,wT];rfl
  rw [e1,Pb] at m2
  have hlen:=O7 hnt wT
  have vJ:Sat β (hps.set i (.abs (aG (cY (aN O x (fun o=>{ o with ah:=iB name o.ah })) L)))) w':=hS.set hp (fun F hF=>aG.step (k:=x) (show (aG (cY O L)).h F w from hF) (fun y hy=>Cq hy) (fun G hG=>by
    rw [oW hd] at hG
    rw [oW (by rw [cA];exact hd),cA]
    rw [show (iB name (obj O x).ah).length=(obj O x).ah.length - 1 by omega]
    exact step_map hG m2 m3))
  rw [drop_cons g1]
  unfold wpList
  rw [dO,if_pos g2]
  refine .inl (kF (v:=.tuple #[]) (w':=w') (by
    rw [dY]
    refine .inl ?_
    obtain⟨dst,op,type,pos,after,guard⟩:=o
    cases g3
    simp only [execOp,resolve,invoke,builtin]
    simp [go_sem,h2,h3,m1]) ?_)
  rw [dM]
  have hK:=K _ rfl junk _ (by rw [Hg];exact vJ)
  rw [← g4] at hK
  exact hK
end rules
section after
variable {O O2:bU} {j x:Nat} {f:aY->aY} {kd:Int}
theorem ku (e:O2=aN O j f) (h:(obj O x).kind=kd) (hf:∀ o,(f o).kind=o.kind:=by intro _;rfl):(obj O2 x).kind=kd:=by subst e;exact (oq hf).trans h
theorem fu {α:Type} (g:aY->α) {v:α} (e:O2=aN O j f) (h:g (obj O x)=v) (hf:∀ o,g (f o)=g o:=by intro _;rfl):g (obj O2 x)=v:=by subst e;exact (dH hf).trans h
end after
end
section
open Go.RowKit Go.Maps
attribute [local irreducible] ak aU af aj
theorem dN {β:Bs} (b:Nat):Spec Tryz.prog β 244 #[vP b] [] (fun v l=>v=vP b/\l=[]):=by
 refine Spec.enter Tryz.func244 rfl Tryz.ntmps244 (Nat.le_of_ble_eq_true rfl) (fun R=>?_)
 refine SR (gK 1 [] [] ?_)
 refine NS (gK 2 [(2,vP b)] [] ?_)
 refine NN (af.ret ?_)
 exact RT (vP b) [0] (⟨rfl,rfl⟩)
theorem qE {β:Bs} (a:Value):Spec Tryz.prog β 245 #[a] [] (fun v l=>v=vI 1/\l=[]):=by
 refine Spec.enter Tryz.func245 rfl Tryz.ntmps245 (Nat.le_of_ble_eq_true rfl) (fun R=>?_)
 refine SR (gK 1 [] [] ?_)
 refine NS (gK 1 [(2,vI 1)] [] ?_)
 refine NN (af.ret ?_)
 exact RT (vI 1) [0] (⟨rfl,rfl⟩)
theorem qF {β:Bs} (a:Value):Spec Tryz.prog β 247 #[a] [] (fun v l=>v=vI 2/\l=[]):=by
 refine Spec.enter Tryz.func247 rfl Tryz.ntmps247 (Nat.le_of_ble_eq_true rfl) (fun R=>?_)
 refine SR (gK 1 [] [] ?_)
 refine NS (gK 1 [(2,vI 2)] [] ?_)
 refine NN (af.ret ?_)
 exact RT (vI 2) [0] (⟨rfl,rfl⟩)
theorem qG {β:Bs} (a:Value):Spec Tryz.prog β 246 #[a] [] (fun v l=>v=vI 3/\l=[]):=by
 refine Spec.enter Tryz.func246 rfl Tryz.ntmps246 (Nat.le_of_ble_eq_true rfl) (fun R=>?_)
 refine SR (gK 1 [] [] ?_)
 refine NS (gK 1 [(2,vI 3)] [] ?_)
 refine NN (af.ret ?_)
 exact RT (vI 3) [0] (⟨rfl,rfl⟩)
theorem J4 {β:Bs} (O:bU) (L:HL) (d:Nat) (hkd:(obj O d).kind=2) (name:ByteArray) (hsz:name.size<=1048576) (hno:aT name (obj O d).ah=none) (hel:(obj O d).ah.length<=1048576) (t:Th) (hkt:(obj O t.k).kind=t.kind) (h3:t.kind=1\/t.kind=2\/t.kind=3) (hb:0<=(obj O t.k).links/\(obj O t.k).links<=1048576) :
    Spec Tryz.prog β 78 #[vP (L.b d),.string name,(eu L t)] [.abs (aG (bS O L)),.abs (aG (cY O L))] (fun v l=>v=.tuple #[]/\l=[.abs (aG (bS (pQ O d name t) L)),.abs (aG (cY (pQ O d name t) L))]):=by
 refine Spec.enter Tryz.func78 rfl Tryz.ntmps78 (Nat.le_of_ble_eq_true rfl) (fun R=>?_)
 refine af.seq ?_
 obtain⟨tk,kd⟩:=t;simp only at hkt h3;rcases h3 with rfl|rfl|rfl
 ·replace hkt:(obj O tk).kind=1:=hkt
  replace hb:0<=(obj O tk).links/\(obj O tk).links<=1048576:=hb
  refine af.region (gK 6 [(11,.map (some (L.m d))),(12,.string name),(13,.iface 162 (vP (L.b tk)))] [(3,v_ 0 (bQ L hkd))] ?_)
  refine Ud 1 [(0,0)] (t:=⟨tk,1⟩) hkd hno (fun ez cT=>?_)
  have lE:=ku cT hkd
  have oF:=ku cT hkt
  have hf3:(obj ez tk).links=(obj O tk).links:=fu aY.links cT rfl
  refine NS (gK 1 [(14,.iface 162 (vP (L.b tk)))] [] ?_)
  refine gL [] (dN (L.b tk)) ?_
  rintro _ _ ⟨rfl,rfl⟩
  refine gK 6 [(19,vI ((obj ez tk).links+1)),(21,.pointer (some ⟨(L.b tk),6,none⟩))] [(2,v_ 0 (nL L oF)),(3,p_ ⟨[],none,none,none,some (vI ((obj ez tk).links+1))⟩ [(Value.int .i64 (IntKind.wrap .i64 ((obj ez tk).links+1)))=(.int .i64 ((obj ez tk).links+1))] ⟨bC (by omega) (by omega) (by omega),trivial⟩)] ?_
  refine uL 0 [(1,1)] tk 6 (fun o=>{ o with links:=o.links+1 }) oF (fun eZ dK=>?_)
  have yZ:=ku dK lE
  have Lj:=ku dK oF
  refine NS (gK 7 [(6,.pointer none),(7,.bool false)] [] ?_)
  refine NS (gK 1 [(27,.bool false)] [] ?_)
  refine NN (CF (af.skip ?_))
  exact RF (l:=[.abs (aG (bS eZ L)),.abs (aG (cY eZ L))]) (.tuple #[]) [0,1,2] (⟨rfl,by subst dK;subst cT;rfl⟩)
 ·replace hkt:(obj O tk).kind=2:=hkt
  replace hb:0<=(obj O tk).links/\(obj O tk).links<=1048576:=hb
  refine af.region (gK 6 [(11,.map (some (L.m d))),(12,.string name),(13,.iface 169 (vP (L.b tk)))] [(3,v_ 0 (bQ L hkd))] ?_)
  refine Ud 1 [(0,0)] (t:=⟨tk,2⟩) hkd hno (fun ez cT=>?_)
  have Uf:=ku cT hkd
  have Ll:=ku cT hkt
  have ZE:(obj ez tk).links=(obj O tk).links:=fu aY.links cT rfl
  refine NS (gK 1 [(14,.iface 169 (vP (L.b tk)))] [] ?_)
  refine gL [] (dN (L.b tk)) ?_
  rintro _ _ ⟨rfl,rfl⟩
  refine gK 6 [(19,vI ((obj ez tk).links+1)),(21,.pointer (some ⟨(L.b tk),6,none⟩))] [(2,v_ 0 (nL L Ll)),(3,p_ ⟨[],none,none,none,some (vI ((obj ez tk).links+1))⟩ [(Value.int .i64 (IntKind.wrap .i64 ((obj ez tk).links+1)))=(.int .i64 ((obj ez tk).links+1))] ⟨bC (by omega) (by omega) (by omega),trivial⟩)] ?_
  refine uL 0 [(1,1)] tk 6 (fun o=>{ o with links:=o.links+1 }) Ll (fun eZ dK=>?_)
  have Ef:=ku dK Uf
  have Lm:=ku dK Ll
  refine NS (gK 7 [(6,vP (L.b tk)),(7,.bool true)] [] ?_)
  refine NS (gK 1 [(27,.bool true)] [] ?_)
  refine NN (CT (af.region (gK 4 [(29,vP (L.b d)),(31,.pointer (some ⟨(L.b tk),10,none⟩))] [] ?_)))
  refine Wf 0 [(1,1)] tk (some d) Lm (fun y4 oG=>?_)
  have Q9:=ku oG Ef
  have YR:=ku oG Lm
  refine NL ?_
  exact RF (l:=[.abs (aG (bS y4 L)),.abs (aG (cY y4 L))]) (.tuple #[]) [0,1,2] (⟨rfl,by subst oG;subst dK;subst cT;rfl⟩)
 replace hkt:(obj O tk).kind=3:=hkt
 replace hb:0<=(obj O tk).links/\(obj O tk).links<=1048576:=hb
 refine af.region (gK 6 [(11,.map (some (L.m d))),(12,.string name),(13,.iface 166 (vP (L.b tk)))] [(3,v_ 0 (bQ L hkd))] ?_)
 refine Ud 1 [(0,0)] (t:=⟨tk,3⟩) hkd hno (fun ez cT=>?_)
 have VD:=ku cT hkd
 have Ln:=ku cT hkt
 have Zc:(obj ez tk).links=(obj O tk).links:=fu aY.links cT rfl
 refine NS (gK 1 [(14,.iface 166 (vP (L.b tk)))] [] ?_)
 refine gL [] (dN (L.b tk)) ?_
 rintro _ _ ⟨rfl,rfl⟩
 refine gK 6 [(19,vI ((obj ez tk).links+1)),(21,.pointer (some ⟨(L.b tk),6,none⟩))] [(2,v_ 0 (nL L Ln)),(3,p_ ⟨[],none,none,none,some (vI ((obj ez tk).links+1))⟩ [(Value.int .i64 (IntKind.wrap .i64 ((obj ez tk).links+1)))=(.int .i64 ((obj ez tk).links+1))] ⟨bC (by omega) (by omega) (by omega),trivial⟩)] ?_
 refine uL 0 [(1,1)] tk 6 (fun o=>{ o with links:=o.links+1 }) Ln (fun eZ dK=>?_)
 have C0:=ku dK VD
 have VE:=ku dK Ln
 refine NS (gK 7 [(6,.pointer none),(7,.bool false)] [] ?_)
 refine NS (gK 1 [(27,.bool false)] [] ?_)
 refine NN (CF (af.skip ?_))
 exact RF (l:=[.abs (aG (bS eZ L)),.abs (aG (cY eZ L))]) (.tuple #[]) [0,1,2] (⟨rfl,by subst dK;subst cT;rfl⟩)
theorem jZ {β:Bs} (X:FM) (f m t:Nat) (hX:0<=X.ah/\X.ah<=1048576/\-1125899906842624<=X.used/\X.used<=1125899906842624/\0<=X.last/\X.last<=1125899906842624) (O:bU) (L:HL) (d:Nat) (hkd:(obj O d).kind=2) (name:ByteArray) (hsz:name.size<=1048576) (hno:aT name (obj O d).ah=none) (hel:(obj O d).ah.length<=1048576) (th:Th) (hkt:(obj O th.k).kind=th.kind) (h3:th.kind=1\/th.kind=2\/th.kind=3) (hb:0<=(obj O th.k).links/\(obj O th.k).links<=1048576) :
    Spec Tryz.prog β 196 #[vP f,vP (L.b d),.string name,(eu L th)] [.blk f [vI (X.cN),vI (X.cB),vI (X.cH),vI (X.cS),vI (X.cZ),.map (some m),vP t,vI (X.last),vI (X.ah),vI (X.used)] 154,.abs (aG (bS O L)),.abs (aG (cY O L))] (fun v l=>v=.tuple #[]/\l=[.blk f [vI (X.cN),vI (X.cB),vI (X.cH),vI (X.cS),vI (X.cZ),.map (some m),vP t,vI (X.last),vI (X.ah+1),vI (X.used)] 154,.abs (aG (bS (dX X O d name th) L)),.abs (aG (cY (dX X O d name th) L))]):=by
 refine Spec.enter Tryz.func196 rfl Tryz.ntmps196 (Nat.le_of_ble_eq_true rfl) (fun R=>?_)
 refine af.seq ?_
 skip
 refine af.region (gK 3 [(8,vP (L.b d)),(9,.string name),(10,(eu L th))] [] ?_)
 refine gL [1,2] (J4 O L d hkd name hsz hno hel th hkt h3 hb) ?_
 rintro _ _ ⟨rfl,rfl⟩
 refine NS ?_
 have C2:(obj (pQ O d name th) d).kind=2:=(yC).trans (hkd)
 generalize cT:(pQ O d name th)=ez at C2 ⊢
 refine gK 9 [(17,.agg #[vI (X.cS),vI (X.cZ)]),(20,.pointer (some ⟨(L.b d),4,none⟩))] [(5,A_ 2 f 2)] ?_
 refine Nr 0 [(1,1)] d X.cS X.cZ C2 (fun eZ dK=>?_)
 have YS:=ku dK C2
 refine NN (af.region (gC 8 [] [(3,a_ 2 f),(4,p_ ⟨[],none,none,none,some (vI (X.ah+1))⟩ [(Value.int .i64 (IntKind.wrap .i64 (X.ah+1)))=(.int .i64 (X.ah+1))] ⟨bC (by omega) (by omega) (by omega),trivial⟩),(7,a_ 2 f)] [(2,[(8,vI (X.ah+1))])] ?_))
 refine NL ?_
 exact RF (l:=[.blk f [vI (X.cN),vI (X.cB),vI (X.cH),vI (X.cS),vI (X.cZ),.map (some m),vP t,vI (X.last),vI (X.ah+1),vI (X.used)] 154,.abs (aG (bS eZ L)),.abs (aG (cY eZ L))]) (.tuple #[]) [2,0,1,3] (⟨rfl,by subst dK;subst cT;rfl⟩)
theorem j3 {β:Bs} (X:FM) (f m t:Nat) (hX:0<=X.ah/\X.ah<=1048576/\-1125899906842624<=X.used/\X.used<=1125899906842624/\0<=X.last/\X.last<=1125899906842624) (O:bU) (L:HL) (d:Nat) (hkd:(obj O d).kind=2) (name:ByteArray) (hsz:name.size<=1048576) (th:Th) (hkt:(obj O th.k).kind=th.kind) (h3:th.kind=1\/th.kind=2\/th.kind=3) (wT:aT name (obj O d).ah=some th) (hnt:oV (obj O d).ah) (_:(obj O d).ah.length<=1048576) (hb:0<=(obj O th.k).links/\(obj O th.k).links<=1048576) :
    Spec Tryz.prog β 210 #[vP f,vP (L.b d),.string name] [.blk f [vI (X.cN),vI (X.cB),vI (X.cH),vI (X.cS),vI (X.cZ),.map (some m),vP t,vI (X.last),vI (X.ah),vI (X.used)] 154,.abs (aG (bS O L)),.abs (aG (cY O L))] (fun v l=>v=eu L th/\l=[.blk f [vI (X.cN),vI (X.cB),vI (X.cH),vI (X.cS),vI (X.cZ),.map (some m),vP t,vI (X.last),vI (X.ah - 1),vI (X.used)] 154,.abs (aG (bS (aR X O d name th) L)),.abs (aG (cY (aR X O d name th) L))]):=by
 refine Spec.enter Tryz.func210 rfl Tryz.ntmps210 (Nat.le_of_ble_eq_true rfl) (fun R=>?_)
 refine af.seq ?_
 obtain⟨tk,kd⟩:=th;simp only at hkt h3;rcases h3 with rfl|rfl|rfl
 ·replace hkt:(obj O tk).kind=1:=hkt
  replace hb:0<=(obj O tk).links/\(obj O tk).links<=1048576:=hb
  refine af.region (gK 1 [] [] ?_)
  refine NS (gK 5 [(11,.map (some (L.m d))),(12,.string name)] [(3,v_ 1 (bQ L hkd))] ?_)
  refine jg 2 hkd wT ?_
  refine gK 1 [(7,.iface 162 (vP (L.b tk)))] [] ?_
  refine NS (gK 5 [(17,.map (some (L.m d))),(18,.string name)] [(3,v_ 1 (bQ L hkd))] ?_)
  refine Ue 2 [(1,0)] hkd wT hnt (fun ez cT=>?_)
  have Ra:=ku cT hkd
  have VF:=ku cT hkt
  have Xm:(obj ez tk).links=(obj O tk).links:=fu aY.links cT rfl
  refine NS (gK 9 [(24,.agg #[vI (X.cS),vI (X.cZ)]),(27,.pointer (some ⟨(L.b d),4,none⟩))] [(5,A_ 0 f 2)] ?_)
  refine Nr 1 [(2,1)] d X.cS X.cZ Ra (fun eZ dK=>?_)
  have Rb:=ku dK Ra
  have FN:=ku dK VF
  have Zd:(obj eZ tk).links=(obj O tk).links:=fu aY.links dK Xm
  refine NS (gC 8 [] [(3,a_ 0 f),(4,p_ ⟨[],none,none,none,some (vI (X.ah - 1))⟩ [(Value.int .i64 (IntKind.wrap .i64 (X.ah - 1)))=(.int .i64 (X.ah - 1))] ⟨bC (by omega) (by omega) (by omega),trivial⟩),(7,a_ 0 f)] [(0,[(8,vI (X.ah - 1))])] ?_)
  refine NS (gK 1 [(35,.iface 162 (vP (L.b tk)))] [] ?_)
  refine gL [] (dN (L.b tk)) ?_
  rintro _ _ ⟨rfl,rfl⟩
  refine gK 6 [(40,vI ((obj eZ tk).links - 1)),(42,.pointer (some ⟨(L.b tk),6,none⟩))] [(2,v_ 1 (nL L FN)),(3,p_ ⟨[],none,none,none,some (vI ((obj eZ tk).links - 1))⟩ [(Value.int .i64 (IntKind.wrap .i64 ((obj eZ tk).links - 1)))=(.int .i64 ((obj eZ tk).links - 1))] ⟨bC (by omega) (by omega) (by omega),trivial⟩)] ?_
  refine uL 1 [(2,1)] tk 6 (fun o=>{ o with links:=o.links - 1 }) FN (fun y4 oG=>?_)
  have YT:=ku oG Rb
  have YU:=ku oG FN
  refine NS (gK 2 [(6,.iface 162 (vP (L.b tk)))] [] ?_)
  refine NN (af.ret ?_)
  exact RT (l:=[.blk f [vI (X.cN),vI (X.cB),vI (X.cH),vI (X.cS),vI (X.cZ),.map (some m),vP t,vI (X.last),vI (X.ah - 1),vI (X.used)] 154,.abs (aG (bS y4 L)),.abs (aG (cY y4 L))]) (.iface 162 (vP (L.b tk))) [0,1,2,3] (⟨rfl,by subst oG;subst dK;subst cT;rfl⟩)
 ·replace hkt:(obj O tk).kind=2:=hkt
  replace hb:0<=(obj O tk).links/\(obj O tk).links<=1048576:=hb
  refine af.region (gK 1 [] [] ?_)
  refine NS (gK 5 [(11,.map (some (L.m d))),(12,.string name)] [(3,v_ 1 (bQ L hkd))] ?_)
  refine jg 2 hkd wT ?_
  refine gK 1 [(7,.iface 169 (vP (L.b tk)))] [] ?_
  refine NS (gK 5 [(17,.map (some (L.m d))),(18,.string name)] [(3,v_ 1 (bQ L hkd))] ?_)
  refine Ue 2 [(1,0)] hkd wT hnt (fun ez cT=>?_)
  have Rc:=ku cT hkd
  have VG:=ku cT hkt
  have Xn:(obj ez tk).links=(obj O tk).links:=fu aY.links cT rfl
  refine NS (gK 9 [(24,.agg #[vI (X.cS),vI (X.cZ)]),(27,.pointer (some ⟨(L.b d),4,none⟩))] [(5,A_ 0 f 2)] ?_)
  refine Nr 1 [(2,1)] d X.cS X.cZ Rc (fun eZ dK=>?_)
  have VH:=ku dK Rc
  have Lp:=ku dK VG
  have Ze:(obj eZ tk).links=(obj O tk).links:=fu aY.links dK Xn
  refine NS (gC 8 [] [(3,a_ 0 f),(4,p_ ⟨[],none,none,none,some (vI (X.ah - 1))⟩ [(Value.int .i64 (IntKind.wrap .i64 (X.ah - 1)))=(.int .i64 (X.ah - 1))] ⟨bC (by omega) (by omega) (by omega),trivial⟩),(7,a_ 0 f)] [(0,[(8,vI (X.ah - 1))])] ?_)
  refine NS (gK 1 [(35,.iface 169 (vP (L.b tk)))] [] ?_)
  refine gL [] (dN (L.b tk)) ?_
  rintro _ _ ⟨rfl,rfl⟩
  refine gK 6 [(40,vI ((obj eZ tk).links - 1)),(42,.pointer (some ⟨(L.b tk),6,none⟩))] [(2,v_ 1 (nL L Lp)),(3,p_ ⟨[],none,none,none,some (vI ((obj eZ tk).links - 1))⟩ [(Value.int .i64 (IntKind.wrap .i64 ((obj eZ tk).links - 1)))=(.int .i64 ((obj eZ tk).links - 1))] ⟨bC (by omega) (by omega) (by omega),trivial⟩)] ?_
  refine uL 1 [(2,1)] tk 6 (fun o=>{ o with links:=o.links - 1 }) Lp (fun y4 oG=>?_)
  have YV:=ku oG VH
  have YW:=ku oG Lp
  refine NS (gK 2 [(6,.iface 169 (vP (L.b tk)))] [] ?_)
  refine NN (af.ret ?_)
  exact RT (l:=[.blk f [vI (X.cN),vI (X.cB),vI (X.cH),vI (X.cS),vI (X.cZ),.map (some m),vP t,vI (X.last),vI (X.ah - 1),vI (X.used)] 154,.abs (aG (bS y4 L)),.abs (aG (cY y4 L))]) (.iface 169 (vP (L.b tk))) [0,1,2,3] (⟨rfl,by subst oG;subst dK;subst cT;rfl⟩)
 replace hkt:(obj O tk).kind=3:=hkt
 replace hb:0<=(obj O tk).links/\(obj O tk).links<=1048576:=hb
 refine af.region (gK 1 [] [] ?_)
 refine NS (gK 5 [(11,.map (some (L.m d))),(12,.string name)] [(3,v_ 1 (bQ L hkd))] ?_)
 refine jg 2 hkd wT ?_
 refine gK 1 [(7,.iface 166 (vP (L.b tk)))] [] ?_
 refine NS (gK 5 [(17,.map (some (L.m d))),(18,.string name)] [(3,v_ 1 (bQ L hkd))] ?_)
 refine Ue 2 [(1,0)] hkd wT hnt (fun ez cT=>?_)
 have Rf:=ku cT hkd
 have VI:=ku cT hkt
 have Xo:(obj ez tk).links=(obj O tk).links:=fu aY.links cT rfl
 refine NS (gK 9 [(24,.agg #[vI (X.cS),vI (X.cZ)]),(27,.pointer (some ⟨(L.b d),4,none⟩))] [(5,A_ 0 f 2)] ?_)
 refine Nr 1 [(2,1)] d X.cS X.cZ Rf (fun eZ dK=>?_)
 have VJ:=ku dK Rf
 have Lr:=ku dK VI
 have Zf:(obj eZ tk).links=(obj O tk).links:=fu aY.links dK Xo
 refine NS (gC 8 [] [(3,a_ 0 f),(4,p_ ⟨[],none,none,none,some (vI (X.ah - 1))⟩ [(Value.int .i64 (IntKind.wrap .i64 (X.ah - 1)))=(.int .i64 (X.ah - 1))] ⟨bC (by omega) (by omega) (by omega),trivial⟩),(7,a_ 0 f)] [(0,[(8,vI (X.ah - 1))])] ?_)
 refine NS (gK 1 [(35,.iface 166 (vP (L.b tk)))] [] ?_)
 refine gL [] (dN (L.b tk)) ?_
 rintro _ _ ⟨rfl,rfl⟩
 refine gK 6 [(40,vI ((obj eZ tk).links - 1)),(42,.pointer (some ⟨(L.b tk),6,none⟩))] [(2,v_ 1 (nL L Lr)),(3,p_ ⟨[],none,none,none,some (vI ((obj eZ tk).links - 1))⟩ [(Value.int .i64 (IntKind.wrap .i64 ((obj eZ tk).links - 1)))=(.int .i64 ((obj eZ tk).links - 1))] ⟨bC (by omega) (by omega) (by omega),trivial⟩)] ?_
 refine uL 1 [(2,1)] tk 6 (fun o=>{ o with links:=o.links - 1 }) Lr (fun y4 oG=>?_)
 have YX:=ku oG VJ
 have YZ:=ku oG Lr
 refine NS (gK 2 [(6,.iface 166 (vP (L.b tk)))] [] ?_)
 refine NN (af.ret ?_)
 exact RT (l:=[.blk f [vI (X.cN),vI (X.cB),vI (X.cH),vI (X.cS),vI (X.cZ),.map (some m),vP t,vI (X.last),vI (X.ah - 1),vI (X.used)] 154,.abs (aG (bS y4 L)),.abs (aG (cY y4 L))]) (.iface 166 (vP (L.b tk))) [0,1,2,3] (⟨rfl,by subst oG;subst dK;subst cT;rfl⟩)
end
section
open Go.RowKit Go.Maps bq aF
attribute [local irreducible] ak aU af aj
abbrev Nu (f:Nat) (X:FM) (m:Nat) (t):=(.blk f [vI (X.cN),vI (X.cB),vI (X.cH),vI (X.cS),vI (X.cZ),.map (some m),vP t,vI (X.last),vI (X.ah),vI (X.used)] 154:HP)
theorem P7 {β:Bs} (X:FM) (f m t:Nat) (hX:0<=X.ah/\X.ah<=1048576/\-1125899906842624<=X.used/\X.used<=1125899906842624/\0<=X.last/\X.last<=1125899906842624) (O:bU) (L:HL) (idx:Used Th) (Nv:aF.cJ (keys idx)) (th:Th) (hkt:(obj O th.k).kind=th.kind) (h3:th.kind=1\/th.kind=2\/th.kind=3) (hg:(obj O th.k).gone=true) (ho:(obj O th.k).opens=0) (hix:aF.get idx (obj O th.k).id=some th) (hw:(Lit.int .i64 (obj O th.k).id).wf=true) (y5:(obj O th.k).data.length<=1125899906842624) :
    Spec Tryz.prog β 202 #[vP f,(eu L th)] [pO O L,pF f m t X,pI m L idx] (fun v l=>v=.tuple #[]/\l=[pO O L,pF f m t { X with used:=if th.kind=1 then X.used - (obj O th.k).data.length else X.used },pI m L (del (obj O th.k).id idx)]):=by
 refine Spec.enter Tryz.func202 rfl Tryz.ntmps202 (Nat.le_of_ble_eq_true rfl) (fun R=>?_)
 refine af.seq ?_
 obtain⟨tk,kd⟩:=th;simp only at hkt h3;rcases h3 with rfl|rfl|rfl
 ·replace hkt:(obj O tk).kind=1:=hkt
  replace hg:(obj O tk).gone=true:=hg
  replace ho:(obj O tk).opens=0:=ho
  replace hix:aF.get idx (obj O tk).id=some _:=hix
  replace hw:(Lit.int .i64 (obj O tk).id).wf=true:=hw
  have hdl:=nE Nv (get_some hix)
  replace y5:(obj O tk).data.length<=1125899906842624:=y5
  refine af.region (gK 1 [(7,.iface 162 (vP (L.b tk)))] [] ?_)
  refine gL [] (dN (L.b tk)) ?_
  rintro _ _ ⟨rfl,rfl⟩
  refine gK 1 [(4,vP (L.b tk))] [] ?_
  refine NN (af.seq (SR (gK 6 [(14,.bool (!(obj O tk).gone))] [(3,v_ 0 (rN L hkt))] ?_)))
  refine ak.qP 14 (!(obj O tk).gone) (fun _=>by kernel_rfl) (fun jV=>?_) (fun jV=>?_)
  ·exact absurd jV (by simp [hg])
  refine gK 6 [(20,.bool (decide (((obj O tk).opens:Int) > (0:Int))))] [(3,v_ 0 (lD L hkt))] ?_
  refine NN (af.aW (p:=((obj O tk).opens:Int) > (0:Int)) (fun _=>by kernel_rfl) (fun kg=>?_) (fun kg=>?_))
  ·exact absurd kg (by omega)
  refine af.skip (NX (af.seq (af.ck (S:=[pO O L,pF f m t X,pI m L idx,.abs R]) [0,1,2,3,4,5,6,7,8] 8 [0,1,2,3] (by kernel_rfl) (by kernel_rfl) rfl (by kernel_rfl) ?_)))
  refine gR 0 [8] [(0,vP f),(1,.iface 162 (vP (L.b tk))),(24,.map (some m)),(28,vI ((obj O tk).id))] [0,1,2,3,4,5,6,7] [(3,a_ 1 f),(7,v_ 0 (rZ L hkt))] ?_
  refine aQ.last rfl rfl ?_
  refine ak.Ca 2 (d:=none) (t:=151) (K:=3) (E:=156) (b:=m) (n:=idx.length) (f:=(bA (bH L idx))) (x:=(.tmp 24)) (ix:=(.tmp 28)) (key:=.int .i64 ((obj O tk).id)) (kl:=(.int .i64 (obj O tk).id)) (n':=(idx.length - 1)) (f':=(bA (bH L (del (obj O tk).id idx)))) (ats:=#[151,3]) (fun _=>by kernel_rfl) (by kernel_rfl) (fun _=>by kernel_rfl) (fun _=>by kernel_rfl) rfl dZ Tryz.underlying151 (iR hw) (by rw [fV,hix];rfl) (D2) ?_
  refine NL (aj.np (NX (SR ?_)))
  refine gK 7 [(5,vP (L.b tk)),(6,.bool true)] [] ?_
  refine NS (gK 1 [(34,.bool true)] [] ?_)
  refine NN (CT (af.ck (S:=[pO O L,pF f m t X,.abs (aP Tryz.prog 3 m (bA (bH L (del (obj O tk).id idx))) (idx.length - 1)),.abs R]) [0,1,2,3,4,5,6,7,8,9,10,11,12] 12 [0,1,2,3] (by kernel_rfl) (by kernel_rfl) rfl (by kernel_rfl) ?_))
  refine gR 0 [12] [(44,vI (X.used - (((obj O tk).data.length:Nat):Int))),(46,.pointer (some ⟨f,9,none⟩))] [0,1,2,3,4,5,6,7,8,9,10,11] [(3,a_ 1 f),(7,v_ 0 (G9 L hkt)),(9,p_ ⟨[],none,none,none,some (vI (X.used - (((obj O tk).data.length:Nat):Int)))⟩ [(Value.int .i64 (IntKind.wrap .i64 (X.used - (((obj O tk).data.length:Nat):Int))))=(.int .i64 (X.used - (((obj O tk).data.length:Nat):Int)))] ⟨bC (by omega) (by omega) (by omega),trivial⟩)] ?_
  refine aQ.last rfl rfl ?_
  refine gC 1 [] [(0,a_ 1 f)] [(1,[(9,vI (X.used - (((obj O tk).data.length:Nat):Int)))])] ?_
  refine NL (aj.np ?_)
  refine aj.fo [(2,.abs (aP Tryz.prog 3 m (bA (bH L (del (obj O tk).id idx))) ((del (obj O tk).id idx).length)))] (fun w hS=>by rw [show (del (obj O tk).id idx).length=idx.length - 1 by omega];exact hS) ?_
  exact RF (.tuple #[]) [0,1,2,3] (⟨rfl,rfl⟩)
 ·replace hkt:(obj O tk).kind=2:=hkt
  replace hg:(obj O tk).gone=true:=hg
  replace ho:(obj O tk).opens=0:=ho
  replace hix:aF.get idx (obj O tk).id=some _:=hix
  replace hw:(Lit.int .i64 (obj O tk).id).wf=true:=hw
  have hdl:=nE Nv (get_some hix)
  replace y5:(obj O tk).data.length<=1125899906842624:=y5
  refine af.region (gK 1 [(7,.iface 169 (vP (L.b tk)))] [] ?_)
  refine gL [] (dN (L.b tk)) ?_
  rintro _ _ ⟨rfl,rfl⟩
  refine gK 1 [(4,vP (L.b tk))] [] ?_
  refine NN (af.seq (SR (gK 6 [(14,.bool (!(obj O tk).gone))] [(3,v_ 0 (rN L hkt))] ?_)))
  refine ak.qP 14 (!(obj O tk).gone) (fun _=>by kernel_rfl) (fun jV=>?_) (fun jV=>?_)
  ·exact absurd jV (by simp [hg])
  refine gK 6 [(20,.bool (decide (((obj O tk).opens:Int) > (0:Int))))] [(3,v_ 0 (lD L hkt))] ?_
  refine NN (af.aW (p:=((obj O tk).opens:Int) > (0:Int)) (fun _=>by kernel_rfl) (fun kg=>?_) (fun kg=>?_))
  ·exact absurd kg (by omega)
  refine af.skip (NX (af.seq (af.ck (S:=[pO O L,pF f m t X,pI m L idx,.abs R]) [0,1,2,3,4,5,6,7,8] 8 [0,1,2,3] (by kernel_rfl) (by kernel_rfl) rfl (by kernel_rfl) ?_)))
  refine gR 0 [8] [(0,vP f),(1,.iface 169 (vP (L.b tk))),(24,.map (some m)),(28,vI ((obj O tk).id))] [0,1,2,3,4,5,6,7] [(3,a_ 1 f),(7,v_ 0 (rZ L hkt))] ?_
  refine aQ.last rfl rfl ?_
  refine ak.Ca 2 (d:=none) (t:=151) (K:=3) (E:=156) (b:=m) (n:=idx.length) (f:=(bA (bH L idx))) (x:=(.tmp 24)) (ix:=(.tmp 28)) (key:=.int .i64 ((obj O tk).id)) (kl:=(.int .i64 (obj O tk).id)) (n':=(idx.length - 1)) (f':=(bA (bH L (del (obj O tk).id idx)))) (ats:=#[151,3]) (fun _=>by kernel_rfl) (by kernel_rfl) (fun _=>by kernel_rfl) (fun _=>by kernel_rfl) rfl dZ Tryz.underlying151 (iR hw) (by rw [fV,hix];rfl) (D2) ?_
  refine NL (aj.np (NX (SR ?_)))
  refine gK 7 [(5,.pointer none),(6,.bool false)] [] ?_
  refine NS (gK 1 [(34,.bool false)] [] ?_)
  refine NN (CF (af.skip (aj.fo [(2,.abs (aP Tryz.prog 3 m (bA (bH L (del (obj O tk).id idx))) ((del (obj O tk).id idx).length)))] (fun w hS=>by rw [show (del (obj O tk).id idx).length=idx.length - 1 by omega];exact hS) ?_)))
  exact RF (.tuple #[]) [0,1,2,3] (⟨rfl,rfl⟩)
 replace hkt:(obj O tk).kind=3:=hkt
 replace hg:(obj O tk).gone=true:=hg
 replace ho:(obj O tk).opens=0:=ho
 replace hix:aF.get idx (obj O tk).id=some _:=hix
 replace hw:(Lit.int .i64 (obj O tk).id).wf=true:=hw
 have hdl:=nE Nv (get_some hix)
 replace y5:(obj O tk).data.length<=1125899906842624:=y5
 refine af.region (gK 1 [(7,.iface 166 (vP (L.b tk)))] [] ?_)
 refine gL [] (dN (L.b tk)) ?_
 rintro _ _ ⟨rfl,rfl⟩
 refine gK 1 [(4,vP (L.b tk))] [] ?_
 refine NN (af.seq (SR (gK 6 [(14,.bool (!(obj O tk).gone))] [(3,v_ 0 (rN L hkt))] ?_)))
 refine ak.qP 14 (!(obj O tk).gone) (fun _=>by kernel_rfl) (fun jV=>?_) (fun jV=>?_)
 ·exact absurd jV (by simp [hg])
 refine gK 6 [(20,.bool (decide (((obj O tk).opens:Int) > (0:Int))))] [(3,v_ 0 (lD L hkt))] ?_
 refine NN (af.aW (p:=((obj O tk).opens:Int) > (0:Int)) (fun _=>by kernel_rfl) (fun kg=>?_) (fun kg=>?_))
 ·exact absurd kg (by omega)
 refine af.skip (NX (af.seq (af.ck (S:=[pO O L,pF f m t X,pI m L idx,.abs R]) [0,1,2,3,4,5,6,7,8] 8 [0,1,2,3] (by kernel_rfl) (by kernel_rfl) rfl (by kernel_rfl) ?_)))
 refine gR 0 [8] [(0,vP f),(1,.iface 166 (vP (L.b tk))),(24,.map (some m)),(28,vI ((obj O tk).id))] [0,1,2,3,4,5,6,7] [(3,a_ 1 f),(7,v_ 0 (rZ L hkt))] ?_
 refine aQ.last rfl rfl ?_
 refine ak.Ca 2 (d:=none) (t:=151) (K:=3) (E:=156) (b:=m) (n:=idx.length) (f:=(bA (bH L idx))) (x:=(.tmp 24)) (ix:=(.tmp 28)) (key:=.int .i64 ((obj O tk).id)) (kl:=(.int .i64 (obj O tk).id)) (n':=(idx.length - 1)) (f':=(bA (bH L (del (obj O tk).id idx)))) (ats:=#[151,3]) (fun _=>by kernel_rfl) (by kernel_rfl) (fun _=>by kernel_rfl) (fun _=>by kernel_rfl) rfl dZ Tryz.underlying151 (iR hw) (by rw [fV,hix];rfl) (D2) ?_
 refine NL (aj.np (NX (SR ?_)))
 refine gK 7 [(5,.pointer none),(6,.bool false)] [] ?_
 refine NS (gK 1 [(34,.bool false)] [] ?_)
 refine NN (CF (af.skip (aj.fo [(2,.abs (aP Tryz.prog 3 m (bA (bH L (del (obj O tk).id idx))) ((del (obj O tk).id idx).length)))] (fun w hS=>by rw [show (del (obj O tk).id idx).length=idx.length - 1 by omega];exact hS) ?_)))
 exact RF (.tuple #[]) [0,1,2,3] (⟨rfl,rfl⟩)
theorem Ls {β:Bs} (O:bU) (L:HL) (f:Nat) (th:Th) (hkt:(obj O th.k).kind=th.kind) (h3:th.kind=1\/th.kind=2\/th.kind=3) (hg:(obj O th.k).gone=false\/0 < (obj O th.k).opens) :
    Spec Tryz.prog β 202 #[vP f,(eu L th)] [pO O L] (fun v l=>v=.tuple #[]/\l=[pO O L]):=by
 refine Spec.enter Tryz.func202 rfl Tryz.ntmps202 (Nat.le_of_ble_eq_true rfl) (fun R=>?_)
 refine af.seq ?_
 obtain⟨tk,kd⟩:=th;simp only at hkt h3;rcases h3 with rfl|rfl|rfl
 ·replace hkt:(obj O tk).kind=1:=hkt
  replace hg:(obj O tk).gone=false\/0 < (obj O tk).opens:=hg
  refine af.region (gK 1 [(7,.iface 162 (vP (L.b tk)))] [] ?_)
  refine gL [] (dN (L.b tk)) ?_
  rintro _ _ ⟨rfl,rfl⟩
  refine gK 1 [(4,vP (L.b tk))] [] ?_
  refine NN (af.seq (SR (gK 6 [(14,.bool (!(obj O tk).gone))] [(3,v_ 0 (rN L hkt))] ?_)))
  refine ak.qP 14 (!(obj O tk).gone) (fun _=>by kernel_rfl) (fun jV=>?_) (fun jV=>?_)
  ·refine gK 6 [(20,.bool true)] [] ?_
   refine NN (CT (af.ret (aj.aq ?_)))
   exact RT (.tuple #[]) [0,1] (⟨rfl,rfl⟩)
  refine gK 6 [(20,.bool (decide (((obj O tk).opens:Int) > (0:Int))))] [(3,v_ 0 (lD L hkt))] ?_
  refine NN (af.aW (p:=((obj O tk).opens:Int) > (0:Int)) (fun _=>by kernel_rfl) (fun kg=>?_) (fun kg=>?_))
  ·refine af.ret (aj.aq ?_)
   exact RT (.tuple #[]) [0,1] (⟨rfl,rfl⟩)
  exact absurd hg (by simp at jV;rw [jV];simp;omega)
 ·replace hkt:(obj O tk).kind=2:=hkt
  replace hg:(obj O tk).gone=false\/0 < (obj O tk).opens:=hg
  refine af.region (gK 1 [(7,.iface 169 (vP (L.b tk)))] [] ?_)
  refine gL [] (dN (L.b tk)) ?_
  rintro _ _ ⟨rfl,rfl⟩
  refine gK 1 [(4,vP (L.b tk))] [] ?_
  refine NN (af.seq (SR (gK 6 [(14,.bool (!(obj O tk).gone))] [(3,v_ 0 (rN L hkt))] ?_)))
  refine ak.qP 14 (!(obj O tk).gone) (fun _=>by kernel_rfl) (fun jV=>?_) (fun jV=>?_)
  ·refine gK 6 [(20,.bool true)] [] ?_
   refine NN (CT (af.ret (aj.aq ?_)))
   exact RT (.tuple #[]) [0,1] (⟨rfl,rfl⟩)
  refine gK 6 [(20,.bool (decide (((obj O tk).opens:Int) > (0:Int))))] [(3,v_ 0 (lD L hkt))] ?_
  refine NN (af.aW (p:=((obj O tk).opens:Int) > (0:Int)) (fun _=>by kernel_rfl) (fun kg=>?_) (fun kg=>?_))
  ·refine af.ret (aj.aq ?_)
   exact RT (.tuple #[]) [0,1] (⟨rfl,rfl⟩)
  exact absurd hg (by simp at jV;rw [jV];simp;omega)
 replace hkt:(obj O tk).kind=3:=hkt
 replace hg:(obj O tk).gone=false\/0 < (obj O tk).opens:=hg
 refine af.region (gK 1 [(7,.iface 166 (vP (L.b tk)))] [] ?_)
 refine gL [] (dN (L.b tk)) ?_
 rintro _ _ ⟨rfl,rfl⟩
 refine gK 1 [(4,vP (L.b tk))] [] ?_
 refine NN (af.seq (SR (gK 6 [(14,.bool (!(obj O tk).gone))] [(3,v_ 0 (rN L hkt))] ?_)))
 refine ak.qP 14 (!(obj O tk).gone) (fun _=>by kernel_rfl) (fun jV=>?_) (fun jV=>?_)
 ·refine gK 6 [(20,.bool true)] [] ?_
  refine NN (CT (af.ret (aj.aq ?_)))
  exact RT (.tuple #[]) [0,1] (⟨rfl,rfl⟩)
 refine gK 6 [(20,.bool (decide (((obj O tk).opens:Int) > (0:Int))))] [(3,v_ 0 (lD L hkt))] ?_
 refine NN (af.aW (p:=((obj O tk).opens:Int) > (0:Int)) (fun _=>by kernel_rfl) (fun kg=>?_) (fun kg=>?_))
 ·refine af.ret (aj.aq ?_)
  exact RT (.tuple #[]) [0,1] (⟨rfl,rfl⟩)
 exact absurd hg (by simp at jV;rw [jV];simp;omega)
theorem rP {β:Bs} (X:FM) (f m t:Nat) (hX:0<=X.ah/\X.ah<=1048576/\-1125899906842624<=X.used/\X.used<=1125899906842624/\0<=X.last/\X.last<=1125899906842624) (O:bU) (L:HL) (idx:Used Th) (Nv:aF.cJ (keys idx)) (th:Th) (hkt:(obj O th.k).kind=th.kind) (h3:th.kind=1\/th.kind=2\/th.kind=3) (ho:0<=(obj O th.k).opens) (hix:sI O th->aF.get idx (obj O th.k).id=some th) (hw:(Lit.int .i64 (obj O th.k).id).wf=true) (y5:(obj O th.k).data.length<=1125899906842624) :
    Spec Tryz.prog β 202 #[vP f,(eu L th)] [pO O L,pF f m t X,pI m L idx] (fun v l=>v=.tuple #[]/\l=[pO O L,pF f m t { X with used:=jO O X.used th },pI m L (iP O idx th)]):=by
  unfold jO iP
  by_cases h:sI O th
  ·rw [if_pos h,if_pos h]
   exact P7 X f m t hX O L idx Nv th hkt h3 h.1 h.2 (hix h) hw y5
  rw [if_neg h,if_neg h]
  refine (Spec.yA (pre:=[pO O L]) (R:=[pF f m t X,pI m L idx]) (fun _ _=>Ls O L f th hkt h3 ?_)).mono (by rintro v l ⟨l0,⟨rfl,rfl⟩,rfl⟩;exact⟨rfl,rfl⟩)
  cases hg:(obj O th.k).gone with
  | false=>exact .inl rfl
  | true=>exact .inr (by have:¬ (obj O th.k).opens=0:=fun e=>h ⟨hg,e⟩;omega)
theorem Jm {β:Bs} (X:FM) (f m t:Nat):Spec Tryz.prog β 195 #[vP f] [Nu f X m t] (fun v l=>v=.bool (decide (X.ah < 8192))/\l=[Nu f X m t]):=by
 refine Spec.enter Tryz.func195 rfl Tryz.ntmps195 (Nat.le_of_ble_eq_true rfl) (fun R=>?_)
 refine SR (gK 1 [] [] ?_)
 refine NS (gK 6 [(2,.bool (decide ((X.ah:Int) < (8192:Int))))] [(3,a_ 0 f)] ?_)
 refine NN (af.ret ?_)
 exact RT (.bool (decide ((X.ah:Int) < (8192:Int)))) [0,1] (⟨rfl,rfl⟩)
theorem sO {β:Bs} (a b:Int):Spec Tryz.prog β 74 #[vI a,vI b] [] (fun v l=>v=.bool (decide (0<=a/\a<=b))/\l=[]):=by
 refine Spec.enter Tryz.func74 rfl Tryz.ntmps74 (Nat.le_of_ble_eq_true rfl) (fun R=>?_)
 refine SR (gK 1 [] [] ?_)
 refine NS (gK 3 [(7,.bool (decide ((a:Int) ≥ (0:Int))))] [] ?_)
 refine ak.iE 7 ((a:Int) ≥ (0:Int)) (fun _=>by kernel_rfl) (fun h7=>?_) (fun h7=>?_)
 ·refine gK 5 [(4,.bool (decide ((a:Int)<=(b:Int))))] [] ?_
  refine NN (af.ret ?_)
  exact RT (.bool (decide ((a:Int)<=(b:Int)))) [0] (⟨by first|exact congrArg Value.bool (decide_eq_decide.2 (by omega))|exact congrArg Value.bool (decide_eq_true (by omega)).symm|exact congrArg Value.bool (decide_eq_false (by omega)).symm,rfl⟩)
 refine gK 5 [(4,.bool false)] [] ?_
 refine NN (af.ret ?_)
 exact RT (.bool false) [0] (⟨by first|exact congrArg Value.bool (decide_eq_decide.2 (by omega))|exact congrArg Value.bool (decide_eq_true (by omega)).symm|exact congrArg Value.bool (decide_eq_false (by omega)).symm,rfl⟩)
theorem Hl {β:Bs} (X:FM) (f m t:Nat) (L:HL) (idx:Used Th):Spec Tryz.prog β 206 #[vP f] [Nu f X m t,.abs (aP Tryz.prog 3 m (bA (bH L idx)) idx.length)] (fun v l=>v=.bool (decide ((idx.length:Int) < X.cN/\X.last < 1099511627776/\X.ah < 8192))/\l=[Nu f X m t,.abs (aP Tryz.prog 3 m (bA (bH L idx)) idx.length)]):=by
 refine Spec.enter Tryz.func206 rfl Tryz.ntmps206 (Nat.le_of_ble_eq_true rfl) (fun R=>?_)
 refine SR (gK 1 [] [] ?_)
 refine NN (af.seq (af.eM (by kernel_rfl) (by kernel_rfl) ?_))
 refine gQ 4 [(6,.map (some m))] [(3,a_ 0 f)] ?_
 refine aU.vD 1 (d:=(some 7)) (t:=151) (K:=3) (E:=156) (b:=m) (n:=idx.length) (f:=(bA (bH L idx))) (x:=(.tmp 6)) (ats:=#[151]) (fun _=>by kernel_rfl) (by kernel_rfl) (fun _=>by kernel_rfl) rfl Tryz.underlying151 ?_
 refine gQ 7 [(14,.bool (decide ((((idx.length:Nat):Int):Int) < (X.cN:Int))))] [(4,a_ 0 f)] ?_
 refine aU.iE 14 ((((idx.length:Nat):Int):Int) < (X.cN:Int)) (fun _=>by kernel_rfl) (fun jV=>?_) (fun jV=>?_)
 ·refine gQ 7 [(21,.bool (decide ((X.last:Int) < (1099511627776:Int))))] [(3,a_ 0 f)] ?_
  refine aU.iE 21 ((X.last:Int) < (1099511627776:Int)) (fun _=>by kernel_rfl) (fun Rg=>?_) (fun Rg=>?_)
  ·refine gQ 1 [(22,vP f)] [] ?_
   refine aU.call (f:=195) (args:=#[vP f]) (d:=(some 23)) (pre:=[pF f m t X]) (R:=[pI m L idx,.abs R]) (pk:=[0,1,2]) (xC:=[0,1,2]) (v0:=.bool (decide (X.ah < 8192))) (fun _=>by kernel_rfl) (Jm X f m t) rfl (by kernel_rfl) rfl (by kernel_rfl) (fun _ _ h=>h) ?_
   refine gQ 2 [(2,.bool (decide (X.ah < 8192)))] [] ?_
   refine NQ (NX (af.ret ?_))
   exact RT (.bool (decide (X.ah < 8192))) [0,1,2] (⟨by first|exact congrArg Value.bool (decide_eq_decide.2 (by omega))|exact congrArg Value.bool (decide_eq_true (by omega)).symm|exact congrArg Value.bool (decide_eq_false (by omega)).symm,rfl⟩)
  refine gQ 4 [(2,.bool false)] [] ?_
  refine NQ (NX (af.ret ?_))
  exact RT (.bool false) [0,1,2] (⟨by first|exact congrArg Value.bool (decide_eq_decide.2 (by omega))|exact congrArg Value.bool (decide_eq_true (by omega)).symm|exact congrArg Value.bool (decide_eq_false (by omega)).symm,rfl⟩)
 refine gQ 11 [(2,.bool false)] [] ?_
 refine NQ (NX (af.ret ?_))
 exact RT (.bool false) [0,1,2] (⟨by first|exact congrArg Value.bool (decide_eq_decide.2 (by omega))|exact congrArg Value.bool (decide_eq_true (by omega)).symm|exact congrArg Value.bool (decide_eq_false (by omega)).symm,rfl⟩)
theorem y6 {β:Bs} (X:FM) (f m t:Nat) (hX:0<=X.ah/\X.ah<=1048576/\-1125899906842624<=X.used/\X.used<=1125899906842624/\0<=X.last/\X.last<=1125899906842624) (mode:Int):Spec Tryz.prog β 192 #[vP f,vI mode] [Nu f X m t] (fun v l=>v=.agg #[vI (X.last+1),vI mode,vI 0,vI 0,vI X.cS,vI X.cZ,vI 0,vI 0,.bool false]/\l=[.blk f [vI (X.cN),vI (X.cB),vI (X.cH),vI (X.cS),vI (X.cZ),.map (some m),vP t,vI (X.last+1),vI (X.ah),vI (X.used)] 154]):=by
 refine Spec.enter Tryz.func192 rfl Tryz.ntmps192 (Nat.le_of_ble_eq_true rfl) (fun R=>?_)
 refine SR (gN 1 (fun b1=>[(4,vP b1)]) (fun _=>[]) (fun _=>[]) (fun b1=>.blk b1 [vI 0,vI 0,vI 0,vI 0,vI 0,vI 0,vI 0,vI 0,.bool false] 161) (fun b1=>?_))
 refine NS (gC 8 [] [(3,a_ 0 f),(4,p_ ⟨[],none,none,none,some (vI (X.last+1))⟩ [(Value.int .i64 (IntKind.wrap .i64 (X.last+1)))=(.int .i64 (X.last+1))] ⟨bC (by omega) (by omega) (by omega),trivial⟩),(7,a_ 0 f)] [(0,[(7,vI (X.last+1))])] ?_)
 refine NN (af.seq (af.ck (S:=[pF f m t { X with last:=X.last+1 },.abs R,.blk b1 [vI 0,vI 0,vI 0,vI 0,vI 0,vI 0,vI 0,vI 0,.bool false] 161]) [0,1,2,3,4,5,6,7,8,9,10,11] 11 [0,1,2] (by kernel_rfl) (by kernel_rfl) rfl (by kernel_rfl) ?_))
 refine gR 0 [11] [(4,vP b1),(22,.agg #[vI (X.last+1),vI (mode),vI 0,vI 0,vI (X.cS),vI (X.cZ),vI 0,vI 0,.bool false])] [0,1,2,3,4,5,6,7,8,9,10] [(3,a_ 0 f),(9,A_ 0 f 2)] ?_
 refine aQ.last rfl rfl ?_
 refine gC 1 [] [(0,A_ 2 b1 9)] [(2,[(0,vI (X.last+1)),(1,vI (mode)),(4,vI (X.cS)),(5,vI (X.cZ))])] ?_
 refine NL (aj.np (NX (af.ret ?_)))
 exact aj.ret (v:=.agg #[vI (X.last+1),vI (mode),vI 0,vI 0,vI (X.cS),vI (X.cZ),vI 0,vI 0,.bool false]) (l:=[pF f m t { X with last:=X.last+1 }]) (aZ:=[b1=b1,b1=b1,b1=b1,b1=b1,b1=b1,b1=b1,b1=b1,b1=b1,b1=b1]) [.at 2,.at 2,.at 2,.at 2,.at 2,.at 2,.at 2,.at 2,.at 2] [0,1] (fun _=>by kernel_rfl) ⟨rfl,rfl,rfl,rfl,rfl,rfl,rfl,rfl,rfl,trivial⟩ rfl (by kernel_rfl) (⟨rfl,rfl⟩)
end
section
open Go.RowKit Go.Maps bq aF
attribute [local irreducible] ak aU af aj
abbrev C3 (f:Nat) (L:HL) (d:Nat) (name):=([(0,vP f),(1,vP (L.b d)),(2,.string name)]:Fr)
abbrev Ug (f:Nat) (L:HL) (d:Nat) (name):=([(18,vP f),(19,vP (L.b d)),(20,.string name)]:Fr)
abbrev Uh (f:Nat) (L:HL) (d:Nat) (name):=([(8,vP f),(9,vP (L.b d)),(10,.string name)]:Fr)
abbrev Ho (f:Nat) (L:HL) (d:Nat) (name):=([(0,vP f),(1,vP (L.b d)),(2,.string name)]:Fr)
abbrev xO (f:Nat) (m:Nat) (t) (X:FM) (L:HL) (idx) (O:bU) (R:bW):=([pF f m t X,pI m L idx,pO O L,pE O L,.abs R]:List HP)
abbrev Ui (S:aJ) (tk:Nat) (L:HL):=([(24,vI ((obj S.O tk).opens+1)),(26,.pointer (some ⟨(L.b tk),7,none⟩))]:Fr)
theorem oH {β:Bs} (S:aJ) (L:HL) (f m t:Nat) (hI:Inv S) (d:Nat) (hd:Live S.idx ⟨d,2⟩) (name:ByteArray) (hsz:name.size<=1048576) (th:Th) (hlk:aT name (obj S.O d).ah=some th) :
    Spec Tryz.prog β 208 #[vP f,vP (L.b d),.string name] [pF f m t S.X,pO S.O L,pE S.O L,pI m L S.idx] (fun v l=>v=.tuple #[]/\l=[pF f m t ((aL S d name th).X),pO ((aL S d name th).O) L,pE ((aL S d name th).O) L,pI m L ((aL S d name th).idx)]):=by
 have hX:=hI.hX
 have hel:(obj S.O d).ah.length<=8192:=hI.iT hd
 have hkd:(obj S.O d).kind=2:=hI.kind hd
 refine Spec.enter Tryz.func208 rfl Tryz.ntmps208 (Nat.le_of_ble_eq_true rfl) (fun R=>?_)
 refine af.seq ?_
 obtain⟨tk,kd⟩:=th;have hlv:=(hI.ent hd hlk).2;have Zg:=hI.ne hd hlk;rcases (hI.ob _ hlv).2.2 with e0|e0|e0<;>simp only at e0<;>subst e0
 ·have hkt:(obj S.O tk).kind=1:=hI.kind hlv
  have hlb:=hI.lb hlv;have hid:=hI.ob _ hlv;have hop:=hI.GD hlv;have hdl:=hI.GF hlv;have qH:=hI.MX hlv
  refine af.region (gK 3 (Uh f L d name) [] ?_)
  refine gL [0,1,2] (j3 S.X f m t hX S.O L d hkd name hsz ⟨tk,1⟩ hkt (by simp) hlk (hI.twice hd) (by omega) (by simp only at hlb ⊢;omega)) ?_
  rintro _ _ ⟨rfl,rfl⟩
  refine gK 1 [(6,.iface 162 (vP (L.b tk)))] [] ?_
  refine NS ?_
  have lE:(obj (aR S.X S.O d name ⟨tk,1⟩) d).kind=2:=(cP).trans (hkd)
  have oF:(obj (aR S.X S.O d name ⟨tk,1⟩) tk).kind=1:=(cP).trans (hkt)
  have y7:(obj (aR S.X S.O d name ⟨tk,1⟩) tk).id=(obj S.O tk).id:=dS (g:=aY.id) (fun _ _=>rfl) (fun _ _=>rfl) (fun _ _ _=>rfl)
  have y8:(obj (aR S.X S.O d name ⟨tk,1⟩) tk).opens=(obj S.O tk).opens:=dS (g:=aY.opens) (fun _ _=>rfl) (fun _ _=>rfl) (fun _ _ _=>rfl)
  have y9:(obj (aR S.X S.O d name ⟨tk,1⟩) tk).data=(obj S.O tk).data:=dS (g:=aY.data) (fun _ _=>rfl) (fun _ _=>rfl) (fun _ _ _=>rfl)
  generalize cT:(aR S.X S.O d name ⟨tk,1⟩)=ez at lE oF y7 y8 y9 ⊢
  refine gK 1 [(12,.iface 162 (vP (L.b tk)))] [] ?_
  refine gL [] (dN (L.b tk)) ?_
  rintro _ _ ⟨rfl,rfl⟩
  refine gK 1 [(7,vP (L.b tk))] [] ?_
  refine NS (gK 5 [(18,.bool (decide (((obj ez tk).links:Int)=(0:Int))))] [(3,v_ 1 (nL L oF))] ?_)
  refine NN (af.aW (p:=((obj ez tk).links:Int)=(0:Int)) (fun _=>by kernel_rfl) (fun oU=>?_) (fun oU=>?_))
  ·refine SR (gK 3 [(21,.pointer (some ⟨(L.b tk),8,none⟩))] [] ?_)
   refine uL 1 [(2,1)] tk 8 (fun o=>{ o with gone:=true }) oF (fun eZ dK=>?_)
   have Lu:=ku dK lE
   have yZ:=ku dK oF
   have Nw:(obj eZ tk).id=(obj S.O tk).id:=fu aY.id dK y7
   have Uj:(obj eZ tk).opens=(obj S.O tk).opens:=fu aY.opens dK y8
   have Yg:(obj eZ tk).data=(obj S.O tk).data:=fu aY.data dK y9
   refine NN (af.region (gK 2 [(22,vP f),(23,.iface 162 (vP (L.b tk)))] [] ?_))
   refine gL [1,0,3] (rP { S.X with ah:=S.X.ah - 1 } f m t (hI.Az hd hlk) eZ L S.idx hI.rise ⟨tk,1⟩ yZ (by simp) (by rw [Uj];exact hop.1) (fun _=>by rw [Nw,hid.1];exact hlv) (by rw [Nw];exact qH) (by rw [Yg];exact hdl)) ?_
   rintro _ _ ⟨rfl,rfl⟩
   refine NL ?_
   exact RF (l:=[pF f m t { S.X with ah:=S.X.ah - 1,used:=jO eZ S.X.used ⟨tk,1⟩ },pO eZ L,pE eZ L,pI m L (iP eZ S.idx ⟨tk,1⟩)]) (.tuple #[]) [1,0,3,2,4] (⟨rfl,by subst dK;subst cT;rw [show aL S d name ⟨tk,1⟩=_ from uD oU]<;>rfl⟩)
  refine af.skip ?_
  exact RF (l:=[pF f m t { S.X with ah:=S.X.ah - 1 },pO ez L,pE ez L,pI m L S.idx]) (.tuple #[]) [0,1,2,3,4] (⟨rfl,by subst cT;rw [show aL S d name ⟨tk,1⟩=_ from uE oU]<;>rfl⟩)
 ·have hkt:(obj S.O tk).kind=2:=hI.kind hlv
  have hlb:=hI.lb hlv;have hid:=hI.ob _ hlv;have hop:=hI.GD hlv;have hdl:=hI.GF hlv;have qH:=hI.MX hlv
  refine af.region (gK 3 (Uh f L d name) [] ?_)
  refine gL [0,1,2] (j3 S.X f m t hX S.O L d hkd name hsz ⟨tk,2⟩ hkt (by simp) hlk (hI.twice hd) (by omega) (by simp only at hlb ⊢;omega)) ?_
  rintro _ _ ⟨rfl,rfl⟩
  refine gK 1 [(6,.iface 169 (vP (L.b tk)))] [] ?_
  refine NS ?_
  have Uk:(obj (aR S.X S.O d name ⟨tk,2⟩) d).kind=2:=(cP).trans (hkd)
  have Ef:(obj (aR S.X S.O d name ⟨tk,2⟩) tk).kind=2:=(cP).trans (hkt)
  have y7:(obj (aR S.X S.O d name ⟨tk,2⟩) tk).id=(obj S.O tk).id:=dS (g:=aY.id) (fun _ _=>rfl) (fun _ _=>rfl) (fun _ _ _=>rfl)
  have y8:(obj (aR S.X S.O d name ⟨tk,2⟩) tk).opens=(obj S.O tk).opens:=dS (g:=aY.opens) (fun _ _=>rfl) (fun _ _=>rfl) (fun _ _ _=>rfl)
  have y9:(obj (aR S.X S.O d name ⟨tk,2⟩) tk).data=(obj S.O tk).data:=dS (g:=aY.data) (fun _ _=>rfl) (fun _ _=>rfl) (fun _ _ _=>rfl)
  generalize cT:(aR S.X S.O d name ⟨tk,2⟩)=ez at Uk Ef y7 y8 y9 ⊢
  refine gK 1 [(12,.iface 169 (vP (L.b tk)))] [] ?_
  refine gL [] (dN (L.b tk)) ?_
  rintro _ _ ⟨rfl,rfl⟩
  refine gK 1 [(7,vP (L.b tk))] [] ?_
  refine NS (gK 5 [(18,.bool (decide (((obj ez tk).links:Int)=(0:Int))))] [(3,v_ 1 (nL L Ef))] ?_)
  refine NN (af.aW (p:=((obj ez tk).links:Int)=(0:Int)) (fun _=>by kernel_rfl) (fun oU=>?_) (fun oU=>?_))
  ·refine SR (gK 3 [(21,.pointer (some ⟨(L.b tk),8,none⟩))] [] ?_)
   refine uL 1 [(2,1)] tk 8 (fun o=>{ o with gone:=true }) Ef (fun eZ dK=>?_)
   have Lm:=ku dK Uk
   have Q9:=ku dK Ef
   have Ul:(obj eZ tk).id=(obj S.O tk).id:=fu aY.id dK y7
   have Xp:(obj eZ tk).opens=(obj S.O tk).opens:=fu aY.opens dK y8
   have Xq:(obj eZ tk).data=(obj S.O tk).data:=fu aY.data dK y9
   refine NN (af.region (gK 2 [(22,vP f),(23,.iface 169 (vP (L.b tk)))] [] ?_))
   refine gL [1,0,3] (rP { S.X with ah:=S.X.ah - 1 } f m t (hI.Az hd hlk) eZ L S.idx hI.rise ⟨tk,2⟩ Q9 (by simp) (by rw [Xp];exact hop.1) (fun _=>by rw [Ul,hid.1];exact hlv) (by rw [Ul];exact qH) (by rw [Xq];exact hdl)) ?_
   rintro _ _ ⟨rfl,rfl⟩
   refine NL ?_
   exact RF (l:=[pF f m t { S.X with ah:=S.X.ah - 1,used:=jO eZ S.X.used ⟨tk,2⟩ },pO eZ L,pE eZ L,pI m L (iP eZ S.idx ⟨tk,2⟩)]) (.tuple #[]) [1,0,3,2,4] (⟨rfl,by subst dK;subst cT;rw [show aL S d name ⟨tk,2⟩=_ from uD oU]<;>rfl⟩)
  refine af.skip ?_
  exact RF (l:=[pF f m t { S.X with ah:=S.X.ah - 1 },pO ez L,pE ez L,pI m L S.idx]) (.tuple #[]) [0,1,2,3,4] (⟨rfl,by subst cT;rw [show aL S d name ⟨tk,2⟩=_ from uE oU]<;>rfl⟩)
 have hkt:(obj S.O tk).kind=3:=hI.kind hlv
 have hlb:=hI.lb hlv;have hid:=hI.ob _ hlv;have hop:=hI.GD hlv;have hdl:=hI.GF hlv;have qH:=hI.MX hlv
 refine af.region (gK 3 (Uh f L d name) [] ?_)
 refine gL [0,1,2] (j3 S.X f m t hX S.O L d hkd name hsz ⟨tk,3⟩ hkt (by simp) hlk (hI.twice hd) (by omega) (by simp only at hlb ⊢;omega)) ?_
 rintro _ _ ⟨rfl,rfl⟩
 refine gK 1 [(6,.iface 166 (vP (L.b tk)))] [] ?_
 refine NS ?_
 have Rh:(obj (aR S.X S.O d name ⟨tk,3⟩) d).kind=2:=(cP).trans (hkd)
 have C0:(obj (aR S.X S.O d name ⟨tk,3⟩) tk).kind=3:=(cP).trans (hkt)
 have y7:(obj (aR S.X S.O d name ⟨tk,3⟩) tk).id=(obj S.O tk).id:=dS (g:=aY.id) (fun _ _=>rfl) (fun _ _=>rfl) (fun _ _ _=>rfl)
 have y8:(obj (aR S.X S.O d name ⟨tk,3⟩) tk).opens=(obj S.O tk).opens:=dS (g:=aY.opens) (fun _ _=>rfl) (fun _ _=>rfl) (fun _ _ _=>rfl)
 have y9:(obj (aR S.X S.O d name ⟨tk,3⟩) tk).data=(obj S.O tk).data:=dS (g:=aY.data) (fun _ _=>rfl) (fun _ _=>rfl) (fun _ _ _=>rfl)
 generalize cT:(aR S.X S.O d name ⟨tk,3⟩)=ez at Rh C0 y7 y8 y9 ⊢
 refine gK 1 [(12,.iface 166 (vP (L.b tk)))] [] ?_
 refine gL [] (dN (L.b tk)) ?_
 rintro _ _ ⟨rfl,rfl⟩
 refine gK 1 [(7,vP (L.b tk))] [] ?_
 refine NS (gK 5 [(18,.bool (decide (((obj ez tk).links:Int)=(0:Int))))] [(3,v_ 1 (nL L C0))] ?_)
 refine NN (af.aW (p:=((obj ez tk).links:Int)=(0:Int)) (fun _=>by kernel_rfl) (fun oU=>?_) (fun oU=>?_))
 ·refine SR (gK 3 [(21,.pointer (some ⟨(L.b tk),8,none⟩))] [] ?_)
  refine uL 1 [(2,1)] tk 8 (fun o=>{ o with gone:=true }) C0 (fun eZ dK=>?_)
  have VE:=ku dK Rh
  have C2:=ku dK C0
  have Um:(obj eZ tk).id=(obj S.O tk).id:=fu aY.id dK y7
  have Xr:(obj eZ tk).opens=(obj S.O tk).opens:=fu aY.opens dK y8
  have Xs:(obj eZ tk).data=(obj S.O tk).data:=fu aY.data dK y9
  refine NN (af.region (gK 2 [(22,vP f),(23,.iface 166 (vP (L.b tk)))] [] ?_))
  refine gL [1,0,3] (rP { S.X with ah:=S.X.ah - 1 } f m t (hI.Az hd hlk) eZ L S.idx hI.rise ⟨tk,3⟩ C2 (by simp) (by rw [Xr];exact hop.1) (fun _=>by rw [Um,hid.1];exact hlv) (by rw [Um];exact qH) (by rw [Xs];exact hdl)) ?_
  rintro _ _ ⟨rfl,rfl⟩
  refine NL ?_
  exact RF (l:=[pF f m t { S.X with ah:=S.X.ah - 1,used:=jO eZ S.X.used ⟨tk,3⟩ },pO eZ L,pE eZ L,pI m L (iP eZ S.idx ⟨tk,3⟩)]) (.tuple #[]) [1,0,3,2,4] (⟨rfl,by subst dK;subst cT;rw [show aL S d name ⟨tk,3⟩=_ from uD oU]<;>rfl⟩)
 refine af.skip ?_
 exact RF (l:=[pF f m t { S.X with ah:=S.X.ah - 1 },pO ez L,pE ez L,pI m L S.idx]) (.tuple #[]) [0,1,2,3,4] (⟨rfl,by subst cT;rw [show aL S d name ⟨tk,3⟩=_ from uE oU]<;>rfl⟩)
theorem za {β:Bs} (S:aJ) (L:HL) (f m t:Nat) (hI:Inv S) (d:Nat) (hd:Live S.idx ⟨d,2⟩) (name:ByteArray) (hsz:name.size<=1048576) :
    Spec Tryz.prog β 191 #[vP f,vP (L.b d),.string name] [pF f m t S.X,pI m L S.idx,pE S.O L,pO S.O L] (fun v l=>v=vI (cQ S.X S.O S.idx d name)/\l=[pF f m t S.X,pI m L S.idx,pE S.O L,pO S.O L]):=by
 have hX:=hI.hX
 have hel:(obj S.O d).ah.length<=8192:=hI.iT hd
 have hkd:(obj S.O d).kind=2:=hI.kind hd
 refine Spec.enter Tryz.func191 rfl Tryz.ntmps191 (Nat.le_of_ble_eq_true rfl) (fun R=>?_)
 refine af.seq ?_
 rcases hI.pR hd name with hlk|⟨tk,hlk,hlv⟩|⟨tk,hlk,hlv⟩|⟨tk,hlk,hlv⟩
 ·refine af.region (gK 1 [] [] ?_)
  refine NN (af.seq (SR (gK 5 [(10,.map (some (L.m d))),(11,.string name)] [(3,v_ 3 (bQ L hkd))] ?_)))
  refine jg 2 hkd hlk ?_
  refine gK 1 [(13,.bool false)] [] ?_
  refine NN (CF (af.skip (NX (af.seq (SR (gK 1 [(14,vP f)] [] ?_))))))
  refine gL [0,1] (Hl S.X f m t L S.idx) ?_
  rintro _ _ ⟨rfl,rfl⟩
  refine gK 1 [(16,.bool (!(decide (((S.idx.length:Int) < S.X.cN/\S.X.last < 1099511627776/\S.X.ah < 8192)))))] [] ?_
  refine NN (af.fI (p:=((S.idx.length:Int) < S.X.cN/\S.X.last < 1099511627776/\S.X.ah < 8192)) (fun _=>by kernel_rfl) (fun vK=>?_) (fun vK=>?_))
  ·refine SR (gK 1 [(6,vI 177)] [] ?_)
   refine NN (af.ret (aj.aq ?_))
   exact RT (vI 177) [0,1,2,3,4] (⟨congrArg (Value.int .i64) (Eq.symm (show cQ S.X S.O S.idx d name=_ from (if_pos hlk).trans (if_neg vK))),rfl⟩)
  refine af.skip (NX (SR (gK 1 [(6,vI 0)] [] ?_)))
  refine NN (af.ret ?_)
  exact RT (vI 0) [0,1,2,3,4] (⟨congrArg (Value.int .i64) (Eq.symm (show cQ S.X S.O S.idx d name=_ from (if_pos hlk).trans (if_pos vK))),rfl⟩)
 ·have hkt:(obj S.O tk).kind=1:=hI.kind hlv
  refine af.region (gK 1 [] [] ?_)
  refine NN (af.seq (SR (gK 5 [(10,.map (some (L.m d))),(11,.string name)] [(3,v_ 3 (bQ L hkd))] ?_)))
  refine jg 2 hkd hlk ?_
  refine gK 1 [(13,.bool true)] [] ?_
  refine NN (CT (SR (gK 1 [(6,vI 171)] [] ?_)))
  refine NN (af.ret (aj.aq ?_))
  exact RT (vI 171) [0,1,2,3,4] (⟨congrArg (Value.int .i64) (Eq.symm (show cQ S.X S.O S.idx d name=_ from if_neg (by rw [hlk];simp))),rfl⟩)
 ·have hkt:(obj S.O tk).kind=2:=hI.kind hlv
  refine af.region (gK 1 [] [] ?_)
  refine NN (af.seq (SR (gK 5 [(10,.map (some (L.m d))),(11,.string name)] [(3,v_ 3 (bQ L hkd))] ?_)))
  refine jg 2 hkd hlk ?_
  refine gK 1 [(13,.bool true)] [] ?_
  refine NN (CT (SR (gK 1 [(6,vI 171)] [] ?_)))
  refine NN (af.ret (aj.aq ?_))
  exact RT (vI 171) [0,1,2,3,4] (⟨congrArg (Value.int .i64) (Eq.symm (show cQ S.X S.O S.idx d name=_ from if_neg (by rw [hlk];simp))),rfl⟩)
 have hkt:(obj S.O tk).kind=3:=hI.kind hlv
 refine af.region (gK 1 [] [] ?_)
 refine NN (af.seq (SR (gK 5 [(10,.map (some (L.m d))),(11,.string name)] [(3,v_ 3 (bQ L hkd))] ?_)))
 refine jg 2 hkd hlk ?_
 refine gK 1 [(13,.bool true)] [] ?_
 refine NN (CT (SR (gK 1 [(6,vI 171)] [] ?_)))
 refine NN (af.ret (aj.aq ?_))
 exact RT (vI 171) [0,1,2,3,4] (⟨congrArg (Value.int .i64) (Eq.symm (show cQ S.X S.O S.idx d name=_ from if_neg (by rw [hlk];simp))),rfl⟩)
theorem Sg {β:Bs} (s:ByteArray) (hsz:s.size<=1048576) :
    Spec Tryz.prog β 207 #[.string s] [] (fun v l=>v=vI (nQ s)/\l=[]):=by
 refine Spec.enter Tryz.func207 rfl Tryz.ntmps207 (Nat.le_of_ble_eq_true rfl) (fun R=>?_)
 refine SR (gK 1 [] [] ?_)
 refine NN (af.seq (af.block (SR ?_)))
 refine gK 3 [(3,.bool (decide ((s:ByteArray)=⟨#[]⟩)))] [(1,p_ ⟨[],none,none,none,some (.bool (decide ((s:ByteArray)=⟨#[]⟩)))⟩ [(Value.bool ((s:ByteArray).toList == (⟨#[]⟩:ByteArray).toList))=(.bool (decide ((s:ByteArray)=⟨#[]⟩)))] ⟨vC _ _,trivial⟩)] ?_
 refine NN (af.aW (p:=(s:ByteArray)=⟨#[]⟩) (fun _=>by kernel_rfl) (fun h3=>?_) (fun h3=>?_))
 ·refine SR (gK 1 [(2,vI 90)] [] ?_)
  refine NN (af.ret (aj.aK (aj.aq ?_)))
  exact RT (vI 90) [0] (⟨congrArg (Value.int .i64) (Eq.symm (show nQ s=_ from if_pos h3)),rfl⟩)
 refine SR (gK 4 [(6,.bool (decide (((((s:ByteArray).size:Nat):Int):Int) > (4096:Int))))] [] ?_)
 refine NN (af.aW (p:=((((s:ByteArray).size:Nat):Int):Int) > (4096:Int)) (fun _=>by kernel_rfl) (fun h6=>?_) (fun h6=>?_))
 ·refine SR (gK 1 [(2,vI 93)] [] ?_)
  refine NN (af.ret (aj.aK (aj.aq ?_)))
  exact RT (vI 93) [0] (⟨congrArg (Value.int .i64) (Eq.symm (show nQ s=_ from (if_neg h3).trans (if_pos (by omega)))),rfl⟩)
 refine SR (gK 1 [(11,.string s)] [] ?_)
 refine gL [] (Ja s) ?_
 rintro _ _ ⟨⟨x,rfl,hx⟩,rfl⟩
 refine gK 2 [(10,.bool (decide ((x:Int) ≥ (0:Int))))] [] ?_
 refine NN (af.aW (p:=(x:Int) ≥ (0:Int)) (fun _=>by kernel_rfl) (fun h10=>?_) (fun h10=>?_))
 ·refine SR (gK 1 [(2,vI 91)] [] ?_)
  refine NN (af.ret (aj.aK (aj.aq ?_)))
  exact RT (vI 91) [0] (⟨congrArg (Value.int .i64) (Eq.symm (show nQ s=_ from (if_neg h3).trans ((if_neg (by omega)).trans (if_neg (hx.1 (by omega)))))),rfl⟩)
 refine af.skip (aj.aO (NX (SR ?_)))
 refine gK 1 [(2,vI 0)] [] ?_
 refine NN (af.ret ?_)
 exact RT (vI 0) [0] (⟨congrArg (Value.int .i64) (Eq.symm (show nQ s=_ from (if_neg h3).trans ((if_neg (by omega)).trans (if_pos (Classical.byContradiction (fun hn=>absurd (hx.2 hn) (by omega))))))),rfl⟩)
theorem Hq {β:Bs} (S:aJ) (L:HL) (f m t:Nat) (th:Th) (hkt:(obj S.O th.k).kind=th.kind) (h3:th.kind=1\/th.kind=2\/th.kind=3) (hop:0<=(obj S.O th.k).opens/\(obj S.O th.k).opens<=1048576) :
    Spec Tryz.prog β 187 #[vP f,(eu L th)] [pF f m t S.X,pT t S.X.cH S.aD L S.us,pO S.O L] (fun v l=>v=.tuple #[vI (dg S th).1,vI (dg S th).2.1]/\l=[pF f m t S.X,pT t S.X.cH ((dg S th).2.2.aD) L ((dg S th).2.2.us),pO ((dg S th).2.2.O) L]):=by
 refine Spec.enter Tryz.func187 rfl Tryz.ntmps187 (Nat.le_of_ble_eq_true rfl) (fun R=>?_)
 refine af.seq ?_
 obtain⟨tk,kd⟩:=th;simp only at hkt h3;rcases Int.lt_or_le (S.us.length:Int) S.X.cH with AL|AL<;>rcases h3 with e0|e0|e0<;>subst e0
 ·replace hkt:(obj S.O tk).kind=1:=hkt
  replace hop:0<=(obj S.O tk).opens/\(obj S.O tk).opens<=1048576:=hop
  refine af.region (gK 2 [] [] ?_)
  refine NS (gK 5 [(12,vP t),(13,.iface 162 (vP (L.b tk)))] [(3,a_ 0 f)] ?_)
  refine gL [1] ((BA t S.X.cH S.aD (bH L S.us) (eu L ⟨tk,1⟩) (by rw [qw];exact AL)).mono (fun v l h=>D3 h)) ?_
  rintro _ _ ⟨rfl,rfl⟩
  refine gK 5 [(6,vI ((aF.least S.us))),(7,vI 0)] [] ?_
  refine NN (af.seq (SR (gK 2 [(18,.bool true)] [] ?_)))
  refine NN (CT (af.region (gK 1 [(19,.iface 162 (vP (L.b tk)))] [] ?_)))
  refine gL [] (dN (L.b tk)) ?_
  rintro _ _ ⟨rfl,rfl⟩
  refine gK 6 (Ui S tk L) [(2,v_ 2 (lD L hkt)),(3,p_ ⟨[],none,none,none,some (vI ((obj S.O tk).opens+1))⟩ [(Value.int .i64 (IntKind.wrap .i64 ((obj S.O tk).opens+1)))=(.int .i64 ((obj S.O tk).opens+1))] ⟨bC (by omega) (by omega) (by omega),trivial⟩)] ?_
  refine uL 2 [] tk 7 (fun o=>{ o with opens:=o.opens+1 }) hkt (fun ez cT=>?_)
  have Y0:=ku cT hkt
  refine NS (gK 4 [(4,vI ((aF.least S.us))),(5,vI 0)] [] ?_)
  refine NN (af.ret ?_)
  exact RT (l:=[pF f m t S.X,pT t S.X.cH (max S.aD ((S.us.length:Int)+1)) L (ins (aF.least S.us) ⟨tk,1⟩ S.us),pO ez L]) (.tuple #[vI ((aF.least S.us)),vI 0]) [1,0,2,3] (by subst cT;rw [show dg S ⟨tk,1⟩=_ from jD AL]<;>exact⟨rfl,rfl⟩)
 ·replace hkt:(obj S.O tk).kind=2:=hkt
  replace hop:0<=(obj S.O tk).opens/\(obj S.O tk).opens<=1048576:=hop
  refine af.region (gK 2 [] [] ?_)
  refine NS (gK 5 [(12,vP t),(13,.iface 169 (vP (L.b tk)))] [(3,a_ 0 f)] ?_)
  refine gL [1] ((BA t S.X.cH S.aD (bH L S.us) (eu L ⟨tk,2⟩) (by rw [qw];exact AL)).mono (fun v l h=>D3 h)) ?_
  rintro _ _ ⟨rfl,rfl⟩
  refine gK 5 [(6,vI ((aF.least S.us))),(7,vI 0)] [] ?_
  refine NN (af.seq (SR (gK 2 [(18,.bool true)] [] ?_)))
  refine NN (CT (af.region (gK 1 [(19,.iface 169 (vP (L.b tk)))] [] ?_)))
  refine gL [] (dN (L.b tk)) ?_
  rintro _ _ ⟨rfl,rfl⟩
  refine gK 6 (Ui S tk L) [(2,v_ 2 (lD L hkt)),(3,p_ ⟨[],none,none,none,some (vI ((obj S.O tk).opens+1))⟩ [(Value.int .i64 (IntKind.wrap .i64 ((obj S.O tk).opens+1)))=(.int .i64 ((obj S.O tk).opens+1))] ⟨bC (by omega) (by omega) (by omega),trivial⟩)] ?_
  refine uL 2 [] tk 7 (fun o=>{ o with opens:=o.opens+1 }) hkt (fun ez cT=>?_)
  have Rb:=ku cT hkt
  refine NS (gK 4 [(4,vI ((aF.least S.us))),(5,vI 0)] [] ?_)
  refine NN (af.ret ?_)
  exact RT (l:=[pF f m t S.X,pT t S.X.cH (max S.aD ((S.us.length:Int)+1)) L (ins (aF.least S.us) ⟨tk,2⟩ S.us),pO ez L]) (.tuple #[vI ((aF.least S.us)),vI 0]) [1,0,2,3] (by subst cT;rw [show dg S ⟨tk,2⟩=_ from jD AL]<;>exact⟨rfl,rfl⟩)
 ·replace hkt:(obj S.O tk).kind=3:=hkt
  replace hop:0<=(obj S.O tk).opens/\(obj S.O tk).opens<=1048576:=hop
  refine af.region (gK 2 [] [] ?_)
  refine NS (gK 5 [(12,vP t),(13,.iface 166 (vP (L.b tk)))] [(3,a_ 0 f)] ?_)
  refine gL [1] ((BA t S.X.cH S.aD (bH L S.us) (eu L ⟨tk,3⟩) (by rw [qw];exact AL)).mono (fun v l h=>D3 h)) ?_
  rintro _ _ ⟨rfl,rfl⟩
  refine gK 5 [(6,vI ((aF.least S.us))),(7,vI 0)] [] ?_
  refine NN (af.seq (SR (gK 2 [(18,.bool true)] [] ?_)))
  refine NN (CT (af.region (gK 1 [(19,.iface 166 (vP (L.b tk)))] [] ?_)))
  refine gL [] (dN (L.b tk)) ?_
  rintro _ _ ⟨rfl,rfl⟩
  refine gK 6 (Ui S tk L) [(2,v_ 2 (lD L hkt)),(3,p_ ⟨[],none,none,none,some (vI ((obj S.O tk).opens+1))⟩ [(Value.int .i64 (IntKind.wrap .i64 ((obj S.O tk).opens+1)))=(.int .i64 ((obj S.O tk).opens+1))] ⟨bC (by omega) (by omega) (by omega),trivial⟩)] ?_
  refine uL 2 [] tk 7 (fun o=>{ o with opens:=o.opens+1 }) hkt (fun ez cT=>?_)
  have FN:=ku cT hkt
  refine NS (gK 4 [(4,vI ((aF.least S.us))),(5,vI 0)] [] ?_)
  refine NN (af.ret ?_)
  exact RT (l:=[pF f m t S.X,pT t S.X.cH (max S.aD ((S.us.length:Int)+1)) L (ins (aF.least S.us) ⟨tk,3⟩ S.us),pO ez L]) (.tuple #[vI ((aF.least S.us)),vI 0]) [1,0,2,3] (by subst cT;rw [show dg S ⟨tk,3⟩=_ from jD AL]<;>exact⟨rfl,rfl⟩)
 ·replace hkt:(obj S.O tk).kind=1:=hkt
  replace hop:0<=(obj S.O tk).opens/\(obj S.O tk).opens<=1048576:=hop
  refine af.region (gK 2 [] [] ?_)
  refine NS (gK 5 [(12,vP t),(13,.iface 162 (vP (L.b tk)))] [(3,a_ 0 f)] ?_)
  refine gL [1] (yI t S.X.cH S.aD (bH L S.us) (eu L ⟨tk,1⟩) (by rw [qw];exact AL)) ?_
  rintro _ _ ⟨rfl,rfl⟩
  refine gK 5 [(6,vI 0),(7,vI 130)] [] ?_
  refine NN (af.seq (SR (gK 2 [(18,.bool false)] [] ?_)))
  refine NN (CF (af.skip (NX (SR (gK 4 [(4,vI 0),(5,vI 130)] [] ?_)))))
  refine NN (af.ret ?_)
  exact RT (.tuple #[vI 0,vI 130]) [1,0,2,3] (by skip;rw [show dg S ⟨tk,1⟩=_ from jW (by omega)]<;>exact⟨rfl,rfl⟩)
 ·replace hkt:(obj S.O tk).kind=2:=hkt
  replace hop:0<=(obj S.O tk).opens/\(obj S.O tk).opens<=1048576:=hop
  refine af.region (gK 2 [] [] ?_)
  refine NS (gK 5 [(12,vP t),(13,.iface 169 (vP (L.b tk)))] [(3,a_ 0 f)] ?_)
  refine gL [1] (yI t S.X.cH S.aD (bH L S.us) (eu L ⟨tk,2⟩) (by rw [qw];exact AL)) ?_
  rintro _ _ ⟨rfl,rfl⟩
  refine gK 5 [(6,vI 0),(7,vI 130)] [] ?_
  refine NN (af.seq (SR (gK 2 [(18,.bool false)] [] ?_)))
  refine NN (CF (af.skip (NX (SR (gK 4 [(4,vI 0),(5,vI 130)] [] ?_)))))
  refine NN (af.ret ?_)
  exact RT (.tuple #[vI 0,vI 130]) [1,0,2,3] (by skip;rw [show dg S ⟨tk,2⟩=_ from jW (by omega)]<;>exact⟨rfl,rfl⟩)
 replace hkt:(obj S.O tk).kind=3:=hkt
 replace hop:0<=(obj S.O tk).opens/\(obj S.O tk).opens<=1048576:=hop
 refine af.region (gK 2 [] [] ?_)
 refine NS (gK 5 [(12,vP t),(13,.iface 166 (vP (L.b tk)))] [(3,a_ 0 f)] ?_)
 refine gL [1] (yI t S.X.cH S.aD (bH L S.us) (eu L ⟨tk,3⟩) (by rw [qw];exact AL)) ?_
 rintro _ _ ⟨rfl,rfl⟩
 refine gK 5 [(6,vI 0),(7,vI 130)] [] ?_
 refine NN (af.seq (SR (gK 2 [(18,.bool false)] [] ?_)))
 refine NN (CF (af.skip (NX (SR (gK 4 [(4,vI 0),(5,vI 130)] [] ?_)))))
 refine NN (af.ret ?_)
 exact RT (.tuple #[vI 0,vI 130]) [1,0,2,3] (by skip;rw [show dg S ⟨tk,3⟩=_ from jW (by omega)]<;>exact⟨rfl,rfl⟩)
theorem uM {β:Bs} (S:aJ) (L:HL) (f m t:Nat) (hI:Inv S) (h:Int) (hw:(Lit.int .i64 h).wf=true) (name:ByteArray) (hsz:name.size<=1048576) (need:Int) :
    Spec Tryz.prog β 189 #[vP f,vI (h),.string name,vI (need)] [pF f m t S.X,pT t S.X.cH S.aD L S.us,pO S.O L] (fun v l=>v=Xd L (dP S.O S.us h name need)/\l=[pF f m t S.X,pT t S.X.cH S.aD L S.us,pO S.O L]):=by
 refine Spec.enter Tryz.func189 rfl Tryz.ntmps189 (Nat.le_of_ble_eq_true rfl) (fun R=>?_)
 refine af.seq ?_
 rcases hI.hand h with jw|⟨tk,jw,hlv⟩|⟨tk,jw,hlv⟩
 ·refine af.region (gK 2 [] [] ?_)
  refine NS (gK 5 [(18,vP t),(19,vI (h))] [(3,a_ 0 f)] ?_)
  refine gL [1] (yH t S.X.cH S.aD (bH L S.us) h hw (wL jw)) ?_
  rintro _ _ ⟨rfl,rfl⟩
  refine gK 5 [(10,.nilIface),(11,vI 131)] [] ?_
  refine NN (af.seq (SR (gK 2 [(24,.bool true)] [] ?_)))
  refine NN (CT (SR (gK 3 [(8,.pointer none),(9,vI 131)] [] ?_)))
  refine NN (af.ret (aj.aq ?_))
  exact RT (.tuple #[.pointer none,vI 131]) [1,0,2,3] (⟨by rw [show dP S.O S.us h name need=.error 131 by unfold dP;rw [jw]];rfl,rfl⟩)
 ·have hkt:(obj S.O tk).kind=1:=hI.kind hlv
  refine af.region (gK 2 [] [] ?_)
  refine NS (gK 5 [(18,vP t),(19,vI (h))] [(3,a_ 0 f)] ?_)
  refine gL [1] (tG t S.X.cH S.aD (bH L S.us) h hw (eu L ⟨tk,1⟩) (qA jw)) ?_
  rintro _ _ ⟨rfl,rfl⟩
  refine gK 5 [(10,.iface 162 (vP (L.b tk))),(11,vI 0)] [] ?_
  refine NN (af.seq (SR (gK 2 [(24,.bool false)] [] ?_)))
  refine NN (CF (af.skip (NX (SR (gK 7 [(12,.pointer none),(13,.bool false)] [] ?_)))))
  refine NN (af.seq (af.block (SR ?_)))
  refine gK 3 [(31,.bool true)] [] ?_
  refine NN (CT (SR (gK 2 [(8,.pointer none),(9,vI 173)] [] ?_)))
  refine NN (af.ret (aj.aK (aj.aq ?_)))
  exact RT (.tuple #[.pointer none,vI 173]) [1,0,2,3] (⟨by rw [show dP S.O S.us h name need=.error 173 by unfold dP;rw [jw];exact if_neg (by simp)];rfl,rfl⟩)
 have hkt:(obj S.O tk).kind=2:=hI.kind hlv
 refine af.region (gK 2 [] [] ?_)
 refine NS (gK 5 [(18,vP t),(19,vI (h))] [(3,a_ 0 f)] ?_)
 refine gL [1] (tG t S.X.cH S.aD (bH L S.us) h hw (eu L ⟨tk,2⟩) (qA jw)) ?_
 rintro _ _ ⟨rfl,rfl⟩
 refine gK 5 [(10,.iface 169 (vP (L.b tk))),(11,vI 0)] [] ?_
 refine NN (af.seq (SR (gK 2 [(24,.bool false)] [] ?_)))
 refine NN (CF (af.skip (NX (SR (gK 7 [(12,vP (L.b tk)),(13,.bool true)] [] ?_)))))
 refine NN (af.seq (af.block (SR ?_)))
 refine gK 3 [(31,.bool false)] [] ?_
 refine NN (CF (SR (gK 6 [(34,.bool (obj S.O tk).gone)] [(4,v_ 2 (rN L hkt))] ?_)))
 refine NN (af.cond (b:=(obj S.O tk).gone) (fun _=>by kernel_rfl) (fun Ax=>?_) (fun Ax=>?_))
 ·refine SR (gK 2 [(8,.pointer none),(9,vI 170)] [] ?_)
  refine NN (af.ret (aj.aK (aj.aq ?_)))
  exact RT (.tuple #[.pointer none,vI 170]) [1,0,2,3] (⟨by rw [show dP S.O S.us h name need=.error 170 by unfold dP;rw [jw];exact (if_pos rfl).trans (if_pos Ax)];rfl,rfl⟩)
 refine SR (gK 1 [(41,.string name)] [] ?_)
 refine gL [] (tD name hsz) ?_
 rintro _ _ ⟨rfl,rfl⟩
 refine gK 2 [(40,.bool (!(decide (bD name))))] [] ?_
 refine NN (af.fI (p:=bD name) (fun _=>by kernel_rfl) (fun C4=>?_) (fun C4=>?_))
 ·refine SR (gK 2 [(8,.pointer none),(9,vI 95)] [] ?_)
  refine NN (af.ret (aj.aK (aj.aq ?_)))
  exact RT (.tuple #[.pointer none,vI 95]) [1,0,2,3] (⟨by rw [show dP S.O S.us h name need=.error 95 by unfold dP;rw [jw];exact (if_pos rfl).trans ((if_neg (by rw [Ax];decide)).trans (if_neg C4))];rfl,rfl⟩)
 refine SR (gK 10 [(44,.bool (!(decide ((bits BinOp.and .i64 ((obj S.O tk).mode) need:Int)=(need:Int)))))] [(4,v_ 2 (tO L hkt))] ?_)
 refine NN (af.fI (p:=(bits BinOp.and .i64 ((obj S.O tk).mode) need:Int)=(need:Int)) (fun _=>by kernel_rfl) (fun Mt=>?_) (fun Mt=>?_))
 ·refine SR (gK 2 [(8,.pointer none),(9,vI 175)] [] ?_)
  refine NN (af.ret (aj.aK (aj.aq ?_)))
  exact RT (.tuple #[.pointer none,vI 175]) [1,0,2,3] (⟨by rw [show dP S.O S.us h name need=.error 175 by unfold dP;rw [jw];exact (if_pos rfl).trans ((if_neg (by rw [Ax];decide)).trans ((if_pos C4).trans (if_neg Mt)))];rfl,rfl⟩)
 refine af.skip (aj.aO (NX (SR ?_)))
 refine gK 3 [(8,vP (L.b tk)),(9,vI 0)] [] ?_
 refine NN (af.ret ?_)
 exact RT (.tuple #[vP (L.b tk),vI 0]) [1,0,2,3] (⟨by rw [show dP S.O S.us h name need=.ok tk by unfold dP;rw [jw];exact (if_pos rfl).trans ((if_neg (by rw [Ax];decide)).trans ((if_pos C4).trans (if_pos Mt)))];rfl,rfl⟩)
theorem Sh {β:Bs} (X:FM) (f m t:Nat) (hX:0<=X.ah/\X.ah<=1048576/\-1125899906842624<=X.used/\X.used<=1125899906842624/\0<=X.last/\X.last<=1125899906842624) (O:bU) (L:HL) (d:Nat) (hkd:(obj O d).kind=2) (name:ByteArray) (hsz:name.size<=1048576) (hno:aT name (obj O d).ah=none) (hel:(obj O d).ah.length<=1048576) (idx:Used Th) (hil:idx.length<=1048576) (th:Th) (hkt:(obj O th.k).kind=th.kind) (h3:th.kind=1\/th.kind=2\/th.kind=3) (hb:0<=(obj O th.k).links/\(obj O th.k).links<=1048576) (hni:aF.get idx (obj O th.k).id=none) (hw:(Lit.int .i64 (obj O th.k).id).wf=true) :
    Spec Tryz.prog β 193 #[vP f,vP (L.b d),.string name,(eu L th)] [pF f m t X,pI m L idx,pO O L,pE O L] (fun v l=>v=.tuple #[]/\l=[pF f m t { X with ah:=X.ah+1 },pI m L (ins (obj O th.k).id th idx),pO (dX X O d name th) L,pE (dX X O d name th) L]):=by
 refine Spec.enter Tryz.func193 rfl Tryz.ntmps193 (Nat.le_of_ble_eq_true rfl) (fun R=>?_)
 refine af.seq ?_
 obtain⟨tk,kd⟩:=th;simp only at hkt h3;rcases h3 with rfl|rfl|rfl
 ·replace hkt:(obj O tk).kind=1:=hkt
  replace hni:aF.get idx (obj O tk).id=none:=hni
  replace hw:(Lit.int .i64 (obj O tk).id).wf=true:=hw
  refine af.ck (S:=(xO f m t X L idx O R)) [0,1,2,3,4,9,5,6,7,8,10] 6 [0,1,2,3,4] (by kernel_rfl) (by kernel_rfl) rfl (by kernel_rfl) ?_
  refine gR 0 [5,6,7,8,10] (Ho f L d name++[(3,.iface 162 (vP (L.b tk))),(11,.map (some m)),(12,.iface 162 (vP (L.b tk))),(17,.iface 162 (vP (L.b tk)))]) [0,1,2,3,4,9] [(3,a_ 0 f)] ?_
  refine mL [0,1,2,3,4] [] (dN (L.b tk)) ?_ (by rintro _ _ ⟨rfl,rfl⟩;rfl)
  rintro _ _ ⟨rfl,rfl⟩
  refine aQ.cut (ι:=Unit) (fr':=fun (_:Unit)=>(C3 f L d name++[(3,.iface 162 (vP (L.b tk))),(11,.map (some m)),(14,vP (L.b tk)),(17,.iface 162 (vP (L.b tk)))])) (hp':=fun (_:Unit)=>(xO f m t X L idx O R)) [0,1,2,3,4] rfl rfl ?_ rfl (fun _=>by kernel_rfl) ?_
  ·refine gK 1 [(14,vP (L.b tk))] [] ?_
   refine NL ?_
   exact MD () [0,1,2,3,11,14,17] [0,1,2,3,4]
  rintro _
  refine aQ.cut (ι:=Unit) (fr':=fun (_:Unit)=>(C3 f L d name++[(3,.iface 162 (vP (L.b tk))),(11,.map (some m)),(15,vP (L.b tk)),(17,.iface 162 (vP (L.b tk)))])) (hp':=fun (_:Unit)=>(xO f m t X L idx O R)) [0,1,2,3,4] rfl rfl ?_ rfl (fun _=>by kernel_rfl) ?_
  ·refine gK 1 [(15,vP (L.b tk))] [] ?_
   refine NL ?_
   exact MD () [0,1,2,3,11,15,17] [0,1,2,3,4]
  rintro _
  refine aQ.cut (ι:=Unit) (fr':=fun (_:Unit)=>(C3 f L d name++[(3,.iface 162 (vP (L.b tk))),(11,.map (some m)),(16,vI ((obj O tk).id)),(17,.iface 162 (vP (L.b tk)))])) (hp':=fun (_:Unit)=>(xO f m t X L idx O R)) [0,1,2,3,4] rfl rfl ?_ rfl (fun _=>by kernel_rfl) ?_
  ·refine gK 1 [(16,vI ((obj O tk).id))] [(0,v_ 2 (rZ L hkt))] ?_
   refine NL ?_
   exact MD () [0,1,2,3,11,16,17] [0,1,2,3,4]
  rintro _
  refine aQ.last rfl rfl ?_
  refine ak.kU 1 (d:=none) (t:=151) (K:=3) (E:=156) (b:=m) (n:=idx.length) (f:=(bA (bH L idx))) (x:=(.tmp 11)) (ix:=(.tmp 16)) (y:=(.tmp 17)) (key:=.int .i64 ((obj O tk).id)) (u:=.iface 162 (vP (L.b tk))) (kl:=(.int .i64 (obj O tk).id)) (n':=(idx.length+1)) (f':=(bA (bH L (ins (obj O tk).id ⟨tk,1⟩ idx)))) (fun _=>by kernel_rfl) (by kernel_rfl) (fun _=>by kernel_rfl) (fun _=>by kernel_rfl) (fun _=>by kernel_rfl) dZ Tryz.underlying151 (by unfold maxLen;omega) (iR hw) (by rw [fV,hni];rfl) (sV (L:=L) (t:=⟨tk,1⟩) hni) ?_
  refine NL (aj.np (NX (af.region ?_)))
  refine gK 4 (Ug f L d name++[(21,.iface 162 (vP (L.b tk)))]) [] ?_
  refine gL [0,2,3] (jZ X f m t hX O L d hkd name hsz hno hel ⟨tk,1⟩ hkt (by simp) hb) ?_
  rintro _ _ ⟨rfl,rfl⟩
  refine NL (aj.fo [(3,.abs (aP Tryz.prog 3 m (bA (bH L (ins (obj O tk).id ⟨tk,1⟩ idx))) ((ins (obj O tk).id ⟨tk,1⟩ idx).length)))] (fun w hS=>by rw [show (ins (obj O tk).id ⟨tk,1⟩ idx).length=idx.length+1 from iG _ _ _];exact hS) ?_)
  exact RF (.tuple #[]) [0,3,1,2,4] (⟨rfl,rfl⟩)
 ·replace hkt:(obj O tk).kind=2:=hkt
  replace hni:aF.get idx (obj O tk).id=none:=hni
  replace hw:(Lit.int .i64 (obj O tk).id).wf=true:=hw
  refine af.ck (S:=(xO f m t X L idx O R)) [0,1,2,3,4,9,5,6,7,8,10] 6 [0,1,2,3,4] (by kernel_rfl) (by kernel_rfl) rfl (by kernel_rfl) ?_
  refine gR 0 [5,6,7,8,10] (Ho f L d name++[(3,.iface 169 (vP (L.b tk))),(11,.map (some m)),(12,.iface 169 (vP (L.b tk))),(17,.iface 169 (vP (L.b tk)))]) [0,1,2,3,4,9] [(3,a_ 0 f)] ?_
  refine mL [0,1,2,3,4] [] (dN (L.b tk)) ?_ (by rintro _ _ ⟨rfl,rfl⟩;rfl)
  rintro _ _ ⟨rfl,rfl⟩
  refine aQ.cut (ι:=Unit) (fr':=fun (_:Unit)=>(C3 f L d name++[(3,.iface 169 (vP (L.b tk))),(11,.map (some m)),(14,vP (L.b tk)),(17,.iface 169 (vP (L.b tk)))])) (hp':=fun (_:Unit)=>(xO f m t X L idx O R)) [0,1,2,3,4] rfl rfl ?_ rfl (fun _=>by kernel_rfl) ?_
  ·refine gK 1 [(14,vP (L.b tk))] [] ?_
   refine NL ?_
   exact MD () [0,1,2,3,11,14,17] [0,1,2,3,4]
  rintro _
  refine aQ.cut (ι:=Unit) (fr':=fun (_:Unit)=>(C3 f L d name++[(3,.iface 169 (vP (L.b tk))),(11,.map (some m)),(15,vP (L.b tk)),(17,.iface 169 (vP (L.b tk)))])) (hp':=fun (_:Unit)=>(xO f m t X L idx O R)) [0,1,2,3,4] rfl rfl ?_ rfl (fun _=>by kernel_rfl) ?_
  ·refine gK 1 [(15,vP (L.b tk))] [] ?_
   refine NL ?_
   exact MD () [0,1,2,3,11,15,17] [0,1,2,3,4]
  rintro _
  refine aQ.cut (ι:=Unit) (fr':=fun (_:Unit)=>(C3 f L d name++[(3,.iface 169 (vP (L.b tk))),(11,.map (some m)),(16,vI ((obj O tk).id)),(17,.iface 169 (vP (L.b tk)))])) (hp':=fun (_:Unit)=>(xO f m t X L idx O R)) [0,1,2,3,4] rfl rfl ?_ rfl (fun _=>by kernel_rfl) ?_
  ·refine gK 1 [(16,vI ((obj O tk).id))] [(0,v_ 2 (rZ L hkt))] ?_
   refine NL ?_
   exact MD () [0,1,2,3,11,16,17] [0,1,2,3,4]
  rintro _
  refine aQ.last rfl rfl ?_
  refine ak.kU 1 (d:=none) (t:=151) (K:=3) (E:=156) (b:=m) (n:=idx.length) (f:=(bA (bH L idx))) (x:=(.tmp 11)) (ix:=(.tmp 16)) (y:=(.tmp 17)) (key:=.int .i64 ((obj O tk).id)) (u:=.iface 169 (vP (L.b tk))) (kl:=(.int .i64 (obj O tk).id)) (n':=(idx.length+1)) (f':=(bA (bH L (ins (obj O tk).id ⟨tk,2⟩ idx)))) (fun _=>by kernel_rfl) (by kernel_rfl) (fun _=>by kernel_rfl) (fun _=>by kernel_rfl) (fun _=>by kernel_rfl) dZ Tryz.underlying151 (by unfold maxLen;omega) (iR hw) (by rw [fV,hni];rfl) (sV (L:=L) (t:=⟨tk,2⟩) hni) ?_
  refine NL (aj.np (NX (af.region ?_)))
  refine gK 4 (Ug f L d name++[(21,.iface 169 (vP (L.b tk)))]) [] ?_
  refine gL [0,2,3] (jZ X f m t hX O L d hkd name hsz hno hel ⟨tk,2⟩ hkt (by simp) hb) ?_
  rintro _ _ ⟨rfl,rfl⟩
  refine NL (aj.fo [(3,.abs (aP Tryz.prog 3 m (bA (bH L (ins (obj O tk).id ⟨tk,2⟩ idx))) ((ins (obj O tk).id ⟨tk,2⟩ idx).length)))] (fun w hS=>by rw [show (ins (obj O tk).id ⟨tk,2⟩ idx).length=idx.length+1 from iG _ _ _];exact hS) ?_)
  exact RF (.tuple #[]) [0,3,1,2,4] (⟨rfl,rfl⟩)
 replace hkt:(obj O tk).kind=3:=hkt
 replace hni:aF.get idx (obj O tk).id=none:=hni
 replace hw:(Lit.int .i64 (obj O tk).id).wf=true:=hw
 refine af.ck (S:=(xO f m t X L idx O R)) [0,1,2,3,4,9,5,6,7,8,10] 6 [0,1,2,3,4] (by kernel_rfl) (by kernel_rfl) rfl (by kernel_rfl) ?_
 refine gR 0 [5,6,7,8,10] (Ho f L d name++[(3,.iface 166 (vP (L.b tk))),(11,.map (some m)),(12,.iface 166 (vP (L.b tk))),(17,.iface 166 (vP (L.b tk)))]) [0,1,2,3,4,9] [(3,a_ 0 f)] ?_
 refine mL [0,1,2,3,4] [] (dN (L.b tk)) ?_ (by rintro _ _ ⟨rfl,rfl⟩;rfl)
 rintro _ _ ⟨rfl,rfl⟩
 refine aQ.cut (ι:=Unit) (fr':=fun (_:Unit)=>(C3 f L d name++[(3,.iface 166 (vP (L.b tk))),(11,.map (some m)),(14,vP (L.b tk)),(17,.iface 166 (vP (L.b tk)))])) (hp':=fun (_:Unit)=>(xO f m t X L idx O R)) [0,1,2,3,4] rfl rfl ?_ rfl (fun _=>by kernel_rfl) ?_
 ·refine gK 1 [(14,vP (L.b tk))] [] ?_
  refine NL ?_
  exact MD () [0,1,2,3,11,14,17] [0,1,2,3,4]
 rintro _
 refine aQ.cut (ι:=Unit) (fr':=fun (_:Unit)=>(C3 f L d name++[(3,.iface 166 (vP (L.b tk))),(11,.map (some m)),(15,vP (L.b tk)),(17,.iface 166 (vP (L.b tk)))])) (hp':=fun (_:Unit)=>(xO f m t X L idx O R)) [0,1,2,3,4] rfl rfl ?_ rfl (fun _=>by kernel_rfl) ?_
 ·refine gK 1 [(15,vP (L.b tk))] [] ?_
  refine NL ?_
  exact MD () [0,1,2,3,11,15,17] [0,1,2,3,4]
 rintro _
 refine aQ.cut (ι:=Unit) (fr':=fun (_:Unit)=>(C3 f L d name++[(3,.iface 166 (vP (L.b tk))),(11,.map (some m)),(16,vI ((obj O tk).id)),(17,.iface 166 (vP (L.b tk)))])) (hp':=fun (_:Unit)=>(xO f m t X L idx O R)) [0,1,2,3,4] rfl rfl ?_ rfl (fun _=>by kernel_rfl) ?_
 ·refine gK 1 [(16,vI ((obj O tk).id))] [(0,v_ 2 (rZ L hkt))] ?_
  refine NL ?_
  exact MD () [0,1,2,3,11,16,17] [0,1,2,3,4]
 rintro _
 refine aQ.last rfl rfl ?_
 refine ak.kU 1 (d:=none) (t:=151) (K:=3) (E:=156) (b:=m) (n:=idx.length) (f:=(bA (bH L idx))) (x:=(.tmp 11)) (ix:=(.tmp 16)) (y:=(.tmp 17)) (key:=.int .i64 ((obj O tk).id)) (u:=.iface 166 (vP (L.b tk))) (kl:=(.int .i64 (obj O tk).id)) (n':=(idx.length+1)) (f':=(bA (bH L (ins (obj O tk).id ⟨tk,3⟩ idx)))) (fun _=>by kernel_rfl) (by kernel_rfl) (fun _=>by kernel_rfl) (fun _=>by kernel_rfl) (fun _=>by kernel_rfl) dZ Tryz.underlying151 (by unfold maxLen;omega) (iR hw) (by rw [fV,hni];rfl) (sV (L:=L) (t:=⟨tk,3⟩) hni) ?_
 refine NL (aj.np (NX (af.region ?_)))
 refine gK 4 (Ug f L d name++[(21,.iface 166 (vP (L.b tk)))]) [] ?_
 refine gL [0,2,3] (jZ X f m t hX O L d hkd name hsz hno hel ⟨tk,3⟩ hkt (by simp) hb) ?_
 rintro _ _ ⟨rfl,rfl⟩
 refine NL (aj.fo [(3,.abs (aP Tryz.prog 3 m (bA (bH L (ins (obj O tk).id ⟨tk,3⟩ idx))) ((ins (obj O tk).id ⟨tk,3⟩ idx).length)))] (fun w hS=>by rw [show (ins (obj O tk).id ⟨tk,3⟩ idx).length=idx.length+1 from iG _ _ _];exact hS) ?_)
 exact RF (.tuple #[]) [0,3,1,2,4] (⟨rfl,rfl⟩)
end
section
open Go.RowKit Go.Maps bq aF
attribute [local irreducible] ak aU af aj
theorem wU {β:Bs} (S:aJ) (L:HL) (f m t:Nat) (hI:Inv0 S) (d:Nat) (hd:Live S.idx ⟨d,2⟩) (name:ByteArray) (hsz:name.size<=1048576) (hno:aT name (obj S.O d).ah=none) (o:aY) (hid:o.id=S.X.last+1) (hk3:o.kind=1\/o.kind=2\/o.kind=3) (hl0:o.links=0) (hlast:S.X.last < 1099511627776) :
    Spec Tryz.prog β 193 #[vP f,vP (L.b d),.string name,eu L ⟨(bJ S.X),o.kind⟩] [pF f m t { S.X with last:=S.X.last+1 },pI m L S.idx,pO (aN S.O (bJ S.X) (fun _=>o)) L,pE (aN S.O (bJ S.X) (fun _=>o)) L] (fun v l=>v=.tuple #[]/\l=[pF f m t ((gj S d name o).X),pI m L ((gj S d name o).idx),pO ((gj S d name o).O) L,pE ((gj S d name o).O) L]):=by
  have hX:=hI.hX
  have hne:d≠(bJ S.X):=hI.yK hd
  have hkd:(obj S.O d).kind=2:=hI.kind hd
  have hel:(obj S.O d).ah.length<=8192:=hI.iT hd
  have hlen:=hI.len
  have e1:obj (aN S.O (bJ S.X) (fun _=>o)) (bJ S.X)=o:=cA
  have e2:obj (aN S.O (bJ S.X) (fun _=>o)) d=obj S.O d:=ct hne
  have hnk:=sW hI
  have h:=Sh (β:=β) { S.X with last:=S.X.last+1 } f m t (by simp only;omega) (aN S.O (bJ S.X) (fun _=>o)) L d (by rw [e2];exact hkd) name hsz (by rw [e2];exact hno) (by rw [e2];omega) S.idx (by omega) ⟨(bJ S.X),o.kind⟩ (by rw [e1]) hk3 (by rw [e1,hl0];decide) (by
    rw [e1,hid]
    cases e:aF.get S.idx (S.X.last+1) with
    | none=>rfl
    | some u=>have:=(hI.idx _ u e).2.2;omega) (by rw [e1,hid];exact WalkArith.wf_i64 (by have:=hI.last;omega))
  rw [e1,hid] at h
  exact h
theorem EZ {β:Bs} (S:aJ) (L:HL) (f m t:Nat) (hI:Inv S) (d:Nat) (hd:Live S.idx ⟨d,2⟩) (name:ByteArray) (hsz:name.size<=1048576) (mode:Int) :
    Spec Tryz.prog β 190 #[vP f,vP (L.b d),.string name,vI (mode)] (pA f m t L S) (fun v l=>∃ L2,v=vI (gY S d name mode).1/\l=(pA f m t L2 ((gY S d name mode).2))):=by
 have hX:=hI.hX
 have hel:(obj S.O d).ah.length<=8192:=hI.iT hd
 have hkd:(obj S.O d).kind=2:=hI.kind hd
 refine Spec.enter Tryz.func190 rfl Tryz.ntmps190 (Nat.le_of_ble_eq_true rfl) (fun R=>?_)
 refine SR (gK 1 [] [] ?_)
 refine NS (gK 3 [(10,vP f),(11,vP (L.b d)),(12,.string name)] [] ?_)
 refine gL [0,1,5,3] (za S L f m t hI d hd name hsz) ?_
 rintro _ _ ⟨rfl,rfl⟩
 refine gK 1 [(9,vI ((cQ S.X S.O S.idx d name)))] [] ?_
 refine NN (af.seq (SR (gK 2 [(15,.bool (decide (((cQ S.X S.O S.idx d name):Int)=(0:Int))))] [] ?_)))
 refine NN (af.aW (p:=((cQ S.X S.O S.idx d name):Int)=(0:Int)) (fun _=>by kernel_rfl) (fun h0=>?_) (fun h0=>?_))
 ·have hno:=rF h0
  refine af.region (gK 5 [(16,vP f),(17,vP (L.b d)),(18,.string name),(19,vP f),(20,vI (mode))] [] ?_)
  refine gL [0] (y6 S.X f m t hX mode) ?_
  rintro _ _ ⟨rfl,rfl⟩
  refine ak.mz (d:=(some 22)) (t:=174) (fun _=>by kernel_rfl) Tryz.prog rfl 9 (fun m1=>?_)
  refine gN 3 (fun b2=>[(25,.iface 169 (vP b2))]) (fun _=>[]) (fun _=>[]) (fun b2=>.blk b2 [vI (S.X.last+1),vI (mode),vI 0,vI 0,vI (S.X.cS),vI (S.X.cZ),vI 0,vI 0,.bool false,.map (some m1),.pointer none] 176) (fun b2=>?_)
  obtain⟨L2,hL2⟩:∃ L2:HL,L2=L.put (bJ S.X) b2 m1 none 0:=⟨_,rfl⟩
  have hfr:=hI.toInv0.fresh
  refine ak.mem (fun w hS=>hS.zY hL2 hfr (o:=(bg S.X 2 mode)) (i:=3) (j:=8) (ix:=[0,1,2,4,5,6,7]) rfl rfl (by kernel_rfl) rfl (by show (2:Int)≠0;decide) ((ou (L:=L2) (k:=(bJ S.X)) (o:=(bg S.X 2 mode)) rfl).trans (by rw [GJ hL2];rfl)) rfl) ?_
  refine ak.mem (fun w hS=>hS.QT hL2 hfr (o:=(bg S.X 2 mode)) (i:=3) (j:=7) (ix:=[0,1,2,4,5,6]) rfl rfl (by kernel_rfl) rfl rfl rfl) ?_
  refine ak.fo [(5,pD (aN S.O (bJ S.X) (fun _=>(bg S.X 2 mode))) L2)] (fun w hS=>hS.CC hL2 (o:=(bg S.X 2 mode)) (i:=5) rfl (by show (2:Int)≠1;decide)) ?_
  refine ak.fo [(3,.abs (aP Tryz.prog 3 m (bA (bH L2 S.idx)) S.idx.length)),(4,.abs (dx 212 t S.X.cH S.aD (bH L2 S.us)))] (fun w hS=>by rw [kB hL2 hfr.idx,kB hL2 hfr.us];exact hS) ?_
  refine gL (f:=193) (args:=#[vP f,vP (L.b d),.string name,.iface 169 (vP b2)]) (pre:=[pF f m t { S.X with last:=S.X.last+1 },pI m L2 S.idx,pO (aN S.O (bJ S.X) (fun _=>(bg S.X 2 mode))) L2,pE (aN S.O (bJ S.X) (fun _=>(bg S.X 2 mode))) L2]) [2,3,1,0] ((by have h:=wU (β:=β) S L2 f m t hI.toInv0 d hd name hsz hno (bg S.X 2 mode) rfl (by simp [bg]) rfl (vr h0);rw [zX hL2 (hI.yK hd),sX hL2] at h;exact h)) ?_
  rintro _ _ ⟨rfl,rfl⟩
  refine NS (ak.fo [(5,.abs (aG (cg ((gj S d name (bg S.X 2 mode)).O) L2)))] (fun w hS=>by rw [show cg ((gj S d name (bg S.X 2 mode)).O) L2=cg (aN S.O (bJ S.X) (fun _=>(bg S.X 2 mode))) L2 from jX];exact hS) ?_)
  refine gK 2 [(8,vI ((cQ S.X S.O S.idx d name)))] [] ?_
  refine NN (af.ret ?_)
  exact RT (vI ((cQ S.X S.O S.idx d name))) [0,1,4,2,5,3,6] (⟨L2,by rw [show gY S d name mode=_ from if_pos h0];refine⟨congrArg _ h0,?_⟩;rfl⟩)
 refine af.skip (NX (SR (gK 2 [(8,vI ((cQ S.X S.O S.idx d name)))] [] ?_)))
 refine NN (af.ret ?_)
 exact RT (vI ((cQ S.X S.O S.idx d name))) [0,1,4,3,5,2,6] (⟨L,by rw [show gY S d name mode=_ from if_neg h0]<;>exact⟨rfl,rfl⟩⟩)
theorem Jo {β:Bs} (S:aJ) (L:HL) (f m t:Nat) (hI:Inv S) (d:Nat) (hd:Live S.idx ⟨d,2⟩) (name:ByteArray) (hsz:name.size<=1048576) (text:ByteArray) (Ri:text.size<=1048576) :
    Spec Tryz.prog β 194 #[vP f,vP (L.b d),.string name,.string text] (pA f m t L S) (fun v l=>∃ L2,v=vI (gF S d name text).1/\l=(pA f m t L2 ((gF S d name text).2))):=by
 have hX:=hI.hX
 have hel:(obj S.O d).ah.length<=8192:=hI.iT hd
 have hkd:(obj S.O d).kind=2:=hI.kind hd
 refine Spec.enter Tryz.func194 rfl Tryz.ntmps194 (Nat.le_of_ble_eq_true rfl) (fun R=>?_)
 refine SR (gK 1 [] [] ?_)
 refine NS (gK 1 [(10,.string text)] [] ?_)
 refine gL [] (Sg text Ri) ?_
 rintro _ _ ⟨rfl,rfl⟩
 refine gK 1 [(9,vI ((nQ text)))] [] ?_
 refine NN (af.seq (SR (gK 2 [(13,.bool (decide (((nQ text):Int)=(0:Int))))] [] ?_)))
 refine NN (af.aW (p:=((nQ text):Int)=(0:Int)) (fun _=>by kernel_rfl) (fun hb=>?_) (fun hb=>?_))
 ·refine af.region (gK 3 [(14,vP f),(15,vP (L.b d)),(16,.string name)] [] ?_)
  refine gL [0,1,5,3] (za S L f m t hI d hd name hsz) ?_
  rintro _ _ ⟨rfl,rfl⟩
  refine gK 1 [(9,vI ((cQ S.X S.O S.idx d name)))] [] ?_
  refine NN (af.seq (SR (gK 2 [(19,.bool (decide (((cQ S.X S.O S.idx d name):Int)=(0:Int))))] [] ?_)))
  refine NN (af.aW (p:=((cQ S.X S.O S.idx d name):Int)=(0:Int)) (fun _=>by kernel_rfl) (fun h0=>?_) (fun h0=>?_))
  ·have hno:=rF h0
   refine af.region (gK 4 [(20,vP f),(21,vP (L.b d)),(22,.string name),(23,vP f)] [] ?_)
   refine gL [0] (y6 S.X f m t hX 511) ?_
   rintro _ _ ⟨rfl,rfl⟩
   refine gN 4 (fun b3=>[(28,.iface 166 (vP b3))]) (fun _=>[]) (fun _=>[]) (fun b3=>.blk b3 [vI (S.X.last+1),vI (511),vI 0,vI 0,vI (S.X.cS),vI (S.X.cZ),vI 0,vI 0,.bool false,.string text] 168) (fun b3=>?_)
   obtain⟨L2,hL2⟩:∃ L2:HL,L2=L.put (bJ S.X) b3 0 none 0:=⟨_,rfl⟩
   have hfr:=hI.toInv0.fresh
   refine ak.mem (fun w hS=>hS.zY hL2 hfr (o:={ bg S.X 3 511 with target:=text }) (i:=3) (j:=7) (ix:=[0,1,2,4,5,6]) rfl rfl (by kernel_rfl) rfl (by show (3:Int)≠0;decide) ((yB (L:=L2) (k:=(bJ S.X)) (o:={ bg S.X 3 511 with target:=text }) rfl).trans (by rfl)) rfl) ?_
   refine ak.fo [(3,pE (aN S.O (bJ S.X) (fun _=>{ bg S.X 3 511 with target:=text })) L2)] (fun w hS=>hS.CB hL2 hfr (o:={ bg S.X 3 511 with target:=text }) (i:=3) rfl (by show (3:Int)≠2;decide)) ?_
   refine ak.fo [(5,pD (aN S.O (bJ S.X) (fun _=>{ bg S.X 3 511 with target:=text })) L2)] (fun w hS=>hS.CC hL2 (o:={ bg S.X 3 511 with target:=text }) (i:=5) rfl (by show (3:Int)≠1;decide)) ?_
   refine ak.fo [(2,.abs (aP Tryz.prog 3 m (bA (bH L2 S.idx)) S.idx.length)),(4,.abs (dx 212 t S.X.cH S.aD (bH L2 S.us)))] (fun w hS=>by rw [kB hL2 hfr.idx,kB hL2 hfr.us];exact hS) ?_
   refine gL (f:=193) (args:=#[vP f,vP (L.b d),.string name,.iface 166 (vP b3)]) (pre:=[pF f m t { S.X with last:=S.X.last+1 },pI m L2 S.idx,pO (aN S.O (bJ S.X) (fun _=>{ bg S.X 3 511 with target:=text })) L2,pE (aN S.O (bJ S.X) (fun _=>{ bg S.X 3 511 with target:=text })) L2]) [1,2,0,3] ((by have h:=wU (β:=β) S L2 f m t hI.toInv0 d hd name hsz hno { bg S.X 3 511 with target:=text } rfl (by simp [bg]) rfl (vr h0);rw [zX hL2 (hI.yK hd),sX hL2] at h;exact h)) ?_
   rintro _ _ ⟨rfl,rfl⟩
   refine NS (ak.fo [(5,.abs (aG (cg ((gj S d name { bg S.X 3 511 with target:=text }).O) L2)))] (fun w hS=>by rw [show cg ((gj S d name { bg S.X 3 511 with target:=text }).O) L2=cg (aN S.O (bJ S.X) (fun _=>{ bg S.X 3 511 with target:=text })) L2 from jX];exact hS) ?_)
   refine gK 2 [(8,vI ((cQ S.X S.O S.idx d name)))] [] ?_
   refine NN (af.ret ?_)
   exact RT (vI ((cQ S.X S.O S.idx d name))) [0,1,4,2,5,3,6] (⟨L2,by rw [show gF S d name text=_ from (if_pos hb).trans (if_pos h0)];refine⟨congrArg _ h0,?_⟩;rfl⟩)
  refine af.skip (NX (SR (gK 2 [(8,vI ((cQ S.X S.O S.idx d name)))] [] ?_)))
  refine NN (af.ret ?_)
  exact RT (vI ((cQ S.X S.O S.idx d name))) [0,1,4,3,5,2,6] (⟨L,by rw [show gF S d name text=_ from (if_pos hb).trans (if_neg h0)]<;>exact⟨rfl,rfl⟩⟩)
 refine af.skip (NX (af.seq (SR (gK 2 [(19,.bool (decide (((nQ text):Int)=(0:Int))))] [] ?_))))
 refine NN (af.aW (p:=((nQ text):Int)=(0:Int)) (fun _=>by kernel_rfl) (fun h0=>?_) (fun h0=>?_))
 ·exact absurd h0 hb
 refine af.skip (NX (SR (gK 2 [(8,vI ((nQ text)))] [] ?_)))
 refine NN (af.ret ?_)
 exact RT (vI ((nQ text))) [0,1,2,3,4,5,6] (⟨L,by rw [show gF S d name text=_ from if_neg hb]<;>exact⟨rfl,rfl⟩⟩)
theorem Lv {β:Bs} (S:aJ) (L:HL) (f m t:Nat) (hI:Inv S) (d:Nat) (hd:Live S.idx ⟨d,2⟩) (name:ByteArray) (hsz:name.size<=1048576) :
    Spec Tryz.prog β 197 #[vP f,vP (L.b d),.string name] (pA f m t L S) (fun v l=>∃ L2,v=vI (fP S d name).1/\l=(pA f m t L2 ((fP S d name).2))):=by
 have hX:=hI.hX
 have hel:(obj S.O d).ah.length<=8192:=hI.iT hd
 have hkd:(obj S.O d).kind=2:=hI.kind hd
 refine Spec.enter Tryz.func197 rfl Tryz.ntmps197 (Nat.le_of_ble_eq_true rfl) (fun R=>?_)
 refine af.seq ?_
 rcases hI.pR hd name with hlk|⟨tk,hlk,hlv⟩|⟨tk,hlk,hlv⟩|⟨tk,hlk,hlv⟩
 ·refine af.region (gK 1 [] [] ?_)
  refine NN (af.seq (SR (gK 5 [(10,.map (some (L.m d))),(11,.string name)] [(3,v_ 3 (bQ L hkd))] ?_)))
  refine jg 5 hkd hlk ?_
  refine NN (af.block (SR ?_))
  refine gK 1 [(13,.bool true)] [] ?_
  refine NN (CT (SR (gK 1 [(6,vI 170)] [] ?_)))
  refine NN (af.ret (aj.aK (aj.aq ?_)))
  exact RT (vI 170) [0,1,2,3,4,5,6] (⟨L,by rw [show fP S d name=(170,S) by unfold fP;rw [hlk]]<;>exact⟨rfl,rfl⟩⟩)
 ·have hkt:(obj S.O tk).kind=1:=hI.kind hlv
  refine af.region (gK 1 [] [] ?_)
  refine NN (af.seq (SR (gK 5 [(10,.map (some (L.m d))),(11,.string name)] [(3,v_ 3 (bQ L hkd))] ?_)))
  refine jg 5 hkd hlk ?_
  refine NN (af.block (SR ?_))
  refine gK 1 [(13,.bool false)] [] ?_
  refine NN (CF (SR (gK 3 [(15,.bool false)] [] ?_)))
  refine NN (CF (af.skip (aj.aO (NX (SR ?_)))))
  refine gK 3 [(17,vP f),(18,vP (L.b d)),(19,.string name)] [] ?_
  refine gL [0,3,5,1] (oH S L f m t hI d hd name hsz ⟨tk,1⟩ hlk) ?_
  rintro _ _ ⟨rfl,rfl⟩
  refine NS (ak.fo [(5,.abs (aG (cg ((aL S d name ⟨tk,1⟩).O) L)))] (fun w hS=>by rw [show cg ((aL S d name ⟨tk,1⟩).O) L=cg S.O L from oC];exact hS) ?_)
  refine gK 1 [(6,vI 0)] [] ?_
  refine NN (af.ret ?_)
  exact RT (vI 0) [0,3,4,1,5,2,6] (⟨L,by rw [show fP S d name=(0,aL S d name ⟨tk,1⟩) by unfold fP;rw [hlk];exact if_neg (by simp)]<;>exact⟨rfl,rfl⟩⟩)
 ·have hkt:(obj S.O tk).kind=2:=hI.kind hlv
  refine af.region (gK 1 [] [] ?_)
  refine NN (af.seq (SR (gK 5 [(10,.map (some (L.m d))),(11,.string name)] [(3,v_ 3 (bQ L hkd))] ?_)))
  refine jg 5 hkd hlk ?_
  refine NN (af.block (SR ?_))
  refine gK 1 [(13,.bool false)] [] ?_
  refine NN (CF (SR (gK 3 [(15,.bool true)] [] ?_)))
  refine NN (CT (SR (gK 1 [(6,vI 172)] [] ?_)))
  refine NN (af.ret (aj.aK (aj.aq ?_)))
  exact RT (vI 172) [0,1,2,3,4,5,6] (⟨L,by rw [show fP S d name=(172,S) by unfold fP;rw [hlk];exact if_pos rfl]<;>exact⟨rfl,rfl⟩⟩)
 have hkt:(obj S.O tk).kind=3:=hI.kind hlv
 refine af.region (gK 1 [] [] ?_)
 refine NN (af.seq (SR (gK 5 [(10,.map (some (L.m d))),(11,.string name)] [(3,v_ 3 (bQ L hkd))] ?_)))
 refine jg 5 hkd hlk ?_
 refine NN (af.block (SR ?_))
 refine gK 1 [(13,.bool false)] [] ?_
 refine NN (CF (SR (gK 3 [(15,.bool false)] [] ?_)))
 refine NN (CF (af.skip (aj.aO (NX (SR ?_)))))
 refine gK 3 [(17,vP f),(18,vP (L.b d)),(19,.string name)] [] ?_
 refine gL [0,3,5,1] (oH S L f m t hI d hd name hsz ⟨tk,3⟩ hlk) ?_
 rintro _ _ ⟨rfl,rfl⟩
 refine NS (ak.fo [(5,.abs (aG (cg ((aL S d name ⟨tk,3⟩).O) L)))] (fun w hS=>by rw [show cg ((aL S d name ⟨tk,3⟩).O) L=cg S.O L from oC];exact hS) ?_)
 refine gK 1 [(6,vI 0)] [] ?_
 refine NN (af.ret ?_)
 exact RT (vI 0) [0,3,4,1,5,2,6] (⟨L,by rw [show fP S d name=(0,aL S d name ⟨tk,3⟩) by unfold fP;rw [hlk];exact if_neg (by simp)]<;>exact⟨rfl,rfl⟩⟩)
theorem Nx {β:Bs} (S:aJ) (L:HL) (f m t:Nat) (hI:Inv S) (d:Nat) (hd:Live S.idx ⟨d,2⟩) (name:ByteArray) (hsz:name.size<=1048576) :
    Spec Tryz.prog β 203 #[vP f,vP (L.b d),.string name] (pA f m t L S) (fun v l=>∃ L2,v=vI (gq S d name).1/\l=(pA f m t L2 ((gq S d name).2))):=by
 have hX:=hI.hX
 have hel:(obj S.O d).ah.length<=8192:=hI.iT hd
 have hkd:(obj S.O d).kind=2:=hI.kind hd
 refine Spec.enter Tryz.func203 rfl Tryz.ntmps203 (Nat.le_of_ble_eq_true rfl) (fun R=>?_)
 refine af.seq ?_
 rcases hI.pR hd name with hlk|⟨tk,hlk,hlv⟩|⟨tk,hlk,hlv⟩|⟨tk,hlk,hlv⟩
 ·refine af.region (gK 1 [] [] ?_)
  refine NS (gK 5 [(13,.map (some (L.m d))),(14,.string name)] [(3,v_ 3 (bQ L hkd))] ?_)
  refine jg 5 hkd hlk ?_
  refine gK 1 [(7,.nilIface)] [] ?_
  refine NN (af.seq (SR (gK 2 [(17,.bool true)] [] ?_)))
  refine NN (CT (SR (gK 1 [(6,vI 170)] [] ?_)))
  refine NN (af.ret (aj.aq ?_))
  exact RT (vI 170) [0,1,2,3,4,5,6] (⟨L,by skip;rw [show gq S d name=(170,S) by unfold gq;rw [hlk]]<;>exact⟨rfl,rfl⟩⟩)
 ·have hkt:(obj S.O tk).kind=1:=hI.kind hlv
  refine af.region (gK 1 [] [] ?_)
  refine NS (gK 5 [(13,.map (some (L.m d))),(14,.string name)] [(3,v_ 3 (bQ L hkd))] ?_)
  refine jg 5 hkd hlk ?_
  refine gK 1 [(7,.iface 162 (vP (L.b tk)))] [] ?_
  refine NN (af.seq (SR (gK 2 [(17,.bool false)] [] ?_)))
  refine NN (CF (af.skip (NX (SR (gK 7 [(8,.pointer none),(9,.bool false)] [] ?_)))))
  refine NN (af.seq (SR (gK 2 [(24,.bool true)] [] ?_)))
  refine NN (CT (SR (gK 1 [(6,vI 173)] [] ?_)))
  refine NN (af.ret (aj.aq ?_))
  exact RT (vI 173) [0,1,2,3,4,5,6] (⟨L,by skip;rw [show gq S d name=(173,S) by unfold gq;rw [hlk];exact if_neg (by simp)]<;>exact⟨rfl,rfl⟩⟩)
 ·have hkt:(obj S.O tk).kind=2:=hI.kind hlv
  have Zh:(obj S.O tk).ah.length<=8192:=hI.iT hlv
  refine af.region (gK 1 [] [] ?_)
  refine NS (gK 5 [(13,.map (some (L.m d))),(14,.string name)] [(3,v_ 3 (bQ L hkd))] ?_)
  refine jg 5 hkd hlk ?_
  refine gK 1 [(7,.iface 169 (vP (L.b tk)))] [] ?_
  refine NN (af.seq (SR (gK 2 [(17,.bool false)] [] ?_)))
  refine NN (CF (af.skip (NX (SR (gK 7 [(8,vP (L.b tk)),(9,.bool true)] [] ?_)))))
  refine NN (af.seq (SR (gK 2 [(24,.bool false)] [] ?_)))
  refine NN (CF (af.skip (NX (af.seq (SR (gK 4 [(28,.map (some (L.m tk)))] [(3,v_ 3 (bQ L hkt))] ?_))))))
  refine Yf 5 hkt ?_
  refine gK 1 [(30,.bool (decide (((((obj S.O tk).ah.length:Nat):Int):Int) > (0:Int))))] [] ?_
  refine NN (af.aW (p:=((((obj S.O tk).ah.length:Nat):Int):Int) > (0:Int)) (fun _=>by kernel_rfl) (fun uN=>?_) (fun uN=>?_))
  ·refine SR (gK 1 [(6,vI 178)] [] ?_)
   refine NN (af.ret (aj.aq ?_))
   exact RT (vI 178) [0,1,2,3,4,5,6] (⟨L,by skip;rw [show gq S d name=(178,S) by unfold gq;rw [hlk];exact (if_pos rfl).trans (if_neg (fun e=>by rw [show (obj S.O tk).ah=[] from e] at uN;simp at uN))]<;>exact⟨rfl,rfl⟩⟩)
  refine af.skip (NX (SR (gK 3 [(31,vP f),(32,vP (L.b d)),(33,.string name)] [] ?_)))
  refine gL [0,3,5,1] (oH S L f m t hI d hd name hsz ⟨tk,2⟩ hlk) ?_
  rintro _ _ ⟨rfl,rfl⟩
  refine NS (ak.fo [(5,.abs (aG (cg ((aL S d name ⟨tk,2⟩).O) L)))] (fun w hS=>by rw [show cg ((aL S d name ⟨tk,2⟩).O) L=cg S.O L from oC];exact hS) ?_)
  have yZ:(obj (aL S d name ⟨tk,2⟩).O d).kind=2:=(CA).trans (hkd)
  have Lj:(obj (aL S d name ⟨tk,2⟩).O tk).kind=2:=(CA).trans (hkt)
  generalize cT:(aL S d name ⟨tk,2⟩).O=ez at yZ Lj ⊢
  refine gK 3 [(37,.pointer (some ⟨(L.b tk),10,none⟩))] [] ?_
  refine Wf 1 [(2,1),(5,2)] tk (none) Lj (fun eZ dK=>?_)
  have Uf:=ku dK yZ
  have Ll:=ku dK Lj
  refine NS (gK 1 [(6,vI 0)] [] ?_)
  refine NN (af.ret ?_)
  exact RT (l:=[pF f m t ((aL S d name ⟨tk,2⟩).X),pI m L ((aL S d name ⟨tk,2⟩).idx),pT t S.X.cH S.aD L S.us,pO eZ L,pD eZ L,pE eZ L]) (.int .i64 0) [0,3,4,1,5,2,6] (⟨L,by subst dK;subst cT;rw [show gq S d name=(0,{ aL S d name ⟨tk,2⟩ with O:=orphan (aL S d name ⟨tk,2⟩).O tk }) by unfold gq;rw [hlk];exact (if_pos rfl).trans (if_pos (List.eq_nil_of_length_eq_zero (by show (obj S.O tk).ah.length=0;omega)))]<;>exact⟨rfl,rfl⟩⟩)
 have hkt:(obj S.O tk).kind=3:=hI.kind hlv
 refine af.region (gK 1 [] [] ?_)
 refine NS (gK 5 [(13,.map (some (L.m d))),(14,.string name)] [(3,v_ 3 (bQ L hkd))] ?_)
 refine jg 5 hkd hlk ?_
 refine gK 1 [(7,.iface 166 (vP (L.b tk)))] [] ?_
 refine NN (af.seq (SR (gK 2 [(17,.bool false)] [] ?_)))
 refine NN (CF (af.skip (NX (SR (gK 7 [(8,.pointer none),(9,.bool false)] [] ?_)))))
 refine NN (af.seq (SR (gK 2 [(24,.bool true)] [] ?_)))
 refine NN (CT (SR (gK 1 [(6,vI 173)] [] ?_)))
 refine NN (af.ret (aj.aq ?_))
 exact RT (vI 173) [0,1,2,3,4,5,6] (⟨L,by skip;rw [show gq S d name=(173,S) by unfold gq;rw [hlk];exact if_neg (by simp)]<;>exact⟨rfl,rfl⟩⟩)
end
end Go.Proofs.YtiehgnlnofhbaaaGreatDoor
