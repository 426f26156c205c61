/-
  PROVED HERE: lemmas and contracts of functions (texts of this repo, joined; what the claim does not use is left out): Hu, TabMath2, Hv, Hw, Hx, Hy, Hz, Ac, Wo, Wx, ShelfS, SK, HG, Vp, Fz, Ws, GOk, Nw, Wn, WD, Hc, Hd, H1, H2, H3.
  CONDITIONS: as the theorems say.
-/
import Derived.Test.YtidjcblbdmfalaaGreatMWfails2
import Derived.Lib.Split
import Derived.Shelf.SlGeneric
import Derived.Shelf.SlIter.Nil
import Derived.Shelf.SortM.Plain
import Derived.Shelf.SortM.SortNone
import Derived.Ground.GgzProg
import Derived.Ground.SlgmProg
import Derived.Test.YtidjcblbdmfalaaGreatProg
set_option maxRecDepth 100000
set_option maxHeartbeats 4000000
namespace Go.Proofs.YtidjcblbdmfalaaGreat
section
open Go.RowKit Go.Maps bL aB
section new
variable {S:aG} {d:Nat} {name:ByteArray} {t:Th} {o:aT} {us':Used Th} {fT:Int}
theorem Inv0.newAt (hI:Inv0 S) {k0:Nat} (hlt:S.X.last < (k0:Int)) (hle:(k0:Int)<=1099511627776) {j5:Int} (U5:j5=S.X.used+o.data.length/\j5<=140737488355328) (hid:o.id=(k0:Int)) (hk3:o.kind=1\/o.kind=2\/o.kind=3) (hl0:o.links=0) (he0:o.ah=[]) (hu0:o.up=none) (hg0:o.gone=false) (hm:kf o) (hlen:S.idx.length < 4096)
    (u1:aB.dh (keys us')) (u2:∀ x∈keys us',1<=x/\x<=fT) (u3:(us'.length:Int)<=S.X.cH) (u4:0<=fT/\fT<=S.X.cH) (u5:∀ h t,aB.get us' h=some t->(Live S.idx t\/t=⟨k0,o.kind⟩)/\t.kind≠3) (u6:∀ k,k≠k0->hnd us' k=hnd S.us k) (u7:o.opens=(hnd us' (k0):Int)) :
    Inv0 { S with X:={ S.X with last:=(k0:Int),used:=j5 },O:=ay S.O (k0) (fun _=>o),idx:=ins ((k0:Int)) ⟨k0,o.kind⟩ S.idx,us:=us',av:=fT }:=by
  have hnot:aB.get S.idx ((k0:Int))=none:=by
    cases e:aB.get S.idx ((k0:Int)) with
    | none=>rfl
    | some u=>have:=(hI.idx _ u e).2.2;omega
  have hget:∀ i,aB.get (ins ((k0:Int)) ⟨k0,o.kind⟩ S.idx) i=if i=(k0:Int) then some ⟨k0,o.kind⟩ else aB.get S.idx i:=fun i=>qV (get_none.1 hnot) i
  have eW:∀ x,Live (ins ((k0:Int)) ⟨k0,o.kind⟩ S.idx) x↔x=⟨k0,o.kind⟩\/Live S.idx x:=fun x=>by
    unfold Live
    rw [hget]
    constructor
    ·intro h
     split at h
     ·exact .inl (Option.some.inj h).symm
     exact .inr h
    rintro (h|h)
    ·subst h;rw [if_pos rfl]
    rw [if_neg (by intro e;rw [e,hnot] at h;cases h)];exact h
  have oN:obj (ay S.O (k0) (fun _=>o)) (k0)=o:=bP
  have oX:∀ x,Live S.idx x->obj (ay S.O (k0) (fun _=>o)) x.k=obj S.O x.k:=fun x hx=>cD (hI.free hlt hx)
  have hfr:=hI.Cc hlt
  have hmem:∀ p∈S.idx,obj (ay S.O (k0) (fun _=>o)) p.2.k=obj S.O p.2.k:=fun p hp=>cD (hfr.idx p hp)
  have hsum:∀ g:aT->Nat,g o=0->dK (fun p:Int×Th=>g (obj (ay S.O (k0) (fun _=>o)) p.2.k)) (ins ((k0:Int)) ⟨k0,o.kind⟩ S.idx)=dK (fun p:Int×Th=>g (obj S.O p.2.k)) S.idx:=fun g hg=>by
    rw [zk]
    show g (obj _ (k0))+_=_
    rw [oN,hg,Nat.zero_add]
    exact fS (fun p hp=>by rw [hmem p hp])
  refine { hI with last:=?_,rise:=?_,len:=?_,idx:=fun i x e=>?_,ob:=fun x hx=>?_,mt:=fun x hx=>?_,ah:=fun x hx e he=>?_,sorted:=fun x hx=>?_,dead:=fun x hx=>?_,qH:=fun x hx=>?_,total:=?_,links:=fun x hx=>?_,once:=fun x hx hk=>?_,opens:=fun x hx=>?_,usr:=u1,wD:=u2,Am:=u3,av:=u4,us:=fun h x e=>?_,gone:=fun x hx iY=>?_,up:=fun x hx e=>?_,deep:=?_,used:=?_ }
  ·have:=hI.last
   show 0<=(k0:Int)/\(k0:Int)<=1099511627776
   omega
  ·exact uN hI.rise (get_none.1 hnot)
  ·have:=hI.cN
   show (ins ((k0:Int)) _ S.idx).length<=4096
   rw [iJ];omega
  ·have e:aB.get (ins ((k0:Int)) ⟨k0,o.kind⟩ S.idx) i=some x:=e
   rw [hget] at e
   have:=hI.last
   show i=(x.k:Int)/\0 < i/\i<=(k0:Int)
   split at e
   ·cases e
    rename_i e2
    refine⟨by rw [e2],by omega,by omega⟩
   have:=hI.idx i x e
   omega
  ·show (obj (ay S.O (k0) (fun _=>o)) x.k).id=_/\(obj (ay S.O (k0) (fun _=>o)) x.k).kind=_/\_
   rcases (eW x).1 hx with h|h
   ·subst h;rw [oN];exact⟨hid,rfl,hk3⟩
   rw [oX x h];exact hI.ob x h
  ·show kf (obj (ay S.O (k0) (fun _=>o)) x.k)
   rcases (eW x).1 hx with h|h
   ·subst h;rw [oN];exact hm
   rw [oX x h];exact hI.mt x h
  ·have he:e∈(obj (ay S.O (k0) (fun _=>o)) x.k).ah:=he
   rcases (eW x).1 hx with h|h
   ·subst h;rw [oN,he0] at he;cases he
   rw [oX x h] at he
   have h1:=hI.ah x h e he
   exact⟨h1.1,(eW _).2 (.inr h1.2)⟩
  ·show jy (obj (ay S.O (k0) (fun _=>o)) x.k).ah
   rcases (eW x).1 hx with h|h
   ·subst h;rw [oN,he0];exact List.Pairwise.nil
   rw [oX x h];exact hI.sorted x h
  ·show (obj (ay S.O (k0) (fun _=>o)) x).ah=[]/\(obj (ay S.O (k0) (fun _=>o)) x).up=none
   have h1:x≠k0:=fun e=>hx ⟨k0,o.kind⟩ ((eW _).2 (.inl rfl)) e.symm
   rw [cD h1]
   exact hI.dead x (fun u hu=>hx u ((eW _).2 (.inr hu)))
  ·have hx:(k0:Int) < (x:Int):=hx
   show (obj (ay S.O (k0) (fun _=>o)) x).kind=0
   rw [cD (fun e=>by rw [e] at hx;omega)]
   exact hI.qH x (by omega)
  ·show S.X.ah=(tot _ _:Int)/\S.X.ah<=8192
   have:tot (ins ((k0:Int)) ⟨k0,o.kind⟩ S.idx) (ay S.O (k0) (fun _=>o))=tot S.idx S.O:=hsum (fun o=>o.ah.length) (by rw [he0];rfl)
   rw [this];exact hI.total
  ·show (obj (ay S.O (k0) (fun _=>o)) x.k).links=(iM _ _ x.k:Int)
   have:iM (ins ((k0:Int)) ⟨k0,o.kind⟩ S.idx) (ay S.O (k0) (fun _=>o)) x.k=iM S.idx S.O x.k:=hsum (fun o=>o.ah.countP (fun e:ByteArray×Th=>decide (e.2.k=x.k))) (by rw [he0];rfl)
   rw [this]
   rcases (eW x).1 hx with h|h
   ·subst h
    rw [oN,hl0]
    have:iM S.idx S.O (k0)=0:=by
      apply Classical.byContradiction
      intro hne
      obtain⟨i,u,hu,e,he,hek⟩:=Ap hI.rise (Nat.pos_of_ne_zero hne)
      exact hfr.ah u.k e he hek
    rw [this];rfl
   rw [oX x h];exact hI.links x h
  ·show (obj (ay S.O (k0) (fun _=>o)) x.k).links<=1
   rcases (eW x).1 hx with h|h
   ·subst h;rw [oN,hl0];decide
   rw [oX x h];exact hI.once x h hk
  ·show (obj (ay S.O (k0) (fun _=>o)) x.k).opens=(hnd us' x.k:Int)
   rcases (eW x).1 hx with h|h
   ·subst h;rw [oN];exact u7
   rw [oX x h,u6 _ (hI.free hlt h)];exact hI.opens x h
  ·obtain⟨h1,h2⟩:=u5 h x e
   exact⟨(eW x).2 h1.symm,h2⟩
  ·have iY:(obj (ay S.O (k0) (fun _=>o)) x.k).gone=true:=iY
   show (obj (ay S.O (k0) (fun _=>o)) x.k).links=0/\(obj (ay S.O (k0) (fun _=>o)) x.k).ah=[]
   rcases (eW x).1 hx with h|h
   ·subst h;rw [oN,hg0] at iY;cases iY
   rw [oX x h] at iY ⊢;exact hI.gone x h iY
  ·show (obj (ay S.O (k0) (fun _=>o)) x.k).up=some e↔x.kind=2/\Live _ ⟨e,2⟩/\∃ n,aU n (obj (ay S.O (k0) (fun _=>o)) e).ah=some x
   rcases (eW x).1 hx with h|h
   ·subst h
    rw [oN,hu0]
    constructor
    ·intro h;cases h
    rintro⟨_,hle,n,h⟩
    by_cases e2:e=k0
    ·rw [e2,oN,he0] at h;cases h
    rw [cD e2] at h;exact absurd rfl (hfr.ah e _ (lH h))
   rw [oX x h,hI.up x h e]
   constructor
   ·rintro⟨h1,h2,n,h3⟩
    exact⟨h1,(eW _).2 (.inr h2),n,by rw [oX ⟨e,2⟩ h2];exact h3⟩
   rintro⟨h1,h2,n,h3⟩
   by_cases e2:e=k0
   ·rw [e2,oN,he0] at h3;cases h3
   rw [cD e2] at h3
   refine⟨h1,?_,n,h3⟩
   rcases (eW _).1 h2 with h4|h4
   ·exact absurd (congrArg Th.k h4) e2
   exact h4
  ·obtain⟨dp,hdp⟩:=hI.deep
   refine⟨dp,fun x e hx=>?_⟩
   have hx:(obj (ay S.O (k0) (fun _=>o)) x).up=some e:=hx
   by_cases e2:x=k0
   ·rw [e2,oN,hu0] at hx;cases hx
   rw [cD e2] at hx;exact hdp _ _ hx
  show j5=(bytes _ _:Int)/\_
  have h1:bytes (ins (k0:Int) ⟨k0,o.kind⟩ S.idx) (ay S.O k0 (fun _=>o))=o.data.length+bytes S.idx S.O:=by
    unfold bytes
    rw [zk]
    show (obj _ k0).data.length+_=_
    rw [oN]
    congr 1
    exact fS (fun p hp=>by rw [hmem p hp])
  have h2:=hI.used
  rw [h1]
  show j5=_/\j5<=140737488355328
  omega
theorem Inv0.new (hI:Inv0 S) (hid:o.id=S.X.last+1) (hk3:o.kind=1\/o.kind=2\/o.kind=3) (hl0:o.links=0) (he0:o.ah=[]) (hu0:o.up=none) (hg0:o.gone=false) (PN:o.data=[]) (hm:kf o) (hlast:S.X.last < 1099511627776) (hlen:(S.idx.length:Int) < S.X.cN)
    (u1:aB.dh (keys us')) (u2:∀ x∈keys us',1<=x/\x<=fT) (u3:(us'.length:Int)<=S.X.cH) (u4:0<=fT/\fT<=S.X.cH) (u5:∀ h t,aB.get us' h=some t->(Live S.idx t\/t=⟨aN S.X,o.kind⟩)/\t.kind≠3) (u6:∀ k,k≠aN S.X->hnd us' k=hnd S.us k) (u7:o.opens=(hnd us' (aN S.X):Int)) :
    Inv0 { S with X:={ S.X with last:=S.X.last+1 },O:=ay S.O (aN S.X) (fun _=>o),idx:=ins (S.X.last+1) ⟨aN S.X,o.kind⟩ S.idx,us:=us',av:=fT }:=by
  have hnk:=oW hI
  have h:=hI.newAt (k0:=aN S.X) (j5:=S.X.used) (by omega) (by omega) ⟨by rw [PN];simp,hI.used.2⟩ (hid.trans hnk.symm) hk3 hl0 he0 hu0 hg0 hm (by have:=hI.cN;omega) u1 u2 u3 u4 u5 u6 u7
  rw [hnk] at h
  exact h
theorem Inv.add (hI:Inv S) (hd:Live S.idx ⟨d,2⟩) (iN:(obj S.O d).gone=false) (hn:aU name (obj S.O d).ah=none) (iH:bJ name) (hroom:Room S.X S.idx)
    (hid:o.id=S.X.last+1) (hk3:o.kind=1\/o.kind=2\/o.kind=3) (hl0:o.links=0) (he0:o.ah=[]) (hu0:o.up=none) (hg0:o.gone=false) (PN:o.data=[]) (hm:kf o)
    (u1:aB.dh (keys us')) (u2:∀ x∈keys us',1<=x/\x<=fT) (u3:(us'.length:Int)<=S.X.cH) (u4:0<=fT/\fT<=S.X.cH) (u5:∀ h t,aB.get us' h=some t->(Live S.idx t\/t=⟨aN S.X,o.kind⟩)/\t.kind≠3) (u6:∀ k,k≠aN S.X->hnd us' k=hnd S.us k) (u7:o.opens=(hnd us' (aN S.X):Int)) :
    Inv (eU { S with us:=us',av:=fT } d name o):=by
  have h1:=hI.toInv0.new hid hk3 hl0 he0 hu0 hg0 PN hm hroom.2.1 hroom.1 u1 u2 u3 u4 u5 u6 u7
  have hne:d≠aN S.X:=hI.tV hd
  have hnk:=oW hI.toInv0
  have hnot:aB.get S.idx (S.X.last+1)=none:=by
    cases e:aB.get S.idx (S.X.last+1) with
    | none=>rfl
    | some u=>have:=(hI.idx _ u e).2.2;omega
  have hget:∀ i,aB.get (ins (S.X.last+1) ⟨aN S.X,o.kind⟩ S.idx) i=if i=S.X.last+1 then some ⟨aN S.X,o.kind⟩ else aB.get S.idx i:=fun i=>qV (get_none.1 hnot) i
  have hdl:Live (ins (S.X.last+1) ⟨aN S.X,o.kind⟩ S.idx) ⟨d,2⟩:=by
    unfold Live
    rw [hget,if_neg (by intro e;have:aB.get S.idx ((d:Nat):Int)=some ⟨d,2⟩:=hd;rw [show ((⟨d,2⟩:Th).k:Int)=(d:Int) from rfl] at e;rw [e,hnot] at this;cases this)]
    exact hd
  have hnl:Live (ins (S.X.last+1) ⟨aN S.X,o.kind⟩ S.idx) ⟨aN S.X,o.kind⟩:=by
    unfold Live
    rw [hget,if_pos hnk]
  have oN:obj (ay S.O (aN S.X) (fun _=>o)) (aN S.X)=o:=bP
  have oD:obj (ay S.O (aN S.X) (fun _=>o)) d=obj S.O d:=cD hne
  have hnb:¬ jA (ay S.O (aN S.X) (fun _=>o)) (aN S.X) d:=fun hb=>by
    have key:∀ x,jA (ay S.O (aN S.X) (fun _=>o)) (aN S.X) x->x=aN S.X:=fun x hx=>by
      induction hx with
      | here=>rfl
      | @up k j hu _ ih=>
        subst ih
        by_cases e:k=aN S.X
        ·exact e
        rw [cD e] at hu;exact absurd hu (hI.fresh.up k)
    exact hne (key d hb)
  have h2:=h1.put (d:=d) (name:=name) (t:=⟨aN S.X,o.kind⟩) (O':=(eU { S with us:=us',av:=fT } d name o).O) hdl (by rw [oD];exact iN) (by rw [oD];exact hn) iH hnl (by rw [oN];exact hg0) (fun _=>⟨by rw [oN];exact hl0,hnb⟩) (fun e=>hne e.symm) hroom.2.2 h1.now (fun k=>wE (fun e=>hne e.symm))
  refine⟨h2,fun x hx iY=>?_⟩
  have g1:∀ k,(obj (eU { S with us:=us',av:=fT } d name o).O k).gone=(obj (ay S.O (aN S.X) (fun _=>o)) k).gone:=fun k=>mB (g:=aT.gone) (fun _ _=>rfl) (fun _ _=>rfl) (fun _ _ _=>rfl) (fun _ _=>rfl)
  have g2:∀ k,(obj (eU { S with us:=us',av:=fT } d name o).O k).opens=(obj (ay S.O (aN S.X) (fun _=>o)) k).opens:=fun k=>mB (g:=aT.opens) (fun _ _=>rfl) (fun _ _=>rfl) (fun _ _ _=>rfl) (fun _ _=>rfl)
  rw [g1] at iY
  rw [g2]
  by_cases e:x.k=aN S.X
  ·rw [e,oN,hg0] at iY;cases iY
  rw [cD e] at iY ⊢
  refine hI.full x ?_ iY
  have hx:aB.get (ins (S.X.last+1) ⟨aN S.X,o.kind⟩ S.idx) x.k=some x:=hx
  rw [hget] at hx
  split at hx
  ·exact absurd (congrArg Th.k (Option.some.inj hx)).symm e
  exact hx
end new
section drop
variable {S:aG} {d:Nat} {name:ByteArray} {t:Th}
theorem iO {α:Type} {g:aT->α} {O:bY} {k j:Nat} (h:∀ o,g { o with up:=none }=g o):g (obj (orphan O j) k)=g (obj O k):=dN (f:=fun o=>{ o with up:=none }) h
theorem wG {O:bY} {k:Nat}:qG (orphan O k) t↔qG O t:=by
  unfold qG
  rw [iO (g:=aT.gone) (fun _=>rfl),iO (g:=aT.opens) (fun _=>rfl)]
theorem EA {O:bY} {k:Nat} {u:Int}:jN (orphan O k) u t=jN O u t:=by
  unfold jN
  simp only [wG,iO (g:=aT.data) (fun _=>rfl)]
theorem EB {O:bY} {k:Nat} {idx:Used Th}:jx (orphan O k) idx t=jx O idx t:=by
  unfold jx
  simp only [wG,iO (g:=aT.id) (fun _=>rfl)]
theorem Inv.drop (hI:Inv S) (hd:Live S.idx ⟨d,2⟩) (hl:aU name (obj S.O d).ah=some t) (he:t.kind=2->(obj S.O t.k).ah=[]):Inv { aH S d name t with O:=orphan (aH S d name t).O t.k }:=by
  have hne:=hI.ne hd hl
  have ht:=(hI.ent hd hl).2
  have hlk:(obj (aR S.X S.O d name t) t.k).links=(obj S.O t.k).links - 1:=by rw [iT hne,if_neg hne,if_pos rfl]
  have hfull:∀ (O2:bY),(∀ u,u≠t.k->(obj O2 u).gone=(obj S.O u).gone/\(obj O2 u).opens=(obj S.O u).opens)->∀ u,Live S.idx u->u≠t->(obj O2 u.k).gone=true->0 < (obj O2 u.k).opens:=fun O2 h u hu hut hg=>by
    have hk:u.k≠t.k:=fun e=>hut (gj hu ht e)
    rw [(h _ hk).1] at hg
    rw [(h _ hk).2]
    exact hI.full u hu hg
  by_cases h0:(obj (aR S.X S.O d name t) t.k).links=0
  ·have e1:aH S d name t=_:=sJ h0
   have hO:∀ k,obj (orphan (pG (aR S.X S.O d name t) t.k) t.k) k=if k=d then { obj S.O d with ah:=fW name (obj S.O d).ah,sec:=S.X.cS,nano:=S.X.cZ } else if k=t.k then { obj S.O k with links:=(obj S.O k).links - 1,gone:=true,up:=none } else obj S.O k:=fun k=>by
     unfold orphan pG
     rw [sF,jT]
     by_cases e:k=t.k
     ·rw [if_pos e,iT hne,if_neg (fun e2=>hne (e.symm.trans e2)),if_pos e,if_neg (fun e2=>hne (e.symm.trans e2)),if_pos e]
     rw [if_neg e,iT hne,if_neg e,if_neg e]
   have h1:=hI.toInv0.cut hd hl hO (.inr ⟨by rw [← hlk];exact h0,he⟩)
   have h2:=h1.qI (t:=t) ht (hfull _ (fun u hu=>by
     rw [iO (g:=aT.gone) (fun _=>rfl),iO (g:=aT.opens) (fun _=>rfl)]
     show (obj (ay _ t.k _) u).gone=_/\(obj (ay _ t.k _) u).opens=_
     rw [cD hu,dH (g:=aT.gone) (fun _ _=>rfl) (fun _ _=>rfl) (fun _ _ _=>rfl),dH (g:=aT.opens) (fun _ _=>rfl) (fun _ _=>rfl) (fun _ _ _=>rfl)]
     exact⟨rfl,rfl⟩))
   rw [e1]
   unfold qI at h2
   simp only [EA,EB] at h2
   exact h2
  have e1:aH S d name t=_:=sK h0
  have hnd:t.kind≠2:=fun hk=>by
    have h1:=hI.once t ht hk
    have h2:=hI.links t ht
    have h3:0 < iM S.idx S.O t.k:=mA hd hl
    omega
  have Ie:(obj S.O t.k).up=none:=by
    cases hu:(obj S.O t.k).up with
    | none=>rfl
    | some e=>exact absurd ((hI.up t ht e).1 hu).1 hnd
  have hO:∀ k,obj (orphan (aR S.X S.O d name t) t.k) k=if k=d then { obj S.O d with ah:=fW name (obj S.O d).ah,sec:=S.X.cS,nano:=S.X.cZ } else if k=t.k then { obj S.O k with links:=(obj S.O k).links - 1,gone:=(obj S.O t.k).gone,up:=none } else obj S.O k:=fun k=>by
    unfold orphan
    rw [jT]
    by_cases e:k=t.k
    ·rw [if_pos e,iT hne,if_neg (fun e2=>hne (e.symm.trans e2)),if_pos e,if_neg (fun e2=>hne (e.symm.trans e2)),if_pos e,e]
    rw [if_neg e,iT hne,if_neg e,if_neg e]
  have h1:=hI.toInv0.cut hd hl hO (.inl rfl)
  rw [e1]
  refine⟨h1,fun u hu hg=>?_⟩
  have hg:(obj (orphan (aR S.X S.O d name t) t.k) u.k).gone=true:=hg
  show 0 < (obj (orphan (aR S.X S.O d name t) t.k) u.k).opens
  rw [iO (g:=aT.gone) (fun _=>rfl),dH (g:=aT.gone) (fun _ _=>rfl) (fun _ _=>rfl) (fun _ _ _=>rfl)] at hg
  rw [iO (g:=aT.opens) (fun _=>rfl),dH (g:=aT.opens) (fun _ _=>rfl) (fun _ _=>rfl) (fun _ _ _=>rfl)]
  exact hI.full u hu hg
theorem LU {k:Nat}:(obj (aH S d name t).O k).up=(obj S.O k).up:=by
  unfold aH
  simp only
  split
  ·exact (oY (g:=aT.up) (fun _ _=>rfl)).trans (dH (g:=aT.up) (fun _ _=>rfl) (fun _ _=>rfl) (fun _ _ _=>rfl))
  exact dH (g:=aT.up) (fun _ _=>rfl) (fun _ _=>rfl) (fun _ _ _=>rfl)
theorem Inv.xS (hI:Inv S) (hd:Live S.idx ⟨d,2⟩) (hl:aU name (obj S.O d).ah=some t) (hk:t.kind≠2):Inv (aH S d name t):=by
  have h:=hI.drop hd hl (fun e=>absurd e hk)
  have ht:=(hI.ent hd hl).2
  have Ie:(obj S.O t.k).up=none:=by
    cases hu:(obj S.O t.k).up with
    | none=>rfl
    | some e=>exact absurd ((hI.up t ht e).1 hu).1 hk
  have e:orphan (aH S d name t).O t.k=(aH S d name t).O:=Oj (by
    have:(obj (aH S d name t).O t.k).up=none:=LU.trans Ie
    rw [← this])
  rw [e] at h
  exact h
end drop
end
end Go.Proofs.YtidjcblbdmfalaaGreat
section
namespace Go.Proofs.YtidjcblbdmfalaaGreat.aB
open bL
variable {V:Type}
theorem rI (us:Used V):(keys us).length=us.length:=by simp [keys]
theorem least_le {us:Used V} (hr:dh (keys us)) (hp:∀ x∈keys us,1<=x):1<=least us/\least us∉keys us/\∀ x,1<=x->x < least us->x∈keys us:=mw (keys us) 1 hr hp
theorem wH:∀ (ks:List Int) (h:Int),iA h ks<=h+ks.length
  | [],h=>by simp [iA]
  | k::r,h=>by
    unfold iA
    split
    ·have:=wH r (h+1);simp only [List.length_cons];push_cast;omega
    simp only [List.length_cons];push_cast;omega
theorem FV (us:Used V):least us<=us.length+1:=by
  have:=wH (keys us) 1
  rw [rI] at this
  unfold least;omega
end Go.Proofs.YtidjcblbdmfalaaGreat.aB
end
namespace Go.Proofs.YtidjcblbdmfalaaGreat
section
open Go.RowKit Go.Maps bL aB
section ops
variable {S:aG} {d to:Nat} {name toName:ByteArray} {t:Th}
theorem Inv.link (hI:Inv S) (hd:Live S.idx ⟨d,2⟩) (iN:(obj S.O d).gone=false) (hn:aU name (obj S.O d).ah=none) (iH:bJ name) (ht:Live S.idx t) (Gw:(obj S.O t.k).gone=false) (hk:t.kind≠2) (hroom:S.X.ah < 8192) :
    Inv { S with X:={ S.X with ah:=S.X.ah+1 },O:=di S.X S.O d name t }:=by
  have hne:t.k≠d:=fun e=>hk (congrArg Th.kind (gj ht hd e))
  have h1:=hI.toInv0.put hd iN hn iH ht Gw (fun e=>absurd e hk) hne hroom hI.now (fun k=>wE hne)
  refine⟨h1,fun x hx hg=>?_⟩
  have hg:(obj (di S.X S.O d name t) x.k).gone=true:=hg
  show 0 < (obj (di S.X S.O d name t) x.k).opens
  rw [mB (g:=aT.gone) (fun _ _=>rfl) (fun _ _=>rfl) (fun _ _ _=>rfl) (fun _ _=>rfl)] at hg
  rw [mB (g:=aT.opens) (fun _ _=>rfl) (fun _ _=>rfl) (fun _ _ _=>rfl) (fun _ _=>rfl)]
  exact hI.full x hx hg
theorem jP (hne:t.k≠d) {X:FM} {O:bY} (h:aU toName (obj O to).ah=none):aU toName (obj (aR X O d name t) to).ah=none:=by
  rw [iT hne]
  split
  ·rename_i e
   subst e
   show aU toName (fW name (obj O to).ah)=none
   rw [pV];split
   ·rfl
   exact h
  split
  ·exact h
  exact h
theorem Inv.move (hI:Inv S) (hd:Live S.idx ⟨d,2⟩) (hl:aU name (obj S.O d).ah=some t) (hto:Live S.idx ⟨to,2⟩) (iN:(obj S.O to).gone=false) (hn:aU toName (obj S.O to).ah=none) (iH:bJ toName) (hb:t.kind=2->¬ jA S.O t.k to):Inv (mY S d name to toName t):=by
  have hne:=hI.ne hd hl
  have ht:=(hI.ent hd hl).2
  have LV:t.k≠to:=fun e=>by
    have h1:t=⟨to,2⟩:=gj ht hto e
    exact hb (by rw [h1]) (by rw [e];exact .here)
  have hgt:(obj S.O t.k).gone=false:=by
    cases hg:(obj S.O t.k).gone with
    | false=>rfl
    | true=>
      have h1:=(hI.gone t ht hg).1
      have h2:=hI.links t ht
      have h3:0 < iM S.idx S.O t.k:=mA hd hl
      omega
  have hO:∀ k,obj (orphan (aR S.X S.O d name t) t.k) k=if k=d then { obj S.O d with ah:=fW name (obj S.O d).ah,sec:=S.X.cS,nano:=S.X.cZ } else if k=t.k then { obj S.O k with links:=(obj S.O k).links - 1,gone:=(obj S.O t.k).gone,up:=none } else obj S.O k:=fun k=>by
    unfold orphan
    rw [jT]
    by_cases e:k=t.k
    ·rw [if_pos e,iT hne,if_neg (fun e2=>hne (e.symm.trans e2)),if_pos e,if_neg (fun e2=>hne (e.symm.trans e2)),if_pos e,e]
    rw [if_neg e,iT hne,if_neg e,if_neg e]
  have h1:=hI.toInv0.cut hd hl hO (.inl rfl)
  have g0:∀ {α:Type} (g:aT->α),(∀ o es,g { o with ah:=es }=g o)->(∀ o l,g { o with links:=l }=g o)->(∀ o a b,g { o with sec:=a,nano:=b }=g o)->(∀ o u,g { o with up:=u }=g o)->∀ k,g (obj (orphan (aR S.X S.O d name t) t.k) k)=g (obj S.O k):=fun g a b c e k=>(iO (fun o=>e o none)).trans (dH a b c)
  have hlk:=hI.links t ht
  have hlp:0 < iM S.idx S.O t.k:=mA hd hl
  have hend:(obj (orphan (aR S.X S.O d name t) t.k) to).ah=(obj (aR S.X S.O d name t) to).ah:=iO (g:=aT.ah) (fun _=>rfl)
  have h2:=h1.put (d:=to) (name:=toName) (t:=t) (O':=(mY S d name to toName t).O) hto (by
      show (obj (orphan (aR S.X S.O d name t) t.k) to).gone=false
      rw [g0 aT.gone (fun _ _=>rfl) (fun _ _=>rfl) (fun _ _ _=>rfl) (fun _ _=>rfl)];exact iN) (by
      show aU toName (obj (orphan (aR S.X S.O d name t) t.k) to).ah=none
      rw [hend];exact jP hne hn) iH ht (by
      show (obj (orphan (aR S.X S.O d name t) t.k) t.k).gone=false
      rw [g0 aT.gone (fun _ _=>rfl) (fun _ _=>rfl) (fun _ _ _=>rfl) (fun _ _=>rfl)];exact hgt) (fun hk=>⟨by
        have h3:=hI.once t ht hk
        show (obj (orphan (aR S.X S.O d name t) t.k) t.k).links=0
        rw [hO,if_neg hne,if_pos rfl]
        show (obj S.O t.k).links - 1=0
        omega,fun hb2=>hb hk (Ic (fun x e hx=>by
          have hx:(obj (orphan (aR S.X S.O d name t) t.k) x).up=some e:=hx
          by_cases e1:x=t.k
          ·rw [hO,if_neg (by rw [e1];exact hne),if_pos e1] at hx;cases hx
          rw [hO] at hx
          split at hx
          ·rename_i e2;rw [e2];exact hx
          first|exact hx|(rw [if_neg e1] at hx;exact hx)) hb2)⟩) LV (by
      have:=hI.total
      show S.X.ah - 1 < 8192
      omega) hI.now (fun k=>by
      show obj (di S.X (aR S.X S.O d name t) to toName t) k=_
      rw [wE LV]
      by_cases e:k=to
      ·rw [if_pos e,if_pos e]
       have h3:obj (orphan (aR S.X S.O d name t) t.k) to=obj (aR S.X S.O d name t) to:=cD (fun e=>LV e.symm)
       rw [show obj _ to=_ from h3]
      rw [if_neg e,if_neg e]
      by_cases e2:k=t.k
      ·rw [if_pos e2,if_pos e2,e2]
       show _={ obj (orphan (aR S.X S.O d name t) t.k) t.k with links:=(obj (orphan (aR S.X S.O d name t) t.k) t.k).links+1,up:=if t.kind=2 then some to else (obj (orphan (aR S.X S.O d name t) t.k) t.k).up }
       have h3:obj (orphan (aR S.X S.O d name t) t.k) t.k={ obj (aR S.X S.O d name t) t.k with up:=none }:=bP
       rw [h3]
       by_cases hk:t.kind=2
       ·rw [if_pos hk,if_pos hk]
       rw [if_neg hk,if_neg hk]
       have Ie:(obj (aR S.X S.O d name t) t.k).up=none:=by
         rw [dH (g:=aT.up) (fun _ _=>rfl) (fun _ _=>rfl) (fun _ _ _=>rfl)]
         cases hu:(obj S.O t.k).up with
         | none=>rfl
         | some e=>exact absurd ((hI.up t ht e).1 hu).1 hk
       rw [Ie]
      rw [if_neg e2,if_neg e2]
      have h3:obj (orphan (aR S.X S.O d name t) t.k) k=obj (aR S.X S.O d name t) k:=cD e2
      exact h3.symm)
  refine⟨h2,fun x hx hg=>?_⟩
  have g3:∀ {α:Type} (g:aT->α),(∀ o es,g { o with ah:=es }=g o)->(∀ o l,g { o with links:=l }=g o)->(∀ o a b,g { o with sec:=a,nano:=b }=g o)->(∀ o u,g { o with up:=u }=g o)->∀ k,g (obj (mY S d name to toName t).O k)=g (obj S.O k):=fun g a b c e k=>(mB a b c e).trans (dH a b c)
  rw [g3 aT.gone (fun _ _=>rfl) (fun _ _=>rfl) (fun _ _ _=>rfl) (fun _ _=>rfl)] at hg
  rw [g3 aT.opens (fun _ _=>rfl) (fun _ _=>rfl) (fun _ _ _=>rfl) (fun _ _=>rfl)]
  exact hI.full x hx hg
theorem Ce {us:Used Th} {h:Int} {k:Nat}:hnd (ins h t us) k=(if t.k=k then 1 else 0)+hnd us k:=zk
theorem Ow {us:Used Th} {h:Int} {k:Nat} (hr:aB.dh (keys us)) (e:aB.get us h=some t):hnd (del h us) k+(if t.k=k then 1 else 0)=hnd us k:=zm (g:=fun p:Int×Th=>if p.2.k=k then 1 else 0) hr e
theorem GH {us:Used Th} {av:Int} (hr:aB.dh (keys us)) (h1:∀ x∈keys us,1<=x/\x<=av):aB.dh (keys (ins (aB.least us) t us))/\∀ x∈keys (ins (aB.least us) t us),1<=x/\x<=max av ((us.length:Int)+1):=by
  obtain⟨g1,g2,_⟩:=least_le hr (fun x hx=>(h1 x hx).1)
  have g3:=FV us
  refine⟨uN hr g2,fun x hx=>?_⟩
  rcases (kL _ _ _ _).1 hx with e|e
  ·subst e;omega
  have:=h1 x e;omega
theorem Inv.ct (hI:Inv S) (ht:Live S.idx t) (hk:t.kind≠3):Inv (Proofs.YtidjcblbdmfalaaGreat.ct S t).2.2:=by
  by_cases hlt:(S.us.length:Int) < S.X.cH
  ·rw [kD hlt]
   obtain⟨g1,g2,_⟩:=least_le hI.usr (fun x hx=>(hI.wD x hx).1)
   obtain⟨v1,v2⟩:=GH (t:=t) hI.usr hI.wD
   have hb:bytes S.idx (ay S.O t.k (fun o=>{ o with opens:=o.opens+1 }))=bytes S.idx S.O:=fS (fun p _=>by rw [dN (f:=fun o=>{ o with opens:=o.opens+1 }) (g:=aT.data) (fun _=>rfl)])
   have h1:=hI.toInv0.own (k:=t.k) (f:=fun o=>{ o with opens:=o.opens+1 }) (j5:=S.X.used) (us':=ins (aB.least S.us) t S.us) (fT:=max S.av ((S.us.length:Int)+1)) (fun _=>rfl) (fun _=>rfl) (fun _=>rfl) (fun _=>rfl) (fun _=>rfl) (fun _=>rfl)
     (fun u hu e=>by rw [← e];exact (hI.mt u hu).of rfl rfl rfl (hI.mt u hu).time rfl (.inl rfl) (.inl rfl) rfl)
     (fun u hu=>by
       have h2:=hI.opens u hu
       rw [Ce]
       by_cases e:u.k=t.k
       ·rw [e,bP,if_pos rfl,← e]
        show (obj S.O u.k).opens+1=_
        omega
       rw [cD e,if_neg (fun e2=>e e2.symm)];omega)
     v1 v2 (by rw [iJ];omega) (by have:=hI.av;omega) (fun h u e=>by
       rw [qV g2] at e
       split at e
       ·cases e;exact⟨ht,hk⟩
       exact hI.us h u e) ⟨by rw [hb];exact hI.used.1,hI.used.2⟩
   refine⟨h1,fun u hu hg=>?_⟩
   have hg:(obj (ay S.O t.k (fun o=>{ o with opens:=o.opens+1 })) u.k).gone=true:=hg
   rw [dN (f:=fun o=>{ o with opens:=o.opens+1 }) (g:=aT.gone) (fun _=>rfl)] at hg
   have h2:=hI.full u hu hg
   show 0 < (obj (ay S.O t.k (fun o=>{ o with opens:=o.opens+1 })) u.k).opens
   by_cases e:u.k=t.k
   ·rw [e,bP];rw [e] at h2;show 0 < (obj S.O t.k).opens+1;omega
   rw [cD e];exact h2
  rw [lK hlt];exact hI
theorem Inv.dO (hI:Inv S) {k:Nat} (ht:Live S.idx ⟨k,1⟩) (bs:List UInt8):Inv (Proofs.YtidjcblbdmfalaaGreat.dO S k bs).2.2:=by
  unfold Proofs.YtidjcblbdmfalaaGreat.dO
  split
  ·exact hI
  split
  ·exact hI
  rename_i hroom
  have hlen:(obj (ay S.O k (fun o=>{ o with data:=o.data++bs.take (bp S.X bs.length),sec:=S.X.cS,nano:=S.X.cZ })) k).data.length=(obj S.O k).data.length+bp S.X bs.length:=by
    rw [bP]
    show ((obj S.O k).data++bs.take (bp S.X bs.length)).length=_
    rw [List.length_append,List.length_take]
    unfold bp
    omega
  have hb:=zl (g:=fun p:Int×Th=>(obj S.O p.2.k).data.length) (g':=fun p:Int×Th=>(obj (ay S.O k (fun o=>{ o with data:=o.data++bs.take (bp S.X bs.length),sec:=S.X.cS,nano:=S.X.cZ })) p.2.k).data.length) hI.rise ht (fun p hp hne=>by
    have h1:=hI.key (nJ hI.rise hp)
    show (obj (ay _ k _) p.2.k).data.length=_
    rw [cD (fun e=>hne (by rw [h1,e]))])
  have hb:bytes S.idx (ay S.O k (fun o=>{ o with data:=o.data++bs.take (bp S.X bs.length),sec:=S.X.cS,nano:=S.X.cZ }))+(obj S.O k).data.length=bytes S.idx S.O+(obj (ay S.O k (fun o=>{ o with data:=o.data++bs.take (bp S.X bs.length),sec:=S.X.cS,nano:=S.X.cZ })) k).data.length:=hb
  have hu:=hI.used
  have hcB:=hI.cB
  have h1:=hI.toInv0.own (k:=k) (f:=fun o=>{ o with data:=o.data++bs.take (bp S.X bs.length),sec:=S.X.cS,nano:=S.X.cZ }) (j5:=S.X.used+(bp S.X bs.length:Int)) (us':=S.us) (fT:=S.av) (fun _=>rfl) (fun _=>rfl) (fun _=>rfl) (fun _=>rfl) (fun _=>rfl) (fun _=>rfl)
    (fun u hu e=>by
      have hk1:u=⟨k,1⟩:=gj hu ht e
      have Rs:=hI.kind hu
      rw [← e]
      exact (hI.mt u hu).of rfl rfl rfl hI.now rfl (.inr (by rw [Rs,hk1])) (.inl rfl) rfl)
    (fun u hu=>by rw [dN (f:=fun o=>{ o with data:=o.data++bs.take (bp S.X bs.length),sec:=S.X.cS,nano:=S.X.cZ }) (g:=aT.opens) (fun _=>rfl)];exact hI.opens u hu)
    hI.usr hI.wD hI.Am hI.av hI.us ⟨by omega,by unfold bp;omega⟩
  refine⟨h1,fun u hu hg=>?_⟩
  have hg:(obj (ay S.O k (fun o=>{ o with data:=o.data++bs.take (bp S.X bs.length),sec:=S.X.cS,nano:=S.X.cZ })) u.k).gone=true:=hg
  rw [dN (f:=fun o=>{ o with data:=o.data++bs.take (bp S.X bs.length),sec:=S.X.cS,nano:=S.X.cZ }) (g:=aT.gone) (fun _=>rfl)] at hg
  show 0 < (obj (ay S.O k (fun o=>{ o with data:=o.data++bs.take (bp S.X bs.length),sec:=S.X.cS,nano:=S.X.cZ })) u.k).opens
  rw [dN (f:=fun o=>{ o with data:=o.data++bs.take (bp S.X bs.length),sec:=S.X.cS,nano:=S.X.cZ }) (g:=aT.opens) (fun _=>rfl)]
  exact hI.full u hu hg
theorem Inv.Rt (hI:Inv S) {k:Nat} {mode uid gid sec nano:Int} (h1:mR mode) (h2:Al uid/\Al gid) (h3:dQ sec nano):Inv { S with O:=ay S.O k (fun o=>{ o with mode:=mode,uid:=uid,gid:=gid,sec:=sec,nano:=nano }) }:=by
  have hb:bytes S.idx (ay S.O k (fun o=>{ o with mode:=mode,uid:=uid,gid:=gid,sec:=sec,nano:=nano }))=bytes S.idx S.O:=fS (fun p _=>by rw [dN (f:=fun o=>{ o with mode:=mode,uid:=uid,gid:=gid,sec:=sec,nano:=nano }) (g:=aT.data) (fun _=>rfl)])
  have g1:=hI.toInv0.own (k:=k) (f:=fun o=>{ o with mode:=mode,uid:=uid,gid:=gid,sec:=sec,nano:=nano }) (j5:=S.X.used) (us':=S.us) (fT:=S.av) (fun _=>rfl) (fun _=>rfl) (fun _=>rfl) (fun _=>rfl) (fun _=>rfl) (fun _=>rfl)
    (fun u hu e=>by
      have hm:=hI.mt u hu
      rw [e] at hm
      exact⟨h1,h2.1,h2.2,h3,hm.data,hm.ah,hm.target⟩)
    (fun u hu=>by rw [dN (f:=fun o=>{ o with mode:=mode,uid:=uid,gid:=gid,sec:=sec,nano:=nano }) (g:=aT.opens) (fun _=>rfl)];exact hI.opens u hu)
    hI.usr hI.wD hI.Am hI.av hI.us ⟨by rw [hb];exact hI.used.1,hI.used.2⟩
  refine⟨g1,fun u hu hg=>?_⟩
  have hg:(obj (ay S.O k (fun o=>{ o with mode:=mode,uid:=uid,gid:=gid,sec:=sec,nano:=nano })) u.k).gone=true:=hg
  rw [dN (f:=fun o=>{ o with mode:=mode,uid:=uid,gid:=gid,sec:=sec,nano:=nano }) (g:=aT.gone) (fun _=>rfl)] at hg
  show 0 < (obj (ay S.O k (fun o=>{ o with mode:=mode,uid:=uid,gid:=gid,sec:=sec,nano:=nano })) u.k).opens
  rw [dN (f:=fun o=>{ o with mode:=mode,uid:=uid,gid:=gid,sec:=sec,nano:=nano }) (g:=aT.opens) (fun _=>rfl)]
  exact hI.full u hu hg
theorem Inv.shut (hI:Inv S) {h:Int} (e:aB.get S.us h=some t):Inv { S with
      X:={ S.X with used:=jN (pY S.O t.k) S.X.used t }
      O:=pY S.O t.k
      idx:=jx (pY S.O t.k) S.idx t
      us:=del h S.us }:=by
  have ht:=(hI.us h t e).1
  have hb:bytes S.idx (pY S.O t.k)=bytes S.idx S.O:=fS (fun p _=>by unfold pY;rw [dN (f:=fun o=>{ o with opens:=o.opens - 1 }) (g:=aT.data) (fun _=>rfl)])
  have hd:=fun k=>Ow (k:=k) hI.usr e
  have h1:=hI.toInv0.own (k:=t.k) (f:=fun o=>{ o with opens:=o.opens - 1 }) (j5:=S.X.used) (us':=del h S.us) (fT:=S.av) (fun _=>rfl) (fun _=>rfl) (fun _=>rfl) (fun _=>rfl) (fun _=>rfl) (fun _=>rfl)
    (fun u hu e=>by rw [← e];exact (hI.mt u hu).of rfl rfl rfl (hI.mt u hu).time rfl (.inl rfl) (.inl rfl) rfl)
    (fun u hu=>by
      have h2:=hI.opens u hu
      have h3:=hd u.k
      by_cases e2:u.k=t.k
      ·rw [e2,bP]
       rw [e2] at h2 h3
       rw [if_pos rfl] at h3
       show (obj S.O t.k).opens - 1=_
       omega
      rw [if_neg (fun e3=>e2 e3.symm)] at h3
      rw [cD e2];omega)
    (Ev hI.usr) (fun x hx=>hI.wD x (by rw [nh] at hx;exact (List.mem_filter.1 hx).1)) (by have:=nI hI.usr (get_some e);have:=hI.Am;omega) hI.av (fun i u hu=>by
      rw [tT] at hu
      split at hu
      ·cases hu
      exact hI.us i u hu) ⟨by rw [show bytes S.idx (ay S.O t.k (fun o=>{ o with opens:=o.opens - 1 }))=bytes S.idx S.O from hb];exact hI.used.1,hI.used.2⟩
  exact h1.qI (t:=t) ht (fun u hu hut hg=>by
    have hk:u.k≠t.k:=fun e=>hut (gj hu ht e)
    have hg:(obj (ay S.O t.k (fun o=>{ o with opens:=o.opens - 1 })) u.k).gone=true:=hg
    rw [cD hk] at hg
    show 0 < (obj (ay S.O t.k (fun o=>{ o with opens:=o.opens - 1 })) u.k).opens
    rw [cD hk]
    exact hI.full u hu hg)
end ops
end
section
open Go.RowKit Go.Maps bL aB
section facts
variable {S:aG} {X:FM} {O:bY} {d k to:Nat} {name toName:ByteArray} {t o:Th}
def wJ (dp:Nat->Nat):Option Nat->Nat
  | none=>0
  | some y=>dp y+1
theorem J0 {dp:Nat->Nat} (h:∀ k d,(obj O k).up=some d->dp d < dp k) {y:Nat}:wJ dp (obj O y).up < wJ dp (some y):=by
  cases e:(obj O y).up with
  | none=>exact Nat.succ_pos _
  | some z=>exact Nat.succ_lt_succ (h y z e)
theorem Az {s y:Nat} (h:¬ y=s):jA O s y↔∃ z,(obj O y).up=some z/\jA O s z:=C0.trans (or_iff_right h)
theorem AA (hne:t.k≠d):(obj (aH S d name t).O k).ah=if k=d then fW name (obj S.O d).ah else (obj S.O k).ah:=by
  have h1:(obj (aH S d name t).O k).ah=(obj (aR S.X S.O d name t) k).ah:=by
    unfold aH
    simp only
    split
    ·exact oY (g:=aT.ah) (fun _ _=>rfl)
    rfl
  rw [h1,iT hne]
  split
  ·rfl
  split<;>rfl
theorem pZ (hI:Inv0 S) (hto:Live S.idx ⟨to,2⟩) (hl2:aU toName (obj S.O to).ah=some o) (hl:aU name (obj S.O d).ah=some t) (hot:o≠t):aU name (obj (aH S to toName o).O d).ah=some t:=by
  rw [AA (hI.ne hto hl2)]
  split
  ·rename_i e
   subst e
   rw [pV,if_neg (fun e=>by rw [e,hl2] at hl;exact hot (Option.some.inj hl))]
   exact hl
  exact hl
theorem p4 (hI:Inv0 S) (hto:Live S.idx ⟨to,2⟩) (hl2:aU toName (obj S.O to).ah=some o):aU toName (obj (aH S to toName o).O to).ah=none:=by
  rw [AA (hI.ne hto hl2),if_pos rfl,pV,if_pos rfl]
theorem jq (hI:Inv0 S) (hto:Live S.idx ⟨to,2⟩) (hl2:aU toName (obj S.O to).ah=some o) (hx:Live S.idx t) (hk:t.k≠o.k):Live (aH S to toName o).idx t:=by
  unfold aH
  simp only
  split
  ·unfold jx
   split
   ·unfold Live
    rw [tT,if_neg]
    ·exact hx
    intro e
    have h1:=(hI.ob o (hI.ent hto hl2).2).1
    rw [oY (g:=aT.id) (fun _ _=>rfl),dH (g:=aT.id) (fun _ _=>rfl) (fun _ _=>rfl) (fun _ _ _=>rfl),h1] at e
    exact hk (by omega)
   exact hx
  exact hx
theorem lN (hne:t.k≠d):(obj (aR X O d name t) k).ah.length<=(obj O k).ah.length:=by
  rw [iT hne]
  split
  ·rename_i e
   subst e
   exact List.length_filter_le _ _
  split<;>exact Nat.le_refl _
theorem jX (hI:Inv0 S) (hd:Live S.idx ⟨d,2⟩) (hl:aU name (obj S.O d).ah=some t):0<=(obj (aR S.X S.O d name t) t.k).links/\(obj (aR S.X S.O d name t) t.k).links<=1048576:=by
  have ht:=(hI.ent hd hl).2
  have h1:=hI.links t ht
  have h2:0 < iM S.idx S.O t.k:=mA hd hl
  have h3:=hI.lb ht
  rw [iT (hI.ne hd hl),if_neg (hI.ne hd hl),if_pos rfl]
  show 0<=(obj S.O t.k).links - 1/\(obj S.O t.k).links - 1<=1048576
  omega
end facts
end
section
open Go.RowKit Go.Maps bL aB
theorem bD.take {β:Bs} {A:Option Addr} {d:List UInt8} (h:bD β A d) (n:Nat):bD β A (d.take n):=by
  intro j v hj
  refine h j v ?_
  unfold bX at hj ⊢
  rw [List.map_take] at hj
  rw [List.getElem?_take] at hj
  split at hj
  ·exact hj
  cases hj
theorem Ig {a b:List UInt8}:bX (a++b)=bX a++bX b:=List.map_append
theorem Inv0.Ru {S:aG} {t:Th} (h:Inv0 S) (hl:Live S.idx t):((obj S.O t.k).data.length:Int)<=S.X.used:=by
  have h1:=h.used
  have h2:(obj S.O t.k).data.length<=bytes S.idx S.O:=kY (g:=fun p:Int×Th=>(obj S.O p.2.k).data.length) hl
  omega
theorem J1 {X:FM} {n:Nat} (h:0 < X.cB - X.used):min (n:Int) (X.cB - X.used)=(bp X n:Int):=by
  unfold bp
  omega
theorem J2 {X:FM} {n:Nat} (h:0 < X.cB - X.used):bp X n<=n/\(bp X n:Int)<=X.cB - X.used:=by
  unfold bp
  omega
section data
variable {O:bY} {us:Used Th} {L L':HL} {k c:Nat} {A:Option Addr} {t:Th}
theorem EC (hL:L'=L.data k A c):bn L' us=bn L us:=by subst hL;rfl
theorem LW (hL:L'=L.data k A c):cG O L'=cG O L:=by
  subst hL
  funext x
  rfl
theorem LX (hL:L'=L.data k A c) {x:Nat} (h:x≠k):bM O L' x=bM O L x:=by
  have e2:fX L' x (obj O x)=fX L x (obj O x):=by
    subst hL
    unfold fX xK
    simp only [HL.data,if_neg h]
    rfl
  unfold bM
  rw [e2]
  subst hL
  rfl
theorem LY (hL:L'=L.data k A c) {x:Nat} (h:x≠k):bN O L' x=bN O L x:=by
  unfold bN
  subst hL
  simp only [HL.data,if_neg h]
theorem GI (hL:L'=L.data k A c):L'.dA k=A:=by subst hL;exact if_pos rfl
theorem GJ (hL:L'=L.data k A c):L'.dC k=c:=by subst hL;exact if_pos rfl
theorem J3 (hL:L'=L.data k A c) {x:Nat}:L'.b x=L.b x:=by subst hL;rfl
end data
section sat
variable {β:Bs} {l l':List HP} {w:World} {i j k c n:Nat} {O:bY} {L L':HL} {f:aT->aT} {cs:List Value} {T:TypeId} {ix:List Nat} {A:Option Addr} {R:Nat->cA} {xs:List Value}
theorem Sat.PO (h:Sat β l w) (hL:L'=L.data k A c) (hp:l[i]?=some (.abs (ax (jU (bM O L) k cA.none)))) (hq:l[j]?=some (.blk (L.b k) cs T)) (hd:bG (i::j::ix)=true) (hl:bV l ix=some l') (h0:(f (obj O k)).kind≠0) (hc:fX L' k (f (obj O k))=cs) (hT:jV (f (obj O k)).kind=T):Sat β (.abs (ax (bM (ay O k f) L'))::l') w:=by
  refine h.pz (a:=zf (L.b k) cs T) hp hq (fun _ _ h=>h) hd hl k (fun x hx=>?_) (by rw [tP,if_neg h0,hc,hT,J3 hL])
  rw [tQ hx,LX hL hx,nH hx]
theorem Sat.PS (h:Sat β l w) (hL:L'=L.data k A c) (hp:l[i]?=some (.abs (ax (jU (bN O L) k cA.none)))) (hq:l[j]?=some (.abs (aE 5 1 A n c xs))) (hd:bG (i::j::ix)=true) (hl:bV l ix=some l') (h1:(f (obj O k)).kind=1) (hn:n=(f (obj O k)).data.length) (hx:xs=bX (f (obj O k)).data):Sat β (.abs (ax (bN (ay O k f) L'))::l') w:=by
  refine h.pz hp hq (fun _ _ h=>h) hd hl k (fun x hx=>by rw [wj hx,LY hL hx,nH hx]) ?_
  rw [rC (by rw [bP];exact h1),bP,GI hL,GJ hL,hn,hx]
end sat
end
section
open Go.RowKit Go.Maps bL aB
structure fQ (β:Bs) (c:aD):Prop where
  hw:(Lit.int .i64 c.handle).wf=true
  ow:(Lit.int .i64 c.other).wf=true
  nm:c.name.size<=1048576
  tx:c.text.size<=1048576
  da:bD β c.dA c.data
  dl:c.data.length<=1099511627776
  dc:c.data.length<=c.dC
section facts
variable {S:aG} {h:Int} {name:ByteArray} {need:Int} {t:Th} {c:aD}
theorem kU (hI:Inv0 S) (h:Int) (name:ByteArray) (need:Int):(∃ e,dZ S.O S.us h name need=.error e/\e≠0)\/∃ d,dZ S.O S.us h name need=.ok d/\Live S.idx ⟨d,2⟩/\(obj S.O d).gone=false/\bJ name/\aB.get S.us h=some ⟨d,2⟩:=by
  unfold dZ
  cases e:aB.get S.us h with
  | none=>exact .inl ⟨131,rfl,by decide⟩
  | some t=>
    simp only
    split
    ·rename_i hk
     split
     ·exact .inl ⟨170,rfl,by decide⟩
     rename_i hg
     split
     ·rename_i hn
      split
      ·obtain⟨k,kd⟩:=t
       simp only at hk
       subst hk
       exact .inr ⟨k,rfl,(hI.us h _ e).1,by simpa using hg,hn,rfl⟩
      exact .inl ⟨175,rfl,by decide⟩
     exact .inl ⟨95,rfl,by decide⟩
    exact .inl ⟨173,rfl,by decide⟩
theorem AB (hI:Inv0 S) (c:aD):(∃ e,fO S.O S.us c=.error e/\e≠0)\/(∃ k,fO S.O S.us c=.ok ⟨k,1⟩/\Live S.idx ⟨k,1⟩)\/(∃ k,fO S.O S.us c=.ok ⟨k,2⟩/\Live S.idx ⟨k,2⟩)\/∃ k,fO S.O S.us c=.ok ⟨k,3⟩/\Live S.idx ⟨k,3⟩:=by
  unfold fO
  rcases kU hI c.handle c.name 64 with ⟨e,h1,h2⟩|⟨d,h1,h2,_⟩
  ·rw [h1];exact .inl ⟨e,rfl,h2⟩
  rw [h1]
  simp only
  rcases hI.lD h2 c.name with h3|⟨k,h3,h4⟩|⟨k,h3,h4⟩|⟨k,h3,h4⟩
  ·rw [h3];exact .inl ⟨170,rfl,by decide⟩
  ·rw [h3];exact .inr (.inl ⟨k,rfl,h4⟩)
  ·rw [h3];exact .inr (.inr (.inl ⟨k,rfl,h4⟩))
  rw [h3];exact .inr (.inr (.inr ⟨k,rfl,h4⟩))
theorem ED {L:HL} {us:Used Th} {h:Int}:bn L (del h us)=del h (bn L us):=Gu (dJ L) h us
theorem GK {us:Used Th} {h:Int} (e:aB.get us h=some t):0 < hnd us t.k:=Nat.lt_of_lt_of_le (by simp) (kY (g:=fun p:Int×Th=>if p.2.k=t.k then 1 else 0) e)
theorem zo {L:HL}:bN (ct S t).2.2.O L=bN S.O L:=by
  by_cases h:(S.us.length:Int) < S.X.cH
  ·rw [kD h];exact rG (fun _=>dN (f:=fun o=>{ o with opens:=o.opens+1 }) (g:=aT.data) (fun _=>rfl)) (fun _=>jw (f:=fun o=>{ o with opens:=o.opens+1 }) (fun _=>rfl))
  rw [lK h]
theorem zq {L:HL}:cG (ct S t).2.2.O L=cG S.O L:=by
  by_cases h:(S.us.length:Int) < S.X.cH
  ·rw [kD h];exact mr (f:=fun o=>{ o with opens:=o.opens+1 }) rfl rfl
  rw [lK h]
theorem Ox:(ji S c).2.2.op=c.op:=by unfold ji;(repeat' split)<;>rfl
theorem Ih:(fF S c).2.2.op=c.op:=by unfold fF;(repeat' split)<;>rfl
theorem FW:(eP S c).2.2.op=c.op:=by unfold eP;(repeat' split)<;>rfl
theorem Ii:(fP S c).2.2.op=c.op:=by unfold fP;(repeat' split)<;>rfl
theorem FX:(eu S c).2.2.op=c.op:=by unfold eu;(repeat' split)<;>rfl
theorem EF:(fI S c).2.2.op=c.op:=by unfold fI;(repeat' split)<;>rfl
theorem J4:(cO S c).2.2.op=c.op:=by unfold cO;(repeat' split)<;>rfl
theorem FY:(fZ S c).2.2.op=c.op:=by unfold fZ;(repeat' split)<;>rfl
theorem Ij:(ig S c).2.2.op=c.op:=by unfold ig;(repeat' split)<;>rfl
theorem FZ:(fC S c).2.2.op=c.op:=by unfold fC;(repeat' split)<;>rfl
theorem Ik:(fY S c).2.2.op=c.op:=by unfold fY;(repeat' split)<;>rfl
theorem Il:(bK S c).2.2.op=c.op:=by unfold bK;(repeat' split)<;>rfl
theorem Oy:(j4 S c).2.2.op=c.op:=by unfold j4;(repeat' split)<;>rfl
theorem J5:(gi S c).2.2.op=c.op:=by unfold gi;(repeat' split)<;>rfl
theorem LZ:(iR S c).2.2.op=c.op:=by unfold iR;(repeat' split)<;>rfl
end facts
theorem uQ {S:aG} {c:aD} (h:c.op=1):cT S c=ji S c:=by
  unfold cT
  simp [h]
theorem xT {S:aG} {c:aD} (h:c.op=2):cT S c=fF S c:=by
  unfold cT
  simp [h]
theorem xU {S:aG} {c:aD} (h:c.op=3):cT S c=eP S c:=by
  unfold cT
  simp [h]
theorem uR {S:aG} {c:aD} (h:c.op=4):cT S c=fP S c:=by
  unfold cT
  simp [h]
theorem xV {S:aG} {c:aD} (h:c.op=5):cT S c=eu S c:=by
  unfold cT
  simp [h]
theorem xW {S:aG} {c:aD} (h:c.op=6):cT S c=fI S c:=by
  unfold cT
  simp [h]
theorem xX {S:aG} {c:aD} (h:c.op=7):cT S c=cO S c:=by
  unfold cT
  simp [h]
theorem xY {S:aG} {c:aD} (h:c.op=8):cT S c=fZ S c:=by
  unfold cT
  simp [h]
theorem xZ {S:aG} {c:aD} (h:c.op=9):cT S c=fY S c:=by
  unfold cT
  simp [h]
theorem tX {S:aG} {c:aD} (h:c.op=10):cT S c=bK S c:=by
  unfold cT
  simp [h]
theorem tY {S:aG} {c:aD} (h:c.op=11):cT S c=j4 S c:=by
  unfold cT
  simp [h]
theorem tZ {S:aG} {c:aD} (h:c.op=12):cT S c=gi S c:=by
  unfold cT
  simp [h]
theorem rJ {S:aG} {c:aD} (h:c.op=13):cT S c=iR S c:=by
  unfold cT
  simp [h]
theorem t6 {S:aG} {c:aD} (h:c.op=14):cT S c=ig S c:=by
  unfold cT
  simp [h]
theorem t7 {S:aG} {c:aD} (h:c.op=15):cT S c=fC S c:=by
  unfold cT
  simp [h]
theorem t8 {S:aG} {c:aD} (h:¬ (1<=c.op/\c.op<=15)):cT S c=(230,S,c):=by
  unfold cT
  repeat rw [if_neg (by omega)]
end
section
open Go.RowKit Go.Maps bL aB
section inv
variable {S:aG} {d to:Nat} {name toName text:ByteArray} {mode:Int} {c:aD}
theorem EG (hI:Inv0 S):hnd S.us (aN S.X)=0:=by
  have:hnd S.us (aN S.X)=dK (fun _=>0) S.us:=fS (fun p hp=>if_neg (hI.fresh.us p hp))
  rw [this]
  have h0:∀ us:Used Th,dK (fun _=>0) us=0:=fun us=>by
    induction us with
    | nil=>rfl
    | cons p r ih=>show 0+_=0;rw [ih]
  exact h0 _
theorem yC (hI:Inv0 S) {kind mode:Int} {tg:ByteArray} (hm:mR mode) (ht:eS kind tg):kf { aV S.X kind mode with target:=tg }:=
  ⟨hm,⟨Int.le_refl _,by show (0:Int)<=2147483647;decide⟩,⟨Int.le_refl _,by show (0:Int)<=2147483647;decide⟩,hI.now,fun _=>rfl,fun _=>rfl,ht⟩
theorem Inv.DJ (hI:Inv S) (hd:Live S.idx ⟨d,2⟩) (iN:(obj S.O d).gone=false) (iH:bJ name) (h0:bZ S.X S.O S.idx d name=0) {kind mode:Int} {tg:ByteArray} (hk:kind=1\/kind=2\/kind=3) (hm:mR mode) (ht:eS kind tg) :
    Inv (eU S d name { aV S.X kind mode with target:=tg }):=by
  have h:=hI.add (us':=S.us) (fT:=S.av) (o:={ aV S.X kind mode with target:=tg }) hd iN (nL h0) iH (tD h0) rfl hk rfl rfl rfl rfl rfl (yC hI.toInv0 hm ht) hI.usr hI.wD hI.Am hI.av (fun h t e=>⟨.inl (hI.us h t e).1,(hI.us h t e).2⟩) (fun _ _=>rfl) (by rw [EG hI.toInv0];rfl)
  exact h
theorem Inv.gE (hI:Inv S) (hd:Live S.idx ⟨d,2⟩) (iN:(obj S.O d).gone=false) (iH:bJ name) (hm:mR mode):Inv (Proofs.YtidjcblbdmfalaaGreat.gE S d name mode).2:=by
  unfold Proofs.YtidjcblbdmfalaaGreat.gE
  split
  ·rename_i h0
   exact hI.DJ hd iN iH h0 (.inr (.inl rfl)) hm (.inl ⟨by decide,rfl⟩)
  exact hI
theorem Oz {s:ByteArray} (h:mH s=0):eS 3 s:=by
  unfold mH at h
  split at h
  ·cases h
  rename_i h1
  split at h
  ·cases h
  split at h
  ·rename_i h2 h3
   refine .inr ⟨rfl,?_,by omega,h3⟩
   apply Classical.byContradiction
   intro hn
   have:s.size=0:=by omega
   exact h1 (kF.1 this)
  cases h
theorem Inv.eM (hI:Inv S) (hd:Live S.idx ⟨d,2⟩) (iN:(obj S.O d).gone=false) (iH:bJ name):Inv (Proofs.YtidjcblbdmfalaaGreat.eM S d name text).2:=by
  unfold Proofs.YtidjcblbdmfalaaGreat.eM
  split
  ·rename_i hb
   split
   ·rename_i h0
    exact hI.DJ hd iN iH h0 (.inr (.inr rfl)) ⟨by decide,by decide⟩ (Oz hb)
   exact hI
  exact hI
theorem Inv.ef (hI:Inv S) (hd:Live S.idx ⟨d,2⟩):Inv (Proofs.YtidjcblbdmfalaaGreat.ef S d name).2:=by
  unfold Proofs.YtidjcblbdmfalaaGreat.ef
  split
  ·exact hI
  rename_i t hl
  split
  ·exact hI
  rename_i hk
  exact hI.xS hd hl hk
theorem Inv.eO (hI:Inv S) (hd:Live S.idx ⟨d,2⟩):Inv (Proofs.YtidjcblbdmfalaaGreat.eO S d name).2:=by
  unfold Proofs.YtidjcblbdmfalaaGreat.eO
  split
  ·exact hI
  rename_i t hl
  split
  ·split
   ·rename_i he
    exact hI.drop hd hl (fun _=>he)
   exact hI
  exact hI
theorem Im {t:Th} (ht:t.k≠to):(obj (aH S d name t).O to).gone=(obj S.O to).gone:=by
  have h1:(obj (aH S d name t).O to).gone=(obj (aR S.X S.O d name t) to).gone:=by
    unfold aH
    simp only
    split
    ·show (obj (ay _ t.k _) to).gone=_
     rw [cD (fun e=>ht e.symm)]
    rfl
  rw [h1]
  exact dH (g:=aT.gone) (fun _ _=>rfl) (fun _ _=>rfl) (fun _ _ _=>rfl)
theorem Inv.bH (hI:Inv S) (hd:Live S.idx ⟨d,2⟩) (hto:Live S.idx ⟨to,2⟩) (iN:(obj S.O to).gone=false) (iH:bJ toName):Inv (Proofs.YtidjcblbdmfalaaGreat.bH S d name to toName).2:=by
  unfold Proofs.YtidjcblbdmfalaaGreat.bH
  split
  ·exact hI
  rename_i t hl
  split
  ·exact hI
  rename_i hb
  have hb:t.kind=2->¬ jA S.O t.k to:=fun h1 h2=>hb ⟨h1,h2⟩
  split
  ·rename_i hn
   exact hI.move hd hl hto iN hn iH hb
  rename_i o hl2
  split
  ·exact hI
  rename_i hot
  split
  ·exact hI
  rename_i hok
  split
  ·exact hI
  rename_i Um
  have ho:=(hI.ent hto hl2).2
  have PU:o.k≠to:=hI.ne hto hl2
  have h1:=hI.xS hto hl2 hok
  have hd1:Live (aH S to toName o).idx ⟨d,2⟩:=jq hI.toInv0 hto hl2 hd (fun e=>hok (by have:=gj hd ho e;rw [← this]))
  have jD:Live (aH S to toName o).idx ⟨to,2⟩:=jq hI.toInv0 hto hl2 hto (fun e=>PU e.symm)
  exact h1.move hd1 (pZ hI.toInv0 hto hl2 hl hot) jD (by rw [Im PU];exact iN) (p4 hI.toInv0 hto hl2) iH (fun h=>absurd h Um)
theorem Inv.fB (hI:Inv S) (hd:Live S.idx ⟨d,2⟩) (hto:Live S.idx ⟨to,2⟩) (iN:(obj S.O to).gone=false) (iH:bJ toName):Inv (Proofs.YtidjcblbdmfalaaGreat.fB S d name to toName).2:=by
  unfold Proofs.YtidjcblbdmfalaaGreat.fB
  split
  ·exact hI
  rename_i t hl
  have ht:=(hI.ent hd hl).2
  split
  ·exact hI
  rename_i hk
  split
  ·rename_i hn
   split
   ·rename_i hr
    have hgt:(obj S.O t.k).gone=false:=by
      cases hg:(obj S.O t.k).gone with
      | false=>rfl
      | true=>
        have h1:=(hI.gone t ht hg).1
        have h2:=hI.links t ht
        have h3:0 < iM S.idx S.O t.k:=mA hd hl
        omega
    exact hI.link hto iN hn iH ht hgt hk hr
   exact hI
  exact hI
theorem Inv.mz (hI:Inv S) (hd:Live S.idx ⟨d,2⟩) (iN:(obj S.O d).gone=false) (iH:bJ name) (hm:mR mode):Inv (Proofs.YtidjcblbdmfalaaGreat.mz S d name mode).2.2:=by
  unfold Proofs.YtidjcblbdmfalaaGreat.mz
  split
  ·rename_i h0
   split
   ·rename_i hlt
    obtain⟨g1,g2,_⟩:=least_le hI.usr (fun x hx=>(hI.wD x hx).1)
    obtain⟨v1,v2⟩:=GH (t:=⟨aN S.X,1⟩) hI.usr hI.wD
    have hm2:=yC (kind:=1) (tg:=⟨#[]⟩) hI.toInv0 hm (.inl ⟨by decide,rfl⟩)
    refine hI.add (us':=ins (aB.least S.us) ⟨aN S.X,1⟩ S.us) (fT:=max S.av ((S.us.length:Int)+1)) (o:={ aV S.X 1 mode with opens:=1 }) hd iN (nL h0) iH (tD h0) rfl (.inl rfl) rfl rfl rfl rfl rfl ⟨hm2.mode,hm2.uid,hm2.gid,hm2.time,hm2.data,hm2.ah,hm2.target⟩ v1 v2 (by rw [iJ];omega) (by have:=hI.av;omega) (fun h t e=>?_) (fun k hk=>?_) ?_
    ·rw [qV g2] at e
     split at e
     ·cases e;exact⟨.inr rfl,by show (1:Int)≠3;decide⟩
     exact⟨.inl (hI.us h t e).1,(hI.us h t e).2⟩
    ·rw [Ce,if_neg (fun e=>hk e.symm),Nat.zero_add]
    rw [Ce,if_pos rfl,EG hI.toInv0];rfl
   exact hI
  exact hI
theorem Inv.cT (hI:Inv S) (c:aD):Inv (Proofs.YtidjcblbdmfalaaGreat.cT S c).2.1:=by
  have habout:∀ {need:Int} {d:Nat} {h:Int} {n:ByteArray},dZ S.O S.us h n need=.ok d->Live S.idx ⟨d,2⟩/\(obj S.O d).gone=false/\bJ n:=fun {need d h n} e=>by
    rcases kU hI.toInv0 h n need with ⟨e2,h1,_⟩|⟨d2,h1,h2,h3,h4,_⟩
    ·rw [e] at h1;cases h1
    rw [e] at h1;cases h1;exact⟨h2,h3,h4⟩
  have J6:∀ {t:Th},fO S.O S.us c=.ok t->Live S.idx t:=fun {t} e=>by
    rcases AB hI.toInv0 c with ⟨e2,h1,_⟩|⟨k,h1,h2⟩|⟨k,h1,h2⟩|⟨k,h1,h2⟩<;>rw [e] at h1<;>cases h1<;>exact h2
  by_cases h:1<=c.op/\c.op<=15
  ·have h:c.op=1\/c.op=2\/c.op=3\/c.op=4\/c.op=5\/c.op=6\/c.op=7\/c.op=8\/c.op=9\/c.op=10\/c.op=11\/c.op=12\/c.op=13\/c.op=14\/c.op=15:=by omega
   rcases h with h|h|h|h|h|h|h|h|h|h|h|h|h|h|h
   ·rw [uQ h]
    unfold ji
    split
    ·exact hI
    rename_i t e
    split
    ·rename_i hk;exact hI.ct (hI.live e) (by rw [hk];decide)
    exact hI
   ·rw [xT h]
    unfold fF
    split
    ·exact hI
    rename_i t e
    split
    ·exact hI
    rename_i hk
    split
    ·exact hI
    exact hI.ct (J6 e) hk
   ·rw [xU h]
    unfold eP
    split
    ·exact hI
    rename_i t e
    split
    ·exact hI
    rename_i hk
    split
    ·exact hI
    exact hI.ct (J6 e) hk
   ·rw [uR h]
    unfold fP
    split
    ·exact hI
    rename_i d e
    obtain⟨h1,h2,h3⟩:=habout e
    split
    ·rename_i hm;exact hI.gE h1 h2 h3 hm
    exact hI
   ·rw [xV h]
    unfold eu
    split
    ·exact hI
    rename_i d e
    obtain⟨h1,h2,h3⟩:=habout e
    split
    ·rename_i hm
     split
     ·exact hI.mz h1 h2 h3 hm
     exact hI
    exact hI
   ·rw [xW h]
    unfold fI
    split
    ·exact hI
    rename_i d e
    obtain⟨h1,h2,h3⟩:=habout e
    exact hI.eM h1 h2 h3
   ·rw [xX h]
    unfold cO
    split
    ·exact hI
    rename_i d e
    split
    ·exact hI
    rename_i to e2
    obtain⟨h1,h2,h3⟩:=habout e2
    exact hI.fB (habout e).1 h1 h2 h3
   ·rw [xY h]
    unfold fZ
    split
    ·exact hI
    rename_i d e
    exact hI.ef (habout e).1
   ·rw [xZ h]
    unfold fY
    split
    ·exact hI
    rename_i t e
    split
    ·rename_i hk
     obtain⟨k,kd⟩:=t
     simp only at hk
     subst hk
     exact hI.dO (hI.us _ _ e).1 _
    exact hI
   ·rw [tX h]
    unfold bK
    split
    ·exact hI
    split
    ·exact hI
    split
    ·rename_i hm
     split
     ·rename_i ho
      split
      ·rename_i ht;exact hI.Rt hm ho ht
      exact hI
     exact hI
    exact hI
   ·rw [tY h]
    unfold j4
    split<;>exact hI
   ·rw [tZ h]
    unfold gi
    split<;>exact hI
   ·rw [rJ h]
    unfold iR
    split
    ·exact hI
    rename_i t e;exact hI.shut e
   ·rw [t6 h]
    unfold ig
    split
    ·exact hI
    rename_i d e
    exact hI.eO (habout e).1
   rw [t7 h]
   unfold fC
   split
   ·exact hI
   rename_i d e
   split
   ·exact hI
   rename_i to e2
   obtain⟨h1,h2,h3⟩:=habout e2
   exact hI.bH (habout e).1 h1 h2 h3
  rw [t8 h];exact hI
theorem Inv.cI (hI:Inv S) (c:aD):Inv (Proofs.YtidjcblbdmfalaaGreat.cI S c).1:=hI.cT _
end inv
end
section
open Go.RowKit Go.Maps bL aB
structure cQ where
  at_:Int
  op:Int
  path:ByteArray
  to:ByteArray
  text:ByteArray
def slash:ByteArray:=⟨#[47]⟩
def iZ (s:ByteArray):List ByteArray:=Lib.splitB slash 0 (Lib.countB s slash) s
noncomputable section
def jE (O:bY):Nat->List ByteArray->Except Int (Nat×ByteArray)
  | _,[]=>.error 170
  | d,[p]=>if (obj O d).gone=true then .error 170 else .ok (d,p)
  | d,p::q::r=>match aU p (obj O d).ah with
    | none=>.error 170
    | some t=>if t.kind=3 then .error 174 else if t.kind=1 then .error 173 else jE O t.k (q::r)
instance (ps:List ByteArray):Decidable (∀ p∈ps,bJ p):=Classical.propDecidable _
def jj (O:bY) (d:Nat) (path:ByteArray):Except Int (Nat×ByteArray):=if ∀ p∈iZ path,bJ p then jE O d (iZ path) else .error 95
def rK (S:aG) (d:Nat) (name text:ByteArray):Int×aG:=
  if bZ S.X S.O S.idx d name=0 then (0,(dO (eU S d name (aV S.X 1 420)) (aN S.X) text.data.toList).2.2) else (bZ S.X S.O S.idx d name,S)
def kO (S:aG) (d:Nat) (name text:ByteArray):Int×aG:=
  match aU name (obj S.O d).ah with
  | none=>(170,S)
  | some t=>if t.kind=3 then (174,S) else if t.kind=2 then (172,S) else ((dO S t.k text.data.toList).2.1,(dO S t.k text.data.toList).2.2)
def lP (S:aG) (top:Nat) (a:cQ) (d:Nat) (name:ByteArray):Int×aG:=
  if a.op=1 then rK S d name a.text
  else if a.op=2 then gE S d name 493
  else if a.op=3 then eM S d name a.text
  else if a.op=4 then ef S d name
  else if a.op=5 then eO S d name
  else if a.op=6 then match jj S.O top a.to with
    | .error e=>(e,S)
    | .ok (to,toName)=>bH S d name to toName
  else kO S d name a.text
def cU (S:aG) (root:Int) (a:cQ):Int×aG:=
  if a.op < 1\/a.op > 7 then (230,S)
  else match aB.get S.idx root with
    | none=>(141,S)
    | some t=>if t.kind=2 then
        match jj S.O t.k a.path with
        | .error e=>(e,S)
        | .ok (d,name)=>lP S t.k a d name
      else (173,S)
end
section facts
variable {S:aG} {O:bY} {d d':Nat} {name:ByteArray} {t:Th}
theorem GL (hI:Inv0 S):∀ (ps:List ByteArray) (d:Nat),Live S.idx ⟨d,2⟩->(∀ p∈ps,bJ p)->jE S.O d ps=.ok (d',name)->Live S.idx ⟨d',2⟩/\(obj S.O d').gone=false/\bJ name
  | [],d,_,_,h=>by cases h
  | [p],d,hd,hg,h=>by
    unfold jE at h
    split at h
    ·cases h
    rename_i hn
    cases h
    exact⟨hd,by simpa using hn,hg _ (List.mem_singleton.2 rfl)⟩
  | p::q::r,d,hd,hg,h=>by
    unfold jE at h
    cases e:aU p (obj S.O d).ah with
    | none=>rw [e] at h;cases h
    | some t=>
      rw [e] at h
      simp only at h
      split at h
      ·cases h
      rename_i h3
      split at h
      ·cases h
      rename_i h1
      have hl:=(hI.ent hd e).2
      have hk:t=⟨t.k,2⟩:=by
        have:=(hI.ob _ hl).2.2
        obtain⟨k,kd⟩:=t
        simp only at this h1 h3
        have:kd=2:=by omega
        rw [this]
      rw [hk] at hl
      exact GL hI (q::r) t.k hl (fun p hp=>hg p (List.mem_cons_of_mem _ hp)) h
theorem Cg {path:ByteArray} (hI:Inv0 S) (hd:Live S.idx ⟨d,2⟩) (h:jj S.O d path=.ok (d',name)):Live S.idx ⟨d',2⟩/\(obj S.O d').gone=false/\bJ name:=by
  unfold jj at h
  split at h
  ·rename_i hg
   exact GL hI _ _ hd hg h
  cases h
theorem EH (hI:Inv S) {o:aT}:Live (ins (S.X.last+1) ⟨aN S.X,o.kind⟩ S.idx) ⟨aN S.X,o.kind⟩:=by
  unfold Live
  have h1:=oW hI.toInv0
  have hn:S.X.last+1∉keys S.idx:=by
    cases e:aB.get S.idx (S.X.last+1) with
    | none=>exact get_none.1 e
    | some t=>have:=hI.idx _ _ e;omega
  rw [qV hn]
  simp only
  rw [h1,if_pos rfl]
theorem Inv.rK {text:ByteArray} (hI:Inv S) (hd:Live S.idx ⟨d,2⟩) (iN:(obj S.O d).gone=false) (iH:bJ name):Inv (Proofs.YtidjcblbdmfalaaGreat.rK S d name text).2:=by
  unfold Proofs.YtidjcblbdmfalaaGreat.rK
  split
  ·rename_i h0
   exact (hI.DJ hd iN iH h0 (.inl rfl) ⟨by decide,by decide⟩ (.inl ⟨by decide,rfl⟩)).dO (EH hI (o:=aV S.X 1 420)) _
  exact hI
theorem Inv.kO {text:ByteArray} (hI:Inv S) (hd:Live S.idx ⟨d,2⟩):Inv (Proofs.YtidjcblbdmfalaaGreat.kO S d name text).2:=by
  unfold Proofs.YtidjcblbdmfalaaGreat.kO
  split
  ·exact hI
  rename_i t e
  split
  ·exact hI
  split
  ·exact hI
  rename_i h3 h2
  have hl:=(hI.ent hd e).2
  have hk:t=⟨t.k,1⟩:=by
    have:=(hI.ob _ hl).2.2
    obtain⟨k,kd⟩:=t
    simp only at this h2 h3
    have:kd=1:=by omega
    rw [this]
  rw [hk] at hl
  exact hI.dO hl _
theorem Inv.lP {top:Nat} {a:cQ} (hI:Inv S) (ht:Live S.idx ⟨top,2⟩) (hd:Live S.idx ⟨d,2⟩) (iN:(obj S.O d).gone=false) (iH:bJ name):Inv (Proofs.YtidjcblbdmfalaaGreat.lP S top a d name).2:=by
  unfold Proofs.YtidjcblbdmfalaaGreat.lP
  split
  ·exact hI.rK hd iN iH
  split
  ·exact hI.gE hd iN iH ⟨by decide,by decide⟩
  split
  ·exact hI.eM hd iN iH
  split
  ·exact hI.ef hd
  split
  ·exact hI.eO hd
  split
  ·split
   ·exact hI
   rename_i to toName e
   obtain⟨h1,h2,h3⟩:=Cg hI.toInv0 ht e
   exact hI.bH hd h1 h2 h3
  exact hI.kO hd
theorem OA {i:Int} (hI:Inv0 S) (e:aB.get S.idx i=some t) (hk:t.kind=2):Live S.idx ⟨t.k,2⟩:=by
  have:=hI.live e
  obtain⟨k,kd⟩:=t
  simp only at hk
  subst hk
  exact this
theorem Inv.cU {root:Int} {a:cQ} (hI:Inv S):Inv (Proofs.YtidjcblbdmfalaaGreat.cU S root a).2:=by
  unfold Proofs.YtidjcblbdmfalaaGreat.cU
  split
  ·exact hI
  split
  ·exact hI
  rename_i t e
  split
  ·rename_i hk
   split
   ·exact hI
   rename_i d name e2
   have ht:=OA hI.toInv0 e hk
   obtain⟨h1,h2,h3⟩:=Cg hI.toInv0 ht e2
   exact hI.lP ht h1 h2 h3
  exact hI
end facts
section err
variable {S:aG} {c:aD} {d to:Nat} {name toName text:ByteArray} {t:Th}
end err
end
section
open Go.RowKit Go.Maps bL aB
noncomputable section
structure aZ where
  at_:Int
  kind:Int
def dL (f:aZ):List Value:=[.int .i64 f.at_,.int .i64 f.kind]
instance:Inhabited aZ:=⟨⟨0,0⟩⟩
instance:Inhabited cQ:=⟨⟨0,0,⟨#[]⟩,⟨#[]⟩,⟨#[]⟩⟩⟩
def jB (fs:List aZ) (i:Nat):aZ:=fs.getD i default
def act (xs:List cQ) (i:Nat):cQ:=xs.getD i default
def FK (f:aZ):Prop:=1<=f.kind/\f.kind<=3
instance (f:aZ):Decidable (FK f):=inferInstanceAs (Decidable (_/\_))
def gh:List aZ->Int->Int
  | [],_=>0
  | f::r,n=>if f.at_=n/\FK f then f.kind else gh r n
def bO (xs:List cQ) (n:Int):List cQ:=xs.filter (fun a=>decide (a.at_=n))
def gU (root:Int) (S:aG) (xs:List cQ):aG:=xs.foldl (fun S a=>(cU S root a).2) S
def aQ (c:aD) (e:Int):aD:=if c.op=11\/c.op=12 then ⟨c.op,c.handle,0,c.name,c.text,c.dA,c.dC,c.data,0,0,0,0,0,e,0⟩ else { c with answer:=0,code:=e }
def bB (k:Int) (S:aG) (c:aD):aG×aD:=
  if k=1 then (if c.op=13 then (cI S c).1 else S,aQ c 180)
  else if k=2/\(c.op=4\/c.op=5\/c.op=6\/c.op=7\/c.op=9) then (S,aQ c 176)
  else if k=3/\c.op=9/\2<=c.data.length then ((cI S { c with data:=c.data.take (c.data.length / 2) }).1,{ (cI S { c with data:=c.data.take (c.data.length / 2) }).2 with dA:=c.dA,dC:=c.dC,data:=c.data })
  else cI S c
def bA (root:Int) (c:aD):aD:=if c.op=1 then { c with other:=root } else c
def ij (fs:List aZ) (xs:List cQ) (root:Int) (n:Nat) (S:aG) (c:aD):aG×aD:=bB (gh fs n) (gU root S (bO xs n)) (bA root c)
section p
variable {S:aG} {c:aD} {fs gs:List aZ} {xs ys:List cQ} {root k:Int} {n:Nat} {A:Option Addr} {m:Nat}
theorem qJ (f:aZ) (x:Int):∀ fs:List aZ,gh (fs++[f]) x=if gh fs x=0 then (if f.at_=x/\FK f then f.kind else 0) else gh fs x
  | []=>rfl
  | g::r=>by
    show (if g.at_=x/\FK g then g.kind else gh (r++[f]) x)=if (if g.at_=x/\FK g then g.kind else gh r x)=0 then _ else (if g.at_=x/\FK g then g.kind else gh r x)
    by_cases h:g.at_=x/\FK g
    ·have:¬ g.kind=0:=by have:=h.2.1;omega
     rw [if_pos h,if_pos h,if_neg this]
    rw [if_neg h,if_neg h,qJ f x r]
theorem yD (a:cQ) (x:Int):bO (xs++[a]) x=if a.at_=x then bO xs x++[a] else bO xs x:=by
  unfold bO
  rw [List.filter_append]
  by_cases h:a.at_=x
  ·rw [if_pos h,List.filter_cons_of_pos (by simpa using h),List.filter_nil]
  rw [if_neg h,List.filter_cons_of_neg (by simpa using h),List.filter_nil,List.append_nil]
theorem F5 (x:Int) (h:∀ a∈xs,a.at_≠x):bO xs x=[]:=List.filter_eq_nil_iff.2 (fun a ha=>by simpa using h a ha)
theorem AF (x:Int):(bO xs x).length<=xs.length:=List.length_filter_le ..
theorem Io {x:Int} {a:cQ} (h:a∈bO xs x):a∈xs:=(List.mem_filter.1 h).1
theorem Ip (a:cQ):gU root S (xs++[a])=(cU (gU root S xs) root a).2:=by
  unfold gU;rw [List.foldl_append];rfl
theorem qY {i:Nat} (h:i < xs.length):xs[i]?=some (act xs i):=getD_some h
theorem x3 {i:Nat} (h:i < fs.length):fs[i]?=some (jB fs i):=getD_some h
theorem Iq {i:Nat} (h:i < xs.length):gU root S (xs.take (i+1))=(cU (gU root S (xs.take i)) root (act xs i)).2:=by
  rw [List.take_add_one,qY h];exact Ip _
theorem Inv.gU (h:Inv S):∀ xs:List cQ,Inv (Proofs.YtidjcblbdmfalaaGreat.gU root S xs):=fun xs=>by
  induction xs generalizing S with
  | nil=>exact h
  | cons a r ih=>exact ih h.cU
theorem Inv.bB (h:Inv S):Inv (Proofs.YtidjcblbdmfalaaGreat.bB k S c).1:=by
  unfold Proofs.YtidjcblbdmfalaaGreat.bB
  split
  ·show Inv (if c.op=13 then _ else _)
   split
   ·exact h.cI _
   exact h
  split
  ·exact h
  split
  ·exact h.cI _
  exact h.cI _
theorem Inv.ij (h:Inv S):Inv (Proofs.YtidjcblbdmfalaaGreat.ij fs xs root n S c).1:=(h.gU _).bB
def bS (A:Option Addr) (m:Nat) (c:aD):aD:={ c with dA:=A,dC:=m }
theorem PV:cT S (bS A m c)=((cT S c).1,(cT S c).2.1,bS A m (cT S c).2.2):=by
  by_cases hop:1<=c.op/\c.op<=15
  case neg=>rw [t8 hop,t8 (c:=bS A m c) hop]
  have hop:c.op=1\/c.op=2\/c.op=3\/c.op=4\/c.op=5\/c.op=6\/c.op=7\/c.op=8\/c.op=9\/c.op=10\/c.op=11\/c.op=12\/c.op=13\/c.op=14\/c.op=15:=by omega
  rcases hop with q|q|q|q|q|q|q|q|q|q|q|q|q|q|q
  ·rw [uQ q,uQ (c:=bS A m c) q];unfold ji bS;simp only;cases aB.get S.idx c.other<;>(try simp only)<;>(repeat' split)<;>rfl
  ·rw [xT q,xT (c:=bS A m c) q];unfold fF fO bS;simp only;split<;>(repeat' split)<;>rfl
  ·rw [xU q,xU (c:=bS A m c) q];unfold eP fO bS;simp only;split<;>(repeat' split)<;>rfl
  ·rw [uR q,uR (c:=bS A m c) q];unfold fP bS;simp only;split<;>(repeat' split)<;>rfl
  ·rw [xV q,xV (c:=bS A m c) q];unfold eu bS;simp only;split<;>(repeat' split)<;>rfl
  ·rw [xW q,xW (c:=bS A m c) q];unfold fI bS;simp only;split<;>(repeat' split)<;>rfl
  ·rw [xX q,xX (c:=bS A m c) q];unfold cO bS;simp only;split<;>(repeat' split)<;>rfl
  ·rw [xY q,xY (c:=bS A m c) q];unfold fZ bS;simp only;split<;>(repeat' split)<;>rfl
  ·rw [xZ q,xZ (c:=bS A m c) q];unfold fY bS;simp only;split<;>(repeat' split)<;>rfl
  ·rw [tX q,tX (c:=bS A m c) q];unfold bK bS;simp only;split<;>(repeat' split)<;>rfl
  ·rw [tY q,tY (c:=bS A m c) q];unfold j4 bS;simp only;split<;>(repeat' split)<;>rfl
  ·rw [tZ q,tZ (c:=bS A m c) q];unfold gi fO bS;simp only;split<;>(repeat' split)<;>rfl
  ·rw [rJ q,rJ (c:=bS A m c) q];unfold iR bS;simp only;split<;>(repeat' split)<;>rfl
  ·rw [t6 q,t6 (c:=bS A m c) q];unfold ig bS;simp only;split<;>(repeat' split)<;>rfl
  rw [t7 q,t7 (c:=bS A m c) q];unfold fC bS;simp only;split<;>(repeat' split)<;>rfl
theorem L4:(cT S c).2.2.data=c.data:=by
  by_cases hop:1<=c.op/\c.op<=15
  case neg=>rw [t8 hop]
  have hop:c.op=1\/c.op=2\/c.op=3\/c.op=4\/c.op=5\/c.op=6\/c.op=7\/c.op=8\/c.op=9\/c.op=10\/c.op=11\/c.op=12\/c.op=13\/c.op=14\/c.op=15:=by omega
  rcases hop with q|q|q|q|q|q|q|q|q|q|q|q|q|q|q
  ·rw [uQ q];unfold ji;(repeat' split)<;>rfl
  ·rw [xT q];unfold fF;(repeat' split)<;>rfl
  ·rw [xU q];unfold eP;(repeat' split)<;>rfl
  ·rw [uR q];unfold fP;(repeat' split)<;>rfl
  ·rw [xV q];unfold eu;(repeat' split)<;>rfl
  ·rw [xW q];unfold fI;(repeat' split)<;>rfl
  ·rw [xX q];unfold cO;(repeat' split)<;>rfl
  ·rw [xY q];unfold fZ;(repeat' split)<;>rfl
  ·rw [xZ q];unfold fY;(repeat' split)<;>rfl
  ·rw [tX q];unfold bK;(repeat' split)<;>rfl
  ·rw [tY q];unfold j4 lC;(repeat' split)<;>rfl
  ·rw [tZ q];unfold gi lC;(repeat' split)<;>rfl
  ·rw [rJ q];unfold iR;(repeat' split)<;>rfl
  ·rw [t6 q];unfold ig;(repeat' split)<;>rfl
  rw [t7 q];unfold fC;(repeat' split)<;>rfl
theorem EI:cI S (bS A m c)=((cI S c).1,bS A m (cI S c).2):=by
  have h:=PV (S:=S) (A:=A) (m:=m) (c:={ c with answer:=0,code:=230 })
  unfold cI
  rw [show ({ bS A m c with answer:=0,code:=230 }:aD)=bS A m { c with answer:=0,code:=230 } from rfl,h]
  rfl
theorem L5:(cI S c).2.data=c.data:=L4 (c:={ c with answer:=0,code:=230 })
theorem EJ {e:Int}:aQ (bS A m c) e=bS A m (aQ c e):=by
  unfold aQ
  by_cases h:c.op=11\/c.op=12
  ·rw [if_pos h,if_pos (show (bS A m c).op=11\/(bS A m c).op=12 from h)];rfl
  rw [if_neg h,if_neg (show ¬ ((bS A m c).op=11\/(bS A m c).op=12) from h)];rfl
theorem AJ {e:Int}:(aQ c e).data=c.data:=by
  unfold aQ;split<;>rfl
theorem F6:(bB k S c).2.data=c.data:=by
  unfold bB
  split
  ·exact AJ
  split
  ·exact AJ
  split
  ·rfl
  exact L5
theorem C2:bB k S (bS A m c)=((bB k S c).1,bS A m (bB k S c).2):=by
  unfold bB
  by_cases h1:k=1
  ·rw [if_pos h1,if_pos h1]
   show (if c.op=13 then (cI S (bS A m c)).1 else S,aQ (bS A m c) 180)=_
   rw [EI,EJ]
  rw [if_neg h1,if_neg h1]
  by_cases h2:k=2/\(c.op=4\/c.op=5\/c.op=6\/c.op=7\/c.op=9)
  ·rw [if_pos h2,if_pos (show k=2/\((bS A m c).op=4\/(bS A m c).op=5\/(bS A m c).op=6\/(bS A m c).op=7\/(bS A m c).op=9) from h2),EJ]
  rw [if_neg h2,if_neg (show ¬ (k=2/\((bS A m c).op=4\/(bS A m c).op=5\/(bS A m c).op=6\/(bS A m c).op=7\/(bS A m c).op=9)) from h2)]
  by_cases h3:k=3/\c.op=9/\2<=c.data.length
  ·rw [if_pos h3,if_pos (show k=3/\(bS A m c).op=9/\2<=(bS A m c).data.length from h3)]
   show ((cI S (bS A m { c with data:=c.data.take (c.data.length / 2) })).1,{ (cI S (bS A m { c with data:=c.data.take (c.data.length / 2) })).2 with dA:=A,dC:=m,data:=c.data })=_
   rw [EI];rfl
  rw [if_neg h3,if_neg (show ¬ (k=3/\(bS A m c).op=9/\2<=(bS A m c).data.length) from h3)]
  exact EI
theorem L6:bA root (bS A m c)=bS A m (bA root c):=by
  unfold bA
  by_cases h:c.op=1
  ·rw [if_pos h,if_pos (show (bS A m c).op=1 from h)];rfl
  rw [if_neg h,if_neg (show ¬ (bS A m c).op=1 from h)]
theorem C3:ij fs xs root n S (bS A m c)=((ij fs xs root n S c).1,bS A m (ij fs xs root n S c).2):=by
  unfold ij
  rw [L6,C2]
theorem Ir:(bA root c).data=c.data:=by
  unfold bA;split<;>rfl
theorem F7:(ij fs xs root n S c).2.data=c.data:=F6.trans Ir
theorem F8 {j3:Int} (h:j3=if c.op=1 then root else c.other):bA root c={ c with other:=j3 }:=by
  unfold bA
  by_cases e:c.op=1
  ·rw [if_pos e] at h ⊢;rw [h]
  rw [if_neg e] at h ⊢;rw [h]
end p
end
end
section
open Go.RowKit Go.WideShapes Go.ChangeShapes Go.ChangeAt Go.Deep
def bq {α:Type} (f:α->List Value) (xs:List α):List Value:=dg (fun _ x=>f x) 0 xs
theorem J7 {α:Type} {f:α->List Value} {s:Nat} (hf:∀ a,(f a).length=s) {xs:List α} {i j:Nat} {a:α} (h:xs[i]?=some a) (hj:j < s):(bq f xs)[i * s+j]?=(f a)[j]?:=pN (f:=fun _ x=>f x) (s:=s) (fun _ a=>hf a) xs 0 i j _ h hj
def dS (a:cQ):List Value:=[.int .i64 a.at_,.int .i64 a.op,.string a.path,.string a.to,.string a.text]
structure wK (a:cQ) (b:Nat):Prop where
  aw:(Lit.int .i64 a.at_).wf=true
  path:a.path.size<=b
  to:a.to.size<=b
  text:a.text.size<=b
theorem wK.wide {a:cQ} {b b':Nat} (h:wK a b) (g:b<=b'):wK a b':=⟨h.aw,Nat.le_trans h.path g,Nat.le_trans h.to g,Nat.le_trans h.text g⟩
structure qK (β:Bs) (c:aD) (b:Nat):Prop where
  data:bD β c.dA c.data
  len:c.data.length<=b
  name:c.name.size<=b
  text:c.text.size<=b
  hw:(Lit.int .i64 c.handle).wf=true
  ow:(Lit.int .i64 c.other).wf=true
theorem qK.le {β β':Bs} {c:aD} {b:Nat} (h:qK β c b) (g:β.le β'):qK β' c b:=⟨h.data.le g,h.len,h.name,h.text,h.hw,h.ow⟩
theorem qK.wide {β:Bs} {c:aD} {b b':Nat} (h:qK β c b) (g:b<=b'):qK β c b':=⟨h.data,Nat.le_trans h.len g,Nat.le_trans h.name g,Nat.le_trans h.text g,h.hw,h.ow⟩
instance:Inhabited aD:=⟨⟨0,0,0,⟨#[]⟩,⟨#[]⟩,none,0,[],0,0,0,0,0,0,0⟩⟩
def aW (xs:List aD) (i:Nat):aD:=xs.getD i default
structure iq (xs:List cQ) (b:Nat):Prop where
  len:xs.length<=b
  q:∀ a∈xs,wK a b
structure fV (xs:List aZ) (b:Nat):Prop where
  len:xs.length<=b
  q:∀ a∈xs,(Lit.int .i64 a.at_).wf=true
theorem iq.wide {xs:List cQ} {b b':Nat} (h:iq xs b) (g:b<=b'):iq xs b':=⟨Nat.le_trans h.len g,fun a ha=>(h.q a ha).wide g⟩
theorem fV.wide {xs:List aZ} {b b':Nat} (h:fV xs b) (g:b<=b'):fV xs b':=⟨Nat.le_trans h.len g,h.q⟩
structure bW (β:Bs) (A:Option Addr) (xs:List aD):Prop where
  row:cP β A (bq bT xs)
  q:∀ i,i < xs.length->qK β (aW xs i) 1048576
section s
variable {β β':Bs} {A:Option Addr} {i j:Nat} {v:Value}
theorem GN {α:Type} {f:α->List Value} {s:Nat} {xs:List α} {a:α} (h:cP β A (bq f xs)) (hf:∀ a,(f a).length=s) (hi:xs[i]?=some a) (hv:(f a)[j]?=some v):A=some ⟨ar A,aq A,none⟩/\Rd β ⟨ar A,aq A+i * s+j,none⟩ v:=by
  have hj:j < s:=by rw [← hf a];exact bE hv
  have:=h (i * s+j) v ((J7 hf hi hj).trans hv)
  rw [← Nat.add_assoc] at this
  exact this
theorem bW.le {xs:List aD} (h:bW β A xs) (g:β.le β'):bW β' A xs:=⟨h.row.le g,fun i hi=>(h.q i hi).le g⟩
theorem GP {xs:List aD} (h:i < xs.length):xs[i]?=some (aW xs i):=getD_some h
theorem bW.hd {xs:List aD} (h:bW β A xs) (hi:i < xs.length):A=some ⟨ar A,aq A,none⟩:=(GN (s:=13) (j:=0) h.row (fun _=>rfl) (GP hi) rfl).1
theorem bW.rd {xs:List aD} (h:bW β A xs) (hi:i < xs.length) (hv:(bT (aW xs i))[j]?=some v):Rd β ⟨ar A,aq A+i * 13+j,none⟩ v:=(GN h.row (fun _=>rfl) (GP hi) hv).2
theorem DK {xs:List cQ} (h:cP β A (bq dS xs)) (hi:i < xs.length):A=some ⟨ar A,aq A,none⟩:=(GN (s:=5) (j:=0) h (fun _=>rfl) (qY hi) rfl).1
theorem j6 {xs:List cQ} (h:cP β A (bq dS xs)) (hi:i < xs.length) (hv:(dS (act xs i))[j]?=some v):Rd β ⟨ar A,aq A+i * 5+j,none⟩ v:=(GN h (fun _=>rfl) (qY hi) hv).2
theorem Rv {xs:List aZ} (h:cP β A (bq dL xs)) (hi:i < xs.length):A=some ⟨ar A,aq A,none⟩:=(GN (s:=2) (j:=0) h (fun _=>rfl) (x3 hi) rfl).1
theorem Nn {xs:List aZ} (h:cP β A (bq dL xs)) (hi:i < xs.length) (hv:(dL (jB xs i))[j]?=some v):Rd β ⟨ar A,aq A+i * 2+j,none⟩ v:=(GN h (fun _=>rfl) (x3 hi) hv).2
theorem fV.at {xs:List aZ} {b:Nat} (h:fV xs b) (hi:i < xs.length):(Lit.int .i64 (jB xs i).at_).wf=true:=h.q _ (List.mem_of_getElem? (x3 hi))
theorem iq.at {xs:List cQ} {b:Nat} (h:iq xs b) (hi:i < xs.length):wK (act xs i) b:=h.q _ (List.mem_of_getElem? (qY hi))
end s
section a
variable {H:Type} {enc:TypeId×Value->H} {W:World} {sp:Nat->Bool}
theorem iK {t:TypeId} {n:Nat} {c:Value} {x:DataW H×List MemPlace} (ht:Tryz.prog.underlying t=some (.int .i64)) (h:DataW.trod enc Tryz.prog W 0 sp true n t [c]=some x):∃ z,c=.int .i64 z/\(Lit.int .i64 z).wf=true:=by
  obtain⟨z,h1,_,h3⟩:=DataW.trod_int ht h
  cases h1
  exact⟨z,rfl,h3⟩
theorem L7 {n:Nat} {cs:List Value} {x:DataW H×List MemPlace} (h:DataW.trod enc Tryz.prog W 0 sp true n 41 cs=some x):∃ a:cQ,cs=dS a/\wK a (Rows.uptoBulk x.1):=by
  obtain⟨vs,m,_,hx,hl,hvl,hv⟩:=DataW.trod_struct Tryz.underlying41 h
  have hC:Tryz.prog.cellsOf 41=5:=by kernel_rfl
  rw [hC] at hl
  match cs,hl with
  | [c0,c1,c2,c3,c4],_=>
    obtain⟨a0,_⟩:=aY (hv 0 _ rfl) (by rw [hvl];decide)
    obtain⟨a1,_⟩:=aY (hv 1 _ rfl) (by rw [hvl];decide)
    obtain⟨a2,e2⟩:=aY (hv 2 _ rfl) (by rw [hvl];decide)
    obtain⟨a3,e3⟩:=aY (hv 3 _ rfl) (by rw [hvl];decide)
    obtain⟨a4,e4⟩:=aY (hv 4 _ rfl) (by rw [hvl];decide)
    obtain⟨z0,rfl,w0⟩:=iK (c:=c0) Tryz.underlying3 a0
    obtain⟨z1,rfl,_⟩:=iK (c:=c1) Tryz.underlying3 a1
    obtain⟨s2,rfl,l2⟩:=mZ (c:=c2) Tryz.underlying9 a2
    obtain⟨s3,rfl,l3⟩:=mZ (c:=c3) Tryz.underlying9 a3
    obtain⟨s4,rfl,l4⟩:=mZ (c:=c4) Tryz.underlying9 a4
    have hb:Rows.uptoBulk x.1=Rows.uptoBulk (.agg (vs.map (·.1))):=by rw [hx]
    exact⟨⟨z0,z1,s2,s3,s4⟩,rfl,⟨w0,by show s2.size<=_;omega,by show s3.size<=_;omega,by show s4.size<=_;omega⟩⟩
theorem Iu {n:Nat} {cs:List Value} {x:DataW H×List MemPlace} (h:DataW.trod enc Tryz.prog W 0 sp true n 39 cs=some x):∃ a:aZ,cs=dL a/\(Lit.int .i64 a.at_).wf=true:=by
  obtain⟨vs,m,_,hx,hl,hvl,hv⟩:=DataW.trod_struct Tryz.underlying39 h
  have hC:Tryz.prog.cellsOf 39=2:=by kernel_rfl
  rw [hC] at hl
  match cs,hl with
  | [c0,c1],_=>
    obtain⟨a0,_⟩:=aY (hv 0 _ rfl) (by rw [hvl];decide)
    obtain⟨a1,_⟩:=aY (hv 1 _ rfl) (by rw [hvl];decide)
    obtain⟨z0,rfl,w0⟩:=iK (c:=c0) Tryz.underlying3 a0
    obtain⟨z1,rfl,_⟩:=iK (c:=c1) Tryz.underlying3 a1
    exact⟨⟨z0,z1⟩,rfl,w0⟩
theorem J8 {n:Nat} {cs:List Value} {x:DataW H×List MemPlace} (h:DataW.trod enc Tryz.prog W 0 sp true n 48 cs=some x):∃ c:aD,cs=bT c/\qK (B0 W) c (Rows.uptoBulk x.1):=by
  obtain⟨us,_,_,PW,hl,nQ,hu⟩:=DataW.trod_struct Tryz.underlying48 h
  have hC:Tryz.prog.cellsOf 48=13:=by kernel_rfl
  rw [hC] at hl
  match cs,hl with
  | [c0,c1,c2,c3,c4,c5,c6,c7,c8,c9,c10,c11,Un],_=>
    obtain⟨h0,_⟩:=aY (hu 0 _ rfl) (by rw [nQ];decide)
    obtain⟨h1,_⟩:=aY (hu 1 _ rfl) (by rw [nQ];decide)
    obtain⟨h2,_⟩:=aY (hu 2 _ rfl) (by rw [nQ];decide)
    obtain⟨h3,b3⟩:=aY (hu 3 _ rfl) (by rw [nQ];decide)
    obtain⟨h4,b4⟩:=aY (hu 4 _ rfl) (by rw [nQ];decide)
    obtain⟨h5,b5⟩:=aY (hu 5 _ rfl) (by rw [nQ];decide)
    obtain⟨h6,_⟩:=aY (hu 6 _ rfl) (by rw [nQ];decide)
    obtain⟨h7,_⟩:=aY (hu 7 _ rfl) (by rw [nQ];decide)
    obtain⟨h8,_⟩:=aY (hu 8 _ rfl) (by rw [nQ];decide)
    obtain⟨h9,_⟩:=aY (hu 9 _ rfl) (by rw [nQ];decide)
    obtain⟨h10,_⟩:=aY (hu 10 _ rfl) (by rw [nQ];decide)
    obtain⟨h11,_⟩:=aY (hu 11 _ rfl) (by rw [nQ];decide)
    obtain⟨ts,_,_,_,_,htl,ht⟩:=DataW.trod_struct Tryz.underlying26 h9
    obtain⟨t0,_⟩:=aY (ht 0 _ rfl) (by rw [htl];decide)
    obtain⟨t1,_⟩:=aY (ht 1 _ rfl) (by rw [htl];decide)
    obtain⟨z0,rfl,w0⟩:=iK (c:=c0) Tryz.underlying3 h0
    obtain⟨z1,rfl,w1⟩:=iK (c:=c1) Tryz.underlying3 h1
    obtain⟨z2,rfl,w2⟩:=iK (c:=c2) Tryz.underlying3 h2
    obtain⟨s3,rfl,l3⟩:=mZ (c:=c3) Tryz.underlying9 h3
    obtain⟨s4,rfl,l4⟩:=mZ (c:=c4) Tryz.underlying9 h4
    obtain⟨A5,p5,d5,rfl,q5,l5⟩:=zP (c:=c5) h5
    obtain⟨z6,rfl,w6⟩:=iK (c:=c6) Tryz.underlying3 h6
    obtain⟨z7,rfl,w7⟩:=iK (c:=c7) Tryz.underlying3 h7
    obtain⟨z8,rfl,w8⟩:=iK (c:=c8) Tryz.underlying3 h8
    obtain⟨z9,rfl,w9⟩:=iK (c:=c9) Tryz.underlying3 t0
    obtain⟨Uo,rfl,VR⟩:=iK (c:=c10) Tryz.underlying3 t1
    obtain⟨Uq,rfl,VS⟩:=iK (c:=c11) Tryz.underlying43 h10
    obtain⟨z12,rfl,VT⟩:=iK (c:=Un) Tryz.underlying3 h11
    have hb:Rows.uptoBulk x.1=Rows.uptoBulk (.agg (us.map (·.1))):=by rw [PW]
    exact⟨⟨z0,z1,z2,s3,s4,A5,p5,d5,z6,z7,z8,z9,Uo,Uq,z12⟩,rfl,⟨q5,by show d5.length<=_;omega,by show s3.size<=_;omega,by show s4.size<=_;omega,w1,w2⟩⟩
theorem Iw {n:Nat} {c:Value} {x:DataW H×List MemPlace} (h:DataW.trod enc Tryz.prog W 0 sp true n 30 [c]=some x):∃ A cp,∃ xs:List cQ,c=.slice A xs.length cp/\cP (B0 W) A (bq dS xs)/\iq xs (Rows.uptoBulk x.1)/\xs.length<=cp:=by
  obtain⟨A,cp,xs,D,h1,EK,_,h2,h4,h3⟩:=oK (α:=cQ) (f:=dS) (Q:=fun a d=>wK a (Rows.uptoBulk d)) Tryz.underlying30 (size:=5) (by kernel_rfl) (by decide) (fun n cs x h=>L7 h) (fun _=>rfl) h
  cases h1
  have h5:=oJ ((List.range xs.length).map D)
  refine⟨A,cp,xs,rfl,h2,⟨by simp at h5;omega,fun a ha=>?_⟩,EK⟩
  obtain⟨i,hi,e⟩:=List.mem_iff_getElem.1 ha
  have h6:=h4 i hi
  rw [show xs.getD i default=a by rw [← e];simp [hi]] at h6
  exact h6.wide (by have:=uE (D:=D) hi;omega)
theorem EL {n:Nat} {c:Value} {x:DataW H×List MemPlace} (h:DataW.trod enc Tryz.prog W 0 sp true n 29 [c]=some x):∃ A cp,∃ xs:List aZ,c=.slice A xs.length cp/\cP (B0 W) A (bq dL xs)/\fV xs (Rows.uptoBulk x.1)/\xs.length<=cp:=by
  obtain⟨A,cp,xs,D,h1,EK,_,h2,h4,h3⟩:=oK (α:=aZ) (f:=dL) (Q:=fun a _=>(Lit.int .i64 a.at_).wf=true) Tryz.underlying29 (size:=2) (by kernel_rfl) (by decide) (fun n cs x h=>Iu h) (fun _=>rfl) h
  cases h1
  have h5:=oJ ((List.range xs.length).map D)
  refine⟨A,cp,xs,rfl,h2,⟨by simp at h5;omega,fun a ha=>?_⟩,EK⟩
  obtain⟨i,hi,e⟩:=List.mem_iff_getElem.1 ha
  have h6:=h4 i hi
  rw [show xs.getD i default=a by rw [← e];simp [hi]] at h6
  exact h6
theorem open_calls {v:Value} {d:DataW H} {ps:List MemPlace} {r:Go.Reach} {b0:Nat} (hval:Value.okWide Tryz.prog W r b0 35 v) (h:DataW.Trod enc Tryz.prog W 0 sp true 35 v d ps) (hb:Rows.uptoBulk d<=1048576) :
    ∃ A cp,∃ xs:List aD,v=.slice A xs.length cp/\bW (B0 W) A xs/\xs.length<=1048576/\xs.length<=cp:=by
  obtain⟨a,n,c,rfl⟩:=okWide_slice Tryz.underlying35 hval
  obtain⟨fuel,h⟩:=h
  obtain⟨A,cp,xs,D,h1,EK,_,h2,h4,h3⟩:=oK (α:=aD) (f:=bT) (Q:=fun a d=>qK (B0 W) a (Rows.uptoBulk d)) Tryz.underlying35 (size:=13) (by kernel_rfl) (by decide) (fun n cs x h=>J8 h) (fun _=>rfl) h
  cases h1
  have h5:=oJ ((List.range xs.length).map D)
  have h3:Rows.uptoBulkAll ((List.range xs.length).map D)+1<=Rows.uptoBulk d:=h3
  refine⟨a,c,xs,rfl,⟨h2,fun i hi=>(h4 i hi).wide ?_⟩,by simp at h5;omega,EK⟩
  have h7:=uE (D:=D) hi
  omega
def Ch (A:Option Addr) (n cp:Nat) (root:Int) (X:FM) (Af:Option Addr) (nf cf:Nat) (Aa:Option Addr) (na ca:Nat):Value:=.agg #[.slice A n cp,.int .i64 root,.int .i64 X.cN,.int .i64 X.cB,.int .i64 X.cH,.int .i64 X.cS,.int .i64 X.cZ,.slice Af nf cf,.slice Aa na ca]
theorem open_wstart {v:Value} {d:DataW H} {ps:List MemPlace} {r:Go.Reach} {b0:Nat} (hval:Value.okWide Tryz.prog W r b0 34 v) (h:DataW.Trod enc Tryz.prog W 0 sp true 34 v d ps) :
    ∃ A cp,∃ ns:List aI,∃ L:Lay,∃ root:Int,∃ X:FM,∃ Af cf,∃ fs:List aZ,∃ Aa ca,∃ xs:List cQ,v=Ch A ns.length cp root X Af fs.length cf Aa xs.length ca/\au (B0 W) A ns L/\gu ns (Rows.uptoBulk d)/\Tk X/\(Lit.int .i64 root).wf=true ∧
      cP (B0 W) Af (bq dL fs)/\fV fs (Rows.uptoBulk d)/\fs.length<=cf/\cP (B0 W) Aa (bq dS xs)/\iq xs (Rows.uptoBulk d)/\xs.length<=ca:=by
  obtain⟨cs,rfl,hcs⟩:=okWide_struct Tryz.underlying34 hval
  obtain⟨fuel,h⟩:=h
  obtain⟨ys,m,_,hx,hl,ou,hf⟩:=DataW.trod_struct Tryz.underlying34 h
  have hC:Tryz.prog.cellsOf 34=9:=by kernel_rfl
  rw [hC] at hcs
  obtain⟨cs⟩:=cs
  match cs,hcs with
  | [c0,c1,c2,c3,c4,c5,c6,c7,c8],_=>
    obtain⟨h0,b0⟩:=aY (hf 0 _ rfl) (by rw [ou];decide)
    obtain⟨hr,_⟩:=aY (hf 1 _ rfl) (by rw [ou];decide)
    obtain⟨h1,_⟩:=aY (hf 2 _ rfl) (by rw [ou];decide)
    obtain⟨h3,b3⟩:=aY (hf 3 _ rfl) (by rw [ou];decide)
    obtain⟨us,_,_,PW,_,nQ,hu⟩:=DataW.trod_struct Tryz.underlying24 h0
    obtain⟨g0,e0⟩:=aY (hu 0 _ rfl) (by rw [nQ];decide)
    obtain⟨A,cp,ns,L,rfl,hG,hB⟩:=Hw (c:=c0) g0
    obtain⟨vs,_,_,_,_,hvl,hv⟩:=DataW.trod_struct Tryz.underlying28 h1
    obtain⟨k0,_⟩:=aY (hv 0 _ rfl) (by rw [hvl];decide)
    obtain⟨k1,_⟩:=aY (hv 1 _ rfl) (by rw [hvl];decide)
    obtain⟨k2,_⟩:=aY (hv 2 _ rfl) (by rw [hvl];decide)
    obtain⟨k3,_⟩:=aY (hv 3 _ rfl) (by rw [hvl];decide)
    obtain⟨ts,_,_,_,_,htl,ht⟩:=DataW.trod_struct Tryz.underlying26 k3
    obtain⟨t0,_⟩:=aY (ht 0 _ rfl) (by rw [htl];decide)
    obtain⟨t1,_⟩:=aY (ht 1 _ rfl) (by rw [htl];decide)
    obtain⟨zr,rfl,wr⟩:=iK (c:=c1) Tryz.underlying3 hr
    obtain⟨z0,rfl,w0⟩:=iI (c:=c2) Tryz.underlying3 k0
    obtain⟨z1,rfl,w1⟩:=iI (c:=c3) Tryz.underlying3 k1
    obtain⟨z2,rfl,w2⟩:=iI (c:=c4) Tryz.underlying3 k2
    obtain⟨z3,rfl,w3⟩:=iI (c:=c5) Tryz.underlying3 t0
    obtain⟨z4,rfl,w4⟩:=iI (c:=c6) Tryz.underlying3 t1
    obtain⟨ws,_,_,hwx,_,hwl,hw⟩:=DataW.trod_struct Tryz.underlying32 h3
    obtain⟨q0,d0⟩:=aY (hw 0 _ rfl) (by rw [hwl];decide)
    obtain⟨q1,d1⟩:=aY (hw 1 _ rfl) (by rw [hwl];decide)
    obtain⟨Af,cf,fs,rfl,hF,RZ,Ur⟩:=EL (c:=c7) q0
    obtain⟨Aa,ca,xs,rfl,hA,R3,Us⟩:=Iw (c:=c8) q1
    cases hx
    rw [PW] at b0
    rw [hwx] at b3
    exact⟨A,cp,ns,L,zr,⟨z0,z1,z2,z3,z4,0,0,0⟩,Af,cf,fs,Aa,ca,xs,rfl,hG,hB.wide (Nat.le_trans e0 b0),⟨w0,w1,w2,w3,w4⟩,wr,hF,⟨Nat.le_trans RZ.len (Nat.le_trans d0 b3),RZ.q⟩,Ur,hA,⟨Nat.le_trans R3.len (Nat.le_trans d1 b3),fun a ha=>(R3.q a ha).wide (Nat.le_trans d1 b3)⟩,Us⟩
end a
end
end Go.Proofs.YtidjcblbdmfalaaGreat
section
namespace Go.Proofs
open Go.Shelf
def Tryz.keysS_ren:Go.Shelf.Ren:=⟨fun|7=>69|10=>109|n=>n,fun|23=>136|26=>9|3=>124|28=>157|0=>0|27=>156|33=>203|4=>4|n=>n,fun|n=>n⟩
theorem Tryz.keysS:Go.Proofs.SlLaysZ.n7 Tryz.prog Tryz.keysS_ren:={
  mixed:=by kernel_rfl
  f7:=⟨Tryz.f69.name,by decide,Tryz.func69.trans (congrArg some (by kernel_rfl))⟩
  f10:=⟨Tryz.f109.name,by decide,Tryz.func109.trans (congrArg some (by kernel_rfl))⟩
  t0:=Tryz.underlying0
  a0:=Tryz.isAgg0
  z0:=Tryz.sizeOf0
  v0:=Tryz.zeroValue0
  t4:=Tryz.underlying4
  a4:=Tryz.isAgg4
  z4:=Tryz.sizeOf4
  v4:=Tryz.zeroValue4
  t23:=Tryz.underlying136
  a23:=Tryz.isAgg136
  z23:=Tryz.sizeOf136
  v23:=Tryz.zeroValue136
  t26:=Tryz.underlying9
  a26:=Tryz.isAgg9
  z26:=Tryz.sizeOf9
  v26:=Tryz.zeroValue9
  t27:=Tryz.underlying156
  a27:=Tryz.isAgg156
  z27:=Tryz.sizeOf156
  v27:=Tryz.zeroValue156
  t28:=Tryz.underlying157
  a28:=Tryz.isAgg157
  z28:=Tryz.sizeOf157
  v28:=Tryz.zeroValue157
  t33:=Tryz.underlying203
  a33:=Tryz.isAgg203
  z33:=Tryz.sizeOf203
  v33:=Tryz.zeroValue203 }
def Tryz.sortedS_ren:Go.Shelf.Ren:=⟨fun|6=>68|8=>107|9=>108|11=>142|13=>141|12=>143|23=>180|24=>181|14=>182|15=>183|16=>184|17=>185|18=>186|19=>187|20=>188|21=>189|22=>190|25=>211|26=>206|27=>207|28=>212|29=>213|30=>214|31=>223|n=>n,fun|26=>9|28=>157|24=>154|0=>0|3=>3|37=>234|48=>266|50=>268|4=>4|40=>260|39=>259|45=>251|5=>5|9=>9|51=>286|55=>290|57=>299|58=>300|33=>203|n=>n,fun|n=>n⟩
theorem Tryz.sortedS:Go.Proofs.SlLaysZ.n6 Tryz.prog Tryz.sortedS_ren:={
  mixed:=by kernel_rfl
  f6:=⟨Tryz.f68.name,by decide,Tryz.func68.trans (congrArg some (by kernel_rfl))⟩
  f8:=⟨Tryz.f107.name,by decide,Tryz.func107.trans (congrArg some (by kernel_rfl))⟩
  f11:=⟨Tryz.f142.name,by decide,Tryz.func142.trans (congrArg some (by kernel_rfl))⟩
  t0:=Tryz.underlying0
  a0:=Tryz.isAgg0
  z0:=Tryz.sizeOf0
  v0:=Tryz.zeroValue0
  t24:=Tryz.underlying154
  a24:=Tryz.isAgg154
  z24:=Tryz.sizeOf154
  v24:=Tryz.zeroValue154
  t26:=Tryz.underlying9
  a26:=Tryz.isAgg9
  z26:=Tryz.sizeOf9
  v26:=Tryz.zeroValue9
  t28:=Tryz.underlying157
  a28:=Tryz.isAgg157
  z28:=Tryz.sizeOf157
  v28:=Tryz.zeroValue157
  i26:=by kernel_rfl }
def Tryz.sortS_ren:Go.Shelf.Ren:=⟨fun|6=>108|8=>141|9=>143|19=>180|20=>181|21=>182|22=>183|23=>184|24=>185|25=>186|26=>187|27=>188|28=>189|29=>190|36=>211|31=>206|32=>207|37=>212|38=>213|39=>214|41=>223|n=>n,fun|27=>154|29=>9|3=>3|32=>234|26=>154|0=>0|44=>266|46=>268|4=>4|36=>260|35=>259|41=>251|5=>5|9=>9|53=>286|57=>290|63=>299|64=>300|n=>n,fun|n=>n⟩
theorem Tryz.sortS:Go.Proofs.SlLaysM.n6 Tryz.prog Tryz.sortS_ren:={
  mixed:=by kernel_rfl
  f6:=⟨Tryz.f108.name,by decide,Tryz.func108.trans (congrArg some (by kernel_rfl))⟩
  f8:=Tryz.func141.trans (congrArg some (by kernel_rfl))
  f9:=⟨Tryz.f143.name,by decide,Tryz.func143.trans (congrArg some (by kernel_rfl))⟩
  f19:=Tryz.func180.trans (congrArg some (by kernel_rfl))
  f20:=Tryz.func181.trans (congrArg some (by kernel_rfl))
  f21:=⟨Tryz.f182.name,by decide,Tryz.func182.trans (congrArg some (by kernel_rfl))⟩
  f22:=⟨Tryz.f183.name,by decide,Tryz.func183.trans (congrArg some (by kernel_rfl))⟩
  f23:=⟨Tryz.f184.name,by decide,Tryz.func184.trans (congrArg some (by kernel_rfl))⟩
  f24:=⟨Tryz.f185.name,by decide,Tryz.func185.trans (congrArg some (by kernel_rfl))⟩
  f25:=⟨Tryz.f186.name,by decide,Tryz.func186.trans (congrArg some (by kernel_rfl))⟩
  f26:=⟨Tryz.f187.name,by decide,Tryz.func187.trans (congrArg some (by kernel_rfl))⟩
  f27:=⟨Tryz.f188.name,by decide,Tryz.func188.trans (congrArg some (by kernel_rfl))⟩
  f28:=⟨Tryz.f189.name,by decide,Tryz.func189.trans (congrArg some (by kernel_rfl))⟩
  f29:=⟨Tryz.f190.name,by decide,Tryz.func190.trans (congrArg some (by kernel_rfl))⟩
  f31:=Tryz.func206.trans (congrArg some (by kernel_rfl))
  f32:=Tryz.func207.trans (congrArg some (by kernel_rfl))
  f36:=⟨Tryz.f211.name,by decide,Tryz.func211.trans (congrArg some (by kernel_rfl))⟩
  f37:=⟨Tryz.f212.name,by decide,Tryz.func212.trans (congrArg some (by kernel_rfl))⟩
  f38:=⟨Tryz.f213.name,by decide,Tryz.func213.trans (congrArg some (by kernel_rfl))⟩
  f39:=⟨Tryz.f214.name,by decide,Tryz.func214.trans (congrArg some (by kernel_rfl))⟩
  f41:=⟨Tryz.f223.name,by decide,Tryz.func223.trans (congrArg some (by kernel_rfl))⟩
  t0:=Tryz.underlying0
  a0:=Tryz.isAgg0
  z0:=Tryz.sizeOf0
  v0:=Tryz.zeroValue0
  t3:=Tryz.underlying3
  a3:=Tryz.isAgg3
  z3:=Tryz.sizeOf3
  v3:=Tryz.zeroValue3
  t4:=Tryz.underlying4
  a4:=Tryz.isAgg4
  z4:=Tryz.sizeOf4
  v4:=Tryz.zeroValue4
  t5:=Tryz.underlying5
  a5:=Tryz.isAgg5
  z5:=Tryz.sizeOf5
  v5:=Tryz.zeroValue5
  t9:=Tryz.underlying9
  a9:=Tryz.isAgg9
  z9:=Tryz.sizeOf9
  v9:=Tryz.zeroValue9
  t26:=Tryz.underlying154
  a26:=Tryz.isAgg154
  z26:=Tryz.sizeOf154
  v26:=Tryz.zeroValue154
  t27:=Tryz.underlying154
  a27:=Tryz.isAgg154
  z27:=Tryz.sizeOf154
  v27:=Tryz.zeroValue154
  t29:=Tryz.underlying9
  a29:=Tryz.isAgg9
  z29:=Tryz.sizeOf9
  v29:=Tryz.zeroValue9
  t32:=Tryz.underlying234
  a32:=Tryz.isAgg234
  z32:=Tryz.sizeOf234
  v32:=Tryz.zeroValue234
  t35:=Tryz.underlying259
  a35:=Tryz.isAgg259
  z35:=Tryz.sizeOf259
  v35:=Tryz.zeroValue259
  t36:=Tryz.underlying260
  a36:=Tryz.isAgg260
  z36:=Tryz.sizeOf260
  v36:=Tryz.zeroValue260
  t41:=Tryz.underlying251
  a41:=Tryz.isAgg251
  z41:=Tryz.sizeOf251
  v41:=Tryz.zeroValue251
  t44:=Tryz.underlying266
  a44:=Tryz.isAgg266
  z44:=Tryz.sizeOf266
  v44:=Tryz.zeroValue266
  t46:=Tryz.underlying268
  a46:=Tryz.isAgg268
  z46:=Tryz.sizeOf268
  v46:=Tryz.zeroValue268
  t53:=Tryz.underlying286
  a53:=Tryz.isAgg286
  z53:=Tryz.sizeOf286
  v53:=Tryz.zeroValue286
  t57:=Tryz.underlying290
  a57:=Tryz.isAgg290
  z57:=Tryz.sizeOf290
  v57:=Tryz.zeroValue290
  t63:=Tryz.underlying299
  a63:=Tryz.isAgg299
  z63:=Tryz.sizeOf299
  v63:=Tryz.zeroValue299
  t64:=Tryz.underlying300
  a64:=Tryz.isAgg300
  z64:=Tryz.sizeOf300
  v64:=Tryz.zeroValue300 }
end Go.Proofs
end
namespace Go.Proofs.YtidjcblbdmfalaaGreat
section
open Go.RowKit Go.Maps Go.Sort Go.Shelf
theorem PX (m:Nat):AnyZ.SortsIn Tryz.prog Tryz.sortedS_ren Fence.wide m:=
  ⟨fun blk off cap ss W hH hblk hsz=>callsIn_wide.2 (AnyM.slices_Sort_string Tryz.sortS blk off cap ss W hH hblk hsz),
   fun p cap W=>callsIn_wide.2 (AnyM.slices_Sort_string_none Tryz.sortS p cap W)⟩
def Ci (bk:Nat):Value:=.func (.func 109) #[] #[.pointer (some ⟨bk,0,none⟩)]
theorem L8 {β:Bs} (mb:Option Nat):Spec Tryz.prog β 69 #[.map mb] [] (fun v l=>∃ bk,v=Ci bk/\l=[.blk bk [.map mb] 136]):=
  Spec.DT fun W _=>by
    have h:CallsIn Fence.wide 5 Tryz.prog 69 #[.map mb] W fun e w'=>e=.returned (Ci W.heap.size)/\w'=W.alloc (.cells #[.map mb] 136):=AnyZ.keys_in Tryz.keysS Fence.wide 5 trivial rfl mb W
    refine ((callsIn_wide (n:=5)).1 h).mono ?_
    rintro e w' ⟨rfl,rfl⟩
    refine⟨_,_,rfl,⟨W.heap.size,rfl,rfl⟩,(Keeps.refl _ _).alloc _,fun k=>k=W.heap.size,⟨?_,fun k=>Iff.rfl⟩,fun k hk=>Nat.le_of_eq hk.symm⟩
    show (W.heap.push _)[W.heap.size]?=_
    simp
def p6 (es:fk Th):List Value:=es.map (fun e=>.string e.1)
theorem F9 {es:fk Th} (h:jy es):(es.map (fun e=>e.1.data.toList)).Pairwise (· < ·):=by
  refine List.pairwise_map.2 (h.imp (fun {a b} hab=>?_))
  unfold lu at hab
  have h1:¬ Op.bytesLess b.1.toList a.1.toList=true:=fun e=>hab (by rw [e];rfl)
  have h2:¬ b.1.toList=a.1.toList:=fun e=>hab (by rw [e];simp)
  rw [bytesLess_eq,Lib.toList_data,Lib.toList_data] at h1
  rw [Lib.toList_data,Lib.toList_data] at h2
  by_cases e:a.1.data.toList < b.1.data.toList
  ·exact e
  exfalso
  have e:=List.not_lt.1 e
  rcases List.le_iff_lt_or_eq.1 e with e|e
  ·exact h1 (by simpa using e)
  exact h2 e
theorem L9 {w:World} {b n:Nat} {L:HL} {es:fk Th} {D:DataW Value} (hr:jy es) (hown:w.ownsMap Tryz.prog 9 qz b n D) (hf:∀ kl,Maps.has D kl=(iE L es kl).isSome) {ss:List (List UInt8)} (hp:ss.Perm (strKeys D)) :
    ss.mergeSort (fun x y=>decide (x<=y))=es.map (fun e=>e.1.data.toList):=by
  have hsort:=F9 hr
  obtain⟨es',hD,hpw,_⟩:=hown.entries ze
  obtain⟨Ut,Nd,hko⟩:=hown.keysOf
  obtain rfl:es'=Ut:=by rw [hD] at Nd;simpa using Nd
  have hp2:(es.map (fun e=>e.1.data.toList)).Perm (strKeys D):=by
    rw [hD]
    refine perm_strKeys hpw (fun p hp=>?_) (hsort.imp (fun {a b} h e=>by subst e;exact absurd h (List.lt_irrefl a))) (fun x=>?_)
    ·obtain⟨v,hv⟩:=hko p hp
     obtain⟨x,_,h,_⟩:=keyOf_str Tryz.underlying9 hv
     exact⟨x,h⟩
    rw [← hD,hf]
    show _↔((aU ⟨x.toArray⟩ es).map (dJ L)).isSome=true
    rw [Option.isSome_map]
    constructor
    ·intro hx
     obtain⟨e,he,rfl⟩:=List.mem_map.1 hx
     have h1:(⟨e.1.data.toList.toArray⟩:ByteArray)=e.1:=by rw [Array.toArray_toList]
     rw [h1,wC (t:=e.2) (jy.twice hr) he];rfl
    intro hx
    obtain⟨t,ht⟩:=Option.isSome_iff_exists.1 hx
    exact List.mem_map.2 ⟨_,lH ht,by simp⟩
  have h3:=mergeSort_of_perm (hp.trans hp2.symm)
  have h4:(es.map (fun e=>e.1.data.toList)).mergeSort leB=es.map (fun e=>e.1.data.toList):=List.mergeSort_of_pairwise (hsort.imp (fun {a b} h=>by simp only [leB,decide_eq_true_eq];exact List.le_of_lt h))
  exact h3.trans h4
theorem Ix {β:Bs} (L:HL) (b bk n:Nat) (es:fk Th) (hr:jy es) (hn:n<=8192) :
    Spec Tryz.prog β 68 #[Ci bk] [.abs (aL Tryz.prog 9 b (iE L es) n),.blk bk [.map (some b)] 136] (fun v l=>∃ A cap,v=.slice A es.length cap ∧
      l=[.abs (aL Tryz.prog 9 b (iE L es) n),.blk bk [.map (some b)] 136,.abs (aE 9 1 A es.length cap (p6 es))]):=by
  intro R w hS
  obtain⟨F1,h1⟩:=hS.get (i:=0) (p:=.abs (aL Tryz.prog 9 b (iE L es) n)) rfl
  obtain⟨F2,h2⟩:=hS.get (i:=1) (p:=.blk bk [.map (some b)] 136) rfl
  obtain⟨D,hown,hsz,hhas,_⟩:=h1.1
  have hcell:w.cell? ⟨bk,0,none⟩=some (.map (some b)):=(gq h2.1 rfl rfl rfl).1
  have hseq:SeqGives Fence.wide 2 Tryz.prog 109 #[.pointer (some ⟨bk,0,none⟩)] encStr (fun ss=>ss.Perm (strKeys D)) (Maps.size D) w:=
    AnyZ.keys_gives (ρ:=Tryz.keysS_ren) { Tryz.keysS with } Fence.wide _ trivial rfl (by omega) bk b n D w (lt_of_some h2.1) hcell hown
  have cS:=AnyZ.sorted_in Tryz.sortedS Fence.wide 5 trivial trivial trivial trivial rfl (by omega) (PX _) (enters_of Tryz.func108 (by kernel_rfl) rfl) 109 #[.pointer (some ⟨bk,0,none⟩)] trivial (enters_of Tryz.func109 (by kernel_rfl) rfl)
    (fun ss=>ss.Perm (strKeys D)) (Maps.size D) (by rw [hsz];unfold maxLen;omega) (by rw [hsz];omega) w hseq
  change CallsIn _ _ Tryz.prog 68 _ _ _ at cS
  refine ((callsIn_wide (n:=5)).1 cS).mono ?_
  rintro e w' ⟨v,ss,rfl,hp,hrow,hnil,hb⟩
  have hkeys:=L9 hr hown hhas hp
  have hl2:ss.length=es.length:=by
    have h3:(ss.mergeSort (fun x y=>decide (x<=y))).length=ss.length:=List.length_mergeSort ss
    rw [hkeys,List.length_map] at h3
    exact h3.symm
  rw [hkeys,hl2] at hrow
  have vR:∃ A cap,v=.slice A es.length cap:=by
    rcases hrow.2 with ⟨e1,e2⟩|⟨g,cp,cur,e1,_⟩
    ·exact⟨none,0,by rw [e1,e2]⟩
    exact⟨_,cp,e1⟩
  obtain⟨A,cap,rfl⟩:=vR
  have Uu:(es.map (fun e=>e.1.data.toList)).map encStr=p6 es:=by
    rw [List.map_map]
    refine List.map_congr_left (fun e _=>?_)
    show encStr e.1.data.toList=.string e.1
    unfold encStr
    rw [Array.toArray_toList]
  rw [Uu] at hrow
  have hq:Sat β ([.abs (aL Tryz.prog 9 b (iE L es) n),.blk bk [.map (some b)] 136,.abs R]++[.abs (aE 9 1 A es.length cap (p6 es))]) w':=by
    refine Sat.new (F:=fun k=>(Value.slice A es.length cap).ownBlock=some k) hS ⟨?_,fun k=>Iff.rfl⟩ ⟨hb.os,hb.tape,hb.output,hb.size,fun k hk _=>hb.block k hk⟩ (fun k hk=>(hrow.lt k hk).1)
    refine⟨hrow.1,?_⟩
    rcases hrow.2 with h|⟨g,cp,cur,e1,_,h3,h4⟩
    ·exact .inl h
    exact .inr ⟨g,cp,cur,e1,Nat.zero_le _,h3,h4⟩
  exact⟨_,[.abs (aL Tryz.prog 9 b (iE L es) n),.blk bk [.map (some b)] 136,.abs (aE 9 1 A es.length cap (p6 es))],rfl,⟨A,cap,rfl,rfl⟩,hq.pick (idx:=[0,1,3,2]) rfl rfl⟩
end
section
open Go.RowKit Go.Maps bL aB
theorem GQ {ns:List aI} {n:aI} {k:Nat} (h:k < ns.length):nd (ns++[n]) k=nd ns k:=by
  unfold nd;rw [List.getD_eq_getElem?_getD,List.getD_eq_getElem?_getD,List.getElem?_append_left h]
theorem Cj {ns:List aI} {n:aI}:nd (ns++[n]) ns.length=n:=by
  unfold nd;rw [List.getD_eq_getElem?_getD,List.getElem?_append_right (Nat.le_refl _)];simp
def Ma:Lay:=⟨fun _=>none,fun _=>none,fun _=>0,fun _=>0⟩
def jY (ns:List aI) (L:Lay) (k:Nat):cA:=aE 140 2 (L.eA k) (nd ns k).ah.length (L.eC k) (gH (nd ns k).ah)
def jZ (ns:List aI) (L:Lay) (k:Nat):cA:=aE 5 1 (L.dA k) (nd ns k).data.length (L.dC k) (bX (nd ns k).data)
def Tr (A:Option Addr) (c:Nat) (ns:List aI) (L:Lay):HP:=.abs (aE 70 10 A ns.length c (dx L ns))
def EM (A:Option Addr) (c:Nat) (ns:List aI) (L:Lay):List HP:=[Tr A c ns L,.abs (iD (jY ns L) ns.length),.abs (iD (jZ ns L) ns.length)]
theorem oR.graph {β β':Bs} {A:Option Addr} {c:Nat} {ns:List aI} {L:Lay} (h:oR β (EM A c ns L) β'):au β' A ns L:=by
  obtain⟨F,h1,h2⟩:=h.get 0 rfl
  obtain⟨G,g1,g2⟩:=h.get 1 rfl
  obtain⟨K,k1,k2⟩:=h.get 2 rfl
  exact⟨cP.jb h1 h2 rfl,
    iD.base k1 k2 rfl (Φ:=fun i b=>bD b (L.dA i) (nd ns i).data) (fun i _ F hF hO=>cP.jb (show (HP.abs (aE 5 1 (L.dA i) (nd ns i).data.length (L.dC i) (bX (nd ns i).data))).h F _ from hF) hO rfl),
    iD.base g1 g2 rfl (Φ:=fun i b=>dV b (L.eA i) (nd ns i).ah) (fun i _ F hF hO=>cP.jb (show (HP.abs (aE 140 2 (L.eA i) (nd ns i).ah.length (L.eC i) (gH (nd ns i).ah))).h F _ from hF) hO rfl)⟩
theorem Ga {L:Lay} {ns:List aI} {n:aI} {dA eA:Option Addr} {dC eC:Nat}:dx L ns++[.int .i64 n.id,.int .i64 n.kind,.int .i64 n.mode,.int .i64 n.uid,.int .i64 n.gid,.int .i64 n.sec,.int .i64 n.nano,.slice dA n.data.length dC,.string n.target,.slice eA n.ah.length eC]=dx (L.put ns.length dA dC eA eC) (ns++[n]):=by
  have h:=zN (ns:=ns++[n]) (L:=L) (k:=ns.length) (by simp) dA dC eA eC
  rw [Cj,List.take_left,List.take_of_length_le (by simp)] at h
  exact h
theorem C4 {ns:List aI} {L:Lay} {n:aI} {dA eA:Option Addr} {dC eC:Nat}:(∀ x,x < ns.length->jZ (ns++[n]) (L.put ns.length dA dC eA eC) x=jZ ns L x)/\jZ (ns++[n]) (L.put ns.length dA dC eA eC) ns.length=aE 5 1 dA n.data.length dC (bX n.data):=by
  refine⟨fun x hx=>?_,?_⟩
  ·unfold jZ Lay.put
   rw [GQ hx]
   have:¬ x=ns.length:=by omega
   simp [this]
  unfold jZ Lay.put
  rw [Cj]
  simp
theorem C5 {ns:List aI} {L:Lay} {n:aI} {dA eA:Option Addr} {dC eC:Nat}:(∀ x,x < ns.length->jY (ns++[n]) (L.put ns.length dA dC eA eC) x=jY ns L x)/\jY (ns++[n]) (L.put ns.length dA dC eA eC) ns.length=aE 140 2 eA n.ah.length eC (gH n.ah):=by
  refine⟨fun x hx=>?_,?_⟩
  ·unfold jY Lay.put
   rw [GQ hx]
   have:¬ x=ns.length:=by omega
   simp [this]
  unfold jY Lay.put
  rw [Cj]
  simp
def kZ (O:bY) (e:ByteArray×Th):jh:=⟨e.1,(obj O e.2.k).id⟩
def x5 (O:bY) (id:Int) (t:Th):aI:=⟨id,t.kind,(obj O t.k).mode,(obj O t.k).uid,(obj O t.k).gid,(obj O t.k).sec,(obj O t.k).nano,(obj O t.k).data,(obj O t.k).target,(obj O t.k).ah.map (kZ O)⟩
def aO (S:aG):List aI:=S.idx.map (fun p=>x5 S.O p.1 p.2)
theorem nY {S:aG}:(aO S).length=S.idx.length:=List.length_map ..
def ld (S:aG) (i:Nat):Th:=(S.idx.getD i (0,⟨0,0⟩)).2
def cW (S:aG) (i:Nat):Int:=(S.idx.getD i (0,⟨0,0⟩)).1
section at_
variable {S:aG} {i:Nat}
theorem AK (hi:i < S.idx.length):S.idx[i]?=some (cW S i,ld S i):=by
  unfold cW ld
  rw [List.getD_eq_getElem?_getD,List.getElem?_eq_getElem hi];rfl
theorem get_at (h:Inv0 S) (hi:i < S.idx.length):aB.get S.idx (cW S i)=some (ld S i):=nJ h.rise (List.mem_of_getElem? (AK hi))
theorem GR (h:Inv0 S) (hi:i < S.idx.length):Live S.idx (ld S i)/\cW S i=((ld S i).k:Int):=⟨h.live (get_at h hi),h.key (get_at h hi)⟩
theorem PY (hi:i < S.idx.length):(keys S.idx)[i]?=some (cW S i):=by
  unfold keys
  rw [List.getElem?_map,AK hi];rfl
theorem uS (hi:i < S.idx.length):(aO S).take (i+1)=(aO S).take i++[x5 S.O (cW S i) (ld S i)]:=by
  rw [List.take_add_one]
  congr 1
  unfold aO
  rw [List.getElem?_map,AK hi];rfl
theorem dP (hi:i<=S.idx.length):((aO S).take i).length=i:=by rw [List.length_take,nY];omega
end at_
section sat
variable {β:Bs} {l l':List HP} {w:World} {i j k:Nat} {O:bY} {L:HL} {ix:List Nat}
theorem Sat.PZ (h:Sat β l w) (hp:l[i]?=some (.abs (ax (jU (bN O L) k cA.none)))) (hq:l[j]?=some (.abs (aE 5 1 (L.dA k) (obj O k).data.length (L.dC k) (bX (obj O k).data)))) (hd:bG (i::j::ix)=true) (hl:bV l ix=some l') (h2:(obj O k).kind=1):Sat β (.abs (ax (bN O L))::l') w:=
  h.pz hp hq (fun _ _ h=>h) hd hl k (fun _ hx=>(nH hx).symm) (rC h2)
end sat
theorem Iy {es:List jh} {e:jh}:gH es++[.string e.name,.int .i64 e.id]=gH (es++[e]):=(uD e es 0).symm
section grow
variable {ns G':List aI} {n:aI} {L:Lay} {i dn en:Nat} {dA eA:Option Addr} {dC eC:Nat}
theorem uT (hl:ns.length=i) (hG:G'=ns++[n]) (hd:n.data.length=dn) (he:n.ah.length=en):dx L ns++[.int .i64 n.id,.int .i64 n.kind,.int .i64 n.mode,.int .i64 n.uid,.int .i64 n.gid,.int .i64 n.sec,.int .i64 n.nano,.slice dA dn dC,.string n.target,.slice eA en eC]=dx (L.put i dA dC eA eC) G':=by
  subst hl hG hd he;exact Ga
theorem zu (hl:ns.length=i) (hG:G'=ns++[n]):∀ x,x < i->jZ G' (L.put i dA dC eA eC) x=jZ ns L x:=by
  subst hl hG;exact C4.1
theorem wL (hl:ns.length=i) (hG:G'=ns++[n]) (hd:n.data.length=dn):jZ G' (L.put i dA dC eA eC) i=aE 5 1 dA dn dC (bX n.data):=by
  subst hl hG hd;exact C4.2
theorem zw (hl:ns.length=i) (hG:G'=ns++[n]):∀ x,x < i->jY G' (L.put i dA dC eA eC) x=jY ns L x:=by
  subst hl hG;exact C5.1
theorem wM (hl:ns.length=i) (hG:G'=ns++[n]) (he:n.ah.length=en):jY G' (L.put i dA dC eA eC) i=aE 140 2 eA en eC (gH n.ah):=by
  subst hl hG he;exact C5.2
end grow
section more
variable {S:aG} {i j k:Nat}
theorem Rw (h:Inv0 S) (hi:i < S.idx.length):(∃ k,ld S i=⟨k,1⟩/\Live S.idx ⟨k,1⟩)\/(∃ k,ld S i=⟨k,2⟩/\Live S.idx ⟨k,2⟩)\/∃ k,ld S i=⟨k,3⟩/\Live S.idx ⟨k,3⟩:=by
  have h1:=(GR h hi).1
  generalize ld S i=t at h1 ⊢
  obtain⟨k,kd⟩:=t
  rcases (h.ob _ h1).2.2 with e|e|e<;>simp only at e<;>subst e
  ·exact .inl ⟨k,rfl,h1⟩
  ·exact .inr (.inl ⟨k,rfl,h1⟩)
  exact .inr (.inr ⟨k,rfl,h1⟩)
theorem Ck (h:Inv0 S) (hi:i < S.idx.length):(Lit.int .i64 (cW S i)).wf=true:=by
  have h1:=h.idx _ _ (get_at h hi)
  have h2:=h.last
  exact WalkArith.wf_i64 (by omega)
theorem Mb (hi:i < S.idx.length):(ints (keys S.idx))[i * 1+0]?=some (.int .i64 (cW S i)):=by
  rw [Nat.mul_one,Nat.add_zero]
  unfold ints
  rw [List.getElem?_map,PY hi];rfl
theorem EN (h:Inv0 S) {t:Th} (hl:Live S.idx t) (hk:t.kind≠3):(obj S.O t.k).target=⟨#[]⟩:=by
  rcases (h.mt t hl).target with e|e
  ·exact e.2
  exact absurd (h.kind hl ▸ e.1) hk
theorem p8 (h:Inv0 S) (hi:i < S.idx.length) (kE:ld S i=⟨k,1⟩) (hl:Live S.idx ⟨k,1⟩):(aO S).take (i+1)=(aO S).take i++[⟨cW S i,1,(obj S.O k).mode,(obj S.O k).uid,(obj S.O k).gid,(obj S.O k).sec,(obj S.O k).nano,(obj S.O k).data,⟨#[]⟩,[]⟩]:=by
  rw [uS hi,kE]
  unfold x5
  rw [show (obj S.O k).target=⟨#[]⟩ from EN h hl (by simp),show (obj S.O k).ah=[] from (h.mt _ hl).ah (by rw [h.kind hl];simp)];rfl
theorem qb (h:Inv0 S) (hi:i < S.idx.length) (kE:ld S i=⟨k,3⟩) (hl:Live S.idx ⟨k,3⟩):(aO S).take (i+1)=(aO S).take i++[⟨cW S i,3,(obj S.O k).mode,(obj S.O k).uid,(obj S.O k).gid,(obj S.O k).sec,(obj S.O k).nano,[],(obj S.O k).target,[]⟩]:=by
  rw [uS hi,kE]
  unfold x5
  rw [show (obj S.O k).data=[] from (h.mt _ hl).data (by rw [h.kind hl];simp),show (obj S.O k).ah=[] from (h.mt _ hl).ah (by rw [h.kind hl];simp)];rfl
theorem rL (h:Inv0 S) (hi:i < S.idx.length) (kE:ld S i=⟨k,2⟩) (hl:Live S.idx ⟨k,2⟩):(aO S).take (i+1)=(aO S).take i++[⟨cW S i,2,(obj S.O k).mode,(obj S.O k).uid,(obj S.O k).gid,(obj S.O k).sec,(obj S.O k).nano,[],⟨#[]⟩,(obj S.O k).ah.map (kZ S.O)⟩]:=by
  rw [uS hi,kE]
  unfold x5
  rw [show (obj S.O k).target=⟨#[]⟩ from EN h hl (by simp),show (obj S.O k).data=[] from (h.mt _ hl).data (by rw [h.kind hl];simp)]
def fo (es:fk Th) (j:Nat):ByteArray:=(es.getD j (⟨#[]⟩,⟨0,0⟩)).1
def zx (es:fk Th) (j:Nat):Th:=(es.getD j (⟨#[]⟩,⟨0,0⟩)).2
theorem Iz {es:fk Th} (hj:j < es.length):es[j]?=some (fo es j,zx es j):=by
  unfold fo zx
  rw [List.getD_eq_getElem?_getD,List.getElem?_eq_getElem hj];rfl
theorem IB {es:fk Th} (hj:j < es.length):(p6 es)[j * 1+0]?=some (.string (fo es j)):=by
  rw [Nat.mul_one,Nat.add_zero]
  unfold p6
  rw [List.getElem?_map,Iz hj];rfl
theorem Ts (h:Inv0 S) {t:Th} (hl:Live S.idx t) (hj:j < (obj S.O t.k).ah.length):bJ (fo (obj S.O t.k).ah j)/\((∃ k,aU (fo (obj S.O t.k).ah j) (obj S.O t.k).ah=some ⟨k,1⟩/\Live S.idx ⟨k,1⟩/\zx (obj S.O t.k).ah j=⟨k,1⟩)\/(∃ k,aU (fo (obj S.O t.k).ah j) (obj S.O t.k).ah=some ⟨k,2⟩/\Live S.idx ⟨k,2⟩/\zx (obj S.O t.k).ah j=⟨k,2⟩)\/∃ k,aU (fo (obj S.O t.k).ah j) (obj S.O t.k).ah=some ⟨k,3⟩/\Live S.idx ⟨k,3⟩/\zx (obj S.O t.k).ah j=⟨k,3⟩):=by
  have hm:=List.mem_of_getElem? (Iz hj)
  have h1:=h.ah t hl _ hm
  have h2:=wC (h.twice hl) hm
  refine⟨h1.1,?_⟩
  have h3:=h1.2
  generalize zx (obj S.O t.k).ah j=u at h2 h3 ⊢
  obtain⟨k,kd⟩:=u
  rcases (h.ob _ h3).2.2 with e|e|e<;>simp only at e<;>subst e
  ·exact .inl ⟨k,h2,h3,rfl⟩
  ·exact .inr (.inl ⟨k,h2,h3,rfl⟩)
  exact .inr (.inr ⟨k,h2,h3,rfl⟩)
theorem wN {O:bY} {es:fk Th} {kd:Int} (hj:j < es.length) (he:zx es j=⟨k,kd⟩):gH ((es.take j).map (kZ O))++[.string (fo es j),.int .i64 (obj O k).id]=gH ((es.take (j+1)).map (kZ O)):=by
  rw [List.take_add_one,Iz hj,he,List.map_append]
  exact Iy (es:=(es.take j).map (kZ O)) (e:=⟨fo es j,(obj O k).id⟩)
end more
theorem oR.bytes {β β':Bs} {A:Option Addr} {n c:Nat} {d:List UInt8} (h:oR β [.abs (aE 5 1 A n c (bX d))] β'):bD β' A d:=by
  obtain⟨F,h1,h2⟩:=h.get 0 rfl
  exact cP.jb h1 h2 rfl
end
section
open Go.RowKit
section order
variable {P:Program} {ops:Array Oper} {Q Q':Post} {n:Nat} {S:World->Prop}
inductive rM
  | one (i:Nat)
  | two (i j:Nat)
  | three (i k j:Nat)
  | perm (G:List Nat)
  | beside (c:List Nat) (j:Nat)
def EO (P:Program) (ops:Array Oper) (Q:Post) (S:World->Prop) (K:Act->World->Prop):Nat->List Nat->Act->World->Prop
  | 0,_,a,w=>K a w
  | n+1,G,a,w=>∀ i∈G,wpOp P ops Q i (fun a' w'=>S w'/\EO P ops Q S K n (G.erase i) a' w') a w
def DL (ops:Array Oper) (f:Array Bool->Bool):Nat->List Nat->Array Bool->Bool
  | 0,_,listed=>f listed
  | n+1,G,listed=>(Region.ready .any ops listed == G) && !G.isEmpty && G.all (fun i=>DL ops f n (G.erase i) (listed.setIfInBounds i true))
def DM (P:Program) (ops:Array Oper) (Q:Post) (S:World->Prop) (K:Act->World->Prop):List Nat->Act->World->Prop
  | [],a,w=>K a w
  | i::c,a,w=>wpOp P ops Q i (fun a' w'=>S w'/\DM P ops Q S K c a' w') a w
def uU (P:Program) (ops:Array Oper) (Q:Post) (S:World->Prop) (K:Act->World->Prop) (j:Nat):List Nat->Act->World->Prop
  | [],a,w=>wpOp P ops Q j (fun a' w'=>S w'/\K a' w') a w
  | i::c,a,w=>wpOp P ops Q i (fun a' w'=>S w'/\uU P ops Q S K j c a' w') a w/\wpOp P ops Q j (fun a' w'=>S w'/\DM P ops Q S K (i::c) a' w') a w
def seqB (ops:Array Oper) (f:Array Bool->Bool):List Nat->Array Bool->Bool
  | [],listed=>f listed
  | i::c,listed=>(Region.ready .any ops listed == [i]) && seqB ops f c (listed.setIfInBounds i true)
def ud (ops:Array Oper) (f:Array Bool->Bool) (j:Nat):List Nat->Array Bool->Bool
  | [],listed=>(Region.ready .any ops listed == [j]) && f (listed.setIfInBounds j true)
  | i::c,listed=>(Region.ready .any ops listed == (if i < j then [i,j] else [j,i])) && ud ops f j c (listed.setIfInBounds i true) && seqB ops f (i::c) (listed.setIfInBounds j true)
def kP (P:Program) (ops:Array Oper) (Q:Post) (S:World->Prop):List rM->Act->World->Prop
  | [],a,w=>Q .normal a w
  | .one i::l,a,w=>wpOp P ops Q i (fun a' w'=>(l=[]\/S w')/\kP P ops Q S l a' w') a w
  | .two i j::l,a,w=>
    wpOp P ops Q i (fun a' w'=>S w'/\wpOp P ops Q j (fun a2 w2=>S w2/\kP P ops Q S l a2 w2) a' w') a w ∧
    wpOp P ops Q j (fun a' w'=>S w'/\wpOp P ops Q i (fun a2 w2=>S w2/\kP P ops Q S l a2 w2) a' w') a w
  | .three i k j::l,a,w=>
    wpOp P ops Q i (fun a1 w1=>S w1/\wpOp P ops Q k (fun a2 w2=>S w2/\wpOp P ops Q j (fun a3 w3=>S w3/\kP P ops Q S l a3 w3) a2 w2) a1 w1 ∧
      wpOp P ops Q j (fun a2 w2=>S w2/\wpOp P ops Q k (fun a3 w3=>S w3/\kP P ops Q S l a3 w3) a2 w2) a1 w1) a w ∧
    wpOp P ops Q j (fun a1 w1=>S w1/\wpOp P ops Q i (fun a2 w2=>S w2/\wpOp P ops Q k (fun a3 w3=>S w3/\kP P ops Q S l a3 w3) a2 w2) a1 w1) a w
  | .perm G::l,a,w=>EO P ops Q S (kP P ops Q S l) G.length G a w
  | .beside c j::l,a,w=>uU P ops Q S (kP P ops Q S l) j c a w
def tE (ops:Array Oper) (n:Nat):List rM->Array Bool->Bool
  | [],listed=>(Region.ready .any ops listed).isEmpty
  | .one i::l,listed=>(Region.ready .any ops listed == [i]) && (!l.isEmpty || i == n) && tE ops n l (listed.setIfInBounds i true)
  | .two i j::l,listed=>(Region.ready .any ops listed == [i,j]) && (Region.ready .any ops (listed.setIfInBounds i true) == [j]) && (Region.ready .any ops (listed.setIfInBounds j true) == [i]) && decide (i≠j) && tE ops n l ((listed.setIfInBounds i true).setIfInBounds j true)
  | .three i k j::l,listed=>(Region.ready .any ops listed == [i,j]) && (Region.ready .any ops (listed.setIfInBounds i true) == [k,j]) && (Region.ready .any ops ((listed.setIfInBounds i true).setIfInBounds k true) == [j]) && (Region.ready .any ops ((listed.setIfInBounds i true).setIfInBounds j true) == [k]) &&
    (Region.ready .any ops (listed.setIfInBounds j true) == [i]) && decide (i≠j) && decide (k≠j) && tE ops n l (((listed.setIfInBounds i true).setIfInBounds k true).setIfInBounds j true)
  | .perm G::l,listed=>DL ops (tE ops n l) G.length G listed
  | .beside c j::l,listed=>ud ops (tE ops n l) j c listed
def qg:List rM->Nat
  | []=>0
  | .one _::l=>qg l+1
  | .two _ _::l=>qg l+2
  | .three _ _ _::l=>qg l+3
  | .perm G::l=>qg l+G.length
  | .beside c _::l=>qg l+(c.length+1)
theorem C6 {m i:Nat} {listed:Array Bool} {a:Act} {w:World} (hr:Region.ready .any ops listed=[i]) (h:wpOp P ops (NP Q) i (fun a' w'=>S w'/\gZ P ops (NP Q) n S m (listed.setIfInBounds i true) a' w') a w):gZ P ops (NP Q) n S (m+1) listed a w:=by
  refine⟨fun h0=>(by rw [hr] at h0;cases h0),fun y hy=>?_⟩
  rw [hr] at hy
  have hy:y=i:=by simpa using hy
  subst hy
  exact wpOp_mono (fun a' w' h=>⟨.inr h.1,h.2⟩) h
theorem GS {K:Act->World->Prop} {f:Array Bool->Bool} {m:Nat} (hK:∀ listed a w,f listed=true->K a w->gZ P ops (NP Q) n S m listed a w):∀ (c:List Nat) (listed:Array Bool) (a:Act) (w:World),seqB ops f c listed=true->DM P ops (NP Q) S K c a w->gZ P ops (NP Q) n S (m+c.length) listed a w
  | [],listed,a,w,hb,h=>hK listed a w hb h
  | i::c,listed,a,w,hb,h=>by
    unfold seqB at hb
    simp only [Bool.and_eq_true,beq_iff_eq] at hb
    exact C6 hb.1 (wpOp_mono (fun a' w' g=>⟨g.1,GS hK c _ a' w' hb.2 g.2⟩) h)
theorem AL {K:Act->World->Prop} {f:Array Bool->Bool} {m j:Nat} (hK:∀ listed a w,f listed=true->K a w->gZ P ops (NP Q) n S m listed a w):∀ (c:List Nat) (listed:Array Bool) (a:Act) (w:World),ud ops f j c listed=true->uU P ops (NP Q) S K j c a w->gZ P ops (NP Q) n S (m+(c.length+1)) listed a w
  | [],listed,a,w,hb,h=>by
    unfold ud at hb
    simp only [Bool.and_eq_true,beq_iff_eq] at hb
    exact C6 hb.1 (wpOp_mono (fun a' w' g=>⟨g.1,hK _ a' w' hb.2 g.2⟩) h)
  | i::c,listed,a,w,hb,h=>by
    unfold ud at hb
    simp only [Bool.and_eq_true,beq_iff_eq] at hb
    obtain⟨⟨h1,h2⟩,h3⟩:=hb
    refine⟨fun h0=>(by rw [h1] at h0;split at h0<;>cases h0),fun y hy=>?_⟩
    rw [h1] at hy
    have hy:y=i\/y=j:=by
      split at hy
      ·simpa using hy
      have:y=j\/y=i:=by simpa using hy
      exact this.symm
    rcases hy with rfl|rfl
    ·exact wpOp_mono (fun a' w' g=>⟨.inr g.1,AL hK c _ a' w' h2 g.2⟩) h.1
    exact wpOp_mono (fun a' w' g=>⟨.inr g.1,GS hK (i::c) _ a' w' h3 g.2⟩) h.2
theorem EP {K:Act->World->Prop} {f:Array Bool->Bool} {m:Nat} (hK:∀ listed a w,f listed=true->K a w->gZ P ops (NP Q) n S m listed a w):∀ (k:Nat) (G:List Nat) (listed:Array Bool) (a:Act) (w:World),DL ops f k G listed=true->EO P ops (NP Q) S K k G a w->gZ P ops (NP Q) n S (m+k) listed a w
  | 0,G,listed,a,w,hb,h=>hK listed a w hb h
  | k+1,G,listed,a,w,hb,h=>by
    unfold DL at hb
    simp only [Bool.and_eq_true,beq_iff_eq] at hb
    obtain⟨⟨h1,h2⟩,h3⟩:=hb
    refine⟨fun h0=>(by rw [h1] at h0;rw [h0] at h2;cases h2),fun j hj=>?_⟩
    rw [h1] at hj
    exact wpOp_mono (fun a' w' g=>⟨.inr g.1,EP hK k (G.erase j) _ a' w' (List.all_eq_true.1 h3 j hj) g.2⟩) (h j hj)
theorem mD:∀ (l:List rM) (listed:Array Bool) (a:Act) (w:World),tE ops n l listed=true->kP P ops (NP Q) S l a w->gZ P ops (NP Q) n S (qg l) listed a w
  | [],listed,a,w,hb,h=>⟨List.isEmpty_iff.1 hb,h⟩
  | .one i::l,listed,a,w,hb,h=>by
    unfold tE at hb
    simp only [Bool.and_eq_true,beq_iff_eq] at hb
    obtain⟨⟨h1,h2⟩,h3⟩:=hb
    refine⟨fun h0=>(by rw [h1] at h0;cases h0),fun j hj=>?_⟩
    rw [h1] at hj
    have hj:j=i:=by simpa using hj
    subst hj
    refine wpOp_mono (fun a' w' h4=>⟨?_,mD l _ a' w' h3 h4.2⟩) h
    rcases h4.1 with h5|h5
    ·subst h5;exact .inl (by simpa using h2)
    exact .inr h5
  | .two i j::l,listed,a,w,hb,h=>by
    unfold tE at hb
    simp only [Bool.and_eq_true,beq_iff_eq,decide_eq_true_iff] at hb
    obtain⟨⟨⟨⟨h1,h2⟩,h3⟩,hij⟩,h4⟩:=hb
    refine⟨fun h0=>(by rw [h1] at h0;cases h0),fun k hk=>?_⟩
    rw [h1] at hk
    have hk:k=i\/k=j:=by simpa using hk
    rcases hk with rfl|rfl
    ·refine wpOp_mono (fun a' w' h5=>⟨.inr h5.1,fun h0=>(by rw [h2] at h0;cases h0),fun k' hk'=>?_⟩) h.1
     rw [h2] at hk'
     have hk':k'=j:=by simpa using hk'
     subst hk'
     exact wpOp_mono (fun a2 w2 h6=>⟨.inr h6.1,mD l _ a2 w2 h4 h6.2⟩) h5.2
    refine wpOp_mono (fun a' w' h5=>⟨.inr h5.1,fun h0=>(by rw [h3] at h0;cases h0),fun k' hk'=>?_⟩) h.2
    rw [h3] at hk'
    have hk':k'=i:=by simpa using hk'
    subst hk'
    refine wpOp_mono (fun a2 w2 h6=>⟨.inr h6.1,?_⟩) h5.2
    rw [Array.setIfInBounds_comm _ _ (fun e=>hij e.symm)]
    exact mD l _ a2 w2 h4 h6.2
  | .three i k j::l,listed,a,w,hb,h=>by
    unfold tE at hb
    simp only [Bool.and_eq_true,beq_iff_eq,decide_eq_true_iff] at hb
    obtain⟨⟨⟨⟨⟨⟨⟨h1,h2⟩,h3⟩,h4⟩,h5⟩,hij⟩,hkj⟩,h6⟩:=hb
    have one:∀ {x:Nat} {ls:Array Bool} {fuel:Nat} {a:Act} {w:World},Region.ready .any ops ls=[x]->wpOp P ops (NP Q) x (fun a' w'=>S w'/\gZ P ops (NP Q) n S fuel (ls.setIfInBounds x true) a' w') a w->gZ P ops (NP Q) n S (fuel+1) ls a w:=fun {x ls fuel a w} hr hx=>by
      refine⟨fun h0=>(by rw [hr] at h0;cases h0),fun y hy=>?_⟩
      rw [hr] at hy
      have hy:y=x:=by simpa using hy
      subst hy
      exact wpOp_mono (fun a' w' h=>⟨.inr h.1,h.2⟩) hx
    have e1:(((listed.setIfInBounds i true).setIfInBounds j true).setIfInBounds k true)=(((listed.setIfInBounds i true).setIfInBounds k true).setIfInBounds j true):=Array.setIfInBounds_comm _ _ (fun e=>hkj e.symm)
    have e2:((listed.setIfInBounds j true).setIfInBounds i true)=((listed.setIfInBounds i true).setIfInBounds j true):=Array.setIfInBounds_comm _ _ (fun e=>hij e.symm)
    refine⟨fun h0=>(by rw [h1] at h0;cases h0),fun x hx=>?_⟩
    rw [h1] at hx
    have hx:x=i\/x=j:=by simpa using hx
    rcases hx with rfl|rfl
    ·refine wpOp_mono (fun a1 w1 g=>⟨.inr g.1,fun h0=>(by rw [h2] at h0;cases h0),fun y hy=>?_⟩) h.1
     rw [h2] at hy
     have hy:y=k\/y=j:=by simpa using hy
     rcases hy with rfl|rfl
     ·exact wpOp_mono (fun a2 w2 g2=>⟨.inr g2.1,one h3 (wpOp_mono (fun a3 w3 g3=>⟨g3.1,mD l _ a3 w3 h6 g3.2⟩) g2.2)⟩) g.2.1
     exact wpOp_mono (fun a2 w2 g2=>⟨.inr g2.1,one h4 (wpOp_mono (fun a3 w3 g3=>⟨g3.1,by rw [e1];exact mD l _ a3 w3 h6 g3.2⟩) g2.2)⟩) g.2.2
    refine wpOp_mono (fun a1 w1 g=>⟨.inr g.1,one h5 (wpOp_mono (fun a2 w2 g2=>⟨g2.1,?_⟩) g.2)⟩) h.2
    rw [e2]
    exact one h4 (wpOp_mono (fun a3 w3 g3=>⟨g3.1,by rw [e1];exact mD l _ a3 w3 h6 g3.2⟩) g2.2)
  | .perm G::l,listed,a,w,hb,h=>EP (m:=qg l) (fun ls a w hb h=>mD l ls a w hb h) G.length G listed a w hb h
  | .beside c j::l,listed,a,w,hb,h=>AL (m:=qg l) (fun ls a w hb h=>mD l ls a w hb h) c listed a w hb h
def nZ (P:Program) (ops:Array Oper) (Q:Post) (S:World->Prop) (es:List rM):List Nat->Act->World->Prop
  | [],a,w=>kP P ops Q S es a w
  | i::l,a,w=>∃ o v,ops[i]?=some o/\YieldsIf P ops S o v a/\nZ P ops Q S es l (a.put o.dst v) w
def DN (ops:Array Oper) (n:Nat) (es:List rM):List Nat->Array Bool->Bool
  | [],listed=>tE ops n es listed
  | i::l,listed=>decide (i < n) && Region.free .any ops listed i && (Region.ready .any ops listed).contains i && DN ops n es l (listed.setIfInBounds i true)
theorem EQ {es:List rM} (hsel:Region.noSelect ops=true) (nU:Region.sinkB .any ops n=true):∀ (l:List Nat) (listed:Array Bool) (a:Act) (w:World),DN ops n es l listed=true->Closed ops listed->S w->nZ P ops (NP Q) S es l a w->gZ P ops (NP Q) n S (l.length+qg es) listed a w
  | [],listed,a,w,hb,_,_,h=>by
    rw [List.length_nil,Nat.zero_add]
    exact mD es listed a w hb h
  | i::l,listed,a,w,hb,hc,hS,h=>by
    unfold DN at hb
    simp only [Bool.and_eq_true,decide_eq_true_iff] at hb
    obtain⟨⟨⟨h1,h2⟩,h3⟩,h4⟩:=hb
    obtain⟨o,v,ho,hy,hk⟩:=h
    have hr:i∈Region.ready .any ops listed:=by simpa using h3
    have e:(i::l).length+qg es=(l.length+qg es)+1:=by rw [List.length_cons];omega
    rw [e]
    exact rz ho hsel nU h1 _ listed a w hc (Region.free_spec ho h2) hr hy hS (EQ hsel nU l _ _ w h4 (hc.set hr) hS hk)
def GU (ops:Array Oper) (rs:List Nat) (es:List rM):Bool:=
  Region.noSelect ops && Region.sinkB .any ops (ops.size - 1) && (rs.length+qg es == ops.size) && DN ops (ops.size - 1) es rs (Array.replicate ops.size false)
end order
section mix
variable {P:Program} {β:Bs} {N:Nat} {ops:Array Oper} {S:List HP} {rs:List Nat} {es:List rM} {fr fr':Fr} {hps:List HP} {Q:Post} {bF:List Prop} {i j:Nat}
def iF (P:Program) (β:Bs) (N:Nat) (ops:Array Oper) (S:List HP) (es:List rM) (rs:List Nat) (fr:Fr) (hps:List HP) (Q:Post):Prop:=
  ∀ junk w,Sat β hps w->nZ P ops (NP Q) (Sat β S) es rs (cC N fr junk) w
theorem af.qL {id:Nat} (rs:List Nat) (es:List rM) (pk:List Nat) (hm:P.follows .mixedOrders=true) (hB:GU ops rs es=true) (hn:bG pk=true) (hp:bV hps pk=some S) (h:iF P β N ops S es rs fr hps Q):af P β N (.region id ops true) fr hps Q:=by
  intro junk w hS
  unfold GU at hB
  simp only [Bool.and_eq_true,beq_iff_eq] at hB
  obtain⟨⟨⟨h1,h2⟩,h3⟩,h4⟩:=hB
  have dR:=hS.drewN 1
  have h5:=EQ (Q:=Q) h1 h2 rs _ _ _ h4 (fun j oj _ hl=>by simp [Array.getD_eq_getD_getElem?,Array.getElem?_replicate] at hl;split at hl<;>simp at hl) (dR.pick hn hp) (h junk (w.drewN 1) dR)
  rw [h3] at h5
  refine Code.wp_mono (fun e a w q=>?_) (wp_region_any hm (nT _ _ _ _ h5))
  cases e with
  | normal=>exact q
  | exit id=>exact q.elim
  | goto l=>exact q.elim
  | ret=>exact q.elim
  | panic ch=>exact q.elim
  | outgrown=>exact q.elim
theorem vG {junk:Nat->Value} {w:World}:∀ {hs:List OH} {is:List Nat} {fr fr':Fr} {T T':SS},pQ P β N junk ops hs is fr T=some (fr',T')->(∀ p,p∈T'.bF->p)->T.used=true->T.hps=S →
    nZ P ops (NP Q) (Sat β S) es rs (cC N fr' junk) w->nZ P ops (NP Q) (Sat β S) es (is++rs) (cC N fr junk) w
  | [],[],fr,fr',T,T',h,ho,hu,hT,hK=>by cases h;exact hK
  | h::hs,i::is,fr,fr',T,T',hr,ho,hu,hT,hK=>by
    unfold pQ at hr
    repeat' split at hr
    all_goals first|(cases hr;done)|skip
    rename_i o hget _ D2 _ v T1 h0 _ hv
    obtain⟨e1,e2⟩:=tJ h0
    rw [List.cons_append]
    unfold nZ
    refine⟨o,v,hget,.inl ⟨by unfold Region.wanted;rw [D2],fun w' dR=>?_⟩,?_⟩
    ·rw [eH]
     obtain⟨w2,h1,_,_,h4⟩:=l6 h0 (fun p hp=>ho p (uG hr p hp)) (by rw [hT];exact dR) (fun e=>by rw [hu] at e;cases e)
     obtain⟨ew,_⟩:=h4 rfl
     rw [ew] at h1
     rcases h1 with h1|⟨h1,_⟩
     ·exact h1
     exact absurd h1 (sC hv)
    rw [eF]
    exact vG hr ho (e2.trans hu) (e1.trans hT) hK
  | [],_::_,_,_,_,_,h,_,_,_,_=>by cases h
  | _::_,[],_,_,_,_,h,_,_,_,_=>by cases h
theorem iF.reads (is:List Nat) (hs:List OH) (idx:List Nat) (h:∀ junk,qP P β N junk ops hs is fr S idx=some (fr',bF)) (ho:jS bF) (K:iF P β N ops S es rs fr' hps Q):iF P β N ops S es (is++rs) fr hps Q:=by
  intro junk w hS
  have h0:=h junk
  unfold qP at h0
  split at h0
  ·rename_i lq S1 h1
   cases h0
   have hK:=K (lk lq junk) w hS
   rw [← jR] at hK
   exact vG h1 (fun p hp=>ho.mem hp) rfl rfl hK
  cases h0
theorem gP (ox:Fr) (is:List Nat) (os:List (Nat×OP)) (K:iF P β N ops S es [] ox hps Q)
    (h:∀ junk,qP P β N junk ops (jt (gV is.length os 0)) is fr S (bU ox)=some (ox,owed (gV is.length os 0)):=by intro _;kernel_rfl):iF P β N ops S es (is++[]) fr hps Q:=
  iF.reads is (jt (gV is.length os 0)) (bU ox) h (oL _) K
theorem iF.pair {ι P0 P4:Type} {J9:P0->Fr} {hpi:P0->List HP} {Ka:P4->Fr} {Kb:P4->List HP} {fr':ι->Fr} {hp':ι->List HP} {oi oj:Oper} (R4 R5 pk:List Nat)
    (hi:ops[i]?=some oi) (hgi:oi.guard=none) (hj:ops[j]?=some oj) (R6:oj.guard=none)
    (h1:aj P β N #[oi] 0 fr hps (NP (nD β N J9 hpi))) (h2:∀ a,aj P β N #[oj] 0 (J9 a) (hpi a) (NP (nD β N fr' hp')))
    (h3:aj P β N #[oj] 0 fr hps (NP (nD β N Ka Kb))) (h4:∀ a,aj P β N #[oi] 0 (Ka a) (Kb a) (NP (nD β N fr' hp')))
    (hni:bG R4=true) (Tt:∀ a,bV (hpi a) R4=some S) (Uv:bG R5=true) (Tv:∀ a,bV (Kb a) R5=some S) (hn:bG pk=true) (hp:∀ a,bV (hp' a) pk=some S)
    (K:∀ a,iF P β N ops S es [] (fr' a) (hp' a) Q):iF P β N ops S (.two i j::es) [] fr hps Q:=by
  intro junk w hS
  unfold nZ kP
  refine⟨gA hi hgi (jo (fun a w ⟨x,gF,ha,dR⟩=>?_) (show wpList P #[oi] (NP (nD β N J9 hpi)) [oi] (cC N fr junk) w from h1 junk w hS)),gA hj R6 (jo (fun a w ⟨x,gF,ha,dR⟩=>?_) (show wpList P #[oj] (NP (nD β N Ka Kb)) [oj] (cC N fr junk) w from h3 junk w hS))⟩
  ·subst ha
   refine⟨dR.pick hni (Tt x),gA hj R6 (jo (fun a w ⟨y,uV,ha,qt⟩=>?_) (show wpList P #[oj] (NP (nD β N fr' hp')) [oj] (cC N (J9 x) gF) w from h2 x gF w dR))⟩
   subst ha
   exact⟨qt.pick hn (hp y),K y uV _ qt⟩
  subst ha
  refine⟨dR.pick Uv (Tv x),gA hi hgi (jo (fun a w ⟨y,uV,ha,qt⟩=>?_) (show wpList P #[oi] (NP (nD β N fr' hp')) [oi] (cC N (Ka x) gF) w from h4 x gF w dR))⟩
  subst ha
  exact⟨qt.pick hn (hp y),K y uV _ qt⟩
theorem iF.cut {ι:Type} {fr':ι->Fr} {hp':ι->List HP} {o:Oper} (pk:List Nat) (hop:ops[i]?=some o) (hg:o.guard=none) (h:aj P β N #[o] 0 fr hps (NP (nD β N fr' hp'))) (hn:bG pk=true) (hp:∀ j,bV (hp' j) pk=some S)
    (K:∀ j,iF P β N ops S es [] (fr' j) (hp' j) Q):iF P β N ops S (.one i::es) [] fr hps Q:=by
  intro junk w hS
  unfold nZ kP
  refine gA hop hg (jo (fun a w ⟨j,gF,ha,dR⟩=>?_) (show wpList P #[o] (NP (nD β N fr' hp')) [o] (cC N fr junk) w from h junk w hS))
  subst ha
  exact⟨.inr (dR.pick hn (hp j)),K j gF _ dR⟩
theorem Sat.left {a b:List HP} {w:World} (h:Sat β (a++b) w):Sat β a w:=by
  obtain⟨h0,φ,h1,h2,h3⟩:=h
  have hlen:a.length<=(a++b).length:=by simp
  exact⟨h0,φ,fun i p hp=>h1 i p (by rw [List.getElem?_append_left (bE hp)];exact hp),fun i hi=>h2 i (by omega),fun i j hi hj=>h3 i j (by omega) (by omega)⟩
def kg (P:Program) (β:Bs) (N:Nat) (ops:Array Oper) (Q:Post) (i d:Nat) (ds:List Nat) (fr:Fr) (pre:List HP) (post:Value->List HP->Prop):Prop:=
  ∀ junk w (A:cA),Sat β (pre++[.abs A]) w->wpOp P ops (NP Q) i (fun a' w'=>∃ v l gF,post v l/\a'=cC N fr gF/\gF d=v/\(∀ t∈ds,t≠d->gF t=junk t)/\Sat β (l++[.abs A]) w') (cC N fr junk) w
def j3 (mG:List Nat) (u:Nat->Value):Fr:=mG.map fun t=>(t,u t)
theorem wO {mG:List Nat} {u:Nat->Value}:bU (j3 mG u)=mG:=by
  induction mG with
  | nil=>rfl
  | cons a r ih=>exact congrArg (a::·) ih
theorem Kc {mG:List Nat} {u junk:Nat->Value} {t:Nat} (h:t∈mG):lk (j3 mG u) junk t=u t:=by
  induction mG with
  | nil=>cases h
  | cons a r ih=>
    show lk ((a,u a)::j3 r u) junk t=_
    rw [fM]
    by_cases e:a=t
    ·rw [if_pos e,e]
    rw [if_neg e]
    rcases List.mem_cons.1 h with h|h
    ·exact absurd h.symm e
    exact ih h
theorem nM {fr ox:Fr} {junk uV:Nat->Value} (h:∀ t,lk fr junk t=lk ox uV t):cC N fr junk=cC N ox uV:=by
  unfold cC
  rw [show lk fr junk=lk ox uV from funext h]
theorem kg.of {ι:Type} {v:ι->Value} {l:ι->List HP} {o:Oper} {d:Nat} {pre:List HP} (mG:List Nat) (hop:ops[i]?=some o) (hg:o.guard=none) (Tw:(d::mG).all (fun t=>!jM t (bU fr))=true) (hd:jM d mG=false)
    (h:∀ (u:Nat->Value) (A:cA),aj P β N #[o] 0 (j3 mG u++fr) (pre++[.abs A]) (NP (nD β N (fun x=>(d,v x)::(j3 mG u++fr)) (fun x=>l x++[.abs A])))):kg P β N ops Q i d (d::mG) fr pre (fun v' l'=>∃ x,v'=v x/\l'=l x):=by
  intro junk w A hS
  have hout:∀ t∈d::mG,t∉bU fr:=fun t ht hm=>by
    have h1:=List.all_eq_true.1 Tw t ht
    rw [jc.2 hm] at h1;cases h1
  have VU:d∉mG:=fun hm=>by rw [jc.2 hm] at hd;cases hd
  have e1:cC N fr junk=cC N (j3 mG junk++fr) junk:=nM fun t=>by
    rw [vW,wO]
    by_cases ht:t∈mG
    ·rw [if_pos ht,Kc ht,kR (hout t (List.mem_cons_of_mem _ ht))]
    rw [if_neg ht]
  rw [e1]
  refine gA hop hg (jo (fun a w ⟨x,Rx,ha,dR⟩=>?_) (show wpList P #[o] (NP (nD β N _ _)) [o] (cC N (j3 mG junk++fr) junk) w from h junk A junk w hS))
  refine⟨v x,l x,lk ((d,v x)::(j3 mG junk++fr)) Rx,⟨x,rfl,rfl⟩,?_,by rw [fM,if_pos rfl],fun t ht hn=>?_,dR⟩
  ·rw [ha]
   refine nM fun t=>?_
   by_cases ht:t∈bU fr
   ·have h1:¬ d=t:=fun e=>hout d List.mem_cons_self (e ▸ ht)
    have h2:t∉mG:=fun hm=>hout t (List.mem_cons_of_mem _ hm) ht
    rw [fM,if_neg h1,vW,wO,if_neg h2]
    exact DC ht
   rw [kR ht]
  rw [fM,if_neg (fun e=>hn e.symm),vW,wO,if_pos ((List.mem_cons.1 ht).resolve_left hn),Kc ((List.mem_cons.1 ht).resolve_left hn)]
theorem kg.at_ {d:Nat} {ds:List Nat} {pre X Y:List HP} {post:Value->List HP->Prop} {junk:Nat->Value} {w:World} {K:Act->World->Prop} (h:kg P β N ops Q i d ds fr pre post) (hS:Sat β (X++(pre++Y)) w)
    (hK:∀ v l gF w',post v l->gF d=v->(∀ t∈ds,t≠d->gF t=junk t)->Sat β (X++(l++Y)) w'->K (cC N fr gF) w'):wpOp P ops (NP Q) i K (cC N fr junk) w:=by
  have h1:=Sat.turn hS
  rw [List.append_assoc] at h1
  refine wpOp_mono (fun a' w' ⟨v,l,j2,g1,g2,g3,g4,g5⟩=>?_) (h junk w _ h1.fK)
  rw [g2]
  refine hK v l j2 w' g1 g3 g4 ?_
  have h2:=g5.pK
  rw [← List.append_assoc] at h2
  exact Sat.turn h2
theorem kg.grow {d d1:Nat} {ds:List Nat} {pre:List HP} {q:Value->List HP->Prop} (h:kg P β N ops Q i d (d::d1::ds) fr pre q) (h1:d1∉bU fr) (hd:d1≠d) (hn:d1∉ds) (v1:Value):kg P β N ops Q i d (d::ds) ((d1,v1)::fr) pre q:=by
  intro junk w A hS
  have e:cC N ((d1,v1)::fr) junk=cC N fr (fun t=>if t=d1 then v1 else junk t):=nM fun t=>by
    rw [fM]
    by_cases e1:d1=t
    ·subst e1;rw [if_pos rfl,kR h1,if_pos rfl]
    rw [if_neg e1]
    by_cases ht:t∈bU fr
    ·exact DC ht
    rw [kR ht,kR ht,if_neg (fun e=>e1 e.symm)]
  rw [e]
  refine wpOp_mono (fun a' w' ⟨v,l,j2,g1,g2,g3,g4,g5⟩=>?_) (h _ w A hS)
  have k1:j2 d1=v1:=(g4 d1 (by simp) hd).trans (if_pos rfl)
  refine⟨v,l,j2,g1,?_,g3,fun t ht hne=>?_,g5⟩
  ·rw [g2]
   refine nM fun t=>?_
   rw [fM]
   by_cases e1:d1=t
   ·subst e1;rw [if_pos rfl,kR h1,k1]
   rw [if_neg e1]
  have h2:t≠d1:=fun e=>by
    subst e
    rcases List.mem_cons.1 ht with e|e
    ·exact hd e
    exact hn e
  refine (g4 t ?_ hne).trans (if_neg h2)
  rcases List.mem_cons.1 ht with e|e
  ·exact absurd e hne
  exact List.mem_cons_of_mem _ (List.mem_cons_of_mem _ e)
def ko (P:Program) (β:Bs) (N:Nat) (ops:Array Oper) (Q:Post) (dj:Nat):List (Nat×Nat)->Fr->List HP->(Fr->List HP->Prop)->Prop
  | [],fr,hps,R=>R fr hps
  | (i,d)::c,fr,hps,R=>(jM d (bU fr)=false/\d≠dj)/\∃ q:Value->List HP->Prop,kg P β N ops Q i d [d,dj] fr hps q/\∀ v l,q v l->ko P β N ops Q dj c ((d,v)::fr) l R
theorem ko.step {dj d:Nat} {c:List (Nat×Nat)} {R:Fr->List HP->Prop} {q:Value->List HP->Prop} (h:kg P β N ops Q i d [d,dj] fr hps q) (h1:(!jM d (bU fr) && decide (d≠dj))=true) (K:∀ v l,q v l->ko P β N ops Q dj c ((d,v)::fr) l R):ko P β N ops Q dj ((i,d)::c) fr hps R:=by
  simp only [Bool.and_eq_true,Bool.not_eq_true',decide_eq_true_iff] at h1
  exact⟨h1,q,h,K⟩
section Uw
variable {dj:Nat} {Z pj:List HP} {qj:Value->List HP->Prop} {R:Fr->List HP->Prop} {pS:List Nat} {F:Act->World->Prop}
theorem Sat.rest {X:List HP} {w:World} (vH:bG pS=true) (vJ:bV Z pS=some S) (h:Sat β (X++Z) w):Sat β S w:=Sat.pick (idx:=pS) (l:=Z) (Sat.left (Sat.turn h)) vH vJ
theorem C8 {v:Value} {l2:List HP} (vH:bG pS=true) (vJ:bV Z pS=some S) (hK:∀ f1 h1,R f1 h1->∀ junk w,Sat β (h1++(l2++Z)) w->F (cC N ((dj,v)::f1) junk) w) :
    ∀ (c:List (Nat×Nat)) (fr:Fr) (hps:List HP) (junk:Nat->Value) (w:World),jM dj (bU fr)=false->ko P β N ops Q dj c fr hps R->junk dj=v->Sat β (hps++(l2++Z)) w->DM P ops (NP Q) (Sat β S) F (c.map (·.1)) (cC N fr junk) w
  | [],fr,hps,junk,w,hdj,hc,hv,hS=>by
    have e:cC N fr junk=cC N ((dj,v)::fr) junk:=nM fun t=>by
      rw [fM]
      by_cases e1:dj=t
      ·subst e1;rw [if_pos rfl,kR (fun hm=>by rw [jc.2 hm] at hdj;cases hdj),hv]
      rw [if_neg e1]
    show F (cC N fr junk) w
    rw [e]
    exact hK fr hps hc junk w hS
  | (i,d)::c,fr,hps,junk,w,hdj,⟨⟨h1,h2⟩,q,h3,h4⟩,hv,hS=>by
    show wpOp P ops (NP Q) i _ _ _
    refine h3.at_ (X:=[]) hS (fun v' l j2 w' g1 g2 g3 g4=>⟨Sat.rest (X:=l++l2) vH vJ (by rw [List.append_assoc];exact g4),?_⟩)
    have e:cC N fr j2=cC N ((d,v')::fr) j2:=nM fun t=>by
      rw [fM]
      by_cases e1:d=t
      ·subst e1;rw [if_pos rfl,kR (fun hm=>by rw [jc.2 hm] at h1;cases h1),g2]
      rw [if_neg e1]
    rw [e]
    refine C8 vH vJ hK c _ l j2 w' ?_ (h4 v' l g1) ((g3 dj (by simp) (fun e=>h2 e.symm)).trans hv) g4
    cases hb:jM dj (bU ((d,v')::fr)) with
    | false=>rfl
    | true=>
      rcases List.mem_cons.1 (jc.1 hb) with e|e
      ·exact absurd e.symm h2
      rw [jc.2 e] at hdj;cases hdj
theorem C9 {j:Nat} (vH:bG pS=true) (vJ:bV Z pS=some S) (hK:∀ f1 h1,R f1 h1->∀ v l2,qj v l2->∀ junk w,Sat β (h1++(l2++Z)) w->F (cC N ((dj,v)::f1) junk) w) :
    ∀ (c:List (Nat×Nat)) (fr:Fr) (hps:List HP) (junk:Nat->Value) (w:World),bG (c.map (·.2))=true->jM dj (bU fr)=false->kg P β N ops Q j dj (dj::c.map (·.2)) fr pj qj->ko P β N ops Q dj c fr hps R->Sat β (hps++(pj++Z)) w->uU P ops (NP Q) (Sat β S) F j (c.map (·.1)) (cC N fr junk) w
  | [],fr,hps,junk,w,_,hdj,hj,hc,hS=>by
    show wpOp P ops (NP Q) j _ _ _
    refine hj.at_ (X:=hps) hS (fun v l j2 w' g1 g2 g3 g4=>⟨Sat.rest (X:=hps++l) vH vJ (by rw [List.append_assoc];exact g4),?_⟩)
    have e:cC N fr j2=cC N ((dj,v)::fr) j2:=nM fun t=>by
      rw [fM]
      by_cases e1:dj=t
      ·subst e1;rw [if_pos rfl,kR (fun hm=>by rw [jc.2 hm] at hdj;cases hdj),g2]
      rw [if_neg e1]
    rw [e]
    exact hK fr hps hc v l g1 j2 w' g4
  | (i,d)::c,fr,hps,junk,w,hnd,hdj,hj,hc,hS=>by
    obtain⟨⟨h1,h2⟩,q,h3,h4⟩:=hc
    have hout:d∉bU fr:=fun hm=>by rw [jc.2 hm] at h1;cases h1
    refine⟨h3.at_ (X:=[]) hS (fun v' l j2 w' g1 g2 g3 g4=>⟨Sat.rest (X:=l++pj) vH vJ (by rw [List.append_assoc];exact g4),?_⟩),hj.at_ (X:=hps) hS (fun v l j2 w' g1 g2 g3 g4=>⟨Sat.rest (X:=hps++l) vH vJ (by rw [List.append_assoc];exact g4),?_⟩)⟩
    ·have e:cC N fr j2=cC N ((d,v')::fr) j2:=nM fun t=>by
       rw [fM]
       by_cases e1:d=t
       ·subst e1;rw [if_pos rfl,kR hout,g2]
       rw [if_neg e1]
     rw [e]
     have P5:d∉c.map (·.2)/\bG (c.map (·.2))=true:=by
       have hx:bG (d::c.map (·.2))=true:=hnd
       unfold bG at hx
       simp only [Bool.and_eq_true] at hx
       exact⟨fun hm=>by have h:=hx.1;simp_all,hx.2⟩
     refine C9 vH vJ hK c _ l j2 w' P5.2 ?_ (hj.grow hout h2 P5.1 v') (h4 v' l g1) g4
     cases hb:jM dj (bU ((d,v')::fr)) with
     | false=>rfl
     | true=>
       rcases List.mem_cons.1 (jc.1 hb) with e|e
       ·exact absurd e.symm h2
       rw [jc.2 e] at hdj;cases hdj
    exact C8 vH vJ (fun f1 h1 hr=>hK f1 h1 hr v l g1) ((i,d)::c) fr hps j2 w' hdj ⟨⟨h1,h2⟩,q,h3,h4⟩ g2 g4
theorem iF.beside {j:Nat} {pc:List HP} (pk pS:List Nat) (c:List (Nat×Nat)) (hn:bG pk=true) (hp:bV hps pk=some (pc++(pj++Z))) (vH:bG pS=true) (vJ:bV Z pS=some S) (hnd:bG (c.map (·.2))=true) (hdj:jM dj (bU fr)=false)
    (hj:kg P β N ops Q j dj (dj::c.map (·.2)) fr pj qj) (hc:ko P β N ops Q dj c fr pc R)
    (K:∀ f1 h1,R f1 h1->∀ v l,qj v l->iF P β N ops S es [] ((dj,v)::f1) (h1++(l++Z)) Q):iF P β N ops S (.beside (c.map (·.1)) j::es) [] fr hps Q:=by
  intro junk w hS
  exact C9 (F:=kP P ops (NP Q) (Sat β S) es) vH vJ (fun f1 h1 hr v l2 hv junk w hS=>K f1 h1 hr v l2 hv junk w hS) c fr pc junk w hnd hdj hj hc (hS.pick hn hp)
end Uw
theorem iF.last {o:Oper} (hop:ops[i]?=some o) (hg:o.guard=none) (h:aj P β N #[o] 0 fr hps (NP Q)):iF P β N ops S [.one i] [] fr hps Q:=by
  intro junk w hS
  unfold nZ kP
  exact gA hop hg (jo (fun a w hq=>⟨.inl rfl,by unfold kP;exact hq⟩) (show wpList P #[o] (NP Q) [o] (cC N fr junk) w from h junk w hS))
end mix
end
section
open Go.RowKit
def kq (β:Bs) (Φ:Bs->Prop):cA where
  h F w:=∃ β':Bs,β.le β'/\(∀ k,β'.O k->β.O k\/F k)/\(∀ k,F k->β'.O k)/\β'.w0.heap.size<=w.heap.size/\(∀ k,F k->k < β'.w0.heap.size/\w.heap[k]?=β'.w0.heap[k]?)/\Φ β'
  lt:=fun ⟨_,_,_,_,h4,h5,_⟩ k hk=>Nat.lt_of_lt_of_le (h5 k hk).1 h4
  st:=fun ⟨β',h1,h2,h3,h4,h5,h6⟩ _ _ hk hs=>⟨β',h1,h2,h3,Nat.le_trans h4 hk.size,fun k hF=>⟨(h5 k hF).1,(hk.block k (Nat.lt_of_lt_of_le (h5 k hF).1 h4) (hs k hF)).trans (h5 k hF).2⟩,h6⟩
section Np
variable {P:Program} {β:Bs} {N:Nat} {ops:Array Oper} {k:Nat} {fr:Fr} {hps cL:List HP} {Q:Post} {f:FuncId} {args:Array Value} {pre:List HP}
theorem cJ.Np {ι:Type} {vv:ι->Value} {ll:ι->List HP} {Φ:ι->Bs->Prop} (h:cJ P β f args pre (fun β' v l=>∃ x,v=vv x/\l=ll x/\Φ x β')):Spec P β f args pre (fun v l=>∃ x,v=vv x/\l=.abs (kq β (Φ x))::ll x):=by
  intro R w hS
  refine (h R w hS).mono ?_
  rintro e w' ⟨β',v,l,hle,he,⟨x,rfl,rfl,DW⟩,ho,φ,h1,h2,h3⟩
  refine⟨vv x,_,he,⟨x,rfl,rfl⟩,ho.le hle,fun i=>match i with
    | 0=>fun k=>β'.O k/\¬ β.O k
    | i+1=>φ i,fun i p hp=>?_,fun i hi k hk hO=>?_,fun i j hi hj hne k hk hk'=>?_⟩
  ·cases i with
   | zero=>
     have hp:some (HP.abs (kq β (Φ x)))=some p:=hp
     cases hp
     exact⟨β',hle,fun k hk=>(Classical.em (β.O k)).elim .inl (fun hn=>.inr ⟨hk,hn⟩),fun k hk=>hk.1,ho.size,fun k hk=>ho.old k hk.1,DW⟩
   | succ i=>exact h1 i p (by simpa using hp)
  ·cases i with
   | zero=>exact hk.2 hO
   | succ i=>exact h2 i (by simp at hi ⊢;omega) k hk (hle.O k hO)
  cases i with
  | zero=>
    cases j with
    | zero=>exact hne rfl
    | succ j=>exact h2 j (by simp at hj ⊢;omega) k hk' hk.1
  | succ i=>
    cases j with
    | zero=>exact h2 i (by simp at hi ⊢;omega) k hk hk'.1
    | succ j=>exact h3 i j (by simp at hi ⊢;omega) (by simp at hj ⊢;omega) (by omega) k hk hk'
theorem Sat.ER {Φ:Bs->Prop} {l:List HP} {w:World} (h:Sat β (.abs (kq β Φ)::l) w):∃ β':Bs,β.le β'/\Φ β'/\Sat β' l w:=by
  obtain⟨ho,φ,h1,h2,h3⟩:=h
  have hF:(kq β Φ).h (φ 0) w:=h1 0 _ rfl
  obtain⟨β',g1,g2,g3,g4,g5,g6⟩:=hF
  refine⟨β',g1,g6,⟨ho.os.trans g1.os.symm,ho.tape.trans g1.tape.symm,ho.output.trans g1.output.symm,g4,fun k hk=>?_⟩,fun j=>φ (j+1),fun j p hp=>h1 (j+1) p (by simpa using hp),fun j hj k hk hO=>?_,fun a b ha hb hne=>h3 (a+1) (b+1) (by simp;omega) (by simp;omega) (by omega)⟩
  ·rcases g2 k hk with hb|hb
   ·have e1:=g1.old k hb
    have e2:=ho.old k hb
    exact⟨Nat.lt_of_lt_of_le e1.1 g1.size,e2.2.trans e1.2.symm⟩
   exact g5 k hb
  rcases g2 k hO with hb|hb
  ·exact h2 (j+1) (by simp;omega) k hk hb
  exact h3 (j+1) 0 (by simp;omega) (by simp) (by omega) k hk hb
theorem Spec.IC {Φ:Bs->Prop} {post:Value->List HP->Prop} (h:∀ β':Bs,β.le β'->Φ β'->Spec P β' f args pre post):Spec P β f args (.abs (kq β Φ)::pre) post:=by
  intro R w hS
  obtain⟨β',g1,g2,g3⟩:=Sat.ER (l:=pre++[.abs R]) hS
  refine (h β' g1 g2 R w g3).mono ?_
  rintro e w' ⟨v,l,h1,h2,h3⟩
  exact⟨v,l,h1,h2,h3.DV g1⟩
end Np
end
section
open Go.RowKit Go.Maps bL aB
theorem AO (_:Nat) (f:aZ):∀ u∈dL f,u.oneCell'=true:=by
  intro u hu
  simp only [dL,List.mem_cons,List.not_mem_nil,or_false] at hu
  rcases hu with rfl|rfl<;>rfl
theorem Mc (_:Nat) (a:cQ):∀ u∈dS a,u.oneCell'=true:=by
  intro u hu
  simp only [dS,List.mem_cons,List.not_mem_nil,or_false] at hu
  rcases hu with rfl|rfl|rfl|rfl|rfl<;>rfl
theorem uW {α:Type} (f:α->List Value) (a:α) (ys:List α):bq f (ys++[a])=bq f ys++f a:=by
  have:∀ (k:Nat) (ys:List α),dg (fun _ x=>f x) k (ys++[a])=dg (fun _ x=>f x) k ys++f a:=fun k ys=>by
    induction ys generalizing k with
    | nil=>exact List.append_nil _
    | cons y r ih=>show f y++dg _ (k+1) (r++[a])=(f y++dg _ (k+1) r)++f a;rw [ih,List.append_assoc]
  exact this 0 ys
theorem wQ {α:Type} {f:α->List Value} {s:Nat} (hf:∀ a,(f a).length=s):∀ xs:List α,(bq f xs).length=xs.length * s:=fun xs=>by
  have:∀ (k:Nat) (xs:List α),(dg (fun _ x=>f x) k xs).length=xs.length * s:=fun k xs=>by
    induction xs generalizing k with
    | nil=>simp [dg]
    | cons y r ih=>show (f y++dg _ (k+1) r).length=_;rw [List.length_append,ih,hf,List.length_cons,Nat.succ_mul,Nat.add_comm]
  exact this 0 xs
structure AZ where
  A:Int->Option Addr
  c:Int->Nat
def AZ.none:AZ:=⟨fun _=>Option.none,fun _=>0⟩
def AZ.put (Z:AZ) (n:Int) (B:Option Addr) (k:Nat):AZ:=⟨fun x=>if x=n then B else Z.A x,fun x=>if x=n then k else Z.c x⟩
def aA (Z:AZ) (xs:List cQ) (n:Int):Option Addr:=if bO xs n=[] then .none else Z.A n
def aC (Z:AZ) (xs:List cQ) (n:Int):Nat:=if bO xs n=[] then 0 else Z.c n
def zz:Int->Nat
  | .ofNat n=>2 * n
  | .negSucc n=>2 * n+1
def yE (k:Nat):Int:=if k % 2=0 then .ofNat (k / 2) else .negSucc (k / 2)
def fH (Z:AZ) (xs:List cQ):Lit->Option Value
  | .int .i64 n=>if bO xs n=[] then .none else some (.slice (aA Z xs n) (bO xs n).length (aC Z xs n))
  | _=>.none
def d8 (fs:List aZ):Lit->Option Value
  | .int .i64 n=>if gh fs n=0 then .none else some (.int .i64 (gh fs n))
  | _=>.none
abbrev zy (Z:AZ) (xs:List cQ) (n:Int):cA:=aE 41 5 (aA Z xs n) (bO xs n).length (aC Z xs n) (bq dS (bO xs n))
def lQ (Z:AZ) (xs:List cQ) (k:Nat):cA:=if bO xs (yE k)=[] then cA.none else zy Z xs (yE k)
def jF (β:Bs) (Z:AZ) (xs:List cQ):Prop:=∀ n,cP β (aA Z xs n) (bq dS (bO xs n))
section z
variable {Z:AZ} {xs:List cQ} {n x:Int} {k c:Nat} {B:Option Addr} {a:cQ} {β β':Bs} {l l':List HP} {w:World} {i j:Nat}
theorem ES:∀ n,yE (zz n)=n
  | .ofNat n=>by show yE (2 * n)=_;unfold yE;rw [if_pos (by omega)];exact congrArg Int.ofNat (by omega)
  | .negSucc n=>by show yE (2 * n+1)=_;unfold yE;rw [if_neg (by omega)];exact congrArg Int.negSucc (by omega)
theorem P6 (k:Nat):zz (yE k)=k:=by
  unfold yE
  split
  ·show 2 * (k / 2)=k;omega
  show 2 * (k / 2)+1=k;omega
theorem jF.le (h:jF β Z xs) (g:β.le β'):jF β' Z xs:=fun n=>(h n).le g
theorem zA:(fH Z xs (.int .i64 n)).getD (.slice .none 0 0)=.slice (aA Z xs n) (bO xs n).length (aC Z xs n):=by
  unfold fH
  by_cases h:bO xs n=[]
  ·simp only
   rw [if_pos h]
   unfold aA aC
   rw [if_pos h,if_pos h,h];rfl
  simp only
  rw [if_neg h];rfl
theorem Da {fs:List aZ}:(d8 fs (.int .i64 n)).getD (.int .i64 0)=.int .i64 (gh fs n):=by
  unfold d8
  simp only
  split
  ·rename_i h;rw [h];rfl
  rfl
theorem Md:fH Z []=fun _=>.none:=funext fun l=>by
  unfold fH
  split<;>rfl
theorem Ke:d8 []=fun _=>.none:=funext fun l=>by
  unfold d8
  split<;>rfl
theorem sO {m:Int} (h:m≠a.at_):bO (xs++[a]) m=bO xs m:=by
  rw [yD,if_neg (fun e=>h e.symm)]
theorem sP:bO (xs++[a]) a.at_=bO xs a.at_++[a]:=by
  rw [yD,if_pos rfl]
theorem Nq {m:Int} (h:m≠a.at_):aA (Z.put a.at_ B c) (xs++[a]) m=aA Z xs m:=by
  unfold aA AZ.put
  rw [sO h]
  simp only
  rw [if_neg h]
theorem Nr {m:Int} (h:m≠a.at_):aC (Z.put a.at_ B c) (xs++[a]) m=aC Z xs m:=by
  unfold aC AZ.put
  rw [sO h]
  simp only
  rw [if_neg h]
theorem Ns:aA (Z.put a.at_ B c) (xs++[a]) a.at_=B:=by
  unfold aA AZ.put
  rw [sP,if_neg (by simp)]
  simp
theorem Nt:aC (Z.put a.at_ B c) (xs++[a]) a.at_=c:=by
  unfold aC AZ.put
  rw [sP,if_neg (by simp)]
  simp
theorem GV {f g:Lit->Option Value} {v:Option Value} (hv:g (.int .i64 n)=v) (ho:∀ l,l≠.int .i64 n->g l=f l):upd f (.int .i64 n) v=g:=funext fun l=>by
  unfold upd
  by_cases h:l.sameKey (.int .i64 n)=true
  ·rw [if_pos h]
   have:l=.int .i64 n:=by
     cases l with
     | int q a=>simp [Lit.sameKey] at h;obtain⟨rfl,rfl⟩:=h;rfl
     | _=>simp [Lit.sameKey] at h
   rw [this,hv]
  rw [if_neg h,ho l (fun e=>h (by rw [e];simp [Lit.sameKey]))]
theorem Me:upd (fH Z xs) (.int .i64 a.at_) (some (.slice B ((bO xs a.at_).length+1) c))=fH (Z.put a.at_ B c) (xs++[a]):=by
  refine GV ?_ (fun l h=>?_)
  ·unfold fH
   simp only
   rw [sP,if_neg (by simp),Ns,Nt,List.length_append];rfl
  unfold fH
  split
  ·rename_i m
   have hm:m≠a.at_:=fun e=>h (by rw [e])
   rw [sO hm,Nq hm,Nr hm]
  rfl
theorem Kf {fs:List aZ} {f:aZ} (h:FK f) (h0:gh fs f.at_=0):upd (d8 fs) (.int .i64 f.at_) (some (.int .i64 f.kind))=d8 (fs++[f]):=by
  have hk:¬ f.kind=0:=by have:=h.1;omega
  refine GV ?_ (fun l hl=>?_)
  ·unfold d8
   simp only
   have e:gh (fs++[f]) f.at_=f.kind:=by rw [qJ,if_pos h0,if_pos (show f.at_=f.at_/\FK f from ⟨rfl,h⟩)]
   rw [e,if_neg hk]
  unfold d8
  split
  ·rename_i m
   have hm:¬ (f.at_=m/\FK f):=fun e=>hl (by rw [e.1])
   rw [qJ,if_neg hm]
   by_cases h2:gh fs m=0
   ·rw [if_pos h2,h2]
   rw [if_neg h2]
  rfl
theorem uX {fs:List aZ} {f:aZ} (h:¬ FK f\/gh fs f.at_≠0):d8 (fs++[f])=d8 fs:=funext fun l=>by
  unfold d8
  split
  ·rename_i m
   have:gh (fs++[f]) m=gh fs m:=by
     rw [qJ]
     by_cases h2:gh fs m=0
     ·rw [if_pos h2,if_neg (fun e=>?_),h2]
      rcases h with h|h
      ·exact h e.2
      exact h (by rw [e.1];exact h2)
     rw [if_neg h2]
   rw [this]
  rfl
theorem Sat.P7 (h:Sat β l w):Sat β (l++[.abs (ax (lQ AZ.none []))]) w:=h.DF _ (fun _=>if_pos rfl)
theorem Sat.OB (h:Sat β l w) (hp:l[i]?=some (.abs (ax (lQ Z xs)))) (n:Int):Sat β (l.set i (.abs (ax (jU (lQ Z xs) (zz n) cA.none)))++[.abs (zy Z xs n)]) w:=by
  have h1:=h.Ac hp (zz n)
  by_cases e:bO xs n=[]
  ·have e2:zy Z xs n=aE 41 5 .none 0 0 []:=by
     unfold zy aA aC
     rw [if_pos e,if_pos e,e];rfl
   rw [e2]
   exact (Sat.left h1).jL (e:=41) (size:=5)
  have e2:lQ Z xs (zz n)=zy Z xs n:=by
    unfold lQ
    rw [ES,if_neg e]
  rw [e2] at h1
  exact h1
theorem Sat.P8 {idx:List Nat} (h:Sat β l w) (hp:l[i]?=some (.abs (ax (jU (lQ Z xs) (zz a.at_) cA.none)))) (hq:l[j]?=some (.abs (aE 41 5 B ((bO xs a.at_).length+1) c (bq dS (bO xs a.at_)++dS a)))) (hn:bG (i::j::idx)=true) (hl:bV l idx=some l') :
    Sat β (.abs (ax (lQ (Z.put a.at_ B c) (xs++[a])))::l') w:=by
  refine h.pz hp hq (fun _ _ h=>h) hn hl (zz a.at_) (fun x hx=>?_) ?_
  ·have hne:yE x≠a.at_:=fun e=>hx (by rw [← e,P6])
   unfold jU
   rw [if_neg hx]
   unfold lQ zy
   rw [sO hne,Nq hne,Nr hne]
  unfold lQ zy
  rw [ES,sP,if_neg (by simp),Ns,Nt]
  rw [uW,List.length_append];rfl
theorem jF.of {F:Fp} (h:(HP.abs (ax (lQ Z xs))).h F w) (h1:∀ k,F k->β.O k) (h2:β.w0=w):jF β Z xs:=fun n=>by
  by_cases e:bO xs n=[]
  ·rw [e];exact fun j v hj=>by simp [bq,dg] at hj
  obtain⟨φ,g1,_,g3⟩:=h
  have h3:=g1 (zz n)
  unfold lQ at h3
  rw [ES,if_neg e] at h3
  exact cP.jb h3 (fun k hk=>h1 k ((g3 k).2 ⟨_,hk⟩)) h2
end z
theorem uY {xs:List cQ} {i:Nat} (h:i < xs.length):xs.take (i+1)=xs.take i++[act xs i]:=by
  rw [List.take_add_one,qY h];rfl
theorem uZ {fs:List aZ} {i:Nat} (h:i < fs.length):fs.take (i+1)=fs.take i++[jB fs i]:=by
  rw [List.take_add_one,x3 h];rfl
theorem Kh {n:Nat} (h:n<=9223372036854775807):(Lit.int .i64 (n:Int)).wf=true:=by
  simp [Lit.wf,IntKind.min,IntKind.max,IntKind.signed,IntKind.bits]
  omega
theorem Mf {d:List UInt8} {m j:Nat} {v:Value} (h:(bX (d.take m))[j]?=some v):(bX d)[j]?=some v:=by
  unfold bX at h ⊢
  rw [List.getElem?_map] at h ⊢
  rw [List.getElem?_take] at h
  split at h
  ·exact h
  cases h
theorem Gb {β:Bs} {c:aD} (h:fQ β c):fQ β { c with data:=c.data.take (c.data.length / 2) }:=⟨h.hw,h.ow,h.nm,h.tx,fun j v hj=>h.da j v (Mf hj),by
  show (c.data.take _).length<=_
  rw [List.length_take];have:=h.dl;omega,by
  show (c.data.take _).length<=c.dC
  rw [List.length_take];have:=h.dc;omega⟩
structure WG where
  w:Nat
  o:Nat
  q:Nat
  am:Nat
  km:Nat
  an:Nat
  kn:Nat
  f:Nat
  m:Nat
  t:Nat
  Z:AZ
structure WV where
  L:HL
  A:Option Addr
  c:Nat
abbrev wB (w o f:Nat) (root:Int) (A:Option Addr) (n c:Nat):HP:=.blk w [.iface 42 (vP w),vP f,.iface 180 (vP o),.int .i64 root,.slice A n c] 93
abbrev oB (o q f:Nat) (root:Int) (am n:Nat):HP:=.blk o [.iface 181 (vP q),vP f,.int .i64 root,.map (some am),.int .i64 n] 185
abbrev qB (q f km n:Nat):HP:=.blk q [.iface 54 (vP f),.map (some km),.int .i64 n] 183
abbrev aM (am an:Nat) (Z:AZ) (xs:List cQ):HP:=.abs (aL Tryz.prog 3 am (fH Z xs) an)
abbrev kM (km kn:Nat) (fs:List aZ):HP:=.abs (aL Tryz.prog 3 km (d8 fs) kn)
abbrev tR (A:Option Addr) (c:Nat) (tr:List aD):HP:=.abs (aE 48 13 A tr.length c (bq bT tr))
abbrev wP (G:WG) (fs:List aZ) (xs:List cQ) (root:Int) (S:aG) (V:WV) (tr:List aD):List HP:=[wB G.w G.o G.f root V.A tr.length V.c,oB G.o G.q G.f root G.am tr.length,qB G.q G.f G.km tr.length,aM G.am G.an G.Z xs,kM G.km G.kn fs,tR V.A V.c tr]++pA G.f G.m G.t V.L S
def wA (G:WG) (fs:List aZ) (xs:List cQ) (root:Int) (S:aG) (V:WV) (tr:List aD):HP:=.abs (fK (wP G fs xs root S V tr))
def Vm (β:Bs) (tr:List aD):Prop:=∀ c∈tr,bD β c.dA c.data/\c.data.length<=1048576
theorem Spec.one {P:Program} {β:Bs} {f:FuncId} {args:Array Value} {pre:List HP} {post:Value->List HP->Prop} (h:Spec P β f args pre post):Spec P β f args [.abs (fK pre)] (fun v l=>∃ l0,post v l0/\l=[.abs (fK l0)]):=by
  intro R w hS
  have h1:Sat β ([.abs R]++[.abs (fK pre)]) w:=Sat.turn hS
  refine (h R w (Sat.turn h1.pK)).mono ?_
  rintro e w' ⟨v,l,h2,h3,h4⟩
  exact⟨v,[.abs (fK l)],h2,⟨l,h3,rfl⟩,Sat.turn (Sat.fK (Sat.turn h4))⟩
theorem cJ.one {P:Program} {β:Bs} {f:FuncId} {args:Array Value} {pre:List HP} {post:Bs->Value->List HP->Prop} (h:cJ P β f args pre post):cJ P β f args [.abs (fK pre)] (fun β' v l=>∃ l0,post β' v l0/\l=[.abs (fK l0)]):=by
  intro R w hS
  have h1:Sat β ([.abs R]++[.abs (fK pre)]) w:=Sat.turn hS
  refine (h R w (Sat.turn h1.pK)).mono ?_
  rintro e w' ⟨β',v,l,hle,h2,h3,h4⟩
  exact⟨β',v,[.abs (fK l)],hle,h2,⟨l,h3,rfl⟩,Sat.turn (Sat.fK (Sat.turn h4))⟩
theorem ai.ER {β:Bs} {N:Nat} {Q:Post} {e:Exit} {fr:Fr} {hps cL:List HP} {Φ:Bs->Prop} (i:Nat) (idx:List Nat) (hp:hps[i]?=some (.abs (kq β Φ))) (hn:bG (i::idx)=true) (hl:bV hps idx=some cL) (K:∀ β':Bs,β.le β'->Φ β'->ai β' N Q e fr cL):ai β N Q e fr hps:=fun junk w hS=>by
  obtain⟨β',g1,g2,g3⟩:=(hS.pick (idx:=i::idx) (l':=.abs (kq β Φ)::cL) hn (by simp only [bV,hp,hl])).ER
  exact K β' g1 g2 junk w g3
theorem cJ.IC {P:Program} {β:Bs} {f:FuncId} {args:Array Value} {pre:List HP} {Φ:Bs->Prop} {post:Bs->Value->List HP->Prop} (h:∀ β':Bs,β.le β'->Φ β'->cJ P β' f args pre post):cJ P β f args (.abs (kq β Φ)::pre) post:=by
  intro A w hS
  obtain⟨β',g1,g2,g3⟩:=Sat.ER (l:=pre++[.abs A]) hS
  refine (h β' g1 g2 A w g3).mono ?_
  rintro e w' ⟨β'',v,l,hle,h2⟩
  exact⟨β'',v,l,g1.trans hle,h2⟩
theorem cJ.P9 {P:Program} {β:Bs} {f:FuncId} {args:Array Value} {R:List HP} {post:Bs->Value->List HP->Prop} (h:∀ β':Bs,oR β R β'->cJ P β' f args [] post):cJ P β f args R post:=by
  intro A w hS
  have h4:Sat β ([.abs A]++R) w:=Sat.turn hS
  obtain⟨β',g1,_,g3⟩:=h4.za
  refine (h β' g1 A w g3).mono ?_
  rintro e w' ⟨β'',v,l,hle,h2⟩
  exact⟨β'',v,l,g1.le.trans hle,h2⟩
theorem cJ.Qa {P:Program} {β:Bs} {f:FuncId} {args:Array Value} {pre:List HP} {post:Value->List HP->Prop} (h:cJ P β f args pre (fun _ v l=>post v l)):Spec P β f args pre post:=by
  intro A w hS
  refine (h A w hS).mono ?_
  rintro e w' ⟨β',v,l,hle,h2,h3,h4⟩
  exact⟨v,l,h2,h3,h4.DV hle⟩
theorem cJ.Qb {P:Program} {β:Bs} {f:FuncId} {args:Array Value} {pre:List HP} {post post':Bs->Value->List HP->Prop} (h:cJ P β f args pre post) (hp:∀ β' v l,post β' v l->(l=[]/\post' β' v [])\/post' β' v [.abs (fK l)]):cJ P β f args pre post':=by
  intro R w hS
  refine (h R w hS).mono ?_
  rintro e w' ⟨β',v,l,hle,h2,h3,h4⟩
  rcases hp β' v l h3 with ⟨rfl,h5⟩|h5
  ·exact⟨β',v,[],hle,h2,h5,h4⟩
  exact⟨β',v,[.abs (fK l)],hle,h2,h5,Sat.turn (Sat.fK (Sat.turn h4))⟩
end
section
open Go.RowKit Go.Maps
structure Cl (ns:List aI) (i j:Nat):Prop where
  Qc:i < ns.length
  Db:j < (nd ns i).ah.length
  dir:(nd ns (tgt ns (ent ns i j).id)).kind=2
section
variable {ns:List aI}
theorem rN {i m:Nat} {p:Nat×Nat}:p∈dF ns i m↔∃ j,j < m/\(nd ns (tgt ns (ent ns i j).id)).kind=2/\p=(tgt ns (ent ns i j).id,i):=by
  induction m with
  | zero=>simp [dF]
  | succ m ih=>
    by_cases h:(nd ns (tgt ns (ent ns i m).id)).kind=2
    ·rw [oP h,List.mem_cons,ih]
     refine⟨fun hp=>?_,fun ⟨j,hj,h1,h2⟩=>?_⟩
     ·rcases hp with rfl|⟨j,hj,h1,h2⟩
      ·exact⟨m,Nat.lt_succ_self m,h,rfl⟩
      exact⟨j,Nat.lt_succ_of_lt hj,h1,h2⟩
     rcases Nat.lt_succ_iff_lt_or_eq.1 hj with e|e
     ·exact .inr ⟨j,e,h1,h2⟩
     subst e;exact .inl h2
    rw [sE h,ih]
    refine⟨fun ⟨j,hj,h1⟩=>⟨j,Nat.lt_succ_of_lt hj,h1⟩,fun ⟨j,hj,h1,h2⟩=>?_⟩
    rcases Nat.lt_succ_iff_lt_or_eq.1 hj with e|e
    ·exact⟨j,e,h1,h2⟩
    subst e;exact absurd h1 h
theorem vf {m:Nat} {p:Nat×Nat}:p∈fD ns m↔∃ i j,i < m/\j < (nd ns i).ah.length/\(nd ns (tgt ns (ent ns i j).id)).kind=2/\p=(tgt ns (ent ns i j).id,i):=by
  induction m with
  | zero=>simp [fD]
  | succ m ih=>
    rw [fD,List.mem_append,rN,ih]
    refine⟨fun h=>?_,fun ⟨i,j,hi,hj,h1,h2⟩=>?_⟩
    ·rcases h with ⟨j,hj,h1,h2⟩|⟨i,j,hi,h⟩
     ·exact⟨m,j,Nat.lt_succ_self m,hj,h1,h2⟩
     exact⟨i,j,Nat.lt_succ_of_lt hi,h⟩
    rcases Nat.lt_succ_iff_lt_or_eq.1 hi with e|e
    ·exact .inr ⟨i,j,e,hj,h1,h2⟩
    subst e;exact .inl ⟨j,hj,h1,h2⟩
theorem Cl.mem {i j:Nat} (h:Cl ns i j):(tgt ns (ent ns i j).id,i)∈fD ns ns.length:=vf.2 ⟨i,j,h.Qc,h.Db,h.dir,rfl⟩
def Nu (ns:List aI) (m:Nat):Prop:=∀ i j i' j',Cl ns i j->Cl ns i' j'->i < m->i' < m->tgt ns (ent ns i j).id=tgt ns (ent ns i' j').id->i=i'/\j=j'
theorem Ki {i m:Nat} (h:((dF ns i m).map Prod.fst).Nodup):∀ j j',j < m->j' < m->(nd ns (tgt ns (ent ns i j).id)).kind=2->(nd ns (tgt ns (ent ns i j').id)).kind=2->tgt ns (ent ns i j).id=tgt ns (ent ns i j').id->j=j':=by
  induction m with
  | zero=>intro j j' hj;omega
  | succ m ih=>
    intro j j' hj hj' hk hk' e
    by_cases hm:(nd ns (tgt ns (ent ns i m).id)).kind=2
    ·rw [oP hm,List.map_cons,List.nodup_cons] at h
     rcases Nat.lt_succ_iff_lt_or_eq.1 hj with e1|e1
     ·rcases Nat.lt_succ_iff_lt_or_eq.1 hj' with e2|e2
      ·exact ih h.2 j j' e1 e2 hk hk' e
      subst e2;exact absurd (List.mem_map.2 ⟨_,rN.2 ⟨j,e1,hk,rfl⟩,e⟩) h.1
     rcases Nat.lt_succ_iff_lt_or_eq.1 hj' with e2|e2
     ·subst e1;exact absurd (List.mem_map.2 ⟨_,rN.2 ⟨j',e2,hk',rfl⟩,e.symm⟩) h.1
     omega
    rw [sE hm] at h
    rcases Nat.lt_succ_iff_lt_or_eq.1 hj with e1|e1
    ·rcases Nat.lt_succ_iff_lt_or_eq.1 hj' with e2|e2
     ·exact ih h j j' e1 e2 hk hk' e
     subst e2;exact absurd hk' hm
    subst e1;exact absurd hk hm
theorem Kj {m:Nat} (h:((fD ns m).map Prod.fst).Nodup):Nu ns m:=by
  induction m with
  | zero=>intro i j i' j' _ _ hi;omega
  | succ m ih=>
    rw [fD,List.map_append] at h
    obtain⟨h1,h2,h3⟩:=List.nodup_append.1 h
    intro i j i' j' g g' hi hi' e
    rcases Nat.lt_succ_iff_lt_or_eq.1 hi with e1|e1
    ·rcases Nat.lt_succ_iff_lt_or_eq.1 hi' with e2|e2
     ·exact ih h2 i j i' j' g g' e1 e2 e
     subst e2
     exact absurd e.symm (h3 _ (List.mem_map.2 ⟨_,rN.2 ⟨j',g'.Db,g'.dir,rfl⟩,rfl⟩) _ (List.mem_map.2 ⟨_,vf.2 ⟨i,j,e1,g.Db,g.dir,rfl⟩,rfl⟩))
    rcases Nat.lt_succ_iff_lt_or_eq.1 hi' with e2|e2
    ·subst e1
     exact absurd e (h3 _ (List.mem_map.2 ⟨_,rN.2 ⟨j,g.Db,g.dir,rfl⟩,rfl⟩) _ (List.mem_map.2 ⟨_,vf.2 ⟨i',j',e2,g'.Db,g'.dir,rfl⟩,rfl⟩))
    subst e1;subst e2
    exact⟨rfl,Ki h1 j j' g.Db g'.Db g.dir g'.dir e⟩
def GW (ns:List aI) (d:Nat->Nat):Prop:=∀ i j,Cl ns i j->d i < d (tgt ns (ent ns i j).id)
theorem bQ.uniq (h:bQ ns):Nu ns ns.length:=Kj h.nodup
theorem bQ.deep (h:bQ ns):∃ d,GW ns d:=by
  refine⟨fun k=>Classical.choose (h.ends (nd ns k).id),fun i j g=>?_⟩
  have hp:=y8 (ns:=ns) (Nat.le_refl _) h.ah
  have hat:=(h.ah i g.Qc j g.Db).at_
  have htl:=mO hat
  have e1:=Classical.choose_spec (h.ends (nd ns i).id)
  have e2:=Classical.choose_spec (h.ends (nd ns (tgt ns (ent ns i j).id)).id)
  show Classical.choose (h.ends (nd ns i).id) < Classical.choose (h.ends (nd ns (tgt ns (ent ns i j).id)).id)
  generalize Classical.choose (h.ends (nd ns i).id)=x at e1 ⊢
  generalize Classical.choose (h.ends (nd ns (tgt ns (ent ns i j).id)).id)=y at e2 ⊢
  cases hu:up ((fD ns ns.length).map (iX ns)) (nd ns (tgt ns (ent ns i j).id)).id with
  | none=>
    have:=Gr hu
    exact absurd (List.mem_map.2 ⟨_,g.mem,rfl⟩) this
  | some z=>
    obtain⟨_,p,g1,g2,g3⟩:=Gs h.rise htl.1 (fun p hp'=>(hp p hp').1) hu
    obtain⟨a,b,ha,hb,hk,rfl⟩:=vf.1 g1
    have g2:tgt ns (ent ns a b).id=tgt ns (ent ns i j).id:=g2
    obtain⟨rfl,rfl⟩:=h.uniq a b i j ⟨ha,hb,hk⟩ g ha g.Qc g2
    have g3:z=(nd ns a).id:=g3
    cases y with
    | zero=>
      have e2:up _ _=none:=e2
      rw [hu] at e2;cases e2
    | succ y=>
      obtain⟨z',h1,h2⟩:=e2
      rw [hu] at h1
      cases h1
      rw [g3] at h2
      have:=e1.uniq h2
      show x < y+1
      omega
end
end
section
open Go.RowKit Go.Maps bL aB
structure jk (X:FM):Prop where
  cN:0<=X.cN/\X.cN<=4096
  cB:0<=X.cB/\X.cB<=1099511627776
  cH:0<=X.cH/\X.cH<=1024
  now:dQ X.cS X.cZ
def fq (n:aI):Nat:=n.id.toNat
def oe (n:aI):Th:=⟨fq n,n.kind⟩
def oC (n:aI):aT:=⟨n.id,n.mode,n.uid,n.gid,n.sec,n.nano,0,0,false,n.kind,n.data,n.target,[],none⟩
def DP:aT:=⟨0,0,0,0,0,0,0,0,false,0,[],⟨#[]⟩,[],none⟩
def gI (X:FM):aG:=⟨{ X with last:=0,ah:=0,used:=0 },fun _=>DP,[],[],0⟩
def cE (S:aG) (n:aI):aG:={ S with X:={ S.X with last:=n.id,used:=S.X.used+n.data.length },O:=ay S.O (fq n) (fun _=>oC n),idx:=ins n.id (oe n) S.idx }
def kV (ns:List aI) (e:jh):Th:=oe (nd ns (tgt ns e.id))
def kr (ns:List aI) (S:aG) (n:aI) (e:jh):aG:={ S with X:={ S.X with ah:=S.X.ah+1 },O:=nX S.O (fq n) e.name (kV ns e) }
def rO (ns:List aI):Nat->Nat
  | 0=>0
  | k+1=>rO ns k+(nd ns k).data.length
def ET (ns:List aI):Used Th:=ns.map (fun n=>(n.id,oe n))
structure lE (X:FM) (ns:List aI) (k:Nat) (S:aG):Prop where
  inv:Inv0 S
  idx:S.idx=ET (ns.take k)
  us:S.us=[]
  av:S.av=0
  cap:S.X={ X with last:=kT ns k,ah:=0,used:=(rO ns k:Int) }
  ob:∀ a,a < k->obj S.O (fq (nd ns a))=oC (nd ns a)
  free:∀ x,(∀ a,a < k->x≠fq (nd ns a))->obj S.O x=DP
section base
variable {X:FM} {ns:List aI} {i j k a b:Nat} {S:aG}
theorem wR (h:bQ ns) (hk:k < ns.length):(fq (nd ns k):Int)=(nd ns k).id:=by
  have:=h.ids k hk
  unfold fq;omega
theorem qZ (h:bQ ns) (ha:a < ns.length) (hb:b < ns.length) (e:fq (nd ns a)=fq (nd ns b)):a=b:=
  h.rise.inj ha hb (by rw [← wR h ha,← wR h hb,e])
theorem AP (hk:k < ns.length):ns[k]?=some (nd ns k):=getD_some hk
theorem OC (hk:k < ns.length):ns.take (k+1)=ns.take k++[nd ns k]:=by
  rw [List.take_add_one,AP hk];rfl
theorem Kk (hX:jk X):lE X ns 0 (gI X):=by
  refine⟨?_,rfl,rfl,rfl,rfl,fun a h=>absurd h (Nat.not_lt_zero a),fun _ _=>rfl⟩
  have hn:∀ t,¬ Live ([]:Used Th) t:=fun t h=>by cases h
  exact⟨hX.cN,hX.cB,hX.cH,hX.now,by show (0:Int)<=0/\(0:Int)<=_;omega,.nil,Nat.zero_le _,fun _ _ e=>(by cases e),fun t h=>absurd h (hn t),fun t h=>absurd h (hn t),fun t h=>absurd h (hn t),fun t h=>absurd h (hn t),
    fun _ _=>⟨rfl,rfl⟩,fun _ _=>rfl,⟨rfl,by show (0:Int)<=8192;omega⟩,fun t h=>absurd h (hn t),fun t h=>absurd h (hn t),fun t h=>absurd h (hn t),.nil,fun x hx=>(by cases hx),(by show ((0:Nat):Int)<=X.cH;have:=hX.cH;omega),⟨Int.le_refl _,hX.cH.1⟩,fun _ _ e=>(by cases e),fun t h=>absurd h (hn t),fun t h=>absurd h (hn t),⟨fun _=>0,fun k d e=>(by cases e)⟩,⟨rfl,by show (0:Int)<=_;omega⟩⟩
theorem GX (h:bQ ns) (hk:k < ns.length):∀ x∈keys (ET (ns.take k)),x < (nd ns k).id:=by
  intro x hx
  obtain⟨p,hp,rfl⟩:=List.mem_map.1 hx
  obtain⟨n,hn,rfl⟩:=List.mem_map.1 hp
  obtain⟨a,ha,e⟩:=List.mem_iff_getElem.1 hn
  rw [List.length_take] at ha
  rw [List.getElem_take] at e
  have e2:nd ns a=n:=by
    have:=AP (ns:=ns) (k:=a) (by omega)
    rw [List.getElem?_eq_getElem (by omega),e] at this
    exact (Option.some.inj this).symm
  rw [← e2]
  exact h.rise a k (by omega) hk
theorem Dc (hd:∀ i,i < ns.length->(nd ns i).data.length<=1048576) (hk:k<=ns.length):rO ns k<=1048576 * k:=by
  induction k with
  | zero=>exact Nat.le_refl _
  | succ k ih=>
    have h1:=ih (by omega)
    have h2:=hd k hk
    show rO ns k+(nd ns k).data.length<=_
    omega
theorem wS (h:bQ ns) (hd:∀ i,i < ns.length->(nd ns i).data.length<=1048576) (hk:k < ns.length) (hB:lE X ns k S):lE X ns (k+1) (cE S (nd ns k)):=by
  have hs:=Dc hd (Nat.le_of_lt hk)
  have hn:=h.node k hk
  have hid:=wR h hk
  have Mg:=h.ids k hk
  have hu:S.X.used=(rO ns k:Int):=by rw [hB.cap]
  have hl:S.X.last=kT ns k:=by rw [hB.cap]
  have hlen:=h.len
  have hdk:=hd k hk
  have U6:S.idx.length=k:=by
    rw [hB.idx];unfold ET;rw [List.length_map,List.length_take];omega
  have h1:=hB.inv.newAt (k0:=fq (nd ns k)) (o:=oC (nd ns k)) (j5:=S.X.used+(nd ns k).data.length) (us':=S.us) (fT:=S.av) (by rw [hid,hl];exact h.last hk) (by rw [hid];exact Mg.2) ⟨rfl,by rw [hu];omega⟩ hid.symm
    (by have:=hn.kind;show (nd ns k).kind=1\/(nd ns k).kind=2\/(nd ns k).kind=3;omega) rfl rfl rfl rfl
    ⟨hn.mode,hn.uid,hn.gid,hn.time,fun e=>List.eq_nil_of_length_eq_zero (hn.data e),fun _=>rfl,hn.target⟩ (by omega)
    hB.inv.usr hB.inv.wD hB.inv.Am hB.inv.av (fun h t e=>⟨.inl (hB.inv.us h t e).1,(hB.inv.us h t e).2⟩) (fun _ _=>rfl) (by rw [hB.us];rfl)
  rw [hid] at h1
  refine⟨h1,?_,hB.us,hB.av,?_,fun a ha=>?_,fun x hx=>(show obj (ay S.O (fq (nd ns k)) fun _=>oC (nd ns k)) x=DP from (cD (hx k (Nat.lt_succ_self k))).trans (hB.free x fun a ha=>hx a (Nat.lt_succ_of_lt ha)))⟩
  ·show ins (nd ns k).id (oe (nd ns k)) S.idx=_
   rw [hB.idx,Lz (GX h hk),OC hk]
   unfold ET;rw [List.map_append];rfl
  ·show ({ S.X with last:=(nd ns k).id,used:=S.X.used+((nd ns k).data.length:Int) }:FM)=_
   rw [hu,hB.cap]
   show (⟨_,_,_,_,_,_,_,_⟩:FM)=⟨_,_,_,_,_,_,_,_⟩
   congr 1
  show obj (ay S.O (fq (nd ns k)) (fun _=>oC (nd ns k))) (fq (nd ns a))=_
  rcases Nat.lt_succ_iff_lt_or_eq.1 ha with e|e
  ·rw [cD (fun e2=>by have:=qZ h (by omega) hk e2;omega)]
   exact hB.ob a e
  subst e;exact bP
theorem lE.fresh (h:bQ ns) (hk:k < ns.length) (hB:lE X ns k S):sM S.O S.idx S.us (fq (nd ns k)):=hB.inv.Cc (by rw [wR h hk,hB.cap];exact h.last hk)
theorem lE.new (h:bQ ns) (hk:k < ns.length) (hB:lE X ns k S):aB.get S.idx (nd ns k).id=none:=get_none.2 (fun hm=>by
  rw [hB.idx] at hm
  exact absurd (GX h hk _ hm) (by omega))
theorem zB (X:FM) (L:HL):(∀ k,bM (gI X).O L k=cA.none)/\(∀ k,bN (gI X).O L k=cA.none)/\∀ k,cG (gI X).O L k=cA.none:=⟨fun _=>if_pos rfl,fun _=>if_neg (by show ¬ (0:Int)=1;omega),fun _=>if_neg (by show ¬ (0:Int)=2;omega)⟩
theorem Sat.Ry {β:Bs} {l l':List HP} {w:World} {i j b m c:Nat} {ix:List Nat} {O:bY} {L L':HL} {A:Option Addr} {o:aT} (h:Sat β l w) (hL:L'=L.put k b m A c) (hp:l[i]?=some (.abs (ax (bN O L)))) (hq:l[j]?=some (.abs (aE 5 1 A o.data.length c (bX o.data)))) (hd:bG (i::j::ix)=true) (hl:bV l ix=some l') (h1:o.kind=1):Sat β (.abs (ax (bN (ay O k (fun _=>o)) L'))::l') w:=by
  refine h.pz hp hq (fun _ _ h=>h) hd hl k (fun x hx=>by rw [wj hx,xR hL hx]) ?_
  rw [rC (by rw [bP];exact h1),bP]
  subst hL
  simp only [HL.put,if_true]
end base
theorem OD {O:bY} {L:HL} {d:Nat} {name:ByteArray} {t:Th}:bN (nX O d name t) L=bN O L:=
  rG (fun _=>zh (g:=aT.data) (fun _ _=>rfl) (fun _ _=>rfl) (fun _ _=>rfl)) (fun _=>wm)
def og (ns:List aI) (i j a:Nat):Nat:=if a < i then (nd ns a).ah.length else if a=i then j else 0
def rP (ns:List aI) (a m:Nat):fk Th:=((nd ns a).ah.take m).map (fun e=>(e.name,kV ns e))
structure fL (X:FM) (ns:List aI) (i j:Nat) (S:aG):Prop where
  inv:Inv0 S
  idx:S.idx=ET ns
  us:S.us=[]
  av:S.av=0
  cap:S.X={ X with last:=kT ns ns.length,ah:=((eT ns i+j:Nat):Int),used:=(rO ns ns.length:Int) }
  ob:∀ a,a < ns.length->∃ l u,obj S.O (fq (nd ns a))={ oC (nd ns a) with links:=l,ah:=rP ns a (og ns i j a),up:=u }
  free:∀ x,(∀ a,a < ns.length->x≠fq (nd ns a))->obj S.O x=DP
section ah
variable {X:FM} {ns:List aI} {i j k a b m:Nat} {S:aG} {t:Th}
theorem lE.ah (h:lE X ns ns.length S):fL X ns 0 0 S:=by
  refine⟨h.inv,by rw [h.idx,List.take_of_length_le (Nat.le_refl _)],h.us,h.av,h.cap,fun a ha=>⟨0,none,?_⟩,h.free⟩
  rw [h.ob a ha]
  have:og ns 0 0 a=0:=by
    unfold og;rw [if_neg (Nat.not_lt_zero a)];split<;>rfl
  rw [this];rfl
theorem fL.get (h:fL X ns i j S) (ha:a < ns.length):aB.get S.idx (nd ns a).id=some (oe (nd ns a)):=by
  refine nJ h.inv.rise ?_
  rw [h.idx]
  exact List.mem_map.2 ⟨nd ns a,List.mem_of_getElem? (AP ha),rfl⟩
theorem fL.live (hG:bQ ns) (h:fL X ns i j S) (ha:a < ns.length):Live S.idx (oe (nd ns a)):=by
  have:=h.get ha
  rw [← wR hG ha] at this
  exact this
theorem fL.of (h:fL X ns i j S) {x:Int} (e:aB.get S.idx x=some t):∃ a,a < ns.length/\t=oe (nd ns a):=by
  have hm:=get_mem e
  rw [h.idx] at hm
  obtain⟨n,hn,e2⟩:=List.mem_map.1 hm
  obtain⟨a,ha,e3⟩:=List.mem_iff_getElem.1 hn
  have e4:nd ns a=n:=by
    have:=AP ha
    rw [List.getElem?_eq_getElem ha,e3] at this
    exact (Option.some.inj this).symm
  cases e2
  exact⟨a,ha,by rw [e4]⟩
theorem Kl {es:List jh} {q:Nat} (hq:q < es.length):es[q]?=some (en es q):=getD_some hq
theorem vg {e:ByteArray×Th} (h:e∈rP ns a m):∃ q,q < m/\q < (nd ns a).ah.length/\e.1=(ent ns a q).name/\e.2=kV ns (ent ns a q):=by
  obtain⟨x,hx,rfl⟩:=List.mem_map.1 h
  obtain⟨q,hq,e⟩:=List.mem_iff_getElem.1 hx
  rw [List.length_take] at hq
  rw [List.getElem_take] at e
  have e2:ent ns a q=x:=by
    have:=Kl (es:=(nd ns a).ah) (q:=q) (by omega)
    rw [List.getElem?_eq_getElem (by omega),e] at this
    exact (Option.some.inj this).symm
  exact⟨q,by omega,by omega,by rw [e2],by rw [e2]⟩
theorem Km (hj:j < (nd ns i).ah.length):rP ns i (j+1)=rP ns i j++[((ent ns i j).name,kV ns (ent ns i j))]:=by
  unfold rP
  rw [List.take_add_one,Kl hj,List.map_append];rfl
theorem Cm (hG:bQ ns) (hi:i < ns.length) {q:Nat}:∀ {j},q < j->j < (nd ns i).ah.length->ng (ent ns i q).name (ent ns i j).name < 0
  | 0,h,_=>absurd h (Nat.not_lt_zero q)
  | j+1,h,hj=>by
    have h1:=rH.1 (hG.ah i hi (j+1) hj).ord
    have h1:ng (ent ns i j).name (ent ns i (j+1)).name < 0:=h1
    rcases Nat.lt_succ_iff_lt_or_eq.1 h with e|e
    ·exact zT (Cm hG hi e (by omega)) (Int.le_of_lt h1)
    rw [e];exact h1
theorem Mh (hG:bQ ns) (hi:i < ns.length) (hj:j < (nd ns i).ah.length):aU (ent ns i j).name (rP ns i j)=none:=by
  refine uK.2 (fun e he e1=>?_)
  obtain⟨q,h1,h2,h3,_⟩:=vg he
  have:=Cm hG hi h1 hj
  rw [← h3,e1] at this
  have h4:=CP (ent ns i j).name
  omega
theorem Dd {n:ByteArray}:∀ {es:fk Th},(∀ e∈es,ng e.1 n < 0)->gD n t es=es++[(n,t)]
  | [],_=>rfl
  | e::r,h=>by
    have h1:=h e (List.mem_cons_self ..)
    unfold gD
    rw [if_neg (fun hc=>by have:=rH.1 hc;have:=vT e.1 n;omega),Dd (fun x hx=>h x (List.mem_cons_of_mem _ hx))];rfl
theorem Mi (hG:bQ ns) (hi:i < ns.length) (hj:j < (nd ns i).ah.length):gD (ent ns i j).name (kV ns (ent ns i j)) (rP ns i j)=rP ns i (j+1):=by
  rw [Km hj]
  refine Dd (fun e he=>?_)
  obtain⟨q,h1,_,h3,_⟩:=vg he
  rw [h3]
  exact Cm hG hi h1 hj
theorem uf (hG:bQ ns) (hi:i < ns.length) (hj:j < (nd ns i).ah.length):tgt ns (ent ns i j).id < ns.length/\(nd ns (tgt ns (ent ns i j).id)).id=(ent ns i j).id:=by
  have:=mO (hG.ah i hi j hj).at_
  exact⟨this.1,this.2.1⟩
theorem Cn {O:bY} {d x:Nat} {name:ByteArray} (h:t.k≠d):obj (nX O d name t) x=if x=d then { obj O d with ah:=gD name t (obj O d).ah } else if x=t.k then { obj O x with links:=(obj O x).links+1,up:=if t.kind=2 then some d else (obj O x).up } else obj O x:=by
  have key:∀ O2:bY,O2=ay (ay O d (fun o=>{ o with ah:=gD name t o.ah })) t.k (fun o=>{ o with links:=o.links+1 })->obj (if t.kind=2 then ay O2 t.k (fun o=>{ o with up:=some d }) else O2) x=if x=d then { obj O d with ah:=gD name t (obj O d).ah } else if x=t.k then { obj O x with links:=(obj O x).links+1,up:=if t.kind=2 then some d else (obj O x).up } else obj O x:=by
    intro O2 e
    by_cases hk:t.kind=2
    ·rw [if_pos hk,if_pos hk,jT,e,jT,jT]
     by_cases e1:x=d
     ·subst e1;rw [if_neg (fun e=>h e.symm),if_neg (fun e=>h e.symm),if_pos rfl,if_pos rfl]
     by_cases e2:x=t.k
     ·rw [if_pos e2,if_pos e2,if_neg e1,if_neg e1,if_pos e2]
     rw [if_neg e2,if_neg e2,if_neg e1,if_neg e1,if_neg e2]
    rw [if_neg hk,if_neg hk,e,jT,jT]
    by_cases e1:x=d
    ·subst e1;rw [if_neg (fun e=>h e.symm),if_pos rfl,if_pos rfl]
    by_cases e2:x=t.k
    ·rw [if_pos e2,if_neg e1,if_neg e1,if_pos e2]
    rw [if_neg e2,if_neg e1,if_neg e1,if_neg e2]
  exact key _ rfl
theorem fL.Tx (hG:bQ ns) (h:fL X ns i j S) {d:Nat} (hd:Live S.idx ⟨d,2⟩) {n:ByteArray} (ha:a < ns.length) (hk:(nd ns a).kind=2) (hl:aU n (obj S.O d).ah=some (oe (nd ns a))):∃ b q,b < ns.length/\d=fq (nd ns b)/\Cl ns b q/\tgt ns (ent ns b q).id=a:=by
  obtain⟨b,hb,e⟩:=h.of hd
  have e:(⟨d,2⟩:Th)=⟨fq (nd ns b),(nd ns b).kind⟩:=e
  have e1:d=fq (nd ns b):=congrArg Th.k e
  subst e1
  obtain⟨l,u,ho⟩:=h.ob b hb
  have hm:=lH hl
  rw [ho] at hm
  obtain⟨q,h1,h2,_,h4⟩:=vg hm
  have ht:=uf hG hb h2
  have h5:fq (nd ns a)=fq (nd ns (tgt ns (ent ns b q).id)):=congrArg Th.k h4
  have h6:=qZ hG ha ht.1 h5
  exact⟨b,q,hb,rfl,⟨hb,h2,by rw [← h6];exact hk⟩,h6.symm⟩
theorem fL.below (hG:bQ ns) (h:fL X ns i j S) {dp:Nat->Nat} (hdp:GW ns dp) {s k:Nat} (hb:jA S.O s k):∀ {a b},a < ns.length->k=fq (nd ns a)->b < ns.length->s=fq (nd ns b)->dp b<=dp a:=by
  induction hb with
  | here=>
    intro a b ha e1 hb e2
    have:=qZ hG ha hb (by rw [← e1,← e2])
    rw [this];exact Nat.le_refl _
  | up hup _ ih=>
    intro a b ha e1 hb e2
    subst e1
    have hlv:=h.live hG ha
    obtain⟨h1,h2,n,h3⟩:=(h.inv.up _ hlv _).1 hup
    obtain⟨c,q,hc,e3,hD,e4⟩:=h.Tx hG h2 ha h1 h3
    have h5:=hdp c q hD
    rw [e4] at h5
    have:=ih hc e3 hb e2
    omega
theorem fL.links (hG:bQ ns) (h:fL X ns i j S) (hi:i < ns.length) (hj:j < (nd ns i).ah.length) (hk:(kV ns (ent ns i j)).kind=2):(obj S.O (kV ns (ent ns i j)).k).links=0:=by
  have ht:=uf hG hi hj
  have hlv:Live S.idx (kV ns (ent ns i j)):=h.live hG ht.1
  rw [h.inv.links _ hlv]
  cases hz:iM S.idx S.O (kV ns (ent ns i j)).k with
  | zero=>rfl
  | succ z=>
    exfalso
    obtain⟨x,u,hu,e,he,e1⟩:=Ap h.inv.rise (show 0 < iM S.idx S.O (kV ns (ent ns i j)).k by omega)
    obtain⟨b,hb,rfl⟩:=h.of hu
    obtain⟨l,u,ho⟩:=h.ob b hb
    have he:e∈(obj S.O (fq (nd ns b))).ah:=he
    rw [ho] at he
    obtain⟨q,h1,h2,_,h4⟩:=vg he
    have ht2:=uf hG hb h2
    have h5:fq (nd ns (tgt ns (ent ns b q).id))=fq (nd ns (tgt ns (ent ns i j).id)):=by
      rw [h4] at e1;exact e1
    have h6:=qZ hG ht2.1 ht.1 h5
    obtain⟨rfl,rfl⟩:=hG.uniq b q i j ⟨hb,h2,by rw [h6];exact hk⟩ ⟨hi,hj,hk⟩ hb hi h6
    unfold og at h1
    rw [if_neg (Nat.lt_irrefl _),if_pos rfl] at h1
    omega
theorem fL.look (hG:bQ ns) (h:fL X ns i j S) (hi:i < ns.length) (hj:j < (nd ns i).ah.length):(obj S.O (fq (nd ns i))).ah=rP ns i j/\aU (ent ns i j).name (obj S.O (fq (nd ns i))).ah=none/\(nd ns i).kind=2:=by
  obtain⟨l,u,ho⟩:=h.ob i hi
  have e1:(obj S.O (fq (nd ns i))).ah=rP ns i j:=by
    rw [ho]
    show rP ns i (og ns i j i)=_
    unfold og;rw [if_neg (Nat.lt_irrefl _),if_pos rfl]
  refine⟨e1,by rw [e1];exact Mh hG hi hj,?_⟩
  cases Decidable.em ((nd ns i).kind=2) with
  | inl h=>exact h
  | inr h=>have:=(hG.node i hi).ah h;omega
theorem fL.gone (h:fL X ns i j S) (ha:a < ns.length):(obj S.O (fq (nd ns a))).gone=false:=by
  obtain⟨l,u,ho⟩:=h.ob a ha
  rw [ho];rfl
theorem fL.ne (hG:bQ ns) (hi:i < ns.length) (hj:j < (nd ns i).ah.length) (hk:(nd ns i).kind=2):(kV ns (ent ns i j)).k≠fq (nd ns i):=fun e=>by
  have ht:=uf hG hi hj
  have h1:=qZ hG ht.1 hi e
  obtain⟨dp,hdp⟩:=hG.deep
  have:=hdp i j ⟨hi,hj,by rw [h1];exact hk⟩
  rw [h1] at this
  exact Nat.lt_irrefl _ this
theorem fL.step (hG:bQ ns) (h:fL X ns i j S) (hi:i < ns.length) (hj:j < (nd ns i).ah.length):fL X ns i (j+1) (kr ns S (nd ns i) (ent ns i j)):=by
  obtain⟨l1,l2,l3⟩:=h.look hG hi hj
  have ht:=uf hG hi hj
  have hne:=fL.ne hG hi hj l3
  have hld:Live S.idx ⟨fq (nd ns i),2⟩:=by
    have:=h.live hG hi
    unfold oe at this
    rw [l3] at this
    exact this
  have hlt:Live S.idx (kV ns (ent ns i j)):=h.live hG ht.1
  have hX:S.X.ah=((eT ns i+j:Nat):Int):=by rw [h.cap]
  have hsum:eT ns i+j < 8192:=by
    have h1:eT ns (i+1)<=eT ns ns.length:=tB hi
    have h2:eT ns (i+1)=eT ns i+(nd ns i).ah.length:=rfl
    have h3:=hG.sum
    omega
  have h1:=h.inv.put (O':=nX S.O (fq (nd ns i)) (ent ns i j).name (kV ns (ent ns i j))) (ta:=(obj S.O (fq (nd ns i))).sec) (tb:=(obj S.O (fq (nd ns i))).nano) hld (h.gone hi) l2 (hG.ah i hi j hj).good hlt (h.gone ht.1) (fun hk=>⟨h.links hG hi hj hk,fun hb=>by
      obtain⟨dp,hdp⟩:=hG.deep
      have h2:=h.below hG hdp hb hi rfl ht.1 rfl
      have h3:=hdp i j ⟨hi,hj,hk⟩
      omega⟩) hne (by rw [hX];omega) (h.inv.mt _ hld).time (fun x=>Cn hne)
  refine⟨h1,h.idx,h.us,h.av,?_,fun a ha=>?_,fun x hx=>(Cn hne).trans (by rw [if_neg (hx i hi),if_neg (show ¬ x=(kV ns (ent ns i j)).k from hx _ ht.1)];exact h.free x hx)⟩
  ·show ({ S.X with ah:=S.X.ah+1 }:FM)=_
   rw [hX,h.cap]
   show (⟨_,_,_,_,_,_,_,_⟩:FM)=⟨_,_,_,_,_,_,_,_⟩
   congr 1
  obtain⟨l,u,ho⟩:=h.ob a ha
  show ∃ l u,obj (nX S.O (fq (nd ns i)) (ent ns i j).name (kV ns (ent ns i j))) (fq (nd ns a))=_
  rw [Cn hne]
  by_cases e:a=i
  ·subst e
   refine⟨l,u,?_⟩
   rw [if_pos rfl,l1,Mi hG hi hj,ho]
   have hc:og ns a (j+1) a=j+1:=by unfold og;rw [if_neg (Nat.lt_irrefl _),if_pos rfl]
   rw [hc]
  have hc:og ns i (j+1) a=og ns i j a:=by
    unfold og;rw [if_neg e,if_neg e]
  rw [if_neg (fun e2=>e (qZ hG ha hi e2)),hc]
  split
  ·rw [ho];exact⟨_,_,rfl⟩
  exact⟨l,u,ho⟩
theorem fL.next (h:fL X ns i (nd ns i).ah.length S):fL X ns (i+1) 0 S:=by
  refine⟨h.inv,h.idx,h.us,h.av,h.cap,fun a ha=>?_,h.free⟩
  obtain⟨l,u,ho⟩:=h.ob a ha
  refine⟨l,u,?_⟩
  rw [ho]
  have:og ns (i+1) 0 a=og ns i (nd ns i).ah.length a:=by
    unfold og
    by_cases e:a=i
    ·subst e;rw [if_pos (by omega),if_neg (by omega),if_pos rfl]
    by_cases e2:a < i
    ·rw [if_pos (by omega),if_pos e2]
    rw [if_neg (by omega),if_neg e2,if_neg e];split<;>rfl
  rw [this]
theorem fL.full (h:fL X ns i j S):Inv S:=by
  refine⟨h.inv,fun t ht hg=>?_⟩
  obtain⟨a,ha,rfl⟩:=h.of ht
  have:(obj S.O (fq (nd ns a))).gone=true:=hg
  rw [h.gone ha] at this
  cases this
end ah
end
section
open Go.RowKit Go.Maps bL aB
noncomputable def cX (X:FM) (ns:List aI) (root:Int):Int:=
  open Classical in
  if jk X then if bQ ns then
    match ns.find? (fun n=>decide (n.id=root)) with
    | none=>141
    | some n=>if n.kind=2 then 0 else 173
  else 140 else 179
def rQ (ns:List aI) (root:Int) (i:Nat):Prop:=i < ns.length/\(nd ns i).id=root/\∀ q,q < i->(nd ns q).id≠root
section n
variable {X:FM} {ns:List aI} {root:Int} {i:Nat}
theorem Mj (ns:List aI) (root:Int):(∃ i,rQ ns root i)\/∀ q,q < ns.length->(nd ns q).id≠root:=by
  have key:∀ n,n<=ns.length->(∃ i,rQ ns root i)\/∀ q,q < n->(nd ns q).id≠root:=fun n=>by
    induction n with
    | zero=>exact fun _=>.inr fun q h=>absurd h (Nat.not_lt_zero q)
    | succ n ih=>
      intro h
      rcases ih (by omega) with h1|h1
      ·exact .inl h1
      by_cases e:(nd ns n).id=root
      ·exact .inl ⟨n,by omega,e,h1⟩
      exact .inr fun q hq=>(Nat.lt_succ_iff_lt_or_eq.1 hq).elim (h1 q) (fun e2=>e2 ▸ e)
  exact key _ (Nat.le_refl _)
theorem AQ (h:rQ ns root i):ns.find? (fun n=>decide (n.id=root))=some (nd ns i):=by
  obtain⟨h1,h2,h3⟩:=h
  rw [List.find?_eq_some_iff_getElem]
  have e:=getD_some (x:=default) h1
  have e2:ns[i]=nd ns i:=by rw [List.getElem?_eq_getElem h1] at e;exact Option.some.inj e
  refine⟨by simpa using h2,i,h1,e2,fun j hj=>?_⟩
  have e3:ns[j]=nd ns j:=by
    have:=getD_some (x:=default) (show j < ns.length by omega)
    rw [List.getElem?_eq_getElem (by omega)] at this;exact Option.some.inj this
  rw [e3]
  simpa using h3 j hj
theorem Kn (h:∀ q,q < ns.length->(nd ns q).id≠root):ns.find? (fun n=>decide (n.id=root))=none:=by
  rw [List.find?_eq_none]
  intro n hn
  obtain⟨q,hq,e⟩:=List.mem_iff_getElem.1 hn
  have e3:ns[q]=nd ns q:=by
    have:=getD_some (x:=default) hq
    rw [List.getElem?_eq_getElem hq] at this;exact Option.some.inj this
  rw [← e,e3]
  simpa using h q hq
theorem AR (h:¬ jk X):cX X ns root=179:=if_neg h
theorem wT (h:jk X) (h2:¬ bQ ns):cX X ns root=140:=(if_pos h).trans (if_neg h2)
theorem yG (h:jk X) (h2:bQ ns) (h3:∀ q,q < ns.length->(nd ns q).id≠root):cX X ns root=141:=(if_pos h).trans ((if_pos h2).trans (by rw [Kn h3]))
theorem AU (h:jk X) (h2:bQ ns) (h3:rQ ns root i) (h4:(nd ns i).kind=2):cX X ns root=0:=(if_pos h).trans ((if_pos h2).trans (by rw [AQ h3];exact if_pos h4))
theorem AV (h:jk X) (h2:bQ ns) (h3:rQ ns root i) (h4:¬ (nd ns i).kind=2):cX X ns root=173:=(if_pos h).trans ((if_pos h2).trans (by rw [AQ h3];exact if_neg h4))
theorem Df (h:cX X ns root=0):jk X/\bQ ns:=by
  by_cases h1:jk X
  ·by_cases h2:bQ ns
   ·exact⟨h1,h2⟩
   rw [wT h1 h2] at h;exact absurd h (by decide)
  rw [AR h1] at h;exact absurd h (by decide)
end n
end
section
open Go.RowKit Go.Maps bL aB
attribute [local irreducible] aj aP af ai
noncomputable abbrev rR (b:Nat) (root):=(.blk b [vI (root)] 3:HP)
theorem Mk {β:Bs} (b:Nat) (root z:Int) (v1 v2 v3 v4 v5 v6 v7 v8 v9:Value) :
    Spec Tryz.prog β 82 #[.agg #[vI (z),v1,v2,v3,v4,v5,v6,v7,v8,v9],vP b] [rR b root] (fun v l=>v=.bool (decide (z=root))/\l=[rR b root]):=by
 refine Spec.enter Tryz.func82 rfl Tryz.ntmps82 (Nat.le_of_ble_eq_true rfl) (fun R=>?_)
 refine SR (gN 2 (fun b1=>[(2,vP b1)]) (fun _=>[]) (fun _=>[]) (fun b1=>.blk b1 [vI (z),v1,v2,v3,v4,v5,v6,v7,v8,v9] 70) (fun b1=>?_))
 refine NS (gK 5 [(3,.bool (decide ((z:Int)=(root:Int))))] [(1,a_ 2 b1),(2,a_ 0 b)] ?_)
 refine NN (af.ret ?_)
 exact RT (.bool (decide ((z:Int)=(root:Int)))) [0,1] (⟨rfl,rfl⟩)
theorem EU {β:Bs} (A:Option Addr) (c:Nat) (ns:List aI) (Y:Lay) (hG:au β A ns Y) (hl:ns.length<=1048576) (b:Nat) (root:Int) :
    Spec Tryz.prog β 81 #[.slice A (ns.length) (c),.func (.func 82) #[] #[vP b]] [rR b root] (fun v l=>(∃ i:Nat,rQ ns root i/\v=vI (i:Int)/\l=[rR b root])\/((∀ q,q < ns.length->(nd ns q).id≠root)/\v=vI (-1)/\l=[rR b root])):=by
 refine Spec.enter Tryz.func81 rfl Tryz.ntmps81 (Nat.le_of_ble_eq_true rfl) (fun R=>?_)
 refine SR (gK 1 [] [] ?_)
 refine NN (af.seq (SR (gK 3 [(7,vI ↑ns.length),(8,vI 0)] [] ?_)))
 refine NN (af.block ?_)
 refine af.loop (ι:=Nat) (fun (i:Nat)=>(i<=ns.length)/\(∀ q,q < i->(nd ns q).id≠root)) (fun (i:Nat)=>ns.length - i) (fun (i:Nat)=>[(0,.slice A (ns.length) (c)),(1,.func (.func 82) #[] #[vP b]),(7,vI ↑ns.length),(8,vI ↑i)]) (fun (i:Nat)=>[rR b root,.abs R]) 0 (idx:=[0,1,7,8]) (pk:=[0,1]) (show (0<=ns.length)/\(∀ q,q < 0->(nd ns q).id≠root) from ⟨Nat.zero_le _,fun q h=>absurd h (Nat.not_lt_zero q)⟩) (fun _=>by kernel_rfl) rfl (by kernel_rfl) ?_
 rintro i ⟨hi,hlt⟩
 show af _ _ _ _ [(0,.slice A (ns.length) (c)),(1,.func (.func 82) #[] #[vP b]),(7,vI ↑ns.length),(8,vI ↑i)] [rR b root,.abs R] _
 refine SR (gK 1 [(9,.bool (decide ((((i:Nat):Int):Int) < (((ns.length:Nat):Int):Int))))] [] ?_)
 refine NN (af.seq (af.bg (p:=(((i:Nat):Int):Int) < (((ns.length:Nat):Int):Int)) (fun _=>by kernel_rfl) (fun h9=>?_) (fun h9=>?_)))
 ·refine af.skip (NX (af.seq (af.block (SR ?_))))
  refine gK 2 [(5,vI ↑i)] [] ?_
  refine NS (gK 5 [(11,.func (.func 82) #[] #[vP b]),(15,.agg #[vI ((nd ns i).id),vI ((nd ns i).kind),vI ((nd ns i).mode),vI ((nd ns i).uid),vI ((nd ns i).gid),vI ((nd ns i).sec),vI ((nd ns i).nano),.slice (Y.dA i) ((nd ns i).data.length) ((Y.dC i)),.string (nd ns i).target,.slice (Y.eA i) ((nd ns i).ah.length) ((Y.eC i))])] [(3,p_ ⟨[],some i,none,some ⟨(ar A),aq A,none⟩,none⟩ [((i:Nat):Int)=((i:Nat):Int),i < ns.length,(⟨(ar A),aq A,none⟩:Addr).spot=none,(A:Option Addr)=some ⟨(ar A),aq A,none⟩] ⟨rfl,by omega,rfl,au.hd hG (i:=i) (by omega),trivial⟩),(4,p_ ⟨[.old (.int .i64 ((nd ns i).id)),.old (.int .i64 ((nd ns i).kind)),.old (.int .i64 ((nd ns i).mode)),.old (.int .i64 ((nd ns i).uid)),.old (.int .i64 ((nd ns i).gid)),.old (.int .i64 ((nd ns i).sec)),.old (.int .i64 ((nd ns i).nano)),.old (.slice (Y.dA i) ((nd ns i).data.length) ((Y.dC i))),.old (.string (nd ns i).target),.old (.slice (Y.eA i) ((nd ns i).ah.length) ((Y.eC i)))],none,none,none,none⟩ [(Rd β ⟨(ar A),aq A+i * 10+9,none⟩ (.slice (Y.eA i) ((nd ns i).ah.length) ((Y.eC i)))),(Rd β ⟨(ar A),aq A+i * 10+8,none⟩ (.string (nd ns i).target)),(Rd β ⟨(ar A),aq A+i * 10+7,none⟩ (.slice (Y.dA i) ((nd ns i).data.length) ((Y.dC i)))),(Rd β ⟨(ar A),aq A+i * 10+6,none⟩ (.int .i64 ((nd ns i).nano))),(Rd β ⟨(ar A),aq A+i * 10+5,none⟩ (.int .i64 ((nd ns i).sec))),(Rd β ⟨(ar A),aq A+i * 10+4,none⟩ (.int .i64 ((nd ns i).gid))),(Rd β ⟨(ar A),aq A+i * 10+3,none⟩ (.int .i64 ((nd ns i).uid))),(Rd β ⟨(ar A),aq A+i * 10+2,none⟩ (.int .i64 ((nd ns i).mode))),(Rd β ⟨(ar A),aq A+i * 10+1,none⟩ (.int .i64 ((nd ns i).kind))),(Rd β ⟨(ar A),aq A+i * 10,none⟩ (.int .i64 ((nd ns i).id)))] ⟨au.rd hG (i:=i) (by omega) (j:=9) rfl,au.rd hG (i:=i) (by omega) (j:=8) rfl,au.rd hG (i:=i) (by omega) (j:=7) rfl,au.rd hG (i:=i) (by omega) (j:=6) rfl,au.rd hG (i:=i) (by omega) (j:=5) rfl,au.rd hG (i:=i) (by omega) (j:=4) rfl,au.rd hG (i:=i) (by omega) (j:=3) rfl,au.rd hG (i:=i) (by omega) (j:=2) rfl,au.rd hG (i:=i) (by omega) (j:=1) rfl,au.rd hG (i:=i) (by omega) (j:=0) rfl,trivial⟩)] ?_)
  refine gL [0] (Mk b root ((nd ns i).id) (.int .i64 ((nd ns i).kind)) (.int .i64 ((nd ns i).mode)) (.int .i64 ((nd ns i).uid)) (.int .i64 ((nd ns i).gid)) (.int .i64 ((nd ns i).sec)) (.int .i64 ((nd ns i).nano)) (.slice (Y.dA i) ((nd ns i).data.length) ((Y.dC i))) (.string (nd ns i).target) (.slice (Y.eA i) ((nd ns i).ah.length) ((Y.eC i)))) ?_
  rintro _ _ ⟨rfl,rfl⟩
  refine NN (af.bg (p:=(nd ns i).id=root) (fun _=>by kernel_rfl) (fun tU=>?_) (fun tU=>?_))
  ·refine SR (gK 2 [(4,vI ↑i)] [] ?_)
   refine NN (af.ret (ai.aF (ai.ak (ai.ak (ai.aF (ai.ak ?_))))))
   exact RT (vI ↑i) [0,1] (.inl ⟨i,⟨by omega,tU,hlt⟩,rfl,rfl⟩)
  refine af.skip (ai.aJ (NX (af.region ?_)))
  refine gK 2 [(8,vI ↑(i+1))] [(0,p_ ⟨[],none,none,none,some (vI ↑(i+1))⟩ [(Value.int .i64 (IntKind.wrap .i64 (((i:Nat):Int)+1)))=(.int .i64 ↑(i+1))] ⟨bw (by omega) (by omega) (by omega),trivial⟩)] ?_
  refine NL ?_
  exact ai.turn ((i+1)) (idx:=[0,1,7,8]) (pk:=[0,1]) (show (((i+1))<=ns.length)/\(∀ q,q < ((i+1))->(nd ns q).id≠root) from ⟨by omega,fun q hq=>(Nat.lt_succ_iff_lt_or_eq.1 hq).elim (hlt q) (fun e=>e ▸ tU)⟩) (by show ns.length - ((i+1)) < ns.length - i;omega) (fun _=>by kernel_rfl) rfl (by kernel_rfl)
 refine af.exit (ai.aX (ai.aX (ai.cV (NX (SR ?_)))))
 refine gK 1 [(4,vI (-1))] [] ?_
 refine NN (af.ret ?_)
 exact RT (vI (-1)) [0,1] (.inr ⟨fun q hq=>hlt q (by omega),rfl,rfl⟩)
theorem Qd {β:Bs} (b:Nat) :
    Spec Tryz.prog β 83 #[.iface 42 (vP b)] [] (fun v l=>v=.agg #[.iface 42 (vP b)]/\l=[]):=by
 refine Spec.enter Tryz.func83 rfl Tryz.ntmps83 (Nat.le_of_ble_eq_true rfl) (fun R=>?_)
 refine SR (gN 1 (fun b2=>[(2,vP b2)]) (fun _=>[]) (fun _=>[]) (fun b2=>.blk b2 [.nilIface] 90) (fun b2=>?_))
 refine NS (gC 3 [] [(2,a_ 1 b2)] [(1,[(0,.iface 42 (vP b))])] ?_)
 refine NN (af.ret ?_)
 exact ai.ret (v:=.agg #[.iface 42 (vP b)]) (l:=[]) (bF:=[b2=b2]) [.at 1] [0] (fun _=>by kernel_rfl) ⟨rfl,trivial⟩ rfl (by kernel_rfl) (⟨rfl,rfl⟩)
end
section
open Go.RowKit
section
variable {O:bY} {k:Nat} {kd:Int}
theorem qh (L:HL) (h:(obj O k).kind=kd) (h0:kd≠0:=by decide):∀ F w,(ax (bM O L)).h F w->w.cell? ⟨L.b k,0,none⟩=some (.int .i64 (obj O k).id):=dY (by rw [h];exact h0) rfl
theorem rS (L:HL) (h:(obj O k).kind=kd) (h0:kd≠0:=by decide):∀ F w,(ax (bM O L)).h F w->w.cell? ⟨L.b k,1,none⟩=some (.int .i64 (obj O k).mode):=dY (by rw [h];exact h0) rfl
theorem x6 (L:HL) (h:(obj O k).kind=kd) (h0:kd≠0:=by decide):∀ F w,(ax (bM O L)).h F w->w.cell? ⟨L.b k,2,none⟩=some (.int .i64 (obj O k).uid):=dY (by rw [h];exact h0) rfl
theorem x7 (L:HL) (h:(obj O k).kind=kd) (h0:kd≠0:=by decide):∀ F w,(ax (bM O L)).h F w->w.cell? ⟨L.b k,3,none⟩=some (.int .i64 (obj O k).gid):=dY (by rw [h];exact h0) rfl
theorem mE (L:HL) (h:(obj O k).kind=kd) (h0:kd≠0:=by decide):∀ F w,(ax (bM O L)).h F w->w.cell? ⟨L.b k,6,none⟩=some (.int .i64 (obj O k).links):=dY (by rw [h];exact h0) rfl
theorem jI (L:HL) (h:(obj O k).kind=kd) (h0:kd≠0:=by decide):∀ F w,(ax (bM O L)).h F w->w.cell? ⟨L.b k,7,none⟩=some (.int .i64 (obj O k).opens):=dY (by rw [h];exact h0) rfl
theorem mT (L:HL) (h:(obj O k).kind=kd) (h0:kd≠0:=by decide):∀ F w,(ax (bM O L)).h F w->w.cell? ⟨L.b k,8,none⟩=some (.bool (obj O k).gone):=dY (by rw [h];exact h0) rfl
theorem EV (L:HL) (h:(obj O k).kind=1):∀ F w,(ax (bM O L)).h F w->w.cell? ⟨L.b k,9,none⟩=some (.slice (L.dA k) (obj O k).data.length (L.dC k)):=dY (by rw [h];decide) (by rw [gM h];rfl)
theorem bC (L:HL) (h:(obj O k).kind=2):∀ F w,(ax (bM O L)).h F w->w.cell? ⟨L.b k,9,none⟩=some (.map (some (L.m k))):=dY (by rw [h];decide) (by rw [kK h];rfl)
theorem Ty (L:HL) (h:(obj O k).kind=2):∀ F w,(ax (bM O L)).h F w->w.cell? ⟨L.b k,10,none⟩=some (tO L (obj O k).up):=dY (by rw [h];decide) (by rw [kK h];rfl)
theorem Rz (L:HL) (h:(obj O k).kind=3):∀ F w,(ax (bM O L)).h F w->w.cell? ⟨L.b k,9,none⟩=some (.string (obj O k).target):=dY (by rw [h];decide) (by rw [wk h];rfl)
end
end
section
open Go.RowKit Go.Maps
theorem ax.step {R R':Nat->cA} {k:Nat} {F:Fp} {w w':World} (hF:(ax R).h F w) (hR:∀ x,x≠k->R' x=R x) (hs:∀ G,(R k).h G w->∃ G',(R' k).h G' w'/\Step G w G' w'):∃ F',(ax R').h F' w'/\Step F w F' w':=by
  obtain⟨φ,h1,h2,h3⟩:=hF
  obtain⟨G',g1,st⟩:=hs _ (h1 k)
  have hap:∀ i,i≠k->∀ x,G' x->φ i x->False:=fun i hne x hx hy=>by
    rcases st.grow x hx with e|e
    ·exact h2 i k hne x hy e
    have:=(R i).lt (h1 i) x hy;omega
  refine⟨fun x=>∃ i,(if i=k then G' else φ i) x,⟨fun i=>if i=k then G' else φ i,fun i=>?_,fun i j hne x hx hy=>?_,fun x=>Iff.rfl⟩,⟨st.keeps.mono (fun x _ hx=>(h3 x).2 ⟨k,hx⟩),fun x ⟨i,hx⟩=>?_⟩⟩
  ·by_cases e:i=k
   ·subst e;simp only [if_true];exact g1
   simp only [e,if_false]
   rw [hR i e]
   exact (R i).st (h1 i) st.keeps (fun x hx hk=>h2 i k e x hx hk)
  ·by_cases e1:i=k
   ·have e2:j≠k:=fun e=>hne (e1.trans e.symm)
    simp only [e1,if_true] at hx
    simp only [e2,if_false] at hy
    exact hap j e2 x hx hy
   simp only [e1,if_false] at hx
   by_cases e2:j=k
   ·simp only [e2,if_true] at hy
    exact hap i e1 x hy hx
   simp only [e2,if_false] at hy
   exact h2 i j hne x hx hy
  by_cases e:i=k
  ·simp only [e,if_true] at hx
   rcases st.grow x hx with h|h
   ·exact .inl ((h3 x).2 ⟨k,h⟩)
   exact .inr h
  simp only [e,if_false] at hx
  exact .inl ((h3 x).2 ⟨i,hx⟩)
def Co (O:bY) (L:HL):Nat->HP
  | 0=>.abs (ax (bM O L))
  | 1=>.abs (ax (cG O L))
  | _=>.abs (ax (bN O L))
def oZ (O:bY) (L:HL):List (Nat×Nat)->List (Nat×HP)
  | []=>[]
  | q::r=>(q.1,Co O L q.2)::oZ O L r
def sQ (hps:List HP) (O:bY) (L:HL):List (Nat×Nat)->Prop
  | []=>True
  | q::r=>hps[q.1]?=some (Co O L q.2)/\sQ hps O L r
theorem ug {hps:List HP} {O O2:bY} {L:HL} {p:Nat} (he:∀ q,q≠p->Co O2 L q=Co O L q):∀ {js:List (Nat×Nat)},sQ hps O L js->jM p (js.map (·.2))=false->mh hps (oZ O2 L js)=hps
  | [],_,_=>rfl
  | q::r,h,hn=>by
    have hq:q.2≠p:=fun e=>by
      rw [show jM p ((q::r).map (·.2))=true from jc.2 (by simp [e])] at hn;cases hn
    have hr:jM p (r.map (·.2))=false:=by
      cases hb:jM p (r.map (·.2)) with
      | false=>rfl
      | true=>rw [show jM p ((q::r).map (·.2))=true from jc.2 (List.mem_cons_of_mem _ (jc.1 hb))] at hn;cases hn
    show mh (hps.set q.1 (Co O2 L q.2)) (oZ O2 L r)=hps
    have e:hps.set q.1 (Co O2 L q.2)=hps:=by
      rw [he _ hq]
      refine List.ext_getElem? (fun n=>?_)
      rw [List.getElem?_set]
      split
      ·rename_i e;subst e
       rw [h.1];split
       ·rfl
       rename_i hlt;exact absurd (bE h.1) hlt
      rfl
    rw [e]
    exact ug he h.2 hr
def AX (P:Program) (N:Nat) (junk:Nat->Value) (ops:Array Oper) (fr:Fr) (k:Nat):Option (Addr×Value):=
  match fw N junk ops fr k with
  | some (.store T a y,_)=>match (P.info? T).map (·.size) with
    | some 1=>match dG N fr junk a with
      | .pointer (some ad)=>some (ad,dG N fr junk y)
      | _=>none
    | _=>none
  | _=>none
def AY (N:Nat) (junk:Nat->Value) (ops:Array Oper) (fr:Fr) (k:Nat):Option (TypeId×Nat×Value):=
  match fw N junk ops fr k with
  | some (.lookup t x ix false,_)=>match dG N fr junk x with
    | .map (some b)=>some (t,b,dG N fr junk ix)
    | _=>none
  | _=>none
def setAt (N:Nat) (junk:Nat->Value) (ops:Array Oper) (fr:Fr) (k:Nat):Option (TypeId×Nat×Value×Value):=
  match fw N junk ops fr k with
  | some (.mapUpdate t x ix y,_)=>match dG N fr junk x with
    | .map (some b)=>some (t,b,dG N fr junk ix,dG N fr junk y)
    | _=>none
  | _=>none
def IE (N:Nat) (junk:Nat->Value) (ops:Array Oper) (fr:Fr) (k:Nat):Option (TypeId×TypeId×Nat×Value):=
  match fw N junk ops fr k with
  | some (.call ⟨.builtin .delete,xs,ts⟩,_)=>match xs.toList with
    | [x,ix]=>match ts.toList with
      | [t,K]=>match dG N fr junk x with
        | .map (some b)=>some (t,K,b,dG N fr junk ix)
        | _=>none
      | _=>none
    | _=>none
  | _=>none
def EW (L:HL):Option Th->Value
  | none=>.nilIface
  | some t=>dJ L t
section rules
variable {β:Bs} {N:Nat} {ops:Array Oper} {k x:Nat} {fr:Fr} {hps:List HP} {Q:Post} {O:bY} {L:HL} {name:ByteArray} {r:Option Th} {t:Th}
theorem uh {junk:Nat->Value} {op:Op} {d:Option Tmp} (h:fw N junk ops fr k=some (op,d)):d=iP ops k:=by
  obtain⟨o,h1,_,_,h4⟩:=dU h
  unfold iP
  rw [h1,← h4]
theorem EX {P:Program} {junk:Nat->Value} {ad:Addr} {u:Value} (h:AX P N junk ops fr k=some (ad,u)):∃ T a y,fw N junk ops fr k=some (.store T a y,iP ops k)/\(P.info? T).map (·.size)=some 1/\dG N fr junk a=.pointer (some ad)/\dG N fr junk y=u:=by
  unfold AX at h
  repeat' split at h
  all_goals first|(cases h;done)|skip
  rename_i T a y d h0 _ h1 _ Ux h2
  cases h
  have:=uh h0
  subst this
  exact⟨T,a,y,h0,h1,h2,rfl⟩
theorem nN {junk:Nat->Value} {T:TypeId} {b:Nat} {key:Value} (h:AY N junk ops fr k=some (T,b,key)):∃ a y,fw N junk ops fr k=some (.lookup T a y false,iP ops k)/\dG N fr junk a=.map (some b)/\dG N fr junk y=key:=by
  unfold AY at h
  repeat' split at h
  all_goals first|(cases h;done)|skip
  rename_i T' a y d h0 _ b' h1
  cases h
  have:=uh h0
  subst this
  exact⟨a,y,h0,h1,rfl⟩
theorem Ml {junk:Nat->Value} {T:TypeId} {b:Nat} {key u:Value} (h:setAt N junk ops fr k=some (T,b,key,u)):∃ a y z,fw N junk ops fr k=some (.mapUpdate T a y z,iP ops k)/\dG N fr junk a=.map (some b)/\dG N fr junk y=key/\dG N fr junk z=u:=by
  unfold setAt at h
  repeat' split at h
  all_goals first|(cases h;done)|skip
  rename_i T' a y z d h0 _ b' h1
  cases h
  have:=uh h0
  subst this
  exact⟨a,y,z,h0,h1,rfl,rfl⟩
theorem Kp {P:Program} {T:TypeId} {a y:Operand} {o:Oper} {ev:Operand->Value} {w:World} {ad:Addr} {u v0:Value} (ho:o.op=.store T a y) (hT:(P.info? T).map (·.size)=some 1) (ha:ev a=.pointer (some ad)) (hy:ev y=u) (hu:u.oneCell'=true) (hc:w.cell? ad=some v0) (hf:w.frozen? ad=false) (hs:ad.spot=none):nB P ev o w undef (w.setCell ad u):=by
  obtain⟨inf,hi,hsz⟩:∃ inf,P.info? T=some inf/\inf.size=1:=by
    cases h:P.info? T with
    | none=>rw [h] at hT;cases hT
    | some inf=>rw [h] at hT;exact⟨inf,rfl,by simpa using hT⟩
  have h3:=nC hi w
  rw [hsz] at h3
  obtain⟨dst,op,type,pos,after,guard⟩:=o
  obtain⟨bk,off,spot⟩:=ad
  simp only at hs
  subst hs
  cases ho
  refine .inr ⟨rfl,?_⟩
  cases u<;>first
    | (simp [Value.oneCell'] at hu;done)
    | (simp only [execOp,ha,hy];simp [go_sem,Instr.storeAt,Instr.sureAddr,storeVar,h3,Value.cells,storeCells,store,Addr.add,Sem.run,hc,hf])
theorem R7 (i:Nat) (js:List (Nat×Nat)) (x j:Nat) (f:aT->aT) (u:Value) {kd:Int} (hk:(obj O x).kind=kd)
    (K:∀ O2,O2=ay O x f->aj Tryz.prog β N ops (k+1) (dM fr (iP ops k) undef) ((mh hps (oZ O2 L js)).set i (.abs (ax (bM O2 L)))) Q)
    (hp:hps[i]?=some (.abs (ax (bM O L)))) (hj:sQ hps O L js)
    (ho:∀ junk,AX Tryz.prog N junk ops fr k=some (⟨L.b x,j,none⟩,u))
    (hn:jM 0 (js.map (·.2))=false) (h0:kd≠0) (hc:fX L x (f (obj O x))=(fX L x (obj O x)).set j u) (hu:u.oneCell'=true) (h9:j < (fX L x (obj O x)).length)
    (he:(f (obj O x)).ah=(obj O x).ah) (hd:(f (obj O x)).data=(obj O x).data) (A6:(f (obj O x)).kind=(obj O x).kind):aj Tryz.prog β N ops k fr hps Q:=by
  obtain⟨T,a,y,h1,h2,h3,h4⟩:=EX (ho (fun _=>undef))
  intro junk w hS
  obtain⟨T,a,y,h1,h2,h3,h4⟩:=EX (ho junk)
  obtain⟨o,g1,g2,g3,g4⟩:=dU h1
  have hx0:(obj O x).kind≠0:=by rw [hk];exact h0
  have EY:mh hps (oZ (ay O x f) L js)=hps:=ug (p:=0) (fun q hq=>by
    match q,hq with
    | 0,hq=>exact absurd rfl hq
    | 1,_=>exact congrArg (fun R=>HP.abs (ax R)) (mr he A6)
    | q+2,_=>exact congrArg (fun R=>HP.abs (ax R)) (mq hd A6)) hj hn
  have hcell:∃ v0,(fX L x (obj O x))[j]?=some v0:=jm h9
  obtain⟨v0,hv0⟩:=hcell
  obtain⟨F,hF⟩:=hS.get hp
  obtain⟨G,hG⟩:=ax.at x hF
  have R8:=hG
  rw [kJ hx0] at R8
  obtain⟨hb,_⟩:=R8
  obtain⟨c1,c2⟩:=gq (a:=⟨L.b x,j,none⟩) hb rfl rfl hv0
  have qt:Sat β (hps.set i (.abs (ax (bM (ay O x f) L)))) (w.setCell ⟨L.b x,j,none⟩ (u)):=hS.set hp (fun F hF=>ax.step (k:=x) (show (ax (bM O L)).h F w from hF) (fun y hy=>tQ hy) (fun G hG=>by
    rw [kJ hx0] at hG
    rw [tP,if_neg (by rw [A6];exact hx0),hc,A6]
    exact q6 hG rfl rfl))
  rw [drop_cons g1]
  unfold wpList
  rw [eZ,if_pos g2]
  refine .inl (jK (v:=undef) (w':=w.setCell ⟨L.b x,j,none⟩ (u)) (by rw [eH];exact Kp g3 h2 h3 h4 hu c1 c2 rfl) ?_)
  rw [eF]
  have hK:=K _ rfl junk _ (by rw [EY];exact qt)
  rw [← g4] at hK
  exact hK
theorem rT (i:Nat) (js:List (Nat×Nat)) (x j:Nat) (f:aT->aT) {kd:Int} (hk:(obj O x).kind=kd)
    (K:∀ O2,O2=ay O x f->aj Tryz.prog β N ops (k+1) (dM fr (iP ops k) undef) ((mh hps (oZ O2 L js)).set i (.abs (ax (bM O2 L)))) Q)
    (hp:hps[i]?=some (.abs (ax (bM O L))):=by rfl) (hj:sQ hps O L js:=by first|exact⟨rfl,trivial⟩|exact⟨rfl,rfl,trivial⟩|exact trivial)
    (ho:∀ junk,AX Tryz.prog N junk ops fr k=some (⟨L.b x,j,none⟩,(xJ (f (obj O x))).getD j undef):=by intro _;kernel_rfl)
    (hn:jM 0 (js.map (·.2))=false:=by rfl) (h0:kd≠0:=by decide) (hc:fX L x (f (obj O x))=(fX L x (obj O x)).set j ((xJ (f (obj O x))).getD j undef):=by rfl) (hu:((xJ (f (obj O x))).getD j undef).oneCell'=true:=by rfl) (h9:Nat.blt j 9=true:=by rfl)
    (he:(f (obj O x)).ah=(obj O x).ah:=by rfl) (hd:(f (obj O x)).data=(obj O x).data:=by rfl) (A6:(f (obj O x)).kind=(obj O x).kind:=by rfl):aj Tryz.prog β N ops k fr hps Q:=
  R7 i js x j f _ hk K hp hj ho hn h0 hc hu (Nat.lt_of_lt_of_le (show j < 9 by simpa [Nat.blt_eq] using h9) (by unfold fX xJ;simp)) he hd A6
theorem R9 (i:Nat) (js:List (Nat×Nat)) (x:Nat) (y:Option Nat) (hk:(obj O x).kind=2)
    (K:∀ O2,O2=ay O x (fun o=>{ o with up:=y })->aj Tryz.prog β N ops (k+1) (dM fr (iP ops k) undef) ((mh hps (oZ O2 L js)).set i (.abs (ax (bM O2 L)))) Q)
    (hp:hps[i]?=some (.abs (ax (bM O L))):=by rfl) (hj:sQ hps O L js:=by first|exact⟨rfl,trivial⟩|exact⟨rfl,rfl,trivial⟩|exact trivial)
    (ho:∀ junk,AX Tryz.prog N junk ops fr k=some (⟨L.b x,10,none⟩,tO L y):=by intro _;kernel_rfl) (hn:jM 0 (js.map (·.2))=false:=by rfl):aj Tryz.prog β N ops k fr hps Q:=
  R7 i js x 10 (fun o=>{ o with up:=y }) (tO L y) hk K hp hj ho hn (by decide) (by rw [kK (show ({ obj O x with up:=y }:aT).kind=2 from hk),kK hk];rfl) (by cases y<;>rfl) (by rw [kK hk];exact Nat.lt_succ_self 10) rfl rfl rfl
theorem Sat.Nv {w:World} {i j:Nat} {f:aT->aT} {u:Value} (hS:Sat β hps w) (hp:hps[i]?=some (.abs (ax (bM O L)))) (hx0:(obj O x).kind≠0) (hc:fX L x (f (obj O x))=(fX L x (obj O x)).set j u) (A6:(f (obj O x)).kind=(obj O x).kind) (h9:j < (fX L x (obj O x)).length) :
    Sat β (hps.set i (.abs (ax (bM (ay O x f) L)))) (w.setCell ⟨L.b x,j,none⟩ u)/\(∃ v0,w.cell? ⟨L.b x,j,none⟩=some v0)/\w.frozen? ⟨L.b x,j,none⟩=false:=by
  obtain⟨v0,hv0⟩:=jm h9
  obtain⟨F,hF⟩:=hS.get hp
  obtain⟨G,hG⟩:=ax.at x (show (ax (bM O L)).h F w from hF)
  rw [kJ hx0] at hG
  obtain⟨c1,c2⟩:=gq (a:=⟨L.b x,j,none⟩) hG.1 rfl rfl hv0
  refine⟨hS.set hp (fun F hF=>ax.step (k:=x) (show (ax (bM O L)).h F w from hF) (fun y hy=>tQ hy) (fun G hG=>?_)),⟨v0,c1⟩,c2⟩
  rw [kJ hx0] at hG
  rw [tP,if_neg (by rw [A6];exact hx0),hc,A6]
  exact q6 hG rfl rfl
def EZ (P:Program) (N:Nat) (junk:Nat->Value) (ops:Array Oper) (fr:Fr) (k:Nat):Option (Addr×Value):=
  match fw N junk ops fr k with
  | some (.store T a y,_)=>match (P.info? T).map (·.size) with
    | some 2=>match dG N fr junk a with
      | .pointer (some ad)=>some (ad,dG N fr junk y)
      | _=>none
    | _=>none
  | _=>none
theorem Kq {P:Program} {junk:Nat->Value} {ad:Addr} {u:Value} (h:EZ P N junk ops fr k=some (ad,u)):∃ T a y,fw N junk ops fr k=some (.store T a y,iP ops k)/\(P.info? T).map (·.size)=some 2/\dG N fr junk a=.pointer (some ad)/\dG N fr junk y=u:=by
  unfold EZ at h
  repeat' split at h
  all_goals first|(cases h;done)|skip
  rename_i T a y d h0 _ h1 _ Ux h2
  cases h
  have:=uh h0
  subst this
  exact⟨T,a,y,h0,h1,h2,rfl⟩
theorem IG {P:Program} {T:TypeId} {a y:Operand} {o:Oper} {ev:Operand->Value} {w:World} {b j:Nat} {z1 z2:Int} {v0 v1:Value} (ho:o.op=.store T a y) (hT:(P.info? T).map (·.size)=some 2) (ha:ev a=.pointer (some ⟨b,j,none⟩)) (hy:ev y=.agg #[.int .i64 z1,.int .i64 z2])
    (hc:w.cell? ⟨b,j,none⟩=some v0) (hf:w.frozen? ⟨b,j,none⟩=false) (hc1:(w.setCell ⟨b,j,none⟩ (.int .i64 z1)).cell? ⟨b,j+1,none⟩=some v1) (hf1:(w.setCell ⟨b,j,none⟩ (.int .i64 z1)).frozen? ⟨b,j+1,none⟩=false) :
    nB P ev o w undef ((w.setCell ⟨b,j,none⟩ (.int .i64 z1)).setCell ⟨b,j+1,none⟩ (.int .i64 z2)):=by
  obtain⟨inf,hi,hsz⟩:∃ inf,P.info? T=some inf/\inf.size=2:=by
    cases h:P.info? T with
    | none=>rw [h] at hT;cases hT
    | some inf=>rw [h] at hT;exact⟨inf,rfl,by simpa using hT⟩
  have h3:=nC hi w
  rw [hsz] at h3
  obtain⟨dst,op,type,pos,after,guard⟩:=o
  cases ho
  refine .inr ⟨rfl,?_⟩
  simp only [execOp,ha,hy]
  simp [go_sem,Instr.storeAt,Instr.sureAddr,storeVar,h3,Value.cells,storeCells,store,Addr.add,Sem.run,hc,hf,hc1,hf1]
theorem Kr (i:Nat) (js:List (Nat×Nat)) (x:Nat) (z1 z2:Int) {kd:Int} (hk:(obj O x).kind=kd)
    (K:∀ O2,O2=ay O x (fun o=>{ o with sec:=z1,nano:=z2 })->aj Tryz.prog β N ops (k+1) (dM fr (iP ops k) undef) ((mh hps (oZ O2 L js)).set i (.abs (ax (bM O2 L)))) Q)
    (hp:hps[i]?=some (.abs (ax (bM O L))):=by rfl) (hj:sQ hps O L js:=by first|exact⟨rfl,trivial⟩|exact⟨rfl,rfl,trivial⟩|exact trivial)
    (ho:∀ junk,EZ Tryz.prog N junk ops fr k=some (⟨L.b x,4,none⟩,.agg #[.int .i64 z1,.int .i64 z2]):=by intro _;kernel_rfl)
    (hn:jM 0 (js.map (·.2))=false:=by rfl) (h0:kd≠0:=by decide):aj Tryz.prog β N ops k fr hps Q:=by
  intro junk w hS
  obtain⟨T,a,y,h1,h2,h3,h4⟩:=Kq (ho junk)
  obtain⟨o,g1,g2,g3,g4⟩:=dU h1
  have hx0:(obj O x).kind≠0:=by rw [hk];exact h0
  have EY:mh hps (oZ (ay O x (fun o=>{ o with sec:=z1,nano:=z2 })) L js)=hps:=ug (p:=0) (fun q hq=>by
    match q,hq with
    | 0,hq=>exact absurd rfl hq
    | 1,_=>exact congrArg (fun R=>HP.abs (ax R)) (mr rfl rfl)
    | q+2,_=>exact congrArg (fun R=>HP.abs (ax R)) (mq rfl rfl)) hj hn
  have hlen:∀ o:aT,9<=(fX L x o).length:=fun o=>by unfold fX xJ;simp
  obtain⟨s1,⟨v0,c1⟩,f1⟩:=hS.Nv (x:=x) (j:=4) (f:=fun o=>{ o with sec:=z1 }) (u:=.int .i64 z1) hp hx0 rfl rfl (by have:=hlen (obj O x);omega)
  have hi:i < hps.length:=bE hp
  have e1:obj (ay O x (fun o=>{ o with sec:=z1 })) x={ obj O x with sec:=z1 }:=bP
  obtain⟨s2,⟨v1,c2⟩,f2⟩:=s1.Nv (x:=x) (j:=5) (f:=fun o=>{ o with nano:=z2 }) (u:=.int .i64 z2) (i:=i) (O:=ay O x (fun o=>{ o with sec:=z1 })) (by rw [List.getElem?_set,if_pos rfl,if_pos hi]) (by rw [e1];exact hx0) rfl rfl (by have:=hlen (obj (ay O x (fun o=>{ o with sec:=z1 })) x);omega)
  rw [List.set_set,sF] at s2
  rw [drop_cons g1]
  unfold wpList
  rw [eZ,if_pos g2]
  refine .inl (jK (v:=undef) (w':=_) (by rw [eH];exact IG g3 h2 h3 h4 c1 f1 c2 f2) ?_)
  rw [eF]
  have hK:=K _ rfl junk _ (by rw [EY];exact s2)
  rw [← g4] at hK
  exact hK
theorem x9 {w:World} {i:Nat} (hS:Sat β hps w) (hp:hps[i]?=some (.abs (ax (cG O L)))) (hd:(obj O x).kind=2):fA Tryz.prog 9 w (L.m x) (iE L (obj O x).ah) (obj O x).ah.length:=by
  obtain⟨F,hF⟩:=hS.get hp
  obtain⟨G,hG⟩:=ax.at x (show (ax (cG O L)).h F w from hF)
  rw [nG hd] at hG
  exact hG.1
theorem GY {w:World} {i:Nat} {o:Oper} {ev:Operand->Value} {a y:Operand} (hS:Sat β hps w) (hp:hps[i]?=some (.abs (ax (cG O L)))) (hd:(obj O x).kind=2) (hl:aU name (obj O x).ah=r) (h3:o.op=.lookup 136 a y false) (ha:ev a=.map (some (L.m x))) (hy:ev y=.string name) (hsz:name.size<=1048576):nB Tryz.prog ev o w (EW L r) w:=by
  have h:=uy (z:=.nilIface) h3 (x9 hS hp hd) ha hy ze Tryz.underlying136 (by kernel_rfl) (BQ (by omega))
  rw [qU,hl] at h
  cases r<;>exact h
theorem iu (i:Nat) (hd:(obj O x).kind=2) (hl:aU name (obj O x).ah=r) (K:aj Tryz.prog β N ops (k+1) (dM fr (iP ops k) (EW L r)) hps Q) (hp:hps[i]?=some (.abs (ax (cG O L))):=by rfl)
    (ho:∀ junk,AY N junk ops fr k=some (136,L.m x,.string name):=by intro _;kernel_rfl) (hsz:name.size<=1048576:=by omega):aj Tryz.prog β N ops k fr hps Q:=by
  intro junk w hS
  obtain⟨a,y,h1,h2,h3⟩:=nN (ho junk)
  exact aj.jf (cL:=hps) (v:=EW L r) (d:=iP ops k) (op:=.lookup 136 a y false) (fun j=>by
    obtain⟨a',y',h1',_,_⟩:=nN (ho j)
    obtain⟨o,g1,g2,g3,g4⟩:=dU h1
    obtain⟨o',qc,Kt,rU,Ku⟩:=dU h1'
    rw [g1] at qc
    cases qc
    rw [g3] at rU
    cases rU
    exact h1') (fun o junk w ho' hS=>by
    obtain⟨a',y',h1',h2',h3'⟩:=nN (ho junk)
    obtain⟨o1,g1,g2,g3,g4⟩:=dU h1
    obtain⟨o',qc,Kt,rU,Ku⟩:=dU h1'
    rw [g1] at qc
    cases qc
    rw [g3] at rU
    cases rU
    exact⟨w,GY hS hp hd hl ho' h2' h3' hsz,hS⟩) K junk w hS
theorem qv (i:Nat) (hd:(obj O x).kind=2) (hl:aU name (obj O x).ah=r) (K:aP Tryz.prog β N ops (k+1) (dM fr (iP ops k) (EW L r)) hps Q) (hp:hps[i]?=some (.abs (ax (cG O L))):=by rfl)
    (ho:∀ junk,AY N junk ops fr k=some (136,L.m x,.string name):=by intro _;kernel_rfl) (hsz:name.size<=1048576:=by omega):aP Tryz.prog β N ops k fr hps Q:=by
  intro junk
  obtain⟨a,y,h1,h2,h3⟩:=nN (ho junk)
  exact aP.jf (v:=EW L r) (d:=iP ops k) (op:=.lookup 136 a y false) (fun j=>by
    obtain⟨a',y',h1',_,_⟩:=nN (ho j)
    obtain⟨o,g1,g2,g3,g4⟩:=dU h1
    obtain⟨o',qc,Kt,rU,Ku⟩:=dU h1'
    rw [g1] at qc
    cases qc
    rw [g3] at rU
    cases rU
    exact h1') (fun o junk w ho' hS=>by
    obtain⟨a',y',h1',h2',h3'⟩:=nN (ho junk)
    obtain⟨o1,g1,g2,g3,g4⟩:=dU h1
    obtain⟨o',qc,Kt,rU,Ku⟩:=dU h1'
    rw [g1] at qc
    cases qc
    rw [g3] at rU
    cases rU
    exact GY hS hp hd hl ho' h2' h3' hsz) K junk
def II (N:Nat) (junk:Nat->Value) (ops:Array Oper) (fr:Fr) (k:Nat):Option (TypeId×Nat):=
  match fw N junk ops fr k with
  | some (.call ⟨.builtin .len,xs,ts⟩,_)=>match xs.toList with
    | [x]=>match ts.toList with
      | [t]=>match dG N fr junk x with
        | .map (some b)=>some (t,b)
        | _=>none
      | _=>none
    | _=>none
  | _=>none
theorem zC {junk:Nat->Value} {T:TypeId} {b:Nat} (h:II N junk ops fr k=some (T,b)):∃ a,fw N junk ops fr k=some (.call ⟨.builtin .len,#[a],#[T]⟩,iP ops k)/\dG N fr junk a=.map (some b):=by
  unfold II at h
  repeat' split at h
  all_goals first|(cases h;done)|skip
  rename_i xs ts d h0 _ a h1 _ t' h2 _ b' h3
  cases h
  have:=uh h0
  subst this
  refine⟨a,?_,h3⟩
  rw [h0]
  obtain⟨xs⟩:=xs
  obtain⟨ts⟩:=ts
  cases h1
  cases h2
  rfl
theorem Uy (i:Nat) (hd:(obj O x).kind=2) (K:aj Tryz.prog β N ops (k+1) (dM fr (iP ops k) (.int .i64 (((obj O x).ah.length:Nat):Int))) hps Q) (hp:hps[i]?=some (.abs (ax (cG O L))):=by rfl)
    (ho:∀ junk,II N junk ops fr k=some (136,L.m x):=by intro _;kernel_rfl):aj Tryz.prog β N ops k fr hps Q:=by
  obtain⟨a,h1,h2⟩:=zC (ho (fun _=>undef))
  obtain⟨o,g1,g2,g3,g4⟩:=dU h1
  refine aj.jf (cL:=hps) (v:=.int .i64 (((obj O x).ah.length:Nat):Int)) (d:=iP ops k) (op:=o.op) (fun j=>?_) (fun o' junk w ho' hS=>?_) K
  ·obtain⟨a',h1',_⟩:=zC (ho j)
   obtain⟨o',qc,Kt,rU,Ku⟩:=dU h1'
   rw [g1] at qc
   cases qc
   rw [rU]
   exact h1'
  obtain⟨a',h1',h2'⟩:=zC (ho junk)
  obtain⟨o1,qc,Kt,rU,Ku⟩:=dU h1'
  rw [g1] at qc
  cases qc
  exact⟨w,xE (ho'.trans rU) rfl (x9 hS hp hd) h2' Tryz.underlying136,hS⟩
theorem Qe (i:Nat) (js:List (Nat×Nat)) {t:Th} (hd:(obj O x).kind=2) (hno:aU name (obj O x).ah=none)
    (K:∀ O2,O2=ay O x (fun o=>{ o with ah:=gD name t o.ah })->aj Tryz.prog β N ops (k+1) (dM fr (iP ops k) undef) ((mh hps (oZ O2 L js)).set i (.abs (ax (cG O2 L)))) Q)
    (hp:hps[i]?=some (.abs (ax (cG O L))):=by rfl) (hj:sQ hps O L js:=by first|exact⟨rfl,trivial⟩|exact⟨rfl,rfl,trivial⟩|exact trivial)
    (ho:∀ junk,setAt N junk ops fr k=some (136,L.m x,.string name,dJ L t):=by intro _;kernel_rfl) (hn:jM 1 (js.map (·.2))=false:=by rfl) (hsz:name.size<=1048576:=by omega) (hel:(obj O x).ah.length<=1048576:=by omega):aj Tryz.prog β N ops k fr hps Q:=by
  intro junk w hS
  obtain⟨a,y,z,h1,h2,h3,h4⟩:=Ml (ho junk)
  obtain⟨o,g1,g2,g3,g4⟩:=dU h1
  have EY:mh hps (oZ (ay O x (fun o=>{ o with ah:=gD name t o.ah })) L js)=hps:=ug (p:=1) (fun q hq=>by
    match q,hq with
    | 0,_=>exact congrArg (fun R=>HP.abs (ax R)) (Em (es:=fun o=>gD name t o.ah))
    | 1,hq=>exact absurd rfl hq
    | q+2,_=>exact congrArg (fun R=>HP.abs (ax R)) (mq rfl rfl)) hj hn
  obtain⟨w',m1,m2,m3⟩:=(x9 hS hp hd).store ze Tryz.underlying136 (by unfold maxLen;omega) (BQ (p:=name) (by omega)) (dJ L t)
  have e1:(iE L (obj O x).ah) (.string name.data.toList)=none:=by rw [qU,hno];rfl
  rw [e1,Lm hno] at m2
  have qt:Sat β (hps.set i (.abs (ax (cG (ay O x (fun o=>{ o with ah:=gD name t o.ah })) L)))) w':=hS.set hp (fun F hF=>ax.step (k:=x) (show (ax (cG O L)).h F w from hF) (fun y hy=>wi hy) (fun G hG=>by
    rw [nG hd] at hG
    rw [nG (by rw [bP];exact hd),bP,El]
    exact step_map hG m2 m3))
  rw [drop_cons g1]
  unfold wpList
  rw [eZ,if_pos g2]
  refine .inl (jK (v:=undef) (w':=w') (by
    rw [eH]
    refine .inr ⟨rfl,?_⟩
    obtain⟨dst,op,type,pos,after,guard⟩:=o
    cases g3
    simp only [execOp,h2,h3,h4]
    simp [go_sem,m1]) ?_)
  rw [eF]
  have hK:=K _ rfl junk _ (by rw [EY];exact qt)
  rw [← g4] at hK
  exact hK
theorem Mn {junk:Nat->Value} {T K0:TypeId} {b:Nat} {key:Value} (h:IE N junk ops fr k=some (T,K0,b,key)):∃ a y,fw N junk ops fr k=some (.call ⟨.builtin .delete,#[a,y],#[T,K0]⟩,iP ops k)/\dG N fr junk a=.map (some b)/\dG N fr junk y=key:=by
  unfold IE at h
  repeat' split at h
  all_goals first|(cases h;done)|skip
  rename_i xs ts d h0 _ a y h1 _ t' K' h2 _ b' h3
  cases h
  have:=uh h0
  subst this
  refine⟨a,y,?_,h3,rfl⟩
  rw [h0]
  obtain⟨xs⟩:=xs
  obtain⟨ts⟩:=ts
  cases h1
  cases h2
  rfl
theorem Qf (i:Nat) (js:List (Nat×Nat)) {t:Th} (hd:(obj O x).kind=2) (vk:aU name (obj O x).ah=some t) (hnt:nF (obj O x).ah)
    (K:∀ O2,O2=ay O x (fun o=>{ o with ah:=fW name o.ah })->aj Tryz.prog β N ops (k+1) (dM fr (iP ops k) (.tuple #[])) ((mh hps (oZ O2 L js)).set i (.abs (ax (cG O2 L)))) Q)
    (hp:hps[i]?=some (.abs (ax (cG O L))):=by rfl) (hj:sQ hps O L js:=by first|exact⟨rfl,trivial⟩|exact⟨rfl,rfl,trivial⟩|exact trivial)
    (ho:∀ junk,IE N junk ops fr k=some (136,9,L.m x,.string name):=by intro _;kernel_rfl) (hn:jM 1 (js.map (·.2))=false:=by rfl) (hsz:name.size<=1048576:=by omega):aj Tryz.prog β N ops k fr hps Q:=by
  intro junk w hS
  obtain⟨a,y,h1,h2,h3⟩:=Mn (ho junk)
  obtain⟨o,g1,g2,g3,g4⟩:=dU h1
  have EY:mh hps (oZ (ay O x (fun o=>{ o with ah:=fW name o.ah })) L js)=hps:=ug (p:=1) (fun q hq=>by
    match q,hq with
    | 0,_=>exact congrArg (fun R=>HP.abs (ax R)) (Em (es:=fun o=>fW name o.ah))
    | 1,hq=>exact absurd rfl hq
    | q+2,_=>exact congrArg (fun R=>HP.abs (ax R)) (mq rfl rfl)) hj hn
  obtain⟨w',m1,m2,m3⟩:=(x9 hS hp hd).drop ze Tryz.underlying136 (BQ (p:=name) (by omega)) o.type
  have e1:(iE L (obj O x).ah) (.string name.data.toList)=some (dJ L t):=by rw [qU,vk];rfl
  rw [e1,Ln] at m2
  have hlen:=Lk hnt vk
  have qt:Sat β (hps.set i (.abs (ax (cG (ay O x (fun o=>{ o with ah:=fW name o.ah })) L)))) w':=hS.set hp (fun F hF=>ax.step (k:=x) (show (ax (cG O L)).h F w from hF) (fun y hy=>wi hy) (fun G hG=>by
    rw [nG hd] at hG
    rw [nG (by rw [bP];exact hd),bP]
    rw [show (fW name (obj O x).ah).length=(obj O x).ah.length - 1 by omega]
    exact step_map hG m2 m3))
  rw [drop_cons g1]
  unfold wpList
  rw [eZ,if_pos g2]
  refine .inl (jK (v:=.tuple #[]) (w':=w') (by
    rw [eH]
    refine .inl ?_
    obtain⟨dst,op,type,pos,after,guard⟩:=o
    cases g3
    simp only [execOp,resolve,invoke,builtin]
    simp [go_sem,h2,h3,m1]) ?_)
  rw [eF]
  have hK:=K _ rfl junk _ (by rw [EY];exact qt)
  rw [← g4] at hK
  exact hK
end rules
section after
variable {O O2:bY} {j x:Nat} {f:aT->aT} {kd:Int}
theorem ku (e:O2=ay O j f) (h:(obj O x).kind=kd) (hf:∀ o,(f o).kind=o.kind:=by intro _;rfl):(obj O2 x).kind=kd:=by subst e;exact (jw hf).trans h
theorem fu {α:Type} (g:aT->α) {v:α} (e:O2=ay O j f) (h:g (obj O x)=v) (hf:∀ o,g (f o)=g o:=by intro _;rfl):g (obj O2 x)=v:=by subst e;exact (dN hf).trans h
end after
end
section
open Go.RowKit Go.Maps
attribute [local irreducible] aj aP af ai
theorem dm {β:Bs} (b:Nat):Spec Tryz.prog β 251 #[vP b] [] (fun v l=>v=vP b/\l=[]):=by
 refine Spec.enter Tryz.func251 rfl Tryz.ntmps251 (Nat.le_of_ble_eq_true rfl) (fun R=>?_)
 refine SR (gK 1 [] [] ?_)
 refine NS (gK 2 [(2,vP b)] [] ?_)
 refine NN (af.ret ?_)
 exact RT (vP b) [0] (⟨rfl,rfl⟩)
theorem lS {β:Bs} (a:Value):Spec Tryz.prog β 250 #[a] [] (fun v l=>v=vI 1/\l=[]):=by
 refine Spec.enter Tryz.func250 rfl Tryz.ntmps250 (Nat.le_of_ble_eq_true rfl) (fun R=>?_)
 refine SR (gK 1 [] [] ?_)
 refine NS (gK 1 [(2,vI 1)] [] ?_)
 refine NN (af.ret ?_)
 exact RT (vI 1) [0] (⟨rfl,rfl⟩)
theorem lT {β:Bs} (a:Value):Spec Tryz.prog β 253 #[a] [] (fun v l=>v=vI 2/\l=[]):=by
 refine Spec.enter Tryz.func253 rfl Tryz.ntmps253 (Nat.le_of_ble_eq_true rfl) (fun R=>?_)
 refine SR (gK 1 [] [] ?_)
 refine NS (gK 1 [(2,vI 2)] [] ?_)
 refine NN (af.ret ?_)
 exact RT (vI 2) [0] (⟨rfl,rfl⟩)
theorem nj {β:Bs} (a:Value):Spec Tryz.prog β 252 #[a] [] (fun v l=>v=vI 3/\l=[]):=by
 refine Spec.enter Tryz.func252 rfl Tryz.ntmps252 (Nat.le_of_ble_eq_true rfl) (fun R=>?_)
 refine SR (gK 1 [] [] ?_)
 refine NS (gK 1 [(2,vI 3)] [] ?_)
 refine NN (af.ret ?_)
 exact RT (vI 3) [0] (⟨rfl,rfl⟩)
theorem GZ {β:Bs} (O:bY) (L:HL) (d:Nat) (hkd:(obj O d).kind=2) (name:ByteArray) (hsz:name.size<=1048576) (hno:aU name (obj O d).ah=none) (hel:(obj O d).ah.length<=1048576) (t:Th) (hkt:(obj O t.k).kind=t.kind) (h3:t.kind=1\/t.kind=2\/t.kind=3) (hb:0<=(obj O t.k).links/\(obj O t.k).links<=1048576) :
    Spec Tryz.prog β 63 #[vP (L.b d),.string name,(dJ L t)] [.abs (ax (bM O L)),.abs (ax (cG O L))] (fun v l=>v=.tuple #[]/\l=[.abs (ax (bM (nX O d name t) L)),.abs (ax (cG (nX O d name t) L))]):=by
 refine Spec.enter Tryz.func63 rfl Tryz.ntmps63 (Nat.le_of_ble_eq_true rfl) (fun R=>?_)
 refine af.seq ?_
 obtain⟨tk,kd⟩:=t;simp only at hkt h3;rcases h3 with rfl|rfl|rfl
 ·replace hkt:(obj O tk).kind=1:=hkt
  replace hb:0<=(obj O tk).links/\(obj O tk).links<=1048576:=hb
  refine af.region (gK 6 [(11,.map (some (L.m d))),(12,.string name),(13,.iface 129 (vP (L.b tk)))] [(3,v_ 0 (bC L hkd))] ?_)
  refine Qe 1 [(0,0)] (t:=⟨tk,1⟩) hkd hno (fun cF cq=>?_)
  have jG:=ku cq hkd
  have lU:=ku cq hkt
  have hf3:(obj cF tk).links=(obj O tk).links:=fu aT.links cq rfl
  refine NS (gK 1 [(14,.iface 129 (vP (L.b tk)))] [] ?_)
  refine gL [] (dm (L.b tk)) ?_
  rintro _ _ ⟨rfl,rfl⟩
  refine gK 6 [(19,vI ((obj cF tk).links+1)),(21,.pointer (some ⟨(L.b tk),6,none⟩))] [(2,v_ 0 (mE L lU)),(3,p_ ⟨[],none,none,none,some (vI ((obj cF tk).links+1))⟩ [(Value.int .i64 (IntKind.wrap .i64 ((obj cF tk).links+1)))=(.int .i64 ((obj cF tk).links+1))] ⟨bw (by omega) (by omega) (by omega),trivial⟩)] ?_
  refine rT 0 [(1,1)] tk 6 (fun o=>{ o with links:=o.links+1 }) lU (fun d6 dw=>?_)
  have wU:=ku dw jG
  have wV:=ku dw lU
  refine NS (gK 7 [(6,.pointer none),(7,.bool false)] [] ?_)
  refine NS (gK 1 [(27,.bool false)] [] ?_)
  refine NN (CF (af.skip ?_))
  exact RF (l:=[.abs (ax (bM d6 L)),.abs (ax (cG d6 L))]) (.tuple #[]) [0,1,2] (⟨rfl,by subst dw;subst cq;rfl⟩)
 ·replace hkt:(obj O tk).kind=2:=hkt
  replace hb:0<=(obj O tk).links/\(obj O tk).links<=1048576:=hb
  refine af.region (gK 6 [(11,.map (some (L.m d))),(12,.string name),(13,.iface 135 (vP (L.b tk)))] [(3,v_ 0 (bC L hkd))] ?_)
  refine Qe 1 [(0,0)] (t:=⟨tk,2⟩) hkd hno (fun cF cq=>?_)
  have Mp:=ku cq hkd
  have IJ:=ku cq hkt
  have VW:(obj cF tk).links=(obj O tk).links:=fu aT.links cq rfl
  refine NS (gK 1 [(14,.iface 135 (vP (L.b tk)))] [] ?_)
  refine gL [] (dm (L.b tk)) ?_
  rintro _ _ ⟨rfl,rfl⟩
  refine gK 6 [(19,vI ((obj cF tk).links+1)),(21,.pointer (some ⟨(L.b tk),6,none⟩))] [(2,v_ 0 (mE L IJ)),(3,p_ ⟨[],none,none,none,some (vI ((obj cF tk).links+1))⟩ [(Value.int .i64 (IntKind.wrap .i64 ((obj cF tk).links+1)))=(.int .i64 ((obj cF tk).links+1))] ⟨bw (by omega) (by omega) (by omega),trivial⟩)] ?_
  refine rT 0 [(1,1)] tk 6 (fun o=>{ o with links:=o.links+1 }) IJ (fun d6 dw=>?_)
  have Cp:=ku dw Mp
  have IK:=ku dw IJ
  refine NS (gK 7 [(6,vP (L.b tk)),(7,.bool true)] [] ?_)
  refine NS (gK 1 [(27,.bool true)] [] ?_)
  refine NN (CT (af.region (gK 4 [(29,vP (L.b d)),(31,.pointer (some ⟨(L.b tk),10,none⟩))] [] ?_)))
  refine R9 0 [(1,1)] tk (some d) IK (fun uj lf=>?_)
  have Nw:=ku lf Cp
  have U7:=ku lf IK
  refine NL ?_
  exact RF (l:=[.abs (ax (bM uj L)),.abs (ax (cG uj L))]) (.tuple #[]) [0,1,2] (⟨rfl,by subst lf;subst dw;subst cq;rfl⟩)
 replace hkt:(obj O tk).kind=3:=hkt
 replace hb:0<=(obj O tk).links/\(obj O tk).links<=1048576:=hb
 refine af.region (gK 6 [(11,.map (some (L.m d))),(12,.string name),(13,.iface 132 (vP (L.b tk)))] [(3,v_ 0 (bC L hkd))] ?_)
 refine Qe 1 [(0,0)] (t:=⟨tk,3⟩) hkd hno (fun cF cq=>?_)
 have RA:=ku cq hkd
 have IL:=ku cq hkt
 have Vn:(obj cF tk).links=(obj O tk).links:=fu aT.links cq rfl
 refine NS (gK 1 [(14,.iface 132 (vP (L.b tk)))] [] ?_)
 refine gL [] (dm (L.b tk)) ?_
 rintro _ _ ⟨rfl,rfl⟩
 refine gK 6 [(19,vI ((obj cF tk).links+1)),(21,.pointer (some ⟨(L.b tk),6,none⟩))] [(2,v_ 0 (mE L IL)),(3,p_ ⟨[],none,none,none,some (vI ((obj cF tk).links+1))⟩ [(Value.int .i64 (IntKind.wrap .i64 ((obj cF tk).links+1)))=(.int .i64 ((obj cF tk).links+1))] ⟨bw (by omega) (by omega) (by omega),trivial⟩)] ?_
 refine rT 0 [(1,1)] tk 6 (fun o=>{ o with links:=o.links+1 }) IL (fun d6 dw=>?_)
 have Bb:=ku dw RA
 have RB:=ku dw IL
 refine NS (gK 7 [(6,.pointer none),(7,.bool false)] [] ?_)
 refine NS (gK 1 [(27,.bool false)] [] ?_)
 refine NN (CF (af.skip ?_))
 exact RF (l:=[.abs (ax (bM d6 L)),.abs (ax (cG d6 L))]) (.tuple #[]) [0,1,2] (⟨rfl,by subst dw;subst cq;rfl⟩)
theorem iB {β:Bs} (X:FM) (f m t:Nat) (hX:0<=X.ah/\X.ah<=1048576/\-1125899906842624<=X.used/\X.used<=1125899906842624/\0<=X.last/\X.last<=1125899906842624) (O:bY) (L:HL) (d:Nat) (hkd:(obj O d).kind=2) (name:ByteArray) (hsz:name.size<=1048576) (hno:aU name (obj O d).ah=none) (hel:(obj O d).ah.length<=1048576) (th:Th) (hkt:(obj O th.k).kind=th.kind) (h3:th.kind=1\/th.kind=2\/th.kind=3) (hb:0<=(obj O th.k).links/\(obj O th.k).links<=1048576) :
    Spec Tryz.prog β 130 #[vP f,vP (L.b d),.string name,(dJ L th)] [.blk f [vI (X.cN),vI (X.cB),vI (X.cH),vI (X.cS),vI (X.cZ),.map (some m),vP t,vI (X.last),vI (X.ah),vI (X.used)] 126,.abs (ax (bM O L)),.abs (ax (cG O L))] (fun v l=>v=.tuple #[]/\l=[.blk f [vI (X.cN),vI (X.cB),vI (X.cH),vI (X.cS),vI (X.cZ),.map (some m),vP t,vI (X.last),vI (X.ah+1),vI (X.used)] 126,.abs (ax (bM (di X O d name th) L)),.abs (ax (cG (di X O d name th) L))]):=by
 refine Spec.enter Tryz.func130 rfl Tryz.ntmps130 (Nat.le_of_ble_eq_true rfl) (fun R=>?_)
 refine af.seq ?_
 skip
 refine af.region (gK 3 [(8,vP (L.b d)),(9,.string name),(10,(dJ L th))] [] ?_)
 refine gL [1,2] (GZ O L d hkd name hsz hno hel th hkt h3 hb) ?_
 rintro _ _ ⟨rfl,rfl⟩
 refine NS ?_
 have Be:(obj (nX O d name th) d).kind=2:=(wm).trans (hkd)
 generalize cq:(nX O d name th)=cF at Be ⊢
 refine gK 9 [(17,.agg #[vI (X.cS),vI (X.cZ)]),(20,.pointer (some ⟨(L.b d),4,none⟩))] [(5,A_ 2 f 2)] ?_
 refine Kr 0 [(1,1)] d X.cS X.cZ Be (fun d6 dw=>?_)
 have U8:=ku dw Be
 refine NN (af.region (gC 8 [] [(3,a_ 2 f),(4,p_ ⟨[],none,none,none,some (vI (X.ah+1))⟩ [(Value.int .i64 (IntKind.wrap .i64 (X.ah+1)))=(.int .i64 (X.ah+1))] ⟨bw (by omega) (by omega) (by omega),trivial⟩),(7,a_ 2 f)] [(2,[(8,vI (X.ah+1))])] ?_))
 refine NL ?_
 exact RF (l:=[.blk f [vI (X.cN),vI (X.cB),vI (X.cH),vI (X.cS),vI (X.cZ),.map (some m),vP t,vI (X.last),vI (X.ah+1),vI (X.used)] 126,.abs (ax (bM d6 L)),.abs (ax (cG d6 L))]) (.tuple #[]) [2,0,1,3] (⟨rfl,by subst dw;subst cq;rfl⟩)
theorem jr {β:Bs} (X:FM) (f m t:Nat) (hX:0<=X.ah/\X.ah<=1048576/\-1125899906842624<=X.used/\X.used<=1125899906842624/\0<=X.last/\X.last<=1125899906842624) (O:bY) (L:HL) (d:Nat) (hkd:(obj O d).kind=2) (name:ByteArray) (hsz:name.size<=1048576) (th:Th) (hkt:(obj O th.k).kind=th.kind) (h3:th.kind=1\/th.kind=2\/th.kind=3) (vk:aU name (obj O d).ah=some th) (hnt:nF (obj O d).ah) (_:(obj O d).ah.length<=1048576) (hb:0<=(obj O th.k).links/\(obj O th.k).links<=1048576) :
    Spec Tryz.prog β 170 #[vP f,vP (L.b d),.string name] [.blk f [vI (X.cN),vI (X.cB),vI (X.cH),vI (X.cS),vI (X.cZ),.map (some m),vP t,vI (X.last),vI (X.ah),vI (X.used)] 126,.abs (ax (bM O L)),.abs (ax (cG O L))] (fun v l=>v=dJ L th/\l=[.blk f [vI (X.cN),vI (X.cB),vI (X.cH),vI (X.cS),vI (X.cZ),.map (some m),vP t,vI (X.last),vI (X.ah - 1),vI (X.used)] 126,.abs (ax (bM (aR X O d name th) L)),.abs (ax (cG (aR X O d name th) L))]):=by
 refine Spec.enter Tryz.func170 rfl Tryz.ntmps170 (Nat.le_of_ble_eq_true rfl) (fun R=>?_)
 refine af.seq ?_
 obtain⟨tk,kd⟩:=th;simp only at hkt h3;rcases h3 with rfl|rfl|rfl
 ·replace hkt:(obj O tk).kind=1:=hkt
  replace hb:0<=(obj O tk).links/\(obj O tk).links<=1048576:=hb
  refine af.region (gK 1 [] [] ?_)
  refine NS (gK 5 [(11,.map (some (L.m d))),(12,.string name)] [(3,v_ 1 (bC L hkd))] ?_)
  refine iu 2 hkd vk ?_
  refine gK 1 [(7,.iface 129 (vP (L.b tk)))] [] ?_
  refine NS (gK 5 [(17,.map (some (L.m d))),(18,.string name)] [(3,v_ 1 (bC L hkd))] ?_)
  refine Qf 2 [(1,0)] hkd vk hnt (fun cF cq=>?_)
  have Nx:=ku cq hkd
  have RD:=ku cq hkt
  have Tz:(obj cF tk).links=(obj O tk).links:=fu aT.links cq rfl
  refine NS (gK 9 [(24,.agg #[vI (X.cS),vI (X.cZ)]),(27,.pointer (some ⟨(L.b d),4,none⟩))] [(5,A_ 0 f 2)] ?_)
  refine Kr 1 [(2,1)] d X.cS X.cZ Nx (fun d6 dw=>?_)
  have Ny:=ku dw Nx
  have DQ:=ku dw RD
  have Vo:(obj d6 tk).links=(obj O tk).links:=fu aT.links dw Tz
  refine NS (gC 8 [] [(3,a_ 0 f),(4,p_ ⟨[],none,none,none,some (vI (X.ah - 1))⟩ [(Value.int .i64 (IntKind.wrap .i64 (X.ah - 1)))=(.int .i64 (X.ah - 1))] ⟨bw (by omega) (by omega) (by omega),trivial⟩),(7,a_ 0 f)] [(0,[(8,vI (X.ah - 1))])] ?_)
  refine NS (gK 1 [(35,.iface 129 (vP (L.b tk)))] [] ?_)
  refine gL [] (dm (L.b tk)) ?_
  rintro _ _ ⟨rfl,rfl⟩
  refine gK 6 [(40,vI ((obj d6 tk).links - 1)),(42,.pointer (some ⟨(L.b tk),6,none⟩))] [(2,v_ 1 (mE L DQ)),(3,p_ ⟨[],none,none,none,some (vI ((obj d6 tk).links - 1))⟩ [(Value.int .i64 (IntKind.wrap .i64 ((obj d6 tk).links - 1)))=(.int .i64 ((obj d6 tk).links - 1))] ⟨bw (by omega) (by omega) (by omega),trivial⟩)] ?_
  refine rT 1 [(2,1)] tk 6 (fun o=>{ o with links:=o.links - 1 }) DQ (fun uj lf=>?_)
  have U9:=ku lf Ny
  have Va:=ku lf DQ
  refine NS (gK 2 [(6,.iface 129 (vP (L.b tk)))] [] ?_)
  refine NN (af.ret ?_)
  exact RT (l:=[.blk f [vI (X.cN),vI (X.cB),vI (X.cH),vI (X.cS),vI (X.cZ),.map (some m),vP t,vI (X.last),vI (X.ah - 1),vI (X.used)] 126,.abs (ax (bM uj L)),.abs (ax (cG uj L))]) (.iface 129 (vP (L.b tk))) [0,1,2,3] (⟨rfl,by subst lf;subst dw;subst cq;rfl⟩)
 ·replace hkt:(obj O tk).kind=2:=hkt
  replace hb:0<=(obj O tk).links/\(obj O tk).links<=1048576:=hb
  refine af.region (gK 1 [] [] ?_)
  refine NS (gK 5 [(11,.map (some (L.m d))),(12,.string name)] [(3,v_ 1 (bC L hkd))] ?_)
  refine iu 2 hkd vk ?_
  refine gK 1 [(7,.iface 135 (vP (L.b tk)))] [] ?_
  refine NS (gK 5 [(17,.map (some (L.m d))),(18,.string name)] [(3,v_ 1 (bC L hkd))] ?_)
  refine Qf 2 [(1,0)] hkd vk hnt (fun cF cq=>?_)
  have Nz:=ku cq hkd
  have RG:=ku cq hkt
  have TA:(obj cF tk).links=(obj O tk).links:=fu aT.links cq rfl
  refine NS (gK 9 [(24,.agg #[vI (X.cS),vI (X.cZ)]),(27,.pointer (some ⟨(L.b d),4,none⟩))] [(5,A_ 0 f 2)] ?_)
  refine Kr 1 [(2,1)] d X.cS X.cZ Nz (fun d6 dw=>?_)
  have RH:=ku dw Nz
  have IQ:=ku dw RG
  have Vp:(obj d6 tk).links=(obj O tk).links:=fu aT.links dw TA
  refine NS (gC 8 [] [(3,a_ 0 f),(4,p_ ⟨[],none,none,none,some (vI (X.ah - 1))⟩ [(Value.int .i64 (IntKind.wrap .i64 (X.ah - 1)))=(.int .i64 (X.ah - 1))] ⟨bw (by omega) (by omega) (by omega),trivial⟩),(7,a_ 0 f)] [(0,[(8,vI (X.ah - 1))])] ?_)
  refine NS (gK 1 [(35,.iface 135 (vP (L.b tk)))] [] ?_)
  refine gL [] (dm (L.b tk)) ?_
  rintro _ _ ⟨rfl,rfl⟩
  refine gK 6 [(40,vI ((obj d6 tk).links - 1)),(42,.pointer (some ⟨(L.b tk),6,none⟩))] [(2,v_ 1 (mE L IQ)),(3,p_ ⟨[],none,none,none,some (vI ((obj d6 tk).links - 1))⟩ [(Value.int .i64 (IntKind.wrap .i64 ((obj d6 tk).links - 1)))=(.int .i64 ((obj d6 tk).links - 1))] ⟨bw (by omega) (by omega) (by omega),trivial⟩)] ?_
  refine rT 1 [(2,1)] tk 6 (fun o=>{ o with links:=o.links - 1 }) IQ (fun uj lf=>?_)
  have Vb:=ku lf RH
  have Vc:=ku lf IQ
  refine NS (gK 2 [(6,.iface 135 (vP (L.b tk)))] [] ?_)
  refine NN (af.ret ?_)
  exact RT (l:=[.blk f [vI (X.cN),vI (X.cB),vI (X.cH),vI (X.cS),vI (X.cZ),.map (some m),vP t,vI (X.last),vI (X.ah - 1),vI (X.used)] 126,.abs (ax (bM uj L)),.abs (ax (cG uj L))]) (.iface 135 (vP (L.b tk))) [0,1,2,3] (⟨rfl,by subst lf;subst dw;subst cq;rfl⟩)
 replace hkt:(obj O tk).kind=3:=hkt
 replace hb:0<=(obj O tk).links/\(obj O tk).links<=1048576:=hb
 refine af.region (gK 1 [] [] ?_)
 refine NS (gK 5 [(11,.map (some (L.m d))),(12,.string name)] [(3,v_ 1 (bC L hkd))] ?_)
 refine iu 2 hkd vk ?_
 refine gK 1 [(7,.iface 132 (vP (L.b tk)))] [] ?_
 refine NS (gK 5 [(17,.map (some (L.m d))),(18,.string name)] [(3,v_ 1 (bC L hkd))] ?_)
 refine Qf 2 [(1,0)] hkd vk hnt (fun cF cq=>?_)
 have NA:=ku cq hkd
 have RI:=ku cq hkt
 have TB:(obj cF tk).links=(obj O tk).links:=fu aT.links cq rfl
 refine NS (gK 9 [(24,.agg #[vI (X.cS),vI (X.cZ)]),(27,.pointer (some ⟨(L.b d),4,none⟩))] [(5,A_ 0 f 2)] ?_)
 refine Kr 1 [(2,1)] d X.cS X.cZ NA (fun d6 dw=>?_)
 have RJ:=ku dw NA
 have IU:=ku dw RI
 have Vq:(obj d6 tk).links=(obj O tk).links:=fu aT.links dw TB
 refine NS (gC 8 [] [(3,a_ 0 f),(4,p_ ⟨[],none,none,none,some (vI (X.ah - 1))⟩ [(Value.int .i64 (IntKind.wrap .i64 (X.ah - 1)))=(.int .i64 (X.ah - 1))] ⟨bw (by omega) (by omega) (by omega),trivial⟩),(7,a_ 0 f)] [(0,[(8,vI (X.ah - 1))])] ?_)
 refine NS (gK 1 [(35,.iface 132 (vP (L.b tk)))] [] ?_)
 refine gL [] (dm (L.b tk)) ?_
 rintro _ _ ⟨rfl,rfl⟩
 refine gK 6 [(40,vI ((obj d6 tk).links - 1)),(42,.pointer (some ⟨(L.b tk),6,none⟩))] [(2,v_ 1 (mE L IU)),(3,p_ ⟨[],none,none,none,some (vI ((obj d6 tk).links - 1))⟩ [(Value.int .i64 (IntKind.wrap .i64 ((obj d6 tk).links - 1)))=(.int .i64 ((obj d6 tk).links - 1))] ⟨bw (by omega) (by omega) (by omega),trivial⟩)] ?_
 refine rT 1 [(2,1)] tk 6 (fun o=>{ o with links:=o.links - 1 }) IU (fun uj lf=>?_)
 have Vd:=ku lf RJ
 have Ve:=ku lf IU
 refine NS (gK 2 [(6,.iface 132 (vP (L.b tk)))] [] ?_)
 refine NN (af.ret ?_)
 exact RT (l:=[.blk f [vI (X.cN),vI (X.cB),vI (X.cH),vI (X.cS),vI (X.cZ),.map (some m),vP t,vI (X.last),vI (X.ah - 1),vI (X.used)] 126,.abs (ax (bM uj L)),.abs (ax (cG uj L))]) (.iface 132 (vP (L.b tk))) [0,1,2,3] (⟨rfl,by subst lf;subst dw;subst cq;rfl⟩)
end
section
open Go.RowKit Go.Maps bL aB
attribute [local irreducible] aj aP af ai
abbrev Kv (f:Nat) (X:FM) (m:Nat) (t):=(.blk f [vI (X.cN),vI (X.cB),vI (X.cH),vI (X.cS),vI (X.cZ),.map (some m),vP t,vI (X.last),vI (X.ah),vI (X.used)] 126:HP)
theorem Mq {β:Bs} (X:FM) (f m t:Nat) (hX:0<=X.ah/\X.ah<=1048576/\-1125899906842624<=X.used/\X.used<=1125899906842624/\0<=X.last/\X.last<=1125899906842624) (O:bY) (L:HL) (idx:Used Th) (Kw:aB.dh (keys idx)) (th:Th) (hkt:(obj O th.k).kind=th.kind) (h3:th.kind=1\/th.kind=2\/th.kind=3) (hg:(obj O th.k).gone=true) (ho:(obj O th.k).opens=0) (hix:aB.get idx (obj O th.k).id=some th) (hw:(Lit.int .i64 (obj O th.k).id).wf=true) (wW:(obj O th.k).data.length<=1125899906842624) :
    Spec Tryz.prog β 136 #[vP f,(dJ L th)] [pO O L,pF f m t X,pI m L idx] (fun v l=>v=.tuple #[]/\l=[pO O L,pF f m t { X with used:=if th.kind=1 then X.used - (obj O th.k).data.length else X.used },pI m L (del (obj O th.k).id idx)]):=by
 refine Spec.enter Tryz.func136 rfl Tryz.ntmps136 (Nat.le_of_ble_eq_true rfl) (fun R=>?_)
 refine af.seq ?_
 obtain⟨tk,kd⟩:=th;simp only at hkt h3;rcases h3 with rfl|rfl|rfl
 ·replace hkt:(obj O tk).kind=1:=hkt
  replace hg:(obj O tk).gone=true:=hg
  replace ho:(obj O tk).opens=0:=ho
  replace hix:aB.get idx (obj O tk).id=some _:=hix
  replace hw:(Lit.int .i64 (obj O tk).id).wf=true:=hw
  have hdl:=nI Kw (get_some hix)
  replace wW:(obj O tk).data.length<=1125899906842624:=wW
  refine af.region (gK 1 [(7,.iface 129 (vP (L.b tk)))] [] ?_)
  refine gL [] (dm (L.b tk)) ?_
  rintro _ _ ⟨rfl,rfl⟩
  refine gK 1 [(4,vP (L.b tk))] [] ?_
  refine NN (af.seq (SR (gK 6 [(14,.bool (!(obj O tk).gone))] [(3,v_ 0 (mT L hkt))] ?_)))
  refine aj.mV 14 (!(obj O tk).gone) (fun _=>by kernel_rfl) (fun iQ=>?_) (fun iQ=>?_)
  ·exact absurd iQ (by simp [hg])
  refine gK 6 [(20,.bool (decide (((obj O tk).opens:Int) > (0:Int))))] [(3,v_ 0 (jI L hkt))] ?_
  refine NN (af.bg (p:=((obj O tk).opens:Int) > (0:Int)) (fun _=>by kernel_rfl) (fun oA=>?_) (fun oA=>?_))
  ·exact absurd oA (by omega)
  refine af.skip (NX (af.seq (af.bR (S:=[pO O L,pF f m t X,pI m L idx,.abs R]) [0,1,2,3,4,5,6,7,8] 8 [0,1,2,3] (by kernel_rfl) (by kernel_rfl) rfl (by kernel_rfl) ?_)))
  refine gR 0 [8] [(0,vP f),(1,.iface 129 (vP (L.b tk))),(24,.map (some m)),(28,vI ((obj O tk).id))] [0,1,2,3,4,5,6,7] [(3,a_ 1 f),(7,v_ 0 (qh L hkt))] ?_
  refine aK.last rfl rfl ?_
  refine aj.zM 2 (d:=none) (t:=120) (K:=3) (E:=124) (b:=m) (n:=idx.length) (f:=(bh (bn L idx))) (x:=(.tmp 24)) (ix:=(.tmp 28)) (key:=.int .i64 ((obj O tk).id)) (kl:=(.int .i64 (obj O tk).id)) (n':=(idx.length - 1)) (f':=(bh (bn L (del (obj O tk).id idx)))) (ats:=#[120,3]) (fun _=>by kernel_rfl) (by kernel_rfl) (fun _=>by kernel_rfl) (fun _=>by kernel_rfl) rfl dX Tryz.underlying120 (gJ hw) (by rw [eY,hix];rfl) (BX) ?_
  refine NL (ai.np (NX (SR ?_)))
  refine gK 7 [(5,vP (L.b tk)),(6,.bool true)] [] ?_
  refine NS (gK 1 [(34,.bool true)] [] ?_)
  refine NN (CT (af.bR (S:=[pO O L,pF f m t X,.abs (aL Tryz.prog 3 m (bh (bn L (del (obj O tk).id idx))) (idx.length - 1)),.abs R]) [0,1,2,3,4,5,6,7,8,9,10,11,12] 12 [0,1,2,3] (by kernel_rfl) (by kernel_rfl) rfl (by kernel_rfl) ?_))
  refine gR 0 [12] [(44,vI (X.used - (((obj O tk).data.length:Nat):Int))),(46,.pointer (some ⟨f,9,none⟩))] [0,1,2,3,4,5,6,7,8,9,10,11] [(3,a_ 1 f),(7,v_ 0 (EV L hkt)),(9,p_ ⟨[],none,none,none,some (vI (X.used - (((obj O tk).data.length:Nat):Int)))⟩ [(Value.int .i64 (IntKind.wrap .i64 (X.used - (((obj O tk).data.length:Nat):Int))))=(.int .i64 (X.used - (((obj O tk).data.length:Nat):Int)))] ⟨bw (by omega) (by omega) (by omega),trivial⟩)] ?_
  refine aK.last rfl rfl ?_
  refine gC 1 [] [(0,a_ 1 f)] [(1,[(9,vI (X.used - (((obj O tk).data.length:Nat):Int)))])] ?_
  refine NL (ai.np ?_)
  refine ai.dz [(2,.abs (aL Tryz.prog 3 m (bh (bn L (del (obj O tk).id idx))) ((del (obj O tk).id idx).length)))] (fun w hS=>by rw [show (del (obj O tk).id idx).length=idx.length - 1 by omega];exact hS) ?_
  exact RF (.tuple #[]) [0,1,2,3] (⟨rfl,rfl⟩)
 ·replace hkt:(obj O tk).kind=2:=hkt
  replace hg:(obj O tk).gone=true:=hg
  replace ho:(obj O tk).opens=0:=ho
  replace hix:aB.get idx (obj O tk).id=some _:=hix
  replace hw:(Lit.int .i64 (obj O tk).id).wf=true:=hw
  have hdl:=nI Kw (get_some hix)
  replace wW:(obj O tk).data.length<=1125899906842624:=wW
  refine af.region (gK 1 [(7,.iface 135 (vP (L.b tk)))] [] ?_)
  refine gL [] (dm (L.b tk)) ?_
  rintro _ _ ⟨rfl,rfl⟩
  refine gK 1 [(4,vP (L.b tk))] [] ?_
  refine NN (af.seq (SR (gK 6 [(14,.bool (!(obj O tk).gone))] [(3,v_ 0 (mT L hkt))] ?_)))
  refine aj.mV 14 (!(obj O tk).gone) (fun _=>by kernel_rfl) (fun iQ=>?_) (fun iQ=>?_)
  ·exact absurd iQ (by simp [hg])
  refine gK 6 [(20,.bool (decide (((obj O tk).opens:Int) > (0:Int))))] [(3,v_ 0 (jI L hkt))] ?_
  refine NN (af.bg (p:=((obj O tk).opens:Int) > (0:Int)) (fun _=>by kernel_rfl) (fun oA=>?_) (fun oA=>?_))
  ·exact absurd oA (by omega)
  refine af.skip (NX (af.seq (af.bR (S:=[pO O L,pF f m t X,pI m L idx,.abs R]) [0,1,2,3,4,5,6,7,8] 8 [0,1,2,3] (by kernel_rfl) (by kernel_rfl) rfl (by kernel_rfl) ?_)))
  refine gR 0 [8] [(0,vP f),(1,.iface 135 (vP (L.b tk))),(24,.map (some m)),(28,vI ((obj O tk).id))] [0,1,2,3,4,5,6,7] [(3,a_ 1 f),(7,v_ 0 (qh L hkt))] ?_
  refine aK.last rfl rfl ?_
  refine aj.zM 2 (d:=none) (t:=120) (K:=3) (E:=124) (b:=m) (n:=idx.length) (f:=(bh (bn L idx))) (x:=(.tmp 24)) (ix:=(.tmp 28)) (key:=.int .i64 ((obj O tk).id)) (kl:=(.int .i64 (obj O tk).id)) (n':=(idx.length - 1)) (f':=(bh (bn L (del (obj O tk).id idx)))) (ats:=#[120,3]) (fun _=>by kernel_rfl) (by kernel_rfl) (fun _=>by kernel_rfl) (fun _=>by kernel_rfl) rfl dX Tryz.underlying120 (gJ hw) (by rw [eY,hix];rfl) (BX) ?_
  refine NL (ai.np (NX (SR ?_)))
  refine gK 7 [(5,.pointer none),(6,.bool false)] [] ?_
  refine NS (gK 1 [(34,.bool false)] [] ?_)
  refine NN (CF (af.skip (ai.dz [(2,.abs (aL Tryz.prog 3 m (bh (bn L (del (obj O tk).id idx))) ((del (obj O tk).id idx).length)))] (fun w hS=>by rw [show (del (obj O tk).id idx).length=idx.length - 1 by omega];exact hS) ?_)))
  exact RF (.tuple #[]) [0,1,2,3] (⟨rfl,rfl⟩)
 replace hkt:(obj O tk).kind=3:=hkt
 replace hg:(obj O tk).gone=true:=hg
 replace ho:(obj O tk).opens=0:=ho
 replace hix:aB.get idx (obj O tk).id=some _:=hix
 replace hw:(Lit.int .i64 (obj O tk).id).wf=true:=hw
 have hdl:=nI Kw (get_some hix)
 replace wW:(obj O tk).data.length<=1125899906842624:=wW
 refine af.region (gK 1 [(7,.iface 132 (vP (L.b tk)))] [] ?_)
 refine gL [] (dm (L.b tk)) ?_
 rintro _ _ ⟨rfl,rfl⟩
 refine gK 1 [(4,vP (L.b tk))] [] ?_
 refine NN (af.seq (SR (gK 6 [(14,.bool (!(obj O tk).gone))] [(3,v_ 0 (mT L hkt))] ?_)))
 refine aj.mV 14 (!(obj O tk).gone) (fun _=>by kernel_rfl) (fun iQ=>?_) (fun iQ=>?_)
 ·exact absurd iQ (by simp [hg])
 refine gK 6 [(20,.bool (decide (((obj O tk).opens:Int) > (0:Int))))] [(3,v_ 0 (jI L hkt))] ?_
 refine NN (af.bg (p:=((obj O tk).opens:Int) > (0:Int)) (fun _=>by kernel_rfl) (fun oA=>?_) (fun oA=>?_))
 ·exact absurd oA (by omega)
 refine af.skip (NX (af.seq (af.bR (S:=[pO O L,pF f m t X,pI m L idx,.abs R]) [0,1,2,3,4,5,6,7,8] 8 [0,1,2,3] (by kernel_rfl) (by kernel_rfl) rfl (by kernel_rfl) ?_)))
 refine gR 0 [8] [(0,vP f),(1,.iface 132 (vP (L.b tk))),(24,.map (some m)),(28,vI ((obj O tk).id))] [0,1,2,3,4,5,6,7] [(3,a_ 1 f),(7,v_ 0 (qh L hkt))] ?_
 refine aK.last rfl rfl ?_
 refine aj.zM 2 (d:=none) (t:=120) (K:=3) (E:=124) (b:=m) (n:=idx.length) (f:=(bh (bn L idx))) (x:=(.tmp 24)) (ix:=(.tmp 28)) (key:=.int .i64 ((obj O tk).id)) (kl:=(.int .i64 (obj O tk).id)) (n':=(idx.length - 1)) (f':=(bh (bn L (del (obj O tk).id idx)))) (ats:=#[120,3]) (fun _=>by kernel_rfl) (by kernel_rfl) (fun _=>by kernel_rfl) (fun _=>by kernel_rfl) rfl dX Tryz.underlying120 (gJ hw) (by rw [eY,hix];rfl) (BX) ?_
 refine NL (ai.np (NX (SR ?_)))
 refine gK 7 [(5,.pointer none),(6,.bool false)] [] ?_
 refine NS (gK 1 [(34,.bool false)] [] ?_)
 refine NN (CF (af.skip (ai.dz [(2,.abs (aL Tryz.prog 3 m (bh (bn L (del (obj O tk).id idx))) ((del (obj O tk).id idx).length)))] (fun w hS=>by rw [show (del (obj O tk).id idx).length=idx.length - 1 by omega];exact hS) ?_)))
 exact RF (.tuple #[]) [0,1,2,3] (⟨rfl,rfl⟩)
theorem IV {β:Bs} (O:bY) (L:HL) (f:Nat) (th:Th) (hkt:(obj O th.k).kind=th.kind) (h3:th.kind=1\/th.kind=2\/th.kind=3) (hg:(obj O th.k).gone=false\/0 < (obj O th.k).opens) :
    Spec Tryz.prog β 136 #[vP f,(dJ L th)] [pO O L] (fun v l=>v=.tuple #[]/\l=[pO O L]):=by
 refine Spec.enter Tryz.func136 rfl Tryz.ntmps136 (Nat.le_of_ble_eq_true rfl) (fun R=>?_)
 refine af.seq ?_
 obtain⟨tk,kd⟩:=th;simp only at hkt h3;rcases h3 with rfl|rfl|rfl
 ·replace hkt:(obj O tk).kind=1:=hkt
  replace hg:(obj O tk).gone=false\/0 < (obj O tk).opens:=hg
  refine af.region (gK 1 [(7,.iface 129 (vP (L.b tk)))] [] ?_)
  refine gL [] (dm (L.b tk)) ?_
  rintro _ _ ⟨rfl,rfl⟩
  refine gK 1 [(4,vP (L.b tk))] [] ?_
  refine NN (af.seq (SR (gK 6 [(14,.bool (!(obj O tk).gone))] [(3,v_ 0 (mT L hkt))] ?_)))
  refine aj.mV 14 (!(obj O tk).gone) (fun _=>by kernel_rfl) (fun iQ=>?_) (fun iQ=>?_)
  ·refine gK 6 [(20,.bool true)] [] ?_
   refine NN (CT (af.ret (ai.ak ?_)))
   exact RT (.tuple #[]) [0,1] (⟨rfl,rfl⟩)
  refine gK 6 [(20,.bool (decide (((obj O tk).opens:Int) > (0:Int))))] [(3,v_ 0 (jI L hkt))] ?_
  refine NN (af.bg (p:=((obj O tk).opens:Int) > (0:Int)) (fun _=>by kernel_rfl) (fun oA=>?_) (fun oA=>?_))
  ·refine af.ret (ai.ak ?_)
   exact RT (.tuple #[]) [0,1] (⟨rfl,rfl⟩)
  exact absurd hg (by simp at iQ;rw [iQ];simp;omega)
 ·replace hkt:(obj O tk).kind=2:=hkt
  replace hg:(obj O tk).gone=false\/0 < (obj O tk).opens:=hg
  refine af.region (gK 1 [(7,.iface 135 (vP (L.b tk)))] [] ?_)
  refine gL [] (dm (L.b tk)) ?_
  rintro _ _ ⟨rfl,rfl⟩
  refine gK 1 [(4,vP (L.b tk))] [] ?_
  refine NN (af.seq (SR (gK 6 [(14,.bool (!(obj O tk).gone))] [(3,v_ 0 (mT L hkt))] ?_)))
  refine aj.mV 14 (!(obj O tk).gone) (fun _=>by kernel_rfl) (fun iQ=>?_) (fun iQ=>?_)
  ·refine gK 6 [(20,.bool true)] [] ?_
   refine NN (CT (af.ret (ai.ak ?_)))
   exact RT (.tuple #[]) [0,1] (⟨rfl,rfl⟩)
  refine gK 6 [(20,.bool (decide (((obj O tk).opens:Int) > (0:Int))))] [(3,v_ 0 (jI L hkt))] ?_
  refine NN (af.bg (p:=((obj O tk).opens:Int) > (0:Int)) (fun _=>by kernel_rfl) (fun oA=>?_) (fun oA=>?_))
  ·refine af.ret (ai.ak ?_)
   exact RT (.tuple #[]) [0,1] (⟨rfl,rfl⟩)
  exact absurd hg (by simp at iQ;rw [iQ];simp;omega)
 replace hkt:(obj O tk).kind=3:=hkt
 replace hg:(obj O tk).gone=false\/0 < (obj O tk).opens:=hg
 refine af.region (gK 1 [(7,.iface 132 (vP (L.b tk)))] [] ?_)
 refine gL [] (dm (L.b tk)) ?_
 rintro _ _ ⟨rfl,rfl⟩
 refine gK 1 [(4,vP (L.b tk))] [] ?_
 refine NN (af.seq (SR (gK 6 [(14,.bool (!(obj O tk).gone))] [(3,v_ 0 (mT L hkt))] ?_)))
 refine aj.mV 14 (!(obj O tk).gone) (fun _=>by kernel_rfl) (fun iQ=>?_) (fun iQ=>?_)
 ·refine gK 6 [(20,.bool true)] [] ?_
  refine NN (CT (af.ret (ai.ak ?_)))
  exact RT (.tuple #[]) [0,1] (⟨rfl,rfl⟩)
 refine gK 6 [(20,.bool (decide (((obj O tk).opens:Int) > (0:Int))))] [(3,v_ 0 (jI L hkt))] ?_
 refine NN (af.bg (p:=((obj O tk).opens:Int) > (0:Int)) (fun _=>by kernel_rfl) (fun oA=>?_) (fun oA=>?_))
 ·refine af.ret (ai.ak ?_)
  exact RT (.tuple #[]) [0,1] (⟨rfl,rfl⟩)
 exact absurd hg (by simp at iQ;rw [iQ];simp;omega)
theorem qd {β:Bs} (X:FM) (f m t:Nat) (hX:0<=X.ah/\X.ah<=1048576/\-1125899906842624<=X.used/\X.used<=1125899906842624/\0<=X.last/\X.last<=1125899906842624) (O:bY) (L:HL) (idx:Used Th) (Kw:aB.dh (keys idx)) (th:Th) (hkt:(obj O th.k).kind=th.kind) (h3:th.kind=1\/th.kind=2\/th.kind=3) (ho:0<=(obj O th.k).opens) (hix:qG O th->aB.get idx (obj O th.k).id=some th) (hw:(Lit.int .i64 (obj O th.k).id).wf=true) (wW:(obj O th.k).data.length<=1125899906842624) :
    Spec Tryz.prog β 136 #[vP f,(dJ L th)] [pO O L,pF f m t X,pI m L idx] (fun v l=>v=.tuple #[]/\l=[pO O L,pF f m t { X with used:=jN O X.used th },pI m L (jx O idx th)]):=by
  unfold jN jx
  by_cases h:qG O th
  ·rw [if_pos h,if_pos h]
   exact Mq X f m t hX O L idx Kw th hkt h3 h.1 h.2 (hix h) hw wW
  rw [if_neg h,if_neg h]
  refine (Spec.za (pre:=[pO O L]) (R:=[pF f m t X,pI m L idx]) (fun _ _=>IV O L f th hkt h3 ?_)).mono (by rintro v l ⟨l0,⟨rfl,rfl⟩,rfl⟩;exact⟨rfl,rfl⟩)
  cases hg:(obj O th.k).gone with
  | false=>exact .inl rfl
  | true=>exact .inr (by have:¬ (obj O th.k).opens=0:=fun e=>h ⟨hg,e⟩;omega)
theorem tF {β:Bs} (X:FM) (f m t:Nat):Spec Tryz.prog β 129 #[vP f] [Kv f X m t] (fun v l=>v=.bool (decide (X.ah < 8192))/\l=[Kv f X m t]):=by
 refine Spec.enter Tryz.func129 rfl Tryz.ntmps129 (Nat.le_of_ble_eq_true rfl) (fun R=>?_)
 refine SR (gK 1 [] [] ?_)
 refine NS (gK 6 [(2,.bool (decide ((X.ah:Int) < (8192:Int))))] [(3,a_ 0 f)] ?_)
 refine NN (af.ret ?_)
 exact RT (.bool (decide ((X.ah:Int) < (8192:Int)))) [0,1] (⟨rfl,rfl⟩)
theorem fJ {β:Bs} (a b:Int):Spec Tryz.prog β 59 #[vI a,vI b] [] (fun v l=>v=.bool (decide (0<=a/\a<=b))/\l=[]):=by
 refine Spec.enter Tryz.func59 rfl Tryz.ntmps59 (Nat.le_of_ble_eq_true rfl) (fun R=>?_)
 refine SR (gK 1 [] [] ?_)
 refine NS (gK 3 [(7,.bool (decide ((a:Int) ≥ (0:Int))))] [] ?_)
 refine aj.fR 7 ((a:Int) ≥ (0:Int)) (fun _=>by kernel_rfl) (fun h7=>?_) (fun h7=>?_)
 ·refine gK 5 [(4,.bool (decide ((a:Int)<=(b:Int))))] [] ?_
  refine NN (af.ret ?_)
  exact RT (.bool (decide ((a:Int)<=(b:Int)))) [0] (⟨by first|exact congrArg Value.bool (decide_eq_decide.2 (by omega))|exact congrArg Value.bool (decide_eq_true (by omega)).symm|exact congrArg Value.bool (decide_eq_false (by omega)).symm,rfl⟩)
 refine gK 5 [(4,.bool false)] [] ?_
 refine NN (af.ret ?_)
 exact RT (.bool false) [0] (⟨by first|exact congrArg Value.bool (decide_eq_decide.2 (by omega))|exact congrArg Value.bool (decide_eq_true (by omega)).symm|exact congrArg Value.bool (decide_eq_false (by omega)).symm,rfl⟩)
theorem E0 {β:Bs} (X:FM) (f m t:Nat) (L:HL) (idx:Used Th):Spec Tryz.prog β 166 #[vP f] [Kv f X m t,.abs (aL Tryz.prog 3 m (bh (bn L idx)) idx.length)] (fun v l=>v=.bool (decide ((idx.length:Int) < X.cN/\X.last < 1099511627776/\X.ah < 8192))/\l=[Kv f X m t,.abs (aL Tryz.prog 3 m (bh (bn L idx)) idx.length)]):=by
 refine Spec.enter Tryz.func166 rfl Tryz.ntmps166 (Nat.le_of_ble_eq_true rfl) (fun R=>?_)
 refine SR (gK 1 [] [] ?_)
 refine NN (af.seq (af.bI (by kernel_rfl) (by kernel_rfl) ?_))
 refine gQ 4 [(6,.map (some m))] [(3,a_ 0 f)] ?_
 refine aP.tL 1 (d:=(some 7)) (t:=120) (K:=3) (E:=124) (b:=m) (n:=idx.length) (f:=(bh (bn L idx))) (x:=(.tmp 6)) (ats:=#[120]) (fun _=>by kernel_rfl) (by kernel_rfl) (fun _=>by kernel_rfl) rfl Tryz.underlying120 ?_
 refine gQ 7 [(14,.bool (decide ((((idx.length:Nat):Int):Int) < (X.cN:Int))))] [(4,a_ 0 f)] ?_
 refine aP.fR 14 ((((idx.length:Nat):Int):Int) < (X.cN:Int)) (fun _=>by kernel_rfl) (fun iQ=>?_) (fun iQ=>?_)
 ·refine gQ 7 [(21,.bool (decide ((X.last:Int) < (1099511627776:Int))))] [(3,a_ 0 f)] ?_
  refine aP.fR 21 ((X.last:Int) < (1099511627776:Int)) (fun _=>by kernel_rfl) (fun ul=>?_) (fun ul=>?_)
  ·refine gQ 1 [(22,vP f)] [] ?_
   refine aP.call (f:=129) (args:=#[vP f]) (d:=(some 23)) (pre:=[pF f m t X]) (R:=[pI m L idx,.abs R]) (pk:=[0,1,2]) (iV:=[0,1,2]) (v0:=.bool (decide (X.ah < 8192))) (fun _=>by kernel_rfl) (tF X f m t) rfl (by kernel_rfl) rfl (by kernel_rfl) (fun _ _ h=>h) ?_
   refine gQ 2 [(2,.bool (decide (X.ah < 8192)))] [] ?_
   refine NQ (NX (af.ret ?_))
   exact RT (.bool (decide (X.ah < 8192))) [0,1,2] (⟨by first|exact congrArg Value.bool (decide_eq_decide.2 (by omega))|exact congrArg Value.bool (decide_eq_true (by omega)).symm|exact congrArg Value.bool (decide_eq_false (by omega)).symm,rfl⟩)
  refine gQ 4 [(2,.bool false)] [] ?_
  refine NQ (NX (af.ret ?_))
  exact RT (.bool false) [0,1,2] (⟨by first|exact congrArg Value.bool (decide_eq_decide.2 (by omega))|exact congrArg Value.bool (decide_eq_true (by omega)).symm|exact congrArg Value.bool (decide_eq_false (by omega)).symm,rfl⟩)
 refine gQ 11 [(2,.bool false)] [] ?_
 refine NQ (NX (af.ret ?_))
 exact RT (.bool false) [0,1,2] (⟨by first|exact congrArg Value.bool (decide_eq_decide.2 (by omega))|exact congrArg Value.bool (decide_eq_true (by omega)).symm|exact congrArg Value.bool (decide_eq_false (by omega)).symm,rfl⟩)
theorem sR {β:Bs} (X:FM) (f m t:Nat) (hX:0<=X.ah/\X.ah<=1048576/\-1125899906842624<=X.used/\X.used<=1125899906842624/\0<=X.last/\X.last<=1125899906842624) (mode:Int):Spec Tryz.prog β 126 #[vP f,vI mode] [Kv f X m t] (fun v l=>v=.agg #[vI (X.last+1),vI mode,vI 0,vI 0,vI X.cS,vI X.cZ,vI 0,vI 0,.bool false]/\l=[.blk f [vI (X.cN),vI (X.cB),vI (X.cH),vI (X.cS),vI (X.cZ),.map (some m),vP t,vI (X.last+1),vI (X.ah),vI (X.used)] 126]):=by
 refine Spec.enter Tryz.func126 rfl Tryz.ntmps126 (Nat.le_of_ble_eq_true rfl) (fun R=>?_)
 refine SR (gN 1 (fun b1=>[(4,vP b1)]) (fun _=>[]) (fun _=>[]) (fun b1=>.blk b1 [vI 0,vI 0,vI 0,vI 0,vI 0,vI 0,vI 0,vI 0,.bool false] 128) (fun b1=>?_))
 refine NS (gC 8 [] [(3,a_ 0 f),(4,p_ ⟨[],none,none,none,some (vI (X.last+1))⟩ [(Value.int .i64 (IntKind.wrap .i64 (X.last+1)))=(.int .i64 (X.last+1))] ⟨bw (by omega) (by omega) (by omega),trivial⟩),(7,a_ 0 f)] [(0,[(7,vI (X.last+1))])] ?_)
 refine NN (af.seq (af.bR (S:=[pF f m t { X with last:=X.last+1 },.abs R,.blk b1 [vI 0,vI 0,vI 0,vI 0,vI 0,vI 0,vI 0,vI 0,.bool false] 128]) [0,1,2,3,4,5,6,7,8,9,10,11] 11 [0,1,2] (by kernel_rfl) (by kernel_rfl) rfl (by kernel_rfl) ?_))
 refine gR 0 [11] [(4,vP b1),(22,.agg #[vI (X.last+1),vI (mode),vI 0,vI 0,vI (X.cS),vI (X.cZ),vI 0,vI 0,.bool false])] [0,1,2,3,4,5,6,7,8,9,10] [(3,a_ 0 f),(9,A_ 0 f 2)] ?_
 refine aK.last rfl rfl ?_
 refine gC 1 [] [(0,A_ 2 b1 9)] [(2,[(0,vI (X.last+1)),(1,vI (mode)),(4,vI (X.cS)),(5,vI (X.cZ))])] ?_
 refine NL (ai.np (NX (af.ret ?_)))
 exact ai.ret (v:=.agg #[vI (X.last+1),vI (mode),vI 0,vI 0,vI (X.cS),vI (X.cZ),vI 0,vI 0,.bool false]) (l:=[pF f m t { X with last:=X.last+1 }]) (bF:=[b1=b1,b1=b1,b1=b1,b1=b1,b1=b1,b1=b1,b1=b1,b1=b1,b1=b1]) [.at 2,.at 2,.at 2,.at 2,.at 2,.at 2,.at 2,.at 2,.at 2] [0,1] (fun _=>by kernel_rfl) ⟨rfl,rfl,rfl,rfl,rfl,rfl,rfl,rfl,rfl,trivial⟩ rfl (by kernel_rfl) (⟨rfl,rfl⟩)
end
section
open Go.RowKit Go.Maps bL aB
attribute [local irreducible] aj aP af ai
abbrev Bg (f:Nat) (L:HL) (d:Nat) (name):=([(0,vP f),(1,vP (L.b d)),(2,.string name)]:Fr)
abbrev Qg (f:Nat) (L:HL) (d:Nat) (name):=([(18,vP f),(19,vP (L.b d)),(20,.string name)]:Fr)
abbrev Qh (f:Nat) (L:HL) (d:Nat) (name):=([(8,vP f),(9,vP (L.b d)),(10,.string name)]:Fr)
abbrev E4 (f:Nat) (L:HL) (d:Nat) (name):=([(0,vP f),(1,vP (L.b d)),(2,.string name)]:Fr)
abbrev vK (f:Nat) (m:Nat) (t) (X:FM) (L:HL) (idx) (O:bY) (R:cA):=([pF f m t X,pI m L idx,pO O L,pE O L,.abs R]:List HP)
abbrev Qi (S:aG) (tk:Nat) (L:HL):=([(24,vI ((obj S.O tk).opens+1)),(26,.pointer (some ⟨(L.b tk),7,none⟩))]:Fr)
theorem nk {β:Bs} (S:aG) (L:HL) (f m t:Nat) (hI:Inv S) (d:Nat) (hd:Live S.idx ⟨d,2⟩) (name:ByteArray) (hsz:name.size<=1048576) (th:Th) (hlk:aU name (obj S.O d).ah=some th) :
    Spec Tryz.prog β 168 #[vP f,vP (L.b d),.string name] [pF f m t S.X,pO S.O L,pE S.O L,pI m L S.idx] (fun v l=>v=.tuple #[]/\l=[pF f m t ((aH S d name th).X),pO ((aH S d name th).O) L,pE ((aH S d name th).O) L,pI m L ((aH S d name th).idx)]):=by
 have hX:=hI.hX
 have hel:(obj S.O d).ah.length<=8192:=hI.fU hd
 have hkd:(obj S.O d).kind=2:=hI.kind hd
 refine Spec.enter Tryz.func168 rfl Tryz.ntmps168 (Nat.le_of_ble_eq_true rfl) (fun R=>?_)
 refine af.seq ?_
 obtain⟨tk,kd⟩:=th;have hlv:=(hI.ent hd hlk).2;have Vr:=hI.ne hd hlk;rcases (hI.ob _ hlv).2.2 with e0|e0|e0<;>simp only at e0<;>subst e0
 ·have hkt:(obj S.O tk).kind=1:=hI.kind hlv
  have hlb:=hI.lb hlv;have hid:=hI.ob _ hlv;have hop:=hI.CZ hlv;have hdl:=hI.Ew hlv;have o3:=hI.JV hlv
  refine af.region (gK 3 (Qh f L d name) [] ?_)
  refine gL [0,1,2] (jr S.X f m t hX S.O L d hkd name hsz ⟨tk,1⟩ hkt (by simp) hlk (hI.twice hd) (by omega) (by simp only at hlb ⊢;omega)) ?_
  rintro _ _ ⟨rfl,rfl⟩
  refine gK 1 [(6,.iface 129 (vP (L.b tk)))] [] ?_
  refine NS ?_
  have jG:(obj (aR S.X S.O d name ⟨tk,1⟩) d).kind=2:=(cR).trans (hkd)
  have lU:(obj (aR S.X S.O d name ⟨tk,1⟩) tk).kind=1:=(cR).trans (hkt)
  have wX:(obj (aR S.X S.O d name ⟨tk,1⟩) tk).id=(obj S.O tk).id:=dH (g:=aT.id) (fun _ _=>rfl) (fun _ _=>rfl) (fun _ _ _=>rfl)
  have wY:(obj (aR S.X S.O d name ⟨tk,1⟩) tk).opens=(obj S.O tk).opens:=dH (g:=aT.opens) (fun _ _=>rfl) (fun _ _=>rfl) (fun _ _ _=>rfl)
  have wZ:(obj (aR S.X S.O d name ⟨tk,1⟩) tk).data=(obj S.O tk).data:=dH (g:=aT.data) (fun _ _=>rfl) (fun _ _=>rfl) (fun _ _ _=>rfl)
  generalize cq:(aR S.X S.O d name ⟨tk,1⟩)=cF at jG lU wX wY wZ ⊢
  refine gK 1 [(12,.iface 129 (vP (L.b tk)))] [] ?_
  refine gL [] (dm (L.b tk)) ?_
  rintro _ _ ⟨rfl,rfl⟩
  refine gK 1 [(7,vP (L.b tk))] [] ?_
  refine NS (gK 5 [(18,.bool (decide (((obj cF tk).links:Int)=(0:Int))))] [(3,v_ 1 (mE L lU))] ?_)
  refine NN (af.bg (p:=((obj cF tk).links:Int)=(0:Int)) (fun _=>by kernel_rfl) (fun nE=>?_) (fun nE=>?_))
  ·refine SR (gK 3 [(21,.pointer (some ⟨(L.b tk),8,none⟩))] [] ?_)
   refine rT 1 [(2,1)] tk 8 (fun o=>{ o with gone:=true }) lU (fun d6 dw=>?_)
   have Cq:=ku dw jG
   have wU:=ku dw lU
   have Kx:(obj d6 tk).id=(obj S.O tk).id:=fu aT.id dw wX
   have Qj:(obj d6 tk).opens=(obj S.O tk).opens:=fu aT.opens dw wY
   have Uz:(obj d6 tk).data=(obj S.O tk).data:=fu aT.data dw wZ
   refine NN (af.region (gK 2 [(22,vP f),(23,.iface 129 (vP (L.b tk)))] [] ?_))
   refine gL [1,0,3] (qd { S.X with ah:=S.X.ah - 1 } f m t (hI.yx hd hlk) d6 L S.idx hI.rise ⟨tk,1⟩ wU (by simp) (by rw [Qj];exact hop.1) (fun _=>by rw [Kx,hid.1];exact hlv) (by rw [Kx];exact o3) (by rw [Uz];exact hdl)) ?_
   rintro _ _ ⟨rfl,rfl⟩
   refine NL ?_
   exact RF (l:=[pF f m t { S.X with ah:=S.X.ah - 1,used:=jN d6 S.X.used ⟨tk,1⟩ },pO d6 L,pE d6 L,pI m L (jx d6 S.idx ⟨tk,1⟩)]) (.tuple #[]) [1,0,3,2,4] (⟨rfl,by subst dw;subst cq;rw [show aH S d name ⟨tk,1⟩=_ from sJ nE]<;>rfl⟩)
  refine af.skip ?_
  exact RF (l:=[pF f m t { S.X with ah:=S.X.ah - 1 },pO cF L,pE cF L,pI m L S.idx]) (.tuple #[]) [0,1,2,3,4] (⟨rfl,by subst cq;rw [show aH S d name ⟨tk,1⟩=_ from sK nE]<;>rfl⟩)
 ·have hkt:(obj S.O tk).kind=2:=hI.kind hlv
  have hlb:=hI.lb hlv;have hid:=hI.ob _ hlv;have hop:=hI.CZ hlv;have hdl:=hI.Ew hlv;have o3:=hI.JV hlv
  refine af.region (gK 3 (Qh f L d name) [] ?_)
  refine gL [0,1,2] (jr S.X f m t hX S.O L d hkd name hsz ⟨tk,2⟩ hkt (by simp) hlk (hI.twice hd) (by omega) (by simp only at hlb ⊢;omega)) ?_
  rintro _ _ ⟨rfl,rfl⟩
  refine gK 1 [(6,.iface 135 (vP (L.b tk)))] [] ?_
  refine NS ?_
  have Qk:(obj (aR S.X S.O d name ⟨tk,2⟩) d).kind=2:=(cR).trans (hkd)
  have Cp:(obj (aR S.X S.O d name ⟨tk,2⟩) tk).kind=2:=(cR).trans (hkt)
  have wX:(obj (aR S.X S.O d name ⟨tk,2⟩) tk).id=(obj S.O tk).id:=dH (g:=aT.id) (fun _ _=>rfl) (fun _ _=>rfl) (fun _ _ _=>rfl)
  have wY:(obj (aR S.X S.O d name ⟨tk,2⟩) tk).opens=(obj S.O tk).opens:=dH (g:=aT.opens) (fun _ _=>rfl) (fun _ _=>rfl) (fun _ _ _=>rfl)
  have wZ:(obj (aR S.X S.O d name ⟨tk,2⟩) tk).data=(obj S.O tk).data:=dH (g:=aT.data) (fun _ _=>rfl) (fun _ _=>rfl) (fun _ _ _=>rfl)
  generalize cq:(aR S.X S.O d name ⟨tk,2⟩)=cF at Qk Cp wX wY wZ ⊢
  refine gK 1 [(12,.iface 135 (vP (L.b tk)))] [] ?_
  refine gL [] (dm (L.b tk)) ?_
  rintro _ _ ⟨rfl,rfl⟩
  refine gK 1 [(7,vP (L.b tk))] [] ?_
  refine NS (gK 5 [(18,.bool (decide (((obj cF tk).links:Int)=(0:Int))))] [(3,v_ 1 (mE L Cp))] ?_)
  refine NN (af.bg (p:=((obj cF tk).links:Int)=(0:Int)) (fun _=>by kernel_rfl) (fun nE=>?_) (fun nE=>?_))
  ·refine SR (gK 3 [(21,.pointer (some ⟨(L.b tk),8,none⟩))] [] ?_)
   refine rT 1 [(2,1)] tk 8 (fun o=>{ o with gone:=true }) Cp (fun d6 dw=>?_)
   have IK:=ku dw Qk
   have Nw:=ku dw Cp
   have Ql:(obj d6 tk).id=(obj S.O tk).id:=fu aT.id dw wX
   have TD:(obj d6 tk).opens=(obj S.O tk).opens:=fu aT.opens dw wY
   have TF:(obj d6 tk).data=(obj S.O tk).data:=fu aT.data dw wZ
   refine NN (af.region (gK 2 [(22,vP f),(23,.iface 135 (vP (L.b tk)))] [] ?_))
   refine gL [1,0,3] (qd { S.X with ah:=S.X.ah - 1 } f m t (hI.yx hd hlk) d6 L S.idx hI.rise ⟨tk,2⟩ Nw (by simp) (by rw [TD];exact hop.1) (fun _=>by rw [Ql,hid.1];exact hlv) (by rw [Ql];exact o3) (by rw [TF];exact hdl)) ?_
   rintro _ _ ⟨rfl,rfl⟩
   refine NL ?_
   exact RF (l:=[pF f m t { S.X with ah:=S.X.ah - 1,used:=jN d6 S.X.used ⟨tk,2⟩ },pO d6 L,pE d6 L,pI m L (jx d6 S.idx ⟨tk,2⟩)]) (.tuple #[]) [1,0,3,2,4] (⟨rfl,by subst dw;subst cq;rw [show aH S d name ⟨tk,2⟩=_ from sJ nE]<;>rfl⟩)
  refine af.skip ?_
  exact RF (l:=[pF f m t { S.X with ah:=S.X.ah - 1 },pO cF L,pE cF L,pI m L S.idx]) (.tuple #[]) [0,1,2,3,4] (⟨rfl,by subst cq;rw [show aH S d name ⟨tk,2⟩=_ from sK nE]<;>rfl⟩)
 have hkt:(obj S.O tk).kind=3:=hI.kind hlv
 have hlb:=hI.lb hlv;have hid:=hI.ob _ hlv;have hop:=hI.CZ hlv;have hdl:=hI.Ew hlv;have o3:=hI.JV hlv
 refine af.region (gK 3 (Qh f L d name) [] ?_)
 refine gL [0,1,2] (jr S.X f m t hX S.O L d hkd name hsz ⟨tk,3⟩ hkt (by simp) hlk (hI.twice hd) (by omega) (by simp only at hlb ⊢;omega)) ?_
 rintro _ _ ⟨rfl,rfl⟩
 refine gK 1 [(6,.iface 132 (vP (L.b tk)))] [] ?_
 refine NS ?_
 have NC:(obj (aR S.X S.O d name ⟨tk,3⟩) d).kind=2:=(cR).trans (hkd)
 have Bb:(obj (aR S.X S.O d name ⟨tk,3⟩) tk).kind=3:=(cR).trans (hkt)
 have wX:(obj (aR S.X S.O d name ⟨tk,3⟩) tk).id=(obj S.O tk).id:=dH (g:=aT.id) (fun _ _=>rfl) (fun _ _=>rfl) (fun _ _ _=>rfl)
 have wY:(obj (aR S.X S.O d name ⟨tk,3⟩) tk).opens=(obj S.O tk).opens:=dH (g:=aT.opens) (fun _ _=>rfl) (fun _ _=>rfl) (fun _ _ _=>rfl)
 have wZ:(obj (aR S.X S.O d name ⟨tk,3⟩) tk).data=(obj S.O tk).data:=dH (g:=aT.data) (fun _ _=>rfl) (fun _ _=>rfl) (fun _ _ _=>rfl)
 generalize cq:(aR S.X S.O d name ⟨tk,3⟩)=cF at NC Bb wX wY wZ ⊢
 refine gK 1 [(12,.iface 132 (vP (L.b tk)))] [] ?_
 refine gL [] (dm (L.b tk)) ?_
 rintro _ _ ⟨rfl,rfl⟩
 refine gK 1 [(7,vP (L.b tk))] [] ?_
 refine NS (gK 5 [(18,.bool (decide (((obj cF tk).links:Int)=(0:Int))))] [(3,v_ 1 (mE L Bb))] ?_)
 refine NN (af.bg (p:=((obj cF tk).links:Int)=(0:Int)) (fun _=>by kernel_rfl) (fun nE=>?_) (fun nE=>?_))
 ·refine SR (gK 3 [(21,.pointer (some ⟨(L.b tk),8,none⟩))] [] ?_)
  refine rT 1 [(2,1)] tk 8 (fun o=>{ o with gone:=true }) Bb (fun d6 dw=>?_)
  have RB:=ku dw NC
  have Be:=ku dw Bb
  have Qm:(obj d6 tk).id=(obj S.O tk).id:=fu aT.id dw wX
  have TG:(obj d6 tk).opens=(obj S.O tk).opens:=fu aT.opens dw wY
  have TH:(obj d6 tk).data=(obj S.O tk).data:=fu aT.data dw wZ
  refine NN (af.region (gK 2 [(22,vP f),(23,.iface 132 (vP (L.b tk)))] [] ?_))
  refine gL [1,0,3] (qd { S.X with ah:=S.X.ah - 1 } f m t (hI.yx hd hlk) d6 L S.idx hI.rise ⟨tk,3⟩ Be (by simp) (by rw [TG];exact hop.1) (fun _=>by rw [Qm,hid.1];exact hlv) (by rw [Qm];exact o3) (by rw [TH];exact hdl)) ?_
  rintro _ _ ⟨rfl,rfl⟩
  refine NL ?_
  exact RF (l:=[pF f m t { S.X with ah:=S.X.ah - 1,used:=jN d6 S.X.used ⟨tk,3⟩ },pO d6 L,pE d6 L,pI m L (jx d6 S.idx ⟨tk,3⟩)]) (.tuple #[]) [1,0,3,2,4] (⟨rfl,by subst dw;subst cq;rw [show aH S d name ⟨tk,3⟩=_ from sJ nE]<;>rfl⟩)
 refine af.skip ?_
 exact RF (l:=[pF f m t { S.X with ah:=S.X.ah - 1 },pO cF L,pE cF L,pI m L S.idx]) (.tuple #[]) [0,1,2,3,4] (⟨rfl,by subst cq;rw [show aH S d name ⟨tk,3⟩=_ from sK nE]<;>rfl⟩)
theorem sS {β:Bs} (S:aG) (L:HL) (f m t:Nat) (hI:Inv S) (d:Nat) (hd:Live S.idx ⟨d,2⟩) (name:ByteArray) (hsz:name.size<=1048576) :
    Spec Tryz.prog β 125 #[vP f,vP (L.b d),.string name] [pF f m t S.X,pI m L S.idx,pE S.O L,pO S.O L] (fun v l=>v=vI (bZ S.X S.O S.idx d name)/\l=[pF f m t S.X,pI m L S.idx,pE S.O L,pO S.O L]):=by
 have hX:=hI.hX
 have hel:(obj S.O d).ah.length<=8192:=hI.fU hd
 have hkd:(obj S.O d).kind=2:=hI.kind hd
 refine Spec.enter Tryz.func125 rfl Tryz.ntmps125 (Nat.le_of_ble_eq_true rfl) (fun R=>?_)
 refine af.seq ?_
 rcases hI.lD hd name with hlk|⟨tk,hlk,hlv⟩|⟨tk,hlk,hlv⟩|⟨tk,hlk,hlv⟩
 ·refine af.region (gK 1 [] [] ?_)
  refine NN (af.seq (SR (gK 5 [(10,.map (some (L.m d))),(11,.string name)] [(3,v_ 3 (bC L hkd))] ?_)))
  refine iu 2 hkd hlk ?_
  refine gK 1 [(13,.bool false)] [] ?_
  refine NN (CF (af.skip (NX (af.seq (SR (gK 1 [(14,vP f)] [] ?_))))))
  refine gL [0,1] (E0 S.X f m t L S.idx) ?_
  rintro _ _ ⟨rfl,rfl⟩
  refine gK 1 [(16,.bool (!(decide (((S.idx.length:Int) < S.X.cN/\S.X.last < 1099511627776/\S.X.ah < 8192)))))] [] ?_
  refine NN (af.cY (p:=((S.idx.length:Int) < S.X.cN/\S.X.last < 1099511627776/\S.X.ah < 8192)) (fun _=>by kernel_rfl) (fun tU=>?_) (fun tU=>?_))
  ·refine SR (gK 1 [(6,vI 177)] [] ?_)
   refine NN (af.ret (ai.ak ?_))
   exact RT (vI 177) [0,1,2,3,4] (⟨congrArg (Value.int .i64) (Eq.symm (show bZ S.X S.O S.idx d name=_ from (if_pos hlk).trans (if_neg tU))),rfl⟩)
  refine af.skip (NX (SR (gK 1 [(6,vI 0)] [] ?_)))
  refine NN (af.ret ?_)
  exact RT (vI 0) [0,1,2,3,4] (⟨congrArg (Value.int .i64) (Eq.symm (show bZ S.X S.O S.idx d name=_ from (if_pos hlk).trans (if_pos tU))),rfl⟩)
 ·have hkt:(obj S.O tk).kind=1:=hI.kind hlv
  refine af.region (gK 1 [] [] ?_)
  refine NN (af.seq (SR (gK 5 [(10,.map (some (L.m d))),(11,.string name)] [(3,v_ 3 (bC L hkd))] ?_)))
  refine iu 2 hkd hlk ?_
  refine gK 1 [(13,.bool true)] [] ?_
  refine NN (CT (SR (gK 1 [(6,vI 171)] [] ?_)))
  refine NN (af.ret (ai.ak ?_))
  exact RT (vI 171) [0,1,2,3,4] (⟨congrArg (Value.int .i64) (Eq.symm (show bZ S.X S.O S.idx d name=_ from if_neg (by rw [hlk];simp))),rfl⟩)
 ·have hkt:(obj S.O tk).kind=2:=hI.kind hlv
  refine af.region (gK 1 [] [] ?_)
  refine NN (af.seq (SR (gK 5 [(10,.map (some (L.m d))),(11,.string name)] [(3,v_ 3 (bC L hkd))] ?_)))
  refine iu 2 hkd hlk ?_
  refine gK 1 [(13,.bool true)] [] ?_
  refine NN (CT (SR (gK 1 [(6,vI 171)] [] ?_)))
  refine NN (af.ret (ai.ak ?_))
  exact RT (vI 171) [0,1,2,3,4] (⟨congrArg (Value.int .i64) (Eq.symm (show bZ S.X S.O S.idx d name=_ from if_neg (by rw [hlk];simp))),rfl⟩)
 have hkt:(obj S.O tk).kind=3:=hI.kind hlv
 refine af.region (gK 1 [] [] ?_)
 refine NN (af.seq (SR (gK 5 [(10,.map (some (L.m d))),(11,.string name)] [(3,v_ 3 (bC L hkd))] ?_)))
 refine iu 2 hkd hlk ?_
 refine gK 1 [(13,.bool true)] [] ?_
 refine NN (CT (SR (gK 1 [(6,vI 171)] [] ?_)))
 refine NN (af.ret (ai.ak ?_))
 exact RT (vI 171) [0,1,2,3,4] (⟨congrArg (Value.int .i64) (Eq.symm (show bZ S.X S.O S.idx d name=_ from if_neg (by rw [hlk];simp))),rfl⟩)
theorem OE {β:Bs} (s:ByteArray) (hsz:s.size<=1048576) :
    Spec Tryz.prog β 167 #[.string s] [] (fun v l=>v=vI (mH s)/\l=[]):=by
 refine Spec.enter Tryz.func167 rfl Tryz.ntmps167 (Nat.le_of_ble_eq_true rfl) (fun R=>?_)
 refine SR (gK 1 [] [] ?_)
 refine NN (af.seq (af.block (SR ?_)))
 refine gK 3 [(3,.bool (decide ((s:ByteArray)=⟨#[]⟩)))] [(1,p_ ⟨[],none,none,none,some (.bool (decide ((s:ByteArray)=⟨#[]⟩)))⟩ [(Value.bool ((s:ByteArray).toList == (⟨#[]⟩:ByteArray).toList))=(.bool (decide ((s:ByteArray)=⟨#[]⟩)))] ⟨tK _ _,trivial⟩)] ?_
 refine NN (af.bg (p:=(s:ByteArray)=⟨#[]⟩) (fun _=>by kernel_rfl) (fun h3=>?_) (fun h3=>?_))
 ·refine SR (gK 1 [(2,vI 90)] [] ?_)
  refine NN (af.ret (ai.aF (ai.ak ?_)))
  exact RT (vI 90) [0] (⟨congrArg (Value.int .i64) (Eq.symm (show mH s=_ from if_pos h3)),rfl⟩)
 refine SR (gK 4 [(6,.bool (decide (((((s:ByteArray).size:Nat):Int):Int) > (4096:Int))))] [] ?_)
 refine NN (af.bg (p:=((((s:ByteArray).size:Nat):Int):Int) > (4096:Int)) (fun _=>by kernel_rfl) (fun h6=>?_) (fun h6=>?_))
 ·refine SR (gK 1 [(2,vI 93)] [] ?_)
  refine NN (af.ret (ai.aF (ai.ak ?_)))
  exact RT (vI 93) [0] (⟨congrArg (Value.int .i64) (Eq.symm (show mH s=_ from (if_neg h3).trans (if_pos (by omega)))),rfl⟩)
 refine SR (gK 1 [(11,.string s)] [] ?_)
 refine gL [] (FU s) ?_
 rintro _ _ ⟨⟨x,rfl,hx⟩,rfl⟩
 refine gK 2 [(10,.bool (decide ((x:Int) ≥ (0:Int))))] [] ?_
 refine NN (af.bg (p:=(x:Int) ≥ (0:Int)) (fun _=>by kernel_rfl) (fun h10=>?_) (fun h10=>?_))
 ·refine SR (gK 1 [(2,vI 91)] [] ?_)
  refine NN (af.ret (ai.aF (ai.ak ?_)))
  exact RT (vI 91) [0] (⟨congrArg (Value.int .i64) (Eq.symm (show mH s=_ from (if_neg h3).trans ((if_neg (by omega)).trans (if_neg (hx.1 (by omega)))))),rfl⟩)
 refine af.skip (ai.aJ (NX (SR ?_)))
 refine gK 1 [(2,vI 0)] [] ?_
 refine NN (af.ret ?_)
 exact RT (vI 0) [0] (⟨congrArg (Value.int .i64) (Eq.symm (show mH s=_ from (if_neg h3).trans ((if_neg (by omega)).trans (if_pos (Classical.byContradiction (fun hn=>absurd (hx.2 hn) (by omega))))))),rfl⟩)
theorem rV {β:Bs} (S:aG) (L:HL) (f m t:Nat) (th:Th) (hkt:(obj S.O th.k).kind=th.kind) (h3:th.kind=1\/th.kind=2\/th.kind=3) (hop:0<=(obj S.O th.k).opens/\(obj S.O th.k).opens<=1048576) :
    Spec Tryz.prog β 121 #[vP f,(dJ L th)] [pF f m t S.X,pT t S.X.cH S.av L S.us,pO S.O L] (fun v l=>v=.tuple #[vI (ct S th).1,vI (ct S th).2.1]/\l=[pF f m t S.X,pT t S.X.cH ((ct S th).2.2.av) L ((ct S th).2.2.us),pO ((ct S th).2.2.O) L]):=by
 refine Spec.enter Tryz.func121 rfl Tryz.ntmps121 (Nat.le_of_ble_eq_true rfl) (fun R=>?_)
 refine af.seq ?_
 obtain⟨tk,kd⟩:=th;simp only at hkt h3;rcases Int.lt_or_le (S.us.length:Int) S.X.cH with sU|sU<;>rcases h3 with e0|e0|e0<;>subst e0
 ·replace hkt:(obj S.O tk).kind=1:=hkt
  replace hop:0<=(obj S.O tk).opens/\(obj S.O tk).opens<=1048576:=hop
  refine af.region (gK 2 [] [] ?_)
  refine NS (gK 5 [(12,vP t),(13,.iface 129 (vP (L.b tk)))] [(3,a_ 0 f)] ?_)
  refine gL [1] ((zi t S.X.cH S.av (bn L S.us) (dJ L ⟨tk,1⟩) (by rw [oU];exact sU)).mono (fun v l h=>BZ h)) ?_
  rintro _ _ ⟨rfl,rfl⟩
  refine gK 5 [(6,vI ((aB.least S.us))),(7,vI 0)] [] ?_
  refine NN (af.seq (SR (gK 2 [(18,.bool true)] [] ?_)))
  refine NN (CT (af.region (gK 1 [(19,.iface 129 (vP (L.b tk)))] [] ?_)))
  refine gL [] (dm (L.b tk)) ?_
  rintro _ _ ⟨rfl,rfl⟩
  refine gK 6 (Qi S tk L) [(2,v_ 2 (jI L hkt)),(3,p_ ⟨[],none,none,none,some (vI ((obj S.O tk).opens+1))⟩ [(Value.int .i64 (IntKind.wrap .i64 ((obj S.O tk).opens+1)))=(.int .i64 ((obj S.O tk).opens+1))] ⟨bw (by omega) (by omega) (by omega),trivial⟩)] ?_
  refine rT 2 [] tk 7 (fun o=>{ o with opens:=o.opens+1 }) hkt (fun cF cq=>?_)
  have Vf:=ku cq hkt
  refine NS (gK 4 [(4,vI ((aB.least S.us))),(5,vI 0)] [] ?_)
  refine NN (af.ret ?_)
  exact RT (l:=[pF f m t S.X,pT t S.X.cH (max S.av ((S.us.length:Int)+1)) L (ins (aB.least S.us) ⟨tk,1⟩ S.us),pO cF L]) (.tuple #[vI ((aB.least S.us)),vI 0]) [1,0,2,3] (by subst cq;rw [show ct S ⟨tk,1⟩=_ from kD sU]<;>exact⟨rfl,rfl⟩)
 ·replace hkt:(obj S.O tk).kind=2:=hkt
  replace hop:0<=(obj S.O tk).opens/\(obj S.O tk).opens<=1048576:=hop
  refine af.region (gK 2 [] [] ?_)
  refine NS (gK 5 [(12,vP t),(13,.iface 135 (vP (L.b tk)))] [(3,a_ 0 f)] ?_)
  refine gL [1] ((zi t S.X.cH S.av (bn L S.us) (dJ L ⟨tk,2⟩) (by rw [oU];exact sU)).mono (fun v l h=>BZ h)) ?_
  rintro _ _ ⟨rfl,rfl⟩
  refine gK 5 [(6,vI ((aB.least S.us))),(7,vI 0)] [] ?_
  refine NN (af.seq (SR (gK 2 [(18,.bool true)] [] ?_)))
  refine NN (CT (af.region (gK 1 [(19,.iface 135 (vP (L.b tk)))] [] ?_)))
  refine gL [] (dm (L.b tk)) ?_
  rintro _ _ ⟨rfl,rfl⟩
  refine gK 6 (Qi S tk L) [(2,v_ 2 (jI L hkt)),(3,p_ ⟨[],none,none,none,some (vI ((obj S.O tk).opens+1))⟩ [(Value.int .i64 (IntKind.wrap .i64 ((obj S.O tk).opens+1)))=(.int .i64 ((obj S.O tk).opens+1))] ⟨bw (by omega) (by omega) (by omega),trivial⟩)] ?_
  refine rT 2 [] tk 7 (fun o=>{ o with opens:=o.opens+1 }) hkt (fun cF cq=>?_)
  have Ny:=ku cq hkt
  refine NS (gK 4 [(4,vI ((aB.least S.us))),(5,vI 0)] [] ?_)
  refine NN (af.ret ?_)
  exact RT (l:=[pF f m t S.X,pT t S.X.cH (max S.av ((S.us.length:Int)+1)) L (ins (aB.least S.us) ⟨tk,2⟩ S.us),pO cF L]) (.tuple #[vI ((aB.least S.us)),vI 0]) [1,0,2,3] (by subst cq;rw [show ct S ⟨tk,2⟩=_ from kD sU]<;>exact⟨rfl,rfl⟩)
 ·replace hkt:(obj S.O tk).kind=3:=hkt
  replace hop:0<=(obj S.O tk).opens/\(obj S.O tk).opens<=1048576:=hop
  refine af.region (gK 2 [] [] ?_)
  refine NS (gK 5 [(12,vP t),(13,.iface 132 (vP (L.b tk)))] [(3,a_ 0 f)] ?_)
  refine gL [1] ((zi t S.X.cH S.av (bn L S.us) (dJ L ⟨tk,3⟩) (by rw [oU];exact sU)).mono (fun v l h=>BZ h)) ?_
  rintro _ _ ⟨rfl,rfl⟩
  refine gK 5 [(6,vI ((aB.least S.us))),(7,vI 0)] [] ?_
  refine NN (af.seq (SR (gK 2 [(18,.bool true)] [] ?_)))
  refine NN (CT (af.region (gK 1 [(19,.iface 132 (vP (L.b tk)))] [] ?_)))
  refine gL [] (dm (L.b tk)) ?_
  rintro _ _ ⟨rfl,rfl⟩
  refine gK 6 (Qi S tk L) [(2,v_ 2 (jI L hkt)),(3,p_ ⟨[],none,none,none,some (vI ((obj S.O tk).opens+1))⟩ [(Value.int .i64 (IntKind.wrap .i64 ((obj S.O tk).opens+1)))=(.int .i64 ((obj S.O tk).opens+1))] ⟨bw (by omega) (by omega) (by omega),trivial⟩)] ?_
  refine rT 2 [] tk 7 (fun o=>{ o with opens:=o.opens+1 }) hkt (fun cF cq=>?_)
  have DQ:=ku cq hkt
  refine NS (gK 4 [(4,vI ((aB.least S.us))),(5,vI 0)] [] ?_)
  refine NN (af.ret ?_)
  exact RT (l:=[pF f m t S.X,pT t S.X.cH (max S.av ((S.us.length:Int)+1)) L (ins (aB.least S.us) ⟨tk,3⟩ S.us),pO cF L]) (.tuple #[vI ((aB.least S.us)),vI 0]) [1,0,2,3] (by subst cq;rw [show ct S ⟨tk,3⟩=_ from kD sU]<;>exact⟨rfl,rfl⟩)
 ·replace hkt:(obj S.O tk).kind=1:=hkt
  replace hop:0<=(obj S.O tk).opens/\(obj S.O tk).opens<=1048576:=hop
  refine af.region (gK 2 [] [] ?_)
  refine NS (gK 5 [(12,vP t),(13,.iface 129 (vP (L.b tk)))] [(3,a_ 0 f)] ?_)
  refine gL [1] (wz t S.X.cH S.av (bn L S.us) (dJ L ⟨tk,1⟩) (by rw [oU];exact sU)) ?_
  rintro _ _ ⟨rfl,rfl⟩
  refine gK 5 [(6,vI 0),(7,vI 130)] [] ?_
  refine NN (af.seq (SR (gK 2 [(18,.bool false)] [] ?_)))
  refine NN (CF (af.skip (NX (SR (gK 4 [(4,vI 0),(5,vI 130)] [] ?_)))))
  refine NN (af.ret ?_)
  exact RT (.tuple #[vI 0,vI 130]) [1,0,2,3] (by skip;rw [show ct S ⟨tk,1⟩=_ from lK (by omega)]<;>exact⟨rfl,rfl⟩)
 ·replace hkt:(obj S.O tk).kind=2:=hkt
  replace hop:0<=(obj S.O tk).opens/\(obj S.O tk).opens<=1048576:=hop
  refine af.region (gK 2 [] [] ?_)
  refine NS (gK 5 [(12,vP t),(13,.iface 135 (vP (L.b tk)))] [(3,a_ 0 f)] ?_)
  refine gL [1] (wz t S.X.cH S.av (bn L S.us) (dJ L ⟨tk,2⟩) (by rw [oU];exact sU)) ?_
  rintro _ _ ⟨rfl,rfl⟩
  refine gK 5 [(6,vI 0),(7,vI 130)] [] ?_
  refine NN (af.seq (SR (gK 2 [(18,.bool false)] [] ?_)))
  refine NN (CF (af.skip (NX (SR (gK 4 [(4,vI 0),(5,vI 130)] [] ?_)))))
  refine NN (af.ret ?_)
  exact RT (.tuple #[vI 0,vI 130]) [1,0,2,3] (by skip;rw [show ct S ⟨tk,2⟩=_ from lK (by omega)]<;>exact⟨rfl,rfl⟩)
 replace hkt:(obj S.O tk).kind=3:=hkt
 replace hop:0<=(obj S.O tk).opens/\(obj S.O tk).opens<=1048576:=hop
 refine af.region (gK 2 [] [] ?_)
 refine NS (gK 5 [(12,vP t),(13,.iface 132 (vP (L.b tk)))] [(3,a_ 0 f)] ?_)
 refine gL [1] (wz t S.X.cH S.av (bn L S.us) (dJ L ⟨tk,3⟩) (by rw [oU];exact sU)) ?_
 rintro _ _ ⟨rfl,rfl⟩
 refine gK 5 [(6,vI 0),(7,vI 130)] [] ?_
 refine NN (af.seq (SR (gK 2 [(18,.bool false)] [] ?_)))
 refine NN (CF (af.skip (NX (SR (gK 4 [(4,vI 0),(5,vI 130)] [] ?_)))))
 refine NN (af.ret ?_)
 exact RT (.tuple #[vI 0,vI 130]) [1,0,2,3] (by skip;rw [show ct S ⟨tk,3⟩=_ from lK (by omega)]<;>exact⟨rfl,rfl⟩)
theorem ez {β:Bs} (S:aG) (L:HL) (f m t:Nat) (hI:Inv S) (h:Int) (hw:(Lit.int .i64 h).wf=true) (name:ByteArray) (hsz:name.size<=1048576) (need:Int) :
    Spec Tryz.prog β 123 #[vP f,vI (h),.string name,vI (need)] [pF f m t S.X,pT t S.X.cH S.av L S.us,pO S.O L] (fun v l=>v=Tn L (dZ S.O S.us h name need)/\l=[pF f m t S.X,pT t S.X.cH S.av L S.us,pO S.O L]):=by
 refine Spec.enter Tryz.func123 rfl Tryz.ntmps123 (Nat.le_of_ble_eq_true rfl) (fun R=>?_)
 refine af.seq ?_
 rcases hI.hand h with dI|⟨tk,dI,hlv⟩|⟨tk,dI,hlv⟩
 ·refine af.region (gK 2 [] [] ?_)
  refine NS (gK 5 [(18,vP t),(19,vI (h))] [(3,a_ 0 f)] ?_)
  refine gL [1] (pX t S.X.cH S.av (bn L S.us) h hw (oV dI)) ?_
  rintro _ _ ⟨rfl,rfl⟩
  refine gK 5 [(10,.nilIface),(11,vI 131)] [] ?_
  refine NN (af.seq (SR (gK 2 [(24,.bool true)] [] ?_)))
  refine NN (CT (SR (gK 3 [(8,.pointer none),(9,vI 131)] [] ?_)))
  refine NN (af.ret (ai.ak ?_))
  exact RT (.tuple #[.pointer none,vI 131]) [1,0,2,3] (⟨by rw [show dZ S.O S.us h name need=.error 131 by unfold dZ;rw [dI]];rfl,rfl⟩)
 ·have hkt:(obj S.O tk).kind=1:=hI.kind hlv
  refine af.region (gK 2 [] [] ?_)
  refine NS (gK 5 [(18,vP t),(19,vI (h))] [(3,a_ 0 f)] ?_)
  refine gL [1] (kN t S.X.cH S.av (bn L S.us) h hw (dJ L ⟨tk,1⟩) (jW dI)) ?_
  rintro _ _ ⟨rfl,rfl⟩
  refine gK 5 [(10,.iface 129 (vP (L.b tk))),(11,vI 0)] [] ?_
  refine NN (af.seq (SR (gK 2 [(24,.bool false)] [] ?_)))
  refine NN (CF (af.skip (NX (SR (gK 7 [(12,.pointer none),(13,.bool false)] [] ?_)))))
  refine NN (af.seq (af.block (SR ?_)))
  refine gK 3 [(31,.bool true)] [] ?_
  refine NN (CT (SR (gK 2 [(8,.pointer none),(9,vI 173)] [] ?_)))
  refine NN (af.ret (ai.aF (ai.ak ?_)))
  exact RT (.tuple #[.pointer none,vI 173]) [1,0,2,3] (⟨by rw [show dZ S.O S.us h name need=.error 173 by unfold dZ;rw [dI];exact if_neg (by simp)];rfl,rfl⟩)
 have hkt:(obj S.O tk).kind=2:=hI.kind hlv
 refine af.region (gK 2 [] [] ?_)
 refine NS (gK 5 [(18,vP t),(19,vI (h))] [(3,a_ 0 f)] ?_)
 refine gL [1] (kN t S.X.cH S.av (bn L S.us) h hw (dJ L ⟨tk,2⟩) (jW dI)) ?_
 rintro _ _ ⟨rfl,rfl⟩
 refine gK 5 [(10,.iface 135 (vP (L.b tk))),(11,vI 0)] [] ?_
 refine NN (af.seq (SR (gK 2 [(24,.bool false)] [] ?_)))
 refine NN (CF (af.skip (NX (SR (gK 7 [(12,vP (L.b tk)),(13,.bool true)] [] ?_)))))
 refine NN (af.seq (af.block (SR ?_)))
 refine gK 3 [(31,.bool false)] [] ?_
 refine NN (CF (SR (gK 6 [(34,.bool (obj S.O tk).gone)] [(4,v_ 2 (mT L hkt))] ?_)))
 refine NN (af.cond (b:=(obj S.O tk).gone) (fun _=>by kernel_rfl) (fun yw=>?_) (fun yw=>?_))
 ·refine SR (gK 2 [(8,.pointer none),(9,vI 170)] [] ?_)
  refine NN (af.ret (ai.aF (ai.ak ?_)))
  exact RT (.tuple #[.pointer none,vI 170]) [1,0,2,3] (⟨by rw [show dZ S.O S.us h name need=.error 170 by unfold dZ;rw [dI];exact (if_pos rfl).trans (if_pos yw)];rfl,rfl⟩)
 refine SR (gK 1 [(41,.string name)] [] ?_)
 refine gL [] (rB name hsz) ?_
 rintro _ _ ⟨rfl,rfl⟩
 refine gK 2 [(40,.bool (!(decide (bJ name))))] [] ?_
 refine NN (af.cY (p:=bJ name) (fun _=>by kernel_rfl) (fun ND=>?_) (fun ND=>?_))
 ·refine SR (gK 2 [(8,.pointer none),(9,vI 95)] [] ?_)
  refine NN (af.ret (ai.aF (ai.ak ?_)))
  exact RT (.tuple #[.pointer none,vI 95]) [1,0,2,3] (⟨by rw [show dZ S.O S.us h name need=.error 95 by unfold dZ;rw [dI];exact (if_pos rfl).trans ((if_neg (by rw [yw];decide)).trans (if_neg ND))];rfl,rfl⟩)
 refine SR (gK 10 [(44,.bool (!(decide ((bits BinOp.and .i64 ((obj S.O tk).mode) need:Int)=(need:Int)))))] [(4,v_ 2 (rS L hkt))] ?_)
 refine NN (af.cY (p:=(bits BinOp.and .i64 ((obj S.O tk).mode) need:Int)=(need:Int)) (fun _=>by kernel_rfl) (fun Ju=>?_) (fun Ju=>?_))
 ·refine SR (gK 2 [(8,.pointer none),(9,vI 175)] [] ?_)
  refine NN (af.ret (ai.aF (ai.ak ?_)))
  exact RT (.tuple #[.pointer none,vI 175]) [1,0,2,3] (⟨by rw [show dZ S.O S.us h name need=.error 175 by unfold dZ;rw [dI];exact (if_pos rfl).trans ((if_neg (by rw [yw];decide)).trans ((if_pos ND).trans (if_neg Ju)))];rfl,rfl⟩)
 refine af.skip (ai.aJ (NX (SR ?_)))
 refine gK 3 [(8,vP (L.b tk)),(9,vI 0)] [] ?_
 refine NN (af.ret ?_)
 exact RT (.tuple #[vP (L.b tk),vI 0]) [1,0,2,3] (⟨by rw [show dZ S.O S.us h name need=.ok tk by unfold dZ;rw [dI];exact (if_pos rfl).trans ((if_neg (by rw [yw];decide)).trans ((if_pos ND).trans (if_pos Ju)))];rfl,rfl⟩)
theorem OG {β:Bs} (X:FM) (f m t:Nat) (hX:0<=X.ah/\X.ah<=1048576/\-1125899906842624<=X.used/\X.used<=1125899906842624/\0<=X.last/\X.last<=1125899906842624) (O:bY) (L:HL) (d:Nat) (hkd:(obj O d).kind=2) (name:ByteArray) (hsz:name.size<=1048576) (hno:aU name (obj O d).ah=none) (hel:(obj O d).ah.length<=1048576) (idx:Used Th) (hil:idx.length<=1048576) (th:Th) (hkt:(obj O th.k).kind=th.kind) (h3:th.kind=1\/th.kind=2\/th.kind=3) (hb:0<=(obj O th.k).links/\(obj O th.k).links<=1048576) (hni:aB.get idx (obj O th.k).id=none) (hw:(Lit.int .i64 (obj O th.k).id).wf=true) :
    Spec Tryz.prog β 127 #[vP f,vP (L.b d),.string name,(dJ L th)] [pF f m t X,pI m L idx,pO O L,pE O L] (fun v l=>v=.tuple #[]/\l=[pF f m t { X with ah:=X.ah+1 },pI m L (ins (obj O th.k).id th idx),pO (di X O d name th) L,pE (di X O d name th) L]):=by
 refine Spec.enter Tryz.func127 rfl Tryz.ntmps127 (Nat.le_of_ble_eq_true rfl) (fun R=>?_)
 refine af.seq ?_
 obtain⟨tk,kd⟩:=th;simp only at hkt h3;rcases h3 with rfl|rfl|rfl
 ·replace hkt:(obj O tk).kind=1:=hkt
  replace hni:aB.get idx (obj O tk).id=none:=hni
  replace hw:(Lit.int .i64 (obj O tk).id).wf=true:=hw
  refine af.bR (S:=(vK f m t X L idx O R)) [0,1,2,3,4,9,5,6,7,8,10] 6 [0,1,2,3,4] (by kernel_rfl) (by kernel_rfl) rfl (by kernel_rfl) ?_
  refine gR 0 [5,6,7,8,10] (E4 f L d name++[(3,.iface 129 (vP (L.b tk))),(11,.map (some m)),(12,.iface 129 (vP (L.b tk))),(17,.iface 129 (vP (L.b tk)))]) [0,1,2,3,4,9] [(3,a_ 0 f)] ?_
  refine mL [0,1,2,3,4] [] (dm (L.b tk)) ?_ (by rintro _ _ ⟨rfl,rfl⟩;rfl)
  rintro _ _ ⟨rfl,rfl⟩
  refine aK.cut (ι:=Unit) (fr':=fun (_:Unit)=>(Bg f L d name++[(3,.iface 129 (vP (L.b tk))),(11,.map (some m)),(14,vP (L.b tk)),(17,.iface 129 (vP (L.b tk)))])) (hp':=fun (_:Unit)=>(vK f m t X L idx O R)) [0,1,2,3,4] rfl rfl ?_ rfl (fun _=>by kernel_rfl) ?_
  ·refine gK 1 [(14,vP (L.b tk))] [] ?_
   refine NL ?_
   exact MD () [0,1,2,3,11,14,17] [0,1,2,3,4]
  rintro _
  refine aK.cut (ι:=Unit) (fr':=fun (_:Unit)=>(Bg f L d name++[(3,.iface 129 (vP (L.b tk))),(11,.map (some m)),(15,vP (L.b tk)),(17,.iface 129 (vP (L.b tk)))])) (hp':=fun (_:Unit)=>(vK f m t X L idx O R)) [0,1,2,3,4] rfl rfl ?_ rfl (fun _=>by kernel_rfl) ?_
  ·refine gK 1 [(15,vP (L.b tk))] [] ?_
   refine NL ?_
   exact MD () [0,1,2,3,11,15,17] [0,1,2,3,4]
  rintro _
  refine aK.cut (ι:=Unit) (fr':=fun (_:Unit)=>(Bg f L d name++[(3,.iface 129 (vP (L.b tk))),(11,.map (some m)),(16,vI ((obj O tk).id)),(17,.iface 129 (vP (L.b tk)))])) (hp':=fun (_:Unit)=>(vK f m t X L idx O R)) [0,1,2,3,4] rfl rfl ?_ rfl (fun _=>by kernel_rfl) ?_
  ·refine gK 1 [(16,vI ((obj O tk).id))] [(0,v_ 2 (qh L hkt))] ?_
   refine NL ?_
   exact MD () [0,1,2,3,11,16,17] [0,1,2,3,4]
  rintro _
  refine aK.last rfl rfl ?_
  refine aj.j7 1 (d:=none) (t:=120) (K:=3) (E:=124) (b:=m) (n:=idx.length) (f:=(bh (bn L idx))) (x:=(.tmp 11)) (ix:=(.tmp 16)) (y:=(.tmp 17)) (key:=.int .i64 ((obj O tk).id)) (u:=.iface 129 (vP (L.b tk))) (kl:=(.int .i64 (obj O tk).id)) (n':=(idx.length+1)) (f':=(bh (bn L (ins (obj O tk).id ⟨tk,1⟩ idx)))) (fun _=>by kernel_rfl) (by kernel_rfl) (fun _=>by kernel_rfl) (fun _=>by kernel_rfl) (fun _=>by kernel_rfl) dX Tryz.underlying120 (by unfold maxLen;omega) (gJ hw) (by rw [eY,hni];rfl) (qX (L:=L) (t:=⟨tk,1⟩) hni) ?_
  refine NL (ai.np (NX (af.region ?_)))
  refine gK 4 (Qg f L d name++[(21,.iface 129 (vP (L.b tk)))]) [] ?_
  refine gL [0,2,3] (iB X f m t hX O L d hkd name hsz hno hel ⟨tk,1⟩ hkt (by simp) hb) ?_
  rintro _ _ ⟨rfl,rfl⟩
  refine NL (ai.dz [(3,.abs (aL Tryz.prog 3 m (bh (bn L (ins (obj O tk).id ⟨tk,1⟩ idx))) ((ins (obj O tk).id ⟨tk,1⟩ idx).length)))] (fun w hS=>by rw [show (ins (obj O tk).id ⟨tk,1⟩ idx).length=idx.length+1 from iJ _ _ _];exact hS) ?_)
  exact RF (.tuple #[]) [0,3,1,2,4] (⟨rfl,rfl⟩)
 ·replace hkt:(obj O tk).kind=2:=hkt
  replace hni:aB.get idx (obj O tk).id=none:=hni
  replace hw:(Lit.int .i64 (obj O tk).id).wf=true:=hw
  refine af.bR (S:=(vK f m t X L idx O R)) [0,1,2,3,4,9,5,6,7,8,10] 6 [0,1,2,3,4] (by kernel_rfl) (by kernel_rfl) rfl (by kernel_rfl) ?_
  refine gR 0 [5,6,7,8,10] (E4 f L d name++[(3,.iface 135 (vP (L.b tk))),(11,.map (some m)),(12,.iface 135 (vP (L.b tk))),(17,.iface 135 (vP (L.b tk)))]) [0,1,2,3,4,9] [(3,a_ 0 f)] ?_
  refine mL [0,1,2,3,4] [] (dm (L.b tk)) ?_ (by rintro _ _ ⟨rfl,rfl⟩;rfl)
  rintro _ _ ⟨rfl,rfl⟩
  refine aK.cut (ι:=Unit) (fr':=fun (_:Unit)=>(Bg f L d name++[(3,.iface 135 (vP (L.b tk))),(11,.map (some m)),(14,vP (L.b tk)),(17,.iface 135 (vP (L.b tk)))])) (hp':=fun (_:Unit)=>(vK f m t X L idx O R)) [0,1,2,3,4] rfl rfl ?_ rfl (fun _=>by kernel_rfl) ?_
  ·refine gK 1 [(14,vP (L.b tk))] [] ?_
   refine NL ?_
   exact MD () [0,1,2,3,11,14,17] [0,1,2,3,4]
  rintro _
  refine aK.cut (ι:=Unit) (fr':=fun (_:Unit)=>(Bg f L d name++[(3,.iface 135 (vP (L.b tk))),(11,.map (some m)),(15,vP (L.b tk)),(17,.iface 135 (vP (L.b tk)))])) (hp':=fun (_:Unit)=>(vK f m t X L idx O R)) [0,1,2,3,4] rfl rfl ?_ rfl (fun _=>by kernel_rfl) ?_
  ·refine gK 1 [(15,vP (L.b tk))] [] ?_
   refine NL ?_
   exact MD () [0,1,2,3,11,15,17] [0,1,2,3,4]
  rintro _
  refine aK.cut (ι:=Unit) (fr':=fun (_:Unit)=>(Bg f L d name++[(3,.iface 135 (vP (L.b tk))),(11,.map (some m)),(16,vI ((obj O tk).id)),(17,.iface 135 (vP (L.b tk)))])) (hp':=fun (_:Unit)=>(vK f m t X L idx O R)) [0,1,2,3,4] rfl rfl ?_ rfl (fun _=>by kernel_rfl) ?_
  ·refine gK 1 [(16,vI ((obj O tk).id))] [(0,v_ 2 (qh L hkt))] ?_
   refine NL ?_
   exact MD () [0,1,2,3,11,16,17] [0,1,2,3,4]
  rintro _
  refine aK.last rfl rfl ?_
  refine aj.j7 1 (d:=none) (t:=120) (K:=3) (E:=124) (b:=m) (n:=idx.length) (f:=(bh (bn L idx))) (x:=(.tmp 11)) (ix:=(.tmp 16)) (y:=(.tmp 17)) (key:=.int .i64 ((obj O tk).id)) (u:=.iface 135 (vP (L.b tk))) (kl:=(.int .i64 (obj O tk).id)) (n':=(idx.length+1)) (f':=(bh (bn L (ins (obj O tk).id ⟨tk,2⟩ idx)))) (fun _=>by kernel_rfl) (by kernel_rfl) (fun _=>by kernel_rfl) (fun _=>by kernel_rfl) (fun _=>by kernel_rfl) dX Tryz.underlying120 (by unfold maxLen;omega) (gJ hw) (by rw [eY,hni];rfl) (qX (L:=L) (t:=⟨tk,2⟩) hni) ?_
  refine NL (ai.np (NX (af.region ?_)))
  refine gK 4 (Qg f L d name++[(21,.iface 135 (vP (L.b tk)))]) [] ?_
  refine gL [0,2,3] (iB X f m t hX O L d hkd name hsz hno hel ⟨tk,2⟩ hkt (by simp) hb) ?_
  rintro _ _ ⟨rfl,rfl⟩
  refine NL (ai.dz [(3,.abs (aL Tryz.prog 3 m (bh (bn L (ins (obj O tk).id ⟨tk,2⟩ idx))) ((ins (obj O tk).id ⟨tk,2⟩ idx).length)))] (fun w hS=>by rw [show (ins (obj O tk).id ⟨tk,2⟩ idx).length=idx.length+1 from iJ _ _ _];exact hS) ?_)
  exact RF (.tuple #[]) [0,3,1,2,4] (⟨rfl,rfl⟩)
 replace hkt:(obj O tk).kind=3:=hkt
 replace hni:aB.get idx (obj O tk).id=none:=hni
 replace hw:(Lit.int .i64 (obj O tk).id).wf=true:=hw
 refine af.bR (S:=(vK f m t X L idx O R)) [0,1,2,3,4,9,5,6,7,8,10] 6 [0,1,2,3,4] (by kernel_rfl) (by kernel_rfl) rfl (by kernel_rfl) ?_
 refine gR 0 [5,6,7,8,10] (E4 f L d name++[(3,.iface 132 (vP (L.b tk))),(11,.map (some m)),(12,.iface 132 (vP (L.b tk))),(17,.iface 132 (vP (L.b tk)))]) [0,1,2,3,4,9] [(3,a_ 0 f)] ?_
 refine mL [0,1,2,3,4] [] (dm (L.b tk)) ?_ (by rintro _ _ ⟨rfl,rfl⟩;rfl)
 rintro _ _ ⟨rfl,rfl⟩
 refine aK.cut (ι:=Unit) (fr':=fun (_:Unit)=>(Bg f L d name++[(3,.iface 132 (vP (L.b tk))),(11,.map (some m)),(14,vP (L.b tk)),(17,.iface 132 (vP (L.b tk)))])) (hp':=fun (_:Unit)=>(vK f m t X L idx O R)) [0,1,2,3,4] rfl rfl ?_ rfl (fun _=>by kernel_rfl) ?_
 ·refine gK 1 [(14,vP (L.b tk))] [] ?_
  refine NL ?_
  exact MD () [0,1,2,3,11,14,17] [0,1,2,3,4]
 rintro _
 refine aK.cut (ι:=Unit) (fr':=fun (_:Unit)=>(Bg f L d name++[(3,.iface 132 (vP (L.b tk))),(11,.map (some m)),(15,vP (L.b tk)),(17,.iface 132 (vP (L.b tk)))])) (hp':=fun (_:Unit)=>(vK f m t X L idx O R)) [0,1,2,3,4] rfl rfl ?_ rfl (fun _=>by kernel_rfl) ?_
 ·refine gK 1 [(15,vP (L.b tk))] [] ?_
  refine NL ?_
  exact MD () [0,1,2,3,11,15,17] [0,1,2,3,4]
 rintro _
 refine aK.cut (ι:=Unit) (fr':=fun (_:Unit)=>(Bg f L d name++[(3,.iface 132 (vP (L.b tk))),(11,.map (some m)),(16,vI ((obj O tk).id)),(17,.iface 132 (vP (L.b tk)))])) (hp':=fun (_:Unit)=>(vK f m t X L idx O R)) [0,1,2,3,4] rfl rfl ?_ rfl (fun _=>by kernel_rfl) ?_
 ·refine gK 1 [(16,vI ((obj O tk).id))] [(0,v_ 2 (qh L hkt))] ?_
  refine NL ?_
  exact MD () [0,1,2,3,11,16,17] [0,1,2,3,4]
 rintro _
 refine aK.last rfl rfl ?_
 refine aj.j7 1 (d:=none) (t:=120) (K:=3) (E:=124) (b:=m) (n:=idx.length) (f:=(bh (bn L idx))) (x:=(.tmp 11)) (ix:=(.tmp 16)) (y:=(.tmp 17)) (key:=.int .i64 ((obj O tk).id)) (u:=.iface 132 (vP (L.b tk))) (kl:=(.int .i64 (obj O tk).id)) (n':=(idx.length+1)) (f':=(bh (bn L (ins (obj O tk).id ⟨tk,3⟩ idx)))) (fun _=>by kernel_rfl) (by kernel_rfl) (fun _=>by kernel_rfl) (fun _=>by kernel_rfl) (fun _=>by kernel_rfl) dX Tryz.underlying120 (by unfold maxLen;omega) (gJ hw) (by rw [eY,hni];rfl) (qX (L:=L) (t:=⟨tk,3⟩) hni) ?_
 refine NL (ai.np (NX (af.region ?_)))
 refine gK 4 (Qg f L d name++[(21,.iface 132 (vP (L.b tk)))]) [] ?_
 refine gL [0,2,3] (iB X f m t hX O L d hkd name hsz hno hel ⟨tk,3⟩ hkt (by simp) hb) ?_
 rintro _ _ ⟨rfl,rfl⟩
 refine NL (ai.dz [(3,.abs (aL Tryz.prog 3 m (bh (bn L (ins (obj O tk).id ⟨tk,3⟩ idx))) ((ins (obj O tk).id ⟨tk,3⟩ idx).length)))] (fun w hS=>by rw [show (ins (obj O tk).id ⟨tk,3⟩ idx).length=idx.length+1 from iJ _ _ _];exact hS) ?_)
 exact RF (.tuple #[]) [0,3,1,2,4] (⟨rfl,rfl⟩)
end
end Go.Proofs.YtidjcblbdmfalaaGreat
