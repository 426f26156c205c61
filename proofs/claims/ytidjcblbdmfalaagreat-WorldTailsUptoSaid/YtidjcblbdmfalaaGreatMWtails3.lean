/-
  PROVED HERE: lemmas and contracts of functions (texts of this repo, joined; what the claim does not use is left out): Hu, TabMath2, Hv, Hw, Hx, Hy, Hz, Ac, Wo, Wx, ShelfS, SK, HG, Vp, Fz, Ws, GOk, Nw, Wn, WD, Hc, Hd, H1, H2, H3.
  CONDITIONS: as the theorems say.
-/
import Derived.Test.YtidjcblbdmfalaaGreatMWtails2
import Derived.Lib.Split
import Derived.Shelf.SlGeneric
import Derived.Shelf.SlIter.Nil
import Derived.Shelf.SortM.Plain
import Derived.Shelf.SortM.SortNone
import Derived.Ground.GgzProg
import Derived.Ground.SlgmProg
import Derived.Test.YtidjcblbdmfalaaGreatProg
set_option maxRecDepth 100000
set_option maxHeartbeats 4000000
namespace Go.Proofs.YtidjcblbdmfalaaGreat
section
open Go.RowKit Go.Maps bH aE
section new
variable {S:aI} {d:Nat} {name:ByteArray} {t:Th} {o:aV} {us':Used Th} {gh:Int}
theorem Inv0.newAt (hI:Inv0 S) {k0:Nat} (hlt:S.X.last < (k0:Int)) (hle:(k0:Int)<=1099511627776) {kF:Int} (Wo:kF=S.X.used+o.data.length/\kF<=140737488355328) (hid:o.id=(k0:Int)) (hk3:o.kind=1\/o.kind=2\/o.kind=3) (hl0:o.links=0) (he0:o.ah=[]) (hu0:o.up=none) (hg0:o.gone=false) (hm:kI o) (hlen:S.idx.length < 4096)
    (u1:aE.dh (keys us')) (u2:∀ x∈keys us',1<=x/\x<=gh) (u3:(us'.length:Int)<=S.X.cH) (u4:0<=gh/\gh<=S.X.cH) (u5:∀ h t,aE.get us' h=some t->(Live S.idx t\/t=⟨k0,o.kind⟩)/\t.kind≠3) (u6:∀ k,k≠k0->hnd us' k=hnd S.us k) (u7:o.opens=(hnd us' (k0):Int)) :
    Inv0 { S with X:={ S.X with last:=(k0:Int),used:=kF },O:=aF S.O (k0) (fun _=>o),idx:=ins ((k0:Int)) ⟨k0,o.kind⟩ S.idx,us:=us',aD:=gh }:=by
  have hnot:aE.get S.idx ((k0:Int))=none:=by
    cases e:aE.get S.idx ((k0:Int)) with
    | none=>rfl
    | some u=>have:=(hI.idx _ u e).2.2;omega
  have hget:∀ i,aE.get (ins ((k0:Int)) ⟨k0,o.kind⟩ S.idx) i=if i=(k0:Int) then some ⟨k0,o.kind⟩ else aE.get S.idx i:=fun i=>su (get_none.1 hnot) i
  have fo:∀ x,Live (ins ((k0:Int)) ⟨k0,o.kind⟩ S.idx) x↔x=⟨k0,o.kind⟩\/Live S.idx x:=fun x=>by
    unfold Live
    rw [hget]
    constructor
    ·intro h
     split at h
     ·exact .inl (Option.some.inj h).symm
     exact .inr h
    rintro (h|h)
    ·subst h;rw [if_pos rfl]
    rw [if_neg (by intro e;rw [e,hnot] at h;cases h)];exact h
  have oN:obj (aF S.O (k0) (fun _=>o)) (k0)=o:=bR
  have oX:∀ x,Live S.idx x->obj (aF S.O (k0) (fun _=>o)) x.k=obj S.O x.k:=fun x hx=>cG (hI.free hlt hx)
  have hfr:=hI.C9 hlt
  have hmem:∀ p∈S.idx,obj (aF S.O (k0) (fun _=>o)) p.2.k=obj S.O p.2.k:=fun p hp=>cG (hfr.idx p hp)
  have hsum:∀ g:aV->Nat,g o=0->dP (fun p:Int×Th=>g (obj (aF S.O (k0) (fun _=>o)) p.2.k)) (ins ((k0:Int)) ⟨k0,o.kind⟩ S.idx)=dP (fun p:Int×Th=>g (obj S.O p.2.k)) S.idx:=fun g hg=>by
    rw [Az]
    show g (obj _ (k0))+_=_
    rw [oN,hg,Nat.zero_add]
    exact fZ (fun p hp=>by rw [hmem p hp])
  refine { hI with last:=?_,rise:=?_,len:=?_,idx:=fun i x e=>?_,ob:=fun x hx=>?_,mt:=fun x hx=>?_,ah:=fun x hx e he=>?_,sorted:=fun x hx=>?_,dead:=fun x hx=>?_,rU:=fun x hx=>?_,total:=?_,links:=fun x hx=>?_,once:=fun x hx hk=>?_,opens:=fun x hx=>?_,usr:=u1,xQ:=u2,DV:=u3,aD:=u4,us:=fun h x e=>?_,gone:=fun x hx jk=>?_,up:=fun x hx e=>?_,deep:=?_,used:=?_ }
  ·have:=hI.last
   show 0<=(k0:Int)/\(k0:Int)<=1099511627776
   omega
  ·exact vV hI.rise (get_none.1 hnot)
  ·have:=hI.cN
   show (ins ((k0:Int)) _ S.idx).length<=4096
   rw [iP];omega
  ·have e:aE.get (ins ((k0:Int)) ⟨k0,o.kind⟩ S.idx) i=some x:=e
   rw [hget] at e
   have:=hI.last
   show i=(x.k:Int)/\0 < i/\i<=(k0:Int)
   split at e
   ·cases e
    rename_i e2
    refine⟨by rw [e2],by omega,by omega⟩
   have:=hI.idx i x e
   omega
  ·show (obj (aF S.O (k0) (fun _=>o)) x.k).id=_/\(obj (aF S.O (k0) (fun _=>o)) x.k).kind=_/\_
   rcases (fo x).1 hx with h|h
   ·subst h;rw [oN];exact⟨hid,rfl,hk3⟩
   rw [oX x h];exact hI.ob x h
  ·show kI (obj (aF S.O (k0) (fun _=>o)) x.k)
   rcases (fo x).1 hx with h|h
   ·subst h;rw [oN];exact hm
   rw [oX x h];exact hI.mt x h
  ·have he:e∈(obj (aF S.O (k0) (fun _=>o)) x.k).ah:=he
   rcases (fo x).1 hx with h|h
   ·subst h;rw [oN,he0] at he;cases he
   rw [oX x h] at he
   have h1:=hI.ah x h e he
   exact⟨h1.1,(fo _).2 (.inr h1.2)⟩
  ·show jO (obj (aF S.O (k0) (fun _=>o)) x.k).ah
   rcases (fo x).1 hx with h|h
   ·subst h;rw [oN,he0];exact List.Pairwise.nil
   rw [oX x h];exact hI.sorted x h
  ·show (obj (aF S.O (k0) (fun _=>o)) x).ah=[]/\(obj (aF S.O (k0) (fun _=>o)) x).up=none
   have h1:x≠k0:=fun e=>hx ⟨k0,o.kind⟩ ((fo _).2 (.inl rfl)) e.symm
   rw [cG h1]
   exact hI.dead x (fun u hu=>hx u ((fo _).2 (.inr hu)))
  ·have hx:(k0:Int) < (x:Int):=hx
   show (obj (aF S.O (k0) (fun _=>o)) x).kind=0
   rw [cG (fun e=>by rw [e] at hx;omega)]
   exact hI.rU x (by omega)
  ·show S.X.ah=(tot _ _:Int)/\S.X.ah<=8192
   have:tot (ins ((k0:Int)) ⟨k0,o.kind⟩ S.idx) (aF S.O (k0) (fun _=>o))=tot S.idx S.O:=hsum (fun o=>o.ah.length) (by rw [he0];rfl)
   rw [this];exact hI.total
  ·show (obj (aF S.O (k0) (fun _=>o)) x.k).links=(iz _ _ x.k:Int)
   have:iz (ins ((k0:Int)) ⟨k0,o.kind⟩ S.idx) (aF S.O (k0) (fun _=>o)) x.k=iz S.idx S.O x.k:=hsum (fun o=>o.ah.countP (fun e:ByteArray×Th=>decide (e.2.k=x.k))) (by rw [he0];rfl)
   rw [this]
   rcases (fo x).1 hx with h|h
   ·subst h
    rw [oN,hl0]
    have:iz S.idx S.O (k0)=0:=by
      apply Classical.byContradiction
      intro hne
      obtain⟨i,u,hu,e,he,hek⟩:=BO hI.rise (Nat.pos_of_ne_zero hne)
      exact hfr.ah u.k e he hek
    rw [this];rfl
   rw [oX x h];exact hI.links x h
  ·show (obj (aF S.O (k0) (fun _=>o)) x.k).links<=1
   rcases (fo x).1 hx with h|h
   ·subst h;rw [oN,hl0];decide
   rw [oX x h];exact hI.once x h hk
  ·show (obj (aF S.O (k0) (fun _=>o)) x.k).opens=(hnd us' x.k:Int)
   rcases (fo x).1 hx with h|h
   ·subst h;rw [oN];exact u7
   rw [oX x h,u6 _ (hI.free hlt h)];exact hI.opens x h
  ·obtain⟨h1,h2⟩:=u5 h x e
   exact⟨(fo x).2 h1.symm,h2⟩
  ·have jk:(obj (aF S.O (k0) (fun _=>o)) x.k).gone=true:=jk
   show (obj (aF S.O (k0) (fun _=>o)) x.k).links=0/\(obj (aF S.O (k0) (fun _=>o)) x.k).ah=[]
   rcases (fo x).1 hx with h|h
   ·subst h;rw [oN,hg0] at jk;cases jk
   rw [oX x h] at jk ⊢;exact hI.gone x h jk
  ·show (obj (aF S.O (k0) (fun _=>o)) x.k).up=some e↔x.kind=2/\Live _ ⟨e,2⟩/\∃ n,aX n (obj (aF S.O (k0) (fun _=>o)) e).ah=some x
   rcases (fo x).1 hx with h|h
   ·subst h
    rw [oN,hu0]
    constructor
    ·intro h;cases h
    rintro⟨_,hle,n,h⟩
    by_cases e2:e=k0
    ·rw [e2,oN,he0] at h;cases h
    rw [cG e2] at h;exact absurd rfl (hfr.ah e _ (mD h))
   rw [oX x h,hI.up x h e]
   constructor
   ·rintro⟨h1,h2,n,h3⟩
    exact⟨h1,(fo _).2 (.inr h2),n,by rw [oX ⟨e,2⟩ h2];exact h3⟩
   rintro⟨h1,h2,n,h3⟩
   by_cases e2:e=k0
   ·rw [e2,oN,he0] at h3;cases h3
   rw [cG e2] at h3
   refine⟨h1,?_,n,h3⟩
   rcases (fo _).1 h2 with h4|h4
   ·exact absurd (congrArg Th.k h4) e2
   exact h4
  ·obtain⟨dp,hdp⟩:=hI.deep
   refine⟨dp,fun x e hx=>?_⟩
   have hx:(obj (aF S.O (k0) (fun _=>o)) x).up=some e:=hx
   by_cases e2:x=k0
   ·rw [e2,oN,hu0] at hx;cases hx
   rw [cG e2] at hx;exact hdp _ _ hx
  show kF=(bytes _ _:Int)/\_
  have h1:bytes (ins (k0:Int) ⟨k0,o.kind⟩ S.idx) (aF S.O k0 (fun _=>o))=o.data.length+bytes S.idx S.O:=by
    unfold bytes
    rw [Az]
    show (obj _ k0).data.length+_=_
    rw [oN]
    congr 1
    exact fZ (fun p hp=>by rw [hmem p hp])
  have h2:=hI.used
  rw [h1]
  show kF=_/\kF<=140737488355328
  omega
theorem Inv0.new (hI:Inv0 S) (hid:o.id=S.X.last+1) (hk3:o.kind=1\/o.kind=2\/o.kind=3) (hl0:o.links=0) (he0:o.ah=[]) (hu0:o.up=none) (hg0:o.gone=false) (QT:o.data=[]) (hm:kI o) (hlast:S.X.last < 1099511627776) (hlen:(S.idx.length:Int) < S.X.cN)
    (u1:aE.dh (keys us')) (u2:∀ x∈keys us',1<=x/\x<=gh) (u3:(us'.length:Int)<=S.X.cH) (u4:0<=gh/\gh<=S.X.cH) (u5:∀ h t,aE.get us' h=some t->(Live S.idx t\/t=⟨aR S.X,o.kind⟩)/\t.kind≠3) (u6:∀ k,k≠aR S.X->hnd us' k=hnd S.us k) (u7:o.opens=(hnd us' (aR S.X):Int)) :
    Inv0 { S with X:={ S.X with last:=S.X.last+1 },O:=aF S.O (aR S.X) (fun _=>o),idx:=ins (S.X.last+1) ⟨aR S.X,o.kind⟩ S.idx,us:=us',aD:=gh }:=by
  have hnk:=qf hI
  have h:=hI.newAt (k0:=aR S.X) (kF:=S.X.used) (by omega) (by omega) ⟨by rw [QT];simp,hI.used.2⟩ (hid.trans hnk.symm) hk3 hl0 he0 hu0 hg0 hm (by have:=hI.cN;omega) u1 u2 u3 u4 u5 u6 u7
  rw [hnk] at h
  exact h
theorem Inv.add (hI:Inv S) (hd:Live S.idx ⟨d,2⟩) (iU:(obj S.O d).gone=false) (hn:aX name (obj S.O d).ah=none) (iM:bO name) (hroom:Room S.X S.idx)
    (hid:o.id=S.X.last+1) (hk3:o.kind=1\/o.kind=2\/o.kind=3) (hl0:o.links=0) (he0:o.ah=[]) (hu0:o.up=none) (hg0:o.gone=false) (QT:o.data=[]) (hm:kI o)
    (u1:aE.dh (keys us')) (u2:∀ x∈keys us',1<=x/\x<=gh) (u3:(us'.length:Int)<=S.X.cH) (u4:0<=gh/\gh<=S.X.cH) (u5:∀ h t,aE.get us' h=some t->(Live S.idx t\/t=⟨aR S.X,o.kind⟩)/\t.kind≠3) (u6:∀ k,k≠aR S.X->hnd us' k=hnd S.us k) (u7:o.opens=(hnd us' (aR S.X):Int)) :
    Inv (eY { S with us:=us',aD:=gh } d name o):=by
  have h1:=hI.toInv0.new hid hk3 hl0 he0 hu0 hg0 QT hm hroom.2.1 hroom.1 u1 u2 u3 u4 u5 u6 u7
  have hne:d≠aR S.X:=hI.uT hd
  have hnk:=qf hI.toInv0
  have hnot:aE.get S.idx (S.X.last+1)=none:=by
    cases e:aE.get S.idx (S.X.last+1) with
    | none=>rfl
    | some u=>have:=(hI.idx _ u e).2.2;omega
  have hget:∀ i,aE.get (ins (S.X.last+1) ⟨aR S.X,o.kind⟩ S.idx) i=if i=S.X.last+1 then some ⟨aR S.X,o.kind⟩ else aE.get S.idx i:=fun i=>su (get_none.1 hnot) i
  have hdl:Live (ins (S.X.last+1) ⟨aR S.X,o.kind⟩ S.idx) ⟨d,2⟩:=by
    unfold Live
    rw [hget,if_neg (by intro e;have:aE.get S.idx ((d:Nat):Int)=some ⟨d,2⟩:=hd;rw [show ((⟨d,2⟩:Th).k:Int)=(d:Int) from rfl] at e;rw [e,hnot] at this;cases this)]
    exact hd
  have hnl:Live (ins (S.X.last+1) ⟨aR S.X,o.kind⟩ S.idx) ⟨aR S.X,o.kind⟩:=by
    unfold Live
    rw [hget,if_pos hnk]
  have oN:obj (aF S.O (aR S.X) (fun _=>o)) (aR S.X)=o:=bR
  have oD:obj (aF S.O (aR S.X) (fun _=>o)) d=obj S.O d:=cG hne
  have hnb:¬ jP (aF S.O (aR S.X) (fun _=>o)) (aR S.X) d:=fun hb=>by
    have key:∀ x,jP (aF S.O (aR S.X) (fun _=>o)) (aR S.X) x->x=aR S.X:=fun x hx=>by
      induction hx with
      | here=>rfl
      | @up k j hu _ ih=>
        subst ih
        by_cases e:k=aR S.X
        ·exact e
        rw [cG e] at hu;exact absurd hu (hI.fresh.up k)
    exact hne (key d hb)
  have h2:=h1.put (d:=d) (name:=name) (t:=⟨aR S.X,o.kind⟩) (O':=(eY { S with us:=us',aD:=gh } d name o).O) hdl (by rw [oD];exact iU) (by rw [oD];exact hn) iM hnl (by rw [oN];exact hg0) (fun _=>⟨by rw [oN];exact hl0,hnb⟩) (fun e=>hne e.symm) hroom.2.2 h1.now (fun k=>xR (fun e=>hne e.symm))
  refine⟨h2,fun x hx jk=>?_⟩
  have g1:∀ k,(obj (eY { S with us:=us',aD:=gh } d name o).O k).gone=(obj (aF S.O (aR S.X) (fun _=>o)) k).gone:=fun k=>nu (g:=aV.gone) (fun _ _=>rfl) (fun _ _=>rfl) (fun _ _ _=>rfl) (fun _ _=>rfl)
  have g2:∀ k,(obj (eY { S with us:=us',aD:=gh } d name o).O k).opens=(obj (aF S.O (aR S.X) (fun _=>o)) k).opens:=fun k=>nu (g:=aV.opens) (fun _ _=>rfl) (fun _ _=>rfl) (fun _ _ _=>rfl) (fun _ _=>rfl)
  rw [g1] at jk
  rw [g2]
  by_cases e:x.k=aR S.X
  ·rw [e,oN,hg0] at jk;cases jk
  rw [cG e] at jk ⊢
  refine hI.full x ?_ jk
  have hx:aE.get (ins (S.X.last+1) ⟨aR S.X,o.kind⟩ S.idx) x.k=some x:=hx
  rw [hget] at hx
  split at hx
  ·exact absurd (congrArg Th.k (Option.some.inj hx)).symm e
  exact hx
end new
section drop
variable {S:aI} {d:Nat} {name:ByteArray} {t:Th}
theorem iX {α:Type} {g:aV->α} {O:cg} {k j:Nat} (h:∀ o,g { o with up:=none }=g o):g (obj (orphan O j) k)=g (obj O k):=dR (f:=fun o=>{ o with up:=none }) h
theorem xT {O:cg} {k:Nat}:rT (orphan O k) t↔rT O t:=by
  unfold rT
  rw [iX (g:=aV.gone) (fun _=>rfl),iX (g:=aV.opens) (fun _=>rfl)]
theorem FA {O:cg} {k:Nat} {u:Int}:j3 (orphan O k) u t=j3 O u t:=by
  unfold j3
  simp only [xT,iX (g:=aV.data) (fun _=>rfl)]
theorem FB {O:cg} {k:Nat} {idx:Used Th}:jN (orphan O k) idx t=jN O idx t:=by
  unfold jN
  simp only [xT,iX (g:=aV.id) (fun _=>rfl)]
theorem Inv.drop (hI:Inv S) (hd:Live S.idx ⟨d,2⟩) (hl:aX name (obj S.O d).ah=some t) (he:t.kind=2->(obj S.O t.k).ah=[]):Inv { aK S d name t with O:=orphan (aK S d name t).O t.k }:=by
  have hne:=hI.ne hd hl
  have ht:=(hI.ent hd hl).2
  have hlk:(obj (aT S.X S.O d name t) t.k).links=(obj S.O t.k).links - 1:=by rw [jd hne,if_neg hne,if_pos rfl]
  have hfull:∀ (O2:cg),(∀ u,u≠t.k->(obj O2 u).gone=(obj S.O u).gone/\(obj O2 u).opens=(obj S.O u).opens)->∀ u,Live S.idx u->u≠t->(obj O2 u.k).gone=true->0 < (obj O2 u.k).opens:=fun O2 h u hu hut hg=>by
    have hk:u.k≠t.k:=fun e=>hut (gF hu ht e)
    rw [(h _ hk).1] at hg
    rw [(h _ hk).2]
    exact hI.full u hu hg
  by_cases h0:(obj (aT S.X S.O d name t) t.k).links=0
  ·have e1:aK S d name t=_:=tM h0
   have hO:∀ k,obj (orphan (qx (aT S.X S.O d name t) t.k) t.k) k=if k=d then { obj S.O d with ah:=gq name (obj S.O d).ah,sec:=S.X.cS,nano:=S.X.cZ } else if k=t.k then { obj S.O k with links:=(obj S.O k).links - 1,gone:=true,up:=none } else obj S.O k:=fun k=>by
     unfold orphan qx
     rw [tL,kf]
     by_cases e:k=t.k
     ·rw [if_pos e,jd hne,if_neg (fun e2=>hne (e.symm.trans e2)),if_pos e,if_neg (fun e2=>hne (e.symm.trans e2)),if_pos e]
     rw [if_neg e,jd hne,if_neg e,if_neg e]
   have h1:=hI.toInv0.cut hd hl hO (.inr ⟨by rw [← hlk];exact h0,he⟩)
   have h2:=h1.rV (t:=t) ht (hfull _ (fun u hu=>by
     rw [iX (g:=aV.gone) (fun _=>rfl),iX (g:=aV.opens) (fun _=>rfl)]
     show (obj (aF _ t.k _) u).gone=_/\(obj (aF _ t.k _) u).opens=_
     rw [cG hu,dL (g:=aV.gone) (fun _ _=>rfl) (fun _ _=>rfl) (fun _ _ _=>rfl),dL (g:=aV.opens) (fun _ _=>rfl) (fun _ _=>rfl) (fun _ _ _=>rfl)]
     exact⟨rfl,rfl⟩))
   rw [e1]
   unfold rV at h2
   simp only [FA,FB] at h2
   exact h2
  have e1:aK S d name t=_:=tN h0
  have hnd:t.kind≠2:=fun hk=>by
    have h1:=hI.once t ht hk
    have h2:=hI.links t ht
    have h3:0 < iz S.idx S.O t.k:=nk hd hl
    omega
  have Ji:(obj S.O t.k).up=none:=by
    cases hu:(obj S.O t.k).up with
    | none=>rfl
    | some e=>exact absurd ((hI.up t ht e).1 hu).1 hnd
  have hO:∀ k,obj (orphan (aT S.X S.O d name t) t.k) k=if k=d then { obj S.O d with ah:=gq name (obj S.O d).ah,sec:=S.X.cS,nano:=S.X.cZ } else if k=t.k then { obj S.O k with links:=(obj S.O k).links - 1,gone:=(obj S.O t.k).gone,up:=none } else obj S.O k:=fun k=>by
    unfold orphan
    rw [kf]
    by_cases e:k=t.k
    ·rw [if_pos e,jd hne,if_neg (fun e2=>hne (e.symm.trans e2)),if_pos e,if_neg (fun e2=>hne (e.symm.trans e2)),if_pos e,e]
    rw [if_neg e,jd hne,if_neg e,if_neg e]
  have h1:=hI.toInv0.cut hd hl hO (.inl rfl)
  rw [e1]
  refine⟨h1,fun u hu hg=>?_⟩
  have hg:(obj (orphan (aT S.X S.O d name t) t.k) u.k).gone=true:=hg
  show 0 < (obj (orphan (aT S.X S.O d name t) t.k) u.k).opens
  rw [iX (g:=aV.gone) (fun _=>rfl),dL (g:=aV.gone) (fun _ _=>rfl) (fun _ _=>rfl) (fun _ _ _=>rfl)] at hg
  rw [iX (g:=aV.opens) (fun _=>rfl),dL (g:=aV.opens) (fun _ _=>rfl) (fun _ _=>rfl) (fun _ _ _=>rfl)]
  exact hI.full u hu hg
theorem MV {k:Nat}:(obj (aK S d name t).O k).up=(obj S.O k).up:=by
  unfold aK
  simp only
  split
  ·exact (qg (g:=aV.up) (fun _ _=>rfl)).trans (dL (g:=aV.up) (fun _ _=>rfl) (fun _ _=>rfl) (fun _ _ _=>rfl))
  exact dL (g:=aV.up) (fun _ _=>rfl) (fun _ _=>rfl) (fun _ _ _=>rfl)
theorem Inv.y7 (hI:Inv S) (hd:Live S.idx ⟨d,2⟩) (hl:aX name (obj S.O d).ah=some t) (hk:t.kind≠2):Inv (aK S d name t):=by
  have h:=hI.drop hd hl (fun e=>absurd e hk)
  have ht:=(hI.ent hd hl).2
  have Ji:(obj S.O t.k).up=none:=by
    cases hu:(obj S.O t.k).up with
    | none=>rfl
    | some e=>exact absurd ((hI.up t ht e).1 hu).1 hk
  have e:orphan (aK S d name t).O t.k=(aK S d name t).O:=Pq (by
    have:(obj (aK S d name t).O t.k).up=none:=MV.trans Ji
    rw [← this])
  rw [e] at h
  exact h
end drop
end
end Go.Proofs.YtidjcblbdmfalaaGreat
section
namespace Go.Proofs.YtidjcblbdmfalaaGreat.aE
open bH
variable {V:Type}
theorem AJ (us:Used V):(keys us).length=us.length:=by simp [keys]
theorem least_le {us:Used V} (hr:dh (keys us)) (hp:∀ x∈keys us,1<=x):1<=least us/\least us∉keys us/\∀ x,1<=x->x < least us->x∈keys us:=nh (keys us) 1 hr hp
theorem xU:∀ (ks:List Int) (h:Int),iD h ks<=h+ks.length
  | [],h=>by simp [iD]
  | k::r,h=>by
    unfold iD
    split
    ·have:=xU r (h+1);simp only [List.length_cons];push_cast;omega
    simp only [List.length_cons];push_cast;omega
theorem GS (us:Used V):least us<=us.length+1:=by
  have:=xU (keys us) 1
  rw [AJ] at this
  unfold least;omega
end Go.Proofs.YtidjcblbdmfalaaGreat.aE
end
namespace Go.Proofs.YtidjcblbdmfalaaGreat
section
open Go.RowKit Go.Maps bH aE
section ops
variable {S:aI} {d to:Nat} {name toName:ByteArray} {t:Th}
theorem Inv.link (hI:Inv S) (hd:Live S.idx ⟨d,2⟩) (iU:(obj S.O d).gone=false) (hn:aX name (obj S.O d).ah=none) (iM:bO name) (ht:Live S.idx t) (Hz:(obj S.O t.k).gone=false) (hk:t.kind≠2) (hroom:S.X.ah < 8192) :
    Inv { S with X:={ S.X with ah:=S.X.ah+1 },O:=di S.X S.O d name t }:=by
  have hne:t.k≠d:=fun e=>hk (congrArg Th.kind (gF ht hd e))
  have h1:=hI.toInv0.put hd iU hn iM ht Hz (fun e=>absurd e hk) hne hroom hI.now (fun k=>xR hne)
  refine⟨h1,fun x hx hg=>?_⟩
  have hg:(obj (di S.X S.O d name t) x.k).gone=true:=hg
  show 0 < (obj (di S.X S.O d name t) x.k).opens
  rw [nu (g:=aV.gone) (fun _ _=>rfl) (fun _ _=>rfl) (fun _ _ _=>rfl) (fun _ _=>rfl)] at hg
  rw [nu (g:=aV.opens) (fun _ _=>rfl) (fun _ _=>rfl) (fun _ _ _=>rfl) (fun _ _=>rfl)]
  exact hI.full x hx hg
theorem j5 (hne:t.k≠d) {X:FM} {O:cg} (h:aX toName (obj O to).ah=none):aX toName (obj (aT X O d name t) to).ah=none:=by
  rw [jd hne]
  split
  ·rename_i e
   subst e
   show aX toName (gq name (obj O to).ah)=none
   rw [qI];split
   ·rfl
   exact h
  split
  ·exact h
  exact h
theorem Inv.move (hI:Inv S) (hd:Live S.idx ⟨d,2⟩) (hl:aX name (obj S.O d).ah=some t) (hto:Live S.idx ⟨to,2⟩) (iU:(obj S.O to).gone=false) (hn:aX toName (obj S.O to).ah=none) (iM:bO toName) (hb:t.kind=2->¬ jP S.O t.k to):Inv (nX S d name to toName t):=by
  have hne:=hI.ne hd hl
  have ht:=(hI.ent hd hl).2
  have MW:t.k≠to:=fun e=>by
    have h1:t=⟨to,2⟩:=gF ht hto e
    exact hb (by rw [h1]) (by rw [e];exact .here)
  have hgt:(obj S.O t.k).gone=false:=by
    cases hg:(obj S.O t.k).gone with
    | false=>rfl
    | true=>
      have h1:=(hI.gone t ht hg).1
      have h2:=hI.links t ht
      have h3:0 < iz S.idx S.O t.k:=nk hd hl
      omega
  have hO:∀ k,obj (orphan (aT S.X S.O d name t) t.k) k=if k=d then { obj S.O d with ah:=gq name (obj S.O d).ah,sec:=S.X.cS,nano:=S.X.cZ } else if k=t.k then { obj S.O k with links:=(obj S.O k).links - 1,gone:=(obj S.O t.k).gone,up:=none } else obj S.O k:=fun k=>by
    unfold orphan
    rw [kf]
    by_cases e:k=t.k
    ·rw [if_pos e,jd hne,if_neg (fun e2=>hne (e.symm.trans e2)),if_pos e,if_neg (fun e2=>hne (e.symm.trans e2)),if_pos e,e]
    rw [if_neg e,jd hne,if_neg e,if_neg e]
  have h1:=hI.toInv0.cut hd hl hO (.inl rfl)
  have g0:∀ {α:Type} (g:aV->α),(∀ o es,g { o with ah:=es }=g o)->(∀ o l,g { o with links:=l }=g o)->(∀ o a b,g { o with sec:=a,nano:=b }=g o)->(∀ o u,g { o with up:=u }=g o)->∀ k,g (obj (orphan (aT S.X S.O d name t) t.k) k)=g (obj S.O k):=fun g a b c e k=>(iX (fun o=>e o none)).trans (dL a b c)
  have hlk:=hI.links t ht
  have hlp:0 < iz S.idx S.O t.k:=nk hd hl
  have hend:(obj (orphan (aT S.X S.O d name t) t.k) to).ah=(obj (aT S.X S.O d name t) to).ah:=iX (g:=aV.ah) (fun _=>rfl)
  have h2:=h1.put (d:=to) (name:=toName) (t:=t) (O':=(nX S d name to toName t).O) hto (by
      show (obj (orphan (aT S.X S.O d name t) t.k) to).gone=false
      rw [g0 aV.gone (fun _ _=>rfl) (fun _ _=>rfl) (fun _ _ _=>rfl) (fun _ _=>rfl)];exact iU) (by
      show aX toName (obj (orphan (aT S.X S.O d name t) t.k) to).ah=none
      rw [hend];exact j5 hne hn) iM ht (by
      show (obj (orphan (aT S.X S.O d name t) t.k) t.k).gone=false
      rw [g0 aV.gone (fun _ _=>rfl) (fun _ _=>rfl) (fun _ _ _=>rfl) (fun _ _=>rfl)];exact hgt) (fun hk=>⟨by
        have h3:=hI.once t ht hk
        show (obj (orphan (aT S.X S.O d name t) t.k) t.k).links=0
        rw [hO,if_neg hne,if_pos rfl]
        show (obj S.O t.k).links - 1=0
        omega,fun hb2=>hb hk (Jh (fun x e hx=>by
          have hx:(obj (orphan (aT S.X S.O d name t) t.k) x).up=some e:=hx
          by_cases e1:x=t.k
          ·rw [hO,if_neg (by rw [e1];exact hne),if_pos e1] at hx;cases hx
          rw [hO] at hx
          split at hx
          ·rename_i e2;rw [e2];exact hx
          first|exact hx|(rw [if_neg e1] at hx;exact hx)) hb2)⟩) MW (by
      have:=hI.total
      show S.X.ah - 1 < 8192
      omega) hI.now (fun k=>by
      show obj (di S.X (aT S.X S.O d name t) to toName t) k=_
      rw [xR MW]
      by_cases e:k=to
      ·rw [if_pos e,if_pos e]
       have h3:obj (orphan (aT S.X S.O d name t) t.k) to=obj (aT S.X S.O d name t) to:=cG (fun e=>MW e.symm)
       rw [show obj _ to=_ from h3]
      rw [if_neg e,if_neg e]
      by_cases e2:k=t.k
      ·rw [if_pos e2,if_pos e2,e2]
       show _={ obj (orphan (aT S.X S.O d name t) t.k) t.k with links:=(obj (orphan (aT S.X S.O d name t) t.k) t.k).links+1,up:=if t.kind=2 then some to else (obj (orphan (aT S.X S.O d name t) t.k) t.k).up }
       have h3:obj (orphan (aT S.X S.O d name t) t.k) t.k={ obj (aT S.X S.O d name t) t.k with up:=none }:=bR
       rw [h3]
       by_cases hk:t.kind=2
       ·rw [if_pos hk,if_pos hk]
       rw [if_neg hk,if_neg hk]
       have Ji:(obj (aT S.X S.O d name t) t.k).up=none:=by
         rw [dL (g:=aV.up) (fun _ _=>rfl) (fun _ _=>rfl) (fun _ _ _=>rfl)]
         cases hu:(obj S.O t.k).up with
         | none=>rfl
         | some e=>exact absurd ((hI.up t ht e).1 hu).1 hk
       rw [Ji]
      rw [if_neg e2,if_neg e2]
      have h3:obj (orphan (aT S.X S.O d name t) t.k) k=obj (aT S.X S.O d name t) k:=cG e2
      exact h3.symm)
  refine⟨h2,fun x hx hg=>?_⟩
  have g3:∀ {α:Type} (g:aV->α),(∀ o es,g { o with ah:=es }=g o)->(∀ o l,g { o with links:=l }=g o)->(∀ o a b,g { o with sec:=a,nano:=b }=g o)->(∀ o u,g { o with up:=u }=g o)->∀ k,g (obj (nX S d name to toName t).O k)=g (obj S.O k):=fun g a b c e k=>(nu a b c e).trans (dL a b c)
  rw [g3 aV.gone (fun _ _=>rfl) (fun _ _=>rfl) (fun _ _ _=>rfl) (fun _ _=>rfl)] at hg
  rw [g3 aV.opens (fun _ _=>rfl) (fun _ _=>rfl) (fun _ _ _=>rfl) (fun _ _=>rfl)]
  exact hI.full x hx hg
theorem Db {us:Used Th} {h:Int} {k:Nat}:hnd (ins h t us) k=(if t.k=k then 1 else 0)+hnd us k:=Az
theorem PA {us:Used Th} {h:Int} {k:Nat} (hr:aE.dh (keys us)) (e:aE.get us h=some t):hnd (del h us) k+(if t.k=k then 1 else 0)=hnd us k:=AB (g:=fun p:Int×Th=>if p.2.k=k then 1 else 0) hr e
theorem HM {us:Used Th} {aD:Int} (hr:aE.dh (keys us)) (h1:∀ x∈keys us,1<=x/\x<=aD):aE.dh (keys (ins (aE.least us) t us))/\∀ x∈keys (ins (aE.least us) t us),1<=x/\x<=max aD ((us.length:Int)+1):=by
  obtain⟨g1,g2,_⟩:=least_le hr (fun x hx=>(h1 x hx).1)
  have g3:=GS us
  refine⟨vV hr g2,fun x hx=>?_⟩
  rcases (lq _ _ _ _).1 hx with e|e
  ·subst e;omega
  have:=h1 x e;omega
theorem Inv.cu (hI:Inv S) (ht:Live S.idx t) (hk:t.kind≠3):Inv (Proofs.YtidjcblbdmfalaaGreat.cu S t).2.2:=by
  by_cases hlt:(S.us.length:Int) < S.X.cH
  ·rw [kW hlt]
   obtain⟨g1,g2,_⟩:=least_le hI.usr (fun x hx=>(hI.xQ x hx).1)
   obtain⟨v1,v2⟩:=HM (t:=t) hI.usr hI.xQ
   have hb:bytes S.idx (aF S.O t.k (fun o=>{ o with opens:=o.opens+1 }))=bytes S.idx S.O:=fZ (fun p _=>by rw [dR (f:=fun o=>{ o with opens:=o.opens+1 }) (g:=aV.data) (fun _=>rfl)])
   have h1:=hI.toInv0.own (k:=t.k) (f:=fun o=>{ o with opens:=o.opens+1 }) (kF:=S.X.used) (us':=ins (aE.least S.us) t S.us) (gh:=max S.aD ((S.us.length:Int)+1)) (fun _=>rfl) (fun _=>rfl) (fun _=>rfl) (fun _=>rfl) (fun _=>rfl) (fun _=>rfl)
     (fun u hu e=>by rw [← e];exact (hI.mt u hu).of rfl rfl rfl (hI.mt u hu).time rfl (.inl rfl) (.inl rfl) rfl)
     (fun u hu=>by
       have h2:=hI.opens u hu
       rw [Db]
       by_cases e:u.k=t.k
       ·rw [e,bR,if_pos rfl,← e]
        show (obj S.O u.k).opens+1=_
        omega
       rw [cG e,if_neg (fun e2=>e e2.symm)];omega)
     v1 v2 (by rw [iP];omega) (by have:=hI.aD;omega) (fun h u e=>by
       rw [su g2] at e
       split at e
       ·cases e;exact⟨ht,hk⟩
       exact hI.us h u e) ⟨by rw [hb];exact hI.used.1,hI.used.2⟩
   refine⟨h1,fun u hu hg=>?_⟩
   have hg:(obj (aF S.O t.k (fun o=>{ o with opens:=o.opens+1 })) u.k).gone=true:=hg
   rw [dR (f:=fun o=>{ o with opens:=o.opens+1 }) (g:=aV.gone) (fun _=>rfl)] at hg
   have h2:=hI.full u hu hg
   show 0 < (obj (aF S.O t.k (fun o=>{ o with opens:=o.opens+1 })) u.k).opens
   by_cases e:u.k=t.k
   ·rw [e,bR];rw [e] at h2;show 0 < (obj S.O t.k).opens+1;omega
   rw [cG e];exact h2
  rw [mE hlt];exact hI
theorem Inv.dS (hI:Inv S) {k:Nat} (ht:Live S.idx ⟨k,1⟩) (bs:List UInt8):Inv (Proofs.YtidjcblbdmfalaaGreat.dS S k bs).2.2:=by
  unfold Proofs.YtidjcblbdmfalaaGreat.dS
  split
  ·exact hI
  split
  ·exact hI
  rename_i hroom
  have hlen:(obj (aF S.O k (fun o=>{ o with data:=o.data++bs.take (br S.X bs.length),sec:=S.X.cS,nano:=S.X.cZ })) k).data.length=(obj S.O k).data.length+br S.X bs.length:=by
    rw [bR]
    show ((obj S.O k).data++bs.take (br S.X bs.length)).length=_
    rw [List.length_append,List.length_take]
    unfold br
    omega
  have hb:=AA (g:=fun p:Int×Th=>(obj S.O p.2.k).data.length) (g':=fun p:Int×Th=>(obj (aF S.O k (fun o=>{ o with data:=o.data++bs.take (br S.X bs.length),sec:=S.X.cS,nano:=S.X.cZ })) p.2.k).data.length) hI.rise ht (fun p hp hne=>by
    have h1:=hI.key (nj hI.rise hp)
    show (obj (aF _ k _) p.2.k).data.length=_
    rw [cG (fun e=>hne (by rw [h1,e]))])
  have hb:bytes S.idx (aF S.O k (fun o=>{ o with data:=o.data++bs.take (br S.X bs.length),sec:=S.X.cS,nano:=S.X.cZ }))+(obj S.O k).data.length=bytes S.idx S.O+(obj (aF S.O k (fun o=>{ o with data:=o.data++bs.take (br S.X bs.length),sec:=S.X.cS,nano:=S.X.cZ })) k).data.length:=hb
  have hu:=hI.used
  have hcB:=hI.cB
  have h1:=hI.toInv0.own (k:=k) (f:=fun o=>{ o with data:=o.data++bs.take (br S.X bs.length),sec:=S.X.cS,nano:=S.X.cZ }) (kF:=S.X.used+(br S.X bs.length:Int)) (us':=S.us) (gh:=S.aD) (fun _=>rfl) (fun _=>rfl) (fun _=>rfl) (fun _=>rfl) (fun _=>rfl) (fun _=>rfl)
    (fun u hu e=>by
      have hk1:u=⟨k,1⟩:=gF hu ht e
      have SJ:=hI.kind hu
      rw [← e]
      exact (hI.mt u hu).of rfl rfl rfl hI.now rfl (.inr (by rw [SJ,hk1])) (.inl rfl) rfl)
    (fun u hu=>by rw [dR (f:=fun o=>{ o with data:=o.data++bs.take (br S.X bs.length),sec:=S.X.cS,nano:=S.X.cZ }) (g:=aV.opens) (fun _=>rfl)];exact hI.opens u hu)
    hI.usr hI.xQ hI.DV hI.aD hI.us ⟨by omega,by unfold br;omega⟩
  refine⟨h1,fun u hu hg=>?_⟩
  have hg:(obj (aF S.O k (fun o=>{ o with data:=o.data++bs.take (br S.X bs.length),sec:=S.X.cS,nano:=S.X.cZ })) u.k).gone=true:=hg
  rw [dR (f:=fun o=>{ o with data:=o.data++bs.take (br S.X bs.length),sec:=S.X.cS,nano:=S.X.cZ }) (g:=aV.gone) (fun _=>rfl)] at hg
  show 0 < (obj (aF S.O k (fun o=>{ o with data:=o.data++bs.take (br S.X bs.length),sec:=S.X.cS,nano:=S.X.cZ })) u.k).opens
  rw [dR (f:=fun o=>{ o with data:=o.data++bs.take (br S.X bs.length),sec:=S.X.cS,nano:=S.X.cZ }) (g:=aV.opens) (fun _=>rfl)]
  exact hI.full u hu hg
theorem Inv.SK (hI:Inv S) {k:Nat} {mode uid gid sec nano:Int} (h1:nO mode) (h2:BN uid/\BN gid) (h3:dW sec nano):Inv { S with O:=aF S.O k (fun o=>{ o with mode:=mode,uid:=uid,gid:=gid,sec:=sec,nano:=nano }) }:=by
  have hb:bytes S.idx (aF S.O k (fun o=>{ o with mode:=mode,uid:=uid,gid:=gid,sec:=sec,nano:=nano }))=bytes S.idx S.O:=fZ (fun p _=>by rw [dR (f:=fun o=>{ o with mode:=mode,uid:=uid,gid:=gid,sec:=sec,nano:=nano }) (g:=aV.data) (fun _=>rfl)])
  have g1:=hI.toInv0.own (k:=k) (f:=fun o=>{ o with mode:=mode,uid:=uid,gid:=gid,sec:=sec,nano:=nano }) (kF:=S.X.used) (us':=S.us) (gh:=S.aD) (fun _=>rfl) (fun _=>rfl) (fun _=>rfl) (fun _=>rfl) (fun _=>rfl) (fun _=>rfl)
    (fun u hu e=>by
      have hm:=hI.mt u hu
      rw [e] at hm
      exact⟨h1,h2.1,h2.2,h3,hm.data,hm.ah,hm.target⟩)
    (fun u hu=>by rw [dR (f:=fun o=>{ o with mode:=mode,uid:=uid,gid:=gid,sec:=sec,nano:=nano }) (g:=aV.opens) (fun _=>rfl)];exact hI.opens u hu)
    hI.usr hI.xQ hI.DV hI.aD hI.us ⟨by rw [hb];exact hI.used.1,hI.used.2⟩
  refine⟨g1,fun u hu hg=>?_⟩
  have hg:(obj (aF S.O k (fun o=>{ o with mode:=mode,uid:=uid,gid:=gid,sec:=sec,nano:=nano })) u.k).gone=true:=hg
  rw [dR (f:=fun o=>{ o with mode:=mode,uid:=uid,gid:=gid,sec:=sec,nano:=nano }) (g:=aV.gone) (fun _=>rfl)] at hg
  show 0 < (obj (aF S.O k (fun o=>{ o with mode:=mode,uid:=uid,gid:=gid,sec:=sec,nano:=nano })) u.k).opens
  rw [dR (f:=fun o=>{ o with mode:=mode,uid:=uid,gid:=gid,sec:=sec,nano:=nano }) (g:=aV.opens) (fun _=>rfl)]
  exact hI.full u hu hg
theorem Inv.shut (hI:Inv S) {h:Int} (e:aE.get S.us h=some t):Inv { S with
      X:={ S.X with used:=j3 (qL S.O t.k) S.X.used t }
      O:=qL S.O t.k
      idx:=jN (qL S.O t.k) S.idx t
      us:=del h S.us }:=by
  have ht:=(hI.us h t e).1
  have hb:bytes S.idx (qL S.O t.k)=bytes S.idx S.O:=fZ (fun p _=>by unfold qL;rw [dR (f:=fun o=>{ o with opens:=o.opens - 1 }) (g:=aV.data) (fun _=>rfl)])
  have hd:=fun k=>PA (k:=k) hI.usr e
  have h1:=hI.toInv0.own (k:=t.k) (f:=fun o=>{ o with opens:=o.opens - 1 }) (kF:=S.X.used) (us':=del h S.us) (gh:=S.aD) (fun _=>rfl) (fun _=>rfl) (fun _=>rfl) (fun _=>rfl) (fun _=>rfl) (fun _=>rfl)
    (fun u hu e=>by rw [← e];exact (hI.mt u hu).of rfl rfl rfl (hI.mt u hu).time rfl (.inl rfl) (.inl rfl) rfl)
    (fun u hu=>by
      have h2:=hI.opens u hu
      have h3:=hd u.k
      by_cases e2:u.k=t.k
      ·rw [e2,bR]
       rw [e2] at h2 h3
       rw [if_pos rfl] at h3
       show (obj S.O t.k).opens - 1=_
       omega
      rw [if_neg (fun e3=>e2 e3.symm)] at h3
      rw [cG e2];omega)
    (Fw hI.usr) (fun x hx=>hI.xQ x (by rw [og] at hx;exact (List.mem_filter.1 hx).1)) (by have:=qb hI.usr (get_some e);have:=hI.DV;omega) hI.aD (fun i u hu=>by
      rw [uP] at hu
      split at hu
      ·cases hu
      exact hI.us i u hu) ⟨by rw [show bytes S.idx (aF S.O t.k (fun o=>{ o with opens:=o.opens - 1 }))=bytes S.idx S.O from hb];exact hI.used.1,hI.used.2⟩
  exact h1.rV (t:=t) ht (fun u hu hut hg=>by
    have hk:u.k≠t.k:=fun e=>hut (gF hu ht e)
    have hg:(obj (aF S.O t.k (fun o=>{ o with opens:=o.opens - 1 })) u.k).gone=true:=hg
    rw [cG hk] at hg
    show 0 < (obj (aF S.O t.k (fun o=>{ o with opens:=o.opens - 1 })) u.k).opens
    rw [cG hk]
    exact hI.full u hu hg)
end ops
end
section
open Go.RowKit Go.Maps bH aE
section facts
variable {S:aI} {X:FM} {O:cg} {d k to:Nat} {name toName:ByteArray} {t o:Th}
def xV (dp:Nat->Nat):Option Nat->Nat
  | none=>0
  | some y=>dp y+1
theorem KT {dp:Nat->Nat} (h:∀ k d,(obj O k).up=some d->dp d < dp k) {y:Nat}:xV dp (obj O y).up < xV dp (some y):=by
  cases e:(obj O y).up with
  | none=>exact Nat.succ_pos _
  | some z=>exact Nat.succ_lt_succ (h y z e)
theorem BU {s y:Nat} (h:¬ y=s):jP O s y↔∃ z,(obj O y).up=some z/\jP O s z:=DX.trans (or_iff_right h)
theorem BV (hne:t.k≠d):(obj (aK S d name t).O k).ah=if k=d then gq name (obj S.O d).ah else (obj S.O k).ah:=by
  have h1:(obj (aK S d name t).O k).ah=(obj (aT S.X S.O d name t) k).ah:=by
    unfold aK
    simp only
    split
    ·exact qg (g:=aV.ah) (fun _ _=>rfl)
    rfl
  rw [h1,jd hne]
  split
  ·rfl
  split<;>rfl
theorem qM (hI:Inv0 S) (hto:Live S.idx ⟨to,2⟩) (hl2:aX toName (obj S.O to).ah=some o) (hl:aX name (obj S.O d).ah=some t) (hot:o≠t):aX name (obj (aK S to toName o).O d).ah=some t:=by
  rw [BV (hI.ne hto hl2)]
  split
  ·rename_i e
   subst e
   rw [qI,if_neg (fun e=>by rw [e,hl2] at hl;exact hot (Option.some.inj hl))]
   exact hl
  exact hl
theorem qN (hI:Inv0 S) (hto:Live S.idx ⟨to,2⟩) (hl2:aX toName (obj S.O to).ah=some o):aX toName (obj (aK S to toName o).O to).ah=none:=by
  rw [BV (hI.ne hto hl2),if_pos rfl,qI,if_pos rfl]
theorem jB (hI:Inv0 S) (hto:Live S.idx ⟨to,2⟩) (hl2:aX toName (obj S.O to).ah=some o) (hx:Live S.idx t) (hk:t.k≠o.k):Live (aK S to toName o).idx t:=by
  unfold aK
  simp only
  split
  ·unfold jN
   split
   ·unfold Live
    rw [uP,if_neg]
    ·exact hx
    intro e
    have h1:=(hI.ob o (hI.ent hto hl2).2).1
    rw [qg (g:=aV.id) (fun _ _=>rfl),dL (g:=aV.id) (fun _ _=>rfl) (fun _ _=>rfl) (fun _ _ _=>rfl),h1] at e
    exact hk (by omega)
   exact hx
  exact hx
theorem mG (hne:t.k≠d):(obj (aT X O d name t) k).ah.length<=(obj O k).ah.length:=by
  rw [jd hne]
  split
  ·rename_i e
   subst e
   exact List.length_filter_le _ _
  split<;>exact Nat.le_refl _
theorem kr (hI:Inv0 S) (hd:Live S.idx ⟨d,2⟩) (hl:aX name (obj S.O d).ah=some t):0<=(obj (aT S.X S.O d name t) t.k).links/\(obj (aT S.X S.O d name t) t.k).links<=1048576:=by
  have ht:=(hI.ent hd hl).2
  have h1:=hI.links t ht
  have h2:0 < iz S.idx S.O t.k:=nk hd hl
  have h3:=hI.lb ht
  rw [jd (hI.ne hd hl),if_neg (hI.ne hd hl),if_pos rfl]
  show 0<=(obj S.O t.k).links - 1/\(obj S.O t.k).links - 1<=1048576
  omega
end facts
end
section
open Go.RowKit Go.Maps bH aE
theorem bh.take {β:Bs} {A:Option Addr} {d:List UInt8} (h:bh β A d) (n:Nat):bh β A (d.take n):=by
  intro j v hj
  refine h j v ?_
  unfold bZ at hj ⊢
  rw [List.map_take] at hj
  rw [List.getElem?_take] at hj
  split at hj
  ·exact hj
  cases hj
theorem Jj {a b:List UInt8}:bZ (a++b)=bZ a++bZ b:=List.map_append
theorem Inv0.SL {S:aI} {t:Th} (h:Inv0 S) (hl:Live S.idx t):((obj S.O t.k).data.length:Int)<=S.X.used:=by
  have h1:=h.used
  have h2:(obj S.O t.k).data.length<=bytes S.idx S.O:=lV (g:=fun p:Int×Th=>(obj S.O p.2.k).data.length) hl
  omega
theorem KU {X:FM} {n:Nat} (h:0 < X.cB - X.used):min (n:Int) (X.cB - X.used)=(br X n:Int):=by
  unfold br
  omega
theorem KV {X:FM} {n:Nat} (h:0 < X.cB - X.used):br X n<=n/\(br X n:Int)<=X.cB - X.used:=by
  unfold br
  omega
section data
variable {O:cg} {us:Used Th} {L L':HL} {k c:Nat} {A:Option Addr} {t:Th}
theorem FC (hL:L'=L.data k A c):bq L' us=bq L us:=by subst hL;rfl
theorem MX (hL:L'=L.data k A c):cF O L'=cF O L:=by
  subst hL
  funext x
  rfl
theorem MY (hL:L'=L.data k A c) {x:Nat} (h:x≠k):bM O L' x=bM O L x:=by
  have e2:gu L' x (obj O x)=gu L x (obj O x):=by
    subst hL
    unfold gu yV
    simp only [HL.data,if_neg h]
    rfl
  unfold bM
  rw [e2]
  subst hL
  rfl
theorem MZ (hL:L'=L.data k A c) {x:Nat} (h:x≠k):bN O L' x=bN O L x:=by
  unfold bN
  subst hL
  simp only [HL.data,if_neg h]
theorem HT (hL:L'=L.data k A c):L'.dA k=A:=by subst hL;exact if_pos rfl
theorem HV (hL:L'=L.data k A c):L'.dC k=c:=by subst hL;exact if_pos rfl
theorem KW (hL:L'=L.data k A c) {x:Nat}:L'.b x=L.b x:=by subst hL;rfl
end data
section sat
variable {β:Bs} {l l':List HP} {w:World} {i j k c n:Nat} {O:cg} {L L':HL} {f:aV->aV} {cs:List Value} {T:TypeId} {ix:List Nat} {A:Option Addr} {R:Nat->cE} {xs:List Value}
theorem Sat.QU (h:Sat β l w) (hL:L'=L.data k A c) (hp:l[i]?=some (.abs (ax (kg (bM O L) k cE.none)))) (hq:l[j]?=some (.blk (L.b k) cs T)) (hd:bC (i::j::ix)=true) (hl:bU l ix=some l') (h0:(f (obj O k)).kind≠0) (hc:gu L' k (f (obj O k))=cs) (hT:ko (f (obj O k)).kind=T):Sat β (.abs (ax (bM (aF O k f) L'))::l') w:=by
  refine h.qw (a:=Au (L.b k) cs T) hp hq (fun _ _ h=>h) hd hl k (fun x hx=>?_) (by rw [uM,if_neg h0,hc,hT,KW hL])
  rw [uN hx,MY hL hx,oI hx]
theorem Sat.QV (h:Sat β l w) (hL:L'=L.data k A c) (hp:l[i]?=some (.abs (ax (kg (bN O L) k cE.none)))) (hq:l[j]?=some (.abs (av 5 1 A n c xs))) (hd:bC (i::j::ix)=true) (hl:bU l ix=some l') (h1:(f (obj O k)).kind=1) (hn:n=(f (obj O k)).data.length) (hx:xs=bZ (f (obj O k)).data):Sat β (.abs (ax (bN (aF O k f) L'))::l') w:=by
  refine h.qw hp hq (fun _ _ h=>h) hd hl k (fun x hx=>by rw [xG hx,MZ hL hx,oI hx]) ?_
  rw [sK (by rw [bR];exact h1),bR,HT hL,HV hL,hn,hx]
end sat
end
section
open Go.RowKit Go.Maps bH aE
structure fX (β:Bs) (c:aB):Prop where
  hw:(Lit.int .i64 c.handle).wf=true
  ow:(Lit.int .i64 c.other).wf=true
  nm:c.name.size<=1048576
  tx:c.text.size<=1048576
  da:bh β c.dA c.data
  dl:c.data.length<=1099511627776
  dc:c.data.length<=c.dC
section facts
variable {S:aI} {h:Int} {name:ByteArray} {need:Int} {t:Th} {c:aB}
theorem lQ (hI:Inv0 S) (h:Int) (name:ByteArray) (need:Int):(∃ e,d9 S.O S.us h name need=.error e/\e≠0)\/∃ d,d9 S.O S.us h name need=.ok d/\Live S.idx ⟨d,2⟩/\(obj S.O d).gone=false/\bO name/\aE.get S.us h=some ⟨d,2⟩:=by
  unfold d9
  cases e:aE.get S.us h with
  | none=>exact .inl ⟨131,rfl,by decide⟩
  | some t=>
    simp only
    split
    ·rename_i hk
     split
     ·exact .inl ⟨170,rfl,by decide⟩
     rename_i hg
     split
     ·rename_i hn
      split
      ·obtain⟨k,kd⟩:=t
       simp only at hk
       subst hk
       exact .inr ⟨k,rfl,(hI.us h _ e).1,by simpa using hg,hn,rfl⟩
      exact .inl ⟨175,rfl,by decide⟩
     exact .inl ⟨95,rfl,by decide⟩
    exact .inl ⟨173,rfl,by decide⟩
theorem BW (hI:Inv0 S) (c:aB):(∃ e,fV S.O S.us c=.error e/\e≠0)\/(∃ k,fV S.O S.us c=.ok ⟨k,1⟩/\Live S.idx ⟨k,1⟩)\/(∃ k,fV S.O S.us c=.ok ⟨k,2⟩/\Live S.idx ⟨k,2⟩)\/∃ k,fV S.O S.us c=.ok ⟨k,3⟩/\Live S.idx ⟨k,3⟩:=by
  unfold fV
  rcases lQ hI c.handle c.name 64 with ⟨e,h1,h2⟩|⟨d,h1,h2,_⟩
  ·rw [h1];exact .inl ⟨e,rfl,h2⟩
  rw [h1]
  simp only
  rcases hI.mq h2 c.name with h3|⟨k,h3,h4⟩|⟨k,h3,h4⟩|⟨k,h3,h4⟩
  ·rw [h3];exact .inl ⟨170,rfl,by decide⟩
  ·rw [h3];exact .inr (.inl ⟨k,rfl,h4⟩)
  ·rw [h3];exact .inr (.inr (.inl ⟨k,rfl,h4⟩))
  rw [h3];exact .inr (.inr (.inr ⟨k,rfl,h4⟩))
theorem FD {L:HL} {us:Used Th} {h:Int}:bq L (del h us)=del h (bq L us):=Hw (dQ L) h us
theorem HX {us:Used Th} {h:Int} (e:aE.get us h=some t):0 < hnd us t.k:=Nat.lt_of_lt_of_le (by simp) (lV (g:=fun p:Int×Th=>if p.2.k=t.k then 1 else 0) e)
theorem AK {L:HL}:bN (cu S t).2.2.O L=bN S.O L:=by
  by_cases h:(S.us.length:Int) < S.X.cH
  ·rw [kW h];exact sO (fun _=>dR (f:=fun o=>{ o with opens:=o.opens+1 }) (g:=aV.data) (fun _=>rfl)) (fun _=>jJ (f:=fun o=>{ o with opens:=o.opens+1 }) (fun _=>rfl))
  rw [mE h]
theorem AL {L:HL}:cF (cu S t).2.2.O L=cF S.O L:=by
  by_cases h:(S.us.length:Int) < S.X.cH
  ·rw [kW h];exact ng (f:=fun o=>{ o with opens:=o.opens+1 }) rfl rfl
  rw [mE h]
theorem PB:(jv S c).2.2.op=c.op:=by unfold jv;(repeat' split)<;>rfl
theorem Jk:(fN S c).2.2.op=c.op:=by unfold fN;(repeat' split)<;>rfl
theorem GU:(eV S c).2.2.op=c.op:=by unfold eV;(repeat' split)<;>rfl
theorem Jl:(fW S c).2.2.op=c.op:=by unfold fW;(repeat' split)<;>rfl
theorem GV:(eE S c).2.2.op=c.op:=by unfold eE;(repeat' split)<;>rfl
theorem FE:(fP S c).2.2.op=c.op:=by unfold fP;(repeat' split)<;>rfl
theorem KX:(cP S c).2.2.op=c.op:=by unfold cP;(repeat' split)<;>rfl
theorem GW:(gD S c).2.2.op=c.op:=by unfold gD;(repeat' split)<;>rfl
theorem Jm:(iy S c).2.2.op=c.op:=by unfold iy;(repeat' split)<;>rfl
theorem GX:(fL S c).2.2.op=c.op:=by unfold fL;(repeat' split)<;>rfl
theorem Jo:(gy S c).2.2.op=c.op:=by unfold gy;(repeat' split)<;>rfl
theorem Jp:(bP S c).2.2.op=c.op:=by unfold bP;(repeat' split)<;>rfl
theorem PD:(kE S c).2.2.op=c.op:=by unfold kE;(repeat' split)<;>rfl
theorem KY:(gE S c).2.2.op=c.op:=by unfold gE;(repeat' split)<;>rfl
theorem M0:(jr S c).2.2.op=c.op:=by unfold jr;(repeat' split)<;>rfl
end facts
theorem wg {S:aI} {c:aB} (h:c.op=1):cX S c=jv S c:=by
  unfold cX
  simp [h]
theorem y8 {S:aI} {c:aB} (h:c.op=2):cX S c=fN S c:=by
  unfold cX
  simp [h]
theorem y9 {S:aI} {c:aB} (h:c.op=3):cX S c=eV S c:=by
  unfold cX
  simp [h]
theorem wh {S:aI} {c:aB} (h:c.op=4):cX S c=fW S c:=by
  unfold cX
  simp [h]
theorem za {S:aI} {c:aB} (h:c.op=5):cX S c=eE S c:=by
  unfold cX
  simp [h]
theorem ze {S:aI} {c:aB} (h:c.op=6):cX S c=fP S c:=by
  unfold cX
  simp [h]
theorem zf {S:aI} {c:aB} (h:c.op=7):cX S c=cP S c:=by
  unfold cX
  simp [h]
theorem zh {S:aI} {c:aB} (h:c.op=8):cX S c=gD S c:=by
  unfold cX
  simp [h]
theorem zi {S:aI} {c:aB} (h:c.op=9):cX S c=gy S c:=by
  unfold cX
  simp [h]
theorem uV {S:aI} {c:aB} (h:c.op=10):cX S c=bP S c:=by
  unfold cX
  simp [h]
theorem uW {S:aI} {c:aB} (h:c.op=11):cX S c=kE S c:=by
  unfold cX
  simp [h]
theorem uX {S:aI} {c:aB} (h:c.op=12):cX S c=gE S c:=by
  unfold cX
  simp [h]
theorem uY {S:aI} {c:aB} (h:c.op=13):cX S c=jr S c:=by
  unfold cX
  simp [h]
theorem uZ {S:aI} {c:aB} (h:c.op=14):cX S c=iy S c:=by
  unfold cX
  simp [h]
theorem vf {S:aI} {c:aB} (h:c.op=15):cX S c=fL S c:=by
  unfold cX
  simp [h]
theorem vg {S:aI} {c:aB} (h:¬ (1<=c.op/\c.op<=15)):cX S c=(230,S,c):=by
  unfold cX
  repeat rw [if_neg (by omega)]
end
section
open Go.RowKit Go.Maps bH aE
section inv
variable {S:aI} {d to:Nat} {name toName text:ByteArray} {mode:Int} {c:aB}
theorem FH (hI:Inv0 S):hnd S.us (aR S.X)=0:=by
  have:hnd S.us (aR S.X)=dP (fun _=>0) S.us:=fZ (fun p hp=>if_neg (hI.fresh.us p hp))
  rw [this]
  have h0:∀ us:Used Th,dP (fun _=>0) us=0:=fun us=>by
    induction us with
    | nil=>rfl
    | cons p r ih=>show 0+_=0;rw [ih]
  exact h0 _
theorem zI (hI:Inv0 S) {kind mode:Int} {tg:ByteArray} (hm:nO mode) (ht:eW kind tg):kI { aY S.X kind mode with target:=tg }:=
  ⟨hm,⟨Int.le_refl _,by show (0:Int)<=2147483647;decide⟩,⟨Int.le_refl _,by show (0:Int)<=2147483647;decide⟩,hI.now,fun _=>rfl,fun _=>rfl,ht⟩
theorem Inv.EJ (hI:Inv S) (hd:Live S.idx ⟨d,2⟩) (iU:(obj S.O d).gone=false) (iM:bO name) (h0:ck S.X S.O S.idx d name=0) {kind mode:Int} {tg:ByteArray} (hk:kind=1\/kind=2\/kind=3) (hm:nO mode) (ht:eW kind tg) :
    Inv (eY S d name { aY S.X kind mode with target:=tg }):=by
  have h:=hI.add (us':=S.us) (gh:=S.aD) (o:={ aY S.X kind mode with target:=tg }) hd iU (oK h0) iM (uw h0) rfl hk rfl rfl rfl rfl rfl (zI hI.toInv0 hm ht) hI.usr hI.xQ hI.DV hI.aD (fun h t e=>⟨.inl (hI.us h t e).1,(hI.us h t e).2⟩) (fun _ _=>rfl) (by rw [FH hI.toInv0];rfl)
  exact h
theorem Inv.gT (hI:Inv S) (hd:Live S.idx ⟨d,2⟩) (iU:(obj S.O d).gone=false) (iM:bO name) (hm:nO mode):Inv (Proofs.YtidjcblbdmfalaaGreat.gT S d name mode).2:=by
  unfold Proofs.YtidjcblbdmfalaaGreat.gT
  split
  ·rename_i h0
   exact hI.EJ hd iU iM h0 (.inr (.inl rfl)) hm (.inl ⟨by decide,rfl⟩)
  exact hI
theorem PE {s:ByteArray} (h:nD s=0):eW 3 s:=by
  unfold nD at h
  split at h
  ·cases h
  rename_i h1
  split at h
  ·cases h
  split at h
  ·rename_i h2 h3
   refine .inr ⟨rfl,?_,by omega,h3⟩
   apply Classical.byContradiction
   intro hn
   have:s.size=0:=by omega
   exact h1 (kY.1 this)
  cases h
theorem Inv.eT (hI:Inv S) (hd:Live S.idx ⟨d,2⟩) (iU:(obj S.O d).gone=false) (iM:bO name):Inv (Proofs.YtidjcblbdmfalaaGreat.eT S d name text).2:=by
  unfold Proofs.YtidjcblbdmfalaaGreat.eT
  split
  ·rename_i hb
   split
   ·rename_i h0
    exact hI.EJ hd iU iM h0 (.inr (.inr rfl)) ⟨by decide,by decide⟩ (PE hb)
   exact hI
  exact hI
theorem Inv.ez (hI:Inv S) (hd:Live S.idx ⟨d,2⟩):Inv (Proofs.YtidjcblbdmfalaaGreat.ez S d name).2:=by
  unfold Proofs.YtidjcblbdmfalaaGreat.ez
  split
  ·exact hI
  rename_i t hl
  split
  ·exact hI
  rename_i hk
  exact hI.y7 hd hl hk
theorem Inv.eU (hI:Inv S) (hd:Live S.idx ⟨d,2⟩):Inv (Proofs.YtidjcblbdmfalaaGreat.eU S d name).2:=by
  unfold Proofs.YtidjcblbdmfalaaGreat.eU
  split
  ·exact hI
  rename_i t hl
  split
  ·split
   ·rename_i he
    exact hI.drop hd hl (fun _=>he)
   exact hI
  exact hI
theorem Jq {t:Th} (ht:t.k≠to):(obj (aK S d name t).O to).gone=(obj S.O to).gone:=by
  have h1:(obj (aK S d name t).O to).gone=(obj (aT S.X S.O d name t) to).gone:=by
    unfold aK
    simp only
    split
    ·show (obj (aF _ t.k _) to).gone=_
     rw [cG (fun e=>ht e.symm)]
    rfl
  rw [h1]
  exact dL (g:=aV.gone) (fun _ _=>rfl) (fun _ _=>rfl) (fun _ _ _=>rfl)
theorem Inv.bL (hI:Inv S) (hd:Live S.idx ⟨d,2⟩) (hto:Live S.idx ⟨to,2⟩) (iU:(obj S.O to).gone=false) (iM:bO toName):Inv (Proofs.YtidjcblbdmfalaaGreat.bL S d name to toName).2:=by
  unfold Proofs.YtidjcblbdmfalaaGreat.bL
  split
  ·exact hI
  rename_i t hl
  split
  ·exact hI
  rename_i hb
  have hb:t.kind=2->¬ jP S.O t.k to:=fun h1 h2=>hb ⟨h1,h2⟩
  split
  ·rename_i hn
   exact hI.move hd hl hto iU hn iM hb
  rename_i o hl2
  split
  ·exact hI
  rename_i hot
  split
  ·exact hI
  rename_i hok
  split
  ·exact hI
  rename_i Vv
  have ho:=(hI.ent hto hl2).2
  have QW:o.k≠to:=hI.ne hto hl2
  have h1:=hI.y7 hto hl2 hok
  have hd1:Live (aK S to toName o).idx ⟨d,2⟩:=jB hI.toInv0 hto hl2 hd (fun e=>hok (by have:=gF hd ho e;rw [← this]))
  have jS:Live (aK S to toName o).idx ⟨to,2⟩:=jB hI.toInv0 hto hl2 hto (fun e=>QW e.symm)
  exact h1.move hd1 (qM hI.toInv0 hto hl2 hl hot) jS (by rw [Jq QW];exact iU) (qN hI.toInv0 hto hl2) iM (fun h=>absurd h Vv)
theorem Inv.fK (hI:Inv S) (hd:Live S.idx ⟨d,2⟩) (hto:Live S.idx ⟨to,2⟩) (iU:(obj S.O to).gone=false) (iM:bO toName):Inv (Proofs.YtidjcblbdmfalaaGreat.fK S d name to toName).2:=by
  unfold Proofs.YtidjcblbdmfalaaGreat.fK
  split
  ·exact hI
  rename_i t hl
  have ht:=(hI.ent hd hl).2
  split
  ·exact hI
  rename_i hk
  split
  ·rename_i hn
   split
   ·rename_i hr
    have hgt:(obj S.O t.k).gone=false:=by
      cases hg:(obj S.O t.k).gone with
      | false=>rfl
      | true=>
        have h1:=(hI.gone t ht hg).1
        have h2:=hI.links t ht
        have h3:0 < iz S.idx S.O t.k:=nk hd hl
        omega
    exact hI.link hto iU hn iM ht hgt hk hr
   exact hI
  exact hI
theorem Inv.ni (hI:Inv S) (hd:Live S.idx ⟨d,2⟩) (iU:(obj S.O d).gone=false) (iM:bO name) (hm:nO mode):Inv (Proofs.YtidjcblbdmfalaaGreat.ni S d name mode).2.2:=by
  unfold Proofs.YtidjcblbdmfalaaGreat.ni
  split
  ·rename_i h0
   split
   ·rename_i hlt
    obtain⟨g1,g2,_⟩:=least_le hI.usr (fun x hx=>(hI.xQ x hx).1)
    obtain⟨v1,v2⟩:=HM (t:=⟨aR S.X,1⟩) hI.usr hI.xQ
    have hm2:=zI (kind:=1) (tg:=⟨#[]⟩) hI.toInv0 hm (.inl ⟨by decide,rfl⟩)
    refine hI.add (us':=ins (aE.least S.us) ⟨aR S.X,1⟩ S.us) (gh:=max S.aD ((S.us.length:Int)+1)) (o:={ aY S.X 1 mode with opens:=1 }) hd iU (oK h0) iM (uw h0) rfl (.inl rfl) rfl rfl rfl rfl rfl ⟨hm2.mode,hm2.uid,hm2.gid,hm2.time,hm2.data,hm2.ah,hm2.target⟩ v1 v2 (by rw [iP];omega) (by have:=hI.aD;omega) (fun h t e=>?_) (fun k hk=>?_) ?_
    ·rw [su g2] at e
     split at e
     ·cases e;exact⟨.inr rfl,by show (1:Int)≠3;decide⟩
     exact⟨.inl (hI.us h t e).1,(hI.us h t e).2⟩
    ·rw [Db,if_neg (fun e=>hk e.symm),Nat.zero_add]
    rw [Db,if_pos rfl,FH hI.toInv0];rfl
   exact hI
  exact hI
theorem Inv.cX (hI:Inv S) (c:aB):Inv (Proofs.YtidjcblbdmfalaaGreat.cX S c).2.1:=by
  have habout:∀ {need:Int} {d:Nat} {h:Int} {n:ByteArray},d9 S.O S.us h n need=.ok d->Live S.idx ⟨d,2⟩/\(obj S.O d).gone=false/\bO n:=fun {need d h n} e=>by
    rcases lQ hI.toInv0 h n need with ⟨e2,h1,_⟩|⟨d2,h1,h2,h3,h4,_⟩
    ·rw [e] at h1;cases h1
    rw [e] at h1;cases h1;exact⟨h2,h3,h4⟩
  have KZ:∀ {t:Th},fV S.O S.us c=.ok t->Live S.idx t:=fun {t} e=>by
    rcases BW hI.toInv0 c with ⟨e2,h1,_⟩|⟨k,h1,h2⟩|⟨k,h1,h2⟩|⟨k,h1,h2⟩<;>rw [e] at h1<;>cases h1<;>exact h2
  by_cases h:1<=c.op/\c.op<=15
  ·have h:c.op=1\/c.op=2\/c.op=3\/c.op=4\/c.op=5\/c.op=6\/c.op=7\/c.op=8\/c.op=9\/c.op=10\/c.op=11\/c.op=12\/c.op=13\/c.op=14\/c.op=15:=by omega
   rcases h with h|h|h|h|h|h|h|h|h|h|h|h|h|h|h
   ·rw [wg h]
    unfold jv
    split
    ·exact hI
    rename_i t e
    split
    ·rename_i hk;exact hI.cu (hI.live e) (by rw [hk];decide)
    exact hI
   ·rw [y8 h]
    unfold fN
    split
    ·exact hI
    rename_i t e
    split
    ·exact hI
    rename_i hk
    split
    ·exact hI
    exact hI.cu (KZ e) hk
   ·rw [y9 h]
    unfold eV
    split
    ·exact hI
    rename_i t e
    split
    ·exact hI
    rename_i hk
    split
    ·exact hI
    exact hI.cu (KZ e) hk
   ·rw [wh h]
    unfold fW
    split
    ·exact hI
    rename_i d e
    obtain⟨h1,h2,h3⟩:=habout e
    split
    ·rename_i hm;exact hI.gT h1 h2 h3 hm
    exact hI
   ·rw [za h]
    unfold eE
    split
    ·exact hI
    rename_i d e
    obtain⟨h1,h2,h3⟩:=habout e
    split
    ·rename_i hm
     split
     ·exact hI.ni h1 h2 h3 hm
     exact hI
    exact hI
   ·rw [ze h]
    unfold fP
    split
    ·exact hI
    rename_i d e
    obtain⟨h1,h2,h3⟩:=habout e
    exact hI.eT h1 h2 h3
   ·rw [zf h]
    unfold cP
    split
    ·exact hI
    rename_i d e
    split
    ·exact hI
    rename_i to e2
    obtain⟨h1,h2,h3⟩:=habout e2
    exact hI.fK (habout e).1 h1 h2 h3
   ·rw [zh h]
    unfold gD
    split
    ·exact hI
    rename_i d e
    exact hI.ez (habout e).1
   ·rw [zi h]
    unfold gy
    split
    ·exact hI
    rename_i t e
    split
    ·rename_i hk
     obtain⟨k,kd⟩:=t
     simp only at hk
     subst hk
     exact hI.dS (hI.us _ _ e).1 _
    exact hI
   ·rw [uV h]
    unfold bP
    split
    ·exact hI
    split
    ·exact hI
    split
    ·rename_i hm
     split
     ·rename_i ho
      split
      ·rename_i ht;exact hI.SK hm ho ht
      exact hI
     exact hI
    exact hI
   ·rw [uW h]
    unfold kE
    split<;>exact hI
   ·rw [uX h]
    unfold gE
    split<;>exact hI
   ·rw [uY h]
    unfold jr
    split
    ·exact hI
    rename_i t e;exact hI.shut e
   ·rw [uZ h]
    unfold iy
    split
    ·exact hI
    rename_i d e
    exact hI.eU (habout e).1
   rw [vf h]
   unfold fL
   split
   ·exact hI
   rename_i d e
   split
   ·exact hI
   rename_i to e2
   obtain⟨h1,h2,h3⟩:=habout e2
   exact hI.bL (habout e).1 h1 h2 h3
  rw [vg h];exact hI
theorem Inv.cQ (hI:Inv S) (c:aB):Inv (Proofs.YtidjcblbdmfalaaGreat.cQ S c).1:=hI.cX _
end inv
end
section
open Go.RowKit Go.Maps bH aE
structure cC where
  at_:Int
  op:Int
  path:ByteArray
  to:ByteArray
  text:ByteArray
def slash:ByteArray:=⟨#[47]⟩
def jl (s:ByteArray):List ByteArray:=Lib.splitB slash 0 (Lib.countB s slash) s
noncomputable section
def jT (O:cg):Nat->List ByteArray->Except Int (Nat×ByteArray)
  | _,[]=>.error 170
  | d,[p]=>if (obj O d).gone=true then .error 170 else .ok (d,p)
  | d,p::q::r=>match aX p (obj O d).ah with
    | none=>.error 170
    | some t=>if t.kind=3 then .error 174 else if t.kind=1 then .error 173 else jT O t.k (q::r)
instance (ps:List ByteArray):Decidable (∀ p∈ps,bO p):=Classical.propDecidable _
def jw (O:cg) (d:Nat) (path:ByteArray):Except Int (Nat×ByteArray):=if ∀ p∈jl path,bO p then jT O d (jl path) else .error 95
def sQ (S:aI) (d:Nat) (name text:ByteArray):Int×aI:=
  if ck S.X S.O S.idx d name=0 then (0,(dS (eY S d name (aY S.X 1 420)) (aR S.X) text.data.toList).2.2) else (ck S.X S.O S.idx d name,S)
def lC (S:aI) (d:Nat) (name text:ByteArray):Int×aI:=
  match aX name (obj S.O d).ah with
  | none=>(170,S)
  | some t=>if t.kind=3 then (174,S) else if t.kind=2 then (172,S) else ((dS S t.k text.data.toList).2.1,(dS S t.k text.data.toList).2.2)
def mH (S:aI) (top:Nat) (a:cC) (d:Nat) (name:ByteArray):Int×aI:=
  if a.op=1 then sQ S d name a.text
  else if a.op=2 then gT S d name 493
  else if a.op=3 then eT S d name a.text
  else if a.op=4 then ez S d name
  else if a.op=5 then eU S d name
  else if a.op=6 then match jw S.O top a.to with
    | .error e=>(e,S)
    | .ok (to,toName)=>bL S d name to toName
  else lC S d name a.text
def cW (S:aI) (root:Int) (a:cC):Int×aI:=
  if a.op < 1\/a.op > 7 then (230,S)
  else match aE.get S.idx root with
    | none=>(141,S)
    | some t=>if t.kind=2 then
        match jw S.O t.k a.path with
        | .error e=>(e,S)
        | .ok (d,name)=>mH S t.k a d name
      else (173,S)
end
section facts
variable {S:aI} {O:cg} {d d':Nat} {name:ByteArray} {t:Th}
theorem HY (hI:Inv0 S):∀ (ps:List ByteArray) (d:Nat),Live S.idx ⟨d,2⟩->(∀ p∈ps,bO p)->jT S.O d ps=.ok (d',name)->Live S.idx ⟨d',2⟩/\(obj S.O d').gone=false/\bO name
  | [],d,_,_,h=>by cases h
  | [p],d,hd,hg,h=>by
    unfold jT at h
    split at h
    ·cases h
    rename_i hn
    cases h
    exact⟨hd,by simpa using hn,hg _ (List.mem_singleton.2 rfl)⟩
  | p::q::r,d,hd,hg,h=>by
    unfold jT at h
    cases e:aX p (obj S.O d).ah with
    | none=>rw [e] at h;cases h
    | some t=>
      rw [e] at h
      simp only at h
      split at h
      ·cases h
      rename_i h3
      split at h
      ·cases h
      rename_i h1
      have hl:=(hI.ent hd e).2
      have hk:t=⟨t.k,2⟩:=by
        have:=(hI.ob _ hl).2.2
        obtain⟨k,kd⟩:=t
        simp only at this h1 h3
        have:kd=2:=by omega
        rw [this]
      rw [hk] at hl
      exact HY hI (q::r) t.k hl (fun p hp=>hg p (List.mem_cons_of_mem _ hp)) h
theorem Dc {path:ByteArray} (hI:Inv0 S) (hd:Live S.idx ⟨d,2⟩) (h:jw S.O d path=.ok (d',name)):Live S.idx ⟨d',2⟩/\(obj S.O d').gone=false/\bO name:=by
  unfold jw at h
  split at h
  ·rename_i hg
   exact HY hI _ _ hd hg h
  cases h
theorem FI (hI:Inv S) {o:aV}:Live (ins (S.X.last+1) ⟨aR S.X,o.kind⟩ S.idx) ⟨aR S.X,o.kind⟩:=by
  unfold Live
  have h1:=qf hI.toInv0
  have hn:S.X.last+1∉keys S.idx:=by
    cases e:aE.get S.idx (S.X.last+1) with
    | none=>exact get_none.1 e
    | some t=>have:=hI.idx _ _ e;omega
  rw [su hn]
  simp only
  rw [h1,if_pos rfl]
theorem Inv.sQ {text:ByteArray} (hI:Inv S) (hd:Live S.idx ⟨d,2⟩) (iU:(obj S.O d).gone=false) (iM:bO name):Inv (Proofs.YtidjcblbdmfalaaGreat.sQ S d name text).2:=by
  unfold Proofs.YtidjcblbdmfalaaGreat.sQ
  split
  ·rename_i h0
   exact (hI.EJ hd iU iM h0 (.inl rfl) ⟨by decide,by decide⟩ (.inl ⟨by decide,rfl⟩)).dS (FI hI (o:=aY S.X 1 420)) _
  exact hI
theorem Inv.lC {text:ByteArray} (hI:Inv S) (hd:Live S.idx ⟨d,2⟩):Inv (Proofs.YtidjcblbdmfalaaGreat.lC S d name text).2:=by
  unfold Proofs.YtidjcblbdmfalaaGreat.lC
  split
  ·exact hI
  rename_i t e
  split
  ·exact hI
  split
  ·exact hI
  rename_i h3 h2
  have hl:=(hI.ent hd e).2
  have hk:t=⟨t.k,1⟩:=by
    have:=(hI.ob _ hl).2.2
    obtain⟨k,kd⟩:=t
    simp only at this h2 h3
    have:kd=1:=by omega
    rw [this]
  rw [hk] at hl
  exact hI.dS hl _
theorem Inv.mH {top:Nat} {a:cC} (hI:Inv S) (ht:Live S.idx ⟨top,2⟩) (hd:Live S.idx ⟨d,2⟩) (iU:(obj S.O d).gone=false) (iM:bO name):Inv (Proofs.YtidjcblbdmfalaaGreat.mH S top a d name).2:=by
  unfold Proofs.YtidjcblbdmfalaaGreat.mH
  split
  ·exact hI.sQ hd iU iM
  split
  ·exact hI.gT hd iU iM ⟨by decide,by decide⟩
  split
  ·exact hI.eT hd iU iM
  split
  ·exact hI.ez hd
  split
  ·exact hI.eU hd
  split
  ·split
   ·exact hI
   rename_i to toName e
   obtain⟨h1,h2,h3⟩:=Dc hI.toInv0 ht e
   exact hI.bL hd h1 h2 h3
  exact hI.lC hd
theorem PF {i:Int} (hI:Inv0 S) (e:aE.get S.idx i=some t) (hk:t.kind=2):Live S.idx ⟨t.k,2⟩:=by
  have:=hI.live e
  obtain⟨k,kd⟩:=t
  simp only at hk
  subst hk
  exact this
theorem Inv.cW {root:Int} {a:cC} (hI:Inv S):Inv (Proofs.YtidjcblbdmfalaaGreat.cW S root a).2:=by
  unfold Proofs.YtidjcblbdmfalaaGreat.cW
  split
  ·exact hI
  split
  ·exact hI
  rename_i t e
  split
  ·rename_i hk
   split
   ·exact hI
   rename_i d name e2
   have ht:=PF hI.toInv0 e hk
   obtain⟨h1,h2,h3⟩:=Dc hI.toInv0 ht e2
   exact hI.mH ht h1 h2 h3
  exact hI
end facts
section err
variable {S:aI} {c:aB} {d to:Nat} {name toName text:ByteArray} {t:Th}
end err
end
section
open Go.RowKit Go.Maps bH aE
noncomputable section
structure bJ where
  at_:Int
  kind:Int
def bV (f:bJ):List Value:=[.int .i64 f.at_,.int .i64 f.kind]
instance:Inhabited bJ:=⟨⟨0,0⟩⟩
instance:Inhabited cC:=⟨⟨0,0,⟨#[]⟩,⟨#[]⟩,⟨#[]⟩⟩⟩
def dK (fs:List bJ) (i:Nat):bJ:=fs.getD i default
def act (xs:List cC) (i:Nat):cC:=xs.getD i default
def FK (f:bJ):Prop:=1<=f.kind/\f.kind<=3
instance (f:bJ):Decidable (FK f):=inferInstanceAs (Decidable (_/\_))
def fQ:List bJ->Int->Int
  | [],_=>0
  | f::r,n=>if f.at_=n/\FK f then f.kind else fQ r n
def bQ (xs:List cC) (n:Int):List cC:=xs.filter (fun a=>decide (a.at_=n))
def ic (root:Int) (S:aI) (xs:List cC):aI:=xs.foldl (fun S a=>(cW S root a).2) S
def dr (c:aB) (e:Int):aB:=if c.op=11\/c.op=12 then ⟨c.op,c.handle,0,c.name,c.text,c.dA,c.dC,c.data,0,0,0,0,0,e,0⟩ else { c with answer:=0,code:=e }
def bF (k:Int) (S:aI) (c:aB):aI×aB:=
  if k=1 then (if c.op=13 then (cQ S c).1 else S,dr c 180)
  else if k=2/\(c.op=4\/c.op=5\/c.op=6\/c.op=7\/c.op=9) then (S,dr c 176)
  else if k=3/\c.op=9/\2<=c.data.length then ((cQ S { c with data:=c.data.take (c.data.length / 2) }).1,{ (cQ S { c with data:=c.data.take (c.data.length / 2) }).2 with dA:=c.dA,dC:=c.dC,data:=c.data })
  else cQ S c
def o6 (root:Int) (c:aB):aB:=if c.op=1 then { c with other:=root } else c
def ia (fs:List bJ) (xs:List cC) (root:Int) (n:Nat) (S:aI) (c:aB):aI×aB:=bF (fQ fs n) (ic root S (bQ xs n)) (o6 root c)
section p
variable {S:aI} {c:aB} {fs gs:List bJ} {xs ys:List cC} {root k:Int} {n:Nat} {A:Option Addr} {m:Nat}
theorem rW (f:bJ) (x:Int):∀ fs:List bJ,fQ (fs++[f]) x=if fQ fs x=0 then (if f.at_=x/\FK f then f.kind else 0) else fQ fs x
  | []=>rfl
  | g::r=>by
    show (if g.at_=x/\FK g then g.kind else fQ (r++[f]) x)=if (if g.at_=x/\FK g then g.kind else fQ r x)=0 then _ else (if g.at_=x/\FK g then g.kind else fQ r x)
    by_cases h:g.at_=x/\FK g
    ·have:¬ g.kind=0:=by have:=h.2.1;omega
     rw [if_pos h,if_pos h,if_neg this]
    rw [if_neg h,if_neg h,rW f x r]
theorem DY (x:Int) (h:∀ g∈gs,g.at_≠x):∀ fs:List bJ,fQ (fs++gs) x=fQ fs x
  | []=>by
    induction gs with
    | nil=>rfl
    | cons g r ih=>
      show (if g.at_=x/\FK g then g.kind else fQ r x)=0
      rw [if_neg (fun e=>h g (List.mem_cons_self ..) e.1)]
      exact ih (fun y hy=>h y (List.mem_cons_of_mem _ hy))
  | f::r=>by
    show (if f.at_=x/\FK f then f.kind else fQ (r++gs) x)=if f.at_=x/\FK f then f.kind else fQ r x
    rw [DY x h r]
theorem zJ (a:cC) (x:Int):bQ (xs++[a]) x=if a.at_=x then bQ xs x++[a] else bQ xs x:=by
  unfold bQ
  rw [List.filter_append]
  by_cases h:a.at_=x
  ·rw [if_pos h,List.filter_cons_of_pos (by simpa using h),List.filter_nil]
  rw [if_neg h,List.filter_cons_of_neg (by simpa using h),List.filter_nil,List.append_nil]
theorem Jr (x:Int) (h:∀ a∈ys,a.at_≠x):bQ (xs++ys) x=bQ xs x:=by
  have h1:bQ ys x=[]:=List.filter_eq_nil_iff.2 (fun a ha=>by simpa using h a ha)
  unfold bQ at h1 ⊢
  rw [List.filter_append,h1,List.append_nil]
theorem BX (x:Int):(bQ xs x).length<=xs.length:=List.length_filter_le ..
theorem Js {x:Int} {a:cC} (h:a∈bQ xs x):a∈xs:=(List.mem_filter.1 h).1
theorem Jt (a:cC):ic root S (xs++[a])=(cW (ic root S xs) root a).2:=by
  unfold ic;rw [List.foldl_append];rfl
theorem sA {i:Nat} (h:i < xs.length):xs[i]?=some (act xs i):=getD_some h
theorem zj {i:Nat} (h:i < fs.length):fs[i]?=some (dK fs i):=getD_some h
theorem Ju {i:Nat} (h:i < xs.length):ic root S (xs.take (i+1))=(cW (ic root S (xs.take i)) root (act xs i)).2:=by
  rw [List.take_add_one,sA h];exact Jt _
theorem Inv.ic (h:Inv S):∀ xs:List cC,Inv (Proofs.YtidjcblbdmfalaaGreat.ic root S xs):=fun xs=>by
  induction xs generalizing S with
  | nil=>exact h
  | cons a r ih=>exact ih h.cW
theorem Inv.bF (h:Inv S):Inv (Proofs.YtidjcblbdmfalaaGreat.bF k S c).1:=by
  unfold Proofs.YtidjcblbdmfalaaGreat.bF
  split
  ·show Inv (if c.op=13 then _ else _)
   split
   ·exact h.cQ _
   exact h
  split
  ·exact h
  split
  ·exact h.cQ _
  exact h.cQ _
theorem Inv.ia (h:Inv S):Inv (Proofs.YtidjcblbdmfalaaGreat.ia fs xs root n S c).1:=(h.ic _).bF
def bB (A:Option Addr) (m:Nat) (c:aB):aB:={ c with dA:=A,dC:=m }
theorem QX:cX S (bB A m c)=((cX S c).1,(cX S c).2.1,bB A m (cX S c).2.2):=by
  by_cases hop:1<=c.op/\c.op<=15
  case neg=>rw [vg hop,vg (c:=bB A m c) hop]
  have hop:c.op=1\/c.op=2\/c.op=3\/c.op=4\/c.op=5\/c.op=6\/c.op=7\/c.op=8\/c.op=9\/c.op=10\/c.op=11\/c.op=12\/c.op=13\/c.op=14\/c.op=15:=by omega
  rcases hop with q|q|q|q|q|q|q|q|q|q|q|q|q|q|q
  ·rw [wg q,wg (c:=bB A m c) q];unfold jv bB;simp only;cases aE.get S.idx c.other<;>(try simp only)<;>(repeat' split)<;>rfl
  ·rw [y8 q,y8 (c:=bB A m c) q];unfold fN fV bB;simp only;split<;>(repeat' split)<;>rfl
  ·rw [y9 q,y9 (c:=bB A m c) q];unfold eV fV bB;simp only;split<;>(repeat' split)<;>rfl
  ·rw [wh q,wh (c:=bB A m c) q];unfold fW bB;simp only;split<;>(repeat' split)<;>rfl
  ·rw [za q,za (c:=bB A m c) q];unfold eE bB;simp only;split<;>(repeat' split)<;>rfl
  ·rw [ze q,ze (c:=bB A m c) q];unfold fP bB;simp only;split<;>(repeat' split)<;>rfl
  ·rw [zf q,zf (c:=bB A m c) q];unfold cP bB;simp only;split<;>(repeat' split)<;>rfl
  ·rw [zh q,zh (c:=bB A m c) q];unfold gD bB;simp only;split<;>(repeat' split)<;>rfl
  ·rw [zi q,zi (c:=bB A m c) q];unfold gy bB;simp only;split<;>(repeat' split)<;>rfl
  ·rw [uV q,uV (c:=bB A m c) q];unfold bP bB;simp only;split<;>(repeat' split)<;>rfl
  ·rw [uW q,uW (c:=bB A m c) q];unfold kE bB;simp only;split<;>(repeat' split)<;>rfl
  ·rw [uX q,uX (c:=bB A m c) q];unfold gE fV bB;simp only;split<;>(repeat' split)<;>rfl
  ·rw [uY q,uY (c:=bB A m c) q];unfold jr bB;simp only;split<;>(repeat' split)<;>rfl
  ·rw [uZ q,uZ (c:=bB A m c) q];unfold iy bB;simp only;split<;>(repeat' split)<;>rfl
  rw [vf q,vf (c:=bB A m c) q];unfold fL bB;simp only;split<;>(repeat' split)<;>rfl
theorem M4:(cX S c).2.2.data=c.data:=by
  by_cases hop:1<=c.op/\c.op<=15
  case neg=>rw [vg hop]
  have hop:c.op=1\/c.op=2\/c.op=3\/c.op=4\/c.op=5\/c.op=6\/c.op=7\/c.op=8\/c.op=9\/c.op=10\/c.op=11\/c.op=12\/c.op=13\/c.op=14\/c.op=15:=by omega
  rcases hop with q|q|q|q|q|q|q|q|q|q|q|q|q|q|q
  ·rw [wg q];unfold jv;(repeat' split)<;>rfl
  ·rw [y8 q];unfold fN;(repeat' split)<;>rfl
  ·rw [y9 q];unfold eV;(repeat' split)<;>rfl
  ·rw [wh q];unfold fW;(repeat' split)<;>rfl
  ·rw [za q];unfold eE;(repeat' split)<;>rfl
  ·rw [ze q];unfold fP;(repeat' split)<;>rfl
  ·rw [zf q];unfold cP;(repeat' split)<;>rfl
  ·rw [zh q];unfold gD;(repeat' split)<;>rfl
  ·rw [zi q];unfold gy;(repeat' split)<;>rfl
  ·rw [uV q];unfold bP;(repeat' split)<;>rfl
  ·rw [uW q];unfold kE mo;(repeat' split)<;>rfl
  ·rw [uX q];unfold gE mo;(repeat' split)<;>rfl
  ·rw [uY q];unfold jr;(repeat' split)<;>rfl
  ·rw [uZ q];unfold iy;(repeat' split)<;>rfl
  rw [vf q];unfold fL;(repeat' split)<;>rfl
theorem FJ:cQ S (bB A m c)=((cQ S c).1,bB A m (cQ S c).2):=by
  have h:=QX (S:=S) (A:=A) (m:=m) (c:={ c with answer:=0,code:=230 })
  unfold cQ
  rw [show ({ bB A m c with answer:=0,code:=230 }:aB)=bB A m { c with answer:=0,code:=230 } from rfl,h]
  rfl
theorem M5:(cQ S c).2.data=c.data:=M4 (c:={ c with answer:=0,code:=230 })
theorem FL {e:Int}:dr (bB A m c) e=bB A m (dr c e):=by
  unfold dr
  by_cases h:c.op=11\/c.op=12
  ·rw [if_pos h,if_pos (show (bB A m c).op=11\/(bB A m c).op=12 from h)];rfl
  rw [if_neg h,if_neg (show ¬ ((bB A m c).op=11\/(bB A m c).op=12) from h)];rfl
theorem BZ {e:Int}:(dr c e).data=c.data:=by
  unfold dr;split<;>rfl
theorem GY:(bF k S c).2.data=c.data:=by
  unfold bF
  split
  ·exact BZ
  split
  ·exact BZ
  split
  ·rfl
  exact M5
theorem DZ:bF k S (bB A m c)=((bF k S c).1,bB A m (bF k S c).2):=by
  unfold bF
  by_cases h1:k=1
  ·rw [if_pos h1,if_pos h1]
   show (if c.op=13 then (cQ S (bB A m c)).1 else S,dr (bB A m c) 180)=_
   rw [FJ,FL]
  rw [if_neg h1,if_neg h1]
  by_cases h2:k=2/\(c.op=4\/c.op=5\/c.op=6\/c.op=7\/c.op=9)
  ·rw [if_pos h2,if_pos (show k=2/\((bB A m c).op=4\/(bB A m c).op=5\/(bB A m c).op=6\/(bB A m c).op=7\/(bB A m c).op=9) from h2),FL]
  rw [if_neg h2,if_neg (show ¬ (k=2/\((bB A m c).op=4\/(bB A m c).op=5\/(bB A m c).op=6\/(bB A m c).op=7\/(bB A m c).op=9)) from h2)]
  by_cases h3:k=3/\c.op=9/\2<=c.data.length
  ·rw [if_pos h3,if_pos (show k=3/\(bB A m c).op=9/\2<=(bB A m c).data.length from h3)]
   show ((cQ S (bB A m { c with data:=c.data.take (c.data.length / 2) })).1,{ (cQ S (bB A m { c with data:=c.data.take (c.data.length / 2) })).2 with dA:=A,dC:=m,data:=c.data })=_
   rw [FJ];rfl
  rw [if_neg h3,if_neg (show ¬ (k=3/\(bB A m c).op=9/\2<=(bB A m c).data.length) from h3)]
  exact FJ
theorem M6:o6 root (bB A m c)=bB A m (o6 root c):=by
  unfold o6
  by_cases h:c.op=1
  ·rw [if_pos h,if_pos (show (bB A m c).op=1 from h)];rfl
  rw [if_neg h,if_neg (show ¬ (bB A m c).op=1 from h)]
theorem D1:ia fs xs root n S (bB A m c)=((ia fs xs root n S c).1,bB A m (ia fs xs root n S c).2):=by
  unfold ia
  rw [M6,DZ]
theorem Jv:(o6 root c).data=c.data:=by
  unfold o6;split<;>rfl
theorem zK:(ia fs xs root n S c).2.data=c.data:=GY.trans Jv
theorem GZ {j6:Int} (h:j6=if c.op=1 then root else c.other):o6 root c={ c with other:=j6 }:=by
  unfold o6
  by_cases e:c.op=1
  ·rw [if_pos e] at h ⊢;rw [h]
  rw [if_neg e] at h ⊢;rw [h]
end p
end
end
section
open Go.RowKit Go.WideShapes Go.ChangeShapes Go.ChangeAt Go.Deep
def aH {α:Type} (f:α->List Value) (xs:List α):List Value:=dg (fun _ x=>f x) 0 xs
theorem D2 {α:Type} {f:α->List Value} {s:Nat} (hf:∀ a,(f a).length=s) {xs:List α} {i j:Nat} {a:α} (h:xs[i]?=some a) (hj:j < s):(aH f xs)[i * s+j]?=(f a)[j]?:=qC (f:=fun _ x=>f x) (s:=s) (fun _ a=>hf a) xs 0 i j _ h hj
def cD (a:cC):List Value:=[.int .i64 a.at_,.int .i64 a.op,.string a.path,.string a.to,.string a.text]
structure xW (a:cC) (b:Nat):Prop where
  aw:(Lit.int .i64 a.at_).wf=true
  path:a.path.size<=b
  to:a.to.size<=b
  text:a.text.size<=b
theorem xW.wide {a:cC} {b b':Nat} (h:xW a b) (g:b<=b'):xW a b':=⟨h.aw,Nat.le_trans h.path g,Nat.le_trans h.to g,Nat.le_trans h.text g⟩
structure rX (β:Bs) (c:aB) (b:Nat):Prop where
  data:bh β c.dA c.data
  len:c.data.length<=b
  name:c.name.size<=b
  text:c.text.size<=b
  hw:(Lit.int .i64 c.handle).wf=true
  ow:(Lit.int .i64 c.other).wf=true
theorem rX.le {β β':Bs} {c:aB} {b:Nat} (h:rX β c b) (g:β.le β'):rX β' c b:=⟨h.data.le g,h.len,h.name,h.text,h.hw,h.ow⟩
theorem rX.wide {β:Bs} {c:aB} {b b':Nat} (h:rX β c b) (g:b<=b'):rX β c b':=⟨h.data,Nat.le_trans h.len g,Nat.le_trans h.name g,Nat.le_trans h.text g,h.hw,h.ow⟩
instance:Inhabited aB:=⟨⟨0,0,0,⟨#[]⟩,⟨#[]⟩,none,0,[],0,0,0,0,0,0,0⟩⟩
def au (xs:List aB) (i:Nat):aB:=xs.getD i default
structure gj (xs:List cC) (b:Nat):Prop where
  len:xs.length<=b
  q:∀ a∈xs,xW a b
structure eZ (xs:List bJ) (b:Nat):Prop where
  len:xs.length<=b
  q:∀ a∈xs,(Lit.int .i64 a.at_).wf=true
theorem gj.wide {xs:List cC} {b b':Nat} (h:gj xs b) (g:b<=b'):gj xs b':=⟨Nat.le_trans h.len g,fun a ha=>(h.q a ha).wide g⟩
theorem eZ.wide {xs:List bJ} {b b':Nat} (h:eZ xs b) (g:b<=b'):eZ xs b':=⟨Nat.le_trans h.len g,h.q⟩
structure cI (β:Bs) (A:Option Addr) (xs:List aB):Prop where
  row:bX β A (aH aW xs)
  q:∀ i,i < xs.length->rX β (au xs i) 1048576
section s
variable {β β':Bs} {A:Option Addr} {i j:Nat} {v:Value}
theorem Ca {α:Type} {f:α->List Value} {s:Nat} {xs:List α} {a:α} (h:bX β A (aH f xs)) (hf:∀ a,(f a).length=s) (hi:xs[i]?=some a) (hv:(f a)[j]?=some v):A=some ⟨aq A,ak A,none⟩/\Rd β ⟨aq A,ak A+i * s+j,none⟩ v:=by
  have hj:j < s:=by rw [← hf a];exact bE hv
  have:=h (i * s+j) v ((D2 hf hi hj).trans hv)
  rw [← Nat.add_assoc] at this
  exact this
theorem cI.le {xs:List aB} (h:cI β A xs) (g:β.le β'):cI β' A xs:=⟨h.row.le g,fun i hi=>(h.q i hi).le g⟩
theorem oL {xs:List aB} (h:i < xs.length):xs[i]?=some (au xs i):=getD_some h
theorem cI.hd {xs:List aB} (h:cI β A xs) (hi:i < xs.length):A=some ⟨aq A,ak A,none⟩:=(Ca (s:=13) (j:=0) h.row (fun _=>rfl) (oL hi) rfl).1
theorem cI.rd {xs:List aB} (h:cI β A xs) (hi:i < xs.length) (hv:(aW (au xs i))[j]?=some v):Rd β ⟨aq A,ak A+i * 13+j,none⟩ v:=(Ca h.row (fun _=>rfl) (oL hi) hv).2
theorem zk {xs:List cC} (h:bX β A (aH cD xs)) (hi:i < xs.length):A=some ⟨aq A,ak A,none⟩:=(Ca (s:=5) (j:=0) h (fun _=>rfl) (sA hi) rfl).1
theorem iJ {xs:List cC} (h:bX β A (aH cD xs)) (hi:i < xs.length) (hv:(cD (act xs i))[j]?=some v):Rd β ⟨aq A,ak A+i * 5+j,none⟩ v:=(Ca h (fun _=>rfl) (sA hi) hv).2
theorem Cb {xs:List bJ} (h:bX β A (aH bV xs)) (hi:i < xs.length):A=some ⟨aq A,ak A,none⟩:=(Ca (s:=2) (j:=0) h (fun _=>rfl) (zj hi) rfl).1
theorem tQ {xs:List bJ} (h:bX β A (aH bV xs)) (hi:i < xs.length) (hv:(bV (dK xs i))[j]?=some v):Rd β ⟨aq A,ak A+i * 2+j,none⟩ v:=(Ca h (fun _=>rfl) (zj hi) hv).2
theorem eZ.at {xs:List bJ} {b:Nat} (h:eZ xs b) (hi:i < xs.length):(Lit.int .i64 (dK xs i).at_).wf=true:=h.q _ (List.mem_of_getElem? (zj hi))
theorem gj.at {xs:List cC} {b:Nat} (h:gj xs b) (hi:i < xs.length):xW (act xs i) b:=h.q _ (List.mem_of_getElem? (sA hi))
end s
section a
variable {H:Type} {enc:TypeId×Value->H} {W:World} {sp:Nat->Bool}
theorem iQ {t:TypeId} {n:Nat} {c:Value} {x:DataW H×List MemPlace} (ht:Tryz.prog.underlying t=some (.int .i64)) (h:DataW.trod enc Tryz.prog W 0 sp true n t [c]=some x):∃ z,c=.int .i64 z/\(Lit.int .i64 z).wf=true:=by
  obtain⟨z,h1,_,h3⟩:=DataW.trod_int ht h
  cases h1
  exact⟨z,rfl,h3⟩
theorem M7 {n:Nat} {cs:List Value} {x:DataW H×List MemPlace} (h:DataW.trod enc Tryz.prog W 0 sp true n 41 cs=some x):∃ a:cC,cs=cD a/\xW a (Rows.uptoBulk x.1):=by
  obtain⟨vs,m,_,hx,hl,hvl,hv⟩:=DataW.trod_struct Tryz.underlying41 h
  have hC:Tryz.prog.cellsOf 41=5:=by kernel_rfl
  rw [hC] at hl
  match cs,hl with
  | [c0,c1,c2,c3,c4],_=>
    obtain⟨a0,_⟩:=aZ (hv 0 _ rfl) (by rw [hvl];decide)
    obtain⟨a1,_⟩:=aZ (hv 1 _ rfl) (by rw [hvl];decide)
    obtain⟨a2,e2⟩:=aZ (hv 2 _ rfl) (by rw [hvl];decide)
    obtain⟨a3,e3⟩:=aZ (hv 3 _ rfl) (by rw [hvl];decide)
    obtain⟨a4,e4⟩:=aZ (hv 4 _ rfl) (by rw [hvl];decide)
    obtain⟨z0,rfl,w0⟩:=iQ (c:=c0) Tryz.underlying3 a0
    obtain⟨z1,rfl,_⟩:=iQ (c:=c1) Tryz.underlying3 a1
    obtain⟨s2,rfl,l2⟩:=nZ (c:=c2) Tryz.underlying9 a2
    obtain⟨s3,rfl,l3⟩:=nZ (c:=c3) Tryz.underlying9 a3
    obtain⟨s4,rfl,l4⟩:=nZ (c:=c4) Tryz.underlying9 a4
    have hb:Rows.uptoBulk x.1=Rows.uptoBulk (.agg (vs.map (·.1))):=by rw [hx]
    exact⟨⟨z0,z1,s2,s3,s4⟩,rfl,⟨w0,by show s2.size<=_;omega,by show s3.size<=_;omega,by show s4.size<=_;omega⟩⟩
theorem Jw {n:Nat} {cs:List Value} {x:DataW H×List MemPlace} (h:DataW.trod enc Tryz.prog W 0 sp true n 39 cs=some x):∃ a:bJ,cs=bV a/\(Lit.int .i64 a.at_).wf=true:=by
  obtain⟨vs,m,_,hx,hl,hvl,hv⟩:=DataW.trod_struct Tryz.underlying39 h
  have hC:Tryz.prog.cellsOf 39=2:=by kernel_rfl
  rw [hC] at hl
  match cs,hl with
  | [c0,c1],_=>
    obtain⟨a0,_⟩:=aZ (hv 0 _ rfl) (by rw [hvl];decide)
    obtain⟨a1,_⟩:=aZ (hv 1 _ rfl) (by rw [hvl];decide)
    obtain⟨z0,rfl,w0⟩:=iQ (c:=c0) Tryz.underlying3 a0
    obtain⟨z1,rfl,_⟩:=iQ (c:=c1) Tryz.underlying3 a1
    exact⟨⟨z0,z1⟩,rfl,w0⟩
theorem K1 {n:Nat} {cs:List Value} {x:DataW H×List MemPlace} (h:DataW.trod enc Tryz.prog W 0 sp true n 48 cs=some x):∃ c:aB,cs=aW c/\rX (B0 W) c (Rows.uptoBulk x.1):=by
  obtain⟨us,_,_,QY,hl,qE,hu⟩:=DataW.trod_struct Tryz.underlying48 h
  have hC:Tryz.prog.cellsOf 48=13:=by kernel_rfl
  rw [hC] at hl
  match cs,hl with
  | [c0,c1,c2,c3,c4,c5,c6,c7,c8,c9,c10,c11,Vw],_=>
    obtain⟨h0,_⟩:=aZ (hu 0 _ rfl) (by rw [qE];decide)
    obtain⟨h1,_⟩:=aZ (hu 1 _ rfl) (by rw [qE];decide)
    obtain⟨h2,_⟩:=aZ (hu 2 _ rfl) (by rw [qE];decide)
    obtain⟨h3,b3⟩:=aZ (hu 3 _ rfl) (by rw [qE];decide)
    obtain⟨h4,b4⟩:=aZ (hu 4 _ rfl) (by rw [qE];decide)
    obtain⟨h5,b5⟩:=aZ (hu 5 _ rfl) (by rw [qE];decide)
    obtain⟨h6,_⟩:=aZ (hu 6 _ rfl) (by rw [qE];decide)
    obtain⟨h7,_⟩:=aZ (hu 7 _ rfl) (by rw [qE];decide)
    obtain⟨h8,_⟩:=aZ (hu 8 _ rfl) (by rw [qE];decide)
    obtain⟨h9,_⟩:=aZ (hu 9 _ rfl) (by rw [qE];decide)
    obtain⟨h10,_⟩:=aZ (hu 10 _ rfl) (by rw [qE];decide)
    obtain⟨h11,_⟩:=aZ (hu 11 _ rfl) (by rw [qE];decide)
    obtain⟨ts,_,_,_,_,htl,ht⟩:=DataW.trod_struct Tryz.underlying26 h9
    obtain⟨t0,_⟩:=aZ (ht 0 _ rfl) (by rw [htl];decide)
    obtain⟨t1,_⟩:=aZ (ht 1 _ rfl) (by rw [htl];decide)
    obtain⟨z0,rfl,w0⟩:=iQ (c:=c0) Tryz.underlying3 h0
    obtain⟨z1,rfl,w1⟩:=iQ (c:=c1) Tryz.underlying3 h1
    obtain⟨z2,rfl,w2⟩:=iQ (c:=c2) Tryz.underlying3 h2
    obtain⟨s3,rfl,l3⟩:=nZ (c:=c3) Tryz.underlying9 h3
    obtain⟨s4,rfl,l4⟩:=nZ (c:=c4) Tryz.underlying9 h4
    obtain⟨A5,p5,d5,rfl,q5,l5⟩:=Bt (c:=c5) h5
    obtain⟨z6,rfl,w6⟩:=iQ (c:=c6) Tryz.underlying3 h6
    obtain⟨z7,rfl,w7⟩:=iQ (c:=c7) Tryz.underlying3 h7
    obtain⟨z8,rfl,w8⟩:=iQ (c:=c8) Tryz.underlying3 h8
    obtain⟨z9,rfl,w9⟩:=iQ (c:=c9) Tryz.underlying3 t0
    obtain⟨Vx,rfl,Xa⟩:=iQ (c:=c10) Tryz.underlying3 t1
    obtain⟨Vy,rfl,Xb⟩:=iQ (c:=c11) Tryz.underlying43 h10
    obtain⟨z12,rfl,Xc⟩:=iQ (c:=Vw) Tryz.underlying3 h11
    have hb:Rows.uptoBulk x.1=Rows.uptoBulk (.agg (us.map (·.1))):=by rw [QY]
    exact⟨⟨z0,z1,z2,s3,s4,A5,p5,d5,z6,z7,z8,z9,Vx,Vy,z12⟩,rfl,⟨q5,by show d5.length<=_;omega,by show s3.size<=_;omega,by show s4.size<=_;omega,w1,w2⟩⟩
theorem Cc {n:Nat} {c:Value} {x:DataW H×List MemPlace} (h:DataW.trod enc Tryz.prog W 0 sp true n 30 [c]=some x):∃ A cp,∃ xs:List cC,c=.slice A xs.length cp/\bX (B0 W) A (aH cD xs)/\gj xs (Rows.uptoBulk x.1)/\xs.length<=cp:=by
  obtain⟨A,cp,xs,D,h1,FN,_,h2,h4,h3⟩:=pW (α:=cC) (f:=cD) (Q:=fun a d=>xW a (Rows.uptoBulk d)) Tryz.underlying30 (size:=5) (by kernel_rfl) (by decide) (fun n cs x h=>M7 h) (fun _=>rfl) h
  cases h1
  have h5:=pV ((List.range xs.length).map D)
  refine⟨A,cp,xs,rfl,h2,⟨by simp at h5;omega,fun a ha=>?_⟩,FN⟩
  obtain⟨i,hi,e⟩:=List.mem_iff_getElem.1 ha
  have h6:=h4 i hi
  rw [show xs.getD i default=a by rw [← e];simp [hi]] at h6
  exact h6.wide (by have:=vL (D:=D) hi;omega)
theorem xX {n:Nat} {c:Value} {x:DataW H×List MemPlace} (h:DataW.trod enc Tryz.prog W 0 sp true n 29 [c]=some x):∃ A cp,∃ xs:List bJ,c=.slice A xs.length cp/\bX (B0 W) A (aH bV xs)/\eZ xs (Rows.uptoBulk x.1)/\xs.length<=cp:=by
  obtain⟨A,cp,xs,D,h1,FN,_,h2,h4,h3⟩:=pW (α:=bJ) (f:=bV) (Q:=fun a _=>(Lit.int .i64 a.at_).wf=true) Tryz.underlying29 (size:=2) (by kernel_rfl) (by decide) (fun n cs x h=>Jw h) (fun _=>rfl) h
  cases h1
  have h5:=pV ((List.range xs.length).map D)
  refine⟨A,cp,xs,rfl,h2,⟨by simp at h5;omega,fun a ha=>?_⟩,FN⟩
  obtain⟨i,hi,e⟩:=List.mem_iff_getElem.1 ha
  have h6:=h4 i hi
  rw [show xs.getD i default=a by rw [← e];simp [hi]] at h6
  exact h6
theorem open_calls {v:Value} {d:DataW H} {ps:List MemPlace} {r:Go.Reach} {b0:Nat} (hval:Value.okWide Tryz.prog W r b0 35 v) (h:DataW.Trod enc Tryz.prog W 0 sp true 35 v d ps) (hb:Rows.uptoBulk d<=1048576) :
    ∃ A cp,∃ xs:List aB,v=.slice A xs.length cp/\cI (B0 W) A xs/\xs.length<=1048576/\xs.length<=cp:=by
  obtain⟨a,n,c,rfl⟩:=okWide_slice Tryz.underlying35 hval
  obtain⟨fuel,h⟩:=h
  obtain⟨A,cp,xs,D,h1,FN,_,h2,h4,h3⟩:=pW (α:=aB) (f:=aW) (Q:=fun a d=>rX (B0 W) a (Rows.uptoBulk d)) Tryz.underlying35 (size:=13) (by kernel_rfl) (by decide) (fun n cs x h=>K1 h) (fun _=>rfl) h
  cases h1
  have h5:=pV ((List.range xs.length).map D)
  have h3:Rows.uptoBulkAll ((List.range xs.length).map D)+1<=Rows.uptoBulk d:=h3
  refine⟨a,c,xs,rfl,⟨h2,fun i hi=>(h4 i hi).wide ?_⟩,by simp at h5;omega,FN⟩
  have h7:=vL (D:=D) hi
  omega
def zl (A:Option Addr) (n cp:Nat) (root:Int) (X:FM) (Af:Option Addr) (nf cf:Nat) (Aa:Option Addr) (na ca:Nat):Value:=.agg #[.slice A n cp,.int .i64 root,.int .i64 X.cN,.int .i64 X.cB,.int .i64 X.cH,.int .i64 X.cS,.int .i64 X.cZ,.slice Af nf cf,.slice Aa na ca]
theorem open_wstart {v:Value} {d:DataW H} {ps:List MemPlace} {r:Go.Reach} {b0:Nat} (hval:Value.okWide Tryz.prog W r b0 34 v) (h:DataW.Trod enc Tryz.prog W 0 sp true 34 v d ps) :
    ∃ A cp,∃ ns:List aP,∃ L:Lay,∃ root:Int,∃ X:FM,∃ Af cf,∃ fs:List bJ,∃ Aa ca,∃ xs:List cC,v=zl A ns.length cp root X Af fs.length cf Aa xs.length ca/\ay (B0 W) A ns L/\gn ns (Rows.uptoBulk d)/\Ux X/\(Lit.int .i64 root).wf=true ∧
      bX (B0 W) Af (aH bV fs)/\eZ fs (Rows.uptoBulk d)/\fs.length<=cf/\bX (B0 W) Aa (aH cD xs)/\gj xs (Rows.uptoBulk d)/\xs.length<=ca:=by
  obtain⟨cs,rfl,hcs⟩:=okWide_struct Tryz.underlying34 hval
  obtain⟨fuel,h⟩:=h
  obtain⟨ys,m,_,hx,hl,pH,hf⟩:=DataW.trod_struct Tryz.underlying34 h
  have hC:Tryz.prog.cellsOf 34=9:=by kernel_rfl
  rw [hC] at hcs
  obtain⟨cs⟩:=cs
  match cs,hcs with
  | [c0,c1,c2,c3,c4,c5,c6,c7,c8],_=>
    obtain⟨h0,b0⟩:=aZ (hf 0 _ rfl) (by rw [pH];decide)
    obtain⟨hr,_⟩:=aZ (hf 1 _ rfl) (by rw [pH];decide)
    obtain⟨h1,_⟩:=aZ (hf 2 _ rfl) (by rw [pH];decide)
    obtain⟨h3,b3⟩:=aZ (hf 3 _ rfl) (by rw [pH];decide)
    obtain⟨us,_,_,QY,_,qE,hu⟩:=DataW.trod_struct Tryz.underlying24 h0
    obtain⟨g0,e0⟩:=aZ (hu 0 _ rfl) (by rw [qE];decide)
    obtain⟨A,cp,ns,L,rfl,hG,hB⟩:=IW (c:=c0) g0
    obtain⟨vs,_,_,_,_,hvl,hv⟩:=DataW.trod_struct Tryz.underlying28 h1
    obtain⟨k0,_⟩:=aZ (hv 0 _ rfl) (by rw [hvl];decide)
    obtain⟨k1,_⟩:=aZ (hv 1 _ rfl) (by rw [hvl];decide)
    obtain⟨k2,_⟩:=aZ (hv 2 _ rfl) (by rw [hvl];decide)
    obtain⟨k3,_⟩:=aZ (hv 3 _ rfl) (by rw [hvl];decide)
    obtain⟨ts,_,_,_,_,htl,ht⟩:=DataW.trod_struct Tryz.underlying26 k3
    obtain⟨t0,_⟩:=aZ (ht 0 _ rfl) (by rw [htl];decide)
    obtain⟨t1,_⟩:=aZ (ht 1 _ rfl) (by rw [htl];decide)
    obtain⟨zr,rfl,wr⟩:=iQ (c:=c1) Tryz.underlying3 hr
    obtain⟨z0,rfl,w0⟩:=iN (c:=c2) Tryz.underlying3 k0
    obtain⟨z1,rfl,w1⟩:=iN (c:=c3) Tryz.underlying3 k1
    obtain⟨z2,rfl,w2⟩:=iN (c:=c4) Tryz.underlying3 k2
    obtain⟨z3,rfl,w3⟩:=iN (c:=c5) Tryz.underlying3 t0
    obtain⟨z4,rfl,w4⟩:=iN (c:=c6) Tryz.underlying3 t1
    obtain⟨ws,_,_,hwx,_,hwl,hw⟩:=DataW.trod_struct Tryz.underlying32 h3
    obtain⟨q0,d0⟩:=aZ (hw 0 _ rfl) (by rw [hwl];decide)
    obtain⟨q1,d1⟩:=aZ (hw 1 _ rfl) (by rw [hwl];decide)
    obtain⟨Af,cf,fs,rfl,hF,K2,QZ⟩:=xX (c:=c7) q0
    obtain⟨Aa,ca,xs,rfl,hA,K3,Q0⟩:=Cc (c:=c8) q1
    cases hx
    rw [QY] at b0
    rw [hwx] at b3
    exact⟨A,cp,ns,L,zr,⟨z0,z1,z2,z3,z4,0,0,0⟩,Af,cf,fs,Aa,ca,xs,rfl,hG,hB.wide (Nat.le_trans e0 b0),⟨w0,w1,w2,w3,w4⟩,wr,hF,⟨Nat.le_trans K2.len (Nat.le_trans d0 b3),K2.q⟩,QZ,hA,⟨Nat.le_trans K3.len (Nat.le_trans d1 b3),fun a ha=>(K3.q a ha).wide (Nat.le_trans d1 b3)⟩,Q0⟩
theorem open_script {v:Value} {d:DataW H} {ps:List MemPlace} {r:Go.Reach} {b0:Nat} (hval:Value.okWide Tryz.prog W r b0 32 v) (h:DataW.Trod enc Tryz.prog W 0 sp true 32 v d ps) :
    ∃ Af cf,∃ fs:List bJ,∃ Aa ca,∃ xs:List cC,v=.agg #[.slice Af fs.length cf,.slice Aa xs.length ca]/\bX (B0 W) Af (aH bV fs)/\eZ fs (Rows.uptoBulk d)/\fs.length<=cf/\bX (B0 W) Aa (aH cD xs)/\gj xs (Rows.uptoBulk d)/\xs.length<=ca:=by
  obtain⟨cs,rfl,hcs⟩:=okWide_struct Tryz.underlying32 hval
  obtain⟨fuel,h⟩:=h
  obtain⟨ws,m,_,hx,hl,hwl,hw⟩:=DataW.trod_struct Tryz.underlying32 h
  have hC:Tryz.prog.cellsOf 32=2:=by kernel_rfl
  rw [hC] at hcs
  obtain⟨cs⟩:=cs
  match cs,hcs with
  | [c7,c8],_=>
    obtain⟨q0,d0⟩:=aZ (hw 0 _ rfl) (by rw [hwl];decide)
    obtain⟨q1,d1⟩:=aZ (hw 1 _ rfl) (by rw [hwl];decide)
    obtain⟨Af,cf,fs,rfl,hF,K2,QZ⟩:=xX (c:=c7) q0
    obtain⟨Aa,ca,xs,rfl,hA,K3,Q0⟩:=Cc (c:=c8) q1
    cases hx
    exact⟨Af,cf,fs,Aa,ca,xs,rfl,hF,⟨Nat.le_trans K2.len d0,K2.q⟩,QZ,hA,⟨Nat.le_trans K3.len d1,fun a ha=>(K3.q a ha).wide d1⟩,Q0⟩
end a
end
end Go.Proofs.YtidjcblbdmfalaaGreat
section
namespace Go.Proofs
open Go.Shelf
def Tryz.keysS_ren:Go.Shelf.Ren:=⟨fun|7=>69|10=>109|n=>n,fun|23=>136|26=>9|3=>124|28=>157|0=>0|27=>156|33=>203|4=>4|n=>n,fun|n=>n⟩
theorem Tryz.keysS:Go.Proofs.SlLaysZ.n7 Tryz.prog Tryz.keysS_ren:={
  mixed:=by kernel_rfl
  f7:=⟨Tryz.f69.name,by decide,Tryz.func69.trans (congrArg some (by kernel_rfl))⟩
  f10:=⟨Tryz.f109.name,by decide,Tryz.func109.trans (congrArg some (by kernel_rfl))⟩
  t0:=Tryz.underlying0
  a0:=Tryz.isAgg0
  z0:=Tryz.sizeOf0
  v0:=Tryz.zeroValue0
  t4:=Tryz.underlying4
  a4:=Tryz.isAgg4
  z4:=Tryz.sizeOf4
  v4:=Tryz.zeroValue4
  t23:=Tryz.underlying136
  a23:=Tryz.isAgg136
  z23:=Tryz.sizeOf136
  v23:=Tryz.zeroValue136
  t26:=Tryz.underlying9
  a26:=Tryz.isAgg9
  z26:=Tryz.sizeOf9
  v26:=Tryz.zeroValue9
  t27:=Tryz.underlying156
  a27:=Tryz.isAgg156
  z27:=Tryz.sizeOf156
  v27:=Tryz.zeroValue156
  t28:=Tryz.underlying157
  a28:=Tryz.isAgg157
  z28:=Tryz.sizeOf157
  v28:=Tryz.zeroValue157
  t33:=Tryz.underlying203
  a33:=Tryz.isAgg203
  z33:=Tryz.sizeOf203
  v33:=Tryz.zeroValue203 }
def Tryz.sortedS_ren:Go.Shelf.Ren:=⟨fun|6=>68|8=>107|9=>108|11=>142|13=>141|12=>143|23=>180|24=>181|14=>182|15=>183|16=>184|17=>185|18=>186|19=>187|20=>188|21=>189|22=>190|25=>211|26=>206|27=>207|28=>212|29=>213|30=>214|31=>223|n=>n,fun|26=>9|28=>157|24=>154|0=>0|3=>3|37=>234|48=>266|50=>268|4=>4|40=>260|39=>259|45=>251|5=>5|9=>9|51=>286|55=>290|57=>299|58=>300|33=>203|n=>n,fun|n=>n⟩
theorem Tryz.sortedS:Go.Proofs.SlLaysZ.n6 Tryz.prog Tryz.sortedS_ren:={
  mixed:=by kernel_rfl
  f6:=⟨Tryz.f68.name,by decide,Tryz.func68.trans (congrArg some (by kernel_rfl))⟩
  f8:=⟨Tryz.f107.name,by decide,Tryz.func107.trans (congrArg some (by kernel_rfl))⟩
  f11:=⟨Tryz.f142.name,by decide,Tryz.func142.trans (congrArg some (by kernel_rfl))⟩
  t0:=Tryz.underlying0
  a0:=Tryz.isAgg0
  z0:=Tryz.sizeOf0
  v0:=Tryz.zeroValue0
  t24:=Tryz.underlying154
  a24:=Tryz.isAgg154
  z24:=Tryz.sizeOf154
  v24:=Tryz.zeroValue154
  t26:=Tryz.underlying9
  a26:=Tryz.isAgg9
  z26:=Tryz.sizeOf9
  v26:=Tryz.zeroValue9
  t28:=Tryz.underlying157
  a28:=Tryz.isAgg157
  z28:=Tryz.sizeOf157
  v28:=Tryz.zeroValue157
  i26:=by kernel_rfl }
def Tryz.sortS_ren:Go.Shelf.Ren:=⟨fun|6=>108|8=>141|9=>143|19=>180|20=>181|21=>182|22=>183|23=>184|24=>185|25=>186|26=>187|27=>188|28=>189|29=>190|36=>211|31=>206|32=>207|37=>212|38=>213|39=>214|41=>223|n=>n,fun|27=>154|29=>9|3=>3|32=>234|26=>154|0=>0|44=>266|46=>268|4=>4|36=>260|35=>259|41=>251|5=>5|9=>9|53=>286|57=>290|63=>299|64=>300|n=>n,fun|n=>n⟩
theorem Tryz.sortS:Go.Proofs.SlLaysM.n6 Tryz.prog Tryz.sortS_ren:={
  mixed:=by kernel_rfl
  f6:=⟨Tryz.f108.name,by decide,Tryz.func108.trans (congrArg some (by kernel_rfl))⟩
  f8:=Tryz.func141.trans (congrArg some (by kernel_rfl))
  f9:=⟨Tryz.f143.name,by decide,Tryz.func143.trans (congrArg some (by kernel_rfl))⟩
  f19:=Tryz.func180.trans (congrArg some (by kernel_rfl))
  f20:=Tryz.func181.trans (congrArg some (by kernel_rfl))
  f21:=⟨Tryz.f182.name,by decide,Tryz.func182.trans (congrArg some (by kernel_rfl))⟩
  f22:=⟨Tryz.f183.name,by decide,Tryz.func183.trans (congrArg some (by kernel_rfl))⟩
  f23:=⟨Tryz.f184.name,by decide,Tryz.func184.trans (congrArg some (by kernel_rfl))⟩
  f24:=⟨Tryz.f185.name,by decide,Tryz.func185.trans (congrArg some (by kernel_rfl))⟩
  f25:=⟨Tryz.f186.name,by decide,Tryz.func186.trans (congrArg some (by kernel_rfl))⟩
  f26:=⟨Tryz.f187.name,by decide,Tryz.func187.trans (congrArg some (by kernel_rfl))⟩
  f27:=⟨Tryz.f188.name,by decide,Tryz.func188.trans (congrArg some (by kernel_rfl))⟩
  f28:=⟨Tryz.f189.name,by decide,Tryz.func189.trans (congrArg some (by kernel_rfl))⟩
  f29:=⟨Tryz.f190.name,by decide,Tryz.func190.trans (congrArg some (by kernel_rfl))⟩
  f31:=Tryz.func206.trans (congrArg some (by kernel_rfl))
  f32:=Tryz.func207.trans (congrArg some (by kernel_rfl))
  f36:=⟨Tryz.f211.name,by decide,Tryz.func211.trans (congrArg some (by kernel_rfl))⟩
  f37:=⟨Tryz.f212.name,by decide,Tryz.func212.trans (congrArg some (by kernel_rfl))⟩
  f38:=⟨Tryz.f213.name,by decide,Tryz.func213.trans (congrArg some (by kernel_rfl))⟩
  f39:=⟨Tryz.f214.name,by decide,Tryz.func214.trans (congrArg some (by kernel_rfl))⟩
  f41:=⟨Tryz.f223.name,by decide,Tryz.func223.trans (congrArg some (by kernel_rfl))⟩
  t0:=Tryz.underlying0
  a0:=Tryz.isAgg0
  z0:=Tryz.sizeOf0
  v0:=Tryz.zeroValue0
  t3:=Tryz.underlying3
  a3:=Tryz.isAgg3
  z3:=Tryz.sizeOf3
  v3:=Tryz.zeroValue3
  t4:=Tryz.underlying4
  a4:=Tryz.isAgg4
  z4:=Tryz.sizeOf4
  v4:=Tryz.zeroValue4
  t5:=Tryz.underlying5
  a5:=Tryz.isAgg5
  z5:=Tryz.sizeOf5
  v5:=Tryz.zeroValue5
  t9:=Tryz.underlying9
  a9:=Tryz.isAgg9
  z9:=Tryz.sizeOf9
  v9:=Tryz.zeroValue9
  t26:=Tryz.underlying154
  a26:=Tryz.isAgg154
  z26:=Tryz.sizeOf154
  v26:=Tryz.zeroValue154
  t27:=Tryz.underlying154
  a27:=Tryz.isAgg154
  z27:=Tryz.sizeOf154
  v27:=Tryz.zeroValue154
  t29:=Tryz.underlying9
  a29:=Tryz.isAgg9
  z29:=Tryz.sizeOf9
  v29:=Tryz.zeroValue9
  t32:=Tryz.underlying234
  a32:=Tryz.isAgg234
  z32:=Tryz.sizeOf234
  v32:=Tryz.zeroValue234
  t35:=Tryz.underlying259
  a35:=Tryz.isAgg259
  z35:=Tryz.sizeOf259
  v35:=Tryz.zeroValue259
  t36:=Tryz.underlying260
  a36:=Tryz.isAgg260
  z36:=Tryz.sizeOf260
  v36:=Tryz.zeroValue260
  t41:=Tryz.underlying251
  a41:=Tryz.isAgg251
  z41:=Tryz.sizeOf251
  v41:=Tryz.zeroValue251
  t44:=Tryz.underlying266
  a44:=Tryz.isAgg266
  z44:=Tryz.sizeOf266
  v44:=Tryz.zeroValue266
  t46:=Tryz.underlying268
  a46:=Tryz.isAgg268
  z46:=Tryz.sizeOf268
  v46:=Tryz.zeroValue268
  t53:=Tryz.underlying286
  a53:=Tryz.isAgg286
  z53:=Tryz.sizeOf286
  v53:=Tryz.zeroValue286
  t57:=Tryz.underlying290
  a57:=Tryz.isAgg290
  z57:=Tryz.sizeOf290
  v57:=Tryz.zeroValue290
  t63:=Tryz.underlying299
  a63:=Tryz.isAgg299
  z63:=Tryz.sizeOf299
  v63:=Tryz.zeroValue299
  t64:=Tryz.underlying300
  a64:=Tryz.isAgg300
  z64:=Tryz.sizeOf300
  v64:=Tryz.zeroValue300 }
end Go.Proofs
end
namespace Go.Proofs.YtidjcblbdmfalaaGreat
section
open Go.RowKit Go.Maps Go.Sort Go.Shelf
theorem Q5 (m:Nat):AnyZ.SortsIn Tryz.prog Tryz.sortedS_ren Fence.wide m:=
  ⟨fun blk off cap ss W hH hblk hsz=>callsIn_wide.2 (AnyM.slices_Sort_string Tryz.sortS blk off cap ss W hH hblk hsz),
   fun p cap W=>callsIn_wide.2 (AnyM.slices_Sort_string_none Tryz.sortS p cap W)⟩
def Dd (bk:Nat):Value:=.func (.func 109) #[] #[.pointer (some ⟨bk,0,none⟩)]
theorem M8 {β:Bs} (mb:Option Nat):Spec Tryz.prog β 69 #[.map mb] [] (fun v l=>∃ bk,v=Dd bk/\l=[.blk bk [.map mb] 136]):=
  Spec.ER fun W _=>by
    have h:CallsIn Fence.wide 5 Tryz.prog 69 #[.map mb] W fun e w'=>e=.returned (Dd W.heap.size)/\w'=W.alloc (.cells #[.map mb] 136):=AnyZ.keys_in Tryz.keysS Fence.wide 5 trivial rfl mb W
    refine ((callsIn_wide (n:=5)).1 h).mono ?_
    rintro e w' ⟨rfl,rfl⟩
    refine⟨_,_,rfl,⟨W.heap.size,rfl,rfl⟩,(Keeps.refl _ _).alloc _,fun k=>k=W.heap.size,⟨?_,fun k=>Iff.rfl⟩,fun k hk=>Nat.le_of_eq hk.symm⟩
    show (W.heap.push _)[W.heap.size]?=_
    simp
def qO (es:fD Th):List Value:=es.map (fun e=>.string e.1)
theorem G0 {es:fD Th} (h:jO es):(es.map (fun e=>e.1.data.toList)).Pairwise (· < ·):=by
  refine List.pairwise_map.2 (h.imp (fun {a b} hab=>?_))
  unfold mh at hab
  have h1:¬ Op.bytesLess b.1.toList a.1.toList=true:=fun e=>hab (by rw [e];rfl)
  have h2:¬ b.1.toList=a.1.toList:=fun e=>hab (by rw [e];simp)
  rw [bytesLess_eq,Lib.toList_data,Lib.toList_data] at h1
  rw [Lib.toList_data,Lib.toList_data] at h2
  by_cases e:a.1.data.toList < b.1.data.toList
  ·exact e
  exfalso
  have e:=List.not_lt.1 e
  rcases List.le_iff_lt_or_eq.1 e with e|e
  ·exact h1 (by simpa using e)
  exact h2 e
theorem M9 {w:World} {b n:Nat} {L:HL} {es:fD Th} {D:DataW Value} (hr:jO es) (hown:w.ownsMap Tryz.prog 9 rN b n D) (hf:∀ kl,Maps.has D kl=(iG L es kl).isSome) {ss:List (List UInt8)} (hp:ss.Perm (strKeys D)) :
    ss.mergeSort (fun x y=>decide (x<=y))=es.map (fun e=>e.1.data.toList):=by
  have hsort:=G0 hr
  obtain⟨es',hD,hpw,_⟩:=hown.entries Ap
  obtain⟨Vz,Ol,hko⟩:=hown.keysOf
  obtain rfl:es'=Vz:=by rw [hD] at Ol;simpa using Ol
  have hp2:(es.map (fun e=>e.1.data.toList)).Perm (strKeys D):=by
    rw [hD]
    refine perm_strKeys hpw (fun p hp=>?_) (hsort.imp (fun {a b} h e=>by subst e;exact absurd h (List.lt_irrefl a))) (fun x=>?_)
    ·obtain⟨v,hv⟩:=hko p hp
     obtain⟨x,_,h,_⟩:=keyOf_str Tryz.underlying9 hv
     exact⟨x,h⟩
    rw [← hD,hf]
    show _↔((aX ⟨x.toArray⟩ es).map (dQ L)).isSome=true
    rw [Option.isSome_map]
    constructor
    ·intro hx
     obtain⟨e,he,rfl⟩:=List.mem_map.1 hx
     have h1:(⟨e.1.data.toList.toArray⟩:ByteArray)=e.1:=by rw [Array.toArray_toList]
     rw [h1,xP (t:=e.2) (jO.twice hr) he];rfl
    intro hx
    obtain⟨t,ht⟩:=Option.isSome_iff_exists.1 hx
    exact List.mem_map.2 ⟨_,mD ht,by simp⟩
  have h3:=mergeSort_of_perm (hp.trans hp2.symm)
  have h4:(es.map (fun e=>e.1.data.toList)).mergeSort leB=es.map (fun e=>e.1.data.toList):=List.mergeSort_of_pairwise (hsort.imp (fun {a b} h=>by simp only [leB,decide_eq_true_eq];exact List.le_of_lt h))
  exact h3.trans h4
theorem Jx {β:Bs} (L:HL) (b bk n:Nat) (es:fD Th) (hr:jO es) (hn:n<=8192) :
    Spec Tryz.prog β 68 #[Dd bk] [.abs (aN Tryz.prog 9 b (iG L es) n),.blk bk [.map (some b)] 136] (fun v l=>∃ A cap,v=.slice A es.length cap ∧
      l=[.abs (aN Tryz.prog 9 b (iG L es) n),.blk bk [.map (some b)] 136,.abs (av 9 1 A es.length cap (qO es))]):=by
  intro R w hS
  obtain⟨F1,h1⟩:=hS.get (i:=0) (p:=.abs (aN Tryz.prog 9 b (iG L es) n)) rfl
  obtain⟨F2,h2⟩:=hS.get (i:=1) (p:=.blk bk [.map (some b)] 136) rfl
  obtain⟨D,hown,hsz,hhas,_⟩:=h1.1
  have hcell:w.cell? ⟨bk,0,none⟩=some (.map (some b)):=(gI h2.1 rfl rfl rfl).1
  have hseq:SeqGives Fence.wide 2 Tryz.prog 109 #[.pointer (some ⟨bk,0,none⟩)] encStr (fun ss=>ss.Perm (strKeys D)) (Maps.size D) w:=
    AnyZ.keys_gives (ρ:=Tryz.keysS_ren) { Tryz.keysS with } Fence.wide _ trivial rfl (by omega) bk b n D w (lt_of_some h2.1) hcell hown
  have cS:=AnyZ.sorted_in Tryz.sortedS Fence.wide 5 trivial trivial trivial trivial rfl (by omega) (Q5 _) (enters_of Tryz.func108 (by kernel_rfl) rfl) 109 #[.pointer (some ⟨bk,0,none⟩)] trivial (enters_of Tryz.func109 (by kernel_rfl) rfl)
    (fun ss=>ss.Perm (strKeys D)) (Maps.size D) (by rw [hsz];unfold maxLen;omega) (by rw [hsz];omega) w hseq
  change CallsIn _ _ Tryz.prog 68 _ _ _ at cS
  refine ((callsIn_wide (n:=5)).1 cS).mono ?_
  rintro e w' ⟨v,ss,rfl,hp,hrow,hnil,hb⟩
  have hkeys:=M9 hr hown hhas hp
  have hl2:ss.length=es.length:=by
    have h3:(ss.mergeSort (fun x y=>decide (x<=y))).length=ss.length:=List.length_mergeSort ss
    rw [hkeys,List.length_map] at h3
    exact h3.symm
  rw [hkeys,hl2] at hrow
  have wZ:∃ A cap,v=.slice A es.length cap:=by
    rcases hrow.2 with ⟨e1,e2⟩|⟨g,cp,cur,e1,_⟩
    ·exact⟨none,0,by rw [e1,e2]⟩
    exact⟨_,cp,e1⟩
  obtain⟨A,cap,rfl⟩:=wZ
  have VA:(es.map (fun e=>e.1.data.toList)).map encStr=qO es:=by
    rw [List.map_map]
    refine List.map_congr_left (fun e _=>?_)
    show encStr e.1.data.toList=.string e.1
    unfold encStr
    rw [Array.toArray_toList]
  rw [VA] at hrow
  have hq:Sat β ([.abs (aN Tryz.prog 9 b (iG L es) n),.blk bk [.map (some b)] 136,.abs R]++[.abs (av 9 1 A es.length cap (qO es))]) w':=by
    refine Sat.new (F:=fun k=>(Value.slice A es.length cap).ownBlock=some k) hS ⟨?_,fun k=>Iff.rfl⟩ ⟨hb.os,hb.tape,hb.output,hb.size,fun k hk _=>hb.block k hk⟩ (fun k hk=>(hrow.lt k hk).1)
    refine⟨hrow.1,?_⟩
    rcases hrow.2 with h|⟨g,cp,cur,e1,_,h3,h4⟩
    ·exact .inl h
    exact .inr ⟨g,cp,cur,e1,Nat.zero_le _,h3,h4⟩
  exact⟨_,[.abs (aN Tryz.prog 9 b (iG L es) n),.blk bk [.map (some b)] 136,.abs (av 9 1 A es.length cap (qO es))],rfl,⟨A,cap,rfl,rfl⟩,hq.pick (idx:=[0,1,3,2]) rfl rfl⟩
end
section
open Go.RowKit Go.Maps bH aE
theorem HZ {ns:List aP} {n:aP} {k:Nat} (h:k < ns.length):nd (ns++[n]) k=nd ns k:=by
  unfold nd;rw [List.getD_eq_getElem?_getD,List.getD_eq_getElem?_getD,List.getElem?_append_left h]
theorem Df {ns:List aP} {n:aP}:nd (ns++[n]) ns.length=n:=by
  unfold nd;rw [List.getD_eq_getElem?_getD,List.getElem?_append_right (Nat.le_refl _)];simp
def Na:Lay:=⟨fun _=>none,fun _=>none,fun _=>0,fun _=>0⟩
def lD (ns:List aP) (L:Lay) (k:Nat):cE:=av 140 2 (L.eA k) (nd ns k).ah.length (L.eC k) (gU (nd ns k).ah)
def lE (ns:List aP) (L:Lay) (k:Nat):cE:=av 5 1 (L.dA k) (nd ns k).data.length (L.dC k) (bZ (nd ns k).data)
def UD (A:Option Addr) (c:Nat) (ns:List aP) (L:Lay):HP:=.abs (av 70 10 A ns.length c (dJ L ns))
def Nb (A:Option Addr) (c:Nat) (ns:List aP) (L:Lay):List HP:=[UD A c ns L,.abs (ju (lD ns L) ns.length),.abs (ju (lE ns L) ns.length)]
theorem q6.graph {β β':Bs} {A:Option Addr} {c:Nat} {ns:List aP} {L:Lay} (h:q6 β (Nb A c ns L) β'):ay β' A ns L:=by
  obtain⟨F,h1,h2⟩:=h.get 0 rfl
  obtain⟨G,g1,g2⟩:=h.get 1 rfl
  obtain⟨K,k1,k2⟩:=h.get 2 rfl
  exact⟨bX.jb h1 h2 rfl,
    ju.base k1 k2 rfl (Φ:=fun i b=>bh b (L.dA i) (nd ns i).data) (fun i _ F hF hO=>bX.jb (show (HP.abs (av 5 1 (L.dA i) (nd ns i).data.length (L.dC i) (bZ (nd ns i).data))).h F _ from hF) hO rfl),
    ju.base g1 g2 rfl (Φ:=fun i b=>dY b (L.eA i) (nd ns i).ah) (fun i _ F hF hO=>bX.jb (show (HP.abs (av 140 2 (L.eA i) (nd ns i).ah.length (L.eC i) (gU (nd ns i).ah))).h F _ from hF) hO rfl)⟩
theorem G1 {L:Lay} {ns:List aP} {n:aP} {dA eA:Option Addr} {dC eC:Nat}:dJ L ns++[.int .i64 n.id,.int .i64 n.kind,.int .i64 n.mode,.int .i64 n.uid,.int .i64 n.gid,.int .i64 n.sec,.int .i64 n.nano,.slice dA n.data.length dC,.string n.target,.slice eA n.ah.length eC]=dJ (L.put ns.length dA dC eA eC) (ns++[n]):=by
  have h:=Bq (ns:=ns++[n]) (L:=L) (k:=ns.length) (by simp) dA dC eA eC
  rw [Df,List.take_left,List.take_of_length_le (by simp)] at h
  exact h
theorem D3 {ns:List aP} {L:Lay} {n:aP} {dA eA:Option Addr} {dC eC:Nat}:(∀ x,x < ns.length->lE (ns++[n]) (L.put ns.length dA dC eA eC) x=lE ns L x)/\lE (ns++[n]) (L.put ns.length dA dC eA eC) ns.length=av 5 1 dA n.data.length dC (bZ n.data):=by
  refine⟨fun x hx=>?_,?_⟩
  ·unfold lE Lay.put
   rw [HZ hx]
   have:¬ x=ns.length:=by omega
   simp [this]
  unfold lE Lay.put
  rw [Df]
  simp
theorem D4 {ns:List aP} {L:Lay} {n:aP} {dA eA:Option Addr} {dC eC:Nat}:(∀ x,x < ns.length->lD (ns++[n]) (L.put ns.length dA dC eA eC) x=lD ns L x)/\lD (ns++[n]) (L.put ns.length dA dC eA eC) ns.length=av 140 2 eA n.ah.length eC (gU n.ah):=by
  refine⟨fun x hx=>?_,?_⟩
  ·unfold lD Lay.put
   rw [HZ hx]
   have:¬ x=ns.length:=by omega
   simp [this]
  unfold lD Lay.put
  rw [Df]
  simp
def lW (O:cg) (e:ByteArray×Th):jt:=⟨e.1,(obj O e.2.k).id⟩
def zm (O:cg) (id:Int) (t:Th):aP:=⟨id,t.kind,(obj O t.k).mode,(obj O t.k).uid,(obj O t.k).gid,(obj O t.k).sec,(obj O t.k).nano,(obj O t.k).data,(obj O t.k).target,(obj O t.k).ah.map (lW O)⟩
def bn (S:aI):List aP:=S.idx.map (fun p=>zm S.O p.1 p.2)
theorem o7 {S:aI}:(bn S).length=S.idx.length:=List.length_map ..
def lX (S:aI) (i:Nat):Th:=(S.idx.getD i (0,⟨0,0⟩)).2
def cY (S:aI) (i:Nat):Int:=(S.idx.getD i (0,⟨0,0⟩)).1
section at_
variable {S:aI} {i:Nat}
theorem Cd (hi:i < S.idx.length):S.idx[i]?=some (cY S i,lX S i):=by
  unfold cY lX
  rw [List.getD_eq_getElem?_getD,List.getElem?_eq_getElem hi];rfl
theorem get_at (h:Inv0 S) (hi:i < S.idx.length):aE.get S.idx (cY S i)=some (lX S i):=nj h.rise (List.mem_of_getElem? (Cd hi))
theorem H6 (h:Inv0 S) (hi:i < S.idx.length):Live S.idx (lX S i)/\cY S i=((lX S i).k:Int):=⟨h.live (get_at h hi),h.key (get_at h hi)⟩
theorem Q6 (hi:i < S.idx.length):(keys S.idx)[i]?=some (cY S i):=by
  unfold keys
  rw [List.getElem?_map,Cd hi];rfl
theorem wi (hi:i < S.idx.length):(bn S).take (i+1)=(bn S).take i++[zm S.O (cY S i) (lX S i)]:=by
  rw [List.take_add_one]
  congr 1
  unfold bn
  rw [List.getElem?_map,Cd hi];rfl
theorem dU (hi:i<=S.idx.length):((bn S).take i).length=i:=by rw [List.length_take,o7];omega
end at_
section sat
variable {β:Bs} {l l':List HP} {w:World} {i j k:Nat} {O:cg} {L:HL} {ix:List Nat}
theorem Sat.Q7 (h:Sat β l w) (hp:l[i]?=some (.abs (ax (kg (bN O L) k cE.none)))) (hq:l[j]?=some (.abs (av 5 1 (L.dA k) (obj O k).data.length (L.dC k) (bZ (obj O k).data)))) (hd:bC (i::j::ix)=true) (hl:bU l ix=some l') (h2:(obj O k).kind=1):Sat β (.abs (ax (bN O L))::l') w:=
  h.qw hp hq (fun _ _ h=>h) hd hl k (fun _ hx=>(oI hx).symm) (sK h2)
end sat
theorem Jy {es:List jt} {e:jt}:gU es++[.string e.name,.int .i64 e.id]=gU (es++[e]):=(vK e es 0).symm
section grow
variable {ns G':List aP} {n:aP} {L:Lay} {i dn en:Nat} {dA eA:Option Addr} {dC eC:Nat}
theorem wj (hl:ns.length=i) (hG:G'=ns++[n]) (hd:n.data.length=dn) (he:n.ah.length=en):dJ L ns++[.int .i64 n.id,.int .i64 n.kind,.int .i64 n.mode,.int .i64 n.uid,.int .i64 n.gid,.int .i64 n.sec,.int .i64 n.nano,.slice dA dn dC,.string n.target,.slice eA en eC]=dJ (L.put i dA dC eA eC) G':=by
  subst hl hG hd he;exact G1
theorem AO (hl:ns.length=i) (hG:G'=ns++[n]):∀ x,x < i->lE G' (L.put i dA dC eA eC) x=lE ns L x:=by
  subst hl hG;exact D3.1
theorem xY (hl:ns.length=i) (hG:G'=ns++[n]) (hd:n.data.length=dn):lE G' (L.put i dA dC eA eC) i=av 5 1 dA dn dC (bZ n.data):=by
  subst hl hG hd;exact D3.2
theorem AP (hl:ns.length=i) (hG:G'=ns++[n]):∀ x,x < i->lD G' (L.put i dA dC eA eC) x=lD ns L x:=by
  subst hl hG;exact D4.1
theorem xZ (hl:ns.length=i) (hG:G'=ns++[n]) (he:n.ah.length=en):lD G' (L.put i dA dC eA eC) i=av 140 2 eA en eC (gU n.ah):=by
  subst hl hG he;exact D4.2
end grow
section more
variable {S:aI} {i j k:Nat}
theorem SM (h:Inv0 S) (hi:i < S.idx.length):(∃ k,lX S i=⟨k,1⟩/\Live S.idx ⟨k,1⟩)\/(∃ k,lX S i=⟨k,2⟩/\Live S.idx ⟨k,2⟩)\/∃ k,lX S i=⟨k,3⟩/\Live S.idx ⟨k,3⟩:=by
  have h1:=(H6 h hi).1
  generalize lX S i=t at h1 ⊢
  obtain⟨k,kd⟩:=t
  rcases (h.ob _ h1).2.2 with e|e|e<;>simp only at e<;>subst e
  ·exact .inl ⟨k,rfl,h1⟩
  ·exact .inr (.inl ⟨k,rfl,h1⟩)
  exact .inr (.inr ⟨k,rfl,h1⟩)
theorem Dg (h:Inv0 S) (hi:i < S.idx.length):(Lit.int .i64 (cY S i)).wf=true:=by
  have h1:=h.idx _ _ (get_at h hi)
  have h2:=h.last
  exact WalkArith.wf_i64 (by omega)
theorem Nc (hi:i < S.idx.length):(ints (keys S.idx))[i * 1+0]?=some (.int .i64 (cY S i)):=by
  rw [Nat.mul_one,Nat.add_zero]
  unfold ints
  rw [List.getElem?_map,Q6 hi];rfl
theorem FO (h:Inv0 S) {t:Th} (hl:Live S.idx t) (hk:t.kind≠3):(obj S.O t.k).target=⟨#[]⟩:=by
  rcases (h.mt t hl).target with e|e
  ·exact e.2
  exact absurd (h.kind hl ▸ e.1) hk
theorem qP (h:Inv0 S) (hi:i < S.idx.length) (kX:lX S i=⟨k,1⟩) (hl:Live S.idx ⟨k,1⟩):(bn S).take (i+1)=(bn S).take i++[⟨cY S i,1,(obj S.O k).mode,(obj S.O k).uid,(obj S.O k).gid,(obj S.O k).sec,(obj S.O k).nano,(obj S.O k).data,⟨#[]⟩,[]⟩]:=by
  rw [wi hi,kX]
  unfold zm
  rw [show (obj S.O k).target=⟨#[]⟩ from FO h hl (by simp),show (obj S.O k).ah=[] from (h.mt _ hl).ah (by rw [h.kind hl];simp)];rfl
theorem qQ (h:Inv0 S) (hi:i < S.idx.length) (kX:lX S i=⟨k,3⟩) (hl:Live S.idx ⟨k,3⟩):(bn S).take (i+1)=(bn S).take i++[⟨cY S i,3,(obj S.O k).mode,(obj S.O k).uid,(obj S.O k).gid,(obj S.O k).sec,(obj S.O k).nano,[],(obj S.O k).target,[]⟩]:=by
  rw [wi hi,kX]
  unfold zm
  rw [show (obj S.O k).data=[] from (h.mt _ hl).data (by rw [h.kind hl];simp),show (obj S.O k).ah=[] from (h.mt _ hl).ah (by rw [h.kind hl];simp)];rfl
theorem sR (h:Inv0 S) (hi:i < S.idx.length) (kX:lX S i=⟨k,2⟩) (hl:Live S.idx ⟨k,2⟩):(bn S).take (i+1)=(bn S).take i++[⟨cY S i,2,(obj S.O k).mode,(obj S.O k).uid,(obj S.O k).gid,(obj S.O k).sec,(obj S.O k).nano,[],⟨#[]⟩,(obj S.O k).ah.map (lW S.O)⟩]:=by
  rw [wi hi,kX]
  unfold zm
  rw [show (obj S.O k).target=⟨#[]⟩ from FO h hl (by simp),show (obj S.O k).data=[] from (h.mt _ hl).data (by rw [h.kind hl];simp)]
def fF (es:fD Th) (j:Nat):ByteArray:=(es.getD j (⟨#[]⟩,⟨0,0⟩)).1
def AQ (es:fD Th) (j:Nat):Th:=(es.getD j (⟨#[]⟩,⟨0,0⟩)).2
theorem Jz {es:fD Th} (hj:j < es.length):es[j]?=some (fF es j,AQ es j):=by
  unfold fF AQ
  rw [List.getD_eq_getElem?_getD,List.getElem?_eq_getElem hj];rfl
theorem JA {es:fD Th} (hj:j < es.length):(qO es)[j * 1+0]?=some (.string (fF es j)):=by
  rw [Nat.mul_one,Nat.add_zero]
  unfold qO
  rw [List.getElem?_map,Jz hj];rfl
theorem UE (h:Inv0 S) {t:Th} (hl:Live S.idx t) (hj:j < (obj S.O t.k).ah.length):bO (fF (obj S.O t.k).ah j)/\((∃ k,aX (fF (obj S.O t.k).ah j) (obj S.O t.k).ah=some ⟨k,1⟩/\Live S.idx ⟨k,1⟩/\AQ (obj S.O t.k).ah j=⟨k,1⟩)\/(∃ k,aX (fF (obj S.O t.k).ah j) (obj S.O t.k).ah=some ⟨k,2⟩/\Live S.idx ⟨k,2⟩/\AQ (obj S.O t.k).ah j=⟨k,2⟩)\/∃ k,aX (fF (obj S.O t.k).ah j) (obj S.O t.k).ah=some ⟨k,3⟩/\Live S.idx ⟨k,3⟩/\AQ (obj S.O t.k).ah j=⟨k,3⟩):=by
  have hm:=List.mem_of_getElem? (Jz hj)
  have h1:=h.ah t hl _ hm
  have h2:=xP (h.twice hl) hm
  refine⟨h1.1,?_⟩
  have h3:=h1.2
  generalize AQ (obj S.O t.k).ah j=u at h2 h3 ⊢
  obtain⟨k,kd⟩:=u
  rcases (h.ob _ h3).2.2 with e|e|e<;>simp only at e<;>subst e
  ·exact .inl ⟨k,h2,h3,rfl⟩
  ·exact .inr (.inl ⟨k,h2,h3,rfl⟩)
  exact .inr (.inr ⟨k,h2,h3,rfl⟩)
theorem x3 {O:cg} {es:fD Th} {kd:Int} (hj:j < es.length) (he:AQ es j=⟨k,kd⟩):gU ((es.take j).map (lW O))++[.string (fF es j),.int .i64 (obj O k).id]=gU ((es.take (j+1)).map (lW O)):=by
  rw [List.take_add_one,Jz hj,he,List.map_append]
  exact Jy (es:=(es.take j).map (lW O)) (e:=⟨fF es j,(obj O k).id⟩)
end more
theorem q6.bytes {β β':Bs} {A:Option Addr} {n c:Nat} {d:List UInt8} (h:q6 β [.abs (av 5 1 A n c (bZ d))] β'):bh β' A d:=by
  obtain⟨F,h1,h2⟩:=h.get 0 rfl
  exact bX.jb h1 h2 rfl
end
section
open Go.RowKit
section order
variable {P:Program} {ops:Array Oper} {Q Q':Post} {n:Nat} {S:World->Prop}
inductive sS
  | one (i:Nat)
  | two (i j:Nat)
  | three (i k j:Nat)
  | perm (G:List Nat)
  | beside (c:List Nat) (j:Nat)
def FP (P:Program) (ops:Array Oper) (Q:Post) (S:World->Prop) (K:Act->World->Prop):Nat->List Nat->Act->World->Prop
  | 0,_,a,w=>K a w
  | n+1,G,a,w=>∀ i∈G,wpOp P ops Q i (fun a' w'=>S w'/\FP P ops Q S K n (G.erase i) a' w') a w
def EK (ops:Array Oper) (f:Array Bool->Bool):Nat->List Nat->Array Bool->Bool
  | 0,_,listed=>f listed
  | n+1,G,listed=>(Region.ready .any ops listed == G) && !G.isEmpty && G.all (fun i=>EK ops f n (G.erase i) (listed.setIfInBounds i true))
def EL (P:Program) (ops:Array Oper) (Q:Post) (S:World->Prop) (K:Act->World->Prop):List Nat->Act->World->Prop
  | [],a,w=>K a w
  | i::c,a,w=>wpOp P ops Q i (fun a' w'=>S w'/\EL P ops Q S K c a' w') a w
def wk (P:Program) (ops:Array Oper) (Q:Post) (S:World->Prop) (K:Act->World->Prop) (j:Nat):List Nat->Act->World->Prop
  | [],a,w=>wpOp P ops Q j (fun a' w'=>S w'/\K a' w') a w
  | i::c,a,w=>wpOp P ops Q i (fun a' w'=>S w'/\wk P ops Q S K j c a' w') a w/\wpOp P ops Q j (fun a' w'=>S w'/\EL P ops Q S K (i::c) a' w') a w
def seqB (ops:Array Oper) (f:Array Bool->Bool):List Nat->Array Bool->Bool
  | [],listed=>f listed
  | i::c,listed=>(Region.ready .any ops listed == [i]) && seqB ops f c (listed.setIfInBounds i true)
def vk (ops:Array Oper) (f:Array Bool->Bool) (j:Nat):List Nat->Array Bool->Bool
  | [],listed=>(Region.ready .any ops listed == [j]) && f (listed.setIfInBounds j true)
  | i::c,listed=>(Region.ready .any ops listed == (if i < j then [i,j] else [j,i])) && vk ops f j c (listed.setIfInBounds i true) && seqB ops f (i::c) (listed.setIfInBounds j true)
def lF (P:Program) (ops:Array Oper) (Q:Post) (S:World->Prop):List sS->Act->World->Prop
  | [],a,w=>Q .normal a w
  | .one i::l,a,w=>wpOp P ops Q i (fun a' w'=>(l=[]\/S w')/\lF P ops Q S l a' w') a w
  | .two i j::l,a,w=>
    wpOp P ops Q i (fun a' w'=>S w'/\wpOp P ops Q j (fun a2 w2=>S w2/\lF P ops Q S l a2 w2) a' w') a w ∧
    wpOp P ops Q j (fun a' w'=>S w'/\wpOp P ops Q i (fun a2 w2=>S w2/\lF P ops Q S l a2 w2) a' w') a w
  | .three i k j::l,a,w=>
    wpOp P ops Q i (fun a1 w1=>S w1/\wpOp P ops Q k (fun a2 w2=>S w2/\wpOp P ops Q j (fun a3 w3=>S w3/\lF P ops Q S l a3 w3) a2 w2) a1 w1 ∧
      wpOp P ops Q j (fun a2 w2=>S w2/\wpOp P ops Q k (fun a3 w3=>S w3/\lF P ops Q S l a3 w3) a2 w2) a1 w1) a w ∧
    wpOp P ops Q j (fun a1 w1=>S w1/\wpOp P ops Q i (fun a2 w2=>S w2/\wpOp P ops Q k (fun a3 w3=>S w3/\lF P ops Q S l a3 w3) a2 w2) a1 w1) a w
  | .perm G::l,a,w=>FP P ops Q S (lF P ops Q S l) G.length G a w
  | .beside c j::l,a,w=>wk P ops Q S (lF P ops Q S l) j c a w
def ux (ops:Array Oper) (n:Nat):List sS->Array Bool->Bool
  | [],listed=>(Region.ready .any ops listed).isEmpty
  | .one i::l,listed=>(Region.ready .any ops listed == [i]) && (!l.isEmpty || i == n) && ux ops n l (listed.setIfInBounds i true)
  | .two i j::l,listed=>(Region.ready .any ops listed == [i,j]) && (Region.ready .any ops (listed.setIfInBounds i true) == [j]) && (Region.ready .any ops (listed.setIfInBounds j true) == [i]) && decide (i≠j) && ux ops n l ((listed.setIfInBounds i true).setIfInBounds j true)
  | .three i k j::l,listed=>(Region.ready .any ops listed == [i,j]) && (Region.ready .any ops (listed.setIfInBounds i true) == [k,j]) && (Region.ready .any ops ((listed.setIfInBounds i true).setIfInBounds k true) == [j]) && (Region.ready .any ops ((listed.setIfInBounds i true).setIfInBounds j true) == [k]) &&
    (Region.ready .any ops (listed.setIfInBounds j true) == [i]) && decide (i≠j) && decide (k≠j) && ux ops n l (((listed.setIfInBounds i true).setIfInBounds k true).setIfInBounds j true)
  | .perm G::l,listed=>EK ops (ux ops n l) G.length G listed
  | .beside c j::l,listed=>vk ops (ux ops n l) j c listed
def q8:List sS->Nat
  | []=>0
  | .one _::l=>q8 l+1
  | .two _ _::l=>q8 l+2
  | .three _ _ _::l=>q8 l+3
  | .perm G::l=>q8 l+G.length
  | .beside c _::l=>q8 l+(c.length+1)
theorem D5 {m i:Nat} {listed:Array Bool} {a:Act} {w:World} (hr:Region.ready .any ops listed=[i]) (h:wpOp P ops (NP Q) i (fun a' w'=>S w'/\iq P ops (NP Q) n S m (listed.setIfInBounds i true) a' w') a w):iq P ops (NP Q) n S (m+1) listed a w:=by
  refine⟨fun h0=>(by rw [hr] at h0;cases h0),fun y hy=>?_⟩
  rw [hr] at hy
  have hy:y=i:=by simpa using hy
  subst hy
  exact wpOp_mono (fun a' w' h=>⟨.inr h.1,h.2⟩) h
theorem H7 {K:Act->World->Prop} {f:Array Bool->Bool} {m:Nat} (hK:∀ listed a w,f listed=true->K a w->iq P ops (NP Q) n S m listed a w):∀ (c:List Nat) (listed:Array Bool) (a:Act) (w:World),seqB ops f c listed=true->EL P ops (NP Q) S K c a w->iq P ops (NP Q) n S (m+c.length) listed a w
  | [],listed,a,w,hb,h=>hK listed a w hb h
  | i::c,listed,a,w,hb,h=>by
    unfold seqB at hb
    simp only [Bool.and_eq_true,beq_iff_eq] at hb
    exact D5 hb.1 (wpOp_mono (fun a' w' g=>⟨g.1,H7 hK c _ a' w' hb.2 g.2⟩) h)
theorem Ce {K:Act->World->Prop} {f:Array Bool->Bool} {m j:Nat} (hK:∀ listed a w,f listed=true->K a w->iq P ops (NP Q) n S m listed a w):∀ (c:List Nat) (listed:Array Bool) (a:Act) (w:World),vk ops f j c listed=true->wk P ops (NP Q) S K j c a w->iq P ops (NP Q) n S (m+(c.length+1)) listed a w
  | [],listed,a,w,hb,h=>by
    unfold vk at hb
    simp only [Bool.and_eq_true,beq_iff_eq] at hb
    exact D5 hb.1 (wpOp_mono (fun a' w' g=>⟨g.1,hK _ a' w' hb.2 g.2⟩) h)
  | i::c,listed,a,w,hb,h=>by
    unfold vk at hb
    simp only [Bool.and_eq_true,beq_iff_eq] at hb
    obtain⟨⟨h1,h2⟩,h3⟩:=hb
    refine⟨fun h0=>(by rw [h1] at h0;split at h0<;>cases h0),fun y hy=>?_⟩
    rw [h1] at hy
    have hy:y=i\/y=j:=by
      split at hy
      ·simpa using hy
      have:y=j\/y=i:=by simpa using hy
      exact this.symm
    rcases hy with rfl|rfl
    ·exact wpOp_mono (fun a' w' g=>⟨.inr g.1,Ce hK c _ a' w' h2 g.2⟩) h.1
    exact wpOp_mono (fun a' w' g=>⟨.inr g.1,H7 hK (i::c) _ a' w' h3 g.2⟩) h.2
theorem FQ {K:Act->World->Prop} {f:Array Bool->Bool} {m:Nat} (hK:∀ listed a w,f listed=true->K a w->iq P ops (NP Q) n S m listed a w):∀ (k:Nat) (G:List Nat) (listed:Array Bool) (a:Act) (w:World),EK ops f k G listed=true->FP P ops (NP Q) S K k G a w->iq P ops (NP Q) n S (m+k) listed a w
  | 0,G,listed,a,w,hb,h=>hK listed a w hb h
  | k+1,G,listed,a,w,hb,h=>by
    unfold EK at hb
    simp only [Bool.and_eq_true,beq_iff_eq] at hb
    obtain⟨⟨h1,h2⟩,h3⟩:=hb
    refine⟨fun h0=>(by rw [h1] at h0;rw [h0] at h2;cases h2),fun j hj=>?_⟩
    rw [h1] at hj
    exact wpOp_mono (fun a' w' g=>⟨.inr g.1,FQ hK k (G.erase j) _ a' w' (List.all_eq_true.1 h3 j hj) g.2⟩) (h j hj)
theorem nw:∀ (l:List sS) (listed:Array Bool) (a:Act) (w:World),ux ops n l listed=true->lF P ops (NP Q) S l a w->iq P ops (NP Q) n S (q8 l) listed a w
  | [],listed,a,w,hb,h=>⟨List.isEmpty_iff.1 hb,h⟩
  | .one i::l,listed,a,w,hb,h=>by
    unfold ux at hb
    simp only [Bool.and_eq_true,beq_iff_eq] at hb
    obtain⟨⟨h1,h2⟩,h3⟩:=hb
    refine⟨fun h0=>(by rw [h1] at h0;cases h0),fun j hj=>?_⟩
    rw [h1] at hj
    have hj:j=i:=by simpa using hj
    subst hj
    refine wpOp_mono (fun a' w' h4=>⟨?_,nw l _ a' w' h3 h4.2⟩) h
    rcases h4.1 with h5|h5
    ·subst h5;exact .inl (by simpa using h2)
    exact .inr h5
  | .two i j::l,listed,a,w,hb,h=>by
    unfold ux at hb
    simp only [Bool.and_eq_true,beq_iff_eq,decide_eq_true_iff] at hb
    obtain⟨⟨⟨⟨h1,h2⟩,h3⟩,hij⟩,h4⟩:=hb
    refine⟨fun h0=>(by rw [h1] at h0;cases h0),fun k hk=>?_⟩
    rw [h1] at hk
    have hk:k=i\/k=j:=by simpa using hk
    rcases hk with rfl|rfl
    ·refine wpOp_mono (fun a' w' h5=>⟨.inr h5.1,fun h0=>(by rw [h2] at h0;cases h0),fun k' hk'=>?_⟩) h.1
     rw [h2] at hk'
     have hk':k'=j:=by simpa using hk'
     subst hk'
     exact wpOp_mono (fun a2 w2 h6=>⟨.inr h6.1,nw l _ a2 w2 h4 h6.2⟩) h5.2
    refine wpOp_mono (fun a' w' h5=>⟨.inr h5.1,fun h0=>(by rw [h3] at h0;cases h0),fun k' hk'=>?_⟩) h.2
    rw [h3] at hk'
    have hk':k'=i:=by simpa using hk'
    subst hk'
    refine wpOp_mono (fun a2 w2 h6=>⟨.inr h6.1,?_⟩) h5.2
    rw [Array.setIfInBounds_comm _ _ (fun e=>hij e.symm)]
    exact nw l _ a2 w2 h4 h6.2
  | .three i k j::l,listed,a,w,hb,h=>by
    unfold ux at hb
    simp only [Bool.and_eq_true,beq_iff_eq,decide_eq_true_iff] at hb
    obtain⟨⟨⟨⟨⟨⟨⟨h1,h2⟩,h3⟩,h4⟩,h5⟩,hij⟩,hkj⟩,h6⟩:=hb
    have one:∀ {x:Nat} {ls:Array Bool} {fuel:Nat} {a:Act} {w:World},Region.ready .any ops ls=[x]->wpOp P ops (NP Q) x (fun a' w'=>S w'/\iq P ops (NP Q) n S fuel (ls.setIfInBounds x true) a' w') a w->iq P ops (NP Q) n S (fuel+1) ls a w:=fun {x ls fuel a w} hr hx=>by
      refine⟨fun h0=>(by rw [hr] at h0;cases h0),fun y hy=>?_⟩
      rw [hr] at hy
      have hy:y=x:=by simpa using hy
      subst hy
      exact wpOp_mono (fun a' w' h=>⟨.inr h.1,h.2⟩) hx
    have e1:(((listed.setIfInBounds i true).setIfInBounds j true).setIfInBounds k true)=(((listed.setIfInBounds i true).setIfInBounds k true).setIfInBounds j true):=Array.setIfInBounds_comm _ _ (fun e=>hkj e.symm)
    have e2:((listed.setIfInBounds j true).setIfInBounds i true)=((listed.setIfInBounds i true).setIfInBounds j true):=Array.setIfInBounds_comm _ _ (fun e=>hij e.symm)
    refine⟨fun h0=>(by rw [h1] at h0;cases h0),fun x hx=>?_⟩
    rw [h1] at hx
    have hx:x=i\/x=j:=by simpa using hx
    rcases hx with rfl|rfl
    ·refine wpOp_mono (fun a1 w1 g=>⟨.inr g.1,fun h0=>(by rw [h2] at h0;cases h0),fun y hy=>?_⟩) h.1
     rw [h2] at hy
     have hy:y=k\/y=j:=by simpa using hy
     rcases hy with rfl|rfl
     ·exact wpOp_mono (fun a2 w2 g2=>⟨.inr g2.1,one h3 (wpOp_mono (fun a3 w3 g3=>⟨g3.1,nw l _ a3 w3 h6 g3.2⟩) g2.2)⟩) g.2.1
     exact wpOp_mono (fun a2 w2 g2=>⟨.inr g2.1,one h4 (wpOp_mono (fun a3 w3 g3=>⟨g3.1,by rw [e1];exact nw l _ a3 w3 h6 g3.2⟩) g2.2)⟩) g.2.2
    refine wpOp_mono (fun a1 w1 g=>⟨.inr g.1,one h5 (wpOp_mono (fun a2 w2 g2=>⟨g2.1,?_⟩) g.2)⟩) h.2
    rw [e2]
    exact one h4 (wpOp_mono (fun a3 w3 g3=>⟨g3.1,by rw [e1];exact nw l _ a3 w3 h6 g3.2⟩) g2.2)
  | .perm G::l,listed,a,w,hb,h=>FQ (m:=q8 l) (fun ls a w hb h=>nw l ls a w hb h) G.length G listed a w hb h
  | .beside c j::l,listed,a,w,hb,h=>Ce (m:=q8 l) (fun ls a w hb h=>nw l ls a w hb h) c listed a w hb h
def o8 (P:Program) (ops:Array Oper) (Q:Post) (S:World->Prop) (es:List sS):List Nat->Act->World->Prop
  | [],a,w=>lF P ops Q S es a w
  | i::l,a,w=>∃ o v,ops[i]?=some o/\YieldsIf P ops S o v a/\o8 P ops Q S es l (a.put o.dst v) w
def EM (ops:Array Oper) (n:Nat) (es:List sS):List Nat->Array Bool->Bool
  | [],listed=>ux ops n es listed
  | i::l,listed=>decide (i < n) && Region.free .any ops listed i && (Region.ready .any ops listed).contains i && EM ops n es l (listed.setIfInBounds i true)
theorem FR {es:List sS} (hsel:Region.noSelect ops=true) (oZ:Region.sinkB .any ops n=true):∀ (l:List Nat) (listed:Array Bool) (a:Act) (w:World),EM ops n es l listed=true->Closed ops listed->S w->o8 P ops (NP Q) S es l a w->iq P ops (NP Q) n S (l.length+q8 es) listed a w
  | [],listed,a,w,hb,_,_,h=>by
    rw [List.length_nil,Nat.zero_add]
    exact nw es listed a w hb h
  | i::l,listed,a,w,hb,hc,hS,h=>by
    unfold EM at hb
    simp only [Bool.and_eq_true,decide_eq_true_iff] at hb
    obtain⟨⟨⟨h1,h2⟩,h3⟩,h4⟩:=hb
    obtain⟨o,v,ho,hy,hk⟩:=h
    have hr:i∈Region.ready .any ops listed:=by simpa using h3
    have e:(i::l).length+q8 es=(l.length+q8 es)+1:=by rw [List.length_cons];omega
    rw [e]
    exact sH ho hsel oZ h1 _ listed a w hc (Region.free_spec ho h2) hr hy hS (FR hsel oZ l _ _ w h4 (hc.set hr) hS hk)
def H8 (ops:Array Oper) (rs:List Nat) (es:List sS):Bool:=
  Region.noSelect ops && Region.sinkB .any ops (ops.size - 1) && (rs.length+q8 es == ops.size) && EM ops (ops.size - 1) es rs (Array.replicate ops.size false)
end order
section mix
variable {P:Program} {β:Bs} {N:Nat} {ops:Array Oper} {S:List HP} {rs:List Nat} {es:List sS} {fr fr':Fr} {hps:List HP} {Q:Post} {bG:List Prop} {i j:Nat}
def iH (P:Program) (β:Bs) (N:Nat) (ops:Array Oper) (S:List HP) (es:List sS) (rs:List Nat) (fr:Fr) (hps:List HP) (Q:Post):Prop:=
  ∀ junk w,Sat β hps w->o8 P ops (NP Q) (Sat β S) es rs (cx N fr junk) w
theorem af.rY {id:Nat} (rs:List Nat) (es:List sS) (pk:List Nat) (hm:P.follows .mixedOrders=true) (hB:H8 ops rs es=true) (hn:bC pk=true) (hp:bU hps pk=some S) (h:iH P β N ops S es rs fr hps Q):af P β N (.region id ops true) fr hps Q:=by
  intro junk w hS
  unfold H8 at hB
  simp only [Bool.and_eq_true,beq_iff_eq] at hB
  obtain⟨⟨⟨h1,h2⟩,h3⟩,h4⟩:=hB
  have dM:=hS.drewN 1
  have h5:=FR (Q:=Q) h1 h2 rs _ _ _ h4 (fun j oj _ hl=>by simp [Array.getD_eq_getD_getElem?,Array.getElem?_replicate] at hl;split at hl<;>simp at hl) (dM.pick hn hp) (h junk (w.drewN 1) dM)
  rw [h3] at h5
  refine Code.wp_mono (fun e a w q=>?_) (wp_region_any hm (oY _ _ _ _ h5))
  cases e with
  | normal=>exact q
  | exit id=>exact q.elim
  | goto l=>exact q.elim
  | ret=>exact q.elim
  | panic ch=>exact q.elim
  | outgrown=>exact q.elim
theorem wQ {junk:Nat->Value} {w:World}:∀ {hs:List OH} {is:List Nat} {fr fr':Fr} {T T':SS},qF P β N junk ops hs is fr T=some (fr',T')->(∀ p,p∈T'.bG->p)->T.used=true->T.hps=S →
    o8 P ops (NP Q) (Sat β S) es rs (cx N fr' junk) w->o8 P ops (NP Q) (Sat β S) es (is++rs) (cx N fr junk) w
  | [],[],fr,fr',T,T',h,ho,hu,hT,hK=>by cases h;exact hK
  | h::hs,i::is,fr,fr',T,T',hr,ho,hu,hT,hK=>by
    unfold qF at hr
    repeat' split at hr
    all_goals first|(cases hr;done)|skip
    rename_i o hget _ EX _ v T1 h0 _ hv
    obtain⟨e1,e2⟩:=uG h0
    rw [List.cons_append]
    unfold o8
    refine⟨o,v,hget,.inl ⟨by unfold Region.wanted;rw [EX],fun w' dM=>?_⟩,?_⟩
    ·rw [eS]
     obtain⟨w2,h1,_,_,h4⟩:=mU h0 (fun p hp=>ho p (vN hr p hp)) (by rw [hT];exact dM) (fun e=>by rw [hu] at e;cases e)
     obtain⟨ew,_⟩:=h4 rfl
     rw [ew] at h1
     rcases h1 with h1|⟨h1,_⟩
     ·exact h1
     exact absurd h1 (tH hv)
    rw [eM]
    exact wQ hr ho (e2.trans hu) (e1.trans hT) hK
  | [],_::_,_,_,_,_,h,_,_,_,_=>by cases h
  | _::_,[],_,_,_,_,h,_,_,_,_=>by cases h
theorem iH.reads (is:List Nat) (hs:List OH) (idx:List Nat) (h:∀ junk,r8 P β N junk ops hs is fr S idx=some (fr',bG)) (ho:j9 bG) (K:iH P β N ops S es rs fr' hps Q):iH P β N ops S es (is++rs) fr hps Q:=by
  intro junk w hS
  have h0:=h junk
  unfold r8 at h0
  split at h0
  ·rename_i mg S1 h1
   cases h0
   have hK:=K (lk mg junk) w hS
   rw [← jE] at hK
   exact wQ h1 (fun p hp=>ho.mem hp) rfl rfl hK
  cases h0
theorem gP (pJ:Fr) (is:List Nat) (os:List (Nat×OP)) (K:iH P β N ops S es [] pJ hps Q)
    (h:∀ junk,r8 P β N junk ops (jG (ig is.length os 0)) is fr S (bW pJ)=some (pJ,owed (ig is.length os 0)):=by intro _;kernel_rfl):iH P β N ops S es (is++[]) fr hps Q:=
  iH.reads is (jG (ig is.length os 0)) (bW pJ) h (pX _) K
theorem iH.pair {ι Q8 Q9:Type} {K5:Q8->Fr} {hpi:Q8->List HP} {K6:Q9->Fr} {K7:Q9->List HP} {fr':ι->Fr} {hp':ι->List HP} {oi oj:Oper} (Tn Tp pk:List Nat)
    (hi:ops[i]?=some oi) (hgi:oi.guard=none) (hj:ops[j]?=some oj) (Tq:oj.guard=none)
    (h1:aj P β N #[oi] 0 fr hps (NP (nI β N K5 hpi))) (h2:∀ a,aj P β N #[oj] 0 (K5 a) (hpi a) (NP (nI β N fr' hp')))
    (h3:aj P β N #[oj] 0 fr hps (NP (nI β N K6 K7))) (h4:∀ a,aj P β N #[oi] 0 (K6 a) (K7 a) (NP (nI β N fr' hp')))
    (hni:bC Tn=true) (UF:∀ a,bU (hpi a) Tn=some S) (VB:bC Tp=true) (UG:∀ a,bU (K7 a) Tp=some S) (hn:bC pk=true) (hp:∀ a,bU (hp' a) pk=some S)
    (K:∀ a,iH P β N ops S es [] (fr' a) (hp' a) Q):iH P β N ops S (.two i j::es) [] fr hps Q:=by
  intro junk w hS
  unfold o8 lF
  refine⟨gM hi hgi (jA (fun a w ⟨x,fO,ha,dM⟩=>?_) (show wpList P #[oi] (NP (nI β N K5 hpi)) [oi] (cx N fr junk) w from h1 junk w hS)),gM hj Tq (jA (fun a w ⟨x,fO,ha,dM⟩=>?_) (show wpList P #[oj] (NP (nI β N K6 K7)) [oj] (cx N fr junk) w from h3 junk w hS))⟩
  ·subst ha
   refine⟨dM.pick hni (UF x),gM hj Tq (jA (fun a w ⟨y,wm,ha,uQ⟩=>?_) (show wpList P #[oj] (NP (nI β N fr' hp')) [oj] (cx N (K5 x) fO) w from h2 x fO w dM))⟩
   subst ha
   exact⟨uQ.pick hn (hp y),K y wm _ uQ⟩
  subst ha
  refine⟨dM.pick VB (UG x),gM hi hgi (jA (fun a w ⟨y,wm,ha,uQ⟩=>?_) (show wpList P #[oi] (NP (nI β N fr' hp')) [oi] (cx N (K6 x) fO) w from h4 x fO w dM))⟩
  subst ha
  exact⟨uQ.pick hn (hp y),K y wm _ uQ⟩
theorem iH.cut {ι:Type} {fr':ι->Fr} {hp':ι->List HP} {o:Oper} (pk:List Nat) (hop:ops[i]?=some o) (hg:o.guard=none) (h:aj P β N #[o] 0 fr hps (NP (nI β N fr' hp'))) (hn:bC pk=true) (hp:∀ j,bU (hp' j) pk=some S)
    (K:∀ j,iH P β N ops S es [] (fr' j) (hp' j) Q):iH P β N ops S (.one i::es) [] fr hps Q:=by
  intro junk w hS
  unfold o8 lF
  refine gM hop hg (jA (fun a w ⟨j,fO,ha,dM⟩=>?_) (show wpList P #[o] (NP (nI β N fr' hp')) [o] (cx N fr junk) w from h junk w hS))
  subst ha
  exact⟨.inr (dM.pick hn (hp j)),K j fO _ dM⟩
theorem Sat.left {a b:List HP} {w:World} (h:Sat β (a++b) w):Sat β a w:=by
  obtain⟨h0,φ,h1,h2,h3⟩:=h
  have hlen:a.length<=(a++b).length:=by simp
  exact⟨h0,φ,fun i p hp=>h1 i p (by rw [List.getElem?_append_left (bE hp)];exact hp),fun i hi=>h2 i (by omega),fun i j hi hj=>h3 i j (by omega) (by omega)⟩
def kJ (P:Program) (β:Bs) (N:Nat) (ops:Array Oper) (Q:Post) (i d:Nat) (ds:List Nat) (fr:Fr) (pre:List HP) (post:Value->List HP->Prop):Prop:=
  ∀ junk w (A:cE),Sat β (pre++[.abs A]) w->wpOp P ops (NP Q) i (fun a' w'=>∃ v l fO,post v l/\a'=cx N fr fO/\fO d=v/\(∀ t∈ds,t≠d->fO t=junk t)/\Sat β (l++[.abs A]) w') (cx N fr junk) w
def j6 (nC:List Nat) (u:Nat->Value):Fr:=nC.map fun t=>(t,u t)
theorem x5 {nC:List Nat} {u:Nat->Value}:bW (j6 nC u)=nC:=by
  induction nC with
  | nil=>rfl
  | cons a r ih=>exact congrArg (a::·) ih
theorem K8 {nC:List Nat} {u junk:Nat->Value} {t:Nat} (h:t∈nC):lk (j6 nC u) junk t=u t:=by
  induction nC with
  | nil=>cases h
  | cons a r ih=>
    show lk ((a,u a)::j6 r u) junk t=_
    rw [fT]
    by_cases e:a=t
    ·rw [if_pos e,e]
    rw [if_neg e]
    rcases List.mem_cons.1 h with h|h
    ·exact absurd h.symm e
    exact ih h
theorem oM {fr pJ:Fr} {junk wm:Nat->Value} (h:∀ t,lk fr junk t=lk pJ wm t):cx N fr junk=cx N pJ wm:=by
  unfold cx
  rw [show lk fr junk=lk pJ wm from funext h]
theorem kJ.of {ι:Type} {v:ι->Value} {l:ι->List HP} {o:Oper} {d:Nat} {pre:List HP} (nC:List Nat) (hop:ops[i]?=some o) (hg:o.guard=none) (UH:(d::nC).all (fun t=>!jY t (bW fr))=true) (hd:jY d nC=false)
    (h:∀ (u:Nat->Value) (A:cE),aj P β N #[o] 0 (j6 nC u++fr) (pre++[.abs A]) (NP (nI β N (fun x=>(d,v x)::(j6 nC u++fr)) (fun x=>l x++[.abs A])))):kJ P β N ops Q i d (d::nC) fr pre (fun v' l'=>∃ x,v'=v x/\l'=l x):=by
  intro junk w A hS
  have hout:∀ t∈d::nC,t∉bW fr:=fun t ht hm=>by
    have h1:=List.all_eq_true.1 UH t ht
    rw [jo.2 hm] at h1;cases h1
  have Xd:d∉nC:=fun hm=>by rw [jo.2 hm] at hd;cases hd
  have e1:cx N fr junk=cx N (j6 nC junk++fr) junk:=oM fun t=>by
    rw [xu,x5]
    by_cases ht:t∈nC
    ·rw [if_pos ht,K8 ht,lN (hout t (List.mem_cons_of_mem _ ht))]
    rw [if_neg ht]
  rw [e1]
  refine gM hop hg (jA (fun a w ⟨x,SN,ha,dM⟩=>?_) (show wpList P #[o] (NP (nI β N _ _)) [o] (cx N (j6 nC junk++fr) junk) w from h junk A junk w hS))
  refine⟨v x,l x,lk ((d,v x)::(j6 nC junk++fr)) SN,⟨x,rfl,rfl⟩,?_,by rw [fT,if_pos rfl],fun t ht hn=>?_,dM⟩
  ·rw [ha]
   refine oM fun t=>?_
   by_cases ht:t∈bW fr
   ·have h1:¬ d=t:=fun e=>hout d List.mem_cons_self (e ▸ ht)
    have h2:t∉nC:=fun hm=>hout t (List.mem_cons_of_mem _ hm) ht
    rw [fT,if_neg h1,xu,x5,if_neg h2]
    exact EC ht
   rw [lN ht]
  rw [fT,if_neg (fun e=>hn e.symm),xu,x5,if_pos ((List.mem_cons.1 ht).resolve_left hn),K8 ((List.mem_cons.1 ht).resolve_left hn)]
theorem kJ.at_ {d:Nat} {ds:List Nat} {pre X Y:List HP} {post:Value->List HP->Prop} {junk:Nat->Value} {w:World} {K:Act->World->Prop} (h:kJ P β N ops Q i d ds fr pre post) (hS:Sat β (X++(pre++Y)) w)
    (hK:∀ v l fO w',post v l->fO d=v->(∀ t∈ds,t≠d->fO t=junk t)->Sat β (X++(l++Y)) w'->K (cx N fr fO) w'):wpOp P ops (NP Q) i K (cx N fr junk) w:=by
  have h1:=Sat.turn hS
  rw [List.append_assoc] at h1
  refine wpOp_mono (fun a' w' ⟨v,l,j2,g1,g2,g3,g4,g5⟩=>?_) (h junk w _ h1.fS)
  rw [g2]
  refine hK v l j2 w' g1 g3 g4 ?_
  have h2:=g5.qA
  rw [← List.append_assoc] at h2
  exact Sat.turn h2
theorem kJ.grow {d d1:Nat} {ds:List Nat} {pre:List HP} {q:Value->List HP->Prop} (h:kJ P β N ops Q i d (d::d1::ds) fr pre q) (h1:d1∉bW fr) (hd:d1≠d) (hn:d1∉ds) (v1:Value):kJ P β N ops Q i d (d::ds) ((d1,v1)::fr) pre q:=by
  intro junk w A hS
  have e:cx N ((d1,v1)::fr) junk=cx N fr (fun t=>if t=d1 then v1 else junk t):=oM fun t=>by
    rw [fT]
    by_cases e1:d1=t
    ·subst e1;rw [if_pos rfl,lN h1,if_pos rfl]
    rw [if_neg e1]
    by_cases ht:t∈bW fr
    ·exact EC ht
    rw [lN ht,lN ht,if_neg (fun e=>e1 e.symm)]
  rw [e]
  refine wpOp_mono (fun a' w' ⟨v,l,j2,g1,g2,g3,g4,g5⟩=>?_) (h _ w A hS)
  have k1:j2 d1=v1:=(g4 d1 (by simp) hd).trans (if_pos rfl)
  refine⟨v,l,j2,g1,?_,g3,fun t ht hne=>?_,g5⟩
  ·rw [g2]
   refine oM fun t=>?_
   rw [fT]
   by_cases e1:d1=t
   ·subst e1;rw [if_pos rfl,lN h1,k1]
   rw [if_neg e1]
  have h2:t≠d1:=fun e=>by
    subst e
    rcases List.mem_cons.1 ht with e|e
    ·exact hd e
    exact hn e
  refine (g4 t ?_ hne).trans (if_neg h2)
  rcases List.mem_cons.1 ht with e|e
  ·exact absurd e hne
  exact List.mem_cons_of_mem _ (List.mem_cons_of_mem _ e)
def kK (P:Program) (β:Bs) (N:Nat) (ops:Array Oper) (Q:Post) (dj:Nat):List (Nat×Nat)->Fr->List HP->(Fr->List HP->Prop)->Prop
  | [],fr,hps,R=>R fr hps
  | (i,d)::c,fr,hps,R=>(jY d (bW fr)=false/\d≠dj)/\∃ q:Value->List HP->Prop,kJ P β N ops Q i d [d,dj] fr hps q/\∀ v l,q v l->kK P β N ops Q dj c ((d,v)::fr) l R
theorem kK.step {dj d:Nat} {c:List (Nat×Nat)} {R:Fr->List HP->Prop} {q:Value->List HP->Prop} (h:kJ P β N ops Q i d [d,dj] fr hps q) (h1:(!jY d (bW fr) && decide (d≠dj))=true) (K:∀ v l,q v l->kK P β N ops Q dj c ((d,v)::fr) l R):kK P β N ops Q dj ((i,d)::c) fr hps R:=by
  simp only [Bool.and_eq_true,Bool.not_eq_true',decide_eq_true_iff] at h1
  exact⟨h1,q,h,K⟩
section VD
variable {dj:Nat} {Z pj:List HP} {qj:Value->List HP->Prop} {R:Fr->List HP->Prop} {pS:List Nat} {F:Act->World->Prop}
theorem Sat.rest {X:List HP} {w:World} (wR:bC pS=true) (wS:bU Z pS=some S) (h:Sat β (X++Z) w):Sat β S w:=Sat.pick (idx:=pS) (l:=Z) (Sat.left (Sat.turn h)) wR wS
theorem D6 {v:Value} {l2:List HP} (wR:bC pS=true) (wS:bU Z pS=some S) (hK:∀ f1 h1,R f1 h1->∀ junk w,Sat β (h1++(l2++Z)) w->F (cx N ((dj,v)::f1) junk) w) :
    ∀ (c:List (Nat×Nat)) (fr:Fr) (hps:List HP) (junk:Nat->Value) (w:World),jY dj (bW fr)=false->kK P β N ops Q dj c fr hps R->junk dj=v->Sat β (hps++(l2++Z)) w->EL P ops (NP Q) (Sat β S) F (c.map (·.1)) (cx N fr junk) w
  | [],fr,hps,junk,w,hdj,hc,hv,hS=>by
    have e:cx N fr junk=cx N ((dj,v)::fr) junk:=oM fun t=>by
      rw [fT]
      by_cases e1:dj=t
      ·subst e1;rw [if_pos rfl,lN (fun hm=>by rw [jo.2 hm] at hdj;cases hdj),hv]
      rw [if_neg e1]
    show F (cx N fr junk) w
    rw [e]
    exact hK fr hps hc junk w hS
  | (i,d)::c,fr,hps,junk,w,hdj,⟨⟨h1,h2⟩,q,h3,h4⟩,hv,hS=>by
    show wpOp P ops (NP Q) i _ _ _
    refine h3.at_ (X:=[]) hS (fun v' l j2 w' g1 g2 g3 g4=>⟨Sat.rest (X:=l++l2) wR wS (by rw [List.append_assoc];exact g4),?_⟩)
    have e:cx N fr j2=cx N ((d,v')::fr) j2:=oM fun t=>by
      rw [fT]
      by_cases e1:d=t
      ·subst e1;rw [if_pos rfl,lN (fun hm=>by rw [jo.2 hm] at h1;cases h1),g2]
      rw [if_neg e1]
    rw [e]
    refine D6 wR wS hK c _ l j2 w' ?_ (h4 v' l g1) ((g3 dj (by simp) (fun e=>h2 e.symm)).trans hv) g4
    cases hb:jY dj (bW ((d,v')::fr)) with
    | false=>rfl
    | true=>
      rcases List.mem_cons.1 (jo.1 hb) with e|e
      ·exact absurd e.symm h2
      rw [jo.2 e] at hdj;cases hdj
theorem D7 {j:Nat} (wR:bC pS=true) (wS:bU Z pS=some S) (hK:∀ f1 h1,R f1 h1->∀ v l2,qj v l2->∀ junk w,Sat β (h1++(l2++Z)) w->F (cx N ((dj,v)::f1) junk) w) :
    ∀ (c:List (Nat×Nat)) (fr:Fr) (hps:List HP) (junk:Nat->Value) (w:World),bC (c.map (·.2))=true->jY dj (bW fr)=false->kJ P β N ops Q j dj (dj::c.map (·.2)) fr pj qj->kK P β N ops Q dj c fr hps R->Sat β (hps++(pj++Z)) w->wk P ops (NP Q) (Sat β S) F j (c.map (·.1)) (cx N fr junk) w
  | [],fr,hps,junk,w,_,hdj,hj,hc,hS=>by
    show wpOp P ops (NP Q) j _ _ _
    refine hj.at_ (X:=hps) hS (fun v l j2 w' g1 g2 g3 g4=>⟨Sat.rest (X:=hps++l) wR wS (by rw [List.append_assoc];exact g4),?_⟩)
    have e:cx N fr j2=cx N ((dj,v)::fr) j2:=oM fun t=>by
      rw [fT]
      by_cases e1:dj=t
      ·subst e1;rw [if_pos rfl,lN (fun hm=>by rw [jo.2 hm] at hdj;cases hdj),g2]
      rw [if_neg e1]
    rw [e]
    exact hK fr hps hc v l g1 j2 w' g4
  | (i,d)::c,fr,hps,junk,w,hnd,hdj,hj,hc,hS=>by
    obtain⟨⟨h1,h2⟩,q,h3,h4⟩:=hc
    have hout:d∉bW fr:=fun hm=>by rw [jo.2 hm] at h1;cases h1
    refine⟨h3.at_ (X:=[]) hS (fun v' l j2 w' g1 g2 g3 g4=>⟨Sat.rest (X:=l++pj) wR wS (by rw [List.append_assoc];exact g4),?_⟩),hj.at_ (X:=hps) hS (fun v l j2 w' g1 g2 g3 g4=>⟨Sat.rest (X:=hps++l) wR wS (by rw [List.append_assoc];exact g4),?_⟩)⟩
    ·have e:cx N fr j2=cx N ((d,v')::fr) j2:=oM fun t=>by
       rw [fT]
       by_cases e1:d=t
       ·subst e1;rw [if_pos rfl,lN hout,g2]
       rw [if_neg e1]
     rw [e]
     have Ra:d∉c.map (·.2)/\bC (c.map (·.2))=true:=by
       have hx:bC (d::c.map (·.2))=true:=hnd
       unfold bC at hx
       simp only [Bool.and_eq_true] at hx
       exact⟨fun hm=>by have h:=hx.1;simp_all,hx.2⟩
     refine D7 wR wS hK c _ l j2 w' Ra.2 ?_ (hj.grow hout h2 Ra.1 v') (h4 v' l g1) g4
     cases hb:jY dj (bW ((d,v')::fr)) with
     | false=>rfl
     | true=>
       rcases List.mem_cons.1 (jo.1 hb) with e|e
       ·exact absurd e.symm h2
       rw [jo.2 e] at hdj;cases hdj
    exact D6 wR wS (fun f1 h1 hr=>hK f1 h1 hr v l g1) ((i,d)::c) fr hps j2 w' hdj ⟨⟨h1,h2⟩,q,h3,h4⟩ g2 g4
theorem iH.beside {j:Nat} {pc:List HP} (pk pS:List Nat) (c:List (Nat×Nat)) (hn:bC pk=true) (hp:bU hps pk=some (pc++(pj++Z))) (wR:bC pS=true) (wS:bU Z pS=some S) (hnd:bC (c.map (·.2))=true) (hdj:jY dj (bW fr)=false)
    (hj:kJ P β N ops Q j dj (dj::c.map (·.2)) fr pj qj) (hc:kK P β N ops Q dj c fr pc R)
    (K:∀ f1 h1,R f1 h1->∀ v l,qj v l->iH P β N ops S es [] ((dj,v)::f1) (h1++(l++Z)) Q):iH P β N ops S (.beside (c.map (·.1)) j::es) [] fr hps Q:=by
  intro junk w hS
  exact D7 (F:=lF P ops (NP Q) (Sat β S) es) wR wS (fun f1 h1 hr v l2 hv junk w hS=>K f1 h1 hr v l2 hv junk w hS) c fr pc junk w hnd hdj hj hc (hS.pick hn hp)
end VD
theorem iH.last {o:Oper} (hop:ops[i]?=some o) (hg:o.guard=none) (h:aj P β N #[o] 0 fr hps (NP Q)):iH P β N ops S [.one i] [] fr hps Q:=by
  intro junk w hS
  unfold o8 lF
  exact gM hop hg (jA (fun a w hq=>⟨.inl rfl,by unfold lF;exact hq⟩) (show wpList P #[o] (NP Q) [o] (cx N fr junk) w from h junk w hS))
end mix
end
section
open Go.RowKit
def kL (β:Bs) (Φ:Bs->Prop):cE where
  h F w:=∃ β':Bs,β.le β'/\(∀ k,β'.O k->β.O k\/F k)/\(∀ k,F k->β'.O k)/\β'.w0.heap.size<=w.heap.size/\(∀ k,F k->k < β'.w0.heap.size/\w.heap[k]?=β'.w0.heap[k]?)/\Φ β'
  lt:=fun ⟨_,_,_,_,h4,h5,_⟩ k hk=>Nat.lt_of_lt_of_le (h5 k hk).1 h4
  st:=fun ⟨β',h1,h2,h3,h4,h5,h6⟩ _ _ hk hs=>⟨β',h1,h2,h3,Nat.le_trans h4 hk.size,fun k hF=>⟨(h5 k hF).1,(hk.block k (Nat.lt_of_lt_of_le (h5 k hF).1 h4) (hs k hF)).trans (h5 k hF).2⟩,h6⟩
section Oy
variable {P:Program} {β:Bs} {N:Nat} {ops:Array Oper} {k:Nat} {fr:Fr} {hps cR:List HP} {Q:Post} {f:FuncId} {args:Array Value} {pre:List HP}
theorem bY.Oy {ι:Type} {vv:ι->Value} {ll:ι->List HP} {Φ:ι->Bs->Prop} (h:bY P β f args pre (fun β' v l=>∃ x,v=vv x/\l=ll x/\Φ x β')):Spec P β f args pre (fun v l=>∃ x,v=vv x/\l=.abs (kL β (Φ x))::ll x):=by
  intro R w hS
  refine (h R w hS).mono ?_
  rintro e w' ⟨β',v,l,hle,he,⟨x,rfl,rfl,xg⟩,ho,φ,h1,h2,h3⟩
  refine⟨vv x,_,he,⟨x,rfl,rfl⟩,ho.le hle,fun i=>match i with
    | 0=>fun k=>β'.O k/\¬ β.O k
    | i+1=>φ i,fun i p hp=>?_,fun i hi k hk hO=>?_,fun i j hi hj hne k hk hk'=>?_⟩
  ·cases i with
   | zero=>
     have hp:some (HP.abs (kL β (Φ x)))=some p:=hp
     cases hp
     exact⟨β',hle,fun k hk=>(Classical.em (β.O k)).elim .inl (fun hn=>.inr ⟨hk,hn⟩),fun k hk=>hk.1,ho.size,fun k hk=>ho.old k hk.1,xg⟩
   | succ i=>exact h1 i p (by simpa using hp)
  ·cases i with
   | zero=>exact hk.2 hO
   | succ i=>exact h2 i (by simp at hi ⊢;omega) k hk (hle.O k hO)
  cases i with
  | zero=>
    cases j with
    | zero=>exact hne rfl
    | succ j=>exact h2 j (by simp at hj ⊢;omega) k hk' hk.1
  | succ i=>
    cases j with
    | zero=>exact h2 i (by simp at hi ⊢;omega) k hk hk'.1
    | succ j=>exact h3 i j (by simp at hi ⊢;omega) (by simp at hj ⊢;omega) (by omega) k hk hk'
theorem Sat.FT {Φ:Bs->Prop} {l:List HP} {w:World} (h:Sat β (.abs (kL β Φ)::l) w):∃ β':Bs,β.le β'/\Φ β'/\Sat β' l w:=by
  obtain⟨ho,φ,h1,h2,h3⟩:=h
  have hF:(kL β Φ).h (φ 0) w:=h1 0 _ rfl
  obtain⟨β',g1,g2,g3,g4,g5,g6⟩:=hF
  refine⟨β',g1,g6,⟨ho.os.trans g1.os.symm,ho.tape.trans g1.tape.symm,ho.output.trans g1.output.symm,g4,fun k hk=>?_⟩,fun j=>φ (j+1),fun j p hp=>h1 (j+1) p (by simpa using hp),fun j hj k hk hO=>?_,fun a b ha hb hne=>h3 (a+1) (b+1) (by simp;omega) (by simp;omega) (by omega)⟩
  ·rcases g2 k hk with hb|hb
   ·have e1:=g1.old k hb
    have e2:=ho.old k hb
    exact⟨Nat.lt_of_lt_of_le e1.1 g1.size,e2.2.trans e1.2.symm⟩
   exact g5 k hb
  rcases g2 k hO with hb|hb
  ·exact h2 (j+1) (by simp;omega) k hk hb
  exact h3 (j+1) 0 (by simp;omega) (by simp) (by omega) k hk hb
theorem Spec.JB {Φ:Bs->Prop} {post:Value->List HP->Prop} (h:∀ β':Bs,β.le β'->Φ β'->Spec P β' f args pre post):Spec P β f args (.abs (kL β Φ)::pre) post:=by
  intro R w hS
  obtain⟨β',g1,g2,g3⟩:=Sat.FT (l:=pre++[.abs R]) hS
  refine (h β' g1 g2 R w g3).mono ?_
  rintro e w' ⟨v,l,h1,h2,h3⟩
  exact⟨v,l,h1,h2,h3.Bp g1⟩
end Oy
end
section
open Go.RowKit Go.Maps bH aE
theorem JC (_:Nat) (f:bJ):∀ u∈bV f,u.oneCell'=true:=by
  intro u hu
  simp only [bV,List.mem_cons,List.not_mem_nil,or_false] at hu
  rcases hu with rfl|rfl<;>rfl
theorem Nd (_:Nat) (a:cC):∀ u∈cD a,u.oneCell'=true:=by
  intro u hu
  simp only [cD,List.mem_cons,List.not_mem_nil,or_false] at hu
  rcases hu with rfl|rfl|rfl|rfl|rfl<;>rfl
theorem K9 (_:Nat) (a:aB):∀ u∈aW a,u.oneCell'=true:=by
  intro u hu
  simp only [aW,List.mem_cons,List.not_mem_nil,or_false] at hu
  rcases hu with rfl|rfl|rfl|rfl|rfl|rfl|rfl|rfl|rfl|rfl|rfl|rfl|rfl<;>rfl
theorem lG {α:Type} (f:α->List Value) (a:α) (ys:List α):aH f (ys++[a])=aH f ys++f a:=by
  have:∀ (k:Nat) (ys:List α),dg (fun _ x=>f x) k (ys++[a])=dg (fun _ x=>f x) k ys++f a:=fun k ys=>by
    induction ys generalizing k with
    | nil=>exact List.append_nil _
    | cons y r ih=>show f y++dg _ (k+1) (r++[a])=(f y++dg _ (k+1) r)++f a;rw [ih,List.append_assoc]
  exact this 0 ys
theorem qR {α:Type} {f:α->List Value} {s:Nat} (hf:∀ a,(f a).length=s):∀ xs:List α,(aH f xs).length=xs.length * s:=fun xs=>by
  have:∀ (k:Nat) (xs:List α),(dg (fun _ x=>f x) k xs).length=xs.length * s:=fun k xs=>by
    induction xs generalizing k with
    | nil=>simp [dg]
    | cons y r ih=>show (f y++dg _ (k+1) r).length=_;rw [List.length_append,ih,hf,List.length_cons,Nat.succ_mul,Nat.add_comm]
  exact this 0 xs
structure AZ where
  A:Int->Option Addr
  c:Int->Nat
def AZ.none:AZ:=⟨fun _=>Option.none,fun _=>0⟩
def AZ.put (Z:AZ) (n:Int) (B:Option Addr) (k:Nat):AZ:=⟨fun x=>if x=n then B else Z.A x,fun x=>if x=n then k else Z.c x⟩
def aA (Z:AZ) (xs:List cC) (n:Int):Option Addr:=if bQ xs n=[] then .none else Z.A n
def aC (Z:AZ) (xs:List cC) (n:Int):Nat:=if bQ xs n=[] then 0 else Z.c n
def zz:Int->Nat
  | .ofNat n=>2 * n
  | .negSucc n=>2 * n+1
def zL (k:Nat):Int:=if k % 2=0 then .ofNat (k / 2) else .negSucc (k / 2)
def eO (Z:AZ) (xs:List cC):Lit->Option Value
  | .int .i64 n=>if bQ xs n=[] then .none else some (.slice (aA Z xs n) (bQ xs n).length (aC Z xs n))
  | _=>.none
def dF (fs:List bJ):Lit->Option Value
  | .int .i64 n=>if fQ fs n=0 then .none else some (.int .i64 (fQ fs n))
  | _=>.none
abbrev AR (Z:AZ) (xs:List cC) (n:Int):cE:=av 41 5 (aA Z xs n) (bQ xs n).length (aC Z xs n) (aH cD (bQ xs n))
def mI (Z:AZ) (xs:List cC) (k:Nat):cE:=if bQ xs (zL k)=[] then cE.none else AR Z xs (zL k)
def je (β:Bs) (Z:AZ) (xs:List cC):Prop:=∀ n,bX β (aA Z xs n) (aH cD (bQ xs n))
section z
variable {Z:AZ} {xs:List cC} {n x:Int} {k c:Nat} {B:Option Addr} {a:cC} {β β':Bs} {l l':List HP} {w:World} {i j:Nat}
theorem FU:∀ n,zL (zz n)=n
  | .ofNat n=>by show zL (2 * n)=_;unfold zL;rw [if_pos (by omega)];exact congrArg Int.ofNat (by omega)
  | .negSucc n=>by show zL (2 * n+1)=_;unfold zL;rw [if_neg (by omega)];exact congrArg Int.negSucc (by omega)
theorem Rb (k:Nat):zz (zL k)=k:=by
  unfold zL
  split
  ·show 2 * (k / 2)=k;omega
  show 2 * (k / 2)+1=k;omega
theorem je.le (h:je β Z xs) (g:β.le β'):je β' Z xs:=fun n=>(h n).le g
theorem AU:(eO Z xs (.int .i64 n)).getD (.slice .none 0 0)=.slice (aA Z xs n) (bQ xs n).length (aC Z xs n):=by
  unfold eO
  by_cases h:bQ xs n=[]
  ·simp only
   rw [if_pos h]
   unfold aA aC
   rw [if_pos h,if_pos h,h];rfl
  simp only
  rw [if_neg h];rfl
theorem D8 {fs:List bJ}:(dF fs (.int .i64 n)).getD (.int .i64 0)=.int .i64 (fQ fs n):=by
  unfold dF
  simp only
  split
  ·rename_i h;rw [h];rfl
  rfl
theorem Nf:eO Z []=fun _=>.none:=funext fun l=>by
  unfold eO
  split<;>rfl
theorem La:dF []=fun _=>.none:=funext fun l=>by
  unfold dF
  split<;>rfl
theorem tS {m:Int} (h:m≠a.at_):bQ (xs++[a]) m=bQ xs m:=by
  rw [zJ,if_neg (fun e=>h e.symm)]
theorem tT:bQ (xs++[a]) a.at_=bQ xs a.at_++[a]:=by
  rw [zJ,if_pos rfl]
theorem Oz {m:Int} (h:m≠a.at_):aA (Z.put a.at_ B c) (xs++[a]) m=aA Z xs m:=by
  unfold aA AZ.put
  rw [tS h]
  simp only
  rw [if_neg h]
theorem OA {m:Int} (h:m≠a.at_):aC (Z.put a.at_ B c) (xs++[a]) m=aC Z xs m:=by
  unfold aC AZ.put
  rw [tS h]
  simp only
  rw [if_neg h]
theorem OB:aA (Z.put a.at_ B c) (xs++[a]) a.at_=B:=by
  unfold aA AZ.put
  rw [tT,if_neg (by simp)]
  simp
theorem OC:aC (Z.put a.at_ B c) (xs++[a]) a.at_=c:=by
  unfold aC AZ.put
  rw [tT,if_neg (by simp)]
  simp
theorem H9 {f g:Lit->Option Value} {v:Option Value} (hv:g (.int .i64 n)=v) (ho:∀ l,l≠.int .i64 n->g l=f l):upd f (.int .i64 n) v=g:=funext fun l=>by
  unfold upd
  by_cases h:l.sameKey (.int .i64 n)=true
  ·rw [if_pos h]
   have:l=.int .i64 n:=by
     cases l with
     | int q a=>simp [Lit.sameKey] at h;obtain⟨rfl,rfl⟩:=h;rfl
     | _=>simp [Lit.sameKey] at h
   rw [this,hv]
  rw [if_neg h,ho l (fun e=>h (by rw [e];simp [Lit.sameKey]))]
theorem Ng:upd (eO Z xs) (.int .i64 a.at_) (some (.slice B ((bQ xs a.at_).length+1) c))=eO (Z.put a.at_ B c) (xs++[a]):=by
  refine H9 ?_ (fun l h=>?_)
  ·unfold eO
   simp only
   rw [tT,if_neg (by simp),OB,OC,List.length_append];rfl
  unfold eO
  split
  ·rename_i m
   have hm:m≠a.at_:=fun e=>h (by rw [e])
   rw [tS hm,Oz hm,OA hm]
  rfl
theorem Lb {fs:List bJ} {f:bJ} (h:FK f) (h0:fQ fs f.at_=0):upd (dF fs) (.int .i64 f.at_) (some (.int .i64 f.kind))=dF (fs++[f]):=by
  have hk:¬ f.kind=0:=by have:=h.1;omega
  refine H9 ?_ (fun l hl=>?_)
  ·unfold dF
   simp only
   have e:fQ (fs++[f]) f.at_=f.kind:=by rw [rW,if_pos h0,if_pos (show f.at_=f.at_/\FK f from ⟨rfl,h⟩)]
   rw [e,if_neg hk]
  unfold dF
  split
  ·rename_i m
   have hm:¬ (f.at_=m/\FK f):=fun e=>hl (by rw [e.1])
   rw [rW,if_neg hm]
   by_cases h2:fQ fs m=0
   ·rw [if_pos h2,h2]
   rw [if_neg h2]
  rfl
theorem wo {fs:List bJ} {f:bJ} (h:¬ FK f\/fQ fs f.at_≠0):dF (fs++[f])=dF fs:=funext fun l=>by
  unfold dF
  split
  ·rename_i m
   have:fQ (fs++[f]) m=fQ fs m:=by
     rw [rW]
     by_cases h2:fQ fs m=0
     ·rw [if_pos h2,if_neg (fun e=>?_),h2]
      rcases h with h|h
      ·exact h e.2
      exact h (by rw [e.1];exact h2)
     rw [if_neg h2]
   rw [this]
  rfl
theorem Sat.Rc (h:Sat β l w):Sat β (l++[.abs (ax (mI AZ.none []))]) w:=h.EF _ (fun _=>if_pos rfl)
theorem Sat.PG (h:Sat β l w) (hp:l[i]?=some (.abs (ax (mI Z xs)))) (n:Int):Sat β (l.set i (.abs (ax (kg (mI Z xs) (zz n) cE.none)))++[.abs (AR Z xs n)]) w:=by
  have h1:=h.BI hp (zz n)
  by_cases e:bQ xs n=[]
  ·have e2:AR Z xs n=av 41 5 .none 0 0 []:=by
     unfold AR aA aC
     rw [if_pos e,if_pos e,e];rfl
   rw [e2]
   exact (Sat.left h1).jF (e:=41) (size:=5)
  have e2:mI Z xs (zz n)=AR Z xs n:=by
    unfold mI
    rw [FU,if_neg e]
  rw [e2] at h1
  exact h1
theorem Sat.Rf {idx:List Nat} (h:Sat β l w) (hp:l[i]?=some (.abs (ax (kg (mI Z xs) (zz a.at_) cE.none)))) (hq:l[j]?=some (.abs (av 41 5 B ((bQ xs a.at_).length+1) c (aH cD (bQ xs a.at_)++cD a)))) (hn:bC (i::j::idx)=true) (hl:bU l idx=some l') :
    Sat β (.abs (ax (mI (Z.put a.at_ B c) (xs++[a])))::l') w:=by
  refine h.qw hp hq (fun _ _ h=>h) hn hl (zz a.at_) (fun x hx=>?_) ?_
  ·have hne:zL x≠a.at_:=fun e=>hx (by rw [← e,Rb])
   unfold kg
   rw [if_neg hx]
   unfold mI AR
   rw [tS hne,Oz hne,OA hne]
  unfold mI AR
  rw [FU,tT,if_neg (by simp),OB,OC]
  rw [lG,List.length_append];rfl
theorem je.of {F:Fp} (h:(HP.abs (ax (mI Z xs))).h F w) (h1:∀ k,F k->β.O k) (h2:β.w0=w):je β Z xs:=fun n=>by
  by_cases e:bQ xs n=[]
  ·rw [e];exact fun j v hj=>by simp [aH,dg] at hj
  obtain⟨φ,g1,_,g3⟩:=h
  have h3:=g1 (zz n)
  unfold mI at h3
  rw [FU,if_neg e] at h3
  exact bX.jb h3 (fun k hk=>h1 k ((g3 k).2 ⟨_,hk⟩)) h2
end z
theorem wq {xs:List cC} {i:Nat} (h:i < xs.length):xs.take (i+1)=xs.take i++[act xs i]:=by
  rw [List.take_add_one,sA h];rfl
theorem qh {fs:List bJ} {i:Nat} (h:i < fs.length):fs.take (i+1)=fs.take i++[dK fs i]:=by
  rw [List.take_add_one,zj h];rfl
theorem Lc {n:Nat} (h:n<=9223372036854775807):(Lit.int .i64 (n:Int)).wf=true:=by
  simp [Lit.wf,IntKind.min,IntKind.max,IntKind.signed,IntKind.bits]
  omega
theorem Nh {d:List UInt8} {m j:Nat} {v:Value} (h:(bZ (d.take m))[j]?=some v):(bZ d)[j]?=some v:=by
  unfold bZ at h ⊢
  rw [List.getElem?_map] at h ⊢
  rw [List.getElem?_take] at h
  split at h
  ·exact h
  cases h
theorem G3 {β:Bs} {c:aB} (h:fX β c):fX β { c with data:=c.data.take (c.data.length / 2) }:=⟨h.hw,h.ow,h.nm,h.tx,fun j v hj=>h.da j v (Nh hj),by
  show (c.data.take _).length<=_
  rw [List.length_take];have:=h.dl;omega,by
  show (c.data.take _).length<=c.dC
  rw [List.length_take];have:=h.dc;omega⟩
structure WG where
  w:Nat
  o:Nat
  q:Nat
  am:Nat
  km:Nat
  an:Nat
  kn:Nat
  f:Nat
  m:Nat
  t:Nat
  Z:AZ
structure WV where
  L:HL
  A:Option Addr
  c:Nat
abbrev wB (w o f:Nat) (root:Int) (A:Option Addr) (n c:Nat):HP:=.blk w [.iface 42 (vP w),vP f,.iface 180 (vP o),.int .i64 root,.slice A n c] 93
abbrev oB (o q f:Nat) (root:Int) (am n:Nat):HP:=.blk o [.iface 181 (vP q),vP f,.int .i64 root,.map (some am),.int .i64 n] 185
abbrev qB (q f km n:Nat):HP:=.blk q [.iface 54 (vP f),.map (some km),.int .i64 n] 183
abbrev aM (am an:Nat) (Z:AZ) (xs:List cC):HP:=.abs (aN Tryz.prog 3 am (eO Z xs) an)
abbrev kM (km kn:Nat) (fs:List bJ):HP:=.abs (aN Tryz.prog 3 km (dF fs) kn)
abbrev tR (A:Option Addr) (c:Nat) (tr:List aB):HP:=.abs (av 48 13 A tr.length c (aH aW tr))
abbrev wP (G:WG) (fs:List bJ) (xs:List cC) (root:Int) (S:aI) (V:WV) (tr:List aB):List HP:=[wB G.w G.o G.f root V.A tr.length V.c,oB G.o G.q G.f root G.am tr.length,qB G.q G.f G.km tr.length,aM G.am G.an G.Z xs,kM G.km G.kn fs,tR V.A V.c tr]++pA G.f G.m G.t V.L S
def wA (G:WG) (fs:List bJ) (xs:List cC) (root:Int) (S:aI) (V:WV) (tr:List aB):HP:=.abs (fS (wP G fs xs root S V tr))
def kx (β:Bs) (tr:List aB):Prop:=∀ c∈tr,bh β c.dA c.data/\c.data.length<=1048576
theorem kx.le {β β':Bs} {tr:List aB} (h:kx β tr) (g:β.le β'):kx β' tr:=fun c hc=>⟨(h c hc).1.le g,(h c hc).2⟩
theorem kx.snoc {β:Bs} {tr:List aB} {c:aB} (h:kx β tr) (g:bh β c.dA c.data) (g2:c.data.length<=1048576):kx β (tr++[c]):=fun x hx=>by
  rcases List.mem_append.1 hx with hx|hx
  ·exact h x hx
  obtain rfl:=List.mem_singleton.1 hx;exact⟨g,g2⟩
theorem Spec.one {P:Program} {β:Bs} {f:FuncId} {args:Array Value} {pre:List HP} {post:Value->List HP->Prop} (h:Spec P β f args pre post):Spec P β f args [.abs (fS pre)] (fun v l=>∃ l0,post v l0/\l=[.abs (fS l0)]):=by
  intro R w hS
  have h1:Sat β ([.abs R]++[.abs (fS pre)]) w:=Sat.turn hS
  refine (h R w (Sat.turn h1.qA)).mono ?_
  rintro e w' ⟨v,l,h2,h3,h4⟩
  exact⟨v,[.abs (fS l)],h2,⟨l,h3,rfl⟩,Sat.turn (Sat.fS (Sat.turn h4))⟩
theorem bY.one {P:Program} {β:Bs} {f:FuncId} {args:Array Value} {pre:List HP} {post:Bs->Value->List HP->Prop} (h:bY P β f args pre post):bY P β f args [.abs (fS pre)] (fun β' v l=>∃ l0,post β' v l0/\l=[.abs (fS l0)]):=by
  intro R w hS
  have h1:Sat β ([.abs R]++[.abs (fS pre)]) w:=Sat.turn hS
  refine (h R w (Sat.turn h1.qA)).mono ?_
  rintro e w' ⟨β',v,l,hle,h2,h3,h4⟩
  exact⟨β',v,[.abs (fS l)],hle,h2,⟨l,h3,rfl⟩,Sat.turn (Sat.fS (Sat.turn h4))⟩
theorem ai.FT {β:Bs} {N:Nat} {Q:Post} {e:Exit} {fr:Fr} {hps cR:List HP} {Φ:Bs->Prop} (i:Nat) (idx:List Nat) (hp:hps[i]?=some (.abs (kL β Φ))) (hn:bC (i::idx)=true) (hl:bU hps idx=some cR) (K:∀ β':Bs,β.le β'->Φ β'->ai β' N Q e fr cR):ai β N Q e fr hps:=fun junk w hS=>by
  obtain⟨β',g1,g2,g3⟩:=(hS.pick (idx:=i::idx) (l':=.abs (kL β Φ)::cR) hn (by simp only [bU,hp,hl])).FT
  exact K β' g1 g2 junk w g3
theorem bY.JB {P:Program} {β:Bs} {f:FuncId} {args:Array Value} {pre:List HP} {Φ:Bs->Prop} {post:Bs->Value->List HP->Prop} (h:∀ β':Bs,β.le β'->Φ β'->bY P β' f args pre post):bY P β f args (.abs (kL β Φ)::pre) post:=by
  intro A w hS
  obtain⟨β',g1,g2,g3⟩:=Sat.FT (l:=pre++[.abs A]) hS
  refine (h β' g1 g2 A w g3).mono ?_
  rintro e w' ⟨β'',v,l,hle,h2⟩
  exact⟨β'',v,l,g1.trans hle,h2⟩
theorem bY.Rg {P:Program} {β:Bs} {f:FuncId} {args:Array Value} {R:List HP} {post:Bs->Value->List HP->Prop} (h:∀ β':Bs,q6 β R β'->bY P β' f args [] post):bY P β f args R post:=by
  intro A w hS
  have h4:Sat β ([.abs A]++R) w:=Sat.turn hS
  obtain⟨β',g1,_,g3⟩:=h4.Am
  refine (h β' g1 A w g3).mono ?_
  rintro e w' ⟨β'',v,l,hle,h2⟩
  exact⟨β'',v,l,g1.le.trans hle,h2⟩
theorem bY.Rh {P:Program} {β:Bs} {f:FuncId} {args:Array Value} {pre:List HP} {post:Value->List HP->Prop} (h:bY P β f args pre (fun _ v l=>post v l)):Spec P β f args pre post:=by
  intro A w hS
  refine (h A w hS).mono ?_
  rintro e w' ⟨β',v,l,hle,h2,h3,h4⟩
  exact⟨v,l,h2,h3,h4.Bp hle⟩
theorem bY.Ri {P:Program} {β:Bs} {f:FuncId} {args:Array Value} {pre:List HP} {post post':Bs->Value->List HP->Prop} (h:bY P β f args pre post) (hp:∀ β' v l,post β' v l->(l=[]/\post' β' v [])\/post' β' v [.abs (fS l)]):bY P β f args pre post':=by
  intro R w hS
  refine (h R w hS).mono ?_
  rintro e w' ⟨β',v,l,hle,h2,h3,h4⟩
  rcases hp β' v l h3 with ⟨rfl,h5⟩|h5
  ·exact⟨β',v,[],hle,h2,h5,h4⟩
  exact⟨β',v,[.abs (fS l)],hle,h2,h5,Sat.turn (Sat.fS (Sat.turn h4))⟩
end
section
open Go.RowKit Go.Maps
structure Dh (ns:List aP) (i j:Nat):Prop where
  Rj:i < ns.length
  D9:j < (nd ns i).ah.length
  dir:(nd ns (tgt ns (ent ns i j).id)).kind=2
section
variable {ns:List aP}
theorem sU {i m:Nat} {p:Nat×Nat}:p∈dH ns i m↔∃ j,j < m/\(nd ns (tgt ns (ent ns i j).id)).kind=2/\p=(tgt ns (ent ns i j).id,i):=by
  induction m with
  | zero=>simp [dH]
  | succ m ih=>
    by_cases h:(nd ns (tgt ns (ent ns i m).id)).kind=2
    ·rw [p4 h,List.mem_cons,ih]
     refine⟨fun hp=>?_,fun ⟨j,hj,h1,h2⟩=>?_⟩
     ·rcases hp with rfl|⟨j,hj,h1,h2⟩
      ·exact⟨m,Nat.lt_succ_self m,h,rfl⟩
      exact⟨j,Nat.lt_succ_of_lt hj,h1,h2⟩
     rcases Nat.lt_succ_iff_lt_or_eq.1 hj with e|e
     ·exact .inr ⟨j,e,h1,h2⟩
     subst e;exact .inl h2
    rw [tK h,ih]
    refine⟨fun ⟨j,hj,h1⟩=>⟨j,Nat.lt_succ_of_lt hj,h1⟩,fun ⟨j,hj,h1,h2⟩=>?_⟩
    rcases Nat.lt_succ_iff_lt_or_eq.1 hj with e|e
    ·exact⟨j,e,h1,h2⟩
    subst e;exact absurd h1 h
theorem wu {m:Nat} {p:Nat×Nat}:p∈fM ns m↔∃ i j,i < m/\j < (nd ns i).ah.length/\(nd ns (tgt ns (ent ns i j).id)).kind=2/\p=(tgt ns (ent ns i j).id,i):=by
  induction m with
  | zero=>simp [fM]
  | succ m ih=>
    rw [fM,List.mem_append,sU,ih]
    refine⟨fun h=>?_,fun ⟨i,j,hi,hj,h1,h2⟩=>?_⟩
    ·rcases h with ⟨j,hj,h1,h2⟩|⟨i,j,hi,h⟩
     ·exact⟨m,j,Nat.lt_succ_self m,hj,h1,h2⟩
     exact⟨i,j,Nat.lt_succ_of_lt hi,h⟩
    rcases Nat.lt_succ_iff_lt_or_eq.1 hi with e|e
    ·exact .inr ⟨i,j,e,hj,h1,h2⟩
    subst e;exact .inl ⟨j,hj,h1,h2⟩
theorem Dh.mem {i j:Nat} (h:Dh ns i j):(tgt ns (ent ns i j).id,i)∈fM ns ns.length:=wu.2 ⟨i,j,h.Rj,h.D9,h.dir,rfl⟩
def OD (ns:List aP) (m:Nat):Prop:=∀ i j i' j',Dh ns i j->Dh ns i' j'->i < m->i' < m->tgt ns (ent ns i j).id=tgt ns (ent ns i' j').id->i=i'/\j=j'
theorem Ld {i m:Nat} (h:((dH ns i m).map Prod.fst).Nodup):∀ j j',j < m->j' < m->(nd ns (tgt ns (ent ns i j).id)).kind=2->(nd ns (tgt ns (ent ns i j').id)).kind=2->tgt ns (ent ns i j).id=tgt ns (ent ns i j').id->j=j':=by
  induction m with
  | zero=>intro j j' hj;omega
  | succ m ih=>
    intro j j' hj hj' hk hk' e
    by_cases hm:(nd ns (tgt ns (ent ns i m).id)).kind=2
    ·rw [p4 hm,List.map_cons,List.nodup_cons] at h
     rcases Nat.lt_succ_iff_lt_or_eq.1 hj with e1|e1
     ·rcases Nat.lt_succ_iff_lt_or_eq.1 hj' with e2|e2
      ·exact ih h.2 j j' e1 e2 hk hk' e
      subst e2;exact absurd (List.mem_map.2 ⟨_,sU.2 ⟨j,e1,hk,rfl⟩,e⟩) h.1
     rcases Nat.lt_succ_iff_lt_or_eq.1 hj' with e2|e2
     ·subst e1;exact absurd (List.mem_map.2 ⟨_,sU.2 ⟨j',e2,hk',rfl⟩,e.symm⟩) h.1
     omega
    rw [tK hm] at h
    rcases Nat.lt_succ_iff_lt_or_eq.1 hj with e1|e1
    ·rcases Nat.lt_succ_iff_lt_or_eq.1 hj' with e2|e2
     ·exact ih h j j' e1 e2 hk hk' e
     subst e2;exact absurd hk' hm
    subst e1;exact absurd hk hm
theorem Le {m:Nat} (h:((fM ns m).map Prod.fst).Nodup):OD ns m:=by
  induction m with
  | zero=>intro i j i' j' _ _ hi;omega
  | succ m ih=>
    rw [fM,List.map_append] at h
    obtain⟨h1,h2,h3⟩:=List.nodup_append.1 h
    intro i j i' j' g g' hi hi' e
    rcases Nat.lt_succ_iff_lt_or_eq.1 hi with e1|e1
    ·rcases Nat.lt_succ_iff_lt_or_eq.1 hi' with e2|e2
     ·exact ih h2 i j i' j' g g' e1 e2 e
     subst e2
     exact absurd e.symm (h3 _ (List.mem_map.2 ⟨_,sU.2 ⟨j',g'.D9,g'.dir,rfl⟩,rfl⟩) _ (List.mem_map.2 ⟨_,wu.2 ⟨i,j,e1,g.D9,g.dir,rfl⟩,rfl⟩))
    rcases Nat.lt_succ_iff_lt_or_eq.1 hi' with e2|e2
    ·subst e1
     exact absurd e (h3 _ (List.mem_map.2 ⟨_,sU.2 ⟨j,g.D9,g.dir,rfl⟩,rfl⟩) _ (List.mem_map.2 ⟨_,wu.2 ⟨i',j',e2,g'.D9,g'.dir,rfl⟩,rfl⟩))
    subst e1;subst e2
    exact⟨rfl,Ld h1 j j' g.D9 g'.D9 g.dir g'.dir e⟩
def Ia (ns:List aP) (d:Nat->Nat):Prop:=∀ i j,Dh ns i j->d i < d (tgt ns (ent ns i j).id)
theorem bS.uniq (h:bS ns):OD ns ns.length:=Le h.nodup
theorem bS.deep (h:bS ns):∃ d,Ia ns d:=by
  refine⟨fun k=>Classical.choose (h.ends (nd ns k).id),fun i j g=>?_⟩
  have hp:=Ak (ns:=ns) (Nat.le_refl _) h.ah
  have hat:=(h.ah i g.Rj j g.D9).at_
  have htl:=nL hat
  have e1:=Classical.choose_spec (h.ends (nd ns i).id)
  have e2:=Classical.choose_spec (h.ends (nd ns (tgt ns (ent ns i j).id)).id)
  show Classical.choose (h.ends (nd ns i).id) < Classical.choose (h.ends (nd ns (tgt ns (ent ns i j).id)).id)
  generalize Classical.choose (h.ends (nd ns i).id)=x at e1 ⊢
  generalize Classical.choose (h.ends (nd ns (tgt ns (ent ns i j).id)).id)=y at e2 ⊢
  cases hu:up ((fM ns ns.length).map (jj ns)) (nd ns (tgt ns (ent ns i j).id)).id with
  | none=>
    have:=Ht hu
    exact absurd (List.mem_map.2 ⟨_,g.mem,rfl⟩) this
  | some z=>
    obtain⟨_,p,g1,g2,g3⟩:=Hu h.rise htl.1 (fun p hp'=>(hp p hp').1) hu
    obtain⟨a,b,ha,hb,hk,rfl⟩:=wu.1 g1
    have g2:tgt ns (ent ns a b).id=tgt ns (ent ns i j).id:=g2
    obtain⟨rfl,rfl⟩:=h.uniq a b i j ⟨ha,hb,hk⟩ g ha g.Rj g2
    have g3:z=(nd ns a).id:=g3
    cases y with
    | zero=>
      have e2:up _ _=none:=e2
      rw [hu] at e2;cases e2
    | succ y=>
      obtain⟨z',h1,h2⟩:=e2
      rw [hu] at h1
      cases h1
      rw [g3] at h2
      have:=e1.uniq h2
      show x < y+1
      omega
end
end
section
open Go.RowKit Go.Maps bH aE
structure jx (X:FM):Prop where
  cN:0<=X.cN/\X.cN<=4096
  cB:0<=X.cB/\X.cB<=1099511627776
  cH:0<=X.cH/\X.cH<=1024
  now:dW X.cS X.cZ
def eG (n:aP):Nat:=n.id.toNat
def nP (n:aP):Th:=⟨eG n,n.kind⟩
def oO (n:aP):aV:=⟨n.id,n.mode,n.uid,n.gid,n.sec,n.nano,0,0,false,n.kind,n.data,n.target,[],none⟩
def EN:aV:=⟨0,0,0,0,0,0,0,0,false,0,[],⟨#[]⟩,[],none⟩
def gV (X:FM):aI:=⟨{ X with last:=0,ah:=0,used:=0 },fun _=>EN,[],[],0⟩
def cJ (S:aI) (n:aP):aI:={ S with X:={ S.X with last:=n.id,used:=S.X.used+n.data.length },O:=aF S.O (eG n) (fun _=>oO n),idx:=ins n.id (nP n) S.idx }
def lS (ns:List aP) (e:jt):Th:=nP (nd ns (tgt ns e.id))
def kN (ns:List aP) (S:aI) (n:aP) (e:jt):aI:={ S with X:={ S.X with ah:=S.X.ah+1 },O:=o5 S.O (eG n) e.name (lS ns e) }
def sV (ns:List aP):Nat->Nat
  | 0=>0
  | k+1=>sV ns k+(nd ns k).data.length
def FV (ns:List aP):Used Th:=ns.map (fun n=>(n.id,nP n))
structure mr (X:FM) (ns:List aP) (k:Nat) (S:aI):Prop where
  inv:Inv0 S
  idx:S.idx=FV (ns.take k)
  us:S.us=[]
  aD:S.aD=0
  cap:S.X={ X with last:=lP ns k,ah:=0,used:=(sV ns k:Int) }
  ob:∀ a,a < k->obj S.O (eG (nd ns a))=oO (nd ns a)
  free:∀ x,(∀ a,a < k->x≠eG (nd ns a))->obj S.O x=EN
section base
variable {X:FM} {ns:List aP} {i j k a b:Nat} {S:aI}
theorem x6 (h:bS ns) (hk:k < ns.length):(eG (nd ns k):Int)=(nd ns k).id:=by
  have:=h.ids k hk
  unfold eG;omega
theorem sB (h:bS ns) (ha:a < ns.length) (hb:b < ns.length) (e:eG (nd ns a)=eG (nd ns b)):a=b:=
  h.rise.inj ha hb (by rw [← x6 h ha,← x6 h hb,e])
theorem x7 (hk:k < ns.length):ns[k]?=some (nd ns k):=getD_some hk
theorem PI (hk:k < ns.length):ns.take (k+1)=ns.take k++[nd ns k]:=by
  rw [List.take_add_one,x7 hk];rfl
theorem Lf (hX:jx X):mr X ns 0 (gV X):=by
  refine⟨?_,rfl,rfl,rfl,rfl,fun a h=>absurd h (Nat.not_lt_zero a),fun _ _=>rfl⟩
  have hn:∀ t,¬ Live ([]:Used Th) t:=fun t h=>by cases h
  exact⟨hX.cN,hX.cB,hX.cH,hX.now,by show (0:Int)<=0/\(0:Int)<=_;omega,.nil,Nat.zero_le _,fun _ _ e=>(by cases e),fun t h=>absurd h (hn t),fun t h=>absurd h (hn t),fun t h=>absurd h (hn t),fun t h=>absurd h (hn t),
    fun _ _=>⟨rfl,rfl⟩,fun _ _=>rfl,⟨rfl,by show (0:Int)<=8192;omega⟩,fun t h=>absurd h (hn t),fun t h=>absurd h (hn t),fun t h=>absurd h (hn t),.nil,fun x hx=>(by cases hx),(by show ((0:Nat):Int)<=X.cH;have:=hX.cH;omega),⟨Int.le_refl _,hX.cH.1⟩,fun _ _ e=>(by cases e),fun t h=>absurd h (hn t),fun t h=>absurd h (hn t),⟨fun _=>0,fun k d e=>(by cases e)⟩,⟨rfl,by show (0:Int)<=_;omega⟩⟩
theorem Ib (h:bS ns) (hk:k < ns.length):∀ x∈keys (FV (ns.take k)),x < (nd ns k).id:=by
  intro x hx
  obtain⟨p,hp,rfl⟩:=List.mem_map.1 hx
  obtain⟨n,hn,rfl⟩:=List.mem_map.1 hp
  obtain⟨a,ha,e⟩:=List.mem_iff_getElem.1 hn
  rw [List.length_take] at ha
  rw [List.getElem_take] at e
  have e2:nd ns a=n:=by
    have:=x7 (ns:=ns) (k:=a) (by omega)
    rw [List.getElem?_eq_getElem (by omega),e] at this
    exact (Option.some.inj this).symm
  rw [← e2]
  exact h.rise a k (by omega) hk
theorem Ea (hd:∀ i,i < ns.length->(nd ns i).data.length<=1048576) (hk:k<=ns.length):sV ns k<=1048576 * k:=by
  induction k with
  | zero=>exact Nat.le_refl _
  | succ k ih=>
    have h1:=ih (by omega)
    have h2:=hd k hk
    show sV ns k+(nd ns k).data.length<=_
    omega
theorem x9 (h:bS ns) (hd:∀ i,i < ns.length->(nd ns i).data.length<=1048576) (hk:k < ns.length) (hB:mr X ns k S):mr X ns (k+1) (cJ S (nd ns k)):=by
  have hs:=Ea hd (Nat.le_of_lt hk)
  have hn:=h.node k hk
  have hid:=x6 h hk
  have Ni:=h.ids k hk
  have hu:S.X.used=(sV ns k:Int):=by rw [hB.cap]
  have hl:S.X.last=lP ns k:=by rw [hB.cap]
  have hlen:=h.len
  have hdk:=hd k hk
  have Wp:S.idx.length=k:=by
    rw [hB.idx];unfold FV;rw [List.length_map,List.length_take];omega
  have h1:=hB.inv.newAt (k0:=eG (nd ns k)) (o:=oO (nd ns k)) (kF:=S.X.used+(nd ns k).data.length) (us':=S.us) (gh:=S.aD) (by rw [hid,hl];exact h.last hk) (by rw [hid];exact Ni.2) ⟨rfl,by rw [hu];omega⟩ hid.symm
    (by have:=hn.kind;show (nd ns k).kind=1\/(nd ns k).kind=2\/(nd ns k).kind=3;omega) rfl rfl rfl rfl
    ⟨hn.mode,hn.uid,hn.gid,hn.time,fun e=>List.eq_nil_of_length_eq_zero (hn.data e),fun _=>rfl,hn.target⟩ (by omega)
    hB.inv.usr hB.inv.xQ hB.inv.DV hB.inv.aD (fun h t e=>⟨.inl (hB.inv.us h t e).1,(hB.inv.us h t e).2⟩) (fun _ _=>rfl) (by rw [hB.us];rfl)
  rw [hid] at h1
  refine⟨h1,?_,hB.us,hB.aD,?_,fun a ha=>?_,fun x hx=>(show obj (aF S.O (eG (nd ns k)) fun _=>oO (nd ns k)) x=EN from (cG (hx k (Nat.lt_succ_self k))).trans (hB.free x fun a ha=>hx a (Nat.lt_succ_of_lt ha)))⟩
  ·show ins (nd ns k).id (nP (nd ns k)) S.idx=_
   rw [hB.idx,MC (Ib h hk),PI hk]
   unfold FV;rw [List.map_append];rfl
  ·show ({ S.X with last:=(nd ns k).id,used:=S.X.used+((nd ns k).data.length:Int) }:FM)=_
   rw [hu,hB.cap]
   show (⟨_,_,_,_,_,_,_,_⟩:FM)=⟨_,_,_,_,_,_,_,_⟩
   congr 1
  show obj (aF S.O (eG (nd ns k)) (fun _=>oO (nd ns k))) (eG (nd ns a))=_
  rcases Nat.lt_succ_iff_lt_or_eq.1 ha with e|e
  ·rw [cG (fun e2=>by have:=sB h (by omega) hk e2;omega)]
   exact hB.ob a e
  subst e;exact bR
theorem mr.fresh (h:bS ns) (hk:k < ns.length) (hB:mr X ns k S):tO S.O S.idx S.us (eG (nd ns k)):=hB.inv.C9 (by rw [x6 h hk,hB.cap];exact h.last hk)
theorem mr.new (h:bS ns) (hk:k < ns.length) (hB:mr X ns k S):aE.get S.idx (nd ns k).id=none:=get_none.2 (fun hm=>by
  rw [hB.idx] at hm
  exact absurd (Ib h hk _ hm) (by omega))
theorem AV (X:FM) (L:HL):(∀ k,bM (gV X).O L k=cE.none)/\(∀ k,bN (gV X).O L k=cE.none)/\∀ k,cF (gV X).O L k=cE.none:=⟨fun _=>if_pos rfl,fun _=>if_neg (by show ¬ (0:Int)=1;omega),fun _=>if_neg (by show ¬ (0:Int)=2;omega)⟩
theorem Sat.SQ {β:Bs} {l l':List HP} {w:World} {i j b m c:Nat} {ix:List Nat} {O:cg} {L L':HL} {A:Option Addr} {o:aV} (h:Sat β l w) (hL:L'=L.put k b m A c) (hp:l[i]?=some (.abs (ax (bN O L)))) (hq:l[j]?=some (.abs (av 5 1 A o.data.length c (bZ o.data)))) (hd:bC (i::j::ix)=true) (hl:bU l ix=some l') (h1:o.kind=1):Sat β (.abs (ax (bN (aF O k (fun _=>o)) L'))::l') w:=by
  refine h.qw hp hq (fun _ _ h=>h) hd hl k (fun x hx=>by rw [xG hx,y6 hL hx]) ?_
  rw [sK (by rw [bR];exact h1),bR]
  subst hL
  simp only [HL.put,if_true]
end base
theorem PJ {O:cg} {L:HL} {d:Nat} {name:ByteArray} {t:Th}:bN (o5 O d name t) L=bN O L:=
  sO (fun _=>Av (g:=aV.data) (fun _ _=>rfl) (fun _ _=>rfl) (fun _ _=>rfl)) (fun _=>xI)
def nE (ns:List aP) (i j a:Nat):Nat:=if a < i then (nd ns a).ah.length else if a=i then j else 0
def qi (ns:List aP) (a m:Nat):fD Th:=((nd ns a).ah.take m).map (fun e=>(e.name,lS ns e))
structure fH (X:FM) (ns:List aP) (i j:Nat) (S:aI):Prop where
  inv:Inv0 S
  idx:S.idx=FV ns
  us:S.us=[]
  aD:S.aD=0
  cap:S.X={ X with last:=lP ns ns.length,ah:=((eX ns i+j:Nat):Int),used:=(sV ns ns.length:Int) }
  ob:∀ a,a < ns.length->∃ l u,obj S.O (eG (nd ns a))={ oO (nd ns a) with links:=l,ah:=qi ns a (nE ns i j a),up:=u }
  free:∀ x,(∀ a,a < ns.length->x≠eG (nd ns a))->obj S.O x=EN
section ah
variable {X:FM} {ns:List aP} {i j k a b m:Nat} {S:aI} {t:Th}
theorem mr.ah (h:mr X ns ns.length S):fH X ns 0 0 S:=by
  refine⟨h.inv,by rw [h.idx,List.take_of_length_le (Nat.le_refl _)],h.us,h.aD,h.cap,fun a ha=>⟨0,none,?_⟩,h.free⟩
  rw [h.ob a ha]
  have:nE ns 0 0 a=0:=by
    unfold nE;rw [if_neg (Nat.not_lt_zero a)];split<;>rfl
  rw [this];rfl
theorem fH.get (h:fH X ns i j S) (ha:a < ns.length):aE.get S.idx (nd ns a).id=some (nP (nd ns a)):=by
  refine nj h.inv.rise ?_
  rw [h.idx]
  exact List.mem_map.2 ⟨nd ns a,List.mem_of_getElem? (x7 ha),rfl⟩
theorem fH.live (hG:bS ns) (h:fH X ns i j S) (ha:a < ns.length):Live S.idx (nP (nd ns a)):=by
  have:=h.get ha
  rw [← x6 hG ha] at this
  exact this
theorem fH.of (h:fH X ns i j S) {x:Int} (e:aE.get S.idx x=some t):∃ a,a < ns.length/\t=nP (nd ns a):=by
  have hm:=get_mem e
  rw [h.idx] at hm
  obtain⟨n,hn,e2⟩:=List.mem_map.1 hm
  obtain⟨a,ha,e3⟩:=List.mem_iff_getElem.1 hn
  have e4:nd ns a=n:=by
    have:=x7 ha
    rw [List.getElem?_eq_getElem ha,e3] at this
    exact (Option.some.inj this).symm
  cases e2
  exact⟨a,ha,by rw [e4]⟩
theorem Lg {es:List jt} {q:Nat} (hq:q < es.length):es[q]?=some (en es q):=getD_some hq
theorem wv {e:ByteArray×Th} (h:e∈qi ns a m):∃ q,q < m/\q < (nd ns a).ah.length/\e.1=(ent ns a q).name/\e.2=lS ns (ent ns a q):=by
  obtain⟨x,hx,rfl⟩:=List.mem_map.1 h
  obtain⟨q,hq,e⟩:=List.mem_iff_getElem.1 hx
  rw [List.length_take] at hq
  rw [List.getElem_take] at e
  have e2:ent ns a q=x:=by
    have:=Lg (es:=(nd ns a).ah) (q:=q) (by omega)
    rw [List.getElem?_eq_getElem (by omega),e] at this
    exact (Option.some.inj this).symm
  exact⟨q,by omega,by omega,by rw [e2],by rw [e2]⟩
theorem Lh (hj:j < (nd ns i).ah.length):qi ns i (j+1)=qi ns i j++[((ent ns i j).name,lS ns (ent ns i j))]:=by
  unfold qi
  rw [List.take_add_one,Lg hj,List.map_append];rfl
theorem Di (hG:bS ns) (hi:i < ns.length) {q:Nat}:∀ {j},q < j->j < (nd ns i).ah.length->oe (ent ns i q).name (ent ns i j).name < 0
  | 0,h,_=>absurd h (Nat.not_lt_zero q)
  | j+1,h,hj=>by
    have h1:=sP.1 (hG.ah i hi (j+1) hj).ord
    have h1:oe (ent ns i j).name (ent ns i (j+1)).name < 0:=h1
    rcases Nat.lt_succ_iff_lt_or_eq.1 h with e|e
    ·exact Bx (Di hG hi e (by omega)) (Int.le_of_lt h1)
    rw [e];exact h1
theorem Nj (hG:bS ns) (hi:i < ns.length) (hj:j < (nd ns i).ah.length):aX (ent ns i j).name (qi ns i j)=none:=by
  refine vS.2 (fun e he e1=>?_)
  obtain⟨q,h1,h2,h3,_⟩:=wv he
  have:=Di hG hi h1 hj
  rw [← h3,e1] at this
  have h4:=DL (ent ns i j).name
  omega
theorem Eb {n:ByteArray}:∀ {es:fD Th},(∀ e∈es,oe e.1 n < 0)->gS n t es=es++[(n,t)]
  | [],_=>rfl
  | e::r,h=>by
    have h1:=h e (List.mem_cons_self ..)
    unfold gS
    rw [if_neg (fun hc=>by have:=sP.1 hc;have:=xj e.1 n;omega),Eb (fun x hx=>h x (List.mem_cons_of_mem _ hx))];rfl
theorem Nk (hG:bS ns) (hi:i < ns.length) (hj:j < (nd ns i).ah.length):gS (ent ns i j).name (lS ns (ent ns i j)) (qi ns i j)=qi ns i (j+1):=by
  rw [Lh hj]
  refine Eb (fun e he=>?_)
  obtain⟨q,h1,_,h3,_⟩:=wv he
  rw [h3]
  exact Di hG hi h1 hj
theorem vl (hG:bS ns) (hi:i < ns.length) (hj:j < (nd ns i).ah.length):tgt ns (ent ns i j).id < ns.length/\(nd ns (tgt ns (ent ns i j).id)).id=(ent ns i j).id:=by
  have:=nL (hG.ah i hi j hj).at_
  exact⟨this.1,this.2.1⟩
theorem Dj {O:cg} {d x:Nat} {name:ByteArray} (h:t.k≠d):obj (o5 O d name t) x=if x=d then { obj O d with ah:=gS name t (obj O d).ah } else if x=t.k then { obj O x with links:=(obj O x).links+1,up:=if t.kind=2 then some d else (obj O x).up } else obj O x:=by
  have key:∀ O2:cg,O2=aF (aF O d (fun o=>{ o with ah:=gS name t o.ah })) t.k (fun o=>{ o with links:=o.links+1 })->obj (if t.kind=2 then aF O2 t.k (fun o=>{ o with up:=some d }) else O2) x=if x=d then { obj O d with ah:=gS name t (obj O d).ah } else if x=t.k then { obj O x with links:=(obj O x).links+1,up:=if t.kind=2 then some d else (obj O x).up } else obj O x:=by
    intro O2 e
    by_cases hk:t.kind=2
    ·rw [if_pos hk,if_pos hk,kf,e,kf,kf]
     by_cases e1:x=d
     ·subst e1;rw [if_neg (fun e=>h e.symm),if_neg (fun e=>h e.symm),if_pos rfl,if_pos rfl]
     by_cases e2:x=t.k
     ·rw [if_pos e2,if_pos e2,if_neg e1,if_neg e1,if_pos e2]
     rw [if_neg e2,if_neg e2,if_neg e1,if_neg e1,if_neg e2]
    rw [if_neg hk,if_neg hk,e,kf,kf]
    by_cases e1:x=d
    ·subst e1;rw [if_neg (fun e=>h e.symm),if_pos rfl,if_pos rfl]
    by_cases e2:x=t.k
    ·rw [if_pos e2,if_neg e1,if_neg e1,if_pos e2]
    rw [if_neg e2,if_neg e1,if_neg e1,if_neg e2]
  exact key _ rfl
theorem fH.UI (hG:bS ns) (h:fH X ns i j S) {d:Nat} (hd:Live S.idx ⟨d,2⟩) {n:ByteArray} (ha:a < ns.length) (hk:(nd ns a).kind=2) (hl:aX n (obj S.O d).ah=some (nP (nd ns a))):∃ b q,b < ns.length/\d=eG (nd ns b)/\Dh ns b q/\tgt ns (ent ns b q).id=a:=by
  obtain⟨b,hb,e⟩:=h.of hd
  have e:(⟨d,2⟩:Th)=⟨eG (nd ns b),(nd ns b).kind⟩:=e
  have e1:d=eG (nd ns b):=congrArg Th.k e
  subst e1
  obtain⟨l,u,ho⟩:=h.ob b hb
  have hm:=mD hl
  rw [ho] at hm
  obtain⟨q,h1,h2,_,h4⟩:=wv hm
  have ht:=vl hG hb h2
  have h5:eG (nd ns a)=eG (nd ns (tgt ns (ent ns b q).id)):=congrArg Th.k h4
  have h6:=sB hG ha ht.1 h5
  exact⟨b,q,hb,rfl,⟨hb,h2,by rw [← h6];exact hk⟩,h6.symm⟩
theorem fH.below (hG:bS ns) (h:fH X ns i j S) {dp:Nat->Nat} (hdp:Ia ns dp) {s k:Nat} (hb:jP S.O s k):∀ {a b},a < ns.length->k=eG (nd ns a)->b < ns.length->s=eG (nd ns b)->dp b<=dp a:=by
  induction hb with
  | here=>
    intro a b ha e1 hb e2
    have:=sB hG ha hb (by rw [← e1,← e2])
    rw [this];exact Nat.le_refl _
  | up hup _ ih=>
    intro a b ha e1 hb e2
    subst e1
    have hlv:=h.live hG ha
    obtain⟨h1,h2,n,h3⟩:=(h.inv.up _ hlv _).1 hup
    obtain⟨c,q,hc,e3,hD,e4⟩:=h.UI hG h2 ha h1 h3
    have h5:=hdp c q hD
    rw [e4] at h5
    have:=ih hc e3 hb e2
    omega
theorem fH.links (hG:bS ns) (h:fH X ns i j S) (hi:i < ns.length) (hj:j < (nd ns i).ah.length) (hk:(lS ns (ent ns i j)).kind=2):(obj S.O (lS ns (ent ns i j)).k).links=0:=by
  have ht:=vl hG hi hj
  have hlv:Live S.idx (lS ns (ent ns i j)):=h.live hG ht.1
  rw [h.inv.links _ hlv]
  cases hz:iz S.idx S.O (lS ns (ent ns i j)).k with
  | zero=>rfl
  | succ z=>
    exfalso
    obtain⟨x,u,hu,e,he,e1⟩:=BO h.inv.rise (show 0 < iz S.idx S.O (lS ns (ent ns i j)).k by omega)
    obtain⟨b,hb,rfl⟩:=h.of hu
    obtain⟨l,u,ho⟩:=h.ob b hb
    have he:e∈(obj S.O (eG (nd ns b))).ah:=he
    rw [ho] at he
    obtain⟨q,h1,h2,_,h4⟩:=wv he
    have ht2:=vl hG hb h2
    have h5:eG (nd ns (tgt ns (ent ns b q).id))=eG (nd ns (tgt ns (ent ns i j).id)):=by
      rw [h4] at e1;exact e1
    have h6:=sB hG ht2.1 ht.1 h5
    obtain⟨rfl,rfl⟩:=hG.uniq b q i j ⟨hb,h2,by rw [h6];exact hk⟩ ⟨hi,hj,hk⟩ hb hi h6
    unfold nE at h1
    rw [if_neg (Nat.lt_irrefl _),if_pos rfl] at h1
    omega
theorem fH.look (hG:bS ns) (h:fH X ns i j S) (hi:i < ns.length) (hj:j < (nd ns i).ah.length):(obj S.O (eG (nd ns i))).ah=qi ns i j/\aX (ent ns i j).name (obj S.O (eG (nd ns i))).ah=none/\(nd ns i).kind=2:=by
  obtain⟨l,u,ho⟩:=h.ob i hi
  have e1:(obj S.O (eG (nd ns i))).ah=qi ns i j:=by
    rw [ho]
    show qi ns i (nE ns i j i)=_
    unfold nE;rw [if_neg (Nat.lt_irrefl _),if_pos rfl]
  refine⟨e1,by rw [e1];exact Nj hG hi hj,?_⟩
  cases Decidable.em ((nd ns i).kind=2) with
  | inl h=>exact h
  | inr h=>have:=(hG.node i hi).ah h;omega
theorem fH.gone (h:fH X ns i j S) (ha:a < ns.length):(obj S.O (eG (nd ns a))).gone=false:=by
  obtain⟨l,u,ho⟩:=h.ob a ha
  rw [ho];rfl
theorem fH.ne (hG:bS ns) (hi:i < ns.length) (hj:j < (nd ns i).ah.length) (hk:(nd ns i).kind=2):(lS ns (ent ns i j)).k≠eG (nd ns i):=fun e=>by
  have ht:=vl hG hi hj
  have h1:=sB hG ht.1 hi e
  obtain⟨dp,hdp⟩:=hG.deep
  have:=hdp i j ⟨hi,hj,by rw [h1];exact hk⟩
  rw [h1] at this
  exact Nat.lt_irrefl _ this
theorem fH.step (hG:bS ns) (h:fH X ns i j S) (hi:i < ns.length) (hj:j < (nd ns i).ah.length):fH X ns i (j+1) (kN ns S (nd ns i) (ent ns i j)):=by
  obtain⟨l1,l2,l3⟩:=h.look hG hi hj
  have ht:=vl hG hi hj
  have hne:=fH.ne hG hi hj l3
  have hld:Live S.idx ⟨eG (nd ns i),2⟩:=by
    have:=h.live hG hi
    unfold nP at this
    rw [l3] at this
    exact this
  have hlt:Live S.idx (lS ns (ent ns i j)):=h.live hG ht.1
  have hX:S.X.ah=((eX ns i+j:Nat):Int):=by rw [h.cap]
  have hsum:eX ns i+j < 8192:=by
    have h1:eX ns (i+1)<=eX ns ns.length:=ur hi
    have h2:eX ns (i+1)=eX ns i+(nd ns i).ah.length:=rfl
    have h3:=hG.sum
    omega
  have h1:=h.inv.put (O':=o5 S.O (eG (nd ns i)) (ent ns i j).name (lS ns (ent ns i j))) (ta:=(obj S.O (eG (nd ns i))).sec) (tb:=(obj S.O (eG (nd ns i))).nano) hld (h.gone hi) l2 (hG.ah i hi j hj).good hlt (h.gone ht.1) (fun hk=>⟨h.links hG hi hj hk,fun hb=>by
      obtain⟨dp,hdp⟩:=hG.deep
      have h2:=h.below hG hdp hb hi rfl ht.1 rfl
      have h3:=hdp i j ⟨hi,hj,hk⟩
      omega⟩) hne (by rw [hX];omega) (h.inv.mt _ hld).time (fun x=>Dj hne)
  refine⟨h1,h.idx,h.us,h.aD,?_,fun a ha=>?_,fun x hx=>(Dj hne).trans (by rw [if_neg (hx i hi),if_neg (show ¬ x=(lS ns (ent ns i j)).k from hx _ ht.1)];exact h.free x hx)⟩
  ·show ({ S.X with ah:=S.X.ah+1 }:FM)=_
   rw [hX,h.cap]
   show (⟨_,_,_,_,_,_,_,_⟩:FM)=⟨_,_,_,_,_,_,_,_⟩
   congr 1
  obtain⟨l,u,ho⟩:=h.ob a ha
  show ∃ l u,obj (o5 S.O (eG (nd ns i)) (ent ns i j).name (lS ns (ent ns i j))) (eG (nd ns a))=_
  rw [Dj hne]
  by_cases e:a=i
  ·subst e
   refine⟨l,u,?_⟩
   rw [if_pos rfl,l1,Nk hG hi hj,ho]
   have hc:nE ns a (j+1) a=j+1:=by unfold nE;rw [if_neg (Nat.lt_irrefl _),if_pos rfl]
   rw [hc]
  have hc:nE ns i (j+1) a=nE ns i j a:=by
    unfold nE;rw [if_neg e,if_neg e]
  rw [if_neg (fun e2=>e (sB hG ha hi e2)),hc]
  split
  ·rw [ho];exact⟨_,_,rfl⟩
  exact⟨l,u,ho⟩
theorem fH.next (h:fH X ns i (nd ns i).ah.length S):fH X ns (i+1) 0 S:=by
  refine⟨h.inv,h.idx,h.us,h.aD,h.cap,fun a ha=>?_,h.free⟩
  obtain⟨l,u,ho⟩:=h.ob a ha
  refine⟨l,u,?_⟩
  rw [ho]
  have:nE ns (i+1) 0 a=nE ns i (nd ns i).ah.length a:=by
    unfold nE
    by_cases e:a=i
    ·subst e;rw [if_pos (by omega),if_neg (by omega),if_pos rfl]
    by_cases e2:a < i
    ·rw [if_pos (by omega),if_pos e2]
    rw [if_neg (by omega),if_neg e2,if_neg e];split<;>rfl
  rw [this]
theorem fH.full (h:fH X ns i j S):Inv S:=by
  refine⟨h.inv,fun t ht hg=>?_⟩
  obtain⟨a,ha,rfl⟩:=h.of ht
  have:(obj S.O (eG (nd ns a))).gone=true:=hg
  rw [h.gone ha] at this
  cases this
theorem fH.uniq {S':aI} (h:fH X ns ns.length 0 S) (h':fH X ns ns.length 0 S'):S=S':=by
  have hx:S.idx=S'.idx:=h.idx.trans h'.idx.symm
  have hat:∀ a,a < ns.length->∃ l u l' u',obj S.O (eG (nd ns a))={ oO (nd ns a) with links:=l,ah:=qi ns a (nE ns ns.length 0 a),up:=u }/\obj S'.O (eG (nd ns a))={ oO (nd ns a) with links:=l',ah:=qi ns a (nE ns ns.length 0 a),up:=u' }:=fun a ha=>by
    obtain⟨l,u,e⟩:=h.ob a ha
    obtain⟨l',u',e'⟩:=h'.ob a ha
    exact⟨l,u,l',u',e,e'⟩
  have cs:∀ x,(∃ a,a < ns.length/\x=eG (nd ns a))\/∀ a,a < ns.length->x≠eG (nd ns a):=fun x=>by
    by_cases hc:∃ a,a < ns.length/\x=eG (nd ns a)
    ·exact .inl hc
    exact .inr fun a ha e=>hc ⟨a,ha,e⟩
  have hE:∀ x,(obj S.O x).ah=(obj S'.O x).ah:=fun x=>by
    rcases cs x with ⟨a,ha,rfl⟩|hc
    ·obtain⟨l,u,l',u',e,e'⟩:=hat a ha
     rw [e,e']
    rw [h.free x hc,h'.free x hc]
  have hl:∀ k,iz S.idx S.O k=iz S'.idx S'.O k:=fun k=>by
    unfold iz
    simp only [hE,hx]
  have hO:S.O=S'.O:=funext fun x=>by
    show obj S.O x=obj S'.O x
    rcases cs x with ⟨a,ha,rfl⟩|hc
    ·have lv:Live S.idx (nP (nd ns a)):=by
       obtain⟨l,u,e⟩:=h.ob a ha
       have:=nj h.inv.rise (by rw [h.idx];exact List.mem_map.2 ⟨nd ns a,List.mem_of_getElem? (x7 ha),rfl⟩)
       have hw:=h.inv.idx _ _ this
       show aE.get S.idx _=_
       rw [← hw.1];exact this
     have Tr:Live S'.idx (nP (nd ns a)):=hx ▸ lv
     have k1:(obj S.O (eG (nd ns a))).links=(obj S'.O (eG (nd ns a))).links:=(h.inv.links _ lv).trans ((congrArg Int.ofNat (hl _)).trans (h'.inv.links _ Tr).symm)
     have k2:(obj S.O (eG (nd ns a))).up=(obj S'.O (eG (nd ns a))).up:=by
       refine Option.ext fun d=>?_
       have q:=(h.inv.up _ lv d).trans ((show _↔_ by rw [hx,hE d]).trans (h'.inv.up _ Tr d).symm)
       exact q
     obtain⟨l,u,l',u',e,e'⟩:=hat a ha
     rw [e,e'] at k1 k2
     rw [e,e']
     cases k1;cases k2;rfl
    rw [h.free x hc,h'.free x hc]
  obtain⟨_,_,_,_,_⟩:=S
  obtain⟨_,_,_,_,_⟩:=S'
  cases hO
  cases hx
  cases h.us.trans h'.us.symm
  cases h.aD.trans h'.aD.symm
  cases h.cap.trans h'.cap.symm
  rfl
end ah
end
section
open Go.RowKit Go.Maps bH aE
noncomputable def cL (X:FM) (ns:List aP) (root:Int):Int:=
  open Classical in
  if jx X then if bS ns then
    match ns.find? (fun n=>decide (n.id=root)) with
    | none=>141
    | some n=>if n.kind=2 then 0 else 173
  else 140 else 179
def sW (ns:List aP) (root:Int) (i:Nat):Prop:=i < ns.length/\(nd ns i).id=root/\∀ q,q < i->(nd ns q).id≠root
section n
variable {X:FM} {ns:List aP} {root:Int} {i:Nat}
theorem Nl (ns:List aP) (root:Int):(∃ i,sW ns root i)\/∀ q,q < ns.length->(nd ns q).id≠root:=by
  have key:∀ n,n<=ns.length->(∃ i,sW ns root i)\/∀ q,q < n->(nd ns q).id≠root:=fun n=>by
    induction n with
    | zero=>exact fun _=>.inr fun q h=>absurd h (Nat.not_lt_zero q)
    | succ n ih=>
      intro h
      rcases ih (by omega) with h1|h1
      ·exact .inl h1
      by_cases e:(nd ns n).id=root
      ·exact .inl ⟨n,by omega,e,h1⟩
      exact .inr fun q hq=>(Nat.lt_succ_iff_lt_or_eq.1 hq).elim (h1 q) (fun e2=>e2 ▸ e)
  exact key _ (Nat.le_refl _)
theorem Cg (h:sW ns root i):ns.find? (fun n=>decide (n.id=root))=some (nd ns i):=by
  obtain⟨h1,h2,h3⟩:=h
  rw [List.find?_eq_some_iff_getElem]
  have e:=getD_some (x:=default) h1
  have e2:ns[i]=nd ns i:=by rw [List.getElem?_eq_getElem h1] at e;exact Option.some.inj e
  refine⟨by simpa using h2,i,h1,e2,fun j hj=>?_⟩
  have e3:ns[j]=nd ns j:=by
    have:=getD_some (x:=default) (show j < ns.length by omega)
    rw [List.getElem?_eq_getElem (by omega)] at this;exact Option.some.inj this
  rw [e3]
  simpa using h3 j hj
theorem Li (h:∀ q,q < ns.length->(nd ns q).id≠root):ns.find? (fun n=>decide (n.id=root))=none:=by
  rw [List.find?_eq_none]
  intro n hn
  obtain⟨q,hq,e⟩:=List.mem_iff_getElem.1 hn
  have e3:ns[q]=nd ns q:=by
    have:=getD_some (x:=default) hq
    rw [List.getElem?_eq_getElem hq] at this;exact Option.some.inj this
  rw [← e,e3]
  simpa using h q hq
theorem Ch (h:¬ jx X):cL X ns root=179:=if_neg h
theorem yc (h:jx X) (h2:¬ bS ns):cL X ns root=140:=(if_pos h).trans (if_neg h2)
theorem zM (h:jx X) (h2:bS ns) (h3:∀ q,q < ns.length->(nd ns q).id≠root):cL X ns root=141:=(if_pos h).trans ((if_pos h2).trans (by rw [Li h3]))
theorem Ci (h:jx X) (h2:bS ns) (h3:sW ns root i) (h4:(nd ns i).kind=2):cL X ns root=0:=(if_pos h).trans ((if_pos h2).trans (by rw [Cg h3];exact if_pos h4))
theorem Cj (h:jx X) (h2:bS ns) (h3:sW ns root i) (h4:¬ (nd ns i).kind=2):cL X ns root=173:=(if_pos h).trans ((if_pos h2).trans (by rw [Cg h3];exact if_neg h4))
theorem Ec (h:cL X ns root=0):jx X/\bS ns:=by
  by_cases h1:jx X
  ·by_cases h2:bS ns
   ·exact⟨h1,h2⟩
   rw [yc h1 h2] at h;exact absurd h (by decide)
  rw [Ch h1] at h;exact absurd h (by decide)
end n
end
section
open Go.RowKit Go.Maps bH aE
attribute [local irreducible] aj aS af ai
noncomputable abbrev sX (b:Nat) (root):=(.blk b [vI (root)] 3:HP)
theorem Nn {β:Bs} (b:Nat) (root z:Int) (v1 v2 v3 v4 v5 v6 v7 v8 v9:Value) :
    Spec Tryz.prog β 82 #[.agg #[vI (z),v1,v2,v3,v4,v5,v6,v7,v8,v9],vP b] [sX b root] (fun v l=>v=.bool (decide (z=root))/\l=[sX b root]):=by
 refine Spec.enter Tryz.func82 rfl Tryz.ntmps82 (Nat.le_of_ble_eq_true rfl) (fun R=>?_)
 refine SR (gN 2 (fun b1=>[(2,vP b1)]) (fun _=>[]) (fun _=>[]) (fun b1=>.blk b1 [vI (z),v1,v2,v3,v4,v5,v6,v7,v8,v9] 70) (fun b1=>?_))
 refine NS (gK 5 [(3,.bool (decide ((z:Int)=(root:Int))))] [(1,a_ 2 b1),(2,a_ 0 b)] ?_)
 refine NN (af.ret ?_)
 exact RT (.bool (decide ((z:Int)=(root:Int)))) [0,1] (⟨rfl,rfl⟩)
theorem FW {β:Bs} (A:Option Addr) (c:Nat) (ns:List aP) (Y:Lay) (hG:ay β A ns Y) (hl:ns.length<=1048576) (b:Nat) (root:Int) :
    Spec Tryz.prog β 81 #[.slice A (ns.length) (c),.func (.func 82) #[] #[vP b]] [sX b root] (fun v l=>(∃ i:Nat,sW ns root i/\v=vI (i:Int)/\l=[sX b root])\/((∀ q,q < ns.length->(nd ns q).id≠root)/\v=vI (-1)/\l=[sX b root])):=by
 refine Spec.enter Tryz.func81 rfl Tryz.ntmps81 (Nat.le_of_ble_eq_true rfl) (fun R=>?_)
 refine SR (gK 1 [] [] ?_)
 refine NN (af.seq (SR (gK 3 [(7,vI ↑ns.length),(8,vI 0)] [] ?_)))
 refine NN (af.block ?_)
 refine af.loop (ι:=Nat) (fun (i:Nat)=>(i<=ns.length)/\(∀ q,q < i->(nd ns q).id≠root)) (fun (i:Nat)=>ns.length - i) (fun (i:Nat)=>[(0,.slice A (ns.length) (c)),(1,.func (.func 82) #[] #[vP b]),(7,vI ↑ns.length),(8,vI ↑i)]) (fun (i:Nat)=>[sX b root,.abs R]) 0 (idx:=[0,1,7,8]) (pk:=[0,1]) (show (0<=ns.length)/\(∀ q,q < 0->(nd ns q).id≠root) from ⟨Nat.zero_le _,fun q h=>absurd h (Nat.not_lt_zero q)⟩) (fun _=>by kernel_rfl) rfl (by kernel_rfl) ?_
 rintro i ⟨hi,hlt⟩
 show af _ _ _ _ [(0,.slice A (ns.length) (c)),(1,.func (.func 82) #[] #[vP b]),(7,vI ↑ns.length),(8,vI ↑i)] [sX b root,.abs R] _
 refine SR (gK 1 [(9,.bool (decide ((((i:Nat):Int):Int) < (((ns.length:Nat):Int):Int))))] [] ?_)
 refine NN (af.seq (af.bg (p:=(((i:Nat):Int):Int) < (((ns.length:Nat):Int):Int)) (fun _=>by kernel_rfl) (fun h9=>?_) (fun h9=>?_)))
 ·refine af.skip (NX (af.seq (af.block (SR ?_))))
  refine gK 2 [(5,vI ↑i)] [] ?_
  refine NS (gK 5 [(11,.func (.func 82) #[] #[vP b]),(15,.agg #[vI ((nd ns i).id),vI ((nd ns i).kind),vI ((nd ns i).mode),vI ((nd ns i).uid),vI ((nd ns i).gid),vI ((nd ns i).sec),vI ((nd ns i).nano),.slice (Y.dA i) ((nd ns i).data.length) ((Y.dC i)),.string (nd ns i).target,.slice (Y.eA i) ((nd ns i).ah.length) ((Y.eC i))])] [(3,p_ ⟨[],some i,none,some ⟨(aq A),ak A,none⟩,none⟩ [((i:Nat):Int)=((i:Nat):Int),i < ns.length,(⟨(aq A),ak A,none⟩:Addr).spot=none,(A:Option Addr)=some ⟨(aq A),ak A,none⟩] ⟨rfl,by omega,rfl,ay.hd hG (i:=i) (by omega),trivial⟩),(4,p_ ⟨[.old (.int .i64 ((nd ns i).id)),.old (.int .i64 ((nd ns i).kind)),.old (.int .i64 ((nd ns i).mode)),.old (.int .i64 ((nd ns i).uid)),.old (.int .i64 ((nd ns i).gid)),.old (.int .i64 ((nd ns i).sec)),.old (.int .i64 ((nd ns i).nano)),.old (.slice (Y.dA i) ((nd ns i).data.length) ((Y.dC i))),.old (.string (nd ns i).target),.old (.slice (Y.eA i) ((nd ns i).ah.length) ((Y.eC i)))],none,none,none,none⟩ [(Rd β ⟨(aq A),ak A+i * 10+9,none⟩ (.slice (Y.eA i) ((nd ns i).ah.length) ((Y.eC i)))),(Rd β ⟨(aq A),ak A+i * 10+8,none⟩ (.string (nd ns i).target)),(Rd β ⟨(aq A),ak A+i * 10+7,none⟩ (.slice (Y.dA i) ((nd ns i).data.length) ((Y.dC i)))),(Rd β ⟨(aq A),ak A+i * 10+6,none⟩ (.int .i64 ((nd ns i).nano))),(Rd β ⟨(aq A),ak A+i * 10+5,none⟩ (.int .i64 ((nd ns i).sec))),(Rd β ⟨(aq A),ak A+i * 10+4,none⟩ (.int .i64 ((nd ns i).gid))),(Rd β ⟨(aq A),ak A+i * 10+3,none⟩ (.int .i64 ((nd ns i).uid))),(Rd β ⟨(aq A),ak A+i * 10+2,none⟩ (.int .i64 ((nd ns i).mode))),(Rd β ⟨(aq A),ak A+i * 10+1,none⟩ (.int .i64 ((nd ns i).kind))),(Rd β ⟨(aq A),ak A+i * 10,none⟩ (.int .i64 ((nd ns i).id)))] ⟨ay.rd hG (i:=i) (by omega) (j:=9) rfl,ay.rd hG (i:=i) (by omega) (j:=8) rfl,ay.rd hG (i:=i) (by omega) (j:=7) rfl,ay.rd hG (i:=i) (by omega) (j:=6) rfl,ay.rd hG (i:=i) (by omega) (j:=5) rfl,ay.rd hG (i:=i) (by omega) (j:=4) rfl,ay.rd hG (i:=i) (by omega) (j:=3) rfl,ay.rd hG (i:=i) (by omega) (j:=2) rfl,ay.rd hG (i:=i) (by omega) (j:=1) rfl,ay.rd hG (i:=i) (by omega) (j:=0) rfl,trivial⟩)] ?_)
  refine gL [0] (Nn b root ((nd ns i).id) (.int .i64 ((nd ns i).kind)) (.int .i64 ((nd ns i).mode)) (.int .i64 ((nd ns i).uid)) (.int .i64 ((nd ns i).gid)) (.int .i64 ((nd ns i).sec)) (.int .i64 ((nd ns i).nano)) (.slice (Y.dA i) ((nd ns i).data.length) ((Y.dC i))) (.string (nd ns i).target) (.slice (Y.eA i) ((nd ns i).ah.length) ((Y.eC i)))) ?_
  rintro _ _ ⟨rfl,rfl⟩
  refine NN (af.bg (p:=(nd ns i).id=root) (fun _=>by kernel_rfl) (fun uS=>?_) (fun uS=>?_))
  ·refine SR (gK 2 [(4,vI ↑i)] [] ?_)
   refine NN (af.ret (ai.aG (ai.ar (ai.ar (ai.aG (ai.ar ?_))))))
   exact RT (vI ↑i) [0,1] (.inl ⟨i,⟨by omega,uS,hlt⟩,rfl,rfl⟩)
  refine af.skip (ai.aJ (NX (af.region ?_)))
  refine gK 2 [(8,vI ↑(i+1))] [(0,p_ ⟨[],none,none,none,some (vI ↑(i+1))⟩ [(Value.int .i64 (IntKind.wrap .i64 (((i:Nat):Int)+1)))=(.int .i64 ↑(i+1))] ⟨bA (by omega) (by omega) (by omega),trivial⟩)] ?_
  refine NL ?_
  exact ai.turn ((i+1)) (idx:=[0,1,7,8]) (pk:=[0,1]) (show (((i+1))<=ns.length)/\(∀ q,q < ((i+1))->(nd ns q).id≠root) from ⟨by omega,fun q hq=>(Nat.lt_succ_iff_lt_or_eq.1 hq).elim (hlt q) (fun e=>e ▸ uS)⟩) (by show ns.length - ((i+1)) < ns.length - i;omega) (fun _=>by kernel_rfl) rfl (by kernel_rfl)
 refine af.exit (ai.aU (ai.aU (ai.cM (NX (SR ?_)))))
 refine gK 1 [(4,vI (-1))] [] ?_
 refine NN (af.ret ?_)
 exact RT (vI (-1)) [0,1] (.inr ⟨fun q hq=>hlt q (by omega),rfl,rfl⟩)
theorem Rk {β:Bs} (b:Nat) :
    Spec Tryz.prog β 83 #[.iface 42 (vP b)] [] (fun v l=>v=.agg #[.iface 42 (vP b)]/\l=[]):=by
 refine Spec.enter Tryz.func83 rfl Tryz.ntmps83 (Nat.le_of_ble_eq_true rfl) (fun R=>?_)
 refine SR (gN 1 (fun b2=>[(2,vP b2)]) (fun _=>[]) (fun _=>[]) (fun b2=>.blk b2 [.nilIface] 90) (fun b2=>?_))
 refine NS (gC 3 [] [(2,a_ 1 b2)] [(1,[(0,.iface 42 (vP b))])] ?_)
 refine NN (af.ret ?_)
 exact ai.ret (v:=.agg #[.iface 42 (vP b)]) (l:=[]) (bG:=[b2=b2]) [.at 1] [0] (fun _=>by kernel_rfl) ⟨rfl,trivial⟩ rfl (by kernel_rfl) (⟨rfl,rfl⟩)
end
section
open Go.RowKit
section
variable {O:cg} {k:Nat} {kd:Int}
theorem rf (L:HL) (h:(obj O k).kind=kd) (h0:kd≠0:=by decide):∀ F w,(ax (bM O L)).h F w->w.cell? ⟨L.b k,0,none⟩=some (.int .i64 (obj O k).id):=d8 (by rw [h];exact h0) rfl
theorem sY (L:HL) (h:(obj O k).kind=kd) (h0:kd≠0:=by decide):∀ F w,(ax (bM O L)).h F w->w.cell? ⟨L.b k,1,none⟩=some (.int .i64 (obj O k).mode):=d8 (by rw [h];exact h0) rfl
theorem zn (L:HL) (h:(obj O k).kind=kd) (h0:kd≠0:=by decide):∀ F w,(ax (bM O L)).h F w->w.cell? ⟨L.b k,2,none⟩=some (.int .i64 (obj O k).uid):=d8 (by rw [h];exact h0) rfl
theorem zo (L:HL) (h:(obj O k).kind=kd) (h0:kd≠0:=by decide):∀ F w,(ax (bM O L)).h F w->w.cell? ⟨L.b k,3,none⟩=some (.int .i64 (obj O k).gid):=d8 (by rw [h];exact h0) rfl
theorem ny (L:HL) (h:(obj O k).kind=kd) (h0:kd≠0:=by decide):∀ F w,(ax (bM O L)).h F w->w.cell? ⟨L.b k,6,none⟩=some (.int .i64 (obj O k).links):=d8 (by rw [h];exact h0) rfl
theorem jV (L:HL) (h:(obj O k).kind=kd) (h0:kd≠0:=by decide):∀ F w,(ax (bM O L)).h F w->w.cell? ⟨L.b k,7,none⟩=some (.int .i64 (obj O k).opens):=d8 (by rw [h];exact h0) rfl
theorem nQ (L:HL) (h:(obj O k).kind=kd) (h0:kd≠0:=by decide):∀ F w,(ax (bM O L)).h F w->w.cell? ⟨L.b k,8,none⟩=some (.bool (obj O k).gone):=d8 (by rw [h];exact h0) rfl
theorem FX (L:HL) (h:(obj O k).kind=1):∀ F w,(ax (bM O L)).h F w->w.cell? ⟨L.b k,9,none⟩=some (.slice (L.dA k) (obj O k).data.length (L.dC k)):=d8 (by rw [h];decide) (by rw [gY h];rfl)
theorem bD (L:HL) (h:(obj O k).kind=2):∀ F w,(ax (bM O L)).h F w->w.cell? ⟨L.b k,9,none⟩=some (.map (some (L.m k))):=d8 (by rw [h];decide) (by rw [lp h];rfl)
theorem UJ (L:HL) (h:(obj O k).kind=2):∀ F w,(ax (bM O L)).h F w->w.cell? ⟨L.b k,10,none⟩=some (uL L (obj O k).up):=d8 (by rw [h];decide) (by rw [lp h];rfl)
theorem SV (L:HL) (h:(obj O k).kind=3):∀ F w,(ax (bM O L)).h F w->w.cell? ⟨L.b k,9,none⟩=some (.string (obj O k).target):=d8 (by rw [h];decide) (by rw [xH h];rfl)
end
end
section
open Go.RowKit Go.Maps
theorem ax.step {R R':Nat->cE} {k:Nat} {F:Fp} {w w':World} (hF:(ax R).h F w) (hR:∀ x,x≠k->R' x=R x) (hs:∀ G,(R k).h G w->∃ G',(R' k).h G' w'/\Step G w G' w'):∃ F',(ax R').h F' w'/\Step F w F' w':=by
  obtain⟨φ,h1,h2,h3⟩:=hF
  obtain⟨G',g1,st⟩:=hs _ (h1 k)
  have hap:∀ i,i≠k->∀ x,G' x->φ i x->False:=fun i hne x hx hy=>by
    rcases st.grow x hx with e|e
    ·exact h2 i k hne x hy e
    have:=(R i).lt (h1 i) x hy;omega
  refine⟨fun x=>∃ i,(if i=k then G' else φ i) x,⟨fun i=>if i=k then G' else φ i,fun i=>?_,fun i j hne x hx hy=>?_,fun x=>Iff.rfl⟩,⟨st.keeps.mono (fun x _ hx=>(h3 x).2 ⟨k,hx⟩),fun x ⟨i,hx⟩=>?_⟩⟩
  ·by_cases e:i=k
   ·subst e;simp only [if_true];exact g1
   simp only [e,if_false]
   rw [hR i e]
   exact (R i).st (h1 i) st.keeps (fun x hx hk=>h2 i k e x hx hk)
  ·by_cases e1:i=k
   ·have e2:j≠k:=fun e=>hne (e1.trans e.symm)
    simp only [e1,if_true] at hx
    simp only [e2,if_false] at hy
    exact hap j e2 x hx hy
   simp only [e1,if_false] at hx
   by_cases e2:j=k
   ·simp only [e2,if_true] at hy
    exact hap i e1 x hy hx
   simp only [e2,if_false] at hy
   exact h2 i j hne x hx hy
  by_cases e:i=k
  ·simp only [e,if_true] at hx
   rcases st.grow x hx with h|h
   ·exact .inl ((h3 x).2 ⟨k,h⟩)
   exact .inr h
  simp only [e,if_false] at hx
  exact .inl ((h3 x).2 ⟨i,hx⟩)
def Dk (O:cg) (L:HL):Nat->HP
  | 0=>.abs (ax (bM O L))
  | 1=>.abs (ax (cF O L))
  | _=>.abs (ax (bN O L))
def ql (O:cg) (L:HL):List (Nat×Nat)->List (Nat×HP)
  | []=>[]
  | q::r=>(q.1,Dk O L q.2)::ql O L r
def tU (hps:List HP) (O:cg) (L:HL):List (Nat×Nat)->Prop
  | []=>True
  | q::r=>hps[q.1]?=some (Dk O L q.2)/\tU hps O L r
theorem vm {hps:List HP} {O O2:cg} {L:HL} {p:Nat} (he:∀ q,q≠p->Dk O2 L q=Dk O L q):∀ {js:List (Nat×Nat)},tU hps O L js->jY p (js.map (·.2))=false->mW hps (ql O2 L js)=hps
  | [],_,_=>rfl
  | q::r,h,hn=>by
    have hq:q.2≠p:=fun e=>by
      rw [show jY p ((q::r).map (·.2))=true from jo.2 (by simp [e])] at hn;cases hn
    have hr:jY p (r.map (·.2))=false:=by
      cases hb:jY p (r.map (·.2)) with
      | false=>rfl
      | true=>rw [show jY p ((q::r).map (·.2))=true from jo.2 (List.mem_cons_of_mem _ (jo.1 hb))] at hn;cases hn
    show mW (hps.set q.1 (Dk O2 L q.2)) (ql O2 L r)=hps
    have e:hps.set q.1 (Dk O2 L q.2)=hps:=by
      rw [he _ hq]
      refine List.ext_getElem? (fun n=>?_)
      rw [List.getElem?_set]
      split
      ·rename_i e;subst e
       rw [h.1];split
       ·rfl
       rename_i hlt;exact absurd (bE h.1) hlt
      rfl
    rw [e]
    exact vm he h.2 hr
def Ck (P:Program) (N:Nat) (junk:Nat->Value) (ops:Array Oper) (fr:Fr) (k:Nat):Option (Addr×Value):=
  match fB N junk ops fr k with
  | some (.store T a y,_)=>match (P.info? T).map (·.size) with
    | some 1=>match dz N fr junk a with
      | .pointer (some ad)=>some (ad,dz N fr junk y)
      | _=>none
    | _=>none
  | _=>none
def Cl (N:Nat) (junk:Nat->Value) (ops:Array Oper) (fr:Fr) (k:Nat):Option (TypeId×Nat×Value):=
  match fB N junk ops fr k with
  | some (.lookup t x ix false,_)=>match dz N fr junk x with
    | .map (some b)=>some (t,b,dz N fr junk ix)
    | _=>none
  | _=>none
def setAt (N:Nat) (junk:Nat->Value) (ops:Array Oper) (fr:Fr) (k:Nat):Option (TypeId×Nat×Value×Value):=
  match fB N junk ops fr k with
  | some (.mapUpdate t x ix y,_)=>match dz N fr junk x with
    | .map (some b)=>some (t,b,dz N fr junk ix,dz N fr junk y)
    | _=>none
  | _=>none
def JD (N:Nat) (junk:Nat->Value) (ops:Array Oper) (fr:Fr) (k:Nat):Option (TypeId×TypeId×Nat×Value):=
  match fB N junk ops fr k with
  | some (.call ⟨.builtin .delete,xs,ts⟩,_)=>match xs.toList with
    | [x,ix]=>match ts.toList with
      | [t,K]=>match dz N fr junk x with
        | .map (some b)=>some (t,K,b,dz N fr junk ix)
        | _=>none
      | _=>none
    | _=>none
  | _=>none
def FY (L:HL):Option Th->Value
  | none=>.nilIface
  | some t=>dQ L t
section rules
variable {β:Bs} {N:Nat} {ops:Array Oper} {k x:Nat} {fr:Fr} {hps:List HP} {Q:Post} {O:cg} {L:HL} {name:ByteArray} {r:Option Th} {t:Th}
theorem vn {junk:Nat->Value} {op:Op} {d:Option Tmp} (h:fB N junk ops fr k=some (op,d)):d=jc ops k:=by
  obtain⟨o,h1,_,_,h4⟩:=dX h
  unfold jc
  rw [h1,← h4]
theorem FZ {P:Program} {junk:Nat->Value} {ad:Addr} {u:Value} (h:Ck P N junk ops fr k=some (ad,u)):∃ T a y,fB N junk ops fr k=some (.store T a y,jc ops k)/\(P.info? T).map (·.size)=some 1/\dz N fr junk a=.pointer (some ad)/\dz N fr junk y=u:=by
  unfold Ck at h
  repeat' split at h
  all_goals first|(cases h;done)|skip
  rename_i T a y d h0 _ h1 _ VE h2
  cases h
  have:=vn h0
  subst this
  exact⟨T,a,y,h0,h1,h2,rfl⟩
theorem oP {junk:Nat->Value} {T:TypeId} {b:Nat} {key:Value} (h:Cl N junk ops fr k=some (T,b,key)):∃ a y,fB N junk ops fr k=some (.lookup T a y false,jc ops k)/\dz N fr junk a=.map (some b)/\dz N fr junk y=key:=by
  unfold Cl at h
  repeat' split at h
  all_goals first|(cases h;done)|skip
  rename_i T' a y d h0 _ b' h1
  cases h
  have:=vn h0
  subst this
  exact⟨a,y,h0,h1,rfl⟩
theorem Np {junk:Nat->Value} {T:TypeId} {b:Nat} {key u:Value} (h:setAt N junk ops fr k=some (T,b,key,u)):∃ a y z,fB N junk ops fr k=some (.mapUpdate T a y z,jc ops k)/\dz N fr junk a=.map (some b)/\dz N fr junk y=key/\dz N fr junk z=u:=by
  unfold setAt at h
  repeat' split at h
  all_goals first|(cases h;done)|skip
  rename_i T' a y z d h0 _ b' h1
  cases h
  have:=vn h0
  subst this
  exact⟨a,y,z,h0,h1,rfl,rfl⟩
theorem Lj {P:Program} {T:TypeId} {a y:Operand} {o:Oper} {ev:Operand->Value} {w:World} {ad:Addr} {u v0:Value} (ho:o.op=.store T a y) (hT:(P.info? T).map (·.size)=some 1) (ha:ev a=.pointer (some ad)) (hy:ev y=u) (hu:u.oneCell'=true) (hc:w.cell? ad=some v0) (hf:w.frozen? ad=false) (hs:ad.spot=none):nG P ev o w undef (w.setCell ad u):=by
  obtain⟨inf,hi,hsz⟩:∃ inf,P.info? T=some inf/\inf.size=1:=by
    cases h:P.info? T with
    | none=>rw [h] at hT;cases hT
    | some inf=>rw [h] at hT;exact⟨inf,rfl,by simpa using hT⟩
  have h3:=mT hi w
  rw [hsz] at h3
  obtain⟨dst,op,type,pos,after,guard⟩:=o
  obtain⟨bk,off,spot⟩:=ad
  simp only at hs
  subst hs
  cases ho
  refine .inr ⟨rfl,?_⟩
  cases u<;>first
    | (simp [Value.oneCell'] at hu;done)
    | (simp only [execOp,ha,hy];simp [go_sem,Instr.storeAt,Instr.sureAddr,storeVar,h3,Value.cells,storeCells,store,Addr.add,Sem.run,hc,hf])
theorem Ts (i:Nat) (js:List (Nat×Nat)) (x j:Nat) (f:aV->aV) (u:Value) {kd:Int} (hk:(obj O x).kind=kd)
    (K:∀ O2,O2=aF O x f->aj Tryz.prog β N ops (k+1) (dO fr (jc ops k) undef) ((mW hps (ql O2 L js)).set i (.abs (ax (bM O2 L)))) Q)
    (hp:hps[i]?=some (.abs (ax (bM O L)))) (hj:tU hps O L js)
    (ho:∀ junk,Ck Tryz.prog N junk ops fr k=some (⟨L.b x,j,none⟩,u))
    (hn:jY 0 (js.map (·.2))=false) (h0:kd≠0) (hc:gu L x (f (obj O x))=(gu L x (obj O x)).set j u) (hu:u.oneCell'=true) (h9:j < (gu L x (obj O x)).length)
    (he:(f (obj O x)).ah=(obj O x).ah) (hd:(f (obj O x)).data=(obj O x).data) (Cm:(f (obj O x)).kind=(obj O x).kind):aj Tryz.prog β N ops k fr hps Q:=by
  obtain⟨T,a,y,h1,h2,h3,h4⟩:=FZ (ho (fun _=>undef))
  intro junk w hS
  obtain⟨T,a,y,h1,h2,h3,h4⟩:=FZ (ho junk)
  obtain⟨o,g1,g2,g3,g4⟩:=dX h1
  have hx0:(obj O x).kind≠0:=by rw [hk];exact h0
  have F5:mW hps (ql (aF O x f) L js)=hps:=vm (p:=0) (fun q hq=>by
    match q,hq with
    | 0,hq=>exact absurd rfl hq
    | 1,_=>exact congrArg (fun R=>HP.abs (ax R)) (ng he Cm)
    | q+2,_=>exact congrArg (fun R=>HP.abs (ax R)) (mZ hd Cm)) hj hn
  have hcell:∃ v0,(gu L x (obj O x))[j]?=some v0:=iV h9
  obtain⟨v0,hv0⟩:=hcell
  obtain⟨F,hF⟩:=hS.get hp
  obtain⟨G,hG⟩:=ax.at x hF
  have Tt:=hG
  rw [lg hx0] at Tt
  obtain⟨hb,_⟩:=Tt
  obtain⟨c1,c2⟩:=gI (a:=⟨L.b x,j,none⟩) hb rfl rfl hv0
  have uQ:Sat β (hps.set i (.abs (ax (bM (aF O x f) L)))) (w.setCell ⟨L.b x,j,none⟩ (u)):=hS.set hp (fun F hF=>ax.step (k:=x) (show (ax (bM O L)).h F w from hF) (fun y hy=>uN hy) (fun G hG=>by
    rw [lg hx0] at hG
    rw [uM,if_neg (by rw [Cm];exact hx0),hc,Cm]
    exact sD hG rfl rfl))
  rw [drop_cons g1]
  unfold wpList
  rw [fA,if_pos g2]
  refine .inl (jX (v:=undef) (w':=w.setCell ⟨L.b x,j,none⟩ (u)) (by rw [eS];exact Lj g3 h2 h3 h4 hu c1 c2 rfl) ?_)
  rw [eM]
  have hK:=K _ rfl junk _ (by rw [F5];exact uQ)
  rw [← g4] at hK
  exact hK
theorem sZ (i:Nat) (js:List (Nat×Nat)) (x j:Nat) (f:aV->aV) {kd:Int} (hk:(obj O x).kind=kd)
    (K:∀ O2,O2=aF O x f->aj Tryz.prog β N ops (k+1) (dO fr (jc ops k) undef) ((mW hps (ql O2 L js)).set i (.abs (ax (bM O2 L)))) Q)
    (hp:hps[i]?=some (.abs (ax (bM O L))):=by rfl) (hj:tU hps O L js:=by first|exact⟨rfl,trivial⟩|exact⟨rfl,rfl,trivial⟩|exact trivial)
    (ho:∀ junk,Ck Tryz.prog N junk ops fr k=some (⟨L.b x,j,none⟩,(yU (f (obj O x))).getD j undef):=by intro _;kernel_rfl)
    (hn:jY 0 (js.map (·.2))=false:=by rfl) (h0:kd≠0:=by decide) (hc:gu L x (f (obj O x))=(gu L x (obj O x)).set j ((yU (f (obj O x))).getD j undef):=by rfl) (hu:((yU (f (obj O x))).getD j undef).oneCell'=true:=by rfl) (h9:Nat.blt j 9=true:=by rfl)
    (he:(f (obj O x)).ah=(obj O x).ah:=by rfl) (hd:(f (obj O x)).data=(obj O x).data:=by rfl) (Cm:(f (obj O x)).kind=(obj O x).kind:=by rfl):aj Tryz.prog β N ops k fr hps Q:=
  Ts i js x j f _ hk K hp hj ho hn h0 hc hu (Nat.lt_of_lt_of_le (show j < 9 by simpa [Nat.blt_eq] using h9) (by unfold gu yU;simp)) he hd Cm
theorem Tv (i:Nat) (js:List (Nat×Nat)) (x:Nat) (y:Option Nat) (hk:(obj O x).kind=2)
    (K:∀ O2,O2=aF O x (fun o=>{ o with up:=y })->aj Tryz.prog β N ops (k+1) (dO fr (jc ops k) undef) ((mW hps (ql O2 L js)).set i (.abs (ax (bM O2 L)))) Q)
    (hp:hps[i]?=some (.abs (ax (bM O L))):=by rfl) (hj:tU hps O L js:=by first|exact⟨rfl,trivial⟩|exact⟨rfl,rfl,trivial⟩|exact trivial)
    (ho:∀ junk,Ck Tryz.prog N junk ops fr k=some (⟨L.b x,10,none⟩,uL L y):=by intro _;kernel_rfl) (hn:jY 0 (js.map (·.2))=false:=by rfl):aj Tryz.prog β N ops k fr hps Q:=
  Ts i js x 10 (fun o=>{ o with up:=y }) (uL L y) hk K hp hj ho hn (by decide) (by rw [lp (show ({ obj O x with up:=y }:aV).kind=2 from hk),lp hk];rfl) (by cases y<;>rfl) (by rw [lp hk];exact Nat.lt_succ_self 10) rfl rfl rfl
theorem Sat.OE {w:World} {i j:Nat} {f:aV->aV} {u:Value} (hS:Sat β hps w) (hp:hps[i]?=some (.abs (ax (bM O L)))) (hx0:(obj O x).kind≠0) (hc:gu L x (f (obj O x))=(gu L x (obj O x)).set j u) (Cm:(f (obj O x)).kind=(obj O x).kind) (h9:j < (gu L x (obj O x)).length) :
    Sat β (hps.set i (.abs (ax (bM (aF O x f) L)))) (w.setCell ⟨L.b x,j,none⟩ u)/\(∃ v0,w.cell? ⟨L.b x,j,none⟩=some v0)/\w.frozen? ⟨L.b x,j,none⟩=false:=by
  obtain⟨v0,hv0⟩:=iV h9
  obtain⟨F,hF⟩:=hS.get hp
  obtain⟨G,hG⟩:=ax.at x (show (ax (bM O L)).h F w from hF)
  rw [lg hx0] at hG
  obtain⟨c1,c2⟩:=gI (a:=⟨L.b x,j,none⟩) hG.1 rfl rfl hv0
  refine⟨hS.set hp (fun F hF=>ax.step (k:=x) (show (ax (bM O L)).h F w from hF) (fun y hy=>uN hy) (fun G hG=>?_)),⟨v0,c1⟩,c2⟩
  rw [lg hx0] at hG
  rw [uM,if_neg (by rw [Cm];exact hx0),hc,Cm]
  exact sD hG rfl rfl
def F6 (P:Program) (N:Nat) (junk:Nat->Value) (ops:Array Oper) (fr:Fr) (k:Nat):Option (Addr×Value):=
  match fB N junk ops fr k with
  | some (.store T a y,_)=>match (P.info? T).map (·.size) with
    | some 2=>match dz N fr junk a with
      | .pointer (some ad)=>some (ad,dz N fr junk y)
      | _=>none
    | _=>none
  | _=>none
theorem Lk {P:Program} {junk:Nat->Value} {ad:Addr} {u:Value} (h:F6 P N junk ops fr k=some (ad,u)):∃ T a y,fB N junk ops fr k=some (.store T a y,jc ops k)/\(P.info? T).map (·.size)=some 2/\dz N fr junk a=.pointer (some ad)/\dz N fr junk y=u:=by
  unfold F6 at h
  repeat' split at h
  all_goals first|(cases h;done)|skip
  rename_i T a y d h0 _ h1 _ VE h2
  cases h
  have:=vn h0
  subst this
  exact⟨T,a,y,h0,h1,h2,rfl⟩
theorem JE {P:Program} {T:TypeId} {a y:Operand} {o:Oper} {ev:Operand->Value} {w:World} {b j:Nat} {z1 z2:Int} {v0 v1:Value} (ho:o.op=.store T a y) (hT:(P.info? T).map (·.size)=some 2) (ha:ev a=.pointer (some ⟨b,j,none⟩)) (hy:ev y=.agg #[.int .i64 z1,.int .i64 z2])
    (hc:w.cell? ⟨b,j,none⟩=some v0) (hf:w.frozen? ⟨b,j,none⟩=false) (hc1:(w.setCell ⟨b,j,none⟩ (.int .i64 z1)).cell? ⟨b,j+1,none⟩=some v1) (hf1:(w.setCell ⟨b,j,none⟩ (.int .i64 z1)).frozen? ⟨b,j+1,none⟩=false) :
    nG P ev o w undef ((w.setCell ⟨b,j,none⟩ (.int .i64 z1)).setCell ⟨b,j+1,none⟩ (.int .i64 z2)):=by
  obtain⟨inf,hi,hsz⟩:∃ inf,P.info? T=some inf/\inf.size=2:=by
    cases h:P.info? T with
    | none=>rw [h] at hT;cases hT
    | some inf=>rw [h] at hT;exact⟨inf,rfl,by simpa using hT⟩
  have h3:=mT hi w
  rw [hsz] at h3
  obtain⟨dst,op,type,pos,after,guard⟩:=o
  cases ho
  refine .inr ⟨rfl,?_⟩
  simp only [execOp,ha,hy]
  simp [go_sem,Instr.storeAt,Instr.sureAddr,storeVar,h3,Value.cells,storeCells,store,Addr.add,Sem.run,hc,hf,hc1,hf1]
theorem Ll (i:Nat) (js:List (Nat×Nat)) (x:Nat) (z1 z2:Int) {kd:Int} (hk:(obj O x).kind=kd)
    (K:∀ O2,O2=aF O x (fun o=>{ o with sec:=z1,nano:=z2 })->aj Tryz.prog β N ops (k+1) (dO fr (jc ops k) undef) ((mW hps (ql O2 L js)).set i (.abs (ax (bM O2 L)))) Q)
    (hp:hps[i]?=some (.abs (ax (bM O L))):=by rfl) (hj:tU hps O L js:=by first|exact⟨rfl,trivial⟩|exact⟨rfl,rfl,trivial⟩|exact trivial)
    (ho:∀ junk,F6 Tryz.prog N junk ops fr k=some (⟨L.b x,4,none⟩,.agg #[.int .i64 z1,.int .i64 z2]):=by intro _;kernel_rfl)
    (hn:jY 0 (js.map (·.2))=false:=by rfl) (h0:kd≠0:=by decide):aj Tryz.prog β N ops k fr hps Q:=by
  intro junk w hS
  obtain⟨T,a,y,h1,h2,h3,h4⟩:=Lk (ho junk)
  obtain⟨o,g1,g2,g3,g4⟩:=dX h1
  have hx0:(obj O x).kind≠0:=by rw [hk];exact h0
  have F5:mW hps (ql (aF O x (fun o=>{ o with sec:=z1,nano:=z2 })) L js)=hps:=vm (p:=0) (fun q hq=>by
    match q,hq with
    | 0,hq=>exact absurd rfl hq
    | 1,_=>exact congrArg (fun R=>HP.abs (ax R)) (ng rfl rfl)
    | q+2,_=>exact congrArg (fun R=>HP.abs (ax R)) (mZ rfl rfl)) hj hn
  have hlen:∀ o:aV,9<=(gu L x o).length:=fun o=>by unfold gu yU;simp
  obtain⟨s1,⟨v0,c1⟩,f1⟩:=hS.OE (x:=x) (j:=4) (f:=fun o=>{ o with sec:=z1 }) (u:=.int .i64 z1) hp hx0 rfl rfl (by have:=hlen (obj O x);omega)
  have hi:i < hps.length:=bE hp
  have e1:obj (aF O x (fun o=>{ o with sec:=z1 })) x={ obj O x with sec:=z1 }:=bR
  obtain⟨s2,⟨v1,c2⟩,f2⟩:=s1.OE (x:=x) (j:=5) (f:=fun o=>{ o with nano:=z2 }) (u:=.int .i64 z2) (i:=i) (O:=aF O x (fun o=>{ o with sec:=z1 })) (by rw [List.getElem?_set,if_pos rfl,if_pos hi]) (by rw [e1];exact hx0) rfl rfl (by have:=hlen (obj (aF O x (fun o=>{ o with sec:=z1 })) x);omega)
  rw [List.set_set,tL] at s2
  rw [drop_cons g1]
  unfold wpList
  rw [fA,if_pos g2]
  refine .inl (jX (v:=undef) (w':=_) (by rw [eS];exact JE g3 h2 h3 h4 c1 f1 c2 f2) ?_)
  rw [eM]
  have hK:=K _ rfl junk _ (by rw [F5];exact s2)
  rw [← g4] at hK
  exact hK
theorem zq {w:World} {i:Nat} (hS:Sat β hps w) (hp:hps[i]?=some (.abs (ax (cF O L)))) (hd:(obj O x).kind=2):fJ Tryz.prog 9 w (L.m x) (iG L (obj O x).ah) (obj O x).ah.length:=by
  obtain⟨F,hF⟩:=hS.get hp
  obtain⟨G,hG⟩:=ax.at x (show (ax (cF O L)).h F w from hF)
  rw [oH hd] at hG
  exact hG.1
theorem Ic {w:World} {i:Nat} {o:Oper} {ev:Operand->Value} {a y:Operand} (hS:Sat β hps w) (hp:hps[i]?=some (.abs (ax (cF O L)))) (hd:(obj O x).kind=2) (hl:aX name (obj O x).ah=r) (h3:o.op=.lookup 136 a y false) (ha:ev a=.map (some (L.m x))) (hy:ev y=.string name) (hsz:name.size<=1048576):nG Tryz.prog ev o w (FY L r) w:=by
  have h:=vH (z:=.nilIface) h3 (zq hS hp hd) ha hy Ap Tryz.underlying136 (by kernel_rfl) (CY (by omega))
  rw [sj,hl] at h
  cases r<;>exact h
theorem iA (i:Nat) (hd:(obj O x).kind=2) (hl:aX name (obj O x).ah=r) (K:aj Tryz.prog β N ops (k+1) (dO fr (jc ops k) (FY L r)) hps Q) (hp:hps[i]?=some (.abs (ax (cF O L))):=by rfl)
    (ho:∀ junk,Cl N junk ops fr k=some (136,L.m x,.string name):=by intro _;kernel_rfl) (hsz:name.size<=1048576:=by omega):aj Tryz.prog β N ops k fr hps Q:=by
  intro junk w hS
  obtain⟨a,y,h1,h2,h3⟩:=oP (ho junk)
  exact aj.ja (cR:=hps) (v:=FY L r) (d:=jc ops k) (op:=.lookup 136 a y false) (fun j=>by
    obtain⟨a',y',h1',_,_⟩:=oP (ho j)
    obtain⟨o,g1,g2,g3,g4⟩:=dX h1
    obtain⟨o',qU,Lm,s5,Ln⟩:=dX h1'
    rw [g1] at qU
    cases qU
    rw [g3] at s5
    cases s5
    exact h1') (fun o junk w ho' hS=>by
    obtain⟨a',y',h1',h2',h3'⟩:=oP (ho junk)
    obtain⟨o1,g1,g2,g3,g4⟩:=dX h1
    obtain⟨o',qU,Lm,s5,Ln⟩:=dX h1'
    rw [g1] at qU
    cases qU
    rw [g3] at s5
    cases s5
    exact⟨w,Ic hS hp hd hl ho' h2' h3' hsz,hS⟩) K junk w hS
theorem rJ (i:Nat) (hd:(obj O x).kind=2) (hl:aX name (obj O x).ah=r) (K:aS Tryz.prog β N ops (k+1) (dO fr (jc ops k) (FY L r)) hps Q) (hp:hps[i]?=some (.abs (ax (cF O L))):=by rfl)
    (ho:∀ junk,Cl N junk ops fr k=some (136,L.m x,.string name):=by intro _;kernel_rfl) (hsz:name.size<=1048576:=by omega):aS Tryz.prog β N ops k fr hps Q:=by
  intro junk
  obtain⟨a,y,h1,h2,h3⟩:=oP (ho junk)
  exact aS.ja (v:=FY L r) (d:=jc ops k) (op:=.lookup 136 a y false) (fun j=>by
    obtain⟨a',y',h1',_,_⟩:=oP (ho j)
    obtain⟨o,g1,g2,g3,g4⟩:=dX h1
    obtain⟨o',qU,Lm,s5,Ln⟩:=dX h1'
    rw [g1] at qU
    cases qU
    rw [g3] at s5
    cases s5
    exact h1') (fun o junk w ho' hS=>by
    obtain⟨a',y',h1',h2',h3'⟩:=oP (ho junk)
    obtain⟨o1,g1,g2,g3,g4⟩:=dX h1
    obtain⟨o',qU,Lm,s5,Ln⟩:=dX h1'
    rw [g1] at qU
    cases qU
    rw [g3] at s5
    cases s5
    exact Ic hS hp hd hl ho' h2' h3' hsz) K junk
def JF (N:Nat) (junk:Nat->Value) (ops:Array Oper) (fr:Fr) (k:Nat):Option (TypeId×Nat):=
  match fB N junk ops fr k with
  | some (.call ⟨.builtin .len,xs,ts⟩,_)=>match xs.toList with
    | [x]=>match ts.toList with
      | [t]=>match dz N fr junk x with
        | .map (some b)=>some (t,b)
        | _=>none
      | _=>none
    | _=>none
  | _=>none
theorem AX {junk:Nat->Value} {T:TypeId} {b:Nat} (h:JF N junk ops fr k=some (T,b)):∃ a,fB N junk ops fr k=some (.call ⟨.builtin .len,#[a],#[T]⟩,jc ops k)/\dz N fr junk a=.map (some b):=by
  unfold JF at h
  repeat' split at h
  all_goals first|(cases h;done)|skip
  rename_i xs ts d h0 _ a h1 _ t' h2 _ b' h3
  cases h
  have:=vn h0
  subst this
  refine⟨a,?_,h3⟩
  rw [h0]
  obtain⟨xs⟩:=xs
  obtain⟨ts⟩:=ts
  cases h1
  cases h2
  rfl
theorem VF (i:Nat) (hd:(obj O x).kind=2) (K:aj Tryz.prog β N ops (k+1) (dO fr (jc ops k) (.int .i64 (((obj O x).ah.length:Nat):Int))) hps Q) (hp:hps[i]?=some (.abs (ax (cF O L))):=by rfl)
    (ho:∀ junk,JF N junk ops fr k=some (136,L.m x):=by intro _;kernel_rfl):aj Tryz.prog β N ops k fr hps Q:=by
  obtain⟨a,h1,h2⟩:=AX (ho (fun _=>undef))
  obtain⟨o,g1,g2,g3,g4⟩:=dX h1
  refine aj.ja (cR:=hps) (v:=.int .i64 (((obj O x).ah.length:Nat):Int)) (d:=jc ops k) (op:=o.op) (fun j=>?_) (fun o' junk w ho' hS=>?_) K
  ·obtain⟨a',h1',_⟩:=AX (ho j)
   obtain⟨o',qU,Lm,s5,Ln⟩:=dX h1'
   rw [g1] at qU
   cases qU
   rw [s5]
   exact h1'
  obtain⟨a',h1',h2'⟩:=AX (ho junk)
  obtain⟨o1,qU,Lm,s5,Ln⟩:=dX h1'
  rw [g1] at qU
  cases qU
  exact⟨w,yQ (ho'.trans s5) rfl (zq hS hp hd) h2' Tryz.underlying136,hS⟩
theorem Rl (i:Nat) (js:List (Nat×Nat)) {t:Th} (hd:(obj O x).kind=2) (hno:aX name (obj O x).ah=none)
    (K:∀ O2,O2=aF O x (fun o=>{ o with ah:=gS name t o.ah })->aj Tryz.prog β N ops (k+1) (dO fr (jc ops k) undef) ((mW hps (ql O2 L js)).set i (.abs (ax (cF O2 L)))) Q)
    (hp:hps[i]?=some (.abs (ax (cF O L))):=by rfl) (hj:tU hps O L js:=by first|exact⟨rfl,trivial⟩|exact⟨rfl,rfl,trivial⟩|exact trivial)
    (ho:∀ junk,setAt N junk ops fr k=some (136,L.m x,.string name,dQ L t):=by intro _;kernel_rfl) (hn:jY 1 (js.map (·.2))=false:=by rfl) (hsz:name.size<=1048576:=by omega) (hel:(obj O x).ah.length<=1048576:=by omega):aj Tryz.prog β N ops k fr hps Q:=by
  intro junk w hS
  obtain⟨a,y,z,h1,h2,h3,h4⟩:=Np (ho junk)
  obtain⟨o,g1,g2,g3,g4⟩:=dX h1
  have F5:mW hps (ql (aF O x (fun o=>{ o with ah:=gS name t o.ah })) L js)=hps:=vm (p:=1) (fun q hq=>by
    match q,hq with
    | 0,_=>exact congrArg (fun R=>HP.abs (ax R)) (Fl (es:=fun o=>gS name t o.ah))
    | 1,hq=>exact absurd rfl hq
    | q+2,_=>exact congrArg (fun R=>HP.abs (ax R)) (mZ rfl rfl)) hj hn
  obtain⟨w',m1,m2,m3⟩:=(zq hS hp hd).store Ap Tryz.underlying136 (by unfold maxLen;omega) (CY (p:=name) (by omega)) (dQ L t)
  have e1:(iG L (obj O x).ah) (.string name.data.toList)=none:=by rw [sj,hno];rfl
  rw [e1,Mr hno] at m2
  have uQ:Sat β (hps.set i (.abs (ax (cF (aF O x (fun o=>{ o with ah:=gS name t o.ah })) L)))) w':=hS.set hp (fun F hF=>ax.step (k:=x) (show (ax (cF O L)).h F w from hF) (fun y hy=>xE hy) (fun G hG=>by
    rw [oH hd] at hG
    rw [oH (by rw [bR];exact hd),bR,Fk]
    exact step_map hG m2 m3))
  rw [drop_cons g1]
  unfold wpList
  rw [fA,if_pos g2]
  refine .inl (jX (v:=undef) (w':=w') (by
    rw [eS]
    refine .inr ⟨rfl,?_⟩
    obtain⟨dst,op,type,pos,after,guard⟩:=o
    cases g3
    simp only [execOp,h2,h3,h4]
    simp [go_sem,m1]) ?_)
  rw [eM]
  have hK:=K _ rfl junk _ (by rw [F5];exact uQ)
  rw [← g4] at hK
  exact hK
theorem Nq {junk:Nat->Value} {T K0:TypeId} {b:Nat} {key:Value} (h:JD N junk ops fr k=some (T,K0,b,key)):∃ a y,fB N junk ops fr k=some (.call ⟨.builtin .delete,#[a,y],#[T,K0]⟩,jc ops k)/\dz N fr junk a=.map (some b)/\dz N fr junk y=key:=by
  unfold JD at h
  repeat' split at h
  all_goals first|(cases h;done)|skip
  rename_i xs ts d h0 _ a y h1 _ t' K' h2 _ b' h3
  cases h
  have:=vn h0
  subst this
  refine⟨a,y,?_,h3,rfl⟩
  rw [h0]
  obtain⟨xs⟩:=xs
  obtain⟨ts⟩:=ts
  cases h1
  cases h2
  rfl
theorem Rm (i:Nat) (js:List (Nat×Nat)) {t:Th} (hd:(obj O x).kind=2) (wz:aX name (obj O x).ah=some t) (hnt:oG (obj O x).ah)
    (K:∀ O2,O2=aF O x (fun o=>{ o with ah:=gq name o.ah })->aj Tryz.prog β N ops (k+1) (dO fr (jc ops k) (.tuple #[])) ((mW hps (ql O2 L js)).set i (.abs (ax (cF O2 L)))) Q)
    (hp:hps[i]?=some (.abs (ax (cF O L))):=by rfl) (hj:tU hps O L js:=by first|exact⟨rfl,trivial⟩|exact⟨rfl,rfl,trivial⟩|exact trivial)
    (ho:∀ junk,JD N junk ops fr k=some (136,9,L.m x,.string name):=by intro _;kernel_rfl) (hn:jY 1 (js.map (·.2))=false:=by rfl) (hsz:name.size<=1048576:=by omega):aj Tryz.prog β N ops k fr hps Q:=by
  intro junk w hS
  obtain⟨a,y,h1,h2,h3⟩:=Nq (ho junk)
  obtain⟨o,g1,g2,g3,g4⟩:=dX h1
  have F5:mW hps (ql (aF O x (fun o=>{ o with ah:=gq name o.ah })) L js)=hps:=vm (p:=1) (fun q hq=>by
    match q,hq with
    | 0,_=>exact congrArg (fun R=>HP.abs (ax R)) (Fl (es:=fun o=>gq name o.ah))
    | 1,hq=>exact absurd rfl hq
    | q+2,_=>exact congrArg (fun R=>HP.abs (ax R)) (mZ rfl rfl)) hj hn
  obtain⟨w',m1,m2,m3⟩:=(zq hS hp hd).drop Ap Tryz.underlying136 (CY (p:=name) (by omega)) o.type
  have e1:(iG L (obj O x).ah) (.string name.data.toList)=some (dQ L t):=by rw [sj,wz];rfl
  rw [e1,Ms] at m2
  have hlen:=Mq hnt wz
  have uQ:Sat β (hps.set i (.abs (ax (cF (aF O x (fun o=>{ o with ah:=gq name o.ah })) L)))) w':=hS.set hp (fun F hF=>ax.step (k:=x) (show (ax (cF O L)).h F w from hF) (fun y hy=>xE hy) (fun G hG=>by
    rw [oH hd] at hG
    rw [oH (by rw [bR];exact hd),bR]
    rw [show (gq name (obj O x).ah).length=(obj O x).ah.length - 1 by omega]
    exact step_map hG m2 m3))
  rw [drop_cons g1]
  unfold wpList
  rw [fA,if_pos g2]
  refine .inl (jX (v:=.tuple #[]) (w':=w') (by
    rw [eS]
    refine .inl ?_
    obtain⟨dst,op,type,pos,after,guard⟩:=o
    cases g3
    simp only [execOp,resolve,invoke,builtin]
    simp [go_sem,h2,h3,m1]) ?_)
  rw [eM]
  have hK:=K _ rfl junk _ (by rw [F5];exact uQ)
  rw [← g4] at hK
  exact hK
end rules
section after
variable {O O2:cg} {j x:Nat} {f:aV->aV} {kd:Int}
theorem ku (e:O2=aF O j f) (h:(obj O x).kind=kd) (hf:∀ o,(f o).kind=o.kind:=by intro _;rfl):(obj O2 x).kind=kd:=by subst e;exact (jJ hf).trans h
theorem fu {α:Type} (g:aV->α) {v:α} (e:O2=aF O j f) (h:g (obj O x)=v) (hf:∀ o,g (f o)=g o:=by intro _;rfl):g (obj O2 x)=v:=by subst e;exact (dR hf).trans h
end after
end
section
open Go.RowKit Go.Maps
attribute [local irreducible] aj aS af ai
theorem dw {β:Bs} (b:Nat):Spec Tryz.prog β 251 #[vP b] [] (fun v l=>v=vP b/\l=[]):=by
 refine Spec.enter Tryz.func251 rfl Tryz.ntmps251 (Nat.le_of_ble_eq_true rfl) (fun R=>?_)
 refine SR (gK 1 [] [] ?_)
 refine NS (gK 2 [(2,vP b)] [] ?_)
 refine NN (af.ret ?_)
 exact RT (vP b) [0] (⟨rfl,rfl⟩)
theorem mJ {β:Bs} (a:Value):Spec Tryz.prog β 250 #[a] [] (fun v l=>v=vI 1/\l=[]):=by
 refine Spec.enter Tryz.func250 rfl Tryz.ntmps250 (Nat.le_of_ble_eq_true rfl) (fun R=>?_)
 refine SR (gK 1 [] [] ?_)
 refine NS (gK 1 [(2,vI 1)] [] ?_)
 refine NN (af.ret ?_)
 exact RT (vI 1) [0] (⟨rfl,rfl⟩)
theorem mK {β:Bs} (a:Value):Spec Tryz.prog β 253 #[a] [] (fun v l=>v=vI 2/\l=[]):=by
 refine Spec.enter Tryz.func253 rfl Tryz.ntmps253 (Nat.le_of_ble_eq_true rfl) (fun R=>?_)
 refine SR (gK 1 [] [] ?_)
 refine NS (gK 1 [(2,vI 2)] [] ?_)
 refine NN (af.ret ?_)
 exact RT (vI 2) [0] (⟨rfl,rfl⟩)
theorem oo {β:Bs} (a:Value):Spec Tryz.prog β 252 #[a] [] (fun v l=>v=vI 3/\l=[]):=by
 refine Spec.enter Tryz.func252 rfl Tryz.ntmps252 (Nat.le_of_ble_eq_true rfl) (fun R=>?_)
 refine SR (gK 1 [] [] ?_)
 refine NS (gK 1 [(2,vI 3)] [] ?_)
 refine NN (af.ret ?_)
 exact RT (vI 3) [0] (⟨rfl,rfl⟩)
theorem Ie {β:Bs} (O:cg) (L:HL) (d:Nat) (hkd:(obj O d).kind=2) (name:ByteArray) (hsz:name.size<=1048576) (hno:aX name (obj O d).ah=none) (hel:(obj O d).ah.length<=1048576) (t:Th) (hkt:(obj O t.k).kind=t.kind) (h3:t.kind=1\/t.kind=2\/t.kind=3) (hb:0<=(obj O t.k).links/\(obj O t.k).links<=1048576) :
    Spec Tryz.prog β 63 #[vP (L.b d),.string name,(dQ L t)] [.abs (ax (bM O L)),.abs (ax (cF O L))] (fun v l=>v=.tuple #[]/\l=[.abs (ax (bM (o5 O d name t) L)),.abs (ax (cF (o5 O d name t) L))]):=by
 refine Spec.enter Tryz.func63 rfl Tryz.ntmps63 (Nat.le_of_ble_eq_true rfl) (fun R=>?_)
 refine af.seq ?_
 obtain⟨tk,kd⟩:=t;simp only at hkt h3;rcases h3 with rfl|rfl|rfl
 ·replace hkt:(obj O tk).kind=1:=hkt
  replace hb:0<=(obj O tk).links/\(obj O tk).links<=1048576:=hb
  refine af.region (gK 6 [(11,.map (some (L.m d))),(12,.string name),(13,.iface 129 (vP (L.b tk)))] [(3,v_ 0 (bD L hkd))] ?_)
  refine Rl 1 [(0,0)] (t:=⟨tk,1⟩) hkd hno (fun cK ct=>?_)
  have jU:=ku ct hkd
  have mM:=ku ct hkt
  have hf3:(obj cK tk).links=(obj O tk).links:=fu aV.links ct rfl
  refine NS (gK 1 [(14,.iface 129 (vP (L.b tk)))] [] ?_)
  refine gL [] (dw (L.b tk)) ?_
  rintro _ _ ⟨rfl,rfl⟩
  refine gK 6 [(19,vI ((obj cK tk).links+1)),(21,.pointer (some ⟨(L.b tk),6,none⟩))] [(2,v_ 0 (ny L mM)),(3,p_ ⟨[],none,none,none,some (vI ((obj cK tk).links+1))⟩ [(Value.int .i64 (IntKind.wrap .i64 ((obj cK tk).links+1)))=(.int .i64 ((obj cK tk).links+1))] ⟨bA (by omega) (by omega) (by omega),trivial⟩)] ?_
  refine sZ 0 [(1,1)] tk 6 (fun o=>{ o with links:=o.links+1 }) mM (fun ef dx=>?_)
  have ye:=ku dx jU
  have yg:=ku dx mM
  refine NS (gK 7 [(6,.pointer none),(7,.bool false)] [] ?_)
  refine NS (gK 1 [(27,.bool false)] [] ?_)
  refine NN (CF (af.skip ?_))
  exact RF (l:=[.abs (ax (bM ef L)),.abs (ax (cF ef L))]) (.tuple #[]) [0,1,2] (⟨rfl,by subst dx;subst ct;rfl⟩)
 ·replace hkt:(obj O tk).kind=2:=hkt
  replace hb:0<=(obj O tk).links/\(obj O tk).links<=1048576:=hb
  refine af.region (gK 6 [(11,.map (some (L.m d))),(12,.string name),(13,.iface 135 (vP (L.b tk)))] [(3,v_ 0 (bD L hkd))] ?_)
  refine Rl 1 [(0,0)] (t:=⟨tk,2⟩) hkd hno (fun cK ct=>?_)
  have Nr:=ku ct hkd
  have JG:=ku ct hkt
  have Xe:(obj cK tk).links=(obj O tk).links:=fu aV.links ct rfl
  refine NS (gK 1 [(14,.iface 135 (vP (L.b tk)))] [] ?_)
  refine gL [] (dw (L.b tk)) ?_
  rintro _ _ ⟨rfl,rfl⟩
  refine gK 6 [(19,vI ((obj cK tk).links+1)),(21,.pointer (some ⟨(L.b tk),6,none⟩))] [(2,v_ 0 (ny L JG)),(3,p_ ⟨[],none,none,none,some (vI ((obj cK tk).links+1))⟩ [(Value.int .i64 (IntKind.wrap .i64 ((obj cK tk).links+1)))=(.int .i64 ((obj cK tk).links+1))] ⟨bA (by omega) (by omega) (by omega),trivial⟩)] ?_
  refine sZ 0 [(1,1)] tk 6 (fun o=>{ o with links:=o.links+1 }) JG (fun ef dx=>?_)
  have Dl:=ku dx Nr
  have JH:=ku dx JG
  refine NS (gK 7 [(6,vP (L.b tk)),(7,.bool true)] [] ?_)
  refine NS (gK 1 [(27,.bool true)] [] ?_)
  refine NN (CT (af.region (gK 4 [(29,vP (L.b d)),(31,.pointer (some ⟨(L.b tk),10,none⟩))] [] ?_)))
  refine Tv 0 [(1,1)] tk (some d) JH (fun vo lY=>?_)
  have OG:=ku lY Dl
  have Wq:=ku lY JH
  refine NL ?_
  exact RF (l:=[.abs (ax (bM vo L)),.abs (ax (cF vo L))]) (.tuple #[]) [0,1,2] (⟨rfl,by subst lY;subst dx;subst ct;rfl⟩)
 replace hkt:(obj O tk).kind=3:=hkt
 replace hb:0<=(obj O tk).links/\(obj O tk).links<=1048576:=hb
 refine af.region (gK 6 [(11,.map (some (L.m d))),(12,.string name),(13,.iface 132 (vP (L.b tk)))] [(3,v_ 0 (bD L hkd))] ?_)
 refine Rl 1 [(0,0)] (t:=⟨tk,3⟩) hkd hno (fun cK ct=>?_)
 have SW:=ku ct hkd
 have JI:=ku ct hkt
 have WH:(obj cK tk).links=(obj O tk).links:=fu aV.links ct rfl
 refine NS (gK 1 [(14,.iface 132 (vP (L.b tk)))] [] ?_)
 refine gL [] (dw (L.b tk)) ?_
 rintro _ _ ⟨rfl,rfl⟩
 refine gK 6 [(19,vI ((obj cK tk).links+1)),(21,.pointer (some ⟨(L.b tk),6,none⟩))] [(2,v_ 0 (ny L JI)),(3,p_ ⟨[],none,none,none,some (vI ((obj cK tk).links+1))⟩ [(Value.int .i64 (IntKind.wrap .i64 ((obj cK tk).links+1)))=(.int .i64 ((obj cK tk).links+1))] ⟨bA (by omega) (by omega) (by omega),trivial⟩)] ?_
 refine sZ 0 [(1,1)] tk 6 (fun o=>{ o with links:=o.links+1 }) JI (fun ef dx=>?_)
 have Cn:=ku dx SW
 have SX:=ku dx JI
 refine NS (gK 7 [(6,.pointer none),(7,.bool false)] [] ?_)
 refine NS (gK 1 [(27,.bool false)] [] ?_)
 refine NN (CF (af.skip ?_))
 exact RF (l:=[.abs (ax (bM ef L)),.abs (ax (cF ef L))]) (.tuple #[]) [0,1,2] (⟨rfl,by subst dx;subst ct;rfl⟩)
theorem iE {β:Bs} (X:FM) (f m t:Nat) (hX:0<=X.ah/\X.ah<=1048576/\-1125899906842624<=X.used/\X.used<=1125899906842624/\0<=X.last/\X.last<=1125899906842624) (O:cg) (L:HL) (d:Nat) (hkd:(obj O d).kind=2) (name:ByteArray) (hsz:name.size<=1048576) (hno:aX name (obj O d).ah=none) (hel:(obj O d).ah.length<=1048576) (th:Th) (hkt:(obj O th.k).kind=th.kind) (h3:th.kind=1\/th.kind=2\/th.kind=3) (hb:0<=(obj O th.k).links/\(obj O th.k).links<=1048576) :
    Spec Tryz.prog β 130 #[vP f,vP (L.b d),.string name,(dQ L th)] [.blk f [vI (X.cN),vI (X.cB),vI (X.cH),vI (X.cS),vI (X.cZ),.map (some m),vP t,vI (X.last),vI (X.ah),vI (X.used)] 126,.abs (ax (bM O L)),.abs (ax (cF O L))] (fun v l=>v=.tuple #[]/\l=[.blk f [vI (X.cN),vI (X.cB),vI (X.cH),vI (X.cS),vI (X.cZ),.map (some m),vP t,vI (X.last),vI (X.ah+1),vI (X.used)] 126,.abs (ax (bM (di X O d name th) L)),.abs (ax (cF (di X O d name th) L))]):=by
 refine Spec.enter Tryz.func130 rfl Tryz.ntmps130 (Nat.le_of_ble_eq_true rfl) (fun R=>?_)
 refine af.seq ?_
 skip
 refine af.region (gK 3 [(8,vP (L.b d)),(9,.string name),(10,(dQ L th))] [] ?_)
 refine gL [1,2] (Ie O L d hkd name hsz hno hel th hkt h3 hb) ?_
 rintro _ _ ⟨rfl,rfl⟩
 refine NS ?_
 have Co:(obj (o5 O d name th) d).kind=2:=(xI).trans (hkd)
 generalize ct:(o5 O d name th)=cK at Co ⊢
 refine gK 9 [(17,.agg #[vI (X.cS),vI (X.cZ)]),(20,.pointer (some ⟨(L.b d),4,none⟩))] [(5,A_ 2 f 2)] ?_
 refine Ll 0 [(1,1)] d X.cS X.cZ Co (fun ef dx=>?_)
 have Wr:=ku dx Co
 refine NN (af.region (gC 8 [] [(3,a_ 2 f),(4,p_ ⟨[],none,none,none,some (vI (X.ah+1))⟩ [(Value.int .i64 (IntKind.wrap .i64 (X.ah+1)))=(.int .i64 (X.ah+1))] ⟨bA (by omega) (by omega) (by omega),trivial⟩),(7,a_ 2 f)] [(2,[(8,vI (X.ah+1))])] ?_))
 refine NL ?_
 exact RF (l:=[.blk f [vI (X.cN),vI (X.cB),vI (X.cH),vI (X.cS),vI (X.cZ),.map (some m),vP t,vI (X.last),vI (X.ah+1),vI (X.used)] 126,.abs (ax (bM ef L)),.abs (ax (cF ef L))]) (.tuple #[]) [2,0,1,3] (⟨rfl,by subst dx;subst ct;rfl⟩)
theorem jC {β:Bs} (X:FM) (f m t:Nat) (hX:0<=X.ah/\X.ah<=1048576/\-1125899906842624<=X.used/\X.used<=1125899906842624/\0<=X.last/\X.last<=1125899906842624) (O:cg) (L:HL) (d:Nat) (hkd:(obj O d).kind=2) (name:ByteArray) (hsz:name.size<=1048576) (th:Th) (hkt:(obj O th.k).kind=th.kind) (h3:th.kind=1\/th.kind=2\/th.kind=3) (wz:aX name (obj O d).ah=some th) (hnt:oG (obj O d).ah) (_:(obj O d).ah.length<=1048576) (hb:0<=(obj O th.k).links/\(obj O th.k).links<=1048576) :
    Spec Tryz.prog β 170 #[vP f,vP (L.b d),.string name] [.blk f [vI (X.cN),vI (X.cB),vI (X.cH),vI (X.cS),vI (X.cZ),.map (some m),vP t,vI (X.last),vI (X.ah),vI (X.used)] 126,.abs (ax (bM O L)),.abs (ax (cF O L))] (fun v l=>v=dQ L th/\l=[.blk f [vI (X.cN),vI (X.cB),vI (X.cH),vI (X.cS),vI (X.cZ),.map (some m),vP t,vI (X.last),vI (X.ah - 1),vI (X.used)] 126,.abs (ax (bM (aT X O d name th) L)),.abs (ax (cF (aT X O d name th) L))]):=by
 refine Spec.enter Tryz.func170 rfl Tryz.ntmps170 (Nat.le_of_ble_eq_true rfl) (fun R=>?_)
 refine af.seq ?_
 obtain⟨tk,kd⟩:=th;simp only at hkt h3;rcases h3 with rfl|rfl|rfl
 ·replace hkt:(obj O tk).kind=1:=hkt
  replace hb:0<=(obj O tk).links/\(obj O tk).links<=1048576:=hb
  refine af.region (gK 1 [] [] ?_)
  refine NS (gK 5 [(11,.map (some (L.m d))),(12,.string name)] [(3,v_ 1 (bD L hkd))] ?_)
  refine iA 2 hkd wz ?_
  refine gK 1 [(7,.iface 129 (vP (L.b tk)))] [] ?_
  refine NS (gK 5 [(17,.map (some (L.m d))),(18,.string name)] [(3,v_ 1 (bD L hkd))] ?_)
  refine Rm 2 [(1,0)] hkd wz hnt (fun cK ct=>?_)
  have OI:=ku ct hkd
  have SY:=ku ct hkt
  have UK:(obj cK tk).links=(obj O tk).links:=fu aV.links ct rfl
  refine NS (gK 9 [(24,.agg #[vI (X.cS),vI (X.cZ)]),(27,.pointer (some ⟨(L.b d),4,none⟩))] [(5,A_ 0 f 2)] ?_)
  refine Ll 1 [(2,1)] d X.cS X.cZ OI (fun ef dx=>?_)
  have OJ:=ku dx OI
  have EO:=ku dx SY
  have WI:(obj ef tk).links=(obj O tk).links:=fu aV.links dx UK
  refine NS (gC 8 [] [(3,a_ 0 f),(4,p_ ⟨[],none,none,none,some (vI (X.ah - 1))⟩ [(Value.int .i64 (IntKind.wrap .i64 (X.ah - 1)))=(.int .i64 (X.ah - 1))] ⟨bA (by omega) (by omega) (by omega),trivial⟩),(7,a_ 0 f)] [(0,[(8,vI (X.ah - 1))])] ?_)
  refine NS (gK 1 [(35,.iface 129 (vP (L.b tk)))] [] ?_)
  refine gL [] (dw (L.b tk)) ?_
  rintro _ _ ⟨rfl,rfl⟩
  refine gK 6 [(40,vI ((obj ef tk).links - 1)),(42,.pointer (some ⟨(L.b tk),6,none⟩))] [(2,v_ 1 (ny L EO)),(3,p_ ⟨[],none,none,none,some (vI ((obj ef tk).links - 1))⟩ [(Value.int .i64 (IntKind.wrap .i64 ((obj ef tk).links - 1)))=(.int .i64 ((obj ef tk).links - 1))] ⟨bA (by omega) (by omega) (by omega),trivial⟩)] ?_
  refine sZ 1 [(2,1)] tk 6 (fun o=>{ o with links:=o.links - 1 }) EO (fun vo lY=>?_)
  have Ws:=ku lY OJ
  have Wt:=ku lY EO
  refine NS (gK 2 [(6,.iface 129 (vP (L.b tk)))] [] ?_)
  refine NN (af.ret ?_)
  exact RT (l:=[.blk f [vI (X.cN),vI (X.cB),vI (X.cH),vI (X.cS),vI (X.cZ),.map (some m),vP t,vI (X.last),vI (X.ah - 1),vI (X.used)] 126,.abs (ax (bM vo L)),.abs (ax (cF vo L))]) (.iface 129 (vP (L.b tk))) [0,1,2,3] (⟨rfl,by subst lY;subst dx;subst ct;rfl⟩)
 ·replace hkt:(obj O tk).kind=2:=hkt
  replace hb:0<=(obj O tk).links/\(obj O tk).links<=1048576:=hb
  refine af.region (gK 1 [] [] ?_)
  refine NS (gK 5 [(11,.map (some (L.m d))),(12,.string name)] [(3,v_ 1 (bD L hkd))] ?_)
  refine iA 2 hkd wz ?_
  refine gK 1 [(7,.iface 135 (vP (L.b tk)))] [] ?_
  refine NS (gK 5 [(17,.map (some (L.m d))),(18,.string name)] [(3,v_ 1 (bD L hkd))] ?_)
  refine Rm 2 [(1,0)] hkd wz hnt (fun cK ct=>?_)
  have OL:=ku ct hkd
  have SZ:=ku ct hkt
  have UL:(obj cK tk).links=(obj O tk).links:=fu aV.links ct rfl
  refine NS (gK 9 [(24,.agg #[vI (X.cS),vI (X.cZ)]),(27,.pointer (some ⟨(L.b d),4,none⟩))] [(5,A_ 0 f 2)] ?_)
  refine Ll 1 [(2,1)] d X.cS X.cZ OL (fun ef dx=>?_)
  have S5:=ku dx OL
  have JJ:=ku dx SZ
  have WJ:(obj ef tk).links=(obj O tk).links:=fu aV.links dx UL
  refine NS (gC 8 [] [(3,a_ 0 f),(4,p_ ⟨[],none,none,none,some (vI (X.ah - 1))⟩ [(Value.int .i64 (IntKind.wrap .i64 (X.ah - 1)))=(.int .i64 (X.ah - 1))] ⟨bA (by omega) (by omega) (by omega),trivial⟩),(7,a_ 0 f)] [(0,[(8,vI (X.ah - 1))])] ?_)
  refine NS (gK 1 [(35,.iface 135 (vP (L.b tk)))] [] ?_)
  refine gL [] (dw (L.b tk)) ?_
  rintro _ _ ⟨rfl,rfl⟩
  refine gK 6 [(40,vI ((obj ef tk).links - 1)),(42,.pointer (some ⟨(L.b tk),6,none⟩))] [(2,v_ 1 (ny L JJ)),(3,p_ ⟨[],none,none,none,some (vI ((obj ef tk).links - 1))⟩ [(Value.int .i64 (IntKind.wrap .i64 ((obj ef tk).links - 1)))=(.int .i64 ((obj ef tk).links - 1))] ⟨bA (by omega) (by omega) (by omega),trivial⟩)] ?_
  refine sZ 1 [(2,1)] tk 6 (fun o=>{ o with links:=o.links - 1 }) JJ (fun vo lY=>?_)
  have Wu:=ku lY S5
  have Wv:=ku lY JJ
  refine NS (gK 2 [(6,.iface 135 (vP (L.b tk)))] [] ?_)
  refine NN (af.ret ?_)
  exact RT (l:=[.blk f [vI (X.cN),vI (X.cB),vI (X.cH),vI (X.cS),vI (X.cZ),.map (some m),vP t,vI (X.last),vI (X.ah - 1),vI (X.used)] 126,.abs (ax (bM vo L)),.abs (ax (cF vo L))]) (.iface 135 (vP (L.b tk))) [0,1,2,3] (⟨rfl,by subst lY;subst dx;subst ct;rfl⟩)
 replace hkt:(obj O tk).kind=3:=hkt
 replace hb:0<=(obj O tk).links/\(obj O tk).links<=1048576:=hb
 refine af.region (gK 1 [] [] ?_)
 refine NS (gK 5 [(11,.map (some (L.m d))),(12,.string name)] [(3,v_ 1 (bD L hkd))] ?_)
 refine iA 2 hkd wz ?_
 refine gK 1 [(7,.iface 132 (vP (L.b tk)))] [] ?_
 refine NS (gK 5 [(17,.map (some (L.m d))),(18,.string name)] [(3,v_ 1 (bD L hkd))] ?_)
 refine Rm 2 [(1,0)] hkd wz hnt (fun cK ct=>?_)
 have OM:=ku ct hkd
 have S6:=ku ct hkt
 have UM:(obj cK tk).links=(obj O tk).links:=fu aV.links ct rfl
 refine NS (gK 9 [(24,.agg #[vI (X.cS),vI (X.cZ)]),(27,.pointer (some ⟨(L.b d),4,none⟩))] [(5,A_ 0 f 2)] ?_)
 refine Ll 1 [(2,1)] d X.cS X.cZ OM (fun ef dx=>?_)
 have S7:=ku dx OM
 have JK:=ku dx S6
 have WK:(obj ef tk).links=(obj O tk).links:=fu aV.links dx UM
 refine NS (gC 8 [] [(3,a_ 0 f),(4,p_ ⟨[],none,none,none,some (vI (X.ah - 1))⟩ [(Value.int .i64 (IntKind.wrap .i64 (X.ah - 1)))=(.int .i64 (X.ah - 1))] ⟨bA (by omega) (by omega) (by omega),trivial⟩),(7,a_ 0 f)] [(0,[(8,vI (X.ah - 1))])] ?_)
 refine NS (gK 1 [(35,.iface 132 (vP (L.b tk)))] [] ?_)
 refine gL [] (dw (L.b tk)) ?_
 rintro _ _ ⟨rfl,rfl⟩
 refine gK 6 [(40,vI ((obj ef tk).links - 1)),(42,.pointer (some ⟨(L.b tk),6,none⟩))] [(2,v_ 1 (ny L JK)),(3,p_ ⟨[],none,none,none,some (vI ((obj ef tk).links - 1))⟩ [(Value.int .i64 (IntKind.wrap .i64 ((obj ef tk).links - 1)))=(.int .i64 ((obj ef tk).links - 1))] ⟨bA (by omega) (by omega) (by omega),trivial⟩)] ?_
 refine sZ 1 [(2,1)] tk 6 (fun o=>{ o with links:=o.links - 1 }) JK (fun vo lY=>?_)
 have Ww:=ku lY S7
 have Wx:=ku lY JK
 refine NS (gK 2 [(6,.iface 132 (vP (L.b tk)))] [] ?_)
 refine NN (af.ret ?_)
 exact RT (l:=[.blk f [vI (X.cN),vI (X.cB),vI (X.cH),vI (X.cS),vI (X.cZ),.map (some m),vP t,vI (X.last),vI (X.ah - 1),vI (X.used)] 126,.abs (ax (bM vo L)),.abs (ax (cF vo L))]) (.iface 132 (vP (L.b tk))) [0,1,2,3] (⟨rfl,by subst lY;subst dx;subst ct;rfl⟩)
end
section
open Go.RowKit Go.Maps bH aE
attribute [local irreducible] aj aS af ai
abbrev Lp (f:Nat) (X:FM) (m:Nat) (t):=(.blk f [vI (X.cN),vI (X.cB),vI (X.cH),vI (X.cS),vI (X.cZ),.map (some m),vP t,vI (X.last),vI (X.ah),vI (X.used)] 126:HP)
theorem Ns {β:Bs} (X:FM) (f m t:Nat) (hX:0<=X.ah/\X.ah<=1048576/\-1125899906842624<=X.used/\X.used<=1125899906842624/\0<=X.last/\X.last<=1125899906842624) (O:cg) (L:HL) (idx:Used Th) (Lr:aE.dh (keys idx)) (th:Th) (hkt:(obj O th.k).kind=th.kind) (h3:th.kind=1\/th.kind=2\/th.kind=3) (hg:(obj O th.k).gone=true) (ho:(obj O th.k).opens=0) (hix:aE.get idx (obj O th.k).id=some th) (hw:(Lit.int .i64 (obj O th.k).id).wf=true) (yh:(obj O th.k).data.length<=1125899906842624) :
    Spec Tryz.prog β 136 #[vP f,(dQ L th)] [pO O L,pF f m t X,pI m L idx] (fun v l=>v=.tuple #[]/\l=[pO O L,pF f m t { X with used:=if th.kind=1 then X.used - (obj O th.k).data.length else X.used },pI m L (del (obj O th.k).id idx)]):=by
 refine Spec.enter Tryz.func136 rfl Tryz.ntmps136 (Nat.le_of_ble_eq_true rfl) (fun R=>?_)
 refine af.seq ?_
 obtain⟨tk,kd⟩:=th;simp only at hkt h3;rcases h3 with rfl|rfl|rfl
 ·replace hkt:(obj O tk).kind=1:=hkt
  replace hg:(obj O tk).gone=true:=hg
  replace ho:(obj O tk).opens=0:=ho
  replace hix:aE.get idx (obj O tk).id=some _:=hix
  replace hw:(Lit.int .i64 (obj O tk).id).wf=true:=hw
  have hdl:=qb Lr (get_some hix)
  replace yh:(obj O tk).data.length<=1125899906842624:=yh
  refine af.region (gK 1 [(7,.iface 129 (vP (L.b tk)))] [] ?_)
  refine gL [] (dw (L.b tk)) ?_
  rintro _ _ ⟨rfl,rfl⟩
  refine gK 1 [(4,vP (L.b tk))] [] ?_
  refine NN (af.seq (SR (gK 6 [(14,.bool (!(obj O tk).gone))] [(3,v_ 0 (nQ L hkt))] ?_)))
  refine aj.nU 14 (!(obj O tk).gone) (fun _=>by kernel_rfl) (fun iL=>?_) (fun iL=>?_)
  ·exact absurd iL (by simp [hg])
  refine gK 6 [(20,.bool (decide (((obj O tk).opens:Int) > (0:Int))))] [(3,v_ 0 (jV L hkt))] ?_
  refine NN (af.bg (p:=((obj O tk).opens:Int) > (0:Int)) (fun _=>by kernel_rfl) (fun pP=>?_) (fun pP=>?_))
  ·exact absurd pP (by omega)
  refine af.skip (NX (af.seq (af.bT (S:=[pO O L,pF f m t X,pI m L idx,.abs R]) [0,1,2,3,4,5,6,7,8] 8 [0,1,2,3] (by kernel_rfl) (by kernel_rfl) rfl (by kernel_rfl) ?_)))
  refine gR 0 [8] [(0,vP f),(1,.iface 129 (vP (L.b tk))),(24,.map (some m)),(28,vI ((obj O tk).id))] [0,1,2,3,4,5,6,7] [(3,a_ 1 f),(7,v_ 0 (rf L hkt))] ?_
  refine aQ.last rfl rfl ?_
  refine aj.Bo 2 (d:=none) (t:=120) (K:=3) (E:=124) (b:=m) (n:=idx.length) (f:=(bp (bq L idx))) (x:=(.tmp 24)) (ix:=(.tmp 28)) (key:=.int .i64 ((obj O tk).id)) (kl:=(.int .i64 (obj O tk).id)) (n':=(idx.length - 1)) (f':=(bp (bq L (del (obj O tk).id idx)))) (ats:=#[120,3]) (fun _=>by kernel_rfl) (by kernel_rfl) (fun _=>by kernel_rfl) (fun _=>by kernel_rfl) rfl d6 Tryz.underlying120 (gX hw) (by rw [fw,hix];rfl) (C4) ?_
  refine NL (ai.np (NX (SR ?_)))
  refine gK 7 [(5,vP (L.b tk)),(6,.bool true)] [] ?_
  refine NS (gK 1 [(34,.bool true)] [] ?_)
  refine NN (CT (af.bT (S:=[pO O L,pF f m t X,.abs (aN Tryz.prog 3 m (bp (bq L (del (obj O tk).id idx))) (idx.length - 1)),.abs R]) [0,1,2,3,4,5,6,7,8,9,10,11,12] 12 [0,1,2,3] (by kernel_rfl) (by kernel_rfl) rfl (by kernel_rfl) ?_))
  refine gR 0 [12] [(44,vI (X.used - (((obj O tk).data.length:Nat):Int))),(46,.pointer (some ⟨f,9,none⟩))] [0,1,2,3,4,5,6,7,8,9,10,11] [(3,a_ 1 f),(7,v_ 0 (FX L hkt)),(9,p_ ⟨[],none,none,none,some (vI (X.used - (((obj O tk).data.length:Nat):Int)))⟩ [(Value.int .i64 (IntKind.wrap .i64 (X.used - (((obj O tk).data.length:Nat):Int))))=(.int .i64 (X.used - (((obj O tk).data.length:Nat):Int)))] ⟨bA (by omega) (by omega) (by omega),trivial⟩)] ?_
  refine aQ.last rfl rfl ?_
  refine gC 1 [] [(0,a_ 1 f)] [(1,[(9,vI (X.used - (((obj O tk).data.length:Nat):Int)))])] ?_
  refine NL (ai.np ?_)
  refine ai.dG [(2,.abs (aN Tryz.prog 3 m (bp (bq L (del (obj O tk).id idx))) ((del (obj O tk).id idx).length)))] (fun w hS=>by rw [show (del (obj O tk).id idx).length=idx.length - 1 by omega];exact hS) ?_
  exact RF (.tuple #[]) [0,1,2,3] (⟨rfl,rfl⟩)
 ·replace hkt:(obj O tk).kind=2:=hkt
  replace hg:(obj O tk).gone=true:=hg
  replace ho:(obj O tk).opens=0:=ho
  replace hix:aE.get idx (obj O tk).id=some _:=hix
  replace hw:(Lit.int .i64 (obj O tk).id).wf=true:=hw
  have hdl:=qb Lr (get_some hix)
  replace yh:(obj O tk).data.length<=1125899906842624:=yh
  refine af.region (gK 1 [(7,.iface 135 (vP (L.b tk)))] [] ?_)
  refine gL [] (dw (L.b tk)) ?_
  rintro _ _ ⟨rfl,rfl⟩
  refine gK 1 [(4,vP (L.b tk))] [] ?_
  refine NN (af.seq (SR (gK 6 [(14,.bool (!(obj O tk).gone))] [(3,v_ 0 (nQ L hkt))] ?_)))
  refine aj.nU 14 (!(obj O tk).gone) (fun _=>by kernel_rfl) (fun iL=>?_) (fun iL=>?_)
  ·exact absurd iL (by simp [hg])
  refine gK 6 [(20,.bool (decide (((obj O tk).opens:Int) > (0:Int))))] [(3,v_ 0 (jV L hkt))] ?_
  refine NN (af.bg (p:=((obj O tk).opens:Int) > (0:Int)) (fun _=>by kernel_rfl) (fun pP=>?_) (fun pP=>?_))
  ·exact absurd pP (by omega)
  refine af.skip (NX (af.seq (af.bT (S:=[pO O L,pF f m t X,pI m L idx,.abs R]) [0,1,2,3,4,5,6,7,8] 8 [0,1,2,3] (by kernel_rfl) (by kernel_rfl) rfl (by kernel_rfl) ?_)))
  refine gR 0 [8] [(0,vP f),(1,.iface 135 (vP (L.b tk))),(24,.map (some m)),(28,vI ((obj O tk).id))] [0,1,2,3,4,5,6,7] [(3,a_ 1 f),(7,v_ 0 (rf L hkt))] ?_
  refine aQ.last rfl rfl ?_
  refine aj.Bo 2 (d:=none) (t:=120) (K:=3) (E:=124) (b:=m) (n:=idx.length) (f:=(bp (bq L idx))) (x:=(.tmp 24)) (ix:=(.tmp 28)) (key:=.int .i64 ((obj O tk).id)) (kl:=(.int .i64 (obj O tk).id)) (n':=(idx.length - 1)) (f':=(bp (bq L (del (obj O tk).id idx)))) (ats:=#[120,3]) (fun _=>by kernel_rfl) (by kernel_rfl) (fun _=>by kernel_rfl) (fun _=>by kernel_rfl) rfl d6 Tryz.underlying120 (gX hw) (by rw [fw,hix];rfl) (C4) ?_
  refine NL (ai.np (NX (SR ?_)))
  refine gK 7 [(5,.pointer none),(6,.bool false)] [] ?_
  refine NS (gK 1 [(34,.bool false)] [] ?_)
  refine NN (CF (af.skip (ai.dG [(2,.abs (aN Tryz.prog 3 m (bp (bq L (del (obj O tk).id idx))) ((del (obj O tk).id idx).length)))] (fun w hS=>by rw [show (del (obj O tk).id idx).length=idx.length - 1 by omega];exact hS) ?_)))
  exact RF (.tuple #[]) [0,1,2,3] (⟨rfl,rfl⟩)
 replace hkt:(obj O tk).kind=3:=hkt
 replace hg:(obj O tk).gone=true:=hg
 replace ho:(obj O tk).opens=0:=ho
 replace hix:aE.get idx (obj O tk).id=some _:=hix
 replace hw:(Lit.int .i64 (obj O tk).id).wf=true:=hw
 have hdl:=qb Lr (get_some hix)
 replace yh:(obj O tk).data.length<=1125899906842624:=yh
 refine af.region (gK 1 [(7,.iface 132 (vP (L.b tk)))] [] ?_)
 refine gL [] (dw (L.b tk)) ?_
 rintro _ _ ⟨rfl,rfl⟩
 refine gK 1 [(4,vP (L.b tk))] [] ?_
 refine NN (af.seq (SR (gK 6 [(14,.bool (!(obj O tk).gone))] [(3,v_ 0 (nQ L hkt))] ?_)))
 refine aj.nU 14 (!(obj O tk).gone) (fun _=>by kernel_rfl) (fun iL=>?_) (fun iL=>?_)
 ·exact absurd iL (by simp [hg])
 refine gK 6 [(20,.bool (decide (((obj O tk).opens:Int) > (0:Int))))] [(3,v_ 0 (jV L hkt))] ?_
 refine NN (af.bg (p:=((obj O tk).opens:Int) > (0:Int)) (fun _=>by kernel_rfl) (fun pP=>?_) (fun pP=>?_))
 ·exact absurd pP (by omega)
 refine af.skip (NX (af.seq (af.bT (S:=[pO O L,pF f m t X,pI m L idx,.abs R]) [0,1,2,3,4,5,6,7,8] 8 [0,1,2,3] (by kernel_rfl) (by kernel_rfl) rfl (by kernel_rfl) ?_)))
 refine gR 0 [8] [(0,vP f),(1,.iface 132 (vP (L.b tk))),(24,.map (some m)),(28,vI ((obj O tk).id))] [0,1,2,3,4,5,6,7] [(3,a_ 1 f),(7,v_ 0 (rf L hkt))] ?_
 refine aQ.last rfl rfl ?_
 refine aj.Bo 2 (d:=none) (t:=120) (K:=3) (E:=124) (b:=m) (n:=idx.length) (f:=(bp (bq L idx))) (x:=(.tmp 24)) (ix:=(.tmp 28)) (key:=.int .i64 ((obj O tk).id)) (kl:=(.int .i64 (obj O tk).id)) (n':=(idx.length - 1)) (f':=(bp (bq L (del (obj O tk).id idx)))) (ats:=#[120,3]) (fun _=>by kernel_rfl) (by kernel_rfl) (fun _=>by kernel_rfl) (fun _=>by kernel_rfl) rfl d6 Tryz.underlying120 (gX hw) (by rw [fw,hix];rfl) (C4) ?_
 refine NL (ai.np (NX (SR ?_)))
 refine gK 7 [(5,.pointer none),(6,.bool false)] [] ?_
 refine NS (gK 1 [(34,.bool false)] [] ?_)
 refine NN (CF (af.skip (ai.dG [(2,.abs (aN Tryz.prog 3 m (bp (bq L (del (obj O tk).id idx))) ((del (obj O tk).id idx).length)))] (fun w hS=>by rw [show (del (obj O tk).id idx).length=idx.length - 1 by omega];exact hS) ?_)))
 exact RF (.tuple #[]) [0,1,2,3] (⟨rfl,rfl⟩)
theorem JL {β:Bs} (O:cg) (L:HL) (f:Nat) (th:Th) (hkt:(obj O th.k).kind=th.kind) (h3:th.kind=1\/th.kind=2\/th.kind=3) (hg:(obj O th.k).gone=false\/0 < (obj O th.k).opens) :
    Spec Tryz.prog β 136 #[vP f,(dQ L th)] [pO O L] (fun v l=>v=.tuple #[]/\l=[pO O L]):=by
 refine Spec.enter Tryz.func136 rfl Tryz.ntmps136 (Nat.le_of_ble_eq_true rfl) (fun R=>?_)
 refine af.seq ?_
 obtain⟨tk,kd⟩:=th;simp only at hkt h3;rcases h3 with rfl|rfl|rfl
 ·replace hkt:(obj O tk).kind=1:=hkt
  replace hg:(obj O tk).gone=false\/0 < (obj O tk).opens:=hg
  refine af.region (gK 1 [(7,.iface 129 (vP (L.b tk)))] [] ?_)
  refine gL [] (dw (L.b tk)) ?_
  rintro _ _ ⟨rfl,rfl⟩
  refine gK 1 [(4,vP (L.b tk))] [] ?_
  refine NN (af.seq (SR (gK 6 [(14,.bool (!(obj O tk).gone))] [(3,v_ 0 (nQ L hkt))] ?_)))
  refine aj.nU 14 (!(obj O tk).gone) (fun _=>by kernel_rfl) (fun iL=>?_) (fun iL=>?_)
  ·refine gK 6 [(20,.bool true)] [] ?_
   refine NN (CT (af.ret (ai.ar ?_)))
   exact RT (.tuple #[]) [0,1] (⟨rfl,rfl⟩)
  refine gK 6 [(20,.bool (decide (((obj O tk).opens:Int) > (0:Int))))] [(3,v_ 0 (jV L hkt))] ?_
  refine NN (af.bg (p:=((obj O tk).opens:Int) > (0:Int)) (fun _=>by kernel_rfl) (fun pP=>?_) (fun pP=>?_))
  ·refine af.ret (ai.ar ?_)
   exact RT (.tuple #[]) [0,1] (⟨rfl,rfl⟩)
  exact absurd hg (by simp at iL;rw [iL];simp;omega)
 ·replace hkt:(obj O tk).kind=2:=hkt
  replace hg:(obj O tk).gone=false\/0 < (obj O tk).opens:=hg
  refine af.region (gK 1 [(7,.iface 135 (vP (L.b tk)))] [] ?_)
  refine gL [] (dw (L.b tk)) ?_
  rintro _ _ ⟨rfl,rfl⟩
  refine gK 1 [(4,vP (L.b tk))] [] ?_
  refine NN (af.seq (SR (gK 6 [(14,.bool (!(obj O tk).gone))] [(3,v_ 0 (nQ L hkt))] ?_)))
  refine aj.nU 14 (!(obj O tk).gone) (fun _=>by kernel_rfl) (fun iL=>?_) (fun iL=>?_)
  ·refine gK 6 [(20,.bool true)] [] ?_
   refine NN (CT (af.ret (ai.ar ?_)))
   exact RT (.tuple #[]) [0,1] (⟨rfl,rfl⟩)
  refine gK 6 [(20,.bool (decide (((obj O tk).opens:Int) > (0:Int))))] [(3,v_ 0 (jV L hkt))] ?_
  refine NN (af.bg (p:=((obj O tk).opens:Int) > (0:Int)) (fun _=>by kernel_rfl) (fun pP=>?_) (fun pP=>?_))
  ·refine af.ret (ai.ar ?_)
   exact RT (.tuple #[]) [0,1] (⟨rfl,rfl⟩)
  exact absurd hg (by simp at iL;rw [iL];simp;omega)
 replace hkt:(obj O tk).kind=3:=hkt
 replace hg:(obj O tk).gone=false\/0 < (obj O tk).opens:=hg
 refine af.region (gK 1 [(7,.iface 132 (vP (L.b tk)))] [] ?_)
 refine gL [] (dw (L.b tk)) ?_
 rintro _ _ ⟨rfl,rfl⟩
 refine gK 1 [(4,vP (L.b tk))] [] ?_
 refine NN (af.seq (SR (gK 6 [(14,.bool (!(obj O tk).gone))] [(3,v_ 0 (nQ L hkt))] ?_)))
 refine aj.nU 14 (!(obj O tk).gone) (fun _=>by kernel_rfl) (fun iL=>?_) (fun iL=>?_)
 ·refine gK 6 [(20,.bool true)] [] ?_
  refine NN (CT (af.ret (ai.ar ?_)))
  exact RT (.tuple #[]) [0,1] (⟨rfl,rfl⟩)
 refine gK 6 [(20,.bool (decide (((obj O tk).opens:Int) > (0:Int))))] [(3,v_ 0 (jV L hkt))] ?_
 refine NN (af.bg (p:=((obj O tk).opens:Int) > (0:Int)) (fun _=>by kernel_rfl) (fun pP=>?_) (fun pP=>?_))
 ·refine af.ret (ai.ar ?_)
  exact RT (.tuple #[]) [0,1] (⟨rfl,rfl⟩)
 exact absurd hg (by simp at iL;rw [iL];simp;omega)
theorem qV {β:Bs} (X:FM) (f m t:Nat) (hX:0<=X.ah/\X.ah<=1048576/\-1125899906842624<=X.used/\X.used<=1125899906842624/\0<=X.last/\X.last<=1125899906842624) (O:cg) (L:HL) (idx:Used Th) (Lr:aE.dh (keys idx)) (th:Th) (hkt:(obj O th.k).kind=th.kind) (h3:th.kind=1\/th.kind=2\/th.kind=3) (ho:0<=(obj O th.k).opens) (hix:rT O th->aE.get idx (obj O th.k).id=some th) (hw:(Lit.int .i64 (obj O th.k).id).wf=true) (yh:(obj O th.k).data.length<=1125899906842624) :
    Spec Tryz.prog β 136 #[vP f,(dQ L th)] [pO O L,pF f m t X,pI m L idx] (fun v l=>v=.tuple #[]/\l=[pO O L,pF f m t { X with used:=j3 O X.used th },pI m L (jN O idx th)]):=by
  unfold j3 jN
  by_cases h:rT O th
  ·rw [if_pos h,if_pos h]
   exact Ns X f m t hX O L idx Lr th hkt h3 h.1 h.2 (hix h) hw yh
  rw [if_neg h,if_neg h]
  refine (Spec.Am (pre:=[pO O L]) (R:=[pF f m t X,pI m L idx]) (fun _ _=>JL O L f th hkt h3 ?_)).mono (by rintro v l ⟨l0,⟨rfl,rfl⟩,rfl⟩;exact⟨rfl,rfl⟩)
  cases hg:(obj O th.k).gone with
  | false=>exact .inl rfl
  | true=>exact .inr (by have:¬ (obj O th.k).opens=0:=fun e=>h ⟨hg,e⟩;omega)
theorem uy {β:Bs} (X:FM) (f m t:Nat):Spec Tryz.prog β 129 #[vP f] [Lp f X m t] (fun v l=>v=.bool (decide (X.ah < 8192))/\l=[Lp f X m t]):=by
 refine Spec.enter Tryz.func129 rfl Tryz.ntmps129 (Nat.le_of_ble_eq_true rfl) (fun R=>?_)
 refine SR (gK 1 [] [] ?_)
 refine NS (gK 6 [(2,.bool (decide ((X.ah:Int) < (8192:Int))))] [(3,a_ 0 f)] ?_)
 refine NN (af.ret ?_)
 exact RT (.bool (decide ((X.ah:Int) < (8192:Int)))) [0,1] (⟨rfl,rfl⟩)
theorem fR {β:Bs} (a b:Int):Spec Tryz.prog β 59 #[vI a,vI b] [] (fun v l=>v=.bool (decide (0<=a/\a<=b))/\l=[]):=by
 refine Spec.enter Tryz.func59 rfl Tryz.ntmps59 (Nat.le_of_ble_eq_true rfl) (fun R=>?_)
 refine SR (gK 1 [] [] ?_)
 refine NS (gK 3 [(7,.bool (decide ((a:Int) ≥ (0:Int))))] [] ?_)
 refine aj.fY 7 ((a:Int) ≥ (0:Int)) (fun _=>by kernel_rfl) (fun h7=>?_) (fun h7=>?_)
 ·refine gK 5 [(4,.bool (decide ((a:Int)<=(b:Int))))] [] ?_
  refine NN (af.ret ?_)
  exact RT (.bool (decide ((a:Int)<=(b:Int)))) [0] (⟨by first|exact congrArg Value.bool (decide_eq_decide.2 (by omega))|exact congrArg Value.bool (decide_eq_true (by omega)).symm|exact congrArg Value.bool (decide_eq_false (by omega)).symm,rfl⟩)
 refine gK 5 [(4,.bool false)] [] ?_
 refine NN (af.ret ?_)
 exact RT (.bool false) [0] (⟨by first|exact congrArg Value.bool (decide_eq_decide.2 (by omega))|exact congrArg Value.bool (decide_eq_true (by omega)).symm|exact congrArg Value.bool (decide_eq_false (by omega)).symm,rfl⟩)
theorem F7 {β:Bs} (X:FM) (f m t:Nat) (L:HL) (idx:Used Th):Spec Tryz.prog β 166 #[vP f] [Lp f X m t,.abs (aN Tryz.prog 3 m (bp (bq L idx)) idx.length)] (fun v l=>v=.bool (decide ((idx.length:Int) < X.cN/\X.last < 1099511627776/\X.ah < 8192))/\l=[Lp f X m t,.abs (aN Tryz.prog 3 m (bp (bq L idx)) idx.length)]):=by
 refine Spec.enter Tryz.func166 rfl Tryz.ntmps166 (Nat.le_of_ble_eq_true rfl) (fun R=>?_)
 refine SR (gK 1 [] [] ?_)
 refine NN (af.seq (af.bK (by kernel_rfl) (by kernel_rfl) ?_))
 refine gQ 4 [(6,.map (some m))] [(3,a_ 0 f)] ?_
 refine aS.uI 1 (d:=(some 7)) (t:=120) (K:=3) (E:=124) (b:=m) (n:=idx.length) (f:=(bp (bq L idx))) (x:=(.tmp 6)) (ats:=#[120]) (fun _=>by kernel_rfl) (by kernel_rfl) (fun _=>by kernel_rfl) rfl Tryz.underlying120 ?_
 refine gQ 7 [(14,.bool (decide ((((idx.length:Nat):Int):Int) < (X.cN:Int))))] [(4,a_ 0 f)] ?_
 refine aS.fY 14 ((((idx.length:Nat):Int):Int) < (X.cN:Int)) (fun _=>by kernel_rfl) (fun iL=>?_) (fun iL=>?_)
 ·refine gQ 7 [(21,.bool (decide ((X.last:Int) < (1099511627776:Int))))] [(3,a_ 0 f)] ?_
  refine aS.fY 21 ((X.last:Int) < (1099511627776:Int)) (fun _=>by kernel_rfl) (fun vr=>?_) (fun vr=>?_)
  ·refine gQ 1 [(22,vP f)] [] ?_
   refine aS.call (f:=129) (args:=#[vP f]) (d:=(some 23)) (pre:=[pF f m t X]) (R:=[pI m L idx,.abs R]) (pk:=[0,1,2]) (iZ:=[0,1,2]) (v0:=.bool (decide (X.ah < 8192))) (fun _=>by kernel_rfl) (uy X f m t) rfl (by kernel_rfl) rfl (by kernel_rfl) (fun _ _ h=>h) ?_
   refine gQ 2 [(2,.bool (decide (X.ah < 8192)))] [] ?_
   refine NQ (NX (af.ret ?_))
   exact RT (.bool (decide (X.ah < 8192))) [0,1,2] (⟨by first|exact congrArg Value.bool (decide_eq_decide.2 (by omega))|exact congrArg Value.bool (decide_eq_true (by omega)).symm|exact congrArg Value.bool (decide_eq_false (by omega)).symm,rfl⟩)
  refine gQ 4 [(2,.bool false)] [] ?_
  refine NQ (NX (af.ret ?_))
  exact RT (.bool false) [0,1,2] (⟨by first|exact congrArg Value.bool (decide_eq_decide.2 (by omega))|exact congrArg Value.bool (decide_eq_true (by omega)).symm|exact congrArg Value.bool (decide_eq_false (by omega)).symm,rfl⟩)
 refine gQ 11 [(2,.bool false)] [] ?_
 refine NQ (NX (af.ret ?_))
 exact RT (.bool false) [0,1,2] (⟨by first|exact congrArg Value.bool (decide_eq_decide.2 (by omega))|exact congrArg Value.bool (decide_eq_true (by omega)).symm|exact congrArg Value.bool (decide_eq_false (by omega)).symm,rfl⟩)
theorem tV {β:Bs} (X:FM) (f m t:Nat) (hX:0<=X.ah/\X.ah<=1048576/\-1125899906842624<=X.used/\X.used<=1125899906842624/\0<=X.last/\X.last<=1125899906842624) (mode:Int):Spec Tryz.prog β 126 #[vP f,vI mode] [Lp f X m t] (fun v l=>v=.agg #[vI (X.last+1),vI mode,vI 0,vI 0,vI X.cS,vI X.cZ,vI 0,vI 0,.bool false]/\l=[.blk f [vI (X.cN),vI (X.cB),vI (X.cH),vI (X.cS),vI (X.cZ),.map (some m),vP t,vI (X.last+1),vI (X.ah),vI (X.used)] 126]):=by
 refine Spec.enter Tryz.func126 rfl Tryz.ntmps126 (Nat.le_of_ble_eq_true rfl) (fun R=>?_)
 refine SR (gN 1 (fun b1=>[(4,vP b1)]) (fun _=>[]) (fun _=>[]) (fun b1=>.blk b1 [vI 0,vI 0,vI 0,vI 0,vI 0,vI 0,vI 0,vI 0,.bool false] 128) (fun b1=>?_))
 refine NS (gC 8 [] [(3,a_ 0 f),(4,p_ ⟨[],none,none,none,some (vI (X.last+1))⟩ [(Value.int .i64 (IntKind.wrap .i64 (X.last+1)))=(.int .i64 (X.last+1))] ⟨bA (by omega) (by omega) (by omega),trivial⟩),(7,a_ 0 f)] [(0,[(7,vI (X.last+1))])] ?_)
 refine NN (af.seq (af.bT (S:=[pF f m t { X with last:=X.last+1 },.abs R,.blk b1 [vI 0,vI 0,vI 0,vI 0,vI 0,vI 0,vI 0,vI 0,.bool false] 128]) [0,1,2,3,4,5,6,7,8,9,10,11] 11 [0,1,2] (by kernel_rfl) (by kernel_rfl) rfl (by kernel_rfl) ?_))
 refine gR 0 [11] [(4,vP b1),(22,.agg #[vI (X.last+1),vI (mode),vI 0,vI 0,vI (X.cS),vI (X.cZ),vI 0,vI 0,.bool false])] [0,1,2,3,4,5,6,7,8,9,10] [(3,a_ 0 f),(9,A_ 0 f 2)] ?_
 refine aQ.last rfl rfl ?_
 refine gC 1 [] [(0,A_ 2 b1 9)] [(2,[(0,vI (X.last+1)),(1,vI (mode)),(4,vI (X.cS)),(5,vI (X.cZ))])] ?_
 refine NL (ai.np (NX (af.ret ?_)))
 exact ai.ret (v:=.agg #[vI (X.last+1),vI (mode),vI 0,vI 0,vI (X.cS),vI (X.cZ),vI 0,vI 0,.bool false]) (l:=[pF f m t { X with last:=X.last+1 }]) (bG:=[b1=b1,b1=b1,b1=b1,b1=b1,b1=b1,b1=b1,b1=b1,b1=b1,b1=b1]) [.at 2,.at 2,.at 2,.at 2,.at 2,.at 2,.at 2,.at 2,.at 2] [0,1] (fun _=>by kernel_rfl) ⟨rfl,rfl,rfl,rfl,rfl,rfl,rfl,rfl,rfl,trivial⟩ rfl (by kernel_rfl) (⟨rfl,rfl⟩)
end
section
open Go.RowKit Go.Maps bH aE
attribute [local irreducible] aj aS af ai
abbrev Cp (f:Nat) (L:HL) (d:Nat) (name):=([(0,vP f),(1,vP (L.b d)),(2,.string name)]:Fr)
abbrev Rn (f:Nat) (L:HL) (d:Nat) (name):=([(18,vP f),(19,vP (L.b d)),(20,.string name)]:Fr)
abbrev Ro (f:Nat) (L:HL) (d:Nat) (name):=([(8,vP f),(9,vP (L.b d)),(10,.string name)]:Fr)
abbrev F8 (f:Nat) (L:HL) (d:Nat) (name):=([(0,vP f),(1,vP (L.b d)),(2,.string name)]:Fr)
abbrev wT (f:Nat) (m:Nat) (t) (X:FM) (L:HL) (idx) (O:cg) (R:cE):=([pF f m t X,pI m L idx,pO O L,pE O L,.abs R]:List HP)
abbrev Rp (S:aI) (tk:Nat) (L:HL):=([(24,vI ((obj S.O tk).opens+1)),(26,.pointer (some ⟨(L.b tk),7,none⟩))]:Fr)
theorem oq {β:Bs} (S:aI) (L:HL) (f m t:Nat) (hI:Inv S) (d:Nat) (hd:Live S.idx ⟨d,2⟩) (name:ByteArray) (hsz:name.size<=1048576) (th:Th) (hlk:aX name (obj S.O d).ah=some th) :
    Spec Tryz.prog β 168 #[vP f,vP (L.b d),.string name] [pF f m t S.X,pO S.O L,pE S.O L,pI m L S.idx] (fun v l=>v=.tuple #[]/\l=[pF f m t ((aK S d name th).X),pO ((aK S d name th).O) L,pE ((aK S d name th).O) L,pI m L ((aK S d name th).idx)]):=by
 have hX:=hI.hX
 have hel:(obj S.O d).ah.length<=8192:=hI.gi hd
 have hkd:(obj S.O d).kind=2:=hI.kind hd
 refine Spec.enter Tryz.func168 rfl Tryz.ntmps168 (Nat.le_of_ble_eq_true rfl) (fun R=>?_)
 refine af.seq ?_
 obtain⟨tk,kd⟩:=th;have hlv:=(hI.ent hd hlk).2;have WL:=hI.ne hd hlk;rcases (hI.ob _ hlv).2.2 with e0|e0|e0<;>simp only at e0<;>subst e0
 ·have hkt:(obj S.O tk).kind=1:=hI.kind hlv
  have hlb:=hI.lb hlv;have hid:=hI.ob _ hlv;have hop:=hI.DW hlv;have hdl:=hI.Fx hlv;have qm:=hI.KO hlv
  refine af.region (gK 3 (Ro f L d name) [] ?_)
  refine gL [0,1,2] (jC S.X f m t hX S.O L d hkd name hsz ⟨tk,1⟩ hkt (by simp) hlk (hI.twice hd) (by omega) (by simp only at hlb ⊢;omega)) ?_
  rintro _ _ ⟨rfl,rfl⟩
  refine gK 1 [(6,.iface 129 (vP (L.b tk)))] [] ?_
  refine NS ?_
  have jU:(obj (aT S.X S.O d name ⟨tk,1⟩) d).kind=2:=(cU).trans (hkd)
  have mM:(obj (aT S.X S.O d name ⟨tk,1⟩) tk).kind=1:=(cU).trans (hkt)
  have yj:(obj (aT S.X S.O d name ⟨tk,1⟩) tk).id=(obj S.O tk).id:=dL (g:=aV.id) (fun _ _=>rfl) (fun _ _=>rfl) (fun _ _ _=>rfl)
  have yq:(obj (aT S.X S.O d name ⟨tk,1⟩) tk).opens=(obj S.O tk).opens:=dL (g:=aV.opens) (fun _ _=>rfl) (fun _ _=>rfl) (fun _ _ _=>rfl)
  have yt:(obj (aT S.X S.O d name ⟨tk,1⟩) tk).data=(obj S.O tk).data:=dL (g:=aV.data) (fun _ _=>rfl) (fun _ _=>rfl) (fun _ _ _=>rfl)
  generalize ct:(aT S.X S.O d name ⟨tk,1⟩)=cK at jU mM yj yq yt ⊢
  refine gK 1 [(12,.iface 129 (vP (L.b tk)))] [] ?_
  refine gL [] (dw (L.b tk)) ?_
  rintro _ _ ⟨rfl,rfl⟩
  refine gK 1 [(7,vP (L.b tk))] [] ?_
  refine NS (gK 5 [(18,.bool (decide (((obj cK tk).links:Int)=(0:Int))))] [(3,v_ 1 (ny L mM))] ?_)
  refine NN (af.bg (p:=((obj cK tk).links:Int)=(0:Int)) (fun _=>by kernel_rfl) (fun oF=>?_) (fun oF=>?_))
  ·refine SR (gK 3 [(21,.pointer (some ⟨(L.b tk),8,none⟩))] [] ?_)
   refine sZ 1 [(2,1)] tk 8 (fun o=>{ o with gone:=true }) mM (fun ef dx=>?_)
   have Dm:=ku dx jU
   have ye:=ku dx mM
   have Ls:(obj ef tk).id=(obj S.O tk).id:=fu aV.id dx yj
   have Rq:(obj ef tk).opens=(obj S.O tk).opens:=fu aV.opens dx yq
   have VG:(obj ef tk).data=(obj S.O tk).data:=fu aV.data dx yt
   refine NN (af.region (gK 2 [(22,vP f),(23,.iface 129 (vP (L.b tk)))] [] ?_))
   refine gL [1,0,3] (qV { S.X with ah:=S.X.ah - 1 } f m t (hI.zF hd hlk) ef L S.idx hI.rise ⟨tk,1⟩ ye (by simp) (by rw [Rq];exact hop.1) (fun _=>by rw [Ls,hid.1];exact hlv) (by rw [Ls];exact qm) (by rw [VG];exact hdl)) ?_
   rintro _ _ ⟨rfl,rfl⟩
   refine NL ?_
   exact RF (l:=[pF f m t { S.X with ah:=S.X.ah - 1,used:=j3 ef S.X.used ⟨tk,1⟩ },pO ef L,pE ef L,pI m L (jN ef S.idx ⟨tk,1⟩)]) (.tuple #[]) [1,0,3,2,4] (⟨rfl,by subst dx;subst ct;rw [show aK S d name ⟨tk,1⟩=_ from tM oF]<;>rfl⟩)
  refine af.skip ?_
  exact RF (l:=[pF f m t { S.X with ah:=S.X.ah - 1 },pO cK L,pE cK L,pI m L S.idx]) (.tuple #[]) [0,1,2,3,4] (⟨rfl,by subst ct;rw [show aK S d name ⟨tk,1⟩=_ from tN oF]<;>rfl⟩)
 ·have hkt:(obj S.O tk).kind=2:=hI.kind hlv
  have hlb:=hI.lb hlv;have hid:=hI.ob _ hlv;have hop:=hI.DW hlv;have hdl:=hI.Fx hlv;have qm:=hI.KO hlv
  refine af.region (gK 3 (Ro f L d name) [] ?_)
  refine gL [0,1,2] (jC S.X f m t hX S.O L d hkd name hsz ⟨tk,2⟩ hkt (by simp) hlk (hI.twice hd) (by omega) (by simp only at hlb ⊢;omega)) ?_
  rintro _ _ ⟨rfl,rfl⟩
  refine gK 1 [(6,.iface 135 (vP (L.b tk)))] [] ?_
  refine NS ?_
  have Rs:(obj (aT S.X S.O d name ⟨tk,2⟩) d).kind=2:=(cU).trans (hkd)
  have Dl:(obj (aT S.X S.O d name ⟨tk,2⟩) tk).kind=2:=(cU).trans (hkt)
  have yj:(obj (aT S.X S.O d name ⟨tk,2⟩) tk).id=(obj S.O tk).id:=dL (g:=aV.id) (fun _ _=>rfl) (fun _ _=>rfl) (fun _ _ _=>rfl)
  have yq:(obj (aT S.X S.O d name ⟨tk,2⟩) tk).opens=(obj S.O tk).opens:=dL (g:=aV.opens) (fun _ _=>rfl) (fun _ _=>rfl) (fun _ _ _=>rfl)
  have yt:(obj (aT S.X S.O d name ⟨tk,2⟩) tk).data=(obj S.O tk).data:=dL (g:=aV.data) (fun _ _=>rfl) (fun _ _=>rfl) (fun _ _ _=>rfl)
  generalize ct:(aT S.X S.O d name ⟨tk,2⟩)=cK at Rs Dl yj yq yt ⊢
  refine gK 1 [(12,.iface 135 (vP (L.b tk)))] [] ?_
  refine gL [] (dw (L.b tk)) ?_
  rintro _ _ ⟨rfl,rfl⟩
  refine gK 1 [(7,vP (L.b tk))] [] ?_
  refine NS (gK 5 [(18,.bool (decide (((obj cK tk).links:Int)=(0:Int))))] [(3,v_ 1 (ny L Dl))] ?_)
  refine NN (af.bg (p:=((obj cK tk).links:Int)=(0:Int)) (fun _=>by kernel_rfl) (fun oF=>?_) (fun oF=>?_))
  ·refine SR (gK 3 [(21,.pointer (some ⟨(L.b tk),8,none⟩))] [] ?_)
   refine sZ 1 [(2,1)] tk 8 (fun o=>{ o with gone:=true }) Dl (fun ef dx=>?_)
   have JH:=ku dx Rs
   have OG:=ku dx Dl
   have Rt:(obj ef tk).id=(obj S.O tk).id:=fu aV.id dx yj
   have UN:(obj ef tk).opens=(obj S.O tk).opens:=fu aV.opens dx yq
   have UO:(obj ef tk).data=(obj S.O tk).data:=fu aV.data dx yt
   refine NN (af.region (gK 2 [(22,vP f),(23,.iface 135 (vP (L.b tk)))] [] ?_))
   refine gL [1,0,3] (qV { S.X with ah:=S.X.ah - 1 } f m t (hI.zF hd hlk) ef L S.idx hI.rise ⟨tk,2⟩ OG (by simp) (by rw [UN];exact hop.1) (fun _=>by rw [Rt,hid.1];exact hlv) (by rw [Rt];exact qm) (by rw [UO];exact hdl)) ?_
   rintro _ _ ⟨rfl,rfl⟩
   refine NL ?_
   exact RF (l:=[pF f m t { S.X with ah:=S.X.ah - 1,used:=j3 ef S.X.used ⟨tk,2⟩ },pO ef L,pE ef L,pI m L (jN ef S.idx ⟨tk,2⟩)]) (.tuple #[]) [1,0,3,2,4] (⟨rfl,by subst dx;subst ct;rw [show aK S d name ⟨tk,2⟩=_ from tM oF]<;>rfl⟩)
  refine af.skip ?_
  exact RF (l:=[pF f m t { S.X with ah:=S.X.ah - 1 },pO cK L,pE cK L,pI m L S.idx]) (.tuple #[]) [0,1,2,3,4] (⟨rfl,by subst ct;rw [show aK S d name ⟨tk,2⟩=_ from tN oF]<;>rfl⟩)
 have hkt:(obj S.O tk).kind=3:=hI.kind hlv
 have hlb:=hI.lb hlv;have hid:=hI.ob _ hlv;have hop:=hI.DW hlv;have hdl:=hI.Fx hlv;have qm:=hI.KO hlv
 refine af.region (gK 3 (Ro f L d name) [] ?_)
 refine gL [0,1,2] (jC S.X f m t hX S.O L d hkd name hsz ⟨tk,3⟩ hkt (by simp) hlk (hI.twice hd) (by omega) (by simp only at hlb ⊢;omega)) ?_
 rintro _ _ ⟨rfl,rfl⟩
 refine gK 1 [(6,.iface 132 (vP (L.b tk)))] [] ?_
 refine NS ?_
 have OO:(obj (aT S.X S.O d name ⟨tk,3⟩) d).kind=2:=(cU).trans (hkd)
 have Cn:(obj (aT S.X S.O d name ⟨tk,3⟩) tk).kind=3:=(cU).trans (hkt)
 have yj:(obj (aT S.X S.O d name ⟨tk,3⟩) tk).id=(obj S.O tk).id:=dL (g:=aV.id) (fun _ _=>rfl) (fun _ _=>rfl) (fun _ _ _=>rfl)
 have yq:(obj (aT S.X S.O d name ⟨tk,3⟩) tk).opens=(obj S.O tk).opens:=dL (g:=aV.opens) (fun _ _=>rfl) (fun _ _=>rfl) (fun _ _ _=>rfl)
 have yt:(obj (aT S.X S.O d name ⟨tk,3⟩) tk).data=(obj S.O tk).data:=dL (g:=aV.data) (fun _ _=>rfl) (fun _ _=>rfl) (fun _ _ _=>rfl)
 generalize ct:(aT S.X S.O d name ⟨tk,3⟩)=cK at OO Cn yj yq yt ⊢
 refine gK 1 [(12,.iface 132 (vP (L.b tk)))] [] ?_
 refine gL [] (dw (L.b tk)) ?_
 rintro _ _ ⟨rfl,rfl⟩
 refine gK 1 [(7,vP (L.b tk))] [] ?_
 refine NS (gK 5 [(18,.bool (decide (((obj cK tk).links:Int)=(0:Int))))] [(3,v_ 1 (ny L Cn))] ?_)
 refine NN (af.bg (p:=((obj cK tk).links:Int)=(0:Int)) (fun _=>by kernel_rfl) (fun oF=>?_) (fun oF=>?_))
 ·refine SR (gK 3 [(21,.pointer (some ⟨(L.b tk),8,none⟩))] [] ?_)
  refine sZ 1 [(2,1)] tk 8 (fun o=>{ o with gone:=true }) Cn (fun ef dx=>?_)
  have SX:=ku dx OO
  have Co:=ku dx Cn
  have Ru:(obj ef tk).id=(obj S.O tk).id:=fu aV.id dx yj
  have UQ:(obj ef tk).opens=(obj S.O tk).opens:=fu aV.opens dx yq
  have UR:(obj ef tk).data=(obj S.O tk).data:=fu aV.data dx yt
  refine NN (af.region (gK 2 [(22,vP f),(23,.iface 132 (vP (L.b tk)))] [] ?_))
  refine gL [1,0,3] (qV { S.X with ah:=S.X.ah - 1 } f m t (hI.zF hd hlk) ef L S.idx hI.rise ⟨tk,3⟩ Co (by simp) (by rw [UQ];exact hop.1) (fun _=>by rw [Ru,hid.1];exact hlv) (by rw [Ru];exact qm) (by rw [UR];exact hdl)) ?_
  rintro _ _ ⟨rfl,rfl⟩
  refine NL ?_
  exact RF (l:=[pF f m t { S.X with ah:=S.X.ah - 1,used:=j3 ef S.X.used ⟨tk,3⟩ },pO ef L,pE ef L,pI m L (jN ef S.idx ⟨tk,3⟩)]) (.tuple #[]) [1,0,3,2,4] (⟨rfl,by subst dx;subst ct;rw [show aK S d name ⟨tk,3⟩=_ from tM oF]<;>rfl⟩)
 refine af.skip ?_
 exact RF (l:=[pF f m t { S.X with ah:=S.X.ah - 1 },pO cK L,pE cK L,pI m L S.idx]) (.tuple #[]) [0,1,2,3,4] (⟨rfl,by subst ct;rw [show aK S d name ⟨tk,3⟩=_ from tN oF]<;>rfl⟩)
theorem tW {β:Bs} (S:aI) (L:HL) (f m t:Nat) (hI:Inv S) (d:Nat) (hd:Live S.idx ⟨d,2⟩) (name:ByteArray) (hsz:name.size<=1048576) :
    Spec Tryz.prog β 125 #[vP f,vP (L.b d),.string name] [pF f m t S.X,pI m L S.idx,pE S.O L,pO S.O L] (fun v l=>v=vI (ck S.X S.O S.idx d name)/\l=[pF f m t S.X,pI m L S.idx,pE S.O L,pO S.O L]):=by
 have hX:=hI.hX
 have hel:(obj S.O d).ah.length<=8192:=hI.gi hd
 have hkd:(obj S.O d).kind=2:=hI.kind hd
 refine Spec.enter Tryz.func125 rfl Tryz.ntmps125 (Nat.le_of_ble_eq_true rfl) (fun R=>?_)
 refine af.seq ?_
 rcases hI.mq hd name with hlk|⟨tk,hlk,hlv⟩|⟨tk,hlk,hlv⟩|⟨tk,hlk,hlv⟩
 ·refine af.region (gK 1 [] [] ?_)
  refine NN (af.seq (SR (gK 5 [(10,.map (some (L.m d))),(11,.string name)] [(3,v_ 3 (bD L hkd))] ?_)))
  refine iA 2 hkd hlk ?_
  refine gK 1 [(13,.bool false)] [] ?_
  refine NN (CF (af.skip (NX (af.seq (SR (gK 1 [(14,vP f)] [] ?_))))))
  refine gL [0,1] (F7 S.X f m t L S.idx) ?_
  rintro _ _ ⟨rfl,rfl⟩
  refine gK 1 [(16,.bool (!(decide (((S.idx.length:Int) < S.X.cN/\S.X.last < 1099511627776/\S.X.ah < 8192)))))] [] ?_
  refine NN (af.dm (p:=((S.idx.length:Int) < S.X.cN/\S.X.last < 1099511627776/\S.X.ah < 8192)) (fun _=>by kernel_rfl) (fun uS=>?_) (fun uS=>?_))
  ·refine SR (gK 1 [(6,vI 177)] [] ?_)
   refine NN (af.ret (ai.ar ?_))
   exact RT (vI 177) [0,1,2,3,4] (⟨congrArg (Value.int .i64) (Eq.symm (show ck S.X S.O S.idx d name=_ from (if_pos hlk).trans (if_neg uS))),rfl⟩)
  refine af.skip (NX (SR (gK 1 [(6,vI 0)] [] ?_)))
  refine NN (af.ret ?_)
  exact RT (vI 0) [0,1,2,3,4] (⟨congrArg (Value.int .i64) (Eq.symm (show ck S.X S.O S.idx d name=_ from (if_pos hlk).trans (if_pos uS))),rfl⟩)
 ·have hkt:(obj S.O tk).kind=1:=hI.kind hlv
  refine af.region (gK 1 [] [] ?_)
  refine NN (af.seq (SR (gK 5 [(10,.map (some (L.m d))),(11,.string name)] [(3,v_ 3 (bD L hkd))] ?_)))
  refine iA 2 hkd hlk ?_
  refine gK 1 [(13,.bool true)] [] ?_
  refine NN (CT (SR (gK 1 [(6,vI 171)] [] ?_)))
  refine NN (af.ret (ai.ar ?_))
  exact RT (vI 171) [0,1,2,3,4] (⟨congrArg (Value.int .i64) (Eq.symm (show ck S.X S.O S.idx d name=_ from if_neg (by rw [hlk];simp))),rfl⟩)
 ·have hkt:(obj S.O tk).kind=2:=hI.kind hlv
  refine af.region (gK 1 [] [] ?_)
  refine NN (af.seq (SR (gK 5 [(10,.map (some (L.m d))),(11,.string name)] [(3,v_ 3 (bD L hkd))] ?_)))
  refine iA 2 hkd hlk ?_
  refine gK 1 [(13,.bool true)] [] ?_
  refine NN (CT (SR (gK 1 [(6,vI 171)] [] ?_)))
  refine NN (af.ret (ai.ar ?_))
  exact RT (vI 171) [0,1,2,3,4] (⟨congrArg (Value.int .i64) (Eq.symm (show ck S.X S.O S.idx d name=_ from if_neg (by rw [hlk];simp))),rfl⟩)
 have hkt:(obj S.O tk).kind=3:=hI.kind hlv
 refine af.region (gK 1 [] [] ?_)
 refine NN (af.seq (SR (gK 5 [(10,.map (some (L.m d))),(11,.string name)] [(3,v_ 3 (bD L hkd))] ?_)))
 refine iA 2 hkd hlk ?_
 refine gK 1 [(13,.bool true)] [] ?_
 refine NN (CT (SR (gK 1 [(6,vI 171)] [] ?_)))
 refine NN (af.ret (ai.ar ?_))
 exact RT (vI 171) [0,1,2,3,4] (⟨congrArg (Value.int .i64) (Eq.symm (show ck S.X S.O S.idx d name=_ from if_neg (by rw [hlk];simp))),rfl⟩)
theorem PK {β:Bs} (s:ByteArray) (hsz:s.size<=1048576) :
    Spec Tryz.prog β 167 #[.string s] [] (fun v l=>v=vI (nD s)/\l=[]):=by
 refine Spec.enter Tryz.func167 rfl Tryz.ntmps167 (Nat.le_of_ble_eq_true rfl) (fun R=>?_)
 refine SR (gK 1 [] [] ?_)
 refine NN (af.seq (af.block (SR ?_)))
 refine gK 3 [(3,.bool (decide ((s:ByteArray)=⟨#[]⟩)))] [(1,p_ ⟨[],none,none,none,some (.bool (decide ((s:ByteArray)=⟨#[]⟩)))⟩ [(Value.bool ((s:ByteArray).toList == (⟨#[]⟩:ByteArray).toList))=(.bool (decide ((s:ByteArray)=⟨#[]⟩)))] ⟨uH _ _,trivial⟩)] ?_
 refine NN (af.bg (p:=(s:ByteArray)=⟨#[]⟩) (fun _=>by kernel_rfl) (fun h3=>?_) (fun h3=>?_))
 ·refine SR (gK 1 [(2,vI 90)] [] ?_)
  refine NN (af.ret (ai.aG (ai.ar ?_)))
  exact RT (vI 90) [0] (⟨congrArg (Value.int .i64) (Eq.symm (show nD s=_ from if_pos h3)),rfl⟩)
 refine SR (gK 4 [(6,.bool (decide (((((s:ByteArray).size:Nat):Int):Int) > (4096:Int))))] [] ?_)
 refine NN (af.bg (p:=((((s:ByteArray).size:Nat):Int):Int) > (4096:Int)) (fun _=>by kernel_rfl) (fun h6=>?_) (fun h6=>?_))
 ·refine SR (gK 1 [(2,vI 93)] [] ?_)
  refine NN (af.ret (ai.aG (ai.ar ?_)))
  exact RT (vI 93) [0] (⟨congrArg (Value.int .i64) (Eq.symm (show nD s=_ from (if_neg h3).trans (if_pos (by omega)))),rfl⟩)
 refine SR (gK 1 [(11,.string s)] [] ?_)
 refine gL [] (GR s) ?_
 rintro _ _ ⟨⟨x,rfl,hx⟩,rfl⟩
 refine gK 2 [(10,.bool (decide ((x:Int) ≥ (0:Int))))] [] ?_
 refine NN (af.bg (p:=(x:Int) ≥ (0:Int)) (fun _=>by kernel_rfl) (fun h10=>?_) (fun h10=>?_))
 ·refine SR (gK 1 [(2,vI 91)] [] ?_)
  refine NN (af.ret (ai.aG (ai.ar ?_)))
  exact RT (vI 91) [0] (⟨congrArg (Value.int .i64) (Eq.symm (show nD s=_ from (if_neg h3).trans ((if_neg (by omega)).trans (if_neg (hx.1 (by omega)))))),rfl⟩)
 refine af.skip (ai.aJ (NX (SR ?_)))
 refine gK 1 [(2,vI 0)] [] ?_
 refine NN (af.ret ?_)
 exact RT (vI 0) [0] (⟨congrArg (Value.int .i64) (Eq.symm (show nD s=_ from (if_neg h3).trans ((if_neg (by omega)).trans (if_pos (Classical.byContradiction (fun hn=>absurd (hx.2 hn) (by omega))))))),rfl⟩)
theorem tf {β:Bs} (S:aI) (L:HL) (f m t:Nat) (th:Th) (hkt:(obj S.O th.k).kind=th.kind) (h3:th.kind=1\/th.kind=2\/th.kind=3) (hop:0<=(obj S.O th.k).opens/\(obj S.O th.k).opens<=1048576) :
    Spec Tryz.prog β 121 #[vP f,(dQ L th)] [pF f m t S.X,pT t S.X.cH S.aD L S.us,pO S.O L] (fun v l=>v=.tuple #[vI (cu S th).1,vI (cu S th).2.1]/\l=[pF f m t S.X,pT t S.X.cH ((cu S th).2.2.aD) L ((cu S th).2.2.us),pO ((cu S th).2.2.O) L]):=by
 refine Spec.enter Tryz.func121 rfl Tryz.ntmps121 (Nat.le_of_ble_eq_true rfl) (fun R=>?_)
 refine af.seq ?_
 obtain⟨tk,kd⟩:=th;simp only at hkt h3;rcases Int.lt_or_le (S.us.length:Int) S.X.cH with tX|tX<;>rcases h3 with e0|e0|e0<;>subst e0
 ·replace hkt:(obj S.O tk).kind=1:=hkt
  replace hop:0<=(obj S.O tk).opens/\(obj S.O tk).opens<=1048576:=hop
  refine af.region (gK 2 [] [] ?_)
  refine NS (gK 5 [(12,vP t),(13,.iface 129 (vP (L.b tk)))] [(3,a_ 0 f)] ?_)
  refine gL [1] ((Ax t S.X.cH S.aD (bq L S.us) (dQ L ⟨tk,1⟩) (by rw [qc];exact tX)).mono (fun v l h=>C5 h)) ?_
  rintro _ _ ⟨rfl,rfl⟩
  refine gK 5 [(6,vI ((aE.least S.us))),(7,vI 0)] [] ?_
  refine NN (af.seq (SR (gK 2 [(18,.bool true)] [] ?_)))
  refine NN (CT (af.region (gK 1 [(19,.iface 129 (vP (L.b tk)))] [] ?_)))
  refine gL [] (dw (L.b tk)) ?_
  rintro _ _ ⟨rfl,rfl⟩
  refine gK 6 (Rp S tk L) [(2,v_ 2 (jV L hkt)),(3,p_ ⟨[],none,none,none,some (vI ((obj S.O tk).opens+1))⟩ [(Value.int .i64 (IntKind.wrap .i64 ((obj S.O tk).opens+1)))=(.int .i64 ((obj S.O tk).opens+1))] ⟨bA (by omega) (by omega) (by omega),trivial⟩)] ?_
  refine sZ 2 [] tk 7 (fun o=>{ o with opens:=o.opens+1 }) hkt (fun cK ct=>?_)
  have Wy:=ku ct hkt
  refine NS (gK 4 [(4,vI ((aE.least S.us))),(5,vI 0)] [] ?_)
  refine NN (af.ret ?_)
  exact RT (l:=[pF f m t S.X,pT t S.X.cH (max S.aD ((S.us.length:Int)+1)) L (ins (aE.least S.us) ⟨tk,1⟩ S.us),pO cK L]) (.tuple #[vI ((aE.least S.us)),vI 0]) [1,0,2,3] (by subst ct;rw [show cu S ⟨tk,1⟩=_ from kW tX]<;>exact⟨rfl,rfl⟩)
 ·replace hkt:(obj S.O tk).kind=2:=hkt
  replace hop:0<=(obj S.O tk).opens/\(obj S.O tk).opens<=1048576:=hop
  refine af.region (gK 2 [] [] ?_)
  refine NS (gK 5 [(12,vP t),(13,.iface 135 (vP (L.b tk)))] [(3,a_ 0 f)] ?_)
  refine gL [1] ((Ax t S.X.cH S.aD (bq L S.us) (dQ L ⟨tk,2⟩) (by rw [qc];exact tX)).mono (fun v l h=>C5 h)) ?_
  rintro _ _ ⟨rfl,rfl⟩
  refine gK 5 [(6,vI ((aE.least S.us))),(7,vI 0)] [] ?_
  refine NN (af.seq (SR (gK 2 [(18,.bool true)] [] ?_)))
  refine NN (CT (af.region (gK 1 [(19,.iface 135 (vP (L.b tk)))] [] ?_)))
  refine gL [] (dw (L.b tk)) ?_
  rintro _ _ ⟨rfl,rfl⟩
  refine gK 6 (Rp S tk L) [(2,v_ 2 (jV L hkt)),(3,p_ ⟨[],none,none,none,some (vI ((obj S.O tk).opens+1))⟩ [(Value.int .i64 (IntKind.wrap .i64 ((obj S.O tk).opens+1)))=(.int .i64 ((obj S.O tk).opens+1))] ⟨bA (by omega) (by omega) (by omega),trivial⟩)] ?_
  refine sZ 2 [] tk 7 (fun o=>{ o with opens:=o.opens+1 }) hkt (fun cK ct=>?_)
  have OJ:=ku ct hkt
  refine NS (gK 4 [(4,vI ((aE.least S.us))),(5,vI 0)] [] ?_)
  refine NN (af.ret ?_)
  exact RT (l:=[pF f m t S.X,pT t S.X.cH (max S.aD ((S.us.length:Int)+1)) L (ins (aE.least S.us) ⟨tk,2⟩ S.us),pO cK L]) (.tuple #[vI ((aE.least S.us)),vI 0]) [1,0,2,3] (by subst ct;rw [show cu S ⟨tk,2⟩=_ from kW tX]<;>exact⟨rfl,rfl⟩)
 ·replace hkt:(obj S.O tk).kind=3:=hkt
  replace hop:0<=(obj S.O tk).opens/\(obj S.O tk).opens<=1048576:=hop
  refine af.region (gK 2 [] [] ?_)
  refine NS (gK 5 [(12,vP t),(13,.iface 132 (vP (L.b tk)))] [(3,a_ 0 f)] ?_)
  refine gL [1] ((Ax t S.X.cH S.aD (bq L S.us) (dQ L ⟨tk,3⟩) (by rw [qc];exact tX)).mono (fun v l h=>C5 h)) ?_
  rintro _ _ ⟨rfl,rfl⟩
  refine gK 5 [(6,vI ((aE.least S.us))),(7,vI 0)] [] ?_
  refine NN (af.seq (SR (gK 2 [(18,.bool true)] [] ?_)))
  refine NN (CT (af.region (gK 1 [(19,.iface 132 (vP (L.b tk)))] [] ?_)))
  refine gL [] (dw (L.b tk)) ?_
  rintro _ _ ⟨rfl,rfl⟩
  refine gK 6 (Rp S tk L) [(2,v_ 2 (jV L hkt)),(3,p_ ⟨[],none,none,none,some (vI ((obj S.O tk).opens+1))⟩ [(Value.int .i64 (IntKind.wrap .i64 ((obj S.O tk).opens+1)))=(.int .i64 ((obj S.O tk).opens+1))] ⟨bA (by omega) (by omega) (by omega),trivial⟩)] ?_
  refine sZ 2 [] tk 7 (fun o=>{ o with opens:=o.opens+1 }) hkt (fun cK ct=>?_)
  have EO:=ku ct hkt
  refine NS (gK 4 [(4,vI ((aE.least S.us))),(5,vI 0)] [] ?_)
  refine NN (af.ret ?_)
  exact RT (l:=[pF f m t S.X,pT t S.X.cH (max S.aD ((S.us.length:Int)+1)) L (ins (aE.least S.us) ⟨tk,3⟩ S.us),pO cK L]) (.tuple #[vI ((aE.least S.us)),vI 0]) [1,0,2,3] (by subst ct;rw [show cu S ⟨tk,3⟩=_ from kW tX]<;>exact⟨rfl,rfl⟩)
 ·replace hkt:(obj S.O tk).kind=1:=hkt
  replace hop:0<=(obj S.O tk).opens/\(obj S.O tk).opens<=1048576:=hop
  refine af.region (gK 2 [] [] ?_)
  refine NS (gK 5 [(12,vP t),(13,.iface 129 (vP (L.b tk)))] [(3,a_ 0 f)] ?_)
  refine gL [1] (xO t S.X.cH S.aD (bq L S.us) (dQ L ⟨tk,1⟩) (by rw [qc];exact tX)) ?_
  rintro _ _ ⟨rfl,rfl⟩
  refine gK 5 [(6,vI 0),(7,vI 130)] [] ?_
  refine NN (af.seq (SR (gK 2 [(18,.bool false)] [] ?_)))
  refine NN (CF (af.skip (NX (SR (gK 4 [(4,vI 0),(5,vI 130)] [] ?_)))))
  refine NN (af.ret ?_)
  exact RT (.tuple #[vI 0,vI 130]) [1,0,2,3] (by skip;rw [show cu S ⟨tk,1⟩=_ from mE (by omega)]<;>exact⟨rfl,rfl⟩)
 ·replace hkt:(obj S.O tk).kind=2:=hkt
  replace hop:0<=(obj S.O tk).opens/\(obj S.O tk).opens<=1048576:=hop
  refine af.region (gK 2 [] [] ?_)
  refine NS (gK 5 [(12,vP t),(13,.iface 135 (vP (L.b tk)))] [(3,a_ 0 f)] ?_)
  refine gL [1] (xO t S.X.cH S.aD (bq L S.us) (dQ L ⟨tk,2⟩) (by rw [qc];exact tX)) ?_
  rintro _ _ ⟨rfl,rfl⟩
  refine gK 5 [(6,vI 0),(7,vI 130)] [] ?_
  refine NN (af.seq (SR (gK 2 [(18,.bool false)] [] ?_)))
  refine NN (CF (af.skip (NX (SR (gK 4 [(4,vI 0),(5,vI 130)] [] ?_)))))
  refine NN (af.ret ?_)
  exact RT (.tuple #[vI 0,vI 130]) [1,0,2,3] (by skip;rw [show cu S ⟨tk,2⟩=_ from mE (by omega)]<;>exact⟨rfl,rfl⟩)
 replace hkt:(obj S.O tk).kind=3:=hkt
 replace hop:0<=(obj S.O tk).opens/\(obj S.O tk).opens<=1048576:=hop
 refine af.region (gK 2 [] [] ?_)
 refine NS (gK 5 [(12,vP t),(13,.iface 132 (vP (L.b tk)))] [(3,a_ 0 f)] ?_)
 refine gL [1] (xO t S.X.cH S.aD (bq L S.us) (dQ L ⟨tk,3⟩) (by rw [qc];exact tX)) ?_
 rintro _ _ ⟨rfl,rfl⟩
 refine gK 5 [(6,vI 0),(7,vI 130)] [] ?_
 refine NN (af.seq (SR (gK 2 [(18,.bool false)] [] ?_)))
 refine NN (CF (af.skip (NX (SR (gK 4 [(4,vI 0),(5,vI 130)] [] ?_)))))
 refine NN (af.ret ?_)
 exact RT (.tuple #[vI 0,vI 130]) [1,0,2,3] (by skip;rw [show cu S ⟨tk,3⟩=_ from mE (by omega)]<;>exact⟨rfl,rfl⟩)
theorem eF {β:Bs} (S:aI) (L:HL) (f m t:Nat) (hI:Inv S) (h:Int) (hw:(Lit.int .i64 h).wf=true) (name:ByteArray) (hsz:name.size<=1048576) (need:Int) :
    Spec Tryz.prog β 123 #[vP f,vI (h),.string name,vI (need)] [pF f m t S.X,pT t S.X.cH S.aD L S.us,pO S.O L] (fun v l=>v=UA L (d9 S.O S.us h name need)/\l=[pF f m t S.X,pT t S.X.cH S.aD L S.us,pO S.O L]):=by
 refine Spec.enter Tryz.func123 rfl Tryz.ntmps123 (Nat.le_of_ble_eq_true rfl) (fun R=>?_)
 refine af.seq ?_
 rcases hI.hand h with dN|⟨tk,dN,hlv⟩|⟨tk,dN,hlv⟩
 ·refine af.region (gK 2 [] [] ?_)
  refine NS (gK 5 [(18,vP t),(19,vI (h))] [(3,a_ 0 f)] ?_)
  refine gL [1] (qK t S.X.cH S.aD (bq L S.us) h hw (qd dN)) ?_
  rintro _ _ ⟨rfl,rfl⟩
  refine gK 5 [(10,.nilIface),(11,vI 131)] [] ?_
  refine NN (af.seq (SR (gK 2 [(24,.bool true)] [] ?_)))
  refine NN (CT (SR (gK 3 [(8,.pointer none),(9,vI 131)] [] ?_)))
  refine NN (af.ret (ai.ar ?_))
  exact RT (.tuple #[.pointer none,vI 131]) [1,0,2,3] (⟨by rw [show d9 S.O S.us h name need=.error 131 by unfold d9;rw [dN]];rfl,rfl⟩)
 ·have hkt:(obj S.O tk).kind=1:=hI.kind hlv
  refine af.region (gK 2 [] [] ?_)
  refine NS (gK 5 [(18,vP t),(19,vI (h))] [(3,a_ 0 f)] ?_)
  refine gL [1] (lu t S.X.cH S.aD (bq L S.us) h hw (dQ L ⟨tk,1⟩) (kq dN)) ?_
  rintro _ _ ⟨rfl,rfl⟩
  refine gK 5 [(10,.iface 129 (vP (L.b tk))),(11,vI 0)] [] ?_
  refine NN (af.seq (SR (gK 2 [(24,.bool false)] [] ?_)))
  refine NN (CF (af.skip (NX (SR (gK 7 [(12,.pointer none),(13,.bool false)] [] ?_)))))
  refine NN (af.seq (af.block (SR ?_)))
  refine gK 3 [(31,.bool true)] [] ?_
  refine NN (CT (SR (gK 2 [(8,.pointer none),(9,vI 173)] [] ?_)))
  refine NN (af.ret (ai.aG (ai.ar ?_)))
  exact RT (.tuple #[.pointer none,vI 173]) [1,0,2,3] (⟨by rw [show d9 S.O S.us h name need=.error 173 by unfold d9;rw [dN];exact if_neg (by simp)];rfl,rfl⟩)
 have hkt:(obj S.O tk).kind=2:=hI.kind hlv
 refine af.region (gK 2 [] [] ?_)
 refine NS (gK 5 [(18,vP t),(19,vI (h))] [(3,a_ 0 f)] ?_)
 refine gL [1] (lu t S.X.cH S.aD (bq L S.us) h hw (dQ L ⟨tk,2⟩) (kq dN)) ?_
 rintro _ _ ⟨rfl,rfl⟩
 refine gK 5 [(10,.iface 135 (vP (L.b tk))),(11,vI 0)] [] ?_
 refine NN (af.seq (SR (gK 2 [(24,.bool false)] [] ?_)))
 refine NN (CF (af.skip (NX (SR (gK 7 [(12,vP (L.b tk)),(13,.bool true)] [] ?_)))))
 refine NN (af.seq (af.block (SR ?_)))
 refine gK 3 [(31,.bool false)] [] ?_
 refine NN (CF (SR (gK 6 [(34,.bool (obj S.O tk).gone)] [(4,v_ 2 (nQ L hkt))] ?_)))
 refine NN (af.cond (b:=(obj S.O tk).gone) (fun _=>by kernel_rfl) (fun zE=>?_) (fun zE=>?_))
 ·refine SR (gK 2 [(8,.pointer none),(9,vI 170)] [] ?_)
  refine NN (af.ret (ai.aG (ai.ar ?_)))
  exact RT (.tuple #[.pointer none,vI 170]) [1,0,2,3] (⟨by rw [show d9 S.O S.us h name need=.error 170 by unfold d9;rw [dN];exact (if_pos rfl).trans (if_pos zE)];rfl,rfl⟩)
 refine SR (gK 1 [(41,.string name)] [] ?_)
 refine gL [] (sJ name hsz) ?_
 rintro _ _ ⟨rfl,rfl⟩
 refine gK 2 [(40,.bool (!(decide (bO name))))] [] ?_
 refine NN (af.dm (p:=bO name) (fun _=>by kernel_rfl) (fun OQ=>?_) (fun OQ=>?_))
 ·refine SR (gK 2 [(8,.pointer none),(9,vI 95)] [] ?_)
  refine NN (af.ret (ai.aG (ai.ar ?_)))
  exact RT (.tuple #[.pointer none,vI 95]) [1,0,2,3] (⟨by rw [show d9 S.O S.us h name need=.error 95 by unfold d9;rw [dN];exact (if_pos rfl).trans ((if_neg (by rw [zE];decide)).trans (if_neg OQ))];rfl,rfl⟩)
 refine SR (gK 10 [(44,.bool (!(decide ((bits BinOp.and .i64 ((obj S.O tk).mode) need:Int)=(need:Int)))))] [(4,v_ 2 (sY L hkt))] ?_)
 refine NN (af.dm (p:=(bits BinOp.and .i64 ((obj S.O tk).mode) need:Int)=(need:Int)) (fun _=>by kernel_rfl) (fun Kk=>?_) (fun Kk=>?_))
 ·refine SR (gK 2 [(8,.pointer none),(9,vI 175)] [] ?_)
  refine NN (af.ret (ai.aG (ai.ar ?_)))
  exact RT (.tuple #[.pointer none,vI 175]) [1,0,2,3] (⟨by rw [show d9 S.O S.us h name need=.error 175 by unfold d9;rw [dN];exact (if_pos rfl).trans ((if_neg (by rw [zE];decide)).trans ((if_pos OQ).trans (if_neg Kk)))];rfl,rfl⟩)
 refine af.skip (ai.aJ (NX (SR ?_)))
 refine gK 3 [(8,vP (L.b tk)),(9,vI 0)] [] ?_
 refine NN (af.ret ?_)
 exact RT (.tuple #[vP (L.b tk),vI 0]) [1,0,2,3] (⟨by rw [show d9 S.O S.us h name need=.ok tk by unfold d9;rw [dN];exact (if_pos rfl).trans ((if_neg (by rw [zE];decide)).trans ((if_pos OQ).trans (if_pos Kk)))];rfl,rfl⟩)
theorem PL {β:Bs} (X:FM) (f m t:Nat) (hX:0<=X.ah/\X.ah<=1048576/\-1125899906842624<=X.used/\X.used<=1125899906842624/\0<=X.last/\X.last<=1125899906842624) (O:cg) (L:HL) (d:Nat) (hkd:(obj O d).kind=2) (name:ByteArray) (hsz:name.size<=1048576) (hno:aX name (obj O d).ah=none) (hel:(obj O d).ah.length<=1048576) (idx:Used Th) (hil:idx.length<=1048576) (th:Th) (hkt:(obj O th.k).kind=th.kind) (h3:th.kind=1\/th.kind=2\/th.kind=3) (hb:0<=(obj O th.k).links/\(obj O th.k).links<=1048576) (hni:aE.get idx (obj O th.k).id=none) (hw:(Lit.int .i64 (obj O th.k).id).wf=true) :
    Spec Tryz.prog β 127 #[vP f,vP (L.b d),.string name,(dQ L th)] [pF f m t X,pI m L idx,pO O L,pE O L] (fun v l=>v=.tuple #[]/\l=[pF f m t { X with ah:=X.ah+1 },pI m L (ins (obj O th.k).id th idx),pO (di X O d name th) L,pE (di X O d name th) L]):=by
 refine Spec.enter Tryz.func127 rfl Tryz.ntmps127 (Nat.le_of_ble_eq_true rfl) (fun R=>?_)
 refine af.seq ?_
 obtain⟨tk,kd⟩:=th;simp only at hkt h3;rcases h3 with rfl|rfl|rfl
 ·replace hkt:(obj O tk).kind=1:=hkt
  replace hni:aE.get idx (obj O tk).id=none:=hni
  replace hw:(Lit.int .i64 (obj O tk).id).wf=true:=hw
  refine af.bT (S:=(wT f m t X L idx O R)) [0,1,2,3,4,9,5,6,7,8,10] 6 [0,1,2,3,4] (by kernel_rfl) (by kernel_rfl) rfl (by kernel_rfl) ?_
  refine gR 0 [5,6,7,8,10] (F8 f L d name++[(3,.iface 129 (vP (L.b tk))),(11,.map (some m)),(12,.iface 129 (vP (L.b tk))),(17,.iface 129 (vP (L.b tk)))]) [0,1,2,3,4,9] [(3,a_ 0 f)] ?_
  refine mL [0,1,2,3,4] [] (dw (L.b tk)) ?_ (by rintro _ _ ⟨rfl,rfl⟩;rfl)
  rintro _ _ ⟨rfl,rfl⟩
  refine aQ.cut (ι:=Unit) (fr':=fun (_:Unit)=>(Cp f L d name++[(3,.iface 129 (vP (L.b tk))),(11,.map (some m)),(14,vP (L.b tk)),(17,.iface 129 (vP (L.b tk)))])) (hp':=fun (_:Unit)=>(wT f m t X L idx O R)) [0,1,2,3,4] rfl rfl ?_ rfl (fun _=>by kernel_rfl) ?_
  ·refine gK 1 [(14,vP (L.b tk))] [] ?_
   refine NL ?_
   exact MD () [0,1,2,3,11,14,17] [0,1,2,3,4]
  rintro _
  refine aQ.cut (ι:=Unit) (fr':=fun (_:Unit)=>(Cp f L d name++[(3,.iface 129 (vP (L.b tk))),(11,.map (some m)),(15,vP (L.b tk)),(17,.iface 129 (vP (L.b tk)))])) (hp':=fun (_:Unit)=>(wT f m t X L idx O R)) [0,1,2,3,4] rfl rfl ?_ rfl (fun _=>by kernel_rfl) ?_
  ·refine gK 1 [(15,vP (L.b tk))] [] ?_
   refine NL ?_
   exact MD () [0,1,2,3,11,15,17] [0,1,2,3,4]
  rintro _
  refine aQ.cut (ι:=Unit) (fr':=fun (_:Unit)=>(Cp f L d name++[(3,.iface 129 (vP (L.b tk))),(11,.map (some m)),(16,vI ((obj O tk).id)),(17,.iface 129 (vP (L.b tk)))])) (hp':=fun (_:Unit)=>(wT f m t X L idx O R)) [0,1,2,3,4] rfl rfl ?_ rfl (fun _=>by kernel_rfl) ?_
  ·refine gK 1 [(16,vI ((obj O tk).id))] [(0,v_ 2 (rf L hkt))] ?_
   refine NL ?_
   exact MD () [0,1,2,3,11,16,17] [0,1,2,3,4]
  rintro _
  refine aQ.last rfl rfl ?_
  refine aj.kG 1 (d:=none) (t:=120) (K:=3) (E:=124) (b:=m) (n:=idx.length) (f:=(bp (bq L idx))) (x:=(.tmp 11)) (ix:=(.tmp 16)) (y:=(.tmp 17)) (key:=.int .i64 ((obj O tk).id)) (u:=.iface 129 (vP (L.b tk))) (kl:=(.int .i64 (obj O tk).id)) (n':=(idx.length+1)) (f':=(bp (bq L (ins (obj O tk).id ⟨tk,1⟩ idx)))) (fun _=>by kernel_rfl) (by kernel_rfl) (fun _=>by kernel_rfl) (fun _=>by kernel_rfl) (fun _=>by kernel_rfl) d6 Tryz.underlying120 (by unfold maxLen;omega) (gX hw) (by rw [fw,hni];rfl) (sx (L:=L) (t:=⟨tk,1⟩) hni) ?_
  refine NL (ai.np (NX (af.region ?_)))
  refine gK 4 (Rn f L d name++[(21,.iface 129 (vP (L.b tk)))]) [] ?_
  refine gL [0,2,3] (iE X f m t hX O L d hkd name hsz hno hel ⟨tk,1⟩ hkt (by simp) hb) ?_
  rintro _ _ ⟨rfl,rfl⟩
  refine NL (ai.dG [(3,.abs (aN Tryz.prog 3 m (bp (bq L (ins (obj O tk).id ⟨tk,1⟩ idx))) ((ins (obj O tk).id ⟨tk,1⟩ idx).length)))] (fun w hS=>by rw [show (ins (obj O tk).id ⟨tk,1⟩ idx).length=idx.length+1 from iP _ _ _];exact hS) ?_)
  exact RF (.tuple #[]) [0,3,1,2,4] (⟨rfl,rfl⟩)
 ·replace hkt:(obj O tk).kind=2:=hkt
  replace hni:aE.get idx (obj O tk).id=none:=hni
  replace hw:(Lit.int .i64 (obj O tk).id).wf=true:=hw
  refine af.bT (S:=(wT f m t X L idx O R)) [0,1,2,3,4,9,5,6,7,8,10] 6 [0,1,2,3,4] (by kernel_rfl) (by kernel_rfl) rfl (by kernel_rfl) ?_
  refine gR 0 [5,6,7,8,10] (F8 f L d name++[(3,.iface 135 (vP (L.b tk))),(11,.map (some m)),(12,.iface 135 (vP (L.b tk))),(17,.iface 135 (vP (L.b tk)))]) [0,1,2,3,4,9] [(3,a_ 0 f)] ?_
  refine mL [0,1,2,3,4] [] (dw (L.b tk)) ?_ (by rintro _ _ ⟨rfl,rfl⟩;rfl)
  rintro _ _ ⟨rfl,rfl⟩
  refine aQ.cut (ι:=Unit) (fr':=fun (_:Unit)=>(Cp f L d name++[(3,.iface 135 (vP (L.b tk))),(11,.map (some m)),(14,vP (L.b tk)),(17,.iface 135 (vP (L.b tk)))])) (hp':=fun (_:Unit)=>(wT f m t X L idx O R)) [0,1,2,3,4] rfl rfl ?_ rfl (fun _=>by kernel_rfl) ?_
  ·refine gK 1 [(14,vP (L.b tk))] [] ?_
   refine NL ?_
   exact MD () [0,1,2,3,11,14,17] [0,1,2,3,4]
  rintro _
  refine aQ.cut (ι:=Unit) (fr':=fun (_:Unit)=>(Cp f L d name++[(3,.iface 135 (vP (L.b tk))),(11,.map (some m)),(15,vP (L.b tk)),(17,.iface 135 (vP (L.b tk)))])) (hp':=fun (_:Unit)=>(wT f m t X L idx O R)) [0,1,2,3,4] rfl rfl ?_ rfl (fun _=>by kernel_rfl) ?_
  ·refine gK 1 [(15,vP (L.b tk))] [] ?_
   refine NL ?_
   exact MD () [0,1,2,3,11,15,17] [0,1,2,3,4]
  rintro _
  refine aQ.cut (ι:=Unit) (fr':=fun (_:Unit)=>(Cp f L d name++[(3,.iface 135 (vP (L.b tk))),(11,.map (some m)),(16,vI ((obj O tk).id)),(17,.iface 135 (vP (L.b tk)))])) (hp':=fun (_:Unit)=>(wT f m t X L idx O R)) [0,1,2,3,4] rfl rfl ?_ rfl (fun _=>by kernel_rfl) ?_
  ·refine gK 1 [(16,vI ((obj O tk).id))] [(0,v_ 2 (rf L hkt))] ?_
   refine NL ?_
   exact MD () [0,1,2,3,11,16,17] [0,1,2,3,4]
  rintro _
  refine aQ.last rfl rfl ?_
  refine aj.kG 1 (d:=none) (t:=120) (K:=3) (E:=124) (b:=m) (n:=idx.length) (f:=(bp (bq L idx))) (x:=(.tmp 11)) (ix:=(.tmp 16)) (y:=(.tmp 17)) (key:=.int .i64 ((obj O tk).id)) (u:=.iface 135 (vP (L.b tk))) (kl:=(.int .i64 (obj O tk).id)) (n':=(idx.length+1)) (f':=(bp (bq L (ins (obj O tk).id ⟨tk,2⟩ idx)))) (fun _=>by kernel_rfl) (by kernel_rfl) (fun _=>by kernel_rfl) (fun _=>by kernel_rfl) (fun _=>by kernel_rfl) d6 Tryz.underlying120 (by unfold maxLen;omega) (gX hw) (by rw [fw,hni];rfl) (sx (L:=L) (t:=⟨tk,2⟩) hni) ?_
  refine NL (ai.np (NX (af.region ?_)))
  refine gK 4 (Rn f L d name++[(21,.iface 135 (vP (L.b tk)))]) [] ?_
  refine gL [0,2,3] (iE X f m t hX O L d hkd name hsz hno hel ⟨tk,2⟩ hkt (by simp) hb) ?_
  rintro _ _ ⟨rfl,rfl⟩
  refine NL (ai.dG [(3,.abs (aN Tryz.prog 3 m (bp (bq L (ins (obj O tk).id ⟨tk,2⟩ idx))) ((ins (obj O tk).id ⟨tk,2⟩ idx).length)))] (fun w hS=>by rw [show (ins (obj O tk).id ⟨tk,2⟩ idx).length=idx.length+1 from iP _ _ _];exact hS) ?_)
  exact RF (.tuple #[]) [0,3,1,2,4] (⟨rfl,rfl⟩)
 replace hkt:(obj O tk).kind=3:=hkt
 replace hni:aE.get idx (obj O tk).id=none:=hni
 replace hw:(Lit.int .i64 (obj O tk).id).wf=true:=hw
 refine af.bT (S:=(wT f m t X L idx O R)) [0,1,2,3,4,9,5,6,7,8,10] 6 [0,1,2,3,4] (by kernel_rfl) (by kernel_rfl) rfl (by kernel_rfl) ?_
 refine gR 0 [5,6,7,8,10] (F8 f L d name++[(3,.iface 132 (vP (L.b tk))),(11,.map (some m)),(12,.iface 132 (vP (L.b tk))),(17,.iface 132 (vP (L.b tk)))]) [0,1,2,3,4,9] [(3,a_ 0 f)] ?_
 refine mL [0,1,2,3,4] [] (dw (L.b tk)) ?_ (by rintro _ _ ⟨rfl,rfl⟩;rfl)
 rintro _ _ ⟨rfl,rfl⟩
 refine aQ.cut (ι:=Unit) (fr':=fun (_:Unit)=>(Cp f L d name++[(3,.iface 132 (vP (L.b tk))),(11,.map (some m)),(14,vP (L.b tk)),(17,.iface 132 (vP (L.b tk)))])) (hp':=fun (_:Unit)=>(wT f m t X L idx O R)) [0,1,2,3,4] rfl rfl ?_ rfl (fun _=>by kernel_rfl) ?_
 ·refine gK 1 [(14,vP (L.b tk))] [] ?_
  refine NL ?_
  exact MD () [0,1,2,3,11,14,17] [0,1,2,3,4]
 rintro _
 refine aQ.cut (ι:=Unit) (fr':=fun (_:Unit)=>(Cp f L d name++[(3,.iface 132 (vP (L.b tk))),(11,.map (some m)),(15,vP (L.b tk)),(17,.iface 132 (vP (L.b tk)))])) (hp':=fun (_:Unit)=>(wT f m t X L idx O R)) [0,1,2,3,4] rfl rfl ?_ rfl (fun _=>by kernel_rfl) ?_
 ·refine gK 1 [(15,vP (L.b tk))] [] ?_
  refine NL ?_
  exact MD () [0,1,2,3,11,15,17] [0,1,2,3,4]
 rintro _
 refine aQ.cut (ι:=Unit) (fr':=fun (_:Unit)=>(Cp f L d name++[(3,.iface 132 (vP (L.b tk))),(11,.map (some m)),(16,vI ((obj O tk).id)),(17,.iface 132 (vP (L.b tk)))])) (hp':=fun (_:Unit)=>(wT f m t X L idx O R)) [0,1,2,3,4] rfl rfl ?_ rfl (fun _=>by kernel_rfl) ?_
 ·refine gK 1 [(16,vI ((obj O tk).id))] [(0,v_ 2 (rf L hkt))] ?_
  refine NL ?_
  exact MD () [0,1,2,3,11,16,17] [0,1,2,3,4]
 rintro _
 refine aQ.last rfl rfl ?_
 refine aj.kG 1 (d:=none) (t:=120) (K:=3) (E:=124) (b:=m) (n:=idx.length) (f:=(bp (bq L idx))) (x:=(.tmp 11)) (ix:=(.tmp 16)) (y:=(.tmp 17)) (key:=.int .i64 ((obj O tk).id)) (u:=.iface 132 (vP (L.b tk))) (kl:=(.int .i64 (obj O tk).id)) (n':=(idx.length+1)) (f':=(bp (bq L (ins (obj O tk).id ⟨tk,3⟩ idx)))) (fun _=>by kernel_rfl) (by kernel_rfl) (fun _=>by kernel_rfl) (fun _=>by kernel_rfl) (fun _=>by kernel_rfl) d6 Tryz.underlying120 (by unfold maxLen;omega) (gX hw) (by rw [fw,hni];rfl) (sx (L:=L) (t:=⟨tk,3⟩) hni) ?_
 refine NL (ai.np (NX (af.region ?_)))
 refine gK 4 (Rn f L d name++[(21,.iface 132 (vP (L.b tk)))]) [] ?_
 refine gL [0,2,3] (iE X f m t hX O L d hkd name hsz hno hel ⟨tk,3⟩ hkt (by simp) hb) ?_
 rintro _ _ ⟨rfl,rfl⟩
 refine NL (ai.dG [(3,.abs (aN Tryz.prog 3 m (bp (bq L (ins (obj O tk).id ⟨tk,3⟩ idx))) ((ins (obj O tk).id ⟨tk,3⟩ idx).length)))] (fun w hS=>by rw [show (ins (obj O tk).id ⟨tk,3⟩ idx).length=idx.length+1 from iP _ _ _];exact hS) ?_)
 exact RF (.tuple #[]) [0,3,1,2,4] (⟨rfl,rfl⟩)
end
end Go.Proofs.YtidjcblbdmfalaaGreat
