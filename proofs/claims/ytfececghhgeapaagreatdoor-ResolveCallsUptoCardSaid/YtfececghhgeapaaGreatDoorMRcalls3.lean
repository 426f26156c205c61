/-
  PROVED HERE: lemmas and contracts of functions (texts of this repo, joined; what the claim does not use is left out): Hu, TabMath2, Hv, Hw, Hx, Op, Hy, Hz, Ac, Wo, Wx, ShelfS, SK, HG, Fz, Ws, Wk, Hc, Hd, H1, H2, H3, H4, H5, H6, ShelfP, As, Rs, GOk, Nw, Wn, WD, H7, H8, H9, Vh.
  CONDITIONS: as the theorems say.
-/
import Derived.Test.YtfececghhgeapaaGreatDoorMRcalls2
import Derived.Lib.Split
import Derived.Shelf.SlGeneric
import Derived.Shelf.SlIter.Nil
import Derived.Shelf.SortM.Plain
import Derived.Shelf.SortM.SortNone
import Derived.Ground.GgzProg
import Derived.Ground.SlgmProg
import Derived.Test.YtfececghhgeapaaGreatDoorProg
import Derived.Shelf.Strings.Split
import Derived.Laws.IdiomStrings
import Derived.Lib.SplitLaws
set_option maxRecDepth 100000
set_option maxHeartbeats 4000000
namespace Go.Proofs.YtfececghhgeapaaGreatDoor
section
open Go.RowKit Go.Maps bw aH
section new
variable {S:aZ} {d:Nat} {name:ByteArray} {t:Th} {o:bV} {us':bC Th} {lH:Int}
theorem Inv0.newAt (hI:Inv0 S) {k0:Nat} (fX:S.X.last<(k0:Int)) (dP:(k0:Int)<=1099511627776) {sC:Int} (ahI:sC=S.X.used+o.data.length/\sC<=140737488355328) (hid:o.id=(k0:Int)) (hk3:o.kind=1\/o.kind=2\/o.kind=3) (hl0:o.aT=0) (he0:o.aq=[]) (hu0:o.up=none) (hg0:o.aJ=false) (hm:qN o) (jX:S.ax.length<4096)
 (u1:aH.dM (aY us')) (u2:∀x∈aY us',1<=x/\x<=lH) (u3:(us'.length:Int)<=S.X.cH) (u4:0<=lH/\lH<=S.X.cH) (u5:∀h t,aH.get us' h=some t->(aS S.ax t\/t=⟨k0,o.kind⟩)/\t.kind≠3) (u6:∀k,k≠k0->hnd us' k=hnd S.us k) (u7:o.aQ=(hnd us' (k0):Int)) :
 Inv0 {S with X:={S.X with last:=(k0:Int),used:=sC},O:=bD S.O (k0) (λ_=>o),ax:=ins ((k0:Int)) ⟨k0,o.kind⟩ S.ax,us:=us',aL:=lH}:=by
 have hnot:aH.get S.ax ((k0:Int))=none:=by
  cases e:aH.get S.ax ((k0:Int)) with
  |none=>rfl
  |some u=>have:=(hI.ax _ u e).2.2;omega
 have hget:∀i,aH.get (ins ((k0:Int)) ⟨k0,o.kind⟩ S.ax) i=if i=(k0:Int) then some ⟨k0,o.kind⟩ else aH.get S.ax i:=by grind [tj,get_none]
 have kQ:∀x,aS (ins ((k0:Int)) ⟨k0,o.kind⟩ S.ax) x↔x=⟨k0,o.kind⟩\/aS S.ax x:=λx=>by
  grind [aS]
 have oN:ah (bD S.O (k0) (λ_=>o)) (k0)=o:=iF
 have oX:∀x,aS S.ax x->ah (bD S.O (k0) (λ_=>o)) x.k=ah S.O x.k:=λx hx=>jk (hI.free fX hx)
 have hfr:=hI.KT fX
 have hmem:∀p∈S.ax,ah (bD S.O (k0) (λ_=>o)) p.2.k=ah S.O p.2.k:=λp hp=>jk (hfr.ax p hp)
 have hsum:∀g:bV->Nat,g o=0->ig (λp:Int×Th=>g (ah (bD S.O (k0) (λ_=>o)) p.2.k)) (ins ((k0:Int)) ⟨k0,o.kind⟩ S.ax)=ig (λp:Int×Th=>g (ah S.O p.2.k)) S.ax:=λg hg=>by
  grind [Il,ah,lG]
 refine {hI with last:=?_,fU:=(zW hI.fU (get_none.1 hnot)),len:=?_,ax:=λi x e=>?_,ob:=λx hx=>?_,mt:=λx hx=>?_,aq:=λx hx e he=>?_,sorted:=λx hx=>?_,dead:=λx hx=>?_,Bu:=λx hx=>?_,total:=?_,aT:=λx hx=>?_,once:=λx hx hk=>?_,aQ:=λx hx=>?_,usr:=u1,wC:=u2,EP:=u3,aL:=u4,us:=λh x e=>?_,aJ:=λx hx oz=>?_,up:=λx hx e=>?_,deep:=?_,used:=?_}
 ·grind
 ·grind [ins,kR]
 ·have e:aH.get (ins ((k0:Int)) ⟨k0,o.kind⟩ S.ax) i=some x:=e
  rw [hget] at e
  have:=hI.last
  show i=(x.k:Int)/\0<i/\i<=(k0:Int)
  split at e
  ·grind
  have:=hI.ax i x e
  omega
 ·show (ah (bD S.O (k0) (λ_=>o)) x.k).id=_/\(ah (bD S.O (k0) (λ_=>o)) x.k).kind=_/\_
  rcases (kQ x).1 hx with h|h
  ·subst h;rw [oN];exact⟨hid,rfl,hk3⟩
  rw [oX x h];exact hI.ob x h
 ·show qN (ah (bD S.O (k0) (λ_=>o)) x.k)
  rcases (kQ x).1 hx with h|h
  ·subst h;rw [oN];exact hm
  rw [oX x h];exact hI.mt x h
 ·have he:e∈(ah (bD S.O (k0) (λ_=>o)) x.k).aq:=he
  rcases (kQ x).1 hx with h|h
  ·subst h;rw [oN,he0] at he;cases he
  rw [oX x h] at he
  have h1:=hI.aq x h e he
  exact⟨h1.1,(kQ _).2 (.inr h1.2)⟩
 ·show pK (ah (bD S.O (k0) (λ_=>o)) x.k).aq
  rcases (kQ x).1 hx with h|h
  ·subst h;rw [oN,he0];exact List.Pairwise.nil
  rw [oX x h];exact hI.sorted x h
 ·show (ah (bD S.O (k0) (λ_=>o)) x).aq=[]/\(ah (bD S.O (k0) (λ_=>o)) x).up=none
  have h1:x≠k0:=λe=>hx ⟨k0,o.kind⟩ ((kQ _).2 (.inl rfl)) e.symm
  rw [jk h1]
  exact hI.dead x (λu hu=>hx u ((kQ _).2 (.inr hu)))
 ·have hx:(k0:Int)<(x:Int):=hx
  show (ah (bD S.O (k0) (λ_=>o)) x).kind=0
  rw [jk (λe=>by rw [e] at hx;omega)]
  exact hI.Bu x d5
 ·show S.X.aq=(tot _ _:Int)/\S.X.aq<=8192
  have:tot (ins ((k0:Int)) ⟨k0,o.kind⟩ S.ax) (bD S.O (k0) (λ_=>o))=tot S.ax S.O:=hsum (λo=>o.aq.length) (by rw [he0];rfl)
  rw [this];exact hI.total
 ·show (ah (bD S.O (k0) (λ_=>o)) x.k).aT=(ny _ _ x.k:Int)
  have:ny (ins ((k0:Int)) ⟨k0,o.kind⟩ S.ax) (bD S.O (k0) (λ_=>o)) x.k=ny S.ax S.O x.k:=hsum (λo=>o.aq.countP (λe:ByteArray×Th=>decide (e.2.k=x.k))) (by rw [he0];rfl)
  rw [this]
  rcases (kQ x).1 hx with h|h
  ·subst h
   rw [oN,hl0]
   have:ny S.ax S.O (k0)=0:=by
    apply aiy
    intro cF
    obtain⟨i,u,hu,e,he,hek⟩:=Jv hI.fU (Nat.pos_of_ne_zero cF)
    exact hfr.aq u.k e he hek
   rw [this];rfl
  rw [oX x h];exact hI.aT x h
 ·show (ah (bD S.O (k0) (λ_=>o)) x.k).aT<=1
  rcases (kQ x).1 hx with h|h
  ·subst h;rw [oN,hl0];decide
  rw [oX x h];exact hI.once x h hk
 ·show (ah (bD S.O (k0) (λ_=>o)) x.k).aQ=(hnd us' x.k:Int)
  rcases (kQ x).1 hx with h|h
  ·subst h;rw [oN];exact u7
  rw [oX x h,u6 _ (hI.free fX h)];exact hI.aQ x h
 ·grind
 ·have oz:(ah (bD S.O (k0) (λ_=>o)) x.k).aJ=true:=oz
  show (ah (bD S.O (k0) (λ_=>o)) x.k).aT=0/\(ah (bD S.O (k0) (λ_=>o)) x.k).aq=[]
  rcases (kQ x).1 hx with h|h
  ·subst h;rw [oN,hg0] at oz;cases oz
  rw [oX x h] at oz ⊢;exact hI.aJ x h oz
 ·show (ah (bD S.O (k0) (λ_=>o)) x.k).up=some e↔x.kind=2/\aS _ ⟨e,2⟩/\∃n,bF n (ah (bD S.O (k0) (λ_=>o)) e).aq=some x
  rcases (kQ x).1 hx with h|h
  ·subst h
   rw [oN,hu0]
   constructor
   ·intro h;cases h
   rintro⟨_,dP,n,h⟩
   by_cases e2:e=k0
   ·rw [e2,oN,he0] at h;cases h
   rw [jk e2] at h;exact KB rfl (hfr.aq e _ (rf h))
  rw [oX x h,hI.up x h e]
  constructor
  ·grind
  rintro⟨h1,h2,n,h3⟩
  by_cases e2:e=k0
  ·rw [e2,oN,he0] at h3;cases h3
  grind
 ·obtain⟨dp,hdp⟩:=hI.deep
  refine⟨dp,λx e hx=>?_⟩
  grind [ah,bD,up,jk]
 show sC=(bytes _ _:Int)/\_
 have h1:bytes (ins (k0:Int) ⟨k0,o.kind⟩ S.ax) (bD S.O k0 (λ_=>o))=o.data.length+bytes S.ax S.O:=by
  grind [bytes,Il,ah,lG]
 have h2:=hI.used
 grind
theorem Inv0.new (hI:Inv0 S) (hid:o.id=S.X.last+1) (hk3:o.kind=1\/o.kind=2\/o.kind=3) (hl0:o.aT=0) (he0:o.aq=[]) (hu0:o.up=none) (hg0:o.aJ=false) (CK:o.data=[]) (hm:qN o) (hlast:S.X.last<1099511627776) (jX:(S.ax.length:Int)<S.X.cN)
 (u1:aH.dM (aY us')) (u2:∀x∈aY us',1<=x/\x<=lH) (u3:(us'.length:Int)<=S.X.cH) (u4:0<=lH/\lH<=S.X.cH) (u5:∀h t,aH.get us' h=some t->(aS S.ax t\/t=⟨dx S.X,o.kind⟩)/\t.kind≠3) (u6:∀k,k≠dx S.X->hnd us' k=hnd S.us k) (u7:o.aQ=(hnd us' (dx S.X):Int)) :
 Inv0 {S with X:={S.X with last:=S.X.last+1},O:=bD S.O (dx S.X) (λ_=>o),ax:=ins (S.X.last+1) ⟨dx S.X,o.kind⟩ S.ax,us:=us',aL:=lH}:=by
 have hnk:=tv hI
 have h:=hI.newAt (k0:=dx S.X) (sC:=S.X.used) d5 d5 ⟨by rw [CK];simp,hI.used.2⟩ (hid.trans hnk.symm) hk3 hl0 he0 hu0 hg0 hm (by have:=hI.cN;omega) u1 u2 u3 u4 u5 u6 u7
 rw [hnk] at h
 exact h
theorem bB.add (hI:bB S) (hd:aS S.ax ⟨d,2⟩) (nB:(ah S.O d).aJ=false) (hn:bF name (ah S.O d).aq=none) (hgn:bW name) (hroom:Room S.X S.ax)
 (hid:o.id=S.X.last+1) (hk3:o.kind=1\/o.kind=2\/o.kind=3) (hl0:o.aT=0) (he0:o.aq=[]) (hu0:o.up=none) (hg0:o.aJ=false) (CK:o.data=[]) (hm:qN o)
 (u1:aH.dM (aY us')) (u2:∀x∈aY us',1<=x/\x<=lH) (u3:(us'.length:Int)<=S.X.cH) (u4:0<=lH/\lH<=S.X.cH) (u5:∀h t,aH.get us' h=some t->(aS S.ax t\/t=⟨dx S.X,o.kind⟩)/\t.kind≠3) (u6:∀k,k≠dx S.X->hnd us' k=hnd S.us k) (u7:o.aQ=(hnd us' (dx S.X):Int)) :
 bB (iw {S with us:=us',aL:=lH} d name o):=by
 have h1:=hI.toInv0.new hid hk3 hl0 he0 hu0 hg0 CK hm hroom.2.1 hroom.1 u1 u2 u3 u4 u5 u6 u7
 have cF:d≠dx S.X:=hI.EQ hd
 have hnk:=tv hI.toInv0
 have hnot:aH.get S.ax (S.X.last+1)=none:=by
  cases e:aH.get S.ax (S.X.last+1) with
  |none=>rfl
  |some u=>have:=(hI.ax _ u e).2.2;omega
 have hget:∀i,aH.get (ins (S.X.last+1) ⟨dx S.X,o.kind⟩ S.ax) i=if i=S.X.last+1 then some ⟨dx S.X,o.kind⟩ else aH.get S.ax i:=by grind [tj,get_none]
 have hdl:aS (ins (S.X.last+1) ⟨dx S.X,o.kind⟩ S.ax) ⟨d,2⟩:=by
  grind [aS]
 have hnl:aS (ins (S.X.last+1) ⟨dx S.X,o.kind⟩ S.ax) ⟨dx S.X,o.kind⟩:=by
  unfold aS
  rw [hget,t8 hnk]
 have oN:ah (bD S.O (dx S.X) (λ_=>o)) (dx S.X)=o:=iF
 have oD:ah (bD S.O (dx S.X) (λ_=>o)) d=ah S.O d:=jk cF
 have hnb:¬su (bD S.O (dx S.X) (λ_=>o)) (dx S.X) d:=λhb=>by
  have key:∀x,su (bD S.O (dx S.X) (λ_=>o)) (dx S.X) x->x=dx S.X:=λx hx=>by
   induction hx with
   |here=>rfl
   | @up k j hu _ ih=>
     subst ih
     by_cases e:k=dx S.X
     ·exact e
     rw [jk e] at hu;exact KB hu (hI.fresh.up k)
  exact cF (key d hb)
 have h2:=h1.put (d:=d) (name:=name) (t:=⟨dx S.X,o.kind⟩) (O':=(iw {S with us:=us',aL:=lH} d name o).O) hdl (by rw [oD];exact nB) (by rw [oD];exact hn) hgn hnl (by rw [oN];exact hg0) (λ_=>⟨by rw [oN];exact hl0,hnb⟩) (λe=>cF e.symm) hroom.2.2 h1.now (λk=>vg (λe=>cF e.symm))
 refine⟨h2,λx hx oz=>?_⟩
 have g1:∀k,(ah (iw {S with us:=us',aL:=lH} d name o).O k).aJ=(ah (bD S.O (dx S.X) (λ_=>o)) k).aJ:=λk=>mU (g:=bV.aJ) (λ_ _=>rfl) (λ_ _=>rfl) (λ_ _ _=>rfl) (λ_ _=>rfl)
 have g2:∀k,(ah (iw {S with us:=us',aL:=lH} d name o).O k).aQ=(ah (bD S.O (dx S.X) (λ_=>o)) k).aQ:=λk=>mU (g:=bV.aQ) (λ_ _=>rfl) (λ_ _=>rfl) (λ_ _ _=>rfl) (λ_ _=>rfl)
 rw [g1] at oz
 rw [g2]
 by_cases e:x.k=dx S.X
 ·rw [e,oN,hg0] at oz;cases oz
 rw [jk e] at oz ⊢
 refine hI.full x ?_ oz
 grind [ins,dx,aS,ah,bF,bW,Room,aY,hnd,iw]
end new
section drop
variable {S:aZ} {d:Nat} {name:ByteArray} {t:Th}
theorem nX {α:Type} {g:bV->α} {O:eu} {k j:Nat} (h:∀o,g {o with up:=none}=g o):g (ah (jr O j) k)=g (ah O k):=eU (f:=λo=>{o with up:=none}) h
theorem ER {O:eu} {k:Nat}:uh (jr O k) t↔uh O t:=by
 unfold uh
 rw [nX (g:=bV.aJ) (λ_=>rfl),nX (g:=bV.aQ) (λ_=>rfl)]
theorem OW {O:eu} {k:Nat} {u:Int}:oQ (jr O k) u t=oQ O u t:=by
 unfold oQ
 simp only [ER,nX (g:=bV.data) (λ_=>rfl)]
theorem OX {O:eu} {k:Nat} {ax:bC Th}:kg (jr O k) ax t=kg O ax t:=by
 unfold kg
 simp only [ER,nX (g:=bV.id) (λ_=>rfl)]
theorem bB.drop (hI:bB S) (hd:aS S.ax ⟨d,2⟩) (hl:bF name (ah S.O d).aq=some t) (he:t.kind=2->(ah S.O t.k).aq=[]):bB {bg S d name t with O:=jr (bg S d name t).O t.k}:=by
 have cF:=hI.ne hd hl
 have ht:=(hI.bR hd hl).2
 have fC:(ah (bn S.X S.O d name t) t.k).aT=(ah S.O t.k).aT-1:=by grind [lg]
 have hfull:∀(O2:eu),(∀u,u≠t.k->(ah O2 u).aJ=(ah S.O u).aJ/\(ah O2 u).aQ=(ah S.O u).aQ)->∀u,aS S.ax u->u≠t->(ah O2 u.k).aJ=true->0<(ah O2 u.k).aQ:=λO2 h u hu hut hg=>by
  have hk:u.k≠t.k:=λe=>hut (jS hu ht e)
  rw [(h _ hk).1] at hg
  rw [(h _ hk).2]
  exact hI.full u hu hg
 by_cases h0:(ah (bn S.X S.O d name t) t.k).aT=0
 ·have e1:bg S d name t=_:=xZ h0
  have hO:∀k,ah (jr (tu (bn S.X S.O d name t) t.k) t.k) k=if k=d then {ah S.O d with aq:=kU name (ah S.O d).aq,bH:=S.X.cS,bh:=S.X.cZ} else if k=t.k then {ah S.O k with aT:=(ah S.O k).aT-1,aJ:=true,up:=none} else ah S.O k:=λk=>by
   unfold jr tu
   rw [EH,mq]
   by_cases e:k=t.k
   ·rw [t8 e,lg cF,nw (λe2=>cF (e.symm.trans e2)),t8 e,nw (λe2=>cF (e.symm.trans e2)),t8 e]
   rw [nw e,lg cF,nw e,nw e]
  have h1:=hI.toInv0.cut hd hl hO (.inr ⟨by rw [←fC];exact h0,he⟩)
  have h2:=h1.yZ (t:=t) ht (hfull _ (λu hu=>by
   rw [nX (g:=bV.aJ) (λ_=>rfl),nX (g:=bV.aQ) (λ_=>rfl)]
   show (ah (bD _ t.k _) u).aJ=_/\(ah (bD _ t.k _) u).aQ=_
   rw [jk hu,eZ (g:=bV.aJ) (λ_ _=>rfl) (λ_ _=>rfl) (λ_ _ _=>rfl),eZ (g:=bV.aQ) (λ_ _=>rfl) (λ_ _=>rfl) (λ_ _ _=>rfl)]
   exact⟨rfl,rfl⟩))
  rw [e1]
  unfold yZ at h2
  simp only [OW,OX] at h2
  exact h2
 have e1:bg S d name t=_:=x5 h0
 have hnd:t.kind≠2:=λhk=>by
  have h1:=hI.once t ht hk
  have h2:=hI.aT t ht
  have h3:0<ny S.ax S.O t.k:=qO hd hl
  omega
 have Ul:(ah S.O t.k).up=none:=by
  cases hu:(ah S.O t.k).up with
  |none=>rfl
  |some e=>exact KB ((hI.up t ht e).1 hu).1 hnd
 have hO:∀k,ah (jr (bn S.X S.O d name t) t.k) k=if k=d then {ah S.O d with aq:=kU name (ah S.O d).aq,bH:=S.X.cS,bh:=S.X.cZ} else if k=t.k then {ah S.O k with aT:=(ah S.O k).aT-1,aJ:=(ah S.O t.k).aJ,up:=none} else ah S.O k:=λk=>by
  unfold jr
  rw [mq]
  by_cases e:k=t.k
  ·rw [t8 e,lg cF,nw (λe2=>cF (e.symm.trans e2)),t8 e,nw (λe2=>cF (e.symm.trans e2)),t8 e,e]
  rw [nw e,lg cF,nw e,nw e]
 have h1:=hI.toInv0.cut hd hl hO (.inl rfl)
 rw [e1]
 refine⟨h1,λu hu hg=>?_⟩
 have hg:(ah (jr (bn S.X S.O d name t) t.k) u.k).aJ=true:=hg
 show 0<(ah (jr (bn S.X S.O d name t) t.k) u.k).aQ
 rw [nX (g:=bV.aJ) (λ_=>rfl),eZ (g:=bV.aJ) (λ_ _=>rfl) (λ_ _=>rfl) (λ_ _ _=>rfl)] at hg
 rw [nX (g:=bV.aQ) (λ_=>rfl),eZ (g:=bV.aQ) (λ_ _=>rfl) (λ_ _=>rfl) (λ_ _ _=>rfl)]
 exact hI.full u hu hg
theorem ZQ {k:Nat}:(ah (bg S d name t).O k).up=(ah S.O k).up:=by
 unfold bg
 simp only
 split
 ·exact (wW (g:=bV.up) (λ_ _=>rfl)).trans (eZ (g:=bV.up) (λ_ _=>rfl) (λ_ _=>rfl) (λ_ _ _=>rfl))
 exact eZ (g:=bV.up) (λ_ _=>rfl) (λ_ _=>rfl) (λ_ _ _=>rfl)
theorem bB.Gf (hI:bB S) (hd:aS S.ax ⟨d,2⟩) (hl:bF name (ah S.O d).aq=some t) (hk:t.kind≠2):bB (bg S d name t):=by
 have h:=hI.drop hd hl (λe=>KB e hk)
 have ht:=(hI.bR hd hl).2
 have Ul:(ah S.O t.k).up=none:=by
  cases hu:(ah S.O t.k).up with
  |none=>rfl
  |some e=>exact KB ((hI.up t ht e).1 hu).1 hk
 have e:jr (bg S d name t).O t.k=(bg S d name t).O:=acR (by
  have:(ah (bg S d name t).O t.k).up=none:=ZQ.trans Ul
  rw [←this])
 rw [e] at h
 exact h
end drop
end
end Go.Proofs.YtfececghhgeapaaGreatDoor
section
namespace Go.Proofs.YtfececghhgeapaaGreatDoor.aH
open bw
variable {V:Type}
theorem Mg (us:bC V) (p:Int×V):aY (us++[p])=aY us++[p.1]:=by simp [aY]
theorem Ir (us:bC V):(aY us).length=us.length:=by simp [aY]
theorem least_le {us:bC V} (hr:dM (aY us)) (hp:∀x∈aY us,1<=x):1<=aR us/\aR us∉aY us/\∀x,1<=x->x<aR us->x∈aY us:=qM (aY us) 1 hr hp
theorem sR:∀(ks:List Int) (h:Int),kS h ks<=h+ks.length
 |[],h=>by simp [kS]
 |k::r,h=>by
   unfold kS
   split
   ·have:=sR r (h+1);simp only [aix];push_cast;omega
   simp only [aix];push_cast;omega
theorem Rg (us:bC V):aR us<=us.length+1:=by
 have:=sR (aY us) 1
 rw [Ir] at this
 unfold aR;omega
end Go.Proofs.YtfececghhgeapaaGreatDoor.aH
end
namespace Go.Proofs.YtfececghhgeapaaGreatDoor
section
open Go.RowKit Go.Maps bw aH
section ops
variable {S:aZ} {d to:Nat} {name aG:ByteArray} {t:Th}
theorem bB.link (hI:bB S) (hd:aS S.ax ⟨d,2⟩) (nB:(ah S.O d).aJ=false) (hn:bF name (ah S.O d).aq=none) (hgn:bW name) (ht:aS S.ax t) (Sh:(ah S.O t.k).aJ=false) (hk:t.kind≠2) (hroom:S.X.aq<8192) :
 bB {S with X:={S.X with aq:=S.X.aq+1},O:=dV S.X S.O d name t}:=by
 have cF:t.k≠d:=by grind [jS]
 have h1:=hI.toInv0.put hd nB hn hgn ht Sh (λe=>KB e hk) cF hroom hI.now (λk=>vg cF)
 refine⟨h1,λx hx hg=>?_⟩
 have hg:(ah (dV S.X S.O d name t) x.k).aJ=true:=hg
 show 0<(ah (dV S.X S.O d name t) x.k).aQ
 rw [mU (g:=bV.aJ) (λ_ _=>rfl) (λ_ _=>rfl) (λ_ _ _=>rfl) (λ_ _=>rfl)] at hg
 rw [mU (g:=bV.aQ) (λ_ _=>rfl) (λ_ _=>rfl) (λ_ _ _=>rfl) (λ_ _=>rfl)]
 exact hI.full x hx hg
theorem qg (cF:t.k≠d) {X:FM} {O:eu} (h:bF aG (ah O to).aq=none):bF aG (ah (bn X O d name t) to).aq=none:=by
 grind [lg,bF,kU,ah,xW]
theorem bB.move (hI:bB S) (hd:aS S.ax ⟨d,2⟩) (hl:bF name (ah S.O d).aq=some t) (fw:aS S.ax ⟨to,2⟩) (nB:(ah S.O to).aJ=false) (hn:bF aG (ah S.O to).aq=none) (hgn:bW aG) (hb:t.kind=2->¬su S.O t.k to):bB (pJ S d name to aG t):=by
 have cF:=hI.ne hd hl
 have ht:=(hI.bR hd hl).2
 have OY:t.k≠to:=λe=>by
  have h1:t=⟨to,2⟩:=jS ht fw e
  exact hb (by rw [h1]) (by rw [e];exact .here)
 have hgt:(ah S.O t.k).aJ=false:=by
  cases hg:(ah S.O t.k).aJ with
  |false=>rfl
  |true=>
    have h1:=(hI.aJ t ht hg).1
    have h2:=hI.aT t ht
    have h3:0<ny S.ax S.O t.k:=qO hd hl
    omega
 have hO:∀k,ah (jr (bn S.X S.O d name t) t.k) k=if k=d then {ah S.O d with aq:=kU name (ah S.O d).aq,bH:=S.X.cS,bh:=S.X.cZ} else if k=t.k then {ah S.O k with aT:=(ah S.O k).aT-1,aJ:=(ah S.O t.k).aJ,up:=none} else ah S.O k:=λk=>by
  unfold jr
  rw [mq]
  by_cases e:k=t.k
  ·rw [t8 e,lg cF,nw (λe2=>cF (e.symm.trans e2)),t8 e,nw (λe2=>cF (e.symm.trans e2)),t8 e,e]
  rw [nw e,lg cF,nw e,nw e]
 have h1:=hI.toInv0.cut hd hl hO (.inl rfl)
 have g0:∀{α:Type} (g:bV->α),(∀o es,g {o with aq:=es}=g o)->(∀o l,g {o with aT:=l}=g o)->(∀o a b,g {o with bH:=a,bh:=b}=g o)->(∀o u,g {o with up:=u}=g o)->∀k,g (ah (jr (bn S.X S.O d name t) t.k) k)=g (ah S.O k):=λg a b c e k=>(nX (λo=>e o none)).trans (eZ a b c)
 have fC:=hI.aT t ht
 have hlp:0<ny S.ax S.O t.k:=qO hd hl
 have hend:(ah (jr (bn S.X S.O d name t) t.k) to).aq=(ah (bn S.X S.O d name t) to).aq:=nX (g:=bV.aq) (λ_=>rfl)
 have h2:=h1.put (d:=to) (name:=aG) (t:=t) (O':=(pJ S d name to aG t).O) fw (by
  show (ah (jr (bn S.X S.O d name t) t.k) to).aJ=false
  rw [g0 bV.aJ (λ_ _=>rfl) (λ_ _=>rfl) (λ_ _ _=>rfl) (λ_ _=>rfl)];exact nB) (by
  show bF aG (ah (jr (bn S.X S.O d name t) t.k) to).aq=none
  rw [hend];exact qg cF hn) hgn ht (by
  show (ah (jr (bn S.X S.O d name t) t.k) t.k).aJ=false
  rw [g0 bV.aJ (λ_ _=>rfl) (λ_ _=>rfl) (λ_ _ _=>rfl) (λ_ _=>rfl)];exact hgt) (λhk=>⟨by
   have h3:=hI.once t ht hk
   show (ah (jr (bn S.X S.O d name t) t.k) t.k).aT=0
   rw [hO,nw cF,t8 rfl]
   show (ah S.O t.k).aT-1=0
   omega,λhb2=>hb hk (Uk (λx e hx=>by
    have hx:(ah (jr (bn S.X S.O d name t) t.k) x).up=some e:=hx
    by_cases e1:x=t.k
    ·rw [hO,nw (by rw [e1];exact cF),t8 e1] at hx;cases hx
    rw [hO] at hx
    split at hx
    ·rename_i e2;rw [e2];exact hx
    first|exact hx|(rw [nw e1] at hx;exact hx)) hb2)⟩) OY (by
  have:=hI.total
  show S.X.aq-1<8192
  omega) hI.now (λk=>by
  show ah (dV S.X (bn S.X S.O d name t) to aG t) k=_
  rw [vg OY]
  by_cases e:k=to
  ·rw [t8 e,t8 e]
   have h3:ah (jr (bn S.X S.O d name t) t.k) to=ah (bn S.X S.O d name t) to:=jk (λe=>OY e.symm)
   rw [show ah _ to=_ from h3]
  rw [nw e,nw e]
  by_cases e2:k=t.k
  ·rw [t8 e2,t8 e2,e2]
   show _={ah (jr (bn S.X S.O d name t) t.k) t.k with aT:=(ah (jr (bn S.X S.O d name t) t.k) t.k).aT+1,up:=if t.kind=2 then some to else (ah (jr (bn S.X S.O d name t) t.k) t.k).up}
   have h3:ah (jr (bn S.X S.O d name t) t.k) t.k={ah (bn S.X S.O d name t) t.k with up:=none}:=iF
   rw [h3]
   by_cases hk:t.kind=2
   ·rw [t8 hk,t8 hk]
   rw [nw hk,nw hk]
   have Ul:(ah (bn S.X S.O d name t) t.k).up=none:=by
    rw [eZ (g:=bV.up) (λ_ _=>rfl) (λ_ _=>rfl) (λ_ _ _=>rfl)]
    cases hu:(ah S.O t.k).up with
    |none=>rfl
    |some e=>exact KB ((hI.up t ht e).1 hu).1 hk
   rw [Ul]
  rw [nw e2,nw e2]
  have h3:ah (jr (bn S.X S.O d name t) t.k) k=ah (bn S.X S.O d name t) k:=jk e2
  exact h3.symm)
 refine⟨h2,λx hx hg=>?_⟩
 have g3:∀{α:Type} (g:bV->α),(∀o es,g {o with aq:=es}=g o)->(∀o l,g {o with aT:=l}=g o)->(∀o a b,g {o with bH:=a,bh:=b}=g o)->(∀o u,g {o with up:=u}=g o)->∀k,g (ah (pJ S d name to aG t).O k)=g (ah S.O k):=λg a b c e k=>(mU a b c e).trans (eZ a b c)
 rw [g3 bV.aJ (λ_ _=>rfl) (λ_ _=>rfl) (λ_ _ _=>rfl) (λ_ _=>rfl)] at hg
 rw [g3 bV.aQ (λ_ _=>rfl) (λ_ _=>rfl) (λ_ _ _=>rfl) (λ_ _=>rfl)]
 exact hI.full x hx hg
theorem KV {us:bC Th} {h:Int} {k:Nat}:hnd (ins h t us) k=(if t.k=k then 1 else 0)+hnd us k:=Il
theorem Sp {us:bC Th} {h:Int} {k:Nat} (hr:aH.dM (aY us)) (e:aH.get us h=some t):hnd (del h us) k+(if t.k=k then 1 else 0)=hnd us k:=Io (g:=λp:Int×Th=>if p.2.k=k then 1 else 0) hr e
theorem Sq {us:bC Th} {aL:Int} (hr:aH.dM (aY us)) (h1:∀x∈aY us,1<=x/\x<=aL):aH.dM (aY (ins (aH.aR us) t us))/\∀x∈aY (ins (aH.aR us) t us),1<=x/\x<=max aL ((us.length:Int)+1):=by
 obtain⟨g1,g2,_⟩:=least_le hr (λx hx=>(h1 x hx).1)
 have g3:=Rg us
 grind [zW,rN]
theorem bB.fD (hI:bB S) (ht:aS S.ax t) (hk:t.kind≠3):bB (Proofs.YtfececghhgeapaaGreatDoor.fD S t).2.2:=by
 by_cases fX:(S.us.length:Int)<S.X.cH
 ·rw [mB fX]
  obtain⟨g1,g2,_⟩:=least_le hI.usr (λx hx=>(hI.wC x hx).1)
  obtain⟨v1,v2⟩:=Sq (t:=t) hI.usr hI.wC
  have hb:bytes S.ax (bD S.O t.k (λo=>{o with aQ:=o.aQ+1}))=bytes S.ax S.O:=lG (λp _=>by rw [eU (f:=λo=>{o with aQ:=o.aQ+1}) (g:=bV.data) (λ_=>rfl)])
  have h1:=hI.toInv0.own (k:=t.k) (f:=λo=>{o with aQ:=o.aQ+1}) (sC:=S.X.used) (us':=ins (aH.aR S.us) t S.us) (lH:=max S.aL ((S.us.length:Int)+1)) (λ_=>rfl) (λ_=>rfl) (λ_=>rfl) (λ_=>rfl) (λ_=>rfl) (λ_=>rfl)
   (λu hu e=>by rw [←e];exact (hI.mt u hu).of rfl rfl rfl (hI.mt u hu).time rfl (.inl rfl) (.inl rfl) rfl)
   (λu hu=>by
    have h2:=hI.aQ u hu
    rw [KV]
    by_cases e:u.k=t.k
    ·rw [e,iF,t8 rfl,←e]
     show (ah S.O u.k).aQ+1=_
     omega
    rw [jk e,nw (λe2=>e e2.symm)];omega)
   v1 v2 (by rw [kR];omega) (by have:=hI.aL;omega) (λh u e=>by
    rw [tj g2] at e
    split at e
    ·cases e;exact⟨ht,hk⟩
    exact hI.us h u e) ⟨by rw [hb];exact hI.used.1,hI.used.2⟩
  refine⟨h1,λu hu hg=>?_⟩
  have hg:(ah (bD S.O t.k (λo=>{o with aQ:=o.aQ+1})) u.k).aJ=true:=hg
  rw [eU (f:=λo=>{o with aQ:=o.aQ+1}) (g:=bV.aJ) (λ_=>rfl)] at hg
  have h2:=hI.full u hu hg
  grind [ah,bD,iF,jk]
 rw [om fX];exact hI
theorem bB.iC (hI:bB S) {k:Nat} (ht:aS S.ax ⟨k,1⟩) (bs:List UInt8):bB (Proofs.YtfececghhgeapaaGreatDoor.iC S k bs).2.2:=by
 unfold Proofs.YtfececghhgeapaaGreatDoor.iC
 split
 ·exact hI
 split
 ·exact hI
 rename_i hroom
 have jX:(ah (bD S.O k (λo=>{o with data:=o.data++bs.take (dU S.X bs.length),bH:=S.X.cS,bh:=S.X.cZ})) k).data.length=(ah S.O k).data.length+dU S.X bs.length:=by
  rw [iF]
  show ((ah S.O k).data++bs.take (dU S.X bs.length)).length=_
  rw [T3,aiz]
  unfold dU
  omega
 have hb:=Im (g:=λp:Int×Th=>(ah S.O p.2.k).data.length) (g':=λp:Int×Th=>(ah (bD S.O k (λo=>{o with data:=o.data++bs.take (dU S.X bs.length),bH:=S.X.cS,bh:=S.X.cZ})) p.2.k).data.length) hI.fU ht (λp hp cF=>by
  have h1:=hI.key (oy hI.fU hp)
  show (ah (bD _ k _) p.2.k).data.length=_
  rw [jk (λe=>cF (by rw [h1,e]))])
 have hb:bytes S.ax (bD S.O k (λo=>{o with data:=o.data++bs.take (dU S.X bs.length),bH:=S.X.cS,bh:=S.X.cZ}))+(ah S.O k).data.length=bytes S.ax S.O+(ah (bD S.O k (λo=>{o with data:=o.data++bs.take (dU S.X bs.length),bH:=S.X.cS,bh:=S.X.cZ})) k).data.length:=hb
 have hu:=hI.used
 have hcB:=hI.cB
 have h1:=hI.toInv0.own (k:=k) (f:=λo=>{o with data:=o.data++bs.take (dU S.X bs.length),bH:=S.X.cS,bh:=S.X.cZ}) (sC:=S.X.used+(dU S.X bs.length:Int)) (us':=S.us) (lH:=S.aL) (λ_=>rfl) (λ_=>rfl) (λ_=>rfl) (λ_=>rfl) (λ_=>rfl) (λ_=>rfl)
  (λu hu e=>by
   have hk1:u=⟨k,1⟩:=jS hu ht e
   have agc:=hI.kind hu
   rw [←e]
   exact (hI.mt u hu).of rfl rfl rfl hI.now rfl (.inr (by rw [agc,hk1])) (.inl rfl) rfl)
  (λu hu=>by rw [eU (f:=λo=>{o with data:=o.data++bs.take (dU S.X bs.length),bH:=S.X.cS,bh:=S.X.cZ}) (g:=bV.aQ) (λ_=>rfl)];exact hI.aQ u hu)
  hI.usr hI.wC hI.EP hI.aL hI.us ⟨d5,by unfold dU;omega⟩
 refine⟨h1,λu hu hg=>?_⟩
 have hg:(ah (bD S.O k (λo=>{o with data:=o.data++bs.take (dU S.X bs.length),bH:=S.X.cS,bh:=S.X.cZ})) u.k).aJ=true:=hg
 rw [eU (f:=λo=>{o with data:=o.data++bs.take (dU S.X bs.length),bH:=S.X.cS,bh:=S.X.cZ}) (g:=bV.aJ) (λ_=>rfl)] at hg
 show 0<(ah (bD S.O k (λo=>{o with data:=o.data++bs.take (dU S.X bs.length),bH:=S.X.cS,bh:=S.X.cZ})) u.k).aQ
 rw [eU (f:=λo=>{o with data:=o.data++bs.take (dU S.X bs.length),bH:=S.X.cS,bh:=S.X.cZ}) (g:=bV.aQ) (λ_=>rfl)]
 exact hI.full u hu hg
theorem bB.agd (hI:bB S) {k:Nat} {mode cM cO bH bh:Int} (h1:mT mode) (h2:Dv cM/\Dv cO) (h3:iU bH bh):bB {S with O:=bD S.O k (λo=>{o with mode:=mode,cM:=cM,cO:=cO,bH:=bH,bh:=bh})}:=by
 have hb:bytes S.ax (bD S.O k (λo=>{o with mode:=mode,cM:=cM,cO:=cO,bH:=bH,bh:=bh}))=bytes S.ax S.O:=lG (λp _=>by rw [eU (f:=λo=>{o with mode:=mode,cM:=cM,cO:=cO,bH:=bH,bh:=bh}) (g:=bV.data) (λ_=>rfl)])
 have g1:=hI.toInv0.own (k:=k) (f:=λo=>{o with mode:=mode,cM:=cM,cO:=cO,bH:=bH,bh:=bh}) (sC:=S.X.used) (us':=S.us) (lH:=S.aL) (λ_=>rfl) (λ_=>rfl) (λ_=>rfl) (λ_=>rfl) (λ_=>rfl) (λ_=>rfl)
  (λu hu e=>by
   have hm:=hI.mt u hu
   rw [e] at hm
   exact⟨h1,h2.1,h2.2,h3,hm.data,hm.aq,hm.target⟩)
  (λu hu=>by rw [eU (f:=λo=>{o with mode:=mode,cM:=cM,cO:=cO,bH:=bH,bh:=bh}) (g:=bV.aQ) (λ_=>rfl)];exact hI.aQ u hu)
  hI.usr hI.wC hI.EP hI.aL hI.us ⟨by rw [hb];exact hI.used.1,hI.used.2⟩
 refine⟨g1,λu hu hg=>?_⟩
 have hg:(ah (bD S.O k (λo=>{o with mode:=mode,cM:=cM,cO:=cO,bH:=bH,bh:=bh})) u.k).aJ=true:=hg
 rw [eU (f:=λo=>{o with mode:=mode,cM:=cM,cO:=cO,bH:=bH,bh:=bh}) (g:=bV.aJ) (λ_=>rfl)] at hg
 show 0<(ah (bD S.O k (λo=>{o with mode:=mode,cM:=cM,cO:=cO,bH:=bH,bh:=bh})) u.k).aQ
 rw [eU (f:=λo=>{o with mode:=mode,cM:=cM,cO:=cO,bH:=bH,bh:=bh}) (g:=bV.aQ) (λ_=>rfl)]
 exact hI.full u hu hg
theorem bB.shut (hI:bB S) {h:Int} (e:aH.get S.us h=some t):bB {S with
 X:={S.X with used:=oQ (mD S.O t.k) S.X.used t}
 O:=mD S.O t.k
 ax:=kg (mD S.O t.k) S.ax t
 us:=del h S.us}:=by
 have ht:=(hI.us h t e).1
 have hb:bytes S.ax (mD S.O t.k)=bytes S.ax S.O:=lG (λp _=>by unfold mD;rw [eU (f:=λo=>{o with aQ:=o.aQ-1}) (g:=bV.data) (λ_=>rfl)])
 have hd:=λk=>Sp (k:=k) hI.usr e
 have h1:=hI.toInv0.own (k:=t.k) (f:=λo=>{o with aQ:=o.aQ-1}) (sC:=S.X.used) (us':=del h S.us) (lH:=S.aL) (λ_=>rfl) (λ_=>rfl) (λ_=>rfl) (λ_=>rfl) (λ_=>rfl) (λ_=>rfl)
  (λu hu e=>by rw [←e];exact (hI.mt u hu).of rfl rfl rfl (hI.mt u hu).time rfl (.inl rfl) (.inl rfl) rfl)
  (λu hu=>by
   have h2:=hI.aQ u hu
   have h3:=hd u.k
   by_cases e2:u.k=t.k
   ·rw [e2,iF]
    rw [e2] at h2 h3
    rw [t8 rfl] at h3
    show (ah S.O t.k).aQ-1=_
    omega
   rw [nw (λe3=>e2 e3.symm)] at h3
   rw [jk e2];omega)
  (OJ hI.usr) (λx hx=>hI.wC x (by grind [uD])) (by have:=tq hI.usr (get_some e);have:=hI.EP;omega) hI.aL (λi u hu=>by
   rw [wU] at hu
   split at hu
   ·cases hu
   exact hI.us i u hu) ⟨by rw [show bytes S.ax (bD S.O t.k (λo=>{o with aQ:=o.aQ-1}))=bytes S.ax S.O from hb];exact hI.used.1,hI.used.2⟩
 exact h1.yZ (t:=t) ht (λu hu hut hg=>by
  have hk:u.k≠t.k:=λe=>hut (jS hu ht e)
  have hg:(ah (bD S.O t.k (λo=>{o with aQ:=o.aQ-1})) u.k).aJ=true:=hg
  rw [jk hk] at hg
  show 0<(ah (bD S.O t.k (λo=>{o with aQ:=o.aQ-1})) u.k).aQ
  rw [jk hk]
  exact hI.full u hu hg)
end ops
section facts
variable {S:aZ} {X:FM} {O:eu} {d k to:Nat} {name aG:ByteArray} {t o:Th}
def ES (dp:Nat->Nat):Option Nat->Nat
 |none=>0
 |some y=>dp y+1
theorem WE {dp:Nat->Nat} (h:∀k d,(ah O k).up=some d->dp d<dp k) {y:Nat}:ES dp (ah O y).up<ES dp (some y):=by
 cases e:(ah O y).up with
 |none=>exact Nat.succ_pos _
 |some z=>exact Nat.succ_lt_succ (h y z e)
theorem JB {s y:Nat} (h:¬y=s):su O s y↔∃z,(ah O y).up=some z/\su O s z:=Mf.trans (or_iff_right h)
theorem JC (cF:t.k≠d):(ah (bg S d name t).O k).aq=if k=d then kU name (ah S.O d).aq else (ah S.O k).aq:=by
 have h1:(ah (bg S d name t).O k).aq=(ah (bn S.X S.O d name t) k).aq:=by
  unfold bg
  simp only
  split
  ·exact wW (g:=bV.aq) (λ_ _=>rfl)
  rfl
 grind [lg]
theorem x9 (hI:Inv0 S) (fw:aS S.ax ⟨to,2⟩) (hl2:bF aG (ah S.O to).aq=some o) (hl:bF name (ah S.O d).aq=some t) (hot:o≠t):bF name (ah (bg S to aG o).O d).aq=some t:=by
 rw [JC (hI.ne fw hl2)]
 grind [xW]
theorem yc (hI:Inv0 S) (fw:aS S.ax ⟨to,2⟩) (hl2:bF aG (ah S.O to).aq=some o):bF aG (ah (bg S to aG o).O to).aq=none:=by
 rw [JC (hI.ne fw hl2),t8 rfl,xW,t8 rfl]
theorem oY (hI:Inv0 S) (fw:aS S.ax ⟨to,2⟩) (hl2:bF aG (ah S.O to).aq=some o) (hx:aS S.ax t) (hk:t.k≠o.k):aS (bg S to aG o).ax t:=by
 unfold bg
 simp only
 split
 ·unfold kg
  split
  ·unfold aS
   rw [wU,nw]
   ·exact hx
   intro e
   have h1:=(hI.ob o (hI.bR fw hl2).2).1
   rw [wW (g:=bV.id) (λ_ _=>rfl),eZ (g:=bV.id) (λ_ _=>rfl) (λ_ _=>rfl) (λ_ _ _=>rfl),h1] at e
   exact hk d5
  exact hx
 exact hx
theorem sS (cF:t.k≠d):(ah (bn X O d name t) k).aq.length<=(ah O k).aq.length:=by
 rw [lg cF]
 split
 ·rename_i e
  subst e
  exact aiV _ _
 split<;>exact N6 _
theorem qw (hI:Inv0 S) (hd:aS S.ax ⟨d,2⟩) (hl:bF name (ah S.O d).aq=some t):0<=(ah (bn S.X S.O d name t) t.k).aT/\(ah (bn S.X S.O d name t) t.k).aT<=1048576:=by
 have ht:=(hI.bR hd hl).2
 have h1:=hI.aT t ht
 have h2:0<ny S.ax S.O t.k:=qO hd hl
 have h3:=hI.lb ht
 rw [lg (hI.ne hd hl),nw (hI.ne hd hl),t8 rfl]
 grind
end facts
theorem bO.take {β:Bs} {A:Option Addr} {d:List UInt8} (h:bO β A d) (n:Nat):bO β A (d.take n):=by
 intro j v hj
 refine h j v ?_
 grind [d9]
theorem Um {a b:List UInt8}:d9 (a++b)=d9 a++d9 b:=aiM
theorem Inv0.agf {S:aZ} {t:Th} (h:Inv0 S) (hl:aS S.ax t):((ah S.O t.k).data.length:Int)<=S.X.used:=by
 have h1:=h.used
 have h2:(ah S.O t.k).data.length<=bytes S.ax S.O:=sA (g:=λp:Int×Th=>(ah S.O p.2.k).data.length) hl
 omega
theorem WH {X:FM} {n:Nat} (h:0<X.cB-X.used):min (n:Int) (X.cB-X.used)=(dU X n:Int):=by
 unfold dU
 omega
theorem WI {X:FM} {n:Nat} (h:0<X.cB-X.used):dU X n<=n/\(dU X n:Int)<=X.cB-X.used:=by
 unfold dU
 omega
section data
variable {O:eu} {us:bC Th} {L L':HL} {k c:Nat} {A:Option Addr} {t:Th}
theorem OZ (hL:L'=L.data k A c):dQ L' us=dQ L us:=by subst hL;rfl
theorem ZR (hL:L'=L.data k A c):iE O L'=iE O L:=by
 subst hL
 funext x
 rfl
theorem ZS (hL:L'=L.data k A c) {x:Nat} (h:x≠k):fV O L' x=fV O L x:=by
 have e2:l5 L' x (ah O x)=l5 L x (ah O x):=by
  subst hL
  unfold l5 FY
  simp only [HL.data,nw h]
  rfl
 unfold fV
 rw [e2]
 subst hL
 rfl
theorem ZT (hL:L'=L.data k A c) {x:Nat} (h:x≠k):eY O L' x=eY O L x:=by
 unfold eY
 subst hL
 simp only [HL.data,nw h]
theorem Sr (hL:L'=L.data k A c):L'.dA k=A:=by subst hL;exact t8 rfl
theorem St (hL:L'=L.data k A c):L'.dC k=c:=by subst hL;exact t8 rfl
theorem WJ (hL:L'=L.data k A c) {x:Nat}:L'.b x=L.b x:=by subst hL;rfl
end data
section sat
variable {β:Bs} {l l':List HP} {w:World} {i j k c n:Nat} {O:eu} {L L':HL} {f:bV->bV} {cs:List Value} {T:TypeId} {ix:List Nat} {A:Option Addr} {R:Nat->eG} {xs:List Value}
theorem aP.aeo (h:aP β l w) (hL:L'=L.data k A c) (hp:l[i]?=some (.abs (bp (pU (fV O L) k eG.none)))) (hq:l[j]?=some (.aD (L.b k) cs T)) (hd:bU (i::j::ix)=true) (hl:cT l ix=some l') (h0:(f (ah O k)).kind≠0) (hc:l5 L' k (f (ah O k))=cs) (hT:yG (f (ah O k)).kind=T):aP β (.abs (bp (fV (bD O k f) L'))::l') w:=by
 refine h.yX (a:=KF (L.b k) cs T) hp hq (λ_ _ h=>h) hd hl k (λx hx=>?_) (by rw [FZ,nw h0,hc,hT,WJ hL])
 rw [Jk hx,ZS hL hx,F7 hx]
theorem aP.aep (h:aP β l w) (hL:L'=L.data k A c) (hp:l[i]?=some (.abs (bp (pU (eY O L) k eG.none)))) (hq:l[j]?=some (.abs (aI 5 1 A n c xs))) (hd:bU (i::j::ix)=true) (hl:cT l ix=some l') (h1:(f (ah O k)).kind=1) (hn:n=(f (ah O k)).data.length) (hx:xs=d9 (f (ah O k)).data):aP β (.abs (bp (eY (bD O k f) L'))::l') w:=by
 refine h.yX hp hq (λ_ _ h=>h) hd hl k (λx hx=>by rw [Jm hx,ZT hL hx,F7 hx]) ?_
 grind [zU,iF,Sr,St]
end sat
end
section
def mE (n:Int):Prop:=n=1\/n=2\/n=4\/n=13
end
section
open Go.RowKit Go.Maps bw aH
structure qP (β:Bs) (c:aK):Prop where
 hw:(Lit.int .i64 c.bA).wf=true
 ow:(Lit.int .i64 c.other).wf=true
 nm:c.name.size<=1048576
 tx:c.text.size<=1048576
 da:bO β c.dA c.data
 dl:c.data.length<=1099511627776
 dc:c.data.length<=c.dC
 op:mE c.op
section facts
variable {S:aZ} {h:Int} {name:ByteArray} {fH:Int} {t:Th} {c:aK}
theorem CM (hI:Inv0 S) (h:Int) (name:ByteArray) (fH:Int):(∃e,ic S.O S.us h name fH=.error e/\e≠0)\/∃d,ic S.O S.us h name fH=.ok d/\aS S.ax ⟨d,2⟩/\(ah S.O d).aJ=false/\bW name/\aH.get S.us h=some ⟨d,2⟩:=by
 unfold ic
 cases e:aH.get S.us h with
 |none=>exact .inl ⟨131,rfl,d8⟩
 |some t=>
   simp only
   split
   ·rename_i hk
    split
    ·exact .inl ⟨170,rfl,d8⟩
    rename_i hg
    split
    ·rename_i hn
     split
     ·obtain⟨k,kd⟩:=t
      simp only at hk
      subst hk
      exact .inr ⟨k,rfl,(hI.us h _ e).1,by simpa using hg,hn,rfl⟩
     exact .inl ⟨175,rfl,d8⟩
    exact .inl ⟨95,rfl,d8⟩
   exact .inl ⟨173,rfl,d8⟩
theorem WK (hI:Inv0 S) (c:aK):(∃e,jU S.O S.us c=.error e/\e≠0)\/(∃k,jU S.O S.us c=.ok ⟨k,1⟩/\aS S.ax ⟨k,1⟩)\/(∃k,jU S.O S.us c=.ok ⟨k,2⟩/\aS S.ax ⟨k,2⟩)\/∃k,jU S.O S.us c=.ok ⟨k,3⟩/\aS S.ax ⟨k,3⟩:=by
 unfold jU
 rcases CM hI c.bA c.name 64 with ⟨e,h1,h2⟩|⟨d,h1,h2,_⟩
 ·rw [h1];exact .inl ⟨e,rfl,h2⟩
 rw [h1]
 simp only
 rcases hI.vL h2 c.name with h3|⟨k,h3,h4⟩|⟨k,h3,h4⟩|⟨k,h3,h4⟩
 all_goals grind
theorem O0 {L:HL} {us:bC Th} {h:Int}:dQ L (del h us)=del h (dQ L us):=KL (jl L) h us
theorem Sv {us:bC Th} {h:Int} (e:aH.get us h=some t):0<hnd us t.k:=aiq nh (sA (g:=λp:Int×Th=>if p.2.k=t.k then 1 else 0) e)
theorem O3 {L:HL}:eY (fD S t).2.2.O L=eY S.O L:=by
 by_cases h:(S.us.length:Int)<S.X.cH
 ·rw [mB h];exact zZ (λ_=>eU (f:=λo=>{o with aQ:=o.aQ+1}) (g:=bV.data) (λ_=>rfl)) (λ_=>ux (f:=λo=>{o with aQ:=o.aQ+1}) (λ_=>rfl))
 rw [om h]
theorem O4 {L:HL}:iE (fD S t).2.2.O L=iE S.O L:=by
 grind [mB,F6,om]
theorem ac0:(kP S c).2.2.op=c.op:=by unfold kP;(repeat' split)<;>rfl
theorem Un:(gh S c).2.2.op=c.op:=by unfold gh;(repeat' split)<;>rfl
theorem Rh:(rz S c).2.2.op=c.op:=by unfold rz;(repeat' split)<;>rfl
theorem Uo:(iQ S c).2.2.op=c.op:=by unfold iQ;(repeat' split)<;>rfl
theorem Ri:(rA S c).2.2.op=c.op:=by unfold rA;(repeat' split)<;>rfl
theorem O5:(qd S c).2.2.op=c.op:=by unfold qd;(repeat' split)<;>rfl
theorem WL:(uY S c).2.2.op=c.op:=by unfold uY;(repeat' split)<;>rfl
theorem Rj:(rC S c).2.2.op=c.op:=by unfold rC;(repeat' split)<;>rfl
theorem Uq:(sM S c).2.2.op=c.op:=by unfold sM;(repeat' split)<;>rfl
theorem Rk:(rE S c).2.2.op=c.op:=by unfold rE;(repeat' split)<;>rfl
theorem Ur:(sO S c).2.2.op=c.op:=by unfold sO;(repeat' split)<;>rfl
theorem Us:(sQ S c).2.2.op=c.op:=by unfold sQ;(repeat' split)<;>rfl
theorem ac1:(Bt S c).2.2.op=c.op:=by unfold Bt;(repeat' split)<;>rfl
theorem WM:(vf S c).2.2.op=c.op:=by unfold vf;(repeat' split)<;>rfl
theorem ZU:(ju S c).2.2.op=c.op:=by unfold ju;(repeat' split)<;>rfl
end facts
theorem vM {S:aZ} {c:aK} (h:c.op=1):iL S c=kP S c:=by
 unfold iL
 simp [h]
theorem uj {S:aZ} {c:aK} (h:c.op=2):iL S c=gh S c:=by
 unfold iL
 simp [h]
theorem Gg {S:aZ} {c:aK} (h:c.op=3):iL S c=rz S c:=by
 unfold iL
 simp [h]
theorem vN {S:aZ} {c:aK} (h:c.op=4):iL S c=iQ S c:=by
 unfold iL
 simp [h]
theorem Gh {S:aZ} {c:aK} (h:c.op=5):iL S c=rA S c:=by
 unfold iL
 simp [h]
theorem Gi {S:aZ} {c:aK} (h:c.op=6):iL S c=qd S c:=by
 unfold iL
 simp [h]
theorem Gj {S:aZ} {c:aK} (h:c.op=7):iL S c=uY S c:=by
 unfold iL
 simp [h]
theorem Gl {S:aZ} {c:aK} (h:c.op=8):iL S c=rC S c:=by
 unfold iL
 simp [h]
theorem Gm {S:aZ} {c:aK} (h:c.op=9):iL S c=sO S c:=by
 unfold iL
 simp [h]
theorem CN {S:aZ} {c:aK} (h:c.op=10):iL S c=sQ S c:=by
 unfold iL
 simp [h]
theorem CO {S:aZ} {c:aK} (h:c.op=11):iL S c=Bt S c:=by
 unfold iL
 simp [h]
theorem CP {S:aZ} {c:aK} (h:c.op=12):iL S c=vf S c:=by
 unfold iL
 simp [h]
theorem sU {S:aZ} {c:aK} (h:c.op=13):iL S c=ju S c:=by
 unfold iL
 simp [h]
theorem CQ {S:aZ} {c:aK} (h:c.op=14):iL S c=sM S c:=by
 unfold iL
 simp [h]
theorem CR {S:aZ} {c:aK} (h:c.op=15):iL S c=rE S c:=by
 unfold iL
 simp [h]
theorem z7 {S:aZ} {c:aK} (h:¬(1<=c.op/\c.op<=15)):iL S c=(230,S,c):=by
 unfold iL
 repeat rw [nw d5]
section inv
variable {S:aZ} {d to:Nat} {name aG text:ByteArray} {mode:Int} {c:aK}
theorem O6 (hI:Inv0 S):hnd S.us (dx S.X)=0:=by
 have:hnd S.us (dx S.X)=ig (λ_=>0) S.us:=lG (λp hp=>nw (hI.fresh.us p hp))
 rw [this]
 have h0:∀us:bC Th,ig (λ_=>0) us=0:=λus=>by
  induction us with
  |nil=>rfl
  |cons p r ih=>show 0+_=0;rw [ih]
 exact h0 _
theorem GX (hI:Inv0 S) {kind mode:Int} {tg:ByteArray} (hm:mT mode) (ht:dL kind tg):qN {dN S.X kind mode with target:=tg}:=
 ⟨hm,⟨Int.le_refl _,by show (0:Int)<=2147483647;decide⟩,⟨Int.le_refl _,by show (0:Int)<=2147483647;decide⟩,hI.now,λ_=>rfl,λ_=>rfl,ht⟩
theorem bB.Gn (hI:bB S) (hd:aS S.ax ⟨d,2⟩) (nB:(ah S.O d).aJ=false) (hgn:bW name) (h0:iB S.X S.O S.ax d name=0) {kind mode:Int} {tg:ByteArray} (hk:kind=1\/kind=2\/kind=3) (hm:mT mode) (ht:dL kind tg) :
 bB (iw S d name {dN S.X kind mode with target:=tg}):=by
 have h:=hI.add (us':=S.us) (lH:=S.aL) (o:={dN S.X kind mode with target:=tg}) hd nB (x7 h0) hgn (Cp h0) rfl hk rfl rfl rfl rfl rfl (GX hI.toInv0 hm ht) hI.usr hI.wC hI.EP hI.aL (λh t e=>⟨.inl (hI.us h t e).1,(hI.us h t e).2⟩) (λ_ _=>rfl) (by rw [O6 hI.toInv0];rfl)
 exact h
theorem bB.lP (hI:bB S) (hd:aS S.ax ⟨d,2⟩) (nB:(ah S.O d).aJ=false) (hgn:bW name) (hm:mT mode):bB (Proofs.YtfececghhgeapaaGreatDoor.lP S d name mode).2:=by
 unfold Proofs.YtfececghhgeapaaGreatDoor.lP
 split
 ·rename_i h0
  exact hI.Gn hd nB hgn h0 (.inr (.inl rfl)) hm (.inl ⟨d8,rfl⟩)
 exact hI
theorem ac2 {s:ByteArray} (h:lF s=0):dL 3 s:=by
 grind [lF,tf,dL]
theorem bB.j4 (hI:bB S) (hd:aS S.ax ⟨d,2⟩) (nB:(ah S.O d).aJ=false) (hgn:bW name):bB (Proofs.YtfececghhgeapaaGreatDoor.j4 S d name text).2:=by
 unfold Proofs.YtfececghhgeapaaGreatDoor.j4
 split
 ·rename_i hb
  split
  ·rename_i h0
   exact hI.Gn hd nB hgn h0 (.inr (.inr rfl)) ⟨d8,d8⟩ (ac2 hb)
  exact hI
 exact hI
theorem bB.iW (hI:bB S) (hd:aS S.ax ⟨d,2⟩):bB (Proofs.YtfececghhgeapaaGreatDoor.iW S d name).2:=by
 unfold Proofs.YtfececghhgeapaaGreatDoor.iW
 split
 ·exact hI
 rename_i t hl
 split
 ·exact hI
 rename_i hk
 exact hI.Gf hd hl hk
theorem bB.jt (hI:bB S) (hd:aS S.ax ⟨d,2⟩):bB (Proofs.YtfececghhgeapaaGreatDoor.jt S d name).2:=by
 unfold Proofs.YtfececghhgeapaaGreatDoor.jt
 split
 ·exact hI
 rename_i t hl
 split
 ·split
  ·rename_i he
   exact hI.drop hd hl (λ_=>he)
  exact hI
 exact hI
theorem Ut {t:Th} (ht:t.k≠to):(ah (bg S d name t).O to).aJ=(ah S.O to).aJ:=by
 have h1:(ah (bg S d name t).O to).aJ=(ah (bn S.X S.O d name t) to).aJ:=by
  unfold bg
  simp only
  split
  ·show (ah (bD _ t.k _) to).aJ=_
   rw [jk (λe=>ht e.symm)]
  rfl
 rw [h1]
 exact eZ (g:=bV.aJ) (λ_ _=>rfl) (λ_ _=>rfl) (λ_ _ _=>rfl)
theorem bB.dG (hI:bB S) (hd:aS S.ax ⟨d,2⟩) (fw:aS S.ax ⟨to,2⟩) (nB:(ah S.O to).aJ=false) (hgn:bW aG):bB (Proofs.YtfececghhgeapaaGreatDoor.dG S d name to aG).2:=by
 unfold Proofs.YtfececghhgeapaaGreatDoor.dG
 split
 ·exact hI
 rename_i t hl
 split
 ·exact hI
 rename_i hb
 have hb:t.kind=2->¬su S.O t.k to:=λh1 h2=>hb ⟨h1,h2⟩
 split
 ·rename_i hn
  exact hI.move hd hl fw nB hn hgn hb
 rename_i o hl2
 split
 ·exact hI
 rename_i hot
 split
 ·exact hI
 rename_i hok
 split
 ·exact hI
 rename_i htk
 have ho:=(hI.bR fw hl2).2
 have aer:o.k≠to:=hI.ne fw hl2
 have h1:=hI.Gf fw hl2 hok
 have jJ:aS (bg S to aG o).ax ⟨d,2⟩:=oY hI.toInv0 fw hl2 hd (λe=>hok (by have:=jS hd ho e;rw [←this]))
 have oR:aS (bg S to aG o).ax ⟨to,2⟩:=oY hI.toInv0 fw hl2 fw (λe=>aer e.symm)
 exact h1.move jJ (x9 hI.toInv0 fw hl2 hl hot) oR (by rw [Ut aer];exact nB) (yc hI.toInv0 fw hl2) hgn (λh=>KB h htk)
theorem bB.yY (hI:bB S) (hd:aS S.ax ⟨d,2⟩) (fw:aS S.ax ⟨to,2⟩) (nB:(ah S.O to).aJ=false) (hgn:bW aG):bB (Proofs.YtfececghhgeapaaGreatDoor.yY S d name to aG).2:=by
 unfold Proofs.YtfececghhgeapaaGreatDoor.yY
 split
 ·exact hI
 rename_i t hl
 have ht:=(hI.bR hd hl).2
 split
 ·exact hI
 rename_i hk
 split
 ·rename_i hn
  split
  ·rename_i hr
   have hgt:(ah S.O t.k).aJ=false:=by
    cases hg:(ah S.O t.k).aJ with
    |false=>rfl
    |true=>
      have h1:=(hI.aJ t ht hg).1
      have h2:=hI.aT t ht
      have h3:0<ny S.ax S.O t.k:=qO hd hl
      omega
   exact hI.link fw nB hn hgn ht hgt hk hr
  exact hI
 exact hI
theorem bB.sy (hI:bB S) (hd:aS S.ax ⟨d,2⟩) (nB:(ah S.O d).aJ=false) (hgn:bW name) (hm:mT mode):bB (Proofs.YtfececghhgeapaaGreatDoor.sy S d name mode).2.2:=by
 unfold Proofs.YtfececghhgeapaaGreatDoor.sy
 split
 ·rename_i h0
  split
  ·rename_i fX
   obtain⟨g1,g2,_⟩:=least_le hI.usr (λx hx=>(hI.wC x hx).1)
   obtain⟨v1,v2⟩:=Sq (t:=⟨dx S.X,1⟩) hI.usr hI.wC
   have hm2:=GX (kind:=1) (tg:=⟨#[]⟩) hI.toInv0 hm (.inl ⟨d8,rfl⟩)
   refine hI.add (us':=ins (aH.aR S.us) ⟨dx S.X,1⟩ S.us) (lH:=max S.aL ((S.us.length:Int)+1)) (o:={dN S.X 1 mode with aQ:=1}) hd nB (x7 h0) hgn (Cp h0) rfl (.inl rfl) rfl rfl rfl rfl rfl ⟨hm2.mode,hm2.cM,hm2.cO,hm2.time,hm2.data,hm2.aq,hm2.target⟩ v1 v2 (by rw [kR];omega) (by have:=hI.aL;omega) (λh t e=>?_) (λk hk=>?_) ?_
   ·rw [tj g2] at e
    split at e
    ·cases e;exact⟨.inr rfl,by show (1:Int)≠3;decide⟩
    exact⟨.inl (hI.us h t e).1,(hI.us h t e).2⟩
   ·grind [KV]
   rw [KV,t8 rfl,O6 hI.toInv0];rfl
  exact hI
 exact hI
theorem bB.iL (hI:bB S) (c:aK):bB (Proofs.YtfececghhgeapaaGreatDoor.iL S c).2.1:=by
 have habout:∀{fH:Int} {d:Nat} {h:Int} {n:ByteArray},ic S.O S.us h n fH=.ok d->aS S.ax ⟨d,2⟩/\(ah S.O d).aJ=false/\bW n:=λ{fH d h n} e=>by
  rcases CM hI.toInv0 h n fH with ⟨e2,h1,_⟩|⟨d2,h1,h2,h3,h4,_⟩
  all_goals grind
 have hnamed:∀{t:Th},jU S.O S.us c=.ok t->aS S.ax t:=λ{t} e=>by
  rcases WK hI.toInv0 c with ⟨e2,h1,_⟩|⟨k,h1,h2⟩|⟨k,h1,h2⟩|⟨k,h1,h2⟩<;>rw [e] at h1<;>cases h1<;>exact h2
 by_cases h:1<=c.op/\c.op<=15
 ·have h:c.op=1\/c.op=2\/c.op=3\/c.op=4\/c.op=5\/c.op=6\/c.op=7\/c.op=8\/c.op=9\/c.op=10\/c.op=11\/c.op=12\/c.op=13\/c.op=14\/c.op=15:=d5
  rcases h with h|h|h|h|h|h|h|h|h|h|h|h|h|h|h
  ·rw [vM h]
   unfold kP
   split
   ·exact hI
   rename_i t e
   split
   ·rename_i hk;exact hI.fD (hI.live e) (by rw [hk];decide)
   exact hI
  ·rw [uj h]
   unfold gh
   split
   ·exact hI
   rename_i t e
   split
   ·exact hI
   rename_i hk
   split
   ·exact hI
   exact hI.fD (hnamed e) hk
  ·rw [Gg h]
   unfold rz
   split
   ·exact hI
   rename_i t e
   split
   ·exact hI
   rename_i hk
   split
   ·exact hI
   exact hI.fD (hnamed e) hk
  ·rw [vN h]
   unfold iQ
   split
   ·exact hI
   rename_i d e
   obtain⟨h1,h2,h3⟩:=habout e
   split
   ·rename_i hm;exact hI.lP h1 h2 h3 hm
   exact hI
  ·rw [Gh h]
   unfold rA
   split
   ·exact hI
   rename_i d e
   obtain⟨h1,h2,h3⟩:=habout e
   split
   ·rename_i hm
    split
    ·exact hI.sy h1 h2 h3 hm
    exact hI
   exact hI
  ·rw [Gi h]
   unfold qd
   split
   ·exact hI
   rename_i d e
   obtain⟨h1,h2,h3⟩:=habout e
   exact hI.j4 h1 h2 h3
  ·rw [Gj h]
   unfold uY
   split
   ·exact hI
   rename_i d e
   split
   ·exact hI
   rename_i to e2
   obtain⟨h1,h2,h3⟩:=habout e2
   exact hI.yY (habout e).1 h1 h2 h3
  ·rw [Gl h]
   unfold rC
   split
   ·exact hI
   rename_i d e
   exact hI.iW (habout e).1
  ·rw [Gm h]
   unfold sO
   split
   ·exact hI
   rename_i t e
   split
   ·rename_i hk
    obtain⟨k,kd⟩:=t
    simp only at hk
    subst hk
    exact hI.iC (hI.us _ _ e).1 _
   exact hI
  ·rw [CN h]
   unfold sQ
   split
   ·exact hI
   split
   ·exact hI
   split
   ·rename_i hm
    split
    ·rename_i ho
     split
     ·rename_i ht;exact hI.agd hm ho ht
     exact hI
    exact hI
   exact hI
  ·rw [CO h]
   unfold Bt
   split<;>exact hI
  ·rw [CP h]
   unfold vf
   split<;>exact hI
  ·rw [sU h]
   unfold ju
   split
   ·exact hI
   rename_i t e;exact hI.shut e
  ·rw [CQ h]
   unfold sM
   split
   ·exact hI
   rename_i d e
   exact hI.jt (habout e).1
  rw [CR h]
  unfold rE
  split
  ·exact hI
  rename_i d e
  split
  ·exact hI
  rename_i to e2
  obtain⟨h1,h2,h3⟩:=habout e2
  exact hI.dG (habout e).1 h1 h2 h3
 rw [z7 h];exact hI
theorem bB.fF (hI:bB S) (c:aK):bB (Proofs.YtfececghhgeapaaGreatDoor.fF S c).1:=hI.iL _
end inv
structure cI where
 at_:Int
 op:Int
 path:ByteArray
 to:ByteArray
 text:ByteArray
def slash:ByteArray:=⟨#[47]⟩
def bQ (s:ByteArray):List ByteArray:=Lib.splitB slash 0 (Lib.countB s slash) s
noncomputable section
def pV (O:eu):Nat->List ByteArray->Except Int (Nat×ByteArray)
 |_,[]=>.error 170
 |d,[p]=>if (ah O d).aJ=true then .error 170 else .ok (d,p)
 |d,p::q::r=>match bF p (ah O d).aq with
   |none=>.error 170
   |some t=>if t.kind=3 then .error 174 else if t.kind=1 then .error 173 else pV O t.k (q::r)
instance (ps:List ByteArray):Decidable (∀p∈ps,bW p):=Classical.propDecidable _
def mV (O:eu) (d:Nat) (path:ByteArray):Except Int (Nat×ByteArray):=if ∀p∈bQ path,bW p then pV O d (bQ path) else .error 95
def qQ (S:aZ) (d:Nat) (name text:ByteArray):Int×aZ:=
 if iB S.X S.O S.ax d name=0 then (0,(iC (iw S d name (dN S.X 1 420)) (dx S.X) text.data.toList).2.2) else (iB S.X S.O S.ax d name,S)
def oG (S:aZ) (d:Nat) (name text:ByteArray):Int×aZ:=
 match bF name (ah S.O d).aq with
 |none=>(170,S)
 |some t=>if t.kind=3 then (174,S) else if t.kind=2 then (172,S) else ((iC S t.k text.data.toList).2.1,(iC S t.k text.data.toList).2.2)
def nJ (S:aZ) (top:Nat) (a:cI) (d:Nat) (name:ByteArray):Int×aZ:=
 if a.op=1 then qQ S d name a.text
 else if a.op=2 then lP S d name 493
 else if a.op=3 then j4 S d name a.text
 else if a.op=4 then iW S d name
 else if a.op=5 then jt S d name
 else if a.op=6 then match mV S.O top a.to with
  |.error e=>(e,S)
  |.ok (to,aG)=>dG S d name to aG
 else oG S d name a.text
def cK (S:aZ) (af:Int) (a:cI):Int×aZ:=
 if a.op<1\/a.op>7 then (230,S)
 else match aH.get S.ax af with
  |none=>(141,S)
  |some t=>if t.kind=2 then
   match mV S.O t.k a.path with
   |.error e=>(e,S)
   |.ok (d,name)=>nJ S t.k a d name
   else (173,S)
end
section facts
variable {S:aZ} {O:eu} {d d':Nat} {name:ByteArray} {t:Th}
theorem Sw (hI:Inv0 S):∀(ps:List ByteArray) (d:Nat),aS S.ax ⟨d,2⟩->(∀p∈ps,bW p)->pV S.O d ps=.ok (d',name)->aS S.ax ⟨d',2⟩/\(ah S.O d').aJ=false/\bW name
 |[],d,_,_,h=>by cases h
 |[p],d,hd,hg,h=>by
   unfold pV at h
   split at h
   ·cases h
   rename_i hn
   cases h
   exact⟨hd,by simpa using hn,hg _ (aiD.2 rfl)⟩
 |p::q::r,d,hd,hg,h=>by
   unfold pV at h
   cases e:bF p (ah S.O d).aq with
   |none=>rw [e] at h;cases h
   |some t=>
     rw [e] at h
     simp only at h
     split at h
     ·cases h
     rename_i h3
     split at h
     ·cases h
     rename_i h1
     have hl:=(hI.bR hd e).2
     have hk:t=⟨t.k,2⟩:=by
      have:=(hI.ob _ hl).2.2
      obtain⟨k,kd⟩:=t
      simp only at this h1 h3
      have:kd=2:=d5
      rw [this]
     rw [hk] at hl
     exact Sw hI (q::r) t.k hl (λp hp=>hg p (T4 _ hp)) h
theorem KW {path:ByteArray} (hI:Inv0 S) (hd:aS S.ax ⟨d,2⟩) (h:mV S.O d path=.ok (d',name)):aS S.ax ⟨d',2⟩/\(ah S.O d').aJ=false/\bW name:=by
 grind [mV,Sw]
theorem O7 (hI:bB S) {o:bV}:aS (ins (S.X.last+1) ⟨dx S.X,o.kind⟩ S.ax) ⟨dx S.X,o.kind⟩:=by
 unfold aS
 have h1:=tv hI.toInv0
 have hn:S.X.last+1∉aY S.ax:=by
  cases e:aH.get S.ax (S.X.last+1) with
  |none=>exact get_none.1 e
  |some t=>have:=hI.ax _ _ e;omega
 rw [tj hn]
 simp only
 rw [h1,t8 rfl]
theorem bB.qQ {text:ByteArray} (hI:bB S) (hd:aS S.ax ⟨d,2⟩) (nB:(ah S.O d).aJ=false) (hgn:bW name):bB (Proofs.YtfececghhgeapaaGreatDoor.qQ S d name text).2:=by
 unfold Proofs.YtfececghhgeapaaGreatDoor.qQ
 split
 ·rename_i h0
  exact (hI.Gn hd nB hgn h0 (.inl rfl) ⟨d8,d8⟩ (.inl ⟨d8,rfl⟩)).iC (O7 hI (o:=dN S.X 1 420)) _
 exact hI
theorem bB.oG {text:ByteArray} (hI:bB S) (hd:aS S.ax ⟨d,2⟩):bB (Proofs.YtfececghhgeapaaGreatDoor.oG S d name text).2:=by
 unfold Proofs.YtfececghhgeapaaGreatDoor.oG
 split
 ·exact hI
 rename_i t e
 split
 ·exact hI
 split
 ·exact hI
 rename_i h3 h2
 have hl:=(hI.bR hd e).2
 have hk:t=⟨t.k,1⟩:=by
  have:=(hI.ob _ hl).2.2
  obtain⟨k,kd⟩:=t
  grind
 rw [hk] at hl
 exact hI.iC hl _
theorem bB.nJ {top:Nat} {a:cI} (hI:bB S) (ht:aS S.ax ⟨top,2⟩) (hd:aS S.ax ⟨d,2⟩) (nB:(ah S.O d).aJ=false) (hgn:bW name):bB (Proofs.YtfececghhgeapaaGreatDoor.nJ S top a d name).2:=by
 unfold Proofs.YtfececghhgeapaaGreatDoor.nJ
 split
 ·exact hI.qQ hd nB hgn
 split
 ·exact hI.lP hd nB hgn ⟨d8,d8⟩
 split
 ·exact hI.j4 hd nB hgn
 split
 ·exact hI.iW hd
 split
 ·exact hI.jt hd
 split
 ·split
  ·exact hI
  rename_i to aG e
  obtain⟨h1,h2,h3⟩:=KW hI.toInv0 ht e
  exact hI.dG hd h1 h2 h3
 exact hI.oG hd
theorem ac3 {i:Int} (hI:Inv0 S) (e:aH.get S.ax i=some t) (hk:t.kind=2):aS S.ax ⟨t.k,2⟩:=by
 have:=hI.live e
 obtain⟨k,kd⟩:=t
 simp only at hk
 subst hk
 exact this
theorem bB.cK {af:Int} {a:cI} (hI:bB S):bB (Proofs.YtfececghhgeapaaGreatDoor.cK S af a).2:=by
 unfold Proofs.YtfececghhgeapaaGreatDoor.cK
 split
 ·exact hI
 split
 ·exact hI
 rename_i t e
 split
 ·rename_i hk
  split
  ·exact hI
  rename_i d name e2
  have ht:=ac3 hI.toInv0 e hk
  obtain⟨h1,h2,h3⟩:=KW hI.toInv0 ht e2
  exact hI.nJ ht h1 h2 h3
 exact hI
end facts
section err
variable {S:aZ} {c:aK} {d to:Nat} {name aG text:ByteArray} {t:Th}
theorem ET (h:(fD S t).2.1≠0):(fD S t).2.2=S:=by
 grind [mB,om]
theorem JD {m:Int} (h:(lP S d name m).1≠0):(lP S d name m).2=S:=by
 grind [lP]
theorem EU (h:(j4 S d name text).1≠0):(j4 S d name text).2=S:=by
 grind [j4]
theorem GY (h:(iW S d name).1≠0):(iW S d name).2=S:=by
 grind [iW]
theorem JE (h:(jt S d name).1≠0):(jt S d name).2=S:=by
 grind [jt]
theorem GZ (h:(dG S d name to aG).1≠0):(dG S d name to aG).2=S:=by
 unfold dG at *
 grind
theorem JF {k:Nat} {bs:List UInt8} (h:(iC S k bs).2.1≠0):(iC S k bs).2.2=S:=by
 grind [iC]
theorem WN (h:(yY S d name to aG).1≠0):(yY S d name to aG).2=S:=by
 unfold yY at *
 grind
theorem Rl {m:Int} (h:(sy S d name m).2.1≠0):(sy S d name m).2.2=S:=by
 grind [sy]
theorem ac4 (h:(iL S c).1≠0):(iL S c).2.1=S:=by
 by_cases cD:1<=c.op/\c.op<=15
 case neg=>rw [z7 cD]
 have cD:c.op=1\/c.op=2\/c.op=3\/c.op=4\/c.op=5\/c.op=6\/c.op=7\/c.op=8\/c.op=9\/c.op=10\/c.op=11\/c.op=12\/c.op=13\/c.op=14\/c.op=15:=d5
 rcases cD with e|e|e|e|e|e|e|e|e|e|e|e|e|e|e
 ·grind [vM,kP,ET]
 ·grind [uj,gh,ET]
 ·grind [Gg,rz,ET]
 ·grind [vN,iQ,JD]
 ·grind [Gh,rA,Rl]
 ·grind [Gi,qd,EU]
 ·grind [Gj,uY,WN]
 ·grind [Gl,rC,GY]
 ·grind [Gm,sO,JF]
 ·grind [CN,sQ]
 ·rw [CO e]
  unfold Bt
  split<;>rfl
 all_goals grind [CP,vf,sU,ju,CQ,sM,JE,CR,rE,GZ]
theorem ac5 (h:(fF S c).2.code≠0):(fF S c).1=S:=ac4 h
theorem ZV {af:Int} {a:cI} (h:(cK S af a).1≠0):(cK S af a).2=S:=by
 unfold cK at *
 split
 ·rfl
 rename_i e0
 rw [nw e0] at h
 cases e1:aH.get S.ax af with
 |none=>rfl
 |some t=>
   rw [e1] at h
   simp only at h ⊢
   split
   ·rename_i e2
    rw [t8 e2] at h
    cases e3:mV S.O t.k a.path with
    |error e=>rfl
    |ok x=>
      obtain⟨d,name⟩:=x
      rw [e3] at h
      grind [nJ,qQ,JD,EU,GY,JE,mV,GZ,oG,bF,ah,JF]
   rfl
end err
noncomputable section
structure ck where
 at_:Int
 kind:Int
def jv (f:ck):List Value:=[.int .i64 f.at_,.int .i64 f.kind]
instance:Inhabited ck:=⟨⟨0,0⟩⟩
instance:Inhabited cI:=⟨⟨0,0,⟨#[]⟩,⟨#[]⟩,⟨#[]⟩⟩⟩
def pG (fs:List ck) (i:Nat):ck:=fs.getD i default
def act (xs:List cI) (i:Nat):cI:=xs.getD i default
def FK (f:ck):Prop:=1<=f.kind/\f.kind<=3
instance (f:ck):Decidable (FK f):=inferInstanceAs (Decidable (_/\_))
def jb:List ck->Int->Int
 |[],_=>0
 |f::r,n=>if f.at_=n/\FK f then f.kind else jb r n
def dm (xs:List cI) (n:Int):List cI:=xs.filter (λa=>decide (a.at_=n))
def jh (af:Int) (S:aZ) (xs:List cI):aZ:=xs.foldl (λS a=>(cK S af a).2) S
def iI (c:aK) (e:Int):aK:=if c.op=11\/c.op=12 then ⟨c.op,c.bA,0,c.name,c.text,c.dA,c.dC,c.data,0,0,0,0,0,e,0⟩ else {c with answer:=0,code:=e}
def dY (k:Int) (S:aZ) (c:aK):aZ×aK:=
 if k=1 then (if c.op=13 then (fF S c).1 else S,iI c 180)
 else if k=2/\(c.op=4\/c.op=5\/c.op=6\/c.op=7\/c.op=9) then (S,iI c 176)
 else if k=3/\c.op=9/\2<=c.data.length then ((fF S {c with data:=c.data.take (c.data.length / 2)}).1,{ (fF S {c with data:=c.data.take (c.data.length / 2)}).2 with dA:=c.dA,dC:=c.dC,data:=c.data})
 else fF S c
def cr (af:Int) (c:aK):aK:=if c.op=1 then {c with other:=af} else c
def bq (fs:List ck) (xs:List cI) (af:Int) (n:Nat) (S:aZ) (c:aK):aZ×aK:=dY (jb fs n) (jh af S (dm xs n)) (cr af c)
section p
variable {S:aZ} {c:aK} {fs gs:List ck} {xs ys:List cI} {af k:Int} {n:Nat} {A:Option Addr} {m:Nat}
theorem tD (f:ck) (x:Int):∀fs:List ck,jb (fs++[f]) x=if jb fs x=0 then (if f.at_=x/\FK f then f.kind else 0) else jb fs x
 |[]=>rfl
 |g::r=>by
   show (if g.at_=x/\FK g then g.kind else jb (r++[f]) x)=if (if g.at_=x/\FK g then g.kind else jb r x)=0 then _ else (if g.at_=x/\FK g then g.kind else jb r x)
   by_cases h:g.at_=x/\FK g
   ·have:¬g.kind=0:=by have:=h.2.1;omega
    rw [t8 h,t8 h,nw this]
   rw [nw h,nw h,tD f x r]
theorem xG (a:cI) (x:Int):dm (xs++[a]) x=if a.at_=x then dm xs x++[a] else dm xs x:=by
 unfold dm
 rw [List.filter_append]
 by_cases h:a.at_=x
 ·rw [t8 h,List.filter_cons_of_pos (by simpa using h),List.filter_nil]
 rw [nw h,List.filter_cons_of_neg (by simpa using h),List.filter_nil,List.append_nil]
theorem JG (x:Int):(dm xs x).length<=xs.length:=aiV ..
theorem Uu {x:Int} {a:cI} (h:a∈dm xs x):a∈xs:=(List.mem_filter.1 h).1
theorem JH (a:cI):jh af S (xs++[a])=(cK (jh af S xs) af a).2:=by
 unfold jh;rw [List.foldl_append];rfl
theorem zh {i:Nat} (h:i<xs.length):xs[i]?=some (act xs i):=getD_some h
theorem Gp {i:Nat} (h:i<fs.length):fs[i]?=some (pG fs i):=getD_some h
theorem Uv {i:Nat} (h:i<xs.length):jh af S (xs.take (i+1))=(cK (jh af S (xs.take i)) af (act xs i)).2:=by
 rw [aiC,zh h];exact JH _
theorem bB.jh (h:bB S):∀xs:List cI,bB (Proofs.YtfececghhgeapaaGreatDoor.jh af S xs):=λxs=>by
 induction xs generalizing S with
 |nil=>exact h
 |cons a r ih=>exact ih h.cK
theorem bB.dY (h:bB S):bB (Proofs.YtfececghhgeapaaGreatDoor.dY k S c).1:=by
 unfold Proofs.YtfececghhgeapaaGreatDoor.dY
 split
 ·show bB (if c.op=13 then _ else _)
  split
  ·exact h.fF _
  exact h
 split
 ·exact h
 split
 ·exact h.fF _
 exact h.fF _
theorem bB.bq (h:bB S):bB (Proofs.YtfececghhgeapaaGreatDoor.bq fs xs af n S c).1:=(h.jh _).dY
def fB (A:Option Addr) (m:Nat) (c:aK):aK:={c with dA:=A,dC:=m}
theorem aes:iL S (fB A m c)=((iL S c).1,(iL S c).2.1,fB A m (iL S c).2.2):=by
 by_cases cD:1<=c.op/\c.op<=15
 case neg=>rw [z7 cD,z7 (c:=fB A m c) cD]
 have cD:c.op=1\/c.op=2\/c.op=3\/c.op=4\/c.op=5\/c.op=6\/c.op=7\/c.op=8\/c.op=9\/c.op=10\/c.op=11\/c.op=12\/c.op=13\/c.op=14\/c.op=15:=d5
 rcases cD with q|q|q|q|q|q|q|q|q|q|q|q|q|q|q
 ·rw [vM q,vM (c:=fB A m c) q];unfold kP fB;simp only;cases aH.get S.ax c.other<;>(try simp only)<;>(repeat' split)<;>rfl
 ·rw [uj q,uj (c:=fB A m c) q];unfold gh jU fB;simp only;split<;>(repeat' split)<;>rfl
 ·rw [Gg q,Gg (c:=fB A m c) q];unfold rz jU fB;simp only;split<;>(repeat' split)<;>rfl
 ·rw [vN q,vN (c:=fB A m c) q];unfold iQ fB;simp only;split<;>(repeat' split)<;>rfl
 ·rw [Gh q,Gh (c:=fB A m c) q];unfold rA fB;simp only;split<;>(repeat' split)<;>rfl
 ·rw [Gi q,Gi (c:=fB A m c) q];unfold qd fB;simp only;split<;>(repeat' split)<;>rfl
 ·rw [Gj q,Gj (c:=fB A m c) q];unfold uY fB;simp only;split<;>(repeat' split)<;>rfl
 ·rw [Gl q,Gl (c:=fB A m c) q];unfold rC fB;simp only;split<;>(repeat' split)<;>rfl
 ·rw [Gm q,Gm (c:=fB A m c) q];unfold sO fB;simp only;split<;>(repeat' split)<;>rfl
 ·rw [CN q,CN (c:=fB A m c) q];unfold sQ fB;simp only;split<;>(repeat' split)<;>rfl
 ·rw [CO q,CO (c:=fB A m c) q];unfold Bt fB;simp only;split<;>(repeat' split)<;>rfl
 ·rw [CP q,CP (c:=fB A m c) q];unfold vf jU fB;simp only;split<;>(repeat' split)<;>rfl
 ·rw [sU q,sU (c:=fB A m c) q];unfold ju fB;simp only;split<;>(repeat' split)<;>rfl
 ·rw [CQ q,CQ (c:=fB A m c) q];unfold sM fB;simp only;split<;>(repeat' split)<;>rfl
 rw [CR q,CR (c:=fB A m c) q];unfold rE fB;simp only;split<;>(repeat' split)<;>rfl
theorem ZW:(iL S c).2.2.data=c.data:=by
 by_cases cD:1<=c.op/\c.op<=15
 case neg=>rw [z7 cD]
 have cD:c.op=1\/c.op=2\/c.op=3\/c.op=4\/c.op=5\/c.op=6\/c.op=7\/c.op=8\/c.op=9\/c.op=10\/c.op=11\/c.op=12\/c.op=13\/c.op=14\/c.op=15:=d5
 rcases cD with q|q|q|q|q|q|q|q|q|q|q|q|q|q|q
 ·rw [vM q];unfold kP;(repeat' split)<;>rfl
 ·rw [uj q];unfold gh;(repeat' split)<;>rfl
 ·rw [Gg q];unfold rz;(repeat' split)<;>rfl
 ·rw [vN q];unfold iQ;(repeat' split)<;>rfl
 ·rw [Gh q];unfold rA;(repeat' split)<;>rfl
 ·rw [Gi q];unfold qd;(repeat' split)<;>rfl
 ·rw [Gj q];unfold uY;(repeat' split)<;>rfl
 ·rw [Gl q];unfold rC;(repeat' split)<;>rfl
 ·rw [Gm q];unfold sO;(repeat' split)<;>rfl
 ·rw [CN q];unfold sQ;(repeat' split)<;>rfl
 ·rw [CO q];unfold Bt Gb;(repeat' split)<;>rfl
 ·rw [CP q];unfold vf Gb;(repeat' split)<;>rfl
 ·rw [sU q];unfold ju;(repeat' split)<;>rfl
 ·rw [CQ q];unfold sM;(repeat' split)<;>rfl
 rw [CR q];unfold rE;(repeat' split)<;>rfl
theorem O8:fF S (fB A m c)=((fF S c).1,fB A m (fF S c).2):=by
 have h:=aes (S:=S) (A:=A) (m:=m) (c:={c with answer:=0,code:=230})
 unfold fF
 rw [show ({fB A m c with answer:=0,code:=230}:aK)=fB A m {c with answer:=0,code:=230} from rfl,h]
 rfl
theorem O9:(fF S c).2.data=c.data:=ZW (c:={c with answer:=0,code:=230})
theorem Pa {e:Int}:iI (fB A m c) e=fB A m (iI c e):=by
 unfold iI
 by_cases h:c.op=11\/c.op=12
 ·rw [t8 h,t8 (show (fB A m c).op=11\/(fB A m c).op=12 from h)];rfl
 rw [nw h,nw (show ¬((fB A m c).op=11\/(fB A m c).op=12) from h)];rfl
theorem vO {e:Int}:(iI c e).data=c.data:=by
 unfold iI;split<;>rfl
theorem Rm:(dY k S c).2.data=c.data:=by
 unfold dY
 split
 ·exact vO
 split
 ·exact vO
 split
 ·rfl
 exact O9
theorem Mh:dY k S (fB A m c)=((dY k S c).1,fB A m (dY k S c).2):=by
 unfold dY
 by_cases h1:k=1
 ·rw [t8 h1,t8 h1]
  show (if c.op=13 then (fF S (fB A m c)).1 else S,iI (fB A m c) 180)=_
  rw [O8,Pa]
 rw [nw h1,nw h1]
 by_cases h2:k=2/\(c.op=4\/c.op=5\/c.op=6\/c.op=7\/c.op=9)
 ·rw [t8 h2,t8 (show k=2/\((fB A m c).op=4\/(fB A m c).op=5\/(fB A m c).op=6\/(fB A m c).op=7\/(fB A m c).op=9) from h2),Pa]
 rw [nw h2,nw (show ¬(k=2/\((fB A m c).op=4\/(fB A m c).op=5\/(fB A m c).op=6\/(fB A m c).op=7\/(fB A m c).op=9)) from h2)]
 by_cases h3:k=3/\c.op=9/\2<=c.data.length
 ·rw [t8 h3,t8 (show k=3/\(fB A m c).op=9/\2<=(fB A m c).data.length from h3)]
  show ((fF S (fB A m {c with data:=c.data.take (c.data.length / 2)})).1,{ (fF S (fB A m {c with data:=c.data.take (c.data.length / 2)})).2 with dA:=A,dC:=m,data:=c.data})=_
  rw [O8];rfl
 rw [nw h3,nw (show ¬(k=3/\(fB A m c).op=9/\2<=(fB A m c).data.length) from h3)]
 exact O8
theorem ZX:cr af (fB A m c)=fB A m (cr af c):=by
 unfold cr
 by_cases h:c.op=1
 ·rw [t8 h,t8 (show (fB A m c).op=1 from h)];rfl
 rw [nw h,nw (show ¬(fB A m c).op=1 from h)]
theorem Mi:bq fs xs af n S (fB A m c)=((bq fs xs af n S c).1,fB A m (bq fs xs af n S c).2):=by
 unfold bq
 rw [ZX,Mh]
theorem vQ:(cr af c).data=c.data:=by
 unfold cr;split<;>rfl
theorem Rn:(bq fs xs af n S c).2.data=c.data:=Rm.trans vQ
theorem Ro {sG:Int} (h:sG=if c.op=1 then af else c.other):cr af c={c with other:=sG}:=by
 unfold cr
 by_cases e:c.op=1
 ·rw [t8 e] at h ⊢;rw [h]
 rw [nw e] at h ⊢;rw [h]
end p
end
end
section
open Go.RowKit Go.WideShapes Go.ChangeShapes Go.ChangeAt Go.Deep
def cJ {α:Type} (f:α->List Value) (xs:List α):List Value:=fA (λ_ x=>f x) 0 xs
theorem Mj {α:Type} {f:α->List Value} {s:Nat} (hf:∀a,(f a).length=s) {xs:List α} {i j:Nat} {a:α} (h:xs[i]?=some a) (hj:j<s):(cJ f xs)[i*s+j]?=(f a)[j]?:=uT (f:=λ_ x=>f x) (s:=s) (λ_ a=>hf a) xs 0 i j _ h hj
def kr (a:cI):List Value:=[.int .i64 a.at_,.int .i64 a.op,.string a.path,.string a.to,.string a.text]
structure EV (a:cI) (b:Nat):Prop where
 aw:(Lit.int .i64 a.at_).wf=true
 path:a.path.size<=b
 to:a.to.size<=b
 text:a.text.size<=b
theorem EV.wide {a:cI} {b b':Nat} (h:EV a b) (g:b<=b'):EV a b':=⟨h.aw,Pe h.path g,Pe h.to g,Pe h.text g⟩
structure agh (β:Bs) (c:aK) (b:Nat):Prop where
 data:bO β c.dA c.data
 len:c.data.length<=b
 name:c.name.size<=b
 text:c.text.size<=b
 hw:(Lit.int .i64 c.bA).wf=true
 ow:(Lit.int .i64 c.other).wf=true
 cap:c.data.length<=c.dC
instance:Inhabited aK:=⟨⟨0,0,0,⟨#[]⟩,⟨#[]⟩,none,0,[],0,0,0,0,0,0,0⟩⟩
def ez (xs:List aK) (i:Nat):aK:=xs.getD i default
structure fS (xs:List cI) (b:Nat):Prop where
 len:xs.length<=b
 q:∀a∈xs,EV a b
structure lI (xs:List ck) (b:Nat):Prop where
 len:xs.length<=b
 q:∀a∈xs,(Lit.int .i64 a.at_).wf=true
theorem fS.wide {xs:List cI} {b b':Nat} (h:fS xs b) (g:b<=b'):fS xs b':=⟨Pe h.len g,λa ha=>(h.q a ha).wide g⟩
theorem lI.wide {xs:List ck} {b b':Nat} (h:lI xs b) (g:b<=b'):lI xs b':=⟨Pe h.len g,h.q⟩
structure ahD (β:Bs) (A:Option Addr) (xs:List aK):Prop where
 row:cq β A (cJ aW xs)
 q:∀i,i<xs.length->agh β (ez xs i) 1048576
section s
variable {β β':Bs} {A:Option Addr} {i j:Nat} {v:Value}
theorem Pb {α:Type} {f:α->List Value} {s:Nat} {xs:List α} {a:α} (h:cq β A (cJ f xs)) (hf:∀a,(f a).length=s) (hi:xs[i]?=some a) (hv:(f a)[j]?=some v):A=some ⟨bG A,bE A,none⟩/\Rd β ⟨bG A,bE A+i*s+j,none⟩ v:=by
 have hj:j<s:=by rw [←hf a];exact dH hv
 have:=h (i*s+j) v ((Mj hf hi hj).trans hv)
 rw [←ai7] at this
 exact this
theorem zi {xs:List aK} (h:i<xs.length):xs[i]?=some (ez xs i):=getD_some h
theorem Nw {xs:List cI} (h:cq β A (cJ kr xs)) (hi:i<xs.length):A=some ⟨bG A,bE A,none⟩:=(Pb (s:=5) (j:=0) h (λ_=>rfl) (zh hi) rfl).1
theorem qF {xs:List cI} (h:cq β A (cJ kr xs)) (hi:i<xs.length) (hv:(kr (act xs i))[j]?=some v):Rd β ⟨bG A,bE A+i*5+j,none⟩ v:=(Pb h (λ_=>rfl) (zh hi) hv).2
theorem abT {xs:List ck} (h:cq β A (cJ jv xs)) (hi:i<xs.length):A=some ⟨bG A,bE A,none⟩:=(Pb (s:=2) (j:=0) h (λ_=>rfl) (Gp hi) rfl).1
theorem Nx {xs:List ck} (h:cq β A (cJ jv xs)) (hi:i<xs.length) (hv:(jv (pG xs i))[j]?=some v):Rd β ⟨bG A,bE A+i*2+j,none⟩ v:=(Pb h (λ_=>rfl) (Gp hi) hv).2
theorem lI.at {xs:List ck} {b:Nat} (h:lI xs b) (hi:i<xs.length):(Lit.int .i64 (pG xs i).at_).wf=true:=h.q _ (aiF (Gp hi))
theorem fS.at {xs:List cI} {b:Nat} (h:fS xs b) (hi:i<xs.length):EV (act xs i) b:=h.q _ (aiF (zh hi))
end s
section a
variable {H:Type} {enc:TypeId×Value->H} {W:World} {sp:Nat->Bool}
theorem zj {t:TypeId} {n:Nat} {c:Value} {x:DataW H×List MemPlace} (ht:Tryz.prog.underlying t=some (.int .i64)) (h:DataW.trod enc Tryz.prog W 0 sp true n t [c]=some x):∃z,c=.int .i64 z/\(Lit.int .i64 z).wf=true:=by
 obtain⟨z,h1,_,h3⟩:=DataW.trod_int ht h
 cases h1
 exact⟨z,rfl,h3⟩
theorem ZY {n:Nat} {cs:List Value} {x:DataW H×List MemPlace} (h:DataW.trod enc Tryz.prog W 0 sp true n 133 cs=some x):∃a:cI,cs=kr a/\EV a (Rows.uptoBulk x.1):=by
 obtain⟨vs,m,_,hx,hl,hvl,hv⟩:=DataW.trod_struct Tryz.underlying133 h
 have hC:Tryz.prog.cellsOf 133=5:=d6
 rw [hC] at hl
 match cs,hl with
 |[c0,c1,c2,c3,c4],_=>
   obtain⟨a0,_⟩:=dO (hv 0 _ rfl) (by rw [hvl];decide)
   obtain⟨a1,_⟩:=dO (hv 1 _ rfl) (by rw [hvl];decide)
   obtain⟨a2,e2⟩:=dO (hv 2 _ rfl) (by rw [hvl];decide)
   obtain⟨a3,e3⟩:=dO (hv 3 _ rfl) (by rw [hvl];decide)
   obtain⟨a4,e4⟩:=dO (hv 4 _ rfl) (by rw [hvl];decide)
   obtain⟨z0,rfl,w0⟩:=zj (c:=c0) Tryz.underlying3 a0
   obtain⟨z1,rfl,_⟩:=zj (c:=c1) Tryz.underlying3 a1
   obtain⟨s2,rfl,l2⟩:=zL (c:=c2) Tryz.underlying9 a2
   obtain⟨s3,rfl,l3⟩:=zL (c:=c3) Tryz.underlying9 a3
   obtain⟨s4,rfl,l4⟩:=zL (c:=c4) Tryz.underlying9 a4
   have hb:Rows.uptoBulk x.1=Rows.uptoBulk (.agg (vs.map (·.1))):=by rw [hx]
   exact⟨⟨z0,z1,s2,s3,s4⟩,rfl,⟨w0,by show s2.size<=_;omega,by show s3.size<=_;omega,by show s4.size<=_;omega⟩⟩
theorem Uw {n:Nat} {cs:List Value} {x:DataW H×List MemPlace} (h:DataW.trod enc Tryz.prog W 0 sp true n 136 cs=some x):∃a:ck,cs=jv a/\(Lit.int .i64 a.at_).wf=true:=by
 obtain⟨vs,m,_,hx,hl,hvl,hv⟩:=DataW.trod_struct Tryz.underlying136 h
 have hC:Tryz.prog.cellsOf 136=2:=d6
 rw [hC] at hl
 match cs,hl with
 |[c0,c1],_=>
   obtain⟨a0,_⟩:=dO (hv 0 _ rfl) (by rw [hvl];decide)
   obtain⟨a1,_⟩:=dO (hv 1 _ rfl) (by rw [hvl];decide)
   obtain⟨z0,rfl,w0⟩:=zj (c:=c0) Tryz.underlying3 a0
   obtain⟨z1,rfl,_⟩:=zj (c:=c1) Tryz.underlying3 a1
   exact⟨⟨z0,z1⟩,rfl,w0⟩
theorem Ux {n:Nat} {c:Value} {x:DataW H×List MemPlace} (h:DataW.trod enc Tryz.prog W 0 sp true n 30 [c]=some x):∃A cp,∃xs:List cI,c=.slice A xs.length cp/\cq (B0 W) A (cJ kr xs)/\fS xs (Rows.uptoBulk x.1)/\xs.length<=cp:=by
 obtain⟨A,cp,xs,D,h1,hcp,_,h2,h4,h3⟩:=wO (α:=cI) (f:=kr) (Q:=λa d=>EV a (Rows.uptoBulk d)) Tryz.underlying30 (size:=5) d6 d8 (λn cs x h=>ZY h) (λ_=>rfl) h
 cases h1
 have h5:=wN ((List.range xs.length).map D)
 refine⟨A,cp,xs,rfl,h2,⟨by simp at h5;omega,λa ha=>?_⟩,hcp⟩
 obtain⟨i,hi,e⟩:=aiJ.1 ha
 have h6:=h4 i hi
 rw [show xs.getD i default=a by rw [←e];simp [hi]] at h6
 exact h6.wide (by have:=Di (D:=D) hi;omega)
theorem Pc {n:Nat} {c:Value} {x:DataW H×List MemPlace} (h:DataW.trod enc Tryz.prog W 0 sp true n 29 [c]=some x):∃A cp,∃xs:List ck,c=.slice A xs.length cp/\cq (B0 W) A (cJ jv xs)/\lI xs (Rows.uptoBulk x.1)/\xs.length<=cp:=by
 obtain⟨A,cp,xs,D,h1,hcp,_,h2,h4,h3⟩:=wO (α:=ck) (f:=jv) (Q:=λa _=>(Lit.int .i64 a.at_).wf=true) Tryz.underlying29 (size:=2) d6 d8 (λn cs x h=>Uw h) (λ_=>rfl) h
 cases h1
 have h5:=wN ((List.range xs.length).map D)
 refine⟨A,cp,xs,rfl,h2,⟨by simp at h5;omega,λa ha=>?_⟩,hcp⟩
 obtain⟨i,hi,e⟩:=aiJ.1 ha
 have h6:=h4 i hi
 rw [show xs.getD i default=a by rw [←e];simp [hi]] at h6
 exact h6
def KY (A:Option Addr) (n cp:Nat) (af:Int) (X:FM) (Af:Option Addr) (nf cf:Nat) (Aa:Option Addr) (na ca:Nat):Value:=.agg #[.slice A n cp,.int .i64 af,.int .i64 X.cN,.int .i64 X.cB,.int .i64 X.cH,.int .i64 X.cS,.int .i64 X.cZ,.slice Af nf cf,.slice Aa na ca]
theorem open_wstart {v:Value} {d:DataW H} {ps:List MemPlace} {r:Go.Reach} {b0:Nat} (hval:Value.okWide Tryz.prog W r b0 34 v) (h:DataW.Trod enc Tryz.prog W 0 sp true 34 v d ps) :
 ∃A cp,∃ns:List aO,∃L:fq,∃af:Int,∃X:FM,∃Af cf,∃fs:List ck,∃Aa ca,∃xs:List cI,v=KY A ns.length cp af X Af fs.length cf Aa xs.length ca/\aN (B0 W) A ns L/\kA ns (Rows.uptoBulk d)/\agR X/\(Lit.int .i64 af).wf=true ∧
   cq (B0 W) Af (cJ jv fs)/\lI fs (Rows.uptoBulk d)/\fs.length<=cf/\cq (B0 W) Aa (cJ kr xs)/\fS xs (Rows.uptoBulk d)/\xs.length<=ca:=by
 obtain⟨cs,rfl,hcs⟩:=okWide_struct Tryz.underlying34 hval
 obtain⟨fuel,h⟩:=h
 obtain⟨ys,m,_,hx,hl,tG,hf⟩:=DataW.trod_struct Tryz.underlying34 h
 have hC:Tryz.prog.cellsOf 34=9:=d6
 rw [hC] at hcs
 obtain⟨cs⟩:=cs
 match cs,hcs with
 |[c0,c1,c2,c3,c4,c5,c6,c7,c8],_=>
   obtain⟨h0,b0⟩:=dO (hf 0 _ rfl) (by rw [tG];decide)
   obtain⟨hr,_⟩:=dO (hf 1 _ rfl) (by rw [tG];decide)
   obtain⟨h1,_⟩:=dO (hf 2 _ rfl) (by rw [tG];decide)
   obtain⟨h3,b3⟩:=dO (hf 3 _ rfl) (by rw [tG];decide)
   obtain⟨us,_,_,hux,_,hul,hu⟩:=DataW.trod_struct Tryz.underlying24 h0
   obtain⟨g0,e0⟩:=dO (hu 0 _ rfl) (by rw [hul];decide)
   obtain⟨A,cp,ns,L,rfl,hG,hB⟩:=TR (c:=c0) g0
   obtain⟨vs,_,_,_,_,hvl,hv⟩:=DataW.trod_struct Tryz.underlying28 h1
   obtain⟨k0,_⟩:=dO (hv 0 _ rfl) (by rw [hvl];decide)
   obtain⟨k1,_⟩:=dO (hv 1 _ rfl) (by rw [hvl];decide)
   obtain⟨k2,_⟩:=dO (hv 2 _ rfl) (by rw [hvl];decide)
   obtain⟨k3,_⟩:=dO (hv 3 _ rfl) (by rw [hvl];decide)
   obtain⟨ts,_,_,_,_,htl,ht⟩:=DataW.trod_struct Tryz.underlying26 k3
   obtain⟨t0,_⟩:=dO (ht 0 _ rfl) (by rw [htl];decide)
   obtain⟨t1,_⟩:=dO (ht 1 _ rfl) (by rw [htl];decide)
   obtain⟨zr,rfl,wr⟩:=zj (c:=c1) Tryz.underlying3 hr
   obtain⟨z0,rfl,w0⟩:=nT (c:=c2) Tryz.underlying3 k0
   obtain⟨z1,rfl,w1⟩:=nT (c:=c3) Tryz.underlying3 k1
   obtain⟨z2,rfl,w2⟩:=nT (c:=c4) Tryz.underlying3 k2
   obtain⟨z3,rfl,w3⟩:=nT (c:=c5) Tryz.underlying3 t0
   obtain⟨z4,rfl,w4⟩:=nT (c:=c6) Tryz.underlying3 t1
   obtain⟨ws,_,_,hwx,_,hwl,hw⟩:=DataW.trod_struct Tryz.underlying32 h3
   obtain⟨q0,d0⟩:=dO (hw 0 _ rfl) (by rw [hwl];decide)
   obtain⟨q1,d1⟩:=dO (hw 1 _ rfl) (by rw [hwl];decide)
   obtain⟨Af,cf,fs,rfl,hF,hFl,hFc⟩:=Pc (c:=c7) q0
   obtain⟨Aa,ca,xs,rfl,hA,hAb,hAc⟩:=Ux (c:=c8) q1
   cases hx
   rw [hux] at b0
   rw [hwx] at b3
   exact⟨A,cp,ns,L,zr,⟨z0,z1,z2,z3,z4,0,0,0⟩,Af,cf,fs,Aa,ca,xs,rfl,hG,hB.wide (Pe e0 b0),⟨w0,w1,w2,w3,w4⟩,wr,hF,⟨Pe hFl.len (Pe d0 b3),hFl.q⟩,hFc,hA,⟨Pe hAb.len (Pe d1 b3),λa ha=>(hAb.q a ha).wide (Pe d1 b3)⟩,hAc⟩
end a
end
end Go.Proofs.YtfececghhgeapaaGreatDoor
section
namespace Go.Proofs
open Go.Shelf
def Tryz.keysS_ren:Go.Shelf.Ren:=⟨fun|7=>74|10=>108|n=>n,fun|23=>195|26=>9|3=>175|28=>193|0=>0|27=>192|33=>201|4=>4|n=>n,fun|n=>n⟩
theorem Tryz.keysS:Go.Proofs.SlLaysZ.n7 Tryz.prog Tryz.keysS_ren:={
 mixed:=by kernel_rfl
 f7:=⟨Tryz.f74.name,by decide,Tryz.func74.trans (congrArg some (by kernel_rfl))⟩
 f10:=⟨Tryz.f108.name,by decide,Tryz.func108.trans (congrArg some (by kernel_rfl))⟩
 t0:=Tryz.underlying0
 a0:=Tryz.isAgg0
 z0:=Tryz.sizeOf0
 v0:=Tryz.zeroValue0
 t4:=Tryz.underlying4
 a4:=Tryz.isAgg4
 z4:=Tryz.sizeOf4
 v4:=Tryz.zeroValue4
 t23:=Tryz.underlying195
 a23:=Tryz.isAgg195
 z23:=Tryz.sizeOf195
 v23:=Tryz.zeroValue195
 t26:=Tryz.underlying9
 a26:=Tryz.isAgg9
 z26:=Tryz.sizeOf9
 v26:=Tryz.zeroValue9
 t27:=Tryz.underlying192
 a27:=Tryz.isAgg192
 z27:=Tryz.sizeOf192
 v27:=Tryz.zeroValue192
 t28:=Tryz.underlying193
 a28:=Tryz.isAgg193
 z28:=Tryz.sizeOf193
 v28:=Tryz.zeroValue193
 t33:=Tryz.underlying201
 a33:=Tryz.isAgg201
 z33:=Tryz.sizeOf201
 v33:=Tryz.zeroValue201}
def Tryz.sortedS_ren:Go.Shelf.Ren:=⟨fun|6=>73|8=>106|9=>107|11=>123|13=>122|12=>124|23=>141|24=>142|14=>143|15=>144|16=>145|17=>146|18=>147|19=>148|20=>149|21=>150|22=>151|25=>161|26=>156|27=>157|28=>162|29=>163|30=>164|31=>168|n=>n,fun|26=>9|28=>193|24=>67|0=>0|3=>3|37=>253|48=>271|50=>273|4=>4|40=>264|39=>263|45=>268|5=>5|9=>9|51=>281|55=>285|57=>290|58=>291|33=>201|n=>n,fun|n=>n⟩
theorem Tryz.sortedS:Go.Proofs.SlLaysZ.n6 Tryz.prog Tryz.sortedS_ren:={
 mixed:=by kernel_rfl
 f6:=⟨Tryz.f73.name,by decide,Tryz.func73.trans (congrArg some (by kernel_rfl))⟩
 f8:=⟨Tryz.f106.name,by decide,Tryz.func106.trans (congrArg some (by kernel_rfl))⟩
 f11:=⟨Tryz.f123.name,by decide,Tryz.func123.trans (congrArg some (by kernel_rfl))⟩
 t0:=Tryz.underlying0
 a0:=Tryz.isAgg0
 z0:=Tryz.sizeOf0
 v0:=Tryz.zeroValue0
 t24:=Tryz.underlying67
 a24:=Tryz.isAgg67
 z24:=Tryz.sizeOf67
 v24:=Tryz.zeroValue67
 t26:=Tryz.underlying9
 a26:=Tryz.isAgg9
 z26:=Tryz.sizeOf9
 v26:=Tryz.zeroValue9
 t28:=Tryz.underlying193
 a28:=Tryz.isAgg193
 z28:=Tryz.sizeOf193
 v28:=Tryz.zeroValue193
 i26:=by kernel_rfl}
def Tryz.sortS_ren:Go.Shelf.Ren:=⟨fun|6=>107|8=>122|9=>124|19=>141|20=>142|21=>143|22=>144|23=>145|24=>146|25=>147|26=>148|27=>149|28=>150|29=>151|36=>161|31=>156|32=>157|37=>162|38=>163|39=>164|41=>168|n=>n,fun|27=>67|29=>9|3=>3|32=>253|26=>67|0=>0|44=>271|46=>273|4=>4|36=>264|35=>263|41=>268|5=>5|9=>9|53=>281|57=>285|63=>290|64=>291|n=>n,fun|n=>n⟩
theorem Tryz.sortS:Go.Proofs.SlLaysM.n6 Tryz.prog Tryz.sortS_ren:={
 mixed:=by kernel_rfl
 f6:=⟨Tryz.f107.name,by decide,Tryz.func107.trans (congrArg some (by kernel_rfl))⟩
 f8:=Tryz.func122.trans (congrArg some (by kernel_rfl))
 f9:=⟨Tryz.f124.name,by decide,Tryz.func124.trans (congrArg some (by kernel_rfl))⟩
 f19:=Tryz.func141.trans (congrArg some (by kernel_rfl))
 f20:=Tryz.func142.trans (congrArg some (by kernel_rfl))
 f21:=⟨Tryz.f143.name,by decide,Tryz.func143.trans (congrArg some (by kernel_rfl))⟩
 f22:=⟨Tryz.f144.name,by decide,Tryz.func144.trans (congrArg some (by kernel_rfl))⟩
 f23:=⟨Tryz.f145.name,by decide,Tryz.func145.trans (congrArg some (by kernel_rfl))⟩
 f24:=⟨Tryz.f146.name,by decide,Tryz.func146.trans (congrArg some (by kernel_rfl))⟩
 f25:=⟨Tryz.f147.name,by decide,Tryz.func147.trans (congrArg some (by kernel_rfl))⟩
 f26:=⟨Tryz.f148.name,by decide,Tryz.func148.trans (congrArg some (by kernel_rfl))⟩
 f27:=⟨Tryz.f149.name,by decide,Tryz.func149.trans (congrArg some (by kernel_rfl))⟩
 f28:=⟨Tryz.f150.name,by decide,Tryz.func150.trans (congrArg some (by kernel_rfl))⟩
 f29:=⟨Tryz.f151.name,by decide,Tryz.func151.trans (congrArg some (by kernel_rfl))⟩
 f31:=Tryz.func156.trans (congrArg some (by kernel_rfl))
 f32:=Tryz.func157.trans (congrArg some (by kernel_rfl))
 f36:=⟨Tryz.f161.name,by decide,Tryz.func161.trans (congrArg some (by kernel_rfl))⟩
 f37:=⟨Tryz.f162.name,by decide,Tryz.func162.trans (congrArg some (by kernel_rfl))⟩
 f38:=⟨Tryz.f163.name,by decide,Tryz.func163.trans (congrArg some (by kernel_rfl))⟩
 f39:=⟨Tryz.f164.name,by decide,Tryz.func164.trans (congrArg some (by kernel_rfl))⟩
 f41:=⟨Tryz.f168.name,by decide,Tryz.func168.trans (congrArg some (by kernel_rfl))⟩
 t0:=Tryz.underlying0
 a0:=Tryz.isAgg0
 z0:=Tryz.sizeOf0
 v0:=Tryz.zeroValue0
 t3:=Tryz.underlying3
 a3:=Tryz.isAgg3
 z3:=Tryz.sizeOf3
 v3:=Tryz.zeroValue3
 t4:=Tryz.underlying4
 a4:=Tryz.isAgg4
 z4:=Tryz.sizeOf4
 v4:=Tryz.zeroValue4
 t5:=Tryz.underlying5
 a5:=Tryz.isAgg5
 z5:=Tryz.sizeOf5
 v5:=Tryz.zeroValue5
 t9:=Tryz.underlying9
 a9:=Tryz.isAgg9
 z9:=Tryz.sizeOf9
 v9:=Tryz.zeroValue9
 t26:=Tryz.underlying67
 a26:=Tryz.isAgg67
 z26:=Tryz.sizeOf67
 v26:=Tryz.zeroValue67
 t27:=Tryz.underlying67
 a27:=Tryz.isAgg67
 z27:=Tryz.sizeOf67
 v27:=Tryz.zeroValue67
 t29:=Tryz.underlying9
 a29:=Tryz.isAgg9
 z29:=Tryz.sizeOf9
 v29:=Tryz.zeroValue9
 t32:=Tryz.underlying253
 a32:=Tryz.isAgg253
 z32:=Tryz.sizeOf253
 v32:=Tryz.zeroValue253
 t35:=Tryz.underlying263
 a35:=Tryz.isAgg263
 z35:=Tryz.sizeOf263
 v35:=Tryz.zeroValue263
 t36:=Tryz.underlying264
 a36:=Tryz.isAgg264
 z36:=Tryz.sizeOf264
 v36:=Tryz.zeroValue264
 t41:=Tryz.underlying268
 a41:=Tryz.isAgg268
 z41:=Tryz.sizeOf268
 v41:=Tryz.zeroValue268
 t44:=Tryz.underlying271
 a44:=Tryz.isAgg271
 z44:=Tryz.sizeOf271
 v44:=Tryz.zeroValue271
 t46:=Tryz.underlying273
 a46:=Tryz.isAgg273
 z46:=Tryz.sizeOf273
 v46:=Tryz.zeroValue273
 t53:=Tryz.underlying281
 a53:=Tryz.isAgg281
 z53:=Tryz.sizeOf281
 v53:=Tryz.zeroValue281
 t57:=Tryz.underlying285
 a57:=Tryz.isAgg285
 z57:=Tryz.sizeOf285
 v57:=Tryz.zeroValue285
 t63:=Tryz.underlying290
 a63:=Tryz.isAgg290
 z63:=Tryz.sizeOf290
 v63:=Tryz.zeroValue290
 t64:=Tryz.underlying291
 a64:=Tryz.isAgg291
 z64:=Tryz.sizeOf291
 v64:=Tryz.zeroValue291}
end Go.Proofs
end
namespace Go.Proofs.YtfececghhgeapaaGreatDoor
section
open Go.RowKit Go.Maps Go.Sort Go.Shelf
theorem aeu (m:Nat):AnyZ.SortsIn Tryz.prog Tryz.sortedS_ren Fence.wide m:=
 ⟨λaD off cap ss W hH hblk eV=>callsIn_wide.2 (AnyM.slices_Sort_string Tryz.sortS aD off cap ss W hH hblk eV),
  λp cap W=>callsIn_wide.2 (AnyM.slices_Sort_string_none Tryz.sortS p cap W)⟩
def KZ (bk:Nat):Value:=.func (.func 108) #[] #[.pointer (some ⟨bk,0,none⟩)]
theorem Z0 {β:Bs} (mb:Option Nat):aU Tryz.prog β 74 #[.map mb] [] (λv l=>∃bk,v=KZ bk/\l=[.aD bk [.map mb] 195]):=
 aU.NG λW _=>by
  have h:CallsIn Fence.wide 5 Tryz.prog 74 #[.map mb] W λe w'=>e=.returned (KZ W.heap.size)/\w'=W.alloc (.cells #[.map mb] 195):=AnyZ.keys_in Tryz.keysS Fence.wide 5 trivial rfl mb W
  refine ((callsIn_wide (n:=5)).1 h).mono ?_
  rintro e w' ⟨rfl,rfl⟩
  refine⟨_,_,rfl,⟨W.heap.size,rfl,rfl⟩,(cL.refl _ _).alloc _,λk=>k=W.heap.size,⟨?_,λk=>Iff.rfl⟩,λk hk=>Nat.le_of_eq hk.symm⟩
  show (W.heap.push _)[W.heap.size]?=_
  simp
def ye (es:jj Th):List Value:=es.map (λe=>.string e.1)
theorem Rp {es:jj Th} (h:pK es):(es.map (λe=>e.1.data.toList)).Pairwise (· < ·):=by
 refine List.pairwise_map.2 (h.imp (λ{a b} gF=>?_))
 unfold ja at gF
 have h1:¬Op.bytesLess b.1.toList a.1.toList=true:=λe=>gF (by rw [e];rfl)
 have h2:¬b.1.toList=a.1.toList:=λe=>gF (by rw [e];simp)
 rw [bytesLess_eq,Lib.toList_data,Lib.toList_data] at h1
 rw [Lib.toList_data,Lib.toList_data] at h2
 grind
theorem Z2 {w:World} {b n:Nat} {L:HL} {es:jj Th} {D:DataW Value} (hr:pK es) (qt:w.ownsMap Tryz.prog 9 yU b n D) (hf:∀kl,Maps.has D kl=(nI L es kl).isSome) {ss:List (List UInt8)} (hp:ss.Perm (strKeys D)) :
 ss.mergeSort (λx y=>decide (x<=y))=es.map (λe=>e.1.data.toList):=by
 have hsort:=Rp hr
 obtain⟨es',hD,hpw,_⟩:=qt.entries Ig
 obtain⟨es2,D7,hko⟩:=qt.keysOf
 obtain rfl:es'=es2:=by rw [hD] at D7;simpa using D7
 have hp2:(es.map (λe=>e.1.data.toList)).Perm (strKeys D):=by
  rw [hD]
  refine perm_strKeys hpw (λp hp=>?_) (hsort.imp (λ{a b} h e=>by subst e;exact KB h (List.lt_irrefl a))) (λx=>?_)
  ·obtain⟨v,hv⟩:=hko p hp
   obtain⟨x,_,h,_⟩:=keyOf_str Tryz.underlying9 hv
   exact⟨x,h⟩
  rw [←hD,hf]
  show _↔((bF ⟨x.toArray⟩ es).map (jl L)).isSome=true
  rw [Option.isSome_map]
  constructor
  ·intro hx
   obtain⟨e,he,rfl⟩:=aik.1 hx
   have h1:(⟨e.1.data.toList.toArray⟩:ByteArray)=e.1:=by rw [Array.toArray_toList]
   rw [h1,zY (t:=e.2) (pK.pN hr) he];rfl
  intro hx
  obtain⟨t,ht⟩:=Option.isSome_iff_exists.1 hx
  exact aik.2 ⟨_,rf ht,nh⟩
 have h3:=mergeSort_of_perm (hp.trans hp2.symm)
 have h4:(es.map (λe=>e.1.data.toList)).mergeSort leB=es.map (λe=>e.1.data.toList):=List.mergeSort_of_pairwise (hsort.imp (λ{a b} h=>by simp only [leB,decide_eq_true_eq];exact List.le_of_lt h))
 exact h3.trans h4
theorem Uy {β:Bs} (L:HL) (b bk n:Nat) (es:jj Th) (hr:pK es) (hn:n<=8192) :
 aU Tryz.prog β 73 #[KZ bk] [.abs (bM Tryz.prog 9 b (nI L es) n),.aD bk [.map (some b)] 195] (λv l=>∃A cap,v=.slice A es.length cap ∧
  l=[.abs (bM Tryz.prog 9 b (nI L es) n),.aD bk [.map (some b)] 195,.abs (aI 9 1 A es.length cap (ye es))]):=by
 intro R w hS
 obtain⟨F1,h1⟩:=hS.get (i:=0) (p:=.abs (bM Tryz.prog 9 b (nI L es) n)) rfl
 obtain⟨F2,h2⟩:=hS.get (i:=1) (p:=.aD bk [.map (some b)] 195) rfl
 obtain⟨D,qt,eV,hhas,_⟩:=h1.1
 have hcell:w.cell? ⟨bk,0,none⟩=some (.map (some b)):=(lu h2.1 rfl rfl rfl).1
 have hseq:SeqGives Fence.wide 2 Tryz.prog 108 #[.pointer (some ⟨bk,0,none⟩)] encStr (λss=>ss.Perm (strKeys D)) (Maps.size D) w:=
  AnyZ.keys_gives (ρ:=Tryz.keysS_ren) {Tryz.keysS with} Fence.wide _ trivial rfl d5 bk b n D w (lt_of_some h2.1) hcell qt
 have cS:=AnyZ.sorted_in Tryz.sortedS Fence.wide 5 trivial trivial trivial trivial rfl d5 (aeu _) (enters_of Tryz.func107 d6 rfl) 108 #[.pointer (some ⟨bk,0,none⟩)] trivial (enters_of Tryz.func108 d6 rfl)
  (λss=>ss.Perm (strKeys D)) (Maps.size D) (by rw [eV];unfold maxLen;omega) (by rw [eV];omega) w hseq
 change CallsIn _ _ Tryz.prog 73 _ _ _ at cS
 refine ((callsIn_wide (n:=5)).1 cS).mono ?_
 rintro e w' ⟨v,ss,rfl,hp,hrow,hnil,hb⟩
 have hkeys:=Z2 hr qt hhas hp
 have hl2:ss.length=es.length:=by
  have h3:(ss.mergeSort (λx y=>decide (x<=y))).length=ss.length:=List.length_mergeSort ss
  rw [hkeys,aip] at h3
  exact h3.symm
 rw [hkeys,hl2] at hrow
 have El:∃A cap,v=.slice A es.length cap:=by
  rcases hrow.2 with ⟨e1,e2⟩|⟨g,cp,cur,e1,_⟩
  all_goals grind
 obtain⟨A,cap,rfl⟩:=El
 have hnv:(es.map (λe=>e.1.data.toList)).map encStr=ye es:=by
  rw [List.map_map]
  refine aiG (λe _=>?_)
  grind
 rw [hnv] at hrow
 have hq:aP β ([.abs (bM Tryz.prog 9 b (nI L es) n),.aD bk [.map (some b)] 195,.abs R]++[.abs (aI 9 1 A es.length cap (ye es))]) w':=by
  refine aP.new (F:=λk=>(Value.slice A es.length cap).ownBlock=some k) hS ⟨?_,λk=>Iff.rfl⟩ ⟨hb.os,hb.tape,hb.output,hb.size,λk hk _=>hb.block k hk⟩ (λk hk=>(hrow.lt k hk).1)
  refine⟨hrow.1,?_⟩
  rcases hrow.2 with h|⟨g,cp,cur,e1,_,h3,h4⟩
  ·exact .inl h
  exact .inr ⟨g,cp,cur,e1,L4 _,h3,h4⟩
 exact⟨_,[.abs (bM Tryz.prog 9 b (nI L es) n),.aD bk [.map (some b)] 195,.abs (aI 9 1 A es.length cap (ye es))],rfl,⟨A,cap,rfl,rfl⟩,hq.pick (ax:=[0,1,3,2]) rfl rfl⟩
end
section
open Go.RowKit Go.Maps bw aH
theorem zk {ns:List aO} {n:aO} {k:Nat} (h:k<ns.length):nd (ns++[n]) k=nd ns k:=by
 grind [nd]
theorem wX {ns:List aO} {n:aO}:nd (ns++[n]) ns.length=n:=by
 grind [nd]
def Iu:fq:=⟨λ_=>none,λ_=>none,λ_=>0,λ_=>0⟩
def qR (ns:List aO) (L:fq) (k:Nat):eG:=aI 126 2 (L.eA k) (nd ns k).aq.length (L.eC k) (mQ (nd ns k).aq)
def mI (ns:List aO) (L:fq) (k:Nat):eG:=aI 5 1 (L.dA k) (nd ns k).data.length (L.dC k) (d9 (nd ns k).data)
def agX (A:Option Addr) (c:Nat) (ns:List aO) (L:fq):HP:=.abs (aI 102 10 A ns.length c (bS L ns))
def K1 (A:Option Addr) (c:Nat) (ns:List aO) (L:fq):List HP:=[agX A c ns L,.abs (ld (qR ns L) ns.length),.abs (ld (mI ns L) ns.length)]
theorem oe.graph {β β':Bs} {A:Option Addr} {c:Nat} {ns:List aO} {L:fq} (h:oe β (K1 A c ns L) β'):aN β' A ns L:=by
 obtain⟨F,h1,h2⟩:=h.get 0 rfl
 obtain⟨G,g1,g2⟩:=h.get 1 rfl
 obtain⟨K,k1,k2⟩:=h.get 2 rfl
 exact⟨cq.gZ h1 h2 rfl,
  ld.base k1 k2 rfl (Φ:=λi b=>bO b (L.dA i) (nd ns i).data) (λi _ F hF hO=>cq.gZ (show (HP.abs (aI 5 1 (L.dA i) (nd ns i).data.length (L.dC i) (d9 (nd ns i).data))).h F _ from hF) hO rfl),
  ld.base g1 g2 rfl (Φ:=λi b=>cV b (L.eA i) (nd ns i).aq) (λi _ F hF hO=>cq.gZ (show (HP.abs (aI 126 2 (L.eA i) (nd ns i).aq.length (L.eC i) (mQ (nd ns i).aq))).h F _ from hF) hO rfl)⟩
theorem Rq {L:fq} {ns:List aO} {n:aO} {dA eA:Option Addr} {dC eC:Nat}:bS L ns++[.int .i64 n.id,.int .i64 n.kind,.int .i64 n.mode,.int .i64 n.cM,.int .i64 n.cO,.int .i64 n.bH,.int .i64 n.bh,.slice dA n.data.length dC,.string n.target,.slice eA n.aq.length eC]=bS (L.put ns.length dA dC eA eC) (ns++[n]):=by
 have h:=Jc (ns:=ns++[n]) (L:=L) (k:=ns.length) nh dA dC eA eC
 grind [wX]
theorem Mk {ns:List aO} {L:fq} {n:aO} {dA eA:Option Addr} {dC eC:Nat}:(∀x,x<ns.length->mI (ns++[n]) (L.put ns.length dA dC eA eC) x=mI ns L x)/\mI (ns++[n]) (L.put ns.length dA dC eA eC) ns.length=aI 5 1 dA n.data.length dC (d9 n.data):=by
 grind [mI,fq.put,zk,wX]
theorem Ml {ns:List aO} {L:fq} {n:aO} {dA eA:Option Addr} {dC eC:Nat}:(∀x,x<ns.length->qR (ns++[n]) (L.put ns.length dA dC eA eC) x=qR ns L x)/\qR (ns++[n]) (L.put ns.length dA dC eA eC) ns.length=aI 126 2 eA n.aq.length eC (mQ n.aq):=by
 grind [qR,fq.put,zk,wX]
def gM (O:eu) (e:ByteArray×Th):fO:=⟨e.1,(ah O e.2.k).id⟩
def jZ (O:eu) (id:Int) (t:Th):aO:=⟨id,t.kind,(ah O t.k).mode,(ah O t.k).cM,(ah O t.k).cO,(ah O t.k).bH,(ah O t.k).bh,(ah O t.k).data,(ah O t.k).target,(ah O t.k).aq.map (gM O)⟩
def aV (S:aZ):List aO:=S.ax.map (λp=>jZ S.O p.1 p.2)
theorem iM {S:aZ}:(aV S).length=S.ax.length:=aip ..
def jy (S:aZ) (i:Nat):Th:=(S.ax.getD i (0,⟨0,0⟩)).2
def iy (S:aZ) (i:Nat):Int:=(S.ax.getD i (0,⟨0,0⟩)).1
section at_
variable {S:aZ} {i:Nat}
theorem yg (hi:i<S.ax.length):S.ax[i]?=some (iy S i,jy S i):=by
 grind [iy,jy]
theorem get_at (h:Inv0 S) (hi:i<S.ax.length):aH.get S.ax (iy S i)=some (jy S i):=oy h.fU (aiF (yg hi))
theorem K2 (h:Inv0 S) (hi:i<S.ax.length):aS S.ax (jy S i)/\iy S i=((jy S i).k:Int):=⟨h.live (get_at h hi),h.key (get_at h hi)⟩
theorem Pf (hi:i<S.ax.length):(aY S.ax)[i]?=some (iy S i):=by
 grind [aY,yg]
theorem Dx (hi:i<S.ax.length):(aV S).take (i+1)=(aV S).take i++[jZ S.O (iy S i) (jy S i)]:=by
 rw [aiC]
 grind [aV,yg]
theorem iR (hi:i<=S.ax.length):((aV S).take i).length=i:=by rw [aiz,iM];omega
end at_
section sat
variable {β:Bs} {l l':List HP} {w:World} {i j k:Nat} {O:eu} {L:HL} {ix:List Nat}
theorem aP.aev (h:aP β l w) (hp:l[i]?=some (.abs (bp (pU (eY O L) k eG.none)))) (hq:l[j]?=some (.abs (aI 5 1 (L.dA k) (ah O k).data.length (L.dC k) (d9 (ah O k).data)))) (hd:bU (i::j::ix)=true) (hl:cT l ix=some l') (h2:(ah O k).kind=1):aP β (.abs (bp (eY O L))::l') w:=
 h.yX hp hq (λ_ _ h=>h) hd hl k (λ_ hx=>(F7 hx).symm) (zU h2)
end sat
theorem JI {es:List fO} {e:fO}:mQ es++[.string e.name,.int .i64 e.id]=mQ (es++[e]):=(Dh e es 0).symm
section grow
variable {ns G':List aO} {n:aO} {L:fq} {i dn en:Nat} {dA eA:Option Addr} {dC eC:Nat}
theorem vR (hl:ns.length=i) (hG:G'=ns++[n]) (hd:n.data.length=dn) (he:n.aq.length=en):bS L ns++[.int .i64 n.id,.int .i64 n.kind,.int .i64 n.mode,.int .i64 n.cM,.int .i64 n.cO,.int .i64 n.bH,.int .i64 n.bh,.slice dA dn dC,.string n.target,.slice eA en eC]=bS (L.put i dA dC eA eC) G':=by
 subst hl hG hd he;exact Rq
theorem Dy (hl:ns.length=i) (hG:G'=ns++[n]):∀x,x<i->mI G' (L.put i dA dC eA eC) x=mI ns L x:=by
 subst hl hG;exact Mk.1
theorem Bw (hl:ns.length=i) (hG:G'=ns++[n]) (hd:n.data.length=dn):mI G' (L.put i dA dC eA eC) i=aI 5 1 dA dn dC (d9 n.data):=by
 subst hl hG hd;exact Mk.2
theorem Dz (hl:ns.length=i) (hG:G'=ns++[n]):∀x,x<i->qR G' (L.put i dA dC eA eC) x=qR ns L x:=by
 subst hl hG;exact Ml.1
theorem Bz (hl:ns.length=i) (hG:G'=ns++[n]) (he:n.aq.length=en):qR G' (L.put i dA dC eA eC) i=aI 126 2 eA en eC (mQ n.aq):=by
 subst hl hG he;exact Ml.2
end grow
section more
variable {S:aZ} {i j k:Nat}
theorem agi (h:Inv0 S) (hi:i<S.ax.length):(∃k,jy S i=⟨k,1⟩/\aS S.ax ⟨k,1⟩)\/(∃k,jy S i=⟨k,2⟩/\aS S.ax ⟨k,2⟩)\/∃k,jy S i=⟨k,3⟩/\aS S.ax ⟨k,3⟩:=by
 have h1:=(K2 h hi).1
 generalize jy S i=t at h1 ⊢
 obtain⟨k,kd⟩:=t
 rcases (h.ob _ h1).2.2 with e|e|e<;>simp only at e<;>subst e
 all_goals grind
theorem K3 (h:Inv0 S) (hi:i<S.ax.length):(Lit.int .i64 (iy S i)).wf=true:=by
 have h1:=h.ax _ _ (get_at h hi)
 have h2:=h.last
 exact WalkArith.wf_i64 d5
theorem Z4 (hi:i<S.ax.length):(bL (aY S.ax))[i*1+0]?=some (.int .i64 (iy S i)):=by
 grind [bL,Pf]
theorem Pg (h:Inv0 S) {t:Th} (hl:aS S.ax t) (hk:t.kind≠3):(ah S.O t.k).target=⟨#[]⟩:=by
 rcases (h.mt t hl).target with e|e
 ·exact e.2
 exact KB (h.kind hl ▸ e.1) hk
theorem yh (h:Inv0 S) (hi:i<S.ax.length) (qA:jy S i=⟨k,1⟩) (hl:aS S.ax ⟨k,1⟩):(aV S).take (i+1)=(aV S).take i++[⟨iy S i,1,(ah S.O k).mode,(ah S.O k).cM,(ah S.O k).cO,(ah S.O k).bH,(ah S.O k).bh,(ah S.O k).data,⟨#[]⟩,[]⟩]:=by
 rw [Dx hi,qA]
 unfold jZ
 rw [show (ah S.O k).target=⟨#[]⟩ from Pg h hl nh,show (ah S.O k).aq=[] from (h.mt _ hl).aq (by rw [h.kind hl];simp)];rfl
theorem yj (h:Inv0 S) (hi:i<S.ax.length) (qA:jy S i=⟨k,3⟩) (hl:aS S.ax ⟨k,3⟩):(aV S).take (i+1)=(aV S).take i++[⟨iy S i,3,(ah S.O k).mode,(ah S.O k).cM,(ah S.O k).cO,(ah S.O k).bH,(ah S.O k).bh,[],(ah S.O k).target,[]⟩]:=by
 rw [Dx hi,qA]
 unfold jZ
 rw [show (ah S.O k).data=[] from (h.mt _ hl).data (by rw [h.kind hl];simp),show (ah S.O k).aq=[] from (h.mt _ hl).aq (by rw [h.kind hl];simp)];rfl
theorem z8 (h:Inv0 S) (hi:i<S.ax.length) (qA:jy S i=⟨k,2⟩) (hl:aS S.ax ⟨k,2⟩):(aV S).take (i+1)=(aV S).take i++[⟨iy S i,2,(ah S.O k).mode,(ah S.O k).cM,(ah S.O k).cO,(ah S.O k).bH,(ah S.O k).bh,[],⟨#[]⟩,(ah S.O k).aq.map (gM S.O)⟩]:=by
 rw [Dx hi,qA]
 unfold jZ
 rw [show (ah S.O k).target=⟨#[]⟩ from Pg h hl nh,show (ah S.O k).data=[] from (h.mt _ hl).data (by rw [h.kind hl];simp)]
def nU (es:jj Th) (j:Nat):ByteArray:=(es.getD j (⟨#[]⟩,⟨0,0⟩)).1
def tK (es:jj Th) (j:Nat):Th:=(es.getD j (⟨#[]⟩,⟨0,0⟩)).2
theorem DA {es:jj Th} (hj:j<es.length):es[j]?=some (nU es j,tK es j):=by
 grind [nU,tK]
theorem Uz {es:jj Th} (hj:j<es.length):(ye es)[j*1+0]?=some (.string (nU es j)):=by
 grind [ye,DA]
theorem agY (h:Inv0 S) {t:Th} (hl:aS S.ax t) (hj:j<(ah S.O t.k).aq.length):bW (nU (ah S.O t.k).aq j)/\((∃k,bF (nU (ah S.O t.k).aq j) (ah S.O t.k).aq=some ⟨k,1⟩/\aS S.ax ⟨k,1⟩/\tK (ah S.O t.k).aq j=⟨k,1⟩)\/(∃k,bF (nU (ah S.O t.k).aq j) (ah S.O t.k).aq=some ⟨k,2⟩/\aS S.ax ⟨k,2⟩/\tK (ah S.O t.k).aq j=⟨k,2⟩)\/∃k,bF (nU (ah S.O t.k).aq j) (ah S.O t.k).aq=some ⟨k,3⟩/\aS S.ax ⟨k,3⟩/\tK (ah S.O t.k).aq j=⟨k,3⟩):=by
 have hm:=aiF (DA hj)
 have h1:=h.aq t hl _ hm
 have h2:=zY (h.pN hl) hm
 refine⟨h1.1,?_⟩
 have h3:=h1.2
 generalize tK (ah S.O t.k).aq j=u at h2 h3 ⊢
 obtain⟨k,kd⟩:=u
 rcases (h.ob _ h3).2.2 with e|e|e<;>simp only at e<;>subst e
 all_goals grind
theorem EW {O:eu} {es:jj Th} {kd:Int} (hj:j<es.length) (he:tK es j=⟨k,kd⟩):mQ ((es.take j).map (gM O))++[.string (nU es j),.int .i64 (ah O k).id]=mQ ((es.take (j+1)).map (gM O)):=by
 rw [aiC,DA hj,he,aiM]
 exact JI (es:=(es.take j).map (gM O)) (e:=⟨nU es j,(ah O k).id⟩)
end more
theorem oe.bytes {β β':Bs} {A:Option Addr} {n c:Nat} {d:List UInt8} (h:oe β [.abs (aI 5 1 A n c (d9 d))] β'):bO β' A d:=by
 obtain⟨F,h1,h2⟩:=h.get 0 rfl
 exact cq.gZ h1 h2 rfl
end
section
open Go.RowKit
def jL (β:Bs) (Φ:Bs->Prop):eG where
 h F w:=∃β':Bs,β.le β'/\(∀k,β'.O k->β.O k\/F k)/\(∀k,F k->β'.O k)/\β'.w0.heap.size<=w.heap.size/\(∀k,F k->k<β'.w0.heap.size/\w.heap[k]?=β'.w0.heap[k]?)/\Φ β'
 lt:=λ⟨_,_,_,_,h4,h5,_⟩ k hk=>aiq (h5 k hk).1 h4
 st:=λ⟨β',h1,h2,h3,h4,h5,h6⟩ _ _ hk hs=>⟨β',h1,h2,h3,Pe h4 hk.size,λk hF=>⟨(h5 k hF).1,(hk.block k (aiq (h5 k hF).1 h4) (hs k hF)).trans (h5 k hF).2⟩,h6⟩
section G0
variable {P:Program} {β:Bs} {N:fP} {ops:Array Oper} {k:Nat} {fr:Fr} {ay gj:List HP} {Q:Post} {f:FuncId} {args:Array Value} {pre:List HP}
theorem bK.G0 {ι:Type} {vv:ι->Value} {ll:ι->List HP} {Φ:ι->Bs->Prop} (h:bK P β f args pre (λβ' v l=>∃x,v=vv x/\l=ll x/\Φ x β')):aU P β f args pre (λv l=>∃x,v=vv x/\l=.abs (jL β (Φ x))::ll x):=by
 intro R w hS
 refine (h R w hS).mono ?_
 rintro e w' ⟨β',v,l,dP,he,⟨x,rfl,rfl,GK⟩,ho,φ,h1,h2,h3⟩
 refine⟨vv x,_,he,⟨x,rfl,rfl⟩,ho.le dP,λi=>match i with
  |0=>λk=>β'.O k/\¬β.O k
  |i+1=>φ i,λi p hp=>?_,λi hi k hk hO=>?_,λi j hi hj cF k hk jA=>?_⟩
 ·cases i with
  |zero=>
    have hp:some (HP.abs (jL β (Φ x)))=some p:=hp
    cases hp
    exact⟨β',dP,λk hk=>(Classical.em (β.O k)).elim .inl (λhn=>.inr ⟨hk,hn⟩),λk hk=>hk.1,ho.size,λk hk=>ho.old k hk.1,GK⟩
  |succ i=>exact h1 i p (by simpa using hp)
 ·cases i with
  |zero=>exact hk.2 hO
  |succ i=>exact h2 i (by simp at hi ⊢;omega) k hk (dP.O k hO)
 cases i with
 |zero=>
   cases j with
   |zero=>exact cF rfl
   |succ j=>exact h2 j (by simp at hj ⊢;omega) k jA hk.1
 |succ i=>
   cases j with
   |zero=>exact h2 i (by simp at hi ⊢;omega) k hk jA.1
   |succ j=>exact h3 i j (by simp at hi ⊢;omega) (by simp at hj ⊢;omega) d5 k hk jA
theorem aP.tL {Φ:Bs->Prop} {l:List HP} {w:World} (h:aP β (.abs (jL β Φ)::l) w):∃β':Bs,β.le β'/\Φ β'/\aP β' l w:=by
 obtain⟨ho,φ,h1,h2,h3⟩:=h
 have hF:(jL β Φ).h (φ 0) w:=h1 0 _ rfl
 obtain⟨β',g1,g2,g3,g4,g5,g6⟩:=hF
 refine⟨β',g1,g6,⟨ho.os.trans g1.os.symm,ho.tape.trans g1.tape.symm,ho.output.trans g1.output.symm,g4,λk hk=>?_⟩,λj=>φ (j+1),λj p hp=>h1 (j+1) p (by simpa using hp),λj hj k hk hO=>?_,λa b ha hb cF=>h3 (a+1) (b+1) (by simp;omega) (by simp;omega) d5⟩
 ·rcases g2 k hk with hb|hb
  ·have e1:=g1.old k hb
   have e2:=ho.old k hb
   grind
  exact g5 k hb
 rcases g2 k hO with hb|hb
 ·exact h2 (j+1) (by simp;omega) k hk hb
 exact h3 (j+1) 0 (by simp;omega) nh d5 k hk hb
theorem aB.tL {Φ:Bs->Prop} (i:Nat) (ax:List Nat) (hp:ay[i]?=some (.abs (jL β Φ))) (hn:bU (i::ax)=true) (hl:cT ay ax=some gj)
 (K:∀β':Bs,β.le β'->Φ β'->aB P β' N ops k fr gj Q):aB P β N ops k fr ay Q:=λar w hS=>by
 obtain⟨β',g1,g2,g3⟩:=(hS.pick (ax:=i::ax) (l':=.abs (jL β Φ)::gj) hn (by simp only [cT,hp,hl])).tL
 exact K β' g1 g2 ar w g3
theorem aU.UA {Φ:Bs->Prop} {post:Value->List HP->Prop} (h:∀β':Bs,β.le β'->Φ β'->aU P β' f args pre post):aU P β f args (.abs (jL β Φ)::pre) post:=by
 intro R w hS
 obtain⟨β',g1,g2,g3⟩:=aP.tL (l:=pre++[.abs R]) hS
 refine (h β' g1 g2 R w g3).mono ?_
 rintro e w' ⟨v,l,h1,h2,h3⟩
 exact⟨v,l,h1,h2,h3.I3 g1⟩
end G0
end
section
open Go.RowKit Go.Maps bw aH
theorem UB (_:Nat) (f:ck):∀u∈jv f,u.oneCell'=true:=by
 intro u hu
 simp only [jv,T8,List.not_mem_nil,or_false] at hu
 rcases hu with rfl|rfl<;>rfl
theorem Z5 (_:Nat) (a:cI):∀u∈kr a,u.oneCell'=true:=by
 intro u hu
 simp only [kr,T8,List.not_mem_nil,or_false] at hu
 rcases hu with rfl|rfl|rfl|rfl|rfl<;>rfl
theorem WO (_:Nat) (a:aK):∀u∈aW a,u.oneCell'=true:=by
 intro u hu
 simp only [aW,T8,List.not_mem_nil,or_false] at hu
 rcases hu with rfl|rfl|rfl|rfl|rfl|rfl|rfl|rfl|rfl|rfl|rfl|rfl|rfl<;>rfl
theorem DB {α:Type} (f:α->List Value) (a:α) (ys:List α):cJ f (ys++[a])=cJ f ys++f a:=by
 have:∀(k:Nat) (ys:List α),fA (λ_ x=>f x) k (ys++[a])=fA (λ_ x=>f x) k ys++f a:=λk ys=>by
  induction ys generalizing k with
  |nil=>exact List.append_nil _
  |cons y r ih=>show f y++fA _ (k+1) (r++[a])=(f y++fA _ (k+1) r)++f a;rw [ih,aiv]
 exact this 0 ys
theorem yq {α:Type} {f:α->List Value} {s:Nat} (hf:∀a,(f a).length=s):∀xs:List α,(cJ f xs).length=xs.length*s:=λxs=>by
 have:∀(k:Nat) (xs:List α),(fA (λ_ x=>f x) k xs).length=xs.length*s:=λk xs=>by
  induction xs generalizing k with
  |nil=>simp [fA]
  |cons y r ih=>show (f y++fA _ (k+1) r).length=_;rw [T3,ih,hf,aix,Nat.succ_mul,ajb]
 exact this 0 xs
structure AZ where
 A:Int->Option Addr
 c:Int->Nat
def AZ.none:AZ:=⟨λ_=>Option.none,λ_=>0⟩
def AZ.put (Z:AZ) (n:Int) (B:Option Addr) (k:Nat):AZ:=⟨λx=>if x=n then B else Z.A x,λx=>if x=n then k else Z.c x⟩
def aA (Z:AZ) (xs:List cI) (n:Int):Option Addr:=if dm xs n=[] then .none else Z.A n
def aC (Z:AZ) (xs:List cI) (n:Int):Nat:=if dm xs n=[] then 0 else Z.c n
def zz:Int->Nat
 |.ofNat n=>2*n
 |.negSucc n=>2*n+1
def G3 (k:Nat):Int:=if k % 2=0 then .ofNat (k / 2) else .negSucc (k / 2)
def kG (Z:AZ) (xs:List cI):Lit->Option Value
 |.int .i64 n=>if dm xs n=[] then .none else some (.slice (aA Z xs n) (dm xs n).length (aC Z xs n))
 |_=>.none
def iD (fs:List ck):Lit->Option Value
 |.int .i64 n=>if jb fs n=0 then .none else some (.int .i64 (jb fs n))
 |_=>.none
abbrev Iw (Z:AZ) (xs:List cI) (n:Int):eG:=aI 133 5 (aA Z xs n) (dm xs n).length (aC Z xs n) (cJ kr (dm xs n))
def sV (Z:AZ) (xs:List cI) (k:Nat):eG:=if dm xs (G3 k)=[] then eG.none else Iw Z xs (G3 k)
def kK (β:Bs) (Z:AZ) (xs:List cI):Prop:=∀n,cq β (aA Z xs n) (cJ kr (dm xs n))
section z
variable {Z:AZ} {xs:List cI} {n x:Int} {k c:Nat} {B:Option Addr} {a:cI} {β β':Bs} {l l':List HP} {w:World} {i j:Nat}
theorem Ph:∀n,G3 (zz n)=n
 |.ofNat n=>by show G3 (2*n)=_;unfold G3;rw [t8 d5];exact zc Int.ofNat d5
 |.negSucc n=>by show G3 (2*n+1)=_;unfold G3;rw [nw d5];exact zc Int.negSucc d5
theorem aew (k:Nat):zz (G3 k)=k:=by
 unfold G3
 split
 ·show 2*(k / 2)=k;omega
 show 2*(k / 2)+1=k;omega
theorem kK.le (h:kK β Z xs) (g:β.le β'):kK β' Z xs:=λn=>(h n).le g
theorem Ix:(kG Z xs (.int .i64 n)).getD (.slice .none 0 0)=.slice (aA Z xs n) (dm xs n).length (aC Z xs n):=by
 unfold kG
 by_cases h:dm xs n=[]
 ·simp only
  rw [t8 h]
  unfold aA aC
  rw [t8 h,t8 h,h];rfl
 simp only
 rw [nw h];rfl
theorem Mn {fs:List ck}:(iD fs (.int .i64 n)).getD (.int .i64 0)=.int .i64 (jb fs n):=by
 unfold iD
 simp only
 split
 ·rename_i h;rw [h];rfl
 rfl
theorem Z6:kG Z []=λ_=>.none:=funext λl=>by
 unfold kG
 split<;>rfl
theorem WQ:iD []=λ_=>.none:=funext λl=>by
 unfold iD
 split<;>rfl
theorem BA {m:Int} (h:m≠a.at_):dm (xs++[a]) m=dm xs m:=by
 rw [xG,nw (λe=>h e.symm)]
theorem BB:dm (xs++[a]) a.at_=dm xs a.at_++[a]:=by
 rw [xG,t8 rfl]
theorem abU {m:Int} (h:m≠a.at_):aA (Z.put a.at_ B c) (xs++[a]) m=aA Z xs m:=by
 unfold aA AZ.put
 rw [BA h]
 simp only
 rw [nw h]
theorem abV {m:Int} (h:m≠a.at_):aC (Z.put a.at_ B c) (xs++[a]) m=aC Z xs m:=by
 unfold aC AZ.put
 rw [BA h]
 simp only
 rw [nw h]
theorem abW:aA (Z.put a.at_ B c) (xs++[a]) a.at_=B:=by
 unfold aA AZ.put
 rw [BB,nw nh]
 simp
theorem abX:aC (Z.put a.at_ B c) (xs++[a]) a.at_=c:=by
 unfold aC AZ.put
 rw [BB,nw nh]
 simp
theorem Sy {f g:Lit->Option Value} {v:Option Value} (hv:g (.int .i64 n)=v) (ho:∀l,l≠.int .i64 n->g l=f l):pZ f (.int .i64 n) v=g:=funext λl=>by
 unfold pZ
 by_cases h:l.sameKey (.int .i64 n)=true
 ·rw [t8 h]
  have:l=.int .i64 n:=by
   cases l with
   |int q a=>simp [Lit.sameKey] at h;obtain⟨rfl,rfl⟩:=h;rfl
   |_=>simp [Lit.sameKey] at h
  rw [this,hv]
 rw [nw h,ho l (λe=>h (by rw [e];simp [Lit.sameKey]))]
theorem Z7:pZ (kG Z xs) (.int .i64 a.at_) (some (.slice B ((dm xs a.at_).length+1) c))=kG (Z.put a.at_ B c) (xs++[a]):=by
 refine Sy ?_ (λl h=>?_)
 ·unfold kG
  simp only
  rw [BB,nw nh,abW,abX,T3];rfl
 unfold kG
 split
 ·rename_i m
  have hm:m≠a.at_:=λe=>h (by rw [e])
  rw [BA hm,abU hm,abV hm]
 rfl
theorem WR {fs:List ck} {f:ck} (h:FK f) (h0:jb fs f.at_=0):pZ (iD fs) (.int .i64 f.at_) (some (.int .i64 f.kind))=iD (fs++[f]):=by
 have hk:¬f.kind=0:=by have:=h.1;omega
 refine Sy ?_ (λl hl=>?_)
 ·unfold iD
  simp only
  have e:jb (fs++[f]) f.at_=f.kind:=by rw [tD,t8 h0,t8 (show f.at_=f.at_/\FK f from ⟨rfl,h⟩)]
  rw [e,nw hk]
 unfold iD
 split
 ·rename_i m
  have hm:¬(f.at_=m/\FK f):=λe=>hl (by rw [e.1])
  rw [tD,nw hm]
  by_cases h2:jb fs m=0
  ·rw [t8 h2,h2]
  rw [nw h2]
 rfl
theorem DC {fs:List ck} {f:ck} (h:¬FK f\/jb fs f.at_≠0):iD (fs++[f])=iD fs:=funext λl=>by
 unfold iD
 split
 ·rename_i m
  have:jb (fs++[f]) m=jb fs m:=by
   rw [tD]
   by_cases h2:jb fs m=0
   ·rw [t8 h2,nw (λe=>?_),h2]
    rcases h with h|h
    ·exact h e.2
    exact h (by rw [e.1];exact h2)
   rw [nw h2]
  rw [this]
 rfl
theorem aP.aex (h:aP β l w):aP β (l++[.abs (bp (sV AZ.none []))]) w:=h.Nt _ (λ_=>t8 rfl)
theorem aP.ac6 (h:aP β l w) (hp:l[i]?=some (.abs (bp (sV Z xs)))) (n:Int):aP β (l.set i (.abs (bp (pU (sV Z xs) (zz n) eG.none)))++[.abs (Iw Z xs n)]) w:=by
 have h1:=h.Jj hp (zz n)
 by_cases e:dm xs n=[]
 ·have e2:Iw Z xs n=aI 133 5 .none 0 0 []:=by
   unfold Iw aA aC
   rw [t8 e,t8 e,e];rfl
  rw [e2]
  exact (aP.left h1).nN (e:=133) (size:=5)
 have e2:sV Z xs (zz n)=Iw Z xs n:=by
  unfold sV
  rw [Ph,nw e]
 rw [e2] at h1
 exact h1
theorem aP.aey {ax:List Nat} (h:aP β l w) (hp:l[i]?=some (.abs (bp (pU (sV Z xs) (zz a.at_) eG.none)))) (hq:l[j]?=some (.abs (aI 133 5 B ((dm xs a.at_).length+1) c (cJ kr (dm xs a.at_)++kr a)))) (hn:bU (i::j::ax)=true) (hl:cT l ax=some l') :
 aP β (.abs (bp (sV (Z.put a.at_ B c) (xs++[a])))::l') w:=by
 refine h.yX hp hq (λ_ _ h=>h) hn hl (zz a.at_) (λx hx=>?_) ?_
 ·have cF:G3 x≠a.at_:=λe=>hx (by rw [←e,aew])
  unfold pU
  rw [nw hx]
  unfold sV Iw
  rw [BA cF,abU cF,abV cF]
 unfold sV Iw
 rw [Ph,BB,nw nh,abW,abX]
 rw [DB,T3];rfl
theorem kK.of {F:Fp} (h:(HP.abs (bp (sV Z xs))).h F w) (h1:∀k,F k->β.O k) (h2:β.w0=w):kK β Z xs:=λn=>by
 by_cases e:dm xs n=[]
 ·rw [e];exact λj v hj=>by simp [cJ,fA] at hj
 obtain⟨φ,g1,_,g3⟩:=h
 have h3:=g1 (zz n)
 unfold sV at h3
 rw [Ph,nw e] at h3
 exact cq.gZ h3 (λk hk=>h1 k ((g3 k).2 ⟨_,hk⟩)) h2
end z
theorem DE {xs:List cI} {i:Nat} (h:i<xs.length):xs.take (i+1)=xs.take i++[act xs i]:=by
 rw [aiC,zh h];rfl
theorem wY {fs:List ck} {i:Nat} (h:i<fs.length):fs.take (i+1)=fs.take i++[pG fs i]:=by
 rw [aiC,Gp h];rfl
theorem WS {n:Nat} (h:n<=9223372036854775807):(Lit.int .i64 (n:Int)).wf=true:=by
 simp [Lit.wf,IntKind.min,IntKind.max,IntKind.signed,IntKind.bits]
 omega
theorem Z8 {d:List UInt8} {m j:Nat} {v:Value} (h:(d9 (d.take m))[j]?=some v):(d9 d)[j]?=some v:=by
 unfold d9 at h ⊢
 rw [List.getElem?_map] at h ⊢
 rw [List.getElem?_take] at h
 split at h
 ·exact h
 cases h
theorem Rs {β:Bs} {c:aK} (h:qP β c):qP β {c with data:=c.data.take (c.data.length / 2)}:=⟨h.hw,h.ow,h.nm,h.tx,λj v hj=>h.da j v (Z8 hj),by
 show (c.data.take _).length<=_
 rw [aiz];have:=h.dl;omega,by
 show (c.data.take _).length<=c.dC
 rw [aiz];have:=h.dc;omega,h.op⟩
structure WG where
 w:Nat
 o:Nat
 q:Nat
 am:Nat
 km:Nat
 an:Nat
 kn:Nat
 f:Nat
 m:Nat
 t:Nat
 Z:AZ
structure WV where
 L:HL
 A:Option Addr
 c:Nat
abbrev wB (w o f:Nat) (af:Int) (A:Option Addr) (n c:Nat):HP:=.aD w [.iface 37 (vP w),vP f,.iface 137 (vP o),.int .i64 af,.slice A n c] 60
abbrev oB (o q f:Nat) (af:Int) (am n:Nat):HP:=.aD o [.iface 138 (vP q),vP f,.int .i64 af,.map (some am),.int .i64 n] 142
abbrev qB (q f km n:Nat):HP:=.aD q [.iface 56 (vP f),.map (some km),.int .i64 n] 140
abbrev aM (am an:Nat) (Z:AZ) (xs:List cI):HP:=.abs (bM Tryz.prog 3 am (kG Z xs) an)
abbrev kM (km kn:Nat) (fs:List ck):HP:=.abs (bM Tryz.prog 3 km (iD fs) kn)
abbrev tR (A:Option Addr) (c:Nat) (tr:List aK):HP:=.abs (aI 63 13 A tr.length c (cJ aW tr))
abbrev wP (G:WG) (fs:List ck) (xs:List cI) (af:Int) (S:aZ) (V:WV) (tr:List aK):List HP:=[wB G.w G.o G.f af V.A tr.length V.c,oB G.o G.q G.f af G.am tr.length,qB G.q G.f G.km tr.length,aM G.am G.an G.Z xs,kM G.km G.kn fs,tR V.A V.c tr]++pA G.f G.m G.t V.L S
def wA (G:WG) (fs:List ck) (xs:List cI) (af:Int) (S:aZ) (V:WV) (tr:List aK):HP:=.abs (gy (wP G fs xs af S V tr))
def wZ (β:Bs) (tr:List aK):Prop:=∀c∈tr,bO β c.dA c.data/\c.data.length<=1048576
theorem wZ.le {β β':Bs} {tr:List aK} (h:wZ β tr) (g:β.le β'):wZ β' tr:=λc hc=>⟨(h c hc).1.le g,(h c hc).2⟩
theorem wZ.snoc {β:Bs} {tr:List aK} {c:aK} (h:wZ β tr) (g:bO β c.dA c.data) (g2:c.data.length<=1048576):wZ β (tr++[c]):=λx hx=>by
 rcases air.1 hx with hx|hx
 ·exact h x hx
 obtain rfl:=aiD.1 hx;exact⟨g,g2⟩
theorem aU.one {P:Program} {β:Bs} {f:FuncId} {args:Array Value} {pre:List HP} {post:Value->List HP->Prop} (h:aU P β f args pre post):aU P β f args [.abs (gy pre)] (λv l=>∃l0,post v l0/\l=[.abs (gy l0)]):=by
 intro R w hS
 have h1:aP β ([.abs R]++[.abs (gy pre)]) w:=aP.turn hS
 refine (h R w (aP.turn h1.rX)).mono ?_
 rintro e w' ⟨v,l,h2,h3,h4⟩
 exact⟨v,[.abs (gy l)],h2,⟨l,h3,rfl⟩,aP.turn (aP.gy (aP.turn h4))⟩
theorem bK.one {P:Program} {β:Bs} {f:FuncId} {args:Array Value} {pre:List HP} {post:Bs->Value->List HP->Prop} (h:bK P β f args pre post):bK P β f args [.abs (gy pre)] (λβ' v l=>∃l0,post β' v l0/\l=[.abs (gy l0)]):=by
 intro R w hS
 have h1:aP β ([.abs R]++[.abs (gy pre)]) w:=aP.turn hS
 refine (h R w (aP.turn h1.rX)).mono ?_
 rintro e w' ⟨β',v,l,dP,h2,h3,h4⟩
 exact⟨β',v,[.abs (gy l)],dP,h2,⟨l,h3,rfl⟩,aP.turn (aP.gy (aP.turn h4))⟩
theorem aF.tL {β:Bs} {N:fP} {Q:Post} {e:Exit} {fr:Fr} {ay gj:List HP} {Φ:Bs->Prop} (i:Nat) (ax:List Nat) (hp:ay[i]?=some (.abs (jL β Φ))) (hn:bU (i::ax)=true) (hl:cT ay ax=some gj) (K:∀β':Bs,β.le β'->Φ β'->aF β' N Q e fr gj):aF β N Q e fr ay:=λar w hS=>by
 obtain⟨β',g1,g2,g3⟩:=(hS.pick (ax:=i::ax) (l':=.abs (jL β Φ)::gj) hn (by simp only [cT,hp,hl])).tL
 exact K β' g1 g2 ar w g3
theorem bK.UA {P:Program} {β:Bs} {f:FuncId} {args:Array Value} {pre:List HP} {Φ:Bs->Prop} {post:Bs->Value->List HP->Prop} (h:∀β':Bs,β.le β'->Φ β'->bK P β' f args pre post):bK P β f args (.abs (jL β Φ)::pre) post:=by
 intro A w hS
 obtain⟨β',g1,g2,g3⟩:=aP.tL (l:=pre++[.abs A]) hS
 refine (h β' g1 g2 A w g3).mono ?_
 rintro e w' ⟨β'',v,l,dP,h2⟩
 exact⟨β'',v,l,g1.trans dP,h2⟩
theorem bK.aez {P:Program} {β:Bs} {f:FuncId} {args:Array Value} {R:List HP} {post:Bs->Value->List HP->Prop} (h:∀β':Bs,oe β R β'->bK P β' f args [] post):bK P β f args R post:=by
 intro A w hS
 have h4:aP β ([.abs A]++R) w:=aP.turn hS
 obtain⟨β',g1,_,g3⟩:=h4.sF
 refine (h β' g1 A w g3).mono ?_
 rintro e w' ⟨β'',v,l,dP,h2⟩
 exact⟨β'',v,l,g1.le.trans dP,h2⟩
theorem bK.Pj {P:Program} {β:Bs} {f:FuncId} {args:Array Value} {pre:List HP} {post:Value->List HP->Prop} (h:bK P β f args pre (λ_ v l=>post v l)):aU P β f args pre post:=by
 intro A w hS
 refine (h A w hS).mono ?_
 rintro e w' ⟨β',v,l,dP,h2,h3,h4⟩
 exact⟨v,l,h2,h3,h4.I3 dP⟩
theorem bK.aeA {P:Program} {β:Bs} {f:FuncId} {args:Array Value} {pre:List HP} {post post':Bs->Value->List HP->Prop} (h:bK P β f args pre post) (hp:∀β' v l,post β' v l->(l=[]/\post' β' v [])\/post' β' v [.abs (gy l)]):bK P β f args pre post':=by
 intro R w hS
 refine (h R w hS).mono ?_
 rintro e w' ⟨β',v,l,dP,h2,h3,h4⟩
 rcases hp β' v l h3 with ⟨rfl,h5⟩|h5
 ·exact⟨β',v,[],dP,h2,h5,h4⟩
 exact⟨β',v,[.abs (gy l)],dP,h2,h5,aP.turn (aP.gy (aP.turn h4))⟩
theorem DF {α:Type} (f:α->List Value) (a:α) (r:List α):cJ f (a::r)=f a++cJ f r:=by
 have:∀(k k':Nat) (r:List α),fA (λ_ x=>f x) k r=fA (λ_ x=>f x) k' r:=λk k' r=>by
  induction r generalizing k k' with
  |nil=>rfl
  |cons y r ih=>show f y++fA _ (k+1) r=f y++fA _ (k'+1) r;rw [ih]
 show f a++fA _ 1 r=f a++fA _ 0 r
 rw [this]
section k
variable {xs:List cI} {z af:Int} {j n:Nat} {fs:List ck} {S:aZ} {c:aK} {k:Int}
end k
end
section
open Go.RowKit
section
variable {O:eu} {k:Nat} {kd:Int}
theorem DG (L:HL) (h:(ah O k).kind=kd) (h0:kd≠0:=by decide):∀F w,(bp (fV O L)).h F w->w.cell? ⟨L.b k,0,none⟩=some (.int .i64 (ah O k).id):=lf (by rw [h];exact h0) rfl
theorem JJ (L:HL) (h:(ah O k).kind=kd) (h0:kd≠0:=by decide):∀F w,(bp (fV O L)).h F w->w.cell? ⟨L.b k,1,none⟩=some (.int .i64 (ah O k).mode):=lf (by rw [h];exact h0) rfl
theorem UC (L:HL) (h:(ah O k).kind=kd) (h0:kd≠0:=by decide):∀F w,(bp (fV O L)).h F w->w.cell? ⟨L.b k,2,none⟩=some (.int .i64 (ah O k).cM):=lf (by rw [h];exact h0) rfl
theorem UD (L:HL) (h:(ah O k).kind=kd) (h0:kd≠0:=by decide):∀F w,(bp (fV O L)).h F w->w.cell? ⟨L.b k,3,none⟩=some (.int .i64 (ah O k).cO):=lf (by rw [h];exact h0) rfl
theorem tE (L:HL) (h:(ah O k).kind=kd) (h0:kd≠0:=by decide):∀F w,(bp (fV O L)).h F w->w.cell? ⟨L.b k,6,none⟩=some (.int .i64 (ah O k).aT):=lf (by rw [h];exact h0) rfl
theorem qU (L:HL) (h:(ah O k).kind=kd) (h0:kd≠0:=by decide):∀F w,(bp (fV O L)).h F w->w.cell? ⟨L.b k,7,none⟩=some (.int .i64 (ah O k).aQ):=lf (by rw [h];exact h0) rfl
theorem yt (L:HL) (h:(ah O k).kind=kd) (h0:kd≠0:=by decide):∀F w,(bp (fV O L)).h F w->w.cell? ⟨L.b k,8,none⟩=some (.bool (ah O k).aJ):=lf (by rw [h];exact h0) rfl
theorem Pk (L:HL) (h:(ah O k).kind=1):∀F w,(bp (fV O L)).h F w->w.cell? ⟨L.b k,9,none⟩=some (.slice (L.dA k) (ah O k).data.length (L.dC k)):=lf (by rw [h];decide) (by rw [xX h];rfl)
theorem eE (L:HL) (h:(ah O k).kind=2):∀F w,(bp (fV O L)).h F w->w.cell? ⟨L.b k,9,none⟩=some (.map (some (L.m k))):=lf (by rw [h];decide) (by rw [uy h];rfl)
theorem agZ (L:HL) (h:(ah O k).kind=2):∀F w,(bp (fV O L)).h F w->w.cell? ⟨L.b k,10,none⟩=some (L8 L (ah O k).up):=lf (by rw [h];decide) (by rw [uy h];rfl)
theorem agj (L:HL) (h:(ah O k).kind=3):∀F w,(bp (fV O L)).h F w->w.cell? ⟨L.b k,9,none⟩=some (.string (ah O k).target):=lf (by rw [h];decide) (by rw [EJ h];rfl)
end
end
section
open Go.RowKit Go.Maps
theorem bp.step {R R':Nat->eG} {k:Nat} {F:Fp} {w w':World} (hF:(bp R).h F w) (hR:∀x,x≠k->R' x=R x) (hs:∀G,(R k).h G w->∃G',(R' k).h G' w'/\Step G w G' w'):∃F',(bp R').h F' w'/\Step F w F' w':=by
 obtain⟨φ,h1,h2,h3⟩:=hF
 obtain⟨G',g1,st⟩:=hs _ (h1 k)
 have hap:∀i,i≠k->∀x,G' x->φ i x->False:=λi cF x hx hy=>by
  rcases st.grow x hx with e|e
  ·exact h2 i k cF x hy e
  have:=(R i).lt (h1 i) x hy;omega
 refine⟨λx=>∃i,(if i=k then G' else φ i) x,⟨λi=>if i=k then G' else φ i,λi=>?_,λi j cF x hx hy=>?_,λx=>Iff.rfl⟩,⟨st.keeps.mono (λx _ hx=>(h3 x).2 ⟨k,hx⟩),λx ⟨i,hx⟩=>?_⟩⟩
 ·by_cases e:i=k
  ·subst e;simp only [if_true];exact g1
  simp only [e,if_false]
  rw [hR i e]
  exact (R i).st (h1 i) st.keeps (λx hx hk=>h2 i k e x hx hk)
 ·by_cases e1:i=k
  ·grind
  simp only [e1,if_false] at hx
  by_cases e2:j=k
  ·grind
  simp only [e2,if_false] at hy
  exact h2 i j cF x hx hy
 by_cases e:i=k
 ·simp only [e,if_true] at hx
  rcases st.grow x hx with h|h
  ·exact .inl ((h3 x).2 ⟨k,h⟩)
  exact .inr h
 grind
def K5 (O:eu) (L:HL):Nat->HP
 |0=>.abs (bp (fV O L))
 |1=>.abs (bp (iE O L))
 |_=>.abs (bp (eY O L))
def w9 (O:eu) (L:HL):List (Nat×Nat)->List (Nat×HP)
 |[]=>[]
 |q::r=>(q.1,K5 O L q.2)::w9 O L r
def BD (ay:List HP) (O:eu) (L:HL):List (Nat×Nat)->Prop
 |[]=>True
 |q::r=>ay[q.1]?=some (K5 O L q.2)/\BD ay O L r
theorem CS {ay:List HP} {O O2:eu} {L:HL} {p:Nat} (he:∀q,q≠p->K5 O2 L q=K5 O L q):∀{js:List (Nat×Nat)},BD ay O L js->nj p (js.map (·.2))=false->sZ ay (w9 O2 L js)=ay
 |[],_,_=>rfl
 |q::r,h,hn=>by
   have hq:q.2≠p:=λe=>by
    rw [show nj p ((q::r).map (·.2))=true from tM.2 (by simp [e])] at hn;cases hn
   have hr:nj p (r.map (·.2))=false:=by
    cases hb:nj p (r.map (·.2)) with
    |false=>rfl
    |true=>rw [show nj p ((q::r).map (·.2))=true from tM.2 (T4 _ (tM.1 hb))] at hn;cases hn
   show sZ (ay.set q.1 (K5 O2 L q.2)) (w9 O2 L r)=ay
   have e:ay.set q.1 (K5 O2 L q.2)=ay:=by
    rw [he _ hq]
    refine List.ext_getElem? (λn=>?_)
    rw [List.getElem?_set]
    split
    ·rename_i e;subst e
     rw [h.1];split
     ·rfl
     rename_i fX;exact KB (dH h.1) fX
    rfl
   rw [e]
   exact CS he h.2 hr
def JK (P:Program) (N:fP) (ar:Nat->Value) (ops:Array Oper) (fr:Fr) (k:Nat):Option (Addr×Value):=
 match iZ N ar ops fr k with
 |some (.store T a y,_)=>match (P.info? T).map (·.size) with
   |some 1=>match fo N fr ar a with
     |.pointer (some ad)=>some (ad,fo N fr ar y)
     |_=>none
   |_=>none
 |_=>none
def JL (N:fP) (ar:Nat->Value) (ops:Array Oper) (fr:Fr) (k:Nat):Option (TypeId×Nat×Value):=
 match iZ N ar ops fr k with
 |some (.lookup t x ix false,_)=>match fo N fr ar x with
   |.map (some b)=>some (t,b,fo N fr ar ix)
   |_=>none
 |_=>none
def setAt (N:fP) (ar:Nat->Value) (ops:Array Oper) (fr:Fr) (k:Nat):Option (TypeId×Nat×Value×Value):=
 match iZ N ar ops fr k with
 |some (.mapUpdate t x ix y,_)=>match fo N fr ar x with
   |.map (some b)=>some (t,b,fo N fr ar ix,fo N fr ar y)
   |_=>none
 |_=>none
def UE (N:fP) (ar:Nat->Value) (ops:Array Oper) (fr:Fr) (k:Nat):Option (TypeId×TypeId×Nat×Value):=
 match iZ N ar ops fr k with
 |some (.call ⟨.builtin .delete,xs,ts⟩,_)=>match xs.toList with
   |[x,ix]=>match ts.toList with
     |[t,K]=>match fo N fr ar x with
       |.map (some b)=>some (t,K,b,fo N fr ar ix)
       |_=>none
     |_=>none
   |_=>none
 |_=>none
def Pm (L:HL):Option Th->Value
 |none=>.nilIface
 |some t=>jl L t
section rules
variable {β:Bs} {N:fP} {ops:Array Oper} {k x:Nat} {fr:Fr} {ay:List HP} {Q:Post} {O:eu} {L:HL} {name:ByteArray} {r:Option Th} {t:Th}
theorem CU {ar:Nat->Value} {op:Op} {d:Option Tmp} (h:iZ N ar ops fr k=some (op,d)):d=jI ops k:=by
 grind [jd,jI]
theorem Pn {P:Program} {ar:Nat->Value} {ad:Addr} {u:Value} (h:JK P N ar ops fr k=some (ad,u)):∃T a y,iZ N ar ops fr k=some (.store T a y,jI ops k)/\(P.info? T).map (·.size)=some 1/\fo N fr ar a=.pointer (some ad)/\fo N fr ar y=u:=by
 grind [JK,CU]
theorem vk {ar:Nat->Value} {T:TypeId} {b:Nat} {key:Value} (h:JL N ar ops fr k=some (T,b,key)):∃a y,iZ N ar ops fr k=some (.lookup T a y false,jI ops k)/\fo N fr ar a=.map (some b)/\fo N fr ar y=key:=by
 grind [JL,CU]
theorem Z9 {ar:Nat->Value} {T:TypeId} {b:Nat} {key u:Value} (h:setAt N ar ops fr k=some (T,b,key,u)):∃a y z,iZ N ar ops fr k=some (.mapUpdate T a y z,jI ops k)/\fo N fr ar a=.map (some b)/\fo N fr ar y=key/\fo N fr ar z=u:=by
 grind [setAt,CU]
theorem WT {P:Program} {T:TypeId} {a y:Operand} {o:Oper} {ev:Operand->Value} {w:World} {ad:Addr} {u v0:Value} (ho:o.op=.store T a y) (hT:(P.info? T).map (·.size)=some 1) (ha:ev a=.pointer (some ad)) (hy:ev y=u) (hu:u.oneCell'=true) (hc:w.cell? ad=some v0) (hf:w.frozen? ad=false) (hs:ad.spot=none):sB P ev o w undef (w.setCell ad u):=by
 obtain⟨inf,hi,eV⟩:∃inf,P.info? T=some inf/\inf.size=1:=by
  cases h:P.info? T with
  |none=>rw [h] at hT;cases hT
  |some inf=>rw [h] at hT;exact⟨inf,rfl,by simpa using hT⟩
 have h3:=sx hi w
 rw [eV] at h3
 obtain⟨dst,op,type,pos,after,guard⟩:=o
 obtain⟨bk,off,spot⟩:=ad
 simp only at hs
 subst hs
 cases ho
 refine .inr ⟨rfl,?_⟩
 cases u<;>first
  |(simp [Value.oneCell'] at hu;done)
  |(simp only [execOp,ha,hy];simp [go_sem,Instr.storeAt,Instr.sureAddr,storeVar,h3,Value.cells,storeCells,store,Addr.add,Sem.run,hc,hf])
theorem oSt (i:Nat) (js:List (Nat×Nat)) (x j:Nat) (f:bV->bV) (u:Value) {kd:Int} (hk:(ah O x).kind=kd)
 (K:∀O2,O2=bD O x f->aB Tryz.prog β N ops (k+1) (eX fr (jI ops k) undef) ((sZ ay (w9 O2 L js)).set i (.abs (bp (fV O2 L)))) Q)
 (hp:ay[i]?=some (.abs (bp (fV O L)))) (hj:BD ay O L js)
 (ho:∀ar,JK Tryz.prog N ar ops fr k=some (⟨L.b x,j,none⟩,u))
 (hn:nj 0 (js.map (·.2))=false) (h0:kd≠0) (hc:l5 L x (f (ah O x))=(l5 L x (ah O x)).set j u) (hu:u.oneCell'=true) (h9:j<(l5 L x (ah O x)).length)
 (he:(f (ah O x)).aq=(ah O x).aq) (hd:(f (ah O x)).data=(ah O x).data) (BF:(f (ah O x)).kind=(ah O x).kind):aB Tryz.prog β N ops k fr ay Q:=by
 obtain⟨T,a,y,h1,h2,h3,h4⟩:=Pn (ho (λ_=>undef))
 intro ar w hS
 obtain⟨T,a,y,h1,h2,h3,h4⟩:=Pn (ho ar)
 obtain⟨o,g1,g2,g3,g4⟩:=jd h1
 have hx0:(ah O x).kind≠0:=by rw [hk];exact h0
 have Po:sZ ay (w9 (bD O x f) L js)=ay:=CS (p:=0) (λq hq=>by
  match q,hq with
  |0,hq=>exact KB rfl hq
  |1,_=>exact zc (λR=>HP.abs (bp R)) (F6 he BF)
  |q+2,_=>exact zc (λR=>HP.abs (bp R)) (F5 hd BF)) hj hn
 have hcell:∃v0,(l5 L x (ah O x))[j]?=some v0:=lq h9
 obtain⟨v0,hv0⟩:=hcell
 obtain⟨F,hF⟩:=hS.get hp
 obtain⟨G,hG⟩:=bp.at x hF
 have hG2:=hG
 rw [rL hx0] at hG2
 obtain⟨hb,_⟩:=hG2
 obtain⟨c1,c2⟩:=lu (a:=⟨L.b x,j,none⟩) hb rfl rfl hv0
 have yP:aP β (ay.set i (.abs (bp (fV (bD O x f) L)))) (w.setCell ⟨L.b x,j,none⟩ (u)):=hS.set hp (λF hF=>bp.step (k:=x) (show (bp (fV O L)).h F w from hF) (λy hy=>Jk hy) (λG hG=>by
  rw [rL hx0] at hG
  rw [FZ,nw (by rw [BF];exact hx0),hc,BF]
  exact zo hG rfl rfl))
 rw [drop_cons g1]
 unfold wpList
 rw [gY,t8 g2]
 refine .inl (p8 (v:=undef) (w':=w.setCell ⟨L.b x,j,none⟩ (u)) (by rw [iY];grind [WT]) ?_)
 rw [gS]
 have hK:=K _ rfl ar _ (by rw [Po];exact yP)
 rw [←g4] at hK
 exact hK
theorem BG (i:Nat) (js:List (Nat×Nat)) (x j:Nat) (f:bV->bV) {kd:Int} (hk:(ah O x).kind=kd)
 (K:∀O2,O2=bD O x f->aB Tryz.prog β N ops (k+1) (eX fr (jI ops k) undef) ((sZ ay (w9 O2 L js)).set i (.abs (bp (fV O2 L)))) Q)
 (hp:ay[i]?=some (.abs (bp (fV O L))):=by rfl) (hj:BD ay O L js:=by first|exact⟨rfl,trivial⟩|exact⟨rfl,rfl,trivial⟩|exact trivial)
 (ho:∀ar,JK Tryz.prog N ar ops fr k=some (⟨L.b x,j,none⟩,(FX (f (ah O x))).getD j undef):=by intro _;kernel_rfl)
 (hn:nj 0 (js.map (·.2))=false:=by rfl) (h0:kd≠0:=by decide) (hc:l5 L x (f (ah O x))=(l5 L x (ah O x)).set j ((FX (f (ah O x))).getD j undef):=by rfl) (hu:((FX (f (ah O x))).getD j undef).oneCell'=true:=by rfl) (h9:Nat.blt j 9=true:=by rfl)
 (he:(f (ah O x)).aq=(ah O x).aq:=by rfl) (hd:(f (ah O x)).data=(ah O x).data:=by rfl) (BF:(f (ah O x)).kind=(ah O x).kind:=by rfl):aB Tryz.prog β N ops k fr ay Q:=
 oSt i js x j f _ hk K hp hj ho hn h0 hc hu (aiq (show j<9 by simpa [Nat.blt_eq] using h9) (by unfold l5 FX;simp)) he hd BF
theorem uSt (i:Nat) (js:List (Nat×Nat)) (x:Nat) (y:Option Nat) (hk:(ah O x).kind=2)
 (K:∀O2,O2=bD O x (λo=>{o with up:=y})->aB Tryz.prog β N ops (k+1) (eX fr (jI ops k) undef) ((sZ ay (w9 O2 L js)).set i (.abs (bp (fV O2 L)))) Q)
 (hp:ay[i]?=some (.abs (bp (fV O L))):=by rfl) (hj:BD ay O L js:=by first|exact⟨rfl,trivial⟩|exact⟨rfl,rfl,trivial⟩|exact trivial)
 (ho:∀ar,JK Tryz.prog N ar ops fr k=some (⟨L.b x,10,none⟩,L8 L y):=by intro _;kernel_rfl) (hn:nj 0 (js.map (·.2))=false:=by rfl):aB Tryz.prog β N ops k fr ay Q:=
 oSt i js x 10 (λo=>{o with up:=y}) (L8 L y) hk K hp hj ho hn d8 (by rw [uy (show ({ah O x with up:=y}:bV).kind=2 from hk),uy hk];rfl) (by cases y<;>rfl) (by rw [uy hk];exact aiA 10) rfl rfl rfl
theorem aP.abY {w:World} {i j:Nat} {f:bV->bV} {u:Value} (hS:aP β ay w) (hp:ay[i]?=some (.abs (bp (fV O L)))) (hx0:(ah O x).kind≠0) (hc:l5 L x (f (ah O x))=(l5 L x (ah O x)).set j u) (BF:(f (ah O x)).kind=(ah O x).kind) (h9:j<(l5 L x (ah O x)).length) :
 aP β (ay.set i (.abs (bp (fV (bD O x f) L)))) (w.setCell ⟨L.b x,j,none⟩ u)/\(∃v0,w.cell? ⟨L.b x,j,none⟩=some v0)/\w.frozen? ⟨L.b x,j,none⟩=false:=by
 obtain⟨v0,hv0⟩:=lq h9
 obtain⟨F,hF⟩:=hS.get hp
 obtain⟨G,hG⟩:=bp.at x (show (bp (fV O L)).h F w from hF)
 rw [rL hx0] at hG
 obtain⟨c1,c2⟩:=lu (a:=⟨L.b x,j,none⟩) hG.1 rfl rfl hv0
 refine⟨hS.set hp (λF hF=>bp.step (k:=x) (show (bp (fV O L)).h F w from hF) (λy hy=>Jk hy) (λG hG=>?_)),⟨v0,c1⟩,c2⟩
 rw [rL hx0] at hG
 rw [FZ,nw (by rw [BF];exact hx0),hc,BF]
 exact zo hG rfl rfl
def Pp (P:Program) (N:fP) (ar:Nat->Value) (ops:Array Oper) (fr:Fr) (k:Nat):Option (Addr×Value):=
 match iZ N ar ops fr k with
 |some (.store T a y,_)=>match (P.info? T).map (·.size) with
   |some 2=>match fo N fr ar a with
     |.pointer (some ad)=>some (ad,fo N fr ar y)
     |_=>none
   |_=>none
 |_=>none
theorem WU {P:Program} {ar:Nat->Value} {ad:Addr} {u:Value} (h:Pp P N ar ops fr k=some (ad,u)):∃T a y,iZ N ar ops fr k=some (.store T a y,jI ops k)/\(P.info? T).map (·.size)=some 2/\fo N fr ar a=.pointer (some ad)/\fo N fr ar y=u:=by
 grind [Pp,CU]
theorem UF {P:Program} {T:TypeId} {a y:Operand} {o:Oper} {ev:Operand->Value} {w:World} {b j:Nat} {z1 z2:Int} {v0 v1:Value} (ho:o.op=.store T a y) (hT:(P.info? T).map (·.size)=some 2) (ha:ev a=.pointer (some ⟨b,j,none⟩)) (hy:ev y=.agg #[.int .i64 z1,.int .i64 z2])
 (hc:w.cell? ⟨b,j,none⟩=some v0) (hf:w.frozen? ⟨b,j,none⟩=false) (hc1:(w.setCell ⟨b,j,none⟩ (.int .i64 z1)).cell? ⟨b,j+1,none⟩=some v1) (hf1:(w.setCell ⟨b,j,none⟩ (.int .i64 z1)).frozen? ⟨b,j+1,none⟩=false) :
 sB P ev o w undef ((w.setCell ⟨b,j,none⟩ (.int .i64 z1)).setCell ⟨b,j+1,none⟩ (.int .i64 z2)):=by
 obtain⟨inf,hi,eV⟩:∃inf,P.info? T=some inf/\inf.size=2:=by
  cases h:P.info? T with
  |none=>rw [h] at hT;cases hT
  |some inf=>rw [h] at hT;exact⟨inf,rfl,by simpa using hT⟩
 have h3:=sx hi w
 rw [eV] at h3
 obtain⟨dst,op,type,pos,after,guard⟩:=o
 cases ho
 refine .inr ⟨rfl,?_⟩
 simp only [execOp,ha,hy]
 simp [go_sem,Instr.storeAt,Instr.sureAddr,storeVar,h3,Value.cells,storeCells,store,Addr.add,Sem.run,hc,hf,hc1,hf1]
theorem WW (i:Nat) (js:List (Nat×Nat)) (x:Nat) (z1 z2:Int) {kd:Int} (hk:(ah O x).kind=kd)
 (K:∀O2,O2=bD O x (λo=>{o with bH:=z1,bh:=z2})->aB Tryz.prog β N ops (k+1) (eX fr (jI ops k) undef) ((sZ ay (w9 O2 L js)).set i (.abs (bp (fV O2 L)))) Q)
 (hp:ay[i]?=some (.abs (bp (fV O L))):=by rfl) (hj:BD ay O L js:=by first|exact⟨rfl,trivial⟩|exact⟨rfl,rfl,trivial⟩|exact trivial)
 (ho:∀ar,Pp Tryz.prog N ar ops fr k=some (⟨L.b x,4,none⟩,.agg #[.int .i64 z1,.int .i64 z2]):=by intro _;kernel_rfl)
 (hn:nj 0 (js.map (·.2))=false:=by rfl) (h0:kd≠0:=by decide):aB Tryz.prog β N ops k fr ay Q:=by
 intro ar w hS
 obtain⟨T,a,y,h1,h2,h3,h4⟩:=WU (ho ar)
 obtain⟨o,g1,g2,g3,g4⟩:=jd h1
 have hx0:(ah O x).kind≠0:=by rw [hk];exact h0
 have Po:sZ ay (w9 (bD O x (λo=>{o with bH:=z1,bh:=z2})) L js)=ay:=CS (p:=0) (λq hq=>by
  match q,hq with
  |0,hq=>exact KB rfl hq
  |1,_=>exact zc (λR=>HP.abs (bp R)) (F6 rfl rfl)
  |q+2,_=>exact zc (λR=>HP.abs (bp R)) (F5 rfl rfl)) hj hn
 have jX:∀o:bV,9<=(l5 L x o).length:=λo=>by unfold l5 FX;simp
 obtain⟨s1,⟨v0,c1⟩,f1⟩:=hS.abY (x:=x) (j:=4) (f:=λo=>{o with bH:=z1}) (u:=.int .i64 z1) hp hx0 rfl rfl (by have:=jX (ah O x);omega)
 have hi:i<ay.length:=dH hp
 have e1:ah (bD O x (λo=>{o with bH:=z1})) x={ah O x with bH:=z1}:=iF
 obtain⟨s2,⟨v1,c2⟩,f2⟩:=s1.abY (x:=x) (j:=5) (f:=λo=>{o with bh:=z2}) (u:=.int .i64 z2) (i:=i) (O:=bD O x (λo=>{o with bH:=z1})) (by rw [List.getElem?_set,t8 rfl,t8 hi]) (by rw [e1];exact hx0) rfl rfl gn
 rw [List.set_set,EH] at s2
 rw [drop_cons g1]
 unfold wpList
 rw [gY,t8 g2]
 refine .inl (p8 (v:=undef) (w':=_) (by rw [iY];exact UF g3 h2 h3 h4 c1 f1 c2 f2) ?_)
 rw [gS]
 have hK:=K _ rfl ar _ (by rw [Po];exact s2)
 rw [←g4] at hK
 exact hK
theorem Gq {w:World} {i:Nat} (hS:aP β ay w) (hp:ay[i]?=some (.abs (bp (iE O L)))) (hd:(ah O x).kind=2):kN Tryz.prog 9 w (L.m x) (nI L (ah O x).aq) (ah O x).aq.length:=by
 obtain⟨F,hF⟩:=hS.get hp
 obtain⟨G,hG⟩:=bp.at x (show (bp (iE O L)).h F w from hF)
 rw [uX hd] at hG
 exact hG.1
theorem Sz {w:World} {i:Nat} {o:Oper} {ev:Operand->Value} {a y:Operand} (hS:aP β ay w) (hp:ay[i]?=some (.abs (bp (iE O L)))) (hd:(ah O x).kind=2) (hl:bF name (ah O x).aq=r) (h3:o.op=.lookup 195 a y false) (ha:ev a=.map (some (L.m x))) (hy:ev y=.string name) (eV:name.size<=1048576):sB Tryz.prog ev o w (Pm L r) w:=by
 have h:=C9 (z:=.nilIface) h3 (Gq hS hp hd) ha hy Ig Tryz.underlying195 d6 (KE d5)
 rw [y9,hl] at h
 cases r<;>exact h
theorem mW (i:Nat) (hd:(ah O x).kind=2) (hl:bF name (ah O x).aq=r) (K:aB Tryz.prog β N ops (k+1) (eX fr (jI ops k) (Pm L r)) ay Q) (hp:ay[i]?=some (.abs (bp (iE O L))):=by rfl)
 (ho:∀ar,JL N ar ops fr k=some (195,L.m x,.string name):=by intro _;kernel_rfl) (eV:name.size<=1048576:=by omega):aB Tryz.prog β N ops k fr ay Q:=by
 intro ar w hS
 obtain⟨a,y,h1,h2,h3⟩:=vk (ho ar)
 exact aB.nH (gj:=ay) (v:=Pm L r) (d:=jI ops k) (op:=.lookup 195 a y false) (λj=>by
  obtain⟨a',y',h1',_,_⟩:=vk (ho j)
  obtain⟨o,g1,g2,g3,g4⟩:=jd h1
  obtain⟨o',BH,g2',CV,g4'⟩:=jd h1'
  rw [g1] at BH
  cases BH
  rw [g3] at CV
  cases CV
  exact h1') (λo ar w ho' hS=>by
  obtain⟨a',y',h1',h2',h3'⟩:=vk (ho ar)
  obtain⟨o1,g1,g2,g3,g4⟩:=jd h1
  obtain⟨o',BH,g2',CV,g4'⟩:=jd h1'
  rw [g1] at BH
  cases BH
  rw [g3] at CV
  cases CV
  exact⟨w,Sz hS hp hd hl ho' h2' h3' eV,hS⟩) K ar w hS
theorem eLq (i:Nat) (hd:(ah O x).kind=2) (hl:bF name (ah O x).aq=r) (K:bJ Tryz.prog β N ops (k+1) (eX fr (jI ops k) (Pm L r)) ay Q) (hp:ay[i]?=some (.abs (bp (iE O L))):=by rfl)
 (ho:∀ar,JL N ar ops fr k=some (195,L.m x,.string name):=by intro _;kernel_rfl) (eV:name.size<=1048576:=by omega):bJ Tryz.prog β N ops k fr ay Q:=by
 intro ar
 obtain⟨a,y,h1,h2,h3⟩:=vk (ho ar)
 exact bJ.nH (v:=Pm L r) (d:=jI ops k) (op:=.lookup 195 a y false) (λj=>by
  obtain⟨a',y',h1',_,_⟩:=vk (ho j)
  obtain⟨o,g1,g2,g3,g4⟩:=jd h1
  obtain⟨o',BH,g2',CV,g4'⟩:=jd h1'
  rw [g1] at BH
  cases BH
  rw [g3] at CV
  cases CV
  exact h1') (λo ar w ho' hS=>by
  obtain⟨a',y',h1',h2',h3'⟩:=vk (ho ar)
  obtain⟨o1,g1,g2,g3,g4⟩:=jd h1
  obtain⟨o',BH,g2',CV,g4'⟩:=jd h1'
  rw [g1] at BH
  cases BH
  rw [g3] at CV
  cases CV
  exact Sz hS hp hd hl ho' h2' h3' eV) K ar
def UG (N:fP) (ar:Nat->Value) (ops:Array Oper) (fr:Fr) (k:Nat):Option (TypeId×Nat):=
 match iZ N ar ops fr k with
 |some (.call ⟨.builtin .len,xs,ts⟩,_)=>match xs.toList with
   |[x]=>match ts.toList with
     |[t]=>match fo N fr ar x with
       |.map (some b)=>some (t,b)
       |_=>none
     |_=>none
   |_=>none
 |_=>none
theorem Iy {ar:Nat->Value} {T:TypeId} {b:Nat} (h:UG N ar ops fr k=some (T,b)):∃a,iZ N ar ops fr k=some (.call ⟨.builtin .len,#[a],#[T]⟩,jI ops k)/\fo N fr ar a=.map (some b):=by
 unfold UG at h
 repeat' split at h
 all_goals first|(cases h;done)|skip
 rename_i xs ts d h0 _ a h1 _ t' h2 _ b' h3
 cases h
 have:=CU h0
 subst this
 refine⟨a,?_,h3⟩
 rw [h0]
 obtain⟨xs⟩:=xs
 obtain⟨ts⟩:=ts
 cases h1
 cases h2
 rfl
theorem eNk (i:Nat) (hd:(ah O x).kind=2) (K:aB Tryz.prog β N ops (k+1) (eX fr (jI ops k) (.int .i64 (((ah O x).aq.length:Nat):Int))) ay Q) (hp:ay[i]?=some (.abs (bp (iE O L))):=by rfl)
 (ho:∀ar,UG N ar ops fr k=some (195,L.m x):=by intro _;kernel_rfl):aB Tryz.prog β N ops k fr ay Q:=by
 obtain⟨a,h1,h2⟩:=Iy (ho (λ_=>undef))
 obtain⟨o,g1,g2,g3,g4⟩:=jd h1
 refine aB.nH (gj:=ay) (v:=.int .i64 (((ah O x).aq.length:Nat):Int)) (d:=jI ops k) (op:=o.op) (λj=>?_) (λo' ar w ho' hS=>?_) K
 ·obtain⟨a',h1',_⟩:=Iy (ho j)
  grind [jd]
 obtain⟨a',h1',h2'⟩:=Iy (ho ar)
 obtain⟨o1,BH,g2',CV,g4'⟩:=jd h1'
 rw [g1] at BH
 cases BH
 exact⟨w,FR (ho'.trans CV) rfl (Gq hS hp hd) h2' Tryz.underlying195,hS⟩
theorem eSt (i:Nat) (js:List (Nat×Nat)) {t:Th} (hd:(ah O x).kind=2) (jD:bF name (ah O x).aq=none)
 (K:∀O2,O2=bD O x (λo=>{o with aq:=kT name t o.aq})->aB Tryz.prog β N ops (k+1) (eX fr (jI ops k) undef) ((sZ ay (w9 O2 L js)).set i (.abs (bp (iE O2 L)))) Q)
 (hp:ay[i]?=some (.abs (bp (iE O L))):=by rfl) (hj:BD ay O L js:=by first|exact⟨rfl,trivial⟩|exact⟨rfl,rfl,trivial⟩|exact trivial)
 (ho:∀ar,setAt N ar ops fr k=some (195,L.m x,.string name,jl L t):=by intro _;kernel_rfl) (hn:nj 1 (js.map (·.2))=false:=by rfl) (eV:name.size<=1048576:=by omega) (hel:(ah O x).aq.length<=1048576:=by omega):aB Tryz.prog β N ops k fr ay Q:=by
 intro ar w hS
 obtain⟨a,y,z,h1,h2,h3,h4⟩:=Z9 (ho ar)
 obtain⟨o,g1,g2,g3,g4⟩:=jd h1
 have Po:sZ ay (w9 (bD O x (λo=>{o with aq:=kT name t o.aq})) L js)=ay:=CS (p:=1) (λq hq=>by
  match q,hq with
  |0,_=>exact zc (λR=>HP.abs (bp R)) (Oz (es:=λo=>kT name t o.aq))
  |1,hq=>exact KB rfl hq
  |q+2,_=>exact zc (λR=>HP.abs (bp R)) (F5 rfl rfl)) hj hn
 obtain⟨w',m1,m2,m3⟩:=(Gq hS hp hd).store Ig Tryz.underlying195 (by unfold maxLen;omega) (KE (p:=name) d5) (jl L t)
 have e1:(nI L (ah O x).aq) (.string name.data.toList)=none:=by rw [y9,jD];rfl
 rw [e1,Zs jD] at m2
 have yP:aP β (ay.set i (.abs (bp (iE (bD O x (λo=>{o with aq:=kT name t o.aq})) L)))) w':=hS.set hp (λF hF=>bp.step (k:=x) (show (bp (iE O L)).h F w from hF) (λy hy=>Jl hy) (λG hG=>by
  rw [uX hd] at hG
  rw [uX (by rw [iF];exact hd),iF,Oy]
  exact step_map hG m2 m3))
 rw [drop_cons g1]
 unfold wpList
 rw [gY,t8 g2]
 refine .inl (p8 (v:=undef) (w':=w') (by
  rw [iY]
  refine .inr ⟨rfl,?_⟩
  obtain⟨dst,op,type,pos,after,guard⟩:=o
  cases g3
  simp only [execOp,h2,h3,h4]
  simp [go_sem,m1]) ?_)
 rw [gS]
 have hK:=K _ rfl ar _ (by rw [Po];exact yP)
 rw [←g4] at hK
 exact hK
theorem aac {ar:Nat->Value} {T K0:TypeId} {b:Nat} {key:Value} (h:UE N ar ops fr k=some (T,K0,b,key)):∃a y,iZ N ar ops fr k=some (.call ⟨.builtin .delete,#[a,y],#[T,K0]⟩,jI ops k)/\fo N fr ar a=.map (some b)/\fo N fr ar y=key:=by
 unfold UE at h
 repeat' split at h
 all_goals first|(cases h;done)|skip
 rename_i xs ts d h0 _ a y h1 _ t' K' h2 _ b' h3
 cases h
 have:=CU h0
 subst this
 refine⟨a,y,?_,h3,rfl⟩
 rw [h0]
 obtain⟨xs⟩:=xs
 obtain⟨ts⟩:=ts
 cases h1
 cases h2
 rfl
theorem eDl (i:Nat) (js:List (Nat×Nat)) {t:Th} (hd:(ah O x).kind=2) (DH:bF name (ah O x).aq=some t) (hnt:pX (ah O x).aq)
 (K:∀O2,O2=bD O x (λo=>{o with aq:=kU name o.aq})->aB Tryz.prog β N ops (k+1) (eX fr (jI ops k) (.tuple #[])) ((sZ ay (w9 O2 L js)).set i (.abs (bp (iE O2 L)))) Q)
 (hp:ay[i]?=some (.abs (bp (iE O L))):=by rfl) (hj:BD ay O L js:=by first|exact⟨rfl,trivial⟩|exact⟨rfl,rfl,trivial⟩|exact trivial)
 (ho:∀ar,UE N ar ops fr k=some (195,9,L.m x,.string name):=by intro _;kernel_rfl) (hn:nj 1 (js.map (·.2))=false:=by rfl) (eV:name.size<=1048576:=by omega):aB Tryz.prog β N ops k fr ay Q:=by
 intro ar w hS
 obtain⟨a,y,h1,h2,h3⟩:=aac (ho ar)
 obtain⟨o,g1,g2,g3,g4⟩:=jd h1
 have Po:sZ ay (w9 (bD O x (λo=>{o with aq:=kU name o.aq})) L js)=ay:=CS (p:=1) (λq hq=>by
  match q,hq with
  |0,_=>exact zc (λR=>HP.abs (bp R)) (Oz (es:=λo=>kU name o.aq))
  |1,hq=>exact KB rfl hq
  |q+2,_=>exact zc (λR=>HP.abs (bp R)) (F5 rfl rfl)) hj hn
 obtain⟨w',m1,m2,m3⟩:=(Gq hS hp hd).drop Ig Tryz.underlying195 (KE (p:=name) d5) o.type
 have e1:(nI L (ah O x).aq) (.string name.data.toList)=some (jl L t):=by rw [y9,DH];rfl
 rw [e1,Zt] at m2
 have jX:=Zr hnt DH
 have yP:aP β (ay.set i (.abs (bp (iE (bD O x (λo=>{o with aq:=kU name o.aq})) L)))) w':=hS.set hp (λF hF=>bp.step (k:=x) (show (bp (iE O L)).h F w from hF) (λy hy=>Jl hy) (λG hG=>by
  rw [uX hd] at hG
  rw [uX (by rw [iF];exact hd),iF]
  rw [show (kU name (ah O x).aq).length=(ah O x).aq.length-1 by omega]
  exact step_map hG m2 m3))
 rw [drop_cons g1]
 unfold wpList
 rw [gY,t8 g2]
 refine .inl (p8 (v:=.tuple #[]) (w':=w') (by
  rw [iY]
  refine .inl ?_
  obtain⟨dst,op,type,pos,after,guard⟩:=o
  cases g3
  simp only [execOp,resolve,invoke,builtin]
  simp [go_sem,h2,h3,m1]) ?_)
 rw [gS]
 have hK:=K _ rfl ar _ (by rw [Po];exact yP)
 rw [←g4] at hK
 exact hK
end rules
section after
variable {O O2:eu} {j x:Nat} {f:bV->bV} {kd:Int}
theorem ku (e:O2=bD O j f) (h:(ah O x).kind=kd) (hf:∀o,(f o).kind=o.kind:=by intro _;rfl):(ah O2 x).kind=kd:=by subst e;exact (ux hf).trans h
theorem fu {α:Type} (g:bV->α) {v:α} (e:O2=bD O j f) (h:g (ah O x)=v) (hf:∀o,g (f o)=g o:=by intro _;rfl):g (ah O2 x)=v:=by subst e;exact (eU hf).trans h
end after
end
section
open Go.RowKit Go.Maps
attribute [local irreducible] aB bJ av aF
theorem iN {β:Bs} (b:Nat):aU Tryz.prog β 266 #[vP b] [] (λv l=>v=vP b/\l=[]):=by
 exact SE Tryz.func266 Tryz.ntmps266 (λR=>SR (jK 1 [] [] (NS (jK 2 [2] [] (eN ⟨rfl,rfl⟩)))))
theorem Ab {β:Bs} (a:Value):aU Tryz.prog β 267 #[a] [] (λv l=>v=vI 1/\l=[]):=by
 exact SE Tryz.func267 Tryz.ntmps267 (λR=>SR (jK 1 [] [] (NS (jK 1 [2] [] (eN ⟨rfl,rfl⟩)))))
theorem Ac {β:Bs} (a:Value):aU Tryz.prog β 269 #[a] [] (λv l=>v=vI 2/\l=[]):=by
 exact SE Tryz.func269 Tryz.ntmps269 (λR=>SR (jK 1 [] [] (NS (jK 1 [2] [] (eN ⟨rfl,rfl⟩)))))
theorem Ad {β:Bs} (a:Value):aU Tryz.prog β 268 #[a] [] (λv l=>v=vI 3/\l=[]):=by
 exact SE Tryz.func268 Tryz.ntmps268 (λR=>SR (jK 1 [] [] (NS (jK 1 [2] [] (eN ⟨rfl,rfl⟩)))))
theorem SB {β:Bs} (O:eu) (L:HL) (d:Nat) (eM:(ah O d).kind=2) (name:ByteArray) (eV:name.size<=1048576) (jD:bF name (ah O d).aq=none) (hel:(ah O d).aq.length<=1048576) (t:Th) (cA:(ah O t.k).kind=t.kind) (h3:t.kind=1\/t.kind=2\/t.kind=3) (hb:0<=(ah O t.k).aT/\(ah O t.k).aT<=1048576) :
 aU Tryz.prog β 80 #[vP (L.b d),.string name,(jl L t)] [.abs (bp (fV O L)),.abs (bp (iE O L))] (λv l=>v=.tuple #[]/\l=[.abs (bp (fV (uz O d name t) L)),.abs (bp (iE (uz O d name t) L))]):=by
 refine SE Tryz.func80 Tryz.ntmps80 (λR=>av.seq ?_)
 obtain⟨tk,kd⟩:=t;simp only at cA h3;rcases h3 with rfl|rfl|rfl
 ·replace cA:(ah O tk).kind=1:=cA
  replace hb:0<=(ah O tk).aT/\(ah O tk).aT<=1048576:=hb
  refine av.region (jK 6 [11,12,13] [(3,v_ 0 (eE L eM))] (eSt 1 [(0,0)] (t:=⟨tk,1⟩) eM jD (λjP ij=>?_)))
  have qV:=ku ij eM
  have uF:=ku ij cA
  have hf3:(ah jP tk).aT=(ah O tk).aT:=fu bV.aT ij rfl
  refine NS (jK 1 [14] [] (gE [] (iN (L.b tk)) (jK 6 [19,21] [(2,v_ 0 (tE L uF)),(3,wJ ((ah jP tk).aT+1) ((ah jP tk).aT+1))] (BG 0 [(1,1)] tk 6 (λo=>{o with aT:=o.aT+1}) uF (λjY iq=>?_)))))
  have EX:=ku iq qV
  have UH:=ku iq uF
  exact NS (jK 7 [6,7] [] (NS (jK 1 [27] [] (NF (av.skip (RF (l:=[.abs (bp (fV jY L)),.abs (bp (iE jY L))]) (.tuple #[]) [0,1,2] (⟨rfl,by subst iq;subst ij;rfl⟩)))))))
 ·replace cA:(ah O tk).kind=2:=cA
  replace hb:0<=(ah O tk).aT/\(ah O tk).aT<=1048576:=hb
  refine av.region (jK 6 [11,12,13] [(3,v_ 0 (eE L eM))] (eSt 1 [(0,0)] (t:=⟨tk,2⟩) eM jD (λjP ij=>?_)))
  have aeB:=ku ij eM
  have UI:=ku ij cA
  have hf8:(ah jP tk).aT=(ah O tk).aT:=fu bV.aT ij rfl
  refine NS (jK 1 [14] [] (gE [] (iN (L.b tk)) (jK 6 [19,21] [(2,v_ 0 (tE L UI)),(3,wJ ((ah jP tk).aT+1) ((ah jP tk).aT+1))] (BG 0 [(1,1)] tk 6 (λo=>{o with aT:=o.aT+1}) UI (λjY iq=>?_)))))
  have K6:=ku iq aeB
  have UJ:=ku iq UI
  refine NS (jK 7 [6,7] [] (NS (jK 1 [27] [] (NT (av.region (jK 4 [29,31] [] (uSt 0 [(1,1)] tk (some d) UJ (λEY uG=>?_))))))))
  have abZ:=ku uG K6
  have ahJ:=ku uG UJ
  exact NL (RF (l:=[.abs (bp (fV EY L)),.abs (bp (iE EY L))]) (.tuple #[]) [0,1,2] (⟨rfl,by subst uG;subst iq;subst ij;rfl⟩))
 replace cA:(ah O tk).kind=3:=cA
 replace hb:0<=(ah O tk).aT/\(ah O tk).aT<=1048576:=hb
 refine av.region (jK 6 [11,12,13] [(3,v_ 0 (eE L eM))] (eSt 1 [(0,0)] (t:=⟨tk,3⟩) eM jD (λjP ij=>?_)))
 have agk:=ku ij eM
 have UK:=ku ij cA
 have ah5:(ah jP tk).aT=(ah O tk).aT:=fu bV.aT ij rfl
 refine NS (jK 1 [14] [] (gE [] (iN (L.b tk)) (jK 6 [19,21] [(2,v_ 0 (tE L UK)),(3,wJ ((ah jP tk).aT+1) ((ah jP tk).aT+1))] (BG 0 [(1,1)] tk 6 (λo=>{o with aT:=o.aT+1}) UK (λjY iq=>?_)))))
 have JM:=ku iq agk
 have agl:=ku iq UK
 exact NS (jK 7 [6,7] [] (NS (jK 1 [27] [] (NF (av.skip (RF (l:=[.abs (bp (fV jY L)),.abs (bp (iE jY L))]) (.tuple #[]) [0,1,2] (⟨rfl,by subst iq;subst ij;rfl⟩)))))))
theorem oZ {β:Bs} (X:FM) (f m t:Nat) (hX:0<=X.aq/\X.aq<=1048576/\-1125899906842624<=X.used/\X.used<=1125899906842624/\0<=X.last/\X.last<=1125899906842624) (O:eu) (L:HL) (d:Nat) (eM:(ah O d).kind=2) (name:ByteArray) (eV:name.size<=1048576) (jD:bF name (ah O d).aq=none) (hel:(ah O d).aq.length<=1048576) (th:Th) (cA:(ah O th.k).kind=th.kind) (h3:th.kind=1\/th.kind=2\/th.kind=3) (hb:0<=(ah O th.k).aT/\(ah O th.k).aT<=1048576) :
 aU Tryz.prog β 224 #[vP f,vP (L.b d),.string name,(jl L th)] [.aD f [vI (X.cN),vI (X.cB),vI (X.cH),vI (X.cS),vI (X.cZ),.map (some m),vP t,vI (X.last),vI (X.aq),vI (X.used)] 173,.abs (bp (fV O L)),.abs (bp (iE O L))] (λv l=>v=.tuple #[]/\l=[.aD f [vI (X.cN),vI (X.cB),vI (X.cH),vI (X.cS),vI (X.cZ),.map (some m),vP t,vI (X.last),vI (X.aq+1),vI (X.used)] 173,.abs (bp (fV (dV X O d name th) L)),.abs (bp (iE (dV X O d name th) L))]):=by
 refine SE Tryz.func224 Tryz.ntmps224 (λR=>av.seq ?_)
 skip
 refine av.region (jK 3 [8,9,10] [] (gE [1,2] (SB O L d eM name eV jD hel th cA h3 hb) (NS ?_)))
 have JN:(ah (uz O d name th) d).kind=2:=(EK).trans (eM)
 generalize ij:(uz O d name th)=jP at JN ⊢
 refine jK 9 [17,20] [(5,A_ 2 f 2)] (WW 0 [(1,1)] d X.cS X.cZ JN (λjY iq=>?_))
 have ahK:=ku iq JN
 exact NN (av.region (jC 8 [] [(3,a_ 2 f),(4,wJ (X.aq+1) (X.aq+1)),(7,a_ 2 f)] [(2,[(8,vI (X.aq+1))])] (NL (RF (l:=[.aD f [vI (X.cN),vI (X.cB),vI (X.cH),vI (X.cS),vI (X.cZ),.map (some m),vP t,vI (X.last),vI (X.aq+1),vI (X.used)] 173,.abs (bp (fV jY L)),.abs (bp (iE jY L))]) (.tuple #[]) [2,0,1,3] (⟨rfl,by subst iq;subst ij;rfl⟩)))))
theorem o5 {β:Bs} (X:FM) (f m t:Nat) (hX:0<=X.aq/\X.aq<=1048576/\-1125899906842624<=X.used/\X.used<=1125899906842624/\0<=X.last/\X.last<=1125899906842624) (O:eu) (L:HL) (d:Nat) (eM:(ah O d).kind=2) (name:ByteArray) (eV:name.size<=1048576) (th:Th) (cA:(ah O th.k).kind=th.kind) (h3:th.kind=1\/th.kind=2\/th.kind=3) (DH:bF name (ah O d).aq=some th) (hnt:pX (ah O d).aq) (_:(ah O d).aq.length<=1048576) (hb:0<=(ah O th.k).aT/\(ah O th.k).aT<=1048576) :
 aU Tryz.prog β 238 #[vP f,vP (L.b d),.string name] [.aD f [vI (X.cN),vI (X.cB),vI (X.cH),vI (X.cS),vI (X.cZ),.map (some m),vP t,vI (X.last),vI (X.aq),vI (X.used)] 173,.abs (bp (fV O L)),.abs (bp (iE O L))] (λv l=>v=jl L th/\l=[.aD f [vI (X.cN),vI (X.cB),vI (X.cH),vI (X.cS),vI (X.cZ),.map (some m),vP t,vI (X.last),vI (X.aq-1),vI (X.used)] 173,.abs (bp (fV (bn X O d name th) L)),.abs (bp (iE (bn X O d name th) L))]):=by
 refine SE Tryz.func238 Tryz.ntmps238 (λR=>av.seq ?_)
 obtain⟨tk,kd⟩:=th;simp only at cA h3;rcases h3 with rfl|rfl|rfl
 ·replace cA:(ah O tk).kind=1:=cA
  replace hb:0<=(ah O tk).aT/\(ah O tk).aT<=1048576:=hb
  refine av.region (jK 1 [] [] (NS (jK 5 [11,12] [(3,v_ 1 (eE L eM))] (mW 2 eM DH (jK 1 [7] [] (NS (jK 5 [17,18] [(3,v_ 1 (eE L eM))] (eDl 2 [(1,0)] eM DH hnt (λjP ij=>?_)))))))))
  have ab0:=ku ij eM
  have agm:=ku ij cA
  have ag0:(ah jP tk).aT=(ah O tk).aT:=fu bV.aT ij rfl
  refine NS (jK 9 [24,27] [(5,A_ 0 f 2)] (WW 1 [(2,1)] d X.cS X.cZ ab0 (λjY iq=>?_)))
  have ab1:=ku iq ab0
  have Ny:=ku iq agm
  have ah6:(ah jY tk).aT=(ah O tk).aT:=fu bV.aT iq ag0
  refine NS (jC 8 [] [(3,a_ 0 f),(4,wJ (X.aq-1) (X.aq-1)),(7,a_ 0 f)] [(0,[(8,vI (X.aq-1))])] (NS (jK 1 [35] [] (gE [] (iN (L.b tk)) (jK 6 [40,42] [(2,v_ 1 (tE L Ny)),(3,wJ ((ah jY tk).aT-1) ((ah jY tk).aT-1))] (BG 1 [(2,1)] tk 6 (λo=>{o with aT:=o.aT-1}) Ny (λEY uG=>?_)))))))
  have ahL:=ku uG ab1
  have ahM:=ku uG Ny
  exact NS (jK 2 [6] [] (eN (l:=[.aD f [vI (X.cN),vI (X.cB),vI (X.cH),vI (X.cS),vI (X.cZ),.map (some m),vP t,vI (X.last),vI (X.aq-1),vI (X.used)] 173,.abs (bp (fV EY L)),.abs (bp (iE EY L))]) (v:=(.iface 184 (vP (L.b tk)))) ⟨rfl,by subst uG;subst iq;subst ij;rfl⟩))
 ·replace cA:(ah O tk).kind=2:=cA
  replace hb:0<=(ah O tk).aT/\(ah O tk).aT<=1048576:=hb
  refine av.region (jK 1 [] [] (NS (jK 5 [11,12] [(3,v_ 1 (eE L eM))] (mW 2 eM DH (jK 1 [7] [] (NS (jK 5 [17,18] [(3,v_ 1 (eE L eM))] (eDl 2 [(1,0)] eM DH hnt (λjP ij=>?_)))))))))
  have ab2:=ku ij eM
  have agn:=ku ij cA
  have ag1:(ah jP tk).aT=(ah O tk).aT:=fu bV.aT ij rfl
  refine NS (jK 9 [24,27] [(5,A_ 0 f 2)] (WW 1 [(2,1)] d X.cS X.cZ ab2 (λjY iq=>?_)))
  have agp:=ku iq ab2
  have UM:=ku iq agn
  have ah7:(ah jY tk).aT=(ah O tk).aT:=fu bV.aT iq ag1
  refine NS (jC 8 [] [(3,a_ 0 f),(4,wJ (X.aq-1) (X.aq-1)),(7,a_ 0 f)] [(0,[(8,vI (X.aq-1))])] (NS (jK 1 [35] [] (gE [] (iN (L.b tk)) (jK 6 [40,42] [(2,v_ 1 (tE L UM)),(3,wJ ((ah jY tk).aT-1) ((ah jY tk).aT-1))] (BG 1 [(2,1)] tk 6 (λo=>{o with aT:=o.aT-1}) UM (λEY uG=>?_)))))))
  have ahN:=ku uG agp
  have ahO:=ku uG UM
  exact NS (jK 2 [6] [] (eN (l:=[.aD f [vI (X.cN),vI (X.cB),vI (X.cH),vI (X.cS),vI (X.cZ),.map (some m),vP t,vI (X.last),vI (X.aq-1),vI (X.used)] 173,.abs (bp (fV EY L)),.abs (bp (iE EY L))]) (v:=(.iface 190 (vP (L.b tk)))) ⟨rfl,by subst uG;subst iq;subst ij;rfl⟩))
 replace cA:(ah O tk).kind=3:=cA
 replace hb:0<=(ah O tk).aT/\(ah O tk).aT<=1048576:=hb
 refine av.region (jK 1 [] [] (NS (jK 5 [11,12] [(3,v_ 1 (eE L eM))] (mW 2 eM DH (jK 1 [7] [] (NS (jK 5 [17,18] [(3,v_ 1 (eE L eM))] (eDl 2 [(1,0)] eM DH hnt (λjP ij=>?_)))))))))
 have ab3:=ku ij eM
 have agq:=ku ij cA
 have ag2:(ah jP tk).aT=(ah O tk).aT:=fu bV.aT ij rfl
 refine NS (jK 9 [24,27] [(5,A_ 0 f 2)] (WW 1 [(2,1)] d X.cS X.cZ ab3 (λjY iq=>?_)))
 have agr:=ku iq ab3
 have UN:=ku iq agq
 have ah8:(ah jY tk).aT=(ah O tk).aT:=fu bV.aT iq ag2
 refine NS (jC 8 [] [(3,a_ 0 f),(4,wJ (X.aq-1) (X.aq-1)),(7,a_ 0 f)] [(0,[(8,vI (X.aq-1))])] (NS (jK 1 [35] [] (gE [] (iN (L.b tk)) (jK 6 [40,42] [(2,v_ 1 (tE L UN)),(3,wJ ((ah jY tk).aT-1) ((ah jY tk).aT-1))] (BG 1 [(2,1)] tk 6 (λo=>{o with aT:=o.aT-1}) UN (λEY uG=>?_)))))))
 have ahP:=ku uG agr
 have ahQ:=ku uG UN
 exact NS (jK 2 [6] [] (eN (l:=[.aD f [vI (X.cN),vI (X.cB),vI (X.cH),vI (X.cS),vI (X.cZ),.map (some m),vP t,vI (X.last),vI (X.aq-1),vI (X.used)] 173,.abs (bp (fV EY L)),.abs (bp (iE EY L))]) (v:=(.iface 187 (vP (L.b tk)))) ⟨rfl,by subst uG;subst iq;subst ij;rfl⟩))
end
section
open Go.RowKit Go.Maps bw aH
attribute [local irreducible] aB bJ av aF cC
abbrev WX (f:Nat) (X:FM) (m:Nat) (t):=(.aD f [vI (X.cN),vI (X.cB),vI (X.cH),vI (X.cS),vI (X.cZ),.map (some m),vP t,vI (X.last),vI (X.aq),vI (X.used)] 173:HP)
theorem aad {β:Bs} (X:FM) (f m t:Nat) (hX:0<=X.aq/\X.aq<=1048576/\-1125899906842624<=X.used/\X.used<=1125899906842624/\0<=X.last/\X.last<=1125899906842624) (O:eu) (L:HL) (ax:bC Th) (WY:aH.dM (aY ax)) (th:Th) (cA:(ah O th.k).kind=th.kind) (h3:th.kind=1\/th.kind=2\/th.kind=3) (hg:(ah O th.k).aJ=true) (ho:(ah O th.k).aQ=0) (fT:aH.get ax (ah O th.k).id=some th) (hw:(Lit.int .i64 (ah O th.k).id).wf=true) (EZ:(ah O th.k).data.length<=1125899906842624) :
 aU Tryz.prog β 230 #[vP f,(jl L th)] [pO O L,pF f m t X,pI m L ax] (λv l=>v=.tuple #[]/\l=[pO O L,pF f m t {X with used:=if th.kind=1 then X.used-(ah O th.k).data.length else X.used},pI m L (del (ah O th.k).id ax)]):=by
 refine SE Tryz.func230 Tryz.ntmps230 (λR=>av.seq ?_)
 obtain⟨tk,kd⟩:=th;simp only at cA h3;rcases h3 with rfl|rfl|rfl
 ·replace cA:(ah O tk).kind=1:=cA
  replace hg:(ah O tk).aJ=true:=hg
  replace ho:(ah O tk).aQ=0:=ho
  replace fT:aH.get ax (ah O tk).id=some _:=fT
  replace hw:(Lit.int .i64 (ah O tk).id).wf=true:=hw
  have hdl:=tq WY (get_some fT)
  replace EZ:(ah O tk).data.length<=1125899906842624:=EZ
  exact av.region (jK 1 [7] [] (gE [] (iN (L.b tk)) (jK 1 [4] [] (NZ (jK 6 [14] [(3,v_ 0 (yt L cA))] (aB.qD 14 (!(ah O tk).aJ) (λ_=>d6) (λnO=>KB nO (by simp [hg])) (λnO=>jK 6 [20] [(3,v_ 0 (qU L cA))] (NN (cP (((ah O tk).aQ:Int)>(0:Int)) (λlZ=>KB lZ (by omega)) (λlZ=>KX (av.seq (rM (List.range 9) 8 [0,1,2,3] (jR 8 [0,1,24,28] [(3,a_ 1 f),(7,v_ 0 (DG L cA))] (cC.last rfl rfl (aB.I0 2 (d:=none) (t:=170) (K:=3) (E:=175) (b:=m) (n:=ax.length) (f:=(dw (dQ L ax))) (x:=(.tmp 24)) (ix:=(.tmp 28)) (key:=vI ((ah O tk).id)) (kl:=(.int .i64 (ah O tk).id)) (n':=(ax.length-1)) (f':=(dw (dQ L (del (ah O tk).id ax)))) (ats:=#[170,3]) (λ_=>d6) d6 (λ_=>d6) (λ_=>d6) rfl jf Tryz.underlying170 (mr hw) (by rw [kB,fT];rfl) (KO) (NL (aF.np (NX (SR (jK 7 [5,6] [] (NS (jK 1 [34] [] (NT (rM (List.range 13) 12 [0,1,2,3] (jR 12 [44,46] [(3,a_ 1 f),(7,v_ 0 (Pk L cA)),(9,wJ (X.used-(((ah O tk).data.length:Nat):Int)) (X.used-(((ah O tk).data.length:Nat):Int)))] (cC.last rfl rfl (jC 1 [] [(0,a_ 1 f)] [(1,[(9,vI (X.used-(((ah O tk).data.length:Nat):Int)))])] (NL (aF.np (aF.jq [(2,.abs (bM Tryz.prog 3 m (dw (dQ L (del (ah O tk).id ax))) ((del (ah O tk).id ax).length)))] (λw hS=>by rw [show (del (ah O tk).id ax).length=ax.length-1 by omega];exact hS) (RF (.tuple #[]) [0,1,2,3] (⟨rfl,rfl⟩))))))))))))))))))))))))))))))))
 ·replace cA:(ah O tk).kind=2:=cA
  replace hg:(ah O tk).aJ=true:=hg
  replace ho:(ah O tk).aQ=0:=ho
  replace fT:aH.get ax (ah O tk).id=some _:=fT
  replace hw:(Lit.int .i64 (ah O tk).id).wf=true:=hw
  have hdl:=tq WY (get_some fT)
  replace EZ:(ah O tk).data.length<=1125899906842624:=EZ
  exact av.region (jK 1 [7] [] (gE [] (iN (L.b tk)) (jK 1 [4] [] (NZ (jK 6 [14] [(3,v_ 0 (yt L cA))] (aB.qD 14 (!(ah O tk).aJ) (λ_=>d6) (λnO=>KB nO (by simp [hg])) (λnO=>jK 6 [20] [(3,v_ 0 (qU L cA))] (NN (cP (((ah O tk).aQ:Int)>(0:Int)) (λlZ=>KB lZ (by omega)) (λlZ=>KX (av.seq (rM (List.range 9) 8 [0,1,2,3] (jR 8 [0,1,24,28] [(3,a_ 1 f),(7,v_ 0 (DG L cA))] (cC.last rfl rfl (aB.I0 2 (d:=none) (t:=170) (K:=3) (E:=175) (b:=m) (n:=ax.length) (f:=(dw (dQ L ax))) (x:=(.tmp 24)) (ix:=(.tmp 28)) (key:=vI ((ah O tk).id)) (kl:=(.int .i64 (ah O tk).id)) (n':=(ax.length-1)) (f':=(dw (dQ L (del (ah O tk).id ax)))) (ats:=#[170,3]) (λ_=>d6) d6 (λ_=>d6) (λ_=>d6) rfl jf Tryz.underlying170 (mr hw) (by rw [kB,fT];rfl) (KO) (NL (aF.np (NX (SR (jK 7 [5,6] [] (NS (jK 1 [34] [] (NF (av.skip (aF.jq [(2,.abs (bM Tryz.prog 3 m (dw (dQ L (del (ah O tk).id ax))) ((del (ah O tk).id ax).length)))] (λw hS=>by rw [show (del (ah O tk).id ax).length=ax.length-1 by omega];exact hS) (RF (.tuple #[]) [0,1,2,3] (⟨rfl,rfl⟩)))))))))))))))))))))))))))
 replace cA:(ah O tk).kind=3:=cA
 replace hg:(ah O tk).aJ=true:=hg
 replace ho:(ah O tk).aQ=0:=ho
 replace fT:aH.get ax (ah O tk).id=some _:=fT
 replace hw:(Lit.int .i64 (ah O tk).id).wf=true:=hw
 have hdl:=tq WY (get_some fT)
 replace EZ:(ah O tk).data.length<=1125899906842624:=EZ
 exact av.region (jK 1 [7] [] (gE [] (iN (L.b tk)) (jK 1 [4] [] (NZ (jK 6 [14] [(3,v_ 0 (yt L cA))] (aB.qD 14 (!(ah O tk).aJ) (λ_=>d6) (λnO=>KB nO (by simp [hg])) (λnO=>jK 6 [20] [(3,v_ 0 (qU L cA))] (NN (cP (((ah O tk).aQ:Int)>(0:Int)) (λlZ=>KB lZ (by omega)) (λlZ=>KX (av.seq (rM (List.range 9) 8 [0,1,2,3] (jR 8 [0,1,24,28] [(3,a_ 1 f),(7,v_ 0 (DG L cA))] (cC.last rfl rfl (aB.I0 2 (d:=none) (t:=170) (K:=3) (E:=175) (b:=m) (n:=ax.length) (f:=(dw (dQ L ax))) (x:=(.tmp 24)) (ix:=(.tmp 28)) (key:=vI ((ah O tk).id)) (kl:=(.int .i64 (ah O tk).id)) (n':=(ax.length-1)) (f':=(dw (dQ L (del (ah O tk).id ax)))) (ats:=#[170,3]) (λ_=>d6) d6 (λ_=>d6) (λ_=>d6) rfl jf Tryz.underlying170 (mr hw) (by rw [kB,fT];rfl) (KO) (NL (aF.np (NX (SR (jK 7 [5,6] [] (NS (jK 1 [34] [] (NF (av.skip (aF.jq [(2,.abs (bM Tryz.prog 3 m (dw (dQ L (del (ah O tk).id ax))) ((del (ah O tk).id ax).length)))] (λw hS=>by rw [show (del (ah O tk).id ax).length=ax.length-1 by omega];exact hS) (RF (.tuple #[]) [0,1,2,3] (⟨rfl,rfl⟩)))))))))))))))))))))))))))
theorem UO {β:Bs} (O:eu) (L:HL) (f:Nat) (th:Th) (cA:(ah O th.k).kind=th.kind) (h3:th.kind=1\/th.kind=2\/th.kind=3) (hg:(ah O th.k).aJ=false\/0<(ah O th.k).aQ) :
 aU Tryz.prog β 230 #[vP f,(jl L th)] [pO O L] (λv l=>v=.tuple #[]/\l=[pO O L]):=by
 refine SE Tryz.func230 Tryz.ntmps230 (λR=>av.seq ?_)
 obtain⟨tk,kd⟩:=th;simp only at cA h3;rcases h3 with rfl|rfl|rfl
 ·replace cA:(ah O tk).kind=1:=cA
  replace hg:(ah O tk).aJ=false\/0<(ah O tk).aQ:=hg
  exact av.region (jK 1 [7] [] (gE [] (iN (L.b tk)) (jK 1 [4] [] (NZ (jK 6 [14] [(3,v_ 0 (yt L cA))] (aB.qD 14 (!(ah O tk).aJ) (λ_=>d6) (λnO=>jK 6 [20] [] (NT (av.ret (aF.br (RT _ [0,1] (⟨rfl,rfl⟩)))))) (λnO=>jK 6 [20] [(3,v_ 0 (qU L cA))] (NN (cP (((ah O tk).aQ:Int)>(0:Int)) (λlZ=>av.ret (aF.br (RT _ [0,1] (⟨rfl,rfl⟩)))) (λlZ=>KB hg (by simp at nO;rw [nO];simp;omega)))))))))))
 ·replace cA:(ah O tk).kind=2:=cA
  replace hg:(ah O tk).aJ=false\/0<(ah O tk).aQ:=hg
  exact av.region (jK 1 [7] [] (gE [] (iN (L.b tk)) (jK 1 [4] [] (NZ (jK 6 [14] [(3,v_ 0 (yt L cA))] (aB.qD 14 (!(ah O tk).aJ) (λ_=>d6) (λnO=>jK 6 [20] [] (NT (av.ret (aF.br (RT _ [0,1] (⟨rfl,rfl⟩)))))) (λnO=>jK 6 [20] [(3,v_ 0 (qU L cA))] (NN (cP (((ah O tk).aQ:Int)>(0:Int)) (λlZ=>av.ret (aF.br (RT _ [0,1] (⟨rfl,rfl⟩)))) (λlZ=>KB hg (by simp at nO;rw [nO];simp;omega)))))))))))
 replace cA:(ah O tk).kind=3:=cA
 replace hg:(ah O tk).aJ=false\/0<(ah O tk).aQ:=hg
 exact av.region (jK 1 [7] [] (gE [] (iN (L.b tk)) (jK 1 [4] [] (NZ (jK 6 [14] [(3,v_ 0 (yt L cA))] (aB.qD 14 (!(ah O tk).aJ) (λ_=>d6) (λnO=>jK 6 [20] [] (NT (av.ret (aF.br (RT _ [0,1] (⟨rfl,rfl⟩)))))) (λnO=>jK 6 [20] [(3,v_ 0 (qU L cA))] (NN (cP (((ah O tk).aQ:Int)>(0:Int)) (λlZ=>av.ret (aF.br (RT _ [0,1] (⟨rfl,rfl⟩)))) (λlZ=>KB hg (by simp at nO;rw [nO];simp;omega)))))))))))
theorem yu {β:Bs} (X:FM) (f m t:Nat) (hX:0<=X.aq/\X.aq<=1048576/\-1125899906842624<=X.used/\X.used<=1125899906842624/\0<=X.last/\X.last<=1125899906842624) (O:eu) (L:HL) (ax:bC Th) (WY:aH.dM (aY ax)) (th:Th) (cA:(ah O th.k).kind=th.kind) (h3:th.kind=1\/th.kind=2\/th.kind=3) (ho:0<=(ah O th.k).aQ) (fT:uh O th->aH.get ax (ah O th.k).id=some th) (hw:(Lit.int .i64 (ah O th.k).id).wf=true) (EZ:(ah O th.k).data.length<=1125899906842624) :
 aU Tryz.prog β 230 #[vP f,(jl L th)] [pO O L,pF f m t X,pI m L ax] (λv l=>v=.tuple #[]/\l=[pO O L,pF f m t {X with used:=oQ O X.used th},pI m L (kg O ax th)]):=by
 unfold oQ kg
 by_cases h:uh O th
 ·rw [t8 h,t8 h]
  exact aad X f m t hX O L ax WY th cA h3 h.1 h.2 (fT h) hw EZ
 rw [nw h,nw h]
 refine (aU.sF (pre:=[pO O L]) (R:=[pF f m t X,pI m L ax]) (λ_ _=>UO O L f th cA h3 ?_)).mono gn
 cases hg:(ah O th.k).aJ with
 |false=>exact .inl rfl
 |true=>exact .inr (by have:¬(ah O th.k).aQ=0:=λe=>h ⟨hg,e⟩;omega)
theorem Rt {β:Bs} (X:FM) (f m t:Nat):aU Tryz.prog β 223 #[vP f] [WX f X m t] (λv l=>v=.bool (decide (X.aq<8192))/\l=[WX f X m t]):=by
 exact SE Tryz.func223 Tryz.ntmps223 (λR=>SR (jK 1 [] [] (NS (jK 6 [2] [(3,a_ 0 f)] (eN ⟨rfl,rfl⟩)))))
theorem y4 {β:Bs} (a b:Int):aU Tryz.prog β 76 #[vI a,vI b] [] (λv l=>v=.bool (decide (0<=a/\a<=b))/\l=[]):=by
 exact SE Tryz.func76 Tryz.ntmps76 (λR=>SR (jK 1 [] [] (NS (jK 3 [7] [] (sP 7 ((a:Int)>=(0:Int)) (λh7=>jK 5 [4] [] (eN (v:=(.bool (decide ((a:Int)<=(b:Int))))) ⟨gn,rfl⟩)) (λh7=>jK 5 [4] [] (eN (v:=(.bool false)) ⟨gn,rfl⟩)))))))
theorem Pq {β:Bs} (X:FM) (f m t:Nat) (L:HL) (ax:bC Th):aU Tryz.prog β 234 #[vP f] [WX f X m t,.abs (bM Tryz.prog 3 m (dw (dQ L ax)) ax.length)] (λv l=>v=.bool (decide ((ax.length:Int)<X.cN/\X.last<1099511627776/\X.aq<8192))/\l=[WX f X m t,.abs (bM Tryz.prog 3 m (dw (dQ L ax)) ax.length)]):=by
 exact SE Tryz.func234 Tryz.ntmps234 (λR=>SR (jK 1 [] [] (NN (av.seq (rQ (jQ 4 [6] [(3,a_ 0 f)] (bJ.Cx 1 (d:=(some 7)) (t:=170) (K:=3) (E:=175) (b:=m) (n:=ax.length) (f:=(dw (dQ L ax))) (x:=(.tmp 6)) (ats:=#[170]) (λ_=>d6) d6 (λ_=>d6) rfl Tryz.underlying170 (jQ 7 [14] [(4,a_ 0 f)] (bJ.xB 14 ((((ax.length:Nat):Int):Int)<(X.cN:Int)) (λ_=>d6) (λnO=>jQ 7 [21] [(3,a_ 0 f)] (bJ.xB 21 ((X.last:Int)<(1099511627776:Int)) (λ_=>d6) (λyQ=>jQ 1 [22] [] (zH [0] [0,1,2] (.bool (decide (X.aq<8192))) (Rt X f m t) (jQ 2 [2] [] (NQ (NX (av.ret (RT (.bool (decide (X.aq<8192))) [0,1,2] (⟨gn,rfl⟩)))))))) (λyQ=>jQ 4 [2] [] (NQ (NX (av.ret (RT (.bool false) [0,1,2] (⟨gn,rfl⟩)))))))) (λnO=>jQ 11 [2] [] (NQ (NX (av.ret (RT (.bool false) [0,1,2] (⟨gn,rfl⟩)))))))))))))))
theorem E0 {β:Bs} (X:FM) (f m t:Nat) (hX:0<=X.aq/\X.aq<=1048576/\-1125899906842624<=X.used/\X.used<=1125899906842624/\0<=X.last/\X.last<=1125899906842624) (mode:Int):aU Tryz.prog β 220 #[vP f,vI mode] [WX f X m t] (λv l=>v=.agg #[vI (X.last+1),vI mode,vI 0,vI 0,vI X.cS,vI X.cZ,vI 0,vI 0,.bool false]/\l=[.aD f [vI (X.cN),vI (X.cB),vI (X.cH),vI (X.cS),vI (X.cZ),.map (some m),vP t,vI (X.last+1),vI (X.aq),vI (X.used)] 173]):=by
 exact SE Tryz.func220 Tryz.ntmps220 (λR=>SR (jB 1 [4] (λb1=>.aD b1 [vI 0,vI 0,vI 0,vI 0,vI 0,vI 0,vI 0,vI 0,.bool false] 183) (λb1=>NS (jC 8 [] [(3,a_ 0 f),(4,wJ (X.last+1) (X.last+1)),(7,a_ 0 f)] [(0,[(7,vI (X.last+1))])] (NN (av.seq (rM (List.range 12) 11 [0,1,2] (jR 11 [4,22] [(3,a_ 0 f),(9,A_ 0 f 2)] (cC.last rfl rfl (jC 1 [] [(0,A_ 2 b1 9)] [(2,[(0,vI (X.last+1)),(1,vI (mode)),(4,vI (X.cS)),(5,vI (X.cZ))])] (NL (aF.np (NX (av.ret (rT _ [A_ 2 b1 9] [0,1] (⟨rfl,rfl⟩))))))))))))))))
theorem uH {β:Bs} (S:aZ) (L:HL) (f m t:Nat) (hI:bB S) (d:Nat) (hd:aS S.ax ⟨d,2⟩) (name:ByteArray) (eV:name.size<=1048576) (th:Th) (fC:bF name (ah S.O d).aq=some th) :
 aU Tryz.prog β 236 #[vP f,vP (L.b d),.string name] [pF f m t S.X,pO S.O L,pE S.O L,pI m L S.ax] (λv l=>v=.tuple #[]/\l=[pF f m t ((bg S d name th).X),pO ((bg S d name th).O) L,pE ((bg S d name th).O) L,pI m L ((bg S d name th).ax)]):=by
 have hX:=hI.hX
 have hel:(ah S.O d).aq.length<=8192:=hI.mw hd
 have eM:(ah S.O d).kind=2:=hI.kind hd
 refine SE Tryz.func236 Tryz.ntmps236 (λR=>av.seq ?_)
 obtain⟨tk,kd⟩:=th;have cY:=(hI.bR hd fC).2;have ah9:=hI.ne hd fC;rcases (hI.ob _ cY).2.2 with e0|e0|e0<;>simp only at e0<;>subst e0
 ·have cA:(ah S.O tk).kind=1:=hI.kind cY
  have hlb:=hI.lb cY;have hid:=hI.ob _ cY;have cD:=hI.OO cY;have hdl:=hI.OQ cY;have xg:=hI.Wz cY
  refine av.region (jK 3 [8,9,10] [] (gE [0,1,2] (o5 S.X f m t hX S.O L d eM name eV ⟨tk,1⟩ cA nh fC (hI.pN hd) d5 (by simp only at hlb ⊢;omega)) (jK 1 [6] [] (NS ?_))))
  have qV:(ah (bn S.X S.O d name ⟨tk,1⟩) d).kind=2:=(fW).trans (eM)
  have uF:(ah (bn S.X S.O d name ⟨tk,1⟩) tk).kind=1:=(fW).trans (cA)
  have E4:(ah (bn S.X S.O d name ⟨tk,1⟩) tk).id=(ah S.O tk).id:=eZ (g:=bV.id) (λ_ _=>rfl) (λ_ _=>rfl) (λ_ _ _=>rfl)
  have E5:(ah (bn S.X S.O d name ⟨tk,1⟩) tk).aQ=(ah S.O tk).aQ:=eZ (g:=bV.aQ) (λ_ _=>rfl) (λ_ _=>rfl) (λ_ _ _=>rfl)
  have E6:(ah (bn S.X S.O d name ⟨tk,1⟩) tk).data=(ah S.O tk).data:=eZ (g:=bV.data) (λ_ _=>rfl) (λ_ _=>rfl) (λ_ _ _=>rfl)
  generalize ij:(bn S.X S.O d name ⟨tk,1⟩)=jP at qV uF E4 E5 E6 ⊢
  refine jK 1 [12] [] (gE [] (iN (L.b tk)) (jK 1 [7] [] (NS (jK 5 [18] [(3,v_ 1 (tE L uF))] (NN (cP (((ah jP tk).aT:Int)=(0:Int)) (λpQ=>SR (jK 3 [21] [] (BG 1 [(2,1)] tk 8 (λo=>{o with aJ:=true}) uF (λjY iq=>?_)))) (λpQ=>av.skip (RF (l:=[pF f m t {S.X with aq:=S.X.aq-1},pO jP L,pE jP L,pI m L S.ax]) (.tuple #[]) [0,1,2,3,4] (⟨rfl,by grind [bg,x5]⟩)))))))))
  have UQ:=ku iq qV
  have EX:=ku iq uF
  have WZ:(ah jY tk).id=(ah S.O tk).id:=fu bV.id iq E4
  have hf6:(ah jY tk).aQ=(ah S.O tk).aQ:=fu bV.aQ iq E5
  have hf7:(ah jY tk).data=(ah S.O tk).data:=fu bV.data iq E6
  exact NN (av.region (jK 2 [22,23] [] (gE [1,0,3] (yu {S.X with aq:=S.X.aq-1} f m t (hI.GV hd fC) jY L S.ax hI.fU ⟨tk,1⟩ EX nh (by rw [hf6];exact cD.1) (λ_=>by rw [WZ,hid.1];exact cY) (by rw [WZ];exact xg) (by rw [hf7];exact hdl)) (NL (RF (l:=[pF f m t {S.X with aq:=S.X.aq-1,used:=oQ jY S.X.used ⟨tk,1⟩},pO jY L,pE jY L,pI m L (kg jY S.ax ⟨tk,1⟩)]) (.tuple #[]) [1,0,3,2,4] (⟨rfl,by subst iq;subst ij;rw [show bg S d name ⟨tk,1⟩=_ from xZ pQ]<;>rfl⟩))))))
 ·have cA:(ah S.O tk).kind=2:=hI.kind cY
  have hlb:=hI.lb cY;have hid:=hI.ob _ cY;have cD:=hI.OO cY;have hdl:=hI.OQ cY;have xg:=hI.Wz cY
  refine av.region (jK 3 [8,9,10] [] (gE [0,1,2] (o5 S.X f m t hX S.O L d eM name eV ⟨tk,2⟩ cA nh fC (hI.pN hd) d5 (by simp only at hlb ⊢;omega)) (jK 1 [6] [] (NS ?_))))
  have aeC:(ah (bn S.X S.O d name ⟨tk,2⟩) d).kind=2:=(fW).trans (eM)
  have K6:(ah (bn S.X S.O d name ⟨tk,2⟩) tk).kind=2:=(fW).trans (cA)
  have E4:(ah (bn S.X S.O d name ⟨tk,2⟩) tk).id=(ah S.O tk).id:=eZ (g:=bV.id) (λ_ _=>rfl) (λ_ _=>rfl) (λ_ _ _=>rfl)
  have E5:(ah (bn S.X S.O d name ⟨tk,2⟩) tk).aQ=(ah S.O tk).aQ:=eZ (g:=bV.aQ) (λ_ _=>rfl) (λ_ _=>rfl) (λ_ _ _=>rfl)
  have E6:(ah (bn S.X S.O d name ⟨tk,2⟩) tk).data=(ah S.O tk).data:=eZ (g:=bV.data) (λ_ _=>rfl) (λ_ _=>rfl) (λ_ _ _=>rfl)
  generalize ij:(bn S.X S.O d name ⟨tk,2⟩)=jP at aeC K6 E4 E5 E6 ⊢
  refine jK 1 [12] [] (gE [] (iN (L.b tk)) (jK 1 [7] [] (NS (jK 5 [18] [(3,v_ 1 (tE L K6))] (NN (cP (((ah jP tk).aT:Int)=(0:Int)) (λpQ=>SR (jK 3 [21] [] (BG 1 [(2,1)] tk 8 (λo=>{o with aJ:=true}) K6 (λjY iq=>?_)))) (λpQ=>av.skip (RF (l:=[pF f m t {S.X with aq:=S.X.aq-1},pO jP L,pE jP L,pI m L S.ax]) (.tuple #[]) [0,1,2,3,4] (⟨rfl,by grind [bg,x5]⟩)))))))))
  have UJ:=ku iq aeC
  have abZ:=ku iq K6
  have aeD:(ah jY tk).id=(ah S.O tk).id:=fu bV.id iq E4
  have ag3:(ah jY tk).aQ=(ah S.O tk).aQ:=fu bV.aQ iq E5
  have ag4:(ah jY tk).data=(ah S.O tk).data:=fu bV.data iq E6
  exact NN (av.region (jK 2 [22,23] [] (gE [1,0,3] (yu {S.X with aq:=S.X.aq-1} f m t (hI.GV hd fC) jY L S.ax hI.fU ⟨tk,2⟩ abZ nh (by rw [ag3];exact cD.1) (λ_=>by rw [aeD,hid.1];exact cY) (by rw [aeD];exact xg) (by rw [ag4];exact hdl)) (NL (RF (l:=[pF f m t {S.X with aq:=S.X.aq-1,used:=oQ jY S.X.used ⟨tk,2⟩},pO jY L,pE jY L,pI m L (kg jY S.ax ⟨tk,2⟩)]) (.tuple #[]) [1,0,3,2,4] (⟨rfl,by subst iq;subst ij;rw [show bg S d name ⟨tk,2⟩=_ from xZ pQ]<;>rfl⟩))))))
 have cA:(ah S.O tk).kind=3:=hI.kind cY
 have hlb:=hI.lb cY;have hid:=hI.ob _ cY;have cD:=hI.OO cY;have hdl:=hI.OQ cY;have xg:=hI.Wz cY
 refine av.region (jK 3 [8,9,10] [] (gE [0,1,2] (o5 S.X f m t hX S.O L d eM name eV ⟨tk,3⟩ cA nh fC (hI.pN hd) d5 (by simp only at hlb ⊢;omega)) (jK 1 [6] [] (NS ?_))))
 have ab4:(ah (bn S.X S.O d name ⟨tk,3⟩) d).kind=2:=(fW).trans (eM)
 have JM:(ah (bn S.X S.O d name ⟨tk,3⟩) tk).kind=3:=(fW).trans (cA)
 have E4:(ah (bn S.X S.O d name ⟨tk,3⟩) tk).id=(ah S.O tk).id:=eZ (g:=bV.id) (λ_ _=>rfl) (λ_ _=>rfl) (λ_ _ _=>rfl)
 have E5:(ah (bn S.X S.O d name ⟨tk,3⟩) tk).aQ=(ah S.O tk).aQ:=eZ (g:=bV.aQ) (λ_ _=>rfl) (λ_ _=>rfl) (λ_ _ _=>rfl)
 have E6:(ah (bn S.X S.O d name ⟨tk,3⟩) tk).data=(ah S.O tk).data:=eZ (g:=bV.data) (λ_ _=>rfl) (λ_ _=>rfl) (λ_ _ _=>rfl)
 generalize ij:(bn S.X S.O d name ⟨tk,3⟩)=jP at ab4 JM E4 E5 E6 ⊢
 refine jK 1 [12] [] (gE [] (iN (L.b tk)) (jK 1 [7] [] (NS (jK 5 [18] [(3,v_ 1 (tE L JM))] (NN (cP (((ah jP tk).aT:Int)=(0:Int)) (λpQ=>SR (jK 3 [21] [] (BG 1 [(2,1)] tk 8 (λo=>{o with aJ:=true}) JM (λjY iq=>?_)))) (λpQ=>av.skip (RF (l:=[pF f m t {S.X with aq:=S.X.aq-1},pO jP L,pE jP L,pI m L S.ax]) (.tuple #[]) [0,1,2,3,4] (⟨rfl,by grind [bg,x5]⟩)))))))))
 have agl:=ku iq ab4
 have JN:=ku iq JM
 have aeE:(ah jY tk).id=(ah S.O tk).id:=fu bV.id iq E4
 have ag5:(ah jY tk).aQ=(ah S.O tk).aQ:=fu bV.aQ iq E5
 have ag6:(ah jY tk).data=(ah S.O tk).data:=fu bV.data iq E6
 exact NN (av.region (jK 2 [22,23] [] (gE [1,0,3] (yu {S.X with aq:=S.X.aq-1} f m t (hI.GV hd fC) jY L S.ax hI.fU ⟨tk,3⟩ JN nh (by rw [ag5];exact cD.1) (λ_=>by rw [aeE,hid.1];exact cY) (by rw [aeE];exact xg) (by rw [ag6];exact hdl)) (NL (RF (l:=[pF f m t {S.X with aq:=S.X.aq-1,used:=oQ jY S.X.used ⟨tk,3⟩},pO jY L,pE jY L,pI m L (kg jY S.ax ⟨tk,3⟩)]) (.tuple #[]) [1,0,3,2,4] (⟨rfl,by subst iq;subst ij;rw [show bg S d name ⟨tk,3⟩=_ from xZ pQ]<;>rfl⟩))))))
theorem E7 {β:Bs} (S:aZ) (L:HL) (f m t:Nat) (hI:bB S) (d:Nat) (hd:aS S.ax ⟨d,2⟩) (name:ByteArray) (eV:name.size<=1048576) :
 aU Tryz.prog β 219 #[vP f,vP (L.b d),.string name] [pF f m t S.X,pI m L S.ax,pE S.O L,pO S.O L] (λv l=>v=vI (iB S.X S.O S.ax d name)/\l=[pF f m t S.X,pI m L S.ax,pE S.O L,pO S.O L]):=by
 have hX:=hI.hX
 have hel:(ah S.O d).aq.length<=8192:=hI.mw hd
 have eM:(ah S.O d).kind=2:=hI.kind hd
 refine SE Tryz.func219 Tryz.ntmps219 (λR=>av.seq ?_)
 rcases hI.vL hd name with fC|⟨tk,fC,cY⟩|⟨tk,fC,cY⟩|⟨tk,fC,cY⟩
 ·exact av.region (jK 1 [] [] (NZ (jK 5 [10,11] [(3,v_ 3 (eE L eM))] (mW 2 eM fC (jK 1 [13] [] (NF (KX (SQ (jK 1 [14] [] (gE [0,1] (Pq S.X f m t L S.ax) (jK 1 [16] [] (NN (cN ((S.ax.length:Int)<S.X.cN/\S.X.last<1099511627776/\S.X.aq<8192) (λpz=>zR ⟨zc (Value.int .i64) (aiL (show iB S.X S.O S.ax d name=_ from (t8 fC).trans (nw pz))),rfl⟩) (λpz=>KX (zR ⟨zc (Value.int .i64) (aiL (show iB S.X S.O S.ax d name=_ from (t8 fC).trans (t8 pz))),rfl⟩)))))))))))))))
 ·have cA:(ah S.O tk).kind=1:=hI.kind cY
  exact av.region (jK 1 [] [] (NZ (jK 5 [10,11] [(3,v_ 3 (eE L eM))] (mW 2 eM fC (jK 1 [13] [] (NT (zR ⟨zc (Value.int .i64) (aiL (show iB S.X S.O S.ax d name=_ from nw (by rw [fC];simp))),rfl⟩)))))))
 ·have cA:(ah S.O tk).kind=2:=hI.kind cY
  exact av.region (jK 1 [] [] (NZ (jK 5 [10,11] [(3,v_ 3 (eE L eM))] (mW 2 eM fC (jK 1 [13] [] (NT (zR ⟨zc (Value.int .i64) (aiL (show iB S.X S.O S.ax d name=_ from nw (by rw [fC];simp))),rfl⟩)))))))
 have cA:(ah S.O tk).kind=3:=hI.kind cY
 exact av.region (jK 1 [] [] (NZ (jK 5 [10,11] [(3,v_ 3 (eE L eM))] (mW 2 eM fC (jK 1 [13] [] (NT (zR ⟨zc (Value.int .i64) (aiL (show iB S.X S.O S.ax d name=_ from nw (by rw [fC];simp))),rfl⟩)))))))
theorem ac7 {β:Bs} (s:ByteArray) (eV:s.size<=1048576) :
 aU Tryz.prog β 235 #[.string s] [] (λv l=>v=vI (lF s)/\l=[]):=by
 refine SE Tryz.func235 Tryz.ntmps235 (λR=>SR (jK 1 [] [] (NN (av.seq (av.block (SR (jK 3 [3] [(1,w_ (.bool (decide ((s:ByteArray)=⟨#[]⟩))) (qH _ _))] (NN (cP ((s:ByteArray)=⟨#[]⟩) (λh3=>zR ⟨zc (Value.int .i64) (aiL (show lF s=_ from t8 h3)),rfl⟩) (λh3=>SR (jK 4 [6] [] (NN (cP (((((s:ByteArray).size:Nat):Int):Int)>(4096:Int)) (λh6=>zR ⟨zc (Value.int .i64) (aiL (show lF s=_ from (nw h3).trans (t8 d5))),rfl⟩) (λh6=>SR (jK 1 [11] [] (gL [] (Rf s) ?_))))))))))))))))
 rintro _ _ ⟨⟨x,rfl,hx⟩,rfl⟩
 exact jK 2 [10] [] (NN (cP ((x:Int)>=(0:Int)) (λh10=>zR ⟨zc (Value.int .i64) (aiL (show lF s=_ from (nw h3).trans ((nw d5).trans (nw (hx.1 d5))))),rfl⟩) (λh10=>KX (zR ⟨zc (Value.int .i64) (aiL (show lF s=_ from (nw h3).trans ((nw d5).trans (t8 (aiy (λhn=>KB (hx.2 hn) d5)))))),rfl⟩))))
theorem Pr {β:Bs} (S:aZ) (L:HL) (f m t:Nat) (th:Th) (cA:(ah S.O th.k).kind=th.kind) (h3:th.kind=1\/th.kind=2\/th.kind=3) (cD:0<=(ah S.O th.k).aQ/\(ah S.O th.k).aQ<=1048576) :
 aU Tryz.prog β 215 #[vP f,(jl L th)] [pF f m t S.X,pT t S.X.cH S.aL L S.us,pO S.O L] (λv l=>v=.tuple #[vI (fD S th).1,vI (fD S th).2.1]/\l=[pF f m t S.X,pT t S.X.cH ((fD S th).2.2.aL) L ((fD S th).2.2.us),pO ((fD S th).2.2.O) L]):=by
 refine SE Tryz.func215 Tryz.ntmps215 (λR=>av.seq ?_)
 obtain⟨tk,kd⟩:=th;simp only at cA h3;rcases Int.lt_or_le (S.us.length:Int) S.X.cH with Pt|Pt<;>rcases h3 with e0|e0|e0<;>subst e0
 ·replace cA:(ah S.O tk).kind=1:=cA
  replace cD:0<=(ah S.O tk).aQ/\(ah S.O tk).aQ<=1048576:=cD
  refine av.region (jK 2 [] [] (NS (jK 5 [12,13] [(3,a_ 0 f)] (gE [1] ((Ij t S.X.cH S.aL (dQ L S.us) (jl L ⟨tk,1⟩) (by rw [wV];exact Pt)).mono (λv l h=>KP h)) (jK 5 [6,7] [] (NZ (jK 2 [18] [] (NT (av.region (jK 1 [19] [] (gE [] (iN (L.b tk)) (jK 6 [24,26] [(2,v_ 2 (qU L cA)),(3,wJ ((ah S.O tk).aQ+1) ((ah S.O tk).aQ+1))] (BG 2 [] tk 7 (λo=>{o with aQ:=o.aQ+1}) cA (λjP ij=>?_))))))))))))))
  have ahR:=ku ij cA
  exact NS (jK 4 [4,5] [] (eN (l:=[pF f m t S.X,pT t S.X.cH (max S.aL ((S.us.length:Int)+1)) L (ins (aH.aR S.us) ⟨tk,1⟩ S.us),pO jP L]) (v:=(.tuple #[vI ((aH.aR S.us)),vI 0])) (by grind [fD,mB]) [1,0,2,3]))
 ·replace cA:(ah S.O tk).kind=2:=cA
  replace cD:0<=(ah S.O tk).aQ/\(ah S.O tk).aQ<=1048576:=cD
  refine av.region (jK 2 [] [] (NS (jK 5 [12,13] [(3,a_ 0 f)] (gE [1] ((Ij t S.X.cH S.aL (dQ L S.us) (jl L ⟨tk,2⟩) (by rw [wV];exact Pt)).mono (λv l h=>KP h)) (jK 5 [6,7] [] (NZ (jK 2 [18] [] (NT (av.region (jK 1 [19] [] (gE [] (iN (L.b tk)) (jK 6 [24,26] [(2,v_ 2 (qU L cA)),(3,wJ ((ah S.O tk).aQ+1) ((ah S.O tk).aQ+1))] (BG 2 [] tk 7 (λo=>{o with aQ:=o.aQ+1}) cA (λjP ij=>?_))))))))))))))
  have ab1:=ku ij cA
  exact NS (jK 4 [4,5] [] (eN (l:=[pF f m t S.X,pT t S.X.cH (max S.aL ((S.us.length:Int)+1)) L (ins (aH.aR S.us) ⟨tk,2⟩ S.us),pO jP L]) (v:=(.tuple #[vI ((aH.aR S.us)),vI 0])) (by grind [fD,mB]) [1,0,2,3]))
 ·replace cA:(ah S.O tk).kind=3:=cA
  replace cD:0<=(ah S.O tk).aQ/\(ah S.O tk).aQ<=1048576:=cD
  refine av.region (jK 2 [] [] (NS (jK 5 [12,13] [(3,a_ 0 f)] (gE [1] ((Ij t S.X.cH S.aL (dQ L S.us) (jl L ⟨tk,3⟩) (by rw [wV];exact Pt)).mono (λv l h=>KP h)) (jK 5 [6,7] [] (NZ (jK 2 [18] [] (NT (av.region (jK 1 [19] [] (gE [] (iN (L.b tk)) (jK 6 [24,26] [(2,v_ 2 (qU L cA)),(3,wJ ((ah S.O tk).aQ+1) ((ah S.O tk).aQ+1))] (BG 2 [] tk 7 (λo=>{o with aQ:=o.aQ+1}) cA (λjP ij=>?_))))))))))))))
  have Ny:=ku ij cA
  exact NS (jK 4 [4,5] [] (eN (l:=[pF f m t S.X,pT t S.X.cH (max S.aL ((S.us.length:Int)+1)) L (ins (aH.aR S.us) ⟨tk,3⟩ S.us),pO jP L]) (v:=(.tuple #[vI ((aH.aR S.us)),vI 0])) (by grind [fD,mB]) [1,0,2,3]))
 ·replace cA:(ah S.O tk).kind=1:=cA
  replace cD:0<=(ah S.O tk).aQ/\(ah S.O tk).aQ<=1048576:=cD
  exact av.region (jK 2 [] [] (NS (jK 5 [12,13] [(3,a_ 0 f)] (gE [1] (EO t S.X.cH S.aL (dQ L S.us) (jl L ⟨tk,1⟩) (by rw [wV];exact Pt)) (jK 5 [6,7] [] (NZ (jK 2 [18] [] (NF (KX (zR (by skip;rw [show fD S ⟨tk,1⟩=_ from om d5]<;>exact⟨rfl,rfl⟩) [1,0,2,3]))))))))))
 ·replace cA:(ah S.O tk).kind=2:=cA
  replace cD:0<=(ah S.O tk).aQ/\(ah S.O tk).aQ<=1048576:=cD
  exact av.region (jK 2 [] [] (NS (jK 5 [12,13] [(3,a_ 0 f)] (gE [1] (EO t S.X.cH S.aL (dQ L S.us) (jl L ⟨tk,2⟩) (by rw [wV];exact Pt)) (jK 5 [6,7] [] (NZ (jK 2 [18] [] (NF (KX (zR (by skip;rw [show fD S ⟨tk,2⟩=_ from om d5]<;>exact⟨rfl,rfl⟩) [1,0,2,3]))))))))))
 replace cA:(ah S.O tk).kind=3:=cA
 replace cD:0<=(ah S.O tk).aQ/\(ah S.O tk).aQ<=1048576:=cD
 exact av.region (jK 2 [] [] (NS (jK 5 [12,13] [(3,a_ 0 f)] (gE [1] (EO t S.X.cH S.aL (dQ L S.us) (jl L ⟨tk,3⟩) (by rw [wV];exact Pt)) (jK 5 [6,7] [] (NZ (jK 2 [18] [] (NF (KX (zR (by skip;rw [show fD S ⟨tk,3⟩=_ from om d5]<;>exact⟨rfl,rfl⟩) [1,0,2,3]))))))))))
theorem BI {β:Bs} (S:aZ) (L:HL) (f m t:Nat) (hI:bB S) (h:Int) (hw:(Lit.int .i64 h).wf=true) (name:ByteArray) (eV:name.size<=1048576) (fH:Int) :
 aU Tryz.prog β 217 #[vP f,vI (h),.string name,vI (fH)] [pF f m t S.X,pT t S.X.cH S.aL L S.us,pO S.O L] (λv l=>v=agU L (ic S.O S.us h name fH)/\l=[pF f m t S.X,pT t S.X.cH S.aL L S.us,pO S.O L]):=by
 refine SE Tryz.func217 Tryz.ntmps217 (λR=>av.seq ?_)
 rcases hI.hand h with qW|⟨tk,qW,cY⟩|⟨tk,qW,cY⟩
 ·exact av.region (jK 2 [] [] (NS (jK 5 [18,19] [(3,a_ 0 f)] (gE [1] (Mb t S.X.cH S.aL (dQ L S.us) h hw (Ip qW)) (jK 5 [10,11] [] (NZ (jK 2 [24] [] (NT (zR (v:=(.tuple #[.pointer none,vI 131])) ⟨by rw [show ic S.O S.us h name fH=.error 131 by unfold ic;rw [qW]];rfl,rfl⟩ [1,0,2,3])))))))))
 ·have cA:(ah S.O tk).kind=1:=hI.kind cY
  exact av.region (jK 2 [] [] (NS (jK 5 [18,19] [(3,a_ 0 f)] (gE [1] (Ii t S.X.cH S.aL (dQ L S.us) h hw (jl L ⟨tk,1⟩) (Dw qW)) (jK 5 [10,11] [] (NZ (jK 2 [24] [] (NF (KX (SR (jK 7 [12,13] [] (NN (av.seq (av.block (SR (jK 3 [31] [] (NT (zR (v:=(.tuple #[.pointer none,vI 173])) ⟨by rw [show ic S.O S.us h name fH=.error 173 by grind [ic]];rfl,rfl⟩ [1,0,2,3]))))))))))))))))))
 have cA:(ah S.O tk).kind=2:=hI.kind cY
 exact av.region (jK 2 [] [] (NS (jK 5 [18,19] [(3,a_ 0 f)] (gE [1] (Ii t S.X.cH S.aL (dQ L S.us) h hw (jl L ⟨tk,2⟩) (Dw qW)) (jK 5 [10,11] [] (NZ (jK 2 [24] [] (NF (KX (SR (jK 7 [12,13] [] (NN (av.seq (av.block (SR (jK 3 [31] [] (NF (SR (jK 6 [34] [(4,v_ 2 (yt L cA))] (NN (av.cond (b:=(ah S.O tk).aJ) (λ_=>d6) (λxU=>zR (v:=(.tuple #[.pointer none,vI 170])) ⟨by rw [show ic S.O S.us h name fH=.error 170 by grind [ic]];rfl,rfl⟩ [1,0,2,3]) (λxU=>SR (jK 1 [41] [] (gE [] (zP name eV) (jK 2 [40] [] (NN (cN (bW name) (λtT=>zR (v:=(.tuple #[.pointer none,vI 95])) ⟨by rw [show ic S.O S.us h name fH=.error 95 by grind [ic]];rfl,rfl⟩ [1,0,2,3]) (λtT=>SR (jK 10 [44] [(4,v_ 2 (JJ L cA))] (NN (cN ((bits BinOp.and .i64 ((ah S.O tk).mode) fH:Int)=(fH:Int)) (λzQ=>zR (v:=(.tuple #[.pointer none,vI 175])) ⟨by rw [show ic S.O S.us h name fH=.error 175 by grind [ic]];rfl,rfl⟩ [1,0,2,3]) (λzQ=>KX (zR (v:=(.tuple #[vP (L.b tk),vI 0])) ⟨by rw [show ic S.O S.us h name fH=.ok tk by grind [ic]];rfl,rfl⟩ [1,0,2,3])))))))))))))))))))))))))))))))))
theorem ac8 {β:Bs} (X:FM) (f m t:Nat) (hX:0<=X.aq/\X.aq<=1048576/\-1125899906842624<=X.used/\X.used<=1125899906842624/\0<=X.last/\X.last<=1125899906842624) (O:eu) (L:HL) (d:Nat) (eM:(ah O d).kind=2) (name:ByteArray) (eV:name.size<=1048576) (jD:bF name (ah O d).aq=none) (hel:(ah O d).aq.length<=1048576) (ax:bC Th) (hil:ax.length<=1048576) (th:Th) (cA:(ah O th.k).kind=th.kind) (h3:th.kind=1\/th.kind=2\/th.kind=3) (hb:0<=(ah O th.k).aT/\(ah O th.k).aT<=1048576) (hni:aH.get ax (ah O th.k).id=none) (hw:(Lit.int .i64 (ah O th.k).id).wf=true) :
 aU Tryz.prog β 221 #[vP f,vP (L.b d),.string name,(jl L th)] [pF f m t X,pI m L ax,pO O L,pE O L] (λv l=>v=.tuple #[]/\l=[pF f m t {X with aq:=X.aq+1},pI m L (ins (ah O th.k).id th ax),pO (dV X O d name th) L,pE (dV X O d name th) L]):=by
 refine SE Tryz.func221 Tryz.ntmps221 (λR=>av.seq ?_)
 obtain⟨tk,kd⟩:=th;simp only at cA h3;rcases h3 with rfl|rfl|rfl
 ·replace cA:(ah O tk).kind=1:=cA
  replace hni:aH.get ax (ah O tk).id=none:=hni
  replace hw:(Lit.int .i64 (ah O tk).id).wf=true:=hw
  refine rM [0,1,2,3,4,9,5,6,7,8,10] 6 [0,1,2,3,4] (jR 6 [0,1,2,3,11,12,17] [(3,a_ 0 f)] (mL [0,1,2,3,4] [] (iN (L.b tk)) ?_ (by rintro _ _ ⟨rfl,rfl⟩;rfl)))
  rintro _ _ ⟨rfl,rfl⟩
  exact nC [0,1,2,3,4] [14] [] [] (nC [0,1,2,3,4] [15] [] [] (nC [0,1,2,3,4] [16] [(0,v_ 2 (DG L cA))] [] (cC.last rfl rfl (aB.qI 1 (d:=none) (t:=170) (K:=3) (E:=175) (b:=m) (n:=ax.length) (f:=(dw (dQ L ax))) (x:=(.tmp 11)) (ix:=(.tmp 16)) (y:=(.tmp 17)) (key:=vI ((ah O tk).id)) (u:=.iface 184 (vP (L.b tk))) (kl:=(.int .i64 (ah O tk).id)) (n':=(ax.length+1)) (f':=(dw (dQ L (ins (ah O tk).id ⟨tk,1⟩ ax)))) (λ_=>d6) d6 (λ_=>d6) (λ_=>d6) (λ_=>d6) jf Tryz.underlying170 (by unfold maxLen;omega) (mr hw) (by rw [kB,hni];rfl) (ze (L:=L) (t:=⟨tk,1⟩) hni) (NL (aF.np (NX (av.region (jK 4 [18,19,20,21] [] (gE [0,2,3] (oZ X f m t hX O L d eM name eV jD hel ⟨tk,1⟩ cA nh hb) (NL (aF.jq [(3,.abs (bM Tryz.prog 3 m (dw (dQ L (ins (ah O tk).id ⟨tk,1⟩ ax))) ((ins (ah O tk).id ⟨tk,1⟩ ax).length)))] (λw hS=>by rw [show (ins (ah O tk).id ⟨tk,1⟩ ax).length=ax.length+1 from kR _ _ _];exact hS) (RF (.tuple #[]) [0,3,1,2,4] (⟨rfl,rfl⟩))))))))))))))
 ·replace cA:(ah O tk).kind=2:=cA
  replace hni:aH.get ax (ah O tk).id=none:=hni
  replace hw:(Lit.int .i64 (ah O tk).id).wf=true:=hw
  refine rM [0,1,2,3,4,9,5,6,7,8,10] 6 [0,1,2,3,4] (jR 6 [0,1,2,3,11,12,17] [(3,a_ 0 f)] (mL [0,1,2,3,4] [] (iN (L.b tk)) ?_ (by rintro _ _ ⟨rfl,rfl⟩;rfl)))
  rintro _ _ ⟨rfl,rfl⟩
  exact nC [0,1,2,3,4] [14] [] [] (nC [0,1,2,3,4] [15] [] [] (nC [0,1,2,3,4] [16] [(0,v_ 2 (DG L cA))] [] (cC.last rfl rfl (aB.qI 1 (d:=none) (t:=170) (K:=3) (E:=175) (b:=m) (n:=ax.length) (f:=(dw (dQ L ax))) (x:=(.tmp 11)) (ix:=(.tmp 16)) (y:=(.tmp 17)) (key:=vI ((ah O tk).id)) (u:=.iface 190 (vP (L.b tk))) (kl:=(.int .i64 (ah O tk).id)) (n':=(ax.length+1)) (f':=(dw (dQ L (ins (ah O tk).id ⟨tk,2⟩ ax)))) (λ_=>d6) d6 (λ_=>d6) (λ_=>d6) (λ_=>d6) jf Tryz.underlying170 (by unfold maxLen;omega) (mr hw) (by rw [kB,hni];rfl) (ze (L:=L) (t:=⟨tk,2⟩) hni) (NL (aF.np (NX (av.region (jK 4 [18,19,20,21] [] (gE [0,2,3] (oZ X f m t hX O L d eM name eV jD hel ⟨tk,2⟩ cA nh hb) (NL (aF.jq [(3,.abs (bM Tryz.prog 3 m (dw (dQ L (ins (ah O tk).id ⟨tk,2⟩ ax))) ((ins (ah O tk).id ⟨tk,2⟩ ax).length)))] (λw hS=>by rw [show (ins (ah O tk).id ⟨tk,2⟩ ax).length=ax.length+1 from kR _ _ _];exact hS) (RF (.tuple #[]) [0,3,1,2,4] (⟨rfl,rfl⟩))))))))))))))
 replace cA:(ah O tk).kind=3:=cA
 replace hni:aH.get ax (ah O tk).id=none:=hni
 replace hw:(Lit.int .i64 (ah O tk).id).wf=true:=hw
 refine rM [0,1,2,3,4,9,5,6,7,8,10] 6 [0,1,2,3,4] (jR 6 [0,1,2,3,11,12,17] [(3,a_ 0 f)] (mL [0,1,2,3,4] [] (iN (L.b tk)) ?_ (by rintro _ _ ⟨rfl,rfl⟩;rfl)))
 rintro _ _ ⟨rfl,rfl⟩
 exact nC [0,1,2,3,4] [14] [] [] (nC [0,1,2,3,4] [15] [] [] (nC [0,1,2,3,4] [16] [(0,v_ 2 (DG L cA))] [] (cC.last rfl rfl (aB.qI 1 (d:=none) (t:=170) (K:=3) (E:=175) (b:=m) (n:=ax.length) (f:=(dw (dQ L ax))) (x:=(.tmp 11)) (ix:=(.tmp 16)) (y:=(.tmp 17)) (key:=vI ((ah O tk).id)) (u:=.iface 187 (vP (L.b tk))) (kl:=(.int .i64 (ah O tk).id)) (n':=(ax.length+1)) (f':=(dw (dQ L (ins (ah O tk).id ⟨tk,3⟩ ax)))) (λ_=>d6) d6 (λ_=>d6) (λ_=>d6) (λ_=>d6) jf Tryz.underlying170 (by unfold maxLen;omega) (mr hw) (by rw [kB,hni];rfl) (ze (L:=L) (t:=⟨tk,3⟩) hni) (NL (aF.np (NX (av.region (jK 4 [18,19,20,21] [] (gE [0,2,3] (oZ X f m t hX O L d eM name eV jD hel ⟨tk,3⟩ cA nh hb) (NL (aF.jq [(3,.abs (bM Tryz.prog 3 m (dw (dQ L (ins (ah O tk).id ⟨tk,3⟩ ax))) ((ins (ah O tk).id ⟨tk,3⟩ ax).length)))] (λw hS=>by rw [show (ins (ah O tk).id ⟨tk,3⟩ ax).length=ax.length+1 from kR _ _ _];exact hS) (RF (.tuple #[]) [0,3,1,2,4] (⟨rfl,rfl⟩))))))))))))))
end
section
open Go.RowKit Go.Maps bw aH
attribute [local irreducible] aB bJ av aF
theorem DI {β:Bs} (S:aZ) (L:HL) (f m t:Nat) (hI:Inv0 S) (d:Nat) (hd:aS S.ax ⟨d,2⟩) (name:ByteArray) (eV:name.size<=1048576) (jD:bF name (ah S.O d).aq=none) (o:bV) (hid:o.id=S.X.last+1) (hk3:o.kind=1\/o.kind=2\/o.kind=3) (hl0:o.aT=0) (hlast:S.X.last<1099511627776) :
 aU Tryz.prog β 221 #[vP f,vP (L.b d),.string name,jl L ⟨(dx S.X),o.kind⟩] [pF f m t {S.X with last:=S.X.last+1},pI m L S.ax,pO (bD S.O (dx S.X) (λ_=>o)) L,pE (bD S.O (dx S.X) (λ_=>o)) L] (λv l=>v=.tuple #[]/\l=[pF f m t ((iw S d name o).X),pI m L ((iw S d name o).ax),pO ((iw S d name o).O) L,pE ((iw S d name o).O) L]):=by
 have hX:=hI.hX
 have cF:d≠(dx S.X):=hI.EQ hd
 have eM:(ah S.O d).kind=2:=hI.kind hd
 have hel:(ah S.O d).aq.length<=8192:=hI.mw hd
 have jX:=hI.len
 have e1:ah (bD S.O (dx S.X) (λ_=>o)) (dx S.X)=o:=iF
 have e2:ah (bD S.O (dx S.X) (λ_=>o)) d=ah S.O d:=jk cF
 have hnk:=tv hI
 have h:=ac8 (β:=β) {S.X with last:=S.X.last+1} f m t (by simp only;omega) (bD S.O (dx S.X) (λ_=>o)) L d (by rw [e2];exact eM) name eV (by rw [e2];exact jD) (by rw [e2];omega) S.ax d5 ⟨(dx S.X),o.kind⟩ (by rw [e1]) hk3 (by rw [e1,hl0];decide) (by
  rw [e1,hid]
  cases e:aH.get S.ax (S.X.last+1) with
  |none=>rfl
  |some u=>have:=(hI.ax _ u e).2.2;omega) (by rw [e1,hid];exact WalkArith.wf_i64 (by have:=hI.last;omega))
 rw [e1,hid] at h
 exact h
theorem Mp {β:Bs} (S:aZ) (L:HL) (f m t:Nat) (hI:bB S) (d:Nat) (hd:aS S.ax ⟨d,2⟩) (name:ByteArray) (eV:name.size<=1048576) (mode:Int) :
 aU Tryz.prog β 218 #[vP f,vP (L.b d),.string name,vI (mode)] (pA f m t L S) (λv l=>∃L2,v=vI (lP S d name mode).1/\l=(pA f m t L2 ((lP S d name mode).2))):=by
 have hX:=hI.hX
 have hel:(ah S.O d).aq.length<=8192:=hI.mw hd
 have eM:(ah S.O d).kind=2:=hI.kind hd
 refine SE Tryz.func218 Tryz.ntmps218 (λR=>SR (jK 1 [] [] (NS (jK 3 [10,11,12] [] (gE [0,1,5,3] (E7 S L f m t hI d hd name eV) (jK 1 [9] [] (NZ (jK 2 [15] [] (NN (cP (((iB S.X S.O S.ax d name):Int)=(0:Int)) (λh0=>?_) (λh0=>KX (zR ⟨L,by rw [show lP S d name mode=_ from nw h0]<;>exact⟨rfl,rfl⟩⟩ [0,1,4,3,5,2,6]))))))))))))
 have jD:=x7 h0
 refine av.region (jK 5 [16,17,18,19,20] [] (gE [0] (E0 S.X f m t hX mode) (aB.sX (d:=(some 22)) (t:=195) (λ_=>d6) Tryz.prog rfl 9 (λm1=>jB 3 [25] (λb2=>.aD b2 [vI (S.X.last+1),vI (mode),vI 0,vI 0,vI (S.X.cS),vI (S.X.cZ),vI 0,vI 0,.bool false,.map (some m1),.pointer none] 197) (λb2=>?_)))))
 obtain⟨L2,jE⟩:∃L2:HL,L2=L.put (dx S.X) b2 m1 none 0:=⟨_,rfl⟩
 have hfr:=hI.toInv0.fresh
 exact aB.mem (λw hS=>hS.Ge jE hfr (o:=(dN S.X 2 mode)) (i:=3) (j:=8) (ix:=[0,1,2,4,5,6,7]) rfl rfl d6 rfl (by show (2:Int)≠0;decide) ((uy (L:=L2) (k:=(dx S.X)) (o:=(dN S.X 2 mode)) rfl).trans (by rw [OV jE];rfl)) rfl) (aB.mem (λw hS=>hS.abS jE hfr (o:=(dN S.X 2 mode)) (i:=3) (j:=7) (ix:=[0,1,2,4,5,6]) rfl rfl d6 rfl rfl rfl) (aB.jq [(5,pD (bD S.O (dx S.X) (λ_=>(dN S.X 2 mode))) L2)] (λw hS=>hS.Jy jE (o:=(dN S.X 2 mode)) (i:=5) rfl (by show (2:Int)≠1;decide)) (aB.jq [(3,.abs (bM Tryz.prog 3 m (dw (dQ L2 S.ax)) S.ax.length)),(4,.abs (iP 233 t S.X.cH S.aL (dQ L2 S.us)))] (λw hS=>by rw [pY jE hfr.ax,pY jE hfr.us];exact hS) (gE [2,3,1,0] ((by have h:=DI (β:=β) S L2 f m t hI.toInv0 d hd name eV jD (dN S.X 2 mode) rfl (by simp [dN]) rfl (Cq h0);rw [Gd jE (hI.EQ hd),zf jE] at h;exact h)) (NS (aB.jq [(5,.abs (bp (eY ((iw S d name (dN S.X 2 mode)).O) L2)))] (λw hS=>by rw [show eY ((iw S d name (dN S.X 2 mode)).O) L2=eY (bD S.O (dx S.X) (λ_=>(dN S.X 2 mode))) L2 from oW];exact hS) (jK 2 [8] [] (eN ⟨L2,by rw [show lP S d name mode=_ from t8 h0];refine⟨zc _ h0,?_⟩;rfl⟩ [0,1,4,2,5,3,6]))))))))
theorem Ru {β:Bs} (S:aZ) (L:HL) (f m t:Nat) (hI:bB S) (d:Nat) (hd:aS S.ax ⟨d,2⟩) (name:ByteArray) (eV:name.size<=1048576) (text:ByteArray) (htz:text.size<=1048576) :
 aU Tryz.prog β 222 #[vP f,vP (L.b d),.string name,.string text] (pA f m t L S) (λv l=>∃L2,v=vI (j4 S d name text).1/\l=(pA f m t L2 ((j4 S d name text).2))):=by
 have hX:=hI.hX
 have hel:(ah S.O d).aq.length<=8192:=hI.mw hd
 have eM:(ah S.O d).kind=2:=hI.kind hd
 refine SE Tryz.func222 Tryz.ntmps222 (λR=>SR (jK 1 [] [] (NS (jK 1 [10] [] (gE [] (ac7 text htz) (jK 1 [9] [] (NZ (jK 2 [13] [] (NN (cP (((lF text):Int)=(0:Int)) (λhb=>av.region (jK 3 [14,15,16] [] (gE [0,1,5,3] (E7 S L f m t hI d hd name eV) (jK 1 [9] [] (NZ (jK 2 [19] [] (NN (cP (((iB S.X S.O S.ax d name):Int)=(0:Int)) (λh0=>?_) (λh0=>KX (zR ⟨L,by rw [show j4 S d name text=_ from (t8 hb).trans (nw h0)]<;>exact⟨rfl,rfl⟩⟩ [0,1,4,3,5,2,6])))))))))) (λhb=>KX (SQ (jK 2 [19] [] (NN (cP (((lF text):Int)=(0:Int)) (λh0=>KB h0 hb) (λh0=>KX (zR ⟨L,by rw [show j4 S d name text=_ from nw hb]<;>exact⟨rfl,rfl⟩⟩)))))))))))))))))
 have jD:=x7 h0
 refine av.region (jK 4 [20,21,22,23] [] (gE [0] (E0 S.X f m t hX 511) (jB 4 [28] (λb3=>.aD b3 [vI (S.X.last+1),vI (511),vI 0,vI 0,vI (S.X.cS),vI (S.X.cZ),vI 0,vI 0,.bool false,.string text] 189) (λb3=>?_))))
 obtain⟨L2,jE⟩:∃L2:HL,L2=L.put (dx S.X) b3 0 none 0:=⟨_,rfl⟩
 have hfr:=hI.toInv0.fresh
 exact aB.mem (λw hS=>hS.Ge jE hfr (o:={dN S.X 3 511 with target:=text}) (i:=3) (j:=7) (ix:=[0,1,2,4,5,6]) rfl rfl d6 rfl (by show (3:Int)≠0;decide) ((EJ (L:=L2) (k:=(dx S.X)) (o:={dN S.X 3 511 with target:=text}) rfl).trans iu) rfl) (aB.jq [(3,pE (bD S.O (dx S.X) (λ_=>{dN S.X 3 511 with target:=text})) L2)] (λw hS=>hS.Jx jE hfr (o:={dN S.X 3 511 with target:=text}) (i:=3) rfl (by show (3:Int)≠2;decide)) (aB.jq [(5,pD (bD S.O (dx S.X) (λ_=>{dN S.X 3 511 with target:=text})) L2)] (λw hS=>hS.Jy jE (o:={dN S.X 3 511 with target:=text}) (i:=5) rfl (by show (3:Int)≠1;decide)) (aB.jq [(2,.abs (bM Tryz.prog 3 m (dw (dQ L2 S.ax)) S.ax.length)),(4,.abs (iP 233 t S.X.cH S.aL (dQ L2 S.us)))] (λw hS=>by rw [pY jE hfr.ax,pY jE hfr.us];exact hS) (gE [1,2,0,3] ((by have h:=DI (β:=β) S L2 f m t hI.toInv0 d hd name eV jD {dN S.X 3 511 with target:=text} rfl (by simp [dN]) rfl (Cq h0);rw [Gd jE (hI.EQ hd),zf jE] at h;exact h)) (NS (aB.jq [(5,.abs (bp (eY ((iw S d name {dN S.X 3 511 with target:=text}).O) L2)))] (λw hS=>by rw [show eY ((iw S d name {dN S.X 3 511 with target:=text}).O) L2=eY (bD S.O (dx S.X) (λ_=>{dN S.X 3 511 with target:=text})) L2 from oW];exact hS) (jK 2 [8] [] (eN ⟨L2,by rw [show j4 S d name text=_ from (t8 hb).trans (t8 h0)];refine⟨zc _ h0,?_⟩;rfl⟩ [0,1,4,2,5,3,6]))))))))
theorem UR {β:Bs} (S:aZ) (L:HL) (f m t:Nat) (hI:bB S) (d:Nat) (hd:aS S.ax ⟨d,2⟩) (name:ByteArray) (eV:name.size<=1048576) :
 aU Tryz.prog β 225 #[vP f,vP (L.b d),.string name] (pA f m t L S) (λv l=>∃L2,v=vI (iW S d name).1/\l=(pA f m t L2 ((iW S d name).2))):=by
 have hX:=hI.hX
 have hel:(ah S.O d).aq.length<=8192:=hI.mw hd
 have eM:(ah S.O d).kind=2:=hI.kind hd
 refine SE Tryz.func225 Tryz.ntmps225 (λR=>av.seq ?_)
 rcases hI.vL hd name with fC|⟨tk,fC,cY⟩|⟨tk,fC,cY⟩|⟨tk,fC,cY⟩
 ·exact av.region (jK 1 [] [] (NZ (jK 5 [10,11] [(3,v_ 3 (eE L eM))] (mW 5 eM fC (NN (av.block (SR (jK 1 [13] [] (NT (zR ⟨L,by rw [show iW S d name=(170,S) by unfold iW;rw [fC]]<;>exact⟨rfl,rfl⟩⟩))))))))))
 ·have cA:(ah S.O tk).kind=1:=hI.kind cY
  exact av.region (jK 1 [] [] (NZ (jK 5 [10,11] [(3,v_ 3 (eE L eM))] (mW 5 eM fC (NN (av.block (SR (jK 1 [13] [] (NF (SR (jK 3 [15] [] (NF (KX (SR (jK 3 [17,18,19] [] (gE [0,3,5,1] (uH S L f m t hI d hd name eV ⟨tk,1⟩ fC) (NS (aB.jq [(5,.abs (bp (eY ((bg S d name ⟨tk,1⟩).O) L)))] (λw hS=>by rw [show eY ((bg S d name ⟨tk,1⟩).O) L=eY S.O L from uE];exact hS) (jK 1 [6] [] (eN ⟨L,by rw [show iW S d name=(0,bg S d name ⟨tk,1⟩) by grind [iW]]<;>exact⟨rfl,rfl⟩⟩ [0,3,4,1,5,2,6]))))))))))))))))))))
 ·have cA:(ah S.O tk).kind=2:=hI.kind cY
  exact av.region (jK 1 [] [] (NZ (jK 5 [10,11] [(3,v_ 3 (eE L eM))] (mW 5 eM fC (NN (av.block (SR (jK 1 [13] [] (NF (SR (jK 3 [15] [] (NT (zR ⟨L,by rw [show iW S d name=(172,S) by grind [iW]]<;>exact⟨rfl,rfl⟩⟩)))))))))))))
 have cA:(ah S.O tk).kind=3:=hI.kind cY
 exact av.region (jK 1 [] [] (NZ (jK 5 [10,11] [(3,v_ 3 (eE L eM))] (mW 5 eM fC (NN (av.block (SR (jK 1 [13] [] (NF (SR (jK 3 [15] [] (NF (KX (SR (jK 3 [17,18,19] [] (gE [0,3,5,1] (uH S L f m t hI d hd name eV ⟨tk,3⟩ fC) (NS (aB.jq [(5,.abs (bp (eY ((bg S d name ⟨tk,3⟩).O) L)))] (λw hS=>by rw [show eY ((bg S d name ⟨tk,3⟩).O) L=eY S.O L from uE];exact hS) (jK 1 [6] [] (eN ⟨L,by rw [show iW S d name=(0,bg S d name ⟨tk,3⟩) by grind [iW]]<;>exact⟨rfl,rfl⟩⟩ [0,3,4,1,5,2,6]))))))))))))))))))))
theorem W4 {β:Bs} (S:aZ) (L:HL) (f m t:Nat) (hI:bB S) (d:Nat) (hd:aS S.ax ⟨d,2⟩) (name:ByteArray) (eV:name.size<=1048576) :
 aU Tryz.prog β 231 #[vP f,vP (L.b d),.string name] (pA f m t L S) (λv l=>∃L2,v=vI (jt S d name).1/\l=(pA f m t L2 ((jt S d name).2))):=by
 have hX:=hI.hX
 have hel:(ah S.O d).aq.length<=8192:=hI.mw hd
 have eM:(ah S.O d).kind=2:=hI.kind hd
 refine SE Tryz.func231 Tryz.ntmps231 (λR=>av.seq ?_)
 rcases hI.vL hd name with fC|⟨tk,fC,cY⟩|⟨tk,fC,cY⟩|⟨tk,fC,cY⟩
 ·exact av.region (jK 1 [] [] (NS (jK 5 [13,14] [(3,v_ 3 (eE L eM))] (mW 5 eM fC (jK 1 [7] [] (NZ (jK 2 [17] [] (NT (zR (v:=(vI 170)) ⟨L,by skip;rw [show jt S d name=(170,S) by unfold jt;rw [fC]]<;>exact⟨rfl,rfl⟩⟩)))))))))
 ·have cA:(ah S.O tk).kind=1:=hI.kind cY
  exact av.region (jK 1 [] [] (NS (jK 5 [13,14] [(3,v_ 3 (eE L eM))] (mW 5 eM fC (jK 1 [7] [] (NZ (jK 2 [17] [] (NF (KX (SR (jK 7 [8,9] [] (NZ (jK 2 [24] [] (NT (zR (v:=(vI 173)) ⟨L,by skip;rw [show jt S d name=(173,S) by grind [jt]]<;>exact⟨rfl,rfl⟩⟩)))))))))))))))
 ·have cA:(ah S.O tk).kind=2:=hI.kind cY
  have aia:(ah S.O tk).aq.length<=8192:=hI.mw cY
  refine av.region (jK 1 [] [] (NS (jK 5 [13,14] [(3,v_ 3 (eE L eM))] (mW 5 eM fC (jK 1 [7] [] (NZ (jK 2 [17] [] (NF (KX (SR (jK 7 [8,9] [] (NZ (jK 2 [24] [] (NF (KX (SQ (jK 4 [28] [(3,v_ 3 (eE L cA))] (eNk 5 cA (jK 1 [30] [] (NN (cP (((((ah S.O tk).aq.length:Nat):Int):Int)>(0:Int)) (λrF=>zR (v:=(vI 178)) ⟨L,by skip;rw [show jt S d name=(178,S) by grind [jt,ah]]<;>exact⟨rfl,rfl⟩⟩) (λrF=>KX (SR (jK 3 [31,32,33] [] (gE [0,3,5,1] (uH S L f m t hI d hd name eV ⟨tk,2⟩ fC) (NS (aB.jq [(5,.abs (bp (eY ((bg S d name ⟨tk,2⟩).O) L)))] (λw hS=>by rw [show eY ((bg S d name ⟨tk,2⟩).O) L=eY S.O L from uE];exact hS) ?_)))))))))))))))))))))))))))
  have EX:(ah (bg S d name ⟨tk,2⟩).O d).kind=2:=(Jw).trans (eM)
  have UH:(ah (bg S d name ⟨tk,2⟩).O tk).kind=2:=(Jw).trans (cA)
  generalize ij:(bg S d name ⟨tk,2⟩).O=jP at EX UH ⊢
  refine jK 3 [37] [] (uSt 1 [(2,1),(5,2)] tk (none) UH (λjY iq=>?_))
  have aeB:=ku iq EX
  have UI:=ku iq UH
  exact NS (jK 1 [6] [] (eN (l:=[pF f m t ((bg S d name ⟨tk,2⟩).X),pI m L ((bg S d name ⟨tk,2⟩).ax),pT t S.X.cH S.aL L S.us,pO jY L,pD jY L,pE jY L]) (v:=(vI 0)) ⟨L,by subst iq;subst ij;rw [show jt S d name=(0,{bg S d name ⟨tk,2⟩ with O:=jr (bg S d name ⟨tk,2⟩).O tk}) by unfold jt;rw [fC];exact (t8 rfl).trans (t8 (aiK gn))]<;>exact⟨rfl,rfl⟩⟩ [0,3,4,1,5,2,6]))
 have cA:(ah S.O tk).kind=3:=hI.kind cY
 exact av.region (jK 1 [] [] (NS (jK 5 [13,14] [(3,v_ 3 (eE L eM))] (mW 5 eM fC (jK 1 [7] [] (NZ (jK 2 [17] [] (NF (KX (SR (jK 7 [8,9] [] (NZ (jK 2 [24] [] (NT (zR (v:=(vI 173)) ⟨L,by skip;rw [show jt S d name=(173,S) by grind [jt]]<;>exact⟨rfl,rfl⟩⟩)))))))))))))))
theorem UU {β:Bs} (S:aZ) (L:HL) (f m t:Nat) (hI:bB S) (d:Nat) (hd:aS S.ax ⟨d,2⟩) (name:ByteArray) (eV:name.size<=1048576) (to:Nat) (fw:aS S.ax ⟨to,2⟩) (aG:ByteArray) (vS:aG.size<=1048576) :
 aU Tryz.prog β 232 #[vP f,vP (L.b d),.string name,vP (L.b to),.string aG] (pA f m t L S) (λv l=>∃L2,v=vI (dG S d name to aG).1/\l=(pA f m t L2 ((dG S d name to aG).2))):=by
 have hX:=hI.hX
 have hel:(ah S.O d).aq.length<=8192:=hI.mw hd
 have eM:(ah S.O d).kind=2:=hI.kind hd
 have oH:(ah S.O to).kind=2:=hI.kind fw
 have ahS:(ah S.O to).aq.length<=8192:=hI.mw fw
 refine SE Tryz.func232 Tryz.ntmps232 (λR=>av.seq ?_)
 rcases hI.vL hd name with fC|⟨tk,fC,cY⟩|⟨tk,fC,cY⟩|⟨tk,fC,cY⟩
 ·exact av.region (jK 1 [] [] (NS (jK 5 [19,20] [(3,v_ 3 (eE L eM))] (mW 5 eM fC (jK 1 [11] [] (NZ (jK 2 [23] [] (NT (zR ⟨L,by rw [show dG S d name to aG=(170,S) by unfold dG;rw [fC]]<;>exact⟨rfl,rfl⟩⟩)))))))))
 ·have cA:(ah S.O tk).kind=1:=hI.kind cY
  refine av.region (jK 1 [] [] (NS (jK 5 [19,20] [(3,v_ 3 (eE L eM))] (mW 5 eM fC (jK 1 [11] [] (NZ (jK 2 [23] [] (NF (KX (SR (jK 7 [12,13] [] (NZ (jK 2 [14] [] (NN (av.block (lJ (λ(u:Unit)=>True) (λ(u:Unit)=>0) (λ(u:Unit)=>[(0,vP f),(1,vP (L.b d)),(2,.string name),(3,vP (L.b to)),(4,.string aG),(11,.iface 184 (vP (L.b tk))),(12,.pointer none),(13,.bool false),(14,vP (L.b to))]) (λ(u:Unit)=>((pA f m t L S)++[.abs R])) () [0,1,2,3,4,5,6] (trivial) ?_))))))))))))))))
  rintro u _
  refine SQ (jK 5 [34] [] (NF (XX (av.seq ?_))))
  skip
  rcases hI.vL fw aG with gu|⟨ok,gu,l6⟩|⟨ok,gu,l6⟩|⟨ok,gu,l6⟩
  ·refine av.region (jK 5 [45,46] [(3,v_ 3 (eE L oH))] (mW 5 oH gu (jK 1 [15] [] (NZ (jK 3 [50] [] (NF (KX (SQ (jK 2 [52] [] (NF (KX (SR ?_))))))))))))
   have dz:bB S:=hI
   have jJ:=hd
   have j5:=fC
   have xh:=gu
   have oR:=fw
   have qV:(ah S.O d).kind=2:=dz.kind jJ
   have xj:(ah S.O to).kind=2:=dz.kind oR
   have qX:aS S.ax ⟨tk,1⟩:=(dz.bR jJ j5).2
   have qY:(ah S.O tk).kind=1:=dz.kind qX
   have K7:(ah S.O d).aq.length<=8192:=dz.mw jJ
   have K8:(ah S.O to).aq.length<=8192:=dz.mw oR
   have xk:=dz.lb qX
   have qZ:tk≠d:=dz.ne jJ j5
   exact jK 3 [61,62,63] [] (gE [0,3,5] (o5 S.X f m t dz.hX S.O L d qV name eV ⟨tk,1⟩ qY nh j5 (dz.pN jJ) d5 (by simp only at xk ⊢;omega)) (NS (jK 4 [65,66,67,68] [] (gE [0,1,2] (oZ {S.X with aq:=S.X.aq-1} f m t (dz.GV jJ j5) (bn S.X S.O d name ⟨tk,1⟩) L to (fW.trans xj) aG vS (qg qZ xh) (Pe (sS qZ) d5) ⟨tk,1⟩ (fW.trans qY) nh (qw dz.toInv0 jJ j5)) (NS (aB.jq [(5,.abs (bp (eY (dV S.X (bn S.X S.O d name ⟨tk,1⟩) to aG ⟨tk,1⟩) L)))] (λw hS=>by rw [show eY (dV S.X (bn S.X S.O d name ⟨tk,1⟩) to aG ⟨tk,1⟩) L=eY S.O L from oW.trans qf];exact hS) (jK 1 [10] [] (eN ⟨L,by rw [show dG S d name to aG=(0,pJ S d name to aG ⟨tk,1⟩) by grind [dG]]<;>exact⟨rfl,rfl⟩⟩ [0,3,4,1,5,2,6]))))))))
  ·have vT:(ah S.O ok).kind=1:=hI.kind l6
   refine av.region (jK 5 [45,46] [(3,v_ 3 (eE L oH))] (mW 5 oH gu (jK 1 [15] [] (NZ (jK 2 [48,49] [] (aB.nH (d:=(some 50)) (op:=.binOp .eql 175 (.tmp 48) (.tmp 49) 175) (v:=.bool (decide (ok=tk))) (λ_=>d6) (λo ar w ho hS=>by obtain⟨F,hF⟩:=hS.get (i:=3) rfl;exact⟨w,Iq ael ho d6 d6 (by rw [vT];decide) (by rw [cA];decide) hF,hS⟩) (NN (cP (ok=tk) (λh50=>zR ⟨L,by rw [show dG S d name to aG=(0,S) by grind [dG]]<;>exact⟨rfl,rfl⟩⟩) (λh50=>KX (SQ (jK 2 [52] [] (NT (SQ (jK 1 [53] [] (gE [] (Ab (vP (L.b ok))) (jK 1 [55] [] (NF (KX (SQ (jK 1 [56] [] (NF (KX (av.region (jK 3 [57,58,59] [] (gE [0,3,5,1] (uH S L f m t hI to fw aG vS ⟨ok,1⟩ gu) (NS ?_))))))))))))))))))))))))))
   have dz:bB (bg S to aG ⟨ok,1⟩):=hI.Gf fw gu nh
   have hot:(⟨ok,1⟩:Th)≠⟨tk,1⟩:=λe=>h50 (zc Th.k e)
   have jJ:aS (bg S to aG ⟨ok,1⟩).ax ⟨d,2⟩:=oY hI.toInv0 fw gu hd (λe=>by have:=jS hd l6 e;cases this)
   have oR:aS (bg S to aG ⟨ok,1⟩).ax ⟨to,2⟩:=oY hI.toInv0 fw gu fw (λe=>by have:=jS fw l6 e;cases this)
   have j5:bF name (ah (bg S to aG ⟨ok,1⟩).O d).aq=some ⟨tk,1⟩:=x9 hI.toInv0 fw gu fC hot
   have xh:bF aG (ah (bg S to aG ⟨ok,1⟩).O to).aq=none:=yc hI.toInv0 fw gu
   have qV:(ah (bg S to aG ⟨ok,1⟩).O d).kind=2:=dz.kind jJ
   have xj:(ah (bg S to aG ⟨ok,1⟩).O to).kind=2:=dz.kind oR
   have qX:aS (bg S to aG ⟨ok,1⟩).ax ⟨tk,1⟩:=(dz.bR jJ j5).2
   have qY:(ah (bg S to aG ⟨ok,1⟩).O tk).kind=1:=dz.kind qX
   have K7:(ah (bg S to aG ⟨ok,1⟩).O d).aq.length<=8192:=dz.mw jJ
   have K8:(ah (bg S to aG ⟨ok,1⟩).O to).aq.length<=8192:=dz.mw oR
   have xk:=dz.lb qX
   have qZ:tk≠d:=dz.ne jJ j5
   exact jK 3 [61,62,63] [] (gE [0,1,2] (o5 (bg S to aG ⟨ok,1⟩).X f m t dz.hX (bg S to aG ⟨ok,1⟩).O L d qV name eV ⟨tk,1⟩ qY nh j5 (dz.pN jJ) d5 (by simp only at xk ⊢;omega)) (NS (jK 4 [65,66,67,68] [] (gE [0,1,2] (oZ { (bg S to aG ⟨ok,1⟩).X with aq:=(bg S to aG ⟨ok,1⟩).X.aq-1} f m t (dz.GV jJ j5) (bn (bg S to aG ⟨ok,1⟩).X (bg S to aG ⟨ok,1⟩).O d name ⟨tk,1⟩) L to (fW.trans xj) aG vS (qg qZ xh) (Pe (sS qZ) d5) ⟨tk,1⟩ (fW.trans qY) nh (qw dz.toInv0 jJ j5)) (NS (aB.jq [(5,.abs (bp (eY (dV (bg S to aG ⟨ok,1⟩).X (bn (bg S to aG ⟨ok,1⟩).X (bg S to aG ⟨ok,1⟩).O d name ⟨tk,1⟩) to aG ⟨tk,1⟩) L)))] (λw hS=>by rw [show eY (dV (bg S to aG ⟨ok,1⟩).X (bn (bg S to aG ⟨ok,1⟩).X (bg S to aG ⟨ok,1⟩).O d name ⟨tk,1⟩) to aG ⟨tk,1⟩) L=eY S.O L from oW.trans (qf.trans uE)];exact hS) (jK 1 [10] [] (eN ⟨L,by rw [show dG S d name to aG=(0,pJ (bg S to aG ⟨ok,1⟩) d name to aG ⟨tk,1⟩) by grind [dG]]<;>exact⟨rfl,rfl⟩⟩ [0,3,4,1,5,2,6]))))))))
  ·have vT:(ah S.O ok).kind=2:=hI.kind l6
   exact av.region (jK 5 [45,46] [(3,v_ 3 (eE L oH))] (mW 5 oH gu (jK 1 [15] [] (NZ (jK 3 [50] [] (NF (KX (SQ (jK 2 [52] [] (NT (SQ (jK 1 [53] [] (gE [] (Ac (vP (L.b ok))) (jK 1 [55] [] (NT (zR ⟨L,by rw [show dG S d name to aG=(172,S) by grind [dG]]<;>exact⟨rfl,rfl⟩⟩))))))))))))))))
  have vT:(ah S.O ok).kind=3:=hI.kind l6
  refine av.region (jK 5 [45,46] [(3,v_ 3 (eE L oH))] (mW 5 oH gu (jK 1 [15] [] (NZ (jK 3 [50] [] (NF (KX (SQ (jK 2 [52] [] (NT (SQ (jK 1 [53] [] (gE [] (Ad (vP (L.b ok))) (jK 1 [55] [] (NF (KX (SQ (jK 1 [56] [] (NF (KX (av.region (jK 3 [57,58,59] [] (gE [0,3,5,1] (uH S L f m t hI to fw aG vS ⟨ok,3⟩ gu) (NS ?_))))))))))))))))))))))))
  have dz:bB (bg S to aG ⟨ok,3⟩):=hI.Gf fw gu nh
  have hot:(⟨ok,3⟩:Th)≠⟨tk,1⟩:=λe=>by cases e
  have jJ:aS (bg S to aG ⟨ok,3⟩).ax ⟨d,2⟩:=oY hI.toInv0 fw gu hd (λe=>by have:=jS hd l6 e;cases this)
  have oR:aS (bg S to aG ⟨ok,3⟩).ax ⟨to,2⟩:=oY hI.toInv0 fw gu fw (λe=>by have:=jS fw l6 e;cases this)
  have j5:bF name (ah (bg S to aG ⟨ok,3⟩).O d).aq=some ⟨tk,1⟩:=x9 hI.toInv0 fw gu fC hot
  have xh:bF aG (ah (bg S to aG ⟨ok,3⟩).O to).aq=none:=yc hI.toInv0 fw gu
  have qV:(ah (bg S to aG ⟨ok,3⟩).O d).kind=2:=dz.kind jJ
  have xj:(ah (bg S to aG ⟨ok,3⟩).O to).kind=2:=dz.kind oR
  have qX:aS (bg S to aG ⟨ok,3⟩).ax ⟨tk,1⟩:=(dz.bR jJ j5).2
  have qY:(ah (bg S to aG ⟨ok,3⟩).O tk).kind=1:=dz.kind qX
  have K7:(ah (bg S to aG ⟨ok,3⟩).O d).aq.length<=8192:=dz.mw jJ
  have K8:(ah (bg S to aG ⟨ok,3⟩).O to).aq.length<=8192:=dz.mw oR
  have xk:=dz.lb qX
  have qZ:tk≠d:=dz.ne jJ j5
  exact jK 3 [61,62,63] [] (gE [0,1,2] (o5 (bg S to aG ⟨ok,3⟩).X f m t dz.hX (bg S to aG ⟨ok,3⟩).O L d qV name eV ⟨tk,1⟩ qY nh j5 (dz.pN jJ) d5 (by simp only at xk ⊢;omega)) (NS (jK 4 [65,66,67,68] [] (gE [0,1,2] (oZ { (bg S to aG ⟨ok,3⟩).X with aq:=(bg S to aG ⟨ok,3⟩).X.aq-1} f m t (dz.GV jJ j5) (bn (bg S to aG ⟨ok,3⟩).X (bg S to aG ⟨ok,3⟩).O d name ⟨tk,1⟩) L to (fW.trans xj) aG vS (qg qZ xh) (Pe (sS qZ) d5) ⟨tk,1⟩ (fW.trans qY) nh (qw dz.toInv0 jJ j5)) (NS (aB.jq [(5,.abs (bp (eY (dV (bg S to aG ⟨ok,3⟩).X (bn (bg S to aG ⟨ok,3⟩).X (bg S to aG ⟨ok,3⟩).O d name ⟨tk,1⟩) to aG ⟨tk,1⟩) L)))] (λw hS=>by rw [show eY (dV (bg S to aG ⟨ok,3⟩).X (bn (bg S to aG ⟨ok,3⟩).X (bg S to aG ⟨ok,3⟩).O d name ⟨tk,1⟩) to aG ⟨tk,1⟩) L=eY S.O L from oW.trans (qf.trans uE)];exact hS) (jK 1 [10] [] (eN ⟨L,by rw [show dG S d name to aG=(0,pJ (bg S to aG ⟨ok,3⟩) d name to aG ⟨tk,1⟩) by grind [dG]]<;>exact⟨rfl,rfl⟩⟩ [0,3,4,1,5,2,6]))))))))
 ·have cA:(ah S.O tk).kind=2:=hI.kind cY
  refine av.region (jK 1 [] [] (NS (jK 5 [19,20] [(3,v_ 3 (eE L eM))] (mW 5 eM fC (jK 1 [11] [] (NZ (jK 2 [23] [] (NF (KX (SR (jK 7 [12,13] [] (NZ (jK 2 [14] [] (NN (av.block ?_)))))))))))))))
  obtain⟨dp,hdp⟩:=hI.deep
  refine lJ (λ(x:Option Nat)=>(su S.O tk to↔∃z0,x=some z0/\su S.O tk z0)/\(∀z0,x=some z0->aS S.ax ⟨z0,2⟩)) (λ(x:Option Nat)=>ES dp x) (λ(x:Option Nat)=>[(0,vP f),(1,vP (L.b d)),(2,.string name),(3,vP (L.b to)),(4,.string aG),(11,.iface 190 (vP (L.b tk))),(12,vP (L.b tk)),(13,.bool true),(14,(L8 L x))]) (λ(x:Option Nat)=>((pA f m t L S)++[.abs R])) ((some to)) [0,1,2,3,4,5,6] (⟨⟨λh=>⟨to,rfl,h⟩,λ⟨y,e,h⟩=>by cases e;exact h⟩,λy e=>by cases e;exact fw⟩) ?_
  rintro x ⟨hbx,hlx⟩
  refine av.seq (av.seq ?_)
  rcases hx:x with _|y
  ·refine av.region (jK 5 [34] [] (NF (XX (av.seq ?_))))
   have hnb:¬su S.O tk to:=λh=>gn
   rcases hI.vL fw aG with gu|⟨ok,gu,l6⟩|⟨ok,gu,l6⟩|⟨ok,gu,l6⟩
   ·refine av.region (jK 5 [45,46] [(3,v_ 3 (eE L oH))] (mW 5 oH gu (jK 1 [15] [] (NZ (jK 3 [50] [] (NF (KX (SQ (jK 2 [52] [] (NF (KX (SR ?_))))))))))))
    have dz:bB S:=hI
    have jJ:=hd
    have j5:=fC
    have xh:=gu
    have oR:=fw
    have qV:(ah S.O d).kind=2:=dz.kind jJ
    have xj:(ah S.O to).kind=2:=dz.kind oR
    have qX:aS S.ax ⟨tk,2⟩:=(dz.bR jJ j5).2
    have qY:(ah S.O tk).kind=2:=dz.kind qX
    have K7:(ah S.O d).aq.length<=8192:=dz.mw jJ
    have K8:(ah S.O to).aq.length<=8192:=dz.mw oR
    have xk:=dz.lb qX
    have qZ:tk≠d:=dz.ne jJ j5
    exact jK 3 [61,62,63] [] (gE [0,3,5] (o5 S.X f m t dz.hX S.O L d qV name eV ⟨tk,2⟩ qY nh j5 (dz.pN jJ) d5 (by simp only at xk ⊢;omega)) (NS (jK 4 [65,66,67,68] [] (gE [0,1,2] (oZ {S.X with aq:=S.X.aq-1} f m t (dz.GV jJ j5) (bn S.X S.O d name ⟨tk,2⟩) L to (fW.trans xj) aG vS (qg qZ xh) (Pe (sS qZ) d5) ⟨tk,2⟩ (fW.trans qY) nh (qw dz.toInv0 jJ j5)) (NS (aB.jq [(5,.abs (bp (eY (dV S.X (bn S.X S.O d name ⟨tk,2⟩) to aG ⟨tk,2⟩) L)))] (λw hS=>by rw [show eY (dV S.X (bn S.X S.O d name ⟨tk,2⟩) to aG ⟨tk,2⟩) L=eY S.O L from oW.trans qf];exact hS) (jK 1 [10] [] (eN ⟨L,by rw [show dG S d name to aG=(0,pJ S d name to aG ⟨tk,2⟩) by grind [dG]]<;>exact⟨rfl,rfl⟩⟩ [0,3,4,1,5,2,6]))))))))
   ·have vT:(ah S.O ok).kind=1:=hI.kind l6
    exact av.region (jK 5 [45,46] [(3,v_ 3 (eE L oH))] (mW 5 oH gu (jK 1 [15] [] (NZ (jK 3 [50] [] (NF (KX (SQ (jK 2 [52] [] (NT (SQ (jK 1 [53] [] (gE [] (Ab (vP (L.b ok))) (jK 1 [55] [] (NF (KX (SQ (jK 1 [56] [] (NT (zR ⟨L,by rw [show dG S d name to aG=(173,S) by grind [dG]]<;>exact⟨rfl,rfl⟩⟩))))))))))))))))))))
   ·have vT:(ah S.O ok).kind=2:=hI.kind l6
    exact av.region (jK 5 [45,46] [(3,v_ 3 (eE L oH))] (mW 5 oH gu (jK 1 [15] [] (NZ (jK 2 [48,49] [] (aB.nH (d:=(some 50)) (op:=.binOp .eql 175 (.tmp 48) (.tmp 49) 175) (v:=.bool (decide (ok=tk))) (λ_=>d6) (λo ar w ho hS=>by obtain⟨F,hF⟩:=hS.get (i:=3) rfl;exact⟨w,Iq aga ho d6 d6 (by rw [vT];decide) (by rw [cA];decide) hF,hS⟩) (NN (cP (ok=tk) (λh50=>zR ⟨L,by rw [show dG S d name to aG=(0,S) by grind [dG]]<;>exact⟨rfl,rfl⟩⟩) (λh50=>KX (SQ (jK 2 [52] [] (NT (SQ (jK 1 [53] [] (gE [] (Ac (vP (L.b ok))) (jK 1 [55] [] (NT (zR ⟨L,by rw [show dG S d name to aG=(172,S) by grind [dG]]<;>exact⟨rfl,rfl⟩⟩))))))))))))))))))
   have vT:(ah S.O ok).kind=3:=hI.kind l6
   exact av.region (jK 5 [45,46] [(3,v_ 3 (eE L oH))] (mW 5 oH gu (jK 1 [15] [] (NZ (jK 3 [50] [] (NF (KX (SQ (jK 2 [52] [] (NT (SQ (jK 1 [53] [] (gE [] (Ad (vP (L.b ok))) (jK 1 [55] [] (NF (KX (SQ (jK 1 [56] [] (NT (zR ⟨L,by rw [show dG S d name to aG=(173,S) by grind [dG]]<;>exact⟨rfl,rfl⟩⟩))))))))))))))))))))
  have hky:(ah S.O y).kind=2:=hI.kind (hlx y hx)
  exact av.region (jK 5 [34] [] (NT (KX (av.seq (av.block (SR (jK 2 [39,40] [] (aB.nH (d:=(some 41)) (op:=.binOp .eql 190 (.tmp 39) (.tmp 40) 190) (v:=.bool (decide (y=tk))) (λ_=>d6) (λo ar w ho hS=>by obtain⟨F,hF⟩:=hS.get (i:=3) rfl;exact⟨w,WB ho d6 d6 (by rw [hky];decide) (by rw [cA];decide) hF,hS⟩) (NN (cP (y=tk) (λAi=>zR ⟨L,by rw [show dG S d name to aG=(174,S) by unfold dG;rw [fC];exact t8 ⟨rfl,hbx.2 ⟨y,hx,by rw [Ai];exact .here⟩⟩]<;>exact⟨rfl,rfl⟩⟩) (λAi=>KX (av.region (jK 5 [14] [(3,v_ 3 (agZ L hky))] (NL (tJ (((ah S.O y).up)) [0,1,2,3,4,5,6] (⟨hbx.trans ⟨λ⟨y2,e,h⟩=>by grind [JB],λh=>⟨y,hx,(JB Ai).2 h⟩⟩,λz e=>((hI.up ⟨y,2⟩ (hlx y hx) z).1 e).2.1⟩) (hm:=by show ES dp (((ah S.O y).up))<ES dp (some y);exact WE hdp))))))))))))))))
 have cA:(ah S.O tk).kind=3:=hI.kind cY
 refine av.region (jK 1 [] [] (NS (jK 5 [19,20] [(3,v_ 3 (eE L eM))] (mW 5 eM fC (jK 1 [11] [] (NZ (jK 2 [23] [] (NF (KX (SR (jK 7 [12,13] [] (NZ (jK 2 [14] [] (NN (av.block (lJ (λ(u:Unit)=>True) (λ(u:Unit)=>0) (λ(u:Unit)=>[(0,vP f),(1,vP (L.b d)),(2,.string name),(3,vP (L.b to)),(4,.string aG),(11,.iface 187 (vP (L.b tk))),(12,.pointer none),(13,.bool false),(14,vP (L.b to))]) (λ(u:Unit)=>((pA f m t L S)++[.abs R])) () [0,1,2,3,4,5,6] (trivial) ?_))))))))))))))))
 rintro u _
 refine SQ (jK 5 [34] [] (NF (XX (av.seq ?_))))
 skip
 rcases hI.vL fw aG with gu|⟨ok,gu,l6⟩|⟨ok,gu,l6⟩|⟨ok,gu,l6⟩
 ·refine av.region (jK 5 [45,46] [(3,v_ 3 (eE L oH))] (mW 5 oH gu (jK 1 [15] [] (NZ (jK 3 [50] [] (NF (KX (SQ (jK 2 [52] [] (NF (KX (SR ?_))))))))))))
  have dz:bB S:=hI
  have jJ:=hd
  have j5:=fC
  have xh:=gu
  have oR:=fw
  have qV:(ah S.O d).kind=2:=dz.kind jJ
  have xj:(ah S.O to).kind=2:=dz.kind oR
  have qX:aS S.ax ⟨tk,3⟩:=(dz.bR jJ j5).2
  have qY:(ah S.O tk).kind=3:=dz.kind qX
  have K7:(ah S.O d).aq.length<=8192:=dz.mw jJ
  have K8:(ah S.O to).aq.length<=8192:=dz.mw oR
  have xk:=dz.lb qX
  have qZ:tk≠d:=dz.ne jJ j5
  exact jK 3 [61,62,63] [] (gE [0,3,5] (o5 S.X f m t dz.hX S.O L d qV name eV ⟨tk,3⟩ qY nh j5 (dz.pN jJ) d5 (by simp only at xk ⊢;omega)) (NS (jK 4 [65,66,67,68] [] (gE [0,1,2] (oZ {S.X with aq:=S.X.aq-1} f m t (dz.GV jJ j5) (bn S.X S.O d name ⟨tk,3⟩) L to (fW.trans xj) aG vS (qg qZ xh) (Pe (sS qZ) d5) ⟨tk,3⟩ (fW.trans qY) nh (qw dz.toInv0 jJ j5)) (NS (aB.jq [(5,.abs (bp (eY (dV S.X (bn S.X S.O d name ⟨tk,3⟩) to aG ⟨tk,3⟩) L)))] (λw hS=>by rw [show eY (dV S.X (bn S.X S.O d name ⟨tk,3⟩) to aG ⟨tk,3⟩) L=eY S.O L from oW.trans qf];exact hS) (jK 1 [10] [] (eN ⟨L,by rw [show dG S d name to aG=(0,pJ S d name to aG ⟨tk,3⟩) by grind [dG]]<;>exact⟨rfl,rfl⟩⟩ [0,3,4,1,5,2,6]))))))))
 ·have vT:(ah S.O ok).kind=1:=hI.kind l6
  refine av.region (jK 5 [45,46] [(3,v_ 3 (eE L oH))] (mW 5 oH gu (jK 1 [15] [] (NZ (jK 3 [50] [] (NF (KX (SQ (jK 2 [52] [] (NT (SQ (jK 1 [53] [] (gE [] (Ab (vP (L.b ok))) (jK 1 [55] [] (NF (KX (SQ (jK 1 [56] [] (NF (KX (av.region (jK 3 [57,58,59] [] (gE [0,3,5,1] (uH S L f m t hI to fw aG vS ⟨ok,1⟩ gu) (NS ?_))))))))))))))))))))))))
  have dz:bB (bg S to aG ⟨ok,1⟩):=hI.Gf fw gu nh
  have hot:(⟨ok,1⟩:Th)≠⟨tk,3⟩:=λe=>by cases e
  have jJ:aS (bg S to aG ⟨ok,1⟩).ax ⟨d,2⟩:=oY hI.toInv0 fw gu hd (λe=>by have:=jS hd l6 e;cases this)
  have oR:aS (bg S to aG ⟨ok,1⟩).ax ⟨to,2⟩:=oY hI.toInv0 fw gu fw (λe=>by have:=jS fw l6 e;cases this)
  have j5:bF name (ah (bg S to aG ⟨ok,1⟩).O d).aq=some ⟨tk,3⟩:=x9 hI.toInv0 fw gu fC hot
  have xh:bF aG (ah (bg S to aG ⟨ok,1⟩).O to).aq=none:=yc hI.toInv0 fw gu
  have qV:(ah (bg S to aG ⟨ok,1⟩).O d).kind=2:=dz.kind jJ
  have xj:(ah (bg S to aG ⟨ok,1⟩).O to).kind=2:=dz.kind oR
  have qX:aS (bg S to aG ⟨ok,1⟩).ax ⟨tk,3⟩:=(dz.bR jJ j5).2
  have qY:(ah (bg S to aG ⟨ok,1⟩).O tk).kind=3:=dz.kind qX
  have K7:(ah (bg S to aG ⟨ok,1⟩).O d).aq.length<=8192:=dz.mw jJ
  have K8:(ah (bg S to aG ⟨ok,1⟩).O to).aq.length<=8192:=dz.mw oR
  have xk:=dz.lb qX
  have qZ:tk≠d:=dz.ne jJ j5
  exact jK 3 [61,62,63] [] (gE [0,1,2] (o5 (bg S to aG ⟨ok,1⟩).X f m t dz.hX (bg S to aG ⟨ok,1⟩).O L d qV name eV ⟨tk,3⟩ qY nh j5 (dz.pN jJ) d5 (by simp only at xk ⊢;omega)) (NS (jK 4 [65,66,67,68] [] (gE [0,1,2] (oZ { (bg S to aG ⟨ok,1⟩).X with aq:=(bg S to aG ⟨ok,1⟩).X.aq-1} f m t (dz.GV jJ j5) (bn (bg S to aG ⟨ok,1⟩).X (bg S to aG ⟨ok,1⟩).O d name ⟨tk,3⟩) L to (fW.trans xj) aG vS (qg qZ xh) (Pe (sS qZ) d5) ⟨tk,3⟩ (fW.trans qY) nh (qw dz.toInv0 jJ j5)) (NS (aB.jq [(5,.abs (bp (eY (dV (bg S to aG ⟨ok,1⟩).X (bn (bg S to aG ⟨ok,1⟩).X (bg S to aG ⟨ok,1⟩).O d name ⟨tk,3⟩) to aG ⟨tk,3⟩) L)))] (λw hS=>by rw [show eY (dV (bg S to aG ⟨ok,1⟩).X (bn (bg S to aG ⟨ok,1⟩).X (bg S to aG ⟨ok,1⟩).O d name ⟨tk,3⟩) to aG ⟨tk,3⟩) L=eY S.O L from oW.trans (qf.trans uE)];exact hS) (jK 1 [10] [] (eN ⟨L,by rw [show dG S d name to aG=(0,pJ (bg S to aG ⟨ok,1⟩) d name to aG ⟨tk,3⟩) by grind [dG]]<;>exact⟨rfl,rfl⟩⟩ [0,3,4,1,5,2,6]))))))))
 ·have vT:(ah S.O ok).kind=2:=hI.kind l6
  exact av.region (jK 5 [45,46] [(3,v_ 3 (eE L oH))] (mW 5 oH gu (jK 1 [15] [] (NZ (jK 3 [50] [] (NF (KX (SQ (jK 2 [52] [] (NT (SQ (jK 1 [53] [] (gE [] (Ac (vP (L.b ok))) (jK 1 [55] [] (NT (zR ⟨L,by rw [show dG S d name to aG=(172,S) by grind [dG]]<;>exact⟨rfl,rfl⟩⟩))))))))))))))))
 have vT:(ah S.O ok).kind=3:=hI.kind l6
 refine av.region (jK 5 [45,46] [(3,v_ 3 (eE L oH))] (mW 5 oH gu (jK 1 [15] [] (NZ (jK 2 [48,49] [] (aB.nH (d:=(some 50)) (op:=.binOp .eql 175 (.tmp 48) (.tmp 49) 175) (v:=.bool (decide (ok=tk))) (λ_=>d6) (λo ar w ho hS=>by obtain⟨F,hF⟩:=hS.get (i:=3) rfl;exact⟨w,Iq aem ho d6 d6 (by rw [vT];decide) (by rw [cA];decide) hF,hS⟩) (NN (cP (ok=tk) (λh50=>zR ⟨L,by rw [show dG S d name to aG=(0,S) by grind [dG]]<;>exact⟨rfl,rfl⟩⟩) (λh50=>KX (SQ (jK 2 [52] [] (NT (SQ (jK 1 [53] [] (gE [] (Ad (vP (L.b ok))) (jK 1 [55] [] (NF (KX (SQ (jK 1 [56] [] (NF (KX (av.region (jK 3 [57,58,59] [] (gE [0,3,5,1] (uH S L f m t hI to fw aG vS ⟨ok,3⟩ gu) (NS ?_))))))))))))))))))))))))))
 have dz:bB (bg S to aG ⟨ok,3⟩):=hI.Gf fw gu nh
 have hot:(⟨ok,3⟩:Th)≠⟨tk,3⟩:=λe=>h50 (zc Th.k e)
 have jJ:aS (bg S to aG ⟨ok,3⟩).ax ⟨d,2⟩:=oY hI.toInv0 fw gu hd (λe=>by have:=jS hd l6 e;cases this)
 have oR:aS (bg S to aG ⟨ok,3⟩).ax ⟨to,2⟩:=oY hI.toInv0 fw gu fw (λe=>by have:=jS fw l6 e;cases this)
 have j5:bF name (ah (bg S to aG ⟨ok,3⟩).O d).aq=some ⟨tk,3⟩:=x9 hI.toInv0 fw gu fC hot
 have xh:bF aG (ah (bg S to aG ⟨ok,3⟩).O to).aq=none:=yc hI.toInv0 fw gu
 have qV:(ah (bg S to aG ⟨ok,3⟩).O d).kind=2:=dz.kind jJ
 have xj:(ah (bg S to aG ⟨ok,3⟩).O to).kind=2:=dz.kind oR
 have qX:aS (bg S to aG ⟨ok,3⟩).ax ⟨tk,3⟩:=(dz.bR jJ j5).2
 have qY:(ah (bg S to aG ⟨ok,3⟩).O tk).kind=3:=dz.kind qX
 have K7:(ah (bg S to aG ⟨ok,3⟩).O d).aq.length<=8192:=dz.mw jJ
 have K8:(ah (bg S to aG ⟨ok,3⟩).O to).aq.length<=8192:=dz.mw oR
 have xk:=dz.lb qX
 have qZ:tk≠d:=dz.ne jJ j5
 exact jK 3 [61,62,63] [] (gE [0,1,2] (o5 (bg S to aG ⟨ok,3⟩).X f m t dz.hX (bg S to aG ⟨ok,3⟩).O L d qV name eV ⟨tk,3⟩ qY nh j5 (dz.pN jJ) d5 (by simp only at xk ⊢;omega)) (NS (jK 4 [65,66,67,68] [] (gE [0,1,2] (oZ { (bg S to aG ⟨ok,3⟩).X with aq:=(bg S to aG ⟨ok,3⟩).X.aq-1} f m t (dz.GV jJ j5) (bn (bg S to aG ⟨ok,3⟩).X (bg S to aG ⟨ok,3⟩).O d name ⟨tk,3⟩) L to (fW.trans xj) aG vS (qg qZ xh) (Pe (sS qZ) d5) ⟨tk,3⟩ (fW.trans qY) nh (qw dz.toInv0 jJ j5)) (NS (aB.jq [(5,.abs (bp (eY (dV (bg S to aG ⟨ok,3⟩).X (bn (bg S to aG ⟨ok,3⟩).X (bg S to aG ⟨ok,3⟩).O d name ⟨tk,3⟩) to aG ⟨tk,3⟩) L)))] (λw hS=>by rw [show eY (dV (bg S to aG ⟨ok,3⟩).X (bn (bg S to aG ⟨ok,3⟩).X (bg S to aG ⟨ok,3⟩).O d name ⟨tk,3⟩) to aG ⟨tk,3⟩) L=eY S.O L from oW.trans (qf.trans uE)];exact hS) (jK 1 [10] [] (eN ⟨L,by rw [show dG S d name to aG=(0,pJ (bg S to aG ⟨ok,3⟩) d name to aG ⟨tk,3⟩) by grind [dG]]<;>exact⟨rfl,rfl⟩⟩ [0,3,4,1,5,2,6]))))))))
end
section
open Go.RowKit Go.Maps bw aH
attribute [local irreducible] aB bJ av aF cC
theorem W5 {β:Bs} (S:aZ) (L:HL) (f m t:Nat) (hI:bB S) (k:Nat) (hk:aS S.ax ⟨k,1⟩) (A:Option Addr) (c:Nat) (bs:List UInt8) (hA:bO β A bs) (hbl:bs.length<=1099511627776) (hbc:bs.length<=c) :
 aU Tryz.prog β 227 #[vP f,vP (L.b k),.slice A (bs.length) (c)] (pA f m t L S) (λv l=>∃L2,v=.tuple #[vI (iC S k bs).1,vI (iC S k bs).2.1]/\l=(pA f m t L2 ((iC S k bs).2.2))):=by
 have hX:=hI.hX
 have hkk:(ah S.O k).kind=1:=hI.kind hk
 have hdu:((ah S.O k).data.length:Int)<=S.X.used:=hI.agf hk
 have hcB:=hI.cB
 refine SE Tryz.func227 Tryz.ntmps227 (λR=>SR (jK 2 [] [] (NZ (jK 3 [12] [] (NN (cP ((((bs.length:Nat):Int):Int)=(0:Int)) (λh12=>?_) (λh12=>?_)))))))
 ·have he:bs=[]:=aiK d5
  exact zR ⟨L,by rw [show iC S k bs=(0,0,S) from t8 he]<;>exact⟨rfl,rfl⟩⟩
 have jX:0<bs.length:=d5
 refine KX (av.seq (rQ (jQ 11 [8] [(4,a_ 0 f),(8,a_ 0 f),(9,wJ (S.X.cB-S.X.used) (S.X.cB-S.X.used))] (NQ (NX (SQ (jK 2 [24] [] (NN (cP ((S.X.cB-S.X.used:Int)<=(0:Int)) (λq6=>zR ⟨L,by rw [show iC S k bs=(0,176,S) from (nw (λe=>gn)).trans (t8 q6)]<;>exact⟨rfl,rfl⟩⟩) (λq6=>KX (SR (jK 4 [28] [(3,w_ (.int .i64 (min ((bs.length:Nat):Int) (S.X.cB-S.X.used))) (zc (Value.int .i64) (abR _ _)))] (sl 28 (vI (min ((bs.length:Nat):Int) (S.X.cB-S.X.used))) (.int .i64 ↑(dU S.X bs.length)) (zc (Value.int .i64) (WH d5)) (jK 1 [9] [] (NN (av.seq ?_))))))))))))))))
 have hwl:=WI (X:=S.X) (n:=bs.length) d5
 refine av.mem (λw hS=>hS.Wl (i:=4) (k:=k) rfl hkk) (rM (List.range 12) 8 [0,1,2,3,4,5,6] (jR 8 [0,1,9,29,33,36] [(4,v_ 3 (Pk L hkk)),(7,xP (dU S.X bs.length) ((dU S.X bs.length)<=c))] (cC.cut (ι:=(Option Addr)×Nat) (bN:=λ((A1,c2):(Option Addr)×Nat)=>[(0,vP f),(1,vP (L.b k)),(9,vI ↑(dU S.X bs.length)),(29,vP (L.b k)),(37,.slice A1 (((ah S.O k).data++bs.take (dU S.X bs.length)).length) (c2))]) (dh:=λ((A1,c2):(Option Addr)×Nat)=>[pF f m t S.X,pI m L S.ax,pT t S.X.cH S.aL L S.us,pO S.O L,.abs (bp (pU (eY S.O L) k eG.none)),pE S.O L,.abs R,.abs (aI 5 1 A1 (((ah S.O k).data++bs.take (dU S.X bs.length)).length) c2 (d9 ((ah S.O k).data++bs.take (dU S.X bs.length))))]) [0,1,2,3,4,5,6] rfl rfl ?_ rfl (λ_=>d6) ?_)))
 ·exact VX 7 61 A (dU S.X bs.length) c (d9 (bs.take (dU S.X bs.length))) rfl ((hA.take (dU S.X bs.length)).src) (λA1 c2=>aB.cR 7 (p':=.abs (aI 5 1 A1 (((ah S.O k).data++bs.take (dU S.X bs.length)).length) c2 (d9 ((ah S.O k).data++bs.take (dU S.X bs.length))))) rfl (by rw [Um,T3,aiz,ai4 hwl.1]) (sl 37 (.slice A1 (((ah S.O k).data.length)+(dU S.X bs.length)) (c2)) (.slice A1 (((ah S.O k).data++bs.take (dU S.X bs.length)).length) (c2)) (by rw [T3,aiz,ai4 hwl.1]) (NL (MD (A1,c2) [0,1,9,29,37] [0,1,2,3,4,5,6,7])))) (hl:=by rw [vF,aiz,ai4 hwl.1,Nat.mul_one]) (h1:=r8 (bs.take (dU S.X bs.length)))
 rintro⟨A1,c2⟩
 refine nC [0,1,2,3,4,5,6] [38] [] [] (nC [0,1,2,3,4,5,6] [39] [] [] (cC.last rfl rfl (aB.mem (λw hS=>hS.ad8 (i:=3) (k:=k) rfl (by rw [hkk];decide) (xX (hkk)) (zc yG (hkk))) (jC 1 [] [(0,a_ 8 (L.b k))] [(8,[(9,.slice A1 (((ah S.O k).data++bs.take (dU S.X bs.length)).length) (c2))])] ?_))))
 obtain⟨L2,jE⟩:∃L2:HL,L2=L.data k A1 c2:=⟨_,rfl⟩
 refine aB.mem (λw hS=>hS.aeo jE (f:=(λo=>{o with data:=o.data++bs.take (dU S.X bs.length)})) (i:=3) (j:=8) (ix:=[0,1,2,4,5,6,7]) rfl rfl d6 rfl (by show (ah S.O k).kind≠0;rw [hkk];decide) ((xX (L:=L2) (k:=k) (o:=(λo=>{o with data:=o.data++bs.take (dU S.X bs.length)}) (ah S.O k)) hkk).trans (by rw [Sr jE,St jE]<;>rfl)) (by show yG (ah S.O k).kind=_;rw [hkk]<;>rfl)) (aB.mem (λw hS=>hS.aep jE (f:=(λo=>{o with data:=o.data++bs.take (dU S.X bs.length)})) (i:=4) (j:=7) (ix:=[0,1,2,3,5,6]) rfl rfl d6 rfl hkk rfl rfl) (aB.jq [(3,.abs (bM Tryz.prog 3 m (dw (dQ L2 S.ax)) S.ax.length)),(4,.abs (iP 233 t S.X.cH S.aL (dQ L2 S.us))),(5,.abs (bp (iE (bD S.O k (λo=>{o with data:=o.data++bs.take (dU S.X bs.length)})) L2)))] (λw hS=>by rw [OZ jE,OZ jE,show iE (bD S.O k (λo=>{o with data:=o.data++bs.take (dU S.X bs.length)})) L2=iE S.O L from (F6 (O:=S.O) (k:=k) (f:=(λo=>{o with data:=o.data++bs.take (dU S.X bs.length)})) rfl rfl).trans (ZR jE)];exact hS) ?_))
 have UQ:(ah (bD S.O k (λo=>{o with data:=o.data++bs.take (dU S.X bs.length)})) k).kind=1:=(ux (f:=(λo=>{o with data:=o.data++bs.take (dU S.X bs.length)})) (λ_=>rfl)).trans hkk
 have hbk:L2.b k=L.b k:=WJ jE
 generalize ij:(bD S.O k (λo=>{o with data:=o.data++bs.take (dU S.X bs.length)}))=jP at UQ ⊢
 refine NL (aF.np (NX (SR (jK 1 [40] [] (sl 40 (vP (L.b k)) (vP (L2.b k)) (by rw [hbk]) (jK 8 [45,48] [(4,A_ 2 f 2)] (WW 1 [(5,1),(0,2)] k S.X.cS S.X.cZ UQ (λjY iq=>?_))))))))
 have EX:=ku iq UQ
 exact NS (jC 9 [] [(3,a_ 2 f),(5,wJ (S.X.used+(((dU S.X bs.length):Nat):Int)) (S.X.used+(((dU S.X bs.length):Nat):Int))),(8,a_ 2 f)] [(2,[(9,vI (S.X.used+(((dU S.X bs.length):Nat):Int)))])] (NS (jK 3 [6,7] [] (eN (l:=[pF f m t {S.X with used:=S.X.used+(((dU S.X bs.length):Nat):Int)},pI m L2 S.ax,pT t S.X.cH S.aL L2 S.us,pO jY L2,pD jY L2,pE jY L2]) (v:=(.tuple #[vI ↑(dU S.X bs.length),vI 0])) ⟨L2,by grind [iC,EH]⟩ [2,3,4,1,0,5,6]))))
end
end Go.Proofs.YtfececghhgeapaaGreatDoor
section
namespace Go.Proofs
open Go.Shelf
def Tryz.lays146_ren:Go.Shelf.Ren:=⟨fun|146=>247|221=>248|268=>249|138=>250|143=>251|195=>252|197=>253|218=>254|219=>255|260=>256|217=>169|225=>178|224=>177|267=>257|266=>171|314=>258|n=>n,fun|9=>9|31=>67|3=>3|4=>4|0=>0|105=>359|21=>21|5=>5|46=>253|119=>361|139=>364|138=>363|146=>365|51=>271|n=>n,fun|1=>1|3=>2|4=>3|n=>n⟩
theorem Tryz.lays146:Go.Proofs.Lays.n146 Tryz.prog Tryz.lays146_ren:={
 mixed:=by kernel_rfl
 f138:=Tryz.func250.trans (congrArg some (by kernel_rfl))
 f143:=Tryz.func251.trans (congrArg some (by kernel_rfl))
 f146:=Tryz.func247.trans (congrArg some (by kernel_rfl))
 f195:=Tryz.func252.trans (congrArg some (by kernel_rfl))
 f197:=Tryz.func253.trans (congrArg some (by kernel_rfl))
 f217:=Tryz.func169.trans (congrArg some (by kernel_rfl))
 f218:=Tryz.func254.trans (congrArg some (by kernel_rfl))
 f219:=Tryz.func255.trans (congrArg some (by kernel_rfl))
 f221:=Tryz.func248.trans (congrArg some (by kernel_rfl))
 f224:=Tryz.func177.trans (congrArg some (by kernel_rfl))
 f225:=Tryz.func178.trans (congrArg some (by kernel_rfl))
 f260:=Tryz.func256.trans (congrArg some (by kernel_rfl))
 f266:=Tryz.func171.trans (congrArg some (by kernel_rfl))
 f267:=Tryz.func257.trans (congrArg some (by kernel_rfl))
 f268:=Tryz.func249.trans (congrArg some (by kernel_rfl))
 f314:=Tryz.func258.trans (congrArg some (by kernel_rfl))
 t0:=Tryz.underlying0
 a0:=Tryz.isAgg0
 z0:=Tryz.sizeOf0
 v0:=Tryz.zeroValue0
 t3:=Tryz.underlying3
 a3:=Tryz.isAgg3
 z3:=Tryz.sizeOf3
 v3:=Tryz.zeroValue3
 t4:=Tryz.underlying4
 a4:=Tryz.isAgg4
 z4:=Tryz.sizeOf4
 v4:=Tryz.zeroValue4
 t5:=Tryz.underlying5
 a5:=Tryz.isAgg5
 z5:=Tryz.sizeOf5
 v5:=Tryz.zeroValue5
 t9:=Tryz.underlying9
 a9:=Tryz.isAgg9
 z9:=Tryz.sizeOf9
 v9:=Tryz.zeroValue9
 t21:=Tryz.underlying21
 a21:=Tryz.isAgg21
 z21:=Tryz.sizeOf21
 v21:=Tryz.zeroValue21
 t31:=Tryz.underlying67
 a31:=Tryz.isAgg67
 z31:=Tryz.sizeOf67
 v31:=Tryz.zeroValue67
 t46:=Tryz.underlying253
 a46:=Tryz.isAgg253
 z46:=Tryz.sizeOf253
 v46:=Tryz.zeroValue253
 t51:=Tryz.underlying271
 a51:=Tryz.isAgg271
 z51:=Tryz.sizeOf271
 v51:=Tryz.zeroValue271
 t105:=Tryz.underlying359
 a105:=Tryz.isAgg359
 z105:=Tryz.sizeOf359
 v105:=Tryz.zeroValue359
 t119:=Tryz.underlying361
 a119:=Tryz.isAgg361
 z119:=Tryz.sizeOf361
 t138:=Tryz.underlying363
 a138:=Tryz.isAgg363
 z138:=Tryz.sizeOf363
 v138:=Tryz.zeroValue363
 t139:=Tryz.underlying364
 a139:=Tryz.isAgg364
 z139:=Tryz.sizeOf364
 v139:=Tryz.zeroValue364
 t146:=Tryz.underlying365
 a146:=Tryz.isAgg365
 z146:=Tryz.sizeOf365
 v146:=Tryz.zeroValue365
 g1:=by kernel_rfl
 g3:=by kernel_rfl
 g4:=by kernel_rfl}
open Go.RowKit Go.Lib in
theorem Tryz.strings_Split (s sep:ByteArray) (m:Int) (w:World) (hs:s.size<4294967281) (hm:w.cell? ⟨1,0,none⟩=some (.int .i64 m)) (h1:1<=sep.size) :
 Calls Tryz.prog 247 #[.string s,.string sep] w λe w'=>
  e=.returned (.slice (some ⟨w.heap.size,0,none⟩) (Lib.countB s sep+1) (Lib.countB s sep+1))/\w'=w.alloc (.cells ((Lib.splitB sep 0 (Lib.countB s sep) s).map Value.string).toArray 9):=Any.strings_Split Tryz.lays146 (by kernel_rfl) s sep m w hs hm h1
end Go.Proofs
end
namespace Go.Proofs.YtfececghhgeapaaGreatDoor
section
open Go.RowKit Go.Maps bw aH
def iO (β:Bs):Prop:=∃m,Rd β ⟨1,0,none⟩ (.int .i64 m)
theorem iO.le {β β':Bs} (h:iO β) (dP:β.le β'):iO β':=h.imp λ_ h=>h.le dP
theorem DJ (s:ByteArray):(bQ s).length=Lib.countB s slash+1:=Lib.splitB_all slash d8 0 _ s rfl
theorem Aj (s:ByteArray):Lib.countB s slash<=s.size:=Lib.countB_le slash d8 _ s (N6 _)
theorem G4 (sep:ByteArray):∀(k:Nat) (s:ByteArray),∀p∈Lib.splitB sep 0 k s,p.size<=s.size
 |0,s,p,hp=>by
   rw [Lib.splitB_zero] at hp
   rw [aiD.1 hp];exact N6 _
 |k+1,s,p,hp=>by
   rcases Lib.indexB_cases s sep with fT|⟨i,fT,_⟩
   ·rw [Lib.splitB_miss sep 0 (k+1) s fT] at hp
    rw [aiD.1 hp];exact N6 _
   rw [Lib.splitB_hit sep 0 k s i fT] at hp
   rcases T8.1 hp with rfl|hp
   ·rw [aiU];omega
   have:=G4 sep k _ p hp
   rw [aiU] at this
   omega
theorem G5 {s p:ByteArray} (hp:p∈bQ s):p.size<=s.size:=G4 slash _ s p hp
def kx (ps:List ByteArray):List Value:=ps.map Value.string
theorem aae {β:Bs} (hg:iO β) (s:ByteArray) (hs:s.size<=1048576):aU Tryz.prog β 247 #[.string s,.string ⟨#[47]⟩] [] (λv l=>∃b,v=.slice (some ⟨b,0,none⟩) (bQ s).length (bQ s).length/\l=[.abs (aI 9 1 (some ⟨b,0,none⟩) (bQ s).length (bQ s).length (kx (bQ s)))]):=
 aU.NG λW hW=>by
  obtain⟨m,hg⟩:=hg
  have hm:W.cell? ⟨1,0,none⟩=some (.int .i64 m):=(World.cell?_of_block (w:=β.w0) (hW.old _ hg.1).2).trans hg.2
  have hl:=DJ s
  have hc:=Aj s
  refine (Tryz.strings_Split s slash m W d5 hm d8).mono ?_
  rintro e w' ⟨rfl,rfl⟩
  refine⟨_,_,rfl,⟨W.heap.size,by rw [hl],rfl⟩,(cL.refl _ _).alloc _,λk=>k=W.heap.size,⟨⟨?_,.inr ⟨W.heap.size,(bQ s).length,(kx (bQ s)).toArray,rfl,L4 _,?_,N6 _,?_,?_,?_⟩⟩,λk=>?_⟩,λk hk=>Nat.le_of_eq hk.symm⟩
  ·simp [kx]
  ·show (W.heap.push _)[W.heap.size]?=_
   simp [kx,bQ]
  ·unfold maxLen;omega
  ·first|(simp [kx];done)|(simp [kx];exact aiP nh)
  ·first|(simp [kx];done)|(simp [kx];exact aiP nh)
  simp [Value.ownBlock,eq_comm]
theorem W6 {β:Bs} {ps:List ByteArray} (hg:iO β) (s:ByteArray) (hs:s.size<=1048576) (hp:ps=bQ s):aU Tryz.prog β 247 #[.string s,.string ⟨#[47]⟩] [] (λv l=>∃b,v=.slice (some ⟨b,0,none⟩) ps.length ps.length/\l=[.abs (aI 9 1 (some ⟨b,0,none⟩) ps.length ps.length (kx ps))]):=by
 subst hp;exact aae hg s hs
def pc (ps:List ByteArray) (j:Nat):ByteArray:=ps.getD j ⟨#[]⟩
theorem Pu {ps:List ByteArray} {j:Nat} (hj:j<ps.length):pc ps j∈ps:=by
 grind [pc]
theorem Ak {ps:List ByteArray} {j:Nat} (hj:j<ps.length):(kx ps)[j]?=some (.string (pc ps j)):=by
 grind [kx,pc]
theorem mY {ps:List ByteArray} {j:Nat} (hj:j<ps.length):ps.drop j=pc ps j::ps.drop (j+1):=by
 unfold pc
 rw [aiw,T6 hj]
 exact aiR hj
theorem DK {ps:List ByteArray}:(∀p∈ps,bW p)↔∀j,j<ps.length->bW (pc ps j):=by
 refine⟨λh j hj=>h _ (Pu hj),λh p hp=>?_⟩
 obtain⟨j,hj,rfl⟩:=aiT hp
 grind [pc]
theorem Mq {n:ByteArray} (h:bW n):n.size<=1048576:=Pe h.2.1 d8
theorem Pv {O:eu}:∀{ps:List ByteArray} {d:Nat} {e:Int},pV O d ps=.error e->e≠0
 |[],d,e,h=>by cases h;decide
 |[p],d,e,h=>by
   unfold pV at h
   split at h
   ·cases h;decide
   cases h
 |p::q::r,d,e,h=>by
   unfold pV at h
   split at h
   ·cases h;decide
   split at h
   ·cases h;decide
   split at h
   ·cases h;decide
   exact Pv h
theorem yw {S:aZ} {d:Nat} (hI:bB S) (hd:aS S.ax ⟨d,2⟩) (path:ByteArray):(∃e,mV S.O d path=.error e/\e≠0)\/∃d' name,mV S.O d path=.ok (d',name)/\aS S.ax ⟨d',2⟩/\(ah S.O d').aJ=false/\bW name:=by
 cases h:mV S.O d path with
 |error e=>
   grind [mV,Pv]
 |ok x=>
   obtain⟨d',name⟩:=x
   exact .inr ⟨d',name,rfl,KW hI.toInv0 hd h⟩
section way
variable {O:eu} {d:Nat} {ps:List ByteArray} {j:Nat}
theorem Mr (hj:j+1=ps.length):pV O d (ps.drop j)=if (ah O d).aJ=true then .error 170 else .ok (d,pc ps j):=by
 grind [mY,pV,ah,pc]
theorem BJ (hj:j+1<ps.length):pV O d (ps.drop j)=match bF (pc ps j) (ah O d).aq with
 |none=>.error 170
 |some t=>if t.kind=3 then .error 174 else if t.kind=1 then .error 173 else pV O t.k (ps.drop (j+1)):=by
 rw [mY (j:=j) d5,mY (j:=j+1) hj]
 rfl
end way
section bytes
variable {P:Program} {β:Bs} {N:fP} {ops:Array Oper} {k:Nat} {fr:Fr} {ay:List HP} {Q:Post} {d:Option Tmp} {s:ByteArray}
theorem Bs.ok.ac9 {β:Bs} {w:World} (h:β.ok w) (F:Nat->Prop):β.le ⟨λk=>β.O k\/F k,w⟩:=⟨λ_ h=>.inl h,h.os,h.tape,h.output,h.size,λk hk=>h.old k hk⟩
theorem aB.DL {t1 t2 e:TypeId} {x:Operand} (cD:∀ar,iZ N ar ops fr k=some (.convert t1 t2 x,d)) (hx:∀ar,fo N fr ar x=.string s) (h1:P.underlying t1=some .string) (h2:P.underlying t2=some (.slice e)) (h3:P.underlying e=some (.int .u8))
 (K:∀b cap,s.data.toList.length<=cap->aB P β N ops (k+1) (eX fr d (.slice (some ⟨b,0,none⟩) s.data.toList.length cap)) (ay++[.abs (jL β (λβ'=>bO β' (some ⟨b,0,none⟩) s.data.toList))]) Q):aB P β N ops k fr ay Q:=by
 refine aB.Kr (ι:={p:Nat×Nat // s.data.toList.length<=p.2}) (v:=λp=>.slice (some ⟨p.1.1,0,none⟩) s.data.toList.length p.1.2) (dh:=λp=>ay++[.abs (jL β (λβ'=>bO β' (some ⟨p.1.1,0,none⟩) s.data.toList))]) cD (λo ar w ho hS=>?_) (λp=>K p.1.1 p.1.2 p.2)
 have hr:=run_bytes_of_string (P:=P) w t1 t2 e s h1 h2 h3
 have eV:s.data.toList.length=s.size:=Array.length_toList ..
 generalize hw:(w.drew.alloc (.cells (bytesRow s (grownCap w s.size 0 e)) e ((bytesRow s (grownCap w s.size 0 e)).size,(bytesRow s (grownCap w s.size 0 e)).size+1)))=w' at hr
 have hk:cL (λ_=>False) w w':=by rw [←hw];exact (cL.refl _ _).drew.alloc _
 have hok:=hS.1.keeps hk (λ_ _ h=>h)
 have hheap:w'.heap[w.heap.size]?=some (.cells (bytesRow s (grownCap w s.size 0 e)) e ((bytesRow s (grownCap w s.size 0 e)).size,(bytesRow s (grownCap w s.size 0 e)).size+1)):=by
  rw [←hw]
  show (w.heap.push _)[w.heap.size]?=_
  simp
 have hsize:w.heap.size<w'.heap.size:=by
  grind
 refine⟨⟨(w.heap.size,grownCap w s.size 0 e),by rw [eV];exact grownCap_ge w s.size 0 e⟩,w',.inl ?_,hS.new (F:=λk=>k=w.heap.size) ?_ hk (λk e=>Nat.le_of_eq e.symm)⟩
 ·obtain⟨dst,op,type,pos,after,guard⟩:=o
  cases ho
  have hr2:(convert t1 t2 (.string s)).run P w=.ok (.slice (some ⟨w.heap.size,0,none⟩) s.data.toList.length (grownCap w s.size 0 e)) w':=by rw [hr,eV]
  simp only [execOp,hx]
  simp [hr2,Result.andThen]
 refine⟨⟨λk=>β.O k\/k=w.heap.size,w'⟩,hok.ac9 _,λ_ h=>h,λ_ h=>.inr h,N6 _,λk hk=>⟨by rw [hk];exact hsize,rfl⟩,λj v hj=>⟨rfl,.inr rfl,?_⟩⟩
 show World.cell? w' ⟨w.heap.size,0+j,none⟩=some v
 have hj2:=dH hj
 unfold World.cell?
 rw [hheap]
 unfold d9 at hj hj2
 rw [aip] at hj2
 rw [List.getElem?_map,T6 hj2] at hj
 simp only [Option.map_some,Option.some.injEq] at hj
 subst hj
 unfold bytesRow
 grind [Dg]
end bytes
theorem JO {β:Bs} (S:aZ) (L:HL) (f m t:Nat) (hI:bB S) (k:Nat) (hk:aS S.ax ⟨k,1⟩) (A:Option Addr) (c:Nat) (bs:List UInt8) (hbl:bs.length<=1099511627776) (hbc:bs.length<=c) :
 aU Tryz.prog β 227 #[vP f,vP (L.b k),.slice A bs.length c] (.abs (jL β (λβ'=>bO β' A bs))::pA f m t L S) (λv l=>∃L2,v=.tuple #[vI (iC S k bs).1,vI (iC S k bs).2.1]/\l=pA f m t L2 (iC S k bs).2.2):=
 aU.UA λ_ _ hA=>W5 S L f m t hI k hk A c bs hA hbl hbc
def Iz (L:HL):Except Int (Nat×ByteArray)->Value
 |.error e=>.tuple #[.pointer none,.string ⟨#[]⟩,.int .i64 e]
 |.ok (d,p)=>.tuple #[.pointer (some ⟨L.b d,0,none⟩),.string p,.int .i64 0]
noncomputable section
abbrev jT (h:Int) (name:ByteArray):aK:=⟨2,h,0,name,⟨#[]⟩,none,0,[],0,0,0,0,0,0,0⟩
abbrev BK (h:Int) (name:ByteArray) (mode:Int):aK:=⟨4,h,0,name,⟨#[]⟩,none,0,[],mode,0,0,0,0,0,0⟩
abbrev fL (h:Int):aK:=⟨13,h,0,⟨#[]⟩,⟨#[]⟩,none,0,[],0,0,0,0,0,0,0⟩
structure JQ where
 S:aZ
 n:Nat
 next:Int
 made:Bool
 code:Int
section
variable (fs:List ck) (xs:List cI) (af:Int)
def dK (S:aZ) (n:Nat) (cur:Int) (part:ByteArray) (mode:Int):JQ:=
 let a:=bq fs xs af (n+1) S (jT cur part)
 if a.2.code=0 then ⟨a.1,n+1,a.2.answer,false,0⟩
 else if ¬a.2.code=170\/mode<0 then ⟨a.1,n+1,0,false,a.2.code⟩
 else
  let b:=bq fs xs af (n+2) a.1 (BK cur part mode)
  if ¬b.2.code=0/\¬b.2.code=171 then ⟨b.1,n+2,0,false,b.2.code⟩
  else
   let d:=bq fs xs af (n+3) b.1 (jT cur part)
   if d.2.code=0 then ⟨d.1,n+3,d.2.answer,decide (b.2.code=0),0⟩ else ⟨d.1,n+3,0,decide (b.2.code=0),d.2.code⟩
structure Ms where
 S:aZ
 n:Nat
 cur:Int
 own:Bool
 made:Int
 code:Int
 at_:Int
def mH (S:aZ) (n:Nat) (cur:Int) (own:Bool) (made code at_:Int):Ms:=
 if own=true then ⟨(bq fs xs af (n+1) S (fL cur)).1,n+1,0,false,made,code,at_⟩ else ⟨S,n,0,false,made,code,at_⟩
def jw (mode:Int):List ByteArray->Int->aZ->Nat->Int->Bool->Int->Ms
 |[],_,S,n,cur,own,made=>⟨S,n,cur,own,made,0,0⟩
 |p::r,i,S,n,cur,own,made=>
   let a:=dK fs xs af S n cur p mode
   let m2:=if a.made=true then made+1 else made
   if a.code=0 then if own=true then
    let b:=bq fs xs af (a.n+1) a.S (fL cur)
    if b.2.code=0 then jw mode r (i+1) b.1 (a.n+1) a.next true m2
    else mH fs xs af b.1 (a.n+1) a.next true m2 b.2.code i
   else jw mode r (i+1) a.S a.n a.next true m2
   else mH fs xs af a.S a.n cur own m2 a.code i
end
section
variable {fs:List ck} {xs:List cI} {af:Int} {S S2:aZ} {c2:aK} {n:Nat} {cur mode made i:Int} {own:Bool} {p:ByteArray} {r:List ByteArray} {h:Int} {name:ByteArray}
theorem E8:jw fs xs af mode [] i S n cur own made=⟨S,n,cur,own,made,0,0⟩:=rfl
theorem rG (h:¬(dK fs xs af S n cur p mode).code=0):jw fs xs af mode (p::r) i S n cur own made=mH fs xs af (dK fs xs af S n cur p mode).S (dK fs xs af S n cur p mode).n cur own (if (dK fs xs af S n cur p mode).made=true then made+1 else made) (dK fs xs af S n cur p mode).code i:=nw h
theorem vl (h:(dK fs xs af S n cur p mode).code=0) (ho:own=true) (h2:(bq fs xs af ((dK fs xs af S n cur p mode).n+1) (dK fs xs af S n cur p mode).S (fL cur)).2.code=0):jw fs xs af mode (p::r) i S n cur own made=jw fs xs af mode r (i+1) (bq fs xs af ((dK fs xs af S n cur p mode).n+1) (dK fs xs af S n cur p mode).S (fL cur)).1 ((dK fs xs af S n cur p mode).n+1) (dK fs xs af S n cur p mode).next true (if (dK fs xs af S n cur p mode).made=true then made+1 else made):=
 (t8 h).trans ((t8 ho).trans (t8 h2))
theorem vU (h:(dK fs xs af S n cur p mode).code=0) (ho:own=true) (h2:¬(bq fs xs af ((dK fs xs af S n cur p mode).n+1) (dK fs xs af S n cur p mode).S (fL cur)).2.code=0):jw fs xs af mode (p::r) i S n cur own made=mH fs xs af (bq fs xs af ((dK fs xs af S n cur p mode).n+1) (dK fs xs af S n cur p mode).S (fL cur)).1 ((dK fs xs af S n cur p mode).n+1) (dK fs xs af S n cur p mode).next true (if (dK fs xs af S n cur p mode).made=true then made+1 else made) (bq fs xs af ((dK fs xs af S n cur p mode).n+1) (dK fs xs af S n cur p mode).S (fL cur)).2.code i:=
 (t8 h).trans ((t8 ho).trans (nw h2))
theorem xq (h:(dK fs xs af S n cur p mode).code=0) (ho:¬own=true):jw fs xs af mode (p::r) i S n cur own made=jw fs xs af mode r (i+1) (dK fs xs af S n cur p mode).S (dK fs xs af S n cur p mode).n (dK fs xs af S n cur p mode).next true (if (dK fs xs af S n cur p mode).made=true then made+1 else made):=
 (t8 h).trans (nw ho)
theorem Mt {k:Nat} {bs:List UInt8}:(iC S k bs).2.2.us=S.us/\(iC S k bs).2.2.aL=S.aL:=by
 unfold iC;(repeat' split)<;>exact⟨rfl,rfl⟩
theorem ada {a:cI}:(cK S af a).2.us=S.us/\(cK S af a).2.aL=S.aL:=by
 unfold cK
 split
 ·exact⟨rfl,rfl⟩
 split
 ·exact⟨rfl,rfl⟩
 split
 ·split
  ·exact⟨rfl,rfl⟩
  unfold nJ
  split
  ·unfold qQ;split
   ·exact Mt
   exact⟨rfl,rfl⟩
  split
  ·unfold lP;split<;>exact⟨rfl,rfl⟩
  split
  ·unfold j4;(repeat' split)<;>exact⟨rfl,rfl⟩
  split
  ·unfold iW;(repeat' split)<;>exact⟨rfl,rfl⟩
  split
  ·unfold jt;(repeat' split)<;>exact⟨rfl,rfl⟩
  split
  ·split
   ·exact⟨rfl,rfl⟩
   unfold dG;(repeat' split)<;>exact⟨rfl,rfl⟩
  unfold oG;split
  ·exact⟨rfl,rfl⟩
  split
  ·exact⟨rfl,rfl⟩
  split
  ·exact⟨rfl,rfl⟩
  exact Mt
 exact⟨rfl,rfl⟩
theorem Al:∀{xs:List cI} {S:aZ},(jh af S xs).us=S.us/\(jh af S xs).aL=S.aL
 |[],_=>⟨rfl,rfl⟩
 |a::r,S=>by
   have h1:=ada (S:=S) (af:=af) (a:=a)
   have h2:=Al (xs:=r) (S:=(cK S af a).2)
   exact⟨h2.1.trans h1.1,h2.2.trans h1.2⟩
theorem Cr {c:aK} (h1:c.op≠1) (h9:c.op≠9):bq fs xs af n S c=fF (jh af S (dm xs n)) c\/∃e,(e=180\/e=176)/\bq fs xs af n S c=(if c.op=13 then (fF (jh af S (dm xs n)) c).1 else jh af S (dm xs n),iI c e):=by
 have hr:cr af c=c:=nw h1
 unfold bq
 rw [hr]
 unfold dY
 split
 ·exact .inr ⟨180,.inl rfl,rfl⟩
 split
 ·rename_i q;exact .inr ⟨176,.inr rfl,by rw [nw d5]⟩
 split
 ·rename_i q;exact KB q.2.1 h9
 exact .inl rfl
theorem W7 {O:eu} {us:bC Th} {fH e:Int} (h':ic O us h name fH=.error e):e≠0:=by
 unfold ic at h'
 (repeat' split at h')<;>(first|cases h'|skip)<;>decide
theorem W8 {O:eu} {us:bC Th} {c:aK} {e:Int} (h':jU O us c=.error e):e≠0:=by
 unfold jU at h'
 split at h'
 ·rename_i h2;cases h';exact W7 h2
 split at h'
 ·cases h';decide
 cases h'
theorem Pw {S2:aZ} {c2:aK} (e:fF S (jT h name)=(S2,c2)) :
 (c2.code=0/\∃t,c2.answer=aR S.us/\S2.us=ins (aR S.us) t S.us/\S2.aL=max S.aL ((S.us.length:Int)+1))\/(c2.code≠0/\c2.answer=0/\S2=S):=by
 unfold fF at e
 rw [uj (c:={jT h name with answer:=0,code:=230}) rfl] at e
 unfold gh at e
 split at e
 ·rename_i h1;cases e;exact .inr ⟨W8 h1,rfl,rfl⟩
 split at e
 ·cases e;exact .inr ⟨by show (174:Int)≠0;decide,rfl,rfl⟩
 split at e
 ·cases e;exact .inr ⟨by show (173:Int)≠0;decide,rfl,rfl⟩
 rename_i t h1 h3 h2
 by_cases hl:(S.us.length:Int)<S.X.cH
 ·rw [mB hl] at e
  cases e
  exact .inl ⟨rfl,t,rfl,rfl,rfl⟩
 rw [om hl] at e
 cases e
 exact .inr ⟨by show (130:Int)≠0;decide,rfl,rfl⟩
theorem G6 {S2:aZ} {c2:aK} (e:bq fs xs af n S (jT h name)=(S2,c2)) :
 (c2.code=0/\∃t,c2.answer=aR S.us/\S2.us=ins (aR S.us) t S.us/\S2.aL=max S.aL ((S.us.length:Int)+1))\/(c2.code≠0/\c2.answer=0/\S2.us=S.us/\S2.aL=S.aL):=by
 have hu:=Al (af:=af) (S:=S) (xs:=dm xs n)
 rcases Cr (fs:=fs) (xs:=xs) (af:=af) (n:=n) (S:=S) (c:=jT h name) (by show (2:Int)≠1;decide) (by show (2:Int)≠9;decide) with h1|⟨k,hk,h1⟩
 ·rw [h1] at e
  rcases Pw e with h|⟨h2,h3,h4⟩
  ·rw [hu.1,hu.2] at h;exact .inl h
  exact .inr ⟨h2,h3,by rw [h4];exact hu.1,by rw [h4];exact hu.2⟩
 rw [h1] at e
 cases e
 exact .inr ⟨by show k≠0;omega,rfl,hu.1,hu.2⟩
theorem Px {V:Type}:∀(us:List (Int×V)) (h:Int),kS h (aY us)<=h+us.length
 |[],h=>by show h<=_;simp
 |p::r,h=>by
   show (if p.1=h then kS (h+1) (aY r) else h)<=_
   have:=Px r (h+1)
   rw [aix]
   split<;>omega
theorem Py (hI:bB S) {S2:aZ} {c2:aK} (e:bq fs xs af n S (jT h name)=(S2,c2)):(Lit.int .i64 c2.answer).wf=true:=by
 rcases G6 e with ⟨_,t,h1,_⟩|⟨_,h1,_⟩
 ·rw [h1]
  have a1:=Px S.us 1
  have a2:=(least_le hI.usr (λx hx=>(hI.wC x hx).1)).1
  have a3:=hI.EP
  have a4:=hI.cH
  unfold aH.aR at a2 ⊢
  exact WalkArith.wf_i64 d5
 rw [h1];rfl
attribute [local irreducible] bq
section ways
variable {S1 S2 S3:aZ} {c1 c2 c3:aK}
theorem DM (e1:bq fs xs af (n+1) S (jT cur p)=(S1,c1)) (h1:c1.code=0):dK fs xs af S n cur p mode=⟨S1,n+1,c1.answer,false,0⟩:=by
 unfold dK;simp only [e1,t8 h1]
theorem yx (e1:bq fs xs af (n+1) S (jT cur p)=(S1,c1)) (h1:¬c1.code=0) (h2:¬c1.code=170\/mode<0):dK fs xs af S n cur p mode=⟨S1,n+1,0,false,c1.code⟩:=by
 unfold dK;simp only [e1,nw h1,t8 h2]
theorem E9 (e1:bq fs xs af (n+1) S (jT cur p)=(S1,c1)) (h1:¬c1.code=0) (h2:¬(¬c1.code=170\/mode<0)) (e2:bq fs xs af (n+2) S1 (BK cur p mode)=(S2,c2)) (h3:¬c2.code=0/\¬c2.code=171):dK fs xs af S n cur p mode=⟨S2,n+2,0,false,c2.code⟩:=by
 unfold dK;simp only [e1,e2,nw h1,nw h2,t8 h3]
theorem Am (e1:bq fs xs af (n+1) S (jT cur p)=(S1,c1)) (h1:¬c1.code=0) (h2:¬(¬c1.code=170\/mode<0)) (e2:bq fs xs af (n+2) S1 (BK cur p mode)=(S2,c2)) (h3:¬(¬c2.code=0/\¬c2.code=171)) (e3:bq fs xs af (n+3) S2 (jT cur p)=(S3,c3)) (h4:c3.code=0):dK fs xs af S n cur p mode=⟨S3,n+3,c3.answer,decide (c2.code=0),0⟩:=by
 unfold dK;simp only [e1,e2,e3,nw h1,nw h2,nw h3,t8 h4]
theorem BL (e1:bq fs xs af (n+1) S (jT cur p)=(S1,c1)) (h1:¬c1.code=0) (h2:¬(¬c1.code=170\/mode<0)) (e2:bq fs xs af (n+2) S1 (BK cur p mode)=(S2,c2)) (h3:¬(¬c2.code=0/\¬c2.code=171)) (e3:bq fs xs af (n+3) S2 (jT cur p)=(S3,c3)) (h4:¬c3.code=0):dK fs xs af S n cur p mode=⟨S3,n+3,0,decide (c2.code=0),c3.code⟩:=by
 unfold dK;simp only [e1,e2,e3,nw h1,nw h2,nw h3,nw h4]
end ways
theorem Fa:(dK fs xs af S n cur p mode).n<=n+3:=by
 unfold dK
 simp only
 repeat' split
 all_goals (simp only;omega)
theorem DN (hI:bB S):bB (dK fs xs af S n cur p mode).S:=by
 unfold dK
 simp only
 repeat' split
 all_goals first|exact hI.bq|exact hI.bq.bq|exact hI.bq.bq.bq
theorem adb:(Lit.int .i64 0).wf=true:=d8
theorem K9 (hI:bB S):(Lit.int .i64 (dK fs xs af S n cur p mode).next).wf=true:=by
 unfold dK
 simp only
 repeat' split
 all_goals first|exact Py hI rfl|exact Py hI.bq.bq rfl|exact adb
theorem Ar (e1:bq fs xs af (n+1) S (fL cur)=(S2,c2)) {code at_:Int}:mH fs xs af S n cur true made code at_=⟨S2,n+1,0,false,made,code,at_⟩:=by
 unfold mH;rw [t8 rfl,e1]
theorem IB {code at_:Int}:mH fs xs af S n cur false made code at_=⟨S,n,0,false,made,code,at_⟩:=rfl
theorem aaf {d:List ByteArray}:∀u∈kx d,u.oneCell'=true:=by
 intro u hu
 obtain⟨b,_,rfl⟩:=aik.1 hu
 rfl
theorem W9 {d:List ByteArray}:(kx d).length=d.length:=by simp [kx]
def jg (β:Bs) (A:Option Addr) (ps:List ByteArray):Prop:=cq β A (kx ps)
variable {β β':Bs} {A:Option Addr} {ps:List ByteArray} {j:Nat}
theorem jg.le (h:jg β A ps) (dP:β.le β'):jg β' A ps:=cq.le h dP
theorem jg.get (h:jg β A ps) (hj:j<ps.length):A=some ⟨bG A,bE A,none⟩/\Rd β ⟨bG A,bE A+j*1,none⟩ (.string (pc ps j)):=by
 have:=h j _ (Ak hj)
 rw [Nat.mul_one]
 exact this
theorem jg.hd (h:jg β A ps) (hj:j<ps.length):A=some ⟨bG A,bE A,none⟩:=(h.get hj).1
theorem jg.rd (h:jg β A ps) (hj:j<ps.length):Rd β ⟨bG A,bE A+j*1,none⟩ (.string (pc ps j)):=(h.get hj).2
end
end
end
section
open Go.RowKit Go.Maps
structure La (ns:List aO) (i j:Nat):Prop where
 lti:i<ns.length
 Mu:j<(nd ns i).aq.length
 dir:(nd ns (bZ ns (bR ns i j).id)).kind=2
section
variable {ns:List aO}
theorem Au {i m:Nat} {p:Nat×Nat}:p∈iG ns i m↔∃j,j<m/\(nd ns (bZ ns (bR ns i j).id)).kind=2/\p=(bZ ns (bR ns i j).id,i):=by
 induction m with
 |zero=>simp [iG]
 |succ m ih=>
   grind [nd,bZ,bR,qu,q8]
theorem DP {m:Nat} {p:Nat×Nat}:p∈jx ns m↔∃i j,i<m/\j<(nd ns i).aq.length/\(nd ns (bZ ns (bR ns i j).id)).kind=2/\p=(bZ ns (bR ns i j).id,i):=by
 induction m with
 |zero=>simp [jx]
 |succ m ih=>
   grind [jx,Au]
theorem La.mem {i j:Nat} (h:La ns i j):(bZ ns (bR ns i j).id,i)∈jx ns ns.length:=DP.2 ⟨i,j,h.lti,h.Mu,h.dir,rfl⟩
def ab5 (ns:List aO) (m:Nat):Prop:=∀i j i' j',La ns i j->La ns i' j'->i<m->i'<m->bZ ns (bR ns i j).id=bZ ns (bR ns i' j').id->i=i'/\j=j'
theorem Xa {i m:Nat} (h:((iG ns i m).map Prod.fst).Nodup):∀j j',j<m->j'<m->(nd ns (bZ ns (bR ns i j).id)).kind=2->(nd ns (bZ ns (bR ns i j').id)).kind=2->bZ ns (bR ns i j).id=bZ ns (bR ns i j').id->j=j':=by
 induction m with
 |zero=>intro j j' hj;omega
 |succ m ih=>
   intro j j' hj hj' hk jA e
   by_cases hm:(nd ns (bZ ns (bR ns i m).id)).kind=2
   ·rw [qu hm,aiB,ai6] at h
    rcases Pd.1 hj with e1|e1
    ·rcases Pd.1 hj' with e2|e2
     ·exact ih h.2 j j' e1 e2 hk jA e
     subst e2;exact KB (aik.2 ⟨_,Au.2 ⟨j,e1,hk,rfl⟩,e⟩) h.1
    rcases Pd.1 hj' with e2|e2
    ·subst e1;exact KB (aik.2 ⟨_,Au.2 ⟨j',e2,jA,rfl⟩,e.symm⟩) h.1
    omega
   grind [q8]
theorem Xb {m:Nat} (h:((jx ns m).map Prod.fst).Nodup):ab5 ns m:=by
 induction m with
 |zero=>intro i j i' j' _ _ hi;omega
 |succ m ih=>
   rw [jx,aiM] at h
   obtain⟨h1,h2,h3⟩:=List.nodup_append.1 h
   intro i j i' j' g g' hi hi' e
   rcases Pd.1 hi with e1|e1
   ·rcases Pd.1 hi' with e2|e2
    ·exact ih h2 i j i' j' g g' e1 e2 e
    subst e2
    exact KB e.symm (h3 _ (aik.2 ⟨_,Au.2 ⟨j',g'.Mu,g'.dir,rfl⟩,rfl⟩) _ (aik.2 ⟨_,DP.2 ⟨i,j,e1,g.Mu,g.dir,rfl⟩,rfl⟩))
   rcases Pd.1 hi' with e2|e2
   ·subst e1
    exact KB e (h3 _ (aik.2 ⟨_,Au.2 ⟨j,g.Mu,g.dir,rfl⟩,rfl⟩) _ (aik.2 ⟨_,DP.2 ⟨i',j',e2,g'.Mu,g'.dir,rfl⟩,rfl⟩))
   subst e1;subst e2
   exact⟨rfl,Xa h1 j j' g.Mu g'.Mu g.dir g'.dir e⟩
def Lb (ns:List aO) (d:Nat->Nat):Prop:=∀i j,La ns i j->d i<d (bZ ns (bR ns i j).id)
theorem cE.uniq (h:cE ns):ab5 ns ns.length:=Xb h.nodup
theorem cE.deep (h:cE ns):∃d,Lb ns d:=by
 refine⟨λk=>Classical.choose (h.ends (nd ns k).id),λi j g=>?_⟩
 have hp:=zT (ns:=ns) (N6 _) h.aq
 have hat:=(h.aq i g.lti j g.Mu).at_
 have htl:=mR hat
 have e1:=Classical.choose_spec (h.ends (nd ns i).id)
 have e2:=Classical.choose_spec (h.ends (nd ns (bZ ns (bR ns i j).id)).id)
 show Classical.choose (h.ends (nd ns i).id)<Classical.choose (h.ends (nd ns (bZ ns (bR ns i j).id)).id)
 generalize Classical.choose (h.ends (nd ns i).id)=x at e1 ⊢
 generalize Classical.choose (h.ends (nd ns (bZ ns (bR ns i j).id)).id)=y at e2 ⊢
 cases hu:up ((jx ns ns.length).map (lC ns)) (nd ns (bZ ns (bR ns i j).id)).id with
 |none=>
   have:=R9 hu
   exact KB (aik.2 ⟨_,g.mem,rfl⟩) this
 |some z=>
   obtain⟨_,p,g1,g2,g3⟩:=Sd h.fU htl.1 (λp dh=>(hp p dh).1) hu
   obtain⟨a,b,ha,hb,hk,rfl⟩:=DP.1 g1
   have g2:bZ ns (bR ns a b).id=bZ ns (bR ns i j).id:=g2
   obtain⟨rfl,rfl⟩:=h.uniq a b i j ⟨ha,hb,hk⟩ g ha g.lti g2
   have g3:z=(nd ns a).id:=g3
   cases y with
   |zero=>
     have e2:up _ _=none:=e2
     rw [hu] at e2;cases e2
   |succ y=>
     obtain⟨z',h1,h2⟩:=e2
     rw [hu] at h1
     cases h1
     rw [g3] at h2
     have:=e1.uniq h2
     show x<y+1
     omega
end
end
section
open Go.RowKit Go.Maps bw aH
structure kW (X:FM):Prop where
 cN:0<=X.cN/\X.cN<=4096
 cB:0<=X.cB/\X.cB<=1099511627776
 cH:0<=X.cH/\X.cH<=1024
 now:iU X.cS X.cZ
def j6 (n:aO):Nat:=n.id.toNat
def vm (n:aO):Th:=⟨j6 n,n.kind⟩
def wD (n:aO):bV:=⟨n.id,n.mode,n.cM,n.cO,n.bH,n.bh,0,0,false,n.kind,n.data,n.target,[],none⟩
def Nz:bV:=⟨0,0,0,0,0,0,0,0,false,0,[],⟨#[]⟩,[],none⟩
def BM (X:FM):aZ:=⟨{X with last:=0,aq:=0,used:=0},λ_=>Nz,[],[],0⟩
def gi (S:aZ) (n:aO):aZ:={S with X:={S.X with last:=n.id,used:=S.X.used+n.data.length},O:=bD S.O (j6 n) (λ_=>wD n),ax:=ins n.id (vm n) S.ax}
def qC (ns:List aO) (e:fO):Th:=vm (nd ns (bZ ns e.id))
def rO (ns:List aO) (S:aZ) (n:aO) (e:fO):aZ:={S with X:={S.X with aq:=S.X.aq+1},O:=uz S.O (j6 n) e.name (qC ns e)}
def fZ (ns:List aO):Nat->Nat
 |0=>0
 |k+1=>fZ ns k+(nd ns k).data.length
def IC (ns:List aO):bC Th:=ns.map (λn=>(n.id,vm n))
structure xH (X:FM) (ns:List aO) (k:Nat) (S:aZ):Prop where
 inv:Inv0 S
 ax:S.ax=IC (ns.take k)
 us:S.us=[]
 aL:S.aL=0
 cap:S.X={X with last:=qK ns k,aq:=0,used:=(fZ ns k:Int)}
 ob:∀a,a<k->ah S.O (j6 (nd ns a))=wD (nd ns a)
 free:∀x,(∀a,a<k->x≠j6 (nd ns a))->ah S.O x=Nz
section base
variable {X:FM} {ns:List aO} {i j k a b:Nat} {S:aZ}
theorem JR (h:cE ns) (hk:k<ns.length):(j6 (nd ns k):Int)=(nd ns k).id:=by
 have:=h.ids k hk
 unfold j6;omega
theorem zl (h:cE ns) (ha:a<ns.length) (hb:b<ns.length) (e:j6 (nd ns a)=j6 (nd ns b)):a=b:=
 h.fU.inj ha hb (by grind [JR])
theorem Fb (hk:k<ns.length):ns[k]?=some (nd ns k):=getD_some hk
theorem ade (hk:k<ns.length):ns.take (k+1)=ns.take k++[nd ns k]:=by
 rw [aiC,Fb hk];rfl
theorem Xc (hX:kW X):xH X ns 0 (BM X):=by
 refine⟨?_,rfl,rfl,rfl,rfl,λa h=>KB h (N5 a),λ_ _=>rfl⟩
 have hn:∀t,¬aS ([]:bC Th) t:=λt h=>by cases h
 exact⟨hX.cN,hX.cB,hX.cH,hX.now,by show (0:Int)<=0/\(0:Int)<=_;omega,.nil,L4 _,λ_ _ e=>(by cases e),λt h=>KB h (hn t),λt h=>KB h (hn t),λt h=>KB h (hn t),λt h=>KB h (hn t),
  λ_ _=>⟨rfl,rfl⟩,λ_ _=>rfl,⟨rfl,by show (0:Int)<=8192;omega⟩,λt h=>KB h (hn t),λt h=>KB h (hn t),λt h=>KB h (hn t),.nil,λx hx=>(by cases hx),(by show ((0:Nat):Int)<=X.cH;have:=hX.cH;omega),⟨Int.le_refl _,hX.cH.1⟩,λ_ _ e=>(by cases e),λt h=>KB h (hn t),λt h=>KB h (hn t),⟨λ_=>0,λk d e=>(by cases e)⟩,⟨rfl,by show (0:Int)<=_;omega⟩⟩
theorem SC (h:cE ns) (hk:k<ns.length):∀x∈aY (IC (ns.take k)),x<(nd ns k).id:=by
 intro x hx
 obtain⟨p,hp,rfl⟩:=aik.1 hx
 obtain⟨n,hn,rfl⟩:=aik.1 hp
 obtain⟨a,ha,e⟩:=aiJ.1 hn
 rw [aiz] at ha
 rw [List.getElem_take] at e
 have e2:nd ns a=n:=by
  grind [Fb,aY,IC,nd]
 rw [←e2]
 exact h.fU a k d5 hk
theorem Mv (hd:∀i,i<ns.length->(nd ns i).data.length<=1048576) (hk:k<=ns.length):fZ ns k<=1048576*k:=by
 induction k with
 |zero=>exact N6 _
 |succ k ih=>
   grind [fZ,nd]
theorem Fc (h:cE ns) (hd:∀i,i<ns.length->(nd ns i).data.length<=1048576) (hk:k<ns.length) (hB:xH X ns k S):xH X ns (k+1) (gi S (nd ns k)):=by
 have hs:=Mv hd (aja hk)
 have hn:=h.node k hk
 have hid:=JR h hk
 have yH:=h.ids k hk
 have hu:S.X.used=(fZ ns k:Int):=by rw [hB.cap]
 have hl:S.X.last=qK ns k:=by rw [hB.cap]
 have jX:=h.len
 have hdk:=hd k hk
 have ahT:S.ax.length=k:=by
  rw [hB.ax];unfold IC;rw [aip,aiz];omega
 have h1:=hB.inv.newAt (k0:=j6 (nd ns k)) (o:=wD (nd ns k)) (sC:=S.X.used+(nd ns k).data.length) (us':=S.us) (lH:=S.aL) (by rw [hid,hl];exact h.last hk) (by rw [hid];exact yH.2) ⟨rfl,by rw [hu];omega⟩ hid.symm
  (by have:=hn.kind;show (nd ns k).kind=1\/(nd ns k).kind=2\/(nd ns k).kind=3;omega) rfl rfl rfl rfl
  ⟨hn.mode,hn.cM,hn.cO,hn.time,λe=>aiK (hn.data e),λ_=>rfl,hn.target⟩ d5
  hB.inv.usr hB.inv.wC hB.inv.EP hB.inv.aL (λh t e=>⟨.inl (hB.inv.us h t e).1,(hB.inv.us h t e).2⟩) (λ_ _=>rfl) (by rw [hB.us];rfl)
 rw [hid] at h1
 refine⟨h1,?_,hB.us,hB.aL,?_,λa ha=>?_,λx hx=>(show ah (bD S.O (j6 (nd ns k)) λ_=>wD (nd ns k)) x=Nz from (jk (hx k (aiA k))).trans (hB.free x λa ha=>hx a (Nat.lt_succ_of_lt ha)))⟩
 ·show ins (nd ns k).id (vm (nd ns k)) S.ax=_
  rw [hB.ax,OD (SC h hk),ade hk]
  unfold IC;rw [aiM];rfl
 ·show ({S.X with last:=(nd ns k).id,used:=S.X.used+((nd ns k).data.length:Int)}:FM)=_
  rw [hu,hB.cap]
  show (⟨_,_,_,_,_,_,_,_⟩:FM)=⟨_,_,_,_,_,_,_,_⟩
  congr 1
 show ah (bD S.O (j6 (nd ns k)) (λ_=>wD (nd ns k))) (j6 (nd ns a))=_
 rcases Pd.1 ha with e|e
 ·rw [jk (λe2=>by grind [zl])]
  exact hB.ob a e
 subst e;exact iF
theorem xH.fresh (h:cE ns) (hk:k<ns.length) (hB:xH X ns k S):Bv S.O S.ax S.us (j6 (nd ns k)):=hB.inv.KT (by rw [JR h hk,hB.cap];exact h.last hk)
theorem xH.new (h:cE ns) (hk:k<ns.length) (hB:xH X ns k S):aH.get S.ax (nd ns k).id=none:=get_none.2 (λhm=>by
 rw [hB.ax] at hm
 exact KB (SC h hk _ hm) d5)
theorem IE (X:FM) (L:HL):(∀k,fV (BM X).O L k=eG.none)/\(∀k,eY (BM X).O L k=eG.none)/\∀k,iE (BM X).O L k=eG.none:=⟨λ_=>t8 rfl,λ_=>nw (by show ¬(0:Int)=1;omega),λ_=>nw (by show ¬(0:Int)=2;omega)⟩
theorem aP.ags {β:Bs} {l l':List HP} {w:World} {i j b m c:Nat} {ix:List Nat} {O:eu} {L L':HL} {A:Option Addr} {o:bV} (h:aP β l w) (hL:L'=L.put k b m A c) (hp:l[i]?=some (.abs (bp (eY O L)))) (hq:l[j]?=some (.abs (aI 5 1 A o.data.length c (d9 o.data)))) (hd:bU (i::j::ix)=true) (hl:cT l ix=some l') (h1:o.kind=1):aP β (.abs (bp (eY (bD O k (λ_=>o)) L'))::l') w:=by
 refine h.yX hp hq (λ_ _ h=>h) hd hl k (λx hx=>by rw [Jm hx,KU hL hx]) ?_
 grind [zU,iF,HL.put]
end base
theorem adf {O:eu} {L:HL} {d:Nat} {name:ByteArray} {t:Th}:eY (uz O d name t) L=eY O L:=
 zZ (λ_=>Ih (g:=bV.data) (λ_ _=>rfl) (λ_ _=>rfl) (λ_ _=>rfl)) (λ_=>EK)
def vV (ns:List aO) (i j a:Nat):Nat:=if a<i then (nd ns a).aq.length else if a=i then j else 0
def uI (ns:List aO) (a m:Nat):jj Th:=((nd ns a).aq.take m).map (λe=>(e.name,qC ns e))
structure kV (X:FM) (ns:List aO) (i j:Nat) (S:aZ):Prop where
 inv:Inv0 S
 ax:S.ax=IC ns
 us:S.us=[]
 aL:S.aL=0
 cap:S.X={X with last:=qK ns ns.length,aq:=((dX ns i+j:Nat):Int),used:=(fZ ns ns.length:Int)}
 ob:∀a,a<ns.length->∃l u,ah S.O (j6 (nd ns a))={wD (nd ns a) with aT:=l,aq:=uI ns a (vV ns i j a),up:=u}
 free:∀x,(∀a,a<ns.length->x≠j6 (nd ns a))->ah S.O x=Nz
section aq
variable {X:FM} {ns:List aO} {i j k a b m:Nat} {S:aZ} {t:Th}
theorem xH.aq (h:xH X ns ns.length S):kV X ns 0 0 S:=by
 refine⟨h.inv,by rw [h.ax,aiP (N6 _)],h.us,h.aL,h.cap,λa ha=>⟨0,none,?_⟩,h.free⟩
 rw [h.ob a ha]
 have:vV ns 0 0 a=0:=by
  grind [vV]
 rw [this];rfl
theorem kV.get (h:kV X ns i j S) (ha:a<ns.length):aH.get S.ax (nd ns a).id=some (vm (nd ns a)):=by
 refine oy h.inv.fU ?_
 rw [h.ax]
 exact aik.2 ⟨nd ns a,aiF (Fb ha),rfl⟩
theorem kV.live (hG:cE ns) (h:kV X ns i j S) (ha:a<ns.length):aS S.ax (vm (nd ns a)):=by
 have:=h.get ha
 rw [←JR hG ha] at this
 exact this
theorem kV.of (h:kV X ns i j S) {x:Int} (e:aH.get S.ax x=some t):∃a,a<ns.length/\t=vm (nd ns a):=by
 have hm:=get_mem e
 rw [h.ax] at hm
 obtain⟨n,hn,e2⟩:=aik.1 hm
 obtain⟨a,ha,e3⟩:=aiJ.1 hn
 have e4:nd ns a=n:=by
  grind [Fb,vm,nd]
 cases e2
 exact⟨a,ha,by rw [e4]⟩
theorem Pz {es:List fO} {q:Nat} (hq:q<es.length):es[q]?=some (en es q):=getD_some hq
theorem DQ {e:ByteArray×Th} (h:e∈uI ns a m):∃q,q<m/\q<(nd ns a).aq.length/\e.1=(bR ns a q).name/\e.2=qC ns (bR ns a q):=by
 obtain⟨x,hx,rfl⟩:=aik.1 h
 obtain⟨q,hq,e⟩:=aiJ.1 hx
 rw [aiz] at hq
 rw [List.getElem_take] at e
 have e2:bR ns a q=x:=by
  have:=Pz (es:=(nd ns a).aq) (q:=q) d5
  grind [uI,nd,bR,qC]
 grind
theorem Xd (hj:j<(nd ns i).aq.length):uI ns i (j+1)=uI ns i j++[((bR ns i j).name,qC ns (bR ns i j))]:=by
 unfold uI
 rw [aiC,Pz hj,aiM];rfl
theorem Lc (hG:cE ns) (hi:i<ns.length) {q:Nat}:∀{j},q<j->j<(nd ns i).aq.length->vA (bR ns i q).name (bR ns i j).name<0
 |0,h,_=>KB h (N5 q)
 |j+1,h,hj=>by
   have h1:=Jz.1 (hG.aq i hi (j+1) hj).ord
   have h1:vA (bR ns i j).name (bR ns i (j+1)).name<0:=h1
   rcases Pd.1 h with e|e
   ·exact I6 (Lc hG hi e d5) (Int.le_of_lt h1)
   rw [e];exact h1
theorem aag (hG:cE ns) (hi:i<ns.length) (hj:j<(nd ns i).aq.length):bF (bR ns i j).name (uI ns i j)=none:=by
 refine Dr.2 (λe he e1=>?_)
 obtain⟨q,h1,h2,h3,_⟩:=DQ he
 have:=Lc hG hi h1 hj
 grind [LO,bR]
theorem Mw {n:ByteArray}:∀{es:jj Th},(∀e∈es,vA e.1 n<0)->kT n t es=es++[(n,t)]
 |[],_=>rfl
 |e::r,h=>by
   have h1:=h e (T5 ..)
   unfold kT
   rw [nw (λhc=>by grind [Jz,En]),Mw (λx hx=>h x (T4 _ hx))];rfl
theorem aah (hG:cE ns) (hi:i<ns.length) (hj:j<(nd ns i).aq.length):kT (bR ns i j).name (qC ns (bR ns i j)) (uI ns i j)=uI ns i (j+1):=by
 grind [Xd,Mw,DQ,Lc]
theorem Ax (hG:cE ns) (hi:i<ns.length) (hj:j<(nd ns i).aq.length):bZ ns (bR ns i j).id<ns.length/\(nd ns (bZ ns (bR ns i j).id)).id=(bR ns i j).id:=by
 have:=mR (hG.aq i hi j hj).at_
 exact⟨this.1,this.2.1⟩
theorem Ld {O:eu} {d x:Nat} {name:ByteArray} (h:t.k≠d):ah (uz O d name t) x=if x=d then {ah O d with aq:=kT name t (ah O d).aq} else if x=t.k then {ah O x with aT:=(ah O x).aT+1,up:=if t.kind=2 then some d else (ah O x).up} else ah O x:=by
 grind [bD,kT,ah,up,mq,uz]
theorem kV.ag7 (hG:cE ns) (h:kV X ns i j S) {d:Nat} (hd:aS S.ax ⟨d,2⟩) {n:ByteArray} (ha:a<ns.length) (hk:(nd ns a).kind=2) (hl:bF n (ah S.O d).aq=some (vm (nd ns a))):∃b q,b<ns.length/\d=j6 (nd ns b)/\La ns b q/\bZ ns (bR ns b q).id=a:=by
 obtain⟨b,hb,e⟩:=h.of hd
 have e:(⟨d,2⟩:Th)=⟨j6 (nd ns b),(nd ns b).kind⟩:=e
 have e1:d=j6 (nd ns b):=zc Th.k e
 subst e1
 obtain⟨l,u,ho⟩:=h.ob b hb
 have hm:=rf hl
 rw [ho] at hm
 obtain⟨q,h1,h2,_,h4⟩:=DQ hm
 have ht:=Ax hG hb h2
 have h5:j6 (nd ns a)=j6 (nd ns (bZ ns (bR ns b q).id)):=zc Th.k h4
 have h6:=zl hG ha ht.1 h5
 exact⟨b,q,hb,rfl,⟨hb,h2,by rw [←h6];exact hk⟩,h6.symm⟩
theorem kV.below (hG:cE ns) (h:kV X ns i j S) {dp:Nat->Nat} (hdp:Lb ns dp) {s k:Nat} (hb:su S.O s k):∀{a b},a<ns.length->k=j6 (nd ns a)->b<ns.length->s=j6 (nd ns b)->dp b<=dp a:=by
 induction hb with
 |here=>
   grind [zl]
 |up hup _ ih=>
   intro a b ha e1 hb e2
   subst e1
   have cY:=h.live hG ha
   obtain⟨h1,h2,n,h3⟩:=(h.inv.up _ cY _).1 hup
   obtain⟨c,q,hc,e3,hD,e4⟩:=h.ag7 hG h2 ha h1 h3
   grind [Lb,j6,nd]
theorem kV.aT (hG:cE ns) (h:kV X ns i j S) (hi:i<ns.length) (hj:j<(nd ns i).aq.length) (hk:(qC ns (bR ns i j)).kind=2):(ah S.O (qC ns (bR ns i j)).k).aT=0:=by
 have ht:=Ax hG hi hj
 have cY:aS S.ax (qC ns (bR ns i j)):=h.live hG ht.1
 rw [h.inv.aT _ cY]
 cases hz:ny S.ax S.O (qC ns (bR ns i j)).k with
 |zero=>rfl
 |succ z=>
   exfalso
   obtain⟨x,u,hu,e,he,e1⟩:=Jv h.inv.fU (show 0<ny S.ax S.O (qC ns (bR ns i j)).k by omega)
   obtain⟨b,hb,rfl⟩:=h.of hu
   obtain⟨l,u,ho⟩:=h.ob b hb
   have he:e∈(ah S.O (j6 (nd ns b))).aq:=he
   rw [ho] at he
   obtain⟨q,h1,h2,_,h4⟩:=DQ he
   have ht2:=Ax hG hb h2
   have h5:j6 (nd ns (bZ ns (bR ns b q).id))=j6 (nd ns (bZ ns (bR ns i j).id)):=by
    rw [h4] at e1;exact e1
   have h6:=zl hG ht2.1 ht.1 h5
   obtain⟨rfl,rfl⟩:=hG.uniq b q i j ⟨hb,h2,by rw [h6];exact hk⟩ ⟨hi,hj,hk⟩ hb hi h6
   grind [vV]
theorem kV.look (hG:cE ns) (h:kV X ns i j S) (hi:i<ns.length) (hj:j<(nd ns i).aq.length):(ah S.O (j6 (nd ns i))).aq=uI ns i j/\bF (bR ns i j).name (ah S.O (j6 (nd ns i))).aq=none/\(nd ns i).kind=2:=by
 obtain⟨l,u,ho⟩:=h.ob i hi
 have e1:(ah S.O (j6 (nd ns i))).aq=uI ns i j:=by
  grind [uI,vV]
 refine⟨e1,by rw [e1];exact aag hG hi hj,?_⟩
 cases Decidable.em ((nd ns i).kind=2) with
 |inl h=>exact h
 |inr h=>have:=(hG.node i hi).aq h;omega
theorem kV.aJ (h:kV X ns i j S) (ha:a<ns.length):(ah S.O (j6 (nd ns a))).aJ=false:=by
 obtain⟨l,u,ho⟩:=h.ob a ha
 rw [ho];rfl
theorem kV.ne (hG:cE ns) (hi:i<ns.length) (hj:j<(nd ns i).aq.length) (hk:(nd ns i).kind=2):(qC ns (bR ns i j)).k≠j6 (nd ns i):=λe=>by
 have ht:=Ax hG hi hj
 have h1:=zl hG ht.1 hi e
 obtain⟨dp,hdp⟩:=hG.deep
 have:=hdp i j ⟨hi,hj,by rw [h1];exact hk⟩
 rw [h1] at this
 exact ai1 _ this
theorem kV.step (hG:cE ns) (h:kV X ns i j S) (hi:i<ns.length) (hj:j<(nd ns i).aq.length):kV X ns i (j+1) (rO ns S (nd ns i) (bR ns i j)):=by
 obtain⟨l1,l2,l3⟩:=h.look hG hi hj
 have ht:=Ax hG hi hj
 have cF:=kV.ne hG hi hj l3
 have hld:aS S.ax ⟨j6 (nd ns i),2⟩:=by
  have:=h.live hG hi
  unfold vm at this
  rw [l3] at this
  exact this
 have fX:aS S.ax (qC ns (bR ns i j)):=h.live hG ht.1
 have hX:S.X.aq=((dX ns i+j:Nat):Int):=by rw [h.cap]
 have hsum:dX ns i+j<8192:=by
  have h1:dX ns (i+1)<=dX ns ns.length:=qv hi
  have h2:dX ns (i+1)=dX ns i+(nd ns i).aq.length:=rfl
  have h3:=hG.sum
  omega
 have h1:=h.inv.put (O':=uz S.O (j6 (nd ns i)) (bR ns i j).name (qC ns (bR ns i j))) (ta:=(ah S.O (j6 (nd ns i))).bH) (tb:=(ah S.O (j6 (nd ns i))).bh) hld (h.aJ hi) l2 (hG.aq i hi j hj).good fX (h.aJ ht.1) (λhk=>⟨h.aT hG hi hj hk,λhb=>by
  obtain⟨dp,hdp⟩:=hG.deep
  have h2:=h.below hG hdp hb hi rfl ht.1 rfl
  have h3:=hdp i j ⟨hi,hj,hk⟩
  omega⟩) cF (by rw [hX];omega) (h.inv.mt _ hld).time (λx=>Ld cF)
 refine⟨h1,h.ax,h.us,h.aL,?_,λa ha=>?_,λx hx=>(Ld cF).trans (by rw [nw (hx i hi),nw (show ¬x=(qC ns (bR ns i j)).k from hx _ ht.1)];exact h.free x hx)⟩
 ·show ({S.X with aq:=S.X.aq+1}:FM)=_
  rw [hX,h.cap]
  show (⟨_,_,_,_,_,_,_,_⟩:FM)=⟨_,_,_,_,_,_,_,_⟩
  congr 1
 obtain⟨l,u,ho⟩:=h.ob a ha
 show ∃l u,ah (uz S.O (j6 (nd ns i)) (bR ns i j).name (qC ns (bR ns i j))) (j6 (nd ns a))=_
 rw [Ld cF]
 by_cases e:a=i
 ·subst e
  refine⟨l,u,?_⟩
  rw [t8 rfl,l1,aah hG hi hj,ho]
  have hc:vV ns a (j+1) a=j+1:=by grind [vV]
  rw [hc]
 have hc:vV ns i (j+1) a=vV ns i j a:=by
  unfold vV;rw [nw e,nw e]
 rw [nw (λe2=>e (zl hG ha hi e2)),hc]
 split
 ·rw [ho];exact⟨_,_,rfl⟩
 exact⟨l,u,ho⟩
theorem kV.next (h:kV X ns i (nd ns i).aq.length S):kV X ns (i+1) 0 S:=by
 refine⟨h.inv,h.ax,h.us,h.aL,h.cap,λa ha=>?_,h.free⟩
 obtain⟨l,u,ho⟩:=h.ob a ha
 grind [vV,nd]
theorem kV.full (h:kV X ns i j S):bB S:=by
 refine⟨h.inv,λt ht hg=>?_⟩
 obtain⟨a,ha,rfl⟩:=h.of ht
 have:(ah S.O (j6 (nd ns a))).aJ=true:=hg
 rw [h.aJ ha] at this
 cases this
theorem kV.graph (hG:cE ns) (h:kV X ns ns.length 0 S):aV S=ns:=by
 unfold aV
 rw [h.ax]
 unfold IC
 rw [List.map_map]
 refine List.ext_getElem? (λa=>?_)
 rw [List.getElem?_map]
 by_cases ha:a<ns.length
 ·rw [Fb ha]
  refine zc some ?_
  show jZ S.O (nd ns a).id ⟨j6 (nd ns a),(nd ns a).kind⟩=nd ns a
  unfold jZ
  obtain⟨l,u,ho⟩:=h.ob a ha
  rw [ho]
  have he:(uI ns a (vV ns ns.length 0 a)).map (gM S.O)=(nd ns a).aq:=by
   unfold vV
   rw [t8 ha]
   unfold uI
   rw [aiP (N6 _),List.map_map]
   refine List.ext_getElem? (λq=>?_)
   rw [List.getElem?_map]
   by_cases hq:q<(nd ns a).aq.length
   ·rw [Pz hq]
    refine zc some ?_
    have ht:=Ax hG ha hq
    obtain⟨l,u,ho⟩:=h.ob _ ht.1
    have e1:(ah S.O (qC ns (en (nd ns a).aq q)).k).id=(en (nd ns a).aq q).id:=by
     show (ah S.O (j6 (nd ns (bZ ns (bR ns a q).id)))).id=(bR ns a q).id
     rw [ho];exact ht.2
    show (⟨(en (nd ns a).aq q).name,(ah S.O (qC ns (en (nd ns a).aq q)).k).id⟩:fO)=_
    rw [e1]
   rw [ai3 d5];rfl
  show (⟨_,_,_,_,_,_,_,_,_,List.map (gM S.O) (uI ns a (vV ns ns.length 0 a))⟩:aO)=_
  rw [he]
  rfl
 rw [ai3 d5];rfl
end aq
noncomputable def fN (X:FM) (ns:List aO) (af:Int):Int:=
 open Classical in
 if kW X then if cE ns then
  match ns.find? (λn=>decide (n.id=af)) with
  |none=>141
  |some n=>if n.kind=2 then 0 else 173
 else 140 else 179
def Ay (ns:List aO) (af:Int) (i:Nat):Prop:=i<ns.length/\(nd ns i).id=af/\∀q,q<i->(nd ns q).id≠af
section n
variable {X:FM} {ns:List aO} {af:Int} {i:Nat}
theorem PA (ns:List aO) (af:Int):(∃i,Ay ns af i)\/∀q,q<ns.length->(nd ns q).id≠af:=by
 have key:∀n,n<=ns.length->(∃i,Ay ns af i)\/∀q,q<n->(nd ns q).id≠af:=λn=>by
  induction n with
  |zero=>exact λ_=>.inr λq h=>KB h (N5 q)
  |succ n ih=>
    intro h
    rcases ih d5 with h1|h1
    ·exact .inl h1
    by_cases e:(nd ns n).id=af
    ·exact .inl ⟨n,d5,e,h1⟩
    exact .inr λq hq=>(Pd.1 hq).elim (h1 q) (λe2=>e2 ▸ e)
 exact key _ (N6 _)
theorem JS (h:Ay ns af i):ns.find? (λn=>decide (n.id=af))=some (nd ns i):=by
 obtain⟨h1,h2,h3⟩:=h
 rw [List.find?_eq_some_iff_getElem]
 have e:=getD_some (x:=default) h1
 have e2:ns[i]=nd ns i:=by rw [T6 h1] at e;exact ai2 e
 refine⟨by simpa using h2,i,h1,e2,λj hj=>?_⟩
 have e3:ns[j]=nd ns j:=by
  have:=getD_some (x:=default) (show j<ns.length by omega)
  rw [T6 d5] at this;exact ai2 this
 rw [e3]
 simpa using h3 j hj
theorem Xe (h:∀q,q<ns.length->(nd ns q).id≠af):ns.find? (λn=>decide (n.id=af))=none:=by
 rw [List.find?_eq_none]
 intro n hn
 obtain⟨q,hq,e⟩:=aiJ.1 hn
 have e3:ns[q]=nd ns q:=by
  have:=getD_some (x:=default) hq
  rw [T6 hq] at this;exact ai2 this
 rw [←e,e3]
 simpa using h q hq
theorem DR (h:¬kW X):fN X ns af=179:=nw h
theorem Az (h:kW X) (h2:¬cE ns):fN X ns af=140:=(t8 h).trans (nw h2)
theorem xI (h:kW X) (h2:cE ns) (h3:∀q,q<ns.length->(nd ns q).id≠af):fN X ns af=141:=(t8 h).trans ((t8 h2).trans (by rw [Xe h3]))
theorem DS (h:kW X) (h2:cE ns) (h3:Ay ns af i) (h4:(nd ns i).kind=2):fN X ns af=0:=(t8 h).trans ((t8 h2).trans (by rw [JS h3];exact t8 h4))
theorem y5 (h:kW X) (h2:cE ns) (h3:Ay ns af i) (h4:¬(nd ns i).kind=2):fN X ns af=173:=(t8 h).trans ((t8 h2).trans (by rw [JS h3];exact nw h4))
theorem Fe (h:fN X ns af=0):kW X/\cE ns:=by
 by_cases h1:kW X
 ·by_cases h2:cE ns
  ·exact⟨h1,h2⟩
  rw [Az h1 h2] at h;exact KB h (by decide)
 rw [DR h1] at h;exact KB h (by decide)
end n
end
section
open Go.RowKit Go.Maps bw aH
attribute [local irreducible] aB bJ av aF
theorem aai {β:Bs} (b:Nat) (af z:Int) (v1 v2 v3 v4 v5 v6 v7 v8 v9:Value) :
 aU Tryz.prog β 52 #[.agg #[vI (z),v1,v2,v3,v4,v5,v6,v7,v8,v9],vP b] [.aD b [vI (af)] 3] (λv l=>v=.bool (decide (z=af))/\l=[.aD b [vI (af)] 3]):=by
 exact SE Tryz.func52 Tryz.ntmps52 (λR=>SR (jB 2 [2] (λb1=>.aD b1 [vI (z),v1,v2,v3,v4,v5,v6,v7,v8,v9] 102) (λb1=>NS (jK 5 [3] [(1,a_ 2 b1),(2,a_ 0 b)] (eN (v:=(.bool (decide ((z:Int)=(af:Int))))) ⟨rfl,rfl⟩)))))
theorem PB {β:Bs} (A:Option Addr) (c:Nat) (ns:List aO) (Y:fq) (hG:aN β A ns Y) (hl:ns.length<=1048576) (b:Nat) (af:Int) :
 aU Tryz.prog β 51 #[.slice A (ns.length) (c),.func (.func 52) #[] #[vP b]] [.aD b [vI (af)] 3] (λv l=>(∃i:Nat,Ay ns af i/\v=vI (i:Int)/\l=[.aD b [vI (af)] 3])\/((∀q,q<ns.length->(nd ns q).id≠af)/\v=vI (-1)/\l=[.aD b [vI (af)] 3])):=by
 refine SE Tryz.func51 Tryz.ntmps51 (λR=>SR (jK 1 [] [] (NZ (jK 3 [7,8] [] (NN (av.block (lJ (ι:=Nat) (λ(i:Nat)=>(i<=ns.length)/\(∀q,q<i->(nd ns q).id≠af)) (λ(i:Nat)=>ns.length-i) (λ(i:Nat)=>[(0,.slice A (ns.length) (c)),(1,.func (.func 52) #[] #[vP b]),(7,vI ↑ns.length),(8,vI ↑i)]) (λ(i:Nat)=>[.aD b [vI (af)] 3,.abs R]) 0 [0,1] (⟨L4 _,λq h=>KB h (N5 q)⟩) ?_)))))))
 rintro i ⟨hi,fX⟩
 exact SR (jK 1 [9] [] (NN (av.seq (cP ((((i:Nat):Int):Int)<(((ns.length:Nat):Int):Int)) (λh9=>KX (av.seq (av.block (SR (jK 2 [5] [] (NS (jK 5 [11,15] [(3,x_ i ns.length (aN.hd hG (i:=i) d5)),(4,Et (iT Y i (nd ns i)) (λ_ _ h=>aN.rd hG d5 h))] (gE [0] (aai b af ((nd ns i).id) (.int .i64 ((nd ns i).kind)) (.int .i64 ((nd ns i).mode)) (.int .i64 ((nd ns i).cM)) (.int .i64 ((nd ns i).cO)) (.int .i64 ((nd ns i).bH)) (.int .i64 ((nd ns i).bh)) (.slice (Y.dA i) ((nd ns i).data.length) ((Y.dC i))) (.string (nd ns i).target) (.slice (Y.eA i) ((nd ns i).aq.length) ((Y.eC i)))) (NN (cP ((nd ns i).id=af) (λpz=>zR (v:=(vI ↑i)) (.inl ⟨i,⟨d5,pz,fX⟩,rfl,rfl⟩)) (λpz=>KX (av.region (jK 2 [8] [(0,wJ ((i:Int)+1) (↑(i+1)))] (NL (tJ ((i+1)) [0,1] (⟨d5,λq hq=>(Pd.1 hq).elim (fX q) (λe=>e ▸ pz)⟩)))))))))))))))) (λh9=>XX (zR (v:=(vI (-1))) (.inr ⟨λq hq=>fX q d5,rfl,rfl⟩)))))))
theorem aeF {β:Bs} (b:Nat) :
 aU Tryz.prog β 53 #[.iface 37 (vP b)] [] (λv l=>v=.agg #[.iface 37 (vP b)]/\l=[]):=by
 exact SE Tryz.func53 Tryz.ntmps53 (λR=>SR (jB 1 [2] (λb2=>.aD b2 [.nilIface] 55) (λb2=>NS (jC 3 [] [(2,a_ 1 b2)] [(1,[(0,.iface 37 (vP b))])] (eS (v:=(.agg #[.iface 37 (vP b)])) [a_ 1 b2] ⟨rfl,rfl⟩)))))
end
section
open Go.RowKit Go.Maps bw aH
attribute [local irreducible] aB bJ av aF cC
theorem BN {β:Bs} (S:aZ) (L:HL) (f m t:Nat) (hI:bB S) (cb:Nat) (c:aK) (hC:qP β c) :
 aU Tryz.prog β 216 #[vP f,vP cb] ((pA f m t L S)++[.aD cb (aW c) 63]) (λv l=>v=agV L (jU S.O S.us c)/\l=((pA f m t L S)++[.aD cb (aW c) 63])):=by
 refine SE Tryz.func216 Tryz.ntmps216 (λR=>SR (jK 2 [] [] (NN (av.seq (rQ (jQ 9 [10,14,18] [(4,a_ 6 cb),(8,a_ 6 cb)] ?_))))))
 rcases CM hI.toInv0 c.bA c.name 64 with ⟨e,gF,cF⟩|⟨d,gF,hd,nB,hgn,qW⟩
 ·exact zH [0,2,3] [0,3,1,2,4,5,6,7] (.tuple #[.pointer none,vI (e)]) ((by have h:=BI S L f m t hI c.bA hC.hw c.name hC.nm 64 (β:=β);rw [gF] at h;exact h)) (jQ 5 [6,7] [] (NQ (NX (SQ (jK 2 [23] [] (NN (cN ((e:Int)=(0:Int)) (λh23=>zR (v:=(.tuple #[.nilIface,vI (e)])) ⟨by rw [show jU S.O S.us c=.error e by unfold jU;rw [gF]];rfl,rfl⟩) (λh23=>KB h23 cF))))))))
 have eM:(ah S.O d).kind=2:=hI.kind hd
 refine zH [0,2,3] [0,3,1,2,4,5,6,7] (.tuple #[vP (L.b d),vI 0]) ((by have h:=BI S L f m t hI c.bA hC.hw c.name hC.nm 64 (β:=β);rw [gF] at h;exact h)) (jQ 5 [6,7] [] (NQ (NX (SQ (jK 2 [23] [] (NF (KX (av.seq ?_))))))))
 have hel:(ah S.O d).aq.length<=8192:=hI.mw hd
 have ahU:=hC.nm
 rcases hI.vL hd c.name with fC|⟨tk,fC,cY⟩|⟨tk,fC,cY⟩|⟨tk,fC,cY⟩
 ·exact rQ (jQ 8 [28,32] [(3,v_ 3 (eE L eM)),(7,a_ 6 cb)] (eLq 5 eM fC (jQ 1 [8] [] (NQ (NX (SQ (jK 2 [35] [] (NT (zR (v:=(.tuple #[.nilIface,vI 170])) ⟨by rw [show jU S.O S.us c=.error 170 by grind [jU]];rfl,rfl⟩)))))))))
 ·have cA:(ah S.O tk).kind=1:=hI.kind cY
  exact rQ (jQ 8 [28,32] [(3,v_ 3 (eE L eM)),(7,a_ 6 cb)] (eLq 5 eM fC (jQ 1 [8] [] (NQ (NX (SQ (jK 2 [35] [] (NF (KX (zR (v:=(.tuple #[.iface 184 (vP (L.b tk)),vI 0])) ⟨by rw [show jU S.O S.us c=.ok ⟨tk,1⟩ by unfold jU;rw [gF];simp only;rw [fC]];rfl,rfl⟩))))))))))
 ·have cA:(ah S.O tk).kind=2:=hI.kind cY
  exact rQ (jQ 8 [28,32] [(3,v_ 3 (eE L eM)),(7,a_ 6 cb)] (eLq 5 eM fC (jQ 1 [8] [] (NQ (NX (SQ (jK 2 [35] [] (NF (KX (zR (v:=(.tuple #[.iface 190 (vP (L.b tk)),vI 0])) ⟨by rw [show jU S.O S.us c=.ok ⟨tk,2⟩ by unfold jU;rw [gF];simp only;rw [fC]];rfl,rfl⟩))))))))))
 have cA:(ah S.O tk).kind=3:=hI.kind cY
 exact rQ (jQ 8 [28,32] [(3,v_ 3 (eE L eM)),(7,a_ 6 cb)] (eLq 5 eM fC (jQ 1 [8] [] (NQ (NX (SQ (jK 2 [35] [] (NF (KX (zR (v:=(.tuple #[.iface 187 (vP (L.b tk)),vI 0])) ⟨by rw [show jU S.O S.us c=.ok ⟨tk,3⟩ by unfold jU;rw [gF];simp only;rw [fC]];rfl,rfl⟩))))))))))
theorem UW {β:Bs} (S:aZ) (L:HL) (f m t:Nat) (hI:bB S) (cb:Nat) (c:aK) (hC:qP β c) :
 aU Tryz.prog β 200 #[vP f,vP cb] ((pA f m t L S)++[.aD cb (aW c) 63]) (λv l=>∃L2,v=vI (kP S c).1/\l=((pA f m t L2 ((kP S c).2.1))++[.aD cb (aW ((kP S c).2.2)) 63])):=by
 have hX:=hI.hX
 refine SE Tryz.func200 Tryz.ntmps200 (λR=>SR (jK 1 [] [] (NN (av.seq ?_))))
 rcases hI.aek c.other with fT|⟨tk,fT,cY⟩|⟨tk,fT,cY⟩|⟨tk,fT,cY⟩
 ·exact rQ (jQ 8 [10,14] [(3,a_ 0 f),(7,a_ 6 cb)] (bJ.jo 1 (d:=(some 15)) (t:=170) (K:=3) (E:=175) (b:=m) (n:=S.ax.length) (f:=(dw (dQ L S.ax))) (x:=(.tmp 10)) (ix:=(.tmp 14)) (key:=vI (c.other)) (z:=.nilIface) (kl:=(.int .i64 c.other)) (r:=none) (λ_=>d6) d6 (λ_=>d6) (λ_=>d6) jf Tryz.underlying170 (λ_=>d6) (mr hC.ow) (by rw [kB,fT];rfl) (jQ 1 [5] [] (NQ (NX (SQ (jK 2 [17] [] (NT (zR ⟨L,by rw [show (kP S c)=(141,S,c) by unfold kP;rw [fT]]<;>exact⟨rfl,rfl⟩⟩)))))))))
 ·have cA:(ah S.O tk).kind=1:=hI.kind cY
  exact rQ (jQ 8 [10,14] [(3,a_ 0 f),(7,a_ 6 cb)] (bJ.jo 1 (d:=(some 15)) (t:=170) (K:=3) (E:=175) (b:=m) (n:=S.ax.length) (f:=(dw (dQ L S.ax))) (x:=(.tmp 10)) (ix:=(.tmp 14)) (key:=vI (c.other)) (z:=.nilIface) (kl:=(.int .i64 c.other)) (r:=(some (jl L ⟨tk,1⟩))) (λ_=>d6) d6 (λ_=>d6) (λ_=>d6) jf Tryz.underlying170 (λ_=>d6) (mr hC.ow) (by rw [kB,fT];rfl) (jQ 1 [5] [] (NQ (NX (SQ (jK 2 [17] [] (NF (KX (SQ (jK 1 [18] [] (gE [] (Ab (vP (L.b tk))) (jK 1 [20] [] (NT (zR ⟨L,by rw [show (kP S c)=(173,S,c) by grind [kP]]<;>exact⟨rfl,rfl⟩⟩)))))))))))))))
 ·have cA:(ah S.O tk).kind=2:=hI.kind cY
  exact rQ (jQ 8 [10,14] [(3,a_ 0 f),(7,a_ 6 cb)] (bJ.jo 1 (d:=(some 15)) (t:=170) (K:=3) (E:=175) (b:=m) (n:=S.ax.length) (f:=(dw (dQ L S.ax))) (x:=(.tmp 10)) (ix:=(.tmp 14)) (key:=vI (c.other)) (z:=.nilIface) (kl:=(.int .i64 c.other)) (r:=(some (jl L ⟨tk,2⟩))) (λ_=>d6) d6 (λ_=>d6) (λ_=>d6) jf Tryz.underlying170 (λ_=>d6) (mr hC.ow) (by rw [kB,fT];rfl) (jQ 1 [5] [] (NQ (NX (SQ (jK 2 [17] [] (NF (KX (SQ (jK 1 [18] [] (gE [] (Ac (vP (L.b tk))) (jK 1 [20] [] (NF (KX (SR (jK 1 [] [] (NS (jK 3 [22,23,24] [] (gE [0,2,3] (Pr S L f m t ⟨tk,2⟩ cA nh (by have:=hI.OO cY;simp only at this ⊢;omega)) (jC 7 [6] [(5,a_ 6 cb)] [(6,[(12,vI ((fD S ⟨tk,2⟩).1))])] (NS (aB.jq [(4,.abs (bp (eY ((fD S ⟨tk,2⟩).2.2.O) L))),(5,.abs (bp (iE ((fD S ⟨tk,2⟩).2.2.O) L)))] (λw hS=>by rw [O3,O4];exact hS) (jK 2 [4] [] (eN ⟨L,by rw [show (kP S c)=((fD S ⟨tk,2⟩).2.1,(fD S ⟨tk,2⟩).2.2,{c with answer:=(fD S ⟨tk,2⟩).1}) by grind [kP]]<;>exact⟨rfl,rfl⟩⟩ [0,3,1,2,4,5,6,7])))))))))))))))))))))))))
 have cA:(ah S.O tk).kind=3:=hI.kind cY
 exact rQ (jQ 8 [10,14] [(3,a_ 0 f),(7,a_ 6 cb)] (bJ.jo 1 (d:=(some 15)) (t:=170) (K:=3) (E:=175) (b:=m) (n:=S.ax.length) (f:=(dw (dQ L S.ax))) (x:=(.tmp 10)) (ix:=(.tmp 14)) (key:=vI (c.other)) (z:=.nilIface) (kl:=(.int .i64 c.other)) (r:=(some (jl L ⟨tk,3⟩))) (λ_=>d6) d6 (λ_=>d6) (λ_=>d6) jf Tryz.underlying170 (λ_=>d6) (mr hC.ow) (by rw [kB,fT];rfl) (jQ 1 [5] [] (NQ (NX (SQ (jK 2 [17] [] (NF (KX (SQ (jK 1 [18] [] (gE [] (Ad (vP (L.b tk))) (jK 1 [20] [] (NT (zR ⟨L,by rw [show (kP S c)=(173,S,c) by grind [kP]]<;>exact⟨rfl,rfl⟩⟩)))))))))))))))
theorem Nf {β:Bs} (S:aZ) (L:HL) (f m t:Nat) (hI:bB S) (cb:Nat) (c:aK) (hC:qP β c) :
 aU Tryz.prog β 201 #[vP f,vP cb] ((pA f m t L S)++[.aD cb (aW c) 63]) (λv l=>∃L2,v=vI (gh S c).1/\l=((pA f m t L2 ((gh S c).2.1))++[.aD cb (aW ((gh S c).2.2)) 63])):=by
 have hX:=hI.hX
 refine SE Tryz.func201 Tryz.ntmps201 (λR=>SR (jK 1 [] [] (NS (jK 2 [8,9] [] ?_))))
 rcases WK hI.toInv0 c with ⟨e,hnm,cF⟩|⟨tk,hnm,cY⟩|⟨tk,hnm,cY⟩|⟨tk,hnm,cY⟩
 ·exact gE [0,1,2,3,4,5,6] ((by have h:=BN S L f m t hI cb c hC (β:=β);rw [hnm] at h;exact h)) (jK 5 [5,6] [] (NZ (jK 2 [14] [] (NN (cN ((e:Int)=(0:Int)) (λnO=>zR ⟨L,by rw [show (gh S c)=(e,S,c) by unfold gh;rw [hnm]]<;>exact⟨rfl,rfl⟩⟩) (λnO=>KB nO cF))))))
 ·have cA:(ah S.O tk).kind=1:=hI.kind cY
  exact gE [0,1,2,3,4,5,6] ((by have h:=BN S L f m t hI cb c hC (β:=β);rw [hnm] at h;exact h)) (jK 5 [5,6] [] (NZ (jK 2 [14] [] (NF (KX (SQ (jK 1 [16] [] (NN (av.block (SR (jK 3 [18] [] (NF (SR (jK 3 [21] [] (NT (zR ⟨L,by rw [show (gh S c)=(173,S,c) by grind [gh]]<;>exact⟨rfl,rfl⟩⟩))))))))))))))))
 ·have cA:(ah S.O tk).kind=2:=hI.kind cY
  exact gE [0,1,2,3,4,5,6] ((by have h:=BN S L f m t hI cb c hC (β:=β);rw [hnm] at h;exact h)) (jK 5 [5,6] [] (NZ (jK 2 [14] [] (NF (KX (SQ (jK 1 [16] [] (NN (av.block (SR (jK 3 [18] [] (NF (SR (jK 3 [21] [] (NF (KX (SR (jK 3 [24,25,26] [] (gE [0,2,3] (Pr S L f m t ⟨tk,2⟩ cA nh (by have:=hI.OO cY;simp only at this ⊢;omega)) (jC 7 [6] [(5,a_ 6 cb)] [(6,[(12,vI ((fD S ⟨tk,2⟩).1))])] (NS (aB.jq [(4,.abs (bp (eY ((fD S ⟨tk,2⟩).2.2.O) L))),(5,.abs (bp (iE ((fD S ⟨tk,2⟩).2.2.O) L)))] (λw hS=>by rw [O3,O4];exact hS) (jK 2 [4] [] (eN ⟨L,by rw [show (gh S c)=((fD S ⟨tk,2⟩).2.1,(fD S ⟨tk,2⟩).2.2,{c with answer:=(fD S ⟨tk,2⟩).1}) by grind [gh]]<;>exact⟨rfl,rfl⟩⟩ [0,3,1,2,4,5,6,7]))))))))))))))))))))))))
 have cA:(ah S.O tk).kind=3:=hI.kind cY
 exact gE [0,1,2,3,4,5,6] ((by have h:=BN S L f m t hI cb c hC (β:=β);rw [hnm] at h;exact h)) (jK 5 [5,6] [] (NZ (jK 2 [14] [] (NF (KX (SQ (jK 1 [16] [] (NN (av.block (SR (jK 3 [18] [] (NT (zR ⟨L,by rw [show (gh S c)=(174,S,c) by grind [gh]]<;>exact⟨rfl,rfl⟩⟩)))))))))))))
theorem Rv {β:Bs} (S:aZ) (L:HL) (f m t:Nat) (hI:bB S) (cb:Nat) (c:aK) (hC:qP β c) :
 aU Tryz.prog β 203 #[vP f,vP cb] ((pA f m t L S)++[.aD cb (aW c) 63]) (λv l=>∃L2,v=vI (iQ S c).1/\l=((pA f m t L2 ((iQ S c).2.1))++[.aD cb (aW ((iQ S c).2.2)) 63])):=by
 have hX:=hI.hX
 refine SE Tryz.func203 Tryz.ntmps203 (λR=>SR (jK 1 [] [] (NN (av.seq (rQ (jQ 9 [8,12,16] [(4,a_ 6 cb),(8,a_ 6 cb)] ?_))))))
 rcases CM hI.toInv0 c.bA c.name 192 with ⟨e,gF,cF⟩|⟨d,gF,hd,nB,hgn,qW⟩
 ·exact zH [0,2,3] [0,3,1,2,4,5,6,7] (.tuple #[.pointer none,vI (e)]) ((by have h:=BI S L f m t hI c.bA hC.hw c.name hC.nm 192 (β:=β);rw [gF] at h;exact h)) (jQ 5 [5,6] [] (NQ (NX (SQ (jK 2 [21] [] (NN (cN ((e:Int)=(0:Int)) (λyQ=>zR ⟨L,by rw [show (iQ S c)=(e,S,c) by unfold iQ;rw [gF]]<;>exact⟨rfl,rfl⟩⟩) (λyQ=>KB yQ cF))))))))
 have eM:(ah S.O d).kind=2:=hI.kind hd
 refine zH [0,2,3] [0,3,1,2,4,5,6,7] (.tuple #[vP (L.b d),vI 0]) ((by have h:=BI S L f m t hI c.bA hC.hw c.name hC.nm 192 (β:=β);rw [gF] at h;exact h)) (jQ 5 [5,6] [] (NQ (NX (SQ (jK 2 [21] [] (NF (KX (SQ (jK 4 [26] [(3,a_ 6 cb)] (gE [] (y4 (c.mode) 4095) (jK 1 [28] [] (NN (cN (0<=c.mode/\c.mode<=4095) (λtN=>zR ⟨L,by rw [show (iQ S c)=(120,S,c) by unfold iQ;rw [gF];exact nw tN]<;>exact⟨rfl,rfl⟩⟩) (λtN=>KX (av.seq (rM (List.range 12) 10 [6] (jR 10 [29,30,34,38] [(5,a_ 0 cb),(9,a_ 0 cb)] (mL [6] [0,1,2,3,4,5] (Mp S L f m t hI d hd c.name hC.nm c.mode) ?_ (by rintro _ _ ⟨L2,rfl,rfl⟩;rfl)))))))))))))))))))
 rintro _ _ ⟨L2,rfl,rfl⟩
 exact cC.last rfl rfl (jK 1 [4] [] (NL (aF.np (NX (av.ret (RT _ [0,1,2,3,4,5,6,7] (⟨L2,by rw [show (iQ S c)=((lP S d c.name c.mode).1,(lP S d c.name c.mode).2,c) by unfold iQ;rw [gF];exact t8 tN]<;>exact⟨rfl,rfl⟩⟩)))))))
end
section
open Go.RowKit Go.Maps bw aH
attribute [local irreducible] aB bJ av aF eH cC
theorem Rw {β:Bs} (S:aZ) (L:HL) (f m t:Nat) (hI:bB S) (cb:Nat) (c:aK) (hC:qP β c) :
 aU Tryz.prog β 212 #[vP f,vP cb] ((pA f m t L S)++[.aD cb (aW c) 63]) (λv l=>∃L2,v=vI (ju S c).1/\l=((pA f m t L2 ((ju S c).2.1))++[.aD cb (aW ((ju S c).2.2)) 63])):=by
 have hX:=hI.hX
 refine SE Tryz.func212 Tryz.ntmps212 (λR=>av.seq ?_)
 rcases hI.hand c.bA with qW|⟨tk,qW,cY⟩|⟨tk,qW,cY⟩
 ·refine av.region (jK 1 [] [] (NN (av.seq (jM [0,1,2,3,4,5,6,7,508,9,10,11,12,513] [0,6] (jG 8 [0,11,15] [(3,a_ 0 f),(7,a_ 1 cb)] (kL [1,6] [2] (Rc t S.X.cH S.aL (dQ L S.us) c.bA hC.hw (Ip qW)) ?_ (by rintro _ _ ⟨rfl,rfl⟩;kernel_rfl)))))))
  rintro _ _ ⟨rfl,rfl⟩
  exact jG 4 [0,5,18] [] (eH.last d6 (jK 1 [6] [] (NL (aF.np (NX (SQ (jK 2 [20] [] (NT (zR (v:=(vI 131)) ⟨L,by rw [show (ju S c)=(131,S,c) by unfold ju;rw [qW]]<;>exact⟨rfl,rfl⟩⟩ [1,2,0,3,4,5,6,7])))))))))
 ·have cA:(ah S.O tk).kind=1:=hI.kind cY
  have hid:=hI.ob _ cY
  have xg:=hI.Wz cY
  have hdl:=hI.OQ cY
  have cD:0<(ah S.O tk).aQ/\(ah S.O tk).aQ<=1024:=⟨by have h1:=hI.aQ _ cY;have h2:=Sv qW;simp only at h1 h2;omega,(hI.OO cY).2⟩
  refine av.region (jK 1 [] [] (NN (av.seq (jM [0,1,2,3,4,5,6,7,508,9,10,11,12,513] [0,6] (jG 8 [0,11,15] [(3,a_ 0 f),(7,a_ 1 cb)] (eH.cut (ι:=Unit) (bN:=λ(_:Unit)=>[(0,vP f),(16,.tuple #[.iface 184 (vP (L.b tk)),vI 0])]) (dh:=λ(_:Unit)=>[pT t S.X.cH S.aL L (del c.bA S.us),pF f m t S.X,pI m L S.ax,pO S.O L,pD S.O L,pE S.O L,.aD cb (aW c) 63,.abs R]) [1,6] d6 ?_ rfl (λ_=>d6) ?_))))))
  ·exact gE (f:=229) (args:=#[vP t,vI (c.bA)]) (pre:=[pT t S.X.cH S.aL L S.us]) [2] ((by have h:=Mc (β:=β) t S.X.cH S.aL (dQ L S.us) c.bA hC.hw (jl L ⟨tk,1⟩) (Dw qW);rw [←O0] at h;exact h)) (NL (MD () [0,16] [0,1,2,3,4,5,6,7]))
  rintro _
  refine jG 4 [0,5,18] [] (eH.last d6 (jK 1 [6] [] (NL (aF.np (NX (SQ (jK 2 [20] [] (NF (KX (SR (jK 1 [22] [] (gE [] (iN (L.b tk)) (jK 6 [27,29] [(2,v_ 3 (qU L cA)),(3,wJ ((ah S.O tk).aQ-1) ((ah S.O tk).aQ-1))] (BG 3 [(5,1),(4,2)] tk 7 (λo=>{o with aQ:=o.aQ-1}) cA (λjP ij=>?_)))))))))))))))
  have qV:=ku ij cA
  have hf2:(ah jP tk).id=(ah S.O tk).id:=fu bV.id ij rfl
  have hf3:(ah jP tk).data=(ah S.O tk).data:=fu bV.data ij rfl
  refine NS ?_
  have aaj:(ah jP tk).aQ=(ah S.O tk).aQ-1:=by grind [iF]
  exact jK 2 [30,31] [] (gE [3,1,2] (yu S.X f m t hX jP L S.ax hI.fU ⟨tk,1⟩ qV nh (by rw [aaj];omega) (λ_=>by rw [hf2,hid.1];exact cY) (by rw [hf2];exact xg) (by rw [hf3];exact hdl)) (NS (jK 1 [4] [] (eN (l:=[pF f m t {S.X with used:=oQ jP S.X.used ⟨tk,1⟩},pI m L (kg jP S.ax ⟨tk,1⟩),pT t S.X.cH S.aL L (del c.bA S.us),pO jP L,pD jP L,pE jP L,.aD cb (aW c) 63]) (v:=(vI 0)) ⟨L,by subst ij;rw [show ju S c=(0,_,c) by unfold ju;rw [qW]];exact⟨rfl,rfl⟩⟩ [1,2,3,0,4,5,6,7]))))
 have cA:(ah S.O tk).kind=2:=hI.kind cY
 have hid:=hI.ob _ cY
 have xg:=hI.Wz cY
 have hdl:=hI.OQ cY
 have cD:0<(ah S.O tk).aQ/\(ah S.O tk).aQ<=1024:=⟨by have h1:=hI.aQ _ cY;have h2:=Sv qW;simp only at h1 h2;omega,(hI.OO cY).2⟩
 refine av.region (jK 1 [] [] (NN (av.seq (jM [0,1,2,3,4,5,6,7,508,9,10,11,12,513] [0,6] (jG 8 [0,11,15] [(3,a_ 0 f),(7,a_ 1 cb)] (eH.cut (ι:=Unit) (bN:=λ(_:Unit)=>[(0,vP f),(16,.tuple #[.iface 190 (vP (L.b tk)),vI 0])]) (dh:=λ(_:Unit)=>[pT t S.X.cH S.aL L (del c.bA S.us),pF f m t S.X,pI m L S.ax,pO S.O L,pD S.O L,pE S.O L,.aD cb (aW c) 63,.abs R]) [1,6] d6 ?_ rfl (λ_=>d6) ?_))))))
 ·exact gE (f:=229) (args:=#[vP t,vI (c.bA)]) (pre:=[pT t S.X.cH S.aL L S.us]) [2] ((by have h:=Mc (β:=β) t S.X.cH S.aL (dQ L S.us) c.bA hC.hw (jl L ⟨tk,2⟩) (Dw qW);rw [←O0] at h;exact h)) (NL (MD () [0,16] [0,1,2,3,4,5,6,7]))
 rintro _
 refine jG 4 [0,5,18] [] (eH.last d6 (jK 1 [6] [] (NL (aF.np (NX (SQ (jK 2 [20] [] (NF (KX (SR (jK 1 [22] [] (gE [] (iN (L.b tk)) (jK 6 [27,29] [(2,v_ 3 (qU L cA)),(3,wJ ((ah S.O tk).aQ-1) ((ah S.O tk).aQ-1))] (BG 3 [(5,1),(4,2)] tk 7 (λo=>{o with aQ:=o.aQ-1}) cA (λjP ij=>?_)))))))))))))))
 have EX:=ku ij cA
 have WZ:(ah jP tk).id=(ah S.O tk).id:=fu bV.id ij rfl
 have hf6:(ah jP tk).data=(ah S.O tk).data:=fu bV.data ij rfl
 refine NS ?_
 have aaj:(ah jP tk).aQ=(ah S.O tk).aQ-1:=by grind [iF]
 exact jK 2 [30,31] [] (gE [3,1,2] (yu S.X f m t hX jP L S.ax hI.fU ⟨tk,2⟩ EX nh (by rw [aaj];omega) (λ_=>by rw [WZ,hid.1];exact cY) (by rw [WZ];exact xg) (by rw [hf6];exact hdl)) (NS (jK 1 [4] [] (eN (l:=[pF f m t {S.X with used:=oQ jP S.X.used ⟨tk,2⟩},pI m L (kg jP S.ax ⟨tk,2⟩),pT t S.X.cH S.aL L (del c.bA S.us),pO jP L,pD jP L,pE jP L,.aD cb (aW c) 63]) (v:=(vI 0)) ⟨L,by subst ij;rw [show ju S c=(0,_,c) by unfold ju;rw [qW]];exact⟨rfl,rfl⟩⟩ [1,2,3,0,4,5,6,7]))))
end
section
open Go.RowKit
def CW (b:Nat) (v:Value):eG where
 h F w:=∃cs T,cs[0]?=some v/\(HP.aD b cs T).h F w
 lt:=λ⟨_,_,_,h⟩=>HP.lt h
 st:=λ⟨cs,T,hv,h⟩ _ _ hk hd=>⟨cs,T,hv,HP.st h hk hd⟩
theorem CW.cell {b:Nat} {v:Value}:∀F w,(CW b v).h F w->w.cell? ⟨b,0,none⟩=some v:=by
 rintro F w ⟨cs,T,hv,h⟩
 exact (lu h.1 rfl rfl hv).1
theorem aP.first {β:Bs} {l:List HP} {w:World} {i b:Nat} {cs:List Value} {T:TypeId} {v:Value} (h:aP β l w) (hp:l[i]?=some (.aD b cs T)) (hv:cs[0]?=some v):aP β [.abs (CW b v)] w:=by
 obtain⟨ho,φ,h1,h2,h3⟩:=h
 have hi:=dH hp
 refine⟨ho,λ_=>φ i,λj q hq=>?_,λj hj=>h2 i hi,λj k hj hk cF=>?_⟩
 ·have hj:=dH hq
  simp at hj
  subst hj
  simp at hq
  subst hq
  exact⟨cs,T,hv,h1 i _ hp⟩
 simp at hj hk
 omega
section mix
variable {P:Program} {β:Bs} {N:fP} {ops:Array Oper} {S:List HP} {l:List Nat} {fr:Fr} {ay:List HP} {Q:Post} {i:Nat}
theorem av.UX {id:Nat} (perm:List Nat) (nr:Nat) (hm:P.follows .mixedOrders=true) (hB:Eo ops perm nr=true) (hp:∀w,aP β ay w->aP β S w) (h:cC P β N ops S nr perm fr ay Q):av P β N (.region id ops true) fr ay Q:=by
 intro ar w hS
 unfold Eo at hB
 simp only [ait,ai0] at hB
 obtain⟨⟨⟨h1,h2⟩,h3⟩,h4⟩:=hB
 have gG:=hS.drewN 1
 have h5:=Kv (Q:=Q) h1 h2 nr perm _ _ _ h4 (λj oj _ hl=>by simp [Array.getD_eq_getD_getElem?,Array.getElem?_replicate] at hl;split at hl<;>simp at hl) (hp _ gG) (h ar (w.drewN 1) gG)
 rw [h3] at h5
 refine aiY (λe a w q=>?_) (wp_region_any hm (sY _ _ _ _ h5))
 cases e with
 |normal=>exact q
 |exit id=>exact q.elim
 |goto l=>exact q.elim
 |ret=>exact q.elim
 |panic ch=>exact q.elim
 |outgrown=>exact q.elim
theorem cC.UY {ι:Type} {bN:ι->Fr} {dh:ι->List HP} {o:Oper} (cD:ops[i]?=some o) (hg:o.guard=none) (h:aB P β N #[o] 0 fr ay (NP (Er β N bN dh))) (hp:∀j w,aP β (dh j) w->aP β S w)
 (K:∀j,cC P β N ops S 0 l (bN j) (dh j) Q):cC P β N ops S 0 (i::l) fr ay Q:=by
 grind [ug,vC,NP,Er,fk,Bg,aB,aP,cC]
end mix
end
end Go.Proofs.YtfececghhgeapaaGreatDoor
