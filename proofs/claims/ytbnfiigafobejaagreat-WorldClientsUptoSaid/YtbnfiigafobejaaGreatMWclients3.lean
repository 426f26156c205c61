/-
  PROVED HERE: lemmas and contracts of functions (texts of this repo, joined; what the claim does not use is left out): Hz, Ac, Wo, Wx, ShelfS, SK, HG, Vv, Vf, Fz, Ws, GOk, Nw, Wn, WD, Hc, Hd, H1, H2, H3, H4, H5, H6, H7, H8.
  CONDITIONS: as the theorems say.
-/
import Derived.Test.YtbnfiigafobejaaGreatMWclients2
import Derived.Lib.Split
import Derived.Shelf.SlGeneric
import Derived.Shelf.SlIter.Nil
import Derived.Shelf.SortM.Plain
import Derived.Shelf.SortM.SortNone
import Derived.Ground.GgzProg
import Derived.Ground.SlgmProg
import Derived.Test.YtbnfiigafobejaaGreatProg
set_option maxRecDepth 100000
set_option maxHeartbeats 4000000
namespace Go.Proofs.YtbnfiigafobejaaGreat
section
open Go.RowKit Go.Maps bF aD
section inv
variable {S:br} {d to:Nat} {name aB text:ByteArray} {mode:Int} {c:aH}
theorem PS (hI:Inv0 S):hnd S.us (bw S.X)=0:=by
 have:hnd S.us (bw S.X)=gJ (λ_=>0) S.us:=lX (λp hp=>aij (hI.fresh.us p hp))
 rw [this]
 have h0:∀us:bC Th,gJ (λ_=>0) us=0:=λus=>by
  induction us with
  |nil=>rfl
  |cons p r ih=>show 0+_=0;rw [ih]
 exact h0 _
theorem Hl (hI:Inv0 S) {kind mode:Int} {tg:ByteArray} (hm:jX mode) (ht:dG kind tg):rK {cM S.X kind mode with target:=tg}:=
 ⟨hm,⟨Int.le_refl _,by show (0:Int)<=2147483647;decide⟩,⟨Int.le_refl _,by show (0:Int)<=2147483647;decide⟩,hI.now,λ_=>rfl,λ_=>rfl,ht⟩
theorem bO.Gz (hI:bO S) (hd:aQ S.aq ⟨d,2⟩) (mr:(af S.O d).aE=false) (j7:ck name) (h0:gi S.X S.O S.aq d name=0) {kind mode:Int} {tg:ByteArray} (hk:kind=1\/kind=2\/kind=3) (hm:jX mode) (ht:dG kind tg) :
 bO (fY S d name {cM S.X kind mode with target:=tg}):=by
 have h:=hI.add (us':=S.us) (lY:=S.aI) (o:={cM S.X kind mode with target:=tg}) hd mr (vM h0) j7 (CR h0) rfl hk rfl rfl rfl rfl rfl (Hl hI.toInv0 hm ht) hI.usr hI.yE hI.Hf hI.aI (λh t e=>⟨.inl (hI.us h t e).1,(hI.us h t e).2⟩) (λ_ _=>rfl) (by rw [PS hI.toInv0];rfl)
 exact h
theorem bO.mT (hI:bO S) (hd:aQ S.aq ⟨d,2⟩) (mr:(af S.O d).aE=false) (j7:ck name) (hm:jX mode):bO (Proofs.YtbnfiigafobejaaGreat.mT S d name mode).2:=by
 unfold Proofs.YtbnfiigafobejaaGreat.mT
 split
 ·rename_i h0
  exact hI.Gz hd mr j7 h0 (.inr (.inl rfl)) hm (.inl ⟨Pd,rfl⟩)
 exact hI
theorem adi {s:ByteArray} (h:lG s=0):dG 3 s:=by
 grind [lG,t7,dG]
theorem bO.jt (hI:bO S) (hd:aQ S.aq ⟨d,2⟩) (mr:(af S.O d).aE=false) (j7:ck name):bO (Proofs.YtbnfiigafobejaaGreat.jt S d name text).2:=by
 unfold Proofs.YtbnfiigafobejaaGreat.jt
 split
 ·rename_i hb
  split
  ·rename_i h0
   exact hI.Gz hd mr j7 h0 (.inr (.inr rfl)) ⟨Pd,Pd⟩ (adi hb)
  exact hI
 exact hI
theorem bO.iE (hI:bO S) (hd:aQ S.aq ⟨d,2⟩):bO (Proofs.YtbnfiigafobejaaGreat.iE S d name).2:=by
 unfold Proofs.YtbnfiigafobejaaGreat.iE
 split
 ·exact hI
 rename_i t hl
 split
 ·exact hI
 rename_i hk
 exact hI.Gy hd hl hk
theorem bO.jf (hI:bO S) (hd:aQ S.aq ⟨d,2⟩):bO (Proofs.YtbnfiigafobejaaGreat.jf S d name).2:=by
 unfold Proofs.YtbnfiigafobejaaGreat.jf
 split
 ·exact hI
 rename_i t hl
 split
 ·split
  ·rename_i he
   exact hI.drop hd hl (λ_=>he)
  exact hI
 exact hI
theorem UK {t:Th} (ht:t.k≠to):(af (aZ S d name t).O to).aE=(af S.O to).aE:=by
 have h1:(af (aZ S d name t).O to).aE=(af (bn S.X S.O d name t) to).aE:=by
  unfold aZ
  simp only
  split
  ·show (af (aX _ t.k _) to).aE=_
   rw [jd (λe=>ht e.symm)]
  rfl
 rw [h1]
 exact eM (g:=bJ.aE) (λ_ _=>rfl) (λ_ _=>rfl) (λ_ _ _=>rfl)
theorem bO.dw (hI:bO S) (hd:aQ S.aq ⟨d,2⟩) (dY:aQ S.aq ⟨to,2⟩) (mr:(af S.O to).aE=false) (j7:ck aB):bO (Proofs.YtbnfiigafobejaaGreat.dw S d name to aB).2:=by
 unfold Proofs.YtbnfiigafobejaaGreat.dw
 split
 ·exact hI
 rename_i t hl
 split
 ·exact hI
 rename_i hb
 have hb:t.kind=2->¬sV S.O t.k to:=λh1 h2=>hb ⟨h1,h2⟩
 split
 ·rename_i hn
  exact hI.move hd hl dY mr hn j7 hb
 rename_i o hl2
 split
 ·exact hI
 rename_i hot
 split
 ·exact hI
 rename_i hok
 split
 ·exact hI
 rename_i htk
 have ho:=(hI.bS dY hl2).2
 have aey:o.k≠to:=hI.ne dY hl2
 have h1:=hI.Gy dY hl2 hok
 have jH:aQ (aZ S to aB o).aq ⟨d,2⟩:=pz hI.toInv0 dY hl2 hd (λe=>hok (by have:=jy hd ho e;rw [←this]))
 have pq:aQ (aZ S to aB o).aq ⟨to,2⟩:=pz hI.toInv0 dY hl2 dY (λe=>aey e.symm)
 exact h1.move jH (yH hI.toInv0 dY hl2 hl hot) pq (by rw [UK aey];exact mr) (yI hI.toInv0 dY hl2) j7 (λh=>ain h htk)
theorem bO.nU (hI:bO S) (hd:aQ S.aq ⟨d,2⟩) (dY:aQ S.aq ⟨to,2⟩) (mr:(af S.O to).aE=false) (j7:ck aB):bO (Proofs.YtbnfiigafobejaaGreat.nU S d name to aB).2:=by
 unfold Proofs.YtbnfiigafobejaaGreat.nU
 split
 ·exact hI
 rename_i t hl
 have ht:=(hI.bS hd hl).2
 split
 ·exact hI
 rename_i hk
 split
 ·rename_i hn
  split
  ·rename_i hr
   have hgt:(af S.O t.k).aE=false:=by
    cases hg:(af S.O t.k).aE with
    |false=>rfl
    |true=>
      have h1:=(hI.aE t ht hg).1
      have h2:=hI.aS t ht
      have h3:0<nP S.aq S.O t.k:=rL hd hl
      omega
   exact hI.link dY mr hn j7 ht hgt hk hr
  exact hI
 exact hI
theorem bO.oQ (hI:bO S) (hd:aQ S.aq ⟨d,2⟩) (mr:(af S.O d).aE=false) (j7:ck name) (hm:jX mode):bO (Proofs.YtbnfiigafobejaaGreat.oQ S d name mode).2.2:=by
 unfold Proofs.YtbnfiigafobejaaGreat.oQ
 split
 ·rename_i h0
  split
  ·rename_i fP
   obtain⟨g1,g2,_⟩:=least_le hI.usr (λx hx=>(hI.yE x hx).1)
   obtain⟨v1,v2⟩:=Tc (t:=⟨bw S.X,1⟩) hI.usr hI.yE
   have hm2:=Hl (kind:=1) (tg:=⟨#[]⟩) hI.toInv0 hm (.inl ⟨Pd,rfl⟩)
   refine hI.add (us':=ins (aD.aP S.us) ⟨bw S.X,1⟩ S.us) (lY:=max S.aI ((S.us.length:Int)+1)) (o:={cM S.X 1 mode with aK:=1}) hd mr (vM h0) j7 (CR h0) rfl (.inl rfl) rfl rfl rfl rfl rfl ⟨hm2.mode,hm2.bg,hm2.bh,hm2.time,hm2.data,hm2.ah,hm2.target⟩ v1 v2 (by rw [lV];omega) (by have:=hI.aI;omega) (λh t e=>?_) (λk hk=>?_) ?_
   ·rw [wZ g2] at e
    split at e
    ·cases e;exact⟨.inr rfl,by show (1:Int)≠3;decide⟩
    exact⟨.inl (hI.us h t e).1,(hI.us h t e).2⟩
   ·grind [LG]
   rw [LG,aik rfl,PS hI.toInv0];rfl
  exact hI
 exact hI
theorem bO.iC (hI:bO S) (c:aH):bO (Proofs.YtbnfiigafobejaaGreat.iC S c).2.1:=by
 have habout:∀{dX:Int} {d:Nat} {h:Int} {n:ByteArray},iO S.O S.us h n dX=.ok d->aQ S.aq ⟨d,2⟩/\(af S.O d).aE=false/\ck n:=λ{dX d h n} e=>by
  rcases kV hI.toInv0 h n dX with ⟨e2,h1,_⟩|⟨d2,h1,h2,h3,h4,_⟩
  all_goals grind
 have WU:∀{t:Th},jP S.O S.us c=.ok t->aQ S.aq t:=λ{t} e=>by
  rcases J5 hI.toInv0 c with ⟨e2,h1,_⟩|⟨k,h1,h2⟩|⟨k,h1,h2⟩|⟨k,h1,h2⟩<;>rw [e] at h1<;>cases h1<;>exact h2
 by_cases h:1<=c.op/\c.op<=15
 ·have h:c.op=1\/c.op=2\/c.op=3\/c.op=4\/c.op=5\/c.op=6\/c.op=7\/c.op=8\/c.op=9\/c.op=10\/c.op=11\/c.op=12\/c.op=13\/c.op=14\/c.op=15:=zc
  rcases h with h|h|h|h|h|h|h|h|h|h|h|h|h|h|h
  ·rw [zH h]
   unfold lD
   split
   ·exact hI
   rename_i t e
   split
   ·rename_i hk;exact hI.ef (hI.live e) (by rw [hk];decide)
   exact hI
  ·rw [Ca h]
   unfold gU
   split
   ·exact hI
   rename_i t e
   split
   ·exact hI
   rename_i hk
   split
   ·exact hI
   exact hI.ef (WU e) hk
  ·rw [Cb h]
   unfold fS
   split
   ·exact hI
   rename_i t e
   split
   ·exact hI
   rename_i hk
   split
   ·exact hI
   exact hI.ef (WU e) hk
  ·rw [xW h]
   unfold iP
   split
   ·exact hI
   rename_i d e
   obtain⟨h1,h2,h3⟩:=habout e
   split
   ·rename_i hm;exact hI.mT h1 h2 h3 hm
   exact hI
  ·rw [Cc h]
   unfold fe
   split
   ·exact hI
   rename_i d e
   obtain⟨h1,h2,h3⟩:=habout e
   split
   ·rename_i hm
    split
    ·exact hI.oQ h1 h2 h3 hm
    exact hI
   exact hI
  ·rw [Cd h]
   unfold iF
   split
   ·exact hI
   rename_i d e
   obtain⟨h1,h2,h3⟩:=habout e
   exact hI.jt h1 h2 h3
  ·rw [Ce h]
   unfold dV
   split
   ·exact hI
   rename_i d e
   split
   ·exact hI
   rename_i to e2
   obtain⟨h1,h2,h3⟩:=habout e2
   exact hI.nU (habout e).1 h1 h2 h3
  ·rw [zJ h]
   unfold jk
   split
   ·exact hI
   rename_i d e
   exact hI.iE (habout e).1
  ·rw [Cg h]
   unfold iw
   split
   ·exact hI
   rename_i t e
   split
   ·rename_i hk
    obtain⟨k,kd⟩:=t
    simp only at hk
    subst hk
    exact hI.gy (hI.us _ _ e).1 _
   exact hI
  ·rw [yJ h]
   unfold cX
   split
   ·exact hI
   split
   ·exact hI
   split
   ·rename_i hm
    split
    ·rename_i ho
     split
     ·rename_i ht;exact hI.agc hm ho ht
     exact hI
    exact hI
   exact hI
  ·rw [yK h]
   unfold oC
   split<;>exact hI
  ·rw [yL h]
   unfold jx
   split<;>exact hI
  ·rw [wk h]
   unfold jS
   split
   ·exact hI
   rename_i t e;exact hI.shut e
  ·rw [yM h]
   unfold kz
   split
   ·exact hI
   rename_i d e
   exact hI.jf (habout e).1
  rw [yN h]
  unfold iW
  split
  ·exact hI
  rename_i d e
  split
  ·exact hI
  rename_i to e2
  obtain⟨h1,h2,h3⟩:=habout e2
  exact hI.dw (habout e).1 h1 h2 h3
 rw [Bc h];exact hI
theorem bO.gj (hI:bO S) (c:aH):bO (Proofs.YtbnfiigafobejaaGreat.gj S c).1:=hI.iC _
end inv
structure dh where
 at_:Int
 op:Int
 path:ByteArray
 to:ByteArray
 text:ByteArray
def slash:ByteArray:=⟨#[47]⟩
def bR (s:ByteArray):List ByteArray:=Lib.splitB slash 0 (Lib.countB s slash) s
noncomputable section
def qt (O:dZ):Nat->List ByteArray->Except Int (Nat×ByteArray)
 |_,[]=>.error 170
 |d,[p]=>if (af O d).aE=true then .error 170 else .ok (d,p)
 |d,p::q::r=>match bK p (af O d).ah with
   |none=>.error 170
   |some t=>if t.kind=3 then .error 174 else if t.kind=1 then .error 173 else qt O t.k (q::r)
instance (ps:List ByteArray):Decidable (∀p∈ps,ck p):=Classical.propDecidable _
def nG (O:dZ) (d:Nat) (path:ByteArray):Except Int (Nat×ByteArray):=if ∀p∈bR path,ck p then qt O d (bR path) else .error 95
def sW (S:br) (d:Nat) (name text:ByteArray):Int×br:=
 if gi S.X S.O S.aq d name=0 then (0,(gy (fY S d name (cM S.X 1 420)) (bw S.X) text.data.toList).2.2) else (gi S.X S.O S.aq d name,S)
def pW (S:br) (d:Nat) (name text:ByteArray):Int×br:=
 match bK name (af S.O d).ah with
 |none=>(170,S)
 |some t=>if t.kind=3 then (174,S) else if t.kind=2 then (172,S) else ((gy S t.k text.data.toList).2.1,(gy S t.k text.data.toList).2.2)
def oo (S:br) (top:Nat) (a:dh) (d:Nat) (name:ByteArray):Int×br:=
 if a.op=1 then sW S d name a.text
 else if a.op=2 then mT S d name 493
 else if a.op=3 then jt S d name a.text
 else if a.op=4 then iE S d name
 else if a.op=5 then jf S d name
 else if a.op=6 then match nG S.O top a.to with
  |.error e=>(e,S)
  |.ok (to,aB)=>dw S d name to aB
 else pW S d name a.text
def cK (S:br) (aj:Int) (a:dh):Int×br:=
 if a.op<1\/a.op>7 then (230,S)
 else match aD.get S.aq aj with
  |none=>(141,S)
  |some t=>if t.kind=2 then
   match nG S.O t.k a.path with
   |.error e=>(e,S)
   |.ok (d,name)=>oo S t.k a d name
   else (173,S)
end
section facts
variable {S:br} {O:dZ} {d d':Nat} {name:ByteArray} {t:Th}
theorem Tg (hI:Inv0 S):∀(ps:List ByteArray) (d:Nat),aQ S.aq ⟨d,2⟩->(∀p∈ps,ck p)->qt S.O d ps=.ok (d',name)->aQ S.aq ⟨d',2⟩/\(af S.O d').aE=false/\ck name
 |[],d,_,_,h=>by cases h
 |[p],d,hd,hg,h=>by
   unfold qt at h
   split at h
   ·cases h
   rename_i hn
   cases h
   exact⟨hd,by simpa using hn,hg _ (ai3.2 rfl)⟩
 |p::q::r,d,hd,hg,h=>by
   unfold qt at h
   cases e:bK p (af S.O d).ah with
   |none=>rw [e] at h;cases h
   |some t=>
     rw [e] at h
     simp only at h
     split at h
     ·cases h
     rename_i h3
     split at h
     ·cases h
     rename_i h1
     have hl:=(hI.bS hd e).2
     have hk:t=⟨t.k,2⟩:=by
      have:=(hI.ob _ hl).2.2
      obtain⟨k,kd⟩:=t
      simp only at this h1 h3
      have:kd=2:=zc
      rw [this]
     rw [hk] at hl
     exact Tg hI (q::r) t.k hl (λp hp=>hg p (aiv _ hp)) h
theorem LH {path:ByteArray} (hI:Inv0 S) (hd:aQ S.aq ⟨d,2⟩) (h:nG S.O d path=.ok (d',name)):aQ S.aq ⟨d',2⟩/\(af S.O d').aE=false/\ck name:=by
 grind [nG,Tg]
theorem PU (hI:bO S) {o:bJ}:aQ (ins (S.X.last+1) ⟨bw S.X,o.kind⟩ S.aq) ⟨bw S.X,o.kind⟩:=by
 unfold aQ
 have h1:=rN hI.toInv0
 have hn:S.X.last+1∉aY S.aq:=by
  cases e:aD.get S.aq (S.X.last+1) with
  |none=>exact get_none.1 e
  |some t=>have:=hI.aq _ _ e;omega
 rw [wZ hn]
 simp only
 rw [h1,aik rfl]
theorem bO.sW {text:ByteArray} (hI:bO S) (hd:aQ S.aq ⟨d,2⟩) (mr:(af S.O d).aE=false) (j7:ck name):bO (Proofs.YtbnfiigafobejaaGreat.sW S d name text).2:=by
 unfold Proofs.YtbnfiigafobejaaGreat.sW
 split
 ·rename_i h0
  exact (hI.Gz hd mr j7 h0 (.inl rfl) ⟨Pd,Pd⟩ (.inl ⟨Pd,rfl⟩)).gy (PU hI (o:=cM S.X 1 420)) _
 exact hI
theorem bO.pW {text:ByteArray} (hI:bO S) (hd:aQ S.aq ⟨d,2⟩):bO (Proofs.YtbnfiigafobejaaGreat.pW S d name text).2:=by
 unfold Proofs.YtbnfiigafobejaaGreat.pW
 split
 ·exact hI
 rename_i t e
 split
 ·exact hI
 split
 ·exact hI
 rename_i h3 h2
 have hl:=(hI.bS hd e).2
 have hk:t=⟨t.k,1⟩:=by
  have:=(hI.ob _ hl).2.2
  obtain⟨k,kd⟩:=t
  grind
 rw [hk] at hl
 exact hI.gy hl _
theorem bO.oo {top:Nat} {a:dh} (hI:bO S) (ht:aQ S.aq ⟨top,2⟩) (hd:aQ S.aq ⟨d,2⟩) (mr:(af S.O d).aE=false) (j7:ck name):bO (Proofs.YtbnfiigafobejaaGreat.oo S top a d name).2:=by
 unfold Proofs.YtbnfiigafobejaaGreat.oo
 split
 ·exact hI.sW hd mr j7
 split
 ·exact hI.mT hd mr j7 ⟨Pd,Pd⟩
 split
 ·exact hI.jt hd mr j7
 split
 ·exact hI.iE hd
 split
 ·exact hI.jf hd
 split
 ·split
  ·exact hI
  rename_i to aB e
  obtain⟨h1,h2,h3⟩:=LH hI.toInv0 ht e
  exact hI.dw hd h1 h2 h3
 exact hI.pW hd
theorem adj {i:Int} (hI:Inv0 S) (e:aD.get S.aq i=some t) (hk:t.kind=2):aQ S.aq ⟨t.k,2⟩:=by
 have:=hI.live e
 obtain⟨k,kd⟩:=t
 simp only at hk
 subst hk
 exact this
theorem bO.cK {aj:Int} {a:dh} (hI:bO S):bO (Proofs.YtbnfiigafobejaaGreat.cK S aj a).2:=by
 unfold Proofs.YtbnfiigafobejaaGreat.cK
 split
 ·exact hI
 split
 ·exact hI
 rename_i t e
 split
 ·rename_i hk
  split
  ·exact hI
  rename_i d name e2
  have ht:=adj hI.toInv0 e hk
  obtain⟨h1,h2,h3⟩:=LH hI.toInv0 ht e2
  exact hI.oo ht h1 h2 h3
 exact hI
end facts
section err
variable {S:br} {c:aH} {d to:Nat} {name aB text:ByteArray} {t:Th}
theorem Fs (h:(ef S t).2.1≠0):(ef S t).2.2=S:=by
 grind [oL,pu]
theorem J6 {m:Int} (h:(mT S d name m).1≠0):(mT S d name m).2=S:=by
 grind [mT]
theorem Fu (h:(jt S d name text).1≠0):(jt S d name text).2=S:=by
 grind [jt]
theorem Ho (h:(iE S d name).1≠0):(iE S d name).2=S:=by
 grind [iE]
theorem J7 (h:(jf S d name).1≠0):(jf S d name).2=S:=by
 grind [jf]
theorem Hq (h:(dw S d name to aB).1≠0):(dw S d name to aB).2=S:=by
 unfold dw at *
 grind
theorem J8 {k:Nat} {bs:List UInt8} (h:(gy S k bs).2.1≠0):(gy S k bs).2.2=S:=by
 grind [gy]
theorem WW (h:(nU S d name to aB).1≠0):(nU S d name to aB).2=S:=by
 unfold nU at *
 grind
theorem R3 {m:Int} (h:(oQ S d name m).2.1≠0):(oQ S d name m).2.2=S:=by
 grind [oQ]
theorem adk (h:(iC S c).1≠0):(iC S c).2.1=S:=by
 by_cases bW:1<=c.op/\c.op<=15
 case neg=>rw [Bc bW]
 have bW:c.op=1\/c.op=2\/c.op=3\/c.op=4\/c.op=5\/c.op=6\/c.op=7\/c.op=8\/c.op=9\/c.op=10\/c.op=11\/c.op=12\/c.op=13\/c.op=14\/c.op=15:=zc
 rcases bW with e|e|e|e|e|e|e|e|e|e|e|e|e|e|e
 ·grind [zH,lD,Fs]
 ·grind [Ca,gU,Fs]
 ·grind [Cb,fS,Fs]
 ·grind [xW,iP,J6]
 ·grind [Cc,fe,R3]
 ·grind [Cd,iF,Fu]
 ·grind [Ce,dV,WW]
 ·grind [zJ,jk,Ho]
 ·grind [Cg,iw,J8]
 ·grind [yJ,cX]
 ·rw [yK e]
  unfold oC
  split<;>rfl
 all_goals grind [yL,jx,wk,jS,yM,kz,J7,yN,iW,Hq]
theorem adl (h:(gj S c).2.code≠0):(gj S c).1=S:=adk h
theorem Z2 {aj:Int} {a:dh} (h:(cK S aj a).1≠0):(cK S aj a).2=S:=by
 unfold cK at *
 split
 ·rfl
 rename_i e0
 rw [aij e0] at h
 cases e1:aD.get S.aq aj with
 |none=>rfl
 |some t=>
   rw [e1] at h
   simp only at h ⊢
   split
   ·rename_i e2
    rw [aik e2] at h
    cases e3:nG S.O t.k a.path with
    |error e=>rfl
    |ok x=>
      obtain⟨d,name⟩:=x
      rw [e3] at h
      grind [oo,sW,J6,Fu,Ho,J7,nG,Hq,pW,bK,af,J8]
   rfl
end err
noncomputable section
structure cL where
 at_:Int
 kind:Int
def jg (f:cL):List Value:=[.int .i64 f.at_,.int .i64 f.kind]
instance:Inhabited cL:=⟨⟨0,0⟩⟩
instance:Inhabited dh:=⟨⟨0,0,⟨#[]⟩,⟨#[]⟩,⟨#[]⟩⟩⟩
def pX (fs:List cL) (i:Nat):cL:=fs.getD i default
def act (xs:List dh) (i:Nat):dh:=xs.getD i default
def FK (f:cL):Prop:=1<=f.kind/\f.kind<=3
instance (f:cL):Decidable (FK f):=inferInstanceAs (Decidable (_/\_))
def iQ:List cL->Int->Int
 |[],_=>0
 |f::r,n=>if f.at_=n/\FK f then f.kind else iQ r n
def dN (xs:List dh) (n:Int):List dh:=xs.filter (λa=>decide (a.at_=n))
def kW (aj:Int) (S:br) (xs:List dh):br:=xs.foldl (λS a=>(cK S aj a).2) S
def iR (c:aH) (e:Int):aH:=if c.op=11\/c.op=12 then ⟨c.op,c.aG,0,c.name,c.text,c.dA,c.dC,c.data,0,0,0,0,0,e,0⟩ else {c with answer:=0,code:=e}
def dW (k:Int) (S:br) (c:aH):br×aH:=
 if k=1 then (if c.op=13 then (gj S c).1 else S,iR c 180)
 else if k=2/\(c.op=4\/c.op=5\/c.op=6\/c.op=7\/c.op=9) then (S,iR c 176)
 else if k=3/\c.op=9/\2<=c.data.length then ((gj S {c with data:=c.data.take (c.data.length / 2)}).1,{ (gj S {c with data:=c.data.take (c.data.length / 2)}).2 with dA:=c.dA,dC:=c.dC,data:=c.data})
 else gj S c
def ct (aj:Int) (c:aH):aH:=if c.op=1 then {c with other:=aj} else c
def gM (fs:List cL) (xs:List dh) (aj:Int) (n:Nat) (S:br) (c:aH):br×aH:=dW (iQ fs n) (kW aj S (dN xs n)) (ct aj c)
section p
variable {S:br} {c:aH} {fs gs:List cL} {xs ys:List dh} {aj k:Int} {n:Nat} {A:Option Addr} {m:Nat}
theorem ug (f:cL) (x:Int):∀fs:List cL,iQ (fs++[f]) x=if iQ fs x=0 then (if f.at_=x/\FK f then f.kind else 0) else iQ fs x
 |[]=>rfl
 |g::r=>by
   show (if g.at_=x/\FK g then g.kind else iQ (r++[f]) x)=if (if g.at_=x/\FK g then g.kind else iQ r x)=0 then _ else (if g.at_=x/\FK g then g.kind else iQ r x)
   by_cases h:g.at_=x/\FK g
   ·have:¬g.kind=0:=by have:=h.2.1;omega
    rw [aik h,aik h,aij this]
   rw [aij h,aij h,ug f x r]
theorem xX (a:dh) (x:Int):dN (xs++[a]) x=if a.at_=x then dN xs x++[a] else dN xs x:=by
 unfold dN
 rw [List.filter_append]
 by_cases h:a.at_=x
 ·rw [aik h,List.filter_cons_of_pos (by simpa using h),List.filter_nil]
 rw [aij h,List.filter_cons_of_neg (by simpa using h),List.filter_nil,List.append_nil]
theorem J9 (x:Int):(dN xs x).length<=xs.length:=ai7 ..
theorem UM {x:Int} {a:dh} (h:a∈dN xs x):a∈xs:=(List.mem_filter.1 h).1
theorem Ka (a:dh):kW aj S (xs++[a])=(cK (kW aj S xs) aj a).2:=by
 unfold kW;rw [List.foldl_append];rfl
theorem zY {i:Nat} (h:i<xs.length):xs[i]?=some (act xs i):=getD_some h
theorem GA {i:Nat} (h:i<fs.length):fs[i]?=some (pX fs i):=getD_some h
theorem UN {i:Nat} (h:i<xs.length):kW aj S (xs.take (i+1))=(cK (kW aj S (xs.take i)) aj (act xs i)).2:=by
 rw [aiQ,zY h];exact Ka _
theorem bO.kW (h:bO S):∀xs:List dh,bO (Proofs.YtbnfiigafobejaaGreat.kW aj S xs):=λxs=>by
 induction xs generalizing S with
 |nil=>exact h
 |cons a r ih=>exact ih h.cK
theorem bO.dW (h:bO S):bO (Proofs.YtbnfiigafobejaaGreat.dW k S c).1:=by
 unfold Proofs.YtbnfiigafobejaaGreat.dW
 split
 ·show bO (if c.op=13 then _ else _)
  split
  ·exact h.gj _
  exact h
 split
 ·exact h
 split
 ·exact h.gj _
 exact h.gj _
theorem bO.gM (h:bO S):bO (Proofs.YtbnfiigafobejaaGreat.gM fs xs aj n S c).1:=(h.kW _).dW
def cY (A:Option Addr) (m:Nat) (c:aH):aH:={c with dA:=A,dC:=m}
theorem aez:iC S (cY A m c)=((iC S c).1,(iC S c).2.1,cY A m (iC S c).2.2):=by
 by_cases bW:1<=c.op/\c.op<=15
 case neg=>rw [Bc bW,Bc (c:=cY A m c) bW]
 have bW:c.op=1\/c.op=2\/c.op=3\/c.op=4\/c.op=5\/c.op=6\/c.op=7\/c.op=8\/c.op=9\/c.op=10\/c.op=11\/c.op=12\/c.op=13\/c.op=14\/c.op=15:=zc
 rcases bW with q|q|q|q|q|q|q|q|q|q|q|q|q|q|q
 ·rw [zH q,zH (c:=cY A m c) q];unfold lD cY;simp only;cases aD.get S.aq c.other<;>(try simp only)<;>(repeat' split)<;>rfl
 ·rw [Ca q,Ca (c:=cY A m c) q];unfold gU jP cY;simp only;split<;>(repeat' split)<;>rfl
 ·rw [Cb q,Cb (c:=cY A m c) q];unfold fS jP cY;simp only;split<;>(repeat' split)<;>rfl
 ·rw [xW q,xW (c:=cY A m c) q];unfold iP cY;simp only;split<;>(repeat' split)<;>rfl
 ·rw [Cc q,Cc (c:=cY A m c) q];unfold fe cY;simp only;split<;>(repeat' split)<;>rfl
 ·rw [Cd q,Cd (c:=cY A m c) q];unfold iF cY;simp only;split<;>(repeat' split)<;>rfl
 ·rw [Ce q,Ce (c:=cY A m c) q];unfold dV cY;simp only;split<;>(repeat' split)<;>rfl
 ·rw [zJ q,zJ (c:=cY A m c) q];unfold jk cY;simp only;split<;>(repeat' split)<;>rfl
 ·rw [Cg q,Cg (c:=cY A m c) q];unfold iw cY;simp only;split<;>(repeat' split)<;>rfl
 ·rw [yJ q,yJ (c:=cY A m c) q];unfold cX cY;simp only;split<;>(repeat' split)<;>rfl
 ·rw [yK q,yK (c:=cY A m c) q];unfold oC cY;simp only;split<;>(repeat' split)<;>rfl
 ·rw [yL q,yL (c:=cY A m c) q];unfold jx jP cY;simp only;split<;>(repeat' split)<;>rfl
 ·rw [wk q,wk (c:=cY A m c) q];unfold jS cY;simp only;split<;>(repeat' split)<;>rfl
 ·rw [yM q,yM (c:=cY A m c) q];unfold kz cY;simp only;split<;>(repeat' split)<;>rfl
 rw [yN q,yN (c:=cY A m c) q];unfold iW cY;simp only;split<;>(repeat' split)<;>rfl
theorem Z4:(iC S c).2.2.data=c.data:=by
 by_cases bW:1<=c.op/\c.op<=15
 case neg=>rw [Bc bW]
 have bW:c.op=1\/c.op=2\/c.op=3\/c.op=4\/c.op=5\/c.op=6\/c.op=7\/c.op=8\/c.op=9\/c.op=10\/c.op=11\/c.op=12\/c.op=13\/c.op=14\/c.op=15:=zc
 rcases bW with q|q|q|q|q|q|q|q|q|q|q|q|q|q|q
 ·rw [zH q];unfold lD;(repeat' split)<;>rfl
 ·rw [Ca q];unfold gU;(repeat' split)<;>rfl
 ·rw [Cb q];unfold fS;(repeat' split)<;>rfl
 ·rw [xW q];unfold iP;(repeat' split)<;>rfl
 ·rw [Cc q];unfold fe;(repeat' split)<;>rfl
 ·rw [Cd q];unfold iF;(repeat' split)<;>rfl
 ·rw [Ce q];unfold dV;(repeat' split)<;>rfl
 ·rw [zJ q];unfold jk;(repeat' split)<;>rfl
 ·rw [Cg q];unfold iw;(repeat' split)<;>rfl
 ·rw [yJ q];unfold cX;(repeat' split)<;>rfl
 ·rw [yK q];unfold oC oA;(repeat' split)<;>rfl
 ·rw [yL q];unfold jx oA;(repeat' split)<;>rfl
 ·rw [wk q];unfold jS;(repeat' split)<;>rfl
 ·rw [yM q];unfold kz;(repeat' split)<;>rfl
 rw [yN q];unfold iW;(repeat' split)<;>rfl
theorem PV:gj S (cY A m c)=((gj S c).1,cY A m (gj S c).2):=by
 have h:=aez (S:=S) (A:=A) (m:=m) (c:={c with answer:=0,code:=230})
 unfold gj
 rw [show ({cY A m c with answer:=0,code:=230}:aH)=cY A m {c with answer:=0,code:=230} from rfl,h]
 rfl
theorem PW:(gj S c).2.data=c.data:=Z4 (c:={c with answer:=0,code:=230})
theorem PX {e:Int}:iR (cY A m c) e=cY A m (iR c e):=by
 unfold iR
 by_cases h:c.op=11\/c.op=12
 ·rw [aik h,aik (show (cY A m c).op=11\/(cY A m c).op=12 from h)];rfl
 rw [aij h,aij (show ¬((cY A m c).op=11\/(cY A m c).op=12) from h)];rfl
theorem wm {e:Int}:(iR c e).data=c.data:=by
 unfold iR;split<;>rfl
theorem R4:(dW k S c).2.data=c.data:=by
 unfold dW
 split
 ·exact wm
 split
 ·exact wm
 split
 ·rfl
 exact PW
theorem MQ:dW k S (cY A m c)=((dW k S c).1,cY A m (dW k S c).2):=by
 unfold dW
 by_cases h1:k=1
 ·rw [aik h1,aik h1]
  show (if c.op=13 then (gj S (cY A m c)).1 else S,iR (cY A m c) 180)=_
  rw [PV,PX]
 rw [aij h1,aij h1]
 by_cases h2:k=2/\(c.op=4\/c.op=5\/c.op=6\/c.op=7\/c.op=9)
 ·rw [aik h2,aik (show k=2/\((cY A m c).op=4\/(cY A m c).op=5\/(cY A m c).op=6\/(cY A m c).op=7\/(cY A m c).op=9) from h2),PX]
 rw [aij h2,aij (show ¬(k=2/\((cY A m c).op=4\/(cY A m c).op=5\/(cY A m c).op=6\/(cY A m c).op=7\/(cY A m c).op=9)) from h2)]
 by_cases h3:k=3/\c.op=9/\2<=c.data.length
 ·rw [aik h3,aik (show k=3/\(cY A m c).op=9/\2<=(cY A m c).data.length from h3)]
  show ((gj S (cY A m {c with data:=c.data.take (c.data.length / 2)})).1,{ (gj S (cY A m {c with data:=c.data.take (c.data.length / 2)})).2 with dA:=A,dC:=m,data:=c.data})=_
  rw [PV];rfl
 rw [aij h3,aij (show ¬(k=3/\(cY A m c).op=9/\2<=(cY A m c).data.length) from h3)]
 exact PV
theorem Z5:ct aj (cY A m c)=cY A m (ct aj c):=by
 unfold ct
 by_cases h:c.op=1
 ·rw [aik h,aik (show (cY A m c).op=1 from h)];rfl
 rw [aij h,aij (show ¬(cY A m c).op=1 from h)]
theorem MR:gM fs xs aj n S (cY A m c)=((gM fs xs aj n S c).1,cY A m (gM fs xs aj n S c).2):=by
 unfold gM
 rw [Z5,MQ]
theorem zK:(ct aj c).data=c.data:=by
 unfold ct;split<;>rfl
theorem CS:(gM fs xs aj n S c).2.data=c.data:=R4.trans zK
theorem R5 {tG:Int} (h:tG=if c.op=1 then aj else c.other):ct aj c={c with other:=tG}:=by
 unfold ct
 by_cases e:c.op=1
 ·rw [aik e] at h ⊢;rw [h]
 rw [aij e] at h ⊢;rw [h]
end p
end
end
section
open Go.RowKit Go.WideShapes Go.ChangeShapes Go.ChangeAt Go.Deep
def cI {α:Type} (f:α->List Value) (xs:List α):List Value:=fk (λ_ x=>f x) 0 xs
theorem MS {α:Type} {f:α->List Value} {s:Nat} (hf:∀a,(f a).length=s) {xs:List α} {i j:Nat} {a:α} (h:xs[i]?=some a) (hj:j<s):(cI f xs)[i*s+j]?=(f a)[j]?:=vG (f:=λ_ x=>f x) (s:=s) (λ_ a=>hf a) xs 0 i j _ h hj
def kA (a:dh):List Value:=[.int .i64 a.at_,.int .i64 a.op,.string a.path,.string a.to,.string a.text]
structure Fv (a:dh) (b:Nat):Prop where
 aw:(Lit.int .i64 a.at_).wf=true
 path:a.path.size<=b
 to:a.to.size<=b
 text:a.text.size<=b
theorem Fv.wide {a:dh} {b b':Nat} (h:Fv a b) (g:b<=b'):Fv a b':=⟨h.aw,air h.path g,air h.to g,air h.text g⟩
structure zL (β:Bs) (c:aH) (b:Nat):Prop where
 data:bp β c.dA c.data
 len:c.data.length<=b
 name:c.name.size<=b
 text:c.text.size<=b
 hw:(Lit.int .i64 c.aG).wf=true
 ow:(Lit.int .i64 c.other).wf=true
 cap:c.data.length<=c.dC
theorem zL.le {β β':Bs} {c:aH} {b:Nat} (h:zL β c b) (g:β.le β'):zL β' c b:=⟨h.data.le g,h.len,h.name,h.text,h.hw,h.ow,h.cap⟩
theorem zL.wide {β:Bs} {c:aH} {b b':Nat} (h:zL β c b) (g:b<=b'):zL β c b':=⟨h.data,air h.len g,air h.name g,air h.text g,h.hw,h.ow,h.cap⟩
instance:Inhabited aH:=⟨⟨0,0,0,⟨#[]⟩,⟨#[]⟩,none,0,[],0,0,0,0,0,0,0⟩⟩
def bq (xs:List aH) (i:Nat):aH:=xs.getD i default
structure jq (xs:List dh) (b:Nat):Prop where
 len:xs.length<=b
 q:∀a∈xs,Fv a b
structure lg (xs:List cL) (b:Nat):Prop where
 len:xs.length<=b
 q:∀a∈xs,(Lit.int .i64 a.at_).wf=true
theorem jq.wide {xs:List dh} {b b':Nat} (h:jq xs b) (g:b<=b'):jq xs b':=⟨air h.len g,λa ha=>(h.q a ha).wide g⟩
theorem lg.wide {xs:List cL} {b b':Nat} (h:lg xs b) (g:b<=b'):lg xs b':=⟨air h.len g,h.q⟩
structure jA (β:Bs) (A:Option Addr) (xs:List aH):Prop where
 row:cA β A (cI aO xs)
 q:∀i,i<xs.length->zL β (bq xs i) 1048576
section s
variable {β β':Bs} {A:Option Addr} {i j:Nat} {v:Value}
theorem Kb {α:Type} {f:α->List Value} {s:Nat} {xs:List α} {a:α} (h:cA β A (cI f xs)) (hf:∀a,(f a).length=s) (hi:xs[i]?=some a) (hv:(f a)[j]?=some v):A=some ⟨bG A,bE A,none⟩/\Rd β ⟨bG A,bE A+i*s+j,none⟩ v:=by
 have hj:j<s:=by rw [←hf a];exact dO hv
 have:=h (i*s+j) v ((MS hf hi hj).trans hv)
 rw [←ajl] at this
 exact this
theorem jA.le {xs:List aH} (h:jA β A xs) (g:β.le β'):jA β' A xs:=⟨h.row.le g,λi hi=>(h.q i hi).le g⟩
theorem vN {xs:List aH} (h:i<xs.length):xs[i]?=some (bq xs i):=getD_some h
theorem jA.hd {xs:List aH} (h:jA β A xs) (hi:i<xs.length):A=some ⟨bG A,bE A,none⟩:=(Kb (s:=13) (j:=0) h.row (λ_=>rfl) (vN hi) rfl).1
theorem jA.rd {xs:List aH} (h:jA β A xs) (hi:i<xs.length) (hv:(aO (bq xs i))[j]?=some v):Rd β ⟨bG A,bE A+i*13+j,none⟩ v:=(Kb h.row (λ_=>rfl) (vN hi) hv).2
theorem Oq {xs:List dh} (h:cA β A (cI kA xs)) (hi:i<xs.length):A=some ⟨bG A,bE A,none⟩:=(Kb (s:=5) (j:=0) h (λ_=>rfl) (zY hi) rfl).1
theorem rz {xs:List dh} (h:cA β A (cI kA xs)) (hi:i<xs.length) (hv:(kA (act xs i))[j]?=some v):Rd β ⟨bG A,bE A+i*5+j,none⟩ v:=(Kb h (λ_=>rfl) (zY hi) hv).2
theorem ab7 {xs:List cL} (h:cA β A (cI jg xs)) (hi:i<xs.length):A=some ⟨bG A,bE A,none⟩:=(Kb (s:=2) (j:=0) h (λ_=>rfl) (GA hi) rfl).1
theorem Ot {xs:List cL} (h:cA β A (cI jg xs)) (hi:i<xs.length) (hv:(jg (pX xs i))[j]?=some v):Rd β ⟨bG A,bE A+i*2+j,none⟩ v:=(Kb h (λ_=>rfl) (GA hi) hv).2
theorem lg.at {xs:List cL} {b:Nat} (h:lg xs b) (hi:i<xs.length):(Lit.int .i64 (pX xs i).at_).wf=true:=h.q _ (aiU (GA hi))
theorem jq.at {xs:List dh} {b:Nat} (h:jq xs b) (hi:i<xs.length):Fv (act xs i) b:=h.q _ (aiU (zY hi))
end s
section a
variable {H:Type} {enc:TypeId×Value->H} {W:World} {sp:Nat->Bool}
theorem oq {t:TypeId} {n:Nat} {c:Value} {x:DataW H×List MemPlace} (ht:Tryz.prog.underlying t=some (.int .i64)) (h:DataW.trod enc Tryz.prog W 0 sp true n t [c]=some x):∃z,c=.int .i64 z/\(Lit.int .i64 z).wf=true:=by
 obtain⟨z,h1,_,h3⟩:=DataW.trod_int ht h
 cases h1
 exact⟨z,rfl,h3⟩
theorem Z6 {n:Nat} {cs:List Value} {x:DataW H×List MemPlace} (h:DataW.trod enc Tryz.prog W 0 sp true n 68 cs=some x):∃a:dh,cs=kA a/\Fv a (Rows.uptoBulk x.1):=by
 obtain⟨vs,m,_,hx,hl,hvl,hv⟩:=DataW.trod_struct Tryz.underlying68 h
 have hC:Tryz.prog.cellsOf 68=5:=KB
 rw [hC] at hl
 match cs,hl with
 |[c0,c1,c2,c3,c4],_=>
   obtain⟨a0,_⟩:=cG (hv 0 _ rfl) (by rw [hvl];decide)
   obtain⟨a1,_⟩:=cG (hv 1 _ rfl) (by rw [hvl];decide)
   obtain⟨a2,e2⟩:=cG (hv 2 _ rfl) (by rw [hvl];decide)
   obtain⟨a3,e3⟩:=cG (hv 3 _ rfl) (by rw [hvl];decide)
   obtain⟨a4,e4⟩:=cG (hv 4 _ rfl) (by rw [hvl];decide)
   obtain⟨z0,rfl,w0⟩:=oq (c:=c0) Tryz.underlying3 a0
   obtain⟨z1,rfl,_⟩:=oq (c:=c1) Tryz.underlying3 a1
   obtain⟨s2,rfl,l2⟩:=vf (c:=c2) Tryz.underlying9 a2
   obtain⟨s3,rfl,l3⟩:=vf (c:=c3) Tryz.underlying9 a3
   obtain⟨s4,rfl,l4⟩:=vf (c:=c4) Tryz.underlying9 a4
   have hb:Rows.uptoBulk x.1=Rows.uptoBulk (.agg (vs.map (·.1))):=by rw [hx]
   exact⟨⟨z0,z1,s2,s3,s4⟩,rfl,⟨w0,by show s2.size<=_;omega,by show s3.size<=_;omega,by show s4.size<=_;omega⟩⟩
theorem UO {n:Nat} {cs:List Value} {x:DataW H×List MemPlace} (h:DataW.trod enc Tryz.prog W 0 sp true n 66 cs=some x):∃a:cL,cs=jg a/\(Lit.int .i64 a.at_).wf=true:=by
 obtain⟨vs,m,_,hx,hl,hvl,hv⟩:=DataW.trod_struct Tryz.underlying66 h
 have hC:Tryz.prog.cellsOf 66=2:=KB
 rw [hC] at hl
 match cs,hl with
 |[c0,c1],_=>
   obtain⟨a0,_⟩:=cG (hv 0 _ rfl) (by rw [hvl];decide)
   obtain⟨a1,_⟩:=cG (hv 1 _ rfl) (by rw [hvl];decide)
   obtain⟨z0,rfl,w0⟩:=oq (c:=c0) Tryz.underlying3 a0
   obtain⟨z1,rfl,_⟩:=oq (c:=c1) Tryz.underlying3 a1
   exact⟨⟨z0,z1⟩,rfl,w0⟩
theorem R6 {n:Nat} {c:Value} {x:DataW H×List MemPlace} (h:DataW.trod enc Tryz.prog W 0 sp true n 51 [c]=some x) :
 ∃A cp,∃d:List UInt8,c=.slice A d.length cp/\bp (B0 W) A d/\d.length+1<=Rows.uptoBulk x.1/\d.length<=cp:=by
 obtain⟨A,cp,d,rfl,h2,h3⟩:=JI h
 obtain⟨A',c',xs,D,h1,hc,_⟩:=uY (α:=UInt8) (f:=λb=>[BM b]) (Q:=λ_ _=>True) Tryz.underlying51 (size:=1) KB Pd (λn cs x h=>SK Tryz.underlying5 h) (λ_=>rfl) h
 have h4:=(List.cons.inj h1).1
 injection h4 with _ e1 e2
 exact⟨A,cp,d,rfl,h2,h3,zc⟩
theorem WX {n:Nat} {cs:List Value} {x:DataW H×List MemPlace} (h:DataW.trod enc Tryz.prog W 0 sp true n 53 cs=some x):∃c:aH,cs=aO c/\zL (B0 W) c (Rows.uptoBulk x.1):=by
 obtain⟨us,_,_,hux,hl,yj,hu⟩:=DataW.trod_struct Tryz.underlying53 h
 have hC:Tryz.prog.cellsOf 53=13:=KB
 rw [hC] at hl
 match cs,hl with
 |[c0,c1,c2,c3,c4,c5,c6,c7,c8,c9,c10,c11,Bd],_=>
   obtain⟨h0,_⟩:=cG (hu 0 _ rfl) (by rw [yj];decide)
   obtain⟨h1,_⟩:=cG (hu 1 _ rfl) (by rw [yj];decide)
   obtain⟨h2,_⟩:=cG (hu 2 _ rfl) (by rw [yj];decide)
   obtain⟨h3,b3⟩:=cG (hu 3 _ rfl) (by rw [yj];decide)
   obtain⟨h4,b4⟩:=cG (hu 4 _ rfl) (by rw [yj];decide)
   obtain⟨h5,b5⟩:=cG (hu 5 _ rfl) (by rw [yj];decide)
   obtain⟨h6,_⟩:=cG (hu 6 _ rfl) (by rw [yj];decide)
   obtain⟨h7,_⟩:=cG (hu 7 _ rfl) (by rw [yj];decide)
   obtain⟨h8,_⟩:=cG (hu 8 _ rfl) (by rw [yj];decide)
   obtain⟨h9,_⟩:=cG (hu 9 _ rfl) (by rw [yj];decide)
   obtain⟨h10,_⟩:=cG (hu 10 _ rfl) (by rw [yj];decide)
   obtain⟨h11,_⟩:=cG (hu 11 _ rfl) (by rw [yj];decide)
   obtain⟨ts,_,_,_,_,htl,ht⟩:=DataW.trod_struct Tryz.underlying26 h9
   obtain⟨t0,_⟩:=cG (ht 0 _ rfl) (by rw [htl];decide)
   obtain⟨t1,_⟩:=cG (ht 1 _ rfl) (by rw [htl];decide)
   obtain⟨z0,rfl,w0⟩:=oq (c:=c0) Tryz.underlying3 h0
   obtain⟨z1,rfl,w1⟩:=oq (c:=c1) Tryz.underlying3 h1
   obtain⟨z2,rfl,w2⟩:=oq (c:=c2) Tryz.underlying3 h2
   obtain⟨s3,rfl,l3⟩:=vf (c:=c3) Tryz.underlying9 h3
   obtain⟨s4,rfl,l4⟩:=vf (c:=c4) Tryz.underlying9 h4
   obtain⟨A5,p5,d5,rfl,q5,l5,k5⟩:=R6 (c:=c5) h5
   obtain⟨z6,rfl,w6⟩:=oq (c:=c6) Tryz.underlying3 h6
   obtain⟨z7,rfl,w7⟩:=oq (c:=c7) Tryz.underlying3 h7
   obtain⟨z8,rfl,w8⟩:=oq (c:=c8) Tryz.underlying3 h8
   obtain⟨z9,rfl,w9⟩:=oq (c:=c9) Tryz.underlying3 t0
   obtain⟨z10,rfl,w10⟩:=oq (c:=c10) Tryz.underlying3 t1
   obtain⟨z11,rfl,w11⟩:=oq (c:=c11) Tryz.underlying38 h10
   obtain⟨z12,rfl,w12⟩:=oq (c:=Bd) Tryz.underlying3 h11
   have hb:Rows.uptoBulk x.1=Rows.uptoBulk (.agg (us.map (·.1))):=by rw [hux]
   exact⟨⟨z0,z1,z2,s3,s4,A5,p5,d5,z6,z7,z8,z9,z10,z11,z12⟩,rfl,⟨q5,by show d5.length<=_;omega,by show s3.size<=_;omega,by show s4.size<=_;omega,w1,w2,k5⟩⟩
theorem UQ {n:Nat} {c:Value} {x:DataW H×List MemPlace} (h:DataW.trod enc Tryz.prog W 0 sp true n 30 [c]=some x):∃A cp,∃xs:List dh,c=.slice A xs.length cp/\cA (B0 W) A (cI kA xs)/\jq xs (Rows.uptoBulk x.1)/\xs.length<=cp:=by
 obtain⟨A,cp,xs,D,h1,PY,_,h2,h4,h3⟩:=uY (α:=dh) (f:=kA) (Q:=λa d=>Fv a (Rows.uptoBulk d)) Tryz.underlying30 (size:=5) KB Pd (λn cs x h=>Z6 h) (λ_=>rfl) h
 cases h1
 have h5:=wU ((List.range xs.length).map D)
 refine⟨A,cp,xs,rfl,h2,⟨by simp at h5;omega,λa ha=>?_⟩,PY⟩
 obtain⟨i,hi,e⟩:=aiY.1 ha
 have h6:=h4 i hi
 rw [show xs.getD i default=a by rw [←e];simp [hi]] at h6
 exact h6.wide (by have:=DL (D:=D) hi;omega)
theorem PZ {n:Nat} {c:Value} {x:DataW H×List MemPlace} (h:DataW.trod enc Tryz.prog W 0 sp true n 29 [c]=some x):∃A cp,∃xs:List cL,c=.slice A xs.length cp/\cA (B0 W) A (cI jg xs)/\lg xs (Rows.uptoBulk x.1)/\xs.length<=cp:=by
 obtain⟨A,cp,xs,D,h1,PY,_,h2,h4,h3⟩:=uY (α:=cL) (f:=jg) (Q:=λa _=>(Lit.int .i64 a.at_).wf=true) Tryz.underlying29 (size:=2) KB Pd (λn cs x h=>UO h) (λ_=>rfl) h
 cases h1
 have h5:=wU ((List.range xs.length).map D)
 refine⟨A,cp,xs,rfl,h2,⟨by simp at h5;omega,λa ha=>?_⟩,PY⟩
 obtain⟨i,hi,e⟩:=aiY.1 ha
 have h6:=h4 i hi
 rw [show xs.getD i default=a by rw [←e];simp [hi]] at h6
 exact h6
theorem open_calls {v:Value} {d:DataW H} {ps:List MemPlace} {r:Go.Reach} {b0:Nat} (hval:Value.okWide Tryz.prog W r b0 35 v) (h:DataW.Trod enc Tryz.prog W 0 sp true 35 v d ps) (hb:Rows.uptoBulk d<=1048576) :
 ∃A cp,∃xs:List aH,v=.slice A xs.length cp/\jA (B0 W) A xs/\xs.length<=1048576/\xs.length<=cp:=by
 obtain⟨a,n,c,rfl⟩:=okWide_slice Tryz.underlying35 hval
 obtain⟨fuel,h⟩:=h
 obtain⟨A,cp,xs,D,h1,PY,_,h2,h4,h3⟩:=uY (α:=aH) (f:=aO) (Q:=λa d=>zL (B0 W) a (Rows.uptoBulk d)) Tryz.underlying35 (size:=13) KB Pd (λn cs x h=>WX h) (λ_=>rfl) h
 cases h1
 have h5:=wU ((List.range xs.length).map D)
 have h3:Rows.uptoBulkAll ((List.range xs.length).map D)+1<=Rows.uptoBulk d:=h3
 refine⟨a,c,xs,rfl,⟨h2,λi hi=>(h4 i hi).wide ?_⟩,by simp at h5;omega,PY⟩
 have h7:=DL (D:=D) hi
 omega
def LI (A:Option Addr) (n cp:Nat) (aj:Int) (X:FM) (Af:Option Addr) (nf cf:Nat) (Aa:Option Addr) (na ca:Nat):Value:=.agg #[.slice A n cp,.int .i64 aj,.int .i64 X.cN,.int .i64 X.cB,.int .i64 X.cH,.int .i64 X.cS,.int .i64 X.cZ,.slice Af nf cf,.slice Aa na ca]
theorem open_wstart {v:Value} {d:DataW H} {ps:List MemPlace} {r:Go.Reach} {b0:Nat} (hval:Value.okWide Tryz.prog W r b0 34 v) (h:DataW.Trod enc Tryz.prog W 0 sp true 34 v d ps) :
 ∃A cp,∃ns:List aL,∃L:eP,∃aj:Int,∃X:FM,∃Af cf,∃fs:List cL,∃Aa ca,∃xs:List dh,v=LI A ns.length cp aj X Af fs.length cf Aa xs.length ca/\aN (B0 W) A ns L/\j6 ns (Rows.uptoBulk d)/\agQ X/\(Lit.int .i64 aj).wf=true ∧
   cA (B0 W) Af (cI jg fs)/\lg fs (Rows.uptoBulk d)/\fs.length<=cf/\cA (B0 W) Aa (cI kA xs)/\jq xs (Rows.uptoBulk d)/\xs.length<=ca:=by
 obtain⟨cs,rfl,hcs⟩:=okWide_struct Tryz.underlying34 hval
 obtain⟨fuel,h⟩:=h
 obtain⟨ys,m,_,hx,hl,wG,hf⟩:=DataW.trod_struct Tryz.underlying34 h
 have hC:Tryz.prog.cellsOf 34=9:=KB
 rw [hC] at hcs
 obtain⟨cs⟩:=cs
 match cs,hcs with
 |[c0,c1,c2,c3,c4,c5,c6,c7,c8],_=>
   obtain⟨h0,b0⟩:=cG (hf 0 _ rfl) (by rw [wG];decide)
   obtain⟨hr,_⟩:=cG (hf 1 _ rfl) (by rw [wG];decide)
   obtain⟨h1,_⟩:=cG (hf 2 _ rfl) (by rw [wG];decide)
   obtain⟨h3,b3⟩:=cG (hf 3 _ rfl) (by rw [wG];decide)
   obtain⟨us,_,_,hux,_,yj,hu⟩:=DataW.trod_struct Tryz.underlying24 h0
   obtain⟨g0,e0⟩:=cG (hu 0 _ rfl) (by rw [yj];decide)
   obtain⟨A,cp,ns,L,rfl,hG,hB⟩:=Uj (c:=c0) g0
   obtain⟨vs,_,_,_,_,hvl,hv⟩:=DataW.trod_struct Tryz.underlying28 h1
   obtain⟨k0,_⟩:=cG (hv 0 _ rfl) (by rw [hvl];decide)
   obtain⟨k1,_⟩:=cG (hv 1 _ rfl) (by rw [hvl];decide)
   obtain⟨k2,_⟩:=cG (hv 2 _ rfl) (by rw [hvl];decide)
   obtain⟨k3,_⟩:=cG (hv 3 _ rfl) (by rw [hvl];decide)
   obtain⟨ts,_,_,_,_,htl,ht⟩:=DataW.trod_struct Tryz.underlying26 k3
   obtain⟨t0,_⟩:=cG (ht 0 _ rfl) (by rw [htl];decide)
   obtain⟨t1,_⟩:=cG (ht 1 _ rfl) (by rw [htl];decide)
   obtain⟨zr,rfl,wr⟩:=oq (c:=c1) Tryz.underlying3 hr
   obtain⟨z0,rfl,w0⟩:=om (c:=c2) Tryz.underlying3 k0
   obtain⟨z1,rfl,w1⟩:=om (c:=c3) Tryz.underlying3 k1
   obtain⟨z2,rfl,w2⟩:=om (c:=c4) Tryz.underlying3 k2
   obtain⟨z3,rfl,w3⟩:=om (c:=c5) Tryz.underlying3 t0
   obtain⟨z4,rfl,w4⟩:=om (c:=c6) Tryz.underlying3 t1
   obtain⟨ws,_,_,hwx,_,hwl,hw⟩:=DataW.trod_struct Tryz.underlying32 h3
   obtain⟨q0,d0⟩:=cG (hw 0 _ rfl) (by rw [hwl];decide)
   obtain⟨q1,d1⟩:=cG (hw 1 _ rfl) (by rw [hwl];decide)
   obtain⟨Af,cf,fs,rfl,hF,hFl,hFc⟩:=PZ (c:=c7) q0
   obtain⟨Aa,ca,xs,rfl,hA,hAb,hAc⟩:=UQ (c:=c8) q1
   cases hx
   rw [hux] at b0
   rw [hwx] at b3
   exact⟨A,cp,ns,L,zr,⟨z0,z1,z2,z3,z4,0,0,0⟩,Af,cf,fs,Aa,ca,xs,rfl,hG,hB.wide (air e0 b0),⟨w0,w1,w2,w3,w4⟩,wr,hF,⟨air hFl.len (air d0 b3),hFl.q⟩,hFc,hA,⟨air hAb.len (air d1 b3),λa ha=>(hAb.q a ha).wide (air d1 b3)⟩,hAc⟩
end a
end
end Go.Proofs.YtbnfiigafobejaaGreat
section
namespace Go.Proofs
open Go.Shelf
def Tryz.keysS_ren:Go.Shelf.Ren:=⟨fun|7=>69|10=>96|n=>n,fun|23=>145|26=>9|3=>133|28=>160|0=>0|27=>159|33=>162|4=>4|n=>n,fun|n=>n⟩
theorem Tryz.keysS:Go.Proofs.SlLaysZ.n7 Tryz.prog Tryz.keysS_ren:={
 mixed:=by kernel_rfl
 f7:=⟨Tryz.f69.name,by decide,Tryz.func69.trans (congrArg some (by kernel_rfl))⟩
 f10:=⟨Tryz.f96.name,by decide,Tryz.func96.trans (congrArg some (by kernel_rfl))⟩
 t0:=Tryz.underlying0
 a0:=Tryz.isAgg0
 z0:=Tryz.sizeOf0
 v0:=Tryz.zeroValue0
 t4:=Tryz.underlying4
 a4:=Tryz.isAgg4
 z4:=Tryz.sizeOf4
 v4:=Tryz.zeroValue4
 t23:=Tryz.underlying145
 a23:=Tryz.isAgg145
 z23:=Tryz.sizeOf145
 v23:=Tryz.zeroValue145
 t26:=Tryz.underlying9
 a26:=Tryz.isAgg9
 z26:=Tryz.sizeOf9
 v26:=Tryz.zeroValue9
 t27:=Tryz.underlying159
 a27:=Tryz.isAgg159
 z27:=Tryz.sizeOf159
 v27:=Tryz.zeroValue159
 t28:=Tryz.underlying160
 a28:=Tryz.isAgg160
 z28:=Tryz.sizeOf160
 v28:=Tryz.zeroValue160
 t33:=Tryz.underlying162
 a33:=Tryz.isAgg162
 z33:=Tryz.sizeOf162
 v33:=Tryz.zeroValue162}
def Tryz.sortedS_ren:Go.Shelf.Ren:=⟨fun|6=>68|8=>94|9=>95|11=>113|13=>112|12=>114|23=>131|24=>132|14=>133|15=>134|16=>135|17=>136|18=>137|19=>138|20=>139|21=>140|22=>141|25=>150|26=>145|27=>146|28=>151|29=>152|30=>153|31=>157|n=>n,fun|26=>9|28=>160|24=>157|0=>0|3=>3|37=>199|48=>214|50=>216|4=>4|40=>208|39=>207|45=>205|5=>5|9=>9|51=>224|55=>228|57=>233|58=>234|33=>162|n=>n,fun|n=>n⟩
theorem Tryz.sortedS:Go.Proofs.SlLaysZ.n6 Tryz.prog Tryz.sortedS_ren:={
 mixed:=by kernel_rfl
 f6:=⟨Tryz.f68.name,by decide,Tryz.func68.trans (congrArg some (by kernel_rfl))⟩
 f8:=⟨Tryz.f94.name,by decide,Tryz.func94.trans (congrArg some (by kernel_rfl))⟩
 f11:=⟨Tryz.f113.name,by decide,Tryz.func113.trans (congrArg some (by kernel_rfl))⟩
 t0:=Tryz.underlying0
 a0:=Tryz.isAgg0
 z0:=Tryz.sizeOf0
 v0:=Tryz.zeroValue0
 t24:=Tryz.underlying157
 a24:=Tryz.isAgg157
 z24:=Tryz.sizeOf157
 v24:=Tryz.zeroValue157
 t26:=Tryz.underlying9
 a26:=Tryz.isAgg9
 z26:=Tryz.sizeOf9
 v26:=Tryz.zeroValue9
 t28:=Tryz.underlying160
 a28:=Tryz.isAgg160
 z28:=Tryz.sizeOf160
 v28:=Tryz.zeroValue160
 i26:=by kernel_rfl}
def Tryz.sortS_ren:Go.Shelf.Ren:=⟨fun|6=>95|8=>112|9=>114|19=>131|20=>132|21=>133|22=>134|23=>135|24=>136|25=>137|26=>138|27=>139|28=>140|29=>141|36=>150|31=>145|32=>146|37=>151|38=>152|39=>153|41=>157|n=>n,fun|27=>157|29=>9|3=>3|32=>199|26=>157|0=>0|44=>214|46=>216|4=>4|36=>208|35=>207|41=>205|5=>5|9=>9|53=>224|57=>228|63=>233|64=>234|n=>n,fun|n=>n⟩
theorem Tryz.sortS:Go.Proofs.SlLaysM.n6 Tryz.prog Tryz.sortS_ren:={
 mixed:=by kernel_rfl
 f6:=⟨Tryz.f95.name,by decide,Tryz.func95.trans (congrArg some (by kernel_rfl))⟩
 f8:=Tryz.func112.trans (congrArg some (by kernel_rfl))
 f9:=⟨Tryz.f114.name,by decide,Tryz.func114.trans (congrArg some (by kernel_rfl))⟩
 f19:=Tryz.func131.trans (congrArg some (by kernel_rfl))
 f20:=Tryz.func132.trans (congrArg some (by kernel_rfl))
 f21:=⟨Tryz.f133.name,by decide,Tryz.func133.trans (congrArg some (by kernel_rfl))⟩
 f22:=⟨Tryz.f134.name,by decide,Tryz.func134.trans (congrArg some (by kernel_rfl))⟩
 f23:=⟨Tryz.f135.name,by decide,Tryz.func135.trans (congrArg some (by kernel_rfl))⟩
 f24:=⟨Tryz.f136.name,by decide,Tryz.func136.trans (congrArg some (by kernel_rfl))⟩
 f25:=⟨Tryz.f137.name,by decide,Tryz.func137.trans (congrArg some (by kernel_rfl))⟩
 f26:=⟨Tryz.f138.name,by decide,Tryz.func138.trans (congrArg some (by kernel_rfl))⟩
 f27:=⟨Tryz.f139.name,by decide,Tryz.func139.trans (congrArg some (by kernel_rfl))⟩
 f28:=⟨Tryz.f140.name,by decide,Tryz.func140.trans (congrArg some (by kernel_rfl))⟩
 f29:=⟨Tryz.f141.name,by decide,Tryz.func141.trans (congrArg some (by kernel_rfl))⟩
 f31:=Tryz.func145.trans (congrArg some (by kernel_rfl))
 f32:=Tryz.func146.trans (congrArg some (by kernel_rfl))
 f36:=⟨Tryz.f150.name,by decide,Tryz.func150.trans (congrArg some (by kernel_rfl))⟩
 f37:=⟨Tryz.f151.name,by decide,Tryz.func151.trans (congrArg some (by kernel_rfl))⟩
 f38:=⟨Tryz.f152.name,by decide,Tryz.func152.trans (congrArg some (by kernel_rfl))⟩
 f39:=⟨Tryz.f153.name,by decide,Tryz.func153.trans (congrArg some (by kernel_rfl))⟩
 f41:=⟨Tryz.f157.name,by decide,Tryz.func157.trans (congrArg some (by kernel_rfl))⟩
 t0:=Tryz.underlying0
 a0:=Tryz.isAgg0
 z0:=Tryz.sizeOf0
 v0:=Tryz.zeroValue0
 t3:=Tryz.underlying3
 a3:=Tryz.isAgg3
 z3:=Tryz.sizeOf3
 v3:=Tryz.zeroValue3
 t4:=Tryz.underlying4
 a4:=Tryz.isAgg4
 z4:=Tryz.sizeOf4
 v4:=Tryz.zeroValue4
 t5:=Tryz.underlying5
 a5:=Tryz.isAgg5
 z5:=Tryz.sizeOf5
 v5:=Tryz.zeroValue5
 t9:=Tryz.underlying9
 a9:=Tryz.isAgg9
 z9:=Tryz.sizeOf9
 v9:=Tryz.zeroValue9
 t26:=Tryz.underlying157
 a26:=Tryz.isAgg157
 z26:=Tryz.sizeOf157
 v26:=Tryz.zeroValue157
 t27:=Tryz.underlying157
 a27:=Tryz.isAgg157
 z27:=Tryz.sizeOf157
 v27:=Tryz.zeroValue157
 t29:=Tryz.underlying9
 a29:=Tryz.isAgg9
 z29:=Tryz.sizeOf9
 v29:=Tryz.zeroValue9
 t32:=Tryz.underlying199
 a32:=Tryz.isAgg199
 z32:=Tryz.sizeOf199
 v32:=Tryz.zeroValue199
 t35:=Tryz.underlying207
 a35:=Tryz.isAgg207
 z35:=Tryz.sizeOf207
 v35:=Tryz.zeroValue207
 t36:=Tryz.underlying208
 a36:=Tryz.isAgg208
 z36:=Tryz.sizeOf208
 v36:=Tryz.zeroValue208
 t41:=Tryz.underlying205
 a41:=Tryz.isAgg205
 z41:=Tryz.sizeOf205
 v41:=Tryz.zeroValue205
 t44:=Tryz.underlying214
 a44:=Tryz.isAgg214
 z44:=Tryz.sizeOf214
 v44:=Tryz.zeroValue214
 t46:=Tryz.underlying216
 a46:=Tryz.isAgg216
 z46:=Tryz.sizeOf216
 v46:=Tryz.zeroValue216
 t53:=Tryz.underlying224
 a53:=Tryz.isAgg224
 z53:=Tryz.sizeOf224
 v53:=Tryz.zeroValue224
 t57:=Tryz.underlying228
 a57:=Tryz.isAgg228
 z57:=Tryz.sizeOf228
 v57:=Tryz.zeroValue228
 t63:=Tryz.underlying233
 a63:=Tryz.isAgg233
 z63:=Tryz.sizeOf233
 v63:=Tryz.zeroValue233
 t64:=Tryz.underlying234
 a64:=Tryz.isAgg234
 z64:=Tryz.sizeOf234
 v64:=Tryz.zeroValue234}
end Go.Proofs
end
namespace Go.Proofs.YtbnfiigafobejaaGreat
section
open Go.RowKit Go.Maps Go.Sort Go.Shelf
theorem aeA (m:Nat):AnyZ.SortsIn Tryz.prog Tryz.sortedS_ren Fence.wide m:=
 ⟨λax off cap ss W hH hblk eG=>callsIn_wide.2 (AnyM.slices_Sort_string Tryz.sortS ax off cap ss W hH hblk eG),
  λp cap W=>callsIn_wide.2 (AnyM.slices_Sort_string_none Tryz.sortS p cap W)⟩
def LJ (bk:Nat):Value:=.func (.func 96) #[] #[.pointer (some ⟨bk,0,none⟩)]
theorem Z7 {β:Bs} (mb:Option Nat):aU Tryz.prog β 69 #[.map mb] [] (λv l=>∃bk,v=LJ bk/\l=[.ax bk [.map mb] 145]):=
 aU.OC λW _=>by
  have h:CallsIn Fence.wide 5 Tryz.prog 69 #[.map mb] W λe w'=>e=.returned (LJ W.heap.size)/\w'=W.alloc (.cells #[.map mb] 145):=AnyZ.keys_in Tryz.keysS Fence.wide 5 trivial rfl mb W
  refine ((callsIn_wide (n:=5)).1 h).mono ?_
  rintro e w' ⟨rfl,rfl⟩
  refine⟨_,_,rfl,⟨W.heap.size,rfl,rfl⟩,(cF.refl _ _).alloc _,λk=>k=W.heap.size,⟨?_,λk=>Iff.rfl⟩,λk hk=>Nat.le_of_eq hk.symm⟩
  show (W.heap.push _)[W.heap.size]?=_
  simp
def yO (es:jc Th):List Value:=es.map (λe=>.string e.1)
theorem R7 {es:jc Th} (h:qd es):(es.map (λe=>e.1.data.toList)).Pairwise (· < ·):=by
 refine List.pairwise_map.2 (h.imp (λ{a b} dR=>?_))
 unfold jF at dR
 have h1:¬Op.bytesLess b.1.toList a.1.toList=true:=λe=>dR (by rw [e];rfl)
 have h2:¬b.1.toList=a.1.toList:=λe=>dR (by rw [e];simp)
 rw [bytesLess_eq,Lib.toList_data,Lib.toList_data] at h1
 rw [Lib.toList_data,Lib.toList_data] at h2
 grind
theorem Z8 {w:World} {b n:Nat} {L:HL} {es:jc Th} {D:DataW Value} (hr:qd es) (kQ:w.ownsMap Tryz.prog 9 zw b n D) (hf:∀kl,Maps.has D kl=(nS L es kl).isSome) {ss:List (List UInt8)} (hp:ss.Perm (strKeys D)) :
 ss.mergeSort (λx y=>decide (x<=y))=es.map (λe=>e.1.data.toList):=by
 have hsort:=R7 hr
 obtain⟨es',hD,hpw,_⟩:=kQ.entries Iw
 obtain⟨es2,BO,hko⟩:=kQ.keysOf
 obtain rfl:es'=es2:=by rw [hD] at BO;simpa using BO
 have hp2:(es.map (λe=>e.1.data.toList)).Perm (strKeys D):=by
  rw [hD]
  refine perm_strKeys hpw (λp hp=>?_) (hsort.imp (λ{a b} h e=>by subst e;exact ain h (List.lt_irrefl a))) (λx=>?_)
  ·obtain⟨v,hv⟩:=hko p hp
   obtain⟨x,_,h,_⟩:=keyOf_str Tryz.underlying9 hv
   exact⟨x,h⟩
  rw [←hD,hf]
  show _↔((bK ⟨x.toArray⟩ es).map (iB L)).isSome=true
  rw [Option.isSome_map]
  constructor
  ·intro hx
   obtain⟨e,he,rfl⟩:=aiC.1 hx
   have h1:(⟨e.1.data.toList.toArray⟩:ByteArray)=e.1:=by rw [Array.toArray_toList]
   rw [h1,AY (t:=e.2) (qd.qf hr) he];rfl
  intro hx
  obtain⟨t,ht⟩:=Option.isSome_iff_exists.1 hx
  exact aiC.2 ⟨_,r9 ht,aii⟩
 have h3:=mergeSort_of_perm (hp.trans hp2.symm)
 have h4:(es.map (λe=>e.1.data.toList)).mergeSort leB=es.map (λe=>e.1.data.toList):=List.mergeSort_of_pairwise (hsort.imp (λ{a b} h=>by simp only [leB,decide_eq_true_eq];exact List.le_of_lt h))
 exact h3.trans h4
theorem UR {β:Bs} (L:HL) (b bk n:Nat) (es:jc Th) (hr:qd es) (hn:n<=8192) :
 aU Tryz.prog β 68 #[LJ bk] [.abs (bM Tryz.prog 9 b (nS L es) n),.ax bk [.map (some b)] 145] (λv l=>∃A cap,v=.slice A es.length cap ∧
  l=[.abs (bM Tryz.prog 9 b (nS L es) n),.ax bk [.map (some b)] 145,.abs (aF 9 1 A es.length cap (yO es))]):=by
 intro R w hS
 obtain⟨F1,h1⟩:=hS.get (i:=0) (p:=.abs (bM Tryz.prog 9 b (nS L es) n)) rfl
 obtain⟨F2,h2⟩:=hS.get (i:=1) (p:=.ax bk [.map (some b)] 145) rfl
 obtain⟨D,kQ,eG,hhas,_⟩:=h1.1
 have hcell:w.cell? ⟨bk,0,none⟩=some (.map (some b)):=(lQ h2.1 rfl rfl rfl).1
 have hseq:SeqGives Fence.wide 2 Tryz.prog 96 #[.pointer (some ⟨bk,0,none⟩)] encStr (λss=>ss.Perm (strKeys D)) (Maps.size D) w:=
  AnyZ.keys_gives (ρ:=Tryz.keysS_ren) {Tryz.keysS with} Fence.wide _ trivial rfl zc bk b n D w (lt_of_some h2.1) hcell kQ
 have cS:=AnyZ.sorted_in Tryz.sortedS Fence.wide 5 trivial trivial trivial trivial rfl zc (aeA _) (enters_of Tryz.func95 KB rfl) 96 #[.pointer (some ⟨bk,0,none⟩)] trivial (enters_of Tryz.func96 KB rfl)
  (λss=>ss.Perm (strKeys D)) (Maps.size D) (by rw [eG];unfold maxLen;omega) (by rw [eG];omega) w hseq
 change CallsIn _ _ Tryz.prog 68 _ _ _ at cS
 refine ((callsIn_wide (n:=5)).1 cS).mono ?_
 rintro e w' ⟨v,ss,rfl,hp,hrow,hnil,hb⟩
 have hkeys:=Z8 hr kQ hhas hp
 have hl2:ss.length=es.length:=by
  have h3:(ss.mergeSort (λx y=>decide (x<=y))).length=ss.length:=List.length_mergeSort ss
  rw [hkeys,aiF] at h3
  exact h3.symm
 rw [hkeys,hl2] at hrow
 have EQ:∃A cap,v=.slice A es.length cap:=by
  rcases hrow.2 with ⟨e1,e2⟩|⟨g,cp,cur,e1,_⟩
  all_goals grind
 obtain⟨A,cap,rfl⟩:=EQ
 have hnv:(es.map (λe=>e.1.data.toList)).map encStr=yO es:=by
  rw [List.map_map]
  refine aiW (λe _=>?_)
  grind
 rw [hnv] at hrow
 have hq:aR β ([.abs (bM Tryz.prog 9 b (nS L es) n),.ax bk [.map (some b)] 145,.abs R]++[.abs (aF 9 1 A es.length cap (yO es))]) w':=by
  refine aR.new (F:=λk=>(Value.slice A es.length cap).ownBlock=some k) hS ⟨?_,λk=>Iff.rfl⟩ ⟨hb.os,hb.tape,hb.output,hb.size,λk hk _=>hb.block k hk⟩ (λk hk=>(hrow.lt k hk).1)
  refine⟨hrow.1,?_⟩
  rcases hrow.2 with h|⟨g,cp,cur,e1,_,h3,h4⟩
  ·exact .inl h
  exact .inr ⟨g,cp,cur,e1,aio _,h3,h4⟩
 exact⟨_,[.abs (bM Tryz.prog 9 b (nS L es) n),.ax bk [.map (some b)] 145,.abs (aF 9 1 A es.length cap (yO es))],rfl,⟨A,cap,rfl,rfl⟩,hq.pick (aq:=[0,1,3,2]) rfl rfl⟩
end
section
open Go.RowKit Go.Maps bF aD
theorem zZ {ns:List aL} {n:aL} {k:Nat} (h:k<ns.length):nd (ns++[n]) k=nd ns k:=by
 grind [nd]
theorem xu {ns:List aL} {n:aL}:nd (ns++[n]) ns.length=n:=by
 grind [nd]
def IU:eP:=⟨λ_=>none,λ_=>none,λ_=>0,λ_=>0⟩
def rO (ns:List aL) (L:eP) (k:Nat):d9:=aF 149 2 (L.eA k) (nd ns k).ah.length (L.eC k) (nB (nd ns k).ah)
def lI (ns:List aL) (L:eP) (k:Nat):d9:=aF 5 1 (L.dA k) (nd ns k).data.length (L.dC k) (dQ (nd ns k).data)
def agW (A:Option Addr) (c:Nat) (ns:List aL) (L:eP):HP:=.abs (aF 95 10 A ns.length c (bD L ns))
def LK (A:Option Addr) (c:Nat) (ns:List aL) (L:eP):List HP:=[agW A c ns L,.abs (kR (rO ns L) ns.length),.abs (kR (lI ns L) ns.length)]
theorem qq.graph {β β':Bs} {A:Option Addr} {c:Nat} {ns:List aL} {L:eP} (h:qq β (LK A c ns L) β'):aN β' A ns L:=by
 obtain⟨F,h1,h2⟩:=h.get 0 rfl
 obtain⟨G,g1,g2⟩:=h.get 1 rfl
 obtain⟨K,k1,k2⟩:=h.get 2 rfl
 exact⟨cA.iM h1 h2 rfl,
  kR.base k1 k2 rfl (Φ:=λi b=>bp b (L.dA i) (nd ns i).data) (λi _ F hF hO=>cA.iM (show (HP.abs (aF 5 1 (L.dA i) (nd ns i).data.length (L.dC i) (dQ (nd ns i).data))).h F _ from hF) hO rfl),
  kR.base g1 g2 rfl (Φ:=λi b=>cT b (L.eA i) (nd ns i).ah) (λi _ F hF hO=>cA.iM (show (HP.abs (aF 149 2 (L.eA i) (nd ns i).ah.length (L.eC i) (nB (nd ns i).ah))).h F _ from hF) hO rfl)⟩
theorem R8 {L:eP} {ns:List aL} {n:aL} {dA eA:Option Addr} {dC eC:Nat}:bD L ns++[.int .i64 n.id,.int .i64 n.kind,.int .i64 n.mode,.int .i64 n.bg,.int .i64 n.bh,.int .i64 n.aT,.int .i64 n.aJ,.slice dA n.data.length dC,.string n.target,.slice eA n.ah.length eC]=bD (L.put ns.length dA dC eA eC) (ns++[n]):=by
 have h:=JG (ns:=ns++[n]) (L:=L) (k:=ns.length) aii dA dC eA eC
 grind [xu]
theorem MT {ns:List aL} {L:eP} {n:aL} {dA eA:Option Addr} {dC eC:Nat}:(∀x,x<ns.length->lI (ns++[n]) (L.put ns.length dA dC eA eC) x=lI ns L x)/\lI (ns++[n]) (L.put ns.length dA dC eA eC) ns.length=aF 5 1 dA n.data.length dC (dQ n.data):=by
 grind [lI,eP.put,zZ,xu]
theorem MU {ns:List aL} {L:eP} {n:aL} {dA eA:Option Addr} {dC eC:Nat}:(∀x,x<ns.length->rO (ns++[n]) (L.put ns.length dA dC eA eC) x=rO ns L x)/\rO (ns++[n]) (L.put ns.length dA dC eA eC) ns.length=aF 149 2 eA n.ah.length eC (nB n.ah):=by
 grind [rO,eP.put,zZ,xu]
def gn (O:dZ) (e:ByteArray×Th):fA:=⟨e.1,(af O e.2.k).id⟩
def jU (O:dZ) (id:Int) (t:Th):aL:=⟨id,t.kind,(af O t.k).mode,(af O t.k).bg,(af O t.k).bh,(af O t.k).aT,(af O t.k).aJ,(af O t.k).data,(af O t.k).target,(af O t.k).ah.map (gn O)⟩
def aV (S:br):List aL:=S.aq.map (λp=>jU S.O p.1 p.2)
theorem ic {S:br}:(aV S).length=S.aq.length:=aiF ..
def ju (S:br) (i:Nat):Th:=(S.aq.getD i (0,⟨0,0⟩)).2
def gD (S:br) (i:Nat):Int:=(S.aq.getD i (0,⟨0,0⟩)).1
section at_
variable {S:br} {i:Nat}
theorem yP (hi:i<S.aq.length):S.aq[i]?=some (gD S i,ju S i):=by
 grind [gD,ju]
theorem get_at (h:Inv0 S) (hi:i<S.aq.length):aD.get S.aq (gD S i)=some (ju S i):=oR h.fD (aiU (yP hi))
theorem LM (h:Inv0 S) (hi:i<S.aq.length):aQ S.aq (ju S i)/\gD S i=((ju S i).k:Int):=⟨h.live (get_at h hi),h.key (get_at h hi)⟩
theorem P0 (hi:i<S.aq.length):(aY S.aq)[i]?=some (gD S i):=by
 grind [aY,yP]
theorem D1 (hi:i<S.aq.length):(aV S).take (i+1)=(aV S).take i++[jU S.O (gD S i) (ju S i)]:=by
 rw [aiQ]
 grind [aV,yP]
theorem iK (hi:i<=S.aq.length):((aV S).take i).length=i:=by rw [aiH,ic];omega
end at_
section sat
variable {β:Bs} {l l':List HP} {w:World} {i j k:Nat} {O:dZ} {L:HL} {ix:List Nat}
theorem aR.aeB (h:aR β l w) (hp:l[i]?=some (.abs (aW (ol (dS O L) k d9.none)))) (hq:l[j]?=some (.abs (aF 5 1 (L.dA k) (af O k).data.length (L.dC k) (dQ (af O k).data)))) (hd:cC (i::j::ix)=true) (hl:cU l ix=some l') (h2:(af O k).kind=1):aR β (.abs (aW (dS O L))::l') w:=
 h.xU hp hq (λ_ _ h=>h) hd hl k (λ_ hx=>(vK hx).symm) (AR h2)
end sat
theorem Kc {es:List fA} {e:fA}:nB es++[.string e.name,.int .i64 e.id]=nB (es++[e]):=(DK e es 0).symm
section grow
variable {ns G':List aL} {n:aL} {L:eP} {i dn en:Nat} {dA eA:Option Addr} {dC eC:Nat}
theorem wo (hl:ns.length=i) (hG:G'=ns++[n]) (hd:n.data.length=dn) (he:n.ah.length=en):bD L ns++[.int .i64 n.id,.int .i64 n.kind,.int .i64 n.mode,.int .i64 n.bg,.int .i64 n.bh,.int .i64 n.aT,.int .i64 n.aJ,.slice dA dn dC,.string n.target,.slice eA en eC]=bD (L.put i dA dC eA eC) G':=by
 subst hl hG hd he;exact R8
theorem D2 (hl:ns.length=i) (hG:G'=ns++[n]):∀x,x<i->lI G' (L.put i dA dC eA eC) x=lI ns L x:=by
 subst hl hG;exact MT.1
theorem Ch (hl:ns.length=i) (hG:G'=ns++[n]) (hd:n.data.length=dn):lI G' (L.put i dA dC eA eC) i=aF 5 1 dA dn dC (dQ n.data):=by
 subst hl hG hd;exact MT.2
theorem D3 (hl:ns.length=i) (hG:G'=ns++[n]):∀x,x<i->rO G' (L.put i dA dC eA eC) x=rO ns L x:=by
 subst hl hG;exact MU.1
theorem Ci (hl:ns.length=i) (hG:G'=ns++[n]) (he:n.ah.length=en):rO G' (L.put i dA dC eA eC) i=aF 149 2 eA en eC (nB n.ah):=by
 subst hl hG he;exact MU.2
end grow
section more
variable {S:br} {i j k:Nat}
theorem agf (h:Inv0 S) (hi:i<S.aq.length):(∃k,ju S i=⟨k,1⟩/\aQ S.aq ⟨k,1⟩)\/(∃k,ju S i=⟨k,2⟩/\aQ S.aq ⟨k,2⟩)\/∃k,ju S i=⟨k,3⟩/\aQ S.aq ⟨k,3⟩:=by
 have h1:=(LM h hi).1
 generalize ju S i=t at h1 ⊢
 obtain⟨k,kd⟩:=t
 rcases (h.ob _ h1).2.2 with e|e|e<;>simp only at e<;>subst e
 all_goals grind
theorem LO (h:Inv0 S) (hi:i<S.aq.length):(Lit.int .i64 (gD S i)).wf=true:=by
 have h1:=h.aq _ _ (get_at h hi)
 have h2:=h.last
 exact WalkArith.wf_i64 zc
theorem Z9 (hi:i<S.aq.length):(bH (aY S.aq))[i*1+0]?=some (.int .i64 (gD S i)):=by
 grind [bH,P0]
theorem P4 (h:Inv0 S) {t:Th} (hl:aQ S.aq t) (hk:t.kind≠3):(af S.O t.k).target=⟨#[]⟩:=by
 rcases (h.mt t hl).target with e|e
 ·exact e.2
 exact ain (h.kind hl ▸ e.1) hk
theorem yQ (h:Inv0 S) (hi:i<S.aq.length) (q4:ju S i=⟨k,1⟩) (hl:aQ S.aq ⟨k,1⟩):(aV S).take (i+1)=(aV S).take i++[⟨gD S i,1,(af S.O k).mode,(af S.O k).bg,(af S.O k).bh,(af S.O k).aT,(af S.O k).aJ,(af S.O k).data,⟨#[]⟩,[]⟩]:=by
 rw [D1 hi,q4]
 unfold jU
 rw [show (af S.O k).target=⟨#[]⟩ from P4 h hl aii,show (af S.O k).ah=[] from (h.mt _ hl).ah (by rw [h.kind hl];simp)];rfl
theorem yR (h:Inv0 S) (hi:i<S.aq.length) (q4:ju S i=⟨k,3⟩) (hl:aQ S.aq ⟨k,3⟩):(aV S).take (i+1)=(aV S).take i++[⟨gD S i,3,(af S.O k).mode,(af S.O k).bg,(af S.O k).bh,(af S.O k).aT,(af S.O k).aJ,[],(af S.O k).target,[]⟩]:=by
 rw [D1 hi,q4]
 unfold jU
 rw [show (af S.O k).data=[] from (h.mt _ hl).data (by rw [h.kind hl];simp),show (af S.O k).ah=[] from (h.mt _ hl).ah (by rw [h.kind hl];simp)];rfl
theorem Be (h:Inv0 S) (hi:i<S.aq.length) (q4:ju S i=⟨k,2⟩) (hl:aQ S.aq ⟨k,2⟩):(aV S).take (i+1)=(aV S).take i++[⟨gD S i,2,(af S.O k).mode,(af S.O k).bg,(af S.O k).bh,(af S.O k).aT,(af S.O k).aJ,[],⟨#[]⟩,(af S.O k).ah.map (gn S.O)⟩]:=by
 rw [D1 hi,q4]
 unfold jU
 rw [show (af S.O k).target=⟨#[]⟩ from P4 h hl aii,show (af S.O k).data=[] from (h.mt _ hl).data (by rw [h.kind hl];simp)]
def ou (es:jc Th) (j:Nat):ByteArray:=(es.getD j (⟨#[]⟩,⟨0,0⟩)).1
def uw (es:jc Th) (j:Nat):Th:=(es.getD j (⟨#[]⟩,⟨0,0⟩)).2
theorem D4 {es:jc Th} (hj:j<es.length):es[j]?=some (ou es j,uw es j):=by
 grind [ou,uw]
theorem UU {es:jc Th} (hj:j<es.length):(yO es)[j*1+0]?=some (.string (ou es j)):=by
 grind [yO,D4]
theorem agX (h:Inv0 S) {t:Th} (hl:aQ S.aq t) (hj:j<(af S.O t.k).ah.length):ck (ou (af S.O t.k).ah j)/\((∃k,bK (ou (af S.O t.k).ah j) (af S.O t.k).ah=some ⟨k,1⟩/\aQ S.aq ⟨k,1⟩/\uw (af S.O t.k).ah j=⟨k,1⟩)\/(∃k,bK (ou (af S.O t.k).ah j) (af S.O t.k).ah=some ⟨k,2⟩/\aQ S.aq ⟨k,2⟩/\uw (af S.O t.k).ah j=⟨k,2⟩)\/∃k,bK (ou (af S.O t.k).ah j) (af S.O t.k).ah=some ⟨k,3⟩/\aQ S.aq ⟨k,3⟩/\uw (af S.O t.k).ah j=⟨k,3⟩):=by
 have hm:=aiU (D4 hj)
 have h1:=h.ah t hl _ hm
 have h2:=AY (h.qf hl) hm
 refine⟨h1.1,?_⟩
 have h3:=h1.2
 generalize uw (af S.O t.k).ah j=u at h2 h3 ⊢
 obtain⟨k,kd⟩:=u
 rcases (h.ob _ h3).2.2 with e|e|e<;>simp only at e<;>subst e
 all_goals grind
theorem Fw {O:dZ} {es:jc Th} {kd:Int} (hj:j<es.length) (he:uw es j=⟨k,kd⟩):nB ((es.take j).map (gn O))++[.string (ou es j),.int .i64 (af O k).id]=nB ((es.take (j+1)).map (gn O)):=by
 rw [aiQ,D4 hj,he,ai1]
 exact Kc (es:=(es.take j).map (gn O)) (e:=⟨ou es j,(af O k).id⟩)
end more
theorem qq.bytes {β β':Bs} {A:Option Addr} {n c:Nat} {d:List UInt8} (h:qq β [.abs (aF 5 1 A n c (dQ d))] β'):bp β' A d:=by
 obtain⟨F,h1,h2⟩:=h.get 0 rfl
 exact cA.iM h1 h2 rfl
end
section
open Go.RowKit
inductive OT
 |lin (l:List (Bool×Nat))
 |rd (i:Nat) (t:OT)
 |two (i:Nat) (a:OT) (j:Nat) (b:OT)
 |three (i:Nat) (a:OT) (j:Nat) (b:OT) (k:Nat) (c:OT)
section order
variable {P:Program} {ops:Array Oper} {Q:Post} {n:Nat} {S:World->Prop}
def Cj (P:Program) (ops:Array Oper) (Q:Post) (S:World->Prop):OT->Act->World->Prop
 |.lin l,a,w=>lF P ops Q S l a w
 |.rd i t,a,w=>∃o v,ops[i]?=some o/\YieldsIf P ops S o v a/\Cj P ops Q S t (a.put o.dst v) w
 |.two i x j y,a,w=>wpOp P ops Q i (λa' w'=>S w'/\Cj P ops Q S x a' w') a w/\wpOp P ops Q j (λa' w'=>S w'/\Cj P ops Q S y a' w') a w
 |.three i x j y k z,a,w=>wpOp P ops Q i (λa' w'=>S w'/\Cj P ops Q S x a' w') a w/\wpOp P ops Q j (λa' w'=>S w'/\Cj P ops Q S y a' w') a w/\wpOp P ops Q k (λa' w'=>S w'/\Cj P ops Q S z a' w') a w
def y7:OT->Nat
 |.lin l=>l.length
 |.rd _ t=>y7 t+1
 |.two _ x _ _=>y7 x+1
 |.three _ x _ _ _ _=>y7 x+1
def wq (ops:Array Oper) (n:Nat):OT->Array Bool->Bool
 |.lin l,bP=>DI ops n l bP
 |.rd i t,bP=>decide (i<n) && Region.free .any ops bP i && (Region.ready .any ops bP).contains i && wq ops n t (bP.setIfInBounds i true)
 |.two i x j y,bP=>(Region.ready .any ops bP == [i,j]) && (y7 x == y7 y) && wq ops n x (bP.setIfInBounds i true) && wq ops n y (bP.setIfInBounds j true)
 |.three i x j y k z,bP=>(Region.ready .any ops bP == [i,j,k]) && (y7 x == y7 y) && (y7 x == y7 z) && wq ops n x (bP.setIfInBounds i true) && wq ops n y (bP.setIfInBounds j true) && wq ops n z (bP.setIfInBounds k true)
theorem D5 (hsel:Region.noSelect ops=true) (qE:Region.sinkB .any ops n=true):∀(t:OT) (bP:Array Bool) (a:Act) (w:World),wq ops n t bP=true->Closed ops bP->S w->Cj P ops (NP Q) S t a w->yc P ops (NP Q) n S (y7 t) bP a w
 |.lin l,bP,a,w,hb,hc,hS,h=>Az hsel qE l bP a w hb hc (.inr hS) h
 |.rd i t,bP,a,w,hb,hc,hS,h=>by
   unfold wq at hb
   simp only [aiJ,decide_eq_true_iff] at hb
   obtain⟨⟨⟨h1,h2⟩,h3⟩,h4⟩:=hb
   obtain⟨o,v,ho,hy,hk⟩:=h
   have hr:i∈Region.ready .any ops bP:=by simpa using h3
   exact Au ho hsel qE h1 (y7 t) bP a w hc (Region.free_spec ho h2) hr hy hS (D5 hsel qE t _ _ w h4 (hc.set hr) hS hk)
 |.two i x j y,bP,a,w,hb,hc,_,h=>by
   unfold wq at hb
   simp only [aiJ,ajd] at hb
   obtain⟨⟨⟨h1,h2⟩,h3⟩,h4⟩:=hb
   refine⟨λh0=>(by rw [h1] at h0;cases h0),λm hm=>?_⟩
   have hr:=hm
   rw [h1] at hm
   have hm:m=i\/m=j:=by simpa using hm
   rcases hm with rfl|rfl
   ·exact wpOp_mono (λa' w' g=>⟨.inr g.1,D5 hsel qE x _ a' w' h3 (hc.set hr) g.1 g.2⟩) h.1
   exact wpOp_mono (λa' w' g=>⟨.inr g.1,by rw [h2];exact D5 hsel qE y _ a' w' h4 (hc.set hr) g.1 g.2⟩) h.2
 |.three i x j y k z,bP,a,w,hb,hc,_,h=>by
   unfold wq at hb
   simp only [aiJ,ajd] at hb
   obtain⟨⟨⟨⟨⟨h1,h2⟩,h3⟩,h4⟩,h5⟩,h6⟩:=hb
   refine⟨λh0=>(by rw [h1] at h0;cases h0),λm hm=>?_⟩
   have hr:=hm
   rw [h1] at hm
   have hm:m=i\/m=j\/m=k:=by simpa using hm
   rcases hm with rfl|rfl|rfl
   ·exact wpOp_mono (λa' w' g=>⟨.inr g.1,D5 hsel qE x _ a' w' h4 (hc.set hr) g.1 g.2⟩) h.1
   ·exact wpOp_mono (λa' w' g=>⟨.inr g.1,by rw [h2];exact D5 hsel qE y _ a' w' h5 (hc.set hr) g.1 g.2⟩) h.2.1
   exact wpOp_mono (λa' w' g=>⟨.inr g.1,by rw [h3];exact D5 hsel qE z _ a' w' h6 (hc.set hr) g.1 g.2⟩) h.2.2
def Ti (ops:Array Oper) (t:OT):Bool:=Region.noSelect ops && Region.sinkB .any ops (ops.size-1) && (y7 t == ops.size) && wq ops (ops.size-1) t (Array.replicate ops.size false)
def Bg:List Nat->OT->OT
 |[],t=>t
 |i::l,t=>.rd i (Bg l t)
end order
section mix
variable {P:Program} {β:Bs} {N:fL} {ops:Array Oper} {S:List HP} {t t' x y z:OT} {fr bL:Fr} {au:List HP} {Q:Post} {eV:List Prop} {i j k:Nat}
def qu (P:Program) (β:Bs) (N:fL) (ops:Array Oper) (S:List HP) (t:OT) (fr:Fr) (au:List HP) (Q:Post):Prop:=∀ai w,aR β au w->Cj P ops (NP Q) (aR β S) t (fB N fr ai) w
def ah0 (P:Program) (β:Bs) (N:fL) (ops:Array Oper) (S:List HP) (i:Nat) (t:OT) (fr:Fr) (au:List HP) (Q:Post):Prop:=∀ai w,aR β au w->wpOp P ops (NP Q) i (λa' w'=>aR β S w'/\Cj P ops (NP Q) (aR β S) t a' w') (fB N fr ai) w
theorem ak.tj {id:Nat} (t:OT) (pk:List Nat) (h:qu P β N ops S t fr au Q) (hp:cU au pk=some S:=by kernel_rfl) (hm:P.follows .mixedOrders=true:=by kernel_rfl) (hB:Ti ops t=true:=by kernel_rfl) (hn:cC pk=true:=by kernel_rfl):ak P β N (.region id ops true) fr au Q:=by
 intro ai w hS
 unfold Ti at hB
 simp only [aiJ,ajd] at hB
 obtain⟨⟨⟨h1,h2⟩,h3⟩,h4⟩:=hB
 have iA:=hS.drewN 1
 have h5:=D5 (Q:=Q) h1 h2 t _ _ _ h4 (λj oj _ hl=>by simp [Array.getD_eq_getD_getElem?,Array.getElem?_replicate] at hl;split at hl<;>simp at hl) (iA.pick hn hp) (h ai (w.drewN 1) iA)
 rw [h3] at h5
 refine ajb (λe a w q=>?_) (wp_region_any hm (tY _ _ _ _ h5))
 cases e with
 |normal=>exact q
 |exit id=>exact q.elim
 |goto l=>exact q.elim
 |ret=>exact q.elim
 |panic ch=>exact q.elim
 |outgrown=>exact q.elim
theorem Bh {ai:Nat->Value} {w:World}:∀{hs:List OH} {is:List Nat} {fr bL:Fr} {T T':SS},pK P β N ai ops hs is fr T=some (bL,T')->(∀p,p∈T'.eV->p)->T.used=true->T.au=S →
 Cj P ops (NP Q) (aR β S) t (fB N bL ai) w->Cj P ops (NP Q) (aR β S) (Bg is t) (fB N fr ai) w
 |[],[],fr,bL,T,T',h,ho,hu,hT,hK=>by cases h;exact hK
 |h::hs,i::is,fr,bL,T,T',hr,ho,hu,hT,hK=>by
   unfold pK at hr
   repeat' split at hr
   all_goals first|(cases hr;done)|skip
   ·rename_i o hget _ sy _ v T1 h0 _ hv
    obtain⟨e1,e2⟩:=zU h0
    unfold Bg Cj
    refine⟨o,v,hget,.inl ⟨by rw [ia];exact sy,λw' iA=>?_⟩,?_⟩
    ·rw [jb]
     obtain⟨w2,h1,_,_,h4⟩:=qC h0 (λp hp=>ho p (wg hr p hp)) (by rw [hT];exact iA) (λe=>by rw [hu] at e;cases e)
     obtain⟨ew,_⟩:=h4 rfl
     rw [ew] at h1
     rcases h1 with h1|⟨h1,_⟩
     ·exact h1
     exact ain h1 (vB hv)
    rw [ij]
    exact Bh hr ho (e2.trans hu) (e1.trans hT) hK
   rename_i o hget _ sy
   unfold Bg Cj
   refine⟨o,undef,hget,.inr ⟨by rw [ia];exact sy,rfl⟩,?_⟩
   rw [ij]
   exact Bh hr ho hu hT hK
 |[],_::_,_,_,_,_,h,_,_,_,_=>by cases h
 |_::_,[],_,_,_,_,h,_,_,_,_=>by cases h
theorem gT (t:OT) (EX:Fr) (is:List Nat) (os:List (Nat×OP)) (K:qu P β N ops S t EX au Q)
 (h:∀ai,sx P β N ai ops (dJ (dU is.length os 0)) is fr S (cE EX)=some (EX,owed (dU is.length os 0)):=by intro _;kernel_rfl) (hl:t'=Bg is t:=by rfl):qu P β N ops S t' fr au Q:=by
 intro ai w hS
 subst hl
 have h0:=h ai
 unfold sx at h0
 split at h0
 ·rename_i sQ S1 h1
  injection h0 with h0
  injection h0 with ha hb
  have hK:=K (lk sQ ai) w hS
  rw [←ha,←og] at hK
  refine Bh h1 (λp hp=>?_) rfl rfl hK
  rw [hb] at hp
  exact (uX _).mem hp
 cases h0
end mix
def oJ (j:Nat) (l2:List (Bool×Nat)):List (Bool×Nat)->OT
 |[]=>.lin ((false,j)::l2)
 |(false,i)::l=>.two i (oJ j l2 l) j (.lin ((false,i)::(l++l2)))
 |(true,i)::l=>.rd i (oJ j l2 l)
section mix
variable {P:Program} {β:Bs} {N:fL} {ops:Array Oper} {S:List HP} {l l' l2:List (Bool×Nat)} {fr bL:Fr} {au:List HP} {Q:Post} {eV:List Prop} {i j k:Nat}
theorem aR.left {a b:List HP} {w:World} (h:aR β (a++b) w):aR β a w:=by
 obtain⟨h0,φ,h1,h2,h3⟩:=h
 have jD:a.length<=(a++b).length:=aii
 exact⟨h0,φ,λi p hp=>h1 i p Pe,λi hi=>h2 i zc,λi j hi hj=>h3 i j zc zc⟩
def kG (P:Program) (β:Bs) (N:fL) (ops:Array Oper) (Q:Post) (i d:Nat) (ds:List Nat) (fr:Fr) (pre:List HP) (post:Value->List HP->Prop):Prop:=
 ∀ai w (A:d9),aR β (pre++[.abs A]) w->wpOp P ops (NP Q) i (λa' w'=>∃v l oy,post v l/\a'=fB N fr oy/\oy d=v/\(∀t∈ds,t≠d->oy t=ai t)/\aR β (l++[.abs A]) w') (fB N fr ai) w
def tG (vO:List Nat) (u:Nat->Value):Fr:=vO.map λt=>(t,u t)
theorem MV {vO:List Nat} {u:Nat->Value}:cE (tG vO u)=vO:=by
 induction vO with
 |nil=>rfl
 |cons a r ih=>exact ail (a::·) ih
theorem WY {vO:List Nat} {u ai:Nat->Value} {t:Nat} (h:t∈vO):lk (tG vO u) ai t=u t:=by
 induction vO with
 |nil=>cases h
 |cons a r ih=>
   grind [lk,tG,mB]
theorem Dm {fr EX:Fr} {ai UW:Nat->Value} (h:∀t,lk fr ai t=lk EX UW t):fB N fr ai=fB N EX UW:=by
 unfold fB
 rw [show lk fr ai=lk EX UW from funext h]
theorem kG.of {ι:Type} {v:ι->Value} {l:ι->List HP} {o:Oper} {d:Nat} {pre:List HP} (vO:List Nat) (bW:ops[i]?=some o) (hg:o.guard=none) (ah1:(d::vO).all (λt=>!qh t (cE fr))=true) (hd:qh d vO=false)
 (h:∀(u:Nat->Value) (A:d9),ar P β N #[o] 0 (tG vO u++fr) (pre++[.abs A]) (NP (G6 β N (λx=>(d,v x)::(tG vO u++fr)) (λx=>l x++[.abs A])))):kG P β N ops Q i d (d::vO) fr pre (λv' l'=>∃x,v'=v x/\l'=l x):=by
 intro ai w A hS
 have hout:∀t∈d::vO,t∉cE fr:=λt ht hm=>by
  grind [uz]
 have hdo:d∉vO:=by grind [uz]
 have e1:fB N fr ai=fB N (tG vO ai++fr) ai:=Dm λt=>by
  grind [JD,MV,WY,Ax]
 rw [e1]
 refine vZ bW hg (BL (λa w ⟨x,agh,ha,iA⟩=>⟨v x,l x,lk ((d,v x)::(tG vO ai++fr)) agh,⟨x,rfl,rfl⟩,?_,by rw [mB,aik rfl],λt ht hn=>?_,iA⟩) (show wpList P #[o] (NP (G6 β N _ _)) [o] (fB N (tG vO ai++fr) ai) w from h ai A ai w hS))
 all_goals grind [Dm,cE,mB,JD,MV,Oj,Ax,WY]
theorem kG.at_ {d:Nat} {ds:List Nat} {pre X Y:List HP} {post:Value->List HP->Prop} {ai:Nat->Value} {w:World} {K:Act->World->Prop} (h:kG P β N ops Q i d ds fr pre post) (hS:aR β (X++(pre++Y)) w)
 (hK:∀v l oy w',post v l->oy d=v->(∀t∈ds,t≠d->oy t=ai t)->aR β (X++(l++Y)) w'->K (fB N fr oy) w'):wpOp P ops (NP Q) i K (fB N fr ai) w:=by
 have h1:=aR.turn hS
 rw [aiN] at h1
 refine wpOp_mono (λa' w' ⟨v,l,j2,g1,g2,g3,g4,g5⟩=>?_) (h ai w _ h1.ko)
 rw [g2]
 refine hK v l j2 w' g1 g3 g4 ?_
 have h2:=g5.x9
 rw [←aiN] at h2
 exact aR.turn h2
theorem kG.grow {d d1:Nat} {ds:List Nat} {pre:List HP} {q:Value->List HP->Prop} (h:kG P β N ops Q i d (d::d1::ds) fr pre q) (h1:d1∉cE fr) (hd:d1≠d) (hn:d1∉ds) (v1:Value):kG P β N ops Q i d (d::ds) ((d1,v1)::fr) pre q:=by
 intro ai w A hS
 have e:fB N ((d1,v1)::fr) ai=fB N fr (λt=>if t=d1 then v1 else ai t):=Dm λt=>by
  grind [mB,Ax,cE,Oj]
 rw [e]
 refine wpOp_mono (λa' w' ⟨v,l,j2,g1,g2,g3,g4,g5⟩=>?_) (h _ w A hS)
 have k1:j2 d1=v1:=Pe
 refine⟨v,l,j2,g1,?_,g3,λt ht cu=>?_,g5⟩
 ·rw [g2]
  refine Dm λt=>?_
  grind [mB,Ax]
 grind
abbrev WZ (c:List (Bool×Nat×Nat)):List (Bool×Nat):=c.map (λx=>(x.1,x.2.1))
abbrev dOf (c:List (Bool×Nat×Nat)):List Nat:=c.map (·.2.2)
def eY (P:Program) (β:Bs) (N:fL) (ops:Array Oper) (Q:Post) (S:List HP) (ds:List Nat):List (Bool×Nat×Nat)->Fr->List HP->(Fr->List HP->Prop)->Prop
 |[],fr,au,R=>R fr au
 |(false,i,d)::c,fr,au,R=>(d∉cE fr/\d∉ds)/\∃q:Value->List HP->Prop,kG P β N ops Q i d (d::ds) fr au q/\∀v l,q v l->eY P β N ops Q S ds c ((d,v)::fr) l R
 |(true,i,d)::c,fr,au,R=>(d∉cE fr/\d∉ds)/\∃o v,ops[i]?=some o/\o.dst=some d/\(∀ai,YieldsIf P ops (aR β S) o v (fB N fr ai))/\eY P β N ops Q S ds c ((d,v)::fr) au R
theorem noF {d:Nat} {a b:List Nat} (h:(!qh d a && !qh d b)=true):d∉a/\d∉b:=by
 simp only [aiJ,Bool.not_eq_true'] at h
 exact⟨λe=>by rw [uz.2 e] at h;exact ain h.1 (by decide),λe=>by rw [uz.2 e] at h;exact ain h.2 (by decide)⟩
theorem eY.step {ds:List Nat} {d:Nat} {c:List (Bool×Nat×Nat)} {R:Fr->List HP->Prop} {q:Value->List HP->Prop} (h:kG P β N ops Q i d (d::ds) fr au q) (K:∀v l,q v l->eY P β N ops Q S ds c ((d,v)::fr) l R) (h1:(!qh d (cE fr) && !qh d ds)=true:=by rfl):eY P β N ops Q S ds ((false,i,d)::c) fr au R:=
 ⟨noF h1,q,h,K⟩
theorem eY.read {ds:List Nat} {d:Nat} {c:List (Bool×Nat×Nat)} {R:Fr->List HP->Prop} (v:Value) (K:eY P β N ops Q S ds c ((d,v)::fr) au R) (h:∀ai,sx P β N ai ops [o_] [i] fr S (d::cE fr)=some ((d,v)::fr,[]):=by intro _;kernel_rfl) (hd:(ops[i]?).map Oper.dst=some (some d):=by rfl) (h1:(!qh d (cE fr) && !qh d ds)=true:=by rfl):eY P β N ops Q S ds ((true,i,d)::c) fr au R:=by
 obtain⟨o,ho,hod⟩:=Option.map_eq_some_iff.1 hd
 refine⟨noF h1,o,v,ho,hod,λai=>?_,K⟩
 have h0:=h ai
 unfold sx at h0
 split at h0
 ·rename_i sQ S1 hr
  injection h0 with h0
  injection h0 with ha hb
  unfold pK at hr
  rw [ho] at hr
  simp only at hr
  repeat' split at hr
  all_goals first|(cases hr;done)|skip
  ·rename_i _ sy _ v1 T1 hrun _ hv
   unfold pK at hr
   injection hr with hr
   injection hr with hr1 hr2
   have hv1:v1=v:=by
    grind [lk,kJ,eT,cE,mB]
   refine .inl ⟨by rw [ia];exact sy,λw' iA=>?_⟩
   rw [jb]
   obtain⟨w2,g1,_,_,g4⟩:=qC hrun (λp hp=>by rw [hr2,hb] at hp;cases hp) (by exact iA) (λe=>by cases e)
   obtain⟨ew,_⟩:=g4 rfl
   rw [ew] at g1
   rcases g1 with g1|⟨g1,_⟩
   all_goals grind [vB]
  rename_i _ sy
  unfold pK at hr
  injection hr with hr
  injection hr with hr1 hr2
  have hv1:undef=v:=by
   grind [lk,kJ,eT,cE,mB]
  exact .inr ⟨by rw [ia];exact sy,hv1.symm⟩
 cases h0
theorem LP {d:Nat} {v:Value} {ai:Nat->Value} (hv:ai d=v) (hd:d∉cE fr):fB N fr ai=fB N ((d,v)::fr) ai:=Dm λt=>by
 rw [mB]
 by_cases e1:d=t
 ·subst e1;rw [aik rfl,Ax hd,hv]
 rw [aij e1]
section bes
variable {ds:List Nat} {Z:List HP} {R:Fr->List HP->Prop}
theorem kept {d:Nat} {v:Value} (h:d∉ds) (ho:∀t∈ds,t∉cE fr):∀t∈ds,t∉cE ((d,v)::fr):=λt ht hm=>by
 rcases aiA.1 (show t∈d::cE fr from hm) with e|e
 ·exact h (e ▸ ht)
 exact ho t ht e
theorem Fx {D:List Nat} {u:Nat->Value} (hD:∀t∈D,t∈ds) (hG:∀X w,aR β (X++Z) w->aR β S w) (hK:∀f1 h1,R f1 h1->∀ai w,(∀t∈D,ai t=u t)->(∀t∈ds,t∉cE f1)->aR β (h1++Z) w->lF P ops (NP Q) (aR β S) l2 (fB N f1 ai) w) :
 ∀(c:List (Bool×Nat×Nat)) (fr:Fr) (au:List HP) (ai:Nat->Value) (w:World),(∀t∈ds,t∉cE fr)->eY P β N ops Q S ds c fr au R->(∀t∈D,ai t=u t)->aR β (au++Z) w->lF P ops (NP Q) (aR β S) (WZ c++l2) (fB N fr ai) w
 |[],fr,au,ai,w,ho,hc,hu,hS=>hK fr au hc ai w hu ho hS
 |(false,i,d)::c,fr,au,ai,w,ho,⟨⟨h1,h2⟩,q,h3,h4⟩,hu,hS=>by
   show lF _ _ _ _ ((false,i)::(WZ c++l2)) _ _
   unfold lF
   refine h3.at_ (X:=[]) hS (λv' l j2 w' g1 g2 g3 g4=>⟨.inr (hG l w' g4),?_⟩)
   rw [LP g2 h1]
   exact Fx hD hG hK c _ l j2 w' (kept h2 ho) (h4 v' l g1) (λt ht=>(g3 t (aiv _ (hD t ht)) (λe=>h2 (e ▸ hD t ht))).trans (hu t ht)) g4
 |(true,i,d)::c,fr,au,ai,w,ho,⟨⟨h1,h2⟩,o,v',h3,h4,h5,h6⟩,hu,hS=>by
   show lF _ _ _ _ ((true,i)::(WZ c++l2)) _ _
   unfold lF
   refine⟨o,v',h3,h5 ai,?_⟩
   rw [h4,ij]
   exact Fx hD hG hK c _ au ai w (kept h2 ho) h6 hu hS
theorem W4 {d:Nat} {c:List Nat} (hnd:cC (d::c)=true):d∉c/\cC c=true:=by
 unfold cC at hnd
 simp only [aiJ] at hnd
 exact⟨λhm=>by have h:=hnd.1;simp_all,hnd.2⟩
theorem Fy {r dr:Nat} {D:List Nat} {u:Nat->Value} {qr:Value->List HP->Prop} (hr:dr∈ds) (hD:∀t∈D,t∈ds) (hn:dr∉D) (hG:∀X w,aR β (X++Z) w->aR β S w)
 (hK:∀f1 h1,R f1 h1->∀v lp,qr v lp->∀ai w,ai dr=v->(∀t∈D,ai t=u t)->(∀t∈ds,t∉cE f1)->aR β (h1++(lp++Z)) w->lF P ops (NP Q) (aR β S) l2 (fB N f1 ai) w) :
 ∀(c:List (Bool×Nat×Nat)) (fr:Fr) (au:List HP) (ai:Nat->Value) (w:World),cC (dOf c)=true->(∀t∈ds,t∉cE fr)->kG P β N ops Q r dr (dr::(dOf c++D)) fr [] qr->eY P β N ops Q S ds c fr au R->(∀t∈D,ai t=u t)->aR β (au++Z) w->Cj P ops (NP Q) (aR β S) (oJ r l2 (WZ c)) (fB N fr ai) w
 |[],fr,au,ai,w,_,ho,hj,hc,hu,hS=>by
   show lF _ _ _ _ ((false,r)::l2) _ _
   unfold lF
   exact hj.at_ (X:=au) hS (λv l j2 w' g1 g2 g3 g4=>⟨.inr (hG (au++l) w' (by simpa using g4)),hK fr au hc v l g1 j2 w' g2 (λt ht=>(g3 t (by simp [ht]) (λe=>hn (e ▸ ht))).trans (hu t ht)) ho g4⟩)
 |(false,i,d)::c,fr,au,ai,w,hnd,ho,hj,hc,hu,hS=>by
   have hc0:=hc
   obtain⟨⟨h1,h2⟩,q,h3,h4⟩:=hc
   obtain⟨n1,n2⟩:=W4 hnd
   refine⟨h3.at_ (X:=[]) hS (λv' l j2 w' g1 g2 g3 g4=>⟨hG l w' g4,?_⟩),hj.at_ (X:=au) hS (λv l j2 w' g1 g2 g3 g4=>⟨hG (au++l) w' (by simpa using g4),?_⟩)⟩
   ·rw [LP g2 h1]
    exact Fy hr hD hn hG hK c _ l j2 w' n2 (kept h2 ho) (hj.grow h1 (show d≠dr from λe=>h2 (e ▸ hr)) (λe=>(aiL.1 e).elim n1 (λe=>h2 (hD d e))) v') (h4 v' l g1) (λt ht=>(g3 t (aiv _ (hD t ht)) (λe=>h2 (e ▸ hD t ht))).trans (hu t ht)) g4
   exact Fx (Z:=l++Z) (D:=dr::D) (u:=j2) (λt ht=>(aiA.1 ht).elim (λe=>e ▸ hr) (hD t)) (λX w h=>hG (X++l) w (by simpa using h))
    (λf1 h1 k1 ai w k2 k3 k4=>hK f1 h1 k1 v l g1 ai w ((k2 dr aii).trans g2) (λt ht=>(k2 t (by simp [ht])).trans ((g3 t (by simp [ht]) (λe=>hn (e ▸ ht))).trans (hu t ht))) k3 k4)
    ((false,i,d)::c) fr au j2 w' ho hc0 (λ_ _=>rfl) g4
 |(true,i,d)::c,fr,au,ai,w,hnd,ho,hj,⟨⟨h1,h2⟩,o,v',h3,h4,h5,h6⟩,hu,hS=>by
   obtain⟨n1,n2⟩:=W4 hnd
   refine⟨o,v',h3,h5 ai,?_⟩
   rw [h4,ij]
   exact Fy hr hD hn hG hK c _ au ai w n2 (kept h2 ho) (hj.grow h1 (show d≠dr from λe=>h2 (e ▸ hr)) (λe=>(aiL.1 e).elim n1 (λe=>h2 (hD d e))) v') h6 hu hS
theorem agY {pS:List Nat} (hn:cC pS=true) (hp:cU Z pS=some S) (X:List HP) (w:World) (h:aR β (X++Z) w):aR β S w:=aR.pick (aq:=pS) (l:=Z) (aR.left (aR.turn h)) hn hp
theorem qu.one {t:OT} {dj:Nat} {qj:Value->List HP->Prop} (pS:List Nat) (c:List (Bool×Nat×Nat)) (hj:kG P β N ops Q j dj (dj::(dOf c++[])) fr [] qj) (hc:eY P β N ops Q S [dj] c fr [] R)
 (K:∀f1 h1,R f1 h1->∀v lp,qj v lp->eH P β N ops S l2 ((dj,v)::f1) (h1++(lp++au)) Q)
 (hl:t=oJ j l2 (WZ c):=by rfl) (hn:cC pS=true:=by rfl) (hp:cU au pS=some S:=by rfl) (hnd:cC (dOf c)=true:=by rfl) (hd:(!qh dj (cE fr) && !qh dj [])=true:=by rfl):qu P β N ops S t fr au Q:=by
 intro ai w hS
 subst hl
 refine Fy (D:=[]) (u:=ai) aii aii aii (agY hn hp) (λf1 h1 hr v lp hv ai w a1 _ a3 a4=>?_) c fr [] ai w hnd (by simpa using (noF hd).1) hj hc aii hS
 rw [LP a1 (a3 dj aii)]
 exact K f1 h1 hr v lp hv ai w a4
end bes
end mix
def kT (β:Bs) (Φ:Bs->Prop):d9 where
 h F w:=∃β':Bs,β.le β'/\(∀k,β'.O k->β.O k\/F k)/\(∀k,F k->β'.O k)/\β'.w0.heap.size<=w.heap.size/\(∀k,F k->k<β'.w0.heap.size/\w.heap[k]?=β'.w0.heap[k]?)/\Φ β'
 lt:=λ⟨_,_,_,_,h4,h5,_⟩ k hk=>aiG (h5 k hk).1 h4
 st:=λ⟨β',h1,h2,h3,h4,h5,h6⟩ _ _ hk hs=>⟨β',h1,h2,h3,air h4 hk.size,λk hF=>⟨(h5 k hF).1,(hk.block k (aiG (h5 k hF).1 h4) (hs k hF)).trans (h5 k hF).2⟩,h6⟩
section Ke
variable {P:Program} {β:Bs} {N:fL} {ops:Array Oper} {k:Nat} {fr:Fr} {au eX:List HP} {Q:Post} {f:FuncId} {args:Array Value} {pre:List HP}
theorem bU.Ke {ι:Type} {vv:ι->Value} {ll:ι->List HP} {Φ:ι->Bs->Prop} (h:bU P β f args pre (λβ' v l=>∃x,v=vv x/\l=ll x/\Φ x β')):aU P β f args pre (λv l=>∃x,v=vv x/\l=.abs (kT β (Φ x))::ll x):=by
 intro R w hS
 refine (h R w hS).mono ?_
 rintro e w' ⟨β',v,l,dL,he,⟨x,rfl,rfl,Ey⟩,ho,φ,h1,h2,h3⟩
 refine⟨vv x,_,he,⟨x,rfl,rfl⟩,ho.le dL,λi=>match i with
  |0=>λk=>β'.O k/\¬β.O k
  |i+1=>φ i,λi p hp=>?_,λi hi k hk hO=>?_,λi j hi hj cu k hk jw=>?_⟩
 ·cases i with
  |zero=>
    have hp:some (HP.abs (kT β (Φ x)))=some p:=hp
    cases hp
    exact⟨β',dL,λk hk=>(Classical.em (β.O k)).elim .inl (λhn=>.inr ⟨hk,hn⟩),λk hk=>hk.1,ho.size,λk hk=>ho.old k hk.1,Ey⟩
  |succ i=>exact h1 i p (by simpa using hp)
 ·cases i with
  |zero=>exact hk.2 hO
  |succ i=>exact h2 i (by simp at hi ⊢;omega) k hk (dL.O k hO)
 cases i with
 |zero=>
   cases j with
   |zero=>exact cu rfl
   |succ j=>exact h2 j (by simp at hj ⊢;omega) k jw hk.1
 |succ i=>
   cases j with
   |zero=>exact h2 i (by simp at hi ⊢;omega) k hk jw.1
   |succ j=>exact h3 i j (by simp at hi ⊢;omega) (by simp at hj ⊢;omega) zc k hk jw
theorem aR.ux {Φ:Bs->Prop} {l:List HP} {w:World} (h:aR β (.abs (kT β Φ)::l) w):∃β':Bs,β.le β'/\Φ β'/\aR β' l w:=by
 obtain⟨ho,φ,h1,h2,h3⟩:=h
 have hF:(kT β Φ).h (φ 0) w:=h1 0 _ rfl
 obtain⟨β',g1,g2,g3,g4,g5,g6⟩:=hF
 refine⟨β',g1,g6,⟨ho.os.trans g1.os.symm,ho.tape.trans g1.tape.symm,ho.output.trans g1.output.symm,g4,λk hk=>?_⟩,λj=>φ (j+1),λj p hp=>h1 (j+1) p (by simpa using hp),λj hj k hk hO=>?_,λa b ha hb cu=>h3 (a+1) (b+1) (by simp;omega) (by simp;omega) zc⟩
 ·rcases g2 k hk with hb|hb
  ·have e1:=g1.old k hb
   have e2:=ho.old k hb
   grind
  exact g5 k hb
 rcases g2 k hO with hb|hb
 ·exact h2 (j+1) (by simp;omega) k hk hb
 exact h3 (j+1) 0 (by simp;omega) aii zc k hk hb
theorem ar.ux {Φ:Bs->Prop} (i:Nat) (aq:List Nat) (hp:au[i]?=some (.abs (kT β Φ))) (hn:cC (i::aq)=true) (hl:cU au aq=some eX)
 (K:∀β':Bs,β.le β'->Φ β'->ar P β' N ops k fr eX Q):ar P β N ops k fr au Q:=λai w hS=>by
 obtain⟨β',g1,g2,g3⟩:=(hS.pick (aq:=i::aq) (l':=.abs (kT β Φ)::eX) hn (by simp only [cU,hp,hl])).ux
 exact K β' g1 g2 ai w g3
theorem aU.UX {Φ:Bs->Prop} {post:Value->List HP->Prop} (h:∀β':Bs,β.le β'->Φ β'->aU P β' f args pre post):aU P β f args (.abs (kT β Φ)::pre) post:=by
 intro R w hS
 obtain⟨β',g1,g2,g3⟩:=aR.ux (l:=pre++[.abs R]) hS
 refine (h β' g1 g2 R w g3).mono ?_
 rintro e w' ⟨v,l,h1,h2,h3⟩
 exact⟨v,l,h1,h2,h3.Jx g1⟩
end Ke
end
section
open Go.RowKit Go.Maps bF aD
theorem UY (_:Nat) (f:cL):∀u∈jg f,u.oneCell'=true:=by
 intro u hu
 simp only [jg,aiA,List.not_mem_nil,or_false] at hu
 rcases hu with rfl|rfl<;>rfl
theorem aac (_:Nat) (a:dh):∀u∈kA a,u.oneCell'=true:=by
 intro u hu
 simp only [kA,aiA,List.not_mem_nil,or_false] at hu
 rcases hu with rfl|rfl|rfl|rfl|rfl<;>rfl
theorem W5 (_:Nat) (a:aH):∀u∈aO a,u.oneCell'=true:=by
 intro u hu
 simp only [aO,aiA,List.not_mem_nil,or_false] at hu
 rcases hu with rfl|rfl|rfl|rfl|rfl|rfl|rfl|rfl|rfl|rfl|rfl|rfl|rfl<;>rfl
theorem D6 {α:Type} (f:α->List Value) (a:α) (ys:List α):cI f (ys++[a])=cI f ys++f a:=by
 have:∀(k:Nat) (ys:List α),fk (λ_ x=>f x) k (ys++[a])=fk (λ_ x=>f x) k ys++f a:=λk ys=>by
  induction ys generalizing k with
  |nil=>exact List.append_nil _
  |cons y r ih=>show f y++fk _ (k+1) (r++[a])=(f y++fk _ (k+1) r)++f a;rw [ih,aiN]
 exact this 0 ys
theorem yS {α:Type} {f:α->List Value} {s:Nat} (hf:∀a,(f a).length=s):∀xs:List α,(cI f xs).length=xs.length*s:=λxs=>by
 have:∀(k:Nat) (xs:List α),(fk (λ_ x=>f x) k xs).length=xs.length*s:=λk xs=>by
  induction xs generalizing k with
  |nil=>simp [fk]
  |cons y r ih=>show (f y++fk _ (k+1) r).length=_;rw [ait,ih,hf,aiV,Nat.succ_mul,ajq]
 exact this 0 xs
structure AZ where
 A:Int->Option Addr
 c:Int->Nat
def AZ.none:AZ:=⟨λ_=>Option.none,λ_=>0⟩
def AZ.put (Z:AZ) (n:Int) (B:Option Addr) (k:Nat):AZ:=⟨λx=>if x=n then B else Z.A x,λx=>if x=n then k else Z.c x⟩
def aA (Z:AZ) (xs:List dh) (n:Int):Option Addr:=if dN xs n=[] then .none else Z.A n
def aC (Z:AZ) (xs:List dh) (n:Int):Nat:=if dN xs n=[] then 0 else Z.c n
def zz:Int->Nat
 |.ofNat n=>2*n
 |.negSucc n=>2*n+1
def Hr (k:Nat):Int:=if k % 2=0 then .ofNat (k / 2) else .negSucc (k / 2)
def lK (Z:AZ) (xs:List dh):Lit->Option Value
 |.int .i64 n=>if dN xs n=[] then .none else some (.slice (aA Z xs n) (dN xs n).length (aC Z xs n))
 |_=>.none
def iz (fs:List cL):Lit->Option Value
 |.int .i64 n=>if iQ fs n=0 then .none else some (.int .i64 (iQ fs n))
 |_=>.none
abbrev IV (Z:AZ) (xs:List dh) (n:Int):d9:=aF 68 5 (aA Z xs n) (dN xs n).length (aC Z xs n) (cI kA (dN xs n))
def uy (Z:AZ) (xs:List dh) (k:Nat):d9:=if dN xs (Hr k)=[] then d9.none else IV Z xs (Hr k)
def nH (β:Bs) (Z:AZ) (xs:List dh):Prop:=∀n,cA β (aA Z xs n) (cI kA (dN xs n))
section z
variable {Z:AZ} {xs:List dh} {n x:Int} {k c:Nat} {B:Option Addr} {a:dh} {β β':Bs} {l l':List HP} {w:World} {i j:Nat}
theorem P5:∀n,Hr (zz n)=n
 |.ofNat n=>by show Hr (2*n)=_;unfold Hr;rw [aik zc];exact ail Int.ofNat zc
 |.negSucc n=>by show Hr (2*n+1)=_;unfold Hr;rw [aij zc];exact ail Int.negSucc zc
theorem aeC (k:Nat):zz (Hr k)=k:=by
 unfold Hr
 split
 ·show 2*(k / 2)=k;omega
 show 2*(k / 2)+1=k;omega
theorem nH.le (h:nH β Z xs) (g:β.le β'):nH β' Z xs:=λn=>(h n).le g
theorem IW:(lK Z xs (.int .i64 n)).getD (.slice .none 0 0)=.slice (aA Z xs n) (dN xs n).length (aC Z xs n):=by
 unfold lK
 by_cases h:dN xs n=[]
 ·simp only
  rw [aik h]
  unfold aA aC
  rw [aik h,aik h,h];rfl
 simp only
 rw [aij h];rfl
theorem MW {fs:List cL}:(iz fs (.int .i64 n)).getD (.int .i64 0)=.int .i64 (iQ fs n):=by
 unfold iz
 simp only
 split
 ·rename_i h;rw [h];rfl
 rfl
theorem aad:lK Z []=λ_=>.none:=funext λl=>by
 unfold lK
 split<;>rfl
theorem W6:iz []=λ_=>.none:=funext λl=>by
 unfold iz
 split<;>rfl
theorem Ck {m:Int} (h:m≠a.at_):dN (xs++[a]) m=dN xs m:=by
 rw [xX,aij (λe=>h e.symm)]
theorem Cl:dN (xs++[a]) a.at_=dN xs a.at_++[a]:=by
 rw [xX,aik rfl]
theorem ab8 {m:Int} (h:m≠a.at_):aA (Z.put a.at_ B c) (xs++[a]) m=aA Z xs m:=by
 unfold aA AZ.put
 rw [Ck h]
 simp only
 rw [aij h]
theorem ab9 {m:Int} (h:m≠a.at_):aC (Z.put a.at_ B c) (xs++[a]) m=aC Z xs m:=by
 unfold aC AZ.put
 rw [Ck h]
 simp only
 rw [aij h]
theorem acd:aA (Z.put a.at_ B c) (xs++[a]) a.at_=B:=by
 unfold aA AZ.put
 rw [Cl,aij aii]
 simp
theorem ace:aC (Z.put a.at_ B c) (xs++[a]) a.at_=c:=by
 unfold aC AZ.put
 rw [Cl,aij aii]
 simp
theorem Tj {f g:Lit->Option Value} {v:Option Value} (hv:g (.int .i64 n)=v) (ho:∀l,l≠.int .i64 n->g l=f l):qA f (.int .i64 n) v=g:=funext λl=>by
 unfold qA
 by_cases h:l.sameKey (.int .i64 n)=true
 ·rw [aik h]
  have:l=.int .i64 n:=by
   cases l with
   |int q a=>simp [Lit.sameKey] at h;obtain⟨rfl,rfl⟩:=h;rfl
   |_=>simp [Lit.sameKey] at h
  rw [this,hv]
 rw [aij h,ho l (λe=>h (by rw [e];simp [Lit.sameKey]))]
theorem aae:qA (lK Z xs) (.int .i64 a.at_) (some (.slice B ((dN xs a.at_).length+1) c))=lK (Z.put a.at_ B c) (xs++[a]):=by
 refine Tj ?_ (λl h=>?_)
 ·unfold lK
  simp only
  rw [Cl,aij aii,acd,ace,ait];rfl
 unfold lK
 split
 ·rename_i m
  have hm:m≠a.at_:=λe=>h (by rw [e])
  rw [Ck hm,ab8 hm,ab9 hm]
 rfl
theorem W7 {fs:List cL} {f:cL} (h:FK f) (h0:iQ fs f.at_=0):qA (iz fs) (.int .i64 f.at_) (some (.int .i64 f.kind))=iz (fs++[f]):=by
 have hk:¬f.kind=0:=by have:=h.1;omega
 refine Tj ?_ (λl hl=>?_)
 ·unfold iz
  simp only
  have e:iQ (fs++[f]) f.at_=f.kind:=by rw [ug,aik h0,aik (show f.at_=f.at_/\FK f from ⟨rfl,h⟩)]
  rw [e,aij hk]
 unfold iz
 split
 ·rename_i m
  have hm:¬(f.at_=m/\FK f):=λe=>hl (by rw [e.1])
  rw [ug,aij hm]
  by_cases h2:iQ fs m=0
  ·rw [aik h2,h2]
  rw [aij h2]
 rfl
theorem D7 {fs:List cL} {f:cL} (h:¬FK f\/iQ fs f.at_≠0):iz (fs++[f])=iz fs:=funext λl=>by
 unfold iz
 split
 ·rename_i m
  have:iQ (fs++[f]) m=iQ fs m:=by
   rw [ug]
   by_cases h2:iQ fs m=0
   ·rw [aik h2,aij (λe=>?_),h2]
    rcases h with h|h
    ·exact h e.2
    exact h (by rw [e.1];exact h2)
   rw [aij h2]
  rw [this]
 rfl
theorem aR.aeD (h:aR β l w):aR β (l++[.abs (aW (uy AZ.none []))]) w:=h.Ol _ (λ_=>aik rfl)
theorem aR.adm (h:aR β l w) (hp:l[i]?=some (.abs (aW (uy Z xs)))) (n:Int):aR β (l.set i (.abs (aW (ol (uy Z xs) (zz n) d9.none)))++[.abs (IV Z xs n)]) w:=by
 have h1:=h.JO hp (zz n)
 by_cases e:dN xs n=[]
 ·have e2:IV Z xs n=aF 68 5 .none 0 0 []:=by
   unfold IV aA aC
   rw [aik e,aik e,e];rfl
  rw [e2]
  exact (aR.left h1).mQ (e:=68) (size:=5)
 have e2:uy Z xs (zz n)=IV Z xs n:=by
  unfold uy
  rw [P5,aij e]
 rw [e2] at h1
 exact h1
theorem aR.aeE {aq:List Nat} (h:aR β l w) (hp:l[i]?=some (.abs (aW (ol (uy Z xs) (zz a.at_) d9.none)))) (hq:l[j]?=some (.abs (aF 68 5 B ((dN xs a.at_).length+1) c (cI kA (dN xs a.at_)++kA a)))) (hn:cC (i::j::aq)=true) (hl:cU l aq=some l') :
 aR β (.abs (aW (uy (Z.put a.at_ B c) (xs++[a])))::l') w:=by
 refine h.xU hp hq (λ_ _ h=>h) hn hl (zz a.at_) (λx hx=>?_) ?_
 ·have cu:Hr x≠a.at_:=λe=>hx (by rw [←e,aeC])
  unfold ol
  rw [aij hx]
  unfold uy IV
  rw [Ck cu,ab8 cu,ab9 cu]
 unfold uy IV
 rw [P5,Cl,aij aii,acd,ace]
 rw [D6,ait];rfl
theorem nH.of {F:Fp} (h:(HP.abs (aW (uy Z xs))).h F w) (h1:∀k,F k->β.O k) (h2:β.w0=w):nH β Z xs:=λn=>by
 by_cases e:dN xs n=[]
 ·rw [e];exact λj v hj=>by simp [cI,fk] at hj
 obtain⟨φ,g1,_,g3⟩:=h
 have h3:=g1 (zz n)
 unfold uy at h3
 rw [P5,aij e] at h3
 exact cA.iM h3 (λk hk=>h1 k ((g3 k).2 ⟨_,hk⟩)) h2
end z
theorem D8 {xs:List dh} {i:Nat} (h:i<xs.length):xs.take (i+1)=xs.take i++[act xs i]:=by
 rw [aiQ,zY h];rfl
theorem xw {fs:List cL} {i:Nat} (h:i<fs.length):fs.take (i+1)=fs.take i++[pX fs i]:=by
 rw [aiQ,GA h];rfl
theorem W8 {n:Nat} (h:n<=9223372036854775807):(Lit.int .i64 (n:Int)).wf=true:=by
 simp [Lit.wf,IntKind.min,IntKind.max,IntKind.signed,IntKind.bits]
 omega
theorem aaf {d:List UInt8} {m j:Nat} {v:Value} (h:(dQ (d.take m))[j]?=some v):(dQ d)[j]?=some v:=by
 unfold dQ at h ⊢
 rw [List.getElem?_map] at h ⊢
 rw [List.getElem?_take] at h
 split at h
 ·exact h
 cases h
theorem R9 {β:Bs} {c:aH} (h:kU β c):kU β {c with data:=c.data.take (c.data.length / 2)}:=⟨h.hw,h.ow,h.nm,h.tx,λj v hj=>h.da j v (aaf hj),by
 show (c.data.take _).length<=_
 rw [aiH];have:=h.dl;omega,by
 show (c.data.take _).length<=c.dC
 rw [aiH];have:=h.dc;omega,h.op⟩
structure WG where
 w:Nat
 o:Nat
 q:Nat
 am:Nat
 km:Nat
 an:Nat
 kn:Nat
 f:Nat
 m:Nat
 t:Nat
 Z:AZ
structure WV where
 L:HL
 A:Option Addr
 c:Nat
abbrev wB (w o f:Nat) (aj:Int) (A:Option Addr) (n c:Nat):HP:=.ax w [.iface 37 (vP w),vP f,.iface 108 (vP o),.int .i64 aj,.slice A n c] 79
abbrev oB (o q f:Nat) (aj:Int) (am n:Nat):HP:=.ax o [.iface 109 (vP q),vP f,.int .i64 aj,.map (some am),.int .i64 n] 113
abbrev qB (q f km n:Nat):HP:=.ax q [.iface 76 (vP f),.map (some km),.int .i64 n] 111
abbrev aM (am an:Nat) (Z:AZ) (xs:List dh):HP:=.abs (bM Tryz.prog 3 am (lK Z xs) an)
abbrev kM (km kn:Nat) (fs:List cL):HP:=.abs (bM Tryz.prog 3 km (iz fs) kn)
abbrev tR (A:Option Addr) (c:Nat) (tr:List aH):HP:=.abs (aF 53 13 A tr.length c (cI aO tr))
abbrev wP (G:WG) (fs:List cL) (xs:List dh) (aj:Int) (S:br) (V:WV) (tr:List aH):List HP:=[wB G.w G.o G.f aj V.A tr.length V.c,oB G.o G.q G.f aj G.am tr.length,qB G.q G.f G.km tr.length,aM G.am G.an G.Z xs,kM G.km G.kn fs,tR V.A V.c tr]++pA G.f G.m G.t V.L S
def wA (G:WG) (fs:List cL) (xs:List dh) (aj:Int) (S:br) (V:WV) (tr:List aH):HP:=.abs (ko (wP G fs xs aj S V tr))
def xA (β:Bs) (tr:List aH):Prop:=∀c∈tr,bp β c.dA c.data/\c.data.length<=1048576
theorem xA.le {β β':Bs} {tr:List aH} (h:xA β tr) (g:β.le β'):xA β' tr:=λc hc=>⟨(h c hc).1.le g,(h c hc).2⟩
theorem xA.snoc {β:Bs} {tr:List aH} {c:aH} (h:xA β tr) (g:bp β c.dA c.data) (g2:c.data.length<=1048576):xA β (tr++[c]):=λx hx=>by
 rcases aiL.1 hx with hx|hx
 ·exact h x hx
 obtain rfl:=ai3.1 hx;exact⟨g,g2⟩
theorem aU.one {P:Program} {β:Bs} {f:FuncId} {args:Array Value} {pre:List HP} {post:Value->List HP->Prop} (h:aU P β f args pre post):aU P β f args [.abs (ko pre)] (λv l=>∃l0,post v l0/\l=[.abs (ko l0)]):=by
 intro R w hS
 have h1:aR β ([.abs R]++[.abs (ko pre)]) w:=aR.turn hS
 refine (h R w (aR.turn h1.x9)).mono ?_
 rintro e w' ⟨v,l,h2,h3,h4⟩
 exact⟨v,[.abs (ko l)],h2,⟨l,h3,rfl⟩,aR.turn (aR.ko (aR.turn h4))⟩
theorem bU.one {P:Program} {β:Bs} {f:FuncId} {args:Array Value} {pre:List HP} {post:Bs->Value->List HP->Prop} (h:bU P β f args pre post):bU P β f args [.abs (ko pre)] (λβ' v l=>∃l0,post β' v l0/\l=[.abs (ko l0)]):=by
 intro R w hS
 have h1:aR β ([.abs R]++[.abs (ko pre)]) w:=aR.turn hS
 refine (h R w (aR.turn h1.x9)).mono ?_
 rintro e w' ⟨β',v,l,dL,h2,h3,h4⟩
 exact⟨β',v,[.abs (ko l)],dL,h2,⟨l,h3,rfl⟩,aR.turn (aR.ko (aR.turn h4))⟩
theorem ay.ux {β:Bs} {N:fL} {Q:Post} {e:Exit} {fr:Fr} {au eX:List HP} {Φ:Bs->Prop} (i:Nat) (aq:List Nat) (hp:au[i]?=some (.abs (kT β Φ))) (hn:cC (i::aq)=true) (hl:cU au aq=some eX) (K:∀β':Bs,β.le β'->Φ β'->ay β' N Q e fr eX):ay β N Q e fr au:=λai w hS=>by
 obtain⟨β',g1,g2,g3⟩:=(hS.pick (aq:=i::aq) (l':=.abs (kT β Φ)::eX) hn (by simp only [cU,hp,hl])).ux
 exact K β' g1 g2 ai w g3
theorem bU.UX {P:Program} {β:Bs} {f:FuncId} {args:Array Value} {pre:List HP} {Φ:Bs->Prop} {post:Bs->Value->List HP->Prop} (h:∀β':Bs,β.le β'->Φ β'->bU P β' f args pre post):bU P β f args (.abs (kT β Φ)::pre) post:=by
 intro A w hS
 obtain⟨β',g1,g2,g3⟩:=aR.ux (l:=pre++[.abs A]) hS
 refine (h β' g1 g2 A w g3).mono ?_
 rintro e w' ⟨β'',v,l,dL,h2⟩
 exact⟨β'',v,l,g1.trans dL,h2⟩
theorem bU.aeF {P:Program} {β:Bs} {f:FuncId} {args:Array Value} {R:List HP} {post:Bs->Value->List HP->Prop} (h:∀β':Bs,qq β R β'->bU P β' f args [] post):bU P β f args R post:=by
 intro A w hS
 have h4:aR β ([.abs A]++R) w:=aR.turn hS
 obtain⟨β',g1,_,g3⟩:=h4.wY
 refine (h β' g1 A w g3).mono ?_
 rintro e w' ⟨β'',v,l,dL,h2⟩
 exact⟨β'',v,l,g1.le.trans dL,h2⟩
theorem bU.aeG {P:Program} {β:Bs} {f:FuncId} {args:Array Value} {pre:List HP} {post:Value->List HP->Prop} (h:bU P β f args pre (λ_ v l=>post v l)):aU P β f args pre post:=by
 intro A w hS
 refine (h A w hS).mono ?_
 rintro e w' ⟨β',v,l,dL,h2,h3,h4⟩
 exact⟨v,l,h2,h3,h4.Jx dL⟩
theorem bU.aeH {P:Program} {β:Bs} {f:FuncId} {args:Array Value} {pre:List HP} {post post':Bs->Value->List HP->Prop} (h:bU P β f args pre post) (hp:∀β' v l,post β' v l->(l=[]/\post' β' v [])\/post' β' v [.abs (ko l)]):bU P β f args pre post':=by
 intro R w hS
 refine (h R w hS).mono ?_
 rintro e w' ⟨β',v,l,dL,h2,h3,h4⟩
 rcases hp β' v l h3 with ⟨rfl,h5⟩|h5
 ·exact⟨β',v,[],dL,h2,h5,h4⟩
 exact⟨β',v,[.abs (ko l)],dL,h2,h5,aR.turn (aR.ko (aR.turn h4))⟩
end
section
open Go.RowKit Go.Maps
structure LQ (ns:List aL) (i j:Nat):Prop where
 lti:i<ns.length
 MX:j<(nd ns i).ah.length
 dir:(nd ns (bY ns (bS ns i j).id)).kind=2
section
variable {ns:List aL}
theorem Bj {i m:Nat} {p:Nat×Nat}:p∈iu ns i m↔∃j,j<m/\(nd ns (bY ns (bS ns i j).id)).kind=2/\p=(bY ns (bS ns i j).id,i):=by
 induction m with
 |zero=>simp [iu]
 |succ m ih=>
   grind [nd,bY,bS,qP,r8]
theorem D9 {m:Nat} {p:Nat×Nat}:p∈jr ns m↔∃i j,i<m/\j<(nd ns i).ah.length/\(nd ns (bY ns (bS ns i j).id)).kind=2/\p=(bY ns (bS ns i j).id,i):=by
 induction m with
 |zero=>simp [jr]
 |succ m ih=>
   grind [jr,Bj]
theorem LQ.mem {i j:Nat} (h:LQ ns i j):(bY ns (bS ns i j).id,i)∈jr ns ns.length:=D9.2 ⟨i,j,h.lti,h.MX,h.dir,rfl⟩
def acf (ns:List aL) (m:Nat):Prop:=∀i j i' j',LQ ns i j->LQ ns i' j'->i<m->i'<m->bY ns (bS ns i j).id=bY ns (bS ns i' j').id->i=i'/\j=j'
theorem W9 {i m:Nat} (h:((iu ns i m).map Prod.fst).Nodup):∀j j',j<m->j'<m->(nd ns (bY ns (bS ns i j).id)).kind=2->(nd ns (bY ns (bS ns i j').id)).kind=2->bY ns (bS ns i j).id=bY ns (bS ns i j').id->j=j':=by
 induction m with
 |zero=>intro j j' hj;omega
 |succ m ih=>
   intro j j' hj hj' hk jw e
   by_cases hm:(nd ns (bY ns (bS ns i m).id)).kind=2
   ·rw [qP hm,aiP,ajj] at h
    rcases ais.1 hj with e1|e1
    ·rcases ais.1 hj' with e2|e2
     ·exact ih h.2 j j' e1 e2 hk jw e
     subst e2;exact ain (aiC.2 ⟨_,Bj.2 ⟨j,e1,hk,rfl⟩,e⟩) h.1
    rcases ais.1 hj' with e2|e2
    ·subst e1;exact ain (aiC.2 ⟨_,Bj.2 ⟨j',e2,jw,rfl⟩,e.symm⟩) h.1
    omega
   grind [r8]
theorem Xa {m:Nat} (h:((jr ns m).map Prod.fst).Nodup):acf ns m:=by
 induction m with
 |zero=>intro i j i' j' _ _ hi;omega
 |succ m ih=>
   rw [jr,ai1] at h
   obtain⟨h1,h2,h3⟩:=List.nodup_append.1 h
   intro i j i' j' g g' hi hi' e
   rcases ais.1 hi with e1|e1
   ·rcases ais.1 hi' with e2|e2
    ·exact ih h2 i j i' j' g g' e1 e2 e
    subst e2
    exact ain e.symm (h3 _ (aiC.2 ⟨_,Bj.2 ⟨j',g'.MX,g'.dir,rfl⟩,rfl⟩) _ (aiC.2 ⟨_,D9.2 ⟨i,j,e1,g.MX,g.dir,rfl⟩,rfl⟩))
   rcases ais.1 hi' with e2|e2
   ·subst e1
    exact ain e (h3 _ (aiC.2 ⟨_,Bj.2 ⟨j,g.MX,g.dir,rfl⟩,rfl⟩) _ (aiC.2 ⟨_,D9.2 ⟨i',j',e2,g'.MX,g'.dir,rfl⟩,rfl⟩))
   subst e1;subst e2
   exact⟨rfl,W9 h1 j j' g.MX g'.MX g.dir g'.dir e⟩
def LR (ns:List aL) (d:Nat->Nat):Prop:=∀i j,LQ ns i j->d i<d (bY ns (bS ns i j).id)
theorem cr.uniq (h:cr ns):acf ns ns.length:=Xa h.nodup
theorem cr.deep (h:cr ns):∃d,LR ns d:=by
 refine⟨λk=>Classical.choose (h.ends (nd ns k).id),λi j g=>?_⟩
 have hp:=AQ (ns:=ns) (aiu _) h.ah
 have hat:=(h.ah i g.lti j g.MX).at_
 have htl:=nE hat
 have e1:=Classical.choose_spec (h.ends (nd ns i).id)
 have e2:=Classical.choose_spec (h.ends (nd ns (bY ns (bS ns i j).id)).id)
 show Classical.choose (h.ends (nd ns i).id)<Classical.choose (h.ends (nd ns (bY ns (bS ns i j).id)).id)
 generalize Classical.choose (h.ends (nd ns i).id)=x at e1 ⊢
 generalize Classical.choose (h.ends (nd ns (bY ns (bS ns i j).id)).id)=y at e2 ⊢
 cases hu:up ((jr ns ns.length).map (lS ns)) (nd ns (bY ns (bS ns i j).id)).id with
 |none=>
   have:=SX hu
   exact ain (aiC.2 ⟨_,g.mem,rfl⟩) this
 |some z=>
   obtain⟨_,p,g1,g2,g3⟩:=SY h.fD htl.1 (λp cR=>(hp p cR).1) hu
   obtain⟨a,b,ha,hb,hk,rfl⟩:=D9.1 g1
   have g2:bY ns (bS ns a b).id=bY ns (bS ns i j).id:=g2
   obtain⟨rfl,rfl⟩:=h.uniq a b i j ⟨ha,hb,hk⟩ g ha g.lti g2
   have g3:z=(nd ns a).id:=g3
   cases y with
   |zero=>
     have e2:up _ _=none:=e2
     rw [hu] at e2;cases e2
   |succ y=>
     obtain⟨z',h1,h2⟩:=e2
     rw [hu] at h1
     cases h1
     rw [g3] at h2
     have:=e1.uniq h2
     show x<y+1
     omega
end
end
section
open Go.RowKit Go.Maps bF aD
structure kX (X:FM):Prop where
 cN:0<=X.cN/\X.cN<=4096
 cB:0<=X.cB/\X.cB<=1099511627776
 cH:0<=X.cH/\X.cH<=1024
 now:fU X.cS X.cZ
def jY (n:aL):Nat:=n.id.toNat
def vQ (n:aL):Th:=⟨jY n,n.kind⟩
def wN (n:aL):bJ:=⟨n.id,n.mode,n.bg,n.bh,n.aT,n.aJ,0,0,false,n.kind,n.data,n.target,[],none⟩
def Ou:bJ:=⟨0,0,0,0,0,0,0,0,false,0,[],⟨#[]⟩,[],none⟩
def Cm (X:FM):br:=⟨{X with last:=0,ah:=0,used:=0},λ_=>Ou,[],[],0⟩
def fO (S:br) (n:aL):br:={S with X:={S.X with last:=n.id,used:=S.X.used+n.data.length},O:=aX S.O (jY n) (λ_=>wN n),aq:=ins n.id (vQ n) S.aq}
def q6 (ns:List aL) (e:fA):Th:=vQ (nd ns (bY ns e.id))
def sG (ns:List aL) (S:br) (n:aL) (e:fA):br:={S with X:={S.X with ah:=S.X.ah+1},O:=vk S.O (jY n) e.name (q6 ns e)}
def fM (ns:List aL):Nat->Nat
 |0=>0
 |k+1=>fM ns k+(nd ns k).data.length
def IX (ns:List aL):bC Th:=ns.map (λn=>(n.id,vQ n))
structure xY (X:FM) (ns:List aL) (k:Nat) (S:br):Prop where
 inv:Inv0 S
 aq:S.aq=IX (ns.take k)
 us:S.us=[]
 aI:S.aI=0
 cap:S.X={X with last:=rH ns k,ah:=0,used:=(fM ns k:Int)}
 ob:∀a,a<k->af S.O (jY (nd ns a))=wN (nd ns a)
 free:∀x,(∀a,a<k->x≠jY (nd ns a))->af S.O x=Ou
section base
variable {X:FM} {ns:List aL} {i j k a b:Nat} {S:br}
theorem Kf (h:cr ns) (hk:k<ns.length):(jY (nd ns k):Int)=(nd ns k).id:=by
 have:=h.ids k hk
 unfold jY;omega
theorem Ab (h:cr ns) (ha:a<ns.length) (hb:b<ns.length) (e:jY (nd ns a)=jY (nd ns b)):a=b:=
 h.fD.inj ha hb (by grind [Kf])
theorem Fz (hk:k<ns.length):ns[k]?=some (nd ns k):=getD_some hk
theorem adn (hk:k<ns.length):ns.take (k+1)=ns.take k++[nd ns k]:=by
 rw [aiQ,Fz hk];rfl
theorem Xb (hX:kX X):xY X ns 0 (Cm X):=by
 refine⟨?_,rfl,rfl,rfl,rfl,λa h=>ain h (aiq a),λ_ _=>rfl⟩
 have hn:∀t,¬aQ ([]:bC Th) t:=λt h=>by cases h
 exact⟨hX.cN,hX.cB,hX.cH,hX.now,by show (0:Int)<=0/\(0:Int)<=_;omega,.nil,aio _,λ_ _ e=>(by cases e),λt h=>ain h (hn t),λt h=>ain h (hn t),λt h=>ain h (hn t),λt h=>ain h (hn t),
  λ_ _=>⟨rfl,rfl⟩,λ_ _=>rfl,⟨rfl,by show (0:Int)<=8192;omega⟩,λt h=>ain h (hn t),λt h=>ain h (hn t),λt h=>ain h (hn t),.nil,λx hx=>(by cases hx),(by show ((0:Nat):Int)<=X.cH;have:=hX.cH;omega),⟨Int.le_refl _,hX.cH.1⟩,λ_ _ e=>(by cases e),λt h=>ain h (hn t),λt h=>ain h (hn t),⟨λ_=>0,λk d e=>(by cases e)⟩,⟨rfl,by show (0:Int)<=_;omega⟩⟩
theorem Tk (h:cr ns) (hk:k<ns.length):∀x∈aY (IX (ns.take k)),x<(nd ns k).id:=by
 intro x hx
 obtain⟨p,hp,rfl⟩:=aiC.1 hx
 obtain⟨n,hn,rfl⟩:=aiC.1 hp
 obtain⟨a,ha,e⟩:=aiY.1 hn
 rw [aiH] at ha
 rw [List.getElem_take] at e
 have e2:nd ns a=n:=by
  grind [Fz,aY,IX,nd]
 rw [←e2]
 exact h.fD a k zc hk
theorem MY (hd:∀i,i<ns.length->(nd ns i).data.length<=1048576) (hk:k<=ns.length):fM ns k<=1048576*k:=by
 induction k with
 |zero=>exact aiu _
 |succ k ih=>
   grind [fM,nd]
theorem FA (h:cr ns) (hd:∀i,i<ns.length->(nd ns i).data.length<=1048576) (hk:k<ns.length) (hB:xY X ns k S):xY X ns (k+1) (fO S (nd ns k)):=by
 have hs:=MY hd (ajp hk)
 have hn:=h.node k hk
 have hid:=Kf h hk
 have y8:=h.ids k hk
 have hu:S.X.used=(fM ns k:Int):=by rw [hB.cap]
 have hl:S.X.last=rH ns k:=by rw [hB.cap]
 have jD:=h.len
 have hdk:=hd k hk
 have ahI:S.aq.length=k:=by
  rw [hB.aq];unfold IX;rw [aiF,aiH];omega
 have h1:=hB.inv.newAt (k0:=jY (nd ns k)) (o:=wN (nd ns k)) (tE:=S.X.used+(nd ns k).data.length) (us':=S.us) (lY:=S.aI) (by rw [hid,hl];exact h.last hk) (by rw [hid];exact y8.2) ⟨rfl,by rw [hu];omega⟩ hid.symm
  (by have:=hn.kind;show (nd ns k).kind=1\/(nd ns k).kind=2\/(nd ns k).kind=3;omega) rfl rfl rfl rfl
  ⟨hn.mode,hn.bg,hn.bh,hn.time,λe=>aiZ (hn.data e),λ_=>rfl,hn.target⟩ zc
  hB.inv.usr hB.inv.yE hB.inv.Hf hB.inv.aI (λh t e=>⟨.inl (hB.inv.us h t e).1,(hB.inv.us h t e).2⟩) (λ_ _=>rfl) (by rw [hB.us];rfl)
 rw [hid] at h1
 refine⟨h1,?_,hB.us,hB.aI,?_,λa ha=>?_,λx hx=>(show af (aX S.O (jY (nd ns k)) λ_=>wN (nd ns k)) x=Ou from (jd (hx k (aiM k))).trans (hB.free x λa ha=>hx a (Nat.lt_succ_of_lt ha)))⟩
 ·show ins (nd ns k).id (vQ (nd ns k)) S.aq=_
  rw [hB.aq,Pv (Tk h hk),adn hk]
  unfold IX;rw [ai1];rfl
 ·show ({S.X with last:=(nd ns k).id,used:=S.X.used+((nd ns k).data.length:Int)}:FM)=_
  rw [hu,hB.cap]
  show (⟨_,_,_,_,_,_,_,_⟩:FM)=⟨_,_,_,_,_,_,_,_⟩
  congr 1
 show af (aX S.O (jY (nd ns k)) (λ_=>wN (nd ns k))) (jY (nd ns a))=_
 rcases ais.1 ha with e|e
 ·rw [jd (λe2=>by grind [Ab])]
  exact hB.ob a e
 subst e;exact fq
theorem xY.fresh (h:cr ns) (hk:k<ns.length) (hB:xY X ns k S):BW S.O S.aq S.us (jY (nd ns k)):=hB.inv.LD (by rw [Kf h hk,hB.cap];exact h.last hk)
theorem xY.new (h:cr ns) (hk:k<ns.length) (hB:xY X ns k S):aD.get S.aq (nd ns k).id=none:=get_none.2 (λhm=>by
 rw [hB.aq] at hm
 exact ain (Tk h hk _ hm) zc)
theorem IY (X:FM) (L:HL):(∀k,eE (Cm X).O L k=d9.none)/\(∀k,dS (Cm X).O L k=d9.none)/\∀k,fZ (Cm X).O L k=d9.none:=⟨λ_=>aik rfl,λ_=>aij (by show ¬(0:Int)=1;omega),λ_=>aij (by show ¬(0:Int)=2;omega)⟩
theorem aR.agi {β:Bs} {l l':List HP} {w:World} {i j b m c:Nat} {ix:List Nat} {O:dZ} {L L':HL} {A:Option Addr} {o:bJ} (h:aR β l w) (hL:L'=L.put k b m A c) (hp:l[i]?=some (.abs (aW (dS O L)))) (hq:l[j]?=some (.abs (aF 5 1 A o.data.length c (dQ o.data)))) (hd:cC (i::j::ix)=true) (hl:cU l ix=some l') (h1:o.kind=1):aR β (.abs (aW (dS (aX O k (λ_=>o)) L'))::l') w:=by
 refine h.xU hp hq (λ_ _ h=>h) hd hl k (λx hx=>by rw [Fc hx,Gx hL hx]) ?_
 grind [AR,fq,HL.put]
end base
theorem ado {O:dZ} {L:HL} {d:Nat} {name:ByteArray} {t:Th}:dS (vk O d name t) L=dS O L:=
 Bb (λ_=>Iy (g:=bJ.data) (λ_ _=>rfl) (λ_ _=>rfl) (λ_ _=>rfl)) (λ_=>Ff)
def wu (ns:List aL) (i j a:Nat):Nat:=if a<i then (nd ns a).ah.length else if a=i then j else 0
def vn (ns:List aL) (a m:Nat):jc Th:=((nd ns a).ah.take m).map (λe=>(e.name,q6 ns e))
structure ld (X:FM) (ns:List aL) (i j:Nat) (S:br):Prop where
 inv:Inv0 S
 aq:S.aq=IX ns
 us:S.us=[]
 aI:S.aI=0
 cap:S.X={X with last:=rH ns ns.length,ah:=((dI ns i+j:Nat):Int),used:=(fM ns ns.length:Int)}
 ob:∀a,a<ns.length->∃l u,af S.O (jY (nd ns a))={wN (nd ns a) with aS:=l,ah:=vn ns a (wu ns i j a),up:=u}
 free:∀x,(∀a,a<ns.length->x≠jY (nd ns a))->af S.O x=Ou
section ah
variable {X:FM} {ns:List aL} {i j k a b m:Nat} {S:br} {t:Th}
theorem xY.ah (h:xY X ns ns.length S):ld X ns 0 0 S:=by
 refine⟨h.inv,by rw [h.aq,ai4 (aiu _)],h.us,h.aI,h.cap,λa ha=>⟨0,none,?_⟩,h.free⟩
 rw [h.ob a ha]
 have:wu ns 0 0 a=0:=by
  grind [wu]
 rw [this];rfl
theorem ld.get (h:ld X ns i j S) (ha:a<ns.length):aD.get S.aq (nd ns a).id=some (vQ (nd ns a)):=by
 refine oR h.inv.fD ?_
 rw [h.aq]
 exact aiC.2 ⟨nd ns a,aiU (Fz ha),rfl⟩
theorem ld.live (hG:cr ns) (h:ld X ns i j S) (ha:a<ns.length):aQ S.aq (vQ (nd ns a)):=by
 have:=h.get ha
 rw [←Kf hG ha] at this
 exact this
theorem ld.of (h:ld X ns i j S) {x:Int} (e:aD.get S.aq x=some t):∃a,a<ns.length/\t=vQ (nd ns a):=by
 have hm:=get_mem e
 rw [h.aq] at hm
 obtain⟨n,hn,e2⟩:=aiC.1 hm
 obtain⟨a,ha,e3⟩:=aiY.1 hn
 have e4:nd ns a=n:=by
  grind [Fz,vQ,nd]
 cases e2
 exact⟨a,ha,by rw [e4]⟩
theorem P6 {es:List fA} {q:Nat} (hq:q<es.length):es[q]?=some (en es q):=getD_some hq
theorem Ea {e:ByteArray×Th} (h:e∈vn ns a m):∃q,q<m/\q<(nd ns a).ah.length/\e.1=(bS ns a q).name/\e.2=q6 ns (bS ns a q):=by
 obtain⟨x,hx,rfl⟩:=aiC.1 h
 obtain⟨q,hq,e⟩:=aiY.1 hx
 rw [aiH] at hq
 rw [List.getElem_take] at e
 have e2:bS ns a q=x:=by
  have:=P6 (es:=(nd ns a).ah) (q:=q) zc
  grind [vn,nd,bS,q6]
 grind
theorem Xc (hj:j<(nd ns i).ah.length):vn ns i (j+1)=vn ns i j++[((bS ns i j).name,q6 ns (bS ns i j))]:=by
 unfold vn
 rw [aiQ,P6 hj,ai1];rfl
theorem LU (hG:cr ns) (hi:i<ns.length) {q:Nat}:∀{j},q<j->j<(nd ns i).ah.length->vX (bS ns i q).name (bS ns i j).name<0
 |0,h,_=>ain h (aiq q)
 |j+1,h,hj=>by
   have h1:=J1.1 (hG.ah i hi (j+1) hj).ord
   have h1:vX (bS ns i j).name (bS ns i (j+1)).name<0:=h1
   rcases ais.1 h with e|e
   ·exact JB (LU hG hi e zc) (Int.le_of_lt h1)
   rw [e];exact h1
theorem aag (hG:cr ns) (hi:i<ns.length) (hj:j<(nd ns i).ah.length):bK (bS ns i j).name (vn ns i j)=none:=by
 refine DV.2 (λe he e1=>?_)
 obtain⟨q,h1,h2,h3,_⟩:=Ea he
 have:=LU hG hi h1 hj
 grind [Mt,bS]
theorem MZ {n:ByteArray}:∀{es:jc Th},(∀e∈es,vX e.1 n<0)->kZ n t es=es++[(n,t)]
 |[],_=>rfl
 |e::r,h=>by
   have h1:=h e (aiw ..)
   unfold kZ
   rw [aij (λhc=>by grind [J1,ES]),MZ (λx hx=>h x (aiv _ hx))];rfl
theorem aah (hG:cr ns) (hi:i<ns.length) (hj:j<(nd ns i).ah.length):kZ (bS ns i j).name (q6 ns (bS ns i j)) (vn ns i j)=vn ns i (j+1):=by
 grind [Xc,MZ,Ea,LU]
theorem Bk (hG:cr ns) (hi:i<ns.length) (hj:j<(nd ns i).ah.length):bY ns (bS ns i j).id<ns.length/\(nd ns (bY ns (bS ns i j).id)).id=(bS ns i j).id:=by
 have:=nE (hG.ah i hi j hj).at_
 exact⟨this.1,this.2.1⟩
theorem LV {O:dZ} {d x:Nat} {name:ByteArray} (h:t.k≠d):af (vk O d name t) x=if x=d then {af O d with ah:=kZ name t (af O d).ah} else if x=t.k then {af O x with aS:=(af O x).aS+1,up:=if t.kind=2 then some d else (af O x).up} else af O x:=by
 grind [aX,kZ,af,up,kx,vk]
theorem ld.agZ (hG:cr ns) (h:ld X ns i j S) {d:Nat} (hd:aQ S.aq ⟨d,2⟩) {n:ByteArray} (ha:a<ns.length) (hk:(nd ns a).kind=2) (hl:bK n (af S.O d).ah=some (vQ (nd ns a))):∃b q,b<ns.length/\d=jY (nd ns b)/\LQ ns b q/\bY ns (bS ns b q).id=a:=by
 obtain⟨b,hb,e⟩:=h.of hd
 have e:(⟨d,2⟩:Th)=⟨jY (nd ns b),(nd ns b).kind⟩:=e
 have e1:d=jY (nd ns b):=ail Th.k e
 subst e1
 obtain⟨l,u,ho⟩:=h.ob b hb
 have hm:=r9 hl
 rw [ho] at hm
 obtain⟨q,h1,h2,_,h4⟩:=Ea hm
 have ht:=Bk hG hb h2
 have h5:jY (nd ns a)=jY (nd ns (bY ns (bS ns b q).id)):=ail Th.k h4
 have h6:=Ab hG ha ht.1 h5
 exact⟨b,q,hb,rfl,⟨hb,h2,by rw [←h6];exact hk⟩,h6.symm⟩
theorem ld.below (hG:cr ns) (h:ld X ns i j S) {dp:Nat->Nat} (hdp:LR ns dp) {s k:Nat} (hb:sV S.O s k):∀{a b},a<ns.length->k=jY (nd ns a)->b<ns.length->s=jY (nd ns b)->dp b<=dp a:=by
 induction hb with
 |here=>
   grind [Ab]
 |up hup _ ih=>
   intro a b ha e1 hb e2
   subst e1
   have bX:=h.live hG ha
   obtain⟨h1,h2,n,h3⟩:=(h.inv.up _ bX _).1 hup
   obtain⟨c,q,hc,e3,hD,e4⟩:=h.agZ hG h2 ha h1 h3
   grind [LR,jY,nd]
theorem ld.aS (hG:cr ns) (h:ld X ns i j S) (hi:i<ns.length) (hj:j<(nd ns i).ah.length) (hk:(q6 ns (bS ns i j)).kind=2):(af S.O (q6 ns (bS ns i j)).k).aS=0:=by
 have ht:=Bk hG hi hj
 have bX:aQ S.aq (q6 ns (bS ns i j)):=h.live hG ht.1
 rw [h.inv.aS _ bX]
 cases hz:nP S.aq S.O (q6 ns (bS ns i j)).k with
 |zero=>rfl
 |succ z=>
   exfalso
   obtain⟨x,u,hu,e,he,e1⟩:=JX h.inv.fD (show 0<nP S.aq S.O (q6 ns (bS ns i j)).k by omega)
   obtain⟨b,hb,rfl⟩:=h.of hu
   obtain⟨l,u,ho⟩:=h.ob b hb
   have he:e∈(af S.O (jY (nd ns b))).ah:=he
   rw [ho] at he
   obtain⟨q,h1,h2,_,h4⟩:=Ea he
   have ht2:=Bk hG hb h2
   have h5:jY (nd ns (bY ns (bS ns b q).id))=jY (nd ns (bY ns (bS ns i j).id)):=by
    rw [h4] at e1;exact e1
   have h6:=Ab hG ht2.1 ht.1 h5
   obtain⟨rfl,rfl⟩:=hG.uniq b q i j ⟨hb,h2,by rw [h6];exact hk⟩ ⟨hi,hj,hk⟩ hb hi h6
   grind [wu]
theorem ld.look (hG:cr ns) (h:ld X ns i j S) (hi:i<ns.length) (hj:j<(nd ns i).ah.length):(af S.O (jY (nd ns i))).ah=vn ns i j/\bK (bS ns i j).name (af S.O (jY (nd ns i))).ah=none/\(nd ns i).kind=2:=by
 obtain⟨l,u,ho⟩:=h.ob i hi
 have e1:(af S.O (jY (nd ns i))).ah=vn ns i j:=by
  grind [vn,wu]
 refine⟨e1,by rw [e1];exact aag hG hi hj,?_⟩
 cases Decidable.em ((nd ns i).kind=2) with
 |inl h=>exact h
 |inr h=>have:=(hG.node i hi).ah h;omega
theorem ld.aE (h:ld X ns i j S) (ha:a<ns.length):(af S.O (jY (nd ns a))).aE=false:=by
 obtain⟨l,u,ho⟩:=h.ob a ha
 rw [ho];rfl
theorem ld.ne (hG:cr ns) (hi:i<ns.length) (hj:j<(nd ns i).ah.length) (hk:(nd ns i).kind=2):(q6 ns (bS ns i j)).k≠jY (nd ns i):=λe=>by
 have ht:=Bk hG hi hj
 have h1:=Ab hG ht.1 hi e
 obtain⟨dp,hdp⟩:=hG.deep
 have:=hdp i j ⟨hi,hj,by rw [h1];exact hk⟩
 rw [h1] at this
 exact aje _ this
theorem ld.step (hG:cr ns) (h:ld X ns i j S) (hi:i<ns.length) (hj:j<(nd ns i).ah.length):ld X ns i (j+1) (sG ns S (nd ns i) (bS ns i j)):=by
 obtain⟨l1,l2,l3⟩:=h.look hG hi hj
 have ht:=Bk hG hi hj
 have cu:=ld.ne hG hi hj l3
 have hld:aQ S.aq ⟨jY (nd ns i),2⟩:=by
  have:=h.live hG hi
  unfold vQ at this
  rw [l3] at this
  exact this
 have fP:aQ S.aq (q6 ns (bS ns i j)):=h.live hG ht.1
 have hX:S.X.ah=((dI ns i+j:Nat):Int):=by rw [h.cap]
 have hsum:dI ns i+j<8192:=by
  have h1:dI ns (i+1)<=dI ns ns.length:=qQ hi
  have h2:dI ns (i+1)=dI ns i+(nd ns i).ah.length:=rfl
  have h3:=hG.sum
  omega
 have h1:=h.inv.put (O':=vk S.O (jY (nd ns i)) (bS ns i j).name (q6 ns (bS ns i j))) (ta:=(af S.O (jY (nd ns i))).aT) (tb:=(af S.O (jY (nd ns i))).aJ) hld (h.aE hi) l2 (hG.ah i hi j hj).good fP (h.aE ht.1) (λhk=>⟨h.aS hG hi hj hk,λhb=>by
  obtain⟨dp,hdp⟩:=hG.deep
  have h2:=h.below hG hdp hb hi rfl ht.1 rfl
  have h3:=hdp i j ⟨hi,hj,hk⟩
  omega⟩) cu (by rw [hX];omega) (h.inv.mt _ hld).time (λx=>LV cu)
 refine⟨h1,h.aq,h.us,h.aI,?_,λa ha=>?_,λx hx=>(LV cu).trans (by rw [aij (hx i hi),aij (show ¬x=(q6 ns (bS ns i j)).k from hx _ ht.1)];exact h.free x hx)⟩
 ·show ({S.X with ah:=S.X.ah+1}:FM)=_
  rw [hX,h.cap]
  show (⟨_,_,_,_,_,_,_,_⟩:FM)=⟨_,_,_,_,_,_,_,_⟩
  congr 1
 obtain⟨l,u,ho⟩:=h.ob a ha
 show ∃l u,af (vk S.O (jY (nd ns i)) (bS ns i j).name (q6 ns (bS ns i j))) (jY (nd ns a))=_
 rw [LV cu]
 by_cases e:a=i
 ·subst e
  refine⟨l,u,?_⟩
  rw [aik rfl,l1,aah hG hi hj,ho]
  have hc:wu ns a (j+1) a=j+1:=by grind [wu]
  rw [hc]
 have hc:wu ns i (j+1) a=wu ns i j a:=by
  unfold wu;rw [aij e,aij e]
 rw [aij (λe2=>e (Ab hG ha hi e2)),hc]
 split
 ·rw [ho];exact⟨_,_,rfl⟩
 exact⟨l,u,ho⟩
theorem ld.next (h:ld X ns i (nd ns i).ah.length S):ld X ns (i+1) 0 S:=by
 refine⟨h.inv,h.aq,h.us,h.aI,h.cap,λa ha=>?_,h.free⟩
 obtain⟨l,u,ho⟩:=h.ob a ha
 grind [wu,nd]
theorem ld.full (h:ld X ns i j S):bO S:=by
 refine⟨h.inv,λt ht hg=>?_⟩
 obtain⟨a,ha,rfl⟩:=h.of ht
 have:(af S.O (jY (nd ns a))).aE=true:=hg
 rw [h.aE ha] at this
 cases this
theorem ld.graph (hG:cr ns) (h:ld X ns ns.length 0 S):aV S=ns:=by
 unfold aV
 rw [h.aq]
 unfold IX
 rw [List.map_map]
 refine List.ext_getElem? (λa=>?_)
 rw [List.getElem?_map]
 by_cases ha:a<ns.length
 ·rw [Fz ha]
  refine ail some ?_
  show jU S.O (nd ns a).id ⟨jY (nd ns a),(nd ns a).kind⟩=nd ns a
  unfold jU
  obtain⟨l,u,ho⟩:=h.ob a ha
  rw [ho]
  have he:(vn ns a (wu ns ns.length 0 a)).map (gn S.O)=(nd ns a).ah:=by
   unfold wu
   rw [aik ha]
   unfold vn
   rw [ai4 (aiu _),List.map_map]
   refine List.ext_getElem? (λq=>?_)
   rw [List.getElem?_map]
   by_cases hq:q<(nd ns a).ah.length
   ·rw [P6 hq]
    refine ail some ?_
    have ht:=Bk hG ha hq
    obtain⟨l,u,ho⟩:=h.ob _ ht.1
    have e1:(af S.O (q6 ns (en (nd ns a).ah q)).k).id=(en (nd ns a).ah q).id:=by
     show (af S.O (jY (nd ns (bY ns (bS ns a q).id)))).id=(bS ns a q).id
     rw [ho];exact ht.2
    show (⟨(en (nd ns a).ah q).name,(af S.O (q6 ns (en (nd ns a).ah q)).k).id⟩:fA)=_
    rw [e1]
   rw [aji zc];rfl
  show (⟨_,_,_,_,_,_,_,_,_,List.map (gn S.O) (vn ns a (wu ns ns.length 0 a))⟩:aL)=_
  rw [he]
  rfl
 rw [aji zc];rfl
end ah
noncomputable def fw (X:FM) (ns:List aL) (aj:Int):Int:=
 open Classical in
 if kX X then if cr ns then
  match ns.find? (λn=>decide (n.id=aj)) with
  |none=>141
  |some n=>if n.kind=2 then 0 else 173
 else 140 else 179
def Bl (ns:List aL) (aj:Int) (i:Nat):Prop:=i<ns.length/\(nd ns i).id=aj/\∀q,q<i->(nd ns q).id≠aj
section n
variable {X:FM} {ns:List aL} {aj:Int} {i:Nat}
theorem P7 (ns:List aL) (aj:Int):(∃i,Bl ns aj i)\/∀q,q<ns.length->(nd ns q).id≠aj:=by
 have key:∀n,n<=ns.length->(∃i,Bl ns aj i)\/∀q,q<n->(nd ns q).id≠aj:=λn=>by
  induction n with
  |zero=>exact λ_=>.inr λq h=>ain h (aiq q)
  |succ n ih=>
    intro h
    rcases ih zc with h1|h1
    ·exact .inl h1
    by_cases e:(nd ns n).id=aj
    ·exact .inl ⟨n,zc,e,h1⟩
    exact .inr λq hq=>(ais.1 hq).elim (h1 q) (λe2=>e2 ▸ e)
 exact key _ (aiu _)
theorem Kg (h:Bl ns aj i):ns.find? (λn=>decide (n.id=aj))=some (nd ns i):=by
 obtain⟨h1,h2,h3⟩:=h
 rw [List.find?_eq_some_iff_getElem]
 have e:=getD_some (x:=default) h1
 have e2:ns[i]=nd ns i:=by rw [aiy h1] at e;exact ajo e
 refine⟨by simpa using h2,i,h1,e2,λj hj=>?_⟩
 have e3:ns[j]=nd ns j:=by
  have:=getD_some (x:=default) (show j<ns.length by omega)
  rw [aiy zc] at this;exact ajo this
 rw [e3]
 simpa using h3 j hj
theorem Xd (h:∀q,q<ns.length->(nd ns q).id≠aj):ns.find? (λn=>decide (n.id=aj))=none:=by
 rw [List.find?_eq_none]
 intro n hn
 obtain⟨q,hq,e⟩:=aiY.1 hn
 have e3:ns[q]=nd ns q:=by
  have:=getD_some (x:=default) hq
  rw [aiy hq] at this;exact ajo this
 rw [←e,e3]
 simpa using h q hq
theorem Eb (h:¬kX X):fw X ns aj=179:=aij h
theorem Bn (h:kX X) (h2:¬cr ns):fw X ns aj=140:=(aik h).trans (aij h2)
theorem xZ (h:kX X) (h2:cr ns) (h3:∀q,q<ns.length->(nd ns q).id≠aj):fw X ns aj=141:=(aik h).trans ((aik h2).trans (by rw [Xd h3]))
theorem Ec (h:kX X) (h2:cr ns) (h3:Bl ns aj i) (h4:(nd ns i).kind=2):fw X ns aj=0:=(aik h).trans ((aik h2).trans (by rw [Kg h3];exact aik h4))
theorem zM (h:kX X) (h2:cr ns) (h3:Bl ns aj i) (h4:¬(nd ns i).kind=2):fw X ns aj=173:=(aik h).trans ((aik h2).trans (by rw [Kg h3];exact aij h4))
theorem FB (h:fw X ns aj=0):kX X/\cr ns:=by
 by_cases h1:kX X
 ·by_cases h2:cr ns
  ·exact⟨h1,h2⟩
  rw [Bn h1 h2] at h;exact ain h (by decide)
 rw [Eb h1] at h;exact ain h (by decide)
end n
end
section
open Go.RowKit Go.Maps bF aD
attribute [local irreducible] ar bN ak ay
theorem aai {β:Bs} (b:Nat) (aj z:Int) (v1 v2 v3 v4 v5 v6 v7 v8 v9:Value) :
 aU Tryz.prog β 45 #[.agg #[vI (z),v1,v2,v3,v4,v5,v6,v7,v8,v9],vP b] [.ax b [vI (aj)] 3] (λv l=>v=.bool (decide (z=aj))/\l=[.ax b [vI (aj)] 3]):=by
 exact SE Tryz.func45 Tryz.ntmps45 (λR=>SR (jB 2 [2] (λb1=>.ax b1 [vI (z),v1,v2,v3,v4,v5,v6,v7,v8,v9] 95) (λb1=>NS (jK 5 [3] [(1,a_ 2 b1),(2,a_ 0 b)] (eN (v:=(.bool (decide ((z:Int)=(aj:Int))))) ⟨rfl,rfl⟩)))))
theorem P8 {β:Bs} (A:Option Addr) (c:Nat) (ns:List aL) (Y:eP) (hG:aN β A ns Y) (hl:ns.length<=1048576) (b:Nat) (aj:Int) :
 aU Tryz.prog β 44 #[.slice A (ns.length) (c),.func (.func 45) #[] #[vP b]] [.ax b [vI (aj)] 3] (λv l=>(∃i:Nat,Bl ns aj i/\v=vI (i:Int)/\l=[.ax b [vI (aj)] 3])\/((∀q,q<ns.length->(nd ns q).id≠aj)/\v=vI (-1)/\l=[.ax b [vI (aj)] 3])):=by
 refine SE Tryz.func44 Tryz.ntmps44 (λR=>SR (jK 1 [] [] (NZ (jK 3 [7,8] [] (NN (ak.block (lJ (ι:=Nat) (λ(i:Nat)=>(i<=ns.length)/\(∀q,q<i->(nd ns q).id≠aj)) (λ(i:Nat)=>ns.length-i) (λ(i:Nat)=>[(0,.slice A (ns.length) (c)),(1,.func (.func 45) #[] #[vP b]),(7,vI ↑ns.length),(8,vI ↑i)]) (λ(i:Nat)=>[.ax b [vI (aj)] 3,.abs R]) 0 [0,1] (⟨aio _,λq h=>ain h (aiq q)⟩) ?_)))))))
 rintro i ⟨hi,fP⟩
 exact SR (jK 1 [9] [] (NN (ak.seq (cP ((((i:Nat):Int):Int)<(((ns.length:Nat):Int):Int)) (λh9=>KX (ak.seq (ak.block (SR (jK 2 [5] [] (NS (jK 5 [11,15] [(3,x_ i ns.length (aN.hd hG (i:=i) zc)),(4,Ez (iy Y i (nd ns i)) (λ_ _ h=>aN.rd hG zc h))] (gE [0] (aai b aj ((nd ns i).id) (.int .i64 ((nd ns i).kind)) (.int .i64 ((nd ns i).mode)) (.int .i64 ((nd ns i).bg)) (.int .i64 ((nd ns i).bh)) (.int .i64 ((nd ns i).aT)) (.int .i64 ((nd ns i).aJ)) (.slice (Y.dA i) ((nd ns i).data.length) ((Y.dC i))) (.string (nd ns i).target) (.slice (Y.eA i) ((nd ns i).ah.length) ((Y.eC i)))) (NN (cP ((nd ns i).id=aj) (λpR=>zR (v:=(vI ↑i)) (.inl ⟨i,⟨zc,pR,fP⟩,rfl,rfl⟩)) (λpR=>KX (ak.region (jK 2 [8] [(0,wJ ((i:Int)+1) (↑(i+1)))] (NL (tJ ((i+1)) [0,1] (⟨zc,λq hq=>(ais.1 hq).elim (fP q) (λe=>e ▸ pR)⟩)))))))))))))))) (λh9=>XX (zR (v:=(vI (-1))) (.inr ⟨λq hq=>fP q zc,rfl,rfl⟩)))))))
theorem aeI {β:Bs} (b:Nat) :
 aU Tryz.prog β 46 #[.iface 37 (vP b)] [] (λv l=>v=.agg #[.iface 37 (vP b)]/\l=[]):=by
 exact SE Tryz.func46 Tryz.ntmps46 (λR=>SR (jB 1 [2] (λb2=>.ax b2 [.nilIface] 75) (λb2=>NS (jC 3 [] [(2,a_ 1 b2)] [(1,[(0,.iface 37 (vP b))])] (eS (v:=(.agg #[.iface 37 (vP b)])) [a_ 1 b2] ⟨rfl,rfl⟩)))))
end
section
open Go.RowKit
section
variable {O:dZ} {k:Nat} {kd:Int}
theorem y9 (L:HL) (h:(af O k).kind=kd) (h0:kd≠0:=by decide):∀F w,(aW (eE O L)).h F w->w.cell? ⟨L.b k,0,none⟩=some (.int .i64 (af O k).id):=je (by rw [h];exact h0) rfl
theorem Bo (L:HL) (h:(af O k).kind=kd) (h0:kd≠0:=by decide):∀F w,(aW (eE O L)).h F w->w.cell? ⟨L.b k,1,none⟩=some (.int .i64 (af O k).mode):=je (by rw [h];exact h0) rfl
theorem GD (L:HL) (h:(af O k).kind=kd) (h0:kd≠0:=by decide):∀F w,(aW (eE O L)).h F w->w.cell? ⟨L.b k,2,none⟩=some (.int .i64 (af O k).bg):=je (by rw [h];exact h0) rfl
theorem GF (L:HL) (h:(af O k).kind=kd) (h0:kd≠0:=by decide):∀F w,(aW (eE O L)).h F w->w.cell? ⟨L.b k,3,none⟩=some (.int .i64 (af O k).bh):=je (by rw [h];exact h0) rfl
theorem uh (L:HL) (h:(af O k).kind=kd) (h0:kd≠0:=by decide):∀F w,(aW (eE O L)).h F w->w.cell? ⟨L.b k,6,none⟩=some (.int .i64 (af O k).aS):=je (by rw [h];exact h0) rfl
theorem qy (L:HL) (h:(af O k).kind=kd) (h0:kd≠0:=by decide):∀F w,(aW (eE O L)).h F w->w.cell? ⟨L.b k,7,none⟩=some (.int .i64 (af O k).aK):=je (by rw [h];exact h0) rfl
theorem uH (L:HL) (h:(af O k).kind=kd) (h0:kd≠0:=by decide):∀F w,(aW (eE O L)).h F w->w.cell? ⟨L.b k,8,none⟩=some (.bool (af O k).aE):=je (by rw [h];exact h0) rfl
theorem P9 (L:HL) (h:(af O k).kind=1):∀F w,(aW (eE O L)).h F w->w.cell? ⟨L.b k,9,none⟩=some (.slice (L.dA k) (af O k).data.length (L.dC k)):=je (by rw [h];decide) (by rw [mR h];rfl)
theorem dx (L:HL) (h:(af O k).kind=2):∀F w,(aW (eE O L)).h F w->w.cell? ⟨L.b k,9,none⟩=some (.map (some (L.m k))):=je (by rw [h];decide) (by rw [sB h];rfl)
theorem ag0 (L:HL) (h:(af O k).kind=2):∀F w,(aW (eE O L)).h F w->w.cell? ⟨L.b k,10,none⟩=some (JQ L (af O k).up):=je (by rw [h];decide) (by rw [sB h];rfl)
theorem agj (L:HL) (h:(af O k).kind=3):∀F w,(aW (eE O L)).h F w->w.cell? ⟨L.b k,9,none⟩=some (.string (af O k).target):=je (by rw [h];decide) (by rw [Fe h];rfl)
end
end
section
open Go.RowKit Go.Maps
theorem aW.step {R R':Nat->d9} {k:Nat} {F:Fp} {w w':World} (hF:(aW R).h F w) (hR:∀x,x≠k->R' x=R x) (hs:∀G,(R k).h G w->∃G',(R' k).h G' w'/\Step G w G' w'):∃F',(aW R').h F' w'/\Step F w F' w':=by
 obtain⟨φ,h1,h2,h3⟩:=hF
 obtain⟨G',g1,st⟩:=hs _ (h1 k)
 have hap:∀i,i≠k->∀x,G' x->φ i x->False:=λi cu x hx hy=>by
  rcases st.grow x hx with e|e
  ·exact h2 i k cu x hy e
  have:=(R i).lt (h1 i) x hy;omega
 refine⟨λx=>∃i,(if i=k then G' else φ i) x,⟨λi=>if i=k then G' else φ i,λi=>?_,λi j cu x hx hy=>?_,λx=>Iff.rfl⟩,⟨st.keeps.mono (λx _ hx=>(h3 x).2 ⟨k,hx⟩),λx ⟨i,hx⟩=>?_⟩⟩
 ·by_cases e:i=k
  ·subst e;simp only [if_true];exact g1
  simp only [e,if_false]
  rw [hR i e]
  exact (R i).st (h1 i) st.keeps (λx hx hk=>h2 i k e x hx hk)
 ·by_cases e1:i=k
  ·grind
  simp only [e1,if_false] at hx
  by_cases e2:j=k
  ·grind
  simp only [e2,if_false] at hy
  exact h2 i j cu x hx hy
 by_cases e:i=k
 ·simp only [e,if_true] at hx
  rcases st.grow x hx with h|h
  ·exact .inl ((h3 x).2 ⟨k,h⟩)
  exact .inr h
 grind
def LW (O:dZ) (L:HL):Nat->HP
 |0=>.abs (aW (eE O L))
 |1=>.abs (aW (fZ O L))
 |_=>.abs (aW (dS O L))
def xB (O:dZ) (L:HL):List (Nat×Nat)->List (Nat×HP)
 |[]=>[]
 |q::r=>(q.1,LW O L q.2)::xB O L r
def Cn (au:List HP) (O:dZ) (L:HL):List (Nat×Nat)->Prop
 |[]=>True
 |q::r=>au[q.1]?=some (LW O L q.2)/\Cn au O L r
theorem Dn {au:List HP} {O O2:dZ} {L:HL} {p:Nat} (he:∀q,q≠p->LW O2 L q=LW O L q):∀{js:List (Nat×Nat)},Cn au O L js->qh p (js.map (·.2))=false->tZ au (xB O2 L js)=au
 |[],_,_=>rfl
 |q::r,h,hn=>by
   have hq:q.2≠p:=λe=>by
    rw [show qh p ((q::r).map (·.2))=true from uz.2 (by simp [e])] at hn;cases hn
   have hr:qh p (r.map (·.2))=false:=by
    cases hb:qh p (r.map (·.2)) with
    |false=>rfl
    |true=>rw [show qh p ((q::r).map (·.2))=true from uz.2 (aiv _ (uz.1 hb))] at hn;cases hn
   show tZ (au.set q.1 (LW O2 L q.2)) (xB O2 L r)=au
   have e:au.set q.1 (LW O2 L q.2)=au:=by
    rw [he _ hq]
    refine List.ext_getElem? (λn=>?_)
    rw [List.getElem?_set]
    split
    ·rename_i e;subst e
     rw [h.1];split
     ·rfl
     rename_i fP;exact ain (dO h.1) fP
    rfl
   rw [e]
   exact Dn he h.2 hr
def Kh (P:Program) (N:fL) (ai:Nat->Value) (ops:Array Oper) (fr:Fr) (k:Nat):Option (Addr×Value):=
 match iY N ai ops fr k with
 |some (.store T a y,_)=>match (P.info? T).map (·.size) with
   |some 1=>match eW N fr ai a with
     |.pointer (some ad)=>some (ad,eW N fr ai y)
     |_=>none
   |_=>none
 |_=>none
def Ki (N:fL) (ai:Nat->Value) (ops:Array Oper) (fr:Fr) (k:Nat):Option (TypeId×Nat×Value):=
 match iY N ai ops fr k with
 |some (.lookup t x ix false,_)=>match eW N fr ai x with
   |.map (some b)=>some (t,b,eW N fr ai ix)
   |_=>none
 |_=>none
def setAt (N:fL) (ai:Nat->Value) (ops:Array Oper) (fr:Fr) (k:Nat):Option (TypeId×Nat×Value×Value):=
 match iY N ai ops fr k with
 |some (.mapUpdate t x ix y,_)=>match eW N fr ai x with
   |.map (some b)=>some (t,b,eW N fr ai ix,eW N fr ai y)
   |_=>none
 |_=>none
def UZ (N:fL) (ai:Nat->Value) (ops:Array Oper) (fr:Fr) (k:Nat):Option (TypeId×TypeId×Nat×Value):=
 match iY N ai ops fr k with
 |some (.call ⟨.builtin .delete,xs,ts⟩,_)=>match xs.toList with
   |[x,ix]=>match ts.toList with
     |[t,K]=>match eW N fr ai x with
       |.map (some b)=>some (t,K,b,eW N fr ai ix)
       |_=>none
     |_=>none
   |_=>none
 |_=>none
def Qa (L:HL):Option Th->Value
 |none=>.nilIface
 |some t=>iB L t
section rules
variable {β:Bs} {N:fL} {ops:Array Oper} {k x:Nat} {fr:Fr} {au:List HP} {Q:Post} {O:dZ} {L:HL} {name:ByteArray} {r:Option Th} {t:Th}
theorem Dp {ai:Nat->Value} {op:Op} {d:Option Tmp} (h:iY N ai ops fr k=some (op,d)):d=jE ops k:=by
 grind [iU,jE]
theorem Qb {P:Program} {ai:Nat->Value} {ad:Addr} {u:Value} (h:Kh P N ai ops fr k=some (ad,u)):∃T a y,iY N ai ops fr k=some (.store T a y,jE ops k)/\(P.info? T).map (·.size)=some 1/\eW N fr ai a=.pointer (some ad)/\eW N fr ai y=u:=by
 grind [Kh,Dp]
theorem vR {ai:Nat->Value} {T:TypeId} {b:Nat} {key:Value} (h:Ki N ai ops fr k=some (T,b,key)):∃a y,iY N ai ops fr k=some (.lookup T a y false,jE ops k)/\eW N fr ai a=.map (some b)/\eW N fr ai y=key:=by
 grind [Ki,Dp]
theorem aaj {ai:Nat->Value} {T:TypeId} {b:Nat} {key u:Value} (h:setAt N ai ops fr k=some (T,b,key,u)):∃a y z,iY N ai ops fr k=some (.mapUpdate T a y z,jE ops k)/\eW N fr ai a=.map (some b)/\eW N fr ai y=key/\eW N fr ai z=u:=by
 grind [setAt,Dp]
theorem Xe {P:Program} {T:TypeId} {a y:Operand} {o:Oper} {ev:Operand->Value} {w:World} {ad:Addr} {u v0:Value} (ho:o.op=.store T a y) (hT:(P.info? T).map (·.size)=some 1) (ha:ev a=.pointer (some ad)) (hy:ev y=u) (hu:u.oneCell'=true) (hc:w.cell? ad=some v0) (hf:w.frozen? ad=false) (hs:ad.spot=none):tv P ev o w undef (w.setCell ad u):=by
 obtain⟨inf,hi,eG⟩:∃inf,P.info? T=some inf/\inf.size=1:=by
  cases h:P.info? T with
  |none=>rw [h] at hT;cases hT
  |some inf=>rw [h] at hT;exact⟨inf,rfl,by simpa using hT⟩
 have h3:=s5 hi w
 rw [eG] at h3
 obtain⟨dst,op,type,pos,after,guard⟩:=o
 obtain⟨bk,off,spot⟩:=ad
 simp only at hs
 subst hs
 cases ho
 refine .inr ⟨rfl,?_⟩
 cases u<;>first
  |(simp [Value.oneCell'] at hu;done)
  |(simp only [execOp,ha,hy];simp [go_sem,Instr.storeAt,Instr.sureAddr,storeVar,h3,Value.cells,storeCells,store,Addr.add,Sem.run,hc,hf])
theorem oSt (i:Nat) (js:List (Nat×Nat)) (x j:Nat) (f:bJ->bJ) (u:Value) {kd:Int} (hk:(af O x).kind=kd)
 (K:∀O2,O2=aX O x f->ar Tryz.prog β N ops (k+1) (eT fr (jE ops k) undef) ((tZ au (xB O2 L js)).set i (.abs (aW (eE O2 L)))) Q)
 (hp:au[i]?=some (.abs (aW (eE O L)))) (hj:Cn au O L js)
 (ho:∀ai,Kh Tryz.prog N ai ops fr k=some (⟨L.b x,j,none⟩,u))
 (hn:qh 0 (js.map (·.2))=false) (h0:kd≠0) (hc:mh L x (f (af O x))=(mh L x (af O x)).set j u) (hu:u.oneCell'=true) (h9:j<(mh L x (af O x)).length)
 (he:(f (af O x)).ah=(af O x).ah) (hd:(f (af O x)).data=(af O x).data) (Co:(f (af O x)).kind=(af O x).kind):ar Tryz.prog β N ops k fr au Q:=by
 obtain⟨T,a,y,h1,h2,h3,h4⟩:=Qb (ho (λ_=>undef))
 intro ai w hS
 obtain⟨T,a,y,h1,h2,h3,h4⟩:=Qb (ho ai)
 obtain⟨o,g1,g2,g3,g4⟩:=iU h1
 have hx0:(af O x).kind≠0:=by rw [hk];exact h0
 have Qc:tZ au (xB (aX O x f) L js)=au:=Dn (p:=0) (λq hq=>by
  match q,hq with
  |0,hq=>exact ain rfl hq
  |1,_=>exact ail (λR=>HP.abs (aW R)) (ud he Co)
  |q+2,_=>exact ail (λR=>HP.abs (aW R)) (t8 hd Co)) hj hn
 have hcell:∃v0,(mh L x (af O x))[j]?=some v0:=nj h9
 obtain⟨v0,hv0⟩:=hcell
 obtain⟨F,hF⟩:=hS.get hp
 obtain⟨G,hG⟩:=aW.at x hF
 have hG2:=hG
 rw [sA hx0] at hG2
 obtain⟨hb,_⟩:=hG2
 obtain⟨c1,c2⟩:=lQ (a:=⟨L.b x,j,none⟩) hb rfl rfl hv0
 have zn:aR β (au.set i (.abs (aW (eE (aX O x f) L)))) (w.setCell ⟨L.b x,j,none⟩ (u)):=hS.set hp (λF hF=>aW.step (k:=x) (show (aW (eE O L)).h F w from hF) (λy hy=>Di hy) (λG hG=>by
  rw [sA hx0] at hG
  rw [Dh,aij (by rw [Co];exact hx0),hc,Co]
  exact Ak hG rfl rfl))
 rw [drop_cons g1]
 unfold wpList
 rw [ia,aik g2]
 refine .inl (qD (v:=undef) (w':=w.setCell ⟨L.b x,j,none⟩ (u)) (by rw [jb];grind [Xe]) ?_)
 rw [ij]
 have hK:=K _ rfl ai _ (by rw [Qc];exact zn)
 rw [←g4] at hK
 exact hK
theorem Bp (i:Nat) (js:List (Nat×Nat)) (x j:Nat) (f:bJ->bJ) {kd:Int} (hk:(af O x).kind=kd)
 (K:∀O2,O2=aX O x f->ar Tryz.prog β N ops (k+1) (eT fr (jE ops k) undef) ((tZ au (xB O2 L js)).set i (.abs (aW (eE O2 L)))) Q)
 (hp:au[i]?=some (.abs (aW (eE O L))):=by rfl) (hj:Cn au O L js:=by first|exact⟨rfl,trivial⟩|exact⟨rfl,rfl,trivial⟩|exact trivial)
 (ho:∀ai,Kh Tryz.prog N ai ops fr k=some (⟨L.b x,j,none⟩,(Gr (f (af O x))).getD j undef):=by intro _;kernel_rfl)
 (hn:qh 0 (js.map (·.2))=false:=by rfl) (h0:kd≠0:=by decide) (hc:mh L x (f (af O x))=(mh L x (af O x)).set j ((Gr (f (af O x))).getD j undef):=by rfl) (hu:((Gr (f (af O x))).getD j undef).oneCell'=true:=by rfl) (h9:Nat.blt j 9=true:=by rfl)
 (he:(f (af O x)).ah=(af O x).ah:=by rfl) (hd:(f (af O x)).data=(af O x).data:=by rfl) (Co:(f (af O x)).kind=(af O x).kind:=by rfl):ar Tryz.prog β N ops k fr au Q:=
 oSt i js x j f _ hk K hp hj ho hn h0 hc hu (aiG (show j<9 by simpa [Nat.blt_eq] using h9) (by unfold mh Gr;simp)) he hd Co
theorem uSt (i:Nat) (js:List (Nat×Nat)) (x:Nat) (y:Option Nat) (hk:(af O x).kind=2)
 (K:∀O2,O2=aX O x (λo=>{o with up:=y})->ar Tryz.prog β N ops (k+1) (eT fr (jE ops k) undef) ((tZ au (xB O2 L js)).set i (.abs (aW (eE O2 L)))) Q)
 (hp:au[i]?=some (.abs (aW (eE O L))):=by rfl) (hj:Cn au O L js:=by first|exact⟨rfl,trivial⟩|exact⟨rfl,rfl,trivial⟩|exact trivial)
 (ho:∀ai,Kh Tryz.prog N ai ops fr k=some (⟨L.b x,10,none⟩,JQ L y):=by intro _;kernel_rfl) (hn:qh 0 (js.map (·.2))=false:=by rfl):ar Tryz.prog β N ops k fr au Q:=
 oSt i js x 10 (λo=>{o with up:=y}) (JQ L y) hk K hp hj ho hn Pd (by rw [sB (show ({af O x with up:=y}:bJ).kind=2 from hk),sB hk];rfl) (by cases y<;>rfl) (by rw [sB hk];exact aiM 10) rfl rfl rfl
theorem aR.acg {w:World} {i j:Nat} {f:bJ->bJ} {u:Value} (hS:aR β au w) (hp:au[i]?=some (.abs (aW (eE O L)))) (hx0:(af O x).kind≠0) (hc:mh L x (f (af O x))=(mh L x (af O x)).set j u) (Co:(f (af O x)).kind=(af O x).kind) (h9:j<(mh L x (af O x)).length) :
 aR β (au.set i (.abs (aW (eE (aX O x f) L)))) (w.setCell ⟨L.b x,j,none⟩ u)/\(∃v0,w.cell? ⟨L.b x,j,none⟩=some v0)/\w.frozen? ⟨L.b x,j,none⟩=false:=by
 obtain⟨v0,hv0⟩:=nj h9
 obtain⟨F,hF⟩:=hS.get hp
 obtain⟨G,hG⟩:=aW.at x (show (aW (eE O L)).h F w from hF)
 rw [sA hx0] at hG
 obtain⟨c1,c2⟩:=lQ (a:=⟨L.b x,j,none⟩) hG.1 rfl rfl hv0
 refine⟨hS.set hp (λF hF=>aW.step (k:=x) (show (aW (eE O L)).h F w from hF) (λy hy=>Di hy) (λG hG=>?_)),⟨v0,c1⟩,c2⟩
 rw [sA hx0] at hG
 rw [Dh,aij (by rw [Co];exact hx0),hc,Co]
 exact Ak hG rfl rfl
def Qd (P:Program) (N:fL) (ai:Nat->Value) (ops:Array Oper) (fr:Fr) (k:Nat):Option (Addr×Value):=
 match iY N ai ops fr k with
 |some (.store T a y,_)=>match (P.info? T).map (·.size) with
   |some 2=>match eW N fr ai a with
     |.pointer (some ad)=>some (ad,eW N fr ai y)
     |_=>none
   |_=>none
 |_=>none
theorem Xf {P:Program} {ai:Nat->Value} {ad:Addr} {u:Value} (h:Qd P N ai ops fr k=some (ad,u)):∃T a y,iY N ai ops fr k=some (.store T a y,jE ops k)/\(P.info? T).map (·.size)=some 2/\eW N fr ai a=.pointer (some ad)/\eW N fr ai y=u:=by
 grind [Qd,Dp]
theorem U0 {P:Program} {T:TypeId} {a y:Operand} {o:Oper} {ev:Operand->Value} {w:World} {b j:Nat} {z1 z2:Int} {v0 v1:Value} (ho:o.op=.store T a y) (hT:(P.info? T).map (·.size)=some 2) (ha:ev a=.pointer (some ⟨b,j,none⟩)) (hy:ev y=.agg #[.int .i64 z1,.int .i64 z2])
 (hc:w.cell? ⟨b,j,none⟩=some v0) (hf:w.frozen? ⟨b,j,none⟩=false) (hc1:(w.setCell ⟨b,j,none⟩ (.int .i64 z1)).cell? ⟨b,j+1,none⟩=some v1) (hf1:(w.setCell ⟨b,j,none⟩ (.int .i64 z1)).frozen? ⟨b,j+1,none⟩=false) :
 tv P ev o w undef ((w.setCell ⟨b,j,none⟩ (.int .i64 z1)).setCell ⟨b,j+1,none⟩ (.int .i64 z2)):=by
 obtain⟨inf,hi,eG⟩:∃inf,P.info? T=some inf/\inf.size=2:=by
  cases h:P.info? T with
  |none=>rw [h] at hT;cases hT
  |some inf=>rw [h] at hT;exact⟨inf,rfl,by simpa using hT⟩
 have h3:=s5 hi w
 rw [eG] at h3
 obtain⟨dst,op,type,pos,after,guard⟩:=o
 cases ho
 refine .inr ⟨rfl,?_⟩
 simp only [execOp,ha,hy]
 simp [go_sem,Instr.storeAt,Instr.sureAddr,storeVar,h3,Value.cells,storeCells,store,Addr.add,Sem.run,hc,hf,hc1,hf1]
theorem Xg (i:Nat) (js:List (Nat×Nat)) (x:Nat) (z1 z2:Int) {kd:Int} (hk:(af O x).kind=kd)
 (K:∀O2,O2=aX O x (λo=>{o with aT:=z1,aJ:=z2})->ar Tryz.prog β N ops (k+1) (eT fr (jE ops k) undef) ((tZ au (xB O2 L js)).set i (.abs (aW (eE O2 L)))) Q)
 (hp:au[i]?=some (.abs (aW (eE O L))):=by rfl) (hj:Cn au O L js:=by first|exact⟨rfl,trivial⟩|exact⟨rfl,rfl,trivial⟩|exact trivial)
 (ho:∀ai,Qd Tryz.prog N ai ops fr k=some (⟨L.b x,4,none⟩,.agg #[.int .i64 z1,.int .i64 z2]):=by intro _;kernel_rfl)
 (hn:qh 0 (js.map (·.2))=false:=by rfl) (h0:kd≠0:=by decide):ar Tryz.prog β N ops k fr au Q:=by
 intro ai w hS
 obtain⟨T,a,y,h1,h2,h3,h4⟩:=Xf (ho ai)
 obtain⟨o,g1,g2,g3,g4⟩:=iU h1
 have hx0:(af O x).kind≠0:=by rw [hk];exact h0
 have Qc:tZ au (xB (aX O x (λo=>{o with aT:=z1,aJ:=z2})) L js)=au:=Dn (p:=0) (λq hq=>by
  match q,hq with
  |0,hq=>exact ain rfl hq
  |1,_=>exact ail (λR=>HP.abs (aW R)) (ud rfl rfl)
  |q+2,_=>exact ail (λR=>HP.abs (aW R)) (t8 rfl rfl)) hj hn
 have jD:∀o:bJ,9<=(mh L x o).length:=λo=>by unfold mh Gr;simp
 obtain⟨s1,⟨v0,c1⟩,f1⟩:=hS.acg (x:=x) (j:=4) (f:=λo=>{o with aT:=z1}) (u:=.int .i64 z1) hp hx0 rfl rfl (by have:=jD (af O x);omega)
 have hi:i<au.length:=dO hp
 have e1:af (aX O x (λo=>{o with aT:=z1})) x={af O x with aT:=z1}:=fq
 obtain⟨s2,⟨v1,c2⟩,f2⟩:=s1.acg (x:=x) (j:=5) (f:=λo=>{o with aJ:=z2}) (u:=.int .i64 z2) (i:=i) (O:=aX O x (λo=>{o with aT:=z1})) (by rw [List.getElem?_set,aik rfl,aik hi]) (by rw [e1];exact hx0) rfl rfl Pe
 rw [List.set_set,BU] at s2
 rw [drop_cons g1]
 unfold wpList
 rw [ia,aik g2]
 refine .inl (qD (v:=undef) (w':=_) (by rw [jb];exact U0 g3 h2 h3 h4 c1 f1 c2 f2) ?_)
 rw [ij]
 have hK:=K _ rfl ai _ (by rw [Qc];exact s2)
 rw [←g4] at hK
 exact hK
theorem GH {w:World} {i:Nat} (hS:aR β au w) (hp:au[i]?=some (.abs (aW (fZ O L)))) (hd:(af O x).kind=2):kI Tryz.prog 9 w (L.m x) (nS L (af O x).ah) (af O x).ah.length:=by
 obtain⟨F,hF⟩:=hS.get hp
 obtain⟨G,hG⟩:=aW.at x (show (aW (fZ O L)).h F w from hF)
 rw [vJ hd] at hG
 exact hG.1
theorem Tl {w:World} {i:Nat} {o:Oper} {ev:Operand->Value} {a y:Operand} (hS:aR β au w) (hp:au[i]?=some (.abs (aW (fZ O L)))) (hd:(af O x).kind=2) (hl:bK name (af O x).ah=r) (h3:o.op=.lookup 145 a y false) (ha:ev a=.map (some (L.m x))) (hy:ev y=.string name) (eG:name.size<=1048576):tv Tryz.prog ev o w (Qa L r) w:=by
 have h:=DE (z:=.nilIface) h3 (GH hS hp hd) ha hy Iw Tryz.underlying145 KB (Ln zc)
 rw [zV,hl] at h
 cases r<;>exact h
theorem nI (i:Nat) (hd:(af O x).kind=2) (hl:bK name (af O x).ah=r) (K:ar Tryz.prog β N ops (k+1) (eT fr (jE ops k) (Qa L r)) au Q) (hp:au[i]?=some (.abs (aW (fZ O L))):=by rfl)
 (ho:∀ai,Ki N ai ops fr k=some (145,L.m x,.string name):=by intro _;kernel_rfl) (eG:name.size<=1048576:=by omega):ar Tryz.prog β N ops k fr au Q:=by
 intro ai w hS
 obtain⟨a,y,h1,h2,h3⟩:=vR (ho ai)
 exact ar.oh (eX:=au) (v:=Qa L r) (d:=jE ops k) (op:=.lookup 145 a y false) (λj=>by
  obtain⟨a',y',h1',_,_⟩:=vR (ho j)
  obtain⟨o,g1,g2,g3,g4⟩:=iU h1
  obtain⟨o',Cp,g2',Dq,g4'⟩:=iU h1'
  rw [g1] at Cp
  cases Cp
  rw [g3] at Dq
  cases Dq
  exact h1') (λo ai w ho' hS=>by
  obtain⟨a',y',h1',h2',h3'⟩:=vR (ho ai)
  obtain⟨o1,g1,g2,g3,g4⟩:=iU h1
  obtain⟨o',Cp,g2',Dq,g4'⟩:=iU h1'
  rw [g1] at Cp
  cases Cp
  rw [g3] at Dq
  cases Dq
  exact⟨w,Tl hS hp hd hl ho' h2' h3' eG,hS⟩) K ai w hS
theorem zo (i:Nat) (hd:(af O x).kind=2) (hl:bK name (af O x).ah=r) (K:bN Tryz.prog β N ops (k+1) (eT fr (jE ops k) (Qa L r)) au Q) (hp:au[i]?=some (.abs (aW (fZ O L))):=by rfl)
 (ho:∀ai,Ki N ai ops fr k=some (145,L.m x,.string name):=by intro _;kernel_rfl) (eG:name.size<=1048576:=by omega):bN Tryz.prog β N ops k fr au Q:=by
 intro ai
 obtain⟨a,y,h1,h2,h3⟩:=vR (ho ai)
 exact bN.oh (v:=Qa L r) (d:=jE ops k) (op:=.lookup 145 a y false) (λj=>by
  obtain⟨a',y',h1',_,_⟩:=vR (ho j)
  obtain⟨o,g1,g2,g3,g4⟩:=iU h1
  obtain⟨o',Cp,g2',Dq,g4'⟩:=iU h1'
  rw [g1] at Cp
  cases Cp
  rw [g3] at Dq
  cases Dq
  exact h1') (λo ai w ho' hS=>by
  obtain⟨a',y',h1',h2',h3'⟩:=vR (ho ai)
  obtain⟨o1,g1,g2,g3,g4⟩:=iU h1
  obtain⟨o',Cp,g2',Dq,g4'⟩:=iU h1'
  rw [g1] at Cp
  cases Cp
  rw [g3] at Dq
  cases Dq
  exact Tl hS hp hd hl ho' h2' h3' eG) K ai
def U1 (N:fL) (ai:Nat->Value) (ops:Array Oper) (fr:Fr) (k:Nat):Option (TypeId×Nat):=
 match iY N ai ops fr k with
 |some (.call ⟨.builtin .len,xs,ts⟩,_)=>match xs.toList with
   |[x]=>match ts.toList with
     |[t]=>match eW N fr ai x with
       |.map (some b)=>some (t,b)
       |_=>none
     |_=>none
   |_=>none
 |_=>none
theorem IZ {ai:Nat->Value} {T:TypeId} {b:Nat} (h:U1 N ai ops fr k=some (T,b)):∃a,iY N ai ops fr k=some (.call ⟨.builtin .len,#[a],#[T]⟩,jE ops k)/\eW N fr ai a=.map (some b):=by
 unfold U1 at h
 repeat' split at h
 all_goals first|(cases h;done)|skip
 rename_i xs ts d h0 _ a h1 _ t' h2 _ b' h3
 cases h
 have:=Dp h0
 subst this
 refine⟨a,?_,h3⟩
 rw [h0]
 obtain⟨xs⟩:=xs
 obtain⟨ts⟩:=ts
 cases h1
 cases h2
 rfl
theorem eNk (i:Nat) (hd:(af O x).kind=2) (K:ar Tryz.prog β N ops (k+1) (eT fr (jE ops k) (.int .i64 (((af O x).ah.length:Nat):Int))) au Q) (hp:au[i]?=some (.abs (aW (fZ O L))):=by rfl)
 (ho:∀ai,U1 N ai ops fr k=some (145,L.m x):=by intro _;kernel_rfl):ar Tryz.prog β N ops k fr au Q:=by
 obtain⟨a,h1,h2⟩:=IZ (ho (λ_=>undef))
 obtain⟨o,g1,g2,g3,g4⟩:=iU h1
 refine ar.oh (eX:=au) (v:=.int .i64 (((af O x).ah.length:Nat):Int)) (d:=jE ops k) (op:=o.op) (λj=>?_) (λo' ai w ho' hS=>?_) K
 ·obtain⟨a',h1',_⟩:=IZ (ho j)
  grind [iU]
 obtain⟨a',h1',h2'⟩:=IZ (ho ai)
 obtain⟨o1,Cp,g2',Dq,g4'⟩:=iU h1'
 rw [g1] at Cp
 cases Cp
 exact⟨w,Gl (ho'.trans Dq) rfl (GH hS hp hd) h2' Tryz.underlying145,hS⟩
theorem eSt (i:Nat) (js:List (Nat×Nat)) {t:Th} (hd:(af O x).kind=2) (iV:bK name (af O x).ah=none)
 (K:∀O2,O2=aX O x (λo=>{o with ah:=kZ name t o.ah})->ar Tryz.prog β N ops (k+1) (eT fr (jE ops k) undef) ((tZ au (xB O2 L js)).set i (.abs (aW (fZ O2 L)))) Q)
 (hp:au[i]?=some (.abs (aW (fZ O L))):=by rfl) (hj:Cn au O L js:=by first|exact⟨rfl,trivial⟩|exact⟨rfl,rfl,trivial⟩|exact trivial)
 (ho:∀ai,setAt N ai ops fr k=some (145,L.m x,.string name,iB L t):=by intro _;kernel_rfl) (hn:qh 1 (js.map (·.2))=false:=by rfl) (eG:name.size<=1048576:=by omega) (hel:(af O x).ah.length<=1048576:=by omega):ar Tryz.prog β N ops k fr au Q:=by
 intro ai w hS
 obtain⟨a,y,z,h1,h2,h3,h4⟩:=aaj (ho ai)
 obtain⟨o,g1,g2,g3,g4⟩:=iU h1
 have Qc:tZ au (xB (aX O x (λo=>{o with ah:=kZ name t o.ah})) L js)=au:=Dn (p:=1) (λq hq=>by
  match q,hq with
  |0,_=>exact ail (λR=>HP.abs (aW R)) (Pq (es:=λo=>kZ name t o.ah))
  |1,hq=>exact ain rfl hq
  |q+2,_=>exact ail (λR=>HP.abs (aW R)) (t8 rfl rfl)) hj hn
 obtain⟨w',m1,m2,m3⟩:=(GH hS hp hd).store Iw Tryz.underlying145 (by unfold maxLen;omega) (Ln (p:=name) zc) (iB L t)
 have e1:(nS L (af O x).ah) (.string name.data.toList)=none:=by rw [zV,iV];rfl
 rw [e1,Zx iV] at m2
 have zn:aR β (au.set i (.abs (aW (fZ (aX O x (λo=>{o with ah:=kZ name t o.ah})) L)))) w':=hS.set hp (λF hF=>aW.step (k:=x) (show (aW (fZ O L)).h F w from hF) (λy hy=>Fb hy) (λG hG=>by
  rw [vJ hd] at hG
  rw [vJ (by rw [fq];exact hd),fq,Pp]
  exact step_map hG m2 m3))
 rw [drop_cons g1]
 unfold wpList
 rw [ia,aik g2]
 refine .inl (qD (v:=undef) (w':=w') (by
  rw [jb]
  refine .inr ⟨rfl,?_⟩
  obtain⟨dst,op,type,pos,after,guard⟩:=o
  cases g3
  simp only [execOp,h2,h3,h4]
  simp [go_sem,m1]) ?_)
 rw [ij]
 have hK:=K _ rfl ai _ (by rw [Qc];exact zn)
 rw [←g4] at hK
 exact hK
theorem aak {ai:Nat->Value} {T K0:TypeId} {b:Nat} {key:Value} (h:UZ N ai ops fr k=some (T,K0,b,key)):∃a y,iY N ai ops fr k=some (.call ⟨.builtin .delete,#[a,y],#[T,K0]⟩,jE ops k)/\eW N fr ai a=.map (some b)/\eW N fr ai y=key:=by
 unfold UZ at h
 repeat' split at h
 all_goals first|(cases h;done)|skip
 rename_i xs ts d h0 _ a y h1 _ t' K' h2 _ b' h3
 cases h
 have:=Dp h0
 subst this
 refine⟨a,y,?_,h3,rfl⟩
 rw [h0]
 obtain⟨xs⟩:=xs
 obtain⟨ts⟩:=ts
 cases h1
 cases h2
 rfl
theorem eDl (i:Nat) (js:List (Nat×Nat)) {t:Th} (hd:(af O x).kind=2) (Ed:bK name (af O x).ah=some t) (hnt:qx (af O x).ah)
 (K:∀O2,O2=aX O x (λo=>{o with ah:=kS name o.ah})->ar Tryz.prog β N ops (k+1) (eT fr (jE ops k) (.tuple #[])) ((tZ au (xB O2 L js)).set i (.abs (aW (fZ O2 L)))) Q)
 (hp:au[i]?=some (.abs (aW (fZ O L))):=by rfl) (hj:Cn au O L js:=by first|exact⟨rfl,trivial⟩|exact⟨rfl,rfl,trivial⟩|exact trivial)
 (ho:∀ai,UZ N ai ops fr k=some (145,9,L.m x,.string name):=by intro _;kernel_rfl) (hn:qh 1 (js.map (·.2))=false:=by rfl) (eG:name.size<=1048576:=by omega):ar Tryz.prog β N ops k fr au Q:=by
 intro ai w hS
 obtain⟨a,y,h1,h2,h3⟩:=aak (ho ai)
 obtain⟨o,g1,g2,g3,g4⟩:=iU h1
 have Qc:tZ au (xB (aX O x (λo=>{o with ah:=kS name o.ah})) L js)=au:=Dn (p:=1) (λq hq=>by
  match q,hq with
  |0,_=>exact ail (λR=>HP.abs (aW R)) (Pq (es:=λo=>kS name o.ah))
  |1,hq=>exact ain rfl hq
  |q+2,_=>exact ail (λR=>HP.abs (aW R)) (t8 rfl rfl)) hj hn
 obtain⟨w',m1,m2,m3⟩:=(GH hS hp hd).drop Iw Tryz.underlying145 (Ln (p:=name) zc) o.type
 have e1:(nS L (af O x).ah) (.string name.data.toList)=some (iB L t):=by rw [zV,Ed];rfl
 rw [e1,Zy] at m2
 have jD:=Zv hnt Ed
 have zn:aR β (au.set i (.abs (aW (fZ (aX O x (λo=>{o with ah:=kS name o.ah})) L)))) w':=hS.set hp (λF hF=>aW.step (k:=x) (show (aW (fZ O L)).h F w from hF) (λy hy=>Fb hy) (λG hG=>by
  rw [vJ hd] at hG
  rw [vJ (by rw [fq];exact hd),fq]
  rw [show (kS name (af O x).ah).length=(af O x).ah.length-1 by omega]
  exact step_map hG m2 m3))
 rw [drop_cons g1]
 unfold wpList
 rw [ia,aik g2]
 refine .inl (qD (v:=.tuple #[]) (w':=w') (by
  rw [jb]
  refine .inl ?_
  obtain⟨dst,op,type,pos,after,guard⟩:=o
  cases g3
  simp only [execOp,resolve,invoke,builtin]
  simp [go_sem,h2,h3,m1]) ?_)
 rw [ij]
 have hK:=K _ rfl ai _ (by rw [Qc];exact zn)
 rw [←g4] at hK
 exact hK
end rules
section after
variable {O O2:dZ} {j x:Nat} {f:bJ->bJ} {kd:Int}
theorem ku (e:O2=aX O j f) (h:(af O x).kind=kd) (hf:∀o,(f o).kind=o.kind:=by intro _;rfl):(af O2 x).kind=kd:=by subst e;exact (pV hf).trans h
theorem fu {α:Type} (g:bJ->α) {v:α} (e:O2=aX O j f) (h:g (af O x)=v) (hf:∀o,g (f o)=g o:=by intro _;rfl):g (af O2 x)=v:=by subst e;exact (ez hf).trans h
end after
end
section
open Go.RowKit Go.Maps
attribute [local irreducible] ar bN ak ay
theorem fW {β:Bs} (b:Nat):aU Tryz.prog β 245 #[vP b] [] (λv l=>v=vP b/\l=[]):=by
 exact SE Tryz.func245 Tryz.ntmps245 (λR=>SR (jK 1 [] [] (NS (jK 2 [2] [] (eN ⟨rfl,rfl⟩)))))
theorem tP {β:Bs} (a:Value):aU Tryz.prog β 244 #[a] [] (λv l=>v=vI 1/\l=[]):=by
 exact SE Tryz.func244 Tryz.ntmps244 (λR=>SR (jK 1 [] [] (NS (jK 1 [2] [] (eN ⟨rfl,rfl⟩)))))
theorem tQ {β:Bs} (a:Value):aU Tryz.prog β 247 #[a] [] (λv l=>v=vI 2/\l=[]):=by
 exact SE Tryz.func247 Tryz.ntmps247 (λR=>SR (jK 1 [] [] (NS (jK 1 [2] [] (eN ⟨rfl,rfl⟩)))))
theorem vo {β:Bs} (a:Value):aU Tryz.prog β 246 #[a] [] (λv l=>v=vI 3/\l=[]):=by
 exact SE Tryz.func246 Tryz.ntmps246 (λR=>SR (jK 1 [] [] (NS (jK 1 [2] [] (eN ⟨rfl,rfl⟩)))))
theorem Tm {β:Bs} (O:dZ) (L:HL) (d:Nat) (dP:(af O d).kind=2) (name:ByteArray) (eG:name.size<=1048576) (iV:bK name (af O d).ah=none) (hel:(af O d).ah.length<=1048576) (t:Th) (bA:(af O t.k).kind=t.kind) (h3:t.kind=1\/t.kind=2\/t.kind=3) (hb:0<=(af O t.k).aS/\(af O t.k).aS<=1048576) :
 aU Tryz.prog β 65 #[vP (L.b d),.string name,(iB L t)] [.abs (aW (eE O L)),.abs (aW (fZ O L))] (λv l=>v=.tuple #[]/\l=[.abs (aW (eE (vk O d name t) L)),.abs (aW (fZ (vk O d name t) L))]):=by
 refine SE Tryz.func65 Tryz.ntmps65 (λR=>ak.seq ?_)
 obtain⟨tk,kd⟩:=t;simp only at bA h3;rcases h3 with rfl|rfl|rfl
 ·replace bA:(af O tk).kind=1:=bA
  replace hb:0<=(af O tk).aS/\(af O tk).aS<=1048576:=hb
  refine ak.region (jK 6 [11,12,13] [(3,v_ 0 (dx L dP))] (eSt 1 [(0,0)] (t:=⟨tk,1⟩) dP iV (λgS fI=>?_)))
  have qv:=ku fI dP
  have tS:=ku fI bA
  have hf3:(af gS tk).aS=(af O tk).aS:=fu bJ.aS fI rfl
  refine NS (jK 1 [14] [] (gE [] (fW (L.b tk)) (jK 6 [19,21] [(2,v_ 0 (uh L tS)),(3,wJ ((af gS tk).aS+1) ((af gS tk).aS+1))] (Bp 0 [(1,1)] tk 6 (λo=>{o with aS:=o.aS+1}) tS (λjT gq=>?_)))))
  have FC:=ku gq qv
  have FD:=ku gq tS
  exact NS (jK 7 [6,7] [] (NS (jK 1 [27] [] (NF (ak.skip (RF (l:=[.abs (aW (eE jT L)),.abs (aW (fZ jT L))]) (.tuple #[]) [0,1,2] (⟨rfl,by subst gq;subst fI;rfl⟩)))))))
 ·replace bA:(af O tk).kind=2:=bA
  replace hb:0<=(af O tk).aS/\(af O tk).aS<=1048576:=hb
  refine ak.region (jK 6 [11,12,13] [(3,v_ 0 (dx L dP))] (eSt 1 [(0,0)] (t:=⟨tk,2⟩) dP iV (λgS fI=>?_)))
  have aal:=ku fI dP
  have U2:=ku fI bA
  have hf8:(af gS tk).aS=(af O tk).aS:=fu bJ.aS fI rfl
  refine NS (jK 1 [14] [] (gE [] (fW (L.b tk)) (jK 6 [19,21] [(2,v_ 0 (uh L U2)),(3,wJ ((af gS tk).aS+1) ((af gS tk).aS+1))] (Bp 0 [(1,1)] tk 6 (λo=>{o with aS:=o.aS+1}) U2 (λjT gq=>?_)))))
  have LY:=ku gq aal
  have U3:=ku gq U2
  refine NS (jK 7 [6,7] [] (NS (jK 1 [27] [] (NT (ak.region (jK 4 [29,31] [] (uSt 0 [(1,1)] tk (some d) U3 (λDr tu=>?_))))))))
  have ach:=ku tu LY
  have ahJ:=ku tu U3
  exact NL (RF (l:=[.abs (aW (eE Dr L)),.abs (aW (fZ Dr L))]) (.tuple #[]) [0,1,2] (⟨rfl,by subst tu;subst gq;subst fI;rfl⟩))
 replace bA:(af O tk).kind=3:=bA
 replace hb:0<=(af O tk).aS/\(af O tk).aS<=1048576:=hb
 refine ak.region (jK 6 [11,12,13] [(3,v_ 0 (dx L dP))] (eSt 1 [(0,0)] (t:=⟨tk,3⟩) dP iV (λgS fI=>?_)))
 have agk:=ku fI dP
 have U4:=ku fI bA
 have ah2:(af gS tk).aS=(af O tk).aS:=fu bJ.aS fI rfl
 refine NS (jK 1 [14] [] (gE [] (fW (L.b tk)) (jK 6 [19,21] [(2,v_ 0 (uh L U4)),(3,wJ ((af gS tk).aS+1) ((af gS tk).aS+1))] (Bp 0 [(1,1)] tk 6 (λo=>{o with aS:=o.aS+1}) U4 (λjT gq=>?_)))))
 have Kj:=ku gq agk
 have agl:=ku gq U4
 exact NS (jK 7 [6,7] [] (NS (jK 1 [27] [] (NF (ak.skip (RF (l:=[.abs (aW (eE jT L)),.abs (aW (fZ jT L))]) (.tuple #[]) [0,1,2] (⟨rfl,by subst gq;subst fI;rfl⟩)))))))
theorem nQ {β:Bs} (X:FM) (f m t:Nat) (hX:0<=X.ah/\X.ah<=1048576/\-1125899906842624<=X.used/\X.used<=1125899906842624/\0<=X.last/\X.last<=1125899906842624) (O:dZ) (L:HL) (d:Nat) (dP:(af O d).kind=2) (name:ByteArray) (eG:name.size<=1048576) (iV:bK name (af O d).ah=none) (hel:(af O d).ah.length<=1048576) (th:Th) (bA:(af O th.k).kind=th.kind) (h3:th.kind=1\/th.kind=2\/th.kind=3) (hb:0<=(af O th.k).aS/\(af O th.k).aS<=1048576) :
 aU Tryz.prog β 208 #[vP f,vP (L.b d),.string name,(iB L th)] [.ax f [vI (X.cN),vI (X.cB),vI (X.cH),vI (X.cS),vI (X.cZ),.map (some m),vP t,vI (X.last),vI (X.ah),vI (X.used)] 135,.abs (aW (eE O L)),.abs (aW (fZ O L))] (λv l=>v=.tuple #[]/\l=[.ax f [vI (X.cN),vI (X.cB),vI (X.cH),vI (X.cS),vI (X.cZ),.map (some m),vP t,vI (X.last),vI (X.ah+1),vI (X.used)] 135,.abs (aW (eE (dg X O d name th) L)),.abs (aW (fZ (dg X O d name th) L))]):=by
 refine SE Tryz.func208 Tryz.ntmps208 (λR=>ak.seq ?_)
 skip
 refine ak.region (jK 3 [8,9,10] [] (gE [1,2] (Tm O L d dP name eG iV hel th bA h3 hb) (NS ?_)))
 have Kk:(af (vk O d name th) d).kind=2:=(Ff).trans (dP)
 generalize fI:(vk O d name th)=gS at Kk ⊢
 refine jK 9 [17,20] [(5,A_ 2 f 2)] (Xg 0 [(1,1)] d X.cS X.cZ Kk (λjT gq=>?_))
 have ahK:=ku gq Kk
 exact NN (ak.region (jC 8 [] [(3,a_ 2 f),(4,wJ (X.ah+1) (X.ah+1)),(7,a_ 2 f)] [(2,[(8,vI (X.ah+1))])] (NL (RF (l:=[.ax f [vI (X.cN),vI (X.cB),vI (X.cH),vI (X.cS),vI (X.cZ),.map (some m),vP t,vI (X.last),vI (X.ah+1),vI (X.used)] 135,.abs (aW (eE jT L)),.abs (aW (fZ jT L))]) (.tuple #[]) [2,0,1,3] (⟨rfl,by subst gq;subst fI;rfl⟩)))))
theorem pG {β:Bs} (X:FM) (f m t:Nat) (hX:0<=X.ah/\X.ah<=1048576/\-1125899906842624<=X.used/\X.used<=1125899906842624/\0<=X.last/\X.last<=1125899906842624) (O:dZ) (L:HL) (d:Nat) (dP:(af O d).kind=2) (name:ByteArray) (eG:name.size<=1048576) (th:Th) (bA:(af O th.k).kind=th.kind) (h3:th.kind=1\/th.kind=2\/th.kind=3) (Ed:bK name (af O d).ah=some th) (hnt:qx (af O d).ah) (_:(af O d).ah.length<=1048576) (hb:0<=(af O th.k).aS/\(af O th.k).aS<=1048576) :
 aU Tryz.prog β 222 #[vP f,vP (L.b d),.string name] [.ax f [vI (X.cN),vI (X.cB),vI (X.cH),vI (X.cS),vI (X.cZ),.map (some m),vP t,vI (X.last),vI (X.ah),vI (X.used)] 135,.abs (aW (eE O L)),.abs (aW (fZ O L))] (λv l=>v=iB L th/\l=[.ax f [vI (X.cN),vI (X.cB),vI (X.cH),vI (X.cS),vI (X.cZ),.map (some m),vP t,vI (X.last),vI (X.ah-1),vI (X.used)] 135,.abs (aW (eE (bn X O d name th) L)),.abs (aW (fZ (bn X O d name th) L))]):=by
 refine SE Tryz.func222 Tryz.ntmps222 (λR=>ak.seq ?_)
 obtain⟨tk,kd⟩:=th;simp only at bA h3;rcases h3 with rfl|rfl|rfl
 ·replace bA:(af O tk).kind=1:=bA
  replace hb:0<=(af O tk).aS/\(af O tk).aS<=1048576:=hb
  refine ak.region (jK 1 [] [] (NS (jK 5 [11,12] [(3,v_ 1 (dx L dP))] (nI 2 dP Ed (jK 1 [7] [] (NS (jK 5 [17,18] [(3,v_ 1 (dx L dP))] (eDl 2 [(1,0)] dP Ed hnt (λgS fI=>?_)))))))))
  have aci:=ku fI dP
  have agm:=ku fI bA
  have ag1:(af gS tk).aS=(af O tk).aS:=fu bJ.aS fI rfl
  refine NS (jK 9 [24,27] [(5,A_ 0 f 2)] (Xg 1 [(2,1)] d X.cS X.cZ aci (λjT gq=>?_)))
  have acj:=ku gq aci
  have Ov:=ku gq agm
  have ah3:(af jT tk).aS=(af O tk).aS:=fu bJ.aS gq ag1
  refine NS (jC 8 [] [(3,a_ 0 f),(4,wJ (X.ah-1) (X.ah-1)),(7,a_ 0 f)] [(0,[(8,vI (X.ah-1))])] (NS (jK 1 [35] [] (gE [] (fW (L.b tk)) (jK 6 [40,42] [(2,v_ 1 (uh L Ov)),(3,wJ ((af jT tk).aS-1) ((af jT tk).aS-1))] (Bp 1 [(2,1)] tk 6 (λo=>{o with aS:=o.aS-1}) Ov (λDr tu=>?_)))))))
  have ahL:=ku tu acj
  have ahM:=ku tu Ov
  exact NS (jK 2 [6] [] (eN (l:=[.ax f [vI (X.cN),vI (X.cB),vI (X.cH),vI (X.cS),vI (X.cZ),.map (some m),vP t,vI (X.last),vI (X.ah-1),vI (X.used)] 135,.abs (aW (eE Dr L)),.abs (aW (fZ Dr L))]) (v:=(.iface 138 (vP (L.b tk)))) ⟨rfl,by subst tu;subst gq;subst fI;rfl⟩))
 ·replace bA:(af O tk).kind=2:=bA
  replace hb:0<=(af O tk).aS/\(af O tk).aS<=1048576:=hb
  refine ak.region (jK 1 [] [] (NS (jK 5 [11,12] [(3,v_ 1 (dx L dP))] (nI 2 dP Ed (jK 1 [7] [] (NS (jK 5 [17,18] [(3,v_ 1 (dx L dP))] (eDl 2 [(1,0)] dP Ed hnt (λgS fI=>?_)))))))))
  have ack:=ku fI dP
  have agn:=ku fI bA
  have ag2:(af gS tk).aS=(af O tk).aS:=fu bJ.aS fI rfl
  refine NS (jK 9 [24,27] [(5,A_ 0 f 2)] (Xg 1 [(2,1)] d X.cS X.cZ ack (λjT gq=>?_)))
  have agp:=ku gq ack
  have U5:=ku gq agn
  have ah4:(af jT tk).aS=(af O tk).aS:=fu bJ.aS gq ag2
  refine NS (jC 8 [] [(3,a_ 0 f),(4,wJ (X.ah-1) (X.ah-1)),(7,a_ 0 f)] [(0,[(8,vI (X.ah-1))])] (NS (jK 1 [35] [] (gE [] (fW (L.b tk)) (jK 6 [40,42] [(2,v_ 1 (uh L U5)),(3,wJ ((af jT tk).aS-1) ((af jT tk).aS-1))] (Bp 1 [(2,1)] tk 6 (λo=>{o with aS:=o.aS-1}) U5 (λDr tu=>?_)))))))
  have ahN:=ku tu agp
  have ahO:=ku tu U5
  exact NS (jK 2 [6] [] (eN (l:=[.ax f [vI (X.cN),vI (X.cB),vI (X.cH),vI (X.cS),vI (X.cZ),.map (some m),vP t,vI (X.last),vI (X.ah-1),vI (X.used)] 135,.abs (aW (eE Dr L)),.abs (aW (fZ Dr L))]) (v:=(.iface 144 (vP (L.b tk)))) ⟨rfl,by subst tu;subst gq;subst fI;rfl⟩))
 replace bA:(af O tk).kind=3:=bA
 replace hb:0<=(af O tk).aS/\(af O tk).aS<=1048576:=hb
 refine ak.region (jK 1 [] [] (NS (jK 5 [11,12] [(3,v_ 1 (dx L dP))] (nI 2 dP Ed (jK 1 [7] [] (NS (jK 5 [17,18] [(3,v_ 1 (dx L dP))] (eDl 2 [(1,0)] dP Ed hnt (λgS fI=>?_)))))))))
 have acn:=ku fI dP
 have agq:=ku fI bA
 have ag3:(af gS tk).aS=(af O tk).aS:=fu bJ.aS fI rfl
 refine NS (jK 9 [24,27] [(5,A_ 0 f 2)] (Xg 1 [(2,1)] d X.cS X.cZ acn (λjT gq=>?_)))
 have agr:=ku gq acn
 have U6:=ku gq agq
 have ah5:(af jT tk).aS=(af O tk).aS:=fu bJ.aS gq ag3
 refine NS (jC 8 [] [(3,a_ 0 f),(4,wJ (X.ah-1) (X.ah-1)),(7,a_ 0 f)] [(0,[(8,vI (X.ah-1))])] (NS (jK 1 [35] [] (gE [] (fW (L.b tk)) (jK 6 [40,42] [(2,v_ 1 (uh L U6)),(3,wJ ((af jT tk).aS-1) ((af jT tk).aS-1))] (Bp 1 [(2,1)] tk 6 (λo=>{o with aS:=o.aS-1}) U6 (λDr tu=>?_)))))))
 have ahP:=ku tu agr
 have ahQ:=ku tu U6
 exact NS (jK 2 [6] [] (eN (l:=[.ax f [vI (X.cN),vI (X.cB),vI (X.cH),vI (X.cS),vI (X.cZ),.map (some m),vP t,vI (X.last),vI (X.ah-1),vI (X.used)] 135,.abs (aW (eE Dr L)),.abs (aW (fZ Dr L))]) (v:=(.iface 141 (vP (L.b tk)))) ⟨rfl,by subst tu;subst gq;subst fI;rfl⟩))
end
section
open Go.RowKit Go.Maps bF aD
attribute [local irreducible] ar bN ak ay bZ
abbrev Xh (f:Nat) (X:FM) (m:Nat) (t):=(.ax f [vI (X.cN),vI (X.cB),vI (X.cH),vI (X.cS),vI (X.cZ),.map (some m),vP t,vI (X.last),vI (X.ah),vI (X.used)] 135:HP)
theorem aam {β:Bs} (X:FM) (f m t:Nat) (hX:0<=X.ah/\X.ah<=1048576/\-1125899906842624<=X.used/\X.used<=1125899906842624/\0<=X.last/\X.last<=1125899906842624) (O:dZ) (L:HL) (aq:bC Th) (Xi:aD.dH (aY aq)) (th:Th) (bA:(af O th.k).kind=th.kind) (h3:th.kind=1\/th.kind=2\/th.kind=3) (hg:(af O th.k).aE=true) (ho:(af O th.k).aK=0) (fC:aD.get aq (af O th.k).id=some th) (hw:(Lit.int .i64 (af O th.k).id).wf=true) (FE:(af O th.k).data.length<=1125899906842624) :
 aU Tryz.prog β 214 #[vP f,(iB L th)] [pO O L,pF f m t X,pI m L aq] (λv l=>v=.tuple #[]/\l=[pO O L,pF f m t {X with used:=if th.kind=1 then X.used-(af O th.k).data.length else X.used},pI m L (del (af O th.k).id aq)]):=by
 refine SE Tryz.func214 Tryz.ntmps214 (λR=>ak.seq ?_)
 obtain⟨tk,kd⟩:=th;simp only at bA h3;rcases h3 with rfl|rfl|rfl
 ·replace bA:(af O tk).kind=1:=bA
  replace hg:(af O tk).aE=true:=hg
  replace ho:(af O tk).aK=0:=ho
  replace fC:aD.get aq (af O tk).id=some _:=fC
  replace hw:(Lit.int .i64 (af O tk).id).wf=true:=hw
  have hdl:=xg Xi (get_some fC)
  replace FE:(af O tk).data.length<=1125899906842624:=FE
  exact ak.region (jK 1 [7] [] (gE [] (fW (L.b tk)) (jK 1 [4] [] (NZ (jK 6 [14] [(3,v_ 0 (uH L bA))] (ar.qb 14 (!(af O tk).aE) (λ_=>KB) (λmZ=>ain mZ (by simp [hg])) (λmZ=>jK 6 [20] [(3,v_ 0 (qy L bA))] (NN (cP (((af O tk).aK:Int)>(0:Int)) (λpQ=>ain pQ (by omega)) (λpQ=>KX (ak.seq (rM (List.range 9) 8 [0,1,2,3] (jR 8 [0,1,24,28] [(3,a_ 1 f),(7,v_ 0 (y9 L bA))] (bZ.last rfl rfl (ar.Jw 2 (d:=none) (t:=129) (K:=3) (E:=133) (b:=m) (n:=aq.length) (f:=(cQ (cV L aq))) (x:=(.tmp 24)) (ix:=(.tmp 28)) (key:=vI ((af O tk).id)) (kl:=(.int .i64 (af O tk).id)) (n':=(aq.length-1)) (f':=(cQ (cV L (del (af O tk).id aq)))) (ats:=#[129,3]) (λ_=>KB) KB (λ_=>KB) (λ_=>KB) rfl iZ Tryz.underlying129 (mP hw) (by rw [j8,fC];rfl) (Lx) (NL (ay.np (NX (SR (jK 7 [5,6] [] (NS (jK 1 [34] [] (NT (rM (List.range 13) 12 [0,1,2,3] (jR 12 [44,46] [(3,a_ 1 f),(7,v_ 0 (P9 L bA)),(9,wJ (X.used-(((af O tk).data.length:Nat):Int)) (X.used-(((af O tk).data.length:Nat):Int)))] (bZ.last rfl rfl (jC 1 [] [(0,a_ 1 f)] [(1,[(9,vI (X.used-(((af O tk).data.length:Nat):Int)))])] (NL (ay.np (ay.gA [(2,.abs (bM Tryz.prog 3 m (cQ (cV L (del (af O tk).id aq))) ((del (af O tk).id aq).length)))] (λw hS=>by rw [show (del (af O tk).id aq).length=aq.length-1 by omega];exact hS) (RF (.tuple #[]) [0,1,2,3] (⟨rfl,rfl⟩))))))))))))))))))))))))))))))))
 ·replace bA:(af O tk).kind=2:=bA
  replace hg:(af O tk).aE=true:=hg
  replace ho:(af O tk).aK=0:=ho
  replace fC:aD.get aq (af O tk).id=some _:=fC
  replace hw:(Lit.int .i64 (af O tk).id).wf=true:=hw
  have hdl:=xg Xi (get_some fC)
  replace FE:(af O tk).data.length<=1125899906842624:=FE
  exact ak.region (jK 1 [7] [] (gE [] (fW (L.b tk)) (jK 1 [4] [] (NZ (jK 6 [14] [(3,v_ 0 (uH L bA))] (ar.qb 14 (!(af O tk).aE) (λ_=>KB) (λmZ=>ain mZ (by simp [hg])) (λmZ=>jK 6 [20] [(3,v_ 0 (qy L bA))] (NN (cP (((af O tk).aK:Int)>(0:Int)) (λpQ=>ain pQ (by omega)) (λpQ=>KX (ak.seq (rM (List.range 9) 8 [0,1,2,3] (jR 8 [0,1,24,28] [(3,a_ 1 f),(7,v_ 0 (y9 L bA))] (bZ.last rfl rfl (ar.Jw 2 (d:=none) (t:=129) (K:=3) (E:=133) (b:=m) (n:=aq.length) (f:=(cQ (cV L aq))) (x:=(.tmp 24)) (ix:=(.tmp 28)) (key:=vI ((af O tk).id)) (kl:=(.int .i64 (af O tk).id)) (n':=(aq.length-1)) (f':=(cQ (cV L (del (af O tk).id aq)))) (ats:=#[129,3]) (λ_=>KB) KB (λ_=>KB) (λ_=>KB) rfl iZ Tryz.underlying129 (mP hw) (by rw [j8,fC];rfl) (Lx) (NL (ay.np (NX (SR (jK 7 [5,6] [] (NS (jK 1 [34] [] (NF (ak.skip (ay.gA [(2,.abs (bM Tryz.prog 3 m (cQ (cV L (del (af O tk).id aq))) ((del (af O tk).id aq).length)))] (λw hS=>by rw [show (del (af O tk).id aq).length=aq.length-1 by omega];exact hS) (RF (.tuple #[]) [0,1,2,3] (⟨rfl,rfl⟩)))))))))))))))))))))))))))
 replace bA:(af O tk).kind=3:=bA
 replace hg:(af O tk).aE=true:=hg
 replace ho:(af O tk).aK=0:=ho
 replace fC:aD.get aq (af O tk).id=some _:=fC
 replace hw:(Lit.int .i64 (af O tk).id).wf=true:=hw
 have hdl:=xg Xi (get_some fC)
 replace FE:(af O tk).data.length<=1125899906842624:=FE
 exact ak.region (jK 1 [7] [] (gE [] (fW (L.b tk)) (jK 1 [4] [] (NZ (jK 6 [14] [(3,v_ 0 (uH L bA))] (ar.qb 14 (!(af O tk).aE) (λ_=>KB) (λmZ=>ain mZ (by simp [hg])) (λmZ=>jK 6 [20] [(3,v_ 0 (qy L bA))] (NN (cP (((af O tk).aK:Int)>(0:Int)) (λpQ=>ain pQ (by omega)) (λpQ=>KX (ak.seq (rM (List.range 9) 8 [0,1,2,3] (jR 8 [0,1,24,28] [(3,a_ 1 f),(7,v_ 0 (y9 L bA))] (bZ.last rfl rfl (ar.Jw 2 (d:=none) (t:=129) (K:=3) (E:=133) (b:=m) (n:=aq.length) (f:=(cQ (cV L aq))) (x:=(.tmp 24)) (ix:=(.tmp 28)) (key:=vI ((af O tk).id)) (kl:=(.int .i64 (af O tk).id)) (n':=(aq.length-1)) (f':=(cQ (cV L (del (af O tk).id aq)))) (ats:=#[129,3]) (λ_=>KB) KB (λ_=>KB) (λ_=>KB) rfl iZ Tryz.underlying129 (mP hw) (by rw [j8,fC];rfl) (Lx) (NL (ay.np (NX (SR (jK 7 [5,6] [] (NS (jK 1 [34] [] (NF (ak.skip (ay.gA [(2,.abs (bM Tryz.prog 3 m (cQ (cV L (del (af O tk).id aq))) ((del (af O tk).id aq).length)))] (λw hS=>by rw [show (del (af O tk).id aq).length=aq.length-1 by omega];exact hS) (RF (.tuple #[]) [0,1,2,3] (⟨rfl,rfl⟩)))))))))))))))))))))))))))
theorem U7 {β:Bs} (O:dZ) (L:HL) (f:Nat) (th:Th) (bA:(af O th.k).kind=th.kind) (h3:th.kind=1\/th.kind=2\/th.kind=3) (hg:(af O th.k).aE=false\/0<(af O th.k).aK) :
 aU Tryz.prog β 214 #[vP f,(iB L th)] [pO O L] (λv l=>v=.tuple #[]/\l=[pO O L]):=by
 refine SE Tryz.func214 Tryz.ntmps214 (λR=>ak.seq ?_)
 obtain⟨tk,kd⟩:=th;simp only at bA h3;rcases h3 with rfl|rfl|rfl
 ·replace bA:(af O tk).kind=1:=bA
  replace hg:(af O tk).aE=false\/0<(af O tk).aK:=hg
  exact ak.region (jK 1 [7] [] (gE [] (fW (L.b tk)) (jK 1 [4] [] (NZ (jK 6 [14] [(3,v_ 0 (uH L bA))] (ar.qb 14 (!(af O tk).aE) (λ_=>KB) (λmZ=>jK 6 [20] [] (NT (ak.ret (ay.bB (RT _ [0,1] (⟨rfl,rfl⟩)))))) (λmZ=>jK 6 [20] [(3,v_ 0 (qy L bA))] (NN (cP (((af O tk).aK:Int)>(0:Int)) (λpQ=>ak.ret (ay.bB (RT _ [0,1] (⟨rfl,rfl⟩)))) (λpQ=>ain hg (by simp at mZ;rw [mZ];simp;omega)))))))))))
 ·replace bA:(af O tk).kind=2:=bA
  replace hg:(af O tk).aE=false\/0<(af O tk).aK:=hg
  exact ak.region (jK 1 [7] [] (gE [] (fW (L.b tk)) (jK 1 [4] [] (NZ (jK 6 [14] [(3,v_ 0 (uH L bA))] (ar.qb 14 (!(af O tk).aE) (λ_=>KB) (λmZ=>jK 6 [20] [] (NT (ak.ret (ay.bB (RT _ [0,1] (⟨rfl,rfl⟩)))))) (λmZ=>jK 6 [20] [(3,v_ 0 (qy L bA))] (NN (cP (((af O tk).aK:Int)>(0:Int)) (λpQ=>ak.ret (ay.bB (RT _ [0,1] (⟨rfl,rfl⟩)))) (λpQ=>ain hg (by simp at mZ;rw [mZ];simp;omega)))))))))))
 replace bA:(af O tk).kind=3:=bA
 replace hg:(af O tk).aE=false\/0<(af O tk).aK:=hg
 exact ak.region (jK 1 [7] [] (gE [] (fW (L.b tk)) (jK 1 [4] [] (NZ (jK 6 [14] [(3,v_ 0 (uH L bA))] (ar.qb 14 (!(af O tk).aE) (λ_=>KB) (λmZ=>jK 6 [20] [] (NT (ak.ret (ay.bB (RT _ [0,1] (⟨rfl,rfl⟩)))))) (λmZ=>jK 6 [20] [(3,v_ 0 (qy L bA))] (NN (cP (((af O tk).aK:Int)>(0:Int)) (λpQ=>ak.ret (ay.bB (RT _ [0,1] (⟨rfl,rfl⟩)))) (λpQ=>ain hg (by simp at mZ;rw [mZ];simp;omega)))))))))))
theorem yT {β:Bs} (X:FM) (f m t:Nat) (hX:0<=X.ah/\X.ah<=1048576/\-1125899906842624<=X.used/\X.used<=1125899906842624/\0<=X.last/\X.last<=1125899906842624) (O:dZ) (L:HL) (aq:bC Th) (Xi:aD.dH (aY aq)) (th:Th) (bA:(af O th.k).kind=th.kind) (h3:th.kind=1\/th.kind=2\/th.kind=3) (ho:0<=(af O th.k).aK) (fC:uT O th->aD.get aq (af O th.k).id=some th) (hw:(Lit.int .i64 (af O th.k).id).wf=true) (FE:(af O th.k).data.length<=1125899906842624) :
 aU Tryz.prog β 214 #[vP f,(iB L th)] [pO O L,pF f m t X,pI m L aq] (λv l=>v=.tuple #[]/\l=[pO O L,pF f m t {X with used:=qG O X.used th},pI m L (lC O aq th)]):=by
 unfold qG lC
 by_cases h:uT O th
 ·rw [aik h,aik h]
  exact aam X f m t hX O L aq Xi th bA h3 h.1 h.2 (fC h) hw FE
 rw [aij h,aij h]
 refine (aU.wY (pre:=[pO O L]) (R:=[pF f m t X,pI m L aq]) (λ_ _=>U7 O L f th bA h3 ?_)).mono Pe
 cases hg:(af O th.k).aE with
 |false=>exact .inl rfl
 |true=>exact .inr (by have:¬(af O th.k).aK=0:=λe=>h ⟨hg,e⟩;omega)
theorem CU {β:Bs} (X:FM) (f m t:Nat):aU Tryz.prog β 207 #[vP f] [Xh f X m t] (λv l=>v=.bool (decide (X.ah<8192))/\l=[Xh f X m t]):=by
 exact SE Tryz.func207 Tryz.ntmps207 (λR=>SR (jK 1 [] [] (NS (jK 6 [2] [(3,a_ 0 f)] (eN ⟨rfl,rfl⟩)))))
theorem kY {β:Bs} (a b:Int):aU Tryz.prog β 61 #[vI a,vI b] [] (λv l=>v=.bool (decide (0<=a/\a<=b))/\l=[]):=by
 exact SE Tryz.func61 Tryz.ntmps61 (λR=>SR (jK 1 [] [] (NS (jK 3 [7] [] (sP 7 ((a:Int)>=(0:Int)) (λh7=>jK 5 [4] [] (eN (v:=(.bool (decide ((a:Int)<=(b:Int))))) ⟨Pe,rfl⟩)) (λh7=>jK 5 [4] [] (eN (v:=(.bool false)) ⟨Pe,rfl⟩)))))))
theorem Qe {β:Bs} (X:FM) (f m t:Nat) (L:HL) (aq:bC Th):aU Tryz.prog β 218 #[vP f] [Xh f X m t,.abs (bM Tryz.prog 3 m (cQ (cV L aq)) aq.length)] (λv l=>v=.bool (decide ((aq.length:Int)<X.cN/\X.last<1099511627776/\X.ah<8192))/\l=[Xh f X m t,.abs (bM Tryz.prog 3 m (cQ (cV L aq)) aq.length)]):=by
 exact SE Tryz.func218 Tryz.ntmps218 (λR=>SR (jK 1 [] [] (NN (ak.seq (rQ (jQ 4 [6] [(3,a_ 0 f)] (bN.C8 1 (d:=(some 7)) (t:=129) (K:=3) (E:=133) (b:=m) (n:=aq.length) (f:=(cQ (cV L aq))) (x:=(.tmp 6)) (ats:=#[129]) (λ_=>KB) KB (λ_=>KB) rfl Tryz.underlying129 (jQ 7 [14] [(4,a_ 0 f)] (bN.xO 14 ((((aq.length:Nat):Int):Int)<(X.cN:Int)) (λ_=>KB) (λmZ=>jQ 7 [21] [(3,a_ 0 f)] (bN.xO 21 ((X.last:Int)<(1099511627776:Int)) (λ_=>KB) (λsX=>jQ 1 [22] [] (mY [0] [0,1,2] (.bool (decide (X.ah<8192))) (CU X f m t) (jQ 2 [2] [] (NQ (NX (ak.ret (RT (.bool (decide (X.ah<8192))) [0,1,2] (⟨Pe,rfl⟩)))))))) (λsX=>jQ 4 [2] [] (NQ (NX (ak.ret (RT (.bool false) [0,1,2] (⟨Pe,rfl⟩)))))))) (λmZ=>jQ 11 [2] [] (NQ (NX (ak.ret (RT (.bool false) [0,1,2] (⟨Pe,rfl⟩)))))))))))))))
theorem Cq {β:Bs} (X:FM) (f m t:Nat) (hX:0<=X.ah/\X.ah<=1048576/\-1125899906842624<=X.used/\X.used<=1125899906842624/\0<=X.last/\X.last<=1125899906842624) (mode:Int):aU Tryz.prog β 204 #[vP f,vI mode] [Xh f X m t] (λv l=>v=.agg #[vI (X.last+1),vI mode,vI 0,vI 0,vI X.cS,vI X.cZ,vI 0,vI 0,.bool false]/\l=[.ax f [vI (X.cN),vI (X.cB),vI (X.cH),vI (X.cS),vI (X.cZ),.map (some m),vP t,vI (X.last+1),vI (X.ah),vI (X.used)] 135]):=by
 exact SE Tryz.func204 Tryz.ntmps204 (λR=>SR (jB 1 [4] (λb1=>.ax b1 [vI 0,vI 0,vI 0,vI 0,vI 0,vI 0,vI 0,vI 0,.bool false] 137) (λb1=>NS (jC 8 [] [(3,a_ 0 f),(4,wJ (X.last+1) (X.last+1)),(7,a_ 0 f)] [(0,[(7,vI (X.last+1))])] (NN (ak.seq (rM (List.range 12) 11 [0,1,2] (jR 11 [4,22] [(3,a_ 0 f),(9,A_ 0 f 2)] (bZ.last rfl rfl (jC 1 [] [(0,A_ 2 b1 9)] [(2,[(0,vI (X.last+1)),(1,vI (mode)),(4,vI (X.cS)),(5,vI (X.cZ))])] (NL (ay.np (NX (ak.ret (rT _ [A_ 2 b1 9] [0,1] (⟨rfl,rfl⟩))))))))))))))))
theorem vr {β:Bs} (S:br) (L:HL) (f m t:Nat) (hI:bO S) (d:Nat) (hd:aQ S.aq ⟨d,2⟩) (name:ByteArray) (eG:name.size<=1048576) (th:Th) (eu:bK name (af S.O d).ah=some th) :
 aU Tryz.prog β 220 #[vP f,vP (L.b d),.string name] [pF f m t S.X,pO S.O L,pE S.O L,pI m L S.aq] (λv l=>v=.tuple #[]/\l=[pF f m t ((aZ S d name th).X),pO ((aZ S d name th).O) L,pE ((aZ S d name th).O) L,pI m L ((aZ S d name th).aq)]):=by
 have hX:=hI.hX
 have hel:(af S.O d).ah.length<=8192:=hI.lZ hd
 have dP:(af S.O d).kind=2:=hI.kind hd
 refine SE Tryz.func220 Tryz.ntmps220 (λR=>ak.seq ?_)
 obtain⟨tk,kd⟩:=th;have bX:=(hI.bS hd eu).2;have ah6:=hI.ne hd eu;rcases (hI.ob _ bX).2.2 with e0|e0|e0<;>simp only at e0<;>subst e0
 ·have bA:(af S.O tk).kind=1:=hI.kind bX
  have hlb:=hI.lb bX;have hid:=hI.ob _ bX;have bW:=hI.MK bX;have hdl:=hI.PF bX;have xC:=hI.WJ bX
  refine ak.region (jK 3 [8,9,10] [] (gE [0,1,2] (pG S.X f m t hX S.O L d dP name eG ⟨tk,1⟩ bA aii eu (hI.qf hd) zc (by simp only at hlb ⊢;omega)) (jK 1 [6] [] (NS ?_))))
  have qv:(af (bn S.X S.O d name ⟨tk,1⟩) d).kind=2:=(fF).trans (dP)
  have tS:(af (bn S.X S.O d name ⟨tk,1⟩) tk).kind=1:=(fF).trans (bA)
  have FH:(af (bn S.X S.O d name ⟨tk,1⟩) tk).id=(af S.O tk).id:=eM (g:=bJ.id) (λ_ _=>rfl) (λ_ _=>rfl) (λ_ _ _=>rfl)
  have FI:(af (bn S.X S.O d name ⟨tk,1⟩) tk).aK=(af S.O tk).aK:=eM (g:=bJ.aK) (λ_ _=>rfl) (λ_ _=>rfl) (λ_ _ _=>rfl)
  have FJ:(af (bn S.X S.O d name ⟨tk,1⟩) tk).data=(af S.O tk).data:=eM (g:=bJ.data) (λ_ _=>rfl) (λ_ _=>rfl) (λ_ _ _=>rfl)
  generalize fI:(bn S.X S.O d name ⟨tk,1⟩)=gS at qv tS FH FI FJ ⊢
  refine jK 1 [12] [] (gE [] (fW (L.b tk)) (jK 1 [7] [] (NS (jK 5 [18] [(3,v_ 1 (uh L tS))] (NN (cP (((af gS tk).aS:Int)=(0:Int)) (λql=>SR (jK 3 [21] [] (Bp 1 [(2,1)] tk 8 (λo=>{o with aE:=true}) tS (λjT gq=>?_)))) (λql=>ak.skip (RF (l:=[pF f m t {S.X with ah:=S.X.ah-1},pO gS L,pE gS L,pI m L S.aq]) (.tuple #[]) [0,1,2,3,4] (⟨rfl,by grind [aZ,yD]⟩)))))))))
  have LZ:=ku gq qv
  have FC:=ku gq tS
  have Xj:(af jT tk).id=(af S.O tk).id:=fu bJ.id gq FH
  have hf6:(af jT tk).aK=(af S.O tk).aK:=fu bJ.aK gq FI
  have hf7:(af jT tk).data=(af S.O tk).data:=fu bJ.data gq FJ
  exact NN (ak.region (jK 2 [22,23] [] (gE [1,0,3] (yT {S.X with ah:=S.X.ah-1} f m t (hI.Hg hd eu) jT L S.aq hI.fD ⟨tk,1⟩ FC aii (by rw [hf6];exact bW.1) (λ_=>by rw [Xj,hid.1];exact bX) (by rw [Xj];exact xC) (by rw [hf7];exact hdl)) (NL (RF (l:=[pF f m t {S.X with ah:=S.X.ah-1,used:=qG jT S.X.used ⟨tk,1⟩},pO jT L,pE jT L,pI m L (lC jT S.aq ⟨tk,1⟩)]) (.tuple #[]) [1,0,3,2,4] (⟨rfl,by subst gq;subst fI;rw [show aZ S d name ⟨tk,1⟩=_ from yC ql]<;>rfl⟩))))))
 ·have bA:(af S.O tk).kind=2:=hI.kind bX
  have hlb:=hI.lb bX;have hid:=hI.ob _ bX;have bW:=hI.MK bX;have hdl:=hI.PF bX;have xC:=hI.WJ bX
  refine ak.region (jK 3 [8,9,10] [] (gE [0,1,2] (pG S.X f m t hX S.O L d dP name eG ⟨tk,2⟩ bA aii eu (hI.qf hd) zc (by simp only at hlb ⊢;omega)) (jK 1 [6] [] (NS ?_))))
  have aeJ:(af (bn S.X S.O d name ⟨tk,2⟩) d).kind=2:=(fF).trans (dP)
  have LY:(af (bn S.X S.O d name ⟨tk,2⟩) tk).kind=2:=(fF).trans (bA)
  have FH:(af (bn S.X S.O d name ⟨tk,2⟩) tk).id=(af S.O tk).id:=eM (g:=bJ.id) (λ_ _=>rfl) (λ_ _=>rfl) (λ_ _ _=>rfl)
  have FI:(af (bn S.X S.O d name ⟨tk,2⟩) tk).aK=(af S.O tk).aK:=eM (g:=bJ.aK) (λ_ _=>rfl) (λ_ _=>rfl) (λ_ _ _=>rfl)
  have FJ:(af (bn S.X S.O d name ⟨tk,2⟩) tk).data=(af S.O tk).data:=eM (g:=bJ.data) (λ_ _=>rfl) (λ_ _=>rfl) (λ_ _ _=>rfl)
  generalize fI:(bn S.X S.O d name ⟨tk,2⟩)=gS at aeJ LY FH FI FJ ⊢
  refine jK 1 [12] [] (gE [] (fW (L.b tk)) (jK 1 [7] [] (NS (jK 5 [18] [(3,v_ 1 (uh L LY))] (NN (cP (((af gS tk).aS:Int)=(0:Int)) (λql=>SR (jK 3 [21] [] (Bp 1 [(2,1)] tk 8 (λo=>{o with aE:=true}) LY (λjT gq=>?_)))) (λql=>ak.skip (RF (l:=[pF f m t {S.X with ah:=S.X.ah-1},pO gS L,pE gS L,pI m L S.aq]) (.tuple #[]) [0,1,2,3,4] (⟨rfl,by grind [aZ,yD]⟩)))))))))
  have U3:=ku gq aeJ
  have ach:=ku gq LY
  have aeK:(af jT tk).id=(af S.O tk).id:=fu bJ.id gq FH
  have ag4:(af jT tk).aK=(af S.O tk).aK:=fu bJ.aK gq FI
  have ag5:(af jT tk).data=(af S.O tk).data:=fu bJ.data gq FJ
  exact NN (ak.region (jK 2 [22,23] [] (gE [1,0,3] (yT {S.X with ah:=S.X.ah-1} f m t (hI.Hg hd eu) jT L S.aq hI.fD ⟨tk,2⟩ ach aii (by rw [ag4];exact bW.1) (λ_=>by rw [aeK,hid.1];exact bX) (by rw [aeK];exact xC) (by rw [ag5];exact hdl)) (NL (RF (l:=[pF f m t {S.X with ah:=S.X.ah-1,used:=qG jT S.X.used ⟨tk,2⟩},pO jT L,pE jT L,pI m L (lC jT S.aq ⟨tk,2⟩)]) (.tuple #[]) [1,0,3,2,4] (⟨rfl,by subst gq;subst fI;rw [show aZ S d name ⟨tk,2⟩=_ from yC ql]<;>rfl⟩))))))
 have bA:(af S.O tk).kind=3:=hI.kind bX
 have hlb:=hI.lb bX;have hid:=hI.ob _ bX;have bW:=hI.MK bX;have hdl:=hI.PF bX;have xC:=hI.WJ bX
 refine ak.region (jK 3 [8,9,10] [] (gE [0,1,2] (pG S.X f m t hX S.O L d dP name eG ⟨tk,3⟩ bA aii eu (hI.qf hd) zc (by simp only at hlb ⊢;omega)) (jK 1 [6] [] (NS ?_))))
 have aco:(af (bn S.X S.O d name ⟨tk,3⟩) d).kind=2:=(fF).trans (dP)
 have Kj:(af (bn S.X S.O d name ⟨tk,3⟩) tk).kind=3:=(fF).trans (bA)
 have FH:(af (bn S.X S.O d name ⟨tk,3⟩) tk).id=(af S.O tk).id:=eM (g:=bJ.id) (λ_ _=>rfl) (λ_ _=>rfl) (λ_ _ _=>rfl)
 have FI:(af (bn S.X S.O d name ⟨tk,3⟩) tk).aK=(af S.O tk).aK:=eM (g:=bJ.aK) (λ_ _=>rfl) (λ_ _=>rfl) (λ_ _ _=>rfl)
 have FJ:(af (bn S.X S.O d name ⟨tk,3⟩) tk).data=(af S.O tk).data:=eM (g:=bJ.data) (λ_ _=>rfl) (λ_ _=>rfl) (λ_ _ _=>rfl)
 generalize fI:(bn S.X S.O d name ⟨tk,3⟩)=gS at aco Kj FH FI FJ ⊢
 refine jK 1 [12] [] (gE [] (fW (L.b tk)) (jK 1 [7] [] (NS (jK 5 [18] [(3,v_ 1 (uh L Kj))] (NN (cP (((af gS tk).aS:Int)=(0:Int)) (λql=>SR (jK 3 [21] [] (Bp 1 [(2,1)] tk 8 (λo=>{o with aE:=true}) Kj (λjT gq=>?_)))) (λql=>ak.skip (RF (l:=[pF f m t {S.X with ah:=S.X.ah-1},pO gS L,pE gS L,pI m L S.aq]) (.tuple #[]) [0,1,2,3,4] (⟨rfl,by grind [aZ,yD]⟩)))))))))
 have agl:=ku gq aco
 have Kk:=ku gq Kj
 have aeL:(af jT tk).id=(af S.O tk).id:=fu bJ.id gq FH
 have ag6:(af jT tk).aK=(af S.O tk).aK:=fu bJ.aK gq FI
 have ag7:(af jT tk).data=(af S.O tk).data:=fu bJ.data gq FJ
 exact NN (ak.region (jK 2 [22,23] [] (gE [1,0,3] (yT {S.X with ah:=S.X.ah-1} f m t (hI.Hg hd eu) jT L S.aq hI.fD ⟨tk,3⟩ Kk aii (by rw [ag6];exact bW.1) (λ_=>by rw [aeL,hid.1];exact bX) (by rw [aeL];exact xC) (by rw [ag7];exact hdl)) (NL (RF (l:=[pF f m t {S.X with ah:=S.X.ah-1,used:=qG jT S.X.used ⟨tk,3⟩},pO jT L,pE jT L,pI m L (lC jT S.aq ⟨tk,3⟩)]) (.tuple #[]) [1,0,3,2,4] (⟨rfl,by subst gq;subst fI;rw [show aZ S d name ⟨tk,3⟩=_ from yC ql]<;>rfl⟩))))))
theorem Cr {β:Bs} (S:br) (L:HL) (f m t:Nat) (hI:bO S) (d:Nat) (hd:aQ S.aq ⟨d,2⟩) (name:ByteArray) (eG:name.size<=1048576) :
 aU Tryz.prog β 203 #[vP f,vP (L.b d),.string name] [pF f m t S.X,pI m L S.aq,pE S.O L,pO S.O L] (λv l=>v=vI (gi S.X S.O S.aq d name)/\l=[pF f m t S.X,pI m L S.aq,pE S.O L,pO S.O L]):=by
 have hX:=hI.hX
 have hel:(af S.O d).ah.length<=8192:=hI.lZ hd
 have dP:(af S.O d).kind=2:=hI.kind hd
 refine SE Tryz.func203 Tryz.ntmps203 (λR=>ak.seq ?_)
 rcases hI.tF hd name with eu|⟨tk,eu,bX⟩|⟨tk,eu,bX⟩|⟨tk,eu,bX⟩
 ·exact ak.region (jK 1 [] [] (NZ (jK 5 [10,11] [(3,v_ 3 (dx L dP))] (nI 2 dP eu (jK 1 [13] [] (NF (KX (SQ (jK 1 [14] [] (gE [0,1] (Qe S.X f m t L S.aq) (jK 1 [16] [] (NN (cN ((S.aq.length:Int)<S.X.cN/\S.X.last<1099511627776/\S.X.ah<8192) (λpR=>zR ⟨ail (Value.int .i64) (ai0 (show gi S.X S.O S.aq d name=_ from (aik eu).trans (aij pR))),rfl⟩) (λpR=>KX (zR ⟨ail (Value.int .i64) (ai0 (show gi S.X S.O S.aq d name=_ from (aik eu).trans (aik pR))),rfl⟩)))))))))))))))
 ·have bA:(af S.O tk).kind=1:=hI.kind bX
  exact ak.region (jK 1 [] [] (NZ (jK 5 [10,11] [(3,v_ 3 (dx L dP))] (nI 2 dP eu (jK 1 [13] [] (NT (zR ⟨ail (Value.int .i64) (ai0 (show gi S.X S.O S.aq d name=_ from aij (by rw [eu];simp))),rfl⟩)))))))
 ·have bA:(af S.O tk).kind=2:=hI.kind bX
  exact ak.region (jK 1 [] [] (NZ (jK 5 [10,11] [(3,v_ 3 (dx L dP))] (nI 2 dP eu (jK 1 [13] [] (NT (zR ⟨ail (Value.int .i64) (ai0 (show gi S.X S.O S.aq d name=_ from aij (by rw [eu];simp))),rfl⟩)))))))
 have bA:(af S.O tk).kind=3:=hI.kind bX
 exact ak.region (jK 1 [] [] (NZ (jK 5 [10,11] [(3,v_ 3 (dx L dP))] (nI 2 dP eu (jK 1 [13] [] (NT (zR ⟨ail (Value.int .i64) (ai0 (show gi S.X S.O S.aq d name=_ from aij (by rw [eu];simp))),rfl⟩)))))))
theorem adp {β:Bs} (s:ByteArray) (eG:s.size<=1048576) :
 aU Tryz.prog β 219 #[.string s] [] (λv l=>v=vI (lG s)/\l=[]):=by
 refine SE Tryz.func219 Tryz.ntmps219 (λR=>SR (jK 1 [] [] (NN (ak.seq (ak.block (SR (jK 3 [3] [(1,w_ (.bool (decide ((s:ByteArray)=⟨#[]⟩))) (rE _ _))] (NN (cP ((s:ByteArray)=⟨#[]⟩) (λh3=>zR ⟨ail (Value.int .i64) (ai0 (show lG s=_ from aik h3)),rfl⟩) (λh3=>SR (jK 4 [6] [] (NN (cP (((((s:ByteArray).size:Nat):Int):Int)>(4096:Int)) (λh6=>zR ⟨ail (Value.int .i64) (ai0 (show lG s=_ from (aij h3).trans (aik zc))),rfl⟩) (λh6=>SR (jK 1 [11] [] (gL [] (RR s) ?_))))))))))))))))
 rintro _ _ ⟨⟨x,rfl,hx⟩,rfl⟩
 exact jK 2 [10] [] (NN (cP ((x:Int)>=(0:Int)) (λh10=>zR ⟨ail (Value.int .i64) (ai0 (show lG s=_ from (aij h3).trans ((aij zc).trans (aij (hx.1 zc))))),rfl⟩) (λh10=>KX (zR ⟨ail (Value.int .i64) (ai0 (show lG s=_ from (aij h3).trans ((aij zc).trans (aik (aiI (λhn=>ain (hx.2 hn) zc)))))),rfl⟩))))
theorem Bq {β:Bs} (S:br) (L:HL) (f m t:Nat) (th:Th) (bA:(af S.O th.k).kind=th.kind) (h3:th.kind=1\/th.kind=2\/th.kind=3) (bW:0<=(af S.O th.k).aK/\(af S.O th.k).aK<=1048576) :
 aU Tryz.prog β 199 #[vP f,(iB L th)] [pF f m t S.X,pT t S.X.cH S.aI L S.us,pO S.O L] (λv l=>v=.tuple #[vI (ef S th).1,vI (ef S th).2.1]/\l=[pF f m t S.X,pT t S.X.cH ((ef S th).2.2.aI) L ((ef S th).2.2.us),pO ((ef S th).2.2.O) L]):=by
 refine SE Tryz.func199 Tryz.ntmps199 (λR=>ak.seq ?_)
 obtain⟨tk,kd⟩:=th;simp only at bA h3;rcases Int.lt_or_le (S.us.length:Int) S.X.cH with Hs|Hs<;>rcases h3 with e0|e0|e0<;>subst e0
 ·replace bA:(af S.O tk).kind=1:=bA
  replace bW:0<=(af S.O tk).aK/\(af S.O tk).aK<=1048576:=bW
  refine ak.region (jK 2 [] [] (NS (jK 5 [12,13] [(3,a_ 0 f)] (gE [1] ((IB t S.X.cH S.aI (cV L S.us) (iB L ⟨tk,1⟩) (by rw [xj];exact Hs)).mono (λv l h=>Lz h)) (jK 5 [6,7] [] (NZ (jK 2 [18] [] (NT (ak.region (jK 1 [19] [] (gE [] (fW (L.b tk)) (jK 6 [24,26] [(2,v_ 2 (qy L bA)),(3,wJ ((af S.O tk).aK+1) ((af S.O tk).aK+1))] (Bp 2 [] tk 7 (λo=>{o with aK:=o.aK+1}) bA (λgS fI=>?_))))))))))))))
  have ahR:=ku fI bA
  exact NS (jK 4 [4,5] [] (eN (l:=[pF f m t S.X,pT t S.X.cH (max S.aI ((S.us.length:Int)+1)) L (ins (aD.aP S.us) ⟨tk,1⟩ S.us),pO gS L]) (v:=(.tuple #[vI ((aD.aP S.us)),vI 0])) (by grind [ef,oL]) [1,0,2,3]))
 ·replace bA:(af S.O tk).kind=2:=bA
  replace bW:0<=(af S.O tk).aK/\(af S.O tk).aK<=1048576:=bW
  refine ak.region (jK 2 [] [] (NS (jK 5 [12,13] [(3,a_ 0 f)] (gE [1] ((IB t S.X.cH S.aI (cV L S.us) (iB L ⟨tk,2⟩) (by rw [xj];exact Hs)).mono (λv l h=>Lz h)) (jK 5 [6,7] [] (NZ (jK 2 [18] [] (NT (ak.region (jK 1 [19] [] (gE [] (fW (L.b tk)) (jK 6 [24,26] [(2,v_ 2 (qy L bA)),(3,wJ ((af S.O tk).aK+1) ((af S.O tk).aK+1))] (Bp 2 [] tk 7 (λo=>{o with aK:=o.aK+1}) bA (λgS fI=>?_))))))))))))))
  have acj:=ku fI bA
  exact NS (jK 4 [4,5] [] (eN (l:=[pF f m t S.X,pT t S.X.cH (max S.aI ((S.us.length:Int)+1)) L (ins (aD.aP S.us) ⟨tk,2⟩ S.us),pO gS L]) (v:=(.tuple #[vI ((aD.aP S.us)),vI 0])) (by grind [ef,oL]) [1,0,2,3]))
 ·replace bA:(af S.O tk).kind=3:=bA
  replace bW:0<=(af S.O tk).aK/\(af S.O tk).aK<=1048576:=bW
  refine ak.region (jK 2 [] [] (NS (jK 5 [12,13] [(3,a_ 0 f)] (gE [1] ((IB t S.X.cH S.aI (cV L S.us) (iB L ⟨tk,3⟩) (by rw [xj];exact Hs)).mono (λv l h=>Lz h)) (jK 5 [6,7] [] (NZ (jK 2 [18] [] (NT (ak.region (jK 1 [19] [] (gE [] (fW (L.b tk)) (jK 6 [24,26] [(2,v_ 2 (qy L bA)),(3,wJ ((af S.O tk).aK+1) ((af S.O tk).aK+1))] (Bp 2 [] tk 7 (λo=>{o with aK:=o.aK+1}) bA (λgS fI=>?_))))))))))))))
  have Ov:=ku fI bA
  exact NS (jK 4 [4,5] [] (eN (l:=[pF f m t S.X,pT t S.X.cH (max S.aI ((S.us.length:Int)+1)) L (ins (aD.aP S.us) ⟨tk,3⟩ S.us),pO gS L]) (v:=(.tuple #[vI ((aD.aP S.us)),vI 0])) (by grind [ef,oL]) [1,0,2,3]))
 ·replace bA:(af S.O tk).kind=1:=bA
  replace bW:0<=(af S.O tk).aK/\(af S.O tk).aK<=1048576:=bW
  exact ak.region (jK 2 [] [] (NS (jK 5 [12,13] [(3,a_ 0 f)] (gE [1] (Fl t S.X.cH S.aI (cV L S.us) (iB L ⟨tk,1⟩) (by rw [xj];exact Hs)) (jK 5 [6,7] [] (NZ (jK 2 [18] [] (NF (KX (zR (by skip;rw [show ef S ⟨tk,1⟩=_ from pu zc]<;>exact⟨rfl,rfl⟩) [1,0,2,3]))))))))))
 ·replace bA:(af S.O tk).kind=2:=bA
  replace bW:0<=(af S.O tk).aK/\(af S.O tk).aK<=1048576:=bW
  exact ak.region (jK 2 [] [] (NS (jK 5 [12,13] [(3,a_ 0 f)] (gE [1] (Fl t S.X.cH S.aI (cV L S.us) (iB L ⟨tk,2⟩) (by rw [xj];exact Hs)) (jK 5 [6,7] [] (NZ (jK 2 [18] [] (NF (KX (zR (by skip;rw [show ef S ⟨tk,2⟩=_ from pu zc]<;>exact⟨rfl,rfl⟩) [1,0,2,3]))))))))))
 replace bA:(af S.O tk).kind=3:=bA
 replace bW:0<=(af S.O tk).aK/\(af S.O tk).aK<=1048576:=bW
 exact ak.region (jK 2 [] [] (NS (jK 5 [12,13] [(3,a_ 0 f)] (gE [1] (Fl t S.X.cH S.aI (cV L S.us) (iB L ⟨tk,3⟩) (by rw [xj];exact Hs)) (jK 5 [6,7] [] (NZ (jK 2 [18] [] (NF (KX (zR (by skip;rw [show ef S ⟨tk,3⟩=_ from pu zc]<;>exact⟨rfl,rfl⟩) [1,0,2,3]))))))))))
theorem jl {β:Bs} (S:br) (L:HL) (f m t:Nat) (hI:bO S) (h:Int) (hw:(Lit.int .i64 h).wf=true) (name:ByteArray) (eG:name.size<=1048576) (dX:Int) :
 aU Tryz.prog β 201 #[vP f,vI (h),.string name,vI (dX)] [pF f m t S.X,pT t S.X.cH S.aI L S.us,pO S.O L] (λv l=>v=agT L (iO S.O S.us h name dX)/\l=[pF f m t S.X,pT t S.X.cH S.aI L S.us,pO S.O L]):=by
 refine SE Tryz.func201 Tryz.ntmps201 (λR=>ak.seq ?_)
 rcases hI.hand h with iD|⟨tk,iD,bX⟩|⟨tk,iD,bX⟩
 ·exact ak.region (jK 2 [] [] (NS (jK 5 [18,19] [(3,a_ 0 f)] (gE [1] (yB t S.X.cH S.aI (cV L S.us) h hw (xk iD)) (jK 5 [10,11] [] (NZ (jK 2 [24] [] (NT (zR (v:=(.tuple #[.pointer none,vI 131])) ⟨by rw [show iO S.O S.us h name dX=.error 131 by unfold iO;rw [iD]];rfl,rfl⟩ [1,0,2,3])))))))))
 ·have bA:(af S.O tk).kind=1:=hI.kind bX
  exact ak.region (jK 2 [] [] (NS (jK 5 [18,19] [(3,a_ 0 f)] (gE [1] (sF t S.X.cH S.aI (cV L S.us) h hw (iB L ⟨tk,1⟩) (qR iD)) (jK 5 [10,11] [] (NZ (jK 2 [24] [] (NF (KX (SR (jK 7 [12,13] [] (NN (ak.seq (ak.block (SR (jK 3 [31] [] (NT (zR (v:=(.tuple #[.pointer none,vI 173])) ⟨by rw [show iO S.O S.us h name dX=.error 173 by grind [iO]];rfl,rfl⟩ [1,0,2,3]))))))))))))))))))
 have bA:(af S.O tk).kind=2:=hI.kind bX
 exact ak.region (jK 2 [] [] (NS (jK 5 [18,19] [(3,a_ 0 f)] (gE [1] (sF t S.X.cH S.aI (cV L S.us) h hw (iB L ⟨tk,2⟩) (qR iD)) (jK 5 [10,11] [] (NZ (jK 2 [24] [] (NF (KX (SR (jK 7 [12,13] [] (NN (ak.seq (ak.block (SR (jK 3 [31] [] (NF (SR (jK 6 [34] [(4,v_ 2 (uH L bA))] (NN (ak.cond (b:=(af S.O tk).aE) (λ_=>KB) (λyw=>zR (v:=(.tuple #[.pointer none,vI 170])) ⟨by rw [show iO S.O S.us h name dX=.error 170 by grind [iO]];rfl,rfl⟩ [1,0,2,3]) (λyw=>SR (jK 1 [41] [] (gE [] (AL name eG) (jK 2 [40] [] (NN (cN (ck name) (λuI=>zR (v:=(.tuple #[.pointer none,vI 95])) ⟨by rw [show iO S.O S.us h name dX=.error 95 by grind [iO]];rfl,rfl⟩ [1,0,2,3]) (λuI=>SR (jK 10 [44] [(4,v_ 2 (Bo L bA))] (NN (cN ((bits BinOp.and .i64 ((af S.O tk).mode) dX:Int)=(dX:Int)) (λzk=>zR (v:=(.tuple #[.pointer none,vI 175])) ⟨by rw [show iO S.O S.us h name dX=.error 175 by grind [iO]];rfl,rfl⟩ [1,0,2,3]) (λzk=>KX (zR (v:=(.tuple #[vP (L.b tk),vI 0])) ⟨by rw [show iO S.O S.us h name dX=.ok tk by grind [iO]];rfl,rfl⟩ [1,0,2,3])))))))))))))))))))))))))))))))))
theorem adq {β:Bs} (X:FM) (f m t:Nat) (hX:0<=X.ah/\X.ah<=1048576/\-1125899906842624<=X.used/\X.used<=1125899906842624/\0<=X.last/\X.last<=1125899906842624) (O:dZ) (L:HL) (d:Nat) (dP:(af O d).kind=2) (name:ByteArray) (eG:name.size<=1048576) (iV:bK name (af O d).ah=none) (hel:(af O d).ah.length<=1048576) (aq:bC Th) (hil:aq.length<=1048576) (th:Th) (bA:(af O th.k).kind=th.kind) (h3:th.kind=1\/th.kind=2\/th.kind=3) (hb:0<=(af O th.k).aS/\(af O th.k).aS<=1048576) (hni:aD.get aq (af O th.k).id=none) (hw:(Lit.int .i64 (af O th.k).id).wf=true) :
 aU Tryz.prog β 205 #[vP f,vP (L.b d),.string name,(iB L th)] [pF f m t X,pI m L aq,pO O L,pE O L] (λv l=>v=.tuple #[]/\l=[pF f m t {X with ah:=X.ah+1},pI m L (ins (af O th.k).id th aq),pO (dg X O d name th) L,pE (dg X O d name th) L]):=by
 refine SE Tryz.func205 Tryz.ntmps205 (λR=>ak.seq ?_)
 obtain⟨tk,kd⟩:=th;simp only at bA h3;rcases h3 with rfl|rfl|rfl
 ·replace bA:(af O tk).kind=1:=bA
  replace hni:aD.get aq (af O tk).id=none:=hni
  replace hw:(Lit.int .i64 (af O tk).id).wf=true:=hw
  refine rM [0,1,2,3,4,9,5,6,7,8,10] 6 [0,1,2,3,4] (jR 6 [0,1,2,3,11,12,17] [(3,a_ 0 f)] (mL [0,1,2,3,4] [] (fW (L.b tk)) ?_ (by rintro _ _ ⟨rfl,rfl⟩;rfl)))
  rintro _ _ ⟨rfl,rfl⟩
  exact nC [0,1,2,3,4] [14] [] [] (nC [0,1,2,3,4] [15] [] [] (nC [0,1,2,3,4] [16] [(0,v_ 2 (y9 L bA))] [] (bZ.last rfl rfl (ar.rF 1 (d:=none) (t:=129) (K:=3) (E:=133) (b:=m) (n:=aq.length) (f:=(cQ (cV L aq))) (x:=(.tmp 11)) (ix:=(.tmp 16)) (y:=(.tmp 17)) (key:=vI ((af O tk).id)) (u:=.iface 138 (vP (L.b tk))) (kl:=(.int .i64 (af O tk).id)) (n':=(aq.length+1)) (f':=(cQ (cV L (ins (af O tk).id ⟨tk,1⟩ aq)))) (λ_=>KB) KB (λ_=>KB) (λ_=>KB) (λ_=>KB) iZ Tryz.underlying129 (by unfold maxLen;omega) (mP hw) (by rw [j8,hni];rfl) (zX (L:=L) (t:=⟨tk,1⟩) hni) (NL (ay.np (NX (ak.region (jK 4 [18,19,20,21] [] (gE [0,2,3] (nQ X f m t hX O L d dP name eG iV hel ⟨tk,1⟩ bA aii hb) (NL (ay.gA [(3,.abs (bM Tryz.prog 3 m (cQ (cV L (ins (af O tk).id ⟨tk,1⟩ aq))) ((ins (af O tk).id ⟨tk,1⟩ aq).length)))] (λw hS=>by rw [show (ins (af O tk).id ⟨tk,1⟩ aq).length=aq.length+1 from lV _ _ _];exact hS) (RF (.tuple #[]) [0,3,1,2,4] (⟨rfl,rfl⟩))))))))))))))
 ·replace bA:(af O tk).kind=2:=bA
  replace hni:aD.get aq (af O tk).id=none:=hni
  replace hw:(Lit.int .i64 (af O tk).id).wf=true:=hw
  refine rM [0,1,2,3,4,9,5,6,7,8,10] 6 [0,1,2,3,4] (jR 6 [0,1,2,3,11,12,17] [(3,a_ 0 f)] (mL [0,1,2,3,4] [] (fW (L.b tk)) ?_ (by rintro _ _ ⟨rfl,rfl⟩;rfl)))
  rintro _ _ ⟨rfl,rfl⟩
  exact nC [0,1,2,3,4] [14] [] [] (nC [0,1,2,3,4] [15] [] [] (nC [0,1,2,3,4] [16] [(0,v_ 2 (y9 L bA))] [] (bZ.last rfl rfl (ar.rF 1 (d:=none) (t:=129) (K:=3) (E:=133) (b:=m) (n:=aq.length) (f:=(cQ (cV L aq))) (x:=(.tmp 11)) (ix:=(.tmp 16)) (y:=(.tmp 17)) (key:=vI ((af O tk).id)) (u:=.iface 144 (vP (L.b tk))) (kl:=(.int .i64 (af O tk).id)) (n':=(aq.length+1)) (f':=(cQ (cV L (ins (af O tk).id ⟨tk,2⟩ aq)))) (λ_=>KB) KB (λ_=>KB) (λ_=>KB) (λ_=>KB) iZ Tryz.underlying129 (by unfold maxLen;omega) (mP hw) (by rw [j8,hni];rfl) (zX (L:=L) (t:=⟨tk,2⟩) hni) (NL (ay.np (NX (ak.region (jK 4 [18,19,20,21] [] (gE [0,2,3] (nQ X f m t hX O L d dP name eG iV hel ⟨tk,2⟩ bA aii hb) (NL (ay.gA [(3,.abs (bM Tryz.prog 3 m (cQ (cV L (ins (af O tk).id ⟨tk,2⟩ aq))) ((ins (af O tk).id ⟨tk,2⟩ aq).length)))] (λw hS=>by rw [show (ins (af O tk).id ⟨tk,2⟩ aq).length=aq.length+1 from lV _ _ _];exact hS) (RF (.tuple #[]) [0,3,1,2,4] (⟨rfl,rfl⟩))))))))))))))
 replace bA:(af O tk).kind=3:=bA
 replace hni:aD.get aq (af O tk).id=none:=hni
 replace hw:(Lit.int .i64 (af O tk).id).wf=true:=hw
 refine rM [0,1,2,3,4,9,5,6,7,8,10] 6 [0,1,2,3,4] (jR 6 [0,1,2,3,11,12,17] [(3,a_ 0 f)] (mL [0,1,2,3,4] [] (fW (L.b tk)) ?_ (by rintro _ _ ⟨rfl,rfl⟩;rfl)))
 rintro _ _ ⟨rfl,rfl⟩
 exact nC [0,1,2,3,4] [14] [] [] (nC [0,1,2,3,4] [15] [] [] (nC [0,1,2,3,4] [16] [(0,v_ 2 (y9 L bA))] [] (bZ.last rfl rfl (ar.rF 1 (d:=none) (t:=129) (K:=3) (E:=133) (b:=m) (n:=aq.length) (f:=(cQ (cV L aq))) (x:=(.tmp 11)) (ix:=(.tmp 16)) (y:=(.tmp 17)) (key:=vI ((af O tk).id)) (u:=.iface 141 (vP (L.b tk))) (kl:=(.int .i64 (af O tk).id)) (n':=(aq.length+1)) (f':=(cQ (cV L (ins (af O tk).id ⟨tk,3⟩ aq)))) (λ_=>KB) KB (λ_=>KB) (λ_=>KB) (λ_=>KB) iZ Tryz.underlying129 (by unfold maxLen;omega) (mP hw) (by rw [j8,hni];rfl) (zX (L:=L) (t:=⟨tk,3⟩) hni) (NL (ay.np (NX (ak.region (jK 4 [18,19,20,21] [] (gE [0,2,3] (nQ X f m t hX O L d dP name eG iV hel ⟨tk,3⟩ bA aii hb) (NL (ay.gA [(3,.abs (bM Tryz.prog 3 m (cQ (cV L (ins (af O tk).id ⟨tk,3⟩ aq))) ((ins (af O tk).id ⟨tk,3⟩ aq).length)))] (λw hS=>by rw [show (ins (af O tk).id ⟨tk,3⟩ aq).length=aq.length+1 from lV _ _ _];exact hS) (RF (.tuple #[]) [0,3,1,2,4] (⟨rfl,rfl⟩))))))))))))))
end
section
open Go.RowKit Go.Maps bF aD
attribute [local irreducible] ar bN ak ay
theorem zO {β:Bs} (S:br) (L:HL) (f m t:Nat) (hI:Inv0 S) (d:Nat) (hd:aQ S.aq ⟨d,2⟩) (name:ByteArray) (eG:name.size<=1048576) (iV:bK name (af S.O d).ah=none) (o:bJ) (hid:o.id=S.X.last+1) (hk3:o.kind=1\/o.kind=2\/o.kind=3) (hl0:o.aS=0) (hlast:S.X.last<1099511627776) :
 aU Tryz.prog β 205 #[vP f,vP (L.b d),.string name,iB L ⟨(bw S.X),o.kind⟩] [pF f m t {S.X with last:=S.X.last+1},pI m L S.aq,pO (aX S.O (bw S.X) (λ_=>o)) L,pE (aX S.O (bw S.X) (λ_=>o)) L] (λv l=>v=.tuple #[]/\l=[pF f m t ((fY S d name o).X),pI m L ((fY S d name o).aq),pO ((fY S d name o).O) L,pE ((fY S d name o).O) L]):=by
 have hX:=hI.hX
 have cu:d≠(bw S.X):=hI.Dk hd
 have dP:(af S.O d).kind=2:=hI.kind hd
 have hel:(af S.O d).ah.length<=8192:=hI.lZ hd
 have jD:=hI.len
 have e1:af (aX S.O (bw S.X) (λ_=>o)) (bw S.X)=o:=fq
 have e2:af (aX S.O (bw S.X) (λ_=>o)) d=af S.O d:=jd cu
 have hnk:=rN hI
 have h:=adq (β:=β) {S.X with last:=S.X.last+1} f m t (by simp only;omega) (aX S.O (bw S.X) (λ_=>o)) L d (by rw [e2];exact dP) name eG (by rw [e2];exact iV) (by rw [e2];omega) S.aq zc ⟨(bw S.X),o.kind⟩ (by rw [e1]) hk3 (by rw [e1,hl0];decide) (by
  rw [e1,hid]
  cases e:aD.get S.aq (S.X.last+1) with
  |none=>rfl
  |some u=>have:=(hI.aq _ u e).2.2;omega) (by rw [e1,hid];exact WalkArith.wf_i64 (by have:=hI.last;omega))
 rw [e1,hid] at h
 exact h
theorem M0 {β:Bs} (S:br) (L:HL) (f m t:Nat) (hI:bO S) (d:Nat) (hd:aQ S.aq ⟨d,2⟩) (name:ByteArray) (eG:name.size<=1048576) (mode:Int) :
 aU Tryz.prog β 202 #[vP f,vP (L.b d),.string name,vI (mode)] (pA f m t L S) (λv l=>∃L2,v=vI (mT S d name mode).1/\l=(pA f m t L2 ((mT S d name mode).2))):=by
 have hX:=hI.hX
 have hel:(af S.O d).ah.length<=8192:=hI.lZ hd
 have dP:(af S.O d).kind=2:=hI.kind hd
 refine SE Tryz.func202 Tryz.ntmps202 (λR=>SR (jK 1 [] [] (NS (jK 3 [10,11,12] [] (gE [0,1,5,3] (Cr S L f m t hI d hd name eG) (jK 1 [9] [] (NZ (jK 2 [15] [] (NN (cP (((gi S.X S.O S.aq d name):Int)=(0:Int)) (λh0=>?_) (λh0=>KX (zR ⟨L,by rw [show mT S d name mode=_ from aij h0]<;>exact⟨rfl,rfl⟩⟩ [0,1,4,3,5,2,6]))))))))))))
 have iV:=vM h0
 refine ak.region (jK 5 [16,17,18,19,20] [] (gE [0] (Cq S.X f m t hX mode) (ar.tX (d:=(some 22)) (t:=145) (λ_=>KB) Tryz.prog rfl 9 (λm1=>jB 3 [25] (λb2=>.ax b2 [vI (S.X.last+1),vI (mode),vI 0,vI 0,vI (S.X.cS),vI (S.X.cZ),vI 0,vI 0,.bool false,.map (some m1),.pointer none] 147) (λb2=>?_)))))
 obtain⟨L2,fN⟩:∃L2:HL,L2=L.put (bw S.X) b2 m1 none 0:=⟨_,rfl⟩
 have hfr:=hI.toInv0.fresh
 exact ar.mem (λw hS=>hS.BZ fN hfr (o:=(cM S.X 2 mode)) (i:=3) (j:=8) (ix:=[0,1,2,4,5,6,7]) rfl rfl KB rfl (by show (2:Int)≠0;decide) ((sB (L:=L2) (k:=(bw S.X)) (o:=(cM S.X 2 mode)) rfl).trans (by rw [PG fN];rfl)) rfl) (ar.mem (λw hS=>hS.ab6 fN hfr (o:=(cM S.X 2 mode)) (i:=3) (j:=7) (ix:=[0,1,2,4,5,6]) rfl rfl KB rfl rfl rfl) (ar.gA [(5,pD (aX S.O (bw S.X) (λ_=>(cM S.X 2 mode))) L2)] (λw hS=>hS.J0 fN (o:=(cM S.X 2 mode)) (i:=5) rfl (by show (2:Int)≠1;decide)) (ar.gA [(3,.abs (bM Tryz.prog 3 m (cQ (cV L2 S.aq)) S.aq.length)),(4,.abs (fX 182 t S.X.cH S.aI (cV L2 S.us)))] (λw hS=>by rw [mD fN hfr.aq,mD fN hfr.us];exact hS) (gE [2,3,1,0] ((by have h:=zO (β:=β) S L2 f m t hI.toInv0 d hd name eG iV (cM S.X 2 mode) rfl (by simp [cM]) rfl (xV h0);rw [DZ fN (hI.Dk hd),vL fN] at h;exact h)) (NS (ar.gA [(5,.abs (aW (dS ((fY S d name (cM S.X 2 mode)).O) L2)))] (λw hS=>by rw [show dS ((fY S d name (cM S.X 2 mode)).O) L2=dS (aX S.O (bw S.X) (λ_=>(cM S.X 2 mode))) L2 from mU];exact hS) (jK 2 [8] [] (eN ⟨L2,by rw [show mT S d name mode=_ from aik h0];refine⟨ail _ h0,?_⟩;rfl⟩ [0,1,4,2,5,3,6]))))))))
theorem Ht {β:Bs} (S:br) (L:HL) (f m t:Nat) (hI:bO S) (d:Nat) (hd:aQ S.aq ⟨d,2⟩) (name:ByteArray) (eG:name.size<=1048576) (text:ByteArray) (htz:text.size<=1048576) :
 aU Tryz.prog β 206 #[vP f,vP (L.b d),.string name,.string text] (pA f m t L S) (λv l=>∃L2,v=vI (jt S d name text).1/\l=(pA f m t L2 ((jt S d name text).2))):=by
 have hX:=hI.hX
 have hel:(af S.O d).ah.length<=8192:=hI.lZ hd
 have dP:(af S.O d).kind=2:=hI.kind hd
 refine SE Tryz.func206 Tryz.ntmps206 (λR=>SR (jK 1 [] [] (NS (jK 1 [10] [] (gE [] (adp text htz) (jK 1 [9] [] (NZ (jK 2 [13] [] (NN (cP (((lG text):Int)=(0:Int)) (λhb=>ak.region (jK 3 [14,15,16] [] (gE [0,1,5,3] (Cr S L f m t hI d hd name eG) (jK 1 [9] [] (NZ (jK 2 [19] [] (NN (cP (((gi S.X S.O S.aq d name):Int)=(0:Int)) (λh0=>?_) (λh0=>KX (zR ⟨L,by rw [show jt S d name text=_ from (aik hb).trans (aij h0)]<;>exact⟨rfl,rfl⟩⟩ [0,1,4,3,5,2,6])))))))))) (λhb=>KX (SQ (jK 2 [19] [] (NN (cP (((lG text):Int)=(0:Int)) (λh0=>ain h0 hb) (λh0=>KX (zR ⟨L,by rw [show jt S d name text=_ from aij hb]<;>exact⟨rfl,rfl⟩⟩)))))))))))))))))
 have iV:=vM h0
 refine ak.region (jK 4 [20,21,22,23] [] (gE [0] (Cq S.X f m t hX 511) (jB 4 [28] (λb3=>.ax b3 [vI (S.X.last+1),vI (511),vI 0,vI 0,vI (S.X.cS),vI (S.X.cZ),vI 0,vI 0,.bool false,.string text] 143) (λb3=>?_))))
 obtain⟨L2,fN⟩:∃L2:HL,L2=L.put (bw S.X) b3 0 none 0:=⟨_,rfl⟩
 have hfr:=hI.toInv0.fresh
 exact ar.mem (λw hS=>hS.BZ fN hfr (o:={cM S.X 3 511 with target:=text}) (i:=3) (j:=7) (ix:=[0,1,2,4,5,6]) rfl rfl KB rfl (by show (3:Int)≠0;decide) ((Fe (L:=L2) (k:=(bw S.X)) (o:={cM S.X 3 511 with target:=text}) rfl).trans aic) rfl) (ar.gA [(3,pE (aX S.O (bw S.X) (λ_=>{cM S.X 3 511 with target:=text})) L2)] (λw hS=>hS.Dl fN hfr (o:={cM S.X 3 511 with target:=text}) (i:=3) rfl (by show (3:Int)≠2;decide)) (ar.gA [(5,pD (aX S.O (bw S.X) (λ_=>{cM S.X 3 511 with target:=text})) L2)] (λw hS=>hS.J0 fN (o:={cM S.X 3 511 with target:=text}) (i:=5) rfl (by show (3:Int)≠1;decide)) (ar.gA [(2,.abs (bM Tryz.prog 3 m (cQ (cV L2 S.aq)) S.aq.length)),(4,.abs (fX 182 t S.X.cH S.aI (cV L2 S.us)))] (λw hS=>by rw [mD fN hfr.aq,mD fN hfr.us];exact hS) (gE [1,2,0,3] ((by have h:=zO (β:=β) S L2 f m t hI.toInv0 d hd name eG iV {cM S.X 3 511 with target:=text} rfl (by simp [cM]) rfl (xV h0);rw [DZ fN (hI.Dk hd),vL fN] at h;exact h)) (NS (ar.gA [(5,.abs (aW (dS ((fY S d name {cM S.X 3 511 with target:=text}).O) L2)))] (λw hS=>by rw [show dS ((fY S d name {cM S.X 3 511 with target:=text}).O) L2=dS (aX S.O (bw S.X) (λ_=>{cM S.X 3 511 with target:=text})) L2 from mU];exact hS) (jK 2 [8] [] (eN ⟨L2,by rw [show jt S d name text=_ from (aik hb).trans (aik h0)];refine⟨ail _ h0,?_⟩;rfl⟩ [0,1,4,2,5,3,6]))))))))
theorem Kl {β:Bs} (S:br) (L:HL) (f m t:Nat) (hI:bO S) (d:Nat) (hd:aQ S.aq ⟨d,2⟩) (name:ByteArray) (eG:name.size<=1048576) :
 aU Tryz.prog β 209 #[vP f,vP (L.b d),.string name] (pA f m t L S) (λv l=>∃L2,v=vI (iE S d name).1/\l=(pA f m t L2 ((iE S d name).2))):=by
 have hX:=hI.hX
 have hel:(af S.O d).ah.length<=8192:=hI.lZ hd
 have dP:(af S.O d).kind=2:=hI.kind hd
 refine SE Tryz.func209 Tryz.ntmps209 (λR=>ak.seq ?_)
 rcases hI.tF hd name with eu|⟨tk,eu,bX⟩|⟨tk,eu,bX⟩|⟨tk,eu,bX⟩
 ·exact ak.region (jK 1 [] [] (NZ (jK 5 [10,11] [(3,v_ 3 (dx L dP))] (nI 5 dP eu (NN (ak.block (SR (jK 1 [13] [] (NT (zR ⟨L,by rw [show iE S d name=(170,S) by unfold iE;rw [eu]]<;>exact⟨rfl,rfl⟩⟩))))))))))
 ·have bA:(af S.O tk).kind=1:=hI.kind bX
  exact ak.region (jK 1 [] [] (NZ (jK 5 [10,11] [(3,v_ 3 (dx L dP))] (nI 5 dP eu (NN (ak.block (SR (jK 1 [13] [] (NF (SR (jK 3 [15] [] (NF (KX (SR (jK 3 [17,18,19] [] (gE [0,3,5,1] (vr S L f m t hI d hd name eG ⟨tk,1⟩ eu) (NS (ar.gA [(5,.abs (aW (dS ((aZ S d name ⟨tk,1⟩).O) L)))] (λw hS=>by rw [show dS ((aZ S d name ⟨tk,1⟩).O) L=dS S.O L from vm];exact hS) (jK 1 [6] [] (eN ⟨L,by rw [show iE S d name=(0,aZ S d name ⟨tk,1⟩) by grind [iE]]<;>exact⟨rfl,rfl⟩⟩ [0,3,4,1,5,2,6]))))))))))))))))))))
 ·have bA:(af S.O tk).kind=2:=hI.kind bX
  exact ak.region (jK 1 [] [] (NZ (jK 5 [10,11] [(3,v_ 3 (dx L dP))] (nI 5 dP eu (NN (ak.block (SR (jK 1 [13] [] (NF (SR (jK 3 [15] [] (NT (zR ⟨L,by rw [show iE S d name=(172,S) by grind [iE]]<;>exact⟨rfl,rfl⟩⟩)))))))))))))
 have bA:(af S.O tk).kind=3:=hI.kind bX
 exact ak.region (jK 1 [] [] (NZ (jK 5 [10,11] [(3,v_ 3 (dx L dP))] (nI 5 dP eu (NN (ak.block (SR (jK 1 [13] [] (NF (SR (jK 3 [15] [] (NF (KX (SR (jK 3 [17,18,19] [] (gE [0,3,5,1] (vr S L f m t hI d hd name eG ⟨tk,3⟩ eu) (NS (ar.gA [(5,.abs (aW (dS ((aZ S d name ⟨tk,3⟩).O) L)))] (λw hS=>by rw [show dS ((aZ S d name ⟨tk,3⟩).O) L=dS S.O L from vm];exact hS) (jK 1 [6] [] (eN ⟨L,by rw [show iE S d name=(0,aZ S d name ⟨tk,3⟩) by grind [iE]]<;>exact⟨rfl,rfl⟩⟩ [0,3,4,1,5,2,6]))))))))))))))))))))
theorem M4 {β:Bs} (S:br) (L:HL) (f m t:Nat) (hI:bO S) (d:Nat) (hd:aQ S.aq ⟨d,2⟩) (name:ByteArray) (eG:name.size<=1048576) :
 aU Tryz.prog β 215 #[vP f,vP (L.b d),.string name] (pA f m t L S) (λv l=>∃L2,v=vI (jf S d name).1/\l=(pA f m t L2 ((jf S d name).2))):=by
 have hX:=hI.hX
 have hel:(af S.O d).ah.length<=8192:=hI.lZ hd
 have dP:(af S.O d).kind=2:=hI.kind hd
 refine SE Tryz.func215 Tryz.ntmps215 (λR=>ak.seq ?_)
 rcases hI.tF hd name with eu|⟨tk,eu,bX⟩|⟨tk,eu,bX⟩|⟨tk,eu,bX⟩
 ·exact ak.region (jK 1 [] [] (NS (jK 5 [13,14] [(3,v_ 3 (dx L dP))] (nI 5 dP eu (jK 1 [7] [] (NZ (jK 2 [17] [] (NT (zR (v:=(vI 170)) ⟨L,by skip;rw [show jf S d name=(170,S) by unfold jf;rw [eu]]<;>exact⟨rfl,rfl⟩⟩)))))))))
 ·have bA:(af S.O tk).kind=1:=hI.kind bX
  exact ak.region (jK 1 [] [] (NS (jK 5 [13,14] [(3,v_ 3 (dx L dP))] (nI 5 dP eu (jK 1 [7] [] (NZ (jK 2 [17] [] (NF (KX (SR (jK 7 [8,9] [] (NZ (jK 2 [24] [] (NT (zR (v:=(vI 173)) ⟨L,by skip;rw [show jf S d name=(173,S) by grind [jf]]<;>exact⟨rfl,rfl⟩⟩)))))))))))))))
 ·have bA:(af S.O tk).kind=2:=hI.kind bX
  have ah7:(af S.O tk).ah.length<=8192:=hI.lZ bX
  refine ak.region (jK 1 [] [] (NS (jK 5 [13,14] [(3,v_ 3 (dx L dP))] (nI 5 dP eu (jK 1 [7] [] (NZ (jK 2 [17] [] (NF (KX (SR (jK 7 [8,9] [] (NZ (jK 2 [24] [] (NF (KX (SQ (jK 4 [28] [(3,v_ 3 (dx L bA))] (eNk 5 bA (jK 1 [30] [] (NN (cP (((((af S.O tk).ah.length:Nat):Int):Int)>(0:Int)) (λnX=>zR (v:=(vI 178)) ⟨L,by skip;rw [show jf S d name=(178,S) by grind [jf,af]]<;>exact⟨rfl,rfl⟩⟩) (λnX=>KX (SR (jK 3 [31,32,33] [] (gE [0,3,5,1] (vr S L f m t hI d hd name eG ⟨tk,2⟩ eu) (NS (ar.gA [(5,.abs (aW (dS ((aZ S d name ⟨tk,2⟩).O) L)))] (λw hS=>by rw [show dS ((aZ S d name ⟨tk,2⟩).O) L=dS S.O L from vm];exact hS) ?_)))))))))))))))))))))))))))
  have FC:(af (aZ S d name ⟨tk,2⟩).O d).kind=2:=(JZ).trans (dP)
  have FD:(af (aZ S d name ⟨tk,2⟩).O tk).kind=2:=(JZ).trans (bA)
  generalize fI:(aZ S d name ⟨tk,2⟩).O=gS at FC FD ⊢
  refine jK 3 [37] [] (uSt 1 [(2,1),(5,2)] tk (none) FD (λjT gq=>?_))
  have aal:=ku gq FC
  have U2:=ku gq FD
  exact NS (jK 1 [6] [] (eN (l:=[pF f m t ((aZ S d name ⟨tk,2⟩).X),pI m L ((aZ S d name ⟨tk,2⟩).aq),pT t S.X.cH S.aI L S.us,pO jT L,pD jT L,pE jT L]) (v:=(vI 0)) ⟨L,by subst gq;subst fI;rw [show jf S d name=(0,{aZ S d name ⟨tk,2⟩ with O:=jm (aZ S d name ⟨tk,2⟩).O tk}) by unfold jf;rw [eu];exact (aik rfl).trans (aik (aiZ Pe))]<;>exact⟨rfl,rfl⟩⟩ [0,3,4,1,5,2,6]))
 have bA:(af S.O tk).kind=3:=hI.kind bX
 exact ak.region (jK 1 [] [] (NS (jK 5 [13,14] [(3,v_ 3 (dx L dP))] (nI 5 dP eu (jK 1 [7] [] (NZ (jK 2 [17] [] (NF (KX (SR (jK 7 [8,9] [] (NZ (jK 2 [24] [] (NT (zR (v:=(vI 173)) ⟨L,by skip;rw [show jf S d name=(173,S) by grind [jf]]<;>exact⟨rfl,rfl⟩⟩)))))))))))))))
theorem Km {β:Bs} (S:br) (L:HL) (f m t:Nat) (hI:bO S) (d:Nat) (hd:aQ S.aq ⟨d,2⟩) (name:ByteArray) (eG:name.size<=1048576) (to:Nat) (dY:aQ S.aq ⟨to,2⟩) (aB:ByteArray) (wv:aB.size<=1048576) :
 aU Tryz.prog β 216 #[vP f,vP (L.b d),.string name,vP (L.b to),.string aB] (pA f m t L S) (λv l=>∃L2,v=vI (dw S d name to aB).1/\l=(pA f m t L2 ((dw S d name to aB).2))):=by
 have hX:=hI.hX
 have hel:(af S.O d).ah.length<=8192:=hI.lZ hd
 have dP:(af S.O d).kind=2:=hI.kind hd
 have jv:(af S.O to).kind=2:=hI.kind dY
 have ahS:(af S.O to).ah.length<=8192:=hI.lZ dY
 refine SE Tryz.func216 Tryz.ntmps216 (λR=>ak.seq ?_)
 rcases hI.tF hd name with eu|⟨tk,eu,bX⟩|⟨tk,eu,bX⟩|⟨tk,eu,bX⟩
 ·exact ak.region (jK 1 [] [] (NS (jK 5 [19,20] [(3,v_ 3 (dx L dP))] (nI 5 dP eu (jK 1 [11] [] (NZ (jK 2 [23] [] (NT (zR ⟨L,by rw [show dw S d name to aB=(170,S) by unfold dw;rw [eu]]<;>exact⟨rfl,rfl⟩⟩)))))))))
 ·have bA:(af S.O tk).kind=1:=hI.kind bX
  refine ak.region (jK 1 [] [] (NS (jK 5 [19,20] [(3,v_ 3 (dx L dP))] (nI 5 dP eu (jK 1 [11] [] (NZ (jK 2 [23] [] (NF (KX (SR (jK 7 [12,13] [] (NZ (jK 2 [14] [] (NN (ak.block (lJ (λ(u:Unit)=>True) (λ(u:Unit)=>0) (λ(u:Unit)=>[(0,vP f),(1,vP (L.b d)),(2,.string name),(3,vP (L.b to)),(4,.string aB),(11,.iface 138 (vP (L.b tk))),(12,.pointer none),(13,.bool false),(14,vP (L.b to))]) (λ(u:Unit)=>((pA f m t L S)++[.abs R])) () [0,1,2,3,4,5,6] (trivial) ?_))))))))))))))))
  rintro u _
  refine SQ (jK 5 [34] [] (NF (XX (ak.seq ?_))))
  skip
  rcases hI.tF dY aB with d6|⟨ok,d6,jI⟩|⟨ok,d6,jI⟩|⟨ok,d6,jI⟩
  ·refine ak.region (jK 5 [45,46] [(3,v_ 3 (dx L jv))] (nI 5 jv d6 (jK 1 [15] [] (NZ (jK 3 [50] [] (NF (KX (SQ (jK 2 [52] [] (NF (KX (SR ?_))))))))))))
   have di:bO S:=hI
   have jH:=hd
   have jZ:=eu
   have xD:=d6
   have pq:=dY
   have qv:(af S.O d).kind=2:=di.kind jH
   have xE:(af S.O to).kind=2:=di.kind pq
   have rP:aQ S.aq ⟨tk,1⟩:=(di.bS jH jZ).2
   have rR:(af S.O tk).kind=1:=di.kind rP
   have L4:(af S.O d).ah.length<=8192:=di.lZ jH
   have L5:(af S.O to).ah.length<=8192:=di.lZ pq
   have xG:=di.lb rP
   have rS:tk≠d:=di.ne jH jZ
   exact jK 3 [61,62,63] [] (gE [0,3,5] (pG S.X f m t di.hX S.O L d qv name eG ⟨tk,1⟩ rR aii jZ (di.qf jH) zc (by simp only at xG ⊢;omega)) (NS (jK 4 [65,66,67,68] [] (gE [0,1,2] (nQ {S.X with ah:=S.X.ah-1} f m t (di.Hg jH jZ) (bn S.X S.O d name ⟨tk,1⟩) L to (fF.trans xE) aB wv (qJ rS xD) (air (tO rS) zc) ⟨tk,1⟩ (fF.trans rR) aii (qU di.toInv0 jH jZ)) (NS (ar.gA [(5,.abs (aW (dS (dg S.X (bn S.X S.O d name ⟨tk,1⟩) to aB ⟨tk,1⟩) L)))] (λw hS=>by rw [show dS (dg S.X (bn S.X S.O d name ⟨tk,1⟩) to aB ⟨tk,1⟩) L=dS S.O L from mU.trans qI];exact hS) (jK 1 [10] [] (eN ⟨L,by rw [show dw S d name to aB=(0,qc S d name to aB ⟨tk,1⟩) by grind [dw]]<;>exact⟨rfl,rfl⟩⟩ [0,3,4,1,5,2,6]))))))))
  ·have rU:(af S.O ok).kind=1:=hI.kind jI
   refine ak.region (jK 5 [45,46] [(3,v_ 3 (dx L jv))] (nI 5 jv d6 (jK 1 [15] [] (NZ (jK 2 [48,49] [] (ar.oh (d:=(some 50)) (op:=.binOp .eql 133 (.tmp 48) (.tmp 49) 133) (v:=.bool (decide (ok=tk))) (λ_=>KB) (λo ai w ho hS=>by obtain⟨F,hF⟩:=hS.get (i:=3) rfl;exact⟨w,IJ aes ho KB KB (by rw [rU];decide) (by rw [bA];decide) hF,hS⟩) (NN (cP (ok=tk) (λh50=>zR ⟨L,by rw [show dw S d name to aB=(0,S) by grind [dw]]<;>exact⟨rfl,rfl⟩⟩) (λh50=>KX (SQ (jK 2 [52] [] (NT (SQ (jK 1 [53] [] (gE [] (tP (vP (L.b ok))) (jK 1 [55] [] (NF (KX (SQ (jK 1 [56] [] (NF (KX (ak.region (jK 3 [57,58,59] [] (gE [0,3,5,1] (vr S L f m t hI to dY aB wv ⟨ok,1⟩ d6) (NS ?_))))))))))))))))))))))))))
   have di:bO (aZ S to aB ⟨ok,1⟩):=hI.Gy dY d6 aii
   have hot:(⟨ok,1⟩:Th)≠⟨tk,1⟩:=λe=>h50 (ail Th.k e)
   have jH:aQ (aZ S to aB ⟨ok,1⟩).aq ⟨d,2⟩:=pz hI.toInv0 dY d6 hd (λe=>by have:=jy hd jI e;cases this)
   have pq:aQ (aZ S to aB ⟨ok,1⟩).aq ⟨to,2⟩:=pz hI.toInv0 dY d6 dY (λe=>by have:=jy dY jI e;cases this)
   have jZ:bK name (af (aZ S to aB ⟨ok,1⟩).O d).ah=some ⟨tk,1⟩:=yH hI.toInv0 dY d6 eu hot
   have xD:bK aB (af (aZ S to aB ⟨ok,1⟩).O to).ah=none:=yI hI.toInv0 dY d6
   have qv:(af (aZ S to aB ⟨ok,1⟩).O d).kind=2:=di.kind jH
   have xE:(af (aZ S to aB ⟨ok,1⟩).O to).kind=2:=di.kind pq
   have rP:aQ (aZ S to aB ⟨ok,1⟩).aq ⟨tk,1⟩:=(di.bS jH jZ).2
   have rR:(af (aZ S to aB ⟨ok,1⟩).O tk).kind=1:=di.kind rP
   have L4:(af (aZ S to aB ⟨ok,1⟩).O d).ah.length<=8192:=di.lZ jH
   have L5:(af (aZ S to aB ⟨ok,1⟩).O to).ah.length<=8192:=di.lZ pq
   have xG:=di.lb rP
   have rS:tk≠d:=di.ne jH jZ
   exact jK 3 [61,62,63] [] (gE [0,1,2] (pG (aZ S to aB ⟨ok,1⟩).X f m t di.hX (aZ S to aB ⟨ok,1⟩).O L d qv name eG ⟨tk,1⟩ rR aii jZ (di.qf jH) zc (by simp only at xG ⊢;omega)) (NS (jK 4 [65,66,67,68] [] (gE [0,1,2] (nQ { (aZ S to aB ⟨ok,1⟩).X with ah:=(aZ S to aB ⟨ok,1⟩).X.ah-1} f m t (di.Hg jH jZ) (bn (aZ S to aB ⟨ok,1⟩).X (aZ S to aB ⟨ok,1⟩).O d name ⟨tk,1⟩) L to (fF.trans xE) aB wv (qJ rS xD) (air (tO rS) zc) ⟨tk,1⟩ (fF.trans rR) aii (qU di.toInv0 jH jZ)) (NS (ar.gA [(5,.abs (aW (dS (dg (aZ S to aB ⟨ok,1⟩).X (bn (aZ S to aB ⟨ok,1⟩).X (aZ S to aB ⟨ok,1⟩).O d name ⟨tk,1⟩) to aB ⟨tk,1⟩) L)))] (λw hS=>by rw [show dS (dg (aZ S to aB ⟨ok,1⟩).X (bn (aZ S to aB ⟨ok,1⟩).X (aZ S to aB ⟨ok,1⟩).O d name ⟨tk,1⟩) to aB ⟨tk,1⟩) L=dS S.O L from mU.trans (qI.trans vm)];exact hS) (jK 1 [10] [] (eN ⟨L,by rw [show dw S d name to aB=(0,qc (aZ S to aB ⟨ok,1⟩) d name to aB ⟨tk,1⟩) by grind [dw]]<;>exact⟨rfl,rfl⟩⟩ [0,3,4,1,5,2,6]))))))))
  ·have rU:(af S.O ok).kind=2:=hI.kind jI
   exact ak.region (jK 5 [45,46] [(3,v_ 3 (dx L jv))] (nI 5 jv d6 (jK 1 [15] [] (NZ (jK 3 [50] [] (NF (KX (SQ (jK 2 [52] [] (NT (SQ (jK 1 [53] [] (gE [] (tQ (vP (L.b ok))) (jK 1 [55] [] (NT (zR ⟨L,by rw [show dw S d name to aB=(172,S) by grind [dw]]<;>exact⟨rfl,rfl⟩⟩))))))))))))))))
  have rU:(af S.O ok).kind=3:=hI.kind jI
  refine ak.region (jK 5 [45,46] [(3,v_ 3 (dx L jv))] (nI 5 jv d6 (jK 1 [15] [] (NZ (jK 3 [50] [] (NF (KX (SQ (jK 2 [52] [] (NT (SQ (jK 1 [53] [] (gE [] (vo (vP (L.b ok))) (jK 1 [55] [] (NF (KX (SQ (jK 1 [56] [] (NF (KX (ak.region (jK 3 [57,58,59] [] (gE [0,3,5,1] (vr S L f m t hI to dY aB wv ⟨ok,3⟩ d6) (NS ?_))))))))))))))))))))))))
  have di:bO (aZ S to aB ⟨ok,3⟩):=hI.Gy dY d6 aii
  have hot:(⟨ok,3⟩:Th)≠⟨tk,1⟩:=λe=>by cases e
  have jH:aQ (aZ S to aB ⟨ok,3⟩).aq ⟨d,2⟩:=pz hI.toInv0 dY d6 hd (λe=>by have:=jy hd jI e;cases this)
  have pq:aQ (aZ S to aB ⟨ok,3⟩).aq ⟨to,2⟩:=pz hI.toInv0 dY d6 dY (λe=>by have:=jy dY jI e;cases this)
  have jZ:bK name (af (aZ S to aB ⟨ok,3⟩).O d).ah=some ⟨tk,1⟩:=yH hI.toInv0 dY d6 eu hot
  have xD:bK aB (af (aZ S to aB ⟨ok,3⟩).O to).ah=none:=yI hI.toInv0 dY d6
  have qv:(af (aZ S to aB ⟨ok,3⟩).O d).kind=2:=di.kind jH
  have xE:(af (aZ S to aB ⟨ok,3⟩).O to).kind=2:=di.kind pq
  have rP:aQ (aZ S to aB ⟨ok,3⟩).aq ⟨tk,1⟩:=(di.bS jH jZ).2
  have rR:(af (aZ S to aB ⟨ok,3⟩).O tk).kind=1:=di.kind rP
  have L4:(af (aZ S to aB ⟨ok,3⟩).O d).ah.length<=8192:=di.lZ jH
  have L5:(af (aZ S to aB ⟨ok,3⟩).O to).ah.length<=8192:=di.lZ pq
  have xG:=di.lb rP
  have rS:tk≠d:=di.ne jH jZ
  exact jK 3 [61,62,63] [] (gE [0,1,2] (pG (aZ S to aB ⟨ok,3⟩).X f m t di.hX (aZ S to aB ⟨ok,3⟩).O L d qv name eG ⟨tk,1⟩ rR aii jZ (di.qf jH) zc (by simp only at xG ⊢;omega)) (NS (jK 4 [65,66,67,68] [] (gE [0,1,2] (nQ { (aZ S to aB ⟨ok,3⟩).X with ah:=(aZ S to aB ⟨ok,3⟩).X.ah-1} f m t (di.Hg jH jZ) (bn (aZ S to aB ⟨ok,3⟩).X (aZ S to aB ⟨ok,3⟩).O d name ⟨tk,1⟩) L to (fF.trans xE) aB wv (qJ rS xD) (air (tO rS) zc) ⟨tk,1⟩ (fF.trans rR) aii (qU di.toInv0 jH jZ)) (NS (ar.gA [(5,.abs (aW (dS (dg (aZ S to aB ⟨ok,3⟩).X (bn (aZ S to aB ⟨ok,3⟩).X (aZ S to aB ⟨ok,3⟩).O d name ⟨tk,1⟩) to aB ⟨tk,1⟩) L)))] (λw hS=>by rw [show dS (dg (aZ S to aB ⟨ok,3⟩).X (bn (aZ S to aB ⟨ok,3⟩).X (aZ S to aB ⟨ok,3⟩).O d name ⟨tk,1⟩) to aB ⟨tk,1⟩) L=dS S.O L from mU.trans (qI.trans vm)];exact hS) (jK 1 [10] [] (eN ⟨L,by rw [show dw S d name to aB=(0,qc (aZ S to aB ⟨ok,3⟩) d name to aB ⟨tk,1⟩) by grind [dw]]<;>exact⟨rfl,rfl⟩⟩ [0,3,4,1,5,2,6]))))))))
 ·have bA:(af S.O tk).kind=2:=hI.kind bX
  refine ak.region (jK 1 [] [] (NS (jK 5 [19,20] [(3,v_ 3 (dx L dP))] (nI 5 dP eu (jK 1 [11] [] (NZ (jK 2 [23] [] (NF (KX (SR (jK 7 [12,13] [] (NZ (jK 2 [14] [] (NN (ak.block ?_)))))))))))))))
  obtain⟨dp,hdp⟩:=hI.deep
  refine lJ (λ(x:Option Nat)=>(sV S.O tk to↔∃z0,x=some z0/\sV S.O tk z0)/\(∀z0,x=some z0->aQ S.aq ⟨z0,2⟩)) (λ(x:Option Nat)=>Fq dp x) (λ(x:Option Nat)=>[(0,vP f),(1,vP (L.b d)),(2,.string name),(3,vP (L.b to)),(4,.string aB),(11,.iface 144 (vP (L.b tk))),(12,vP (L.b tk)),(13,.bool true),(14,(JQ L x))]) (λ(x:Option Nat)=>((pA f m t L S)++[.abs R])) ((some to)) [0,1,2,3,4,5,6] (⟨⟨λh=>⟨to,rfl,h⟩,λ⟨y,e,h⟩=>by cases e;exact h⟩,λy e=>by cases e;exact dY⟩) ?_
  rintro x ⟨hbx,hlx⟩
  refine ak.seq (ak.seq ?_)
  rcases hx:x with _|y
  ·refine ak.region (jK 5 [34] [] (NF (XX (ak.seq ?_))))
   have hnb:¬sV S.O tk to:=λh=>Pe
   rcases hI.tF dY aB with d6|⟨ok,d6,jI⟩|⟨ok,d6,jI⟩|⟨ok,d6,jI⟩
   ·refine ak.region (jK 5 [45,46] [(3,v_ 3 (dx L jv))] (nI 5 jv d6 (jK 1 [15] [] (NZ (jK 3 [50] [] (NF (KX (SQ (jK 2 [52] [] (NF (KX (SR ?_))))))))))))
    have di:bO S:=hI
    have jH:=hd
    have jZ:=eu
    have xD:=d6
    have pq:=dY
    have qv:(af S.O d).kind=2:=di.kind jH
    have xE:(af S.O to).kind=2:=di.kind pq
    have rP:aQ S.aq ⟨tk,2⟩:=(di.bS jH jZ).2
    have rR:(af S.O tk).kind=2:=di.kind rP
    have L4:(af S.O d).ah.length<=8192:=di.lZ jH
    have L5:(af S.O to).ah.length<=8192:=di.lZ pq
    have xG:=di.lb rP
    have rS:tk≠d:=di.ne jH jZ
    exact jK 3 [61,62,63] [] (gE [0,3,5] (pG S.X f m t di.hX S.O L d qv name eG ⟨tk,2⟩ rR aii jZ (di.qf jH) zc (by simp only at xG ⊢;omega)) (NS (jK 4 [65,66,67,68] [] (gE [0,1,2] (nQ {S.X with ah:=S.X.ah-1} f m t (di.Hg jH jZ) (bn S.X S.O d name ⟨tk,2⟩) L to (fF.trans xE) aB wv (qJ rS xD) (air (tO rS) zc) ⟨tk,2⟩ (fF.trans rR) aii (qU di.toInv0 jH jZ)) (NS (ar.gA [(5,.abs (aW (dS (dg S.X (bn S.X S.O d name ⟨tk,2⟩) to aB ⟨tk,2⟩) L)))] (λw hS=>by rw [show dS (dg S.X (bn S.X S.O d name ⟨tk,2⟩) to aB ⟨tk,2⟩) L=dS S.O L from mU.trans qI];exact hS) (jK 1 [10] [] (eN ⟨L,by rw [show dw S d name to aB=(0,qc S d name to aB ⟨tk,2⟩) by grind [dw]]<;>exact⟨rfl,rfl⟩⟩ [0,3,4,1,5,2,6]))))))))
   ·have rU:(af S.O ok).kind=1:=hI.kind jI
    exact ak.region (jK 5 [45,46] [(3,v_ 3 (dx L jv))] (nI 5 jv d6 (jK 1 [15] [] (NZ (jK 3 [50] [] (NF (KX (SQ (jK 2 [52] [] (NT (SQ (jK 1 [53] [] (gE [] (tP (vP (L.b ok))) (jK 1 [55] [] (NF (KX (SQ (jK 1 [56] [] (NT (zR ⟨L,by rw [show dw S d name to aB=(173,S) by grind [dw]]<;>exact⟨rfl,rfl⟩⟩))))))))))))))))))))
   ·have rU:(af S.O ok).kind=2:=hI.kind jI
    exact ak.region (jK 5 [45,46] [(3,v_ 3 (dx L jv))] (nI 5 jv d6 (jK 1 [15] [] (NZ (jK 2 [48,49] [] (ar.oh (d:=(some 50)) (op:=.binOp .eql 133 (.tmp 48) (.tmp 49) 133) (v:=.bool (decide (ok=tk))) (λ_=>KB) (λo ai w ho hS=>by obtain⟨F,hF⟩:=hS.get (i:=3) rfl;exact⟨w,IJ aga ho KB KB (by rw [rU];decide) (by rw [bA];decide) hF,hS⟩) (NN (cP (ok=tk) (λh50=>zR ⟨L,by rw [show dw S d name to aB=(0,S) by grind [dw]]<;>exact⟨rfl,rfl⟩⟩) (λh50=>KX (SQ (jK 2 [52] [] (NT (SQ (jK 1 [53] [] (gE [] (tQ (vP (L.b ok))) (jK 1 [55] [] (NT (zR ⟨L,by rw [show dw S d name to aB=(172,S) by grind [dw]]<;>exact⟨rfl,rfl⟩⟩))))))))))))))))))
   have rU:(af S.O ok).kind=3:=hI.kind jI
   exact ak.region (jK 5 [45,46] [(3,v_ 3 (dx L jv))] (nI 5 jv d6 (jK 1 [15] [] (NZ (jK 3 [50] [] (NF (KX (SQ (jK 2 [52] [] (NT (SQ (jK 1 [53] [] (gE [] (vo (vP (L.b ok))) (jK 1 [55] [] (NF (KX (SQ (jK 1 [56] [] (NT (zR ⟨L,by rw [show dw S d name to aB=(173,S) by grind [dw]]<;>exact⟨rfl,rfl⟩⟩))))))))))))))))))))
  have hky:(af S.O y).kind=2:=hI.kind (hlx y hx)
  exact ak.region (jK 5 [34] [] (NT (KX (ak.seq (ak.block (SR (jK 2 [39,40] [] (ar.oh (d:=(some 41)) (op:=.binOp .eql 144 (.tmp 39) (.tmp 40) 144) (v:=.bool (decide (y=tk))) (λ_=>KB) (λo ai w ho hS=>by obtain⟨F,hF⟩:=hS.get (i:=3) rfl;exact⟨w,WL ho KB KB (by rw [hky];decide) (by rw [bA];decide) hF,hS⟩) (NN (cP (y=tk) (λBr=>zR ⟨L,by rw [show dw S d name to aB=(174,S) by unfold dw;rw [eu];exact aik ⟨rfl,hbx.2 ⟨y,hx,by rw [Br];exact .here⟩⟩]<;>exact⟨rfl,rfl⟩⟩) (λBr=>KX (ak.region (jK 5 [14] [(3,v_ 3 (ag0 L hky))] (NL (tJ (((af S.O y).up)) [0,1,2,3,4,5,6] (⟨hbx.trans ⟨λ⟨y2,e,h⟩=>by grind [J3],λh=>⟨y,hx,(J3 Br).2 h⟩⟩,λz e=>((hI.up ⟨y,2⟩ (hlx y hx) z).1 e).2.1⟩) (hm:=by show Fq dp (((af S.O y).up))<Fq dp (some y);exact WN hdp))))))))))))))))
 have bA:(af S.O tk).kind=3:=hI.kind bX
 refine ak.region (jK 1 [] [] (NS (jK 5 [19,20] [(3,v_ 3 (dx L dP))] (nI 5 dP eu (jK 1 [11] [] (NZ (jK 2 [23] [] (NF (KX (SR (jK 7 [12,13] [] (NZ (jK 2 [14] [] (NN (ak.block (lJ (λ(u:Unit)=>True) (λ(u:Unit)=>0) (λ(u:Unit)=>[(0,vP f),(1,vP (L.b d)),(2,.string name),(3,vP (L.b to)),(4,.string aB),(11,.iface 141 (vP (L.b tk))),(12,.pointer none),(13,.bool false),(14,vP (L.b to))]) (λ(u:Unit)=>((pA f m t L S)++[.abs R])) () [0,1,2,3,4,5,6] (trivial) ?_))))))))))))))))
 rintro u _
 refine SQ (jK 5 [34] [] (NF (XX (ak.seq ?_))))
 skip
 rcases hI.tF dY aB with d6|⟨ok,d6,jI⟩|⟨ok,d6,jI⟩|⟨ok,d6,jI⟩
 ·refine ak.region (jK 5 [45,46] [(3,v_ 3 (dx L jv))] (nI 5 jv d6 (jK 1 [15] [] (NZ (jK 3 [50] [] (NF (KX (SQ (jK 2 [52] [] (NF (KX (SR ?_))))))))))))
  have di:bO S:=hI
  have jH:=hd
  have jZ:=eu
  have xD:=d6
  have pq:=dY
  have qv:(af S.O d).kind=2:=di.kind jH
  have xE:(af S.O to).kind=2:=di.kind pq
  have rP:aQ S.aq ⟨tk,3⟩:=(di.bS jH jZ).2
  have rR:(af S.O tk).kind=3:=di.kind rP
  have L4:(af S.O d).ah.length<=8192:=di.lZ jH
  have L5:(af S.O to).ah.length<=8192:=di.lZ pq
  have xG:=di.lb rP
  have rS:tk≠d:=di.ne jH jZ
  exact jK 3 [61,62,63] [] (gE [0,3,5] (pG S.X f m t di.hX S.O L d qv name eG ⟨tk,3⟩ rR aii jZ (di.qf jH) zc (by simp only at xG ⊢;omega)) (NS (jK 4 [65,66,67,68] [] (gE [0,1,2] (nQ {S.X with ah:=S.X.ah-1} f m t (di.Hg jH jZ) (bn S.X S.O d name ⟨tk,3⟩) L to (fF.trans xE) aB wv (qJ rS xD) (air (tO rS) zc) ⟨tk,3⟩ (fF.trans rR) aii (qU di.toInv0 jH jZ)) (NS (ar.gA [(5,.abs (aW (dS (dg S.X (bn S.X S.O d name ⟨tk,3⟩) to aB ⟨tk,3⟩) L)))] (λw hS=>by rw [show dS (dg S.X (bn S.X S.O d name ⟨tk,3⟩) to aB ⟨tk,3⟩) L=dS S.O L from mU.trans qI];exact hS) (jK 1 [10] [] (eN ⟨L,by rw [show dw S d name to aB=(0,qc S d name to aB ⟨tk,3⟩) by grind [dw]]<;>exact⟨rfl,rfl⟩⟩ [0,3,4,1,5,2,6]))))))))
 ·have rU:(af S.O ok).kind=1:=hI.kind jI
  refine ak.region (jK 5 [45,46] [(3,v_ 3 (dx L jv))] (nI 5 jv d6 (jK 1 [15] [] (NZ (jK 3 [50] [] (NF (KX (SQ (jK 2 [52] [] (NT (SQ (jK 1 [53] [] (gE [] (tP (vP (L.b ok))) (jK 1 [55] [] (NF (KX (SQ (jK 1 [56] [] (NF (KX (ak.region (jK 3 [57,58,59] [] (gE [0,3,5,1] (vr S L f m t hI to dY aB wv ⟨ok,1⟩ d6) (NS ?_))))))))))))))))))))))))
  have di:bO (aZ S to aB ⟨ok,1⟩):=hI.Gy dY d6 aii
  have hot:(⟨ok,1⟩:Th)≠⟨tk,3⟩:=λe=>by cases e
  have jH:aQ (aZ S to aB ⟨ok,1⟩).aq ⟨d,2⟩:=pz hI.toInv0 dY d6 hd (λe=>by have:=jy hd jI e;cases this)
  have pq:aQ (aZ S to aB ⟨ok,1⟩).aq ⟨to,2⟩:=pz hI.toInv0 dY d6 dY (λe=>by have:=jy dY jI e;cases this)
  have jZ:bK name (af (aZ S to aB ⟨ok,1⟩).O d).ah=some ⟨tk,3⟩:=yH hI.toInv0 dY d6 eu hot
  have xD:bK aB (af (aZ S to aB ⟨ok,1⟩).O to).ah=none:=yI hI.toInv0 dY d6
  have qv:(af (aZ S to aB ⟨ok,1⟩).O d).kind=2:=di.kind jH
  have xE:(af (aZ S to aB ⟨ok,1⟩).O to).kind=2:=di.kind pq
  have rP:aQ (aZ S to aB ⟨ok,1⟩).aq ⟨tk,3⟩:=(di.bS jH jZ).2
  have rR:(af (aZ S to aB ⟨ok,1⟩).O tk).kind=3:=di.kind rP
  have L4:(af (aZ S to aB ⟨ok,1⟩).O d).ah.length<=8192:=di.lZ jH
  have L5:(af (aZ S to aB ⟨ok,1⟩).O to).ah.length<=8192:=di.lZ pq
  have xG:=di.lb rP
  have rS:tk≠d:=di.ne jH jZ
  exact jK 3 [61,62,63] [] (gE [0,1,2] (pG (aZ S to aB ⟨ok,1⟩).X f m t di.hX (aZ S to aB ⟨ok,1⟩).O L d qv name eG ⟨tk,3⟩ rR aii jZ (di.qf jH) zc (by simp only at xG ⊢;omega)) (NS (jK 4 [65,66,67,68] [] (gE [0,1,2] (nQ { (aZ S to aB ⟨ok,1⟩).X with ah:=(aZ S to aB ⟨ok,1⟩).X.ah-1} f m t (di.Hg jH jZ) (bn (aZ S to aB ⟨ok,1⟩).X (aZ S to aB ⟨ok,1⟩).O d name ⟨tk,3⟩) L to (fF.trans xE) aB wv (qJ rS xD) (air (tO rS) zc) ⟨tk,3⟩ (fF.trans rR) aii (qU di.toInv0 jH jZ)) (NS (ar.gA [(5,.abs (aW (dS (dg (aZ S to aB ⟨ok,1⟩).X (bn (aZ S to aB ⟨ok,1⟩).X (aZ S to aB ⟨ok,1⟩).O d name ⟨tk,3⟩) to aB ⟨tk,3⟩) L)))] (λw hS=>by rw [show dS (dg (aZ S to aB ⟨ok,1⟩).X (bn (aZ S to aB ⟨ok,1⟩).X (aZ S to aB ⟨ok,1⟩).O d name ⟨tk,3⟩) to aB ⟨tk,3⟩) L=dS S.O L from mU.trans (qI.trans vm)];exact hS) (jK 1 [10] [] (eN ⟨L,by rw [show dw S d name to aB=(0,qc (aZ S to aB ⟨ok,1⟩) d name to aB ⟨tk,3⟩) by grind [dw]]<;>exact⟨rfl,rfl⟩⟩ [0,3,4,1,5,2,6]))))))))
 ·have rU:(af S.O ok).kind=2:=hI.kind jI
  exact ak.region (jK 5 [45,46] [(3,v_ 3 (dx L jv))] (nI 5 jv d6 (jK 1 [15] [] (NZ (jK 3 [50] [] (NF (KX (SQ (jK 2 [52] [] (NT (SQ (jK 1 [53] [] (gE [] (tQ (vP (L.b ok))) (jK 1 [55] [] (NT (zR ⟨L,by rw [show dw S d name to aB=(172,S) by grind [dw]]<;>exact⟨rfl,rfl⟩⟩))))))))))))))))
 have rU:(af S.O ok).kind=3:=hI.kind jI
 refine ak.region (jK 5 [45,46] [(3,v_ 3 (dx L jv))] (nI 5 jv d6 (jK 1 [15] [] (NZ (jK 2 [48,49] [] (ar.oh (d:=(some 50)) (op:=.binOp .eql 133 (.tmp 48) (.tmp 49) 133) (v:=.bool (decide (ok=tk))) (λ_=>KB) (λo ai w ho hS=>by obtain⟨F,hF⟩:=hS.get (i:=3) rfl;exact⟨w,IJ aeu ho KB KB (by rw [rU];decide) (by rw [bA];decide) hF,hS⟩) (NN (cP (ok=tk) (λh50=>zR ⟨L,by rw [show dw S d name to aB=(0,S) by grind [dw]]<;>exact⟨rfl,rfl⟩⟩) (λh50=>KX (SQ (jK 2 [52] [] (NT (SQ (jK 1 [53] [] (gE [] (vo (vP (L.b ok))) (jK 1 [55] [] (NF (KX (SQ (jK 1 [56] [] (NF (KX (ak.region (jK 3 [57,58,59] [] (gE [0,3,5,1] (vr S L f m t hI to dY aB wv ⟨ok,3⟩ d6) (NS ?_))))))))))))))))))))))))))
 have di:bO (aZ S to aB ⟨ok,3⟩):=hI.Gy dY d6 aii
 have hot:(⟨ok,3⟩:Th)≠⟨tk,3⟩:=λe=>h50 (ail Th.k e)
 have jH:aQ (aZ S to aB ⟨ok,3⟩).aq ⟨d,2⟩:=pz hI.toInv0 dY d6 hd (λe=>by have:=jy hd jI e;cases this)
 have pq:aQ (aZ S to aB ⟨ok,3⟩).aq ⟨to,2⟩:=pz hI.toInv0 dY d6 dY (λe=>by have:=jy dY jI e;cases this)
 have jZ:bK name (af (aZ S to aB ⟨ok,3⟩).O d).ah=some ⟨tk,3⟩:=yH hI.toInv0 dY d6 eu hot
 have xD:bK aB (af (aZ S to aB ⟨ok,3⟩).O to).ah=none:=yI hI.toInv0 dY d6
 have qv:(af (aZ S to aB ⟨ok,3⟩).O d).kind=2:=di.kind jH
 have xE:(af (aZ S to aB ⟨ok,3⟩).O to).kind=2:=di.kind pq
 have rP:aQ (aZ S to aB ⟨ok,3⟩).aq ⟨tk,3⟩:=(di.bS jH jZ).2
 have rR:(af (aZ S to aB ⟨ok,3⟩).O tk).kind=3:=di.kind rP
 have L4:(af (aZ S to aB ⟨ok,3⟩).O d).ah.length<=8192:=di.lZ jH
 have L5:(af (aZ S to aB ⟨ok,3⟩).O to).ah.length<=8192:=di.lZ pq
 have xG:=di.lb rP
 have rS:tk≠d:=di.ne jH jZ
 exact jK 3 [61,62,63] [] (gE [0,1,2] (pG (aZ S to aB ⟨ok,3⟩).X f m t di.hX (aZ S to aB ⟨ok,3⟩).O L d qv name eG ⟨tk,3⟩ rR aii jZ (di.qf jH) zc (by simp only at xG ⊢;omega)) (NS (jK 4 [65,66,67,68] [] (gE [0,1,2] (nQ { (aZ S to aB ⟨ok,3⟩).X with ah:=(aZ S to aB ⟨ok,3⟩).X.ah-1} f m t (di.Hg jH jZ) (bn (aZ S to aB ⟨ok,3⟩).X (aZ S to aB ⟨ok,3⟩).O d name ⟨tk,3⟩) L to (fF.trans xE) aB wv (qJ rS xD) (air (tO rS) zc) ⟨tk,3⟩ (fF.trans rR) aii (qU di.toInv0 jH jZ)) (NS (ar.gA [(5,.abs (aW (dS (dg (aZ S to aB ⟨ok,3⟩).X (bn (aZ S to aB ⟨ok,3⟩).X (aZ S to aB ⟨ok,3⟩).O d name ⟨tk,3⟩) to aB ⟨tk,3⟩) L)))] (λw hS=>by rw [show dS (dg (aZ S to aB ⟨ok,3⟩).X (bn (aZ S to aB ⟨ok,3⟩).X (aZ S to aB ⟨ok,3⟩).O d name ⟨tk,3⟩) to aB ⟨tk,3⟩) L=dS S.O L from mU.trans (qI.trans vm)];exact hS) (jK 1 [10] [] (eN ⟨L,by rw [show dw S d name to aB=(0,qc (aZ S to aB ⟨ok,3⟩) d name to aB ⟨tk,3⟩) by grind [dw]]<;>exact⟨rfl,rfl⟩⟩ [0,3,4,1,5,2,6]))))))))
end
section
open Go.RowKit Go.Maps bF aD
attribute [local irreducible] ar bN ak ay bZ
theorem M5 {β:Bs} (S:br) (L:HL) (f m t:Nat) (hI:bO S) (k:Nat) (hk:aQ S.aq ⟨k,1⟩) (A:Option Addr) (c:Nat) (bs:List UInt8) (hA:bp β A bs) (hbl:bs.length<=1099511627776) (hbc:bs.length<=c) :
 aU Tryz.prog β 211 #[vP f,vP (L.b k),.slice A (bs.length) (c)] (pA f m t L S) (λv l=>∃L2,v=.tuple #[vI (gy S k bs).1,vI (gy S k bs).2.1]/\l=(pA f m t L2 ((gy S k bs).2.2))):=by
 have hX:=hI.hX
 have hkk:(af S.O k).kind=1:=hI.kind hk
 have hdu:((af S.O k).data.length:Int)<=S.X.used:=hI.agd hk
 have hcB:=hI.cB
 refine SE Tryz.func211 Tryz.ntmps211 (λR=>SR (jK 2 [] [] (NZ (jK 3 [12] [] (NN (cP ((((bs.length:Nat):Int):Int)=(0:Int)) (λh12=>?_) (λh12=>?_)))))))
 ·have he:bs=[]:=aiZ zc
  exact zR ⟨L,by rw [show gy S k bs=(0,0,S) from aik he]<;>exact⟨rfl,rfl⟩⟩
 have jD:0<bs.length:=zc
 refine KX (ak.seq (rQ (jQ 11 [8] [(4,a_ 0 f),(8,a_ 0 f),(9,wJ (S.X.cB-S.X.used) (S.X.cB-S.X.used))] (NQ (NX (SQ (jK 2 [24] [] (NN (cP ((S.X.cB-S.X.used:Int)<=(0:Int)) (λrY=>zR ⟨L,by rw [show gy S k bs=(0,176,S) from (aij (λe=>Pe)).trans (aik rY)]<;>exact⟨rfl,rfl⟩⟩) (λrY=>KX (SR (jK 4 [28] [(3,w_ (.int .i64 (min ((bs.length:Nat):Int) (S.X.cB-S.X.used))) (ail (Value.int .i64) (ab5 _ _)))] (sl 28 (vI (min ((bs.length:Nat):Int) (S.X.cB-S.X.used))) (.int .i64 ↑(dM S.X bs.length)) (ail (Value.int .i64) (WO zc)) (jK 1 [9] [] (NN (ak.seq ?_))))))))))))))))
 have hwl:=WQ (X:=S.X) (n:=bs.length) zc
 refine ak.mem (λw hS=>hS.Ws (i:=4) (k:=k) rfl hkk) (rM (List.range 12) 8 [0,1,2,3,4,5,6] (jR 8 [0,1,9,29,33,36] [(4,v_ 3 (P9 L hkk)),(7,xP (dM S.X bs.length) ((dM S.X bs.length)<=c))] (bZ.cut (ι:=(Option Addr)×Nat) (bL:=λ((A1,c2):(Option Addr)×Nat)=>[(0,vP f),(1,vP (L.b k)),(9,vI ↑(dM S.X bs.length)),(29,vP (L.b k)),(37,.slice A1 (((af S.O k).data++bs.take (dM S.X bs.length)).length) (c2))]) (cR:=λ((A1,c2):(Option Addr)×Nat)=>[pF f m t S.X,pI m L S.aq,pT t S.X.cH S.aI L S.us,pO S.O L,.abs (aW (ol (dS S.O L) k d9.none)),pE S.O L,.abs R,.abs (aF 5 1 A1 (((af S.O k).data++bs.take (dM S.X bs.length)).length) c2 (dQ ((af S.O k).data++bs.take (dM S.X bs.length))))]) [0,1,2,3,4,5,6] rfl rfl ?_ rfl (λ_=>KB) ?_)))
 ·exact SH 7 51 A (dM S.X bs.length) c (dQ (bs.take (dM S.X bs.length))) rfl ((hA.take (dM S.X bs.length)).src) (λA1 c2=>ar.cJ 7 (p':=.abs (aF 5 1 A1 (((af S.O k).data++bs.take (dM S.X bs.length)).length) c2 (dQ ((af S.O k).data++bs.take (dM S.X bs.length))))) rfl (by rw [UE,ait,aiH,ajh hwl.1]) (sl 37 (.slice A1 (((af S.O k).data.length)+(dM S.X bs.length)) (c2)) (.slice A1 (((af S.O k).data++bs.take (dM S.X bs.length)).length) (c2)) (by rw [ait,aiH,ajh hwl.1]) (NL (MD (A1,c2) [0,1,9,29,37] [0,1,2,3,4,5,6,7])))) (hl:=by rw [t6,aiH,ajh hwl.1,Nat.mul_one]) (h1:=qw (bs.take (dM S.X bs.length)))
 rintro⟨A1,c2⟩
 refine nC [0,1,2,3,4,5,6] [38] [] [] (nC [0,1,2,3,4,5,6] [39] [] [] (bZ.last rfl rfl (ar.mem (λw hS=>hS.Fg (i:=3) (k:=k) rfl (by rw [hkk];decide) (mR (hkk)) (ail tq (hkk))) (jC 1 [] [(0,a_ 8 (L.b k))] [(8,[(9,.slice A1 (((af S.O k).data++bs.take (dM S.X bs.length)).length) (c2))])] ?_))))
 obtain⟨L2,fN⟩:∃L2:HL,L2=L.data k A1 c2:=⟨_,rfl⟩
 refine ar.mem (λw hS=>hS.aew fN (f:=(λo=>{o with data:=o.data++bs.take (dM S.X bs.length)})) (i:=3) (j:=8) (ix:=[0,1,2,4,5,6,7]) rfl rfl KB rfl (by show (af S.O k).kind≠0;rw [hkk];decide) ((mR (L:=L2) (k:=k) (o:=(λo=>{o with data:=o.data++bs.take (dM S.X bs.length)}) (af S.O k)) hkk).trans (by rw [Td fN,Te fN]<;>rfl)) (by show tq (af S.O k).kind=_;rw [hkk]<;>rfl)) (ar.mem (λw hS=>hS.aex fN (f:=(λo=>{o with data:=o.data++bs.take (dM S.X bs.length)})) (i:=4) (j:=7) (ix:=[0,1,2,3,5,6]) rfl rfl KB rfl hkk rfl rfl) (ar.gA [(3,.abs (bM Tryz.prog 3 m (cQ (cV L2 S.aq)) S.aq.length)),(4,.abs (fX 182 t S.X.cH S.aI (cV L2 S.us))),(5,.abs (aW (fZ (aX S.O k (λo=>{o with data:=o.data++bs.take (dM S.X bs.length)})) L2)))] (λw hS=>by rw [PL fN,PL fN,show fZ (aX S.O k (λo=>{o with data:=o.data++bs.take (dM S.X bs.length)})) L2=fZ S.O L from (ud (O:=S.O) (k:=k) (f:=(λo=>{o with data:=o.data++bs.take (dM S.X bs.length)})) rfl rfl).trans (ZW fN)];exact hS) ?_))
 have LZ:(af (aX S.O k (λo=>{o with data:=o.data++bs.take (dM S.X bs.length)})) k).kind=1:=(pV (f:=(λo=>{o with data:=o.data++bs.take (dM S.X bs.length)})) (λ_=>rfl)).trans hkk
 have hbk:L2.b k=L.b k:=WR fN
 generalize fI:(aX S.O k (λo=>{o with data:=o.data++bs.take (dM S.X bs.length)}))=gS at LZ ⊢
 refine NL (ay.np (NX (SR (jK 1 [40] [] (sl 40 (vP (L.b k)) (vP (L2.b k)) (by rw [hbk]) (jK 8 [45,48] [(4,A_ 2 f 2)] (Xg 1 [(5,1),(0,2)] k S.X.cS S.X.cZ LZ (λjT gq=>?_))))))))
 have FC:=ku gq LZ
 exact NS (jC 9 [] [(3,a_ 2 f),(5,wJ (S.X.used+(((dM S.X bs.length):Nat):Int)) (S.X.used+(((dM S.X bs.length):Nat):Int))),(8,a_ 2 f)] [(2,[(9,vI (S.X.used+(((dM S.X bs.length):Nat):Int)))])] (NS (jK 3 [6,7] [] (eN (l:=[pF f m t {S.X with used:=S.X.used+(((dM S.X bs.length):Nat):Int)},pI m L2 S.aq,pT t S.X.cH S.aI L2 S.us,pO jT L2,pD jT L2,pE jT L2]) (v:=(.tuple #[vI ↑(dM S.X bs.length),vI 0])) ⟨L2,by grind [gy,BU]⟩ [2,3,4,1,0,5,6]))))
theorem nR {β:Bs} (S:br) (L:HL) (f m t:Nat) (hI:bO S) (cb:Nat) (c:aH) (hC:kU β c) :
 aU Tryz.prog β 200 #[vP f,vP cb] ((pA f m t L S)++[.ax cb (aO c) 53]) (λv l=>v=agU L (jP S.O S.us c)/\l=((pA f m t L S)++[.ax cb (aO c) 53])):=by
 refine SE Tryz.func200 Tryz.ntmps200 (λR=>SR (jK 2 [] [] (NN (ak.seq (rQ (jQ 9 [10,14,18] [(4,a_ 6 cb),(8,a_ 6 cb)] ?_))))))
 rcases kV hI.toInv0 c.aG c.name 64 with ⟨e,dR,cu⟩|⟨d,dR,hd,mr,j7,iD⟩
 ·exact mY [0,2,3] [0,3,1,2,4,5,6,7] (.tuple #[.pointer none,vI (e)]) ((by have h:=jl S L f m t hI c.aG hC.hw c.name hC.nm 64 (β:=β);rw [dR] at h;exact h)) (jQ 5 [6,7] [] (NQ (NX (SQ (jK 2 [23] [] (NN (cN ((e:Int)=(0:Int)) (λh23=>zR (v:=(.tuple #[.nilIface,vI (e)])) ⟨by rw [show jP S.O S.us c=.error e by unfold jP;rw [dR]];rfl,rfl⟩) (λh23=>ain h23 cu))))))))
 have dP:(af S.O d).kind=2:=hI.kind hd
 refine mY [0,2,3] [0,3,1,2,4,5,6,7] (.tuple #[vP (L.b d),vI 0]) ((by have h:=jl S L f m t hI c.aG hC.hw c.name hC.nm 64 (β:=β);rw [dR] at h;exact h)) (jQ 5 [6,7] [] (NQ (NX (SQ (jK 2 [23] [] (NF (KX (ak.seq ?_))))))))
 have hel:(af S.O d).ah.length<=8192:=hI.lZ hd
 have ags:=hC.nm
 rcases hI.tF hd c.name with eu|⟨tk,eu,bX⟩|⟨tk,eu,bX⟩|⟨tk,eu,bX⟩
 ·exact rQ (jQ 8 [28,32] [(3,v_ 3 (dx L dP)),(7,a_ 6 cb)] (zo 5 dP eu (jQ 1 [8] [] (NQ (NX (SQ (jK 2 [35] [] (NT (zR (v:=(.tuple #[.nilIface,vI 170])) ⟨by rw [show jP S.O S.us c=.error 170 by grind [jP]];rfl,rfl⟩)))))))))
 ·have bA:(af S.O tk).kind=1:=hI.kind bX
  exact rQ (jQ 8 [28,32] [(3,v_ 3 (dx L dP)),(7,a_ 6 cb)] (zo 5 dP eu (jQ 1 [8] [] (NQ (NX (SQ (jK 2 [35] [] (NF (KX (zR (v:=(.tuple #[.iface 138 (vP (L.b tk)),vI 0])) ⟨by rw [show jP S.O S.us c=.ok ⟨tk,1⟩ by unfold jP;rw [dR];simp only;rw [eu]];rfl,rfl⟩))))))))))
 ·have bA:(af S.O tk).kind=2:=hI.kind bX
  exact rQ (jQ 8 [28,32] [(3,v_ 3 (dx L dP)),(7,a_ 6 cb)] (zo 5 dP eu (jQ 1 [8] [] (NQ (NX (SQ (jK 2 [35] [] (NF (KX (zR (v:=(.tuple #[.iface 144 (vP (L.b tk)),vI 0])) ⟨by rw [show jP S.O S.us c=.ok ⟨tk,2⟩ by unfold jP;rw [dR];simp only;rw [eu]];rfl,rfl⟩))))))))))
 have bA:(af S.O tk).kind=3:=hI.kind bX
 exact rQ (jQ 8 [28,32] [(3,v_ 3 (dx L dP)),(7,a_ 6 cb)] (zo 5 dP eu (jQ 1 [8] [] (NQ (NX (SQ (jK 2 [35] [] (NF (KX (zR (v:=(.tuple #[.iface 141 (vP (L.b tk)),vI 0])) ⟨by rw [show jP S.O S.us c=.ok ⟨tk,3⟩ by unfold jP;rw [dR];simp only;rw [eu]];rfl,rfl⟩))))))))))
theorem U8 {β:Bs} (S:br) (L:HL) (f m t:Nat) (hI:bO S) (cb:Nat) (c:aH) (hC:kU β c) :
 aU Tryz.prog β 184 #[vP f,vP cb] ((pA f m t L S)++[.ax cb (aO c) 53]) (λv l=>∃L2,v=vI (lD S c).1/\l=((pA f m t L2 ((lD S c).2.1))++[.ax cb (aO ((lD S c).2.2)) 53])):=by
 have hX:=hI.hX
 refine SE Tryz.func184 Tryz.ntmps184 (λR=>SR (jK 1 [] [] (NN (ak.seq ?_))))
 rcases hI.aer c.other with fC|⟨tk,fC,bX⟩|⟨tk,fC,bX⟩|⟨tk,fC,bX⟩
 ·exact rQ (jQ 8 [10,14] [(3,a_ 0 f),(7,a_ 6 cb)] (bN.jj 1 (d:=(some 15)) (t:=129) (K:=3) (E:=133) (b:=m) (n:=S.aq.length) (f:=(cQ (cV L S.aq))) (x:=(.tmp 10)) (ix:=(.tmp 14)) (key:=vI (c.other)) (z:=.nilIface) (kl:=(.int .i64 c.other)) (r:=none) (λ_=>KB) KB (λ_=>KB) (λ_=>KB) iZ Tryz.underlying129 (λ_=>KB) (mP hC.ow) (by rw [j8,fC];rfl) (jQ 1 [5] [] (NQ (NX (SQ (jK 2 [17] [] (NT (zR ⟨L,by rw [show (lD S c)=(141,S,c) by unfold lD;rw [fC]]<;>exact⟨rfl,rfl⟩⟩)))))))))
 ·have bA:(af S.O tk).kind=1:=hI.kind bX
  exact rQ (jQ 8 [10,14] [(3,a_ 0 f),(7,a_ 6 cb)] (bN.jj 1 (d:=(some 15)) (t:=129) (K:=3) (E:=133) (b:=m) (n:=S.aq.length) (f:=(cQ (cV L S.aq))) (x:=(.tmp 10)) (ix:=(.tmp 14)) (key:=vI (c.other)) (z:=.nilIface) (kl:=(.int .i64 c.other)) (r:=(some (iB L ⟨tk,1⟩))) (λ_=>KB) KB (λ_=>KB) (λ_=>KB) iZ Tryz.underlying129 (λ_=>KB) (mP hC.ow) (by rw [j8,fC];rfl) (jQ 1 [5] [] (NQ (NX (SQ (jK 2 [17] [] (NF (KX (SQ (jK 1 [18] [] (gE [] (tP (vP (L.b tk))) (jK 1 [20] [] (NT (zR ⟨L,by rw [show (lD S c)=(173,S,c) by grind [lD]]<;>exact⟨rfl,rfl⟩⟩)))))))))))))))
 ·have bA:(af S.O tk).kind=2:=hI.kind bX
  exact rQ (jQ 8 [10,14] [(3,a_ 0 f),(7,a_ 6 cb)] (bN.jj 1 (d:=(some 15)) (t:=129) (K:=3) (E:=133) (b:=m) (n:=S.aq.length) (f:=(cQ (cV L S.aq))) (x:=(.tmp 10)) (ix:=(.tmp 14)) (key:=vI (c.other)) (z:=.nilIface) (kl:=(.int .i64 c.other)) (r:=(some (iB L ⟨tk,2⟩))) (λ_=>KB) KB (λ_=>KB) (λ_=>KB) iZ Tryz.underlying129 (λ_=>KB) (mP hC.ow) (by rw [j8,fC];rfl) (jQ 1 [5] [] (NQ (NX (SQ (jK 2 [17] [] (NF (KX (SQ (jK 1 [18] [] (gE [] (tQ (vP (L.b tk))) (jK 1 [20] [] (NF (KX (SR (jK 1 [] [] (NS (jK 3 [22,23,24] [] (gE [0,2,3] (Bq S L f m t ⟨tk,2⟩ bA aii (by have:=hI.MK bX;simp only at this ⊢;omega)) (jC 7 [6] [(5,a_ 6 cb)] [(6,[(12,vI ((ef S ⟨tk,2⟩).1))])] (NS (ar.gA [(4,.abs (aW (dS ((ef S ⟨tk,2⟩).2.2.O) L))),(5,.abs (aW (fZ ((ef S ⟨tk,2⟩).2.2.O) L)))] (λw hS=>by rw [IL,IQ];exact hS) (jK 2 [4] [] (eN ⟨L,by rw [show (lD S c)=((ef S ⟨tk,2⟩).2.1,(ef S ⟨tk,2⟩).2.2,{c with answer:=(ef S ⟨tk,2⟩).1}) by grind [lD]]<;>exact⟨rfl,rfl⟩⟩ [0,3,1,2,4,5,6,7])))))))))))))))))))))))))
 have bA:(af S.O tk).kind=3:=hI.kind bX
 exact rQ (jQ 8 [10,14] [(3,a_ 0 f),(7,a_ 6 cb)] (bN.jj 1 (d:=(some 15)) (t:=129) (K:=3) (E:=133) (b:=m) (n:=S.aq.length) (f:=(cQ (cV L S.aq))) (x:=(.tmp 10)) (ix:=(.tmp 14)) (key:=vI (c.other)) (z:=.nilIface) (kl:=(.int .i64 c.other)) (r:=(some (iB L ⟨tk,3⟩))) (λ_=>KB) KB (λ_=>KB) (λ_=>KB) iZ Tryz.underlying129 (λ_=>KB) (mP hC.ow) (by rw [j8,fC];rfl) (jQ 1 [5] [] (NQ (NX (SQ (jK 2 [17] [] (NF (KX (SQ (jK 1 [18] [] (gE [] (vo (vP (L.b tk))) (jK 1 [20] [] (NT (zR ⟨L,by rw [show (lD S c)=(173,S,c) by grind [lD]]<;>exact⟨rfl,rfl⟩⟩)))))))))))))))
theorem N7 {β:Bs} (S:br) (L:HL) (f m t:Nat) (hI:bO S) (cb:Nat) (c:aH) (hC:kU β c) :
 aU Tryz.prog β 185 #[vP f,vP cb] ((pA f m t L S)++[.ax cb (aO c) 53]) (λv l=>∃L2,v=vI (gU S c).1/\l=((pA f m t L2 ((gU S c).2.1))++[.ax cb (aO ((gU S c).2.2)) 53])):=by
 have hX:=hI.hX
 refine SE Tryz.func185 Tryz.ntmps185 (λR=>SR (jK 1 [] [] (NS (jK 2 [8,9] [] ?_))))
 rcases J5 hI.toInv0 c with ⟨e,hnm,cu⟩|⟨tk,hnm,bX⟩|⟨tk,hnm,bX⟩|⟨tk,hnm,bX⟩
 ·exact gE [0,1,2,3,4,5,6] ((by have h:=nR S L f m t hI cb c hC (β:=β);rw [hnm] at h;exact h)) (jK 5 [5,6] [] (NZ (jK 2 [14] [] (NN (cN ((e:Int)=(0:Int)) (λmZ=>zR ⟨L,by rw [show (gU S c)=(e,S,c) by unfold gU;rw [hnm]]<;>exact⟨rfl,rfl⟩⟩) (λmZ=>ain mZ cu))))))
 ·have bA:(af S.O tk).kind=1:=hI.kind bX
  exact gE [0,1,2,3,4,5,6] ((by have h:=nR S L f m t hI cb c hC (β:=β);rw [hnm] at h;exact h)) (jK 5 [5,6] [] (NZ (jK 2 [14] [] (NF (KX (SQ (jK 1 [16] [] (NN (ak.block (SR (jK 3 [18] [] (NF (SR (jK 3 [21] [] (NT (zR ⟨L,by rw [show (gU S c)=(173,S,c) by grind [gU]]<;>exact⟨rfl,rfl⟩⟩))))))))))))))))
 ·have bA:(af S.O tk).kind=2:=hI.kind bX
  exact gE [0,1,2,3,4,5,6] ((by have h:=nR S L f m t hI cb c hC (β:=β);rw [hnm] at h;exact h)) (jK 5 [5,6] [] (NZ (jK 2 [14] [] (NF (KX (SQ (jK 1 [16] [] (NN (ak.block (SR (jK 3 [18] [] (NF (SR (jK 3 [21] [] (NF (KX (SR (jK 3 [24,25,26] [] (gE [0,2,3] (Bq S L f m t ⟨tk,2⟩ bA aii (by have:=hI.MK bX;simp only at this ⊢;omega)) (jC 7 [6] [(5,a_ 6 cb)] [(6,[(12,vI ((ef S ⟨tk,2⟩).1))])] (NS (ar.gA [(4,.abs (aW (dS ((ef S ⟨tk,2⟩).2.2.O) L))),(5,.abs (aW (fZ ((ef S ⟨tk,2⟩).2.2.O) L)))] (λw hS=>by rw [IL,IQ];exact hS) (jK 2 [4] [] (eN ⟨L,by rw [show (gU S c)=((ef S ⟨tk,2⟩).2.1,(ef S ⟨tk,2⟩).2.2,{c with answer:=(ef S ⟨tk,2⟩).1}) by grind [gU]]<;>exact⟨rfl,rfl⟩⟩ [0,3,1,2,4,5,6,7]))))))))))))))))))))))))
 have bA:(af S.O tk).kind=3:=hI.kind bX
 exact gE [0,1,2,3,4,5,6] ((by have h:=nR S L f m t hI cb c hC (β:=β);rw [hnm] at h;exact h)) (jK 5 [5,6] [] (NZ (jK 2 [14] [] (NF (KX (SQ (jK 1 [16] [] (NN (ak.block (SR (jK 3 [18] [] (NT (zR ⟨L,by rw [show (gU S c)=(174,S,c) by grind [gU]]<;>exact⟨rfl,rfl⟩⟩)))))))))))))
theorem L6 {β:Bs} (S:br) (L:HL) (f m t:Nat) (hI:bO S) (cb:Nat) (c:aH) (hC:kU β c) :
 aU Tryz.prog β 186 #[vP f,vP cb] ((pA f m t L S)++[.ax cb (aO c) 53]) (λv l=>∃L2,v=vI (fS S c).1/\l=((pA f m t L2 ((fS S c).2.1))++[.ax cb (aO ((fS S c).2.2)) 53])):=by
 have hX:=hI.hX
 refine SE Tryz.func186 Tryz.ntmps186 (λR=>SR (jK 1 [] [] (NS (jK 2 [8,9] [] ?_))))
 rcases J5 hI.toInv0 c with ⟨e,hnm,cu⟩|⟨tk,hnm,bX⟩|⟨tk,hnm,bX⟩|⟨tk,hnm,bX⟩
 ·exact gE [0,1,2,3,4,5,6] ((by have h:=nR S L f m t hI cb c hC (β:=β);rw [hnm] at h;exact h)) (jK 5 [5,6] [] (NZ (jK 2 [14] [] (NN (cN ((e:Int)=(0:Int)) (λmZ=>zR ⟨L,by rw [show (fS S c)=(e,S,c) by unfold fS;rw [hnm]]<;>exact⟨rfl,rfl⟩⟩) (λmZ=>ain mZ cu))))))
 ·have bA:(af S.O tk).kind=1:=hI.kind bX
  exact gE [0,1,2,3,4,5,6] ((by have h:=nR S L f m t hI cb c hC (β:=β);rw [hnm] at h;exact h)) (jK 5 [5,6] [] (NZ (jK 2 [14] [] (NF (KX (SQ (jK 1 [16] [] (NN (ak.block (SR (jK 3 [18] [] (NF (SR (jK 3 [21] [] (NF (KX (SR (jK 3 [24,25,26] [] (gE [0,2,3] (Bq S L f m t ⟨tk,1⟩ bA aii (by have:=hI.MK bX;simp only at this ⊢;omega)) (jC 7 [6] [(5,a_ 6 cb)] [(6,[(12,vI ((ef S ⟨tk,1⟩).1))])] (NS (ar.gA [(4,.abs (aW (dS ((ef S ⟨tk,1⟩).2.2.O) L))),(5,.abs (aW (fZ ((ef S ⟨tk,1⟩).2.2.O) L)))] (λw hS=>by rw [IL,IQ];exact hS) (jK 2 [4] [] (eN ⟨L,by rw [show (fS S c)=((ef S ⟨tk,1⟩).2.1,(ef S ⟨tk,1⟩).2.2,{c with answer:=(ef S ⟨tk,1⟩).1}) by grind [fS]]<;>exact⟨rfl,rfl⟩⟩ [0,3,1,2,4,5,6,7]))))))))))))))))))))))))
 ·have bA:(af S.O tk).kind=2:=hI.kind bX
  exact gE [0,1,2,3,4,5,6] ((by have h:=nR S L f m t hI cb c hC (β:=β);rw [hnm] at h;exact h)) (jK 5 [5,6] [] (NZ (jK 2 [14] [] (NF (KX (SQ (jK 1 [16] [] (NN (ak.block (SR (jK 3 [18] [] (NF (SR (jK 3 [21] [] (NT (zR ⟨L,by rw [show (fS S c)=(172,S,c) by grind [fS]]<;>exact⟨rfl,rfl⟩⟩))))))))))))))))
 have bA:(af S.O tk).kind=3:=hI.kind bX
 exact gE [0,1,2,3,4,5,6] ((by have h:=nR S L f m t hI cb c hC (β:=β);rw [hnm] at h;exact h)) (jK 5 [5,6] [] (NZ (jK 2 [14] [] (NF (KX (SQ (jK 1 [16] [] (NN (ak.block (SR (jK 3 [18] [] (NT (zR ⟨L,by rw [show (fS S c)=(174,S,c) by grind [fS]]<;>exact⟨rfl,rfl⟩⟩)))))))))))))
theorem Sb {β:Bs} (S:br) (L:HL) (f m t:Nat) (hI:bO S) (cb:Nat) (c:aH) (hC:kU β c) :
 aU Tryz.prog β 187 #[vP f,vP cb] ((pA f m t L S)++[.ax cb (aO c) 53]) (λv l=>∃L2,v=vI (iP S c).1/\l=((pA f m t L2 ((iP S c).2.1))++[.ax cb (aO ((iP S c).2.2)) 53])):=by
 have hX:=hI.hX
 refine SE Tryz.func187 Tryz.ntmps187 (λR=>SR (jK 1 [] [] (NN (ak.seq (rQ (jQ 9 [8,12,16] [(4,a_ 6 cb),(8,a_ 6 cb)] ?_))))))
 rcases kV hI.toInv0 c.aG c.name 192 with ⟨e,dR,cu⟩|⟨d,dR,hd,mr,j7,iD⟩
 ·exact mY [0,2,3] [0,3,1,2,4,5,6,7] (.tuple #[.pointer none,vI (e)]) ((by have h:=jl S L f m t hI c.aG hC.hw c.name hC.nm 192 (β:=β);rw [dR] at h;exact h)) (jQ 5 [5,6] [] (NQ (NX (SQ (jK 2 [21] [] (NN (cN ((e:Int)=(0:Int)) (λsX=>zR ⟨L,by rw [show (iP S c)=(e,S,c) by unfold iP;rw [dR]]<;>exact⟨rfl,rfl⟩⟩) (λsX=>ain sX cu))))))))
 have dP:(af S.O d).kind=2:=hI.kind hd
 refine mY [0,2,3] [0,3,1,2,4,5,6,7] (.tuple #[vP (L.b d),vI 0]) ((by have h:=jl S L f m t hI c.aG hC.hw c.name hC.nm 192 (β:=β);rw [dR] at h;exact h)) (jQ 5 [5,6] [] (NQ (NX (SQ (jK 2 [21] [] (NF (KX (SQ (jK 4 [26] [(3,a_ 6 cb)] (gE [] (kY (c.mode) 4095) (jK 1 [28] [] (NN (cN (0<=c.mode/\c.mode<=4095) (λwH=>zR ⟨L,by rw [show (iP S c)=(120,S,c) by unfold iP;rw [dR];exact aij wH]<;>exact⟨rfl,rfl⟩⟩) (λwH=>KX (ak.seq (rM (List.range 12) 10 [6] (jR 10 [29,30,34,38] [(5,a_ 0 cb),(9,a_ 0 cb)] (mL [6] [0,1,2,3,4,5] (M0 S L f m t hI d hd c.name hC.nm c.mode) ?_ (by rintro _ _ ⟨L2,rfl,rfl⟩;rfl)))))))))))))))))))
 rintro _ _ ⟨L2,rfl,rfl⟩
 exact bZ.last rfl rfl (jK 1 [4] [] (NL (ay.np (NX (ak.ret (RT _ [0,1,2,3,4,5,6,7] (⟨L2,by rw [show (iP S c)=((mT S d c.name c.mode).1,(mT S d c.name c.mode).2,c) by unfold iP;rw [dR];exact aik wH]<;>exact⟨rfl,rfl⟩⟩)))))))
theorem N8 {β:Bs} (S:br) (L:HL) (f m t:Nat) (hI:bO S) (cb:Nat) (c:aH) (hC:kU β c) :
 aU Tryz.prog β 189 #[vP f,vP cb] ((pA f m t L S)++[.ax cb (aO c) 53]) (λv l=>∃L2,v=vI (iF S c).1/\l=((pA f m t L2 ((iF S c).2.1))++[.ax cb (aO ((iF S c).2.2)) 53])):=by
 have hX:=hI.hX
 refine SE Tryz.func189 Tryz.ntmps189 (λR=>SR (jK 1 [] [] (NN (ak.seq (rQ (jQ 9 [8,12,16] [(4,a_ 6 cb),(8,a_ 6 cb)] ?_))))))
 rcases kV hI.toInv0 c.aG c.name 192 with ⟨e,dR,cu⟩|⟨d,dR,hd,mr,j7,iD⟩
 ·exact mY [0,2,3] [0,3,1,2,4,5,6,7] (.tuple #[.pointer none,vI (e)]) ((by have h:=jl S L f m t hI c.aG hC.hw c.name hC.nm 192 (β:=β);rw [dR] at h;exact h)) (jQ 5 [5,6] [] (NQ (NX (SQ (jK 2 [21] [] (NN (cN ((e:Int)=(0:Int)) (λsX=>zR ⟨L,by rw [show (iF S c)=(e,S,c) by unfold iF;rw [dR]]<;>exact⟨rfl,rfl⟩⟩) (λsX=>ain sX cu))))))))
 have dP:(af S.O d).kind=2:=hI.kind hd
 refine mY [0,2,3] [0,3,1,2,4,5,6,7] (.tuple #[vP (L.b d),vI 0]) ((by have h:=jl S L f m t hI c.aG hC.hw c.name hC.nm 192 (β:=β);rw [dR] at h;exact h)) (jQ 5 [5,6] [] (NQ (NX (SQ (jK 2 [21] [] (NF (KX (ak.seq (rM (List.range 12) 10 [6] (jR 10 [23,24,28,32] [(5,a_ 0 cb),(9,a_ 0 cb)] (mL [6] [0,1,2,3,4,5] (Ht S L f m t hI d hd c.name hC.nm c.text hC.tx) ?_ (by rintro _ _ ⟨L2,rfl,rfl⟩;rfl))))))))))))
 rintro _ _ ⟨L2,rfl,rfl⟩
 exact bZ.last rfl rfl (jK 1 [4] [] (NL (ay.np (NX (ak.ret (RT _ [0,1,2,3,4,5,6,7] (⟨L2,by rw [show (iF S c)=((jt S d c.name c.text).1,(jt S d c.name c.text).2,c) by unfold iF;rw [dR]]<;>exact⟨rfl,rfl⟩⟩)))))))
theorem Qf {β:Bs} (S:br) (L:HL) (f m t:Nat) (hI:bO S) (cb:Nat) (c:aH) (hC:kU β c) :
 aU Tryz.prog β 191 #[vP f,vP cb] ((pA f m t L S)++[.ax cb (aO c) 53]) (λv l=>∃L2,v=vI (jk S c).1/\l=((pA f m t L2 ((jk S c).2.1))++[.ax cb (aO ((jk S c).2.2)) 53])):=by
 have hX:=hI.hX
 refine SE Tryz.func191 Tryz.ntmps191 (λR=>SR (jK 1 [] [] (NN (ak.seq (rQ (jQ 9 [8,12,16] [(4,a_ 6 cb),(8,a_ 6 cb)] ?_))))))
 rcases kV hI.toInv0 c.aG c.name 192 with ⟨e,dR,cu⟩|⟨d,dR,hd,mr,j7,iD⟩
 ·exact mY [0,2,3] [0,3,1,2,4,5,6,7] (.tuple #[.pointer none,vI (e)]) ((by have h:=jl S L f m t hI c.aG hC.hw c.name hC.nm 192 (β:=β);rw [dR] at h;exact h)) (jQ 5 [5,6] [] (NQ (NX (SQ (jK 2 [21] [] (NN (cN ((e:Int)=(0:Int)) (λsX=>zR ⟨L,by rw [show (jk S c)=(e,S,c) by unfold jk;rw [dR]]<;>exact⟨rfl,rfl⟩⟩) (λsX=>ain sX cu))))))))
 have dP:(af S.O d).kind=2:=hI.kind hd
 exact mY [0,2,3] [0,3,1,2,4,5,6,7] (.tuple #[vP (L.b d),vI 0]) ((by have h:=jl S L f m t hI c.aG hC.hw c.name hC.nm 192 (β:=β);rw [dR] at h;exact h)) (jQ 5 [5,6] [] (NQ (NX (SQ (jK 2 [21] [] (NF (KX (SR (jK 6 [23,24,28] [(5,a_ 6 cb)] (gX [0,1,2,3,4,5] (Kl S L f m t hI d hd c.name hC.nm) (λL2=>jK 1 [4] [] (eN ⟨L2,by rw [show (jk S c)=((iE S d c.name).1,(iE S d c.name).2,c) by unfold jk;rw [dR]]<;>exact⟨rfl,rfl⟩⟩))))))))))))
theorem Sc {β:Bs} (S:br) (L:HL) (f m t:Nat) (hI:bO S) (cb:Nat) (c:aH) (hC:kU β c) :
 aU Tryz.prog β 197 #[vP f,vP cb] ((pA f m t L S)++[.ax cb (aO c) 53]) (λv l=>∃L2,v=vI (kz S c).1/\l=((pA f m t L2 ((kz S c).2.1))++[.ax cb (aO ((kz S c).2.2)) 53])):=by
 have hX:=hI.hX
 refine SE Tryz.func197 Tryz.ntmps197 (λR=>SR (jK 1 [] [] (NN (ak.seq (rQ (jQ 9 [8,12,16] [(4,a_ 6 cb),(8,a_ 6 cb)] ?_))))))
 rcases kV hI.toInv0 c.aG c.name 192 with ⟨e,dR,cu⟩|⟨d,dR,hd,mr,j7,iD⟩
 ·exact mY [0,2,3] [0,3,1,2,4,5,6,7] (.tuple #[.pointer none,vI (e)]) ((by have h:=jl S L f m t hI c.aG hC.hw c.name hC.nm 192 (β:=β);rw [dR] at h;exact h)) (jQ 5 [5,6] [] (NQ (NX (SQ (jK 2 [21] [] (NN (cN ((e:Int)=(0:Int)) (λsX=>zR ⟨L,by rw [show (kz S c)=(e,S,c) by unfold kz;rw [dR]]<;>exact⟨rfl,rfl⟩⟩) (λsX=>ain sX cu))))))))
 have dP:(af S.O d).kind=2:=hI.kind hd
 exact mY [0,2,3] [0,3,1,2,4,5,6,7] (.tuple #[vP (L.b d),vI 0]) ((by have h:=jl S L f m t hI c.aG hC.hw c.name hC.nm 192 (β:=β);rw [dR] at h;exact h)) (jQ 5 [5,6] [] (NQ (NX (SQ (jK 2 [21] [] (NF (KX (SR (jK 6 [23,24,28] [(5,a_ 6 cb)] (gX [0,1,2,3,4,5] (M4 S L f m t hI d hd c.name hC.nm) (λL2=>jK 1 [4] [] (eN ⟨L2,by rw [show (kz S c)=((jf S d c.name).1,(jf S d c.name).2,c) by unfold kz;rw [dR]]<;>exact⟨rfl,rfl⟩⟩))))))))))))
theorem Qg {β:Bs} (S:br) (L:HL) (f m t:Nat) (hI:bO S) (cb:Nat) (c:aH) (hC:kU β c) :
 aU Tryz.prog β 198 #[vP f,vP cb] ((pA f m t L S)++[.ax cb (aO c) 53]) (λv l=>∃L2,v=vI (iW S c).1/\l=((pA f m t L2 ((iW S c).2.1))++[.ax cb (aO ((iW S c).2.2)) 53])):=by
 have hX:=hI.hX
 refine SE Tryz.func198 Tryz.ntmps198 (λR=>SR (jK 1 [] [] (NN (ak.seq (rQ (jQ 9 [9,13,17] [(4,a_ 6 cb),(8,a_ 6 cb)] ?_))))))
 rcases kV hI.toInv0 c.aG c.name 192 with ⟨e,dR,cu⟩|⟨d,dR,hd,mr,j7,iD⟩
 ·exact mY [0,2,3] [0,3,1,2,4,5,6,7] (.tuple #[.pointer none,vI (e)]) ((by have h:=jl S L f m t hI c.aG hC.hw c.name hC.nm 192 (β:=β);rw [dR] at h;exact h)) (jQ 5 [5,6] [] (NQ (NX (SQ (jK 2 [22] [] (NN (cN ((e:Int)=(0:Int)) (λsU=>zR ⟨L,by rw [show (iW S c)=(e,S,c) by unfold iW;rw [dR]]<;>exact⟨rfl,rfl⟩⟩) (λsU=>ain sU cu))))))))
 have dP:(af S.O d).kind=2:=hI.kind hd
 refine mY [0,2,3] [0,3,1,2,4,5,6,7] (.tuple #[vP (L.b d),vI 0]) ((by have h:=jl S L f m t hI c.aG hC.hw c.name hC.nm 192 (β:=β);rw [dR] at h;exact h)) (jQ 5 [5,6] [] (NQ (NX (SQ (jK 2 [22] [] (NF (KX (ak.seq (rQ (jQ 9 [25,29,33] [(4,a_ 6 cb),(8,a_ 6 cb)] ?_))))))))))
 rcases kV hI.toInv0 c.other c.text 192 with ⟨e2,I0,Qh⟩|⟨to,I0,hd2,aeM,aan,ag8⟩
 ·exact mY [0,2,3] [0,3,1,2,4,5,6,7] (.tuple #[.pointer none,vI (e2)]) ((by have h:=jl S L f m t hI c.other hC.ow c.text hC.tx 192 (β:=β);rw [I0] at h;exact h)) (jQ 5 [6,7] [] (NQ (NX (SQ (jK 2 [38] [] (NN (cN ((e2:Int)=(0:Int)) (λE7=>zR ⟨L,by rw [show (iW S c)=(e2,S,c) by grind [iW]]<;>exact⟨rfl,rfl⟩⟩) (λE7=>ain E7 Qh))))))))
 have jv:(af S.O to).kind=2:=hI.kind hd2
 refine mY [0,2,3] [0,3,1,2,4,5,6,7] (.tuple #[vP (L.b to),vI 0]) ((by have h:=jl S L f m t hI c.other hC.ow c.text hC.tx 192 (β:=β);rw [I0] at h;exact h)) (jQ 5 [6,7] [] (NQ (NX (SQ (jK 2 [38] [] (NF (KX (ak.seq (rM (List.range 13) 11 [6] (jR 11 [40,41,45,46,50] [(5,a_ 0 cb),(10,a_ 0 cb)] (mL [6] [0,1,2,3,4,5] (Km S L f m t hI d hd c.name hC.nm to hd2 c.text hC.tx) ?_ (by rintro _ _ ⟨L2,rfl,rfl⟩;rfl))))))))))))
 rintro _ _ ⟨L2,rfl,rfl⟩
 exact bZ.last rfl rfl (jK 1 [4] [] (NL (ay.np (NX (ak.ret (RT _ [0,1,2,3,4,5,6,7] (⟨L2,by rw [show (iW S c)=((dw S d c.name to c.text).1,(dw S d c.name to c.text).2,c) by grind [iW]]<;>exact⟨rfl,rfl⟩⟩)))))))
end
section
open Go.RowKit Go.Maps bF aD
attribute [local irreducible] ar bN ak ay eH bZ
abbrev zh1:=([(2,vI 0),(6,vI 0),(7,vI 0),(8,vI 0),(9,vI 0),(10,vI 0)]:Fr)
abbrev zh2 (S:br) (tk:Nat):=([(9,vI ((af S.O tk).aT)),(10,vI ((af S.O tk).aJ))]:Fr)
theorem U9 {β:Bs} (S:br) (L:HL) (f m t:Nat) (hI:bO S) (cb:Nat) (c:aH) (hC:kU β c) :
 aU Tryz.prog β 190 #[vP f,vP cb] ((pA f m t L S)++[.ax cb (aO c) 53]) (λv l=>∃L2,v=vI (dV S c).1/\l=((pA f m t L2 ((dV S c).2.1))++[.ax cb (aO ((dV S c).2.2)) 53])):=by
 have hX:=hI.hX
 refine SE Tryz.func190 Tryz.ntmps190 (λR=>SR (jK 1 [] [] (NN (ak.seq (rQ (jQ 9 [10,14,18] [(4,a_ 6 cb),(8,a_ 6 cb)] ?_))))))
 rcases kV hI.toInv0 c.aG c.name 64 with ⟨e,dR,cu⟩|⟨d,dR,hd,mr,j7,iD⟩
 ·exact mY [0,2,3] [0,3,1,2,4,5,6,7] (.tuple #[.pointer none,vI (e)]) ((by have h:=jl S L f m t hI c.aG hC.hw c.name hC.nm 64 (β:=β);rw [dR] at h;exact h)) (jQ 5 [5,6] [] (NQ (NX (SQ (jK 2 [23] [] (NN (cN ((e:Int)=(0:Int)) (λh23=>zR ⟨L,by rw [show (dV S c)=(e,S,c) by unfold dV;rw [dR]]<;>exact⟨rfl,rfl⟩⟩) (λh23=>ain h23 cu))))))))
 have dP:(af S.O d).kind=2:=hI.kind hd
 refine mY [0,2,3] [0,3,1,2,4,5,6,7] (.tuple #[vP (L.b d),vI 0]) ((by have h:=jl S L f m t hI c.aG hC.hw c.name hC.nm 64 (β:=β);rw [dR] at h;exact h)) (jQ 5 [5,6] [] (NQ (NX (SQ (jK 2 [23] [] (NF (KX (ak.seq (rQ (jQ 9 [26,30,34] [(4,a_ 6 cb),(8,a_ 6 cb)] ?_))))))))))
 rcases kV hI.toInv0 c.other c.text 192 with ⟨e2,I0,Qh⟩|⟨to,I0,hd2,aeM,aan,ag8⟩
 ·exact mY [0,2,3] [0,3,1,2,4,5,6,7] (.tuple #[.pointer none,vI (e2)]) ((by have h:=jl S L f m t hI c.other hC.ow c.text hC.tx 192 (β:=β);rw [I0] at h;exact h)) (jQ 5 [6,7] [] (NQ (NX (SQ (jK 2 [39] [] (NN (cN ((e2:Int)=(0:Int)) (λnN=>zR ⟨L,by rw [show (dV S c)=(e2,S,c) by grind [dV]]<;>exact⟨rfl,rfl⟩⟩) (λnN=>ain nN Qh))))))))
 have jv:(af S.O to).kind=2:=hI.kind hd2
 refine mY [0,2,3] [0,3,1,2,4,5,6,7] (.tuple #[vP (L.b to),vI 0]) ((by have h:=jl S L f m t hI c.other hC.ow c.text hC.tx 192 (β:=β);rw [I0] at h;exact h)) (jQ 5 [6,7] [] (NQ (NX (SQ (jK 2 [39] [] (NF (KX (ak.seq ?_))))))))
 have hel:(af S.O d).ah.length<=8192:=hI.lZ hd
 have ags:=hC.nm
 rcases hI.tF hd c.name with eu|⟨tk,eu,bX⟩|⟨tk,eu,bX⟩|⟨tk,eu,bX⟩
 ·exact rQ (jQ 8 [44,48] [(3,v_ 3 (dx L dP)),(7,a_ 6 cb)] (zo 5 dP eu (jQ 1 [8] [] (NQ (NX (ak.seq (ak.block (SR (jK 3 [50] [] (NT (zR ⟨L,by rw [show (dV S c)=(170,S,c) by grind [dV,nU]]<;>exact⟨rfl,rfl⟩⟩)))))))))))
 ·have bA:(af S.O tk).kind=1:=hI.kind bX
  refine rQ (jQ 8 [44,48] [(3,v_ 3 (dx L dP)),(7,a_ 6 cb)] (zo 5 dP eu (jQ 1 [8] [] (NQ (NX (ak.seq (ak.block (SR (jK 3 [50] [] (NF (SR (jK 1 [54] [] (gE [] (tP (vP (L.b tk))) (jK 2 [53] [] (NF (ak.seq ?_))))))))))))))))
  have I3:(af S.O to).ah.length<=8192:=hI.lZ hd2
  have Xk:=hC.tx
  rcases hI.tF hd2 c.text with d6|⟨ok,d6,jI⟩|⟨ok,d6,jI⟩|⟨ok,d6,jI⟩
  ·exact rQ (jQ 8 [61,65] [(3,v_ 3 (dx L jv)),(7,a_ 6 cb)] (zo 5 jv d6 (jQ 2 [57] [] (NQ (NX (CF (SR (jK 1 [69] [] (gE [0] (CU S.X f m t) (jK 2 [68] [] (NN (cN (S.X.ah<8192) (λh68=>zR ⟨L,by rw [show (dV S c)=(177,S,c) by grind [dV,nU]]<;>exact⟨rfl,rfl⟩⟩) (λh68=>KX (SR (jK 7 [72,73,77,78] [(5,a_ 6 cb)] (gE [0,3,5] (nQ S.X f m t hX S.O L to jv c.text hC.tx d6 zc ⟨tk,1⟩ bA aii (by have:=hI.lb bX;simp only at this ⊢;omega)) (NS (ar.gA [(5,.abs (aW (dS (dg S.X S.O to c.text ⟨tk,1⟩) L)))] (λw hS=>by rw [show dS (dg S.X S.O to c.text ⟨tk,1⟩) L=dS S.O L from mU];exact hS) (jK 1 [4] [] (eN ⟨L,by rw [show (dV S c)=(0,{S with X:={S.X with ah:=S.X.ah+1},O:=dg S.X S.O to c.text ⟨tk,1⟩},c) by grind [dV,nU,dg]]<;>exact⟨rfl,rfl⟩⟩ [0,3,4,1,5,2,6,7]))))))))))))))))))))
  ·have rU:(af S.O ok).kind=1:=hI.kind jI
   exact rQ (jQ 8 [61,65] [(3,v_ 3 (dx L jv)),(7,a_ 6 cb)] (zo 5 jv d6 (jQ 2 [57] [] (NQ (NX (CT (zR ⟨L,by rw [show (dV S c)=(171,S,c) by grind [dV,nU]]<;>exact⟨rfl,rfl⟩⟩)))))))
  ·have rU:(af S.O ok).kind=2:=hI.kind jI
   exact rQ (jQ 8 [61,65] [(3,v_ 3 (dx L jv)),(7,a_ 6 cb)] (zo 5 jv d6 (jQ 2 [57] [] (NQ (NX (CT (zR ⟨L,by rw [show (dV S c)=(171,S,c) by grind [dV,nU]]<;>exact⟨rfl,rfl⟩⟩)))))))
  have rU:(af S.O ok).kind=3:=hI.kind jI
  exact rQ (jQ 8 [61,65] [(3,v_ 3 (dx L jv)),(7,a_ 6 cb)] (zo 5 jv d6 (jQ 2 [57] [] (NQ (NX (CT (zR ⟨L,by rw [show (dV S c)=(171,S,c) by grind [dV,nU]]<;>exact⟨rfl,rfl⟩⟩)))))))
 ·have bA:(af S.O tk).kind=2:=hI.kind bX
  exact rQ (jQ 8 [44,48] [(3,v_ 3 (dx L dP)),(7,a_ 6 cb)] (zo 5 dP eu (jQ 1 [8] [] (NQ (NX (ak.seq (ak.block (SR (jK 3 [50] [] (NF (SR (jK 1 [54] [] (gE [] (tQ (vP (L.b tk))) (jK 2 [53] [] (NT (zR ⟨L,by rw [show (dV S c)=(172,S,c) by grind [dV,nU]]<;>exact⟨rfl,rfl⟩⟩))))))))))))))))
 have bA:(af S.O tk).kind=3:=hI.kind bX
 refine rQ (jQ 8 [44,48] [(3,v_ 3 (dx L dP)),(7,a_ 6 cb)] (zo 5 dP eu (jQ 1 [8] [] (NQ (NX (ak.seq (ak.block (SR (jK 3 [50] [] (NF (SR (jK 1 [54] [] (gE [] (vo (vP (L.b tk))) (jK 2 [53] [] (NF (ak.seq ?_))))))))))))))))
 have I3:(af S.O to).ah.length<=8192:=hI.lZ hd2
 have Xk:=hC.tx
 rcases hI.tF hd2 c.text with d6|⟨ok,d6,jI⟩|⟨ok,d6,jI⟩|⟨ok,d6,jI⟩
 ·exact rQ (jQ 8 [61,65] [(3,v_ 3 (dx L jv)),(7,a_ 6 cb)] (zo 5 jv d6 (jQ 2 [57] [] (NQ (NX (CF (SR (jK 1 [69] [] (gE [0] (CU S.X f m t) (jK 2 [68] [] (NN (cN (S.X.ah<8192) (λh68=>zR ⟨L,by rw [show (dV S c)=(177,S,c) by grind [dV,nU]]<;>exact⟨rfl,rfl⟩⟩) (λh68=>KX (SR (jK 7 [72,73,77,78] [(5,a_ 6 cb)] (gE [0,3,5] (nQ S.X f m t hX S.O L to jv c.text hC.tx d6 zc ⟨tk,3⟩ bA aii (by have:=hI.lb bX;simp only at this ⊢;omega)) (NS (ar.gA [(5,.abs (aW (dS (dg S.X S.O to c.text ⟨tk,3⟩) L)))] (λw hS=>by rw [show dS (dg S.X S.O to c.text ⟨tk,3⟩) L=dS S.O L from mU];exact hS) (jK 1 [4] [] (eN ⟨L,by rw [show (dV S c)=(0,{S with X:={S.X with ah:=S.X.ah+1},O:=dg S.X S.O to c.text ⟨tk,3⟩},c) by grind [dV,nU,dg]]<;>exact⟨rfl,rfl⟩⟩ [0,3,4,1,5,2,6,7]))))))))))))))))))))
 ·have rU:(af S.O ok).kind=1:=hI.kind jI
  exact rQ (jQ 8 [61,65] [(3,v_ 3 (dx L jv)),(7,a_ 6 cb)] (zo 5 jv d6 (jQ 2 [57] [] (NQ (NX (CT (zR ⟨L,by rw [show (dV S c)=(171,S,c) by grind [dV,nU]]<;>exact⟨rfl,rfl⟩⟩)))))))
 ·have rU:(af S.O ok).kind=2:=hI.kind jI
  exact rQ (jQ 8 [61,65] [(3,v_ 3 (dx L jv)),(7,a_ 6 cb)] (zo 5 jv d6 (jQ 2 [57] [] (NQ (NX (CT (zR ⟨L,by rw [show (dV S c)=(171,S,c) by grind [dV,nU]]<;>exact⟨rfl,rfl⟩⟩)))))))
 have rU:(af S.O ok).kind=3:=hI.kind jI
 exact rQ (jQ 8 [61,65] [(3,v_ 3 (dx L jv)),(7,a_ 6 cb)] (zo 5 jv d6 (jQ 2 [57] [] (NQ (NX (CT (zR ⟨L,by rw [show (dV S c)=(171,S,c) by grind [dV,nU]]<;>exact⟨rfl,rfl⟩⟩)))))))
theorem Sd {β:Bs} (S:br) (L:HL) (f m t:Nat) (hI:bO S) (cb:Nat) (c:aH) (hC:kU β c) :
 aU Tryz.prog β 192 #[vP f,vP cb] ((pA f m t L S)++[.ax cb (aO c) 53]) (λv l=>∃L2,v=vI (iw S c).1/\l=((pA f m t L2 ((iw S c).2.1))++[.ax cb (aO ((iw S c).2.2)) 53])):=by
 have hX:=hI.hX
 refine SE Tryz.func192 Tryz.ntmps192 (λR=>ak.seq ?_)
 rcases hI.hand c.aG with iD|⟨tk,iD,bX⟩|⟨tk,iD,bX⟩
 ·exact ak.region (jK 1 [] [] (NN (ak.seq (rQ (jQ 8 [13,17] [(3,a_ 0 f),(7,a_ 6 cb)] (mY [2] [1,2,0,3,4,5,6,7] (.tuple #[.nilIface,vI 131]) (yB t S.X.cH S.aI (cV L S.us) c.aG hC.hw (xk iD)) (jQ 5 [5,6] [] (NQ (NX (SQ (jK 2 [22] [] (NT (zR ⟨L,by rw [show (iw S c)=(131,S,c) by unfold iw;rw [iD]]<;>exact⟨rfl,rfl⟩⟩)))))))))))))
 ·have bA:(af S.O tk).kind=1:=hI.kind bX
  exact ak.region (jK 1 [] [] (NN (ak.seq (rQ (jQ 8 [13,17] [(3,a_ 0 f),(7,a_ 6 cb)] (mY [2] [1,2,0,3,4,5,6,7] (.tuple #[.iface 138 (vP (L.b tk)),vI 0]) (sF t S.X.cH S.aI (cV L S.us) c.aG hC.hw (iB L ⟨tk,1⟩) (qR iD)) (jQ 5 [5,6] [] (NQ (NX (SQ (jK 2 [22] [] (NF (KX (SR (jK 7 [7,8] [] (NZ (jK 2 [30] [] (NF (KX (SR (jK 7 [32,33,34,38] [(6,a_ 6 cb)] (gX [0,1,2,3,4,5] (M5 S L f m t hI tk bX c.dA c.dC c.data hC.da hC.dl hC.dc) (λL2=>jC 7 [6] [(5,a_ 6 cb)] [(6,[(12,vI ((gy S tk c.data).1))])] (NS (jK 2 [4] [] (eN ⟨L2,by rw [show (iw S c)=((gy S tk c.data).2.1,(gy S tk c.data).2.2,{c with answer:=(gy S tk c.data).1}) by grind [iw]]<;>exact⟨rfl,rfl⟩⟩))))))))))))))))))))))))))
 have bA:(af S.O tk).kind=2:=hI.kind bX
 exact ak.region (jK 1 [] [] (NN (ak.seq (rQ (jQ 8 [13,17] [(3,a_ 0 f),(7,a_ 6 cb)] (mY [2] [1,2,0,3,4,5,6,7] (.tuple #[.iface 144 (vP (L.b tk)),vI 0]) (sF t S.X.cH S.aI (cV L S.us) c.aG hC.hw (iB L ⟨tk,2⟩) (qR iD)) (jQ 5 [5,6] [] (NQ (NX (SQ (jK 2 [22] [] (NF (KX (SR (jK 7 [7,8] [] (NZ (jK 2 [30] [] (NT (zR ⟨L,by rw [show (iw S c)=(172,S,c) by grind [iw]]<;>exact⟨rfl,rfl⟩⟩)))))))))))))))))))
theorem vu {β:Bs} (S:br) (L:HL) (hI:bO S) (cb:Nat) (c:aH) (ot:Option Th) (ht:ot=none\/(∃k,ot=some ⟨k,1⟩/\aQ S.aq ⟨k,1⟩)\/(∃k,ot=some ⟨k,2⟩/\aQ S.aq ⟨k,2⟩)\/∃k,ot=some ⟨k,3⟩/\aQ S.aq ⟨k,3⟩) :
 aU Tryz.prog β 212 #[vP cb,(match ot with|none=>.nilIface|some th=>iB L th)] [pO S.O L,.ax cb (aO c) 53] (λv l=>v=.tuple #[]/\l=[pO S.O L,.ax cb (aO (oA S.O c ot)) 53]):=by
 refine SE Tryz.func212 Tryz.ntmps212 (λR=>ak.seq ?_)
 rcases ht with rfl|⟨tk,rfl,bX⟩|⟨tk,rfl,bX⟩|⟨tk,rfl,bX⟩
 ·exact ak.region (jC 21 [] [(8,a_ 1 cb),(11,a_ 1 cb),(14,a_ 1 cb),(17,a_ 1 cb),(20,A_ 1 cb 2)] [(1,(zh1))] (NZ (jK 2 [22] [] (NT (ak.ret (ay.bB (RT _ [0,1,2] (⟨rfl,rfl⟩))))))))
 ·have bA:(af S.O tk).kind=1:=hI.kind bX
  refine ak.region (jC 21 [] [(8,a_ 1 cb),(11,a_ 1 cb),(14,a_ 1 cb),(17,a_ 1 cb),(20,A_ 1 cb 2)] [(1,(zh1))] (NZ (jK 2 [22] [] (NF (KX (SR (jK 1 [23] [] (gE [] (fW (L.b tk)) (jK 1 [4] [] (NN (rM [0,1,2,3,4,5,6,7,8,9,10,12,13,14,15,16,17,18,19,20,21,22,23,24,25,26,27,11,28,29,30,31,32,33,34,35,36,37,38,39,40,41,42,43,44,45] 27 [0] (jR 27 [25,26,27,28,29,30,34,35,40,44,48,52] [(9,v_ 0 (y9 L bA)),(14,v_ 0 (Bo L bA)),(18,v_ 0 (GD L bA)),(22,v_ 0 (GF L bA)),(26,p_ ⟨[.view 0 (.int .i64 ((af S.O tk).aT)),.view 0 (.int .i64 ((af S.O tk).aJ))],none,none,none,none⟩ [(∀F w,(aW (eE S.O L)).h F w->w.cell? ⟨(L.b tk),5,none⟩=some (vI ((af S.O tk).aJ))),(∀F w,(aW (eE S.O L)).h F w->w.cell? ⟨(L.b tk),4,none⟩=some (vI ((af S.O tk).aT)))] ⟨je (by rw [bA];decide) (rfl),je (by rw [bA];decide) (rfl),trivial⟩)] (mL [0] [] (tP (vP (L.b tk))) ?_ (by rintro _ _ ⟨rfl,rfl⟩;rfl))))))))))))))
  rintro _ _ ⟨rfl,rfl⟩
  exact nC [0] [53] [] [] (nC [0] [54] [] [] (nC [0] [] [(0,a_ 1 cb)] [(1,[(12,vI ((af S.O tk).id))])] (nC [0] [55] [] [] (nC [0] [56] [] [] (nC [0] [] [(0,a_ 1 cb)] [(1,[(2,vI 1)])] (nC [0] [57] [] [] (nC [0] [58] [] [] (nC [0] [] [(0,a_ 1 cb)] [(1,[(6,vI ((af S.O tk).mode))])] (nC [0] [59] [] [] (nC [0] [60] [] [] (nC [0] [] [(0,a_ 1 cb)] [(1,[(7,vI ((af S.O tk).bg))])] (nC [0] [61] [] [] (nC [0] [62] [] [] (nC [0] [] [(0,a_ 1 cb)] [(1,[(8,vI ((af S.O tk).bh))])] (nC [0] [63] [] [] (nC [0] [64] [] [] (bZ.last rfl rfl (jC 1 [] [(0,A_ 1 cb 2)] [(1,(zh2 S tk))] (NL (ay.np (RF (.tuple #[]) [0,1,2] (⟨rfl,rfl⟩))))))))))))))))))))))
 ·have bA:(af S.O tk).kind=2:=hI.kind bX
  refine ak.region (jC 21 [] [(8,a_ 1 cb),(11,a_ 1 cb),(14,a_ 1 cb),(17,a_ 1 cb),(20,A_ 1 cb 2)] [(1,(zh1))] (NZ (jK 2 [22] [] (NF (KX (SR (jK 1 [23] [] (gE [] (fW (L.b tk)) (jK 1 [4] [] (NN (rM [0,1,2,3,4,5,6,7,8,9,10,12,13,14,15,16,17,18,19,20,21,22,23,24,25,26,27,11,28,29,30,31,32,33,34,35,36,37,38,39,40,41,42,43,44,45] 27 [0] (jR 27 [25,26,27,28,29,30,34,35,40,44,48,52] [(9,v_ 0 (y9 L bA)),(14,v_ 0 (Bo L bA)),(18,v_ 0 (GD L bA)),(22,v_ 0 (GF L bA)),(26,p_ ⟨[.view 0 (.int .i64 ((af S.O tk).aT)),.view 0 (.int .i64 ((af S.O tk).aJ))],none,none,none,none⟩ [(∀F w,(aW (eE S.O L)).h F w->w.cell? ⟨(L.b tk),5,none⟩=some (vI ((af S.O tk).aJ))),(∀F w,(aW (eE S.O L)).h F w->w.cell? ⟨(L.b tk),4,none⟩=some (vI ((af S.O tk).aT)))] ⟨je (by rw [bA];decide) (rfl),je (by rw [bA];decide) (rfl),trivial⟩)] (mL [0] [] (tQ (vP (L.b tk))) ?_ (by rintro _ _ ⟨rfl,rfl⟩;rfl))))))))))))))
  rintro _ _ ⟨rfl,rfl⟩
  exact nC [0] [53] [] [] (nC [0] [54] [] [] (nC [0] [] [(0,a_ 1 cb)] [(1,[(12,vI ((af S.O tk).id))])] (nC [0] [55] [] [] (nC [0] [56] [] [] (nC [0] [] [(0,a_ 1 cb)] [(1,[(2,vI 2)])] (nC [0] [57] [] [] (nC [0] [58] [] [] (nC [0] [] [(0,a_ 1 cb)] [(1,[(6,vI ((af S.O tk).mode))])] (nC [0] [59] [] [] (nC [0] [60] [] [] (nC [0] [] [(0,a_ 1 cb)] [(1,[(7,vI ((af S.O tk).bg))])] (nC [0] [61] [] [] (nC [0] [62] [] [] (nC [0] [] [(0,a_ 1 cb)] [(1,[(8,vI ((af S.O tk).bh))])] (nC [0] [63] [] [] (nC [0] [64] [] [] (bZ.last rfl rfl (jC 1 [] [(0,A_ 1 cb 2)] [(1,(zh2 S tk))] (NL (ay.np (RF (.tuple #[]) [0,1,2] (⟨rfl,rfl⟩))))))))))))))))))))))
 have bA:(af S.O tk).kind=3:=hI.kind bX
 refine ak.region (jC 21 [] [(8,a_ 1 cb),(11,a_ 1 cb),(14,a_ 1 cb),(17,a_ 1 cb),(20,A_ 1 cb 2)] [(1,(zh1))] (NZ (jK 2 [22] [] (NF (KX (SR (jK 1 [23] [] (gE [] (fW (L.b tk)) (jK 1 [4] [] (NN (rM [0,1,2,3,4,5,6,7,8,9,10,12,13,14,15,16,17,18,19,20,21,22,23,24,25,26,27,11,28,29,30,31,32,33,34,35,36,37,38,39,40,41,42,43,44,45] 27 [0] (jR 27 [25,26,27,28,29,30,34,35,40,44,48,52] [(9,v_ 0 (y9 L bA)),(14,v_ 0 (Bo L bA)),(18,v_ 0 (GD L bA)),(22,v_ 0 (GF L bA)),(26,p_ ⟨[.view 0 (.int .i64 ((af S.O tk).aT)),.view 0 (.int .i64 ((af S.O tk).aJ))],none,none,none,none⟩ [(∀F w,(aW (eE S.O L)).h F w->w.cell? ⟨(L.b tk),5,none⟩=some (vI ((af S.O tk).aJ))),(∀F w,(aW (eE S.O L)).h F w->w.cell? ⟨(L.b tk),4,none⟩=some (vI ((af S.O tk).aT)))] ⟨je (by rw [bA];decide) (rfl),je (by rw [bA];decide) (rfl),trivial⟩)] (mL [0] [] (vo (vP (L.b tk))) ?_ (by rintro _ _ ⟨rfl,rfl⟩;rfl))))))))))))))
 rintro _ _ ⟨rfl,rfl⟩
 exact nC [0] [53] [] [] (nC [0] [54] [] [] (nC [0] [] [(0,a_ 1 cb)] [(1,[(12,vI ((af S.O tk).id))])] (nC [0] [55] [] [] (nC [0] [56] [] [] (nC [0] [] [(0,a_ 1 cb)] [(1,[(2,vI 3)])] (nC [0] [57] [] [] (nC [0] [58] [] [] (nC [0] [] [(0,a_ 1 cb)] [(1,[(6,vI ((af S.O tk).mode))])] (nC [0] [59] [] [] (nC [0] [60] [] [] (nC [0] [] [(0,a_ 1 cb)] [(1,[(7,vI ((af S.O tk).bg))])] (nC [0] [61] [] [] (nC [0] [62] [] [] (nC [0] [] [(0,a_ 1 cb)] [(1,[(8,vI ((af S.O tk).bh))])] (nC [0] [63] [] [] (nC [0] [64] [] [] (bZ.last rfl rfl (jC 1 [] [(0,A_ 1 cb 2)] [(1,(zh2 S tk))] (NL (ay.np (RF (.tuple #[]) [0,1,2] (⟨rfl,rfl⟩))))))))))))))))))))))
theorem Va {β:Bs} (S:br) (L:HL) (f m t:Nat) (hI:bO S) (cb:Nat) (c:aH) (hC:kU β c) :
 aU Tryz.prog β 194 #[vP f,vP cb] ((pA f m t L S)++[.ax cb (aO c) 53]) (λv l=>∃L2,v=vI (oC S c).1/\l=((pA f m t L2 ((oC S c).2.1))++[.ax cb (aO ((oC S c).2.2)) 53])):=by
 have hX:=hI.hX
 refine SE Tryz.func194 Tryz.ntmps194 (λR=>ak.seq ?_)
 rcases hI.hand c.aG with iD|⟨tk,iD,bX⟩|⟨tk,iD,bX⟩
 ·exact ak.region (jK 1 [] [] (NN (ak.seq (rQ (jQ 8 [11,15] [(3,a_ 0 f),(7,a_ 6 cb)] (mY [2] [1,2,0,3,4,5,6,7] (.tuple #[.nilIface,vI 131]) (yB t S.X.cH S.aI (cV L S.us) c.aG hC.hw (xk iD)) (jQ 5 [5,6] [] (NQ (NX (SR (jK 2 [19,20] [] (gE [3,6] (vu S L hI cb c none (.inl rfl)) (NS (jK 2 [4] [] (eN ⟨L,by rw [show (oC S c)=(131,S,oA S.O c none) by unfold oC;rw [iD]]<;>exact⟨rfl,rfl⟩⟩ [2,3,4,0,5,6,1,7])))))))))))))))
 ·have bA:(af S.O tk).kind=1:=hI.kind bX
  exact ak.region (jK 1 [] [] (NN (ak.seq (rQ (jQ 8 [11,15] [(3,a_ 0 f),(7,a_ 6 cb)] (mY [2] [1,2,0,3,4,5,6,7] (.tuple #[.iface 138 (vP (L.b tk)),vI 0]) (sF t S.X.cH S.aI (cV L S.us) c.aG hC.hw (iB L ⟨tk,1⟩) (qR iD)) (jQ 5 [5,6] [] (NQ (NX (SR (jK 2 [19,20] [] (gE [3,6] (vu S L hI cb c (some ⟨tk,1⟩) (.inr (.inl ⟨tk,rfl,bX⟩))) (NS (jK 2 [4] [] (eN ⟨L,by rw [show (oC S c)=(0,S,oA S.O c (some ⟨tk,1⟩)) by unfold oC;rw [iD]]<;>exact⟨rfl,rfl⟩⟩ [2,3,4,0,5,6,1,7])))))))))))))))
 have bA:(af S.O tk).kind=2:=hI.kind bX
 exact ak.region (jK 1 [] [] (NN (ak.seq (rQ (jQ 8 [11,15] [(3,a_ 0 f),(7,a_ 6 cb)] (mY [2] [1,2,0,3,4,5,6,7] (.tuple #[.iface 144 (vP (L.b tk)),vI 0]) (sF t S.X.cH S.aI (cV L S.us) c.aG hC.hw (iB L ⟨tk,2⟩) (qR iD)) (jQ 5 [5,6] [] (NQ (NX (SR (jK 2 [19,20] [] (gE [3,6] (vu S L hI cb c (some ⟨tk,2⟩) (.inr (.inr (.inl ⟨tk,rfl,bX⟩)))) (NS (jK 2 [4] [] (eN ⟨L,by rw [show (oC S c)=(0,S,oA S.O c (some ⟨tk,2⟩)) by unfold oC;rw [iD]]<;>exact⟨rfl,rfl⟩⟩ [2,3,4,0,5,6,1,7])))))))))))))))
theorem Qi {β:Bs} (S:br) (L:HL) (f m t:Nat) (hI:bO S) (cb:Nat) (c:aH) (hC:kU β c) :
 aU Tryz.prog β 195 #[vP f,vP cb] ((pA f m t L S)++[.ax cb (aO c) 53]) (λv l=>∃L2,v=vI (jx S c).1/\l=((pA f m t L2 ((jx S c).2.1))++[.ax cb (aO ((jx S c).2.2)) 53])):=by
 have hX:=hI.hX
 refine SE Tryz.func195 Tryz.ntmps195 (λR=>SR (jK 1 [] [] (NS (jK 2 [8,9] [] ?_))))
 rcases J5 hI.toInv0 c with ⟨e,hnm,cu⟩|⟨tk,hnm,bX⟩|⟨tk,hnm,bX⟩|⟨tk,hnm,bX⟩
 ·exact gE [0,1,2,3,4,5,6] ((by have h:=nR S L f m t hI cb c hC (β:=β);rw [hnm] at h;exact h)) (jK 5 [5,6] [] (NS (jK 2 [13,14] [] (gE [3,6] (vu S L hI cb c none (.inl rfl)) (NS (jK 2 [4] [] (eN ⟨L,by rw [show (jx S c)=(e,S,oA S.O c none) by unfold jx;rw [hnm]]<;>exact⟨rfl,rfl⟩⟩ [2,3,4,0,5,6,1,7])))))))
 ·have bA:(af S.O tk).kind=1:=hI.kind bX
  exact gE [0,1,2,3,4,5,6] ((by have h:=nR S L f m t hI cb c hC (β:=β);rw [hnm] at h;exact h)) (jK 5 [5,6] [] (NS (jK 2 [13,14] [] (gE [3,6] (vu S L hI cb c (some ⟨tk,1⟩) (.inr (.inl ⟨tk,rfl,bX⟩))) (NS (jK 2 [4] [] (eN ⟨L,by rw [show (jx S c)=(0,S,oA S.O c (some ⟨tk,1⟩)) by unfold jx;rw [hnm]]<;>exact⟨rfl,rfl⟩⟩ [2,3,4,0,5,6,1,7])))))))
 ·have bA:(af S.O tk).kind=2:=hI.kind bX
  exact gE [0,1,2,3,4,5,6] ((by have h:=nR S L f m t hI cb c hC (β:=β);rw [hnm] at h;exact h)) (jK 5 [5,6] [] (NS (jK 2 [13,14] [] (gE [3,6] (vu S L hI cb c (some ⟨tk,2⟩) (.inr (.inr (.inl ⟨tk,rfl,bX⟩)))) (NS (jK 2 [4] [] (eN ⟨L,by rw [show (jx S c)=(0,S,oA S.O c (some ⟨tk,2⟩)) by unfold jx;rw [hnm]]<;>exact⟨rfl,rfl⟩⟩ [2,3,4,0,5,6,1,7])))))))
 have bA:(af S.O tk).kind=3:=hI.kind bX
 exact gE [0,1,2,3,4,5,6] ((by have h:=nR S L f m t hI cb c hC (β:=β);rw [hnm] at h;exact h)) (jK 5 [5,6] [] (NS (jK 2 [13,14] [] (gE [3,6] (vu S L hI cb c (some ⟨tk,3⟩) (.inr (.inr (.inr ⟨tk,rfl,bX⟩)))) (NS (jK 2 [4] [] (eN ⟨L,by rw [show (jx S c)=(0,S,oA S.O c (some ⟨tk,3⟩)) by unfold jx;rw [hnm]]<;>exact⟨rfl,rfl⟩⟩ [2,3,4,0,5,6,1,7])))))))
theorem Sg {β:Bs} (S:br) (L:HL) (f m t:Nat) (hI:bO S) (cb:Nat) (c:aH) (hC:kU β c) :
 aU Tryz.prog β 196 #[vP f,vP cb] ((pA f m t L S)++[.ax cb (aO c) 53]) (λv l=>∃L2,v=vI (jS S c).1/\l=((pA f m t L2 ((jS S c).2.1))++[.ax cb (aO ((jS S c).2.2)) 53])):=by
 have hX:=hI.hX
 refine SE Tryz.func196 Tryz.ntmps196 (λR=>ak.seq ?_)
 rcases hI.hand c.aG with iD|⟨tk,iD,bX⟩|⟨tk,iD,bX⟩
 ·refine ak.region (jK 1 [] [] (NN (ak.seq (jM [0,1,2,3,4,5,6,7,508,9,10,11,12,513] [0,6] (jG 8 [0,11,15] [(3,a_ 0 f),(7,a_ 1 cb)] (kL [1,6] [2] (RQ t S.X.cH S.aI (cV L S.us) c.aG hC.hw (xk iD)) ?_ (by rintro _ _ ⟨rfl,rfl⟩;kernel_rfl)))))))
  rintro _ _ ⟨rfl,rfl⟩
  exact jG 4 [0,5,18] [] (eH.last KB (jK 1 [6] [] (NL (ay.np (NX (SQ (jK 2 [20] [] (NT (zR (v:=(vI 131)) ⟨L,by rw [show (jS S c)=(131,S,c) by unfold jS;rw [iD]]<;>exact⟨rfl,rfl⟩⟩ [1,2,0,3,4,5,6,7])))))))))
 ·have bA:(af S.O tk).kind=1:=hI.kind bX
  have hid:=hI.ob _ bX
  have xC:=hI.WJ bX
  have hdl:=hI.PF bX
  have bW:0<(af S.O tk).aK/\(af S.O tk).aK<=1024:=⟨by have h1:=hI.aK _ bX;have h2:=Tf iD;simp only at h1 h2;omega,(hI.MK bX).2⟩
  refine ak.region (jK 1 [] [] (NN (ak.seq (jM [0,1,2,3,4,5,6,7,508,9,10,11,12,513] [0,6] (jG 8 [0,11,15] [(3,a_ 0 f),(7,a_ 1 cb)] (eH.cut (ι:=Unit) (bL:=λ(_:Unit)=>[(0,vP f),(16,.tuple #[.iface 138 (vP (L.b tk)),vI 0])]) (cR:=λ(_:Unit)=>[pT t S.X.cH S.aI L (del c.aG S.us),pF f m t S.X,pI m L S.aq,pO S.O L,pD S.O L,pE S.O L,.ax cb (aO c) 53,.abs R]) [1,6] KB ?_ rfl (λ_=>KB) ?_))))))
  ·exact gE (f:=213) (args:=#[vP t,vI (c.aG)]) (pre:=[pT t S.X.cH S.aI L S.us]) [2] ((by have h:=MJ (β:=β) t S.X.cH S.aI (cV L S.us) c.aG hC.hw (iB L ⟨tk,1⟩) (qR iD);rw [←PN] at h;exact h)) (NL (MD () [0,16] [0,1,2,3,4,5,6,7]))
  rintro _
  refine jG 4 [0,5,18] [] (eH.last KB (jK 1 [6] [] (NL (ay.np (NX (SQ (jK 2 [20] [] (NF (KX (SR (jK 1 [22] [] (gE [] (fW (L.b tk)) (jK 6 [27,29] [(2,v_ 3 (qy L bA)),(3,wJ ((af S.O tk).aK-1) ((af S.O tk).aK-1))] (Bp 3 [(5,1),(4,2)] tk 7 (λo=>{o with aK:=o.aK-1}) bA (λgS fI=>?_)))))))))))))))
  have qv:=ku fI bA
  have hf2:(af gS tk).id=(af S.O tk).id:=fu bJ.id fI rfl
  have hf3:(af gS tk).data=(af S.O tk).data:=fu bJ.data fI rfl
  refine NS ?_
  have aao:(af gS tk).aK=(af S.O tk).aK-1:=by grind [fq]
  exact jK 2 [30,31] [] (gE [3,1,2] (yT S.X f m t hX gS L S.aq hI.fD ⟨tk,1⟩ qv aii (by rw [aao];omega) (λ_=>by rw [hf2,hid.1];exact bX) (by rw [hf2];exact xC) (by rw [hf3];exact hdl)) (NS (jK 1 [4] [] (eN (l:=[pF f m t {S.X with used:=qG gS S.X.used ⟨tk,1⟩},pI m L (lC gS S.aq ⟨tk,1⟩),pT t S.X.cH S.aI L (del c.aG S.us),pO gS L,pD gS L,pE gS L,.ax cb (aO c) 53]) (v:=(vI 0)) ⟨L,by subst fI;rw [show jS S c=(0,_,c) by unfold jS;rw [iD]];exact⟨rfl,rfl⟩⟩ [1,2,3,0,4,5,6,7]))))
 have bA:(af S.O tk).kind=2:=hI.kind bX
 have hid:=hI.ob _ bX
 have xC:=hI.WJ bX
 have hdl:=hI.PF bX
 have bW:0<(af S.O tk).aK/\(af S.O tk).aK<=1024:=⟨by have h1:=hI.aK _ bX;have h2:=Tf iD;simp only at h1 h2;omega,(hI.MK bX).2⟩
 refine ak.region (jK 1 [] [] (NN (ak.seq (jM [0,1,2,3,4,5,6,7,508,9,10,11,12,513] [0,6] (jG 8 [0,11,15] [(3,a_ 0 f),(7,a_ 1 cb)] (eH.cut (ι:=Unit) (bL:=λ(_:Unit)=>[(0,vP f),(16,.tuple #[.iface 144 (vP (L.b tk)),vI 0])]) (cR:=λ(_:Unit)=>[pT t S.X.cH S.aI L (del c.aG S.us),pF f m t S.X,pI m L S.aq,pO S.O L,pD S.O L,pE S.O L,.ax cb (aO c) 53,.abs R]) [1,6] KB ?_ rfl (λ_=>KB) ?_))))))
 ·exact gE (f:=213) (args:=#[vP t,vI (c.aG)]) (pre:=[pT t S.X.cH S.aI L S.us]) [2] ((by have h:=MJ (β:=β) t S.X.cH S.aI (cV L S.us) c.aG hC.hw (iB L ⟨tk,2⟩) (qR iD);rw [←PN] at h;exact h)) (NL (MD () [0,16] [0,1,2,3,4,5,6,7]))
 rintro _
 refine jG 4 [0,5,18] [] (eH.last KB (jK 1 [6] [] (NL (ay.np (NX (SQ (jK 2 [20] [] (NF (KX (SR (jK 1 [22] [] (gE [] (fW (L.b tk)) (jK 6 [27,29] [(2,v_ 3 (qy L bA)),(3,wJ ((af S.O tk).aK-1) ((af S.O tk).aK-1))] (Bp 3 [(5,1),(4,2)] tk 7 (λo=>{o with aK:=o.aK-1}) bA (λgS fI=>?_)))))))))))))))
 have FC:=ku fI bA
 have Xj:(af gS tk).id=(af S.O tk).id:=fu bJ.id fI rfl
 have hf6:(af gS tk).data=(af S.O tk).data:=fu bJ.data fI rfl
 refine NS ?_
 have aao:(af gS tk).aK=(af S.O tk).aK-1:=by grind [fq]
 exact jK 2 [30,31] [] (gE [3,1,2] (yT S.X f m t hX gS L S.aq hI.fD ⟨tk,2⟩ FC aii (by rw [aao];omega) (λ_=>by rw [Xj,hid.1];exact bX) (by rw [Xj];exact xC) (by rw [hf6];exact hdl)) (NS (jK 1 [4] [] (eN (l:=[pF f m t {S.X with used:=qG gS S.X.used ⟨tk,2⟩},pI m L (lC gS S.aq ⟨tk,2⟩),pT t S.X.cH S.aI L (del c.aG S.us),pO gS L,pD gS L,pE gS L,.ax cb (aO c) 53]) (v:=(vI 0)) ⟨L,by subst fI;rw [show jS S c=(0,_,c) by unfold jS;rw [iD]];exact⟨rfl,rfl⟩⟩ [1,2,3,0,4,5,6,7]))))
end
end Go.Proofs.YtbnfiigafobejaaGreat
