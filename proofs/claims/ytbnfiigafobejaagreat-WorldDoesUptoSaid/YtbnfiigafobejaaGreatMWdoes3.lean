/-
  PROVED HERE: lemmas and contracts of functions (texts of this repo, joined; what the claim does not use is left out): Hy, Hz, Ac, Wo, Wx, ShelfS, SK, HG, Vv, Vf, Fz, Ws, Wk, GFb, GFc, Cn, GOk, Nw, Il, Rt, Sr, Sd, Dl, HW, Ib, DR, DT, Dp, DP, Dm, Do, DC.
  CONDITIONS: as the theorems say.
-/
import Derived.Test.YtbnfiigafobejaaGreatMWdoes2
import Derived.Lib.Split
import Derived.Shelf.SlGeneric
import Derived.Shelf.SlIter.Nil
import Derived.Shelf.SortM.Plain
import Derived.Shelf.SortM.SortNone
import Derived.Ground.GgzProg
import Derived.Ground.SlgmProg
import Derived.Test.YtbnfiigafobejaaGreatProg
set_option maxRecDepth 100000
set_option maxHeartbeats 4000000
namespace Go.Proofs.YtbnfiigafobejaaGreat
section
open Go.RowKit Go.Maps bK aF
structure kH (β:Bs) (c:aN):Prop where
 hw:(Lit.int .i64 c.aL).wf=true
 ow:(Lit.int .i64 c.other).wf=true
 nm:c.name.size<=1048576
 tx:c.text.size<=1048576
 da:bF β c.dA c.data
 dl:c.data.length<=1099511627776
 dc:c.data.length<=c.dC
 op:tW c.op
section facts
variable {S:bB} {h:Int} {name:ByteArray} {dZ:Int} {t:Th} {c:aN}
theorem kI (hI:Inv0 S) (h:Int) (name:ByteArray) (dZ:Int):(∃e,iJ S.O S.us h name dZ=.error e/\e≠0)\/∃d,iJ S.O S.us h name dZ=.ok d/\aT S.ar ⟨d,2⟩/\(af S.O d).aG=false/\cq name/\aF.get S.us h=some ⟨d,2⟩:=by
 unfold iJ
 cases e:aF.get S.us h with
 |none=>exact .inl ⟨131,rfl,Pd⟩
 |some t=>
   simp only
   split
   ·rename_i hk
    split
    ·exact .inl ⟨170,rfl,Pd⟩
    rename_i hg
    split
    ·rename_i hn
     split
     ·obtain⟨k,kd⟩:=t
      simp only at hk
      subst hk
      exact .inr ⟨k,rfl,(hI.us h _ e).1,by simpa using hg,hn,rfl⟩
     exact .inl ⟨175,rfl,Pd⟩
    exact .inl ⟨95,rfl,Pd⟩
   exact .inl ⟨173,rfl,Pd⟩
theorem Jg (hI:Inv0 S) (c:aN):(∃e,jI S.O S.us c=.error e/\e≠0)\/(∃k,jI S.O S.us c=.ok ⟨k,1⟩/\aT S.ar ⟨k,1⟩)\/(∃k,jI S.O S.us c=.ok ⟨k,2⟩/\aT S.ar ⟨k,2⟩)\/∃k,jI S.O S.us c=.ok ⟨k,3⟩/\aT S.ar ⟨k,3⟩:=by
 unfold jI
 rcases kI hI c.aL c.name 64 with ⟨e,h1,h2⟩|⟨d,h1,h2,_⟩
 ·rw [h1];exact .inl ⟨e,rfl,h2⟩
 rw [h1]
 simp only
 rcases hI.sJ h2 c.name with h3|⟨k,h3,h4⟩|⟨k,h3,h4⟩|⟨k,h3,h4⟩
 all_goals grind
theorem Ox {L:HL} {us:bE Th} {h:Int}:cV L (del h us)=del h (cV L us):=Kq (iw L) h us
theorem RJ {us:bE Th} {h:Int} (e:aF.get us h=some t):0<hnd us t.k:=ahg agU (sD (g:=λp:Int×Th=>if p.2.k=t.k then 1 else 0) e)
theorem Ht {L:HL}:dS (eE S t).2.2.O L=dS S.O L:=by
 by_cases h:(S.us.length:Int)<S.X.cH
 ·rw [om h];exact Ad (λ_=>eG (f:=λo=>{o with aK:=o.aK+1}) (g:=bJ.data) (λ_=>rfl)) (λ_=>o8 (f:=λo=>{o with aK:=o.aK+1}) (λ_=>rfl))
 rw [oQ h]
theorem Hu {L:HL}:gq (eE S t).2.2.O L=gq S.O L:=by
 grind [om,tE,oQ]
theorem abV:(kU S c).2.2.op=c.op:=by unfold kU;(repeat' split)<;>rfl
theorem Tt:(gV S c).2.2.op=c.op:=by unfold gV;(repeat' split)<;>rfl
theorem QA:(fV S c).2.2.op=c.op:=by unfold fV;(repeat' split)<;>rfl
theorem Tv:(ja S c).2.2.op=c.op:=by unfold ja;(repeat' split)<;>rfl
theorem QB:(fo S c).2.2.op=c.op:=by unfold fo;(repeat' split)<;>rfl
theorem Oy:(iB S c).2.2.op=c.op:=by unfold iB;(repeat' split)<;>rfl
theorem VH:(dV S c).2.2.op=c.op:=by unfold dV;(repeat' split)<;>rfl
theorem QC:(jA S c).2.2.op=c.op:=by unfold jA;(repeat' split)<;>rfl
theorem Tw:(j9 S c).2.2.op=c.op:=by unfold j9;(repeat' split)<;>rfl
theorem QD:(iQ S c).2.2.op=c.op:=by unfold iQ;(repeat' split)<;>rfl
theorem Tx:(ij S c).2.2.op=c.op:=by unfold ij;(repeat' split)<;>rfl
theorem Ty:(cY S c).2.2.op=c.op:=by unfold cY;(repeat' split)<;>rfl
theorem abW:(nY S c).2.2.op=c.op:=by unfold nY;(repeat' split)<;>rfl
theorem VI:(jr S c).2.2.op=c.op:=by unfold jr;(repeat' split)<;>rfl
theorem YJ:(jT S c).2.2.op=c.op:=by unfold jT;(repeat' split)<;>rfl
end facts
theorem y8 {S:bB} {c:aN} (h:c.op=1):iC S c=kU S c:=by
 unfold iC
 simp [h]
theorem Bp {S:bB} {c:aN} (h:c.op=2):iC S c=gV S c:=by
 unfold iC
 simp [h]
theorem Bq {S:bB} {c:aN} (h:c.op=3):iC S c=fV S c:=by
 unfold iC
 simp [h]
theorem y9 {S:bB} {c:aN} (h:c.op=4):iC S c=ja S c:=by
 unfold iC
 simp [h]
theorem Br {S:bB} {c:aN} (h:c.op=5):iC S c=fo S c:=by
 unfold iC
 simp [h]
theorem Bt {S:bB} {c:aN} (h:c.op=6):iC S c=iB S c:=by
 unfold iC
 simp [h]
theorem Bu {S:bB} {c:aN} (h:c.op=7):iC S c=dV S c:=by
 unfold iC
 simp [h]
theorem Bv {S:bB} {c:aN} (h:c.op=8):iC S c=jA S c:=by
 unfold iC
 simp [h]
theorem Bw {S:bB} {c:aN} (h:c.op=9):iC S c=ij S c:=by
 unfold iC
 simp [h]
theorem xU {S:bB} {c:aN} (h:c.op=10):iC S c=cY S c:=by
 unfold iC
 simp [h]
theorem xV {S:bB} {c:aN} (h:c.op=11):iC S c=nY S c:=by
 unfold iC
 simp [h]
theorem xW {S:bB} {c:aN} (h:c.op=12):iC S c=jr S c:=by
 unfold iC
 simp [h]
theorem xX {S:bB} {c:aN} (h:c.op=13):iC S c=jT S c:=by
 unfold iC
 simp [h]
theorem xY {S:bB} {c:aN} (h:c.op=14):iC S c=j9 S c:=by
 unfold iC
 simp [h]
theorem xZ {S:bB} {c:aN} (h:c.op=15):iC S c=iQ S c:=by
 unfold iC
 simp [h]
theorem Ai {S:bB} {c:aN} (h:¬(1<=c.op/\c.op<=15)):iC S c=(230,S,c):=by
 unfold iC
 repeat rw [agV zc]
section inv
variable {S:bB} {d to:Nat} {name ay text:ByteArray} {mode:Int} {c:aN}
theorem Oz (hI:Inv0 S):hnd S.us (bA S.X)=0:=by
 have:hnd S.us (bA S.X)=gP (λ_=>0) S.us:=lD (λp hp=>agV (hI.fresh.us p hp))
 rw [this]
 have h0:∀us:bE Th,gP (λ_=>0) us=0:=λus=>by
  induction us with
  |nil=>rfl
  |cons p r ih=>show 0+_=0;rw [ih]
 exact h0 _
theorem Gq (hI:Inv0 S) {kind mode:Int} {tg:ByteArray} (hm:jS mode) (ht:dG kind tg):qV {cR S.X kind mode with target:=tg}:=
 ⟨hm,⟨Int.le_refl _,by show (0:Int)<=2147483647;decide⟩,⟨Int.le_refl _,by show (0:Int)<=2147483647;decide⟩,hI.now,λ_=>rfl,λ_=>rfl,ht⟩
theorem bR.FN (hI:bR S) (hd:aT S.ar ⟨d,2⟩) (lQ:(af S.O d).aG=false) (j3:cq name) (h0:gu S.X S.O S.ar d name=0) {kind mode:Int} {tg:ByteArray} (hk:kind=1\/kind=2\/kind=3) (hm:jS mode) (ht:dG kind tg) :
 bR (gn S d name {cR S.X kind mode with target:=tg}):=by
 have h:=hI.add (us':=S.us) (lE:=S.aJ) (o:={cR S.X kind mode with target:=tg}) hd lQ (uT h0) j3 (Cl h0) rfl hk rfl rfl rfl rfl rfl (Gq hI.toInv0 hm ht) hI.usr hI.xQ hI.Gm hI.aJ (λh t e=>⟨.inl (hI.us h t e).1,(hI.us h t e).2⟩) (λ_ _=>rfl) (by rw [Oz hI.toInv0];rfl)
 exact h
theorem bR.mF (hI:bR S) (hd:aT S.ar ⟨d,2⟩) (lQ:(af S.O d).aG=false) (j3:cq name) (hm:jS mode):bR (Proofs.YtbnfiigafobejaaGreat.mF S d name mode).2:=by
 unfold Proofs.YtbnfiigafobejaaGreat.mF
 split
 ·rename_i h0
  exact hI.FN hd lQ j3 h0 (.inr (.inl rfl)) hm (.inl ⟨Pd,rfl⟩)
 exact hI
theorem abX {s:ByteArray} (h:kW s=0):dG 3 s:=by
 grind [kW,tv,dG]
theorem bR.jk (hI:bR S) (hd:aT S.ar ⟨d,2⟩) (lQ:(af S.O d).aG=false) (j3:cq name):bR (Proofs.YtbnfiigafobejaaGreat.jk S d name text).2:=by
 unfold Proofs.YtbnfiigafobejaaGreat.jk
 split
 ·rename_i hb
  split
  ·rename_i h0
   exact hI.FN hd lQ j3 h0 (.inr (.inr rfl)) ⟨Pd,Pd⟩ (abX hb)
  exact hI
 exact hI
theorem bR.iA (hI:bR S) (hd:aT S.ar ⟨d,2⟩):bR (Proofs.YtbnfiigafobejaaGreat.iA S d name).2:=by
 unfold Proofs.YtbnfiigafobejaaGreat.iA
 split
 ·exact hI
 rename_i t hl
 split
 ·exact hI
 rename_i hk
 exact hI.FL hd hl hk
theorem bR.iZ (hI:bR S) (hd:aT S.ar ⟨d,2⟩):bR (Proofs.YtbnfiigafobejaaGreat.iZ S d name).2:=by
 unfold Proofs.YtbnfiigafobejaaGreat.iZ
 split
 ·exact hI
 rename_i t hl
 split
 ·split
  ·rename_i he
   exact hI.drop hd hl (λ_=>he)
  exact hI
 exact hI
theorem Tz {t:Th} (ht:t.k≠to):(af (bp S d name t).O to).aG=(af S.O to).aG:=by
 have h1:(af (bp S d name t).O to).aG=(af (bq S.X S.O d name t) to).aG:=by
  unfold bp
  simp only
  split
  ·show (af (aZ _ t.k _) to).aG=_
   rw [iX (λe=>ht e.symm)]
  rfl
 rw [h1]
 exact eU (g:=bJ.aG) (λ_ _=>rfl) (λ_ _=>rfl) (λ_ _ _=>rfl)
theorem bR.dm (hI:bR S) (hd:aT S.ar ⟨d,2⟩) (d6:aT S.ar ⟨to,2⟩) (lQ:(af S.O to).aG=false) (j3:cq ay):bR (Proofs.YtbnfiigafobejaaGreat.dm S d name to ay).2:=by
 unfold Proofs.YtbnfiigafobejaaGreat.dm
 split
 ·exact hI
 rename_i t hl
 split
 ·exact hI
 rename_i hb
 have hb:t.kind=2->¬su S.O t.k to:=λh1 h2=>hb ⟨h1,h2⟩
 split
 ·rename_i hn
  exact hI.move hd hl d6 lQ hn j3 hb
 rename_i o hl2
 split
 ·exact hI
 rename_i hot
 split
 ·exact hI
 rename_i hok
 split
 ·exact hI
 rename_i htk
 have ho:=(hI.bS d6 hl2).2
 have adh:o.k≠to:=hI.ne d6 hl2
 have h1:=hI.FL d6 hl2 hok
 have jD:aT (bp S to ay o).ar ⟨d,2⟩:=oR hI.toInv0 d6 hl2 hd (λe=>hok (by have:=jt hd ho e;rw [←this]))
 have oP:aT (bp S to ay o).ar ⟨to,2⟩:=oR hI.toInv0 d6 hl2 d6 (λe=>adh e.symm)
 exact h1.move jD (xS hI.toInv0 d6 hl2 hl hot) oP (by rw [Tz adh];exact lQ) (xT hI.toInv0 d6 hl2) j3 (λh=>agY h htk)
theorem bR.nH (hI:bR S) (hd:aT S.ar ⟨d,2⟩) (d6:aT S.ar ⟨to,2⟩) (lQ:(af S.O to).aG=false) (j3:cq ay):bR (Proofs.YtbnfiigafobejaaGreat.nH S d name to ay).2:=by
 unfold Proofs.YtbnfiigafobejaaGreat.nH
 split
 ·exact hI
 rename_i t hl
 have ht:=(hI.bS hd hl).2
 split
 ·exact hI
 rename_i hk
 split
 ·rename_i hn
  split
  ·rename_i hr
   have hgt:(af S.O t.k).aG=false:=by
    cases hg:(af S.O t.k).aG with
    |false=>rfl
    |true=>
      have h1:=(hI.aG t ht hg).1
      have h2:=hI.aV t ht
      have h3:0<nw S.ar S.O t.k:=qW hd hl
      omega
   exact hI.link d6 lQ hn j3 ht hgt hk hr
  exact hI
 exact hI
theorem bR.oA (hI:bR S) (hd:aT S.ar ⟨d,2⟩) (lQ:(af S.O d).aG=false) (j3:cq name) (hm:jS mode):bR (Proofs.YtbnfiigafobejaaGreat.oA S d name mode).2.2:=by
 unfold Proofs.YtbnfiigafobejaaGreat.oA
 split
 ·rename_i h0
  split
  ·rename_i fU
   obtain⟨g1,g2,_⟩:=least_le hI.usr (λx hx=>(hI.xQ x hx).1)
   obtain⟨v1,v2⟩:=RG (t:=⟨bA S.X,1⟩) hI.usr hI.xQ
   have hm2:=Gq (kind:=1) (tg:=⟨#[]⟩) hI.toInv0 hm (.inl ⟨Pd,rfl⟩)
   refine hI.add (us':=ins (aF.aS S.us) ⟨bA S.X,1⟩ S.us) (lE:=max S.aJ ((S.us.length:Int)+1)) (o:={cR S.X 1 mode with aK:=1}) hd lQ (uT h0) j3 (Cl h0) rfl (.inl rfl) rfl rfl rfl rfl rfl ⟨hm2.mode,hm2.bg,hm2.bh,hm2.time,hm2.data,hm2.ah,hm2.target⟩ v1 v2 (by rw [lu];omega) (by have:=hI.aJ;omega) (λh t e=>?_) (λk hk=>?_) ?_
   ·rw [wh g2] at e
    split at e
    ·cases e;exact⟨.inr rfl,by show (1:Int)≠3;decide⟩
    exact⟨.inl (hI.us h t e).1,(hI.us h t e).2⟩
   ·grind [KA]
   rw [KA,agW rfl,Oz hI.toInv0];rfl
  exact hI
 exact hI
theorem bR.iC (hI:bR S) (c:aN):bR (Proofs.YtbnfiigafobejaaGreat.iC S c).2.1:=by
 have habout:∀{dZ:Int} {d:Nat} {h:Int} {n:ByteArray},iJ S.O S.us h n dZ=.ok d->aT S.ar ⟨d,2⟩/\(af S.O d).aG=false/\cq n:=λ{dZ d h n} e=>by
  rcases kI hI.toInv0 h n dZ with ⟨e2,h1,_⟩|⟨d2,h1,h2,h3,h4,_⟩
  all_goals grind
 have VJ:∀{t:Th},jI S.O S.us c=.ok t->aT S.ar t:=λ{t} e=>by
  rcases Jg hI.toInv0 c with ⟨e2,h1,_⟩|⟨k,h1,h2⟩|⟨k,h1,h2⟩|⟨k,h1,h2⟩<;>rw [e] at h1<;>cases h1<;>exact h2
 by_cases h:1<=c.op/\c.op<=15
 ·have h:c.op=1\/c.op=2\/c.op=3\/c.op=4\/c.op=5\/c.op=6\/c.op=7\/c.op=8\/c.op=9\/c.op=10\/c.op=11\/c.op=12\/c.op=13\/c.op=14\/c.op=15:=zc
  rcases h with h|h|h|h|h|h|h|h|h|h|h|h|h|h|h
  ·rw [y8 h]
   unfold kU
   split
   ·exact hI
   rename_i t e
   split
   ·rename_i hk;exact hI.eE (hI.live e) (by rw [hk];decide)
   exact hI
  ·rw [Bp h]
   unfold gV
   split
   ·exact hI
   rename_i t e
   split
   ·exact hI
   rename_i hk
   split
   ·exact hI
   exact hI.eE (VJ e) hk
  ·rw [Bq h]
   unfold fV
   split
   ·exact hI
   rename_i t e
   split
   ·exact hI
   rename_i hk
   split
   ·exact hI
   exact hI.eE (VJ e) hk
  ·rw [y9 h]
   unfold ja
   split
   ·exact hI
   rename_i d e
   obtain⟨h1,h2,h3⟩:=habout e
   split
   ·rename_i hm;exact hI.mF h1 h2 h3 hm
   exact hI
  ·rw [Br h]
   unfold fo
   split
   ·exact hI
   rename_i d e
   obtain⟨h1,h2,h3⟩:=habout e
   split
   ·rename_i hm
    split
    ·exact hI.oA h1 h2 h3 hm
    exact hI
   exact hI
  ·rw [Bt h]
   unfold iB
   split
   ·exact hI
   rename_i d e
   obtain⟨h1,h2,h3⟩:=habout e
   exact hI.jk h1 h2 h3
  ·rw [Bu h]
   unfold dV
   split
   ·exact hI
   rename_i d e
   split
   ·exact hI
   rename_i to e2
   obtain⟨h1,h2,h3⟩:=habout e2
   exact hI.nH (habout e).1 h1 h2 h3
  ·rw [Bv h]
   unfold jA
   split
   ·exact hI
   rename_i d e
   exact hI.iA (habout e).1
  ·rw [Bw h]
   unfold ij
   split
   ·exact hI
   rename_i t e
   split
   ·rename_i hk
    obtain⟨k,kd⟩:=t
    simp only at hk
    subst hk
    exact hI.gD (hI.us _ _ e).1 _
   exact hI
  ·rw [xU h]
   unfold cY
   split
   ·exact hI
   split
   ·exact hI
   split
   ·rename_i hm
    split
    ·rename_i ho
     split
     ·rename_i ht;exact hI.aeU hm ho ht
     exact hI
    exact hI
   exact hI
  ·rw [xV h]
   unfold nY
   split<;>exact hI
  ·rw [xW h]
   unfold jr
   split<;>exact hI
  ·rw [xX h]
   unfold jT
   split
   ·exact hI
   rename_i t e;exact hI.shut e
  ·rw [xY h]
   unfold j9
   split
   ·exact hI
   rename_i d e
   exact hI.iZ (habout e).1
  rw [xZ h]
  unfold iQ
  split
  ·exact hI
  rename_i d e
  split
  ·exact hI
  rename_i to e2
  obtain⟨h1,h2,h3⟩:=habout e2
  exact hI.dm (habout e).1 h1 h2 h3
 rw [Ai h];exact hI
theorem bR.gF (hI:bR S) (c:aN):bR (Proofs.YtbnfiigafobejaaGreat.gF S c).1:=hI.iC _
end inv
structure dK where
 at_:Int
 op:Int
 path:ByteArray
 to:ByteArray
 text:ByteArray
def slash:ByteArray:=⟨#[47]⟩
def bQ (s:ByteArray):List ByteArray:=Lib.splitB slash 0 (Lib.countB s slash) s
noncomputable section
def pX (O:d9):Nat->List ByteArray->Except Int (Nat×ByteArray)
 |_,[]=>.error 170
 |d,[p]=>if (af O d).aG=true then .error 170 else .ok (d,p)
 |d,p::q::r=>match bL p (af O d).ah with
   |none=>.error 170
   |some t=>if t.kind=3 then .error 174 else if t.kind=1 then .error 173 else pX O t.k (q::r)
instance (ps:List ByteArray):Decidable (∀p∈ps,cq p):=Classical.propDecidable _
def mV (O:d9) (d:Nat) (path:ByteArray):Except Int (Nat×ByteArray):=if ∀p∈bQ path,cq p then pX O d (bQ path) else .error 95
def sx (S:bB) (d:Nat) (name text:ByteArray):Int×bB:=
 if gu S.X S.O S.ar d name=0 then (0,(gD (gn S d name (cR S.X 1 420)) (bA S.X) text.data.toList).2.2) else (gu S.X S.O S.ar d name,S)
def o9 (S:bB) (d:Nat) (name text:ByteArray):Int×bB:=
 match bL name (af S.O d).ah with
 |none=>(170,S)
 |some t=>if t.kind=3 then (174,S) else if t.kind=2 then (172,S) else ((gD S t.k text.data.toList).2.1,(gD S t.k text.data.toList).2.2)
def nS (S:bB) (top:Nat) (a:dK) (d:Nat) (name:ByteArray):Int×bB:=
 if a.op=1 then sx S d name a.text
 else if a.op=2 then mF S d name 493
 else if a.op=3 then jk S d name a.text
 else if a.op=4 then iA S d name
 else if a.op=5 then iZ S d name
 else if a.op=6 then match mV S.O top a.to with
  |.error e=>(e,S)
  |.ok (to,ay)=>dm S d name to ay
 else o9 S d name a.text
def cO (S:bB) (au:Int) (a:dK):Int×bB:=
 if a.op<1\/a.op>7 then (230,S)
 else match aF.get S.ar au with
  |none=>(141,S)
  |some t=>if t.kind=2 then
   match mV S.O t.k a.path with
   |.error e=>(e,S)
   |.ok (d,name)=>nS S t.k a d name
   else (173,S)
end
section facts
variable {S:bB} {O:d9} {d d':Nat} {name:ByteArray} {t:Th}
theorem RM (hI:Inv0 S):∀(ps:List ByteArray) (d:Nat),aT S.ar ⟨d,2⟩->(∀p∈ps,cq p)->pX S.O d ps=.ok (d',name)->aT S.ar ⟨d',2⟩/\(af S.O d').aG=false/\cq name
 |[],d,_,_,h=>by cases h
 |[p],d,hd,hg,h=>by
   unfold pX at h
   split at h
   ·cases h
   rename_i hn
   cases h
   exact⟨hd,by simpa using hn,hg _ (ahu.2 rfl)⟩
 |p::q::r,d,hd,hg,h=>by
   unfold pX at h
   cases e:bL p (af S.O d).ah with
   |none=>rw [e] at h;cases h
   |some t=>
     rw [e] at h
     simp only at h
     split at h
     ·cases h
     rename_i h3
     split at h
     ·cases h
     rename_i h1
     have hl:=(hI.bS hd e).2
     have hk:t=⟨t.k,2⟩:=by
      have:=(hI.ob _ hl).2.2
      obtain⟨k,kd⟩:=t
      simp only at this h1 h3
      have:kd=2:=zc
      rw [this]
     rw [hk] at hl
     exact RM hI (q::r) t.k hl (λp hp=>hg p (ag6 _ hp)) h
theorem KC {path:ByteArray} (hI:Inv0 S) (hd:aT S.ar ⟨d,2⟩) (h:mV S.O d path=.ok (d',name)):aT S.ar ⟨d',2⟩/\(af S.O d').aG=false/\cq name:=by
 grind [mV,RM]
theorem OA (hI:bR S) {o:bJ}:aT (ins (S.X.last+1) ⟨bA S.X,o.kind⟩ S.ar) ⟨bA S.X,o.kind⟩:=by
 unfold aT
 have h1:=qX hI.toInv0
 have hn:S.X.last+1∉bn S.ar:=by
  cases e:aF.get S.ar (S.X.last+1) with
  |none=>exact get_none.1 e
  |some t=>have:=hI.ar _ _ e;omega
 rw [wh hn]
 simp only
 rw [h1,agW rfl]
theorem bR.sx {text:ByteArray} (hI:bR S) (hd:aT S.ar ⟨d,2⟩) (lQ:(af S.O d).aG=false) (j3:cq name):bR (Proofs.YtbnfiigafobejaaGreat.sx S d name text).2:=by
 unfold Proofs.YtbnfiigafobejaaGreat.sx
 split
 ·rename_i h0
  exact (hI.FN hd lQ j3 h0 (.inl rfl) ⟨Pd,Pd⟩ (.inl ⟨Pd,rfl⟩)).gD (OA hI (o:=cR S.X 1 420)) _
 exact hI
theorem bR.o9 {text:ByteArray} (hI:bR S) (hd:aT S.ar ⟨d,2⟩):bR (Proofs.YtbnfiigafobejaaGreat.o9 S d name text).2:=by
 unfold Proofs.YtbnfiigafobejaaGreat.o9
 split
 ·exact hI
 rename_i t e
 split
 ·exact hI
 split
 ·exact hI
 rename_i h3 h2
 have hl:=(hI.bS hd e).2
 have hk:t=⟨t.k,1⟩:=by
  have:=(hI.ob _ hl).2.2
  obtain⟨k,kd⟩:=t
  grind
 rw [hk] at hl
 exact hI.gD hl _
theorem bR.nS {top:Nat} {a:dK} (hI:bR S) (ht:aT S.ar ⟨top,2⟩) (hd:aT S.ar ⟨d,2⟩) (lQ:(af S.O d).aG=false) (j3:cq name):bR (Proofs.YtbnfiigafobejaaGreat.nS S top a d name).2:=by
 unfold Proofs.YtbnfiigafobejaaGreat.nS
 split
 ·exact hI.sx hd lQ j3
 split
 ·exact hI.mF hd lQ j3 ⟨Pd,Pd⟩
 split
 ·exact hI.jk hd lQ j3
 split
 ·exact hI.iA hd
 split
 ·exact hI.iZ hd
 split
 ·split
  ·exact hI
  rename_i to ay e
  obtain⟨h1,h2,h3⟩:=KC hI.toInv0 ht e
  exact hI.dm hd h1 h2 h3
 exact hI.o9 hd
theorem abY {i:Int} (hI:Inv0 S) (e:aF.get S.ar i=some t) (hk:t.kind=2):aT S.ar ⟨t.k,2⟩:=by
 have:=hI.live e
 obtain⟨k,kd⟩:=t
 simp only at hk
 subst hk
 exact this
theorem bR.cO {au:Int} {a:dK} (hI:bR S):bR (Proofs.YtbnfiigafobejaaGreat.cO S au a).2:=by
 unfold Proofs.YtbnfiigafobejaaGreat.cO
 split
 ·exact hI
 split
 ·exact hI
 rename_i t e
 split
 ·rename_i hk
  split
  ·exact hI
  rename_i d name e2
  have ht:=abY hI.toInv0 e hk
  obtain⟨h1,h2,h3⟩:=KC hI.toInv0 ht e2
  exact hI.nS ht h1 h2 h3
 exact hI
end facts
section err
variable {S:bB} {c:aN} {d to:Nat} {name ay text:ByteArray} {t:Th}
theorem EF (h:(eE S t).2.1≠0):(eE S t).2.2=S:=by
 grind [om,oQ]
theorem Jh {m:Int} (h:(mF S d name m).1≠0):(mF S d name m).2=S:=by
 grind [mF]
theorem EG (h:(jk S d name text).1≠0):(jk S d name text).2=S:=by
 grind [jk]
theorem Gr (h:(iA S d name).1≠0):(iA S d name).2=S:=by
 grind [iA]
theorem Ji (h:(iZ S d name).1≠0):(iZ S d name).2=S:=by
 grind [iZ]
theorem Gs (h:(dm S d name to ay).1≠0):(dm S d name to ay).2=S:=by
 unfold dm at *
 grind
theorem Jj {k:Nat} {bs:List UInt8} (h:(gD S k bs).2.1≠0):(gD S k bs).2.2=S:=by
 grind [gD]
theorem VK (h:(nH S d name to ay).1≠0):(nH S d name to ay).2=S:=by
 unfold nH at *
 grind
theorem QE {m:Int} (h:(oA S d name m).2.1≠0):(oA S d name m).2.2=S:=by
 grind [oA]
theorem abZ (h:(iC S c).1≠0):(iC S c).2.1=S:=by
 by_cases bZ:1<=c.op/\c.op<=15
 case neg=>rw [Ai bZ]
 have bZ:c.op=1\/c.op=2\/c.op=3\/c.op=4\/c.op=5\/c.op=6\/c.op=7\/c.op=8\/c.op=9\/c.op=10\/c.op=11\/c.op=12\/c.op=13\/c.op=14\/c.op=15:=zc
 rcases bZ with e|e|e|e|e|e|e|e|e|e|e|e|e|e|e
 ·grind [y8,kU,EF]
 ·grind [Bp,gV,EF]
 ·grind [Bq,fV,EF]
 ·grind [y9,ja,Jh]
 ·grind [Br,fo,QE]
 ·grind [Bt,iB,EG]
 ·grind [Bu,dV,VK]
 ·grind [Bv,jA,Gr]
 ·grind [Bw,ij,Jj]
 ·grind [xU,cY]
 ·rw [xV e]
  unfold nY
  split<;>rfl
 all_goals grind [xW,jr,xX,jT,xY,j9,Ji,xZ,iQ,Gs]
theorem ab0 (h:(gF S c).2.code≠0):(gF S c).1=S:=abZ h
theorem YK {au:Int} {a:dK} (h:(cO S au a).1≠0):(cO S au a).2=S:=by
 unfold cO at *
 split
 ·rfl
 rename_i e0
 rw [agV e0] at h
 cases e1:aF.get S.ar au with
 |none=>rfl
 |some t=>
   rw [e1] at h
   simp only at h ⊢
   split
   ·rename_i e2
    rw [agW e2] at h
    cases e3:mV S.O t.k a.path with
    |error e=>rfl
    |ok x=>
      obtain⟨d,name⟩:=x
      rw [e3] at h
      grind [nS,sx,Jh,EG,Gr,Ji,mV,Gs,o9,bL,af,Jj]
   rfl
end err
noncomputable section
structure dF where
 at_:Int
 kind:Int
def jb (f:dF):List Value:=[.int .i64 f.at_,.int .i64 f.kind]
instance:Inhabited dF:=⟨⟨0,0⟩⟩
instance:Inhabited dK:=⟨⟨0,0,⟨#[]⟩,⟨#[]⟩,⟨#[]⟩⟩⟩
def pq (fs:List dF) (i:Nat):dF:=fs.getD i default
def act (xs:List dK) (i:Nat):dK:=xs.getD i default
def FK (f:dF):Prop:=1<=f.kind/\f.kind<=3
instance (f:dF):Decidable (FK f):=inferInstanceAs (Decidable (_/\_))
def iM:List dF->Int->Int
 |[],_=>0
 |f::r,n=>if f.at_=n/\FK f then f.kind else iM r n
def dO (xs:List dK) (n:Int):List dK:=xs.filter (λa=>decide (a.at_=n))
def kJ (au:Int) (S:bB) (xs:List dK):bB:=xs.foldl (λS a=>(cO S au a).2) S
def jd (c:aN) (e:Int):aN:=if c.op=11\/c.op=12 then ⟨c.op,c.aL,0,c.name,c.text,c.dA,c.dC,c.data,0,0,0,0,0,e,0⟩ else {c with answer:=0,code:=e}
def dY (k:Int) (S:bB) (c:aN):bB×aN:=
 if k=1 then (if c.op=13 then (gF S c).1 else S,jd c 180)
 else if k=2/\(c.op=4\/c.op=5\/c.op=6\/c.op=7\/c.op=9) then (S,jd c 176)
 else if k=3/\c.op=9/\2<=c.data.length then ((gF S {c with data:=c.data.take (c.data.length / 2)}).1,{ (gF S {c with data:=c.data.take (c.data.length / 2)}).2 with dA:=c.dA,dC:=c.dC,data:=c.data})
 else gF S c
def cF (au:Int) (c:aN):aN:=if c.op=1 then {c with other:=au} else c
def nJ (fs:List dF) (xs:List dK) (au:Int) (n:Nat) (S:bB) (c:aN):bB×aN:=dY (iM fs n) (kJ au S (dO xs n)) (cF au c)
section p
variable {S:bB} {c:aN} {fs gs:List dF} {xs ys:List dK} {au k:Int} {n:Nat} {A:Option Addr} {m:Nat}
theorem tG (f:dF) (x:Int):∀fs:List dF,iM (fs++[f]) x=if iM fs x=0 then (if f.at_=x/\FK f then f.kind else 0) else iM fs x
 |[]=>rfl
 |g::r=>by
   show (if g.at_=x/\FK g then g.kind else iM (r++[f]) x)=if (if g.at_=x/\FK g then g.kind else iM r x)=0 then _ else (if g.at_=x/\FK g then g.kind else iM r x)
   by_cases h:g.at_=x/\FK g
   ·have:¬g.kind=0:=by have:=h.2.1;omega
    rw [agW h,agW h,agV this]
   rw [agV h,agV h,tG f x r]
theorem wY (a:dK) (x:Int):dO (xs++[a]) x=if a.at_=x then dO xs x++[a] else dO xs x:=by
 unfold dO
 rw [List.filter_append]
 by_cases h:a.at_=x
 ·rw [agW h,List.filter_cons_of_pos (by simpa using h),List.filter_nil]
 rw [agV h,List.filter_cons_of_neg (by simpa using h),List.filter_nil,List.append_nil]
theorem Jk (x:Int):(dO xs x).length<=xs.length:=ahI ..
theorem TA {x:Int} {a:dK} (h:a∈dO xs x):a∈xs:=(List.mem_filter.1 h).1
theorem Jl (a:dK):kJ au S (xs++[a])=(cO (kJ au S xs) au a).2:=by
 unfold kJ;rw [List.foldl_append];rfl
theorem zo {i:Nat} (h:i<xs.length):xs[i]?=some (act xs i):=getD_some h
theorem FO {i:Nat} (h:i<fs.length):fs[i]?=some (pq fs i):=getD_some h
theorem TB {i:Nat} (h:i<xs.length):kJ au S (xs.take (i+1))=(cO (kJ au S (xs.take i)) au (act xs i)).2:=by
 rw [ahq,zo h];exact Jl _
theorem bR.kJ (h:bR S):∀xs:List dK,bR (Proofs.YtbnfiigafobejaaGreat.kJ au S xs):=λxs=>by
 induction xs generalizing S with
 |nil=>exact h
 |cons a r ih=>exact ih h.cO
theorem bR.dY (h:bR S):bR (Proofs.YtbnfiigafobejaaGreat.dY k S c).1:=by
 unfold Proofs.YtbnfiigafobejaaGreat.dY
 split
 ·show bR (if c.op=13 then _ else _)
  split
  ·exact h.gF _
  exact h
 split
 ·exact h
 split
 ·exact h.gF _
 exact h.gF _
theorem bR.nJ (h:bR S):bR (Proofs.YtbnfiigafobejaaGreat.nJ fs xs au n S c).1:=(h.kJ _).dY
def dW (A:Option Addr) (m:Nat) (c:aN):aN:={c with dA:=A,dC:=m}
theorem adi:iC S (dW A m c)=((iC S c).1,(iC S c).2.1,dW A m (iC S c).2.2):=by
 by_cases bZ:1<=c.op/\c.op<=15
 case neg=>rw [Ai bZ,Ai (c:=dW A m c) bZ]
 have bZ:c.op=1\/c.op=2\/c.op=3\/c.op=4\/c.op=5\/c.op=6\/c.op=7\/c.op=8\/c.op=9\/c.op=10\/c.op=11\/c.op=12\/c.op=13\/c.op=14\/c.op=15:=zc
 rcases bZ with q|q|q|q|q|q|q|q|q|q|q|q|q|q|q
 ·rw [y8 q,y8 (c:=dW A m c) q];unfold kU dW;simp only;cases aF.get S.ar c.other<;>(try simp only)<;>(repeat' split)<;>rfl
 ·rw [Bp q,Bp (c:=dW A m c) q];unfold gV jI dW;simp only;split<;>(repeat' split)<;>rfl
 ·rw [Bq q,Bq (c:=dW A m c) q];unfold fV jI dW;simp only;split<;>(repeat' split)<;>rfl
 ·rw [y9 q,y9 (c:=dW A m c) q];unfold ja dW;simp only;split<;>(repeat' split)<;>rfl
 ·rw [Br q,Br (c:=dW A m c) q];unfold fo dW;simp only;split<;>(repeat' split)<;>rfl
 ·rw [Bt q,Bt (c:=dW A m c) q];unfold iB dW;simp only;split<;>(repeat' split)<;>rfl
 ·rw [Bu q,Bu (c:=dW A m c) q];unfold dV dW;simp only;split<;>(repeat' split)<;>rfl
 ·rw [Bv q,Bv (c:=dW A m c) q];unfold jA dW;simp only;split<;>(repeat' split)<;>rfl
 ·rw [Bw q,Bw (c:=dW A m c) q];unfold ij dW;simp only;split<;>(repeat' split)<;>rfl
 ·rw [xU q,xU (c:=dW A m c) q];unfold cY dW;simp only;split<;>(repeat' split)<;>rfl
 ·rw [xV q,xV (c:=dW A m c) q];unfold nY dW;simp only;split<;>(repeat' split)<;>rfl
 ·rw [xW q,xW (c:=dW A m c) q];unfold jr jI dW;simp only;split<;>(repeat' split)<;>rfl
 ·rw [xX q,xX (c:=dW A m c) q];unfold jT dW;simp only;split<;>(repeat' split)<;>rfl
 ·rw [xY q,xY (c:=dW A m c) q];unfold j9 dW;simp only;split<;>(repeat' split)<;>rfl
 rw [xZ q,xZ (c:=dW A m c) q];unfold iQ dW;simp only;split<;>(repeat' split)<;>rfl
theorem YL:(iC S c).2.2.data=c.data:=by
 by_cases bZ:1<=c.op/\c.op<=15
 case neg=>rw [Ai bZ]
 have bZ:c.op=1\/c.op=2\/c.op=3\/c.op=4\/c.op=5\/c.op=6\/c.op=7\/c.op=8\/c.op=9\/c.op=10\/c.op=11\/c.op=12\/c.op=13\/c.op=14\/c.op=15:=zc
 rcases bZ with q|q|q|q|q|q|q|q|q|q|q|q|q|q|q
 ·rw [y8 q];unfold kU;(repeat' split)<;>rfl
 ·rw [Bp q];unfold gV;(repeat' split)<;>rfl
 ·rw [Bq q];unfold fV;(repeat' split)<;>rfl
 ·rw [y9 q];unfold ja;(repeat' split)<;>rfl
 ·rw [Br q];unfold fo;(repeat' split)<;>rfl
 ·rw [Bt q];unfold iB;(repeat' split)<;>rfl
 ·rw [Bu q];unfold dV;(repeat' split)<;>rfl
 ·rw [Bv q];unfold jA;(repeat' split)<;>rfl
 ·rw [Bw q];unfold ij;(repeat' split)<;>rfl
 ·rw [xU q];unfold cY;(repeat' split)<;>rfl
 ·rw [xV q];unfold nY nX;(repeat' split)<;>rfl
 ·rw [xW q];unfold jr nX;(repeat' split)<;>rfl
 ·rw [xX q];unfold jT;(repeat' split)<;>rfl
 ·rw [xY q];unfold j9;(repeat' split)<;>rfl
 rw [xZ q];unfold iQ;(repeat' split)<;>rfl
theorem OB:gF S (dW A m c)=((gF S c).1,dW A m (gF S c).2):=by
 have h:=adi (S:=S) (A:=A) (m:=m) (c:={c with answer:=0,code:=230})
 unfold gF
 rw [show ({dW A m c with answer:=0,code:=230}:aN)=dW A m {c with answer:=0,code:=230} from rfl,h]
 rfl
theorem OC:(gF S c).2.data=c.data:=YL (c:={c with answer:=0,code:=230})
theorem OD {e:Int}:jd (dW A m c) e=dW A m (jd c e):=by
 unfold jd
 by_cases h:c.op=11\/c.op=12
 ·rw [agW h,agW (show (dW A m c).op=11\/(dW A m c).op=12 from h)];rfl
 rw [agV h,agV (show ¬((dW A m c).op=11\/(dW A m c).op=12) from h)];rfl
theorem vA {e:Int}:(jd c e).data=c.data:=by
 unfold jd;split<;>rfl
theorem QF:(dY k S c).2.data=c.data:=by
 unfold dY
 split
 ·exact vA
 split
 ·exact vA
 split
 ·rfl
 exact OC
theorem LB:dY k S (dW A m c)=((dY k S c).1,dW A m (dY k S c).2):=by
 unfold dY
 by_cases h1:k=1
 ·rw [agW h1,agW h1]
  show (if c.op=13 then (gF S (dW A m c)).1 else S,jd (dW A m c) 180)=_
  rw [OB,OD]
 rw [agV h1,agV h1]
 by_cases h2:k=2/\(c.op=4\/c.op=5\/c.op=6\/c.op=7\/c.op=9)
 ·rw [agW h2,agW (show k=2/\((dW A m c).op=4\/(dW A m c).op=5\/(dW A m c).op=6\/(dW A m c).op=7\/(dW A m c).op=9) from h2),OD]
 rw [agV h2,agV (show ¬(k=2/\((dW A m c).op=4\/(dW A m c).op=5\/(dW A m c).op=6\/(dW A m c).op=7\/(dW A m c).op=9)) from h2)]
 by_cases h3:k=3/\c.op=9/\2<=c.data.length
 ·rw [agW h3,agW (show k=3/\(dW A m c).op=9/\2<=(dW A m c).data.length from h3)]
  show ((gF S (dW A m {c with data:=c.data.take (c.data.length / 2)})).1,{ (gF S (dW A m {c with data:=c.data.take (c.data.length / 2)})).2 with dA:=A,dC:=m,data:=c.data})=_
  rw [OB];rfl
 rw [agV h3,agV (show ¬(k=3/\(dW A m c).op=9/\2<=(dW A m c).data.length) from h3)]
 exact OB
theorem YM:cF au (dW A m c)=dW A m (cF au c):=by
 unfold cF
 by_cases h:c.op=1
 ·rw [agW h,agW (show (dW A m c).op=1 from h)];rfl
 rw [agV h,agV (show ¬(dW A m c).op=1 from h)]
theorem VL:nJ fs xs au n S (dW A m c)=((nJ fs xs au n S c).1,dW A m (nJ fs xs au n S c).2):=by
 unfold nJ
 rw [YM,LB]
theorem za:(cF au c).data=c.data:=by
 unfold cF;split<;>rfl
theorem Gt:(nJ fs xs au n S c).2.data=c.data:=QF.trans za
theorem QG {sK:Int} (h:sK=if c.op=1 then au else c.other):cF au c={c with other:=sK}:=by
 unfold cF
 by_cases e:c.op=1
 ·rw [agW e] at h ⊢;rw [h]
 rw [agV e] at h ⊢;rw [h]
end p
end
end
section
open Go.RowKit Go.WideShapes Go.ChangeShapes Go.ChangeAt Go.Deep
def cI {α:Type} (f:α->List Value) (xs:List α):List Value:=fq (λ_ x=>f x) 0 xs
theorem LC {α:Type} {f:α->List Value} {s:Nat} (hf:∀a,(f a).length=s) {xs:List α} {i j:Nat} {a:α} (h:xs[i]?=some a) (hj:j<s):(cI f xs)[i*s+j]?=(f a)[j]?:=uN (f:=λ_ x=>f x) (s:=s) (λ_ a=>hf a) xs 0 i j _ h hj
def kg (a:dK):List Value:=[.int .i64 a.at_,.int .i64 a.op,.string a.path,.string a.to,.string a.text]
structure EH (a:dK) (b:Nat):Prop where
 aw:(Lit.int .i64 a.at_).wf=true
 path:a.path.size<=b
 to:a.to.size<=b
 text:a.text.size<=b
theorem EH.wide {a:dK} {b b':Nat} (h:EH a b) (g:b<=b'):EH a b':=⟨h.aw,ag1 h.path g,ag1 h.to g,ag1 h.text g⟩
structure ze (β:Bs) (c:aN) (b:Nat):Prop where
 data:bF β c.dA c.data
 len:c.data.length<=b
 name:c.name.size<=b
 text:c.text.size<=b
 hw:(Lit.int .i64 c.aL).wf=true
 ow:(Lit.int .i64 c.other).wf=true
 cap:c.data.length<=c.dC
theorem ze.le {β β':Bs} {c:aN} {b:Nat} (h:ze β c b) (g:β.le β'):ze β' c b:=⟨h.data.le g,h.len,h.name,h.text,h.hw,h.ow,h.cap⟩
theorem ze.wide {β:Bs} {c:aN} {b b':Nat} (h:ze β c b) (g:b<=b'):ze β c b':=⟨h.data,ag1 h.len g,ag1 h.name g,ag1 h.text g,h.hw,h.ow,h.cap⟩
instance:Inhabited aN:=⟨⟨0,0,0,⟨#[]⟩,⟨#[]⟩,none,0,[],0,0,0,0,0,0,0⟩⟩
def cM (xs:List aN) (i:Nat):aN:=xs.getD i default
structure lG (xs:List dK) (b:Nat):Prop where
 len:xs.length<=b
 q:∀a∈xs,EH a b
structure kR (xs:List dF) (b:Nat):Prop where
 len:xs.length<=b
 q:∀a∈xs,(Lit.int .i64 a.at_).wf=true
theorem lG.wide {xs:List dK} {b b':Nat} (h:lG xs b) (g:b<=b'):lG xs b':=⟨ag1 h.len g,λa ha=>(h.q a ha).wide g⟩
theorem kR.wide {xs:List dF} {b b':Nat} (h:kR xs b) (g:b<=b'):kR xs b':=⟨ag1 h.len g,h.q⟩
structure fB (β:Bs) (A:Option Addr) (xs:List aN):Prop where
 row:cC β A (cI aQ xs)
 q:∀i,i<xs.length->ze β (cM xs i) 1048576
section s
variable {β β':Bs} {A:Option Addr} {i j:Nat} {v:Value}
theorem Jm {α:Type} {f:α->List Value} {s:Nat} {xs:List α} {a:α} (h:cC β A (cI f xs)) (hf:∀a,(f a).length=s) (hi:xs[i]?=some a) (hv:(f a)[j]?=some v):A=some ⟨bw A,br A,none⟩/\Rd β ⟨bw A,br A+i*s+j,none⟩ v:=by
 have hj:j<s:=by rw [←hf a];exact dP hv
 have:=h (i*s+j) v ((LC hf hi hj).trans hv)
 rw [←ahW] at this
 exact this
theorem fB.le {xs:List aN} (h:fB β A xs) (g:β.le β'):fB β' A xs:=⟨h.row.le g,λi hi=>(h.q i hi).le g⟩
theorem uU {xs:List aN} (h:i<xs.length):xs[i]?=some (cM xs i):=getD_some h
theorem fB.hd {xs:List aN} (h:fB β A xs) (hi:i<xs.length):A=some ⟨bw A,br A,none⟩:=(Jm (s:=13) (j:=0) h.row (λ_=>rfl) (uU hi) rfl).1
theorem fB.rd {xs:List aN} (h:fB β A xs) (hi:i<xs.length) (hv:(aQ (cM xs i))[j]?=some v):Rd β ⟨bw A,br A+i*13+j,none⟩ v:=(Jm h.row (λ_=>rfl) (uU hi) hv).2
theorem M5 {xs:List dK} (h:cC β A (cI kg xs)) (hi:i<xs.length):A=some ⟨bw A,br A,none⟩:=(Jm (s:=5) (j:=0) h (λ_=>rfl) (zo hi) rfl).1
theorem qK {xs:List dK} (h:cC β A (cI kg xs)) (hi:i<xs.length) (hv:(kg (act xs i))[j]?=some v):Rd β ⟨bw A,br A+i*5+j,none⟩ v:=(Jm h (λ_=>rfl) (zo hi) hv).2
theorem aaP {xs:List dF} (h:cC β A (cI jb xs)) (hi:i<xs.length):A=some ⟨bw A,br A,none⟩:=(Jm (s:=2) (j:=0) h (λ_=>rfl) (FO hi) rfl).1
theorem M6 {xs:List dF} (h:cC β A (cI jb xs)) (hi:i<xs.length) (hv:(jb (pq xs i))[j]?=some v):Rd β ⟨bw A,br A+i*2+j,none⟩ v:=(Jm h (λ_=>rfl) (FO hi) hv).2
theorem kR.at {xs:List dF} {b:Nat} (h:kR xs b) (hi:i<xs.length):(Lit.int .i64 (pq xs i).at_).wf=true:=h.q _ (aht (FO hi))
theorem lG.at {xs:List dK} {b:Nat} (h:lG xs b) (hi:i<xs.length):EH (act xs i) b:=h.q _ (aht (zo hi))
end s
section a
variable {H:Type} {enc:TypeId×Value->H} {W:World} {sp:Nat->Bool}
theorem nT {t:TypeId} {n:Nat} {c:Value} {x:DataW H×List MemPlace} (ht:Tryz.prog.underlying t=some (.int .i64)) (h:DataW.trod enc Tryz.prog W 0 sp true n t [c]=some x):∃z,c=.int .i64 z/\(Lit.int .i64 z).wf=true:=by
 obtain⟨z,h1,_,h3⟩:=DataW.trod_int ht h
 cases h1
 exact⟨z,rfl,h3⟩
theorem YN {n:Nat} {cs:List Value} {x:DataW H×List MemPlace} (h:DataW.trod enc Tryz.prog W 0 sp true n 68 cs=some x):∃a:dK,cs=kg a/\EH a (Rows.uptoBulk x.1):=by
 obtain⟨vs,m,_,hx,hl,hvl,hv⟩:=DataW.trod_struct Tryz.underlying68 h
 have hC:Tryz.prog.cellsOf 68=5:=KB
 rw [hC] at hl
 match cs,hl with
 |[c0,c1,c2,c3,c4],_=>
   obtain⟨a0,_⟩:=cK (hv 0 _ rfl) (by rw [hvl];decide)
   obtain⟨a1,_⟩:=cK (hv 1 _ rfl) (by rw [hvl];decide)
   obtain⟨a2,e2⟩:=cK (hv 2 _ rfl) (by rw [hvl];decide)
   obtain⟨a3,e3⟩:=cK (hv 3 _ rfl) (by rw [hvl];decide)
   obtain⟨a4,e4⟩:=cK (hv 4 _ rfl) (by rw [hvl];decide)
   obtain⟨z0,rfl,w0⟩:=nT (c:=c0) Tryz.underlying3 a0
   obtain⟨z1,rfl,_⟩:=nT (c:=c1) Tryz.underlying3 a1
   obtain⟨s2,rfl,l2⟩:=ur (c:=c2) Tryz.underlying9 a2
   obtain⟨s3,rfl,l3⟩:=ur (c:=c3) Tryz.underlying9 a3
   obtain⟨s4,rfl,l4⟩:=ur (c:=c4) Tryz.underlying9 a4
   have hb:Rows.uptoBulk x.1=Rows.uptoBulk (.agg (vs.map (·.1))):=by rw [hx]
   exact⟨⟨z0,z1,s2,s3,s4⟩,rfl,⟨w0,by show s2.size<=_;omega,by show s3.size<=_;omega,by show s4.size<=_;omega⟩⟩
theorem TD {n:Nat} {cs:List Value} {x:DataW H×List MemPlace} (h:DataW.trod enc Tryz.prog W 0 sp true n 66 cs=some x):∃a:dF,cs=jb a/\(Lit.int .i64 a.at_).wf=true:=by
 obtain⟨vs,m,_,hx,hl,hvl,hv⟩:=DataW.trod_struct Tryz.underlying66 h
 have hC:Tryz.prog.cellsOf 66=2:=KB
 rw [hC] at hl
 match cs,hl with
 |[c0,c1],_=>
   obtain⟨a0,_⟩:=cK (hv 0 _ rfl) (by rw [hvl];decide)
   obtain⟨a1,_⟩:=cK (hv 1 _ rfl) (by rw [hvl];decide)
   obtain⟨z0,rfl,w0⟩:=nT (c:=c0) Tryz.underlying3 a0
   obtain⟨z1,rfl,_⟩:=nT (c:=c1) Tryz.underlying3 a1
   exact⟨⟨z0,z1⟩,rfl,w0⟩
theorem QH {n:Nat} {c:Value} {x:DataW H×List MemPlace} (h:DataW.trod enc Tryz.prog W 0 sp true n 51 [c]=some x) :
 ∃A cp,∃d:List UInt8,c=.slice A d.length cp/\bF (B0 W) A d/\d.length+1<=Rows.uptoBulk x.1/\d.length<=cp:=by
 obtain⟨A,cp,d,rfl,h2,h3⟩:=IK h
 obtain⟨A',c',xs,D,h1,hc,_⟩:=uq (α:=UInt8) (f:=λb=>[Bb b]) (Q:=λ_ _=>True) Tryz.underlying51 (size:=1) KB Pd (λn cs x h=>Rk Tryz.underlying5 h) (λ_=>rfl) h
 have h4:=(List.cons.inj h1).1
 injection h4 with _ e1 e2
 exact⟨A,cp,d,rfl,h2,h3,zc⟩
theorem VN {n:Nat} {cs:List Value} {x:DataW H×List MemPlace} (h:DataW.trod enc Tryz.prog W 0 sp true n 53 cs=some x):∃c:aN,cs=aQ c/\ze (B0 W) c (Rows.uptoBulk x.1):=by
 obtain⟨us,_,_,hux,hl,xC,hu⟩:=DataW.trod_struct Tryz.underlying53 h
 have hC:Tryz.prog.cellsOf 53=13:=KB
 rw [hC] at hl
 match cs,hl with
 |[c0,c1,c2,c3,c4,c5,c6,c7,c8,c9,c10,c11,DW],_=>
   obtain⟨h0,_⟩:=cK (hu 0 _ rfl) (by rw [xC];decide)
   obtain⟨h1,_⟩:=cK (hu 1 _ rfl) (by rw [xC];decide)
   obtain⟨h2,_⟩:=cK (hu 2 _ rfl) (by rw [xC];decide)
   obtain⟨h3,b3⟩:=cK (hu 3 _ rfl) (by rw [xC];decide)
   obtain⟨h4,b4⟩:=cK (hu 4 _ rfl) (by rw [xC];decide)
   obtain⟨h5,b5⟩:=cK (hu 5 _ rfl) (by rw [xC];decide)
   obtain⟨h6,_⟩:=cK (hu 6 _ rfl) (by rw [xC];decide)
   obtain⟨h7,_⟩:=cK (hu 7 _ rfl) (by rw [xC];decide)
   obtain⟨h8,_⟩:=cK (hu 8 _ rfl) (by rw [xC];decide)
   obtain⟨h9,_⟩:=cK (hu 9 _ rfl) (by rw [xC];decide)
   obtain⟨h10,_⟩:=cK (hu 10 _ rfl) (by rw [xC];decide)
   obtain⟨h11,_⟩:=cK (hu 11 _ rfl) (by rw [xC];decide)
   obtain⟨ts,_,_,_,_,htl,ht⟩:=DataW.trod_struct Tryz.underlying26 h9
   obtain⟨t0,_⟩:=cK (ht 0 _ rfl) (by rw [htl];decide)
   obtain⟨t1,_⟩:=cK (ht 1 _ rfl) (by rw [htl];decide)
   obtain⟨z0,rfl,w0⟩:=nT (c:=c0) Tryz.underlying3 h0
   obtain⟨z1,rfl,w1⟩:=nT (c:=c1) Tryz.underlying3 h1
   obtain⟨z2,rfl,w2⟩:=nT (c:=c2) Tryz.underlying3 h2
   obtain⟨s3,rfl,l3⟩:=ur (c:=c3) Tryz.underlying9 h3
   obtain⟨s4,rfl,l4⟩:=ur (c:=c4) Tryz.underlying9 h4
   obtain⟨A5,p5,d5,rfl,q5,l5,k5⟩:=QH (c:=c5) h5
   obtain⟨z6,rfl,w6⟩:=nT (c:=c6) Tryz.underlying3 h6
   obtain⟨z7,rfl,w7⟩:=nT (c:=c7) Tryz.underlying3 h7
   obtain⟨z8,rfl,w8⟩:=nT (c:=c8) Tryz.underlying3 h8
   obtain⟨z9,rfl,w9⟩:=nT (c:=c9) Tryz.underlying3 t0
   obtain⟨z10,rfl,w10⟩:=nT (c:=c10) Tryz.underlying3 t1
   obtain⟨z11,rfl,w11⟩:=nT (c:=c11) Tryz.underlying38 h10
   obtain⟨z12,rfl,w12⟩:=nT (c:=DW) Tryz.underlying3 h11
   have hb:Rows.uptoBulk x.1=Rows.uptoBulk (.agg (us.map (·.1))):=by rw [hux]
   exact⟨⟨z0,z1,z2,s3,s4,A5,p5,d5,z6,z7,z8,z9,z10,z11,z12⟩,rfl,⟨q5,by show d5.length<=_;omega,by show s3.size<=_;omega,by show s4.size<=_;omega,w1,w2,k5⟩⟩
theorem TF {n:Nat} {c:Value} {x:DataW H×List MemPlace} (h:DataW.trod enc Tryz.prog W 0 sp true n 30 [c]=some x):∃A cp,∃xs:List dK,c=.slice A xs.length cp/\cC (B0 W) A (cI kg xs)/\lG xs (Rows.uptoBulk x.1)/\xs.length<=cp:=by
 obtain⟨A,cp,xs,D,h1,OE,_,h2,h4,h3⟩:=uq (α:=dK) (f:=kg) (Q:=λa d=>EH a (Rows.uptoBulk d)) Tryz.underlying30 (size:=5) KB Pd (λn cs x h=>YN h) (λ_=>rfl) h
 cases h1
 have h5:=vW ((List.range xs.length).map D)
 refine⟨A,cp,xs,rfl,h2,⟨by simp at h5;omega,λa ha=>?_⟩,OE⟩
 obtain⟨i,hi,e⟩:=ahA.1 ha
 have h6:=h4 i hi
 rw [show xs.getD i default=a by rw [←e];simp [hi]] at h6
 exact h6.wide (by have:=C5 (D:=D) hi;omega)
theorem OG {n:Nat} {c:Value} {x:DataW H×List MemPlace} (h:DataW.trod enc Tryz.prog W 0 sp true n 29 [c]=some x):∃A cp,∃xs:List dF,c=.slice A xs.length cp/\cC (B0 W) A (cI jb xs)/\kR xs (Rows.uptoBulk x.1)/\xs.length<=cp:=by
 obtain⟨A,cp,xs,D,h1,OE,_,h2,h4,h3⟩:=uq (α:=dF) (f:=jb) (Q:=λa _=>(Lit.int .i64 a.at_).wf=true) Tryz.underlying29 (size:=2) KB Pd (λn cs x h=>TD h) (λ_=>rfl) h
 cases h1
 have h5:=vW ((List.range xs.length).map D)
 refine⟨A,cp,xs,rfl,h2,⟨by simp at h5;omega,λa ha=>?_⟩,OE⟩
 obtain⟨i,hi,e⟩:=ahA.1 ha
 have h6:=h4 i hi
 rw [show xs.getD i default=a by rw [←e];simp [hi]] at h6
 exact h6
theorem open_calls {v:Value} {d:DataW H} {ps:List MemPlace} {r:Go.Reach} {b0:Nat} (hval:Value.okWide Tryz.prog W r b0 35 v) (h:DataW.Trod enc Tryz.prog W 0 sp true 35 v d ps) (hb:Rows.uptoBulk d<=1048576) :
 ∃A cp,∃xs:List aN,v=.slice A xs.length cp/\fB (B0 W) A xs/\xs.length<=1048576/\xs.length<=cp:=by
 obtain⟨a,n,c,rfl⟩:=okWide_slice Tryz.underlying35 hval
 obtain⟨fuel,h⟩:=h
 obtain⟨A,cp,xs,D,h1,OE,_,h2,h4,h3⟩:=uq (α:=aN) (f:=aQ) (Q:=λa d=>ze (B0 W) a (Rows.uptoBulk d)) Tryz.underlying35 (size:=13) KB Pd (λn cs x h=>VN h) (λ_=>rfl) h
 cases h1
 have h5:=vW ((List.range xs.length).map D)
 have h3:Rows.uptoBulkAll ((List.range xs.length).map D)+1<=Rows.uptoBulk d:=h3
 refine⟨a,c,xs,rfl,⟨h2,λi hi=>(h4 i hi).wide ?_⟩,by simp at h5;omega,OE⟩
 have h7:=C5 (D:=D) hi
 omega
def KD (A:Option Addr) (n cp:Nat) (au:Int) (X:FM) (Af:Option Addr) (nf cf:Nat) (Aa:Option Addr) (na ca:Nat):Value:=.agg #[.slice A n cp,.int .i64 au,.int .i64 X.cN,.int .i64 X.cB,.int .i64 X.cH,.int .i64 X.cS,.int .i64 X.cZ,.slice Af nf cf,.slice Aa na ca]
theorem open_wstart {v:Value} {d:DataW H} {ps:List MemPlace} {r:Go.Reach} {b0:Nat} (hval:Value.okWide Tryz.prog W r b0 34 v) (h:DataW.Trod enc Tryz.prog W 0 sp true 34 v d ps) :
 ∃A cp,∃ns:List aO,∃L:eV,∃au:Int,∃X:FM,∃Af cf,∃fs:List dF,∃Aa ca,∃xs:List dK,v=KD A ns.length cp au X Af fs.length cf Aa xs.length ca/\aP (B0 W) A ns L/\jZ ns (Rows.uptoBulk d)/\afu X/\(Lit.int .i64 au).wf=true ∧
   cC (B0 W) Af (cI jb fs)/\kR fs (Rows.uptoBulk d)/\fs.length<=cf/\cC (B0 W) Aa (cI kg xs)/\lG xs (Rows.uptoBulk d)/\xs.length<=ca:=by
 obtain⟨cs,rfl,hcs⟩:=okWide_struct Tryz.underlying34 hval
 obtain⟨fuel,h⟩:=h
 obtain⟨ys,m,_,hx,hl,vK,hf⟩:=DataW.trod_struct Tryz.underlying34 h
 have hC:Tryz.prog.cellsOf 34=9:=KB
 rw [hC] at hcs
 obtain⟨cs⟩:=cs
 match cs,hcs with
 |[c0,c1,c2,c3,c4,c5,c6,c7,c8],_=>
   obtain⟨h0,b0⟩:=cK (hf 0 _ rfl) (by rw [vK];decide)
   obtain⟨hr,_⟩:=cK (hf 1 _ rfl) (by rw [vK];decide)
   obtain⟨h1,_⟩:=cK (hf 2 _ rfl) (by rw [vK];decide)
   obtain⟨h3,b3⟩:=cK (hf 3 _ rfl) (by rw [vK];decide)
   obtain⟨us,_,_,hux,_,xC,hu⟩:=DataW.trod_struct Tryz.underlying24 h0
   obtain⟨g0,e0⟩:=cK (hu 0 _ rfl) (by rw [xC];decide)
   obtain⟨A,cp,ns,L,rfl,hG,hB⟩:=S5 (c:=c0) g0
   obtain⟨vs,_,_,_,_,hvl,hv⟩:=DataW.trod_struct Tryz.underlying28 h1
   obtain⟨k0,_⟩:=cK (hv 0 _ rfl) (by rw [hvl];decide)
   obtain⟨k1,_⟩:=cK (hv 1 _ rfl) (by rw [hvl];decide)
   obtain⟨k2,_⟩:=cK (hv 2 _ rfl) (by rw [hvl];decide)
   obtain⟨k3,_⟩:=cK (hv 3 _ rfl) (by rw [hvl];decide)
   obtain⟨ts,_,_,_,_,htl,ht⟩:=DataW.trod_struct Tryz.underlying26 k3
   obtain⟨t0,_⟩:=cK (ht 0 _ rfl) (by rw [htl];decide)
   obtain⟨t1,_⟩:=cK (ht 1 _ rfl) (by rw [htl];decide)
   obtain⟨zr,rfl,wr⟩:=nT (c:=c1) Tryz.underlying3 hr
   obtain⟨z0,rfl,w0⟩:=nQ (c:=c2) Tryz.underlying3 k0
   obtain⟨z1,rfl,w1⟩:=nQ (c:=c3) Tryz.underlying3 k1
   obtain⟨z2,rfl,w2⟩:=nQ (c:=c4) Tryz.underlying3 k2
   obtain⟨z3,rfl,w3⟩:=nQ (c:=c5) Tryz.underlying3 t0
   obtain⟨z4,rfl,w4⟩:=nQ (c:=c6) Tryz.underlying3 t1
   obtain⟨ws,_,_,hwx,_,hwl,hw⟩:=DataW.trod_struct Tryz.underlying32 h3
   obtain⟨q0,d0⟩:=cK (hw 0 _ rfl) (by rw [hwl];decide)
   obtain⟨q1,d1⟩:=cK (hw 1 _ rfl) (by rw [hwl];decide)
   obtain⟨Af,cf,fs,rfl,hF,hFl,hFc⟩:=OG (c:=c7) q0
   obtain⟨Aa,ca,xs,rfl,hA,hAb,hAc⟩:=TF (c:=c8) q1
   cases hx
   rw [hux] at b0
   rw [hwx] at b3
   exact⟨A,cp,ns,L,zr,⟨z0,z1,z2,z3,z4,0,0,0⟩,Af,cf,fs,Aa,ca,xs,rfl,hG,hB.wide (ag1 e0 b0),⟨w0,w1,w2,w3,w4⟩,wr,hF,⟨ag1 hFl.len (ag1 d0 b3),hFl.q⟩,hFc,hA,⟨ag1 hAb.len (ag1 d1 b3),λa ha=>(hAb.q a ha).wide (ag1 d1 b3)⟩,hAc⟩
end a
end
end Go.Proofs.YtbnfiigafobejaaGreat
section
namespace Go.Proofs
open Go.Shelf
def Tryz.keysS_ren:Go.Shelf.Ren:=⟨fun|7=>69|10=>96|n=>n,fun|23=>145|26=>9|3=>133|28=>160|0=>0|27=>159|33=>162|4=>4|n=>n,fun|n=>n⟩
theorem Tryz.keysS:Go.Proofs.SlLaysZ.n7 Tryz.prog Tryz.keysS_ren:={
 mixed:=by kernel_rfl
 f7:=⟨Tryz.f69.name,by decide,Tryz.func69.trans (congrArg some (by kernel_rfl))⟩
 f10:=⟨Tryz.f96.name,by decide,Tryz.func96.trans (congrArg some (by kernel_rfl))⟩
 t0:=Tryz.underlying0
 a0:=Tryz.isAgg0
 z0:=Tryz.sizeOf0
 v0:=Tryz.zeroValue0
 t4:=Tryz.underlying4
 a4:=Tryz.isAgg4
 z4:=Tryz.sizeOf4
 v4:=Tryz.zeroValue4
 t23:=Tryz.underlying145
 a23:=Tryz.isAgg145
 z23:=Tryz.sizeOf145
 v23:=Tryz.zeroValue145
 t26:=Tryz.underlying9
 a26:=Tryz.isAgg9
 z26:=Tryz.sizeOf9
 v26:=Tryz.zeroValue9
 t27:=Tryz.underlying159
 a27:=Tryz.isAgg159
 z27:=Tryz.sizeOf159
 v27:=Tryz.zeroValue159
 t28:=Tryz.underlying160
 a28:=Tryz.isAgg160
 z28:=Tryz.sizeOf160
 v28:=Tryz.zeroValue160
 t33:=Tryz.underlying162
 a33:=Tryz.isAgg162
 z33:=Tryz.sizeOf162
 v33:=Tryz.zeroValue162}
def Tryz.sortedS_ren:Go.Shelf.Ren:=⟨fun|6=>68|8=>94|9=>95|11=>113|13=>112|12=>114|23=>131|24=>132|14=>133|15=>134|16=>135|17=>136|18=>137|19=>138|20=>139|21=>140|22=>141|25=>150|26=>145|27=>146|28=>151|29=>152|30=>153|31=>157|n=>n,fun|26=>9|28=>160|24=>157|0=>0|3=>3|37=>199|48=>214|50=>216|4=>4|40=>208|39=>207|45=>205|5=>5|9=>9|51=>224|55=>228|57=>233|58=>234|33=>162|n=>n,fun|n=>n⟩
theorem Tryz.sortedS:Go.Proofs.SlLaysZ.n6 Tryz.prog Tryz.sortedS_ren:={
 mixed:=by kernel_rfl
 f6:=⟨Tryz.f68.name,by decide,Tryz.func68.trans (congrArg some (by kernel_rfl))⟩
 f8:=⟨Tryz.f94.name,by decide,Tryz.func94.trans (congrArg some (by kernel_rfl))⟩
 f11:=⟨Tryz.f113.name,by decide,Tryz.func113.trans (congrArg some (by kernel_rfl))⟩
 t0:=Tryz.underlying0
 a0:=Tryz.isAgg0
 z0:=Tryz.sizeOf0
 v0:=Tryz.zeroValue0
 t24:=Tryz.underlying157
 a24:=Tryz.isAgg157
 z24:=Tryz.sizeOf157
 v24:=Tryz.zeroValue157
 t26:=Tryz.underlying9
 a26:=Tryz.isAgg9
 z26:=Tryz.sizeOf9
 v26:=Tryz.zeroValue9
 t28:=Tryz.underlying160
 a28:=Tryz.isAgg160
 z28:=Tryz.sizeOf160
 v28:=Tryz.zeroValue160
 i26:=by kernel_rfl}
def Tryz.sortS_ren:Go.Shelf.Ren:=⟨fun|6=>95|8=>112|9=>114|19=>131|20=>132|21=>133|22=>134|23=>135|24=>136|25=>137|26=>138|27=>139|28=>140|29=>141|36=>150|31=>145|32=>146|37=>151|38=>152|39=>153|41=>157|n=>n,fun|27=>157|29=>9|3=>3|32=>199|26=>157|0=>0|44=>214|46=>216|4=>4|36=>208|35=>207|41=>205|5=>5|9=>9|53=>224|57=>228|63=>233|64=>234|n=>n,fun|n=>n⟩
theorem Tryz.sortS:Go.Proofs.SlLaysM.n6 Tryz.prog Tryz.sortS_ren:={
 mixed:=by kernel_rfl
 f6:=⟨Tryz.f95.name,by decide,Tryz.func95.trans (congrArg some (by kernel_rfl))⟩
 f8:=Tryz.func112.trans (congrArg some (by kernel_rfl))
 f9:=⟨Tryz.f114.name,by decide,Tryz.func114.trans (congrArg some (by kernel_rfl))⟩
 f19:=Tryz.func131.trans (congrArg some (by kernel_rfl))
 f20:=Tryz.func132.trans (congrArg some (by kernel_rfl))
 f21:=⟨Tryz.f133.name,by decide,Tryz.func133.trans (congrArg some (by kernel_rfl))⟩
 f22:=⟨Tryz.f134.name,by decide,Tryz.func134.trans (congrArg some (by kernel_rfl))⟩
 f23:=⟨Tryz.f135.name,by decide,Tryz.func135.trans (congrArg some (by kernel_rfl))⟩
 f24:=⟨Tryz.f136.name,by decide,Tryz.func136.trans (congrArg some (by kernel_rfl))⟩
 f25:=⟨Tryz.f137.name,by decide,Tryz.func137.trans (congrArg some (by kernel_rfl))⟩
 f26:=⟨Tryz.f138.name,by decide,Tryz.func138.trans (congrArg some (by kernel_rfl))⟩
 f27:=⟨Tryz.f139.name,by decide,Tryz.func139.trans (congrArg some (by kernel_rfl))⟩
 f28:=⟨Tryz.f140.name,by decide,Tryz.func140.trans (congrArg some (by kernel_rfl))⟩
 f29:=⟨Tryz.f141.name,by decide,Tryz.func141.trans (congrArg some (by kernel_rfl))⟩
 f31:=Tryz.func145.trans (congrArg some (by kernel_rfl))
 f32:=Tryz.func146.trans (congrArg some (by kernel_rfl))
 f36:=⟨Tryz.f150.name,by decide,Tryz.func150.trans (congrArg some (by kernel_rfl))⟩
 f37:=⟨Tryz.f151.name,by decide,Tryz.func151.trans (congrArg some (by kernel_rfl))⟩
 f38:=⟨Tryz.f152.name,by decide,Tryz.func152.trans (congrArg some (by kernel_rfl))⟩
 f39:=⟨Tryz.f153.name,by decide,Tryz.func153.trans (congrArg some (by kernel_rfl))⟩
 f41:=⟨Tryz.f157.name,by decide,Tryz.func157.trans (congrArg some (by kernel_rfl))⟩
 t0:=Tryz.underlying0
 a0:=Tryz.isAgg0
 z0:=Tryz.sizeOf0
 v0:=Tryz.zeroValue0
 t3:=Tryz.underlying3
 a3:=Tryz.isAgg3
 z3:=Tryz.sizeOf3
 v3:=Tryz.zeroValue3
 t4:=Tryz.underlying4
 a4:=Tryz.isAgg4
 z4:=Tryz.sizeOf4
 v4:=Tryz.zeroValue4
 t5:=Tryz.underlying5
 a5:=Tryz.isAgg5
 z5:=Tryz.sizeOf5
 v5:=Tryz.zeroValue5
 t9:=Tryz.underlying9
 a9:=Tryz.isAgg9
 z9:=Tryz.sizeOf9
 v9:=Tryz.zeroValue9
 t26:=Tryz.underlying157
 a26:=Tryz.isAgg157
 z26:=Tryz.sizeOf157
 v26:=Tryz.zeroValue157
 t27:=Tryz.underlying157
 a27:=Tryz.isAgg157
 z27:=Tryz.sizeOf157
 v27:=Tryz.zeroValue157
 t29:=Tryz.underlying9
 a29:=Tryz.isAgg9
 z29:=Tryz.sizeOf9
 v29:=Tryz.zeroValue9
 t32:=Tryz.underlying199
 a32:=Tryz.isAgg199
 z32:=Tryz.sizeOf199
 v32:=Tryz.zeroValue199
 t35:=Tryz.underlying207
 a35:=Tryz.isAgg207
 z35:=Tryz.sizeOf207
 v35:=Tryz.zeroValue207
 t36:=Tryz.underlying208
 a36:=Tryz.isAgg208
 z36:=Tryz.sizeOf208
 v36:=Tryz.zeroValue208
 t41:=Tryz.underlying205
 a41:=Tryz.isAgg205
 z41:=Tryz.sizeOf205
 v41:=Tryz.zeroValue205
 t44:=Tryz.underlying214
 a44:=Tryz.isAgg214
 z44:=Tryz.sizeOf214
 v44:=Tryz.zeroValue214
 t46:=Tryz.underlying216
 a46:=Tryz.isAgg216
 z46:=Tryz.sizeOf216
 v46:=Tryz.zeroValue216
 t53:=Tryz.underlying224
 a53:=Tryz.isAgg224
 z53:=Tryz.sizeOf224
 v53:=Tryz.zeroValue224
 t57:=Tryz.underlying228
 a57:=Tryz.isAgg228
 z57:=Tryz.sizeOf228
 v57:=Tryz.zeroValue228
 t63:=Tryz.underlying233
 a63:=Tryz.isAgg233
 z63:=Tryz.sizeOf233
 v63:=Tryz.zeroValue233
 t64:=Tryz.underlying234
 a64:=Tryz.isAgg234
 z64:=Tryz.sizeOf234
 v64:=Tryz.zeroValue234}
end Go.Proofs
end
namespace Go.Proofs.YtbnfiigafobejaaGreat
section
open Go.RowKit Go.Maps Go.Sort Go.Shelf
theorem adj (m:Nat):AnyZ.SortsIn Tryz.prog Tryz.sortedS_ren Fence.wide m:=
 ⟨λaD off cap ss W hH hblk eT=>callsIn_wide.2 (AnyM.slices_Sort_string Tryz.sortS aD off cap ss W hH hblk eT),
  λp cap W=>callsIn_wide.2 (AnyM.slices_Sort_string_none Tryz.sortS p cap W)⟩
def KE (bk:Nat):Value:=.func (.func 96) #[] #[.pointer (some ⟨bk,0,none⟩)]
theorem YO {β:Bs} (mb:Option Nat):aW Tryz.prog β 69 #[.map mb] [] (λv l=>∃bk,v=KE bk/\l=[.aD bk [.map mb] 145]):=
 aW.Ng λW _=>by
  have h:CallsIn Fence.wide 5 Tryz.prog 69 #[.map mb] W λe w'=>e=.returned (KE W.heap.size)/\w'=W.alloc (.cells #[.map mb] 145):=AnyZ.keys_in Tryz.keysS Fence.wide 5 trivial rfl mb W
  refine ((callsIn_wide (n:=5)).1 h).mono ?_
  rintro e w' ⟨rfl,rfl⟩
  refine⟨_,_,rfl,⟨W.heap.size,rfl,rfl⟩,(cJ.refl _ _).alloc _,λk=>k=W.heap.size,⟨?_,λk=>Iff.rfl⟩,λk hk=>Nat.le_of_eq hk.symm⟩
  show (W.heap.push _)[W.heap.size]?=_
  simp
def x3 (es:iW Th):List Value:=es.map (λe=>.string e.1)
theorem QI {es:iW Th} (h:pN es):(es.map (λe=>e.1.data.toList)).Pairwise (· < ·):=by
 refine List.pairwise_map.2 (h.imp (λ{a b} d8=>?_))
 unfold jy at d8
 have h1:¬Op.bytesLess b.1.toList a.1.toList=true:=λe=>d8 (by rw [e];rfl)
 have h2:¬b.1.toList=a.1.toList:=λe=>d8 (by rw [e];simp)
 rw [bytesLess_eq,Lib.toList_data,Lib.toList_data] at h1
 rw [Lib.toList_data,Lib.toList_data] at h2
 grind
theorem YP {w:World} {b n:Nat} {L:HL} {es:iW Th} {D:DataW Value} (hr:pN es) (kB:w.ownsMap Tryz.prog 9 yS b n D) (hf:∀kl,Maps.has D kl=(nE L es kl).isSome) {ss:List (List UInt8)} (hp:ss.Perm (strKeys D)) :
 ss.mergeSort (λx y=>decide (x<=y))=es.map (λe=>e.1.data.toList):=by
 have hsort:=QI hr
 obtain⟨es',hD,hpw,_⟩:=kB.entries G8
 obtain⟨es2,Bd,hko⟩:=kB.keysOf
 obtain rfl:es'=es2:=by rw [hD] at Bd;simpa using Bd
 have hp2:(es.map (λe=>e.1.data.toList)).Perm (strKeys D):=by
  rw [hD]
  refine perm_strKeys hpw (λp hp=>?_) (hsort.imp (λ{a b} h e=>by subst e;exact agY h (List.lt_irrefl a))) (λx=>?_)
  ·obtain⟨v,hv⟩:=hko p hp
   obtain⟨x,_,h,_⟩:=keyOf_str Tryz.underlying9 hv
   exact⟨x,h⟩
  rw [←hD,hf]
  show _↔((bL ⟨x.toArray⟩ es).map (iw L)).isSome=true
  rw [Option.isSome_map]
  constructor
  ·intro hx
   obtain⟨e,he,rfl⟩:=ahe.1 hx
   have h1:(⟨e.1.data.toList.toArray⟩:ByteArray)=e.1:=by rw [Array.toArray_toList]
   rw [h1,Ac (t:=e.2) (pN.pP hr) he];rfl
  intro hx
  obtain⟨t,ht⟩:=Option.isSome_iff_exists.1 hx
  exact ahe.2 ⟨_,rE ht,agU⟩
 have h3:=mergeSort_of_perm (hp.trans hp2.symm)
 have h4:(es.map (λe=>e.1.data.toList)).mergeSort leB=es.map (λe=>e.1.data.toList):=List.mergeSort_of_pairwise (hsort.imp (λ{a b} h=>by simp only [leB,decide_eq_true_eq];exact List.le_of_lt h))
 exact h3.trans h4
theorem TG {β:Bs} (L:HL) (b bk n:Nat) (es:iW Th) (hr:pN es) (hn:n<=8192) :
 aW Tryz.prog β 68 #[KE bk] [.abs (bM Tryz.prog 9 b (nE L es) n),.aD bk [.map (some b)] 145] (λv l=>∃A cap,v=.slice A es.length cap ∧
  l=[.abs (bM Tryz.prog 9 b (nE L es) n),.aD bk [.map (some b)] 145,.abs (aH 9 1 A es.length cap (x3 es))]):=by
 intro R w hS
 obtain⟨F1,h1⟩:=hS.get (i:=0) (p:=.abs (bM Tryz.prog 9 b (nE L es) n)) rfl
 obtain⟨F2,h2⟩:=hS.get (i:=1) (p:=.aD bk [.map (some b)] 145) rfl
 obtain⟨D,kB,eT,hhas,_⟩:=h1.1
 have hcell:w.cell? ⟨bk,0,none⟩=some (.map (some b)):=(lY h2.1 rfl rfl rfl).1
 have hseq:SeqGives Fence.wide 2 Tryz.prog 96 #[.pointer (some ⟨bk,0,none⟩)] encStr (λss=>ss.Perm (strKeys D)) (Maps.size D) w:=
  AnyZ.keys_gives (ρ:=Tryz.keysS_ren) {Tryz.keysS with} Fence.wide _ trivial rfl zc bk b n D w (lt_of_some h2.1) hcell kB
 have cS:=AnyZ.sorted_in Tryz.sortedS Fence.wide 5 trivial trivial trivial trivial rfl zc (adj _) (enters_of Tryz.func95 KB rfl) 96 #[.pointer (some ⟨bk,0,none⟩)] trivial (enters_of Tryz.func96 KB rfl)
  (λss=>ss.Perm (strKeys D)) (Maps.size D) (by rw [eT];unfold maxLen;omega) (by rw [eT];omega) w hseq
 change CallsIn _ _ Tryz.prog 68 _ _ _ at cS
 refine ((callsIn_wide (n:=5)).1 cS).mono ?_
 rintro e w' ⟨v,ss,rfl,hp,hrow,hnil,hb⟩
 have hkeys:=YP hr kB hhas hp
 have hl2:ss.length=es.length:=by
  have h3:(ss.mergeSort (λx y=>decide (x<=y))).length=ss.length:=List.length_mergeSort ss
  rw [hkeys,ahf] at h3
  exact h3.symm
 rw [hkeys,hl2] at hrow
 have D8:∃A cap,v=.slice A es.length cap:=by
  rcases hrow.2 with ⟨e1,e2⟩|⟨g,cp,cur,e1,_⟩
  all_goals grind
 obtain⟨A,cap,rfl⟩:=D8
 have hnv:(es.map (λe=>e.1.data.toList)).map encStr=x3 es:=by
  rw [List.map_map]
  refine ahx (λe _=>?_)
  grind
 rw [hnv] at hrow
 have hq:aR β ([.abs (bM Tryz.prog 9 b (nE L es) n),.aD bk [.map (some b)] 145,.abs R]++[.abs (aH 9 1 A es.length cap (x3 es))]) w':=by
  refine aR.new (F:=λk=>(Value.slice A es.length cap).ownBlock=some k) hS ⟨?_,λk=>Iff.rfl⟩ ⟨hb.os,hb.tape,hb.output,hb.size,λk hk _=>hb.block k hk⟩ (λk hk=>(hrow.lt k hk).1)
  refine⟨hrow.1,?_⟩
  rcases hrow.2 with h|⟨g,cp,cur,e1,_,h3,h4⟩
  ·exact .inl h
  exact .inr ⟨g,cp,cur,e1,ag0 _,h3,h4⟩
 exact⟨_,[.abs (bM Tryz.prog 9 b (nE L es) n),.aD bk [.map (some b)] 145,.abs (aH 9 1 A es.length cap (x3 es))],rfl,⟨A,cap,rfl,rfl⟩,hq.pick (ar:=[0,1,3,2]) rfl rfl⟩
end
section
open Go.RowKit Go.Maps bK aF
theorem zq {ns:List aO} {n:aO} {k:Nat} (h:k<ns.length):nd (ns++[n]) k=nd ns k:=by
 grind [nd]
theorem wq {ns:List aO} {n:aO}:nd (ns++[n]) ns.length=n:=by
 grind [nd]
def Hv:eV:=⟨λ_=>none,λ_=>none,λ_=>0,λ_=>0⟩
def qY (ns:List aO) (L:eV) (k:Nat):eH:=aH 149 2 (L.eA k) (nd ns k).ah.length (L.eC k) (mT (nd ns k).ah)
def kY (ns:List aO) (L:eV) (k:Nat):eH:=aH 5 1 (L.dA k) (nd ns k).data.length (L.dC k) (dR (nd ns k).data)
def afA (A:Option Addr) (c:Nat) (ns:List aO) (L:eV):HP:=.abs (aH 95 10 A ns.length c (bG L ns))
def KF (A:Option Addr) (c:Nat) (ns:List aO) (L:eV):List HP:=[afA A c ns L,.abs (kE (qY ns L) ns.length),.abs (kE (kY ns L) ns.length)]
theorem pW.graph {β β':Bs} {A:Option Addr} {c:Nat} {ns:List aO} {L:eV} (h:pW β (KF A c ns L) β'):aP β' A ns L:=by
 obtain⟨F,h1,h2⟩:=h.get 0 rfl
 obtain⟨G,g1,g2⟩:=h.get 1 rfl
 obtain⟨K,k1,k2⟩:=h.get 2 rfl
 exact⟨cC.iH h1 h2 rfl,
  kE.base k1 k2 rfl (Φ:=λi b=>bF b (L.dA i) (nd ns i).data) (λi _ F hF hO=>cC.iH (show (HP.abs (aH 5 1 (L.dA i) (nd ns i).data.length (L.dC i) (dR (nd ns i).data))).h F _ from hF) hO rfl),
  kE.base g1 g2 rfl (Φ:=λi b=>cU b (L.eA i) (nd ns i).ah) (λi _ F hF hO=>cC.iH (show (HP.abs (aH 149 2 (L.eA i) (nd ns i).ah.length (L.eC i) (mT (nd ns i).ah))).h F _ from hF) hO rfl)⟩
theorem QJ {L:eV} {ns:List aO} {n:aO} {dA eA:Option Addr} {dC eC:Nat}:bG L ns++[.int .i64 n.id,.int .i64 n.kind,.int .i64 n.mode,.int .i64 n.bg,.int .i64 n.bh,.int .i64 n.aU,.int .i64 n.aI,.slice dA n.data.length dC,.string n.target,.slice eA n.ah.length eC]=bG (L.put ns.length dA dC eA eC) (ns++[n]):=by
 have h:=II (ns:=ns++[n]) (L:=L) (k:=ns.length) agU dA dC eA eC
 grind [wq]
theorem LD {ns:List aO} {L:eV} {n:aO} {dA eA:Option Addr} {dC eC:Nat}:(∀x,x<ns.length->kY (ns++[n]) (L.put ns.length dA dC eA eC) x=kY ns L x)/\kY (ns++[n]) (L.put ns.length dA dC eA eC) ns.length=aH 5 1 dA n.data.length dC (dR n.data):=by
 grind [kY,eV.put,zq,wq]
theorem LF {ns:List aO} {L:eV} {n:aO} {dA eA:Option Addr} {dC eC:Nat}:(∀x,x<ns.length->qY (ns++[n]) (L.put ns.length dA dC eA eC) x=qY ns L x)/\qY (ns++[n]) (L.put ns.length dA dC eA eC) ns.length=aH 149 2 eA n.ah.length eC (mT n.ah):=by
 grind [qY,eV.put,zq,wq]
def gy (O:d9) (e:ByteArray×Th):fD:=⟨e.1,(af O e.2.k).id⟩
def jL (O:d9) (id:Int) (t:Th):aO:=⟨id,t.kind,(af O t.k).mode,(af O t.k).bg,(af O t.k).bh,(af O t.k).aU,(af O t.k).aI,(af O t.k).data,(af O t.k).target,(af O t.k).ah.map (gy O)⟩
def aX (S:bB):List aO:=S.ar.map (λp=>jL S.O p.1 p.2)
theorem ia {S:bB}:(aX S).length=S.ar.length:=ahf ..
def jl (S:bB) (i:Nat):Th:=(S.ar.getD i (0,⟨0,0⟩)).2
def gH (S:bB) (i:Nat):Int:=(S.ar.getD i (0,⟨0,0⟩)).1
section at_
variable {S:bB} {i:Nat}
theorem x5 (hi:i<S.ar.length):S.ar[i]?=some (gH S i,jl S i):=by
 grind [gH,jl]
theorem get_at (h:Inv0 S) (hi:i<S.ar.length):aF.get S.ar (gH S i)=some (jl S i):=oC h.fI (aht (x5 hi))
theorem KG (h:Inv0 S) (hi:i<S.ar.length):aT S.ar (jl S i)/\gH S i=((jl S i).k:Int):=⟨h.live (get_at h hi),h.key (get_at h hi)⟩
theorem OI (hi:i<S.ar.length):(bn S.ar)[i]?=some (gH S i):=by
 grind [bn,x5]
theorem Dk (hi:i<S.ar.length):(aX S).take (i+1)=(aX S).take i++[jL S.O (gH S i) (jl S i)]:=by
 rw [ahq]
 grind [aX,x5]
theorem iG (hi:i<=S.ar.length):((aX S).take i).length=i:=by rw [ahi,ia];omega
end at_
section sat
variable {β:Bs} {l l':List HP} {w:World} {i j k:Nat} {O:d9} {L:HL} {ix:List Nat}
theorem aR.adk (h:aR β l w) (hp:l[i]?=some (.abs (aY (nR (dS O L) k eH.none)))) (hq:l[j]?=some (.abs (aH 5 1 (L.dA k) (af O k).data.length (L.dC k) (dR (af O k).data)))) (hd:cD (i::j::ix)=true) (hl:cW l ix=some l') (h2:(af O k).kind=1):aR β (.abs (aY (dS O L))::l') w:=
 h.wW hp hq (λ_ _ h=>h) hd hl k (λ_ hx=>(uR hx).symm) (zX h2)
end sat
theorem Jo {es:List fD} {e:fD}:mT es++[.string e.name,.int .i64 e.id]=mT (es++[e]):=(C4 e es 0).symm
section grow
variable {ns G':List aO} {n:aO} {L:eV} {i dn en:Nat} {dA eA:Option Addr} {dC eC:Nat}
theorem vB (hl:ns.length=i) (hG:G'=ns++[n]) (hd:n.data.length=dn) (he:n.ah.length=en):bG L ns++[.int .i64 n.id,.int .i64 n.kind,.int .i64 n.mode,.int .i64 n.bg,.int .i64 n.bh,.int .i64 n.aU,.int .i64 n.aI,.slice dA dn dC,.string n.target,.slice eA en eC]=bG (L.put i dA dC eA eC) G':=by
 subst hl hG hd he;exact QJ
theorem Dl (hl:ns.length=i) (hG:G'=ns++[n]):∀x,x<i->kY G' (L.put i dA dC eA eC) x=kY ns L x:=by
 subst hl hG;exact LD.1
theorem Bz (hl:ns.length=i) (hG:G'=ns++[n]) (hd:n.data.length=dn):kY G' (L.put i dA dC eA eC) i=aH 5 1 dA dn dC (dR n.data):=by
 subst hl hG hd;exact LD.2
theorem Dm (hl:ns.length=i) (hG:G'=ns++[n]):∀x,x<i->qY G' (L.put i dA dC eA eC) x=qY ns L x:=by
 subst hl hG;exact LF.1
theorem BA (hl:ns.length=i) (hG:G'=ns++[n]) (he:n.ah.length=en):qY G' (L.put i dA dC eA eC) i=aH 149 2 eA en eC (mT n.ah):=by
 subst hl hG he;exact LF.2
end grow
section more
variable {S:bB} {i j k:Nat}
theorem aeW (h:Inv0 S) (hi:i<S.ar.length):(∃k,jl S i=⟨k,1⟩/\aT S.ar ⟨k,1⟩)\/(∃k,jl S i=⟨k,2⟩/\aT S.ar ⟨k,2⟩)\/∃k,jl S i=⟨k,3⟩/\aT S.ar ⟨k,3⟩:=by
 have h1:=(KG h hi).1
 generalize jl S i=t at h1 ⊢
 obtain⟨k,kd⟩:=t
 rcases (h.ob _ h1).2.2 with e|e|e<;>simp only at e<;>subst e
 all_goals grind
theorem KH (h:Inv0 S) (hi:i<S.ar.length):(Lit.int .i64 (gH S i)).wf=true:=by
 have h1:=h.ar _ _ (get_at h hi)
 have h2:=h.last
 exact WalkArith.wf_i64 zc
theorem YQ (hi:i<S.ar.length):(bH (bn S.ar))[i*1+0]?=some (.int .i64 (gH S i)):=by
 grind [bH,OI]
theorem OJ (h:Inv0 S) {t:Th} (hl:aT S.ar t) (hk:t.kind≠3):(af S.O t.k).target=⟨#[]⟩:=by
 rcases (h.mt t hl).target with e|e
 ·exact e.2
 exact agY (h.kind hl ▸ e.1) hk
theorem x6 (h:Inv0 S) (hi:i<S.ar.length) (qG:jl S i=⟨k,1⟩) (hl:aT S.ar ⟨k,1⟩):(aX S).take (i+1)=(aX S).take i++[⟨gH S i,1,(af S.O k).mode,(af S.O k).bg,(af S.O k).bh,(af S.O k).aU,(af S.O k).aI,(af S.O k).data,⟨#[]⟩,[]⟩]:=by
 rw [Dk hi,qG]
 unfold jL
 rw [show (af S.O k).target=⟨#[]⟩ from OJ h hl agU,show (af S.O k).ah=[] from (h.mt _ hl).ah (by rw [h.kind hl];simp)];rfl
theorem x7 (h:Inv0 S) (hi:i<S.ar.length) (qG:jl S i=⟨k,3⟩) (hl:aT S.ar ⟨k,3⟩):(aX S).take (i+1)=(aX S).take i++[⟨gH S i,3,(af S.O k).mode,(af S.O k).bg,(af S.O k).bh,(af S.O k).aU,(af S.O k).aI,[],(af S.O k).target,[]⟩]:=by
 rw [Dk hi,qG]
 unfold jL
 rw [show (af S.O k).data=[] from (h.mt _ hl).data (by rw [h.kind hl];simp),show (af S.O k).ah=[] from (h.mt _ hl).ah (by rw [h.kind hl];simp)];rfl
theorem Aj (h:Inv0 S) (hi:i<S.ar.length) (qG:jl S i=⟨k,2⟩) (hl:aT S.ar ⟨k,2⟩):(aX S).take (i+1)=(aX S).take i++[⟨gH S i,2,(af S.O k).mode,(af S.O k).bg,(af S.O k).bh,(af S.O k).aU,(af S.O k).aI,[],⟨#[]⟩,(af S.O k).ah.map (gy S.O)⟩]:=by
 rw [Dk hi,qG]
 unfold jL
 rw [show (af S.O k).target=⟨#[]⟩ from OJ h hl agU,show (af S.O k).data=[] from (h.mt _ hl).data (by rw [h.kind hl];simp)]
def nU (es:iW Th) (j:Nat):ByteArray:=(es.getD j (⟨#[]⟩,⟨0,0⟩)).1
def tO (es:iW Th) (j:Nat):Th:=(es.getD j (⟨#[]⟩,⟨0,0⟩)).2
theorem Dn {es:iW Th} (hj:j<es.length):es[j]?=some (nU es j,tO es j):=by
 grind [nU,tO]
theorem TH {es:iW Th} (hj:j<es.length):(x3 es)[j*1+0]?=some (.string (nU es j)):=by
 grind [x3,Dn]
theorem afB (h:Inv0 S) {t:Th} (hl:aT S.ar t) (hj:j<(af S.O t.k).ah.length):cq (nU (af S.O t.k).ah j)/\((∃k,bL (nU (af S.O t.k).ah j) (af S.O t.k).ah=some ⟨k,1⟩/\aT S.ar ⟨k,1⟩/\tO (af S.O t.k).ah j=⟨k,1⟩)\/(∃k,bL (nU (af S.O t.k).ah j) (af S.O t.k).ah=some ⟨k,2⟩/\aT S.ar ⟨k,2⟩/\tO (af S.O t.k).ah j=⟨k,2⟩)\/∃k,bL (nU (af S.O t.k).ah j) (af S.O t.k).ah=some ⟨k,3⟩/\aT S.ar ⟨k,3⟩/\tO (af S.O t.k).ah j=⟨k,3⟩):=by
 have hm:=aht (Dn hj)
 have h1:=h.ah t hl _ hm
 have h2:=Ac (h.pP hl) hm
 refine⟨h1.1,?_⟩
 have h3:=h1.2
 generalize tO (af S.O t.k).ah j=u at h2 h3 ⊢
 obtain⟨k,kd⟩:=u
 rcases (h.ob _ h3).2.2 with e|e|e<;>simp only at e<;>subst e
 all_goals grind
theorem EI {O:d9} {es:iW Th} {kd:Int} (hj:j<es.length) (he:tO es j=⟨k,kd⟩):mT ((es.take j).map (gy O))++[.string (nU es j),.int .i64 (af O k).id]=mT ((es.take (j+1)).map (gy O)):=by
 rw [ahq,Dn hj,he,ahv]
 exact Jo (es:=(es.take j).map (gy O)) (e:=⟨nU es j,(af O k).id⟩)
end more
theorem pW.bytes {β β':Bs} {A:Option Addr} {n c:Nat} {d:List UInt8} (h:pW β [.abs (aH 5 1 A n c (dR d))] β'):bF β' A d:=by
 obtain⟨F,h1,h2⟩:=h.get 0 rfl
 exact cC.iH h1 h2 rfl
end
section
open Go.RowKit
inductive OT
 |lin (l:List (Bool×Nat))
 |rd (i:Nat) (t:OT)
 |two (i:Nat) (a:OT) (j:Nat) (b:OT)
 |three (i:Nat) (a:OT) (j:Nat) (b:OT) (k:Nat) (c:OT)
section order
variable {P:Program} {ops:Array Oper} {Q:Post} {n:Nat} {S:World->Prop}
def x9 (P:Program) (ops:Array Oper) (Q:Post) (S:World->Prop):OT->Act->World->Prop
 |.lin l,a,w=>lZ P ops Q S l a w
 |.rd i t,a,w=>∃o v,ops[i]?=some o/\YieldsIf P ops S o v a/\x9 P ops Q S t (a.put o.dst v) w
 |.two i x j y,a,w=>wpOp P ops Q i (λa' w'=>S w'/\x9 P ops Q S x a' w') a w/\wpOp P ops Q j (λa' w'=>S w'/\x9 P ops Q S y a' w') a w
 |.three i x j y k z,a,w=>wpOp P ops Q i (λa' w'=>S w'/\x9 P ops Q S x a' w') a w/\wpOp P ops Q j (λa' w'=>S w'/\x9 P ops Q S y a' w') a w/\wpOp P ops Q k (λa' w'=>S w'/\x9 P ops Q S z a' w') a w
def yB:OT->Nat
 |.lin l=>l.length
 |.rd _ t=>yB t+1
 |.two _ x _ _=>yB x+1
 |.three _ x _ _ _ _=>yB x+1
def vC (ops:Array Oper) (n:Nat):OT->Array Bool->Bool
 |.lin l,bO=>C2 ops n l bO
 |.rd i t,bO=>decide (i<n) && Region.free .any ops bO i && (Region.ready .any ops bO).contains i && vC ops n t (bO.setIfInBounds i true)
 |.two i x j y,bO=>(Region.ready .any ops bO == [i,j]) && (yB x == yB y) && vC ops n x (bO.setIfInBounds i true) && vC ops n y (bO.setIfInBounds j true)
 |.three i x j y k z,bO=>(Region.ready .any ops bO == [i,j,k]) && (yB x == yB y) && (yB x == yB z) && vC ops n x (bO.setIfInBounds i true) && vC ops n y (bO.setIfInBounds j true) && vC ops n z (bO.setIfInBounds k true)
theorem Dp (hsel:Region.noSelect ops=true) (qh:Region.sinkB .any ops n=true):∀(t:OT) (bO:Array Bool) (a:Act) (w:World),vC ops n t bO=true->Closed ops bO->S w->x9 P ops (NP Q) S t a w->xu P ops (NP Q) n S (yB t) bO a w
 |.lin l,bO,a,w,hb,hc,hS,h=>C3 hsel qh l bO a w hb hc (.inr hS) h
 |.rd i t,bO,a,w,hb,hc,hS,h=>by
   unfold vC at hb
   simp only [ahm,decide_eq_true_iff] at hb
   obtain⟨⟨⟨h1,h2⟩,h3⟩,h4⟩:=hb
   obtain⟨o,v,ho,hy,hk⟩:=h
   have hr:i∈Region.ready .any ops bO:=by simpa using h3
   exact zL ho hsel qh h1 (yB t) bO a w hc (Region.free_spec ho h2) hr hy hS (Dp hsel qh t _ _ w h4 (hc.set hr) hS hk)
 |.two i x j y,bO,a,w,hb,hc,_,h=>by
   unfold vC at hb
   simp only [ahm,ahP] at hb
   obtain⟨⟨⟨h1,h2⟩,h3⟩,h4⟩:=hb
   refine⟨λh0=>(by rw [h1] at h0;cases h0),λm hm=>?_⟩
   have hr:=hm
   rw [h1] at hm
   have hm:m=i\/m=j:=by simpa using hm
   rcases hm with rfl|rfl
   ·exact wpOp_mono (λa' w' g=>⟨.inr g.1,Dp hsel qh x _ a' w' h3 (hc.set hr) g.1 g.2⟩) h.1
   exact wpOp_mono (λa' w' g=>⟨.inr g.1,by rw [h2];exact Dp hsel qh y _ a' w' h4 (hc.set hr) g.1 g.2⟩) h.2
 |.three i x j y k z,bO,a,w,hb,hc,_,h=>by
   unfold vC at hb
   simp only [ahm,ahP] at hb
   obtain⟨⟨⟨⟨⟨h1,h2⟩,h3⟩,h4⟩,h5⟩,h6⟩:=hb
   refine⟨λh0=>(by rw [h1] at h0;cases h0),λm hm=>?_⟩
   have hr:=hm
   rw [h1] at hm
   have hm:m=i\/m=j\/m=k:=by simpa using hm
   rcases hm with rfl|rfl|rfl
   ·exact wpOp_mono (λa' w' g=>⟨.inr g.1,Dp hsel qh x _ a' w' h4 (hc.set hr) g.1 g.2⟩) h.1
   ·exact wpOp_mono (λa' w' g=>⟨.inr g.1,by rw [h2];exact Dp hsel qh y _ a' w' h5 (hc.set hr) g.1 g.2⟩) h.2.1
   exact wpOp_mono (λa' w' g=>⟨.inr g.1,by rw [h3];exact Dp hsel qh z _ a' w' h6 (hc.set hr) g.1 g.2⟩) h.2.2
def RN (ops:Array Oper) (t:OT):Bool:=Region.noSelect ops && Region.sinkB .any ops (ops.size-1) && (yB t == ops.size) && vC ops (ops.size-1) t (Array.replicate ops.size false)
def yN:List Nat->OT->OT
 |[],t=>t
 |i::l,t=>.rd i (yN l t)
end order
section mix
variable {P:Program} {β:Bs} {N:fY} {ops:Array Oper} {S:List HP} {t t' x y z:OT} {fr bU:Fr} {ax:List HP} {Q:Post} {eZ:List Prop} {i j k:Nat}
def oo (P:Program) (β:Bs) (N:fY) (ops:Array Oper) (S:List HP) (t:OT) (fr:Fr) (ax:List HP) (Q:Post):Prop:=∀ai w,aR β ax w->x9 P ops (NP Q) (aR β S) t (fF N fr ai) w
def agH (P:Program) (β:Bs) (N:fY) (ops:Array Oper) (S:List HP) (i:Nat) (t:OT) (fr:Fr) (ax:List HP) (Q:Post):Prop:=∀ai w,aR β ax w->wpOp P ops (NP Q) i (λa' w'=>aR β S w'/\x9 P ops (NP Q) (aR β S) t a' w') (fF N fr ai) w
theorem aq.qZ {id:Nat} (t:OT) (pk:List Nat) (h:oo P β N ops S t fr ax Q) (hp:cW ax pk=some S:=by kernel_rfl) (hm:P.follows .mixedOrders=true:=by kernel_rfl) (hB:RN ops t=true:=by kernel_rfl) (hn:cD pk=true:=by kernel_rfl):aq P β N (.region id ops true) fr ax Q:=by
 intro ai w hS
 unfold RN at hB
 simp only [ahm,ahP] at hB
 obtain⟨⟨⟨h1,h2⟩,h3⟩,h4⟩:=hB
 have ju:=hS.drewN 1
 have h5:=Dp (Q:=Q) h1 h2 t _ _ _ h4 (λj oj _ hl=>by simp [Array.getD_eq_getD_getElem?,Array.getElem?_replicate] at hl;split at hl<;>simp at hl) (ju.pick hn hp) (h ai (w.drewN 1) ju)
 rw [h3] at h5
 refine ahN (λe a w q=>?_) (wp_region_any hm (vo _ _ _ _ h5))
 cases e with
 |normal=>exact q
 |exit id=>exact q.elim
 |goto l=>exact q.elim
 |ret=>exact q.elim
 |panic ch=>exact q.elim
 |outgrown=>exact q.elim
theorem Ak {ai:Nat->Value} {w:World}:∀{hs:List OH} {is:List Nat} {fr bU:Fr} {T T':SS},qP P β N ai ops hs is fr T=some (bU,T')->(∀p,p∈T'.eZ->p)->T.used=true->T.ax=S →
 x9 P ops (NP Q) (aR β S) t (fF N bU ai) w->x9 P ops (NP Q) (aR β S) (yN is t) (fF N fr ai) w
 |[],[],fr,bU,T,T',h,ho,hu,hT,hK=>by cases h;exact hK
 |h::hs,i::is,fr,bU,T,T',hr,ho,hu,hT,hK=>by
   unfold qP at hr
   repeat' split at hr
   all_goals first|(cases hr;done)|skip
   ·rename_i o hget _ vr _ v T1 h0 _ hv
    obtain⟨e1,e2⟩:=Cs h0
    unfold yN x9
    refine⟨o,v,hget,.inl ⟨by rw [iL];exact vr,λw' ju=>?_⟩,?_⟩
    ·rw [ji]
     obtain⟨w2,h1,_,_,h4⟩:=rG h0 (λp hp=>ho p (yX hr p hp)) (by rw [hT];exact ju) (λe=>by rw [hu] at e;cases e)
     obtain⟨ew,_⟩:=h4 rfl
     rw [ew] at h1
     rcases h1 with h1|⟨h1,_⟩
     ·exact h1
     exact agY h1 (xw hv)
    rw [iz]
    exact Ak hr ho (e2.trans hu) (e1.trans hT) hK
   rename_i o hget _ vr
   unfold yN x9
   refine⟨o,undef,hget,.inr ⟨by rw [iL];exact vr,rfl⟩,?_⟩
   rw [iz]
   exact Ak hr ho hu hT hK
 |[],_::_,_,_,_,_,h,_,_,_,_=>by cases h
 |_::_,[],_,_,_,_,h,_,_,_,_=>by cases h
theorem gT (t:OT) (OL:Fr) (is:List Nat) (os:List (Nat×OP)) (K:oo P β N ops S t OL ax Q)
 (h:∀ai,uo P β N ai ops (dM (dX is.length os 0)) is fr S (cr OL)=some (OL,owed (dX is.length os 0)):=by intro _;kernel_rfl) (hl:t'=yN is t:=by rfl):oo P β N ops S t' fr ax Q:=by
 intro ai w hS
 subst hl
 have h0:=h ai
 unfold uo at h0
 split at h0
 ·rename_i sO S1 h1
  injection h0 with h0
  injection h0 with ha hb
  have hK:=K (lk sO ai) w hS
  rw [←ha,←oW] at hK
  refine Ak h1 (λp hp=>?_) rfl rfl hK
  rw [hb] at hp
  exact (vV _).mem hp
 cases h0
end mix
def oJ (j:Nat) (l2:List (Bool×Nat)):List (Bool×Nat)->OT
 |[]=>.lin ((false,j)::l2)
 |(false,i)::l=>.two i (oJ j l2 l) j (.lin ((false,i)::(l++l2)))
 |(true,i)::l=>.rd i (oJ j l2 l)
def oK (j k:Nat) (l2:List (Bool×Nat)):List (Bool×Nat)->OT
 |[]=>.two j (oJ k l2 []) k (oJ j l2 [])
 |(false,i)::l=>.three i (oK j k l2 l) j (oJ k l2 ((false,i)::l)) k (oJ j l2 ((false,i)::l))
 |(true,i)::l=>.rd i (oK j k l2 l)
section mix
variable {P:Program} {β:Bs} {N:fY} {ops:Array Oper} {S:List HP} {l l' l2:List (Bool×Nat)} {fr bU:Fr} {ax:List HP} {Q:Post} {eZ:List Prop} {i j k:Nat}
theorem aR.left {a b:List HP} {w:World} (h:aR β (a++b) w):aR β a w:=by
 obtain⟨h0,φ,h1,h2,h3⟩:=h
 have jv:a.length<=(a++b).length:=agU
 exact⟨h0,φ,λi p hp=>h1 i p Pe,λi hi=>h2 i zc,λi j hi hj=>h3 i j zc zc⟩
def jm (P:Program) (β:Bs) (N:fY) (ops:Array Oper) (Q:Post) (i d:Nat) (ds:List Nat) (fr:Fr) (pre:List HP) (post:Value->List HP->Prop):Prop:=
 ∀ai w (A:eH),aR β (pre++[.abs A]) w->wpOp P ops (NP Q) i (λa' w'=>∃v l qg,post v l/\a'=fF N fr qg/\qg d=v/\(∀t∈ds,t≠d->qg t=ai t)/\aR β (l++[.abs A]) w') (fF N fr ai) w
def sK (uW:List Nat) (u:Nat->Value):Fr:=uW.map λt=>(t,u t)
theorem LG {uW:List Nat} {u:Nat->Value}:cr (sK uW u)=uW:=by
 induction uW with
 |nil=>rfl
 |cons a r ih=>exact agX (a::·) ih
theorem VO {uW:List Nat} {u ai:Nat->Value} {t:Nat} (h:t∈uW):lk (sK uW u) ai t=u t:=by
 induction uW with
 |nil=>cases h
 |cons a r ih=>
   grind [lk,sK,lV]
theorem CH {fr OL:Fr} {ai TJ:Nat->Value} (h:∀t,lk fr ai t=lk OL TJ t):fF N fr ai=fF N OL TJ:=by
 unfold fF
 rw [show lk fr ai=lk OL TJ from funext h]
theorem jm.of {ι:Type} {v:ι->Value} {l:ι->List HP} {o:Oper} {d:Nat} {pre:List HP} (uW:List Nat) (bZ:ops[i]?=some o) (hg:o.guard=none) (agI:(d::uW).all (λt=>!ox t (cr fr))=true) (hd:ox d uW=false)
 (h:∀(u:Nat->Value) (A:eH),av P β N #[o] 0 (sK uW u++fr) (pre++[.abs A]) (NP (Gg β N (λx=>(d,v x)::(sK uW u++fr)) (λx=>l x++[.abs A])))):jm P β N ops Q i d (d::uW) fr pre (λv' l'=>∃x,v'=v x/\l'=l x):=by
 intro ai w A hS
 have hout:∀t∈d::uW,t∉cr fr:=λt ht hm=>by
  grind [tQ]
 have hdo:d∉uW:=by grind [tQ]
 have e1:fF N fr ai=fF N (sK uW ai++fr) ai:=CH λt=>by
  grind [IE,LG,VO,zM]
 rw [e1]
 refine vn bZ hg (AY (λa w ⟨x,aeX,ha,ju⟩=>⟨v x,l x,lk ((d,v x)::(sK uW ai++fr)) aeX,⟨x,rfl,rfl⟩,?_,by rw [lV,agW rfl],λt ht hn=>?_,ju⟩) (show wpList P #[o] (NP (Gg β N _ _)) [o] (fF N (sK uW ai++fr) ai) w from h ai A ai w hS))
 all_goals grind [CH,cr,lV,IE,LG,MY,zM,VO]
theorem jm.at_ {d:Nat} {ds:List Nat} {pre X Y:List HP} {post:Value->List HP->Prop} {ai:Nat->Value} {w:World} {K:Act->World->Prop} (h:jm P β N ops Q i d ds fr pre post) (hS:aR β (X++(pre++Y)) w)
 (hK:∀v l qg w',post v l->qg d=v->(∀t∈ds,t≠d->qg t=ai t)->aR β (X++(l++Y)) w'->K (fF N fr qg) w'):wpOp P ops (NP Q) i K (fF N fr ai) w:=by
 have h1:=aR.turn hS
 rw [ahp] at h1
 refine wpOp_mono (λa' w' ⟨v,l,j2,g1,g2,g3,g4,g5⟩=>?_) (h ai w _ h1.gU)
 rw [g2]
 refine hK v l j2 w' g1 g3 g4 ?_
 have h2:=g5.sQ
 rw [←ahp] at h2
 exact aR.turn h2
theorem jm.grow {d d1:Nat} {ds:List Nat} {pre:List HP} {q:Value->List HP->Prop} (h:jm P β N ops Q i d (d::d1::ds) fr pre q) (h1:d1∉cr fr) (hd:d1≠d) (hn:d1∉ds) (v1:Value):jm P β N ops Q i d (d::ds) ((d1,v1)::fr) pre q:=by
 intro ai w A hS
 have e:fF N ((d1,v1)::fr) ai=fF N fr (λt=>if t=d1 then v1 else ai t):=CH λt=>by
  grind [lV,zM,cr,MY]
 rw [e]
 refine wpOp_mono (λa' w' ⟨v,l,j2,g1,g2,g3,g4,g5⟩=>?_) (h _ w A hS)
 have k1:j2 d1=v1:=Pe
 refine⟨v,l,j2,g1,?_,g3,λt ht bX=>?_,g5⟩
 ·rw [g2]
  refine CH λt=>?_
  grind [lV,zM]
 grind
abbrev Jp (c:List (Bool×Nat×Nat)):List (Bool×Nat):=c.map (λx=>(x.1,x.2.1))
abbrev DX (c:List (Bool×Nat×Nat)):List Nat:=c.map (·.2.2)
def ez (P:Program) (β:Bs) (N:fY) (ops:Array Oper) (Q:Post) (S:List HP) (ds:List Nat):List (Bool×Nat×Nat)->Fr->List HP->(Fr->List HP->Prop)->Prop
 |[],fr,ax,R=>R fr ax
 |(false,i,d)::c,fr,ax,R=>(d∉cr fr/\d∉ds)/\∃q:Value->List HP->Prop,jm P β N ops Q i d (d::ds) fr ax q/\∀v l,q v l->ez P β N ops Q S ds c ((d,v)::fr) l R
 |(true,i,d)::c,fr,ax,R=>(d∉cr fr/\d∉ds)/\∃o v,ops[i]?=some o/\o.dst=some d/\(∀ai,YieldsIf P ops (aR β S) o v (fF N fr ai))/\ez P β N ops Q S ds c ((d,v)::fr) ax R
theorem VP {d:Nat} {a b:List Nat} (h:(!ox d a && !ox d b)=true):d∉a/\d∉b:=by
 simp only [ahm,Bool.not_eq_true'] at h
 exact⟨λe=>by rw [tQ.2 e] at h;exact agY h.1 (by decide),λe=>by rw [tQ.2 e] at h;exact agY h.2 (by decide)⟩
theorem ez.step {ds:List Nat} {d:Nat} {c:List (Bool×Nat×Nat)} {R:Fr->List HP->Prop} {q:Value->List HP->Prop} (h:jm P β N ops Q i d (d::ds) fr ax q) (K:∀v l,q v l->ez P β N ops Q S ds c ((d,v)::fr) l R) (h1:(!ox d (cr fr) && !ox d ds)=true:=by rfl):ez P β N ops Q S ds ((false,i,d)::c) fr ax R:=
 ⟨VP h1,q,h,K⟩
theorem ez.read {ds:List Nat} {d:Nat} {c:List (Bool×Nat×Nat)} {R:Fr->List HP->Prop} (v:Value) (K:ez P β N ops Q S ds c ((d,v)::fr) ax R) (h:∀ai,uo P β N ai ops [o_] [i] fr S (d::cr fr)=some ((d,v)::fr,[]):=by intro _;kernel_rfl) (hd:(ops[i]?).map Oper.dst=some (some d):=by rfl) (h1:(!ox d (cr fr) && !ox d ds)=true:=by rfl):ez P β N ops Q S ds ((true,i,d)::c) fr ax R:=by
 obtain⟨o,ho,hod⟩:=Option.map_eq_some_iff.1 hd
 refine⟨VP h1,o,v,ho,hod,λai=>?_,K⟩
 have h0:=h ai
 unfold uo at h0
 split at h0
 ·rename_i sO S1 hr
  injection h0 with h0
  injection h0 with ha hb
  unfold qP at hr
  rw [ho] at hr
  simp only at hr
  repeat' split at hr
  all_goals first|(cases hr;done)|skip
  ·rename_i _ vr _ v1 T1 hrun _ hv
   unfold qP at hr
   injection hr with hr
   injection hr with hr1 hr2
   have hv1:v1=v:=by
    grind [lk,kG,eW,cr,lV]
   refine .inl ⟨by rw [iL];exact vr,λw' ju=>?_⟩
   rw [ji]
   obtain⟨w2,g1,_,_,g4⟩:=rG hrun (λp hp=>by rw [hr2,hb] at hp;cases hp) (by exact ju) (λe=>by cases e)
   obtain⟨ew,_⟩:=g4 rfl
   rw [ew] at g1
   rcases g1 with g1|⟨g1,_⟩
   all_goals grind [xw]
  rename_i _ vr
  unfold qP at hr
  injection hr with hr
  injection hr with hr1 hr2
  have hv1:undef=v:=by
   grind [lk,kG,eW,cr,lV]
  exact .inr ⟨by rw [iL];exact vr,hv1.symm⟩
 cases h0
theorem YR {h a b Z:List HP} {w:World} (hS:aR β (h++(a++(b++Z))) w):aR β (h++(b++(a++Z))) w:=by
 have h1:aR β ((b++Z++h)++a) w:=by have:=aR.turn (a:=h++a) (b:=b++Z) (by simpa using hS);simpa using this
 have h3:aR β ((Z++h++[.abs (gU a)])++b) w:=by have:=aR.turn (a:=b) (b:=Z++h++[.abs (gU a)]) (by simpa using h1.gU);simpa using this
 have h5:aR β ([.abs (gU a),.abs (gU b)]++(Z++h)) w:=by have:=aR.turn (a:=Z++h) (b:=[.abs (gU a),.abs (gU b)]) (by simpa using h3.gU);simpa using this
 have h7:aR β ([.abs (gU b),.abs (gU a)]++[.abs (gU (Z++h))]) w:=aR.pick (ar:=[1,0,2]) h5.gU rfl rfl
 have h9:aR β ((Z++h++[.abs (gU b)])++[.abs (gU a)]) w:=by have:=aR.turn (a:=[.abs (gU b),.abs (gU a)]) (b:=Z++h) (by simpa using h7.sQ);simpa using this
 have h11:aR β ((a++(Z++h))++[.abs (gU b)]) w:=by have:=aR.turn (a:=Z++h++[.abs (gU b)]) (b:=a) (by simpa using h9.sQ);simpa using this
 have si:=aR.turn (a:=a++Z) (b:=h++b) (by simpa using h11.sQ)
 simpa using si
theorem zu {d:Nat} {v:Value} {ai:Nat->Value} (hv:ai d=v) (hd:d∉cr fr):fF N fr ai=fF N ((d,v)::fr) ai:=CH λt=>by
 rw [lV]
 by_cases e1:d=t
 ·subst e1;rw [agW rfl,zM hd,hv]
 rw [agV e1]
section bes
variable {ds:List Nat} {Z:List HP} {R:Fr->List HP->Prop}
theorem kept {d:Nat} {v:Value} (h:d∉ds) (ho:∀t∈ds,t∉cr fr):∀t∈ds,t∉cr ((d,v)::fr):=λt ht hm=>by
 rcases aha.1 (show t∈d::cr fr from hm) with e|e
 ·exact h (e ▸ ht)
 exact ho t ht e
theorem EJ {D:List Nat} {u:Nat->Value} (hD:∀t∈D,t∈ds) (hG:∀X w,aR β (X++Z) w->aR β S w) (hK:∀f1 h1,R f1 h1->∀ai w,(∀t∈D,ai t=u t)->(∀t∈ds,t∉cr f1)->aR β (h1++Z) w->lZ P ops (NP Q) (aR β S) l2 (fF N f1 ai) w) :
 ∀(c:List (Bool×Nat×Nat)) (fr:Fr) (ax:List HP) (ai:Nat->Value) (w:World),(∀t∈ds,t∉cr fr)->ez P β N ops Q S ds c fr ax R->(∀t∈D,ai t=u t)->aR β (ax++Z) w->lZ P ops (NP Q) (aR β S) (Jp c++l2) (fF N fr ai) w
 |[],fr,ax,ai,w,ho,hc,hu,hS=>hK fr ax hc ai w hu ho hS
 |(false,i,d)::c,fr,ax,ai,w,ho,⟨⟨h1,h2⟩,q,h3,h4⟩,hu,hS=>by
   show lZ _ _ _ _ ((false,i)::(Jp c++l2)) _ _
   unfold lZ
   refine h3.at_ (X:=[]) hS (λv' l j2 w' g1 g2 g3 g4=>⟨.inr (hG l w' g4),?_⟩)
   rw [zu g2 h1]
   exact EJ hD hG hK c _ l j2 w' (kept h2 ho) (h4 v' l g1) (λt ht=>(g3 t (ag6 _ (hD t ht)) (λe=>h2 (e ▸ hD t ht))).trans (hu t ht)) g4
 |(true,i,d)::c,fr,ax,ai,w,ho,⟨⟨h1,h2⟩,o,v',h3,h4,h5,h6⟩,hu,hS=>by
   show lZ _ _ _ _ ((true,i)::(Jp c++l2)) _ _
   unfold lZ
   refine⟨o,v',h3,h5 ai,?_⟩
   rw [h4,iz]
   exact EJ hD hG hK c _ ax ai w (kept h2 ho) h6 hu hS
theorem Jq {d:Nat} {c:List Nat} (hnd:cD (d::c)=true):d∉c/\cD c=true:=by
 unfold cD at hnd
 simp only [ahm] at hnd
 exact⟨λhm=>by have h:=hnd.1;simp_all,hnd.2⟩
theorem yc {r dr:Nat} {D:List Nat} {u:Nat->Value} {qr:Value->List HP->Prop} (hr:dr∈ds) (hD:∀t∈D,t∈ds) (hn:dr∉D) (hG:∀X w,aR β (X++Z) w->aR β S w)
 (hK:∀f1 h1,R f1 h1->∀v lp,qr v lp->∀ai w,ai dr=v->(∀t∈D,ai t=u t)->(∀t∈ds,t∉cr f1)->aR β (h1++(lp++Z)) w->lZ P ops (NP Q) (aR β S) l2 (fF N f1 ai) w) :
 ∀(c:List (Bool×Nat×Nat)) (fr:Fr) (ax:List HP) (ai:Nat->Value) (w:World),cD (DX c)=true->(∀t∈ds,t∉cr fr)->jm P β N ops Q r dr (dr::(DX c++D)) fr [] qr->ez P β N ops Q S ds c fr ax R->(∀t∈D,ai t=u t)->aR β (ax++Z) w->x9 P ops (NP Q) (aR β S) (oJ r l2 (Jp c)) (fF N fr ai) w
 |[],fr,ax,ai,w,_,ho,hj,hc,hu,hS=>by
   show lZ _ _ _ _ ((false,r)::l2) _ _
   unfold lZ
   exact hj.at_ (X:=ax) hS (λv l j2 w' g1 g2 g3 g4=>⟨.inr (hG (ax++l) w' (by simpa using g4)),hK fr ax hc v l g1 j2 w' g2 (λt ht=>(g3 t (by simp [ht]) (λe=>hn (e ▸ ht))).trans (hu t ht)) ho g4⟩)
 |(false,i,d)::c,fr,ax,ai,w,hnd,ho,hj,hc,hu,hS=>by
   have hc0:=hc
   obtain⟨⟨h1,h2⟩,q,h3,h4⟩:=hc
   obtain⟨n1,n2⟩:=Jq hnd
   refine⟨h3.at_ (X:=[]) hS (λv' l j2 w' g1 g2 g3 g4=>⟨hG l w' g4,?_⟩),hj.at_ (X:=ax) hS (λv l j2 w' g1 g2 g3 g4=>⟨hG (ax++l) w' (by simpa using g4),?_⟩)⟩
   ·rw [zu g2 h1]
    exact yc hr hD hn hG hK c _ l j2 w' n2 (kept h2 ho) (hj.grow h1 (show d≠dr from λe=>h2 (e ▸ hr)) (λe=>(ahj.1 e).elim n1 (λe=>h2 (hD d e))) v') (h4 v' l g1) (λt ht=>(g3 t (ag6 _ (hD t ht)) (λe=>h2 (e ▸ hD t ht))).trans (hu t ht)) g4
   exact EJ (Z:=l++Z) (D:=dr::D) (u:=j2) (λt ht=>(aha.1 ht).elim (λe=>e ▸ hr) (hD t)) (λX w h=>hG (X++l) w (by simpa using h))
    (λf1 h1 k1 ai w k2 k3 k4=>hK f1 h1 k1 v l g1 ai w ((k2 dr agU).trans g2) (λt ht=>(k2 t (by simp [ht])).trans ((g3 t (by simp [ht]) (λe=>hn (e ▸ ht))).trans (hu t ht))) k3 k4)
    ((false,i,d)::c) fr ax j2 w' ho hc0 (λ_ _=>rfl) g4
 |(true,i,d)::c,fr,ax,ai,w,hnd,ho,hj,⟨⟨h1,h2⟩,o,v',h3,h4,h5,h6⟩,hu,hS=>by
   obtain⟨n1,n2⟩:=Jq hnd
   refine⟨o,v',h3,h5 ai,?_⟩
   rw [h4,iz]
   exact yc hr hD hn hG hK c _ ax ai w n2 (kept h2 ho) (hj.grow h1 (show d≠dr from λe=>h2 (e ▸ hr)) (λe=>(ahj.1 e).elim n1 (λe=>h2 (hD d e))) v') h6 hu hS
theorem EK {dj dk:Nat} {qj qk:Value->List HP->Prop} (bX:dj≠dk) (hG:∀X w,aR β (X++Z) w->aR β S w)
 (hK:∀f1 h1,R f1 h1->∀va la,qj va la->∀vb lb,qk vb lb->∀ai w,ai dj=va->ai dk=vb->(∀t∈[dj,dk],t∉cr f1)->aR β (h1++(la++(lb++Z))) w->lZ P ops (NP Q) (aR β S) l2 (fF N f1 ai) w)
 (c:List (Bool×Nat×Nat)) (fr:Fr) (ax:List HP) (ai:Nat->Value) (w:World) (hnd:cD (DX c)=true) (ho:∀t∈[dj,dk],t∉cr fr) (hj:jm P β N ops Q j dj (dj::(DX c++[dk])) fr [] qj) (hk:jm P β N ops Q k dk (dk::(DX c++[dj])) fr [] qk) (hc:ez P β N ops Q S [dj,dk] c fr ax R) (hS:aR β (ax++Z) w):x9 P ops (NP Q) (aR β S) (oK j k l2 (Jp c)) (fF N fr ai) w:=by
 have aj:wpOp P ops (NP Q) j (λa' w'=>aR β S w'/\x9 P ops (NP Q) (aR β S) (oJ k l2 (Jp c)) a' w') (fF N fr ai) w:=
  hj.at_ (X:=ax) hS (λv l j2 w' g1 g2 g3 g4=>⟨hG (ax++l) w' (by simpa using g4),yc (D:=[dj]) (u:=j2) (Z:=l++Z) agU agU (by simpa using bX.symm) (λX w h=>hG (X++l) w (by simpa using h))
   (λf1 h1 k1 vb lb k2 ai w k3 k4 k5 k6=>hK f1 h1 k1 v l g1 vb lb k2 ai w ((k4 dj agU).trans g2) k3 k5 (YR k6)) c fr ax j2 w' hnd ho hk hc (λ_ _=>rfl) g4⟩)
 have ak:wpOp P ops (NP Q) k (λa' w'=>aR β S w'/\x9 P ops (NP Q) (aR β S) (oJ j l2 (Jp c)) a' w') (fF N fr ai) w:=
  hk.at_ (X:=ax) hS (λv l j2 w' g1 g2 g3 g4=>⟨hG (ax++l) w' (by simpa using g4),yc (D:=[dk]) (u:=j2) (Z:=l++Z) agU agU (by simpa using bX) (λX w h=>hG (X++l) w (by simpa using h))
   (λf1 h1 k1 va la k2 ai w k3 k4 k5 k6=>hK f1 h1 k1 va la k2 v l g1 ai w k3 ((k4 dk agU).trans g2) k5 k6) c fr ax j2 w' hnd ho hj hc (λ_ _=>rfl) g4⟩)
 match c,hc with
 |[],_=>exact⟨aj,ak⟩
 |(false,i,d)::c,⟨⟨h1,h2⟩,q,h3,h4⟩=>
   obtain⟨n1,n2⟩:=Jq hnd
   have hm:∀x∈[dj,dk],d∉DX c++[x]:=λx hx e=>(ahj.1 e).elim n1 (λe=>h2 (ahu.1 e ▸ hx))
   refine⟨h3.at_ (X:=[]) hS (λv' l j2 w' g1 g2 g3 g4=>⟨hG l w' g4,?_⟩),aj,ak⟩
   rw [zu g2 h1]
   exact EK bX hG hK c _ l j2 w' n2 (kept h2 ho) (hj.grow h1 (show d≠dj from λe=>h2 (by simp [e])) (hm dk agU) v') (hk.grow h1 (show d≠dk from λe=>h2 (by simp [e])) (hm dj agU) v') (h4 v' l g1) g4
 |(true,i,d)::c,⟨⟨h1,h2⟩,o,v',h3,h4,h5,h6⟩=>
   obtain⟨n1,n2⟩:=Jq hnd
   have hm:∀x∈[dj,dk],d∉DX c++[x]:=λx hx e=>(ahj.1 e).elim n1 (λe=>h2 (ahu.1 e ▸ hx))
   refine⟨o,v',h3,h5 ai,?_⟩
   rw [h4,iz]
   exact EK bX hG hK c _ ax ai w n2 (kept h2 ho) (hj.grow h1 (show d≠dj from λe=>h2 (by simp [e])) (hm dk agU) v') (hk.grow h1 (show d≠dk from λe=>h2 (by simp [e])) (hm dj agU) v') h6 hS
termination_by c.length
theorem adl {pS:List Nat} (hn:cD pS=true) (hp:cW Z pS=some S) (X:List HP) (w:World) (h:aR β (X++Z) w):aR β S w:=aR.pick (ar:=pS) (l:=Z) (aR.left (aR.turn h)) hn hp
theorem oo.one {t:OT} {dj:Nat} {qj:Value->List HP->Prop} (pS:List Nat) (c:List (Bool×Nat×Nat)) (hj:jm P β N ops Q j dj (dj::(DX c++[])) fr [] qj) (hc:ez P β N ops Q S [dj] c fr [] R)
 (K:∀f1 h1,R f1 h1->∀v lp,qj v lp->fN P β N ops S l2 ((dj,v)::f1) (h1++(lp++ax)) Q)
 (hl:t=oJ j l2 (Jp c):=by rfl) (hn:cD pS=true:=by rfl) (hp:cW ax pS=some S:=by rfl) (hnd:cD (DX c)=true:=by rfl) (hd:(!ox dj (cr fr) && !ox dj [])=true:=by rfl):oo P β N ops S t fr ax Q:=by
 intro ai w hS
 subst hl
 refine yc (D:=[]) (u:=ai) agU agU agU (adl hn hp) (λf1 h1 hr v lp hv ai w a1 _ a3 a4=>?_) c fr [] ai w hnd (by simpa using (VP hd).1) hj hc agU hS
 rw [zu a1 (a3 dj agU)]
 exact K f1 h1 hr v lp hv ai w a4
theorem oo.both {t:OT} {dj dk:Nat} {qj qk:Value->List HP->Prop} (pS:List Nat) (c:List (Bool×Nat×Nat)) (hj:jm P β N ops Q j dj (dj::(DX c++[dk])) fr [] qj) (hk:jm P β N ops Q k dk (dk::(DX c++[dj])) fr [] qk) (hc:ez P β N ops Q S [dj,dk] c fr [] R)
 (K:∀f1 h1,R f1 h1->∀va la,qj va la->∀vb lb,qk vb lb->fN P β N ops S l2 ((dj,va)::(dk,vb)::f1) (h1++(la++(lb++ax))) Q)
 (hl:t=oK j k l2 (Jp c):=by rfl) (hn:cD pS=true:=by rfl) (hp:cW ax pS=some S:=by rfl) (hnd:cD (DX c)=true:=by rfl) (hd:(!ox dj (cr fr) && !ox dj [dk])=true:=by rfl) (hd2:(!ox dk (cr fr) && !ox dk [])=true:=by rfl):oo P β N ops S t fr ax Q:=by
 intro ai w hS
 subst hl
 obtain⟨n1,n2⟩:=VP hd
 have n3:=(VP hd2).1
 have bX:dj≠dk:=by simpa using n2
 refine EK bX (adl hn hp) (λf1 h1 hr va la ha vb lb hb ai w a1 a2 a3 a4=>?_) c fr [] ai w hnd (by simp [n1,n3]) hj hk hc hS
 rw [zu a2 (a3 dk agU),zu a1 (fr:=(dk,vb)::f1) (λhm=>(aha.1 (show dj∈dk::cr f1 from hm)).elim bX (a3 dj agU))]
 exact K f1 h1 hr va la ha vb lb hb ai w a4
end bes
end mix
def ko (β:Bs) (Φ:Bs->Prop):eH where
 h F w:=∃β':Bs,β.le β'/\(∀k,β'.O k->β.O k\/F k)/\(∀k,F k->β'.O k)/\β'.w0.heap.size<=w.heap.size/\(∀k,F k->k<β'.w0.heap.size/\w.heap[k]?=β'.w0.heap[k]?)/\Φ β'
 lt:=λ⟨_,_,_,_,h4,h5,_⟩ k hk=>ahg (h5 k hk).1 h4
 st:=λ⟨β',h1,h2,h3,h4,h5,h6⟩ _ _ hk hs=>⟨β',h1,h2,h3,ag1 h4 hk.size,λk hF=>⟨(h5 k hF).1,(hk.block k (ahg (h5 k hF).1 h4) (hs k hF)).trans (h5 k hF).2⟩,h6⟩
section Jr
variable {P:Program} {β:Bs} {N:fY} {ops:Array Oper} {k:Nat} {fr:Fr} {ax fe:List HP} {Q:Post} {f:FuncId} {args:Array Value} {pre:List HP}
theorem cE.Jr {ι:Type} {vv:ι->Value} {ll:ι->List HP} {Φ:ι->Bs->Prop} (h:cE P β f args pre (λβ' v l=>∃x,v=vv x/\l=ll x/\Φ x β')):aW P β f args pre (λv l=>∃x,v=vv x/\l=.abs (ko β (Φ x))::ll x):=by
 intro R w hS
 refine (h R w hS).mono ?_
 rintro e w' ⟨β',v,l,dU,he,⟨x,rfl,rfl,Rf⟩,ho,φ,h1,h2,h3⟩
 refine⟨vv x,_,he,⟨x,rfl,rfl⟩,ho.le dU,λi=>match i with
  |0=>λk=>β'.O k/\¬β.O k
  |i+1=>φ i,λi p hp=>?_,λi hi k hk hO=>?_,λi j hi hj bX k hk jq=>?_⟩
 ·cases i with
  |zero=>
    have hp:some (HP.abs (ko β (Φ x)))=some p:=hp
    cases hp
    exact⟨β',dU,λk hk=>(Classical.em (β.O k)).elim .inl (λhn=>.inr ⟨hk,hn⟩),λk hk=>hk.1,ho.size,λk hk=>ho.old k hk.1,Rf⟩
  |succ i=>exact h1 i p (by simpa using hp)
 ·cases i with
  |zero=>exact hk.2 hO
  |succ i=>exact h2 i (by simp at hi ⊢;omega) k hk (dU.O k hO)
 cases i with
 |zero=>
   cases j with
   |zero=>exact bX rfl
   |succ j=>exact h2 j (by simp at hj ⊢;omega) k jq hk.1
 |succ i=>
   cases j with
   |zero=>exact h2 i (by simp at hi ⊢;omega) k hk jq.1
   |succ j=>exact h3 i j (by simp at hi ⊢;omega) (by simp at hj ⊢;omega) zc k hk jq
theorem aR.uz {Φ:Bs->Prop} {l:List HP} {w:World} (h:aR β (.abs (ko β Φ)::l) w):∃β':Bs,β.le β'/\Φ β'/\aR β' l w:=by
 obtain⟨ho,φ,h1,h2,h3⟩:=h
 have hF:(ko β Φ).h (φ 0) w:=h1 0 _ rfl
 obtain⟨β',g1,g2,g3,g4,g5,g6⟩:=hF
 refine⟨β',g1,g6,⟨ho.os.trans g1.os.symm,ho.tape.trans g1.tape.symm,ho.output.trans g1.output.symm,g4,λk hk=>?_⟩,λj=>φ (j+1),λj p hp=>h1 (j+1) p (by simpa using hp),λj hj k hk hO=>?_,λa b ha hb bX=>h3 (a+1) (b+1) (by simp;omega) (by simp;omega) zc⟩
 ·rcases g2 k hk with hb|hb
  ·have e1:=g1.old k hb
   have e2:=ho.old k hb
   grind
  exact g5 k hb
 rcases g2 k hO with hb|hb
 ·exact h2 (j+1) (by simp;omega) k hk hb
 exact h3 (j+1) 0 (by simp;omega) agU zc k hk hb
theorem av.uz {Φ:Bs->Prop} (i:Nat) (ar:List Nat) (hp:ax[i]?=some (.abs (ko β Φ))) (hn:cD (i::ar)=true) (hl:cW ax ar=some fe)
 (K:∀β':Bs,β.le β'->Φ β'->av P β' N ops k fr fe Q):av P β N ops k fr ax Q:=λai w hS=>by
 obtain⟨β',g1,g2,g3⟩:=(hS.pick (ar:=i::ar) (l':=.abs (ko β Φ)::fe) hn (by simp only [cW,hp,hl])).uz
 exact K β' g1 g2 ai w g3
theorem aW.TK {Φ:Bs->Prop} {post:Value->List HP->Prop} (h:∀β':Bs,β.le β'->Φ β'->aW P β' f args pre post):aW P β f args (.abs (ko β Φ)::pre) post:=by
 intro R w hS
 obtain⟨β',g1,g2,g3⟩:=aR.uz (l:=pre++[.abs R]) hS
 refine (h β' g1 g2 R w g3).mono ?_
 rintro e w' ⟨v,l,h1,h2,h3⟩
 exact⟨v,l,h1,h2,h3.Nh g1⟩
end Jr
end
section
open Go.RowKit Go.Maps bK aF
theorem TL (_:Nat) (f:dF):∀u∈jb f,u.oneCell'=true:=by
 intro u hu
 simp only [jb,aha,List.not_mem_nil,or_false] at hu
 rcases hu with rfl|rfl<;>rfl
theorem YS (_:Nat) (a:dK):∀u∈kg a,u.oneCell'=true:=by
 intro u hu
 simp only [kg,aha,List.not_mem_nil,or_false] at hu
 rcases hu with rfl|rfl|rfl|rfl|rfl<;>rfl
theorem VQ (_:Nat) (a:aN):∀u∈aQ a,u.oneCell'=true:=by
 intro u hu
 simp only [aQ,aha,List.not_mem_nil,or_false] at hu
 rcases hu with rfl|rfl|rfl|rfl|rfl|rfl|rfl|rfl|rfl|rfl|rfl|rfl|rfl<;>rfl
theorem zf {α:Type} (f:α->List Value) (a:α) (ys:List α):cI f (ys++[a])=cI f ys++f a:=by
 have:∀(k:Nat) (ys:List α),fq (λ_ x=>f x) k (ys++[a])=fq (λ_ x=>f x) k ys++f a:=λk ys=>by
  induction ys generalizing k with
  |nil=>exact List.append_nil _
  |cons y r ih=>show f y++fq _ (k+1) (r++[a])=(f y++fq _ (k+1) r)++f a;rw [ih,ahp]
 exact this 0 ys
theorem ye {α:Type} {f:α->List Value} {s:Nat} (hf:∀a,(f a).length=s):∀xs:List α,(cI f xs).length=xs.length*s:=λxs=>by
 have:∀(k:Nat) (xs:List α),(fq (λ_ x=>f x) k xs).length=xs.length*s:=λk xs=>by
  induction xs generalizing k with
  |nil=>simp [fq]
  |cons y r ih=>show (f y++fq _ (k+1) r).length=_;rw [ag4,ih,hf,ahw,Nat.succ_mul,ah0]
 exact this 0 xs
structure AZ where
 A:Int->Option Addr
 c:Int->Nat
def AZ.none:AZ:=⟨λ_=>Option.none,λ_=>0⟩
def AZ.put (Z:AZ) (n:Int) (B:Option Addr) (k:Nat):AZ:=⟨λx=>if x=n then B else Z.A x,λx=>if x=n then k else Z.c x⟩
def aA (Z:AZ) (xs:List dK) (n:Int):Option Addr:=if dO xs n=[] then .none else Z.A n
def aC (Z:AZ) (xs:List dK) (n:Int):Nat:=if dO xs n=[] then 0 else Z.c n
def zz:Int->Nat
 |.ofNat n=>2*n
 |.negSucc n=>2*n+1
def Gu (k:Nat):Int:=if k % 2=0 then .ofNat (k / 2) else .negSucc (k / 2)
def kZ (Z:AZ) (xs:List dK):Lit->Option Value
 |.int .i64 n=>if dO xs n=[] then .none else some (.slice (aA Z xs n) (dO xs n).length (aC Z xs n))
 |_=>.none
def iu (fs:List dF):Lit->Option Value
 |.int .i64 n=>if iM fs n=0 then .none else some (.int .i64 (iM fs n))
 |_=>.none
abbrev Hw (Z:AZ) (xs:List dK) (n:Int):eH:=aH 68 5 (aA Z xs n) (dO xs n).length (aC Z xs n) (cI kg (dO xs n))
def tP (Z:AZ) (xs:List dK) (k:Nat):eH:=if dO xs (Gu k)=[] then eH.none else Hw Z xs (Gu k)
def rP (β:Bs) (Z:AZ) (xs:List dK):Prop:=∀n,cC β (aA Z xs n) (cI kg (dO xs n))
section z
variable {Z:AZ} {xs:List dK} {n x:Int} {k c:Nat} {B:Option Addr} {a:dK} {β β':Bs} {l l':List HP} {w:World} {i j:Nat}
theorem OM:∀n,Gu (zz n)=n
 |.ofNat n=>by show Gu (2*n)=_;unfold Gu;rw [agW zc];exact agX Int.ofNat zc
 |.negSucc n=>by show Gu (2*n+1)=_;unfold Gu;rw [agV zc];exact agX Int.negSucc zc
theorem adm (k:Nat):zz (Gu k)=k:=by
 unfold Gu
 split
 ·show 2*(k / 2)=k;omega
 show 2*(k / 2)+1=k;omega
theorem rP.le (h:rP β Z xs) (g:β.le β'):rP β' Z xs:=λn=>(h n).le g
theorem Hy:(kZ Z xs (.int .i64 n)).getD (.slice .none 0 0)=.slice (aA Z xs n) (dO xs n).length (aC Z xs n):=by
 unfold kZ
 by_cases h:dO xs n=[]
 ·simp only
  rw [agW h]
  unfold aA aC
  rw [agW h,agW h,h];rfl
 simp only
 rw [agV h];rfl
theorem LH {fs:List dF}:(iu fs (.int .i64 n)).getD (.int .i64 0)=.int .i64 (iM fs n):=by
 unfold iu
 simp only
 split
 ·rename_i h;rw [h];rfl
 rfl
theorem YT:kZ Z []=λ_=>.none:=funext λl=>by
 unfold kZ
 split<;>rfl
theorem VR:iu []=λ_=>.none:=funext λl=>by
 unfold iu
 split<;>rfl
theorem BB {m:Int} (h:m≠a.at_):dO (xs++[a]) m=dO xs m:=by
 rw [wY,agV (λe=>h e.symm)]
theorem BD:dO (xs++[a]) a.at_=dO xs a.at_++[a]:=by
 rw [wY,agW rfl]
theorem aaQ {m:Int} (h:m≠a.at_):aA (Z.put a.at_ B c) (xs++[a]) m=aA Z xs m:=by
 unfold aA AZ.put
 rw [BB h]
 simp only
 rw [agV h]
theorem aaR {m:Int} (h:m≠a.at_):aC (Z.put a.at_ B c) (xs++[a]) m=aC Z xs m:=by
 unfold aC AZ.put
 rw [BB h]
 simp only
 rw [agV h]
theorem aaS:aA (Z.put a.at_ B c) (xs++[a]) a.at_=B:=by
 unfold aA AZ.put
 rw [BD,agV agU]
 simp
theorem aaT:aC (Z.put a.at_ B c) (xs++[a]) a.at_=c:=by
 unfold aC AZ.put
 rw [BD,agV agU]
 simp
theorem RO {f g:Lit->Option Value} {v:Option Value} (hv:g (.int .i64 n)=v) (ho:∀l,l≠.int .i64 n->g l=f l):qd f (.int .i64 n) v=g:=funext λl=>by
 unfold qd
 by_cases h:l.sameKey (.int .i64 n)=true
 ·rw [agW h]
  have:l=.int .i64 n:=by
   cases l with
   |int q a=>simp [Lit.sameKey] at h;obtain⟨rfl,rfl⟩:=h;rfl
   |_=>simp [Lit.sameKey] at h
  rw [this,hv]
 rw [agV h,ho l (λe=>h (by rw [e];simp [Lit.sameKey]))]
theorem YU:qd (kZ Z xs) (.int .i64 a.at_) (some (.slice B ((dO xs a.at_).length+1) c))=kZ (Z.put a.at_ B c) (xs++[a]):=by
 refine RO ?_ (λl h=>?_)
 ·unfold kZ
  simp only
  rw [BD,agV agU,aaS,aaT,ag4];rfl
 unfold kZ
 split
 ·rename_i m
  have hm:m≠a.at_:=λe=>h (by rw [e])
  rw [BB hm,aaQ hm,aaR hm]
 rfl
theorem VS {fs:List dF} {f:dF} (h:FK f) (h0:iM fs f.at_=0):qd (iu fs) (.int .i64 f.at_) (some (.int .i64 f.kind))=iu (fs++[f]):=by
 have hk:¬f.kind=0:=by have:=h.1;omega
 refine RO ?_ (λl hl=>?_)
 ·unfold iu
  simp only
  have e:iM (fs++[f]) f.at_=f.kind:=by rw [tG,agW h0,agW (show f.at_=f.at_/\FK f from ⟨rfl,h⟩)]
  rw [e,agV hk]
 unfold iu
 split
 ·rename_i m
  have hm:¬(f.at_=m/\FK f):=λe=>hl (by rw [e.1])
  rw [tG,agV hm]
  by_cases h2:iM fs m=0
  ·rw [agW h2,h2]
  rw [agV h2]
 rfl
theorem Dq {fs:List dF} {f:dF} (h:¬FK f\/iM fs f.at_≠0):iu (fs++[f])=iu fs:=funext λl=>by
 unfold iu
 split
 ·rename_i m
  have:iM (fs++[f]) m=iM fs m:=by
   rw [tG]
   by_cases h2:iM fs m=0
   ·rw [agW h2,agV (λe=>?_),h2]
    rcases h with h|h
    ·exact h e.2
    exact h (by rw [e.1];exact h2)
   rw [agV h2]
  rw [this]
 rfl
theorem aR.adn (h:aR β l w):aR β (l++[.abs (aY (tP AZ.none []))]) w:=h.MZ _ (λ_=>agW rfl)
theorem aR.ab1 (h:aR β l w) (hp:l[i]?=some (.abs (aY (tP Z xs)))) (n:Int):aR β (l.set i (.abs (aY (nR (tP Z xs) (zz n) eH.none)))++[.abs (Hw Z xs n)]) w:=by
 have h1:=h.IY hp (zz n)
 by_cases e:dO xs n=[]
 ·have e2:Hw Z xs n=aH 68 5 .none 0 0 []:=by
   unfold Hw aA aC
   rw [agW e,agW e,e];rfl
  rw [e2]
  exact (aR.left h1).mB (e:=68) (size:=5)
 have e2:tP Z xs (zz n)=Hw Z xs n:=by
  unfold tP
  rw [OM,agV e]
 rw [e2] at h1
 exact h1
theorem aR.ado {ar:List Nat} (h:aR β l w) (hp:l[i]?=some (.abs (aY (nR (tP Z xs) (zz a.at_) eH.none)))) (hq:l[j]?=some (.abs (aH 68 5 B ((dO xs a.at_).length+1) c (cI kg (dO xs a.at_)++kg a)))) (hn:cD (i::j::ar)=true) (hl:cW l ar=some l') :
 aR β (.abs (aY (tP (Z.put a.at_ B c) (xs++[a])))::l') w:=by
 refine h.wW hp hq (λ_ _ h=>h) hn hl (zz a.at_) (λx hx=>?_) ?_
 ·have bX:Gu x≠a.at_:=λe=>hx (by rw [←e,adm])
  unfold nR
  rw [agV hx]
  unfold tP Hw
  rw [BB bX,aaQ bX,aaR bX]
 unfold tP Hw
 rw [OM,BD,agV agU,aaS,aaT]
 rw [zf,ag4];rfl
theorem rP.of {F:Fp} (h:(HP.abs (aY (tP Z xs))).h F w) (h1:∀k,F k->β.O k) (h2:β.w0=w):rP β Z xs:=λn=>by
 by_cases e:dO xs n=[]
 ·rw [e];exact λj v hj=>by simp [cI,fq] at hj
 obtain⟨φ,g1,_,g3⟩:=h
 have h3:=g1 (zz n)
 unfold tP at h3
 rw [OM,agV e] at h3
 exact cC.iH h3 (λk hk=>h1 k ((g3 k).2 ⟨_,hk⟩)) h2
end z
theorem Dr {xs:List dK} {i:Nat} (h:i<xs.length):xs.take (i+1)=xs.take i++[act xs i]:=by
 rw [ahq,zo h];rfl
theorem wu {fs:List dF} {i:Nat} (h:i<fs.length):fs.take (i+1)=fs.take i++[pq fs i]:=by
 rw [ahq,FO h];rfl
theorem VT {n:Nat} (h:n<=9223372036854775807):(Lit.int .i64 (n:Int)).wf=true:=by
 simp [Lit.wf,IntKind.min,IntKind.max,IntKind.signed,IntKind.bits]
 omega
theorem YV {d:List UInt8} {m j:Nat} {v:Value} (h:(dR (d.take m))[j]?=some v):(dR d)[j]?=some v:=by
 unfold dR at h ⊢
 rw [List.getElem?_map] at h ⊢
 rw [List.getElem?_take] at h
 split at h
 ·exact h
 cases h
theorem QK {β:Bs} {c:aN} (h:kH β c):kH β {c with data:=c.data.take (c.data.length / 2)}:=⟨h.hw,h.ow,h.nm,h.tx,λj v hj=>h.da j v (YV hj),by
 show (c.data.take _).length<=_
 rw [ahi];have:=h.dl;omega,by
 show (c.data.take _).length<=c.dC
 rw [ahi];have:=h.dc;omega,h.op⟩
structure WG where
 w:Nat
 o:Nat
 q:Nat
 am:Nat
 km:Nat
 an:Nat
 kn:Nat
 f:Nat
 m:Nat
 t:Nat
 Z:AZ
structure WV where
 L:HL
 A:Option Addr
 c:Nat
abbrev wB (w o f:Nat) (au:Int) (A:Option Addr) (n c:Nat):HP:=.aD w [.iface 37 (vP w),vP f,.iface 108 (vP o),.int .i64 au,.slice A n c] 79
abbrev oB (o q f:Nat) (au:Int) (am n:Nat):HP:=.aD o [.iface 109 (vP q),vP f,.int .i64 au,.map (some am),.int .i64 n] 113
abbrev qB (q f km n:Nat):HP:=.aD q [.iface 76 (vP f),.map (some km),.int .i64 n] 111
abbrev aM (am an:Nat) (Z:AZ) (xs:List dK):HP:=.abs (bM Tryz.prog 3 am (kZ Z xs) an)
abbrev kM (km kn:Nat) (fs:List dF):HP:=.abs (bM Tryz.prog 3 km (iu fs) kn)
abbrev tR (A:Option Addr) (c:Nat) (tr:List aN):HP:=.abs (aH 53 13 A tr.length c (cI aQ tr))
abbrev wP (G:WG) (fs:List dF) (xs:List dK) (au:Int) (S:bB) (V:WV) (tr:List aN):List HP:=[wB G.w G.o G.f au V.A tr.length V.c,oB G.o G.q G.f au G.am tr.length,qB G.q G.f G.km tr.length,aM G.am G.an G.Z xs,kM G.km G.kn fs,tR V.A V.c tr]++pA G.f G.m G.t V.L S
def wA (G:WG) (fs:List dF) (xs:List dK) (au:Int) (S:bB) (V:WV) (tr:List aN):HP:=.abs (gU (wP G fs xs au S V tr))
def wv (β:Bs) (tr:List aN):Prop:=∀c∈tr,bF β c.dA c.data/\c.data.length<=1048576
theorem wv.le {β β':Bs} {tr:List aN} (h:wv β tr) (g:β.le β'):wv β' tr:=λc hc=>⟨(h c hc).1.le g,(h c hc).2⟩
theorem wv.snoc {β:Bs} {tr:List aN} {c:aN} (h:wv β tr) (g:bF β c.dA c.data) (g2:c.data.length<=1048576):wv β (tr++[c]):=λx hx=>by
 rcases ahj.1 hx with hx|hx
 ·exact h x hx
 obtain rfl:=ahu.1 hx;exact⟨g,g2⟩
theorem aW.one {P:Program} {β:Bs} {f:FuncId} {args:Array Value} {pre:List HP} {post:Value->List HP->Prop} (h:aW P β f args pre post):aW P β f args [.abs (gU pre)] (λv l=>∃l0,post v l0/\l=[.abs (gU l0)]):=by
 intro R w hS
 have h1:aR β ([.abs R]++[.abs (gU pre)]) w:=aR.turn hS
 refine (h R w (aR.turn h1.sQ)).mono ?_
 rintro e w' ⟨v,l,h2,h3,h4⟩
 exact⟨v,[.abs (gU l)],h2,⟨l,h3,rfl⟩,aR.turn (aR.gU (aR.turn h4))⟩
theorem cE.one {P:Program} {β:Bs} {f:FuncId} {args:Array Value} {pre:List HP} {post:Bs->Value->List HP->Prop} (h:cE P β f args pre post):cE P β f args [.abs (gU pre)] (λβ' v l=>∃l0,post β' v l0/\l=[.abs (gU l0)]):=by
 intro R w hS
 have h1:aR β ([.abs R]++[.abs (gU pre)]) w:=aR.turn hS
 refine (h R w (aR.turn h1.sQ)).mono ?_
 rintro e w' ⟨β',v,l,dU,h2,h3,h4⟩
 exact⟨β',v,[.abs (gU l)],dU,h2,⟨l,h3,rfl⟩,aR.turn (aR.gU (aR.turn h4))⟩
theorem aB.uz {β:Bs} {N:fY} {Q:Post} {e:Exit} {fr:Fr} {ax fe:List HP} {Φ:Bs->Prop} (i:Nat) (ar:List Nat) (hp:ax[i]?=some (.abs (ko β Φ))) (hn:cD (i::ar)=true) (hl:cW ax ar=some fe) (K:∀β':Bs,β.le β'->Φ β'->aB β' N Q e fr fe):aB β N Q e fr ax:=λai w hS=>by
 obtain⟨β',g1,g2,g3⟩:=(hS.pick (ar:=i::ar) (l':=.abs (ko β Φ)::fe) hn (by simp only [cW,hp,hl])).uz
 exact K β' g1 g2 ai w g3
theorem cE.TK {P:Program} {β:Bs} {f:FuncId} {args:Array Value} {pre:List HP} {Φ:Bs->Prop} {post:Bs->Value->List HP->Prop} (h:∀β':Bs,β.le β'->Φ β'->cE P β' f args pre post):cE P β f args (.abs (ko β Φ)::pre) post:=by
 intro A w hS
 obtain⟨β',g1,g2,g3⟩:=aR.uz (l:=pre++[.abs A]) hS
 refine (h β' g1 g2 A w g3).mono ?_
 rintro e w' ⟨β'',v,l,dU,h2⟩
 exact⟨β'',v,l,g1.trans dU,h2⟩
theorem cE.adp {P:Program} {β:Bs} {f:FuncId} {args:Array Value} {R:List HP} {post:Bs->Value->List HP->Prop} (h:∀β':Bs,pW β R β'->cE P β' f args [] post):cE P β f args R post:=by
 intro A w hS
 have h4:aR β ([.abs A]++R) w:=aR.turn hS
 obtain⟨β',g1,_,g3⟩:=h4.wg
 refine (h β' g1 A w g3).mono ?_
 rintro e w' ⟨β'',v,l,dU,h2⟩
 exact⟨β'',v,l,g1.le.trans dU,h2⟩
theorem cE.adq {P:Program} {β:Bs} {f:FuncId} {args:Array Value} {pre:List HP} {post:Value->List HP->Prop} (h:cE P β f args pre (λ_ v l=>post v l)):aW P β f args pre post:=by
 intro A w hS
 refine (h A w hS).mono ?_
 rintro e w' ⟨β',v,l,dU,h2,h3,h4⟩
 exact⟨v,l,h2,h3,h4.Nh dU⟩
theorem cE.adr {P:Program} {β:Bs} {f:FuncId} {args:Array Value} {pre:List HP} {post post':Bs->Value->List HP->Prop} (h:cE P β f args pre post) (hp:∀β' v l,post β' v l->(l=[]/\post' β' v [])\/post' β' v [.abs (gU l)]):cE P β f args pre post':=by
 intro R w hS
 refine (h R w hS).mono ?_
 rintro e w' ⟨β',v,l,dU,h2,h3,h4⟩
 rcases hp β' v l h3 with ⟨rfl,h5⟩|h5
 ·exact⟨β',v,[],dU,h2,h5,h4⟩
 exact⟨β',v,[.abs (gU l)],dU,h2,h5,aR.turn (aR.gU (aR.turn h4))⟩
theorem Ds {α:Type} (f:α->List Value) (a:α) (r:List α):cI f (a::r)=f a++cI f r:=by
 have:∀(k k':Nat) (r:List α),fq (λ_ x=>f x) k r=fq (λ_ x=>f x) k' r:=λk k' r=>by
  induction r generalizing k k' with
  |nil=>rfl
  |cons y r ih=>show f y++fq _ (k+1) r=f y++fq _ (k'+1) r;rw [ih]
 show f a++fq _ 1 r=f a++fq _ 0 r
 rw [this]
section k
variable {xs:List dK} {z au:Int} {j n:Nat} {fs:List dF} {S:bB} {c:aN} {k:Int}
end k
end
section
open Go.RowKit Go.Maps
def aeY (l:List ByteArray):List Value:=l.map Value.string
def sAt (l:List ByteArray) (i:Nat):ByteArray:=l.getD i ⟨#[]⟩
def agl (β:Bs) (A:Option Addr) (l:List ByteArray):Prop:=cC β A (aeY l)
section strs
variable {β β':Bs} {A:Option Addr} {l:List ByteArray}
end strs
def Sorted (es:List fD):Prop:=∀i j,i<j->j<es.length->vl (en es i).name (en es j).name<0
def BF (es:List fD) (p:ByteArray):Option Nat:=es.findIdx? (λe=>decide (e.name=p))
theorem TM {es:List fD} {p:ByteArray} (h:∀j,j<es.length->¬(en es j).name=p):BF es p=none:=by
 unfold BF
 rw [List.findIdx?_eq_none_iff]
 intro x hx
 obtain⟨j,hj,rfl⟩:=ahG hx
 grind [en]
section find
variable {ns:List aO} {k i:Nat} {ps:List ByteArray}
end find
end
section
open Go.RowKit
def iR (es:List fD) (id:Int):Nat->Nat
 |0=>0
 |j+1=>iR es id j+(if (en es j).id=id then 1 else 0)
def nK (ns:List aO) (id:Int):Nat->Nat
 |0=>0
 |i+1=>nK ns id i+iR (nd ns i).ah id (nd ns i).ah.length
theorem LI (es:List fD) (id:Int) (j:Nat):iR es id j<=j:=by
 induction j with
 |zero=>exact ag5 _
 |succ j ih=>
   rw [iR]
   split<;>omega
theorem Js {es:List fD} {id:Int} {j:Nat} (h:(en es j).id=id):iR es id j+1=iR es id (j+1):=by rw [iR,agW h]
theorem Gv {es:List fD} {id:Int} {j:Nat} (h:¬(en es j).id=id):iR es id j=iR es id (j+1):=by rw [iR,agV h];rfl
theorem TN (ns:List aO) (id:Int) (i:Nat):nK ns id i<=dJ ns i:=by
 induction i with
 |zero=>exact ag5 _
 |succ i ih=>
   grind [nK,dJ,LI,nd]
end
section
open Go.RowKit Go.Maps
structure KI (ns:List aO) (i j:Nat):Prop where
 lti:i<ns.length
 LJ:j<(nd ns i).ah.length
 dir:(nd ns (bY ns (bS ns i j).id)).kind=2
section
variable {ns:List aO}
theorem Al {i m:Nat} {p:Nat×Nat}:p∈ig ns i m↔∃j,j<m/\(nd ns (bY ns (bS ns i j).id)).kind=2/\p=(bY ns (bS ns i j).id,i):=by
 induction m with
 |zero=>simp [ig]
 |succ m ih=>
   grind [nd,bY,bS,qx,rC]
theorem Dt {m:Nat} {p:Nat×Nat}:p∈jj ns m↔∃i j,i<m/\j<(nd ns i).ah.length/\(nd ns (bY ns (bS ns i j).id)).kind=2/\p=(bY ns (bS ns i j).id,i):=by
 induction m with
 |zero=>simp [jj]
 |succ m ih=>
   grind [jj,Al]
theorem KI.mem {i j:Nat} (h:KI ns i j):(bY ns (bS ns i j).id,i)∈jj ns ns.length:=Dt.2 ⟨i,j,h.lti,h.LJ,h.dir,rfl⟩
def aaU (ns:List aO) (m:Nat):Prop:=∀i j i' j',KI ns i j->KI ns i' j'->i<m->i'<m->bY ns (bS ns i j).id=bY ns (bS ns i' j').id->i=i'/\j=j'
theorem VU {i m:Nat} (h:((ig ns i m).map Prod.fst).Nodup):∀j j',j<m->j'<m->(nd ns (bY ns (bS ns i j).id)).kind=2->(nd ns (bY ns (bS ns i j').id)).kind=2->bY ns (bS ns i j).id=bY ns (bS ns i j').id->j=j':=by
 induction m with
 |zero=>intro j j' hj;omega
 |succ m ih=>
   intro j j' hj hj' hk jq e
   by_cases hm:(nd ns (bY ns (bS ns i m).id)).kind=2
   ·rw [qx hm,ahs,ahV] at h
    rcases ag3.1 hj with e1|e1
    ·rcases ag3.1 hj' with e2|e2
     ·exact ih h.2 j j' e1 e2 hk jq e
     subst e2;exact agY (ahe.2 ⟨_,Al.2 ⟨j,e1,hk,rfl⟩,e⟩) h.1
    rcases ag3.1 hj' with e2|e2
    ·subst e1;exact agY (ahe.2 ⟨_,Al.2 ⟨j',e2,jq,rfl⟩,e.symm⟩) h.1
    omega
   grind [rC]
theorem VW {m:Nat} (h:((jj ns m).map Prod.fst).Nodup):aaU ns m:=by
 induction m with
 |zero=>intro i j i' j' _ _ hi;omega
 |succ m ih=>
   rw [jj,ahv] at h
   obtain⟨h1,h2,h3⟩:=List.nodup_append.1 h
   intro i j i' j' g g' hi hi' e
   rcases ag3.1 hi with e1|e1
   ·rcases ag3.1 hi' with e2|e2
    ·exact ih h2 i j i' j' g g' e1 e2 e
    subst e2
    exact agY e.symm (h3 _ (ahe.2 ⟨_,Al.2 ⟨j',g'.LJ,g'.dir,rfl⟩,rfl⟩) _ (ahe.2 ⟨_,Dt.2 ⟨i,j,e1,g.LJ,g.dir,rfl⟩,rfl⟩))
   rcases ag3.1 hi' with e2|e2
   ·subst e1
    exact agY e (h3 _ (ahe.2 ⟨_,Al.2 ⟨j,g.LJ,g.dir,rfl⟩,rfl⟩) _ (ahe.2 ⟨_,Dt.2 ⟨i',j',e2,g'.LJ,g'.dir,rfl⟩,rfl⟩))
   subst e1;subst e2
   exact⟨rfl,VU h1 j j' g.LJ g'.LJ g.dir g'.dir e⟩
def KJ (ns:List aO) (d:Nat->Nat):Prop:=∀i j,KI ns i j->d i<d (bY ns (bS ns i j).id)
theorem cA.uniq (h:cA ns):aaU ns ns.length:=VW h.nodup
theorem cA.deep (h:cA ns):∃d,KJ ns d:=by
 refine⟨λk=>Classical.choose (h.ends (nd ns k).id),λi j g=>?_⟩
 have hp:=zW (ns:=ns) (ag5 _) h.ah
 have hat:=(h.ah i g.lti j g.LJ).at_
 have htl:=mU hat
 have e1:=Classical.choose_spec (h.ends (nd ns i).id)
 have e2:=Classical.choose_spec (h.ends (nd ns (bY ns (bS ns i j).id)).id)
 show Classical.choose (h.ends (nd ns i).id)<Classical.choose (h.ends (nd ns (bY ns (bS ns i j).id)).id)
 generalize Classical.choose (h.ends (nd ns i).id)=x at e1 ⊢
 generalize Classical.choose (h.ends (nd ns (bY ns (bS ns i j).id)).id)=y at e2 ⊢
 cases hu:up ((jj ns ns.length).map (lf ns)) (nd ns (bY ns (bS ns i j).id)).id with
 |none=>
   have:=Rp hu
   exact agY (ahe.2 ⟨_,g.mem,rfl⟩) this
 |some z=>
   obtain⟨_,p,g1,g2,g3⟩:=Rq h.fI htl.1 (λp dI=>(hp p dI).1) hu
   obtain⟨a,b,ha,hb,hk,rfl⟩:=Dt.1 g1
   have g2:bY ns (bS ns a b).id=bY ns (bS ns i j).id:=g2
   obtain⟨rfl,rfl⟩:=h.uniq a b i j ⟨ha,hb,hk⟩ g ha g.lti g2
   have g3:z=(nd ns a).id:=g3
   cases y with
   |zero=>
     have e2:up _ _=none:=e2
     rw [hu] at e2;cases e2
   |succ y=>
     obtain⟨z',h1,h2⟩:=e2
     rw [hu] at h1
     cases h1
     rw [g3] at h2
     have:=e1.uniq h2
     show x<y+1
     omega
end
end
section
open Go.RowKit Go.Maps bK aF
structure kK (X:FM):Prop where
 cN:0<=X.cN/\X.cN<=4096
 cB:0<=X.cB/\X.cB<=1099511627776
 cH:0<=X.cH/\X.cH<=1024
 now:fZ X.cS X.cZ
def jU (n:aO):Nat:=n.id.toNat
def uX (n:aO):Th:=⟨jU n,n.kind⟩
def vQ (n:aO):bJ:=⟨n.id,n.mode,n.bg,n.bh,n.aU,n.aI,0,0,false,n.kind,n.data,n.target,[],none⟩
def M7:bJ:=⟨0,0,0,0,0,0,0,0,false,0,[],⟨#[]⟩,[],none⟩
def BG (X:FM):bB:=⟨{X with last:=0,ah:=0,used:=0},λ_=>M7,[],[],0⟩
def fT (S:bB) (n:aO):bB:={S with X:={S.X with last:=n.id,used:=S.X.used+n.data.length},O:=aZ S.O (jU n) (λ_=>vQ n),ar:=ins n.id (uX n) S.ar}
def qH (ns:List aO) (e:fD):Th:=uX (nd ns (bY ns e.id))
def rR (ns:List aO) (S:bB) (n:aO) (e:fD):bB:={S with X:={S.X with ah:=S.X.ah+1},O:=uw S.O (jU n) e.name (qH ns e)}
def fQ (ns:List aO):Nat->Nat
 |0=>0
 |k+1=>fQ ns k+(nd ns k).data.length
def Hz (ns:List aO):bE Th:=ns.map (λn=>(n.id,uX n))
structure wZ (X:FM) (ns:List aO) (k:Nat) (S:bB):Prop where
 inv:Inv0 S
 ar:S.ar=Hz (ns.take k)
 us:S.us=[]
 aJ:S.aJ=0
 cap:S.X={X with last:=qQ ns k,ah:=0,used:=(fQ ns k:Int)}
 ob:∀a,a<k->af S.O (jU (nd ns a))=vQ (nd ns a)
 free:∀x,(∀a,a<k->x≠jU (nd ns a))->af S.O x=M7
section base
variable {X:FM} {ns:List aO} {i j k a b:Nat} {S:bB}
theorem Jt (h:cA ns) (hk:k<ns.length):(jU (nd ns k):Int)=(nd ns k).id:=by
 have:=h.ids k hk
 unfold jU;omega
theorem zw (h:cA ns) (ha:a<ns.length) (hb:b<ns.length) (e:jU (nd ns a)=jU (nd ns b)):a=b:=
 h.fI.inj ha hb (by grind [Jt])
theorem EL (hk:k<ns.length):ns[k]?=some (nd ns k):=getD_some hk
theorem ab2 (hk:k<ns.length):ns.take (k+1)=ns.take k++[nd ns k]:=by
 rw [ahq,EL hk];rfl
theorem VX (hX:kK X):wZ X ns 0 (BG X):=by
 refine⟨?_,rfl,rfl,rfl,rfl,λa h=>agY h (ag2 a),λ_ _=>rfl⟩
 have hn:∀t,¬aT ([]:bE Th) t:=λt h=>by cases h
 exact⟨hX.cN,hX.cB,hX.cH,hX.now,by show (0:Int)<=0/\(0:Int)<=_;omega,.nil,ag0 _,λ_ _ e=>(by cases e),λt h=>agY h (hn t),λt h=>agY h (hn t),λt h=>agY h (hn t),λt h=>agY h (hn t),
  λ_ _=>⟨rfl,rfl⟩,λ_ _=>rfl,⟨rfl,by show (0:Int)<=8192;omega⟩,λt h=>agY h (hn t),λt h=>agY h (hn t),λt h=>agY h (hn t),.nil,λx hx=>(by cases hx),(by show ((0:Nat):Int)<=X.cH;have:=hX.cH;omega),⟨Int.le_refl _,hX.cH.1⟩,λ_ _ e=>(by cases e),λt h=>agY h (hn t),λt h=>agY h (hn t),⟨λ_=>0,λk d e=>(by cases e)⟩,⟨rfl,by show (0:Int)<=_;omega⟩⟩
theorem RP (h:cA ns) (hk:k<ns.length):∀x∈bn (Hz (ns.take k)),x<(nd ns k).id:=by
 intro x hx
 obtain⟨p,hp,rfl⟩:=ahe.1 hx
 obtain⟨n,hn,rfl⟩:=ahe.1 hp
 obtain⟨a,ha,e⟩:=ahA.1 hn
 rw [ahi] at ha
 rw [List.getElem_take] at e
 have e2:nd ns a=n:=by
  grind [EL,bn,Hz,nd]
 rw [←e2]
 exact h.fI a k zc hk
theorem LK (hd:∀i,i<ns.length->(nd ns i).data.length<=1048576) (hk:k<=ns.length):fQ ns k<=1048576*k:=by
 induction k with
 |zero=>exact ag5 _
 |succ k ih=>
   grind [fQ,nd]
theorem EM (h:cA ns) (hd:∀i,i<ns.length->(nd ns i).data.length<=1048576) (hk:k<ns.length) (hB:wZ X ns k S):wZ X ns (k+1) (fT S (nd ns k)):=by
 have hs:=LK hd (ah1 hk)
 have hn:=h.node k hk
 have hid:=Jt h hk
 have yC:=h.ids k hk
 have hu:S.X.used=(fQ ns k:Int):=by rw [hB.cap]
 have hl:S.X.last=qQ ns k:=by rw [hB.cap]
 have jv:=h.len
 have hdk:=hd k hk
 have agp:S.ar.length=k:=by
  rw [hB.ar];unfold Hz;rw [ahf,ahi];omega
 have h1:=hB.inv.newAt (k0:=jU (nd ns k)) (o:=vQ (nd ns k)) (sI:=S.X.used+(nd ns k).data.length) (us':=S.us) (lE:=S.aJ) (by rw [hid,hl];exact h.last hk) (by rw [hid];exact yC.2) ⟨rfl,by rw [hu];omega⟩ hid.symm
  (by have:=hn.kind;show (nd ns k).kind=1\/(nd ns k).kind=2\/(nd ns k).kind=3;omega) rfl rfl rfl rfl
  ⟨hn.mode,hn.bg,hn.bh,hn.time,λe=>ahC (hn.data e),λ_=>rfl,hn.target⟩ zc
  hB.inv.usr hB.inv.xQ hB.inv.Gm hB.inv.aJ (λh t e=>⟨.inl (hB.inv.us h t e).1,(hB.inv.us h t e).2⟩) (λ_ _=>rfl) (by rw [hB.us];rfl)
 rw [hid] at h1
 refine⟨h1,?_,hB.us,hB.aJ,?_,λa ha=>?_,λx hx=>(show af (aZ S.O (jU (nd ns k)) λ_=>vQ (nd ns k)) x=M7 from (iX (hx k (ahn k))).trans (hB.free x λa ha=>hx a (Nat.lt_succ_of_lt ha)))⟩
 ·show ins (nd ns k).id (uX (nd ns k)) S.ar=_
  rw [hB.ar,Oc (RP h hk),ab2 hk]
  unfold Hz;rw [ahv];rfl
 ·show ({S.X with last:=(nd ns k).id,used:=S.X.used+((nd ns k).data.length:Int)}:FM)=_
  rw [hu,hB.cap]
  show (⟨_,_,_,_,_,_,_,_⟩:FM)=⟨_,_,_,_,_,_,_,_⟩
  congr 1
 show af (aZ S.O (jU (nd ns k)) (λ_=>vQ (nd ns k))) (jU (nd ns a))=_
 rcases ag3.1 ha with e|e
 ·rw [iX (λe2=>by grind [zw])]
  exact hB.ob a e
 subst e;exact fA
theorem wZ.fresh (h:cA ns) (hk:k<ns.length) (hB:wZ X ns k S):Bn S.O S.ar S.us (jU (nd ns k)):=hB.inv.Ky (by rw [Jt h hk,hB.cap];exact h.last hk)
theorem wZ.new (h:cA ns) (hk:k<ns.length) (hB:wZ X ns k S):aF.get S.ar (nd ns k).id=none:=get_none.2 (λhm=>by
 rw [hB.ar] at hm
 exact agY (RP h hk _ hm) zc)
theorem HB (X:FM) (L:HL):(∀k,eM (BG X).O L k=eH.none)/\(∀k,dS (BG X).O L k=eH.none)/\∀k,gq (BG X).O L k=eH.none:=⟨λ_=>agW rfl,λ_=>agV (by show ¬(0:Int)=1;omega),λ_=>agV (by show ¬(0:Int)=2;omega)⟩
theorem aR.aeZ {β:Bs} {l l':List HP} {w:World} {i j b m c:Nat} {ix:List Nat} {O:d9} {L L':HL} {A:Option Addr} {o:bJ} (h:aR β l w) (hL:L'=L.put k b m A c) (hp:l[i]?=some (.abs (aY (dS O L)))) (hq:l[j]?=some (.abs (aH 5 1 A o.data.length c (dR o.data)))) (hd:cD (i::j::ix)=true) (hl:cW l ix=some l') (h1:o.kind=1):aR β (.abs (aY (dS (aZ O k (λ_=>o)) L'))::l') w:=by
 refine h.wW hp hq (λ_ _ h=>h) hd hl k (λx hx=>by rw [Es hx,FJ hL hx]) ?_
 grind [zX,fA,HL.put]
end base
theorem ab3 {O:d9} {L:HL} {d:Nat} {name:ByteArray} {t:Th}:dS (uw O d name t) L=dS O L:=
 Ad (λ_=>He (g:=bJ.data) (λ_ _=>rfl) (λ_ _=>rfl) (λ_ _=>rfl)) (λ_=>Eu)
def vD (ns:List aO) (i j a:Nat):Nat:=if a<i then (nd ns a).ah.length else if a=i then j else 0
def uD (ns:List aO) (a m:Nat):iW Th:=((nd ns a).ah.take m).map (λe=>(e.name,qH ns e))
structure kP (X:FM) (ns:List aO) (i j:Nat) (S:bB):Prop where
 inv:Inv0 S
 ar:S.ar=Hz ns
 us:S.us=[]
 aJ:S.aJ=0
 cap:S.X={X with last:=qQ ns ns.length,ah:=((dJ ns i+j:Nat):Int),used:=(fQ ns ns.length:Int)}
 ob:∀a,a<ns.length->∃l u,af S.O (jU (nd ns a))={vQ (nd ns a) with aV:=l,ah:=uD ns a (vD ns i j a),up:=u}
 free:∀x,(∀a,a<ns.length->x≠jU (nd ns a))->af S.O x=M7
section ah
variable {X:FM} {ns:List aO} {i j k a b m:Nat} {S:bB} {t:Th}
theorem wZ.ah (h:wZ X ns ns.length S):kP X ns 0 0 S:=by
 refine⟨h.inv,by rw [h.ar,ahF (ag5 _)],h.us,h.aJ,h.cap,λa ha=>⟨0,none,?_⟩,h.free⟩
 rw [h.ob a ha]
 have:vD ns 0 0 a=0:=by
  grind [vD]
 rw [this];rfl
theorem kP.get (h:kP X ns i j S) (ha:a<ns.length):aF.get S.ar (nd ns a).id=some (uX (nd ns a)):=by
 refine oC h.inv.fI ?_
 rw [h.ar]
 exact ahe.2 ⟨nd ns a,aht (EL ha),rfl⟩
theorem kP.live (hG:cA ns) (h:kP X ns i j S) (ha:a<ns.length):aT S.ar (uX (nd ns a)):=by
 have:=h.get ha
 rw [←Jt hG ha] at this
 exact this
theorem kP.of (h:kP X ns i j S) {x:Int} (e:aF.get S.ar x=some t):∃a,a<ns.length/\t=uX (nd ns a):=by
 have hm:=get_mem e
 rw [h.ar] at hm
 obtain⟨n,hn,e2⟩:=ahe.1 hm
 obtain⟨a,ha,e3⟩:=ahA.1 hn
 have e4:nd ns a=n:=by
  grind [EL,uX,nd]
 cases e2
 exact⟨a,ha,by rw [e4]⟩
theorem OO {es:List fD} {q:Nat} (hq:q<es.length):es[q]?=some (en es q):=getD_some hq
theorem Du {e:ByteArray×Th} (h:e∈uD ns a m):∃q,q<m/\q<(nd ns a).ah.length/\e.1=(bS ns a q).name/\e.2=qH ns (bS ns a q):=by
 obtain⟨x,hx,rfl⟩:=ahe.1 h
 obtain⟨q,hq,e⟩:=ahA.1 hx
 rw [ahi] at hq
 rw [List.getElem_take] at e
 have e2:bS ns a q=x:=by
  have:=OO (es:=(nd ns a).ah) (q:=q) zc
  grind [uD,nd,bS,qH]
 grind
theorem VY (hj:j<(nd ns i).ah.length):uD ns i (j+1)=uD ns i j++[((bS ns i j).name,qH ns (bS ns i j))]:=by
 unfold uD
 rw [ahq,OO hj,ahv];rfl
theorem KL (hG:cA ns) (hi:i<ns.length) {q:Nat}:∀{j},q<j->j<(nd ns i).ah.length->vl (bS ns i q).name (bS ns i j).name<0
 |0,h,_=>agY h (ag2 q)
 |j+1,h,hj=>by
   have h1:=Jc.1 (hG.ah i hi (j+1) hj).ord
   have h1:vl (bS ns i j).name (bS ns i (j+1)).name<0:=h1
   rcases ag3.1 h with e|e
   ·exact IB (KL hG hi e zc) (Int.le_of_lt h1)
   rw [e];exact h1
theorem YW (hG:cA ns) (hi:i<ns.length) (hj:j<(nd ns i).ah.length):bL (bS ns i j).name (uD ns i j)=none:=by
 refine Df.2 (λe he e1=>?_)
 obtain⟨q,h1,h2,h3,_⟩:=Du he
 have:=KL hG hi h1 hj
 grind [Lf,bS]
theorem LM {n:ByteArray}:∀{es:iW Th},(∀e∈es,vl e.1 n<0)->kO n t es=es++[(n,t)]
 |[],_=>rfl
 |e::r,h=>by
   have h1:=h e (ag7 ..)
   unfold kO
   rw [agV (λhc=>by grind [Jc,Ea]),LM (λx hx=>h x (ag6 _ hx))];rfl
theorem YX (hG:cA ns) (hi:i<ns.length) (hj:j<(nd ns i).ah.length):kO (bS ns i j).name (qH ns (bS ns i j)) (uD ns i j)=uD ns i (j+1):=by
 grind [VY,LM,Du,KL]
theorem Ap (hG:cA ns) (hi:i<ns.length) (hj:j<(nd ns i).ah.length):bY ns (bS ns i j).id<ns.length/\(nd ns (bY ns (bS ns i j).id)).id=(bS ns i j).id:=by
 have:=mU (hG.ah i hi j hj).at_
 exact⟨this.1,this.2.1⟩
theorem KM {O:d9} {d x:Nat} {name:ByteArray} (h:t.k≠d):af (uw O d name t) x=if x=d then {af O d with ah:=kO name t (af O d).ah} else if x=t.k then {af O x with aV:=(af O x).aV+1,up:=if t.kind=2 then some d else (af O x).up} else af O x:=by
 grind [aZ,kO,af,up,j8,uw]
theorem kP.afC (hG:cA ns) (h:kP X ns i j S) {d:Nat} (hd:aT S.ar ⟨d,2⟩) {n:ByteArray} (ha:a<ns.length) (hk:(nd ns a).kind=2) (hl:bL n (af S.O d).ah=some (uX (nd ns a))):∃b q,b<ns.length/\d=jU (nd ns b)/\KI ns b q/\bY ns (bS ns b q).id=a:=by
 obtain⟨b,hb,e⟩:=h.of hd
 have e:(⟨d,2⟩:Th)=⟨jU (nd ns b),(nd ns b).kind⟩:=e
 have e1:d=jU (nd ns b):=agX Th.k e
 subst e1
 obtain⟨l,u,ho⟩:=h.ob b hb
 have hm:=rE hl
 rw [ho] at hm
 obtain⟨q,h1,h2,_,h4⟩:=Du hm
 have ht:=Ap hG hb h2
 have h5:jU (nd ns a)=jU (nd ns (bY ns (bS ns b q).id)):=agX Th.k h4
 have h6:=zw hG ha ht.1 h5
 exact⟨b,q,hb,rfl,⟨hb,h2,by rw [←h6];exact hk⟩,h6.symm⟩
theorem kP.below (hG:cA ns) (h:kP X ns i j S) {dp:Nat->Nat} (hdp:KJ ns dp) {s k:Nat} (hb:su S.O s k):∀{a b},a<ns.length->k=jU (nd ns a)->b<ns.length->s=jU (nd ns b)->dp b<=dp a:=by
 induction hb with
 |here=>
   grind [zw]
 |up hup _ ih=>
   intro a b ha e1 hb e2
   subst e1
   have bW:=h.live hG ha
   obtain⟨h1,h2,n,h3⟩:=(h.inv.up _ bW _).1 hup
   obtain⟨c,q,hc,e3,hD,e4⟩:=h.afC hG h2 ha h1 h3
   grind [KJ,jU,nd]
theorem kP.aV (hG:cA ns) (h:kP X ns i j S) (hi:i<ns.length) (hj:j<(nd ns i).ah.length) (hk:(qH ns (bS ns i j)).kind=2):(af S.O (qH ns (bS ns i j)).k).aV=0:=by
 have ht:=Ap hG hi hj
 have bW:aT S.ar (qH ns (bS ns i j)):=h.live hG ht.1
 rw [h.inv.aV _ bW]
 cases hz:nw S.ar S.O (qH ns (bS ns i j)).k with
 |zero=>rfl
 |succ z=>
   exfalso
   obtain⟨x,u,hu,e,he,e1⟩:=I8 h.inv.fI (show 0<nw S.ar S.O (qH ns (bS ns i j)).k by omega)
   obtain⟨b,hb,rfl⟩:=h.of hu
   obtain⟨l,u,ho⟩:=h.ob b hb
   have he:e∈(af S.O (jU (nd ns b))).ah:=he
   rw [ho] at he
   obtain⟨q,h1,h2,_,h4⟩:=Du he
   have ht2:=Ap hG hb h2
   have h5:jU (nd ns (bY ns (bS ns b q).id))=jU (nd ns (bY ns (bS ns i j).id)):=by
    rw [h4] at e1;exact e1
   have h6:=zw hG ht2.1 ht.1 h5
   obtain⟨rfl,rfl⟩:=hG.uniq b q i j ⟨hb,h2,by rw [h6];exact hk⟩ ⟨hi,hj,hk⟩ hb hi h6
   grind [vD]
theorem kP.look (hG:cA ns) (h:kP X ns i j S) (hi:i<ns.length) (hj:j<(nd ns i).ah.length):(af S.O (jU (nd ns i))).ah=uD ns i j/\bL (bS ns i j).name (af S.O (jU (nd ns i))).ah=none/\(nd ns i).kind=2:=by
 obtain⟨l,u,ho⟩:=h.ob i hi
 have e1:(af S.O (jU (nd ns i))).ah=uD ns i j:=by
  grind [uD,vD]
 refine⟨e1,by rw [e1];exact YW hG hi hj,?_⟩
 cases Decidable.em ((nd ns i).kind=2) with
 |inl h=>exact h
 |inr h=>have:=(hG.node i hi).ah h;omega
theorem kP.aG (h:kP X ns i j S) (ha:a<ns.length):(af S.O (jU (nd ns a))).aG=false:=by
 obtain⟨l,u,ho⟩:=h.ob a ha
 rw [ho];rfl
theorem kP.ne (hG:cA ns) (hi:i<ns.length) (hj:j<(nd ns i).ah.length) (hk:(nd ns i).kind=2):(qH ns (bS ns i j)).k≠jU (nd ns i):=λe=>by
 have ht:=Ap hG hi hj
 have h1:=zw hG ht.1 hi e
 obtain⟨dp,hdp⟩:=hG.deep
 have:=hdp i j ⟨hi,hj,by rw [h1];exact hk⟩
 rw [h1] at this
 exact ahO _ this
theorem kP.step (hG:cA ns) (h:kP X ns i j S) (hi:i<ns.length) (hj:j<(nd ns i).ah.length):kP X ns i (j+1) (rR ns S (nd ns i) (bS ns i j)):=by
 obtain⟨l1,l2,l3⟩:=h.look hG hi hj
 have ht:=Ap hG hi hj
 have bX:=kP.ne hG hi hj l3
 have hld:aT S.ar ⟨jU (nd ns i),2⟩:=by
  have:=h.live hG hi
  unfold uX at this
  rw [l3] at this
  exact this
 have fU:aT S.ar (qH ns (bS ns i j)):=h.live hG ht.1
 have hX:S.X.ah=((dJ ns i+j:Nat):Int):=by rw [h.cap]
 have hsum:dJ ns i+j<8192:=by
  have h1:dJ ns (i+1)<=dJ ns ns.length:=qy hi
  have h2:dJ ns (i+1)=dJ ns i+(nd ns i).ah.length:=rfl
  have h3:=hG.sum
  omega
 have h1:=h.inv.put (O':=uw S.O (jU (nd ns i)) (bS ns i j).name (qH ns (bS ns i j))) (ta:=(af S.O (jU (nd ns i))).aU) (tb:=(af S.O (jU (nd ns i))).aI) hld (h.aG hi) l2 (hG.ah i hi j hj).good fU (h.aG ht.1) (λhk=>⟨h.aV hG hi hj hk,λhb=>by
  obtain⟨dp,hdp⟩:=hG.deep
  have h2:=h.below hG hdp hb hi rfl ht.1 rfl
  have h3:=hdp i j ⟨hi,hj,hk⟩
  omega⟩) bX (by rw [hX];omega) (h.inv.mt _ hld).time (λx=>KM bX)
 refine⟨h1,h.ar,h.us,h.aJ,?_,λa ha=>?_,λx hx=>(KM bX).trans (by rw [agV (hx i hi),agV (show ¬x=(qH ns (bS ns i j)).k from hx _ ht.1)];exact h.free x hx)⟩
 ·show ({S.X with ah:=S.X.ah+1}:FM)=_
  rw [hX,h.cap]
  show (⟨_,_,_,_,_,_,_,_⟩:FM)=⟨_,_,_,_,_,_,_,_⟩
  congr 1
 obtain⟨l,u,ho⟩:=h.ob a ha
 show ∃l u,af (uw S.O (jU (nd ns i)) (bS ns i j).name (qH ns (bS ns i j))) (jU (nd ns a))=_
 rw [KM bX]
 by_cases e:a=i
 ·subst e
  refine⟨l,u,?_⟩
  rw [agW rfl,l1,YX hG hi hj,ho]
  have hc:vD ns a (j+1) a=j+1:=by grind [vD]
  rw [hc]
 have hc:vD ns i (j+1) a=vD ns i j a:=by
  unfold vD;rw [agV e,agV e]
 rw [agV (λe2=>e (zw hG ha hi e2)),hc]
 split
 ·rw [ho];exact⟨_,_,rfl⟩
 exact⟨l,u,ho⟩
theorem kP.next (h:kP X ns i (nd ns i).ah.length S):kP X ns (i+1) 0 S:=by
 refine⟨h.inv,h.ar,h.us,h.aJ,h.cap,λa ha=>?_,h.free⟩
 obtain⟨l,u,ho⟩:=h.ob a ha
 grind [vD,nd]
theorem kP.full (h:kP X ns i j S):bR S:=by
 refine⟨h.inv,λt ht hg=>?_⟩
 obtain⟨a,ha,rfl⟩:=h.of ht
 have:(af S.O (jU (nd ns a))).aG=true:=hg
 rw [h.aG ha] at this
 cases this
theorem kP.graph (hG:cA ns) (h:kP X ns ns.length 0 S):aX S=ns:=by
 unfold aX
 rw [h.ar]
 unfold Hz
 rw [List.map_map]
 refine List.ext_getElem? (λa=>?_)
 rw [List.getElem?_map]
 by_cases ha:a<ns.length
 ·rw [EL ha]
  refine agX some ?_
  show jL S.O (nd ns a).id ⟨jU (nd ns a),(nd ns a).kind⟩=nd ns a
  unfold jL
  obtain⟨l,u,ho⟩:=h.ob a ha
  rw [ho]
  have he:(uD ns a (vD ns ns.length 0 a)).map (gy S.O)=(nd ns a).ah:=by
   unfold vD
   rw [agW ha]
   unfold uD
   rw [ahF (ag5 _),List.map_map]
   refine List.ext_getElem? (λq=>?_)
   rw [List.getElem?_map]
   by_cases hq:q<(nd ns a).ah.length
   ·rw [OO hq]
    refine agX some ?_
    have ht:=Ap hG ha hq
    obtain⟨l,u,ho⟩:=h.ob _ ht.1
    have e1:(af S.O (qH ns (en (nd ns a).ah q)).k).id=(en (nd ns a).ah q).id:=by
     show (af S.O (jU (nd ns (bY ns (bS ns a q).id)))).id=(bS ns a q).id
     rw [ho];exact ht.2
    show (⟨(en (nd ns a).ah q).name,(af S.O (qH ns (en (nd ns a).ah q)).k).id⟩:fD)=_
    rw [e1]
   rw [ahT zc];rfl
  show (⟨_,_,_,_,_,_,_,_,_,List.map (gy S.O) (uD ns a (vD ns ns.length 0 a))⟩:aO)=_
  rw [he]
  rfl
 rw [ahT zc];rfl
end ah
end
section
open Go.RowKit bK aF Go.Maps
theorem VZ {l:List Int} {j:Nat} (h:j<l.length):(bH l)[j]?=some (.int .i64 (l.getD j 0)):=by
 simp [bH,List.getD_eq_getElem?_getD,h]
theorem Ju {ks:List Int} (h:aF.dH ks) {i j:Nat} (hij:i<j) (hj:j<ks.length):ks.getD i 0<ks.getD j 0:=by
 have:=ahR.1 h i j zc hj hij
 grind
theorem BH {ks:List Int} {j:Nat} (h:j<ks.length):ks.getD j 0∈ks:=by
 grind
theorem lS.get {β:Bs} {A:Option Addr} {l:List Int} (h:cC β A (bH l)) {j:Nat} (hj:j<l.length):A=some ⟨bw A,br A,none⟩/\Rd β ⟨bw A,br A+j*1,none⟩ (.int .i64 (l.getD j 0)):=by
 have:=h j _ (VZ hj)
 rw [Nat.mul_one];exact this
theorem lS.hd {β:Bs} {A:Option Addr} {l:List Int} (h:cC β A (bH l)) {j:Nat} (hj:j<l.length):A=some ⟨bw A,br A,none⟩:=(lS.get h hj).1
theorem lS.rd {β:Bs} {A:Option Addr} {l:List Int} (h:cC β A (bH l)) {j:Nat} (hj:j<l.length):Rd β ⟨bw A,br A+j*1,none⟩ (.int .i64 (l.getD j 0)):=(lS.get h hj).2
def iV (us:bE Int):List Int:=us.map (·.2)
theorem mH (us:bE Int):(iV us).length=us.length:=by simp [iV]
theorem j5 {V:Type} (us:bE V):(bn us).length=us.length:=by simp [bn]
def tX:List Int->Int->Int
 |[],_=>-1
 |k::r,h=>if k=h then 0 else if tX r h<0 then -1 else tX r h+1
theorem OQ {ks:List Int} {h:Int}:(∀j,j<ks.length->¬ks.getD j 0=h)->tX ks h = -1:=by
 induction ks with
 |nil=>intro _;rfl
 |cons k r ih=>
   intro hn
   have h0:¬k=h:=hn 0 agU
   have:=ih (λj hj=>by have:=hn (j+1) (by simpa using hj);simpa using this)
   rw [tX,agV h0,this];rfl
theorem V0:∀{ks:List Int} {h:Int} {i:Nat},i<ks.length->ks.getD i 0=h->(∀j,j<i->¬ks.getD j 0=h)->tX ks h=i
 |k::r,h,0,_,e,_=>by
   have e:k=h:=e
   rw [tX,agW e];rfl
 |k::r,h,i+1,hi,e,hn=>by
   have h0:¬k=h:=hn 0 zc
   have:=V0 (ks:=r) (h:=h) (i:=i) (by simpa using hi) (by simpa using e) (λj hj=>Pe)
   rw [tX,agV h0,this,agV zc]
   omega
theorem RQ {ks:List Int} {h:Int} (hm:h∈ks):∃i:Nat,tX ks h=i/\i<ks.length/\ks.getD i 0=h:=by
 induction ks with
 |nil=>cases hm
 |cons k r ih=>
   by_cases e:k=h
   ·exact⟨0,by rw [tX,agW e];rfl,agU,e⟩
   rcases aha.1 hm with e2|hm
   ·exact agY e2.symm e
   obtain⟨i,h1,h2,h3⟩:=ih hm
   exact⟨i+1,by grind [tX],by simpa using h2,by simpa using h3⟩
theorem RR {ks:List Int} {h:Int} (hm:h∉ks):tX ks h = -1:=OQ (λ_ hj e=>hm (e ▸ BH hj))
theorem RV {ks:List Int} {h:Int}:0<=tX ks h↔h∈ks:=by
 grind [RQ,RR]
theorem sV:∀(ks:List Int) (h:Int),lP h ks<=h+ks.length
 |[],h=>by simp [lP]
 |k::r,h=>by
   rw [lP]
   split
   ·have:=sV r (h+1);simp only [ahw];omega
   simp only [ahw];omega
theorem least_le {V:Type} (us:bE V):aF.aS us<=1+us.length:=by
 have:=sV (bn us) 1
 rw [j5] at this
 exact this
theorem TP {V:Type} {us:bE V} (hr:aF.dH (bn us)) (hp:∀x∈bn us,1<=x):1<=aF.aS us/\aF.aS us∉bn us/\∀x,1<=x->x<aF.aS us->x∈bn us:=qU (bn us) 1 hr hp
section ins
variable {h v:Int}
theorem OU:∀{l:bE Int},(∀p∈l,¬h<p.1)->ins h v l=l++[(h,v)]
 |[],_=>rfl
 |p::r,hn=>by
   rw [ins,agV (hn p (ag7 ..)),OU (λq hq=>hn q (ag6 _ hq))];rfl
theorem LO:∀{l:bE Int} {x:Int×Int},(∀p∈l,¬h<p.1)->h<x.1->ins h v (l++[x])=l++[(h,v),x]
 |[],x,_,hx=>by grind [ins]
 |p::r,x,hn,hx=>by
   rw [ahB,ins,agV (hn p (ag7 ..)),LO (λq hq=>hn q (ag6 _ hq)) hx];rfl
theorem OV:∀{l:bE Int} {x:Int×Int},(∃p∈l,h<p.1)->ins h v (l++[x])=ins h v l++[x]
 |[],_,hd=>by obtain⟨p,hp,_⟩:=hd;cases hp
 |p::r,x,hd=>by
   rw [ahB,ins,ins]
   split
   ·rfl
   rename_i hp
   obtain⟨q,hq,fU⟩:=hd
   rcases aha.1 hq with e|hq
   ·exact agY (e ▸ fU) hp
   rw [OV ⟨q,hq,fU⟩];rfl
end ins
def pr (us:bE Int) (i:Nat):Int×Int:=us.getD i (0,0)
theorem zx {us:bE Int} {i:Nat} (hi:i<us.length):us.take (i+1)=us.take i++[pr us i]:=by
 rw [ahq]
 grind [pr]
theorem zy {us:bE Int} {i:Nat} (hi:i<us.length):(bn us).getD i 0=(pr us i).1/\(iV us).getD i 0=(pr us i).2:=by
 grind [bn,iV,pr]
structure lT (us:bE Int) (h v:Int) (i:Nat) (d:Bool) (q:bE Int):Prop where
 yes:d=true->(∃p∈us.take i,h<p.1)/\q=ins h v (us.take i)
 no:d=false->(∀p∈us.take i,¬h<p.1)/\q=us.take i
 len:q.length=i+(if d then 1 else 0)
section put
variable {us q:bE Int} {h v:Int} {i:Nat} {d:Bool}
theorem lT.zero:lT us h v 0 false []:=⟨λe=>(by cases e),λ_=>⟨λp hp=>(by simp at hp),agU⟩,rfl⟩
theorem lT.hit (hp:lT us h v i false q) (hi:i<us.length) (hk:h<(pr us i).1):lT us h v (i+1) true (q++[(h,v)]++[pr us i]):=by
 obtain⟨h1,rfl⟩:=hp.no rfl
 refine⟨λ_=>⟨⟨pr us i,by rw [zx hi];simp,hk⟩,by rw [zx hi,LO h1 hk];simp⟩,λe=>(by cases e),?_⟩
 simp
 omega
theorem lT.miss (hp:lT us h v i false q) (hi:i<us.length) (hk:¬h<(pr us i).1):lT us h v (i+1) false (q++[pr us i]):=by
 obtain⟨h1,rfl⟩:=hp.no rfl
 refine⟨λe=>(by cases e),λ_=>⟨λp hpm=>?_,(zx hi).symm⟩,by simp;omega⟩
 grind [zx]
theorem lT.more (hp:lT us h v i true q) (hi:i<us.length):lT us h v (i+1) true (q++[pr us i]):=by
 obtain⟨⟨p,h1,h2⟩,rfl⟩:=hp.yes rfl
 refine⟨λ_=>⟨⟨p,Pe,h2⟩,by grind [zx,OV]⟩,λe=>(by cases e),?_⟩
 have:=hp.len
 simp at this ⊢
 omega
theorem lT.last (hp:lT us h v us.length false q):q++[(h,v)]=ins h v us:=by
 obtain⟨h1,rfl⟩:=hp.no rfl
 grind [OU]
theorem lT.end_ (hp:lT us h v us.length true q):q=ins h v us:=by
 obtain⟨_,rfl⟩:=hp.yes rfl
 rw [ahl]
end put
theorem YZ (q:bE Int) (x:Int×Int):iV (q++[x])=iV q++[x.2]:=by simp [iV]
theorem LA (q:bE Int) (x:Int×Int):bn (q++[x])=bn q++[x.1]:=by simp [bn]
theorem OW {us:bE Int} {h:Int} {i:Nat} (hi:i<us.length):del h (us.take (i+1))=if (pr us i).1=h then del h (us.take i) else del h (us.take i)++[pr us i]:=by
 grind [zx,del,pr]
theorem TQ {us:bE Int} {h:Int}:(del h us).length<=us.length:=ahI ..
theorem Jv {us:bE Int} (hr:aF.dH (bn us)) {i j:Nat} (hi:i<us.length) (hj:j<us.length) (e:(pr us i).1=(pr us j).1):i=j:=by
 rw [←(zy hi).1,←(zy hj).1] at e
 rcases ahK i j with h|h|h
 ·have:=Ju hr h (by rw [j5];exact hj);omega
 ·exact h
 have:=Ju hr h (by rw [j5];exact hi);omega
theorem ads {us:bE Int} (hr:aF.dH (bn us)) {i:Nat} (hi:i<us.length) {h:Int} (e:(pr us i).1=h):aF.get us h=some (pr us i).2:=by
 have hm:pr us i∈us:=by grind [pr]
 unfold aF.get
 cases hf:us.find? (λp=>p.1 == h) with
 |none=>
   grind
 |some p=>
   have h1:=List.mem_of_find?_eq_some hf
   have h2:=List.find?_some hf
   obtain⟨j,hj,rfl⟩:=ahG h1
   grind [pr,Jv]
end
section
open Go.RowKit Go.Maps bK aF
noncomputable section
structure RS where
 ns:List aO
 aG:List Int
 us:bE Int
 aJ:Int
 cN:Int
 cB:Int
 cH:Int
 cS:Int
 cZ:Int
 last:Int
def mM (name:ByteArray) (id:Int):List fD->List fD
 |[]=>[⟨name,id⟩]
 |e::r=>if ¬jy e.name name then ⟨name,id⟩::e::r else e::mM name id r
def rS (name:ByteArray) (es:List fD):List fD:=es.filter (λe=>decide (e.name≠name))
def nG (s z:Int) (ns:List aO) (d:Nat) (es:List fD):List aO:=ns.set d {nd ns d with ah:=es,aU:=s,aI:=z}
def bV (ns:List aO) (d:Nat) (name:ByteArray):Int:=match BF (nd ns d).ah name with|none=>-1|some j=>gI ns (en (nd ns d).ah j).id
def tY (ns:List aO) (id:Int):Int:=(nK ns id ns.length:Int)
def q4 (name:ByteArray):List fD->Int->Int
 |[],z=>z
 |e::r,z=>q4 name r (if e.name=name then e.id else z)
variable (R:RS)
def iD (h:Int):Except Int Nat:=match aF.get R.us h with|none=>.error 131|some id=>.ok (bY R.ns id)
def ic (h:Int) (name:ByteArray) (dZ:Int):Except Int Nat:=
 match iD R h with
 |.error e=>.error e
 |.ok d=>
   if (nd R.ns d).kind=2 then
    if (nd R.ns d).id∈R.aG then .error 170
    else if cq name then if bits BinOp.and .i64 (nd R.ns d).mode dZ=dZ then .ok d else .error 175
    else .error 95
   else .error 173
def dh (d:Nat) (name:ByteArray) (id:Int):RS:={R with ns:=nG R.cS R.cZ R.ns d (mM name id (nd R.ns d).ah)}
def cX (d:Nat) (name:ByteArray) (free:Bool):RS:=
 let ns:=nG R.cS R.cZ R.ns d (rS name (nd R.ns d).ah)
 let id:=q4 name (nd R.ns d).ah 0
 {R with ns:=ns,aG:=if free=true/\tY ns id=0 then R.aG++[id] else R.aG}
def rU (n:aO):Bool:=decide (n.id∈R.aG->n.id∈iV R.us)
def gh:RS:={R with ns:=R.ns.filter (rU R),aG:=((R.ns.filter (rU R)).filter (λn=>decide (n.id∈R.aG))).map aO.id}
def jV (d:Nat) (name:ByteArray) (n:aO):RS:=
 let id:=R.last+1
 let R1:=dh {R with last:=id} d name id
 {R1 with ns:=R1.ns++[{n with id:=id,aU:=R.cS,aI:=R.cZ}]}
def vE:Prop:=(R.ns.length:Int)<R.cN/\R.last<1099511627776/\(dJ R.ns R.ns.length:Int)<8192
instance:Decidable (vE R):=inferInstanceAs (Decidable (_/\_/\_))
abbrev wz:=RS×Int×Int
def kV (k:Nat):wz:=
 if (R.us.length:Int)<R.cH then ({R with us:=ins (aS R.us) (nd R.ns k).id R.us,aJ:=max R.aJ ((R.us.length:Int)+1)},aS R.us,0) else (R,0,130)
def jO (k:Nat) (bs:List UInt8):wz:=
 if bs=[] then (R,0,0)
 else if R.cB-(fQ R.ns R.ns.length:Int)<=0 then (R,0,176)
 else
  let n:=(min (bs.length:Int) (R.cB-(fQ R.ns R.ns.length:Int))).toNat
  ({R with ns:=R.ns.set k {nd R.ns k with data:=(nd R.ns k).data++bs.take n,aU:=R.cS,aI:=R.cZ}},(n:Int),0)
def bP (d:Nat) (name:ByteArray) (n:aO):RS×Int:=
 if n.kind=3/\kW n.target≠0 then (R,kW n.target)
 else if 0<=bV R.ns d name then (R,171)
 else if vE R then (jV R d name n,0) else (R,177)
def iE (d:Nat) (name:ByteArray) (dir:Bool):RS×Int:=
 if 0<=bV R.ns d name then
  let k:=(bV R.ns d name).toNat
  if dir=false/\(nd R.ns k).kind=2 then (R,172)
  else if dir=true/\(nd R.ns k).kind≠2 then (R,173)
  else if dir=true/\0<(nd R.ns k).ah.length then (R,178)
  else (gh (cX R d name true),0)
 else (R,170)
def oG (ns:List aO) (id:Int):Nat->Int
 |0=>-1
 |i+1=>if 0<iR (nd ns i).ah id (nd ns i).ah.length then (i:Int) else oG ns id i
def jE (ns:List aO) (top:Nat):Nat->Nat->Bool
 |0,_=>false
 |k+1,d=>if d=top then true else if oG ns (nd ns d).id ns.length<0 then false else jE ns top k (oG ns (nd ns d).id ns.length).toNat
def gY (f:Nat) (name:ByteArray) (to:Nat) (ay:ByteArray):RS×Int:=
 if 0<=bV R.ns f name then
  let k:=(bV R.ns f name).toNat
  if (nd R.ns k).kind=2/\jE R.ns k (R.ns.length+1) to=true then (R,174)
  else if bV R.ns to ay=(k:Int) then (R,0)
  else if 0<=bV R.ns to ay then
   if (nd R.ns (bV R.ns to ay).toNat).kind=2 then (R,172)
   else if (nd R.ns k).kind=2 then (R,173)
   else (gh (dh (cX (cX R to ay true) f name false) to ay (nd R.ns k).id),0)
  else (gh (dh (cX R f name false) to ay (nd R.ns k).id),0)
 else (R,170)
def jh (c:aN) (want:Int):wz:=
 match ic R c.aL c.name 64 with
 |.error e=>(R,0,e)
 |.ok d=>
   if 0<=bV R.ns d c.name then
    let k:=(bV R.ns d c.name).toNat
    if (nd R.ns k).kind=3 then (R,0,174)
    else if (nd R.ns k).kind≠want then (R,0,if (nd R.ns k).kind=1 then 173 else 172)
    else kV R k
   else (R,0,170)
def qC (c:aN) (dZ:Int):Except Int (Nat×Nat):=
 match ic R c.aL c.name dZ with
 |.error e=>.error e
 |.ok f=>match ic R c.other c.text 192 with
   |.error e=>.error e
   |.ok to=>.ok (f,to)
def mo (c:aN):wz:=
 match iD R c.aL with
 |.error e=>(R,0,e)
 |.ok k=>
   if (nd R.ns k).kind=2/\(nd R.ns k).id∈R.aG then (R,0,170)
   else if jS c.mode then
    if qm c.bg/\qm c.bh then
     if fZ c.aU c.aI then ({R with ns:=R.ns.set k {nd R.ns k with mode:=c.mode,bg:=c.bg,bh:=c.bh,aU:=c.aU,aI:=c.aI}},0,0)
     else (R,0,20)
    else (R,0,11)
   else (R,0,120)
def iF (c:aN) (d:Nat):wz:=
 if c.op=8\/c.op=14 then ((iE R d c.name (decide (c.op=14))).1,0,(iE R d c.name (decide (c.op=14))).2)
 else if c.op=6 then ((bP R d c.name ⟨0,3,511,0,0,0,0,[],c.text,[]⟩).1,0,(bP R d c.name ⟨0,3,511,0,0,0,0,[],c.text,[]⟩).2)
 else if jS c.mode then
  if c.op=5 then
   let m:=bP R d c.name ⟨0,1,c.mode,0,0,0,0,[],⟨#[]⟩,[]⟩
   if m.2=0 then kV m.1 (m.1.ns.length-1) else (m.1,0,m.2)
  else ((bP R d c.name ⟨0,2,c.mode,0,0,0,0,[],⟨#[]⟩,[]⟩).1,0,(bP R d c.name ⟨0,2,c.mode,0,0,0,0,[],⟨#[]⟩,[]⟩).2)
 else (R,0,120)
def vF (c:aN):wz:=
 match qC R c 64 with
 |.error e=>(R,0,e)
 |.ok (f,to)=>
   if 0<=bV R.ns f c.name then
    if (nd R.ns (bV R.ns f c.name).toNat).kind=2 then (R,0,172)
    else if 0<=bV R.ns to c.text then (R,0,171)
    else if (dJ R.ns R.ns.length:Int)<8192 then (dh R to c.text (nd R.ns (bV R.ns f c.name).toNat).id,0,0)
    else (R,0,177)
   else (R,0,170)
def cu (c:aN):wz:=
 if c.op=1 then
  if 0<=gI R.ns c.other then if (nd R.ns (bY R.ns c.other)).kind=2 then kV R (bY R.ns c.other) else (R,0,173)
  else (R,0,141)
 else if c.op=2 then jh R c 2
 else if c.op=3 then jh R c 1
 else if c.op=4\/c.op=5\/c.op=6\/c.op=8\/c.op=14 then
  match ic R c.aL c.name 192 with
  |.error e=>(R,0,e)
  |.ok d=>iF R c d
 else if c.op=7 then vF R c
 else if c.op=9 then
  match iD R c.aL with
  |.error e=>(R,0,e)
  |.ok k=>if (nd R.ns k).kind=2 then (R,0,172) else jO R k c.data
 else if c.op=10 then mo R c
 else if c.op=13 then
  if c.aL∈bn R.us then (gh {R with us:=del c.aL R.us},0,0) else (gh R,0,131)
 else if c.op=15 then
  match qC R c 192 with
  |.error e=>(R,0,e)
  |.ok (f,to)=>((gY R f c.name to c.text).1,0,(gY R f c.name to c.text).2)
 else (R,0,230)
def FP (c:aN) (k:Nat):aN:={c with answer:=(nd R.ns k).id,other:=(nd R.ns k).kind,mode:=(nd R.ns k).mode,bg:=(nd R.ns k).bg,bh:=(nd R.ns k).bh,aU:=(nd R.ns k).aU,aI:=(nd R.ns k).aI,code:=0}
def Jw (c:aN) (e:Int):aN:={c with answer:=0,other:=0,mode:=0,bg:=0,bh:=0,aU:=0,aI:=0,code:=e}
def qL (c:aN):aN:=
 if c.op=12 then
  match ic R c.aL c.name 64 with
  |.error e=>Jw c e
  |.ok d=>if 0<=bV R.ns d c.name then FP R c (bV R.ns d c.name).toNat else Jw c 170
 else match iD R c.aL with
  |.error e=>Jw c e
  |.ok k=>FP R c k
def tH (c:aN):RS×aN:=
 if c.op=11\/c.op=12 then (R,qL R c)
 else if (cu R c).2.2=0 then ((cu R c).1,{c with answer:=(cu R c).2.1,code:=0}) else (R,{c with answer:=0,code:=(cu R c).2.2})
end
structure RL where
 A:Option Addr
 c:Nat
 L:eV
 G:Option Addr
 cg:Nat
 H:Option Addr
 ch:Nat
 V:Option Addr
 cv:Nat
def rV (R:RS) (Y:RL):List Value:=[.slice Y.A R.ns.length Y.c,.slice Y.G R.aG.length Y.cg,.int .i64 R.cH,.int .i64 R.aJ,.slice Y.H R.us.length Y.ch,.slice Y.V R.us.length Y.cv,.int .i64 R.cN,.int .i64 R.cB,.int .i64 R.cH,.int .i64 R.cS,.int .i64 R.cZ,.int .i64 R.last]
abbrev fX (c:aN) (A:Option Addr) (p:Nat):aN:={c with dA:=A,dC:=p}
def rW (R:RS) (A:Option Addr) (c:Nat) (G:Option Addr) (cg:Nat) (H:Option Addr) (ch:Nat) (V:Option Addr) (cv:Nat):List Value:=rV R ⟨A,c,⟨λ_=>none,λ_=>none,λ_=>0,λ_=>0⟩,G,cg,H,ch,V,cv⟩
def rZ:List Value:=[.slice none 0 0,.slice none 0 0,.int .i64 0,.int .i64 0,.slice none 0 0,.slice none 0 0,.int .i64 0,.int .i64 0,.int .i64 0,.int .i64 0,.int .i64 0,.int .i64 0]
structure RowsAt (β:Bs) (R:RS) (Y:RL):Prop where
 g:cC β Y.G (bH R.aG)
 h:cC β Y.H (bH (bn R.us))
 v:cC β Y.V (bH (iV R.us))
structure dz (β:Bs) (R:RS) (Y:RL):Prop extends RowsAt β R Y where
 n:aP β Y.A R.ns Y.L
structure RB (R:RS):Prop where
 ns:R.ns.length<=4097
 aG:R.aG.length<=8200
 us:R.us.length<=1024
 ah:dJ R.ns R.ns.length<=8200
 dat:fQ R.ns R.ns.length<=140737488355328
structure RC (R:RS):Prop extends RB R where
 fI:dH R.ns
 hand:∀id∈iV R.us,0<=gI R.ns id
 kind:∀i,i<R.ns.length->(nd R.ns i).kind=1\/(nd R.ns i).kind=2\/(nd R.ns i).kind=3
 cap:0<=R.cN/\R.cN<=4096/\0<=R.cB/\R.cB<=1099511627776/\0<=R.cH/\R.cH<=1024/\0<=R.last/\R.last<=1099511627776/\0<=R.aJ/\R.aJ<=R.cH
 usr:aF.dH (bn R.us)
 xQ:∀z∈bn R.us,1<=z
 Gm:(R.us.length:Int)<=R.cH
section d
variable {β β':Bs} {R:RS} {Y:RL} {i:Nat}
theorem RowsAt.le (h:RowsAt β R Y) (dU:β.le β'):RowsAt β' R Y:=⟨h.g.le dU,h.h.le dU,h.v.le dU⟩
theorem dz.le (h:dz β R Y) (dU:β.le β'):dz β' R Y:=⟨h.toRowsAt.le dU,h.n.le dU⟩
theorem RB.row (h:RB R) (hi:i<R.ns.length):(nd R.ns i).ah.length<=8200:=by
 have h1:=qy (ns:=R.ns) (show i+1<=R.ns.length by omega)
 have h2:=h.ah
 grind [dJ,nd]
end d
section l
variable {ns:List aO} {es:List fD} {name:ByteArray} {id:Int} {i j d top k:Nat} {R:RS} {l:List Int}
theorem V1 (hj:j<es.length) (e:(en es j).name=name) (iP:∀q,q<j->¬(en es q).name=name):BF es name=some j:=by
 unfold BF
 rw [ahE]
 have hg:∀k (hk:k<es.length),en es k=es[k]:=λk hk=>by
  grind [en]
 grind
theorem V3 (hj:j<(nd ns d).ah.length) (e:(en (nd ns d).ah j).name=name) (iP:∀q,q<j->¬(en (nd ns d).ah q).name=name):gI ns (en (nd ns d).ah j).id=bV ns d name:=by
 unfold bV;rw [V1 hj e iP]
theorem TR (iP:∀q,q<(nd ns d).ah.length->¬(en (nd ns d).ah q).name=name):(-1:Int)=bV ns d name:=by
 unfold bV;rw [TM iP]
theorem ab4 (hj:j<l.length) (e:l.getD j 0=id):true=decide (id∈l):=by
 grind
theorem Y0 (iP:∀q,q<l.length->¬l.getD q 0=id):false=decide (id∈l):=by
 refine (agZ (λh=>?_)).symm
 obtain⟨j,hj,e⟩:=ahG h
 grind
def BI (ns:List aO) (id:Int) (i j:Nat):Int:=if 0<iR (nd ns i).ah id j then (i:Int) else oG ns id i
theorem Y4:oG ns id i=BI ns id i 0:=by unfold BI;rw [agV (by unfold iR;omega)]
theorem ab5:BI ns id i (nd ns i).ah.length=oG ns id (i+1):=rfl
theorem ab6 (e:(en (nd ns i).ah j).id=id):(i:Int)=BI ns id i (j+1):=by unfold BI;rw [agW (by have:=Js e;omega)]
theorem Y6 (e:¬(en (nd ns i).ah j).id=id):BI ns id i j=BI ns id i (j+1):=by unfold BI;rw [Gv e]
theorem V4:∀n:Nat,-1<=oG ns id n/\oG ns id n<n
 |0=>⟨by unfold oG;omega,by unfold oG;omega⟩
 |n+1=>by
   have:=V4 n
   unfold oG
   split<;>omega
theorem V5:jE ns d (k+1) d=true:=by unfold jE;rw [agW rfl]
theorem TS (h:¬d=top) (hu:oG ns (nd ns d).id ns.length<0):jE ns top (k+1) d=false:=by unfold jE;rw [agV h,agW hu]
theorem Y7 (h:¬d=top) (hu:¬oG ns (nd ns d).id ns.length<0):jE ns top (k+1) d=jE ns top k (oG ns (nd ns d).id ns.length).toNat:=by
 grind [jE]
end l
theorem OX {V:Type} {g:Int×V->Nat}:∀{a b:bE V},gP g (a++b)=gP g a+gP g b
 |[],b=>(ahd _).symm
 |p::r,b=>by
   show g p+gP g (r++b)=g p+gP g r+gP g b
   rw [OX];omega
theorem QL {ns:List aO} {i j:Nat} (h:i<=j):fQ ns i<=fQ ns j:=by
 induction j with
 |zero=>rw [Nat.le_zero.1 h];exact ag5 _
 |succ j ih=>
   grind [fQ]
theorem Jx {ns:List aO} {i:Nat} (h:i<=ns.length):fQ ns i<=fQ ns ns.length:=QL h
section at_
variable {S:bB} {i j:Nat}
theorem pu (hi:i<S.ar.length):nd (aX S) i=jL S.O (gH S i) (jl S i):=by
 grind [nd,aX,x5]
theorem adt {t:Th} (hl:aT S.ar t):∃i,i<S.ar.length/\jl S i=t/\gH S i=(t.k:Int):=by
 obtain⟨i,hi,e⟩:=ahG (get_mem hl)
 have h1:=x5 hi
 grind
theorem BJ (f:bJ->Nat) (s:List aO->Nat->Nat) (h0:∀ns,s ns 0=0) (hs:∀k,k<S.ar.length->s (aX S) (k+1)=s (aX S) k+f (af S.O (jl S k).k)):∀k,k<=S.ar.length->s (aX S) k=gP (λp=>f (af S.O p.2.k)) (S.ar.take k)
 |0,_=>by rw [h0];rfl
 |k+1,hk=>by
   rw [hs k hk,BJ f s h0 hs k zc,ahq,x5 hk,OX]
   rfl
theorem OY:fQ (aX S) S.ar.length=bytes S.ar S.O:=by
 have h:=BJ (S:=S) (λo=>o.data.length) fQ (λ_=>rfl) (λk hk=>by show fQ (aX S) k+_=_;rw [pu hk];rfl) S.ar.length (ag5 _)
 rw [ahl] at h
 exact h
theorem EN:dJ (aX S) S.ar.length=tot S.ar S.O:=by
 have h:=BJ (S:=S) (λo=>o.ah.length) dJ (λ_=>rfl) (λk hk=>by
  show dJ (aX S) k+_=_
  rw [pu hk]
  show _+((af S.O (jl S k).k).ah.map _).length=_
  rw [ahf]) S.ar.length (ag5 _)
 rw [ahl] at h
 exact h
end at_
end
section
open Go.RowKit bK aF Go.Maps
section bH
variable {β:Bs} {A:Option Addr} {l:List Int} {j:Nat}
theorem xg.get (h:cC β A (bH l)) (hj:j<l.length):A=some ⟨bw A,br A,none⟩/\Rd β ⟨bw A,br A+j*1,none⟩ (.int .i64 (l.getD j 0)):=by
 grind [bH,cC,bw,br,Rd]
theorem xg.hd (h:cC β A (bH l)) (hj:j<l.length):A=some ⟨bw A,br A,none⟩:=(xg.get h hj).1
theorem xg.rd (h:cC β A (bH l)) (hj:j<l.length):Rd β ⟨bw A,br A+j*1,none⟩ (.int .i64 (l.getD j 0)):=(xg.get h hj).2
end bH
end
section
open Go.RowKit Go.Maps bK aF
attribute [local irreducible] av bN aq aB fN
theorem wC {β:Bs} (Z:RS) (Y:RL) (hR:dz β Z Y) (hB:RB Z) (id:Int) :
 aW Tryz.prog β 98 #[.agg ⟨rV Z Y⟩,vI (id)] [] (λv l=>v=.bool (decide (id∈Z.aG))/\l=[]):=by
 refine SE Tryz.func98 Tryz.ntmps98 (λR=>SR (jB 2 [2] (λb1=>.aD b1 (rV Z Y) 45) (λb1=>NZ (jK 1 [5] [] (NN (aq.block (lJ (λ(i:Nat)=>(i<=Z.aG.length)/\(∀q,q<i->¬Z.aG.getD q 0=id)) (λ(i:Nat)=>Z.aG.length-i) (λ(i:Nat)=>[(1,vI (id)),(2,vP b1),(5,vI ↑i)]) (λ(i:Nat)=>[.abs R,.aD b1 (rV Z Y) 45]) 0 [0,1] (⟨ag0 _,λq hq=>agY hq (ag2 q)⟩) ?_)))))))
 rintro i ⟨hi,iP⟩
 have hbg:=hB.aG
 exact SQ (jK 5 [10] [(2,a_ 1 b1)] (NN (cP ((((i:Nat):Int):Int)<(((Z.aG.length:Nat):Int):Int)) (λh10=>KX (aq.seq (aq.block (SR (jK 7 [19] [(1,a_ 1 b1),(3,x_ i Z.aG.length (xg.hd (l:=Z.aG) hR.g (j:=i) Pe)),(4,r_ (xg.rd (l:=Z.aG) hR.g (j:=i) Pe))] (NN (cP (((Z.aG.getD i 0):Int)=(id:Int)) (λhhit=>zR ⟨agX Value.bool (ab4 (j:=i) zc hhit),rfl⟩) (λhhit=>KX (aq.region (jK 3 [5] [(1,wJ ((i:Int)+1) (↑(i+1)))] (NL (tJ ((i+1)) [0,1] (⟨zc,λq hq=>Pe⟩))))))))))))) (λh10=>XX (zR ⟨agX Value.bool (Y0 (λq hq=>iP q zc)),rfl⟩)))))
theorem Y8 {β:Bs} (Z:RS) (Y:RL) (hR:dz β Z Y) (hB:RB Z) :
 aW Tryz.prog β 104 #[.agg ⟨rV Z Y⟩] [] (λv l=>v=vI ((fQ Z.ns Z.ns.length:Nat):Int)/\l=[]):=by
 refine SE Tryz.func104 Tryz.ntmps104 (λR=>SR (jB 2 [1] (λb2=>.aD b2 (rV Z Y) 45) (λb2=>NS (jK 1 [3] [] (NZ (jK 1 [4] [] (NN (aq.block (lJ (λ(i:Nat)=>(i<=Z.ns.length)) (λ(i:Nat)=>Z.ns.length-i) (λ(i:Nat)=>[(1,vP b2),(3,vI ↑(fQ Z.ns i)),(4,vI ↑i)]) (λ(i:Nat)=>[.abs R,.aD b2 (rV Z Y) 45]) 0 [0,1] (ag0 _) ?_)))))))))
 rintro i hi
 have hbn:=hB.ns
 have hbd:=hB.dat
 have hdt:=Jx (ns:=Z.ns) (i:=i) hi
 exact SQ (jK 6 [10] [(3,a_ 1 b2)] (NN (cP ((((i:Nat):Int):Int)<(((Z.ns.length:Nat):Int):Int)) (λh10=>KX (aq.seq (aq.block (aq.region (jK 11 [3] [(3,a_ 1 b2),(5,x_ i Z.ns.length (aP.hd hR.n (i:=i) zc)),(7,r_ (aP.rd hR.n (i:=i) zc (j:=7) rfl)),(9,w_ (.int .i64 ↑(fQ Z.ns (i+1))) (vg (Int.natCast_add _ _).symm zc (by grind [Jx])))] (LX (aq.region (jK 3 [4] [(1,wJ ((i:Int)+1) (↑(i+1)))] (NL (tJ ((i+1)) [0,1] zc)))))))))) (λh10=>XX (zR (v:=(vI ↑(fQ Z.ns i))) ⟨by rw [show i=Z.ns.length by omega],rfl⟩)))))
theorem OZ {β:Bs} (Z:RS) (Y:RL) (hR:dz β Z Y) (hB:RB Z) :
 aW Tryz.prog β 81 #[.agg ⟨rV Z Y⟩] [] (λv l=>v=vI ((dJ Z.ns Z.ns.length:Nat):Int)/\l=[]):=by
 refine SE Tryz.func81 Tryz.ntmps81 (λR=>SR (jB 2 [1] (λb3=>.aD b3 (rV Z Y) 45) (λb3=>NS (jK 1 [3] [] (NZ (jK 1 [4] [] (NN (aq.block (lJ (λ(i:Nat)=>(i<=Z.ns.length)) (λ(i:Nat)=>Z.ns.length-i) (λ(i:Nat)=>[(1,vP b3),(3,vI ↑(dJ Z.ns i)),(4,vI ↑i)]) (λ(i:Nat)=>[.abs R,.aD b3 (rV Z Y) 45]) 0 [0,1] (ag0 _) ?_)))))))))
 rintro i hi
 have hbn:=hB.ns
 have hbe:=hB.ah
 have hmo:=qy (ns:=Z.ns) hi
 exact SQ (jK 6 [10] [(3,a_ 1 b3)] (NN (cP ((((i:Nat):Int):Int)<(((Z.ns.length:Nat):Int):Int)) (λh10=>KX (aq.seq (aq.block (aq.region (jK 11 [3] [(3,a_ 1 b3),(5,x_ i Z.ns.length (aP.hd hR.n (i:=i) zc)),(7,r_ (aP.rd hR.n (i:=i) zc (j:=9) rfl)),(9,w_ (.int .i64 ↑(dJ Z.ns (i+1))) (vg (Int.natCast_add _ _).symm zc (by have:=qy (ns:=Z.ns) (show i+1<=Z.ns.length by omega);have:=hB.ah;omega)))] (LX (aq.region (jK 3 [4] [(1,wJ ((i:Int)+1) (↑(i+1)))] (NL (tJ ((i+1)) [0,1] zc)))))))))) (λh10=>XX (zR (v:=(vI ↑(dJ Z.ns i))) ⟨by rw [show i=Z.ns.length by omega],rfl⟩)))))
theorem V6 {β:Bs} (Z:RS) (Y:RL) (hR:dz β Z Y) (hB:RB Z) (id:Int) :
 aW Tryz.prog β 118 #[.agg ⟨rV Z Y⟩,vI (id)] [] (λv l=>v=vI (tY Z.ns id)/\l=[]):=by
 refine SE Tryz.func118 Tryz.ntmps118 (λR=>SR (jB 2 [2] (λb4=>.aD b4 (rV Z Y) 45) (λb4=>NS (jK 1 [5] [] (NZ (jK 1 [6] [] (NN (aq.block (lJ (λ(i:Nat)=>(i<=Z.ns.length)) (λ(i:Nat)=>Z.ns.length-i) (λ(i:Nat)=>[(1,vI (id)),(2,vP b4),(5,vI ↑(nK Z.ns id i)),(6,vI ↑i)]) (λ(i:Nat)=>[.abs R,.aD b4 (rV Z Y) 45]) 0 [0,1] (ag0 _) ?_)))))))))
 rintro i hi
 have hbn:=hB.ns
 have hbe:=hB.ah
 have hcs:=TN Z.ns id i
 have hmo:=qy (ns:=Z.ns) hi
 refine SQ (jK 6 [13] [(3,a_ 1 b4)] (NN (cP ((((i:Nat):Int):Int)<(((Z.ns.length:Nat):Int):Int)) (λsi=>KX (aq.seq (aq.block (SR (jK 1 [7] [] (NN (aq.block (lJ (λ(j:Nat)=>(j<=(nd Z.ns i).ah.length)) (λ(j:Nat)=>(nd Z.ns i).ah.length-j) (λ(j:Nat)=>[(1,vI (id)),(2,vP b4),(5,vI ↑(nK Z.ns id i+iR (nd Z.ns i).ah id j)),(6,vI ↑i),(7,vI ↑j)]) (λ(j:Nat)=>[.abs R,.aD b4 (rV Z Y) 45]) 0 [0,1] (ag0 _) ?_)))))))) (λsi=>XX (zR (v:=(vI ↑(nK Z.ns id i))) ⟨by rw [show i=Z.ns.length by omega];rfl,rfl⟩)))))
 rintro j hj
 have hrl:=LI (nd Z.ns i).ah id j
 have hrw:=hB.row (i:=i) zc
 exact SQ (jK 10 [25] [(3,a_ 1 b4),(5,x_ i Z.ns.length (aP.hd hR.n (i:=i) zc)),(7,r_ (aP.rd hR.n (i:=i) zc (j:=9) rfl))] (NN (cP ((((j:Nat):Int):Int)<((((nd Z.ns i).ah.length:Nat):Int):Int)) (λpR=>KX (aq.seq (aq.block (SR (jK 13 [40] [(2,a_ 1 b4),(4,x_ i Z.ns.length (aP.hd hR.n (i:=i) zc)),(6,r_ (aP.rd hR.n (i:=i) zc (j:=9) rfl)),(8,x_ j ((nd Z.ns i).ah.length) (cU.hd (hR.n.ah i zc) (i:=j) zc)),(10,r_ (cU.rd (hR.n.ah i zc) (i:=j) zc (j:=1) rfl))] (NN (cP (((en (nd Z.ns i).ah j).id:Int)=(id:Int)) (λtZ=>aq.region (jK 3 [5] [(1,wJ (((nK Z.ns id i+iR (nd Z.ns i).ah id j:Nat):Int)+1) (↑((nK Z.ns id i+iR (nd Z.ns i).ah id j)+1)))] (LX (aq.region (sl 5 (vI ↑((nK Z.ns id i+iR (nd Z.ns i).ah id j)+1)) (.int .i64 ↑(nK Z.ns id i+iR (nd Z.ns i).ah id (j+1))) (by rw [←Js tZ,ahW]) (jK 3 [7] [(1,wJ ((j:Int)+1) (↑(j+1)))] (NL (tJ ((j+1)) [0,1] (zc))))))))) (λtZ=>KX (aq.region (sl 5 (vI ↑(nK Z.ns id i+iR (nd Z.ns i).ah id j)) (.int .i64 ↑(nK Z.ns id i+iR (nd Z.ns i).ah id (j+1))) (by rw [←Gv tZ]) (jK 3 [7] [(1,wJ ((j:Int)+1) (↑(j+1)))] (NL (tJ ((j+1)) [0,1] (zc)))))))))))))) (λpR=>XX (aq.region (sl 5 (vI ↑(nK Z.ns id i+iR (nd Z.ns i).ah id j)) (.int .i64 ↑(nK Z.ns id (i+1))) (by rw [nK,show j=(nd Z.ns i).ah.length by omega]) (jK 3 [6] [(1,wJ ((i:Int)+1) (↑(i+1)))] (NL (tJ ((i+1)) [0,1] (zc))))))))))
theorem jH {β:Bs} (Z:RS) (Y:RL) (hR:dz β Z Y) (hB:RC Z) (d:Nat) (hd:d<Z.ns.length) (name:ByteArray) :
 aW Tryz.prog β 76 #[.agg ⟨rV Z Y⟩,vI (((d:Nat):Int)),.string name] [] (λv l=>v=vI (bV Z.ns d name)/\l=[]):=by
 refine SE Tryz.func76 Tryz.ntmps76 (λR=>SR (jB 2 [3] (λb5=>.aD b5 (rV Z Y) 45) (λb5=>NZ (jK 1 [7] [] (NN (aq.block (lJ (λ(j:Nat)=>(j<=(nd Z.ns d).ah.length)/\(∀q,q<j->¬(en (nd Z.ns d).ah q).name=name)) (λ(j:Nat)=>(nd Z.ns d).ah.length-j) (λ(j:Nat)=>[(1,vI ↑d),(2,.string name),(3,vP b5),(7,vI ↑j)]) (λ(j:Nat)=>[.abs R,.aD b5 (rV Z Y) 45]) 0 [0,1] (⟨ag0 _,λq hq=>agY hq (ag2 q)⟩) ?_)))))))
 rintro j ⟨hj,iP⟩
 have hrw:=hB.toRB.row hd
 refine SQ (jK 10 [17] [(3,a_ 1 b5),(5,x_ d Z.ns.length (aP.hd hR.n (i:=d) zc)),(7,r_ (aP.rd hR.n (i:=d) zc (j:=9) rfl))] (NN (cP ((((j:Nat):Int):Int)<((((nd Z.ns d).ah.length:Nat):Int):Int)) (λEj=>KX (aq.seq (aq.block (SR (jK 13 [32] [(2,a_ 1 b5),(4,x_ d Z.ns.length (aP.hd hR.n (i:=d) zc)),(6,r_ (aP.rd hR.n (i:=d) zc (j:=9) rfl)),(8,x_ j ((nd Z.ns d).ah.length) (cU.hd (hR.n.ah d zc) (i:=j) zc)),(10,r_ (cU.rd (hR.n.ah d zc) (i:=j) zc (j:=0) rfl)),(12,w_ (.bool (decide (((en (nd Z.ns d).ah j).name:ByteArray)=name))) (qN _ _))] (NN (cP (((en (nd Z.ns d).ah j).name:ByteArray)=name) (λr8=>aq.seq (jM [0,1,2,3,4,5,6,7,8,9,10,11,12,513,514] [1] (jG 13 [34,45] [(1,a_ 0 b5),(4,a_ 0 b5),(6,x_ d Z.ns.length (aP.hd hR.n (i:=d) zc)),(8,r_ (aP.rd hR.n (i:=d) zc (j:=9) rfl)),(10,x_ j ((nd Z.ns d).ah.length) (cU.hd (hR.n.ah d zc) (i:=j) zc)),(12,r_ (cU.rd (hR.n.ah d zc) (i:=j) zc (j:=1) rfl))] (kL [1] [] (yY Y.A Y.c Z.ns Y.L hR.n hB.fI (by have:=hB.ns;omega) (en (nd Z.ns d).ah j).id) ?_ (by rintro _ _ ⟨rfl,rfl⟩;kernel_rfl))))) (λr8=>KX (aq.region (jK 3 [7] [(1,wJ ((j:Int)+1) (↑(j+1)))] (NL (tJ ((j+1)) [0,1] (⟨zc,λq hq=>Pe⟩))))))))))))) (λEj=>XX (zR ⟨agX (Value.int .i64) (TR (λq hq=>iP q zc)),rfl⟩)))))
 rintro _ _ ⟨rfl,rfl⟩
 exact fN.last KB (jK 1 [6] [] (NL (aB.np (NX (aq.ret (aB.fW (aB.bD (aB.bD (aB.fW (aB.bD (RT _ [0] (⟨agX (Value.int .i64) (V3 zc r8 iP),rfl⟩))))))))))))
end
section
open Go.RowKit Go.Maps bK aF
attribute [local irreducible] av bN aq aB ck
theorem LP (l:List Int) (x:Int):bH l++[vI x]=bH (l++[x]):=by simp [bH]
theorem iN (q:bE Int) (x:Int×Int):(q++[x]).length=q.length+1:=ag4
theorem KN {q:bE Int} {x:Int×Int} {B:Option Addr} {c:Nat} {k:Int} (h:k=x.1):HP.abs (aH 3 1 B (q.length+1) c (bH (bn q)++[vI k]))=HP.abs (aH 3 1 B (q++[x]).length c (bH (bn (q++[x])))):=by
 rw [LA,←LP,iN,h]
theorem KO {q:bE Int} {x:Int×Int} {B:Option Addr} {c:Nat} {k:Int} (h:k=x.2):HP.abs (aH 3 1 B (q.length+1) c (bH (iV q)++[vI k]))=HP.abs (aH 3 1 B (q++[x]).length c (bH (iV (q++[x])))):=by
 rw [YZ,←LP,iN,h]
theorem lT.keep {us q:bE Int} {h v:Int} {i:Nat} {d:Bool} (hp:lT us h v i d q) (hi:i<us.length) (hk:¬h<(pr us i).1):lT us h v (i+1) d (q++[pr us i]):=by
 cases d with
 |false=>exact hp.miss hi hk
 |true=>exact hp.more hi
theorem EO {β:Bs} (M p:Int) (A B:Option Addr) (c d:Nat) (us:bE Int) (hA:cC β A (bH (bn us))) (hl:us.length<=16777216) (h:Int) :
 aW Tryz.prog β 101 #[.agg #[vI (M),vI (p),.slice A (us.length) (c),.slice B (us.length) (d)],vI h] [] (λv l=>v=vI (tX (bn us) h)/\l=[]):=by
 refine SE Tryz.func101 Tryz.ntmps101 (λR=>SR (jB 2 [2] (λb1=>.aD b1 [vI (M),vI (p),.slice A (us.length) (c),.slice B (us.length) (d)] 43) (λb1=>NZ (jK 1 [5] [] (NN (aq.block (lJ (λ(i:Nat)=>(i<=us.length)/\(∀j,j<i->¬(bn us).getD j 0=h)) (λ(i:Nat)=>us.length-i) (λ(i:Nat)=>[(1,vI (h)),(2,vP b1),(5,vI ↑i)]) (λ(i:Nat)=>[.abs R,.aD b1 [vI (M),vI (p),.slice A (us.length) (c),.slice B (us.length) (d)] 43]) 0 [0,1] (⟨ag0 _,λj hj=>agY hj (ag2 j)⟩) ?_)))))))
 rintro i ⟨hi,iP⟩
 exact SQ (jK 5 [10] [(2,a_ 1 b1)] (NN (cP ((((i:Nat):Int):Int)<(((us.length:Nat):Int):Int)) (λh10=>KX (aq.seq (aq.block (SR (jK 7 [19] [(1,a_ 1 b1),(3,x_ i us.length (lS.hd hA (j:=i) (by rw [j5];omega))),(4,r_ (lS.rd hA (j:=i) (by rw [j5];omega)))] (NN (cP ((((bn us).getD i 0):Int)=(h:Int)) (λGj=>zR (v:=(vI ↑i)) ⟨by grind [V0,j5],rfl⟩) (λGj=>KX (aq.region (jK 3 [5] [(1,wJ ((i:Int)+1) (↑(i+1)))] (NL (tJ ((i+1)) [0,1] (⟨zc,λj hj=>(ag3.1 hj).elim (iP j) (λe=>e ▸ Gj)⟩))))))))))))) (λh10=>XX (zR (v:=(vI (-1))) ⟨by grind [OQ,j5],rfl⟩)))))
theorem Y9 {β:Bs} (M p:Int) (A B:Option Addr) (c d:Nat) (us:bE Int) (x:Int) (hf:M<=(us.length:Int)) :
 aW Tryz.prog β 102 #[.agg #[vI (M),vI (p),.slice A (us.length) (c),.slice B (us.length) (d)],vI x] [] (λv l=>v=.tuple #[.agg #[vI (M),vI (p),.slice A (us.length) (c),.slice B (us.length) (d)],vI 0,vI 130]/\l=[]):=by
 exact SE Tryz.func102 Tryz.ntmps102 (λR=>SR (jB 1 [2] (λb2=>.aD b2 [vI (M),vI (p),.slice A (us.length) (c),.slice B (us.length) (d)] 43) (λb2=>jB 3 [4] (λb3=>.aD b3 [vI 0,vI 0,.slice none (0) (0),.slice none (0) (0)] 43) (λb3=>NZ (jK 6 [16] [(1,a_ 1 b2),(4,a_ 1 b2)] (NN (cP ((((us.length:Nat):Int):Int)>=(M:Int)) (λo6=>SR (jC 4 [5,6] [(0,A_ 1 b2 4),(1,A_ 2 b3 4)] [(2,[(0,vI (M)),(1,vI (p)),(2,.slice A (us.length) (c)),(3,.slice B (us.length) (d))])] (eS [A_ 2 b3 4] ⟨rfl,rfl⟩))) (λo6=>agY o6 (by omega)))))))))
theorem ab7 {β:Bs} (M p:Int) (A B:Option Addr) (c d:Nat) (us:bE Int) (hA:cC β A (bH (bn us))) (hB:cC β B (bH (iV us))) (hl:us.length<=16777216) (hr:aF.dH (bn us)) (hp:∀z∈bn us,1<=z) (x:Int) (hf:(us.length:Int)<M) :
 aW Tryz.prog β 102 #[.agg #[vI (M),vI (p),.slice A (us.length) (c),.slice B (us.length) (d)],vI x] [] (λv l=>∃A' c' B' d',v=.tuple #[.agg #[vI (M),vI (max p ((us.length:Int)+1)),.slice A' (ins (aF.aS us) x us).length c',.slice B' (ins (aF.aS us) x us).length d'],vI (aF.aS us),vI 0]/\l=[.abs (aH 3 1 A' (ins (aF.aS us) x us).length c' (bH (bn (ins (aF.aS us) x us)))),.abs (aH 3 1 B' (ins (aF.aS us) x us).length d' (bH (iV (ins (aF.aS us) x us))))]):=by
 have hls:=TP hr hp
 have dU:=least_le us
 refine SE Tryz.func102 Tryz.ntmps102 (λR=>SR (jB 1 [2] (λb4=>.aD b4 [vI (M),vI (p),.slice A (us.length) (c),.slice B (us.length) (d)] 43) (λb4=>jB 3 [4] (λb5=>.aD b5 [vI 0,vI 0,.slice none (0) (0),.slice none (0) (0)] 43) (λb5=>NZ (jK 6 [16] [(1,a_ 1 b4),(4,a_ 1 b4)] (NN (cP ((((us.length:Nat):Int):Int)>=(M:Int)) (λo6=>agY o6 (by omega)) (λo6=>KX (SR (jK 1 [7] [] (NN (aq.seq (aq.block (lJ (λ(g:Int)=>(1<=g)/\(g<=aF.aS us)) (λ(g:Int)=>(aF.aS us+1-g).toNat) (λ(g:Int)=>[(1,vI (x)),(2,vP b4),(4,vP b5),(7,vI (g))]) (λ(g:Int)=>[.abs R,.aD b4 [vI (M),vI (p),.slice A (us.length) (c),.slice B (us.length) (d)] 43,.aD b5 [vI 0,vI 0,.slice none (0) (0),.slice none (0) (0)] 43]) 1 [0,1,2] (⟨zc,hls.1⟩) ?_))))))))))))))
 rintro g ⟨hg1,hg2⟩
 refine SQ (jK 2 [18,19] [(0,A_ 1 b4 4)] (gE [] (EO M p A B c d us hA hl g) (jK 1 [21] [] (NN (cP (((tX (bn us) g):Int)>=(0:Int)) (λsy=>KX (aq.block (aq.region (jK 3 [7] [(1,wJ (g+1) (g+1))] (NL (aB.jX (tJ ((g+1)) [0,1,2] (⟨zc,by grind [bn,RV]⟩)))))))) (λsy=>XX (SR (sl 7 (vI (g)) (.int .i64 ((aF.aS us))) (aaE (by rcases Int.lt_or_le g (aF.aS us) with h0|h0;exact agY (RV.2 (hls.2.2 g zc h0)) sy;omega)) (jN 7 [8] (λb6=>[(1,a_ 1 b4),(3,a_ 1 b4),(6,A_ 3 b6 4)]) (λ_=>[]) (λb6=>.aD b6 [vI (M),vI (p),.slice none (0) (0),.slice none (0) (0)] 43) (λb6=>NS (av.mem (λw hS=>(hS.mB (e:=3) (size:=1)).mB (e:=3) (size:=1)) (jK 1 [9] [] (NZ (jK 1 [10] [] (NN (aq.block (lJ (λ(i,dn,q,Ah,ch,Av,cv)=>(i<=us.length)/\(lT us (aF.aS us) x i dn q)) (λ(i,dn,q,Ah,ch,Av,cv)=>us.length-i) (λ(i,dn,q,Ah,ch,Av,cv)=>[(1,vI (x)),(2,vP b4),(4,vP b5),(7,vI ((aF.aS us))),(8,vP b6),(9,.bool dn),(10,vI ↑i)]) (λ(i,dn,q,Ah,ch,Av,cv)=>[.aD b4 [vI (M),vI (p),.slice A (us.length) (c),.slice B (us.length) (d)] 43,.aD b6 [vI (M),vI (p),.slice Ah (q.length) (ch),.slice Av (q.length) (cv)] 43,.abs (aH 3 1 Ah q.length ch (bH (bn q))),.abs (aH 3 1 Av q.length cv (bH (iV q))),.aD b5 [vI 0,vI 0,.slice none (0) (0),.slice none (0) (0)] 43,.abs R]) (0,false,[],none,0,none,0) [1,3,4,5,2,0] (⟨ag0 _,lT.zero⟩) ?_)))))))))))))))))
 rintro⟨i,dn,q,Ah,ch,Av,cv⟩ ⟨hi,hpt⟩
 refine SQ (jK 5 [33] [(2,a_ 0 b4)] (NN (cP ((((i:Nat):Int):Int)<(((us.length:Nat):Int):Int)) (λLp=>?_) (λLp=>?_))))
 ·refine KX (aq.seq (aq.block (aq.seq (SR ?_))))
  have hpi:=zy (us:=us) (i:=i) zc
  have vR:q.length<=i+1:=by have:=hpt.len;cases dn<;>simp at this<;>omega
  refine jK 8 [43] [(1,a_ 0 b4),(3,x_ i us.length (lS.hd hA (j:=i) (by rw [j5];omega))),(4,r_ (lS.rd hA (j:=i) (by rw [j5];omega)))] (sP 43 ((((bn us).getD i 0):Int)>((aF.aS us):Int)) (λIW=>?_) (λIW=>?_))
  ·refine jK 3 [46] [] (NN (aq.cond (b:=(!dn)) (λ_=>KB) (λh46=>?_) (λh46=>?_)))
   ·refine SR (jN 4 [48,50] (λb7=>[(1,a_ 1 b6)]) (λ_=>[]) (λb7=>.aD b7 [vI ((aF.aS us))] 3) (λb7=>mR 2 41 (some ⟨b7,0,none⟩) 1 1 [vI ((aF.aS us))] rfl (fP (j:=6) rfl) (λA8 c9=>av.cL 2 rfl (KN (x:=(aF.aS us,x)) rfl) (sl 51 (.slice A8 (q.length+1) (c9)) (.slice A8 ((q++[(aF.aS us,x)]).length) (c9)) (by rw [iN q (aF.aS us,x)]) (jC 2 [] [(1,a_ 1 b6)] [(1,[(2,.slice A8 ((q++[(aF.aS us,x)]).length) (c9))])] (NS (jN 4 [54,56] (λb10=>[(1,a_ 1 b6)]) (λ_=>[]) (λb10=>.aD b10 [vI (x)] 3) (λb10=>mR 3 41 (some ⟨b10,0,none⟩) 1 1 [vI (x)] rfl (fP (j:=7) rfl) (λGw DW=>av.cL 3 rfl (KO (x:=(aF.aS us,x)) rfl) (sl 57 (.slice Gw (q.length+1) (DW)) (.slice Gw ((q++[(aF.aS us,x)]).length) (DW)) (by rw [iN q (aF.aS us,x)]) (jC 2 [] [(1,a_ 1 b6)] [(1,[(3,.slice Gw ((q++[(aF.aS us,x)]).length) (DW))])] (NN (aq.region (jK 1 [9] [] (NN (aq.seq (rM (List.range 11) 7 [0,1,4,5,6,7] (jR 7 [1,2,4,7,8,9,10,60,65] [(1,a_ 1 b6),(3,a_ 0 b4),(5,x_ i us.length (lS.hd hA (j:=i) (by rw [j5];omega))),(6,r_ (lS.rd hA (j:=i) (by rw [j5];omega)))] (mN [0,1,4,5,6,7] (λb13=>[(66,.slice (some ⟨b13,0,none⟩) (1) (1))]) (λ_=>[]) (λb13=>.aD b13 [vI (((bn us).getD i 0))] 3) (λb13=>ck.cut (ι:=(Option Addr)×Nat) (bU:=λ((DY,DZ):(Option Addr)×Nat)=>[(1,vI (x)),(2,vP b4),(4,vP b5),(7,vI (aF.aS us)),(8,vP b6),(9,.bool true),(10,vI ↑i),(67,.slice DY (((q++[(aF.aS us,x)])++[(pr us i)]).length) (DZ))]) (dI:=λ((DY,DZ):(Option Addr)×Nat)=>[.aD b4 [vI (M),vI (p),.slice A (us.length) (c),.slice B (us.length) (d)] 43,.aD b6 [vI (M),vI (p),.slice A8 ((q++[(aF.aS us,x)]).length) (c9),.slice Gw ((q++[(aF.aS us,x)]).length) (DW)] 43,.abs (aH 3 1 DY (((q++[(aF.aS us,x)])++[(pr us i)]).length) DZ (bH (bn ((q++[(aF.aS us,x)])++[(pr us i)])))),.abs (aH 3 1 Gw ((q++[(aF.aS us,x)]).length) DW (bH (iV (q++[(aF.aS us,x)])))),.aD b5 [vI 0,vI 0,.slice none (0) (0),.slice none (0) (0)] 43,.abs R,.aD b7 [vI ((aF.aS us))] 3,.aD b10 [vI (x)] 3,.aD b13 [vI (((bn us).getD i 0))] 3]) [0,1,4,5,6,7] rfl rfl ?_ rfl (λ_=>KB) ?_)))))))))))) (n:=q.length) (hb:=by have:=vR;have:=iN q (aF.aS us,x);omega))))))) (n:=q.length) (hb:=by have:=vR;have:=iN q (aF.aS us,x);omega)))
    ·exact mR 2 41 (some ⟨b13,0,none⟩) 1 1 [vI (((bn us).getD i 0))] rfl (fP (j:=8) rfl) (λDY DZ=>av.cL 2 rfl (KN (x:=(pr us i)) hpi.1) (sl 67 (.slice DY (((q++[(aF.aS us,x)]).length)+1) (DZ)) (.slice DY (((q++[(aF.aS us,x)])++[(pr us i)]).length) (DZ)) (by rw [iN (q++[(aF.aS us,x)]) (pr us i)]) (NL (MD (DY,DZ) [1,2,4,7,8,9,10,67] [0,1,2,3,4,5,6,7,8])))) (n:=(q++[(aF.aS us,x)]).length) (hb:=by have:=vR;have:=iN q (aF.aS us,x);omega)
    rintro⟨DY,DZ⟩
    refine nC [0,1,4,5,6,7] [68] [] [] (ck.last rfl rfl (jC 1 [] [(0,a_ 1 b6)] [(1,[(2,.slice DY (((q++[(aF.aS us,x)])++[(pr us i)]).length) (DZ))])] (NL (aB.np (NX (rM (List.range 11) 7 [0,1,4,5,6,7,8] (jR 7 [1,2,4,7,8,9,10,70,75] [(1,a_ 1 b6),(3,a_ 0 b4),(5,x_ i us.length (lS.hd hB (j:=i) (by rw [mH];omega))),(6,r_ (lS.rd hB (j:=i) (by rw [mH];omega)))] (mN [0,1,4,5,6,7,8] (λb16=>[(76,.slice (some ⟨b16,0,none⟩) (1) (1))]) (λ_=>[]) (λb16=>.aD b16 [vI (((iV us).getD i 0))] 3) (λb16=>ck.cut (ι:=(Option Addr)×Nat) (bU:=λ((oO,qI):(Option Addr)×Nat)=>[(1,vI (x)),(2,vP b4),(4,vP b5),(7,vI (aF.aS us)),(8,vP b6),(9,.bool true),(10,vI ↑i),(77,.slice oO (((q++[(aF.aS us,x)])++[(pr us i)]).length) (qI))]) (dI:=λ((oO,qI):(Option Addr)×Nat)=>[.aD b4 [vI (M),vI (p),.slice A (us.length) (c),.slice B (us.length) (d)] 43,.aD b6 [vI (M),vI (p),.slice DY (((q++[(aF.aS us,x)])++[(pr us i)]).length) (DZ),.slice Gw ((q++[(aF.aS us,x)]).length) (DW)] 43,.abs (aH 3 1 DY (((q++[(aF.aS us,x)])++[(pr us i)]).length) DZ (bH (bn ((q++[(aF.aS us,x)])++[(pr us i)])))),.abs (aH 3 1 oO (((q++[(aF.aS us,x)])++[(pr us i)]).length) qI (bH (iV ((q++[(aF.aS us,x)])++[(pr us i)])))),.aD b5 [vI 0,vI 0,.slice none (0) (0),.slice none (0) (0)] 43,.abs R,.aD b7 [vI ((aF.aS us))] 3,.aD b10 [vI (x)] 3,.aD b13 [vI (((bn us).getD i 0))] 3,.aD b16 [vI (((iV us).getD i 0))] 3]) [0,1,4,5,6,7,8] rfl rfl ?_ rfl (λ_=>KB) ?_)))))))))
    ·exact mR 3 41 (some ⟨b16,0,none⟩) 1 1 [vI (((iV us).getD i 0))] rfl (fP (j:=9) rfl) (λoO qI=>av.cL 3 rfl (KO (x:=(pr us i)) hpi.2) (sl 77 (.slice oO (((q++[(aF.aS us,x)]).length)+1) (qI)) (.slice oO (((q++[(aF.aS us,x)])++[(pr us i)]).length) (qI)) (by rw [iN (q++[(aF.aS us,x)]) (pr us i)]) (NL (MD (oO,qI) [1,2,4,7,8,9,10,77] [0,1,2,3,4,5,6,7,8,9])))) (n:=(q++[(aF.aS us,x)]).length) (hb:=by have:=vR;have:=iN q (aF.aS us,x);omega)
    rintro⟨oO,qI⟩
    exact nC [0,1,4,5,6,7,8] [78] [] [] (ck.last rfl rfl (jC 1 [] [(0,a_ 1 b6)] [(1,[(3,.slice oO (((q++[(aF.aS us,x)])++[(pr us i)]).length) (qI))])] (NL (aB.np (BX (aq.region (jK 3 [10] [(1,wJ ((i:Int)+1) (↑(i+1)))] (NL (tJ ((i+1),true,((q++[(aF.aS us,x)])++[(pr us i)]),DY,DZ,oO,qI) [0,1,2,3,4,5] (⟨zc,lT.hit ((show dn=false by simpa using h46) ▸ hpt) zc (by rw [←hpi.1];omega)⟩))))))))))
   refine KX (aq.seq (rM (List.range 11) 7 [0,1,4,5] (jR 7 [1,2,4,7,8,9,10,60,65] [(1,a_ 1 b6),(3,a_ 0 b4),(5,x_ i us.length (lS.hd hA (j:=i) (by rw [j5];omega))),(6,r_ (lS.rd hA (j:=i) (by rw [j5];omega)))] (mN [0,1,4,5] (λb19=>[(66,.slice (some ⟨b19,0,none⟩) (1) (1))]) (λ_=>[]) (λb19=>.aD b19 [vI (((bn us).getD i 0))] 3) (λb19=>ck.cut (ι:=(Option Addr)×Nat) (bU:=λ((og,oh):(Option Addr)×Nat)=>[(1,vI (x)),(2,vP b4),(4,vP b5),(7,vI (aF.aS us)),(8,vP b6),(9,.bool dn),(10,vI ↑i),(67,.slice og ((q++[(pr us i)]).length) (oh))]) (dI:=λ((og,oh):(Option Addr)×Nat)=>[.aD b4 [vI (M),vI (p),.slice A (us.length) (c),.slice B (us.length) (d)] 43,.aD b6 [vI (M),vI (p),.slice Ah (q.length) (ch),.slice Av (q.length) (cv)] 43,.abs (aH 3 1 og ((q++[(pr us i)]).length) oh (bH (bn (q++[(pr us i)])))),.abs (aH 3 1 Av q.length cv (bH (iV q))),.aD b5 [vI 0,vI 0,.slice none (0) (0),.slice none (0) (0)] 43,.abs R,.aD b19 [vI (((bn us).getD i 0))] 3]) [0,1,4,5] rfl rfl ?_ rfl (λ_=>KB) ?_)))))
   ·exact mR 2 41 (some ⟨b19,0,none⟩) 1 1 [vI (((bn us).getD i 0))] rfl (fP (j:=6) rfl) (λog oh=>av.cL 2 rfl (KN (x:=(pr us i)) hpi.1) (sl 67 (.slice og (q.length+1) (oh)) (.slice og ((q++[(pr us i)]).length) (oh)) (by rw [iN q (pr us i)]) (NL (MD (og,oh) [1,2,4,7,8,9,10,67] [0,1,2,3,4,5,6])))) (n:=q.length) (hb:=by have:=vR;have:=iN q (aF.aS us,x);omega)
   rintro⟨og,oh⟩
   refine nC [0,1,4,5] [68] [] [] (ck.last rfl rfl (jC 1 [] [(0,a_ 1 b6)] [(1,[(2,.slice og ((q++[(pr us i)]).length) (oh))])] (NL (aB.np (NX (rM (List.range 11) 7 [0,1,4,5,6] (jR 7 [1,2,4,7,8,9,10,70,75] [(1,a_ 1 b6),(3,a_ 0 b4),(5,x_ i us.length (lS.hd hB (j:=i) (by rw [mH];omega))),(6,r_ (lS.rd hB (j:=i) (by rw [mH];omega)))] (mN [0,1,4,5,6] (λlI=>[(76,.slice (some ⟨lI,0,none⟩) (1) (1))]) (λ_=>[]) (λlI=>.aD lI [vI (((iV us).getD i 0))] 3) (λlI=>ck.cut (ι:=(Option Addr)×Nat) (bU:=λ((t6,t7):(Option Addr)×Nat)=>[(1,vI (x)),(2,vP b4),(4,vP b5),(7,vI (aF.aS us)),(8,vP b6),(9,.bool dn),(10,vI ↑i),(77,.slice t6 ((q++[(pr us i)]).length) (t7))]) (dI:=λ((t6,t7):(Option Addr)×Nat)=>[.aD b4 [vI (M),vI (p),.slice A (us.length) (c),.slice B (us.length) (d)] 43,.aD b6 [vI (M),vI (p),.slice og ((q++[(pr us i)]).length) (oh),.slice Av (q.length) (cv)] 43,.abs (aH 3 1 og ((q++[(pr us i)]).length) oh (bH (bn (q++[(pr us i)])))),.abs (aH 3 1 t6 ((q++[(pr us i)]).length) t7 (bH (iV (q++[(pr us i)])))),.aD b5 [vI 0,vI 0,.slice none (0) (0),.slice none (0) (0)] 43,.abs R,.aD b19 [vI (((bn us).getD i 0))] 3,.aD lI [vI (((iV us).getD i 0))] 3]) [0,1,4,5,6] rfl rfl ?_ rfl (λ_=>KB) ?_)))))))))
   ·exact mR 3 41 (some ⟨lI,0,none⟩) 1 1 [vI (((iV us).getD i 0))] rfl (fP (j:=7) rfl) (λt6 t7=>av.cL 3 rfl (KO (x:=(pr us i)) hpi.2) (sl 77 (.slice t6 (q.length+1) (t7)) (.slice t6 ((q++[(pr us i)]).length) (t7)) (by rw [iN q (pr us i)]) (NL (MD (t6,t7) [1,2,4,7,8,9,10,77] [0,1,2,3,4,5,6,7])))) (n:=q.length) (hb:=by have:=vR;have:=iN q (aF.aS us,x);omega)
   rintro⟨t6,t7⟩
   exact nC [0,1,4,5,6] [78] [] [] (ck.last rfl rfl (jC 1 [] [(0,a_ 1 b6)] [(1,[(3,.slice t6 ((q++[(pr us i)]).length) (t7))])] (NL (aB.np (BX (aq.region (jK 3 [10] [(1,wJ ((i:Int)+1) (↑(i+1)))] (NL (tJ ((i+1),dn,(q++[(pr us i)]),og,oh,t6,t7) [0,1,2,3,4,5] (⟨zc,(show dn=true by simpa using h46) ▸ lT.more ((show dn=true by simpa using h46) ▸ hpt) zc⟩))))))))))
  refine jK 3 [46] [] (NF (KX (aq.seq (rM (List.range 11) 7 [0,1,4,5] (jR 7 [1,2,4,7,8,9,10,60,65] [(1,a_ 1 b6),(3,a_ 0 b4),(5,x_ i us.length (lS.hd hA (j:=i) (by rw [j5];omega))),(6,r_ (lS.rd hA (j:=i) (by rw [j5];omega)))] (mN [0,1,4,5] (λsA=>[(66,.slice (some ⟨sA,0,none⟩) (1) (1))]) (λ_=>[]) (λsA=>.aD sA [vI (((bn us).getD i 0))] 3) (λsA=>ck.cut (ι:=(Option Addr)×Nat) (bU:=λ((qq,qt):(Option Addr)×Nat)=>[(1,vI (x)),(2,vP b4),(4,vP b5),(7,vI (aF.aS us)),(8,vP b6),(9,.bool dn),(10,vI ↑i),(67,.slice qq ((q++[(pr us i)]).length) (qt))]) (dI:=λ((qq,qt):(Option Addr)×Nat)=>[.aD b4 [vI (M),vI (p),.slice A (us.length) (c),.slice B (us.length) (d)] 43,.aD b6 [vI (M),vI (p),.slice Ah (q.length) (ch),.slice Av (q.length) (cv)] 43,.abs (aH 3 1 qq ((q++[(pr us i)]).length) qt (bH (bn (q++[(pr us i)])))),.abs (aH 3 1 Av q.length cv (bH (iV q))),.aD b5 [vI 0,vI 0,.slice none (0) (0),.slice none (0) (0)] 43,.abs R,.aD sA [vI (((bn us).getD i 0))] 3]) [0,1,4,5] rfl rfl ?_ rfl (λ_=>KB) ?_)))))))
  ·exact mR 2 41 (some ⟨sA,0,none⟩) 1 1 [vI (((bn us).getD i 0))] rfl (fP (j:=6) rfl) (λqq qt=>av.cL 2 rfl (KN (x:=(pr us i)) hpi.1) (sl 67 (.slice qq (q.length+1) (qt)) (.slice qq ((q++[(pr us i)]).length) (qt)) (by rw [iN q (pr us i)]) (NL (MD (qq,qt) [1,2,4,7,8,9,10,67] [0,1,2,3,4,5,6])))) (n:=q.length) (hb:=by have:=vR;have:=iN q (aF.aS us,x);omega)
  rintro⟨qq,qt⟩
  refine nC [0,1,4,5] [68] [] [] (ck.last rfl rfl (jC 1 [] [(0,a_ 1 b6)] [(1,[(2,.slice qq ((q++[(pr us i)]).length) (qt))])] (NL (aB.np (NX (rM (List.range 11) 7 [0,1,4,5,6] (jR 7 [1,2,4,7,8,9,10,70,75] [(1,a_ 1 b6),(3,a_ 0 b4),(5,x_ i us.length (lS.hd hB (j:=i) (by rw [mH];omega))),(6,r_ (lS.rd hB (j:=i) (by rw [mH];omega)))] (mN [0,1,4,5,6] (λjc=>[(76,.slice (some ⟨jc,0,none⟩) (1) (1))]) (λ_=>[]) (λjc=>.aD jc [vI (((iV us).getD i 0))] 3) (λjc=>ck.cut (ι:=(Option Addr)×Nat) (bU:=λ((Ar,Au):(Option Addr)×Nat)=>[(1,vI (x)),(2,vP b4),(4,vP b5),(7,vI (aF.aS us)),(8,vP b6),(9,.bool dn),(10,vI ↑i),(77,.slice Ar ((q++[(pr us i)]).length) (Au))]) (dI:=λ((Ar,Au):(Option Addr)×Nat)=>[.aD b4 [vI (M),vI (p),.slice A (us.length) (c),.slice B (us.length) (d)] 43,.aD b6 [vI (M),vI (p),.slice qq ((q++[(pr us i)]).length) (qt),.slice Av (q.length) (cv)] 43,.abs (aH 3 1 qq ((q++[(pr us i)]).length) qt (bH (bn (q++[(pr us i)])))),.abs (aH 3 1 Ar ((q++[(pr us i)]).length) Au (bH (iV (q++[(pr us i)])))),.aD b5 [vI 0,vI 0,.slice none (0) (0),.slice none (0) (0)] 43,.abs R,.aD sA [vI (((bn us).getD i 0))] 3,.aD jc [vI (((iV us).getD i 0))] 3]) [0,1,4,5,6] rfl rfl ?_ rfl (λ_=>KB) ?_)))))))))
  ·exact mR 3 41 (some ⟨jc,0,none⟩) 1 1 [vI (((iV us).getD i 0))] rfl (fP (j:=7) rfl) (λAr Au=>av.cL 3 rfl (KO (x:=(pr us i)) hpi.2) (sl 77 (.slice Ar (q.length+1) (Au)) (.slice Ar ((q++[(pr us i)]).length) (Au)) (by rw [iN q (pr us i)]) (NL (MD (Ar,Au) [1,2,4,7,8,9,10,77] [0,1,2,3,4,5,6,7])))) (n:=q.length) (hb:=by have:=vR;have:=iN q (aF.aS us,x);omega)
  rintro⟨Ar,Au⟩
  exact nC [0,1,4,5,6] [78] [] [] (ck.last rfl rfl (jC 1 [] [(0,a_ 1 b6)] [(1,[(3,.slice Ar ((q++[(pr us i)]).length) (Au))])] (NL (aB.np (BX (aq.region (jK 3 [10] [(1,wJ ((i:Int)+1) (↑(i+1)))] (NL (tJ ((i+1),dn,(q++[(pr us i)]),qq,qt,Ar,Au) [0,1,2,3,4,5] (⟨zc,hpt.keep zc (by rw [←hpi.1];omega)⟩))))))))))
 refine XX (aq.seq (SR ?_))
 have hiu:i=us.length:=zc
 subst hiu
 have vR:q.length<=us.length+1:=by have:=hpt.len;cases dn<;>simp at this<;>omega
 refine jK 2 [80] [] (NN (aq.cond (b:=(!dn)) (λ_=>KB) (λV7=>?_) (λV7=>?_)))
 ·refine SR (jN 4 [82,84] (λt8=>[(1,a_ 1 b6)]) (λ_=>[]) (λt8=>.aD t8 [vI ((aF.aS us))] 3) (λt8=>mR 2 41 (some ⟨t8,0,none⟩) 1 1 [vI ((aF.aS us))] rfl (fP (j:=6) rfl) (λJy Jz=>av.cL 2 rfl (KN (x:=(aF.aS us,x)) rfl) (sl 85 (.slice Jy (q.length+1) (Jz)) (.slice Jy ((q++[(aF.aS us,x)]).length) (Jz)) (by rw [iN q (aF.aS us,x)]) (jC 2 [] [(1,a_ 1 b6)] [(1,[(2,.slice Jy ((q++[(aF.aS us,x)]).length) (Jz))])] (NN (aq.region (jN 4 [88,90] (λvu=>[(1,a_ 1 b6)]) (λ_=>[]) (λvu=>.aD vu [vI (x)] 3) (λvu=>mR 3 41 (some ⟨vu,0,none⟩) 1 1 [vI (x)] rfl (fP (j:=7) rfl) (λJA JB=>av.cL 3 rfl (KO (x:=(aF.aS us,x)) rfl) (sl 91 (.slice JA (q.length+1) (JB)) (.slice JA ((q++[(aF.aS us,x)]).length) (JB)) (by rw [iN q (aF.aS us,x)]) (jC 2 [] [(1,a_ 1 b6)] [(1,[(3,.slice JA ((q++[(aF.aS us,x)]).length) (JB))])] (NZ (jK 6 [98] [(1,a_ 1 b6),(4,a_ 1 b6)] (NN (cP (((((q++[(aF.aS us,x)]).length:Nat):Int):Int)>(p:Int)) (λV8=>?_) (λV8=>?_)))))))) (n:=q.length) (hb:=by have:=vR;have:=iN q (aF.aS us,x);omega)))))))) (n:=q.length) (hb:=by have:=vR;have:=iN q (aF.aS us,x);omega)))
  ·refine aq.region (jC 5 [] [(1,a_ 1 b6),(4,a_ 1 b6)] [(1,[(1,vI ↑((q++[(aF.aS us,x)]).length))])] (NS (jC 5 [5,6] [(0,A_ 1 b6 4),(2,A_ 4 b5 4)] [(4,[(0,vI (M)),(1,vI ↑((q++[(aF.aS us,x)]).length)),(2,.slice Jy ((q++[(aF.aS us,x)]).length) (Jz)),(3,.slice JA ((q++[(aF.aS us,x)]).length) (JB))])] (NN (aq.ret ?_)))))
   have hq:(q++[(aF.aS us,x)])=ins (aF.aS us) x us:=lT.last ((show dn=false by simpa using V7) ▸ hpt)
   have hql:((q++[(aF.aS us,x)])).length=us.length+1:=by rw [hq,lu]
   skip
   exact rT (.tuple #[.agg #[vI (M),vI ↑((q++[(aF.aS us,x)]).length),.slice Jy ((q++[(aF.aS us,x)]).length) (Jz),.slice JA ((q++[(aF.aS us,x)]).length) (JB)],vI ((aF.aS us)),vI 0]) [A_ 4 b5 4] [2,3,5] (⟨Jy,Jz,JA,JB,Pe,by rw [←hq]⟩)
  refine KX (SR (jC 5 [5,6] [(0,A_ 1 b6 4),(2,A_ 4 b5 4)] [(4,[(0,vI (M)),(1,vI (p)),(2,.slice Jy ((q++[(aF.aS us,x)]).length) (Jz)),(3,.slice JA ((q++[(aF.aS us,x)]).length) (JB))])] (NN (aq.ret ?_))))
  have hq:(q++[(aF.aS us,x)])=ins (aF.aS us) x us:=lT.last ((show dn=false by simpa using V7) ▸ hpt)
  have hql:((q++[(aF.aS us,x)])).length=us.length+1:=by rw [hq,lu]
  skip
  exact rT (.tuple #[.agg #[vI (M),vI (p),.slice Jy ((q++[(aF.aS us,x)]).length) (Jz),.slice JA ((q++[(aF.aS us,x)]).length) (JB)],vI ((aF.aS us)),vI 0]) [A_ 4 b5 4] [2,3,5] (⟨Jy,Jz,JA,JB,Pe,by rw [←hq]⟩)
 refine KX (SQ (jK 6 [98] [(1,a_ 1 b6),(4,a_ 1 b6)] (NN (cP ((((q.length:Nat):Int):Int)>(p:Int)) (λV8=>?_) (λV8=>?_)))))
 ·refine aq.region (jC 5 [] [(1,a_ 1 b6),(4,a_ 1 b6)] [(1,[(1,vI ↑q.length)])] (NS (jC 5 [5,6] [(0,A_ 1 b6 4),(2,A_ 4 b5 4)] [(4,[(0,vI (M)),(1,vI ↑q.length),(2,.slice Ah (q.length) (ch)),(3,.slice Av (q.length) (cv))])] (NN (aq.ret ?_)))))
  have hq:q=ins (aF.aS us) x us:=lT.end_ ((show dn=true by simpa using V7) ▸ hpt)
  have hql:(q).length=us.length+1:=by rw [hq,lu]
  skip
  exact rT (.tuple #[.agg #[vI (M),vI ↑q.length,.slice Ah (q.length) (ch),.slice Av (q.length) (cv)],vI ((aF.aS us)),vI 0]) [A_ 4 b5 4] [2,3,5] (⟨Ah,ch,Av,cv,Pe,by rw [←hq]⟩)
 refine KX (SR (jC 5 [5,6] [(0,A_ 1 b6 4),(2,A_ 4 b5 4)] [(4,[(0,vI (M)),(1,vI (p)),(2,.slice Ah (q.length) (ch)),(3,.slice Av (q.length) (cv))])] (NN (aq.ret ?_))))
 have hq:q=ins (aF.aS us) x us:=lT.end_ ((show dn=true by simpa using V7) ▸ hpt)
 have hql:(q).length=us.length+1:=by rw [hq,lu]
 skip
 exact rT (.tuple #[.agg #[vI (M),vI (p),.slice Ah (q.length) (ch),.slice Av (q.length) (cv)],vI ((aF.aS us)),vI 0]) [A_ 4 b5 4] [2,3,5] (⟨Ah,ch,Av,cv,Pe,by rw [←hq]⟩)
theorem Za {β:Bs} (M p:Int) (A B:Option Addr) (c d:Nat) (us:bE Int) (hA:cC β A (bH (bn us))) (hB:cC β B (bH (iV us))) (hl:us.length<=16777216) (h:Int) (hr:aF.dH (bn us)) (k:Nat) (hk:k<us.length) (fH:tX (bn us) h=(k:Int)) (hx:(bn us).getD k 0=h) :
 aW Tryz.prog β 85 #[.agg #[vI (M),vI (p),.slice A (us.length) (c),.slice B (us.length) (d)],vI h] [] (λv l=>∃A' c' B' d',v=.tuple #[.agg #[vI (M),vI (p),.slice A' (del h us).length c',.slice B' (del h us).length d'],vI ((iV us).getD k 0),vI 0]/\l=[.abs (aH 3 1 A' (del h us).length c' (bH (bn (del h us)))),.abs (aH 3 1 B' (del h us).length d' (bH (iV (del h us))))]):=by
 have hkp:=zy hk
 refine SE Tryz.func85 Tryz.ntmps85 (λR=>SR (jB 1 [2] (λAx=>.aD Ax [vI (M),vI (p),.slice A (us.length) (c),.slice B (us.length) (d)] 43) (λAx=>jB 3 [4] (λAy=>.aD Ay [vI 0,vI 0,.slice none (0) (0),.slice none (0) (0)] 43) (λAy=>NS (jK 2 [10,11] [(0,A_ 1 Ax 4)] (gE [] (EO M p A B c d us hA hl h) (sl 12 (vI ((tX (bn us) h))) (.int .i64 ↑k) (aaE fH) (jK 1 [7] [] (NZ (jK 2 [14] [(1,wF (((k:Int):Int)<(0:Int)))] (NF (KX (SR (jN 7 [8] (λAz=>[(1,a_ 1 Ax),(3,a_ 1 Ax),(6,A_ 3 Az 4)]) (λ_=>[]) (λAz=>.aD Az [vI (M),vI (p),.slice none (0) (0),.slice none (0) (0)] 43) (λAz=>NZ (av.mem (λw hS=>(hS.mB (e:=3) (size:=1)).mB (e:=3) (size:=1)) (jK 1 [9] [] (NN (aq.block (lJ (λ(i,q,Ah,ch,Av,cv)=>(i<=us.length)/\(q=del h (us.take i))/\(q.length<=i)) (λ(i,q,Ah,ch,Av,cv)=>us.length-i) (λ(i,q,Ah,ch,Av,cv)=>[(2,vP Ax),(4,vP Ay),(7,vI ↑k),(8,vP Az),(9,vI ↑i)]) (λ(i,q,Ah,ch,Av,cv)=>[.aD Ax [vI (M),vI (p),.slice A (us.length) (c),.slice B (us.length) (d)] 43,.aD Az [vI (M),vI (p),.slice Ah (q.length) (ch),.slice Av (q.length) (cv)] 43,.abs (aH 3 1 Ah q.length ch (bH (bn q))),.abs (aH 3 1 Av q.length cv (bH (iV q))),.aD Ay [vI 0,vI 0,.slice none (0) (0),.slice none (0) (0)] 43,.abs R]) (0,[],none,0,none,0) [1,3,4,5,2,0] (⟨ag0 _,by rw [List.take_zero];rfl,ag5 _⟩) ?_))))))))))))))))))))
 rintro⟨i,q,Ah,ch,Av,cv⟩ ⟨hi,hq,vR⟩
 refine SQ (jK 5 [25] [(2,a_ 0 Ax)] (NN (cP ((((i:Nat):Int):Int)<(((us.length:Nat):Int):Int)) (λpR=>?_) (λpR=>?_))))
 ·refine KX (aq.seq (aq.block (SR ?_)))
  have hpi:=zy (us:=us) (i:=i) zc
  refine jK 3 [30] [] (NN (cN ((((i:Nat):Int):Int)=(((k:Nat):Int):Int)) (λnM=>aq.seq (rM (List.range 11) 7 [0,1,4,5] (jR 7 [2,4,7,8,9,32,37] [(1,a_ 1 Az),(3,a_ 0 Ax),(5,x_ i us.length (lS.hd hA (j:=i) (by rw [j5];omega))),(6,r_ (lS.rd hA (j:=i) (by rw [j5];omega)))] (mN [0,1,4,5] (λO0=>[(38,.slice (some ⟨O0,0,none⟩) (1) (1))]) (λ_=>[]) (λO0=>.aD O0 [vI (((bn us).getD i 0))] 3) (λO0=>ck.cut (ι:=(Option Addr)×Nat) (bU:=λ((D1,D2):(Option Addr)×Nat)=>[(2,vP Ax),(4,vP Ay),(7,vI ↑k),(8,vP Az),(9,vI ↑i),(39,.slice D1 ((q++[(pr us i)]).length) (D2))]) (dI:=λ((D1,D2):(Option Addr)×Nat)=>[.aD Ax [vI (M),vI (p),.slice A (us.length) (c),.slice B (us.length) (d)] 43,.aD Az [vI (M),vI (p),.slice Ah (q.length) (ch),.slice Av (q.length) (cv)] 43,.abs (aH 3 1 D1 ((q++[(pr us i)]).length) D2 (bH (bn (q++[(pr us i)])))),.abs (aH 3 1 Av q.length cv (bH (iV q))),.aD Ay [vI 0,vI 0,.slice none (0) (0),.slice none (0) (0)] 43,.abs R,.aD O0 [vI (((bn us).getD i 0))] 3]) [0,1,4,5] rfl rfl ?_ rfl (λ_=>KB) ?_))))) (λnM=>KX (aq.region (jK 3 [9] [(1,wJ ((i:Int)+1) (↑(i+1)))] (NL (tJ ((i+1),q,Ah,ch,Av,cv) [0,1,2,3,4,5] (⟨zc,by grind [OW],Pe⟩))))))))
  ·exact mR 2 41 (some ⟨O0,0,none⟩) 1 1 [vI (((bn us).getD i 0))] rfl (fP (j:=6) rfl) (λD1 D2=>av.cL 2 rfl (KN (x:=(pr us i)) hpi.1) (sl 39 (.slice D1 (q.length+1) (D2)) (.slice D1 ((q++[(pr us i)]).length) (D2)) (by rw [iN q (pr us i)]) (NL (MD (D1,D2) [2,4,7,8,9,39] [0,1,2,3,4,5,6])))) (n:=q.length) (hb:=by have:=vR;have:=vR;omega)
  rintro⟨D1,D2⟩
  refine nC [0,1,4,5] [40] [] [] (ck.last rfl rfl (jC 1 [] [(0,a_ 1 Az)] [(1,[(2,.slice D1 ((q++[(pr us i)]).length) (D2))])] (NL (aB.np (NX (rM (List.range 11) 7 [0,1,4,5,6] (jR 7 [2,4,7,8,9,42,47] [(1,a_ 1 Az),(3,a_ 0 Ax),(5,x_ i us.length (lS.hd hB (j:=i) (by rw [mH];omega))),(6,r_ (lS.rd hB (j:=i) (by rw [mH];omega)))] (mN [0,1,4,5,6] (λRW=>[(48,.slice (some ⟨RW,0,none⟩) (1) (1))]) (λ_=>[]) (λRW=>.aD RW [vI (((iV us).getD i 0))] 3) (λRW=>ck.cut (ι:=(Option Addr)×Nat) (bU:=λ((Gx,Gy):(Option Addr)×Nat)=>[(2,vP Ax),(4,vP Ay),(7,vI ↑k),(8,vP Az),(9,vI ↑i),(49,.slice Gx ((q++[(pr us i)]).length) (Gy))]) (dI:=λ((Gx,Gy):(Option Addr)×Nat)=>[.aD Ax [vI (M),vI (p),.slice A (us.length) (c),.slice B (us.length) (d)] 43,.aD Az [vI (M),vI (p),.slice D1 ((q++[(pr us i)]).length) (D2),.slice Av (q.length) (cv)] 43,.abs (aH 3 1 D1 ((q++[(pr us i)]).length) D2 (bH (bn (q++[(pr us i)])))),.abs (aH 3 1 Gx ((q++[(pr us i)]).length) Gy (bH (iV (q++[(pr us i)])))),.aD Ay [vI 0,vI 0,.slice none (0) (0),.slice none (0) (0)] 43,.abs R,.aD O0 [vI (((bn us).getD i 0))] 3,.aD RW [vI (((iV us).getD i 0))] 3]) [0,1,4,5,6] rfl rfl ?_ rfl (λ_=>KB) ?_)))))))))
  ·exact mR 3 41 (some ⟨RW,0,none⟩) 1 1 [vI (((iV us).getD i 0))] rfl (fP (j:=7) rfl) (λGx Gy=>av.cL 3 rfl (KO (x:=(pr us i)) hpi.2) (sl 49 (.slice Gx (q.length+1) (Gy)) (.slice Gx ((q++[(pr us i)]).length) (Gy)) (by rw [iN q (pr us i)]) (NL (MD (Gx,Gy) [2,4,7,8,9,49] [0,1,2,3,4,5,6,7])))) (n:=q.length) (hb:=by have:=vR;have:=vR;omega)
  rintro⟨Gx,Gy⟩
  exact nC [0,1,4,5,6] [50] [] [] (ck.last rfl rfl (jC 1 [] [(0,a_ 1 Az)] [(1,[(3,.slice Gx ((q++[(pr us i)]).length) (Gy))])] (NL (aB.np (BX (aq.region (jK 3 [9] [(1,wJ ((i:Int)+1) (↑(i+1)))] (NL (tJ ((i+1),(q++[(pr us i)]),D1,D2,Gx,Gy) [0,1,2,3,4,5] (⟨zc,(by grind [OW,Jv]),Pe⟩))))))))))
 refine XX (aq.seq (rM (List.range 9) 6 [0,1] (jR 6 [4,51,56] [(0,A_ 1 Az 4),(2,a_ 0 Ax),(4,x_ k us.length (lS.hd hB (j:=k) (by rw [mH];omega))),(5,r_ (lS.rd hB (j:=k) (by rw [mH];omega)))] (nC [0,1] [] [(0,A_ 4 Ay 4)] [(4,[(0,vI (M)),(1,vI (p)),(2,.slice Ah (q.length) (ch)),(3,.slice Av (q.length) (cv))])] (nC [0,1] [5] [] [] (ck.last rfl rfl (jK 1 [6] [] (NL (aB.np (NX (aq.ret ?_)))))))))))
 have JC:q=del h us:=Pe
 exact rT _ [A_ 4 Ay 4] [2,3,5] (⟨Ah,ch,Av,cv,by rw [←JC],by rw [←JC]⟩)
theorem TU {β:Bs} (M p:Int) (A B:Option Addr) (c d:Nat) (us:bE Int) (hA:cC β A (bH (bn us))) (hl:us.length<=16777216) (h:Int) (fH:tX (bn us) h = -1) :
 aW Tryz.prog β 85 #[.agg #[vI (M),vI (p),.slice A (us.length) (c),.slice B (us.length) (d)],vI h] [] (λv l=>v=.tuple #[.agg #[vI (M),vI (p),.slice A (us.length) (c),.slice B (us.length) (d)],vI 0,vI 131]/\l=[]):=by
 exact SE Tryz.func85 Tryz.ntmps85 (λR=>SR (jB 1 [2] (λud=>.aD ud [vI (M),vI (p),.slice A (us.length) (c),.slice B (us.length) (d)] 43) (λud=>jB 3 [4] (λyg=>.aD yg [vI 0,vI 0,.slice none (0) (0),.slice none (0) (0)] 43) (λyg=>NS (jK 2 [10,11] [(0,A_ 1 ud 4)] (gE [] (EO M p A B c d us hA hl h) (jK 1 [7] [] (NZ (jK 2 [14] [] (NN (cP (((tX (bn us) h):Int)<(0:Int)) (λmw=>SR (jC 4 [5,6] [(0,A_ 1 ud 4),(1,A_ 2 yg 4)] [(2,[(0,vI (M)),(1,vI (p)),(2,.slice A (us.length) (c)),(3,.slice B (us.length) (d))])] (eS [A_ 2 yg 4] ⟨rfl,rfl⟩))) (λmw=>agY mw (by omega)))))))))))))
end
section
open Go.RowKit Go.Maps bK aF
section p
variable {R:RS} {h dZ e id:Int} {name:ByteArray} {d k to:Nat} {c:aN} {n:aO}
def exV:Except Int Nat->Value
 |.error e=>.tuple #[.int .i64 0,.int .i64 e]
 |.ok k=>.tuple #[.int .i64 k,.int .i64 0]
theorem V9 {us:bE Int} (hr:aF.dH (bn us)) {h:Int} (hm:h∈bn us):∃k:Nat,tX (bn us) h=(k:Int)/\k<us.length/\(bn us).getD k 0=h/\aF.get us h=some ((iV us).getD k 0):=by
 grind [RQ,j5,zy,ads]
theorem KP (hm:h∉bn R.us):tX (bn R.us) h = -1/\iD R h=.error 131:=⟨RR hm,by unfold iD;rw [get_none.2 hm]⟩
theorem RX (hC:RC R) (hm:h∈bn R.us):∃k:Nat,tX (bn R.us) h=(k:Int)/\k<R.us.length/\iD R h=.ok (bY R.ns ((iV R.us).getD k 0))/\gI R.ns ((iV R.us).getD k 0)=(bY R.ns ((iV R.us).getD k 0):Int):=by
 obtain⟨k,h1,h2,h3,h4⟩:=V9 hC.usr hm
 exact⟨k,h1,h2,by unfold iD;rw [h4],(mU (hC.hand _ (BH (by rw [mH];exact h2)))).2.2⟩
theorem tI (hC:RC R) (h:Int):iD R h=.error 131\/∃k,iD R h=.ok k/\k<R.ns.length:=by
 by_cases hm:h∈bn R.us
 ·obtain⟨k,_,h2,h3,_⟩:=RX hC hm
  exact .inr ⟨_,h3,(mU (hC.hand _ (BH (by rw [mH];exact h2)))).1⟩
 exact .inl (KP hm).2
theorem Wa (hh:iD R h=.error e):ic R h name dZ=.error e:=by unfold ic;rw [hh]
theorem RY (hh:iD R h=.ok d) (hk:¬(nd R.ns d).kind=2):ic R h name dZ=.error 173:=by unfold ic;rw [hh];exact agV hk
theorem O3 (hh:iD R h=.ok d) (hk:(nd R.ns d).kind=2) (hg:(nd R.ns d).id∈R.aG):ic R h name dZ=.error 170:=by unfold ic;rw [hh];exact (agW hk).trans (agW hg)
theorem O4 (hh:iD R h=.ok d) (hk:(nd R.ns d).kind=2) (hg:¬(nd R.ns d).id∈R.aG) (hn:¬cq name):ic R h name dZ=.error 95:=by unfold ic;rw [hh];exact (agW hk).trans ((agV hg).trans (agV hn))
theorem O5 (hh:iD R h=.ok d) (hk:(nd R.ns d).kind=2) (hg:¬(nd R.ns d).id∈R.aG) (hn:cq name) (hb:¬bits BinOp.and .i64 (nd R.ns d).mode dZ=dZ):ic R h name dZ=.error 175:=by unfold ic;rw [hh];exact (agW hk).trans ((agV hg).trans ((agW hn).trans (agV hb)))
theorem Wb (hh:iD R h=.ok d) (hk:(nd R.ns d).kind=2) (hg:¬(nd R.ns d).id∈R.aG) (hn:cq name) (hb:bits BinOp.and .i64 (nd R.ns d).mode dZ=dZ):ic R h name dZ=.ok d:=by unfold ic;rw [hh];exact (agW hk).trans ((agV hg).trans ((agW hn).trans (agW hb)))
theorem rF (hC:RC R) (h:Int) (name:ByteArray) (dZ:Int):(∃e,ic R h name dZ=.error e/\¬e=0)\/∃d,ic R h name dZ=.ok d/\d<R.ns.length:=by
 rcases tI hC h with hh|⟨k,hh,hk⟩
 all_goals grind [Wa,nd,O3,cq,Wb,O5,O4,RY]
noncomputable def Dv (R:RS) (c:aN) (dZ:Int):Value:=match ic R c.aL c.name dZ with
 |.error e=>.tuple #[.int .i64 0,.int .i64 0,.int .i64 e]
 |.ok f=>match ic R c.other c.text 192 with
   |.error e=>.tuple #[.int .i64 f,.int .i64 0,.int .i64 e]
   |.ok to=>.tuple #[.int .i64 f,.int .i64 to,.int .i64 0]
theorem Wd (h:ic R c.aL c.name dZ=.error e):Dv R c dZ=.tuple #[.int .i64 0,.int .i64 0,.int .i64 e]:=by unfold Dv;rw [h]
theorem Wf (h:ic R c.aL c.name dZ=.ok d) (h2:ic R c.other c.text 192=.error e):Dv R c dZ=.tuple #[.int .i64 d,.int .i64 0,.int .i64 e]:=by unfold Dv;rw [h];simp only [h2]
theorem Wg (h:ic R c.aL c.name dZ=.ok d) (h2:ic R c.other c.text 192=.ok to):Dv R c dZ=.tuple #[.int .i64 d,.int .i64 to,.int .i64 0]:=by unfold Dv;rw [h];simp only [h2]
theorem LQ (hC:RC R) (c:aN) (dZ:Int):(∃a e,qC R c dZ=.error e/\¬e=0/\Dv R c dZ=.tuple #[.int .i64 a,.int .i64 0,.int .i64 e])\/∃f to,qC R c dZ=.ok (f,to)/\f<R.ns.length/\to<R.ns.length/\Dv R c dZ=.tuple #[.int .i64 f,.int .i64 to,.int .i64 0]:=by
 rcases rF hC c.aL c.name dZ with ⟨e,h1,h2⟩|⟨f,h1,h2⟩
 ·exact .inl ⟨0,e,by unfold qC;rw [h1],h2,Wd h1⟩
 rcases rF hC c.other c.text 192 with ⟨e,h3,h4⟩|⟨to,h3,h4⟩
 ·exact .inl ⟨f,e,by unfold qC;rw [h1];simp only [h3],h4,Wf h1 h3⟩
 exact .inr ⟨f,to,by unfold qC;rw [h1];simp only [h3],h2,h4,Wg h1 h3⟩
theorem kz (ns:List aO) (d:Nat) (name:ByteArray):bV ns d name = -1\/∃k:Nat,bV ns d name=(k:Int)/\k<ns.length:=by
 unfold bV
 split
 ·exact .inl rfl
 rename_i j _
 by_cases h:0<=gI ns (en (nd ns d).ah j).id
 ·exact .inr ⟨_,(mU h).2.2,(mU h).1⟩
 exact .inl (Cz h)
theorem Zb (h:¬(R.ns.length:Int)<R.cN):false=decide (vE R):=(agZ (λq=>h q.1)).symm
theorem Zc (h:¬R.last<1099511627776):false=decide (vE R):=(agZ (λq=>h q.2.1)).symm
theorem adu (h:(R.ns.length:Int)<R.cN) (h2:R.last<1099511627776):decide ((dJ R.ns R.ns.length:Int)<8192)=decide (vE R):=ahb.2 ⟨λq=>⟨h,h2,q⟩,λq=>q.2.2⟩
theorem adv (h:¬0<=id):false=decide (jS id):=(agZ (λq=>h q.1)).symm
theorem ae0 (h:0<=id):decide (id<=4095)=decide (jS id):=ahb.2 ⟨λq=>⟨h,q⟩,λq=>q.2⟩
theorem Zd (h:name=⟨#[]⟩):90=kW name:=by unfold kW;rw [agW h]
theorem Wh (h:¬name=⟨#[]⟩) (h2:4096<(name.size:Int)):93=kW name:=by unfold kW;rw [agV h,agW zc]
theorem Wi (h:¬name=⟨#[]⟩) (h2:¬4096<(name.size:Int)) (h3:∀q,q<name.size->¬dL name q=0):0=kW name:=by unfold kW;rw [agV h,agV zc,agW (show qJ name from h3)]
theorem Ze (h:¬name=⟨#[]⟩) (h2:¬4096<(name.size:Int)) {q:Nat} (hq:q<name.size) (h3:dL name q=0):91=kW name:=by unfold kW;rw [agV h,agV zc,agV (λg=>g q hq h3)]
def exA:Except Int Nat->Int
 |.error _=>0
 |.ok k=>k
def exE:Except Int Nat->Int
 |.error e=>e
 |.ok _=>0
theorem adw (x:Except Int Nat):exV x=.tuple #[.int .i64 (exA x),.int .i64 (exE x)]:=by cases x<;>rfl
noncomputable def qu (R:RS) (c:aN):Except Int Nat:=if c.op=12 then (match ic R c.aL c.name 64 with|.error e=>.error e|.ok d=>if 0<=bV R.ns d c.name then .ok (bV R.ns d c.name).toNat else .error 170) else iD R c.aL
theorem O6:qL R c=match qu R c with|.error e=>Jw c e|.ok k=>FP R c k:=by
 unfold qL qu
 grind
theorem Zf (h:qu R c=.error e):qL R c=Jw c e:=by rw [O6,h]
theorem Zg (h:qu R c=.ok k):qL R c=FP R c k:=by rw [O6,h]
theorem JD (h:¬c.op=12):iD R c.aL=qu R c:=by unfold qu;rw [agV h]
theorem LR (h:c.op=12) (ha:ic R c.aL c.name 64=.error e):.error e=qu R c:=by unfold qu;rw [agW h,ha]
theorem JE (h:c.op=12) (ha:ic R c.aL c.name 64=.ok d) (hl:bV R.ns d c.name = -1):.error 170=qu R c:=by unfold qu;rw [agW h,ha];simp only;rw [agV (by rw [hl];decide)]
theorem JF (h:c.op=12) (ha:ic R c.aL c.name 64=.ok d) (hl:bV R.ns d c.name=(k:Int)):.ok k=qu R c:=by unfold qu;rw [agW h,ha];simp only;rw [agW (by rw [hl];omega),hl];rfl
theorem QM (hC:RC R) (c:aN):(∃e,qu R c=.error e/\¬e=0)\/∃k,qu R c=.ok k/\k<R.ns.length:=by
 by_cases h:c.op=12
 ·rcases rF hC c.aL c.name 64 with ⟨e,h1,h2⟩|⟨d,h1,_⟩
  ·exact .inl ⟨e,(LR h h1).symm,h2⟩
  rcases kz R.ns d c.name with h2|⟨k,h2,h3⟩
  ·grind [JE]
  exact .inr ⟨k,(JF h h1 h2).symm,h3⟩
 rw [←JD h]
 rcases tI hC c.aL with h1|h1
 ·exact .inl ⟨_,h1,Pd⟩
 exact .inr h1
end p
end
section
open Go.RowKit Go.Maps bK aF
attribute [local irreducible] av bN aq aB
noncomputable abbrev zQ1 (dc)(top)(b5:Nat) (st):=([(1,vI ↑dc),(2,vI ↑top),(3,vP b5),(7,vI ↑st)]:Fr)
theorem Zh {β:Bs} (Z:RS) (Y:RL) (hR:dz β Z Y) (hB:RB Z) :
 aW Tryz.prog β 116 #[.agg ⟨rV Z Y⟩] [] (λv l=>v=.bool (decide (vE Z))/\l=[]):=by
 exact SE Tryz.func116 Tryz.ntmps116 (λR=>SR (jB 2 [1] (λb1=>.aD b1 (rV Z Y) 45) (λb1=>NS (jK 9 [11] [(2,a_ 1 b1),(6,a_ 1 b1)] (sP 11 ((((Z.ns.length:Nat):Int):Int)<(Z.cN:Int)) (λh11=>jK 5 [16] [(1,a_ 1 b1)] (sP 16 ((Z.last:Int)<(1099511627776:Int)) (λo6=>jK 1 [17] [(0,A_ 1 b1 12)] (gE [] (OZ Z Y hR hB) (jK 3 [2] [] (eN ⟨agX Value.bool (adu h11 o6),rfl⟩)))) (λo6=>jK 5 [2] [] (eN ⟨agX Value.bool (Zc o6),rfl⟩)))) (λh11=>jK 10 [2] [] (eN ⟨agX Value.bool (Zb h11),rfl⟩)))))))
theorem sX {β:Bs} (Z:RS) (Y:RL) (hR:dz β Z Y) (hC:RC Z) (hx:Int) :
 aW Tryz.prog β 74 #[.agg ⟨rV Z Y⟩,vI (hx)] [] (λv l=>v=exV (iD Z hx)/\l=[]):=by
 refine SE Tryz.func74 Tryz.ntmps74 (λR=>SR (jB 3 [2] (λb2=>.aD b2 (rV Z Y) 45) (λb2=>NN (aq.seq ?_))))
 by_cases hm:hx∈bn Z.us
 ·obtain⟨k,fH,hk,hh,hat⟩:=RX hC hm
  exact aq.region (jK 3 [8,9] [(1,A_ 1 b2 4)] (gE [] ((EO Z.cH Z.aJ Y.H Y.V Y.ch Y.cv Z.us hR.h (by have:=hC.us;omega) hx).val (agX (Value.int .i64) fH)) (jK 1 [6] [] (NZ (jK 2 [12] [(1,wF (((k:Int):Int)<(0:Int)))] (NF (KX (aq.seq (rQ (jQ 8 [14,20] [(1,a_ 1 b2),(4,a_ 1 b2),(6,x_ k Z.us.length (xg.hd (l:=(iV Z.us)) hR.v (j:=k) (by grind [j5,mH]))),(7,r_ (xg.rd (l:=(iV Z.us)) hR.v (j:=k) (by grind [j5,mH])))] (mD [] [0,1] (.int .i64 ↑(bY Z.ns ((iV Z.us).getD k 0))) ((yY Y.A Y.c Z.ns Y.L hR.n hC.fI (by have:=hC.ns;omega) ((iV Z.us).getD k 0)).val (agX (Value.int .i64) hat)) (jQ 2 [4,5] [] (NQ (NX (aq.ret (RT _ [0] (⟨(agX exV hh).symm,rfl⟩)))))))))))))))))
 obtain⟨fH,hh⟩:=KP hm
 exact aq.region (jK 3 [8,9] [(1,A_ 1 b2 4)] (gE [] ((EO Z.cH Z.aJ Y.H Y.V Y.ch Y.cv Z.us hR.h (by have:=hC.us;omega) hx).val (agX (Value.int .i64) fH)) (jK 1 [6] [] (NZ (jK 2 [12] [] (NT (zR ⟨(agX exV hh).symm,rfl⟩)))))))
theorem oU {β:Bs} (Z:RS) (Y:RL) (hR:dz β Z Y) (hC:RC Z) (hx:Int) (name:ByteArray) (hn:name.size<=1048576) (dZ:Int) :
 aW Tryz.prog β 75 #[.agg ⟨rV Z Y⟩,vI (hx),.string name,vI (dZ)] [] (λv l=>v=exV (ic Z hx name dZ)/\l=[]):=by
 refine SE Tryz.func75 Tryz.ntmps75 (λR=>SR (jB 3 [4] (λb3=>.aD b3 (rV Z Y) 45) (λb3=>NS (jK 2 [14,15] [(0,A_ 1 b3 12)] ?_))))
 rcases tI hC hx with hh|⟨d,hh,hd⟩
 ·exact gE [] ((sX Z Y hR hC hx).val (agX exV hh)) (jK 5 [10,11] [] (NZ (jK 2 [20] [] (NT (zR ⟨(agX exV (Wa hh)).symm,rfl⟩)))))
 exact gE [] ((sX Z Y hR hC hx).val (agX exV hh)) (jK 5 [10,11] [] (NZ (jK 2 [20] [] (NF (KX (SR (jN 8 [12] (λb4=>[(2,a_ 1 b3),(4,x_ d Z.ns.length (aP.hd hR.n (i:=d) zc)),(5,DR (iq Y.L d (nd Z.ns d)) (λ_ _ h=>aP.rd hR.n zc h)),(7,A_ 2 b4 10)]) (λ_=>[]) (λb4=>.aD b4 (iq Y.L d (nd Z.ns d)) 95) (λb4=>NZ (jK 3 [30] [(1,a_ 2 b4)] (NN (cN (((nd Z.ns d).kind:Int)=(2:Int)) (λnM=>zR ⟨(agX exV (RY hh nM)).symm,rfl⟩) (λnM=>KX (SQ (jK 3 [31,33] [(0,A_ 1 b3 12),(2,a_ 2 b4)] (gE [] (wC Z Y hR hC.toRB (nd Z.ns d).id) (NN (cP ((nd Z.ns d).id∈Z.aG) (λxI=>zR ⟨(agX exV (O3 hh nM xI)).symm,rfl⟩) (λxI=>KX (SQ (jK 1 [35] [] (gE [] (C9 name hn) (jK 1 [37] [] (NN (cN (cq name) (λyK=>zR ⟨(agX exV (O4 hh nM xI yK)).symm,rfl⟩) (λyK=>KX (SQ (jK 6 [43] [(1,a_ 2 b4)] (NN (cN ((bits BinOp.and .i64 ((nd Z.ns d).mode) dZ:Int)=(dZ:Int)) (λIW=>zR ⟨(agX exV (O5 hh nM xI yK IW)).symm,rfl⟩) (λIW=>KX (zR ⟨(agX exV (Wb hh nM xI yK IW)).symm,rfl⟩)))))))))))))))))))))))))))))))
theorem Zi {β:Bs} (name:ByteArray) (hn:name.size<=1048576) :
 aW Tryz.prog β 115 #[.string name] [] (λv l=>v=vI (kW name)/\l=[]):=by
 refine SE Tryz.func115 Tryz.ntmps115 (λR=>SR (jK 1 [] [] (NZ (jK 2 [5] [(1,w_ (.bool (decide ((name:ByteArray)=⟨#[]⟩))) (qN _ _))] (NN (cP ((name:ByteArray)=⟨#[]⟩) (λh5=>zR ⟨agX (Value.int .i64) (Zd h5),rfl⟩) (λh5=>KX (SQ (jK 3 [8] [] (NN (cP (((((name:ByteArray).size:Nat):Int):Int)>(4096:Int)) (λh8=>zR ⟨agX (Value.int .i64) (Wh h5 h8),rfl⟩) (λh8=>KX (SQ (jK 1 [3] [] (NN (aq.block (lJ (λ(i:Nat)=>(i<=name.size)/\(∀q,q<i->¬dL name q=0)) (λ(i:Nat)=>name.size-i) (λ(i:Nat)=>[(0,.string name),(3,vI ↑i)]) (λ(i:Nat)=>[.abs R]) 0 [0] (⟨ag0 _,λq hq=>agY hq (ag2 q)⟩) ?_)))))))))))))))))
 rintro i ⟨hi,iP⟩
 exact SQ (jK 4 [12] [] (NN (cP ((((i:Nat):Int):Int)<((((name:ByteArray).size:Nat):Int):Int)) (λh12=>KX (aq.seq (aq.block (SR (jK 4 [18] [(2,xP i (i<(name:ByteArray).size))] (NN (cP ((((((name:ByteArray).data.getD (i) 0).toNat:Nat):Int):Int)=(0:Int)) (λpU=>zR ⟨agX (Value.int .i64) (Ze h5 h8 (q:=i) zc (by unfold dL;omega)),rfl⟩) (λpU=>KX (aq.region (jK 3 [3] [(1,wJ ((i:Int)+1) (↑(i+1)))] (NL (tJ ((i+1)) [0] (⟨zc,λq hq=>by grind [dL]⟩))))))))))))) (λh12=>XX (zR ⟨agX (Value.int .i64) (Wi h5 h8 (λq hq=>iP q zc)),rfl⟩)))))
theorem O7 {β:Bs} (m:Int) :
 aW Tryz.prog β 103 #[vI m] [] (λv l=>v=.bool (decide (jS m))/\l=[]):=by
 exact SE Tryz.func103 Tryz.ntmps103 (λR=>SR (jK 1 [] [] (NS (jK 3 [5] [] (sP 5 ((m:Int)>=(0:Int)) (λh5=>jK 4 [2] [] (eN ⟨agX Value.bool (ae0 h5),rfl⟩)) (λh5=>jK 4 [2] [] (eN ⟨agX Value.bool (adv h5),rfl⟩)))))))
theorem Wj {β:Bs} (Z:RS) (Y:RL) (hR:dz β Z Y) (hB:RB Z) (d top:Nat) (hd:d<Z.ns.length) :
 aW Tryz.prog β 105 #[.agg ⟨rV Z Y⟩,vI (((d:Nat):Int)),vI (((top:Nat):Int))] [] (λv l=>v=.bool (jE Z.ns top (Z.ns.length+1) d)/\l=[]):=by
 refine SE Tryz.func105 Tryz.ntmps105 (λR=>SR (jB 2 [3] (λb5=>.aD b5 (rV Z Y) 45) (λb5=>NZ (jK 1 [7] [] (NN (aq.block (lJ (λ(st,dc)=>(st<=Z.ns.length+1)/\(dc<Z.ns.length)/\(jE Z.ns top (Z.ns.length+1-st) dc=(jE Z.ns top (Z.ns.length+1) d))) (λ(st,dc)=>Z.ns.length+1-st) (λ(st,dc)=>(zQ1 dc top b5 st)) (λ(st,dc)=>[.abs R,.aD b5 (rV Z Y) 45]) (0,d) [0,1] (⟨ag0 _,hd,rfl⟩) ?_)))))))
 rintro⟨st,dc⟩ ⟨hst,hdc,hbl⟩
 have hbn:=hB.ns
 refine SQ (jK 6 [16] [(3,a_ 1 b5)] (NN (cP ((((st:Nat):Int):Int)<=(((Z.ns.length:Nat):Int):Int)) (λo6=>KX (aq.seq (aq.block (SQ (jK 3 [21] [] (NN (cP ((((dc:Nat):Int):Int)=(((top:Nat):Int):Int)) (λsy=>?_) (λsy=>?_)))))))) (λo6=>XX (zR (v:=(.bool false)) ⟨by rw [←hbl,show Z.ns.length+1-st=0 by omega];rfl,rfl⟩)))))
 ·replace sy:dc=top:=zc
  exact zR ⟨by rw [←hbl,show Z.ns.length+1-st=(Z.ns.length-st)+1 by omega,sy,V5],rfl⟩
 replace sy:¬dc=top:=zc
 refine KX (SR (jK 1 [8] [] (NZ (sl 8 (vI (-1)) (.int .i64 ((oG Z.ns (nd Z.ns dc).id 0))) (rfl) (jK 1 [9] [] (NN (aq.block (lJ (λ(i:Nat)=>(i<=Z.ns.length)) (λ(i:Nat)=>Z.ns.length-i) (λ(i:Nat)=>(zQ1 dc top b5 st++[(8,vI ((oG Z.ns (nd Z.ns dc).id i))),(9,vI ↑i)])) (λ(i:Nat)=>[.abs R,.aD b5 (rV Z Y) 45]) 0 [0,1] (ag0 _) ?_))))))))
 rintro i hi
 refine SQ (jK 6 [27] [(3,a_ 1 b5)] (NN (cP ((((i:Nat):Int):Int)<(((Z.ns.length:Nat):Int):Int)) (λxE=>KX (aq.seq (aq.block (SR (sl 8 (vI ((oG Z.ns (nd Z.ns dc).id i))) (.int .i64 ((BI Z.ns (nd Z.ns dc).id i 0))) (agX (Value.int .i64) Y4) (jK 1 [10] [] (NN (aq.block (lJ (λ(j:Nat)=>(j<=(nd Z.ns i).ah.length)) (λ(j:Nat)=>(nd Z.ns i).ah.length-j) (λ(j:Nat)=>(zQ1 dc top b5 st++[(8,vI ((BI Z.ns (nd Z.ns dc).id i j))),(9,vI ↑i),(10,vI ↑j)])) (λ(j:Nat)=>[.abs R,.aD b5 (rV Z Y) 45]) 0 [0,1] (ag0 _) ?_))))))))) (λxE=>XX (SQ (sl 8 (vI ((oG Z.ns (nd Z.ns dc).id i))) (.int .i64 ((oG Z.ns (nd Z.ns dc).id Z.ns.length))) (by rw [show i=Z.ns.length by omega]) (jK 2 [63] [] (NN (cP (((oG Z.ns (nd Z.ns dc).id Z.ns.length):Int)<(0:Int)) (λh63=>zR ⟨by rw [←hbl,show Z.ns.length+1-st=(Z.ns.length-st)+1 by omega,TS sy h63],rfl⟩) (λh63=>KX (aq.region (sl 8 (vI ((oG Z.ns (nd Z.ns dc).id Z.ns.length))) (.int .i64 ↑((oG Z.ns (nd Z.ns dc).id Z.ns.length).toNat)) (agX (Value.int .i64) zc) (jK 2 [1] [] (LX (aq.region (jK 3 [7] [(1,wJ ((st:Int)+1) (↑(st+1)))] (NL (tJ ((st+1),(oG Z.ns (nd Z.ns dc).id Z.ns.length).toNat) [0,1] (⟨zc,by have:=V4 (ns:=Z.ns) (id:=(nd Z.ns dc).id) Z.ns.length;omega,by rw [←hbl,show Z.ns.length+1-st=(Z.ns.length+1-(st+1))+1 by omega,Y7 sy h63]⟩)))))))))))))))))))
 rintro j hj
 have hrw:=hB.row (i:=i) zc
 exact SQ (jK 10 [39] [(3,a_ 1 b5),(5,x_ i Z.ns.length (aP.hd hR.n (i:=i) zc)),(7,r_ (aP.rd hR.n (i:=i) zc (j:=9) rfl))] (NN (cP ((((j:Nat):Int):Int)<((((nd Z.ns i).ah.length:Nat):Int):Int)) (λnh=>KX (aq.seq (aq.block (aq.seq (rQ (jQ 19 [60] [(2,a_ 1 b5),(4,x_ i Z.ns.length (aP.hd hR.n (i:=i) zc)),(6,r_ (aP.rd hR.n (i:=i) zc (j:=9) rfl)),(8,x_ j ((nd Z.ns i).ah.length) (cU.hd (hR.n.ah i zc) (i:=j) zc)),(10,r_ (cU.rd (hR.n.ah i zc) (i:=j) zc (j:=1) rfl)),(13,a_ 1 b5),(15,x_ dc Z.ns.length (aP.hd hR.n (i:=dc) zc)),(17,r_ (aP.rd hR.n (i:=dc) zc (j:=0) rfl))] (NQ (NX (cP (((en (nd Z.ns i).ah j).id:Int)=((nd Z.ns dc).id:Int)) (λNI=>aq.region (jK 2 [8] [] (LX (aq.region (sl 8 (vI ↑i) (.int .i64 ((BI Z.ns (nd Z.ns dc).id i (j+1)))) (agX (Value.int .i64) (ab6 NI)) (jK 3 [10] [(1,wJ ((j:Int)+1) (↑(j+1)))] (NL (tJ ((j+1)) [0,1] (zc))))))))) (λNI=>KX (aq.region (sl 8 (vI ((BI Z.ns (nd Z.ns dc).id i j))) (.int .i64 ((BI Z.ns (nd Z.ns dc).id i (j+1)))) (agX (Value.int .i64) (Y6 NI)) (jK 3 [10] [(1,wJ ((j:Int)+1) (↑(j+1)))] (NL (tJ ((j+1)) [0,1] (zc)))))))))))))))) (λnh=>XX (aq.region (sl 8 (vI ((BI Z.ns (nd Z.ns dc).id i j))) (.int .i64 ((oG Z.ns (nd Z.ns dc).id (i+1)))) (by rw [←ab5,show j=(nd Z.ns i).ah.length by omega]) (jK 3 [9] [(1,wJ ((i:Int)+1) (↑(i+1)))] (NL (tJ ((i+1)) [0,1] (zc))))))))))
theorem FQ {β:Bs} (Z:RS) (Y:RL) (hR:dz β Z Y) (hC:RC Z) (c:aN) (hn:c.name.size<=1048576) (ht:c.text.size<=1048576) (dZ:Int) :
 aW Tryz.prog β 80 #[.agg ⟨rV Z Y⟩,.agg ⟨aQ c⟩,vI (dZ)] [] (λv l=>v=Dv Z c dZ/\l=[]):=by
 refine SE Tryz.func80 Tryz.ntmps80 (λR=>SR (jB 1 [3] (λb6=>.aD b6 (rV Z Y) 45) (λb6=>jB 4 [4] (λb7=>.aD b7 (aQ c) 53) (λb7=>NS (jK 6 [13,15,17,18] [(0,A_ 1 b6 12),(2,a_ 2 b7),(4,a_ 2 b7)] ?_)))))
 rcases rF hC c.aL c.name dZ with ⟨e,h1,EP⟩|⟨f,h1,hf⟩
 ·exact gE [] ((oU Z Y hR hC c.aL c.name hn dZ).val (agX exV h1)) (jK 5 [9,10] [] (NZ (jK 2 [23] [(1,Np ((e:Int)=(0:Int)) EP)] (NT (zR ⟨(Wd h1).symm,rfl⟩)))))
 refine gE [] ((oU Z Y hR hC c.aL c.name hn dZ).val (agX exV h1)) (jK 5 [9,10] [] (NZ (jK 2 [23] [(1,w_ (.bool false) rfl)] (NF (KX (SR (jK 5 [26,28,30] [(0,A_ 1 b6 12),(2,a_ 2 b7),(4,a_ 2 b7)] ?_)))))))
 rcases rF hC c.other c.text 192 with ⟨e,h2,h2e⟩|⟨to,h2,d6⟩
 ·exact gE [] ((oU Z Y hR hC c.other c.text ht 192).val (agX exV h2)) (jK 5 [10,11] [] (NS (jK 6 [6,7,8] [] (eN ⟨(Wf h1 h2).symm,rfl⟩))))
 exact gE [] ((oU Z Y hR hC c.other c.text ht 192).val (agX exV h2)) (jK 5 [10,11] [] (NS (jK 6 [6,7,8] [] (eN ⟨(Wg h1 h2).symm,rfl⟩))))
theorem O8 {β:Bs} (Z:RS) (Y:RL) (hR:dz β Z Y) (hC:RC Z) (c:aN) (hn:c.name.size<=1048576) (A:Option Addr) (cc:Nat) (an:Int) :
 aW Tryz.prog β 55 #[.agg ⟨rV Z Y⟩,.agg ⟨aQ (fX {c with answer:=an} A cc)⟩,.agg ⟨aQ {c with answer:=0}⟩] [] (λv l=>v=.agg ⟨aQ (qL Z c)⟩/\l=[]):=by
 refine SE Tryz.func55 Tryz.ntmps55 (λR=>SR (jB 1 [3] (λb8=>.aD b8 (rV Z Y) 45) (λb8=>jB 1 [4] (λb9=>.aD b9 (aQ (fX {c with answer:=an} A cc)) 53) (λb9=>jB 1 [5] (λb10=>.aD b10 (aQ {c with answer:=0}) 53) (λb10=>jB 1 [6] (λb11=>.aD b11 [vI 0,vI 0,vI 0,.string ⟨#[]⟩,.string ⟨#[]⟩,.slice none (0) (0),vI 0,vI 0,vI 0,vI 0,vI 0,vI 0,vI 0] 53) (λb11=>NS (jC 8 [] [(1,a_ 3 b10),(3,a_ 3 b10),(5,a_ 3 b10),(7,a_ 3 b10)] [(3,[(2,vI 0),(6,vI 0),(7,vI 0),(8,vI 0)])] (NS (jC 3 [] [(2,A_ 3 b10 2)] [(3,[(9,vI 0),(10,vI 0)])] (NS (jK 3 [19,21] [(0,A_ 1 b8 12),(2,a_ 2 b9)] (gE [] ((sX Z Y hR hC c.aL).val (adw _)) (jK 5 [7,8] [] (NN (aq.join (λ(x,a)=>(x=(qu Z c))/\(∀z:Nat,x=.ok z->a=(z:Int))) (λ(x,a)=>[(3,vP b8),(5,vP b10),(6,vP b11),(7,vI (a)),(8,vI ((exE x)))]) (λ(x,a)=>[.abs R,.aD b8 (rV Z Y) 45,.aD b9 (aQ (fX {c with answer:=an} A cc)) 53,pC b10 {c with other:=0,mode:=0,bg:=0,bh:=0,aU:=0,aI:=0,answer:=0},.aD b11 [vI 0,vI 0,vI 0,.string ⟨#[]⟩,.string ⟨#[]⟩,.slice none (0) (0),vI 0,vI 0,vI 0,vI 0,vI 0,vI 0,vI 0] 53]) ?_ ?_)))))))))))))))
 ·rintro⟨x,a⟩ ⟨hx2,ha2⟩
  refine aq.seq ?_
  subst hx2
  rcases QM hC c with ⟨e,hs,hse⟩|⟨k,hs,hk⟩
  ·exact aq.region (sl 8 (vI ((exE (qu Z c)))) (.int .i64 (e)) (by rw [hs];rfl) (jC 3 [] [(2,a_ 3 b10)] [(3,[(11,vI (e))])] (NZ (jK 2 [50] [(1,Np ((e:Int)=(0:Int)) hse)] (NT (SR (jC 2 [] [(0,A_ 3 b10 13),(1,A_ 4 b11 13)] [(4,[(0,vI (c.op)),(1,vI (c.aL)),(3,.string c.name),(4,.string c.text),(5,.slice c.dA (c.data.length) (c.dC)),(11,vI (e))])] (eS (v:=(.agg ⟨aQ {c with other:=0,mode:=0,bg:=0,bh:=0,aU:=0,aI:=0,code:=e,answer:=0}⟩)) [A_ 4 b11 13] ⟨by rw [Zf hs];rfl,rfl⟩))))))))
  exact aq.region (sl 7 (vI (a)) (.int .i64 ↑k) (agX (Value.int .i64) (ha2 k hs)) (sl 8 (vI ((exE (qu Z c)))) (.int .i64 0) (by rw [hs];rfl) (jC 3 [] [(2,a_ 3 b10)] [(3,[(11,vI 0)])] (NZ (jK 2 [50] [(1,w_ (.bool false) rfl)] (NF (KX (SR (jN 8 [11] (λb12=>[(2,a_ 1 b8),(4,x_ k Z.ns.length (aP.hd hR.n (i:=k) zc)),(5,DR (iq Y.L k (nd Z.ns k)) (λ_ _ h=>aP.rd hR.n zc h)),(7,A_ 5 b12 10)]) (λ_=>[]) (λb12=>.aD b12 (iq Y.L k (nd Z.ns k)) 95) (λb12=>NS (jC 4 [] [(1,a_ 5 b12),(3,a_ 3 b10)] [(3,[(12,vI ((nd Z.ns k).id))])] (NS (jC 4 [] [(1,a_ 5 b12),(3,a_ 3 b10)] [(3,[(2,vI ((nd Z.ns k).kind))])] (NS (jC 4 [] [(1,a_ 5 b12),(3,a_ 3 b10)] [(3,[(6,vI ((nd Z.ns k).mode))])] (NS (jC 4 [] [(1,a_ 5 b12),(3,a_ 3 b10)] [(3,[(7,vI ((nd Z.ns k).bg))])] (NS (jC 4 [] [(1,a_ 5 b12),(3,a_ 3 b10)] [(3,[(8,vI ((nd Z.ns k).bh))])] (NS (jC 4 [] [(1,A_ 5 b12 2),(3,A_ 3 b10 2)] [(3,[(9,vI ((nd Z.ns k).aU)),(10,vI ((nd Z.ns k).aI))])] (NS (jC 2 [] [(0,A_ 3 b10 13),(1,A_ 4 b11 13)] [(4,[(0,vI (c.op)),(1,vI (c.aL)),(2,vI ((nd Z.ns k).kind)),(3,.string c.name),(4,.string c.text),(5,.slice c.dA (c.data.length) (c.dC)),(6,vI ((nd Z.ns k).mode)),(7,vI ((nd Z.ns k).bg)),(8,vI ((nd Z.ns k).bh)),(9,vI ((nd Z.ns k).aU)),(10,vI ((nd Z.ns k).aI)),(12,vI ((nd Z.ns k).id))])] (eS (v:=(.agg ⟨aQ {c with other:=(nd Z.ns k).kind,mode:=(nd Z.ns k).mode,bg:=(nd Z.ns k).bg,bh:=(nd Z.ns k).bh,aU:=(nd Z.ns k).aU,aI:=(nd Z.ns k).aI,code:=0,answer:=(nd Z.ns k).id}⟩)) [A_ 4 b11 13] ⟨by rw [Zg hs];rfl,rfl⟩))))))))))))))))))))))))
 refine SR (jK 3 [27] [(1,a_ 2 b9)] (NN (cP ((c.op:Int)=(12:Int)) (λxE=>SR (jK 5 [29,31,33] [(0,A_ 1 b8 12),(2,a_ 2 b9),(4,a_ 2 b9)] ?_)) (λxE=>aq.skip (mJ ((iD Z c.aL),(exA (iD Z c.aL))) [0,1,2,3,4] (⟨JD zc,λk e=>by rw [e];rfl⟩))))))
 rcases rF hC c.aL c.name 64 with ⟨e,h1,EP⟩|⟨f,h1,hf⟩
 ·exact gE [] ((oU Z Y hR hC c.aL c.name hn 64).val (agX exV h1)) (jK 5 [9,10] [] (NS (jK 2 [8] [] (NS (jK 2 [39] [(1,wF ((e:Int)=(0:Int)) EP)] (NF (aq.skip (mJ ((.error e:Except Int Nat),(exA (iD Z c.aL))) [0,1,2,3,4] (⟨LR zc h1,λk e=>by cases e⟩)))))))))
 refine gE [] ((oU Z Y hR hC c.aL c.name hn 64).val (agX exV h1)) (jK 5 [9,10] [] (NS (jK 2 [8] [] (NS (jK 2 [39] [(1,w_ (.bool true) rfl)] (NT (SR (jK 4 [40,41,43] [(0,A_ 1 b8 12),(3,a_ 2 b9)] ?_))))))))
 rcases kz Z.ns f c.name with hl|⟨k,hl,hk⟩
 ·exact gE [] ((jH Z Y hR hC f hf c.name).val (agX (Value.int .i64) hl)) (jK 1 [7] [] (NS (jK 2 [46] [] (NT (aq.region (jK 1 [8] [] (NL (mJ ((.error 170:Except Int Nat),(-1)) [0,1,2,3,4] (⟨JE zc h1 hl,λk e=>by cases e⟩)))))))))
 exact gE [] ((jH Z Y hR hC f hf c.name).val (agX (Value.int .i64) hl)) (jK 1 [7] [] (NS (jK 2 [46] [(1,wF (((k:Int):Int)<(0:Int)))] (NF (aq.skip (mJ ((.ok k:Except Int Nat),(k:Int)) [0,1,2,3,4] (⟨JF zc h1 hl,λk e=>by cases e;rfl⟩)))))))
end
section
open Go.RowKit Go.Maps bK aF
section m
variable {ns:List aO} {es l:List fD} {name:ByteArray} {id z:Int} {i j d k:Nat} {R:RS} {x:fD}
theorem LU:∀{l:List fD},(∀e∈l,jy e.name name)->mM name id l=l++[⟨name,id⟩]
 |[],_=>rfl
 |e::r,h=>by
   unfold mM
   rw [agV (λq=>q (h e (ag7 ..))),LU (λy hy=>h y (ag6 _ hy))];rfl
theorem JG:∀{l:List fD},(∀e∈l,jy e.name name)->¬jy x.name name->mM name id (l++[x])=l++[⟨name,id⟩,x]
 |[],_,hx=>by grind [mM]
 |e::r,h,hx=>by
   show mM name id (e::(r++[x]))=_
   unfold mM
   rw [agV (λq=>q (h e (ag7 ..))),JG (λy hy=>h y (ag6 _ hy)) hx];rfl
theorem LV:∀{l:List fD},(∃e∈l,¬jy e.name name)->mM name id (l++[x])=mM name id l++[x]
 |[],h=>by obtain⟨_,h,_⟩:=h;cases h
 |e::r,h=>by
   show mM name id (e::(r++[x]))=mM name id (e::r)++[x]
   unfold mM
   by_cases he:¬jy e.name name
   ·rw [agW he,agW he];rfl
   rw [agV he,agV he]
   obtain⟨y,hy,hny⟩:=h
   rcases aha.1 hy with rfl|hy
   ·exact agY hny he
   rw [LV ⟨y,hy,hny⟩];rfl
theorem wD (hj:j<es.length):es.take (j+1)=es.take j++[en es j]:=by
 rw [ahq,ag9 hj]
 grind [en]
def gJ (es:List fD) (name:ByteArray) (id:Int) (j:Nat) (put:Bool) (out:List fD):Prop:=
 (put=false/\out=es.take j/\∀e∈es.take j,jy e.name name)\/(put=true/\out=mM name id (es.take j)/\∃e∈es.take j,¬jy e.name name)
theorem gJ.start:gJ es name id 0 false []:=.inl ⟨rfl,rfl,λe he=>by cases he⟩
theorem gJ.put (h:gJ es name id j false l) (hj:j<es.length) (hx:¬jy (en es j).name name):gJ es name id (j+1) true (l++[⟨name,id⟩]++[en es j]):=by
 grind [en,wD,JG,gJ,jy]
theorem gJ.more (h:gJ es name id j true l) (hj:j<es.length):gJ es name id (j+1) true (l++[en es j]):=by
 grind [wD,LV,gJ,en]
theorem gJ.miss (h:gJ es name id j false l) (hj:j<es.length) (hx:jy (en es j).name name):gJ es name id (j+1) false (l++[en es j]):=by
 grind [wD,gJ,jy,en]
theorem gJ.last (h:gJ es name id es.length false l):l++[⟨name,id⟩]=mM name id es:=by
 grind [LU,gJ,mM]
theorem gJ.end_ (h:gJ es name id es.length true l):l=mM name id es:=by
 grind [gJ,mM]
theorem gJ.len {b:Bool} (h:gJ es name id j b l) (hj:j<=es.length):l.length<=j+1:=by
 have hl:∀q:List fD,(mM name id q).length=q.length+1:=λq=>by
  induction q with
  |nil=>rfl
  |cons e r ih=>
    grind [mM]
 grind [gJ]
theorem MK (hj:j<es.length) (h:(en es j).name=name):rS name (es.take j)=rS name (es.take (j+1)):=by
 grind [rS,wD]
theorem KQ (hj:j<es.length) (h:¬(en es j).name=name):rS name (es.take j)++[en es j]=rS name (es.take (j+1)):=by
 grind [rS,wD]
theorem KR:∀(l:List fD) (z:Int),q4 name (l++[x]) z=if x.name=name then x.id else q4 name l z
 |[],z=>rfl
 |e::r,z=>by
   show q4 name (r++[x]) _=_
   rw [KR r]
   split<;>rfl
theorem ab8 (hj:j<es.length) (h:(en es j).name=name):(en es j).id=q4 name (es.take (j+1)) z:=by rw [wD hj,KR,agW h]
theorem Zj (hj:j<es.length) (h:¬(en es j).name=name):q4 name (es.take j) z=q4 name (es.take (j+1)) z:=by rw [wD hj,KR,agV h]
theorem Zk:(rS name (es.take j)).length<=j:=ag1 (ahI ..) (by rw [ahi];omega)
theorem uE (hj:j<ns.length):ns.take (j+1)=ns.take j++[nd ns j]:=by
 rw [ahq,ag9 hj]
 grind [nd]
def tK (R:RS) (i:Nat):List aO:=(R.ns.take i).filter (rU R)
def pQ (R:RS) (i:Nat):List Int:=((tK R i).filter (λn=>decide (n.id∈R.aG))).map aO.id
theorem BK (hi:i<R.ns.length) (h:rU R (nd R.ns i)=true):tK R (i+1)=tK R i++[nd R.ns i]:=by
 grind [tK,uE]
theorem O9 (hi:i<R.ns.length) (h:¬rU R (nd R.ns i)=true):tK R (i+1)=tK R i:=by
 grind [tK,uE]
theorem LW (hi:i<R.ns.length) (h:rU R (nd R.ns i)=true) (hg:(nd R.ns i).id∈R.aG):pQ R (i+1)=pQ R i++[(nd R.ns i).id]:=by
 unfold pQ;rw [BK hi h,List.filter_append,ahv];simp [hg]
theorem Pa (hi:i<R.ns.length) (h:rU R (nd R.ns i)=true) (hg:¬(nd R.ns i).id∈R.aG):pQ R (i+1)=pQ R i:=by
 grind [pQ,BK]
theorem TV (hi:i<R.ns.length) (h:¬rU R (nd R.ns i)=true):pQ R (i+1)=pQ R i:=by
 unfold pQ;rw [O9 hi h]
theorem HE {n:aO}:rU R n=true↔(n.id∈R.aG->n.id∈iV R.us):=by unfold rU;exact decide_eq_true_iff
theorem LY:gh R={R with ns:=tK R R.ns.length,aG:=pQ R R.ns.length}:=by
 unfold gh pQ tK
 rw [ahl]
theorem LZ:(tK R i).length<=i:=ag1 (ahI ..) (by rw [ahi];omega)
theorem Wk:(pQ R i).length<=i:=by
 grind [pQ,LZ]
end m
section fl
theorem L4 {α:Type} {f g:Nat->α->List Value} {s:Nat} (hf:∀i a,(f i a).length=s) (hg:∀i a,(g i a).length=s):∀(xs:List α) (b k j:Nat) (a:α) (u:Value),k<xs.length->j<s →
 (∀i,i≠k->∀x,xs[i]?=some x->g (b+i) x=f (b+i) x)->(∀x,xs[k]?=some x->g (b+k) a=(f (b+k) x).set j u)->(fq f b xs).set (k*s+j) u=fq g b (xs.set k a)
 |[],_,k,_,_,_,h,_,_,_=>agY h (ag2 k)
 |x::r,b,0,j,a,u,_,hj,h1,h2=>by
   rw [fq,List.set_cons_zero,fq,Nat.zero_mul,ahd,List.set_append_left _ _ (by rw [hf];exact hj)]
   have e:=h2 x rfl
   rw [Nat.add_zero] at e
   rw [e]
   congr 1
   exact Ci _ _ (λi a hi=>by
    have:=h1 (i+1) zc a (by simpa using hi)
    rw [show b+1+i=b+(i+1) by omega]
    exact this.symm)
 |x::r,b,k+1,j,a,u,h,hj,h1,h2=>by
   rw [fq,List.set_cons_succ,fq,List.set_append_right _ _ (by rw [hf,Nat.add_mul];omega),hf]
   have e0:=h1 0 zc x rfl
   rw [Nat.add_zero] at e0
   rw [e0,show (k+1)*s+j-s=k*s+j by rw [Nat.add_mul];omega]
   congr 1
   refine L4 hf hg r (b+1) k j a u (by simpa using h) hj (λi hi y hy=>?_) (λy hy=>?_)
   ·rw [show b+1+i=b+(i+1) by omega];exact h1 (i+1) zc y (by simpa using hy)
   rw [show b+1+k=b+(k+1) by omega];exact h2 y (by simpa using hy)
end fl
section st
variable {P:Program} {β:Bs} {N:fY} {ops:Array Oper} {k:Nat} {fr:Fr} {ax:List HP} {Q:Post} {d:Option Tmp}
theorem av.ab9 (i j:Nat) {T e:TypeId} {size n cap g:Nat} {xs:List Value} {u u2:Value} {a y:Operand} (bZ:∀ai,iT N ai ops fr k=some (.store T a y,d)) (hp:ax[i]?=some (.abs (aH e size (some ⟨g,0,none⟩) n cap xs)))
 (ha:∀ai,eY N fr ai a=.pointer (some ⟨g,j,none⟩)) (hy:∀ai,eY N fr ai y=.agg #[u,u2]) (hT:(P.info? T).map (·.size)=some 2) (hu:u.oneCell'=true) (RZ:u2.oneCell'=true) (hj:j+1<xs.length)
 (K':av P β N ops (k+1) (eW fr d undef) (ax.set i (.abs (aH e size (some ⟨g,0,none⟩) n cap ((xs.set j u).set (j+1) u2)))) Q):av P β N ops k fr ax Q:=by
 refine av.nP bZ (λo ai w ho hS=>?_) K'
 have uJ:j<xs.length:=zc
 have hi:=dP hp
 have yM:=hS.set hp (Ch (u:=u) uJ)
 have hp2:(ax.set i (.abs (aH e size (some ⟨g,0,none⟩) n cap (xs.set j u))))[i]?=some (.abs (aH e size (some ⟨g,0,none⟩) n cap (xs.set j u))):=List.getElem?_set_self hi
 have hS3:=yM.set hp2 (Ch (u:=u2) (by rw [ag8];exact hj))
 rw [List.set_set] at hS3
 refine⟨_,.inr ⟨rfl,?_⟩,hS3⟩
 have key:∀(w:World) (l:List HP) (ys:List Value) (q:Nat),aR β l w->l[i]?=some (.abs (aH e size (some ⟨g,0,none⟩) n cap ys))->q<ys.length->(∃x,w.cell? ⟨g,q,none⟩=some x)/\w.frozen? ⟨g,q,none⟩=false:=λw l ys q hS hp hq=>by
  obtain⟨F,hF⟩:=hS.get hp
  obtain⟨x,hx⟩:=mP hq
  refine⟨⟨x,aH.cell hx F w hF⟩,?_⟩
  obtain⟨⟨_,h2⟩,_⟩:=hF
  rcases h2 with ⟨e,_⟩|⟨g',cp,cur,e,_,hb,_⟩
  ·cases e
  cases e;simp [World.frozen?,hb]
 obtain⟨⟨x1,hc1⟩,hf1⟩:=key w ax xs j hS hp uJ
 obtain⟨⟨x2,hc2⟩,hf2⟩:=key _ _ _ (j+1) yM hp2 (by rw [ag8];exact hj)
 obtain⟨inf,hi,eT⟩:∃inf,P.info? T=some inf/\inf.size=2:=by
  cases h:P.info? T with
  |none=>rw [h] at hT;cases hT
  |some inf=>rw [h] at hT;exact⟨inf,rfl,by simpa using hT⟩
 have h3:=sC hi w
 rw [eT] at h3
 obtain⟨dst,op,type,pos,after,guard⟩:=o
 cases ho
 have st:∀(u x:Value) (a:Addr) (w:World),u.oneCell'=true->w.cell? a=some x->w.frozen? a=false->Sem.run P (Sem.store Mode.plain a u (Sem.pure ())) w=.ok () (w.setCell a u):=λu x a w hu hc hf=>by
  cases u<;>first
   |(simp [Value.oneCell'] at hu;done)
   |simp [Sem.run,hc,hf]
 simp only [execOp,ha ai,hy ai]
 simp [go_sem,Instr.storeAt,Instr.sureAddr,storeVar,h3,Value.cells,storeCells,store,Addr.add,st u x1 _ _ hu hc1 hf1,st u2 x2 _ _ RZ hc2 hf2]
theorem av.zA (i j:Nat) {T e:TypeId} {size n cap:Nat} {A:Option Addr} {xs:List Value} {u:Value} {a y:Operand} (bZ:∀ai,iT N ai ops fr k=some (.store T a y,d)) (hp:ax[i]?=some (.abs (aH e size A n cap xs)))
 (ha:∀ai,eY N fr ai a=.pointer (some ⟨bw A,br A+j,none⟩)) (hy:∀ai,eY N fr ai y=u) (hT:(P.info? T).map (·.size)=some 1) (hu:u.oneCell'=true) (hn:0<n) (hj:j<xs.length)
 (K':av P β N ops (k+1) (eW fr d undef) (ax.set i (.abs (aH e size A n cap (xs.set j u)))) Q):av P β N ops k fr ax Q:=by
 refine av.tell (p:=∃g,A=some ⟨g,0,none⟩) (λ_ hS=>let ⟨_,h⟩:=hS.get hp;aH.head h hn) ?_
 rintro⟨g,rfl⟩
 exact av.D9 i j bZ hp (λai=>(ha ai).trans (agX (λo=>Value.pointer (some ⟨g,o,none⟩)) (ahd j))) hy hT hu hj K'
theorem av.Dw (i j:Nat) {T e:TypeId} {size n cap:Nat} {A:Option Addr} {xs:List Value} {u u2:Value} {a y:Operand} (bZ:∀ai,iT N ai ops fr k=some (.store T a y,d)) (hp:ax[i]?=some (.abs (aH e size A n cap xs)))
 (ha:∀ai,eY N fr ai a=.pointer (some ⟨bw A,br A+j,none⟩)) (hy:∀ai,eY N fr ai y=.agg #[u,u2]) (hT:(P.info? T).map (·.size)=some 2) (hu:u.oneCell'=true) (RZ:u2.oneCell'=true) (hn:0<n) (hj:j+1<xs.length)
 (K':av P β N ops (k+1) (eW fr d undef) (ax.set i (.abs (aH e size A n cap ((xs.set j u).set (j+1) u2)))) Q):av P β N ops k fr ax Q:=by
 refine av.tell (p:=∃g,A=some ⟨g,0,none⟩) (λ_ hS=>let ⟨_,h⟩:=hS.get hp;aH.head h hn) ?_
 rintro⟨g,rfl⟩
 exact av.ab9 i j bZ hp (λai=>(ha ai).trans (agX (λo=>Value.pointer (some ⟨g,o,none⟩)) (ahd j))) hy hT hu RZ hj K'
theorem av.rX (i:Nat) {e:TypeId} {size n cap:Nat} {A:Option Addr} {xs:List Value} (hp:ax[i]?=some (.abs (aH e size A n cap xs))) (hn:0<n) (K:A=some ⟨bw A,br A,none⟩->av P β N ops k fr ax Q):av P β N ops k fr ax Q:=
 av.tell (λ_ hS=>let ⟨_,h⟩:=hS.get hp;(aH.Ix h hn).1) K
end st
theorem adx (x y:ByteArray):Value.bool (!(Op.bytesLess x.toList y.toList || (x.toList == y.toList)))=Value.bool (!(decide (jy x y))):=agX (λv=>match v with|Value.bool b=>Value.bool (!b)|v=>v) (NJ x y)
theorem gJ.keep {es l:List fD} {name:ByteArray} {id:Int} {j:Nat} {p:Bool} (h:gJ es name id j p l) (hj:j<es.length) (hx:p=false->jy (en es j).name name):gJ es name id (j+1) p (l++[en es j]):=by
 cases p with
 |true=>exact h.more hj
 |false=>exact h.miss hj (hx rfl)
theorem Dx {q:List fD} {e:fD} {B:Option Addr} {c:Nat}:HP.abs (aH 149 2 B (q.length+1) c (mT q++[.string e.name,.int .i64 e.id]))=HP.abs (aH 149 2 B (q++[e]).length c (mT (q++[e]))):=by
 rw [Jo,ag4];rfl
theorem oq {α:Type} {q:List α} {e:α}:q.length+1=(q++[e]).length:=by rw [ag4];rfl
section o
variable {P:Program} {β β':Bs} {R:RS} {Y:RL} {f:FuncId} {args:Array Value} {x u:Value} {d k i j:Nat} {ns:List aO} {L L':eV} {n:aO} {es:List fD} {B:Option Addr} {c:Nat}
theorem rY (hk:k<ns.length) (hj:j<10) (hL:∀i,i≠k->∀x,iq L' i x=iq L i x) (h:iq L' k n=(iq L k (nd ns k)).set j u):(bG L ns).set (k*10+j) u=bG L' (ns.set k n):=by
 refine L4 (s:=10) (λ_ _=>rfl) (λ_ _=>rfl) ns 0 k j _ _ hk hj (λi hi x _=>?_) (λx hx=>?_)
 all_goals grind [nd]
theorem TW (hk:k<ns.length) {v:Value} (hv:(iq L k (nd ns k))[j]?=some v):(bG L ns)[k*10+j]?=some v:=by
 have hj:j<10:=dP hv
 have h1:=uN (f:=iq L) (s:=10) (λ_ _=>rfl) ns 0 k j _ (getD_some (x:=default) hk) hj
 rw [ahd] at h1
 exact h1.trans hv
theorem qv (hk:k<ns.length):nd (ns.set k n) i=if i=k then n else nd ns i:=by
 grind [nd]
def eV.bS (L:eV) (k:Nat) (B:Option Addr) (c:Nat):eV:=⟨L.dA,λi=>if i=k then B else L.eA i,L.dC,λi=>if i=k then c else L.eC i⟩
def eV.dat (L:eV) (k:Nat) (B:Option Addr) (c:Nat):eV:=⟨λi=>if i=k then B else L.dA i,L.eA,λi=>if i=k then c else L.dC i,L.eC⟩
structure lU (β:Bs) (R:RS) (L:eV) (H V:Option Addr):Prop where
 data:∀i,i<R.ns.length->bF β (L.dA i) (nd R.ns i).data
 ah:∀i,i<R.ns.length->cU β (L.eA i) (nd R.ns i).ah
 h:cC β H (bH (bn R.us))
 v:cC β V (bH (iV R.us))
theorem lU.le {H V:Option Addr} (h:lU β R L H V) (dU:β.le β'):lU β' R L H V:=⟨λi hi=>(h.data i hi).le dU,λi hi=>(h.ah i hi).le dU,h.h.le dU,h.v.le dU⟩
theorem lU.at {A G H V:Option Addr} {c cg ch cv:Nat} (h:lU β R L H V) (g:pW β [.abs (aH 95 10 A R.ns.length c (bG L R.ns)),.abs (aH 3 1 G R.aG.length cg (bH R.aG))] β'):dz β' R ⟨A,c,L,G,cg,H,ch,V,cv⟩:=by
 obtain⟨F,h1,h2⟩:=g.get 0 rfl
 obtain⟨G,g1,g2⟩:=g.get 1 rfl
 have h':=h.le g.le
 exact⟨⟨cC.iH g1 g2 rfl,h'.h,h'.v⟩,cC.iH h1 h2 rfl,h'.data,h'.ah⟩
theorem eP {A G H V:Option Addr} {c cg ch cv:Nat} (h:lU β R L H V) (hs:∀β',β.le β'->dz β' R ⟨A,c,L,G,cg,H,ch,V,cv⟩->aW P β' f args [] (λv l=>v=x/\l=[])) :
 aW P β f args [.abs (aH 95 10 A R.ns.length c (bG L R.ns)),.abs (aH 3 1 G R.aG.length cg (bH R.aG))] (λv l=>v=x/\l=[.abs (aH 95 10 A R.ns.length c (bG L R.ns)),.abs (aH 3 1 G R.aG.length cg (bH R.aG))]):=
 (aW.wg (pre:=[]) (R:=[.abs (aH 95 10 A R.ns.length c (bG L R.ns)),.abs (aH 3 1 G R.aG.length cg (bH R.aG))]) (λβ' g=>hs β' g.le (h.at g))).mono (by rintro v l ⟨l0,⟨rfl,rfl⟩,rfl⟩;exact⟨rfl,rfl⟩)
theorem nA (ns:List aO) (L:eV) (A:Option Addr) (cap i j:Nat) (hi:i<ns.length) {v:Value} (hv:(iq L i (nd ns i))[j]?=some v):∀F w,(aH 95 10 A ns.length cap (bG L ns)).h F w->w.cell? ⟨bw A,br A+i*10+j,none⟩=some v:=aH.cellAt hi (TW hi hv)
theorem QN (hk:k<ns.length):(bG L ns).set (k*10+9) (.slice B es.length c)=bG (L.bS k B c) (ns.set k {nd ns k with ah:=es}):=
 rY hk Pd (λi hi x=>by unfold iq eV.bS;simp [hi]) (by unfold iq eV.bS;simp)
theorem TY (hk:k<ns.length) {bs:List UInt8}:(bG L ns).set (k*10+7) (.slice B bs.length c)=bG (L.dat k B c) (ns.set k {nd ns k with data:=bs}):=
 rY hk Pd (λi hi x=>by unfold iq eV.dat;simp [hi]) (by unfold iq eV.dat;simp)
theorem Cm (hk:k<ns.length) {s z:Int}:((bG L ns).set (k*10+5) (.int .i64 s)).set (k*10+5+1) (.int .i64 z)=bG L (ns.set k {nd ns k with aU:=s,aI:=z}):=by
 rw [rY (n:={nd ns k with aU:=s}) hk Pd (λ_ _ _=>rfl) rfl]
 have:=rY (ns:=ns.set k {nd ns k with aU:=s}) (L:=L) (L':=L) (k:=k) (j:=6) (n:={nd ns k with aU:=s,aI:=z}) (u:=.int .i64 z) (by rw [ag8];exact hk) Pd (λ_ _ _=>rfl) (by rw [qv hk,agW rfl];rfl)
 rw [List.set_set] at this
 exact this
theorem QO (hk:k<ns.length) {s z:Int}:(((bG L ns).set (k*10+9) (.slice B es.length c)).set (k*10+5) (.int .i64 s)).set (k*10+5+1) (.int .i64 z)=bG (L.bS k B c) (nG s z ns k es):=by
 rw [QN hk,Cm (by rw [ag8];exact hk),qv hk,agW rfl,List.set_set];rfl
theorem AA {s z:Int}:(nG s z ns k es).length=ns.length:=ag8 ..
theorem R3 {s z:Int} (hk:k<ns.length):nd (nG s z ns k es) i=if i=k then {nd ns k with ah:=es,aU:=s,aI:=z} else nd ns i:=qv hk
theorem R4 {A:Option Addr} {cN:Nat} {ns':List aO} {s z:Int} (hk:k<ns.length) (h:ns'=nG s z ns k es) :
 HP.abs (aH 95 10 A ns.length cN ((((bG L ns).set (k*10+9) (.slice B es.length c)).set (k*10+5) (.int .i64 s)).set (k*10+5+1) (.int .i64 z)))=HP.abs (aH 95 10 A ns'.length cN (bG (L.bS k B c) ns')):=by
 rw [QO hk,h,AA]
theorem lU.nG {H V:Option Addr} (h:lU β R L H V) (hk:k<R.ns.length) (he:cU β B es) {R':RS} (hn:R'.ns=nG R.cS R.cZ R.ns k es) (hu:R'.us=R.us):lU β R' (L.bS k B c) H V:=by
 refine⟨λi hi=>?_,λi hi=>?_,by rw [hu];exact h.h,by rw [hu];exact h.v⟩
 ·rw [hn,AA] at hi
  rw [hn,R3 hk]
  by_cases e:i=k
  ·rw [agW e];subst e;exact h.data i hi
  rw [agV e];exact h.data i hi
 rw [hn,AA] at hi
 rw [hn,R3 hk]
 show cU β (if i=k then B else L.eA i) _
 by_cases e:i=k
 ·rw [agW e,agW e];exact he
 rw [agV e,agV e];exact h.ah i hi
theorem CI {name:ByteArray} {id:Int}:(dh R d name id).ns.length=R.ns.length:=ag8 ..
theorem uY {name:ByteArray} {b:Bool}:(cX R d name b).ns.length=R.ns.length:=ag8 ..
theorem afD {L:eV} {F:Fp} {w:World} {m:Nat} (h:(HP.abs (kE (qY ns L) m)).h F w) (h1:∀k,F k->β'.O k) (h2:β'.w0=w):∀i,i<m->cU β' (L.eA i) (nd ns i).ah:=
 kE.base h h1 h2 (Φ:=λi b=>cU b (L.eA i) (nd ns i).ah) (λi _ F hF hO=>cC.iH (show (HP.abs (aH 149 2 (L.eA i) (nd ns i).ah.length (L.eC i) (mT (nd ns i).ah))).h F _ from hF) hO h2)
theorem ady {L:eV} {F:Fp} {w:World} {m:Nat} (h:(HP.abs (kE (kY ns L) m)).h F w) (h1:∀k,F k->β'.O k) (h2:β'.w0=w):∀i,i<m->bF β' (L.dA i) (nd ns i).data:=
 kE.base h h1 h2 (Φ:=λi b=>bF b (L.dA i) (nd ns i).data) (λi _ F hF hO=>cC.iH (show (HP.abs (aH 5 1 (L.dA i) (nd ns i).data.length (L.dC i) (dR (nd ns i).data))).h F _ from hF) hO h2)
theorem Pb:∀m,i<m->(nd ns i).data.length<=fQ ns m
 |0,h=>agY h (ag2 _)
 |m+1,h=>by
   show _<=fQ ns m+(nd ns m).data.length
   by_cases e:i=m
   ·subst e;omega
   have:=Pb m zc;omega
theorem RB.hd (h:RB R):∀i,i<R.ns.length->(nd R.ns i).data.length<=140737488355328/\(nd R.ns i).ah.length<=1048576:=λi hi=>⟨ag1 (Pb _ hi) h.dat,ag1 (h.row hi) Pd⟩
structure RD (q:Nat) (R:RS):Prop where
 ns:R.ns.length<=4097
 aG:R.aG.length<=4096+q
 us:R.us.length<=1024
 ah:dJ R.ns R.ns.length<=8192+q
 dat:fQ R.ns R.ns.length<=140737488355328
theorem RD.rb {q:Nat} (h:RD q R) (hq:q<=8):RB R:=⟨h.ns,by have:=h.aG;omega,h.us,by have:=h.ah;omega,h.dat⟩
theorem RD.up {q m:Nat} (h:RD q R) (hm:q<=m):RD m R:=⟨h.ns,by have:=h.aG;omega,h.us,by have:=h.ah;omega,h.dat⟩
theorem JH (hk:k<ns.length):∀m:Nat,dJ (ns.set k n) m+(if k<m then (nd ns k).ah.length else 0)=dJ ns m+(if k<m then n.ah.length else 0)
 |0=>rfl
 |m+1=>by
   have h:=JH hk m
   show dJ (ns.set k n) m+(nd (ns.set k n) m).ah.length+_=dJ ns m+(nd ns m).ah.length+_
   rw [qv hk]
   by_cases e:m=k
   ·subst e
    rw [agV (ahO _),agV (ahO _)] at h
    rw [agW rfl,agW (ahn _),agW (ahn _)]
    omega
   rw [agV e]
   by_cases e2:k<m
   ·rw [agW e2,agW e2] at h;rw [agW zc,agW zc];omega
   rw [agV e2,agV e2] at h;rw [agV zc,agV zc];omega
theorem JI (hk:k<ns.length):∀m:Nat,fQ (ns.set k n) m+(if k<m then (nd ns k).data.length else 0)=fQ ns m+(if k<m then n.data.length else 0)
 |0=>rfl
 |m+1=>by
   have h:=JI hk m
   show fQ (ns.set k n) m+(nd (ns.set k n) m).data.length+_=fQ ns m+(nd ns m).data.length+_
   rw [qv hk]
   by_cases e:m=k
   ·subst e
    rw [agV (ahO _),agV (ahO _)] at h
    rw [agW rfl,agW (ahn _),agW (ahn _)]
    omega
   rw [agV e]
   by_cases e2:k<m
   ·rw [agW e2,agW e2] at h;rw [agW zc,agW zc];omega
   rw [agV e2,agV e2] at h;rw [agV zc,agV zc];omega
theorem Wl {s z:Int} (hk:k<ns.length) (he:es.length<=(nd ns k).ah.length+1):dJ (nG s z ns k es) (nG s z ns k es).length<=dJ ns ns.length+1/\fQ (nG s z ns k es) (nG s z ns k es).length=fQ ns ns.length:=by
 grind [AA,JH,nd,JI,nG]
theorem RD.nG {q:Nat} (h:RD q R) (hk:k<R.ns.length) (he:es.length<=(nd R.ns k).ah.length+1) {R':RS} (hn:R'.ns=nG R.cS R.cZ R.ns k es) (hu:R'.us=R.us) (hg:R'.aG.length<=R.aG.length+1):RD (q+1) R':=by
 have h1:=Wl (s:=R.cS) (z:=R.cZ) hk he
 have h2:R'.ns.length=R.ns.length:=by rw [hn,AA]
 refine⟨by rw [h2];exact h.ns,by have:=h.aG;omega,by rw [hu];exact h.us,?_,?_⟩
 ·rw [hn];have:=h.ah;omega
 rw [hn];have:=h.dat;omega
def Dy (R:RS) (d:Nat) (name:ByteArray):RS:={R with ns:=nG R.cS R.cZ R.ns d (rS name (nd R.ns d).ah)}
theorem acd {name:ByteArray}:(Dy R d name).ns.length=R.ns.length:=ag8 ..
theorem R5 {name:ByteArray} {b:Bool} (hf:b=true) (h:tY (Dy R d name).ns (q4 name (nd R.ns d).ah 0)=0):(cX R d name b).aG=R.aG++[q4 name (nd R.ns d).ah 0]:=agW ⟨hf,h⟩
theorem JJ {name:ByteArray} {b:Bool} (h:b=true->¬tY (Dy R d name).ns (q4 name (nd R.ns d).ah 0)=0):(cX R d name b).aG=R.aG:=agV (λq=>h q.1 q.2)
theorem Wm {name:ByteArray}:(rS name es).length<=es.length:=ahI ..
theorem RD.del {q:Nat} {name:ByteArray} (h:RD q R) (hk:d<R.ns.length):RD (q+1) (Dy R d name):=h.nG hk (Nat.le_succ_of_le Wm) rfl rfl (Nat.le_succ _)
theorem RD.R6 {q:Nat} {name:ByteArray} {b:Bool} (h:RD q R) (hk:d<R.ns.length):RD (q+1) (cX R d name b):=by
 refine h.nG hk (Nat.le_succ_of_le Wm) rfl rfl ?_
 grind [cX]
theorem R7 {name:ByteArray} {id:Int}:∀l:List fD,(mM name id l).length=l.length+1
 |[]=>rfl
 |e::r=>by
   unfold mM
   split
   ·rfl
   rw [ahw,R7 r];rfl
theorem RD.bS {q:Nat} {name:ByteArray} {id:Int} (h:RD q R) (hk:d<R.ns.length):RD (q+1) (dh R d name id):=h.nG hk (Nat.le_of_eq (R7 _)) rfl rfl (Nat.le_succ _)
theorem EQ {q:List Int} {z:Int} {B:Option Addr} {c:Nat}:HP.abs (aH 3 1 B (q.length+1) c (bH q++[.int .i64 z]))=HP.abs (aH 3 1 B (q++[z]).length c (bH (q++[z]))):=by
 rw [Gl,ag4];rfl
theorem Pc (l:List Int):∀u∈bH l,u.oneCell'=true:=by
 intro u hu
 obtain⟨b,_,rfl⟩:=ahe.1 hu
 rfl
theorem lU.same {H V:Option Addr} (h:lU β R L H V) {R':RS} (hn:R'.ns=R.ns) (hu:R'.us=R.us):lU β R' L H V:=⟨by rw [hn];exact h.data,by rw [hn];exact h.ah,by rw [hu];exact h.h,by rw [hu];exact h.v⟩
theorem lU.snoc {H V:Option Addr} (h:lU β R L H V) {R':RS} (hn:R'.ns=R.ns++[n]) (hd:n.data=[]) (he:n.ah=[]) (hu:R'.us=R.us):lU β R' (L.put R.ns.length none 0 none 0) H V:=by
 have h0:∀{xs:List Value},xs=[]->cC β none xs:=λe j v hj=>by rw [e] at hj;cases hj
 have hl:R'.ns.length=R.ns.length+1:=by rw [hn,ag4];rfl
 refine⟨λi hi=>?_,λi hi=>?_,by rw [hu];exact h.h,by rw [hu];exact h.v⟩
 ·rw [hn]
  show bF β (if i=R.ns.length then none else L.dA i) _
  by_cases e:i=R.ns.length
  ·subst e;rw [agW rfl,wq,hd];exact h0 rfl
  rw [agV e,zq zc];exact h.data i zc
 rw [hn]
 show cU β (if i=R.ns.length then none else L.eA i) _
 by_cases e:i=R.ns.length
 ·subst e;rw [agW rfl,wq,he];exact h0 rfl
 rw [agV e,zq zc];exact h.ah i zc
theorem RD.last {q:Nat} (h:RD q R) (z:Int):RD q {R with last:=z}:=⟨h.ns,h.aG,h.us,h.ah,h.dat⟩
theorem Pf (h:(R.us.length:Int)<R.cH):kV R k=({R with us:=ins (aS R.us) (nd R.ns k).id R.us,aJ:=max R.aJ ((R.us.length:Int)+1)},aS R.us,0):=agW h
theorem R8 (h:¬(R.us.length:Int)<R.cH):kV R k=(R,0,130):=agV h
structure RU (R:RS):Prop where
 us:R.us.length<=1024
 usr:aF.dH (bn R.us)
 xQ:∀z∈bn R.us,1<=z
theorem RC.ru (h:RC R):RU R:=⟨h.us,h.usr,h.xQ⟩
theorem RU.same {R':RS} (h:RU R) (hu:R'.us=R.us):RU R':=⟨by rw [hu];exact h.us,by rw [hu];exact h.usr,by rw [hu];exact h.xQ⟩
theorem afE {z:Int}:z∈iV R.us↔∃q,q<R.us.length/\(iV R.us).getD q 0=z:=by
 have hl:=mH R.us
 refine⟨λh=>?_,λ⟨q,h1,h2⟩=>h2 ▸ BH zc⟩
 obtain⟨q,hq,e⟩:=ahG h
 exact⟨q,zc,Pe⟩
theorem Pg {p:List aO} (h:p=tK R R.ns.length):(gh R).ns=p:=by rw [LY,h]
theorem JK {l:List Int} (h:l=pQ R R.ns.length):(gh R).aG=l:=by rw [LY,h]
theorem Zl {An Ag:Option Addr} {cn cg:Nat} {p:List aO} {l:List Int} {K:eV} (hR:dz β R Y) (hN:cC β An (bG K p)) (hG:cC β Ag (bH l)) (hp:p=tK R R.ns.length) (hl:l=pQ R R.ns.length) (hK:oz β p p.length K):dz β (gh R) ⟨An,cn,K,Ag,cg,Y.H,Y.ch,Y.V,Y.cv⟩:=by
 have e1:=Pg hp
 have e2:=JK hl
 exact⟨⟨by rw [e2];exact hG,hR.h,hR.v⟩,⟨by rw [e1];exact hN,by rw [e1];exact hK.data,by rw [e1];exact hK.ah⟩⟩
theorem oz.snoc {p:List aO} {K:eV} {dA eA:Option Addr} {dC eC:Nat} (h:oz β p p.length K) (hd:bF β dA n.data) (he:cU β eA n.ah):oz β (p++[n]) (p++[n]).length (K.put p.length dA dC eA eC):=by
 have e:(p++[n]).length=p.length+1:=by rw [ag4];rfl
 rw [e]
 refine oz.put (k:=p.length) ⟨λi hi=>?_,λi hi=>?_⟩ (by rw [wq];exact hd) (by rw [wq];exact he)
 ·rw [zq hi];exact h.data i hi
 rw [zq hi];exact h.ah i hi
theorem HF {p:List aO} {K:eV} {dA eA A:Option Addr} {dC eC cN:Nat} {dn en:Nat} (hd:n.data.length=dn) (he:n.ah.length=en) :
 HP.abs (aH 95 10 A (p.length+1) cN (bG K p++[.int .i64 n.id,.int .i64 n.kind,.int .i64 n.mode,.int .i64 n.bg,.int .i64 n.bh,.int .i64 n.aU,.int .i64 n.aI,.slice dA dn dC,.string n.target,.slice eA en eC]))=HP.abs (aH 95 10 A (p++[n]).length cN (bG (K.put p.length dA dC eA eC) (p++[n]))):=by
 grind [vB]
end o
end
section
open Go.RowKit Go.Maps bK aF
attribute [local irreducible] av bN aq aB fN oo
noncomputable abbrev gZ (Y:RL) (Z:RS):=(.abs (aH 95 10 Y.A Z.ns.length Y.c (bG Y.L Z.ns)):HP)
noncomputable abbrev gM (Y:RL) (Z:RS):=(.abs (aH 3 1 Y.G Z.aG.length Y.cg (bH Z.aG)):HP)
noncomputable abbrev Wn (Ag)(l:List Int) (cg):=(.abs (aH 3 1 Ag l.length cg (bH l)):HP)
noncomputable abbrev zT4 (A1:Option Addr) (Z:RS) (k:Nat) (c1:Nat):=(.abs (aH 3 1 A1 ((ins (aF.aS Z.us) (nd Z.ns k).id Z.us).length) c1 (bH (bn (ins (aF.aS Z.us) (nd Z.ns k).id Z.us)))):HP)
noncomputable abbrev zT5 (B1)(Z:RS) (k:Nat) (d1):=(.abs (aH 3 1 B1 ((ins (aF.aS Z.us) (nd Z.ns k).id Z.us).length) d1 (bH (iV (ins (aF.aS Z.us) (nd Z.ns k).id Z.us)))):HP)
noncomputable abbrev zT6 (ud:Nat) (Z:RS) (A1:Option Addr) (k:Nat) (c1:Nat) (B1) (d1):=(.aD ud [vI (Z.cH),vI ((max Z.aJ ((Z.us.length:Int)+1))),.slice A1 ((ins (aF.aS Z.us) (nd Z.ns k).id Z.us).length) (c1),.slice B1 ((ins (aF.aS Z.us) (nd Z.ns k).id Z.us).length) (d1)] 43:HP)
noncomputable abbrev zT7 (jc:Nat) (yO:Nat) (An:Option Addr) (p:List aO) (cn:Nat) (Ag) (l:List Int) (cg) (i:Nat):=([(1,vP jc),(2,vP yO),(3,.slice An (p.length) (cn)),(4,.slice Ag (l.length) (cg)),(5,vI ↑i)]:Fr)
noncomputable abbrev zT8 (Z:RS):=([(6,vI (Z.cN)),(7,vI (Z.cB)),(8,vI (Z.cH)),(9,vI (Z.cS)),(10,vI (Z.cZ)),(11,vI (Z.last))]:Fr)
noncomputable abbrev zT9 (b1:Nat) (b2:Nat) (Ao) (q:List fD) (ca):=([(4,vP b1),(8,vP b2),(9,.slice Ao (q.length) (ca))]:Fr)
noncomputable abbrev qD (b1:Nat) (Z) (Y:RL) (b2:Nat):=([.aD b1 (rV Z Y) 45,.aD b2 (rZ) 45]:List HP)
noncomputable abbrev adz (sM:Nat) (vS:Nat) (Z:RS) (Y:RL) (k:Nat):=([(2,vP sM),(4,vP vS),(12,.agg #[vI (Z.cH),vI (Z.aJ),.slice Y.H (Z.us.length) (Y.ch),.slice Y.V (Z.us.length) (Y.cv)]),(19,vI ((nd Z.ns k).id))]:Fr)
noncomputable abbrev adA (Z:RS) (A1:Option Addr) (k:Nat) (c1:Nat) (B1) (d1):=([(3,vI ((max Z.aJ ((Z.us.length:Int)+1)))),(4,.slice A1 ((ins (aF.aS Z.us) (nd Z.ns k).id Z.us).length) (c1)),(5,.slice B1 ((ins (aF.aS Z.us) (nd Z.ns k).id Z.us).length) (d1))]:Fr)
noncomputable abbrev adB (Z:RS) (Y:RL):=([(2,vI (Z.cH)),(3,vI (Z.aJ)),(4,.slice Y.H (Z.us.length) (Y.ch)),(5,.slice Y.V (Z.us.length) (Y.cv))]:Fr)
theorem BL {β:Bs} (Z:RS) (Y:RL) (hI:lU β Z Y.L Y.H Y.V) (hB:RB Z) (d:Nat) (hd:d<Z.ns.length) (name:ByteArray) (id:Int) :
 cE Tryz.prog β 82 #[.agg ⟨rV Z Y⟩,vI (((d:Nat):Int)),.string name,vI (id)] [gZ Y Z,gM Y Z] (λβ' v l=>∃L',v=.agg ⟨rV (dh Z d name id) Y⟩/\l=[.abs (aH 95 10 Y.A ((dh Z d name id).ns.length) Y.c (bG L' (dh Z d name id).ns)),.abs (aH 3 1 Y.G ((dh Z d name id).aG.length) Y.cg (bH (dh Z d name id).aG))]/\lU β' (dh Z d name id) L' Y.H Y.V):=by
 refine oI Tryz.func82 Tryz.ntmps82 (λaE R=>SR (jB 1 [4] (λb1=>.aD b1 (rV Z Y) 45) (λb1=>jB 1 [8] (λb2=>.aD b2 (rZ) 45) (λb2=>NS (jB 2 [9] (λb3=>.aD b3 [] 149) (λb3=>NS (av.mem (λw hS=>hS.ou (i:=5) (b:=b3) (cs:=[]) (e:=149) 2 0 KB rfl Pd) (jK 1 [10] [] (NS (av.rX 0 rfl zc (λlK=>jK 8 [11] [(2,a_ 3 b1),(4,x_ d Z.ns.length (lK)),(6,v_ 0 (nA Z.ns Y.L Y.A Y.c d 9 hd rfl))] (NZ (jK 1 [12] [] (NN (aq.block (lJ (ι:=Nat×Bool×(List fD)×(Option Addr)×Nat) (λ(j,put,q,Ao,ca)=>(j<=(nd Z.ns d).ah.length)/\(gJ (nd Z.ns d).ah name id j put q)) (λ(j,put,q,Ao,ca)=>(nd Z.ns d).ah.length-j) (λ(j,put,q,Ao,ca)=>([(1,vI ↑d),(2,.string name),(3,vI (id))]++zT9 b1 b2 Ao q ca++[(10,.bool put),(11,.slice (Y.L.eA d) ((nd Z.ns d).ah.length) ((Y.L.eC d))),(12,vI ↑j)])) (λ(j,put,q,Ao,ca)=>(qD b1 Z Y b2++[gZ Y Z,gM Y Z,.abs (aH 149 2 Ao q.length ca (mT q)),.abs R])) (0,false,[],some ⟨b3,0,none⟩,0) [3,4,0,1,5,2] (⟨ag0 _,gJ.start⟩) ?_))))))))))))))))
 rintro⟨j,put,q,Ao,ca⟩ ⟨hj,he⟩
 have vR:=he.len hj
 have hrw:=hB.row hd
 refine SQ (jK 4 [24] [] (NN (cP ((((j:Nat):Int):Int)<((((nd Z.ns d).ah.length:Nat):Int):Int)) (λrA=>?_) (λrA=>?_))))
 ·refine KX (aq.seq (aq.block (aq.join (ι:=Bool×(List fD)×(Option Addr)×Nat) (λ(p1,q1,A1,c1)=>(gJ (nd Z.ns d).ah name id (j+1) p1 (q1++[en (nd Z.ns d).ah j]))/\(q1.length<=j+2)) (λ(p1,q1,A1,c1)=>([(1,vI ↑d),(2,.string name),(3,vI (id))]++zT9 b1 b2 A1 q1 c1++[(10,.bool p1),(11,.slice (Y.L.eA d) ((nd Z.ns d).ah.length) ((Y.L.eC d))),(12,vI ↑j)])) (λ(p1,q1,A1,c1)=>(qD b1 Z Y b2++[gZ Y Z,gM Y Z,.abs (aH 149 2 A1 q1.length c1 (mT q1)),.abs R])) ?_ ?_)))
  ·rintro⟨p1,q1,A1,c1⟩ ⟨he1,hl1⟩
   exact aq.region (jN 6 [44,49] (λb4=>[(3,x_ j ((nd Z.ns d).ah.length) (cU.hd (hI.ah d hd) (i:=j) zc)),(4,r2 (cU.rd (hI.ah d hd) (i:=j) zc (j:=0) rfl) (cU.rd (hI.ah d hd) (i:=j) zc (j:=1) rfl))]) (λ_=>[]) (λb4=>.aD b4 [.string (en (nd Z.ns d).ah j).name,vI ((en (nd Z.ns d).ah j).id)] 149) (λb4=>mR 4 93 (some ⟨b4,0,none⟩) 1 1 [.string (en (nd Z.ns d).ah j).name,vI ((en (nd Z.ns d).ah j).id)] rfl (fP (j:=6) rfl) (λA5 c6=>av.cL 4 rfl (Dx (e:=(en (nd Z.ns d).ah j))) (sl 50 (.slice A5 (q1.length+1) (c6)) (.slice A5 ((q1++[(en (nd Z.ns d).ah j)]).length) (c6)) (by rw [←oq]) (jK 1 [9] [] (LX (aq.region (jK 3 [12] [(1,wJ ((j:Int)+1) (↑(j+1)))] (NL (tJ ((j+1),p1,(q1++[(en (nd Z.ns d).ah j)]),A5,c6) [0,1,2,3,4,5] (⟨zc,he1⟩)))))))))))
  refine SR (jK 3 [29] [] (av.pJ 29 (!put) (λ_=>KB) (λCJ=>jK 8 [37] [(2,x_ j ((nd Z.ns d).ah.length) (cU.hd (hI.ah d hd) (i:=j) zc)),(4,r_ (cU.rd (hI.ah d hd) (i:=j) zc (j:=0) rfl)),(6,w_ (.bool (!(decide (jy ((en (nd Z.ns d).ah j).name) name)))) (adx _ _))] (NN (cN (jy ((en (nd Z.ns d).ah j).name) name) (λyK=>SR ?_) (λyK=>aq.skip (mJ (put,q,Ao,ca) [0,1,2,3,4,5] (⟨he.keep zc (λ_=>yK),zc⟩)))))) (λCJ=>jK 8 [37] [] (NF (aq.skip (mJ (put,q,Ao,ca) [0,1,2,3,4,5] (⟨he.keep zc (λe=>by rw [e] at CJ;cases CJ),zc⟩)))))))
  have hl1:=oq (q:=q) (e:=(⟨name,id⟩:fD))
  exact jB 5 [38,42] (λb7=>.aD b7 [.string name,vI (id)] 149) (λb7=>mR 4 93 (some ⟨b7,0,none⟩) 1 1 [.string name,vI (id)] rfl (fP (j:=6) rfl) (λA8 c9=>av.cL 4 rfl (Dx (e:=(⟨name,id⟩:fD))) (sl 43 (.slice A8 (q.length+1) (c9)) (.slice A8 ((q++[(⟨name,id⟩:fD)]).length) (c9)) (by rw [←oq]) (jK 1 [9] [] (NN (aq.region (jK 1 [10] [] (NL (mJ (true,(q++[(⟨name,id⟩:fD)]),A8,c9) [0,1,2,3,4,5] (⟨gJ.put ((show put=false by simpa using CJ) ▸ he) zc yK,zc⟩))))))))))
 refine XX (aq.join (ι:=(List fD)×(Option Addr)×Nat) (λ(q2,A2,c2)=>(q2=(mM name id (nd Z.ns d).ah))) (λ(q2,A2,c2)=>([(1,vI ↑d)]++zT9 b1 b2 A2 q2 c2)) (λ(q2,A2,c2)=>(qD b1 Z Y b2++[gZ Y Z,gM Y Z,.abs (aH 149 2 A2 q2.length c2 (mT q2)),.abs R])) ?_ (SR (jK 2 [52] [] (NN (aq.cond (b:=(!put)) (λ_=>KB) (λyL=>aq.region (jB 5 [53,57] (λb10=>.aD b10 [.string name,vI (id)] 149) (λb10=>mR 4 93 (some ⟨b10,0,none⟩) 1 1 [.string name,vI (id)] rfl (fP (j:=6) rfl) (λGw DW=>av.cL 4 rfl (Dx (e:=(⟨name,id⟩:fD))) (sl 58 (.slice Gw (q.length+1) (DW)) (.slice Gw ((q++[(⟨name,id⟩:fD)]).length) (DW)) (by rw [←oq]) (jK 1 [9] [] (NL (mJ ((q++[(⟨name,id⟩:fD)]),Gw,DW) [0,1,2,3,4,5] (gJ.last Pe))))))))) (λyL=>aq.skip (mJ (q,Ao,ca) [0,1,2,3,4,5] (gJ.end_ Pe))))))))
 rintro⟨q2,A2,c2⟩ JC
 refine SR ?_
 subst JC
 refine av.mQ (Φ:=λβ'=>cU β' A2 (mM name id (nd Z.ns d).ah)) 4 [0,1,2,3,5] (fe:=(qD b1 Z Y b2++[gZ Y Z,gM Y Z,.abs R])) rfl rfl KB (λF w h β' h1 h2=>cC.iH h h1 h2) (λβ1 cG hE=>?_)
 replace hI:=hI.le cG
 replace aE:=aE.trans cG
 exact jK 7 [63,65] [(2,a_ 0 b1),(5,x_ d Z.ns.length (lK))] (av.zA 2 (d*10+9) (d:=none) (T:=93) (e:=95) (size:=10) (n:=Z.ns.length) (cap:=Y.c) (A:=Y.A) (xs:=(bG Y.L Z.ns)) (u:=.slice A2 ((mM name id (nd Z.ns d).ah).length) (c2)) (a:=(.tmp 65)) (y:=(.tmp 63)) (λ_=>KB) KB (λ_=>KB) (λ_=>KB) KB rfl zc (by rw [nW];omega) (NS (jK 9 [72,74] [(2,a_ 0 b1),(6,A_ 0 b1 2),(7,x_ d Z.ns.length (lK))] (av.Dw 2 (d*10+5) (d:=none) (T:=26) (e:=95) (size:=10) (n:=Z.ns.length) (cap:=Y.c) (A:=Y.A) (xs:=((bG Y.L Z.ns).set (d*10+9) (.slice A2 ((mM name id (nd Z.ns d).ah).length) (c2)))) (u:=.int .i64 (Z.cS)) (u2:=.int .i64 (Z.cZ)) (a:=(.tmp 74)) (y:=(.tmp 72)) (λ_=>KB) KB (λ_=>KB) (λ_=>KB) KB rfl rfl zc (by rw [ag8,nW];omega) (av.cL 2 rfl (R4 hd rfl) (NS (jC 2 [] [(0,A_ 0 b1 12),(1,A_ 1 b2 12)] [(1,(zC (rV Z Y)))] (eO (l:=[.abs (aH 95 10 Y.A ((dh Z d name id).ns.length) Y.c (bG (Y.L.bS d A2 c2) (dh Z d name id).ns)),gM Y Z]) (v:=(.agg ⟨rV Z Y⟩)) [A_ 1 b2 12] aE ⟨_,by simp only [rV];rw [CI];rfl,rfl,hI.nG hd hE rfl rfl⟩ [2,3,4]))))))))
theorem BM {β:Bs} (Z:RS) (Y:RL) (hI:lU β Z Y.L Y.H Y.V) {n:Nat} (hD:RD n Z) (hn:n<=7) (d:Nat) (hd:d<Z.ns.length) (name:ByteArray) (free:Bool) :
 cE Tryz.prog β 106 #[.agg ⟨rV Z Y⟩,vI (((d:Nat):Int)),.string name,.bool free] [gZ Y Z,gM Y Z] (λβ' v l=>∃L' G' cg',v=.agg ⟨rW (cX Z d name free) Y.A Y.c G' cg' Y.H Y.ch Y.V Y.cv⟩/\l=[.abs (aH 95 10 Y.A ((cX Z d name free).ns.length) Y.c (bG L' (cX Z d name free).ns)),.abs (aH 3 1 G' ((cX Z d name free).aG.length) cg' (bH (cX Z d name free).aG))]/\lU β' (cX Z d name free) L' Y.H Y.V):=by
 refine oI Tryz.func106 Tryz.ntmps106 (λaE R=>SR (jB 1 [4] (λb13=>.aD b13 (rV Z Y) 45) (λb13=>jB 1 [8] (λb14=>.aD b14 (rZ) 45) (λb14=>NS (jB 2 [9] (λb15=>.aD b15 [] 149) (λb15=>NS (av.mem (λw hS=>hS.ou (i:=5) (b:=b15) (cs:=[]) (e:=149) 2 0 KB rfl Pd) (av.rX 0 rfl zc (λlK=>jK 8 [10] [(2,a_ 3 b13),(4,x_ d Z.ns.length (lK)),(6,v_ 0 (nA Z.ns Y.L Y.A Y.c d 9 hd rfl))] (NS (jK 1 [11] [] (NZ (jK 1 [12] [] (NN (aq.block (lJ (ι:=Nat×(List fD)×Int×(Option Addr)×Nat) (λ(j,q,z,Ao,ca)=>(j<=(nd Z.ns d).ah.length)/\(q=rS name ((nd Z.ns d).ah.take j))/\(z=q4 name ((nd Z.ns d).ah.take j) 0)) (λ(j,q,z,Ao,ca)=>(nd Z.ns d).ah.length-j) (λ(j,q,z,Ao,ca)=>([(1,vI ↑d),(2,.string name),(3,.bool free)]++zT9 b13 b14 Ao q ca++[(10,.slice (Y.L.eA d) ((nd Z.ns d).ah.length) ((Y.L.eC d))),(11,vI (z)),(12,vI ↑j)])) (λ(j,q,z,Ao,ca)=>(qD b13 Z Y b14++[gZ Y Z,gM Y Z,.abs (aH 149 2 Ao q.length ca (mT q)),.abs R])) (0,[],0,some ⟨b15,0,none⟩,0) [3,4,0,1,5,2] (⟨ag0 _,rfl,rfl⟩) ?_))))))))))))))))
 rintro⟨j,q,z,Ao,ca⟩ ⟨hj,hq,hz⟩
 have vR:q.length<=j:=by rw [hq];exact Zk
 have hrw:=(hD.rb zc).row hd
 refine SQ (jK 4 [24] [] (NN (cP ((((j:Nat):Int):Int)<((((nd Z.ns d).ah.length:Nat):Int):Int)) (λrA=>KX (aq.seq (aq.block (SR (jK 7 [33] [(2,x_ j ((nd Z.ns d).ah.length) (cU.hd (hI.ah d hd) (i:=j) zc)),(4,r_ (cU.rd (hI.ah d hd) (i:=j) zc (j:=0) rfl)),(6,w_ (.bool (decide (((en (nd Z.ns d).ah j).name:ByteArray)=name))) (qN _ _))] (NN (cP (((en (nd Z.ns d).ah j).name:ByteArray)=name) (λLp=>aq.region (jK 6 [11] [(2,x_ j ((nd Z.ns d).ah.length) (cU.hd (hI.ah d hd) (i:=j) zc)),(4,r_ (cU.rd (hI.ah d hd) (i:=j) zc (j:=1) rfl))] (LX (aq.region (jK 3 [12] [(1,wJ ((j:Int)+1) (↑(j+1)))] (NL (tJ ((j+1),q,(en (nd Z.ns d).ah j).id,Ao,ca) [0,1,2,3,4,5] (⟨zc,by grind [MK],ab8 zc Lp⟩)))))))) (λLp=>aq.region (jN 6 [39,44] (λb16=>[(3,x_ j ((nd Z.ns d).ah.length) (cU.hd (hI.ah d hd) (i:=j) zc)),(4,r2 (cU.rd (hI.ah d hd) (i:=j) zc (j:=0) rfl) (cU.rd (hI.ah d hd) (i:=j) zc (j:=1) rfl))]) (λ_=>[]) (λb16=>.aD b16 [.string (en (nd Z.ns d).ah j).name,vI ((en (nd Z.ns d).ah j).id)] 149) (λb16=>mR 4 93 (some ⟨b16,0,none⟩) 1 1 [.string (en (nd Z.ns d).ah j).name,vI ((en (nd Z.ns d).ah j).id)] rfl (fP (j:=6) rfl) (λoO qI=>av.cL 4 rfl (Dx (e:=(en (nd Z.ns d).ah j))) (sl 45 (.slice oO (q.length+1) (qI)) (.slice oO ((q++[(en (nd Z.ns d).ah j)]).length) (qI)) (by rw [←oq]) (jK 1 [9] [] (LX (aq.region (jK 3 [12] [(1,wJ ((j:Int)+1) (↑(j+1)))] (NL (tJ ((j+1),(q++[(en (nd Z.ns d).ah j)]),z,oO,qI) [0,1,2,3,4,5] (⟨zc,by grind [KQ],by rw [hz];exact Zj zc Lp⟩))))))))))))))))))) (λrA=>XX (SR ?_)))))
 have hje:j=(nd Z.ns d).ah.length:=zc
 rw [hje,ahl] at hq hz
 subst hq
 subst hz
 refine av.mQ (Φ:=λβ'=>cU β' Ao (rS name (nd Z.ns d).ah)) 4 [0,1,2,3,5] (fe:=(qD b13 Z Y b14++[gZ Y Z,gM Y Z,.abs R])) rfl rfl KB (λF w h β' h1 h2=>cC.iH h h1 h2) (λβ1 cG hE=>?_)
 replace hI:=hI.le cG
 replace aE:=aE.trans cG
 refine jK 7 [50,52] [(2,a_ 0 b13),(5,x_ d Z.ns.length (lK))] (av.zA 2 (d*10+9) (d:=none) (T:=93) (e:=95) (size:=10) (n:=Z.ns.length) (cap:=Y.c) (A:=Y.A) (xs:=(bG Y.L Z.ns)) (u:=.slice Ao ((rS name (nd Z.ns d).ah).length) (ca)) (a:=(.tmp 52)) (y:=(.tmp 50)) (λ_=>KB) KB (λ_=>KB) (λ_=>KB) KB rfl zc (by rw [nW];omega) (NS (jK 9 [59,61] [(2,a_ 0 b13),(6,A_ 0 b13 2),(7,x_ d Z.ns.length (lK))] (av.Dw 2 (d*10+5) (d:=none) (T:=26) (e:=95) (size:=10) (n:=Z.ns.length) (cap:=Y.c) (A:=Y.A) (xs:=((bG Y.L Z.ns).set (d*10+9) (.slice Ao ((rS name (nd Z.ns d).ah).length) (ca)))) (u:=.int .i64 (Z.cS)) (u2:=.int .i64 (Z.cZ)) (a:=(.tmp 61)) (y:=(.tmp 59)) (λ_=>KB) KB (λ_=>KB) (λ_=>KB) KB rfl rfl zc (by rw [ag8,nW];omega) (av.cL 2 rfl (R4 hd rfl) (NN (aq.seq (SR ?_))))))))
 have di:lU β1 (Dy Z d name) (Y.L.bS d Ao ca) Y.H Y.V:=hI.nG hd hE rfl rfl
 have Cx:RD (n+1) (Dy Z d name):=hD.del hd
 refine jK 2 [63] [] (av.pJ 63 free (λ_=>KB) (λh63=>jK 2 [64,65] [(0,A_ 0 b13 12)] ?_) (λh63=>jK 5 [68] [] (NF (KX (SR (jC 2 [] [(0,A_ 0 b13 12),(1,A_ 1 b14 12)] [(1,(zC (rV Z Y)))] (eO [A_ 1 b14 12] aE ⟨(Y.L.bS d Ao ca),Y.G,Y.cg,by simp only [rV,rW];rw [JJ (λe=>by rw [e] at h63;cases h63),uY]<;>rfl,by rw [JJ (λe=>by rw [e] at h63;cases h63)]<;>rfl,di.same rfl rfl⟩ [2,3,4])))))))
 have q2:=λnV (h:dz nV (Dy Z d name) ⟨Y.A,Y.c,(Y.L.bS d Ao ca),Y.G,Y.cg,Y.H,Y.ch,Y.V,Y.cv⟩)=>V6 (Dy Z d name) ⟨Y.A,Y.c,(Y.L.bS d Ao ca),Y.G,Y.cg,Y.H,Y.ch,Y.V,Y.cv⟩ h (Cx.rb zc) (q4 name (nd Z.ns d).ah 0)
 simp only [rV,acd] at q2
 exact gE [2,3] (eP di (λ_ _ h=>q2 _ h)) (jK 2 [68] [] (NN (cP (((tY (Dy Z d name).ns (q4 name (nd Z.ns d).ah 0)):Int)=(0:Int)) (λh68=>aq.region (jN 4 [70,72] (λb19=>[(1,a_ 2 b13)]) (λ_=>[]) (λb19=>.aD b19 [vI ((q4 name (nd Z.ns d).ah 0))] 3) (λb19=>mR 1 41 (some ⟨b19,0,none⟩) 1 1 [vI ((q4 name (nd Z.ns d).ah 0))] rfl (fP (j:=5) rfl) (λog oh=>av.cL 1 rfl (EQ) (sl 73 (.slice og (Z.aG.length+1) (oh)) (.slice og ((Z.aG++[(q4 name (nd Z.ns d).ah 0)]).length) (oh)) (by rw [←oq]) (jC 2 [] [(1,a_ 2 b13)] [(2,[(1,.slice og ((Z.aG++[(q4 name (nd Z.ns d).ah 0)]).length) (oh))])] (NS (jC 2 [] [(0,A_ 2 b13 12),(1,A_ 3 b14 12)] [(3,([(0,.slice Y.A (Z.ns.length) (Y.c)),(1,.slice og ((Z.aG++[(q4 name (nd Z.ns d).ah 0)]).length) (oh))]++adB Z Y++zT8 Z))] (eO [A_ 3 b14 12] aE ⟨(Y.L.bS d Ao ca),og,oh,by simp only [rV,rW];rw [R5 h63 h68,uY]<;>rfl,by rw [R5 h63 h68]<;>rfl,di.same rfl rfl⟩ [0,1,4])))))) (n:=Z.aG.length) (hb:=by have:=hD.aG;omega)))) (λh68=>KX (SR (jC 2 [] [(0,A_ 2 b13 12),(1,A_ 3 b14 12)] [(3,(zC (rV Z Y)))] (eO [A_ 3 b14 12] aE ⟨(Y.L.bS d Ao ca),Y.G,Y.cg,by simp only [rV,rW];rw [JJ (λ_=>h68),uY]<;>rfl,by rw [JJ (λ_=>h68)]<;>rfl,di.same rfl rfl⟩ [0,1,4])))))))
theorem ace {β:Bs} (Z:RS) (Y:RL) (hI:lU β Z Y.L Y.H Y.V) {n:Nat} (hD:RD n Z) (hn:n<=8) (hl:0<=Z.last/\Z.last<1099511627776) (d:Nat) (hd:d<Z.ns.length) (name:ByteArray) (x:aO) (hxd:x.data=[]) (L5:x.ah=[]) :
 cE Tryz.prog β 117 #[.agg ⟨rV Z Y⟩,vI (((d:Nat):Int)),.string name,.agg #[vI (x.id),vI (x.kind),vI (x.mode),vI (x.bg),vI (x.bh),vI (x.aU),vI (x.aI),.slice none (0) (0),.string x.target,.slice none (0) (0)]] [gZ Y Z,gM Y Z] (λβ' v l=>∃A' c' L',v=.agg ⟨rW (jV Z d name x) A' c' Y.G Y.cg Y.H Y.ch Y.V Y.cv⟩/\l=[.abs (aH 95 10 A' ((jV Z d name x).ns.length) c' (bG L' (jV Z d name x).ns)),.abs (aH 3 1 Y.G ((jV Z d name x).aG.length) Y.cg (bH (jV Z d name x).aG))]/\lU β' (jV Z d name x) L' Y.H Y.V/\L'.dA Z.ns.length=none/\L'.dC Z.ns.length=0):=by
 refine oI Tryz.func117 Tryz.ntmps117 (λaE R=>SR (jB 1 [4] (λlI=>.aD lI (rV Z Y) 45) (λlI=>jB 1 [7] (λER=>.aD ER [vI (x.id),vI (x.kind),vI (x.mode),vI (x.bg),vI (x.bh),vI (x.aU),vI (x.aI),.slice none (0) (0),.string x.target,.slice none (0) (0)] 95) (λER=>jB 1 [8] (λb24=>.aD b24 (rZ) 45) (λb24=>NS (jC 5 [] [(1,a_ 3 lI),(2,wJ (Z.last+1) (Z.last+1)),(4,a_ 3 lI)] [(3,[(11,vI (Z.last+1))])] (NS (jC 4 [] [(1,a_ 3 lI),(3,a_ 4 ER)] [(4,[(0,vI (Z.last+1))])] (NS (jC 5 [] [(2,A_ 3 lI 2),(4,A_ 4 ER 2)] [(4,[(5,vI (Z.cS)),(6,vI (Z.cZ))])] (NS ?_)))))))))))
 have hI0:lU β ({Z with last:=Z.last+1}:RS) Y.L Y.H Y.V:=hI.same rfl rfl
 refine jK 5 [20,21,22,24] [(0,A_ 3 lI 12),(4,a_ 4 ER)] (jx [0,1] (BL ({Z with last:=Z.last+1}:RS) Y hI0 (RD.rb (hD.last _) hn) d hd name (Z.last+1)) ?_)
 rintro β1 _ _ cG ⟨L1,rfl,rfl,di⟩
 replace aE:=aE.trans cG
 refine jC 1 [] [(0,A_ 3 lI 12)] [(3,(zC (rV (dh ({Z with last:=Z.last+1}:RS) d name (Z.last+1)) Y)))] (NS ?_)
 have hl1:(dh ({Z with last:=Z.last+1}:RS) d name (Z.last+1)).ns.length=Z.ns.length:=CI
 exact jN 5 [28,30] (λsA=>[(2,a_ 3 lI),(3,A_ 4 ER 10)]) (λ_=>[]) (λsA=>.aD sA [vI (Z.last+1),vI (x.kind),vI (x.mode),vI (x.bg),vI (x.bh),vI (Z.cS),vI (Z.cZ),.slice none (0) (0),.string x.target,.slice none (0) (0)] 95) (λsA=>mR 0 22 (some ⟨sA,0,none⟩) 1 1 [vI (Z.last+1),vI (x.kind),vI (x.mode),vI (x.bg),vI (x.bh),vI (Z.cS),vI (Z.cZ),.slice none (0) (0),.string x.target,.slice none (0) (0)] rfl (fP (j:=6) rfl) (λqq qt=>av.cL 0 rfl (HF (n:=({x with id:=Z.last+1,aU:=Z.cS,aI:=Z.cZ}:aO)) (by show x.data.length=0;rw [hxd];rfl) (by show x.ah.length=0;rw [L5];rfl)) (sl 31 (.slice qq (((dh ({Z with last:=Z.last+1}:RS) d name (Z.last+1)).ns.length)+1) (qt)) (.slice qq (((dh ({Z with last:=Z.last+1}:RS) d name (Z.last+1)).ns++[({x with id:=Z.last+1,aU:=Z.cS,aI:=Z.cZ}:aO)]).length) (qt)) (by rw [←oq]) (jC 3 [] [(2,a_ 3 lI)] [(3,[(0,.slice qq (((dh ({Z with last:=Z.last+1}:RS) d name (Z.last+1)).ns++[({x with id:=Z.last+1,aU:=Z.cS,aI:=Z.cZ}:aO)]).length) (qt))])] (NS (jC 2 [] [(0,A_ 3 lI 12),(1,A_ 5 b24 12)] [(5,[(0,.slice qq (((dh ({Z with last:=Z.last+1}:RS) d name (Z.last+1)).ns++[({x with id:=Z.last+1,aU:=Z.cS,aI:=Z.cZ}:aO)]).length) (qt)),(1,.slice Y.G ((dh ({Z with last:=Z.last+1}:RS) d name (Z.last+1)).aG.length) (Y.cg)),(2,vI ((dh ({Z with last:=Z.last+1}:RS) d name (Z.last+1)).cH)),(3,vI ((dh ({Z with last:=Z.last+1}:RS) d name (Z.last+1)).aJ)),(4,.slice Y.H ((dh ({Z with last:=Z.last+1}:RS) d name (Z.last+1)).us.length) (Y.ch)),(5,.slice Y.V ((dh ({Z with last:=Z.last+1}:RS) d name (Z.last+1)).us.length) (Y.cv)),(6,vI ((dh ({Z with last:=Z.last+1}:RS) d name (Z.last+1)).cN)),(7,vI ((dh ({Z with last:=Z.last+1}:RS) d name (Z.last+1)).cB)),(8,vI ((dh ({Z with last:=Z.last+1}:RS) d name (Z.last+1)).cH)),(9,vI ((dh ({Z with last:=Z.last+1}:RS) d name (Z.last+1)).cS)),(10,vI ((dh ({Z with last:=Z.last+1}:RS) d name (Z.last+1)).cZ)),(11,vI ((dh ({Z with last:=Z.last+1}:RS) d name (Z.last+1)).last))])] (eO [A_ 5 b24 12] aE ⟨qq,qt,_,rfl,rfl,di.snoc (n:=({x with id:=Z.last+1,aU:=Z.cS,aI:=Z.cZ}:aO)) rfl hxd L5 rfl,by rw [←hl1];exact⟨agW rfl,agW rfl⟩⟩)))))) (n:=(dh ({Z with last:=Z.last+1}:RS) d name (Z.last+1)).ns.length) (hb:=by have:=hD.ns;omega))
theorem yh {β:Bs} (Z:RS) (Y:RL) (hR:dz β Z Y) (hB:RB Z) :
 cE Tryz.prog β 86 #[.agg ⟨rV Z Y⟩] [] (λβ' v l=>∃Y',v=.agg ⟨rV (gh Z) Y'⟩/\l=[]/\dz β' (gh Z) Y'):=by
 refine oI Tryz.func86 Tryz.ntmps86 (λaE R=>SR (jB 1 [1] (λjc=>.aD jc (rV Z Y) 45) (λjc=>jB 1 [2] (λyO=>.aD yO (rZ) 45) (λyO=>NS (jB 2 [3] (λb30=>.aD b30 [] 95) (λb30=>NS (av.mem (λw hS=>hS.ou (i:=3) (b:=b30) (cs:=[]) (e:=95) 10 0 KB rfl Pd) (jB 2 [4] (λt8=>.aD t8 [] 3) (λt8=>NZ (av.mem (λw hS=>hS.ou (i:=4) (b:=t8) (cs:=[]) (e:=3) 1 0 KB rfl Pd) (jK 1 [5] [] (NN (aq.block (lJ (λ(i,p,K,An,cn,l,Ag,cg)=>(i<=Z.ns.length)/\(p=tK Z i)/\(l=pQ Z i)/\(oz β p p.length K)) (λ(i,p,K,An,cn,l,Ag,cg)=>Z.ns.length-i) (λ(i,p,K,An,cn,l,Ag,cg)=>(zT7 jc yO An p cn Ag l cg i)) (λ(i,p,K,An,cn,l,Ag,cg)=>(qD jc Z Y yO++[.abs (aH 95 10 An p.length cn (bG K p)),Wn Ag l cg,.abs R])) (0,[],Hv,some ⟨b30,0,none⟩,0,[],some ⟨t8,0,none⟩,0) [1,2,3,4,0] (⟨ag0 _,rfl,rfl,⟨λi hi=>agY hi (ag2 i),λi hi=>agY hi (ag2 i)⟩⟩) ?_))))))))))))))
 rintro⟨i,p,K,An,cn,l,Ag,cg⟩ ⟨hi,hp,hl,hK⟩
 have hbn:=hB.ns
 have hpl:p.length<=i:=by rw [hp];exact LZ
 have hll:l.length<=i:=by rw [hl];exact Wk
 refine SQ (jK 6 [16] [(3,a_ 0 jc)] (NN (cP ((((i:Nat):Int):Int)<(((Z.ns.length:Nat):Int):Int)) (λo6=>?_) (λo6=>?_))))
 ·refine KX (aq.seq (aq.block (SR (jK 8 [6] [(2,a_ 0 jc),(4,x_ i Z.ns.length (aP.hd hR.n (i:=i) zc)),(6,r_ (aP.rd hR.n (i:=i) zc (j:=0) rfl))] (NS (jK 1 [7] [] (NZ (jK 1 [8] [] (NN (aq.block (lJ (λ(k,op)=>(k<=Z.us.length)/\(op=true↔∃q,q<k/\(iV Z.us).getD q 0=(nd Z.ns i).id)) (λ(k,op)=>Z.us.length-k) (λ(k,op)=>(zT7 jc yO An p cn Ag l cg i++[(6,vI ((nd Z.ns i).id)),(7,.bool op),(8,vI ↑k)])) (λ(k,op)=>(qD jc Z Y yO++[.abs (aH 95 10 An p.length cn (bG K p)),Wn Ag l cg,.abs R])) (0,false) [0,1,2,3,4] (⟨ag0 _,⟨λe=>(by cases e),λ⟨q,h,_⟩=>agY h (ag2 q)⟩⟩) ?_)))))))))))
  rintro⟨k,op⟩ ⟨hk,bZ⟩
  have hbu:=hB.us
  refine SQ (jK 6 [31] [(3,a_ 0 jc)] (NN (cP ((((k:Nat):Int):Int)<(((Z.us.length:Nat):Int):Int)) (λU7=>KX (aq.seq (aq.block (SR (jK 8 [41] [(2,a_ 0 jc),(4,x_ k Z.us.length (xg.hd (l:=(iV Z.us)) hR.v (j:=k) (by grind [j5,mH]))),(5,r_ (xg.rd (l:=(iV Z.us)) hR.v (j:=k) (by grind [j5,mH])))] (NN (cP ((((iV Z.us).getD k 0):Int)=((nd Z.ns i).id:Int)) (λAB=>aq.region (jK 1 [7] [] (LX (aq.region (jK 3 [8] [(1,wJ ((k:Int)+1) (↑(k+1)))] (NL (tJ ((k+1),true) [0,1,2,3,4] (⟨zc,⟨λ_=>⟨k,zc,AB⟩,λ_=>rfl⟩⟩)))))))) (λAB=>KX (aq.region (jK 3 [8] [(1,wJ ((k:Int)+1) (↑(k+1)))] (NL (tJ ((k+1),op) [0,1,2,3,4] (⟨zc,⟨λe=>let ⟨q,h1,h2⟩:=bZ.1 e;⟨q,zc,h2⟩,λ⟨q,h1,h2⟩=>bZ.2 Pe⟩⟩))))))))))))) (λU7=>XX (aq.seq (SR ?_))))))
  replace bZ:op=true↔(nd Z.ns i).id∈iV Z.us:=bZ.trans (by rw [show k=Z.us.length by omega];exact afE.symm)
  refine jK 2 [42,43] [(0,A_ 0 jc 12)] (gE [] (wC Z Y hR hB (nd Z.ns i).id) (jK 1 [45] [] (sP 45 ((nd Z.ns i).id∈Z.aG) (λNH=>?_) (λNH=>?_))))
  ·refine jK 2 [47] [] (jK 1 [48] [] (NN (aq.cond (b:=(!op)) (λ_=>KB) (λh48=>?_) (λh48=>?_))))
   ·refine XX (aq.region (jK 3 [5] [(1,wJ ((i:Int)+1) (↑(i+1)))] (NL ?_)))
    have hnk:¬rU Z (nd Z.ns i)=true:=λe=>by grind [HE]
    exact tJ ((i+1),p,K,An,cn,l,Ag,cg) [0,1,2,3,4] (⟨zc,by rw [hp,O9 zc hnk],by rw [hl,TV zc hnk],hK⟩)
   have hkp:rU Z (nd Z.ns i)=true:=HE.2 (λhg=>bZ.1 (by simpa using h48))
   refine KX (aq.join (λ(l2,A2,c2)=>(l2=pQ Z (i+1))) (λ(l2,A2,c2)=>(zT7 jc yO An p cn A2 l2 c2 i)) (λ(l2,A2,c2)=>(qD jc Z Y yO++[.abs (aH 95 10 An p.length cn (bG K p)),Wn A2 l2 c2,.abs R])) ?_ (SR (jK 2 [49,50] [(0,A_ 0 jc 12)] (gE [] (wC Z Y hR hB (nd Z.ns i).id) (NN (cP ((nd Z.ns i).id∈Z.aG) (λxG=>aq.region (jB 3 [52,54] (λEi=>.aD Ei [vI ((nd Z.ns i).id)] 3) (λEi=>mR 3 41 (some ⟨Ei,0,none⟩) 1 1 [vI ((nd Z.ns i).id)] rfl (fP (j:=5) rfl) (λA36 c37=>av.cL 3 rfl (EQ) (sl 55 (.slice A36 (l.length+1) (c37)) (.slice A36 ((l++[(nd Z.ns i).id]).length) (c37)) (by rw [←oq]) (jK 1 [4] [] (NL (mJ ((l++[(nd Z.ns i).id]),A36,c37) [0,1,2,3,4] (by rw [hl,LW zc hkp xG]))))))))) (λxG=>aq.skip (mJ (l,Ag,cg) [0,1,2,3,4] (by rw [hl,Pa zc hkp xG])))))))))
   rintro⟨l2,A2,c2⟩ hl2
   exact aq.region (jN 8 [56,63] (λb32=>[(3,a_ 0 jc),(5,x_ i Z.ns.length (aP.hd hR.n (i:=i) zc)),(6,DR (iq Y.L i (nd Z.ns i)) (λ_ _ h=>aP.rd hR.n zc h))]) (λ_=>[]) (λb32=>.aD b32 (iq Y.L i (nd Z.ns i)) 95) (λb32=>mR 2 22 (some ⟨b32,0,none⟩) 1 1 (iq Y.L i (nd Z.ns i)) rfl (fP (j:=5) rfl) (λL6 L7=>av.cL 2 rfl (HF (n:=nd Z.ns i) rfl rfl) (sl 64 (.slice L6 (p.length+1) (L7)) (.slice L6 ((p++[nd Z.ns i]).length) (L7)) (by rw [←oq]) (jK 1 [3] [] (LX (aq.region (jK 3 [5] [(1,wJ ((i:Int)+1) (↑(i+1)))] (NL (tJ ((i+1),(p++[nd Z.ns i]),(K.put p.length (Y.L.dA i) (Y.L.dC i) (Y.L.eA i) (Y.L.eC i)),L6,L7,l2,A2,c2) [0,1,2,3,4] (⟨zc,by rw [hp,BK zc hkp],hl2,hK.snoc (hR.n.data i zc) (hR.n.ah i zc)⟩)))))))))))
  refine jK 2 [47] [] ?_
  have hkp:rU Z (nd Z.ns i)=true:=HE.2 (λhg=>agY hg NH)
  refine jK 1 [48] [] (NF (KX (aq.join (λ(l2,A2,c2)=>(l2=pQ Z (i+1))) (λ(l2,A2,c2)=>(zT7 jc yO An p cn A2 l2 c2 i)) (λ(l2,A2,c2)=>(qD jc Z Y yO++[.abs (aH 95 10 An p.length cn (bG K p)),Wn A2 l2 c2,.abs R])) ?_ (SR (jK 2 [49,50] [(0,A_ 0 jc 12)] (gE [] (wC Z Y hR hB (nd Z.ns i).id) (NN (cP ((nd Z.ns i).id∈Z.aG) (λxG=>aq.region (jB 3 [52,54] (λb41=>.aD b41 [vI ((nd Z.ns i).id)] 3) (λb41=>mR 3 41 (some ⟨b41,0,none⟩) 1 1 [vI ((nd Z.ns i).id)] rfl (fP (j:=5) rfl) (λA42 c43=>av.cL 3 rfl (EQ) (sl 55 (.slice A42 (l.length+1) (c43)) (.slice A42 ((l++[(nd Z.ns i).id]).length) (c43)) (by rw [←oq]) (jK 1 [4] [] (NL (mJ ((l++[(nd Z.ns i).id]),A42,c43) [0,1,2,3,4] (by rw [hl,LW zc hkp xG]))))))))) (λxG=>aq.skip (mJ (l,Ag,cg) [0,1,2,3,4] (by rw [hl,Pa zc hkp xG])))))))))))
  rintro⟨l2,A2,c2⟩ hl2
  exact aq.region (jN 8 [56,63] (λAy=>[(3,a_ 0 jc),(5,x_ i Z.ns.length (aP.hd hR.n (i:=i) zc)),(6,DR (iq Y.L i (nd Z.ns i)) (λ_ _ h=>aP.rd hR.n zc h))]) (λ_=>[]) (λAy=>.aD Ay (iq Y.L i (nd Z.ns i)) 95) (λAy=>mR 2 22 (some ⟨Ay,0,none⟩) 1 1 (iq Y.L i (nd Z.ns i)) rfl (fP (j:=5) rfl) (λA39 c40=>av.cL 2 rfl (HF (n:=nd Z.ns i) rfl rfl) (sl 64 (.slice A39 (p.length+1) (c40)) (.slice A39 ((p++[nd Z.ns i]).length) (c40)) (by rw [←oq]) (jK 1 [3] [] (LX (aq.region (jK 3 [5] [(1,wJ ((i:Int)+1) (↑(i+1)))] (NL (tJ ((i+1),(p++[nd Z.ns i]),(K.put p.length (Y.L.dA i) (Y.L.dC i) (Y.L.eA i) (Y.L.eC i)),A39,c40,l2,A2,c2) [0,1,2,3,4] (⟨zc,by rw [hp,BK zc hkp],hl2,hK.snoc (hR.n.data i zc) (hR.n.ah i zc)⟩)))))))))))
 refine XX (SR ?_)
 have hie:i=Z.ns.length:=zc
 rw [hie] at hp hl
 refine av.mQ (Φ:=λβ'=>cC β' An (bG K p)) 2 [0,1,3,4] (fe:=(qD jc Z Y yO++[Wn Ag l cg,.abs R])) rfl rfl KB (λF w h β' h1 h2=>cC.iH h h1 h2) (λβ1 cG hN=>?_)
 replace hR:=hR.le cG
 replace hK:=hK.le cG
 replace aE:=aE.trans cG
 refine av.mQ (Φ:=λβ'=>cC β' Ag (bH l)) 2 [0,1,3] (fe:=(qD jc Z Y yO++[.abs R])) rfl rfl KB (λF w h β' h1 h2=>cC.iH h h1 h2) (λnV fw hG=>?_)
 replace hR:=hR.le fw
 replace hK:=hK.le fw
 replace hN:=hN.le fw
 replace aE:=aE.trans fw
 exact jC 4 [] [(3,a_ 0 jc)] [(0,[(0,.slice An (p.length) (cn))])] (NS (jC 3 [] [(2,a_ 0 jc)] [(0,[(1,.slice Ag (l.length) (cg))])] (NS (jC 2 [] [(0,A_ 0 jc 12),(1,A_ 1 yO 12)] [(1,([(0,.slice An (p.length) (cn)),(1,.slice Ag (l.length) (cg))]++adB Z Y++zT8 Z))] (eO [A_ 1 yO 12] aE ⟨⟨An,cn,K,Ag,cg,Y.H,Y.ch,Y.V,Y.cv⟩,by simp only [rV];rw [Pg hp,JK hl]<;>rfl,rfl,Zl hR hN hG hp hl hK⟩ [2])))))
theorem HM {β:Bs} (Z:RS) (Y:RL) (hR:dz β Z Y) (hC:RU Z) (k:Nat) (hk:k<Z.ns.length) :
 cE Tryz.prog β 77 #[.agg ⟨rV Z Y⟩,vI (((k:Nat):Int))] [] (λβ' v l=>∃Y',v=.tuple #[.agg ⟨rV ((kV Z k).1) Y'⟩,vI (kV Z k).2.1,vI (kV Z k).2.2]/\l=[]/\dz β' (kV Z k).1 Y'):=by
 refine oI Tryz.func77 Tryz.ntmps77 (λaE R=>SR (jB 1 [2] (λsM=>.aD sM (rV Z Y) 45) (λsM=>jB 3 [4] (λvS=>.aD vS (rZ) 45) (λvS=>NN (aq.seq ?_)))))
 by_cases hf:(Z.us.length:Int)<Z.cH
 ·refine aq.qZ (S:=[.aD sM (rV Z Y) 45]) (yN [0,1,2,3,4,5,6,7,8] (oJ 14 [(false,15),(false,16),(false,17)] [(false,9),(true,10),(true,11),(true,12),(true,13)])) [1] (gT (oJ 14 [(false,15),(false,16),(false,17)] [(false,9),(true,10),(true,11),(true,12),(true,13)]) (adz sM vS Z Y k) [0,1,2,3,4,5,6,7,8] [(1,A_ 0 sM 4),(4,a_ 0 sM),(6,x_ k Z.ns.length (aP.hd hR.n (i:=k) zc)),(8,r_ (aP.rd hR.n (i:=k) zc (j:=0) rfl))] (oo.one (j:=14) (dj:=7) (R:=λf_ l_=>∃A1:Option Addr,∃c1:Nat,∃B1:Option Addr,∃d1:Nat,f_=[(23,vI 0),(22,vI ((aF.aS Z.us))),(21,.agg #[vI (Z.cH),vI ((max Z.aJ ((Z.us.length:Int)+1))),.slice A1 ((ins (aF.aS Z.us) (nd Z.ns k).id Z.us).length) (c1),.slice B1 ((ins (aF.aS Z.us) (nd Z.ns k).id Z.us).length) (d1)]),(10,.tuple #[.agg #[vI (Z.cH),vI ((max Z.aJ ((Z.us.length:Int)+1))),.slice A1 ((ins (aF.aS Z.us) (nd Z.ns k).id Z.us).length) (c1),.slice B1 ((ins (aF.aS Z.us) (nd Z.ns k).id Z.us).length) (d1)],vI ((aF.aS Z.us)),vI 0]),(20,.tuple #[.agg #[vI (Z.cH),vI ((max Z.aJ ((Z.us.length:Int)+1))),.slice A1 ((ins (aF.aS Z.us) (nd Z.ns k).id Z.us).length) (c1),.slice B1 ((ins (aF.aS Z.us) (nd Z.ns k).id Z.us).length) (d1)],vI ((aF.aS Z.us)),vI 0]),(2,vP sM),(4,vP vS),(12,.agg #[vI (Z.cH),vI (Z.aJ),.slice Y.H (Z.us.length) (Y.ch),.slice Y.V (Z.us.length) (Y.cv)]),(19,vI ((nd Z.ns k).id))]/\l_=[zT4 A1 Z k c1,zT5 B1 Z k d1]) [1] [(false,9,20),(true,10,10),(true,11,21),(true,12,22),(true,13,23)] (jm.of (ι:=Nat) (v:=λ(ud:Nat)=>vP ud) (l:=λ(ud:Nat)=>[.aD ud [vI 0,vI 0,.slice none (0) (0),.slice none (0) (0)] 43]) [20,10,21,22,23] rfl rfl rfl rfl ?_) ?_ ?_))
  ·intro u Aq
   exact jB 1 [7] (λud=>.aD ud [vI 0,vI 0,.slice none (0) (0),.slice none (0) (0)] 43) (λud=>NL (MD ud [7,20,10,21,22,23,2,4,12,19] [1,0]))
  ·refine ez.step (jm.of (ι:=(Option Addr)×Nat×(Option Addr)×Nat) (v:=λ((A1,c1,B1,d1):(Option Addr)×Nat×(Option Addr)×Nat)=>.tuple #[.agg #[vI (Z.cH),vI ((max Z.aJ ((Z.us.length:Int)+1))),.slice A1 ((ins (aF.aS Z.us) (nd Z.ns k).id Z.us).length) (c1),.slice B1 ((ins (aF.aS Z.us) (nd Z.ns k).id Z.us).length) (d1)],vI ((aF.aS Z.us)),vI 0]) (l:=λ((A1,c1,B1,d1):(Option Addr)×Nat×(Option Addr)×Nat)=>[zT4 A1 Z k c1,zT5 B1 Z k d1]) [7] rfl rfl rfl rfl ?_) ?_
   ·intro u Aq
    refine gL [] (ab7 Z.cH Z.aJ Y.H Y.V Y.ch Y.cv Z.us hR.h hR.v (by have:=hC.us;omega) hC.usr hC.xQ (nd Z.ns k).id hf) ?_
    rintro _ _ ⟨A1,c1,B1,d1,rfl,rfl⟩
    exact NL (MD (A1,c1,B1,d1) [20,7,2,4,12,19] [0,1,2])
   rintro _ _ ⟨⟨A1,c1,B1,d1⟩,rfl,rfl⟩
   exact (ez.read (.tuple #[.agg #[vI (Z.cH),vI ((max Z.aJ ((Z.us.length:Int)+1))),.slice A1 ((ins (aF.aS Z.us) (nd Z.ns k).id Z.us).length) (c1),.slice B1 ((ins (aF.aS Z.us) (nd Z.ns k).id Z.us).length) (d1)],vI ((aF.aS Z.us)),vI 0]) (ez.read (.agg #[vI (Z.cH),vI ((max Z.aJ ((Z.us.length:Int)+1))),.slice A1 ((ins (aF.aS Z.us) (nd Z.ns k).id Z.us).length) (c1),.slice B1 ((ins (aF.aS Z.us) (nd Z.ns k).id Z.us).length) (d1)]) (ez.read (.int .i64 ((aF.aS Z.us))) (ez.read (.int .i64 0) ⟨A1,c1,B1,d1,rfl,rfl⟩))))
  rintro _ _ ⟨A1,c1,B1,d1,rfl,rfl⟩ _ _ ⟨ud,rfl,rfl⟩
  refine kC [4] [] [(0,A_ 2 ud 4)] [(2,[(0,vI (Z.cH)),(1,vI ((max Z.aJ ((Z.us.length:Int)+1)))),(2,.slice A1 ((ins (aF.aS Z.us) (nd Z.ns k).id Z.us).length) (c1)),(3,.slice B1 ((ins (aF.aS Z.us) (nd Z.ns k).id Z.us).length) (d1))])] (fN.cut (ι:=Unit) (bU:=λ(_:Unit)=>[(2,vP sM),(4,vP vS),(7,vP ud),(8,vI (aF.aS Z.us)),(23,vI 0)]) (dI:=λ(_:Unit)=>([zT4 A1 Z k c1,zT5 B1 Z k d1,zT6 ud Z A1 k c1 B1 d1,.abs R]++qD sM Z Y vS)) [4] KB ?_ rfl (λ_=>KB) ?_)
  ·exact jK 1 [8] [] (NL (MD () [2,4,7,8,23] [0,1,2,3,4,5]))
  rintro _
  refine fN.last KB (jK 1 [9] [] (NL (aB.np (NX (SR (av.mQ (Φ:=λβ'=>cC β' A1 (bH (bn (ins (aF.aS Z.us) (nd Z.ns k).id Z.us)))) 0 [1,2,3,4,5] (fe:=([zT5 B1 Z k d1,zT6 ud Z A1 k c1 B1 d1,.abs R]++qD sM Z Y vS)) rfl rfl KB (λF w h β' h1 h2=>cC.iH h h1 h2) (λβ1 cG hH=>?_)))))))
  replace hR:=hR.le cG
  replace aE:=aE.trans cG
  refine av.mQ (Φ:=λβ'=>cC β' B1 (bH (iV (ins (aF.aS Z.us) (nd Z.ns k).id Z.us)))) 0 [1,2,3,4] (fe:=([zT6 ud Z A1 k c1 B1 d1,.abs R]++qD sM Z Y vS)) rfl rfl KB (λF w h β' h1 h2=>cC.iH h h1 h2) (λnV fw hV=>?_)
  replace hR:=hR.le fw
  replace hH:=hH.le fw
  replace aE:=aE.trans fw
  exact jC 3 [] [(0,A_ 0 ud 4),(2,A_ 2 sM 4)] [(2,(adA Z A1 k c1 B1 d1))] (NS (jC 6 [5,6] [(0,A_ 2 sM 12),(3,A_ 3 vS 12)] [(3,([(0,.slice Y.A (Z.ns.length) (Y.c)),(1,.slice Y.G (Z.aG.length) (Y.cg)),(2,vI (Z.cH))]++adA Z A1 k c1 B1 d1++zT8 Z))] (eO [A_ 3 vS 12] aE ⟨⟨Y.A,Y.c,Y.L,Y.G,Y.cg,A1,c1,B1,d1⟩,by rw [Pf hf]<;>rfl,rfl,by rw [Pf hf];exact⟨⟨hR.g,hH,hV⟩,hR.n⟩⟩ [1])))
 refine aq.qZ (S:=[.aD sM (rV Z Y) 45]) (yN [0,1,2,3,4,5,6,7,8] (oJ 14 [(false,15),(false,16),(false,17)] [(false,9),(true,10),(true,11),(true,12),(true,13)])) [1] (gT (oJ 14 [(false,15),(false,16),(false,17)] [(false,9),(true,10),(true,11),(true,12),(true,13)]) (adz sM vS Z Y k) [0,1,2,3,4,5,6,7,8] [(1,A_ 0 sM 4),(4,a_ 0 sM),(6,x_ k Z.ns.length (aP.hd hR.n (i:=k) zc)),(8,r_ (aP.rd hR.n (i:=k) zc (j:=0) rfl))] (oo.one (j:=14) (dj:=7) (R:=λf_ l_=>f_=[(23,vI 130),(22,vI 0),(21,.agg #[vI (Z.cH),vI (Z.aJ),.slice Y.H (Z.us.length) (Y.ch),.slice Y.V (Z.us.length) (Y.cv)]),(10,.tuple #[.agg #[vI (Z.cH),vI (Z.aJ),.slice Y.H (Z.us.length) (Y.ch),.slice Y.V (Z.us.length) (Y.cv)],vI 0,vI 130]),(20,.tuple #[.agg #[vI (Z.cH),vI (Z.aJ),.slice Y.H (Z.us.length) (Y.ch),.slice Y.V (Z.us.length) (Y.cv)],vI 0,vI 130]),(2,vP sM),(4,vP vS),(12,.agg #[vI (Z.cH),vI (Z.aJ),.slice Y.H (Z.us.length) (Y.ch),.slice Y.V (Z.us.length) (Y.cv)]),(19,vI ((nd Z.ns k).id))]/\l_=[]) [1] [(false,9,20),(true,10,10),(true,11,21),(true,12,22),(true,13,23)] (jm.of (ι:=Nat) (v:=λ(yg:Nat)=>vP yg) (l:=λ(yg:Nat)=>[.aD yg [vI 0,vI 0,.slice none (0) (0),.slice none (0) (0)] 43]) [20,10,21,22,23] rfl rfl rfl rfl ?_) ?_ ?_))
 ·intro u Aq
  exact jB 1 [7] (λyg=>.aD yg [vI 0,vI 0,.slice none (0) (0),.slice none (0) (0)] 43) (λyg=>NL (MD yg [7,20,10,21,22,23,2,4,12,19] [1,0]))
 ·refine ez.step (jm.of (ι:=Unit) (v:=λ(_:Unit)=>.tuple #[.agg #[vI (Z.cH),vI (Z.aJ),.slice Y.H (Z.us.length) (Y.ch),.slice Y.V (Z.us.length) (Y.cv)],vI 0,vI 130]) (l:=λ(_:Unit)=>[]) [7] rfl rfl rfl rfl ?_) ?_
  ·intro u Aq
   exact gE [] (Y9 Z.cH Z.aJ Y.H Y.V Y.ch Y.cv Z.us (nd Z.ns k).id zc) (NL (MD () [20,7,2,4,12,19] [0]))
  rintro _ _ ⟨_,rfl,rfl⟩
  exact (ez.read (.tuple #[.agg #[vI (Z.cH),vI (Z.aJ),.slice Y.H (Z.us.length) (Y.ch),.slice Y.V (Z.us.length) (Y.cv)],vI 0,vI 130]) (ez.read (.agg #[vI (Z.cH),vI (Z.aJ),.slice Y.H (Z.us.length) (Y.ch),.slice Y.V (Z.us.length) (Y.cv)]) (ez.read (.int .i64 0) (ez.read (.int .i64 130) ⟨rfl,rfl⟩))))
 rintro _ _ ⟨rfl,rfl⟩ _ _ ⟨yg,rfl,rfl⟩
 refine kC [2] [] [(0,A_ 0 yg 4)] [(0,[(0,vI (Z.cH)),(1,vI (Z.aJ)),(2,.slice Y.H (Z.us.length) (Y.ch)),(3,.slice Y.V (Z.us.length) (Y.cv))])] (fN.cut (ι:=Unit) (bU:=λ(_:Unit)=>[(2,vP sM),(4,vP vS),(7,vP yg),(8,vI 0),(23,vI 130)]) (dI:=λ(_:Unit)=>([.aD yg [vI (Z.cH),vI (Z.aJ),.slice Y.H (Z.us.length) (Y.ch),.slice Y.V (Z.us.length) (Y.cv)] 43,.abs R]++qD sM Z Y vS)) [2] KB ?_ rfl (λ_=>KB) ?_)
 ·exact jK 1 [8] [] (NL (MD () [2,4,7,8,23] [0,1,2,3]))
 rintro _
 exact fN.last KB (jK 1 [9] [] (NL (aB.np (NX (SR (jC 3 [] [(0,A_ 0 yg 4),(2,A_ 2 sM 4)] [] (NS (jC 6 [5,6] [(0,A_ 2 sM 12),(3,A_ 3 vS 12)] [(3,(zC (rV Z Y)))] (eO [A_ 3 vS 12] aE ⟨Y,by rw [R8 hf]<;>rfl,rfl,by rw [R8 hf];exact hR⟩ [1])))))))))
end
end Go.Proofs.YtbnfiigafobejaaGreat
