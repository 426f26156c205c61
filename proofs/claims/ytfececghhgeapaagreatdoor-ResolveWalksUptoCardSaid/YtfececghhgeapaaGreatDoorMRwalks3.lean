/-
  PROVED HERE: lemmas and contracts of functions (texts of this repo, joined; what the claim does not use is left out): Hy, Hz, Ac, Wo, Wx, ShelfS, SK, HG, Vv, Vf, Fz, Ws, Wk, Hc, Hd, H1, H2, H3, H4, H5, H6, ShelfP, As, Rs, Rp, VS, GFb, GFc, Cn, GOk, Nw, Il, Rt, Sr, Sd, Dl, HW, Ib.
  CONDITIONS: as the theorems say.
-/
import Derived.Test.YtfececghhgeapaaGreatDoorMRwalks2
import Derived.Lib.Split
import Derived.Shelf.SlGeneric
import Derived.Shelf.SlIter.Nil
import Derived.Shelf.SortM.Plain
import Derived.Shelf.SortM.SortNone
import Derived.Ground.GgzProg
import Derived.Ground.SlgmProg
import Derived.Test.YtfececghhgeapaaGreatDoorProg
import Derived.Shelf.Strings.Split
import Derived.Laws.IdiomStrings
import Derived.Lib.SplitLaws
set_option maxRecDepth 100000
set_option maxHeartbeats 4000000
namespace Go.Proofs.YtfececghhgeapaaGreatDoor
section
open Go.RowKit Go.Maps bw aI
structure qN (β:Bs) (c:aN):Prop where
 hw:(Lit.int .i64 c.bD).wf=true
 ow:(Lit.int .i64 c.other).wf=true
 nm:c.name.size<=1048576
 tx:c.text.size<=1048576
 da:ck β c.dA c.data
 dl:c.data.length<=1099511627776
 dc:c.data.length<=c.dC
 op:mV c.op
section facts
variable {S:bg} {h:Int} {name:ByteArray} {fD:Int} {t:Th} {c:aN}
theorem Cx (hI:Inv0 S) (h:Int) (name:ByteArray) (fD:Int):(∃e,gH S.O S.us h name fD=.error e/\e≠0)\/∃d,gH S.O S.us h name fD=.ok d/\aT S.ay ⟨d,2⟩/\(ah S.O d).aJ=false/\bU name/\aI.get S.us h=some ⟨d,2⟩:=by
 unfold gH
 cases e:aI.get S.us h with
 |none=>exact .inl ⟨131,rfl,d8⟩
 |some t=>
   simp only
   split
   ·rename_i hk
    split
    ·exact .inl ⟨170,rfl,d8⟩
    rename_i hg
    split
    ·rename_i hn
     split
     ·obtain⟨k,kd⟩:=t
      simp only at hk
      subst hk
      exact .inr ⟨k,rfl,(hI.us h _ e).1,by simpa using hg,hn,rfl⟩
     exact .inl ⟨175,rfl,d8⟩
    exact .inl ⟨95,rfl,d8⟩
   exact .inl ⟨173,rfl,d8⟩
theorem Wu (hI:Inv0 S) (c:aN):(∃e,jO S.O S.us c=.error e/\e≠0)\/(∃k,jO S.O S.us c=.ok ⟨k,1⟩/\aT S.ay ⟨k,1⟩)\/(∃k,jO S.O S.us c=.ok ⟨k,2⟩/\aT S.ay ⟨k,2⟩)\/∃k,jO S.O S.us c=.ok ⟨k,3⟩/\aT S.ay ⟨k,3⟩:=by
 unfold jO
 rcases Cx hI c.bD c.name 64 with ⟨e,h1,h2⟩|⟨d,h1,h2,_⟩
 ·rw [h1];exact .inl ⟨e,rfl,h2⟩
 rw [h1]
 simp only
 rcases hI.vC h2 c.name with h3|⟨k,h3,h4⟩|⟨k,h3,h4⟩|⟨k,h3,h4⟩
 all_goals grind
theorem OB {L:HL} {us:bB Th} {h:Int}:dM L (del h us)=del h (dM L us):=Kt (jg L) h us
theorem R5 {us:bB Th} {h:Int} (e:aI.get us h=some t):0<hnd us t.k:=ahR nh (si (g:=λp:Int×Th=>if p.2.k=t.k then 1 else 0) e)
theorem OC {L:HL}:eX (fB S t).2.2.O L=eX S.O L:=by
 by_cases h:(S.us.length:Int)<S.X.cH
 ·rw [mB h];exact zQ (λ_=>eP (f:=λo=>{o with aR:=o.aR+1}) (g:=bT.data) (λ_=>rfl)) (λ_=>ug (f:=λo=>{o with aR:=o.aR+1}) (λ_=>rfl))
 rw [og h]
theorem OD {L:HL}:ig (fB S t).2.2.O L=ig S.O L:=by
 grind [mB,FL,og]
theorem acK:(kI S c).2.2.op=c.op:=by unfold kI;(repeat' split)<;>rfl
theorem TV:(fZ S c).2.2.op=c.op:=by unfold fZ;(repeat' split)<;>rfl
theorem QV:(q6 S c).2.2.op=c.op:=by unfold q6;(repeat' split)<;>rfl
theorem TW:(iH S c).2.2.op=c.op:=by unfold iH;(repeat' split)<;>rfl
theorem QW:(q8 S c).2.2.op=c.op:=by unfold q8;(repeat' split)<;>rfl
theorem OE:(qb S c).2.2.op=c.op:=by unfold qb;(repeat' split)<;>rfl
theorem Wv:(uO S c).2.2.op=c.op:=by unfold uO;(repeat' split)<;>rfl
theorem QX:(rf S c).2.2.op=c.op:=by unfold rf;(repeat' split)<;>rfl
theorem TY:(sB S c).2.2.op=c.op:=by unfold sB;(repeat' split)<;>rfl
theorem QY:(rz S c).2.2.op=c.op:=by unfold rz;(repeat' split)<;>rfl
theorem T9:(sC S c).2.2.op=c.op:=by unfold sC;(repeat' split)<;>rfl
theorem Ua:(sD S c).2.2.op=c.op:=by unfold sD;(repeat' split)<;>rfl
theorem acL:(Bg S c).2.2.op=c.op:=by unfold Bg;(repeat' split)<;>rfl
theorem Ww:(uP S c).2.2.op=c.op:=by unfold uP;(repeat' split)<;>rfl
theorem ZH:(jq S c).2.2.op=c.op:=by unfold jq;(repeat' split)<;>rfl
end facts
theorem vD {S:bg} {c:aN} (h:c.op=1):iE S c=kI S c:=by
 unfold iE
 simp [h]
theorem tW {S:bg} {c:aN} (h:c.op=2):iE S c=fZ S c:=by
 unfold iE
 simp [h]
theorem FW {S:bg} {c:aN} (h:c.op=3):iE S c=q6 S c:=by
 unfold iE
 simp [h]
theorem vE {S:bg} {c:aN} (h:c.op=4):iE S c=iH S c:=by
 unfold iE
 simp [h]
theorem FX {S:bg} {c:aN} (h:c.op=5):iE S c=q8 S c:=by
 unfold iE
 simp [h]
theorem FY {S:bg} {c:aN} (h:c.op=6):iE S c=qb S c:=by
 unfold iE
 simp [h]
theorem FZ {S:bg} {c:aN} (h:c.op=7):iE S c=uO S c:=by
 unfold iE
 simp [h]
theorem F5 {S:bg} {c:aN} (h:c.op=8):iE S c=rf S c:=by
 unfold iE
 simp [h]
theorem F6 {S:bg} {c:aN} (h:c.op=9):iE S c=sC S c:=by
 unfold iE
 simp [h]
theorem Cy {S:bg} {c:aN} (h:c.op=10):iE S c=sD S c:=by
 unfold iE
 simp [h]
theorem Cz {S:bg} {c:aN} (h:c.op=11):iE S c=Bg S c:=by
 unfold iE
 simp [h]
theorem CA {S:bg} {c:aN} (h:c.op=12):iE S c=uP S c:=by
 unfold iE
 simp [h]
theorem sG {S:bg} {c:aN} (h:c.op=13):iE S c=jq S c:=by
 unfold iE
 simp [h]
theorem CB {S:bg} {c:aN} (h:c.op=14):iE S c=sB S c:=by
 unfold iE
 simp [h]
theorem CC {S:bg} {c:aN} (h:c.op=15):iE S c=rz S c:=by
 unfold iE
 simp [h]
theorem zS {S:bg} {c:aN} (h:¬(1<=c.op/\c.op<=15)):iE S c=(230,S,c):=by
 unfold iE
 repeat rw [nw d5]
section inv
variable {S:bg} {d to:Nat} {name aG text:ByteArray} {mode:Int} {c:aN}
theorem OG (hI:Inv0 S):hnd S.us (dm S.X)=0:=by
 have:hnd S.us (dm S.X)=gI (λ_=>0) S.us:=lG (λp hp=>nw (hI.fresh.us p hp))
 rw [this]
 have h0:∀us:bB Th,gI (λ_=>0) us=0:=λus=>by
  induction us with
  |nil=>rfl
  |cons p r ih=>show 0+_=0;rw [ih]
 exact h0 _
theorem Gx (hI:Inv0 S) {kind mode:Int} {tg:ByteArray} (hm:mT mode) (ht:dJ kind tg):qL {dN S.X kind mode with target:=tg}:=
 ⟨hm,⟨Int.le_refl _,by show (0:Int)<=2147483647;decide⟩,⟨Int.le_refl _,by show (0:Int)<=2147483647;decide⟩,hI.now,λ_=>rfl,λ_=>rfl,ht⟩
theorem bC.F7 (hI:bC S) (hd:aT S.ay ⟨d,2⟩) (nG:(ah S.O d).aJ=false) (hgn:bU name) (h0:gY S.X S.O S.ay d name=0) {kind mode:Int} {tg:ByteArray} (hk:kind=1\/kind=2\/kind=3) (hm:mT mode) (ht:dJ kind tg) :
 bC (gU S d name {dN S.X kind mode with target:=tg}):=by
 have h:=hI.add (us':=S.us) (lH:=S.aL) (o:={dN S.X kind mode with target:=tg}) hd nG (xQ h0) hgn (Cd h0) rfl hk rfl rfl rfl rfl rfl (Gx hI.toInv0 hm ht) hI.usr hI.wj hI.Ez hI.aL (λh t e=>⟨.inl (hI.us h t e).1,(hI.us h t e).2⟩) (λ_ _=>rfl) (by rw [OG hI.toInv0];rfl)
 exact h
theorem bC.lP (hI:bC S) (hd:aT S.ay ⟨d,2⟩) (nG:(ah S.O d).aJ=false) (hgn:bU name) (hm:mT mode):bC (Proofs.YtfececghhgeapaaGreatDoor.lP S d name mode).2:=by
 unfold Proofs.YtfececghhgeapaaGreatDoor.lP
 split
 ·rename_i h0
  exact hI.F7 hd nG hgn h0 (.inr (.inl rfl)) hm (.inl ⟨d8,rfl⟩)
 exact hI
theorem acM {s:ByteArray} (h:lF s=0):dJ 3 s:=by
 grind [lF,sS,dJ]
theorem bC.jX (hI:bC S) (hd:aT S.ay ⟨d,2⟩) (nG:(ah S.O d).aJ=false) (hgn:bU name):bC (Proofs.YtfececghhgeapaaGreatDoor.jX S d name text).2:=by
 unfold Proofs.YtfececghhgeapaaGreatDoor.jX
 split
 ·rename_i hb
  split
  ·rename_i h0
   exact hI.F7 hd nG hgn h0 (.inr (.inr rfl)) ⟨d8,d8⟩ (acM hb)
  exact hI
 exact hI
theorem bC.iO (hI:bC S) (hd:aT S.ay ⟨d,2⟩):bC (Proofs.YtfececghhgeapaaGreatDoor.iO S d name).2:=by
 unfold Proofs.YtfececghhgeapaaGreatDoor.iO
 split
 ·exact hI
 rename_i t hl
 split
 ·exact hI
 rename_i hk
 exact hI.FV hd hl hk
theorem bC.jo (hI:bC S) (hd:aT S.ay ⟨d,2⟩):bC (Proofs.YtfececghhgeapaaGreatDoor.jo S d name).2:=by
 unfold Proofs.YtfececghhgeapaaGreatDoor.jo
 split
 ·exact hI
 rename_i t hl
 split
 ·split
  ·rename_i he
   exact hI.drop hd hl (λ_=>he)
  exact hI
 exact hI
theorem Ub {t:Th} (ht:t.k≠to):(ah (aZ S d name t).O to).aJ=(ah S.O to).aJ:=by
 have h1:(ah (aZ S d name t).O to).aJ=(ah (bn S.X S.O d name t) to).aJ:=by
  unfold aZ
  simp only
  split
  ·show (ah (bE _ t.k _) to).aJ=_
   rw [jf (λe=>ht e.symm)]
  rfl
 rw [h1]
 exact eY (g:=bT.aJ) (λ_ _=>rfl) (λ_ _=>rfl) (λ_ _ _=>rfl)
theorem bC.dF (hI:bC S) (hd:aT S.ay ⟨d,2⟩) (fq:aT S.ay ⟨to,2⟩) (nG:(ah S.O to).aJ=false) (hgn:bU aG):bC (Proofs.YtfececghhgeapaaGreatDoor.dF S d name to aG).2:=by
 unfold Proofs.YtfececghhgeapaaGreatDoor.dF
 split
 ·exact hI
 rename_i t hl
 split
 ·exact hI
 rename_i hb
 have hb:t.kind=2->¬rY S.O t.k to:=λh1 h2=>hb ⟨h1,h2⟩
 split
 ·rename_i hn
  exact hI.move hd hl fq nG hn hgn hb
 rename_i o hl2
 split
 ·exact hI
 rename_i hot
 split
 ·exact hI
 rename_i hok
 split
 ·exact hI
 rename_i htk
 have ho:=(hI.bO fq hl2).2
 have ad3:o.k≠to:=hI.ne fq hl2
 have h1:=hI.FV fq hl2 hok
 have jF:aT (aZ S to aG o).ay ⟨d,2⟩:=oZ hI.toInv0 fq hl2 hd (λe=>hok (by have:=jJ hd ho e;rw [←this]))
 have oV:aT (aZ S to aG o).ay ⟨to,2⟩:=oZ hI.toInv0 fq hl2 fq (λe=>ad3 e.symm)
 exact h1.move jF (xR hI.toInv0 fq hl2 hl hot) oV (by rw [Ub ad3];exact nG) (xS hI.toInv0 fq hl2) hgn (λh=>KB h htk)
theorem bC.yT (hI:bC S) (hd:aT S.ay ⟨d,2⟩) (fq:aT S.ay ⟨to,2⟩) (nG:(ah S.O to).aJ=false) (hgn:bU aG):bC (Proofs.YtfececghhgeapaaGreatDoor.yT S d name to aG).2:=by
 unfold Proofs.YtfececghhgeapaaGreatDoor.yT
 split
 ·exact hI
 rename_i t hl
 have ht:=(hI.bO hd hl).2
 split
 ·exact hI
 rename_i hk
 split
 ·rename_i hn
  split
  ·rename_i hr
   have hgt:(ah S.O t.k).aJ=false:=by
    cases hg:(ah S.O t.k).aJ with
    |false=>rfl
    |true=>
      have h1:=(hI.aJ t ht hg).1
      have h2:=hI.aU t ht
      have h3:0<nE S.ay S.O t.k:=qM hd hl
      omega
   exact hI.link fq nG hn hgn ht hgt hk hr
  exact hI
 exact hI
theorem bC.r9 (hI:bC S) (hd:aT S.ay ⟨d,2⟩) (nG:(ah S.O d).aJ=false) (hgn:bU name) (hm:mT mode):bC (Proofs.YtfececghhgeapaaGreatDoor.r9 S d name mode).2.2:=by
 unfold Proofs.YtfececghhgeapaaGreatDoor.r9
 split
 ·rename_i h0
  split
  ·rename_i fT
   obtain⟨g1,g2,_⟩:=least_le hI.usr (λx hx=>(hI.wj x hx).1)
   obtain⟨v1,v2⟩:=RZ (t:=⟨dm S.X,1⟩) hI.usr hI.wj
   have hm2:=Gx (kind:=1) (tg:=⟨#[]⟩) hI.toInv0 hm (.inl ⟨d8,rfl⟩)
   refine hI.add (us':=ins (aI.aS S.us) ⟨dm S.X,1⟩ S.us) (lH:=max S.aL ((S.us.length:Int)+1)) (o:={dN S.X 1 mode with aR:=1}) hd nG (xQ h0) hgn (Cd h0) rfl (.inl rfl) rfl rfl rfl rfl rfl ⟨hm2.mode,hm2.cO,hm2.cQ,hm2.time,hm2.data,hm2.aq,hm2.target⟩ v1 v2 (by rw [kK];omega) (by have:=hI.aL;omega) (λh t e=>?_) (λk hk=>?_) ?_
   ·rw [sU g2] at e
    split at e
    ·cases e;exact⟨.inr rfl,by show (1:Int)≠3;decide⟩
    exact⟨.inl (hI.us h t e).1,(hI.us h t e).2⟩
   ·grind [KD]
   rw [KD,t8 rfl,OG hI.toInv0];rfl
  exact hI
 exact hI
theorem bC.iE (hI:bC S) (c:aN):bC (Proofs.YtfececghhgeapaaGreatDoor.iE S c).2.1:=by
 have habout:∀{fD:Int} {d:Nat} {h:Int} {n:ByteArray},gH S.O S.us h n fD=.ok d->aT S.ay ⟨d,2⟩/\(ah S.O d).aJ=false/\bU n:=λ{fD d h n} e=>by
  rcases Cx hI.toInv0 h n fD with ⟨e2,h1,_⟩|⟨d2,h1,h2,h3,h4,_⟩
  all_goals grind
 have hnamed:∀{t:Th},jO S.O S.us c=.ok t->aT S.ay t:=λ{t} e=>by
  rcases Wu hI.toInv0 c with ⟨e2,h1,_⟩|⟨k,h1,h2⟩|⟨k,h1,h2⟩|⟨k,h1,h2⟩<;>rw [e] at h1<;>cases h1<;>exact h2
 by_cases h:1<=c.op/\c.op<=15
 ·have h:c.op=1\/c.op=2\/c.op=3\/c.op=4\/c.op=5\/c.op=6\/c.op=7\/c.op=8\/c.op=9\/c.op=10\/c.op=11\/c.op=12\/c.op=13\/c.op=14\/c.op=15:=d5
  rcases h with h|h|h|h|h|h|h|h|h|h|h|h|h|h|h
  ·rw [vD h]
   unfold kI
   split
   ·exact hI
   rename_i t e
   split
   ·rename_i hk;exact hI.fB (hI.live e) (by rw [hk];decide)
   exact hI
  ·rw [tW h]
   unfold fZ
   split
   ·exact hI
   rename_i t e
   split
   ·exact hI
   rename_i hk
   split
   ·exact hI
   exact hI.fB (hnamed e) hk
  ·rw [FW h]
   unfold q6
   split
   ·exact hI
   rename_i t e
   split
   ·exact hI
   rename_i hk
   split
   ·exact hI
   exact hI.fB (hnamed e) hk
  ·rw [vE h]
   unfold iH
   split
   ·exact hI
   rename_i d e
   obtain⟨h1,h2,h3⟩:=habout e
   split
   ·rename_i hm;exact hI.lP h1 h2 h3 hm
   exact hI
  ·rw [FX h]
   unfold q8
   split
   ·exact hI
   rename_i d e
   obtain⟨h1,h2,h3⟩:=habout e
   split
   ·rename_i hm
    split
    ·exact hI.r9 h1 h2 h3 hm
    exact hI
   exact hI
  ·rw [FY h]
   unfold qb
   split
   ·exact hI
   rename_i d e
   obtain⟨h1,h2,h3⟩:=habout e
   exact hI.jX h1 h2 h3
  ·rw [FZ h]
   unfold uO
   split
   ·exact hI
   rename_i d e
   split
   ·exact hI
   rename_i to e2
   obtain⟨h1,h2,h3⟩:=habout e2
   exact hI.yT (habout e).1 h1 h2 h3
  ·rw [F5 h]
   unfold rf
   split
   ·exact hI
   rename_i d e
   exact hI.iO (habout e).1
  ·rw [F6 h]
   unfold sC
   split
   ·exact hI
   rename_i t e
   split
   ·rename_i hk
    obtain⟨k,kd⟩:=t
    simp only at hk
    subst hk
    exact hI.gZ (hI.us _ _ e).1 _
   exact hI
  ·rw [Cy h]
   unfold sD
   split
   ·exact hI
   split
   ·exact hI
   split
   ·rename_i hm
    split
    ·rename_i ho
     split
     ·rename_i ht;exact hI.afK hm ho ht
     exact hI
    exact hI
   exact hI
  ·rw [Cz h]
   unfold Bg
   split<;>exact hI
  ·rw [CA h]
   unfold uP
   split<;>exact hI
  ·rw [sG h]
   unfold jq
   split
   ·exact hI
   rename_i t e;exact hI.shut e
  ·rw [CB h]
   unfold sB
   split
   ·exact hI
   rename_i d e
   exact hI.jo (habout e).1
  rw [CC h]
  unfold rz
  split
  ·exact hI
  rename_i d e
  split
  ·exact hI
  rename_i to e2
  obtain⟨h1,h2,h3⟩:=habout e2
  exact hI.dF (habout e).1 h1 h2 h3
 rw [zS h];exact hI
theorem bC.fC (hI:bC S) (c:aN):bC (Proofs.YtfececghhgeapaaGreatDoor.fC S c).1:=hI.iE _
end inv
structure cM where
 at_:Int
 op:Int
 path:ByteArray
 to:ByteArray
 text:ByteArray
def slash:ByteArray:=⟨#[47]⟩
def bM (s:ByteArray):List ByteArray:=Lib.splitB slash 0 (Lib.countB s slash) s
noncomputable section
def pX (O:eE):Nat->List ByteArray->Except Int (Nat×ByteArray)
 |_,[]=>.error 170
 |d,[p]=>if (ah O d).aJ=true then .error 170 else .ok (d,p)
 |d,p::q::r=>match bF p (ah O d).aq with
   |none=>.error 170
   |some t=>if t.kind=3 then .error 174 else if t.kind=1 then .error 173 else pX O t.k (q::r)
instance (ps:List ByteArray):Decidable (∀p∈ps,bU p):=Classical.propDecidable _
def mW (O:eE) (d:Nat) (path:ByteArray):Except Int (Nat×ByteArray):=if ∀p∈bM path,bU p then pX O d (bM path) else .error 95
def qO (S:bg) (d:Nat) (name text:ByteArray):Int×bg:=
 if gY S.X S.O S.ay d name=0 then (0,(gZ (gU S d name (dN S.X 1 420)) (dm S.X) text.data.toList).2.2) else (gY S.X S.O S.ay d name,S)
def oG (S:bg) (d:Nat) (name text:ByteArray):Int×bg:=
 match bF name (ah S.O d).aq with
 |none=>(170,S)
 |some t=>if t.kind=3 then (174,S) else if t.kind=2 then (172,S) else ((gZ S t.k text.data.toList).2.1,(gZ S t.k text.data.toList).2.2)
def nJ (S:bg) (top:Nat) (a:cM) (d:Nat) (name:ByteArray):Int×bg:=
 if a.op=1 then qO S d name a.text
 else if a.op=2 then lP S d name 493
 else if a.op=3 then jX S d name a.text
 else if a.op=4 then iO S d name
 else if a.op=5 then jo S d name
 else if a.op=6 then match mW S.O top a.to with
  |.error e=>(e,S)
  |.ok (to,aG)=>dF S d name to aG
 else oG S d name a.text
def cJ (S:bg) (af:Int) (a:cM):Int×bg:=
 if a.op<1\/a.op>7 then (230,S)
 else match aI.get S.ay af with
  |none=>(141,S)
  |some t=>if t.kind=2 then
   match mW S.O t.k a.path with
   |.error e=>(e,S)
   |.ok (d,name)=>nJ S t.k a d name
   else (173,S)
end
section facts
variable {S:bg} {O:eE} {d d':Nat} {name:ByteArray} {t:Th}
theorem R6 (hI:Inv0 S):∀(ps:List ByteArray) (d:Nat),aT S.ay ⟨d,2⟩->(∀p∈ps,bU p)->pX S.O d ps=.ok (d',name)->aT S.ay ⟨d',2⟩/\(ah S.O d').aJ=false/\bU name
 |[],d,_,_,h=>by cases h
 |[p],d,hd,hg,h=>by
   unfold pX at h
   split at h
   ·cases h
   rename_i hn
   cases h
   exact⟨hd,by simpa using hn,hg _ (ah5.2 rfl)⟩
 |p::q::r,d,hd,hg,h=>by
   unfold pX at h
   cases e:bF p (ah S.O d).aq with
   |none=>rw [e] at h;cases h
   |some t=>
     rw [e] at h
     simp only at h
     split at h
     ·cases h
     rename_i h3
     split at h
     ·cases h
     rename_i h1
     have hl:=(hI.bO hd e).2
     have hk:t=⟨t.k,2⟩:=by
      have:=(hI.ob _ hl).2.2
      obtain⟨k,kd⟩:=t
      simp only at this h1 h3
      have:kd=2:=d5
      rw [this]
     rw [hk] at hl
     exact R6 hI (q::r) t.k hl (λp hp=>hg p (T4 _ hp)) h
theorem KE {path:ByteArray} (hI:Inv0 S) (hd:aT S.ay ⟨d,2⟩) (h:mW S.O d path=.ok (d',name)):aT S.ay ⟨d',2⟩/\(ah S.O d').aJ=false/\bU name:=by
 grind [mW,R6]
theorem OI (hI:bC S) {o:bT}:aT (ins (S.X.last+1) ⟨dm S.X,o.kind⟩ S.ay) ⟨dm S.X,o.kind⟩:=by
 unfold aT
 have h1:=sX hI.toInv0
 have hn:S.X.last+1∉aY S.ay:=by
  cases e:aI.get S.ay (S.X.last+1) with
  |none=>exact get_none.1 e
  |some t=>have:=hI.ay _ _ e;omega
 rw [sU hn]
 simp only
 rw [h1,t8 rfl]
theorem bC.qO {text:ByteArray} (hI:bC S) (hd:aT S.ay ⟨d,2⟩) (nG:(ah S.O d).aJ=false) (hgn:bU name):bC (Proofs.YtfececghhgeapaaGreatDoor.qO S d name text).2:=by
 unfold Proofs.YtfececghhgeapaaGreatDoor.qO
 split
 ·rename_i h0
  exact (hI.F7 hd nG hgn h0 (.inl rfl) ⟨d8,d8⟩ (.inl ⟨d8,rfl⟩)).gZ (OI hI (o:=dN S.X 1 420)) _
 exact hI
theorem bC.oG {text:ByteArray} (hI:bC S) (hd:aT S.ay ⟨d,2⟩):bC (Proofs.YtfececghhgeapaaGreatDoor.oG S d name text).2:=by
 unfold Proofs.YtfececghhgeapaaGreatDoor.oG
 split
 ·exact hI
 rename_i t e
 split
 ·exact hI
 split
 ·exact hI
 rename_i h3 h2
 have hl:=(hI.bO hd e).2
 have hk:t=⟨t.k,1⟩:=by
  have:=(hI.ob _ hl).2.2
  obtain⟨k,kd⟩:=t
  grind
 rw [hk] at hl
 exact hI.gZ hl _
theorem bC.nJ {top:Nat} {a:cM} (hI:bC S) (ht:aT S.ay ⟨top,2⟩) (hd:aT S.ay ⟨d,2⟩) (nG:(ah S.O d).aJ=false) (hgn:bU name):bC (Proofs.YtfececghhgeapaaGreatDoor.nJ S top a d name).2:=by
 unfold Proofs.YtfececghhgeapaaGreatDoor.nJ
 split
 ·exact hI.qO hd nG hgn
 split
 ·exact hI.lP hd nG hgn ⟨d8,d8⟩
 split
 ·exact hI.jX hd nG hgn
 split
 ·exact hI.iO hd
 split
 ·exact hI.jo hd
 split
 ·split
  ·exact hI
  rename_i to aG e
  obtain⟨h1,h2,h3⟩:=KE hI.toInv0 ht e
  exact hI.dF hd h1 h2 h3
 exact hI.oG hd
theorem acN {i:Int} (hI:Inv0 S) (e:aI.get S.ay i=some t) (hk:t.kind=2):aT S.ay ⟨t.k,2⟩:=by
 have:=hI.live e
 obtain⟨k,kd⟩:=t
 simp only at hk
 subst hk
 exact this
theorem bC.cJ {af:Int} {a:cM} (hI:bC S):bC (Proofs.YtfececghhgeapaaGreatDoor.cJ S af a).2:=by
 unfold Proofs.YtfececghhgeapaaGreatDoor.cJ
 split
 ·exact hI
 split
 ·exact hI
 rename_i t e
 split
 ·rename_i hk
  split
  ·exact hI
  rename_i d name e2
  have ht:=acN hI.toInv0 e hk
  obtain⟨h1,h2,h3⟩:=KE hI.toInv0 ht e2
  exact hI.nJ ht h1 h2 h3
 exact hI
end facts
section err
variable {S:bg} {c:aN} {d to:Nat} {name aG text:ByteArray} {t:Th}
theorem ED (h:(fB S t).2.1≠0):(fB S t).2.2=S:=by
 grind [mB,og]
theorem Jo {m:Int} (h:(lP S d name m).1≠0):(lP S d name m).2=S:=by
 grind [lP]
theorem EF (h:(jX S d name text).1≠0):(jX S d name text).2=S:=by
 grind [jX]
theorem Gy (h:(iO S d name).1≠0):(iO S d name).2=S:=by
 grind [iO]
theorem Jp (h:(jo S d name).1≠0):(jo S d name).2=S:=by
 grind [jo]
theorem Gz (h:(dF S d name to aG).1≠0):(dF S d name to aG).2=S:=by
 unfold dF at *
 grind
theorem Jq {k:Nat} {bs:List UInt8} (h:(gZ S k bs).2.1≠0):(gZ S k bs).2.2=S:=by
 grind [gZ]
theorem Wx (h:(yT S d name to aG).1≠0):(yT S d name to aG).2=S:=by
 unfold yT at *
 grind
theorem QZ {m:Int} (h:(r9 S d name m).2.1≠0):(r9 S d name m).2.2=S:=by
 grind [r9]
theorem acO (h:(iE S c).1≠0):(iE S c).2.1=S:=by
 by_cases cA:1<=c.op/\c.op<=15
 case neg=>rw [zS cA]
 have cA:c.op=1\/c.op=2\/c.op=3\/c.op=4\/c.op=5\/c.op=6\/c.op=7\/c.op=8\/c.op=9\/c.op=10\/c.op=11\/c.op=12\/c.op=13\/c.op=14\/c.op=15:=d5
 rcases cA with e|e|e|e|e|e|e|e|e|e|e|e|e|e|e
 ·grind [vD,kI,ED]
 ·grind [tW,fZ,ED]
 ·grind [FW,q6,ED]
 ·grind [vE,iH,Jo]
 ·grind [FX,q8,QZ]
 ·grind [FY,qb,EF]
 ·grind [FZ,uO,Wx]
 ·grind [F5,rf,Gy]
 ·grind [F6,sC,Jq]
 ·grind [Cy,sD]
 ·rw [Cz e]
  unfold Bg
  split<;>rfl
 all_goals grind [CA,uP,sG,jq,CB,sB,Jp,CC,rz,Gz]
theorem acP (h:(fC S c).2.code≠0):(fC S c).1=S:=acO h
theorem ZI {af:Int} {a:cM} (h:(cJ S af a).1≠0):(cJ S af a).2=S:=by
 unfold cJ at *
 split
 ·rfl
 rename_i e0
 rw [nw e0] at h
 cases e1:aI.get S.ay af with
 |none=>rfl
 |some t=>
   rw [e1] at h
   simp only at h ⊢
   split
   ·rename_i e2
    rw [t8 e2] at h
    cases e3:mW S.O t.k a.path with
    |error e=>rfl
    |ok x=>
      obtain⟨d,name⟩:=x
      rw [e3] at h
      grind [nJ,qO,Jo,EF,Gy,Jp,mW,Gz,oG,bF,ah,Jq]
   rfl
end err
noncomputable section
structure cF where
 at_:Int
 kind:Int
def jr (f:cF):List Value:=[.int .i64 f.at_,.int .i64 f.kind]
instance:Inhabited cF:=⟨⟨0,0⟩⟩
instance:Inhabited cM:=⟨⟨0,0,⟨#[]⟩,⟨#[]⟩,⟨#[]⟩⟩⟩
def pG (fs:List cF) (i:Nat):cF:=fs.getD i default
def act (xs:List cM) (i:Nat):cM:=xs.getD i default
def FK (f:cF):Prop:=1<=f.kind/\f.kind<=3
instance (f:cF):Decidable (FK f):=inferInstanceAs (Decidable (_/\_))
def iT:List cF->Int->Int
 |[],_=>0
 |f::r,n=>if f.at_=n/\FK f then f.kind else iT r n
def dh (xs:List cM) (n:Int):List cM:=xs.filter (λa=>decide (a.at_=n))
def jb (af:Int) (S:bg) (xs:List cM):bg:=xs.foldl (λS a=>(cJ S af a).2) S
def iz (c:aN) (e:Int):aN:=if c.op=11\/c.op=12 then ⟨c.op,c.bD,0,c.name,c.text,c.dA,c.dC,c.data,0,0,0,0,0,e,0⟩ else {c with answer:=0,code:=e}
def dZ (k:Int) (S:bg) (c:aN):bg×aN:=
 if k=1 then (if c.op=13 then (fC S c).1 else S,iz c 180)
 else if k=2/\(c.op=4\/c.op=5\/c.op=6\/c.op=7\/c.op=9) then (S,iz c 176)
 else if k=3/\c.op=9/\2<=c.data.length then ((fC S {c with data:=c.data.take (c.data.length / 2)}).1,{ (fC S {c with data:=c.data.take (c.data.length / 2)}).2 with dA:=c.dA,dC:=c.dC,data:=c.data})
 else fC S c
def bY (af:Int) (c:aN):aN:=if c.op=1 then {c with other:=af} else c
def br (fs:List cF) (xs:List cM) (af:Int) (n:Nat) (S:bg) (c:aN):bg×aN:=dZ (iT fs n) (jb af S (dh xs n)) (bY af c)
section p
variable {S:bg} {c:aN} {fs gs:List cF} {xs ys:List cM} {af k:Int} {n:Nat} {A:Option Addr} {m:Nat}
theorem sY (f:cF) (x:Int):∀fs:List cF,iT (fs++[f]) x=if iT fs x=0 then (if f.at_=x/\FK f then f.kind else 0) else iT fs x
 |[]=>rfl
 |g::r=>by
   show (if g.at_=x/\FK g then g.kind else iT (r++[f]) x)=if (if g.at_=x/\FK g then g.kind else iT r x)=0 then _ else (if g.at_=x/\FK g then g.kind else iT r x)
   by_cases h:g.at_=x/\FK g
   ·have:¬g.kind=0:=by have:=h.2.1;omega
    rw [t8 h,t8 h,nw this]
   rw [nw h,nw h,sY f x r]
theorem xk (a:cM) (x:Int):dh (xs++[a]) x=if a.at_=x then dh xs x++[a] else dh xs x:=by
 unfold dh
 rw [List.filter_append]
 by_cases h:a.at_=x
 ·rw [t8 h,List.filter_cons_of_pos (by simpa using h),List.filter_nil]
 rw [nw h,List.filter_cons_of_neg (by simpa using h),List.filter_nil,List.append_nil]
theorem Jr (x:Int):(dh xs x).length<=xs.length:=aiq ..
theorem Uc {x:Int} {a:cM} (h:a∈dh xs x):a∈xs:=(List.mem_filter.1 h).1
theorem Js (a:cM):jb af S (xs++[a])=(cJ (jb af S xs) af a).2:=by
 unfold jb;rw [List.foldl_append];rfl
theorem y7 {i:Nat} (h:i<xs.length):xs[i]?=some (act xs i):=getD_some h
theorem F8 {i:Nat} (h:i<fs.length):fs[i]?=some (pG fs i):=getD_some h
theorem Ud {i:Nat} (h:i<xs.length):jb af S (xs.take (i+1))=(cJ (jb af S (xs.take i)) af (act xs i)).2:=by
 rw [ah4,y7 h];exact Js _
theorem bC.jb (h:bC S):∀xs:List cM,bC (Proofs.YtfececghhgeapaaGreatDoor.jb af S xs):=λxs=>by
 induction xs generalizing S with
 |nil=>exact h
 |cons a r ih=>exact ih h.cJ
theorem bC.dZ (h:bC S):bC (Proofs.YtfececghhgeapaaGreatDoor.dZ k S c).1:=by
 unfold Proofs.YtfececghhgeapaaGreatDoor.dZ
 split
 ·show bC (if c.op=13 then _ else _)
  split
  ·exact h.fC _
  exact h
 split
 ·exact h
 split
 ·exact h.fC _
 exact h.fC _
theorem bC.br (h:bC S):bC (Proofs.YtfececghhgeapaaGreatDoor.br fs xs af n S c).1:=(h.jb _).dZ
def fU (A:Option Addr) (m:Nat) (c:aN):aN:={c with dA:=A,dC:=m}
theorem ad4:iE S (fU A m c)=((iE S c).1,(iE S c).2.1,fU A m (iE S c).2.2):=by
 by_cases cA:1<=c.op/\c.op<=15
 case neg=>rw [zS cA,zS (c:=fU A m c) cA]
 have cA:c.op=1\/c.op=2\/c.op=3\/c.op=4\/c.op=5\/c.op=6\/c.op=7\/c.op=8\/c.op=9\/c.op=10\/c.op=11\/c.op=12\/c.op=13\/c.op=14\/c.op=15:=d5
 rcases cA with q|q|q|q|q|q|q|q|q|q|q|q|q|q|q
 ·rw [vD q,vD (c:=fU A m c) q];unfold kI fU;simp only;cases aI.get S.ay c.other<;>(try simp only)<;>(repeat' split)<;>rfl
 ·rw [tW q,tW (c:=fU A m c) q];unfold fZ jO fU;simp only;split<;>(repeat' split)<;>rfl
 ·rw [FW q,FW (c:=fU A m c) q];unfold q6 jO fU;simp only;split<;>(repeat' split)<;>rfl
 ·rw [vE q,vE (c:=fU A m c) q];unfold iH fU;simp only;split<;>(repeat' split)<;>rfl
 ·rw [FX q,FX (c:=fU A m c) q];unfold q8 fU;simp only;split<;>(repeat' split)<;>rfl
 ·rw [FY q,FY (c:=fU A m c) q];unfold qb fU;simp only;split<;>(repeat' split)<;>rfl
 ·rw [FZ q,FZ (c:=fU A m c) q];unfold uO fU;simp only;split<;>(repeat' split)<;>rfl
 ·rw [F5 q,F5 (c:=fU A m c) q];unfold rf fU;simp only;split<;>(repeat' split)<;>rfl
 ·rw [F6 q,F6 (c:=fU A m c) q];unfold sC fU;simp only;split<;>(repeat' split)<;>rfl
 ·rw [Cy q,Cy (c:=fU A m c) q];unfold sD fU;simp only;split<;>(repeat' split)<;>rfl
 ·rw [Cz q,Cz (c:=fU A m c) q];unfold Bg fU;simp only;split<;>(repeat' split)<;>rfl
 ·rw [CA q,CA (c:=fU A m c) q];unfold uP jO fU;simp only;split<;>(repeat' split)<;>rfl
 ·rw [sG q,sG (c:=fU A m c) q];unfold jq fU;simp only;split<;>(repeat' split)<;>rfl
 ·rw [CB q,CB (c:=fU A m c) q];unfold sB fU;simp only;split<;>(repeat' split)<;>rfl
 rw [CC q,CC (c:=fU A m c) q];unfold rz fU;simp only;split<;>(repeat' split)<;>rfl
theorem ZJ:(iE S c).2.2.data=c.data:=by
 by_cases cA:1<=c.op/\c.op<=15
 case neg=>rw [zS cA]
 have cA:c.op=1\/c.op=2\/c.op=3\/c.op=4\/c.op=5\/c.op=6\/c.op=7\/c.op=8\/c.op=9\/c.op=10\/c.op=11\/c.op=12\/c.op=13\/c.op=14\/c.op=15:=d5
 rcases cA with q|q|q|q|q|q|q|q|q|q|q|q|q|q|q
 ·rw [vD q];unfold kI;(repeat' split)<;>rfl
 ·rw [tW q];unfold fZ;(repeat' split)<;>rfl
 ·rw [FW q];unfold q6;(repeat' split)<;>rfl
 ·rw [vE q];unfold iH;(repeat' split)<;>rfl
 ·rw [FX q];unfold q8;(repeat' split)<;>rfl
 ·rw [FY q];unfold qb;(repeat' split)<;>rfl
 ·rw [FZ q];unfold uO;(repeat' split)<;>rfl
 ·rw [F5 q];unfold rf;(repeat' split)<;>rfl
 ·rw [F6 q];unfold sC;(repeat' split)<;>rfl
 ·rw [Cy q];unfold sD;(repeat' split)<;>rfl
 ·rw [Cz q];unfold Bg FQ;(repeat' split)<;>rfl
 ·rw [CA q];unfold uP FQ;(repeat' split)<;>rfl
 ·rw [sG q];unfold jq;(repeat' split)<;>rfl
 ·rw [CB q];unfold sB;(repeat' split)<;>rfl
 rw [CC q];unfold rz;(repeat' split)<;>rfl
theorem OJ:fC S (fU A m c)=((fC S c).1,fU A m (fC S c).2):=by
 have h:=ad4 (S:=S) (A:=A) (m:=m) (c:={c with answer:=0,code:=230})
 unfold fC
 rw [show ({fU A m c with answer:=0,code:=230}:aN)=fU A m {c with answer:=0,code:=230} from rfl,h]
 rfl
theorem OL:(fC S c).2.data=c.data:=ZJ (c:={c with answer:=0,code:=230})
theorem OM {e:Int}:iz (fU A m c) e=fU A m (iz c e):=by
 unfold iz
 by_cases h:c.op=11\/c.op=12
 ·rw [t8 h,t8 (show (fU A m c).op=11\/(fU A m c).op=12 from h)];rfl
 rw [nw h,nw (show ¬((fU A m c).op=11\/(fU A m c).op=12) from h)];rfl
theorem vF {e:Int}:(iz c e).data=c.data:=by
 unfold iz;split<;>rfl
theorem Q0:(dZ k S c).2.data=c.data:=by
 unfold dZ
 split
 ·exact vF
 split
 ·exact vF
 split
 ·rfl
 exact OL
theorem LU:dZ k S (fU A m c)=((dZ k S c).1,fU A m (dZ k S c).2):=by
 unfold dZ
 by_cases h1:k=1
 ·rw [t8 h1,t8 h1]
  show (if c.op=13 then (fC S (fU A m c)).1 else S,iz (fU A m c) 180)=_
  rw [OJ,OM]
 rw [nw h1,nw h1]
 by_cases h2:k=2/\(c.op=4\/c.op=5\/c.op=6\/c.op=7\/c.op=9)
 ·rw [t8 h2,t8 (show k=2/\((fU A m c).op=4\/(fU A m c).op=5\/(fU A m c).op=6\/(fU A m c).op=7\/(fU A m c).op=9) from h2),OM]
 rw [nw h2,nw (show ¬(k=2/\((fU A m c).op=4\/(fU A m c).op=5\/(fU A m c).op=6\/(fU A m c).op=7\/(fU A m c).op=9)) from h2)]
 by_cases h3:k=3/\c.op=9/\2<=c.data.length
 ·rw [t8 h3,t8 (show k=3/\(fU A m c).op=9/\2<=(fU A m c).data.length from h3)]
  show ((fC S (fU A m {c with data:=c.data.take (c.data.length / 2)})).1,{ (fC S (fU A m {c with data:=c.data.take (c.data.length / 2)})).2 with dA:=A,dC:=m,data:=c.data})=_
  rw [OJ];rfl
 rw [nw h3,nw (show ¬(k=3/\(fU A m c).op=9/\2<=(fU A m c).data.length) from h3)]
 exact OJ
theorem ZK:bY af (fU A m c)=fU A m (bY af c):=by
 unfold bY
 by_cases h:c.op=1
 ·rw [t8 h,t8 (show (fU A m c).op=1 from h)];rfl
 rw [nw h,nw (show ¬(fU A m c).op=1 from h)]
theorem Wy:br fs xs af n S (fU A m c)=((br fs xs af n S c).1,fU A m (br fs xs af n S c).2):=by
 unfold br
 rw [ZK,LU]
theorem vG:(bY af c).data=c.data:=by
 unfold bY;split<;>rfl
theorem Q5:(br fs xs af n S c).2.data=c.data:=Q0.trans vG
theorem Q6 {sH:Int} (h:sH=if c.op=1 then af else c.other):bY af c={c with other:=sH}:=by
 unfold bY
 by_cases e:c.op=1
 ·rw [t8 e] at h ⊢;rw [h]
 rw [nw e] at h ⊢;rw [h]
end p
end
end
section
open Go.RowKit Go.WideShapes Go.ChangeShapes Go.ChangeAt Go.Deep
def dL {α:Type} (f:α->List Value) (xs:List α):List Value:=fV (λ_ x=>f x) 0 xs
theorem Wz {α:Type} {f:α->List Value} {s:Nat} (hf:∀a,(f a).length=s) {xs:List α} {i j:Nat} {a:α} (h:xs[i]?=some a) (hj:j<s):(dL f xs)[i*s+j]?=(f a)[j]?:=uJ (f:=λ_ x=>f x) (s:=s) (λ_ a=>hf a) xs 0 i j _ h hj
def kg (a:cM):List Value:=[.int .i64 a.at_,.int .i64 a.op,.string a.path,.string a.to,.string a.text]
structure EG (a:cM) (b:Nat):Prop where
 aw:(Lit.int .i64 a.at_).wf=true
 path:a.path.size<=b
 to:a.to.size<=b
 text:a.text.size<=b
theorem EG.wide {a:cM} {b b':Nat} (h:EG a b) (g:b<=b'):EG a b':=⟨h.aw,Pd h.path g,Pd h.to g,Pd h.text g⟩
structure afM (β:Bs) (c:aN) (b:Nat):Prop where
 data:ck β c.dA c.data
 len:c.data.length<=b
 name:c.name.size<=b
 text:c.text.size<=b
 hw:(Lit.int .i64 c.bD).wf=true
 ow:(Lit.int .i64 c.other).wf=true
 cap:c.data.length<=c.dC
instance:Inhabited aN:=⟨⟨0,0,0,⟨#[]⟩,⟨#[]⟩,none,0,[],0,0,0,0,0,0,0⟩⟩
def cll (xs:List aN) (i:Nat):aN:=xs.getD i default
structure gy (xs:List cM) (b:Nat):Prop where
 len:xs.length<=b
 q:∀a∈xs,EG a b
structure lI (xs:List cF) (b:Nat):Prop where
 len:xs.length<=b
 q:∀a∈xs,(Lit.int .i64 a.at_).wf=true
theorem gy.wide {xs:List cM} {b b':Nat} (h:gy xs b) (g:b<=b'):gy xs b':=⟨Pd h.len g,λa ha=>(h.q a ha).wide g⟩
theorem lI.wide {xs:List cF} {b b':Nat} (h:lI xs b) (g:b<=b'):lI xs b':=⟨Pd h.len g,h.q⟩
structure ag8 (β:Bs) (A:Option Addr) (xs:List aN):Prop where
 row:cE β A (dL bA xs)
 q:∀i,i<xs.length->afM β (cll xs i) 1048576
section s
variable {β β':Bs} {A:Option Addr} {i j:Nat} {v:Value}
theorem R7 {α:Type} {f:α->List Value} {s:Nat} {xs:List α} {a:α} (h:cE β A (dL f xs)) (hf:∀a,(f a).length=s) (hi:xs[i]?=some a) (hv:(f a)[j]?=some v):A=some ⟨cC A,cq A,none⟩/\Rd β ⟨cC A,cq A+i*s+j,none⟩ v:=by
 have hj:j<s:=by rw [←hf a];exact dG hv
 have:=h (i*s+j) v ((Wz hf hi hj).trans hv)
 rw [←aiD] at this
 exact this
theorem M9 {xs:List cM} (h:cE β A (dL kg xs)) (hi:i<xs.length):A=some ⟨cC A,cq A,none⟩:=(R7 (s:=5) (j:=0) h (λ_=>rfl) (y7 hi) rfl).1
theorem qA {xs:List cM} (h:cE β A (dL kg xs)) (hi:i<xs.length) (hv:(kg (act xs i))[j]?=some v):Rd β ⟨cC A,cq A+i*5+j,none⟩ v:=(R7 h (λ_=>rfl) (y7 hi) hv).2
theorem abE {xs:List cF} (h:cE β A (dL jr xs)) (hi:i<xs.length):A=some ⟨cC A,cq A,none⟩:=(R7 (s:=2) (j:=0) h (λ_=>rfl) (F8 hi) rfl).1
theorem Na {xs:List cF} (h:cE β A (dL jr xs)) (hi:i<xs.length) (hv:(jr (pG xs i))[j]?=some v):Rd β ⟨cC A,cq A+i*2+j,none⟩ v:=(R7 h (λ_=>rfl) (F8 hi) hv).2
theorem lI.at {xs:List cF} {b:Nat} (h:lI xs b) (hi:i<xs.length):(Lit.int .i64 (pG xs i).at_).wf=true:=h.q _ (ah8 (F8 hi))
theorem gy.at {xs:List cM} {b:Nat} (h:gy xs b) (hi:i<xs.length):EG (act xs i) b:=h.q _ (ah8 (y7 hi))
end s
section a
variable {H:Type} {enc:TypeId×Value->H} {W:World} {sp:Nat->Bool}
theorem y8 {t:TypeId} {n:Nat} {c:Value} {x:DataW H×List MemPlace} (ht:Tryz.prog.underlying t=some (.int .i64)) (h:DataW.trod enc Tryz.prog W 0 sp true n t [c]=some x):∃z,c=.int .i64 z/\(Lit.int .i64 z).wf=true:=by
 obtain⟨z,h1,_,h3⟩:=DataW.trod_int ht h
 cases h1
 exact⟨z,rfl,h3⟩
theorem ZL {n:Nat} {cs:List Value} {x:DataW H×List MemPlace} (h:DataW.trod enc Tryz.prog W 0 sp true n 133 cs=some x):∃a:cM,cs=kg a/\EG a (Rows.uptoBulk x.1):=by
 obtain⟨vs,m,_,hx,hl,hvl,hv⟩:=DataW.trod_struct Tryz.underlying133 h
 have hC:Tryz.prog.cellsOf 133=5:=d6
 rw [hC] at hl
 match cs,hl with
 |[c0,c1,c2,c3,c4],_=>
   obtain⟨a0,_⟩:=dQ (hv 0 _ rfl) (by rw [hvl];decide)
   obtain⟨a1,_⟩:=dQ (hv 1 _ rfl) (by rw [hvl];decide)
   obtain⟨a2,e2⟩:=dQ (hv 2 _ rfl) (by rw [hvl];decide)
   obtain⟨a3,e3⟩:=dQ (hv 3 _ rfl) (by rw [hvl];decide)
   obtain⟨a4,e4⟩:=dQ (hv 4 _ rfl) (by rw [hvl];decide)
   obtain⟨z0,rfl,w0⟩:=y8 (c:=c0) Tryz.underlying3 a0
   obtain⟨z1,rfl,_⟩:=y8 (c:=c1) Tryz.underlying3 a1
   obtain⟨s2,rfl,l2⟩:=zB (c:=c2) Tryz.underlying9 a2
   obtain⟨s3,rfl,l3⟩:=zB (c:=c3) Tryz.underlying9 a3
   obtain⟨s4,rfl,l4⟩:=zB (c:=c4) Tryz.underlying9 a4
   have hb:Rows.uptoBulk x.1=Rows.uptoBulk (.agg (vs.map (·.1))):=by rw [hx]
   exact⟨⟨z0,z1,s2,s3,s4⟩,rfl,⟨w0,by show s2.size<=_;omega,by show s3.size<=_;omega,by show s4.size<=_;omega⟩⟩
theorem Ue {n:Nat} {cs:List Value} {x:DataW H×List MemPlace} (h:DataW.trod enc Tryz.prog W 0 sp true n 136 cs=some x):∃a:cF,cs=jr a/\(Lit.int .i64 a.at_).wf=true:=by
 obtain⟨vs,m,_,hx,hl,hvl,hv⟩:=DataW.trod_struct Tryz.underlying136 h
 have hC:Tryz.prog.cellsOf 136=2:=d6
 rw [hC] at hl
 match cs,hl with
 |[c0,c1],_=>
   obtain⟨a0,_⟩:=dQ (hv 0 _ rfl) (by rw [hvl];decide)
   obtain⟨a1,_⟩:=dQ (hv 1 _ rfl) (by rw [hvl];decide)
   obtain⟨z0,rfl,w0⟩:=y8 (c:=c0) Tryz.underlying3 a0
   obtain⟨z1,rfl,_⟩:=y8 (c:=c1) Tryz.underlying3 a1
   exact⟨⟨z0,z1⟩,rfl,w0⟩
theorem Uf {n:Nat} {c:Value} {x:DataW H×List MemPlace} (h:DataW.trod enc Tryz.prog W 0 sp true n 30 [c]=some x):∃A cp,∃xs:List cM,c=.slice A xs.length cp/\cE (B0 W) A (dL kg xs)/\gy xs (Rows.uptoBulk x.1)/\xs.length<=cp:=by
 obtain⟨A,cp,xs,D,h1,WA,_,h2,h4,h3⟩:=t7 (α:=cM) (f:=kg) (Q:=λa d=>EG a (Rows.uptoBulk d)) Tryz.underlying30 (size:=5) d6 d8 (λn cs x h=>ZL h) (λ_=>rfl) h
 cases h1
 have h5:=wz ((List.range xs.length).map D)
 refine⟨A,cp,xs,rfl,h2,⟨by simp at h5;omega,λa ha=>?_⟩,WA⟩
 obtain⟨i,hi,e⟩:=ah9.1 ha
 have h6:=h4 i hi
 rw [show xs.getD i default=a by rw [←e];simp [hi]] at h6
 exact h6.wide (by have:=zA (D:=D) hi;omega)
theorem OO {n:Nat} {c:Value} {x:DataW H×List MemPlace} (h:DataW.trod enc Tryz.prog W 0 sp true n 29 [c]=some x):∃A cp,∃xs:List cF,c=.slice A xs.length cp/\cE (B0 W) A (dL jr xs)/\lI xs (Rows.uptoBulk x.1)/\xs.length<=cp:=by
 obtain⟨A,cp,xs,D,h1,WA,_,h2,h4,h3⟩:=t7 (α:=cF) (f:=jr) (Q:=λa _=>(Lit.int .i64 a.at_).wf=true) Tryz.underlying29 (size:=2) d6 d8 (λn cs x h=>Ue h) (λ_=>rfl) h
 cases h1
 have h5:=wz ((List.range xs.length).map D)
 refine⟨A,cp,xs,rfl,h2,⟨by simp at h5;omega,λa ha=>?_⟩,WA⟩
 obtain⟨i,hi,e⟩:=ah9.1 ha
 have h6:=h4 i hi
 rw [show xs.getD i default=a by rw [←e];simp [hi]] at h6
 exact h6
def KF (A:Option Addr) (n cp:Nat) (af:Int) (X:FM) (Af:Option Addr) (nf cf:Nat) (Aa:Option Addr) (na ca:Nat):Value:=.agg #[.slice A n cp,.int .i64 af,.int .i64 X.cN,.int .i64 X.cB,.int .i64 X.cH,.int .i64 X.cS,.int .i64 X.cZ,.slice Af nf cf,.slice Aa na ca]
theorem open_wstart {v:Value} {d:DataW H} {ps:List MemPlace} {r:Go.Reach} {b0:Nat} (hval:Value.okWide Tryz.prog W r b0 34 v) (h:DataW.Trod enc Tryz.prog W 0 sp true 34 v d ps) :
 ∃A cp,∃ns:List aP,∃L:fk,∃af:Int,∃X:FM,∃Af cf,∃fs:List cF,∃Aa ca,∃xs:List cM,v=KF A ns.length cp af X Af fs.length cf Aa xs.length ca/\aO (B0 W) A ns L/\kq ns (Rows.uptoBulk d)/\agq X/\(Lit.int .i64 af).wf=true ∧
   cE (B0 W) Af (dL jr fs)/\lI fs (Rows.uptoBulk d)/\fs.length<=cf/\cE (B0 W) Aa (dL kg xs)/\gy xs (Rows.uptoBulk d)/\xs.length<=ca:=by
 obtain⟨cs,rfl,hcs⟩:=okWide_struct Tryz.underlying34 hval
 obtain⟨fuel,h⟩:=h
 obtain⟨ys,m,_,hx,hl,tf,hf⟩:=DataW.trod_struct Tryz.underlying34 h
 have hC:Tryz.prog.cellsOf 34=9:=d6
 rw [hC] at hcs
 obtain⟨cs⟩:=cs
 match cs,hcs with
 |[c0,c1,c2,c3,c4,c5,c6,c7,c8],_=>
   obtain⟨h0,b0⟩:=dQ (hf 0 _ rfl) (by rw [tf];decide)
   obtain⟨hr,_⟩:=dQ (hf 1 _ rfl) (by rw [tf];decide)
   obtain⟨h1,_⟩:=dQ (hf 2 _ rfl) (by rw [tf];decide)
   obtain⟨h3,b3⟩:=dQ (hf 3 _ rfl) (by rw [tf];decide)
   obtain⟨us,_,_,hux,_,hul,hu⟩:=DataW.trod_struct Tryz.underlying24 h0
   obtain⟨g0,e0⟩:=dQ (hu 0 _ rfl) (by rw [hul];decide)
   obtain⟨A,cp,ns,L,rfl,hG,hB⟩:=Tv (c:=c0) g0
   obtain⟨vs,_,_,_,_,hvl,hv⟩:=DataW.trod_struct Tryz.underlying28 h1
   obtain⟨k0,_⟩:=dQ (hv 0 _ rfl) (by rw [hvl];decide)
   obtain⟨k1,_⟩:=dQ (hv 1 _ rfl) (by rw [hvl];decide)
   obtain⟨k2,_⟩:=dQ (hv 2 _ rfl) (by rw [hvl];decide)
   obtain⟨k3,_⟩:=dQ (hv 3 _ rfl) (by rw [hvl];decide)
   obtain⟨ts,_,_,_,_,htl,ht⟩:=DataW.trod_struct Tryz.underlying26 k3
   obtain⟨t0,_⟩:=dQ (ht 0 _ rfl) (by rw [htl];decide)
   obtain⟨t1,_⟩:=dQ (ht 1 _ rfl) (by rw [htl];decide)
   obtain⟨zr,rfl,wr⟩:=y8 (c:=c1) Tryz.underlying3 hr
   obtain⟨z0,rfl,w0⟩:=nR (c:=c2) Tryz.underlying3 k0
   obtain⟨z1,rfl,w1⟩:=nR (c:=c3) Tryz.underlying3 k1
   obtain⟨z2,rfl,w2⟩:=nR (c:=c4) Tryz.underlying3 k2
   obtain⟨z3,rfl,w3⟩:=nR (c:=c5) Tryz.underlying3 t0
   obtain⟨z4,rfl,w4⟩:=nR (c:=c6) Tryz.underlying3 t1
   obtain⟨ws,_,_,hwx,_,hwl,hw⟩:=DataW.trod_struct Tryz.underlying32 h3
   obtain⟨q0,d0⟩:=dQ (hw 0 _ rfl) (by rw [hwl];decide)
   obtain⟨q1,d1⟩:=dQ (hw 1 _ rfl) (by rw [hwl];decide)
   obtain⟨Af,cf,fs,rfl,hF,hFl,hFc⟩:=OO (c:=c7) q0
   obtain⟨Aa,ca,xs,rfl,hA,hAb,hAc⟩:=Uf (c:=c8) q1
   cases hx
   rw [hux] at b0
   rw [hwx] at b3
   exact⟨A,cp,ns,L,zr,⟨z0,z1,z2,z3,z4,0,0,0⟩,Af,cf,fs,Aa,ca,xs,rfl,hG,hB.wide (Pd e0 b0),⟨w0,w1,w2,w3,w4⟩,wr,hF,⟨Pd hFl.len (Pd d0 b3),hFl.q⟩,hFc,hA,⟨Pd hAb.len (Pd d1 b3),λa ha=>(hAb.q a ha).wide (Pd d1 b3)⟩,hAc⟩
end a
end
end Go.Proofs.YtfececghhgeapaaGreatDoor
section
namespace Go.Proofs
open Go.Shelf
def Tryz.keysS_ren:Go.Shelf.Ren:=⟨fun|7=>74|10=>108|n=>n,fun|23=>195|26=>9|3=>175|28=>193|0=>0|27=>192|33=>201|4=>4|n=>n,fun|n=>n⟩
theorem Tryz.keysS:Go.Proofs.SlLaysZ.n7 Tryz.prog Tryz.keysS_ren:={
 mixed:=by kernel_rfl
 f7:=⟨Tryz.f74.name,by decide,Tryz.func74.trans (congrArg some (by kernel_rfl))⟩
 f10:=⟨Tryz.f108.name,by decide,Tryz.func108.trans (congrArg some (by kernel_rfl))⟩
 t0:=Tryz.underlying0
 a0:=Tryz.isAgg0
 z0:=Tryz.sizeOf0
 v0:=Tryz.zeroValue0
 t4:=Tryz.underlying4
 a4:=Tryz.isAgg4
 z4:=Tryz.sizeOf4
 v4:=Tryz.zeroValue4
 t23:=Tryz.underlying195
 a23:=Tryz.isAgg195
 z23:=Tryz.sizeOf195
 v23:=Tryz.zeroValue195
 t26:=Tryz.underlying9
 a26:=Tryz.isAgg9
 z26:=Tryz.sizeOf9
 v26:=Tryz.zeroValue9
 t27:=Tryz.underlying192
 a27:=Tryz.isAgg192
 z27:=Tryz.sizeOf192
 v27:=Tryz.zeroValue192
 t28:=Tryz.underlying193
 a28:=Tryz.isAgg193
 z28:=Tryz.sizeOf193
 v28:=Tryz.zeroValue193
 t33:=Tryz.underlying201
 a33:=Tryz.isAgg201
 z33:=Tryz.sizeOf201
 v33:=Tryz.zeroValue201}
def Tryz.sortedS_ren:Go.Shelf.Ren:=⟨fun|6=>73|8=>106|9=>107|11=>123|13=>122|12=>124|23=>141|24=>142|14=>143|15=>144|16=>145|17=>146|18=>147|19=>148|20=>149|21=>150|22=>151|25=>161|26=>156|27=>157|28=>162|29=>163|30=>164|31=>168|n=>n,fun|26=>9|28=>193|24=>67|0=>0|3=>3|37=>253|48=>271|50=>273|4=>4|40=>264|39=>263|45=>268|5=>5|9=>9|51=>281|55=>285|57=>290|58=>291|33=>201|n=>n,fun|n=>n⟩
theorem Tryz.sortedS:Go.Proofs.SlLaysZ.n6 Tryz.prog Tryz.sortedS_ren:={
 mixed:=by kernel_rfl
 f6:=⟨Tryz.f73.name,by decide,Tryz.func73.trans (congrArg some (by kernel_rfl))⟩
 f8:=⟨Tryz.f106.name,by decide,Tryz.func106.trans (congrArg some (by kernel_rfl))⟩
 f11:=⟨Tryz.f123.name,by decide,Tryz.func123.trans (congrArg some (by kernel_rfl))⟩
 t0:=Tryz.underlying0
 a0:=Tryz.isAgg0
 z0:=Tryz.sizeOf0
 v0:=Tryz.zeroValue0
 t24:=Tryz.underlying67
 a24:=Tryz.isAgg67
 z24:=Tryz.sizeOf67
 v24:=Tryz.zeroValue67
 t26:=Tryz.underlying9
 a26:=Tryz.isAgg9
 z26:=Tryz.sizeOf9
 v26:=Tryz.zeroValue9
 t28:=Tryz.underlying193
 a28:=Tryz.isAgg193
 z28:=Tryz.sizeOf193
 v28:=Tryz.zeroValue193
 i26:=by kernel_rfl}
def Tryz.sortS_ren:Go.Shelf.Ren:=⟨fun|6=>107|8=>122|9=>124|19=>141|20=>142|21=>143|22=>144|23=>145|24=>146|25=>147|26=>148|27=>149|28=>150|29=>151|36=>161|31=>156|32=>157|37=>162|38=>163|39=>164|41=>168|n=>n,fun|27=>67|29=>9|3=>3|32=>253|26=>67|0=>0|44=>271|46=>273|4=>4|36=>264|35=>263|41=>268|5=>5|9=>9|53=>281|57=>285|63=>290|64=>291|n=>n,fun|n=>n⟩
theorem Tryz.sortS:Go.Proofs.SlLaysM.n6 Tryz.prog Tryz.sortS_ren:={
 mixed:=by kernel_rfl
 f6:=⟨Tryz.f107.name,by decide,Tryz.func107.trans (congrArg some (by kernel_rfl))⟩
 f8:=Tryz.func122.trans (congrArg some (by kernel_rfl))
 f9:=⟨Tryz.f124.name,by decide,Tryz.func124.trans (congrArg some (by kernel_rfl))⟩
 f19:=Tryz.func141.trans (congrArg some (by kernel_rfl))
 f20:=Tryz.func142.trans (congrArg some (by kernel_rfl))
 f21:=⟨Tryz.f143.name,by decide,Tryz.func143.trans (congrArg some (by kernel_rfl))⟩
 f22:=⟨Tryz.f144.name,by decide,Tryz.func144.trans (congrArg some (by kernel_rfl))⟩
 f23:=⟨Tryz.f145.name,by decide,Tryz.func145.trans (congrArg some (by kernel_rfl))⟩
 f24:=⟨Tryz.f146.name,by decide,Tryz.func146.trans (congrArg some (by kernel_rfl))⟩
 f25:=⟨Tryz.f147.name,by decide,Tryz.func147.trans (congrArg some (by kernel_rfl))⟩
 f26:=⟨Tryz.f148.name,by decide,Tryz.func148.trans (congrArg some (by kernel_rfl))⟩
 f27:=⟨Tryz.f149.name,by decide,Tryz.func149.trans (congrArg some (by kernel_rfl))⟩
 f28:=⟨Tryz.f150.name,by decide,Tryz.func150.trans (congrArg some (by kernel_rfl))⟩
 f29:=⟨Tryz.f151.name,by decide,Tryz.func151.trans (congrArg some (by kernel_rfl))⟩
 f31:=Tryz.func156.trans (congrArg some (by kernel_rfl))
 f32:=Tryz.func157.trans (congrArg some (by kernel_rfl))
 f36:=⟨Tryz.f161.name,by decide,Tryz.func161.trans (congrArg some (by kernel_rfl))⟩
 f37:=⟨Tryz.f162.name,by decide,Tryz.func162.trans (congrArg some (by kernel_rfl))⟩
 f38:=⟨Tryz.f163.name,by decide,Tryz.func163.trans (congrArg some (by kernel_rfl))⟩
 f39:=⟨Tryz.f164.name,by decide,Tryz.func164.trans (congrArg some (by kernel_rfl))⟩
 f41:=⟨Tryz.f168.name,by decide,Tryz.func168.trans (congrArg some (by kernel_rfl))⟩
 t0:=Tryz.underlying0
 a0:=Tryz.isAgg0
 z0:=Tryz.sizeOf0
 v0:=Tryz.zeroValue0
 t3:=Tryz.underlying3
 a3:=Tryz.isAgg3
 z3:=Tryz.sizeOf3
 v3:=Tryz.zeroValue3
 t4:=Tryz.underlying4
 a4:=Tryz.isAgg4
 z4:=Tryz.sizeOf4
 v4:=Tryz.zeroValue4
 t5:=Tryz.underlying5
 a5:=Tryz.isAgg5
 z5:=Tryz.sizeOf5
 v5:=Tryz.zeroValue5
 t9:=Tryz.underlying9
 a9:=Tryz.isAgg9
 z9:=Tryz.sizeOf9
 v9:=Tryz.zeroValue9
 t26:=Tryz.underlying67
 a26:=Tryz.isAgg67
 z26:=Tryz.sizeOf67
 v26:=Tryz.zeroValue67
 t27:=Tryz.underlying67
 a27:=Tryz.isAgg67
 z27:=Tryz.sizeOf67
 v27:=Tryz.zeroValue67
 t29:=Tryz.underlying9
 a29:=Tryz.isAgg9
 z29:=Tryz.sizeOf9
 v29:=Tryz.zeroValue9
 t32:=Tryz.underlying253
 a32:=Tryz.isAgg253
 z32:=Tryz.sizeOf253
 v32:=Tryz.zeroValue253
 t35:=Tryz.underlying263
 a35:=Tryz.isAgg263
 z35:=Tryz.sizeOf263
 v35:=Tryz.zeroValue263
 t36:=Tryz.underlying264
 a36:=Tryz.isAgg264
 z36:=Tryz.sizeOf264
 v36:=Tryz.zeroValue264
 t41:=Tryz.underlying268
 a41:=Tryz.isAgg268
 z41:=Tryz.sizeOf268
 v41:=Tryz.zeroValue268
 t44:=Tryz.underlying271
 a44:=Tryz.isAgg271
 z44:=Tryz.sizeOf271
 v44:=Tryz.zeroValue271
 t46:=Tryz.underlying273
 a46:=Tryz.isAgg273
 z46:=Tryz.sizeOf273
 v46:=Tryz.zeroValue273
 t53:=Tryz.underlying281
 a53:=Tryz.isAgg281
 z53:=Tryz.sizeOf281
 v53:=Tryz.zeroValue281
 t57:=Tryz.underlying285
 a57:=Tryz.isAgg285
 z57:=Tryz.sizeOf285
 v57:=Tryz.zeroValue285
 t63:=Tryz.underlying290
 a63:=Tryz.isAgg290
 z63:=Tryz.sizeOf290
 v63:=Tryz.zeroValue290
 t64:=Tryz.underlying291
 a64:=Tryz.isAgg291
 z64:=Tryz.sizeOf291
 v64:=Tryz.zeroValue291}
end Go.Proofs
end
namespace Go.Proofs.YtfececghhgeapaaGreatDoor
section
open Go.RowKit Go.Maps Go.Sort Go.Shelf
theorem ad5 (m:Nat):AnyZ.SortsIn Tryz.prog Tryz.sortedS_ren Fence.wide m:=
 ⟨λaD off cap ss W hH hblk eT=>callsIn_wide.2 (AnyM.slices_Sort_string Tryz.sortS aD off cap ss W hH hblk eT),
  λp cap W=>callsIn_wide.2 (AnyM.slices_Sort_string_none Tryz.sortS p cap W)⟩
def KG (bk:Nat):Value:=.func (.func 108) #[] #[.pointer (some ⟨bk,0,none⟩)]
theorem ZM {β:Bs} (mb:Option Nat):aW Tryz.prog β 74 #[.map mb] [] (λv l=>∃bk,v=KG bk/\l=[.aD bk [.map mb] 195]):=
 aW.Ni λW _=>by
  have h:CallsIn Fence.wide 5 Tryz.prog 74 #[.map mb] W λe w'=>e=.returned (KG W.heap.size)/\w'=W.alloc (.cells #[.map mb] 195):=AnyZ.keys_in Tryz.keysS Fence.wide 5 trivial rfl mb W
  refine ((callsIn_wide (n:=5)).1 h).mono ?_
  rintro e w' ⟨rfl,rfl⟩
  refine⟨_,_,rfl,⟨W.heap.size,rfl,rfl⟩,(cK.refl _ _).alloc _,λk=>k=W.heap.size,⟨?_,λk=>Iff.rfl⟩,λk hk=>Nat.le_of_eq hk.symm⟩
  show (W.heap.push _)[W.heap.size]?=_
  simp
def xU (es:je Th):List Value:=es.map (λe=>.string e.1)
theorem Q7 {es:je Th} (h:pP es):(es.map (λe=>e.1.data.toList)).Pairwise (· < ·):=by
 refine List.pairwise_map.2 (h.imp (λ{a b} gA=>?_))
 unfold iR at gA
 have h1:¬Op.bytesLess b.1.toList a.1.toList=true:=λe=>gA (by rw [e];rfl)
 have h2:¬b.1.toList=a.1.toList:=λe=>gA (by rw [e];simp)
 rw [bytesLess_eq,Lib.toList_data,Lib.toList_data] at h1
 rw [Lib.toList_data,Lib.toList_data] at h2
 grind
theorem ZN {w:World} {b n:Nat} {L:HL} {es:je Th} {D:DataW Value} (hr:pP es) (qm:w.ownsMap Tryz.prog 9 yM b n D) (hf:∀kl,Maps.has D kl=(nI L es kl).isSome) {ss:List (List UInt8)} (hp:ss.Perm (strKeys D)) :
 ss.mergeSort (λx y=>decide (x<=y))=es.map (λe=>e.1.data.toList):=by
 have hsort:=Q7 hr
 obtain⟨es',hD,hpw,_⟩:=qm.entries Hy
 obtain⟨es2,DV,hko⟩:=qm.keysOf
 obtain rfl:es'=es2:=by rw [hD] at DV;simpa using DV
 have hp2:(es.map (λe=>e.1.data.toList)).Perm (strKeys D):=by
  rw [hD]
  refine perm_strKeys hpw (λp hp=>?_) (hsort.imp (λ{a b} h e=>by subst e;exact KB h (List.lt_irrefl a))) (λx=>?_)
  ·obtain⟨v,hv⟩:=hko p hp
   obtain⟨x,_,h,_⟩:=keyOf_str Tryz.underlying9 hv
   exact⟨x,h⟩
  rw [←hD,hf]
  show _↔((bF ⟨x.toArray⟩ es).map (jg L)).isSome=true
  rw [Option.isSome_map]
  constructor
  ·intro hx
   obtain⟨e,he,rfl⟩:=ahN.1 hx
   have h1:(⟨e.1.data.toList.toArray⟩:ByteArray)=e.1:=by rw [Array.toArray_toList]
   rw [h1,zP (t:=e.2) (pP.pQ hr) he];rfl
  intro hx
  obtain⟨t,ht⟩:=Option.isSome_iff_exists.1 hx
  exact ahN.2 ⟨_,q5 ht,nh⟩
 have h3:=mergeSort_of_perm (hp.trans hp2.symm)
 have h4:(es.map (λe=>e.1.data.toList)).mergeSort leB=es.map (λe=>e.1.data.toList):=List.mergeSort_of_pairwise (hsort.imp (λ{a b} h=>by simp only [leB,decide_eq_true_eq];exact List.le_of_lt h))
 exact h3.trans h4
theorem Ug {β:Bs} (L:HL) (b bk n:Nat) (es:je Th) (hr:pP es) (hn:n<=8192) :
 aW Tryz.prog β 73 #[KG bk] [.abs (bK Tryz.prog 9 b (nI L es) n),.aD bk [.map (some b)] 195] (λv l=>∃A cap,v=.slice A es.length cap ∧
  l=[.abs (bK Tryz.prog 9 b (nI L es) n),.aD bk [.map (some b)] 195,.abs (aK 9 1 A es.length cap (xU es))]):=by
 intro R w hS
 obtain⟨F1,h1⟩:=hS.get (i:=0) (p:=.abs (bK Tryz.prog 9 b (nI L es) n)) rfl
 obtain⟨F2,h2⟩:=hS.get (i:=1) (p:=.aD bk [.map (some b)] 195) rfl
 obtain⟨D,qm,eT,hhas,_⟩:=h1.1
 have hcell:w.cell? ⟨bk,0,none⟩=some (.map (some b)):=(lq h2.1 rfl rfl rfl).1
 have hseq:SeqGives Fence.wide 2 Tryz.prog 108 #[.pointer (some ⟨bk,0,none⟩)] encStr (λss=>ss.Perm (strKeys D)) (Maps.size D) w:=
  AnyZ.keys_gives (ρ:=Tryz.keysS_ren) {Tryz.keysS with} Fence.wide _ trivial rfl d5 bk b n D w (lt_of_some h2.1) hcell qm
 have cS:=AnyZ.sorted_in Tryz.sortedS Fence.wide 5 trivial trivial trivial trivial rfl d5 (ad5 _) (enters_of Tryz.func107 d6 rfl) 108 #[.pointer (some ⟨bk,0,none⟩)] trivial (enters_of Tryz.func108 d6 rfl)
  (λss=>ss.Perm (strKeys D)) (Maps.size D) (by rw [eT];unfold maxLen;omega) (by rw [eT];omega) w hseq
 change CallsIn _ _ Tryz.prog 73 _ _ _ at cS
 refine ((callsIn_wide (n:=5)).1 cS).mono ?_
 rintro e w' ⟨v,ss,rfl,hp,hrow,hnil,hb⟩
 have hkeys:=ZN hr qm hhas hp
 have hl2:ss.length=es.length:=by
  have h3:(ss.mergeSort (λx y=>decide (x<=y))).length=ss.length:=List.length_mergeSort ss
  rw [hkeys,ahQ] at h3
  exact h3.symm
 rw [hkeys,hl2] at hrow
 have Eb:∃A cap,v=.slice A es.length cap:=by
  rcases hrow.2 with ⟨e1,e2⟩|⟨g,cp,cur,e1,_⟩
  all_goals grind
 obtain⟨A,cap,rfl⟩:=Eb
 have hnv:(es.map (λe=>e.1.data.toList)).map encStr=xU es:=by
  rw [List.map_map]
  refine ah6 (λe _=>?_)
  grind
 rw [hnv] at hrow
 have hq:aQ β ([.abs (bK Tryz.prog 9 b (nI L es) n),.aD bk [.map (some b)] 195,.abs R]++[.abs (aK 9 1 A es.length cap (xU es))]) w':=by
  refine aQ.new (F:=λk=>(Value.slice A es.length cap).ownBlock=some k) hS ⟨?_,λk=>Iff.rfl⟩ ⟨hb.os,hb.tape,hb.output,hb.size,λk hk _=>hb.block k hk⟩ (λk hk=>(hrow.lt k hk).1)
  refine⟨hrow.1,?_⟩
  rcases hrow.2 with h|⟨g,cp,cur,e1,_,h3,h4⟩
  ·exact .inl h
  exact .inr ⟨g,cp,cur,e1,L4 _,h3,h4⟩
 exact⟨_,[.abs (bK Tryz.prog 9 b (nI L es) n),.aD bk [.map (some b)] 195,.abs (aK 9 1 A es.length cap (xU es))],rfl,⟨A,cap,rfl,rfl⟩,hq.pick (ay:=[0,1,3,2]) rfl rfl⟩
end
section
open Go.RowKit Go.Maps bw aI
theorem y9 {ns:List aP} {n:aP} {k:Nat} (h:k<ns.length):nd (ns++[n]) k=nd ns k:=by
 grind [nd]
theorem wM {ns:List aP} {n:aP}:nd (ns++[n]) ns.length=n:=by
 grind [nd]
def H7:fk:=⟨λ_=>none,λ_=>none,λ_=>0,λ_=>0⟩
def qP (ns:List aP) (L:fk) (k:Nat):eG:=aK 126 2 (L.eA k) (nd ns k).aq.length (L.eC k) (mP (nd ns k).aq)
def mG (ns:List aP) (L:fk) (k:Nat):eG:=aK 5 1 (L.dA k) (nd ns k).data.length (L.dC k) (ez (nd ns k).data)
def agw (A:Option Addr) (c:Nat) (ns:List aP) (L:fk):HP:=.abs (aK 102 10 A ns.length c (bP L ns))
def KH (A:Option Addr) (c:Nat) (ns:List aP) (L:fk):List HP:=[agw A c ns L,.abs (kY (qP ns L) ns.length),.abs (kY (mG ns L) ns.length)]
theorem oF.graph {β β':Bs} {A:Option Addr} {c:Nat} {ns:List aP} {L:fk} (h:oF β (KH A c ns L) β'):aO β' A ns L:=by
 obtain⟨F,h1,h2⟩:=h.get 0 rfl
 obtain⟨G,g1,g2⟩:=h.get 1 rfl
 obtain⟨K,k1,k2⟩:=h.get 2 rfl
 exact⟨cE.iD h1 h2 rfl,
  kY.base k1 k2 rfl (Φ:=λi b=>ck b (L.dA i) (nd ns i).data) (λi _ F hF hO=>cE.iD (show (HP.abs (aK 5 1 (L.dA i) (nd ns i).data.length (L.dC i) (ez (nd ns i).data))).h F _ from hF) hO rfl),
  kY.base g1 g2 rfl (Φ:=λi b=>cU b (L.eA i) (nd ns i).aq) (λi _ F hF hO=>cE.iD (show (HP.abs (aK 126 2 (L.eA i) (nd ns i).aq.length (L.eC i) (mP (nd ns i).aq))).h F _ from hF) hO rfl)⟩
theorem Q8 {L:fk} {ns:List aP} {n:aP} {dA eA:Option Addr} {dC eC:Nat}:bP L ns++[.int .i64 n.id,.int .i64 n.kind,.int .i64 n.mode,.int .i64 n.cO,.int .i64 n.cQ,.int .i64 n.bJ,.int .i64 n.bh,.slice dA n.data.length dC,.string n.target,.slice eA n.aq.length eC]=bP (L.put ns.length dA dC eA eC) (ns++[n]):=by
 have h:=IQ (ns:=ns++[n]) (L:=L) (k:=ns.length) nh dA dC eA eC
 grind [wM]
theorem LV {ns:List aP} {L:fk} {n:aP} {dA eA:Option Addr} {dC eC:Nat}:(∀x,x<ns.length->mG (ns++[n]) (L.put ns.length dA dC eA eC) x=mG ns L x)/\mG (ns++[n]) (L.put ns.length dA dC eA eC) ns.length=aK 5 1 dA n.data.length dC (ez n.data):=by
 grind [mG,fk.put,y9,wM]
theorem LW {ns:List aP} {L:fk} {n:aP} {dA eA:Option Addr} {dC eC:Nat}:(∀x,x<ns.length->qP (ns++[n]) (L.put ns.length dA dC eA eC) x=qP ns L x)/\qP (ns++[n]) (L.put ns.length dA dC eA eC) ns.length=aK 126 2 eA n.aq.length eC (mP n.aq):=by
 grind [qP,fk.put,y9,wM]
def gD (O:eE) (e:ByteArray×Th):fM:=⟨e.1,(ah O e.2.k).id⟩
def jV (O:eE) (id:Int) (t:Th):aP:=⟨id,t.kind,(ah O t.k).mode,(ah O t.k).cO,(ah O t.k).cQ,(ah O t.k).bJ,(ah O t.k).bh,(ah O t.k).data,(ah O t.k).target,(ah O t.k).aq.map (gD O)⟩
def aV (S:bg):List aP:=S.ay.map (λp=>jV S.O p.1 p.2)
theorem iF {S:bg}:(aV S).length=S.ay.length:=ahQ ..
def jv (S:bg) (i:Nat):Th:=(S.ay.getD i (0,⟨0,0⟩)).2
def gV (S:bg) (i:Nat):Int:=(S.ay.getD i (0,⟨0,0⟩)).1
section at_
variable {S:bg} {i:Nat}
theorem xV (hi:i<S.ay.length):S.ay[i]?=some (gV S i,jv S i):=by
 grind [gV,jv]
theorem get_at (h:Inv0 S) (hi:i<S.ay.length):aI.get S.ay (gV S i)=some (jv S i):=ox h.fP (ah8 (xV hi))
theorem KI (h:Inv0 S) (hi:i<S.ay.length):aT S.ay (jv S i)/\gV S i=((jv S i).k:Int):=⟨h.live (get_at h hi),h.key (get_at h hi)⟩
theorem OQ (hi:i<S.ay.length):(aY S.ay)[i]?=some (gV S i):=by
 grind [aY,xV]
theorem Dn (hi:i<S.ay.length):(aV S).take (i+1)=(aV S).take i++[jV S.O (gV S i) (jv S i)]:=by
 rw [ah4]
 grind [aV,xV]
theorem iI (hi:i<=S.ay.length):((aV S).take i).length=i:=by rw [ahZ,iF];omega
end at_
section sat
variable {β:Bs} {l l':List HP} {w:World} {i j k:Nat} {O:eE} {L:HL} {ix:List Nat}
theorem aQ.ad6 (h:aQ β l w) (hp:l[i]?=some (.abs (bp (pW (eX O L) k eG.none)))) (hq:l[j]?=some (.abs (aK 5 1 (L.dA k) (ah O k).data.length (L.dC k) (ez (ah O k).data)))) (hd:bS (i::j::ix)=true) (hl:cR l ix=some l') (h2:(ah O k).kind=1):aQ β (.abs (bp (eX O L))::l') w:=
 h.yP hp hq (λ_ _ h=>h) hd hl k (λ_ hx=>(FN hx).symm) (zK h2)
end sat
theorem Jt {es:List fM} {e:fM}:mP es++[.string e.name,.int .i64 e.id]=mP (es++[e]):=(C8 e es 0).symm
section grow
variable {ns G':List aP} {n:aP} {L:fk} {i dn en:Nat} {dA eA:Option Addr} {dC eC:Nat}
theorem vH (hl:ns.length=i) (hG:G'=ns++[n]) (hd:n.data.length=dn) (he:n.aq.length=en):bP L ns++[.int .i64 n.id,.int .i64 n.kind,.int .i64 n.mode,.int .i64 n.cO,.int .i64 n.cQ,.int .i64 n.bJ,.int .i64 n.bh,.slice dA dn dC,.string n.target,.slice eA en eC]=bP (L.put i dA dC eA eC) G':=by
 subst hl hG hd he;exact Q8
theorem Dp (hl:ns.length=i) (hG:G'=ns++[n]):∀x,x<i->mG G' (L.put i dA dC eA eC) x=mG ns L x:=by
 subst hl hG;exact LV.1
theorem Bk (hl:ns.length=i) (hG:G'=ns++[n]) (hd:n.data.length=dn):mG G' (L.put i dA dC eA eC) i=aK 5 1 dA dn dC (ez n.data):=by
 subst hl hG hd;exact LV.2
theorem Dq (hl:ns.length=i) (hG:G'=ns++[n]):∀x,x<i->qP G' (L.put i dA dC eA eC) x=qP ns L x:=by
 subst hl hG;exact LW.1
theorem Bl (hl:ns.length=i) (hG:G'=ns++[n]) (he:n.aq.length=en):qP G' (L.put i dA dC eA eC) i=aK 126 2 eA en eC (mP n.aq):=by
 subst hl hG he;exact LW.2
end grow
section more
variable {S:bg} {i j k:Nat}
theorem afN (h:Inv0 S) (hi:i<S.ay.length):(∃k,jv S i=⟨k,1⟩/\aT S.ay ⟨k,1⟩)\/(∃k,jv S i=⟨k,2⟩/\aT S.ay ⟨k,2⟩)\/∃k,jv S i=⟨k,3⟩/\aT S.ay ⟨k,3⟩:=by
 have h1:=(KI h hi).1
 generalize jv S i=t at h1 ⊢
 obtain⟨k,kd⟩:=t
 rcases (h.ob _ h1).2.2 with e|e|e<;>simp only at e<;>subst e
 all_goals grind
theorem KJ (h:Inv0 S) (hi:i<S.ay.length):(Lit.int .i64 (gV S i)).wf=true:=by
 have h1:=h.ay _ _ (get_at h hi)
 have h2:=h.last
 exact WalkArith.wf_i64 d5
theorem ZO (hi:i<S.ay.length):(bG (aY S.ay))[i*1+0]?=some (.int .i64 (gV S i)):=by
 grind [bG,OQ]
theorem OU (h:Inv0 S) {t:Th} (hl:aT S.ay t) (hk:t.kind≠3):(ah S.O t.k).target=⟨#[]⟩:=by
 rcases (h.mt t hl).target with e|e
 ·exact e.2
 exact KB (h.kind hl ▸ e.1) hk
theorem xW (h:Inv0 S) (hi:i<S.ay.length) (qw:jv S i=⟨k,1⟩) (hl:aT S.ay ⟨k,1⟩):(aV S).take (i+1)=(aV S).take i++[⟨gV S i,1,(ah S.O k).mode,(ah S.O k).cO,(ah S.O k).cQ,(ah S.O k).bJ,(ah S.O k).bh,(ah S.O k).data,⟨#[]⟩,[]⟩]:=by
 rw [Dn hi,qw]
 unfold jV
 rw [show (ah S.O k).target=⟨#[]⟩ from OU h hl nh,show (ah S.O k).aq=[] from (h.mt _ hl).aq (by rw [h.kind hl];simp)];rfl
theorem xX (h:Inv0 S) (hi:i<S.ay.length) (qw:jv S i=⟨k,3⟩) (hl:aT S.ay ⟨k,3⟩):(aV S).take (i+1)=(aV S).take i++[⟨gV S i,3,(ah S.O k).mode,(ah S.O k).cO,(ah S.O k).cQ,(ah S.O k).bJ,(ah S.O k).bh,[],(ah S.O k).target,[]⟩]:=by
 rw [Dn hi,qw]
 unfold jV
 rw [show (ah S.O k).data=[] from (h.mt _ hl).data (by rw [h.kind hl];simp),show (ah S.O k).aq=[] from (h.mt _ hl).aq (by rw [h.kind hl];simp)];rfl
theorem zT (h:Inv0 S) (hi:i<S.ay.length) (qw:jv S i=⟨k,2⟩) (hl:aT S.ay ⟨k,2⟩):(aV S).take (i+1)=(aV S).take i++[⟨gV S i,2,(ah S.O k).mode,(ah S.O k).cO,(ah S.O k).cQ,(ah S.O k).bJ,(ah S.O k).bh,[],⟨#[]⟩,(ah S.O k).aq.map (gD S.O)⟩]:=by
 rw [Dn hi,qw]
 unfold jV
 rw [show (ah S.O k).target=⟨#[]⟩ from OU h hl nh,show (ah S.O k).data=[] from (h.mt _ hl).data (by rw [h.kind hl];simp)]
def nS (es:je Th) (j:Nat):ByteArray:=(es.getD j (⟨#[]⟩,⟨0,0⟩)).1
def tq (es:je Th) (j:Nat):Th:=(es.getD j (⟨#[]⟩,⟨0,0⟩)).2
theorem Dr {es:je Th} (hj:j<es.length):es[j]?=some (nS es j,tq es j):=by
 grind [nS,tq]
theorem Uh {es:je Th} (hj:j<es.length):(xU es)[j*1+0]?=some (.string (nS es j)):=by
 grind [xU,Dr]
theorem agx (h:Inv0 S) {t:Th} (hl:aT S.ay t) (hj:j<(ah S.O t.k).aq.length):bU (nS (ah S.O t.k).aq j)/\((∃k,bF (nS (ah S.O t.k).aq j) (ah S.O t.k).aq=some ⟨k,1⟩/\aT S.ay ⟨k,1⟩/\tq (ah S.O t.k).aq j=⟨k,1⟩)\/(∃k,bF (nS (ah S.O t.k).aq j) (ah S.O t.k).aq=some ⟨k,2⟩/\aT S.ay ⟨k,2⟩/\tq (ah S.O t.k).aq j=⟨k,2⟩)\/∃k,bF (nS (ah S.O t.k).aq j) (ah S.O t.k).aq=some ⟨k,3⟩/\aT S.ay ⟨k,3⟩/\tq (ah S.O t.k).aq j=⟨k,3⟩):=by
 have hm:=ah8 (Dr hj)
 have h1:=h.aq t hl _ hm
 have h2:=zP (h.pQ hl) hm
 refine⟨h1.1,?_⟩
 have h3:=h1.2
 generalize tq (ah S.O t.k).aq j=u at h2 h3 ⊢
 obtain⟨k,kd⟩:=u
 rcases (h.ob _ h3).2.2 with e|e|e<;>simp only at e<;>subst e
 all_goals grind
theorem EH {O:eE} {es:je Th} {kd:Int} (hj:j<es.length) (he:tq es j=⟨k,kd⟩):mP ((es.take j).map (gD O))++[.string (nS es j),.int .i64 (ah O k).id]=mP ((es.take (j+1)).map (gD O)):=by
 rw [ah4,Dr hj,he,aik]
 exact Jt (es:=(es.take j).map (gD O)) (e:=⟨nS es j,(ah O k).id⟩)
end more
theorem oF.bytes {β β':Bs} {A:Option Addr} {n c:Nat} {d:List UInt8} (h:oF β [.abs (aK 5 1 A n c (ez d))] β'):ck β' A d:=by
 obtain⟨F,h1,h2⟩:=h.get 0 rfl
 exact cE.iD h1 h2 rfl
end
section
open Go.RowKit
inductive OT
 |lin (l:List (Bool×Nat))
 |rd (i:Nat) (t:OT)
 |two (i:Nat) (a:OT) (j:Nat) (b:OT)
 |three (i:Nat) (a:OT) (j:Nat) (b:OT) (k:Nat) (c:OT)
section order
variable {P:Program} {ops:Array Oper} {Q:Post} {n:Nat} {S:World->Prop}
def xY (P:Program) (ops:Array Oper) (Q:Post) (S:World->Prop):OT->Act->World->Prop
 |.lin l,a,w=>kG P ops Q S l a w
 |.rd i t,a,w=>∃o v,ops[i]?=some o/\YieldsIf P ops S o v a/\xY P ops Q S t (a.put o.dst v) w
 |.two i x j y,a,w=>wpOp P ops Q i (λa' w'=>S w'/\xY P ops Q S x a' w') a w/\wpOp P ops Q j (λa' w'=>S w'/\xY P ops Q S y a' w') a w
 |.three i x j y k z,a,w=>wpOp P ops Q i (λa' w'=>S w'/\xY P ops Q S x a' w') a w/\wpOp P ops Q j (λa' w'=>S w'/\xY P ops Q S y a' w') a w/\wpOp P ops Q k (λa' w'=>S w'/\xY P ops Q S z a' w') a w
def yj:OT->Nat
 |.lin l=>l.length
 |.rd _ t=>yj t+1
 |.two _ x _ _=>yj x+1
 |.three _ x _ _ _ _=>yj x+1
def vJ (ops:Array Oper) (n:Nat):OT->Array Bool->Bool
 |.lin l,bL=>C5 ops n l bL
 |.rd i t,bL=>decide (i<n) && Region.free .any ops bL i && (Region.ready .any ops bL).contains i && vJ ops n t (bL.setIfInBounds i true)
 |.two i x j y,bL=>(Region.ready .any ops bL == [i,j]) && (yj x == yj y) && vJ ops n x (bL.setIfInBounds i true) && vJ ops n y (bL.setIfInBounds j true)
 |.three i x j y k z,bL=>(Region.ready .any ops bL == [i,j,k]) && (yj x == yj y) && (yj x == yj z) && vJ ops n x (bL.setIfInBounds i true) && vJ ops n y (bL.setIfInBounds j true) && vJ ops n z (bL.setIfInBounds k true)
theorem Ds (hsel:Region.noSelect ops=true) (p6:Region.sinkB .any ops n=true):∀(t:OT) (bL:Array Bool) (a:Act) (w:World),vJ ops n t bL=true->Closed ops bL->S w->xY P ops (NP Q) S t a w->xC P ops (NP Q) n S (yj t) bL a w
 |.lin l,bL,a,w,hb,hc,hS,h=>zu hsel p6 l bL a w hb hc (.inr hS) h
 |.rd i t,bL,a,w,hb,hc,hS,h=>by
   unfold vJ at hb
   simp only [ahU,decide_eq_true_iff] at hb
   obtain⟨⟨⟨h1,h2⟩,h3⟩,h4⟩:=hb
   obtain⟨o,v,ho,hy,hk⟩:=h
   have hr:i∈Region.ready .any ops bL:=by simpa using h3
   exact zn ho hsel p6 h1 (yj t) bL a w hc (Region.free_spec ho h2) hr hy hS (Ds hsel p6 t _ _ w h4 (hc.set hr) hS hk)
 |.two i x j y,bL,a,w,hb,hc,_,h=>by
   unfold vJ at hb
   simp only [ahU,aiw] at hb
   obtain⟨⟨⟨h1,h2⟩,h3⟩,h4⟩:=hb
   refine⟨λh0=>(by rw [h1] at h0;cases h0),λm hm=>?_⟩
   have hr:=hm
   rw [h1] at hm
   have hm:m=i\/m=j:=by simpa using hm
   rcases hm with rfl|rfl
   ·exact wpOp_mono (λa' w' g=>⟨.inr g.1,Ds hsel p6 x _ a' w' h3 (hc.set hr) g.1 g.2⟩) h.1
   exact wpOp_mono (λa' w' g=>⟨.inr g.1,by rw [h2];exact Ds hsel p6 y _ a' w' h4 (hc.set hr) g.1 g.2⟩) h.2
 |.three i x j y k z,bL,a,w,hb,hc,_,h=>by
   unfold vJ at hb
   simp only [ahU,aiw] at hb
   obtain⟨⟨⟨⟨⟨h1,h2⟩,h3⟩,h4⟩,h5⟩,h6⟩:=hb
   refine⟨λh0=>(by rw [h1] at h0;cases h0),λm hm=>?_⟩
   have hr:=hm
   rw [h1] at hm
   have hm:m=i\/m=j\/m=k:=by simpa using hm
   rcases hm with rfl|rfl|rfl
   ·exact wpOp_mono (λa' w' g=>⟨.inr g.1,Ds hsel p6 x _ a' w' h4 (hc.set hr) g.1 g.2⟩) h.1
   ·exact wpOp_mono (λa' w' g=>⟨.inr g.1,by rw [h2];exact Ds hsel p6 y _ a' w' h5 (hc.set hr) g.1 g.2⟩) h.2.1
   exact wpOp_mono (λa' w' g=>⟨.inr g.1,by rw [h3];exact Ds hsel p6 z _ a' w' h6 (hc.set hr) g.1 g.2⟩) h.2.2
def KL (ops:Array Oper) (t:OT):Bool:=Region.noSelect ops && Region.sinkB .any ops (ops.size-1) && (yj t == ops.size) && vJ ops (ops.size-1) t (Array.replicate ops.size false)
def uR:List Nat->OT->OT
 |[],t=>t
 |i::l,t=>.rd i (uR l t)
end order
section mix
variable {P:Program} {β:Bs} {N:fN} {ops:Array Oper} {S:List HP} {t t' x y z:OT} {fr bQ:Fr} {aB:List HP} {Q:Post} {eV:List Prop} {i j k:Nat}
def lK (P:Program) (β:Bs) (N:fN) (ops:Array Oper) (S:List HP) (t:OT) (fr:Fr) (aB:List HP) (Q:Post):Prop:=∀av w,aQ β aB w->xY P ops (NP Q) (aQ β S) t (fw N fr av) w
def ahy (P:Program) (β:Bs) (N:fN) (ops:Array Oper) (S:List HP) (i:Nat) (t:OT) (fr:Fr) (aB:List HP) (Q:Post):Prop:=∀av w,aQ β aB w->wpOp P ops (NP Q) i (λa' w'=>aQ β S w'/\xY P ops (NP Q) (aQ β S) t a' w') (fw N fr av) w
theorem ax.H8 {id:Nat} (t:OT) (hp:∀w,aQ β aB w->aQ β S w) (h:lK P β N ops S t fr aB Q) (hm:P.follows .mixedOrders=true:=by kernel_rfl) (hB:KL ops t=true:=by kernel_rfl):ax P β N (.region id ops true) fr aB Q:=by
 intro av w hS
 unfold KL at hB
 simp only [ahU,aiw] at hB
 obtain⟨⟨⟨h1,h2⟩,h3⟩,h4⟩:=hB
 have iA:=hS.drewN 1
 have h5:=Ds (Q:=Q) h1 h2 t _ _ _ h4 (λj oj _ hl=>by simp [Array.getD_eq_getD_getElem?,Array.getElem?_replicate] at hl;split at hl<;>simp at hl) (hp _ iA) (h av (w.drewN 1) iA)
 rw [h3] at h5
 refine ait (λe a w q=>?_) (wp_region_any hm (sM _ _ _ _ h5))
 cases e with
 |normal=>exact q
 |exit id=>exact q.elim
 |goto l=>exact q.elim
 |ret=>exact q.elim
 |panic ch=>exact q.elim
 |outgrown=>exact q.elim
theorem ax.o7 {id:Nat} (t:OT) (pk:List Nat) (h:lK P β N ops S t fr aB Q) (hp:cR aB pk=some S:=by kernel_rfl) (hm:P.follows .mixedOrders=true:=by kernel_rfl) (hB:KL ops t=true:=by kernel_rfl) (hn:bS pk=true:=by kernel_rfl):ax P β N (.region id ops true) fr aB Q:=
 .H8 t (λ_ hS=>hS.pick hn hp) h hm hB
theorem zU {av:Nat->Value} {w:World}:∀{hs:List OH} {is:List Nat} {fr bQ:Fr} {T T':SS},qG P β N av ops hs is fr T=some (bQ,T')->(∀p,p∈T'.eV->p)->T.used=true->T.aB=S →
 xY P ops (NP Q) (aQ β S) t (fw N bQ av) w->xY P ops (NP Q) (aQ β S) (uR is t) (fw N fr av) w
 |[],[],fr,bQ,T,T',h,ho,hu,hT,hK=>by cases h;exact hK
 |h::hs,i::is,fr,bQ,T,T',hr,ho,hu,hT,hK=>by
   unfold qG at hr
   repeat' split at hr
   all_goals first|(cases hr;done)|skip
   ·rename_i o hget _ hwant _ v T1 h0 _ hv
    obtain⟨e1,e2⟩:=Cn h0
    unfold uR xY
    refine⟨o,v,hget,.inl ⟨by rw [iC];exact hwant,λw' iA=>?_⟩,?_⟩
    ·rw [jd]
     obtain⟨w2,h1,_,_,h4⟩:=rE h0 (λp hp=>ho p (yN hr p hp)) (by rw [hT];exact iA) (λe=>by rw [hu] at e;cases e)
     obtain⟨ew,_⟩:=h4 rfl
     rw [ew] at h1
     rcases h1 with h1|⟨h1,_⟩
     ·exact h1
     exact KB h1 (xD hv)
    rw [ij]
    exact zU hr ho (e2.trans hu) (e1.trans hT) hK
   rename_i o hget _ hwant
   unfold uR xY
   refine⟨o,undef,hget,.inr ⟨by rw [iC];exact hwant,rfl⟩,?_⟩
   rw [ij]
   exact zU hr ho hu hT hK
 |[],_::_,_,_,_,_,h,_,_,_,_=>by cases h
 |_::_,[],_,_,_,_,h,_,_,_,_=>by cases h
theorem gT (t:OT) (OV:Fr) (is:List Nat) (os:List (Nat×OP)) (K:lK P β N ops S t OV aB Q)
 (h:∀av,t6 P β N av ops (dS (ef is.length os 0)) is fr S (bW OV)=some (OV,owed (ef is.length os 0)):=by intro _;kernel_rfl) (hl:t'=uR is t:=by rfl):lK P β N ops S t' fr aB Q:=by
 intro av w hS
 subst hl
 have h0:=h av
 unfold t6 at h0
 split at h0
 ·rename_i sy S1 h1
  injection h0 with h0
  injection h0 with ha hb
  have hK:=K (lk sy av) w hS
  rw [←ha,←o8] at hK
  refine zU h1 (λp hp=>?_) rfl rfl hK
  rw [hb] at hp
  exact (wv _).mem hp
 cases h0
end mix
def oJ (j:Nat) (l2:List (Bool×Nat)):List (Bool×Nat)->OT
 |[]=>.lin ((false,j)::l2)
 |(false,i)::l=>.two i (oJ j l2 l) j (.lin ((false,i)::(l++l2)))
 |(true,i)::l=>.rd i (oJ j l2 l)
def oK (j k:Nat) (l2:List (Bool×Nat)):List (Bool×Nat)->OT
 |[]=>.two j (oJ k l2 []) k (oJ j l2 [])
 |(false,i)::l=>.three i (oK j k l2 l) j (oJ k l2 ((false,i)::l)) k (oJ j l2 ((false,i)::l))
 |(true,i)::l=>.rd i (oK j k l2 l)
section mix
variable {P:Program} {β:Bs} {N:fN} {ops:Array Oper} {S:List HP} {l l' l2:List (Bool×Nat)} {fr bQ:Fr} {aB:List HP} {Q:Post} {eV:List Prop} {i j k:Nat}
theorem aQ.left {a b:List HP} {w:World} (h:aQ β (a++b) w):aQ β a w:=by
 obtain⟨h0,φ,h1,h2,h3⟩:=h
 have jT:a.length<=(a++b).length:=nh
 exact⟨h0,φ,λi p hp=>h1 i p gn,λi hi=>h2 i d5,λi j hi hj=>h3 i j d5 d5⟩
def gJ (P:Program) (β:Bs) (N:fN) (ops:Array Oper) (Q:Post) (i d:Nat) (ds:List Nat) (fr:Fr) (pre:List HP) (post:Value->List HP->Prop):Prop:=
 ∀av w (A:eG),aQ β (pre++[.abs A]) w->wpOp P ops (NP Q) i (λa' w'=>∃v l oR,post v l/\a'=fw N fr oR/\oR d=v/\(∀t∈ds,t≠d->oR t=av t)/\aQ β (l++[.abs A]) w') (fw N fr av) w
def sH (uS:List Nat) (u:Nat->Value):Fr:=uS.map λt=>(t,u t)
theorem LY {uS:List Nat} {u:Nat->Value}:bW (sH uS u)=uS:=by
 induction uS with
 |nil=>rfl
 |cons a r ih=>exact zc (a::·) ih
theorem WB {uS:List Nat} {u av:Nat->Value} {t:Nat} (h:t∈uS):lk (sH uS u) av t=u t:=by
 induction uS with
 |nil=>cases h
 |cons a r ih=>
   grind [lk,sH,lV]
theorem CD {fr OV:Fr} {av Ui:Nat->Value} (h:∀t,lk fr av t=lk OV Ui t):fw N fr av=fw N OV Ui:=by
 unfold fw
 rw [show lk fr av=lk OV Ui from funext h]
theorem gJ.of {ι:Type} {v:ι->Value} {l:ι->List HP} {o:Oper} {d:Nat} {pre:List HP} (uS:List Nat) (cA:ops[i]?=some o) (hg:o.guard=none) (ahz:(d::uS).all (λt=>!nB t (bW fr))=true) (hd:nB d uS=false)
 (h:∀(u:Nat->Value) (A:eG),aE P β N #[o] 0 (sH uS u++fr) (pre++[.abs A]) (NP (Ef β N (λx=>(d,v x)::(sH uS u++fr)) (λx=>l x++[.abs A])))):gJ P β N ops Q i d (d::uS) fr pre (λv' l'=>∃x,v'=v x/\l'=l x):=by
 intro av w A hS
 have hout:∀t∈d::uS,t∉bW fr:=λt ht hm=>by
  grind [tu]
 have hdo:d∉uS:=by grind [tu]
 have e1:fw N fr av=fw N (sH uS av++fr) av:=CD λt=>by
  grind [IK,LY,WB,zo]
 rw [e1]
 refine vo cA hg (AU (λa w ⟨x,afO,ha,iA⟩=>⟨v x,l x,lk ((d,v x)::(sH uS av++fr)) afO,⟨x,rfl,rfl⟩,?_,by rw [lV,t8 rfl],λt ht hn=>?_,iA⟩) (show wpList P #[o] (NP (Ef β N _ _)) [o] (fw N (sH uS av++fr) av) w from h av A av w hS))
 all_goals grind [CD,bW,lV,IK,LY,M5,zo,WB]
theorem gJ.at_ {d:Nat} {ds:List Nat} {pre X Y:List HP} {post:Value->List HP->Prop} {av:Nat->Value} {w:World} {K:Act->World->Prop} (h:gJ P β N ops Q i d ds fr pre post) (hS:aQ β (X++(pre++Y)) w)
 (hK:∀v l oR w',post v l->oR d=v->(∀t∈ds,t≠d->oR t=av t)->aQ β (X++(l++Y)) w'->K (fw N fr oR) w'):wpOp P ops (NP Q) i K (fw N fr av) w:=by
 have h1:=aQ.turn hS
 rw [ah1] at h1
 refine wpOp_mono (λa' w' ⟨v,l,j2,g1,g2,g3,g4,g5⟩=>?_) (h av w _ h1.gq)
 rw [g2]
 refine hK v l j2 w' g1 g3 g4 ?_
 have h2:=g5.rP
 rw [←ah1] at h2
 exact aQ.turn h2
theorem gJ.grow {d d1:Nat} {ds:List Nat} {pre:List HP} {q:Value->List HP->Prop} (h:gJ P β N ops Q i d (d::d1::ds) fr pre q) (h1:d1∉bW fr) (hd:d1≠d) (hn:d1∉ds) (v1:Value):gJ P β N ops Q i d (d::ds) ((d1,v1)::fr) pre q:=by
 intro av w A hS
 have e:fw N ((d1,v1)::fr) av=fw N fr (λt=>if t=d1 then v1 else av t):=CD λt=>by
  grind [lV,zo,bW,M5]
 rw [e]
 refine wpOp_mono (λa' w' ⟨v,l,j2,g1,g2,g3,g4,g5⟩=>?_) (h _ w A hS)
 have k1:j2 d1=v1:=gn
 refine⟨v,l,j2,g1,?_,g3,λt ht cG=>?_,g5⟩
 ·rw [g2]
  refine CD λt=>?_
  grind [lV,zo]
 grind
abbrev GA (c:List (Bool×Nat×Nat)):List (Bool×Nat):=c.map (λx=>(x.1,x.2.1))
abbrev Bn (c:List (Bool×Nat×Nat)):List Nat:=c.map (·.2.2)
def pH (G:List HP->Prop) (P:Program) (β:Bs) (N:fN) (ops:Array Oper) (Q:Post) (S:List HP) (ds:List Nat):List (Bool×Nat×Nat)->Fr->List HP->(Fr->List HP->Prop)->Prop
 |[],fr,aB,R=>R fr aB
 |(false,i,d)::c,fr,aB,R=>(d∉bW fr/\d∉ds)/\∃q:Value->List HP->Prop,gJ P β N ops Q i d (d::ds) fr aB q/\∀v l,q v l->G l/\pH G P β N ops Q S ds c ((d,v)::fr) l R
 |(true,i,d)::c,fr,aB,R=>(d∉bW fr/\d∉ds)/\∃o v,ops[i]?=some o/\o.dst=some d/\(∀av,YieldsIf P ops (aQ β S) o v (fw N fr av))/\pH G P β N ops Q S ds c ((d,v)::fr) aB R
abbrev dO:=pH λ_=>True
theorem R8 {d:Nat} {a b:List Nat} (h:(!nB d a && !nB d b)=true):d∉a/\d∉b:=by
 simp only [ahU,Bool.not_eq_true'] at h
 exact⟨λe=>by rw [tu.2 e] at h;exact KB h.1 (by decide),λe=>by rw [tu.2 e] at h;exact KB h.2 (by decide)⟩
theorem pH.step {G:List HP->Prop} {ds:List Nat} {d:Nat} {c:List (Bool×Nat×Nat)} {R:Fr->List HP->Prop} {q:Value->List HP->Prop} (h:gJ P β N ops Q i d (d::ds) fr aB q) (K:∀v l,q v l->G l/\pH G P β N ops Q S ds c ((d,v)::fr) l R) (h1:(!nB d (bW fr) && !nB d ds)=true:=by rfl):pH G P β N ops Q S ds ((false,i,d)::c) fr aB R:=
 ⟨R8 h1,q,h,K⟩
theorem dO.step {ds:List Nat} {d:Nat} {c:List (Bool×Nat×Nat)} {R:Fr->List HP->Prop} {q:Value->List HP->Prop} (h:gJ P β N ops Q i d (d::ds) fr aB q) (K:∀v l,q v l->dO P β N ops Q S ds c ((d,v)::fr) l R) (h1:(!nB d (bW fr) && !nB d ds)=true:=by rfl):dO P β N ops Q S ds ((false,i,d)::c) fr aB R:=
 pH.step h (λv l e=>⟨trivial,K v l e⟩) h1
theorem dO.read {G:List HP->Prop} {ds:List Nat} {d:Nat} {c:List (Bool×Nat×Nat)} {R:Fr->List HP->Prop} (v:Value) (K:pH G P β N ops Q S ds c ((d,v)::fr) aB R) (h:∀av,t6 P β N av ops [o_] [i] fr S (d::bW fr)=some ((d,v)::fr,[]):=by intro _;kernel_rfl) (hd:(ops[i]?).map Oper.dst=some (some d):=by rfl) (h1:(!nB d (bW fr) && !nB d ds)=true:=by rfl):pH G P β N ops Q S ds ((true,i,d)::c) fr aB R:=by
 obtain⟨o,ho,hod⟩:=Option.map_eq_some_iff.1 hd
 refine⟨R8 h1,o,v,ho,hod,λav=>?_,K⟩
 have h0:=h av
 unfold t6 at h0
 split at h0
 ·rename_i sy S1 hr
  injection h0 with h0
  injection h0 with ha hb
  unfold qG at hr
  rw [ho] at hr
  simp only at hr
  repeat' split at hr
  all_goals first|(cases hr;done)|skip
  ·rename_i _ hwant _ v1 T1 hrun _ hv
   unfold qG at hr
   injection hr with hr
   injection hr with hr1 hr2
   have hv1:v1=v:=by
    grind [lk,kT,eU,bW,lV]
   refine .inl ⟨by rw [iC];exact hwant,λw' iA=>?_⟩
   rw [jd]
   obtain⟨w2,g1,_,_,g4⟩:=rE hrun (λp hp=>by rw [hr2,hb] at hp;cases hp) (by exact iA) (λe=>by cases e)
   obtain⟨ew,_⟩:=g4 rfl
   rw [ew] at g1
   rcases g1 with g1|⟨g1,_⟩
   all_goals grind [xD]
  rename_i _ hwant
  unfold qG at hr
  injection hr with hr
  injection hr with hr1 hr2
  have hv1:undef=v:=by
   grind [lk,kT,eU,bW,lV]
  exact .inr ⟨by rw [iC];exact hwant,hv1.symm⟩
 cases h0
theorem ZP {h a b Z:List HP} {w:World} (hS:aQ β (h++(a++(b++Z))) w):aQ β (h++(b++(a++Z))) w:=by
 have h1:aQ β ((b++Z++h)++a) w:=by have:=aQ.turn (a:=h++a) (b:=b++Z) (by simpa using hS);simpa using this
 have h3:aQ β ((Z++h++[.abs (gq a)])++b) w:=by have:=aQ.turn (a:=b) (b:=Z++h++[.abs (gq a)]) (by simpa using h1.gq);simpa using this
 have h5:aQ β ([.abs (gq a),.abs (gq b)]++(Z++h)) w:=by have:=aQ.turn (a:=Z++h) (b:=[.abs (gq a),.abs (gq b)]) (by simpa using h3.gq);simpa using this
 have h7:aQ β ([.abs (gq b),.abs (gq a)]++[.abs (gq (Z++h))]) w:=aQ.pick (ay:=[1,0,2]) h5.gq rfl rfl
 have h9:aQ β ((Z++h++[.abs (gq b)])++[.abs (gq a)]) w:=by have:=aQ.turn (a:=[.abs (gq b),.abs (gq a)]) (b:=Z++h) (by simpa using h7.rP);simpa using this
 have h11:aQ β ((a++(Z++h))++[.abs (gq b)]) w:=by have:=aQ.turn (a:=Z++h++[.abs (gq b)]) (b:=a) (by simpa using h9.rP);simpa using this
 have tv:=aQ.turn (a:=a++Z) (b:=h++b) (by simpa using h11.rP)
 simpa using tv
theorem wN {d:Nat} {v:Value} {av:Nat->Value} (hv:av d=v) (hd:d∉bW fr):fw N fr av=fw N ((d,v)::fr) av:=CD λt=>by
 rw [lV]
 by_cases e1:d=t
 ·subst e1;rw [t8 rfl,zo hd,hv]
 rw [nw e1]
section bes
variable {G:List HP->Prop} {ds:List Nat} {pc Z:List HP} {R:Fr->List HP->Prop}
theorem kept {d:Nat} {v:Value} (h:d∉ds) (ho:∀t∈ds,t∉bW fr):∀t∈ds,t∉bW ((d,v)::fr):=λt ht hm=>by
 rcases ahK.1 (show t∈d::bW fr from hm) with e|e
 ·exact h (e ▸ ht)
 exact ho t ht e
theorem EI {D:List Nat} {u:Nat->Value} (hD:∀t∈D,t∈ds) (hG:∀h X w,G h->aQ β (h++(X++Z)) w->aQ β S w) (hK:∀f1 h1,R f1 h1->∀av w,(∀t∈D,av t=u t)->(∀t∈ds,t∉bW f1)->aQ β (h1++Z) w->kG P ops (NP Q) (aQ β S) l2 (fw N f1 av) w) :
 ∀(c:List (Bool×Nat×Nat)) (fr:Fr) (aB:List HP) (av:Nat->Value) (w:World),(∀t∈ds,t∉bW fr)->pH G P β N ops Q S ds c fr aB R->(∀t∈D,av t=u t)->aQ β (aB++Z) w->kG P ops (NP Q) (aQ β S) (GA c++l2) (fw N fr av) w
 |[],fr,aB,av,w,ho,hc,hu,hS=>hK fr aB hc av w hu ho hS
 |(false,i,d)::c,fr,aB,av,w,ho,⟨⟨h1,h2⟩,q,h3,h4⟩,hu,hS=>by
   show kG _ _ _ _ ((false,i)::(GA c++l2)) _ _
   unfold kG
   refine h3.at_ (X:=[]) hS (λv' l j2 w' g1 g2 g3 g4=>⟨.inr (hG l [] w' (h4 v' l g1).1 g4),?_⟩)
   rw [wN g2 h1]
   exact EI hD hG hK c _ l j2 w' (kept h2 ho) (h4 v' l g1).2 (λt ht=>(g3 t (T4 _ (hD t ht)) (λe=>h2 (e ▸ hD t ht))).trans (hu t ht)) g4
 |(true,i,d)::c,fr,aB,av,w,ho,⟨⟨h1,h2⟩,o,v',h3,h4,h5,h6⟩,hu,hS=>by
   show kG _ _ _ _ ((true,i)::(GA c++l2)) _ _
   unfold kG
   refine⟨o,v',h3,h5 av,?_⟩
   rw [h4,ij]
   exact EI hD hG hK c _ aB av w (kept h2 ho) h6 hu hS
theorem Ju {d:Nat} {c:List Nat} (hnd:bS (d::c)=true):d∉c/\bS c=true:=by
 unfold bS at hnd
 simp only [ahU] at hnd
 exact⟨λhm=>by have h:=hnd.1;simp_all,hnd.2⟩
theorem uT {r dr:Nat} {D:List Nat} {u:Nat->Value} {qr:Value->List HP->Prop} (hr:dr∈ds) (hD:∀t∈D,t∈ds) (hn:dr∉D) (hG:∀h X w,G h->aQ β (h++(X++Z)) w->aQ β S w)
 (hK:∀f1 h1,R f1 h1->∀v lp,qr v lp->∀av w,av dr=v->(∀t∈D,av t=u t)->(∀t∈ds,t∉bW f1)->aQ β (h1++(lp++Z)) w->kG P ops (NP Q) (aQ β S) l2 (fw N f1 av) w) :
 ∀(c:List (Bool×Nat×Nat)) (fr:Fr) (aB:List HP) (av:Nat->Value) (w:World),bS (Bn c)=true->(∀t∈ds,t∉bW fr)->gJ P β N ops Q r dr (dr::(Bn c++D)) fr [] qr->pH G P β N ops Q S ds c fr aB R->(∀t∈D,av t=u t)->G aB->aQ β (aB++Z) w->xY P ops (NP Q) (aQ β S) (oJ r l2 (GA c)) (fw N fr av) w
 |[],fr,aB,av,w,_,ho,hj,hc,hu,hg,hS=>by
   show kG _ _ _ _ ((false,r)::l2) _ _
   unfold kG
   exact hj.at_ (X:=aB) hS (λv l j2 w' g1 g2 g3 g4=>⟨.inr (hG aB l w' hg g4),hK fr aB hc v l g1 j2 w' g2 (λt ht=>(g3 t (by simp [ht]) (λe=>hn (e ▸ ht))).trans (hu t ht)) ho g4⟩)
 |(false,i,d)::c,fr,aB,av,w,hnd,ho,hj,hc,hu,hg,hS=>by
   have hc0:=hc
   obtain⟨⟨h1,h2⟩,q,h3,h4⟩:=hc
   obtain⟨n1,n2⟩:=Ju hnd
   refine⟨h3.at_ (X:=[]) hS (λv' l j2 w' g1 g2 g3 g4=>⟨hG l [] w' (h4 v' l g1).1 g4,?_⟩),hj.at_ (X:=aB) hS (λv l j2 w' g1 g2 g3 g4=>⟨hG aB l w' hg g4,?_⟩)⟩
   ·rw [wN g2 h1]
    exact uT hr hD hn hG hK c _ l j2 w' n2 (kept h2 ho) (hj.grow h1 (show d≠dr from λe=>h2 (e ▸ hr)) (λe=>(ahV.1 e).elim n1 (λe=>h2 (hD d e))) v') (h4 v' l g1).2 (λt ht=>(g3 t (T4 _ (hD t ht)) (λe=>h2 (e ▸ hD t ht))).trans (hu t ht)) (h4 v' l g1).1 g4
   exact EI (Z:=l++Z) (D:=dr::D) (u:=j2) (λt ht=>(ahK.1 ht).elim (λe=>e ▸ hr) (hD t)) (λh X w hg hs=>hG h (X++l) w hg (by simpa using hs))
    (λf1 h1 k1 av w k2 k3 k4=>hK f1 h1 k1 v l g1 av w ((k2 dr nh).trans g2) (λt ht=>(k2 t (by simp [ht])).trans ((g3 t (by simp [ht]) (λe=>hn (e ▸ ht))).trans (hu t ht))) k3 k4)
    ((false,i,d)::c) fr aB j2 w' ho hc0 (λ_ _=>rfl) g4
 |(true,i,d)::c,fr,aB,av,w,hnd,ho,hj,⟨⟨h1,h2⟩,o,v',h3,h4,h5,h6⟩,hu,hg,hS=>by
   obtain⟨n1,n2⟩:=Ju hnd
   refine⟨o,v',h3,h5 av,?_⟩
   rw [h4,ij]
   exact uT hr hD hn hG hK c _ aB av w n2 (kept h2 ho) (hj.grow h1 (show d≠dr from λe=>h2 (e ▸ hr)) (λe=>(ahV.1 e).elim n1 (λe=>h2 (hD d e))) v') h6 hu hg hS
theorem EJ {dj dk:Nat} {qj qk:Value->List HP->Prop} (cG:dj≠dk) (hG:∀h X w,G h->aQ β (h++(X++Z)) w->aQ β S w)
 (hK:∀f1 h1,R f1 h1->∀va la,qj va la->∀vb lb,qk vb lb->∀av w,av dj=va->av dk=vb->(∀t∈[dj,dk],t∉bW f1)->aQ β (h1++(la++(lb++Z))) w->kG P ops (NP Q) (aQ β S) l2 (fw N f1 av) w)
 (c:List (Bool×Nat×Nat)) (fr:Fr) (aB:List HP) (av:Nat->Value) (w:World) (hnd:bS (Bn c)=true) (ho:∀t∈[dj,dk],t∉bW fr) (hj:gJ P β N ops Q j dj (dj::(Bn c++[dk])) fr [] qj) (hk:gJ P β N ops Q k dk (dk::(Bn c++[dj])) fr [] qk) (hc:pH G P β N ops Q S [dj,dk] c fr aB R) (hg:G aB) (hS:aQ β (aB++Z) w):xY P ops (NP Q) (aQ β S) (oK j k l2 (GA c)) (fw N fr av) w:=by
 have aj:wpOp P ops (NP Q) j (λa' w'=>aQ β S w'/\xY P ops (NP Q) (aQ β S) (oJ k l2 (GA c)) a' w') (fw N fr av) w:=
  hj.at_ (X:=aB) hS (λv l j2 w' g1 g2 g3 g4=>⟨hG aB l w' hg g4,uT (D:=[dj]) (u:=j2) (Z:=l++Z) nh nh (by simpa using cG.symm) (λh X w hg hs=>hG h (X++l) w hg (by simpa using hs))
   (λf1 h1 k1 vb lb k2 av w k3 k4 k5 k6=>hK f1 h1 k1 v l g1 vb lb k2 av w ((k4 dj nh).trans g2) k3 k5 (ZP k6)) c fr aB j2 w' hnd ho hk hc (λ_ _=>rfl) hg g4⟩)
 have ak:wpOp P ops (NP Q) k (λa' w'=>aQ β S w'/\xY P ops (NP Q) (aQ β S) (oJ j l2 (GA c)) a' w') (fw N fr av) w:=
  hk.at_ (X:=aB) hS (λv l j2 w' g1 g2 g3 g4=>⟨hG aB l w' hg g4,uT (D:=[dk]) (u:=j2) (Z:=l++Z) nh nh (by simpa using cG) (λh X w hg hs=>hG h (X++l) w hg (by simpa using hs))
   (λf1 h1 k1 va la k2 av w k3 k4 k5 k6=>hK f1 h1 k1 va la k2 v l g1 av w k3 ((k4 dk nh).trans g2) k5 k6) c fr aB j2 w' hnd ho hj hc (λ_ _=>rfl) hg g4⟩)
 match c,hc with
 |[],_=>exact⟨aj,ak⟩
 |(false,i,d)::c,⟨⟨h1,h2⟩,q,h3,h4⟩=>
   obtain⟨n1,n2⟩:=Ju hnd
   have hm:∀x∈[dj,dk],d∉Bn c++[x]:=λx hx e=>(ahV.1 e).elim n1 (λe=>h2 (ah5.1 e ▸ hx))
   refine⟨h3.at_ (X:=[]) hS (λv' l j2 w' g1 g2 g3 g4=>⟨hG l [] w' (h4 v' l g1).1 g4,?_⟩),aj,ak⟩
   rw [wN g2 h1]
   exact EJ cG hG hK c _ l j2 w' n2 (kept h2 ho) (hj.grow h1 (show d≠dj from λe=>h2 (by simp [e])) (hm dk nh) v') (hk.grow h1 (show d≠dk from λe=>h2 (by simp [e])) (hm dj nh) v') (h4 v' l g1).2 (h4 v' l g1).1 g4
 |(true,i,d)::c,⟨⟨h1,h2⟩,o,v',h3,h4,h5,h6⟩=>
   obtain⟨n1,n2⟩:=Ju hnd
   have hm:∀x∈[dj,dk],d∉Bn c++[x]:=λx hx e=>(ahV.1 e).elim n1 (λe=>h2 (ah5.1 e ▸ hx))
   refine⟨o,v',h3,h5 av,?_⟩
   rw [h4,ij]
   exact EJ cG hG hK c _ aB av w n2 (kept h2 ho) (hj.grow h1 (show d≠dj from λe=>h2 (by simp [e])) (hm dk nh) v') (hk.grow h1 (show d≠dk from λe=>h2 (by simp [e])) (hm dj nh) v') h6 hg hS
termination_by c.length
theorem ad7 {pS:List Nat} (hn:bS pS=true) (hp:cR Z pS=some S) (h X:List HP) (w:World) (_:True) (hS:aQ β (h++(X++Z)) w):aQ β S w:=aQ.pick (ay:=pS) (l:=Z) (aQ.left (aQ.turn (a:=h++X) (by simpa using hS))) hn hp
theorem lK.beside {t:OT} {dj:Nat} {qj:Value->List HP->Prop} (G:List HP->Prop) (pk:List Nat) (c:List (Bool×Nat×Nat)) (hG:∀h X w,G h->aQ β (h++(X++Z)) w->aQ β S w) (hg:G pc) (hj:gJ P β N ops Q j dj (dj::(Bn c++[])) fr [] qj) (hc:pH G P β N ops Q S [dj] c fr pc R)
 (K:∀f1 h1,R f1 h1->∀v lp,qj v lp->eu P β N ops S l2 ((dj,v)::f1) (h1++(lp++Z)) Q)
 (hl:t=oJ j l2 (GA c):=by rfl) (hn:bS pk=true:=by rfl) (hp:cR aB pk=some (pc++Z):=by rfl) (hnd:bS (Bn c)=true:=by rfl) (hd:(!nB dj (bW fr) && !nB dj [])=true:=by rfl):lK P β N ops S t fr aB Q:=by
 intro av w hS
 subst hl
 refine uT (D:=[]) (u:=av) nh nh nh hG (λf1 h1 hr v lp hv av w a1 _ a3 a4=>?_) c fr pc av w hnd (by simpa using (R8 hd).1) hj hc nh hg (hS.pick hn hp)
 rw [wN a1 (a3 dj nh)]
 exact K f1 h1 hr v lp hv av w a4
theorem lK.one {t:OT} {dj:Nat} {qj:Value->List HP->Prop} (pS:List Nat) (c:List (Bool×Nat×Nat)) (hj:gJ P β N ops Q j dj (dj::(Bn c++[])) fr [] qj) (hc:dO P β N ops Q S [dj] c fr [] R)
 (K:∀f1 h1,R f1 h1->∀v lp,qj v lp->eu P β N ops S l2 ((dj,v)::f1) (h1++(lp++aB)) Q)
 (hl:t=oJ j l2 (GA c):=by rfl) (hn:bS pS=true:=by rfl) (hp:cR aB pS=some S:=by rfl) (hnd:bS (Bn c)=true:=by rfl) (hd:(!nB dj (bW fr) && !nB dj [])=true:=by rfl):lK P β N ops S t fr aB Q:=by
 intro av w hS
 subst hl
 refine uT (D:=[]) (u:=av) nh nh nh (ad7 hn hp) (λf1 h1 hr v lp hv av w a1 _ a3 a4=>?_) c fr [] av w hnd (by simpa using (R8 hd).1) hj hc nh trivial hS
 rw [wN a1 (a3 dj nh)]
 exact K f1 h1 hr v lp hv av w a4
theorem lK.both {t:OT} {dj dk:Nat} {qj qk:Value->List HP->Prop} (pS:List Nat) (c:List (Bool×Nat×Nat)) (hj:gJ P β N ops Q j dj (dj::(Bn c++[dk])) fr [] qj) (hk:gJ P β N ops Q k dk (dk::(Bn c++[dj])) fr [] qk) (hc:dO P β N ops Q S [dj,dk] c fr [] R)
 (K:∀f1 h1,R f1 h1->∀va la,qj va la->∀vb lb,qk vb lb->eu P β N ops S l2 ((dj,va)::(dk,vb)::f1) (h1++(la++(lb++aB))) Q)
 (hl:t=oK j k l2 (GA c):=by rfl) (hn:bS pS=true:=by rfl) (hp:cR aB pS=some S:=by rfl) (hnd:bS (Bn c)=true:=by rfl) (hd:(!nB dj (bW fr) && !nB dj [dk])=true:=by rfl) (hd2:(!nB dk (bW fr) && !nB dk [])=true:=by rfl):lK P β N ops S t fr aB Q:=by
 intro av w hS
 subst hl
 obtain⟨n1,n2⟩:=R8 hd
 have n3:=(R8 hd2).1
 have cG:dj≠dk:=by simpa using n2
 refine EJ cG (ad7 hn hp) (λf1 h1 hr va la ha vb lb hb av w a1 a2 a3 a4=>?_) c fr [] av w hnd (by simp [n1,n3]) hj hk hc trivial hS
 rw [wN a2 (a3 dk nh),wN a1 (fr:=(dk,vb)::f1) (λhm=>(ahK.1 (show dj∈dk::bW f1 from hm)).elim cG (a3 dj nh))]
 exact K f1 h1 hr va la ha vb lb hb av w a4
end bes
end mix
def jl (β:Bs) (Φ:Bs->Prop):eG where
 h F w:=∃β':Bs,β.le β'/\(∀k,β'.O k->β.O k\/F k)/\(∀k,F k->β'.O k)/\β'.w0.heap.size<=w.heap.size/\(∀k,F k->k<β'.w0.heap.size/\w.heap[k]?=β'.w0.heap[k]?)/\Φ β'
 lt:=λ⟨_,_,_,_,h4,h5,_⟩ k hk=>ahR (h5 k hk).1 h4
 st:=λ⟨β',h1,h2,h3,h4,h5,h6⟩ _ _ hk hs=>⟨β',h1,h2,h3,Pd h4 hk.size,λk hF=>⟨(h5 k hF).1,(hk.block k (ahR (h5 k hF).1 h4) (hs k hF)).trans (h5 k hF).2⟩,h6⟩
section GD
variable {P:Program} {β:Bs} {N:fN} {ops:Array Oper} {k:Nat} {fr:Fr} {aB fY:List HP} {Q:Post} {f:FuncId} {args:Array Value} {pre:List HP}
theorem bN.GD {ι:Type} {vv:ι->Value} {ll:ι->List HP} {Φ:ι->Bs->Prop} (h:bN P β f args pre (λβ' v l=>∃x,v=vv x/\l=ll x/\Φ x β')):aW P β f args pre (λv l=>∃x,v=vv x/\l=.abs (jl β (Φ x))::ll x):=by
 intro R w hS
 refine (h R w hS).mono ?_
 rintro e w' ⟨β',v,l,dV,he,⟨x,rfl,rfl,Rx⟩,ho,φ,h1,h2,h3⟩
 refine⟨vv x,_,he,⟨x,rfl,rfl⟩,ho.le dV,λi=>match i with
  |0=>λk=>β'.O k/\¬β.O k
  |i+1=>φ i,λi p hp=>?_,λi hi k hk hO=>?_,λi j hi hj cG k hk jw=>?_⟩
 ·cases i with
  |zero=>
    have hp:some (HP.abs (jl β (Φ x)))=some p:=hp
    cases hp
    exact⟨β',dV,λk hk=>(Classical.em (β.O k)).elim .inl (λhn=>.inr ⟨hk,hn⟩),λk hk=>hk.1,ho.size,λk hk=>ho.old k hk.1,Rx⟩
  |succ i=>exact h1 i p (by simpa using hp)
 ·cases i with
  |zero=>exact hk.2 hO
  |succ i=>exact h2 i (by simp at hi ⊢;omega) k hk (dV.O k hO)
 cases i with
 |zero=>
   cases j with
   |zero=>exact cG rfl
   |succ j=>exact h2 j (by simp at hj ⊢;omega) k jw hk.1
 |succ i=>
   cases j with
   |zero=>exact h2 i (by simp at hi ⊢;omega) k hk jw.1
   |succ j=>exact h3 i j (by simp at hi ⊢;omega) (by simp at hj ⊢;omega) d5 k hk jw
theorem aQ.sI {Φ:Bs->Prop} {l:List HP} {w:World} (h:aQ β (.abs (jl β Φ)::l) w):∃β':Bs,β.le β'/\Φ β'/\aQ β' l w:=by
 obtain⟨ho,φ,h1,h2,h3⟩:=h
 have hF:(jl β Φ).h (φ 0) w:=h1 0 _ rfl
 obtain⟨β',g1,g2,g3,g4,g5,g6⟩:=hF
 refine⟨β',g1,g6,⟨ho.os.trans g1.os.symm,ho.tape.trans g1.tape.symm,ho.output.trans g1.output.symm,g4,λk hk=>?_⟩,λj=>φ (j+1),λj p hp=>h1 (j+1) p (by simpa using hp),λj hj k hk hO=>?_,λa b ha hb cG=>h3 (a+1) (b+1) (by simp;omega) (by simp;omega) d5⟩
 ·rcases g2 k hk with hb|hb
  ·have e1:=g1.old k hb
   have e2:=ho.old k hb
   grind
  exact g5 k hb
 rcases g2 k hO with hb|hb
 ·exact h2 (j+1) (by simp;omega) k hk hb
 exact h3 (j+1) 0 (by simp;omega) nh d5 k hk hb
theorem aE.sI {Φ:Bs->Prop} (i:Nat) (ay:List Nat) (hp:aB[i]?=some (.abs (jl β Φ))) (hn:bS (i::ay)=true) (hl:cR aB ay=some fY)
 (K:∀β':Bs,β.le β'->Φ β'->aE P β' N ops k fr fY Q):aE P β N ops k fr aB Q:=λav w hS=>by
 obtain⟨β',g1,g2,g3⟩:=(hS.pick (ay:=i::ay) (l':=.abs (jl β Φ)::fY) hn (by simp only [cR,hp,hl])).sI
 exact K β' g1 g2 av w g3
theorem aW.Uj {Φ:Bs->Prop} {post:Value->List HP->Prop} (h:∀β':Bs,β.le β'->Φ β'->aW P β' f args pre post):aW P β f args (.abs (jl β Φ)::pre) post:=by
 intro R w hS
 obtain⟨β',g1,g2,g3⟩:=aQ.sI (l:=pre++[.abs R]) hS
 refine (h β' g1 g2 R w g3).mono ?_
 rintro e w' ⟨v,l,h1,h2,h3⟩
 exact⟨v,l,h1,h2,h3.Nj g1⟩
end GD
end
section
open Go.RowKit Go.Maps bw aI
theorem Uk (_:Nat) (f:cF):∀u∈jr f,u.oneCell'=true:=by
 intro u hu
 simp only [jr,ahK,List.not_mem_nil,or_false] at hu
 rcases hu with rfl|rfl<;>rfl
theorem ZQ (_:Nat) (a:cM):∀u∈kg a,u.oneCell'=true:=by
 intro u hu
 simp only [kg,ahK,List.not_mem_nil,or_false] at hu
 rcases hu with rfl|rfl|rfl|rfl|rfl<;>rfl
theorem Jv {α:Type} (f:α->List Value) (a:α) (ys:List α):dL f (ys++[a])=dL f ys++f a:=by
 have:∀(k:Nat) (ys:List α),fV (λ_ x=>f x) k (ys++[a])=fV (λ_ x=>f x) k ys++f a:=λk ys=>by
  induction ys generalizing k with
  |nil=>exact List.append_nil _
  |cons y r ih=>show f y++fV _ (k+1) (r++[a])=(f y++fV _ (k+1) r)++f a;rw [ih,ah1]
 exact this 0 ys
theorem LZ {α:Type} {f:α->List Value} {s:Nat} (hf:∀a,(f a).length=s):∀xs:List α,(dL f xs).length=xs.length*s:=λxs=>by
 have:∀(k:Nat) (xs:List α),(fV (λ_ x=>f x) k xs).length=xs.length*s:=λk xs=>by
  induction xs generalizing k with
  |nil=>simp [fV]
  |cons y r ih=>show (f y++fV _ (k+1) r).length=_;rw [T3,ih,hf,ahX,Nat.succ_mul,aiG]
 exact this 0 xs
structure AZ where
 A:Int->Option Addr
 c:Int->Nat
def AZ.none:AZ:=⟨λ_=>Option.none,λ_=>0⟩
def AZ.put (Z:AZ) (n:Int) (B:Option Addr) (k:Nat):AZ:=⟨λx=>if x=n then B else Z.A x,λx=>if x=n then k else Z.c x⟩
def aA (Z:AZ) (xs:List cM) (n:Int):Option Addr:=if dh xs n=[] then .none else Z.A n
def aC (Z:AZ) (xs:List cM) (n:Int):Nat:=if dh xs n=[] then 0 else Z.c n
def zz:Int->Nat
 |.ofNat n=>2*n
 |.negSucc n=>2*n+1
def GF (k:Nat):Int:=if k % 2=0 then .ofNat (k / 2) else .negSucc (k / 2)
def kD (Z:AZ) (xs:List cM):Lit->Option Value
 |.int .i64 n=>if dh xs n=[] then .none else some (.slice (aA Z xs n) (dh xs n).length (aC Z xs n))
 |_=>.none
def ic (fs:List cF):Lit->Option Value
 |.int .i64 n=>if iT fs n=0 then .none else some (.int .i64 (iT fs n))
 |_=>.none
abbrev H9 (Z:AZ) (xs:List cM) (n:Int):eG:=aK 133 5 (aA Z xs n) (dh xs n).length (aC Z xs n) (dL kg (dh xs n))
def sJ (Z:AZ) (xs:List cM) (k:Nat):eG:=if dh xs (GF k)=[] then eG.none else H9 Z xs (GF k)
def kW (β:Bs) (Z:AZ) (xs:List cM):Prop:=∀n,cE β (aA Z xs n) (dL kg (dh xs n))
section z
variable {Z:AZ} {xs:List cM} {n x:Int} {k c:Nat} {B:Option Addr} {a:cM} {β β':Bs} {l l':List HP} {w:World} {i j:Nat}
theorem OW:∀n,GF (zz n)=n
 |.ofNat n=>by show GF (2*n)=_;unfold GF;rw [t8 d5];exact zc Int.ofNat d5
 |.negSucc n=>by show GF (2*n+1)=_;unfold GF;rw [nw d5];exact zc Int.negSucc d5
theorem ad8 (k:Nat):zz (GF k)=k:=by
 unfold GF
 split
 ·show 2*(k / 2)=k;omega
 show 2*(k / 2)+1=k;omega
theorem kW.le (h:kW β Z xs) (g:β.le β'):kW β' Z xs:=λn=>(h n).le g
theorem Ia:(kD Z xs (.int .i64 n)).getD (.slice .none 0 0)=.slice (aA Z xs n) (dh xs n).length (aC Z xs n):=by
 unfold kD
 by_cases h:dh xs n=[]
 ·simp only
  rw [t8 h]
  unfold aA aC
  rw [t8 h,t8 h,h];rfl
 simp only
 rw [nw h];rfl
theorem L5 {fs:List cF}:(ic fs (.int .i64 n)).getD (.int .i64 0)=.int .i64 (iT fs n):=by
 unfold ic
 simp only
 split
 ·rename_i h;rw [h];rfl
 rfl
theorem ZR:kD Z []=λ_=>.none:=funext λl=>by
 unfold kD
 split<;>rfl
theorem WC:ic []=λ_=>.none:=funext λl=>by
 unfold ic
 split<;>rfl
theorem Bo {m:Int} (h:m≠a.at_):dh (xs++[a]) m=dh xs m:=by
 rw [xk,nw (λe=>h e.symm)]
theorem Bp:dh (xs++[a]) a.at_=dh xs a.at_++[a]:=by
 rw [xk,t8 rfl]
theorem abF {m:Int} (h:m≠a.at_):aA (Z.put a.at_ B c) (xs++[a]) m=aA Z xs m:=by
 unfold aA AZ.put
 rw [Bo h]
 simp only
 rw [nw h]
theorem abG {m:Int} (h:m≠a.at_):aC (Z.put a.at_ B c) (xs++[a]) m=aC Z xs m:=by
 unfold aC AZ.put
 rw [Bo h]
 simp only
 rw [nw h]
theorem abH:aA (Z.put a.at_ B c) (xs++[a]) a.at_=B:=by
 unfold aA AZ.put
 rw [Bp,nw nh]
 simp
theorem abI:aC (Z.put a.at_ B c) (xs++[a]) a.at_=c:=by
 unfold aC AZ.put
 rw [Bp,nw nh]
 simp
theorem R9 {f g:Lit->Option Value} {v:Option Value} (hv:g (.int .i64 n)=v) (ho:∀l,l≠.int .i64 n->g l=f l):p4 f (.int .i64 n) v=g:=funext λl=>by
 unfold p4
 by_cases h:l.sameKey (.int .i64 n)=true
 ·rw [t8 h]
  have:l=.int .i64 n:=by
   cases l with
   |int q a=>simp [Lit.sameKey] at h;obtain⟨rfl,rfl⟩:=h;rfl
   |_=>simp [Lit.sameKey] at h
  rw [this,hv]
 rw [nw h,ho l (λe=>h (by rw [e];simp [Lit.sameKey]))]
theorem ZS:p4 (kD Z xs) (.int .i64 a.at_) (some (.slice B ((dh xs a.at_).length+1) c))=kD (Z.put a.at_ B c) (xs++[a]):=by
 refine R9 ?_ (λl h=>?_)
 ·unfold kD
  simp only
  rw [Bp,nw nh,abH,abI,T3];rfl
 unfold kD
 split
 ·rename_i m
  have hm:m≠a.at_:=λe=>h (by rw [e])
  rw [Bo hm,abF hm,abG hm]
 rfl
theorem WD {fs:List cF} {f:cF} (h:FK f) (h0:iT fs f.at_=0):p4 (ic fs) (.int .i64 f.at_) (some (.int .i64 f.kind))=ic (fs++[f]):=by
 have hk:¬f.kind=0:=by have:=h.1;omega
 refine R9 ?_ (λl hl=>?_)
 ·unfold ic
  simp only
  have e:iT (fs++[f]) f.at_=f.kind:=by rw [sY,t8 h0,t8 (show f.at_=f.at_/\FK f from ⟨rfl,h⟩)]
  rw [e,nw hk]
 unfold ic
 split
 ·rename_i m
  have hm:¬(f.at_=m/\FK f):=λe=>hl (by rw [e.1])
  rw [sY,nw hm]
  by_cases h2:iT fs m=0
  ·rw [t8 h2,h2]
  rw [nw h2]
 rfl
theorem Dt {fs:List cF} {f:cF} (h:¬FK f\/iT fs f.at_≠0):ic (fs++[f])=ic fs:=funext λl=>by
 unfold ic
 split
 ·rename_i m
  have:iT (fs++[f]) m=iT fs m:=by
   rw [sY]
   by_cases h2:iT fs m=0
   ·rw [t8 h2,nw (λe=>?_),h2]
    rcases h with h|h
    ·exact h e.2
    exact h (by rw [e.1];exact h2)
   rw [nw h2]
  rw [this]
 rfl
theorem aQ.ad9 (h:aQ β l w):aQ β (l++[.abs (bp (sJ AZ.none []))]) w:=h.M6 _ (λ_=>t8 rfl)
theorem aQ.acQ (h:aQ β l w) (hp:l[i]?=some (.abs (bp (sJ Z xs)))) (n:Int):aQ β (l.set i (.abs (bp (pW (sJ Z xs) (zz n) eG.none)))++[.abs (H9 Z xs n)]) w:=by
 have h1:=h.I3 hp (zz n)
 by_cases e:dh xs n=[]
 ·have e2:H9 Z xs n=aK 133 5 .none 0 0 []:=by
   unfold H9 aA aC
   rw [t8 e,t8 e,e];rfl
  rw [e2]
  exact (aQ.left h1).nW (e:=133) (size:=5)
 have e2:sJ Z xs (zz n)=H9 Z xs n:=by
  unfold sJ
  rw [OW,nw e]
 rw [e2] at h1
 exact h1
theorem aQ.aea {ay:List Nat} (h:aQ β l w) (hp:l[i]?=some (.abs (bp (pW (sJ Z xs) (zz a.at_) eG.none)))) (hq:l[j]?=some (.abs (aK 133 5 B ((dh xs a.at_).length+1) c (dL kg (dh xs a.at_)++kg a)))) (hn:bS (i::j::ay)=true) (hl:cR l ay=some l') :
 aQ β (.abs (bp (sJ (Z.put a.at_ B c) (xs++[a])))::l') w:=by
 refine h.yP hp hq (λ_ _ h=>h) hn hl (zz a.at_) (λx hx=>?_) ?_
 ·have cG:GF x≠a.at_:=λe=>hx (by rw [←e,ad8])
  unfold pW
  rw [nw hx]
  unfold sJ H9
  rw [Bo cG,abF cG,abG cG]
 unfold sJ H9
 rw [OW,Bp,nw nh,abH,abI]
 rw [Jv,T3];rfl
theorem kW.of {F:Fp} (h:(HP.abs (bp (sJ Z xs))).h F w) (h1:∀k,F k->β.O k) (h2:β.w0=w):kW β Z xs:=λn=>by
 by_cases e:dh xs n=[]
 ·rw [e];exact λj v hj=>by simp [dL,fV] at hj
 obtain⟨φ,g1,_,g3⟩:=h
 have h3:=g1 (zz n)
 unfold sJ at h3
 rw [OW,nw e] at h3
 exact cE.iD h3 (λk hk=>h1 k ((g3 k).2 ⟨_,hk⟩)) h2
end z
theorem Du {xs:List cM} {i:Nat} (h:i<xs.length):xs.take (i+1)=xs.take i++[act xs i]:=by
 rw [ah4,y7 h];rfl
theorem wO {fs:List cF} {i:Nat} (h:i<fs.length):fs.take (i+1)=fs.take i++[pG fs i]:=by
 rw [ah4,F8 h];rfl
theorem WE {n:Nat} (h:n<=9223372036854775807):(Lit.int .i64 (n:Int)).wf=true:=by
 simp [Lit.wf,IntKind.min,IntKind.max,IntKind.signed,IntKind.bits]
 omega
theorem ZT {d:List UInt8} {m j:Nat} {v:Value} (h:(ez (d.take m))[j]?=some v):(ez d)[j]?=some v:=by
 unfold ez at h ⊢
 rw [List.getElem?_map] at h ⊢
 rw [List.getElem?_take] at h
 split at h
 ·exact h
 cases h
theorem Q9 {β:Bs} {c:aN} (h:qN β c):qN β {c with data:=c.data.take (c.data.length / 2)}:=⟨h.hw,h.ow,h.nm,h.tx,λj v hj=>h.da j v (ZT hj),by
 show (c.data.take _).length<=_
 rw [ahZ];have:=h.dl;omega,by
 show (c.data.take _).length<=c.dC
 rw [ahZ];have:=h.dc;omega,h.op⟩
structure WG where
 w:Nat
 o:Nat
 q:Nat
 am:Nat
 km:Nat
 an:Nat
 kn:Nat
 f:Nat
 m:Nat
 t:Nat
 Z:AZ
structure WV where
 L:HL
 A:Option Addr
 c:Nat
abbrev wB (w o f:Nat) (af:Int) (A:Option Addr) (n c:Nat):HP:=.aD w [.iface 37 (vP w),vP f,.iface 137 (vP o),.int .i64 af,.slice A n c] 60
abbrev oB (o q f:Nat) (af:Int) (am n:Nat):HP:=.aD o [.iface 138 (vP q),vP f,.int .i64 af,.map (some am),.int .i64 n] 142
abbrev qB (q f km n:Nat):HP:=.aD q [.iface 56 (vP f),.map (some km),.int .i64 n] 140
abbrev aM (am an:Nat) (Z:AZ) (xs:List cM):HP:=.abs (bK Tryz.prog 3 am (kD Z xs) an)
abbrev kM (km kn:Nat) (fs:List cF):HP:=.abs (bK Tryz.prog 3 km (ic fs) kn)
abbrev tR (A:Option Addr) (c:Nat) (tr:List aN):HP:=.abs (aK 63 13 A tr.length c (dL bA tr))
abbrev wP (G:WG) (fs:List cF) (xs:List cM) (af:Int) (S:bg) (V:WV) (tr:List aN):List HP:=[wB G.w G.o G.f af V.A tr.length V.c,oB G.o G.q G.f af G.am tr.length,qB G.q G.f G.km tr.length,aM G.am G.an G.Z xs,kM G.km G.kn fs,tR V.A V.c tr]++pA G.f G.m G.t V.L S
def wA (G:WG) (fs:List cF) (xs:List cM) (af:Int) (S:bg) (V:WV) (tr:List aN):HP:=.abs (gq (wP G fs xs af S V tr))
def agy (β:Bs) (tr:List aN):Prop:=∀c∈tr,ck β c.dA c.data/\c.data.length<=1048576
theorem aW.one {P:Program} {β:Bs} {f:FuncId} {args:Array Value} {pre:List HP} {post:Value->List HP->Prop} (h:aW P β f args pre post):aW P β f args [.abs (gq pre)] (λv l=>∃l0,post v l0/\l=[.abs (gq l0)]):=by
 intro R w hS
 have h1:aQ β ([.abs R]++[.abs (gq pre)]) w:=aQ.turn hS
 refine (h R w (aQ.turn h1.rP)).mono ?_
 rintro e w' ⟨v,l,h2,h3,h4⟩
 exact⟨v,[.abs (gq l)],h2,⟨l,h3,rfl⟩,aQ.turn (aQ.gq (aQ.turn h4))⟩
theorem bN.one {P:Program} {β:Bs} {f:FuncId} {args:Array Value} {pre:List HP} {post:Bs->Value->List HP->Prop} (h:bN P β f args pre post):bN P β f args [.abs (gq pre)] (λβ' v l=>∃l0,post β' v l0/\l=[.abs (gq l0)]):=by
 intro R w hS
 have h1:aQ β ([.abs R]++[.abs (gq pre)]) w:=aQ.turn hS
 refine (h R w (aQ.turn h1.rP)).mono ?_
 rintro e w' ⟨β',v,l,dV,h2,h3,h4⟩
 exact⟨β',v,[.abs (gq l)],dV,h2,⟨l,h3,rfl⟩,aQ.turn (aQ.gq (aQ.turn h4))⟩
theorem aF.sI {β:Bs} {N:fN} {Q:Post} {e:Exit} {fr:Fr} {aB fY:List HP} {Φ:Bs->Prop} (i:Nat) (ay:List Nat) (hp:aB[i]?=some (.abs (jl β Φ))) (hn:bS (i::ay)=true) (hl:cR aB ay=some fY) (K:∀β':Bs,β.le β'->Φ β'->aF β' N Q e fr fY):aF β N Q e fr aB:=λav w hS=>by
 obtain⟨β',g1,g2,g3⟩:=(hS.pick (ay:=i::ay) (l':=.abs (jl β Φ)::fY) hn (by simp only [cR,hp,hl])).sI
 exact K β' g1 g2 av w g3
theorem bN.Uj {P:Program} {β:Bs} {f:FuncId} {args:Array Value} {pre:List HP} {Φ:Bs->Prop} {post:Bs->Value->List HP->Prop} (h:∀β':Bs,β.le β'->Φ β'->bN P β' f args pre post):bN P β f args (.abs (jl β Φ)::pre) post:=by
 intro A w hS
 obtain⟨β',g1,g2,g3⟩:=aQ.sI (l:=pre++[.abs A]) hS
 refine (h β' g1 g2 A w g3).mono ?_
 rintro e w' ⟨β'',v,l,dV,h2⟩
 exact⟨β'',v,l,g1.trans dV,h2⟩
theorem bN.aeb {P:Program} {β:Bs} {f:FuncId} {args:Array Value} {R:List HP} {post:Bs->Value->List HP->Prop} (h:∀β':Bs,oF β R β'->bN P β' f args [] post):bN P β f args R post:=by
 intro A w hS
 have h4:aQ β ([.abs A]++R) w:=aQ.turn hS
 obtain⟨β',g1,_,g3⟩:=h4.uf
 refine (h β' g1 A w g3).mono ?_
 rintro e w' ⟨β'',v,l,dV,h2⟩
 exact⟨β'',v,l,g1.le.trans dV,h2⟩
theorem bN.OX {P:Program} {β:Bs} {f:FuncId} {args:Array Value} {pre:List HP} {post:Value->List HP->Prop} (h:bN P β f args pre (λ_ v l=>post v l)):aW P β f args pre post:=by
 intro A w hS
 refine (h A w hS).mono ?_
 rintro e w' ⟨β',v,l,dV,h2,h3,h4⟩
 exact⟨v,l,h2,h3,h4.Nj dV⟩
theorem bN.aec {P:Program} {β:Bs} {f:FuncId} {args:Array Value} {pre:List HP} {post post':Bs->Value->List HP->Prop} (h:bN P β f args pre post) (hp:∀β' v l,post β' v l->(l=[]/\post' β' v [])\/post' β' v [.abs (gq l)]):bN P β f args pre post':=by
 intro R w hS
 refine (h R w hS).mono ?_
 rintro e w' ⟨β',v,l,dV,h2,h3,h4⟩
 rcases hp β' v l h3 with ⟨rfl,h5⟩|h5
 ·exact⟨β',v,[],dV,h2,h5,h4⟩
 exact⟨β',v,[.abs (gq l)],dV,h2,h5,aQ.turn (aQ.gq (aQ.turn h4))⟩
end
section
open Go.RowKit
section
variable {O:eE} {k:Nat} {kd:Int}
theorem Dv (L:HL) (h:(ah O k).kind=kd) (h0:kd≠0:=by decide):∀F w,(bp (fQ O L)).h F w->w.cell? ⟨L.b k,0,none⟩=some (.int .i64 (ah O k).id):=kZ (by rw [h];exact h0) rfl
theorem Jw (L:HL) (h:(ah O k).kind=kd) (h0:kd≠0:=by decide):∀F w,(bp (fQ O L)).h F w->w.cell? ⟨L.b k,1,none⟩=some (.int .i64 (ah O k).mode):=kZ (by rw [h];exact h0) rfl
theorem Ul (L:HL) (h:(ah O k).kind=kd) (h0:kd≠0:=by decide):∀F w,(bp (fQ O L)).h F w->w.cell? ⟨L.b k,2,none⟩=some (.int .i64 (ah O k).cO):=kZ (by rw [h];exact h0) rfl
theorem Um (L:HL) (h:(ah O k).kind=kd) (h0:kd≠0:=by decide):∀F w,(bp (fQ O L)).h F w->w.cell? ⟨L.b k,3,none⟩=some (.int .i64 (ah O k).cQ):=kZ (by rw [h];exact h0) rfl
theorem sZ (L:HL) (h:(ah O k).kind=kd) (h0:kd≠0:=by decide):∀F w,(bp (fQ O L)).h F w->w.cell? ⟨L.b k,6,none⟩=some (.int .i64 (ah O k).aU):=kZ (by rw [h];exact h0) rfl
theorem qQ (L:HL) (h:(ah O k).kind=kd) (h0:kd≠0:=by decide):∀F w,(bp (fQ O L)).h F w->w.cell? ⟨L.b k,7,none⟩=some (.int .i64 (ah O k).aR):=kZ (by rw [h];exact h0) rfl
theorem xZ (L:HL) (h:(ah O k).kind=kd) (h0:kd≠0:=by decide):∀F w,(bp (fQ O L)).h F w->w.cell? ⟨L.b k,8,none⟩=some (.bool (ah O k).aJ):=kZ (by rw [h];exact h0) rfl
theorem OY (L:HL) (h:(ah O k).kind=1):∀F w,(bp (fQ O L)).h F w->w.cell? ⟨L.b k,9,none⟩=some (.slice (L.dA k) (ah O k).data.length (L.dC k)):=kZ (by rw [h];decide) (by rw [xJ h];rfl)
theorem eF (L:HL) (h:(ah O k).kind=2):∀F w,(bp (fQ O L)).h F w->w.cell? ⟨L.b k,9,none⟩=some (.map (some (L.m k))):=kZ (by rw [h];decide) (by rw [uh h];rfl)
theorem agz (L:HL) (h:(ah O k).kind=2):∀F w,(bp (fQ O L)).h F w->w.cell? ⟨L.b k,10,none⟩=some (LH L (ah O k).up):=kZ (by rw [h];decide) (by rw [uh h];rfl)
theorem afP (L:HL) (h:(ah O k).kind=3):∀F w,(bp (fQ O L)).h F w->w.cell? ⟨L.b k,9,none⟩=some (.string (ah O k).target):=kZ (by rw [h];decide) (by rw [Es h];rfl)
end
end
section
open Go.RowKit Go.Maps
theorem bp.step {R R':Nat->eG} {k:Nat} {F:Fp} {w w':World} (hF:(bp R).h F w) (hR:∀x,x≠k->R' x=R x) (hs:∀G,(R k).h G w->∃G',(R' k).h G' w'/\Step G w G' w'):∃F',(bp R').h F' w'/\Step F w F' w':=by
 obtain⟨φ,h1,h2,h3⟩:=hF
 obtain⟨G',g1,st⟩:=hs _ (h1 k)
 have hap:∀i,i≠k->∀x,G' x->φ i x->False:=λi cG x hx hy=>by
  rcases st.grow x hx with e|e
  ·exact h2 i k cG x hy e
  have:=(R i).lt (h1 i) x hy;omega
 refine⟨λx=>∃i,(if i=k then G' else φ i) x,⟨λi=>if i=k then G' else φ i,λi=>?_,λi j cG x hx hy=>?_,λx=>Iff.rfl⟩,⟨st.keeps.mono (λx _ hx=>(h3 x).2 ⟨k,hx⟩),λx ⟨i,hx⟩=>?_⟩⟩
 ·by_cases e:i=k
  ·subst e;simp only [if_true];exact g1
  simp only [e,if_false]
  rw [hR i e]
  exact (R i).st (h1 i) st.keeps (λx hx hk=>h2 i k e x hx hk)
 ·by_cases e1:i=k
  ·grind
  simp only [e1,if_false] at hx
  by_cases e2:j=k
  ·grind
  simp only [e2,if_false] at hy
  exact h2 i j cG x hx hy
 by_cases e:i=k
 ·simp only [e,if_true] at hx
  rcases st.grow x hx with h|h
  ·exact .inl ((h3 x).2 ⟨k,h⟩)
  exact .inr h
 grind
def KM (O:eE) (L:HL):Nat->HP
 |0=>.abs (bp (fQ O L))
 |1=>.abs (bp (ig O L))
 |_=>.abs (bp (eX O L))
def wQ (O:eE) (L:HL):List (Nat×Nat)->List (Nat×HP)
 |[]=>[]
 |q::r=>(q.1,KM O L q.2)::wQ O L r
def Bq (aB:List HP) (O:eE) (L:HL):List (Nat×Nat)->Prop
 |[]=>True
 |q::r=>aB[q.1]?=some (KM O L q.2)/\Bq aB O L r
theorem CG {aB:List HP} {O O2:eE} {L:HL} {p:Nat} (he:∀q,q≠p->KM O2 L q=KM O L q):∀{js:List (Nat×Nat)},Bq aB O L js->nB p (js.map (·.2))=false->sO aB (wQ O2 L js)=aB
 |[],_,_=>rfl
 |q::r,h,hn=>by
   have hq:q.2≠p:=λe=>by
    rw [show nB p ((q::r).map (·.2))=true from tu.2 (by simp [e])] at hn;cases hn
   have hr:nB p (r.map (·.2))=false:=by
    cases hb:nB p (r.map (·.2)) with
    |false=>rfl
    |true=>rw [show nB p ((q::r).map (·.2))=true from tu.2 (T4 _ (tu.1 hb))] at hn;cases hn
   show sO (aB.set q.1 (KM O2 L q.2)) (wQ O2 L r)=aB
   have e:aB.set q.1 (KM O2 L q.2)=aB:=by
    rw [he _ hq]
    refine List.ext_getElem? (λn=>?_)
    rw [List.getElem?_set]
    split
    ·rename_i e;subst e
     rw [h.1];split
     ·rfl
     rename_i fT;exact KB (dG h.1) fT
    rfl
   rw [e]
   exact CG he h.2 hr
def Jx (P:Program) (N:fN) (av:Nat->Value) (ops:Array Oper) (fr:Fr) (k:Nat):Option (Addr×Value):=
 match iQ N av ops fr k with
 |some (.store T a y,_)=>match (P.info? T).map (·.size) with
   |some 1=>match fe N fr av a with
     |.pointer (some ad)=>some (ad,fe N fr av y)
     |_=>none
   |_=>none
 |_=>none
def Jy (N:fN) (av:Nat->Value) (ops:Array Oper) (fr:Fr) (k:Nat):Option (TypeId×Nat×Value):=
 match iQ N av ops fr k with
 |some (.lookup t x ix false,_)=>match fe N fr av x with
   |.map (some b)=>some (t,b,fe N fr av ix)
   |_=>none
 |_=>none
def setAt (N:fN) (av:Nat->Value) (ops:Array Oper) (fr:Fr) (k:Nat):Option (TypeId×Nat×Value×Value):=
 match iQ N av ops fr k with
 |some (.mapUpdate t x ix y,_)=>match fe N fr av x with
   |.map (some b)=>some (t,b,fe N fr av ix,fe N fr av y)
   |_=>none
 |_=>none
def Un (N:fN) (av:Nat->Value) (ops:Array Oper) (fr:Fr) (k:Nat):Option (TypeId×TypeId×Nat×Value):=
 match iQ N av ops fr k with
 |some (.call ⟨.builtin .delete,xs,ts⟩,_)=>match xs.toList with
   |[x,ix]=>match ts.toList with
     |[t,K]=>match fe N fr av x with
       |.map (some b)=>some (t,K,b,fe N fr av ix)
       |_=>none
     |_=>none
   |_=>none
 |_=>none
def OZ (L:HL):Option Th->Value
 |none=>.nilIface
 |some t=>jg L t
section rules
variable {β:Bs} {N:fN} {ops:Array Oper} {k x:Nat} {fr:Fr} {aB:List HP} {Q:Post} {O:eE} {L:HL} {name:ByteArray} {r:Option Th} {t:Th}
theorem CH {av:Nat->Value} {op:Op} {d:Option Tmp} (h:iQ N av ops fr k=some (op,d)):d=jE ops k:=by
 grind [iW,jE]
theorem O0 {P:Program} {av:Nat->Value} {ad:Addr} {u:Value} (h:Jx P N av ops fr k=some (ad,u)):∃T a y,iQ N av ops fr k=some (.store T a y,jE ops k)/\(P.info? T).map (·.size)=some 1/\fe N fr av a=.pointer (some ad)/\fe N fr av y=u:=by
 grind [Jx,CH]
theorem uU {av:Nat->Value} {T:TypeId} {b:Nat} {key:Value} (h:Jy N av ops fr k=some (T,b,key)):∃a y,iQ N av ops fr k=some (.lookup T a y false,jE ops k)/\fe N fr av a=.map (some b)/\fe N fr av y=key:=by
 grind [Jy,CH]
theorem ZU {av:Nat->Value} {T:TypeId} {b:Nat} {key u:Value} (h:setAt N av ops fr k=some (T,b,key,u)):∃a y z,iQ N av ops fr k=some (.mapUpdate T a y z,jE ops k)/\fe N fr av a=.map (some b)/\fe N fr av y=key/\fe N fr av z=u:=by
 grind [setAt,CH]
theorem WH {P:Program} {T:TypeId} {a y:Operand} {o:Oper} {ev:Operand->Value} {w:World} {ad:Addr} {u v0:Value} (ho:o.op=.store T a y) (hT:(P.info? T).map (·.size)=some 1) (ha:ev a=.pointer (some ad)) (hy:ev y=u) (hu:u.oneCell'=true) (hc:w.cell? ad=some v0) (hf:w.frozen? ad=false) (hs:ad.spot=none):sx P ev o w undef (w.setCell ad u):=by
 obtain⟨inf,hi,eT⟩:∃inf,P.info? T=some inf/\inf.size=1:=by
  cases h:P.info? T with
  |none=>rw [h] at hT;cases hT
  |some inf=>rw [h] at hT;exact⟨inf,rfl,by simpa using hT⟩
 have h3:=r8 hi w
 rw [eT] at h3
 obtain⟨dst,op,type,pos,after,guard⟩:=o
 obtain⟨bk,off,spot⟩:=ad
 simp only at hs
 subst hs
 cases ho
 refine .inr ⟨rfl,?_⟩
 cases u<;>first
  |(simp [Value.oneCell'] at hu;done)
  |(simp only [execOp,ha,hy];simp [go_sem,Instr.storeAt,Instr.sureAddr,storeVar,h3,Value.cells,storeCells,store,Addr.add,Sem.run,hc,hf])
theorem oSt (i:Nat) (js:List (Nat×Nat)) (x j:Nat) (f:bT->bT) (u:Value) {kd:Int} (hk:(ah O x).kind=kd)
 (K:∀O2,O2=bE O x f->aE Tryz.prog β N ops (k+1) (eU fr (jE ops k) undef) ((sO aB (wQ O2 L js)).set i (.abs (bp (fQ O2 L)))) Q)
 (hp:aB[i]?=some (.abs (bp (fQ O L)))) (hj:Bq aB O L js)
 (ho:∀av,Jx Tryz.prog N av ops fr k=some (⟨L.b x,j,none⟩,u))
 (hn:nB 0 (js.map (·.2))=false) (h0:kd≠0) (hc:lY L x (f (ah O x))=(lY L x (ah O x)).set j u) (hu:u.oneCell'=true) (h9:j<(lY L x (ah O x)).length)
 (he:(f (ah O x)).aq=(ah O x).aq) (hd:(f (ah O x)).data=(ah O x).data) (Br:(f (ah O x)).kind=(ah O x).kind):aE Tryz.prog β N ops k fr aB Q:=by
 obtain⟨T,a,y,h1,h2,h3,h4⟩:=O0 (ho (λ_=>undef))
 intro av w hS
 obtain⟨T,a,y,h1,h2,h3,h4⟩:=O0 (ho av)
 obtain⟨o,g1,g2,g3,g4⟩:=iW h1
 have hx0:(ah O x).kind≠0:=by rw [hk];exact h0
 have O3:sO aB (wQ (bE O x f) L js)=aB:=CG (p:=0) (λq hq=>by
  match q,hq with
  |0,hq=>exact KB rfl hq
  |1,_=>exact zc (λR=>HP.abs (bp R)) (FL he Br)
  |q+2,_=>exact zc (λR=>HP.abs (bp R)) (FJ hd Br)) hj hn
 have hcell:∃v0,(lY L x (ah O x))[j]?=some v0:=lg h9
 obtain⟨v0,hv0⟩:=hcell
 obtain⟨F,hF⟩:=hS.get hp
 obtain⟨G,hG⟩:=bp.at x hF
 have hG2:=hG
 rw [rH hx0] at hG2
 obtain⟨hb,_⟩:=hG2
 obtain⟨c1,c2⟩:=lq (a:=⟨L.b x,j,none⟩) hb rfl rfl hv0
 have yD:aQ β (aB.set i (.abs (bp (fQ (bE O x f) L)))) (w.setCell ⟨L.b x,j,none⟩ (u)):=hS.set hp (λF hF=>bp.step (k:=x) (show (bp (fQ O L)).h F w from hF) (λy hy=>I4 hy) (λG hG=>by
  rw [rH hx0] at hG
  rw [FI,nw (by rw [Br];exact hx0),hc,Br]
  exact zh hG rfl rfl))
 rw [drop_cons g1]
 unfold wpList
 rw [iC,t8 g2]
 refine .inl (p5 (v:=undef) (w':=w.setCell ⟨L.b x,j,none⟩ (u)) (by rw [jd];grind [WH]) ?_)
 rw [ij]
 have hK:=K _ rfl av _ (by rw [O3];exact yD)
 rw [←g4] at hK
 exact hK
theorem Bt (i:Nat) (js:List (Nat×Nat)) (x j:Nat) (f:bT->bT) {kd:Int} (hk:(ah O x).kind=kd)
 (K:∀O2,O2=bE O x f->aE Tryz.prog β N ops (k+1) (eU fr (jE ops k) undef) ((sO aB (wQ O2 L js)).set i (.abs (bp (fQ O2 L)))) Q)
 (hp:aB[i]?=some (.abs (bp (fQ O L))):=by rfl) (hj:Bq aB O L js:=by first|exact⟨rfl,trivial⟩|exact⟨rfl,rfl,trivial⟩|exact trivial)
 (ho:∀av,Jx Tryz.prog N av ops fr k=some (⟨L.b x,j,none⟩,(FE (f (ah O x))).getD j undef):=by intro _;kernel_rfl)
 (hn:nB 0 (js.map (·.2))=false:=by rfl) (h0:kd≠0:=by decide) (hc:lY L x (f (ah O x))=(lY L x (ah O x)).set j ((FE (f (ah O x))).getD j undef):=by rfl) (hu:((FE (f (ah O x))).getD j undef).oneCell'=true:=by rfl) (h9:Nat.blt j 9=true:=by rfl)
 (he:(f (ah O x)).aq=(ah O x).aq:=by rfl) (hd:(f (ah O x)).data=(ah O x).data:=by rfl) (Br:(f (ah O x)).kind=(ah O x).kind:=by rfl):aE Tryz.prog β N ops k fr aB Q:=
 oSt i js x j f _ hk K hp hj ho hn h0 hc hu (ahR (show j<9 by simpa [Nat.blt_eq] using h9) (by unfold lY FE;simp)) he hd Br
theorem uSt (i:Nat) (js:List (Nat×Nat)) (x:Nat) (y:Option Nat) (hk:(ah O x).kind=2)
 (K:∀O2,O2=bE O x (λo=>{o with up:=y})->aE Tryz.prog β N ops (k+1) (eU fr (jE ops k) undef) ((sO aB (wQ O2 L js)).set i (.abs (bp (fQ O2 L)))) Q)
 (hp:aB[i]?=some (.abs (bp (fQ O L))):=by rfl) (hj:Bq aB O L js:=by first|exact⟨rfl,trivial⟩|exact⟨rfl,rfl,trivial⟩|exact trivial)
 (ho:∀av,Jx Tryz.prog N av ops fr k=some (⟨L.b x,10,none⟩,LH L y):=by intro _;kernel_rfl) (hn:nB 0 (js.map (·.2))=false:=by rfl):aE Tryz.prog β N ops k fr aB Q:=
 oSt i js x 10 (λo=>{o with up:=y}) (LH L y) hk K hp hj ho hn d8 (by rw [uh (show ({ah O x with up:=y}:bT).kind=2 from hk),uh hk];rfl) (by cases y<;>rfl) (by rw [uh hk];exact ah0 10) rfl rfl rfl
theorem aQ.abJ {w:World} {i j:Nat} {f:bT->bT} {u:Value} (hS:aQ β aB w) (hp:aB[i]?=some (.abs (bp (fQ O L)))) (hx0:(ah O x).kind≠0) (hc:lY L x (f (ah O x))=(lY L x (ah O x)).set j u) (Br:(f (ah O x)).kind=(ah O x).kind) (h9:j<(lY L x (ah O x)).length) :
 aQ β (aB.set i (.abs (bp (fQ (bE O x f) L)))) (w.setCell ⟨L.b x,j,none⟩ u)/\(∃v0,w.cell? ⟨L.b x,j,none⟩=some v0)/\w.frozen? ⟨L.b x,j,none⟩=false:=by
 obtain⟨v0,hv0⟩:=lg h9
 obtain⟨F,hF⟩:=hS.get hp
 obtain⟨G,hG⟩:=bp.at x (show (bp (fQ O L)).h F w from hF)
 rw [rH hx0] at hG
 obtain⟨c1,c2⟩:=lq (a:=⟨L.b x,j,none⟩) hG.1 rfl rfl hv0
 refine⟨hS.set hp (λF hF=>bp.step (k:=x) (show (bp (fQ O L)).h F w from hF) (λy hy=>I4 hy) (λG hG=>?_)),⟨v0,c1⟩,c2⟩
 rw [rH hx0] at hG
 rw [FI,nw (by rw [Br];exact hx0),hc,Br]
 exact zh hG rfl rfl
def O4 (P:Program) (N:fN) (av:Nat->Value) (ops:Array Oper) (fr:Fr) (k:Nat):Option (Addr×Value):=
 match iQ N av ops fr k with
 |some (.store T a y,_)=>match (P.info? T).map (·.size) with
   |some 2=>match fe N fr av a with
     |.pointer (some ad)=>some (ad,fe N fr av y)
     |_=>none
   |_=>none
 |_=>none
theorem WI {P:Program} {av:Nat->Value} {ad:Addr} {u:Value} (h:O4 P N av ops fr k=some (ad,u)):∃T a y,iQ N av ops fr k=some (.store T a y,jE ops k)/\(P.info? T).map (·.size)=some 2/\fe N fr av a=.pointer (some ad)/\fe N fr av y=u:=by
 grind [O4,CH]
theorem Uo {P:Program} {T:TypeId} {a y:Operand} {o:Oper} {ev:Operand->Value} {w:World} {b j:Nat} {z1 z2:Int} {v0 v1:Value} (ho:o.op=.store T a y) (hT:(P.info? T).map (·.size)=some 2) (ha:ev a=.pointer (some ⟨b,j,none⟩)) (hy:ev y=.agg #[.int .i64 z1,.int .i64 z2])
 (hc:w.cell? ⟨b,j,none⟩=some v0) (hf:w.frozen? ⟨b,j,none⟩=false) (hc1:(w.setCell ⟨b,j,none⟩ (.int .i64 z1)).cell? ⟨b,j+1,none⟩=some v1) (hf1:(w.setCell ⟨b,j,none⟩ (.int .i64 z1)).frozen? ⟨b,j+1,none⟩=false) :
 sx P ev o w undef ((w.setCell ⟨b,j,none⟩ (.int .i64 z1)).setCell ⟨b,j+1,none⟩ (.int .i64 z2)):=by
 obtain⟨inf,hi,eT⟩:∃inf,P.info? T=some inf/\inf.size=2:=by
  cases h:P.info? T with
  |none=>rw [h] at hT;cases hT
  |some inf=>rw [h] at hT;exact⟨inf,rfl,by simpa using hT⟩
 have h3:=r8 hi w
 rw [eT] at h3
 obtain⟨dst,op,type,pos,after,guard⟩:=o
 cases ho
 refine .inr ⟨rfl,?_⟩
 simp only [execOp,ha,hy]
 simp [go_sem,Instr.storeAt,Instr.sureAddr,storeVar,h3,Value.cells,storeCells,store,Addr.add,Sem.run,hc,hf,hc1,hf1]
theorem WJ (i:Nat) (js:List (Nat×Nat)) (x:Nat) (z1 z2:Int) {kd:Int} (hk:(ah O x).kind=kd)
 (K:∀O2,O2=bE O x (λo=>{o with bJ:=z1,bh:=z2})->aE Tryz.prog β N ops (k+1) (eU fr (jE ops k) undef) ((sO aB (wQ O2 L js)).set i (.abs (bp (fQ O2 L)))) Q)
 (hp:aB[i]?=some (.abs (bp (fQ O L))):=by rfl) (hj:Bq aB O L js:=by first|exact⟨rfl,trivial⟩|exact⟨rfl,rfl,trivial⟩|exact trivial)
 (ho:∀av,O4 Tryz.prog N av ops fr k=some (⟨L.b x,4,none⟩,.agg #[.int .i64 z1,.int .i64 z2]):=by intro _;kernel_rfl)
 (hn:nB 0 (js.map (·.2))=false:=by rfl) (h0:kd≠0:=by decide):aE Tryz.prog β N ops k fr aB Q:=by
 intro av w hS
 obtain⟨T,a,y,h1,h2,h3,h4⟩:=WI (ho av)
 obtain⟨o,g1,g2,g3,g4⟩:=iW h1
 have hx0:(ah O x).kind≠0:=by rw [hk];exact h0
 have O3:sO aB (wQ (bE O x (λo=>{o with bJ:=z1,bh:=z2})) L js)=aB:=CG (p:=0) (λq hq=>by
  match q,hq with
  |0,hq=>exact KB rfl hq
  |1,_=>exact zc (λR=>HP.abs (bp R)) (FL rfl rfl)
  |q+2,_=>exact zc (λR=>HP.abs (bp R)) (FJ rfl rfl)) hj hn
 have jT:∀o:bT,9<=(lY L x o).length:=λo=>by unfold lY FE;simp
 obtain⟨s1,⟨v0,c1⟩,f1⟩:=hS.abJ (x:=x) (j:=4) (f:=λo=>{o with bJ:=z1}) (u:=.int .i64 z1) hp hx0 rfl rfl (by have:=jT (ah O x);omega)
 have hi:i<aB.length:=dG hp
 have e1:ah (bE O x (λo=>{o with bJ:=z1})) x={ah O x with bJ:=z1}:=iq
 obtain⟨s2,⟨v1,c2⟩,f2⟩:=s1.abJ (x:=x) (j:=5) (f:=λo=>{o with bh:=z2}) (u:=.int .i64 z2) (i:=i) (O:=bE O x (λo=>{o with bJ:=z1})) (by rw [List.getElem?_set,t8 rfl,t8 hi]) (by rw [e1];exact hx0) rfl rfl gn
 rw [List.set_set,Ep] at s2
 rw [drop_cons g1]
 unfold wpList
 rw [iC,t8 g2]
 refine .inl (p5 (v:=undef) (w':=_) (by rw [jd];exact Uo g3 h2 h3 h4 c1 f1 c2 f2) ?_)
 rw [ij]
 have hK:=K _ rfl av _ (by rw [O3];exact s2)
 rw [←g4] at hK
 exact hK
theorem F9 {w:World} {i:Nat} (hS:aQ β aB w) (hp:aB[i]?=some (.abs (bp (ig O L)))) (hd:(ah O x).kind=2):kH Tryz.prog 9 w (L.m x) (nI L (ah O x).aq) (ah O x).aq.length:=by
 obtain⟨F,hF⟩:=hS.get hp
 obtain⟨G,hG⟩:=bp.at x (show (bp (ig O L)).h F w from hF)
 rw [uN hd] at hG
 exact hG.1
theorem Sd {w:World} {i:Nat} {o:Oper} {ev:Operand->Value} {a y:Operand} (hS:aQ β aB w) (hp:aB[i]?=some (.abs (bp (ig O L)))) (hd:(ah O x).kind=2) (hl:bF name (ah O x).aq=r) (h3:o.op=.lookup 195 a y false) (ha:ev a=.map (some (L.m x))) (hy:ev y=.string name) (eT:name.size<=1048576):sx Tryz.prog ev o w (OZ L r) w:=by
 have h:=C0 (z:=.nilIface) h3 (F9 hS hp hd) ha hy Hy Tryz.underlying195 d6 (Kl d5)
 rw [y4,hl] at h
 cases r<;>exact h
theorem mX (i:Nat) (hd:(ah O x).kind=2) (hl:bF name (ah O x).aq=r) (K:aE Tryz.prog β N ops (k+1) (eU fr (jE ops k) (OZ L r)) aB Q) (hp:aB[i]?=some (.abs (bp (ig O L))):=by rfl)
 (ho:∀av,Jy N av ops fr k=some (195,L.m x,.string name):=by intro _;kernel_rfl) (eT:name.size<=1048576:=by omega):aE Tryz.prog β N ops k fr aB Q:=by
 intro av w hS
 obtain⟨a,y,h1,h2,h3⟩:=uU (ho av)
 exact aE.nQ (fY:=aB) (v:=OZ L r) (d:=jE ops k) (op:=.lookup 195 a y false) (λj=>by
  obtain⟨a',y',h1',_,_⟩:=uU (ho j)
  obtain⟨o,g1,g2,g3,g4⟩:=iW h1
  obtain⟨o',Bu,g2',CI,g4'⟩:=iW h1'
  rw [g1] at Bu
  cases Bu
  rw [g3] at CI
  cases CI
  exact h1') (λo av w ho' hS=>by
  obtain⟨a',y',h1',h2',h3'⟩:=uU (ho av)
  obtain⟨o1,g1,g2,g3,g4⟩:=iW h1
  obtain⟨o',Bu,g2',CI,g4'⟩:=iW h1'
  rw [g1] at Bu
  cases Bu
  rw [g3] at CI
  cases CI
  exact⟨w,Sd hS hp hd hl ho' h2' h3' eT,hS⟩) K av w hS
theorem eLq (i:Nat) (hd:(ah O x).kind=2) (hl:bF name (ah O x).aq=r) (K:bH Tryz.prog β N ops (k+1) (eU fr (jE ops k) (OZ L r)) aB Q) (hp:aB[i]?=some (.abs (bp (ig O L))):=by rfl)
 (ho:∀av,Jy N av ops fr k=some (195,L.m x,.string name):=by intro _;kernel_rfl) (eT:name.size<=1048576:=by omega):bH Tryz.prog β N ops k fr aB Q:=by
 intro av
 obtain⟨a,y,h1,h2,h3⟩:=uU (ho av)
 exact bH.nQ (v:=OZ L r) (d:=jE ops k) (op:=.lookup 195 a y false) (λj=>by
  obtain⟨a',y',h1',_,_⟩:=uU (ho j)
  obtain⟨o,g1,g2,g3,g4⟩:=iW h1
  obtain⟨o',Bu,g2',CI,g4'⟩:=iW h1'
  rw [g1] at Bu
  cases Bu
  rw [g3] at CI
  cases CI
  exact h1') (λo av w ho' hS=>by
  obtain⟨a',y',h1',h2',h3'⟩:=uU (ho av)
  obtain⟨o1,g1,g2,g3,g4⟩:=iW h1
  obtain⟨o',Bu,g2',CI,g4'⟩:=iW h1'
  rw [g1] at Bu
  cases Bu
  rw [g3] at CI
  cases CI
  exact Sd hS hp hd hl ho' h2' h3' eT) K av
def Uq (N:fN) (av:Nat->Value) (ops:Array Oper) (fr:Fr) (k:Nat):Option (TypeId×Nat):=
 match iQ N av ops fr k with
 |some (.call ⟨.builtin .len,xs,ts⟩,_)=>match xs.toList with
   |[x]=>match ts.toList with
     |[t]=>match fe N fr av x with
       |.map (some b)=>some (t,b)
       |_=>none
     |_=>none
   |_=>none
 |_=>none
theorem Ib {av:Nat->Value} {T:TypeId} {b:Nat} (h:Uq N av ops fr k=some (T,b)):∃a,iQ N av ops fr k=some (.call ⟨.builtin .len,#[a],#[T]⟩,jE ops k)/\fe N fr av a=.map (some b):=by
 unfold Uq at h
 repeat' split at h
 all_goals first|(cases h;done)|skip
 rename_i xs ts d h0 _ a h1 _ t' h2 _ b' h3
 cases h
 have:=CH h0
 subst this
 refine⟨a,?_,h3⟩
 rw [h0]
 obtain⟨xs⟩:=xs
 obtain⟨ts⟩:=ts
 cases h1
 cases h2
 rfl
theorem eNk (i:Nat) (hd:(ah O x).kind=2) (K:aE Tryz.prog β N ops (k+1) (eU fr (jE ops k) (.int .i64 (((ah O x).aq.length:Nat):Int))) aB Q) (hp:aB[i]?=some (.abs (bp (ig O L))):=by rfl)
 (ho:∀av,Uq N av ops fr k=some (195,L.m x):=by intro _;kernel_rfl):aE Tryz.prog β N ops k fr aB Q:=by
 obtain⟨a,h1,h2⟩:=Ib (ho (λ_=>undef))
 obtain⟨o,g1,g2,g3,g4⟩:=iW h1
 refine aE.nQ (fY:=aB) (v:=.int .i64 (((ah O x).aq.length:Nat):Int)) (d:=jE ops k) (op:=o.op) (λj=>?_) (λo' av w ho' hS=>?_) K
 ·obtain⟨a',h1',_⟩:=Ib (ho j)
  grind [iW]
 obtain⟨a',h1',h2'⟩:=Ib (ho av)
 obtain⟨o1,Bu,g2',CI,g4'⟩:=iW h1'
 rw [g1] at Bu
 cases Bu
 exact⟨w,Fy (ho'.trans CI) rfl (F9 hS hp hd) h2' Tryz.underlying195,hS⟩
theorem eSt (i:Nat) (js:List (Nat×Nat)) {t:Th} (hd:(ah O x).kind=2) (jx:bF name (ah O x).aq=none)
 (K:∀O2,O2=bE O x (λo=>{o with aq:=kO name t o.aq})->aE Tryz.prog β N ops (k+1) (eU fr (jE ops k) undef) ((sO aB (wQ O2 L js)).set i (.abs (bp (ig O2 L)))) Q)
 (hp:aB[i]?=some (.abs (bp (ig O L))):=by rfl) (hj:Bq aB O L js:=by first|exact⟨rfl,trivial⟩|exact⟨rfl,rfl,trivial⟩|exact trivial)
 (ho:∀av,setAt N av ops fr k=some (195,L.m x,.string name,jg L t):=by intro _;kernel_rfl) (hn:nB 1 (js.map (·.2))=false:=by rfl) (eT:name.size<=1048576:=by omega) (hel:(ah O x).aq.length<=1048576:=by omega):aE Tryz.prog β N ops k fr aB Q:=by
 intro av w hS
 obtain⟨a,y,z,h1,h2,h3,h4⟩:=ZU (ho av)
 obtain⟨o,g1,g2,g3,g4⟩:=iW h1
 have O3:sO aB (wQ (bE O x (λo=>{o with aq:=kO name t o.aq})) L js)=aB:=CG (p:=1) (λq hq=>by
  match q,hq with
  |0,_=>exact zc (λR=>HP.abs (bp R)) (Oa (es:=λo=>kO name t o.aq))
  |1,hq=>exact KB rfl hq
  |q+2,_=>exact zc (λR=>HP.abs (bp R)) (FJ rfl rfl)) hj hn
 obtain⟨w',m1,m2,m3⟩:=(F9 hS hp hd).store Hy Tryz.underlying195 (by unfold maxLen;omega) (Kl (p:=name) d5) (jg L t)
 have e1:(nI L (ah O x).aq) (.string name.data.toList)=none:=by rw [y4,jx];rfl
 rw [e1,Zf jx] at m2
 have yD:aQ β (aB.set i (.abs (bp (ig (bE O x (λo=>{o with aq:=kO name t o.aq})) L)))) w':=hS.set hp (λF hF=>bp.step (k:=x) (show (bp (ig O L)).h F w from hF) (λy hy=>I5 hy) (λG hG=>by
  rw [uN hd] at hG
  rw [uN (by rw [iq];exact hd),iq,N9]
  exact step_map hG m2 m3))
 rw [drop_cons g1]
 unfold wpList
 rw [iC,t8 g2]
 refine .inl (p5 (v:=undef) (w':=w') (by
  rw [jd]
  refine .inr ⟨rfl,?_⟩
  obtain⟨dst,op,type,pos,after,guard⟩:=o
  cases g3
  simp only [execOp,h2,h3,h4]
  simp [go_sem,m1]) ?_)
 rw [ij]
 have hK:=K _ rfl av _ (by rw [O3];exact yD)
 rw [←g4] at hK
 exact hK
theorem ZV {av:Nat->Value} {T K0:TypeId} {b:Nat} {key:Value} (h:Un N av ops fr k=some (T,K0,b,key)):∃a y,iQ N av ops fr k=some (.call ⟨.builtin .delete,#[a,y],#[T,K0]⟩,jE ops k)/\fe N fr av a=.map (some b)/\fe N fr av y=key:=by
 unfold Un at h
 repeat' split at h
 all_goals first|(cases h;done)|skip
 rename_i xs ts d h0 _ a y h1 _ t' K' h2 _ b' h3
 cases h
 have:=CH h0
 subst this
 refine⟨a,y,?_,h3,rfl⟩
 rw [h0]
 obtain⟨xs⟩:=xs
 obtain⟨ts⟩:=ts
 cases h1
 cases h2
 rfl
theorem eDl (i:Nat) (js:List (Nat×Nat)) {t:Th} (hd:(ah O x).kind=2) (Dw:bF name (ah O x).aq=some t) (hnt:pY (ah O x).aq)
 (K:∀O2,O2=bE O x (λo=>{o with aq:=kP name o.aq})->aE Tryz.prog β N ops (k+1) (eU fr (jE ops k) (.tuple #[])) ((sO aB (wQ O2 L js)).set i (.abs (bp (ig O2 L)))) Q)
 (hp:aB[i]?=some (.abs (bp (ig O L))):=by rfl) (hj:Bq aB O L js:=by first|exact⟨rfl,trivial⟩|exact⟨rfl,rfl,trivial⟩|exact trivial)
 (ho:∀av,Un N av ops fr k=some (195,9,L.m x,.string name):=by intro _;kernel_rfl) (hn:nB 1 (js.map (·.2))=false:=by rfl) (eT:name.size<=1048576:=by omega):aE Tryz.prog β N ops k fr aB Q:=by
 intro av w hS
 obtain⟨a,y,h1,h2,h3⟩:=ZV (ho av)
 obtain⟨o,g1,g2,g3,g4⟩:=iW h1
 have O3:sO aB (wQ (bE O x (λo=>{o with aq:=kP name o.aq})) L js)=aB:=CG (p:=1) (λq hq=>by
  match q,hq with
  |0,_=>exact zc (λR=>HP.abs (bp R)) (Oa (es:=λo=>kP name o.aq))
  |1,hq=>exact KB rfl hq
  |q+2,_=>exact zc (λR=>HP.abs (bp R)) (FJ rfl rfl)) hj hn
 obtain⟨w',m1,m2,m3⟩:=(F9 hS hp hd).drop Hy Tryz.underlying195 (Kl (p:=name) d5) o.type
 have e1:(nI L (ah O x).aq) (.string name.data.toList)=some (jg L t):=by rw [y4,Dw];rfl
 rw [e1,Zg] at m2
 have jT:=Zd hnt Dw
 have yD:aQ β (aB.set i (.abs (bp (ig (bE O x (λo=>{o with aq:=kP name o.aq})) L)))) w':=hS.set hp (λF hF=>bp.step (k:=x) (show (bp (ig O L)).h F w from hF) (λy hy=>I5 hy) (λG hG=>by
  rw [uN hd] at hG
  rw [uN (by rw [iq];exact hd),iq]
  rw [show (kP name (ah O x).aq).length=(ah O x).aq.length-1 by omega]
  exact step_map hG m2 m3))
 rw [drop_cons g1]
 unfold wpList
 rw [iC,t8 g2]
 refine .inl (p5 (v:=.tuple #[]) (w':=w') (by
  rw [jd]
  refine .inl ?_
  obtain⟨dst,op,type,pos,after,guard⟩:=o
  cases g3
  simp only [execOp,resolve,invoke,builtin]
  simp [go_sem,h2,h3,m1]) ?_)
 rw [ij]
 have hK:=K _ rfl av _ (by rw [O3];exact yD)
 rw [←g4] at hK
 exact hK
end rules
section after
variable {O O2:eE} {j x:Nat} {f:bT->bT} {kd:Int}
theorem ku (e:O2=bE O j f) (h:(ah O x).kind=kd) (hf:∀o,(f o).kind=o.kind:=by intro _;rfl):(ah O2 x).kind=kd:=by subst e;exact (ug hf).trans h
theorem fu {α:Type} (g:bT->α) {v:α} (e:O2=bE O j f) (h:g (ah O x)=v) (hf:∀o,g (f o)=g o:=by intro _;rfl):g (ah O2 x)=v:=by subst e;exact (eP hf).trans h
end after
end
section
open Go.RowKit Go.Maps
attribute [local irreducible] aE bH ax aF
theorem iG {β:Bs} (b:Nat):aW Tryz.prog β 266 #[vP b] [] (λv l=>v=vP b/\l=[]):=by
 exact SE Tryz.func266 Tryz.ntmps266 (λR=>SR (jK 1 [] [] (NS (jK 2 [2] [] (eN ⟨rfl,rfl⟩)))))
theorem zV {β:Bs} (a:Value):aW Tryz.prog β 267 #[a] [] (λv l=>v=vI 1/\l=[]):=by
 exact SE Tryz.func267 Tryz.ntmps267 (λR=>SR (jK 1 [] [] (NS (jK 1 [2] [] (eN ⟨rfl,rfl⟩)))))
theorem zW {β:Bs} (a:Value):aW Tryz.prog β 269 #[a] [] (λv l=>v=vI 2/\l=[]):=by
 exact SE Tryz.func269 Tryz.ntmps269 (λR=>SR (jK 1 [] [] (NS (jK 1 [2] [] (eN ⟨rfl,rfl⟩)))))
theorem zX {β:Bs} (a:Value):aW Tryz.prog β 268 #[a] [] (λv l=>v=vI 3/\l=[]):=by
 exact SE Tryz.func268 Tryz.ntmps268 (λR=>SR (jK 1 [] [] (NS (jK 1 [2] [] (eN ⟨rfl,rfl⟩)))))
theorem Sg {β:Bs} (O:eE) (L:HL) (d:Nat) (eH:(ah O d).kind=2) (name:ByteArray) (eT:name.size<=1048576) (jx:bF name (ah O d).aq=none) (hel:(ah O d).aq.length<=1048576) (t:Th) (bZ:(ah O t.k).kind=t.kind) (h3:t.kind=1\/t.kind=2\/t.kind=3) (hb:0<=(ah O t.k).aU/\(ah O t.k).aU<=1048576) :
 aW Tryz.prog β 80 #[vP (L.b d),.string name,(jg L t)] [.abs (bp (fQ O L)),.abs (bp (ig O L))] (λv l=>v=.tuple #[]/\l=[.abs (bp (fQ (uj O d name t) L)),.abs (bp (ig (uj O d name t) L))]):=by
 refine SE Tryz.func80 Tryz.ntmps80 (λR=>ax.seq ?_)
 obtain⟨tk,kd⟩:=t;simp only at bZ h3;rcases h3 with rfl|rfl|rfl
 ·replace bZ:(ah O tk).kind=1:=bZ
  replace hb:0<=(ah O tk).aU/\(ah O tk).aU<=1048576:=hb
  refine ax.region (jK 6 [11,12,13] [(3,v_ 0 (eF L eH))] (eSt 1 [(0,0)] (t:=⟨tk,1⟩) eH jx (λjI gM=>?_)))
  have qR:=ku gM eH
  have uo:=ku gM bZ
  have hf3:(ah jI tk).aU=(ah O tk).aU:=fu bT.aU gM rfl
  refine NS (jK 1 [14] [] (gE [] (iG (L.b tk)) (jK 6 [19,21] [(2,v_ 0 (sZ L uo)),(3,wJ ((ah jI tk).aU+1) ((ah jI tk).aU+1))] (Bt 0 [(1,1)] tk 6 (λo=>{o with aU:=o.aU+1}) uo (λjU gP=>?_)))))
  have EK:=ku gP qR
  have Ur:=ku gP uo
  exact NS (jK 7 [6,7] [] (NS (jK 1 [27] [] (NF (ax.skip (RF (l:=[.abs (bp (fQ jU L)),.abs (bp (ig jU L))]) (.tuple #[]) [0,1,2] (⟨rfl,by subst gP;subst gM;rfl⟩)))))))
 ·replace bZ:(ah O tk).kind=2:=bZ
  replace hb:0<=(ah O tk).aU/\(ah O tk).aU<=1048576:=hb
  refine ax.region (jK 6 [11,12,13] [(3,v_ 0 (eF L eH))] (eSt 1 [(0,0)] (t:=⟨tk,2⟩) eH jx (λjI gM=>?_)))
  have aed:=ku gM eH
  have Us:=ku gM bZ
  have hf8:(ah jI tk).aU=(ah O tk).aU:=fu bT.aU gM rfl
  refine NS (jK 1 [14] [] (gE [] (iG (L.b tk)) (jK 6 [19,21] [(2,v_ 0 (sZ L Us)),(3,wJ ((ah jI tk).aU+1) ((ah jI tk).aU+1))] (Bt 0 [(1,1)] tk 6 (λo=>{o with aU:=o.aU+1}) Us (λjU gP=>?_)))))
  have KN:=ku gP aed
  have Ut:=ku gP Us
  refine NS (jK 7 [6,7] [] (NS (jK 1 [27] [] (NT (ax.region (jK 4 [29,31] [] (uSt 0 [(1,1)] tk (some d) Ut (λEL uq=>?_))))))))
  have abK:=ku uq KN
  have ahe:=ku uq Ut
  exact NL (RF (l:=[.abs (bp (fQ EL L)),.abs (bp (ig EL L))]) (.tuple #[]) [0,1,2] (⟨rfl,by subst uq;subst gP;subst gM;rfl⟩))
 replace bZ:(ah O tk).kind=3:=bZ
 replace hb:0<=(ah O tk).aU/\(ah O tk).aU<=1048576:=hb
 refine ax.region (jK 6 [11,12,13] [(3,v_ 0 (eF L eH))] (eSt 1 [(0,0)] (t:=⟨tk,3⟩) eH jx (λjI gM=>?_)))
 have afQ:=ku gM eH
 have Uu:=ku gM bZ
 have ahA:(ah jI tk).aU=(ah O tk).aU:=fu bT.aU gM rfl
 refine NS (jK 1 [14] [] (gE [] (iG (L.b tk)) (jK 6 [19,21] [(2,v_ 0 (sZ L Uu)),(3,wJ ((ah jI tk).aU+1) ((ah jI tk).aU+1))] (Bt 0 [(1,1)] tk 6 (λo=>{o with aU:=o.aU+1}) Uu (λjU gP=>?_)))))
 have Jz:=ku gP afQ
 have afR:=ku gP Uu
 exact NS (jK 7 [6,7] [] (NS (jK 1 [27] [] (NF (ax.skip (RF (l:=[.abs (bp (fQ jU L)),.abs (bp (ig jU L))]) (.tuple #[]) [0,1,2] (⟨rfl,by subst gP;subst gM;rfl⟩)))))))
theorem o5 {β:Bs} (X:FM) (f m t:Nat) (hX:0<=X.aq/\X.aq<=1048576/\-1125899906842624<=X.used/\X.used<=1125899906842624/\0<=X.last/\X.last<=1125899906842624) (O:eE) (L:HL) (d:Nat) (eH:(ah O d).kind=2) (name:ByteArray) (eT:name.size<=1048576) (jx:bF name (ah O d).aq=none) (hel:(ah O d).aq.length<=1048576) (th:Th) (bZ:(ah O th.k).kind=th.kind) (h3:th.kind=1\/th.kind=2\/th.kind=3) (hb:0<=(ah O th.k).aU/\(ah O th.k).aU<=1048576) :
 aW Tryz.prog β 224 #[vP f,vP (L.b d),.string name,(jg L th)] [.aD f [vI (X.cN),vI (X.cB),vI (X.cH),vI (X.cS),vI (X.cZ),.map (some m),vP t,vI (X.last),vI (X.aq),vI (X.used)] 173,.abs (bp (fQ O L)),.abs (bp (ig O L))] (λv l=>v=.tuple #[]/\l=[.aD f [vI (X.cN),vI (X.cB),vI (X.cH),vI (X.cS),vI (X.cZ),.map (some m),vP t,vI (X.last),vI (X.aq+1),vI (X.used)] 173,.abs (bp (fQ (dW X O d name th) L)),.abs (bp (ig (dW X O d name th) L))]):=by
 refine SE Tryz.func224 Tryz.ntmps224 (λR=>ax.seq ?_)
 skip
 refine ax.region (jK 3 [8,9,10] [] (gE [1,2] (Sg O L d eH name eT jx hel th bZ h3 hb) (NS ?_)))
 have JA:(ah (uj O d name th) d).kind=2:=(Et).trans (eH)
 generalize gM:(uj O d name th)=jI at JA ⊢
 refine jK 9 [17,20] [(5,A_ 2 f 2)] (WJ 0 [(1,1)] d X.cS X.cZ JA (λjU gP=>?_))
 have ahf:=ku gP JA
 exact NN (ax.region (jC 8 [] [(3,a_ 2 f),(4,wJ (X.aq+1) (X.aq+1)),(7,a_ 2 f)] [(2,[(8,vI (X.aq+1))])] (NL (RF (l:=[.aD f [vI (X.cN),vI (X.cB),vI (X.cH),vI (X.cS),vI (X.cZ),.map (some m),vP t,vI (X.last),vI (X.aq+1),vI (X.used)] 173,.abs (bp (fQ jU L)),.abs (bp (ig jU L))]) (.tuple #[]) [2,0,1,3] (⟨rfl,by subst gP;subst gM;rfl⟩)))))
theorem o6 {β:Bs} (X:FM) (f m t:Nat) (hX:0<=X.aq/\X.aq<=1048576/\-1125899906842624<=X.used/\X.used<=1125899906842624/\0<=X.last/\X.last<=1125899906842624) (O:eE) (L:HL) (d:Nat) (eH:(ah O d).kind=2) (name:ByteArray) (eT:name.size<=1048576) (th:Th) (bZ:(ah O th.k).kind=th.kind) (h3:th.kind=1\/th.kind=2\/th.kind=3) (Dw:bF name (ah O d).aq=some th) (hnt:pY (ah O d).aq) (_:(ah O d).aq.length<=1048576) (hb:0<=(ah O th.k).aU/\(ah O th.k).aU<=1048576) :
 aW Tryz.prog β 238 #[vP f,vP (L.b d),.string name] [.aD f [vI (X.cN),vI (X.cB),vI (X.cH),vI (X.cS),vI (X.cZ),.map (some m),vP t,vI (X.last),vI (X.aq),vI (X.used)] 173,.abs (bp (fQ O L)),.abs (bp (ig O L))] (λv l=>v=jg L th/\l=[.aD f [vI (X.cN),vI (X.cB),vI (X.cH),vI (X.cS),vI (X.cZ),.map (some m),vP t,vI (X.last),vI (X.aq-1),vI (X.used)] 173,.abs (bp (fQ (bn X O d name th) L)),.abs (bp (ig (bn X O d name th) L))]):=by
 refine SE Tryz.func238 Tryz.ntmps238 (λR=>ax.seq ?_)
 obtain⟨tk,kd⟩:=th;simp only at bZ h3;rcases h3 with rfl|rfl|rfl
 ·replace bZ:(ah O tk).kind=1:=bZ
  replace hb:0<=(ah O tk).aU/\(ah O tk).aU<=1048576:=hb
  refine ax.region (jK 1 [] [] (NS (jK 5 [11,12] [(3,v_ 1 (eF L eH))] (mX 2 eH Dw (jK 1 [7] [] (NS (jK 5 [17,18] [(3,v_ 1 (eF L eH))] (eDl 2 [(1,0)] eH Dw hnt (λjI gM=>?_)))))))))
  have abL:=ku gM eH
  have afS:=ku gM bZ
  have agA:(ah jI tk).aU=(ah O tk).aU:=fu bT.aU gM rfl
  refine NS (jK 9 [24,27] [(5,A_ 0 f 2)] (WJ 1 [(2,1)] d X.cS X.cZ abL (λjU gP=>?_)))
  have abM:=ku gP abL
  have Nb:=ku gP afS
  have ahB:(ah jU tk).aU=(ah O tk).aU:=fu bT.aU gP agA
  refine NS (jC 8 [] [(3,a_ 0 f),(4,wJ (X.aq-1) (X.aq-1)),(7,a_ 0 f)] [(0,[(8,vI (X.aq-1))])] (NS (jK 1 [35] [] (gE [] (iG (L.b tk)) (jK 6 [40,42] [(2,v_ 1 (sZ L Nb)),(3,wJ ((ah jU tk).aU-1) ((ah jU tk).aU-1))] (Bt 1 [(2,1)] tk 6 (λo=>{o with aU:=o.aU-1}) Nb (λEL uq=>?_)))))))
  have ahg:=ku uq abM
  have ahh:=ku uq Nb
  exact NS (jK 2 [6] [] (eN (l:=[.aD f [vI (X.cN),vI (X.cB),vI (X.cH),vI (X.cS),vI (X.cZ),.map (some m),vP t,vI (X.last),vI (X.aq-1),vI (X.used)] 173,.abs (bp (fQ EL L)),.abs (bp (ig EL L))]) (v:=(.iface 184 (vP (L.b tk)))) ⟨rfl,by subst uq;subst gP;subst gM;rfl⟩))
 ·replace bZ:(ah O tk).kind=2:=bZ
  replace hb:0<=(ah O tk).aU/\(ah O tk).aU<=1048576:=hb
  refine ax.region (jK 1 [] [] (NS (jK 5 [11,12] [(3,v_ 1 (eF L eH))] (mX 2 eH Dw (jK 1 [7] [] (NS (jK 5 [17,18] [(3,v_ 1 (eF L eH))] (eDl 2 [(1,0)] eH Dw hnt (λjI gM=>?_)))))))))
  have abN:=ku gM eH
  have afT:=ku gM bZ
  have agB:(ah jI tk).aU=(ah O tk).aU:=fu bT.aU gM rfl
  refine NS (jK 9 [24,27] [(5,A_ 0 f 2)] (WJ 1 [(2,1)] d X.cS X.cZ abN (λjU gP=>?_)))
  have afU:=ku gP abN
  have Uv:=ku gP afT
  have ahC:(ah jU tk).aU=(ah O tk).aU:=fu bT.aU gP agB
  refine NS (jC 8 [] [(3,a_ 0 f),(4,wJ (X.aq-1) (X.aq-1)),(7,a_ 0 f)] [(0,[(8,vI (X.aq-1))])] (NS (jK 1 [35] [] (gE [] (iG (L.b tk)) (jK 6 [40,42] [(2,v_ 1 (sZ L Uv)),(3,wJ ((ah jU tk).aU-1) ((ah jU tk).aU-1))] (Bt 1 [(2,1)] tk 6 (λo=>{o with aU:=o.aU-1}) Uv (λEL uq=>?_)))))))
  have ahi:=ku uq afU
  have ahj:=ku uq Uv
  exact NS (jK 2 [6] [] (eN (l:=[.aD f [vI (X.cN),vI (X.cB),vI (X.cH),vI (X.cS),vI (X.cZ),.map (some m),vP t,vI (X.last),vI (X.aq-1),vI (X.used)] 173,.abs (bp (fQ EL L)),.abs (bp (ig EL L))]) (v:=(.iface 190 (vP (L.b tk)))) ⟨rfl,by subst uq;subst gP;subst gM;rfl⟩))
 replace bZ:(ah O tk).kind=3:=bZ
 replace hb:0<=(ah O tk).aU/\(ah O tk).aU<=1048576:=hb
 refine ax.region (jK 1 [] [] (NS (jK 5 [11,12] [(3,v_ 1 (eF L eH))] (mX 2 eH Dw (jK 1 [7] [] (NS (jK 5 [17,18] [(3,v_ 1 (eF L eH))] (eDl 2 [(1,0)] eH Dw hnt (λjI gM=>?_)))))))))
 have abO:=ku gM eH
 have afV:=ku gM bZ
 have agC:(ah jI tk).aU=(ah O tk).aU:=fu bT.aU gM rfl
 refine NS (jK 9 [24,27] [(5,A_ 0 f 2)] (WJ 1 [(2,1)] d X.cS X.cZ abO (λjU gP=>?_)))
 have afW:=ku gP abO
 have Uw:=ku gP afV
 have ahD:(ah jU tk).aU=(ah O tk).aU:=fu bT.aU gP agC
 refine NS (jC 8 [] [(3,a_ 0 f),(4,wJ (X.aq-1) (X.aq-1)),(7,a_ 0 f)] [(0,[(8,vI (X.aq-1))])] (NS (jK 1 [35] [] (gE [] (iG (L.b tk)) (jK 6 [40,42] [(2,v_ 1 (sZ L Uw)),(3,wJ ((ah jU tk).aU-1) ((ah jU tk).aU-1))] (Bt 1 [(2,1)] tk 6 (λo=>{o with aU:=o.aU-1}) Uw (λEL uq=>?_)))))))
 have ahk:=ku uq afW
 have ahl:=ku uq Uw
 exact NS (jK 2 [6] [] (eN (l:=[.aD f [vI (X.cN),vI (X.cB),vI (X.cH),vI (X.cS),vI (X.cZ),.map (some m),vP t,vI (X.last),vI (X.aq-1),vI (X.used)] 173,.abs (bp (fQ EL L)),.abs (bp (ig EL L))]) (v:=(.iface 187 (vP (L.b tk)))) ⟨rfl,by subst uq;subst gP;subst gM;rfl⟩))
end
section
open Go.RowKit Go.Maps bw aI
attribute [local irreducible] aE bH ax aF ct
abbrev WK (f:Nat) (X:FM) (m:Nat) (t):=(.aD f [vI (X.cN),vI (X.cB),vI (X.cH),vI (X.cS),vI (X.cZ),.map (some m),vP t,vI (X.last),vI (X.aq),vI (X.used)] 173:HP)
theorem ZW {β:Bs} (X:FM) (f m t:Nat) (hX:0<=X.aq/\X.aq<=1048576/\-1125899906842624<=X.used/\X.used<=1125899906842624/\0<=X.last/\X.last<=1125899906842624) (O:eE) (L:HL) (ay:bB Th) (WL:aI.dK (aY ay)) (th:Th) (bZ:(ah O th.k).kind=th.kind) (h3:th.kind=1\/th.kind=2\/th.kind=3) (hg:(ah O th.k).aJ=true) (ho:(ah O th.k).aR=0) (fO:aI.get ay (ah O th.k).id=some th) (hw:(Lit.int .i64 (ah O th.k).id).wf=true) (EM:(ah O th.k).data.length<=1125899906842624) :
 aW Tryz.prog β 230 #[vP f,(jg L th)] [pO O L,pF f m t X,pI m L ay] (λv l=>v=.tuple #[]/\l=[pO O L,pF f m t {X with used:=if th.kind=1 then X.used-(ah O th.k).data.length else X.used},pI m L (del (ah O th.k).id ay)]):=by
 refine SE Tryz.func230 Tryz.ntmps230 (λR=>ax.seq ?_)
 obtain⟨tk,kd⟩:=th;simp only at bZ h3;rcases h3 with rfl|rfl|rfl
 ·replace bZ:(ah O tk).kind=1:=bZ
  replace hg:(ah O tk).aJ=true:=hg
  replace ho:(ah O tk).aR=0:=ho
  replace fO:aI.get ay (ah O tk).id=some _:=fO
  replace hw:(Lit.int .i64 (ah O tk).id).wf=true:=hw
  have hdl:=sV WL (get_some fO)
  replace EM:(ah O tk).data.length<=1125899906842624:=EM
  exact ax.region (jK 1 [7] [] (gE [] (iG (L.b tk)) (jK 1 [4] [] (NZ (jK 6 [14] [(3,v_ 0 (xZ L bZ))] (aE.qy 14 (!(ah O tk).aJ) (λ_=>d6) (λmQ=>KB mQ (by simp [hg])) (λmQ=>jK 6 [20] [(3,v_ 0 (qQ L bZ))] (NN (cP (((ah O tk).aR:Int)>(0:Int)) (λlX=>KB lX (by omega)) (λlX=>KX (ax.seq (rM (List.range 9) 8 [0,1,2,3] (jR 8 [0,1,24,28] [(3,a_ 1 f),(7,v_ 0 (Dv L bZ))] (ct.last rfl rfl (aE.IB 2 (d:=none) (t:=170) (K:=3) (E:=175) (b:=m) (n:=ay.length) (f:=(dg (dM L ay))) (x:=(.tmp 24)) (ix:=(.tmp 28)) (key:=vI ((ah O tk).id)) (kl:=(.int .i64 (ah O tk).id)) (n':=(ay.length-1)) (f':=(dg (dM L (del (ah O tk).id ay)))) (ats:=#[170,3]) (λ_=>d6) d6 (λ_=>d6) (λ_=>d6) rfl ja Tryz.underlying170 (mo hw) (by rw [kx,fO];rfl) (Kv) (NL (aF.np (NX (SR (jK 7 [5,6] [] (NS (jK 1 [34] [] (NT (rM (List.range 13) 12 [0,1,2,3] (jR 12 [44,46] [(3,a_ 1 f),(7,v_ 0 (OY L bZ)),(9,wJ (X.used-(((ah O tk).data.length:Nat):Int)) (X.used-(((ah O tk).data.length:Nat):Int)))] (ct.last rfl rfl (jC 1 [] [(0,a_ 1 f)] [(1,[(9,vI (X.used-(((ah O tk).data.length:Nat):Int)))])] (NL (aF.np (aF.jk [(2,.abs (bK Tryz.prog 3 m (dg (dM L (del (ah O tk).id ay))) ((del (ah O tk).id ay).length)))] (λw hS=>by rw [show (del (ah O tk).id ay).length=ay.length-1 by omega];exact hS) (RF (.tuple #[]) [0,1,2,3] (⟨rfl,rfl⟩))))))))))))))))))))))))))))))))
 ·replace bZ:(ah O tk).kind=2:=bZ
  replace hg:(ah O tk).aJ=true:=hg
  replace ho:(ah O tk).aR=0:=ho
  replace fO:aI.get ay (ah O tk).id=some _:=fO
  replace hw:(Lit.int .i64 (ah O tk).id).wf=true:=hw
  have hdl:=sV WL (get_some fO)
  replace EM:(ah O tk).data.length<=1125899906842624:=EM
  exact ax.region (jK 1 [7] [] (gE [] (iG (L.b tk)) (jK 1 [4] [] (NZ (jK 6 [14] [(3,v_ 0 (xZ L bZ))] (aE.qy 14 (!(ah O tk).aJ) (λ_=>d6) (λmQ=>KB mQ (by simp [hg])) (λmQ=>jK 6 [20] [(3,v_ 0 (qQ L bZ))] (NN (cP (((ah O tk).aR:Int)>(0:Int)) (λlX=>KB lX (by omega)) (λlX=>KX (ax.seq (rM (List.range 9) 8 [0,1,2,3] (jR 8 [0,1,24,28] [(3,a_ 1 f),(7,v_ 0 (Dv L bZ))] (ct.last rfl rfl (aE.IB 2 (d:=none) (t:=170) (K:=3) (E:=175) (b:=m) (n:=ay.length) (f:=(dg (dM L ay))) (x:=(.tmp 24)) (ix:=(.tmp 28)) (key:=vI ((ah O tk).id)) (kl:=(.int .i64 (ah O tk).id)) (n':=(ay.length-1)) (f':=(dg (dM L (del (ah O tk).id ay)))) (ats:=#[170,3]) (λ_=>d6) d6 (λ_=>d6) (λ_=>d6) rfl ja Tryz.underlying170 (mo hw) (by rw [kx,fO];rfl) (Kv) (NL (aF.np (NX (SR (jK 7 [5,6] [] (NS (jK 1 [34] [] (NF (ax.skip (aF.jk [(2,.abs (bK Tryz.prog 3 m (dg (dM L (del (ah O tk).id ay))) ((del (ah O tk).id ay).length)))] (λw hS=>by rw [show (del (ah O tk).id ay).length=ay.length-1 by omega];exact hS) (RF (.tuple #[]) [0,1,2,3] (⟨rfl,rfl⟩)))))))))))))))))))))))))))
 replace bZ:(ah O tk).kind=3:=bZ
 replace hg:(ah O tk).aJ=true:=hg
 replace ho:(ah O tk).aR=0:=ho
 replace fO:aI.get ay (ah O tk).id=some _:=fO
 replace hw:(Lit.int .i64 (ah O tk).id).wf=true:=hw
 have hdl:=sV WL (get_some fO)
 replace EM:(ah O tk).data.length<=1125899906842624:=EM
 exact ax.region (jK 1 [7] [] (gE [] (iG (L.b tk)) (jK 1 [4] [] (NZ (jK 6 [14] [(3,v_ 0 (xZ L bZ))] (aE.qy 14 (!(ah O tk).aJ) (λ_=>d6) (λmQ=>KB mQ (by simp [hg])) (λmQ=>jK 6 [20] [(3,v_ 0 (qQ L bZ))] (NN (cP (((ah O tk).aR:Int)>(0:Int)) (λlX=>KB lX (by omega)) (λlX=>KX (ax.seq (rM (List.range 9) 8 [0,1,2,3] (jR 8 [0,1,24,28] [(3,a_ 1 f),(7,v_ 0 (Dv L bZ))] (ct.last rfl rfl (aE.IB 2 (d:=none) (t:=170) (K:=3) (E:=175) (b:=m) (n:=ay.length) (f:=(dg (dM L ay))) (x:=(.tmp 24)) (ix:=(.tmp 28)) (key:=vI ((ah O tk).id)) (kl:=(.int .i64 (ah O tk).id)) (n':=(ay.length-1)) (f':=(dg (dM L (del (ah O tk).id ay)))) (ats:=#[170,3]) (λ_=>d6) d6 (λ_=>d6) (λ_=>d6) rfl ja Tryz.underlying170 (mo hw) (by rw [kx,fO];rfl) (Kv) (NL (aF.np (NX (SR (jK 7 [5,6] [] (NS (jK 1 [34] [] (NF (ax.skip (aF.jk [(2,.abs (bK Tryz.prog 3 m (dg (dM L (del (ah O tk).id ay))) ((del (ah O tk).id ay).length)))] (λw hS=>by rw [show (del (ah O tk).id ay).length=ay.length-1 by omega];exact hS) (RF (.tuple #[]) [0,1,2,3] (⟨rfl,rfl⟩)))))))))))))))))))))))))))
theorem Ux {β:Bs} (O:eE) (L:HL) (f:Nat) (th:Th) (bZ:(ah O th.k).kind=th.kind) (h3:th.kind=1\/th.kind=2\/th.kind=3) (hg:(ah O th.k).aJ=false\/0<(ah O th.k).aR) :
 aW Tryz.prog β 230 #[vP f,(jg L th)] [pO O L] (λv l=>v=.tuple #[]/\l=[pO O L]):=by
 refine SE Tryz.func230 Tryz.ntmps230 (λR=>ax.seq ?_)
 obtain⟨tk,kd⟩:=th;simp only at bZ h3;rcases h3 with rfl|rfl|rfl
 ·replace bZ:(ah O tk).kind=1:=bZ
  replace hg:(ah O tk).aJ=false\/0<(ah O tk).aR:=hg
  exact ax.region (jK 1 [7] [] (gE [] (iG (L.b tk)) (jK 1 [4] [] (NZ (jK 6 [14] [(3,v_ 0 (xZ L bZ))] (aE.qy 14 (!(ah O tk).aJ) (λ_=>d6) (λmQ=>jK 6 [20] [] (NT (ax.ret (aF.bq (RT _ [0,1] (⟨rfl,rfl⟩)))))) (λmQ=>jK 6 [20] [(3,v_ 0 (qQ L bZ))] (NN (cP (((ah O tk).aR:Int)>(0:Int)) (λlX=>ax.ret (aF.bq (RT _ [0,1] (⟨rfl,rfl⟩)))) (λlX=>KB hg (by simp at mQ;rw [mQ];simp;omega)))))))))))
 ·replace bZ:(ah O tk).kind=2:=bZ
  replace hg:(ah O tk).aJ=false\/0<(ah O tk).aR:=hg
  exact ax.region (jK 1 [7] [] (gE [] (iG (L.b tk)) (jK 1 [4] [] (NZ (jK 6 [14] [(3,v_ 0 (xZ L bZ))] (aE.qy 14 (!(ah O tk).aJ) (λ_=>d6) (λmQ=>jK 6 [20] [] (NT (ax.ret (aF.bq (RT _ [0,1] (⟨rfl,rfl⟩)))))) (λmQ=>jK 6 [20] [(3,v_ 0 (qQ L bZ))] (NN (cP (((ah O tk).aR:Int)>(0:Int)) (λlX=>ax.ret (aF.bq (RT _ [0,1] (⟨rfl,rfl⟩)))) (λlX=>KB hg (by simp at mQ;rw [mQ];simp;omega)))))))))))
 replace bZ:(ah O tk).kind=3:=bZ
 replace hg:(ah O tk).aJ=false\/0<(ah O tk).aR:=hg
 exact ax.region (jK 1 [7] [] (gE [] (iG (L.b tk)) (jK 1 [4] [] (NZ (jK 6 [14] [(3,v_ 0 (xZ L bZ))] (aE.qy 14 (!(ah O tk).aJ) (λ_=>d6) (λmQ=>jK 6 [20] [] (NT (ax.ret (aF.bq (RT _ [0,1] (⟨rfl,rfl⟩)))))) (λmQ=>jK 6 [20] [(3,v_ 0 (qQ L bZ))] (NN (cP (((ah O tk).aR:Int)>(0:Int)) (λlX=>ax.ret (aF.bq (RT _ [0,1] (⟨rfl,rfl⟩)))) (λlX=>KB hg (by simp at mQ;rw [mQ];simp;omega)))))))))))
theorem x5 {β:Bs} (X:FM) (f m t:Nat) (hX:0<=X.aq/\X.aq<=1048576/\-1125899906842624<=X.used/\X.used<=1125899906842624/\0<=X.last/\X.last<=1125899906842624) (O:eE) (L:HL) (ay:bB Th) (WL:aI.dK (aY ay)) (th:Th) (bZ:(ah O th.k).kind=th.kind) (h3:th.kind=1\/th.kind=2\/th.kind=3) (ho:0<=(ah O th.k).aR) (fO:tV O th->aI.get ay (ah O th.k).id=some th) (hw:(Lit.int .i64 (ah O th.k).id).wf=true) (EM:(ah O th.k).data.length<=1125899906842624) :
 aW Tryz.prog β 230 #[vP f,(jg L th)] [pO O L,pF f m t X,pI m L ay] (λv l=>v=.tuple #[]/\l=[pO O L,pF f m t {X with used:=oU O X.used th},pI m L (j7 O ay th)]):=by
 unfold oU j7
 by_cases h:tV O th
 ·rw [t8 h,t8 h]
  exact ZW X f m t hX O L ay WL th bZ h3 h.1 h.2 (fO h) hw EM
 rw [nw h,nw h]
 refine (aW.uf (pre:=[pO O L]) (R:=[pF f m t X,pI m L ay]) (λ_ _=>Ux O L f th bZ h3 ?_)).mono gn
 cases hg:(ah O th.k).aJ with
 |false=>exact .inl rfl
 |true=>exact .inr (by have:¬(ah O th.k).aR=0:=λe=>h ⟨hg,e⟩;omega)
theorem Ra {β:Bs} (X:FM) (f m t:Nat):aW Tryz.prog β 223 #[vP f] [WK f X m t] (λv l=>v=.bool (decide (X.aq<8192))/\l=[WK f X m t]):=by
 exact SE Tryz.func223 Tryz.ntmps223 (λR=>SR (jK 1 [] [] (NS (jK 6 [2] [(3,a_ 0 f)] (eN ⟨rfl,rfl⟩)))))
theorem yV {β:Bs} (a b:Int):aW Tryz.prog β 76 #[vI a,vI b] [] (λv l=>v=.bool (decide (0<=a/\a<=b))/\l=[]):=by
 exact SE Tryz.func76 Tryz.ntmps76 (λR=>SR (jK 1 [] [] (NS (jK 3 [7] [] (sP 7 ((a:Int)>=(0:Int)) (λh7=>jK 5 [4] [] (eN (v:=(.bool (decide ((a:Int)<=(b:Int))))) ⟨gn,rfl⟩)) (λh7=>jK 5 [4] [] (eN (v:=(.bool false)) ⟨gn,rfl⟩)))))))
theorem O5 {β:Bs} (X:FM) (f m t:Nat) (L:HL) (ay:bB Th):aW Tryz.prog β 234 #[vP f] [WK f X m t,.abs (bK Tryz.prog 3 m (dg (dM L ay)) ay.length)] (λv l=>v=.bool (decide ((ay.length:Int)<X.cN/\X.last<1099511627776/\X.aq<8192))/\l=[WK f X m t,.abs (bK Tryz.prog 3 m (dg (dM L ay)) ay.length)]):=by
 exact SE Tryz.func234 Tryz.ntmps234 (λR=>SR (jK 1 [] [] (NN (ax.seq (rQ (jQ 4 [6] [(3,a_ 0 f)] (bH.Co 1 (d:=(some 7)) (t:=170) (K:=3) (E:=175) (b:=m) (n:=ay.length) (f:=(dg (dM L ay))) (x:=(.tmp 6)) (ats:=#[170]) (λ_=>d6) d6 (λ_=>d6) rfl Tryz.underlying170 (jQ 7 [14] [(4,a_ 0 f)] (bH.w9 14 ((((ay.length:Nat):Int):Int)<(X.cN:Int)) (λ_=>d6) (λmQ=>jQ 7 [21] [(3,a_ 0 f)] (bH.w9 21 ((X.last:Int)<(1099511627776:Int)) (λ_=>d6) (λyE=>jQ 1 [22] [] (zy [0] [0,1,2] (.bool (decide (X.aq<8192))) (Ra X f m t) (jQ 2 [2] [] (NQ (NX (ax.ret (RT (.bool (decide (X.aq<8192))) [0,1,2] (⟨gn,rfl⟩)))))))) (λyE=>jQ 4 [2] [] (NQ (NX (ax.ret (RT (.bool false) [0,1,2] (⟨gn,rfl⟩)))))))) (λmQ=>jQ 11 [2] [] (NQ (NX (ax.ret (RT (.bool false) [0,1,2] (⟨gn,rfl⟩)))))))))))))))
theorem EN {β:Bs} (X:FM) (f m t:Nat) (hX:0<=X.aq/\X.aq<=1048576/\-1125899906842624<=X.used/\X.used<=1125899906842624/\0<=X.last/\X.last<=1125899906842624) (mode:Int):aW Tryz.prog β 220 #[vP f,vI mode] [WK f X m t] (λv l=>v=.agg #[vI (X.last+1),vI mode,vI 0,vI 0,vI X.cS,vI X.cZ,vI 0,vI 0,.bool false]/\l=[.aD f [vI (X.cN),vI (X.cB),vI (X.cH),vI (X.cS),vI (X.cZ),.map (some m),vP t,vI (X.last+1),vI (X.aq),vI (X.used)] 173]):=by
 exact SE Tryz.func220 Tryz.ntmps220 (λR=>SR (jB 1 [4] (λb1=>.aD b1 [vI 0,vI 0,vI 0,vI 0,vI 0,vI 0,vI 0,vI 0,.bool false] 183) (λb1=>NS (jC 8 [] [(3,a_ 0 f),(4,wJ (X.last+1) (X.last+1)),(7,a_ 0 f)] [(0,[(7,vI (X.last+1))])] (NN (ax.seq (rM (List.range 12) 11 [0,1,2] (jR 11 [4,22] [(3,a_ 0 f),(9,A_ 0 f 2)] (ct.last rfl rfl (jC 1 [] [(0,A_ 2 b1 9)] [(2,[(0,vI (X.last+1)),(1,vI (mode)),(4,vI (X.cS)),(5,vI (X.cZ))])] (NL (aF.np (NX (ax.ret (rT _ [A_ 2 b1 9] [0,1] (⟨rfl,rfl⟩))))))))))))))))
theorem ur {β:Bs} (S:bg) (L:HL) (f m t:Nat) (hI:bC S) (d:Nat) (hd:aT S.ay ⟨d,2⟩) (name:ByteArray) (eT:name.size<=1048576) (th:Th) (fA:bF name (ah S.O d).aq=some th) :
 aW Tryz.prog β 236 #[vP f,vP (L.b d),.string name] [pF f m t S.X,pO S.O L,pE S.O L,pI m L S.ay] (λv l=>v=.tuple #[]/\l=[pF f m t ((aZ S d name th).X),pO ((aZ S d name th).O) L,pE ((aZ S d name th).O) L,pI m L ((aZ S d name th).ay)]):=by
 have hX:=hI.hX
 have hel:(ah S.O d).aq.length<=8192:=hI.mq hd
 have eH:(ah S.O d).kind=2:=hI.kind hd
 refine SE Tryz.func236 Tryz.ntmps236 (λR=>ax.seq ?_)
 obtain⟨tk,kd⟩:=th;have cW:=(hI.bO hd fA).2;have ahE:=hI.ne hd fA;rcases (hI.ob _ cW).2.2 with e0|e0|e0<;>simp only at e0<;>subst e0
 ·have bZ:(ah S.O tk).kind=1:=hI.kind cW
  have hlb:=hI.lb cW;have hid:=hI.ob _ cW;have cA:=hI.Ot cW;have hdl:=hI.Ou cW;have wR:=hI.Wl cW
  refine ax.region (jK 3 [8,9,10] [] (gE [0,1,2] (o6 S.X f m t hX S.O L d eH name eT ⟨tk,1⟩ bZ nh fA (hI.pQ hd) d5 (by simp only at hlb ⊢;omega)) (jK 1 [6] [] (NS ?_))))
  have qR:(ah (bn S.X S.O d name ⟨tk,1⟩) d).kind=2:=(fS).trans (eH)
  have uo:(ah (bn S.X S.O d name ⟨tk,1⟩) tk).kind=1:=(fS).trans (bZ)
  have EO:(ah (bn S.X S.O d name ⟨tk,1⟩) tk).id=(ah S.O tk).id:=eY (g:=bT.id) (λ_ _=>rfl) (λ_ _=>rfl) (λ_ _ _=>rfl)
  have EP:(ah (bn S.X S.O d name ⟨tk,1⟩) tk).aR=(ah S.O tk).aR:=eY (g:=bT.aR) (λ_ _=>rfl) (λ_ _=>rfl) (λ_ _ _=>rfl)
  have EQ:(ah (bn S.X S.O d name ⟨tk,1⟩) tk).data=(ah S.O tk).data:=eY (g:=bT.data) (λ_ _=>rfl) (λ_ _=>rfl) (λ_ _ _=>rfl)
  generalize gM:(bn S.X S.O d name ⟨tk,1⟩)=jI at qR uo EO EP EQ ⊢
  refine jK 1 [12] [] (gE [] (iG (L.b tk)) (jK 1 [7] [] (NS (jK 5 [18] [(3,v_ 1 (sZ L uo))] (NN (cP (((ah jI tk).aU:Int)=(0:Int)) (λpU=>SR (jK 3 [21] [] (Bt 1 [(2,1)] tk 8 (λo=>{o with aJ:=true}) uo (λjU gP=>?_)))) (λpU=>ax.skip (RF (l:=[pF f m t {S.X with aq:=S.X.aq-1},pO jI L,pE jI L,pI m L S.ay]) (.tuple #[]) [0,1,2,3,4] (⟨rfl,by grind [aZ,xM]⟩)))))))))
  have Uy:=ku gP qR
  have EK:=ku gP uo
  have WM:(ah jU tk).id=(ah S.O tk).id:=fu bT.id gP EO
  have hf6:(ah jU tk).aR=(ah S.O tk).aR:=fu bT.aR gP EP
  have hf7:(ah jU tk).data=(ah S.O tk).data:=fu bT.data gP EQ
  exact NN (ax.region (jK 2 [22,23] [] (gE [1,0,3] (x5 {S.X with aq:=S.X.aq-1} f m t (hI.Gv hd fA) jU L S.ay hI.fP ⟨tk,1⟩ EK nh (by rw [hf6];exact cA.1) (λ_=>by rw [WM,hid.1];exact cW) (by rw [WM];exact wR) (by rw [hf7];exact hdl)) (NL (RF (l:=[pF f m t {S.X with aq:=S.X.aq-1,used:=oU jU S.X.used ⟨tk,1⟩},pO jU L,pE jU L,pI m L (j7 jU S.ay ⟨tk,1⟩)]) (.tuple #[]) [1,0,3,2,4] (⟨rfl,by subst gP;subst gM;rw [show aZ S d name ⟨tk,1⟩=_ from xL pU]<;>rfl⟩))))))
 ·have bZ:(ah S.O tk).kind=2:=hI.kind cW
  have hlb:=hI.lb cW;have hid:=hI.ob _ cW;have cA:=hI.Ot cW;have hdl:=hI.Ou cW;have wR:=hI.Wl cW
  refine ax.region (jK 3 [8,9,10] [] (gE [0,1,2] (o6 S.X f m t hX S.O L d eH name eT ⟨tk,2⟩ bZ nh fA (hI.pQ hd) d5 (by simp only at hlb ⊢;omega)) (jK 1 [6] [] (NS ?_))))
  have aee:(ah (bn S.X S.O d name ⟨tk,2⟩) d).kind=2:=(fS).trans (eH)
  have KN:(ah (bn S.X S.O d name ⟨tk,2⟩) tk).kind=2:=(fS).trans (bZ)
  have EO:(ah (bn S.X S.O d name ⟨tk,2⟩) tk).id=(ah S.O tk).id:=eY (g:=bT.id) (λ_ _=>rfl) (λ_ _=>rfl) (λ_ _ _=>rfl)
  have EP:(ah (bn S.X S.O d name ⟨tk,2⟩) tk).aR=(ah S.O tk).aR:=eY (g:=bT.aR) (λ_ _=>rfl) (λ_ _=>rfl) (λ_ _ _=>rfl)
  have EQ:(ah (bn S.X S.O d name ⟨tk,2⟩) tk).data=(ah S.O tk).data:=eY (g:=bT.data) (λ_ _=>rfl) (λ_ _=>rfl) (λ_ _ _=>rfl)
  generalize gM:(bn S.X S.O d name ⟨tk,2⟩)=jI at aee KN EO EP EQ ⊢
  refine jK 1 [12] [] (gE [] (iG (L.b tk)) (jK 1 [7] [] (NS (jK 5 [18] [(3,v_ 1 (sZ L KN))] (NN (cP (((ah jI tk).aU:Int)=(0:Int)) (λpU=>SR (jK 3 [21] [] (Bt 1 [(2,1)] tk 8 (λo=>{o with aJ:=true}) KN (λjU gP=>?_)))) (λpU=>ax.skip (RF (l:=[pF f m t {S.X with aq:=S.X.aq-1},pO jI L,pE jI L,pI m L S.ay]) (.tuple #[]) [0,1,2,3,4] (⟨rfl,by grind [aZ,xM]⟩)))))))))
  have Ut:=ku gP aee
  have abK:=ku gP KN
  have aef:(ah jU tk).id=(ah S.O tk).id:=fu bT.id gP EO
  have agD:(ah jU tk).aR=(ah S.O tk).aR:=fu bT.aR gP EP
  have agE:(ah jU tk).data=(ah S.O tk).data:=fu bT.data gP EQ
  exact NN (ax.region (jK 2 [22,23] [] (gE [1,0,3] (x5 {S.X with aq:=S.X.aq-1} f m t (hI.Gv hd fA) jU L S.ay hI.fP ⟨tk,2⟩ abK nh (by rw [agD];exact cA.1) (λ_=>by rw [aef,hid.1];exact cW) (by rw [aef];exact wR) (by rw [agE];exact hdl)) (NL (RF (l:=[pF f m t {S.X with aq:=S.X.aq-1,used:=oU jU S.X.used ⟨tk,2⟩},pO jU L,pE jU L,pI m L (j7 jU S.ay ⟨tk,2⟩)]) (.tuple #[]) [1,0,3,2,4] (⟨rfl,by subst gP;subst gM;rw [show aZ S d name ⟨tk,2⟩=_ from xL pU]<;>rfl⟩))))))
 have bZ:(ah S.O tk).kind=3:=hI.kind cW
 have hlb:=hI.lb cW;have hid:=hI.ob _ cW;have cA:=hI.Ot cW;have hdl:=hI.Ou cW;have wR:=hI.Wl cW
 refine ax.region (jK 3 [8,9,10] [] (gE [0,1,2] (o6 S.X f m t hX S.O L d eH name eT ⟨tk,3⟩ bZ nh fA (hI.pQ hd) d5 (by simp only at hlb ⊢;omega)) (jK 1 [6] [] (NS ?_))))
 have abP:(ah (bn S.X S.O d name ⟨tk,3⟩) d).kind=2:=(fS).trans (eH)
 have Jz:(ah (bn S.X S.O d name ⟨tk,3⟩) tk).kind=3:=(fS).trans (bZ)
 have EO:(ah (bn S.X S.O d name ⟨tk,3⟩) tk).id=(ah S.O tk).id:=eY (g:=bT.id) (λ_ _=>rfl) (λ_ _=>rfl) (λ_ _ _=>rfl)
 have EP:(ah (bn S.X S.O d name ⟨tk,3⟩) tk).aR=(ah S.O tk).aR:=eY (g:=bT.aR) (λ_ _=>rfl) (λ_ _=>rfl) (λ_ _ _=>rfl)
 have EQ:(ah (bn S.X S.O d name ⟨tk,3⟩) tk).data=(ah S.O tk).data:=eY (g:=bT.data) (λ_ _=>rfl) (λ_ _=>rfl) (λ_ _ _=>rfl)
 generalize gM:(bn S.X S.O d name ⟨tk,3⟩)=jI at abP Jz EO EP EQ ⊢
 refine jK 1 [12] [] (gE [] (iG (L.b tk)) (jK 1 [7] [] (NS (jK 5 [18] [(3,v_ 1 (sZ L Jz))] (NN (cP (((ah jI tk).aU:Int)=(0:Int)) (λpU=>SR (jK 3 [21] [] (Bt 1 [(2,1)] tk 8 (λo=>{o with aJ:=true}) Jz (λjU gP=>?_)))) (λpU=>ax.skip (RF (l:=[pF f m t {S.X with aq:=S.X.aq-1},pO jI L,pE jI L,pI m L S.ay]) (.tuple #[]) [0,1,2,3,4] (⟨rfl,by grind [aZ,xM]⟩)))))))))
 have afR:=ku gP abP
 have JA:=ku gP Jz
 have aeg:(ah jU tk).id=(ah S.O tk).id:=fu bT.id gP EO
 have agF:(ah jU tk).aR=(ah S.O tk).aR:=fu bT.aR gP EP
 have agG:(ah jU tk).data=(ah S.O tk).data:=fu bT.data gP EQ
 exact NN (ax.region (jK 2 [22,23] [] (gE [1,0,3] (x5 {S.X with aq:=S.X.aq-1} f m t (hI.Gv hd fA) jU L S.ay hI.fP ⟨tk,3⟩ JA nh (by rw [agF];exact cA.1) (λ_=>by rw [aeg,hid.1];exact cW) (by rw [aeg];exact wR) (by rw [agG];exact hdl)) (NL (RF (l:=[pF f m t {S.X with aq:=S.X.aq-1,used:=oU jU S.X.used ⟨tk,3⟩},pO jU L,pE jU L,pI m L (j7 jU S.ay ⟨tk,3⟩)]) (.tuple #[]) [1,0,3,2,4] (⟨rfl,by subst gP;subst gM;rw [show aZ S d name ⟨tk,3⟩=_ from xL pU]<;>rfl⟩))))))
theorem ER {β:Bs} (S:bg) (L:HL) (f m t:Nat) (hI:bC S) (d:Nat) (hd:aT S.ay ⟨d,2⟩) (name:ByteArray) (eT:name.size<=1048576) :
 aW Tryz.prog β 219 #[vP f,vP (L.b d),.string name] [pF f m t S.X,pI m L S.ay,pE S.O L,pO S.O L] (λv l=>v=vI (gY S.X S.O S.ay d name)/\l=[pF f m t S.X,pI m L S.ay,pE S.O L,pO S.O L]):=by
 have hX:=hI.hX
 have hel:(ah S.O d).aq.length<=8192:=hI.mq hd
 have eH:(ah S.O d).kind=2:=hI.kind hd
 refine SE Tryz.func219 Tryz.ntmps219 (λR=>ax.seq ?_)
 rcases hI.vC hd name with fA|⟨tk,fA,cW⟩|⟨tk,fA,cW⟩|⟨tk,fA,cW⟩
 ·exact ax.region (jK 1 [] [] (NZ (jK 5 [10,11] [(3,v_ 3 (eF L eH))] (mX 2 eH fA (jK 1 [13] [] (NF (KX (SQ (jK 1 [14] [] (gE [0,1] (O5 S.X f m t L S.ay) (jK 1 [16] [] (NN (cN ((S.ay.length:Int)<S.X.cN/\S.X.last<1099511627776/\S.X.aq<8192) (λpz=>zR ⟨zc (Value.int .i64) (aie (show gY S.X S.O S.ay d name=_ from (t8 fA).trans (nw pz))),rfl⟩) (λpz=>KX (zR ⟨zc (Value.int .i64) (aie (show gY S.X S.O S.ay d name=_ from (t8 fA).trans (t8 pz))),rfl⟩)))))))))))))))
 ·have bZ:(ah S.O tk).kind=1:=hI.kind cW
  exact ax.region (jK 1 [] [] (NZ (jK 5 [10,11] [(3,v_ 3 (eF L eH))] (mX 2 eH fA (jK 1 [13] [] (NT (zR ⟨zc (Value.int .i64) (aie (show gY S.X S.O S.ay d name=_ from nw (by rw [fA];simp))),rfl⟩)))))))
 ·have bZ:(ah S.O tk).kind=2:=hI.kind cW
  exact ax.region (jK 1 [] [] (NZ (jK 5 [10,11] [(3,v_ 3 (eF L eH))] (mX 2 eH fA (jK 1 [13] [] (NT (zR ⟨zc (Value.int .i64) (aie (show gY S.X S.O S.ay d name=_ from nw (by rw [fA];simp))),rfl⟩)))))))
 have bZ:(ah S.O tk).kind=3:=hI.kind cW
 exact ax.region (jK 1 [] [] (NZ (jK 5 [10,11] [(3,v_ 3 (eF L eH))] (mX 2 eH fA (jK 1 [13] [] (NT (zR ⟨zc (Value.int .i64) (aie (show gY S.X S.O S.ay d name=_ from nw (by rw [fA];simp))),rfl⟩)))))))
theorem acR {β:Bs} (s:ByteArray) (eT:s.size<=1048576) :
 aW Tryz.prog β 235 #[.string s] [] (λv l=>v=vI (lF s)/\l=[]):=by
 refine SE Tryz.func235 Tryz.ntmps235 (λR=>SR (jK 1 [] [] (NN (ax.seq (ax.block (SR (jK 3 [3] [(1,w_ (.bool (decide ((s:ByteArray)=⟨#[]⟩))) (qE _ _))] (NN (cP ((s:ByteArray)=⟨#[]⟩) (λh3=>zR ⟨zc (Value.int .i64) (aie (show lF s=_ from t8 h3)),rfl⟩) (λh3=>SR (jK 4 [6] [] (NN (cP (((((s:ByteArray).size:Nat):Int):Int)>(4096:Int)) (λh6=>zR ⟨zc (Value.int .i64) (aie (show lF s=_ from (nw h3).trans (t8 d5))),rfl⟩) (λh6=>SR (jK 1 [11] [] (gL [] (QT s) ?_))))))))))))))))
 rintro _ _ ⟨⟨x,rfl,hx⟩,rfl⟩
 exact jK 2 [10] [] (NN (cP ((x:Int)>=(0:Int)) (λh10=>zR ⟨zc (Value.int .i64) (aie (show lF s=_ from (nw h3).trans ((nw d5).trans (nw (hx.1 d5))))),rfl⟩) (λh10=>KX (zR ⟨zc (Value.int .i64) (aie (show lF s=_ from (nw h3).trans ((nw d5).trans (t8 (ahY (λhn=>KB (hx.2 hn) d5)))))),rfl⟩))))
theorem O6 {β:Bs} (S:bg) (L:HL) (f m t:Nat) (th:Th) (bZ:(ah S.O th.k).kind=th.kind) (h3:th.kind=1\/th.kind=2\/th.kind=3) (cA:0<=(ah S.O th.k).aR/\(ah S.O th.k).aR<=1048576) :
 aW Tryz.prog β 215 #[vP f,(jg L th)] [pF f m t S.X,pT t S.X.cH S.aL L S.us,pO S.O L] (λv l=>v=.tuple #[vI (fB S th).1,vI (fB S th).2.1]/\l=[pF f m t S.X,pT t S.X.cH ((fB S th).2.2.aL) L ((fB S th).2.2.us),pO ((fB S th).2.2.O) L]):=by
 refine SE Tryz.func215 Tryz.ntmps215 (λR=>ax.seq ?_)
 obtain⟨tk,kd⟩:=th;simp only at bZ h3;rcases Int.lt_or_le (S.us.length:Int) S.X.cH with O7|O7<;>rcases h3 with e0|e0|e0<;>subst e0
 ·replace bZ:(ah S.O tk).kind=1:=bZ
  replace cA:0<=(ah S.O tk).aR/\(ah S.O tk).aR<=1048576:=cA
  refine ax.region (jK 2 [] [] (NS (jK 5 [12,13] [(3,a_ 0 f)] (gE [1] ((HF t S.X.cH S.aL (dM L S.us) (jg L ⟨tk,1⟩) (by rw [wK];exact O7)).mono (λv l h=>Kw h)) (jK 5 [6,7] [] (NZ (jK 2 [18] [] (NT (ax.region (jK 1 [19] [] (gE [] (iG (L.b tk)) (jK 6 [24,26] [(2,v_ 2 (qQ L bZ)),(3,wJ ((ah S.O tk).aR+1) ((ah S.O tk).aR+1))] (Bt 2 [] tk 7 (λo=>{o with aR:=o.aR+1}) bZ (λjI gM=>?_))))))))))))))
  have ahm:=ku gM bZ
  exact NS (jK 4 [4,5] [] (eN (l:=[pF f m t S.X,pT t S.X.cH (max S.aL ((S.us.length:Int)+1)) L (ins (aI.aS S.us) ⟨tk,1⟩ S.us),pO jI L]) (v:=(.tuple #[vI ((aI.aS S.us)),vI 0])) (by grind [fB,mB]) [1,0,2,3]))
 ·replace bZ:(ah S.O tk).kind=2:=bZ
  replace cA:0<=(ah S.O tk).aR/\(ah S.O tk).aR<=1048576:=cA
  refine ax.region (jK 2 [] [] (NS (jK 5 [12,13] [(3,a_ 0 f)] (gE [1] ((HF t S.X.cH S.aL (dM L S.us) (jg L ⟨tk,2⟩) (by rw [wK];exact O7)).mono (λv l h=>Kw h)) (jK 5 [6,7] [] (NZ (jK 2 [18] [] (NT (ax.region (jK 1 [19] [] (gE [] (iG (L.b tk)) (jK 6 [24,26] [(2,v_ 2 (qQ L bZ)),(3,wJ ((ah S.O tk).aR+1) ((ah S.O tk).aR+1))] (Bt 2 [] tk 7 (λo=>{o with aR:=o.aR+1}) bZ (λjI gM=>?_))))))))))))))
  have abM:=ku gM bZ
  exact NS (jK 4 [4,5] [] (eN (l:=[pF f m t S.X,pT t S.X.cH (max S.aL ((S.us.length:Int)+1)) L (ins (aI.aS S.us) ⟨tk,2⟩ S.us),pO jI L]) (v:=(.tuple #[vI ((aI.aS S.us)),vI 0])) (by grind [fB,mB]) [1,0,2,3]))
 ·replace bZ:(ah S.O tk).kind=3:=bZ
  replace cA:0<=(ah S.O tk).aR/\(ah S.O tk).aR<=1048576:=cA
  refine ax.region (jK 2 [] [] (NS (jK 5 [12,13] [(3,a_ 0 f)] (gE [1] ((HF t S.X.cH S.aL (dM L S.us) (jg L ⟨tk,3⟩) (by rw [wK];exact O7)).mono (λv l h=>Kw h)) (jK 5 [6,7] [] (NZ (jK 2 [18] [] (NT (ax.region (jK 1 [19] [] (gE [] (iG (L.b tk)) (jK 6 [24,26] [(2,v_ 2 (qQ L bZ)),(3,wJ ((ah S.O tk).aR+1) ((ah S.O tk).aR+1))] (Bt 2 [] tk 7 (λo=>{o with aR:=o.aR+1}) bZ (λjI gM=>?_))))))))))))))
  have Nb:=ku gM bZ
  exact NS (jK 4 [4,5] [] (eN (l:=[pF f m t S.X,pT t S.X.cH (max S.aL ((S.us.length:Int)+1)) L (ins (aI.aS S.us) ⟨tk,3⟩ S.us),pO jI L]) (v:=(.tuple #[vI ((aI.aS S.us)),vI 0])) (by grind [fB,mB]) [1,0,2,3]))
 ·replace bZ:(ah S.O tk).kind=1:=bZ
  replace cA:0<=(ah S.O tk).aR/\(ah S.O tk).aR<=1048576:=cA
  exact ax.region (jK 2 [] [] (NS (jK 5 [12,13] [(3,a_ 0 f)] (gE [1] (Ey t S.X.cH S.aL (dM L S.us) (jg L ⟨tk,1⟩) (by rw [wK];exact O7)) (jK 5 [6,7] [] (NZ (jK 2 [18] [] (NF (KX (zR (by skip;rw [show fB S ⟨tk,1⟩=_ from og d5]<;>exact⟨rfl,rfl⟩) [1,0,2,3]))))))))))
 ·replace bZ:(ah S.O tk).kind=2:=bZ
  replace cA:0<=(ah S.O tk).aR/\(ah S.O tk).aR<=1048576:=cA
  exact ax.region (jK 2 [] [] (NS (jK 5 [12,13] [(3,a_ 0 f)] (gE [1] (Ey t S.X.cH S.aL (dM L S.us) (jg L ⟨tk,2⟩) (by rw [wK];exact O7)) (jK 5 [6,7] [] (NZ (jK 2 [18] [] (NF (KX (zR (by skip;rw [show fB S ⟨tk,2⟩=_ from og d5]<;>exact⟨rfl,rfl⟩) [1,0,2,3]))))))))))
 replace bZ:(ah S.O tk).kind=3:=bZ
 replace cA:0<=(ah S.O tk).aR/\(ah S.O tk).aR<=1048576:=cA
 exact ax.region (jK 2 [] [] (NS (jK 5 [12,13] [(3,a_ 0 f)] (gE [1] (Ey t S.X.cH S.aL (dM L S.us) (jg L ⟨tk,3⟩) (by rw [wK];exact O7)) (jK 5 [6,7] [] (NZ (jK 2 [18] [] (NF (KX (zR (by skip;rw [show fB S ⟨tk,3⟩=_ from og d5]<;>exact⟨rfl,rfl⟩) [1,0,2,3]))))))))))
theorem Bv {β:Bs} (S:bg) (L:HL) (f m t:Nat) (hI:bC S) (h:Int) (hw:(Lit.int .i64 h).wf=true) (name:ByteArray) (eT:name.size<=1048576) (fD:Int) :
 aW Tryz.prog β 217 #[vP f,vI (h),.string name,vI (fD)] [pF f m t S.X,pT t S.X.cH S.aL L S.us,pO S.O L] (λv l=>v=agt L (gH S.O S.us h name fD)/\l=[pF f m t S.X,pT t S.X.cH S.aL L S.us,pO S.O L]):=by
 refine SE Tryz.func217 Tryz.ntmps217 (λR=>ax.seq ?_)
 rcases hI.hand h with qU|⟨tk,qU,cW⟩|⟨tk,qU,cW⟩
 ·exact ax.region (jK 2 [] [] (NS (jK 5 [18,19] [(3,a_ 0 f)] (gE [1] (LK t S.X.cH S.aL (dM L S.us) h hw (HY qU)) (jK 5 [10,11] [] (NZ (jK 2 [24] [] (NT (zR (v:=(.tuple #[.pointer none,vI 131])) ⟨by rw [show gH S.O S.us h name fD=.error 131 by unfold gH;rw [qU]];rfl,rfl⟩ [1,0,2,3])))))))))
 ·have bZ:(ah S.O tk).kind=1:=hI.kind cW
  exact ax.region (jK 2 [] [] (NS (jK 5 [18,19] [(3,a_ 0 f)] (gE [1] (HE t S.X.cH S.aL (dM L S.us) h hw (jg L ⟨tk,1⟩) (Dm qU)) (jK 5 [10,11] [] (NZ (jK 2 [24] [] (NF (KX (SR (jK 7 [12,13] [] (NN (ax.seq (ax.block (SR (jK 3 [31] [] (NT (zR (v:=(.tuple #[.pointer none,vI 173])) ⟨by rw [show gH S.O S.us h name fD=.error 173 by grind [gH]];rfl,rfl⟩ [1,0,2,3]))))))))))))))))))
 have bZ:(ah S.O tk).kind=2:=hI.kind cW
 exact ax.region (jK 2 [] [] (NS (jK 5 [18,19] [(3,a_ 0 f)] (gE [1] (HE t S.X.cH S.aL (dM L S.us) h hw (jg L ⟨tk,2⟩) (Dm qU)) (jK 5 [10,11] [] (NZ (jK 2 [24] [] (NF (KX (SR (jK 7 [12,13] [] (NN (ax.seq (ax.block (SR (jK 3 [31] [] (NF (SR (jK 6 [34] [(4,v_ 2 (xZ L bZ))] (NN (ax.cond (b:=(ah S.O tk).aJ) (λ_=>d6) (λxG=>zR (v:=(.tuple #[.pointer none,vI 170])) ⟨by rw [show gH S.O S.us h name fD=.error 170 by grind [gH]];rfl,rfl⟩ [1,0,2,3]) (λxG=>SR (jK 1 [41] [] (gE [] (zF name eT) (jK 2 [40] [] (NN (cN (bU name) (λtI=>zR (v:=(.tuple #[.pointer none,vI 95])) ⟨by rw [show gH S.O S.us h name fD=.error 95 by grind [gH]];rfl,rfl⟩ [1,0,2,3]) (λtI=>SR (jK 10 [44] [(4,v_ 2 (Jw L bZ))] (NN (cN ((bits BinOp.and .i64 ((ah S.O tk).mode) fD:Int)=(fD:Int)) (λzG=>zR (v:=(.tuple #[.pointer none,vI 175])) ⟨by rw [show gH S.O S.us h name fD=.error 175 by grind [gH]];rfl,rfl⟩ [1,0,2,3]) (λzG=>KX (zR (v:=(.tuple #[vP (L.b tk),vI 0])) ⟨by rw [show gH S.O S.us h name fD=.ok tk by grind [gH]];rfl,rfl⟩ [1,0,2,3])))))))))))))))))))))))))))))))))
theorem acS {β:Bs} (X:FM) (f m t:Nat) (hX:0<=X.aq/\X.aq<=1048576/\-1125899906842624<=X.used/\X.used<=1125899906842624/\0<=X.last/\X.last<=1125899906842624) (O:eE) (L:HL) (d:Nat) (eH:(ah O d).kind=2) (name:ByteArray) (eT:name.size<=1048576) (jx:bF name (ah O d).aq=none) (hel:(ah O d).aq.length<=1048576) (ay:bB Th) (hil:ay.length<=1048576) (th:Th) (bZ:(ah O th.k).kind=th.kind) (h3:th.kind=1\/th.kind=2\/th.kind=3) (hb:0<=(ah O th.k).aU/\(ah O th.k).aU<=1048576) (hni:aI.get ay (ah O th.k).id=none) (hw:(Lit.int .i64 (ah O th.k).id).wf=true) :
 aW Tryz.prog β 221 #[vP f,vP (L.b d),.string name,(jg L th)] [pF f m t X,pI m L ay,pO O L,pE O L] (λv l=>v=.tuple #[]/\l=[pF f m t {X with aq:=X.aq+1},pI m L (ins (ah O th.k).id th ay),pO (dW X O d name th) L,pE (dW X O d name th) L]):=by
 refine SE Tryz.func221 Tryz.ntmps221 (λR=>ax.seq ?_)
 obtain⟨tk,kd⟩:=th;simp only at bZ h3;rcases h3 with rfl|rfl|rfl
 ·replace bZ:(ah O tk).kind=1:=bZ
  replace hni:aI.get ay (ah O tk).id=none:=hni
  replace hw:(Lit.int .i64 (ah O tk).id).wf=true:=hw
  refine rM [0,1,2,3,4,9,5,6,7,8,10] 6 [0,1,2,3,4] (jR 6 [0,1,2,3,11,12,17] [(3,a_ 0 f)] (mL [0,1,2,3,4] [] (iG (L.b tk)) ?_ (by rintro _ _ ⟨rfl,rfl⟩;rfl)))
  rintro _ _ ⟨rfl,rfl⟩
  exact nC [0,1,2,3,4] [14] [] [] (nC [0,1,2,3,4] [15] [] [] (nC [0,1,2,3,4] [16] [(0,v_ 2 (Dv L bZ))] [] (ct.last rfl rfl (aE.qF 1 (d:=none) (t:=170) (K:=3) (E:=175) (b:=m) (n:=ay.length) (f:=(dg (dM L ay))) (x:=(.tmp 11)) (ix:=(.tmp 16)) (y:=(.tmp 17)) (key:=vI ((ah O tk).id)) (u:=.iface 184 (vP (L.b tk))) (kl:=(.int .i64 (ah O tk).id)) (n':=(ay.length+1)) (f':=(dg (dM L (ins (ah O tk).id ⟨tk,1⟩ ay)))) (λ_=>d6) d6 (λ_=>d6) (λ_=>d6) (λ_=>d6) ja Tryz.underlying170 (by unfold maxLen;omega) (mo hw) (by rw [kx,hni];rfl) (y5 (L:=L) (t:=⟨tk,1⟩) hni) (NL (aF.np (NX (ax.region (jK 4 [18,19,20,21] [] (gE [0,2,3] (o5 X f m t hX O L d eH name eT jx hel ⟨tk,1⟩ bZ nh hb) (NL (aF.jk [(3,.abs (bK Tryz.prog 3 m (dg (dM L (ins (ah O tk).id ⟨tk,1⟩ ay))) ((ins (ah O tk).id ⟨tk,1⟩ ay).length)))] (λw hS=>by rw [show (ins (ah O tk).id ⟨tk,1⟩ ay).length=ay.length+1 from kK _ _ _];exact hS) (RF (.tuple #[]) [0,3,1,2,4] (⟨rfl,rfl⟩))))))))))))))
 ·replace bZ:(ah O tk).kind=2:=bZ
  replace hni:aI.get ay (ah O tk).id=none:=hni
  replace hw:(Lit.int .i64 (ah O tk).id).wf=true:=hw
  refine rM [0,1,2,3,4,9,5,6,7,8,10] 6 [0,1,2,3,4] (jR 6 [0,1,2,3,11,12,17] [(3,a_ 0 f)] (mL [0,1,2,3,4] [] (iG (L.b tk)) ?_ (by rintro _ _ ⟨rfl,rfl⟩;rfl)))
  rintro _ _ ⟨rfl,rfl⟩
  exact nC [0,1,2,3,4] [14] [] [] (nC [0,1,2,3,4] [15] [] [] (nC [0,1,2,3,4] [16] [(0,v_ 2 (Dv L bZ))] [] (ct.last rfl rfl (aE.qF 1 (d:=none) (t:=170) (K:=3) (E:=175) (b:=m) (n:=ay.length) (f:=(dg (dM L ay))) (x:=(.tmp 11)) (ix:=(.tmp 16)) (y:=(.tmp 17)) (key:=vI ((ah O tk).id)) (u:=.iface 190 (vP (L.b tk))) (kl:=(.int .i64 (ah O tk).id)) (n':=(ay.length+1)) (f':=(dg (dM L (ins (ah O tk).id ⟨tk,2⟩ ay)))) (λ_=>d6) d6 (λ_=>d6) (λ_=>d6) (λ_=>d6) ja Tryz.underlying170 (by unfold maxLen;omega) (mo hw) (by rw [kx,hni];rfl) (y5 (L:=L) (t:=⟨tk,2⟩) hni) (NL (aF.np (NX (ax.region (jK 4 [18,19,20,21] [] (gE [0,2,3] (o5 X f m t hX O L d eH name eT jx hel ⟨tk,2⟩ bZ nh hb) (NL (aF.jk [(3,.abs (bK Tryz.prog 3 m (dg (dM L (ins (ah O tk).id ⟨tk,2⟩ ay))) ((ins (ah O tk).id ⟨tk,2⟩ ay).length)))] (λw hS=>by rw [show (ins (ah O tk).id ⟨tk,2⟩ ay).length=ay.length+1 from kK _ _ _];exact hS) (RF (.tuple #[]) [0,3,1,2,4] (⟨rfl,rfl⟩))))))))))))))
 replace bZ:(ah O tk).kind=3:=bZ
 replace hni:aI.get ay (ah O tk).id=none:=hni
 replace hw:(Lit.int .i64 (ah O tk).id).wf=true:=hw
 refine rM [0,1,2,3,4,9,5,6,7,8,10] 6 [0,1,2,3,4] (jR 6 [0,1,2,3,11,12,17] [(3,a_ 0 f)] (mL [0,1,2,3,4] [] (iG (L.b tk)) ?_ (by rintro _ _ ⟨rfl,rfl⟩;rfl)))
 rintro _ _ ⟨rfl,rfl⟩
 exact nC [0,1,2,3,4] [14] [] [] (nC [0,1,2,3,4] [15] [] [] (nC [0,1,2,3,4] [16] [(0,v_ 2 (Dv L bZ))] [] (ct.last rfl rfl (aE.qF 1 (d:=none) (t:=170) (K:=3) (E:=175) (b:=m) (n:=ay.length) (f:=(dg (dM L ay))) (x:=(.tmp 11)) (ix:=(.tmp 16)) (y:=(.tmp 17)) (key:=vI ((ah O tk).id)) (u:=.iface 187 (vP (L.b tk))) (kl:=(.int .i64 (ah O tk).id)) (n':=(ay.length+1)) (f':=(dg (dM L (ins (ah O tk).id ⟨tk,3⟩ ay)))) (λ_=>d6) d6 (λ_=>d6) (λ_=>d6) (λ_=>d6) ja Tryz.underlying170 (by unfold maxLen;omega) (mo hw) (by rw [kx,hni];rfl) (y5 (L:=L) (t:=⟨tk,3⟩) hni) (NL (aF.np (NX (ax.region (jK 4 [18,19,20,21] [] (gE [0,2,3] (o5 X f m t hX O L d eH name eT jx hel ⟨tk,3⟩ bZ nh hb) (NL (aF.jk [(3,.abs (bK Tryz.prog 3 m (dg (dM L (ins (ah O tk).id ⟨tk,3⟩ ay))) ((ins (ah O tk).id ⟨tk,3⟩ ay).length)))] (λw hS=>by rw [show (ins (ah O tk).id ⟨tk,3⟩ ay).length=ay.length+1 from kK _ _ _];exact hS) (RF (.tuple #[]) [0,3,1,2,4] (⟨rfl,rfl⟩))))))))))))))
end
section
open Go.RowKit Go.Maps bw aI
attribute [local irreducible] aE bH ax aF
theorem Dx {β:Bs} (S:bg) (L:HL) (f m t:Nat) (hI:Inv0 S) (d:Nat) (hd:aT S.ay ⟨d,2⟩) (name:ByteArray) (eT:name.size<=1048576) (jx:bF name (ah S.O d).aq=none) (o:bT) (hid:o.id=S.X.last+1) (hk3:o.kind=1\/o.kind=2\/o.kind=3) (hl0:o.aU=0) (hlast:S.X.last<1099511627776) :
 aW Tryz.prog β 221 #[vP f,vP (L.b d),.string name,jg L ⟨(dm S.X),o.kind⟩] [pF f m t {S.X with last:=S.X.last+1},pI m L S.ay,pO (bE S.O (dm S.X) (λ_=>o)) L,pE (bE S.O (dm S.X) (λ_=>o)) L] (λv l=>v=.tuple #[]/\l=[pF f m t ((gU S d name o).X),pI m L ((gU S d name o).ay),pO ((gU S d name o).O) L,pE ((gU S d name o).O) L]):=by
 have hX:=hI.hX
 have cG:d≠(dm S.X):=hI.EA hd
 have eH:(ah S.O d).kind=2:=hI.kind hd
 have hel:(ah S.O d).aq.length<=8192:=hI.mq hd
 have jT:=hI.len
 have e1:ah (bE S.O (dm S.X) (λ_=>o)) (dm S.X)=o:=iq
 have e2:ah (bE S.O (dm S.X) (λ_=>o)) d=ah S.O d:=jf cG
 have hnk:=sX hI
 have h:=acS (β:=β) {S.X with last:=S.X.last+1} f m t (by simp only;omega) (bE S.O (dm S.X) (λ_=>o)) L d (by rw [e2];exact eH) name eT (by rw [e2];exact jx) (by rw [e2];omega) S.ay d5 ⟨(dm S.X),o.kind⟩ (by rw [e1]) hk3 (by rw [e1,hl0];decide) (by
  rw [e1,hid]
  cases e:aI.get S.ay (S.X.last+1) with
  |none=>rfl
  |some u=>have:=(hI.ay _ u e).2.2;omega) (by rw [e1,hid];exact WalkArith.wf_i64 (by have:=hI.last;omega))
 rw [e1,hid] at h
 exact h
theorem L6 {β:Bs} (S:bg) (L:HL) (f m t:Nat) (hI:bC S) (d:Nat) (hd:aT S.ay ⟨d,2⟩) (name:ByteArray) (eT:name.size<=1048576) (mode:Int) :
 aW Tryz.prog β 218 #[vP f,vP (L.b d),.string name,vI (mode)] (pA f m t L S) (λv l=>∃L2,v=vI (lP S d name mode).1/\l=(pA f m t L2 ((lP S d name mode).2))):=by
 have hX:=hI.hX
 have hel:(ah S.O d).aq.length<=8192:=hI.mq hd
 have eH:(ah S.O d).kind=2:=hI.kind hd
 refine SE Tryz.func218 Tryz.ntmps218 (λR=>SR (jK 1 [] [] (NS (jK 3 [10,11,12] [] (gE [0,1,5,3] (ER S L f m t hI d hd name eT) (jK 1 [9] [] (NZ (jK 2 [15] [] (NN (cP (((gY S.X S.O S.ay d name):Int)=(0:Int)) (λh0=>?_) (λh0=>KX (zR ⟨L,by rw [show lP S d name mode=_ from nw h0]<;>exact⟨rfl,rfl⟩⟩ [0,1,4,3,5,2,6]))))))))))))
 have jx:=xQ h0
 refine ax.region (jK 5 [16,17,18,19,20] [] (gE [0] (EN S.X f m t hX mode) (aE.sK (d:=(some 22)) (t:=195) (λ_=>d6) Tryz.prog rfl 9 (λm1=>jB 3 [25] (λb2=>.aD b2 [vI (S.X.last+1),vI (mode),vI 0,vI 0,vI (S.X.cS),vI (S.X.cZ),vI 0,vI 0,.bool false,.map (some m1),.pointer none] 197) (λb2=>?_)))))
 obtain⟨L2,jy⟩:∃L2:HL,L2=L.put (dm S.X) b2 m1 none 0:=⟨_,rfl⟩
 have hfr:=hI.toInv0.fresh
 exact aE.mem (λw hS=>hS.FU jy hfr (o:=(dN S.X 2 mode)) (i:=3) (j:=8) (ix:=[0,1,2,4,5,6,7]) rfl rfl d6 rfl (by show (2:Int)≠0;decide) ((uh (L:=L2) (k:=(dm S.X)) (o:=(dN S.X 2 mode)) rfl).trans (by rw [Ow jy];rfl)) rfl) (aE.mem (λw hS=>hS.abD jy hfr (o:=(dN S.X 2 mode)) (i:=3) (j:=7) (ix:=[0,1,2,4,5,6]) rfl rfl d6 rfl rfl rfl) (aE.jk [(5,pD (bE S.O (dm S.X) (λ_=>(dN S.X 2 mode))) L2)] (λw hS=>hS.Jh jy (o:=(dN S.X 2 mode)) (i:=5) rfl (by show (2:Int)≠1;decide)) (aE.jk [(3,.abs (bK Tryz.prog 3 m (dg (dM L2 S.ay)) S.ay.length)),(4,.abs (ia 233 t S.X.cH S.aL (dM L2 S.us)))] (λw hS=>by rw [pZ jy hfr.ay,pZ jy hfr.us];exact hS) (gE [2,3,1,0] ((by have h:=Dx (β:=β) S L2 f m t hI.toInv0 d hd name eT jx (dN S.X 2 mode) rfl (by simp [dN]) rfl (Ce h0);rw [FT jy (hI.EA hd),y6 jy] at h;exact h)) (NS (aE.jk [(5,.abs (bp (eX ((gU S d name (dN S.X 2 mode)).O) L2)))] (λw hS=>by rw [show eX ((gU S d name (dN S.X 2 mode)).O) L2=eX (bE S.O (dm S.X) (λ_=>(dN S.X 2 mode))) L2 from oY];exact hS) (jK 2 [8] [] (eN ⟨L2,by rw [show lP S d name mode=_ from t8 h0];refine⟨zc _ h0,?_⟩;rfl⟩ [0,1,4,2,5,3,6]))))))))
theorem Rb {β:Bs} (S:bg) (L:HL) (f m t:Nat) (hI:bC S) (d:Nat) (hd:aT S.ay ⟨d,2⟩) (name:ByteArray) (eT:name.size<=1048576) (text:ByteArray) (htz:text.size<=1048576) :
 aW Tryz.prog β 222 #[vP f,vP (L.b d),.string name,.string text] (pA f m t L S) (λv l=>∃L2,v=vI (jX S d name text).1/\l=(pA f m t L2 ((jX S d name text).2))):=by
 have hX:=hI.hX
 have hel:(ah S.O d).aq.length<=8192:=hI.mq hd
 have eH:(ah S.O d).kind=2:=hI.kind hd
 refine SE Tryz.func222 Tryz.ntmps222 (λR=>SR (jK 1 [] [] (NS (jK 1 [10] [] (gE [] (acR text htz) (jK 1 [9] [] (NZ (jK 2 [13] [] (NN (cP (((lF text):Int)=(0:Int)) (λhb=>ax.region (jK 3 [14,15,16] [] (gE [0,1,5,3] (ER S L f m t hI d hd name eT) (jK 1 [9] [] (NZ (jK 2 [19] [] (NN (cP (((gY S.X S.O S.ay d name):Int)=(0:Int)) (λh0=>?_) (λh0=>KX (zR ⟨L,by rw [show jX S d name text=_ from (t8 hb).trans (nw h0)]<;>exact⟨rfl,rfl⟩⟩ [0,1,4,3,5,2,6])))))))))) (λhb=>KX (SQ (jK 2 [19] [] (NN (cP (((lF text):Int)=(0:Int)) (λh0=>KB h0 hb) (λh0=>KX (zR ⟨L,by rw [show jX S d name text=_ from nw hb]<;>exact⟨rfl,rfl⟩⟩)))))))))))))))))
 have jx:=xQ h0
 refine ax.region (jK 4 [20,21,22,23] [] (gE [0] (EN S.X f m t hX 511) (jB 4 [28] (λb3=>.aD b3 [vI (S.X.last+1),vI (511),vI 0,vI 0,vI (S.X.cS),vI (S.X.cZ),vI 0,vI 0,.bool false,.string text] 189) (λb3=>?_))))
 obtain⟨L2,jy⟩:∃L2:HL,L2=L.put (dm S.X) b3 0 none 0:=⟨_,rfl⟩
 have hfr:=hI.toInv0.fresh
 exact aE.mem (λw hS=>hS.FU jy hfr (o:={dN S.X 3 511 with target:=text}) (i:=3) (j:=7) (ix:=[0,1,2,4,5,6]) rfl rfl d6 rfl (by show (3:Int)≠0;decide) ((Es (L:=L2) (k:=(dm S.X)) (o:={dN S.X 3 511 with target:=text}) rfl).trans iu) rfl) (aE.jk [(3,pE (bE S.O (dm S.X) (λ_=>{dN S.X 3 511 with target:=text})) L2)] (λw hS=>hS.Jg jy hfr (o:={dN S.X 3 511 with target:=text}) (i:=3) rfl (by show (3:Int)≠2;decide)) (aE.jk [(5,pD (bE S.O (dm S.X) (λ_=>{dN S.X 3 511 with target:=text})) L2)] (λw hS=>hS.Jh jy (o:={dN S.X 3 511 with target:=text}) (i:=5) rfl (by show (3:Int)≠1;decide)) (aE.jk [(2,.abs (bK Tryz.prog 3 m (dg (dM L2 S.ay)) S.ay.length)),(4,.abs (ia 233 t S.X.cH S.aL (dM L2 S.us)))] (λw hS=>by rw [pZ jy hfr.ay,pZ jy hfr.us];exact hS) (gE [1,2,0,3] ((by have h:=Dx (β:=β) S L2 f m t hI.toInv0 d hd name eT jx {dN S.X 3 511 with target:=text} rfl (by simp [dN]) rfl (Ce h0);rw [FT jy (hI.EA hd),y6 jy] at h;exact h)) (NS (aE.jk [(5,.abs (bp (eX ((gU S d name {dN S.X 3 511 with target:=text}).O) L2)))] (λw hS=>by rw [show eX ((gU S d name {dN S.X 3 511 with target:=text}).O) L2=eX (bE S.O (dm S.X) (λ_=>{dN S.X 3 511 with target:=text})) L2 from oY];exact hS) (jK 2 [8] [] (eN ⟨L2,by rw [show jX S d name text=_ from (t8 hb).trans (t8 h0)];refine⟨zc _ h0,?_⟩;rfl⟩ [0,1,4,2,5,3,6]))))))))
theorem Uz {β:Bs} (S:bg) (L:HL) (f m t:Nat) (hI:bC S) (d:Nat) (hd:aT S.ay ⟨d,2⟩) (name:ByteArray) (eT:name.size<=1048576) :
 aW Tryz.prog β 225 #[vP f,vP (L.b d),.string name] (pA f m t L S) (λv l=>∃L2,v=vI (iO S d name).1/\l=(pA f m t L2 ((iO S d name).2))):=by
 have hX:=hI.hX
 have hel:(ah S.O d).aq.length<=8192:=hI.mq hd
 have eH:(ah S.O d).kind=2:=hI.kind hd
 refine SE Tryz.func225 Tryz.ntmps225 (λR=>ax.seq ?_)
 rcases hI.vC hd name with fA|⟨tk,fA,cW⟩|⟨tk,fA,cW⟩|⟨tk,fA,cW⟩
 ·exact ax.region (jK 1 [] [] (NZ (jK 5 [10,11] [(3,v_ 3 (eF L eH))] (mX 5 eH fA (NN (ax.block (SR (jK 1 [13] [] (NT (zR ⟨L,by rw [show iO S d name=(170,S) by unfold iO;rw [fA]]<;>exact⟨rfl,rfl⟩⟩))))))))))
 ·have bZ:(ah S.O tk).kind=1:=hI.kind cW
  exact ax.region (jK 1 [] [] (NZ (jK 5 [10,11] [(3,v_ 3 (eF L eH))] (mX 5 eH fA (NN (ax.block (SR (jK 1 [13] [] (NF (SR (jK 3 [15] [] (NF (KX (SR (jK 3 [17,18,19] [] (gE [0,3,5,1] (ur S L f m t hI d hd name eT ⟨tk,1⟩ fA) (NS (aE.jk [(5,.abs (bp (eX ((aZ S d name ⟨tk,1⟩).O) L)))] (λw hS=>by rw [show eX ((aZ S d name ⟨tk,1⟩).O) L=eX S.O L from um];exact hS) (jK 1 [6] [] (eN ⟨L,by rw [show iO S d name=(0,aZ S d name ⟨tk,1⟩) by grind [iO]]<;>exact⟨rfl,rfl⟩⟩ [0,3,4,1,5,2,6]))))))))))))))))))))
 ·have bZ:(ah S.O tk).kind=2:=hI.kind cW
  exact ax.region (jK 1 [] [] (NZ (jK 5 [10,11] [(3,v_ 3 (eF L eH))] (mX 5 eH fA (NN (ax.block (SR (jK 1 [13] [] (NF (SR (jK 3 [15] [] (NT (zR ⟨L,by rw [show iO S d name=(172,S) by grind [iO]]<;>exact⟨rfl,rfl⟩⟩)))))))))))))
 have bZ:(ah S.O tk).kind=3:=hI.kind cW
 exact ax.region (jK 1 [] [] (NZ (jK 5 [10,11] [(3,v_ 3 (eF L eH))] (mX 5 eH fA (NN (ax.block (SR (jK 1 [13] [] (NF (SR (jK 3 [15] [] (NF (KX (SR (jK 3 [17,18,19] [] (gE [0,3,5,1] (ur S L f m t hI d hd name eT ⟨tk,3⟩ fA) (NS (aE.jk [(5,.abs (bp (eX ((aZ S d name ⟨tk,3⟩).O) L)))] (λw hS=>by rw [show eX ((aZ S d name ⟨tk,3⟩).O) L=eX S.O L from um];exact hS) (jK 1 [6] [] (eN ⟨L,by rw [show iO S d name=(0,aZ S d name ⟨tk,3⟩) by grind [iO]]<;>exact⟨rfl,rfl⟩⟩ [0,3,4,1,5,2,6]))))))))))))))))))))
theorem WN {β:Bs} (S:bg) (L:HL) (f m t:Nat) (hI:bC S) (d:Nat) (hd:aT S.ay ⟨d,2⟩) (name:ByteArray) (eT:name.size<=1048576) :
 aW Tryz.prog β 231 #[vP f,vP (L.b d),.string name] (pA f m t L S) (λv l=>∃L2,v=vI (jo S d name).1/\l=(pA f m t L2 ((jo S d name).2))):=by
 have hX:=hI.hX
 have hel:(ah S.O d).aq.length<=8192:=hI.mq hd
 have eH:(ah S.O d).kind=2:=hI.kind hd
 refine SE Tryz.func231 Tryz.ntmps231 (λR=>ax.seq ?_)
 rcases hI.vC hd name with fA|⟨tk,fA,cW⟩|⟨tk,fA,cW⟩|⟨tk,fA,cW⟩
 ·exact ax.region (jK 1 [] [] (NS (jK 5 [13,14] [(3,v_ 3 (eF L eH))] (mX 5 eH fA (jK 1 [7] [] (NZ (jK 2 [17] [] (NT (zR (v:=(vI 170)) ⟨L,by skip;rw [show jo S d name=(170,S) by unfold jo;rw [fA]]<;>exact⟨rfl,rfl⟩⟩)))))))))
 ·have bZ:(ah S.O tk).kind=1:=hI.kind cW
  exact ax.region (jK 1 [] [] (NS (jK 5 [13,14] [(3,v_ 3 (eF L eH))] (mX 5 eH fA (jK 1 [7] [] (NZ (jK 2 [17] [] (NF (KX (SR (jK 7 [8,9] [] (NZ (jK 2 [24] [] (NT (zR (v:=(vI 173)) ⟨L,by skip;rw [show jo S d name=(173,S) by grind [jo]]<;>exact⟨rfl,rfl⟩⟩)))))))))))))))
 ·have bZ:(ah S.O tk).kind=2:=hI.kind cW
  have ahF:(ah S.O tk).aq.length<=8192:=hI.mq cW
  refine ax.region (jK 1 [] [] (NS (jK 5 [13,14] [(3,v_ 3 (eF L eH))] (mX 5 eH fA (jK 1 [7] [] (NZ (jK 2 [17] [] (NF (KX (SR (jK 7 [8,9] [] (NZ (jK 2 [24] [] (NF (KX (SQ (jK 4 [28] [(3,v_ 3 (eF L bZ))] (eNk 5 bZ (jK 1 [30] [] (NN (cP (((((ah S.O tk).aq.length:Nat):Int):Int)>(0:Int)) (λrA=>zR (v:=(vI 178)) ⟨L,by skip;rw [show jo S d name=(178,S) by grind [jo,ah]]<;>exact⟨rfl,rfl⟩⟩) (λrA=>KX (SR (jK 3 [31,32,33] [] (gE [0,3,5,1] (ur S L f m t hI d hd name eT ⟨tk,2⟩ fA) (NS (aE.jk [(5,.abs (bp (eX ((aZ S d name ⟨tk,2⟩).O) L)))] (λw hS=>by rw [show eX ((aZ S d name ⟨tk,2⟩).O) L=eX S.O L from um];exact hS) ?_)))))))))))))))))))))))))))
  have EK:(ah (aZ S d name ⟨tk,2⟩).O d).kind=2:=(Jf).trans (eH)
  have Ur:(ah (aZ S d name ⟨tk,2⟩).O tk).kind=2:=(Jf).trans (bZ)
  generalize gM:(aZ S d name ⟨tk,2⟩).O=jI at EK Ur ⊢
  refine jK 3 [37] [] (uSt 1 [(2,1),(5,2)] tk (none) Ur (λjU gP=>?_))
  have aed:=ku gP EK
  have Us:=ku gP Ur
  exact NS (jK 1 [6] [] (eN (l:=[pF f m t ((aZ S d name ⟨tk,2⟩).X),pI m L ((aZ S d name ⟨tk,2⟩).ay),pT t S.X.cH S.aL L S.us,pO jU L,pD jU L,pE jU L]) (v:=(vI 0)) ⟨L,by subst gP;subst gM;rw [show jo S d name=(0,{aZ S d name ⟨tk,2⟩ with O:=jm (aZ S d name ⟨tk,2⟩).O tk}) by unfold jo;rw [fA];exact (t8 rfl).trans (t8 (aic gn))]<;>exact⟨rfl,rfl⟩⟩ [0,3,4,1,5,2,6]))
 have bZ:(ah S.O tk).kind=3:=hI.kind cW
 exact ax.region (jK 1 [] [] (NS (jK 5 [13,14] [(3,v_ 3 (eF L eH))] (mX 5 eH fA (jK 1 [7] [] (NZ (jK 2 [17] [] (NF (KX (SR (jK 7 [8,9] [] (NZ (jK 2 [24] [] (NT (zR (v:=(vI 173)) ⟨L,by skip;rw [show jo S d name=(173,S) by grind [jo]]<;>exact⟨rfl,rfl⟩⟩)))))))))))))))
theorem UA {β:Bs} (S:bg) (L:HL) (f m t:Nat) (hI:bC S) (d:Nat) (hd:aT S.ay ⟨d,2⟩) (name:ByteArray) (eT:name.size<=1048576) (to:Nat) (fq:aT S.ay ⟨to,2⟩) (aG:ByteArray) (vK:aG.size<=1048576) :
 aW Tryz.prog β 232 #[vP f,vP (L.b d),.string name,vP (L.b to),.string aG] (pA f m t L S) (λv l=>∃L2,v=vI (dF S d name to aG).1/\l=(pA f m t L2 ((dF S d name to aG).2))):=by
 have hX:=hI.hX
 have hel:(ah S.O d).aq.length<=8192:=hI.mq hd
 have eH:(ah S.O d).kind=2:=hI.kind hd
 have oH:(ah S.O to).kind=2:=hI.kind fq
 have ahn:(ah S.O to).aq.length<=8192:=hI.mq fq
 refine SE Tryz.func232 Tryz.ntmps232 (λR=>ax.seq ?_)
 rcases hI.vC hd name with fA|⟨tk,fA,cW⟩|⟨tk,fA,cW⟩|⟨tk,fA,cW⟩
 ·exact ax.region (jK 1 [] [] (NS (jK 5 [19,20] [(3,v_ 3 (eF L eH))] (mX 5 eH fA (jK 1 [11] [] (NZ (jK 2 [23] [] (NT (zR ⟨L,by rw [show dF S d name to aG=(170,S) by unfold dF;rw [fA]]<;>exact⟨rfl,rfl⟩⟩)))))))))
 ·have bZ:(ah S.O tk).kind=1:=hI.kind cW
  refine ax.region (jK 1 [] [] (NS (jK 5 [19,20] [(3,v_ 3 (eF L eH))] (mX 5 eH fA (jK 1 [11] [] (NZ (jK 2 [23] [] (NF (KX (SR (jK 7 [12,13] [] (NZ (jK 2 [14] [] (NN (ax.block (lJ (λ(u:Unit)=>True) (λ(u:Unit)=>0) (λ(u:Unit)=>[(0,vP f),(1,vP (L.b d)),(2,.string name),(3,vP (L.b to)),(4,.string aG),(11,.iface 184 (vP (L.b tk))),(12,.pointer none),(13,.bool false),(14,vP (L.b to))]) (λ(u:Unit)=>((pA f m t L S)++[.abs R])) () [0,1,2,3,4,5,6] (trivial) ?_))))))))))))))))
  rintro u _
  refine SQ (jK 5 [34] [] (NF (XX (ax.seq ?_))))
  skip
  rcases hI.vC fq aG with gj|⟨ok,gj,lZ⟩|⟨ok,gj,lZ⟩|⟨ok,gj,lZ⟩
  ·refine ax.region (jK 5 [45,46] [(3,v_ 3 (eF L oH))] (mX 5 oH gj (jK 1 [15] [] (NZ (jK 3 [50] [] (NF (KX (SQ (jK 2 [52] [] (NF (KX (SR ?_))))))))))))
   have dw:bC S:=hI
   have jF:=hd
   have jY:=fA
   have wS:=gj
   have oV:=fq
   have qR:(ah S.O d).kind=2:=dw.kind jF
   have wU:(ah S.O to).kind=2:=dw.kind oV
   have qV:aT S.ay ⟨tk,1⟩:=(dw.bO jF jY).2
   have qW:(ah S.O tk).kind=1:=dw.kind qV
   have KO:(ah S.O d).aq.length<=8192:=dw.mq jF
   have KP:(ah S.O to).aq.length<=8192:=dw.mq oV
   have wV:=dw.lb qV
   have qX:tk≠d:=dw.ne jF jY
   exact jK 3 [61,62,63] [] (gE [0,3,5] (o6 S.X f m t dw.hX S.O L d qR name eT ⟨tk,1⟩ qW nh jY (dw.pQ jF) d5 (by simp only at wV ⊢;omega)) (NS (jK 4 [65,66,67,68] [] (gE [0,1,2] (o5 {S.X with aq:=S.X.aq-1} f m t (dw.Gv jF jY) (bn S.X S.O d name ⟨tk,1⟩) L to (fS.trans wU) aG vK (qd qX wS) (Pd (sF qX) d5) ⟨tk,1⟩ (fS.trans qW) nh (qq dw.toInv0 jF jY)) (NS (aE.jk [(5,.abs (bp (eX (dW S.X (bn S.X S.O d name ⟨tk,1⟩) to aG ⟨tk,1⟩) L)))] (λw hS=>by rw [show eX (dW S.X (bn S.X S.O d name ⟨tk,1⟩) to aG ⟨tk,1⟩) L=eX S.O L from oY.trans qc];exact hS) (jK 1 [10] [] (eN ⟨L,by rw [show dF S d name to aG=(0,pN S d name to aG ⟨tk,1⟩) by grind [dF]]<;>exact⟨rfl,rfl⟩⟩ [0,3,4,1,5,2,6]))))))))
  ·have vL:(ah S.O ok).kind=1:=hI.kind lZ
   refine ax.region (jK 5 [45,46] [(3,v_ 3 (eF L oH))] (mX 5 oH gj (jK 1 [15] [] (NZ (jK 2 [48,49] [] (aE.nQ (d:=(some 50)) (op:=.binOp .eql 175 (.tmp 48) (.tmp 49) 175) (v:=.bool (decide (ok=tk))) (λ_=>d6) (λo av w ho hS=>by obtain⟨F,hF⟩:=hS.get (i:=3) rfl;exact⟨w,HZ adY ho d6 d6 (by rw [vL];decide) (by rw [bZ];decide) hF,hS⟩) (NN (cP (ok=tk) (λh50=>zR ⟨L,by rw [show dF S d name to aG=(0,S) by grind [dF]]<;>exact⟨rfl,rfl⟩⟩) (λh50=>KX (SQ (jK 2 [52] [] (NT (SQ (jK 1 [53] [] (gE [] (zV (vP (L.b ok))) (jK 1 [55] [] (NF (KX (SQ (jK 1 [56] [] (NF (KX (ax.region (jK 3 [57,58,59] [] (gE [0,3,5,1] (ur S L f m t hI to fq aG vK ⟨ok,1⟩ gj) (NS ?_))))))))))))))))))))))))))
   have dw:bC (aZ S to aG ⟨ok,1⟩):=hI.FV fq gj nh
   have hot:(⟨ok,1⟩:Th)≠⟨tk,1⟩:=λe=>h50 (zc Th.k e)
   have jF:aT (aZ S to aG ⟨ok,1⟩).ay ⟨d,2⟩:=oZ hI.toInv0 fq gj hd (λe=>by have:=jJ hd lZ e;cases this)
   have oV:aT (aZ S to aG ⟨ok,1⟩).ay ⟨to,2⟩:=oZ hI.toInv0 fq gj fq (λe=>by have:=jJ fq lZ e;cases this)
   have jY:bF name (ah (aZ S to aG ⟨ok,1⟩).O d).aq=some ⟨tk,1⟩:=xR hI.toInv0 fq gj fA hot
   have wS:bF aG (ah (aZ S to aG ⟨ok,1⟩).O to).aq=none:=xS hI.toInv0 fq gj
   have qR:(ah (aZ S to aG ⟨ok,1⟩).O d).kind=2:=dw.kind jF
   have wU:(ah (aZ S to aG ⟨ok,1⟩).O to).kind=2:=dw.kind oV
   have qV:aT (aZ S to aG ⟨ok,1⟩).ay ⟨tk,1⟩:=(dw.bO jF jY).2
   have qW:(ah (aZ S to aG ⟨ok,1⟩).O tk).kind=1:=dw.kind qV
   have KO:(ah (aZ S to aG ⟨ok,1⟩).O d).aq.length<=8192:=dw.mq jF
   have KP:(ah (aZ S to aG ⟨ok,1⟩).O to).aq.length<=8192:=dw.mq oV
   have wV:=dw.lb qV
   have qX:tk≠d:=dw.ne jF jY
   exact jK 3 [61,62,63] [] (gE [0,1,2] (o6 (aZ S to aG ⟨ok,1⟩).X f m t dw.hX (aZ S to aG ⟨ok,1⟩).O L d qR name eT ⟨tk,1⟩ qW nh jY (dw.pQ jF) d5 (by simp only at wV ⊢;omega)) (NS (jK 4 [65,66,67,68] [] (gE [0,1,2] (o5 { (aZ S to aG ⟨ok,1⟩).X with aq:=(aZ S to aG ⟨ok,1⟩).X.aq-1} f m t (dw.Gv jF jY) (bn (aZ S to aG ⟨ok,1⟩).X (aZ S to aG ⟨ok,1⟩).O d name ⟨tk,1⟩) L to (fS.trans wU) aG vK (qd qX wS) (Pd (sF qX) d5) ⟨tk,1⟩ (fS.trans qW) nh (qq dw.toInv0 jF jY)) (NS (aE.jk [(5,.abs (bp (eX (dW (aZ S to aG ⟨ok,1⟩).X (bn (aZ S to aG ⟨ok,1⟩).X (aZ S to aG ⟨ok,1⟩).O d name ⟨tk,1⟩) to aG ⟨tk,1⟩) L)))] (λw hS=>by rw [show eX (dW (aZ S to aG ⟨ok,1⟩).X (bn (aZ S to aG ⟨ok,1⟩).X (aZ S to aG ⟨ok,1⟩).O d name ⟨tk,1⟩) to aG ⟨tk,1⟩) L=eX S.O L from oY.trans (qc.trans um)];exact hS) (jK 1 [10] [] (eN ⟨L,by rw [show dF S d name to aG=(0,pN (aZ S to aG ⟨ok,1⟩) d name to aG ⟨tk,1⟩) by grind [dF]]<;>exact⟨rfl,rfl⟩⟩ [0,3,4,1,5,2,6]))))))))
  ·have vL:(ah S.O ok).kind=2:=hI.kind lZ
   exact ax.region (jK 5 [45,46] [(3,v_ 3 (eF L oH))] (mX 5 oH gj (jK 1 [15] [] (NZ (jK 3 [50] [] (NF (KX (SQ (jK 2 [52] [] (NT (SQ (jK 1 [53] [] (gE [] (zW (vP (L.b ok))) (jK 1 [55] [] (NT (zR ⟨L,by rw [show dF S d name to aG=(172,S) by grind [dF]]<;>exact⟨rfl,rfl⟩⟩))))))))))))))))
  have vL:(ah S.O ok).kind=3:=hI.kind lZ
  refine ax.region (jK 5 [45,46] [(3,v_ 3 (eF L oH))] (mX 5 oH gj (jK 1 [15] [] (NZ (jK 3 [50] [] (NF (KX (SQ (jK 2 [52] [] (NT (SQ (jK 1 [53] [] (gE [] (zX (vP (L.b ok))) (jK 1 [55] [] (NF (KX (SQ (jK 1 [56] [] (NF (KX (ax.region (jK 3 [57,58,59] [] (gE [0,3,5,1] (ur S L f m t hI to fq aG vK ⟨ok,3⟩ gj) (NS ?_))))))))))))))))))))))))
  have dw:bC (aZ S to aG ⟨ok,3⟩):=hI.FV fq gj nh
  have hot:(⟨ok,3⟩:Th)≠⟨tk,1⟩:=λe=>by cases e
  have jF:aT (aZ S to aG ⟨ok,3⟩).ay ⟨d,2⟩:=oZ hI.toInv0 fq gj hd (λe=>by have:=jJ hd lZ e;cases this)
  have oV:aT (aZ S to aG ⟨ok,3⟩).ay ⟨to,2⟩:=oZ hI.toInv0 fq gj fq (λe=>by have:=jJ fq lZ e;cases this)
  have jY:bF name (ah (aZ S to aG ⟨ok,3⟩).O d).aq=some ⟨tk,1⟩:=xR hI.toInv0 fq gj fA hot
  have wS:bF aG (ah (aZ S to aG ⟨ok,3⟩).O to).aq=none:=xS hI.toInv0 fq gj
  have qR:(ah (aZ S to aG ⟨ok,3⟩).O d).kind=2:=dw.kind jF
  have wU:(ah (aZ S to aG ⟨ok,3⟩).O to).kind=2:=dw.kind oV
  have qV:aT (aZ S to aG ⟨ok,3⟩).ay ⟨tk,1⟩:=(dw.bO jF jY).2
  have qW:(ah (aZ S to aG ⟨ok,3⟩).O tk).kind=1:=dw.kind qV
  have KO:(ah (aZ S to aG ⟨ok,3⟩).O d).aq.length<=8192:=dw.mq jF
  have KP:(ah (aZ S to aG ⟨ok,3⟩).O to).aq.length<=8192:=dw.mq oV
  have wV:=dw.lb qV
  have qX:tk≠d:=dw.ne jF jY
  exact jK 3 [61,62,63] [] (gE [0,1,2] (o6 (aZ S to aG ⟨ok,3⟩).X f m t dw.hX (aZ S to aG ⟨ok,3⟩).O L d qR name eT ⟨tk,1⟩ qW nh jY (dw.pQ jF) d5 (by simp only at wV ⊢;omega)) (NS (jK 4 [65,66,67,68] [] (gE [0,1,2] (o5 { (aZ S to aG ⟨ok,3⟩).X with aq:=(aZ S to aG ⟨ok,3⟩).X.aq-1} f m t (dw.Gv jF jY) (bn (aZ S to aG ⟨ok,3⟩).X (aZ S to aG ⟨ok,3⟩).O d name ⟨tk,1⟩) L to (fS.trans wU) aG vK (qd qX wS) (Pd (sF qX) d5) ⟨tk,1⟩ (fS.trans qW) nh (qq dw.toInv0 jF jY)) (NS (aE.jk [(5,.abs (bp (eX (dW (aZ S to aG ⟨ok,3⟩).X (bn (aZ S to aG ⟨ok,3⟩).X (aZ S to aG ⟨ok,3⟩).O d name ⟨tk,1⟩) to aG ⟨tk,1⟩) L)))] (λw hS=>by rw [show eX (dW (aZ S to aG ⟨ok,3⟩).X (bn (aZ S to aG ⟨ok,3⟩).X (aZ S to aG ⟨ok,3⟩).O d name ⟨tk,1⟩) to aG ⟨tk,1⟩) L=eX S.O L from oY.trans (qc.trans um)];exact hS) (jK 1 [10] [] (eN ⟨L,by rw [show dF S d name to aG=(0,pN (aZ S to aG ⟨ok,3⟩) d name to aG ⟨tk,1⟩) by grind [dF]]<;>exact⟨rfl,rfl⟩⟩ [0,3,4,1,5,2,6]))))))))
 ·have bZ:(ah S.O tk).kind=2:=hI.kind cW
  refine ax.region (jK 1 [] [] (NS (jK 5 [19,20] [(3,v_ 3 (eF L eH))] (mX 5 eH fA (jK 1 [11] [] (NZ (jK 2 [23] [] (NF (KX (SR (jK 7 [12,13] [] (NZ (jK 2 [14] [] (NN (ax.block ?_)))))))))))))))
  obtain⟨dp,hdp⟩:=hI.deep
  refine lJ (λ(x:Option Nat)=>(rY S.O tk to↔∃z0,x=some z0/\rY S.O tk z0)/\(∀z0,x=some z0->aT S.ay ⟨z0,2⟩)) (λ(x:Option Nat)=>EC dp x) (λ(x:Option Nat)=>[(0,vP f),(1,vP (L.b d)),(2,.string name),(3,vP (L.b to)),(4,.string aG),(11,.iface 190 (vP (L.b tk))),(12,vP (L.b tk)),(13,.bool true),(14,(LH L x))]) (λ(x:Option Nat)=>((pA f m t L S)++[.abs R])) ((some to)) [0,1,2,3,4,5,6] (⟨⟨λh=>⟨to,rfl,h⟩,λ⟨y,e,h⟩=>by cases e;exact h⟩,λy e=>by cases e;exact fq⟩) ?_
  rintro x ⟨hbx,hlx⟩
  refine ax.seq (ax.seq ?_)
  rcases hx:x with _|y
  ·refine ax.region (jK 5 [34] [] (NF (XX (ax.seq ?_))))
   have hnb:¬rY S.O tk to:=λh=>gn
   rcases hI.vC fq aG with gj|⟨ok,gj,lZ⟩|⟨ok,gj,lZ⟩|⟨ok,gj,lZ⟩
   ·refine ax.region (jK 5 [45,46] [(3,v_ 3 (eF L oH))] (mX 5 oH gj (jK 1 [15] [] (NZ (jK 3 [50] [] (NF (KX (SQ (jK 2 [52] [] (NF (KX (SR ?_))))))))))))
    have dw:bC S:=hI
    have jF:=hd
    have jY:=fA
    have wS:=gj
    have oV:=fq
    have qR:(ah S.O d).kind=2:=dw.kind jF
    have wU:(ah S.O to).kind=2:=dw.kind oV
    have qV:aT S.ay ⟨tk,2⟩:=(dw.bO jF jY).2
    have qW:(ah S.O tk).kind=2:=dw.kind qV
    have KO:(ah S.O d).aq.length<=8192:=dw.mq jF
    have KP:(ah S.O to).aq.length<=8192:=dw.mq oV
    have wV:=dw.lb qV
    have qX:tk≠d:=dw.ne jF jY
    exact jK 3 [61,62,63] [] (gE [0,3,5] (o6 S.X f m t dw.hX S.O L d qR name eT ⟨tk,2⟩ qW nh jY (dw.pQ jF) d5 (by simp only at wV ⊢;omega)) (NS (jK 4 [65,66,67,68] [] (gE [0,1,2] (o5 {S.X with aq:=S.X.aq-1} f m t (dw.Gv jF jY) (bn S.X S.O d name ⟨tk,2⟩) L to (fS.trans wU) aG vK (qd qX wS) (Pd (sF qX) d5) ⟨tk,2⟩ (fS.trans qW) nh (qq dw.toInv0 jF jY)) (NS (aE.jk [(5,.abs (bp (eX (dW S.X (bn S.X S.O d name ⟨tk,2⟩) to aG ⟨tk,2⟩) L)))] (λw hS=>by rw [show eX (dW S.X (bn S.X S.O d name ⟨tk,2⟩) to aG ⟨tk,2⟩) L=eX S.O L from oY.trans qc];exact hS) (jK 1 [10] [] (eN ⟨L,by rw [show dF S d name to aG=(0,pN S d name to aG ⟨tk,2⟩) by grind [dF]]<;>exact⟨rfl,rfl⟩⟩ [0,3,4,1,5,2,6]))))))))
   ·have vL:(ah S.O ok).kind=1:=hI.kind lZ
    exact ax.region (jK 5 [45,46] [(3,v_ 3 (eF L oH))] (mX 5 oH gj (jK 1 [15] [] (NZ (jK 3 [50] [] (NF (KX (SQ (jK 2 [52] [] (NT (SQ (jK 1 [53] [] (gE [] (zV (vP (L.b ok))) (jK 1 [55] [] (NF (KX (SQ (jK 1 [56] [] (NT (zR ⟨L,by rw [show dF S d name to aG=(173,S) by grind [dF]]<;>exact⟨rfl,rfl⟩⟩))))))))))))))))))))
   ·have vL:(ah S.O ok).kind=2:=hI.kind lZ
    exact ax.region (jK 5 [45,46] [(3,v_ 3 (eF L oH))] (mX 5 oH gj (jK 1 [15] [] (NZ (jK 2 [48,49] [] (aE.nQ (d:=(some 50)) (op:=.binOp .eql 175 (.tmp 48) (.tmp 49) 175) (v:=.bool (decide (ok=tk))) (λ_=>d6) (λo av w ho hS=>by obtain⟨F,hF⟩:=hS.get (i:=3) rfl;exact⟨w,HZ afH ho d6 d6 (by rw [vL];decide) (by rw [bZ];decide) hF,hS⟩) (NN (cP (ok=tk) (λh50=>zR ⟨L,by rw [show dF S d name to aG=(0,S) by grind [dF]]<;>exact⟨rfl,rfl⟩⟩) (λh50=>KX (SQ (jK 2 [52] [] (NT (SQ (jK 1 [53] [] (gE [] (zW (vP (L.b ok))) (jK 1 [55] [] (NT (zR ⟨L,by rw [show dF S d name to aG=(172,S) by grind [dF]]<;>exact⟨rfl,rfl⟩⟩))))))))))))))))))
   have vL:(ah S.O ok).kind=3:=hI.kind lZ
   exact ax.region (jK 5 [45,46] [(3,v_ 3 (eF L oH))] (mX 5 oH gj (jK 1 [15] [] (NZ (jK 3 [50] [] (NF (KX (SQ (jK 2 [52] [] (NT (SQ (jK 1 [53] [] (gE [] (zX (vP (L.b ok))) (jK 1 [55] [] (NF (KX (SQ (jK 1 [56] [] (NT (zR ⟨L,by rw [show dF S d name to aG=(173,S) by grind [dF]]<;>exact⟨rfl,rfl⟩⟩))))))))))))))))))))
  have hky:(ah S.O y).kind=2:=hI.kind (hlx y hx)
  exact ax.region (jK 5 [34] [] (NT (KX (ax.seq (ax.block (SR (jK 2 [39,40] [] (aE.nQ (d:=(some 41)) (op:=.binOp .eql 190 (.tmp 39) (.tmp 40) 190) (v:=.bool (decide (y=tk))) (λ_=>d6) (λo av w ho hS=>by obtain⟨F,hF⟩:=hS.get (i:=3) rfl;exact⟨w,Wn ho d6 d6 (by rw [hky];decide) (by rw [bZ];decide) hF,hS⟩) (NN (cP (y=tk) (λzY=>zR ⟨L,by rw [show dF S d name to aG=(174,S) by unfold dF;rw [fA];exact t8 ⟨rfl,hbx.2 ⟨y,hx,by rw [zY];exact .here⟩⟩]<;>exact⟨rfl,rfl⟩⟩) (λzY=>KX (ax.region (jK 5 [14] [(3,v_ 3 (agz L hky))] (NL (tJ (((ah S.O y).up)) [0,1,2,3,4,5,6] (⟨hbx.trans ⟨λ⟨y2,e,h⟩=>by grind [Jl],λh=>⟨y,hx,(Jl zY).2 h⟩⟩,λz e=>((hI.up ⟨y,2⟩ (hlx y hx) z).1 e).2.1⟩) (hm:=by show EC dp (((ah S.O y).up))<EC dp (some y);exact Wq hdp))))))))))))))))
 have bZ:(ah S.O tk).kind=3:=hI.kind cW
 refine ax.region (jK 1 [] [] (NS (jK 5 [19,20] [(3,v_ 3 (eF L eH))] (mX 5 eH fA (jK 1 [11] [] (NZ (jK 2 [23] [] (NF (KX (SR (jK 7 [12,13] [] (NZ (jK 2 [14] [] (NN (ax.block (lJ (λ(u:Unit)=>True) (λ(u:Unit)=>0) (λ(u:Unit)=>[(0,vP f),(1,vP (L.b d)),(2,.string name),(3,vP (L.b to)),(4,.string aG),(11,.iface 187 (vP (L.b tk))),(12,.pointer none),(13,.bool false),(14,vP (L.b to))]) (λ(u:Unit)=>((pA f m t L S)++[.abs R])) () [0,1,2,3,4,5,6] (trivial) ?_))))))))))))))))
 rintro u _
 refine SQ (jK 5 [34] [] (NF (XX (ax.seq ?_))))
 skip
 rcases hI.vC fq aG with gj|⟨ok,gj,lZ⟩|⟨ok,gj,lZ⟩|⟨ok,gj,lZ⟩
 ·refine ax.region (jK 5 [45,46] [(3,v_ 3 (eF L oH))] (mX 5 oH gj (jK 1 [15] [] (NZ (jK 3 [50] [] (NF (KX (SQ (jK 2 [52] [] (NF (KX (SR ?_))))))))))))
  have dw:bC S:=hI
  have jF:=hd
  have jY:=fA
  have wS:=gj
  have oV:=fq
  have qR:(ah S.O d).kind=2:=dw.kind jF
  have wU:(ah S.O to).kind=2:=dw.kind oV
  have qV:aT S.ay ⟨tk,3⟩:=(dw.bO jF jY).2
  have qW:(ah S.O tk).kind=3:=dw.kind qV
  have KO:(ah S.O d).aq.length<=8192:=dw.mq jF
  have KP:(ah S.O to).aq.length<=8192:=dw.mq oV
  have wV:=dw.lb qV
  have qX:tk≠d:=dw.ne jF jY
  exact jK 3 [61,62,63] [] (gE [0,3,5] (o6 S.X f m t dw.hX S.O L d qR name eT ⟨tk,3⟩ qW nh jY (dw.pQ jF) d5 (by simp only at wV ⊢;omega)) (NS (jK 4 [65,66,67,68] [] (gE [0,1,2] (o5 {S.X with aq:=S.X.aq-1} f m t (dw.Gv jF jY) (bn S.X S.O d name ⟨tk,3⟩) L to (fS.trans wU) aG vK (qd qX wS) (Pd (sF qX) d5) ⟨tk,3⟩ (fS.trans qW) nh (qq dw.toInv0 jF jY)) (NS (aE.jk [(5,.abs (bp (eX (dW S.X (bn S.X S.O d name ⟨tk,3⟩) to aG ⟨tk,3⟩) L)))] (λw hS=>by rw [show eX (dW S.X (bn S.X S.O d name ⟨tk,3⟩) to aG ⟨tk,3⟩) L=eX S.O L from oY.trans qc];exact hS) (jK 1 [10] [] (eN ⟨L,by rw [show dF S d name to aG=(0,pN S d name to aG ⟨tk,3⟩) by grind [dF]]<;>exact⟨rfl,rfl⟩⟩ [0,3,4,1,5,2,6]))))))))
 ·have vL:(ah S.O ok).kind=1:=hI.kind lZ
  refine ax.region (jK 5 [45,46] [(3,v_ 3 (eF L oH))] (mX 5 oH gj (jK 1 [15] [] (NZ (jK 3 [50] [] (NF (KX (SQ (jK 2 [52] [] (NT (SQ (jK 1 [53] [] (gE [] (zV (vP (L.b ok))) (jK 1 [55] [] (NF (KX (SQ (jK 1 [56] [] (NF (KX (ax.region (jK 3 [57,58,59] [] (gE [0,3,5,1] (ur S L f m t hI to fq aG vK ⟨ok,1⟩ gj) (NS ?_))))))))))))))))))))))))
  have dw:bC (aZ S to aG ⟨ok,1⟩):=hI.FV fq gj nh
  have hot:(⟨ok,1⟩:Th)≠⟨tk,3⟩:=λe=>by cases e
  have jF:aT (aZ S to aG ⟨ok,1⟩).ay ⟨d,2⟩:=oZ hI.toInv0 fq gj hd (λe=>by have:=jJ hd lZ e;cases this)
  have oV:aT (aZ S to aG ⟨ok,1⟩).ay ⟨to,2⟩:=oZ hI.toInv0 fq gj fq (λe=>by have:=jJ fq lZ e;cases this)
  have jY:bF name (ah (aZ S to aG ⟨ok,1⟩).O d).aq=some ⟨tk,3⟩:=xR hI.toInv0 fq gj fA hot
  have wS:bF aG (ah (aZ S to aG ⟨ok,1⟩).O to).aq=none:=xS hI.toInv0 fq gj
  have qR:(ah (aZ S to aG ⟨ok,1⟩).O d).kind=2:=dw.kind jF
  have wU:(ah (aZ S to aG ⟨ok,1⟩).O to).kind=2:=dw.kind oV
  have qV:aT (aZ S to aG ⟨ok,1⟩).ay ⟨tk,3⟩:=(dw.bO jF jY).2
  have qW:(ah (aZ S to aG ⟨ok,1⟩).O tk).kind=3:=dw.kind qV
  have KO:(ah (aZ S to aG ⟨ok,1⟩).O d).aq.length<=8192:=dw.mq jF
  have KP:(ah (aZ S to aG ⟨ok,1⟩).O to).aq.length<=8192:=dw.mq oV
  have wV:=dw.lb qV
  have qX:tk≠d:=dw.ne jF jY
  exact jK 3 [61,62,63] [] (gE [0,1,2] (o6 (aZ S to aG ⟨ok,1⟩).X f m t dw.hX (aZ S to aG ⟨ok,1⟩).O L d qR name eT ⟨tk,3⟩ qW nh jY (dw.pQ jF) d5 (by simp only at wV ⊢;omega)) (NS (jK 4 [65,66,67,68] [] (gE [0,1,2] (o5 { (aZ S to aG ⟨ok,1⟩).X with aq:=(aZ S to aG ⟨ok,1⟩).X.aq-1} f m t (dw.Gv jF jY) (bn (aZ S to aG ⟨ok,1⟩).X (aZ S to aG ⟨ok,1⟩).O d name ⟨tk,3⟩) L to (fS.trans wU) aG vK (qd qX wS) (Pd (sF qX) d5) ⟨tk,3⟩ (fS.trans qW) nh (qq dw.toInv0 jF jY)) (NS (aE.jk [(5,.abs (bp (eX (dW (aZ S to aG ⟨ok,1⟩).X (bn (aZ S to aG ⟨ok,1⟩).X (aZ S to aG ⟨ok,1⟩).O d name ⟨tk,3⟩) to aG ⟨tk,3⟩) L)))] (λw hS=>by rw [show eX (dW (aZ S to aG ⟨ok,1⟩).X (bn (aZ S to aG ⟨ok,1⟩).X (aZ S to aG ⟨ok,1⟩).O d name ⟨tk,3⟩) to aG ⟨tk,3⟩) L=eX S.O L from oY.trans (qc.trans um)];exact hS) (jK 1 [10] [] (eN ⟨L,by rw [show dF S d name to aG=(0,pN (aZ S to aG ⟨ok,1⟩) d name to aG ⟨tk,3⟩) by grind [dF]]<;>exact⟨rfl,rfl⟩⟩ [0,3,4,1,5,2,6]))))))))
 ·have vL:(ah S.O ok).kind=2:=hI.kind lZ
  exact ax.region (jK 5 [45,46] [(3,v_ 3 (eF L oH))] (mX 5 oH gj (jK 1 [15] [] (NZ (jK 3 [50] [] (NF (KX (SQ (jK 2 [52] [] (NT (SQ (jK 1 [53] [] (gE [] (zW (vP (L.b ok))) (jK 1 [55] [] (NT (zR ⟨L,by rw [show dF S d name to aG=(172,S) by grind [dF]]<;>exact⟨rfl,rfl⟩⟩))))))))))))))))
 have vL:(ah S.O ok).kind=3:=hI.kind lZ
 refine ax.region (jK 5 [45,46] [(3,v_ 3 (eF L oH))] (mX 5 oH gj (jK 1 [15] [] (NZ (jK 2 [48,49] [] (aE.nQ (d:=(some 50)) (op:=.binOp .eql 175 (.tmp 48) (.tmp 49) 175) (v:=.bool (decide (ok=tk))) (λ_=>d6) (λo av w ho hS=>by obtain⟨F,hF⟩:=hS.get (i:=3) rfl;exact⟨w,HZ adZ ho d6 d6 (by rw [vL];decide) (by rw [bZ];decide) hF,hS⟩) (NN (cP (ok=tk) (λh50=>zR ⟨L,by rw [show dF S d name to aG=(0,S) by grind [dF]]<;>exact⟨rfl,rfl⟩⟩) (λh50=>KX (SQ (jK 2 [52] [] (NT (SQ (jK 1 [53] [] (gE [] (zX (vP (L.b ok))) (jK 1 [55] [] (NF (KX (SQ (jK 1 [56] [] (NF (KX (ax.region (jK 3 [57,58,59] [] (gE [0,3,5,1] (ur S L f m t hI to fq aG vK ⟨ok,3⟩ gj) (NS ?_))))))))))))))))))))))))))
 have dw:bC (aZ S to aG ⟨ok,3⟩):=hI.FV fq gj nh
 have hot:(⟨ok,3⟩:Th)≠⟨tk,3⟩:=λe=>h50 (zc Th.k e)
 have jF:aT (aZ S to aG ⟨ok,3⟩).ay ⟨d,2⟩:=oZ hI.toInv0 fq gj hd (λe=>by have:=jJ hd lZ e;cases this)
 have oV:aT (aZ S to aG ⟨ok,3⟩).ay ⟨to,2⟩:=oZ hI.toInv0 fq gj fq (λe=>by have:=jJ fq lZ e;cases this)
 have jY:bF name (ah (aZ S to aG ⟨ok,3⟩).O d).aq=some ⟨tk,3⟩:=xR hI.toInv0 fq gj fA hot
 have wS:bF aG (ah (aZ S to aG ⟨ok,3⟩).O to).aq=none:=xS hI.toInv0 fq gj
 have qR:(ah (aZ S to aG ⟨ok,3⟩).O d).kind=2:=dw.kind jF
 have wU:(ah (aZ S to aG ⟨ok,3⟩).O to).kind=2:=dw.kind oV
 have qV:aT (aZ S to aG ⟨ok,3⟩).ay ⟨tk,3⟩:=(dw.bO jF jY).2
 have qW:(ah (aZ S to aG ⟨ok,3⟩).O tk).kind=3:=dw.kind qV
 have KO:(ah (aZ S to aG ⟨ok,3⟩).O d).aq.length<=8192:=dw.mq jF
 have KP:(ah (aZ S to aG ⟨ok,3⟩).O to).aq.length<=8192:=dw.mq oV
 have wV:=dw.lb qV
 have qX:tk≠d:=dw.ne jF jY
 exact jK 3 [61,62,63] [] (gE [0,1,2] (o6 (aZ S to aG ⟨ok,3⟩).X f m t dw.hX (aZ S to aG ⟨ok,3⟩).O L d qR name eT ⟨tk,3⟩ qW nh jY (dw.pQ jF) d5 (by simp only at wV ⊢;omega)) (NS (jK 4 [65,66,67,68] [] (gE [0,1,2] (o5 { (aZ S to aG ⟨ok,3⟩).X with aq:=(aZ S to aG ⟨ok,3⟩).X.aq-1} f m t (dw.Gv jF jY) (bn (aZ S to aG ⟨ok,3⟩).X (aZ S to aG ⟨ok,3⟩).O d name ⟨tk,3⟩) L to (fS.trans wU) aG vK (qd qX wS) (Pd (sF qX) d5) ⟨tk,3⟩ (fS.trans qW) nh (qq dw.toInv0 jF jY)) (NS (aE.jk [(5,.abs (bp (eX (dW (aZ S to aG ⟨ok,3⟩).X (bn (aZ S to aG ⟨ok,3⟩).X (aZ S to aG ⟨ok,3⟩).O d name ⟨tk,3⟩) to aG ⟨tk,3⟩) L)))] (λw hS=>by rw [show eX (dW (aZ S to aG ⟨ok,3⟩).X (bn (aZ S to aG ⟨ok,3⟩).X (aZ S to aG ⟨ok,3⟩).O d name ⟨tk,3⟩) to aG ⟨tk,3⟩) L=eX S.O L from oY.trans (qc.trans um)];exact hS) (jK 1 [10] [] (eN ⟨L,by rw [show dF S d name to aG=(0,pN (aZ S to aG ⟨ok,3⟩) d name to aG ⟨tk,3⟩) by grind [dF]]<;>exact⟨rfl,rfl⟩⟩ [0,3,4,1,5,2,6]))))))))
end
section
open Go.RowKit Go.Maps bw aI
attribute [local irreducible] aE bH ax aF ct
theorem WO {β:Bs} (S:bg) (L:HL) (f m t:Nat) (hI:bC S) (k:Nat) (hk:aT S.ay ⟨k,1⟩) (A:Option Addr) (c:Nat) (bs:List UInt8) (hA:ck β A bs) (hbl:bs.length<=1099511627776) (hbc:bs.length<=c) :
 aW Tryz.prog β 227 #[vP f,vP (L.b k),.slice A (bs.length) (c)] (pA f m t L S) (λv l=>∃L2,v=.tuple #[vI (gZ S k bs).1,vI (gZ S k bs).2.1]/\l=(pA f m t L2 ((gZ S k bs).2.2))):=by
 have hX:=hI.hX
 have hkk:(ah S.O k).kind=1:=hI.kind hk
 have hdu:((ah S.O k).data.length:Int)<=S.X.used:=hI.afL hk
 have hcB:=hI.cB
 refine SE Tryz.func227 Tryz.ntmps227 (λR=>SR (jK 2 [] [] (NZ (jK 3 [12] [] (NN (cP ((((bs.length:Nat):Int):Int)=(0:Int)) (λh12=>?_) (λh12=>?_)))))))
 ·have he:bs=[]:=aic d5
  exact zR ⟨L,by rw [show gZ S k bs=(0,0,S) from t8 he]<;>exact⟨rfl,rfl⟩⟩
 have jT:0<bs.length:=d5
 refine KX (ax.seq (rQ (jQ 11 [8] [(4,a_ 0 f),(8,a_ 0 f),(9,wJ (S.X.cB-S.X.used) (S.X.cB-S.X.used))] (NQ (NX (SQ (jK 2 [24] [] (NN (cP ((S.X.cB-S.X.used:Int)<=(0:Int)) (λqZ=>zR ⟨L,by rw [show gZ S k bs=(0,176,S) from (nw (λe=>gn)).trans (t8 qZ)]<;>exact⟨rfl,rfl⟩⟩) (λqZ=>KX (SR (jK 4 [28] [(3,w_ (.int .i64 (min ((bs.length:Nat):Int) (S.X.cB-S.X.used))) (zc (Value.int .i64) (abC _ _)))] (sl 28 (vI (min ((bs.length:Nat):Int) (S.X.cB-S.X.used))) (.int .i64 ↑(dU S.X bs.length)) (zc (Value.int .i64) (Wr d5)) (jK 1 [9] [] (NN (ax.seq ?_))))))))))))))))
 have hwl:=Ws (X:=S.X) (n:=bs.length) d5
 refine ax.mem (λw hS=>hS.VZ (i:=4) (k:=k) rfl hkk) (rM (List.range 12) 8 [0,1,2,3,4,5,6] (jR 8 [0,1,9,29,33,36] [(4,v_ 3 (OY L hkk)),(7,xP (dU S.X bs.length) ((dU S.X bs.length)<=c))] (ct.cut (ι:=(Option Addr)×Nat) (bQ:=λ((A1,c2):(Option Addr)×Nat)=>[(0,vP f),(1,vP (L.b k)),(9,vI ↑(dU S.X bs.length)),(29,vP (L.b k)),(37,.slice A1 (((ah S.O k).data++bs.take (dU S.X bs.length)).length) (c2))]) (dz:=λ((A1,c2):(Option Addr)×Nat)=>[pF f m t S.X,pI m L S.ay,pT t S.X.cH S.aL L S.us,pO S.O L,.abs (bp (pW (eX S.O L) k eG.none)),pE S.O L,.abs R,.abs (aK 5 1 A1 (((ah S.O k).data++bs.take (dU S.X bs.length)).length) c2 (ez ((ah S.O k).data++bs.take (dU S.X bs.length))))]) [0,1,2,3,4,5,6] rfl rfl ?_ rfl (λ_=>d6) ?_)))
 ·exact VH 7 61 A (dU S.X bs.length) c (ez (bs.take (dU S.X bs.length))) rfl ((hA.take (dU S.X bs.length)).src) (λA1 c2=>aE.cT 7 (p':=.abs (aK 5 1 A1 (((ah S.O k).data++bs.take (dU S.X bs.length)).length) c2 (ez ((ah S.O k).data++bs.take (dU S.X bs.length))))) rfl (by rw [TU,T3,ahZ,aiB hwl.1]) (sl 37 (.slice A1 (((ah S.O k).data.length)+(dU S.X bs.length)) (c2)) (.slice A1 (((ah S.O k).data++bs.take (dU S.X bs.length)).length) (c2)) (by rw [T3,ahZ,aiB hwl.1]) (NL (MD (A1,c2) [0,1,9,29,37] [0,1,2,3,4,5,6,7])))) (hl:=by rw [vu,ahZ,aiB hwl.1,Nat.mul_one]) (h1:=rR (bs.take (dU S.X bs.length)))
 rintro⟨A1,c2⟩
 refine nC [0,1,2,3,4,5,6] [38] [] [] (nC [0,1,2,3,4,5,6] [39] [] [] (ct.last rfl rfl (aE.mem (λw hS=>hS.adL (i:=3) (k:=k) rfl (by rw [hkk];decide) (xJ (hkk)) (zc yh (hkk))) (jC 1 [] [(0,a_ 8 (L.b k))] [(8,[(9,.slice A1 (((ah S.O k).data++bs.take (dU S.X bs.length)).length) (c2))])] ?_))))
 obtain⟨L2,jy⟩:∃L2:HL,L2=L.data k A1 c2:=⟨_,rfl⟩
 refine aE.mem (λw hS=>hS.ad1 jy (f:=(λo=>{o with data:=o.data++bs.take (dU S.X bs.length)})) (i:=3) (j:=8) (ix:=[0,1,2,4,5,6,7]) rfl rfl d6 rfl (by show (ah S.O k).kind≠0;rw [hkk];decide) ((xJ (L:=L2) (k:=k) (o:=(λo=>{o with data:=o.data++bs.take (dU S.X bs.length)}) (ah S.O k)) hkk).trans (by rw [R3 jy,R4 jy]<;>rfl)) (by show yh (ah S.O k).kind=_;rw [hkk]<;>rfl)) (aE.mem (λw hS=>hS.ad2 jy (f:=(λo=>{o with data:=o.data++bs.take (dU S.X bs.length)})) (i:=4) (j:=7) (ix:=[0,1,2,3,5,6]) rfl rfl d6 rfl hkk rfl rfl) (aE.jk [(3,.abs (bK Tryz.prog 3 m (dg (dM L2 S.ay)) S.ay.length)),(4,.abs (ia 233 t S.X.cH S.aL (dM L2 S.us))),(5,.abs (bp (ig (bE S.O k (λo=>{o with data:=o.data++bs.take (dU S.X bs.length)})) L2)))] (λw hS=>by rw [OA jy,OA jy,show ig (bE S.O k (λo=>{o with data:=o.data++bs.take (dU S.X bs.length)})) L2=ig S.O L from (FL (O:=S.O) (k:=k) (f:=(λo=>{o with data:=o.data++bs.take (dU S.X bs.length)})) rfl rfl).trans (ZE jy)];exact hS) ?_))
 have Uy:(ah (bE S.O k (λo=>{o with data:=o.data++bs.take (dU S.X bs.length)})) k).kind=1:=(ug (f:=(λo=>{o with data:=o.data++bs.take (dU S.X bs.length)})) (λ_=>rfl)).trans hkk
 have hbk:L2.b k=L.b k:=Wt jy
 generalize gM:(bE S.O k (λo=>{o with data:=o.data++bs.take (dU S.X bs.length)}))=jI at Uy ⊢
 refine NL (aF.np (NX (SR (jK 1 [40] [] (sl 40 (vP (L.b k)) (vP (L2.b k)) (by rw [hbk]) (jK 8 [45,48] [(4,A_ 2 f 2)] (WJ 1 [(5,1),(0,2)] k S.X.cS S.X.cZ Uy (λjU gP=>?_))))))))
 have EK:=ku gP Uy
 exact NS (jC 9 [] [(3,a_ 2 f),(5,wJ (S.X.used+(((dU S.X bs.length):Nat):Int)) (S.X.used+(((dU S.X bs.length):Nat):Int))),(8,a_ 2 f)] [(2,[(9,vI (S.X.used+(((dU S.X bs.length):Nat):Int)))])] (NS (jK 3 [6,7] [] (eN (l:=[pF f m t {S.X with used:=S.X.used+(((dU S.X bs.length):Nat):Int)},pI m L2 S.ay,pT t S.X.cH S.aL L2 S.us,pO jU L2,pD jU L2,pE jU L2]) (v:=(.tuple #[vI ↑(dU S.X bs.length),vI 0])) ⟨L2,by grind [gZ,Ep]⟩ [2,3,4,1,0,5,6]))))
end
end Go.Proofs.YtfececghhgeapaaGreatDoor
section
namespace Go.Proofs
open Go.Shelf
def Tryz.lays146_ren:Go.Shelf.Ren:=⟨fun|146=>247|221=>248|268=>249|138=>250|143=>251|195=>252|197=>253|218=>254|219=>255|260=>256|217=>169|225=>178|224=>177|267=>257|266=>171|314=>258|n=>n,fun|9=>9|31=>67|3=>3|4=>4|0=>0|105=>359|21=>21|5=>5|46=>253|119=>361|139=>364|138=>363|146=>365|51=>271|n=>n,fun|1=>1|3=>2|4=>3|n=>n⟩
theorem Tryz.lays146:Go.Proofs.Lays.n146 Tryz.prog Tryz.lays146_ren:={
 mixed:=by kernel_rfl
 f138:=Tryz.func250.trans (congrArg some (by kernel_rfl))
 f143:=Tryz.func251.trans (congrArg some (by kernel_rfl))
 f146:=Tryz.func247.trans (congrArg some (by kernel_rfl))
 f195:=Tryz.func252.trans (congrArg some (by kernel_rfl))
 f197:=Tryz.func253.trans (congrArg some (by kernel_rfl))
 f217:=Tryz.func169.trans (congrArg some (by kernel_rfl))
 f218:=Tryz.func254.trans (congrArg some (by kernel_rfl))
 f219:=Tryz.func255.trans (congrArg some (by kernel_rfl))
 f221:=Tryz.func248.trans (congrArg some (by kernel_rfl))
 f224:=Tryz.func177.trans (congrArg some (by kernel_rfl))
 f225:=Tryz.func178.trans (congrArg some (by kernel_rfl))
 f260:=Tryz.func256.trans (congrArg some (by kernel_rfl))
 f266:=Tryz.func171.trans (congrArg some (by kernel_rfl))
 f267:=Tryz.func257.trans (congrArg some (by kernel_rfl))
 f268:=Tryz.func249.trans (congrArg some (by kernel_rfl))
 f314:=Tryz.func258.trans (congrArg some (by kernel_rfl))
 t0:=Tryz.underlying0
 a0:=Tryz.isAgg0
 z0:=Tryz.sizeOf0
 v0:=Tryz.zeroValue0
 t3:=Tryz.underlying3
 a3:=Tryz.isAgg3
 z3:=Tryz.sizeOf3
 v3:=Tryz.zeroValue3
 t4:=Tryz.underlying4
 a4:=Tryz.isAgg4
 z4:=Tryz.sizeOf4
 v4:=Tryz.zeroValue4
 t5:=Tryz.underlying5
 a5:=Tryz.isAgg5
 z5:=Tryz.sizeOf5
 v5:=Tryz.zeroValue5
 t9:=Tryz.underlying9
 a9:=Tryz.isAgg9
 z9:=Tryz.sizeOf9
 v9:=Tryz.zeroValue9
 t21:=Tryz.underlying21
 a21:=Tryz.isAgg21
 z21:=Tryz.sizeOf21
 v21:=Tryz.zeroValue21
 t31:=Tryz.underlying67
 a31:=Tryz.isAgg67
 z31:=Tryz.sizeOf67
 v31:=Tryz.zeroValue67
 t46:=Tryz.underlying253
 a46:=Tryz.isAgg253
 z46:=Tryz.sizeOf253
 v46:=Tryz.zeroValue253
 t51:=Tryz.underlying271
 a51:=Tryz.isAgg271
 z51:=Tryz.sizeOf271
 v51:=Tryz.zeroValue271
 t105:=Tryz.underlying359
 a105:=Tryz.isAgg359
 z105:=Tryz.sizeOf359
 v105:=Tryz.zeroValue359
 t119:=Tryz.underlying361
 a119:=Tryz.isAgg361
 z119:=Tryz.sizeOf361
 t138:=Tryz.underlying363
 a138:=Tryz.isAgg363
 z138:=Tryz.sizeOf363
 v138:=Tryz.zeroValue363
 t139:=Tryz.underlying364
 a139:=Tryz.isAgg364
 z139:=Tryz.sizeOf364
 v139:=Tryz.zeroValue364
 t146:=Tryz.underlying365
 a146:=Tryz.isAgg365
 z146:=Tryz.sizeOf365
 v146:=Tryz.zeroValue365
 g1:=by kernel_rfl
 g3:=by kernel_rfl
 g4:=by kernel_rfl}
open Go.RowKit Go.Lib in
theorem Tryz.strings_Split (s sep:ByteArray) (m:Int) (w:World) (hs:s.size<4294967281) (hm:w.cell? ⟨1,0,none⟩=some (.int .i64 m)) (h1:1<=sep.size) :
 Calls Tryz.prog 247 #[.string s,.string sep] w λe w'=>
  e=.returned (.slice (some ⟨w.heap.size,0,none⟩) (Lib.countB s sep+1) (Lib.countB s sep+1))/\w'=w.alloc (.cells ((Lib.splitB sep 0 (Lib.countB s sep) s).map Value.string).toArray 9):=Any.strings_Split Tryz.lays146 (by kernel_rfl) s sep m w hs hm h1
end Go.Proofs
end
namespace Go.Proofs.YtfececghhgeapaaGreatDoor
section
open Go.RowKit Go.Maps bw aI
def iX (β:Bs):Prop:=∃m,Rd β ⟨1,0,none⟩ (.int .i64 m)
theorem iX.le {β β':Bs} (h:iX β) (dV:β.le β'):iX β':=h.imp λ_ h=>h.le dV
theorem Dy (s:ByteArray):(bM s).length=Lib.countB s slash+1:=Lib.splitB_all slash d8 0 _ s rfl
theorem zZ (s:ByteArray):Lib.countB s slash<=s.size:=Lib.countB_le slash d8 _ s (N6 _)
theorem GH (sep:ByteArray):∀(k:Nat) (s:ByteArray),∀p∈Lib.splitB sep 0 k s,p.size<=s.size
 |0,s,p,hp=>by
   rw [Lib.splitB_zero] at hp
   rw [ah5.1 hp];exact N6 _
 |k+1,s,p,hp=>by
   rcases Lib.indexB_cases s sep with fO|⟨i,fO,_⟩
   ·rw [Lib.splitB_miss sep 0 (k+1) s fO] at hp
    rw [ah5.1 hp];exact N6 _
   rw [Lib.splitB_hit sep 0 k s i fO] at hp
   rcases ahK.1 hp with rfl|hp
   ·rw [aio];omega
   have:=GH sep k _ p hp
   rw [aio] at this
   omega
theorem GI {s p:ByteArray} (hp:p∈bM s):p.size<=s.size:=GH slash _ s p hp
def kQ (ps:List ByteArray):List Value:=ps.map Value.string
theorem ZX {β:Bs} (hg:iX β) (s:ByteArray) (hs:s.size<=1048576):aW Tryz.prog β 247 #[.string s,.string ⟨#[47]⟩] [] (λv l=>∃b,v=.slice (some ⟨b,0,none⟩) (bM s).length (bM s).length/\l=[.abs (aK 9 1 (some ⟨b,0,none⟩) (bM s).length (bM s).length (kQ (bM s)))]):=
 aW.Ni λW hW=>by
  obtain⟨m,hg⟩:=hg
  have hm:W.cell? ⟨1,0,none⟩=some (.int .i64 m):=(World.cell?_of_block (w:=β.w0) (hW.old _ hg.1).2).trans hg.2
  have hl:=Dy s
  have hc:=zZ s
  refine (Tryz.strings_Split s slash m W d5 hm d8).mono ?_
  rintro e w' ⟨rfl,rfl⟩
  refine⟨_,_,rfl,⟨W.heap.size,by rw [hl],rfl⟩,(cK.refl _ _).alloc _,λk=>k=W.heap.size,⟨⟨?_,.inr ⟨W.heap.size,(bM s).length,(kQ (bM s)).toArray,rfl,L4 _,?_,N6 _,?_,?_,?_⟩⟩,λk=>?_⟩,λk hk=>Nat.le_of_eq hk.symm⟩
  ·simp [kQ]
  ·show (W.heap.push _)[W.heap.size]?=_
   simp [kQ,bM]
  ·unfold maxLen;omega
  ·first|(simp [kQ];done)|(simp [kQ];exact aii nh)
  ·first|(simp [kQ];done)|(simp [kQ];exact aii nh)
  simp [Value.ownBlock,eq_comm]
theorem WQ {β:Bs} {ps:List ByteArray} (hg:iX β) (s:ByteArray) (hs:s.size<=1048576) (hp:ps=bM s):aW Tryz.prog β 247 #[.string s,.string ⟨#[47]⟩] [] (λv l=>∃b,v=.slice (some ⟨b,0,none⟩) ps.length ps.length/\l=[.abs (aK 9 1 (some ⟨b,0,none⟩) ps.length ps.length (kQ ps))]):=by
 subst hp;exact ZX hg s hs
def pc (ps:List ByteArray) (j:Nat):ByteArray:=ps.getD j ⟨#[]⟩
theorem O8 {ps:List ByteArray} {j:Nat} (hj:j<ps.length):pc ps j∈ps:=by
 grind [pc]
theorem z7 {ps:List ByteArray} {j:Nat} (hj:j<ps.length):(kQ ps)[j]?=some (.string (pc ps j)):=by
 grind [kQ,pc]
theorem mZ {ps:List ByteArray} {j:Nat} (hj:j<ps.length):ps.drop j=pc ps j::ps.drop (j+1):=by
 unfold pc
 rw [ah3,T6 hj]
 exact aiu hj
theorem Dz {ps:List ByteArray}:(∀p∈ps,bU p)↔∀j,j<ps.length->bU (pc ps j):=by
 refine⟨λh j hj=>h _ (O8 hj),λh p hp=>?_⟩
 obtain⟨j,hj,rfl⟩:=ain hp
 grind [pc]
theorem L7 {n:ByteArray} (h:bU n):n.size<=1048576:=Pd h.2.1 d8
theorem O9 {O:eE}:∀{ps:List ByteArray} {d:Nat} {e:Int},pX O d ps=.error e->e≠0
 |[],d,e,h=>by cases h;decide
 |[p],d,e,h=>by
   unfold pX at h
   split at h
   ·cases h;decide
   cases h
 |p::q::r,d,e,h=>by
   unfold pX at h
   split at h
   ·cases h;decide
   split at h
   ·cases h;decide
   split at h
   ·cases h;decide
   exact O9 h
theorem x6 {S:bg} {d:Nat} (hI:bC S) (hd:aT S.ay ⟨d,2⟩) (path:ByteArray):(∃e,mW S.O d path=.error e/\e≠0)\/∃d' name,mW S.O d path=.ok (d',name)/\aT S.ay ⟨d',2⟩/\(ah S.O d').aJ=false/\bU name:=by
 cases h:mW S.O d path with
 |error e=>
   grind [mW,O9]
 |ok x=>
   obtain⟨d',name⟩:=x
   exact .inr ⟨d',name,rfl,KE hI.toInv0 hd h⟩
section way
variable {O:eE} {d:Nat} {ps:List ByteArray} {j:Nat}
theorem L8 (hj:j+1=ps.length):pX O d (ps.drop j)=if (ah O d).aJ=true then .error 170 else .ok (d,pc ps j):=by
 grind [mZ,pX,ah,pc]
theorem Bw (hj:j+1<ps.length):pX O d (ps.drop j)=match bF (pc ps j) (ah O d).aq with
 |none=>.error 170
 |some t=>if t.kind=3 then .error 174 else if t.kind=1 then .error 173 else pX O t.k (ps.drop (j+1)):=by
 rw [mZ (j:=j) d5,mZ (j:=j+1) hj]
 rfl
end way
section bytes
variable {P:Program} {β:Bs} {N:fN} {ops:Array Oper} {k:Nat} {fr:Fr} {aB:List HP} {Q:Post} {d:Option Tmp} {s:ByteArray}
theorem Bs.ok.acT {β:Bs} {w:World} (h:β.ok w) (F:Nat->Prop):β.le ⟨λk=>β.O k\/F k,w⟩:=⟨λ_ h=>.inl h,h.os,h.tape,h.output,h.size,λk hk=>h.old k hk⟩
theorem aE.DA {t1 t2 e:TypeId} {x:Operand} (cA:∀av,iQ N av ops fr k=some (.convert t1 t2 x,d)) (hx:∀av,fe N fr av x=.string s) (h1:P.underlying t1=some .string) (h2:P.underlying t2=some (.slice e)) (h3:P.underlying e=some (.int .u8))
 (K:∀b cap,s.data.toList.length<=cap->aE P β N ops (k+1) (eU fr d (.slice (some ⟨b,0,none⟩) s.data.toList.length cap)) (aB++[.abs (jl β (λβ'=>ck β' (some ⟨b,0,none⟩) s.data.toList))]) Q):aE P β N ops k fr aB Q:=by
 refine aE.Ka (ι:={p:Nat×Nat // s.data.toList.length<=p.2}) (v:=λp=>.slice (some ⟨p.1.1,0,none⟩) s.data.toList.length p.1.2) (dz:=λp=>aB++[.abs (jl β (λβ'=>ck β' (some ⟨p.1.1,0,none⟩) s.data.toList))]) cA (λo av w ho hS=>?_) (λp=>K p.1.1 p.1.2 p.2)
 have hr:=run_bytes_of_string (P:=P) w t1 t2 e s h1 h2 h3
 have eT:s.data.toList.length=s.size:=Array.length_toList ..
 generalize hw:(w.drew.alloc (.cells (bytesRow s (grownCap w s.size 0 e)) e ((bytesRow s (grownCap w s.size 0 e)).size,(bytesRow s (grownCap w s.size 0 e)).size+1)))=w' at hr
 have hk:cK (λ_=>False) w w':=by rw [←hw];exact (cK.refl _ _).drew.alloc _
 have hok:=hS.1.keeps hk (λ_ _ h=>h)
 have hheap:w'.heap[w.heap.size]?=some (.cells (bytesRow s (grownCap w s.size 0 e)) e ((bytesRow s (grownCap w s.size 0 e)).size,(bytesRow s (grownCap w s.size 0 e)).size+1)):=by
  rw [←hw]
  show (w.heap.push _)[w.heap.size]?=_
  simp
 have hsize:w.heap.size<w'.heap.size:=by
  grind
 refine⟨⟨(w.heap.size,grownCap w s.size 0 e),by rw [eT];exact grownCap_ge w s.size 0 e⟩,w',.inl ?_,hS.new (F:=λk=>k=w.heap.size) ?_ hk (λk e=>Nat.le_of_eq e.symm)⟩
 ·obtain⟨dst,op,type,pos,after,guard⟩:=o
  cases ho
  have hr2:(convert t1 t2 (.string s)).run P w=.ok (.slice (some ⟨w.heap.size,0,none⟩) s.data.toList.length (grownCap w s.size 0 e)) w':=by rw [hr,eT]
  simp only [execOp,hx]
  simp [hr2,Result.andThen]
 refine⟨⟨λk=>β.O k\/k=w.heap.size,w'⟩,hok.acT _,λ_ h=>h,λ_ h=>.inr h,N6 _,λk hk=>⟨by rw [hk];exact hsize,rfl⟩,λj v hj=>⟨rfl,.inr rfl,?_⟩⟩
 show World.cell? w' ⟨w.heap.size,0+j,none⟩=some v
 have hj2:=dG hj
 unfold World.cell?
 rw [hheap]
 unfold ez at hj hj2
 rw [ahQ] at hj2
 rw [List.getElem?_map,T6 hj2] at hj
 simp only [Option.map_some,Option.some.injEq] at hj
 subst hj
 unfold bytesRow
 grind [C6]
end bytes
theorem JB {β:Bs} (S:bg) (L:HL) (f m t:Nat) (hI:bC S) (k:Nat) (hk:aT S.ay ⟨k,1⟩) (A:Option Addr) (c:Nat) (bs:List UInt8) (hbl:bs.length<=1099511627776) (hbc:bs.length<=c) :
 aW Tryz.prog β 227 #[vP f,vP (L.b k),.slice A bs.length c] (.abs (jl β (λβ'=>ck β' A bs))::pA f m t L S) (λv l=>∃L2,v=.tuple #[vI (gZ S k bs).1,vI (gZ S k bs).2.1]/\l=pA f m t L2 (gZ S k bs).2.2):=
 aW.Uj λ_ _ hA=>WO S L f m t hI k hk A c bs hA hbl hbc
def Ic (L:HL):Except Int (Nat×ByteArray)->Value
 |.error e=>.tuple #[.pointer none,.string ⟨#[]⟩,.int .i64 e]
 |.ok (d,p)=>.tuple #[.pointer (some ⟨L.b d,0,none⟩),.string p,.int .i64 0]
noncomputable section
abbrev jL (h:Int) (name:ByteArray):aN:=⟨2,h,0,name,⟨#[]⟩,none,0,[],0,0,0,0,0,0,0⟩
abbrev Bz (h:Int) (name:ByteArray) (mode:Int):aN:=⟨4,h,0,name,⟨#[]⟩,none,0,[],mode,0,0,0,0,0,0⟩
abbrev gS (h:Int):aN:=⟨13,h,0,⟨#[]⟩,⟨#[]⟩,none,0,[],0,0,0,0,0,0,0⟩
structure JC where
 S:bg
 n:Nat
 next:Int
 made:Bool
 code:Int
section
variable (fs:List cF) (xs:List cM) (af:Int)
def dI (S:bg) (n:Nat) (cur:Int) (part:ByteArray) (mode:Int):JC:=
 let a:=br fs xs af (n+1) S (jL cur part)
 if a.2.code=0 then ⟨a.1,n+1,a.2.answer,false,0⟩
 else if ¬a.2.code=170\/mode<0 then ⟨a.1,n+1,0,false,a.2.code⟩
 else
  let b:=br fs xs af (n+2) a.1 (Bz cur part mode)
  if ¬b.2.code=0/\¬b.2.code=171 then ⟨b.1,n+2,0,false,b.2.code⟩
  else
   let d:=br fs xs af (n+3) b.1 (jL cur part)
   if d.2.code=0 then ⟨d.1,n+3,d.2.answer,decide (b.2.code=0),0⟩ else ⟨d.1,n+3,0,decide (b.2.code=0),d.2.code⟩
structure L9 where
 S:bg
 n:Nat
 cur:Int
 own:Bool
 made:Int
 code:Int
 at_:Int
def mF (S:bg) (n:Nat) (cur:Int) (own:Bool) (made code at_:Int):L9:=
 if own=true then ⟨(br fs xs af (n+1) S (gS cur)).1,n+1,0,false,made,code,at_⟩ else ⟨S,n,0,false,made,code,at_⟩
def jt (mode:Int):List ByteArray->Int->bg->Nat->Int->Bool->Int->L9
 |[],_,S,n,cur,own,made=>⟨S,n,cur,own,made,0,0⟩
 |p::r,i,S,n,cur,own,made=>
   let a:=dI fs xs af S n cur p mode
   let m2:=if a.made=true then made+1 else made
   if a.code=0 then if own=true then
    let b:=br fs xs af (a.n+1) a.S (gS cur)
    if b.2.code=0 then jt mode r (i+1) b.1 (a.n+1) a.next true m2
    else mF fs xs af b.1 (a.n+1) a.next true m2 b.2.code i
   else jt mode r (i+1) a.S a.n a.next true m2
   else mF fs xs af a.S a.n cur own m2 a.code i
end
section
variable {fs:List cF} {xs:List cM} {af:Int} {S S2:bg} {c2:aN} {n:Nat} {cur mode made i:Int} {own:Bool} {p:ByteArray} {r:List ByteArray} {h:Int} {name:ByteArray}
theorem ES:jt fs xs af mode [] i S n cur own made=⟨S,n,cur,own,made,0,0⟩:=rfl
theorem rC (h:¬(dI fs xs af S n cur p mode).code=0):jt fs xs af mode (p::r) i S n cur own made=mF fs xs af (dI fs xs af S n cur p mode).S (dI fs xs af S n cur p mode).n cur own (if (dI fs xs af S n cur p mode).made=true then made+1 else made) (dI fs xs af S n cur p mode).code i:=nw h
theorem uW (h:(dI fs xs af S n cur p mode).code=0) (ho:own=true) (h2:(br fs xs af ((dI fs xs af S n cur p mode).n+1) (dI fs xs af S n cur p mode).S (gS cur)).2.code=0):jt fs xs af mode (p::r) i S n cur own made=jt fs xs af mode r (i+1) (br fs xs af ((dI fs xs af S n cur p mode).n+1) (dI fs xs af S n cur p mode).S (gS cur)).1 ((dI fs xs af S n cur p mode).n+1) (dI fs xs af S n cur p mode).next true (if (dI fs xs af S n cur p mode).made=true then made+1 else made):=
 (t8 h).trans ((t8 ho).trans (t8 h2))
theorem vM (h:(dI fs xs af S n cur p mode).code=0) (ho:own=true) (h2:¬(br fs xs af ((dI fs xs af S n cur p mode).n+1) (dI fs xs af S n cur p mode).S (gS cur)).2.code=0):jt fs xs af mode (p::r) i S n cur own made=mF fs xs af (br fs xs af ((dI fs xs af S n cur p mode).n+1) (dI fs xs af S n cur p mode).S (gS cur)).1 ((dI fs xs af S n cur p mode).n+1) (dI fs xs af S n cur p mode).next true (if (dI fs xs af S n cur p mode).made=true then made+1 else made) (br fs xs af ((dI fs xs af S n cur p mode).n+1) (dI fs xs af S n cur p mode).S (gS cur)).2.code i:=
 (t8 h).trans ((t8 ho).trans (nw h2))
theorem wW (h:(dI fs xs af S n cur p mode).code=0) (ho:¬own=true):jt fs xs af mode (p::r) i S n cur own made=jt fs xs af mode r (i+1) (dI fs xs af S n cur p mode).S (dI fs xs af S n cur p mode).n (dI fs xs af S n cur p mode).next true (if (dI fs xs af S n cur p mode).made=true then made+1 else made):=
 (t8 h).trans (nw ho)
theorem Ma {k:Nat} {bs:List UInt8}:(gZ S k bs).2.2.us=S.us/\(gZ S k bs).2.2.aL=S.aL:=by
 unfold gZ;(repeat' split)<;>exact⟨rfl,rfl⟩
theorem acU {a:cM}:(cJ S af a).2.us=S.us/\(cJ S af a).2.aL=S.aL:=by
 unfold cJ
 split
 ·exact⟨rfl,rfl⟩
 split
 ·exact⟨rfl,rfl⟩
 split
 ·split
  ·exact⟨rfl,rfl⟩
  unfold nJ
  split
  ·unfold qO;split
   ·exact Ma
   exact⟨rfl,rfl⟩
  split
  ·unfold lP;split<;>exact⟨rfl,rfl⟩
  split
  ·unfold jX;(repeat' split)<;>exact⟨rfl,rfl⟩
  split
  ·unfold iO;(repeat' split)<;>exact⟨rfl,rfl⟩
  split
  ·unfold jo;(repeat' split)<;>exact⟨rfl,rfl⟩
  split
  ·split
   ·exact⟨rfl,rfl⟩
   unfold dF;(repeat' split)<;>exact⟨rfl,rfl⟩
  unfold oG;split
  ·exact⟨rfl,rfl⟩
  split
  ·exact⟨rfl,rfl⟩
  split
  ·exact⟨rfl,rfl⟩
  exact Ma
 exact⟨rfl,rfl⟩
theorem z8:∀{xs:List cM} {S:bg},(jb af S xs).us=S.us/\(jb af S xs).aL=S.aL
 |[],_=>⟨rfl,rfl⟩
 |a::r,S=>by
   have h1:=acU (S:=S) (af:=af) (a:=a)
   have h2:=z8 (xs:=r) (S:=(cJ S af a).2)
   exact⟨h2.1.trans h1.1,h2.2.trans h1.2⟩
theorem Cg {c:aN} (h1:c.op≠1) (h9:c.op≠9):br fs xs af n S c=fC (jb af S (dh xs n)) c\/∃e,(e=180\/e=176)/\br fs xs af n S c=(if c.op=13 then (fC (jb af S (dh xs n)) c).1 else jb af S (dh xs n),iz c e):=by
 have hr:bY af c=c:=nw h1
 unfold br
 rw [hr]
 unfold dZ
 split
 ·exact .inr ⟨180,.inl rfl,rfl⟩
 split
 ·rename_i q;exact .inr ⟨176,.inr rfl,by rw [nw d5]⟩
 split
 ·rename_i q;exact KB q.2.1 h9
 exact .inl rfl
theorem WR {O:eE} {us:bB Th} {fD e:Int} (h':gH O us h name fD=.error e):e≠0:=by
 unfold gH at h'
 (repeat' split at h')<;>(first|cases h'|skip)<;>decide
theorem WS {O:eE} {us:bB Th} {c:aN} {e:Int} (h':jO O us c=.error e):e≠0:=by
 unfold jO at h'
 split at h'
 ·rename_i h2;cases h';exact WR h2
 split at h'
 ·cases h';decide
 cases h'
theorem Pa {S2:bg} {c2:aN} (e:fC S (jL h name)=(S2,c2)) :
 (c2.code=0/\∃t,c2.answer=aS S.us/\S2.us=ins (aS S.us) t S.us/\S2.aL=max S.aL ((S.us.length:Int)+1))\/(c2.code≠0/\c2.answer=0/\S2=S):=by
 unfold fC at e
 rw [tW (c:={jL h name with answer:=0,code:=230}) rfl] at e
 unfold fZ at e
 split at e
 ·rename_i h1;cases e;exact .inr ⟨WS h1,rfl,rfl⟩
 split at e
 ·cases e;exact .inr ⟨by show (174:Int)≠0;decide,rfl,rfl⟩
 split at e
 ·cases e;exact .inr ⟨by show (173:Int)≠0;decide,rfl,rfl⟩
 rename_i t h1 h3 h2
 by_cases hl:(S.us.length:Int)<S.X.cH
 ·rw [mB hl] at e
  cases e
  exact .inl ⟨rfl,t,rfl,rfl,rfl⟩
 rw [og hl] at e
 cases e
 exact .inr ⟨by show (130:Int)≠0;decide,rfl,rfl⟩
theorem GJ {S2:bg} {c2:aN} (e:br fs xs af n S (jL h name)=(S2,c2)) :
 (c2.code=0/\∃t,c2.answer=aS S.us/\S2.us=ins (aS S.us) t S.us/\S2.aL=max S.aL ((S.us.length:Int)+1))\/(c2.code≠0/\c2.answer=0/\S2.us=S.us/\S2.aL=S.aL):=by
 have hu:=z8 (af:=af) (S:=S) (xs:=dh xs n)
 rcases Cg (fs:=fs) (xs:=xs) (af:=af) (n:=n) (S:=S) (c:=jL h name) (by show (2:Int)≠1;decide) (by show (2:Int)≠9;decide) with h1|⟨k,hk,h1⟩
 ·rw [h1] at e
  rcases Pa e with h|⟨h2,h3,h4⟩
  ·rw [hu.1,hu.2] at h;exact .inl h
  exact .inr ⟨h2,h3,by rw [h4];exact hu.1,by rw [h4];exact hu.2⟩
 rw [h1] at e
 cases e
 exact .inr ⟨by show k≠0;omega,rfl,hu.1,hu.2⟩
theorem Pb {V:Type}:∀(us:List (Int×V)) (h:Int),kN h (aY us)<=h+us.length
 |[],h=>by show h<=_;simp
 |p::r,h=>by
   show (if p.1=h then kN (h+1) (aY r) else h)<=_
   have:=Pb r (h+1)
   rw [ahX]
   split<;>omega
theorem Pc (hI:bC S) {S2:bg} {c2:aN} (e:br fs xs af n S (jL h name)=(S2,c2)):(Lit.int .i64 c2.answer).wf=true:=by
 rcases GJ e with ⟨_,t,h1,_⟩|⟨_,h1,_⟩
 ·rw [h1]
  have a1:=Pb S.us 1
  have a2:=(least_le hI.usr (λx hx=>(hI.wj x hx).1)).1
  have a3:=hI.Ez
  have a4:=hI.cH
  unfold aI.aS at a2 ⊢
  exact WalkArith.wf_i64 d5
 rw [h1];rfl
attribute [local irreducible] br
section ways
variable {S1 S2 S3:bg} {c1 c2 c3:aN}
theorem DB (e1:br fs xs af (n+1) S (jL cur p)=(S1,c1)) (h1:c1.code=0):dI fs xs af S n cur p mode=⟨S1,n+1,c1.answer,false,0⟩:=by
 unfold dI;simp only [e1,t8 h1]
theorem x7 (e1:br fs xs af (n+1) S (jL cur p)=(S1,c1)) (h1:¬c1.code=0) (h2:¬c1.code=170\/mode<0):dI fs xs af S n cur p mode=⟨S1,n+1,0,false,c1.code⟩:=by
 unfold dI;simp only [e1,nw h1,t8 h2]
theorem ET (e1:br fs xs af (n+1) S (jL cur p)=(S1,c1)) (h1:¬c1.code=0) (h2:¬(¬c1.code=170\/mode<0)) (e2:br fs xs af (n+2) S1 (Bz cur p mode)=(S2,c2)) (h3:¬c2.code=0/\¬c2.code=171):dI fs xs af S n cur p mode=⟨S2,n+2,0,false,c2.code⟩:=by
 unfold dI;simp only [e1,e2,nw h1,nw h2,t8 h3]
theorem Ab (e1:br fs xs af (n+1) S (jL cur p)=(S1,c1)) (h1:¬c1.code=0) (h2:¬(¬c1.code=170\/mode<0)) (e2:br fs xs af (n+2) S1 (Bz cur p mode)=(S2,c2)) (h3:¬(¬c2.code=0/\¬c2.code=171)) (e3:br fs xs af (n+3) S2 (jL cur p)=(S3,c3)) (h4:c3.code=0):dI fs xs af S n cur p mode=⟨S3,n+3,c3.answer,decide (c2.code=0),0⟩:=by
 unfold dI;simp only [e1,e2,e3,nw h1,nw h2,nw h3,t8 h4]
theorem BA (e1:br fs xs af (n+1) S (jL cur p)=(S1,c1)) (h1:¬c1.code=0) (h2:¬(¬c1.code=170\/mode<0)) (e2:br fs xs af (n+2) S1 (Bz cur p mode)=(S2,c2)) (h3:¬(¬c2.code=0/\¬c2.code=171)) (e3:br fs xs af (n+3) S2 (jL cur p)=(S3,c3)) (h4:¬c3.code=0):dI fs xs af S n cur p mode=⟨S3,n+3,0,decide (c2.code=0),c3.code⟩:=by
 unfold dI;simp only [e1,e2,e3,nw h1,nw h2,nw h3,nw h4]
end ways
theorem EU:(dI fs xs af S n cur p mode).n<=n+3:=by
 unfold dI
 simp only
 repeat' split
 all_goals (simp only;omega)
theorem DC (hI:bC S):bC (dI fs xs af S n cur p mode).S:=by
 unfold dI
 simp only
 repeat' split
 all_goals first|exact hI.br|exact hI.br.br|exact hI.br.br.br
theorem acV:(Lit.int .i64 0).wf=true:=d8
theorem KQ (hI:bC S):(Lit.int .i64 (dI fs xs af S n cur p mode).next).wf=true:=by
 unfold dI
 simp only
 repeat' split
 all_goals first|exact Pc hI rfl|exact Pc hI.br.br rfl|exact acV
theorem Ac (e1:br fs xs af (n+1) S (gS cur)=(S2,c2)) {code at_:Int}:mF fs xs af S n cur true made code at_=⟨S2,n+1,0,false,made,code,at_⟩:=by
 unfold mF;rw [t8 rfl,e1]
theorem Ie {code at_:Int}:mF fs xs af S n cur false made code at_=⟨S,n,0,false,made,code,at_⟩:=rfl
theorem ZY {d:List ByteArray}:∀u∈kQ d,u.oneCell'=true:=by
 intro u hu
 obtain⟨b,_,rfl⟩:=ahN.1 hu
 rfl
theorem WT {d:List ByteArray}:(kQ d).length=d.length:=by simp [kQ]
def fF (β:Bs) (A:Option Addr) (ps:List ByteArray):Prop:=cE β A (kQ ps)
variable {β β':Bs} {A:Option Addr} {ps:List ByteArray} {j:Nat}
theorem fF.le (h:fF β A ps) (dV:β.le β'):fF β' A ps:=cE.le h dV
theorem fF.get (h:fF β A ps) (hj:j<ps.length):A=some ⟨cC A,cq A,none⟩/\Rd β ⟨cC A,cq A+j*1,none⟩ (.string (pc ps j)):=by
 have:=h j _ (z7 hj)
 rw [Nat.mul_one]
 exact this
theorem fF.hd (h:fF β A ps) (hj:j<ps.length):A=some ⟨cC A,cq A,none⟩:=(h.get hj).1
theorem fF.rd (h:fF β A ps) (hj:j<ps.length):Rd β ⟨cC A,cq A+j*1,none⟩ (.string (pc ps j)):=(h.get hj).2
end
end
section p
variable {fs:List cF} {xs:List cM} {af:Int} {S S1 S2 S3:bg} {c1 c2 c3:aN} {n:Nat} {cur mode made mk:Int} {p:ByteArray} {b:Bool}
theorem aeh (e1:br fs xs af (n+1) S (jL cur p)=(S1,c1)) (h:¬c1.code=170\/mode<0):∃nx,dI fs xs af S n cur p mode=⟨S1,n+1,nx,false,c1.code⟩/\(c1.code=0->c1.answer=nx):=by
 by_cases h0:c1.code=0
 ·exact⟨c1.answer,by rw [DB e1 h0,h0],λ_=>rfl⟩
 exact⟨0,x7 e1 h0 h,λq=>KB q h0⟩
theorem aei (e1:br fs xs af (n+1) S (jL cur p)=(S1,c1)) (h:¬(¬c1.code=170\/mode<0)) (e2:br fs xs af (n+2) S1 (Bz cur p mode)=(S2,c2)) (h3:¬c2.code=0/\¬c2.code=171):dI fs xs af S n cur p mode=⟨S2,n+2,0,false,c2.code⟩:=ET e1 d5 h e2 h3
theorem aej (e1:br fs xs af (n+1) S (jL cur p)=(S1,c1)) (h:¬(¬c1.code=170\/mode<0)) (e2:br fs xs af (n+2) S1 (Bz cur p mode)=(S2,c2)) (h3:¬(¬c2.code=0/\¬c2.code=171)) (e3:br fs xs af (n+3) S2 (jL cur p)=(S3,c3)):∃nx,dI fs xs af S n cur p mode=⟨S3,n+3,nx,decide (c2.code=0),c3.code⟩/\(c3.code=0->c3.answer=nx):=by
 by_cases h0:c3.code=0
 ·exact⟨c3.answer,by rw [Ab e1 d5 h e2 h3 e3 h0,h0],λ_=>rfl⟩
 exact⟨0,BA e1 d5 h e2 h3 e3 h0,λq=>KB q h0⟩
theorem Z0 (h:mk=if b=true then 1 else 0):made+mk=(if b=true then made+1 else made)/\0<=mk/\mk<=1:=by
 subst h;split<;>omega
theorem KR:∀(ps:List ByteArray) (i:Int) (S:bg) (n:Nat) (cur:Int) (own:Bool) (made:Int),bC S->(Lit.int .i64 cur).wf=true->(Lit.int .i64 (jt fs xs af mode ps i S n cur own made).cur).wf=true/\bC (jt fs xs af mode ps i S n cur own made).S/\(jt fs xs af mode ps i S n cur own made).n<=n+4*ps.length+1
 |[],i,S,n,cur,own,made,hI,hw=>⟨hw,hI,by show n<=_;omega⟩
 |p::r,i,S,n,cur,own,made,hI,hw=>by
   have hs:=DC (fs:=fs) (xs:=xs) (af:=af) (n:=n) (cur:=cur) (p:=p) (mode:=mode) hI
   have hwn:=KQ (fs:=fs) (xs:=xs) (af:=af) (n:=n) (cur:=cur) (p:=p) (mode:=mode) hI
   have hn:=EU (fs:=fs) (xs:=xs) (af:=af) (S:=S) (n:=n) (cur:=cur) (p:=p) (mode:=mode)
   have z:(Lit.int .i64 0).wf=true:=d8
   have hf:∀(S':bg) (m:Nat) (c:Int) (o:Bool) (d e j:Int),bC S'->(Lit.int .i64 (mF fs xs af S' m c o d e j).cur).wf=true/\bC (mF fs xs af S' m c o d e j).S/\(mF fs xs af S' m c o d e j).n<=m+1:=by
    intro S' m c o d e j h
    unfold mF
    split
    ·exact⟨z,h.br,N6 _⟩
    exact⟨z,h,Nat.le_succ _⟩
   rw [ahX]
   by_cases h1:(dI fs xs af S n cur p mode).code=0
   ·by_cases h2:own=true
    ·have yG:=hs.br (fs:=fs) (xs:=xs) (af:=af) (n:=(dI fs xs af S n cur p mode).n+1) (c:=gS cur)
     by_cases h3:(br fs xs af ((dI fs xs af S n cur p mode).n+1) (dI fs xs af S n cur p mode).S (gS cur)).2.code=0
     ·rw [uW h1 h2 h3]
      have q:=KR r (i+1) _ ((dI fs xs af S n cur p mode).n+1) (dI fs xs af S n cur p mode).next true (if (dI fs xs af S n cur p mode).made=true then made+1 else made) yG hwn
      exact⟨q.1,q.2.1,by have:=q.2.2;omega⟩
     rw [vM h1 h2 h3]
     have q:=hf _ ((dI fs xs af S n cur p mode).n+1) (dI fs xs af S n cur p mode).next true (if (dI fs xs af S n cur p mode).made=true then made+1 else made) (br fs xs af ((dI fs xs af S n cur p mode).n+1) (dI fs xs af S n cur p mode).S (gS cur)).2.code i yG
     exact⟨q.1,q.2.1,by have:=q.2.2;omega⟩
    rw [wW h1 h2]
    have q:=KR r (i+1) _ (dI fs xs af S n cur p mode).n (dI fs xs af S n cur p mode).next true (if (dI fs xs af S n cur p mode).made=true then made+1 else made) hs hwn
    exact⟨q.1,q.2.1,by have:=q.2.2;omega⟩
   rw [rC h1]
   have q:=hf _ (dI fs xs af S n cur p mode).n cur own (if (dI fs xs af S n cur p mode).made=true then made+1 else made) (dI fs xs af S n cur p mode).code i hs
   exact⟨q.1,q.2.1,by have:=q.2.2;omega⟩
end p
end
section
open Go.RowKit Go.Maps bw aI
attribute [local irreducible] aE bH ax aF
theorem EV {β:Bs} (A B:Option Addr) (c e:Nat) (d:List ByteArray) (hA:fF β A d) (hB:fF β B d) (hl:d.length<=1048576) :
 aW Tryz.prog β 15 #[.slice A (d.length) (c),.slice B (d.length) (e)] [] (λv l=>v=.bool true/\l=[]):=by
 refine SE Tryz.func15 Tryz.ntmps15 (λR=>SR (jK 1 [] [] (NN (ax.seq (SR (jK 5 [10] [(4,p_ ⟨[],none,none,none,some (.bool false)⟩ [(Value.bool (!decide ((((d.length:Nat):Int):Int)=(((d.length:Nat):Int):Int))))=(.bool false)] ⟨nh,trivial⟩)] (NN (CF (ax.skip (NX (SQ (jK 1 [5] [] (NN (ax.block (lJ (ι:=Nat) (λ(i:Nat)=>(i<=d.length)) (λ(i:Nat)=>d.length-i) (λ(i:Nat)=>[(0,.slice A (d.length) (c)),(1,.slice B (d.length) (e)),(5,vI ↑i)]) (λ(i:Nat)=>[.abs R]) 0 [0] (L4 _) ?_)))))))))))))))
 rintro i hi
 exact ax.seq (SR (jK 4 [14] [] (NN (cP ((((i:Nat):Int):Int)<(((d.length:Nat):Int):Int)) (λmQ=>ax.skip (NX (ax.seq (ax.block (ax.seq (rQ (jQ 9 [25] [(2,x_ i d.length (fF.hd hA (j:=i) d5)),(3,p_ ⟨[.old (.string (pc d i))],none,none,none,none⟩ [(Rd β ⟨(cC A),cq A+i*1,none⟩ (.string (pc d i)))] ⟨fF.rd hA d5,trivial⟩),(6,x_ i d.length (fF.hd hB (j:=i) d5)),(7,p_ ⟨[.old (.string (pc d i))],none,none,none,none⟩ [(Rd β ⟨(cC B),cq B+i*1,none⟩ (.string (pc d i)))] ⟨fF.rd hB d5,trivial⟩),(8,p_ ⟨[],none,none,none,some (.bool false)⟩ [(Value.bool (!(((pc d i):ByteArray).toList == ((pc d i):ByteArray).toList)))=(.bool false)] ⟨nh,trivial⟩)] (NQ (NX (CF (KX (ax.region (jK 3 [5] [(1,wJ ((i:Int)+1) (↑(i+1)))] (NL (tJ ((i+1)) [0] d5))))))))))))))) (λmQ=>XX (zR (v:=(.bool true)) ⟨rfl,rfl⟩ [0]))))))
end
section
open Go.RowKit Go.Maps
def afX (l:List ByteArray):List Value:=l.map Value.string
def sAt (l:List ByteArray) (i:Nat):ByteArray:=l.getD i ⟨#[]⟩
def aha (β:Bs) (A:Option Addr) (l:List ByteArray):Prop:=cE β A (afX l)
section strs
variable {β β':Bs} {A:Option Addr} {l:List ByteArray}
end strs
def Sorted (es:List fM):Prop:=∀i j,i<j->j<es.length->vm (en es i).name (en es j).name<0
def BB (es:List fM) (p:ByteArray):Option Nat:=es.findIdx? (λe=>decide (e.name=p))
theorem UB {es:List fM} {p:ByteArray} (h:∀j,j<es.length->¬(en es j).name=p):BB es p=none:=by
 unfold BB
 rw [List.findIdx?_eq_none_iff]
 intro x hx
 obtain⟨j,hj,rfl⟩:=ain hx
 grind [en]
section find
variable {ns:List aP} {k i:Nat} {ps:List ByteArray}
end find
end
section
open Go.RowKit
def iY (es:List fM) (id:Int):Nat->Nat
 |0=>0
 |j+1=>iY es id j+(if (en es j).id=id then 1 else 0)
def nN (ns:List aP) (id:Int):Nat->Nat
 |0=>0
 |i+1=>nN ns id i+iY (nd ns i).aq id (nd ns i).aq.length
theorem Mb (es:List fM) (id:Int) (j:Nat):iY es id j<=j:=by
 induction j with
 |zero=>exact N6 _
 |succ j ih=>
   rw [iY]
   split<;>omega
theorem JD {es:List fM} {id:Int} {j:Nat} (h:(en es j).id=id):iY es id j+1=iY es id (j+1):=by rw [iY,t8 h]
theorem GK {es:List fM} {id:Int} {j:Nat} (h:¬(en es j).id=id):iY es id j=iY es id (j+1):=by rw [iY,nw h];rfl
theorem UC (ns:List aP) (id:Int) (i:Nat):nN ns id i<=dY ns i:=by
 induction i with
 |zero=>exact N6 _
 |succ i ih=>
   grind [nN,dY,Mb,nd]
end
section
open Go.RowKit Go.Maps
structure KS (ns:List aP) (i j:Nat):Prop where
 lti:i<ns.length
 Mc:j<(nd ns i).aq.length
 dir:(nd ns (bV ns (bO ns i j).id)).kind=2
section
variable {ns:List aP}
theorem Ad {i m:Nat} {p:Nat×Nat}:p∈iy ns i m↔∃j,j<m/\(nd ns (bV ns (bO ns i j).id)).kind=2/\p=(bV ns (bO ns i j).id,i):=by
 induction m with
 |zero=>simp [iy]
 |succ m ih=>
   grind [nd,bV,bO,qo,q4]
theorem DE {m:Nat} {p:Nat×Nat}:p∈ju ns m↔∃i j,i<m/\j<(nd ns i).aq.length/\(nd ns (bV ns (bO ns i j).id)).kind=2/\p=(bV ns (bO ns i j).id,i):=by
 induction m with
 |zero=>simp [ju]
 |succ m ih=>
   grind [ju,Ad]
theorem KS.mem {i j:Nat} (h:KS ns i j):(bV ns (bO ns i j).id,i)∈ju ns ns.length:=DE.2 ⟨i,j,h.lti,h.Mc,h.dir,rfl⟩
def abQ (ns:List aP) (m:Nat):Prop:=∀i j i' j',KS ns i j->KS ns i' j'->i<m->i'<m->bV ns (bO ns i j).id=bV ns (bO ns i' j').id->i=i'/\j=j'
theorem WU {i m:Nat} (h:((iy ns i m).map Prod.fst).Nodup):∀j j',j<m->j'<m->(nd ns (bV ns (bO ns i j).id)).kind=2->(nd ns (bV ns (bO ns i j').id)).kind=2->bV ns (bO ns i j).id=bV ns (bO ns i j').id->j=j':=by
 induction m with
 |zero=>intro j j' hj;omega
 |succ m ih=>
   intro j j' hj hj' hk jw e
   by_cases hm:(nd ns (bV ns (bO ns i m).id)).kind=2
   ·rw [qo hm,ah2,aiC] at h
    rcases Pe.1 hj with e1|e1
    ·rcases Pe.1 hj' with e2|e2
     ·exact ih h.2 j j' e1 e2 hk jw e
     subst e2;exact KB (ahN.2 ⟨_,Ad.2 ⟨j,e1,hk,rfl⟩,e⟩) h.1
    rcases Pe.1 hj' with e2|e2
    ·subst e1;exact KB (ahN.2 ⟨_,Ad.2 ⟨j',e2,jw,rfl⟩,e.symm⟩) h.1
    omega
   grind [q4]
theorem WW {m:Nat} (h:((ju ns m).map Prod.fst).Nodup):abQ ns m:=by
 induction m with
 |zero=>intro i j i' j' _ _ hi;omega
 |succ m ih=>
   rw [ju,aik] at h
   obtain⟨h1,h2,h3⟩:=List.nodup_append.1 h
   intro i j i' j' g g' hi hi' e
   rcases Pe.1 hi with e1|e1
   ·rcases Pe.1 hi' with e2|e2
    ·exact ih h2 i j i' j' g g' e1 e2 e
    subst e2
    exact KB e.symm (h3 _ (ahN.2 ⟨_,Ad.2 ⟨j',g'.Mc,g'.dir,rfl⟩,rfl⟩) _ (ahN.2 ⟨_,DE.2 ⟨i,j,e1,g.Mc,g.dir,rfl⟩,rfl⟩))
   rcases Pe.1 hi' with e2|e2
   ·subst e1
    exact KB e (h3 _ (ahN.2 ⟨_,Ad.2 ⟨j,g.Mc,g.dir,rfl⟩,rfl⟩) _ (ahN.2 ⟨_,DE.2 ⟨i',j',e2,g'.Mc,g'.dir,rfl⟩,rfl⟩))
   subst e1;subst e2
   exact⟨rfl,WU h1 j j' g.Mc g'.Mc g.dir g'.dir e⟩
def KT (ns:List aP) (d:Nat->Nat):Prop:=∀i j,KS ns i j->d i<d (bV ns (bO ns i j).id)
theorem cD.uniq (h:cD ns):abQ ns ns.length:=WW h.nodup
theorem cD.deep (h:cD ns):∃d,KT ns d:=by
 refine⟨λk=>Classical.choose (h.ends (nd ns k).id),λi j g=>?_⟩
 have hp:=zJ (ns:=ns) (N6 _) h.aq
 have hat:=(h.aq i g.lti j g.Mc).at_
 have htl:=mR hat
 have e1:=Classical.choose_spec (h.ends (nd ns i).id)
 have e2:=Classical.choose_spec (h.ends (nd ns (bV ns (bO ns i j).id)).id)
 show Classical.choose (h.ends (nd ns i).id)<Classical.choose (h.ends (nd ns (bV ns (bO ns i j).id)).id)
 generalize Classical.choose (h.ends (nd ns i).id)=x at e1 ⊢
 generalize Classical.choose (h.ends (nd ns (bV ns (bO ns i j).id)).id)=y at e2 ⊢
 cases hu:up ((ju ns ns.length).map (lu ns)) (nd ns (bV ns (bO ns i j).id)).id with
 |none=>
   have:=RN hu
   exact KB (ahN.2 ⟨_,g.mem,rfl⟩) this
 |some z=>
   obtain⟨_,p,g1,g2,g3⟩:=RO h.fP htl.1 (λp dz=>(hp p dz).1) hu
   obtain⟨a,b,ha,hb,hk,rfl⟩:=DE.1 g1
   have g2:bV ns (bO ns a b).id=bV ns (bO ns i j).id:=g2
   obtain⟨rfl,rfl⟩:=h.uniq a b i j ⟨ha,hb,hk⟩ g ha g.lti g2
   have g3:z=(nd ns a).id:=g3
   cases y with
   |zero=>
     have e2:up _ _=none:=e2
     rw [hu] at e2;cases e2
   |succ y=>
     obtain⟨z',h1,h2⟩:=e2
     rw [hu] at h1
     cases h1
     rw [g3] at h2
     have:=e1.uniq h2
     show x<y+1
     omega
end
end
section
open Go.RowKit Go.Maps bw aI
structure kU (X:FM):Prop where
 cN:0<=X.cN/\X.cN<=4096
 cB:0<=X.cB/\X.cB<=1099511627776
 cH:0<=X.cH/\X.cH<=1024
 now:iM X.cS X.cZ
def jZ (n:aP):Nat:=n.id.toNat
def uX (n:aP):Th:=⟨jZ n,n.kind⟩
def wk (n:aP):bT:=⟨n.id,n.mode,n.cO,n.cQ,n.bJ,n.bh,0,0,false,n.kind,n.data,n.target,[],none⟩
def Nc:bT:=⟨0,0,0,0,0,0,0,0,false,0,[],⟨#[]⟩,[],none⟩
def BD (X:FM):bg:=⟨{X with last:=0,aq:=0,used:=0},λ_=>Nc,[],[],0⟩
def gh (S:bg) (n:aP):bg:={S with X:={S.X with last:=n.id,used:=S.X.used+n.data.length},O:=bE S.O (jZ n) (λ_=>wk n),ay:=ins n.id (uX n) S.ay}
def qx (ns:List aP) (e:fM):Th:=uX (nd ns (bV ns e.id))
def rL (ns:List aP) (S:bg) (n:aP) (e:fM):bg:={S with X:={S.X with aq:=S.X.aq+1},O:=uj S.O (jZ n) e.name (qx ns e)}
def fX (ns:List aP):Nat->Nat
 |0=>0
 |k+1=>fX ns k+(nd ns k).data.length
def Ig (ns:List aP):bB Th:=ns.map (λn=>(n.id,uX n))
structure xq (X:FM) (ns:List aP) (k:Nat) (S:bg):Prop where
 inv:Inv0 S
 ay:S.ay=Ig (ns.take k)
 us:S.us=[]
 aL:S.aL=0
 cap:S.X={X with last:=qI ns k,aq:=0,used:=(fX ns k:Int)}
 ob:∀a,a<k->ah S.O (jZ (nd ns a))=wk (nd ns a)
 free:∀x,(∀a,a<k->x≠jZ (nd ns a))->ah S.O x=Nc
section base
variable {X:FM} {ns:List aP} {i j k a b:Nat} {S:bg}
theorem JE (h:cD ns) (hk:k<ns.length):(jZ (nd ns k):Int)=(nd ns k).id:=by
 have:=h.ids k hk
 unfold jZ;omega
theorem za (h:cD ns) (ha:a<ns.length) (hb:b<ns.length) (e:jZ (nd ns a)=jZ (nd ns b)):a=b:=
 h.fP.inj ha hb (by grind [JE])
theorem EW (hk:k<ns.length):ns[k]?=some (nd ns k):=getD_some hk
theorem acW (hk:k<ns.length):ns.take (k+1)=ns.take k++[nd ns k]:=by
 rw [ah4,EW hk];rfl
theorem WX (hX:kU X):xq X ns 0 (BD X):=by
 refine⟨?_,rfl,rfl,rfl,rfl,λa h=>KB h (N5 a),λ_ _=>rfl⟩
 have hn:∀t,¬aT ([]:bB Th) t:=λt h=>by cases h
 exact⟨hX.cN,hX.cB,hX.cH,hX.now,by show (0:Int)<=0/\(0:Int)<=_;omega,.nil,L4 _,λ_ _ e=>(by cases e),λt h=>KB h (hn t),λt h=>KB h (hn t),λt h=>KB h (hn t),λt h=>KB h (hn t),
  λ_ _=>⟨rfl,rfl⟩,λ_ _=>rfl,⟨rfl,by show (0:Int)<=8192;omega⟩,λt h=>KB h (hn t),λt h=>KB h (hn t),λt h=>KB h (hn t),.nil,λx hx=>(by cases hx),(by show ((0:Nat):Int)<=X.cH;have:=hX.cH;omega),⟨Int.le_refl _,hX.cH.1⟩,λ_ _ e=>(by cases e),λt h=>KB h (hn t),λt h=>KB h (hn t),⟨λ_=>0,λk d e=>(by cases e)⟩,⟨rfl,by show (0:Int)<=_;omega⟩⟩
theorem Sh (h:cD ns) (hk:k<ns.length):∀x∈aY (Ig (ns.take k)),x<(nd ns k).id:=by
 intro x hx
 obtain⟨p,hp,rfl⟩:=ahN.1 hx
 obtain⟨n,hn,rfl⟩:=ahN.1 hp
 obtain⟨a,ha,e⟩:=ah9.1 hn
 rw [ahZ] at ha
 rw [List.getElem_take] at e
 have e2:nd ns a=n:=by
  grind [EW,aY,Ig,nd]
 rw [←e2]
 exact h.fP a k d5 hk
theorem Md (hd:∀i,i<ns.length->(nd ns i).data.length<=1048576) (hk:k<=ns.length):fX ns k<=1048576*k:=by
 induction k with
 |zero=>exact N6 _
 |succ k ih=>
   grind [fX,nd]
theorem EX (h:cD ns) (hd:∀i,i<ns.length->(nd ns i).data.length<=1048576) (hk:k<ns.length) (hB:xq X ns k S):xq X ns (k+1) (gh S (nd ns k)):=by
 have hs:=Md hd (aiH hk)
 have hn:=h.node k hk
 have hid:=JE h hk
 have yq:=h.ids k hk
 have hu:S.X.used=(fX ns k:Int):=by rw [hB.cap]
 have hl:S.X.last=qI ns k:=by rw [hB.cap]
 have jT:=h.len
 have hdk:=hd k hk
 have aho:S.ay.length=k:=by
  rw [hB.ay];unfold Ig;rw [ahQ,ahZ];omega
 have h1:=hB.inv.newAt (k0:=jZ (nd ns k)) (o:=wk (nd ns k)) (sj:=S.X.used+(nd ns k).data.length) (us':=S.us) (lH:=S.aL) (by rw [hid,hl];exact h.last hk) (by rw [hid];exact yq.2) ⟨rfl,by rw [hu];omega⟩ hid.symm
  (by have:=hn.kind;show (nd ns k).kind=1\/(nd ns k).kind=2\/(nd ns k).kind=3;omega) rfl rfl rfl rfl
  ⟨hn.mode,hn.cO,hn.cQ,hn.time,λe=>aic (hn.data e),λ_=>rfl,hn.target⟩ d5
  hB.inv.usr hB.inv.wj hB.inv.Ez hB.inv.aL (λh t e=>⟨.inl (hB.inv.us h t e).1,(hB.inv.us h t e).2⟩) (λ_ _=>rfl) (by rw [hB.us];rfl)
 rw [hid] at h1
 refine⟨h1,?_,hB.us,hB.aL,?_,λa ha=>?_,λx hx=>(show ah (bE S.O (jZ (nd ns k)) λ_=>wk (nd ns k)) x=Nc from (jf (hx k (ah0 k))).trans (hB.free x λa ha=>hx a (Nat.lt_succ_of_lt ha)))⟩
 ·show ins (nd ns k).id (uX (nd ns k)) S.ay=_
  rw [hB.ay,Oe (Sh h hk),acW hk]
  unfold Ig;rw [aik];rfl
 ·show ({S.X with last:=(nd ns k).id,used:=S.X.used+((nd ns k).data.length:Int)}:FM)=_
  rw [hu,hB.cap]
  show (⟨_,_,_,_,_,_,_,_⟩:FM)=⟨_,_,_,_,_,_,_,_⟩
  congr 1
 show ah (bE S.O (jZ (nd ns k)) (λ_=>wk (nd ns k))) (jZ (nd ns a))=_
 rcases Pe.1 ha with e|e
 ·rw [jf (λe2=>by grind [za])]
  exact hB.ob a e
 subst e;exact iq
theorem xq.fresh (h:cD ns) (hk:k<ns.length) (hB:xq X ns k S):Bj S.O S.ay S.us (jZ (nd ns k)):=hB.inv.KA (by rw [JE h hk,hB.cap];exact h.last hk)
theorem xq.new (h:cD ns) (hk:k<ns.length) (hB:xq X ns k S):aI.get S.ay (nd ns k).id=none:=get_none.2 (λhm=>by
 rw [hB.ay] at hm
 exact KB (Sh h hk _ hm) d5)
theorem Ih (X:FM) (L:HL):(∀k,fQ (BD X).O L k=eG.none)/\(∀k,eX (BD X).O L k=eG.none)/\∀k,ig (BD X).O L k=eG.none:=⟨λ_=>t8 rfl,λ_=>nw (by show ¬(0:Int)=1;omega),λ_=>nw (by show ¬(0:Int)=2;omega)⟩
theorem aQ.afY {β:Bs} {l l':List HP} {w:World} {i j b m c:Nat} {ix:List Nat} {O:eE} {L L':HL} {A:Option Addr} {o:bT} (h:aQ β l w) (hL:L'=L.put k b m A c) (hp:l[i]?=some (.abs (bp (eX O L)))) (hq:l[j]?=some (.abs (aK 5 1 A o.data.length c (ez o.data)))) (hd:bS (i::j::ix)=true) (hl:cR l ix=some l') (h1:o.kind=1):aQ β (.abs (bp (eX (bE O k (λ_=>o)) L'))::l') w:=by
 refine h.yP hp hq (λ_ _ h=>h) hd hl k (λx hx=>by rw [I6 hx,KC hL hx]) ?_
 grind [zK,iq,HL.put]
end base
theorem acX {O:eE} {L:HL} {d:Nat} {name:ByteArray} {t:Th}:eX (uj O d name t) L=eX O L:=
 zQ (λ_=>Hz (g:=bT.data) (λ_ _=>rfl) (λ_ _=>rfl) (λ_ _=>rfl)) (λ_=>Et)
def vN (ns:List aP) (i j a:Nat):Nat:=if a<i then (nd ns a).aq.length else if a=i then j else 0
def uw (ns:List aP) (a m:Nat):je Th:=((nd ns a).aq.take m).map (λe=>(e.name,qx ns e))
structure kR (X:FM) (ns:List aP) (i j:Nat) (S:bg):Prop where
 inv:Inv0 S
 ay:S.ay=Ig ns
 us:S.us=[]
 aL:S.aL=0
 cap:S.X={X with last:=qI ns ns.length,aq:=((dY ns i+j:Nat):Int),used:=(fX ns ns.length:Int)}
 ob:∀a,a<ns.length->∃l u,ah S.O (jZ (nd ns a))={wk (nd ns a) with aU:=l,aq:=uw ns a (vN ns i j a),up:=u}
 free:∀x,(∀a,a<ns.length->x≠jZ (nd ns a))->ah S.O x=Nc
section aq
variable {X:FM} {ns:List aP} {i j k a b m:Nat} {S:bg} {t:Th}
theorem xq.aq (h:xq X ns ns.length S):kR X ns 0 0 S:=by
 refine⟨h.inv,by rw [h.ay,aii (N6 _)],h.us,h.aL,h.cap,λa ha=>⟨0,none,?_⟩,h.free⟩
 rw [h.ob a ha]
 have:vN ns 0 0 a=0:=by
  grind [vN]
 rw [this];rfl
theorem kR.get (h:kR X ns i j S) (ha:a<ns.length):aI.get S.ay (nd ns a).id=some (uX (nd ns a)):=by
 refine ox h.inv.fP ?_
 rw [h.ay]
 exact ahN.2 ⟨nd ns a,ah8 (EW ha),rfl⟩
theorem kR.live (hG:cD ns) (h:kR X ns i j S) (ha:a<ns.length):aT S.ay (uX (nd ns a)):=by
 have:=h.get ha
 rw [←JE hG ha] at this
 exact this
theorem kR.of (h:kR X ns i j S) {x:Int} (e:aI.get S.ay x=some t):∃a,a<ns.length/\t=uX (nd ns a):=by
 have hm:=get_mem e
 rw [h.ay] at hm
 obtain⟨n,hn,e2⟩:=ahN.1 hm
 obtain⟨a,ha,e3⟩:=ah9.1 hn
 have e4:nd ns a=n:=by
  grind [EW,uX,nd]
 cases e2
 exact⟨a,ha,by rw [e4]⟩
theorem Pf {es:List fM} {q:Nat} (hq:q<es.length):es[q]?=some (en es q):=getD_some hq
theorem DF {e:ByteArray×Th} (h:e∈uw ns a m):∃q,q<m/\q<(nd ns a).aq.length/\e.1=(bO ns a q).name/\e.2=qx ns (bO ns a q):=by
 obtain⟨x,hx,rfl⟩:=ahN.1 h
 obtain⟨q,hq,e⟩:=ah9.1 hx
 rw [ahZ] at hq
 rw [List.getElem_take] at e
 have e2:bO ns a q=x:=by
  have:=Pf (es:=(nd ns a).aq) (q:=q) d5
  grind [uw,nd,bO,qx]
 grind
theorem WY (hj:j<(nd ns i).aq.length):uw ns i (j+1)=uw ns i j++[((bO ns i j).name,qx ns (bO ns i j))]:=by
 unfold uw
 rw [ah4,Pf hj,aik];rfl
theorem KU (hG:cD ns) (hi:i<ns.length) {q:Nat}:∀{j},q<j->j<(nd ns i).aq.length->vm (bO ns i q).name (bO ns i j).name<0
 |0,h,_=>KB h (N5 q)
 |j+1,h,hj=>by
   have h1:=Ji.1 (hG.aq i hi (j+1) hj).ord
   have h1:vm (bO ns i j).name (bO ns i (j+1)).name<0:=h1
   rcases Pe.1 h with e|e
   ·exact II (KU hG hi e d5) (Int.le_of_lt h1)
   rw [e];exact h1
theorem Z2 (hG:cD ns) (hi:i<ns.length) (hj:j<(nd ns i).aq.length):bF (bO ns i j).name (uw ns i j)=none:=by
 refine Dh.2 (λe he e1=>?_)
 obtain⟨q,h1,h2,h3,_⟩:=DF he
 have:=KU hG hi h1 hj
 grind [Lu,bO]
theorem Me {n:ByteArray}:∀{es:je Th},(∀e∈es,vm e.1 n<0)->kO n t es=es++[(n,t)]
 |[],_=>rfl
 |e::r,h=>by
   have h1:=h e (T5 ..)
   unfold kO
   rw [nw (λhc=>by grind [Ji,Ec]),Me (λx hx=>h x (T4 _ hx))];rfl
theorem Z4 (hG:cD ns) (hi:i<ns.length) (hj:j<(nd ns i).aq.length):kO (bO ns i j).name (qx ns (bO ns i j)) (uw ns i j)=uw ns i (j+1):=by
 grind [WY,Me,DF,KU]
theorem Ai (hG:cD ns) (hi:i<ns.length) (hj:j<(nd ns i).aq.length):bV ns (bO ns i j).id<ns.length/\(nd ns (bV ns (bO ns i j).id)).id=(bO ns i j).id:=by
 have:=mR (hG.aq i hi j hj).at_
 exact⟨this.1,this.2.1⟩
theorem KV {O:eE} {d x:Nat} {name:ByteArray} (h:t.k≠d):ah (uj O d name t) x=if x=d then {ah O d with aq:=kO name t (ah O d).aq} else if x=t.k then {ah O x with aU:=(ah O x).aU+1,up:=if t.kind=2 then some d else (ah O x).up} else ah O x:=by
 grind [bE,kO,ah,up,mh,uj]
theorem kR.agH (hG:cD ns) (h:kR X ns i j S) {d:Nat} (hd:aT S.ay ⟨d,2⟩) {n:ByteArray} (ha:a<ns.length) (hk:(nd ns a).kind=2) (hl:bF n (ah S.O d).aq=some (uX (nd ns a))):∃b q,b<ns.length/\d=jZ (nd ns b)/\KS ns b q/\bV ns (bO ns b q).id=a:=by
 obtain⟨b,hb,e⟩:=h.of hd
 have e:(⟨d,2⟩:Th)=⟨jZ (nd ns b),(nd ns b).kind⟩:=e
 have e1:d=jZ (nd ns b):=zc Th.k e
 subst e1
 obtain⟨l,u,ho⟩:=h.ob b hb
 have hm:=q5 hl
 rw [ho] at hm
 obtain⟨q,h1,h2,_,h4⟩:=DF hm
 have ht:=Ai hG hb h2
 have h5:jZ (nd ns a)=jZ (nd ns (bV ns (bO ns b q).id)):=zc Th.k h4
 have h6:=za hG ha ht.1 h5
 exact⟨b,q,hb,rfl,⟨hb,h2,by rw [←h6];exact hk⟩,h6.symm⟩
theorem kR.below (hG:cD ns) (h:kR X ns i j S) {dp:Nat->Nat} (hdp:KT ns dp) {s k:Nat} (hb:rY S.O s k):∀{a b},a<ns.length->k=jZ (nd ns a)->b<ns.length->s=jZ (nd ns b)->dp b<=dp a:=by
 induction hb with
 |here=>
   grind [za]
 |up hup _ ih=>
   intro a b ha e1 hb e2
   subst e1
   have cW:=h.live hG ha
   obtain⟨h1,h2,n,h3⟩:=(h.inv.up _ cW _).1 hup
   obtain⟨c,q,hc,e3,hD,e4⟩:=h.agH hG h2 ha h1 h3
   grind [KT,jZ,nd]
theorem kR.aU (hG:cD ns) (h:kR X ns i j S) (hi:i<ns.length) (hj:j<(nd ns i).aq.length) (hk:(qx ns (bO ns i j)).kind=2):(ah S.O (qx ns (bO ns i j)).k).aU=0:=by
 have ht:=Ai hG hi hj
 have cW:aT S.ay (qx ns (bO ns i j)):=h.live hG ht.1
 rw [h.inv.aU _ cW]
 cases hz:nE S.ay S.O (qx ns (bO ns i j)).k with
 |zero=>rfl
 |succ z=>
   exfalso
   obtain⟨x,u,hu,e,he,e1⟩:=Je h.inv.fP (show 0<nE S.ay S.O (qx ns (bO ns i j)).k by omega)
   obtain⟨b,hb,rfl⟩:=h.of hu
   obtain⟨l,u,ho⟩:=h.ob b hb
   have he:e∈(ah S.O (jZ (nd ns b))).aq:=he
   rw [ho] at he
   obtain⟨q,h1,h2,_,h4⟩:=DF he
   have ht2:=Ai hG hb h2
   have h5:jZ (nd ns (bV ns (bO ns b q).id))=jZ (nd ns (bV ns (bO ns i j).id)):=by
    rw [h4] at e1;exact e1
   have h6:=za hG ht2.1 ht.1 h5
   obtain⟨rfl,rfl⟩:=hG.uniq b q i j ⟨hb,h2,by rw [h6];exact hk⟩ ⟨hi,hj,hk⟩ hb hi h6
   grind [vN]
theorem kR.look (hG:cD ns) (h:kR X ns i j S) (hi:i<ns.length) (hj:j<(nd ns i).aq.length):(ah S.O (jZ (nd ns i))).aq=uw ns i j/\bF (bO ns i j).name (ah S.O (jZ (nd ns i))).aq=none/\(nd ns i).kind=2:=by
 obtain⟨l,u,ho⟩:=h.ob i hi
 have e1:(ah S.O (jZ (nd ns i))).aq=uw ns i j:=by
  grind [uw,vN]
 refine⟨e1,by rw [e1];exact Z2 hG hi hj,?_⟩
 cases Decidable.em ((nd ns i).kind=2) with
 |inl h=>exact h
 |inr h=>have:=(hG.node i hi).aq h;omega
theorem kR.aJ (h:kR X ns i j S) (ha:a<ns.length):(ah S.O (jZ (nd ns a))).aJ=false:=by
 obtain⟨l,u,ho⟩:=h.ob a ha
 rw [ho];rfl
theorem kR.ne (hG:cD ns) (hi:i<ns.length) (hj:j<(nd ns i).aq.length) (hk:(nd ns i).kind=2):(qx ns (bO ns i j)).k≠jZ (nd ns i):=λe=>by
 have ht:=Ai hG hi hj
 have h1:=za hG ht.1 hi e
 obtain⟨dp,hdp⟩:=hG.deep
 have:=hdp i j ⟨hi,hj,by rw [h1];exact hk⟩
 rw [h1] at this
 exact aix _ this
theorem kR.step (hG:cD ns) (h:kR X ns i j S) (hi:i<ns.length) (hj:j<(nd ns i).aq.length):kR X ns i (j+1) (rL ns S (nd ns i) (bO ns i j)):=by
 obtain⟨l1,l2,l3⟩:=h.look hG hi hj
 have ht:=Ai hG hi hj
 have cG:=kR.ne hG hi hj l3
 have hld:aT S.ay ⟨jZ (nd ns i),2⟩:=by
  have:=h.live hG hi
  unfold uX at this
  rw [l3] at this
  exact this
 have fT:aT S.ay (qx ns (bO ns i j)):=h.live hG ht.1
 have hX:S.X.aq=((dY ns i+j:Nat):Int):=by rw [h.cap]
 have hsum:dY ns i+j<8192:=by
  have h1:dY ns (i+1)<=dY ns ns.length:=qp hi
  have h2:dY ns (i+1)=dY ns i+(nd ns i).aq.length:=rfl
  have h3:=hG.sum
  omega
 have h1:=h.inv.put (O':=uj S.O (jZ (nd ns i)) (bO ns i j).name (qx ns (bO ns i j))) (ta:=(ah S.O (jZ (nd ns i))).bJ) (tb:=(ah S.O (jZ (nd ns i))).bh) hld (h.aJ hi) l2 (hG.aq i hi j hj).good fT (h.aJ ht.1) (λhk=>⟨h.aU hG hi hj hk,λhb=>by
  obtain⟨dp,hdp⟩:=hG.deep
  have h2:=h.below hG hdp hb hi rfl ht.1 rfl
  have h3:=hdp i j ⟨hi,hj,hk⟩
  omega⟩) cG (by rw [hX];omega) (h.inv.mt _ hld).time (λx=>KV cG)
 refine⟨h1,h.ay,h.us,h.aL,?_,λa ha=>?_,λx hx=>(KV cG).trans (by rw [nw (hx i hi),nw (show ¬x=(qx ns (bO ns i j)).k from hx _ ht.1)];exact h.free x hx)⟩
 ·show ({S.X with aq:=S.X.aq+1}:FM)=_
  rw [hX,h.cap]
  show (⟨_,_,_,_,_,_,_,_⟩:FM)=⟨_,_,_,_,_,_,_,_⟩
  congr 1
 obtain⟨l,u,ho⟩:=h.ob a ha
 show ∃l u,ah (uj S.O (jZ (nd ns i)) (bO ns i j).name (qx ns (bO ns i j))) (jZ (nd ns a))=_
 rw [KV cG]
 by_cases e:a=i
 ·subst e
  refine⟨l,u,?_⟩
  rw [t8 rfl,l1,Z4 hG hi hj,ho]
  have hc:vN ns a (j+1) a=j+1:=by grind [vN]
  rw [hc]
 have hc:vN ns i (j+1) a=vN ns i j a:=by
  unfold vN;rw [nw e,nw e]
 rw [nw (λe2=>e (za hG ha hi e2)),hc]
 split
 ·rw [ho];exact⟨_,_,rfl⟩
 exact⟨l,u,ho⟩
theorem kR.next (h:kR X ns i (nd ns i).aq.length S):kR X ns (i+1) 0 S:=by
 refine⟨h.inv,h.ay,h.us,h.aL,h.cap,λa ha=>?_,h.free⟩
 obtain⟨l,u,ho⟩:=h.ob a ha
 grind [vN,nd]
theorem kR.full (h:kR X ns i j S):bC S:=by
 refine⟨h.inv,λt ht hg=>?_⟩
 obtain⟨a,ha,rfl⟩:=h.of ht
 have:(ah S.O (jZ (nd ns a))).aJ=true:=hg
 rw [h.aJ ha] at this
 cases this
theorem kR.graph (hG:cD ns) (h:kR X ns ns.length 0 S):aV S=ns:=by
 unfold aV
 rw [h.ay]
 unfold Ig
 rw [List.map_map]
 refine List.ext_getElem? (λa=>?_)
 rw [List.getElem?_map]
 by_cases ha:a<ns.length
 ·rw [EW ha]
  refine zc some ?_
  show jV S.O (nd ns a).id ⟨jZ (nd ns a),(nd ns a).kind⟩=nd ns a
  unfold jV
  obtain⟨l,u,ho⟩:=h.ob a ha
  rw [ho]
  have he:(uw ns a (vN ns ns.length 0 a)).map (gD S.O)=(nd ns a).aq:=by
   unfold vN
   rw [t8 ha]
   unfold uw
   rw [aii (N6 _),List.map_map]
   refine List.ext_getElem? (λq=>?_)
   rw [List.getElem?_map]
   by_cases hq:q<(nd ns a).aq.length
   ·rw [Pf hq]
    refine zc some ?_
    have ht:=Ai hG ha hq
    obtain⟨l,u,ho⟩:=h.ob _ ht.1
    have e1:(ah S.O (qx ns (en (nd ns a).aq q)).k).id=(en (nd ns a).aq q).id:=by
     show (ah S.O (jZ (nd ns (bV ns (bO ns a q).id)))).id=(bO ns a q).id
     rw [ho];exact ht.2
    show (⟨(en (nd ns a).aq q).name,(ah S.O (qx ns (en (nd ns a).aq q)).k).id⟩:fM)=_
    rw [e1]
   rw [aiz d5];rfl
  show (⟨_,_,_,_,_,_,_,_,_,List.map (gD S.O) (uw ns a (vN ns ns.length 0 a))⟩:aP)=_
  rw [he]
  rfl
 rw [aiz d5];rfl
end aq
end
section
open Go.RowKit bw aI Go.Maps
theorem WZ {l:List Int} {j:Nat} (h:j<l.length):(bG l)[j]?=some (.int .i64 (l.getD j 0)):=by
 simp [bG,List.getD_eq_getElem?_getD,h]
theorem JF {ks:List Int} (h:aI.dK ks) {i j:Nat} (hij:i<j) (hj:j<ks.length):ks.getD i 0<ks.getD j 0:=by
 have:=aiv.1 h i j d5 hj hij
 grind
theorem BF {ks:List Int} {j:Nat} (h:j<ks.length):ks.getD j 0∈ks:=by
 grind
theorem lT.get {β:Bs} {A:Option Addr} {l:List Int} (h:cE β A (bG l)) {j:Nat} (hj:j<l.length):A=some ⟨cC A,cq A,none⟩/\Rd β ⟨cC A,cq A+j*1,none⟩ (.int .i64 (l.getD j 0)):=by
 have:=h j _ (WZ hj)
 rw [Nat.mul_one];exact this
theorem lT.hd {β:Bs} {A:Option Addr} {l:List Int} (h:cE β A (bG l)) {j:Nat} (hj:j<l.length):A=some ⟨cC A,cq A,none⟩:=(lT.get h hj).1
theorem lT.rd {β:Bs} {A:Option Addr} {l:List Int} (h:cE β A (bG l)) {j:Nat} (hj:j<l.length):Rd β ⟨cC A,cq A+j*1,none⟩ (.int .i64 (l.getD j 0)):=(lT.get h hj).2
def jc (us:bB Int):List Int:=us.map (·.2)
theorem mE (us:bB Int):(jc us).length=us.length:=by simp [jc]
theorem kz {V:Type} (us:bB V):(aY us).length=us.length:=by simp [aY]
def tK:List Int->Int->Int
 |[],_=>-1
 |k::r,h=>if k=h then 0 else if tK r h<0 then -1 else tK r h+1
theorem Pg {ks:List Int} {h:Int}:(∀j,j<ks.length->¬ks.getD j 0=h)->tK ks h = -1:=by
 induction ks with
 |nil=>intro _;rfl
 |cons k r ih=>
   intro hn
   have h0:¬k=h:=hn 0 nh
   have:=ih (λj hj=>by have:=hn (j+1) (by simpa using hj);simpa using this)
   rw [tK,nw h0,this];rfl
theorem W4:∀{ks:List Int} {h:Int} {i:Nat},i<ks.length->ks.getD i 0=h->(∀j,j<i->¬ks.getD j 0=h)->tK ks h=i
 |k::r,h,0,_,e,_=>by
   have e:k=h:=e
   rw [tK,t8 e];rfl
 |k::r,h,i+1,hi,e,hn=>by
   have h0:¬k=h:=hn 0 d5
   have:=W4 (ks:=r) (h:=h) (i:=i) (by simpa using hi) (by simpa using e) (λj hj=>gn)
   rw [tK,nw h0,this,nw d5]
   omega
theorem Si {ks:List Int} {h:Int} (hm:h∈ks):∃i:Nat,tK ks h=i/\i<ks.length/\ks.getD i 0=h:=by
 induction ks with
 |nil=>cases hm
 |cons k r ih=>
   by_cases e:k=h
   ·exact⟨0,by rw [tK,t8 e];rfl,nh,e⟩
   rcases ahK.1 hm with e2|hm
   ·exact KB e2.symm e
   obtain⟨i,h1,h2,h3⟩:=ih hm
   exact⟨i+1,by grind [tK],by simpa using h2,by simpa using h3⟩
theorem Sj {ks:List Int} {h:Int} (hm:h∉ks):tK ks h = -1:=Pg (λ_ hj e=>hm (e ▸ BF hj))
theorem Sk {ks:List Int} {h:Int}:0<=tK ks h↔h∈ks:=by
 grind [Si,Sj]
theorem sE:∀(ks:List Int) (h:Int),kN h ks<=h+ks.length
 |[],h=>by simp [kN]
 |k::r,h=>by
   rw [kN]
   split
   ·have:=sE r (h+1);simp only [ahX];omega
   simp only [ahX];omega
theorem Z5 {V:Type} (us:bB V):aI.aS us<=1+us.length:=by
 have:=sE (aY us) 1
 rw [kz] at this
 exact this
theorem UD {V:Type} {us:bB V} (hr:aI.dK (aY us)) (hp:∀x∈aY us,1<=x):1<=aI.aS us/\aI.aS us∉aY us/\∀x,1<=x->x<aI.aS us->x∈aY us:=qK (aY us) 1 hr hp
section ins
variable {h v:Int}
theorem Ph:∀{l:bB Int},(∀p∈l,¬h<p.1)->ins h v l=l++[(h,v)]
 |[],_=>rfl
 |p::r,hn=>by
   rw [ins,nw (hn p (T5 ..)),Ph (λq hq=>hn q (T4 _ hq))];rfl
theorem Mf:∀{l:bB Int} {x:Int×Int},(∀p∈l,¬h<p.1)->h<x.1->ins h v (l++[x])=l++[(h,v),x]
 |[],x,_,hx=>by grind [ins]
 |p::r,x,hn,hx=>by
   rw [aib,ins,nw (hn p (T5 ..)),Mf (λq hq=>hn q (T4 _ hq)) hx];rfl
theorem Pj:∀{l:bB Int} {x:Int×Int},(∃p∈l,h<p.1)->ins h v (l++[x])=ins h v l++[x]
 |[],_,hd=>by obtain⟨p,hp,_⟩:=hd;cases hp
 |p::r,x,hd=>by
   rw [aib,ins,ins]
   split
   ·rfl
   rename_i hp
   obtain⟨q,hq,fT⟩:=hd
   rcases ahK.1 hq with e|hq
   ·exact KB (e ▸ fT) hp
   rw [Pj ⟨q,hq,fT⟩];rfl
end ins
def pr (us:bB Int) (i:Nat):Int×Int:=us.getD i (0,0)
theorem ze {us:bB Int} {i:Nat} (hi:i<us.length):us.take (i+1)=us.take i++[pr us i]:=by
 rw [ah4]
 grind [pr]
theorem zf {us:bB Int} {i:Nat} (hi:i<us.length):(aY us).getD i 0=(pr us i).1/\(jc us).getD i 0=(pr us i).2:=by
 grind [aY,jc,pr]
structure lU (us:bB Int) (h v:Int) (i:Nat) (d:Bool) (q:bB Int):Prop where
 yes:d=true->(∃p∈us.take i,h<p.1)/\q=ins h v (us.take i)
 no:d=false->(∀p∈us.take i,¬h<p.1)/\q=us.take i
 len:q.length=i+(if d then 1 else 0)
section put
variable {us q:bB Int} {h v:Int} {i:Nat} {d:Bool}
theorem lU.zero:lU us h v 0 false []:=⟨λe=>(by cases e),λ_=>⟨λp hp=>(by simp at hp),nh⟩,rfl⟩
theorem lU.hit (hp:lU us h v i false q) (hi:i<us.length) (hk:h<(pr us i).1):lU us h v (i+1) true (q++[(h,v)]++[pr us i]):=by
 obtain⟨h1,rfl⟩:=hp.no rfl
 refine⟨λ_=>⟨⟨pr us i,by rw [ze hi];simp,hk⟩,by rw [ze hi,Mf h1 hk];simp⟩,λe=>(by cases e),?_⟩
 simp
 omega
theorem lU.miss (hp:lU us h v i false q) (hi:i<us.length) (hk:¬h<(pr us i).1):lU us h v (i+1) false (q++[pr us i]):=by
 obtain⟨h1,rfl⟩:=hp.no rfl
 refine⟨λe=>(by cases e),λ_=>⟨λp hpm=>?_,(ze hi).symm⟩,by simp;omega⟩
 grind [ze]
theorem lU.more (hp:lU us h v i true q) (hi:i<us.length):lU us h v (i+1) true (q++[pr us i]):=by
 obtain⟨⟨p,h1,h2⟩,rfl⟩:=hp.yes rfl
 refine⟨λ_=>⟨⟨p,gn,h2⟩,by grind [ze,Pj]⟩,λe=>(by cases e),?_⟩
 have:=hp.len
 simp at this ⊢
 omega
theorem lU.last (hp:lU us h v us.length false q):q++[(h,v)]=ins h v us:=by
 obtain⟨h1,rfl⟩:=hp.no rfl
 grind [Ph]
theorem lU.end_ (hp:lU us h v us.length true q):q=ins h v us:=by
 obtain⟨_,rfl⟩:=hp.yes rfl
 rw [ahW]
end put
theorem Z6 (q:bB Int) (x:Int×Int):jc (q++[x])=jc q++[x.2]:=by simp [jc]
theorem LR (q:bB Int) (x:Int×Int):aY (q++[x])=aY q++[x.1]:=by simp [aY]
theorem Pk {us:bB Int} {h:Int} {i:Nat} (hi:i<us.length):del h (us.take (i+1))=if (pr us i).1=h then del h (us.take i) else del h (us.take i)++[pr us i]:=by
 grind [ze,del,pr]
theorem UE {us:bB Int} {h:Int}:(del h us).length<=us.length:=aiq ..
theorem JG {us:bB Int} (hr:aI.dK (aY us)) {i j:Nat} (hi:i<us.length) (hj:j<us.length) (e:(pr us i).1=(pr us j).1):i=j:=by
 rw [←(zf hi).1,←(zf hj).1] at e
 rcases ail i j with h|h|h
 ·have:=JF hr h (by rw [kz];exact hj);omega
 ·exact h
 have:=JF hr h (by rw [kz];exact hi);omega
theorem aek {us:bB Int} (hr:aI.dK (aY us)) {i:Nat} (hi:i<us.length) {h:Int} (e:(pr us i).1=h):aI.get us h=some (pr us i).2:=by
 have hm:pr us i∈us:=by grind [pr]
 unfold aI.get
 cases hf:us.find? (λp=>p.1 == h) with
 |none=>
   grind
 |some p=>
   have h1:=List.mem_of_find?_eq_some hf
   have h2:=List.find?_some hf
   obtain⟨j,hj,rfl⟩:=ain h1
   grind [pr,JG]
end
section
open Go.RowKit Go.Maps bw aI
noncomputable section
structure RS where
 ns:List aP
 aJ:List Int
 us:bB Int
 aL:Int
 cN:Int
 cB:Int
 cH:Int
 cS:Int
 cZ:Int
 last:Int
def mH (name:ByteArray) (id:Int):List fM->List fM
 |[]=>[⟨name,id⟩]
 |e::r=>if ¬iR e.name name then ⟨name,id⟩::e::r else e::mH name id r
def rN (name:ByteArray) (es:List fM):List fM:=es.filter (λe=>decide (e.name≠name))
def nK (s z:Int) (ns:List aP) (d:Nat) (es:List fM):List aP:=ns.set d {nd ns d with aq:=es,bJ:=s,bh:=z}
def cL (ns:List aP) (d:Nat) (name:ByteArray):Int:=match BB (nd ns d).aq name with|none=>-1|some j=>gF ns (en (nd ns d).aq j).id
def tL (ns:List aP) (id:Int):Int:=(nN ns id ns.length:Int)
def qY (name:ByteArray):List fM->Int->Int
 |[],z=>z
 |e::r,z=>qY name r (if e.name=name then e.id else z)
variable (R:RS)
def oW (h:Int):Except Int Nat:=match aI.get R.us h with|none=>.error 131|some id=>.ok (bV R.ns id)
def lM (h:Int) (name:ByteArray) (fD:Int):Except Int Nat:=
 match oW R h with
 |.error e=>.error e
 |.ok d=>
   if (nd R.ns d).kind=2 then
    if (nd R.ns d).id∈R.aJ then .error 170
    else if bU name then if bits BinOp.and .i64 (nd R.ns d).mode fD=fD then .ok d else .error 175
    else .error 95
   else .error 173
def dX (d:Nat) (name:ByteArray) (id:Int):RS:={R with ns:=nK R.cS R.cZ R.ns d (mH name id (nd R.ns d).aq)}
def cY (d:Nat) (name:ByteArray) (free:Bool):RS:=
 let ns:=nK R.cS R.cZ R.ns d (rN name (nd R.ns d).aq)
 let id:=qY name (nd R.ns d).aq 0
 {R with ns:=ns,aJ:=if free=true/\tL ns id=0 then R.aJ++[id] else R.aJ}
def rO (n:aP):Bool:=decide (n.id∈R.aJ->n.id∈jc R.us)
def gu:RS:={R with ns:=R.ns.filter (rO R),aJ:=((R.ns.filter (rO R)).filter (λn=>decide (n.id∈R.aJ))).map aP.id}
def ko (d:Nat) (name:ByteArray) (n:aP):RS:=
 let id:=R.last+1
 let R1:=dX {R with last:=id} d name id
 {R1 with ns:=R1.ns++[{n with id:=id,bJ:=R.cS,bh:=R.cZ}]}
def vO:Prop:=(R.ns.length:Int)<R.cN/\R.last<1099511627776/\(dY R.ns R.ns.length:Int)<8192
instance:Decidable (vO R):=inferInstanceAs (Decidable (_/\_/\_))
abbrev wX:=RS×Int×Int
def l5 (k:Nat):wX:=
 if (R.us.length:Int)<R.cH then ({R with us:=ins (aS R.us) (nd R.ns k).id R.us,aL:=max R.aL ((R.us.length:Int)+1)},aS R.us,0) else (R,0,130)
def kX (k:Nat) (bs:List UInt8):wX:=
 if bs=[] then (R,0,0)
 else if R.cB-(fX R.ns R.ns.length:Int)<=0 then (R,0,176)
 else
  let n:=(min (bs.length:Int) (R.cB-(fX R.ns R.ns.length:Int))).toNat
  ({R with ns:=R.ns.set k {nd R.ns k with data:=(nd R.ns k).data++bs.take n,bJ:=R.cS,bh:=R.cZ}},(n:Int),0)
def cI (d:Nat) (name:ByteArray) (n:aP):RS×Int:=
 if n.kind=3/\lF n.target≠0 then (R,lF n.target)
 else if 0<=cL R.ns d name then (R,171)
 else if vO R then (ko R d name n,0) else (R,177)
def jP (d:Nat) (name:ByteArray) (dir:Bool):RS×Int:=
 if 0<=cL R.ns d name then
  let k:=(cL R.ns d name).toNat
  if dir=false/\(nd R.ns k).kind=2 then (R,172)
  else if dir=true/\(nd R.ns k).kind≠2 then (R,173)
  else if dir=true/\0<(nd R.ns k).aq.length then (R,178)
  else (gu (cY R d name true),0)
 else (R,170)
def oz (ns:List aP) (id:Int):Nat->Int
 |0=>-1
 |i+1=>if 0<iY (nd ns i).aq id (nd ns i).aq.length then (i:Int) else oz ns id i
def jH (ns:List aP) (top:Nat):Nat->Nat->Bool
 |0,_=>false
 |k+1,d=>if d=top then true else if oz ns (nd ns d).id ns.length<0 then false else jH ns top k (oz ns (nd ns d).id ns.length).toNat
def jS (f:Nat) (name:ByteArray) (to:Nat) (aG:ByteArray):RS×Int:=
 if 0<=cL R.ns f name then
  let k:=(cL R.ns f name).toNat
  if (nd R.ns k).kind=2/\jH R.ns k (R.ns.length+1) to=true then (R,174)
  else if cL R.ns to aG=(k:Int) then (R,0)
  else if 0<=cL R.ns to aG then
   if (nd R.ns (cL R.ns to aG).toNat).kind=2 then (R,172)
   else if (nd R.ns k).kind=2 then (R,173)
   else (gu (dX (cY (cY R to aG true) f name false) to aG (nd R.ns k).id),0)
  else (gu (dX (cY R f name false) to aG (nd R.ns k).id),0)
 else (R,170)
def kV (c:aN) (want:Int):wX:=
 match lM R c.bD c.name 64 with
 |.error e=>(R,0,e)
 |.ok d=>
   if 0<=cL R.ns d c.name then
    let k:=(cL R.ns d c.name).toNat
    if (nd R.ns k).kind=3 then (R,0,174)
    else if (nd R.ns k).kind≠want then (R,0,if (nd R.ns k).kind=1 then 173 else 172)
    else l5 R k
   else (R,0,170)
def ael (c:aN) (fD:Int):Except Int (Nat×Nat):=
 match lM R c.bD c.name fD with
 |.error e=>.error e
 |.ok f=>match lM R c.other c.text 192 with
   |.error e=>.error e
   |.ok to=>.ok (f,to)
def abR (c:aN):wX:=
 match oW R c.bD with
 |.error e=>(R,0,e)
 |.ok k=>
   if (nd R.ns k).kind=2/\(nd R.ns k).id∈R.aJ then (R,0,170)
   else if mT c.mode then
    if Dl c.cO/\Dl c.cQ then
     if iM c.bJ c.bh then ({R with ns:=R.ns.set k {nd R.ns k with mode:=c.mode,cO:=c.cO,cQ:=c.cQ,bJ:=c.bJ,bh:=c.bh}},0,0)
     else (R,0,20)
    else (R,0,11)
   else (R,0,120)
def nj (c:aN) (d:Nat):wX:=
 if c.op=8\/c.op=14 then ((jP R d c.name (decide (c.op=14))).1,0,(jP R d c.name (decide (c.op=14))).2)
 else if c.op=6 then ((cI R d c.name ⟨0,3,511,0,0,0,0,[],c.text,[]⟩).1,0,(cI R d c.name ⟨0,3,511,0,0,0,0,[],c.text,[]⟩).2)
 else if mT c.mode then
  if c.op=5 then
   let m:=cI R d c.name ⟨0,1,c.mode,0,0,0,0,[],⟨#[]⟩,[]⟩
   if m.2=0 then l5 m.1 (m.1.ns.length-1) else (m.1,0,m.2)
  else ((cI R d c.name ⟨0,2,c.mode,0,0,0,0,[],⟨#[]⟩,[]⟩).1,0,(cI R d c.name ⟨0,2,c.mode,0,0,0,0,[],⟨#[]⟩,[]⟩).2)
 else (R,0,120)
def abS (c:aN):wX:=
 match ael R c 64 with
 |.error e=>(R,0,e)
 |.ok (f,to)=>
   if 0<=cL R.ns f c.name then
    if (nd R.ns (cL R.ns f c.name).toNat).kind=2 then (R,0,172)
    else if 0<=cL R.ns to c.text then (R,0,171)
    else if (dY R.ns R.ns.length:Int)<8192 then (dX R to c.text (nd R.ns (cL R.ns f c.name).toNat).id,0,0)
    else (R,0,177)
   else (R,0,170)
def dH (c:aN):wX:=
 if c.op=1 then
  if 0<=gF R.ns c.other then if (nd R.ns (bV R.ns c.other)).kind=2 then l5 R (bV R.ns c.other) else (R,0,173)
  else (R,0,141)
 else if c.op=2 then kV R c 2
 else if c.op=3 then kV R c 1
 else if c.op=4\/c.op=5\/c.op=6\/c.op=8\/c.op=14 then
  match lM R c.bD c.name 192 with
  |.error e=>(R,0,e)
  |.ok d=>nj R c d
 else if c.op=7 then abS R c
 else if c.op=9 then
  match oW R c.bD with
  |.error e=>(R,0,e)
  |.ok k=>if (nd R.ns k).kind=2 then (R,0,172) else kX R k c.data
 else if c.op=10 then abR R c
 else if c.op=13 then
  if c.bD∈aY R.us then (gu {R with us:=del c.bD R.us},0,0) else (gu R,0,131)
 else if c.op=15 then
  match ael R c 192 with
  |.error e=>(R,0,e)
  |.ok (f,to)=>((jS R f c.name to c.text).1,0,(jS R f c.name to c.text).2)
 else (R,0,230)
def abT (c:aN) (k:Nat):aN:={c with answer:=(nd R.ns k).id,other:=(nd R.ns k).kind,mode:=(nd R.ns k).mode,cO:=(nd R.ns k).cO,cQ:=(nd R.ns k).cQ,bJ:=(nd R.ns k).bJ,bh:=(nd R.ns k).bh,code:=0}
def UF (c:aN) (e:Int):aN:={c with answer:=0,other:=0,mode:=0,cO:=0,cQ:=0,bJ:=0,bh:=0,code:=e}
def afZ (c:aN):aN:=
 if c.op=12 then
  match lM R c.bD c.name 64 with
  |.error e=>UF c e
  |.ok d=>if 0<=cL R.ns d c.name then abT R c (cL R.ns d c.name).toNat else UF c 170
 else match oW R c.bD with
  |.error e=>UF c e
  |.ok k=>abT R c k
def tX (c:aN):RS×aN:=
 if c.op=11\/c.op=12 then (R,afZ R c)
 else if (dH R c).2.2=0 then ((dH R c).1,{c with answer:=(dH R c).2.1,code:=0}) else (R,{c with answer:=0,code:=(dH R c).2.2})
end
structure RL where
 A:Option Addr
 c:Nat
 L:fk
 G:Option Addr
 cg:Nat
 H:Option Addr
 ch:Nat
 V:Option Addr
 cv:Nat
def rV (R:RS) (Y:RL):List Value:=[.slice Y.A R.ns.length Y.c,.slice Y.G R.aJ.length Y.cg,.int .i64 R.cH,.int .i64 R.aL,.slice Y.H R.us.length Y.ch,.slice Y.V R.us.length Y.cv,.int .i64 R.cN,.int .i64 R.cB,.int .i64 R.cH,.int .i64 R.cS,.int .i64 R.cZ,.int .i64 R.last]
abbrev iJ (c:aN) (A:Option Addr) (p:Nat):aN:={c with dA:=A,dC:=p}
def rW (R:RS) (A:Option Addr) (c:Nat) (G:Option Addr) (cg:Nat) (H:Option Addr) (ch:Nat) (V:Option Addr) (cv:Nat):List Value:=rV R ⟨A,c,⟨λ_=>none,λ_=>none,λ_=>0,λ_=>0⟩,G,cg,H,ch,V,cv⟩
def rZ:List Value:=[.slice none 0 0,.slice none 0 0,.int .i64 0,.int .i64 0,.slice none 0 0,.slice none 0 0,.int .i64 0,.int .i64 0,.int .i64 0,.int .i64 0,.int .i64 0,.int .i64 0]
structure RowsAt (β:Bs) (R:RS) (Y:RL):Prop where
 g:cE β Y.G (bG R.aJ)
 h:cE β Y.H (bG (aY R.us))
 v:cE β Y.V (bG (jc R.us))
structure dP (β:Bs) (R:RS) (Y:RL):Prop extends RowsAt β R Y where
 n:aO β Y.A R.ns Y.L
structure RB (R:RS):Prop where
 ns:R.ns.length<=4097
 aJ:R.aJ.length<=8200
 us:R.us.length<=1024
 aq:dY R.ns R.ns.length<=8200
 dat:fX R.ns R.ns.length<=140737488355328
structure RC (R:RS):Prop extends RB R where
 fP:dK R.ns
 hand:∀id∈jc R.us,0<=gF R.ns id
 kind:∀i,i<R.ns.length->(nd R.ns i).kind=1\/(nd R.ns i).kind=2\/(nd R.ns i).kind=3
 cap:0<=R.cN/\R.cN<=4096/\0<=R.cB/\R.cB<=1099511627776/\0<=R.cH/\R.cH<=1024/\0<=R.last/\R.last<=1099511627776/\0<=R.aL/\R.aL<=R.cH
 usr:aI.dK (aY R.us)
 wj:∀z∈aY R.us,1<=z
 Ez:(R.us.length:Int)<=R.cH
section d
variable {β β':Bs} {R:RS} {Y:RL} {i:Nat}
theorem RowsAt.le (h:RowsAt β R Y) (dV:β.le β'):RowsAt β' R Y:=⟨h.g.le dV,h.h.le dV,h.v.le dV⟩
theorem dP.le (h:dP β R Y) (dV:β.le β'):dP β' R Y:=⟨h.toRowsAt.le dV,h.n.le dV⟩
theorem RB.row (h:RB R) (hi:i<R.ns.length):(nd R.ns i).aq.length<=8200:=by
 have h1:=qp (ns:=R.ns) (show i+1<=R.ns.length by omega)
 have h2:=h.aq
 grind [dY,nd]
end d
section l
variable {ns:List aP} {es:List fM} {name:ByteArray} {id:Int} {i j d top k:Nat} {R:RS} {l:List Int}
theorem W5 (hj:j<es.length) (e:(en es j).name=name) (jx:∀q,q<j->¬(en es q).name=name):BB es name=some j:=by
 unfold BB
 rw [aif]
 have hg:∀k (hk:k<es.length),en es k=es[k]:=λk hk=>by
  grind [en]
 grind
theorem W6 (hj:j<(nd ns d).aq.length) (e:(en (nd ns d).aq j).name=name) (jx:∀q,q<j->¬(en (nd ns d).aq q).name=name):gF ns (en (nd ns d).aq j).id=cL ns d name:=by
 unfold cL;rw [W5 hj e jx]
theorem UG (jx:∀q,q<(nd ns d).aq.length->¬(en (nd ns d).aq q).name=name):(-1:Int)=cL ns d name:=by
 unfold cL;rw [UB jx]
theorem acY (hj:j<l.length) (e:l.getD j 0=id):true=decide (id∈l):=by
 grind
theorem Z7 (jx:∀q,q<l.length->¬l.getD q 0=id):false=decide (id∈l):=by
 refine (Lk (λh=>?_)).symm
 obtain⟨j,hj,e⟩:=ain h
 grind
def BG (ns:List aP) (id:Int) (i j:Nat):Int:=if 0<iY (nd ns i).aq id j then (i:Int) else oz ns id i
theorem Z8:oz ns id i=BG ns id i 0:=by unfold BG;rw [nw (by unfold iY;omega)]
theorem acZ:BG ns id i (nd ns i).aq.length=oz ns id (i+1):=rfl
theorem ac0 (e:(en (nd ns i).aq j).id=id):(i:Int)=BG ns id i (j+1):=by unfold BG;rw [t8 (by have:=JD e;omega)]
theorem Z9 (e:¬(en (nd ns i).aq j).id=id):BG ns id i j=BG ns id i (j+1):=by unfold BG;rw [GK e]
theorem W7:∀n:Nat,-1<=oz ns id n/\oz ns id n<n
 |0=>⟨by unfold oz;omega,by unfold oz;omega⟩
 |n+1=>by
   have:=W7 n
   unfold oz
   split<;>omega
theorem W8:jH ns d (k+1) d=true:=by unfold jH;rw [t8 rfl]
theorem UH (h:¬d=top) (hu:oz ns (nd ns d).id ns.length<0):jH ns top (k+1) d=false:=by unfold jH;rw [nw h,t8 hu]
theorem aac (h:¬d=top) (hu:¬oz ns (nd ns d).id ns.length<0):jH ns top (k+1) d=jH ns top k (oz ns (nd ns d).id ns.length).toNat:=by
 grind [jH]
end l
theorem Pm {V:Type} {g:Int×V->Nat}:∀{a b:bB V},gI g (a++b)=gI g a+gI g b
 |[],b=>(ahS _).symm
 |p::r,b=>by
   show g p+gI g (r++b)=g p+gI g r+gI g b
   rw [Pm];omega
theorem Rc {ns:List aP} {i j:Nat} (h:i<=j):fX ns i<=fX ns j:=by
 induction j with
 |zero=>rw [Nat.le_zero.1 h];exact N6 _
 |succ j ih=>
   grind [fX]
theorem JH {ns:List aP} {i:Nat} (h:i<=ns.length):fX ns i<=fX ns ns.length:=Rc h
section at_
variable {S:bg} {i j:Nat}
theorem qt (hi:i<S.ay.length):nd (aV S) i=jV S.O (gV S i) (jv S i):=by
 grind [nd,aV,xV]
theorem aem {t:Th} (hl:aT S.ay t):∃i,i<S.ay.length/\jv S i=t/\gV S i=(t.k:Int):=by
 obtain⟨i,hi,e⟩:=ain (get_mem hl)
 have h1:=xV hi
 grind
theorem BH (f:bT->Nat) (s:List aP->Nat->Nat) (h0:∀ns,s ns 0=0) (hs:∀k,k<S.ay.length->s (aV S) (k+1)=s (aV S) k+f (ah S.O (jv S k).k)):∀k,k<=S.ay.length->s (aV S) k=gI (λp=>f (ah S.O p.2.k)) (S.ay.take k)
 |0,_=>by rw [h0];rfl
 |k+1,hk=>by
   rw [hs k hk,BH f s h0 hs k d5,ah4,xV hk,Pm]
   rfl
theorem Pn:fX (aV S) S.ay.length=bytes S.ay S.O:=by
 have h:=BH (S:=S) (λo=>o.data.length) fX (λ_=>rfl) (λk hk=>by show fX (aV S) k+_=_;rw [qt hk];rfl) S.ay.length (N6 _)
 rw [ahW] at h
 exact h
theorem EY:dY (aV S) S.ay.length=tot S.ay S.O:=by
 have h:=BH (S:=S) (λo=>o.aq.length) dY (λ_=>rfl) (λk hk=>by
  show dY (aV S) k+_=_
  rw [qt hk]
  show _+((ah S.O (jv S k).k).aq.map _).length=_
  rw [ahQ]) S.ay.length (N6 _)
 rw [ahW] at h
 exact h
end at_
end
section
open Go.RowKit bw aI Go.Maps
section bG
variable {β:Bs} {A:Option Addr} {l:List Int} {j:Nat}
theorem xu.get (h:cE β A (bG l)) (hj:j<l.length):A=some ⟨cC A,cq A,none⟩/\Rd β ⟨cC A,cq A+j*1,none⟩ (.int .i64 (l.getD j 0)):=by
 grind [bG,cE,cC,cq,Rd]
theorem xu.hd (h:cE β A (bG l)) (hj:j<l.length):A=some ⟨cC A,cq A,none⟩:=(xu.get h hj).1
theorem xu.rd (h:cE β A (bG l)) (hj:j<l.length):Rd β ⟨cC A,cq A+j*1,none⟩ (.int .i64 (l.getD j 0)):=(xu.get h hj).2
end bG
end
end Go.Proofs.YtfececghhgeapaaGreatDoor
