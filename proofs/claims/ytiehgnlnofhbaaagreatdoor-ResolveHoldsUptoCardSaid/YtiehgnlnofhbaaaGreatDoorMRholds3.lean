/-
  PROVED HERE: lemmas and contracts of functions (texts of this repo, joined; what the claim does not use is left out): Hy, Hz, Ac, Wo, Wx, ShelfS, SK, HG, Vp, Fz, Ws, Wk, Hc, Hd, H1, H2, H3, H4, H5, H6, ShelfP, As.
  CONDITIONS: as the theorems say.
-/
import Derived.Test.YtiehgnlnofhbaaaGreatDoorMRholds2
import Derived.Lib.Split
import Derived.Shelf.SlGeneric
import Derived.Shelf.SlIter.Nil
import Derived.Shelf.SortM.Plain
import Derived.Shelf.SortM.SortNone
import Derived.Ground.GgzProg
import Derived.Ground.SlgmProg
import Derived.Test.YtiehgnlnofhbaaaGreatDoorProg
import Derived.Shelf.Strings.Split
import Derived.Laws.IdiomStrings
import Derived.Lib.SplitLaws
set_option maxRecDepth 100000
set_option maxHeartbeats 4000000
namespace Go.Proofs.YtiehgnlnofhbaaaGreatDoor
section
open Go.RowKit Go.Maps bF aB
structure gT (β:Bs) (c:ax):Prop where
  hw:(Lit.int .i64 c.handle).wf=true
  ow:(Lit.int .i64 c.other).wf=true
  nm:c.name.size<=1048576
  tx:c.text.size<=1048576
  da:cg β c.dA c.data
  dl:c.data.length<=1099511627776
  dc:c.data.length<=c.dC
section facts
variable {S:aG} {h:Int} {name:ByteArray} {need:Int} {t:Th} {c:ax}
theorem mD (hI:Inv0 S) (h:Int) (name:ByteArray) (need:Int):(∃ e,dS S.O S.us h name need=.error e/\e≠0)\/∃ d,dS S.O S.us h name need=.ok d/\Live S.idx ⟨d,2⟩/\(obj S.O d).gone=false/\bK name/\aB.get S.us h=some ⟨d,2⟩:=by
  unfold dS
  cases e:aB.get S.us h with
  | none=>exact .inl ⟨131,rfl,by decide⟩
  | some t=>
    simp only
    split
    ·rename_i hk
     split
     ·exact .inl ⟨170,rfl,by decide⟩
     rename_i hg
     split
     ·rename_i hn
      split
      ·obtain⟨k,kd⟩:=t
       simp only at hk
       subst hk
       exact .inr ⟨k,rfl,(hI.us h _ e).1,by simpa using hg,hn,rfl⟩
      exact .inl ⟨175,rfl,by decide⟩
     exact .inl ⟨95,rfl,by decide⟩
    exact .inl ⟨173,rfl,by decide⟩
theorem Ch (hI:Inv0 S) (c:ax):(∃ e,fH S.O S.us c=.error e/\e≠0)\/(∃ k,fH S.O S.us c=.ok ⟨k,1⟩/\Live S.idx ⟨k,1⟩)\/(∃ k,fH S.O S.us c=.ok ⟨k,2⟩/\Live S.idx ⟨k,2⟩)\/∃ k,fH S.O S.us c=.ok ⟨k,3⟩/\Live S.idx ⟨k,3⟩:=by
  unfold fH
  rcases mD hI c.handle c.name 64 with ⟨e,h1,h2⟩|⟨d,h1,h2,_⟩
  ·rw [h1];exact .inl ⟨e,rfl,h2⟩
  rw [h1]
  simp only
  rcases hI.mQ h2 c.name with h3|⟨k,h3,h4⟩|⟨k,h3,h4⟩|⟨k,h3,h4⟩
  ·rw [h3];exact .inl ⟨170,rfl,by decide⟩
  ·rw [h3];exact .inr (.inl ⟨k,rfl,h4⟩)
  ·rw [h3];exact .inr (.inr (.inl ⟨k,rfl,h4⟩))
  rw [h3];exact .inr (.inr (.inr ⟨k,rfl,h4⟩))
theorem F6 {L:HL} {us:Used Th} {h:Int}:bn L (del h us)=del h (bn L us):=IE (dR L) h us
theorem IX {us:Used Th} {h:Int} (e:aB.get us h=some t):0 < hnd us t.k:=Nat.lt_of_lt_of_le (by simp) (oV (g:=fun p:Int×Th=>if p.2.k=t.k then 1 else 0) e)
theorem Bb {L:HL}:bO (cD S t).2.2.O L=bO S.O L:=by
  by_cases h:(S.us.length:Int) < S.X.cH
  ·rw [jG h];exact sZ (fun _=>dW (f:=fun o=>{ o with opens:=o.opens+1 }) (g:=aT.data) (fun _=>rfl)) (fun _=>j6 (f:=fun o=>{ o with opens:=o.opens+1 }) (fun _=>rfl))
  rw [kK h]
theorem Bc {L:HL}:cJ (cD S t).2.2.O L=cJ S.O L:=by
  by_cases h:(S.us.length:Int) < S.X.cH
  ·rw [jG h];exact nH (f:=fun o=>{ o with opens:=o.opens+1 }) rfl rfl
  rw [kK h]
theorem Qu:(jC S c).2.2.op=c.op:=by unfold jC;(repeat' split)<;>rfl
theorem JW:(fo S c).2.2.op=c.op:=by unfold fo;(repeat' split)<;>rfl
theorem HZ:(fA S c).2.2.op=c.op:=by unfold fA;(repeat' split)<;>rfl
theorem JX:(gj S c).2.2.op=c.op:=by unfold gj;(repeat' split)<;>rfl
theorem H6:(eS S c).2.2.op=c.op:=by unfold eS;(repeat' split)<;>rfl
theorem F7:(gD S c).2.2.op=c.op:=by unfold gD;(repeat' split)<;>rfl
theorem LH:(cO S c).2.2.op=c.op:=by unfold cO;(repeat' split)<;>rfl
theorem H7:(iD S c).2.2.op=c.op:=by unfold iD;(repeat' split)<;>rfl
theorem JY:(jd S c).2.2.op=c.op:=by unfold jd;(repeat' split)<;>rfl
theorem H8:(gh S c).2.2.op=c.op:=by unfold gh;(repeat' split)<;>rfl
theorem JZ:(iz S c).2.2.op=c.op:=by unfold iz;(repeat' split)<;>rfl
theorem J0:(bM S c).2.2.op=c.op:=by unfold bM;(repeat' split)<;>rfl
theorem Qv:(kY S c).2.2.op=c.op:=by unfold kY;(repeat' split)<;>rfl
theorem LI:(iF S c).2.2.op=c.op:=by unfold iF;(repeat' split)<;>rfl
theorem NW:(jv S c).2.2.op=c.op:=by unfold jv;(repeat' split)<;>rfl
end facts
theorem uj {S:aG} {c:ax} (h:c.op=1):cU S c=jC S c:=by
  unfold cU
  simp [h]
theorem sA {S:aG} {c:ax} (h:c.op=2):cU S c=fo S c:=by
  unfold cU
  simp [h]
theorem zy {S:aG} {c:ax} (h:c.op=3):cU S c=fA S c:=by
  unfold cU
  simp [h]
theorem ul {S:aG} {c:ax} (h:c.op=4):cU S c=gj S c:=by
  unfold cU
  simp [h]
theorem zA {S:aG} {c:ax} (h:c.op=5):cU S c=eS S c:=by
  unfold cU
  simp [h]
theorem zB {S:aG} {c:ax} (h:c.op=6):cU S c=gD S c:=by
  unfold cU
  simp [h]
theorem zC {S:aG} {c:ax} (h:c.op=7):cU S c=cO S c:=by
  unfold cU
  simp [h]
theorem zD {S:aG} {c:ax} (h:c.op=8):cU S c=iD S c:=by
  unfold cU
  simp [h]
theorem zE {S:aG} {c:ax} (h:c.op=9):cU S c=iz S c:=by
  unfold cU
  simp [h]
theorem vz {S:aG} {c:ax} (h:c.op=10):cU S c=bM S c:=by
  unfold cU
  simp [h]
theorem vA {S:aG} {c:ax} (h:c.op=11):cU S c=kY S c:=by
  unfold cU
  simp [h]
theorem vB {S:aG} {c:ax} (h:c.op=12):cU S c=iF S c:=by
  unfold cU
  simp [h]
theorem rf {S:aG} {c:ax} (h:c.op=13):cU S c=jv S c:=by
  unfold cU
  simp [h]
theorem vC {S:aG} {c:ax} (h:c.op=14):cU S c=jd S c:=by
  unfold cU
  simp [h]
theorem vD {S:aG} {c:ax} (h:c.op=15):cU S c=gh S c:=by
  unfold cU
  simp [h]
theorem vE {S:aG} {c:ax} (h:¬ (1<=c.op/\c.op<=15)):cU S c=(230,S,c):=by
  unfold cU
  repeat rw [if_neg (by omega)]
end
section
open Go.RowKit Go.Maps bF aB
section inv
variable {S:aG} {d to:Nat} {name toName text:ByteArray} {mode:Int} {c:ax}
theorem F8 (hI:Inv0 S):hnd S.us (aN S.X)=0:=by
  have:hnd S.us (aN S.X)=dU (fun _=>0) S.us:=gZ (fun p hp=>if_neg (hI.fresh.us p hp))
  rw [this]
  have h0:∀ us:Used Th,dU (fun _=>0) us=0:=fun us=>by
    induction us with
    | nil=>rfl
    | cons p r ih=>show 0+_=0;rw [ih]
  exact h0 _
theorem zW (hI:Inv0 S) {kind mode:Int} {tg:ByteArray} (hm:og mode) (ht:fD kind tg):lq { aW S.X kind mode with target:=tg }:=
  ⟨hm,⟨Int.le_refl _,by show (0:Int)<=2147483647;decide⟩,⟨Int.le_refl _,by show (0:Int)<=2147483647;decide⟩,hI.now,fun _=>rfl,fun _=>rfl,ht⟩
theorem Inv.EX (hI:Inv S) (hd:Live S.idx ⟨d,2⟩) (jB:(obj S.O d).gone=false) (hgn:bK name) (h0:cq S.X S.O S.idx d name=0) {kind mode:Int} {tg:ByteArray} (hk:kind=1\/kind=2\/kind=3) (hm:og mode) (ht:fD kind tg) :
    Inv (fw S d name { aW S.X kind mode with target:=tg }):=by
  have h:=hI.add (us':=S.us) (ia:=S.av) (o:={ aW S.X kind mode with target:=tg }) hd jB (oY h0) hgn (uT h0) rfl hk rfl rfl rfl rfl rfl (zW hI.toInv0 hm ht) hI.usr hI.uf hI.BX hI.av (fun h t e=>⟨.inl (hI.us h t e).1,(hI.us h t e).2⟩) (fun _ _=>rfl) (by rw [F8 hI.toInv0];rfl)
  exact h
theorem Inv.gS (hI:Inv S) (hd:Live S.idx ⟨d,2⟩) (jB:(obj S.O d).gone=false) (hgn:bK name) (hm:og mode):Inv (Proofs.YtiehgnlnofhbaaaGreatDoor.gS S d name mode).2:=by
  unfold Proofs.YtiehgnlnofhbaaaGreatDoor.gS
  split
  ·rename_i h0
   exact hI.EX hd jB hgn h0 (.inr (.inl rfl)) hm (.inl ⟨by decide,rfl⟩)
  exact hI
theorem Qw {s:ByteArray} (h:nS s=0):fD 3 s:=by
  unfold nS at h
  split at h
  ·cases h
  rename_i h1
  split at h
  ·cases h
  split at h
  ·rename_i h2 h3
   refine .inr ⟨rfl,?_,by omega,h3⟩
   apply Classical.byContradiction
   intro hn
   have:s.size=0:=by omega
   exact h1 (lT.1 this)
  cases h
theorem Inv.eV (hI:Inv S) (hd:Live S.idx ⟨d,2⟩) (jB:(obj S.O d).gone=false) (hgn:bK name):Inv (Proofs.YtiehgnlnofhbaaaGreatDoor.eV S d name text).2:=by
  unfold Proofs.YtiehgnlnofhbaaaGreatDoor.eV
  split
  ·rename_i hb
   split
   ·rename_i h0
    exact hI.EX hd jB hgn h0 (.inr (.inr rfl)) ⟨by decide,by decide⟩ (Qw hb)
   exact hI
  exact hI
theorem Inv.eF (hI:Inv S) (hd:Live S.idx ⟨d,2⟩):Inv (Proofs.YtiehgnlnofhbaaaGreatDoor.eF S d name).2:=by
  unfold Proofs.YtiehgnlnofhbaaaGreatDoor.eF
  split
  ·exact hI
  rename_i t hl
  split
  ·exact hI
  rename_i hk
  exact hI.zx hd hl hk
theorem Inv.eZ (hI:Inv S) (hd:Live S.idx ⟨d,2⟩):Inv (Proofs.YtiehgnlnofhbaaaGreatDoor.eZ S d name).2:=by
  unfold Proofs.YtiehgnlnofhbaaaGreatDoor.eZ
  split
  ·exact hI
  rename_i t hl
  split
  ·split
   ·rename_i he
    exact hI.drop hd hl (fun _=>he)
   exact hI
  exact hI
theorem J1 {t:Th} (ht:t.k≠to):(obj (aK S d name t).O to).gone=(obj S.O to).gone:=by
  have h1:(obj (aK S d name t).O to).gone=(obj (aS S.X S.O d name t) to).gone:=by
    unfold aK
    simp only
    split
    ·show (obj (aH _ t.k _) to).gone=_
     rw [cF (fun e=>ht e.symm)]
    rfl
  rw [h1]
  exact dP (g:=aT.gone) (fun _ _=>rfl) (fun _ _=>rfl) (fun _ _ _=>rfl)
theorem Inv.bJ (hI:Inv S) (hd:Live S.idx ⟨d,2⟩) (hto:Live S.idx ⟨to,2⟩) (jB:(obj S.O to).gone=false) (hgn:bK toName):Inv (Proofs.YtiehgnlnofhbaaaGreatDoor.bJ S d name to toName).2:=by
  unfold Proofs.YtiehgnlnofhbaaaGreatDoor.bJ
  split
  ·exact hI
  rename_i t hl
  split
  ·exact hI
  rename_i hb
  have hb:t.kind=2->¬ kf S.O t.k to:=fun h1 h2=>hb ⟨h1,h2⟩
  split
  ·rename_i hn
   exact hI.move hd hl hto jB hn hgn hb
  rename_i o hl2
  split
  ·exact hI
  rename_i hot
  split
  ·exact hI
  rename_i hok
  split
  ·exact hI
  rename_i Wv
  have ho:=(hI.ent hto hl2).2
  have RR:o.k≠to:=hI.ne hto hl2
  have h1:=hI.zx hto hl2 hok
  have hd1:Live (aK S to toName o).idx ⟨d,2⟩:=jW hI.toInv0 hto hl2 hd (fun e=>hok (by have:=iG hd ho e;rw [← this]))
  have kA:Live (aK S to toName o).idx ⟨to,2⟩:=jW hI.toInv0 hto hl2 hto (fun e=>RR e.symm)
  exact h1.move hd1 (q6 hI.toInv0 hto hl2 hl hot) kA (by rw [J1 RR];exact jB) (q8 hI.toInv0 hto hl2) hgn (fun h=>absurd h Wv)
theorem Inv.fY (hI:Inv S) (hd:Live S.idx ⟨d,2⟩) (hto:Live S.idx ⟨to,2⟩) (jB:(obj S.O to).gone=false) (hgn:bK toName):Inv (Proofs.YtiehgnlnofhbaaaGreatDoor.fY S d name to toName).2:=by
  unfold Proofs.YtiehgnlnofhbaaaGreatDoor.fY
  split
  ·exact hI
  rename_i t hl
  have ht:=(hI.ent hd hl).2
  split
  ·exact hI
  rename_i hk
  split
  ·rename_i hn
   split
   ·rename_i hr
    have hgt:(obj S.O t.k).gone=false:=by
      cases hg:(obj S.O t.k).gone with
      | false=>rfl
      | true=>
        have h1:=(hI.gone t ht hg).1
        have h2:=hI.links t ht
        have h3:0 < jA S.idx S.O t.k:=nK hd hl
        omega
    exact hI.link hto jB hn hgn ht hgt hk hr
   exact hI
  exact hI
theorem Inv.nJ (hI:Inv S) (hd:Live S.idx ⟨d,2⟩) (jB:(obj S.O d).gone=false) (hgn:bK name) (hm:og mode):Inv (Proofs.YtiehgnlnofhbaaaGreatDoor.nJ S d name mode).2.2:=by
  unfold Proofs.YtiehgnlnofhbaaaGreatDoor.nJ
  split
  ·rename_i h0
   split
   ·rename_i hlt
    obtain⟨g1,g2,_⟩:=least_le hI.usr (fun x hx=>(hI.uf x hx).1)
    obtain⟨v1,v2⟩:=IU (t:=⟨aN S.X,1⟩) hI.usr hI.uf
    have hm2:=zW (kind:=1) (tg:=⟨#[]⟩) hI.toInv0 hm (.inl ⟨by decide,rfl⟩)
    refine hI.add (us':=ins (aB.least S.us) ⟨aN S.X,1⟩ S.us) (ia:=max S.av ((S.us.length:Int)+1)) (o:={ aW S.X 1 mode with opens:=1 }) hd jB (oY h0) hgn (uT h0) rfl (.inl rfl) rfl rfl rfl rfl rfl ⟨hm2.mode,hm2.uid,hm2.gid,hm2.time,hm2.data,hm2.ah,hm2.target⟩ v1 v2 (by rw [iE];omega) (by have:=hI.av;omega) (fun h t e=>?_) (fun k hk=>?_) ?_
    ·rw [oR g2] at e
     split at e
     ·cases e;exact⟨.inr rfl,by show (1:Int)≠3;decide⟩
     exact⟨.inl (hI.us h t e).1,(hI.us h t e).2⟩
    ·rw [Dq,if_neg (fun e=>hk e.symm),Nat.zero_add]
    rw [Dq,if_pos rfl,F8 hI.toInv0];rfl
   exact hI
  exact hI
theorem Inv.cU (hI:Inv S) (c:ax):Inv (Proofs.YtiehgnlnofhbaaaGreatDoor.cU S c).2.1:=by
  have habout:∀ {need:Int} {d:Nat} {h:Int} {n:ByteArray},dS S.O S.us h n need=.ok d->Live S.idx ⟨d,2⟩/\(obj S.O d).gone=false/\bK n:=fun {need d h n} e=>by
    rcases mD hI.toInv0 h n need with ⟨e2,h1,_⟩|⟨d2,h1,h2,h3,h4,_⟩
    ·rw [e] at h1;cases h1
    rw [e] at h1;cases h1;exact⟨h2,h3,h4⟩
  have hnamed:∀ {t:Th},fH S.O S.us c=.ok t->Live S.idx t:=fun {t} e=>by
    rcases Ch hI.toInv0 c with ⟨e2,h1,_⟩|⟨k,h1,h2⟩|⟨k,h1,h2⟩|⟨k,h1,h2⟩<;>rw [e] at h1<;>cases h1<;>exact h2
  by_cases h:1<=c.op/\c.op<=15
  ·have h:c.op=1\/c.op=2\/c.op=3\/c.op=4\/c.op=5\/c.op=6\/c.op=7\/c.op=8\/c.op=9\/c.op=10\/c.op=11\/c.op=12\/c.op=13\/c.op=14\/c.op=15:=by omega
   rcases h with h|h|h|h|h|h|h|h|h|h|h|h|h|h|h
   ·rw [uj h]
    unfold jC
    split
    ·exact hI
    rename_i t e
    split
    ·rename_i hk;exact hI.cD (hI.live e) (by rw [hk];decide)
    exact hI
   ·rw [sA h]
    unfold fo
    split
    ·exact hI
    rename_i t e
    split
    ·exact hI
    rename_i hk
    split
    ·exact hI
    exact hI.cD (hnamed e) hk
   ·rw [zy h]
    unfold fA
    split
    ·exact hI
    rename_i t e
    split
    ·exact hI
    rename_i hk
    split
    ·exact hI
    exact hI.cD (hnamed e) hk
   ·rw [ul h]
    unfold gj
    split
    ·exact hI
    rename_i d e
    obtain⟨h1,h2,h3⟩:=habout e
    split
    ·rename_i hm;exact hI.gS h1 h2 h3 hm
    exact hI
   ·rw [zA h]
    unfold eS
    split
    ·exact hI
    rename_i d e
    obtain⟨h1,h2,h3⟩:=habout e
    split
    ·rename_i hm
     split
     ·exact hI.nJ h1 h2 h3 hm
     exact hI
    exact hI
   ·rw [zB h]
    unfold gD
    split
    ·exact hI
    rename_i d e
    obtain⟨h1,h2,h3⟩:=habout e
    exact hI.eV h1 h2 h3
   ·rw [zC h]
    unfold cO
    split
    ·exact hI
    rename_i d e
    split
    ·exact hI
    rename_i to e2
    obtain⟨h1,h2,h3⟩:=habout e2
    exact hI.fY (habout e).1 h1 h2 h3
   ·rw [zD h]
    unfold iD
    split
    ·exact hI
    rename_i d e
    exact hI.eF (habout e).1
   ·rw [zE h]
    unfold iz
    split
    ·exact hI
    rename_i t e
    split
    ·rename_i hk
     obtain⟨k,kd⟩:=t
     simp only at hk
     subst hk
     exact hI.dK (hI.us _ _ e).1 _
    exact hI
   ·rw [vz h]
    unfold bM
    split
    ·exact hI
    split
    ·exact hI
    split
    ·rename_i hm
     split
     ·rename_i ho
      split
      ·rename_i ht;exact hI.TL hm ho ht
      exact hI
     exact hI
    exact hI
   ·rw [vA h]
    unfold kY
    split<;>exact hI
   ·rw [vB h]
    unfold iF
    split<;>exact hI
   ·rw [rf h]
    unfold jv
    split
    ·exact hI
    rename_i t e;exact hI.shut e
   ·rw [vC h]
    unfold jd
    split
    ·exact hI
    rename_i d e
    exact hI.eZ (habout e).1
   rw [vD h]
   unfold gh
   split
   ·exact hI
   rename_i d e
   split
   ·exact hI
   rename_i to e2
   obtain⟨h1,h2,h3⟩:=habout e2
   exact hI.bJ (habout e).1 h1 h2 h3
  rw [vE h];exact hI
theorem Inv.bV (hI:Inv S) (c:ax):Inv (Proofs.YtiehgnlnofhbaaaGreatDoor.bV S c).1:=hI.cU _
end inv
end
section
open Go.RowKit Go.Maps bF aB
structure bP where
  at_:Int
  op:Int
  path:ByteArray
  to:ByteArray
  text:ByteArray
def slash:ByteArray:=⟨#[47]⟩
def jK (s:ByteArray):List ByteArray:=Lib.splitB slash 0 (Lib.countB s slash) s
noncomputable section
def kB (O:ck):Nat->List ByteArray->Except Int (Nat×ByteArray)
  | _,[]=>.error 170
  | d,[p]=>if (obj O d).gone=true then .error 170 else .ok (d,p)
  | d,p::q::r=>match aU p (obj O d).ah with
    | none=>.error 170
    | some t=>if t.kind=3 then .error 174 else if t.kind=1 then .error 173 else kB O t.k (q::r)
instance (ps:List ByteArray):Decidable (∀ p∈ps,bK p):=Classical.propDecidable _
def jS (O:ck) (d:Nat) (path:ByteArray):Except Int (Nat×ByteArray):=if ∀ p∈jK path,bK p then kB O d (jK path) else .error 95
def ru (S:aG) (d:Nat) (name text:ByteArray):Int×aG:=
  if cq S.X S.O S.idx d name=0 then (0,(dK (fw S d name (aW S.X 1 420)) (aN S.X) text.data.toList).2.2) else (cq S.X S.O S.idx d name,S)
def kU (S:aG) (d:Nat) (name text:ByteArray):Int×aG:=
  match aU name (obj S.O d).ah with
  | none=>(170,S)
  | some t=>if t.kind=3 then (174,S) else if t.kind=2 then (172,S) else ((dK S t.k text.data.toList).2.1,(dK S t.k text.data.toList).2.2)
def mJ (S:aG) (top:Nat) (a:bP) (d:Nat) (name:ByteArray):Int×aG:=
  if a.op=1 then ru S d name a.text
  else if a.op=2 then gS S d name 493
  else if a.op=3 then eV S d name a.text
  else if a.op=4 then eF S d name
  else if a.op=5 then eZ S d name
  else if a.op=6 then match jS S.O top a.to with
    | .error e=>(e,S)
    | .ok (to,toName)=>bJ S d name to toName
  else kU S d name a.text
def cM (S:aG) (root:Int) (a:bP):Int×aG:=
  if a.op < 1\/a.op > 7 then (230,S)
  else match aB.get S.idx root with
    | none=>(141,S)
    | some t=>if t.kind=2 then
        match jS S.O t.k a.path with
        | .error e=>(e,S)
        | .ok (d,name)=>mJ S t.k a d name
      else (173,S)
end
section facts
variable {S:aG} {O:ck} {d d':Nat} {name:ByteArray} {t:Th}
theorem IY (hI:Inv0 S):∀ (ps:List ByteArray) (d:Nat),Live S.idx ⟨d,2⟩->(∀ p∈ps,bK p)->kB S.O d ps=.ok (d',name)->Live S.idx ⟨d',2⟩/\(obj S.O d').gone=false/\bK name
  | [],d,_,_,h=>by cases h
  | [p],d,hd,hg,h=>by
    unfold kB at h
    split at h
    ·cases h
    rename_i hn
    cases h
    exact⟨hd,by simpa using hn,hg _ (List.mem_singleton.2 rfl)⟩
  | p::q::r,d,hd,hg,h=>by
    unfold kB at h
    cases e:aU p (obj S.O d).ah with
    | none=>rw [e] at h;cases h
    | some t=>
      rw [e] at h
      simp only at h
      split at h
      ·cases h
      rename_i h3
      split at h
      ·cases h
      rename_i h1
      have hl:=(hI.ent hd e).2
      have hk:t=⟨t.k,2⟩:=by
        have:=(hI.ob _ hl).2.2
        obtain⟨k,kd⟩:=t
        simp only at this h1 h3
        have:kd=2:=by omega
        rw [this]
      rw [hk] at hl
      exact IY hI (q::r) t.k hl (fun p hp=>hg p (List.mem_cons_of_mem _ hp)) h
theorem Dr {path:ByteArray} (hI:Inv0 S) (hd:Live S.idx ⟨d,2⟩) (h:jS S.O d path=.ok (d',name)):Live S.idx ⟨d',2⟩/\(obj S.O d').gone=false/\bK name:=by
  unfold jS at h
  split at h
  ·rename_i hg
   exact IY hI _ _ hd hg h
  cases h
theorem F9 (hI:Inv S) {o:aT}:Live (ins (S.X.last+1) ⟨aN S.X,o.kind⟩ S.idx) ⟨aN S.X,o.kind⟩:=by
  unfold Live
  have h1:=qw hI.toInv0
  have hn:S.X.last+1∉keys S.idx:=by
    cases e:aB.get S.idx (S.X.last+1) with
    | none=>exact get_none.1 e
    | some t=>have:=hI.idx _ _ e;omega
  rw [oR hn]
  simp only
  rw [h1,if_pos rfl]
theorem Inv.ru {text:ByteArray} (hI:Inv S) (hd:Live S.idx ⟨d,2⟩) (jB:(obj S.O d).gone=false) (hgn:bK name):Inv (Proofs.YtiehgnlnofhbaaaGreatDoor.ru S d name text).2:=by
  unfold Proofs.YtiehgnlnofhbaaaGreatDoor.ru
  split
  ·rename_i h0
   exact (hI.EX hd jB hgn h0 (.inl rfl) ⟨by decide,by decide⟩ (.inl ⟨by decide,rfl⟩)).dK (F9 hI (o:=aW S.X 1 420)) _
  exact hI
theorem Inv.kU {text:ByteArray} (hI:Inv S) (hd:Live S.idx ⟨d,2⟩):Inv (Proofs.YtiehgnlnofhbaaaGreatDoor.kU S d name text).2:=by
  unfold Proofs.YtiehgnlnofhbaaaGreatDoor.kU
  split
  ·exact hI
  rename_i t e
  split
  ·exact hI
  split
  ·exact hI
  rename_i h3 h2
  have hl:=(hI.ent hd e).2
  have hk:t=⟨t.k,1⟩:=by
    have:=(hI.ob _ hl).2.2
    obtain⟨k,kd⟩:=t
    simp only at this h2 h3
    have:kd=1:=by omega
    rw [this]
  rw [hk] at hl
  exact hI.dK hl _
theorem Inv.mJ {top:Nat} {a:bP} (hI:Inv S) (ht:Live S.idx ⟨top,2⟩) (hd:Live S.idx ⟨d,2⟩) (jB:(obj S.O d).gone=false) (hgn:bK name):Inv (Proofs.YtiehgnlnofhbaaaGreatDoor.mJ S top a d name).2:=by
  unfold Proofs.YtiehgnlnofhbaaaGreatDoor.mJ
  split
  ·exact hI.ru hd jB hgn
  split
  ·exact hI.gS hd jB hgn ⟨by decide,by decide⟩
  split
  ·exact hI.eV hd jB hgn
  split
  ·exact hI.eF hd
  split
  ·exact hI.eZ hd
  split
  ·split
   ·exact hI
   rename_i to toName e
   obtain⟨h1,h2,h3⟩:=Dr hI.toInv0 ht e
   exact hI.bJ hd h1 h2 h3
  exact hI.kU hd
theorem Qx {i:Int} (hI:Inv0 S) (e:aB.get S.idx i=some t) (hk:t.kind=2):Live S.idx ⟨t.k,2⟩:=by
  have:=hI.live e
  obtain⟨k,kd⟩:=t
  simp only at hk
  subst hk
  exact this
theorem Inv.cM {root:Int} {a:bP} (hI:Inv S):Inv (Proofs.YtiehgnlnofhbaaaGreatDoor.cM S root a).2:=by
  unfold Proofs.YtiehgnlnofhbaaaGreatDoor.cM
  split
  ·exact hI
  split
  ·exact hI
  rename_i t e
  split
  ·rename_i hk
   split
   ·exact hI
   rename_i d name e2
   have ht:=Qx hI.toInv0 e hk
   obtain⟨h1,h2,h3⟩:=Dr hI.toInv0 ht e2
   exact hI.mJ ht h1 h2 h3
  exact hI
end facts
section err
variable {S:aG} {c:ax} {d to:Nat} {name toName text:ByteArray} {t:Th}
end err
end
section
open Go.RowKit Go.Maps bF aB
noncomputable section
structure bq where
  at_:Int
  kind:Int
def fN (f:bq):List Value:=[.int .i64 f.at_,.int .i64 f.kind]
instance:Inhabited bq:=⟨⟨0,0⟩⟩
instance:Inhabited bP:=⟨⟨0,0,⟨#[]⟩,⟨#[]⟩,⟨#[]⟩⟩⟩
def kg (fs:List bq) (i:Nat):bq:=fs.getD i default
def act (xs:List bP) (i:Nat):bP:=xs.getD i default
def FK (f:bq):Prop:=1<=f.kind/\f.kind<=3
instance (f:bq):Decidable (FK f):=inferInstanceAs (Decidable (_/\_))
def iW:List bq->Int->Int
  | [],_=>0
  | f::r,n=>if f.at_=n/\FK f then f.kind else iW r n
def bG (xs:List bP) (n:Int):List bP:=xs.filter (fun a=>decide (a.at_=n))
def fB (root:Int) (S:aG) (xs:List bP):aG:=xs.foldl (fun S a=>(cM S root a).2) S
def cQ (c:ax) (e:Int):ax:=if c.op=11\/c.op=12 then ⟨c.op,c.handle,0,c.name,c.text,c.dA,c.dC,c.data,0,0,0,0,0,e,0⟩ else { c with answer:=0,code:=e }
def bE (k:Int) (S:aG) (c:ax):aG×ax:=
  if k=1 then (if c.op=13 then (bV S c).1 else S,cQ c 180)
  else if k=2/\(c.op=4\/c.op=5\/c.op=6\/c.op=7\/c.op=9) then (S,cQ c 176)
  else if k=3/\c.op=9/\2<=c.data.length then ((bV S { c with data:=c.data.take (c.data.length / 2) }).1,{ (bV S { c with data:=c.data.take (c.data.length / 2) }).2 with dA:=c.dA,dC:=c.dC,data:=c.data })
  else bV S c
def nM (root:Int) (c:ax):ax:=if c.op=1 then { c with other:=root } else c
def aV (fs:List bq) (xs:List bP) (root:Int) (n:Nat) (S:aG) (c:ax):aG×ax:=bE (iW fs n) (fB root S (bG xs n)) (nM root c)
section p
variable {S:aG} {c:ax} {fs gs:List bq} {xs ys:List bP} {root k:Int} {n:Nat} {A:Option Addr} {m:Nat}
theorem sB (f:bq) (x:Int):∀ fs:List bq,iW (fs++[f]) x=if iW fs x=0 then (if f.at_=x/\FK f then f.kind else 0) else iW fs x
  | []=>rfl
  | g::r=>by
    show (if g.at_=x/\FK g then g.kind else iW (r++[f]) x)=if (if g.at_=x/\FK g then g.kind else iW r x)=0 then _ else (if g.at_=x/\FK g then g.kind else iW r x)
    by_cases h:g.at_=x/\FK g
    ·have:¬ g.kind=0:=by have:=h.2.1;omega
     rw [if_pos h,if_pos h,if_neg this]
    rw [if_neg h,if_neg h,sB f x r]
theorem zX (a:bP) (x:Int):bG (xs++[a]) x=if a.at_=x then bG xs x++[a] else bG xs x:=by
  unfold bG
  rw [List.filter_append]
  by_cases h:a.at_=x
  ·rw [if_pos h,List.filter_cons_of_pos (by simpa using h),List.filter_nil]
  rw [if_neg h,List.filter_cons_of_neg (by simpa using h),List.filter_nil,List.append_nil]
theorem Ci (x:Int):(bG xs x).length<=xs.length:=List.length_filter_le ..
theorem J2 {x:Int} {a:bP} (h:a∈bG xs x):a∈xs:=(List.mem_filter.1 h).1
theorem J3 (a:bP):fB root S (xs++[a])=(cM (fB root S xs) root a).2:=by
  unfold fB;rw [List.foldl_append];rfl
theorem sK {i:Nat} (h:i < xs.length):xs[i]?=some (act xs i):=getD_some h
theorem zF {i:Nat} (h:i < fs.length):fs[i]?=some (kg fs i):=getD_some h
theorem J4 {i:Nat} (h:i < xs.length):fB root S (xs.take (i+1))=(cM (fB root S (xs.take i)) root (act xs i)).2:=by
  rw [List.take_add_one,sK h];exact J3 _
theorem Inv.fB (h:Inv S):∀ xs:List bP,Inv (Proofs.YtiehgnlnofhbaaaGreatDoor.fB root S xs):=fun xs=>by
  induction xs generalizing S with
  | nil=>exact h
  | cons a r ih=>exact ih h.cM
theorem Inv.bE (h:Inv S):Inv (Proofs.YtiehgnlnofhbaaaGreatDoor.bE k S c).1:=by
  unfold Proofs.YtiehgnlnofhbaaaGreatDoor.bE
  split
  ·show Inv (if c.op=13 then _ else _)
   split
   ·exact h.bV _
   exact h
  split
  ·exact h
  split
  ·exact h.bV _
  exact h.bV _
theorem Inv.aV (h:Inv S):Inv (Proofs.YtiehgnlnofhbaaaGreatDoor.aV fs xs root n S c).1:=(h.fB _).bE
def dz (A:Option Addr) (m:Nat) (c:ax):ax:={ c with dA:=A,dC:=m }
theorem RS:cU S (dz A m c)=((cU S c).1,(cU S c).2.1,dz A m (cU S c).2.2):=by
  by_cases hop:1<=c.op/\c.op<=15
  case neg=>rw [vE hop,vE (c:=dz A m c) hop]
  have hop:c.op=1\/c.op=2\/c.op=3\/c.op=4\/c.op=5\/c.op=6\/c.op=7\/c.op=8\/c.op=9\/c.op=10\/c.op=11\/c.op=12\/c.op=13\/c.op=14\/c.op=15:=by omega
  rcases hop with q|q|q|q|q|q|q|q|q|q|q|q|q|q|q
  ·rw [uj q,uj (c:=dz A m c) q];unfold jC dz;simp only;cases aB.get S.idx c.other<;>(try simp only)<;>(repeat' split)<;>rfl
  ·rw [sA q,sA (c:=dz A m c) q];unfold fo fH dz;simp only;split<;>(repeat' split)<;>rfl
  ·rw [zy q,zy (c:=dz A m c) q];unfold fA fH dz;simp only;split<;>(repeat' split)<;>rfl
  ·rw [ul q,ul (c:=dz A m c) q];unfold gj dz;simp only;split<;>(repeat' split)<;>rfl
  ·rw [zA q,zA (c:=dz A m c) q];unfold eS dz;simp only;split<;>(repeat' split)<;>rfl
  ·rw [zB q,zB (c:=dz A m c) q];unfold gD dz;simp only;split<;>(repeat' split)<;>rfl
  ·rw [zC q,zC (c:=dz A m c) q];unfold cO dz;simp only;split<;>(repeat' split)<;>rfl
  ·rw [zD q,zD (c:=dz A m c) q];unfold iD dz;simp only;split<;>(repeat' split)<;>rfl
  ·rw [zE q,zE (c:=dz A m c) q];unfold iz dz;simp only;split<;>(repeat' split)<;>rfl
  ·rw [vz q,vz (c:=dz A m c) q];unfold bM dz;simp only;split<;>(repeat' split)<;>rfl
  ·rw [vA q,vA (c:=dz A m c) q];unfold kY dz;simp only;split<;>(repeat' split)<;>rfl
  ·rw [vB q,vB (c:=dz A m c) q];unfold iF fH dz;simp only;split<;>(repeat' split)<;>rfl
  ·rw [rf q,rf (c:=dz A m c) q];unfold jv dz;simp only;split<;>(repeat' split)<;>rfl
  ·rw [vC q,vC (c:=dz A m c) q];unfold jd dz;simp only;split<;>(repeat' split)<;>rfl
  rw [vD q,vD (c:=dz A m c) q];unfold gh dz;simp only;split<;>(repeat' split)<;>rfl
theorem NY:(cU S c).2.2.data=c.data:=by
  by_cases hop:1<=c.op/\c.op<=15
  case neg=>rw [vE hop]
  have hop:c.op=1\/c.op=2\/c.op=3\/c.op=4\/c.op=5\/c.op=6\/c.op=7\/c.op=8\/c.op=9\/c.op=10\/c.op=11\/c.op=12\/c.op=13\/c.op=14\/c.op=15:=by omega
  rcases hop with q|q|q|q|q|q|q|q|q|q|q|q|q|q|q
  ·rw [uj q];unfold jC;(repeat' split)<;>rfl
  ·rw [sA q];unfold fo;(repeat' split)<;>rfl
  ·rw [zy q];unfold fA;(repeat' split)<;>rfl
  ·rw [ul q];unfold gj;(repeat' split)<;>rfl
  ·rw [zA q];unfold eS;(repeat' split)<;>rfl
  ·rw [zB q];unfold gD;(repeat' split)<;>rfl
  ·rw [zC q];unfold cO;(repeat' split)<;>rfl
  ·rw [zD q];unfold iD;(repeat' split)<;>rfl
  ·rw [zE q];unfold iz;(repeat' split)<;>rfl
  ·rw [vz q];unfold bM;(repeat' split)<;>rfl
  ·rw [vA q];unfold kY mP;(repeat' split)<;>rfl
  ·rw [vB q];unfold iF mP;(repeat' split)<;>rfl
  ·rw [rf q];unfold jv;(repeat' split)<;>rfl
  ·rw [vC q];unfold jd;(repeat' split)<;>rfl
  rw [vD q];unfold gh;(repeat' split)<;>rfl
theorem Ga:bV S (dz A m c)=((bV S c).1,dz A m (bV S c).2):=by
  have h:=RS (S:=S) (A:=A) (m:=m) (c:={ c with answer:=0,code:=230 })
  unfold bV
  rw [show ({ dz A m c with answer:=0,code:=230 }:ax)=dz A m { c with answer:=0,code:=230 } from rfl,h]
  rfl
theorem NZ:(bV S c).2.data=c.data:=NY (c:={ c with answer:=0,code:=230 })
theorem Gb {e:Int}:cQ (dz A m c) e=dz A m (cQ c e):=by
  unfold cQ
  by_cases h:c.op=11\/c.op=12
  ·rw [if_pos h,if_pos (show (dz A m c).op=11\/(dz A m c).op=12 from h)];rfl
  rw [if_neg h,if_neg (show ¬ ((dz A m c).op=11\/(dz A m c).op=12) from h)];rfl
theorem Cj {e:Int}:(cQ c e).data=c.data:=by
  unfold cQ;split<;>rfl
theorem H9:(bE k S c).2.data=c.data:=by
  unfold bE
  split
  ·exact Cj
  split
  ·exact Cj
  split
  ·rfl
  exact NZ
theorem LJ:bE k S (dz A m c)=((bE k S c).1,dz A m (bE k S c).2):=by
  unfold bE
  by_cases h1:k=1
  ·rw [if_pos h1,if_pos h1]
   show (if c.op=13 then (bV S (dz A m c)).1 else S,cQ (dz A m c) 180)=_
   rw [Ga,Gb]
  rw [if_neg h1,if_neg h1]
  by_cases h2:k=2/\(c.op=4\/c.op=5\/c.op=6\/c.op=7\/c.op=9)
  ·rw [if_pos h2,if_pos (show k=2/\((dz A m c).op=4\/(dz A m c).op=5\/(dz A m c).op=6\/(dz A m c).op=7\/(dz A m c).op=9) from h2),Gb]
  rw [if_neg h2,if_neg (show ¬ (k=2/\((dz A m c).op=4\/(dz A m c).op=5\/(dz A m c).op=6\/(dz A m c).op=7\/(dz A m c).op=9)) from h2)]
  by_cases h3:k=3/\c.op=9/\2<=c.data.length
  ·rw [if_pos h3,if_pos (show k=3/\(dz A m c).op=9/\2<=(dz A m c).data.length from h3)]
   show ((bV S (dz A m { c with data:=c.data.take (c.data.length / 2) })).1,{ (bV S (dz A m { c with data:=c.data.take (c.data.length / 2) })).2 with dA:=A,dC:=m,data:=c.data })=_
   rw [Ga];rfl
  rw [if_neg h3,if_neg (show ¬ (k=3/\(dz A m c).op=9/\2<=(dz A m c).data.length) from h3)]
  exact Ga
theorem J5:(nM root c).data=c.data:=by
  unfold nM;split<;>rfl
theorem Ia:(aV fs xs root n S c).2.data=c.data:=H9.trans J5
theorem Ib {kW:Int} (h:kW=if c.op=1 then root else c.other):nM root c={ c with other:=kW }:=by
  unfold nM
  by_cases e:c.op=1
  ·rw [if_pos e] at h ⊢;rw [h]
  rw [if_neg e] at h ⊢;rw [h]
end p
end
end
section
open Go.RowKit Go.WideShapes Go.ChangeShapes Go.ChangeAt Go.Deep
def bW {α:Type} (f:α->List Value) (xs:List α):List Value:=dG (fun _ x=>f x) 0 xs
theorem LK {α:Type} {f:α->List Value} {s:Nat} (hf:∀ a,(f a).length=s) {xs:List α} {i j:Nat} {a:α} (h:xs[i]?=some a) (hj:j < s):(bW f xs)[i * s+j]?=(f a)[j]?:=qR (f:=fun _ x=>f x) (s:=s) (fun _ a=>hf a) xs 0 i j _ h hj
def gq (a:bP):List Value:=[.int .i64 a.at_,.int .i64 a.op,.string a.path,.string a.to,.string a.text]
structure yG (a:bP) (b:Nat):Prop where
  aw:(Lit.int .i64 a.at_).wf=true
  path:a.path.size<=b
  to:a.to.size<=b
  text:a.text.size<=b
theorem yG.wide {a:bP} {b b':Nat} (h:yG a b) (g:b<=b'):yG a b':=⟨h.aw,Nat.le_trans h.path g,Nat.le_trans h.to g,Nat.le_trans h.text g⟩
structure TN (β:Bs) (c:ax) (b:Nat):Prop where
  data:cg β c.dA c.data
  len:c.data.length<=b
  name:c.name.size<=b
  text:c.text.size<=b
  hw:(Lit.int .i64 c.handle).wf=true
  ow:(Lit.int .i64 c.other).wf=true
instance:Inhabited ax:=⟨⟨0,0,0,⟨#[]⟩,⟨#[]⟩,none,0,[],0,0,0,0,0,0,0⟩⟩
def Ww (xs:List ax) (i:Nat):ax:=xs.getD i default
structure eG (xs:List bP) (b:Nat):Prop where
  len:xs.length<=b
  q:∀ a∈xs,yG a b
structure ji (xs:List bq) (b:Nat):Prop where
  len:xs.length<=b
  q:∀ a∈xs,(Lit.int .i64 a.at_).wf=true
theorem eG.wide {xs:List bP} {b b':Nat} (h:eG xs b) (g:b<=b'):eG xs b':=⟨Nat.le_trans h.len g,fun a ha=>(h.q a ha).wide g⟩
theorem ji.wide {xs:List bq} {b b':Nat} (h:ji xs b) (g:b<=b'):ji xs b':=⟨Nat.le_trans h.len g,h.q⟩
structure Wg (β:Bs) (A:Option Addr) (xs:List ax):Prop where
  row:cW β A (bW cC xs)
  q:∀ i,i < xs.length->TN β (Ww xs i) 1048576
section s
variable {β β':Bs} {A:Option Addr} {i j:Nat} {v:Value}
theorem Pp {α:Type} {f:α->List Value} {s:Nat} {xs:List α} {a:α} (h:cW β A (bW f xs)) (hf:∀ a,(f a).length=s) (hi:xs[i]?=some a) (hv:(f a)[j]?=some v):A=some ⟨aE A,aD A,none⟩/\Rd β ⟨aE A,aD A+i * s+j,none⟩ v:=by
  have hj:j < s:=by rw [← hf a];exact bA hv
  have:=h (i * s+j) v ((LK hf hi hj).trans hv)
  rw [← Nat.add_assoc] at this
  exact this
theorem Pq {xs:List bP} (h:cW β A (bW gq xs)) (hi:i < xs.length):A=some ⟨aE A,aD A,none⟩:=(Pp (s:=5) (j:=0) h (fun _=>rfl) (sK hi) rfl).1
theorem qO {xs:List bP} (h:cW β A (bW gq xs)) (hi:i < xs.length) (hv:(gq (act xs i))[j]?=some v):Rd β ⟨aE A,aD A+i * 5+j,none⟩ v:=(Pp h (fun _=>rfl) (sK hi) hv).2
theorem TP {xs:List bq} (h:cW β A (bW fN xs)) (hi:i < xs.length):A=some ⟨aE A,aD A,none⟩:=(Pp (s:=2) (j:=0) h (fun _=>rfl) (zF hi) rfl).1
theorem Pr {xs:List bq} (h:cW β A (bW fN xs)) (hi:i < xs.length) (hv:(fN (kg xs i))[j]?=some v):Rd β ⟨aE A,aD A+i * 2+j,none⟩ v:=(Pp h (fun _=>rfl) (zF hi) hv).2
theorem ji.at {xs:List bq} {b:Nat} (h:ji xs b) (hi:i < xs.length):(Lit.int .i64 (kg xs i).at_).wf=true:=h.q _ (List.mem_of_getElem? (zF hi))
theorem eG.at {xs:List bP} {b:Nat} (h:eG xs b) (hi:i < xs.length):yG (act xs i) b:=h.q _ (List.mem_of_getElem? (sK hi))
end s
section a
variable {H:Type} {enc:TypeId×Value->H} {W:World} {sp:Nat->Bool}
theorem sM {t:TypeId} {n:Nat} {c:Value} {x:DataW H×List MemPlace} (ht:Tryz.prog.underlying t=some (.int .i64)) (h:DataW.trod enc Tryz.prog W 0 sp true n t [c]=some x):∃ z,c=.int .i64 z/\(Lit.int .i64 z).wf=true:=by
  obtain⟨z,h1,_,h3⟩:=DataW.trod_int ht h
  cases h1
  exact⟨z,rfl,h3⟩
theorem N0 {n:Nat} {cs:List Value} {x:DataW H×List MemPlace} (h:DataW.trod enc Tryz.prog W 0 sp true n 136 cs=some x):∃ a:bP,cs=gq a/\yG a (Rows.uptoBulk x.1):=by
  obtain⟨vs,m,_,hx,hl,hvl,hv⟩:=DataW.trod_struct Tryz.underlying136 h
  have hC:Tryz.prog.cellsOf 136=5:=by kernel_rfl
  rw [hC] at hl
  match cs,hl with
  | [c0,c1,c2,c3,c4],_=>
    obtain⟨a0,_⟩:=bL (hv 0 _ rfl) (by rw [hvl];decide)
    obtain⟨a1,_⟩:=bL (hv 1 _ rfl) (by rw [hvl];decide)
    obtain⟨a2,e2⟩:=bL (hv 2 _ rfl) (by rw [hvl];decide)
    obtain⟨a3,e3⟩:=bL (hv 3 _ rfl) (by rw [hvl];decide)
    obtain⟨a4,e4⟩:=bL (hv 4 _ rfl) (by rw [hvl];decide)
    obtain⟨z0,rfl,w0⟩:=sM (c:=c0) Tryz.underlying3 a0
    obtain⟨z1,rfl,_⟩:=sM (c:=c1) Tryz.underlying3 a1
    obtain⟨s2,rfl,l2⟩:=sS (c:=c2) Tryz.underlying9 a2
    obtain⟨s3,rfl,l3⟩:=sS (c:=c3) Tryz.underlying9 a3
    obtain⟨s4,rfl,l4⟩:=sS (c:=c4) Tryz.underlying9 a4
    have hb:Rows.uptoBulk x.1=Rows.uptoBulk (.agg (vs.map (·.1))):=by rw [hx]
    exact⟨⟨z0,z1,s2,s3,s4⟩,rfl,⟨w0,by show s2.size<=_;omega,by show s3.size<=_;omega,by show s4.size<=_;omega⟩⟩
theorem J6 {n:Nat} {cs:List Value} {x:DataW H×List MemPlace} (h:DataW.trod enc Tryz.prog W 0 sp true n 139 cs=some x):∃ a:bq,cs=fN a/\(Lit.int .i64 a.at_).wf=true:=by
  obtain⟨vs,m,_,hx,hl,hvl,hv⟩:=DataW.trod_struct Tryz.underlying139 h
  have hC:Tryz.prog.cellsOf 139=2:=by kernel_rfl
  rw [hC] at hl
  match cs,hl with
  | [c0,c1],_=>
    obtain⟨a0,_⟩:=bL (hv 0 _ rfl) (by rw [hvl];decide)
    obtain⟨a1,_⟩:=bL (hv 1 _ rfl) (by rw [hvl];decide)
    obtain⟨z0,rfl,w0⟩:=sM (c:=c0) Tryz.underlying3 a0
    obtain⟨z1,rfl,_⟩:=sM (c:=c1) Tryz.underlying3 a1
    exact⟨⟨z0,z1⟩,rfl,w0⟩
theorem J7 {n:Nat} {c:Value} {x:DataW H×List MemPlace} (h:DataW.trod enc Tryz.prog W 0 sp true n 30 [c]=some x):∃ A cp,∃ xs:List bP,c=.slice A xs.length cp/\cW (B0 W) A (bW gq xs)/\eG xs (Rows.uptoBulk x.1)/\xs.length<=cp:=by
  obtain⟨A,cp,xs,D,h1,RU,_,h2,h4,h3⟩:=qi (α:=bP) (f:=gq) (Q:=fun a d=>yG a (Rows.uptoBulk d)) Tryz.underlying30 (size:=5) (by kernel_rfl) (by decide) (fun n cs x h=>N0 h) (fun _=>rfl) h
  cases h1
  have h5:=qh ((List.range xs.length).map D)
  refine⟨A,cp,xs,rfl,h2,⟨by simp at h5;omega,fun a ha=>?_⟩,RU⟩
  obtain⟨i,hi,e⟩:=List.mem_iff_getElem.1 ha
  have h6:=h4 i hi
  rw [show xs.getD i default=a by rw [← e];simp [hi]] at h6
  exact h6.wide (by have:=wv (D:=D) hi;omega)
theorem Gc {n:Nat} {c:Value} {x:DataW H×List MemPlace} (h:DataW.trod enc Tryz.prog W 0 sp true n 29 [c]=some x):∃ A cp,∃ xs:List bq,c=.slice A xs.length cp/\cW (B0 W) A (bW fN xs)/\ji xs (Rows.uptoBulk x.1)/\xs.length<=cp:=by
  obtain⟨A,cp,xs,D,h1,RU,_,h2,h4,h3⟩:=qi (α:=bq) (f:=fN) (Q:=fun a _=>(Lit.int .i64 a.at_).wf=true) Tryz.underlying29 (size:=2) (by kernel_rfl) (by decide) (fun n cs x h=>J6 h) (fun _=>rfl) h
  cases h1
  have h5:=qh ((List.range xs.length).map D)
  refine⟨A,cp,xs,rfl,h2,⟨by simp at h5;omega,fun a ha=>?_⟩,RU⟩
  obtain⟨i,hi,e⟩:=List.mem_iff_getElem.1 ha
  have h6:=h4 i hi
  rw [show xs.getD i default=a by rw [← e];simp [hi]] at h6
  exact h6
def Ds (A:Option Addr) (n cp:Nat) (root:Int) (X:FM) (Af:Option Addr) (nf cf:Nat) (Aa:Option Addr) (na ca:Nat):Value:=.agg #[.slice A n cp,.int .i64 root,.int .i64 X.cN,.int .i64 X.cB,.int .i64 X.cH,.int .i64 X.cS,.int .i64 X.cZ,.slice Af nf cf,.slice Aa na ca]
theorem open_wstart {v:Value} {d:DataW H} {ps:List MemPlace} {r:Go.Reach} {b0:Nat} (hval:Value.okWide Tryz.prog W r b0 34 v) (h:DataW.Trod enc Tryz.prog W 0 sp true 34 v d ps) :
    ∃ A cp,∃ ns:List aL,∃ L:Lay,∃ root:Int,∃ X:FM,∃ Af cf,∃ fs:List bq,∃ Aa ca,∃ xs:List bP,v=Ds A ns.length cp root X Af fs.length cf Aa xs.length ca/\aI (B0 W) A ns L/\iJ ns (Rows.uptoBulk d)/\Vy X/\(Lit.int .i64 root).wf=true ∧
      cW (B0 W) Af (bW fN fs)/\ji fs (Rows.uptoBulk d)/\fs.length<=cf/\cW (B0 W) Aa (bW gq xs)/\eG xs (Rows.uptoBulk d)/\xs.length<=ca:=by
  obtain⟨cs,rfl,hcs⟩:=okWide_struct Tryz.underlying34 hval
  obtain⟨fuel,h⟩:=h
  obtain⟨ys,m,_,hx,hl,nQ,hf⟩:=DataW.trod_struct Tryz.underlying34 h
  have hC:Tryz.prog.cellsOf 34=9:=by kernel_rfl
  rw [hC] at hcs
  obtain⟨cs⟩:=cs
  match cs,hcs with
  | [c0,c1,c2,c3,c4,c5,c6,c7,c8],_=>
    obtain⟨h0,b0⟩:=bL (hf 0 _ rfl) (by rw [nQ];decide)
    obtain⟨hr,_⟩:=bL (hf 1 _ rfl) (by rw [nQ];decide)
    obtain⟨h1,_⟩:=bL (hf 2 _ rfl) (by rw [nQ];decide)
    obtain⟨h3,b3⟩:=bL (hf 3 _ rfl) (by rw [nQ];decide)
    obtain⟨us,_,_,Wx,_,Fc,hu⟩:=DataW.trod_struct Tryz.underlying24 h0
    obtain⟨g0,e0⟩:=bL (hu 0 _ rfl) (by rw [Fc];decide)
    obtain⟨A,cp,ns,L,rfl,hG,hB⟩:=JC (c:=c0) g0
    obtain⟨vs,_,_,_,_,hvl,hv⟩:=DataW.trod_struct Tryz.underlying28 h1
    obtain⟨k0,_⟩:=bL (hv 0 _ rfl) (by rw [hvl];decide)
    obtain⟨k1,_⟩:=bL (hv 1 _ rfl) (by rw [hvl];decide)
    obtain⟨k2,_⟩:=bL (hv 2 _ rfl) (by rw [hvl];decide)
    obtain⟨k3,_⟩:=bL (hv 3 _ rfl) (by rw [hvl];decide)
    obtain⟨ts,_,_,_,_,htl,ht⟩:=DataW.trod_struct Tryz.underlying26 k3
    obtain⟨t0,_⟩:=bL (ht 0 _ rfl) (by rw [htl];decide)
    obtain⟨t1,_⟩:=bL (ht 1 _ rfl) (by rw [htl];decide)
    obtain⟨zr,rfl,wr⟩:=sM (c:=c1) Tryz.underlying3 hr
    obtain⟨z0,rfl,w0⟩:=jx (c:=c2) Tryz.underlying3 k0
    obtain⟨z1,rfl,w1⟩:=jx (c:=c3) Tryz.underlying3 k1
    obtain⟨z2,rfl,w2⟩:=jx (c:=c4) Tryz.underlying3 k2
    obtain⟨z3,rfl,w3⟩:=jx (c:=c5) Tryz.underlying3 t0
    obtain⟨z4,rfl,w4⟩:=jx (c:=c6) Tryz.underlying3 t1
    obtain⟨ws,_,_,hwx,_,hwl,hw⟩:=DataW.trod_struct Tryz.underlying32 h3
    obtain⟨q0,d0⟩:=bL (hw 0 _ rfl) (by rw [hwl];decide)
    obtain⟨q1,d1⟩:=bL (hw 1 _ rfl) (by rw [hwl];decide)
    obtain⟨Af,cf,fs,rfl,hF,Us,Wy⟩:=Gc (c:=c7) q0
    obtain⟨Aa,ca,xs,rfl,hA,Ut,Wz⟩:=J7 (c:=c8) q1
    cases hx
    rw [Wx] at b0
    rw [hwx] at b3
    exact⟨A,cp,ns,L,zr,⟨z0,z1,z2,z3,z4,0,0,0⟩,Af,cf,fs,Aa,ca,xs,rfl,hG,hB.wide (Nat.le_trans e0 b0),⟨w0,w1,w2,w3,w4⟩,wr,hF,⟨Nat.le_trans Us.len (Nat.le_trans d0 b3),Us.q⟩,Wy,hA,⟨Nat.le_trans Ut.len (Nat.le_trans d1 b3),fun a ha=>(Ut.q a ha).wide (Nat.le_trans d1 b3)⟩,Wz⟩
end a
end
end Go.Proofs.YtiehgnlnofhbaaaGreatDoor
section
namespace Go.Proofs
open Go.Shelf
def Tryz.keysS_ren:Go.Shelf.Ren:=⟨fun|7=>60|10=>82|n=>n,fun|23=>174|26=>9|3=>156|28=>172|0=>0|27=>171|33=>214|4=>4|n=>n,fun|n=>n⟩
theorem Tryz.keysS:Go.Proofs.SlLaysZ.n7 Tryz.prog Tryz.keysS_ren:={
  mixed:=by kernel_rfl
  f7:=⟨Tryz.f60.name,by decide,Tryz.func60.trans (congrArg some (by kernel_rfl))⟩
  f10:=⟨Tryz.f82.name,by decide,Tryz.func82.trans (congrArg some (by kernel_rfl))⟩
  t0:=Tryz.underlying0
  a0:=Tryz.isAgg0
  z0:=Tryz.sizeOf0
  v0:=Tryz.zeroValue0
  t4:=Tryz.underlying4
  a4:=Tryz.isAgg4
  z4:=Tryz.sizeOf4
  v4:=Tryz.zeroValue4
  t23:=Tryz.underlying174
  a23:=Tryz.isAgg174
  z23:=Tryz.sizeOf174
  v23:=Tryz.zeroValue174
  t26:=Tryz.underlying9
  a26:=Tryz.isAgg9
  z26:=Tryz.sizeOf9
  v26:=Tryz.zeroValue9
  t27:=Tryz.underlying171
  a27:=Tryz.isAgg171
  z27:=Tryz.sizeOf171
  v27:=Tryz.zeroValue171
  t28:=Tryz.underlying172
  a28:=Tryz.isAgg172
  z28:=Tryz.sizeOf172
  v28:=Tryz.zeroValue172
  t33:=Tryz.underlying214
  a33:=Tryz.isAgg214
  z33:=Tryz.sizeOf214
  v33:=Tryz.zeroValue214 }
def Tryz.sortedS_ren:Go.Shelf.Ren:=⟨fun|6=>59|8=>80|9=>81|11=>92|13=>85|12=>93|23=>103|24=>104|14=>107|15=>108|16=>109|17=>110|18=>111|19=>112|20=>113|21=>114|22=>115|25=>124|26=>117|27=>118|28=>125|29=>126|30=>127|31=>134|n=>n,fun|26=>9|28=>172|24=>35|0=>0|3=>3|37=>193|48=>235|50=>237|4=>4|40=>229|39=>228|45=>121|5=>5|9=>9|51=>245|55=>249|57=>253|58=>254|33=>214|n=>n,fun|n=>n⟩
theorem Tryz.sortedS:Go.Proofs.SlLaysZ.n6 Tryz.prog Tryz.sortedS_ren:={
  mixed:=by kernel_rfl
  f6:=⟨Tryz.f59.name,by decide,Tryz.func59.trans (congrArg some (by kernel_rfl))⟩
  f8:=⟨Tryz.f80.name,by decide,Tryz.func80.trans (congrArg some (by kernel_rfl))⟩
  f11:=⟨Tryz.f92.name,by decide,Tryz.func92.trans (congrArg some (by kernel_rfl))⟩
  t0:=Tryz.underlying0
  a0:=Tryz.isAgg0
  z0:=Tryz.sizeOf0
  v0:=Tryz.zeroValue0
  t24:=Tryz.underlying35
  a24:=Tryz.isAgg35
  z24:=Tryz.sizeOf35
  v24:=Tryz.zeroValue35
  t26:=Tryz.underlying9
  a26:=Tryz.isAgg9
  z26:=Tryz.sizeOf9
  v26:=Tryz.zeroValue9
  t28:=Tryz.underlying172
  a28:=Tryz.isAgg172
  z28:=Tryz.sizeOf172
  v28:=Tryz.zeroValue172
  i26:=by kernel_rfl }
def Tryz.sortS_ren:Go.Shelf.Ren:=⟨fun|6=>81|8=>85|9=>93|19=>103|20=>104|21=>107|22=>108|23=>109|24=>110|25=>111|26=>112|27=>113|28=>114|29=>115|36=>124|31=>117|32=>118|37=>125|38=>126|39=>127|41=>134|n=>n,fun|27=>35|29=>9|3=>3|32=>193|26=>35|0=>0|44=>235|46=>237|4=>4|36=>229|35=>228|41=>121|5=>5|9=>9|53=>245|57=>249|63=>253|64=>254|n=>n,fun|n=>n⟩
theorem Tryz.sortS:Go.Proofs.SlLaysM.n6 Tryz.prog Tryz.sortS_ren:={
  mixed:=by kernel_rfl
  f6:=⟨Tryz.f81.name,by decide,Tryz.func81.trans (congrArg some (by kernel_rfl))⟩
  f8:=Tryz.func85.trans (congrArg some (by kernel_rfl))
  f9:=⟨Tryz.f93.name,by decide,Tryz.func93.trans (congrArg some (by kernel_rfl))⟩
  f19:=Tryz.func103.trans (congrArg some (by kernel_rfl))
  f20:=Tryz.func104.trans (congrArg some (by kernel_rfl))
  f21:=⟨Tryz.f107.name,by decide,Tryz.func107.trans (congrArg some (by kernel_rfl))⟩
  f22:=⟨Tryz.f108.name,by decide,Tryz.func108.trans (congrArg some (by kernel_rfl))⟩
  f23:=⟨Tryz.f109.name,by decide,Tryz.func109.trans (congrArg some (by kernel_rfl))⟩
  f24:=⟨Tryz.f110.name,by decide,Tryz.func110.trans (congrArg some (by kernel_rfl))⟩
  f25:=⟨Tryz.f111.name,by decide,Tryz.func111.trans (congrArg some (by kernel_rfl))⟩
  f26:=⟨Tryz.f112.name,by decide,Tryz.func112.trans (congrArg some (by kernel_rfl))⟩
  f27:=⟨Tryz.f113.name,by decide,Tryz.func113.trans (congrArg some (by kernel_rfl))⟩
  f28:=⟨Tryz.f114.name,by decide,Tryz.func114.trans (congrArg some (by kernel_rfl))⟩
  f29:=⟨Tryz.f115.name,by decide,Tryz.func115.trans (congrArg some (by kernel_rfl))⟩
  f31:=Tryz.func117.trans (congrArg some (by kernel_rfl))
  f32:=Tryz.func118.trans (congrArg some (by kernel_rfl))
  f36:=⟨Tryz.f124.name,by decide,Tryz.func124.trans (congrArg some (by kernel_rfl))⟩
  f37:=⟨Tryz.f125.name,by decide,Tryz.func125.trans (congrArg some (by kernel_rfl))⟩
  f38:=⟨Tryz.f126.name,by decide,Tryz.func126.trans (congrArg some (by kernel_rfl))⟩
  f39:=⟨Tryz.f127.name,by decide,Tryz.func127.trans (congrArg some (by kernel_rfl))⟩
  f41:=⟨Tryz.f134.name,by decide,Tryz.func134.trans (congrArg some (by kernel_rfl))⟩
  t0:=Tryz.underlying0
  a0:=Tryz.isAgg0
  z0:=Tryz.sizeOf0
  v0:=Tryz.zeroValue0
  t3:=Tryz.underlying3
  a3:=Tryz.isAgg3
  z3:=Tryz.sizeOf3
  v3:=Tryz.zeroValue3
  t4:=Tryz.underlying4
  a4:=Tryz.isAgg4
  z4:=Tryz.sizeOf4
  v4:=Tryz.zeroValue4
  t5:=Tryz.underlying5
  a5:=Tryz.isAgg5
  z5:=Tryz.sizeOf5
  v5:=Tryz.zeroValue5
  t9:=Tryz.underlying9
  a9:=Tryz.isAgg9
  z9:=Tryz.sizeOf9
  v9:=Tryz.zeroValue9
  t26:=Tryz.underlying35
  a26:=Tryz.isAgg35
  z26:=Tryz.sizeOf35
  v26:=Tryz.zeroValue35
  t27:=Tryz.underlying35
  a27:=Tryz.isAgg35
  z27:=Tryz.sizeOf35
  v27:=Tryz.zeroValue35
  t29:=Tryz.underlying9
  a29:=Tryz.isAgg9
  z29:=Tryz.sizeOf9
  v29:=Tryz.zeroValue9
  t32:=Tryz.underlying193
  a32:=Tryz.isAgg193
  z32:=Tryz.sizeOf193
  v32:=Tryz.zeroValue193
  t35:=Tryz.underlying228
  a35:=Tryz.isAgg228
  z35:=Tryz.sizeOf228
  v35:=Tryz.zeroValue228
  t36:=Tryz.underlying229
  a36:=Tryz.isAgg229
  z36:=Tryz.sizeOf229
  v36:=Tryz.zeroValue229
  t41:=Tryz.underlying121
  a41:=Tryz.isAgg121
  z41:=Tryz.sizeOf121
  v41:=Tryz.zeroValue121
  t44:=Tryz.underlying235
  a44:=Tryz.isAgg235
  z44:=Tryz.sizeOf235
  v44:=Tryz.zeroValue235
  t46:=Tryz.underlying237
  a46:=Tryz.isAgg237
  z46:=Tryz.sizeOf237
  v46:=Tryz.zeroValue237
  t53:=Tryz.underlying245
  a53:=Tryz.isAgg245
  z53:=Tryz.sizeOf245
  v53:=Tryz.zeroValue245
  t57:=Tryz.underlying249
  a57:=Tryz.isAgg249
  z57:=Tryz.sizeOf249
  v57:=Tryz.zeroValue249
  t63:=Tryz.underlying253
  a63:=Tryz.isAgg253
  z63:=Tryz.sizeOf253
  v63:=Tryz.zeroValue253
  t64:=Tryz.underlying254
  a64:=Tryz.isAgg254
  z64:=Tryz.sizeOf254
  v64:=Tryz.zeroValue254 }
end Go.Proofs
end
namespace Go.Proofs.YtiehgnlnofhbaaaGreatDoor
section
open Go.RowKit Go.Maps Go.Sort Go.Shelf
theorem RV (m:Nat):AnyZ.SortsIn Tryz.prog Tryz.sortedS_ren Fence.wide m:=
  ⟨fun blk off cap ss W hH hblk hsz=>callsIn_wide.2 (AnyM.slices_Sort_string Tryz.sortS blk off cap ss W hH hblk hsz),
   fun p cap W=>callsIn_wide.2 (AnyM.slices_Sort_string_none Tryz.sortS p cap W)⟩
def Dt (bk:Nat):Value:=.func (.func 82) #[] #[.pointer (some ⟨bk,0,none⟩)]
theorem N7 {β:Bs} (mb:Option Nat):Spec Tryz.prog β 60 #[.map mb] [] (fun v l=>∃ bk,v=Dt bk/\l=[.blk bk [.map mb] 174]):=
  Spec.E8 fun W _=>by
    have h:CallsIn Fence.wide 5 Tryz.prog 60 #[.map mb] W fun e w'=>e=.returned (Dt W.heap.size)/\w'=W.alloc (.cells #[.map mb] 174):=AnyZ.keys_in Tryz.keysS Fence.wide 5 trivial rfl mb W
    refine ((callsIn_wide (n:=5)).1 h).mono ?_
    rintro e w' ⟨rfl,rfl⟩
    refine⟨_,_,rfl,⟨W.heap.size,rfl,rfl⟩,(Keeps.refl _ _).alloc _,fun k=>k=W.heap.size,⟨?_,fun k=>Iff.rfl⟩,fun k hk=>Nat.le_of_eq hk.symm⟩
    show (W.heap.push _)[W.heap.size]?=_
    simp
def rz (es:fS Th):List Value:=es.map (fun e=>.string e.1)
theorem Ic {es:fS Th} (h:j8 es):(es.map (fun e=>e.1.data.toList)).Pairwise (· < ·):=by
  refine List.pairwise_map.2 (h.imp (fun {a b} hab=>?_))
  unfold j7 at hab
  have h1:¬ Op.bytesLess b.1.toList a.1.toList=true:=fun e=>hab (by rw [e];rfl)
  have h2:¬ b.1.toList=a.1.toList:=fun e=>hab (by rw [e];simp)
  rw [bytesLess_eq,Lib.toList_data,Lib.toList_data] at h1
  rw [Lib.toList_data,Lib.toList_data] at h2
  by_cases e:a.1.data.toList < b.1.data.toList
  ·exact e
  exfalso
  have e:=List.not_lt.1 e
  rcases List.le_iff_lt_or_eq.1 e with e|e
  ·exact h1 (by simpa using e)
  exact h2 e
theorem N8 {w:World} {b n:Nat} {L:HL} {es:fS Th} {D:DataW Value} (hr:j8 es) (hown:w.ownsMap Tryz.prog 9 rW b n D) (hf:∀ kl,Maps.has D kl=(jo L es kl).isSome) {ss:List (List UInt8)} (hp:ss.Perm (strKeys D)) :
    ss.mergeSort (fun x y=>decide (x<=y))=es.map (fun e=>e.1.data.toList):=by
  have hsort:=Ic hr
  obtain⟨es',hD,hpw,_⟩:=hown.entries AK
  obtain⟨WA,Uu,hko⟩:=hown.keysOf
  obtain rfl:es'=WA:=by rw [hD] at Uu;simpa using Uu
  have hp2:(es.map (fun e=>e.1.data.toList)).Perm (strKeys D):=by
    rw [hD]
    refine perm_strKeys hpw (fun p hp=>?_) (hsort.imp (fun {a b} h e=>by subst e;exact absurd h (List.lt_irrefl a))) (fun x=>?_)
    ·obtain⟨v,hv⟩:=hko p hp
     obtain⟨x,_,h,_⟩:=keyOf_str Tryz.underlying9 hv
     exact⟨x,h⟩
    rw [← hD,hf]
    show _↔((aU ⟨x.toArray⟩ es).map (dR L)).isSome=true
    rw [Option.isSome_map]
    constructor
    ·intro hx
     obtain⟨e,he,rfl⟩:=List.mem_map.1 hx
     have h1:(⟨e.1.data.toList.toArray⟩:ByteArray)=e.1:=by rw [Array.toArray_toList]
     rw [h1,yx (t:=e.2) (j8.twice hr) he];rfl
    intro hx
    obtain⟨t,ht⟩:=Option.isSome_iff_exists.1 hx
    exact List.mem_map.2 ⟨_,mY ht,by simp⟩
  have h3:=mergeSort_of_perm (hp.trans hp2.symm)
  have h4:(es.map (fun e=>e.1.data.toList)).mergeSort leB=es.map (fun e=>e.1.data.toList):=List.mergeSort_of_pairwise (hsort.imp (fun {a b} h=>by simp only [leB,decide_eq_true_eq];exact List.le_of_lt h))
  exact h3.trans h4
theorem J8 {β:Bs} (L:HL) (b bk n:Nat) (es:fS Th) (hr:j8 es) (hn:n<=8192) :
    Spec Tryz.prog β 59 #[Dt bk] [.abs (aP Tryz.prog 9 b (jo L es) n),.blk bk [.map (some b)] 174] (fun v l=>∃ A cap,v=.slice A es.length cap ∧
      l=[.abs (aP Tryz.prog 9 b (jo L es) n),.blk bk [.map (some b)] 174,.abs (aJ 9 1 A es.length cap (rz es))]):=by
  intro R w hS
  obtain⟨F1,h1⟩:=hS.get (i:=0) (p:=.abs (aP Tryz.prog 9 b (jo L es) n)) rfl
  obtain⟨F2,h2⟩:=hS.get (i:=1) (p:=.blk bk [.map (some b)] 174) rfl
  obtain⟨D,hown,hsz,hhas,_⟩:=h1.1
  have hcell:w.cell? ⟨bk,0,none⟩=some (.map (some b)):=(gU h2.1 rfl rfl rfl).1
  have hseq:SeqGives Fence.wide 2 Tryz.prog 82 #[.pointer (some ⟨bk,0,none⟩)] encStr (fun ss=>ss.Perm (strKeys D)) (Maps.size D) w:=
    AnyZ.keys_gives (ρ:=Tryz.keysS_ren) { Tryz.keysS with } Fence.wide _ trivial rfl (by omega) bk b n D w (lt_of_some h2.1) hcell hown
  have cS:=AnyZ.sorted_in Tryz.sortedS Fence.wide 5 trivial trivial trivial trivial rfl (by omega) (RV _) (enters_of Tryz.func81 (by kernel_rfl) rfl) 82 #[.pointer (some ⟨bk,0,none⟩)] trivial (enters_of Tryz.func82 (by kernel_rfl) rfl)
    (fun ss=>ss.Perm (strKeys D)) (Maps.size D) (by rw [hsz];unfold maxLen;omega) (by rw [hsz];omega) w hseq
  change CallsIn _ _ Tryz.prog 59 _ _ _ at cS
  refine ((callsIn_wide (n:=5)).1 cS).mono ?_
  rintro e w' ⟨v,ss,rfl,hp,hrow,hnil,hb⟩
  have hkeys:=N8 hr hown hhas hp
  have hl2:ss.length=es.length:=by
    have h3:(ss.mergeSort (fun x y=>decide (x<=y))).length=ss.length:=List.length_mergeSort ss
    rw [hkeys,List.length_map] at h3
    exact h3.symm
  rw [hkeys,hl2] at hrow
  have xR:∃ A cap,v=.slice A es.length cap:=by
    rcases hrow.2 with ⟨e1,e2⟩|⟨g,cp,cur,e1,_⟩
    ·exact⟨none,0,by rw [e1,e2]⟩
    exact⟨_,cp,e1⟩
  obtain⟨A,cap,rfl⟩:=xR
  have WB:(es.map (fun e=>e.1.data.toList)).map encStr=rz es:=by
    rw [List.map_map]
    refine List.map_congr_left (fun e _=>?_)
    show encStr e.1.data.toList=.string e.1
    unfold encStr
    rw [Array.toArray_toList]
  rw [WB] at hrow
  have hq:Sat β ([.abs (aP Tryz.prog 9 b (jo L es) n),.blk bk [.map (some b)] 174,.abs R]++[.abs (aJ 9 1 A es.length cap (rz es))]) w':=by
    refine Sat.new (F:=fun k=>(Value.slice A es.length cap).ownBlock=some k) hS ⟨?_,fun k=>Iff.rfl⟩ ⟨hb.os,hb.tape,hb.output,hb.size,fun k hk _=>hb.block k hk⟩ (fun k hk=>(hrow.lt k hk).1)
    refine⟨hrow.1,?_⟩
    rcases hrow.2 with h|⟨g,cp,cur,e1,_,h3,h4⟩
    ·exact .inl h
    exact .inr ⟨g,cp,cur,e1,Nat.zero_le _,h3,h4⟩
  exact⟨_,[.abs (aP Tryz.prog 9 b (jo L es) n),.blk bk [.map (some b)] 174,.abs (aJ 9 1 A es.length cap (rz es))],rfl,⟨A,cap,rfl,rfl⟩,hq.pick (idx:=[0,1,3,2]) rfl rfl⟩
end
section
open Go.RowKit Go.Maps bF aB
theorem IZ {ns:List aL} {n:aL} {k:Nat} (h:k < ns.length):nd (ns++[n]) k=nd ns k:=by
  unfold nd;rw [List.getD_eq_getElem?_getD,List.getD_eq_getElem?_getD,List.getElem?_append_left h]
theorem Du {ns:List aL} {n:aL}:nd (ns++[n]) ns.length=n:=by
  unfold nd;rw [List.getD_eq_getElem?_getD,List.getElem?_append_right (Nat.le_refl _)];simp
def N9:Lay:=⟨fun _=>none,fun _=>none,fun _=>0,fun _=>0⟩
def mh (ns:List aL) (L:Lay) (k:Nat):bY:=aJ 110 2 (L.eA k) (nd ns k).ah.length (L.eC k) (iO (nd ns k).ah)
def mo (ns:List aL) (L:Lay) (k:Nat):bY:=aJ 5 1 (L.dA k) (nd ns k).data.length (L.dC k) (cL (nd ns k).data)
def VF (A:Option Addr) (c:Nat) (ns:List aL) (L:Lay):HP:=.abs (aJ 108 10 A ns.length c (dQ L ns))
def Oa (A:Option Addr) (c:Nat) (ns:List aL) (L:Lay):List HP:=[VF A c ns L,.abs (jQ (mh ns L) ns.length),.abs (jQ (mo ns L) ns.length)]
theorem qq.graph {β β':Bs} {A:Option Addr} {c:Nat} {ns:List aL} {L:Lay} (h:qq β (Oa A c ns L) β'):aI β' A ns L:=by
  obtain⟨F,h1,h2⟩:=h.get 0 rfl
  obtain⟨G,g1,g2⟩:=h.get 1 rfl
  obtain⟨K,k1,k2⟩:=h.get 2 rfl
  exact⟨cW.jM h1 h2 rfl,
    jQ.base k1 k2 rfl (Φ:=fun i b=>cg b (L.dA i) (nd ns i).data) (fun i _ F hF hO=>cW.jM (show (HP.abs (aJ 5 1 (L.dA i) (nd ns i).data.length (L.dC i) (cL (nd ns i).data))).h F _ from hF) hO rfl),
    jQ.base g1 g2 rfl (Φ:=fun i b=>fM b (L.eA i) (nd ns i).ah) (fun i _ F hF hO=>cW.jM (show (HP.abs (aJ 110 2 (L.eA i) (nd ns i).ah.length (L.eC i) (iO (nd ns i).ah))).h F _ from hF) hO rfl)⟩
theorem Ie {L:Lay} {ns:List aL} {n:aL} {dA eA:Option Addr} {dC eC:Nat}:dQ L ns++[.int .i64 n.id,.int .i64 n.kind,.int .i64 n.mode,.int .i64 n.uid,.int .i64 n.gid,.int .i64 n.sec,.int .i64 n.nano,.slice dA n.data.length dC,.string n.target,.slice eA n.ah.length eC]=dQ (L.put ns.length dA dC eA eC) (ns++[n]):=by
  have h:=BA (ns:=ns++[n]) (L:=L) (k:=ns.length) (by simp) dA dC eA eC
  rw [Du,List.take_left,List.take_of_length_le (by simp)] at h
  exact h
theorem Ed {ns:List aL} {L:Lay} {n:aL} {dA eA:Option Addr} {dC eC:Nat}:(∀ x,x < ns.length->mo (ns++[n]) (L.put ns.length dA dC eA eC) x=mo ns L x)/\mo (ns++[n]) (L.put ns.length dA dC eA eC) ns.length=aJ 5 1 dA n.data.length dC (cL n.data):=by
  refine⟨fun x hx=>?_,?_⟩
  ·unfold mo Lay.put
   rw [IZ hx]
   have:¬ x=ns.length:=by omega
   simp [this]
  unfold mo Lay.put
  rw [Du]
  simp
theorem Ee {ns:List aL} {L:Lay} {n:aL} {dA eA:Option Addr} {dC eC:Nat}:(∀ x,x < ns.length->mh (ns++[n]) (L.put ns.length dA dC eA eC) x=mh ns L x)/\mh (ns++[n]) (L.put ns.length dA dC eA eC) ns.length=aJ 110 2 eA n.ah.length eC (iO n.ah):=by
  refine⟨fun x hx=>?_,?_⟩
  ·unfold mh Lay.put
   rw [IZ hx]
   have:¬ x=ns.length:=by omega
   simp [this]
  unfold mh Lay.put
  rw [Du]
  simp
def mK (O:ck) (e:ByteArray×Th):j3:=⟨e.1,(obj O e.2.k).id⟩
def Ck (O:ck) (id:Int) (t:Th):aL:=⟨id,t.kind,(obj O t.k).mode,(obj O t.k).uid,(obj O t.k).gid,(obj O t.k).sec,(obj O t.k).nano,(obj O t.k).data,(obj O t.k).target,(obj O t.k).ah.map (mK O)⟩
def bC (S:aG):List aL:=S.idx.map (fun p=>Ck S.O p.1 p.2)
theorem wN {S:aG}:(bC S).length=S.idx.length:=List.length_map ..
def qy (S:aG) (i:Nat):Th:=(S.idx.getD i (0,⟨0,0⟩)).2
def cY (S:aG) (i:Nat):Int:=(S.idx.getD i (0,⟨0,0⟩)).1
section at_
variable {S:aG} {i:Nat}
theorem Gd (hi:i < S.idx.length):S.idx[i]?=some (cY S i,qy S i):=by
  unfold cY qy
  rw [List.getD_eq_getElem?_getD,List.getElem?_eq_getElem hi];rfl
theorem get_at (h:Inv0 S) (hi:i < S.idx.length):aB.get S.idx (cY S i)=some (qy S i):=oU h.rise (List.mem_of_getElem? (Gd hi))
theorem I0 (h:Inv0 S) (hi:i < S.idx.length):Live S.idx (qy S i)/\cY S i=((qy S i).k:Int):=⟨h.live (get_at h hi),h.key (get_at h hi)⟩
theorem RW (hi:i < S.idx.length):(keys S.idx)[i]?=some (cY S i):=by
  unfold keys
  rw [List.getElem?_map,Gd hi];rfl
theorem wO (hi:i < S.idx.length):(bC S).take (i+1)=(bC S).take i++[Ck S.O (cY S i) (qy S i)]:=by
  rw [List.take_add_one]
  congr 1
  unfold bC
  rw [List.getElem?_map,Gd hi];rfl
theorem dZ (hi:i<=S.idx.length):((bC S).take i).length=i:=by rw [List.length_take,wN];omega
end at_
section sat
variable {β:Bs} {l l':List HP} {w:World} {i j k:Nat} {O:ck} {L:HL} {ix:List Nat}
theorem Sat.RX (h:Sat β l w) (hp:l[i]?=some (.abs (ay (kQ (bO O L) k bY.none)))) (hq:l[j]?=some (.abs (aJ 5 1 (L.dA k) (obj O k).data.length (L.dC k) (cL (obj O k).data)))) (hd:nodupB (i::j::ix)=true) (hl:bT l ix=some l') (h2:(obj O k).kind=1):Sat β (.abs (ay (bO O L))::l') w:=
  h.qL hp hq (fun _ _ h=>h) hd hl k (fun _ hx=>(oQ hx).symm) (sW h2)
end sat
theorem J9 {es:List j3} {e:j3}:iO es++[.string e.name,.int .i64 e.id]=iO (es++[e]):=(wq e es 0).symm
section grow
variable {ns G':List aL} {n:aL} {L:Lay} {i dn en:Nat} {dA eA:Option Addr} {dC eC:Nat}
theorem wQ (hl:ns.length=i) (hG:G'=ns++[n]) (hd:n.data.length=dn) (he:n.ah.length=en):dQ L ns++[.int .i64 n.id,.int .i64 n.kind,.int .i64 n.mode,.int .i64 n.uid,.int .i64 n.gid,.int .i64 n.sec,.int .i64 n.nano,.slice dA dn dC,.string n.target,.slice eA en eC]=dQ (L.put i dA dC eA eC) G':=by
  subst hl hG hd he;exact Ie
theorem Bd (hl:ns.length=i) (hG:G'=ns++[n]):∀ x,x < i->mo G' (L.put i dA dC eA eC) x=mo ns L x:=by
  subst hl hG;exact Ed.1
theorem yH (hl:ns.length=i) (hG:G'=ns++[n]) (hd:n.data.length=dn):mo G' (L.put i dA dC eA eC) i=aJ 5 1 dA dn dC (cL n.data):=by
  subst hl hG hd;exact Ed.2
theorem Be (hl:ns.length=i) (hG:G'=ns++[n]):∀ x,x < i->mh G' (L.put i dA dC eA eC) x=mh ns L x:=by
  subst hl hG;exact Ee.1
theorem yI (hl:ns.length=i) (hG:G'=ns++[n]) (he:n.ah.length=en):mh G' (L.put i dA dC eA eC) i=aJ 110 2 eA en eC (iO n.ah):=by
  subst hl hG he;exact Ee.2
end grow
section more
variable {S:aG} {i j k:Nat}
theorem TQ (h:Inv0 S) (hi:i < S.idx.length):(∃ k,qy S i=⟨k,1⟩/\Live S.idx ⟨k,1⟩)\/(∃ k,qy S i=⟨k,2⟩/\Live S.idx ⟨k,2⟩)\/∃ k,qy S i=⟨k,3⟩/\Live S.idx ⟨k,3⟩:=by
  have h1:=(I0 h hi).1
  generalize qy S i=t at h1 ⊢
  obtain⟨k,kd⟩:=t
  rcases (h.ob _ h1).2.2 with e|e|e<;>simp only at e<;>subst e
  ·exact .inl ⟨k,rfl,h1⟩
  ·exact .inr (.inl ⟨k,rfl,h1⟩)
  exact .inr (.inr ⟨k,rfl,h1⟩)
theorem Dv (h:Inv0 S) (hi:i < S.idx.length):(Lit.int .i64 (cY S i)).wf=true:=by
  have h1:=h.idx _ _ (get_at h hi)
  have h2:=h.last
  exact WalkArith.wf_i64 (by omega)
theorem Ob (hi:i < S.idx.length):(ints (keys S.idx))[i * 1+0]?=some (.int .i64 (cY S i)):=by
  rw [Nat.mul_one,Nat.add_zero]
  unfold ints
  rw [List.getElem?_map,RW hi];rfl
theorem Ge (h:Inv0 S) {t:Th} (hl:Live S.idx t) (hk:t.kind≠3):(obj S.O t.k).target=⟨#[]⟩:=by
  rcases (h.mt t hl).target with e|e
  ·exact e.2
  exact absurd (h.kind hl ▸ e.1) hk
theorem rA (h:Inv0 S) (hi:i < S.idx.length) (lN:qy S i=⟨k,1⟩) (hl:Live S.idx ⟨k,1⟩):(bC S).take (i+1)=(bC S).take i++[⟨cY S i,1,(obj S.O k).mode,(obj S.O k).uid,(obj S.O k).gid,(obj S.O k).sec,(obj S.O k).nano,(obj S.O k).data,⟨#[]⟩,[]⟩]:=by
  rw [wO hi,lN]
  unfold Ck
  rw [show (obj S.O k).target=⟨#[]⟩ from Ge h hl (by simp),show (obj S.O k).ah=[] from (h.mt _ hl).ah (by rw [h.kind hl];simp)];rfl
theorem rB (h:Inv0 S) (hi:i < S.idx.length) (lN:qy S i=⟨k,3⟩) (hl:Live S.idx ⟨k,3⟩):(bC S).take (i+1)=(bC S).take i++[⟨cY S i,3,(obj S.O k).mode,(obj S.O k).uid,(obj S.O k).gid,(obj S.O k).sec,(obj S.O k).nano,[],(obj S.O k).target,[]⟩]:=by
  rw [wO hi,lN]
  unfold Ck
  rw [show (obj S.O k).data=[] from (h.mt _ hl).data (by rw [h.kind hl];simp),show (obj S.O k).ah=[] from (h.mt _ hl).ah (by rw [h.kind hl];simp)];rfl
theorem tf (h:Inv0 S) (hi:i < S.idx.length) (lN:qy S i=⟨k,2⟩) (hl:Live S.idx ⟨k,2⟩):(bC S).take (i+1)=(bC S).take i++[⟨cY S i,2,(obj S.O k).mode,(obj S.O k).uid,(obj S.O k).gid,(obj S.O k).sec,(obj S.O k).nano,[],⟨#[]⟩,(obj S.O k).ah.map (mK S.O)⟩]:=by
  rw [wO hi,lN]
  unfold Ck
  rw [show (obj S.O k).target=⟨#[]⟩ from Ge h hl (by simp),show (obj S.O k).data=[] from (h.mt _ hl).data (by rw [h.kind hl];simp)]
def fT (es:fS Th) (j:Nat):ByteArray:=(es.getD j (⟨#[]⟩,⟨0,0⟩)).1
def Bg (es:fS Th) (j:Nat):Th:=(es.getD j (⟨#[]⟩,⟨0,0⟩)).2
theorem Ka {es:fS Th} (hj:j < es.length):es[j]?=some (fT es j,Bg es j):=by
  unfold fT Bg
  rw [List.getD_eq_getElem?_getD,List.getElem?_eq_getElem hj];rfl
theorem Kb {es:fS Th} (hj:j < es.length):(rz es)[j * 1+0]?=some (.string (fT es j)):=by
  rw [Nat.mul_one,Nat.add_zero]
  unfold rz
  rw [List.getElem?_map,Ka hj];rfl
theorem VG (h:Inv0 S) {t:Th} (hl:Live S.idx t) (hj:j < (obj S.O t.k).ah.length):bK (fT (obj S.O t.k).ah j)/\((∃ k,aU (fT (obj S.O t.k).ah j) (obj S.O t.k).ah=some ⟨k,1⟩/\Live S.idx ⟨k,1⟩/\Bg (obj S.O t.k).ah j=⟨k,1⟩)\/(∃ k,aU (fT (obj S.O t.k).ah j) (obj S.O t.k).ah=some ⟨k,2⟩/\Live S.idx ⟨k,2⟩/\Bg (obj S.O t.k).ah j=⟨k,2⟩)\/∃ k,aU (fT (obj S.O t.k).ah j) (obj S.O t.k).ah=some ⟨k,3⟩/\Live S.idx ⟨k,3⟩/\Bg (obj S.O t.k).ah j=⟨k,3⟩):=by
  have hm:=List.mem_of_getElem? (Ka hj)
  have h1:=h.ah t hl _ hm
  have h2:=yx (h.twice hl) hm
  refine⟨h1.1,?_⟩
  have h3:=h1.2
  generalize Bg (obj S.O t.k).ah j=u at h2 h3 ⊢
  obtain⟨k,kd⟩:=u
  rcases (h.ob _ h3).2.2 with e|e|e<;>simp only at e<;>subst e
  ·exact .inl ⟨k,h2,h3,rfl⟩
  ·exact .inr (.inl ⟨k,h2,h3,rfl⟩)
  exact .inr (.inr ⟨k,h2,h3,rfl⟩)
theorem yJ {O:ck} {es:fS Th} {kd:Int} (hj:j < es.length) (he:Bg es j=⟨k,kd⟩):iO ((es.take j).map (mK O))++[.string (fT es j),.int .i64 (obj O k).id]=iO ((es.take (j+1)).map (mK O)):=by
  rw [List.take_add_one,Ka hj,he,List.map_append]
  exact J9 (es:=(es.take j).map (mK O)) (e:=⟨fT es j,(obj O k).id⟩)
end more
theorem qq.bytes {β β':Bs} {A:Option Addr} {n c:Nat} {d:List UInt8} (h:qq β [.abs (aJ 5 1 A n c (cL d))] β'):cg β' A d:=by
  obtain⟨F,h1,h2⟩:=h.get 0 rfl
  exact cW.jM h1 h2 rfl
end
section
open Go.RowKit
section order
variable {P:Program} {ops:Array Oper} {Q Q':Post} {n:Nat} {S:World->Prop}
inductive tj
  | one (i:Nat)
  | two (i j:Nat)
  | three (i k j:Nat)
  | perm (G:List Nat)
  | beside (c:List Nat) (j:Nat)
def Gf (P:Program) (ops:Array Oper) (Q:Post) (S:World->Prop) (K:Act->World->Prop):Nat->List Nat->Act->World->Prop
  | 0,_,a,w=>K a w
  | n+1,G,a,w=>∀ i∈G,wpOp P ops Q i (fun a' w'=>S w'/\Gf P ops Q S K n (G.erase i) a' w') a w
def EY (ops:Array Oper) (f:Array Bool->Bool):Nat->List Nat->Array Bool->Bool
  | 0,_,listed=>f listed
  | n+1,G,listed=>(Region.ready .any ops listed == G) && !G.isEmpty && G.all (fun i=>EY ops f n (G.erase i) (listed.setIfInBounds i true))
def EZ (P:Program) (ops:Array Oper) (Q:Post) (S:World->Prop) (K:Act->World->Prop):List Nat->Act->World->Prop
  | [],a,w=>K a w
  | i::c,a,w=>wpOp P ops Q i (fun a' w'=>S w'/\EZ P ops Q S K c a' w') a w
def wR (P:Program) (ops:Array Oper) (Q:Post) (S:World->Prop) (K:Act->World->Prop) (j:Nat):List Nat->Act->World->Prop
  | [],a,w=>wpOp P ops Q j (fun a' w'=>S w'/\K a' w') a w
  | i::c,a,w=>wpOp P ops Q i (fun a' w'=>S w'/\wR P ops Q S K j c a' w') a w/\wpOp P ops Q j (fun a' w'=>S w'/\EZ P ops Q S K (i::c) a' w') a w
def seqB (ops:Array Oper) (f:Array Bool->Bool):List Nat->Array Bool->Bool
  | [],listed=>f listed
  | i::c,listed=>(Region.ready .any ops listed == [i]) && seqB ops f c (listed.setIfInBounds i true)
def vF (ops:Array Oper) (f:Array Bool->Bool) (j:Nat):List Nat->Array Bool->Bool
  | [],listed=>(Region.ready .any ops listed == [j]) && f (listed.setIfInBounds j true)
  | i::c,listed=>(Region.ready .any ops listed == (if i < j then [i,j] else [j,i])) && vF ops f j c (listed.setIfInBounds i true) && seqB ops f (i::c) (listed.setIfInBounds j true)
def mq (P:Program) (ops:Array Oper) (Q:Post) (S:World->Prop):List tj->Act->World->Prop
  | [],a,w=>Q .normal a w
  | .one i::l,a,w=>wpOp P ops Q i (fun a' w'=>(l=[]\/S w')/\mq P ops Q S l a' w') a w
  | .two i j::l,a,w=>
    wpOp P ops Q i (fun a' w'=>S w'/\wpOp P ops Q j (fun a2 w2=>S w2/\mq P ops Q S l a2 w2) a' w') a w ∧
    wpOp P ops Q j (fun a' w'=>S w'/\wpOp P ops Q i (fun a2 w2=>S w2/\mq P ops Q S l a2 w2) a' w') a w
  | .three i k j::l,a,w=>
    wpOp P ops Q i (fun a1 w1=>S w1/\wpOp P ops Q k (fun a2 w2=>S w2/\wpOp P ops Q j (fun a3 w3=>S w3/\mq P ops Q S l a3 w3) a2 w2) a1 w1 ∧
      wpOp P ops Q j (fun a2 w2=>S w2/\wpOp P ops Q k (fun a3 w3=>S w3/\mq P ops Q S l a3 w3) a2 w2) a1 w1) a w ∧
    wpOp P ops Q j (fun a1 w1=>S w1/\wpOp P ops Q i (fun a2 w2=>S w2/\wpOp P ops Q k (fun a3 w3=>S w3/\mq P ops Q S l a3 w3) a2 w2) a1 w1) a w
  | .perm G::l,a,w=>Gf P ops Q S (mq P ops Q S l) G.length G a w
  | .beside c j::l,a,w=>wR P ops Q S (mq P ops Q S l) j c a w
def uU (ops:Array Oper) (n:Nat):List tj->Array Bool->Bool
  | [],listed=>(Region.ready .any ops listed).isEmpty
  | .one i::l,listed=>(Region.ready .any ops listed == [i]) && (!l.isEmpty || i == n) && uU ops n l (listed.setIfInBounds i true)
  | .two i j::l,listed=>(Region.ready .any ops listed == [i,j]) && (Region.ready .any ops (listed.setIfInBounds i true) == [j]) && (Region.ready .any ops (listed.setIfInBounds j true) == [i]) && decide (i≠j) && uU ops n l ((listed.setIfInBounds i true).setIfInBounds j true)
  | .three i k j::l,listed=>(Region.ready .any ops listed == [i,j]) && (Region.ready .any ops (listed.setIfInBounds i true) == [k,j]) && (Region.ready .any ops ((listed.setIfInBounds i true).setIfInBounds k true) == [j]) && (Region.ready .any ops ((listed.setIfInBounds i true).setIfInBounds j true) == [k]) &&
    (Region.ready .any ops (listed.setIfInBounds j true) == [i]) && decide (i≠j) && decide (k≠j) && uU ops n l (((listed.setIfInBounds i true).setIfInBounds k true).setIfInBounds j true)
  | .perm G::l,listed=>EY ops (uU ops n l) G.length G listed
  | .beside c j::l,listed=>vF ops (uU ops n l) j c listed
def rI:List tj->Nat
  | []=>0
  | .one _::l=>rI l+1
  | .two _ _::l=>rI l+2
  | .three _ _ _::l=>rI l+3
  | .perm G::l=>rI l+G.length
  | .beside c _::l=>rI l+(c.length+1)
theorem Ef {m i:Nat} {listed:Array Bool} {a:Act} {w:World} (hr:Region.ready .any ops listed=[i]) (h:wpOp P ops (NP Q) i (fun a' w'=>S w'/\iT P ops (NP Q) n S m (listed.setIfInBounds i true) a' w') a w):iT P ops (NP Q) n S (m+1) listed a w:=by
  refine⟨fun h0=>(by rw [hr] at h0;cases h0),fun y hy=>?_⟩
  rw [hr] at hy
  have hy:y=i:=by simpa using hy
  subst hy
  exact wpOp_mono (fun a' w' h=>⟨.inr h.1,h.2⟩) h
theorem I3 {K:Act->World->Prop} {f:Array Bool->Bool} {m:Nat} (hK:∀ listed a w,f listed=true->K a w->iT P ops (NP Q) n S m listed a w):∀ (c:List Nat) (listed:Array Bool) (a:Act) (w:World),seqB ops f c listed=true->EZ P ops (NP Q) S K c a w->iT P ops (NP Q) n S (m+c.length) listed a w
  | [],listed,a,w,hb,h=>hK listed a w hb h
  | i::c,listed,a,w,hb,h=>by
    unfold seqB at hb
    simp only [Bool.and_eq_true,beq_iff_eq] at hb
    exact Ef hb.1 (wpOp_mono (fun a' w' g=>⟨g.1,I3 hK c _ a' w' hb.2 g.2⟩) h)
theorem Cl {K:Act->World->Prop} {f:Array Bool->Bool} {m j:Nat} (hK:∀ listed a w,f listed=true->K a w->iT P ops (NP Q) n S m listed a w):∀ (c:List Nat) (listed:Array Bool) (a:Act) (w:World),vF ops f j c listed=true->wR P ops (NP Q) S K j c a w->iT P ops (NP Q) n S (m+(c.length+1)) listed a w
  | [],listed,a,w,hb,h=>by
    unfold vF at hb
    simp only [Bool.and_eq_true,beq_iff_eq] at hb
    exact Ef hb.1 (wpOp_mono (fun a' w' g=>⟨g.1,hK _ a' w' hb.2 g.2⟩) h)
  | i::c,listed,a,w,hb,h=>by
    unfold vF at hb
    simp only [Bool.and_eq_true,beq_iff_eq] at hb
    obtain⟨⟨h1,h2⟩,h3⟩:=hb
    refine⟨fun h0=>(by rw [h1] at h0;split at h0<;>cases h0),fun y hy=>?_⟩
    rw [h1] at hy
    have hy:y=i\/y=j:=by
      split at hy
      ·simpa using hy
      have:y=j\/y=i:=by simpa using hy
      exact this.symm
    rcases hy with rfl|rfl
    ·exact wpOp_mono (fun a' w' g=>⟨.inr g.1,Cl hK c _ a' w' h2 g.2⟩) h.1
    exact wpOp_mono (fun a' w' g=>⟨.inr g.1,I3 hK (i::c) _ a' w' h3 g.2⟩) h.2
theorem Gg {K:Act->World->Prop} {f:Array Bool->Bool} {m:Nat} (hK:∀ listed a w,f listed=true->K a w->iT P ops (NP Q) n S m listed a w):∀ (k:Nat) (G:List Nat) (listed:Array Bool) (a:Act) (w:World),EY ops f k G listed=true->Gf P ops (NP Q) S K k G a w->iT P ops (NP Q) n S (m+k) listed a w
  | 0,G,listed,a,w,hb,h=>hK listed a w hb h
  | k+1,G,listed,a,w,hb,h=>by
    unfold EY at hb
    simp only [Bool.and_eq_true,beq_iff_eq] at hb
    obtain⟨⟨h1,h2⟩,h3⟩:=hb
    refine⟨fun h0=>(by rw [h1] at h0;rw [h0] at h2;cases h2),fun j hj=>?_⟩
    rw [h1] at hj
    exact wpOp_mono (fun a' w' g=>⟨.inr g.1,Gg hK k (G.erase j) _ a' w' (List.all_eq_true.1 h3 j hj) g.2⟩) (h j hj)
theorem nN:∀ (l:List tj) (listed:Array Bool) (a:Act) (w:World),uU ops n l listed=true->mq P ops (NP Q) S l a w->iT P ops (NP Q) n S (rI l) listed a w
  | [],listed,a,w,hb,h=>⟨List.isEmpty_iff.1 hb,h⟩
  | .one i::l,listed,a,w,hb,h=>by
    unfold uU at hb
    simp only [Bool.and_eq_true,beq_iff_eq] at hb
    obtain⟨⟨h1,h2⟩,h3⟩:=hb
    refine⟨fun h0=>(by rw [h1] at h0;cases h0),fun j hj=>?_⟩
    rw [h1] at hj
    have hj:j=i:=by simpa using hj
    subst hj
    refine wpOp_mono (fun a' w' h4=>⟨?_,nN l _ a' w' h3 h4.2⟩) h
    rcases h4.1 with h5|h5
    ·subst h5;exact .inl (by simpa using h2)
    exact .inr h5
  | .two i j::l,listed,a,w,hb,h=>by
    unfold uU at hb
    simp only [Bool.and_eq_true,beq_iff_eq,decide_eq_true_iff] at hb
    obtain⟨⟨⟨⟨h1,h2⟩,h3⟩,hij⟩,h4⟩:=hb
    refine⟨fun h0=>(by rw [h1] at h0;cases h0),fun k hk=>?_⟩
    rw [h1] at hk
    have hk:k=i\/k=j:=by simpa using hk
    rcases hk with rfl|rfl
    ·refine wpOp_mono (fun a' w' h5=>⟨.inr h5.1,fun h0=>(by rw [h2] at h0;cases h0),fun k' hk'=>?_⟩) h.1
     rw [h2] at hk'
     have hk':k'=j:=by simpa using hk'
     subst hk'
     exact wpOp_mono (fun a2 w2 h6=>⟨.inr h6.1,nN l _ a2 w2 h4 h6.2⟩) h5.2
    refine wpOp_mono (fun a' w' h5=>⟨.inr h5.1,fun h0=>(by rw [h3] at h0;cases h0),fun k' hk'=>?_⟩) h.2
    rw [h3] at hk'
    have hk':k'=i:=by simpa using hk'
    subst hk'
    refine wpOp_mono (fun a2 w2 h6=>⟨.inr h6.1,?_⟩) h5.2
    rw [Array.setIfInBounds_comm _ _ (fun e=>hij e.symm)]
    exact nN l _ a2 w2 h4 h6.2
  | .three i k j::l,listed,a,w,hb,h=>by
    unfold uU at hb
    simp only [Bool.and_eq_true,beq_iff_eq,decide_eq_true_iff] at hb
    obtain⟨⟨⟨⟨⟨⟨⟨h1,h2⟩,h3⟩,h4⟩,h5⟩,hij⟩,hkj⟩,h6⟩:=hb
    have one:∀ {x:Nat} {ls:Array Bool} {fuel:Nat} {a:Act} {w:World},Region.ready .any ops ls=[x]->wpOp P ops (NP Q) x (fun a' w'=>S w'/\iT P ops (NP Q) n S fuel (ls.setIfInBounds x true) a' w') a w->iT P ops (NP Q) n S (fuel+1) ls a w:=fun {x ls fuel a w} hr hx=>by
      refine⟨fun h0=>(by rw [hr] at h0;cases h0),fun y hy=>?_⟩
      rw [hr] at hy
      have hy:y=x:=by simpa using hy
      subst hy
      exact wpOp_mono (fun a' w' h=>⟨.inr h.1,h.2⟩) hx
    have e1:(((listed.setIfInBounds i true).setIfInBounds j true).setIfInBounds k true)=(((listed.setIfInBounds i true).setIfInBounds k true).setIfInBounds j true):=Array.setIfInBounds_comm _ _ (fun e=>hkj e.symm)
    have e2:((listed.setIfInBounds j true).setIfInBounds i true)=((listed.setIfInBounds i true).setIfInBounds j true):=Array.setIfInBounds_comm _ _ (fun e=>hij e.symm)
    refine⟨fun h0=>(by rw [h1] at h0;cases h0),fun x hx=>?_⟩
    rw [h1] at hx
    have hx:x=i\/x=j:=by simpa using hx
    rcases hx with rfl|rfl
    ·refine wpOp_mono (fun a1 w1 g=>⟨.inr g.1,fun h0=>(by rw [h2] at h0;cases h0),fun y hy=>?_⟩) h.1
     rw [h2] at hy
     have hy:y=k\/y=j:=by simpa using hy
     rcases hy with rfl|rfl
     ·exact wpOp_mono (fun a2 w2 g2=>⟨.inr g2.1,one h3 (wpOp_mono (fun a3 w3 g3=>⟨g3.1,nN l _ a3 w3 h6 g3.2⟩) g2.2)⟩) g.2.1
     exact wpOp_mono (fun a2 w2 g2=>⟨.inr g2.1,one h4 (wpOp_mono (fun a3 w3 g3=>⟨g3.1,by rw [e1];exact nN l _ a3 w3 h6 g3.2⟩) g2.2)⟩) g.2.2
    refine wpOp_mono (fun a1 w1 g=>⟨.inr g.1,one h5 (wpOp_mono (fun a2 w2 g2=>⟨g2.1,?_⟩) g.2)⟩) h.2
    rw [e2]
    exact one h4 (wpOp_mono (fun a3 w3 g3=>⟨g3.1,by rw [e1];exact nN l _ a3 w3 h6 g3.2⟩) g2.2)
  | .perm G::l,listed,a,w,hb,h=>Gg (m:=rI l) (fun ls a w hb h=>nN l ls a w hb h) G.length G listed a w hb h
  | .beside c j::l,listed,a,w,hb,h=>Cl (m:=rI l) (fun ls a w hb h=>nN l ls a w hb h) c listed a w hb h
def pR (P:Program) (ops:Array Oper) (Q:Post) (S:World->Prop) (es:List tj):List Nat->Act->World->Prop
  | [],a,w=>mq P ops Q S es a w
  | i::l,a,w=>∃ o v,ops[i]?=some o/\YieldsIf P ops S o v a/\pR P ops Q S es l (a.put o.dst v) w
def E0 (ops:Array Oper) (n:Nat) (es:List tj):List Nat->Array Bool->Bool
  | [],listed=>uU ops n es listed
  | i::l,listed=>decide (i < n) && Region.free .any ops listed i && (Region.ready .any ops listed).contains i && E0 ops n es l (listed.setIfInBounds i true)
theorem Gh {es:List tj} (hsel:Region.noSelect ops=true) (kJ:Region.sinkB .any ops n=true):∀ (l:List Nat) (listed:Array Bool) (a:Act) (w:World),E0 ops n es l listed=true->Closed ops listed->S w->pR P ops (NP Q) S es l a w->iT P ops (NP Q) n S (l.length+rI es) listed a w
  | [],listed,a,w,hb,_,_,h=>by
    rw [List.length_nil,Nat.zero_add]
    exact nN es listed a w hb h
  | i::l,listed,a,w,hb,hc,hS,h=>by
    unfold E0 at hb
    simp only [Bool.and_eq_true,decide_eq_true_iff] at hb
    obtain⟨⟨⟨h1,h2⟩,h3⟩,h4⟩:=hb
    obtain⟨o,v,ho,hy,hk⟩:=h
    have hr:i∈Region.ready .any ops listed:=by simpa using h3
    have e:(i::l).length+rI es=(l.length+rI es)+1:=by rw [List.length_cons];omega
    rw [e]
    exact pN ho hsel kJ h1 _ listed a w hc (Region.free_spec ho h2) hr hy hS (Gh hsel kJ l _ _ w h4 (hc.set hr) hS hk)
def I4 (ops:Array Oper) (rs:List Nat) (es:List tj):Bool:=
  Region.noSelect ops && Region.sinkB .any ops (ops.size - 1) && (rs.length+rI es == ops.size) && E0 ops (ops.size - 1) es rs (Array.replicate ops.size false)
end order
section mix
variable {P:Program} {β:Bs} {N:dF} {ops:Array Oper} {S:List HP} {rs:List Nat} {es:List tj} {fr fr':Fr} {hps:List HP} {Q:Post} {aZ:List Prop} {i j:Nat}
def jq (P:Program) (β:Bs) (N:dF) (ops:Array Oper) (S:List HP) (es:List tj) (rs:List Nat) (fr:Fr) (hps:List HP) (Q:Post):Prop:=
  ∀ junk w,Sat β hps w->pR P ops (NP Q) (Sat β S) es rs (bQ N fr junk) w
theorem af.sC {id:Nat} (rs:List Nat) (es:List tj) (pk:List Nat) (hm:P.follows .mixedOrders=true) (hB:I4 ops rs es=true) (hn:nodupB pk=true) (hp:bT hps pk=some S) (h:jq P β N ops S es rs fr hps Q):af P β N (.region id ops true) fr hps Q:=by
  intro junk w hS
  unfold I4 at hB
  simp only [Bool.and_eq_true,beq_iff_eq] at hB
  obtain⟨⟨⟨h1,h2⟩,h3⟩,h4⟩:=hB
  have cT:=hS.drewN 1
  have h5:=Gh (Q:=Q) h1 h2 rs _ _ _ h4 (fun j oj _ hl=>by simp [Array.getD_eq_getD_getElem?,Array.getElem?_replicate] at hl;split at hl<;>simp at hl) (cT.pick hn hp) (h junk (w.drewN 1) cT)
  rw [h3] at h5
  refine Code.wp_mono (fun e a w q=>?_) (wp_region_any hm (lS _ _ _ _ h5))
  cases e with
  | normal=>exact q
  | exit id=>exact q.elim
  | goto l=>exact q.elim
  | ret=>exact q.elim
  | panic ch=>exact q.elim
  | outgrown=>exact q.elim
theorem xE {junk:Nat->Value} {w:World}:∀ {hs:List OH} {is:List Nat} {fr fr':Fr} {T T':SS},qU P β N junk ops hs is fr T=some (fr',T')->(∀ p,p∈T'.aZ->p)->T.used=true->T.hps=S →
    pR P ops (NP Q) (Sat β S) es rs (bQ N fr' junk) w->pR P ops (NP Q) (Sat β S) es (is++rs) (bQ N fr junk) w
  | [],[],fr,fr',T,T',h,ho,hu,hT,hK=>by cases h;exact hK
  | h::hs,i::is,fr,fr',T,T',hr,ho,hu,hT,hK=>by
    unfold qU at hr
    repeat' split at hr
    all_goals first|(cases hr;done)|skip
    rename_i o hget _ Fh _ v T1 h0 _ hv
    obtain⟨e1,e2⟩:=qg h0
    rw [List.cons_append]
    unfold pR
    refine⟨o,v,hget,.inl ⟨by unfold Region.wanted;rw [Fh],fun w' cT=>?_⟩,?_⟩
    ·rw [dY]
     obtain⟨w2,h1,_,_,h4⟩:=jP h0 (fun p hp=>ho p (wC hr p hp)) (by rw [hT];exact cT) (fun e=>by rw [hu] at e;cases e)
     obtain⟨ew,_⟩:=h4 rfl
     rw [ew] at h1
     rcases h1 with h1|⟨h1,_⟩
     ·exact h1
     exact absurd h1 (mW hv)
    rw [dI]
    exact xE hr ho (e2.trans hu) (e1.trans hT) hK
  | [],_::_,_,_,_,_,h,_,_,_,_=>by cases h
  | _::_,[],_,_,_,_,h,_,_,_,_=>by cases h
theorem jq.reads (is:List Nat) (hs:List OH) (idx:List Nat) (h:∀ junk,sE P β N junk ops hs is fr S idx=some (fr',aZ)) (ho:kz aZ) (K:jq P β N ops S es rs fr' hps Q):jq P β N ops S es (is++rs) fr hps Q:=by
  intro junk w hS
  have h0:=h junk
  unfold sE at h0
  split at h0
  ·rename_i fr1 S1 h1
   cases h0
   have hK:=K (lk fr1 junk) w hS
   rw [← jw] at hK
   exact xE h1 (fun p hp=>ho.mem hp) rfl rfl hK
  cases h0
theorem gP (lM:Fr) (is:List Nat) (os:List (Nat×OP)) (K:jq P β N ops S es [] lM hps Q)
    (h:∀ junk,sE P β N junk ops (jE (gX is.length os 0)) is fr S (bp lM)=some (lM,owed (gX is.length os 0)):=by intro _;kernel_rfl):jq P β N ops S es (is++[]) fr hps Q:=
  jq.reads is (jE (gX is.length os 0)) (bp lM) h (mX _) K
theorem jq.pair {ι RY RZ:Type} {LM:RY->Fr} {hpi:RY->List HP} {LO:RZ->Fr} {LP:RZ->List HP} {fr':ι->Fr} {hp':ι->List HP} {oi oj:Oper} (Uv Uw pk:List Nat)
    (hi:ops[i]?=some oi) (Pt:oi.guard=none) (hj:ops[j]?=some oj) (Ux:oj.guard=none)
    (h1:ak P β N #[oi] 0 fr hps (NP (nV β N LM hpi))) (h2:∀ a,ak P β N #[oj] 0 (LM a) (hpi a) (NP (nV β N fr' hp')))
    (h3:ak P β N #[oj] 0 fr hps (NP (nV β N LO LP))) (h4:∀ a,ak P β N #[oi] 0 (LO a) (LP a) (NP (nV β N fr' hp')))
    (hni:nodupB Uv=true) (VH:∀ a,bT (hpi a) Uv=some S) (WC:nodupB Uw=true) (VI:∀ a,bT (LP a) Uw=some S) (hn:nodupB pk=true) (hp:∀ a,bT (hp' a) pk=some S)
    (K:∀ a,jq P β N ops S es [] (fr' a) (hp' a) Q):jq P β N ops S (.two i j::es) [] fr hps Q:=by
  intro junk w hS
  unfold pR mq
  refine⟨iL hi Pt (jV (fun a w ⟨x,gA,ha,cT⟩=>?_) (show wpList P #[oi] (NP (nV β N LM hpi)) [oi] (bQ N fr junk) w from h1 junk w hS)),iL hj Ux (jV (fun a w ⟨x,gA,ha,cT⟩=>?_) (show wpList P #[oj] (NP (nV β N LO LP)) [oj] (bQ N fr junk) w from h3 junk w hS))⟩
  ·subst ha
   refine⟨cT.pick hni (VH x),iL hj Ux (jV (fun a w ⟨y,wS,ha,vo⟩=>?_) (show wpList P #[oj] (NP (nV β N fr' hp')) [oj] (bQ N (LM x) gA) w from h2 x gA w cT))⟩
   subst ha
   exact⟨vo.pick hn (hp y),K y wS _ vo⟩
  subst ha
  refine⟨cT.pick WC (VI x),iL hi Pt (jV (fun a w ⟨y,wS,ha,vo⟩=>?_) (show wpList P #[oi] (NP (nV β N fr' hp')) [oi] (bQ N (LO x) gA) w from h4 x gA w cT))⟩
  subst ha
  exact⟨vo.pick hn (hp y),K y wS _ vo⟩
theorem jq.cut {ι:Type} {fr':ι->Fr} {hp':ι->List HP} {o:Oper} (pk:List Nat) (hop:ops[i]?=some o) (hg:o.guard=none) (h:ak P β N #[o] 0 fr hps (NP (nV β N fr' hp'))) (hn:nodupB pk=true) (hp:∀ j,bT (hp' j) pk=some S)
    (K:∀ j,jq P β N ops S es [] (fr' j) (hp' j) Q):jq P β N ops S (.one i::es) [] fr hps Q:=by
  intro junk w hS
  unfold pR mq
  refine iL hop hg (jV (fun a w ⟨j,gA,ha,cT⟩=>?_) (show wpList P #[o] (NP (nV β N fr' hp')) [o] (bQ N fr junk) w from h junk w hS))
  subst ha
  exact⟨.inr (cT.pick hn (hp j)),K j gA _ cT⟩
theorem Sat.left {a b:List HP} {w:World} (h:Sat β (a++b) w):Sat β a w:=by
  obtain⟨h0,φ,h1,h2,h3⟩:=h
  have hlen:a.length<=(a++b).length:=by simp
  exact⟨h0,φ,fun i p hp=>h1 i p (by rw [List.getElem?_append_left (bA hp)];exact hp),fun i hi=>h2 i (by omega),fun i j hi hj=>h3 i j (by omega) (by omega)⟩
def iA (P:Program) (β:Bs) (N:dF) (ops:Array Oper) (Q:Post) (i d:Nat) (ds:List Nat) (fr:Fr) (pre:List HP) (post:Value->List HP->Prop):Prop:=
  ∀ junk w (A:bY),Sat β (pre++[.abs A]) w->wpOp P ops (NP Q) i (fun a' w'=>∃ v l gA,post v l/\a'=bQ N fr gA/\gA d=v/\(∀ t∈ds,t≠d->gA t=junk t)/\Sat β (l++[.abs A]) w') (bQ N fr junk) w
def kW (nR:List Nat) (u:Nat->Value):Fr:=nR.map fun t=>(t,u t)
theorem yK {nR:List Nat} {u:Nat->Value}:bp (kW nR u)=nR:=by
  induction nR with
  | nil=>rfl
  | cons a r ih=>exact congrArg (a::·) ih
theorem LQ {nR:List Nat} {u junk:Nat->Value} {t:Nat} (h:t∈nR):lk (kW nR u) junk t=u t:=by
  induction nR with
  | nil=>cases h
  | cons a r ih=>
    show lk ((a,u a)::kW r u) junk t=_
    rw [fC]
    by_cases e:a=t
    ·rw [if_pos e,e]
    rw [if_neg e]
    rcases List.mem_cons.1 h with h|h
    ·exact absurd h.symm e
    exact ih h
theorem nO {fr lM:Fr} {junk wS:Nat->Value} (h:∀ t,lk fr junk t=lk lM wS t):bQ N fr junk=bQ N lM wS:=by
  unfold bQ
  rw [show lk fr junk=lk lM wS from funext h]
theorem iA.of {ι:Type} {v:ι->Value} {l:ι->List HP} {o:Oper} {d:Nat} {pre:List HP} (nR:List Nat) (hop:ops[i]?=some o) (hg:o.guard=none) (VJ:(d::nR).all (fun t=>!iX t (bp fr))=true) (hd:iX d nR=false)
    (h:∀ (u:Nat->Value) (A:bY),ak P β N #[o] 0 (kW nR u++fr) (pre++[.abs A]) (NP (nV β N (fun x=>(d,v x)::(kW nR u++fr)) (fun x=>l x++[.abs A])))):iA P β N ops Q i d (d::nR) fr pre (fun v' l'=>∃ x,v'=v x/\l'=l x):=by
  intro junk w A hS
  have hout:∀ t∈d::nR,t∉bp fr:=fun t ht hm=>by
    have h1:=List.all_eq_true.1 VJ t ht
    rw [iM.2 hm] at h1;cases h1
  have XT:d∉nR:=fun hm=>by rw [iM.2 hm] at hd;cases hd
  have e1:bQ N fr junk=bQ N (kW nR junk++fr) junk:=nO fun t=>by
    rw [xZ,yK]
    by_cases ht:t∈nR
    ·rw [if_pos ht,LQ ht,lf (hout t (List.mem_cons_of_mem _ ht))]
    rw [if_neg ht]
  rw [e1]
  refine iL hop hg (jV (fun a w ⟨x,TR,ha,cT⟩=>?_) (show wpList P #[o] (NP (nV β N _ _)) [o] (bQ N (kW nR junk++fr) junk) w from h junk A junk w hS))
  refine⟨v x,l x,lk ((d,v x)::(kW nR junk++fr)) TR,⟨x,rfl,rfl⟩,?_,by rw [fC,if_pos rfl],fun t ht hn=>?_,cT⟩
  ·rw [ha]
   refine nO fun t=>?_
   by_cases ht:t∈bp fr
   ·have h1:¬ d=t:=fun e=>hout d List.mem_cons_self (e ▸ ht)
    have h2:t∉nR:=fun hm=>hout t (List.mem_cons_of_mem _ hm) ht
    rw [fC,if_neg h1,xZ,yK,if_neg h2]
    exact ER ht
   rw [lf ht]
  rw [fC,if_neg (fun e=>hn e.symm),xZ,yK,if_pos ((List.mem_cons.1 ht).resolve_left hn),LQ ((List.mem_cons.1 ht).resolve_left hn)]
theorem iA.at_ {d:Nat} {ds:List Nat} {pre X Y:List HP} {post:Value->List HP->Prop} {junk:Nat->Value} {w:World} {K:Act->World->Prop} (h:iA P β N ops Q i d ds fr pre post) (hS:Sat β (X++(pre++Y)) w)
    (hK:∀ v l gA w',post v l->gA d=v->(∀ t∈ds,t≠d->gA t=junk t)->Sat β (X++(l++Y)) w'->K (bQ N fr gA) w'):wpOp P ops (NP Q) i K (bQ N fr junk) w:=by
  have h1:=Sat.turn hS
  rw [List.append_assoc] at h1
  refine wpOp_mono (fun a' w' ⟨v,l,j2,g1,g2,g3,g4,g5⟩=>?_) (h junk w _ h1.fq)
  rw [g2]
  refine hK v l j2 w' g1 g3 g4 ?_
  have h2:=g5.pu
  rw [← List.append_assoc] at h2
  exact Sat.turn h2
theorem iA.grow {d d1:Nat} {ds:List Nat} {pre:List HP} {q:Value->List HP->Prop} (h:iA P β N ops Q i d (d::d1::ds) fr pre q) (h1:d1∉bp fr) (hd:d1≠d) (hn:d1∉ds) (v1:Value):iA P β N ops Q i d (d::ds) ((d1,v1)::fr) pre q:=by
  intro junk w A hS
  have e:bQ N ((d1,v1)::fr) junk=bQ N fr (fun t=>if t=d1 then v1 else junk t):=nO fun t=>by
    rw [fC]
    by_cases e1:d1=t
    ·subst e1;rw [if_pos rfl,lf h1,if_pos rfl]
    rw [if_neg e1]
    by_cases ht:t∈bp fr
    ·exact ER ht
    rw [lf ht,lf ht,if_neg (fun e=>e1 e.symm)]
  rw [e]
  refine wpOp_mono (fun a' w' ⟨v,l,j2,g1,g2,g3,g4,g5⟩=>?_) (h _ w A hS)
  have k1:j2 d1=v1:=(g4 d1 (by simp) hd).trans (if_pos rfl)
  refine⟨v,l,j2,g1,?_,g3,fun t ht hne=>?_,g5⟩
  ·rw [g2]
   refine nO fun t=>?_
   rw [fC]
   by_cases e1:d1=t
   ·subst e1;rw [if_pos rfl,lf h1,k1]
   rw [if_neg e1]
  have h2:t≠d1:=fun e=>by
    subst e
    rcases List.mem_cons.1 ht with e|e
    ·exact hd e
    exact hn e
  refine (g4 t ?_ hne).trans (if_neg h2)
  rcases List.mem_cons.1 ht with e|e
  ·exact absurd e hne
  exact List.mem_cons_of_mem _ (List.mem_cons_of_mem _ e)
def lu (P:Program) (β:Bs) (N:dF) (ops:Array Oper) (Q:Post) (dj:Nat):List (Nat×Nat)->Fr->List HP->(Fr->List HP->Prop)->Prop
  | [],fr,hps,R=>R fr hps
  | (i,d)::c,fr,hps,R=>(iX d (bp fr)=false/\d≠dj)/\∃ q:Value->List HP->Prop,iA P β N ops Q i d [d,dj] fr hps q/\∀ v l,q v l->lu P β N ops Q dj c ((d,v)::fr) l R
theorem lu.step {dj d:Nat} {c:List (Nat×Nat)} {R:Fr->List HP->Prop} {q:Value->List HP->Prop} (h:iA P β N ops Q i d [d,dj] fr hps q) (h1:(!iX d (bp fr) && decide (d≠dj))=true) (K:∀ v l,q v l->lu P β N ops Q dj c ((d,v)::fr) l R):lu P β N ops Q dj ((i,d)::c) fr hps R:=by
  simp only [Bool.and_eq_true,Bool.not_eq_true',decide_eq_true_iff] at h1
  exact⟨h1,q,h,K⟩
section R3
variable {dj:Nat} {Z pj:List HP} {qj:Value->List HP->Prop} {R:Fr->List HP->Prop} {pS:List Nat} {F:Act->World->Prop}
theorem Sat.rest {X:List HP} {w:World} (xG:nodupB pS=true) (xH:bT Z pS=some S) (h:Sat β (X++Z) w):Sat β S w:=Sat.pick (idx:=pS) (l:=Z) (Sat.left (Sat.turn h)) xG xH
theorem Eg {v:Value} {l2:List HP} (xG:nodupB pS=true) (xH:bT Z pS=some S) (hK:∀ f1 h1,R f1 h1->∀ junk w,Sat β (h1++(l2++Z)) w->F (bQ N ((dj,v)::f1) junk) w) :
    ∀ (c:List (Nat×Nat)) (fr:Fr) (hps:List HP) (junk:Nat->Value) (w:World),iX dj (bp fr)=false->lu P β N ops Q dj c fr hps R->junk dj=v->Sat β (hps++(l2++Z)) w->EZ P ops (NP Q) (Sat β S) F (c.map (·.1)) (bQ N fr junk) w
  | [],fr,hps,junk,w,hdj,hc,hv,hS=>by
    have e:bQ N fr junk=bQ N ((dj,v)::fr) junk:=nO fun t=>by
      rw [fC]
      by_cases e1:dj=t
      ·subst e1;rw [if_pos rfl,lf (fun hm=>by rw [iM.2 hm] at hdj;cases hdj),hv]
      rw [if_neg e1]
    show F (bQ N fr junk) w
    rw [e]
    exact hK fr hps hc junk w hS
  | (i,d)::c,fr,hps,junk,w,hdj,⟨⟨h1,h2⟩,q,h3,h4⟩,hv,hS=>by
    show wpOp P ops (NP Q) i _ _ _
    refine h3.at_ (X:=[]) hS (fun v' l j2 w' g1 g2 g3 g4=>⟨Sat.rest (X:=l++l2) xG xH (by rw [List.append_assoc];exact g4),?_⟩)
    have e:bQ N fr j2=bQ N ((d,v')::fr) j2:=nO fun t=>by
      rw [fC]
      by_cases e1:d=t
      ·subst e1;rw [if_pos rfl,lf (fun hm=>by rw [iM.2 hm] at h1;cases h1),g2]
      rw [if_neg e1]
    rw [e]
    refine Eg xG xH hK c _ l j2 w' ?_ (h4 v' l g1) ((g3 dj (by simp) (fun e=>h2 e.symm)).trans hv) g4
    cases hb:iX dj (bp ((d,v')::fr)) with
    | false=>rfl
    | true=>
      rcases List.mem_cons.1 (iM.1 hb) with e|e
      ·exact absurd e.symm h2
      rw [iM.2 e] at hdj;cases hdj
theorem Eh {j:Nat} (xG:nodupB pS=true) (xH:bT Z pS=some S) (hK:∀ f1 h1,R f1 h1->∀ v l2,qj v l2->∀ junk w,Sat β (h1++(l2++Z)) w->F (bQ N ((dj,v)::f1) junk) w) :
    ∀ (c:List (Nat×Nat)) (fr:Fr) (hps:List HP) (junk:Nat->Value) (w:World),nodupB (c.map (·.2))=true->iX dj (bp fr)=false->iA P β N ops Q j dj (dj::c.map (·.2)) fr pj qj->lu P β N ops Q dj c fr hps R->Sat β (hps++(pj++Z)) w->wR P ops (NP Q) (Sat β S) F j (c.map (·.1)) (bQ N fr junk) w
  | [],fr,hps,junk,w,_,hdj,hj,hc,hS=>by
    show wpOp P ops (NP Q) j _ _ _
    refine hj.at_ (X:=hps) hS (fun v l j2 w' g1 g2 g3 g4=>⟨Sat.rest (X:=hps++l) xG xH (by rw [List.append_assoc];exact g4),?_⟩)
    have e:bQ N fr j2=bQ N ((dj,v)::fr) j2:=nO fun t=>by
      rw [fC]
      by_cases e1:dj=t
      ·subst e1;rw [if_pos rfl,lf (fun hm=>by rw [iM.2 hm] at hdj;cases hdj),g2]
      rw [if_neg e1]
    rw [e]
    exact hK fr hps hc v l g1 j2 w' g4
  | (i,d)::c,fr,hps,junk,w,hnd,hdj,hj,hc,hS=>by
    obtain⟨⟨h1,h2⟩,q,h3,h4⟩:=hc
    have hout:d∉bp fr:=fun hm=>by rw [iM.2 hm] at h1;cases h1
    refine⟨h3.at_ (X:=[]) hS (fun v' l j2 w' g1 g2 g3 g4=>⟨Sat.rest (X:=l++pj) xG xH (by rw [List.append_assoc];exact g4),?_⟩),hj.at_ (X:=hps) hS (fun v l j2 w' g1 g2 g3 g4=>⟨Sat.rest (X:=hps++l) xG xH (by rw [List.append_assoc];exact g4),?_⟩)⟩
    ·have e:bQ N fr j2=bQ N ((d,v')::fr) j2:=nO fun t=>by
       rw [fC]
       by_cases e1:d=t
       ·subst e1;rw [if_pos rfl,lf hout,g2]
       rw [if_neg e1]
     rw [e]
     have yL:d∉c.map (·.2)/\nodupB (c.map (·.2))=true:=by
       have hx:nodupB (d::c.map (·.2))=true:=hnd
       unfold nodupB at hx
       simp only [Bool.and_eq_true] at hx
       exact⟨fun hm=>by have h:=hx.1;simp_all,hx.2⟩
     refine Eh xG xH hK c _ l j2 w' yL.2 ?_ (hj.grow hout h2 yL.1 v') (h4 v' l g1) g4
     cases hb:iX dj (bp ((d,v')::fr)) with
     | false=>rfl
     | true=>
       rcases List.mem_cons.1 (iM.1 hb) with e|e
       ·exact absurd e.symm h2
       rw [iM.2 e] at hdj;cases hdj
    exact Eg xG xH (fun f1 h1 hr=>hK f1 h1 hr v l g1) ((i,d)::c) fr hps j2 w' hdj ⟨⟨h1,h2⟩,q,h3,h4⟩ g2 g4
theorem jq.beside {j:Nat} {pc:List HP} (pk pS:List Nat) (c:List (Nat×Nat)) (hn:nodupB pk=true) (hp:bT hps pk=some (pc++(pj++Z))) (xG:nodupB pS=true) (xH:bT Z pS=some S) (hnd:nodupB (c.map (·.2))=true) (hdj:iX dj (bp fr)=false)
    (hj:iA P β N ops Q j dj (dj::c.map (·.2)) fr pj qj) (hc:lu P β N ops Q dj c fr pc R)
    (K:∀ f1 h1,R f1 h1->∀ v l,qj v l->jq P β N ops S es [] ((dj,v)::f1) (h1++(l++Z)) Q):jq P β N ops S (.beside (c.map (·.1)) j::es) [] fr hps Q:=by
  intro junk w hS
  exact Eh (F:=mq P ops (NP Q) (Sat β S) es) xG xH (fun f1 h1 hr v l2 hv junk w hS=>K f1 h1 hr v l2 hv junk w hS) c fr pc junk w hnd hdj hj hc (hS.pick hn hp)
end R3
theorem jq.last {o:Oper} (hop:ops[i]?=some o) (hg:o.guard=none) (h:ak P β N #[o] 0 fr hps (NP Q)):jq P β N ops S [.one i] [] fr hps Q:=by
  intro junk w hS
  unfold pR mq
  exact iL hop hg (jV (fun a w hq=>⟨.inl rfl,by unfold mq;exact hq⟩) (show wpList P #[o] (NP Q) [o] (bQ N fr junk) w from h junk w hS))
end mix
end
section
open Go.RowKit
def lC (β:Bs) (Φ:Bs->Prop):bY where
  h F w:=∃ β':Bs,β.le β'/\(∀ k,β'.O k->β.O k\/F k)/\(∀ k,F k->β'.O k)/\β'.w0.heap.size<=w.heap.size/\(∀ k,F k->k < β'.w0.heap.size/\w.heap[k]?=β'.w0.heap[k]?)/\Φ β'
  lt:=fun ⟨_,_,_,_,h4,h5,_⟩ k hk=>Nat.lt_of_lt_of_le (h5 k hk).1 h4
  st:=fun ⟨β',h1,h2,h3,h4,h5,h6⟩ _ _ hk hs=>⟨β',h1,h2,h3,Nat.le_trans h4 hk.size,fun k hF=>⟨(h5 k hF).1,(hk.block k (Nat.lt_of_lt_of_le (h5 k hF).1 h4) (hs k hF)).trans (h5 k hF).2⟩,h6⟩
section Pu
variable {P:Program} {β:Bs} {N:dF} {ops:Array Oper} {k:Nat} {fr:Fr} {hps cP:List HP} {Q:Post} {f:FuncId} {args:Array Value} {pre:List HP}
theorem bD.Pu {ι:Type} {vv:ι->Value} {ll:ι->List HP} {Φ:ι->Bs->Prop} (h:bD P β f args pre (fun β' v l=>∃ x,v=vv x/\l=ll x/\Φ x β')):Spec P β f args pre (fun v l=>∃ x,v=vv x/\l=.abs (lC β (Φ x))::ll x):=by
  intro R w hS
  refine (h R w hS).mono ?_
  rintro e w' ⟨β',v,l,hle,he,⟨x,rfl,rfl,xS⟩,ho,φ,h1,h2,h3⟩
  refine⟨vv x,_,he,⟨x,rfl,rfl⟩,ho.le hle,fun i=>match i with
    | 0=>fun k=>β'.O k/\¬ β.O k
    | i+1=>φ i,fun i p hp=>?_,fun i hi k hk hO=>?_,fun i j hi hj hne k hk hk'=>?_⟩
  ·cases i with
   | zero=>
     have hp:some (HP.abs (lC β (Φ x)))=some p:=hp
     cases hp
     exact⟨β',hle,fun k hk=>(Classical.em (β.O k)).elim .inl (fun hn=>.inr ⟨hk,hn⟩),fun k hk=>hk.1,ho.size,fun k hk=>ho.old k hk.1,xS⟩
   | succ i=>exact h1 i p (by simpa using hp)
  ·cases i with
   | zero=>exact hk.2 hO
   | succ i=>exact h2 i (by simp at hi ⊢;omega) k hk (hle.O k hO)
  cases i with
  | zero=>
    cases j with
    | zero=>exact hne rfl
    | succ j=>exact h2 j (by simp at hj ⊢;omega) k hk' hk.1
  | succ i=>
    cases j with
    | zero=>exact h2 i (by simp at hi ⊢;omega) k hk hk'.1
    | succ j=>exact h3 i j (by simp at hi ⊢;omega) (by simp at hj ⊢;omega) (by omega) k hk hk'
theorem Sat.Gi {Φ:Bs->Prop} {l:List HP} {w:World} (h:Sat β (.abs (lC β Φ)::l) w):∃ β':Bs,β.le β'/\Φ β'/\Sat β' l w:=by
  obtain⟨ho,φ,h1,h2,h3⟩:=h
  have hF:(lC β Φ).h (φ 0) w:=h1 0 _ rfl
  obtain⟨β',g1,g2,g3,g4,g5,g6⟩:=hF
  refine⟨β',g1,g6,⟨ho.os.trans g1.os.symm,ho.tape.trans g1.tape.symm,ho.output.trans g1.output.symm,g4,fun k hk=>?_⟩,fun j=>φ (j+1),fun j p hp=>h1 (j+1) p (by simpa using hp),fun j hj k hk hO=>?_,fun a b ha hb hne=>h3 (a+1) (b+1) (by simp;omega) (by simp;omega) (by omega)⟩
  ·rcases g2 k hk with hb|hb
   ·have e1:=g1.old k hb
    have e2:=ho.old k hb
    exact⟨Nat.lt_of_lt_of_le e1.1 g1.size,e2.2.trans e1.2.symm⟩
   exact g5 k hb
  rcases g2 k hO with hb|hb
  ·exact h2 (j+1) (by simp;omega) k hk hb
  exact h3 (j+1) 0 (by simp;omega) (by simp) (by omega) k hk hb
theorem Spec.Kc {Φ:Bs->Prop} {post:Value->List HP->Prop} (h:∀ β':Bs,β.le β'->Φ β'->Spec P β' f args pre post):Spec P β f args (.abs (lC β Φ)::pre) post:=by
  intro R w hS
  obtain⟨β',g1,g2,g3⟩:=Sat.Gi (l:=pre++[.abs R]) hS
  refine (h β' g1 g2 R w g3).mono ?_
  rintro e w' ⟨v,l,h1,h2,h3⟩
  exact⟨v,l,h1,h2,h3.Bz g1⟩
end Pu
end
section
open Go.RowKit Go.Maps bF aB
theorem Ke (_:Nat) (f:bq):∀ u∈fN f,u.oneCell'=true:=by
  intro u hu
  simp only [fN,List.mem_cons,List.not_mem_nil,or_false] at hu
  rcases hu with rfl|rfl<;>rfl
theorem Oc (_:Nat) (a:bP):∀ u∈gq a,u.oneCell'=true:=by
  intro u hu
  simp only [gq,List.mem_cons,List.not_mem_nil,or_false] at hu
  rcases hu with rfl|rfl|rfl|rfl|rfl<;>rfl
theorem Cm {α:Type} (f:α->List Value) (a:α) (ys:List α):bW f (ys++[a])=bW f ys++f a:=by
  have:∀ (k:Nat) (ys:List α),dG (fun _ x=>f x) k (ys++[a])=dG (fun _ x=>f x) k ys++f a:=fun k ys=>by
    induction ys generalizing k with
    | nil=>exact List.append_nil _
    | cons y r ih=>show f y++dG _ (k+1) (r++[a])=(f y++dG _ (k+1) r)++f a;rw [ih,List.append_assoc]
  exact this 0 ys
theorem Ei {α:Type} {f:α->List Value} {s:Nat} (hf:∀ a,(f a).length=s):∀ xs:List α,(bW f xs).length=xs.length * s:=fun xs=>by
  have:∀ (k:Nat) (xs:List α),(dG (fun _ x=>f x) k xs).length=xs.length * s:=fun k xs=>by
    induction xs generalizing k with
    | nil=>simp [dG]
    | cons y r ih=>show (f y++dG _ (k+1) r).length=_;rw [List.length_append,ih,hf,List.length_cons,Nat.succ_mul,Nat.add_comm]
  exact this 0 xs
structure AZ where
  A:Int->Option Addr
  c:Int->Nat
def AZ.none:AZ:=⟨fun _=>Option.none,fun _=>0⟩
def AZ.put (Z:AZ) (n:Int) (B:Option Addr) (k:Nat):AZ:=⟨fun x=>if x=n then B else Z.A x,fun x=>if x=n then k else Z.c x⟩
def aA (Z:AZ) (xs:List bP) (n:Int):Option Addr:=if bG xs n=[] then .none else Z.A n
def aC (Z:AZ) (xs:List bP) (n:Int):Nat:=if bG xs n=[] then 0 else Z.c n
def zz:Int->Nat
  | .ofNat n=>2 * n
  | .negSucc n=>2 * n+1
def zY (k:Nat):Int:=if k % 2=0 then .ofNat (k / 2) else .negSucc (k / 2)
def gu (Z:AZ) (xs:List bP):Lit->Option Value
  | .int .i64 n=>if bG xs n=[] then .none else some (.slice (aA Z xs n) (bG xs n).length (aC Z xs n))
  | _=>.none
def eO (fs:List bq):Lit->Option Value
  | .int .i64 n=>if iW fs n=0 then .none else some (.int .i64 (iW fs n))
  | _=>.none
abbrev Bh (Z:AZ) (xs:List bP) (n:Int):bY:=aJ 136 5 (aA Z xs n) (bG xs n).length (aC Z xs n) (bW gq (bG xs n))
def ni (Z:AZ) (xs:List bP) (k:Nat):bY:=if bG xs (zY k)=[] then bY.none else Bh Z xs (zY k)
def fL (β:Bs) (Z:AZ) (xs:List bP):Prop:=∀ n,cW β (aA Z xs n) (bW gq (bG xs n))
section z
variable {Z:AZ} {xs:List bP} {n x:Int} {k c:Nat} {B:Option Addr} {a:bP} {β β':Bs} {l l':List HP} {w:World} {i j:Nat}
theorem Gj:∀ n,zY (zz n)=n
  | .ofNat n=>by show zY (2 * n)=_;unfold zY;rw [if_pos (by omega)];exact congrArg Int.ofNat (by omega)
  | .negSucc n=>by show zY (2 * n+1)=_;unfold zY;rw [if_neg (by omega)];exact congrArg Int.negSucc (by omega)
theorem R4 (k:Nat):zz (zY k)=k:=by
  unfold zY
  split
  ·show 2 * (k / 2)=k;omega
  show 2 * (k / 2)+1=k;omega
theorem fL.le (h:fL β Z xs) (g:β.le β'):fL β' Z xs:=fun n=>(h n).le g
theorem Bj:(gu Z xs (.int .i64 n)).getD (.slice .none 0 0)=.slice (aA Z xs n) (bG xs n).length (aC Z xs n):=by
  unfold gu
  by_cases h:bG xs n=[]
  ·simp only
   rw [if_pos h]
   unfold aA aC
   rw [if_pos h,if_pos h,h];rfl
  simp only
  rw [if_neg h];rfl
theorem Ej {fs:List bq}:(eO fs (.int .i64 n)).getD (.int .i64 0)=.int .i64 (iW fs n):=by
  unfold eO
  simp only
  split
  ·rename_i h;rw [h];rfl
  rfl
theorem Od:gu Z []=fun _=>.none:=funext fun l=>by
  unfold gu
  split<;>rfl
theorem LR:eO []=fun _=>.none:=funext fun l=>by
  unfold eO
  split<;>rfl
theorem um {m:Int} (h:m≠a.at_):bG (xs++[a]) m=bG xs m:=by
  rw [zX,if_neg (fun e=>h e.symm)]
theorem uo:bG (xs++[a]) a.at_=bG xs a.at_++[a]:=by
  rw [zX,if_pos rfl]
theorem Pv {m:Int} (h:m≠a.at_):aA (Z.put a.at_ B c) (xs++[a]) m=aA Z xs m:=by
  unfold aA AZ.put
  rw [um h]
  simp only
  rw [if_neg h]
theorem Pw {m:Int} (h:m≠a.at_):aC (Z.put a.at_ B c) (xs++[a]) m=aC Z xs m:=by
  unfold aC AZ.put
  rw [um h]
  simp only
  rw [if_neg h]
theorem Px:aA (Z.put a.at_ B c) (xs++[a]) a.at_=B:=by
  unfold aA AZ.put
  rw [uo,if_neg (by simp)]
  simp
theorem Py:aC (Z.put a.at_ B c) (xs++[a]) a.at_=c:=by
  unfold aC AZ.put
  rw [uo,if_neg (by simp)]
  simp
theorem I5 {f g:Lit->Option Value} {v:Option Value} (hv:g (.int .i64 n)=v) (ho:∀ l,l≠.int .i64 n->g l=f l):kF f (.int .i64 n) v=g:=funext fun l=>by
  unfold kF
  by_cases h:l.sameKey (.int .i64 n)=true
  ·rw [if_pos h]
   have:l=.int .i64 n:=by
     cases l with
     | int q a=>simp [Lit.sameKey] at h;obtain⟨rfl,rfl⟩:=h;rfl
     | _=>simp [Lit.sameKey] at h
   rw [this,hv]
  rw [if_neg h,ho l (fun e=>h (by rw [e];simp [Lit.sameKey]))]
theorem Oe:kF (gu Z xs) (.int .i64 a.at_) (some (.slice B ((bG xs a.at_).length+1) c))=gu (Z.put a.at_ B c) (xs++[a]):=by
  refine I5 ?_ (fun l h=>?_)
  ·unfold gu
   simp only
   rw [uo,if_neg (by simp),Px,Py,List.length_append];rfl
  unfold gu
  split
  ·rename_i m
   have hm:m≠a.at_:=fun e=>h (by rw [e])
   rw [um hm,Pv hm,Pw hm]
  rfl
theorem LU {fs:List bq} {f:bq} (h:FK f) (h0:iW fs f.at_=0):kF (eO fs) (.int .i64 f.at_) (some (.int .i64 f.kind))=eO (fs++[f]):=by
  have hk:¬ f.kind=0:=by have:=h.1;omega
  refine I5 ?_ (fun l hl=>?_)
  ·unfold eO
   simp only
   have e:iW (fs++[f]) f.at_=f.kind:=by rw [sB,if_pos h0,if_pos (show f.at_=f.at_/\FK f from ⟨rfl,h⟩)]
   rw [e,if_neg hk]
  unfold eO
  split
  ·rename_i m
   have hm:¬ (f.at_=m/\FK f):=fun e=>hl (by rw [e.1])
   rw [sB,if_neg hm]
   by_cases h2:iW fs m=0
   ·rw [if_pos h2,h2]
   rw [if_neg h2]
  rfl
theorem wT {fs:List bq} {f:bq} (h:¬ FK f\/iW fs f.at_≠0):eO (fs++[f])=eO fs:=funext fun l=>by
  unfold eO
  split
  ·rename_i m
   have:iW (fs++[f]) m=iW fs m:=by
     rw [sB]
     by_cases h2:iW fs m=0
     ·rw [if_pos h2,if_neg (fun e=>?_),h2]
      rcases h with h|h
      ·exact h e.2
      exact h (by rw [e.1];exact h2)
     rw [if_neg h2]
   rw [this]
  rfl
theorem Sat.R5 (h:Sat β l w):Sat β (l++[.abs (ay (ni AZ.none []))]) w:=h.ET _ (fun _=>if_pos rfl)
theorem Sat.Qy (h:Sat β l w) (hp:l[i]?=some (.abs (ay (ni Z xs)))) (n:Int):Sat β (l.set i (.abs (ay (kQ (ni Z xs) (zz n) bY.none)))++[.abs (Bh Z xs n)]) w:=by
  have h1:=h.BP hp (zz n)
  by_cases e:bG xs n=[]
  ·have e2:Bh Z xs n=aJ 136 5 .none 0 0 []:=by
     unfold Bh aA aC
     rw [if_pos e,if_pos e,e];rfl
   rw [e2]
   exact (Sat.left h1).kI (e:=136) (size:=5)
  have e2:ni Z xs (zz n)=Bh Z xs n:=by
    unfold ni
    rw [Gj,if_neg e]
  rw [e2] at h1
  exact h1
theorem Sat.R6 {idx:List Nat} (h:Sat β l w) (hp:l[i]?=some (.abs (ay (kQ (ni Z xs) (zz a.at_) bY.none)))) (hq:l[j]?=some (.abs (aJ 136 5 B ((bG xs a.at_).length+1) c (bW gq (bG xs a.at_)++gq a)))) (hn:nodupB (i::j::idx)=true) (hl:bT l idx=some l') :
    Sat β (.abs (ay (ni (Z.put a.at_ B c) (xs++[a])))::l') w:=by
  refine h.qL hp hq (fun _ _ h=>h) hn hl (zz a.at_) (fun x hx=>?_) ?_
  ·have hne:zY x≠a.at_:=fun e=>hx (by rw [← e,R4])
   unfold kQ
   rw [if_neg hx]
   unfold ni Bh
   rw [um hne,Pv hne,Pw hne]
  unfold ni Bh
  rw [Gj,uo,if_neg (by simp),Px,Py]
  rw [Cm,List.length_append];rfl
theorem fL.of {F:Fp} (h:(HP.abs (ay (ni Z xs))).h F w) (h1:∀ k,F k->β.O k) (h2:β.w0=w):fL β Z xs:=fun n=>by
  by_cases e:bG xs n=[]
  ·rw [e];exact fun j v hj=>by simp [bW,dG] at hj
  obtain⟨φ,g1,_,g3⟩:=h
  have h3:=g1 (zz n)
  unfold ni at h3
  rw [Gj,if_neg e] at h3
  exact cW.jM h3 (fun k hk=>h1 k ((g3 k).2 ⟨_,hk⟩)) h2
end z
theorem Gl {xs:List bP} {i:Nat} (h:i < xs.length):xs.take (i+1)=xs.take i++[act xs i]:=by
  rw [List.take_add_one,sK h];rfl
theorem wU {fs:List bq} {i:Nat} (h:i < fs.length):fs.take (i+1)=fs.take i++[kg fs i]:=by
  rw [List.take_add_one,zF h];rfl
theorem LV {n:Nat} (h:n<=9223372036854775807):(Lit.int .i64 (n:Int)).wf=true:=by
  simp [Lit.wf,IntKind.min,IntKind.max,IntKind.signed,IntKind.bits]
  omega
theorem Og {d:List UInt8} {m j:Nat} {v:Value} (h:(cL (d.take m))[j]?=some v):(cL d)[j]?=some v:=by
  unfold cL at h ⊢
  rw [List.getElem?_map] at h ⊢
  rw [List.getElem?_take] at h
  split at h
  ·exact h
  cases h
theorem Ig {β:Bs} {c:ax} (h:gT β c):gT β { c with data:=c.data.take (c.data.length / 2) }:=⟨h.hw,h.ow,h.nm,h.tx,fun j v hj=>h.da j v (Og hj),by
  show (c.data.take _).length<=_
  rw [List.length_take];have:=h.dl;omega,by
  show (c.data.take _).length<=c.dC
  rw [List.length_take];have:=h.dc;omega⟩
structure WG where
  w:Nat
  o:Nat
  q:Nat
  am:Nat
  km:Nat
  an:Nat
  kn:Nat
  f:Nat
  m:Nat
  t:Nat
  Z:AZ
structure WV where
  L:HL
  A:Option Addr
  c:Nat
abbrev wB (w o f:Nat) (root:Int) (A:Option Addr) (n c:Nat):HP:=.blk w [.iface 39 (vP w),vP f,.iface 140 (vP o),.int .i64 root,.slice A n c] 53
abbrev oB (o q f:Nat) (root:Int) (am n:Nat):HP:=.blk o [.iface 141 (vP q),vP f,.int .i64 root,.map (some am),.int .i64 n] 145
abbrev qB (q f km n:Nat):HP:=.blk q [.iface 49 (vP f),.map (some km),.int .i64 n] 143
abbrev aM (am an:Nat) (Z:AZ) (xs:List bP):HP:=.abs (aP Tryz.prog 3 am (gu Z xs) an)
abbrev kM (km kn:Nat) (fs:List bq):HP:=.abs (aP Tryz.prog 3 km (eO fs) kn)
abbrev tR (A:Option Addr) (c:Nat) (tr:List ax):HP:=.abs (aJ 88 13 A tr.length c (bW cC tr))
abbrev wP (G:WG) (fs:List bq) (xs:List bP) (root:Int) (S:aG) (V:WV) (tr:List ax):List HP:=[wB G.w G.o G.f root V.A tr.length V.c,oB G.o G.q G.f root G.am tr.length,qB G.q G.f G.km tr.length,aM G.am G.an G.Z xs,kM G.km G.kn fs,tR V.A V.c tr]++pA G.f G.m G.t V.L S
def wA (G:WG) (fs:List bq) (xs:List bP) (root:Int) (S:aG) (V:WV) (tr:List ax):HP:=.abs (fq (wP G fs xs root S V tr))
def Xw (β:Bs) (tr:List ax):Prop:=∀ c∈tr,cg β c.dA c.data/\c.data.length<=1048576
theorem Spec.one {P:Program} {β:Bs} {f:FuncId} {args:Array Value} {pre:List HP} {post:Value->List HP->Prop} (h:Spec P β f args pre post):Spec P β f args [.abs (fq pre)] (fun v l=>∃ l0,post v l0/\l=[.abs (fq l0)]):=by
  intro R w hS
  have h1:Sat β ([.abs R]++[.abs (fq pre)]) w:=Sat.turn hS
  refine (h R w (Sat.turn h1.pu)).mono ?_
  rintro e w' ⟨v,l,h2,h3,h4⟩
  exact⟨v,[.abs (fq l)],h2,⟨l,h3,rfl⟩,Sat.turn (Sat.fq (Sat.turn h4))⟩
theorem bD.one {P:Program} {β:Bs} {f:FuncId} {args:Array Value} {pre:List HP} {post:Bs->Value->List HP->Prop} (h:bD P β f args pre post):bD P β f args [.abs (fq pre)] (fun β' v l=>∃ l0,post β' v l0/\l=[.abs (fq l0)]):=by
  intro R w hS
  have h1:Sat β ([.abs R]++[.abs (fq pre)]) w:=Sat.turn hS
  refine (h R w (Sat.turn h1.pu)).mono ?_
  rintro e w' ⟨β',v,l,hle,h2,h3,h4⟩
  exact⟨β',v,[.abs (fq l)],hle,h2,⟨l,h3,rfl⟩,Sat.turn (Sat.fq (Sat.turn h4))⟩
theorem aj.Gi {β:Bs} {N:dF} {Q:Post} {e:Exit} {fr:Fr} {hps cP:List HP} {Φ:Bs->Prop} (i:Nat) (idx:List Nat) (hp:hps[i]?=some (.abs (lC β Φ))) (hn:nodupB (i::idx)=true) (hl:bT hps idx=some cP) (K:∀ β':Bs,β.le β'->Φ β'->aj β' N Q e fr cP):aj β N Q e fr hps:=fun junk w hS=>by
  obtain⟨β',g1,g2,g3⟩:=(hS.pick (idx:=i::idx) (l':=.abs (lC β Φ)::cP) hn (by simp only [bT,hp,hl])).Gi
  exact K β' g1 g2 junk w g3
theorem bD.Kc {P:Program} {β:Bs} {f:FuncId} {args:Array Value} {pre:List HP} {Φ:Bs->Prop} {post:Bs->Value->List HP->Prop} (h:∀ β':Bs,β.le β'->Φ β'->bD P β' f args pre post):bD P β f args (.abs (lC β Φ)::pre) post:=by
  intro A w hS
  obtain⟨β',g1,g2,g3⟩:=Sat.Gi (l:=pre++[.abs A]) hS
  refine (h β' g1 g2 A w g3).mono ?_
  rintro e w' ⟨β'',v,l,hle,h2⟩
  exact⟨β'',v,l,g1.trans hle,h2⟩
theorem bD.R7 {P:Program} {β:Bs} {f:FuncId} {args:Array Value} {R:List HP} {post:Bs->Value->List HP->Prop} (h:∀ β':Bs,qq β R β'->bD P β' f args [] post):bD P β f args R post:=by
  intro A w hS
  have h4:Sat β ([.abs A]++R) w:=Sat.turn hS
  obtain⟨β',g1,_,g3⟩:=h4.AJ
  refine (h β' g1 A w g3).mono ?_
  rintro e w' ⟨β'',v,l,hle,h2⟩
  exact⟨β'',v,l,g1.le.trans hle,h2⟩
theorem bD.Gm {P:Program} {β:Bs} {f:FuncId} {args:Array Value} {pre:List HP} {post:Value->List HP->Prop} (h:bD P β f args pre (fun _ v l=>post v l)):Spec P β f args pre post:=by
  intro A w hS
  refine (h A w hS).mono ?_
  rintro e w' ⟨β',v,l,hle,h2,h3,h4⟩
  exact⟨v,l,h2,h3,h4.Bz hle⟩
theorem bD.R8 {P:Program} {β:Bs} {f:FuncId} {args:Array Value} {pre:List HP} {post post':Bs->Value->List HP->Prop} (h:bD P β f args pre post) (hp:∀ β' v l,post β' v l->(l=[]/\post' β' v [])\/post' β' v [.abs (fq l)]):bD P β f args pre post':=by
  intro R w hS
  refine (h R w hS).mono ?_
  rintro e w' ⟨β',v,l,hle,h2,h3,h4⟩
  rcases hp β' v l h3 with ⟨rfl,h5⟩|h5
  ·exact⟨β',v,[],hle,h2,h5,h4⟩
  exact⟨β',v,[.abs (fq l)],hle,h2,h5,Sat.turn (Sat.fq (Sat.turn h4))⟩
end
section
open Go.RowKit Go.Maps bF aB
section k
variable {xs:List bP} {z root:Int} {j n:Nat} {fs:List bq} {S:aG} {c:ax} {k:Int}
theorem Gn:(nM root c).op=c.op:=by
  unfold nM;split<;>rfl
theorem Cn {e:Int}:(cQ c e).code=e/\(cQ c e).answer=0:=by
  unfold cQ;split<;>exact⟨rfl,rfl⟩
end k
end
section
open Go.RowKit
section
variable {O:ck} {k:Nat} {kd:Int}
theorem rJ (L:HL) (h:(obj O k).kind=kd) (h0:kd≠0:=by decide):∀ F w,(ay (bN O L)).h F w->w.cell? ⟨L.b k,0,none⟩=some (.int .i64 (obj O k).id):=eH (by rw [h];exact h0) rfl
theorem tq (L:HL) (h:(obj O k).kind=kd) (h0:kd≠0:=by decide):∀ F w,(ay (bN O L)).h F w->w.cell? ⟨L.b k,1,none⟩=some (.int .i64 (obj O k).mode):=eH (by rw [h];exact h0) rfl
theorem zG (L:HL) (h:(obj O k).kind=kd) (h0:kd≠0:=by decide):∀ F w,(ay (bN O L)).h F w->w.cell? ⟨L.b k,2,none⟩=some (.int .i64 (obj O k).uid):=eH (by rw [h];exact h0) rfl
theorem zH (L:HL) (h:(obj O k).kind=kd) (h0:kd≠0:=by decide):∀ F w,(ay (bN O L)).h F w->w.cell? ⟨L.b k,3,none⟩=some (.int .i64 (obj O k).gid):=eH (by rw [h];exact h0) rfl
theorem nP (L:HL) (h:(obj O k).kind=kd) (h0:kd≠0:=by decide):∀ F w,(ay (bN O L)).h F w->w.cell? ⟨L.b k,6,none⟩=some (.int .i64 (obj O k).links):=eH (by rw [h];exact h0) rfl
theorem kE (L:HL) (h:(obj O k).kind=kd) (h0:kd≠0:=by decide):∀ F w,(ay (bN O L)).h F w->w.cell? ⟨L.b k,7,none⟩=some (.int .i64 (obj O k).opens):=eH (by rw [h];exact h0) rfl
theorem oh (L:HL) (h:(obj O k).kind=kd) (h0:kd≠0:=by decide):∀ F w,(ay (bN O L)).h F w->w.cell? ⟨L.b k,8,none⟩=some (.bool (obj O k).gone):=eH (by rw [h];exact h0) rfl
theorem Gp (L:HL) (h:(obj O k).kind=1):∀ F w,(ay (bN O L)).h F w->w.cell? ⟨L.b k,9,none⟩=some (.slice (L.dA k) (obj O k).data.length (L.dC k)):=eH (by rw [h];decide) (by rw [iU h];rfl)
theorem bH (L:HL) (h:(obj O k).kind=2):∀ F w,(ay (bN O L)).h F w->w.cell? ⟨L.b k,9,none⟩=some (.map (some (L.m k))):=eH (by rw [h];decide) (by rw [lY h];rfl)
theorem VK (L:HL) (h:(obj O k).kind=2):∀ F w,(ay (bN O L)).h F w->w.cell? ⟨L.b k,10,none⟩=some (vk L (obj O k).up):=eH (by rw [h];decide) (by rw [lY h];rfl)
theorem TS (L:HL) (h:(obj O k).kind=3):∀ F w,(ay (bN O L)).h F w->w.cell? ⟨L.b k,9,none⟩=some (.string (obj O k).target):=eH (by rw [h];decide) (by rw [yg h];rfl)
end
end
section
open Go.RowKit Go.Maps
theorem ay.step {R R':Nat->bY} {k:Nat} {F:Fp} {w w':World} (hF:(ay R).h F w) (hR:∀ x,x≠k->R' x=R x) (hs:∀ G,(R k).h G w->∃ G',(R' k).h G' w'/\Step G w G' w'):∃ F',(ay R').h F' w'/\Step F w F' w':=by
  obtain⟨φ,h1,h2,h3⟩:=hF
  obtain⟨G',g1,st⟩:=hs _ (h1 k)
  have hap:∀ i,i≠k->∀ x,G' x->φ i x->False:=fun i hne x hx hy=>by
    rcases st.grow x hx with e|e
    ·exact h2 i k hne x hy e
    have:=(R i).lt (h1 i) x hy;omega
  refine⟨fun x=>∃ i,(if i=k then G' else φ i) x,⟨fun i=>if i=k then G' else φ i,fun i=>?_,fun i j hne x hx hy=>?_,fun x=>Iff.rfl⟩,⟨st.keeps.mono (fun x _ hx=>(h3 x).2 ⟨k,hx⟩),fun x ⟨i,hx⟩=>?_⟩⟩
  ·by_cases e:i=k
   ·subst e;simp only [if_true];exact g1
   simp only [e,if_false]
   rw [hR i e]
   exact (R i).st (h1 i) st.keeps (fun x hx hk=>h2 i k e x hx hk)
  ·by_cases e1:i=k
   ·have e2:j≠k:=fun e=>hne (e1.trans e.symm)
    simp only [e1,if_true] at hx
    simp only [e2,if_false] at hy
    exact hap j e2 x hx hy
   simp only [e1,if_false] at hx
   by_cases e2:j=k
   ·simp only [e2,if_true] at hy
    exact hap i e1 x hy hx
   simp only [e2,if_false] at hy
   exact h2 i j hne x hx hy
  by_cases e:i=k
  ·simp only [e,if_true] at hx
   rcases st.grow x hx with h|h
   ·exact .inl ((h3 x).2 ⟨k,h⟩)
   exact .inr h
  simp only [e,if_false] at hx
  exact .inl ((h3 x).2 ⟨i,hx⟩)
def Dw (O:ck) (L:HL):Nat->HP
  | 0=>.abs (ay (bN O L))
  | 1=>.abs (ay (cJ O L))
  | _=>.abs (ay (bO O L))
def qz (O:ck) (L:HL):List (Nat×Nat)->List (Nat×HP)
  | []=>[]
  | q::r=>(q.1,Dw O L q.2)::qz O L r
def uq (hps:List HP) (O:ck) (L:HL):List (Nat×Nat)->Prop
  | []=>True
  | q::r=>hps[q.1]?=some (Dw O L q.2)/\uq hps O L r
theorem vG {hps:List HP} {O O2:ck} {L:HL} {p:Nat} (he:∀ q,q≠p->Dw O2 L q=Dw O L q):∀ {js:List (Nat×Nat)},uq hps O L js->iX p (js.map (·.2))=false->nE hps (qz O2 L js)=hps
  | [],_,_=>rfl
  | q::r,h,hn=>by
    have hq:q.2≠p:=fun e=>by
      rw [show iX p ((q::r).map (·.2))=true from iM.2 (by simp [e])] at hn;cases hn
    have hr:iX p (r.map (·.2))=false:=by
      cases hb:iX p (r.map (·.2)) with
      | false=>rfl
      | true=>rw [show iX p ((q::r).map (·.2))=true from iM.2 (List.mem_cons_of_mem _ (iM.1 hb))] at hn;cases hn
    show nE (hps.set q.1 (Dw O2 L q.2)) (qz O2 L r)=hps
    have e:hps.set q.1 (Dw O2 L q.2)=hps:=by
      rw [he _ hq]
      refine List.ext_getElem? (fun n=>?_)
      rw [List.getElem?_set]
      split
      ·rename_i e;subst e
       rw [h.1];split
       ·rfl
       rename_i hlt;exact absurd (bA h.1) hlt
      rfl
    rw [e]
    exact vG he h.2 hr
def Co (P:Program) (N:dF) (junk:Nat->Value) (ops:Array Oper) (fr:Fr) (k:Nat):Option (Addr×Value):=
  match fQ N junk ops fr k with
  | some (.store T a y,_)=>match (P.info? T).map (·.size) with
    | some 1=>match dH N fr junk a with
      | .pointer (some ad)=>some (ad,dH N fr junk y)
      | _=>none
    | _=>none
  | _=>none
def Cp (N:dF) (junk:Nat->Value) (ops:Array Oper) (fr:Fr) (k:Nat):Option (TypeId×Nat×Value):=
  match fQ N junk ops fr k with
  | some (.lookup t x ix false,_)=>match dH N fr junk x with
    | .map (some b)=>some (t,b,dH N fr junk ix)
    | _=>none
  | _=>none
def setAt (N:dF) (junk:Nat->Value) (ops:Array Oper) (fr:Fr) (k:Nat):Option (TypeId×Nat×Value×Value):=
  match fQ N junk ops fr k with
  | some (.mapUpdate t x ix y,_)=>match dH N fr junk x with
    | .map (some b)=>some (t,b,dH N fr junk ix,dH N fr junk y)
    | _=>none
  | _=>none
def Kf (N:dF) (junk:Nat->Value) (ops:Array Oper) (fr:Fr) (k:Nat):Option (TypeId×TypeId×Nat×Value):=
  match fQ N junk ops fr k with
  | some (.call ⟨.builtin .delete,xs,ts⟩,_)=>match xs.toList with
    | [x,ix]=>match ts.toList with
      | [t,K]=>match dH N fr junk x with
        | .map (some b)=>some (t,K,b,dH N fr junk ix)
        | _=>none
      | _=>none
    | _=>none
  | _=>none
def Gq (L:HL):Option Th->Value
  | none=>.nilIface
  | some t=>dR L t
section rules
variable {β:Bs} {N:dF} {ops:Array Oper} {k x:Nat} {fr:Fr} {hps:List HP} {Q:Post} {O:ck} {L:HL} {name:ByteArray} {r:Option Th} {t:Th}
theorem vH {junk:Nat->Value} {op:Op} {d:Option Tmp} (h:fQ N junk ops fr k=some (op,d)):d=jF ops k:=by
  obtain⟨o,h1,_,_,h4⟩:=ez h
  unfold jF
  rw [h1,← h4]
theorem Gr {P:Program} {junk:Nat->Value} {ad:Addr} {u:Value} (h:Co P N junk ops fr k=some (ad,u)):∃ T a y,fQ N junk ops fr k=some (.store T a y,jF ops k)/\(P.info? T).map (·.size)=some 1/\dH N fr junk a=.pointer (some ad)/\dH N fr junk y=u:=by
  unfold Co at h
  repeat' split at h
  all_goals first|(cases h;done)|skip
  rename_i T a y d h0 _ h1 _ WD h2
  cases h
  have:=vH h0
  subst this
  exact⟨T,a,y,h0,h1,h2,rfl⟩
theorem oZ {junk:Nat->Value} {T:TypeId} {b:Nat} {key:Value} (h:Cp N junk ops fr k=some (T,b,key)):∃ a y,fQ N junk ops fr k=some (.lookup T a y false,jF ops k)/\dH N fr junk a=.map (some b)/\dH N fr junk y=key:=by
  unfold Cp at h
  repeat' split at h
  all_goals first|(cases h;done)|skip
  rename_i T' a y d h0 _ b' h1
  cases h
  have:=vH h0
  subst this
  exact⟨a,y,h0,h1,rfl⟩
theorem Oh {junk:Nat->Value} {T:TypeId} {b:Nat} {key u:Value} (h:setAt N junk ops fr k=some (T,b,key,u)):∃ a y z,fQ N junk ops fr k=some (.mapUpdate T a y z,jF ops k)/\dH N fr junk a=.map (some b)/\dH N fr junk y=key/\dH N fr junk z=u:=by
  unfold setAt at h
  repeat' split at h
  all_goals first|(cases h;done)|skip
  rename_i T' a y z d h0 _ b' h1
  cases h
  have:=vH h0
  subst this
  exact⟨a,y,z,h0,h1,rfl,rfl⟩
theorem LW {P:Program} {T:TypeId} {a y:Operand} {o:Oper} {ev:Operand->Value} {w:World} {ad:Addr} {u v0:Value} (ho:o.op=.store T a y) (hT:(P.info? T).map (·.size)=some 1) (ha:ev a=.pointer (some ad)) (hy:ev y=u) (hu:u.oneCell'=true) (hc:w.cell? ad=some v0) (hf:w.frozen? ad=false) (hs:ad.spot=none):p8 P ev o w undef (w.setCell ad u):=by
  obtain⟨inf,hi,hsz⟩:∃ inf,P.info? T=some inf/\inf.size=1:=by
    cases h:P.info? T with
    | none=>rw [h] at hT;cases hT
    | some inf=>rw [h] at hT;exact⟨inf,rfl,by simpa using hT⟩
  have h3:=oM hi w
  rw [hsz] at h3
  obtain⟨dst,op,type,pos,after,guard⟩:=o
  obtain⟨bk,off,spot⟩:=ad
  simp only at hs
  subst hs
  cases ho
  refine .inr ⟨rfl,?_⟩
  cases u<;>first
    | (simp [Value.oneCell'] at hu;done)
    | (simp only [execOp,ha,hy];simp [go_sem,Instr.storeAt,Instr.sureAddr,storeVar,h3,Value.cells,storeCells,store,Addr.add,Sem.run,hc,hf])
theorem Uy (i:Nat) (js:List (Nat×Nat)) (x j:Nat) (f:aT->aT) (u:Value) {kd:Int} (hk:(obj O x).kind=kd)
    (K:∀ O2,O2=aH O x f->ak Tryz.prog β N ops (k+1) (dw fr (jF ops k) undef) ((nE hps (qz O2 L js)).set i (.abs (ay (bN O2 L)))) Q)
    (hp:hps[i]?=some (.abs (ay (bN O L)))) (hj:uq hps O L js)
    (ho:∀ junk,Co Tryz.prog N junk ops fr k=some (⟨L.b x,j,none⟩,u))
    (hn:iX 0 (js.map (·.2))=false) (h0:kd≠0) (hc:iy L x (f (obj O x))=(iy L x (obj O x)).set j u) (hu:u.oneCell'=true) (h9:j < (iy L x (obj O x)).length)
    (he:(f (obj O x)).ah=(obj O x).ah) (hd:(f (obj O x)).data=(obj O x).data) (Cq:(f (obj O x)).kind=(obj O x).kind):ak Tryz.prog β N ops k fr hps Q:=by
  obtain⟨T,a,y,h1,h2,h3,h4⟩:=Gr (ho (fun _=>undef))
  intro junk w hS
  obtain⟨T,a,y,h1,h2,h3,h4⟩:=Gr (ho junk)
  obtain⟨o,g1,g2,g3,g4⟩:=ez h1
  have hx0:(obj O x).kind≠0:=by rw [hk];exact h0
  have Gs:nE hps (qz (aH O x f) L js)=hps:=vG (p:=0) (fun q hq=>by
    match q,hq with
    | 0,hq=>exact absurd rfl hq
    | 1,_=>exact congrArg (fun R=>HP.abs (ay R)) (nH he Cq)
    | q+2,_=>exact congrArg (fun R=>HP.abs (ay R)) (nG hd Cq)) hj hn
  have hcell:∃ v0,(iy L x (obj O x))[j]?=some v0:=iY h9
  obtain⟨v0,hv0⟩:=hcell
  obtain⟨F,hF⟩:=hS.get hp
  obtain⟨G,hG⟩:=ay.at x hF
  have Uz:=hG
  rw [lX hx0] at Uz
  obtain⟨hb,_⟩:=Uz
  obtain⟨c1,c2⟩:=gU (a:=⟨L.b x,j,none⟩) hb rfl rfl hv0
  have vo:Sat β (hps.set i (.abs (ay (bN (aH O x f) L)))) (w.setCell ⟨L.b x,j,none⟩ (u)):=hS.set hp (fun F hF=>ay.step (k:=x) (show (ay (bN O L)).h F w from hF) (fun y hy=>vm hy) (fun G hG=>by
    rw [lX hx0] at hG
    rw [vl,if_neg (by rw [Cq];exact hx0),hc,Cq]
    exact sO hG rfl rfl))
  rw [drop_cons g1]
  unfold wpList
  rw [dJ,if_pos g2]
  refine .inl (kH (v:=undef) (w':=w.setCell ⟨L.b x,j,none⟩ (u)) (by rw [dY];exact LW g3 h2 h3 h4 hu c1 c2 rfl) ?_)
  rw [dI]
  have hK:=K _ rfl junk _ (by rw [Gs];exact vo)
  rw [← g4] at hK
  exact hK
theorem tu (i:Nat) (js:List (Nat×Nat)) (x j:Nat) (f:aT->aT) {kd:Int} (hk:(obj O x).kind=kd)
    (K:∀ O2,O2=aH O x f->ak Tryz.prog β N ops (k+1) (dw fr (jF ops k) undef) ((nE hps (qz O2 L js)).set i (.abs (ay (bN O2 L)))) Q)
    (hp:hps[i]?=some (.abs (ay (bN O L))):=by rfl) (hj:uq hps O L js:=by first|exact⟨rfl,trivial⟩|exact⟨rfl,rfl,trivial⟩|exact trivial)
    (ho:∀ junk,Co Tryz.prog N junk ops fr k=some (⟨L.b x,j,none⟩,(zl (f (obj O x))).getD j undef):=by intro _;kernel_rfl)
    (hn:iX 0 (js.map (·.2))=false:=by rfl) (h0:kd≠0:=by decide) (hc:iy L x (f (obj O x))=(iy L x (obj O x)).set j ((zl (f (obj O x))).getD j undef):=by rfl) (hu:((zl (f (obj O x))).getD j undef).oneCell'=true:=by rfl) (h9:Nat.blt j 9=true:=by rfl)
    (he:(f (obj O x)).ah=(obj O x).ah:=by rfl) (hd:(f (obj O x)).data=(obj O x).data:=by rfl) (Cq:(f (obj O x)).kind=(obj O x).kind:=by rfl):ak Tryz.prog β N ops k fr hps Q:=
  Uy i js x j f _ hk K hp hj ho hn h0 hc hu (Nat.lt_of_lt_of_le (show j < 9 by simpa [Nat.blt_eq] using h9) (by unfold iy zl;simp)) he hd Cq
theorem UA (i:Nat) (js:List (Nat×Nat)) (x:Nat) (y:Option Nat) (hk:(obj O x).kind=2)
    (K:∀ O2,O2=aH O x (fun o=>{ o with up:=y })->ak Tryz.prog β N ops (k+1) (dw fr (jF ops k) undef) ((nE hps (qz O2 L js)).set i (.abs (ay (bN O2 L)))) Q)
    (hp:hps[i]?=some (.abs (ay (bN O L))):=by rfl) (hj:uq hps O L js:=by first|exact⟨rfl,trivial⟩|exact⟨rfl,rfl,trivial⟩|exact trivial)
    (ho:∀ junk,Co Tryz.prog N junk ops fr k=some (⟨L.b x,10,none⟩,vk L y):=by intro _;kernel_rfl) (hn:iX 0 (js.map (·.2))=false:=by rfl):ak Tryz.prog β N ops k fr hps Q:=
  Uy i js x 10 (fun o=>{ o with up:=y }) (vk L y) hk K hp hj ho hn (by decide) (by rw [lY (show ({ obj O x with up:=y }:aT).kind=2 from hk),lY hk];rfl) (by cases y<;>rfl) (by rw [lY hk];exact Nat.lt_succ_self 10) rfl rfl rfl
theorem Sat.Pz {w:World} {i j:Nat} {f:aT->aT} {u:Value} (hS:Sat β hps w) (hp:hps[i]?=some (.abs (ay (bN O L)))) (hx0:(obj O x).kind≠0) (hc:iy L x (f (obj O x))=(iy L x (obj O x)).set j u) (Cq:(f (obj O x)).kind=(obj O x).kind) (h9:j < (iy L x (obj O x)).length) :
    Sat β (hps.set i (.abs (ay (bN (aH O x f) L)))) (w.setCell ⟨L.b x,j,none⟩ u)/\(∃ v0,w.cell? ⟨L.b x,j,none⟩=some v0)/\w.frozen? ⟨L.b x,j,none⟩=false:=by
  obtain⟨v0,hv0⟩:=iY h9
  obtain⟨F,hF⟩:=hS.get hp
  obtain⟨G,hG⟩:=ay.at x (show (ay (bN O L)).h F w from hF)
  rw [lX hx0] at hG
  obtain⟨c1,c2⟩:=gU (a:=⟨L.b x,j,none⟩) hG.1 rfl rfl hv0
  refine⟨hS.set hp (fun F hF=>ay.step (k:=x) (show (ay (bN O L)).h F w from hF) (fun y hy=>vm hy) (fun G hG=>?_)),⟨v0,c1⟩,c2⟩
  rw [lX hx0] at hG
  rw [vl,if_neg (by rw [Cq];exact hx0),hc,Cq]
  exact sO hG rfl rfl
def Gt (P:Program) (N:dF) (junk:Nat->Value) (ops:Array Oper) (fr:Fr) (k:Nat):Option (Addr×Value):=
  match fQ N junk ops fr k with
  | some (.store T a y,_)=>match (P.info? T).map (·.size) with
    | some 2=>match dH N fr junk a with
      | .pointer (some ad)=>some (ad,dH N fr junk y)
      | _=>none
    | _=>none
  | _=>none
theorem LX {P:Program} {junk:Nat->Value} {ad:Addr} {u:Value} (h:Gt P N junk ops fr k=some (ad,u)):∃ T a y,fQ N junk ops fr k=some (.store T a y,jF ops k)/\(P.info? T).map (·.size)=some 2/\dH N fr junk a=.pointer (some ad)/\dH N fr junk y=u:=by
  unfold Gt at h
  repeat' split at h
  all_goals first|(cases h;done)|skip
  rename_i T a y d h0 _ h1 _ WD h2
  cases h
  have:=vH h0
  subst this
  exact⟨T,a,y,h0,h1,h2,rfl⟩
theorem Kg {P:Program} {T:TypeId} {a y:Operand} {o:Oper} {ev:Operand->Value} {w:World} {b j:Nat} {z1 z2:Int} {v0 v1:Value} (ho:o.op=.store T a y) (hT:(P.info? T).map (·.size)=some 2) (ha:ev a=.pointer (some ⟨b,j,none⟩)) (hy:ev y=.agg #[.int .i64 z1,.int .i64 z2])
    (hc:w.cell? ⟨b,j,none⟩=some v0) (hf:w.frozen? ⟨b,j,none⟩=false) (hc1:(w.setCell ⟨b,j,none⟩ (.int .i64 z1)).cell? ⟨b,j+1,none⟩=some v1) (hf1:(w.setCell ⟨b,j,none⟩ (.int .i64 z1)).frozen? ⟨b,j+1,none⟩=false) :
    p8 P ev o w undef ((w.setCell ⟨b,j,none⟩ (.int .i64 z1)).setCell ⟨b,j+1,none⟩ (.int .i64 z2)):=by
  obtain⟨inf,hi,hsz⟩:∃ inf,P.info? T=some inf/\inf.size=2:=by
    cases h:P.info? T with
    | none=>rw [h] at hT;cases hT
    | some inf=>rw [h] at hT;exact⟨inf,rfl,by simpa using hT⟩
  have h3:=oM hi w
  rw [hsz] at h3
  obtain⟨dst,op,type,pos,after,guard⟩:=o
  cases ho
  refine .inr ⟨rfl,?_⟩
  simp only [execOp,ha,hy]
  simp [go_sem,Instr.storeAt,Instr.sureAddr,storeVar,h3,Value.cells,storeCells,store,Addr.add,Sem.run,hc,hf,hc1,hf1]
theorem LY (i:Nat) (js:List (Nat×Nat)) (x:Nat) (z1 z2:Int) {kd:Int} (hk:(obj O x).kind=kd)
    (K:∀ O2,O2=aH O x (fun o=>{ o with sec:=z1,nano:=z2 })->ak Tryz.prog β N ops (k+1) (dw fr (jF ops k) undef) ((nE hps (qz O2 L js)).set i (.abs (ay (bN O2 L)))) Q)
    (hp:hps[i]?=some (.abs (ay (bN O L))):=by rfl) (hj:uq hps O L js:=by first|exact⟨rfl,trivial⟩|exact⟨rfl,rfl,trivial⟩|exact trivial)
    (ho:∀ junk,Gt Tryz.prog N junk ops fr k=some (⟨L.b x,4,none⟩,.agg #[.int .i64 z1,.int .i64 z2]):=by intro _;kernel_rfl)
    (hn:iX 0 (js.map (·.2))=false:=by rfl) (h0:kd≠0:=by decide):ak Tryz.prog β N ops k fr hps Q:=by
  intro junk w hS
  obtain⟨T,a,y,h1,h2,h3,h4⟩:=LX (ho junk)
  obtain⟨o,g1,g2,g3,g4⟩:=ez h1
  have hx0:(obj O x).kind≠0:=by rw [hk];exact h0
  have Gs:nE hps (qz (aH O x (fun o=>{ o with sec:=z1,nano:=z2 })) L js)=hps:=vG (p:=0) (fun q hq=>by
    match q,hq with
    | 0,hq=>exact absurd rfl hq
    | 1,_=>exact congrArg (fun R=>HP.abs (ay R)) (nH rfl rfl)
    | q+2,_=>exact congrArg (fun R=>HP.abs (ay R)) (nG rfl rfl)) hj hn
  have hlen:∀ o:aT,9<=(iy L x o).length:=fun o=>by unfold iy zl;simp
  obtain⟨s1,⟨v0,c1⟩,f1⟩:=hS.Pz (x:=x) (j:=4) (f:=fun o=>{ o with sec:=z1 }) (u:=.int .i64 z1) hp hx0 rfl rfl (by have:=hlen (obj O x);omega)
  have hi:i < hps.length:=bA hp
  have e1:obj (aH O x (fun o=>{ o with sec:=z1 })) x={ obj O x with sec:=z1 }:=bR
  obtain⟨s2,⟨v1,c2⟩,f2⟩:=s1.Pz (x:=x) (j:=5) (f:=fun o=>{ o with nano:=z2 }) (u:=.int .i64 z2) (i:=i) (O:=aH O x (fun o=>{ o with sec:=z1 })) (by rw [List.getElem?_set,if_pos rfl,if_pos hi]) (by rw [e1];exact hx0) rfl rfl (by have:=hlen (obj (aH O x (fun o=>{ o with sec:=z1 })) x);omega)
  rw [List.set_set,tZ] at s2
  rw [drop_cons g1]
  unfold wpList
  rw [dJ,if_pos g2]
  refine .inl (kH (v:=undef) (w':=_) (by rw [dY];exact Kg g3 h2 h3 h4 c1 f1 c2 f2) ?_)
  rw [dI]
  have hK:=K _ rfl junk _ (by rw [Gs];exact s2)
  rw [← g4] at hK
  exact hK
theorem zI {w:World} {i:Nat} (hS:Sat β hps w) (hp:hps[i]?=some (.abs (ay (cJ O L)))) (hd:(obj O x).kind=2):fW Tryz.prog 9 w (L.m x) (jo L (obj O x).ah) (obj O x).ah.length:=by
  obtain⟨F,hF⟩:=hS.get hp
  obtain⟨G,hG⟩:=ay.at x (show (ay (cJ O L)).h F w from hF)
  rw [oP hd] at hG
  exact hG.1
theorem I6 {w:World} {i:Nat} {o:Oper} {ev:Operand->Value} {a y:Operand} (hS:Sat β hps w) (hp:hps[i]?=some (.abs (ay (cJ O L)))) (hd:(obj O x).kind=2) (hl:aU name (obj O x).ah=r) (h3:o.op=.lookup 174 a y false) (ha:ev a=.map (some (L.m x))) (hy:ev y=.string name) (hsz:name.size<=1048576):p8 Tryz.prog ev o w (Gq L r) w:=by
  have h:=wm (z:=.nilIface) h3 (zI hS hp hd) ha hy AK Tryz.underlying174 (by kernel_rfl) (Dd (by omega))
  rw [sH,hl] at h
  cases r<;>exact h
theorem je (i:Nat) (hd:(obj O x).kind=2) (hl:aU name (obj O x).ah=r) (K:ak Tryz.prog β N ops (k+1) (dw fr (jF ops k) (Gq L r)) hps Q) (hp:hps[i]?=some (.abs (ay (cJ O L))):=by rfl)
    (ho:∀ junk,Cp N junk ops fr k=some (174,L.m x,.string name):=by intro _;kernel_rfl) (hsz:name.size<=1048576:=by omega):ak Tryz.prog β N ops k fr hps Q:=by
  intro junk w hS
  obtain⟨a,y,h1,h2,h3⟩:=oZ (ho junk)
  exact ak.jZ (cP:=hps) (v:=Gq L r) (d:=jF ops k) (op:=.lookup 174 a y false) (fun j=>by
    obtain⟨a',y',h1',_,_⟩:=oZ (ho j)
    obtain⟨o,g1,g2,g3,g4⟩:=ez h1
    obtain⟨o',rC,LZ,tv,L5⟩:=ez h1'
    rw [g1] at rC
    cases rC
    rw [g3] at tv
    cases tv
    exact h1') (fun o junk w ho' hS=>by
    obtain⟨a',y',h1',h2',h3'⟩:=oZ (ho junk)
    obtain⟨o1,g1,g2,g3,g4⟩:=ez h1
    obtain⟨o',rC,LZ,tv,L5⟩:=ez h1'
    rw [g1] at rC
    cases rC
    rw [g3] at tv
    cases tv
    exact⟨w,I6 hS hp hd hl ho' h2' h3' hsz,hS⟩) K junk w hS
theorem rS (i:Nat) (hd:(obj O x).kind=2) (hl:aU name (obj O x).ah=r) (K:aR Tryz.prog β N ops (k+1) (dw fr (jF ops k) (Gq L r)) hps Q) (hp:hps[i]?=some (.abs (ay (cJ O L))):=by rfl)
    (ho:∀ junk,Cp N junk ops fr k=some (174,L.m x,.string name):=by intro _;kernel_rfl) (hsz:name.size<=1048576:=by omega):aR Tryz.prog β N ops k fr hps Q:=by
  intro junk
  obtain⟨a,y,h1,h2,h3⟩:=oZ (ho junk)
  exact aR.jZ (v:=Gq L r) (d:=jF ops k) (op:=.lookup 174 a y false) (fun j=>by
    obtain⟨a',y',h1',_,_⟩:=oZ (ho j)
    obtain⟨o,g1,g2,g3,g4⟩:=ez h1
    obtain⟨o',rC,LZ,tv,L5⟩:=ez h1'
    rw [g1] at rC
    cases rC
    rw [g3] at tv
    cases tv
    exact h1') (fun o junk w ho' hS=>by
    obtain⟨a',y',h1',h2',h3'⟩:=oZ (ho junk)
    obtain⟨o1,g1,g2,g3,g4⟩:=ez h1
    obtain⟨o',rC,LZ,tv,L5⟩:=ez h1'
    rw [g1] at rC
    cases rC
    rw [g3] at tv
    cases tv
    exact I6 hS hp hd hl ho' h2' h3' hsz) K junk
def Kh (N:dF) (junk:Nat->Value) (ops:Array Oper) (fr:Fr) (k:Nat):Option (TypeId×Nat):=
  match fQ N junk ops fr k with
  | some (.call ⟨.builtin .len,xs,ts⟩,_)=>match xs.toList with
    | [x]=>match ts.toList with
      | [t]=>match dH N fr junk x with
        | .map (some b)=>some (t,b)
        | _=>none
      | _=>none
    | _=>none
  | _=>none
theorem Bk {junk:Nat->Value} {T:TypeId} {b:Nat} (h:Kh N junk ops fr k=some (T,b)):∃ a,fQ N junk ops fr k=some (.call ⟨.builtin .len,#[a],#[T]⟩,jF ops k)/\dH N fr junk a=.map (some b):=by
  unfold Kh at h
  repeat' split at h
  all_goals first|(cases h;done)|skip
  rename_i xs ts d h0 _ a h1 _ t' h2 _ b' h3
  cases h
  have:=vH h0
  subst this
  refine⟨a,?_,h3⟩
  rw [h0]
  obtain⟨xs⟩:=xs
  obtain⟨ts⟩:=ts
  cases h1
  cases h2
  rfl
theorem WE (i:Nat) (hd:(obj O x).kind=2) (K:ak Tryz.prog β N ops (k+1) (dw fr (jF ops k) (.int .i64 (((obj O x).ah.length:Nat):Int))) hps Q) (hp:hps[i]?=some (.abs (ay (cJ O L))):=by rfl)
    (ho:∀ junk,Kh N junk ops fr k=some (174,L.m x):=by intro _;kernel_rfl):ak Tryz.prog β N ops k fr hps Q:=by
  obtain⟨a,h1,h2⟩:=Bk (ho (fun _=>undef))
  obtain⟨o,g1,g2,g3,g4⟩:=ez h1
  refine ak.jZ (cP:=hps) (v:=.int .i64 (((obj O x).ah.length:Nat):Int)) (d:=jF ops k) (op:=o.op) (fun j=>?_) (fun o' junk w ho' hS=>?_) K
  ·obtain⟨a',h1',_⟩:=Bk (ho j)
   obtain⟨o',rC,LZ,tv,L5⟩:=ez h1'
   rw [g1] at rC
   cases rC
   rw [tv]
   exact h1'
  obtain⟨a',h1',h2'⟩:=Bk (ho junk)
  obtain⟨o1,rC,LZ,tv,L5⟩:=ez h1'
  rw [g1] at rC
  cases rC
  exact⟨w,zh (ho'.trans tv) rfl (zI hS hp hd) h2' Tryz.underlying174,hS⟩
theorem R9 (i:Nat) (js:List (Nat×Nat)) {t:Th} (hd:(obj O x).kind=2) (hno:aU name (obj O x).ah=none)
    (K:∀ O2,O2=aH O x (fun o=>{ o with ah:=iq name t o.ah })->ak Tryz.prog β N ops (k+1) (dw fr (jF ops k) undef) ((nE hps (qz O2 L js)).set i (.abs (ay (cJ O2 L)))) Q)
    (hp:hps[i]?=some (.abs (ay (cJ O L))):=by rfl) (hj:uq hps O L js:=by first|exact⟨rfl,trivial⟩|exact⟨rfl,rfl,trivial⟩|exact trivial)
    (ho:∀ junk,setAt N junk ops fr k=some (174,L.m x,.string name,dR L t):=by intro _;kernel_rfl) (hn:iX 1 (js.map (·.2))=false:=by rfl) (hsz:name.size<=1048576:=by omega) (hel:(obj O x).ah.length<=1048576:=by omega):ak Tryz.prog β N ops k fr hps Q:=by
  intro junk w hS
  obtain⟨a,y,z,h1,h2,h3,h4⟩:=Oh (ho junk)
  obtain⟨o,g1,g2,g3,g4⟩:=ez h1
  have Gs:nE hps (qz (aH O x (fun o=>{ o with ah:=iq name t o.ah })) L js)=hps:=vG (p:=1) (fun q hq=>by
    match q,hq with
    | 0,_=>exact congrArg (fun R=>HP.abs (ay R)) (FH (es:=fun o=>iq name t o.ah))
    | 1,hq=>exact absurd rfl hq
    | q+2,_=>exact congrArg (fun R=>HP.abs (ay R)) (nG rfl rfl)) hj hn
  obtain⟨w',m1,m2,m3⟩:=(zI hS hp hd).store AK Tryz.underlying174 (by unfold maxLen;omega) (Dd (p:=name) (by omega)) (dR L t)
  have e1:(jo L (obj O x).ah) (.string name.data.toList)=none:=by rw [sH,hno];rfl
  rw [e1,Ni hno] at m2
  have vo:Sat β (hps.set i (.abs (ay (cJ (aH O x (fun o=>{ o with ah:=iq name t o.ah })) L)))) w':=hS.set hp (fun F hF=>ay.step (k:=x) (show (ay (cJ O L)).h F w from hF) (fun y hy=>yc hy) (fun G hG=>by
    rw [oP hd] at hG
    rw [oP (by rw [bR];exact hd),bR,FE]
    exact step_map hG m2 m3))
  rw [drop_cons g1]
  unfold wpList
  rw [dJ,if_pos g2]
  refine .inl (kH (v:=undef) (w':=w') (by
    rw [dY]
    refine .inr ⟨rfl,?_⟩
    obtain⟨dst,op,type,pos,after,guard⟩:=o
    cases g3
    simp only [execOp,h2,h3,h4]
    simp [go_sem,m1]) ?_)
  rw [dI]
  have hK:=K _ rfl junk _ (by rw [Gs];exact vo)
  rw [← g4] at hK
  exact hK
theorem Oi {junk:Nat->Value} {T K0:TypeId} {b:Nat} {key:Value} (h:Kf N junk ops fr k=some (T,K0,b,key)):∃ a y,fQ N junk ops fr k=some (.call ⟨.builtin .delete,#[a,y],#[T,K0]⟩,jF ops k)/\dH N fr junk a=.map (some b)/\dH N fr junk y=key:=by
  unfold Kf at h
  repeat' split at h
  all_goals first|(cases h;done)|skip
  rename_i xs ts d h0 _ a y h1 _ t' K' h2 _ b' h3
  cases h
  have:=vH h0
  subst this
  refine⟨a,y,?_,h3,rfl⟩
  rw [h0]
  obtain⟨xs⟩:=xs
  obtain⟨ts⟩:=ts
  cases h1
  cases h2
  rfl
theorem Sd (i:Nat) (js:List (Nat×Nat)) {t:Th} (hd:(obj O x).kind=2) (wV:aU name (obj O x).ah=some t) (hnt:oO (obj O x).ah)
    (K:∀ O2,O2=aH O x (fun o=>{ o with ah:=iw name o.ah })->ak Tryz.prog β N ops (k+1) (dw fr (jF ops k) (.tuple #[])) ((nE hps (qz O2 L js)).set i (.abs (ay (cJ O2 L)))) Q)
    (hp:hps[i]?=some (.abs (ay (cJ O L))):=by rfl) (hj:uq hps O L js:=by first|exact⟨rfl,trivial⟩|exact⟨rfl,rfl,trivial⟩|exact trivial)
    (ho:∀ junk,Kf N junk ops fr k=some (174,9,L.m x,.string name):=by intro _;kernel_rfl) (hn:iX 1 (js.map (·.2))=false:=by rfl) (hsz:name.size<=1048576:=by omega):ak Tryz.prog β N ops k fr hps Q:=by
  intro junk w hS
  obtain⟨a,y,h1,h2,h3⟩:=Oi (ho junk)
  obtain⟨o,g1,g2,g3,g4⟩:=ez h1
  have Gs:nE hps (qz (aH O x (fun o=>{ o with ah:=iw name o.ah })) L js)=hps:=vG (p:=1) (fun q hq=>by
    match q,hq with
    | 0,_=>exact congrArg (fun R=>HP.abs (ay R)) (FH (es:=fun o=>iw name o.ah))
    | 1,hq=>exact absurd rfl hq
    | q+2,_=>exact congrArg (fun R=>HP.abs (ay R)) (nG rfl rfl)) hj hn
  obtain⟨w',m1,m2,m3⟩:=(zI hS hp hd).drop AK Tryz.underlying174 (Dd (p:=name) (by omega)) o.type
  have e1:(jo L (obj O x).ah) (.string name.data.toList)=some (dR L t):=by rw [sH,wV];rfl
  rw [e1,Nj] at m2
  have hlen:=Nh hnt wV
  have vo:Sat β (hps.set i (.abs (ay (cJ (aH O x (fun o=>{ o with ah:=iw name o.ah })) L)))) w':=hS.set hp (fun F hF=>ay.step (k:=x) (show (ay (cJ O L)).h F w from hF) (fun y hy=>yc hy) (fun G hG=>by
    rw [oP hd] at hG
    rw [oP (by rw [bR];exact hd),bR]
    rw [show (iw name (obj O x).ah).length=(obj O x).ah.length - 1 by omega]
    exact step_map hG m2 m3))
  rw [drop_cons g1]
  unfold wpList
  rw [dJ,if_pos g2]
  refine .inl (kH (v:=.tuple #[]) (w':=w') (by
    rw [dY]
    refine .inl ?_
    obtain⟨dst,op,type,pos,after,guard⟩:=o
    cases g3
    simp only [execOp,resolve,invoke,builtin]
    simp [go_sem,h2,h3,m1]) ?_)
  rw [dI]
  have hK:=K _ rfl junk _ (by rw [Gs];exact vo)
  rw [← g4] at hK
  exact hK
end rules
section after
variable {O O2:ck} {j x:Nat} {f:aT->aT} {kd:Int}
theorem ku (e:O2=aH O j f) (h:(obj O x).kind=kd) (hf:∀ o,(f o).kind=o.kind:=by intro _;rfl):(obj O2 x).kind=kd:=by subst e;exact (j6 hf).trans h
theorem fu {α:Type} (g:aT->α) {v:α} (e:O2=aH O j f) (h:g (obj O x)=v) (hf:∀ o,g (f o)=g o:=by intro _;rfl):g (obj O2 x)=v:=by subst e;exact (dW hf).trans h
end after
end
section
open Go.RowKit Go.Maps
attribute [local irreducible] ak aR af aj
theorem dr {β:Bs} (b:Nat):Spec Tryz.prog β 244 #[vP b] [] (fun v l=>v=vP b/\l=[]):=by
 refine Spec.enter Tryz.func244 rfl Tryz.ntmps244 (Nat.le_of_ble_eq_true rfl) (fun R=>?_)
 refine SR (gK 1 [] [] ?_)
 refine NS (gK 2 [(2,vP b)] [] ?_)
 refine NN (af.ret ?_)
 exact RT (vP b) [0] (⟨rfl,rfl⟩)
theorem nj {β:Bs} (a:Value):Spec Tryz.prog β 245 #[a] [] (fun v l=>v=vI 1/\l=[]):=by
 refine Spec.enter Tryz.func245 rfl Tryz.ntmps245 (Nat.le_of_ble_eq_true rfl) (fun R=>?_)
 refine SR (gK 1 [] [] ?_)
 refine NS (gK 1 [(2,vI 1)] [] ?_)
 refine NN (af.ret ?_)
 exact RT (vI 1) [0] (⟨rfl,rfl⟩)
theorem nk {β:Bs} (a:Value):Spec Tryz.prog β 247 #[a] [] (fun v l=>v=vI 2/\l=[]):=by
 refine Spec.enter Tryz.func247 rfl Tryz.ntmps247 (Nat.le_of_ble_eq_true rfl) (fun R=>?_)
 refine SR (gK 1 [] [] ?_)
 refine NS (gK 1 [(2,vI 2)] [] ?_)
 refine NN (af.ret ?_)
 exact RT (vI 2) [0] (⟨rfl,rfl⟩)
theorem oC {β:Bs} (a:Value):Spec Tryz.prog β 246 #[a] [] (fun v l=>v=vI 3/\l=[]):=by
 refine Spec.enter Tryz.func246 rfl Tryz.ntmps246 (Nat.le_of_ble_eq_true rfl) (fun R=>?_)
 refine SR (gK 1 [] [] ?_)
 refine NS (gK 1 [(2,vI 3)] [] ?_)
 refine NN (af.ret ?_)
 exact RT (vI 3) [0] (⟨rfl,rfl⟩)
theorem I7 {β:Bs} (O:ck) (L:HL) (d:Nat) (hkd:(obj O d).kind=2) (name:ByteArray) (hsz:name.size<=1048576) (hno:aU name (obj O d).ah=none) (hel:(obj O d).ah.length<=1048576) (t:Th) (hkt:(obj O t.k).kind=t.kind) (h3:t.kind=1\/t.kind=2\/t.kind=3) (hb:0<=(obj O t.k).links/\(obj O t.k).links<=1048576) :
    Spec Tryz.prog β 78 #[vP (L.b d),.string name,(dR L t)] [.abs (ay (bN O L)),.abs (ay (cJ O L))] (fun v l=>v=.tuple #[]/\l=[.abs (ay (bN (pQ O d name t) L)),.abs (ay (cJ (pQ O d name t) L))]):=by
 refine Spec.enter Tryz.func78 rfl Tryz.ntmps78 (Nat.le_of_ble_eq_true rfl) (fun R=>?_)
 refine af.seq ?_
 obtain⟨tk,kd⟩:=t;simp only at hkt h3;rcases h3 with rfl|rfl|rfl
 ·replace hkt:(obj O tk).kind=1:=hkt
  replace hb:0<=(obj O tk).links/\(obj O tk).links<=1048576:=hb
  refine af.region (gK 6 [(11,.map (some (L.m d))),(12,.string name),(13,.iface 162 (vP (L.b tk)))] [(3,v_ 0 (bH L hkd))] ?_)
  refine R9 1 [(0,0)] (t:=⟨tk,1⟩) hkd hno (fun cG cA=>?_)
  have kC:=ku cA hkd
  have nu:=ku cA hkt
  have hf3:(obj cG tk).links=(obj O tk).links:=fu aT.links cA rfl
  refine NS (gK 1 [(14,.iface 162 (vP (L.b tk)))] [] ?_)
  refine gL [] (dr (L.b tk)) ?_
  rintro _ _ ⟨rfl,rfl⟩
  refine gK 6 [(19,vI ((obj cG tk).links+1)),(21,.pointer (some ⟨(L.b tk),6,none⟩))] [(2,v_ 0 (nP L nu)),(3,p_ ⟨[],none,none,none,some (vI ((obj cG tk).links+1))⟩ [(Value.int .i64 (IntKind.wrap .i64 ((obj cG tk).links+1)))=(.int .i64 ((obj cG tk).links+1))] ⟨aY (by omega) (by omega) (by omega),trivial⟩)] ?_
  refine tu 0 [(1,1)] tk 6 (fun o=>{ o with links:=o.links+1 }) nu (fun eM dD=>?_)
  have yM:=ku dD kC
  have yN:=ku dD nu
  refine NS (gK 7 [(6,.pointer none),(7,.bool false)] [] ?_)
  refine NS (gK 1 [(27,.bool false)] [] ?_)
  refine NN (CF (af.skip ?_))
  exact RF (l:=[.abs (ay (bN eM L)),.abs (ay (cJ eM L))]) (.tuple #[]) [0,1,2] (⟨rfl,by subst dD;subst cA;rfl⟩)
 ·replace hkt:(obj O tk).kind=2:=hkt
  replace hb:0<=(obj O tk).links/\(obj O tk).links<=1048576:=hb
  refine af.region (gK 6 [(11,.map (some (L.m d))),(12,.string name),(13,.iface 169 (vP (L.b tk)))] [(3,v_ 0 (bH L hkd))] ?_)
  refine R9 1 [(0,0)] (t:=⟨tk,2⟩) hkd hno (fun cG cA=>?_)
  have Oj:=ku cA hkd
  have Ki:=ku cA hkt
  have XU:(obj cG tk).links=(obj O tk).links:=fu aT.links cA rfl
  refine NS (gK 1 [(14,.iface 169 (vP (L.b tk)))] [] ?_)
  refine gL [] (dr (L.b tk)) ?_
  rintro _ _ ⟨rfl,rfl⟩
  refine gK 6 [(19,vI ((obj cG tk).links+1)),(21,.pointer (some ⟨(L.b tk),6,none⟩))] [(2,v_ 0 (nP L Ki)),(3,p_ ⟨[],none,none,none,some (vI ((obj cG tk).links+1))⟩ [(Value.int .i64 (IntKind.wrap .i64 ((obj cG tk).links+1)))=(.int .i64 ((obj cG tk).links+1))] ⟨aY (by omega) (by omega) (by omega),trivial⟩)] ?_
  refine tu 0 [(1,1)] tk 6 (fun o=>{ o with links:=o.links+1 }) Ki (fun eM dD=>?_)
  have Dx:=ku dD Oj
  have Kj:=ku dD Ki
  refine NS (gK 7 [(6,vP (L.b tk)),(7,.bool true)] [] ?_)
  refine NS (gK 1 [(27,.bool true)] [] ?_)
  refine NN (CT (af.region (gK 4 [(29,vP (L.b d)),(31,.pointer (some ⟨(L.b tk),10,none⟩))] [] ?_)))
  refine UA 0 [(1,1)] tk (some d) Kj (fun vJ mM=>?_)
  have PA:=ku mM Dx
  have Xf:=ku mM Kj
  refine NL ?_
  exact RF (l:=[.abs (ay (bN vJ L)),.abs (ay (cJ vJ L))]) (.tuple #[]) [0,1,2] (⟨rfl,by subst mM;subst dD;subst cA;rfl⟩)
 replace hkt:(obj O tk).kind=3:=hkt
 replace hb:0<=(obj O tk).links/\(obj O tk).links<=1048576:=hb
 refine af.region (gK 6 [(11,.map (some (L.m d))),(12,.string name),(13,.iface 166 (vP (L.b tk)))] [(3,v_ 0 (bH L hkd))] ?_)
 refine R9 1 [(0,0)] (t:=⟨tk,3⟩) hkd hno (fun cG cA=>?_)
 have TU:=ku cA hkd
 have Kk:=ku cA hkt
 have Xx:(obj cG tk).links=(obj O tk).links:=fu aT.links cA rfl
 refine NS (gK 1 [(14,.iface 166 (vP (L.b tk)))] [] ?_)
 refine gL [] (dr (L.b tk)) ?_
 rintro _ _ ⟨rfl,rfl⟩
 refine gK 6 [(19,vI ((obj cG tk).links+1)),(21,.pointer (some ⟨(L.b tk),6,none⟩))] [(2,v_ 0 (nP L Kk)),(3,p_ ⟨[],none,none,none,some (vI ((obj cG tk).links+1))⟩ [(Value.int .i64 (IntKind.wrap .i64 ((obj cG tk).links+1)))=(.int .i64 ((obj cG tk).links+1))] ⟨aY (by omega) (by omega) (by omega),trivial⟩)] ?_
 refine tu 0 [(1,1)] tk 6 (fun o=>{ o with links:=o.links+1 }) Kk (fun eM dD=>?_)
 have Cr:=ku dD TU
 have TV:=ku dD Kk
 refine NS (gK 7 [(6,.pointer none),(7,.bool false)] [] ?_)
 refine NS (gK 1 [(27,.bool false)] [] ?_)
 refine NN (CF (af.skip ?_))
 exact RF (l:=[.abs (ay (bN eM L)),.abs (ay (cJ eM L))]) (.tuple #[]) [0,1,2] (⟨rfl,by subst dD;subst cA;rfl⟩)
theorem jk {β:Bs} (X:FM) (f m t:Nat) (hX:0<=X.ah/\X.ah<=1048576/\-1125899906842624<=X.used/\X.used<=1125899906842624/\0<=X.last/\X.last<=1125899906842624) (O:ck) (L:HL) (d:Nat) (hkd:(obj O d).kind=2) (name:ByteArray) (hsz:name.size<=1048576) (hno:aU name (obj O d).ah=none) (hel:(obj O d).ah.length<=1048576) (th:Th) (hkt:(obj O th.k).kind=th.kind) (h3:th.kind=1\/th.kind=2\/th.kind=3) (hb:0<=(obj O th.k).links/\(obj O th.k).links<=1048576) :
    Spec Tryz.prog β 196 #[vP f,vP (L.b d),.string name,(dR L th)] [.blk f [vI (X.cN),vI (X.cB),vI (X.cH),vI (X.cS),vI (X.cZ),.map (some m),vP t,vI (X.last),vI (X.ah),vI (X.used)] 154,.abs (ay (bN O L)),.abs (ay (cJ O L))] (fun v l=>v=.tuple #[]/\l=[.blk f [vI (X.cN),vI (X.cB),vI (X.cH),vI (X.cS),vI (X.cZ),.map (some m),vP t,vI (X.last),vI (X.ah+1),vI (X.used)] 154,.abs (ay (bN (cV X O d name th) L)),.abs (ay (cJ (cV X O d name th) L))]):=by
 refine Spec.enter Tryz.func196 rfl Tryz.ntmps196 (Nat.le_of_ble_eq_true rfl) (fun R=>?_)
 refine af.seq ?_
 skip
 refine af.region (gK 3 [(8,vP (L.b d)),(9,.string name),(10,(dR L th))] [] ?_)
 refine gL [1,2] (I7 O L d hkd name hsz hno hel th hkt h3 hb) ?_
 rintro _ _ ⟨rfl,rfl⟩
 refine NS ?_
 have Cs:(obj (pQ O d name th) d).kind=2:=(yh).trans (hkd)
 generalize cA:(pQ O d name th)=cG at Cs ⊢
 refine gK 9 [(17,.agg #[vI (X.cS),vI (X.cZ)]),(20,.pointer (some ⟨(L.b d),4,none⟩))] [(5,A_ 2 f 2)] ?_
 refine LY 0 [(1,1)] d X.cS X.cZ Cs (fun eM dD=>?_)
 have Xg:=ku dD Cs
 refine NN (af.region (gC 8 [] [(3,a_ 2 f),(4,p_ ⟨[],none,none,none,some (vI (X.ah+1))⟩ [(Value.int .i64 (IntKind.wrap .i64 (X.ah+1)))=(.int .i64 (X.ah+1))] ⟨aY (by omega) (by omega) (by omega),trivial⟩),(7,a_ 2 f)] [(2,[(8,vI (X.ah+1))])] ?_))
 refine NL ?_
 exact RF (l:=[.blk f [vI (X.cN),vI (X.cB),vI (X.cH),vI (X.cS),vI (X.cZ),.map (some m),vP t,vI (X.last),vI (X.ah+1),vI (X.used)] 154,.abs (ay (bN eM L)),.abs (ay (cJ eM L))]) (.tuple #[]) [2,0,1,3] (⟨rfl,by subst dD;subst cA;rfl⟩)
theorem jX {β:Bs} (X:FM) (f m t:Nat) (hX:0<=X.ah/\X.ah<=1048576/\-1125899906842624<=X.used/\X.used<=1125899906842624/\0<=X.last/\X.last<=1125899906842624) (O:ck) (L:HL) (d:Nat) (hkd:(obj O d).kind=2) (name:ByteArray) (hsz:name.size<=1048576) (th:Th) (hkt:(obj O th.k).kind=th.kind) (h3:th.kind=1\/th.kind=2\/th.kind=3) (wV:aU name (obj O d).ah=some th) (hnt:oO (obj O d).ah) (_:(obj O d).ah.length<=1048576) (hb:0<=(obj O th.k).links/\(obj O th.k).links<=1048576) :
    Spec Tryz.prog β 210 #[vP f,vP (L.b d),.string name] [.blk f [vI (X.cN),vI (X.cB),vI (X.cH),vI (X.cS),vI (X.cZ),.map (some m),vP t,vI (X.last),vI (X.ah),vI (X.used)] 154,.abs (ay (bN O L)),.abs (ay (cJ O L))] (fun v l=>v=dR L th/\l=[.blk f [vI (X.cN),vI (X.cB),vI (X.cH),vI (X.cS),vI (X.cZ),.map (some m),vP t,vI (X.last),vI (X.ah - 1),vI (X.used)] 154,.abs (ay (bN (aS X O d name th) L)),.abs (ay (cJ (aS X O d name th) L))]):=by
 refine Spec.enter Tryz.func210 rfl Tryz.ntmps210 (Nat.le_of_ble_eq_true rfl) (fun R=>?_)
 refine af.seq ?_
 obtain⟨tk,kd⟩:=th;simp only at hkt h3;rcases h3 with rfl|rfl|rfl
 ·replace hkt:(obj O tk).kind=1:=hkt
  replace hb:0<=(obj O tk).links/\(obj O tk).links<=1048576:=hb
  refine af.region (gK 1 [] [] ?_)
  refine NS (gK 5 [(11,.map (some (L.m d))),(12,.string name)] [(3,v_ 1 (bH L hkd))] ?_)
  refine je 2 hkd wV ?_
  refine gK 1 [(7,.iface 162 (vP (L.b tk)))] [] ?_
  refine NS (gK 5 [(17,.map (some (L.m d))),(18,.string name)] [(3,v_ 1 (bH L hkd))] ?_)
  refine Sd 2 [(1,0)] hkd wV hnt (fun cG cA=>?_)
  have PB:=ku cA hkd
  have TW:=ku cA hkt
  have VL:(obj cG tk).links=(obj O tk).links:=fu aT.links cA rfl
  refine NS (gK 9 [(24,.agg #[vI (X.cS),vI (X.cZ)]),(27,.pointer (some ⟨(L.b d),4,none⟩))] [(5,A_ 0 f 2)] ?_)
  refine LY 1 [(2,1)] d X.cS X.cZ PB (fun eM dD=>?_)
  have PD:=ku dD PB
  have E4:=ku dD TW
  have Xy:(obj eM tk).links=(obj O tk).links:=fu aT.links dD VL
  refine NS (gC 8 [] [(3,a_ 0 f),(4,p_ ⟨[],none,none,none,some (vI (X.ah - 1))⟩ [(Value.int .i64 (IntKind.wrap .i64 (X.ah - 1)))=(.int .i64 (X.ah - 1))] ⟨aY (by omega) (by omega) (by omega),trivial⟩),(7,a_ 0 f)] [(0,[(8,vI (X.ah - 1))])] ?_)
  refine NS (gK 1 [(35,.iface 162 (vP (L.b tk)))] [] ?_)
  refine gL [] (dr (L.b tk)) ?_
  rintro _ _ ⟨rfl,rfl⟩
  refine gK 6 [(40,vI ((obj eM tk).links - 1)),(42,.pointer (some ⟨(L.b tk),6,none⟩))] [(2,v_ 1 (nP L E4)),(3,p_ ⟨[],none,none,none,some (vI ((obj eM tk).links - 1))⟩ [(Value.int .i64 (IntKind.wrap .i64 ((obj eM tk).links - 1)))=(.int .i64 ((obj eM tk).links - 1))] ⟨aY (by omega) (by omega) (by omega),trivial⟩)] ?_
  refine tu 1 [(2,1)] tk 6 (fun o=>{ o with links:=o.links - 1 }) E4 (fun vJ mM=>?_)
  have Xh:=ku mM PD
  have Xi:=ku mM E4
  refine NS (gK 2 [(6,.iface 162 (vP (L.b tk)))] [] ?_)
  refine NN (af.ret ?_)
  exact RT (l:=[.blk f [vI (X.cN),vI (X.cB),vI (X.cH),vI (X.cS),vI (X.cZ),.map (some m),vP t,vI (X.last),vI (X.ah - 1),vI (X.used)] 154,.abs (ay (bN vJ L)),.abs (ay (cJ vJ L))]) (.iface 162 (vP (L.b tk))) [0,1,2,3] (⟨rfl,by subst mM;subst dD;subst cA;rfl⟩)
 ·replace hkt:(obj O tk).kind=2:=hkt
  replace hb:0<=(obj O tk).links/\(obj O tk).links<=1048576:=hb
  refine af.region (gK 1 [] [] ?_)
  refine NS (gK 5 [(11,.map (some (L.m d))),(12,.string name)] [(3,v_ 1 (bH L hkd))] ?_)
  refine je 2 hkd wV ?_
  refine gK 1 [(7,.iface 169 (vP (L.b tk)))] [] ?_
  refine NS (gK 5 [(17,.map (some (L.m d))),(18,.string name)] [(3,v_ 1 (bH L hkd))] ?_)
  refine Sd 2 [(1,0)] hkd wV hnt (fun cG cA=>?_)
  have PE:=ku cA hkd
  have TY:=ku cA hkt
  have VN:(obj cG tk).links=(obj O tk).links:=fu aT.links cA rfl
  refine NS (gK 9 [(24,.agg #[vI (X.cS),vI (X.cZ)]),(27,.pointer (some ⟨(L.b d),4,none⟩))] [(5,A_ 0 f 2)] ?_)
  refine LY 1 [(2,1)] d X.cS X.cZ PE (fun eM dD=>?_)
  have T9:=ku dD PE
  have Kl:=ku dD TY
  have Xz:(obj eM tk).links=(obj O tk).links:=fu aT.links dD VN
  refine NS (gC 8 [] [(3,a_ 0 f),(4,p_ ⟨[],none,none,none,some (vI (X.ah - 1))⟩ [(Value.int .i64 (IntKind.wrap .i64 (X.ah - 1)))=(.int .i64 (X.ah - 1))] ⟨aY (by omega) (by omega) (by omega),trivial⟩),(7,a_ 0 f)] [(0,[(8,vI (X.ah - 1))])] ?_)
  refine NS (gK 1 [(35,.iface 169 (vP (L.b tk)))] [] ?_)
  refine gL [] (dr (L.b tk)) ?_
  rintro _ _ ⟨rfl,rfl⟩
  refine gK 6 [(40,vI ((obj eM tk).links - 1)),(42,.pointer (some ⟨(L.b tk),6,none⟩))] [(2,v_ 1 (nP L Kl)),(3,p_ ⟨[],none,none,none,some (vI ((obj eM tk).links - 1))⟩ [(Value.int .i64 (IntKind.wrap .i64 ((obj eM tk).links - 1)))=(.int .i64 ((obj eM tk).links - 1))] ⟨aY (by omega) (by omega) (by omega),trivial⟩)] ?_
  refine tu 1 [(2,1)] tk 6 (fun o=>{ o with links:=o.links - 1 }) Kl (fun vJ mM=>?_)
  have Xj:=ku mM T9
  have Xk:=ku mM Kl
  refine NS (gK 2 [(6,.iface 169 (vP (L.b tk)))] [] ?_)
  refine NN (af.ret ?_)
  exact RT (l:=[.blk f [vI (X.cN),vI (X.cB),vI (X.cH),vI (X.cS),vI (X.cZ),.map (some m),vP t,vI (X.last),vI (X.ah - 1),vI (X.used)] 154,.abs (ay (bN vJ L)),.abs (ay (cJ vJ L))]) (.iface 169 (vP (L.b tk))) [0,1,2,3] (⟨rfl,by subst mM;subst dD;subst cA;rfl⟩)
 replace hkt:(obj O tk).kind=3:=hkt
 replace hb:0<=(obj O tk).links/\(obj O tk).links<=1048576:=hb
 refine af.region (gK 1 [] [] ?_)
 refine NS (gK 5 [(11,.map (some (L.m d))),(12,.string name)] [(3,v_ 1 (bH L hkd))] ?_)
 refine je 2 hkd wV ?_
 refine gK 1 [(7,.iface 166 (vP (L.b tk)))] [] ?_
 refine NS (gK 5 [(17,.map (some (L.m d))),(18,.string name)] [(3,v_ 1 (bH L hkd))] ?_)
 refine Sd 2 [(1,0)] hkd wV hnt (fun cG cA=>?_)
 have PF:=ku cA hkd
 have Ua:=ku cA hkt
 have VO:(obj cG tk).links=(obj O tk).links:=fu aT.links cA rfl
 refine NS (gK 9 [(24,.agg #[vI (X.cS),vI (X.cZ)]),(27,.pointer (some ⟨(L.b d),4,none⟩))] [(5,A_ 0 f 2)] ?_)
 refine LY 1 [(2,1)] d X.cS X.cZ PF (fun eM dD=>?_)
 have Ub:=ku dD PF
 have Km:=ku dD Ua
 have XA:(obj eM tk).links=(obj O tk).links:=fu aT.links dD VO
 refine NS (gC 8 [] [(3,a_ 0 f),(4,p_ ⟨[],none,none,none,some (vI (X.ah - 1))⟩ [(Value.int .i64 (IntKind.wrap .i64 (X.ah - 1)))=(.int .i64 (X.ah - 1))] ⟨aY (by omega) (by omega) (by omega),trivial⟩),(7,a_ 0 f)] [(0,[(8,vI (X.ah - 1))])] ?_)
 refine NS (gK 1 [(35,.iface 166 (vP (L.b tk)))] [] ?_)
 refine gL [] (dr (L.b tk)) ?_
 rintro _ _ ⟨rfl,rfl⟩
 refine gK 6 [(40,vI ((obj eM tk).links - 1)),(42,.pointer (some ⟨(L.b tk),6,none⟩))] [(2,v_ 1 (nP L Km)),(3,p_ ⟨[],none,none,none,some (vI ((obj eM tk).links - 1))⟩ [(Value.int .i64 (IntKind.wrap .i64 ((obj eM tk).links - 1)))=(.int .i64 ((obj eM tk).links - 1))] ⟨aY (by omega) (by omega) (by omega),trivial⟩)] ?_
 refine tu 1 [(2,1)] tk 6 (fun o=>{ o with links:=o.links - 1 }) Km (fun vJ mM=>?_)
 have Xl:=ku mM Ub
 have Xm:=ku mM Km
 refine NS (gK 2 [(6,.iface 166 (vP (L.b tk)))] [] ?_)
 refine NN (af.ret ?_)
 exact RT (l:=[.blk f [vI (X.cN),vI (X.cB),vI (X.cH),vI (X.cS),vI (X.cZ),.map (some m),vP t,vI (X.last),vI (X.ah - 1),vI (X.used)] 154,.abs (ay (bN vJ L)),.abs (ay (cJ vJ L))]) (.iface 166 (vP (L.b tk))) [0,1,2,3] (⟨rfl,by subst mM;subst dD;subst cA;rfl⟩)
end
section
open Go.RowKit Go.Maps bF aB
attribute [local irreducible] ak aR af aj
abbrev L6 (f:Nat) (X:FM) (m:Nat) (t):=(.blk f [vI (X.cN),vI (X.cB),vI (X.cH),vI (X.cS),vI (X.cZ),.map (some m),vP t,vI (X.last),vI (X.ah),vI (X.used)] 154:HP)
theorem Ol {β:Bs} (X:FM) (f m t:Nat) (hX:0<=X.ah/\X.ah<=1048576/\-1125899906842624<=X.used/\X.used<=1125899906842624/\0<=X.last/\X.last<=1125899906842624) (O:ck) (L:HL) (idx:Used Th) (L7:aB.dm (keys idx)) (th:Th) (hkt:(obj O th.k).kind=th.kind) (h3:th.kind=1\/th.kind=2\/th.kind=3) (hg:(obj O th.k).gone=true) (ho:(obj O th.k).opens=0) (hix:aB.get idx (obj O th.k).id=some th) (hw:(Lit.int .i64 (obj O th.k).id).wf=true) (yO:(obj O th.k).data.length<=1125899906842624) :
    Spec Tryz.prog β 202 #[vP f,(dR L th)] [pO O L,pF f m t X,pI m L idx] (fun v l=>v=.tuple #[]/\l=[pO O L,pF f m t { X with used:=if th.kind=1 then X.used - (obj O th.k).data.length else X.used },pI m L (del (obj O th.k).id idx)]):=by
 refine Spec.enter Tryz.func202 rfl Tryz.ntmps202 (Nat.le_of_ble_eq_true rfl) (fun R=>?_)
 refine af.seq ?_
 obtain⟨tk,kd⟩:=th;simp only at hkt h3;rcases h3 with rfl|rfl|rfl
 ·replace hkt:(obj O tk).kind=1:=hkt
  replace hg:(obj O tk).gone=true:=hg
  replace ho:(obj O tk).opens=0:=ho
  replace hix:aB.get idx (obj O tk).id=some _:=hix
  replace hw:(Lit.int .i64 (obj O tk).id).wf=true:=hw
  have hdl:=mI L7 (get_some hix)
  replace yO:(obj O tk).data.length<=1125899906842624:=yO
  refine af.region (gK 1 [(7,.iface 162 (vP (L.b tk)))] [] ?_)
  refine gL [] (dr (L.b tk)) ?_
  rintro _ _ ⟨rfl,rfl⟩
  refine gK 1 [(4,vP (L.b tk))] [] ?_
  refine NN (af.seq (SR (gK 6 [(14,.bool (!(obj O tk).gone))] [(3,v_ 0 (oh L hkt))] ?_)))
  refine ak.om 14 (!(obj O tk).gone) (fun _=>by kernel_rfl) (fun jN=>?_) (fun jN=>?_)
  ·exact absurd jN (by simp [hg])
  refine gK 6 [(20,.bool (decide (((obj O tk).opens:Int) > (0:Int))))] [(3,v_ 0 (kE L hkt))] ?_
  refine NN (af.bh (p:=((obj O tk).opens:Int) > (0:Int)) (fun _=>by kernel_rfl) (fun j9=>?_) (fun j9=>?_))
  ·exact absurd j9 (by omega)
  refine af.skip (NX (af.seq (af.bU (S:=[pO O L,pF f m t X,pI m L idx,.abs R]) [0,1,2,3,4,5,6,7,8] 8 [0,1,2,3] (by kernel_rfl) (by kernel_rfl) rfl (by kernel_rfl) ?_)))
  refine gR 0 [8] [(0,vP f),(1,.iface 162 (vP (L.b tk))),(24,.map (some m)),(28,vI ((obj O tk).id))] [0,1,2,3,4,5,6,7] [(3,a_ 1 f),(7,v_ 0 (rJ L hkt))] ?_
  refine aO.last rfl rfl ?_
  refine ak.Bx 2 (d:=none) (t:=151) (K:=3) (E:=156) (b:=m) (n:=idx.length) (f:=(bg (bn L idx))) (x:=(.tmp 24)) (ix:=(.tmp 28)) (key:=.int .i64 ((obj O tk).id)) (kl:=(.int .i64 (obj O tk).id)) (n':=(idx.length - 1)) (f':=(bg (bn L (del (obj O tk).id idx)))) (ats:=#[151,3]) (fun _=>by kernel_rfl) (by kernel_rfl) (fun _=>by kernel_rfl) (fun _=>by kernel_rfl) rfl eE Tryz.underlying151 (iR hw) (by rw [fP,hix];rfl) (Dj) ?_
  refine NL (aj.np (NX (SR ?_)))
  refine gK 7 [(5,vP (L.b tk)),(6,.bool true)] [] ?_
  refine NS (gK 1 [(34,.bool true)] [] ?_)
  refine NN (CT (af.bU (S:=[pO O L,pF f m t X,.abs (aP Tryz.prog 3 m (bg (bn L (del (obj O tk).id idx))) (idx.length - 1)),.abs R]) [0,1,2,3,4,5,6,7,8,9,10,11,12] 12 [0,1,2,3] (by kernel_rfl) (by kernel_rfl) rfl (by kernel_rfl) ?_))
  refine gR 0 [12] [(44,vI (X.used - (((obj O tk).data.length:Nat):Int))),(46,.pointer (some ⟨f,9,none⟩))] [0,1,2,3,4,5,6,7,8,9,10,11] [(3,a_ 1 f),(7,v_ 0 (Gp L hkt)),(9,p_ ⟨[],none,none,none,some (vI (X.used - (((obj O tk).data.length:Nat):Int)))⟩ [(Value.int .i64 (IntKind.wrap .i64 (X.used - (((obj O tk).data.length:Nat):Int))))=(.int .i64 (X.used - (((obj O tk).data.length:Nat):Int)))] ⟨aY (by omega) (by omega) (by omega),trivial⟩)] ?_
  refine aO.last rfl rfl ?_
  refine gC 1 [] [(0,a_ 1 f)] [(1,[(9,vI (X.used - (((obj O tk).data.length:Nat):Int)))])] ?_
  refine NL (aj.np ?_)
  refine aj.dN [(2,.abs (aP Tryz.prog 3 m (bg (bn L (del (obj O tk).id idx))) ((del (obj O tk).id idx).length)))] (fun w hS=>by rw [show (del (obj O tk).id idx).length=idx.length - 1 by omega];exact hS) ?_
  exact RF (.tuple #[]) [0,1,2,3] (⟨rfl,rfl⟩)
 ·replace hkt:(obj O tk).kind=2:=hkt
  replace hg:(obj O tk).gone=true:=hg
  replace ho:(obj O tk).opens=0:=ho
  replace hix:aB.get idx (obj O tk).id=some _:=hix
  replace hw:(Lit.int .i64 (obj O tk).id).wf=true:=hw
  have hdl:=mI L7 (get_some hix)
  replace yO:(obj O tk).data.length<=1125899906842624:=yO
  refine af.region (gK 1 [(7,.iface 169 (vP (L.b tk)))] [] ?_)
  refine gL [] (dr (L.b tk)) ?_
  rintro _ _ ⟨rfl,rfl⟩
  refine gK 1 [(4,vP (L.b tk))] [] ?_
  refine NN (af.seq (SR (gK 6 [(14,.bool (!(obj O tk).gone))] [(3,v_ 0 (oh L hkt))] ?_)))
  refine ak.om 14 (!(obj O tk).gone) (fun _=>by kernel_rfl) (fun jN=>?_) (fun jN=>?_)
  ·exact absurd jN (by simp [hg])
  refine gK 6 [(20,.bool (decide (((obj O tk).opens:Int) > (0:Int))))] [(3,v_ 0 (kE L hkt))] ?_
  refine NN (af.bh (p:=((obj O tk).opens:Int) > (0:Int)) (fun _=>by kernel_rfl) (fun j9=>?_) (fun j9=>?_))
  ·exact absurd j9 (by omega)
  refine af.skip (NX (af.seq (af.bU (S:=[pO O L,pF f m t X,pI m L idx,.abs R]) [0,1,2,3,4,5,6,7,8] 8 [0,1,2,3] (by kernel_rfl) (by kernel_rfl) rfl (by kernel_rfl) ?_)))
  refine gR 0 [8] [(0,vP f),(1,.iface 169 (vP (L.b tk))),(24,.map (some m)),(28,vI ((obj O tk).id))] [0,1,2,3,4,5,6,7] [(3,a_ 1 f),(7,v_ 0 (rJ L hkt))] ?_
  refine aO.last rfl rfl ?_
  refine ak.Bx 2 (d:=none) (t:=151) (K:=3) (E:=156) (b:=m) (n:=idx.length) (f:=(bg (bn L idx))) (x:=(.tmp 24)) (ix:=(.tmp 28)) (key:=.int .i64 ((obj O tk).id)) (kl:=(.int .i64 (obj O tk).id)) (n':=(idx.length - 1)) (f':=(bg (bn L (del (obj O tk).id idx)))) (ats:=#[151,3]) (fun _=>by kernel_rfl) (by kernel_rfl) (fun _=>by kernel_rfl) (fun _=>by kernel_rfl) rfl eE Tryz.underlying151 (iR hw) (by rw [fP,hix];rfl) (Dj) ?_
  refine NL (aj.np (NX (SR ?_)))
  refine gK 7 [(5,.pointer none),(6,.bool false)] [] ?_
  refine NS (gK 1 [(34,.bool false)] [] ?_)
  refine NN (CF (af.skip (aj.dN [(2,.abs (aP Tryz.prog 3 m (bg (bn L (del (obj O tk).id idx))) ((del (obj O tk).id idx).length)))] (fun w hS=>by rw [show (del (obj O tk).id idx).length=idx.length - 1 by omega];exact hS) ?_)))
  exact RF (.tuple #[]) [0,1,2,3] (⟨rfl,rfl⟩)
 replace hkt:(obj O tk).kind=3:=hkt
 replace hg:(obj O tk).gone=true:=hg
 replace ho:(obj O tk).opens=0:=ho
 replace hix:aB.get idx (obj O tk).id=some _:=hix
 replace hw:(Lit.int .i64 (obj O tk).id).wf=true:=hw
 have hdl:=mI L7 (get_some hix)
 replace yO:(obj O tk).data.length<=1125899906842624:=yO
 refine af.region (gK 1 [(7,.iface 166 (vP (L.b tk)))] [] ?_)
 refine gL [] (dr (L.b tk)) ?_
 rintro _ _ ⟨rfl,rfl⟩
 refine gK 1 [(4,vP (L.b tk))] [] ?_
 refine NN (af.seq (SR (gK 6 [(14,.bool (!(obj O tk).gone))] [(3,v_ 0 (oh L hkt))] ?_)))
 refine ak.om 14 (!(obj O tk).gone) (fun _=>by kernel_rfl) (fun jN=>?_) (fun jN=>?_)
 ·exact absurd jN (by simp [hg])
 refine gK 6 [(20,.bool (decide (((obj O tk).opens:Int) > (0:Int))))] [(3,v_ 0 (kE L hkt))] ?_
 refine NN (af.bh (p:=((obj O tk).opens:Int) > (0:Int)) (fun _=>by kernel_rfl) (fun j9=>?_) (fun j9=>?_))
 ·exact absurd j9 (by omega)
 refine af.skip (NX (af.seq (af.bU (S:=[pO O L,pF f m t X,pI m L idx,.abs R]) [0,1,2,3,4,5,6,7,8] 8 [0,1,2,3] (by kernel_rfl) (by kernel_rfl) rfl (by kernel_rfl) ?_)))
 refine gR 0 [8] [(0,vP f),(1,.iface 166 (vP (L.b tk))),(24,.map (some m)),(28,vI ((obj O tk).id))] [0,1,2,3,4,5,6,7] [(3,a_ 1 f),(7,v_ 0 (rJ L hkt))] ?_
 refine aO.last rfl rfl ?_
 refine ak.Bx 2 (d:=none) (t:=151) (K:=3) (E:=156) (b:=m) (n:=idx.length) (f:=(bg (bn L idx))) (x:=(.tmp 24)) (ix:=(.tmp 28)) (key:=.int .i64 ((obj O tk).id)) (kl:=(.int .i64 (obj O tk).id)) (n':=(idx.length - 1)) (f':=(bg (bn L (del (obj O tk).id idx)))) (ats:=#[151,3]) (fun _=>by kernel_rfl) (by kernel_rfl) (fun _=>by kernel_rfl) (fun _=>by kernel_rfl) rfl eE Tryz.underlying151 (iR hw) (by rw [fP,hix];rfl) (Dj) ?_
 refine NL (aj.np (NX (SR ?_)))
 refine gK 7 [(5,.pointer none),(6,.bool false)] [] ?_
 refine NS (gK 1 [(34,.bool false)] [] ?_)
 refine NN (CF (af.skip (aj.dN [(2,.abs (aP Tryz.prog 3 m (bg (bn L (del (obj O tk).id idx))) ((del (obj O tk).id idx).length)))] (fun w hS=>by rw [show (del (obj O tk).id idx).length=idx.length - 1 by omega];exact hS) ?_)))
 exact RF (.tuple #[]) [0,1,2,3] (⟨rfl,rfl⟩)
theorem Kn {β:Bs} (O:ck) (L:HL) (f:Nat) (th:Th) (hkt:(obj O th.k).kind=th.kind) (h3:th.kind=1\/th.kind=2\/th.kind=3) (hg:(obj O th.k).gone=false\/0 < (obj O th.k).opens) :
    Spec Tryz.prog β 202 #[vP f,(dR L th)] [pO O L] (fun v l=>v=.tuple #[]/\l=[pO O L]):=by
 refine Spec.enter Tryz.func202 rfl Tryz.ntmps202 (Nat.le_of_ble_eq_true rfl) (fun R=>?_)
 refine af.seq ?_
 obtain⟨tk,kd⟩:=th;simp only at hkt h3;rcases h3 with rfl|rfl|rfl
 ·replace hkt:(obj O tk).kind=1:=hkt
  replace hg:(obj O tk).gone=false\/0 < (obj O tk).opens:=hg
  refine af.region (gK 1 [(7,.iface 162 (vP (L.b tk)))] [] ?_)
  refine gL [] (dr (L.b tk)) ?_
  rintro _ _ ⟨rfl,rfl⟩
  refine gK 1 [(4,vP (L.b tk))] [] ?_
  refine NN (af.seq (SR (gK 6 [(14,.bool (!(obj O tk).gone))] [(3,v_ 0 (oh L hkt))] ?_)))
  refine ak.om 14 (!(obj O tk).gone) (fun _=>by kernel_rfl) (fun jN=>?_) (fun jN=>?_)
  ·refine gK 6 [(20,.bool true)] [] ?_
   refine NN (CT (af.ret (aj.aq ?_)))
   exact RT (.tuple #[]) [0,1] (⟨rfl,rfl⟩)
  refine gK 6 [(20,.bool (decide (((obj O tk).opens:Int) > (0:Int))))] [(3,v_ 0 (kE L hkt))] ?_
  refine NN (af.bh (p:=((obj O tk).opens:Int) > (0:Int)) (fun _=>by kernel_rfl) (fun j9=>?_) (fun j9=>?_))
  ·refine af.ret (aj.aq ?_)
   exact RT (.tuple #[]) [0,1] (⟨rfl,rfl⟩)
  exact absurd hg (by simp at jN;rw [jN];simp;omega)
 ·replace hkt:(obj O tk).kind=2:=hkt
  replace hg:(obj O tk).gone=false\/0 < (obj O tk).opens:=hg
  refine af.region (gK 1 [(7,.iface 169 (vP (L.b tk)))] [] ?_)
  refine gL [] (dr (L.b tk)) ?_
  rintro _ _ ⟨rfl,rfl⟩
  refine gK 1 [(4,vP (L.b tk))] [] ?_
  refine NN (af.seq (SR (gK 6 [(14,.bool (!(obj O tk).gone))] [(3,v_ 0 (oh L hkt))] ?_)))
  refine ak.om 14 (!(obj O tk).gone) (fun _=>by kernel_rfl) (fun jN=>?_) (fun jN=>?_)
  ·refine gK 6 [(20,.bool true)] [] ?_
   refine NN (CT (af.ret (aj.aq ?_)))
   exact RT (.tuple #[]) [0,1] (⟨rfl,rfl⟩)
  refine gK 6 [(20,.bool (decide (((obj O tk).opens:Int) > (0:Int))))] [(3,v_ 0 (kE L hkt))] ?_
  refine NN (af.bh (p:=((obj O tk).opens:Int) > (0:Int)) (fun _=>by kernel_rfl) (fun j9=>?_) (fun j9=>?_))
  ·refine af.ret (aj.aq ?_)
   exact RT (.tuple #[]) [0,1] (⟨rfl,rfl⟩)
  exact absurd hg (by simp at jN;rw [jN];simp;omega)
 replace hkt:(obj O tk).kind=3:=hkt
 replace hg:(obj O tk).gone=false\/0 < (obj O tk).opens:=hg
 refine af.region (gK 1 [(7,.iface 166 (vP (L.b tk)))] [] ?_)
 refine gL [] (dr (L.b tk)) ?_
 rintro _ _ ⟨rfl,rfl⟩
 refine gK 1 [(4,vP (L.b tk))] [] ?_
 refine NN (af.seq (SR (gK 6 [(14,.bool (!(obj O tk).gone))] [(3,v_ 0 (oh L hkt))] ?_)))
 refine ak.om 14 (!(obj O tk).gone) (fun _=>by kernel_rfl) (fun jN=>?_) (fun jN=>?_)
 ·refine gK 6 [(20,.bool true)] [] ?_
  refine NN (CT (af.ret (aj.aq ?_)))
  exact RT (.tuple #[]) [0,1] (⟨rfl,rfl⟩)
 refine gK 6 [(20,.bool (decide (((obj O tk).opens:Int) > (0:Int))))] [(3,v_ 0 (kE L hkt))] ?_
 refine NN (af.bh (p:=((obj O tk).opens:Int) > (0:Int)) (fun _=>by kernel_rfl) (fun j9=>?_) (fun j9=>?_))
 ·refine af.ret (aj.aq ?_)
  exact RT (.tuple #[]) [0,1] (⟨rfl,rfl⟩)
 exact absurd hg (by simp at jN;rw [jN];simp;omega)
theorem rE {β:Bs} (X:FM) (f m t:Nat) (hX:0<=X.ah/\X.ah<=1048576/\-1125899906842624<=X.used/\X.used<=1125899906842624/\0<=X.last/\X.last<=1125899906842624) (O:ck) (L:HL) (idx:Used Th) (L7:aB.dm (keys idx)) (th:Th) (hkt:(obj O th.k).kind=th.kind) (h3:th.kind=1\/th.kind=2\/th.kind=3) (ho:0<=(obj O th.k).opens) (hix:su O th->aB.get idx (obj O th.k).id=some th) (hw:(Lit.int .i64 (obj O th.k).id).wf=true) (yO:(obj O th.k).data.length<=1125899906842624) :
    Spec Tryz.prog β 202 #[vP f,(dR L th)] [pO O L,pF f m t X,pI m L idx] (fun v l=>v=.tuple #[]/\l=[pO O L,pF f m t { X with used:=jR O X.used th },pI m L (jr O idx th)]):=by
  unfold jR jr
  by_cases h:su O th
  ·rw [if_pos h,if_pos h]
   exact Ol X f m t hX O L idx L7 th hkt h3 h.1 h.2 (hix h) hw yO
  rw [if_neg h,if_neg h]
  refine (Spec.AJ (pre:=[pO O L]) (R:=[pF f m t X,pI m L idx]) (fun _ _=>Kn O L f th hkt h3 ?_)).mono (by rintro v l ⟨l0,⟨rfl,rfl⟩,rfl⟩;exact⟨rfl,rfl⟩)
  cases hg:(obj O th.k).gone with
  | false=>exact .inl rfl
  | true=>exact .inr (by have:¬ (obj O th.k).opens=0:=fun e=>h ⟨hg,e⟩;omega)
theorem uV {β:Bs} (X:FM) (f m t:Nat):Spec Tryz.prog β 195 #[vP f] [L6 f X m t] (fun v l=>v=.bool (decide (X.ah < 8192))/\l=[L6 f X m t]):=by
 refine Spec.enter Tryz.func195 rfl Tryz.ntmps195 (Nat.le_of_ble_eq_true rfl) (fun R=>?_)
 refine SR (gK 1 [] [] ?_)
 refine NS (gK 6 [(2,.bool (decide ((X.ah:Int) < (8192:Int))))] [(3,a_ 0 f)] ?_)
 refine NN (af.ret ?_)
 exact RT (.bool (decide ((X.ah:Int) < (8192:Int)))) [0,1] (⟨rfl,rfl⟩)
theorem gE {β:Bs} (a b:Int):Spec Tryz.prog β 74 #[vI a,vI b] [] (fun v l=>v=.bool (decide (0<=a/\a<=b))/\l=[]):=by
 refine Spec.enter Tryz.func74 rfl Tryz.ntmps74 (Nat.le_of_ble_eq_true rfl) (fun R=>?_)
 refine SR (gK 1 [] [] ?_)
 refine NS (gK 3 [(7,.bool (decide ((a:Int) ≥ (0:Int))))] [] ?_)
 refine ak.iN 7 ((a:Int) ≥ (0:Int)) (fun _=>by kernel_rfl) (fun h7=>?_) (fun h7=>?_)
 ·refine gK 5 [(4,.bool (decide ((a:Int)<=(b:Int))))] [] ?_
  refine NN (af.ret ?_)
  exact RT (.bool (decide ((a:Int)<=(b:Int)))) [0] (⟨by first|exact congrArg Value.bool (decide_eq_decide.2 (by omega))|exact congrArg Value.bool (decide_eq_true (by omega)).symm|exact congrArg Value.bool (decide_eq_false (by omega)).symm,rfl⟩)
 refine gK 5 [(4,.bool false)] [] ?_
 refine NN (af.ret ?_)
 exact RT (.bool false) [0] (⟨by first|exact congrArg Value.bool (decide_eq_decide.2 (by omega))|exact congrArg Value.bool (decide_eq_true (by omega)).symm|exact congrArg Value.bool (decide_eq_false (by omega)).symm,rfl⟩)
theorem Gu {β:Bs} (X:FM) (f m t:Nat) (L:HL) (idx:Used Th):Spec Tryz.prog β 206 #[vP f] [L6 f X m t,.abs (aP Tryz.prog 3 m (bg (bn L idx)) idx.length)] (fun v l=>v=.bool (decide ((idx.length:Int) < X.cN/\X.last < 1099511627776/\X.ah < 8192))/\l=[L6 f X m t,.abs (aP Tryz.prog 3 m (bg (bn L idx)) idx.length)]):=by
 refine Spec.enter Tryz.func206 rfl Tryz.ntmps206 (Nat.le_of_ble_eq_true rfl) (fun R=>?_)
 refine SR (gK 1 [] [] ?_)
 refine NN (af.seq (af.bI (by kernel_rfl) (by kernel_rfl) ?_))
 refine gQ 4 [(6,.map (some m))] [(3,a_ 0 f)] ?_
 refine aR.vf 1 (d:=(some 7)) (t:=151) (K:=3) (E:=156) (b:=m) (n:=idx.length) (f:=(bg (bn L idx))) (x:=(.tmp 6)) (ats:=#[151]) (fun _=>by kernel_rfl) (by kernel_rfl) (fun _=>by kernel_rfl) rfl Tryz.underlying151 ?_
 refine gQ 7 [(14,.bool (decide ((((idx.length:Nat):Int):Int) < (X.cN:Int))))] [(4,a_ 0 f)] ?_
 refine aR.iN 14 ((((idx.length:Nat):Int):Int) < (X.cN:Int)) (fun _=>by kernel_rfl) (fun jN=>?_) (fun jN=>?_)
 ·refine gQ 7 [(21,.bool (decide ((X.last:Int) < (1099511627776:Int))))] [(3,a_ 0 f)] ?_
  refine aR.iN 21 ((X.last:Int) < (1099511627776:Int)) (fun _=>by kernel_rfl) (fun vK=>?_) (fun vK=>?_)
  ·refine gQ 1 [(22,vP f)] [] ?_
   refine aR.call (f:=195) (args:=#[vP f]) (d:=(some 23)) (pre:=[pF f m t X]) (R:=[pI m L idx,.abs R]) (pk:=[0,1,2]) (ij:=[0,1,2]) (v0:=.bool (decide (X.ah < 8192))) (fun _=>by kernel_rfl) (uV X f m t) rfl (by kernel_rfl) rfl (by kernel_rfl) (fun _ _ h=>h) ?_
   refine gQ 2 [(2,.bool (decide (X.ah < 8192)))] [] ?_
   refine NQ (NX (af.ret ?_))
   exact RT (.bool (decide (X.ah < 8192))) [0,1,2] (⟨by first|exact congrArg Value.bool (decide_eq_decide.2 (by omega))|exact congrArg Value.bool (decide_eq_true (by omega)).symm|exact congrArg Value.bool (decide_eq_false (by omega)).symm,rfl⟩)
  refine gQ 4 [(2,.bool false)] [] ?_
  refine NQ (NX (af.ret ?_))
  exact RT (.bool false) [0,1,2] (⟨by first|exact congrArg Value.bool (decide_eq_decide.2 (by omega))|exact congrArg Value.bool (decide_eq_true (by omega)).symm|exact congrArg Value.bool (decide_eq_false (by omega)).symm,rfl⟩)
 refine gQ 11 [(2,.bool false)] [] ?_
 refine NQ (NX (af.ret ?_))
 exact RT (.bool false) [0,1,2] (⟨by first|exact congrArg Value.bool (decide_eq_decide.2 (by omega))|exact congrArg Value.bool (decide_eq_true (by omega)).symm|exact congrArg Value.bool (decide_eq_false (by omega)).symm,rfl⟩)
theorem ur {β:Bs} (X:FM) (f m t:Nat) (hX:0<=X.ah/\X.ah<=1048576/\-1125899906842624<=X.used/\X.used<=1125899906842624/\0<=X.last/\X.last<=1125899906842624) (mode:Int):Spec Tryz.prog β 192 #[vP f,vI mode] [L6 f X m t] (fun v l=>v=.agg #[vI (X.last+1),vI mode,vI 0,vI 0,vI X.cS,vI X.cZ,vI 0,vI 0,.bool false]/\l=[.blk f [vI (X.cN),vI (X.cB),vI (X.cH),vI (X.cS),vI (X.cZ),.map (some m),vP t,vI (X.last+1),vI (X.ah),vI (X.used)] 154]):=by
 refine Spec.enter Tryz.func192 rfl Tryz.ntmps192 (Nat.le_of_ble_eq_true rfl) (fun R=>?_)
 refine SR (gN 1 (fun b1=>[(4,vP b1)]) (fun _=>[]) (fun _=>[]) (fun b1=>.blk b1 [vI 0,vI 0,vI 0,vI 0,vI 0,vI 0,vI 0,vI 0,.bool false] 161) (fun b1=>?_))
 refine NS (gC 8 [] [(3,a_ 0 f),(4,p_ ⟨[],none,none,none,some (vI (X.last+1))⟩ [(Value.int .i64 (IntKind.wrap .i64 (X.last+1)))=(.int .i64 (X.last+1))] ⟨aY (by omega) (by omega) (by omega),trivial⟩),(7,a_ 0 f)] [(0,[(7,vI (X.last+1))])] ?_)
 refine NN (af.seq (af.bU (S:=[pF f m t { X with last:=X.last+1 },.abs R,.blk b1 [vI 0,vI 0,vI 0,vI 0,vI 0,vI 0,vI 0,vI 0,.bool false] 161]) [0,1,2,3,4,5,6,7,8,9,10,11] 11 [0,1,2] (by kernel_rfl) (by kernel_rfl) rfl (by kernel_rfl) ?_))
 refine gR 0 [11] [(4,vP b1),(22,.agg #[vI (X.last+1),vI (mode),vI 0,vI 0,vI (X.cS),vI (X.cZ),vI 0,vI 0,.bool false])] [0,1,2,3,4,5,6,7,8,9,10] [(3,a_ 0 f),(9,A_ 0 f 2)] ?_
 refine aO.last rfl rfl ?_
 refine gC 1 [] [(0,A_ 2 b1 9)] [(2,[(0,vI (X.last+1)),(1,vI (mode)),(4,vI (X.cS)),(5,vI (X.cZ))])] ?_
 refine NL (aj.np (NX (af.ret ?_)))
 exact aj.ret (v:=.agg #[vI (X.last+1),vI (mode),vI 0,vI 0,vI (X.cS),vI (X.cZ),vI 0,vI 0,.bool false]) (l:=[pF f m t { X with last:=X.last+1 }]) (aZ:=[b1=b1,b1=b1,b1=b1,b1=b1,b1=b1,b1=b1,b1=b1,b1=b1,b1=b1]) [.at 2,.at 2,.at 2,.at 2,.at 2,.at 2,.at 2,.at 2,.at 2] [0,1] (fun _=>by kernel_rfl) ⟨rfl,rfl,rfl,rfl,rfl,rfl,rfl,rfl,rfl,trivial⟩ rfl (by kernel_rfl) (⟨rfl,rfl⟩)
end
section
open Go.RowKit Go.Maps bF aB
attribute [local irreducible] ak aR af aj
abbrev Ct (f:Nat) (L:HL) (d:Nat) (name):=([(0,vP f),(1,vP (L.b d)),(2,.string name)]:Fr)
abbrev Sg (f:Nat) (L:HL) (d:Nat) (name):=([(18,vP f),(19,vP (L.b d)),(20,.string name)]:Fr)
abbrev Sh (f:Nat) (L:HL) (d:Nat) (name):=([(8,vP f),(9,vP (L.b d)),(10,.string name)]:Fr)
abbrev Gv (f:Nat) (L:HL) (d:Nat) (name):=([(0,vP f),(1,vP (L.b d)),(2,.string name)]:Fr)
abbrev xI (f:Nat) (m:Nat) (t) (X:FM) (L:HL) (idx) (O:ck) (R:bY):=([pF f m t X,pI m L idx,pO O L,pE O L,.abs R]:List HP)
abbrev Si (S:aG) (tk:Nat) (L:HL):=([(24,vI ((obj S.O tk).opens+1)),(26,.pointer (some ⟨(L.b tk),7,none⟩))]:Fr)
theorem oF {β:Bs} (S:aG) (L:HL) (f m t:Nat) (hI:Inv S) (d:Nat) (hd:Live S.idx ⟨d,2⟩) (name:ByteArray) (hsz:name.size<=1048576) (th:Th) (hlk:aU name (obj S.O d).ah=some th) :
    Spec Tryz.prog β 208 #[vP f,vP (L.b d),.string name] [pF f m t S.X,pO S.O L,pE S.O L,pI m L S.idx] (fun v l=>v=.tuple #[]/\l=[pF f m t ((aK S d name th).X),pO ((aK S d name th).O) L,pE ((aK S d name th).O) L,pI m L ((aK S d name th).idx)]):=by
 have hX:=hI.hX
 have hel:(obj S.O d).ah.length<=8192:=hI.ic hd
 have hkd:(obj S.O d).kind=2:=hI.kind hd
 refine Spec.enter Tryz.func208 rfl Tryz.ntmps208 (Nat.le_of_ble_eq_true rfl) (fun R=>?_)
 refine af.seq ?_
 obtain⟨tk,kd⟩:=th;have hlv:=(hI.ent hd hlk).2;have XB:=hI.ne hd hlk;rcases (hI.ob _ hlv).2.2 with e0|e0|e0<;>simp only at e0<;>subst e0
 ·have hkt:(obj S.O tk).kind=1:=hI.kind hlv
  have hlb:=hI.lb hlv;have hid:=hI.ob _ hlv;have hop:=hI.Eb hlv;have hdl:=hI.FV hlv;have qA:=hI.Lw hlv
  refine af.region (gK 3 (Sh f L d name) [] ?_)
  refine gL [0,1,2] (jX S.X f m t hX S.O L d hkd name hsz ⟨tk,1⟩ hkt (by simp) hlk (hI.twice hd) (by omega) (by simp only at hlb ⊢;omega)) ?_
  rintro _ _ ⟨rfl,rfl⟩
  refine gK 1 [(6,.iface 162 (vP (L.b tk)))] [] ?_
  refine NS ?_
  have kC:(obj (aS S.X S.O d name ⟨tk,1⟩) d).kind=2:=(cR).trans (hkd)
  have nu:(obj (aS S.X S.O d name ⟨tk,1⟩) tk).kind=1:=(cR).trans (hkt)
  have yP:(obj (aS S.X S.O d name ⟨tk,1⟩) tk).id=(obj S.O tk).id:=dP (g:=aT.id) (fun _ _=>rfl) (fun _ _=>rfl) (fun _ _ _=>rfl)
  have yQ:(obj (aS S.X S.O d name ⟨tk,1⟩) tk).opens=(obj S.O tk).opens:=dP (g:=aT.opens) (fun _ _=>rfl) (fun _ _=>rfl) (fun _ _ _=>rfl)
  have yR:(obj (aS S.X S.O d name ⟨tk,1⟩) tk).data=(obj S.O tk).data:=dP (g:=aT.data) (fun _ _=>rfl) (fun _ _=>rfl) (fun _ _ _=>rfl)
  generalize cA:(aS S.X S.O d name ⟨tk,1⟩)=cG at kC nu yP yQ yR ⊢
  refine gK 1 [(12,.iface 162 (vP (L.b tk)))] [] ?_
  refine gL [] (dr (L.b tk)) ?_
  rintro _ _ ⟨rfl,rfl⟩
  refine gK 1 [(7,vP (L.b tk))] [] ?_
  refine NS (gK 5 [(18,.bool (decide (((obj cG tk).links:Int)=(0:Int))))] [(3,v_ 1 (nP L nu))] ?_)
  refine NN (af.bh (p:=((obj cG tk).links:Int)=(0:Int)) (fun _=>by kernel_rfl) (fun qW=>?_) (fun qW=>?_))
  ·refine SR (gK 3 [(21,.pointer (some ⟨(L.b tk),8,none⟩))] [] ?_)
   refine tu 1 [(2,1)] tk 8 (fun o=>{ o with gone:=true }) nu (fun eM dD=>?_)
   have Dy:=ku dD kC
   have yM:=ku dD nu
   have L8:(obj eM tk).id=(obj S.O tk).id:=fu aT.id dD yP
   have Sj:(obj eM tk).opens=(obj S.O tk).opens:=fu aT.opens dD yQ
   have WH:(obj eM tk).data=(obj S.O tk).data:=fu aT.data dD yR
   refine NN (af.region (gK 2 [(22,vP f),(23,.iface 162 (vP (L.b tk)))] [] ?_))
   refine gL [1,0,3] (rE { S.X with ah:=S.X.ah - 1 } f m t (hI.zT hd hlk) eM L S.idx hI.rise ⟨tk,1⟩ yM (by simp) (by rw [Sj];exact hop.1) (fun _=>by rw [L8,hid.1];exact hlv) (by rw [L8];exact qA) (by rw [WH];exact hdl)) ?_
   rintro _ _ ⟨rfl,rfl⟩
   refine NL ?_
   exact RF (l:=[pF f m t { S.X with ah:=S.X.ah - 1,used:=jR eM S.X.used ⟨tk,1⟩ },pO eM L,pE eM L,pI m L (jr eM S.idx ⟨tk,1⟩)]) (.tuple #[]) [1,0,3,2,4] (⟨rfl,by subst dD;subst cA;rw [show aK S d name ⟨tk,1⟩=_ from t7 qW]<;>rfl⟩)
  refine af.skip ?_
  exact RF (l:=[pF f m t { S.X with ah:=S.X.ah - 1 },pO cG L,pE cG L,pI m L S.idx]) (.tuple #[]) [0,1,2,3,4] (⟨rfl,by subst cA;rw [show aK S d name ⟨tk,1⟩=_ from ud qW]<;>rfl⟩)
 ·have hkt:(obj S.O tk).kind=2:=hI.kind hlv
  have hlb:=hI.lb hlv;have hid:=hI.ob _ hlv;have hop:=hI.Eb hlv;have hdl:=hI.FV hlv;have qA:=hI.Lw hlv
  refine af.region (gK 3 (Sh f L d name) [] ?_)
  refine gL [0,1,2] (jX S.X f m t hX S.O L d hkd name hsz ⟨tk,2⟩ hkt (by simp) hlk (hI.twice hd) (by omega) (by simp only at hlb ⊢;omega)) ?_
  rintro _ _ ⟨rfl,rfl⟩
  refine gK 1 [(6,.iface 169 (vP (L.b tk)))] [] ?_
  refine NS ?_
  have Sk:(obj (aS S.X S.O d name ⟨tk,2⟩) d).kind=2:=(cR).trans (hkd)
  have Dx:(obj (aS S.X S.O d name ⟨tk,2⟩) tk).kind=2:=(cR).trans (hkt)
  have yP:(obj (aS S.X S.O d name ⟨tk,2⟩) tk).id=(obj S.O tk).id:=dP (g:=aT.id) (fun _ _=>rfl) (fun _ _=>rfl) (fun _ _ _=>rfl)
  have yQ:(obj (aS S.X S.O d name ⟨tk,2⟩) tk).opens=(obj S.O tk).opens:=dP (g:=aT.opens) (fun _ _=>rfl) (fun _ _=>rfl) (fun _ _ _=>rfl)
  have yR:(obj (aS S.X S.O d name ⟨tk,2⟩) tk).data=(obj S.O tk).data:=dP (g:=aT.data) (fun _ _=>rfl) (fun _ _=>rfl) (fun _ _ _=>rfl)
  generalize cA:(aS S.X S.O d name ⟨tk,2⟩)=cG at Sk Dx yP yQ yR ⊢
  refine gK 1 [(12,.iface 169 (vP (L.b tk)))] [] ?_
  refine gL [] (dr (L.b tk)) ?_
  rintro _ _ ⟨rfl,rfl⟩
  refine gK 1 [(7,vP (L.b tk))] [] ?_
  refine NS (gK 5 [(18,.bool (decide (((obj cG tk).links:Int)=(0:Int))))] [(3,v_ 1 (nP L Dx))] ?_)
  refine NN (af.bh (p:=((obj cG tk).links:Int)=(0:Int)) (fun _=>by kernel_rfl) (fun qW=>?_) (fun qW=>?_))
  ·refine SR (gK 3 [(21,.pointer (some ⟨(L.b tk),8,none⟩))] [] ?_)
   refine tu 1 [(2,1)] tk 8 (fun o=>{ o with gone:=true }) Dx (fun eM dD=>?_)
   have Kj:=ku dD Sk
   have PA:=ku dD Dx
   have Sl:(obj eM tk).id=(obj S.O tk).id:=fu aT.id dD yP
   have VP:(obj eM tk).opens=(obj S.O tk).opens:=fu aT.opens dD yQ
   have VQ:(obj eM tk).data=(obj S.O tk).data:=fu aT.data dD yR
   refine NN (af.region (gK 2 [(22,vP f),(23,.iface 169 (vP (L.b tk)))] [] ?_))
   refine gL [1,0,3] (rE { S.X with ah:=S.X.ah - 1 } f m t (hI.zT hd hlk) eM L S.idx hI.rise ⟨tk,2⟩ PA (by simp) (by rw [VP];exact hop.1) (fun _=>by rw [Sl,hid.1];exact hlv) (by rw [Sl];exact qA) (by rw [VQ];exact hdl)) ?_
   rintro _ _ ⟨rfl,rfl⟩
   refine NL ?_
   exact RF (l:=[pF f m t { S.X with ah:=S.X.ah - 1,used:=jR eM S.X.used ⟨tk,2⟩ },pO eM L,pE eM L,pI m L (jr eM S.idx ⟨tk,2⟩)]) (.tuple #[]) [1,0,3,2,4] (⟨rfl,by subst dD;subst cA;rw [show aK S d name ⟨tk,2⟩=_ from t7 qW]<;>rfl⟩)
  refine af.skip ?_
  exact RF (l:=[pF f m t { S.X with ah:=S.X.ah - 1 },pO cG L,pE cG L,pI m L S.idx]) (.tuple #[]) [0,1,2,3,4] (⟨rfl,by subst cA;rw [show aK S d name ⟨tk,2⟩=_ from ud qW]<;>rfl⟩)
 have hkt:(obj S.O tk).kind=3:=hI.kind hlv
 have hlb:=hI.lb hlv;have hid:=hI.ob _ hlv;have hop:=hI.Eb hlv;have hdl:=hI.FV hlv;have qA:=hI.Lw hlv
 refine af.region (gK 3 (Sh f L d name) [] ?_)
 refine gL [0,1,2] (jX S.X f m t hX S.O L d hkd name hsz ⟨tk,3⟩ hkt (by simp) hlk (hI.twice hd) (by omega) (by simp only at hlb ⊢;omega)) ?_
 rintro _ _ ⟨rfl,rfl⟩
 refine gK 1 [(6,.iface 166 (vP (L.b tk)))] [] ?_
 refine NS ?_
 have PG:(obj (aS S.X S.O d name ⟨tk,3⟩) d).kind=2:=(cR).trans (hkd)
 have Cr:(obj (aS S.X S.O d name ⟨tk,3⟩) tk).kind=3:=(cR).trans (hkt)
 have yP:(obj (aS S.X S.O d name ⟨tk,3⟩) tk).id=(obj S.O tk).id:=dP (g:=aT.id) (fun _ _=>rfl) (fun _ _=>rfl) (fun _ _ _=>rfl)
 have yQ:(obj (aS S.X S.O d name ⟨tk,3⟩) tk).opens=(obj S.O tk).opens:=dP (g:=aT.opens) (fun _ _=>rfl) (fun _ _=>rfl) (fun _ _ _=>rfl)
 have yR:(obj (aS S.X S.O d name ⟨tk,3⟩) tk).data=(obj S.O tk).data:=dP (g:=aT.data) (fun _ _=>rfl) (fun _ _=>rfl) (fun _ _ _=>rfl)
 generalize cA:(aS S.X S.O d name ⟨tk,3⟩)=cG at PG Cr yP yQ yR ⊢
 refine gK 1 [(12,.iface 166 (vP (L.b tk)))] [] ?_
 refine gL [] (dr (L.b tk)) ?_
 rintro _ _ ⟨rfl,rfl⟩
 refine gK 1 [(7,vP (L.b tk))] [] ?_
 refine NS (gK 5 [(18,.bool (decide (((obj cG tk).links:Int)=(0:Int))))] [(3,v_ 1 (nP L Cr))] ?_)
 refine NN (af.bh (p:=((obj cG tk).links:Int)=(0:Int)) (fun _=>by kernel_rfl) (fun qW=>?_) (fun qW=>?_))
 ·refine SR (gK 3 [(21,.pointer (some ⟨(L.b tk),8,none⟩))] [] ?_)
  refine tu 1 [(2,1)] tk 8 (fun o=>{ o with gone:=true }) Cr (fun eM dD=>?_)
  have TV:=ku dD PG
  have Cs:=ku dD Cr
  have Sm:(obj eM tk).id=(obj S.O tk).id:=fu aT.id dD yP
  have VR:(obj eM tk).opens=(obj S.O tk).opens:=fu aT.opens dD yQ
  have VS:(obj eM tk).data=(obj S.O tk).data:=fu aT.data dD yR
  refine NN (af.region (gK 2 [(22,vP f),(23,.iface 166 (vP (L.b tk)))] [] ?_))
  refine gL [1,0,3] (rE { S.X with ah:=S.X.ah - 1 } f m t (hI.zT hd hlk) eM L S.idx hI.rise ⟨tk,3⟩ Cs (by simp) (by rw [VR];exact hop.1) (fun _=>by rw [Sm,hid.1];exact hlv) (by rw [Sm];exact qA) (by rw [VS];exact hdl)) ?_
  rintro _ _ ⟨rfl,rfl⟩
  refine NL ?_
  exact RF (l:=[pF f m t { S.X with ah:=S.X.ah - 1,used:=jR eM S.X.used ⟨tk,3⟩ },pO eM L,pE eM L,pI m L (jr eM S.idx ⟨tk,3⟩)]) (.tuple #[]) [1,0,3,2,4] (⟨rfl,by subst dD;subst cA;rw [show aK S d name ⟨tk,3⟩=_ from t7 qW]<;>rfl⟩)
 refine af.skip ?_
 exact RF (l:=[pF f m t { S.X with ah:=S.X.ah - 1 },pO cG L,pE cG L,pI m L S.idx]) (.tuple #[]) [0,1,2,3,4] (⟨rfl,by subst cA;rw [show aK S d name ⟨tk,3⟩=_ from ud qW]<;>rfl⟩)
theorem uw {β:Bs} (S:aG) (L:HL) (f m t:Nat) (hI:Inv S) (d:Nat) (hd:Live S.idx ⟨d,2⟩) (name:ByteArray) (hsz:name.size<=1048576) :
    Spec Tryz.prog β 191 #[vP f,vP (L.b d),.string name] [pF f m t S.X,pI m L S.idx,pE S.O L,pO S.O L] (fun v l=>v=vI (cq S.X S.O S.idx d name)/\l=[pF f m t S.X,pI m L S.idx,pE S.O L,pO S.O L]):=by
 have hX:=hI.hX
 have hel:(obj S.O d).ah.length<=8192:=hI.ic hd
 have hkd:(obj S.O d).kind=2:=hI.kind hd
 refine Spec.enter Tryz.func191 rfl Tryz.ntmps191 (Nat.le_of_ble_eq_true rfl) (fun R=>?_)
 refine af.seq ?_
 rcases hI.mQ hd name with hlk|⟨tk,hlk,hlv⟩|⟨tk,hlk,hlv⟩|⟨tk,hlk,hlv⟩
 ·refine af.region (gK 1 [] [] ?_)
  refine NN (af.seq (SR (gK 5 [(10,.map (some (L.m d))),(11,.string name)] [(3,v_ 3 (bH L hkd))] ?_)))
  refine je 2 hkd hlk ?_
  refine gK 1 [(13,.bool false)] [] ?_
  refine NN (CF (af.skip (NX (af.seq (SR (gK 1 [(14,vP f)] [] ?_))))))
  refine gL [0,1] (Gu S.X f m t L S.idx) ?_
  rintro _ _ ⟨rfl,rfl⟩
  refine gK 1 [(16,.bool (!(decide (((S.idx.length:Int) < S.X.cN/\S.X.last < 1099511627776/\S.X.ah < 8192)))))] [] ?_
  refine NN (af.dx (p:=((S.idx.length:Int) < S.X.cN/\S.X.last < 1099511627776/\S.X.ah < 8192)) (fun _=>by kernel_rfl) (fun vr=>?_) (fun vr=>?_))
  ·refine SR (gK 1 [(6,vI 177)] [] ?_)
   refine NN (af.ret (aj.aq ?_))
   exact RT (vI 177) [0,1,2,3,4] (⟨congrArg (Value.int .i64) (Eq.symm (show cq S.X S.O S.idx d name=_ from (if_pos hlk).trans (if_neg vr))),rfl⟩)
  refine af.skip (NX (SR (gK 1 [(6,vI 0)] [] ?_)))
  refine NN (af.ret ?_)
  exact RT (vI 0) [0,1,2,3,4] (⟨congrArg (Value.int .i64) (Eq.symm (show cq S.X S.O S.idx d name=_ from (if_pos hlk).trans (if_pos vr))),rfl⟩)
 ·have hkt:(obj S.O tk).kind=1:=hI.kind hlv
  refine af.region (gK 1 [] [] ?_)
  refine NN (af.seq (SR (gK 5 [(10,.map (some (L.m d))),(11,.string name)] [(3,v_ 3 (bH L hkd))] ?_)))
  refine je 2 hkd hlk ?_
  refine gK 1 [(13,.bool true)] [] ?_
  refine NN (CT (SR (gK 1 [(6,vI 171)] [] ?_)))
  refine NN (af.ret (aj.aq ?_))
  exact RT (vI 171) [0,1,2,3,4] (⟨congrArg (Value.int .i64) (Eq.symm (show cq S.X S.O S.idx d name=_ from if_neg (by rw [hlk];simp))),rfl⟩)
 ·have hkt:(obj S.O tk).kind=2:=hI.kind hlv
  refine af.region (gK 1 [] [] ?_)
  refine NN (af.seq (SR (gK 5 [(10,.map (some (L.m d))),(11,.string name)] [(3,v_ 3 (bH L hkd))] ?_)))
  refine je 2 hkd hlk ?_
  refine gK 1 [(13,.bool true)] [] ?_
  refine NN (CT (SR (gK 1 [(6,vI 171)] [] ?_)))
  refine NN (af.ret (aj.aq ?_))
  exact RT (vI 171) [0,1,2,3,4] (⟨congrArg (Value.int .i64) (Eq.symm (show cq S.X S.O S.idx d name=_ from if_neg (by rw [hlk];simp))),rfl⟩)
 have hkt:(obj S.O tk).kind=3:=hI.kind hlv
 refine af.region (gK 1 [] [] ?_)
 refine NN (af.seq (SR (gK 5 [(10,.map (some (L.m d))),(11,.string name)] [(3,v_ 3 (bH L hkd))] ?_)))
 refine je 2 hkd hlk ?_
 refine gK 1 [(13,.bool true)] [] ?_
 refine NN (CT (SR (gK 1 [(6,vI 171)] [] ?_)))
 refine NN (af.ret (aj.aq ?_))
 exact RT (vI 171) [0,1,2,3,4] (⟨congrArg (Value.int .i64) (Eq.symm (show cq S.X S.O S.idx d name=_ from if_neg (by rw [hlk];simp))),rfl⟩)
theorem Qz {β:Bs} (s:ByteArray) (hsz:s.size<=1048576) :
    Spec Tryz.prog β 207 #[.string s] [] (fun v l=>v=vI (nS s)/\l=[]):=by
 refine Spec.enter Tryz.func207 rfl Tryz.ntmps207 (Nat.le_of_ble_eq_true rfl) (fun R=>?_)
 refine SR (gK 1 [] [] ?_)
 refine NN (af.seq (af.block (SR ?_)))
 refine gK 3 [(3,.bool (decide ((s:ByteArray)=⟨#[]⟩)))] [(1,p_ ⟨[],none,none,none,some (.bool (decide ((s:ByteArray)=⟨#[]⟩)))⟩ [(Value.bool ((s:ByteArray).toList == (⟨#[]⟩:ByteArray).toList))=(.bool (decide ((s:ByteArray)=⟨#[]⟩)))] ⟨uZ _ _,trivial⟩)] ?_
 refine NN (af.bh (p:=(s:ByteArray)=⟨#[]⟩) (fun _=>by kernel_rfl) (fun h3=>?_) (fun h3=>?_))
 ·refine SR (gK 1 [(2,vI 90)] [] ?_)
  refine NN (af.ret (aj.aF (aj.aq ?_)))
  exact RT (vI 90) [0] (⟨congrArg (Value.int .i64) (Eq.symm (show nS s=_ from if_pos h3)),rfl⟩)
 refine SR (gK 4 [(6,.bool (decide (((((s:ByteArray).size:Nat):Int):Int) > (4096:Int))))] [] ?_)
 refine NN (af.bh (p:=((((s:ByteArray).size:Nat):Int):Int) > (4096:Int)) (fun _=>by kernel_rfl) (fun h6=>?_) (fun h6=>?_))
 ·refine SR (gK 1 [(2,vI 93)] [] ?_)
  refine NN (af.ret (aj.aF (aj.aq ?_)))
  exact RT (vI 93) [0] (⟨congrArg (Value.int .i64) (Eq.symm (show nS s=_ from (if_neg h3).trans (if_pos (by omega)))),rfl⟩)
 refine SR (gK 1 [(11,.string s)] [] ?_)
 refine gL [] (HX s) ?_
 rintro _ _ ⟨⟨x,rfl,hx⟩,rfl⟩
 refine gK 2 [(10,.bool (decide ((x:Int) ≥ (0:Int))))] [] ?_
 refine NN (af.bh (p:=(x:Int) ≥ (0:Int)) (fun _=>by kernel_rfl) (fun h10=>?_) (fun h10=>?_))
 ·refine SR (gK 1 [(2,vI 91)] [] ?_)
  refine NN (af.ret (aj.aF (aj.aq ?_)))
  exact RT (vI 91) [0] (⟨congrArg (Value.int .i64) (Eq.symm (show nS s=_ from (if_neg h3).trans ((if_neg (by omega)).trans (if_neg (hx.1 (by omega)))))),rfl⟩)
 refine af.skip (aj.aQ (NX (SR ?_)))
 refine gK 1 [(2,vI 0)] [] ?_
 refine NN (af.ret ?_)
 exact RT (vI 0) [0] (⟨congrArg (Value.int .i64) (Eq.symm (show nS s=_ from (if_neg h3).trans ((if_neg (by omega)).trans (if_pos (Classical.byContradiction (fun hn=>absurd (hx.2 hn) (by omega))))))),rfl⟩)
theorem tB {β:Bs} (S:aG) (L:HL) (f m t:Nat) (th:Th) (hkt:(obj S.O th.k).kind=th.kind) (h3:th.kind=1\/th.kind=2\/th.kind=3) (hop:0<=(obj S.O th.k).opens/\(obj S.O th.k).opens<=1048576) :
    Spec Tryz.prog β 187 #[vP f,(dR L th)] [pF f m t S.X,pT t S.X.cH S.av L S.us,pO S.O L] (fun v l=>v=.tuple #[vI (cD S th).1,vI (cD S th).2.1]/\l=[pF f m t S.X,pT t S.X.cH ((cD S th).2.2.av) L ((cD S th).2.2.us),pO ((cD S th).2.2.O) L]):=by
 refine Spec.enter Tryz.func187 rfl Tryz.ntmps187 (Nat.le_of_ble_eq_true rfl) (fun R=>?_)
 refine af.seq ?_
 obtain⟨tk,kd⟩:=th;simp only at hkt h3;rcases Int.lt_or_le (S.us.length:Int) S.X.cH with ux|ux<;>rcases h3 with e0|e0|e0<;>subst e0
 ·replace hkt:(obj S.O tk).kind=1:=hkt
  replace hop:0<=(obj S.O tk).opens/\(obj S.O tk).opens<=1048576:=hop
  refine af.region (gK 2 [] [] ?_)
  refine NS (gK 5 [(12,vP t),(13,.iface 162 (vP (L.b tk)))] [(3,a_ 0 f)] ?_)
  refine gL [1] ((AQ t S.X.cH S.av (bn L S.us) (dR L ⟨tk,1⟩) (by rw [qu];exact ux)).mono (fun v l h=>Dk h)) ?_
  rintro _ _ ⟨rfl,rfl⟩
  refine gK 5 [(6,vI ((aB.least S.us))),(7,vI 0)] [] ?_
  refine NN (af.seq (SR (gK 2 [(18,.bool true)] [] ?_)))
  refine NN (CT (af.region (gK 1 [(19,.iface 162 (vP (L.b tk)))] [] ?_)))
  refine gL [] (dr (L.b tk)) ?_
  rintro _ _ ⟨rfl,rfl⟩
  refine gK 6 (Si S tk L) [(2,v_ 2 (kE L hkt)),(3,p_ ⟨[],none,none,none,some (vI ((obj S.O tk).opens+1))⟩ [(Value.int .i64 (IntKind.wrap .i64 ((obj S.O tk).opens+1)))=(.int .i64 ((obj S.O tk).opens+1))] ⟨aY (by omega) (by omega) (by omega),trivial⟩)] ?_
  refine tu 2 [] tk 7 (fun o=>{ o with opens:=o.opens+1 }) hkt (fun cG cA=>?_)
  have Xn:=ku cA hkt
  refine NS (gK 4 [(4,vI ((aB.least S.us))),(5,vI 0)] [] ?_)
  refine NN (af.ret ?_)
  exact RT (l:=[pF f m t S.X,pT t S.X.cH (max S.av ((S.us.length:Int)+1)) L (ins (aB.least S.us) ⟨tk,1⟩ S.us),pO cG L]) (.tuple #[vI ((aB.least S.us)),vI 0]) [1,0,2,3] (by subst cA;rw [show cD S ⟨tk,1⟩=_ from jG ux]<;>exact⟨rfl,rfl⟩)
 ·replace hkt:(obj S.O tk).kind=2:=hkt
  replace hop:0<=(obj S.O tk).opens/\(obj S.O tk).opens<=1048576:=hop
  refine af.region (gK 2 [] [] ?_)
  refine NS (gK 5 [(12,vP t),(13,.iface 169 (vP (L.b tk)))] [(3,a_ 0 f)] ?_)
  refine gL [1] ((AQ t S.X.cH S.av (bn L S.us) (dR L ⟨tk,2⟩) (by rw [qu];exact ux)).mono (fun v l h=>Dk h)) ?_
  rintro _ _ ⟨rfl,rfl⟩
  refine gK 5 [(6,vI ((aB.least S.us))),(7,vI 0)] [] ?_
  refine NN (af.seq (SR (gK 2 [(18,.bool true)] [] ?_)))
  refine NN (CT (af.region (gK 1 [(19,.iface 169 (vP (L.b tk)))] [] ?_)))
  refine gL [] (dr (L.b tk)) ?_
  rintro _ _ ⟨rfl,rfl⟩
  refine gK 6 (Si S tk L) [(2,v_ 2 (kE L hkt)),(3,p_ ⟨[],none,none,none,some (vI ((obj S.O tk).opens+1))⟩ [(Value.int .i64 (IntKind.wrap .i64 ((obj S.O tk).opens+1)))=(.int .i64 ((obj S.O tk).opens+1))] ⟨aY (by omega) (by omega) (by omega),trivial⟩)] ?_
  refine tu 2 [] tk 7 (fun o=>{ o with opens:=o.opens+1 }) hkt (fun cG cA=>?_)
  have PD:=ku cA hkt
  refine NS (gK 4 [(4,vI ((aB.least S.us))),(5,vI 0)] [] ?_)
  refine NN (af.ret ?_)
  exact RT (l:=[pF f m t S.X,pT t S.X.cH (max S.av ((S.us.length:Int)+1)) L (ins (aB.least S.us) ⟨tk,2⟩ S.us),pO cG L]) (.tuple #[vI ((aB.least S.us)),vI 0]) [1,0,2,3] (by subst cA;rw [show cD S ⟨tk,2⟩=_ from jG ux]<;>exact⟨rfl,rfl⟩)
 ·replace hkt:(obj S.O tk).kind=3:=hkt
  replace hop:0<=(obj S.O tk).opens/\(obj S.O tk).opens<=1048576:=hop
  refine af.region (gK 2 [] [] ?_)
  refine NS (gK 5 [(12,vP t),(13,.iface 166 (vP (L.b tk)))] [(3,a_ 0 f)] ?_)
  refine gL [1] ((AQ t S.X.cH S.av (bn L S.us) (dR L ⟨tk,3⟩) (by rw [qu];exact ux)).mono (fun v l h=>Dk h)) ?_
  rintro _ _ ⟨rfl,rfl⟩
  refine gK 5 [(6,vI ((aB.least S.us))),(7,vI 0)] [] ?_
  refine NN (af.seq (SR (gK 2 [(18,.bool true)] [] ?_)))
  refine NN (CT (af.region (gK 1 [(19,.iface 166 (vP (L.b tk)))] [] ?_)))
  refine gL [] (dr (L.b tk)) ?_
  rintro _ _ ⟨rfl,rfl⟩
  refine gK 6 (Si S tk L) [(2,v_ 2 (kE L hkt)),(3,p_ ⟨[],none,none,none,some (vI ((obj S.O tk).opens+1))⟩ [(Value.int .i64 (IntKind.wrap .i64 ((obj S.O tk).opens+1)))=(.int .i64 ((obj S.O tk).opens+1))] ⟨aY (by omega) (by omega) (by omega),trivial⟩)] ?_
  refine tu 2 [] tk 7 (fun o=>{ o with opens:=o.opens+1 }) hkt (fun cG cA=>?_)
  have E4:=ku cA hkt
  refine NS (gK 4 [(4,vI ((aB.least S.us))),(5,vI 0)] [] ?_)
  refine NN (af.ret ?_)
  exact RT (l:=[pF f m t S.X,pT t S.X.cH (max S.av ((S.us.length:Int)+1)) L (ins (aB.least S.us) ⟨tk,3⟩ S.us),pO cG L]) (.tuple #[vI ((aB.least S.us)),vI 0]) [1,0,2,3] (by subst cA;rw [show cD S ⟨tk,3⟩=_ from jG ux]<;>exact⟨rfl,rfl⟩)
 ·replace hkt:(obj S.O tk).kind=1:=hkt
  replace hop:0<=(obj S.O tk).opens/\(obj S.O tk).opens<=1048576:=hop
  refine af.region (gK 2 [] [] ?_)
  refine NS (gK 5 [(12,vP t),(13,.iface 162 (vP (L.b tk)))] [(3,a_ 0 f)] ?_)
  refine gL [1] (yw t S.X.cH S.av (bn L S.us) (dR L ⟨tk,1⟩) (by rw [qu];exact ux)) ?_
  rintro _ _ ⟨rfl,rfl⟩
  refine gK 5 [(6,vI 0),(7,vI 130)] [] ?_
  refine NN (af.seq (SR (gK 2 [(18,.bool false)] [] ?_)))
  refine NN (CF (af.skip (NX (SR (gK 4 [(4,vI 0),(5,vI 130)] [] ?_)))))
  refine NN (af.ret ?_)
  exact RT (.tuple #[vI 0,vI 130]) [1,0,2,3] (by skip;rw [show cD S ⟨tk,1⟩=_ from kK (by omega)]<;>exact⟨rfl,rfl⟩)
 ·replace hkt:(obj S.O tk).kind=2:=hkt
  replace hop:0<=(obj S.O tk).opens/\(obj S.O tk).opens<=1048576:=hop
  refine af.region (gK 2 [] [] ?_)
  refine NS (gK 5 [(12,vP t),(13,.iface 169 (vP (L.b tk)))] [(3,a_ 0 f)] ?_)
  refine gL [1] (yw t S.X.cH S.av (bn L S.us) (dR L ⟨tk,2⟩) (by rw [qu];exact ux)) ?_
  rintro _ _ ⟨rfl,rfl⟩
  refine gK 5 [(6,vI 0),(7,vI 130)] [] ?_
  refine NN (af.seq (SR (gK 2 [(18,.bool false)] [] ?_)))
  refine NN (CF (af.skip (NX (SR (gK 4 [(4,vI 0),(5,vI 130)] [] ?_)))))
  refine NN (af.ret ?_)
  exact RT (.tuple #[vI 0,vI 130]) [1,0,2,3] (by skip;rw [show cD S ⟨tk,2⟩=_ from kK (by omega)]<;>exact⟨rfl,rfl⟩)
 replace hkt:(obj S.O tk).kind=3:=hkt
 replace hop:0<=(obj S.O tk).opens/\(obj S.O tk).opens<=1048576:=hop
 refine af.region (gK 2 [] [] ?_)
 refine NS (gK 5 [(12,vP t),(13,.iface 166 (vP (L.b tk)))] [(3,a_ 0 f)] ?_)
 refine gL [1] (yw t S.X.cH S.av (bn L S.us) (dR L ⟨tk,3⟩) (by rw [qu];exact ux)) ?_
 rintro _ _ ⟨rfl,rfl⟩
 refine gK 5 [(6,vI 0),(7,vI 130)] [] ?_
 refine NN (af.seq (SR (gK 2 [(18,.bool false)] [] ?_)))
 refine NN (CF (af.skip (NX (SR (gK 4 [(4,vI 0),(5,vI 130)] [] ?_)))))
 refine NN (af.ret ?_)
 exact RT (.tuple #[vI 0,vI 130]) [1,0,2,3] (by skip;rw [show cD S ⟨tk,3⟩=_ from kK (by omega)]<;>exact⟨rfl,rfl⟩)
theorem eT {β:Bs} (S:aG) (L:HL) (f m t:Nat) (hI:Inv S) (h:Int) (hw:(Lit.int .i64 h).wf=true) (name:ByteArray) (hsz:name.size<=1048576) (need:Int) :
    Spec Tryz.prog β 189 #[vP f,vI (h),.string name,vI (need)] [pF f m t S.X,pT t S.X.cH S.av L S.us,pO S.O L] (fun v l=>v=VB L (dS S.O S.us h name need)/\l=[pF f m t S.X,pT t S.X.cH S.av L S.us,pO S.O L]):=by
 refine Spec.enter Tryz.func189 rfl Tryz.ntmps189 (Nat.le_of_ble_eq_true rfl) (fun R=>?_)
 refine af.seq ?_
 rcases hI.hand h with dL|⟨tk,dL,hlv⟩|⟨tk,dL,hlv⟩
 ·refine af.region (gK 2 [] [] ?_)
  refine NS (gK 5 [(18,vP t),(19,vI (h))] [(3,a_ 0 f)] ?_)
  refine gL [1] (q5 t S.X.cH S.av (bn L S.us) h hw (qv dL)) ?_
  rintro _ _ ⟨rfl,rfl⟩
  refine gK 5 [(10,.nilIface),(11,vI 131)] [] ?_
  refine NN (af.seq (SR (gK 2 [(24,.bool true)] [] ?_)))
  refine NN (CT (SR (gK 3 [(8,.pointer none),(9,vI 131)] [] ?_)))
  refine NN (af.ret (aj.aq ?_))
  exact RT (.tuple #[.pointer none,vI 131]) [1,0,2,3] (⟨by rw [show dS S.O S.us h name need=.error 131 by unfold dS;rw [dL]];rfl,rfl⟩)
 ·have hkt:(obj S.O tk).kind=1:=hI.kind hlv
  refine af.region (gK 2 [] [] ?_)
  refine NS (gK 5 [(18,vP t),(19,vI (h))] [(3,a_ 0 f)] ?_)
  refine gL [1] (mg t S.X.cH S.av (bn L S.us) h hw (dR L ⟨tk,1⟩) (kS dL)) ?_
  rintro _ _ ⟨rfl,rfl⟩
  refine gK 5 [(10,.iface 162 (vP (L.b tk))),(11,vI 0)] [] ?_
  refine NN (af.seq (SR (gK 2 [(24,.bool false)] [] ?_)))
  refine NN (CF (af.skip (NX (SR (gK 7 [(12,.pointer none),(13,.bool false)] [] ?_)))))
  refine NN (af.seq (af.block (SR ?_)))
  refine gK 3 [(31,.bool true)] [] ?_
  refine NN (CT (SR (gK 2 [(8,.pointer none),(9,vI 173)] [] ?_)))
  refine NN (af.ret (aj.aF (aj.aq ?_)))
  exact RT (.tuple #[.pointer none,vI 173]) [1,0,2,3] (⟨by rw [show dS S.O S.us h name need=.error 173 by unfold dS;rw [dL];exact if_neg (by simp)];rfl,rfl⟩)
 have hkt:(obj S.O tk).kind=2:=hI.kind hlv
 refine af.region (gK 2 [] [] ?_)
 refine NS (gK 5 [(18,vP t),(19,vI (h))] [(3,a_ 0 f)] ?_)
 refine gL [1] (mg t S.X.cH S.av (bn L S.us) h hw (dR L ⟨tk,2⟩) (kS dL)) ?_
 rintro _ _ ⟨rfl,rfl⟩
 refine gK 5 [(10,.iface 169 (vP (L.b tk))),(11,vI 0)] [] ?_
 refine NN (af.seq (SR (gK 2 [(24,.bool false)] [] ?_)))
 refine NN (CF (af.skip (NX (SR (gK 7 [(12,vP (L.b tk)),(13,.bool true)] [] ?_)))))
 refine NN (af.seq (af.block (SR ?_)))
 refine gK 3 [(31,.bool false)] [] ?_
 refine NN (CF (SR (gK 6 [(34,.bool (obj S.O tk).gone)] [(4,v_ 2 (oh L hkt))] ?_)))
 refine NN (af.cond (b:=(obj S.O tk).gone) (fun _=>by kernel_rfl) (fun zS=>?_) (fun zS=>?_))
 ·refine SR (gK 2 [(8,.pointer none),(9,vI 170)] [] ?_)
  refine NN (af.ret (aj.aF (aj.aq ?_)))
  exact RT (.tuple #[.pointer none,vI 170]) [1,0,2,3] (⟨by rw [show dS S.O S.us h name need=.error 170 by unfold dS;rw [dL];exact (if_pos rfl).trans (if_pos zS)];rfl,rfl⟩)
 refine SR (gK 1 [(41,.string name)] [] ?_)
 refine gL [] (sV name hsz) ?_
 rintro _ _ ⟨rfl,rfl⟩
 refine gK 2 [(40,.bool (!(decide (bK name))))] [] ?_
 refine NN (af.dx (p:=bK name) (fun _=>by kernel_rfl) (fun Gw=>?_) (fun Gw=>?_))
 ·refine SR (gK 2 [(8,.pointer none),(9,vI 95)] [] ?_)
  refine NN (af.ret (aj.aF (aj.aq ?_)))
  exact RT (.tuple #[.pointer none,vI 95]) [1,0,2,3] (⟨by rw [show dS S.O S.us h name need=.error 95 by unfold dS;rw [dL];exact (if_pos rfl).trans ((if_neg (by rw [zS];decide)).trans (if_neg Gw))];rfl,rfl⟩)
 refine SR (gK 10 [(44,.bool (!(decide ((bits BinOp.and .i64 ((obj S.O tk).mode) need:Int)=(need:Int)))))] [(4,v_ 2 (tq L hkt))] ?_)
 refine NN (af.dx (p:=(bits BinOp.and .i64 ((obj S.O tk).mode) need:Int)=(need:Int)) (fun _=>by kernel_rfl) (fun KZ=>?_) (fun KZ=>?_))
 ·refine SR (gK 2 [(8,.pointer none),(9,vI 175)] [] ?_)
  refine NN (af.ret (aj.aF (aj.aq ?_)))
  exact RT (.tuple #[.pointer none,vI 175]) [1,0,2,3] (⟨by rw [show dS S.O S.us h name need=.error 175 by unfold dS;rw [dL];exact (if_pos rfl).trans ((if_neg (by rw [zS];decide)).trans ((if_pos Gw).trans (if_neg KZ)))];rfl,rfl⟩)
 refine af.skip (aj.aQ (NX (SR ?_)))
 refine gK 3 [(8,vP (L.b tk)),(9,vI 0)] [] ?_
 refine NN (af.ret ?_)
 exact RT (.tuple #[vP (L.b tk),vI 0]) [1,0,2,3] (⟨by rw [show dS S.O S.us h name need=.ok tk by unfold dS;rw [dL];exact (if_pos rfl).trans ((if_neg (by rw [zS];decide)).trans ((if_pos Gw).trans (if_pos KZ)))];rfl,rfl⟩)
theorem QA {β:Bs} (X:FM) (f m t:Nat) (hX:0<=X.ah/\X.ah<=1048576/\-1125899906842624<=X.used/\X.used<=1125899906842624/\0<=X.last/\X.last<=1125899906842624) (O:ck) (L:HL) (d:Nat) (hkd:(obj O d).kind=2) (name:ByteArray) (hsz:name.size<=1048576) (hno:aU name (obj O d).ah=none) (hel:(obj O d).ah.length<=1048576) (idx:Used Th) (hil:idx.length<=1048576) (th:Th) (hkt:(obj O th.k).kind=th.kind) (h3:th.kind=1\/th.kind=2\/th.kind=3) (hb:0<=(obj O th.k).links/\(obj O th.k).links<=1048576) (hni:aB.get idx (obj O th.k).id=none) (hw:(Lit.int .i64 (obj O th.k).id).wf=true) :
    Spec Tryz.prog β 193 #[vP f,vP (L.b d),.string name,(dR L th)] [pF f m t X,pI m L idx,pO O L,pE O L] (fun v l=>v=.tuple #[]/\l=[pF f m t { X with ah:=X.ah+1 },pI m L (ins (obj O th.k).id th idx),pO (cV X O d name th) L,pE (cV X O d name th) L]):=by
 refine Spec.enter Tryz.func193 rfl Tryz.ntmps193 (Nat.le_of_ble_eq_true rfl) (fun R=>?_)
 refine af.seq ?_
 obtain⟨tk,kd⟩:=th;simp only at hkt h3;rcases h3 with rfl|rfl|rfl
 ·replace hkt:(obj O tk).kind=1:=hkt
  replace hni:aB.get idx (obj O tk).id=none:=hni
  replace hw:(Lit.int .i64 (obj O tk).id).wf=true:=hw
  refine af.bU (S:=(xI f m t X L idx O R)) [0,1,2,3,4,9,5,6,7,8,10] 6 [0,1,2,3,4] (by kernel_rfl) (by kernel_rfl) rfl (by kernel_rfl) ?_
  refine gR 0 [5,6,7,8,10] (Gv f L d name++[(3,.iface 162 (vP (L.b tk))),(11,.map (some m)),(12,.iface 162 (vP (L.b tk))),(17,.iface 162 (vP (L.b tk)))]) [0,1,2,3,4,9] [(3,a_ 0 f)] ?_
  refine mL [0,1,2,3,4] [] (dr (L.b tk)) ?_ (by rintro _ _ ⟨rfl,rfl⟩;rfl)
  rintro _ _ ⟨rfl,rfl⟩
  refine aO.cut (ι:=Unit) (fr':=fun (_:Unit)=>(Ct f L d name++[(3,.iface 162 (vP (L.b tk))),(11,.map (some m)),(14,vP (L.b tk)),(17,.iface 162 (vP (L.b tk)))])) (hp':=fun (_:Unit)=>(xI f m t X L idx O R)) [0,1,2,3,4] rfl rfl ?_ rfl (fun _=>by kernel_rfl) ?_
  ·refine gK 1 [(14,vP (L.b tk))] [] ?_
   refine NL ?_
   exact MD () [0,1,2,3,11,14,17] [0,1,2,3,4]
  rintro _
  refine aO.cut (ι:=Unit) (fr':=fun (_:Unit)=>(Ct f L d name++[(3,.iface 162 (vP (L.b tk))),(11,.map (some m)),(15,vP (L.b tk)),(17,.iface 162 (vP (L.b tk)))])) (hp':=fun (_:Unit)=>(xI f m t X L idx O R)) [0,1,2,3,4] rfl rfl ?_ rfl (fun _=>by kernel_rfl) ?_
  ·refine gK 1 [(15,vP (L.b tk))] [] ?_
   refine NL ?_
   exact MD () [0,1,2,3,11,15,17] [0,1,2,3,4]
  rintro _
  refine aO.cut (ι:=Unit) (fr':=fun (_:Unit)=>(Ct f L d name++[(3,.iface 162 (vP (L.b tk))),(11,.map (some m)),(16,vI ((obj O tk).id)),(17,.iface 162 (vP (L.b tk)))])) (hp':=fun (_:Unit)=>(xI f m t X L idx O R)) [0,1,2,3,4] rfl rfl ?_ rfl (fun _=>by kernel_rfl) ?_
  ·refine gK 1 [(16,vI ((obj O tk).id))] [(0,v_ 2 (rJ L hkt))] ?_
   refine NL ?_
   exact MD () [0,1,2,3,11,16,17] [0,1,2,3,4]
  rintro _
  refine aO.last rfl rfl ?_
  refine ak.ld 1 (d:=none) (t:=151) (K:=3) (E:=156) (b:=m) (n:=idx.length) (f:=(bg (bn L idx))) (x:=(.tmp 11)) (ix:=(.tmp 16)) (y:=(.tmp 17)) (key:=.int .i64 ((obj O tk).id)) (u:=.iface 162 (vP (L.b tk))) (kl:=(.int .i64 (obj O tk).id)) (n':=(idx.length+1)) (f':=(bg (bn L (ins (obj O tk).id ⟨tk,1⟩ idx)))) (fun _=>by kernel_rfl) (by kernel_rfl) (fun _=>by kernel_rfl) (fun _=>by kernel_rfl) (fun _=>by kernel_rfl) eE Tryz.underlying151 (by unfold maxLen;omega) (iR hw) (by rw [fP,hni];rfl) (sJ (L:=L) (t:=⟨tk,1⟩) hni) ?_
  refine NL (aj.np (NX (af.region ?_)))
  refine gK 4 (Sg f L d name++[(21,.iface 162 (vP (L.b tk)))]) [] ?_
  refine gL [0,2,3] (jk X f m t hX O L d hkd name hsz hno hel ⟨tk,1⟩ hkt (by simp) hb) ?_
  rintro _ _ ⟨rfl,rfl⟩
  refine NL (aj.dN [(3,.abs (aP Tryz.prog 3 m (bg (bn L (ins (obj O tk).id ⟨tk,1⟩ idx))) ((ins (obj O tk).id ⟨tk,1⟩ idx).length)))] (fun w hS=>by rw [show (ins (obj O tk).id ⟨tk,1⟩ idx).length=idx.length+1 from iE _ _ _];exact hS) ?_)
  exact RF (.tuple #[]) [0,3,1,2,4] (⟨rfl,rfl⟩)
 ·replace hkt:(obj O tk).kind=2:=hkt
  replace hni:aB.get idx (obj O tk).id=none:=hni
  replace hw:(Lit.int .i64 (obj O tk).id).wf=true:=hw
  refine af.bU (S:=(xI f m t X L idx O R)) [0,1,2,3,4,9,5,6,7,8,10] 6 [0,1,2,3,4] (by kernel_rfl) (by kernel_rfl) rfl (by kernel_rfl) ?_
  refine gR 0 [5,6,7,8,10] (Gv f L d name++[(3,.iface 169 (vP (L.b tk))),(11,.map (some m)),(12,.iface 169 (vP (L.b tk))),(17,.iface 169 (vP (L.b tk)))]) [0,1,2,3,4,9] [(3,a_ 0 f)] ?_
  refine mL [0,1,2,3,4] [] (dr (L.b tk)) ?_ (by rintro _ _ ⟨rfl,rfl⟩;rfl)
  rintro _ _ ⟨rfl,rfl⟩
  refine aO.cut (ι:=Unit) (fr':=fun (_:Unit)=>(Ct f L d name++[(3,.iface 169 (vP (L.b tk))),(11,.map (some m)),(14,vP (L.b tk)),(17,.iface 169 (vP (L.b tk)))])) (hp':=fun (_:Unit)=>(xI f m t X L idx O R)) [0,1,2,3,4] rfl rfl ?_ rfl (fun _=>by kernel_rfl) ?_
  ·refine gK 1 [(14,vP (L.b tk))] [] ?_
   refine NL ?_
   exact MD () [0,1,2,3,11,14,17] [0,1,2,3,4]
  rintro _
  refine aO.cut (ι:=Unit) (fr':=fun (_:Unit)=>(Ct f L d name++[(3,.iface 169 (vP (L.b tk))),(11,.map (some m)),(15,vP (L.b tk)),(17,.iface 169 (vP (L.b tk)))])) (hp':=fun (_:Unit)=>(xI f m t X L idx O R)) [0,1,2,3,4] rfl rfl ?_ rfl (fun _=>by kernel_rfl) ?_
  ·refine gK 1 [(15,vP (L.b tk))] [] ?_
   refine NL ?_
   exact MD () [0,1,2,3,11,15,17] [0,1,2,3,4]
  rintro _
  refine aO.cut (ι:=Unit) (fr':=fun (_:Unit)=>(Ct f L d name++[(3,.iface 169 (vP (L.b tk))),(11,.map (some m)),(16,vI ((obj O tk).id)),(17,.iface 169 (vP (L.b tk)))])) (hp':=fun (_:Unit)=>(xI f m t X L idx O R)) [0,1,2,3,4] rfl rfl ?_ rfl (fun _=>by kernel_rfl) ?_
  ·refine gK 1 [(16,vI ((obj O tk).id))] [(0,v_ 2 (rJ L hkt))] ?_
   refine NL ?_
   exact MD () [0,1,2,3,11,16,17] [0,1,2,3,4]
  rintro _
  refine aO.last rfl rfl ?_
  refine ak.ld 1 (d:=none) (t:=151) (K:=3) (E:=156) (b:=m) (n:=idx.length) (f:=(bg (bn L idx))) (x:=(.tmp 11)) (ix:=(.tmp 16)) (y:=(.tmp 17)) (key:=.int .i64 ((obj O tk).id)) (u:=.iface 169 (vP (L.b tk))) (kl:=(.int .i64 (obj O tk).id)) (n':=(idx.length+1)) (f':=(bg (bn L (ins (obj O tk).id ⟨tk,2⟩ idx)))) (fun _=>by kernel_rfl) (by kernel_rfl) (fun _=>by kernel_rfl) (fun _=>by kernel_rfl) (fun _=>by kernel_rfl) eE Tryz.underlying151 (by unfold maxLen;omega) (iR hw) (by rw [fP,hni];rfl) (sJ (L:=L) (t:=⟨tk,2⟩) hni) ?_
  refine NL (aj.np (NX (af.region ?_)))
  refine gK 4 (Sg f L d name++[(21,.iface 169 (vP (L.b tk)))]) [] ?_
  refine gL [0,2,3] (jk X f m t hX O L d hkd name hsz hno hel ⟨tk,2⟩ hkt (by simp) hb) ?_
  rintro _ _ ⟨rfl,rfl⟩
  refine NL (aj.dN [(3,.abs (aP Tryz.prog 3 m (bg (bn L (ins (obj O tk).id ⟨tk,2⟩ idx))) ((ins (obj O tk).id ⟨tk,2⟩ idx).length)))] (fun w hS=>by rw [show (ins (obj O tk).id ⟨tk,2⟩ idx).length=idx.length+1 from iE _ _ _];exact hS) ?_)
  exact RF (.tuple #[]) [0,3,1,2,4] (⟨rfl,rfl⟩)
 replace hkt:(obj O tk).kind=3:=hkt
 replace hni:aB.get idx (obj O tk).id=none:=hni
 replace hw:(Lit.int .i64 (obj O tk).id).wf=true:=hw
 refine af.bU (S:=(xI f m t X L idx O R)) [0,1,2,3,4,9,5,6,7,8,10] 6 [0,1,2,3,4] (by kernel_rfl) (by kernel_rfl) rfl (by kernel_rfl) ?_
 refine gR 0 [5,6,7,8,10] (Gv f L d name++[(3,.iface 166 (vP (L.b tk))),(11,.map (some m)),(12,.iface 166 (vP (L.b tk))),(17,.iface 166 (vP (L.b tk)))]) [0,1,2,3,4,9] [(3,a_ 0 f)] ?_
 refine mL [0,1,2,3,4] [] (dr (L.b tk)) ?_ (by rintro _ _ ⟨rfl,rfl⟩;rfl)
 rintro _ _ ⟨rfl,rfl⟩
 refine aO.cut (ι:=Unit) (fr':=fun (_:Unit)=>(Ct f L d name++[(3,.iface 166 (vP (L.b tk))),(11,.map (some m)),(14,vP (L.b tk)),(17,.iface 166 (vP (L.b tk)))])) (hp':=fun (_:Unit)=>(xI f m t X L idx O R)) [0,1,2,3,4] rfl rfl ?_ rfl (fun _=>by kernel_rfl) ?_
 ·refine gK 1 [(14,vP (L.b tk))] [] ?_
  refine NL ?_
  exact MD () [0,1,2,3,11,14,17] [0,1,2,3,4]
 rintro _
 refine aO.cut (ι:=Unit) (fr':=fun (_:Unit)=>(Ct f L d name++[(3,.iface 166 (vP (L.b tk))),(11,.map (some m)),(15,vP (L.b tk)),(17,.iface 166 (vP (L.b tk)))])) (hp':=fun (_:Unit)=>(xI f m t X L idx O R)) [0,1,2,3,4] rfl rfl ?_ rfl (fun _=>by kernel_rfl) ?_
 ·refine gK 1 [(15,vP (L.b tk))] [] ?_
  refine NL ?_
  exact MD () [0,1,2,3,11,15,17] [0,1,2,3,4]
 rintro _
 refine aO.cut (ι:=Unit) (fr':=fun (_:Unit)=>(Ct f L d name++[(3,.iface 166 (vP (L.b tk))),(11,.map (some m)),(16,vI ((obj O tk).id)),(17,.iface 166 (vP (L.b tk)))])) (hp':=fun (_:Unit)=>(xI f m t X L idx O R)) [0,1,2,3,4] rfl rfl ?_ rfl (fun _=>by kernel_rfl) ?_
 ·refine gK 1 [(16,vI ((obj O tk).id))] [(0,v_ 2 (rJ L hkt))] ?_
  refine NL ?_
  exact MD () [0,1,2,3,11,16,17] [0,1,2,3,4]
 rintro _
 refine aO.last rfl rfl ?_
 refine ak.ld 1 (d:=none) (t:=151) (K:=3) (E:=156) (b:=m) (n:=idx.length) (f:=(bg (bn L idx))) (x:=(.tmp 11)) (ix:=(.tmp 16)) (y:=(.tmp 17)) (key:=.int .i64 ((obj O tk).id)) (u:=.iface 166 (vP (L.b tk))) (kl:=(.int .i64 (obj O tk).id)) (n':=(idx.length+1)) (f':=(bg (bn L (ins (obj O tk).id ⟨tk,3⟩ idx)))) (fun _=>by kernel_rfl) (by kernel_rfl) (fun _=>by kernel_rfl) (fun _=>by kernel_rfl) (fun _=>by kernel_rfl) eE Tryz.underlying151 (by unfold maxLen;omega) (iR hw) (by rw [fP,hni];rfl) (sJ (L:=L) (t:=⟨tk,3⟩) hni) ?_
 refine NL (aj.np (NX (af.region ?_)))
 refine gK 4 (Sg f L d name++[(21,.iface 166 (vP (L.b tk)))]) [] ?_
 refine gL [0,2,3] (jk X f m t hX O L d hkd name hsz hno hel ⟨tk,3⟩ hkt (by simp) hb) ?_
 rintro _ _ ⟨rfl,rfl⟩
 refine NL (aj.dN [(3,.abs (aP Tryz.prog 3 m (bg (bn L (ins (obj O tk).id ⟨tk,3⟩ idx))) ((ins (obj O tk).id ⟨tk,3⟩ idx).length)))] (fun w hS=>by rw [show (ins (obj O tk).id ⟨tk,3⟩ idx).length=idx.length+1 from iE _ _ _];exact hS) ?_)
 exact RF (.tuple #[]) [0,3,1,2,4] (⟨rfl,rfl⟩)
end
section
open Go.RowKit Go.Maps bF aB
attribute [local irreducible] ak aR af aj
theorem sD {β:Bs} (S:aG) (L:HL) (f m t:Nat) (hI:Inv0 S) (d:Nat) (hd:Live S.idx ⟨d,2⟩) (name:ByteArray) (hsz:name.size<=1048576) (hno:aU name (obj S.O d).ah=none) (o:aT) (hid:o.id=S.X.last+1) (hk3:o.kind=1\/o.kind=2\/o.kind=3) (hl0:o.links=0) (hlast:S.X.last < 1099511627776) :
    Spec Tryz.prog β 193 #[vP f,vP (L.b d),.string name,dR L ⟨(aN S.X),o.kind⟩] [pF f m t { S.X with last:=S.X.last+1 },pI m L S.idx,pO (aH S.O (aN S.X) (fun _=>o)) L,pE (aH S.O (aN S.X) (fun _=>o)) L] (fun v l=>v=.tuple #[]/\l=[pF f m t ((fw S d name o).X),pI m L ((fw S d name o).idx),pO ((fw S d name o).O) L,pE ((fw S d name o).O) L]):=by
  have hX:=hI.hX
  have hne:d≠(aN S.X):=hI.vu hd
  have hkd:(obj S.O d).kind=2:=hI.kind hd
  have hel:(obj S.O d).ah.length<=8192:=hI.ic hd
  have hlen:=hI.len
  have e1:obj (aH S.O (aN S.X) (fun _=>o)) (aN S.X)=o:=bR
  have e2:obj (aH S.O (aN S.X) (fun _=>o)) d=obj S.O d:=cF hne
  have hnk:=qw hI
  have h:=QA (β:=β) { S.X with last:=S.X.last+1 } f m t (by simp only;omega) (aH S.O (aN S.X) (fun _=>o)) L d (by rw [e2];exact hkd) name hsz (by rw [e2];exact hno) (by rw [e2];omega) S.idx (by omega) ⟨(aN S.X),o.kind⟩ (by rw [e1]) hk3 (by rw [e1,hl0];decide) (by
    rw [e1,hid]
    cases e:aB.get S.idx (S.X.last+1) with
    | none=>rfl
    | some u=>have:=(hI.idx _ u e).2.2;omega) (by rw [e1,hid];exact WalkArith.wf_i64 (by have:=hI.last;omega))
  rw [e1,hid] at h
  exact h
theorem Ek {β:Bs} (S:aG) (L:HL) (f m t:Nat) (hI:Inv S) (d:Nat) (hd:Live S.idx ⟨d,2⟩) (name:ByteArray) (hsz:name.size<=1048576) (mode:Int) :
    Spec Tryz.prog β 190 #[vP f,vP (L.b d),.string name,vI (mode)] (pA f m t L S) (fun v l=>∃ L2,v=vI (gS S d name mode).1/\l=(pA f m t L2 ((gS S d name mode).2))):=by
 have hX:=hI.hX
 have hel:(obj S.O d).ah.length<=8192:=hI.ic hd
 have hkd:(obj S.O d).kind=2:=hI.kind hd
 refine Spec.enter Tryz.func190 rfl Tryz.ntmps190 (Nat.le_of_ble_eq_true rfl) (fun R=>?_)
 refine SR (gK 1 [] [] ?_)
 refine NS (gK 3 [(10,vP f),(11,vP (L.b d)),(12,.string name)] [] ?_)
 refine gL [0,1,5,3] (uw S L f m t hI d hd name hsz) ?_
 rintro _ _ ⟨rfl,rfl⟩
 refine gK 1 [(9,vI ((cq S.X S.O S.idx d name)))] [] ?_
 refine NN (af.seq (SR (gK 2 [(15,.bool (decide (((cq S.X S.O S.idx d name):Int)=(0:Int))))] [] ?_)))
 refine NN (af.bh (p:=((cq S.X S.O S.idx d name):Int)=(0:Int)) (fun _=>by kernel_rfl) (fun h0=>?_) (fun h0=>?_))
 ·have hno:=oY h0
  refine af.region (gK 5 [(16,vP f),(17,vP (L.b d)),(18,.string name),(19,vP f),(20,vI (mode))] [] ?_)
  refine gL [0] (ur S.X f m t hX mode) ?_
  rintro _ _ ⟨rfl,rfl⟩
  refine ak.mF (d:=(some 22)) (t:=174) (fun _=>by kernel_rfl) Tryz.prog rfl 9 (fun m1=>?_)
  refine gN 3 (fun b2=>[(25,.iface 169 (vP b2))]) (fun _=>[]) (fun _=>[]) (fun b2=>.blk b2 [vI (S.X.last+1),vI (mode),vI 0,vI 0,vI (S.X.cS),vI (S.X.cZ),vI 0,vI 0,.bool false,.map (some m1),.pointer none] 176) (fun b2=>?_)
  obtain⟨L2,hL2⟩:∃ L2:HL,L2=L.put (aN S.X) b2 m1 none 0:=⟨_,rfl⟩
  have hfr:=hI.toInv0.fresh
  refine ak.mem (fun w hS=>hS.uh hL2 hfr (o:=(aW S.X 2 mode)) (i:=3) (j:=8) (ix:=[0,1,2,4,5,6,7]) rfl rfl (by kernel_rfl) rfl (by show (2:Int)≠0;decide) ((lY (L:=L2) (k:=(aN S.X)) (o:=(aW S.X 2 mode)) rfl).trans (by rw [FX hL2];rfl)) rfl) ?_
  refine ak.mem (fun w hS=>hS.Po hL2 hfr (o:=(aW S.X 2 mode)) (i:=3) (j:=7) (ix:=[0,1,2,4,5,6]) rfl rfl (by kernel_rfl) rfl rfl rfl) ?_
  refine ak.dN [(5,pD (aH S.O (aN S.X) (fun _=>(aW S.X 2 mode))) L2)] (fun w hS=>hS.Cc hL2 (o:=(aW S.X 2 mode)) (i:=5) rfl (by show (2:Int)≠1;decide)) ?_
  refine ak.dN [(3,.abs (aP Tryz.prog 3 m (bg (bn L2 S.idx)) S.idx.length)),(4,.abs (cE 212 t S.X.cH S.av (bn L2 S.us)))] (fun w hS=>by rw [iH hL2 hfr.idx,iH hL2 hfr.us];exact hS) ?_
  refine gL (f:=193) (args:=#[vP f,vP (L.b d),.string name,.iface 169 (vP b2)]) (pre:=[pF f m t { S.X with last:=S.X.last+1 },pI m L2 S.idx,pO (aH S.O (aN S.X) (fun _=>(aW S.X 2 mode))) L2,pE (aH S.O (aN S.X) (fun _=>(aW S.X 2 mode))) L2]) [2,3,1,0] ((by have h:=sD (β:=β) S L2 f m t hI.toInv0 d hd name hsz hno (aW S.X 2 mode) rfl (by simp [aW]) rfl (qN h0);rw [wM hL2 (hI.vu hd),oW hL2] at h;exact h)) ?_
  rintro _ _ ⟨rfl,rfl⟩
  refine NS (ak.dN [(5,.abs (ay (bO ((fw S d name (aW S.X 2 mode)).O) L2)))] (fun w hS=>by rw [show bO ((fw S d name (aW S.X 2 mode)).O) L2=bO (aH S.O (aN S.X) (fun _=>(aW S.X 2 mode))) L2 from iV];exact hS) ?_)
  refine gK 2 [(8,vI ((cq S.X S.O S.idx d name)))] [] ?_
  refine NN (af.ret ?_)
  exact RT (vI ((cq S.X S.O S.idx d name))) [0,1,4,2,5,3,6] (⟨L2,by rw [show gS S d name mode=_ from if_pos h0];refine⟨congrArg _ h0,?_⟩;rfl⟩)
 refine af.skip (NX (SR (gK 2 [(8,vI ((cq S.X S.O S.idx d name)))] [] ?_)))
 refine NN (af.ret ?_)
 exact RT (vI ((cq S.X S.O S.idx d name))) [0,1,4,3,5,2,6] (⟨L,by rw [show gS S d name mode=_ from if_neg h0]<;>exact⟨rfl,rfl⟩⟩)
theorem zZ {β:Bs} (S:aG) (L:HL) (f m t:Nat) (hI:Inv S) (d:Nat) (hd:Live S.idx ⟨d,2⟩) (name:ByteArray) (hsz:name.size<=1048576) (text:ByteArray) (PI:text.size<=1048576) :
    Spec Tryz.prog β 194 #[vP f,vP (L.b d),.string name,.string text] (pA f m t L S) (fun v l=>∃ L2,v=vI (eV S d name text).1/\l=(pA f m t L2 ((eV S d name text).2))):=by
 have hX:=hI.hX
 have hel:(obj S.O d).ah.length<=8192:=hI.ic hd
 have hkd:(obj S.O d).kind=2:=hI.kind hd
 refine Spec.enter Tryz.func194 rfl Tryz.ntmps194 (Nat.le_of_ble_eq_true rfl) (fun R=>?_)
 refine SR (gK 1 [] [] ?_)
 refine NS (gK 1 [(10,.string text)] [] ?_)
 refine gL [] (Qz text PI) ?_
 rintro _ _ ⟨rfl,rfl⟩
 refine gK 1 [(9,vI ((nS text)))] [] ?_
 refine NN (af.seq (SR (gK 2 [(13,.bool (decide (((nS text):Int)=(0:Int))))] [] ?_)))
 refine NN (af.bh (p:=((nS text):Int)=(0:Int)) (fun _=>by kernel_rfl) (fun hb=>?_) (fun hb=>?_))
 ·refine af.region (gK 3 [(14,vP f),(15,vP (L.b d)),(16,.string name)] [] ?_)
  refine gL [0,1,5,3] (uw S L f m t hI d hd name hsz) ?_
  rintro _ _ ⟨rfl,rfl⟩
  refine gK 1 [(9,vI ((cq S.X S.O S.idx d name)))] [] ?_
  refine NN (af.seq (SR (gK 2 [(19,.bool (decide (((cq S.X S.O S.idx d name):Int)=(0:Int))))] [] ?_)))
  refine NN (af.bh (p:=((cq S.X S.O S.idx d name):Int)=(0:Int)) (fun _=>by kernel_rfl) (fun h0=>?_) (fun h0=>?_))
  ·have hno:=oY h0
   refine af.region (gK 4 [(20,vP f),(21,vP (L.b d)),(22,.string name),(23,vP f)] [] ?_)
   refine gL [0] (ur S.X f m t hX 511) ?_
   rintro _ _ ⟨rfl,rfl⟩
   refine gN 4 (fun b3=>[(28,.iface 166 (vP b3))]) (fun _=>[]) (fun _=>[]) (fun b3=>.blk b3 [vI (S.X.last+1),vI (511),vI 0,vI 0,vI (S.X.cS),vI (S.X.cZ),vI 0,vI 0,.bool false,.string text] 168) (fun b3=>?_)
   obtain⟨L2,hL2⟩:∃ L2:HL,L2=L.put (aN S.X) b3 0 none 0:=⟨_,rfl⟩
   have hfr:=hI.toInv0.fresh
   refine ak.mem (fun w hS=>hS.uh hL2 hfr (o:={ aW S.X 3 511 with target:=text }) (i:=3) (j:=7) (ix:=[0,1,2,4,5,6]) rfl rfl (by kernel_rfl) rfl (by show (3:Int)≠0;decide) ((yg (L:=L2) (k:=(aN S.X)) (o:={ aW S.X 3 511 with target:=text }) rfl).trans (by rfl)) rfl) ?_
   refine ak.dN [(3,pE (aH S.O (aN S.X) (fun _=>{ aW S.X 3 511 with target:=text })) L2)] (fun w hS=>hS.vw hL2 hfr (o:={ aW S.X 3 511 with target:=text }) (i:=3) rfl (by show (3:Int)≠2;decide)) ?_
   refine ak.dN [(5,pD (aH S.O (aN S.X) (fun _=>{ aW S.X 3 511 with target:=text })) L2)] (fun w hS=>hS.Cc hL2 (o:={ aW S.X 3 511 with target:=text }) (i:=5) rfl (by show (3:Int)≠1;decide)) ?_
   refine ak.dN [(2,.abs (aP Tryz.prog 3 m (bg (bn L2 S.idx)) S.idx.length)),(4,.abs (cE 212 t S.X.cH S.av (bn L2 S.us)))] (fun w hS=>by rw [iH hL2 hfr.idx,iH hL2 hfr.us];exact hS) ?_
   refine gL (f:=193) (args:=#[vP f,vP (L.b d),.string name,.iface 166 (vP b3)]) (pre:=[pF f m t { S.X with last:=S.X.last+1 },pI m L2 S.idx,pO (aH S.O (aN S.X) (fun _=>{ aW S.X 3 511 with target:=text })) L2,pE (aH S.O (aN S.X) (fun _=>{ aW S.X 3 511 with target:=text })) L2]) [1,2,0,3] ((by have h:=sD (β:=β) S L2 f m t hI.toInv0 d hd name hsz hno { aW S.X 3 511 with target:=text } rfl (by simp [aW]) rfl (qN h0);rw [wM hL2 (hI.vu hd),oW hL2] at h;exact h)) ?_
   rintro _ _ ⟨rfl,rfl⟩
   refine NS (ak.dN [(5,.abs (ay (bO ((fw S d name { aW S.X 3 511 with target:=text }).O) L2)))] (fun w hS=>by rw [show bO ((fw S d name { aW S.X 3 511 with target:=text }).O) L2=bO (aH S.O (aN S.X) (fun _=>{ aW S.X 3 511 with target:=text })) L2 from iV];exact hS) ?_)
   refine gK 2 [(8,vI ((cq S.X S.O S.idx d name)))] [] ?_
   refine NN (af.ret ?_)
   exact RT (vI ((cq S.X S.O S.idx d name))) [0,1,4,2,5,3,6] (⟨L2,by rw [show eV S d name text=_ from (if_pos hb).trans (if_pos h0)];refine⟨congrArg _ h0,?_⟩;rfl⟩)
  refine af.skip (NX (SR (gK 2 [(8,vI ((cq S.X S.O S.idx d name)))] [] ?_)))
  refine NN (af.ret ?_)
  exact RT (vI ((cq S.X S.O S.idx d name))) [0,1,4,3,5,2,6] (⟨L,by rw [show eV S d name text=_ from (if_pos hb).trans (if_neg h0)]<;>exact⟨rfl,rfl⟩⟩)
 refine af.skip (NX (af.seq (SR (gK 2 [(19,.bool (decide (((nS text):Int)=(0:Int))))] [] ?_))))
 refine NN (af.bh (p:=((nS text):Int)=(0:Int)) (fun _=>by kernel_rfl) (fun h0=>?_) (fun h0=>?_))
 ·exact absurd h0 hb
 refine af.skip (NX (SR (gK 2 [(8,vI ((nS text)))] [] ?_)))
 refine NN (af.ret ?_)
 exact RT (vI ((nS text))) [0,1,2,3,4,5,6] (⟨L,by rw [show eV S d name text=_ from if_neg hb]<;>exact⟨rfl,rfl⟩⟩)
theorem Cu {β:Bs} (S:aG) (L:HL) (f m t:Nat) (hI:Inv S) (d:Nat) (hd:Live S.idx ⟨d,2⟩) (name:ByteArray) (hsz:name.size<=1048576) :
    Spec Tryz.prog β 197 #[vP f,vP (L.b d),.string name] (pA f m t L S) (fun v l=>∃ L2,v=vI (eF S d name).1/\l=(pA f m t L2 ((eF S d name).2))):=by
 have hX:=hI.hX
 have hel:(obj S.O d).ah.length<=8192:=hI.ic hd
 have hkd:(obj S.O d).kind=2:=hI.kind hd
 refine Spec.enter Tryz.func197 rfl Tryz.ntmps197 (Nat.le_of_ble_eq_true rfl) (fun R=>?_)
 refine af.seq ?_
 rcases hI.mQ hd name with hlk|⟨tk,hlk,hlv⟩|⟨tk,hlk,hlv⟩|⟨tk,hlk,hlv⟩
 ·refine af.region (gK 1 [] [] ?_)
  refine NN (af.seq (SR (gK 5 [(10,.map (some (L.m d))),(11,.string name)] [(3,v_ 3 (bH L hkd))] ?_)))
  refine je 5 hkd hlk ?_
  refine NN (af.block (SR ?_))
  refine gK 1 [(13,.bool true)] [] ?_
  refine NN (CT (SR (gK 1 [(6,vI 170)] [] ?_)))
  refine NN (af.ret (aj.aF (aj.aq ?_)))
  exact RT (vI 170) [0,1,2,3,4,5,6] (⟨L,by rw [show eF S d name=(170,S) by unfold eF;rw [hlk]]<;>exact⟨rfl,rfl⟩⟩)
 ·have hkt:(obj S.O tk).kind=1:=hI.kind hlv
  refine af.region (gK 1 [] [] ?_)
  refine NN (af.seq (SR (gK 5 [(10,.map (some (L.m d))),(11,.string name)] [(3,v_ 3 (bH L hkd))] ?_)))
  refine je 5 hkd hlk ?_
  refine NN (af.block (SR ?_))
  refine gK 1 [(13,.bool false)] [] ?_
  refine NN (CF (SR (gK 3 [(15,.bool false)] [] ?_)))
  refine NN (CF (af.skip (aj.aQ (NX (SR ?_)))))
  refine gK 3 [(17,vP f),(18,vP (L.b d)),(19,.string name)] [] ?_
  refine gL [0,3,5,1] (oF S L f m t hI d hd name hsz ⟨tk,1⟩ hlk) ?_
  rintro _ _ ⟨rfl,rfl⟩
  refine NS (ak.dN [(5,.abs (ay (bO ((aK S d name ⟨tk,1⟩).O) L)))] (fun w hS=>by rw [show bO ((aK S d name ⟨tk,1⟩).O) L=bO S.O L from oA];exact hS) ?_)
  refine gK 1 [(6,vI 0)] [] ?_
  refine NN (af.ret ?_)
  exact RT (vI 0) [0,3,4,1,5,2,6] (⟨L,by rw [show eF S d name=(0,aK S d name ⟨tk,1⟩) by unfold eF;rw [hlk];exact if_neg (by simp)]<;>exact⟨rfl,rfl⟩⟩)
 ·have hkt:(obj S.O tk).kind=2:=hI.kind hlv
  refine af.region (gK 1 [] [] ?_)
  refine NN (af.seq (SR (gK 5 [(10,.map (some (L.m d))),(11,.string name)] [(3,v_ 3 (bH L hkd))] ?_)))
  refine je 5 hkd hlk ?_
  refine NN (af.block (SR ?_))
  refine gK 1 [(13,.bool false)] [] ?_
  refine NN (CF (SR (gK 3 [(15,.bool true)] [] ?_)))
  refine NN (CT (SR (gK 1 [(6,vI 172)] [] ?_)))
  refine NN (af.ret (aj.aF (aj.aq ?_)))
  exact RT (vI 172) [0,1,2,3,4,5,6] (⟨L,by rw [show eF S d name=(172,S) by unfold eF;rw [hlk];exact if_pos rfl]<;>exact⟨rfl,rfl⟩⟩)
 have hkt:(obj S.O tk).kind=3:=hI.kind hlv
 refine af.region (gK 1 [] [] ?_)
 refine NN (af.seq (SR (gK 5 [(10,.map (some (L.m d))),(11,.string name)] [(3,v_ 3 (bH L hkd))] ?_)))
 refine je 5 hkd hlk ?_
 refine NN (af.block (SR ?_))
 refine gK 1 [(13,.bool false)] [] ?_
 refine NN (CF (SR (gK 3 [(15,.bool false)] [] ?_)))
 refine NN (CF (af.skip (aj.aQ (NX (SR ?_)))))
 refine gK 3 [(17,vP f),(18,vP (L.b d)),(19,.string name)] [] ?_
 refine gL [0,3,5,1] (oF S L f m t hI d hd name hsz ⟨tk,3⟩ hlk) ?_
 rintro _ _ ⟨rfl,rfl⟩
 refine NS (ak.dN [(5,.abs (ay (bO ((aK S d name ⟨tk,3⟩).O) L)))] (fun w hS=>by rw [show bO ((aK S d name ⟨tk,3⟩).O) L=bO S.O L from oA];exact hS) ?_)
 refine gK 1 [(6,vI 0)] [] ?_
 refine NN (af.ret ?_)
 exact RT (vI 0) [0,3,4,1,5,2,6] (⟨L,by rw [show eF S d name=(0,aK S d name ⟨tk,3⟩) by unfold eF;rw [hlk];exact if_neg (by simp)]<;>exact⟨rfl,rfl⟩⟩)
theorem El {β:Bs} (S:aG) (L:HL) (f m t:Nat) (hI:Inv S) (d:Nat) (hd:Live S.idx ⟨d,2⟩) (name:ByteArray) (hsz:name.size<=1048576) :
    Spec Tryz.prog β 203 #[vP f,vP (L.b d),.string name] (pA f m t L S) (fun v l=>∃ L2,v=vI (eZ S d name).1/\l=(pA f m t L2 ((eZ S d name).2))):=by
 have hX:=hI.hX
 have hel:(obj S.O d).ah.length<=8192:=hI.ic hd
 have hkd:(obj S.O d).kind=2:=hI.kind hd
 refine Spec.enter Tryz.func203 rfl Tryz.ntmps203 (Nat.le_of_ble_eq_true rfl) (fun R=>?_)
 refine af.seq ?_
 rcases hI.mQ hd name with hlk|⟨tk,hlk,hlv⟩|⟨tk,hlk,hlv⟩|⟨tk,hlk,hlv⟩
 ·refine af.region (gK 1 [] [] ?_)
  refine NS (gK 5 [(13,.map (some (L.m d))),(14,.string name)] [(3,v_ 3 (bH L hkd))] ?_)
  refine je 5 hkd hlk ?_
  refine gK 1 [(7,.nilIface)] [] ?_
  refine NN (af.seq (SR (gK 2 [(17,.bool true)] [] ?_)))
  refine NN (CT (SR (gK 1 [(6,vI 170)] [] ?_)))
  refine NN (af.ret (aj.aq ?_))
  exact RT (vI 170) [0,1,2,3,4,5,6] (⟨L,by skip;rw [show eZ S d name=(170,S) by unfold eZ;rw [hlk]]<;>exact⟨rfl,rfl⟩⟩)
 ·have hkt:(obj S.O tk).kind=1:=hI.kind hlv
  refine af.region (gK 1 [] [] ?_)
  refine NS (gK 5 [(13,.map (some (L.m d))),(14,.string name)] [(3,v_ 3 (bH L hkd))] ?_)
  refine je 5 hkd hlk ?_
  refine gK 1 [(7,.iface 162 (vP (L.b tk)))] [] ?_
  refine NN (af.seq (SR (gK 2 [(17,.bool false)] [] ?_)))
  refine NN (CF (af.skip (NX (SR (gK 7 [(8,.pointer none),(9,.bool false)] [] ?_)))))
  refine NN (af.seq (SR (gK 2 [(24,.bool true)] [] ?_)))
  refine NN (CT (SR (gK 1 [(6,vI 173)] [] ?_)))
  refine NN (af.ret (aj.aq ?_))
  exact RT (vI 173) [0,1,2,3,4,5,6] (⟨L,by skip;rw [show eZ S d name=(173,S) by unfold eZ;rw [hlk];exact if_neg (by simp)]<;>exact⟨rfl,rfl⟩⟩)
 ·have hkt:(obj S.O tk).kind=2:=hI.kind hlv
  have XC:(obj S.O tk).ah.length<=8192:=hI.ic hlv
  refine af.region (gK 1 [] [] ?_)
  refine NS (gK 5 [(13,.map (some (L.m d))),(14,.string name)] [(3,v_ 3 (bH L hkd))] ?_)
  refine je 5 hkd hlk ?_
  refine gK 1 [(7,.iface 169 (vP (L.b tk)))] [] ?_
  refine NN (af.seq (SR (gK 2 [(17,.bool false)] [] ?_)))
  refine NN (CF (af.skip (NX (SR (gK 7 [(8,vP (L.b tk)),(9,.bool true)] [] ?_)))))
  refine NN (af.seq (SR (gK 2 [(24,.bool false)] [] ?_)))
  refine NN (CF (af.skip (NX (af.seq (SR (gK 4 [(28,.map (some (L.m tk)))] [(3,v_ 3 (bH L hkt))] ?_))))))
  refine WE 5 hkt ?_
  refine gK 1 [(30,.bool (decide (((((obj S.O tk).ah.length:Nat):Int):Int) > (0:Int))))] [] ?_
  refine NN (af.bh (p:=((((obj S.O tk).ah.length:Nat):Int):Int) > (0:Int)) (fun _=>by kernel_rfl) (fun ny=>?_) (fun ny=>?_))
  ·refine SR (gK 1 [(6,vI 178)] [] ?_)
   refine NN (af.ret (aj.aq ?_))
   exact RT (vI 178) [0,1,2,3,4,5,6] (⟨L,by skip;rw [show eZ S d name=(178,S) by unfold eZ;rw [hlk];exact (if_pos rfl).trans (if_neg (fun e=>by rw [show (obj S.O tk).ah=[] from e] at ny;simp at ny))]<;>exact⟨rfl,rfl⟩⟩)
  refine af.skip (NX (SR (gK 3 [(31,vP f),(32,vP (L.b d)),(33,.string name)] [] ?_)))
  refine gL [0,3,5,1] (oF S L f m t hI d hd name hsz ⟨tk,2⟩ hlk) ?_
  rintro _ _ ⟨rfl,rfl⟩
  refine NS (ak.dN [(5,.abs (ay (bO ((aK S d name ⟨tk,2⟩).O) L)))] (fun w hS=>by rw [show bO ((aK S d name ⟨tk,2⟩).O) L=bO S.O L from oA];exact hS) ?_)
  have yM:(obj (aK S d name ⟨tk,2⟩).O d).kind=2:=(Cb).trans (hkd)
  have yN:(obj (aK S d name ⟨tk,2⟩).O tk).kind=2:=(Cb).trans (hkt)
  generalize cA:(aK S d name ⟨tk,2⟩).O=cG at yM yN ⊢
  refine gK 3 [(37,.pointer (some ⟨(L.b tk),10,none⟩))] [] ?_
  refine UA 1 [(2,1),(5,2)] tk (none) yN (fun eM dD=>?_)
  have Oj:=ku dD yM
  have Ki:=ku dD yN
  refine NS (gK 1 [(6,vI 0)] [] ?_)
  refine NN (af.ret ?_)
  exact RT (l:=[pF f m t ((aK S d name ⟨tk,2⟩).X),pI m L ((aK S d name ⟨tk,2⟩).idx),pT t S.X.cH S.av L S.us,pO eM L,pD eM L,pE eM L]) (.int .i64 0) [0,3,4,1,5,2,6] (⟨L,by subst dD;subst cA;rw [show eZ S d name=(0,{ aK S d name ⟨tk,2⟩ with O:=orphan (aK S d name ⟨tk,2⟩).O tk }) by unfold eZ;rw [hlk];exact (if_pos rfl).trans (if_pos (List.eq_nil_of_length_eq_zero (by show (obj S.O tk).ah.length=0;omega)))]<;>exact⟨rfl,rfl⟩⟩)
 have hkt:(obj S.O tk).kind=3:=hI.kind hlv
 refine af.region (gK 1 [] [] ?_)
 refine NS (gK 5 [(13,.map (some (L.m d))),(14,.string name)] [(3,v_ 3 (bH L hkd))] ?_)
 refine je 5 hkd hlk ?_
 refine gK 1 [(7,.iface 166 (vP (L.b tk)))] [] ?_
 refine NN (af.seq (SR (gK 2 [(17,.bool false)] [] ?_)))
 refine NN (CF (af.skip (NX (SR (gK 7 [(8,.pointer none),(9,.bool false)] [] ?_)))))
 refine NN (af.seq (SR (gK 2 [(24,.bool true)] [] ?_)))
 refine NN (CT (SR (gK 1 [(6,vI 173)] [] ?_)))
 refine NN (af.ret (aj.aq ?_))
 exact RT (vI 173) [0,1,2,3,4,5,6] (⟨L,by skip;rw [show eZ S d name=(173,S) by unfold eZ;rw [hlk];exact if_neg (by simp)]<;>exact⟨rfl,rfl⟩⟩)
end
section
open Go.RowKit Go.Maps bF aB
attribute [local irreducible] ak aR af aj
abbrev Gx (f:Nat) (L:HL) (d:Nat) (name):=([(61,vP f),(62,vP (L.b d)),(63,.string name)]:Fr)
abbrev Gy (f:Nat) (L:HL) (to:Nat) (toName):=([(65,vP f),(66,vP (L.b to)),(67,.string toName)]:Fr)
abbrev xJ (L:HL) (to:Nat) (toName):=([(45,.map (some (L.m to))),(46,.string toName)]:Fr)
abbrev PJ (f:Nat) (L:HL) (to:Nat) (toName):=([(57,vP f),(58,vP (L.b to)),(59,.string toName)]:Fr)
abbrev PK (L:HL) (to:Nat):=([(12,.pointer none),(13,.bool false),(14,vP (L.b to))]:Fr)
abbrev PL (L:HL) (to:Nat) (toName):=([(3,vP (L.b to)),(4,.string toName)]:Fr)
theorem Cv {β:Bs} (S:aG) (L:HL) (f m t:Nat) (hI:Inv S) (d:Nat) (hd:Live S.idx ⟨d,2⟩) (name:ByteArray) (hsz:name.size<=1048576) (to:Nat) (hto:Live S.idx ⟨to,2⟩) (toName:ByteArray) (pU:toName.size<=1048576) :
    Spec Tryz.prog β 204 #[vP f,vP (L.b d),.string name,vP (L.b to),.string toName] (pA f m t L S) (fun v l=>∃ L2,v=vI (bJ S d name to toName).1/\l=(pA f m t L2 ((bJ S d name to toName).2))):=by
 have hX:=hI.hX
 have hel:(obj S.O d).ah.length<=8192:=hI.ic hd
 have hkd:(obj S.O d).kind=2:=hI.kind hd
 have eX:(obj S.O to).kind=2:=hI.kind hto
 have Xo:(obj S.O to).ah.length<=8192:=hI.ic hto
 refine Spec.enter Tryz.func204 rfl Tryz.ntmps204 (Nat.le_of_ble_eq_true rfl) (fun R=>?_)
 refine af.seq ?_
 rcases hI.mQ hd name with hlk|⟨tk,hlk,hlv⟩|⟨tk,hlk,hlv⟩|⟨tk,hlk,hlv⟩
 ·refine af.region (gK 1 [] [] ?_)
  refine NS (gK 5 [(19,.map (some (L.m d))),(20,.string name)] [(3,v_ 3 (bH L hkd))] ?_)
  refine je 5 hkd hlk ?_
  refine gK 1 [(11,.nilIface)] [] ?_
  refine NN (af.seq (SR (gK 2 [(23,.bool true)] [] ?_)))
  refine NN (CT (SR (gK 1 [(10,vI 170)] [] ?_)))
  refine NN (af.ret (aj.aq ?_))
  exact RT (vI 170) [0,1,2,3,4,5,6] (⟨L,by rw [show bJ S d name to toName=(170,S) by unfold bJ;rw [hlk]]<;>exact⟨rfl,rfl⟩⟩)
 ·have hkt:(obj S.O tk).kind=1:=hI.kind hlv
  refine af.region (gK 1 [] [] ?_)
  refine NS (gK 5 [(19,.map (some (L.m d))),(20,.string name)] [(3,v_ 3 (bH L hkd))] ?_)
  refine je 5 hkd hlk ?_
  refine gK 1 [(11,.iface 162 (vP (L.b tk)))] [] ?_
  refine NN (af.seq (SR (gK 2 [(23,.bool false)] [] ?_)))
  refine NN (CF (af.skip (NX (SR (gK 7 [(12,.pointer none),(13,.bool false)] [] ?_)))))
  refine NN (af.seq (SR (gK 2 [(14,vP (L.b to))] [] ?_)))
  refine NN (af.block ?_)
  refine af.loop (ι:=Unit) (fun (u:Unit)=>True) (fun (u:Unit)=>0) (fun (u:Unit)=>(Gv f L d name++PL L to toName++[(11,.iface 162 (vP (L.b tk)))]++PK L to)) (fun (u:Unit)=>((pA f m t L S)++[.abs R])) () (idx:=[0,1,2,3,4,11,12,13,14]) (pk:=[0,1,2,3,4,5,6]) (show True from trivial) (fun _=>by kernel_rfl) rfl (by kernel_rfl) ?_
  rintro u _
  show af _ _ _ _ (Gv f L d name++PL L to toName++[(11,.iface 162 (vP (L.b tk)))]++PK L to) ((pA f m t L S)++[.abs R]) _
  refine af.seq (SR (gK 5 [(34,.bool false)] [] ?_))
  refine NN (CF (af.exit (aj.br (aj.br (aj.dM (NX (af.seq ?_)))))))
  skip
  rcases hI.mQ hto toName with bB|⟨ok,bB,fe⟩|⟨ok,bB,fe⟩|⟨ok,bB,fe⟩
  ·refine af.region (gK 5 (xJ L to toName) [(3,v_ 3 (bH L eX))] ?_)
   refine je 5 eX bB ?_
   refine gK 1 [(15,.nilIface)] [] ?_
   refine NN (af.seq (SR (gK 3 [(50,.bool false)] [] ?_)))
   refine NN (CF (af.skip (NX (af.seq (SR (gK 2 [(52,.bool false)] [] ?_))))))
   refine NN (CF (af.skip (NX (SR ?_))))
   have bZ:Inv S:=hI
   have hd1:=hd
   have fI:=hlk
   have qC:=bB
   have kA:=hto
   have kC:(obj S.O d).kind=2:=bZ.kind hd1
   have qD:(obj S.O to).kind=2:=bZ.kind kA
   have lD:Live S.idx ⟨tk,1⟩:=(bZ.ent hd1 fI).2
   have lE:(obj S.O tk).kind=1:=bZ.kind lD
   have Dz:(obj S.O d).ah.length<=8192:=bZ.ic hd1
   have DA:(obj S.O to).ah.length<=8192:=bZ.ic kA
   have qE:=bZ.lb lD
   have lF:tk≠d:=bZ.ne hd1 fI
   refine gK 3 (Gx f L d name) [] ?_
   refine gL [0,3,5] (jX S.X f m t bZ.hX S.O L d kC name hsz ⟨tk,1⟩ lE (by simp) fI (bZ.twice hd1) (by omega) (by simp only at qE ⊢;omega)) ?_
   rintro _ _ ⟨rfl,rfl⟩
   refine NS (gK 4 (Gy f L to toName++[(68,.iface 162 (vP (L.b tk)))]) [] ?_)
   refine gL [0,1,2] (jk { S.X with ah:=S.X.ah - 1 } f m t (bZ.zT hd1 fI) (aS S.X S.O d name ⟨tk,1⟩) L to (cR.trans qD) toName pU (kN lF qC) (Nat.le_trans (ng lF) (by omega)) ⟨tk,1⟩ (cR.trans lE) (by simp) (kT bZ.toInv0 hd1 fI)) ?_
   rintro _ _ ⟨rfl,rfl⟩
   refine NS (ak.dN [(5,.abs (ay (bO (cV S.X (aS S.X S.O d name ⟨tk,1⟩) to toName ⟨tk,1⟩) L)))] (fun w hS=>by rw [show bO (cV S.X (aS S.X S.O d name ⟨tk,1⟩) to toName ⟨tk,1⟩) L=bO S.O L from iV.trans kL];exact hS) ?_)
   refine gK 1 [(10,vI 0)] [] ?_
   refine NN (af.ret ?_)
   exact RT (vI 0) [0,3,4,1,5,2,6] (⟨L,by rw [show bJ S d name to toName=(0,oq S d name to toName ⟨tk,1⟩) by unfold bJ;rw [hlk];refine (if_neg (fun h=>absurd h.1 (by simp))).trans ?_;rw [bB]]<;>exact⟨rfl,rfl⟩⟩)
  ·have lG:(obj S.O ok).kind=1:=hI.kind fe
   refine af.region (gK 5 (xJ L to toName) [(3,v_ 3 (bH L eX))] ?_)
   refine je 5 eX bB ?_
   refine gK 1 [(15,.iface 162 (vP (L.b ok)))] [] ?_
   refine NN (af.seq (SR (gK 2 [(48,.iface 162 (vP (L.b ok))),(49,.iface 162 (vP (L.b tk)))] [] ?_)))
   refine ak.jZ (d:=(some 50)) (op:=.binOp .eql 156 (.tmp 48) (.tmp 49) 156) (v:=.bool (decide (ok=tk))) (fun _=>by kernel_rfl) (fun o junk w ho hS=>by obtain⟨F,hF⟩:=hS.get (i:=3) rfl;exact⟨w,AY RI ho (by kernel_rfl) (by kernel_rfl) (by rw [lG];decide) (by rw [hkt];decide) hF,hS⟩) ?_
   refine NN (af.bh (p:=ok=tk) (fun _=>by kernel_rfl) (fun h50=>?_) (fun h50=>?_))
   ·refine SR (gK 1 [(10,vI 0)] [] ?_)
    refine NN (af.ret (aj.aq ?_))
    exact RT (vI 0) [0,1,2,3,4,5,6] (⟨L,by rw [show bJ S d name to toName=(0,S) by unfold bJ;rw [hlk];refine (if_neg (fun h=>absurd h.1 (by simp))).trans ?_;rw [bB];exact if_pos (by rw [h50])]<;>exact⟨rfl,rfl⟩⟩)
   refine af.skip (NX (af.seq (SR (gK 2 [(52,.bool true)] [] ?_))))
   refine NN (CT (af.seq (SR (gK 1 [(53,.iface 162 (vP (L.b ok)))] [] ?_))))
   refine gL [] (nj (vP (L.b ok))) ?_
   rintro _ _ ⟨rfl,rfl⟩
   refine gK 1 [(55,.bool false)] [] ?_
   refine NN (CF (af.skip (NX (af.seq (SR (gK 1 [(56,.bool false)] [] ?_))))))
   refine NN (CF (af.skip (NX (af.region (gK 3 (PJ f L to toName) [] ?_)))))
   refine gL [0,3,5,1] (oF S L f m t hI to hto toName pU ⟨ok,1⟩ bB) ?_
   rintro _ _ ⟨rfl,rfl⟩
   refine NS ?_
   have bZ:Inv (aK S to toName ⟨ok,1⟩):=hI.zx hto bB (by simp)
   have hot:(⟨ok,1⟩:Th)≠⟨tk,1⟩:=fun e=>h50 (congrArg Th.k e)
   have hd1:Live (aK S to toName ⟨ok,1⟩).idx ⟨d,2⟩:=jW hI.toInv0 hto bB hd (fun e=>by have:=iG hd fe e;cases this)
   have kA:Live (aK S to toName ⟨ok,1⟩).idx ⟨to,2⟩:=jW hI.toInv0 hto bB hto (fun e=>by have:=iG hto fe e;cases this)
   have fI:aU name (obj (aK S to toName ⟨ok,1⟩).O d).ah=some ⟨tk,1⟩:=q6 hI.toInv0 hto bB hlk hot
   have qC:aU toName (obj (aK S to toName ⟨ok,1⟩).O to).ah=none:=q8 hI.toInv0 hto bB
   have kC:(obj (aK S to toName ⟨ok,1⟩).O d).kind=2:=bZ.kind hd1
   have qD:(obj (aK S to toName ⟨ok,1⟩).O to).kind=2:=bZ.kind kA
   have lD:Live (aK S to toName ⟨ok,1⟩).idx ⟨tk,1⟩:=(bZ.ent hd1 fI).2
   have lE:(obj (aK S to toName ⟨ok,1⟩).O tk).kind=1:=bZ.kind lD
   have Dz:(obj (aK S to toName ⟨ok,1⟩).O d).ah.length<=8192:=bZ.ic hd1
   have DA:(obj (aK S to toName ⟨ok,1⟩).O to).ah.length<=8192:=bZ.ic kA
   have qE:=bZ.lb lD
   have lF:tk≠d:=bZ.ne hd1 fI
   refine gK 3 (Gx f L d name) [] ?_
   refine gL [0,1,2] (jX (aK S to toName ⟨ok,1⟩).X f m t bZ.hX (aK S to toName ⟨ok,1⟩).O L d kC name hsz ⟨tk,1⟩ lE (by simp) fI (bZ.twice hd1) (by omega) (by simp only at qE ⊢;omega)) ?_
   rintro _ _ ⟨rfl,rfl⟩
   refine NS (gK 4 (Gy f L to toName++[(68,.iface 162 (vP (L.b tk)))]) [] ?_)
   refine gL [0,1,2] (jk { (aK S to toName ⟨ok,1⟩).X with ah:=(aK S to toName ⟨ok,1⟩).X.ah - 1 } f m t (bZ.zT hd1 fI) (aS (aK S to toName ⟨ok,1⟩).X (aK S to toName ⟨ok,1⟩).O d name ⟨tk,1⟩) L to (cR.trans qD) toName pU (kN lF qC) (Nat.le_trans (ng lF) (by omega)) ⟨tk,1⟩ (cR.trans lE) (by simp) (kT bZ.toInv0 hd1 fI)) ?_
   rintro _ _ ⟨rfl,rfl⟩
   refine NS (ak.dN [(5,.abs (ay (bO (cV (aK S to toName ⟨ok,1⟩).X (aS (aK S to toName ⟨ok,1⟩).X (aK S to toName ⟨ok,1⟩).O d name ⟨tk,1⟩) to toName ⟨tk,1⟩) L)))] (fun w hS=>by rw [show bO (cV (aK S to toName ⟨ok,1⟩).X (aS (aK S to toName ⟨ok,1⟩).X (aK S to toName ⟨ok,1⟩).O d name ⟨tk,1⟩) to toName ⟨tk,1⟩) L=bO S.O L from iV.trans (kL.trans oA)];exact hS) ?_)
   refine gK 1 [(10,vI 0)] [] ?_
   refine NN (af.ret ?_)
   exact RT (vI 0) [0,3,4,1,5,2,6] (⟨L,by rw [show bJ S d name to toName=(0,oq (aK S to toName ⟨ok,1⟩) d name to toName ⟨tk,1⟩) by unfold bJ;rw [hlk];refine (if_neg (fun h=>absurd h.1 (by simp))).trans ?_;rw [bB];exact (if_neg (fun e=>h50 (congrArg Th.k e))).trans ((if_neg (by simp)).trans (if_neg (by simp)))]<;>exact⟨rfl,rfl⟩⟩)
  ·have lG:(obj S.O ok).kind=2:=hI.kind fe
   refine af.region (gK 5 (xJ L to toName) [(3,v_ 3 (bH L eX))] ?_)
   refine je 5 eX bB ?_
   refine gK 1 [(15,.iface 169 (vP (L.b ok)))] [] ?_
   refine NN (af.seq (SR (gK 3 [(50,.bool false)] [] ?_)))
   refine NN (CF (af.skip (NX (af.seq (SR (gK 2 [(52,.bool true)] [] ?_))))))
   refine NN (CT (af.seq (SR (gK 1 [(53,.iface 169 (vP (L.b ok)))] [] ?_))))
   refine gL [] (nk (vP (L.b ok))) ?_
   rintro _ _ ⟨rfl,rfl⟩
   refine gK 1 [(55,.bool true)] [] ?_
   refine NN (CT (SR (gK 1 [(10,vI 172)] [] ?_)))
   refine NN (af.ret (aj.aq (aj.aq ?_)))
   exact RT (vI 172) [0,1,2,3,4,5,6] (⟨L,by rw [show bJ S d name to toName=(172,S) by unfold bJ;rw [hlk];refine (if_neg (fun h=>absurd h.1 (by simp))).trans ?_;rw [bB];exact (if_neg (fun e=>by cases e)).trans (if_pos rfl)]<;>exact⟨rfl,rfl⟩⟩)
  have lG:(obj S.O ok).kind=3:=hI.kind fe
  refine af.region (gK 5 (xJ L to toName) [(3,v_ 3 (bH L eX))] ?_)
  refine je 5 eX bB ?_
  refine gK 1 [(15,.iface 166 (vP (L.b ok)))] [] ?_
  refine NN (af.seq (SR (gK 3 [(50,.bool false)] [] ?_)))
  refine NN (CF (af.skip (NX (af.seq (SR (gK 2 [(52,.bool true)] [] ?_))))))
  refine NN (CT (af.seq (SR (gK 1 [(53,.iface 166 (vP (L.b ok)))] [] ?_))))
  refine gL [] (oC (vP (L.b ok))) ?_
  rintro _ _ ⟨rfl,rfl⟩
  refine gK 1 [(55,.bool false)] [] ?_
  refine NN (CF (af.skip (NX (af.seq (SR (gK 1 [(56,.bool false)] [] ?_))))))
  refine NN (CF (af.skip (NX (af.region (gK 3 (PJ f L to toName) [] ?_)))))
  refine gL [0,3,5,1] (oF S L f m t hI to hto toName pU ⟨ok,3⟩ bB) ?_
  rintro _ _ ⟨rfl,rfl⟩
  refine NS ?_
  have bZ:Inv (aK S to toName ⟨ok,3⟩):=hI.zx hto bB (by simp)
  have hot:(⟨ok,3⟩:Th)≠⟨tk,1⟩:=fun e=>by cases e
  have hd1:Live (aK S to toName ⟨ok,3⟩).idx ⟨d,2⟩:=jW hI.toInv0 hto bB hd (fun e=>by have:=iG hd fe e;cases this)
  have kA:Live (aK S to toName ⟨ok,3⟩).idx ⟨to,2⟩:=jW hI.toInv0 hto bB hto (fun e=>by have:=iG hto fe e;cases this)
  have fI:aU name (obj (aK S to toName ⟨ok,3⟩).O d).ah=some ⟨tk,1⟩:=q6 hI.toInv0 hto bB hlk hot
  have qC:aU toName (obj (aK S to toName ⟨ok,3⟩).O to).ah=none:=q8 hI.toInv0 hto bB
  have kC:(obj (aK S to toName ⟨ok,3⟩).O d).kind=2:=bZ.kind hd1
  have qD:(obj (aK S to toName ⟨ok,3⟩).O to).kind=2:=bZ.kind kA
  have lD:Live (aK S to toName ⟨ok,3⟩).idx ⟨tk,1⟩:=(bZ.ent hd1 fI).2
  have lE:(obj (aK S to toName ⟨ok,3⟩).O tk).kind=1:=bZ.kind lD
  have Dz:(obj (aK S to toName ⟨ok,3⟩).O d).ah.length<=8192:=bZ.ic hd1
  have DA:(obj (aK S to toName ⟨ok,3⟩).O to).ah.length<=8192:=bZ.ic kA
  have qE:=bZ.lb lD
  have lF:tk≠d:=bZ.ne hd1 fI
  refine gK 3 (Gx f L d name) [] ?_
  refine gL [0,1,2] (jX (aK S to toName ⟨ok,3⟩).X f m t bZ.hX (aK S to toName ⟨ok,3⟩).O L d kC name hsz ⟨tk,1⟩ lE (by simp) fI (bZ.twice hd1) (by omega) (by simp only at qE ⊢;omega)) ?_
  rintro _ _ ⟨rfl,rfl⟩
  refine NS (gK 4 (Gy f L to toName++[(68,.iface 162 (vP (L.b tk)))]) [] ?_)
  refine gL [0,1,2] (jk { (aK S to toName ⟨ok,3⟩).X with ah:=(aK S to toName ⟨ok,3⟩).X.ah - 1 } f m t (bZ.zT hd1 fI) (aS (aK S to toName ⟨ok,3⟩).X (aK S to toName ⟨ok,3⟩).O d name ⟨tk,1⟩) L to (cR.trans qD) toName pU (kN lF qC) (Nat.le_trans (ng lF) (by omega)) ⟨tk,1⟩ (cR.trans lE) (by simp) (kT bZ.toInv0 hd1 fI)) ?_
  rintro _ _ ⟨rfl,rfl⟩
  refine NS (ak.dN [(5,.abs (ay (bO (cV (aK S to toName ⟨ok,3⟩).X (aS (aK S to toName ⟨ok,3⟩).X (aK S to toName ⟨ok,3⟩).O d name ⟨tk,1⟩) to toName ⟨tk,1⟩) L)))] (fun w hS=>by rw [show bO (cV (aK S to toName ⟨ok,3⟩).X (aS (aK S to toName ⟨ok,3⟩).X (aK S to toName ⟨ok,3⟩).O d name ⟨tk,1⟩) to toName ⟨tk,1⟩) L=bO S.O L from iV.trans (kL.trans oA)];exact hS) ?_)
  refine gK 1 [(10,vI 0)] [] ?_
  refine NN (af.ret ?_)
  exact RT (vI 0) [0,3,4,1,5,2,6] (⟨L,by rw [show bJ S d name to toName=(0,oq (aK S to toName ⟨ok,3⟩) d name to toName ⟨tk,1⟩) by unfold bJ;rw [hlk];refine (if_neg (fun h=>absurd h.1 (by simp))).trans ?_;rw [bB];exact (if_neg (fun e=>by cases e)).trans ((if_neg (by simp)).trans (if_neg (by simp)))]<;>exact⟨rfl,rfl⟩⟩)
 ·have hkt:(obj S.O tk).kind=2:=hI.kind hlv
  refine af.region (gK 1 [] [] ?_)
  refine NS (gK 5 [(19,.map (some (L.m d))),(20,.string name)] [(3,v_ 3 (bH L hkd))] ?_)
  refine je 5 hkd hlk ?_
  refine gK 1 [(11,.iface 169 (vP (L.b tk)))] [] ?_
  refine NN (af.seq (SR (gK 2 [(23,.bool false)] [] ?_)))
  refine NN (CF (af.skip (NX (SR (gK 7 [(12,vP (L.b tk)),(13,.bool true)] [] ?_)))))
  refine NN (af.seq (SR (gK 2 [(14,vP (L.b to))] [] ?_)))
  refine NN (af.block ?_)
  obtain⟨dp,hdp⟩:=hI.deep
  refine af.loop (ι:=(Option Nat)) (fun (x:Option Nat)=>(kf S.O tk to↔∃ z0,x=some z0/\kf S.O tk z0)/\(∀ z0,x=some z0->Live S.idx ⟨z0,2⟩)) (fun (x:Option Nat)=>yE dp x) (fun (x:Option Nat)=>[(0,vP f),(1,vP (L.b d)),(2,.string name),(3,vP (L.b to)),(4,.string toName),(11,.iface 169 (vP (L.b tk))),(12,vP (L.b tk)),(13,.bool true),(14,(vk L x))]) (fun (x:Option Nat)=>((pA f m t L S)++[.abs R])) ((some to)) (idx:=[0,1,2,3,4,11,12,13,14]) (pk:=[0,1,2,3,4,5,6]) (show (kf S.O tk to↔∃ z0,((some to))=some z0/\kf S.O tk z0)/\(∀ z0,((some to))=some z0->Live S.idx ⟨z0,2⟩) from ⟨⟨fun h=>⟨to,rfl,h⟩,fun ⟨y,e,h⟩=>by cases e;exact h⟩,fun y e=>by cases e;exact hto⟩) (fun _=>by kernel_rfl) rfl (by kernel_rfl) ?_
  rintro x ⟨hbx,hlx⟩
  show af _ _ _ _ [(0,vP f),(1,vP (L.b d)),(2,.string name),(3,vP (L.b to)),(4,.string toName),(11,.iface 169 (vP (L.b tk))),(12,vP (L.b tk)),(13,.bool true),(14,(vk L x))] ((pA f m t L S)++[.abs R]) _
  refine af.seq (af.seq ?_)
  rcases hx:x with _|y
  ·refine af.region (gK 5 [(34,.bool false)] [] ?_)
   refine NN (CF (af.exit (aj.br (aj.br (aj.dM (NX (af.seq ?_)))))))
   have hnb:¬ kf S.O tk to:=fun h=>by obtain⟨y,e,_⟩:=hbx.1 h;rw [hx] at e;cases e
   rcases hI.mQ hto toName with bB|⟨ok,bB,fe⟩|⟨ok,bB,fe⟩|⟨ok,bB,fe⟩
   ·refine af.region (gK 5 (xJ L to toName) [(3,v_ 3 (bH L eX))] ?_)
    refine je 5 eX bB ?_
    refine gK 1 [(15,.nilIface)] [] ?_
    refine NN (af.seq (SR (gK 3 [(50,.bool false)] [] ?_)))
    refine NN (CF (af.skip (NX (af.seq (SR (gK 2 [(52,.bool false)] [] ?_))))))
    refine NN (CF (af.skip (NX (SR ?_))))
    have bZ:Inv S:=hI
    have hd1:=hd
    have fI:=hlk
    have qC:=bB
    have kA:=hto
    have kC:(obj S.O d).kind=2:=bZ.kind hd1
    have qD:(obj S.O to).kind=2:=bZ.kind kA
    have lD:Live S.idx ⟨tk,2⟩:=(bZ.ent hd1 fI).2
    have lE:(obj S.O tk).kind=2:=bZ.kind lD
    have Dz:(obj S.O d).ah.length<=8192:=bZ.ic hd1
    have DA:(obj S.O to).ah.length<=8192:=bZ.ic kA
    have qE:=bZ.lb lD
    have lF:tk≠d:=bZ.ne hd1 fI
    refine gK 3 (Gx f L d name) [] ?_
    refine gL [0,3,5] (jX S.X f m t bZ.hX S.O L d kC name hsz ⟨tk,2⟩ lE (by simp) fI (bZ.twice hd1) (by omega) (by simp only at qE ⊢;omega)) ?_
    rintro _ _ ⟨rfl,rfl⟩
    refine NS (gK 4 (Gy f L to toName++[(68,.iface 169 (vP (L.b tk)))]) [] ?_)
    refine gL [0,1,2] (jk { S.X with ah:=S.X.ah - 1 } f m t (bZ.zT hd1 fI) (aS S.X S.O d name ⟨tk,2⟩) L to (cR.trans qD) toName pU (kN lF qC) (Nat.le_trans (ng lF) (by omega)) ⟨tk,2⟩ (cR.trans lE) (by simp) (kT bZ.toInv0 hd1 fI)) ?_
    rintro _ _ ⟨rfl,rfl⟩
    refine NS (ak.dN [(5,.abs (ay (bO (cV S.X (aS S.X S.O d name ⟨tk,2⟩) to toName ⟨tk,2⟩) L)))] (fun w hS=>by rw [show bO (cV S.X (aS S.X S.O d name ⟨tk,2⟩) to toName ⟨tk,2⟩) L=bO S.O L from iV.trans kL];exact hS) ?_)
    refine gK 1 [(10,vI 0)] [] ?_
    refine NN (af.ret ?_)
    exact RT (vI 0) [0,3,4,1,5,2,6] (⟨L,by rw [show bJ S d name to toName=(0,oq S d name to toName ⟨tk,2⟩) by unfold bJ;rw [hlk];refine (if_neg (fun h=>hnb h.2)).trans ?_;rw [bB]]<;>exact⟨rfl,rfl⟩⟩)
   ·have lG:(obj S.O ok).kind=1:=hI.kind fe
    refine af.region (gK 5 (xJ L to toName) [(3,v_ 3 (bH L eX))] ?_)
    refine je 5 eX bB ?_
    refine gK 1 [(15,.iface 162 (vP (L.b ok)))] [] ?_
    refine NN (af.seq (SR (gK 3 [(50,.bool false)] [] ?_)))
    refine NN (CF (af.skip (NX (af.seq (SR (gK 2 [(52,.bool true)] [] ?_))))))
    refine NN (CT (af.seq (SR (gK 1 [(53,.iface 162 (vP (L.b ok)))] [] ?_))))
    refine gL [] (nj (vP (L.b ok))) ?_
    rintro _ _ ⟨rfl,rfl⟩
    refine gK 1 [(55,.bool false)] [] ?_
    refine NN (CF (af.skip (NX (af.seq (SR (gK 1 [(56,.bool true)] [] ?_))))))
    refine NN (CT (SR (gK 1 [(10,vI 173)] [] ?_)))
    refine NN (af.ret (aj.aq (aj.aq ?_)))
    exact RT (vI 173) [0,1,2,3,4,5,6] (⟨L,by rw [show bJ S d name to toName=(173,S) by unfold bJ;rw [hlk];refine (if_neg (fun h=>hnb h.2)).trans ?_;rw [bB];exact (if_neg (fun e=>by cases e)).trans ((if_neg (by simp)).trans (if_pos rfl))]<;>exact⟨rfl,rfl⟩⟩)
   ·have lG:(obj S.O ok).kind=2:=hI.kind fe
    refine af.region (gK 5 (xJ L to toName) [(3,v_ 3 (bH L eX))] ?_)
    refine je 5 eX bB ?_
    refine gK 1 [(15,.iface 169 (vP (L.b ok)))] [] ?_
    refine NN (af.seq (SR (gK 2 [(48,.iface 169 (vP (L.b ok))),(49,.iface 169 (vP (L.b tk)))] [] ?_)))
    refine ak.jZ (d:=(some 50)) (op:=.binOp .eql 156 (.tmp 48) (.tmp 49) 156) (v:=.bool (decide (ok=tk))) (fun _=>by kernel_rfl) (fun o junk w ho hS=>by obtain⟨F,hF⟩:=hS.get (i:=3) rfl;exact⟨w,AY TJ ho (by kernel_rfl) (by kernel_rfl) (by rw [lG];decide) (by rw [hkt];decide) hF,hS⟩) ?_
    refine NN (af.bh (p:=ok=tk) (fun _=>by kernel_rfl) (fun h50=>?_) (fun h50=>?_))
    ·refine SR (gK 1 [(10,vI 0)] [] ?_)
     refine NN (af.ret (aj.aq ?_))
     exact RT (vI 0) [0,1,2,3,4,5,6] (⟨L,by rw [show bJ S d name to toName=(0,S) by unfold bJ;rw [hlk];refine (if_neg (fun h=>hnb h.2)).trans ?_;rw [bB];exact if_pos (by rw [h50])]<;>exact⟨rfl,rfl⟩⟩)
    refine af.skip (NX (af.seq (SR (gK 2 [(52,.bool true)] [] ?_))))
    refine NN (CT (af.seq (SR (gK 1 [(53,.iface 169 (vP (L.b ok)))] [] ?_))))
    refine gL [] (nk (vP (L.b ok))) ?_
    rintro _ _ ⟨rfl,rfl⟩
    refine gK 1 [(55,.bool true)] [] ?_
    refine NN (CT (SR (gK 1 [(10,vI 172)] [] ?_)))
    refine NN (af.ret (aj.aq (aj.aq ?_)))
    exact RT (vI 172) [0,1,2,3,4,5,6] (⟨L,by rw [show bJ S d name to toName=(172,S) by unfold bJ;rw [hlk];refine (if_neg (fun h=>hnb h.2)).trans ?_;rw [bB];exact (if_neg (fun e=>h50 (congrArg Th.k e))).trans (if_pos rfl)]<;>exact⟨rfl,rfl⟩⟩)
   have lG:(obj S.O ok).kind=3:=hI.kind fe
   refine af.region (gK 5 (xJ L to toName) [(3,v_ 3 (bH L eX))] ?_)
   refine je 5 eX bB ?_
   refine gK 1 [(15,.iface 166 (vP (L.b ok)))] [] ?_
   refine NN (af.seq (SR (gK 3 [(50,.bool false)] [] ?_)))
   refine NN (CF (af.skip (NX (af.seq (SR (gK 2 [(52,.bool true)] [] ?_))))))
   refine NN (CT (af.seq (SR (gK 1 [(53,.iface 166 (vP (L.b ok)))] [] ?_))))
   refine gL [] (oC (vP (L.b ok))) ?_
   rintro _ _ ⟨rfl,rfl⟩
   refine gK 1 [(55,.bool false)] [] ?_
   refine NN (CF (af.skip (NX (af.seq (SR (gK 1 [(56,.bool true)] [] ?_))))))
   refine NN (CT (SR (gK 1 [(10,vI 173)] [] ?_)))
   refine NN (af.ret (aj.aq (aj.aq ?_)))
   exact RT (vI 173) [0,1,2,3,4,5,6] (⟨L,by rw [show bJ S d name to toName=(173,S) by unfold bJ;rw [hlk];refine (if_neg (fun h=>hnb h.2)).trans ?_;rw [bB];exact (if_neg (fun e=>by cases e)).trans ((if_neg (by simp)).trans (if_pos rfl))]<;>exact⟨rfl,rfl⟩⟩)
  have hky:(obj S.O y).kind=2:=hI.kind (hlx y hx)
  refine af.region (gK 5 [(34,.bool true)] [] ?_)
  refine NN (CT (af.skip (NX (af.seq (af.block (SR ?_))))))
  refine gK 2 [(39,vP (L.b y)),(40,vP (L.b tk))] [] ?_
  refine ak.jZ (d:=(some 41)) (op:=.binOp .eql 169 (.tmp 39) (.tmp 40) 169) (v:=.bool (decide (y=tk))) (fun _=>by kernel_rfl) (fun o junk w ho hS=>by obtain⟨F,hF⟩:=hS.get (i:=3) rfl;exact⟨w,Lz ho (by kernel_rfl) (by kernel_rfl) (by rw [hky];decide) (by rw [hkt];decide) hF,hS⟩) ?_
  refine NN (af.bh (p:=y=tk) (fun _=>by kernel_rfl) (fun Cw=>?_) (fun Cw=>?_))
  ·refine SR (gK 1 [(10,vI 174)] [] ?_)
   refine NN (af.ret (aj.aF (aj.aq (aj.aq (aj.aF (aj.aq ?_))))))
   exact RT (vI 174) [0,1,2,3,4,5,6] (⟨L,by rw [show bJ S d name to toName=(174,S) by unfold bJ;rw [hlk];exact if_pos ⟨rfl,hbx.2 ⟨y,hx,by rw [Cw];exact .here⟩⟩]<;>exact⟨rfl,rfl⟩⟩)
  refine af.skip (aj.aQ (NX (af.region ?_)))
  refine gK 5 [(14,(vk L (obj S.O y).up))] [(3,v_ 3 (VK L hky))] ?_
  refine NL ?_
  exact aj.turn (((obj S.O y).up)) (idx:=[0,1,2,3,4,11,12,13,14]) (pk:=[0,1,2,3,4,5,6]) (show (kf S.O tk to↔∃ z0,(((obj S.O y).up))=some z0/\kf S.O tk z0)/\(∀ z0,(((obj S.O y).up))=some z0->Live S.idx ⟨z0,2⟩) from ⟨hbx.trans ⟨fun ⟨y2,e,h⟩=>by rw [hx] at e;cases e;exact (Ce Cw).1 h,fun h=>⟨y,hx,(Ce Cw).2 h⟩⟩,fun z e=>((hI.up ⟨y,2⟩ (hlx y hx) z).1 e).2.1⟩) (by show yE dp (((obj S.O y).up)) < yE dp (some y);exact LC hdp) (fun _=>by kernel_rfl) rfl (by kernel_rfl)
 have hkt:(obj S.O tk).kind=3:=hI.kind hlv
 refine af.region (gK 1 [] [] ?_)
 refine NS (gK 5 [(19,.map (some (L.m d))),(20,.string name)] [(3,v_ 3 (bH L hkd))] ?_)
 refine je 5 hkd hlk ?_
 refine gK 1 [(11,.iface 166 (vP (L.b tk)))] [] ?_
 refine NN (af.seq (SR (gK 2 [(23,.bool false)] [] ?_)))
 refine NN (CF (af.skip (NX (SR (gK 7 [(12,.pointer none),(13,.bool false)] [] ?_)))))
 refine NN (af.seq (SR (gK 2 [(14,vP (L.b to))] [] ?_)))
 refine NN (af.block ?_)
 refine af.loop (ι:=Unit) (fun (u:Unit)=>True) (fun (u:Unit)=>0) (fun (u:Unit)=>(Gv f L d name++PL L to toName++[(11,.iface 166 (vP (L.b tk)))]++PK L to)) (fun (u:Unit)=>((pA f m t L S)++[.abs R])) () (idx:=[0,1,2,3,4,11,12,13,14]) (pk:=[0,1,2,3,4,5,6]) (show True from trivial) (fun _=>by kernel_rfl) rfl (by kernel_rfl) ?_
 rintro u _
 show af _ _ _ _ (Gv f L d name++PL L to toName++[(11,.iface 166 (vP (L.b tk)))]++PK L to) ((pA f m t L S)++[.abs R]) _
 refine af.seq (SR (gK 5 [(34,.bool false)] [] ?_))
 refine NN (CF (af.exit (aj.br (aj.br (aj.dM (NX (af.seq ?_)))))))
 skip
 rcases hI.mQ hto toName with bB|⟨ok,bB,fe⟩|⟨ok,bB,fe⟩|⟨ok,bB,fe⟩
 ·refine af.region (gK 5 (xJ L to toName) [(3,v_ 3 (bH L eX))] ?_)
  refine je 5 eX bB ?_
  refine gK 1 [(15,.nilIface)] [] ?_
  refine NN (af.seq (SR (gK 3 [(50,.bool false)] [] ?_)))
  refine NN (CF (af.skip (NX (af.seq (SR (gK 2 [(52,.bool false)] [] ?_))))))
  refine NN (CF (af.skip (NX (SR ?_))))
  have bZ:Inv S:=hI
  have hd1:=hd
  have fI:=hlk
  have qC:=bB
  have kA:=hto
  have kC:(obj S.O d).kind=2:=bZ.kind hd1
  have qD:(obj S.O to).kind=2:=bZ.kind kA
  have lD:Live S.idx ⟨tk,3⟩:=(bZ.ent hd1 fI).2
  have lE:(obj S.O tk).kind=3:=bZ.kind lD
  have Dz:(obj S.O d).ah.length<=8192:=bZ.ic hd1
  have DA:(obj S.O to).ah.length<=8192:=bZ.ic kA
  have qE:=bZ.lb lD
  have lF:tk≠d:=bZ.ne hd1 fI
  refine gK 3 (Gx f L d name) [] ?_
  refine gL [0,3,5] (jX S.X f m t bZ.hX S.O L d kC name hsz ⟨tk,3⟩ lE (by simp) fI (bZ.twice hd1) (by omega) (by simp only at qE ⊢;omega)) ?_
  rintro _ _ ⟨rfl,rfl⟩
  refine NS (gK 4 (Gy f L to toName++[(68,.iface 166 (vP (L.b tk)))]) [] ?_)
  refine gL [0,1,2] (jk { S.X with ah:=S.X.ah - 1 } f m t (bZ.zT hd1 fI) (aS S.X S.O d name ⟨tk,3⟩) L to (cR.trans qD) toName pU (kN lF qC) (Nat.le_trans (ng lF) (by omega)) ⟨tk,3⟩ (cR.trans lE) (by simp) (kT bZ.toInv0 hd1 fI)) ?_
  rintro _ _ ⟨rfl,rfl⟩
  refine NS (ak.dN [(5,.abs (ay (bO (cV S.X (aS S.X S.O d name ⟨tk,3⟩) to toName ⟨tk,3⟩) L)))] (fun w hS=>by rw [show bO (cV S.X (aS S.X S.O d name ⟨tk,3⟩) to toName ⟨tk,3⟩) L=bO S.O L from iV.trans kL];exact hS) ?_)
  refine gK 1 [(10,vI 0)] [] ?_
  refine NN (af.ret ?_)
  exact RT (vI 0) [0,3,4,1,5,2,6] (⟨L,by rw [show bJ S d name to toName=(0,oq S d name to toName ⟨tk,3⟩) by unfold bJ;rw [hlk];refine (if_neg (fun h=>absurd h.1 (by simp))).trans ?_;rw [bB]]<;>exact⟨rfl,rfl⟩⟩)
 ·have lG:(obj S.O ok).kind=1:=hI.kind fe
  refine af.region (gK 5 (xJ L to toName) [(3,v_ 3 (bH L eX))] ?_)
  refine je 5 eX bB ?_
  refine gK 1 [(15,.iface 162 (vP (L.b ok)))] [] ?_
  refine NN (af.seq (SR (gK 3 [(50,.bool false)] [] ?_)))
  refine NN (CF (af.skip (NX (af.seq (SR (gK 2 [(52,.bool true)] [] ?_))))))
  refine NN (CT (af.seq (SR (gK 1 [(53,.iface 162 (vP (L.b ok)))] [] ?_))))
  refine gL [] (nj (vP (L.b ok))) ?_
  rintro _ _ ⟨rfl,rfl⟩
  refine gK 1 [(55,.bool false)] [] ?_
  refine NN (CF (af.skip (NX (af.seq (SR (gK 1 [(56,.bool false)] [] ?_))))))
  refine NN (CF (af.skip (NX (af.region (gK 3 (PJ f L to toName) [] ?_)))))
  refine gL [0,3,5,1] (oF S L f m t hI to hto toName pU ⟨ok,1⟩ bB) ?_
  rintro _ _ ⟨rfl,rfl⟩
  refine NS ?_
  have bZ:Inv (aK S to toName ⟨ok,1⟩):=hI.zx hto bB (by simp)
  have hot:(⟨ok,1⟩:Th)≠⟨tk,3⟩:=fun e=>by cases e
  have hd1:Live (aK S to toName ⟨ok,1⟩).idx ⟨d,2⟩:=jW hI.toInv0 hto bB hd (fun e=>by have:=iG hd fe e;cases this)
  have kA:Live (aK S to toName ⟨ok,1⟩).idx ⟨to,2⟩:=jW hI.toInv0 hto bB hto (fun e=>by have:=iG hto fe e;cases this)
  have fI:aU name (obj (aK S to toName ⟨ok,1⟩).O d).ah=some ⟨tk,3⟩:=q6 hI.toInv0 hto bB hlk hot
  have qC:aU toName (obj (aK S to toName ⟨ok,1⟩).O to).ah=none:=q8 hI.toInv0 hto bB
  have kC:(obj (aK S to toName ⟨ok,1⟩).O d).kind=2:=bZ.kind hd1
  have qD:(obj (aK S to toName ⟨ok,1⟩).O to).kind=2:=bZ.kind kA
  have lD:Live (aK S to toName ⟨ok,1⟩).idx ⟨tk,3⟩:=(bZ.ent hd1 fI).2
  have lE:(obj (aK S to toName ⟨ok,1⟩).O tk).kind=3:=bZ.kind lD
  have Dz:(obj (aK S to toName ⟨ok,1⟩).O d).ah.length<=8192:=bZ.ic hd1
  have DA:(obj (aK S to toName ⟨ok,1⟩).O to).ah.length<=8192:=bZ.ic kA
  have qE:=bZ.lb lD
  have lF:tk≠d:=bZ.ne hd1 fI
  refine gK 3 (Gx f L d name) [] ?_
  refine gL [0,1,2] (jX (aK S to toName ⟨ok,1⟩).X f m t bZ.hX (aK S to toName ⟨ok,1⟩).O L d kC name hsz ⟨tk,3⟩ lE (by simp) fI (bZ.twice hd1) (by omega) (by simp only at qE ⊢;omega)) ?_
  rintro _ _ ⟨rfl,rfl⟩
  refine NS (gK 4 (Gy f L to toName++[(68,.iface 166 (vP (L.b tk)))]) [] ?_)
  refine gL [0,1,2] (jk { (aK S to toName ⟨ok,1⟩).X with ah:=(aK S to toName ⟨ok,1⟩).X.ah - 1 } f m t (bZ.zT hd1 fI) (aS (aK S to toName ⟨ok,1⟩).X (aK S to toName ⟨ok,1⟩).O d name ⟨tk,3⟩) L to (cR.trans qD) toName pU (kN lF qC) (Nat.le_trans (ng lF) (by omega)) ⟨tk,3⟩ (cR.trans lE) (by simp) (kT bZ.toInv0 hd1 fI)) ?_
  rintro _ _ ⟨rfl,rfl⟩
  refine NS (ak.dN [(5,.abs (ay (bO (cV (aK S to toName ⟨ok,1⟩).X (aS (aK S to toName ⟨ok,1⟩).X (aK S to toName ⟨ok,1⟩).O d name ⟨tk,3⟩) to toName ⟨tk,3⟩) L)))] (fun w hS=>by rw [show bO (cV (aK S to toName ⟨ok,1⟩).X (aS (aK S to toName ⟨ok,1⟩).X (aK S to toName ⟨ok,1⟩).O d name ⟨tk,3⟩) to toName ⟨tk,3⟩) L=bO S.O L from iV.trans (kL.trans oA)];exact hS) ?_)
  refine gK 1 [(10,vI 0)] [] ?_
  refine NN (af.ret ?_)
  exact RT (vI 0) [0,3,4,1,5,2,6] (⟨L,by rw [show bJ S d name to toName=(0,oq (aK S to toName ⟨ok,1⟩) d name to toName ⟨tk,3⟩) by unfold bJ;rw [hlk];refine (if_neg (fun h=>absurd h.1 (by simp))).trans ?_;rw [bB];exact (if_neg (fun e=>by cases e)).trans ((if_neg (by simp)).trans (if_neg (by simp)))]<;>exact⟨rfl,rfl⟩⟩)
 ·have lG:(obj S.O ok).kind=2:=hI.kind fe
  refine af.region (gK 5 (xJ L to toName) [(3,v_ 3 (bH L eX))] ?_)
  refine je 5 eX bB ?_
  refine gK 1 [(15,.iface 169 (vP (L.b ok)))] [] ?_
  refine NN (af.seq (SR (gK 3 [(50,.bool false)] [] ?_)))
  refine NN (CF (af.skip (NX (af.seq (SR (gK 2 [(52,.bool true)] [] ?_))))))
  refine NN (CT (af.seq (SR (gK 1 [(53,.iface 169 (vP (L.b ok)))] [] ?_))))
  refine gL [] (nk (vP (L.b ok))) ?_
  rintro _ _ ⟨rfl,rfl⟩
  refine gK 1 [(55,.bool true)] [] ?_
  refine NN (CT (SR (gK 1 [(10,vI 172)] [] ?_)))
  refine NN (af.ret (aj.aq (aj.aq ?_)))
  exact RT (vI 172) [0,1,2,3,4,5,6] (⟨L,by rw [show bJ S d name to toName=(172,S) by unfold bJ;rw [hlk];refine (if_neg (fun h=>absurd h.1 (by simp))).trans ?_;rw [bB];exact (if_neg (fun e=>by cases e)).trans (if_pos rfl)]<;>exact⟨rfl,rfl⟩⟩)
 have lG:(obj S.O ok).kind=3:=hI.kind fe
 refine af.region (gK 5 (xJ L to toName) [(3,v_ 3 (bH L eX))] ?_)
 refine je 5 eX bB ?_
 refine gK 1 [(15,.iface 166 (vP (L.b ok)))] [] ?_
 refine NN (af.seq (SR (gK 2 [(48,.iface 166 (vP (L.b ok))),(49,.iface 166 (vP (L.b tk)))] [] ?_)))
 refine ak.jZ (d:=(some 50)) (op:=.binOp .eql 156 (.tmp 48) (.tmp 49) 156) (v:=.bool (decide (ok=tk))) (fun _=>by kernel_rfl) (fun o junk w ho hS=>by obtain⟨F,hF⟩:=hS.get (i:=3) rfl;exact⟨w,AY RJ ho (by kernel_rfl) (by kernel_rfl) (by rw [lG];decide) (by rw [hkt];decide) hF,hS⟩) ?_
 refine NN (af.bh (p:=ok=tk) (fun _=>by kernel_rfl) (fun h50=>?_) (fun h50=>?_))
 ·refine SR (gK 1 [(10,vI 0)] [] ?_)
  refine NN (af.ret (aj.aq ?_))
  exact RT (vI 0) [0,1,2,3,4,5,6] (⟨L,by rw [show bJ S d name to toName=(0,S) by unfold bJ;rw [hlk];refine (if_neg (fun h=>absurd h.1 (by simp))).trans ?_;rw [bB];exact if_pos (by rw [h50])]<;>exact⟨rfl,rfl⟩⟩)
 refine af.skip (NX (af.seq (SR (gK 2 [(52,.bool true)] [] ?_))))
 refine NN (CT (af.seq (SR (gK 1 [(53,.iface 166 (vP (L.b ok)))] [] ?_))))
 refine gL [] (oC (vP (L.b ok))) ?_
 rintro _ _ ⟨rfl,rfl⟩
 refine gK 1 [(55,.bool false)] [] ?_
 refine NN (CF (af.skip (NX (af.seq (SR (gK 1 [(56,.bool false)] [] ?_))))))
 refine NN (CF (af.skip (NX (af.region (gK 3 (PJ f L to toName) [] ?_)))))
 refine gL [0,3,5,1] (oF S L f m t hI to hto toName pU ⟨ok,3⟩ bB) ?_
 rintro _ _ ⟨rfl,rfl⟩
 refine NS ?_
 have bZ:Inv (aK S to toName ⟨ok,3⟩):=hI.zx hto bB (by simp)
 have hot:(⟨ok,3⟩:Th)≠⟨tk,3⟩:=fun e=>h50 (congrArg Th.k e)
 have hd1:Live (aK S to toName ⟨ok,3⟩).idx ⟨d,2⟩:=jW hI.toInv0 hto bB hd (fun e=>by have:=iG hd fe e;cases this)
 have kA:Live (aK S to toName ⟨ok,3⟩).idx ⟨to,2⟩:=jW hI.toInv0 hto bB hto (fun e=>by have:=iG hto fe e;cases this)
 have fI:aU name (obj (aK S to toName ⟨ok,3⟩).O d).ah=some ⟨tk,3⟩:=q6 hI.toInv0 hto bB hlk hot
 have qC:aU toName (obj (aK S to toName ⟨ok,3⟩).O to).ah=none:=q8 hI.toInv0 hto bB
 have kC:(obj (aK S to toName ⟨ok,3⟩).O d).kind=2:=bZ.kind hd1
 have qD:(obj (aK S to toName ⟨ok,3⟩).O to).kind=2:=bZ.kind kA
 have lD:Live (aK S to toName ⟨ok,3⟩).idx ⟨tk,3⟩:=(bZ.ent hd1 fI).2
 have lE:(obj (aK S to toName ⟨ok,3⟩).O tk).kind=3:=bZ.kind lD
 have Dz:(obj (aK S to toName ⟨ok,3⟩).O d).ah.length<=8192:=bZ.ic hd1
 have DA:(obj (aK S to toName ⟨ok,3⟩).O to).ah.length<=8192:=bZ.ic kA
 have qE:=bZ.lb lD
 have lF:tk≠d:=bZ.ne hd1 fI
 refine gK 3 (Gx f L d name) [] ?_
 refine gL [0,1,2] (jX (aK S to toName ⟨ok,3⟩).X f m t bZ.hX (aK S to toName ⟨ok,3⟩).O L d kC name hsz ⟨tk,3⟩ lE (by simp) fI (bZ.twice hd1) (by omega) (by simp only at qE ⊢;omega)) ?_
 rintro _ _ ⟨rfl,rfl⟩
 refine NS (gK 4 (Gy f L to toName++[(68,.iface 166 (vP (L.b tk)))]) [] ?_)
 refine gL [0,1,2] (jk { (aK S to toName ⟨ok,3⟩).X with ah:=(aK S to toName ⟨ok,3⟩).X.ah - 1 } f m t (bZ.zT hd1 fI) (aS (aK S to toName ⟨ok,3⟩).X (aK S to toName ⟨ok,3⟩).O d name ⟨tk,3⟩) L to (cR.trans qD) toName pU (kN lF qC) (Nat.le_trans (ng lF) (by omega)) ⟨tk,3⟩ (cR.trans lE) (by simp) (kT bZ.toInv0 hd1 fI)) ?_
 rintro _ _ ⟨rfl,rfl⟩
 refine NS (ak.dN [(5,.abs (ay (bO (cV (aK S to toName ⟨ok,3⟩).X (aS (aK S to toName ⟨ok,3⟩).X (aK S to toName ⟨ok,3⟩).O d name ⟨tk,3⟩) to toName ⟨tk,3⟩) L)))] (fun w hS=>by rw [show bO (cV (aK S to toName ⟨ok,3⟩).X (aS (aK S to toName ⟨ok,3⟩).X (aK S to toName ⟨ok,3⟩).O d name ⟨tk,3⟩) to toName ⟨tk,3⟩) L=bO S.O L from iV.trans (kL.trans oA)];exact hS) ?_)
 refine gK 1 [(10,vI 0)] [] ?_
 refine NN (af.ret ?_)
 exact RT (vI 0) [0,3,4,1,5,2,6] (⟨L,by rw [show bJ S d name to toName=(0,oq (aK S to toName ⟨ok,3⟩) d name to toName ⟨tk,3⟩) by unfold bJ;rw [hlk];refine (if_neg (fun h=>absurd h.1 (by simp))).trans ?_;rw [bB];exact (if_neg (fun e=>h50 (congrArg Th.k e))).trans ((if_neg (by simp)).trans (if_neg (by simp)))]<;>exact⟨rfl,rfl⟩⟩)
end
section
open Go.RowKit Go.Maps bF aB
attribute [local irreducible] ak aR af aj
abbrev UB (S:aG) (L:HL) (k:Nat):=(.abs (ay (kQ (bO S.O L) k bY.none)):HP)
abbrev Sn (A1:Option Addr) (S:aG) (k:Nat) (bs:List UInt8) (c2:Nat):=(.abs (aJ 5 1 A1 (((obj S.O k).data++bs.take (bw S.X bs.length)).length) c2 (cL ((obj S.O k).data++bs.take (bw S.X bs.length)))):HP)
abbrev L9 (f:Nat) (m:Nat) (t) (S:aG) (L:HL) (k:Nat) (R:bY):=([pF f m t S.X,pI m L S.idx,pT t S.X.cH S.av L S.us,pO S.O L,UB S L k,pE S.O L,.abs R]:List HP)
theorem Em {β:Bs} (S:aG) (L:HL) (f m t:Nat) (hI:Inv S) (k:Nat) (hk:Live S.idx ⟨k,1⟩) (A:Option Addr) (c:Nat) (bs:List UInt8) (hA:cg β A bs) (hbl:bs.length<=1099511627776) (hbc:bs.length<=c) :
    Spec Tryz.prog β 199 #[vP f,vP (L.b k),.slice A (bs.length) (c)] (pA f m t L S) (fun v l=>∃ L2,v=.tuple #[vI (dK S k bs).1,vI (dK S k bs).2.1]/\l=(pA f m t L2 ((dK S k bs).2.2))):=by
 have hX:=hI.hX
 have hkk:(obj S.O k).kind=1:=hI.kind hk
 have XV:((obj S.O k).data.length:Int)<=S.X.used:=hI.TM hk
 have hcB:=hI.cB
 refine Spec.enter Tryz.func199 rfl Tryz.ntmps199 (Nat.le_of_ble_eq_true rfl) (fun R=>?_)
 refine SR (gK 2 [] [] ?_)
 refine NN (af.seq (SR (gK 3 [(12,.bool (decide ((((bs.length:Nat):Int):Int)=(0:Int))))] [] ?_)))
 refine NN (af.bh (p:=(((bs.length:Nat):Int):Int)=(0:Int)) (fun _=>by kernel_rfl) (fun h12=>?_) (fun h12=>?_))
 ·have he:bs=[]:=List.eq_nil_of_length_eq_zero (by omega)
  refine SR (gK 2 [(6,vI 0),(7,vI 0)] [] ?_)
  refine NN (af.ret (aj.aq ?_))
  exact RT (.tuple #[vI 0,vI 0]) [0,1,2,3,4,5,6] (⟨L,by rw [show dK S k bs=(0,0,S) from if_pos he]<;>exact⟨rfl,rfl⟩⟩)
 have hlen:0 < bs.length:=by omega
 refine af.skip (NX (af.seq (af.bI (by kernel_rfl) (by kernel_rfl) ?_)))
 refine gQ 11 [(8,vI (S.X.cB - S.X.used))] [(4,a_ 0 f),(8,a_ 0 f),(9,p_ ⟨[],none,none,none,some (vI (S.X.cB - S.X.used))⟩ [(Value.int .i64 (IntKind.wrap .i64 (S.X.cB - S.X.used)))=(.int .i64 (S.X.cB - S.X.used))] ⟨aY (by omega) (by omega) (by omega),trivial⟩)] ?_
 refine NQ (NX (af.seq (SR ?_)))
 refine gK 2 [(24,.bool (decide ((S.X.cB - S.X.used:Int)<=(0:Int))))] [] ?_
 refine NN (af.bh (p:=(S.X.cB - S.X.used:Int)<=(0:Int)) (fun _=>by kernel_rfl) (fun Cx=>?_) (fun Cx=>?_))
 ·refine SR (gK 2 [(6,vI 0),(7,vI 176)] [] ?_)
  refine NN (af.ret (aj.aq ?_))
  exact RT (.tuple #[vI 0,vI 176]) [0,1,2,3,4,5,6] (⟨L,by rw [show dK S k bs=(0,176,S) from (if_neg (fun e=>by rw [e] at hlen;exact absurd hlen (by simp))).trans (if_pos Cx)]<;>exact⟨rfl,rfl⟩⟩)
 refine af.skip (NX (SR (gK 4 [(28,vI (min ((bs.length:Nat):Int) (S.X.cB - S.X.used)))] [(3,p_ ⟨[],none,none,none,some (vI (min ((bs.length:Nat):Int) (S.X.cB - S.X.used)))⟩ [(Value.int .i64 (if S.X.cB - S.X.used < ((bs.length:Nat):Int) then S.X.cB - S.X.used else ((bs.length:Nat):Int)))=(.int .i64 (min ((bs.length:Nat):Int) (S.X.cB - S.X.used)))] ⟨congrArg (Value.int .i64) (Pn _ _),trivial⟩)] ?_)))
 refine ak.slot 28 (.int .i64 (min ((bs.length:Nat):Int) (S.X.cB - S.X.used))) (.int .i64 ↑(bw S.X bs.length)) (fun _=>by kernel_rfl) (congrArg (Value.int .i64) (LD (by omega))) ?_
 refine gK 1 [(9,vI ↑(bw S.X bs.length))] [] ?_
 refine NN (af.seq ?_)
 have hwl:=LF (X:=S.X) (n:=bs.length) (by omega)
 refine af.mem (cP:=(L9 f m t S L k R++[.abs (aJ 5 1 (L.dA k) ((obj S.O k).data.length) (L.dC k) (cL (obj S.O k).data))])) (fun w hS=>hS.Lb (i:=4) (k:=k) rfl hkk) ?_
 refine af.bU (S:=(L9 f m t S L k R)) [0,1,2,3,4,5,6,7,8,9,10,11] 8 [0,1,2,3,4,5,6] (by kernel_rfl) (by kernel_rfl) rfl (by kernel_rfl) ?_
 refine gR 0 [8,9,10,11] [(0,vP f),(1,vP (L.b k)),(9,vI ↑(bw S.X bs.length)),(29,vP (L.b k)),(33,.slice (L.dA k) ((obj S.O k).data.length) ((L.dC k))),(36,.slice A ((bw S.X bs.length)) (c))] [0,1,2,3,4,5,6,7] [(4,v_ 3 (Gp L hkk)),(7,p_ ⟨[],some (bw S.X bs.length),none,none,none⟩ [(((bw S.X bs.length):Nat):Int)=(((bw S.X bs.length):Nat):Int),(bw S.X bs.length)<=c] ⟨rfl,by omega,trivial⟩)] ?_
 refine aO.cut (ι:=(Option Addr)×Nat) (fr':=fun ((A1,c2):(Option Addr)×Nat)=>[(0,vP f),(1,vP (L.b k)),(9,vI ↑(bw S.X bs.length)),(29,vP (L.b k)),(37,.slice A1 (((obj S.O k).data++bs.take (bw S.X bs.length)).length) (c2))]) (hp':=fun ((A1,c2):(Option Addr)×Nat)=>(L9 f m t S L k R++[Sn A1 S k bs c2])) [0,1,2,3,4,5,6] rfl rfl ?_ rfl (fun _=>by kernel_rfl) ?_
 ·refine ak.append 7 (d:=(some 37)) (t:=86) (e:=5) (z:=.int .u8 0) (size:=1) (bytes:=1) (n:=(obj S.O k).data.length) (cap:=(L.dC k)) (A:=(L.dA k)) (xs:=(cL (obj S.O k).data)) (s:=(.tmp 33)) (x:=(.tmp 36)) (ats:=#[86,86]) (A':=A) (m:=(bw S.X bs.length)) (c':=c) (news:=(cL (bs.take (bw S.X bs.length)))) (fun _=>by kernel_rfl) rfl (by kernel_rfl) (fun _=>by kernel_rfl) (fun _=>by kernel_rfl) Tryz.underlying86 (by kernel_rfl) rfl (by decide) (by rw [wu,List.length_take,Nat.min_eq_left hwl.1,Nat.mul_one]) (rH (bs.take (bw S.X bs.length))) ((hA.take (bw S.X bs.length)).src) (by unfold maxLen;omega) (by omega) (fun A1 c2=>?_)
  refine ak.d9 7 (p:=.abs (aJ 5 1 A1 (((obj S.O k).data.length)+(bw S.X bs.length)) c2 ((cL (obj S.O k).data)++(cL (bs.take (bw S.X bs.length)))))) (p':=.abs (aJ 5 1 A1 (((obj S.O k).data++bs.take (bw S.X bs.length)).length) c2 (cL ((obj S.O k).data++bs.take (bw S.X bs.length))))) (by kernel_rfl) (by rw [JV,List.length_append,List.length_take,Nat.min_eq_left hwl.1]) ?_
  refine ak.slot 37 (.slice A1 (((obj S.O k).data.length)+(bw S.X bs.length)) (c2)) (.slice A1 (((obj S.O k).data++bs.take (bw S.X bs.length)).length) (c2)) (fun _=>by kernel_rfl) (by rw [List.length_append,List.length_take,Nat.min_eq_left hwl.1]) ?_
  refine NL ?_
  exact MD (A1,c2) [0,1,9,29,37] [0,1,2,3,4,5,6,7]
 rintro⟨A1,c2⟩
 refine aO.cut (ι:=Unit) (fr':=fun (_:Unit)=>[(0,vP f),(1,vP (L.b k)),(9,vI ↑(bw S.X bs.length)),(37,.slice A1 (((obj S.O k).data++bs.take (bw S.X bs.length)).length) (c2)),(38,vP (L.b k))]) (hp':=fun (_:Unit)=>(L9 f m t S L k R++[Sn A1 S k bs c2])) [0,1,2,3,4,5,6] rfl rfl ?_ rfl (fun _=>by kernel_rfl) ?_
 ·refine gK 1 [(38,vP (L.b k))] [] ?_
  refine NL ?_
  exact MD () [0,1,9,37,38] [0,1,2,3,4,5,6,7]
 rintro _
 refine aO.cut (ι:=Unit) (fr':=fun (_:Unit)=>[(0,vP f),(1,vP (L.b k)),(9,vI ↑(bw S.X bs.length)),(37,.slice A1 (((obj S.O k).data++bs.take (bw S.X bs.length)).length) (c2)),(39,.pointer (some ⟨(L.b k),9,none⟩))]) (hp':=fun (_:Unit)=>(L9 f m t S L k R++[Sn A1 S k bs c2])) [0,1,2,3,4,5,6] rfl rfl ?_ rfl (fun _=>by kernel_rfl) ?_
 ·refine gK 1 [(39,.pointer (some ⟨(L.b k),9,none⟩))] [] ?_
  refine NL ?_
  exact MD () [0,1,9,37,39] [0,1,2,3,4,5,6,7]
 rintro _
 refine aO.last rfl rfl ?_
 refine ak.mem (fun w hS=>hS.yj (i:=3) (k:=k) rfl (by rw [hkk];decide) (iU (hkk)) (congrArg kR (hkk))) ?_
 refine gC 1 [] [(0,a_ 8 (L.b k))] [(8,[(9,.slice A1 (((obj S.O k).data++bs.take (bw S.X bs.length)).length) (c2))])] ?_
 obtain⟨L2,hL2⟩:∃ L2:HL,L2=L.data k A1 c2:=⟨_,rfl⟩
 refine ak.mem (cP:=[.abs (ay (bN (aH S.O k (fun o=>{ o with data:=o.data++bs.take (bw S.X bs.length) })) L2)),.blk f [vI (S.X.cN),vI (S.X.cB),vI (S.X.cH),vI (S.X.cS),vI (S.X.cZ),.map (some m),vP t,vI (S.X.last),vI (S.X.ah),vI (S.X.used)] 154,.abs (aP Tryz.prog 3 m (bg (bn L S.idx)) S.idx.length),.abs (cE 212 t S.X.cH S.av (bn L S.us)),.abs (ay (kQ (bO S.O L) k bY.none)),.abs (ay (cJ S.O L)),.abs R,.abs (aJ 5 1 A1 (((obj S.O k).data++bs.take (bw S.X bs.length)).length) c2 (cL ((obj S.O k).data++bs.take (bw S.X bs.length))))]) (fun w hS=>hS.RP hL2 (f:=(fun o=>{ o with data:=o.data++bs.take (bw S.X bs.length) })) (i:=3) (j:=8) (ix:=[0,1,2,4,5,6,7]) rfl rfl (by kernel_rfl) rfl (by show (obj S.O k).kind≠0;rw [hkk];decide) ((iU (L:=L2) (k:=k) (o:=(fun o=>{ o with data:=o.data++bs.take (bw S.X bs.length) }) (obj S.O k)) hkk).trans (by rw [IV hL2,IW hL2]<;>rfl)) (by show kR (obj S.O k).kind=_;rw [hkk]<;>rfl)) ?_
 refine ak.mem (cP:=[pD (aH S.O k (fun o=>{ o with data:=o.data++bs.take (bw S.X bs.length) })) L2,pO (aH S.O k (fun o=>{ o with data:=o.data++bs.take (bw S.X bs.length) })) L2,pF f m t S.X,pI m L S.idx,pT t S.X.cH S.av L S.us,pE S.O L,.abs R]) (fun w hS=>hS.RQ hL2 (f:=(fun o=>{ o with data:=o.data++bs.take (bw S.X bs.length) })) (i:=4) (j:=7) (ix:=[0,1,2,3,5,6]) rfl rfl (by kernel_rfl) rfl hkk rfl rfl) ?_
 refine ak.dN [(3,.abs (aP Tryz.prog 3 m (bg (bn L2 S.idx)) S.idx.length)),(4,.abs (cE 212 t S.X.cH S.av (bn L2 S.us))),(5,.abs (ay (cJ (aH S.O k (fun o=>{ o with data:=o.data++bs.take (bw S.X bs.length) })) L2)))] (fun w hS=>by rw [F5 hL2,F5 hL2,show cJ (aH S.O k (fun o=>{ o with data:=o.data++bs.take (bw S.X bs.length) })) L2=cJ S.O L from (nH (O:=S.O) (k:=k) (f:=(fun o=>{ o with data:=o.data++bs.take (bw S.X bs.length) })) rfl rfl).trans (NT hL2)];exact hS) ?_
 have Dy:(obj (aH S.O k (fun o=>{ o with data:=o.data++bs.take (bw S.X bs.length) })) k).kind=1:=(j6 (f:=(fun o=>{ o with data:=o.data++bs.take (bw S.X bs.length) })) (fun _=>rfl)).trans hkk
 have hbk:L2.b k=L.b k:=LG hL2
 generalize cA:(aH S.O k (fun o=>{ o with data:=o.data++bs.take (bw S.X bs.length) }))=cG at Dy ⊢
 refine NL (aj.np (NX (SR ?_)))
 refine gK 1 [(40,vP (L.b k))] [] ?_
 refine ak.slot 40 (vP (L.b k)) (vP (L2.b k)) (fun _=>by kernel_rfl) (by rw [hbk]) ?_
 refine gK 8 [(45,.agg #[vI (S.X.cS),vI (S.X.cZ)]),(48,.pointer (some ⟨(L2.b k),4,none⟩))] [(4,A_ 2 f 2)] ?_
 refine LY 1 [(5,1),(0,2)] k S.X.cS S.X.cZ Dy (fun eM dD=>?_)
 have yM:=ku dD Dy
 refine NS (gC 9 [] [(3,a_ 2 f),(5,p_ ⟨[],none,none,none,some (vI (S.X.used+(((bw S.X bs.length):Nat):Int)))⟩ [(Value.int .i64 (IntKind.wrap .i64 (S.X.used+(((bw S.X bs.length):Nat):Int))))=(.int .i64 (S.X.used+(((bw S.X bs.length):Nat):Int)))] ⟨aY (by omega) (by omega) (by omega),trivial⟩),(8,a_ 2 f)] [(2,[(9,vI (S.X.used+(((bw S.X bs.length):Nat):Int)))])] ?_)
 refine NS (gK 3 [(6,vI ↑(bw S.X bs.length)),(7,vI 0)] [] ?_)
 refine NN (af.ret ?_)
 exact RT (l:=[pF f m t { S.X with used:=S.X.used+(((bw S.X bs.length):Nat):Int) },pI m L2 S.idx,pT t S.X.cH S.av L2 S.us,pO eM L2,pD eM L2,pE eM L2]) (.tuple #[vI ↑(bw S.X bs.length),vI 0]) [2,3,4,1,0,5,6] (⟨L2,by subst dD;subst cA;rw [show dK S k bs=_ from (if_neg (fun e=>by rw [e] at hlen;exact absurd hlen (by simp))).trans (if_neg Cx)];exact⟨rfl,by rw [tZ]⟩⟩)
end
end Go.Proofs.YtiehgnlnofhbaaaGreatDoor
section
namespace Go.Proofs
open Go.Shelf
def Tryz.lays146_ren:Go.Shelf.Ren:=⟨fun|146=>231|221=>232|268=>233|138=>234|143=>235|195=>236|197=>219|218=>237|219=>238|260=>221|217=>122|225=>137|224=>136|267=>239|266=>129|314=>240|n=>n,fun|9=>9|31=>35|3=>3|4=>4|0=>0|105=>329|21=>21|5=>5|46=>193|119=>333|139=>336|138=>335|146=>351|51=>235|n=>n,fun|1=>1|3=>5|4=>6|n=>n⟩
theorem Tryz.lays146:Go.Proofs.Lays.n146 Tryz.prog Tryz.lays146_ren:={
  mixed:=by kernel_rfl
  f138:=Tryz.func234.trans (congrArg some (by kernel_rfl))
  f143:=Tryz.func235.trans (congrArg some (by kernel_rfl))
  f146:=Tryz.func231.trans (congrArg some (by kernel_rfl))
  f195:=Tryz.func236.trans (congrArg some (by kernel_rfl))
  f197:=Tryz.func219.trans (congrArg some (by kernel_rfl))
  f217:=Tryz.func122.trans (congrArg some (by kernel_rfl))
  f218:=Tryz.func237.trans (congrArg some (by kernel_rfl))
  f219:=Tryz.func238.trans (congrArg some (by kernel_rfl))
  f221:=Tryz.func232.trans (congrArg some (by kernel_rfl))
  f224:=Tryz.func136.trans (congrArg some (by kernel_rfl))
  f225:=Tryz.func137.trans (congrArg some (by kernel_rfl))
  f260:=Tryz.func221.trans (congrArg some (by kernel_rfl))
  f266:=Tryz.func129.trans (congrArg some (by kernel_rfl))
  f267:=Tryz.func239.trans (congrArg some (by kernel_rfl))
  f268:=Tryz.func233.trans (congrArg some (by kernel_rfl))
  f314:=Tryz.func240.trans (congrArg some (by kernel_rfl))
  t0:=Tryz.underlying0
  a0:=Tryz.isAgg0
  z0:=Tryz.sizeOf0
  v0:=Tryz.zeroValue0
  t3:=Tryz.underlying3
  a3:=Tryz.isAgg3
  z3:=Tryz.sizeOf3
  v3:=Tryz.zeroValue3
  t4:=Tryz.underlying4
  a4:=Tryz.isAgg4
  z4:=Tryz.sizeOf4
  v4:=Tryz.zeroValue4
  t5:=Tryz.underlying5
  a5:=Tryz.isAgg5
  z5:=Tryz.sizeOf5
  v5:=Tryz.zeroValue5
  t9:=Tryz.underlying9
  a9:=Tryz.isAgg9
  z9:=Tryz.sizeOf9
  v9:=Tryz.zeroValue9
  t21:=Tryz.underlying21
  a21:=Tryz.isAgg21
  z21:=Tryz.sizeOf21
  v21:=Tryz.zeroValue21
  t31:=Tryz.underlying35
  a31:=Tryz.isAgg35
  z31:=Tryz.sizeOf35
  v31:=Tryz.zeroValue35
  t46:=Tryz.underlying193
  a46:=Tryz.isAgg193
  z46:=Tryz.sizeOf193
  v46:=Tryz.zeroValue193
  t51:=Tryz.underlying235
  a51:=Tryz.isAgg235
  z51:=Tryz.sizeOf235
  v51:=Tryz.zeroValue235
  t105:=Tryz.underlying329
  a105:=Tryz.isAgg329
  z105:=Tryz.sizeOf329
  v105:=Tryz.zeroValue329
  t119:=Tryz.underlying333
  a119:=Tryz.isAgg333
  z119:=Tryz.sizeOf333
  t138:=Tryz.underlying335
  a138:=Tryz.isAgg335
  z138:=Tryz.sizeOf335
  v138:=Tryz.zeroValue335
  t139:=Tryz.underlying336
  a139:=Tryz.isAgg336
  z139:=Tryz.sizeOf336
  v139:=Tryz.zeroValue336
  t146:=Tryz.underlying351
  a146:=Tryz.isAgg351
  z146:=Tryz.sizeOf351
  v146:=Tryz.zeroValue351
  g1:=by kernel_rfl
  g3:=by kernel_rfl
  g4:=by kernel_rfl }
open Go.RowKit Go.Lib in
theorem Tryz.strings_Split (s sep:ByteArray) (m:Int) (w:World) (hs:s.size < 4294967281) (hm:w.cell? ⟨1,0,none⟩=some (.int .i64 m)) (h1:1<=sep.size) :
    Calls Tryz.prog 231 #[.string s,.string sep] w fun e w'=>
      e=.returned (.slice (some ⟨w.heap.size,0,none⟩) (Lib.countB s sep+1) (Lib.countB s sep+1))/\w'=w.alloc (.cells ((Lib.splitB sep 0 (Lib.countB s sep) s).map Value.string).toArray 9):=Any.strings_Split Tryz.lays146 (by kernel_rfl) s sep m w hs hm h1
end Go.Proofs
end
namespace Go.Proofs.YtiehgnlnofhbaaaGreatDoor
section
open Go.RowKit Go.Maps bF aB
def dV (β:Bs):Prop:=∃ m,Rd β ⟨1,0,none⟩ (.int .i64 m)
theorem dV.le {β β':Bs} (h:dV β) (hle:β.le β'):dV β':=h.imp fun _ h=>h.le hle
theorem Cy (s:ByteArray):(jK s).length=Lib.countB s slash+1:=Lib.splitB_all slash (by decide) 0 _ s rfl
theorem yS (s:ByteArray):Lib.countB s slash<=s.size:=Lib.countB_le slash (by decide) _ s (Nat.le_refl _)
theorem z7 (sep:ByteArray):∀ (k:Nat) (s:ByteArray),∀ p∈Lib.splitB sep 0 k s,p.size<=s.size
  | 0,s,p,hp=>by
    rw [Lib.splitB_zero] at hp
    rw [List.mem_singleton.1 hp];exact Nat.le_refl _
  | k+1,s,p,hp=>by
    rcases Lib.indexB_cases s sep with hix|⟨i,hix,_⟩
    ·rw [Lib.splitB_miss sep 0 (k+1) s hix] at hp
     rw [List.mem_singleton.1 hp];exact Nat.le_refl _
    rw [Lib.splitB_hit sep 0 k s i hix] at hp
    rcases List.mem_cons.1 hp with rfl|hp
    ·rw [ByteArray.size_extract];omega
    have:=z7 sep k _ p hp
    rw [ByteArray.size_extract] at this
    omega
theorem Ih {s p:ByteArray} (hp:p∈jK s):p.size<=s.size:=z7 slash _ s p hp
def ig (ps:List ByteArray):List Value:=ps.map Value.string
theorem Om {β:Bs} (hg:dV β) (s:ByteArray) (hs:s.size<=1048576):Spec Tryz.prog β 231 #[.string s,.string ⟨#[47]⟩] [] (fun v l=>∃ b,v=.slice (some ⟨b,0,none⟩) (jK s).length (jK s).length/\l=[.abs (aJ 9 1 (some ⟨b,0,none⟩) (jK s).length (jK s).length (ig (jK s)))]):=
  Spec.E8 fun W hW=>by
    obtain⟨m,hg⟩:=hg
    have hm:W.cell? ⟨1,0,none⟩=some (.int .i64 m):=(World.cell?_of_block (w:=β.w0) (hW.old _ hg.1).2).trans hg.2
    have hl:=Cy s
    have hc:=yS s
    refine (Tryz.strings_Split s slash m W (by omega) hm (by decide)).mono ?_
    rintro e w' ⟨rfl,rfl⟩
    refine⟨_,_,rfl,⟨W.heap.size,by rw [hl],rfl⟩,(Keeps.refl _ _).alloc _,fun k=>k=W.heap.size,⟨⟨?_,.inr ⟨W.heap.size,(jK s).length,(ig (jK s)).toArray,rfl,Nat.zero_le _,?_,Nat.le_refl _,?_,?_,?_⟩⟩,fun k=>?_⟩,fun k hk=>Nat.le_of_eq hk.symm⟩
    ·simp [ig]
    ·show (W.heap.push _)[W.heap.size]?=_
     simp [ig,jK]
    ·unfold maxLen;omega
    ·first|(simp [ig];done)|(simp [ig];exact List.take_of_length_le (by simp))
    ·first|(simp [ig];done)|(simp [ig];exact List.take_of_length_le (by simp))
    simp [Value.ownBlock,eq_comm]
theorem Ma {β:Bs} {ps:List ByteArray} (hg:dV β) (s:ByteArray) (hs:s.size<=1048576) (hp:ps=jK s):Spec Tryz.prog β 231 #[.string s,.string ⟨#[47]⟩] [] (fun v l=>∃ b,v=.slice (some ⟨b,0,none⟩) ps.length ps.length/\l=[.abs (aJ 9 1 (some ⟨b,0,none⟩) ps.length ps.length (ig ps))]):=by
  subst hp;exact Om hg s hs
def pc (ps:List ByteArray) (j:Nat):ByteArray:=ps.getD j ⟨#[]⟩
theorem Mb {ps:List ByteArray} {j:Nat} (hj:j < ps.length):pc ps j∈ps:=by
  unfold pc
  rw [List.getD_eq_getElem?_getD,List.getElem?_eq_getElem hj]
  exact List.getElem_mem _
theorem wW {ps:List ByteArray} {j:Nat} (hj:j < ps.length):(ig ps)[j]?=some (.string (pc ps j)):=by
  unfold ig pc
  rw [List.getElem?_map,List.getD_eq_getElem?_getD,List.getElem?_eq_getElem hj]
  rfl
theorem o5 {ps:List ByteArray} {j:Nat} (hj:j < ps.length):ps.drop j=pc ps j::ps.drop (j+1):=by
  unfold pc
  rw [List.getD_eq_getElem?_getD,List.getElem?_eq_getElem hj]
  exact List.drop_eq_getElem_cons hj
theorem Gz {ps:List ByteArray}:(∀ p∈ps,bK p)↔∀ j,j < ps.length->bK (pc ps j):=by
  refine⟨fun h j hj=>h _ (Mb hj),fun h p hp=>?_⟩
  obtain⟨j,hj,rfl⟩:=List.getElem_of_mem hp
  have:=h j hj
  unfold pc at this
  rw [List.getD_eq_getElem?_getD,List.getElem?_eq_getElem hj] at this
  exact this
theorem En {n:ByteArray} (h:bK n):n.size<=1048576:=Nat.le_trans h.2.1 (by decide)
theorem GA {O:ck}:∀ {ps:List ByteArray} {d:Nat} {e:Int},kB O d ps=.error e->e≠0
  | [],d,e,h=>by cases h;decide
  | [p],d,e,h=>by
    unfold kB at h
    split at h
    ·cases h;decide
    cases h
  | p::q::r,d,e,h=>by
    unfold kB at h
    split at h
    ·cases h;decide
    split at h
    ·cases h;decide
    split at h
    ·cases h;decide
    exact GA h
theorem Eo {S:aG} {d:Nat} (hI:Inv S) (hd:Live S.idx ⟨d,2⟩) (path:ByteArray):(∃ e,jS S.O d path=.error e/\e≠0)\/∃ d' name,jS S.O d path=.ok (d',name)/\Live S.idx ⟨d',2⟩/\(obj S.O d').gone=false/\bK name:=by
  cases h:jS S.O d path with
  | error e=>
    refine .inl ⟨e,rfl,?_⟩
    unfold jS at h
    split at h
    ·exact GA h
    cases h;decide
  | ok x=>
    obtain⟨d',name⟩:=x
    exact .inr ⟨d',name,rfl,Dr hI.toInv0 hd h⟩
section way
variable {O:ck} {d:Nat} {ps:List ByteArray} {j:Nat}
theorem Ep (hj:j+1=ps.length):kB O d (ps.drop j)=if (obj O d).gone=true then .error 170 else .ok (d,pc ps j):=by
  rw [o5 (by omega),List.drop_of_length_le (by omega)]
  rfl
theorem uy (hj:j+1 < ps.length):kB O d (ps.drop j)=match aU (pc ps j) (obj O d).ah with
    | none=>.error 170
    | some t=>if t.kind=3 then .error 174 else if t.kind=1 then .error 173 else kB O t.k (ps.drop (j+1)):=by
  rw [o5 (j:=j) (by omega),o5 (j:=j+1) hj]
  rfl
end way
section bytes
variable {P:Program} {β:Bs} {N:dF} {ops:Array Oper} {k:Nat} {fr:Fr} {hps:List HP} {Q:Post} {d:Option Tmp} {s:ByteArray}
theorem Bs.ok.QB {β:Bs} {w:World} (h:β.ok w) (F:Nat->Prop):β.le ⟨fun k=>β.O k\/F k,w⟩:=⟨fun _ h=>.inl h,h.os,h.tape,h.output,h.size,fun k hk=>h.old k hk⟩
theorem ak.GD {t1 t2 e:TypeId} {x:Operand} (hop:∀ junk,fQ N junk ops fr k=some (.convert t1 t2 x,d)) (hx:∀ junk,dH N fr junk x=.string s) (h1:P.underlying t1=some .string) (h2:P.underlying t2=some (.slice e)) (h3:P.underlying e=some (.int .u8))
    (K:∀ b cap,s.data.toList.length<=cap->ak P β N ops (k+1) (dw fr d (.slice (some ⟨b,0,none⟩) s.data.toList.length cap)) (hps++[.abs (lC β (fun β'=>cg β' (some ⟨b,0,none⟩) s.data.toList))]) Q):ak P β N ops k fr hps Q:=by
  refine ak.Fa (ι:={ p:Nat×Nat // s.data.toList.length<=p.2 }) (v:=fun p=>.slice (some ⟨p.1.1,0,none⟩) s.data.toList.length p.1.2) (hp':=fun p=>hps++[.abs (lC β (fun β'=>cg β' (some ⟨p.1.1,0,none⟩) s.data.toList))]) hop (fun o junk w ho hS=>?_) (fun p=>K p.1.1 p.1.2 p.2)
  have hr:=run_bytes_of_string (P:=P) w t1 t2 e s h1 h2 h3
  have hsz:s.data.toList.length=s.size:=Array.length_toList ..
  generalize hw:(w.drew.alloc (.cells (bytesRow s (grownCap w s.size 0 e)) e ((bytesRow s (grownCap w s.size 0 e)).size,(bytesRow s (grownCap w s.size 0 e)).size+1)))=w' at hr
  have hk:Keeps (fun _=>False) w w':=by rw [← hw];exact (Keeps.refl _ _).drew.alloc _
  have hok:=hS.1.keeps hk (fun _ _ h=>h)
  have hheap:w'.heap[w.heap.size]?=some (.cells (bytesRow s (grownCap w s.size 0 e)) e ((bytesRow s (grownCap w s.size 0 e)).size,(bytesRow s (grownCap w s.size 0 e)).size+1)):=by
    rw [← hw]
    show (w.heap.push _)[w.heap.size]?=_
    simp
  have hsize:w.heap.size < w'.heap.size:=by
    have:=(Array.getElem?_eq_some_iff.1 hheap).1
    exact this
  refine⟨⟨(w.heap.size,grownCap w s.size 0 e),by rw [hsz];exact grownCap_ge w s.size 0 e⟩,w',.inl ?_,hS.new (F:=fun k=>k=w.heap.size) ?_ hk (fun k e=>Nat.le_of_eq e.symm)⟩
  ·obtain⟨dst,op,type,pos,after,guard⟩:=o
   cases ho
   have hr2:(convert t1 t2 (.string s)).run P w=.ok (.slice (some ⟨w.heap.size,0,none⟩) s.data.toList.length (grownCap w s.size 0 e)) w':=by rw [hr,hsz]
   simp only [execOp,hx]
   simp [hr2,Result.andThen]
  refine⟨⟨fun k=>β.O k\/k=w.heap.size,w'⟩,hok.QB _,fun _ h=>h,fun _ h=>.inr h,Nat.le_refl _,fun k hk=>⟨by rw [hk];exact hsize,rfl⟩,fun j v hj=>⟨rfl,.inr rfl,?_⟩⟩
  show World.cell? w' ⟨w.heap.size,0+j,none⟩=some v
  have hj2:=bA hj
  unfold World.cell?
  rw [hheap]
  unfold cL at hj hj2
  rw [List.length_map] at hj2
  rw [List.getElem?_map,List.getElem?_eq_getElem hj2] at hj
  simp only [Option.map_some,Option.some.injEq] at hj
  subst hj
  unfold bytesRow
  rw [Nat.zero_add]
  simp only [Option.isSome_none,Bool.false_eq_true,if_false]
  have hj3:j < s.data.size:=by rw [← Array.length_toList];exact hj2
  rw [Array.getElem?_append_left (by simpa using hj3)]
  simp [wo]
  exact⟨_,Array.getElem?_eq_getElem hj3,rfl⟩
end bytes
theorem Cz {β:Bs} (S:aG) (L:HL) (f m t:Nat) (hI:Inv S) (k:Nat) (hk:Live S.idx ⟨k,1⟩) (A:Option Addr) (c:Nat) (bs:List UInt8) (hbl:bs.length<=1099511627776) (hbc:bs.length<=c) :
    Spec Tryz.prog β 199 #[vP f,vP (L.b k),.slice A bs.length c] (.abs (lC β (fun β'=>cg β' A bs))::pA f m t L S) (fun v l=>∃ L2,v=.tuple #[vI (dK S k bs).1,vI (dK S k bs).2.1]/\l=pA f m t L2 (dK S k bs).2.2):=
  Spec.Kc fun _ _ hA=>Em S L f m t hI k hk A c bs hA hbl hbc
def Bl (L:HL):Except Int (Nat×ByteArray)->Value
  | .error e=>.tuple #[.pointer none,.string ⟨#[]⟩,.int .i64 e]
  | .ok (d,p)=>.tuple #[.pointer (some ⟨L.b d,0,none⟩),.string p,.int .i64 0]
end
end Go.Proofs.YtiehgnlnofhbaaaGreatDoor
