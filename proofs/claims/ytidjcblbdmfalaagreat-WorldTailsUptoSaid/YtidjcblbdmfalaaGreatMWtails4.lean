/-
  PROVED HERE: lemmas and contracts of functions (texts of this repo, joined; what the claim does not use is left out): H4, H5, H6, H7, Vg, H8, H9, Vh, HD, H10, H11.
  CONDITIONS: as the theorems say.
-/
import Derived.Test.YtidjcblbdmfalaaGreatMWtails3
set_option maxRecDepth 100000
set_option maxHeartbeats 4000000
namespace Go.Proofs.YtidjcblbdmfalaaGreat
section
open Go.RowKit Go.Maps bH aE
attribute [local irreducible] aj aS af ai
theorem rZ {β:Bs} (S:aI) (L:HL) (f m t:Nat) (hI:Inv0 S) (d:Nat) (hd:Live S.idx ⟨d,2⟩) (name:ByteArray) (hsz:name.size<=1048576) (hno:aX name (obj S.O d).ah=none) (o:aV) (hid:o.id=S.X.last+1) (hk3:o.kind=1\/o.kind=2\/o.kind=3) (hl0:o.links=0) (hlast:S.X.last < 1099511627776) :
    Spec Tryz.prog β 127 #[vP f,vP (L.b d),.string name,dQ L ⟨(aR S.X),o.kind⟩] [pF f m t { S.X with last:=S.X.last+1 },pI m L S.idx,pO (aF S.O (aR S.X) (fun _=>o)) L,pE (aF S.O (aR S.X) (fun _=>o)) L] (fun v l=>v=.tuple #[]/\l=[pF f m t ((eY S d name o).X),pI m L ((eY S d name o).idx),pO ((eY S d name o).O) L,pE ((eY S d name o).O) L]):=by
  have hX:=hI.hX
  have hne:d≠(aR S.X):=hI.uT hd
  have hkd:(obj S.O d).kind=2:=hI.kind hd
  have hel:(obj S.O d).ah.length<=8192:=hI.gi hd
  have hlen:=hI.len
  have e1:obj (aF S.O (aR S.X) (fun _=>o)) (aR S.X)=o:=bR
  have e2:obj (aF S.O (aR S.X) (fun _=>o)) d=obj S.O d:=cG hne
  have hnk:=qf hI
  have h:=PL (β:=β) { S.X with last:=S.X.last+1 } f m t (by simp only;omega) (aF S.O (aR S.X) (fun _=>o)) L d (by rw [e2];exact hkd) name hsz (by rw [e2];exact hno) (by rw [e2];omega) S.idx (by omega) ⟨(aR S.X),o.kind⟩ (by rw [e1]) hk3 (by rw [e1,hl0];decide) (by
    rw [e1,hid]
    cases e:aE.get S.idx (S.X.last+1) with
    | none=>rfl
    | some u=>have:=(hI.idx _ u e).2.2;omega) (by rw [e1,hid];exact WalkArith.wf_i64 (by have:=hI.last;omega))
  rw [e1,hid] at h
  exact h
theorem Ed {β:Bs} (S:aI) (L:HL) (f m t:Nat) (hI:Inv S) (d:Nat) (hd:Live S.idx ⟨d,2⟩) (name:ByteArray) (hsz:name.size<=1048576) (mode:Int) :
    Spec Tryz.prog β 124 #[vP f,vP (L.b d),.string name,vI (mode)] (pA f m t L S) (fun v l=>∃ L2,v=vI (gT S d name mode).1/\l=(pA f m t L2 ((gT S d name mode).2))):=by
 have hX:=hI.hX
 have hel:(obj S.O d).ah.length<=8192:=hI.gi hd
 have hkd:(obj S.O d).kind=2:=hI.kind hd
 refine Spec.enter Tryz.func124 rfl Tryz.ntmps124 (Nat.le_of_ble_eq_true rfl) (fun R=>?_)
 refine SR (gK 1 [] [] ?_)
 refine NS (gK 3 [(10,vP f),(11,vP (L.b d)),(12,.string name)] [] ?_)
 refine gL [0,1,5,3] (tW S L f m t hI d hd name hsz) ?_
 rintro _ _ ⟨rfl,rfl⟩
 refine gK 1 [(9,vI ((ck S.X S.O S.idx d name)))] [] ?_
 refine NN (af.seq (SR (gK 2 [(15,.bool (decide (((ck S.X S.O S.idx d name):Int)=(0:Int))))] [] ?_)))
 refine NN (af.bg (p:=((ck S.X S.O S.idx d name):Int)=(0:Int)) (fun _=>by kernel_rfl) (fun h0=>?_) (fun h0=>?_))
 ·have hno:=oK h0
  refine af.region (gK 5 [(16,vP f),(17,vP (L.b d)),(18,.string name),(19,vP f),(20,vI (mode))] [] ?_)
  refine gL [0] (tV S.X f m t hX mode) ?_
  rintro _ _ ⟨rfl,rfl⟩
  refine aj.lT (d:=(some 22)) (t:=136) (fun _=>by kernel_rfl) Tryz.prog rfl 9 (fun m1=>?_)
  refine gN 3 (fun b2=>[(25,.iface 135 (vP b2))]) (fun _=>[]) (fun _=>[]) (fun b2=>.blk b2 [vI (S.X.last+1),vI (mode),vI 0,vI 0,vI (S.X.cS),vI (S.X.cZ),vI 0,vI 0,.bool false,.map (some m1),.pointer none] 138) (fun b2=>?_)
  obtain⟨L2,hL2⟩:∃ L2:HL,L2=L.put (aR S.X) b2 m1 none 0:=⟨_,rfl⟩
  have hfr:=hI.toInv0.fresh
  refine aj.mem (fun w hS=>hS.tP hL2 hfr (o:=(aY S.X 2 mode)) (i:=3) (j:=8) (ix:=[0,1,2,4,5,6,7]) rfl rfl (by kernel_rfl) rfl (by show (2:Int)≠0;decide) ((lp (L:=L2) (k:=(aR S.X)) (o:=(aY S.X 2 mode)) rfl).trans (by rw [Fz hL2];rfl)) rfl) ?_
  refine aj.mem (fun w hS=>hS.Ox hL2 hfr (o:=(aY S.X 2 mode)) (i:=3) (j:=7) (ix:=[0,1,2,4,5,6]) rfl rfl (by kernel_rfl) rfl rfl rfl) ?_
  refine aj.dG [(5,pD (aF S.O (aR S.X) (fun _=>(aY S.X 2 mode))) L2)] (fun w hS=>hS.BR hL2 (o:=(aY S.X 2 mode)) (i:=5) rfl (by show (2:Int)≠1;decide)) ?_
  refine aj.dG [(3,.abs (aN Tryz.prog 3 m (bp (bq L2 S.idx)) S.idx.length)),(4,.abs (cV 197 t S.X.cH S.aD (bq L2 S.us)))] (fun w hS=>by rw [gH hL2 hfr.idx,gH hL2 hfr.us];exact hS) ?_
  refine gL (f:=127) (args:=#[vP f,vP (L.b d),.string name,.iface 135 (vP b2)]) (pre:=[pF f m t { S.X with last:=S.X.last+1 },pI m L2 S.idx,pO (aF S.O (aR S.X) (fun _=>(aY S.X 2 mode))) L2,pE (aF S.O (aR S.X) (fun _=>(aY S.X 2 mode))) L2]) [2,3,1,0] ((by have h:=rZ (β:=β) S L2 f m t hI.toInv0 d hd name hsz hno (aY S.X 2 mode) rfl (by simp [aY]) rfl (qy h0);rw [vZ hL2 (hI.uT hd),oJ hL2] at h;exact h)) ?_
  rintro _ _ ⟨rfl,rfl⟩
  refine NS (aj.dG [(5,.abs (ax (bN ((eY S d name (aY S.X 2 mode)).O) L2)))] (fun w hS=>by rw [show bN ((eY S d name (aY S.X 2 mode)).O) L2=bN (aF S.O (aR S.X) (fun _=>(aY S.X 2 mode))) L2 from gZ];exact hS) ?_)
  refine gK 2 [(8,vI ((ck S.X S.O S.idx d name)))] [] ?_
  refine NN (af.ret ?_)
  exact RT (vI ((ck S.X S.O S.idx d name))) [0,1,4,2,5,3,6] (⟨L2,by rw [show gT S d name mode=_ from if_pos h0];refine⟨congrArg _ h0,?_⟩;rfl⟩)
 refine af.skip (NX (SR (gK 2 [(8,vI ((ck S.X S.O S.idx d name)))] [] ?_)))
 refine NN (af.ret ?_)
 exact RT (vI ((ck S.X S.O S.idx d name))) [0,1,4,3,5,2,6] (⟨L,by rw [show gT S d name mode=_ from if_neg h0]<;>exact⟨rfl,rfl⟩⟩)
theorem zN {β:Bs} (S:aI) (L:HL) (f m t:Nat) (hI:Inv S) (d:Nat) (hd:Live S.idx ⟨d,2⟩) (name:ByteArray) (hsz:name.size<=1048576) (text:ByteArray) (OT:text.size<=1048576) :
    Spec Tryz.prog β 128 #[vP f,vP (L.b d),.string name,.string text] (pA f m t L S) (fun v l=>∃ L2,v=vI (eT S d name text).1/\l=(pA f m t L2 ((eT S d name text).2))):=by
 have hX:=hI.hX
 have hel:(obj S.O d).ah.length<=8192:=hI.gi hd
 have hkd:(obj S.O d).kind=2:=hI.kind hd
 refine Spec.enter Tryz.func128 rfl Tryz.ntmps128 (Nat.le_of_ble_eq_true rfl) (fun R=>?_)
 refine SR (gK 1 [] [] ?_)
 refine NS (gK 1 [(10,.string text)] [] ?_)
 refine gL [] (PK text OT) ?_
 rintro _ _ ⟨rfl,rfl⟩
 refine gK 1 [(9,vI ((nD text)))] [] ?_
 refine NN (af.seq (SR (gK 2 [(13,.bool (decide (((nD text):Int)=(0:Int))))] [] ?_)))
 refine NN (af.bg (p:=((nD text):Int)=(0:Int)) (fun _=>by kernel_rfl) (fun hb=>?_) (fun hb=>?_))
 ·refine af.region (gK 3 [(14,vP f),(15,vP (L.b d)),(16,.string name)] [] ?_)
  refine gL [0,1,5,3] (tW S L f m t hI d hd name hsz) ?_
  rintro _ _ ⟨rfl,rfl⟩
  refine gK 1 [(9,vI ((ck S.X S.O S.idx d name)))] [] ?_
  refine NN (af.seq (SR (gK 2 [(19,.bool (decide (((ck S.X S.O S.idx d name):Int)=(0:Int))))] [] ?_)))
  refine NN (af.bg (p:=((ck S.X S.O S.idx d name):Int)=(0:Int)) (fun _=>by kernel_rfl) (fun h0=>?_) (fun h0=>?_))
  ·have hno:=oK h0
   refine af.region (gK 4 [(20,vP f),(21,vP (L.b d)),(22,.string name),(23,vP f)] [] ?_)
   refine gL [0] (tV S.X f m t hX 511) ?_
   rintro _ _ ⟨rfl,rfl⟩
   refine gN 4 (fun b3=>[(28,.iface 132 (vP b3))]) (fun _=>[]) (fun _=>[]) (fun b3=>.blk b3 [vI (S.X.last+1),vI (511),vI 0,vI 0,vI (S.X.cS),vI (S.X.cZ),vI 0,vI 0,.bool false,.string text] 134) (fun b3=>?_)
   obtain⟨L2,hL2⟩:∃ L2:HL,L2=L.put (aR S.X) b3 0 none 0:=⟨_,rfl⟩
   have hfr:=hI.toInv0.fresh
   refine aj.mem (fun w hS=>hS.tP hL2 hfr (o:={ aY S.X 3 511 with target:=text }) (i:=3) (j:=7) (ix:=[0,1,2,4,5,6]) rfl rfl (by kernel_rfl) rfl (by show (3:Int)≠0;decide) ((xH (L:=L2) (k:=(aR S.X)) (o:={ aY S.X 3 511 with target:=text }) rfl).trans (by rfl)) rfl) ?_
   refine aj.dG [(3,pE (aF S.O (aR S.X) (fun _=>{ aY S.X 3 511 with target:=text })) L2)] (fun w hS=>hS.uU hL2 hfr (o:={ aY S.X 3 511 with target:=text }) (i:=3) rfl (by show (3:Int)≠2;decide)) ?_
   refine aj.dG [(5,pD (aF S.O (aR S.X) (fun _=>{ aY S.X 3 511 with target:=text })) L2)] (fun w hS=>hS.BR hL2 (o:={ aY S.X 3 511 with target:=text }) (i:=5) rfl (by show (3:Int)≠1;decide)) ?_
   refine aj.dG [(2,.abs (aN Tryz.prog 3 m (bp (bq L2 S.idx)) S.idx.length)),(4,.abs (cV 197 t S.X.cH S.aD (bq L2 S.us)))] (fun w hS=>by rw [gH hL2 hfr.idx,gH hL2 hfr.us];exact hS) ?_
   refine gL (f:=127) (args:=#[vP f,vP (L.b d),.string name,.iface 132 (vP b3)]) (pre:=[pF f m t { S.X with last:=S.X.last+1 },pI m L2 S.idx,pO (aF S.O (aR S.X) (fun _=>{ aY S.X 3 511 with target:=text })) L2,pE (aF S.O (aR S.X) (fun _=>{ aY S.X 3 511 with target:=text })) L2]) [1,2,0,3] ((by have h:=rZ (β:=β) S L2 f m t hI.toInv0 d hd name hsz hno { aY S.X 3 511 with target:=text } rfl (by simp [aY]) rfl (qy h0);rw [vZ hL2 (hI.uT hd),oJ hL2] at h;exact h)) ?_
   rintro _ _ ⟨rfl,rfl⟩
   refine NS (aj.dG [(5,.abs (ax (bN ((eY S d name { aY S.X 3 511 with target:=text }).O) L2)))] (fun w hS=>by rw [show bN ((eY S d name { aY S.X 3 511 with target:=text }).O) L2=bN (aF S.O (aR S.X) (fun _=>{ aY S.X 3 511 with target:=text })) L2 from gZ];exact hS) ?_)
   refine gK 2 [(8,vI ((ck S.X S.O S.idx d name)))] [] ?_
   refine NN (af.ret ?_)
   exact RT (vI ((ck S.X S.O S.idx d name))) [0,1,4,2,5,3,6] (⟨L2,by rw [show eT S d name text=_ from (if_pos hb).trans (if_pos h0)];refine⟨congrArg _ h0,?_⟩;rfl⟩)
  refine af.skip (NX (SR (gK 2 [(8,vI ((ck S.X S.O S.idx d name)))] [] ?_)))
  refine NN (af.ret ?_)
  exact RT (vI ((ck S.X S.O S.idx d name))) [0,1,4,3,5,2,6] (⟨L,by rw [show eT S d name text=_ from (if_pos hb).trans (if_neg h0)]<;>exact⟨rfl,rfl⟩⟩)
 refine af.skip (NX (af.seq (SR (gK 2 [(19,.bool (decide (((nD text):Int)=(0:Int))))] [] ?_))))
 refine NN (af.bg (p:=((nD text):Int)=(0:Int)) (fun _=>by kernel_rfl) (fun h0=>?_) (fun h0=>?_))
 ·exact absurd h0 hb
 refine af.skip (NX (SR (gK 2 [(8,vI ((nD text)))] [] ?_)))
 refine NN (af.ret ?_)
 exact RT (vI ((nD text))) [0,1,2,3,4,5,6] (⟨L,by rw [show eT S d name text=_ from if_neg hb]<;>exact⟨rfl,rfl⟩⟩)
theorem Cq {β:Bs} (S:aI) (L:HL) (f m t:Nat) (hI:Inv S) (d:Nat) (hd:Live S.idx ⟨d,2⟩) (name:ByteArray) (hsz:name.size<=1048576) :
    Spec Tryz.prog β 131 #[vP f,vP (L.b d),.string name] (pA f m t L S) (fun v l=>∃ L2,v=vI (ez S d name).1/\l=(pA f m t L2 ((ez S d name).2))):=by
 have hX:=hI.hX
 have hel:(obj S.O d).ah.length<=8192:=hI.gi hd
 have hkd:(obj S.O d).kind=2:=hI.kind hd
 refine Spec.enter Tryz.func131 rfl Tryz.ntmps131 (Nat.le_of_ble_eq_true rfl) (fun R=>?_)
 refine af.seq ?_
 rcases hI.mq hd name with hlk|⟨tk,hlk,hlv⟩|⟨tk,hlk,hlv⟩|⟨tk,hlk,hlv⟩
 ·refine af.region (gK 1 [] [] ?_)
  refine NN (af.seq (SR (gK 5 [(10,.map (some (L.m d))),(11,.string name)] [(3,v_ 3 (bD L hkd))] ?_)))
  refine iA 5 hkd hlk ?_
  refine NN (af.block (SR ?_))
  refine gK 1 [(13,.bool true)] [] ?_
  refine NN (CT (SR (gK 1 [(6,vI 170)] [] ?_)))
  refine NN (af.ret (ai.aG (ai.ar ?_)))
  exact RT (vI 170) [0,1,2,3,4,5,6] (⟨L,by rw [show ez S d name=(170,S) by unfold ez;rw [hlk]]<;>exact⟨rfl,rfl⟩⟩)
 ·have hkt:(obj S.O tk).kind=1:=hI.kind hlv
  refine af.region (gK 1 [] [] ?_)
  refine NN (af.seq (SR (gK 5 [(10,.map (some (L.m d))),(11,.string name)] [(3,v_ 3 (bD L hkd))] ?_)))
  refine iA 5 hkd hlk ?_
  refine NN (af.block (SR ?_))
  refine gK 1 [(13,.bool false)] [] ?_
  refine NN (CF (SR (gK 3 [(15,.bool false)] [] ?_)))
  refine NN (CF (af.skip (ai.aJ (NX (SR ?_)))))
  refine gK 3 [(17,vP f),(18,vP (L.b d)),(19,.string name)] [] ?_
  refine gL [0,3,5,1] (oq S L f m t hI d hd name hsz ⟨tk,1⟩ hlk) ?_
  rintro _ _ ⟨rfl,rfl⟩
  refine NS (aj.dG [(5,.abs (ax (bN ((aK S d name ⟨tk,1⟩).O) L)))] (fun w hS=>by rw [show bN ((aK S d name ⟨tk,1⟩).O) L=bN S.O L from om];exact hS) ?_)
  refine gK 1 [(6,vI 0)] [] ?_
  refine NN (af.ret ?_)
  exact RT (vI 0) [0,3,4,1,5,2,6] (⟨L,by rw [show ez S d name=(0,aK S d name ⟨tk,1⟩) by unfold ez;rw [hlk];exact if_neg (by simp)]<;>exact⟨rfl,rfl⟩⟩)
 ·have hkt:(obj S.O tk).kind=2:=hI.kind hlv
  refine af.region (gK 1 [] [] ?_)
  refine NN (af.seq (SR (gK 5 [(10,.map (some (L.m d))),(11,.string name)] [(3,v_ 3 (bD L hkd))] ?_)))
  refine iA 5 hkd hlk ?_
  refine NN (af.block (SR ?_))
  refine gK 1 [(13,.bool false)] [] ?_
  refine NN (CF (SR (gK 3 [(15,.bool true)] [] ?_)))
  refine NN (CT (SR (gK 1 [(6,vI 172)] [] ?_)))
  refine NN (af.ret (ai.aG (ai.ar ?_)))
  exact RT (vI 172) [0,1,2,3,4,5,6] (⟨L,by rw [show ez S d name=(172,S) by unfold ez;rw [hlk];exact if_pos rfl]<;>exact⟨rfl,rfl⟩⟩)
 have hkt:(obj S.O tk).kind=3:=hI.kind hlv
 refine af.region (gK 1 [] [] ?_)
 refine NN (af.seq (SR (gK 5 [(10,.map (some (L.m d))),(11,.string name)] [(3,v_ 3 (bD L hkd))] ?_)))
 refine iA 5 hkd hlk ?_
 refine NN (af.block (SR ?_))
 refine gK 1 [(13,.bool false)] [] ?_
 refine NN (CF (SR (gK 3 [(15,.bool false)] [] ?_)))
 refine NN (CF (af.skip (ai.aJ (NX (SR ?_)))))
 refine gK 3 [(17,vP f),(18,vP (L.b d)),(19,.string name)] [] ?_
 refine gL [0,3,5,1] (oq S L f m t hI d hd name hsz ⟨tk,3⟩ hlk) ?_
 rintro _ _ ⟨rfl,rfl⟩
 refine NS (aj.dG [(5,.abs (ax (bN ((aK S d name ⟨tk,3⟩).O) L)))] (fun w hS=>by rw [show bN ((aK S d name ⟨tk,3⟩).O) L=bN S.O L from om];exact hS) ?_)
 refine gK 1 [(6,vI 0)] [] ?_
 refine NN (af.ret ?_)
 exact RT (vI 0) [0,3,4,1,5,2,6] (⟨L,by rw [show ez S d name=(0,aK S d name ⟨tk,3⟩) by unfold ez;rw [hlk];exact if_neg (by simp)]<;>exact⟨rfl,rfl⟩⟩)
theorem Ee {β:Bs} (S:aI) (L:HL) (f m t:Nat) (hI:Inv S) (d:Nat) (hd:Live S.idx ⟨d,2⟩) (name:ByteArray) (hsz:name.size<=1048576) :
    Spec Tryz.prog β 137 #[vP f,vP (L.b d),.string name] (pA f m t L S) (fun v l=>∃ L2,v=vI (eU S d name).1/\l=(pA f m t L2 ((eU S d name).2))):=by
 have hX:=hI.hX
 have hel:(obj S.O d).ah.length<=8192:=hI.gi hd
 have hkd:(obj S.O d).kind=2:=hI.kind hd
 refine Spec.enter Tryz.func137 rfl Tryz.ntmps137 (Nat.le_of_ble_eq_true rfl) (fun R=>?_)
 refine af.seq ?_
 rcases hI.mq hd name with hlk|⟨tk,hlk,hlv⟩|⟨tk,hlk,hlv⟩|⟨tk,hlk,hlv⟩
 ·refine af.region (gK 1 [] [] ?_)
  refine NS (gK 5 [(13,.map (some (L.m d))),(14,.string name)] [(3,v_ 3 (bD L hkd))] ?_)
  refine iA 5 hkd hlk ?_
  refine gK 1 [(7,.nilIface)] [] ?_
  refine NN (af.seq (SR (gK 2 [(17,.bool true)] [] ?_)))
  refine NN (CT (SR (gK 1 [(6,vI 170)] [] ?_)))
  refine NN (af.ret (ai.ar ?_))
  exact RT (vI 170) [0,1,2,3,4,5,6] (⟨L,by skip;rw [show eU S d name=(170,S) by unfold eU;rw [hlk]]<;>exact⟨rfl,rfl⟩⟩)
 ·have hkt:(obj S.O tk).kind=1:=hI.kind hlv
  refine af.region (gK 1 [] [] ?_)
  refine NS (gK 5 [(13,.map (some (L.m d))),(14,.string name)] [(3,v_ 3 (bD L hkd))] ?_)
  refine iA 5 hkd hlk ?_
  refine gK 1 [(7,.iface 129 (vP (L.b tk)))] [] ?_
  refine NN (af.seq (SR (gK 2 [(17,.bool false)] [] ?_)))
  refine NN (CF (af.skip (NX (SR (gK 7 [(8,.pointer none),(9,.bool false)] [] ?_)))))
  refine NN (af.seq (SR (gK 2 [(24,.bool true)] [] ?_)))
  refine NN (CT (SR (gK 1 [(6,vI 173)] [] ?_)))
  refine NN (af.ret (ai.ar ?_))
  exact RT (vI 173) [0,1,2,3,4,5,6] (⟨L,by skip;rw [show eU S d name=(173,S) by unfold eU;rw [hlk];exact if_neg (by simp)]<;>exact⟨rfl,rfl⟩⟩)
 ·have hkt:(obj S.O tk).kind=2:=hI.kind hlv
  have WM:(obj S.O tk).ah.length<=8192:=hI.gi hlv
  refine af.region (gK 1 [] [] ?_)
  refine NS (gK 5 [(13,.map (some (L.m d))),(14,.string name)] [(3,v_ 3 (bD L hkd))] ?_)
  refine iA 5 hkd hlk ?_
  refine gK 1 [(7,.iface 135 (vP (L.b tk)))] [] ?_
  refine NN (af.seq (SR (gK 2 [(17,.bool false)] [] ?_)))
  refine NN (CF (af.skip (NX (SR (gK 7 [(8,vP (L.b tk)),(9,.bool true)] [] ?_)))))
  refine NN (af.seq (SR (gK 2 [(24,.bool false)] [] ?_)))
  refine NN (CF (af.skip (NX (af.seq (SR (gK 4 [(28,.map (some (L.m tk)))] [(3,v_ 3 (bD L hkt))] ?_))))))
  refine VF 5 hkt ?_
  refine gK 1 [(30,.bool (decide (((((obj S.O tk).ah.length:Nat):Int):Int) > (0:Int))))] [] ?_
  refine NN (af.bg (p:=((((obj S.O tk).ah.length:Nat):Int):Int) > (0:Int)) (fun _=>by kernel_rfl) (fun mO=>?_) (fun mO=>?_))
  ·refine SR (gK 1 [(6,vI 178)] [] ?_)
   refine NN (af.ret (ai.ar ?_))
   exact RT (vI 178) [0,1,2,3,4,5,6] (⟨L,by skip;rw [show eU S d name=(178,S) by unfold eU;rw [hlk];exact (if_pos rfl).trans (if_neg (fun e=>by rw [show (obj S.O tk).ah=[] from e] at mO;simp at mO))]<;>exact⟨rfl,rfl⟩⟩)
  refine af.skip (NX (SR (gK 3 [(31,vP f),(32,vP (L.b d)),(33,.string name)] [] ?_)))
  refine gL [0,3,5,1] (oq S L f m t hI d hd name hsz ⟨tk,2⟩ hlk) ?_
  rintro _ _ ⟨rfl,rfl⟩
  refine NS (aj.dG [(5,.abs (ax (bN ((aK S d name ⟨tk,2⟩).O) L)))] (fun w hS=>by rw [show bN ((aK S d name ⟨tk,2⟩).O) L=bN S.O L from om];exact hS) ?_)
  have ye:(obj (aK S d name ⟨tk,2⟩).O d).kind=2:=(BQ).trans (hkd)
  have yg:(obj (aK S d name ⟨tk,2⟩).O tk).kind=2:=(BQ).trans (hkt)
  generalize ct:(aK S d name ⟨tk,2⟩).O=cK at ye yg ⊢
  refine gK 3 [(37,.pointer (some ⟨(L.b tk),10,none⟩))] [] ?_
  refine Tv 1 [(2,1),(5,2)] tk (none) yg (fun ef dx=>?_)
  have Nr:=ku dx ye
  have JG:=ku dx yg
  refine NS (gK 1 [(6,vI 0)] [] ?_)
  refine NN (af.ret ?_)
  exact RT (l:=[pF f m t ((aK S d name ⟨tk,2⟩).X),pI m L ((aK S d name ⟨tk,2⟩).idx),pT t S.X.cH S.aD L S.us,pO ef L,pD ef L,pE ef L]) (.int .i64 0) [0,3,4,1,5,2,6] (⟨L,by subst dx;subst ct;rw [show eU S d name=(0,{ aK S d name ⟨tk,2⟩ with O:=orphan (aK S d name ⟨tk,2⟩).O tk }) by unfold eU;rw [hlk];exact (if_pos rfl).trans (if_pos (List.eq_nil_of_length_eq_zero (by show (obj S.O tk).ah.length=0;omega)))]<;>exact⟨rfl,rfl⟩⟩)
 have hkt:(obj S.O tk).kind=3:=hI.kind hlv
 refine af.region (gK 1 [] [] ?_)
 refine NS (gK 5 [(13,.map (some (L.m d))),(14,.string name)] [(3,v_ 3 (bD L hkd))] ?_)
 refine iA 5 hkd hlk ?_
 refine gK 1 [(7,.iface 132 (vP (L.b tk)))] [] ?_
 refine NN (af.seq (SR (gK 2 [(17,.bool false)] [] ?_)))
 refine NN (CF (af.skip (NX (SR (gK 7 [(8,.pointer none),(9,.bool false)] [] ?_)))))
 refine NN (af.seq (SR (gK 2 [(24,.bool true)] [] ?_)))
 refine NN (CT (SR (gK 1 [(6,vI 173)] [] ?_)))
 refine NN (af.ret (ai.ar ?_))
 exact RT (vI 173) [0,1,2,3,4,5,6] (⟨L,by skip;rw [show eU S d name=(173,S) by unfold eU;rw [hlk];exact if_neg (by simp)]<;>exact⟨rfl,rfl⟩⟩)
end
section
open Go.RowKit Go.Maps bH aE
attribute [local irreducible] aj aS af ai
abbrev F9 (f:Nat) (L:HL) (d:Nat) (name):=([(61,vP f),(62,vP (L.b d)),(63,.string name)]:Fr)
abbrev Ga (f:Nat) (L:HL) (to:Nat) (toName):=([(65,vP f),(66,vP (L.b to)),(67,.string toName)]:Fr)
abbrev wU (L:HL) (to:Nat) (toName):=([(45,.map (some (L.m to))),(46,.string toName)]:Fr)
abbrev OU (f:Nat) (L:HL) (to:Nat) (toName):=([(57,vP f),(58,vP (L.b to)),(59,.string toName)]:Fr)
abbrev OV (L:HL) (to:Nat):=([(12,.pointer none),(13,.bool false),(14,vP (L.b to))]:Fr)
abbrev OW (L:HL) (to:Nat) (toName):=([(3,vP (L.b to)),(4,.string toName)]:Fr)
theorem Cr {β:Bs} (S:aI) (L:HL) (f m t:Nat) (hI:Inv S) (d:Nat) (hd:Live S.idx ⟨d,2⟩) (name:ByteArray) (hsz:name.size<=1048576) (to:Nat) (hto:Live S.idx ⟨to,2⟩) (toName:ByteArray) (o9:toName.size<=1048576) :
    Spec Tryz.prog β 138 #[vP f,vP (L.b d),.string name,vP (L.b to),.string toName] (pA f m t L S) (fun v l=>∃ L2,v=vI (bL S d name to toName).1/\l=(pA f m t L2 ((bL S d name to toName).2))):=by
 have hX:=hI.hX
 have hel:(obj S.O d).ah.length<=8192:=hI.gi hd
 have hkd:(obj S.O d).kind=2:=hI.kind hd
 have eH:(obj S.O to).kind=2:=hI.kind hto
 have Wz:(obj S.O to).ah.length<=8192:=hI.gi hto
 refine Spec.enter Tryz.func138 rfl Tryz.ntmps138 (Nat.le_of_ble_eq_true rfl) (fun R=>?_)
 refine af.seq ?_
 rcases hI.mq hd name with hlk|⟨tk,hlk,hlv⟩|⟨tk,hlk,hlv⟩|⟨tk,hlk,hlv⟩
 ·refine af.region (gK 1 [] [] ?_)
  refine NS (gK 5 [(19,.map (some (L.m d))),(20,.string name)] [(3,v_ 3 (bD L hkd))] ?_)
  refine iA 5 hkd hlk ?_
  refine gK 1 [(11,.nilIface)] [] ?_
  refine NN (af.seq (SR (gK 2 [(23,.bool true)] [] ?_)))
  refine NN (CT (SR (gK 1 [(10,vI 170)] [] ?_)))
  refine NN (af.ret (ai.ar ?_))
  exact RT (vI 170) [0,1,2,3,4,5,6] (⟨L,by rw [show bL S d name to toName=(170,S) by unfold bL;rw [hlk]]<;>exact⟨rfl,rfl⟩⟩)
 ·have hkt:(obj S.O tk).kind=1:=hI.kind hlv
  refine af.region (gK 1 [] [] ?_)
  refine NS (gK 5 [(19,.map (some (L.m d))),(20,.string name)] [(3,v_ 3 (bD L hkd))] ?_)
  refine iA 5 hkd hlk ?_
  refine gK 1 [(11,.iface 129 (vP (L.b tk)))] [] ?_
  refine NN (af.seq (SR (gK 2 [(23,.bool false)] [] ?_)))
  refine NN (CF (af.skip (NX (SR (gK 7 [(12,.pointer none),(13,.bool false)] [] ?_)))))
  refine NN (af.seq (SR (gK 2 [(14,vP (L.b to))] [] ?_)))
  refine NN (af.block ?_)
  refine af.loop (ι:=Unit) (fun (u:Unit)=>True) (fun (u:Unit)=>0) (fun (u:Unit)=>(F8 f L d name++OW L to toName++[(11,.iface 129 (vP (L.b tk)))]++OV L to)) (fun (u:Unit)=>((pA f m t L S)++[.abs R])) () (idx:=[0,1,2,3,4,11,12,13,14]) (pk:=[0,1,2,3,4,5,6]) (show True from trivial) (fun _=>by kernel_rfl) rfl (by kernel_rfl) ?_
  rintro u _
  show af _ _ _ _ (F8 f L d name++OW L to toName++[(11,.iface 129 (vP (L.b tk)))]++OV L to) ((pA f m t L S)++[.abs R]) _
  refine af.seq (SR (gK 5 [(34,.bool false)] [] ?_))
  refine NN (CF (af.exit (ai.aU (ai.aU (ai.cM (NX (af.seq ?_)))))))
  skip
  rcases hI.mq hto toName with bw|⟨ok,bw,eP⟩|⟨ok,bw,eP⟩|⟨ok,bw,eP⟩
  ·refine af.region (gK 5 (wU L to toName) [(3,v_ 3 (bD L eH))] ?_)
   refine iA 5 eH bw ?_
   refine gK 1 [(15,.nilIface)] [] ?_
   refine NN (af.seq (SR (gK 3 [(50,.bool false)] [] ?_)))
   refine NN (CF (af.skip (NX (af.seq (SR (gK 2 [(52,.bool false)] [] ?_))))))
   refine NN (CF (af.skip (NX (SR ?_))))
   have cq:Inv S:=hI
   have hd1:=hd
   have fe:=hlk
   have qo:=bw
   have jS:=hto
   have jU:(obj S.O d).kind=2:=cq.kind hd1
   have qp:(obj S.O to).kind=2:=cq.kind jS
   have kO:Live S.idx ⟨tk,1⟩:=(cq.ent hd1 fe).2
   have kP:(obj S.O tk).kind=1:=cq.kind kO
   have Dn:(obj S.O d).ah.length<=8192:=cq.gi hd1
   have Dp:(obj S.O to).ah.length<=8192:=cq.gi jS
   have qq:=cq.lb kO
   have kQ:tk≠d:=cq.ne hd1 fe
   refine gK 3 (F9 f L d name) [] ?_
   refine gL [0,3,5] (jC S.X f m t cq.hX S.O L d jU name hsz ⟨tk,1⟩ kP (by simp) fe (cq.twice hd1) (by omega) (by simp only at qq ⊢;omega)) ?_
   rintro _ _ ⟨rfl,rfl⟩
   refine NS (gK 4 (Ga f L to toName++[(68,.iface 129 (vP (L.b tk)))]) [] ?_)
   refine gL [0,1,2] (iE { S.X with ah:=S.X.ah - 1 } f m t (cq.zF hd1 fe) (aT S.X S.O d name ⟨tk,1⟩) L to (cU.trans qp) toName o9 (j5 kQ qo) (Nat.le_trans (mG kQ) (by omega)) ⟨tk,1⟩ (cU.trans kP) (by simp) (kr cq.toInv0 hd1 fe)) ?_
   rintro _ _ ⟨rfl,rfl⟩
   refine NS (aj.dG [(5,.abs (ax (bN (di S.X (aT S.X S.O d name ⟨tk,1⟩) to toName ⟨tk,1⟩) L)))] (fun w hS=>by rw [show bN (di S.X (aT S.X S.O d name ⟨tk,1⟩) to toName ⟨tk,1⟩) L=bN S.O L from gZ.trans j4];exact hS) ?_)
   refine gK 1 [(10,vI 0)] [] ?_
   refine NN (af.ret ?_)
   exact RT (vI 0) [0,3,4,1,5,2,6] (⟨L,by rw [show bL S d name to toName=(0,nX S d name to toName ⟨tk,1⟩) by unfold bL;rw [hlk];refine (if_neg (fun h=>absurd h.1 (by simp))).trans ?_;rw [bw]]<;>exact⟨rfl,rfl⟩⟩)
  ·have kR:(obj S.O ok).kind=1:=hI.kind eP
   refine af.region (gK 5 (wU L to toName) [(3,v_ 3 (bD L eH))] ?_)
   refine iA 5 eH bw ?_
   refine gK 1 [(15,.iface 129 (vP (L.b ok)))] [] ?_
   refine NN (af.seq (SR (gK 2 [(48,.iface 129 (vP (L.b ok))),(49,.iface 129 (vP (L.b tk)))] [] ?_)))
   refine aj.ja (d:=(some 50)) (op:=.binOp .eql 124 (.tmp 48) (.tmp 49) 124) (v:=.bool (decide (ok=tk))) (fun _=>by kernel_rfl) (fun o junk w ho hS=>by obtain⟨F,hF⟩:=hS.get (i:=3) rfl;exact⟨w,AF QL ho (by kernel_rfl) (by kernel_rfl) (by rw [kR];decide) (by rw [hkt];decide) hF,hS⟩) ?_
   refine NN (af.bg (p:=ok=tk) (fun _=>by kernel_rfl) (fun h50=>?_) (fun h50=>?_))
   ·refine SR (gK 1 [(10,vI 0)] [] ?_)
    refine NN (af.ret (ai.ar ?_))
    exact RT (vI 0) [0,1,2,3,4,5,6] (⟨L,by rw [show bL S d name to toName=(0,S) by unfold bL;rw [hlk];refine (if_neg (fun h=>absurd h.1 (by simp))).trans ?_;rw [bw];exact if_pos (by rw [h50])]<;>exact⟨rfl,rfl⟩⟩)
   refine af.skip (NX (af.seq (SR (gK 2 [(52,.bool true)] [] ?_))))
   refine NN (CT (af.seq (SR (gK 1 [(53,.iface 129 (vP (L.b ok)))] [] ?_))))
   refine gL [] (mJ (vP (L.b ok))) ?_
   rintro _ _ ⟨rfl,rfl⟩
   refine gK 1 [(55,.bool false)] [] ?_
   refine NN (CF (af.skip (NX (af.seq (SR (gK 1 [(56,.bool false)] [] ?_))))))
   refine NN (CF (af.skip (NX (af.region (gK 3 (OU f L to toName) [] ?_)))))
   refine gL [0,3,5,1] (oq S L f m t hI to hto toName o9 ⟨ok,1⟩ bw) ?_
   rintro _ _ ⟨rfl,rfl⟩
   refine NS ?_
   have cq:Inv (aK S to toName ⟨ok,1⟩):=hI.y7 hto bw (by simp)
   have hot:(⟨ok,1⟩:Th)≠⟨tk,1⟩:=fun e=>h50 (congrArg Th.k e)
   have hd1:Live (aK S to toName ⟨ok,1⟩).idx ⟨d,2⟩:=jB hI.toInv0 hto bw hd (fun e=>by have:=gF hd eP e;cases this)
   have jS:Live (aK S to toName ⟨ok,1⟩).idx ⟨to,2⟩:=jB hI.toInv0 hto bw hto (fun e=>by have:=gF hto eP e;cases this)
   have fe:aX name (obj (aK S to toName ⟨ok,1⟩).O d).ah=some ⟨tk,1⟩:=qM hI.toInv0 hto bw hlk hot
   have qo:aX toName (obj (aK S to toName ⟨ok,1⟩).O to).ah=none:=qN hI.toInv0 hto bw
   have jU:(obj (aK S to toName ⟨ok,1⟩).O d).kind=2:=cq.kind hd1
   have qp:(obj (aK S to toName ⟨ok,1⟩).O to).kind=2:=cq.kind jS
   have kO:Live (aK S to toName ⟨ok,1⟩).idx ⟨tk,1⟩:=(cq.ent hd1 fe).2
   have kP:(obj (aK S to toName ⟨ok,1⟩).O tk).kind=1:=cq.kind kO
   have Dn:(obj (aK S to toName ⟨ok,1⟩).O d).ah.length<=8192:=cq.gi hd1
   have Dp:(obj (aK S to toName ⟨ok,1⟩).O to).ah.length<=8192:=cq.gi jS
   have qq:=cq.lb kO
   have kQ:tk≠d:=cq.ne hd1 fe
   refine gK 3 (F9 f L d name) [] ?_
   refine gL [0,1,2] (jC (aK S to toName ⟨ok,1⟩).X f m t cq.hX (aK S to toName ⟨ok,1⟩).O L d jU name hsz ⟨tk,1⟩ kP (by simp) fe (cq.twice hd1) (by omega) (by simp only at qq ⊢;omega)) ?_
   rintro _ _ ⟨rfl,rfl⟩
   refine NS (gK 4 (Ga f L to toName++[(68,.iface 129 (vP (L.b tk)))]) [] ?_)
   refine gL [0,1,2] (iE { (aK S to toName ⟨ok,1⟩).X with ah:=(aK S to toName ⟨ok,1⟩).X.ah - 1 } f m t (cq.zF hd1 fe) (aT (aK S to toName ⟨ok,1⟩).X (aK S to toName ⟨ok,1⟩).O d name ⟨tk,1⟩) L to (cU.trans qp) toName o9 (j5 kQ qo) (Nat.le_trans (mG kQ) (by omega)) ⟨tk,1⟩ (cU.trans kP) (by simp) (kr cq.toInv0 hd1 fe)) ?_
   rintro _ _ ⟨rfl,rfl⟩
   refine NS (aj.dG [(5,.abs (ax (bN (di (aK S to toName ⟨ok,1⟩).X (aT (aK S to toName ⟨ok,1⟩).X (aK S to toName ⟨ok,1⟩).O d name ⟨tk,1⟩) to toName ⟨tk,1⟩) L)))] (fun w hS=>by rw [show bN (di (aK S to toName ⟨ok,1⟩).X (aT (aK S to toName ⟨ok,1⟩).X (aK S to toName ⟨ok,1⟩).O d name ⟨tk,1⟩) to toName ⟨tk,1⟩) L=bN S.O L from gZ.trans (j4.trans om)];exact hS) ?_)
   refine gK 1 [(10,vI 0)] [] ?_
   refine NN (af.ret ?_)
   exact RT (vI 0) [0,3,4,1,5,2,6] (⟨L,by rw [show bL S d name to toName=(0,nX (aK S to toName ⟨ok,1⟩) d name to toName ⟨tk,1⟩) by unfold bL;rw [hlk];refine (if_neg (fun h=>absurd h.1 (by simp))).trans ?_;rw [bw];exact (if_neg (fun e=>h50 (congrArg Th.k e))).trans ((if_neg (by simp)).trans (if_neg (by simp)))]<;>exact⟨rfl,rfl⟩⟩)
  ·have kR:(obj S.O ok).kind=2:=hI.kind eP
   refine af.region (gK 5 (wU L to toName) [(3,v_ 3 (bD L eH))] ?_)
   refine iA 5 eH bw ?_
   refine gK 1 [(15,.iface 135 (vP (L.b ok)))] [] ?_
   refine NN (af.seq (SR (gK 3 [(50,.bool false)] [] ?_)))
   refine NN (CF (af.skip (NX (af.seq (SR (gK 2 [(52,.bool true)] [] ?_))))))
   refine NN (CT (af.seq (SR (gK 1 [(53,.iface 135 (vP (L.b ok)))] [] ?_))))
   refine gL [] (mK (vP (L.b ok))) ?_
   rintro _ _ ⟨rfl,rfl⟩
   refine gK 1 [(55,.bool true)] [] ?_
   refine NN (CT (SR (gK 1 [(10,vI 172)] [] ?_)))
   refine NN (af.ret (ai.ar (ai.ar ?_)))
   exact RT (vI 172) [0,1,2,3,4,5,6] (⟨L,by rw [show bL S d name to toName=(172,S) by unfold bL;rw [hlk];refine (if_neg (fun h=>absurd h.1 (by simp))).trans ?_;rw [bw];exact (if_neg (fun e=>by cases e)).trans (if_pos rfl)]<;>exact⟨rfl,rfl⟩⟩)
  have kR:(obj S.O ok).kind=3:=hI.kind eP
  refine af.region (gK 5 (wU L to toName) [(3,v_ 3 (bD L eH))] ?_)
  refine iA 5 eH bw ?_
  refine gK 1 [(15,.iface 132 (vP (L.b ok)))] [] ?_
  refine NN (af.seq (SR (gK 3 [(50,.bool false)] [] ?_)))
  refine NN (CF (af.skip (NX (af.seq (SR (gK 2 [(52,.bool true)] [] ?_))))))
  refine NN (CT (af.seq (SR (gK 1 [(53,.iface 132 (vP (L.b ok)))] [] ?_))))
  refine gL [] (oo (vP (L.b ok))) ?_
  rintro _ _ ⟨rfl,rfl⟩
  refine gK 1 [(55,.bool false)] [] ?_
  refine NN (CF (af.skip (NX (af.seq (SR (gK 1 [(56,.bool false)] [] ?_))))))
  refine NN (CF (af.skip (NX (af.region (gK 3 (OU f L to toName) [] ?_)))))
  refine gL [0,3,5,1] (oq S L f m t hI to hto toName o9 ⟨ok,3⟩ bw) ?_
  rintro _ _ ⟨rfl,rfl⟩
  refine NS ?_
  have cq:Inv (aK S to toName ⟨ok,3⟩):=hI.y7 hto bw (by simp)
  have hot:(⟨ok,3⟩:Th)≠⟨tk,1⟩:=fun e=>by cases e
  have hd1:Live (aK S to toName ⟨ok,3⟩).idx ⟨d,2⟩:=jB hI.toInv0 hto bw hd (fun e=>by have:=gF hd eP e;cases this)
  have jS:Live (aK S to toName ⟨ok,3⟩).idx ⟨to,2⟩:=jB hI.toInv0 hto bw hto (fun e=>by have:=gF hto eP e;cases this)
  have fe:aX name (obj (aK S to toName ⟨ok,3⟩).O d).ah=some ⟨tk,1⟩:=qM hI.toInv0 hto bw hlk hot
  have qo:aX toName (obj (aK S to toName ⟨ok,3⟩).O to).ah=none:=qN hI.toInv0 hto bw
  have jU:(obj (aK S to toName ⟨ok,3⟩).O d).kind=2:=cq.kind hd1
  have qp:(obj (aK S to toName ⟨ok,3⟩).O to).kind=2:=cq.kind jS
  have kO:Live (aK S to toName ⟨ok,3⟩).idx ⟨tk,1⟩:=(cq.ent hd1 fe).2
  have kP:(obj (aK S to toName ⟨ok,3⟩).O tk).kind=1:=cq.kind kO
  have Dn:(obj (aK S to toName ⟨ok,3⟩).O d).ah.length<=8192:=cq.gi hd1
  have Dp:(obj (aK S to toName ⟨ok,3⟩).O to).ah.length<=8192:=cq.gi jS
  have qq:=cq.lb kO
  have kQ:tk≠d:=cq.ne hd1 fe
  refine gK 3 (F9 f L d name) [] ?_
  refine gL [0,1,2] (jC (aK S to toName ⟨ok,3⟩).X f m t cq.hX (aK S to toName ⟨ok,3⟩).O L d jU name hsz ⟨tk,1⟩ kP (by simp) fe (cq.twice hd1) (by omega) (by simp only at qq ⊢;omega)) ?_
  rintro _ _ ⟨rfl,rfl⟩
  refine NS (gK 4 (Ga f L to toName++[(68,.iface 129 (vP (L.b tk)))]) [] ?_)
  refine gL [0,1,2] (iE { (aK S to toName ⟨ok,3⟩).X with ah:=(aK S to toName ⟨ok,3⟩).X.ah - 1 } f m t (cq.zF hd1 fe) (aT (aK S to toName ⟨ok,3⟩).X (aK S to toName ⟨ok,3⟩).O d name ⟨tk,1⟩) L to (cU.trans qp) toName o9 (j5 kQ qo) (Nat.le_trans (mG kQ) (by omega)) ⟨tk,1⟩ (cU.trans kP) (by simp) (kr cq.toInv0 hd1 fe)) ?_
  rintro _ _ ⟨rfl,rfl⟩
  refine NS (aj.dG [(5,.abs (ax (bN (di (aK S to toName ⟨ok,3⟩).X (aT (aK S to toName ⟨ok,3⟩).X (aK S to toName ⟨ok,3⟩).O d name ⟨tk,1⟩) to toName ⟨tk,1⟩) L)))] (fun w hS=>by rw [show bN (di (aK S to toName ⟨ok,3⟩).X (aT (aK S to toName ⟨ok,3⟩).X (aK S to toName ⟨ok,3⟩).O d name ⟨tk,1⟩) to toName ⟨tk,1⟩) L=bN S.O L from gZ.trans (j4.trans om)];exact hS) ?_)
  refine gK 1 [(10,vI 0)] [] ?_
  refine NN (af.ret ?_)
  exact RT (vI 0) [0,3,4,1,5,2,6] (⟨L,by rw [show bL S d name to toName=(0,nX (aK S to toName ⟨ok,3⟩) d name to toName ⟨tk,1⟩) by unfold bL;rw [hlk];refine (if_neg (fun h=>absurd h.1 (by simp))).trans ?_;rw [bw];exact (if_neg (fun e=>by cases e)).trans ((if_neg (by simp)).trans (if_neg (by simp)))]<;>exact⟨rfl,rfl⟩⟩)
 ·have hkt:(obj S.O tk).kind=2:=hI.kind hlv
  refine af.region (gK 1 [] [] ?_)
  refine NS (gK 5 [(19,.map (some (L.m d))),(20,.string name)] [(3,v_ 3 (bD L hkd))] ?_)
  refine iA 5 hkd hlk ?_
  refine gK 1 [(11,.iface 135 (vP (L.b tk)))] [] ?_
  refine NN (af.seq (SR (gK 2 [(23,.bool false)] [] ?_)))
  refine NN (CF (af.skip (NX (SR (gK 7 [(12,vP (L.b tk)),(13,.bool true)] [] ?_)))))
  refine NN (af.seq (SR (gK 2 [(14,vP (L.b to))] [] ?_)))
  refine NN (af.block ?_)
  obtain⟨dp,hdp⟩:=hI.deep
  refine af.loop (ι:=(Option Nat)) (fun (x:Option Nat)=>(jP S.O tk to↔∃ z0,x=some z0/\jP S.O tk z0)/\(∀ z0,x=some z0->Live S.idx ⟨z0,2⟩)) (fun (x:Option Nat)=>xV dp x) (fun (x:Option Nat)=>[(0,vP f),(1,vP (L.b d)),(2,.string name),(3,vP (L.b to)),(4,.string toName),(11,.iface 135 (vP (L.b tk))),(12,vP (L.b tk)),(13,.bool true),(14,(uL L x))]) (fun (x:Option Nat)=>((pA f m t L S)++[.abs R])) ((some to)) (idx:=[0,1,2,3,4,11,12,13,14]) (pk:=[0,1,2,3,4,5,6]) (show (jP S.O tk to↔∃ z0,((some to))=some z0/\jP S.O tk z0)/\(∀ z0,((some to))=some z0->Live S.idx ⟨z0,2⟩) from ⟨⟨fun h=>⟨to,rfl,h⟩,fun ⟨y,e,h⟩=>by cases e;exact h⟩,fun y e=>by cases e;exact hto⟩) (fun _=>by kernel_rfl) rfl (by kernel_rfl) ?_
  rintro x ⟨Rv,hlx⟩
  show af _ _ _ _ [(0,vP f),(1,vP (L.b d)),(2,.string name),(3,vP (L.b to)),(4,.string toName),(11,.iface 135 (vP (L.b tk))),(12,vP (L.b tk)),(13,.bool true),(14,(uL L x))] ((pA f m t L S)++[.abs R]) _
  refine af.seq (af.seq ?_)
  rcases hx:x with _|y
  ·refine af.region (gK 5 [(34,.bool false)] [] ?_)
   refine NN (CF (af.exit (ai.aU (ai.aU (ai.cM (NX (af.seq ?_)))))))
   have hnb:¬ jP S.O tk to:=fun h=>by obtain⟨y,e,_⟩:=Rv.1 h;rw [hx] at e;cases e
   rcases hI.mq hto toName with bw|⟨ok,bw,eP⟩|⟨ok,bw,eP⟩|⟨ok,bw,eP⟩
   ·refine af.region (gK 5 (wU L to toName) [(3,v_ 3 (bD L eH))] ?_)
    refine iA 5 eH bw ?_
    refine gK 1 [(15,.nilIface)] [] ?_
    refine NN (af.seq (SR (gK 3 [(50,.bool false)] [] ?_)))
    refine NN (CF (af.skip (NX (af.seq (SR (gK 2 [(52,.bool false)] [] ?_))))))
    refine NN (CF (af.skip (NX (SR ?_))))
    have cq:Inv S:=hI
    have hd1:=hd
    have fe:=hlk
    have qo:=bw
    have jS:=hto
    have jU:(obj S.O d).kind=2:=cq.kind hd1
    have qp:(obj S.O to).kind=2:=cq.kind jS
    have kO:Live S.idx ⟨tk,2⟩:=(cq.ent hd1 fe).2
    have kP:(obj S.O tk).kind=2:=cq.kind kO
    have Dn:(obj S.O d).ah.length<=8192:=cq.gi hd1
    have Dp:(obj S.O to).ah.length<=8192:=cq.gi jS
    have qq:=cq.lb kO
    have kQ:tk≠d:=cq.ne hd1 fe
    refine gK 3 (F9 f L d name) [] ?_
    refine gL [0,3,5] (jC S.X f m t cq.hX S.O L d jU name hsz ⟨tk,2⟩ kP (by simp) fe (cq.twice hd1) (by omega) (by simp only at qq ⊢;omega)) ?_
    rintro _ _ ⟨rfl,rfl⟩
    refine NS (gK 4 (Ga f L to toName++[(68,.iface 135 (vP (L.b tk)))]) [] ?_)
    refine gL [0,1,2] (iE { S.X with ah:=S.X.ah - 1 } f m t (cq.zF hd1 fe) (aT S.X S.O d name ⟨tk,2⟩) L to (cU.trans qp) toName o9 (j5 kQ qo) (Nat.le_trans (mG kQ) (by omega)) ⟨tk,2⟩ (cU.trans kP) (by simp) (kr cq.toInv0 hd1 fe)) ?_
    rintro _ _ ⟨rfl,rfl⟩
    refine NS (aj.dG [(5,.abs (ax (bN (di S.X (aT S.X S.O d name ⟨tk,2⟩) to toName ⟨tk,2⟩) L)))] (fun w hS=>by rw [show bN (di S.X (aT S.X S.O d name ⟨tk,2⟩) to toName ⟨tk,2⟩) L=bN S.O L from gZ.trans j4];exact hS) ?_)
    refine gK 1 [(10,vI 0)] [] ?_
    refine NN (af.ret ?_)
    exact RT (vI 0) [0,3,4,1,5,2,6] (⟨L,by rw [show bL S d name to toName=(0,nX S d name to toName ⟨tk,2⟩) by unfold bL;rw [hlk];refine (if_neg (fun h=>hnb h.2)).trans ?_;rw [bw]]<;>exact⟨rfl,rfl⟩⟩)
   ·have kR:(obj S.O ok).kind=1:=hI.kind eP
    refine af.region (gK 5 (wU L to toName) [(3,v_ 3 (bD L eH))] ?_)
    refine iA 5 eH bw ?_
    refine gK 1 [(15,.iface 129 (vP (L.b ok)))] [] ?_
    refine NN (af.seq (SR (gK 3 [(50,.bool false)] [] ?_)))
    refine NN (CF (af.skip (NX (af.seq (SR (gK 2 [(52,.bool true)] [] ?_))))))
    refine NN (CT (af.seq (SR (gK 1 [(53,.iface 129 (vP (L.b ok)))] [] ?_))))
    refine gL [] (mJ (vP (L.b ok))) ?_
    rintro _ _ ⟨rfl,rfl⟩
    refine gK 1 [(55,.bool false)] [] ?_
    refine NN (CF (af.skip (NX (af.seq (SR (gK 1 [(56,.bool true)] [] ?_))))))
    refine NN (CT (SR (gK 1 [(10,vI 173)] [] ?_)))
    refine NN (af.ret (ai.ar (ai.ar ?_)))
    exact RT (vI 173) [0,1,2,3,4,5,6] (⟨L,by rw [show bL S d name to toName=(173,S) by unfold bL;rw [hlk];refine (if_neg (fun h=>hnb h.2)).trans ?_;rw [bw];exact (if_neg (fun e=>by cases e)).trans ((if_neg (by simp)).trans (if_pos rfl))]<;>exact⟨rfl,rfl⟩⟩)
   ·have kR:(obj S.O ok).kind=2:=hI.kind eP
    refine af.region (gK 5 (wU L to toName) [(3,v_ 3 (bD L eH))] ?_)
    refine iA 5 eH bw ?_
    refine gK 1 [(15,.iface 135 (vP (L.b ok)))] [] ?_
    refine NN (af.seq (SR (gK 2 [(48,.iface 135 (vP (L.b ok))),(49,.iface 135 (vP (L.b tk)))] [] ?_)))
    refine aj.ja (d:=(some 50)) (op:=.binOp .eql 124 (.tmp 48) (.tmp 49) 124) (v:=.bool (decide (ok=tk))) (fun _=>by kernel_rfl) (fun o junk w ho hS=>by obtain⟨F,hF⟩:=hS.get (i:=3) rfl;exact⟨w,AF SI ho (by kernel_rfl) (by kernel_rfl) (by rw [kR];decide) (by rw [hkt];decide) hF,hS⟩) ?_
    refine NN (af.bg (p:=ok=tk) (fun _=>by kernel_rfl) (fun h50=>?_) (fun h50=>?_))
    ·refine SR (gK 1 [(10,vI 0)] [] ?_)
     refine NN (af.ret (ai.ar ?_))
     exact RT (vI 0) [0,1,2,3,4,5,6] (⟨L,by rw [show bL S d name to toName=(0,S) by unfold bL;rw [hlk];refine (if_neg (fun h=>hnb h.2)).trans ?_;rw [bw];exact if_pos (by rw [h50])]<;>exact⟨rfl,rfl⟩⟩)
    refine af.skip (NX (af.seq (SR (gK 2 [(52,.bool true)] [] ?_))))
    refine NN (CT (af.seq (SR (gK 1 [(53,.iface 135 (vP (L.b ok)))] [] ?_))))
    refine gL [] (mK (vP (L.b ok))) ?_
    rintro _ _ ⟨rfl,rfl⟩
    refine gK 1 [(55,.bool true)] [] ?_
    refine NN (CT (SR (gK 1 [(10,vI 172)] [] ?_)))
    refine NN (af.ret (ai.ar (ai.ar ?_)))
    exact RT (vI 172) [0,1,2,3,4,5,6] (⟨L,by rw [show bL S d name to toName=(172,S) by unfold bL;rw [hlk];refine (if_neg (fun h=>hnb h.2)).trans ?_;rw [bw];exact (if_neg (fun e=>h50 (congrArg Th.k e))).trans (if_pos rfl)]<;>exact⟨rfl,rfl⟩⟩)
   have kR:(obj S.O ok).kind=3:=hI.kind eP
   refine af.region (gK 5 (wU L to toName) [(3,v_ 3 (bD L eH))] ?_)
   refine iA 5 eH bw ?_
   refine gK 1 [(15,.iface 132 (vP (L.b ok)))] [] ?_
   refine NN (af.seq (SR (gK 3 [(50,.bool false)] [] ?_)))
   refine NN (CF (af.skip (NX (af.seq (SR (gK 2 [(52,.bool true)] [] ?_))))))
   refine NN (CT (af.seq (SR (gK 1 [(53,.iface 132 (vP (L.b ok)))] [] ?_))))
   refine gL [] (oo (vP (L.b ok))) ?_
   rintro _ _ ⟨rfl,rfl⟩
   refine gK 1 [(55,.bool false)] [] ?_
   refine NN (CF (af.skip (NX (af.seq (SR (gK 1 [(56,.bool true)] [] ?_))))))
   refine NN (CT (SR (gK 1 [(10,vI 173)] [] ?_)))
   refine NN (af.ret (ai.ar (ai.ar ?_)))
   exact RT (vI 173) [0,1,2,3,4,5,6] (⟨L,by rw [show bL S d name to toName=(173,S) by unfold bL;rw [hlk];refine (if_neg (fun h=>hnb h.2)).trans ?_;rw [bw];exact (if_neg (fun e=>by cases e)).trans ((if_neg (by simp)).trans (if_pos rfl))]<;>exact⟨rfl,rfl⟩⟩)
  have hky:(obj S.O y).kind=2:=hI.kind (hlx y hx)
  refine af.region (gK 5 [(34,.bool true)] [] ?_)
  refine NN (CT (af.skip (NX (af.seq (af.block (SR ?_))))))
  refine gK 2 [(39,vP (L.b y)),(40,vP (L.b tk))] [] ?_
  refine aj.ja (d:=(some 41)) (op:=.binOp .eql 135 (.tmp 39) (.tmp 40) 135) (v:=.bool (decide (y=tk))) (fun _=>by kernel_rfl) (fun o junk w ho hS=>by obtain⟨F,hF⟩:=hS.get (i:=3) rfl;exact⟨w,KQ ho (by kernel_rfl) (by kernel_rfl) (by rw [hky];decide) (by rw [hkt];decide) hF,hS⟩) ?_
  refine NN (af.bg (p:=y=tk) (fun _=>by kernel_rfl) (fun Cs=>?_) (fun Cs=>?_))
  ·refine SR (gK 1 [(10,vI 174)] [] ?_)
   refine NN (af.ret (ai.aG (ai.ar (ai.ar (ai.aG (ai.ar ?_))))))
   exact RT (vI 174) [0,1,2,3,4,5,6] (⟨L,by rw [show bL S d name to toName=(174,S) by unfold bL;rw [hlk];exact if_pos ⟨rfl,Rv.2 ⟨y,hx,by rw [Cs];exact .here⟩⟩]<;>exact⟨rfl,rfl⟩⟩)
  refine af.skip (ai.aJ (NX (af.region ?_)))
  refine gK 5 [(14,(uL L (obj S.O y).up))] [(3,v_ 3 (UJ L hky))] ?_
  refine NL ?_
  exact ai.turn (((obj S.O y).up)) (idx:=[0,1,2,3,4,11,12,13,14]) (pk:=[0,1,2,3,4,5,6]) (show (jP S.O tk to↔∃ z0,(((obj S.O y).up))=some z0/\jP S.O tk z0)/\(∀ z0,(((obj S.O y).up))=some z0->Live S.idx ⟨z0,2⟩) from ⟨Rv.trans ⟨fun ⟨y2,e,h⟩=>by rw [hx] at e;cases e;exact (BU Cs).1 h,fun h=>⟨y,hx,(BU Cs).2 h⟩⟩,fun z e=>((hI.up ⟨y,2⟩ (hlx y hx) z).1 e).2.1⟩) (by show xV dp (((obj S.O y).up)) < xV dp (some y);exact KT hdp) (fun _=>by kernel_rfl) rfl (by kernel_rfl)
 have hkt:(obj S.O tk).kind=3:=hI.kind hlv
 refine af.region (gK 1 [] [] ?_)
 refine NS (gK 5 [(19,.map (some (L.m d))),(20,.string name)] [(3,v_ 3 (bD L hkd))] ?_)
 refine iA 5 hkd hlk ?_
 refine gK 1 [(11,.iface 132 (vP (L.b tk)))] [] ?_
 refine NN (af.seq (SR (gK 2 [(23,.bool false)] [] ?_)))
 refine NN (CF (af.skip (NX (SR (gK 7 [(12,.pointer none),(13,.bool false)] [] ?_)))))
 refine NN (af.seq (SR (gK 2 [(14,vP (L.b to))] [] ?_)))
 refine NN (af.block ?_)
 refine af.loop (ι:=Unit) (fun (u:Unit)=>True) (fun (u:Unit)=>0) (fun (u:Unit)=>(F8 f L d name++OW L to toName++[(11,.iface 132 (vP (L.b tk)))]++OV L to)) (fun (u:Unit)=>((pA f m t L S)++[.abs R])) () (idx:=[0,1,2,3,4,11,12,13,14]) (pk:=[0,1,2,3,4,5,6]) (show True from trivial) (fun _=>by kernel_rfl) rfl (by kernel_rfl) ?_
 rintro u _
 show af _ _ _ _ (F8 f L d name++OW L to toName++[(11,.iface 132 (vP (L.b tk)))]++OV L to) ((pA f m t L S)++[.abs R]) _
 refine af.seq (SR (gK 5 [(34,.bool false)] [] ?_))
 refine NN (CF (af.exit (ai.aU (ai.aU (ai.cM (NX (af.seq ?_)))))))
 skip
 rcases hI.mq hto toName with bw|⟨ok,bw,eP⟩|⟨ok,bw,eP⟩|⟨ok,bw,eP⟩
 ·refine af.region (gK 5 (wU L to toName) [(3,v_ 3 (bD L eH))] ?_)
  refine iA 5 eH bw ?_
  refine gK 1 [(15,.nilIface)] [] ?_
  refine NN (af.seq (SR (gK 3 [(50,.bool false)] [] ?_)))
  refine NN (CF (af.skip (NX (af.seq (SR (gK 2 [(52,.bool false)] [] ?_))))))
  refine NN (CF (af.skip (NX (SR ?_))))
  have cq:Inv S:=hI
  have hd1:=hd
  have fe:=hlk
  have qo:=bw
  have jS:=hto
  have jU:(obj S.O d).kind=2:=cq.kind hd1
  have qp:(obj S.O to).kind=2:=cq.kind jS
  have kO:Live S.idx ⟨tk,3⟩:=(cq.ent hd1 fe).2
  have kP:(obj S.O tk).kind=3:=cq.kind kO
  have Dn:(obj S.O d).ah.length<=8192:=cq.gi hd1
  have Dp:(obj S.O to).ah.length<=8192:=cq.gi jS
  have qq:=cq.lb kO
  have kQ:tk≠d:=cq.ne hd1 fe
  refine gK 3 (F9 f L d name) [] ?_
  refine gL [0,3,5] (jC S.X f m t cq.hX S.O L d jU name hsz ⟨tk,3⟩ kP (by simp) fe (cq.twice hd1) (by omega) (by simp only at qq ⊢;omega)) ?_
  rintro _ _ ⟨rfl,rfl⟩
  refine NS (gK 4 (Ga f L to toName++[(68,.iface 132 (vP (L.b tk)))]) [] ?_)
  refine gL [0,1,2] (iE { S.X with ah:=S.X.ah - 1 } f m t (cq.zF hd1 fe) (aT S.X S.O d name ⟨tk,3⟩) L to (cU.trans qp) toName o9 (j5 kQ qo) (Nat.le_trans (mG kQ) (by omega)) ⟨tk,3⟩ (cU.trans kP) (by simp) (kr cq.toInv0 hd1 fe)) ?_
  rintro _ _ ⟨rfl,rfl⟩
  refine NS (aj.dG [(5,.abs (ax (bN (di S.X (aT S.X S.O d name ⟨tk,3⟩) to toName ⟨tk,3⟩) L)))] (fun w hS=>by rw [show bN (di S.X (aT S.X S.O d name ⟨tk,3⟩) to toName ⟨tk,3⟩) L=bN S.O L from gZ.trans j4];exact hS) ?_)
  refine gK 1 [(10,vI 0)] [] ?_
  refine NN (af.ret ?_)
  exact RT (vI 0) [0,3,4,1,5,2,6] (⟨L,by rw [show bL S d name to toName=(0,nX S d name to toName ⟨tk,3⟩) by unfold bL;rw [hlk];refine (if_neg (fun h=>absurd h.1 (by simp))).trans ?_;rw [bw]]<;>exact⟨rfl,rfl⟩⟩)
 ·have kR:(obj S.O ok).kind=1:=hI.kind eP
  refine af.region (gK 5 (wU L to toName) [(3,v_ 3 (bD L eH))] ?_)
  refine iA 5 eH bw ?_
  refine gK 1 [(15,.iface 129 (vP (L.b ok)))] [] ?_
  refine NN (af.seq (SR (gK 3 [(50,.bool false)] [] ?_)))
  refine NN (CF (af.skip (NX (af.seq (SR (gK 2 [(52,.bool true)] [] ?_))))))
  refine NN (CT (af.seq (SR (gK 1 [(53,.iface 129 (vP (L.b ok)))] [] ?_))))
  refine gL [] (mJ (vP (L.b ok))) ?_
  rintro _ _ ⟨rfl,rfl⟩
  refine gK 1 [(55,.bool false)] [] ?_
  refine NN (CF (af.skip (NX (af.seq (SR (gK 1 [(56,.bool false)] [] ?_))))))
  refine NN (CF (af.skip (NX (af.region (gK 3 (OU f L to toName) [] ?_)))))
  refine gL [0,3,5,1] (oq S L f m t hI to hto toName o9 ⟨ok,1⟩ bw) ?_
  rintro _ _ ⟨rfl,rfl⟩
  refine NS ?_
  have cq:Inv (aK S to toName ⟨ok,1⟩):=hI.y7 hto bw (by simp)
  have hot:(⟨ok,1⟩:Th)≠⟨tk,3⟩:=fun e=>by cases e
  have hd1:Live (aK S to toName ⟨ok,1⟩).idx ⟨d,2⟩:=jB hI.toInv0 hto bw hd (fun e=>by have:=gF hd eP e;cases this)
  have jS:Live (aK S to toName ⟨ok,1⟩).idx ⟨to,2⟩:=jB hI.toInv0 hto bw hto (fun e=>by have:=gF hto eP e;cases this)
  have fe:aX name (obj (aK S to toName ⟨ok,1⟩).O d).ah=some ⟨tk,3⟩:=qM hI.toInv0 hto bw hlk hot
  have qo:aX toName (obj (aK S to toName ⟨ok,1⟩).O to).ah=none:=qN hI.toInv0 hto bw
  have jU:(obj (aK S to toName ⟨ok,1⟩).O d).kind=2:=cq.kind hd1
  have qp:(obj (aK S to toName ⟨ok,1⟩).O to).kind=2:=cq.kind jS
  have kO:Live (aK S to toName ⟨ok,1⟩).idx ⟨tk,3⟩:=(cq.ent hd1 fe).2
  have kP:(obj (aK S to toName ⟨ok,1⟩).O tk).kind=3:=cq.kind kO
  have Dn:(obj (aK S to toName ⟨ok,1⟩).O d).ah.length<=8192:=cq.gi hd1
  have Dp:(obj (aK S to toName ⟨ok,1⟩).O to).ah.length<=8192:=cq.gi jS
  have qq:=cq.lb kO
  have kQ:tk≠d:=cq.ne hd1 fe
  refine gK 3 (F9 f L d name) [] ?_
  refine gL [0,1,2] (jC (aK S to toName ⟨ok,1⟩).X f m t cq.hX (aK S to toName ⟨ok,1⟩).O L d jU name hsz ⟨tk,3⟩ kP (by simp) fe (cq.twice hd1) (by omega) (by simp only at qq ⊢;omega)) ?_
  rintro _ _ ⟨rfl,rfl⟩
  refine NS (gK 4 (Ga f L to toName++[(68,.iface 132 (vP (L.b tk)))]) [] ?_)
  refine gL [0,1,2] (iE { (aK S to toName ⟨ok,1⟩).X with ah:=(aK S to toName ⟨ok,1⟩).X.ah - 1 } f m t (cq.zF hd1 fe) (aT (aK S to toName ⟨ok,1⟩).X (aK S to toName ⟨ok,1⟩).O d name ⟨tk,3⟩) L to (cU.trans qp) toName o9 (j5 kQ qo) (Nat.le_trans (mG kQ) (by omega)) ⟨tk,3⟩ (cU.trans kP) (by simp) (kr cq.toInv0 hd1 fe)) ?_
  rintro _ _ ⟨rfl,rfl⟩
  refine NS (aj.dG [(5,.abs (ax (bN (di (aK S to toName ⟨ok,1⟩).X (aT (aK S to toName ⟨ok,1⟩).X (aK S to toName ⟨ok,1⟩).O d name ⟨tk,3⟩) to toName ⟨tk,3⟩) L)))] (fun w hS=>by rw [show bN (di (aK S to toName ⟨ok,1⟩).X (aT (aK S to toName ⟨ok,1⟩).X (aK S to toName ⟨ok,1⟩).O d name ⟨tk,3⟩) to toName ⟨tk,3⟩) L=bN S.O L from gZ.trans (j4.trans om)];exact hS) ?_)
  refine gK 1 [(10,vI 0)] [] ?_
  refine NN (af.ret ?_)
  exact RT (vI 0) [0,3,4,1,5,2,6] (⟨L,by rw [show bL S d name to toName=(0,nX (aK S to toName ⟨ok,1⟩) d name to toName ⟨tk,3⟩) by unfold bL;rw [hlk];refine (if_neg (fun h=>absurd h.1 (by simp))).trans ?_;rw [bw];exact (if_neg (fun e=>by cases e)).trans ((if_neg (by simp)).trans (if_neg (by simp)))]<;>exact⟨rfl,rfl⟩⟩)
 ·have kR:(obj S.O ok).kind=2:=hI.kind eP
  refine af.region (gK 5 (wU L to toName) [(3,v_ 3 (bD L eH))] ?_)
  refine iA 5 eH bw ?_
  refine gK 1 [(15,.iface 135 (vP (L.b ok)))] [] ?_
  refine NN (af.seq (SR (gK 3 [(50,.bool false)] [] ?_)))
  refine NN (CF (af.skip (NX (af.seq (SR (gK 2 [(52,.bool true)] [] ?_))))))
  refine NN (CT (af.seq (SR (gK 1 [(53,.iface 135 (vP (L.b ok)))] [] ?_))))
  refine gL [] (mK (vP (L.b ok))) ?_
  rintro _ _ ⟨rfl,rfl⟩
  refine gK 1 [(55,.bool true)] [] ?_
  refine NN (CT (SR (gK 1 [(10,vI 172)] [] ?_)))
  refine NN (af.ret (ai.ar (ai.ar ?_)))
  exact RT (vI 172) [0,1,2,3,4,5,6] (⟨L,by rw [show bL S d name to toName=(172,S) by unfold bL;rw [hlk];refine (if_neg (fun h=>absurd h.1 (by simp))).trans ?_;rw [bw];exact (if_neg (fun e=>by cases e)).trans (if_pos rfl)]<;>exact⟨rfl,rfl⟩⟩)
 have kR:(obj S.O ok).kind=3:=hI.kind eP
 refine af.region (gK 5 (wU L to toName) [(3,v_ 3 (bD L eH))] ?_)
 refine iA 5 eH bw ?_
 refine gK 1 [(15,.iface 132 (vP (L.b ok)))] [] ?_
 refine NN (af.seq (SR (gK 2 [(48,.iface 132 (vP (L.b ok))),(49,.iface 132 (vP (L.b tk)))] [] ?_)))
 refine aj.ja (d:=(some 50)) (op:=.binOp .eql 124 (.tmp 48) (.tmp 49) 124) (v:=.bool (decide (ok=tk))) (fun _=>by kernel_rfl) (fun o junk w ho hS=>by obtain⟨F,hF⟩:=hS.get (i:=3) rfl;exact⟨w,AF QM ho (by kernel_rfl) (by kernel_rfl) (by rw [kR];decide) (by rw [hkt];decide) hF,hS⟩) ?_
 refine NN (af.bg (p:=ok=tk) (fun _=>by kernel_rfl) (fun h50=>?_) (fun h50=>?_))
 ·refine SR (gK 1 [(10,vI 0)] [] ?_)
  refine NN (af.ret (ai.ar ?_))
  exact RT (vI 0) [0,1,2,3,4,5,6] (⟨L,by rw [show bL S d name to toName=(0,S) by unfold bL;rw [hlk];refine (if_neg (fun h=>absurd h.1 (by simp))).trans ?_;rw [bw];exact if_pos (by rw [h50])]<;>exact⟨rfl,rfl⟩⟩)
 refine af.skip (NX (af.seq (SR (gK 2 [(52,.bool true)] [] ?_))))
 refine NN (CT (af.seq (SR (gK 1 [(53,.iface 132 (vP (L.b ok)))] [] ?_))))
 refine gL [] (oo (vP (L.b ok))) ?_
 rintro _ _ ⟨rfl,rfl⟩
 refine gK 1 [(55,.bool false)] [] ?_
 refine NN (CF (af.skip (NX (af.seq (SR (gK 1 [(56,.bool false)] [] ?_))))))
 refine NN (CF (af.skip (NX (af.region (gK 3 (OU f L to toName) [] ?_)))))
 refine gL [0,3,5,1] (oq S L f m t hI to hto toName o9 ⟨ok,3⟩ bw) ?_
 rintro _ _ ⟨rfl,rfl⟩
 refine NS ?_
 have cq:Inv (aK S to toName ⟨ok,3⟩):=hI.y7 hto bw (by simp)
 have hot:(⟨ok,3⟩:Th)≠⟨tk,3⟩:=fun e=>h50 (congrArg Th.k e)
 have hd1:Live (aK S to toName ⟨ok,3⟩).idx ⟨d,2⟩:=jB hI.toInv0 hto bw hd (fun e=>by have:=gF hd eP e;cases this)
 have jS:Live (aK S to toName ⟨ok,3⟩).idx ⟨to,2⟩:=jB hI.toInv0 hto bw hto (fun e=>by have:=gF hto eP e;cases this)
 have fe:aX name (obj (aK S to toName ⟨ok,3⟩).O d).ah=some ⟨tk,3⟩:=qM hI.toInv0 hto bw hlk hot
 have qo:aX toName (obj (aK S to toName ⟨ok,3⟩).O to).ah=none:=qN hI.toInv0 hto bw
 have jU:(obj (aK S to toName ⟨ok,3⟩).O d).kind=2:=cq.kind hd1
 have qp:(obj (aK S to toName ⟨ok,3⟩).O to).kind=2:=cq.kind jS
 have kO:Live (aK S to toName ⟨ok,3⟩).idx ⟨tk,3⟩:=(cq.ent hd1 fe).2
 have kP:(obj (aK S to toName ⟨ok,3⟩).O tk).kind=3:=cq.kind kO
 have Dn:(obj (aK S to toName ⟨ok,3⟩).O d).ah.length<=8192:=cq.gi hd1
 have Dp:(obj (aK S to toName ⟨ok,3⟩).O to).ah.length<=8192:=cq.gi jS
 have qq:=cq.lb kO
 have kQ:tk≠d:=cq.ne hd1 fe
 refine gK 3 (F9 f L d name) [] ?_
 refine gL [0,1,2] (jC (aK S to toName ⟨ok,3⟩).X f m t cq.hX (aK S to toName ⟨ok,3⟩).O L d jU name hsz ⟨tk,3⟩ kP (by simp) fe (cq.twice hd1) (by omega) (by simp only at qq ⊢;omega)) ?_
 rintro _ _ ⟨rfl,rfl⟩
 refine NS (gK 4 (Ga f L to toName++[(68,.iface 132 (vP (L.b tk)))]) [] ?_)
 refine gL [0,1,2] (iE { (aK S to toName ⟨ok,3⟩).X with ah:=(aK S to toName ⟨ok,3⟩).X.ah - 1 } f m t (cq.zF hd1 fe) (aT (aK S to toName ⟨ok,3⟩).X (aK S to toName ⟨ok,3⟩).O d name ⟨tk,3⟩) L to (cU.trans qp) toName o9 (j5 kQ qo) (Nat.le_trans (mG kQ) (by omega)) ⟨tk,3⟩ (cU.trans kP) (by simp) (kr cq.toInv0 hd1 fe)) ?_
 rintro _ _ ⟨rfl,rfl⟩
 refine NS (aj.dG [(5,.abs (ax (bN (di (aK S to toName ⟨ok,3⟩).X (aT (aK S to toName ⟨ok,3⟩).X (aK S to toName ⟨ok,3⟩).O d name ⟨tk,3⟩) to toName ⟨tk,3⟩) L)))] (fun w hS=>by rw [show bN (di (aK S to toName ⟨ok,3⟩).X (aT (aK S to toName ⟨ok,3⟩).X (aK S to toName ⟨ok,3⟩).O d name ⟨tk,3⟩) to toName ⟨tk,3⟩) L=bN S.O L from gZ.trans (j4.trans om)];exact hS) ?_)
 refine gK 1 [(10,vI 0)] [] ?_
 refine NN (af.ret ?_)
 exact RT (vI 0) [0,3,4,1,5,2,6] (⟨L,by rw [show bL S d name to toName=(0,nX (aK S to toName ⟨ok,3⟩) d name to toName ⟨tk,3⟩) by unfold bL;rw [hlk];refine (if_neg (fun h=>absurd h.1 (by simp))).trans ?_;rw [bw];exact (if_neg (fun e=>h50 (congrArg Th.k e))).trans ((if_neg (by simp)).trans (if_neg (by simp)))]<;>exact⟨rfl,rfl⟩⟩)
end
section
open Go.RowKit Go.Maps bH aE
attribute [local irreducible] aj aS af ai
abbrev Tw (S:aI) (L:HL) (k:Nat):=(.abs (ax (kg (bN S.O L) k cE.none)):HP)
abbrev Rw (A1:Option Addr) (S:aI) (k:Nat) (bs:List UInt8) (c2:Nat):=(.abs (av 5 1 A1 (((obj S.O k).data++bs.take (br S.X bs.length)).length) c2 (bZ ((obj S.O k).data++bs.take (br S.X bs.length)))):HP)
abbrev Lu (f:Nat) (m:Nat) (t) (S:aI) (L:HL) (k:Nat) (R:cE):=([pF f m t S.X,pI m L S.idx,pT t S.X.cH S.aD L S.us,pO S.O L,Tw S L k,pE S.O L,.abs R]:List HP)
theorem Ef {β:Bs} (S:aI) (L:HL) (f m t:Nat) (hI:Inv S) (k:Nat) (hk:Live S.idx ⟨k,1⟩) (A:Option Addr) (c:Nat) (bs:List UInt8) (hA:bh β A bs) (hbl:bs.length<=1099511627776) (hbc:bs.length<=c) :
    Spec Tryz.prog β 133 #[vP f,vP (L.b k),.slice A (bs.length) (c)] (pA f m t L S) (fun v l=>∃ L2,v=.tuple #[vI (dS S k bs).1,vI (dS S k bs).2.1]/\l=(pA f m t L2 ((dS S k bs).2.2))):=by
 have hX:=hI.hX
 have hkk:(obj S.O k).kind=1:=hI.kind hk
 have Xf:((obj S.O k).data.length:Int)<=S.X.used:=hI.SL hk
 have hcB:=hI.cB
 refine Spec.enter Tryz.func133 rfl Tryz.ntmps133 (Nat.le_of_ble_eq_true rfl) (fun R=>?_)
 refine SR (gK 2 [] [] ?_)
 refine NN (af.seq (SR (gK 3 [(12,.bool (decide ((((bs.length:Nat):Int):Int)=(0:Int))))] [] ?_)))
 refine NN (af.bg (p:=(((bs.length:Nat):Int):Int)=(0:Int)) (fun _=>by kernel_rfl) (fun h12=>?_) (fun h12=>?_))
 ·have he:bs=[]:=List.eq_nil_of_length_eq_zero (by omega)
  refine SR (gK 2 [(6,vI 0),(7,vI 0)] [] ?_)
  refine NN (af.ret (ai.ar ?_))
  exact RT (.tuple #[vI 0,vI 0]) [0,1,2,3,4,5,6] (⟨L,by rw [show dS S k bs=(0,0,S) from if_pos he]<;>exact⟨rfl,rfl⟩⟩)
 have hlen:0 < bs.length:=by omega
 refine af.skip (NX (af.seq (af.bK (by kernel_rfl) (by kernel_rfl) ?_)))
 refine gQ 11 [(8,vI (S.X.cB - S.X.used))] [(4,a_ 0 f),(8,a_ 0 f),(9,p_ ⟨[],none,none,none,some (vI (S.X.cB - S.X.used))⟩ [(Value.int .i64 (IntKind.wrap .i64 (S.X.cB - S.X.used)))=(.int .i64 (S.X.cB - S.X.used))] ⟨bA (by omega) (by omega) (by omega),trivial⟩)] ?_
 refine NQ (NX (af.seq (SR ?_)))
 refine gK 2 [(24,.bool (decide ((S.X.cB - S.X.used:Int)<=(0:Int))))] [] ?_
 refine NN (af.bg (p:=(S.X.cB - S.X.used:Int)<=(0:Int)) (fun _=>by kernel_rfl) (fun Ct=>?_) (fun Ct=>?_))
 ·refine SR (gK 2 [(6,vI 0),(7,vI 176)] [] ?_)
  refine NN (af.ret (ai.ar ?_))
  exact RT (.tuple #[vI 0,vI 176]) [0,1,2,3,4,5,6] (⟨L,by rw [show dS S k bs=(0,176,S) from (if_neg (fun e=>by rw [e] at hlen;exact absurd hlen (by simp))).trans (if_pos Ct)]<;>exact⟨rfl,rfl⟩⟩)
 refine af.skip (NX (SR (gK 4 [(28,vI (min ((bs.length:Nat):Int) (S.X.cB - S.X.used)))] [(3,p_ ⟨[],none,none,none,some (vI (min ((bs.length:Nat):Int) (S.X.cB - S.X.used)))⟩ [(Value.int .i64 (if S.X.cB - S.X.used < ((bs.length:Nat):Int) then S.X.cB - S.X.used else ((bs.length:Nat):Int)))=(.int .i64 (min ((bs.length:Nat):Int) (S.X.cB - S.X.used)))] ⟨congrArg (Value.int .i64) (Ov _ _),trivial⟩)] ?_)))
 refine aj.slot 28 (.int .i64 (min ((bs.length:Nat):Int) (S.X.cB - S.X.used))) (.int .i64 ↑(br S.X bs.length)) (fun _=>by kernel_rfl) (congrArg (Value.int .i64) (KU (by omega))) ?_
 refine gK 1 [(9,vI ↑(br S.X bs.length))] [] ?_
 refine NN (af.seq ?_)
 have hwl:=KV (X:=S.X) (n:=bs.length) (by omega)
 refine af.mem (cR:=(Lu f m t S L k R++[.abs (av 5 1 (L.dA k) ((obj S.O k).data.length) (L.dC k) (bZ (obj S.O k).data))])) (fun w hS=>hS.Ku (i:=4) (k:=k) rfl hkk) ?_
 refine af.bT (S:=(Lu f m t S L k R)) [0,1,2,3,4,5,6,7,8,9,10,11] 8 [0,1,2,3,4,5,6] (by kernel_rfl) (by kernel_rfl) rfl (by kernel_rfl) ?_
 refine gR 0 [8,9,10,11] [(0,vP f),(1,vP (L.b k)),(9,vI ↑(br S.X bs.length)),(29,vP (L.b k)),(33,.slice (L.dA k) ((obj S.O k).data.length) ((L.dC k))),(36,.slice A ((br S.X bs.length)) (c))] [0,1,2,3,4,5,6,7] [(4,v_ 3 (FX L hkk)),(7,p_ ⟨[],some (br S.X bs.length),none,none,none⟩ [(((br S.X bs.length):Nat):Int)=(((br S.X bs.length):Nat):Int),(br S.X bs.length)<=c] ⟨rfl,by omega,trivial⟩)] ?_
 refine aQ.cut (ι:=(Option Addr)×Nat) (fr':=fun ((A1,c2):(Option Addr)×Nat)=>[(0,vP f),(1,vP (L.b k)),(9,vI ↑(br S.X bs.length)),(29,vP (L.b k)),(37,.slice A1 (((obj S.O k).data++bs.take (br S.X bs.length)).length) (c2))]) (hp':=fun ((A1,c2):(Option Addr)×Nat)=>(Lu f m t S L k R++[Rw A1 S k bs c2])) [0,1,2,3,4,5,6] rfl rfl ?_ rfl (fun _=>by kernel_rfl) ?_
 ·refine aj.append 7 (d:=(some 37)) (t:=46) (e:=5) (z:=.int .u8 0) (size:=1) (bytes:=1) (n:=(obj S.O k).data.length) (cap:=(L.dC k)) (A:=(L.dA k)) (xs:=(bZ (obj S.O k).data)) (s:=(.tmp 33)) (x:=(.tmp 36)) (ats:=#[46,46]) (A':=A) (m:=(br S.X bs.length)) (c':=c) (news:=(bZ (bs.take (br S.X bs.length)))) (fun _=>by kernel_rfl) rfl (by kernel_rfl) (fun _=>by kernel_rfl) (fun _=>by kernel_rfl) Tryz.underlying46 (by kernel_rfl) rfl (by decide) (by rw [rQ,List.length_take,Nat.min_eq_left hwl.1,Nat.mul_one]) (nV (bs.take (br S.X bs.length))) ((hA.take (br S.X bs.length)).src) (by unfold maxLen;omega) (by omega) (fun A1 c2=>?_)
  refine aj.bI 7 (p:=.abs (av 5 1 A1 (((obj S.O k).data.length)+(br S.X bs.length)) c2 ((bZ (obj S.O k).data)++(bZ (bs.take (br S.X bs.length)))))) (p':=.abs (av 5 1 A1 (((obj S.O k).data++bs.take (br S.X bs.length)).length) c2 (bZ ((obj S.O k).data++bs.take (br S.X bs.length))))) (by kernel_rfl) (by rw [Jj,List.length_append,List.length_take,Nat.min_eq_left hwl.1]) ?_
  refine aj.slot 37 (.slice A1 (((obj S.O k).data.length)+(br S.X bs.length)) (c2)) (.slice A1 (((obj S.O k).data++bs.take (br S.X bs.length)).length) (c2)) (fun _=>by kernel_rfl) (by rw [List.length_append,List.length_take,Nat.min_eq_left hwl.1]) ?_
  refine NL ?_
  exact MD (A1,c2) [0,1,9,29,37] [0,1,2,3,4,5,6,7]
 rintro⟨A1,c2⟩
 refine aQ.cut (ι:=Unit) (fr':=fun (_:Unit)=>[(0,vP f),(1,vP (L.b k)),(9,vI ↑(br S.X bs.length)),(37,.slice A1 (((obj S.O k).data++bs.take (br S.X bs.length)).length) (c2)),(38,vP (L.b k))]) (hp':=fun (_:Unit)=>(Lu f m t S L k R++[Rw A1 S k bs c2])) [0,1,2,3,4,5,6] rfl rfl ?_ rfl (fun _=>by kernel_rfl) ?_
 ·refine gK 1 [(38,vP (L.b k))] [] ?_
  refine NL ?_
  exact MD () [0,1,9,37,38] [0,1,2,3,4,5,6,7]
 rintro _
 refine aQ.cut (ι:=Unit) (fr':=fun (_:Unit)=>[(0,vP f),(1,vP (L.b k)),(9,vI ↑(br S.X bs.length)),(37,.slice A1 (((obj S.O k).data++bs.take (br S.X bs.length)).length) (c2)),(39,.pointer (some ⟨(L.b k),9,none⟩))]) (hp':=fun (_:Unit)=>(Lu f m t S L k R++[Rw A1 S k bs c2])) [0,1,2,3,4,5,6] rfl rfl ?_ rfl (fun _=>by kernel_rfl) ?_
 ·refine gK 1 [(39,.pointer (some ⟨(L.b k),9,none⟩))] [] ?_
  refine NL ?_
  exact MD () [0,1,9,37,39] [0,1,2,3,4,5,6,7]
 rintro _
 refine aQ.last rfl rfl ?_
 refine aj.mem (fun w hS=>hS.xJ (i:=3) (k:=k) rfl (by rw [hkk];decide) (gY (hkk)) (congrArg ko (hkk))) ?_
 refine gC 1 [] [(0,a_ 8 (L.b k))] [(8,[(9,.slice A1 (((obj S.O k).data++bs.take (br S.X bs.length)).length) (c2))])] ?_
 obtain⟨L2,hL2⟩:∃ L2:HL,L2=L.data k A1 c2:=⟨_,rfl⟩
 refine aj.mem (cR:=[.abs (ax (bM (aF S.O k (fun o=>{ o with data:=o.data++bs.take (br S.X bs.length) })) L2)),.blk f [vI (S.X.cN),vI (S.X.cB),vI (S.X.cH),vI (S.X.cS),vI (S.X.cZ),.map (some m),vP t,vI (S.X.last),vI (S.X.ah),vI (S.X.used)] 126,.abs (aN Tryz.prog 3 m (bp (bq L S.idx)) S.idx.length),.abs (cV 197 t S.X.cH S.aD (bq L S.us)),.abs (ax (kg (bN S.O L) k cE.none)),.abs (ax (cF S.O L)),.abs R,.abs (av 5 1 A1 (((obj S.O k).data++bs.take (br S.X bs.length)).length) c2 (bZ ((obj S.O k).data++bs.take (br S.X bs.length))))]) (fun w hS=>hS.QU hL2 (f:=(fun o=>{ o with data:=o.data++bs.take (br S.X bs.length) })) (i:=3) (j:=8) (ix:=[0,1,2,4,5,6,7]) rfl rfl (by kernel_rfl) rfl (by show (obj S.O k).kind≠0;rw [hkk];decide) ((gY (L:=L2) (k:=k) (o:=(fun o=>{ o with data:=o.data++bs.take (br S.X bs.length) }) (obj S.O k)) hkk).trans (by rw [HT hL2,HV hL2]<;>rfl)) (by show ko (obj S.O k).kind=_;rw [hkk]<;>rfl)) ?_
 refine aj.mem (cR:=[pD (aF S.O k (fun o=>{ o with data:=o.data++bs.take (br S.X bs.length) })) L2,pO (aF S.O k (fun o=>{ o with data:=o.data++bs.take (br S.X bs.length) })) L2,pF f m t S.X,pI m L S.idx,pT t S.X.cH S.aD L S.us,pE S.O L,.abs R]) (fun w hS=>hS.QV hL2 (f:=(fun o=>{ o with data:=o.data++bs.take (br S.X bs.length) })) (i:=4) (j:=7) (ix:=[0,1,2,3,5,6]) rfl rfl (by kernel_rfl) rfl hkk rfl rfl) ?_
 refine aj.dG [(3,.abs (aN Tryz.prog 3 m (bp (bq L2 S.idx)) S.idx.length)),(4,.abs (cV 197 t S.X.cH S.aD (bq L2 S.us))),(5,.abs (ax (cF (aF S.O k (fun o=>{ o with data:=o.data++bs.take (br S.X bs.length) })) L2)))] (fun w hS=>by rw [FC hL2,FC hL2,show cF (aF S.O k (fun o=>{ o with data:=o.data++bs.take (br S.X bs.length) })) L2=cF S.O L from (ng (O:=S.O) (k:=k) (f:=(fun o=>{ o with data:=o.data++bs.take (br S.X bs.length) })) rfl rfl).trans (MX hL2)];exact hS) ?_
 have Dm:(obj (aF S.O k (fun o=>{ o with data:=o.data++bs.take (br S.X bs.length) })) k).kind=1:=(jJ (f:=(fun o=>{ o with data:=o.data++bs.take (br S.X bs.length) })) (fun _=>rfl)).trans hkk
 have hbk:L2.b k=L.b k:=KW hL2
 generalize ct:(aF S.O k (fun o=>{ o with data:=o.data++bs.take (br S.X bs.length) }))=cK at Dm ⊢
 refine NL (ai.np (NX (SR ?_)))
 refine gK 1 [(40,vP (L.b k))] [] ?_
 refine aj.slot 40 (vP (L.b k)) (vP (L2.b k)) (fun _=>by kernel_rfl) (by rw [hbk]) ?_
 refine gK 8 [(45,.agg #[vI (S.X.cS),vI (S.X.cZ)]),(48,.pointer (some ⟨(L2.b k),4,none⟩))] [(4,A_ 2 f 2)] ?_
 refine Ll 1 [(5,1),(0,2)] k S.X.cS S.X.cZ Dm (fun ef dx=>?_)
 have ye:=ku dx Dm
 refine NS (gC 9 [] [(3,a_ 2 f),(5,p_ ⟨[],none,none,none,some (vI (S.X.used+(((br S.X bs.length):Nat):Int)))⟩ [(Value.int .i64 (IntKind.wrap .i64 (S.X.used+(((br S.X bs.length):Nat):Int))))=(.int .i64 (S.X.used+(((br S.X bs.length):Nat):Int)))] ⟨bA (by omega) (by omega) (by omega),trivial⟩),(8,a_ 2 f)] [(2,[(9,vI (S.X.used+(((br S.X bs.length):Nat):Int)))])] ?_)
 refine NS (gK 3 [(6,vI ↑(br S.X bs.length)),(7,vI 0)] [] ?_)
 refine NN (af.ret ?_)
 exact RT (l:=[pF f m t { S.X with used:=S.X.used+(((br S.X bs.length):Nat):Int) },pI m L2 S.idx,pT t S.X.cH S.aD L2 S.us,pO ef L2,pD ef L2,pE ef L2]) (.tuple #[vI ↑(br S.X bs.length),vI 0]) [2,3,4,1,0,5,6] (⟨L2,by subst dx;subst ct;rw [show dS S k bs=_ from (if_neg (fun e=>by rw [e] at hlen;exact absurd hlen (by simp))).trans (if_neg Ct)];exact⟨rfl,by rw [tL]⟩⟩)
end
section
open Go.RowKit Go.Maps bH aE
attribute [local irreducible] aj aS af ai
abbrev j7 (t)(S:aI) (L:HL):=(pT t S.X.cH S.aD L S.us:HP)
abbrev oQ (m:Nat) (L:HL) (S:aI) (cb:Nat) (c) (R:cE):=([pI m L S.idx,pD S.O L,pE S.O L,pC cb c,.abs R]:List HP)
abbrev OX (f:Nat) (c:aB):=([(8,vP f),(12,vI (c.handle)),(16,.string c.name)]:Fr)
abbrev Gb (L:HL) (d:Nat):=([(5,vP (L.b d)),(6,vI 0)]:Fr)
abbrev Rx (f:Nat) (L:HL) (d:Nat) (c:aB):=([(23,vP f),(24,vP (L.b d)),(28,.string c.name)]:Fr)
abbrev pQ (f:Nat) (m:Nat) (t) (S:aI) (L:HL):=([pF f m t S.X,j7 t S L,pO S.O L]:List HP)
abbrev Lv (e):=([(5,.pointer none),(6,vI (e))]:Fr)
theorem iF {β:Bs} (S:aI) (L:HL) (f m t:Nat) (hI:Inv S) (cb:Nat) (c:aB) (hC:fX β c) :
    Spec Tryz.prog β 122 #[vP f,vP cb] ((pA f m t L S)++[pC cb c]) (fun v l=>v=UB L (fV S.O S.us c)/\l=((pA f m t L S)++[pC cb c])):=by
 refine Spec.enter Tryz.func122 rfl Tryz.ntmps122 (Nat.le_of_ble_eq_true rfl) (fun R=>?_)
 refine SR (gK 2 [] [] ?_)
 refine NN (af.seq (af.bK (by kernel_rfl) (by kernel_rfl) ?_))
 refine gQ 9 [(10,vP f),(14,vI (c.handle)),(18,.string c.name)] [(4,a_ 6 cb),(8,a_ 6 cb)] ?_
 rcases lQ hI.toInv0 c.handle c.name 64 with ⟨e,hab,hne⟩|⟨d,hab,hd,iU,iM,dN⟩
 ·refine aS.call (f:=123) (args:=#[vP f,vI (c.handle),.string c.name,vI 64]) (d:=(some 19)) (pre:=(pQ f m t S L)) (R:=(oQ m L S cb c R)) (pk:=[0,2,3,1,4,5,6,7]) (iZ:=[0,3,1,2,4,5,6,7]) (v0:=.tuple #[.pointer none,vI (e)]) (fun _=>by kernel_rfl) ((by have h:=eF S L f m t hI c.handle hC.hw c.name hC.nm 64 (β:=β);rw [hab] at h;exact h)) rfl (by kernel_rfl) rfl (by kernel_rfl) (fun _ _ h=>h) ?_
  refine gQ 5 [(6,.pointer none),(7,vI (e))] [] ?_
  refine NQ (NX (af.seq (SR ?_)))
  refine gK 2 [(23,.bool (!(decide ((e:Int)=(0:Int)))))] [] ?_
  refine NN (af.dm (p:=(e:Int)=(0:Int)) (fun _=>by kernel_rfl) (fun h23=>?_) (fun h23=>?_))
  ·refine SR (gK 3 [(4,.nilIface),(5,vI (e))] [] ?_)
   refine NN (af.ret (ai.ar ?_))
   exact RT (.tuple #[.nilIface,vI (e)]) [0,1,2,3,4,5,6,7] (⟨by rw [show fV S.O S.us c=.error e by unfold fV;rw [hab]];rfl,rfl⟩)
  exact absurd h23 hne
 have hkd:(obj S.O d).kind=2:=hI.kind hd
 refine aS.call (f:=123) (args:=#[vP f,vI (c.handle),.string c.name,vI 64]) (d:=(some 19)) (pre:=(pQ f m t S L)) (R:=(oQ m L S cb c R)) (pk:=[0,2,3,1,4,5,6,7]) (iZ:=[0,3,1,2,4,5,6,7]) (v0:=.tuple #[vP (L.b d),vI 0]) (fun _=>by kernel_rfl) ((by have h:=eF S L f m t hI c.handle hC.hw c.name hC.nm 64 (β:=β);rw [hab] at h;exact h)) rfl (by kernel_rfl) rfl (by kernel_rfl) (fun _ _ h=>h) ?_
 refine gQ 5 [(6,vP (L.b d)),(7,vI 0)] [] ?_
 refine NQ (NX (af.seq (SR ?_)))
 refine gK 2 [(23,.bool false)] [] ?_
 refine NN (CF (af.skip (NX (af.seq ?_))))
 have hel:(obj S.O d).ah.length<=8192:=hI.gi hd
 have S8:=hC.nm
 rcases hI.mq hd c.name with hlk|⟨tk,hlk,hlv⟩|⟨tk,hlk,hlv⟩|⟨tk,hlk,hlv⟩
 ·refine af.bK (by kernel_rfl) (by kernel_rfl) ?_
  refine gQ 8 [(28,.map (some (L.m d))),(32,.string c.name)] [(3,v_ 3 (bD L hkd)),(7,a_ 6 cb)] ?_
  refine rJ 5 hkd hlk ?_
  refine gQ 1 [(8,.nilIface)] [] ?_
  refine NQ (NX (af.seq (SR ?_)))
  refine gK 2 [(35,.bool true)] [] ?_
  refine NN (CT (SR (gK 2 [(4,.nilIface),(5,vI 170)] [] ?_)))
  refine NN (af.ret (ai.ar ?_))
  exact RT (.tuple #[.nilIface,vI 170]) [0,1,2,3,4,5,6,7] (⟨by rw [show fV S.O S.us c=.error 170 by unfold fV;rw [hab];simp only;rw [hlk]];rfl,rfl⟩)
 ·have hkt:(obj S.O tk).kind=1:=hI.kind hlv
  refine af.bK (by kernel_rfl) (by kernel_rfl) ?_
  refine gQ 8 [(28,.map (some (L.m d))),(32,.string c.name)] [(3,v_ 3 (bD L hkd)),(7,a_ 6 cb)] ?_
  refine rJ 5 hkd hlk ?_
  refine gQ 1 [(8,.iface 129 (vP (L.b tk)))] [] ?_
  refine NQ (NX (af.seq (SR ?_)))
  refine gK 2 [(35,.bool false)] [] ?_
  refine NN (CF (af.skip (NX (SR (gK 3 [(4,.iface 129 (vP (L.b tk))),(5,vI 0)] [] ?_)))))
  refine NN (af.ret ?_)
  exact RT (.tuple #[.iface 129 (vP (L.b tk)),vI 0]) [0,1,2,3,4,5,6,7] (⟨by rw [show fV S.O S.us c=.ok ⟨tk,1⟩ by unfold fV;rw [hab];simp only;rw [hlk]];rfl,rfl⟩)
 ·have hkt:(obj S.O tk).kind=2:=hI.kind hlv
  refine af.bK (by kernel_rfl) (by kernel_rfl) ?_
  refine gQ 8 [(28,.map (some (L.m d))),(32,.string c.name)] [(3,v_ 3 (bD L hkd)),(7,a_ 6 cb)] ?_
  refine rJ 5 hkd hlk ?_
  refine gQ 1 [(8,.iface 135 (vP (L.b tk)))] [] ?_
  refine NQ (NX (af.seq (SR ?_)))
  refine gK 2 [(35,.bool false)] [] ?_
  refine NN (CF (af.skip (NX (SR (gK 3 [(4,.iface 135 (vP (L.b tk))),(5,vI 0)] [] ?_)))))
  refine NN (af.ret ?_)
  exact RT (.tuple #[.iface 135 (vP (L.b tk)),vI 0]) [0,1,2,3,4,5,6,7] (⟨by rw [show fV S.O S.us c=.ok ⟨tk,2⟩ by unfold fV;rw [hab];simp only;rw [hlk]];rfl,rfl⟩)
 have hkt:(obj S.O tk).kind=3:=hI.kind hlv
 refine af.bK (by kernel_rfl) (by kernel_rfl) ?_
 refine gQ 8 [(28,.map (some (L.m d))),(32,.string c.name)] [(3,v_ 3 (bD L hkd)),(7,a_ 6 cb)] ?_
 refine rJ 5 hkd hlk ?_
 refine gQ 1 [(8,.iface 132 (vP (L.b tk)))] [] ?_
 refine NQ (NX (af.seq (SR ?_)))
 refine gK 2 [(35,.bool false)] [] ?_
 refine NN (CF (af.skip (NX (SR (gK 3 [(4,.iface 132 (vP (L.b tk))),(5,vI 0)] [] ?_)))))
 refine NN (af.ret ?_)
 exact RT (.tuple #[.iface 132 (vP (L.b tk)),vI 0]) [0,1,2,3,4,5,6,7] (⟨by rw [show fV S.O S.us c=.ok ⟨tk,3⟩ by unfold fV;rw [hab];simp only;rw [hlk]];rfl,rfl⟩)
theorem JM {β:Bs} (S:aI) (L:HL) (f m t:Nat) (hI:Inv S) (cb:Nat) (c:aB) (hC:fX β c) :
    Spec Tryz.prog β 89 #[vP f,vP cb] ((pA f m t L S)++[pC cb c]) (fun v l=>∃ L2,v=vI (jv S c).1/\l=((pA f m t L2 ((jv S c).2.1))++[.blk cb (aW ((jv S c).2.2)) 48])):=by
 have hX:=hI.hX
 refine Spec.enter Tryz.func89 rfl Tryz.ntmps89 (Nat.le_of_ble_eq_true rfl) (fun R=>?_)
 refine SR (gK 1 [] [] ?_)
 refine NN (af.seq ?_)
 rcases hI.QK c.other with hix|⟨tk,hix,hlv⟩|⟨tk,hix,hlv⟩|⟨tk,hix,hlv⟩
 ·refine af.bK (by kernel_rfl) (by kernel_rfl) ?_
  refine gQ 8 [(10,.map (some m)),(14,vI (c.other))] [(3,a_ 0 f),(7,a_ 6 cb)] ?_
  refine aS.eu 1 (d:=(some 15)) (t:=120) (K:=3) (E:=124) (b:=m) (n:=S.idx.length) (f:=(bp (bq L S.idx))) (x:=(.tmp 10)) (ix:=(.tmp 14)) (key:=.int .i64 (c.other)) (z:=.nilIface) (kl:=(.int .i64 c.other)) (r:=none) (fun _=>by kernel_rfl) (by kernel_rfl) (fun _=>by kernel_rfl) (fun _=>by kernel_rfl) d6 Tryz.underlying120 (fun _=>by kernel_rfl) (gX hC.ow) (by rw [fw,hix];rfl) ?_
  refine gQ 1 [(5,.nilIface)] [] ?_
  refine NQ (NX (af.seq (SR ?_)))
  refine gK 2 [(17,.bool true)] [] ?_
  refine NN (CT (SR (gK 1 [(4,vI 141)] [] ?_)))
  refine NN (af.ret (ai.ar ?_))
  exact RT (vI 141) [0,1,2,3,4,5,6,7] (⟨L,by rw [show (jv S c)=(141,S,c) by unfold jv;rw [hix]]<;>exact⟨rfl,rfl⟩⟩)
 ·have hkt:(obj S.O tk).kind=1:=hI.kind hlv
  refine af.bK (by kernel_rfl) (by kernel_rfl) ?_
  refine gQ 8 [(10,.map (some m)),(14,vI (c.other))] [(3,a_ 0 f),(7,a_ 6 cb)] ?_
  refine aS.eu 1 (d:=(some 15)) (t:=120) (K:=3) (E:=124) (b:=m) (n:=S.idx.length) (f:=(bp (bq L S.idx))) (x:=(.tmp 10)) (ix:=(.tmp 14)) (key:=.int .i64 (c.other)) (z:=.nilIface) (kl:=(.int .i64 c.other)) (r:=(some (dQ L ⟨tk,1⟩))) (fun _=>by kernel_rfl) (by kernel_rfl) (fun _=>by kernel_rfl) (fun _=>by kernel_rfl) d6 Tryz.underlying120 (fun _=>by kernel_rfl) (gX hC.ow) (by rw [fw,hix];rfl) ?_
  refine gQ 1 [(5,.iface 129 (vP (L.b tk)))] [] ?_
  refine NQ (NX (af.seq (SR ?_)))
  refine gK 2 [(17,.bool false)] [] ?_
  refine NN (CF (af.skip (NX (af.seq (SR (gK 1 [(18,.iface 129 (vP (L.b tk)))] [] ?_))))))
  refine gL [] (mJ (vP (L.b tk))) ?_
  rintro _ _ ⟨rfl,rfl⟩
  refine gK 1 [(20,.bool true)] [] ?_
  refine NN (CT (SR (gK 1 [(4,vI 173)] [] ?_)))
  refine NN (af.ret (ai.ar ?_))
  exact RT (vI 173) [0,1,2,3,4,5,6,7] (⟨L,by rw [show (jv S c)=(173,S,c) by unfold jv;rw [hix];exact if_neg (by simp)]<;>exact⟨rfl,rfl⟩⟩)
 ·have hkt:(obj S.O tk).kind=2:=hI.kind hlv
  refine af.bK (by kernel_rfl) (by kernel_rfl) ?_
  refine gQ 8 [(10,.map (some m)),(14,vI (c.other))] [(3,a_ 0 f),(7,a_ 6 cb)] ?_
  refine aS.eu 1 (d:=(some 15)) (t:=120) (K:=3) (E:=124) (b:=m) (n:=S.idx.length) (f:=(bp (bq L S.idx))) (x:=(.tmp 10)) (ix:=(.tmp 14)) (key:=.int .i64 (c.other)) (z:=.nilIface) (kl:=(.int .i64 c.other)) (r:=(some (dQ L ⟨tk,2⟩))) (fun _=>by kernel_rfl) (by kernel_rfl) (fun _=>by kernel_rfl) (fun _=>by kernel_rfl) d6 Tryz.underlying120 (fun _=>by kernel_rfl) (gX hC.ow) (by rw [fw,hix];rfl) ?_
  refine gQ 1 [(5,.iface 135 (vP (L.b tk)))] [] ?_
  refine NQ (NX (af.seq (SR ?_)))
  refine gK 2 [(17,.bool false)] [] ?_
  refine NN (CF (af.skip (NX (af.seq (SR (gK 1 [(18,.iface 135 (vP (L.b tk)))] [] ?_))))))
  refine gL [] (mK (vP (L.b tk))) ?_
  rintro _ _ ⟨rfl,rfl⟩
  refine gK 1 [(20,.bool false)] [] ?_
  refine NN (CF (af.skip (NX (SR (gK 1 [] [] ?_)))))
  refine NS (gK 3 [(22,vP cb),(23,vP f),(24,.iface 135 (vP (L.b tk)))] [] ?_)
  refine gL [0,2,3] (tf S L f m t ⟨tk,2⟩ hkt (by simp) (by have:=hI.DW hlv;simp only at this ⊢;omega)) ?_
  rintro _ _ ⟨rfl,rfl⟩
  refine gC 7 [(6,vI ((cu S ⟨tk,2⟩).2.1))] [(5,a_ 6 cb)] [(6,[(12,vI ((cu S ⟨tk,2⟩).1))])] ?_
  refine NS (aj.dG [(4,.abs (ax (bN ((cu S ⟨tk,2⟩).2.2.O) L))),(5,.abs (ax (cF ((cu S ⟨tk,2⟩).2.2.O) L)))] (fun w hS=>by rw [AK,AL];exact hS) ?_)
  refine gK 2 [(4,vI ((cu S ⟨tk,2⟩).2.1))] [] ?_
  refine NN (af.ret ?_)
  exact RT (vI ((cu S ⟨tk,2⟩).2.1)) [0,3,1,2,4,5,6,7] (⟨L,by rw [show (jv S c)=((cu S ⟨tk,2⟩).2.1,(cu S ⟨tk,2⟩).2.2,{ c with answer:=(cu S ⟨tk,2⟩).1 }) by unfold jv;rw [hix];exact if_pos rfl]<;>exact⟨rfl,rfl⟩⟩)
 have hkt:(obj S.O tk).kind=3:=hI.kind hlv
 refine af.bK (by kernel_rfl) (by kernel_rfl) ?_
 refine gQ 8 [(10,.map (some m)),(14,vI (c.other))] [(3,a_ 0 f),(7,a_ 6 cb)] ?_
 refine aS.eu 1 (d:=(some 15)) (t:=120) (K:=3) (E:=124) (b:=m) (n:=S.idx.length) (f:=(bp (bq L S.idx))) (x:=(.tmp 10)) (ix:=(.tmp 14)) (key:=.int .i64 (c.other)) (z:=.nilIface) (kl:=(.int .i64 c.other)) (r:=(some (dQ L ⟨tk,3⟩))) (fun _=>by kernel_rfl) (by kernel_rfl) (fun _=>by kernel_rfl) (fun _=>by kernel_rfl) d6 Tryz.underlying120 (fun _=>by kernel_rfl) (gX hC.ow) (by rw [fw,hix];rfl) ?_
 refine gQ 1 [(5,.iface 132 (vP (L.b tk)))] [] ?_
 refine NQ (NX (af.seq (SR ?_)))
 refine gK 2 [(17,.bool false)] [] ?_
 refine NN (CF (af.skip (NX (af.seq (SR (gK 1 [(18,.iface 132 (vP (L.b tk)))] [] ?_))))))
 refine gL [] (oo (vP (L.b tk))) ?_
 rintro _ _ ⟨rfl,rfl⟩
 refine gK 1 [(20,.bool true)] [] ?_
 refine NN (CT (SR (gK 1 [(4,vI 173)] [] ?_)))
 refine NN (af.ret (ai.ar ?_))
 exact RT (vI 173) [0,1,2,3,4,5,6,7] (⟨L,by rw [show (jv S c)=(173,S,c) by unfold jv;rw [hix];exact if_neg (by simp)]<;>exact⟨rfl,rfl⟩⟩)
theorem Es {β:Bs} (S:aI) (L:HL) (f m t:Nat) (hI:Inv S) (cb:Nat) (c:aB) (hC:fX β c) :
    Spec Tryz.prog β 90 #[vP f,vP cb] ((pA f m t L S)++[pC cb c]) (fun v l=>∃ L2,v=vI (fN S c).1/\l=((pA f m t L2 ((fN S c).2.1))++[.blk cb (aW ((fN S c).2.2)) 48])):=by
 have hX:=hI.hX
 refine Spec.enter Tryz.func90 rfl Tryz.ntmps90 (Nat.le_of_ble_eq_true rfl) (fun R=>?_)
 refine SR (gK 1 [] [] ?_)
 refine NS (gK 2 [(8,vP f),(9,vP cb)] [] ?_)
 rcases BW hI.toInv0 c with ⟨e,hnm,hne⟩|⟨tk,hnm,hlv⟩|⟨tk,hnm,hlv⟩|⟨tk,hnm,hlv⟩
 ·refine gL (f:=122) (args:=#[vP f,vP cb]) (pre:=((pA f m t L S)++[pC cb c])) [0,1,2,3,4,5,6] ((by have h:=iF S L f m t hI cb c hC (β:=β);rw [hnm] at h;exact h)) ?_
  rintro _ _ ⟨rfl,rfl⟩
  refine gK 5 [(5,.nilIface),(6,vI (e))] [] ?_
  refine NN (af.seq (SR (gK 2 [(14,.bool (!(decide ((e:Int)=(0:Int)))))] [] ?_)))
  refine NN (af.dm (p:=(e:Int)=(0:Int)) (fun _=>by kernel_rfl) (fun iL=>?_) (fun iL=>?_))
  ·refine SR (gK 2 [(4,vI (e))] [] ?_)
   refine NN (af.ret (ai.ar ?_))
   exact RT (vI (e)) [0,1,2,3,4,5,6,7] (⟨L,by rw [show (fN S c)=(e,S,c) by unfold fN;rw [hnm]]<;>exact⟨rfl,rfl⟩⟩)
  exact absurd iL hne
 ·have hkt:(obj S.O tk).kind=1:=hI.kind hlv
  refine gL (f:=122) (args:=#[vP f,vP cb]) (pre:=((pA f m t L S)++[pC cb c])) [0,1,2,3,4,5,6] ((by have h:=iF S L f m t hI cb c hC (β:=β);rw [hnm] at h;exact h)) ?_
  rintro _ _ ⟨rfl,rfl⟩
  refine gK 5 [(5,.iface 129 (vP (L.b tk))),(6,vI 0)] [] ?_
  refine NN (af.seq (SR (gK 2 [(14,.bool false)] [] ?_)))
  refine NN (CF (af.skip (NX (af.seq (SR (gK 1 [(16,.iface 129 (vP (L.b tk)))] [] ?_))))))
  refine NN (af.block (SR ?_))
  refine gK 3 [(18,.bool false)] [] ?_
  refine NN (CF (SR (gK 3 [(21,.bool true)] [] ?_)))
  refine NN (CT (SR (gK 1 [(4,vI 173)] [] ?_)))
  refine NN (af.ret (ai.aG (ai.ar ?_)))
  exact RT (vI 173) [0,1,2,3,4,5,6,7] (⟨L,by rw [show (fN S c)=(173,S,c) by unfold fN;rw [hnm];exact (if_neg (by simp)).trans (if_pos rfl)]<;>exact⟨rfl,rfl⟩⟩)
 ·have hkt:(obj S.O tk).kind=2:=hI.kind hlv
  refine gL (f:=122) (args:=#[vP f,vP cb]) (pre:=((pA f m t L S)++[pC cb c])) [0,1,2,3,4,5,6] ((by have h:=iF S L f m t hI cb c hC (β:=β);rw [hnm] at h;exact h)) ?_
  rintro _ _ ⟨rfl,rfl⟩
  refine gK 5 [(5,.iface 135 (vP (L.b tk))),(6,vI 0)] [] ?_
  refine NN (af.seq (SR (gK 2 [(14,.bool false)] [] ?_)))
  refine NN (CF (af.skip (NX (af.seq (SR (gK 1 [(16,.iface 135 (vP (L.b tk)))] [] ?_))))))
  refine NN (af.block (SR ?_))
  refine gK 3 [(18,.bool false)] [] ?_
  refine NN (CF (SR (gK 3 [(21,.bool false)] [] ?_)))
  refine NN (CF (af.skip (ai.aJ (NX (SR ?_)))))
  refine gK 3 [(24,vP cb),(25,vP f),(26,.iface 135 (vP (L.b tk)))] [] ?_
  refine gL [0,2,3] (tf S L f m t ⟨tk,2⟩ hkt (by simp) (by have:=hI.DW hlv;simp only at this ⊢;omega)) ?_
  rintro _ _ ⟨rfl,rfl⟩
  refine gC 7 [(6,vI ((cu S ⟨tk,2⟩).2.1))] [(5,a_ 6 cb)] [(6,[(12,vI ((cu S ⟨tk,2⟩).1))])] ?_
  refine NS (aj.dG [(4,.abs (ax (bN ((cu S ⟨tk,2⟩).2.2.O) L))),(5,.abs (ax (cF ((cu S ⟨tk,2⟩).2.2.O) L)))] (fun w hS=>by rw [AK,AL];exact hS) ?_)
  refine gK 2 [(4,vI ((cu S ⟨tk,2⟩).2.1))] [] ?_
  refine NN (af.ret ?_)
  exact RT (vI ((cu S ⟨tk,2⟩).2.1)) [0,3,1,2,4,5,6,7] (⟨L,by rw [show (fN S c)=((cu S ⟨tk,2⟩).2.1,(cu S ⟨tk,2⟩).2.2,{ c with answer:=(cu S ⟨tk,2⟩).1 }) by unfold fN;rw [hnm];exact (if_neg (by simp)).trans (if_neg (by simp))]<;>exact⟨rfl,rfl⟩⟩)
 have hkt:(obj S.O tk).kind=3:=hI.kind hlv
 refine gL (f:=122) (args:=#[vP f,vP cb]) (pre:=((pA f m t L S)++[pC cb c])) [0,1,2,3,4,5,6] ((by have h:=iF S L f m t hI cb c hC (β:=β);rw [hnm] at h;exact h)) ?_
 rintro _ _ ⟨rfl,rfl⟩
 refine gK 5 [(5,.iface 132 (vP (L.b tk))),(6,vI 0)] [] ?_
 refine NN (af.seq (SR (gK 2 [(14,.bool false)] [] ?_)))
 refine NN (CF (af.skip (NX (af.seq (SR (gK 1 [(16,.iface 132 (vP (L.b tk)))] [] ?_))))))
 refine NN (af.block (SR ?_))
 refine gK 3 [(18,.bool true)] [] ?_
 refine NN (CT (SR (gK 1 [(4,vI 174)] [] ?_)))
 refine NN (af.ret (ai.aG (ai.ar ?_)))
 exact RT (vI 174) [0,1,2,3,4,5,6,7] (⟨L,by rw [show (fN S c)=(174,S,c) by unfold fN;rw [hnm];exact if_pos rfl]<;>exact⟨rfl,rfl⟩⟩)
theorem Dq {β:Bs} (S:aI) (L:HL) (f m t:Nat) (hI:Inv S) (cb:Nat) (c:aB) (hC:fX β c) :
    Spec Tryz.prog β 91 #[vP f,vP cb] ((pA f m t L S)++[pC cb c]) (fun v l=>∃ L2,v=vI (eV S c).1/\l=((pA f m t L2 ((eV S c).2.1))++[.blk cb (aW ((eV S c).2.2)) 48])):=by
 have hX:=hI.hX
 refine Spec.enter Tryz.func91 rfl Tryz.ntmps91 (Nat.le_of_ble_eq_true rfl) (fun R=>?_)
 refine SR (gK 1 [] [] ?_)
 refine NS (gK 2 [(8,vP f),(9,vP cb)] [] ?_)
 rcases BW hI.toInv0 c with ⟨e,hnm,hne⟩|⟨tk,hnm,hlv⟩|⟨tk,hnm,hlv⟩|⟨tk,hnm,hlv⟩
 ·refine gL (f:=122) (args:=#[vP f,vP cb]) (pre:=((pA f m t L S)++[pC cb c])) [0,1,2,3,4,5,6] ((by have h:=iF S L f m t hI cb c hC (β:=β);rw [hnm] at h;exact h)) ?_
  rintro _ _ ⟨rfl,rfl⟩
  refine gK 5 [(5,.nilIface),(6,vI (e))] [] ?_
  refine NN (af.seq (SR (gK 2 [(14,.bool (!(decide ((e:Int)=(0:Int)))))] [] ?_)))
  refine NN (af.dm (p:=(e:Int)=(0:Int)) (fun _=>by kernel_rfl) (fun iL=>?_) (fun iL=>?_))
  ·refine SR (gK 2 [(4,vI (e))] [] ?_)
   refine NN (af.ret (ai.ar ?_))
   exact RT (vI (e)) [0,1,2,3,4,5,6,7] (⟨L,by rw [show (eV S c)=(e,S,c) by unfold eV;rw [hnm]]<;>exact⟨rfl,rfl⟩⟩)
  exact absurd iL hne
 ·have hkt:(obj S.O tk).kind=1:=hI.kind hlv
  refine gL (f:=122) (args:=#[vP f,vP cb]) (pre:=((pA f m t L S)++[pC cb c])) [0,1,2,3,4,5,6] ((by have h:=iF S L f m t hI cb c hC (β:=β);rw [hnm] at h;exact h)) ?_
  rintro _ _ ⟨rfl,rfl⟩
  refine gK 5 [(5,.iface 129 (vP (L.b tk))),(6,vI 0)] [] ?_
  refine NN (af.seq (SR (gK 2 [(14,.bool false)] [] ?_)))
  refine NN (CF (af.skip (NX (af.seq (SR (gK 1 [(16,.iface 129 (vP (L.b tk)))] [] ?_))))))
  refine NN (af.block (SR ?_))
  refine gK 3 [(18,.bool false)] [] ?_
  refine NN (CF (SR (gK 3 [(21,.bool false)] [] ?_)))
  refine NN (CF (af.skip (ai.aJ (NX (SR ?_)))))
  refine gK 3 [(24,vP cb),(25,vP f),(26,.iface 129 (vP (L.b tk)))] [] ?_
  refine gL [0,2,3] (tf S L f m t ⟨tk,1⟩ hkt (by simp) (by have:=hI.DW hlv;simp only at this ⊢;omega)) ?_
  rintro _ _ ⟨rfl,rfl⟩
  refine gC 7 [(6,vI ((cu S ⟨tk,1⟩).2.1))] [(5,a_ 6 cb)] [(6,[(12,vI ((cu S ⟨tk,1⟩).1))])] ?_
  refine NS (aj.dG [(4,.abs (ax (bN ((cu S ⟨tk,1⟩).2.2.O) L))),(5,.abs (ax (cF ((cu S ⟨tk,1⟩).2.2.O) L)))] (fun w hS=>by rw [AK,AL];exact hS) ?_)
  refine gK 2 [(4,vI ((cu S ⟨tk,1⟩).2.1))] [] ?_
  refine NN (af.ret ?_)
  exact RT (vI ((cu S ⟨tk,1⟩).2.1)) [0,3,1,2,4,5,6,7] (⟨L,by rw [show (eV S c)=((cu S ⟨tk,1⟩).2.1,(cu S ⟨tk,1⟩).2.2,{ c with answer:=(cu S ⟨tk,1⟩).1 }) by unfold eV;rw [hnm];exact (if_neg (by simp)).trans (if_neg (by simp))]<;>exact⟨rfl,rfl⟩⟩)
 ·have hkt:(obj S.O tk).kind=2:=hI.kind hlv
  refine gL (f:=122) (args:=#[vP f,vP cb]) (pre:=((pA f m t L S)++[pC cb c])) [0,1,2,3,4,5,6] ((by have h:=iF S L f m t hI cb c hC (β:=β);rw [hnm] at h;exact h)) ?_
  rintro _ _ ⟨rfl,rfl⟩
  refine gK 5 [(5,.iface 135 (vP (L.b tk))),(6,vI 0)] [] ?_
  refine NN (af.seq (SR (gK 2 [(14,.bool false)] [] ?_)))
  refine NN (CF (af.skip (NX (af.seq (SR (gK 1 [(16,.iface 135 (vP (L.b tk)))] [] ?_))))))
  refine NN (af.block (SR ?_))
  refine gK 3 [(18,.bool false)] [] ?_
  refine NN (CF (SR (gK 3 [(21,.bool true)] [] ?_)))
  refine NN (CT (SR (gK 1 [(4,vI 172)] [] ?_)))
  refine NN (af.ret (ai.aG (ai.ar ?_)))
  exact RT (vI 172) [0,1,2,3,4,5,6,7] (⟨L,by rw [show (eV S c)=(172,S,c) by unfold eV;rw [hnm];exact (if_neg (by simp)).trans (if_pos rfl)]<;>exact⟨rfl,rfl⟩⟩)
 have hkt:(obj S.O tk).kind=3:=hI.kind hlv
 refine gL (f:=122) (args:=#[vP f,vP cb]) (pre:=((pA f m t L S)++[pC cb c])) [0,1,2,3,4,5,6] ((by have h:=iF S L f m t hI cb c hC (β:=β);rw [hnm] at h;exact h)) ?_
 rintro _ _ ⟨rfl,rfl⟩
 refine gK 5 [(5,.iface 132 (vP (L.b tk))),(6,vI 0)] [] ?_
 refine NN (af.seq (SR (gK 2 [(14,.bool false)] [] ?_)))
 refine NN (CF (af.skip (NX (af.seq (SR (gK 1 [(16,.iface 132 (vP (L.b tk)))] [] ?_))))))
 refine NN (af.block (SR ?_))
 refine gK 3 [(18,.bool true)] [] ?_
 refine NN (CT (SR (gK 1 [(4,vI 174)] [] ?_)))
 refine NN (af.ret (ai.aG (ai.ar ?_)))
 exact RT (vI 174) [0,1,2,3,4,5,6,7] (⟨L,by rw [show (eV S c)=(174,S,c) by unfold eV;rw [hnm];exact if_pos rfl]<;>exact⟨rfl,rfl⟩⟩)
theorem G4 {β:Bs} (S:aI) (L:HL) (f m t:Nat) (hI:Inv S) (cb:Nat) (c:aB) (hC:fX β c) :
    Spec Tryz.prog β 92 #[vP f,vP cb] ((pA f m t L S)++[pC cb c]) (fun v l=>∃ L2,v=vI (fW S c).1/\l=((pA f m t L2 ((fW S c).2.1))++[.blk cb (aW ((fW S c).2.2)) 48])):=by
 have hX:=hI.hX
 refine Spec.enter Tryz.func92 rfl Tryz.ntmps92 (Nat.le_of_ble_eq_true rfl) (fun R=>?_)
 refine SR (gK 1 [] [] ?_)
 refine NN (af.seq (af.bK (by kernel_rfl) (by kernel_rfl) ?_))
 refine gQ 9 (OX f c) [(4,a_ 6 cb),(8,a_ 6 cb)] ?_
 rcases lQ hI.toInv0 c.handle c.name 192 with ⟨e,hab,hne⟩|⟨d,hab,hd,iU,iM,dN⟩
 ·refine aS.call (f:=123) (args:=#[vP f,vI (c.handle),.string c.name,vI 192]) (d:=(some 17)) (pre:=(pQ f m t S L)) (R:=(oQ m L S cb c R)) (pk:=[0,2,3,1,4,5,6,7]) (iZ:=[0,3,1,2,4,5,6,7]) (v0:=.tuple #[.pointer none,vI (e)]) (fun _=>by kernel_rfl) ((by have h:=eF S L f m t hI c.handle hC.hw c.name hC.nm 192 (β:=β);rw [hab] at h;exact h)) rfl (by kernel_rfl) rfl (by kernel_rfl) (fun _ _ h=>h) ?_
  refine gQ 5 (Lv e) [] ?_
  refine NQ (NX (af.seq (SR ?_)))
  refine gK 2 [(21,.bool (!(decide ((e:Int)=(0:Int)))))] [] ?_
  refine NN (af.dm (p:=(e:Int)=(0:Int)) (fun _=>by kernel_rfl) (fun vr=>?_) (fun vr=>?_))
  ·refine SR (gK 2 [(4,vI (e))] [] ?_)
   refine NN (af.ret (ai.ar ?_))
   exact RT (vI (e)) [0,1,2,3,4,5,6,7] (⟨L,by rw [show (fW S c)=(e,S,c) by unfold fW;rw [hab]]<;>exact⟨rfl,rfl⟩⟩)
  exact absurd vr hne
 have hkd:(obj S.O d).kind=2:=hI.kind hd
 refine aS.call (f:=123) (args:=#[vP f,vI (c.handle),.string c.name,vI 192]) (d:=(some 17)) (pre:=(pQ f m t S L)) (R:=(oQ m L S cb c R)) (pk:=[0,2,3,1,4,5,6,7]) (iZ:=[0,3,1,2,4,5,6,7]) (v0:=.tuple #[vP (L.b d),vI 0]) (fun _=>by kernel_rfl) ((by have h:=eF S L f m t hI c.handle hC.hw c.name hC.nm 192 (β:=β);rw [hab] at h;exact h)) rfl (by kernel_rfl) rfl (by kernel_rfl) (fun _ _ h=>h) ?_
 refine gQ 5 (Gb L d) [] ?_
 refine NQ (NX (af.seq (SR ?_)))
 refine gK 2 [(21,.bool false)] [] ?_
 refine NN (CF (af.skip (NX (af.seq (SR (gK 4 [(26,vI (c.mode))] [(3,a_ 6 cb)] ?_))))))
 refine gL [] (fR (c.mode) 4095) ?_
 rintro _ _ ⟨rfl,rfl⟩
 refine gK 1 [(28,.bool (!(decide (0<=c.mode/\c.mode<=4095))))] [] ?_
 refine NN (af.dm (p:=0<=c.mode/\c.mode<=4095) (fun _=>by kernel_rfl) (fun Ry=>?_) (fun Ry=>?_))
 ·refine SR (gK 1 [(4,vI 120)] [] ?_)
  refine NN (af.ret (ai.ar ?_))
  exact RT (vI 120) [0,1,2,3,4,5,6,7] (⟨L,by rw [show (fW S c)=(120,S,c) by unfold fW;rw [hab];exact if_neg Ry]<;>exact⟨rfl,rfl⟩⟩)
 refine af.skip (NX (af.seq (af.bT (S:=[pC cb c]) [0,1,2,3,4,5,6,7,8,9,10,11] 10 [6] (by kernel_rfl) (by kernel_rfl) rfl (by kernel_rfl) ?_)))
 refine gR 0 [10,11] [(29,vP f),(30,vP (L.b d)),(34,.string c.name),(38,vI (c.mode))] [0,1,2,3,4,5,6,7,8,9] [(5,a_ 0 cb),(9,a_ 0 cb)] ?_
 refine mL [6] [0,1,2,3,4,5] (Ed S L f m t hI d hd c.name hC.nm c.mode) ?_ (by rintro _ _ ⟨L2,rfl,rfl⟩;rfl)
 rintro _ _ ⟨L2,rfl,rfl⟩
 refine aQ.last rfl rfl ?_
 refine gK 1 [(4,vI ((gT S d c.name c.mode).1))] [] ?_
 refine NL (ai.np (NX (af.ret ?_)))
 exact RT (vI ((gT S d c.name c.mode).1)) [0,1,2,3,4,5,6,7] (⟨L2,by rw [show (fW S c)=((gT S d c.name c.mode).1,(gT S d c.name c.mode).2,c) by unfold fW;rw [hab];exact if_pos Ry]<;>exact⟨rfl,rfl⟩⟩)
theorem Et {β:Bs} (S:aI) (L:HL) (f m t:Nat) (hI:Inv S) (cb:Nat) (c:aB) (hC:fX β c) :
    Spec Tryz.prog β 94 #[vP f,vP cb] ((pA f m t L S)++[pC cb c]) (fun v l=>∃ L2,v=vI (fP S c).1/\l=((pA f m t L2 ((fP S c).2.1))++[.blk cb (aW ((fP S c).2.2)) 48])):=by
 have hX:=hI.hX
 refine Spec.enter Tryz.func94 rfl Tryz.ntmps94 (Nat.le_of_ble_eq_true rfl) (fun R=>?_)
 refine SR (gK 1 [] [] ?_)
 refine NN (af.seq (af.bK (by kernel_rfl) (by kernel_rfl) ?_))
 refine gQ 9 (OX f c) [(4,a_ 6 cb),(8,a_ 6 cb)] ?_
 rcases lQ hI.toInv0 c.handle c.name 192 with ⟨e,hab,hne⟩|⟨d,hab,hd,iU,iM,dN⟩
 ·refine aS.call (f:=123) (args:=#[vP f,vI (c.handle),.string c.name,vI 192]) (d:=(some 17)) (pre:=(pQ f m t S L)) (R:=(oQ m L S cb c R)) (pk:=[0,2,3,1,4,5,6,7]) (iZ:=[0,3,1,2,4,5,6,7]) (v0:=.tuple #[.pointer none,vI (e)]) (fun _=>by kernel_rfl) ((by have h:=eF S L f m t hI c.handle hC.hw c.name hC.nm 192 (β:=β);rw [hab] at h;exact h)) rfl (by kernel_rfl) rfl (by kernel_rfl) (fun _ _ h=>h) ?_
  refine gQ 5 (Lv e) [] ?_
  refine NQ (NX (af.seq (SR ?_)))
  refine gK 2 [(21,.bool (!(decide ((e:Int)=(0:Int)))))] [] ?_
  refine NN (af.dm (p:=(e:Int)=(0:Int)) (fun _=>by kernel_rfl) (fun vr=>?_) (fun vr=>?_))
  ·refine SR (gK 2 [(4,vI (e))] [] ?_)
   refine NN (af.ret (ai.ar ?_))
   exact RT (vI (e)) [0,1,2,3,4,5,6,7] (⟨L,by rw [show (fP S c)=(e,S,c) by unfold fP;rw [hab]]<;>exact⟨rfl,rfl⟩⟩)
  exact absurd vr hne
 have hkd:(obj S.O d).kind=2:=hI.kind hd
 refine aS.call (f:=123) (args:=#[vP f,vI (c.handle),.string c.name,vI 192]) (d:=(some 17)) (pre:=(pQ f m t S L)) (R:=(oQ m L S cb c R)) (pk:=[0,2,3,1,4,5,6,7]) (iZ:=[0,3,1,2,4,5,6,7]) (v0:=.tuple #[vP (L.b d),vI 0]) (fun _=>by kernel_rfl) ((by have h:=eF S L f m t hI c.handle hC.hw c.name hC.nm 192 (β:=β);rw [hab] at h;exact h)) rfl (by kernel_rfl) rfl (by kernel_rfl) (fun _ _ h=>h) ?_
 refine gQ 5 (Gb L d) [] ?_
 refine NQ (NX (af.seq (SR ?_)))
 refine gK 2 [(21,.bool false)] [] ?_
 refine NN (CF (af.skip (NX (af.seq (af.bT (S:=[pC cb c]) [0,1,2,3,4,5,6,7,8,9,10,11] 10 [6] (by kernel_rfl) (by kernel_rfl) rfl (by kernel_rfl) ?_)))))
 refine gR 0 [10,11] (Rx f L d c++[(32,.string c.text)]) [0,1,2,3,4,5,6,7,8,9] [(5,a_ 0 cb),(9,a_ 0 cb)] ?_
 refine mL [6] [0,1,2,3,4,5] (zN S L f m t hI d hd c.name hC.nm c.text hC.tx) ?_ (by rintro _ _ ⟨L2,rfl,rfl⟩;rfl)
 rintro _ _ ⟨L2,rfl,rfl⟩
 refine aQ.last rfl rfl ?_
 refine gK 1 [(4,vI ((eT S d c.name c.text).1))] [] ?_
 refine NL (ai.np (NX (af.ret ?_)))
 exact RT (vI ((eT S d c.name c.text).1)) [0,1,2,3,4,5,6,7] (⟨L2,by rw [show (fP S c)=((eT S d c.name c.text).1,(eT S d c.name c.text).2,c) by unfold fP;rw [hab]]<;>exact⟨rfl,rfl⟩⟩)
theorem Gc {β:Bs} (S:aI) (L:HL) (f m t:Nat) (hI:Inv S) (cb:Nat) (c:aB) (hC:fX β c) :
    Spec Tryz.prog β 96 #[vP f,vP cb] ((pA f m t L S)++[pC cb c]) (fun v l=>∃ L2,v=vI (gD S c).1/\l=((pA f m t L2 ((gD S c).2.1))++[.blk cb (aW ((gD S c).2.2)) 48])):=by
 have hX:=hI.hX
 refine Spec.enter Tryz.func96 rfl Tryz.ntmps96 (Nat.le_of_ble_eq_true rfl) (fun R=>?_)
 refine SR (gK 1 [] [] ?_)
 refine NN (af.seq (af.bK (by kernel_rfl) (by kernel_rfl) ?_))
 refine gQ 9 (OX f c) [(4,a_ 6 cb),(8,a_ 6 cb)] ?_
 rcases lQ hI.toInv0 c.handle c.name 192 with ⟨e,hab,hne⟩|⟨d,hab,hd,iU,iM,dN⟩
 ·refine aS.call (f:=123) (args:=#[vP f,vI (c.handle),.string c.name,vI 192]) (d:=(some 17)) (pre:=(pQ f m t S L)) (R:=(oQ m L S cb c R)) (pk:=[0,2,3,1,4,5,6,7]) (iZ:=[0,3,1,2,4,5,6,7]) (v0:=.tuple #[.pointer none,vI (e)]) (fun _=>by kernel_rfl) ((by have h:=eF S L f m t hI c.handle hC.hw c.name hC.nm 192 (β:=β);rw [hab] at h;exact h)) rfl (by kernel_rfl) rfl (by kernel_rfl) (fun _ _ h=>h) ?_
  refine gQ 5 (Lv e) [] ?_
  refine NQ (NX (af.seq (SR ?_)))
  refine gK 2 [(21,.bool (!(decide ((e:Int)=(0:Int)))))] [] ?_
  refine NN (af.dm (p:=(e:Int)=(0:Int)) (fun _=>by kernel_rfl) (fun vr=>?_) (fun vr=>?_))
  ·refine SR (gK 2 [(4,vI (e))] [] ?_)
   refine NN (af.ret (ai.ar ?_))
   exact RT (vI (e)) [0,1,2,3,4,5,6,7] (⟨L,by rw [show (gD S c)=(e,S,c) by unfold gD;rw [hab]]<;>exact⟨rfl,rfl⟩⟩)
  exact absurd vr hne
 have hkd:(obj S.O d).kind=2:=hI.kind hd
 refine aS.call (f:=123) (args:=#[vP f,vI (c.handle),.string c.name,vI 192]) (d:=(some 17)) (pre:=(pQ f m t S L)) (R:=(oQ m L S cb c R)) (pk:=[0,2,3,1,4,5,6,7]) (iZ:=[0,3,1,2,4,5,6,7]) (v0:=.tuple #[vP (L.b d),vI 0]) (fun _=>by kernel_rfl) ((by have h:=eF S L f m t hI c.handle hC.hw c.name hC.nm 192 (β:=β);rw [hab] at h;exact h)) rfl (by kernel_rfl) rfl (by kernel_rfl) (fun _ _ h=>h) ?_
 refine gQ 5 (Gb L d) [] ?_
 refine NQ (NX (af.seq (SR ?_)))
 refine gK 2 [(21,.bool false)] [] ?_
 refine NN (CF (af.skip (NX (SR (gK 6 (Rx f L d c) [(5,a_ 6 cb)] ?_)))))
 refine gL [0,1,2,3,4,5] (Cq S L f m t hI d hd c.name hC.nm) ?_
 rintro _ _ ⟨L2,rfl,rfl⟩
 refine gK 1 [(4,vI ((ez S d c.name).1))] [] ?_
 refine NN (af.ret ?_)
 exact RT (vI ((ez S d c.name).1)) [0,1,2,3,4,5,6,7] (⟨L2,by rw [show (gD S c)=((ez S d c.name).1,(ez S d c.name).2,c) by unfold gD;rw [hab]]<;>exact⟨rfl,rfl⟩⟩)
theorem G5 {β:Bs} (S:aI) (L:HL) (f m t:Nat) (hI:Inv S) (cb:Nat) (c:aB) (hC:fX β c) :
    Spec Tryz.prog β 102 #[vP f,vP cb] ((pA f m t L S)++[pC cb c]) (fun v l=>∃ L2,v=vI (iy S c).1/\l=((pA f m t L2 ((iy S c).2.1))++[.blk cb (aW ((iy S c).2.2)) 48])):=by
 have hX:=hI.hX
 refine Spec.enter Tryz.func102 rfl Tryz.ntmps102 (Nat.le_of_ble_eq_true rfl) (fun R=>?_)
 refine SR (gK 1 [] [] ?_)
 refine NN (af.seq (af.bK (by kernel_rfl) (by kernel_rfl) ?_))
 refine gQ 9 (OX f c) [(4,a_ 6 cb),(8,a_ 6 cb)] ?_
 rcases lQ hI.toInv0 c.handle c.name 192 with ⟨e,hab,hne⟩|⟨d,hab,hd,iU,iM,dN⟩
 ·refine aS.call (f:=123) (args:=#[vP f,vI (c.handle),.string c.name,vI 192]) (d:=(some 17)) (pre:=(pQ f m t S L)) (R:=(oQ m L S cb c R)) (pk:=[0,2,3,1,4,5,6,7]) (iZ:=[0,3,1,2,4,5,6,7]) (v0:=.tuple #[.pointer none,vI (e)]) (fun _=>by kernel_rfl) ((by have h:=eF S L f m t hI c.handle hC.hw c.name hC.nm 192 (β:=β);rw [hab] at h;exact h)) rfl (by kernel_rfl) rfl (by kernel_rfl) (fun _ _ h=>h) ?_
  refine gQ 5 (Lv e) [] ?_
  refine NQ (NX (af.seq (SR ?_)))
  refine gK 2 [(21,.bool (!(decide ((e:Int)=(0:Int)))))] [] ?_
  refine NN (af.dm (p:=(e:Int)=(0:Int)) (fun _=>by kernel_rfl) (fun vr=>?_) (fun vr=>?_))
  ·refine SR (gK 2 [(4,vI (e))] [] ?_)
   refine NN (af.ret (ai.ar ?_))
   exact RT (vI (e)) [0,1,2,3,4,5,6,7] (⟨L,by rw [show (iy S c)=(e,S,c) by unfold iy;rw [hab]]<;>exact⟨rfl,rfl⟩⟩)
  exact absurd vr hne
 have hkd:(obj S.O d).kind=2:=hI.kind hd
 refine aS.call (f:=123) (args:=#[vP f,vI (c.handle),.string c.name,vI 192]) (d:=(some 17)) (pre:=(pQ f m t S L)) (R:=(oQ m L S cb c R)) (pk:=[0,2,3,1,4,5,6,7]) (iZ:=[0,3,1,2,4,5,6,7]) (v0:=.tuple #[vP (L.b d),vI 0]) (fun _=>by kernel_rfl) ((by have h:=eF S L f m t hI c.handle hC.hw c.name hC.nm 192 (β:=β);rw [hab] at h;exact h)) rfl (by kernel_rfl) rfl (by kernel_rfl) (fun _ _ h=>h) ?_
 refine gQ 5 (Gb L d) [] ?_
 refine NQ (NX (af.seq (SR ?_)))
 refine gK 2 [(21,.bool false)] [] ?_
 refine NN (CF (af.skip (NX (SR (gK 6 (Rx f L d c) [(5,a_ 6 cb)] ?_)))))
 refine gL [0,1,2,3,4,5] (Ee S L f m t hI d hd c.name hC.nm) ?_
 rintro _ _ ⟨L2,rfl,rfl⟩
 refine gK 1 [(4,vI ((eU S d c.name).1))] [] ?_
 refine NN (af.ret ?_)
 exact RT (vI ((eU S d c.name).1)) [0,1,2,3,4,5,6,7] (⟨L2,by rw [show (iy S c)=((eU S d c.name).1,(eU S d c.name).2,c) by unfold iy;rw [hab]]<;>exact⟨rfl,rfl⟩⟩)
theorem Gd {β:Bs} (S:aI) (L:HL) (f m t:Nat) (hI:Inv S) (cb:Nat) (c:aB) (hC:fX β c) :
    Spec Tryz.prog β 103 #[vP f,vP cb] ((pA f m t L S)++[pC cb c]) (fun v l=>∃ L2,v=vI (fL S c).1/\l=((pA f m t L2 ((fL S c).2.1))++[.blk cb (aW ((fL S c).2.2)) 48])):=by
 have hX:=hI.hX
 refine Spec.enter Tryz.func103 rfl Tryz.ntmps103 (Nat.le_of_ble_eq_true rfl) (fun R=>?_)
 refine SR (gK 1 [] [] ?_)
 refine NN (af.seq (af.bK (by kernel_rfl) (by kernel_rfl) ?_))
 refine gQ 9 [(9,vP f),(13,vI (c.handle)),(17,.string c.name)] [(4,a_ 6 cb),(8,a_ 6 cb)] ?_
 rcases lQ hI.toInv0 c.handle c.name 192 with ⟨e,hab,hne⟩|⟨d,hab,hd,iU,iM,dN⟩
 ·refine aS.call (f:=123) (args:=#[vP f,vI (c.handle),.string c.name,vI 192]) (d:=(some 18)) (pre:=(pQ f m t S L)) (R:=(oQ m L S cb c R)) (pk:=[0,2,3,1,4,5,6,7]) (iZ:=[0,3,1,2,4,5,6,7]) (v0:=.tuple #[.pointer none,vI (e)]) (fun _=>by kernel_rfl) ((by have h:=eF S L f m t hI c.handle hC.hw c.name hC.nm 192 (β:=β);rw [hab] at h;exact h)) rfl (by kernel_rfl) rfl (by kernel_rfl) (fun _ _ h=>h) ?_
  refine gQ 5 (Lv e) [] ?_
  refine NQ (NX (af.seq (SR ?_)))
  refine gK 2 [(22,.bool (!(decide ((e:Int)=(0:Int)))))] [] ?_
  refine NN (af.dm (p:=(e:Int)=(0:Int)) (fun _=>by kernel_rfl) (fun wV=>?_) (fun wV=>?_))
  ·refine SR (gK 2 [(4,vI (e))] [] ?_)
   refine NN (af.ret (ai.ar ?_))
   exact RT (vI (e)) [0,1,2,3,4,5,6,7] (⟨L,by rw [show (fL S c)=(e,S,c) by unfold fL;rw [hab]]<;>exact⟨rfl,rfl⟩⟩)
  exact absurd wV hne
 have hkd:(obj S.O d).kind=2:=hI.kind hd
 refine aS.call (f:=123) (args:=#[vP f,vI (c.handle),.string c.name,vI 192]) (d:=(some 18)) (pre:=(pQ f m t S L)) (R:=(oQ m L S cb c R)) (pk:=[0,2,3,1,4,5,6,7]) (iZ:=[0,3,1,2,4,5,6,7]) (v0:=.tuple #[vP (L.b d),vI 0]) (fun _=>by kernel_rfl) ((by have h:=eF S L f m t hI c.handle hC.hw c.name hC.nm 192 (β:=β);rw [hab] at h;exact h)) rfl (by kernel_rfl) rfl (by kernel_rfl) (fun _ _ h=>h) ?_
 refine gQ 5 (Gb L d) [] ?_
 refine NQ (NX (af.seq (SR ?_)))
 refine gK 2 [(22,.bool false)] [] ?_
 refine NN (CF (af.skip (NX (af.seq (af.bK (by kernel_rfl) (by kernel_rfl) ?_)))))
 refine gQ 9 [(25,vP f),(29,vI (c.other)),(33,.string c.text)] [(4,a_ 6 cb),(8,a_ 6 cb)] ?_
 rcases lQ hI.toInv0 c.other c.text 192 with ⟨e2,hab2,Ge⟩|⟨to,hab2,hd2,Rz,Nt,UU⟩
 ·refine aS.call (f:=123) (args:=#[vP f,vI (c.other),.string c.text,vI 192]) (d:=(some 34)) (pre:=(pQ f m t S L)) (R:=(oQ m L S cb c R)) (pk:=[0,2,3,1,4,5,6,7]) (iZ:=[0,3,1,2,4,5,6,7]) (v0:=.tuple #[.pointer none,vI (e2)]) (fun _=>by kernel_rfl) ((by have h:=eF S L f m t hI c.other hC.ow c.text hC.tx 192 (β:=β);rw [hab2] at h;exact h)) rfl (by kernel_rfl) rfl (by kernel_rfl) (fun _ _ h=>h) ?_
  refine gQ 5 [(6,vI (e2)),(7,.pointer none)] [] ?_
  refine NQ (NX (af.seq (SR ?_)))
  refine gK 2 [(38,.bool (!(decide ((e2:Int)=(0:Int)))))] [] ?_
  refine NN (af.dm (p:=(e2:Int)=(0:Int)) (fun _=>by kernel_rfl) (fun BF=>?_) (fun BF=>?_))
  ·refine SR (gK 2 [(4,vI (e2))] [] ?_)
   refine NN (af.ret (ai.ar ?_))
   exact RT (vI (e2)) [0,1,2,3,4,5,6,7] (⟨L,by rw [show (fL S c)=(e2,S,c) by unfold fL;rw [hab];simp only;rw [hab2]]<;>exact⟨rfl,rfl⟩⟩)
  exact absurd BF Ge
 have eH:(obj S.O to).kind=2:=hI.kind hd2
 refine aS.call (f:=123) (args:=#[vP f,vI (c.other),.string c.text,vI 192]) (d:=(some 34)) (pre:=(pQ f m t S L)) (R:=(oQ m L S cb c R)) (pk:=[0,2,3,1,4,5,6,7]) (iZ:=[0,3,1,2,4,5,6,7]) (v0:=.tuple #[vP (L.b to),vI 0]) (fun _=>by kernel_rfl) ((by have h:=eF S L f m t hI c.other hC.ow c.text hC.tx 192 (β:=β);rw [hab2] at h;exact h)) rfl (by kernel_rfl) rfl (by kernel_rfl) (fun _ _ h=>h) ?_
 refine gQ 5 [(6,vI 0),(7,vP (L.b to))] [] ?_
 refine NQ (NX (af.seq (SR ?_)))
 refine gK 2 [(38,.bool false)] [] ?_
 refine NN (CF (af.skip (NX (af.seq (af.bT (S:=[pC cb c]) [0,1,2,3,4,5,6,7,8,9,10,11,12] 11 [6] (by kernel_rfl) (by kernel_rfl) rfl (by kernel_rfl) ?_)))))
 refine gR 0 [11,12] [(40,vP f),(41,vP (L.b d)),(45,.string c.name),(46,vP (L.b to)),(50,.string c.text)] [0,1,2,3,4,5,6,7,8,9,10] [(5,a_ 0 cb),(10,a_ 0 cb)] ?_
 refine mL [6] [0,1,2,3,4,5] (Cr S L f m t hI d hd c.name hC.nm to hd2 c.text hC.tx) ?_ (by rintro _ _ ⟨L2,rfl,rfl⟩;rfl)
 rintro _ _ ⟨L2,rfl,rfl⟩
 refine aQ.last rfl rfl ?_
 refine gK 1 [(4,vI ((bL S d c.name to c.text).1))] [] ?_
 refine NL (ai.np (NX (af.ret ?_)))
 exact RT (vI ((bL S d c.name to c.text).1)) [0,1,2,3,4,5,6,7] (⟨L2,by rw [show (fL S c)=((bL S d c.name to c.text).1,(bL S d c.name to c.text).2,c) by unfold fL;rw [hab];simp only;rw [hab2]]<;>exact⟨rfl,rfl⟩⟩)
end
section
open Go.RowKit
section order
variable {P:Program} {ops:Array Oper} {Q Q':Post} {n:Nat} {S:World->Prop}
def j8 (P:Program) (ops:Array Oper) (Q:Post) (S:World->Prop):List (Bool×Nat)->Act->World->Prop
  | [],a,w=>Q .normal a w
  | (false,i)::l,a,w=>wpOp P ops Q i (fun a' w'=>(l=[]\/S w')/\j8 P ops Q S l a' w') a w
  | (true,i)::l,a,w=>∃ o v,ops[i]?=some o/\YieldsIf P ops S o v a/\j8 P ops Q S l (a.put o.dst v) w
def zu (ops:Array Oper) (n:Nat):List (Bool×Nat)->Array Bool->Bool
  | [],listed=>(Region.ready .any ops listed).isEmpty
  | (false,i)::l,listed=>(Region.ready .any ops listed == [i]) && (!l.isEmpty || i == n) && zu ops n l (listed.setIfInBounds i true)
  | (true,i)::l,listed=>decide (i < n) && Region.free .any ops listed i && (Region.ready .any ops listed).contains i && zu ops n l (listed.setIfInBounds i true)
theorem AY (hsel:Region.noSelect ops=true) (oZ:Region.sinkB .any ops n=true):∀ (l:List (Bool×Nat)) (listed:Array Bool) (a:Act) (w:World),zu ops n l listed=true->Closed ops listed->(l=[]\/S w)->j8 P ops (NP Q) S l a w->iq P ops (NP Q) n S l.length listed a w
  | [],listed,a,w,hb,_,_,h=>⟨List.isEmpty_iff.1 hb,h⟩
  | (false,i)::l,listed,a,w,hb,hc,_,h=>by
    unfold zu at hb
    simp only [Bool.and_eq_true,beq_iff_eq] at hb
    obtain⟨⟨h1,h2⟩,h3⟩:=hb
    refine⟨fun h0=>(by rw [h1] at h0;cases h0),fun j hj=>?_⟩
    have hr:=hj
    rw [h1] at hj
    have hj:j=i:=by simpa using hj
    subst hj
    refine wpOp_mono (fun a' w' h4=>⟨?_,AY hsel oZ l _ a' w' h3 (hc.set hr) h4.1 h4.2⟩) h
    rcases h4.1 with h5|h5
    ·subst h5;exact .inl (by simpa using h2)
    exact .inr h5
  | (true,i)::l,listed,a,w,hb,hc,hS,h=>by
    unfold zu at hb
    simp only [Bool.and_eq_true,decide_eq_true_iff] at hb
    obtain⟨⟨⟨h1,h2⟩,h3⟩,h4⟩:=hb
    obtain⟨o,v,ho,hy,hk⟩:=h
    have hS:S w:=hS.resolve_left (by simp)
    have hr:i∈Region.ready .any ops listed:=by simpa using h3
    exact sH ho hsel oZ h1 l.length listed a w hc (Region.free_spec ho h2) hr hy hS (AY hsel oZ l _ _ w h4 (hc.set hr) (.inr hS) hk)
def Ig (ops:Array Oper) (l:List (Bool×Nat)):Bool:=
  Region.noSelect ops && Region.sinkB .any ops (ops.size - 1) && (l.length == ops.size) && zu ops (ops.size - 1) l (Array.replicate ops.size false)
def nY (ops:Array Oper) (i:Nat):Array Oper:=⟨ops.toList.take (i+1)⟩
def gB (ops:Array Oper) (i:Nat):Bool:=match ops[i]? with
  | some o=>match o.guard with
    | none=>true
    | some (j,_)=>decide (j<=i)
  | none=>false
theorem Lw {i j:Nat} (h:j<=i):(nY ops i)[j]?=ops[j]?:=by
  unfold nY
  obtain⟨l⟩:=ops
  simp only [List.getElem?_toArray,List.getElem?_take]
  rw [if_pos (by omega)]
theorem mP {i:Nat} {a:Act} {w:World} {K:Act->World->Prop} (hg:gB ops i=true) (h:wpList P (nY ops i) (NP fun _ a w=>K a w) ((nY ops i).toList.drop i) a w):wpOp P ops (NP Q) i K a w:=by
  unfold gB at hg
  split at hg
  ·rename_i o ho
   have hd:(nY ops i).toList.drop i=[o]:=by
     have hl:ops.toList[i]?=some o:=by simpa using ho
     have hi:i < ops.toList.length:=bE hl
     show (ops.toList.take (i+1)).drop i=[o]
     rw [List.drop_take]
     rw [show i+1 - i=1 by omega,List.drop_eq_getElem_cons hi]
     rw [List.getElem?_eq_getElem hi] at hl
     cases hl
     rfl
   have hw:Region.wanted o (yielded (nY ops i) a.tmps)=Region.wanted o (yielded ops a.tmps):=by
     unfold Region.wanted
     split at hg
     ·rename_i hn;rw [hn]
     rename_i j b hn
     rw [hn]
     have hj:j<=i:=by simpa using hg
     have:yielded (nY ops i) a.tmps j=yielded ops a.tmps j:=by
       unfold yielded
       rw [Lw hj]
     simp only [this]
   rw [hd] at h
   unfold wpOp
   simp only [ho]
   unfold wpList at h
   rw [hw] at h
   split at h
   ·rename_i hw
    rw [if_pos hw]
    rcases h with h|⟨_,h⟩
    ·exact .inl (EB (Oper.wp_mono (fun a w h=>h) h))
    exact (oW h).elim
   rename_i hw
   rw [if_neg hw]
   exact h
  cases hg
end order
theorem lH {P:Program} {ops:Array Oper} {Q Q':Post} (hq:∀ a w,Q .normal a w->Q' .normal a w):∀ (l:List Oper) {a:Act} {w:World},wpList P ops (NP Q) l a w->wpList P ops (NP Q') l a w
  | [],_,_,h=>hq _ _ h
  | o::r,a,w,h=>by
    unfold wpList at *
    split
    ·rename_i hw
     rw [if_pos hw] at h
     rcases h with h|⟨_,h⟩
     ·exact .inl (EB (Oper.wp_mono (fun a w h=>lH hq r h) h))
     exact (oW h).elim
    rename_i hw
    rw [if_neg hw] at h
    exact lH hq r h
section mix
variable {P:Program} {β:Bs} {N:Nat} {ops:Array Oper} {S:List HP} {l l':List (Bool×Nat)} {fr fr':Fr} {hps:List HP} {Q:Post} {bG:List Prop} {i:Nat} {pk:List Nat}
def fk (P:Program) (β:Bs) (N:Nat) (ops:Array Oper) (S:List HP) (l:List (Bool×Nat)) (fr:Fr) (hps:List HP) (Q:Post):Prop:=
  ∀ junk w,Sat β hps w->j8 P ops (NP Q) (Sat β S) l (cx N fr junk) w
theorem af.iY {id:Nat} (l:List (Bool×Nat)) (pk:List Nat) (hm:P.follows .mixedOrders=true) (hB:Ig ops l=true) (hn:bC pk=true) (hp:bU hps pk=some S) (h:fk P β N ops S l fr hps Q):af P β N (.region id ops true) fr hps Q:=by
  intro junk w hS
  unfold Ig at hB
  simp only [Bool.and_eq_true,beq_iff_eq] at hB
  obtain⟨⟨⟨h1,h2⟩,h3⟩,h4⟩:=hB
  have dM:=hS.drewN 1
  have h5:=AY (Q:=Q) h1 h2 l _ _ _ h4 (fun j oj _ hl=>by simp [Array.getD_eq_getD_getElem?,Array.getElem?_replicate] at hl;split at hl<;>simp at hl) (.inr (dM.pick hn hp)) (h junk (w.drewN 1) dM)
  rw [h3] at h5
  refine Code.wp_mono (fun e a w q=>?_) (wp_region_any hm (oY _ _ _ _ h5))
  cases e with
  | normal=>exact q
  | exit id=>exact q.elim
  | goto l=>exact q.elim
  | ret=>exact q.elim
  | panic ch=>exact q.elim
  | outgrown=>exact q.elim
def tj (P:Program) (β:Bs) (N:Nat) (junk:Nat->Value) (ops:Array Oper):List OH->List Nat->Fr->SS->Option (Fr×SS)
  | [],[],fr,S=>some (fr,S)
  | h::hs,i::is,fr,S=>
    match ops[i]? with
    | some o=>
      match Region.wanted o (yF ops N fr junk) with
      | true=>
        match sE P β 0 true (dz N fr junk) o h S with
        | some (v,S')=>
          match xk v with
          | true=>tj P β N junk ops hs is (dO fr o.dst v) S'
          | false=>none
        | none=>none
      | false=>tj P β N junk ops hs is (dO fr o.dst undef) S
    | none=>none
  | _,_,_,_=>none
def Bb (P:Program) (β:Bs) (N:Nat) (junk:Nat->Value) (ops:Array Oper) (hs:List OH) (is:List Nat) (fr:Fr) (S:List HP) (idx:List Nat):Option (Fr×List Prop):=
  match tj P β N junk ops hs is fr ⟨[],S,[],true⟩ with
  | some (fr',S')=>some (jg fr' junk idx,S'.bG)
  | none=>none
theorem wC {junk:Nat->Value}:∀ {hs:List OH} {is:List Nat} {fr fr':Fr} {S S':SS},tj P β N junk ops hs is fr S=some (fr',S')->∀ p,p∈S.bG->p∈S'.bG
  | [],[],fr,fr',S,S',h,p,hp=>by cases h;exact hp
  | h::hs,i::is,fr,fr',S,S',hr,p,hp=>by
    unfold tj at hr
    repeat' split at hr
    all_goals first|(cases hr;done)|skip
    ·rename_i h0 _ _
     exact wC hr p (zV h0 p hp)
    exact wC hr p hp
  | [],_::_,_,_,_,_,h,_,_=>by cases h
  | _::_,[],_,_,_,_,h,_,_=>by cases h
theorem tq {junk:Nat->Value} {w:World}:∀ {hs:List OH} {is:List Nat} {fr fr':Fr} {T T':SS},tj P β N junk ops hs is fr T=some (fr',T')->(∀ p,p∈T'.bG->p)->T.used=true->T.hps=S →
    j8 P ops (NP Q) (Sat β S) l (cx N fr' junk) w->j8 P ops (NP Q) (Sat β S) (is.map (fun i=>(true,i))++l) (cx N fr junk) w
  | [],[],fr,fr',T,T',h,ho,hu,hT,hK=>by cases h;exact hK
  | h::hs,i::is,fr,fr',T,T',hr,ho,hu,hT,hK=>by
    unfold tj at hr
    repeat' split at hr
    all_goals first|(cases hr;done)|skip
    ·rename_i o hget _ JN _ v T1 h0 _ hv
     obtain⟨e1,e2⟩:=uG h0
     rw [List.map_cons,List.cons_append]
     unfold j8
     refine⟨o,v,hget,.inl ⟨by rw [fA];exact JN,fun w' dM=>?_⟩,?_⟩
     ·rw [eS]
      obtain⟨w2,h1,_,_,h4⟩:=mU h0 (fun p hp=>ho p (wC hr p hp)) (by rw [hT];exact dM) (fun e=>by rw [hu] at e;cases e)
      obtain⟨ew,_⟩:=h4 rfl
      rw [ew] at h1
      rcases h1 with h1|⟨h1,_⟩
      ·exact h1
      exact absurd h1 (tH hv)
     rw [eM]
     exact tq hr ho (e2.trans hu) (e1.trans hT) hK
    rename_i o hget _ JN
    rw [List.map_cons,List.cons_append]
    unfold j8
    refine⟨o,undef,hget,.inr ⟨by rw [fA];exact JN,rfl⟩,?_⟩
    rw [eM]
    exact tq hr ho hu hT hK
  | [],_::_,_,_,_,_,h,_,_,_,_=>by cases h
  | _::_,[],_,_,_,_,h,_,_,_,_=>by cases h
theorem fk.reads (is:List Nat) (hs:List OH) (idx:List Nat) (h:∀ junk,Bb P β N junk ops hs is fr S idx=some (fr',bG)) (ho:j9 bG) (hl:l'=is.map (fun i=>(true,i))++l) (K:fk P β N ops S l fr' hps Q):fk P β N ops S l' fr hps Q:=by
  intro junk w hS
  subst hl
  have h0:=h junk
  unfold Bb at h0
  split at h0
  ·rename_i mg S1 h1
   cases h0
   have hK:=K (lk mg junk) w hS
   rw [← jE] at hK
   exact tq h1 (fun p hp=>ho.mem hp) rfl rfl hK
  cases h0
theorem gG (l2:List (Bool×Nat)) (pJ:Fr) (is:List Nat) (os:List (Nat×OP)) (K:fk P β N ops S l2 pJ hps Q)
    (h:∀ junk,Bb P β N junk ops (jG (ig is.length os 0)) is fr S (bW pJ)=some (pJ,owed (ig is.length os 0)):=by intro _;kernel_rfl) (hl:l'=is.map (fun i=>(true,i))++l2:=by rfl):fk P β N ops S l' fr hps Q:=
  fk.reads is (jG (ig is.length os 0)) (bW pJ) h (pX _) hl K
theorem fk.cut {ι:Type} {fr':ι->Fr} {hp':ι->List HP} (pk:List Nat) (hg:gB ops i=true) (h:aj P β N (nY ops i) i fr hps (NP (nI β N fr' hp'))) (hn:bC pk=true) (hp:∀ j,bU (hp' j) pk=some S)
    (K:∀ j,fk P β N ops S l (fr' j) (hp' j) Q):fk P β N ops S ((false,i)::l) fr hps Q:=by
  intro junk w hS
  unfold j8
  refine mP hg (lH (Q':=_) (fun a w ⟨j,fO,ha,dM⟩=>?_) _ (h junk w hS))
  subst ha
  exact⟨.inr (dM.pick hn (hp j)),K j fO w dM⟩
theorem fk.last (hg:gB ops i=true) (h:aj P β N (nY ops i) i fr hps (NP Q)):fk P β N ops S [(false,i)] fr hps Q:=by
  intro junk w hS
  unfold j8
  exact mP hg (lH (Q':=_) (fun a w hq=>⟨.inl rfl,by unfold j8;exact hq⟩) _ (h junk w hS))
end mix
end
section
open Go.RowKit Go.Maps bH aE
attribute [local irreducible] aj aS af ai
abbrev Ih (cb:Nat) (c:aB):=(pC cb { c with other:=0,mode:=0,uid:=0,gid:=0,sec:=0,nano:=0 }:HP)
abbrev Ii (cb:Nat) (c:aB) (S:aI) (tk:Nat):=(pC cb { c with other:=0,mode:=0,uid:=0,gid:=0,sec:=0,nano:=0,answer:=(obj S.O tk).id }:HP)
abbrev Tx (cb:Nat) (c:aB) (S:aI) (tk:Nat):=(pC cb { c with other:=1,mode:=(obj S.O tk).mode,uid:=(obj S.O tk).uid,gid:=0,sec:=0,nano:=0,answer:=(obj S.O tk).id }:HP)
abbrev Ty (cb:Nat) (c:aB) (S:aI) (tk:Nat):=(pC cb { c with other:=1,mode:=(obj S.O tk).mode,uid:=(obj S.O tk).uid,gid:=(obj S.O tk).gid,sec:=0,nano:=0,answer:=(obj S.O tk).id }:HP)
abbrev Tz (cb:Nat) (c:aB) (S:aI) (tk:Nat):=(pC cb { c with other:=2,mode:=(obj S.O tk).mode,uid:=(obj S.O tk).uid,gid:=0,sec:=0,nano:=0,answer:=(obj S.O tk).id }:HP)
abbrev TA (cb:Nat) (c:aB) (S:aI) (tk:Nat):=(pC cb { c with other:=2,mode:=(obj S.O tk).mode,uid:=(obj S.O tk).uid,gid:=(obj S.O tk).gid,sec:=0,nano:=0,answer:=(obj S.O tk).id }:HP)
abbrev TB (cb:Nat) (c:aB) (S:aI) (tk:Nat):=(pC cb { c with other:=3,mode:=(obj S.O tk).mode,uid:=(obj S.O tk).uid,gid:=0,sec:=0,nano:=0,answer:=(obj S.O tk).id }:HP)
abbrev TD (cb:Nat) (c:aB) (S:aI) (tk:Nat):=(pC cb { c with other:=3,mode:=(obj S.O tk).mode,uid:=(obj S.O tk).uid,gid:=(obj S.O tk).gid,sec:=0,nano:=0,answer:=(obj S.O tk).id }:HP)
abbrev mw (S:aI) (tk:Nat):=([(44,vI ((obj S.O tk).uid)),(48,vI ((obj S.O tk).gid)),(52,.agg #[vI ((obj S.O tk).sec),vI ((obj S.O tk).nano)])]:Fr)
abbrev Nu (cb:Nat) (S:aI) (tk:Nat):=([(25,vP cb),(26,vP cb),(27,vP cb),(28,vP cb),(29,vP cb),(30,vP cb),(34,vI ((obj S.O tk).id))]:Fr)
abbrev Dr (cb:Nat) (S:aI) (tk:Nat):=([(30,vP cb),(48,vI ((obj S.O tk).gid)),(52,.agg #[vI ((obj S.O tk).sec),vI ((obj S.O tk).nano)])]:Fr)
abbrev ru (cb:Nat):=([(27,vP cb),(28,vP cb),(29,vP cb),(30,vP cb)]:Fr)
abbrev Nv (S:aI) (tk:Nat):=([(40,vI ((obj S.O tk).mode)),(44,vI ((obj S.O tk).uid)),(48,vI ((obj S.O tk).gid)),(52,.agg #[vI ((obj S.O tk).sec),vI ((obj S.O tk).nano)])]:Fr)
abbrev rz (f:Nat) (m:Nat) (t) (S:aI) (L:HL) (cb:Nat) (c) (R:cE):=([pF f m t S.X,pI m L S.idx,pO S.O L,pD S.O L,pE S.O L,pC cb c,.abs R]:List HP)
abbrev Ds:=([(2,vI 0),(6,vI 0),(7,vI 0),(8,vI 0),(9,vI 0),(10,vI 0)]:Fr)
abbrev Dt (t)(c:aB):=([(11,vP t),(15,vI (c.handle))]:Fr)
abbrev Du (cb:Nat) (S:aI) (tk:Nat):=([(28,vP cb),(29,vP cb),(30,vP cb),(40,vI ((obj S.O tk).mode))]:Fr)
abbrev yu (L:HL) (to:Nat) (c:aB):=([(61,.map (some (L.m to))),(65,.string c.text)]:Fr)
abbrev Nw (S:aI) (tk:Nat) (cb:Nat):=([(52,.agg #[vI ((obj S.O tk).sec),vI ((obj S.O tk).nano)]),(64,.pointer (some ⟨cb,9,none⟩))]:Fr)
abbrev JO (L:HL) (tk:Nat):=([(5,.iface 129 (vP (L.b tk))),(6,vI 0)]:Fr)
abbrev JQ (L:HL) (tk:Nat):=([(5,.iface 135 (vP (L.b tk))),(6,vI 0)]:Fr)
abbrev Nx (t)(c:aB):=([(13,vP t),(17,vI (c.handle))]:Fr)
abbrev Ny (S:aI) (tk:Nat):=([(9,vI ((obj S.O tk).sec)),(10,vI ((obj S.O tk).nano))]:Fr)
theorem JR {β:Bs} (S:aI) (L:HL) (f m t:Nat) (hI:Inv S) (cb:Nat) (c:aB) (hC:fX β c) :
    Spec Tryz.prog β 95 #[vP f,vP cb] ((pA f m t L S)++[pC cb c]) (fun v l=>∃ L2,v=vI (cP S c).1/\l=((pA f m t L2 ((cP S c).2.1))++[.blk cb (aW ((cP S c).2.2)) 48])):=by
 have hX:=hI.hX
 refine Spec.enter Tryz.func95 rfl Tryz.ntmps95 (Nat.le_of_ble_eq_true rfl) (fun R=>?_)
 refine SR (gK 1 [] [] ?_)
 refine NN (af.seq (af.bK (by kernel_rfl) (by kernel_rfl) ?_))
 refine gQ 9 [(10,vP f),(14,vI (c.handle)),(18,.string c.name)] [(4,a_ 6 cb),(8,a_ 6 cb)] ?_
 rcases lQ hI.toInv0 c.handle c.name 64 with ⟨e,hab,hne⟩|⟨d,hab,hd,iU,iM,dN⟩
 ·refine aS.call (f:=123) (args:=#[vP f,vI (c.handle),.string c.name,vI 64]) (d:=(some 19)) (pre:=(pQ f m t S L)) (R:=(oQ m L S cb c R)) (pk:=[0,2,3,1,4,5,6,7]) (iZ:=[0,3,1,2,4,5,6,7]) (v0:=.tuple #[.pointer none,vI (e)]) (fun _=>by kernel_rfl) ((by have h:=eF S L f m t hI c.handle hC.hw c.name hC.nm 64 (β:=β);rw [hab] at h;exact h)) rfl (by kernel_rfl) rfl (by kernel_rfl) (fun _ _ h=>h) ?_
  refine gQ 5 [(5,.pointer none),(6,vI (e))] [] ?_
  refine NQ (NX (af.seq (SR ?_)))
  refine gK 2 [(23,.bool (!(decide ((e:Int)=(0:Int)))))] [] ?_
  refine NN (af.dm (p:=(e:Int)=(0:Int)) (fun _=>by kernel_rfl) (fun h23=>?_) (fun h23=>?_))
  ·refine SR (gK 2 [(4,vI (e))] [] ?_)
   refine NN (af.ret (ai.ar ?_))
   exact RT (vI (e)) [0,1,2,3,4,5,6,7] (⟨L,by rw [show (cP S c)=(e,S,c) by unfold cP;rw [hab]]<;>exact⟨rfl,rfl⟩⟩)
  exact absurd h23 hne
 have hkd:(obj S.O d).kind=2:=hI.kind hd
 refine aS.call (f:=123) (args:=#[vP f,vI (c.handle),.string c.name,vI 64]) (d:=(some 19)) (pre:=(pQ f m t S L)) (R:=(oQ m L S cb c R)) (pk:=[0,2,3,1,4,5,6,7]) (iZ:=[0,3,1,2,4,5,6,7]) (v0:=.tuple #[vP (L.b d),vI 0]) (fun _=>by kernel_rfl) ((by have h:=eF S L f m t hI c.handle hC.hw c.name hC.nm 64 (β:=β);rw [hab] at h;exact h)) rfl (by kernel_rfl) rfl (by kernel_rfl) (fun _ _ h=>h) ?_
 refine gQ 5 (Gb L d) [] ?_
 refine NQ (NX (af.seq (SR ?_)))
 refine gK 2 [(23,.bool false)] [] ?_
 refine NN (CF (af.skip (NX (af.seq (af.bK (by kernel_rfl) (by kernel_rfl) ?_)))))
 refine gQ 9 [(26,vP f),(30,vI (c.other)),(34,.string c.text)] [(4,a_ 6 cb),(8,a_ 6 cb)] ?_
 rcases lQ hI.toInv0 c.other c.text 192 with ⟨e2,hab2,Ge⟩|⟨to,hab2,hd2,Rz,Nt,UU⟩
 ·refine aS.call (f:=123) (args:=#[vP f,vI (c.other),.string c.text,vI 192]) (d:=(some 35)) (pre:=(pQ f m t S L)) (R:=(oQ m L S cb c R)) (pk:=[0,2,3,1,4,5,6,7]) (iZ:=[0,3,1,2,4,5,6,7]) (v0:=.tuple #[.pointer none,vI (e2)]) (fun _=>by kernel_rfl) ((by have h:=eF S L f m t hI c.other hC.ow c.text hC.tx 192 (β:=β);rw [hab2] at h;exact h)) rfl (by kernel_rfl) rfl (by kernel_rfl) (fun _ _ h=>h) ?_
  refine gQ 5 [(6,vI (e2)),(7,.pointer none)] [] ?_
  refine NQ (NX (af.seq (SR ?_)))
  refine gK 2 [(39,.bool (!(decide ((e2:Int)=(0:Int)))))] [] ?_
  refine NN (af.dm (p:=(e2:Int)=(0:Int)) (fun _=>by kernel_rfl) (fun ji=>?_) (fun ji=>?_))
  ·refine SR (gK 2 [(4,vI (e2))] [] ?_)
   refine NN (af.ret (ai.ar ?_))
   exact RT (vI (e2)) [0,1,2,3,4,5,6,7] (⟨L,by rw [show (cP S c)=(e2,S,c) by unfold cP;rw [hab];simp only;rw [hab2]]<;>exact⟨rfl,rfl⟩⟩)
  exact absurd ji Ge
 have eH:(obj S.O to).kind=2:=hI.kind hd2
 refine aS.call (f:=123) (args:=#[vP f,vI (c.other),.string c.text,vI 192]) (d:=(some 35)) (pre:=(pQ f m t S L)) (R:=(oQ m L S cb c R)) (pk:=[0,2,3,1,4,5,6,7]) (iZ:=[0,3,1,2,4,5,6,7]) (v0:=.tuple #[vP (L.b to),vI 0]) (fun _=>by kernel_rfl) ((by have h:=eF S L f m t hI c.other hC.ow c.text hC.tx 192 (β:=β);rw [hab2] at h;exact h)) rfl (by kernel_rfl) rfl (by kernel_rfl) (fun _ _ h=>h) ?_
 refine gQ 5 [(6,vI 0),(7,vP (L.b to))] [] ?_
 refine NQ (NX (af.seq (SR ?_)))
 refine gK 2 [(39,.bool false)] [] ?_
 refine NN (CF (af.skip (NX (af.seq ?_))))
 have hel:(obj S.O d).ah.length<=8192:=hI.gi hd
 have S8:=hC.nm
 rcases hI.mq hd c.name with hlk|⟨tk,hlk,hlv⟩|⟨tk,hlk,hlv⟩|⟨tk,hlk,hlv⟩
 ·refine af.bK (by kernel_rfl) (by kernel_rfl) ?_
  refine gQ 8 [(44,.map (some (L.m d))),(48,.string c.name)] [(3,v_ 3 (bD L hkd)),(7,a_ 6 cb)] ?_
  refine rJ 5 hkd hlk ?_
  refine gQ 1 [(8,.nilIface)] [] ?_
  refine NQ (NX (af.seq (af.block (SR ?_))))
  refine gK 3 [(50,.bool true)] [] ?_
  refine NN (CT (SR (gK 1 [(4,vI 170)] [] ?_)))
  refine NN (af.ret (ai.aG (ai.ar ?_)))
  exact RT (vI 170) [0,1,2,3,4,5,6,7] (⟨L,by rw [show (cP S c)=(170,S,c) by unfold cP;rw [hab];simp only;rw [hab2];simp only;rw [show (fK S d c.name to c.text)=(170,S) by unfold fK;rw [hlk]]]<;>exact⟨rfl,rfl⟩⟩)
 ·have hkt:(obj S.O tk).kind=1:=hI.kind hlv
  refine af.bK (by kernel_rfl) (by kernel_rfl) ?_
  refine gQ 8 [(44,.map (some (L.m d))),(48,.string c.name)] [(3,v_ 3 (bD L hkd)),(7,a_ 6 cb)] ?_
  refine rJ 5 hkd hlk ?_
  refine gQ 1 [(8,.iface 129 (vP (L.b tk)))] [] ?_
  refine NQ (NX (af.seq (af.block (SR ?_))))
  refine gK 3 [(50,.bool false)] [] ?_
  refine NN (CF (SR (gK 1 [(54,.iface 129 (vP (L.b tk)))] [] ?_)))
  refine gL [] (mJ (vP (L.b tk))) ?_
  rintro _ _ ⟨rfl,rfl⟩
  refine gK 2 [(53,.bool false)] [] ?_
  refine NN (CF (af.seq ?_))
  have Bc:(obj S.O to).ah.length<=8192:=hI.gi hd2
  have Lx:=hC.tx
  rcases hI.mq hd2 c.text with bw|⟨ok,bw,eP⟩|⟨ok,bw,eP⟩|⟨ok,bw,eP⟩
  ·refine af.bK (by kernel_rfl) (by kernel_rfl) ?_
   refine gQ 8 (yu L to c) [(3,v_ 3 (bD L eH)),(7,a_ 6 cb)] ?_
   refine rJ 5 eH bw ?_
   refine gQ 2 [(57,.bool false)] [] ?_
   refine NQ (NX ?_)
   refine CF (SR (gK 1 [(69,vP f)] [] ?_))
   refine gL [0] (uy S.X f m t) ?_
   rintro _ _ ⟨rfl,rfl⟩
   refine gK 2 [(68,.bool (!(decide (S.X.ah < 8192))))] [] ?_
   refine NN (af.dm (p:=S.X.ah < 8192) (fun _=>by kernel_rfl) (fun h68=>?_) (fun h68=>?_))
   ·refine SR (gK 1 [(4,vI 177)] [] ?_)
    refine NN (af.ret (ai.aG (ai.ar ?_)))
    exact RT (vI 177) [0,1,2,3,4,5,6,7] (⟨L,by rw [show (cP S c)=(177,S,c) by unfold cP;rw [hab];simp only;rw [hab2];simp only;rw [show (fK S d c.name to c.text)=(177,S) by unfold fK;rw [hlk];exact (if_neg (by simp)).trans ((if_pos bw).trans (if_neg h68))]]<;>exact⟨rfl,rfl⟩⟩)
   refine af.skip (ai.aJ (NX (SR ?_)))
   refine gK 7 [(72,vP f),(73,vP (L.b to)),(77,.string c.text),(78,.iface 129 (vP (L.b tk)))] [(5,a_ 6 cb)] ?_
   refine gL [0,3,5] (iE S.X f m t hX S.O L to eH c.text hC.tx bw (by omega) ⟨tk,1⟩ hkt (by simp) (by have:=hI.lb hlv;simp only at this ⊢;omega)) ?_
   rintro _ _ ⟨rfl,rfl⟩
   refine NS (aj.dG [(5,.abs (ax (bN (di S.X S.O to c.text ⟨tk,1⟩) L)))] (fun w hS=>by rw [show bN (di S.X S.O to c.text ⟨tk,1⟩) L=bN S.O L from gZ];exact hS) ?_)
   refine gK 1 [(4,vI 0)] [] ?_
   refine NN (af.ret ?_)
   exact RT (vI 0) [0,3,4,1,5,2,6,7] (⟨L,by rw [show (cP S c)=(0,{ S with X:={ S.X with ah:=S.X.ah+1 },O:=di S.X S.O to c.text ⟨tk,1⟩ },c) by unfold cP;rw [hab];simp only;rw [hab2];simp only;rw [show (fK S d c.name to c.text)=(0,{ S with X:={ S.X with ah:=S.X.ah+1 },O:=di S.X S.O to c.text ⟨tk,1⟩ }) by unfold fK;rw [hlk];exact (if_neg (by simp)).trans ((if_pos bw).trans (if_pos h68))]]<;>exact⟨rfl,rfl⟩⟩)
  ·have kR:(obj S.O ok).kind=1:=hI.kind eP
   refine af.bK (by kernel_rfl) (by kernel_rfl) ?_
   refine gQ 8 (yu L to c) [(3,v_ 3 (bD L eH)),(7,a_ 6 cb)] ?_
   refine rJ 5 eH bw ?_
   refine gQ 2 [(57,.bool true)] [] ?_
   refine NQ (NX ?_)
   refine CT (SR (gK 1 [(4,vI 171)] [] ?_))
   refine NN (af.ret (ai.aG (ai.ar ?_)))
   exact RT (vI 171) [0,1,2,3,4,5,6,7] (⟨L,by rw [show (cP S c)=(171,S,c) by unfold cP;rw [hab];simp only;rw [hab2];simp only;rw [show (fK S d c.name to c.text)=(171,S) by unfold fK;rw [hlk];exact (if_neg (by simp)).trans (if_neg (by rw [bw];simp))]]<;>exact⟨rfl,rfl⟩⟩)
  ·have kR:(obj S.O ok).kind=2:=hI.kind eP
   refine af.bK (by kernel_rfl) (by kernel_rfl) ?_
   refine gQ 8 (yu L to c) [(3,v_ 3 (bD L eH)),(7,a_ 6 cb)] ?_
   refine rJ 5 eH bw ?_
   refine gQ 2 [(57,.bool true)] [] ?_
   refine NQ (NX ?_)
   refine CT (SR (gK 1 [(4,vI 171)] [] ?_))
   refine NN (af.ret (ai.aG (ai.ar ?_)))
   exact RT (vI 171) [0,1,2,3,4,5,6,7] (⟨L,by rw [show (cP S c)=(171,S,c) by unfold cP;rw [hab];simp only;rw [hab2];simp only;rw [show (fK S d c.name to c.text)=(171,S) by unfold fK;rw [hlk];exact (if_neg (by simp)).trans (if_neg (by rw [bw];simp))]]<;>exact⟨rfl,rfl⟩⟩)
  have kR:(obj S.O ok).kind=3:=hI.kind eP
  refine af.bK (by kernel_rfl) (by kernel_rfl) ?_
  refine gQ 8 (yu L to c) [(3,v_ 3 (bD L eH)),(7,a_ 6 cb)] ?_
  refine rJ 5 eH bw ?_
  refine gQ 2 [(57,.bool true)] [] ?_
  refine NQ (NX ?_)
  refine CT (SR (gK 1 [(4,vI 171)] [] ?_))
  refine NN (af.ret (ai.aG (ai.ar ?_)))
  exact RT (vI 171) [0,1,2,3,4,5,6,7] (⟨L,by rw [show (cP S c)=(171,S,c) by unfold cP;rw [hab];simp only;rw [hab2];simp only;rw [show (fK S d c.name to c.text)=(171,S) by unfold fK;rw [hlk];exact (if_neg (by simp)).trans (if_neg (by rw [bw];simp))]]<;>exact⟨rfl,rfl⟩⟩)
 ·have hkt:(obj S.O tk).kind=2:=hI.kind hlv
  refine af.bK (by kernel_rfl) (by kernel_rfl) ?_
  refine gQ 8 [(44,.map (some (L.m d))),(48,.string c.name)] [(3,v_ 3 (bD L hkd)),(7,a_ 6 cb)] ?_
  refine rJ 5 hkd hlk ?_
  refine gQ 1 [(8,.iface 135 (vP (L.b tk)))] [] ?_
  refine NQ (NX (af.seq (af.block (SR ?_))))
  refine gK 3 [(50,.bool false)] [] ?_
  refine NN (CF (SR (gK 1 [(54,.iface 135 (vP (L.b tk)))] [] ?_)))
  refine gL [] (mK (vP (L.b tk))) ?_
  rintro _ _ ⟨rfl,rfl⟩
  refine gK 2 [(53,.bool true)] [] ?_
  refine NN (CT (SR (gK 1 [(4,vI 172)] [] ?_)))
  refine NN (af.ret (ai.aG (ai.ar ?_)))
  exact RT (vI 172) [0,1,2,3,4,5,6,7] (⟨L,by rw [show (cP S c)=(172,S,c) by unfold cP;rw [hab];simp only;rw [hab2];simp only;rw [show (fK S d c.name to c.text)=(172,S) by unfold fK;rw [hlk];exact if_pos rfl]]<;>exact⟨rfl,rfl⟩⟩)
 have hkt:(obj S.O tk).kind=3:=hI.kind hlv
 refine af.bK (by kernel_rfl) (by kernel_rfl) ?_
 refine gQ 8 [(44,.map (some (L.m d))),(48,.string c.name)] [(3,v_ 3 (bD L hkd)),(7,a_ 6 cb)] ?_
 refine rJ 5 hkd hlk ?_
 refine gQ 1 [(8,.iface 132 (vP (L.b tk)))] [] ?_
 refine NQ (NX (af.seq (af.block (SR ?_))))
 refine gK 3 [(50,.bool false)] [] ?_
 refine NN (CF (SR (gK 1 [(54,.iface 132 (vP (L.b tk)))] [] ?_)))
 refine gL [] (oo (vP (L.b tk))) ?_
 rintro _ _ ⟨rfl,rfl⟩
 refine gK 2 [(53,.bool false)] [] ?_
 refine NN (CF (af.seq ?_))
 have Bc:(obj S.O to).ah.length<=8192:=hI.gi hd2
 have Lx:=hC.tx
 rcases hI.mq hd2 c.text with bw|⟨ok,bw,eP⟩|⟨ok,bw,eP⟩|⟨ok,bw,eP⟩
 ·refine af.bK (by kernel_rfl) (by kernel_rfl) ?_
  refine gQ 8 (yu L to c) [(3,v_ 3 (bD L eH)),(7,a_ 6 cb)] ?_
  refine rJ 5 eH bw ?_
  refine gQ 2 [(57,.bool false)] [] ?_
  refine NQ (NX ?_)
  refine CF (SR (gK 1 [(69,vP f)] [] ?_))
  refine gL [0] (uy S.X f m t) ?_
  rintro _ _ ⟨rfl,rfl⟩
  refine gK 2 [(68,.bool (!(decide (S.X.ah < 8192))))] [] ?_
  refine NN (af.dm (p:=S.X.ah < 8192) (fun _=>by kernel_rfl) (fun h68=>?_) (fun h68=>?_))
  ·refine SR (gK 1 [(4,vI 177)] [] ?_)
   refine NN (af.ret (ai.aG (ai.ar ?_)))
   exact RT (vI 177) [0,1,2,3,4,5,6,7] (⟨L,by rw [show (cP S c)=(177,S,c) by unfold cP;rw [hab];simp only;rw [hab2];simp only;rw [show (fK S d c.name to c.text)=(177,S) by unfold fK;rw [hlk];exact (if_neg (by simp)).trans ((if_pos bw).trans (if_neg h68))]]<;>exact⟨rfl,rfl⟩⟩)
  refine af.skip (ai.aJ (NX (SR ?_)))
  refine gK 7 [(72,vP f),(73,vP (L.b to)),(77,.string c.text),(78,.iface 132 (vP (L.b tk)))] [(5,a_ 6 cb)] ?_
  refine gL [0,3,5] (iE S.X f m t hX S.O L to eH c.text hC.tx bw (by omega) ⟨tk,3⟩ hkt (by simp) (by have:=hI.lb hlv;simp only at this ⊢;omega)) ?_
  rintro _ _ ⟨rfl,rfl⟩
  refine NS (aj.dG [(5,.abs (ax (bN (di S.X S.O to c.text ⟨tk,3⟩) L)))] (fun w hS=>by rw [show bN (di S.X S.O to c.text ⟨tk,3⟩) L=bN S.O L from gZ];exact hS) ?_)
  refine gK 1 [(4,vI 0)] [] ?_
  refine NN (af.ret ?_)
  exact RT (vI 0) [0,3,4,1,5,2,6,7] (⟨L,by rw [show (cP S c)=(0,{ S with X:={ S.X with ah:=S.X.ah+1 },O:=di S.X S.O to c.text ⟨tk,3⟩ },c) by unfold cP;rw [hab];simp only;rw [hab2];simp only;rw [show (fK S d c.name to c.text)=(0,{ S with X:={ S.X with ah:=S.X.ah+1 },O:=di S.X S.O to c.text ⟨tk,3⟩ }) by unfold fK;rw [hlk];exact (if_neg (by simp)).trans ((if_pos bw).trans (if_pos h68))]]<;>exact⟨rfl,rfl⟩⟩)
 ·have kR:(obj S.O ok).kind=1:=hI.kind eP
  refine af.bK (by kernel_rfl) (by kernel_rfl) ?_
  refine gQ 8 (yu L to c) [(3,v_ 3 (bD L eH)),(7,a_ 6 cb)] ?_
  refine rJ 5 eH bw ?_
  refine gQ 2 [(57,.bool true)] [] ?_
  refine NQ (NX ?_)
  refine CT (SR (gK 1 [(4,vI 171)] [] ?_))
  refine NN (af.ret (ai.aG (ai.ar ?_)))
  exact RT (vI 171) [0,1,2,3,4,5,6,7] (⟨L,by rw [show (cP S c)=(171,S,c) by unfold cP;rw [hab];simp only;rw [hab2];simp only;rw [show (fK S d c.name to c.text)=(171,S) by unfold fK;rw [hlk];exact (if_neg (by simp)).trans (if_neg (by rw [bw];simp))]]<;>exact⟨rfl,rfl⟩⟩)
 ·have kR:(obj S.O ok).kind=2:=hI.kind eP
  refine af.bK (by kernel_rfl) (by kernel_rfl) ?_
  refine gQ 8 (yu L to c) [(3,v_ 3 (bD L eH)),(7,a_ 6 cb)] ?_
  refine rJ 5 eH bw ?_
  refine gQ 2 [(57,.bool true)] [] ?_
  refine NQ (NX ?_)
  refine CT (SR (gK 1 [(4,vI 171)] [] ?_))
  refine NN (af.ret (ai.aG (ai.ar ?_)))
  exact RT (vI 171) [0,1,2,3,4,5,6,7] (⟨L,by rw [show (cP S c)=(171,S,c) by unfold cP;rw [hab];simp only;rw [hab2];simp only;rw [show (fK S d c.name to c.text)=(171,S) by unfold fK;rw [hlk];exact (if_neg (by simp)).trans (if_neg (by rw [bw];simp))]]<;>exact⟨rfl,rfl⟩⟩)
 have kR:(obj S.O ok).kind=3:=hI.kind eP
 refine af.bK (by kernel_rfl) (by kernel_rfl) ?_
 refine gQ 8 (yu L to c) [(3,v_ 3 (bD L eH)),(7,a_ 6 cb)] ?_
 refine rJ 5 eH bw ?_
 refine gQ 2 [(57,.bool true)] [] ?_
 refine NQ (NX ?_)
 refine CT (SR (gK 1 [(4,vI 171)] [] ?_))
 refine NN (af.ret (ai.aG (ai.ar ?_)))
 exact RT (vI 171) [0,1,2,3,4,5,6,7] (⟨L,by rw [show (cP S c)=(171,S,c) by unfold cP;rw [hab];simp only;rw [hab2];simp only;rw [show (fK S d c.name to c.text)=(171,S) by unfold fK;rw [hlk];exact (if_neg (by simp)).trans (if_neg (by rw [bw];simp))]]<;>exact⟨rfl,rfl⟩⟩)
theorem G6 {β:Bs} (S:aI) (L:HL) (f m t:Nat) (hI:Inv S) (cb:Nat) (c:aB) (hC:fX β c) :
    Spec Tryz.prog β 97 #[vP f,vP cb] ((pA f m t L S)++[pC cb c]) (fun v l=>∃ L2,v=vI (gy S c).1/\l=((pA f m t L2 ((gy S c).2.1))++[.blk cb (aW ((gy S c).2.2)) 48])):=by
 have hX:=hI.hX
 refine Spec.enter Tryz.func97 rfl Tryz.ntmps97 (Nat.le_of_ble_eq_true rfl) (fun R=>?_)
 refine af.seq ?_
 rcases hI.hand c.handle with dN|⟨tk,dN,hlv⟩|⟨tk,dN,hlv⟩
 ·refine af.region (gK 1 [] [] ?_)
  refine NN (af.seq (af.bK (by kernel_rfl) (by kernel_rfl) ?_))
  refine gQ 8 (Nx t c) [(3,a_ 0 f),(7,a_ 6 cb)] ?_
  refine aS.call (f:=132) (args:=#[vP t,vI (c.handle)]) (d:=(some 18)) (pre:=[j7 t S L]) (R:=(rz f m t S L cb c R)) (pk:=[2,0,1,3,4,5,6,7]) (iZ:=[1,2,0,3,4,5,6,7]) (v0:=.tuple #[.nilIface,vI 131]) (fun _=>by kernel_rfl) (qK t S.X.cH S.aD (bq L S.us) c.handle hC.hw (qd dN)) rfl (by kernel_rfl) rfl (by kernel_rfl) (fun _ _ h=>h) ?_
  refine gQ 5 [(5,.nilIface),(6,vI 131)] [] ?_
  refine NQ (NX (af.seq (SR ?_)))
  refine gK 2 [(22,.bool true)] [] ?_
  refine NN (CT (SR (gK 2 [(4,vI 131)] [] ?_)))
  refine NN (af.ret (ai.ar ?_))
  exact RT (vI 131) [0,1,2,3,4,5,6,7] (⟨L,by rw [show (gy S c)=(131,S,c) by unfold gy;rw [dN]]<;>exact⟨rfl,rfl⟩⟩)
 ·have hkt:(obj S.O tk).kind=1:=hI.kind hlv
  refine af.region (gK 1 [] [] ?_)
  refine NN (af.seq (af.bK (by kernel_rfl) (by kernel_rfl) ?_))
  refine gQ 8 (Nx t c) [(3,a_ 0 f),(7,a_ 6 cb)] ?_
  refine aS.call (f:=132) (args:=#[vP t,vI (c.handle)]) (d:=(some 18)) (pre:=[j7 t S L]) (R:=(rz f m t S L cb c R)) (pk:=[2,0,1,3,4,5,6,7]) (iZ:=[1,2,0,3,4,5,6,7]) (v0:=.tuple #[.iface 129 (vP (L.b tk)),vI 0]) (fun _=>by kernel_rfl) (lu t S.X.cH S.aD (bq L S.us) c.handle hC.hw (dQ L ⟨tk,1⟩) (kq dN)) rfl (by kernel_rfl) rfl (by kernel_rfl) (fun _ _ h=>h) ?_
  refine gQ 5 (JO L tk) [] ?_
  refine NQ (NX (af.seq (SR ?_)))
  refine gK 2 [(22,.bool false)] [] ?_
  refine NN (CF (af.skip (NX (SR (gK 7 [(7,vP (L.b tk)),(8,.bool true)] [] ?_)))))
  refine NN (af.seq (SR (gK 2 [(30,.bool false)] [] ?_)))
  refine NN (CF (af.skip (NX (SR (gK 7 [(32,vP cb),(33,vP f),(34,vP (L.b tk)),(38,.slice c.dA (c.data.length) (c.dC))] [(6,a_ 6 cb)] ?_)))))
  refine gL [0,1,2,3,4,5] (Ef S L f m t hI tk hlv c.dA c.dC c.data hC.da hC.dl hC.dc) ?_
  rintro _ _ ⟨L2,rfl,rfl⟩
  refine gC 7 [(6,vI ((dS S tk c.data).2.1))] [(5,a_ 6 cb)] [(6,[(12,vI ((dS S tk c.data).1))])] ?_
  refine NS (gK 2 [(4,vI ((dS S tk c.data).2.1))] [] ?_)
  refine NN (af.ret ?_)
  exact RT (vI ((dS S tk c.data).2.1)) [0,1,2,3,4,5,6,7] (⟨L2,by rw [show (gy S c)=((dS S tk c.data).2.1,(dS S tk c.data).2.2,{ c with answer:=(dS S tk c.data).1 }) by unfold gy;rw [dN];exact if_pos rfl]<;>exact⟨rfl,rfl⟩⟩)
 have hkt:(obj S.O tk).kind=2:=hI.kind hlv
 refine af.region (gK 1 [] [] ?_)
 refine NN (af.seq (af.bK (by kernel_rfl) (by kernel_rfl) ?_))
 refine gQ 8 (Nx t c) [(3,a_ 0 f),(7,a_ 6 cb)] ?_
 refine aS.call (f:=132) (args:=#[vP t,vI (c.handle)]) (d:=(some 18)) (pre:=[j7 t S L]) (R:=(rz f m t S L cb c R)) (pk:=[2,0,1,3,4,5,6,7]) (iZ:=[1,2,0,3,4,5,6,7]) (v0:=.tuple #[.iface 135 (vP (L.b tk)),vI 0]) (fun _=>by kernel_rfl) (lu t S.X.cH S.aD (bq L S.us) c.handle hC.hw (dQ L ⟨tk,2⟩) (kq dN)) rfl (by kernel_rfl) rfl (by kernel_rfl) (fun _ _ h=>h) ?_
 refine gQ 5 (JQ L tk) [] ?_
 refine NQ (NX (af.seq (SR ?_)))
 refine gK 2 [(22,.bool false)] [] ?_
 refine NN (CF (af.skip (NX (SR (gK 7 [(7,.pointer none),(8,.bool false)] [] ?_)))))
 refine NN (af.seq (SR (gK 2 [(30,.bool true)] [] ?_)))
 refine NN (CT (SR (gK 1 [(4,vI 172)] [] ?_)))
 refine NN (af.ret (ai.ar ?_))
 exact RT (vI 172) [0,1,2,3,4,5,6,7] (⟨L,by rw [show (gy S c)=(172,S,c) by unfold gy;rw [dN];exact if_neg (by simp)]<;>exact⟨rfl,rfl⟩⟩)
theorem ou {β:Bs} (S:aI) (L:HL) (hI:Inv S) (cb:Nat) (c:aB) (ot:Option Th) (ht:ot=none\/(∃ k,ot=some ⟨k,1⟩/\Live S.idx ⟨k,1⟩)\/(∃ k,ot=some ⟨k,2⟩/\Live S.idx ⟨k,2⟩)\/∃ k,ot=some ⟨k,3⟩/\Live S.idx ⟨k,3⟩) :
    Spec Tryz.prog β 134 #[vP cb,(match ot with|none=>.nilIface|some th=>dQ L th)] [pO S.O L,pC cb c] (fun v l=>v=.tuple #[]/\l=[pO S.O L,.blk cb (aW (mo S.O c ot)) 48]):=by
 refine Spec.enter Tryz.func134 rfl Tryz.ntmps134 (Nat.le_of_ble_eq_true rfl) (fun R=>?_)
 refine af.seq ?_
 rcases ht with rfl|⟨tk,rfl,hlv⟩|⟨tk,rfl,hlv⟩|⟨tk,rfl,hlv⟩
 ·refine af.region (gC 21 [] [(8,a_ 1 cb),(11,a_ 1 cb),(14,a_ 1 cb),(17,a_ 1 cb),(20,A_ 1 cb 2)] [(1,(Ds))] ?_)
  refine NN (af.seq (SR (gK 2 [(22,.bool true)] [] ?_)))
  refine NN (CT (af.ret (ai.ar ?_)))
  exact RT (.tuple #[]) [0,1,2] (⟨rfl,rfl⟩)
 ·have hkt:(obj S.O tk).kind=1:=hI.kind hlv
  refine af.region (gC 21 [] [(8,a_ 1 cb),(11,a_ 1 cb),(14,a_ 1 cb),(17,a_ 1 cb),(20,A_ 1 cb 2)] [(1,(Ds))] ?_)
  refine NN (af.seq (SR (gK 2 [(22,.bool false)] [] ?_)))
  refine NN (CF (af.skip (NX (SR (gK 1 [(23,.iface 129 (vP (L.b tk)))] [] ?_)))))
  refine gL [] (dw (L.b tk)) ?_
  rintro _ _ ⟨rfl,rfl⟩
  refine gK 1 [(4,vP (L.b tk))] [] ?_
  refine NN (af.bT (S:=[pO S.O L]) [0,1,2,3,4,5,6,7,8,9,10,12,13,14,15,16,17,18,19,20,21,22,23,24,25,26,27,11,28,29,30,31,32,33,34,35,36,37,38,39,40,41,42,43,44,45] 27 [0] (by kernel_rfl) (by kernel_rfl) rfl (by kernel_rfl) ?_)
  refine gR 0 [11,28,29,30,31,32,33,34,35,36,37,38,39,40,41,42,43,44,45] (Nu cb S tk++[(35,.iface 129 (vP (L.b tk)))]++Nv S tk) [0,1,2,3,4,5,6,7,8,9,10,12,13,14,15,16,17,18,19,20,21,22,23,24,25,26,27] [(9,v_ 0 (rf L hkt)),(14,v_ 0 (sY L hkt)),(18,v_ 0 (zn L hkt)),(22,v_ 0 (zo L hkt)),(26,p_ ⟨[.view 0 (.int .i64 ((obj S.O tk).sec)),.view 0 (.int .i64 ((obj S.O tk).nano))],none,none,none,none⟩ [(∀ F w,(ax (bM S.O L)).h F w->w.cell? ⟨(L.b tk),5,none⟩=some (vI ((obj S.O tk).nano))),(∀ F w,(ax (bM S.O L)).h F w->w.cell? ⟨(L.b tk),4,none⟩=some (vI ((obj S.O tk).sec)))] ⟨d8 (by rw [hkt];decide) (rfl),d8 (by rw [hkt];decide) (rfl),trivial⟩)] ?_
  refine mL [0] [] (mJ (vP (L.b tk))) ?_ (by rintro _ _ ⟨rfl,rfl⟩;rfl)
  rintro _ _ ⟨rfl,rfl⟩
  refine aQ.cut (ι:=Unit) (fr':=fun (_:Unit)=>([(26,vP cb)]++ru cb++[(34,vI ((obj S.O tk).id)),(36,vI 1),(40,vI ((obj S.O tk).mode))]++mw S tk++[(53,vP cb)])) (hp':=fun (_:Unit)=>[pO S.O L,Ih cb c,.abs R]) [0] rfl rfl ?_ rfl (fun _=>by kernel_rfl) ?_
  ·refine gK 1 [(53,vP cb)] [] ?_
   refine NL ?_
   exact MD () [26,27,28,29,30,34,36,40,44,48,52,53] [0,1,2]
  rintro _
  refine aQ.cut (ι:=Unit) (fr':=fun (_:Unit)=>([(26,vP cb)]++ru cb++[(34,vI ((obj S.O tk).id)),(36,vI 1),(40,vI ((obj S.O tk).mode))]++mw S tk++[(54,.pointer (some ⟨cb,12,none⟩))])) (hp':=fun (_:Unit)=>[pO S.O L,Ih cb c,.abs R]) [0] rfl rfl ?_ rfl (fun _=>by kernel_rfl) ?_
  ·refine gK 1 [(54,.pointer (some ⟨cb,12,none⟩))] [] ?_
   refine NL ?_
   exact MD () [26,27,28,29,30,34,36,40,44,48,52,54] [0,1,2]
  rintro _
  refine mC [0] [] [(0,a_ 1 cb)] [(1,[(12,vI ((obj S.O tk).id))])] ?_
  refine aQ.cut (ι:=Unit) (fr':=fun (_:Unit)=>(ru cb++[(36,vI 1),(40,vI ((obj S.O tk).mode))]++mw S tk++[(55,vP cb)])) (hp':=fun (_:Unit)=>[pO S.O L,Ii cb c S tk,.abs R]) [0] rfl rfl ?_ rfl (fun _=>by kernel_rfl) ?_
  ·refine gK 1 [(55,vP cb)] [] ?_
   refine NL ?_
   exact MD () [27,28,29,30,36,40,44,48,52,55] [0,1,2]
  rintro _
  refine aQ.cut (ι:=Unit) (fr':=fun (_:Unit)=>(ru cb++[(36,vI 1),(40,vI ((obj S.O tk).mode))]++mw S tk++[(56,.pointer (some ⟨cb,2,none⟩))])) (hp':=fun (_:Unit)=>[pO S.O L,Ii cb c S tk,.abs R]) [0] rfl rfl ?_ rfl (fun _=>by kernel_rfl) ?_
  ·refine gK 1 [(56,.pointer (some ⟨cb,2,none⟩))] [] ?_
   refine NL ?_
   exact MD () [27,28,29,30,36,40,44,48,52,56] [0,1,2]
  rintro _
  refine mC [0] [] [(0,a_ 1 cb)] [(1,[(2,vI 1)])] ?_
  refine aQ.cut (ι:=Unit) (fr':=fun (_:Unit)=>(Du cb S tk++mw S tk++[(57,vP cb)])) (hp':=fun (_:Unit)=>[pO S.O L,pC cb { c with other:=1,mode:=0,uid:=0,gid:=0,sec:=0,nano:=0,answer:=(obj S.O tk).id },.abs R]) [0] rfl rfl ?_ rfl (fun _=>by kernel_rfl) ?_
  ·refine gK 1 [(57,vP cb)] [] ?_
   refine NL ?_
   exact MD () [28,29,30,40,44,48,52,57] [0,1,2]
  rintro _
  refine aQ.cut (ι:=Unit) (fr':=fun (_:Unit)=>(Du cb S tk++mw S tk++[(58,.pointer (some ⟨cb,6,none⟩))])) (hp':=fun (_:Unit)=>[pO S.O L,pC cb { c with other:=1,mode:=0,uid:=0,gid:=0,sec:=0,nano:=0,answer:=(obj S.O tk).id },.abs R]) [0] rfl rfl ?_ rfl (fun _=>by kernel_rfl) ?_
  ·refine gK 1 [(58,.pointer (some ⟨cb,6,none⟩))] [] ?_
   refine NL ?_
   exact MD () [28,29,30,40,44,48,52,58] [0,1,2]
  rintro _
  refine mC [0] [] [(0,a_ 1 cb)] [(1,[(6,vI ((obj S.O tk).mode))])] ?_
  refine aQ.cut (ι:=Unit) (fr':=fun (_:Unit)=>([(29,vP cb),(30,vP cb)]++mw S tk++[(59,vP cb)])) (hp':=fun (_:Unit)=>[pO S.O L,pC cb { c with other:=1,mode:=(obj S.O tk).mode,uid:=0,gid:=0,sec:=0,nano:=0,answer:=(obj S.O tk).id },.abs R]) [0] rfl rfl ?_ rfl (fun _=>by kernel_rfl) ?_
  ·refine gK 1 [(59,vP cb)] [] ?_
   refine NL ?_
   exact MD () [29,30,44,48,52,59] [0,1,2]
  rintro _
  refine aQ.cut (ι:=Unit) (fr':=fun (_:Unit)=>([(29,vP cb),(30,vP cb)]++mw S tk++[(60,.pointer (some ⟨cb,7,none⟩))])) (hp':=fun (_:Unit)=>[pO S.O L,pC cb { c with other:=1,mode:=(obj S.O tk).mode,uid:=0,gid:=0,sec:=0,nano:=0,answer:=(obj S.O tk).id },.abs R]) [0] rfl rfl ?_ rfl (fun _=>by kernel_rfl) ?_
  ·refine gK 1 [(60,.pointer (some ⟨cb,7,none⟩))] [] ?_
   refine NL ?_
   exact MD () [29,30,44,48,52,60] [0,1,2]
  rintro _
  refine mC [0] [] [(0,a_ 1 cb)] [(1,[(7,vI ((obj S.O tk).uid))])] ?_
  refine aQ.cut (ι:=Unit) (fr':=fun (_:Unit)=>(Dr cb S tk++[(61,vP cb)])) (hp':=fun (_:Unit)=>[pO S.O L,Tx cb c S tk,.abs R]) [0] rfl rfl ?_ rfl (fun _=>by kernel_rfl) ?_
  ·refine gK 1 [(61,vP cb)] [] ?_
   refine NL ?_
   exact MD () [30,48,52,61] [0,1,2]
  rintro _
  refine aQ.cut (ι:=Unit) (fr':=fun (_:Unit)=>(Dr cb S tk++[(62,.pointer (some ⟨cb,8,none⟩))])) (hp':=fun (_:Unit)=>[pO S.O L,Tx cb c S tk,.abs R]) [0] rfl rfl ?_ rfl (fun _=>by kernel_rfl) ?_
  ·refine gK 1 [(62,.pointer (some ⟨cb,8,none⟩))] [] ?_
   refine NL ?_
   exact MD () [30,48,52,62] [0,1,2]
  rintro _
  refine mC [0] [] [(0,a_ 1 cb)] [(1,[(8,vI ((obj S.O tk).gid))])] ?_
  refine aQ.cut (ι:=Unit) (fr':=fun (_:Unit)=>[(52,.agg #[vI ((obj S.O tk).sec),vI ((obj S.O tk).nano)]),(63,vP cb)]) (hp':=fun (_:Unit)=>[pO S.O L,Ty cb c S tk,.abs R]) [0] rfl rfl ?_ rfl (fun _=>by kernel_rfl) ?_
  ·refine gK 1 [(63,vP cb)] [] ?_
   refine NL ?_
   exact MD () [52,63] [0,1,2]
  rintro _
  refine aQ.cut (ι:=Unit) (fr':=fun (_:Unit)=>(Nw S tk cb)) (hp':=fun (_:Unit)=>[pO S.O L,Ty cb c S tk,.abs R]) [0] rfl rfl ?_ rfl (fun _=>by kernel_rfl) ?_
  ·refine gK 1 [(64,.pointer (some ⟨cb,9,none⟩))] [] ?_
   refine NL ?_
   exact MD () [52,64] [0,1,2]
  rintro _
  refine aQ.last rfl rfl ?_
  refine gC 1 [] [(0,A_ 1 cb 2)] [(1,(Ny S tk))] ?_
  refine NL (ai.np ?_)
  exact RF (.tuple #[]) [0,1,2] (⟨rfl,rfl⟩)
 ·have hkt:(obj S.O tk).kind=2:=hI.kind hlv
  refine af.region (gC 21 [] [(8,a_ 1 cb),(11,a_ 1 cb),(14,a_ 1 cb),(17,a_ 1 cb),(20,A_ 1 cb 2)] [(1,(Ds))] ?_)
  refine NN (af.seq (SR (gK 2 [(22,.bool false)] [] ?_)))
  refine NN (CF (af.skip (NX (SR (gK 1 [(23,.iface 135 (vP (L.b tk)))] [] ?_)))))
  refine gL [] (dw (L.b tk)) ?_
  rintro _ _ ⟨rfl,rfl⟩
  refine gK 1 [(4,vP (L.b tk))] [] ?_
  refine NN (af.bT (S:=[pO S.O L]) [0,1,2,3,4,5,6,7,8,9,10,12,13,14,15,16,17,18,19,20,21,22,23,24,25,26,27,11,28,29,30,31,32,33,34,35,36,37,38,39,40,41,42,43,44,45] 27 [0] (by kernel_rfl) (by kernel_rfl) rfl (by kernel_rfl) ?_)
  refine gR 0 [11,28,29,30,31,32,33,34,35,36,37,38,39,40,41,42,43,44,45] (Nu cb S tk++[(35,.iface 135 (vP (L.b tk)))]++Nv S tk) [0,1,2,3,4,5,6,7,8,9,10,12,13,14,15,16,17,18,19,20,21,22,23,24,25,26,27] [(9,v_ 0 (rf L hkt)),(14,v_ 0 (sY L hkt)),(18,v_ 0 (zn L hkt)),(22,v_ 0 (zo L hkt)),(26,p_ ⟨[.view 0 (.int .i64 ((obj S.O tk).sec)),.view 0 (.int .i64 ((obj S.O tk).nano))],none,none,none,none⟩ [(∀ F w,(ax (bM S.O L)).h F w->w.cell? ⟨(L.b tk),5,none⟩=some (vI ((obj S.O tk).nano))),(∀ F w,(ax (bM S.O L)).h F w->w.cell? ⟨(L.b tk),4,none⟩=some (vI ((obj S.O tk).sec)))] ⟨d8 (by rw [hkt];decide) (rfl),d8 (by rw [hkt];decide) (rfl),trivial⟩)] ?_
  refine mL [0] [] (mK (vP (L.b tk))) ?_ (by rintro _ _ ⟨rfl,rfl⟩;rfl)
  rintro _ _ ⟨rfl,rfl⟩
  refine aQ.cut (ι:=Unit) (fr':=fun (_:Unit)=>([(26,vP cb)]++ru cb++[(34,vI ((obj S.O tk).id)),(36,vI 2),(40,vI ((obj S.O tk).mode))]++mw S tk++[(53,vP cb)])) (hp':=fun (_:Unit)=>[pO S.O L,Ih cb c,.abs R]) [0] rfl rfl ?_ rfl (fun _=>by kernel_rfl) ?_
  ·refine gK 1 [(53,vP cb)] [] ?_
   refine NL ?_
   exact MD () [26,27,28,29,30,34,36,40,44,48,52,53] [0,1,2]
  rintro _
  refine aQ.cut (ι:=Unit) (fr':=fun (_:Unit)=>([(26,vP cb)]++ru cb++[(34,vI ((obj S.O tk).id)),(36,vI 2),(40,vI ((obj S.O tk).mode))]++mw S tk++[(54,.pointer (some ⟨cb,12,none⟩))])) (hp':=fun (_:Unit)=>[pO S.O L,Ih cb c,.abs R]) [0] rfl rfl ?_ rfl (fun _=>by kernel_rfl) ?_
  ·refine gK 1 [(54,.pointer (some ⟨cb,12,none⟩))] [] ?_
   refine NL ?_
   exact MD () [26,27,28,29,30,34,36,40,44,48,52,54] [0,1,2]
  rintro _
  refine mC [0] [] [(0,a_ 1 cb)] [(1,[(12,vI ((obj S.O tk).id))])] ?_
  refine aQ.cut (ι:=Unit) (fr':=fun (_:Unit)=>(ru cb++[(36,vI 2),(40,vI ((obj S.O tk).mode))]++mw S tk++[(55,vP cb)])) (hp':=fun (_:Unit)=>[pO S.O L,Ii cb c S tk,.abs R]) [0] rfl rfl ?_ rfl (fun _=>by kernel_rfl) ?_
  ·refine gK 1 [(55,vP cb)] [] ?_
   refine NL ?_
   exact MD () [27,28,29,30,36,40,44,48,52,55] [0,1,2]
  rintro _
  refine aQ.cut (ι:=Unit) (fr':=fun (_:Unit)=>(ru cb++[(36,vI 2),(40,vI ((obj S.O tk).mode))]++mw S tk++[(56,.pointer (some ⟨cb,2,none⟩))])) (hp':=fun (_:Unit)=>[pO S.O L,Ii cb c S tk,.abs R]) [0] rfl rfl ?_ rfl (fun _=>by kernel_rfl) ?_
  ·refine gK 1 [(56,.pointer (some ⟨cb,2,none⟩))] [] ?_
   refine NL ?_
   exact MD () [27,28,29,30,36,40,44,48,52,56] [0,1,2]
  rintro _
  refine mC [0] [] [(0,a_ 1 cb)] [(1,[(2,vI 2)])] ?_
  refine aQ.cut (ι:=Unit) (fr':=fun (_:Unit)=>(Du cb S tk++mw S tk++[(57,vP cb)])) (hp':=fun (_:Unit)=>[pO S.O L,pC cb { c with other:=2,mode:=0,uid:=0,gid:=0,sec:=0,nano:=0,answer:=(obj S.O tk).id },.abs R]) [0] rfl rfl ?_ rfl (fun _=>by kernel_rfl) ?_
  ·refine gK 1 [(57,vP cb)] [] ?_
   refine NL ?_
   exact MD () [28,29,30,40,44,48,52,57] [0,1,2]
  rintro _
  refine aQ.cut (ι:=Unit) (fr':=fun (_:Unit)=>(Du cb S tk++mw S tk++[(58,.pointer (some ⟨cb,6,none⟩))])) (hp':=fun (_:Unit)=>[pO S.O L,pC cb { c with other:=2,mode:=0,uid:=0,gid:=0,sec:=0,nano:=0,answer:=(obj S.O tk).id },.abs R]) [0] rfl rfl ?_ rfl (fun _=>by kernel_rfl) ?_
  ·refine gK 1 [(58,.pointer (some ⟨cb,6,none⟩))] [] ?_
   refine NL ?_
   exact MD () [28,29,30,40,44,48,52,58] [0,1,2]
  rintro _
  refine mC [0] [] [(0,a_ 1 cb)] [(1,[(6,vI ((obj S.O tk).mode))])] ?_
  refine aQ.cut (ι:=Unit) (fr':=fun (_:Unit)=>([(29,vP cb),(30,vP cb)]++mw S tk++[(59,vP cb)])) (hp':=fun (_:Unit)=>[pO S.O L,pC cb { c with other:=2,mode:=(obj S.O tk).mode,uid:=0,gid:=0,sec:=0,nano:=0,answer:=(obj S.O tk).id },.abs R]) [0] rfl rfl ?_ rfl (fun _=>by kernel_rfl) ?_
  ·refine gK 1 [(59,vP cb)] [] ?_
   refine NL ?_
   exact MD () [29,30,44,48,52,59] [0,1,2]
  rintro _
  refine aQ.cut (ι:=Unit) (fr':=fun (_:Unit)=>([(29,vP cb),(30,vP cb)]++mw S tk++[(60,.pointer (some ⟨cb,7,none⟩))])) (hp':=fun (_:Unit)=>[pO S.O L,pC cb { c with other:=2,mode:=(obj S.O tk).mode,uid:=0,gid:=0,sec:=0,nano:=0,answer:=(obj S.O tk).id },.abs R]) [0] rfl rfl ?_ rfl (fun _=>by kernel_rfl) ?_
  ·refine gK 1 [(60,.pointer (some ⟨cb,7,none⟩))] [] ?_
   refine NL ?_
   exact MD () [29,30,44,48,52,60] [0,1,2]
  rintro _
  refine mC [0] [] [(0,a_ 1 cb)] [(1,[(7,vI ((obj S.O tk).uid))])] ?_
  refine aQ.cut (ι:=Unit) (fr':=fun (_:Unit)=>(Dr cb S tk++[(61,vP cb)])) (hp':=fun (_:Unit)=>[pO S.O L,Tz cb c S tk,.abs R]) [0] rfl rfl ?_ rfl (fun _=>by kernel_rfl) ?_
  ·refine gK 1 [(61,vP cb)] [] ?_
   refine NL ?_
   exact MD () [30,48,52,61] [0,1,2]
  rintro _
  refine aQ.cut (ι:=Unit) (fr':=fun (_:Unit)=>(Dr cb S tk++[(62,.pointer (some ⟨cb,8,none⟩))])) (hp':=fun (_:Unit)=>[pO S.O L,Tz cb c S tk,.abs R]) [0] rfl rfl ?_ rfl (fun _=>by kernel_rfl) ?_
  ·refine gK 1 [(62,.pointer (some ⟨cb,8,none⟩))] [] ?_
   refine NL ?_
   exact MD () [30,48,52,62] [0,1,2]
  rintro _
  refine mC [0] [] [(0,a_ 1 cb)] [(1,[(8,vI ((obj S.O tk).gid))])] ?_
  refine aQ.cut (ι:=Unit) (fr':=fun (_:Unit)=>[(52,.agg #[vI ((obj S.O tk).sec),vI ((obj S.O tk).nano)]),(63,vP cb)]) (hp':=fun (_:Unit)=>[pO S.O L,TA cb c S tk,.abs R]) [0] rfl rfl ?_ rfl (fun _=>by kernel_rfl) ?_
  ·refine gK 1 [(63,vP cb)] [] ?_
   refine NL ?_
   exact MD () [52,63] [0,1,2]
  rintro _
  refine aQ.cut (ι:=Unit) (fr':=fun (_:Unit)=>(Nw S tk cb)) (hp':=fun (_:Unit)=>[pO S.O L,TA cb c S tk,.abs R]) [0] rfl rfl ?_ rfl (fun _=>by kernel_rfl) ?_
  ·refine gK 1 [(64,.pointer (some ⟨cb,9,none⟩))] [] ?_
   refine NL ?_
   exact MD () [52,64] [0,1,2]
  rintro _
  refine aQ.last rfl rfl ?_
  refine gC 1 [] [(0,A_ 1 cb 2)] [(1,(Ny S tk))] ?_
  refine NL (ai.np ?_)
  exact RF (.tuple #[]) [0,1,2] (⟨rfl,rfl⟩)
 have hkt:(obj S.O tk).kind=3:=hI.kind hlv
 refine af.region (gC 21 [] [(8,a_ 1 cb),(11,a_ 1 cb),(14,a_ 1 cb),(17,a_ 1 cb),(20,A_ 1 cb 2)] [(1,(Ds))] ?_)
 refine NN (af.seq (SR (gK 2 [(22,.bool false)] [] ?_)))
 refine NN (CF (af.skip (NX (SR (gK 1 [(23,.iface 132 (vP (L.b tk)))] [] ?_)))))
 refine gL [] (dw (L.b tk)) ?_
 rintro _ _ ⟨rfl,rfl⟩
 refine gK 1 [(4,vP (L.b tk))] [] ?_
 refine NN (af.bT (S:=[pO S.O L]) [0,1,2,3,4,5,6,7,8,9,10,12,13,14,15,16,17,18,19,20,21,22,23,24,25,26,27,11,28,29,30,31,32,33,34,35,36,37,38,39,40,41,42,43,44,45] 27 [0] (by kernel_rfl) (by kernel_rfl) rfl (by kernel_rfl) ?_)
 refine gR 0 [11,28,29,30,31,32,33,34,35,36,37,38,39,40,41,42,43,44,45] (Nu cb S tk++[(35,.iface 132 (vP (L.b tk)))]++Nv S tk) [0,1,2,3,4,5,6,7,8,9,10,12,13,14,15,16,17,18,19,20,21,22,23,24,25,26,27] [(9,v_ 0 (rf L hkt)),(14,v_ 0 (sY L hkt)),(18,v_ 0 (zn L hkt)),(22,v_ 0 (zo L hkt)),(26,p_ ⟨[.view 0 (.int .i64 ((obj S.O tk).sec)),.view 0 (.int .i64 ((obj S.O tk).nano))],none,none,none,none⟩ [(∀ F w,(ax (bM S.O L)).h F w->w.cell? ⟨(L.b tk),5,none⟩=some (vI ((obj S.O tk).nano))),(∀ F w,(ax (bM S.O L)).h F w->w.cell? ⟨(L.b tk),4,none⟩=some (vI ((obj S.O tk).sec)))] ⟨d8 (by rw [hkt];decide) (rfl),d8 (by rw [hkt];decide) (rfl),trivial⟩)] ?_
 refine mL [0] [] (oo (vP (L.b tk))) ?_ (by rintro _ _ ⟨rfl,rfl⟩;rfl)
 rintro _ _ ⟨rfl,rfl⟩
 refine aQ.cut (ι:=Unit) (fr':=fun (_:Unit)=>([(26,vP cb)]++ru cb++[(34,vI ((obj S.O tk).id)),(36,vI 3),(40,vI ((obj S.O tk).mode))]++mw S tk++[(53,vP cb)])) (hp':=fun (_:Unit)=>[pO S.O L,Ih cb c,.abs R]) [0] rfl rfl ?_ rfl (fun _=>by kernel_rfl) ?_
 ·refine gK 1 [(53,vP cb)] [] ?_
  refine NL ?_
  exact MD () [26,27,28,29,30,34,36,40,44,48,52,53] [0,1,2]
 rintro _
 refine aQ.cut (ι:=Unit) (fr':=fun (_:Unit)=>([(26,vP cb)]++ru cb++[(34,vI ((obj S.O tk).id)),(36,vI 3),(40,vI ((obj S.O tk).mode))]++mw S tk++[(54,.pointer (some ⟨cb,12,none⟩))])) (hp':=fun (_:Unit)=>[pO S.O L,Ih cb c,.abs R]) [0] rfl rfl ?_ rfl (fun _=>by kernel_rfl) ?_
 ·refine gK 1 [(54,.pointer (some ⟨cb,12,none⟩))] [] ?_
  refine NL ?_
  exact MD () [26,27,28,29,30,34,36,40,44,48,52,54] [0,1,2]
 rintro _
 refine mC [0] [] [(0,a_ 1 cb)] [(1,[(12,vI ((obj S.O tk).id))])] ?_
 refine aQ.cut (ι:=Unit) (fr':=fun (_:Unit)=>(ru cb++[(36,vI 3),(40,vI ((obj S.O tk).mode))]++mw S tk++[(55,vP cb)])) (hp':=fun (_:Unit)=>[pO S.O L,Ii cb c S tk,.abs R]) [0] rfl rfl ?_ rfl (fun _=>by kernel_rfl) ?_
 ·refine gK 1 [(55,vP cb)] [] ?_
  refine NL ?_
  exact MD () [27,28,29,30,36,40,44,48,52,55] [0,1,2]
 rintro _
 refine aQ.cut (ι:=Unit) (fr':=fun (_:Unit)=>(ru cb++[(36,vI 3),(40,vI ((obj S.O tk).mode))]++mw S tk++[(56,.pointer (some ⟨cb,2,none⟩))])) (hp':=fun (_:Unit)=>[pO S.O L,Ii cb c S tk,.abs R]) [0] rfl rfl ?_ rfl (fun _=>by kernel_rfl) ?_
 ·refine gK 1 [(56,.pointer (some ⟨cb,2,none⟩))] [] ?_
  refine NL ?_
  exact MD () [27,28,29,30,36,40,44,48,52,56] [0,1,2]
 rintro _
 refine mC [0] [] [(0,a_ 1 cb)] [(1,[(2,vI 3)])] ?_
 refine aQ.cut (ι:=Unit) (fr':=fun (_:Unit)=>(Du cb S tk++mw S tk++[(57,vP cb)])) (hp':=fun (_:Unit)=>[pO S.O L,pC cb { c with other:=3,mode:=0,uid:=0,gid:=0,sec:=0,nano:=0,answer:=(obj S.O tk).id },.abs R]) [0] rfl rfl ?_ rfl (fun _=>by kernel_rfl) ?_
 ·refine gK 1 [(57,vP cb)] [] ?_
  refine NL ?_
  exact MD () [28,29,30,40,44,48,52,57] [0,1,2]
 rintro _
 refine aQ.cut (ι:=Unit) (fr':=fun (_:Unit)=>(Du cb S tk++mw S tk++[(58,.pointer (some ⟨cb,6,none⟩))])) (hp':=fun (_:Unit)=>[pO S.O L,pC cb { c with other:=3,mode:=0,uid:=0,gid:=0,sec:=0,nano:=0,answer:=(obj S.O tk).id },.abs R]) [0] rfl rfl ?_ rfl (fun _=>by kernel_rfl) ?_
 ·refine gK 1 [(58,.pointer (some ⟨cb,6,none⟩))] [] ?_
  refine NL ?_
  exact MD () [28,29,30,40,44,48,52,58] [0,1,2]
 rintro _
 refine mC [0] [] [(0,a_ 1 cb)] [(1,[(6,vI ((obj S.O tk).mode))])] ?_
 refine aQ.cut (ι:=Unit) (fr':=fun (_:Unit)=>([(29,vP cb),(30,vP cb)]++mw S tk++[(59,vP cb)])) (hp':=fun (_:Unit)=>[pO S.O L,pC cb { c with other:=3,mode:=(obj S.O tk).mode,uid:=0,gid:=0,sec:=0,nano:=0,answer:=(obj S.O tk).id },.abs R]) [0] rfl rfl ?_ rfl (fun _=>by kernel_rfl) ?_
 ·refine gK 1 [(59,vP cb)] [] ?_
  refine NL ?_
  exact MD () [29,30,44,48,52,59] [0,1,2]
 rintro _
 refine aQ.cut (ι:=Unit) (fr':=fun (_:Unit)=>([(29,vP cb),(30,vP cb)]++mw S tk++[(60,.pointer (some ⟨cb,7,none⟩))])) (hp':=fun (_:Unit)=>[pO S.O L,pC cb { c with other:=3,mode:=(obj S.O tk).mode,uid:=0,gid:=0,sec:=0,nano:=0,answer:=(obj S.O tk).id },.abs R]) [0] rfl rfl ?_ rfl (fun _=>by kernel_rfl) ?_
 ·refine gK 1 [(60,.pointer (some ⟨cb,7,none⟩))] [] ?_
  refine NL ?_
  exact MD () [29,30,44,48,52,60] [0,1,2]
 rintro _
 refine mC [0] [] [(0,a_ 1 cb)] [(1,[(7,vI ((obj S.O tk).uid))])] ?_
 refine aQ.cut (ι:=Unit) (fr':=fun (_:Unit)=>(Dr cb S tk++[(61,vP cb)])) (hp':=fun (_:Unit)=>[pO S.O L,TB cb c S tk,.abs R]) [0] rfl rfl ?_ rfl (fun _=>by kernel_rfl) ?_
 ·refine gK 1 [(61,vP cb)] [] ?_
  refine NL ?_
  exact MD () [30,48,52,61] [0,1,2]
 rintro _
 refine aQ.cut (ι:=Unit) (fr':=fun (_:Unit)=>(Dr cb S tk++[(62,.pointer (some ⟨cb,8,none⟩))])) (hp':=fun (_:Unit)=>[pO S.O L,TB cb c S tk,.abs R]) [0] rfl rfl ?_ rfl (fun _=>by kernel_rfl) ?_
 ·refine gK 1 [(62,.pointer (some ⟨cb,8,none⟩))] [] ?_
  refine NL ?_
  exact MD () [30,48,52,62] [0,1,2]
 rintro _
 refine mC [0] [] [(0,a_ 1 cb)] [(1,[(8,vI ((obj S.O tk).gid))])] ?_
 refine aQ.cut (ι:=Unit) (fr':=fun (_:Unit)=>[(52,.agg #[vI ((obj S.O tk).sec),vI ((obj S.O tk).nano)]),(63,vP cb)]) (hp':=fun (_:Unit)=>[pO S.O L,TD cb c S tk,.abs R]) [0] rfl rfl ?_ rfl (fun _=>by kernel_rfl) ?_
 ·refine gK 1 [(63,vP cb)] [] ?_
  refine NL ?_
  exact MD () [52,63] [0,1,2]
 rintro _
 refine aQ.cut (ι:=Unit) (fr':=fun (_:Unit)=>(Nw S tk cb)) (hp':=fun (_:Unit)=>[pO S.O L,TD cb c S tk,.abs R]) [0] rfl rfl ?_ rfl (fun _=>by kernel_rfl) ?_
 ·refine gK 1 [(64,.pointer (some ⟨cb,9,none⟩))] [] ?_
  refine NL ?_
  exact MD () [52,64] [0,1,2]
 rintro _
 refine aQ.last rfl rfl ?_
 refine gC 1 [] [(0,A_ 1 cb 2)] [(1,(Ny S tk))] ?_
 refine NL (ai.np ?_)
 exact RF (.tuple #[]) [0,1,2] (⟨rfl,rfl⟩)
theorem JS {β:Bs} (S:aI) (L:HL) (f m t:Nat) (hI:Inv S) (cb:Nat) (c:aB) (hC:fX β c) :
    Spec Tryz.prog β 99 #[vP f,vP cb] ((pA f m t L S)++[pC cb c]) (fun v l=>∃ L2,v=vI (kE S c).1/\l=((pA f m t L2 ((kE S c).2.1))++[.blk cb (aW ((kE S c).2.2)) 48])):=by
 have hX:=hI.hX
 refine Spec.enter Tryz.func99 rfl Tryz.ntmps99 (Nat.le_of_ble_eq_true rfl) (fun R=>?_)
 refine af.seq ?_
 rcases hI.hand c.handle with dN|⟨tk,dN,hlv⟩|⟨tk,dN,hlv⟩
 ·refine af.region (gK 1 [] [] ?_)
  refine NN (af.seq (af.bK (by kernel_rfl) (by kernel_rfl) ?_))
  refine gQ 8 (Dt t c) [(3,a_ 0 f),(7,a_ 6 cb)] ?_
  refine aS.call (f:=132) (args:=#[vP t,vI (c.handle)]) (d:=(some 16)) (pre:=[j7 t S L]) (R:=(rz f m t S L cb c R)) (pk:=[2,0,1,3,4,5,6,7]) (iZ:=[1,2,0,3,4,5,6,7]) (v0:=.tuple #[.nilIface,vI 131]) (fun _=>by kernel_rfl) (qK t S.X.cH S.aD (bq L S.us) c.handle hC.hw (qd dN)) rfl (by kernel_rfl) rfl (by kernel_rfl) (fun _ _ h=>h) ?_
  refine gQ 5 [(5,.nilIface),(6,vI 131)] [] ?_
  refine NQ (NX (SR ?_))
  refine gK 2 [(19,vP cb),(20,.nilIface)] [] ?_
  refine gL [3,6] (ou S L hI cb c none (.inl rfl)) ?_
  rintro _ _ ⟨rfl,rfl⟩
  refine NS (gK 2 [(4,vI 131)] [] ?_)
  refine NN (af.ret ?_)
  exact RT (vI 131) [2,3,4,0,5,6,1,7] (⟨L,by rw [show (kE S c)=(131,S,mo S.O c none) by unfold kE;rw [dN]]<;>exact⟨rfl,rfl⟩⟩)
 ·have hkt:(obj S.O tk).kind=1:=hI.kind hlv
  refine af.region (gK 1 [] [] ?_)
  refine NN (af.seq (af.bK (by kernel_rfl) (by kernel_rfl) ?_))
  refine gQ 8 (Dt t c) [(3,a_ 0 f),(7,a_ 6 cb)] ?_
  refine aS.call (f:=132) (args:=#[vP t,vI (c.handle)]) (d:=(some 16)) (pre:=[j7 t S L]) (R:=(rz f m t S L cb c R)) (pk:=[2,0,1,3,4,5,6,7]) (iZ:=[1,2,0,3,4,5,6,7]) (v0:=.tuple #[.iface 129 (vP (L.b tk)),vI 0]) (fun _=>by kernel_rfl) (lu t S.X.cH S.aD (bq L S.us) c.handle hC.hw (dQ L ⟨tk,1⟩) (kq dN)) rfl (by kernel_rfl) rfl (by kernel_rfl) (fun _ _ h=>h) ?_
  refine gQ 5 (JO L tk) [] ?_
  refine NQ (NX (SR ?_))
  refine gK 2 [(19,vP cb),(20,.iface 129 (vP (L.b tk)))] [] ?_
  refine gL [3,6] (ou S L hI cb c (some ⟨tk,1⟩) (.inr (.inl ⟨tk,rfl,hlv⟩))) ?_
  rintro _ _ ⟨rfl,rfl⟩
  refine NS (gK 2 [(4,vI 0)] [] ?_)
  refine NN (af.ret ?_)
  exact RT (vI 0) [2,3,4,0,5,6,1,7] (⟨L,by rw [show (kE S c)=(0,S,mo S.O c (some ⟨tk,1⟩)) by unfold kE;rw [dN]]<;>exact⟨rfl,rfl⟩⟩)
 have hkt:(obj S.O tk).kind=2:=hI.kind hlv
 refine af.region (gK 1 [] [] ?_)
 refine NN (af.seq (af.bK (by kernel_rfl) (by kernel_rfl) ?_))
 refine gQ 8 (Dt t c) [(3,a_ 0 f),(7,a_ 6 cb)] ?_
 refine aS.call (f:=132) (args:=#[vP t,vI (c.handle)]) (d:=(some 16)) (pre:=[j7 t S L]) (R:=(rz f m t S L cb c R)) (pk:=[2,0,1,3,4,5,6,7]) (iZ:=[1,2,0,3,4,5,6,7]) (v0:=.tuple #[.iface 135 (vP (L.b tk)),vI 0]) (fun _=>by kernel_rfl) (lu t S.X.cH S.aD (bq L S.us) c.handle hC.hw (dQ L ⟨tk,2⟩) (kq dN)) rfl (by kernel_rfl) rfl (by kernel_rfl) (fun _ _ h=>h) ?_
 refine gQ 5 (JQ L tk) [] ?_
 refine NQ (NX (SR ?_))
 refine gK 2 [(19,vP cb),(20,.iface 135 (vP (L.b tk)))] [] ?_
 refine gL [3,6] (ou S L hI cb c (some ⟨tk,2⟩) (.inr (.inr (.inl ⟨tk,rfl,hlv⟩)))) ?_
 rintro _ _ ⟨rfl,rfl⟩
 refine NS (gK 2 [(4,vI 0)] [] ?_)
 refine NN (af.ret ?_)
 exact RT (vI 0) [2,3,4,0,5,6,1,7] (⟨L,by rw [show (kE S c)=(0,S,mo S.O c (some ⟨tk,2⟩)) by unfold kE;rw [dN]]<;>exact⟨rfl,rfl⟩⟩)
theorem Gf {β:Bs} (S:aI) (L:HL) (f m t:Nat) (hI:Inv S) (cb:Nat) (c:aB) (hC:fX β c) :
    Spec Tryz.prog β 100 #[vP f,vP cb] ((pA f m t L S)++[pC cb c]) (fun v l=>∃ L2,v=vI (gE S c).1/\l=((pA f m t L2 ((gE S c).2.1))++[.blk cb (aW ((gE S c).2.2)) 48])):=by
 have hX:=hI.hX
 refine Spec.enter Tryz.func100 rfl Tryz.ntmps100 (Nat.le_of_ble_eq_true rfl) (fun R=>?_)
 refine SR (gK 1 [] [] ?_)
 refine NS (gK 2 [(8,vP f),(9,vP cb)] [] ?_)
 rcases BW hI.toInv0 c with ⟨e,hnm,hne⟩|⟨tk,hnm,hlv⟩|⟨tk,hnm,hlv⟩|⟨tk,hnm,hlv⟩
 ·refine gL (f:=122) (args:=#[vP f,vP cb]) (pre:=((pA f m t L S)++[pC cb c])) [0,1,2,3,4,5,6] ((by have h:=iF S L f m t hI cb c hC (β:=β);rw [hnm] at h;exact h)) ?_
  rintro _ _ ⟨rfl,rfl⟩
  refine gK 5 [(5,.nilIface),(6,vI (e))] [] ?_
  refine NS (gK 2 [(13,vP cb),(14,.nilIface)] [] ?_)
  refine gL [3,6] (ou S L hI cb c none (.inl rfl)) ?_
  rintro _ _ ⟨rfl,rfl⟩
  refine NS (gK 2 [(4,vI (e))] [] ?_)
  refine NN (af.ret ?_)
  exact RT (vI (e)) [2,3,4,0,5,6,1,7] (⟨L,by rw [show (gE S c)=(e,S,mo S.O c none) by unfold gE;rw [hnm]]<;>exact⟨rfl,rfl⟩⟩)
 ·have hkt:(obj S.O tk).kind=1:=hI.kind hlv
  refine gL (f:=122) (args:=#[vP f,vP cb]) (pre:=((pA f m t L S)++[pC cb c])) [0,1,2,3,4,5,6] ((by have h:=iF S L f m t hI cb c hC (β:=β);rw [hnm] at h;exact h)) ?_
  rintro _ _ ⟨rfl,rfl⟩
  refine gK 5 (JO L tk) [] ?_
  refine NS (gK 2 [(13,vP cb),(14,.iface 129 (vP (L.b tk)))] [] ?_)
  refine gL [3,6] (ou S L hI cb c (some ⟨tk,1⟩) (.inr (.inl ⟨tk,rfl,hlv⟩))) ?_
  rintro _ _ ⟨rfl,rfl⟩
  refine NS (gK 2 [(4,vI 0)] [] ?_)
  refine NN (af.ret ?_)
  exact RT (vI 0) [2,3,4,0,5,6,1,7] (⟨L,by rw [show (gE S c)=(0,S,mo S.O c (some ⟨tk,1⟩)) by unfold gE;rw [hnm]]<;>exact⟨rfl,rfl⟩⟩)
 ·have hkt:(obj S.O tk).kind=2:=hI.kind hlv
  refine gL (f:=122) (args:=#[vP f,vP cb]) (pre:=((pA f m t L S)++[pC cb c])) [0,1,2,3,4,5,6] ((by have h:=iF S L f m t hI cb c hC (β:=β);rw [hnm] at h;exact h)) ?_
  rintro _ _ ⟨rfl,rfl⟩
  refine gK 5 (JQ L tk) [] ?_
  refine NS (gK 2 [(13,vP cb),(14,.iface 135 (vP (L.b tk)))] [] ?_)
  refine gL [3,6] (ou S L hI cb c (some ⟨tk,2⟩) (.inr (.inr (.inl ⟨tk,rfl,hlv⟩)))) ?_
  rintro _ _ ⟨rfl,rfl⟩
  refine NS (gK 2 [(4,vI 0)] [] ?_)
  refine NN (af.ret ?_)
  exact RT (vI 0) [2,3,4,0,5,6,1,7] (⟨L,by rw [show (gE S c)=(0,S,mo S.O c (some ⟨tk,2⟩)) by unfold gE;rw [hnm]]<;>exact⟨rfl,rfl⟩⟩)
 have hkt:(obj S.O tk).kind=3:=hI.kind hlv
 refine gL (f:=122) (args:=#[vP f,vP cb]) (pre:=((pA f m t L S)++[pC cb c])) [0,1,2,3,4,5,6] ((by have h:=iF S L f m t hI cb c hC (β:=β);rw [hnm] at h;exact h)) ?_
 rintro _ _ ⟨rfl,rfl⟩
 refine gK 5 [(5,.iface 132 (vP (L.b tk))),(6,vI 0)] [] ?_
 refine NS (gK 2 [(13,vP cb),(14,.iface 132 (vP (L.b tk)))] [] ?_)
 refine gL [3,6] (ou S L hI cb c (some ⟨tk,3⟩) (.inr (.inr (.inr ⟨tk,rfl,hlv⟩)))) ?_
 rintro _ _ ⟨rfl,rfl⟩
 refine NS (gK 2 [(4,vI 0)] [] ?_)
 refine NN (af.ret ?_)
 exact RT (vI 0) [2,3,4,0,5,6,1,7] (⟨L,by rw [show (gE S c)=(0,S,mo S.O c (some ⟨tk,3⟩)) by unfold gE;rw [hnm]]<;>exact⟨rfl,rfl⟩⟩)
theorem G7 {β:Bs} (S:aI) (L:HL) (f m t:Nat) (hI:Inv S) (cb:Nat) (c:aB) (hC:fX β c) :
    Spec Tryz.prog β 101 #[vP f,vP cb] ((pA f m t L S)++[pC cb c]) (fun v l=>∃ L2,v=vI (jr S c).1/\l=((pA f m t L2 ((jr S c).2.1))++[.blk cb (aW ((jr S c).2.2)) 48])):=by
 have hX:=hI.hX
 refine Spec.enter Tryz.func101 rfl Tryz.ntmps101 (Nat.le_of_ble_eq_true rfl) (fun R=>?_)
 refine af.seq ?_
 rcases hI.hand c.handle with dN|⟨tk,dN,hlv⟩|⟨tk,dN,hlv⟩
 ·refine af.region (gK 1 [] [] ?_)
  refine NN (af.seq (af.iY (S:=[pF f m t S.X,pC cb c]) [(true,0),(true,1),(true,2),(true,3),(true,4),(true,5),(true,6),(true,7),(false,8),(true,9),(true,10),(true,11),(true,12),(false,13)] [0,6] (by kernel_rfl) (by kernel_rfl) rfl (by kernel_rfl) ?_))
  refine gG [(false,8),(true,9),(true,10),(true,11),(true,12),(false,13)] ([(0,vP f)]++Dt t c) [0,1,2,3,4,5,6,7] [(3,a_ 0 f),(7,a_ 1 cb)] ?_
  refine fk.cut (ι:=Unit) (fr':=fun (_:Unit)=>[(0,vP f),(16,.tuple #[.nilIface,vI 131])]) (hp':=fun (_:Unit)=>([j7 t S L]++rz f m t S L cb c R)) [1,6] (by kernel_rfl) ?_ rfl (fun _=>by kernel_rfl) ?_
  ·refine gL [2] (GQ t S.X.cH S.aD (bq L S.us) c.handle hC.hw (qd dN)) ?_
   rintro _ _ ⟨rfl,rfl⟩
   refine NL ?_
   exact MD () [0,16] [0,1,2,3,4,5,6,7]
  rintro _
  refine gG [(false,13)] [(0,vP f),(5,.nilIface),(18,vI 131)] [9,10,11,12] [] ?_
  refine fk.last (by kernel_rfl) ?_
  refine gK 1 [(6,vI 131)] [] ?_
  refine NL (ai.np (NX (af.seq (SR ?_))))
  refine gK 2 [(20,.bool true)] [] ?_
  refine NN (CT (SR (gK 2 [(4,vI 131)] [] ?_)))
  refine NN (af.ret (ai.ar ?_))
  exact RT (vI 131) [1,2,0,3,4,5,6,7] (⟨L,by rw [show (jr S c)=(131,S,c) by unfold jr;rw [dN]]<;>exact⟨rfl,rfl⟩⟩)
 ·have hkt:(obj S.O tk).kind=1:=hI.kind hlv
  have hid:=hI.ob _ hlv
  have qm:=hI.KO hlv
  have hdl:=hI.Fx hlv
  have hop:0 < (obj S.O tk).opens/\(obj S.O tk).opens<=1024:=⟨by have h1:=hI.opens _ hlv;have h2:=HX dN;simp only at h1 h2;omega,(hI.DW hlv).2⟩
  refine af.region (gK 1 [] [] ?_)
  refine NN (af.seq (af.iY (S:=[pF f m t S.X,pC cb c]) [(true,0),(true,1),(true,2),(true,3),(true,4),(true,5),(true,6),(true,7),(false,8),(true,9),(true,10),(true,11),(true,12),(false,13)] [0,6] (by kernel_rfl) (by kernel_rfl) rfl (by kernel_rfl) ?_))
  refine gG [(false,8),(true,9),(true,10),(true,11),(true,12),(false,13)] ([(0,vP f)]++Dt t c) [0,1,2,3,4,5,6,7] [(3,a_ 0 f),(7,a_ 1 cb)] ?_
  refine fk.cut (ι:=Unit) (fr':=fun (_:Unit)=>[(0,vP f),(16,.tuple #[.iface 129 (vP (L.b tk)),vI 0])]) (hp':=fun (_:Unit)=>([pT t S.X.cH S.aD L (del c.handle S.us)]++rz f m t S L cb c R)) [1,6] (by kernel_rfl) ?_ rfl (fun _=>by kernel_rfl) ?_
  ·refine gL (f:=135) (args:=#[vP t,vI (c.handle)]) (pre:=[j7 t S L]) [2] ((by have h:=DU (β:=β) t S.X.cH S.aD (bq L S.us) c.handle hC.hw (dQ L ⟨tk,1⟩) (kq dN);rw [← FD] at h;exact h)) ?_
   rintro _ _ ⟨rfl,rfl⟩
   refine NL ?_
   exact MD () [0,16] [0,1,2,3,4,5,6,7]
  rintro _
  refine gG [(false,13)] [(0,vP f),(5,.iface 129 (vP (L.b tk))),(18,vI 0)] [9,10,11,12] [] ?_
  refine fk.last (by kernel_rfl) ?_
  refine gK 1 [(6,vI 0)] [] ?_
  refine NL (ai.np (NX (af.seq (SR ?_))))
  refine gK 2 [(20,.bool false)] [] ?_
  refine NN (CF (af.skip (NX (SR (gK 1 [(22,.iface 129 (vP (L.b tk)))] [] ?_)))))
  refine gL [] (dw (L.b tk)) ?_
  rintro _ _ ⟨rfl,rfl⟩
  refine gK 6 [(27,vI ((obj S.O tk).opens - 1)),(29,.pointer (some ⟨(L.b tk),7,none⟩))] [(2,v_ 3 (jV L hkt)),(3,p_ ⟨[],none,none,none,some (vI ((obj S.O tk).opens - 1))⟩ [(Value.int .i64 (IntKind.wrap .i64 ((obj S.O tk).opens - 1)))=(.int .i64 ((obj S.O tk).opens - 1))] ⟨bA (by omega) (by omega) (by omega),trivial⟩)] ?_
  refine sZ 3 [(5,1),(4,2)] tk 7 (fun o=>{ o with opens:=o.opens - 1 }) hkt (fun cK ct=>?_)
  have jU:=ku ct hkt
  have hf2:(obj cK tk).id=(obj S.O tk).id:=fu aV.id ct rfl
  have hf3:(obj cK tk).data=(obj S.O tk).data:=fu aV.data ct rfl
  refine NS ?_
  have Nz:(obj cK tk).opens=(obj S.O tk).opens - 1:=by rw [ct];exact congrArg aV.opens bR
  refine gK 2 [(30,vP f),(31,.iface 129 (vP (L.b tk)))] [] ?_
  refine gL [3,1,2] (qV S.X f m t hX cK L S.idx hI.rise ⟨tk,1⟩ jU (by simp) (by rw [Nz];omega) (fun _=>by rw [hf2,hid.1];exact hlv) (by rw [hf2];exact qm) (by rw [hf3];exact hdl)) ?_
  rintro _ _ ⟨rfl,rfl⟩
  refine NS (gK 1 [(4,vI 0)] [] ?_)
  refine NN (af.ret ?_)
  exact RT (l:=[pF f m t { S.X with used:=j3 cK S.X.used ⟨tk,1⟩ },pI m L (jN cK S.idx ⟨tk,1⟩),pT t S.X.cH S.aD L (del c.handle S.us),pO cK L,pD cK L,pE cK L,pC cb c]) (.int .i64 0) [1,2,3,0,4,5,6,7] (⟨L,by subst ct;rw [show jr S c=(0,_,c) by unfold jr;rw [dN]];exact⟨rfl,rfl⟩⟩)
 have hkt:(obj S.O tk).kind=2:=hI.kind hlv
 have hid:=hI.ob _ hlv
 have qm:=hI.KO hlv
 have hdl:=hI.Fx hlv
 have hop:0 < (obj S.O tk).opens/\(obj S.O tk).opens<=1024:=⟨by have h1:=hI.opens _ hlv;have h2:=HX dN;simp only at h1 h2;omega,(hI.DW hlv).2⟩
 refine af.region (gK 1 [] [] ?_)
 refine NN (af.seq (af.iY (S:=[pF f m t S.X,pC cb c]) [(true,0),(true,1),(true,2),(true,3),(true,4),(true,5),(true,6),(true,7),(false,8),(true,9),(true,10),(true,11),(true,12),(false,13)] [0,6] (by kernel_rfl) (by kernel_rfl) rfl (by kernel_rfl) ?_))
 refine gG [(false,8),(true,9),(true,10),(true,11),(true,12),(false,13)] ([(0,vP f)]++Dt t c) [0,1,2,3,4,5,6,7] [(3,a_ 0 f),(7,a_ 1 cb)] ?_
 refine fk.cut (ι:=Unit) (fr':=fun (_:Unit)=>[(0,vP f),(16,.tuple #[.iface 135 (vP (L.b tk)),vI 0])]) (hp':=fun (_:Unit)=>([pT t S.X.cH S.aD L (del c.handle S.us)]++rz f m t S L cb c R)) [1,6] (by kernel_rfl) ?_ rfl (fun _=>by kernel_rfl) ?_
 ·refine gL (f:=135) (args:=#[vP t,vI (c.handle)]) (pre:=[j7 t S L]) [2] ((by have h:=DU (β:=β) t S.X.cH S.aD (bq L S.us) c.handle hC.hw (dQ L ⟨tk,2⟩) (kq dN);rw [← FD] at h;exact h)) ?_
  rintro _ _ ⟨rfl,rfl⟩
  refine NL ?_
  exact MD () [0,16] [0,1,2,3,4,5,6,7]
 rintro _
 refine gG [(false,13)] [(0,vP f),(5,.iface 135 (vP (L.b tk))),(18,vI 0)] [9,10,11,12] [] ?_
 refine fk.last (by kernel_rfl) ?_
 refine gK 1 [(6,vI 0)] [] ?_
 refine NL (ai.np (NX (af.seq (SR ?_))))
 refine gK 2 [(20,.bool false)] [] ?_
 refine NN (CF (af.skip (NX (SR (gK 1 [(22,.iface 135 (vP (L.b tk)))] [] ?_)))))
 refine gL [] (dw (L.b tk)) ?_
 rintro _ _ ⟨rfl,rfl⟩
 refine gK 6 [(27,vI ((obj S.O tk).opens - 1)),(29,.pointer (some ⟨(L.b tk),7,none⟩))] [(2,v_ 3 (jV L hkt)),(3,p_ ⟨[],none,none,none,some (vI ((obj S.O tk).opens - 1))⟩ [(Value.int .i64 (IntKind.wrap .i64 ((obj S.O tk).opens - 1)))=(.int .i64 ((obj S.O tk).opens - 1))] ⟨bA (by omega) (by omega) (by omega),trivial⟩)] ?_
 refine sZ 3 [(5,1),(4,2)] tk 7 (fun o=>{ o with opens:=o.opens - 1 }) hkt (fun cK ct=>?_)
 have ye:=ku ct hkt
 have Ls:(obj cK tk).id=(obj S.O tk).id:=fu aV.id ct rfl
 have Rq:(obj cK tk).data=(obj S.O tk).data:=fu aV.data ct rfl
 refine NS ?_
 have Nz:(obj cK tk).opens=(obj S.O tk).opens - 1:=by rw [ct];exact congrArg aV.opens bR
 refine gK 2 [(30,vP f),(31,.iface 135 (vP (L.b tk)))] [] ?_
 refine gL [3,1,2] (qV S.X f m t hX cK L S.idx hI.rise ⟨tk,2⟩ ye (by simp) (by rw [Nz];omega) (fun _=>by rw [Ls,hid.1];exact hlv) (by rw [Ls];exact qm) (by rw [Rq];exact hdl)) ?_
 rintro _ _ ⟨rfl,rfl⟩
 refine NS (gK 1 [(4,vI 0)] [] ?_)
 refine NN (af.ret ?_)
 exact RT (l:=[pF f m t { S.X with used:=j3 cK S.X.used ⟨tk,2⟩ },pI m L (jN cK S.idx ⟨tk,2⟩),pT t S.X.cH S.aD L (del c.handle S.us),pO cK L,pD cK L,pE cK L,pC cb c]) (.int .i64 0) [1,2,3,0,4,5,6,7] (⟨L,by subst ct;rw [show jr S c=(0,_,c) by unfold jr;rw [dN]];exact⟨rfl,rfl⟩⟩)
end
section
open Go.RowKit Go.Maps bH aE
attribute [local irreducible] aj aS af ai
abbrev VH (S:aI) (L:HL) (tk:Nat):=(.abs (ax (kg (bM S.O L) tk cE.none)):HP)
abbrev OY (L:HL) (tk:Nat) (S:aI) (c:aB):=(.blk (L.b tk) [vI ((obj S.O tk).id),vI (c.mode),vI ((obj S.O tk).uid),vI ((obj S.O tk).gid),vI ((obj S.O tk).sec),vI ((obj S.O tk).nano),vI ((obj S.O tk).links),vI ((obj S.O tk).opens),.bool (obj S.O tk).gone,.slice (L.dA tk) ((obj S.O tk).data.length) ((L.dC tk))] 131:HP)
abbrev OZ (L:HL) (tk:Nat) (S:aI) (c:aB):=(.blk (L.b tk) [vI ((obj S.O tk).id),vI (c.mode),vI (c.uid),vI ((obj S.O tk).gid),vI ((obj S.O tk).sec),vI ((obj S.O tk).nano),vI ((obj S.O tk).links),vI ((obj S.O tk).opens),.bool (obj S.O tk).gone,.slice (L.dA tk) ((obj S.O tk).data.length) ((L.dC tk))] 131:HP)
abbrev O0 (L:HL) (tk:Nat) (S:aI) (c:aB):=(.blk (L.b tk) [vI ((obj S.O tk).id),vI (c.mode),vI (c.uid),vI (c.gid),vI ((obj S.O tk).sec),vI ((obj S.O tk).nano),vI ((obj S.O tk).links),vI ((obj S.O tk).opens),.bool (obj S.O tk).gone,.slice (L.dA tk) ((obj S.O tk).data.length) ((L.dC tk))] 131:HP)
abbrev TF (L:HL) (tk:Nat) (S:aI) (c:aB):=(.blk (L.b tk) [vI ((obj S.O tk).id),vI (c.mode),vI ((obj S.O tk).uid),vI ((obj S.O tk).gid),vI ((obj S.O tk).sec),vI ((obj S.O tk).nano),vI ((obj S.O tk).links),vI ((obj S.O tk).opens),.bool (obj S.O tk).gone,.map (some (L.m tk)),(uL L (obj S.O tk).up)] 138:HP)
abbrev TG (L:HL) (tk:Nat) (S:aI) (c:aB):=(.blk (L.b tk) [vI ((obj S.O tk).id),vI (c.mode),vI (c.uid),vI ((obj S.O tk).gid),vI ((obj S.O tk).sec),vI ((obj S.O tk).nano),vI ((obj S.O tk).links),vI ((obj S.O tk).opens),.bool (obj S.O tk).gone,.map (some (L.m tk)),(uL L (obj S.O tk).up)] 138:HP)
abbrev TH (L:HL) (tk:Nat) (S:aI) (c:aB):=(.blk (L.b tk) [vI ((obj S.O tk).id),vI (c.mode),vI (c.uid),vI (c.gid),vI ((obj S.O tk).sec),vI ((obj S.O tk).nano),vI ((obj S.O tk).links),vI ((obj S.O tk).opens),.bool (obj S.O tk).gone,.map (some (L.m tk)),(uL L (obj S.O tk).up)] 138:HP)
abbrev TJ (S:aI) (c:aB) (L2:HL):=(pO (aF S.O (aR S.X) (fun _=>(⟨0,c.mode,0,0,0,0,0,0,false,1,[],⟨#[]⟩,[],none⟩:aV))) L2:HP)
abbrev pR (f:Nat) (m:Nat) (t) (S:aI) (L:HL) (tk:Nat) (cb:Nat) (c) (R:cE):=([pF f m t S.X,pI m L S.idx,j7 t S L,VH S L tk,pD S.O L,pE S.O L,pC cb c,.abs R]:List HP)
abbrev NA (L:HL) (tk:Nat) (c:aB):=([(65,vP (L.b tk)),(66,vP (L.b tk)),(67,vP (L.b tk)),(71,vI (c.mode)),(75,vI (c.uid)),(79,vI (c.gid)),(83,.agg #[vI (c.sec),vI (c.nano)]),(85,.pointer (some ⟨(L.b tk),1,none⟩))]:Fr)
abbrev rA (c:aB):=([(79,vI (c.gid)),(83,.agg #[vI (c.sec),vI (c.nano)])]:Fr)
abbrev Dv (L:HL) (tk:Nat) (c:aB):=([(66,vP (L.b tk)),(67,vP (L.b tk)),(75,vI (c.uid))]:Fr)
abbrev NC (c:aB) (L:HL) (tk:Nat):=([(83,.agg #[vI (c.sec),vI (c.nano)]),(91,.pointer (some ⟨(L.b tk),4,none⟩))]:Fr)
abbrev ND (t)(c:aB):=([(12,vP t),(16,vI (c.handle))]:Fr)
abbrev RA (cb:Nat) (f:Nat) (b4:Nat):=([(49,vP cb),(50,vP f),(52,.iface 129 (vP b4))]:Fr)
theorem Eu {β:Bs} (S:aI) (L:HL) (f m t:Nat) (hI:Inv S) (cb:Nat) (c:aB) (hC:fX β c) :
    Spec Tryz.prog β 98 #[vP f,vP cb] ((pA f m t L S)++[pC cb c]) (fun v l=>∃ L2,v=vI (bP S c).1/\l=((pA f m t L2 ((bP S c).2.1))++[.blk cb (aW ((bP S c).2.2)) 48])):=by
 have hX:=hI.hX
 refine Spec.enter Tryz.func98 rfl Tryz.ntmps98 (Nat.le_of_ble_eq_true rfl) (fun R=>?_)
 refine af.seq ?_
 rcases hI.hand c.handle with dN|⟨tk,dN,hlv⟩|⟨tk,dN,hlv⟩
 ·refine af.region (gK 1 [] [] ?_)
  refine NN (af.seq (af.bK (by kernel_rfl) (by kernel_rfl) ?_))
  refine gQ 8 (ND t c) [(3,a_ 0 f),(7,a_ 6 cb)] ?_
  refine aS.call (f:=132) (args:=#[vP t,vI (c.handle)]) (d:=(some 17)) (pre:=[j7 t S L]) (R:=(rz f m t S L cb c R)) (pk:=[2,0,1,3,4,5,6,7]) (iZ:=[1,2,0,3,4,5,6,7]) (v0:=.tuple #[.nilIface,vI 131]) (fun _=>by kernel_rfl) (qK t S.X.cH S.aD (bq L S.us) c.handle hC.hw (qd dN)) rfl (by kernel_rfl) rfl (by kernel_rfl) (fun _ _ h=>h) ?_
  refine gQ 5 [(5,.nilIface),(6,vI 131)] [] ?_
  refine NQ (NX (af.seq (SR ?_)))
  refine gK 2 [(21,.bool true)] [] ?_
  refine NN (CT (SR (gK 2 [(4,vI 131)] [] ?_)))
  refine NN (af.ret (ai.ar ?_))
  exact RT (vI 131) [0,1,2,3,4,5,6,7] (⟨L,by rw [show (bP S c)=(131,S,c) by unfold bP;rw [dN]]<;>exact⟨rfl,rfl⟩⟩)
 ·have hkt:(obj S.O tk).kind=1:=hI.kind hlv
  refine af.region (gK 1 [] [] ?_)
  refine NN (af.seq (af.bK (by kernel_rfl) (by kernel_rfl) ?_))
  refine gQ 8 (ND t c) [(3,a_ 0 f),(7,a_ 6 cb)] ?_
  refine aS.call (f:=132) (args:=#[vP t,vI (c.handle)]) (d:=(some 17)) (pre:=[j7 t S L]) (R:=(rz f m t S L cb c R)) (pk:=[2,0,1,3,4,5,6,7]) (iZ:=[1,2,0,3,4,5,6,7]) (v0:=.tuple #[.iface 129 (vP (L.b tk)),vI 0]) (fun _=>by kernel_rfl) (lu t S.X.cH S.aD (bq L S.us) c.handle hC.hw (dQ L ⟨tk,1⟩) (kq dN)) rfl (by kernel_rfl) rfl (by kernel_rfl) (fun _ _ h=>h) ?_
  refine gQ 5 (JO L tk) [] ?_
  refine NQ (NX (af.seq (SR ?_)))
  refine gK 2 [(21,.bool false)] [] ?_
  refine NN (CF (af.skip (NX (SR (gK 1 [(23,.iface 129 (vP (L.b tk)))] [] ?_)))))
  refine gL [] (dw (L.b tk)) ?_
  rintro _ _ ⟨rfl,rfl⟩
  refine gK 1 [(7,vP (L.b tk))] [] ?_
  refine NN (af.seq (af.block (SR ?_)))
  refine gK 5 [(30,.bool (obj S.O tk).gone)] [(3,v_ 3 (nQ L hkt))] ?_
  refine aj.nU 30 (obj S.O tk).gone (fun _=>by kernel_rfl) (fun mO=>?_) (fun mO=>?_)
  ·refine gK 1 [(31,.iface 129 (vP (L.b tk)))] [] ?_
   refine gL [] (mJ (vP (L.b tk))) ?_
   rintro _ _ ⟨rfl,rfl⟩
   refine gK 3 [(25,.bool false)] [] ?_
   refine NN (CF (SR (gK 4 [(39,vI (c.mode))] [(3,a_ 6 cb)] ?_)))
   refine gL [] (fR (c.mode) 4095) ?_
   rintro _ _ ⟨rfl,rfl⟩
   refine gK 2 [(35,.bool (!(decide (0<=c.mode/\c.mode<=4095))))] [] ?_
   refine NN (af.dm (p:=0<=c.mode/\c.mode<=4095) (fun _=>by kernel_rfl) (fun jQ=>?_) (fun jQ=>?_))
   ·refine SR (gK 1 [(4,vI 120)] [] ?_)
    refine NN (af.ret (ai.aG (ai.ar ?_)))
    exact RT (vI 120) [0,1,2,3,4,5,6,7] (⟨L,by rw [show (bP S c)=(120,S,c) by unfold bP;rw [dN];exact (if_neg (fun h=>absurd h.2 (by simp))).trans (if_neg jQ)]<;>exact⟨rfl,rfl⟩⟩)
   refine SR (gK 4 [(46,vI (c.uid))] [(3,a_ 6 cb)] ?_)
   refine gL [] (fR (c.uid) 2147483647) ?_
   rintro _ _ ⟨rfl,rfl⟩
   refine gK 2 [(49,.bool (!(decide (0<=c.uid/\c.uid<=2147483647))))] [] ?_
   refine aj.iI 49 (0<=c.uid/\c.uid<=2147483647) (fun _=>by kernel_rfl) (fun tY=>?_) (fun tY=>?_)
   ·refine gK 8 [(42,.bool true)] [] ?_
    refine NN (CT (SR (gK 1 [(4,vI 11)] [] ?_)))
    refine NN (af.ret (ai.aG (ai.ar ?_)))
    exact RT (vI 11) [0,1,2,3,4,5,6,7] (⟨L,by rw [show (bP S c)=(11,S,c) by unfold bP;rw [dN];exact (if_neg (fun h=>absurd h.2 (by simp))).trans ((if_pos jQ).trans (if_neg (fun h=>tY h.1)))]<;>exact⟨rfl,rfl⟩⟩)
   refine gK 4 [(53,vI (c.gid))] [(3,a_ 6 cb)] ?_
   refine gL [] (fR (c.gid) 2147483647) ?_
   rintro _ _ ⟨rfl,rfl⟩
   refine gK 3 [(42,.bool (!(decide (0<=c.gid/\c.gid<=2147483647))))] [] ?_
   refine NN (af.dm (p:=0<=c.gid/\c.gid<=2147483647) (fun _=>by kernel_rfl) (fun tZ=>?_) (fun tZ=>?_))
   ·refine SR (gK 1 [(4,vI 11)] [] ?_)
    refine NN (af.ret (ai.aG (ai.ar ?_)))
    exact RT (vI 11) [0,1,2,3,4,5,6,7] (⟨L,by rw [show (bP S c)=(11,S,c) by unfold bP;rw [dN];exact (if_neg (fun h=>absurd h.2 (by simp))).trans ((if_pos jQ).trans (if_neg (fun h=>tZ h.2)))]<;>exact⟨rfl,rfl⟩⟩)
   refine SR (gK 4 [(61,.agg #[vI (c.sec),vI (c.nano)])] [(3,A_ 6 cb 2)] ?_)
   refine gL [] (iC c.sec c.nano) ?_
   rintro _ _ ⟨rfl,rfl⟩
   refine gK 2 [(57,.bool (!(decide (dW c.sec c.nano))))] [] ?_
   refine NN (af.dm (p:=dW c.sec c.nano) (fun _=>by kernel_rfl) (fun vu=>?_) (fun vu=>?_))
   ·refine SR (gK 1 [(4,vI 20)] [] ?_)
    refine NN (af.ret (ai.aG (ai.ar ?_)))
    exact RT (vI 20) [0,1,2,3,4,5,6,7] (⟨L,by rw [show (bP S c)=(20,S,c) by unfold bP;rw [dN];exact (if_neg (fun h=>absurd h.2 (by simp))).trans ((if_pos jQ).trans ((if_pos ⟨tY,tZ⟩).trans (if_neg vu)))]<;>exact⟨rfl,rfl⟩⟩)
   refine af.skip (ai.aJ (NX (af.seq ?_)))
   skip
   refine af.mem (fun w hS=>hS.xJ (i:=3) (k:=tk) rfl (by rw [hkt];decide) (gY (hkt)) (congrArg ko (hkt))) ?_
   refine af.bT (S:=[pC cb c]) [0,1,2,3,4,5,6,7,8,9,10,11,12,13,14,15,16,17,18,19,20,21,22,23,24,25,26,27,28,29,30,31] 22 [6] (by kernel_rfl) (by kernel_rfl) rfl (by kernel_rfl) ?_
   refine gR 0 [22,23,24,25,26,27,28,29,30,31] (NA L tk c) [0,1,2,3,4,5,6,7,8,9,10,11,12,13,14,15,16,17,18,19,20,21] [(7,a_ 0 cb),(11,a_ 0 cb),(15,a_ 0 cb),(19,A_ 0 cb 2)] ?_
   refine mC [6] [] [(0,a_ 8 (L.b tk))] [(8,[(1,vI (c.mode))])] ?_
   refine aQ.cut (ι:=Unit) (fr':=fun (_:Unit)=>(Dv L tk c++rA c++[(86,vP (L.b tk))])) (hp':=fun (_:Unit)=>(pR f m t S L tk cb c R++[OY L tk S c])) [6] rfl rfl ?_ rfl (fun _=>by kernel_rfl) ?_
   ·refine gK 1 [(86,vP (L.b tk))] [] ?_
    refine NL ?_
    exact MD () [66,67,75,79,83,86] [0,1,2,3,4,5,6,7,8]
   rintro _
   refine aQ.cut (ι:=Unit) (fr':=fun (_:Unit)=>(Dv L tk c++rA c++[(87,.pointer (some ⟨(L.b tk),2,none⟩))])) (hp':=fun (_:Unit)=>(pR f m t S L tk cb c R++[OY L tk S c])) [6] rfl rfl ?_ rfl (fun _=>by kernel_rfl) ?_
   ·refine gK 1 [(87,.pointer (some ⟨(L.b tk),2,none⟩))] [] ?_
    refine NL ?_
    exact MD () [66,67,75,79,83,87] [0,1,2,3,4,5,6,7,8]
   rintro _
   refine mC [6] [] [(0,a_ 8 (L.b tk))] [(8,[(2,vI (c.uid))])] ?_
   refine aQ.cut (ι:=Unit) (fr':=fun (_:Unit)=>([(67,vP (L.b tk))]++rA c++[(88,vP (L.b tk))])) (hp':=fun (_:Unit)=>(pR f m t S L tk cb c R++[OZ L tk S c])) [6] rfl rfl ?_ rfl (fun _=>by kernel_rfl) ?_
   ·refine gK 1 [(88,vP (L.b tk))] [] ?_
    refine NL ?_
    exact MD () [67,79,83,88] [0,1,2,3,4,5,6,7,8]
   rintro _
   refine aQ.cut (ι:=Unit) (fr':=fun (_:Unit)=>([(67,vP (L.b tk))]++rA c++[(89,.pointer (some ⟨(L.b tk),3,none⟩))])) (hp':=fun (_:Unit)=>(pR f m t S L tk cb c R++[OZ L tk S c])) [6] rfl rfl ?_ rfl (fun _=>by kernel_rfl) ?_
   ·refine gK 1 [(89,.pointer (some ⟨(L.b tk),3,none⟩))] [] ?_
    refine NL ?_
    exact MD () [67,79,83,89] [0,1,2,3,4,5,6,7,8]
   rintro _
   refine mC [6] [] [(0,a_ 8 (L.b tk))] [(8,[(3,vI (c.gid))])] ?_
   refine aQ.cut (ι:=Unit) (fr':=fun (_:Unit)=>[(83,.agg #[vI (c.sec),vI (c.nano)]),(90,vP (L.b tk))]) (hp':=fun (_:Unit)=>(pR f m t S L tk cb c R++[O0 L tk S c])) [6] rfl rfl ?_ rfl (fun _=>by kernel_rfl) ?_
   ·refine gK 1 [(90,vP (L.b tk))] [] ?_
    refine NL ?_
    exact MD () [83,90] [0,1,2,3,4,5,6,7,8]
   rintro _
   refine aQ.cut (ι:=Unit) (fr':=fun (_:Unit)=>(NC c L tk)) (hp':=fun (_:Unit)=>(pR f m t S L tk cb c R++[O0 L tk S c])) [6] rfl rfl ?_ rfl (fun _=>by kernel_rfl) ?_
   ·refine gK 1 [(91,.pointer (some ⟨(L.b tk),4,none⟩))] [] ?_
    refine NL ?_
    exact MD () [83,91] [0,1,2,3,4,5,6,7,8]
   rintro _
   refine aQ.last rfl rfl ?_
   refine gC 1 [] [(0,A_ 8 (L.b tk) 2)] [(8,[(4,vI (c.sec)),(5,vI (c.nano))])] ?_
   refine NL (ai.np (NX (SR ?_)))
   refine aj.mem (cR:=[.abs (ax (bM (aF S.O tk (fun o=>{ o with mode:=c.mode,uid:=c.uid,gid:=c.gid,sec:=c.sec,nano:=c.nano })) L)),.blk f [vI (S.X.cN),vI (S.X.cB),vI (S.X.cH),vI (S.X.cS),vI (S.X.cZ),.map (some m),vP t,vI (S.X.last),vI (S.X.ah),vI (S.X.used)] 126,.abs (aN Tryz.prog 3 m (bp (bq L S.idx)) S.idx.length),.abs (cV 197 t S.X.cH S.aD (bq L S.us)),.abs (ax (bN (aF S.O tk (fun o=>{ o with mode:=c.mode,uid:=c.uid,gid:=c.gid,sec:=c.sec,nano:=c.nano })) L)),.abs (ax (cF (aF S.O tk (fun o=>{ o with mode:=c.mode,uid:=c.uid,gid:=c.gid,sec:=c.sec,nano:=c.nano })) L)),.blk cb [vI (c.op),vI (c.handle),vI (c.other),.string c.name,.string c.text,.slice c.dA (c.data.length) (c.dC),vI (c.mode),vI (c.uid),vI (c.gid),vI (c.sec),vI (c.nano),vI (c.code),vI (c.answer)] 48,.abs R]) (fun w hS=>by have h:=hS.yX (O:=S.O) (L:=L) (i:=3) (j:=8) (idx:=[0,1,2,4,5,6,7]) (k:=tk) (f:=(fun o=>{ o with mode:=c.mode,uid:=c.uid,gid:=c.gid,sec:=c.sec,nano:=c.nano })) rfl (fun _ hx=>oI hx) rfl (by kernel_rfl) rfl (by show (obj S.O tk).kind≠0;rw [hkt];decide) ((gY (o:=(fun o=>{ o with mode:=c.mode,uid:=c.uid,gid:=c.gid,sec:=c.sec,nano:=c.nano }) (obj S.O tk)) (hkt)).trans rfl) (by show ko (obj S.O tk).kind=_;rw [hkt]<;>rfl);rw [mZ (O:=S.O) (k:=tk) (f:=(fun o=>{ o with mode:=c.mode,uid:=c.uid,gid:=c.gid,sec:=c.sec,nano:=c.nano })) rfl rfl,ng (O:=S.O) (k:=tk) (f:=(fun o=>{ o with mode:=c.mode,uid:=c.uid,gid:=c.gid,sec:=c.sec,nano:=c.nano })) rfl rfl];exact h) ?_
   have jU:(obj (aF S.O tk (fun o=>{ o with mode:=c.mode,uid:=c.uid,gid:=c.gid,sec:=c.sec,nano:=c.nano })) tk).kind=1:=(jJ (f:=(fun o=>{ o with mode:=c.mode,uid:=c.uid,gid:=c.gid,sec:=c.sec,nano:=c.nano })) (fun _=>rfl)).trans (hkt)
   generalize ct:(aF S.O tk (fun o=>{ o with mode:=c.mode,uid:=c.uid,gid:=c.gid,sec:=c.sec,nano:=c.nano }))=cK at jU ⊢
   refine gK 1 [(4,vI 0)] [] ?_
   refine NN (af.ret ?_)
   exact RT (l:=[pF f m t S.X,pI m L S.idx,j7 t S L,pO cK L,pD cK L,pE cK L,pC cb c]) (.int .i64 0) [1,2,3,0,4,5,6,7] (⟨L,by subst ct;rw [show (bP S c)=(0,{ S with O:=aF S.O tk (fun o=>{ o with mode:=c.mode,uid:=c.uid,gid:=c.gid,sec:=c.sec,nano:=c.nano }) },c) by unfold bP;rw [dN];exact (if_neg (fun h=>absurd h.2 (by simp))).trans ((if_pos jQ).trans ((if_pos ⟨tY,tZ⟩).trans (if_pos vu)))]<;>exact⟨rfl,rfl⟩⟩)
  refine gK 5 [(25,.bool false)] [] ?_
  refine NN (CF (SR (gK 4 [(39,vI (c.mode))] [(3,a_ 6 cb)] ?_)))
  refine gL [] (fR (c.mode) 4095) ?_
  rintro _ _ ⟨rfl,rfl⟩
  refine gK 2 [(35,.bool (!(decide (0<=c.mode/\c.mode<=4095))))] [] ?_
  refine NN (af.dm (p:=0<=c.mode/\c.mode<=4095) (fun _=>by kernel_rfl) (fun jQ=>?_) (fun jQ=>?_))
  ·refine SR (gK 1 [(4,vI 120)] [] ?_)
   refine NN (af.ret (ai.aG (ai.ar ?_)))
   exact RT (vI 120) [0,1,2,3,4,5,6,7] (⟨L,by rw [show (bP S c)=(120,S,c) by unfold bP;rw [dN];exact (if_neg (fun h=>absurd h.2 (by simp))).trans (if_neg jQ)]<;>exact⟨rfl,rfl⟩⟩)
  refine SR (gK 4 [(46,vI (c.uid))] [(3,a_ 6 cb)] ?_)
  refine gL [] (fR (c.uid) 2147483647) ?_
  rintro _ _ ⟨rfl,rfl⟩
  refine gK 2 [(49,.bool (!(decide (0<=c.uid/\c.uid<=2147483647))))] [] ?_
  refine aj.iI 49 (0<=c.uid/\c.uid<=2147483647) (fun _=>by kernel_rfl) (fun tY=>?_) (fun tY=>?_)
  ·refine gK 8 [(42,.bool true)] [] ?_
   refine NN (CT (SR (gK 1 [(4,vI 11)] [] ?_)))
   refine NN (af.ret (ai.aG (ai.ar ?_)))
   exact RT (vI 11) [0,1,2,3,4,5,6,7] (⟨L,by rw [show (bP S c)=(11,S,c) by unfold bP;rw [dN];exact (if_neg (fun h=>absurd h.2 (by simp))).trans ((if_pos jQ).trans (if_neg (fun h=>tY h.1)))]<;>exact⟨rfl,rfl⟩⟩)
  refine gK 4 [(53,vI (c.gid))] [(3,a_ 6 cb)] ?_
  refine gL [] (fR (c.gid) 2147483647) ?_
  rintro _ _ ⟨rfl,rfl⟩
  refine gK 3 [(42,.bool (!(decide (0<=c.gid/\c.gid<=2147483647))))] [] ?_
  refine NN (af.dm (p:=0<=c.gid/\c.gid<=2147483647) (fun _=>by kernel_rfl) (fun tZ=>?_) (fun tZ=>?_))
  ·refine SR (gK 1 [(4,vI 11)] [] ?_)
   refine NN (af.ret (ai.aG (ai.ar ?_)))
   exact RT (vI 11) [0,1,2,3,4,5,6,7] (⟨L,by rw [show (bP S c)=(11,S,c) by unfold bP;rw [dN];exact (if_neg (fun h=>absurd h.2 (by simp))).trans ((if_pos jQ).trans (if_neg (fun h=>tZ h.2)))]<;>exact⟨rfl,rfl⟩⟩)
  refine SR (gK 4 [(61,.agg #[vI (c.sec),vI (c.nano)])] [(3,A_ 6 cb 2)] ?_)
  refine gL [] (iC c.sec c.nano) ?_
  rintro _ _ ⟨rfl,rfl⟩
  refine gK 2 [(57,.bool (!(decide (dW c.sec c.nano))))] [] ?_
  refine NN (af.dm (p:=dW c.sec c.nano) (fun _=>by kernel_rfl) (fun vu=>?_) (fun vu=>?_))
  ·refine SR (gK 1 [(4,vI 20)] [] ?_)
   refine NN (af.ret (ai.aG (ai.ar ?_)))
   exact RT (vI 20) [0,1,2,3,4,5,6,7] (⟨L,by rw [show (bP S c)=(20,S,c) by unfold bP;rw [dN];exact (if_neg (fun h=>absurd h.2 (by simp))).trans ((if_pos jQ).trans ((if_pos ⟨tY,tZ⟩).trans (if_neg vu)))]<;>exact⟨rfl,rfl⟩⟩)
  refine af.skip (ai.aJ (NX (af.seq ?_)))
  skip
  refine af.mem (fun w hS=>hS.xJ (i:=3) (k:=tk) rfl (by rw [hkt];decide) (gY (hkt)) (congrArg ko (hkt))) ?_
  refine af.bT (S:=[pC cb c]) [0,1,2,3,4,5,6,7,8,9,10,11,12,13,14,15,16,17,18,19,20,21,22,23,24,25,26,27,28,29,30,31] 22 [6] (by kernel_rfl) (by kernel_rfl) rfl (by kernel_rfl) ?_
  refine gR 0 [22,23,24,25,26,27,28,29,30,31] (NA L tk c) [0,1,2,3,4,5,6,7,8,9,10,11,12,13,14,15,16,17,18,19,20,21] [(7,a_ 0 cb),(11,a_ 0 cb),(15,a_ 0 cb),(19,A_ 0 cb 2)] ?_
  refine mC [6] [] [(0,a_ 8 (L.b tk))] [(8,[(1,vI (c.mode))])] ?_
  refine aQ.cut (ι:=Unit) (fr':=fun (_:Unit)=>(Dv L tk c++rA c++[(86,vP (L.b tk))])) (hp':=fun (_:Unit)=>(pR f m t S L tk cb c R++[OY L tk S c])) [6] rfl rfl ?_ rfl (fun _=>by kernel_rfl) ?_
  ·refine gK 1 [(86,vP (L.b tk))] [] ?_
   refine NL ?_
   exact MD () [66,67,75,79,83,86] [0,1,2,3,4,5,6,7,8]
  rintro _
  refine aQ.cut (ι:=Unit) (fr':=fun (_:Unit)=>(Dv L tk c++rA c++[(87,.pointer (some ⟨(L.b tk),2,none⟩))])) (hp':=fun (_:Unit)=>(pR f m t S L tk cb c R++[OY L tk S c])) [6] rfl rfl ?_ rfl (fun _=>by kernel_rfl) ?_
  ·refine gK 1 [(87,.pointer (some ⟨(L.b tk),2,none⟩))] [] ?_
   refine NL ?_
   exact MD () [66,67,75,79,83,87] [0,1,2,3,4,5,6,7,8]
  rintro _
  refine mC [6] [] [(0,a_ 8 (L.b tk))] [(8,[(2,vI (c.uid))])] ?_
  refine aQ.cut (ι:=Unit) (fr':=fun (_:Unit)=>([(67,vP (L.b tk))]++rA c++[(88,vP (L.b tk))])) (hp':=fun (_:Unit)=>(pR f m t S L tk cb c R++[OZ L tk S c])) [6] rfl rfl ?_ rfl (fun _=>by kernel_rfl) ?_
  ·refine gK 1 [(88,vP (L.b tk))] [] ?_
   refine NL ?_
   exact MD () [67,79,83,88] [0,1,2,3,4,5,6,7,8]
  rintro _
  refine aQ.cut (ι:=Unit) (fr':=fun (_:Unit)=>([(67,vP (L.b tk))]++rA c++[(89,.pointer (some ⟨(L.b tk),3,none⟩))])) (hp':=fun (_:Unit)=>(pR f m t S L tk cb c R++[OZ L tk S c])) [6] rfl rfl ?_ rfl (fun _=>by kernel_rfl) ?_
  ·refine gK 1 [(89,.pointer (some ⟨(L.b tk),3,none⟩))] [] ?_
   refine NL ?_
   exact MD () [67,79,83,89] [0,1,2,3,4,5,6,7,8]
  rintro _
  refine mC [6] [] [(0,a_ 8 (L.b tk))] [(8,[(3,vI (c.gid))])] ?_
  refine aQ.cut (ι:=Unit) (fr':=fun (_:Unit)=>[(83,.agg #[vI (c.sec),vI (c.nano)]),(90,vP (L.b tk))]) (hp':=fun (_:Unit)=>(pR f m t S L tk cb c R++[O0 L tk S c])) [6] rfl rfl ?_ rfl (fun _=>by kernel_rfl) ?_
  ·refine gK 1 [(90,vP (L.b tk))] [] ?_
   refine NL ?_
   exact MD () [83,90] [0,1,2,3,4,5,6,7,8]
  rintro _
  refine aQ.cut (ι:=Unit) (fr':=fun (_:Unit)=>(NC c L tk)) (hp':=fun (_:Unit)=>(pR f m t S L tk cb c R++[O0 L tk S c])) [6] rfl rfl ?_ rfl (fun _=>by kernel_rfl) ?_
  ·refine gK 1 [(91,.pointer (some ⟨(L.b tk),4,none⟩))] [] ?_
   refine NL ?_
   exact MD () [83,91] [0,1,2,3,4,5,6,7,8]
  rintro _
  refine aQ.last rfl rfl ?_
  refine gC 1 [] [(0,A_ 8 (L.b tk) 2)] [(8,[(4,vI (c.sec)),(5,vI (c.nano))])] ?_
  refine NL (ai.np (NX (SR ?_)))
  refine aj.mem (cR:=[.abs (ax (bM (aF S.O tk (fun o=>{ o with mode:=c.mode,uid:=c.uid,gid:=c.gid,sec:=c.sec,nano:=c.nano })) L)),.blk f [vI (S.X.cN),vI (S.X.cB),vI (S.X.cH),vI (S.X.cS),vI (S.X.cZ),.map (some m),vP t,vI (S.X.last),vI (S.X.ah),vI (S.X.used)] 126,.abs (aN Tryz.prog 3 m (bp (bq L S.idx)) S.idx.length),.abs (cV 197 t S.X.cH S.aD (bq L S.us)),.abs (ax (bN (aF S.O tk (fun o=>{ o with mode:=c.mode,uid:=c.uid,gid:=c.gid,sec:=c.sec,nano:=c.nano })) L)),.abs (ax (cF (aF S.O tk (fun o=>{ o with mode:=c.mode,uid:=c.uid,gid:=c.gid,sec:=c.sec,nano:=c.nano })) L)),.blk cb [vI (c.op),vI (c.handle),vI (c.other),.string c.name,.string c.text,.slice c.dA (c.data.length) (c.dC),vI (c.mode),vI (c.uid),vI (c.gid),vI (c.sec),vI (c.nano),vI (c.code),vI (c.answer)] 48,.abs R]) (fun w hS=>by have h:=hS.yX (O:=S.O) (L:=L) (i:=3) (j:=8) (idx:=[0,1,2,4,5,6,7]) (k:=tk) (f:=(fun o=>{ o with mode:=c.mode,uid:=c.uid,gid:=c.gid,sec:=c.sec,nano:=c.nano })) rfl (fun _ hx=>oI hx) rfl (by kernel_rfl) rfl (by show (obj S.O tk).kind≠0;rw [hkt];decide) ((gY (o:=(fun o=>{ o with mode:=c.mode,uid:=c.uid,gid:=c.gid,sec:=c.sec,nano:=c.nano }) (obj S.O tk)) (hkt)).trans rfl) (by show ko (obj S.O tk).kind=_;rw [hkt]<;>rfl);rw [mZ (O:=S.O) (k:=tk) (f:=(fun o=>{ o with mode:=c.mode,uid:=c.uid,gid:=c.gid,sec:=c.sec,nano:=c.nano })) rfl rfl,ng (O:=S.O) (k:=tk) (f:=(fun o=>{ o with mode:=c.mode,uid:=c.uid,gid:=c.gid,sec:=c.sec,nano:=c.nano })) rfl rfl];exact h) ?_
  have mM:(obj (aF S.O tk (fun o=>{ o with mode:=c.mode,uid:=c.uid,gid:=c.gid,sec:=c.sec,nano:=c.nano })) tk).kind=1:=(jJ (f:=(fun o=>{ o with mode:=c.mode,uid:=c.uid,gid:=c.gid,sec:=c.sec,nano:=c.nano })) (fun _=>rfl)).trans (hkt)
  generalize ct:(aF S.O tk (fun o=>{ o with mode:=c.mode,uid:=c.uid,gid:=c.gid,sec:=c.sec,nano:=c.nano }))=cK at mM ⊢
  refine gK 1 [(4,vI 0)] [] ?_
  refine NN (af.ret ?_)
  exact RT (l:=[pF f m t S.X,pI m L S.idx,j7 t S L,pO cK L,pD cK L,pE cK L,pC cb c]) (.int .i64 0) [1,2,3,0,4,5,6,7] (⟨L,by subst ct;rw [show (bP S c)=(0,{ S with O:=aF S.O tk (fun o=>{ o with mode:=c.mode,uid:=c.uid,gid:=c.gid,sec:=c.sec,nano:=c.nano }) },c) by unfold bP;rw [dN];exact (if_neg (fun h=>absurd h.2 (by simp))).trans ((if_pos jQ).trans ((if_pos ⟨tY,tZ⟩).trans (if_pos vu)))]<;>exact⟨rfl,rfl⟩⟩)
 have hkt:(obj S.O tk).kind=2:=hI.kind hlv
 refine af.region (gK 1 [] [] ?_)
 refine NN (af.seq (af.bK (by kernel_rfl) (by kernel_rfl) ?_))
 refine gQ 8 (ND t c) [(3,a_ 0 f),(7,a_ 6 cb)] ?_
 refine aS.call (f:=132) (args:=#[vP t,vI (c.handle)]) (d:=(some 17)) (pre:=[j7 t S L]) (R:=(rz f m t S L cb c R)) (pk:=[2,0,1,3,4,5,6,7]) (iZ:=[1,2,0,3,4,5,6,7]) (v0:=.tuple #[.iface 135 (vP (L.b tk)),vI 0]) (fun _=>by kernel_rfl) (lu t S.X.cH S.aD (bq L S.us) c.handle hC.hw (dQ L ⟨tk,2⟩) (kq dN)) rfl (by kernel_rfl) rfl (by kernel_rfl) (fun _ _ h=>h) ?_
 refine gQ 5 (JQ L tk) [] ?_
 refine NQ (NX (af.seq (SR ?_)))
 refine gK 2 [(21,.bool false)] [] ?_
 refine NN (CF (af.skip (NX (SR (gK 1 [(23,.iface 135 (vP (L.b tk)))] [] ?_)))))
 refine gL [] (dw (L.b tk)) ?_
 rintro _ _ ⟨rfl,rfl⟩
 refine gK 1 [(7,vP (L.b tk))] [] ?_
 refine NN (af.seq (af.block (SR ?_)))
 refine gK 5 [(30,.bool (obj S.O tk).gone)] [(3,v_ 3 (nQ L hkt))] ?_
 refine aj.nU 30 (obj S.O tk).gone (fun _=>by kernel_rfl) (fun mO=>?_) (fun mO=>?_)
 ·refine gK 1 [(31,.iface 135 (vP (L.b tk)))] [] ?_
  refine gL [] (mK (vP (L.b tk))) ?_
  rintro _ _ ⟨rfl,rfl⟩
  refine gK 3 [(25,.bool true)] [] ?_
  refine NN (CT (SR (gK 1 [(4,vI 170)] [] ?_)))
  refine NN (af.ret (ai.aG (ai.ar ?_)))
  exact RT (vI 170) [0,1,2,3,4,5,6,7] (⟨L,by rw [show (bP S c)=(170,S,c) by unfold bP;rw [dN];exact if_pos ⟨mO,rfl⟩]<;>exact⟨rfl,rfl⟩⟩)
 refine gK 5 [(25,.bool false)] [] ?_
 refine NN (CF (SR (gK 4 [(39,vI (c.mode))] [(3,a_ 6 cb)] ?_)))
 refine gL [] (fR (c.mode) 4095) ?_
 rintro _ _ ⟨rfl,rfl⟩
 refine gK 2 [(35,.bool (!(decide (0<=c.mode/\c.mode<=4095))))] [] ?_
 refine NN (af.dm (p:=0<=c.mode/\c.mode<=4095) (fun _=>by kernel_rfl) (fun jQ=>?_) (fun jQ=>?_))
 ·refine SR (gK 1 [(4,vI 120)] [] ?_)
  refine NN (af.ret (ai.aG (ai.ar ?_)))
  exact RT (vI 120) [0,1,2,3,4,5,6,7] (⟨L,by rw [show (bP S c)=(120,S,c) by unfold bP;rw [dN];exact (if_neg (fun h=>absurd h.1 (by rw [mO];decide))).trans (if_neg jQ)]<;>exact⟨rfl,rfl⟩⟩)
 refine SR (gK 4 [(46,vI (c.uid))] [(3,a_ 6 cb)] ?_)
 refine gL [] (fR (c.uid) 2147483647) ?_
 rintro _ _ ⟨rfl,rfl⟩
 refine gK 2 [(49,.bool (!(decide (0<=c.uid/\c.uid<=2147483647))))] [] ?_
 refine aj.iI 49 (0<=c.uid/\c.uid<=2147483647) (fun _=>by kernel_rfl) (fun tY=>?_) (fun tY=>?_)
 ·refine gK 8 [(42,.bool true)] [] ?_
  refine NN (CT (SR (gK 1 [(4,vI 11)] [] ?_)))
  refine NN (af.ret (ai.aG (ai.ar ?_)))
  exact RT (vI 11) [0,1,2,3,4,5,6,7] (⟨L,by rw [show (bP S c)=(11,S,c) by unfold bP;rw [dN];exact (if_neg (fun h=>absurd h.1 (by rw [mO];decide))).trans ((if_pos jQ).trans (if_neg (fun h=>tY h.1)))]<;>exact⟨rfl,rfl⟩⟩)
 refine gK 4 [(53,vI (c.gid))] [(3,a_ 6 cb)] ?_
 refine gL [] (fR (c.gid) 2147483647) ?_
 rintro _ _ ⟨rfl,rfl⟩
 refine gK 3 [(42,.bool (!(decide (0<=c.gid/\c.gid<=2147483647))))] [] ?_
 refine NN (af.dm (p:=0<=c.gid/\c.gid<=2147483647) (fun _=>by kernel_rfl) (fun tZ=>?_) (fun tZ=>?_))
 ·refine SR (gK 1 [(4,vI 11)] [] ?_)
  refine NN (af.ret (ai.aG (ai.ar ?_)))
  exact RT (vI 11) [0,1,2,3,4,5,6,7] (⟨L,by rw [show (bP S c)=(11,S,c) by unfold bP;rw [dN];exact (if_neg (fun h=>absurd h.1 (by rw [mO];decide))).trans ((if_pos jQ).trans (if_neg (fun h=>tZ h.2)))]<;>exact⟨rfl,rfl⟩⟩)
 refine SR (gK 4 [(61,.agg #[vI (c.sec),vI (c.nano)])] [(3,A_ 6 cb 2)] ?_)
 refine gL [] (iC c.sec c.nano) ?_
 rintro _ _ ⟨rfl,rfl⟩
 refine gK 2 [(57,.bool (!(decide (dW c.sec c.nano))))] [] ?_
 refine NN (af.dm (p:=dW c.sec c.nano) (fun _=>by kernel_rfl) (fun vu=>?_) (fun vu=>?_))
 ·refine SR (gK 1 [(4,vI 20)] [] ?_)
  refine NN (af.ret (ai.aG (ai.ar ?_)))
  exact RT (vI 20) [0,1,2,3,4,5,6,7] (⟨L,by rw [show (bP S c)=(20,S,c) by unfold bP;rw [dN];exact (if_neg (fun h=>absurd h.1 (by rw [mO];decide))).trans ((if_pos jQ).trans ((if_pos ⟨tY,tZ⟩).trans (if_neg vu)))]<;>exact⟨rfl,rfl⟩⟩)
 refine af.skip (ai.aJ (NX (af.seq ?_)))
 skip
 refine af.mem (fun w hS=>hS.xJ (i:=3) (k:=tk) rfl (by rw [hkt];decide) (lp (hkt)) (congrArg ko (hkt))) ?_
 refine af.bT (S:=[pC cb c]) [0,1,2,3,4,5,6,7,8,9,10,11,12,13,14,15,16,17,18,19,20,21,22,23,24,25,26,27,28,29,30,31] 22 [6] (by kernel_rfl) (by kernel_rfl) rfl (by kernel_rfl) ?_
 refine gR 0 [22,23,24,25,26,27,28,29,30,31] (NA L tk c) [0,1,2,3,4,5,6,7,8,9,10,11,12,13,14,15,16,17,18,19,20,21] [(7,a_ 0 cb),(11,a_ 0 cb),(15,a_ 0 cb),(19,A_ 0 cb 2)] ?_
 refine mC [6] [] [(0,a_ 8 (L.b tk))] [(8,[(1,vI (c.mode))])] ?_
 refine aQ.cut (ι:=Unit) (fr':=fun (_:Unit)=>(Dv L tk c++rA c++[(86,vP (L.b tk))])) (hp':=fun (_:Unit)=>(pR f m t S L tk cb c R++[TF L tk S c])) [6] rfl rfl ?_ rfl (fun _=>by kernel_rfl) ?_
 ·refine gK 1 [(86,vP (L.b tk))] [] ?_
  refine NL ?_
  exact MD () [66,67,75,79,83,86] [0,1,2,3,4,5,6,7,8]
 rintro _
 refine aQ.cut (ι:=Unit) (fr':=fun (_:Unit)=>(Dv L tk c++rA c++[(87,.pointer (some ⟨(L.b tk),2,none⟩))])) (hp':=fun (_:Unit)=>(pR f m t S L tk cb c R++[TF L tk S c])) [6] rfl rfl ?_ rfl (fun _=>by kernel_rfl) ?_
 ·refine gK 1 [(87,.pointer (some ⟨(L.b tk),2,none⟩))] [] ?_
  refine NL ?_
  exact MD () [66,67,75,79,83,87] [0,1,2,3,4,5,6,7,8]
 rintro _
 refine mC [6] [] [(0,a_ 8 (L.b tk))] [(8,[(2,vI (c.uid))])] ?_
 refine aQ.cut (ι:=Unit) (fr':=fun (_:Unit)=>([(67,vP (L.b tk))]++rA c++[(88,vP (L.b tk))])) (hp':=fun (_:Unit)=>(pR f m t S L tk cb c R++[TG L tk S c])) [6] rfl rfl ?_ rfl (fun _=>by kernel_rfl) ?_
 ·refine gK 1 [(88,vP (L.b tk))] [] ?_
  refine NL ?_
  exact MD () [67,79,83,88] [0,1,2,3,4,5,6,7,8]
 rintro _
 refine aQ.cut (ι:=Unit) (fr':=fun (_:Unit)=>([(67,vP (L.b tk))]++rA c++[(89,.pointer (some ⟨(L.b tk),3,none⟩))])) (hp':=fun (_:Unit)=>(pR f m t S L tk cb c R++[TG L tk S c])) [6] rfl rfl ?_ rfl (fun _=>by kernel_rfl) ?_
 ·refine gK 1 [(89,.pointer (some ⟨(L.b tk),3,none⟩))] [] ?_
  refine NL ?_
  exact MD () [67,79,83,89] [0,1,2,3,4,5,6,7,8]
 rintro _
 refine mC [6] [] [(0,a_ 8 (L.b tk))] [(8,[(3,vI (c.gid))])] ?_
 refine aQ.cut (ι:=Unit) (fr':=fun (_:Unit)=>[(83,.agg #[vI (c.sec),vI (c.nano)]),(90,vP (L.b tk))]) (hp':=fun (_:Unit)=>(pR f m t S L tk cb c R++[TH L tk S c])) [6] rfl rfl ?_ rfl (fun _=>by kernel_rfl) ?_
 ·refine gK 1 [(90,vP (L.b tk))] [] ?_
  refine NL ?_
  exact MD () [83,90] [0,1,2,3,4,5,6,7,8]
 rintro _
 refine aQ.cut (ι:=Unit) (fr':=fun (_:Unit)=>(NC c L tk)) (hp':=fun (_:Unit)=>(pR f m t S L tk cb c R++[TH L tk S c])) [6] rfl rfl ?_ rfl (fun _=>by kernel_rfl) ?_
 ·refine gK 1 [(91,.pointer (some ⟨(L.b tk),4,none⟩))] [] ?_
  refine NL ?_
  exact MD () [83,91] [0,1,2,3,4,5,6,7,8]
 rintro _
 refine aQ.last rfl rfl ?_
 refine gC 1 [] [(0,A_ 8 (L.b tk) 2)] [(8,[(4,vI (c.sec)),(5,vI (c.nano))])] ?_
 refine NL (ai.np (NX (SR ?_)))
 refine aj.mem (cR:=[.abs (ax (bM (aF S.O tk (fun o=>{ o with mode:=c.mode,uid:=c.uid,gid:=c.gid,sec:=c.sec,nano:=c.nano })) L)),.blk f [vI (S.X.cN),vI (S.X.cB),vI (S.X.cH),vI (S.X.cS),vI (S.X.cZ),.map (some m),vP t,vI (S.X.last),vI (S.X.ah),vI (S.X.used)] 126,.abs (aN Tryz.prog 3 m (bp (bq L S.idx)) S.idx.length),.abs (cV 197 t S.X.cH S.aD (bq L S.us)),.abs (ax (bN (aF S.O tk (fun o=>{ o with mode:=c.mode,uid:=c.uid,gid:=c.gid,sec:=c.sec,nano:=c.nano })) L)),.abs (ax (cF (aF S.O tk (fun o=>{ o with mode:=c.mode,uid:=c.uid,gid:=c.gid,sec:=c.sec,nano:=c.nano })) L)),.blk cb [vI (c.op),vI (c.handle),vI (c.other),.string c.name,.string c.text,.slice c.dA (c.data.length) (c.dC),vI (c.mode),vI (c.uid),vI (c.gid),vI (c.sec),vI (c.nano),vI (c.code),vI (c.answer)] 48,.abs R]) (fun w hS=>by have h:=hS.yX (O:=S.O) (L:=L) (i:=3) (j:=8) (idx:=[0,1,2,4,5,6,7]) (k:=tk) (f:=(fun o=>{ o with mode:=c.mode,uid:=c.uid,gid:=c.gid,sec:=c.sec,nano:=c.nano })) rfl (fun _ hx=>oI hx) rfl (by kernel_rfl) rfl (by show (obj S.O tk).kind≠0;rw [hkt];decide) ((lp (o:=(fun o=>{ o with mode:=c.mode,uid:=c.uid,gid:=c.gid,sec:=c.sec,nano:=c.nano }) (obj S.O tk)) (hkt)).trans rfl) (by show ko (obj S.O tk).kind=_;rw [hkt]<;>rfl);rw [mZ (O:=S.O) (k:=tk) (f:=(fun o=>{ o with mode:=c.mode,uid:=c.uid,gid:=c.gid,sec:=c.sec,nano:=c.nano })) rfl rfl,ng (O:=S.O) (k:=tk) (f:=(fun o=>{ o with mode:=c.mode,uid:=c.uid,gid:=c.gid,sec:=c.sec,nano:=c.nano })) rfl rfl];exact h) ?_
 have Dm:(obj (aF S.O tk (fun o=>{ o with mode:=c.mode,uid:=c.uid,gid:=c.gid,sec:=c.sec,nano:=c.nano })) tk).kind=2:=(jJ (f:=(fun o=>{ o with mode:=c.mode,uid:=c.uid,gid:=c.gid,sec:=c.sec,nano:=c.nano })) (fun _=>rfl)).trans (hkt)
 generalize ct:(aF S.O tk (fun o=>{ o with mode:=c.mode,uid:=c.uid,gid:=c.gid,sec:=c.sec,nano:=c.nano }))=cK at Dm ⊢
 refine gK 1 [(4,vI 0)] [] ?_
 refine NN (af.ret ?_)
 exact RT (l:=[pF f m t S.X,pI m L S.idx,j7 t S L,pO cK L,pD cK L,pE cK L,pC cb c]) (.int .i64 0) [1,2,3,0,4,5,6,7] (⟨L,by subst ct;rw [show (bP S c)=(0,{ S with O:=aF S.O tk (fun o=>{ o with mode:=c.mode,uid:=c.uid,gid:=c.gid,sec:=c.sec,nano:=c.nano }) },c) by unfold bP;rw [dN];exact (if_neg (fun h=>absurd h.1 (by rw [mO];decide))).trans ((if_pos jQ).trans ((if_pos ⟨tY,tZ⟩).trans (if_pos vu)))]<;>exact⟨rfl,rfl⟩⟩)
theorem Gg {β:Bs} (S:aI) (L:HL) (f m t:Nat) (hI:Inv S) (cb:Nat) (c:aB) (hC:fX β c) :
    Spec Tryz.prog β 93 #[vP f,vP cb] ((pA f m t L S)++[pC cb c]) (fun v l=>∃ L2,v=vI (eE S c).1/\l=((pA f m t L2 ((eE S c).2.1))++[.blk cb (aW ((eE S c).2.2)) 48])):=by
 have hX:=hI.hX
 refine Spec.enter Tryz.func93 rfl Tryz.ntmps93 (Nat.le_of_ble_eq_true rfl) (fun R=>?_)
 refine SR (gK 1 [] [] ?_)
 refine NN (af.seq (af.bK (by kernel_rfl) (by kernel_rfl) ?_))
 refine gQ 9 [(10,vP f),(14,vI (c.handle)),(18,.string c.name)] [(4,a_ 6 cb),(8,a_ 6 cb)] ?_
 rcases lQ hI.toInv0 c.handle c.name 192 with ⟨e,hab,hne⟩|⟨d,hab,hd,iU,iM,dN⟩
 ·refine aS.call (f:=123) (args:=#[vP f,vI (c.handle),.string c.name,vI 192]) (d:=(some 19)) (pre:=[pF f m t S.X,j7 t S L,pO S.O L]) (R:=(oQ m L S cb c R)) (pk:=[0,2,3,1,4,5,6,7]) (iZ:=[0,3,1,2,4,5,6,7]) (v0:=.tuple #[.pointer none,vI (e)]) (fun _=>by kernel_rfl) ((by have h:=eF S L f m t hI c.handle hC.hw c.name hC.nm 192 (β:=β);rw [hab] at h;exact h)) rfl (by kernel_rfl) rfl (by kernel_rfl) (fun _ _ h=>h) ?_
  refine gQ 5 [(5,.pointer none),(6,vI (e))] [] ?_
  refine NQ (NX (af.seq (SR ?_)))
  refine gK 2 [(23,.bool (!(decide ((e:Int)=(0:Int)))))] [] ?_
  refine NN (af.dm (p:=(e:Int)=(0:Int)) (fun _=>by kernel_rfl) (fun h23=>?_) (fun h23=>?_))
  ·refine SR (gK 2 [(4,vI (e))] [] ?_)
   refine NN (af.ret (ai.ar ?_))
   exact RT (vI (e)) [0,1,2,3,4,5,6,7] (⟨L,by rw [show (eE S c)=(e,S,c) by unfold eE;rw [hab]]<;>exact⟨rfl,rfl⟩⟩)
  exact absurd h23 hne
 have hkd:(obj S.O d).kind=2:=hI.kind hd
 refine aS.call (f:=123) (args:=#[vP f,vI (c.handle),.string c.name,vI 192]) (d:=(some 19)) (pre:=[pF f m t S.X,j7 t S L,pO S.O L]) (R:=(oQ m L S cb c R)) (pk:=[0,2,3,1,4,5,6,7]) (iZ:=[0,3,1,2,4,5,6,7]) (v0:=.tuple #[vP (L.b d),vI 0]) (fun _=>by kernel_rfl) ((by have h:=eF S L f m t hI c.handle hC.hw c.name hC.nm 192 (β:=β);rw [hab] at h;exact h)) rfl (by kernel_rfl) rfl (by kernel_rfl) (fun _ _ h=>h) ?_
 refine gQ 5 (Gb L d) [] ?_
 refine NQ (NX (af.seq (SR ?_)))
 refine gK 2 [(23,.bool false)] [] ?_
 refine NN (CF (af.skip (NX (af.seq (SR (gK 4 [(28,vI (c.mode))] [(3,a_ 6 cb)] ?_))))))
 refine gL [] (fR (c.mode) 4095) ?_
 rintro _ _ ⟨rfl,rfl⟩
 refine gK 1 [(30,.bool (!(decide (0<=c.mode/\c.mode<=4095))))] [] ?_
 refine NN (af.dm (p:=0<=c.mode/\c.mode<=4095) (fun _=>by kernel_rfl) (fun mO=>?_) (fun mO=>?_))
 ·refine SR (gK 1 [(4,vI 120)] [] ?_)
  refine NN (af.ret (ai.ar ?_))
  exact RT (vI 120) [0,1,2,3,4,5,6,7] (⟨L,by rw [show (eE S c)=(120,S,c) by unfold eE;rw [hab];exact if_neg mO]<;>exact⟨rfl,rfl⟩⟩)
 refine af.skip (NX (af.seq (SR (gK 6 [(31,vP f),(32,vP (L.b d)),(36,.string c.name)] [(5,a_ 6 cb)] ?_))))
 refine gL [0,1,5,3] (tW S L f m t hI d hd c.name hC.nm) ?_
 rintro _ _ ⟨rfl,rfl⟩
 refine gK 1 [(6,vI ((ck S.X S.O S.idx d c.name)))] [] ?_
 refine NS (gK 2 [(39,.bool (!(decide (((ck S.X S.O S.idx d c.name):Int)=(0:Int)))))] [] ?_)
 refine NN (af.dm (p:=((ck S.X S.O S.idx d c.name):Int)=(0:Int)) (fun _=>by kernel_rfl) (fun h0=>?_) (fun h0=>?_))
 ·refine SR (gK 2 [(4,vI ((ck S.X S.O S.idx d c.name)))] [] ?_)
  refine NN (af.ret (ai.ar ?_))
  exact RT (vI ((ck S.X S.O S.idx d c.name))) [0,1,4,3,5,2,6,7] (⟨L,by rw [show (eE S c)=(ck S.X S.O S.idx d c.name,S,c) by unfold eE;rw [hab];exact (if_pos mO).trans (if_neg h0)]<;>exact⟨rfl,rfl⟩⟩)
 have hno:=oK h0
 refine af.skip (NX (SR (gN 8 (fun b4=>[(7,vP b4)]) (fun b4=>[(3,a_ 6 cb)]) (fun _=>[]) (fun b4=>.blk b4 [vI 0,vI (c.mode),vI 0,vI 0,vI 0,vI 0,vI 0,vI 0,.bool false,.slice none (0) (0)] 131) (fun b4=>?_))))
 refine NN (af.seq (af.seq ?_))
 rcases Int.lt_or_le (S.us.length:Int) S.X.cH with tX|tX
 ·refine af.region (gK 4 (RA cb f b4) [] ?_)
  obtain⟨L2,hL2⟩:∃ L2:HL,L2=L.put (aR S.X) b4 0 none 0:=⟨_,rfl⟩
  have hfr:=hI.toInv0.fresh
  refine aj.mem (fun w hS=>hS.tP hL2 hfr (o:=(⟨0,c.mode,0,0,0,0,0,0,false,1,[],⟨#[]⟩,[],none⟩:aV)) (i:=3) (j:=8) (ix:=[0,1,2,4,5,6,7]) rfl rfl (by kernel_rfl) rfl (by show (1:Int)≠0;decide) ((gY (L:=L2) (k:=(aR S.X)) (o:=(⟨0,c.mode,0,0,0,0,0,0,false,1,[],⟨#[]⟩,[],none⟩:aV)) rfl).trans (by rw [show L2.dA (aR S.X)=none by rw [hL2];exact if_pos rfl,show L2.dC (aR S.X)=0 by rw [hL2];exact if_pos rfl];rfl)) rfl) ?_
  refine aj.dG [(3,pE (aF S.O (aR S.X) (fun _=>(⟨0,c.mode,0,0,0,0,0,0,false,1,[],⟨#[]⟩,[],none⟩:aV))) L2)] (fun w hS=>hS.uU hL2 hfr (o:=(⟨0,c.mode,0,0,0,0,0,0,false,1,[],⟨#[]⟩,[],none⟩:aV)) (i:=3) rfl (by show (1:Int)≠2;decide)) ?_
  refine aj.mem (fun w hS=>hS.jF (e:=5) (size:=1)) ?_
  refine aj.mem (fun w hS=>hS.Je hL2 (o:=(⟨0,c.mode,0,0,0,0,0,0,false,1,[],⟨#[]⟩,[],none⟩:aV)) (i:=5) (j:=8) (ix:=[0,1,2,3,4,6,7]) rfl rfl (by kernel_rfl) rfl rfl rfl) ?_
  refine aj.dG [(3,.abs (aN Tryz.prog 3 m (bp (bq L2 S.idx)) S.idx.length)),(5,.abs (cV 197 t S.X.cH S.aD (bq L2 S.us)))] (fun w hS=>by rw [gH hL2 hfr.idx,gH hL2 hfr.us];exact hS) ?_
  refine gL (f:=121) (args:=#[vP f,.iface 129 (vP b4)]) (pre:=[pF f m t S.X,j7 t S L2,TJ S c L2]) [2,5,1] ((by have h:=tf (β:=β) { S with O:=(aF S.O (aR S.X) (fun _=>(⟨0,c.mode,0,0,0,0,0,0,false,1,[],⟨#[]⟩,[],none⟩:aV))) } L2 f m t ⟨(aR S.X),1⟩ (by show (obj (aF S.O (aR S.X) (fun _=>(⟨0,c.mode,0,0,0,0,0,0,false,1,[],⟨#[]⟩,[],none⟩:aV))) (aR S.X)).kind=1;rw [bR]) (by simp) (by show 0<=(obj (aF S.O (aR S.X) (fun _=>(⟨0,c.mode,0,0,0,0,0,0,false,1,[],⟨#[]⟩,[],none⟩:aV))) (aR S.X)).opens/\(obj (aF S.O (aR S.X) (fun _=>(⟨0,c.mode,0,0,0,0,0,0,false,1,[],⟨#[]⟩,[],none⟩:aV))) (aR S.X)).opens<=1048576;rw [bR];exact⟨Int.le_refl _,by show (0:Int)<=1048576;decide⟩);rw [oJ hL2,kW (S:={ S with O:=(aF S.O (aR S.X) (fun _=>(⟨0,c.mode,0,0,0,0,0,0,false,1,[],⟨#[]⟩,[],none⟩:aV))) }) (t:=⟨(aR S.X),1⟩) tX] at h;exact h)) ?_
  rintro _ _ ⟨rfl,rfl⟩
  refine gC 7 [(6,vI 0)] [(5,a_ 6 cb)] [(6,[(12,vI ((aE.least S.us)))])] ?_
  refine NS (gK 2 [(59,.bool false)] [] ?_)
  refine NN (CF (af.skip (NX (SR (aj.slot 7 (vP b4) (vP (L2.b (aR S.X))) (fun _=>by kernel_rfl) (by rw [BP hL2]) ?_)))))
  refine aj.dG [(3,.abs (ax (bN (aF (aF S.O (aR S.X) (fun _=>(⟨0,c.mode,0,0,0,0,0,0,false,1,[],⟨#[]⟩,[],none⟩:aV))) (aR S.X) (fun o=>{ o with opens:=o.opens+1 })) L2))),(5,.abs (ax (cF (aF (aF S.O (aR S.X) (fun _=>(⟨0,c.mode,0,0,0,0,0,0,false,1,[],⟨#[]⟩,[],none⟩:aV))) (aR S.X) (fun o=>{ o with opens:=o.opens+1 })) L2)))] (fun w hS=>by rw [mZ (O:=(aF S.O (aR S.X) (fun _=>(⟨0,c.mode,0,0,0,0,0,0,false,1,[],⟨#[]⟩,[],none⟩:aV)))) (k:=(aR S.X)) (f:=(fun o=>{ o with opens:=o.opens+1 })) rfl rfl,ng (O:=(aF S.O (aR S.X) (fun _=>(⟨0,c.mode,0,0,0,0,0,0,false,1,[],⟨#[]⟩,[],none⟩:aV)))) (k:=(aR S.X)) (f:=(fun o=>{ o with opens:=o.opens+1 })) rfl rfl];exact hS) ?_
  have hkN:(obj (aF (aF S.O (aR S.X) (fun _=>(⟨0,c.mode,0,0,0,0,0,0,false,1,[],⟨#[]⟩,[],none⟩:aV))) (aR S.X) (fun o=>{ o with opens:=o.opens+1 })) (aR S.X)).kind=1:=by rw [bR,bR]
  have TK:(obj (aF (aF S.O (aR S.X) (fun _=>(⟨0,c.mode,0,0,0,0,0,0,false,1,[],⟨#[]⟩,[],none⟩:aV))) (aR S.X) (fun o=>{ o with opens:=o.opens+1 })) (aR S.X)).opens=1:=by rw [bR,bR];rfl
  generalize ct:(aF (aF S.O (aR S.X) (fun _=>(⟨0,c.mode,0,0,0,0,0,0,false,1,[],⟨#[]⟩,[],none⟩:aV))) (aR S.X) (fun o=>{ o with opens:=o.opens+1 }))=cK at hkN TK ⊢
  refine gK 6 [(8,vI ((obj cK (aR S.X)).opens))] [(4,v_ 2 (jV L2 hkN))] ?_
  refine NS (gK 6 [(66,vP (L2.b (aR S.X))),(67,vP f),(71,vI (c.mode))] [(5,a_ 6 cb)] ?_)
  refine gL [0] (tV S.X f m t hX c.mode) ?_
  rintro _ _ ⟨rfl,rfl⟩
  refine gK 2 [(74,vP (L2.b (aR S.X)))] [] ?_
  refine aj.mem (fun w hS=>hS.xJ (i:=2) (k:=(aR S.X)) rfl (by rw [hkN];decide) (gY (hkN)) (congrArg ko (hkN))) ?_
  refine gC 1 [] [(0,A_ 8 (L2.b (aR S.X)) 9)] [(8,[(0,vI (S.X.last+1)),(1,vI (c.mode)),(2,vI 0),(3,vI 0),(4,vI (S.X.cS)),(5,vI (S.X.cZ)),(6,vI 0),(7,vI 0),(8,.bool false)])] ?_
  refine aj.mem (cR:=[.abs (ax (bM (aF cK (aR S.X) (fun o=>{ o with id:=S.X.last+1,mode:=c.mode,uid:=0,gid:=0,sec:=S.X.cS,nano:=S.X.cZ,links:=0,opens:=0,gone:=false })) L2)),.blk f [vI (S.X.cN),vI (S.X.cB),vI (S.X.cH),vI (S.X.cS),vI (S.X.cZ),.map (some m),vP t,vI (S.X.last+1),vI (S.X.ah),vI (S.X.used)] 126,.abs (cV 197 t S.X.cH (max S.aD ((S.us.length:Int)+1)) (bq L2 (ins (aE.least S.us) ⟨(aR S.X),1⟩ S.us))),.abs (ax (bN (aF cK (aR S.X) (fun o=>{ o with id:=S.X.last+1,mode:=c.mode,uid:=0,gid:=0,sec:=S.X.cS,nano:=S.X.cZ,links:=0,opens:=0,gone:=false })) L2)),.abs (aN Tryz.prog 3 m (bp (bq L2 S.idx)) S.idx.length),.abs (ax (cF (aF cK (aR S.X) (fun o=>{ o with id:=S.X.last+1,mode:=c.mode,uid:=0,gid:=0,sec:=S.X.cS,nano:=S.X.cZ,links:=0,opens:=0,gone:=false })) L2)),.blk cb [vI (c.op),vI (c.handle),vI (c.other),.string c.name,.string c.text,.slice c.dA (c.data.length) (c.dC),vI (c.mode),vI (c.uid),vI (c.gid),vI (c.sec),vI (c.nano),vI (c.code),vI ((aE.least S.us))] 48,.abs R]) (fun w hS=>by have h:=hS.yX (O:=cK) (L:=L2) (i:=2) (j:=8) (idx:=[0,1,3,4,5,6,7]) (k:=(aR S.X)) (f:=(fun o=>{ o with id:=S.X.last+1,mode:=c.mode,uid:=0,gid:=0,sec:=S.X.cS,nano:=S.X.cZ,links:=0,opens:=0,gone:=false })) rfl (fun _ hx=>oI hx) rfl (by kernel_rfl) rfl (by show (obj cK (aR S.X)).kind≠0;rw [hkN];decide) ((gY (o:=(fun o=>{ o with id:=S.X.last+1,mode:=c.mode,uid:=0,gid:=0,sec:=S.X.cS,nano:=S.X.cZ,links:=0,opens:=0,gone:=false }) (obj cK (aR S.X))) (hkN)).trans rfl) (by show ko (obj cK (aR S.X)).kind=_;rw [hkN]<;>rfl);rw [mZ (O:=cK) (k:=(aR S.X)) (f:=(fun o=>{ o with id:=S.X.last+1,mode:=c.mode,uid:=0,gid:=0,sec:=S.X.cS,nano:=S.X.cZ,links:=0,opens:=0,gone:=false })) rfl rfl,ng (O:=cK) (k:=(aR S.X)) (f:=(fun o=>{ o with id:=S.X.last+1,mode:=c.mode,uid:=0,gid:=0,sec:=S.X.cS,nano:=S.X.cZ,links:=0,opens:=0,gone:=false })) rfl rfl];exact h) ?_
  have yg:(obj (aF cK (aR S.X) (fun o=>{ o with id:=S.X.last+1,mode:=c.mode,uid:=0,gid:=0,sec:=S.X.cS,nano:=S.X.cZ,links:=0,opens:=0,gone:=false })) (aR S.X)).kind=1:=(jJ (f:=(fun o=>{ o with id:=S.X.last+1,mode:=c.mode,uid:=0,gid:=0,sec:=S.X.cS,nano:=S.X.cZ,links:=0,opens:=0,gone:=false })) (fun _=>rfl)).trans (hkN)
  generalize dx:(aF cK (aR S.X) (fun o=>{ o with id:=S.X.last+1,mode:=c.mode,uid:=0,gid:=0,sec:=S.X.cS,nano:=S.X.cZ,links:=0,opens:=0,gone:=false }))=ef at yg ⊢
  refine NS (gK 5 [(76,vI ((obj cK (aR S.X)).opens)),(79,.pointer (some ⟨(L2.b (aR S.X)),7,none⟩))] [] ?_)
  refine sZ 0 [(5,1),(3,2)] (aR S.X) 7 (fun o=>{ o with opens:=(obj cK (aR S.X)).opens }) yg (fun vo lY=>?_)
  have Nr:=ku lY yg
  refine NS ?_
  have hfin:vo=aF S.O (aR S.X) (fun _=>{ aY S.X 1 c.mode with opens:=1 }):=by subst lY;subst dx;rw [TK];subst ct;simp only [tL];rfl
  subst hfin
  show aj _ _ _ _ _ _ [pO (aF S.O (aR S.X) (fun _=>{ aY S.X 1 c.mode with opens:=1 })) L2,pF f m t { S.X with last:=S.X.last+1 },pT t S.X.cH (max S.aD ((S.us.length:Int)+1)) L2 (ins (aE.least S.us) ⟨(aR S.X),1⟩ S.us),pD (aF S.O (aR S.X) (fun _=>{ aY S.X 1 c.mode with opens:=1 })) L2,pI m L2 S.idx,pE (aF S.O (aR S.X) (fun _=>{ aY S.X 1 c.mode with opens:=1 })) L2,pC cb { c with answer:=aE.least S.us },.abs R] _
  refine gK 8 [(80,vP f),(81,vP (L.b d)),(85,.string c.name),(87,.iface 129 (vP (L2.b (aR S.X))))] [(5,a_ 6 cb)] ?_
  refine gL (f:=127) (args:=#[vP f,vP (L.b d),.string c.name,.iface 129 (vP (L2.b (aR S.X)))]) (pre:=[pF f m t { S.X with last:=S.X.last+1 },pI m L2 S.idx,pO (aF S.O (aR S.X) (fun _=>{ aY S.X 1 c.mode with opens:=1 })) L2,pE (aF S.O (aR S.X) (fun _=>{ aY S.X 1 c.mode with opens:=1 })) L2]) [1,4,0,5] ((by have h:=rZ (β:=β) S L2 f m t hI.toInv0 d hd c.name hC.nm hno { aY S.X 1 c.mode with opens:=1 } rfl (by simp [aY]) rfl (qy h0);rw [vZ hL2 (hI.uT hd)] at h;exact h)) ?_
  rintro _ _ ⟨rfl,rfl⟩
  refine NS (aj.dG [(5,.abs (ax (bN ((eY S d c.name { aY S.X 1 c.mode with opens:=1 }).O) L2)))] (fun w hS=>by rw [show bN ((eY S d c.name { aY S.X 1 c.mode with opens:=1 }).O) L2=bN (aF S.O (aR S.X) (fun _=>{ aY S.X 1 c.mode with opens:=1 })) L2 from gZ];exact hS) ?_)
  refine gK 1 [(4,vI 0)] [] ?_
  refine NN (af.ret ?_)
  exact RT (vI 0) [0,1,4,2,5,3,6,7] (⟨L2,by rw [show (eE S c)=(0,(eY { S with us:=(ins (aE.least S.us) ⟨(aR S.X),1⟩ S.us),aD:=(max S.aD ((S.us.length:Int)+1)) } d c.name { aY S.X 1 c.mode with opens:=1 }),{ c with answer:=aE.least S.us }) by unfold eE;rw [hab];exact (if_pos mO).trans ((if_pos h0).trans (by rw [show ni S d c.name c.mode=(aE.least S.us,0,(eY { S with us:=(ins (aE.least S.us) ⟨(aR S.X),1⟩ S.us),aD:=(max S.aD ((S.us.length:Int)+1)) } d c.name { aY S.X 1 c.mode with opens:=1 })) from (if_pos h0).trans (if_pos tX)]))]<;>exact⟨rfl,rfl⟩⟩)
 refine af.region (gK 4 (RA cb f b4) [] ?_)
 obtain⟨L2,hL2⟩:∃ L2:HL,L2=L.put (aR S.X) b4 0 none 0:=⟨_,rfl⟩
 have hfr:=hI.toInv0.fresh
 refine aj.mem (fun w hS=>hS.tP hL2 hfr (o:=(⟨0,c.mode,0,0,0,0,0,0,false,1,[],⟨#[]⟩,[],none⟩:aV)) (i:=3) (j:=8) (ix:=[0,1,2,4,5,6,7]) rfl rfl (by kernel_rfl) rfl (by show (1:Int)≠0;decide) ((gY (L:=L2) (k:=(aR S.X)) (o:=(⟨0,c.mode,0,0,0,0,0,0,false,1,[],⟨#[]⟩,[],none⟩:aV)) rfl).trans (by rw [show L2.dA (aR S.X)=none by rw [hL2];exact if_pos rfl,show L2.dC (aR S.X)=0 by rw [hL2];exact if_pos rfl];rfl)) rfl) ?_
 refine aj.dG [(3,pE (aF S.O (aR S.X) (fun _=>(⟨0,c.mode,0,0,0,0,0,0,false,1,[],⟨#[]⟩,[],none⟩:aV))) L2)] (fun w hS=>hS.uU hL2 hfr (o:=(⟨0,c.mode,0,0,0,0,0,0,false,1,[],⟨#[]⟩,[],none⟩:aV)) (i:=3) rfl (by show (1:Int)≠2;decide)) ?_
 refine aj.mem (fun w hS=>hS.jF (e:=5) (size:=1)) ?_
 refine aj.mem (fun w hS=>hS.Je hL2 (o:=(⟨0,c.mode,0,0,0,0,0,0,false,1,[],⟨#[]⟩,[],none⟩:aV)) (i:=5) (j:=8) (ix:=[0,1,2,3,4,6,7]) rfl rfl (by kernel_rfl) rfl rfl rfl) ?_
 refine aj.dG [(3,.abs (aN Tryz.prog 3 m (bp (bq L2 S.idx)) S.idx.length)),(5,.abs (cV 197 t S.X.cH S.aD (bq L2 S.us)))] (fun w hS=>by rw [gH hL2 hfr.idx,gH hL2 hfr.us];exact hS) ?_
 refine gL (f:=121) (args:=#[vP f,.iface 129 (vP b4)]) (pre:=[pF f m t S.X,j7 t S L2,TJ S c L2]) [2,5,1] ((by have h:=tf (β:=β) { S with O:=(aF S.O (aR S.X) (fun _=>(⟨0,c.mode,0,0,0,0,0,0,false,1,[],⟨#[]⟩,[],none⟩:aV))) } L2 f m t ⟨(aR S.X),1⟩ (by show (obj (aF S.O (aR S.X) (fun _=>(⟨0,c.mode,0,0,0,0,0,0,false,1,[],⟨#[]⟩,[],none⟩:aV))) (aR S.X)).kind=1;rw [bR]) (by simp) (by show 0<=(obj (aF S.O (aR S.X) (fun _=>(⟨0,c.mode,0,0,0,0,0,0,false,1,[],⟨#[]⟩,[],none⟩:aV))) (aR S.X)).opens/\(obj (aF S.O (aR S.X) (fun _=>(⟨0,c.mode,0,0,0,0,0,0,false,1,[],⟨#[]⟩,[],none⟩:aV))) (aR S.X)).opens<=1048576;rw [bR];exact⟨Int.le_refl _,by show (0:Int)<=1048576;decide⟩);rw [oJ hL2,mE (S:={ S with O:=(aF S.O (aR S.X) (fun _=>(⟨0,c.mode,0,0,0,0,0,0,false,1,[],⟨#[]⟩,[],none⟩:aV))) }) (t:=⟨(aR S.X),1⟩) (by show ¬ (S.us.length:Int) < S.X.cH;omega)] at h;exact h)) ?_
 rintro _ _ ⟨rfl,rfl⟩
 refine gC 7 [(6,vI 130)] [(5,a_ 6 cb)] [(6,[(12,vI 0)])] ?_
 refine NS (gK 2 [(59,.bool true)] [] ?_)
 refine NN (CT (SR ?_))
 have hk0:(obj S.O (aR S.X)).kind=0:=hI.rU _ (by have:=qf hI.toInv0;omega)
 refine aj.dG [(2,.abs (ax (bM S.O L)))] (fun w hS=>hS.xS (i:=2) rfl (aR S.X) (fun x hx=>by rw [uN hx,HF hL2 hfr hx]) (by unfold bM;rw [hk0];rfl)) ?_
 refine aj.dG [(5,.abs (ax (cF S.O L)))] (fun w hS=>hS.xS (i:=5) rfl (aR S.X) (fun x hx=>by rw [xE hx,Da hL2 hfr hx]) (by unfold cF;rw [hk0];rfl)) ?_
 refine aj.mem (cR:=[.blk f [vI (S.X.cN),vI (S.X.cB),vI (S.X.cH),vI (S.X.cS),vI (S.X.cZ),.map (some m),vP t,vI (S.X.last),vI (S.X.ah),vI (S.X.used)] 126,.abs (cV 197 t S.X.cH S.aD (bq L2 S.us)),.abs (ax (bM S.O L)),.abs (ax (bN S.O L)),.abs (aN Tryz.prog 3 m (bp (bq L2 S.idx)) S.idx.length),.abs (ax (cF S.O L)),.blk cb [vI (c.op),vI (c.handle),vI (c.other),.string c.name,.string c.text,.slice c.dA (c.data.length) (c.dC),vI (c.mode),vI (c.uid),vI (c.gid),vI (c.sec),vI (c.nano),vI (c.code),vI 0] 48,.abs R]) (fun w hS=>hS.xS (i:=3) rfl (aR S.X) (fun x hx=>by rw [xG hx,y6 hL2 hx]) (by unfold bN;rw [hk0];rfl)) ?_
 refine aj.mem (cR:=[.blk f [vI (S.X.cN),vI (S.X.cB),vI (S.X.cH),vI (S.X.cS),vI (S.X.cZ),.map (some m),vP t,vI (S.X.last),vI (S.X.ah),vI (S.X.used)] 126,.abs (cV 197 t S.X.cH S.aD (bq L S.us)),.abs (ax (bM S.O L)),.abs (ax (bN S.O L)),.abs (aN Tryz.prog 3 m (bp (bq L S.idx)) S.idx.length),.abs (ax (cF S.O L)),.blk cb [vI (c.op),vI (c.handle),vI (c.other),.string c.name,.string c.text,.slice c.dA (c.data.length) (c.dC),vI (c.mode),vI (c.uid),vI (c.gid),vI (c.sec),vI (c.nano),vI (c.code),vI 0] 48,.abs R]) (fun w hS=>by rw [gH hL2 hfr.idx,gH hL2 hfr.us] at hS;exact hS) ?_
 refine gK 2 [(4,vI 130)] [] ?_
 refine NN (af.ret (ai.ar ?_))
 exact RT (vI 130) [0,4,1,2,3,5,6,7] (⟨L,by rw [show (eE S c)=(130,S,{ c with answer:=0 }) by unfold eE;rw [hab];exact (if_pos mO).trans ((if_pos h0).trans (by rw [show ni S d c.name c.mode=(0,130,S) from (if_pos h0).trans (if_neg (by omega))]))]<;>exact⟨rfl,rfl⟩⟩)
end
section
open Go.RowKit
def vw (b:Nat) (v:Value):cE where
  h F w:=∃ cs T,cs[0]?=some v/\(HP.blk b cs T).h F w
  lt:=fun ⟨_,_,_,h⟩=>HP.lt h
  st:=fun ⟨cs,T,hv,h⟩ _ _ hk hd=>⟨cs,T,hv,HP.st h hk hd⟩
theorem vw.cell {b:Nat} {v:Value}:∀ F w,(vw b v).h F w->w.cell? ⟨b,0,none⟩=some v:=by
  rintro F w ⟨cs,T,hv,h⟩
  exact (gI h.1 rfl rfl hv).1
theorem Sat.first {β:Bs} {l:List HP} {w:World} {i b:Nat} {cs:List Value} {T:TypeId} {v:Value} (h:Sat β l w) (hp:l[i]?=some (.blk b cs T)) (hv:cs[0]?=some v):Sat β [.abs (vw b v)] w:=by
  obtain⟨ho,φ,h1,h2,h3⟩:=h
  have hi:=bE hp
  refine⟨ho,fun _=>φ i,fun j q hq=>?_,fun j hj=>h2 i hi,fun j k hj hk hne=>?_⟩
  ·have hj:=bE hq
   simp at hj
   subst hj
   simp at hq
   subst hq
   exact⟨cs,T,hv,h1 i _ hp⟩
  simp at hj hk
  omega
section mix
variable {P:Program} {β:Bs} {N:Nat} {ops:Array Oper} {S:List HP} {l:List Nat} {fr:Fr} {hps:List HP} {Q:Post} {i:Nat}
theorem af.JT {id:Nat} (perm:List Nat) (nr:Nat) (hm:P.follows .mixedOrders=true) (hB:Bz ops perm nr=true) (hp:∀ w,Sat β hps w->Sat β S w) (h:aQ P β N ops S nr perm fr hps Q):af P β N (.region id ops true) fr hps Q:=by
  intro junk w hS
  unfold Bz at hB
  simp only [Bool.and_eq_true,beq_iff_eq] at hB
  obtain⟨⟨⟨h1,h2⟩,h3⟩,h4⟩:=hB
  have dM:=hS.drewN 1
  have h5:=CO (Q:=Q) h1 h2 nr perm _ _ _ h4 (fun j oj _ hl=>by simp [Array.getD_eq_getD_getElem?,Array.getElem?_replicate] at hl;split at hl<;>simp at hl) (hp _ dM) (h junk (w.drewN 1) dM)
  rw [h3] at h5
  refine Code.wp_mono (fun e a w q=>?_) (wp_region_any hm (oY _ _ _ _ h5))
  cases e with
  | normal=>exact q
  | exit id=>exact q.elim
  | goto l=>exact q.elim
  | ret=>exact q.elim
  | panic ch=>exact q.elim
  | outgrown=>exact q.elim
theorem aQ.JU {ι:Type} {fr':ι->Fr} {hp':ι->List HP} {o:Oper} (hop:ops[i]?=some o) (hg:o.guard=none) (h:aj P β N #[o] 0 fr hps (NP (nI β N fr' hp'))) (hp:∀ j w,Sat β (hp' j) w->Sat β S w)
    (K:∀ j,aQ P β N ops S 0 l (fr' j) (hp' j) Q):aQ P β N ops S 0 (i::l) fr hps Q:=by
  intro junk w hS
  unfold mV
  refine gM hop hg ?_
  have h1:=h junk w hS
  have h2:wpList P #[o] (NP (nI β N fr' hp')) [o] (cx N fr junk) w:=h1
  refine jA (fun a w ⟨j,fO,ha,dM⟩=>?_) h2
  subst ha
  exact⟨.inr (hp j _ dM),K j fO w dM⟩
end mix
end
section
open Go.RowKit Go.Maps bH aE
def Lz:List Nat:=[89,90,91,92,93,94,95,96,97,98,99,100,101,102,103]
def TL:Value:=.agg ⟨.nilFunc::Lz.map (fun f=>.func (.func f) #[] #[])⟩
theorem JV {n:Int} (h:1<=n/\n<=15):n=1\/n=2\/n=3\/n=4\/n=5\/n=6\/n=7\/n=8\/n=9\/n=10\/n=11\/n=12\/n=13\/n=14\/n=15:=by omega
theorem RB {w:World} {o:Oper} {ev:Operand->Value} {x y:Operand} {n:Int} (ho:o.op=.index 145 x y) (hx:ev x=TL) (hy:ev y=.int .i64 n) (hn:1<=n/\n<=15):nG Tryz.prog ev o w (.func (.func (Lz.getD (n.toNat - 1) 0)) #[] #[]) w:=by
  obtain⟨dst,op,type,pos,after,guard⟩:=o
  cases ho
  refine .inl ?_
  simp only [execOp,hx,hy]
  rcases JV hn with h|h|h|h|h|h|h|h|h|h|h|h|h|h|h<;>subst h<;>kernel_rfl
theorem aj.hn {β:Bs} {N k:Nat} {ops:Array Oper} {fr:Fr} {hps:List HP} {Q:Post} {d:Option Tmp} {x y:Operand} {n:Int} (hn:1<=n/\n<=15) (K:aj Tryz.prog β N ops (k+1) (dO fr d (.func (.func (Lz.getD (n.toNat - 1) 0)) #[] #[])) hps Q)
    (hop:∀ junk,fB N junk ops fr k=some (.index 145 x y,d):=by intro _;kernel_rfl) (hx:∀ junk,dz N fr junk x=TL:=by intro _;kernel_rfl) (hy:∀ junk,dz N fr junk y=.int .i64 n:=by intro _;kernel_rfl):aj Tryz.prog β N ops k fr hps Q:=
  aj.ja hop (fun _ junk w ho hS=>⟨w,RB ho (hx junk) (hy junk) hn,hS⟩) K
theorem S9 {β:Bs} {S:aI} {L:HL} {f m t b:Nat} {c:aB} (n:Int) (hI:Inv S) (hC:fX β c) (h:1<=n/\n<=15) (he:c.op=n):Spec Tryz.prog β (Lz.getD (n.toNat - 1) 0) #[vP f,vP b] (pA f m t L S++[pC b c]) (fun v l=>∃ L2,v=vI (cX S c).1/\l=pA f m t L2 (cX S c).2.1++[pC b (cX S c).2.2]):=by
  subst he
  rcases JV h with h|h|h|h|h|h|h|h|h|h|h|h|h|h|h<;>rw [h]
  ·rw [wg h];exact JM S L f m t hI b c hC
  ·rw [y8 h];exact Es S L f m t hI b c hC
  ·rw [y9 h];exact Dq S L f m t hI b c hC
  ·rw [wh h];exact G4 S L f m t hI b c hC
  ·rw [za h];exact Gg S L f m t hI b c hC
  ·rw [ze h];exact Et S L f m t hI b c hC
  ·rw [zf h];exact JR S L f m t hI b c hC
  ·rw [zh h];exact Gc S L f m t hI b c hC
  ·rw [zi h];exact G6 S L f m t hI b c hC
  ·rw [uV h];exact Eu S L f m t hI b c hC
  ·rw [uW h];exact JS S L f m t hI b c hC
  ·rw [uX h];exact Gf S L f m t hI b c hC
  ·rw [uY h];exact G7 S L f m t hI b c hC
  ·rw [uZ h];exact G5 S L f m t hI b c hC
  rw [vf h];exact Gd S L f m t hI b c hC
theorem LA {S:aI} {c:aB} (h:1<=c.op/\c.op<=15):(cX S c).2.2.op=c.op:=by
  rcases JV h with h|h|h|h|h|h|h|h|h|h|h|h|h|h|h
  ·rw [wg h];exact PB
  ·rw [y8 h];exact Jk
  ·rw [y9 h];exact GU
  ·rw [wh h];exact Jl
  ·rw [za h];exact GV
  ·rw [ze h];exact FE
  ·rw [zf h];exact KX
  ·rw [zh h];exact GW
  ·rw [zi h];exact Jo
  ·rw [uV h];exact Jp
  ·rw [uW h];exact PD
  ·rw [uX h];exact KY
  ·rw [uY h];exact M0
  ·rw [uZ h];exact Jm
  rw [vf h];exact GX
end
section
open Go.RowKit Go.Maps bH aE
attribute [local irreducible] aj aS af ai
abbrev pU (b3:Nat):=(.blk b3 [vI 0,vI 0,vI 0,.string ⟨#[]⟩,.string ⟨#[]⟩,.slice none (0) (0),vI 0,vI 0,vI 0,vI 0,vI 0,vI 0,vI 0] 48:HP)
abbrev TM (c:aB):=([(0,vI (c.op)),(1,vI (c.handle)),(2,vI (c.other)),(3,.string c.name),(4,.string c.text),(5,.slice c.dA (c.data.length) (c.dC)),(6,vI (c.mode)),(7,vI (c.uid)),(8,vI (c.gid)),(9,vI (c.sec)),(10,vI (c.nano)),(11,vI 230)]:Fr)
theorem G8 {β:Bs}:Spec Tryz.prog β 65 #[] [] (fun v l=>v=.agg #[.nilFunc,.func (.func 89) #[] #[],.func (.func 90) #[] #[],.func (.func 91) #[] #[],.func (.func 92) #[] #[],.func (.func 93) #[] #[],.func (.func 94) #[] #[],.func (.func 95) #[] #[],.func (.func 96) #[] #[],.func (.func 97) #[] #[],.func (.func 98) #[] #[],.func (.func 99) #[] #[],.func (.func 100) #[] #[],.func (.func 101) #[] #[],.func (.func 102) #[] #[],.func (.func 103) #[] #[]]/\l=[]):=by
 refine Spec.enter Tryz.func65 rfl Tryz.ntmps65 (Nat.le_of_ble_eq_true rfl) (fun R=>?_)
 refine SR (gN 1 (fun b1=>[(0,vP b1)]) (fun _=>[]) (fun _=>[]) (fun b1=>.blk b1 [.nilFunc,.nilFunc,.nilFunc,.nilFunc,.nilFunc,.nilFunc,.nilFunc,.nilFunc,.nilFunc,.nilFunc,.nilFunc,.nilFunc,.nilFunc,.nilFunc,.nilFunc,.nilFunc] 145) (fun b1=>?_))
 refine NS (gC 2 [] [(1,A_ 1 b1 16)] [(1,[(1,.func (.func 89) #[] #[]),(2,.func (.func 90) #[] #[]),(3,.func (.func 91) #[] #[]),(4,.func (.func 92) #[] #[]),(5,.func (.func 93) #[] #[]),(6,.func (.func 94) #[] #[]),(7,.func (.func 95) #[] #[]),(8,.func (.func 96) #[] #[]),(9,.func (.func 97) #[] #[]),(10,.func (.func 98) #[] #[]),(11,.func (.func 99) #[] #[]),(12,.func (.func 100) #[] #[]),(13,.func (.func 101) #[] #[]),(14,.func (.func 102) #[] #[]),(15,.func (.func 103) #[] #[])])] ?_)
 refine NN (af.ret ?_)
 exact ai.ret (v:=.agg #[.nilFunc,.func (.func 89) #[] #[],.func (.func 90) #[] #[],.func (.func 91) #[] #[],.func (.func 92) #[] #[],.func (.func 93) #[] #[],.func (.func 94) #[] #[],.func (.func 95) #[] #[],.func (.func 96) #[] #[],.func (.func 97) #[] #[],.func (.func 98) #[] #[],.func (.func 99) #[] #[],.func (.func 100) #[] #[],.func (.func 101) #[] #[],.func (.func 102) #[] #[],.func (.func 103) #[] #[]]) (l:=[]) (bG:=[b1=b1,b1=b1,b1=b1,b1=b1,b1=b1,b1=b1,b1=b1,b1=b1,b1=b1,b1=b1,b1=b1,b1=b1,b1=b1,b1=b1,b1=b1,b1=b1]) [.at 1,.at 1,.at 1,.at 1,.at 1,.at 1,.at 1,.at 1,.at 1,.at 1,.at 1,.at 1,.at 1,.at 1,.at 1,.at 1] [0] (fun _=>by kernel_rfl) ⟨rfl,rfl,rfl,rfl,rfl,rfl,rfl,rfl,rfl,rfl,rfl,rfl,rfl,rfl,rfl,rfl,trivial⟩ rfl (by kernel_rfl) (⟨rfl,rfl⟩)
theorem Gh {β:Bs} (S:aI) (L:HL) (f m t:Nat) (hI:Inv S) (c:aB) (hC:fX β c) :
    Spec Tryz.prog β 24 #[vP f,.agg #[vI (c.op),vI (c.handle),vI (c.other),.string c.name,.string c.text,.slice c.dA (c.data.length) (c.dC),vI (c.mode),vI (c.uid),vI (c.gid),vI (c.sec),vI (c.nano),vI (c.code),vI (c.answer)]] (pA f m t L S) (fun v l=>∃ L2,v=.agg ⟨aW (cQ S c).2⟩/\l=(pA f m t L2 ((cQ S c).1))):=by
 have hX:=hI.hX
 refine Spec.enter Tryz.func24 rfl Tryz.ntmps24 (Nat.le_of_ble_eq_true rfl) (fun R=>?_)
 refine SR (gN 1 (fun b2=>[(3,vP b2)]) (fun _=>[]) (fun _=>[]) (fun b2=>pC b2 c) (fun b2=>?_))
 refine gN 1 (fun b3=>[(4,vP b3)]) (fun _=>[]) (fun _=>[]) (fun b3=>.blk b3 [vI 0,vI 0,vI 0,.string ⟨#[]⟩,.string ⟨#[]⟩,.slice none (0) (0),vI 0,vI 0,vI 0,vI 0,vI 0,vI 0,vI 0] 48) (fun b3=>?_)
 refine NS (gC 2 [] [(1,a_ 7 b2)] [(7,[(12,vI 0)])] ?_)
 refine NS (gC 2 [] [(1,a_ 7 b2)] [(7,[(11,vI 230)])] ?_)
 refine NN (af.seq (SR (gK 4 [(10,.bool (decide ((c.op:Int) ≥ (1:Int))))] [(1,a_ 7 b2)] ?_)))
 refine aj.fY 10 ((c.op:Int) ≥ (1:Int)) (fun _=>by kernel_rfl) (fun h10=>?_) (fun h10=>?_)
 ·refine gK 4 [(14,.bool (decide ((c.op:Int)<=(15:Int))))] [(1,a_ 7 b2)] ?_
  refine NN (af.bg (p:=(c.op:Int)<=(15:Int)) (fun _=>by kernel_rfl) (fun iL=>?_) (fun iL=>?_))
  ·have hop:1<=c.op/\c.op<=15:=⟨h10,iL⟩
   refine af.JT (S:=[.abs (vw b2 (.int .i64 c.op))]) [1,2,4,0,3,5,6,7] 3 (by kernel_rfl) (by kernel_rfl) (fun w hS=>hS.first (i:=7) (b:=b2) rfl rfl) ?_
   refine gR 0 [0,3,5,6,7] [(3,vP b2),(4,vP b3),(17,vI (c.op)),(19,vP f)] [1,2,4] [(1,p_ ⟨[.view 0 (.int .i64 (c.op))],none,none,none,none⟩ [(∀ F w,(vw b2 (.int .i64 c.op)).h F w->w.cell? ⟨b2,0,none⟩=some (vI (c.op)))] ⟨vw.cell,trivial⟩)] ?_
   refine aQ.JU (ι:=Unit) (fr':=fun (_:Unit)=>[(3,vP b2),(4,vP b3),(15,.agg #[.nilFunc,.func (.func 89) #[] #[],.func (.func 90) #[] #[],.func (.func 91) #[] #[],.func (.func 92) #[] #[],.func (.func 93) #[] #[],.func (.func 94) #[] #[],.func (.func 95) #[] #[],.func (.func 96) #[] #[],.func (.func 97) #[] #[],.func (.func 98) #[] #[],.func (.func 99) #[] #[],.func (.func 100) #[] #[],.func (.func 101) #[] #[],.func (.func 102) #[] #[],.func (.func 103) #[] #[]]),(17,vI (c.op)),(19,vP f)]) (hp':=fun (_:Unit)=>((pA f m t L S)++[.abs R,pC b2 (c0 c),pU b3])) rfl rfl ?_ (by rintro _ w hS;exact hS.first (i:=7) (b:=b2) rfl rfl) ?_
   ·refine gL [] (G8) ?_
    rintro _ _ ⟨rfl,rfl⟩
    refine NL ?_
    exact MD () [3,4,15,17,19] [0,1,2,3,4,5,6,7,8]
   rintro _
   refine aQ.JU (ι:=Unit) (fr':=fun (_:Unit)=>[(3,vP b2),(4,vP b3),(18,.func (.func (Lz.getD (c.op.toNat - 1) 0)) #[] #[]),(19,vP f)]) (hp':=fun (_:Unit)=>((pA f m t L S)++[.abs R,pC b2 (c0 c),pU b3])) rfl rfl ?_ (by rintro _ w hS;exact hS.first (i:=7) (b:=b2) rfl rfl) ?_
   ·refine aj.hn (x:=(.tmp 15)) (y:=(.tmp 17)) (d:=(some 18)) hop ?_
    refine NL ?_
    exact MD () [3,4,18,19] [0,1,2,3,4,5,6,7,8]
   rintro _
   refine aQ.JU (ι:=HL) (fr':=fun (L2:HL)=>[(3,vP b2),(4,vP b3),(20,vI ((cX S (c0 c)).1))]) (hp':=fun (L2:HL)=>((pA f m t L2 ((cX S (c0 c)).2.1))++[pC b2 ((cX S (c0 c)).2.2),.abs R,pU b3])) rfl rfl ?_ (by rintro L2 w hS;exact hS.first (i:=6) (b:=b2) rfl (congrArg (fun z=>some (Value.int .i64 z)) (LA (c:=(c0 c)) hop))) ?_
   ·refine gL [0,1,2,3,4,5,7] (S9 (S:=S) (L:=L) (f:=f) (m:=m) (t:=t) (b:=b2) (c:=(c0 c)) c.op hI ⟨hC.hw,hC.ow,hC.nm,hC.tx,hC.da,hC.dl,hC.dc⟩ hop rfl) ?_ (by intro _;rcases JV hop with h|h|h|h|h|h|h|h|h|h|h|h|h|h|h<;>rw [h]<;>kernel_rfl)
    rintro _ _ ⟨L2,rfl,rfl⟩
    refine NL ?_
    exact MD L2 [3,4,20] [0,1,2,3,4,5,6,7,8]
   rintro L2
   refine aQ.JU (ι:=Unit) (fr':=fun (_:Unit)=>[(3,vP b2),(4,vP b3),(20,vI ((cX S (c0 c)).1)),(21,.pointer (some ⟨b2,11,none⟩))]) (hp':=fun (_:Unit)=>((pA f m t L2 ((cX S (c0 c)).2.1))++[pC b2 ((cX S (c0 c)).2.2),.abs R,pU b3])) rfl rfl ?_ (by rintro _ w hS;exact hS.first (i:=6) (b:=b2) rfl (congrArg (fun z=>some (Value.int .i64 z)) (LA (c:=(c0 c)) hop))) ?_
   ·refine gK 1 [(21,.pointer (some ⟨b2,11,none⟩))] [] ?_
    refine NL ?_
    exact MD () [3,4,20,21] [0,1,2,3,4,5,6,7,8]
   rintro _
   refine aQ.last rfl rfl ?_
   refine gC 1 [] [(0,a_ 6 b2)] [(6,[(11,vI ((cX S (c0 c)).1))])] ?_
   refine NL (ai.np (NX (SR ?_)))
   refine gC 2 [] [(0,A_ 6 b2 13),(1,A_ 8 b3 13)] [(8,[(0,vI ((cX S (c0 c)).2.2.op)),(1,vI ((cX S (c0 c)).2.2.handle)),(2,vI ((cX S (c0 c)).2.2.other)),(3,.string (cX S (c0 c)).2.2.name),(4,.string (cX S (c0 c)).2.2.text),(5,.slice (cX S (c0 c)).2.2.dA ((cX S (c0 c)).2.2.data.length) ((cX S (c0 c)).2.2.dC)),(6,vI ((cX S (c0 c)).2.2.mode)),(7,vI ((cX S (c0 c)).2.2.uid)),(8,vI ((cX S (c0 c)).2.2.gid)),(9,vI ((cX S (c0 c)).2.2.sec)),(10,vI ((cX S (c0 c)).2.2.nano)),(11,vI ((cX S (c0 c)).1)),(12,vI ((cX S (c0 c)).2.2.answer))])] ?_
   refine NN (af.ret ?_)
   exact ai.ret (v:=.agg #[vI ((cX S (c0 c)).2.2.op),vI ((cX S (c0 c)).2.2.handle),vI ((cX S (c0 c)).2.2.other),.string (cX S (c0 c)).2.2.name,.string (cX S (c0 c)).2.2.text,.slice (cX S (c0 c)).2.2.dA ((cX S (c0 c)).2.2.data.length) ((cX S (c0 c)).2.2.dC),vI ((cX S (c0 c)).2.2.mode),vI ((cX S (c0 c)).2.2.uid),vI ((cX S (c0 c)).2.2.gid),vI ((cX S (c0 c)).2.2.sec),vI ((cX S (c0 c)).2.2.nano),vI ((cX S (c0 c)).1),vI ((cX S (c0 c)).2.2.answer)]) (l:=(pA f m t L2 ((cX S (c0 c)).2.1))) (bG:=[b3=b3,b3=b3,b3=b3,b3=b3,b3=b3,b3=b3,b3=b3,b3=b3,b3=b3,b3=b3,b3=b3,b3=b3,b3=b3]) [.at 8,.at 8,.at 8,.at 8,.at 8,.at 8,.at 8,.at 8,.at 8,.at 8,.at 8,.at 8,.at 8] [0,1,2,3,4,5,7] (fun _=>by kernel_rfl) ⟨rfl,rfl,rfl,rfl,rfl,rfl,rfl,rfl,rfl,rfl,rfl,rfl,rfl,trivial⟩ rfl (by kernel_rfl) (⟨L2,rfl,rfl⟩)
  refine af.skip (NX (SR (gC 2 [] [(0,A_ 7 b2 13),(1,A_ 8 b3 13)] [(8,(TM c))] ?_)))
  refine NN (af.ret ?_)
  exact ai.ret (v:=.agg #[vI (c.op),vI (c.handle),vI (c.other),.string c.name,.string c.text,.slice c.dA (c.data.length) (c.dC),vI (c.mode),vI (c.uid),vI (c.gid),vI (c.sec),vI (c.nano),vI 230,vI 0]) (l:=(pA f m t L S)) (bG:=[b3=b3,b3=b3,b3=b3,b3=b3,b3=b3,b3=b3,b3=b3,b3=b3,b3=b3,b3=b3,b3=b3,b3=b3,b3=b3]) [.at 8,.at 8,.at 8,.at 8,.at 8,.at 8,.at 8,.at 8,.at 8,.at 8,.at 8,.at 8,.at 8] [0,1,2,3,4,5,6] (fun _=>by kernel_rfl) ⟨rfl,rfl,rfl,rfl,rfl,rfl,rfl,rfl,rfl,rfl,rfl,rfl,rfl,trivial⟩ rfl (by kernel_rfl) (⟨L,by unfold cQ;rw [vg (S:=S) (c:=(c0 c)) (by show ¬ (1<=c.op/\c.op<=15);omega)];exact⟨rfl,rfl⟩⟩)
 refine gK 4 [(14,.bool false)] [] ?_
 refine NN (CF (af.skip (NX (SR (gC 2 [] [(0,A_ 7 b2 13),(1,A_ 8 b3 13)] [(8,(TM c))] ?_)))))
 refine NN (af.ret ?_)
 exact ai.ret (v:=.agg #[vI (c.op),vI (c.handle),vI (c.other),.string c.name,.string c.text,.slice c.dA (c.data.length) (c.dC),vI (c.mode),vI (c.uid),vI (c.gid),vI (c.sec),vI (c.nano),vI 230,vI 0]) (l:=(pA f m t L S)) (bG:=[b3=b3,b3=b3,b3=b3,b3=b3,b3=b3,b3=b3,b3=b3,b3=b3,b3=b3,b3=b3,b3=b3,b3=b3,b3=b3]) [.at 8,.at 8,.at 8,.at 8,.at 8,.at 8,.at 8,.at 8,.at 8,.at 8,.at 8,.at 8,.at 8] [0,1,2,3,4,5,6] (fun _=>by kernel_rfl) ⟨rfl,rfl,rfl,rfl,rfl,rfl,rfl,rfl,rfl,rfl,rfl,rfl,rfl,trivial⟩ rfl (by kernel_rfl) (⟨L,by unfold cQ;rw [vg (S:=S) (c:=(c0 c)) (by show ¬ (1<=c.op/\c.op<=15);omega)];exact⟨rfl,rfl⟩⟩)
end
section
open Go.RowKit Go.Maps bH aE
attribute [local irreducible] aj aS af ai
abbrev Ij (B)(d:List UInt8) (cap):=(.abs (av 5 1 B d.length cap (bZ d)):HP)
abbrev TN (b5:Nat) (An:Option Addr) (i:Nat) (cn:Nat):=(.blk b5 [.slice An (i) (cn)] 24:HP)
abbrev TP (An:Option Addr) (i:Nat) (cn:Nat) (K) (S:aI):=(.abs (av 70 10 An i cn (dJ K ((bn S).take i))):HP)
abbrev TQ (S:aI) (i:Nat) (K):=(.abs (ju (lD ((bn S).take i) K) i):HP)
abbrev TR (S:aI) (i:Nat) (K):=(.abs (ju (lE ((bn S).take i) K) i):HP)
abbrev TS (A7:Option Addr) (S:aI) (c8:Nat):=(.abs (av 3 1 A7 ((keys S.idx).length) c8 (ints (keys S.idx))):HP)
abbrev TU (b4:Nat):=(.blk b4 [.slice none (0) (0)] 24:HP)
abbrev RD (b9:Nat):=(.blk b9 [vI 0,vI 0,vI 0,vI 0,vI 0,vI 0,vI 0,.slice none (0) (0),.string ⟨#[]⟩,.slice none (0) (0)] 70:HP)
abbrev TV (b9:Nat) (S:aI) (i:Nat) (tk:Nat):=(.blk b9 [vI ((cY S i)),vI 1,vI ((obj S.O tk).mode),vI ((obj S.O tk).uid),vI ((obj S.O tk).gid),vI ((obj S.O tk).sec),vI ((obj S.O tk).nano),.slice none (0) (0),.string ⟨#[]⟩,.slice none (0) (0)] 70:HP)
abbrev RG (S:aI) (L:HL) (tk:Nat):=(.abs (ax (kg (cF S.O L) tk cE.none)):HP)
abbrev Gi (L:HL) (tk:Nat) (S:aI):=(.abs (aN Tryz.prog 9 (L.m tk) (iG L (obj S.O tk).ah) ((obj S.O tk).ah.length)):HP)
abbrev jy (b15:Nat) (S:aI) (i:Nat) (tk:Nat) (Ae:Option Addr) (j:Nat) (ce:Nat):=(.blk b15 [vI ((cY S i)),vI 2,vI ((obj S.O tk).mode),vI ((obj S.O tk).uid),vI ((obj S.O tk).gid),vI ((obj S.O tk).sec),vI ((obj S.O tk).nano),.slice none (0) (0),.string ⟨#[]⟩,.slice Ae (j) (ce)] 70:HP)
abbrev ox (Ae:Option Addr) (j:Nat) (ce:Nat) (S:aI) (tk:Nat):=(.abs (av 140 2 Ae j ce (gU (((obj S.O tk).ah.take j).map (lW S.O)))):HP)
abbrev RH (b16:Nat) (L:HL) (tk:Nat):=(.blk b16 [.map (some (L.m tk))] 136:HP)
abbrev RI (dZ:Option Addr) (S:aI) (tk:Nat) (fq:Nat):=(.abs (av 9 1 dZ ((obj S.O tk).ah.length) fq (qO (obj S.O tk).ah)):HP)
abbrev Dw (nJ:Option Addr) (j:Nat) (nK:Nat) (S:aI) (tk:Nat):=(.abs (av 140 2 nJ (j+1) nK (gU (((obj S.O tk).ah.take (j+1)).map (lW S.O)))):HP)
abbrev Dx (b19:Nat) (S:aI) (tk:Nat) (j:Nat) (ek:Nat):=(.blk b19 [.string (fF (obj S.O tk).ah j),vI ((obj S.O ek).id)] 140:HP)
abbrev lZ (f:Nat) (b4:Nat) (b5:Nat) (b15:Nat) (L:HL) (tk:Nat) (A7:Option Addr) (S:aI) (c8:Nat) (i:Nat) (dZ:Option Addr) (fq:Nat) (j:Nat):=([(0,vP f),(2,vP b4),(3,vP b5),(8,vP b15),(11,vP (L.b tk)),(19,.slice A7 ((keys S.idx).length) (c8)),(20,vI ↑((keys S.idx).length)),(21,vI ↑i),(79,.slice dZ ((obj S.O tk).ah.length) (fq)),(80,vI ↑((obj S.O tk).ah.length)),(81,vI ↑j)]:Fr)
abbrev kS (L:HL) (tk:Nat) (S:aI) (b16:Nat) (dZ:Option Addr) (fq:Nat) (b5:Nat) (An:Option Addr) (i:Nat) (cn:Nat) (K) (A7:Option Addr) (c8:Nat) (b4:Nat) (f:Nat) (m:Nat) (t) (R:cE):=([Gi L tk S,RH b16 L tk,RI dZ S tk fq,TN b5 An i cn,TP An i cn K S,TQ S i K,TR S i K,TS A7 S c8,TU b4,pF f m t S.X,pI m L S.idx,pO S.O L,pD S.O L,RG S L tk,.abs R]:List HP)
abbrev Gj (f:Nat) (b4:Nat) (b5:Nat) (b15:Nat) (L:HL) (tk:Nat) (A7:Option Addr) (S:aI) (c8:Nat) (i:Nat) (dZ:Option Addr) (fq:Nat) (j:Nat):=([(0,vP f),(2,vP b4),(3,vP b5),(8,vP b15),(11,vP (L.b tk)),(19,.slice A7 ((keys S.idx).length) (c8)),(20,vI ↑((keys S.idx).length)),(21,vI ↑i),(79,.slice dZ ((obj S.O tk).ah.length) (fq)),(80,vI ↑((obj S.O tk).ah.length)),(81,vI ↑j)]:Fr)
abbrev Dy (S:aI) (tk:Nat):=([(39,vI ((obj S.O tk).mode)),(43,vI ((obj S.O tk).uid)),(47,vI ((obj S.O tk).gid)),(51,.agg #[vI ((obj S.O tk).sec),vI ((obj S.O tk).nano)])]:Fr)
abbrev yw (f:Nat) (b4:Nat) (b5:Nat):=([(0,vP f),(2,vP b4),(3,vP b5)]:Fr)
abbrev yx (A7:Option Addr) (S:aI) (c8:Nat) (i:Nat):=([(19,.slice A7 ((keys S.idx).length) (c8)),(20,vI ↑((keys S.idx).length)),(21,vI ↑i)]:Fr)
abbrev wD (b5:Nat) (An:Option Addr) (i:Nat) (cn:Nat) (K) (S:aI) (A7:Option Addr) (c8:Nat) (b4:Nat) (f:Nat) (m:Nat) (t) (L:HL):=([TN b5 An i cn,TP An i cn K S,TQ S i K,TR S i K,TS A7 S c8,TU b4,pF f m t S.X,pI m L S.idx,pO S.O L]:List HP)
abbrev rB (Ae:Option Addr) (j:Nat) (ce:Nat) (S:aI) (tk:Nat):=([(86,.slice Ae (j) (ce)),(87,.string (fF (obj S.O tk).ah j))]:Fr)
abbrev NE (S:aI) (tk:Nat):=([(2,vI ((obj S.O tk).mode)),(3,vI ((obj S.O tk).uid)),(4,vI ((obj S.O tk).gid)),(5,vI ((obj S.O tk).sec)),(6,vI ((obj S.O tk).nano))]:Fr)
theorem Dz {β:Bs} (c:Nat):Spec Tryz.prog β 58 #[.slice none 0 c] [] (fun v l=>∃ B cap,v=.slice B 0 cap/\l=[.abs (av 5 1 B 0 cap [])]):=by
 refine Spec.enter Tryz.func58 rfl Tryz.ntmps58 (Nat.le_of_ble_eq_true rfl) (fun R=>?_)
 refine SR (gK 1 [] [] ?_)
 refine NN (af.seq (SR (gK 2 [(4,.bool true)] [] ?_)))
 refine NN (CT (SR (gK 1 [(2,.slice none (0) (0))] [] ?_)))
 refine NN (af.ret (ai.ar (ai.mem (fun w hS=>(hS.jF (e:=5) (size:=1)).pick (idx:=[1,0]) (l':=[.abs (av 5 1 none 0 0 ([])),.abs R]) rfl (by kernel_rfl)) ?_)))
 exact RT (.slice none (0) (0)) [0,1] (⟨none,0,rfl,rfl⟩)
theorem Cu {β:Bs} (a:Addr) (c:Nat) (d:List UInt8) (hA:bh β (some a) d) (hl:d.length<=140737488355328):Spec Tryz.prog β 58 #[.slice (some a) d.length c] [] (fun v l=>∃ B cap,v=.slice B d.length cap/\l=[Ij B d cap]):=by
 refine Spec.enter Tryz.func58 rfl Tryz.ntmps58 (Nat.le_of_ble_eq_true rfl) (fun R=>?_)
 refine SR (gK 1 [] [] ?_)
 refine NN (af.seq (SR (gK 2 [(4,.bool false)] [] ?_)))
 refine NN (CF (af.skip (NX (SR (gN 1 (fun b1=>[(5,.slice (some ⟨b1,0,none⟩) (0) (0))]) (fun _=>[]) (fun _=>[]) (fun b1=>.blk b1 [] 5) (fun b1=>?_))))))
 refine aj.mem (fun w hS=>hS.qt (i:=1) (b:=b1) (cs:=[]) (e:=5) 1 0 (by kernel_rfl) rfl (by decide)) ?_
 refine gK 1 [(6,.slice (some a) (d.length) (c))] [] ?_
 refine aj.append 1 (d:=(some 7)) (t:=46) (e:=5) (z:=.int .u8 0) (size:=1) (bytes:=1) (n:=0) (cap:=0) (A:=some ⟨b1,0,none⟩) (xs:=[]) (s:=(.tmp 5)) (x:=(.tmp 6)) (ats:=#[46,46]) (A':=(some a)) (m:=d.length) (c':=c) (news:=(bZ d)) (fun _=>by kernel_rfl) rfl (by kernel_rfl) (fun _=>by kernel_rfl) (fun _=>by kernel_rfl) Tryz.underlying46 (by kernel_rfl) rfl (by decide) (by rw [rQ,Nat.mul_one]) (nV d) (hA.src) (by unfold maxLen;omega) (by omega) (fun A2 c3=>?_)
 refine aj.bI 1 (p:=.abs (av 5 1 A2 (0+d.length) c3 ([]++(bZ d)))) (p':=.abs (av 5 1 A2 d.length c3 (bZ d))) (by kernel_rfl) (by rw [Nat.zero_add,List.nil_append]) ?_
 refine aj.slot 7 (.slice A2 (0+d.length) (c3)) (.slice A2 (d.length) (c3)) (fun _=>by kernel_rfl) (by rw [Nat.zero_add]) ?_
 refine gK 1 [(2,.slice A2 (d.length) (c3))] [] ?_
 refine NN (af.ret ?_)
 exact RT (.slice A2 (d.length) (c3)) [1,0] (⟨A2,c3,rfl,rfl⟩)
theorem uz {β:Bs} (A:Option Addr) (c:Nat) (d:List UInt8) (hA:bh β A d) (hl:d.length<=140737488355328):Spec Tryz.prog β 58 #[.slice A d.length c] [] (fun v l=>∃ B cap,v=.slice B d.length cap/\l=[Ij B d cap]):=by
  cases A with
  | some a=>exact Cu a c d hA hl
  | none=>
    cases d with
    | nil=>exact Dz c
    | cons b r=>have h:=bh.hd hA (j:=0) (by simp);cases h
theorem Gl {β:Bs} (A:Option Addr) (c:Nat) (d:List UInt8) (hl:d.length<=140737488355328):Spec Tryz.prog β 58 #[.slice A d.length c] [Ij A d c] (fun v l=>∃ B cap,v=.slice B d.length cap/\l=[Ij B d cap,Ij A d c]):=
  (Spec.Am (pre:=[]) (R:=[Ij A d c]) (fun _ h=>uz A c d h.bytes hl)).mono (by rintro v l ⟨l0,⟨B,cap,rfl,rfl⟩,rfl⟩;exact⟨B,cap,rfl,rfl⟩)
theorem Gm {β:Bs} (L:HL) (b bk:Nat) (idx:Used Th) (hr:aE.dh (keys idx)) (hn:idx.length<=4096) :
    Spec Tryz.prog β 66 #[BM bk] [pI b L idx,.blk bk [.map (some b)] 120] (fun v l=>∃ A cap,v=.slice A (keys idx).length cap/\l=[pI b L idx,.blk bk [.map (some b)] 120,.abs (av 3 1 A (keys idx).length cap (ints (keys idx)))]):=
  (Jb b bk idx.length (bp (bq L idx)) (by omega)).mono (by
    rintro v l ⟨A,cap,ss,rfl,hk,_,rfl⟩
    have e:=Py (us:=bq L idx) (by rw [Ay];exact hr) hk
    rw [Ay] at e
    subst e
    exact⟨A,cap,rfl,rfl⟩)
theorem LB {β:Bs} (S:aI) (L:HL) (f m t:Nat) (hI:Inv S) :
    Spec Tryz.prog β 25 #[vP f] [pF f m t S.X,pI m L S.idx,pO S.O L,pD S.O L,pE S.O L] (fun v l=>∃ A c K,v=.agg #[.slice A (bn S).length c]/\l=[pF f m t S.X,pI m L S.idx,pO S.O L,pD S.O L,pE S.O L]++Nb A c (bn S) K):=by
 have hX:=hI.hX
 have hkl:(keys S.idx).length=S.idx.length:=AJ _
 have hil:=hI.len
 refine Spec.enter Tryz.func25 rfl Tryz.ntmps25 (Nat.le_of_ble_eq_true rfl) (fun R=>?_)
 refine SR (gN 1 (fun b4=>[(2,vP b4)]) (fun _=>[]) (fun _=>[]) (fun b4=>.blk b4 [.slice none (0) (0)] 24) (fun b4=>?_))
 refine NS (gN 1 (fun b5=>[(3,vP b5)]) (fun _=>[]) (fun _=>[]) (fun b5=>.blk b5 [.slice none (0) (0)] 24) (fun b5=>?_))
 refine NN (af.seq (SR (gK 4 [(17,.map (some m))] [(3,a_ 0 f)] ?_)))
 refine gL [] (MG (some m)) ?_
 rintro _ _ ⟨b6,rfl,rfl⟩
 refine gL [2,0] (Gm L m b6 S.idx hI.rise hI.len) ?_
 rintro _ _ ⟨A7,c8,rfl,rfl⟩
 refine gK 1 [(20,vI ↑((keys S.idx).length))] [] ?_
 refine aj.mem (fun w hS=>hS.jF (e:=70) (size:=10)) ?_
 refine aj.mem (fun w hS=>hS.Kr (lD [] Na)) ?_
 refine aj.mem (fun w hS=>hS.Kr (lE [] Na)) ?_
 refine gK 1 [(21,vI 0)] [] ?_
 refine NN (af.block ?_)
 refine af.loop (ι:=Nat×(Option Addr)×Nat×Lay) (fun ((i,An,cn,K):Nat×(Option Addr)×Nat×Lay)=>(i<=S.idx.length)) (fun ((i,An,cn,K):Nat×(Option Addr)×Nat×Lay)=>S.idx.length - i) (fun ((i,An,cn,K):Nat×(Option Addr)×Nat×Lay)=>(yw f b4 b5++yx A7 S c8 i)) (fun ((i,An,cn,K):Nat×(Option Addr)×Nat×Lay)=>(wD b5 An i cn K S A7 c8 b4 f m t L++[pD S.O L,pE S.O L,.abs R])) (0,none,0,Na) (idx:=[0,2,3,19,20,21]) (pk:=[9,10,11,12,2,8,3,0,4,5,6,7]) (show (0<=S.idx.length) from (Nat.zero_le _)) (fun _=>by kernel_rfl) rfl (by kernel_rfl) ?_
 rintro⟨i,An,cn,K⟩ hi
 show af _ _ _ _ (yw f b4 b5++yx A7 S c8 i) (wD b5 An i cn K S A7 c8 b4 f m t L++[pD S.O L,pE S.O L,.abs R]) _
 refine SR (gK 1 [(22,.bool (decide ((((i:Nat):Int):Int) < ((((keys S.idx).length:Nat):Int):Int))))] [] ?_)
 refine NN (af.seq (af.bg (p:=(((i:Nat):Int):Int) < ((((keys S.idx).length:Nat):Int):Int)) (fun _=>by kernel_rfl) (fun wV=>?_) (fun wV=>?_)))
 ·have hi2:i < S.idx.length:=by omega
  refine af.skip (NX (af.seq (af.block (SR ?_))))
  refine aj.tell (p:=(A7=some ⟨aq A7,ak A7,none⟩)) (fun w hS=>let ⟨F,h⟩:=hS.get (i:=4) rfl;(av.IL h (by omega)).1) (fun hAk=>?_)
  refine gK 3 [(5,vI ((cY S i)))] [(0,p_ ⟨[],some i,none,some ⟨(aq A7),ak A7,none⟩,none⟩ [((i:Nat):Int)=((i:Nat):Int),i < (keys S.idx).length,(⟨(aq A7),ak A7,none⟩:Addr).spot=none,(A7:Option Addr)=some ⟨(aq A7),ak A7,none⟩] ⟨rfl,by omega,rfl,hAk,trivial⟩),(1,p_ ⟨[.view 4 (.int .i64 ((cY S i)))],none,none,none,none⟩ [(∀ F w,(av 3 1 A7 ((keys S.idx).length) c8 (ints (keys S.idx))).h F w->w.cell? ⟨(aq A7),ak A7+i * 1,none⟩=some (vI ((cY S i))))] ⟨av.cellAt (i:=i) (j:=0) (by omega) (Nc hi2),trivial⟩)] ?_
  refine NN (af.seq ?_)
  have WN:=(H6 hI.toInv0 hi2).1
  have hget:=get_at hI.toInv0 hi2
  rcases SM hI.toInv0 hi2 with ⟨tk,kX,hlv⟩|⟨tk,kX,hlv⟩|⟨tk,kX,hlv⟩
  ·have hkt:(obj S.O tk).kind=1:=hI.kind hlv
   have hel:(obj S.O tk).ah.length<=8192:=hI.gi hlv
   have hdl:(obj S.O tk).data.length<=140737488355328:=hI.Jd hlv
   refine af.region (gK 5 [(28,.map (some m)),(29,vI ((cY S i)))] [(3,a_ 6 f)] ?_)
   refine aj.eu 7 (d:=(some 30)) (t:=120) (K:=3) (E:=124) (b:=m) (n:=S.idx.length) (f:=(bp (bq L S.idx))) (x:=(.tmp 28)) (ix:=(.tmp 29)) (key:=.int .i64 ((cY S i))) (z:=.nilIface) (kl:=(.int .i64 (cY S i))) (r:=(some (dQ L ⟨tk,1⟩))) (fun _=>by kernel_rfl) (by kernel_rfl) (fun _=>by kernel_rfl) (fun _=>by kernel_rfl) d6 Tryz.underlying120 (fun _=>by kernel_rfl) (gX (Dg hI.toInv0 hi2)) (by rw [fw,hget,kX];rfl) ?_
   refine gK 1 [(6,.iface 129 (vP (L.b tk)))] [] ?_
   refine NS (gK 1 [(31,.iface 129 (vP (L.b tk)))] [] ?_)
   refine gL [] (dw (L.b tk)) ?_
   rintro _ _ ⟨rfl,rfl⟩
   refine gK 1 [(7,vP (L.b tk))] [] ?_
   refine NN (af.seq (af.rY (S:=[pO S.O L]) [0,1,3,4,5,6,7,8,9,10,11,12,13,14,15,16,17,18] [.beside [2,19] 20,.one 21] [8] (by kernel_rfl) (by kernel_rfl) rfl (by kernel_rfl) ?_))
   refine gP (yw f b4 b5++[(6,.iface 129 (vP (L.b tk)))]++yx A7 S c8 i++[(33,vI ((cY S i))),(34,.iface 129 (vP (L.b tk)))]++Dy S tk) [0,1,3,4,5,6,7,8,9,10,11,12,13,14,15,16,17,18] [(5,v_ 0 (sY L hkt)),(9,v_ 0 (zn L hkt)),(13,v_ 0 (zo L hkt)),(17,p_ ⟨[.view 0 (.int .i64 ((obj S.O tk).sec)),.view 0 (.int .i64 ((obj S.O tk).nano))],none,none,none,none⟩ [(∀ F w,(ax (bM S.O L)).h F w->w.cell? ⟨(L.b tk),5,none⟩=some (vI ((obj S.O tk).nano))),(∀ F w,(ax (bM S.O L)).h F w->w.cell? ⟨(L.b tk),4,none⟩=some (vI ((obj S.O tk).sec)))] ⟨d8 (by rw [hkt];decide) (rfl),d8 (by rw [hkt];decide) (rfl),trivial⟩)] ?_
   refine iH.beside (j:=20) (dj:=8) (R:=fun f_ l_=>f_=([(52,.agg #[vI ((cY S i)),vI 1,vI ((obj S.O tk).mode),vI ((obj S.O tk).uid),vI ((obj S.O tk).gid),vI ((obj S.O tk).sec),vI ((obj S.O tk).nano),.slice none (0) (0),.string ⟨#[]⟩,.slice none (0) (0)]),(35,vI 1)]++yw f b4 b5++[(6,.iface 129 (vP (L.b tk)))]++yx A7 S c8 i++[(33,vI ((cY S i))),(34,.iface 129 (vP (L.b tk)))]++Dy S tk)/\l_=[]) [0,1,2,3,4,5,6,7,8,9,10,11] [8] [(2,35),(19,52)] rfl (pc:=[]) (pj:=[]) (Z:=(wD b5 An i cn K S A7 c8 b4 f m t L++[pD S.O L,pE S.O L,.abs R])) (by kernel_rfl) rfl (by kernel_rfl) rfl rfl (kJ.of (ι:=Nat) (v:=fun (b9:Nat)=>vP b9) (l:=fun (b9:Nat)=>[RD b9]) [35,52] rfl rfl rfl rfl ?_) ?_ ?_
   ·intro u Aq
    show aj _ _ _ _ _ [(35,(u 35)),(52,(u 52)),(0,vP f),(2,vP b4),(3,vP b5),(6,.iface 129 (vP (L.b tk))),(19,.slice A7 ((keys S.idx).length) (c8)),(20,vI ↑((keys S.idx).length)),(21,vI ↑i),(33,vI ((cY S i))),(34,.iface 129 (vP (L.b tk))),(39,vI ((obj S.O tk).mode)),(43,vI ((obj S.O tk).uid)),(47,vI ((obj S.O tk).gid)),(51,.agg #[vI ((obj S.O tk).sec),vI ((obj S.O tk).nano)])] [.abs Aq] _
    refine gN 1 (fun b9=>[(8,vP b9)]) (fun _=>[]) (fun _=>[]) (fun b9=>.blk b9 [vI 0,vI 0,vI 0,vI 0,vI 0,vI 0,vI 0,.slice none (0) (0),.string ⟨#[]⟩,.slice none (0) (0)] 70) (fun b9=>?_)
    refine NL ?_
    exact MD b9 [8,35,52,0,2,3,6,19,20,21,33,34,39,43,47,51] [1,0]
   ·refine kK.step (kJ.of (ι:=Unit) (v:=fun (_:Unit)=>.int .i64 1) (l:=fun (_:Unit)=>[]) [8] rfl rfl rfl rfl ?_) rfl ?_
    ·intro u Aq
     show aj _ _ _ _ _ [(8,(u 8)),(0,vP f),(2,vP b4),(3,vP b5),(6,.iface 129 (vP (L.b tk))),(19,.slice A7 ((keys S.idx).length) (c8)),(20,vI ↑((keys S.idx).length)),(21,vI ↑i),(33,vI ((cY S i))),(34,.iface 129 (vP (L.b tk))),(39,vI ((obj S.O tk).mode)),(43,vI ((obj S.O tk).uid)),(47,vI ((obj S.O tk).gid)),(51,.agg #[vI ((obj S.O tk).sec),vI ((obj S.O tk).nano)])] [.abs Aq] _
     refine gL [] (mJ (vP (L.b tk))) ?_
     rintro _ _ ⟨rfl,rfl⟩
     refine NL ?_
     exact MD () [35,8,0,2,3,6,19,20,21,33,34,39,43,47,51] [0]
    rintro _ _ ⟨_,rfl,rfl⟩
    refine kK.step (kJ.of (ι:=Unit) (v:=fun (_:Unit)=>.agg #[vI ((cY S i)),vI 1,vI ((obj S.O tk).mode),vI ((obj S.O tk).uid),vI ((obj S.O tk).gid),vI ((obj S.O tk).sec),vI ((obj S.O tk).nano),.slice none (0) (0),.string ⟨#[]⟩,.slice none (0) (0)]) (l:=fun (_:Unit)=>[]) [8] rfl rfl rfl rfl ?_) rfl ?_
    ·intro u Aq
     show aj _ _ _ _ _ [(8,(u 8)),(35,vI 1),(0,vP f),(2,vP b4),(3,vP b5),(6,.iface 129 (vP (L.b tk))),(19,.slice A7 ((keys S.idx).length) (c8)),(20,vI ↑((keys S.idx).length)),(21,vI ↑i),(33,vI ((cY S i))),(34,.iface 129 (vP (L.b tk))),(39,vI ((obj S.O tk).mode)),(43,vI ((obj S.O tk).uid)),(47,vI ((obj S.O tk).gid)),(51,.agg #[vI ((obj S.O tk).sec),vI ((obj S.O tk).nano)])] [.abs Aq] _
     refine gK 1 [(52,.agg #[vI ((cY S i)),vI 1,vI ((obj S.O tk).mode),vI ((obj S.O tk).uid),vI ((obj S.O tk).gid),vI ((obj S.O tk).sec),vI ((obj S.O tk).nano),.slice none (0) (0),.string ⟨#[]⟩,.slice none (0) (0)])] [] ?_
     refine NL ?_
     exact MD () [52,8,35,0,2,3,6,19,20,21,33,34,39,43,47,51] [0]
    rintro _ _ ⟨_,rfl,rfl⟩
    exact⟨rfl,rfl⟩
   rintro _ _ ⟨rfl,rfl⟩ _ _ ⟨b9,rfl,rfl⟩
   refine iH.last rfl rfl ?_
   refine gC 1 [] [(0,A_ 0 b9 10)] [(0,([(0,vI ((cY S i))),(1,vI 1)]++NE S tk))] ?_
   refine NL (ai.np (NX (af.seq (SR ?_))))
   refine gK 1 [(53,.iface 129 (vP (L.b tk)))] [] ?_
   refine NN (af.block (SR ?_))
   refine gK 3 [(55,.bool true),(56,vP (L.b tk))] [] ?_
   refine NN (CT (SR (gK 1 [(9,vP (L.b tk))] [] ?_)))
   refine NN (af.region (gK 4 [(60,.slice (L.dA tk) ((obj S.O tk).data.length) ((L.dC tk)))] [(3,v_ 9 (FX L hkt))] ?_))
   refine aj.mem (cR:=([TV b9 S i tk]++wD b5 An i cn K S A7 c8 b4 f m t L++[Tw S L tk,pE S.O L,.abs R,.abs (av 5 1 (L.dA tk) ((obj S.O tk).data.length) (L.dC tk) (bZ (obj S.O tk).data))])) (fun w hS=>hS.Ku (i:=10) (k:=tk) rfl hkt) ?_
   refine gL [13] (Gl (L.dA tk) (L.dC tk) (obj S.O tk).data hdl) ?_
   rintro _ _ ⟨pq,c11,rfl,rfl⟩
   refine aj.mem (cR:=([pD S.O L,.abs (av 5 1 pq ((obj S.O tk).data.length) c11 (bZ (obj S.O tk).data)),TV b9 S i tk]++wD b5 An i cn K S A7 c8 b4 f m t L++[pE S.O L,.abs R])) (fun w hS=>hS.Q7 (i:=12) (j:=1) (ix:=[0,2,3,4,5,6,7,8,9,10,11,13,14]) rfl rfl (by kernel_rfl) rfl hkt) ?_
   refine gC 2 [] [(1,a_ 2 b9)] [(2,[(7,.slice pq ((obj S.O tk).data.length) (c11))])] ?_
   refine NL (ai.aJ (NX (af.region ?_)))
   refine gN 4 (fun b12=>[(104,.slice An (i) (cn)),(106,.slice (some ⟨b12,0,none⟩) (1) (1))]) (fun b12=>[(1,a_ 3 b5),(2,A_ 2 b9 10)]) (fun _=>[]) (fun b12=>.blk b12 [vI ((cY S i)),vI 1,vI ((obj S.O tk).mode),vI ((obj S.O tk).uid),vI ((obj S.O tk).gid),vI ((obj S.O tk).sec),vI ((obj S.O tk).nano),.slice pq ((obj S.O tk).data.length) (c11),.string ⟨#[]⟩,.slice none (0) (0)] 70) (fun b12=>?_)
   refine aj.append 4 (d:=(some 107)) (t:=22) (e:=70) (z:=.agg #[vI 0,vI 0,vI 0,vI 0,vI 0,vI 0,vI 0,.slice none (0) (0),.string ⟨#[]⟩,.slice none (0) (0)]) (size:=10) (bytes:=120) (n:=i) (cap:=cn) (A:=An) (xs:=(dJ K ((bn S).take i))) (s:=(.tmp 104)) (x:=(.tmp 106)) (ats:=#[22,22]) (A':=some ⟨b12,0,none⟩) (m:=1) (c':=1) (news:=[vI ((cY S i)),vI 1,vI ((obj S.O tk).mode),vI ((obj S.O tk).uid),vI ((obj S.O tk).gid),vI ((obj S.O tk).sec),vI ((obj S.O tk).nano),.slice pq ((obj S.O tk).data.length) (c11),.string ⟨#[]⟩,.slice none (0) (0)]) (fun _=>by kernel_rfl) rfl (by kernel_rfl) (fun _=>by kernel_rfl) (fun _=>by kernel_rfl) Tryz.underlying22 (by kernel_rfl) rfl (by decide) (rfl) (by simp [Value.oneCell']) (jh (j:=14) rfl) (by unfold maxLen;omega) (by omega) (fun mz mA=>?_)
   refine aj.bI 4 (p:=.abs (av 70 10 mz (i+1) mA ((dJ K ((bn S).take i))++[vI ((cY S i)),vI 1,vI ((obj S.O tk).mode),vI ((obj S.O tk).uid),vI ((obj S.O tk).gid),vI ((obj S.O tk).sec),vI ((obj S.O tk).nano),.slice pq ((obj S.O tk).data.length) (c11),.string ⟨#[]⟩,.slice none (0) (0)]))) (p':=.abs (av 70 10 mz (i+1) mA (dJ (K.put i pq c11 none 0) ((bn S).take (i+1))))) (by kernel_rfl) (congrArg (fun x=>HP.abs (av 70 10 _ _ _ x)) (wj (dU (by omega)) (qP hI.toInv0 hi2 kX hlv) rfl rfl)) ?_
   refine aj.slot 107 (.slice mz (i+1) (mA)) (.slice mz ((i+1)) (mA)) (fun _=>by kernel_rfl) (rfl) ?_
   refine gC 2 [] [(1,a_ 3 b5)] [(3,[(0,.slice mz ((i+1)) (mA))])] ?_
   refine NL (ai.aJ (NX (af.region ?_)))
   refine gK 2 [(21,vI ↑(i+1))] [(0,p_ ⟨[],none,none,none,some (vI ↑(i+1))⟩ [(Value.int .i64 (IntKind.wrap .i64 (((i:Nat):Int)+1)))=(.int .i64 ↑(i+1))] ⟨bA (by omega) (by omega) (by omega),trivial⟩)] ?_
   refine NL (ai.mem (fun w hS=>hS.jF (e:=140) (size:=2)) ?_)
   refine ai.mem (fun w hS=>hS.si (R':=(lE ((bn S).take (i+1)) (K.put i pq c11 none 0))) (i:=6) (j:=1) (idx:=[0,2,3,4,5,7,8,9,10,11,12,13,14,15]) rfl rfl (by kernel_rfl) rfl (AO (dU (by omega)) (qP hI.toInv0 hi2 kX hlv)) (xY (dU (by omega)) (qP hI.toInv0 hi2 kX hlv) rfl)) ?_
   refine ai.mem (fun w hS=>hS.si (R':=(lD ((bn S).take (i+1)) (K.put i pq c11 none 0))) (i:=5) (j:=14) (idx:=[0,1,2,3,4,6,7,8,9,10,11,12,13]) rfl rfl (by kernel_rfl) rfl (AP (dU (by omega)) (qP hI.toInv0 hi2 kX hlv)) ((xZ (dU (by omega)) (qP hI.toInv0 hi2 kX hlv) rfl))) ?_
   exact ai.turn ((i+1),mz,mA,(K.put i pq c11 none 0)) (idx:=[0,2,3,19,20,21]) (pk:=[4,5,0,1,6,7,8,9,10,2,11,12]) (show (((i+1))<=S.idx.length) from (by omega)) (by show S.idx.length - ((i+1)) < S.idx.length - i;omega) (fun _=>by kernel_rfl) rfl (by kernel_rfl)
  ·have hkt:(obj S.O tk).kind=2:=hI.kind hlv
   have hel:(obj S.O tk).ah.length<=8192:=hI.gi hlv
   have hdl:(obj S.O tk).data.length<=140737488355328:=hI.Jd hlv
   refine af.region (gK 5 [(28,.map (some m)),(29,vI ((cY S i)))] [(3,a_ 6 f)] ?_)
   refine aj.eu 7 (d:=(some 30)) (t:=120) (K:=3) (E:=124) (b:=m) (n:=S.idx.length) (f:=(bp (bq L S.idx))) (x:=(.tmp 28)) (ix:=(.tmp 29)) (key:=.int .i64 ((cY S i))) (z:=.nilIface) (kl:=(.int .i64 (cY S i))) (r:=(some (dQ L ⟨tk,2⟩))) (fun _=>by kernel_rfl) (by kernel_rfl) (fun _=>by kernel_rfl) (fun _=>by kernel_rfl) d6 Tryz.underlying120 (fun _=>by kernel_rfl) (gX (Dg hI.toInv0 hi2)) (by rw [fw,hget,kX];rfl) ?_
   refine gK 1 [(6,.iface 135 (vP (L.b tk)))] [] ?_
   refine NS (gK 1 [(31,.iface 135 (vP (L.b tk)))] [] ?_)
   refine gL [] (dw (L.b tk)) ?_
   rintro _ _ ⟨rfl,rfl⟩
   refine gK 1 [(7,vP (L.b tk))] [] ?_
   refine NN (af.seq (af.rY (S:=[pO S.O L]) [0,1,3,4,5,6,7,8,9,10,11,12,13,14,15,16,17,18] [.beside [2,19] 20,.one 21] [8] (by kernel_rfl) (by kernel_rfl) rfl (by kernel_rfl) ?_))
   refine gP (yw f b4 b5++[(6,.iface 135 (vP (L.b tk)))]++yx A7 S c8 i++[(33,vI ((cY S i))),(34,.iface 135 (vP (L.b tk)))]++Dy S tk) [0,1,3,4,5,6,7,8,9,10,11,12,13,14,15,16,17,18] [(5,v_ 0 (sY L hkt)),(9,v_ 0 (zn L hkt)),(13,v_ 0 (zo L hkt)),(17,p_ ⟨[.view 0 (.int .i64 ((obj S.O tk).sec)),.view 0 (.int .i64 ((obj S.O tk).nano))],none,none,none,none⟩ [(∀ F w,(ax (bM S.O L)).h F w->w.cell? ⟨(L.b tk),5,none⟩=some (vI ((obj S.O tk).nano))),(∀ F w,(ax (bM S.O L)).h F w->w.cell? ⟨(L.b tk),4,none⟩=some (vI ((obj S.O tk).sec)))] ⟨d8 (by rw [hkt];decide) (rfl),d8 (by rw [hkt];decide) (rfl),trivial⟩)] ?_
   refine iH.beside (j:=20) (dj:=8) (R:=fun f_ l_=>f_=([(52,.agg #[vI ((cY S i)),vI 2,vI ((obj S.O tk).mode),vI ((obj S.O tk).uid),vI ((obj S.O tk).gid),vI ((obj S.O tk).sec),vI ((obj S.O tk).nano),.slice none (0) (0),.string ⟨#[]⟩,.slice none (0) (0)]),(35,vI 2)]++yw f b4 b5++[(6,.iface 135 (vP (L.b tk)))]++yx A7 S c8 i++[(33,vI ((cY S i))),(34,.iface 135 (vP (L.b tk)))]++Dy S tk)/\l_=[]) [0,1,2,3,4,5,6,7,8,9,10,11] [8] [(2,35),(19,52)] rfl (pc:=[]) (pj:=[]) (Z:=(wD b5 An i cn K S A7 c8 b4 f m t L++[pD S.O L,pE S.O L,.abs R])) (by kernel_rfl) rfl (by kernel_rfl) rfl rfl (kJ.of (ι:=Nat) (v:=fun (b15:Nat)=>vP b15) (l:=fun (b15:Nat)=>[RD b15]) [35,52] rfl rfl rfl rfl ?_) ?_ ?_
   ·intro u Aq
    show aj _ _ _ _ _ [(35,(u 35)),(52,(u 52)),(0,vP f),(2,vP b4),(3,vP b5),(6,.iface 135 (vP (L.b tk))),(19,.slice A7 ((keys S.idx).length) (c8)),(20,vI ↑((keys S.idx).length)),(21,vI ↑i),(33,vI ((cY S i))),(34,.iface 135 (vP (L.b tk))),(39,vI ((obj S.O tk).mode)),(43,vI ((obj S.O tk).uid)),(47,vI ((obj S.O tk).gid)),(51,.agg #[vI ((obj S.O tk).sec),vI ((obj S.O tk).nano)])] [.abs Aq] _
    refine gN 1 (fun b15=>[(8,vP b15)]) (fun _=>[]) (fun _=>[]) (fun b15=>.blk b15 [vI 0,vI 0,vI 0,vI 0,vI 0,vI 0,vI 0,.slice none (0) (0),.string ⟨#[]⟩,.slice none (0) (0)] 70) (fun b15=>?_)
    refine NL ?_
    exact MD b15 [8,35,52,0,2,3,6,19,20,21,33,34,39,43,47,51] [1,0]
   ·refine kK.step (kJ.of (ι:=Unit) (v:=fun (_:Unit)=>.int .i64 2) (l:=fun (_:Unit)=>[]) [8] rfl rfl rfl rfl ?_) rfl ?_
    ·intro u Aq
     show aj _ _ _ _ _ [(8,(u 8)),(0,vP f),(2,vP b4),(3,vP b5),(6,.iface 135 (vP (L.b tk))),(19,.slice A7 ((keys S.idx).length) (c8)),(20,vI ↑((keys S.idx).length)),(21,vI ↑i),(33,vI ((cY S i))),(34,.iface 135 (vP (L.b tk))),(39,vI ((obj S.O tk).mode)),(43,vI ((obj S.O tk).uid)),(47,vI ((obj S.O tk).gid)),(51,.agg #[vI ((obj S.O tk).sec),vI ((obj S.O tk).nano)])] [.abs Aq] _
     refine gL [] (mK (vP (L.b tk))) ?_
     rintro _ _ ⟨rfl,rfl⟩
     refine NL ?_
     exact MD () [35,8,0,2,3,6,19,20,21,33,34,39,43,47,51] [0]
    rintro _ _ ⟨_,rfl,rfl⟩
    refine kK.step (kJ.of (ι:=Unit) (v:=fun (_:Unit)=>.agg #[vI ((cY S i)),vI 2,vI ((obj S.O tk).mode),vI ((obj S.O tk).uid),vI ((obj S.O tk).gid),vI ((obj S.O tk).sec),vI ((obj S.O tk).nano),.slice none (0) (0),.string ⟨#[]⟩,.slice none (0) (0)]) (l:=fun (_:Unit)=>[]) [8] rfl rfl rfl rfl ?_) rfl ?_
    ·intro u Aq
     show aj _ _ _ _ _ [(8,(u 8)),(35,vI 2),(0,vP f),(2,vP b4),(3,vP b5),(6,.iface 135 (vP (L.b tk))),(19,.slice A7 ((keys S.idx).length) (c8)),(20,vI ↑((keys S.idx).length)),(21,vI ↑i),(33,vI ((cY S i))),(34,.iface 135 (vP (L.b tk))),(39,vI ((obj S.O tk).mode)),(43,vI ((obj S.O tk).uid)),(47,vI ((obj S.O tk).gid)),(51,.agg #[vI ((obj S.O tk).sec),vI ((obj S.O tk).nano)])] [.abs Aq] _
     refine gK 1 [(52,.agg #[vI ((cY S i)),vI 2,vI ((obj S.O tk).mode),vI ((obj S.O tk).uid),vI ((obj S.O tk).gid),vI ((obj S.O tk).sec),vI ((obj S.O tk).nano),.slice none (0) (0),.string ⟨#[]⟩,.slice none (0) (0)])] [] ?_
     refine NL ?_
     exact MD () [52,8,35,0,2,3,6,19,20,21,33,34,39,43,47,51] [0]
    rintro _ _ ⟨_,rfl,rfl⟩
    exact⟨rfl,rfl⟩
   rintro _ _ ⟨rfl,rfl⟩ _ _ ⟨b15,rfl,rfl⟩
   refine iH.last rfl rfl ?_
   refine gC 1 [] [(0,A_ 0 b15 10)] [(0,([(0,vI ((cY S i))),(1,vI 2)]++NE S tk))] ?_
   refine NL (ai.np (NX (af.seq (SR ?_))))
   refine gK 1 [(53,.iface 135 (vP (L.b tk)))] [] ?_
   refine NN (af.block (SR ?_))
   refine gK 3 [(55,.bool false),(56,.pointer none)] [] ?_
   refine NN (CF (SR (gK 3 [(64,.bool false),(65,.pointer none)] [] ?_)))
   refine NN (CF (SR (gK 3 [(72,.bool true),(73,vP (L.b tk))] [] ?_)))
   refine NN (CT (SR (gK 1 [(11,vP (L.b tk))] [] ?_)))
   refine NS (gK 4 [(77,.map (some (L.m tk)))] [(3,v_ 9 (bD L hkt))] ?_)
   refine aj.mem (cR:=([.blk b15 [vI ((cY S i)),vI 2,vI ((obj S.O tk).mode),vI ((obj S.O tk).uid),vI ((obj S.O tk).gid),vI ((obj S.O tk).sec),vI ((obj S.O tk).nano),.slice none (0) (0),.string ⟨#[]⟩,.slice none (0) (0)] 70]++wD b5 An i cn K S A7 c8 b4 f m t L++[pD S.O L,RG S L tk,.abs R,Gi L tk S])) (fun w hS=>hS.Qy (i:=11) (k:=tk) rfl (hkt)) ?_
   refine gL [] (M8 (some (L.m tk))) ?_
   rintro _ _ ⟨b16,rfl,rfl⟩
   refine gL [14,0] (Jx L (L.m tk) b16 (obj S.O tk).ah.length (obj S.O tk).ah (hI.sorted _ hlv) hel) ?_
   rintro _ _ ⟨dZ,fq,rfl,rfl⟩
   refine gK 1 [(80,vI ↑((obj S.O tk).ah.length))] [] ?_
   refine aj.mem (fun w hS=>hS.jF (e:=140) (size:=2)) ?_
   refine gK 1 [(81,vI 0)] [] ?_
   refine NN (af.block ?_)
   refine af.loop (ι:=Nat×(Option Addr)×Nat) (fun ((j,Ae,ce):Nat×(Option Addr)×Nat)=>(j<=(obj S.O tk).ah.length)) (fun ((j,Ae,ce):Nat×(Option Addr)×Nat)=>(obj S.O tk).ah.length - j) (fun ((j,Ae,ce):Nat×(Option Addr)×Nat)=>(Gj f b4 b5 b15 L tk A7 S c8 i dZ fq j)) (fun ((j,Ae,ce):Nat×(Option Addr)×Nat)=>([jy b15 S i tk Ae j ce,ox Ae j ce S tk]++kS L tk S b16 dZ fq b5 An i cn K A7 c8 b4 f m t R)) (0,none,0) (idx:=[0,2,3,8,11,19,20,21,79,80,81]) (pk:=[3,16,0,1,2,4,5,6,7,8,9,10,11,12,13,14,15]) (show (0<=(obj S.O tk).ah.length) from (Nat.zero_le _)) (fun _=>by kernel_rfl) rfl (by kernel_rfl) ?_
   rintro⟨j,Ae,ce⟩ hj
   show af _ _ _ _ (Gj f b4 b5 b15 L tk A7 S c8 i dZ fq j) ([jy b15 S i tk Ae j ce,ox Ae j ce S tk]++kS L tk S b16 dZ fq b5 An i cn K A7 c8 b4 f m t R) _
   refine SR (gK 1 [(82,.bool (decide ((((j:Nat):Int):Int) < ((((obj S.O tk).ah.length:Nat):Int):Int))))] [] ?_)
   refine NN (af.seq (af.bg (p:=(((j:Nat):Int):Int) < ((((obj S.O tk).ah.length:Nat):Int):Int)) (fun _=>by kernel_rfl) (fun VI=>?_) (fun VI=>?_)))
   ·have hj2:j < (obj S.O tk).ah.length:=by omega
    refine af.skip (NX (af.seq (af.block (SR ?_))))
    refine aj.tell (p:=(dZ=some ⟨aq dZ,ak dZ,none⟩)) (fun w hS=>let ⟨F,h⟩:=hS.get (i:=4) rfl;(av.IL h (by omega)).1) (fun VJ=>?_)
    refine gK 3 [(13,.string (fF (obj S.O tk).ah j))] [(0,p_ ⟨[],some j,none,some ⟨(aq dZ),ak dZ,none⟩,none⟩ [((j:Nat):Int)=((j:Nat):Int),j < (obj S.O tk).ah.length,(⟨(aq dZ),ak dZ,none⟩:Addr).spot=none,(dZ:Option Addr)=some ⟨(aq dZ),ak dZ,none⟩] ⟨rfl,by omega,rfl,VJ,trivial⟩),(1,p_ ⟨[.view 4 (.string (fF (obj S.O tk).ah j))],none,none,none,none⟩ [(∀ F w,(av 9 1 dZ ((obj S.O tk).ah.length) fq (qO (obj S.O tk).ah)).h F w->w.cell? ⟨(aq dZ),ak dZ+j * 1,none⟩=some (.string (fF (obj S.O tk).ah j)))] ⟨av.cellAt (i:=j) (j:=0) (by omega) (JA hj2),trivial⟩)] ?_
    refine NN ?_
    obtain⟨hgd,h4⟩:=UE hI.toInv0 hlv hj2
    have hgs:(fF (obj S.O tk).ah j).size<=255:=hgd.2.1
    rcases h4 with ⟨ek,hle,Bc,LC⟩|⟨ek,hle,Bc,LC⟩|⟨ek,hle,Bc,LC⟩
    ·have hke:(obj S.O ek).kind=1:=hI.kind Bc
     refine af.bT (S:=[Gi L tk S,pO S.O L,jy b15 S i tk Ae j ce]) [0,1,2,3,4,5,6,7,8,9,10,11,12,13,14,15,16,17] 9 [2,13,0] (by kernel_rfl) (by kernel_rfl) rfl (by kernel_rfl) ?_
     refine gR 1 [8,9,10,11,12,13,14,15,16,17] (Gj f b4 b5 b15 L tk A7 S c8 i dZ fq j++rB Ae j ce S tk++[(91,.map (some (L.m tk))),(92,.string (fF (obj S.O tk).ah j))]) [0,1,2,3,4,5,6,7] [(1,a_ 2 b15),(6,v_ 1 (bD L hkt))] ?_
     refine aQ.eu 0 (d:=(some 93)) (t:=136) (K:=9) (E:=124) (b:=(L.m tk)) (cnt:=(obj S.O tk).ah.length) (f:=(iG L (obj S.O tk).ah)) (x:=(.tmp 91)) (ix:=(.tmp 92)) (key:=.string (fF (obj S.O tk).ah j)) (z:=.nilIface) (kl:=(.string (fF (obj S.O tk).ah j).data.toList)) (q:=(some (dQ L ⟨ek,1⟩))) (by kernel_rfl) (by kernel_rfl) (fun _=>by kernel_rfl) (fun _=>by kernel_rfl) Ap Tryz.underlying136 (fun _=>by kernel_rfl) (CY (by omega)) (by rw [sj,hle];rfl) (by kernel_rfl) ?_
     refine mL [2,13,0] [] (dw (L.b ek)) ?_ (by rintro _ _ ⟨rfl,rfl⟩;rfl)
     rintro _ _ ⟨rfl,rfl⟩
     refine aQ.cut (ι:=Unit) (fr':=fun (_:Unit)=>(lZ f b4 b5 b15 L tk A7 S c8 i dZ fq j++rB Ae j ce S tk++[(95,vP (L.b ek))])) (hp':=fun (_:Unit)=>([jy b15 S i tk Ae j ce,ox Ae j ce S tk]++kS L tk S b16 dZ fq b5 An i cn K A7 c8 b4 f m t R)) [2,13,0] rfl rfl ?_ rfl (fun _=>by kernel_rfl) ?_
     ·refine gK 1 [(95,vP (L.b ek))] [] ?_
      refine NL ?_
      exact MD () [0,2,3,8,11,19,20,21,79,80,81,86,87,95] [0,1,2,3,4,5,6,7,8,9,10,11,12,13,14,15,16]
     rintro _
     refine aQ.cut (ι:=Unit) (fr':=fun (_:Unit)=>(lZ f b4 b5 b15 L tk A7 S c8 i dZ fq j++rB Ae j ce S tk++[(96,vP (L.b ek))])) (hp':=fun (_:Unit)=>([jy b15 S i tk Ae j ce,ox Ae j ce S tk]++kS L tk S b16 dZ fq b5 An i cn K A7 c8 b4 f m t R)) [2,13,0] rfl rfl ?_ rfl (fun _=>by kernel_rfl) ?_
     ·refine gK 1 [(96,vP (L.b ek))] [] ?_
      refine NL ?_
      exact MD () [0,2,3,8,11,19,20,21,79,80,81,86,87,96] [0,1,2,3,4,5,6,7,8,9,10,11,12,13,14,15,16]
     rintro _
     refine aQ.cut (ι:=Unit) (fr':=fun (_:Unit)=>(lZ f b4 b5 b15 L tk A7 S c8 i dZ fq j++rB Ae j ce S tk++[(97,vI ((obj S.O ek).id))])) (hp':=fun (_:Unit)=>([jy b15 S i tk Ae j ce,ox Ae j ce S tk]++kS L tk S b16 dZ fq b5 An i cn K A7 c8 b4 f m t R)) [2,13,0] rfl rfl ?_ rfl (fun _=>by kernel_rfl) ?_
     ·refine gK 1 [(97,vI ((obj S.O ek).id))] [(0,v_ 13 (rf L hke))] ?_
      refine NL ?_
      exact MD () [0,2,3,8,11,19,20,21,79,80,81,86,87,97] [0,1,2,3,4,5,6,7,8,9,10,11,12,13,14,15,16]
     rintro _
     refine aQ.cut (ι:=Unit) (fr':=fun (_:Unit)=>(lZ f b4 b5 b15 L tk A7 S c8 i dZ fq j++[(86,.slice Ae (j) (ce)),(98,.agg #[.string (fF (obj S.O tk).ah j),vI ((obj S.O ek).id)])])) (hp':=fun (_:Unit)=>([jy b15 S i tk Ae j ce,ox Ae j ce S tk]++kS L tk S b16 dZ fq b5 An i cn K A7 c8 b4 f m t R)) [2,13,0] rfl rfl ?_ rfl (fun _=>by kernel_rfl) ?_
     ·refine gK 1 [(98,.agg #[.string (fF (obj S.O tk).ah j),vI ((obj S.O ek).id)])] [] ?_
      refine NL ?_
      exact MD () [0,2,3,8,11,19,20,21,79,80,81,86,98] [0,1,2,3,4,5,6,7,8,9,10,11,12,13,14,15,16]
     rintro _
     refine mN [2,13,0] (fun b19=>[(99,.slice (some ⟨b19,0,none⟩) (1) (1))]) (fun _=>[]) (fun b19=>.blk b19 [.string (fF (obj S.O tk).ah j),vI ((obj S.O ek).id)] 140) (fun b19=>?_)
     refine aQ.cut (ι:=(Option Addr)×Nat) (fr':=fun ((nJ,nK):(Option Addr)×Nat)=>(lZ f b4 b5 b15 L tk A7 S c8 i dZ fq j++[(100,.slice nJ ((j+1)) (nK))])) (hp':=fun ((nJ,nK):(Option Addr)×Nat)=>([jy b15 S i tk Ae j ce,Dw nJ j nK S tk]++kS L tk S b16 dZ fq b5 An i cn K A7 c8 b4 f m t R++[Dx b19 S tk j ek])) [2,13,0] rfl rfl ?_ rfl (fun _=>by kernel_rfl) ?_
     ·refine aj.append 1 (d:=(some 100)) (t:=68) (e:=140) (z:=.agg #[.string ⟨#[]⟩,vI 0]) (size:=2) (bytes:=24) (n:=j) (cap:=ce) (A:=Ae) (xs:=(gU (((obj S.O tk).ah.take j).map (lW S.O)))) (s:=(.tmp 86)) (x:=(.tmp 99)) (ats:=#[68,68]) (A':=some ⟨b19,0,none⟩) (m:=1) (c':=1) (news:=[.string (fF (obj S.O tk).ah j),vI ((obj S.O ek).id)]) (fun _=>by kernel_rfl) rfl (by kernel_rfl) (fun _=>by kernel_rfl) (fun _=>by kernel_rfl) Tryz.underlying68 (by kernel_rfl) rfl (by decide) (rfl) (by simp [Value.oneCell']) (jh (j:=17) rfl) (by unfold maxLen;omega) (by omega) (fun nJ nK=>?_)
      refine aj.bI 1 (p:=.abs (av 140 2 nJ (j+1) nK ((gU (((obj S.O tk).ah.take j).map (lW S.O)))++[.string (fF (obj S.O tk).ah j),vI ((obj S.O ek).id)]))) (p':=.abs (av 140 2 nJ (j+1) nK (gU (((obj S.O tk).ah.take (j+1)).map (lW S.O))))) (by kernel_rfl) (congrArg (fun x=>HP.abs (av 140 2 _ _ _ x)) (x3 hj2 LC)) ?_
      refine aj.slot 100 (.slice nJ (j+1) (nK)) (.slice nJ ((j+1)) (nK)) (fun _=>by kernel_rfl) (rfl) ?_
      refine NL ?_
      exact MD (nJ,nK) [0,2,3,8,11,19,20,21,79,80,81,100] [0,1,2,3,4,5,6,7,8,9,10,11,12,13,14,15,16,17]
     rintro⟨nJ,nK⟩
     refine aQ.cut (ι:=Unit) (fr':=fun (_:Unit)=>(lZ f b4 b5 b15 L tk A7 S c8 i dZ fq j++[(100,.slice nJ ((j+1)) (nK)),(101,.pointer (some ⟨b15,9,none⟩))])) (hp':=fun (_:Unit)=>([jy b15 S i tk Ae j ce,Dw nJ j nK S tk]++kS L tk S b16 dZ fq b5 An i cn K A7 c8 b4 f m t R++[Dx b19 S tk j ek])) [2,13,0] rfl rfl ?_ rfl (fun _=>by kernel_rfl) ?_
     ·refine gK 1 [(101,.pointer (some ⟨b15,9,none⟩))] [] ?_
      refine NL ?_
      exact MD () [0,2,3,8,11,19,20,21,79,80,81,100,101] [0,1,2,3,4,5,6,7,8,9,10,11,12,13,14,15,16,17]
     rintro _
     refine aQ.last rfl rfl ?_
     refine gC 1 [] [(0,a_ 0 b15)] [(0,[(9,.slice nJ ((j+1)) (nK))])] ?_
     refine NL (ai.np (ai.aJ (NX (af.region ?_))))
     refine gK 2 [(81,vI ↑(j+1))] [(0,p_ ⟨[],none,none,none,some (vI ↑(j+1))⟩ [(Value.int .i64 (IntKind.wrap .i64 (((j:Nat):Int)+1)))=(.int .i64 ↑(j+1))] ⟨bA (by omega) (by omega) (by omega),trivial⟩)] ?_
     refine NL ?_
     exact ai.turn ((j+1),nJ,nK) (idx:=[0,2,3,8,11,19,20,21,79,80,81]) (pk:=[0,1,2,3,4,5,6,7,8,9,10,11,12,13,14,15,16]) (show (((j+1))<=(obj S.O tk).ah.length) from (by omega)) (by show (obj S.O tk).ah.length - ((j+1)) < (obj S.O tk).ah.length - j;omega) (fun _=>by kernel_rfl) rfl (by kernel_rfl)
    ·have hke:(obj S.O ek).kind=2:=hI.kind Bc
     refine af.bT (S:=[Gi L tk S,pO S.O L,jy b15 S i tk Ae j ce]) [0,1,2,3,4,5,6,7,8,9,10,11,12,13,14,15,16,17] 9 [2,13,0] (by kernel_rfl) (by kernel_rfl) rfl (by kernel_rfl) ?_
     refine gR 1 [8,9,10,11,12,13,14,15,16,17] (Gj f b4 b5 b15 L tk A7 S c8 i dZ fq j++rB Ae j ce S tk++[(91,.map (some (L.m tk))),(92,.string (fF (obj S.O tk).ah j))]) [0,1,2,3,4,5,6,7] [(1,a_ 2 b15),(6,v_ 1 (bD L hkt))] ?_
     refine aQ.eu 0 (d:=(some 93)) (t:=136) (K:=9) (E:=124) (b:=(L.m tk)) (cnt:=(obj S.O tk).ah.length) (f:=(iG L (obj S.O tk).ah)) (x:=(.tmp 91)) (ix:=(.tmp 92)) (key:=.string (fF (obj S.O tk).ah j)) (z:=.nilIface) (kl:=(.string (fF (obj S.O tk).ah j).data.toList)) (q:=(some (dQ L ⟨ek,2⟩))) (by kernel_rfl) (by kernel_rfl) (fun _=>by kernel_rfl) (fun _=>by kernel_rfl) Ap Tryz.underlying136 (fun _=>by kernel_rfl) (CY (by omega)) (by rw [sj,hle];rfl) (by kernel_rfl) ?_
     refine mL [2,13,0] [] (dw (L.b ek)) ?_ (by rintro _ _ ⟨rfl,rfl⟩;rfl)
     rintro _ _ ⟨rfl,rfl⟩
     refine aQ.cut (ι:=Unit) (fr':=fun (_:Unit)=>(lZ f b4 b5 b15 L tk A7 S c8 i dZ fq j++rB Ae j ce S tk++[(95,vP (L.b ek))])) (hp':=fun (_:Unit)=>([jy b15 S i tk Ae j ce,ox Ae j ce S tk]++kS L tk S b16 dZ fq b5 An i cn K A7 c8 b4 f m t R)) [2,13,0] rfl rfl ?_ rfl (fun _=>by kernel_rfl) ?_
     ·refine gK 1 [(95,vP (L.b ek))] [] ?_
      refine NL ?_
      exact MD () [0,2,3,8,11,19,20,21,79,80,81,86,87,95] [0,1,2,3,4,5,6,7,8,9,10,11,12,13,14,15,16]
     rintro _
     refine aQ.cut (ι:=Unit) (fr':=fun (_:Unit)=>(lZ f b4 b5 b15 L tk A7 S c8 i dZ fq j++rB Ae j ce S tk++[(96,vP (L.b ek))])) (hp':=fun (_:Unit)=>([jy b15 S i tk Ae j ce,ox Ae j ce S tk]++kS L tk S b16 dZ fq b5 An i cn K A7 c8 b4 f m t R)) [2,13,0] rfl rfl ?_ rfl (fun _=>by kernel_rfl) ?_
     ·refine gK 1 [(96,vP (L.b ek))] [] ?_
      refine NL ?_
      exact MD () [0,2,3,8,11,19,20,21,79,80,81,86,87,96] [0,1,2,3,4,5,6,7,8,9,10,11,12,13,14,15,16]
     rintro _
     refine aQ.cut (ι:=Unit) (fr':=fun (_:Unit)=>(lZ f b4 b5 b15 L tk A7 S c8 i dZ fq j++rB Ae j ce S tk++[(97,vI ((obj S.O ek).id))])) (hp':=fun (_:Unit)=>([jy b15 S i tk Ae j ce,ox Ae j ce S tk]++kS L tk S b16 dZ fq b5 An i cn K A7 c8 b4 f m t R)) [2,13,0] rfl rfl ?_ rfl (fun _=>by kernel_rfl) ?_
     ·refine gK 1 [(97,vI ((obj S.O ek).id))] [(0,v_ 13 (rf L hke))] ?_
      refine NL ?_
      exact MD () [0,2,3,8,11,19,20,21,79,80,81,86,87,97] [0,1,2,3,4,5,6,7,8,9,10,11,12,13,14,15,16]
     rintro _
     refine aQ.cut (ι:=Unit) (fr':=fun (_:Unit)=>(lZ f b4 b5 b15 L tk A7 S c8 i dZ fq j++[(86,.slice Ae (j) (ce)),(98,.agg #[.string (fF (obj S.O tk).ah j),vI ((obj S.O ek).id)])])) (hp':=fun (_:Unit)=>([jy b15 S i tk Ae j ce,ox Ae j ce S tk]++kS L tk S b16 dZ fq b5 An i cn K A7 c8 b4 f m t R)) [2,13,0] rfl rfl ?_ rfl (fun _=>by kernel_rfl) ?_
     ·refine gK 1 [(98,.agg #[.string (fF (obj S.O tk).ah j),vI ((obj S.O ek).id)])] [] ?_
      refine NL ?_
      exact MD () [0,2,3,8,11,19,20,21,79,80,81,86,98] [0,1,2,3,4,5,6,7,8,9,10,11,12,13,14,15,16]
     rintro _
     refine mN [2,13,0] (fun Gn=>[(99,.slice (some ⟨Gn,0,none⟩) (1) (1))]) (fun _=>[]) (fun Gn=>.blk Gn [.string (fF (obj S.O tk).ah j),vI ((obj S.O ek).id)] 140) (fun Gn=>?_)
     refine aQ.cut (ι:=(Option Addr)×Nat) (fr':=fun ((t6,t7):(Option Addr)×Nat)=>(lZ f b4 b5 b15 L tk A7 S c8 i dZ fq j++[(100,.slice t6 ((j+1)) (t7))])) (hp':=fun ((t6,t7):(Option Addr)×Nat)=>([jy b15 S i tk Ae j ce,Dw t6 j t7 S tk]++kS L tk S b16 dZ fq b5 An i cn K A7 c8 b4 f m t R++[Dx Gn S tk j ek])) [2,13,0] rfl rfl ?_ rfl (fun _=>by kernel_rfl) ?_
     ·refine aj.append 1 (d:=(some 100)) (t:=68) (e:=140) (z:=.agg #[.string ⟨#[]⟩,vI 0]) (size:=2) (bytes:=24) (n:=j) (cap:=ce) (A:=Ae) (xs:=(gU (((obj S.O tk).ah.take j).map (lW S.O)))) (s:=(.tmp 86)) (x:=(.tmp 99)) (ats:=#[68,68]) (A':=some ⟨Gn,0,none⟩) (m:=1) (c':=1) (news:=[.string (fF (obj S.O tk).ah j),vI ((obj S.O ek).id)]) (fun _=>by kernel_rfl) rfl (by kernel_rfl) (fun _=>by kernel_rfl) (fun _=>by kernel_rfl) Tryz.underlying68 (by kernel_rfl) rfl (by decide) (rfl) (by simp [Value.oneCell']) (jh (j:=17) rfl) (by unfold maxLen;omega) (by omega) (fun t6 t7=>?_)
      refine aj.bI 1 (p:=.abs (av 140 2 t6 (j+1) t7 ((gU (((obj S.O tk).ah.take j).map (lW S.O)))++[.string (fF (obj S.O tk).ah j),vI ((obj S.O ek).id)]))) (p':=.abs (av 140 2 t6 (j+1) t7 (gU (((obj S.O tk).ah.take (j+1)).map (lW S.O))))) (by kernel_rfl) (congrArg (fun x=>HP.abs (av 140 2 _ _ _ x)) (x3 hj2 LC)) ?_
      refine aj.slot 100 (.slice t6 (j+1) (t7)) (.slice t6 ((j+1)) (t7)) (fun _=>by kernel_rfl) (rfl) ?_
      refine NL ?_
      exact MD (t6,t7) [0,2,3,8,11,19,20,21,79,80,81,100] [0,1,2,3,4,5,6,7,8,9,10,11,12,13,14,15,16,17]
     rintro⟨t6,t7⟩
     refine aQ.cut (ι:=Unit) (fr':=fun (_:Unit)=>(lZ f b4 b5 b15 L tk A7 S c8 i dZ fq j++[(100,.slice t6 ((j+1)) (t7)),(101,.pointer (some ⟨b15,9,none⟩))])) (hp':=fun (_:Unit)=>([jy b15 S i tk Ae j ce,Dw t6 j t7 S tk]++kS L tk S b16 dZ fq b5 An i cn K A7 c8 b4 f m t R++[Dx Gn S tk j ek])) [2,13,0] rfl rfl ?_ rfl (fun _=>by kernel_rfl) ?_
     ·refine gK 1 [(101,.pointer (some ⟨b15,9,none⟩))] [] ?_
      refine NL ?_
      exact MD () [0,2,3,8,11,19,20,21,79,80,81,100,101] [0,1,2,3,4,5,6,7,8,9,10,11,12,13,14,15,16,17]
     rintro _
     refine aQ.last rfl rfl ?_
     refine gC 1 [] [(0,a_ 0 b15)] [(0,[(9,.slice t6 ((j+1)) (t7))])] ?_
     refine NL (ai.np (ai.aJ (NX (af.region ?_))))
     refine gK 2 [(81,vI ↑(j+1))] [(0,p_ ⟨[],none,none,none,some (vI ↑(j+1))⟩ [(Value.int .i64 (IntKind.wrap .i64 (((j:Nat):Int)+1)))=(.int .i64 ↑(j+1))] ⟨bA (by omega) (by omega) (by omega),trivial⟩)] ?_
     refine NL ?_
     exact ai.turn ((j+1),t6,t7) (idx:=[0,2,3,8,11,19,20,21,79,80,81]) (pk:=[0,1,2,3,4,5,6,7,8,9,10,11,12,13,14,15,16]) (show (((j+1))<=(obj S.O tk).ah.length) from (by omega)) (by show (obj S.O tk).ah.length - ((j+1)) < (obj S.O tk).ah.length - j;omega) (fun _=>by kernel_rfl) rfl (by kernel_rfl)
    have hke:(obj S.O ek).kind=3:=hI.kind Bc
    refine af.bT (S:=[Gi L tk S,pO S.O L,jy b15 S i tk Ae j ce]) [0,1,2,3,4,5,6,7,8,9,10,11,12,13,14,15,16,17] 9 [2,13,0] (by kernel_rfl) (by kernel_rfl) rfl (by kernel_rfl) ?_
    refine gR 1 [8,9,10,11,12,13,14,15,16,17] (Gj f b4 b5 b15 L tk A7 S c8 i dZ fq j++rB Ae j ce S tk++[(91,.map (some (L.m tk))),(92,.string (fF (obj S.O tk).ah j))]) [0,1,2,3,4,5,6,7] [(1,a_ 2 b15),(6,v_ 1 (bD L hkt))] ?_
    refine aQ.eu 0 (d:=(some 93)) (t:=136) (K:=9) (E:=124) (b:=(L.m tk)) (cnt:=(obj S.O tk).ah.length) (f:=(iG L (obj S.O tk).ah)) (x:=(.tmp 91)) (ix:=(.tmp 92)) (key:=.string (fF (obj S.O tk).ah j)) (z:=.nilIface) (kl:=(.string (fF (obj S.O tk).ah j).data.toList)) (q:=(some (dQ L ⟨ek,3⟩))) (by kernel_rfl) (by kernel_rfl) (fun _=>by kernel_rfl) (fun _=>by kernel_rfl) Ap Tryz.underlying136 (fun _=>by kernel_rfl) (CY (by omega)) (by rw [sj,hle];rfl) (by kernel_rfl) ?_
    refine mL [2,13,0] [] (dw (L.b ek)) ?_ (by rintro _ _ ⟨rfl,rfl⟩;rfl)
    rintro _ _ ⟨rfl,rfl⟩
    refine aQ.cut (ι:=Unit) (fr':=fun (_:Unit)=>(lZ f b4 b5 b15 L tk A7 S c8 i dZ fq j++rB Ae j ce S tk++[(95,vP (L.b ek))])) (hp':=fun (_:Unit)=>([jy b15 S i tk Ae j ce,ox Ae j ce S tk]++kS L tk S b16 dZ fq b5 An i cn K A7 c8 b4 f m t R)) [2,13,0] rfl rfl ?_ rfl (fun _=>by kernel_rfl) ?_
    ·refine gK 1 [(95,vP (L.b ek))] [] ?_
     refine NL ?_
     exact MD () [0,2,3,8,11,19,20,21,79,80,81,86,87,95] [0,1,2,3,4,5,6,7,8,9,10,11,12,13,14,15,16]
    rintro _
    refine aQ.cut (ι:=Unit) (fr':=fun (_:Unit)=>(lZ f b4 b5 b15 L tk A7 S c8 i dZ fq j++rB Ae j ce S tk++[(96,vP (L.b ek))])) (hp':=fun (_:Unit)=>([jy b15 S i tk Ae j ce,ox Ae j ce S tk]++kS L tk S b16 dZ fq b5 An i cn K A7 c8 b4 f m t R)) [2,13,0] rfl rfl ?_ rfl (fun _=>by kernel_rfl) ?_
    ·refine gK 1 [(96,vP (L.b ek))] [] ?_
     refine NL ?_
     exact MD () [0,2,3,8,11,19,20,21,79,80,81,86,87,96] [0,1,2,3,4,5,6,7,8,9,10,11,12,13,14,15,16]
    rintro _
    refine aQ.cut (ι:=Unit) (fr':=fun (_:Unit)=>(lZ f b4 b5 b15 L tk A7 S c8 i dZ fq j++rB Ae j ce S tk++[(97,vI ((obj S.O ek).id))])) (hp':=fun (_:Unit)=>([jy b15 S i tk Ae j ce,ox Ae j ce S tk]++kS L tk S b16 dZ fq b5 An i cn K A7 c8 b4 f m t R)) [2,13,0] rfl rfl ?_ rfl (fun _=>by kernel_rfl) ?_
    ·refine gK 1 [(97,vI ((obj S.O ek).id))] [(0,v_ 13 (rf L hke))] ?_
     refine NL ?_
     exact MD () [0,2,3,8,11,19,20,21,79,80,81,86,87,97] [0,1,2,3,4,5,6,7,8,9,10,11,12,13,14,15,16]
    rintro _
    refine aQ.cut (ι:=Unit) (fr':=fun (_:Unit)=>(lZ f b4 b5 b15 L tk A7 S c8 i dZ fq j++[(86,.slice Ae (j) (ce)),(98,.agg #[.string (fF (obj S.O tk).ah j),vI ((obj S.O ek).id)])])) (hp':=fun (_:Unit)=>([jy b15 S i tk Ae j ce,ox Ae j ce S tk]++kS L tk S b16 dZ fq b5 An i cn K A7 c8 b4 f m t R)) [2,13,0] rfl rfl ?_ rfl (fun _=>by kernel_rfl) ?_
    ·refine gK 1 [(98,.agg #[.string (fF (obj S.O tk).ah j),vI ((obj S.O ek).id)])] [] ?_
     refine NL ?_
     exact MD () [0,2,3,8,11,19,20,21,79,80,81,86,98] [0,1,2,3,4,5,6,7,8,9,10,11,12,13,14,15,16]
    rintro _
    refine mN [2,13,0] (fun pu=>[(99,.slice (some ⟨pu,0,none⟩) (1) (1))]) (fun _=>[]) (fun pu=>.blk pu [.string (fF (obj S.O tk).ah j),vI ((obj S.O ek).id)] 140) (fun pu=>?_)
    refine aQ.cut (ι:=(Option Addr)×Nat) (fr':=fun ((t8,ud):(Option Addr)×Nat)=>(lZ f b4 b5 b15 L tk A7 S c8 i dZ fq j++[(100,.slice t8 ((j+1)) (ud))])) (hp':=fun ((t8,ud):(Option Addr)×Nat)=>([jy b15 S i tk Ae j ce,Dw t8 j ud S tk]++kS L tk S b16 dZ fq b5 An i cn K A7 c8 b4 f m t R++[Dx pu S tk j ek])) [2,13,0] rfl rfl ?_ rfl (fun _=>by kernel_rfl) ?_
    ·refine aj.append 1 (d:=(some 100)) (t:=68) (e:=140) (z:=.agg #[.string ⟨#[]⟩,vI 0]) (size:=2) (bytes:=24) (n:=j) (cap:=ce) (A:=Ae) (xs:=(gU (((obj S.O tk).ah.take j).map (lW S.O)))) (s:=(.tmp 86)) (x:=(.tmp 99)) (ats:=#[68,68]) (A':=some ⟨pu,0,none⟩) (m:=1) (c':=1) (news:=[.string (fF (obj S.O tk).ah j),vI ((obj S.O ek).id)]) (fun _=>by kernel_rfl) rfl (by kernel_rfl) (fun _=>by kernel_rfl) (fun _=>by kernel_rfl) Tryz.underlying68 (by kernel_rfl) rfl (by decide) (rfl) (by simp [Value.oneCell']) (jh (j:=17) rfl) (by unfold maxLen;omega) (by omega) (fun t8 ud=>?_)
     refine aj.bI 1 (p:=.abs (av 140 2 t8 (j+1) ud ((gU (((obj S.O tk).ah.take j).map (lW S.O)))++[.string (fF (obj S.O tk).ah j),vI ((obj S.O ek).id)]))) (p':=.abs (av 140 2 t8 (j+1) ud (gU (((obj S.O tk).ah.take (j+1)).map (lW S.O))))) (by kernel_rfl) (congrArg (fun x=>HP.abs (av 140 2 _ _ _ x)) (x3 hj2 LC)) ?_
     refine aj.slot 100 (.slice t8 (j+1) (ud)) (.slice t8 ((j+1)) (ud)) (fun _=>by kernel_rfl) (rfl) ?_
     refine NL ?_
     exact MD (t8,ud) [0,2,3,8,11,19,20,21,79,80,81,100] [0,1,2,3,4,5,6,7,8,9,10,11,12,13,14,15,16,17]
    rintro⟨t8,ud⟩
    refine aQ.cut (ι:=Unit) (fr':=fun (_:Unit)=>(lZ f b4 b5 b15 L tk A7 S c8 i dZ fq j++[(100,.slice t8 ((j+1)) (ud)),(101,.pointer (some ⟨b15,9,none⟩))])) (hp':=fun (_:Unit)=>([jy b15 S i tk Ae j ce,Dw t8 j ud S tk]++kS L tk S b16 dZ fq b5 An i cn K A7 c8 b4 f m t R++[Dx pu S tk j ek])) [2,13,0] rfl rfl ?_ rfl (fun _=>by kernel_rfl) ?_
    ·refine gK 1 [(101,.pointer (some ⟨b15,9,none⟩))] [] ?_
     refine NL ?_
     exact MD () [0,2,3,8,11,19,20,21,79,80,81,100,101] [0,1,2,3,4,5,6,7,8,9,10,11,12,13,14,15,16,17]
    rintro _
    refine aQ.last rfl rfl ?_
    refine gC 1 [] [(0,a_ 0 b15)] [(0,[(9,.slice t8 ((j+1)) (ud))])] ?_
    refine NL (ai.np (ai.aJ (NX (af.region ?_))))
    refine gK 2 [(81,vI ↑(j+1))] [(0,p_ ⟨[],none,none,none,some (vI ↑(j+1))⟩ [(Value.int .i64 (IntKind.wrap .i64 (((j:Nat):Int)+1)))=(.int .i64 ↑(j+1))] ⟨bA (by omega) (by omega) (by omega),trivial⟩)] ?_
    refine NL ?_
    exact ai.turn ((j+1),t8,ud) (idx:=[0,2,3,8,11,19,20,21,79,80,81]) (pk:=[0,1,2,3,4,5,6,7,8,9,10,11,12,13,14,15,16]) (show (((j+1))<=(obj S.O tk).ah.length) from (by omega)) (by show (obj S.O tk).ah.length - ((j+1)) < (obj S.O tk).ah.length - j;omega) (fun _=>by kernel_rfl) rfl (by kernel_rfl)
   refine af.exit (ai.aU (ai.aU (ai.cM (ai.aJ (NX (af.region ?_))))))
   have hjl:j=(obj S.O tk).ah.length:=by omega
   refine aj.mem (cR:=([pE S.O L,jy b15 S i tk Ae j ce,ox Ae j ce S tk,RH b16 L tk,RI dZ S tk fq]++wD b5 An i cn K S A7 c8 b4 f m t L++[pD S.O L,.abs R])) (fun w hS=>hS.Qz (i:=15) (j:=2) (idx:=[0,1,3,4,5,6,7,8,9,10,11,12,13,14,16]) (k:=tk) rfl rfl (by kernel_rfl) rfl (hkt)) ?_
   refine gN 4 (fun Ik=>[(104,.slice An (i) (cn)),(106,.slice (some ⟨Ik,0,none⟩) (1) (1))]) (fun Ik=>[(1,a_ 5 b5),(2,A_ 1 b15 10)]) (fun _=>[]) (fun Ik=>.blk Ik [vI ((cY S i)),vI 2,vI ((obj S.O tk).mode),vI ((obj S.O tk).uid),vI ((obj S.O tk).gid),vI ((obj S.O tk).sec),vI ((obj S.O tk).nano),.slice none (0) (0),.string ⟨#[]⟩,.slice Ae (j) (ce)] 70) (fun Ik=>?_)
   refine aj.append 6 (d:=(some 107)) (t:=22) (e:=70) (z:=.agg #[vI 0,vI 0,vI 0,vI 0,vI 0,vI 0,vI 0,.slice none (0) (0),.string ⟨#[]⟩,.slice none (0) (0)]) (size:=10) (bytes:=120) (n:=i) (cap:=cn) (A:=An) (xs:=(dJ K ((bn S).take i))) (s:=(.tmp 104)) (x:=(.tmp 106)) (ats:=#[22,22]) (A':=some ⟨Ik,0,none⟩) (m:=1) (c':=1) (news:=[vI ((cY S i)),vI 2,vI ((obj S.O tk).mode),vI ((obj S.O tk).uid),vI ((obj S.O tk).gid),vI ((obj S.O tk).sec),vI ((obj S.O tk).nano),.slice none (0) (0),.string ⟨#[]⟩,.slice Ae (j) (ce)]) (fun _=>by kernel_rfl) rfl (by kernel_rfl) (fun _=>by kernel_rfl) (fun _=>by kernel_rfl) Tryz.underlying22 (by kernel_rfl) rfl (by decide) (rfl) (by simp [Value.oneCell']) (jh (j:=16) rfl) (by unfold maxLen;omega) (by omega) (fun Il Im=>?_)
   refine aj.bI 6 (p:=.abs (av 70 10 Il (i+1) Im ((dJ K ((bn S).take i))++[vI ((cY S i)),vI 2,vI ((obj S.O tk).mode),vI ((obj S.O tk).uid),vI ((obj S.O tk).gid),vI ((obj S.O tk).sec),vI ((obj S.O tk).nano),.slice none (0) (0),.string ⟨#[]⟩,.slice Ae (j) (ce)]))) (p':=.abs (av 70 10 Il (i+1) Im (dJ (K.put i none 0 Ae ce) ((bn S).take (i+1))))) (by kernel_rfl) (congrArg (fun x=>HP.abs (av 70 10 _ _ _ x)) (wj (dU (by omega)) (sR hI.toInv0 hi2 kX hlv) rfl (by show ((obj S.O tk).ah.map (lW S.O)).length=j;rw [List.length_map,hjl]))) ?_
   refine aj.slot 107 (.slice Il (i+1) (Im)) (.slice Il ((i+1)) (Im)) (fun _=>by kernel_rfl) (rfl) ?_
   refine gC 2 [] [(1,a_ 5 b5)] [(5,[(0,.slice Il ((i+1)) (Im))])] ?_
   refine NL (ai.aJ (NX (af.region ?_)))
   refine gK 2 [(21,vI ↑(i+1))] [(0,p_ ⟨[],none,none,none,some (vI ↑(i+1))⟩ [(Value.int .i64 (IntKind.wrap .i64 (((i:Nat):Int)+1)))=(.int .i64 ↑(i+1))] ⟨bA (by omega) (by omega) (by omega),trivial⟩)] ?_
   refine NL (ai.mem (fun w hS=>hS.jF (e:=5) (size:=1)) ?_)
   refine ai.mem (fun w hS=>hS.si (R':=(lE ((bn S).take (i+1)) (K.put i none 0 Ae ce))) (i:=8) (j:=17) (idx:=[0,1,2,3,4,5,6,7,9,10,11,12,13,14,15,16]) rfl rfl (by kernel_rfl) rfl (AO (dU (by omega)) (sR hI.toInv0 hi2 kX hlv)) (xY (dU (by omega)) (sR hI.toInv0 hi2 kX hlv) rfl)) ?_
   refine ai.mem (fun w hS=>hS.si (R':=(lD ((bn S).take (i+1)) (K.put i none 0 Ae ce))) (i:=8) (j:=3) (idx:=[0,1,2,4,5,6,7,9,10,11,12,13,14,15,16]) rfl rfl (by kernel_rfl) rfl (AP (dU (by omega)) (sR hI.toInv0 hi2 kX hlv)) ((xZ (dU (by omega)) (sR hI.toInv0 hi2 kX hlv) (by show ((obj S.O tk).ah.map (lW S.O)).length=j;rw [List.length_map,hjl])).trans (by rw [hjl,List.take_length]))) ?_
   exact ai.turn ((i+1),Il,Im,(K.put i none 0 Ae ce)) (idx:=[0,2,3,19,20,21]) (pk:=[6,7,0,1,8,9,10,11,12,13,2,14]) (show (((i+1))<=S.idx.length) from (by omega)) (by show S.idx.length - ((i+1)) < S.idx.length - i;omega) (fun _=>by kernel_rfl) rfl (by kernel_rfl)
  have hkt:(obj S.O tk).kind=3:=hI.kind hlv
  have hel:(obj S.O tk).ah.length<=8192:=hI.gi hlv
  have hdl:(obj S.O tk).data.length<=140737488355328:=hI.Jd hlv
  refine af.region (gK 5 [(28,.map (some m)),(29,vI ((cY S i)))] [(3,a_ 6 f)] ?_)
  refine aj.eu 7 (d:=(some 30)) (t:=120) (K:=3) (E:=124) (b:=m) (n:=S.idx.length) (f:=(bp (bq L S.idx))) (x:=(.tmp 28)) (ix:=(.tmp 29)) (key:=.int .i64 ((cY S i))) (z:=.nilIface) (kl:=(.int .i64 (cY S i))) (r:=(some (dQ L ⟨tk,3⟩))) (fun _=>by kernel_rfl) (by kernel_rfl) (fun _=>by kernel_rfl) (fun _=>by kernel_rfl) d6 Tryz.underlying120 (fun _=>by kernel_rfl) (gX (Dg hI.toInv0 hi2)) (by rw [fw,hget,kX];rfl) ?_
  refine gK 1 [(6,.iface 132 (vP (L.b tk)))] [] ?_
  refine NS (gK 1 [(31,.iface 132 (vP (L.b tk)))] [] ?_)
  refine gL [] (dw (L.b tk)) ?_
  rintro _ _ ⟨rfl,rfl⟩
  refine gK 1 [(7,vP (L.b tk))] [] ?_
  refine NN (af.seq (af.rY (S:=[pO S.O L]) [0,1,3,4,5,6,7,8,9,10,11,12,13,14,15,16,17,18] [.beside [2,19] 20,.one 21] [8] (by kernel_rfl) (by kernel_rfl) rfl (by kernel_rfl) ?_))
  refine gP (yw f b4 b5++[(6,.iface 132 (vP (L.b tk)))]++yx A7 S c8 i++[(33,vI ((cY S i))),(34,.iface 132 (vP (L.b tk)))]++Dy S tk) [0,1,3,4,5,6,7,8,9,10,11,12,13,14,15,16,17,18] [(5,v_ 0 (sY L hkt)),(9,v_ 0 (zn L hkt)),(13,v_ 0 (zo L hkt)),(17,p_ ⟨[.view 0 (.int .i64 ((obj S.O tk).sec)),.view 0 (.int .i64 ((obj S.O tk).nano))],none,none,none,none⟩ [(∀ F w,(ax (bM S.O L)).h F w->w.cell? ⟨(L.b tk),5,none⟩=some (vI ((obj S.O tk).nano))),(∀ F w,(ax (bM S.O L)).h F w->w.cell? ⟨(L.b tk),4,none⟩=some (vI ((obj S.O tk).sec)))] ⟨d8 (by rw [hkt];decide) (rfl),d8 (by rw [hkt];decide) (rfl),trivial⟩)] ?_
  refine iH.beside (j:=20) (dj:=8) (R:=fun f_ l_=>f_=([(52,.agg #[vI ((cY S i)),vI 3,vI ((obj S.O tk).mode),vI ((obj S.O tk).uid),vI ((obj S.O tk).gid),vI ((obj S.O tk).sec),vI ((obj S.O tk).nano),.slice none (0) (0),.string ⟨#[]⟩,.slice none (0) (0)]),(35,vI 3)]++yw f b4 b5++[(6,.iface 132 (vP (L.b tk)))]++yx A7 S c8 i++[(33,vI ((cY S i))),(34,.iface 132 (vP (L.b tk)))]++Dy S tk)/\l_=[]) [0,1,2,3,4,5,6,7,8,9,10,11] [8] [(2,35),(19,52)] rfl (pc:=[]) (pj:=[]) (Z:=(wD b5 An i cn K S A7 c8 b4 f m t L++[pD S.O L,pE S.O L,.abs R])) (by kernel_rfl) rfl (by kernel_rfl) rfl rfl (kJ.of (ι:=Nat) (v:=fun (vz:Nat)=>vP vz) (l:=fun (vz:Nat)=>[RD vz]) [35,52] rfl rfl rfl rfl ?_) ?_ ?_
  ·intro u Aq
   show aj _ _ _ _ _ [(35,(u 35)),(52,(u 52)),(0,vP f),(2,vP b4),(3,vP b5),(6,.iface 132 (vP (L.b tk))),(19,.slice A7 ((keys S.idx).length) (c8)),(20,vI ↑((keys S.idx).length)),(21,vI ↑i),(33,vI ((cY S i))),(34,.iface 132 (vP (L.b tk))),(39,vI ((obj S.O tk).mode)),(43,vI ((obj S.O tk).uid)),(47,vI ((obj S.O tk).gid)),(51,.agg #[vI ((obj S.O tk).sec),vI ((obj S.O tk).nano)])] [.abs Aq] _
   refine gN 1 (fun vz=>[(8,vP vz)]) (fun _=>[]) (fun _=>[]) (fun vz=>.blk vz [vI 0,vI 0,vI 0,vI 0,vI 0,vI 0,vI 0,.slice none (0) (0),.string ⟨#[]⟩,.slice none (0) (0)] 70) (fun vz=>?_)
   refine NL ?_
   exact MD vz [8,35,52,0,2,3,6,19,20,21,33,34,39,43,47,51] [1,0]
  ·refine kK.step (kJ.of (ι:=Unit) (v:=fun (_:Unit)=>.int .i64 3) (l:=fun (_:Unit)=>[]) [8] rfl rfl rfl rfl ?_) rfl ?_
   ·intro u Aq
    show aj _ _ _ _ _ [(8,(u 8)),(0,vP f),(2,vP b4),(3,vP b5),(6,.iface 132 (vP (L.b tk))),(19,.slice A7 ((keys S.idx).length) (c8)),(20,vI ↑((keys S.idx).length)),(21,vI ↑i),(33,vI ((cY S i))),(34,.iface 132 (vP (L.b tk))),(39,vI ((obj S.O tk).mode)),(43,vI ((obj S.O tk).uid)),(47,vI ((obj S.O tk).gid)),(51,.agg #[vI ((obj S.O tk).sec),vI ((obj S.O tk).nano)])] [.abs Aq] _
    refine gL [] (oo (vP (L.b tk))) ?_
    rintro _ _ ⟨rfl,rfl⟩
    refine NL ?_
    exact MD () [35,8,0,2,3,6,19,20,21,33,34,39,43,47,51] [0]
   rintro _ _ ⟨_,rfl,rfl⟩
   refine kK.step (kJ.of (ι:=Unit) (v:=fun (_:Unit)=>.agg #[vI ((cY S i)),vI 3,vI ((obj S.O tk).mode),vI ((obj S.O tk).uid),vI ((obj S.O tk).gid),vI ((obj S.O tk).sec),vI ((obj S.O tk).nano),.slice none (0) (0),.string ⟨#[]⟩,.slice none (0) (0)]) (l:=fun (_:Unit)=>[]) [8] rfl rfl rfl rfl ?_) rfl ?_
   ·intro u Aq
    show aj _ _ _ _ _ [(8,(u 8)),(35,vI 3),(0,vP f),(2,vP b4),(3,vP b5),(6,.iface 132 (vP (L.b tk))),(19,.slice A7 ((keys S.idx).length) (c8)),(20,vI ↑((keys S.idx).length)),(21,vI ↑i),(33,vI ((cY S i))),(34,.iface 132 (vP (L.b tk))),(39,vI ((obj S.O tk).mode)),(43,vI ((obj S.O tk).uid)),(47,vI ((obj S.O tk).gid)),(51,.agg #[vI ((obj S.O tk).sec),vI ((obj S.O tk).nano)])] [.abs Aq] _
    refine gK 1 [(52,.agg #[vI ((cY S i)),vI 3,vI ((obj S.O tk).mode),vI ((obj S.O tk).uid),vI ((obj S.O tk).gid),vI ((obj S.O tk).sec),vI ((obj S.O tk).nano),.slice none (0) (0),.string ⟨#[]⟩,.slice none (0) (0)])] [] ?_
    refine NL ?_
    exact MD () [52,8,35,0,2,3,6,19,20,21,33,34,39,43,47,51] [0]
   rintro _ _ ⟨_,rfl,rfl⟩
   exact⟨rfl,rfl⟩
  rintro _ _ ⟨rfl,rfl⟩ _ _ ⟨vz,rfl,rfl⟩
  refine iH.last rfl rfl ?_
  refine gC 1 [] [(0,A_ 0 vz 10)] [(0,([(0,vI ((cY S i))),(1,vI 3)]++NE S tk))] ?_
  refine NL (ai.np (NX (af.seq (SR ?_))))
  refine gK 1 [(53,.iface 132 (vP (L.b tk)))] [] ?_
  refine NN (af.block (SR ?_))
  refine gK 3 [(55,.bool false),(56,.pointer none)] [] ?_
  refine NN (CF (SR (gK 3 [(64,.bool true),(65,vP (L.b tk))] [] ?_)))
  refine NN (CT (SR (gK 1 [(10,vP (L.b tk))] [] ?_)))
  refine NN (af.region (gC 6 [] [(3,v_ 9 (SV L hkt)),(5,a_ 0 vz)] [(0,[(8,.string (obj S.O tk).target)])] ?_))
  refine NL (ai.aJ (NX (af.region ?_)))
  refine gN 4 (fun b32=>[(104,.slice An (i) (cn)),(106,.slice (some ⟨b32,0,none⟩) (1) (1))]) (fun b32=>[(1,a_ 1 b5),(2,A_ 0 vz 10)]) (fun _=>[]) (fun b32=>.blk b32 [vI ((cY S i)),vI 3,vI ((obj S.O tk).mode),vI ((obj S.O tk).uid),vI ((obj S.O tk).gid),vI ((obj S.O tk).sec),vI ((obj S.O tk).nano),.slice none (0) (0),.string (obj S.O tk).target,.slice none (0) (0)] 70) (fun b32=>?_)
  refine aj.append 2 (d:=(some 107)) (t:=22) (e:=70) (z:=.agg #[vI 0,vI 0,vI 0,vI 0,vI 0,vI 0,vI 0,.slice none (0) (0),.string ⟨#[]⟩,.slice none (0) (0)]) (size:=10) (bytes:=120) (n:=i) (cap:=cn) (A:=An) (xs:=(dJ K ((bn S).take i))) (s:=(.tmp 104)) (x:=(.tmp 106)) (ats:=#[22,22]) (A':=some ⟨b32,0,none⟩) (m:=1) (c':=1) (news:=[vI ((cY S i)),vI 3,vI ((obj S.O tk).mode),vI ((obj S.O tk).uid),vI ((obj S.O tk).gid),vI ((obj S.O tk).sec),vI ((obj S.O tk).nano),.slice none (0) (0),.string (obj S.O tk).target,.slice none (0) (0)]) (fun _=>by kernel_rfl) rfl (by kernel_rfl) (fun _=>by kernel_rfl) (fun _=>by kernel_rfl) Tryz.underlying22 (by kernel_rfl) rfl (by decide) (rfl) (by simp [Value.oneCell']) (jh (j:=13) rfl) (by unfold maxLen;omega) (by omega) (fun Io Ip=>?_)
  refine aj.bI 2 (p:=.abs (av 70 10 Io (i+1) Ip ((dJ K ((bn S).take i))++[vI ((cY S i)),vI 3,vI ((obj S.O tk).mode),vI ((obj S.O tk).uid),vI ((obj S.O tk).gid),vI ((obj S.O tk).sec),vI ((obj S.O tk).nano),.slice none (0) (0),.string (obj S.O tk).target,.slice none (0) (0)]))) (p':=.abs (av 70 10 Io (i+1) Ip (dJ (K.put i none 0 none 0) ((bn S).take (i+1))))) (by kernel_rfl) (congrArg (fun x=>HP.abs (av 70 10 _ _ _ x)) (wj (dU (by omega)) (qQ hI.toInv0 hi2 kX hlv) rfl rfl)) ?_
  refine aj.slot 107 (.slice Io (i+1) (Ip)) (.slice Io ((i+1)) (Ip)) (fun _=>by kernel_rfl) (rfl) ?_
  refine gC 2 [] [(1,a_ 1 b5)] [(1,[(0,.slice Io ((i+1)) (Ip))])] ?_
  refine NL (ai.aJ (NX (af.region ?_)))
  refine gK 2 [(21,vI ↑(i+1))] [(0,p_ ⟨[],none,none,none,some (vI ↑(i+1))⟩ [(Value.int .i64 (IntKind.wrap .i64 (((i:Nat):Int)+1)))=(.int .i64 ↑(i+1))] ⟨bA (by omega) (by omega) (by omega),trivial⟩)] ?_
  refine NL (ai.mem (fun w hS=>hS.jF (e:=5) (size:=1)) ?_)
  refine ai.mem (fun w hS=>hS.jF (e:=140) (size:=2)) ?_
  refine ai.mem (fun w hS=>hS.si (R':=(lE ((bn S).take (i+1)) (K.put i none 0 none 0))) (i:=4) (j:=14) (idx:=[0,1,2,3,5,6,7,8,9,10,11,12,13,15]) rfl rfl (by kernel_rfl) rfl (AO (dU (by omega)) (qQ hI.toInv0 hi2 kX hlv)) (xY (dU (by omega)) (qQ hI.toInv0 hi2 kX hlv) rfl)) ?_
  refine ai.mem (fun w hS=>hS.si (R':=(lD ((bn S).take (i+1)) (K.put i none 0 none 0))) (i:=4) (j:=14) (idx:=[0,1,2,3,5,6,7,8,9,10,11,12,13]) rfl rfl (by kernel_rfl) rfl (AP (dU (by omega)) (qQ hI.toInv0 hi2 kX hlv)) ((xZ (dU (by omega)) (qQ hI.toInv0 hi2 kX hlv) rfl))) ?_
  exact ai.turn ((i+1),Io,Ip,(K.put i none 0 none 0)) (idx:=[0,2,3,19,20,21]) (pk:=[3,4,0,1,5,6,7,8,9,10,11,12]) (show (((i+1))<=S.idx.length) from (by omega)) (by show S.idx.length - ((i+1)) < S.idx.length - i;omega) (fun _=>by kernel_rfl) rfl (by kernel_rfl)
 refine af.exit (ai.aU (ai.aU (ai.cM (NX (SR ?_)))))
 have hie:(bn S).length=i:=by rw [o7];omega
 have hgt:((bn S).take i)=(bn S):=by rw [← hie,List.take_length]
 refine aj.bI 1 (p:=.abs (av 70 10 An i cn (dJ K ((bn S).take i)))) (p':=.abs (av 70 10 An ((bn S).length) cn (dJ K (bn S)))) (by kernel_rfl) (by rw [hgt,hie]) ?_
 refine aj.bI 2 (p:=.abs (ju (lD ((bn S).take i) K) i)) (p':=.abs (ju (lD (bn S) K) ((bn S).length))) (by kernel_rfl) (by rw [hgt,hie]) ?_
 refine aj.bI 3 (p:=.abs (ju (lE ((bn S).take i) K) i)) (p':=.abs (ju (lE (bn S) K) ((bn S).length))) (by kernel_rfl) (by rw [hgt,hie]) ?_
 refine gC 2 [] [(0,a_ 0 b5),(1,a_ 5 b4)] [(5,[(0,.slice An (i) (cn))])] ?_
 refine NN (af.ret ?_)
 exact ai.ret (v:=.agg #[.slice An (i) (cn)]) (l:=[pF f m t S.X,pI m L S.idx,pO S.O L,pD S.O L,pE S.O L,.abs (av 70 10 An ((bn S).length) cn (dJ K (bn S))),.abs (ju (lD (bn S) K) ((bn S).length)),.abs (ju (lE (bn S) K) ((bn S).length))]) (bG:=[b4=b4]) [.at 5] [6,7,8,9,10,1,2,3,11] (fun _=>by kernel_rfl) ⟨rfl,trivial⟩ rfl (by kernel_rfl) (⟨An,cn,K,by rw [hie],rfl⟩)
end
end Go.Proofs.YtidjcblbdmfalaaGreat
