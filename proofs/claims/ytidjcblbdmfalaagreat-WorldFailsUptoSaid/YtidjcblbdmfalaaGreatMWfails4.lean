/-
  PROVED HERE: lemmas and contracts of functions (texts of this repo, joined; what the claim does not use is left out): H4, H5, H6, H7, Vg, H8, H9, Vh, HD, H10, H11.
  CONDITIONS: as the theorems say.
-/
import Derived.Test.YtidjcblbdmfalaaGreatMWfails3
set_option maxRecDepth 100000
set_option maxHeartbeats 4000000
namespace Go.Proofs.YtidjcblbdmfalaaGreat
section
open Go.RowKit Go.Maps bL aB
attribute [local irreducible] aj aP af ai
theorem qM {β:Bs} (S:aG) (L:HL) (f m t:Nat) (hI:Inv0 S) (d:Nat) (hd:Live S.idx ⟨d,2⟩) (name:ByteArray) (hsz:name.size<=1048576) (hno:aU name (obj S.O d).ah=none) (o:aT) (hid:o.id=S.X.last+1) (hk3:o.kind=1\/o.kind=2\/o.kind=3) (hl0:o.links=0) (hlast:S.X.last < 1099511627776) :
    Spec Tryz.prog β 127 #[vP f,vP (L.b d),.string name,dJ L ⟨(aN S.X),o.kind⟩] [pF f m t { S.X with last:=S.X.last+1 },pI m L S.idx,pO (ay S.O (aN S.X) (fun _=>o)) L,pE (ay S.O (aN S.X) (fun _=>o)) L] (fun v l=>v=.tuple #[]/\l=[pF f m t ((eU S d name o).X),pI m L ((eU S d name o).idx),pO ((eU S d name o).O) L,pE ((eU S d name o).O) L]):=by
  have hX:=hI.hX
  have hne:d≠(aN S.X):=hI.tV hd
  have hkd:(obj S.O d).kind=2:=hI.kind hd
  have hel:(obj S.O d).ah.length<=8192:=hI.fU hd
  have hlen:=hI.len
  have e1:obj (ay S.O (aN S.X) (fun _=>o)) (aN S.X)=o:=bP
  have e2:obj (ay S.O (aN S.X) (fun _=>o)) d=obj S.O d:=cD hne
  have hnk:=oW hI
  have h:=OG (β:=β) { S.X with last:=S.X.last+1 } f m t (by simp only;omega) (ay S.O (aN S.X) (fun _=>o)) L d (by rw [e2];exact hkd) name hsz (by rw [e2];exact hno) (by rw [e2];omega) S.idx (by omega) ⟨(aN S.X),o.kind⟩ (by rw [e1]) hk3 (by rw [e1,hl0];decide) (by
    rw [e1,hid]
    cases e:aB.get S.idx (S.X.last+1) with
    | none=>rfl
    | some u=>have:=(hI.idx _ u e).2.2;omega) (by rw [e1,hid];exact WalkArith.wf_i64 (by have:=hI.last;omega))
  rw [e1,hid] at h
  exact h
theorem Dg {β:Bs} (S:aG) (L:HL) (f m t:Nat) (hI:Inv S) (d:Nat) (hd:Live S.idx ⟨d,2⟩) (name:ByteArray) (hsz:name.size<=1048576) (mode:Int) :
    Spec Tryz.prog β 124 #[vP f,vP (L.b d),.string name,vI (mode)] (pA f m t L S) (fun v l=>∃ L2,v=vI (gE S d name mode).1/\l=(pA f m t L2 ((gE S d name mode).2))):=by
 have hX:=hI.hX
 have hel:(obj S.O d).ah.length<=8192:=hI.fU hd
 have hkd:(obj S.O d).kind=2:=hI.kind hd
 refine Spec.enter Tryz.func124 rfl Tryz.ntmps124 (Nat.le_of_ble_eq_true rfl) (fun R=>?_)
 refine SR (gK 1 [] [] ?_)
 refine NS (gK 3 [(10,vP f),(11,vP (L.b d)),(12,.string name)] [] ?_)
 refine gL [0,1,5,3] (sS S L f m t hI d hd name hsz) ?_
 rintro _ _ ⟨rfl,rfl⟩
 refine gK 1 [(9,vI ((bZ S.X S.O S.idx d name)))] [] ?_
 refine NN (af.seq (SR (gK 2 [(15,.bool (decide (((bZ S.X S.O S.idx d name):Int)=(0:Int))))] [] ?_)))
 refine NN (af.bg (p:=((bZ S.X S.O S.idx d name):Int)=(0:Int)) (fun _=>by kernel_rfl) (fun h0=>?_) (fun h0=>?_))
 ·have hno:=nL h0
  refine af.region (gK 5 [(16,vP f),(17,vP (L.b d)),(18,.string name),(19,vP f),(20,vI (mode))] [] ?_)
  refine gL [0] (sR S.X f m t hX mode) ?_
  rintro _ _ ⟨rfl,rfl⟩
  refine aj.kW (d:=(some 22)) (t:=136) (fun _=>by kernel_rfl) Tryz.prog rfl 9 (fun m1=>?_)
  refine gN 3 (fun b2=>[(25,.iface 135 (vP b2))]) (fun _=>[]) (fun _=>[]) (fun b2=>.blk b2 [vI (S.X.last+1),vI (mode),vI 0,vI 0,vI (S.X.cS),vI (S.X.cZ),vI 0,vI 0,.bool false,.map (some m1),.pointer none] 138) (fun b2=>?_)
  obtain⟨L2,hL2⟩:∃ L2:HL,L2=L.put (aN S.X) b2 m1 none 0:=⟨_,rfl⟩
  have hfr:=hI.toInv0.fresh
  refine aj.mem (fun w hS=>hS.sN hL2 hfr (o:=(aV S.X 2 mode)) (i:=3) (j:=8) (ix:=[0,1,2,4,5,6,7]) rfl rfl (by kernel_rfl) rfl (by show (2:Int)≠0;decide) ((kK (L:=L2) (k:=(aN S.X)) (o:=(aV S.X 2 mode)) rfl).trans (by rw [Ez hL2];rfl)) rfl) ?_
  refine aj.mem (fun w hS=>hS.Nl hL2 hfr (o:=(aV S.X 2 mode)) (i:=3) (j:=7) (ix:=[0,1,2,4,5,6]) rfl rfl (by kernel_rfl) rfl rfl rfl) ?_
  refine aj.dz [(5,pD (ay S.O (aN S.X) (fun _=>(aV S.X 2 mode))) L2)] (fun w hS=>hS.Ax hL2 (o:=(aV S.X 2 mode)) (i:=5) rfl (by show (2:Int)≠1;decide)) ?_
  refine aj.dz [(3,.abs (aL Tryz.prog 3 m (bh (bn L2 S.idx)) S.idx.length)),(4,.abs (cM 197 t S.X.cH S.av (bn L2 S.us)))] (fun w hS=>by rw [gn hL2 hfr.idx,gn hL2 hfr.us];exact hS) ?_
  refine gL (f:=127) (args:=#[vP f,vP (L.b d),.string name,.iface 135 (vP b2)]) (pre:=[pF f m t { S.X with last:=S.X.last+1 },pI m L2 S.idx,pO (ay S.O (aN S.X) (fun _=>(aV S.X 2 mode))) L2,pE (ay S.O (aN S.X) (fun _=>(aV S.X 2 mode))) L2]) [2,3,1,0] ((by have h:=qM (β:=β) S L2 f m t hI.toInv0 d hd name hsz hno (aV S.X 2 mode) rfl (by simp [aV]) rfl (pH h0);rw [uP hL2 (hI.tV hd),nK hL2] at h;exact h)) ?_
  rintro _ _ ⟨rfl,rfl⟩
  refine NS (aj.dz [(5,.abs (ax (bN ((eU S d name (aV S.X 2 mode)).O) L2)))] (fun w hS=>by rw [show bN ((eU S d name (aV S.X 2 mode)).O) L2=bN (ay S.O (aN S.X) (fun _=>(aV S.X 2 mode))) L2 from gS];exact hS) ?_)
  refine gK 2 [(8,vI ((bZ S.X S.O S.idx d name)))] [] ?_
  refine NN (af.ret ?_)
  exact RT (vI ((bZ S.X S.O S.idx d name))) [0,1,4,2,5,3,6] (⟨L2,by rw [show gE S d name mode=_ from if_pos h0];refine⟨congrArg _ h0,?_⟩;rfl⟩)
 refine af.skip (NX (SR (gK 2 [(8,vI ((bZ S.X S.O S.idx d name)))] [] ?_)))
 refine NN (af.ret ?_)
 exact RT (vI ((bZ S.X S.O S.idx d name))) [0,1,4,3,5,2,6] (⟨L,by rw [show gE S d name mode=_ from if_neg h0]<;>exact⟨rfl,rfl⟩⟩)
theorem yH {β:Bs} (S:aG) (L:HL) (f m t:Nat) (hI:Inv S) (d:Nat) (hd:Live S.idx ⟨d,2⟩) (name:ByteArray) (hsz:name.size<=1048576) (text:ByteArray) (NE:text.size<=1048576) :
    Spec Tryz.prog β 128 #[vP f,vP (L.b d),.string name,.string text] (pA f m t L S) (fun v l=>∃ L2,v=vI (eM S d name text).1/\l=(pA f m t L2 ((eM S d name text).2))):=by
 have hX:=hI.hX
 have hel:(obj S.O d).ah.length<=8192:=hI.fU hd
 have hkd:(obj S.O d).kind=2:=hI.kind hd
 refine Spec.enter Tryz.func128 rfl Tryz.ntmps128 (Nat.le_of_ble_eq_true rfl) (fun R=>?_)
 refine SR (gK 1 [] [] ?_)
 refine NS (gK 1 [(10,.string text)] [] ?_)
 refine gL [] (OE text NE) ?_
 rintro _ _ ⟨rfl,rfl⟩
 refine gK 1 [(9,vI ((mH text)))] [] ?_
 refine NN (af.seq (SR (gK 2 [(13,.bool (decide (((mH text):Int)=(0:Int))))] [] ?_)))
 refine NN (af.bg (p:=((mH text):Int)=(0:Int)) (fun _=>by kernel_rfl) (fun hb=>?_) (fun hb=>?_))
 ·refine af.region (gK 3 [(14,vP f),(15,vP (L.b d)),(16,.string name)] [] ?_)
  refine gL [0,1,5,3] (sS S L f m t hI d hd name hsz) ?_
  rintro _ _ ⟨rfl,rfl⟩
  refine gK 1 [(9,vI ((bZ S.X S.O S.idx d name)))] [] ?_
  refine NN (af.seq (SR (gK 2 [(19,.bool (decide (((bZ S.X S.O S.idx d name):Int)=(0:Int))))] [] ?_)))
  refine NN (af.bg (p:=((bZ S.X S.O S.idx d name):Int)=(0:Int)) (fun _=>by kernel_rfl) (fun h0=>?_) (fun h0=>?_))
  ·have hno:=nL h0
   refine af.region (gK 4 [(20,vP f),(21,vP (L.b d)),(22,.string name),(23,vP f)] [] ?_)
   refine gL [0] (sR S.X f m t hX 511) ?_
   rintro _ _ ⟨rfl,rfl⟩
   refine gN 4 (fun b3=>[(28,.iface 132 (vP b3))]) (fun _=>[]) (fun _=>[]) (fun b3=>.blk b3 [vI (S.X.last+1),vI (511),vI 0,vI 0,vI (S.X.cS),vI (S.X.cZ),vI 0,vI 0,.bool false,.string text] 134) (fun b3=>?_)
   obtain⟨L2,hL2⟩:∃ L2:HL,L2=L.put (aN S.X) b3 0 none 0:=⟨_,rfl⟩
   have hfr:=hI.toInv0.fresh
   refine aj.mem (fun w hS=>hS.sN hL2 hfr (o:={ aV S.X 3 511 with target:=text }) (i:=3) (j:=7) (ix:=[0,1,2,4,5,6]) rfl rfl (by kernel_rfl) rfl (by show (3:Int)≠0;decide) ((wk (L:=L2) (k:=(aN S.X)) (o:={ aV S.X 3 511 with target:=text }) rfl).trans (by rfl)) rfl) ?_
   refine aj.dz [(3,pE (ay S.O (aN S.X) (fun _=>{ aV S.X 3 511 with target:=text })) L2)] (fun w hS=>hS.tW hL2 hfr (o:={ aV S.X 3 511 with target:=text }) (i:=3) rfl (by show (3:Int)≠2;decide)) ?_
   refine aj.dz [(5,pD (ay S.O (aN S.X) (fun _=>{ aV S.X 3 511 with target:=text })) L2)] (fun w hS=>hS.Ax hL2 (o:={ aV S.X 3 511 with target:=text }) (i:=5) rfl (by show (3:Int)≠1;decide)) ?_
   refine aj.dz [(2,.abs (aL Tryz.prog 3 m (bh (bn L2 S.idx)) S.idx.length)),(4,.abs (cM 197 t S.X.cH S.av (bn L2 S.us)))] (fun w hS=>by rw [gn hL2 hfr.idx,gn hL2 hfr.us];exact hS) ?_
   refine gL (f:=127) (args:=#[vP f,vP (L.b d),.string name,.iface 132 (vP b3)]) (pre:=[pF f m t { S.X with last:=S.X.last+1 },pI m L2 S.idx,pO (ay S.O (aN S.X) (fun _=>{ aV S.X 3 511 with target:=text })) L2,pE (ay S.O (aN S.X) (fun _=>{ aV S.X 3 511 with target:=text })) L2]) [1,2,0,3] ((by have h:=qM (β:=β) S L2 f m t hI.toInv0 d hd name hsz hno { aV S.X 3 511 with target:=text } rfl (by simp [aV]) rfl (pH h0);rw [uP hL2 (hI.tV hd),nK hL2] at h;exact h)) ?_
   rintro _ _ ⟨rfl,rfl⟩
   refine NS (aj.dz [(5,.abs (ax (bN ((eU S d name { aV S.X 3 511 with target:=text }).O) L2)))] (fun w hS=>by rw [show bN ((eU S d name { aV S.X 3 511 with target:=text }).O) L2=bN (ay S.O (aN S.X) (fun _=>{ aV S.X 3 511 with target:=text })) L2 from gS];exact hS) ?_)
   refine gK 2 [(8,vI ((bZ S.X S.O S.idx d name)))] [] ?_
   refine NN (af.ret ?_)
   exact RT (vI ((bZ S.X S.O S.idx d name))) [0,1,4,2,5,3,6] (⟨L2,by rw [show eM S d name text=_ from (if_pos hb).trans (if_pos h0)];refine⟨congrArg _ h0,?_⟩;rfl⟩)
  refine af.skip (NX (SR (gK 2 [(8,vI ((bZ S.X S.O S.idx d name)))] [] ?_)))
  refine NN (af.ret ?_)
  exact RT (vI ((bZ S.X S.O S.idx d name))) [0,1,4,3,5,2,6] (⟨L,by rw [show eM S d name text=_ from (if_pos hb).trans (if_neg h0)]<;>exact⟨rfl,rfl⟩⟩)
 refine af.skip (NX (af.seq (SR (gK 2 [(19,.bool (decide (((mH text):Int)=(0:Int))))] [] ?_))))
 refine NN (af.bg (p:=((mH text):Int)=(0:Int)) (fun _=>by kernel_rfl) (fun h0=>?_) (fun h0=>?_))
 ·exact absurd h0 hb
 refine af.skip (NX (SR (gK 2 [(8,vI ((mH text)))] [] ?_)))
 refine NN (af.ret ?_)
 exact RT (vI ((mH text))) [0,1,2,3,4,5,6] (⟨L,by rw [show eM S d name text=_ from if_neg hb]<;>exact⟨rfl,rfl⟩⟩)
theorem Bh {β:Bs} (S:aG) (L:HL) (f m t:Nat) (hI:Inv S) (d:Nat) (hd:Live S.idx ⟨d,2⟩) (name:ByteArray) (hsz:name.size<=1048576) :
    Spec Tryz.prog β 131 #[vP f,vP (L.b d),.string name] (pA f m t L S) (fun v l=>∃ L2,v=vI (ef S d name).1/\l=(pA f m t L2 ((ef S d name).2))):=by
 have hX:=hI.hX
 have hel:(obj S.O d).ah.length<=8192:=hI.fU hd
 have hkd:(obj S.O d).kind=2:=hI.kind hd
 refine Spec.enter Tryz.func131 rfl Tryz.ntmps131 (Nat.le_of_ble_eq_true rfl) (fun R=>?_)
 refine af.seq ?_
 rcases hI.lD hd name with hlk|⟨tk,hlk,hlv⟩|⟨tk,hlk,hlv⟩|⟨tk,hlk,hlv⟩
 ·refine af.region (gK 1 [] [] ?_)
  refine NN (af.seq (SR (gK 5 [(10,.map (some (L.m d))),(11,.string name)] [(3,v_ 3 (bC L hkd))] ?_)))
  refine iu 5 hkd hlk ?_
  refine NN (af.block (SR ?_))
  refine gK 1 [(13,.bool true)] [] ?_
  refine NN (CT (SR (gK 1 [(6,vI 170)] [] ?_)))
  refine NN (af.ret (ai.aF (ai.ak ?_)))
  exact RT (vI 170) [0,1,2,3,4,5,6] (⟨L,by rw [show ef S d name=(170,S) by unfold ef;rw [hlk]]<;>exact⟨rfl,rfl⟩⟩)
 ·have hkt:(obj S.O tk).kind=1:=hI.kind hlv
  refine af.region (gK 1 [] [] ?_)
  refine NN (af.seq (SR (gK 5 [(10,.map (some (L.m d))),(11,.string name)] [(3,v_ 3 (bC L hkd))] ?_)))
  refine iu 5 hkd hlk ?_
  refine NN (af.block (SR ?_))
  refine gK 1 [(13,.bool false)] [] ?_
  refine NN (CF (SR (gK 3 [(15,.bool false)] [] ?_)))
  refine NN (CF (af.skip (ai.aJ (NX (SR ?_)))))
  refine gK 3 [(17,vP f),(18,vP (L.b d)),(19,.string name)] [] ?_
  refine gL [0,3,5,1] (nk S L f m t hI d hd name hsz ⟨tk,1⟩ hlk) ?_
  rintro _ _ ⟨rfl,rfl⟩
  refine NS (aj.dz [(5,.abs (ax (bN ((aH S d name ⟨tk,1⟩).O) L)))] (fun w hS=>by rw [show bN ((aH S d name ⟨tk,1⟩).O) L=bN S.O L from ni];exact hS) ?_)
  refine gK 1 [(6,vI 0)] [] ?_
  refine NN (af.ret ?_)
  exact RT (vI 0) [0,3,4,1,5,2,6] (⟨L,by rw [show ef S d name=(0,aH S d name ⟨tk,1⟩) by unfold ef;rw [hlk];exact if_neg (by simp)]<;>exact⟨rfl,rfl⟩⟩)
 ·have hkt:(obj S.O tk).kind=2:=hI.kind hlv
  refine af.region (gK 1 [] [] ?_)
  refine NN (af.seq (SR (gK 5 [(10,.map (some (L.m d))),(11,.string name)] [(3,v_ 3 (bC L hkd))] ?_)))
  refine iu 5 hkd hlk ?_
  refine NN (af.block (SR ?_))
  refine gK 1 [(13,.bool false)] [] ?_
  refine NN (CF (SR (gK 3 [(15,.bool true)] [] ?_)))
  refine NN (CT (SR (gK 1 [(6,vI 172)] [] ?_)))
  refine NN (af.ret (ai.aF (ai.ak ?_)))
  exact RT (vI 172) [0,1,2,3,4,5,6] (⟨L,by rw [show ef S d name=(172,S) by unfold ef;rw [hlk];exact if_pos rfl]<;>exact⟨rfl,rfl⟩⟩)
 have hkt:(obj S.O tk).kind=3:=hI.kind hlv
 refine af.region (gK 1 [] [] ?_)
 refine NN (af.seq (SR (gK 5 [(10,.map (some (L.m d))),(11,.string name)] [(3,v_ 3 (bC L hkd))] ?_)))
 refine iu 5 hkd hlk ?_
 refine NN (af.block (SR ?_))
 refine gK 1 [(13,.bool false)] [] ?_
 refine NN (CF (SR (gK 3 [(15,.bool false)] [] ?_)))
 refine NN (CF (af.skip (ai.aJ (NX (SR ?_)))))
 refine gK 3 [(17,vP f),(18,vP (L.b d)),(19,.string name)] [] ?_
 refine gL [0,3,5,1] (nk S L f m t hI d hd name hsz ⟨tk,3⟩ hlk) ?_
 rintro _ _ ⟨rfl,rfl⟩
 refine NS (aj.dz [(5,.abs (ax (bN ((aH S d name ⟨tk,3⟩).O) L)))] (fun w hS=>by rw [show bN ((aH S d name ⟨tk,3⟩).O) L=bN S.O L from ni];exact hS) ?_)
 refine gK 1 [(6,vI 0)] [] ?_
 refine NN (af.ret ?_)
 exact RT (vI 0) [0,3,4,1,5,2,6] (⟨L,by rw [show ef S d name=(0,aH S d name ⟨tk,3⟩) by unfold ef;rw [hlk];exact if_neg (by simp)]<;>exact⟨rfl,rfl⟩⟩)
theorem Dh {β:Bs} (S:aG) (L:HL) (f m t:Nat) (hI:Inv S) (d:Nat) (hd:Live S.idx ⟨d,2⟩) (name:ByteArray) (hsz:name.size<=1048576) :
    Spec Tryz.prog β 137 #[vP f,vP (L.b d),.string name] (pA f m t L S) (fun v l=>∃ L2,v=vI (eO S d name).1/\l=(pA f m t L2 ((eO S d name).2))):=by
 have hX:=hI.hX
 have hel:(obj S.O d).ah.length<=8192:=hI.fU hd
 have hkd:(obj S.O d).kind=2:=hI.kind hd
 refine Spec.enter Tryz.func137 rfl Tryz.ntmps137 (Nat.le_of_ble_eq_true rfl) (fun R=>?_)
 refine af.seq ?_
 rcases hI.lD hd name with hlk|⟨tk,hlk,hlv⟩|⟨tk,hlk,hlv⟩|⟨tk,hlk,hlv⟩
 ·refine af.region (gK 1 [] [] ?_)
  refine NS (gK 5 [(13,.map (some (L.m d))),(14,.string name)] [(3,v_ 3 (bC L hkd))] ?_)
  refine iu 5 hkd hlk ?_
  refine gK 1 [(7,.nilIface)] [] ?_
  refine NN (af.seq (SR (gK 2 [(17,.bool true)] [] ?_)))
  refine NN (CT (SR (gK 1 [(6,vI 170)] [] ?_)))
  refine NN (af.ret (ai.ak ?_))
  exact RT (vI 170) [0,1,2,3,4,5,6] (⟨L,by skip;rw [show eO S d name=(170,S) by unfold eO;rw [hlk]]<;>exact⟨rfl,rfl⟩⟩)
 ·have hkt:(obj S.O tk).kind=1:=hI.kind hlv
  refine af.region (gK 1 [] [] ?_)
  refine NS (gK 5 [(13,.map (some (L.m d))),(14,.string name)] [(3,v_ 3 (bC L hkd))] ?_)
  refine iu 5 hkd hlk ?_
  refine gK 1 [(7,.iface 129 (vP (L.b tk)))] [] ?_
  refine NN (af.seq (SR (gK 2 [(17,.bool false)] [] ?_)))
  refine NN (CF (af.skip (NX (SR (gK 7 [(8,.pointer none),(9,.bool false)] [] ?_)))))
  refine NN (af.seq (SR (gK 2 [(24,.bool true)] [] ?_)))
  refine NN (CT (SR (gK 1 [(6,vI 173)] [] ?_)))
  refine NN (af.ret (ai.ak ?_))
  exact RT (vI 173) [0,1,2,3,4,5,6] (⟨L,by skip;rw [show eO S d name=(173,S) by unfold eO;rw [hlk];exact if_neg (by simp)]<;>exact⟨rfl,rfl⟩⟩)
 ·have hkt:(obj S.O tk).kind=2:=hI.kind hlv
  have Vs:(obj S.O tk).ah.length<=8192:=hI.fU hlv
  refine af.region (gK 1 [] [] ?_)
  refine NS (gK 5 [(13,.map (some (L.m d))),(14,.string name)] [(3,v_ 3 (bC L hkd))] ?_)
  refine iu 5 hkd hlk ?_
  refine gK 1 [(7,.iface 135 (vP (L.b tk)))] [] ?_
  refine NN (af.seq (SR (gK 2 [(17,.bool false)] [] ?_)))
  refine NN (CF (af.skip (NX (SR (gK 7 [(8,vP (L.b tk)),(9,.bool true)] [] ?_)))))
  refine NN (af.seq (SR (gK 2 [(24,.bool false)] [] ?_)))
  refine NN (CF (af.skip (NX (af.seq (SR (gK 4 [(28,.map (some (L.m tk)))] [(3,v_ 3 (bC L hkt))] ?_))))))
  refine Uy 5 hkt ?_
  refine gK 1 [(30,.bool (decide (((((obj S.O tk).ah.length:Nat):Int):Int) > (0:Int))))] [] ?_
  refine NN (af.bg (p:=((((obj S.O tk).ah.length:Nat):Int):Int) > (0:Int)) (fun _=>by kernel_rfl) (fun lV=>?_) (fun lV=>?_))
  ·refine SR (gK 1 [(6,vI 178)] [] ?_)
   refine NN (af.ret (ai.ak ?_))
   exact RT (vI 178) [0,1,2,3,4,5,6] (⟨L,by skip;rw [show eO S d name=(178,S) by unfold eO;rw [hlk];exact (if_pos rfl).trans (if_neg (fun e=>by rw [show (obj S.O tk).ah=[] from e] at lV;simp at lV))]<;>exact⟨rfl,rfl⟩⟩)
  refine af.skip (NX (SR (gK 3 [(31,vP f),(32,vP (L.b d)),(33,.string name)] [] ?_)))
  refine gL [0,3,5,1] (nk S L f m t hI d hd name hsz ⟨tk,2⟩ hlk) ?_
  rintro _ _ ⟨rfl,rfl⟩
  refine NS (aj.dz [(5,.abs (ax (bN ((aH S d name ⟨tk,2⟩).O) L)))] (fun w hS=>by rw [show bN ((aH S d name ⟨tk,2⟩).O) L=bN S.O L from ni];exact hS) ?_)
  have wU:(obj (aH S d name ⟨tk,2⟩).O d).kind=2:=(Av).trans (hkd)
  have wV:(obj (aH S d name ⟨tk,2⟩).O tk).kind=2:=(Av).trans (hkt)
  generalize cq:(aH S d name ⟨tk,2⟩).O=cF at wU wV ⊢
  refine gK 3 [(37,.pointer (some ⟨(L.b tk),10,none⟩))] [] ?_
  refine R9 1 [(2,1),(5,2)] tk (none) wV (fun d6 dw=>?_)
  have Mp:=ku dw wU
  have IJ:=ku dw wV
  refine NS (gK 1 [(6,vI 0)] [] ?_)
  refine NN (af.ret ?_)
  exact RT (l:=[pF f m t ((aH S d name ⟨tk,2⟩).X),pI m L ((aH S d name ⟨tk,2⟩).idx),pT t S.X.cH S.av L S.us,pO d6 L,pD d6 L,pE d6 L]) (.int .i64 0) [0,3,4,1,5,2,6] (⟨L,by subst dw;subst cq;rw [show eO S d name=(0,{ aH S d name ⟨tk,2⟩ with O:=orphan (aH S d name ⟨tk,2⟩).O tk }) by unfold eO;rw [hlk];exact (if_pos rfl).trans (if_pos (List.eq_nil_of_length_eq_zero (by show (obj S.O tk).ah.length=0;omega)))]<;>exact⟨rfl,rfl⟩⟩)
 have hkt:(obj S.O tk).kind=3:=hI.kind hlv
 refine af.region (gK 1 [] [] ?_)
 refine NS (gK 5 [(13,.map (some (L.m d))),(14,.string name)] [(3,v_ 3 (bC L hkd))] ?_)
 refine iu 5 hkd hlk ?_
 refine gK 1 [(7,.iface 132 (vP (L.b tk)))] [] ?_
 refine NN (af.seq (SR (gK 2 [(17,.bool false)] [] ?_)))
 refine NN (CF (af.skip (NX (SR (gK 7 [(8,.pointer none),(9,.bool false)] [] ?_)))))
 refine NN (af.seq (SR (gK 2 [(24,.bool true)] [] ?_)))
 refine NN (CT (SR (gK 1 [(6,vI 173)] [] ?_)))
 refine NN (af.ret (ai.ak ?_))
 exact RT (vI 173) [0,1,2,3,4,5,6] (⟨L,by skip;rw [show eO S d name=(173,S) by unfold eO;rw [hlk];exact if_neg (by simp)]<;>exact⟨rfl,rfl⟩⟩)
end
section
open Go.RowKit Go.Maps bL aB
attribute [local irreducible] aj aP af ai
abbrev E5 (f:Nat) (L:HL) (d:Nat) (name):=([(61,vP f),(62,vP (L.b d)),(63,.string name)]:Fr)
abbrev E6 (f:Nat) (L:HL) (to:Nat) (toName):=([(65,vP f),(66,vP (L.b to)),(67,.string toName)]:Fr)
abbrev vL (L:HL) (to:Nat) (toName):=([(45,.map (some (L.m to))),(46,.string toName)]:Fr)
abbrev NG (f:Nat) (L:HL) (to:Nat) (toName):=([(57,vP f),(58,vP (L.b to)),(59,.string toName)]:Fr)
abbrev NH (L:HL) (to:Nat):=([(12,.pointer none),(13,.bool false),(14,vP (L.b to))]:Fr)
abbrev NI (L:HL) (to:Nat) (toName):=([(3,vP (L.b to)),(4,.string toName)]:Fr)
theorem Bj {β:Bs} (S:aG) (L:HL) (f m t:Nat) (hI:Inv S) (d:Nat) (hd:Live S.idx ⟨d,2⟩) (name:ByteArray) (hsz:name.size<=1048576) (to:Nat) (hto:Live S.idx ⟨to,2⟩) (toName:ByteArray) (oh:toName.size<=1048576) :
    Spec Tryz.prog β 138 #[vP f,vP (L.b d),.string name,vP (L.b to),.string toName] (pA f m t L S) (fun v l=>∃ L2,v=vI (bH S d name to toName).1/\l=(pA f m t L2 ((bH S d name to toName).2))):=by
 have hX:=hI.hX
 have hel:(obj S.O d).ah.length<=8192:=hI.fU hd
 have hkd:(obj S.O d).kind=2:=hI.kind hd
 have eE:(obj S.O to).kind=2:=hI.kind hto
 have Vg:(obj S.O to).ah.length<=8192:=hI.fU hto
 refine Spec.enter Tryz.func138 rfl Tryz.ntmps138 (Nat.le_of_ble_eq_true rfl) (fun R=>?_)
 refine af.seq ?_
 rcases hI.lD hd name with hlk|⟨tk,hlk,hlv⟩|⟨tk,hlk,hlv⟩|⟨tk,hlk,hlv⟩
 ·refine af.region (gK 1 [] [] ?_)
  refine NS (gK 5 [(19,.map (some (L.m d))),(20,.string name)] [(3,v_ 3 (bC L hkd))] ?_)
  refine iu 5 hkd hlk ?_
  refine gK 1 [(11,.nilIface)] [] ?_
  refine NN (af.seq (SR (gK 2 [(23,.bool true)] [] ?_)))
  refine NN (CT (SR (gK 1 [(10,vI 170)] [] ?_)))
  refine NN (af.ret (ai.ak ?_))
  exact RT (vI 170) [0,1,2,3,4,5,6] (⟨L,by rw [show bH S d name to toName=(170,S) by unfold bH;rw [hlk]]<;>exact⟨rfl,rfl⟩⟩)
 ·have hkt:(obj S.O tk).kind=1:=hI.kind hlv
  refine af.region (gK 1 [] [] ?_)
  refine NS (gK 5 [(19,.map (some (L.m d))),(20,.string name)] [(3,v_ 3 (bC L hkd))] ?_)
  refine iu 5 hkd hlk ?_
  refine gK 1 [(11,.iface 129 (vP (L.b tk)))] [] ?_
  refine NN (af.seq (SR (gK 2 [(23,.bool false)] [] ?_)))
  refine NN (CF (af.skip (NX (SR (gK 7 [(12,.pointer none),(13,.bool false)] [] ?_)))))
  refine NN (af.seq (SR (gK 2 [(14,vP (L.b to))] [] ?_)))
  refine NN (af.block ?_)
  refine af.loop (ι:=Unit) (fun (u:Unit)=>True) (fun (u:Unit)=>0) (fun (u:Unit)=>(E4 f L d name++NI L to toName++[(11,.iface 129 (vP (L.b tk)))]++NH L to)) (fun (u:Unit)=>((pA f m t L S)++[.abs R])) () (idx:=[0,1,2,3,4,11,12,13,14]) (pk:=[0,1,2,3,4,5,6]) (show True from trivial) (fun _=>by kernel_rfl) rfl (by kernel_rfl) ?_
  rintro u _
  show af _ _ _ _ (E4 f L d name++NI L to toName++[(11,.iface 129 (vP (L.b tk)))]++NH L to) ((pA f m t L S)++[.abs R]) _
  refine af.seq (SR (gK 5 [(34,.bool false)] [] ?_))
  refine NN (CF (af.exit (ai.aX (ai.aX (ai.cV (NX (af.seq ?_)))))))
  skip
  rcases hI.lD hto toName with br|⟨ok,br,eG⟩|⟨ok,br,eG⟩|⟨ok,br,eG⟩
  ·refine af.region (gK 5 (vL L to toName) [(3,v_ 3 (bC L eE))] ?_)
   refine iu 5 eE br ?_
   refine gK 1 [(15,.nilIface)] [] ?_
   refine NN (af.seq (SR (gK 3 [(50,.bool false)] [] ?_)))
   refine NN (CF (af.skip (NX (af.seq (SR (gK 2 [(52,.bool false)] [] ?_))))))
   refine NN (CF (af.skip (NX (SR ?_))))
   have ck:Inv S:=hI
   have hd1:=hd
   have eV:=hlk
   have o4:=br
   have jD:=hto
   have jG:(obj S.O d).kind=2:=ck.kind hd1
   have o5:(obj S.O to).kind=2:=ck.kind jD
   have kx:Live S.idx ⟨tk,1⟩:=(ck.ent hd1 eV).2
   have kz:(obj S.O tk).kind=1:=ck.kind kx
   have Cr:(obj S.O d).ah.length<=8192:=ck.fU hd1
   have Cs:(obj S.O to).ah.length<=8192:=ck.fU jD
   have o6:=ck.lb kx
   have kA:tk≠d:=ck.ne hd1 eV
   refine gK 3 (E5 f L d name) [] ?_
   refine gL [0,3,5] (jr S.X f m t ck.hX S.O L d jG name hsz ⟨tk,1⟩ kz (by simp) eV (ck.twice hd1) (by omega) (by simp only at o6 ⊢;omega)) ?_
   rintro _ _ ⟨rfl,rfl⟩
   refine NS (gK 4 (E6 f L to toName++[(68,.iface 129 (vP (L.b tk)))]) [] ?_)
   refine gL [0,1,2] (iB { S.X with ah:=S.X.ah - 1 } f m t (ck.yx hd1 eV) (aR S.X S.O d name ⟨tk,1⟩) L to (cR.trans o5) toName oh (jP kA o4) (Nat.le_trans (lN kA) (by omega)) ⟨tk,1⟩ (cR.trans kz) (by simp) (jX ck.toInv0 hd1 eV)) ?_
   rintro _ _ ⟨rfl,rfl⟩
   refine NS (aj.dz [(5,.abs (ax (bN (di S.X (aR S.X S.O d name ⟨tk,1⟩) to toName ⟨tk,1⟩) L)))] (fun w hS=>by rw [show bN (di S.X (aR S.X S.O d name ⟨tk,1⟩) to toName ⟨tk,1⟩) L=bN S.O L from gS.trans jO];exact hS) ?_)
   refine gK 1 [(10,vI 0)] [] ?_
   refine NN (af.ret ?_)
   exact RT (vI 0) [0,3,4,1,5,2,6] (⟨L,by rw [show bH S d name to toName=(0,mY S d name to toName ⟨tk,1⟩) by unfold bH;rw [hlk];refine (if_neg (fun h=>absurd h.1 (by simp))).trans ?_;rw [br]]<;>exact⟨rfl,rfl⟩⟩)
  ·have kB:(obj S.O ok).kind=1:=hI.kind eG
   refine af.region (gK 5 (vL L to toName) [(3,v_ 3 (bC L eE))] ?_)
   refine iu 5 eE br ?_
   refine gK 1 [(15,.iface 129 (vP (L.b ok)))] [] ?_
   refine NN (af.seq (SR (gK 2 [(48,.iface 129 (vP (L.b ok))),(49,.iface 129 (vP (L.b tk)))] [] ?_)))
   refine aj.jf (d:=(some 50)) (op:=.binOp .eql 124 (.tmp 48) (.tmp 49) 124) (v:=.bool (decide (ok=tk))) (fun _=>by kernel_rfl) (fun o junk w ho hS=>by obtain⟨F,hF⟩:=hS.get (i:=3) rfl;exact⟨w,zn PG ho (by kernel_rfl) (by kernel_rfl) (by rw [kB];decide) (by rw [hkt];decide) hF,hS⟩) ?_
   refine NN (af.bg (p:=ok=tk) (fun _=>by kernel_rfl) (fun h50=>?_) (fun h50=>?_))
   ·refine SR (gK 1 [(10,vI 0)] [] ?_)
    refine NN (af.ret (ai.ak ?_))
    exact RT (vI 0) [0,1,2,3,4,5,6] (⟨L,by rw [show bH S d name to toName=(0,S) by unfold bH;rw [hlk];refine (if_neg (fun h=>absurd h.1 (by simp))).trans ?_;rw [br];exact if_pos (by rw [h50])]<;>exact⟨rfl,rfl⟩⟩)
   refine af.skip (NX (af.seq (SR (gK 2 [(52,.bool true)] [] ?_))))
   refine NN (CT (af.seq (SR (gK 1 [(53,.iface 129 (vP (L.b ok)))] [] ?_))))
   refine gL [] (lS (vP (L.b ok))) ?_
   rintro _ _ ⟨rfl,rfl⟩
   refine gK 1 [(55,.bool false)] [] ?_
   refine NN (CF (af.skip (NX (af.seq (SR (gK 1 [(56,.bool false)] [] ?_))))))
   refine NN (CF (af.skip (NX (af.region (gK 3 (NG f L to toName) [] ?_)))))
   refine gL [0,3,5,1] (nk S L f m t hI to hto toName oh ⟨ok,1⟩ br) ?_
   rintro _ _ ⟨rfl,rfl⟩
   refine NS ?_
   have ck:Inv (aH S to toName ⟨ok,1⟩):=hI.xS hto br (by simp)
   have hot:(⟨ok,1⟩:Th)≠⟨tk,1⟩:=fun e=>h50 (congrArg Th.k e)
   have hd1:Live (aH S to toName ⟨ok,1⟩).idx ⟨d,2⟩:=jq hI.toInv0 hto br hd (fun e=>by have:=gj hd eG e;cases this)
   have jD:Live (aH S to toName ⟨ok,1⟩).idx ⟨to,2⟩:=jq hI.toInv0 hto br hto (fun e=>by have:=gj hto eG e;cases this)
   have eV:aU name (obj (aH S to toName ⟨ok,1⟩).O d).ah=some ⟨tk,1⟩:=pZ hI.toInv0 hto br hlk hot
   have o4:aU toName (obj (aH S to toName ⟨ok,1⟩).O to).ah=none:=p4 hI.toInv0 hto br
   have jG:(obj (aH S to toName ⟨ok,1⟩).O d).kind=2:=ck.kind hd1
   have o5:(obj (aH S to toName ⟨ok,1⟩).O to).kind=2:=ck.kind jD
   have kx:Live (aH S to toName ⟨ok,1⟩).idx ⟨tk,1⟩:=(ck.ent hd1 eV).2
   have kz:(obj (aH S to toName ⟨ok,1⟩).O tk).kind=1:=ck.kind kx
   have Cr:(obj (aH S to toName ⟨ok,1⟩).O d).ah.length<=8192:=ck.fU hd1
   have Cs:(obj (aH S to toName ⟨ok,1⟩).O to).ah.length<=8192:=ck.fU jD
   have o6:=ck.lb kx
   have kA:tk≠d:=ck.ne hd1 eV
   refine gK 3 (E5 f L d name) [] ?_
   refine gL [0,1,2] (jr (aH S to toName ⟨ok,1⟩).X f m t ck.hX (aH S to toName ⟨ok,1⟩).O L d jG name hsz ⟨tk,1⟩ kz (by simp) eV (ck.twice hd1) (by omega) (by simp only at o6 ⊢;omega)) ?_
   rintro _ _ ⟨rfl,rfl⟩
   refine NS (gK 4 (E6 f L to toName++[(68,.iface 129 (vP (L.b tk)))]) [] ?_)
   refine gL [0,1,2] (iB { (aH S to toName ⟨ok,1⟩).X with ah:=(aH S to toName ⟨ok,1⟩).X.ah - 1 } f m t (ck.yx hd1 eV) (aR (aH S to toName ⟨ok,1⟩).X (aH S to toName ⟨ok,1⟩).O d name ⟨tk,1⟩) L to (cR.trans o5) toName oh (jP kA o4) (Nat.le_trans (lN kA) (by omega)) ⟨tk,1⟩ (cR.trans kz) (by simp) (jX ck.toInv0 hd1 eV)) ?_
   rintro _ _ ⟨rfl,rfl⟩
   refine NS (aj.dz [(5,.abs (ax (bN (di (aH S to toName ⟨ok,1⟩).X (aR (aH S to toName ⟨ok,1⟩).X (aH S to toName ⟨ok,1⟩).O d name ⟨tk,1⟩) to toName ⟨tk,1⟩) L)))] (fun w hS=>by rw [show bN (di (aH S to toName ⟨ok,1⟩).X (aR (aH S to toName ⟨ok,1⟩).X (aH S to toName ⟨ok,1⟩).O d name ⟨tk,1⟩) to toName ⟨tk,1⟩) L=bN S.O L from gS.trans (jO.trans ni)];exact hS) ?_)
   refine gK 1 [(10,vI 0)] [] ?_
   refine NN (af.ret ?_)
   exact RT (vI 0) [0,3,4,1,5,2,6] (⟨L,by rw [show bH S d name to toName=(0,mY (aH S to toName ⟨ok,1⟩) d name to toName ⟨tk,1⟩) by unfold bH;rw [hlk];refine (if_neg (fun h=>absurd h.1 (by simp))).trans ?_;rw [br];exact (if_neg (fun e=>h50 (congrArg Th.k e))).trans ((if_neg (by simp)).trans (if_neg (by simp)))]<;>exact⟨rfl,rfl⟩⟩)
  ·have kB:(obj S.O ok).kind=2:=hI.kind eG
   refine af.region (gK 5 (vL L to toName) [(3,v_ 3 (bC L eE))] ?_)
   refine iu 5 eE br ?_
   refine gK 1 [(15,.iface 135 (vP (L.b ok)))] [] ?_
   refine NN (af.seq (SR (gK 3 [(50,.bool false)] [] ?_)))
   refine NN (CF (af.skip (NX (af.seq (SR (gK 2 [(52,.bool true)] [] ?_))))))
   refine NN (CT (af.seq (SR (gK 1 [(53,.iface 135 (vP (L.b ok)))] [] ?_))))
   refine gL [] (lT (vP (L.b ok))) ?_
   rintro _ _ ⟨rfl,rfl⟩
   refine gK 1 [(55,.bool true)] [] ?_
   refine NN (CT (SR (gK 1 [(10,vI 172)] [] ?_)))
   refine NN (af.ret (ai.ak (ai.ak ?_)))
   exact RT (vI 172) [0,1,2,3,4,5,6] (⟨L,by rw [show bH S d name to toName=(172,S) by unfold bH;rw [hlk];refine (if_neg (fun h=>absurd h.1 (by simp))).trans ?_;rw [br];exact (if_neg (fun e=>by cases e)).trans (if_pos rfl)]<;>exact⟨rfl,rfl⟩⟩)
  have kB:(obj S.O ok).kind=3:=hI.kind eG
  refine af.region (gK 5 (vL L to toName) [(3,v_ 3 (bC L eE))] ?_)
  refine iu 5 eE br ?_
  refine gK 1 [(15,.iface 132 (vP (L.b ok)))] [] ?_
  refine NN (af.seq (SR (gK 3 [(50,.bool false)] [] ?_)))
  refine NN (CF (af.skip (NX (af.seq (SR (gK 2 [(52,.bool true)] [] ?_))))))
  refine NN (CT (af.seq (SR (gK 1 [(53,.iface 132 (vP (L.b ok)))] [] ?_))))
  refine gL [] (nj (vP (L.b ok))) ?_
  rintro _ _ ⟨rfl,rfl⟩
  refine gK 1 [(55,.bool false)] [] ?_
  refine NN (CF (af.skip (NX (af.seq (SR (gK 1 [(56,.bool false)] [] ?_))))))
  refine NN (CF (af.skip (NX (af.region (gK 3 (NG f L to toName) [] ?_)))))
  refine gL [0,3,5,1] (nk S L f m t hI to hto toName oh ⟨ok,3⟩ br) ?_
  rintro _ _ ⟨rfl,rfl⟩
  refine NS ?_
  have ck:Inv (aH S to toName ⟨ok,3⟩):=hI.xS hto br (by simp)
  have hot:(⟨ok,3⟩:Th)≠⟨tk,1⟩:=fun e=>by cases e
  have hd1:Live (aH S to toName ⟨ok,3⟩).idx ⟨d,2⟩:=jq hI.toInv0 hto br hd (fun e=>by have:=gj hd eG e;cases this)
  have jD:Live (aH S to toName ⟨ok,3⟩).idx ⟨to,2⟩:=jq hI.toInv0 hto br hto (fun e=>by have:=gj hto eG e;cases this)
  have eV:aU name (obj (aH S to toName ⟨ok,3⟩).O d).ah=some ⟨tk,1⟩:=pZ hI.toInv0 hto br hlk hot
  have o4:aU toName (obj (aH S to toName ⟨ok,3⟩).O to).ah=none:=p4 hI.toInv0 hto br
  have jG:(obj (aH S to toName ⟨ok,3⟩).O d).kind=2:=ck.kind hd1
  have o5:(obj (aH S to toName ⟨ok,3⟩).O to).kind=2:=ck.kind jD
  have kx:Live (aH S to toName ⟨ok,3⟩).idx ⟨tk,1⟩:=(ck.ent hd1 eV).2
  have kz:(obj (aH S to toName ⟨ok,3⟩).O tk).kind=1:=ck.kind kx
  have Cr:(obj (aH S to toName ⟨ok,3⟩).O d).ah.length<=8192:=ck.fU hd1
  have Cs:(obj (aH S to toName ⟨ok,3⟩).O to).ah.length<=8192:=ck.fU jD
  have o6:=ck.lb kx
  have kA:tk≠d:=ck.ne hd1 eV
  refine gK 3 (E5 f L d name) [] ?_
  refine gL [0,1,2] (jr (aH S to toName ⟨ok,3⟩).X f m t ck.hX (aH S to toName ⟨ok,3⟩).O L d jG name hsz ⟨tk,1⟩ kz (by simp) eV (ck.twice hd1) (by omega) (by simp only at o6 ⊢;omega)) ?_
  rintro _ _ ⟨rfl,rfl⟩
  refine NS (gK 4 (E6 f L to toName++[(68,.iface 129 (vP (L.b tk)))]) [] ?_)
  refine gL [0,1,2] (iB { (aH S to toName ⟨ok,3⟩).X with ah:=(aH S to toName ⟨ok,3⟩).X.ah - 1 } f m t (ck.yx hd1 eV) (aR (aH S to toName ⟨ok,3⟩).X (aH S to toName ⟨ok,3⟩).O d name ⟨tk,1⟩) L to (cR.trans o5) toName oh (jP kA o4) (Nat.le_trans (lN kA) (by omega)) ⟨tk,1⟩ (cR.trans kz) (by simp) (jX ck.toInv0 hd1 eV)) ?_
  rintro _ _ ⟨rfl,rfl⟩
  refine NS (aj.dz [(5,.abs (ax (bN (di (aH S to toName ⟨ok,3⟩).X (aR (aH S to toName ⟨ok,3⟩).X (aH S to toName ⟨ok,3⟩).O d name ⟨tk,1⟩) to toName ⟨tk,1⟩) L)))] (fun w hS=>by rw [show bN (di (aH S to toName ⟨ok,3⟩).X (aR (aH S to toName ⟨ok,3⟩).X (aH S to toName ⟨ok,3⟩).O d name ⟨tk,1⟩) to toName ⟨tk,1⟩) L=bN S.O L from gS.trans (jO.trans ni)];exact hS) ?_)
  refine gK 1 [(10,vI 0)] [] ?_
  refine NN (af.ret ?_)
  exact RT (vI 0) [0,3,4,1,5,2,6] (⟨L,by rw [show bH S d name to toName=(0,mY (aH S to toName ⟨ok,3⟩) d name to toName ⟨tk,1⟩) by unfold bH;rw [hlk];refine (if_neg (fun h=>absurd h.1 (by simp))).trans ?_;rw [br];exact (if_neg (fun e=>by cases e)).trans ((if_neg (by simp)).trans (if_neg (by simp)))]<;>exact⟨rfl,rfl⟩⟩)
 ·have hkt:(obj S.O tk).kind=2:=hI.kind hlv
  refine af.region (gK 1 [] [] ?_)
  refine NS (gK 5 [(19,.map (some (L.m d))),(20,.string name)] [(3,v_ 3 (bC L hkd))] ?_)
  refine iu 5 hkd hlk ?_
  refine gK 1 [(11,.iface 135 (vP (L.b tk)))] [] ?_
  refine NN (af.seq (SR (gK 2 [(23,.bool false)] [] ?_)))
  refine NN (CF (af.skip (NX (SR (gK 7 [(12,vP (L.b tk)),(13,.bool true)] [] ?_)))))
  refine NN (af.seq (SR (gK 2 [(14,vP (L.b to))] [] ?_)))
  refine NN (af.block ?_)
  obtain⟨dp,hdp⟩:=hI.deep
  refine af.loop (ι:=(Option Nat)) (fun (x:Option Nat)=>(jA S.O tk to↔∃ z0,x=some z0/\jA S.O tk z0)/\(∀ z0,x=some z0->Live S.idx ⟨z0,2⟩)) (fun (x:Option Nat)=>wJ dp x) (fun (x:Option Nat)=>[(0,vP f),(1,vP (L.b d)),(2,.string name),(3,vP (L.b to)),(4,.string toName),(11,.iface 135 (vP (L.b tk))),(12,vP (L.b tk)),(13,.bool true),(14,(tO L x))]) (fun (x:Option Nat)=>((pA f m t L S)++[.abs R])) ((some to)) (idx:=[0,1,2,3,4,11,12,13,14]) (pk:=[0,1,2,3,4,5,6]) (show (jA S.O tk to↔∃ z0,((some to))=some z0/\jA S.O tk z0)/\(∀ z0,((some to))=some z0->Live S.idx ⟨z0,2⟩) from ⟨⟨fun h=>⟨to,rfl,h⟩,fun ⟨y,e,h⟩=>by cases e;exact h⟩,fun y e=>by cases e;exact hto⟩) (fun _=>by kernel_rfl) rfl (by kernel_rfl) ?_
  rintro x ⟨Qn,hlx⟩
  show af _ _ _ _ [(0,vP f),(1,vP (L.b d)),(2,.string name),(3,vP (L.b to)),(4,.string toName),(11,.iface 135 (vP (L.b tk))),(12,vP (L.b tk)),(13,.bool true),(14,(tO L x))] ((pA f m t L S)++[.abs R]) _
  refine af.seq (af.seq ?_)
  rcases hx:x with _|y
  ·refine af.region (gK 5 [(34,.bool false)] [] ?_)
   refine NN (CF (af.exit (ai.aX (ai.aX (ai.cV (NX (af.seq ?_)))))))
   have hnb:¬ jA S.O tk to:=fun h=>by obtain⟨y,e,_⟩:=Qn.1 h;rw [hx] at e;cases e
   rcases hI.lD hto toName with br|⟨ok,br,eG⟩|⟨ok,br,eG⟩|⟨ok,br,eG⟩
   ·refine af.region (gK 5 (vL L to toName) [(3,v_ 3 (bC L eE))] ?_)
    refine iu 5 eE br ?_
    refine gK 1 [(15,.nilIface)] [] ?_
    refine NN (af.seq (SR (gK 3 [(50,.bool false)] [] ?_)))
    refine NN (CF (af.skip (NX (af.seq (SR (gK 2 [(52,.bool false)] [] ?_))))))
    refine NN (CF (af.skip (NX (SR ?_))))
    have ck:Inv S:=hI
    have hd1:=hd
    have eV:=hlk
    have o4:=br
    have jD:=hto
    have jG:(obj S.O d).kind=2:=ck.kind hd1
    have o5:(obj S.O to).kind=2:=ck.kind jD
    have kx:Live S.idx ⟨tk,2⟩:=(ck.ent hd1 eV).2
    have kz:(obj S.O tk).kind=2:=ck.kind kx
    have Cr:(obj S.O d).ah.length<=8192:=ck.fU hd1
    have Cs:(obj S.O to).ah.length<=8192:=ck.fU jD
    have o6:=ck.lb kx
    have kA:tk≠d:=ck.ne hd1 eV
    refine gK 3 (E5 f L d name) [] ?_
    refine gL [0,3,5] (jr S.X f m t ck.hX S.O L d jG name hsz ⟨tk,2⟩ kz (by simp) eV (ck.twice hd1) (by omega) (by simp only at o6 ⊢;omega)) ?_
    rintro _ _ ⟨rfl,rfl⟩
    refine NS (gK 4 (E6 f L to toName++[(68,.iface 135 (vP (L.b tk)))]) [] ?_)
    refine gL [0,1,2] (iB { S.X with ah:=S.X.ah - 1 } f m t (ck.yx hd1 eV) (aR S.X S.O d name ⟨tk,2⟩) L to (cR.trans o5) toName oh (jP kA o4) (Nat.le_trans (lN kA) (by omega)) ⟨tk,2⟩ (cR.trans kz) (by simp) (jX ck.toInv0 hd1 eV)) ?_
    rintro _ _ ⟨rfl,rfl⟩
    refine NS (aj.dz [(5,.abs (ax (bN (di S.X (aR S.X S.O d name ⟨tk,2⟩) to toName ⟨tk,2⟩) L)))] (fun w hS=>by rw [show bN (di S.X (aR S.X S.O d name ⟨tk,2⟩) to toName ⟨tk,2⟩) L=bN S.O L from gS.trans jO];exact hS) ?_)
    refine gK 1 [(10,vI 0)] [] ?_
    refine NN (af.ret ?_)
    exact RT (vI 0) [0,3,4,1,5,2,6] (⟨L,by rw [show bH S d name to toName=(0,mY S d name to toName ⟨tk,2⟩) by unfold bH;rw [hlk];refine (if_neg (fun h=>hnb h.2)).trans ?_;rw [br]]<;>exact⟨rfl,rfl⟩⟩)
   ·have kB:(obj S.O ok).kind=1:=hI.kind eG
    refine af.region (gK 5 (vL L to toName) [(3,v_ 3 (bC L eE))] ?_)
    refine iu 5 eE br ?_
    refine gK 1 [(15,.iface 129 (vP (L.b ok)))] [] ?_
    refine NN (af.seq (SR (gK 3 [(50,.bool false)] [] ?_)))
    refine NN (CF (af.skip (NX (af.seq (SR (gK 2 [(52,.bool true)] [] ?_))))))
    refine NN (CT (af.seq (SR (gK 1 [(53,.iface 129 (vP (L.b ok)))] [] ?_))))
    refine gL [] (lS (vP (L.b ok))) ?_
    rintro _ _ ⟨rfl,rfl⟩
    refine gK 1 [(55,.bool false)] [] ?_
    refine NN (CF (af.skip (NX (af.seq (SR (gK 1 [(56,.bool true)] [] ?_))))))
    refine NN (CT (SR (gK 1 [(10,vI 173)] [] ?_)))
    refine NN (af.ret (ai.ak (ai.ak ?_)))
    exact RT (vI 173) [0,1,2,3,4,5,6] (⟨L,by rw [show bH S d name to toName=(173,S) by unfold bH;rw [hlk];refine (if_neg (fun h=>hnb h.2)).trans ?_;rw [br];exact (if_neg (fun e=>by cases e)).trans ((if_neg (by simp)).trans (if_pos rfl))]<;>exact⟨rfl,rfl⟩⟩)
   ·have kB:(obj S.O ok).kind=2:=hI.kind eG
    refine af.region (gK 5 (vL L to toName) [(3,v_ 3 (bC L eE))] ?_)
    refine iu 5 eE br ?_
    refine gK 1 [(15,.iface 135 (vP (L.b ok)))] [] ?_
    refine NN (af.seq (SR (gK 2 [(48,.iface 135 (vP (L.b ok))),(49,.iface 135 (vP (L.b tk)))] [] ?_)))
    refine aj.jf (d:=(some 50)) (op:=.binOp .eql 124 (.tmp 48) (.tmp 49) 124) (v:=.bool (decide (ok=tk))) (fun _=>by kernel_rfl) (fun o junk w ho hS=>by obtain⟨F,hF⟩:=hS.get (i:=3) rfl;exact⟨w,zn Rq ho (by kernel_rfl) (by kernel_rfl) (by rw [kB];decide) (by rw [hkt];decide) hF,hS⟩) ?_
    refine NN (af.bg (p:=ok=tk) (fun _=>by kernel_rfl) (fun h50=>?_) (fun h50=>?_))
    ·refine SR (gK 1 [(10,vI 0)] [] ?_)
     refine NN (af.ret (ai.ak ?_))
     exact RT (vI 0) [0,1,2,3,4,5,6] (⟨L,by rw [show bH S d name to toName=(0,S) by unfold bH;rw [hlk];refine (if_neg (fun h=>hnb h.2)).trans ?_;rw [br];exact if_pos (by rw [h50])]<;>exact⟨rfl,rfl⟩⟩)
    refine af.skip (NX (af.seq (SR (gK 2 [(52,.bool true)] [] ?_))))
    refine NN (CT (af.seq (SR (gK 1 [(53,.iface 135 (vP (L.b ok)))] [] ?_))))
    refine gL [] (lT (vP (L.b ok))) ?_
    rintro _ _ ⟨rfl,rfl⟩
    refine gK 1 [(55,.bool true)] [] ?_
    refine NN (CT (SR (gK 1 [(10,vI 172)] [] ?_)))
    refine NN (af.ret (ai.ak (ai.ak ?_)))
    exact RT (vI 172) [0,1,2,3,4,5,6] (⟨L,by rw [show bH S d name to toName=(172,S) by unfold bH;rw [hlk];refine (if_neg (fun h=>hnb h.2)).trans ?_;rw [br];exact (if_neg (fun e=>h50 (congrArg Th.k e))).trans (if_pos rfl)]<;>exact⟨rfl,rfl⟩⟩)
   have kB:(obj S.O ok).kind=3:=hI.kind eG
   refine af.region (gK 5 (vL L to toName) [(3,v_ 3 (bC L eE))] ?_)
   refine iu 5 eE br ?_
   refine gK 1 [(15,.iface 132 (vP (L.b ok)))] [] ?_
   refine NN (af.seq (SR (gK 3 [(50,.bool false)] [] ?_)))
   refine NN (CF (af.skip (NX (af.seq (SR (gK 2 [(52,.bool true)] [] ?_))))))
   refine NN (CT (af.seq (SR (gK 1 [(53,.iface 132 (vP (L.b ok)))] [] ?_))))
   refine gL [] (nj (vP (L.b ok))) ?_
   rintro _ _ ⟨rfl,rfl⟩
   refine gK 1 [(55,.bool false)] [] ?_
   refine NN (CF (af.skip (NX (af.seq (SR (gK 1 [(56,.bool true)] [] ?_))))))
   refine NN (CT (SR (gK 1 [(10,vI 173)] [] ?_)))
   refine NN (af.ret (ai.ak (ai.ak ?_)))
   exact RT (vI 173) [0,1,2,3,4,5,6] (⟨L,by rw [show bH S d name to toName=(173,S) by unfold bH;rw [hlk];refine (if_neg (fun h=>hnb h.2)).trans ?_;rw [br];exact (if_neg (fun e=>by cases e)).trans ((if_neg (by simp)).trans (if_pos rfl))]<;>exact⟨rfl,rfl⟩⟩)
  have hky:(obj S.O y).kind=2:=hI.kind (hlx y hx)
  refine af.region (gK 5 [(34,.bool true)] [] ?_)
  refine NN (CT (af.skip (NX (af.seq (af.block (SR ?_))))))
  refine gK 2 [(39,vP (L.b y)),(40,vP (L.b tk))] [] ?_
  refine aj.jf (d:=(some 41)) (op:=.binOp .eql 135 (.tmp 39) (.tmp 40) 135) (v:=.bool (decide (y=tk))) (fun _=>by kernel_rfl) (fun o junk w ho hS=>by obtain⟨F,hF⟩:=hS.get (i:=3) rfl;exact⟨w,JX ho (by kernel_rfl) (by kernel_rfl) (by rw [hky];decide) (by rw [hkt];decide) hF,hS⟩) ?_
  refine NN (af.bg (p:=y=tk) (fun _=>by kernel_rfl) (fun Bk=>?_) (fun Bk=>?_))
  ·refine SR (gK 1 [(10,vI 174)] [] ?_)
   refine NN (af.ret (ai.aF (ai.ak (ai.ak (ai.aF (ai.ak ?_))))))
   exact RT (vI 174) [0,1,2,3,4,5,6] (⟨L,by rw [show bH S d name to toName=(174,S) by unfold bH;rw [hlk];exact if_pos ⟨rfl,Qn.2 ⟨y,hx,by rw [Bk];exact .here⟩⟩]<;>exact⟨rfl,rfl⟩⟩)
  refine af.skip (ai.aJ (NX (af.region ?_)))
  refine gK 5 [(14,(tO L (obj S.O y).up))] [(3,v_ 3 (Ty L hky))] ?_
  refine NL ?_
  exact ai.turn (((obj S.O y).up)) (idx:=[0,1,2,3,4,11,12,13,14]) (pk:=[0,1,2,3,4,5,6]) (show (jA S.O tk to↔∃ z0,(((obj S.O y).up))=some z0/\jA S.O tk z0)/\(∀ z0,(((obj S.O y).up))=some z0->Live S.idx ⟨z0,2⟩) from ⟨Qn.trans ⟨fun ⟨y2,e,h⟩=>by rw [hx] at e;cases e;exact (Az Bk).1 h,fun h=>⟨y,hx,(Az Bk).2 h⟩⟩,fun z e=>((hI.up ⟨y,2⟩ (hlx y hx) z).1 e).2.1⟩) (by show wJ dp (((obj S.O y).up)) < wJ dp (some y);exact J0 hdp) (fun _=>by kernel_rfl) rfl (by kernel_rfl)
 have hkt:(obj S.O tk).kind=3:=hI.kind hlv
 refine af.region (gK 1 [] [] ?_)
 refine NS (gK 5 [(19,.map (some (L.m d))),(20,.string name)] [(3,v_ 3 (bC L hkd))] ?_)
 refine iu 5 hkd hlk ?_
 refine gK 1 [(11,.iface 132 (vP (L.b tk)))] [] ?_
 refine NN (af.seq (SR (gK 2 [(23,.bool false)] [] ?_)))
 refine NN (CF (af.skip (NX (SR (gK 7 [(12,.pointer none),(13,.bool false)] [] ?_)))))
 refine NN (af.seq (SR (gK 2 [(14,vP (L.b to))] [] ?_)))
 refine NN (af.block ?_)
 refine af.loop (ι:=Unit) (fun (u:Unit)=>True) (fun (u:Unit)=>0) (fun (u:Unit)=>(E4 f L d name++NI L to toName++[(11,.iface 132 (vP (L.b tk)))]++NH L to)) (fun (u:Unit)=>((pA f m t L S)++[.abs R])) () (idx:=[0,1,2,3,4,11,12,13,14]) (pk:=[0,1,2,3,4,5,6]) (show True from trivial) (fun _=>by kernel_rfl) rfl (by kernel_rfl) ?_
 rintro u _
 show af _ _ _ _ (E4 f L d name++NI L to toName++[(11,.iface 132 (vP (L.b tk)))]++NH L to) ((pA f m t L S)++[.abs R]) _
 refine af.seq (SR (gK 5 [(34,.bool false)] [] ?_))
 refine NN (CF (af.exit (ai.aX (ai.aX (ai.cV (NX (af.seq ?_)))))))
 skip
 rcases hI.lD hto toName with br|⟨ok,br,eG⟩|⟨ok,br,eG⟩|⟨ok,br,eG⟩
 ·refine af.region (gK 5 (vL L to toName) [(3,v_ 3 (bC L eE))] ?_)
  refine iu 5 eE br ?_
  refine gK 1 [(15,.nilIface)] [] ?_
  refine NN (af.seq (SR (gK 3 [(50,.bool false)] [] ?_)))
  refine NN (CF (af.skip (NX (af.seq (SR (gK 2 [(52,.bool false)] [] ?_))))))
  refine NN (CF (af.skip (NX (SR ?_))))
  have ck:Inv S:=hI
  have hd1:=hd
  have eV:=hlk
  have o4:=br
  have jD:=hto
  have jG:(obj S.O d).kind=2:=ck.kind hd1
  have o5:(obj S.O to).kind=2:=ck.kind jD
  have kx:Live S.idx ⟨tk,3⟩:=(ck.ent hd1 eV).2
  have kz:(obj S.O tk).kind=3:=ck.kind kx
  have Cr:(obj S.O d).ah.length<=8192:=ck.fU hd1
  have Cs:(obj S.O to).ah.length<=8192:=ck.fU jD
  have o6:=ck.lb kx
  have kA:tk≠d:=ck.ne hd1 eV
  refine gK 3 (E5 f L d name) [] ?_
  refine gL [0,3,5] (jr S.X f m t ck.hX S.O L d jG name hsz ⟨tk,3⟩ kz (by simp) eV (ck.twice hd1) (by omega) (by simp only at o6 ⊢;omega)) ?_
  rintro _ _ ⟨rfl,rfl⟩
  refine NS (gK 4 (E6 f L to toName++[(68,.iface 132 (vP (L.b tk)))]) [] ?_)
  refine gL [0,1,2] (iB { S.X with ah:=S.X.ah - 1 } f m t (ck.yx hd1 eV) (aR S.X S.O d name ⟨tk,3⟩) L to (cR.trans o5) toName oh (jP kA o4) (Nat.le_trans (lN kA) (by omega)) ⟨tk,3⟩ (cR.trans kz) (by simp) (jX ck.toInv0 hd1 eV)) ?_
  rintro _ _ ⟨rfl,rfl⟩
  refine NS (aj.dz [(5,.abs (ax (bN (di S.X (aR S.X S.O d name ⟨tk,3⟩) to toName ⟨tk,3⟩) L)))] (fun w hS=>by rw [show bN (di S.X (aR S.X S.O d name ⟨tk,3⟩) to toName ⟨tk,3⟩) L=bN S.O L from gS.trans jO];exact hS) ?_)
  refine gK 1 [(10,vI 0)] [] ?_
  refine NN (af.ret ?_)
  exact RT (vI 0) [0,3,4,1,5,2,6] (⟨L,by rw [show bH S d name to toName=(0,mY S d name to toName ⟨tk,3⟩) by unfold bH;rw [hlk];refine (if_neg (fun h=>absurd h.1 (by simp))).trans ?_;rw [br]]<;>exact⟨rfl,rfl⟩⟩)
 ·have kB:(obj S.O ok).kind=1:=hI.kind eG
  refine af.region (gK 5 (vL L to toName) [(3,v_ 3 (bC L eE))] ?_)
  refine iu 5 eE br ?_
  refine gK 1 [(15,.iface 129 (vP (L.b ok)))] [] ?_
  refine NN (af.seq (SR (gK 3 [(50,.bool false)] [] ?_)))
  refine NN (CF (af.skip (NX (af.seq (SR (gK 2 [(52,.bool true)] [] ?_))))))
  refine NN (CT (af.seq (SR (gK 1 [(53,.iface 129 (vP (L.b ok)))] [] ?_))))
  refine gL [] (lS (vP (L.b ok))) ?_
  rintro _ _ ⟨rfl,rfl⟩
  refine gK 1 [(55,.bool false)] [] ?_
  refine NN (CF (af.skip (NX (af.seq (SR (gK 1 [(56,.bool false)] [] ?_))))))
  refine NN (CF (af.skip (NX (af.region (gK 3 (NG f L to toName) [] ?_)))))
  refine gL [0,3,5,1] (nk S L f m t hI to hto toName oh ⟨ok,1⟩ br) ?_
  rintro _ _ ⟨rfl,rfl⟩
  refine NS ?_
  have ck:Inv (aH S to toName ⟨ok,1⟩):=hI.xS hto br (by simp)
  have hot:(⟨ok,1⟩:Th)≠⟨tk,3⟩:=fun e=>by cases e
  have hd1:Live (aH S to toName ⟨ok,1⟩).idx ⟨d,2⟩:=jq hI.toInv0 hto br hd (fun e=>by have:=gj hd eG e;cases this)
  have jD:Live (aH S to toName ⟨ok,1⟩).idx ⟨to,2⟩:=jq hI.toInv0 hto br hto (fun e=>by have:=gj hto eG e;cases this)
  have eV:aU name (obj (aH S to toName ⟨ok,1⟩).O d).ah=some ⟨tk,3⟩:=pZ hI.toInv0 hto br hlk hot
  have o4:aU toName (obj (aH S to toName ⟨ok,1⟩).O to).ah=none:=p4 hI.toInv0 hto br
  have jG:(obj (aH S to toName ⟨ok,1⟩).O d).kind=2:=ck.kind hd1
  have o5:(obj (aH S to toName ⟨ok,1⟩).O to).kind=2:=ck.kind jD
  have kx:Live (aH S to toName ⟨ok,1⟩).idx ⟨tk,3⟩:=(ck.ent hd1 eV).2
  have kz:(obj (aH S to toName ⟨ok,1⟩).O tk).kind=3:=ck.kind kx
  have Cr:(obj (aH S to toName ⟨ok,1⟩).O d).ah.length<=8192:=ck.fU hd1
  have Cs:(obj (aH S to toName ⟨ok,1⟩).O to).ah.length<=8192:=ck.fU jD
  have o6:=ck.lb kx
  have kA:tk≠d:=ck.ne hd1 eV
  refine gK 3 (E5 f L d name) [] ?_
  refine gL [0,1,2] (jr (aH S to toName ⟨ok,1⟩).X f m t ck.hX (aH S to toName ⟨ok,1⟩).O L d jG name hsz ⟨tk,3⟩ kz (by simp) eV (ck.twice hd1) (by omega) (by simp only at o6 ⊢;omega)) ?_
  rintro _ _ ⟨rfl,rfl⟩
  refine NS (gK 4 (E6 f L to toName++[(68,.iface 132 (vP (L.b tk)))]) [] ?_)
  refine gL [0,1,2] (iB { (aH S to toName ⟨ok,1⟩).X with ah:=(aH S to toName ⟨ok,1⟩).X.ah - 1 } f m t (ck.yx hd1 eV) (aR (aH S to toName ⟨ok,1⟩).X (aH S to toName ⟨ok,1⟩).O d name ⟨tk,3⟩) L to (cR.trans o5) toName oh (jP kA o4) (Nat.le_trans (lN kA) (by omega)) ⟨tk,3⟩ (cR.trans kz) (by simp) (jX ck.toInv0 hd1 eV)) ?_
  rintro _ _ ⟨rfl,rfl⟩
  refine NS (aj.dz [(5,.abs (ax (bN (di (aH S to toName ⟨ok,1⟩).X (aR (aH S to toName ⟨ok,1⟩).X (aH S to toName ⟨ok,1⟩).O d name ⟨tk,3⟩) to toName ⟨tk,3⟩) L)))] (fun w hS=>by rw [show bN (di (aH S to toName ⟨ok,1⟩).X (aR (aH S to toName ⟨ok,1⟩).X (aH S to toName ⟨ok,1⟩).O d name ⟨tk,3⟩) to toName ⟨tk,3⟩) L=bN S.O L from gS.trans (jO.trans ni)];exact hS) ?_)
  refine gK 1 [(10,vI 0)] [] ?_
  refine NN (af.ret ?_)
  exact RT (vI 0) [0,3,4,1,5,2,6] (⟨L,by rw [show bH S d name to toName=(0,mY (aH S to toName ⟨ok,1⟩) d name to toName ⟨tk,3⟩) by unfold bH;rw [hlk];refine (if_neg (fun h=>absurd h.1 (by simp))).trans ?_;rw [br];exact (if_neg (fun e=>by cases e)).trans ((if_neg (by simp)).trans (if_neg (by simp)))]<;>exact⟨rfl,rfl⟩⟩)
 ·have kB:(obj S.O ok).kind=2:=hI.kind eG
  refine af.region (gK 5 (vL L to toName) [(3,v_ 3 (bC L eE))] ?_)
  refine iu 5 eE br ?_
  refine gK 1 [(15,.iface 135 (vP (L.b ok)))] [] ?_
  refine NN (af.seq (SR (gK 3 [(50,.bool false)] [] ?_)))
  refine NN (CF (af.skip (NX (af.seq (SR (gK 2 [(52,.bool true)] [] ?_))))))
  refine NN (CT (af.seq (SR (gK 1 [(53,.iface 135 (vP (L.b ok)))] [] ?_))))
  refine gL [] (lT (vP (L.b ok))) ?_
  rintro _ _ ⟨rfl,rfl⟩
  refine gK 1 [(55,.bool true)] [] ?_
  refine NN (CT (SR (gK 1 [(10,vI 172)] [] ?_)))
  refine NN (af.ret (ai.ak (ai.ak ?_)))
  exact RT (vI 172) [0,1,2,3,4,5,6] (⟨L,by rw [show bH S d name to toName=(172,S) by unfold bH;rw [hlk];refine (if_neg (fun h=>absurd h.1 (by simp))).trans ?_;rw [br];exact (if_neg (fun e=>by cases e)).trans (if_pos rfl)]<;>exact⟨rfl,rfl⟩⟩)
 have kB:(obj S.O ok).kind=3:=hI.kind eG
 refine af.region (gK 5 (vL L to toName) [(3,v_ 3 (bC L eE))] ?_)
 refine iu 5 eE br ?_
 refine gK 1 [(15,.iface 132 (vP (L.b ok)))] [] ?_
 refine NN (af.seq (SR (gK 2 [(48,.iface 132 (vP (L.b ok))),(49,.iface 132 (vP (L.b tk)))] [] ?_)))
 refine aj.jf (d:=(some 50)) (op:=.binOp .eql 124 (.tmp 48) (.tmp 49) 124) (v:=.bool (decide (ok=tk))) (fun _=>by kernel_rfl) (fun o junk w ho hS=>by obtain⟨F,hF⟩:=hS.get (i:=3) rfl;exact⟨w,zn PI ho (by kernel_rfl) (by kernel_rfl) (by rw [kB];decide) (by rw [hkt];decide) hF,hS⟩) ?_
 refine NN (af.bg (p:=ok=tk) (fun _=>by kernel_rfl) (fun h50=>?_) (fun h50=>?_))
 ·refine SR (gK 1 [(10,vI 0)] [] ?_)
  refine NN (af.ret (ai.ak ?_))
  exact RT (vI 0) [0,1,2,3,4,5,6] (⟨L,by rw [show bH S d name to toName=(0,S) by unfold bH;rw [hlk];refine (if_neg (fun h=>absurd h.1 (by simp))).trans ?_;rw [br];exact if_pos (by rw [h50])]<;>exact⟨rfl,rfl⟩⟩)
 refine af.skip (NX (af.seq (SR (gK 2 [(52,.bool true)] [] ?_))))
 refine NN (CT (af.seq (SR (gK 1 [(53,.iface 132 (vP (L.b ok)))] [] ?_))))
 refine gL [] (nj (vP (L.b ok))) ?_
 rintro _ _ ⟨rfl,rfl⟩
 refine gK 1 [(55,.bool false)] [] ?_
 refine NN (CF (af.skip (NX (af.seq (SR (gK 1 [(56,.bool false)] [] ?_))))))
 refine NN (CF (af.skip (NX (af.region (gK 3 (NG f L to toName) [] ?_)))))
 refine gL [0,3,5,1] (nk S L f m t hI to hto toName oh ⟨ok,3⟩ br) ?_
 rintro _ _ ⟨rfl,rfl⟩
 refine NS ?_
 have ck:Inv (aH S to toName ⟨ok,3⟩):=hI.xS hto br (by simp)
 have hot:(⟨ok,3⟩:Th)≠⟨tk,3⟩:=fun e=>h50 (congrArg Th.k e)
 have hd1:Live (aH S to toName ⟨ok,3⟩).idx ⟨d,2⟩:=jq hI.toInv0 hto br hd (fun e=>by have:=gj hd eG e;cases this)
 have jD:Live (aH S to toName ⟨ok,3⟩).idx ⟨to,2⟩:=jq hI.toInv0 hto br hto (fun e=>by have:=gj hto eG e;cases this)
 have eV:aU name (obj (aH S to toName ⟨ok,3⟩).O d).ah=some ⟨tk,3⟩:=pZ hI.toInv0 hto br hlk hot
 have o4:aU toName (obj (aH S to toName ⟨ok,3⟩).O to).ah=none:=p4 hI.toInv0 hto br
 have jG:(obj (aH S to toName ⟨ok,3⟩).O d).kind=2:=ck.kind hd1
 have o5:(obj (aH S to toName ⟨ok,3⟩).O to).kind=2:=ck.kind jD
 have kx:Live (aH S to toName ⟨ok,3⟩).idx ⟨tk,3⟩:=(ck.ent hd1 eV).2
 have kz:(obj (aH S to toName ⟨ok,3⟩).O tk).kind=3:=ck.kind kx
 have Cr:(obj (aH S to toName ⟨ok,3⟩).O d).ah.length<=8192:=ck.fU hd1
 have Cs:(obj (aH S to toName ⟨ok,3⟩).O to).ah.length<=8192:=ck.fU jD
 have o6:=ck.lb kx
 have kA:tk≠d:=ck.ne hd1 eV
 refine gK 3 (E5 f L d name) [] ?_
 refine gL [0,1,2] (jr (aH S to toName ⟨ok,3⟩).X f m t ck.hX (aH S to toName ⟨ok,3⟩).O L d jG name hsz ⟨tk,3⟩ kz (by simp) eV (ck.twice hd1) (by omega) (by simp only at o6 ⊢;omega)) ?_
 rintro _ _ ⟨rfl,rfl⟩
 refine NS (gK 4 (E6 f L to toName++[(68,.iface 132 (vP (L.b tk)))]) [] ?_)
 refine gL [0,1,2] (iB { (aH S to toName ⟨ok,3⟩).X with ah:=(aH S to toName ⟨ok,3⟩).X.ah - 1 } f m t (ck.yx hd1 eV) (aR (aH S to toName ⟨ok,3⟩).X (aH S to toName ⟨ok,3⟩).O d name ⟨tk,3⟩) L to (cR.trans o5) toName oh (jP kA o4) (Nat.le_trans (lN kA) (by omega)) ⟨tk,3⟩ (cR.trans kz) (by simp) (jX ck.toInv0 hd1 eV)) ?_
 rintro _ _ ⟨rfl,rfl⟩
 refine NS (aj.dz [(5,.abs (ax (bN (di (aH S to toName ⟨ok,3⟩).X (aR (aH S to toName ⟨ok,3⟩).X (aH S to toName ⟨ok,3⟩).O d name ⟨tk,3⟩) to toName ⟨tk,3⟩) L)))] (fun w hS=>by rw [show bN (di (aH S to toName ⟨ok,3⟩).X (aR (aH S to toName ⟨ok,3⟩).X (aH S to toName ⟨ok,3⟩).O d name ⟨tk,3⟩) to toName ⟨tk,3⟩) L=bN S.O L from gS.trans (jO.trans ni)];exact hS) ?_)
 refine gK 1 [(10,vI 0)] [] ?_
 refine NN (af.ret ?_)
 exact RT (vI 0) [0,3,4,1,5,2,6] (⟨L,by rw [show bH S d name to toName=(0,mY (aH S to toName ⟨ok,3⟩) d name to toName ⟨tk,3⟩) by unfold bH;rw [hlk];refine (if_neg (fun h=>absurd h.1 (by simp))).trans ?_;rw [br];exact (if_neg (fun e=>h50 (congrArg Th.k e))).trans ((if_neg (by simp)).trans (if_neg (by simp)))]<;>exact⟨rfl,rfl⟩⟩)
end
section
open Go.RowKit Go.Maps bL aB
attribute [local irreducible] aj aP af ai
abbrev Sb (S:aG) (L:HL) (k:Nat):=(.abs (ax (jU (bN S.O L) k cA.none)):HP)
abbrev Qo (A1:Option Addr) (S:aG) (k:Nat) (bs:List UInt8) (c2:Nat):=(.abs (aE 5 1 A1 (((obj S.O k).data++bs.take (bp S.X bs.length)).length) c2 (bX ((obj S.O k).data++bs.take (bp S.X bs.length)))):HP)
abbrev Ky (f:Nat) (m:Nat) (t) (S:aG) (L:HL) (k:Nat) (R:cA):=([pF f m t S.X,pI m L S.idx,pT t S.X.cH S.av L S.us,pO S.O L,Sb S L k,pE S.O L,.abs R]:List HP)
theorem Di {β:Bs} (S:aG) (L:HL) (f m t:Nat) (hI:Inv S) (k:Nat) (hk:Live S.idx ⟨k,1⟩) (A:Option Addr) (c:Nat) (bs:List UInt8) (hA:bD β A bs) (hbl:bs.length<=1099511627776) (hbc:bs.length<=c) :
    Spec Tryz.prog β 133 #[vP f,vP (L.b k),.slice A (bs.length) (c)] (pA f m t L S) (fun v l=>∃ L2,v=.tuple #[vI (dO S k bs).1,vI (dO S k bs).2.1]/\l=(pA f m t L2 ((dO S k bs).2.2))):=by
 have hX:=hI.hX
 have hkk:(obj S.O k).kind=1:=hI.kind hk
 have VX:((obj S.O k).data.length:Int)<=S.X.used:=hI.Ru hk
 have hcB:=hI.cB
 refine Spec.enter Tryz.func133 rfl Tryz.ntmps133 (Nat.le_of_ble_eq_true rfl) (fun R=>?_)
 refine SR (gK 2 [] [] ?_)
 refine NN (af.seq (SR (gK 3 [(12,.bool (decide ((((bs.length:Nat):Int):Int)=(0:Int))))] [] ?_)))
 refine NN (af.bg (p:=(((bs.length:Nat):Int):Int)=(0:Int)) (fun _=>by kernel_rfl) (fun h12=>?_) (fun h12=>?_))
 ·have he:bs=[]:=List.eq_nil_of_length_eq_zero (by omega)
  refine SR (gK 2 [(6,vI 0),(7,vI 0)] [] ?_)
  refine NN (af.ret (ai.ak ?_))
  exact RT (.tuple #[vI 0,vI 0]) [0,1,2,3,4,5,6] (⟨L,by rw [show dO S k bs=(0,0,S) from if_pos he]<;>exact⟨rfl,rfl⟩⟩)
 have hlen:0 < bs.length:=by omega
 refine af.skip (NX (af.seq (af.bI (by kernel_rfl) (by kernel_rfl) ?_)))
 refine gQ 11 [(8,vI (S.X.cB - S.X.used))] [(4,a_ 0 f),(8,a_ 0 f),(9,p_ ⟨[],none,none,none,some (vI (S.X.cB - S.X.used))⟩ [(Value.int .i64 (IntKind.wrap .i64 (S.X.cB - S.X.used)))=(.int .i64 (S.X.cB - S.X.used))] ⟨bw (by omega) (by omega) (by omega),trivial⟩)] ?_
 refine NQ (NX (af.seq (SR ?_)))
 refine gK 2 [(24,.bool (decide ((S.X.cB - S.X.used:Int)<=(0:Int))))] [] ?_
 refine NN (af.bg (p:=(S.X.cB - S.X.used:Int)<=(0:Int)) (fun _=>by kernel_rfl) (fun Bl=>?_) (fun Bl=>?_))
 ·refine SR (gK 2 [(6,vI 0),(7,vI 176)] [] ?_)
  refine NN (af.ret (ai.ak ?_))
  exact RT (.tuple #[vI 0,vI 176]) [0,1,2,3,4,5,6] (⟨L,by rw [show dO S k bs=(0,176,S) from (if_neg (fun e=>by rw [e] at hlen;exact absurd hlen (by simp))).trans (if_pos Bl)]<;>exact⟨rfl,rfl⟩⟩)
 refine af.skip (NX (SR (gK 4 [(28,vI (min ((bs.length:Nat):Int) (S.X.cB - S.X.used)))] [(3,p_ ⟨[],none,none,none,some (vI (min ((bs.length:Nat):Int) (S.X.cB - S.X.used)))⟩ [(Value.int .i64 (if S.X.cB - S.X.used < ((bs.length:Nat):Int) then S.X.cB - S.X.used else ((bs.length:Nat):Int)))=(.int .i64 (min ((bs.length:Nat):Int) (S.X.cB - S.X.used)))] ⟨congrArg (Value.int .i64) (Nk _ _),trivial⟩)] ?_)))
 refine aj.slot 28 (.int .i64 (min ((bs.length:Nat):Int) (S.X.cB - S.X.used))) (.int .i64 ↑(bp S.X bs.length)) (fun _=>by kernel_rfl) (congrArg (Value.int .i64) (J1 (by omega))) ?_
 refine gK 1 [(9,vI ↑(bp S.X bs.length))] [] ?_
 refine NN (af.seq ?_)
 have hwl:=J2 (X:=S.X) (n:=bs.length) (by omega)
 refine af.mem (cL:=(Ky f m t S L k R++[.abs (aE 5 1 (L.dA k) ((obj S.O k).data.length) (L.dC k) (bX (obj S.O k).data))])) (fun w hS=>hS.JD (i:=4) (k:=k) rfl hkk) ?_
 refine af.bR (S:=(Ky f m t S L k R)) [0,1,2,3,4,5,6,7,8,9,10,11] 8 [0,1,2,3,4,5,6] (by kernel_rfl) (by kernel_rfl) rfl (by kernel_rfl) ?_
 refine gR 0 [8,9,10,11] [(0,vP f),(1,vP (L.b k)),(9,vI ↑(bp S.X bs.length)),(29,vP (L.b k)),(33,.slice (L.dA k) ((obj S.O k).data.length) ((L.dC k))),(36,.slice A ((bp S.X bs.length)) (c))] [0,1,2,3,4,5,6,7] [(4,v_ 3 (EV L hkk)),(7,p_ ⟨[],some (bp S.X bs.length),none,none,none⟩ [(((bp S.X bs.length):Nat):Int)=(((bp S.X bs.length):Nat):Int),(bp S.X bs.length)<=c] ⟨rfl,by omega,trivial⟩)] ?_
 refine aK.cut (ι:=(Option Addr)×Nat) (fr':=fun ((A1,c2):(Option Addr)×Nat)=>[(0,vP f),(1,vP (L.b k)),(9,vI ↑(bp S.X bs.length)),(29,vP (L.b k)),(37,.slice A1 (((obj S.O k).data++bs.take (bp S.X bs.length)).length) (c2))]) (hp':=fun ((A1,c2):(Option Addr)×Nat)=>(Ky f m t S L k R++[Qo A1 S k bs c2])) [0,1,2,3,4,5,6] rfl rfl ?_ rfl (fun _=>by kernel_rfl) ?_
 ·refine aj.append 7 (d:=(some 37)) (t:=46) (e:=5) (z:=.int .u8 0) (size:=1) (bytes:=1) (n:=(obj S.O k).data.length) (cap:=(L.dC k)) (A:=(L.dA k)) (xs:=(bX (obj S.O k).data)) (s:=(.tmp 33)) (x:=(.tmp 36)) (ats:=#[46,46]) (A':=A) (m:=(bp S.X bs.length)) (c':=c) (news:=(bX (bs.take (bp S.X bs.length)))) (fun _=>by kernel_rfl) rfl (by kernel_rfl) (fun _=>by kernel_rfl) (fun _=>by kernel_rfl) Tryz.underlying46 (by kernel_rfl) rfl (by decide) (by rw [qD,List.length_take,Nat.min_eq_left hwl.1,Nat.mul_one]) (mW (bs.take (bp S.X bs.length))) ((hA.take (bp S.X bs.length)).src) (by unfold maxLen;omega) (by omega) (fun A1 c2=>?_)
  refine aj.dr 7 (p:=.abs (aE 5 1 A1 (((obj S.O k).data.length)+(bp S.X bs.length)) c2 ((bX (obj S.O k).data)++(bX (bs.take (bp S.X bs.length)))))) (p':=.abs (aE 5 1 A1 (((obj S.O k).data++bs.take (bp S.X bs.length)).length) c2 (bX ((obj S.O k).data++bs.take (bp S.X bs.length))))) (by kernel_rfl) (by rw [Ig,List.length_append,List.length_take,Nat.min_eq_left hwl.1]) ?_
  refine aj.slot 37 (.slice A1 (((obj S.O k).data.length)+(bp S.X bs.length)) (c2)) (.slice A1 (((obj S.O k).data++bs.take (bp S.X bs.length)).length) (c2)) (fun _=>by kernel_rfl) (by rw [List.length_append,List.length_take,Nat.min_eq_left hwl.1]) ?_
  refine NL ?_
  exact MD (A1,c2) [0,1,9,29,37] [0,1,2,3,4,5,6,7]
 rintro⟨A1,c2⟩
 refine aK.cut (ι:=Unit) (fr':=fun (_:Unit)=>[(0,vP f),(1,vP (L.b k)),(9,vI ↑(bp S.X bs.length)),(37,.slice A1 (((obj S.O k).data++bs.take (bp S.X bs.length)).length) (c2)),(38,vP (L.b k))]) (hp':=fun (_:Unit)=>(Ky f m t S L k R++[Qo A1 S k bs c2])) [0,1,2,3,4,5,6] rfl rfl ?_ rfl (fun _=>by kernel_rfl) ?_
 ·refine gK 1 [(38,vP (L.b k))] [] ?_
  refine NL ?_
  exact MD () [0,1,9,37,38] [0,1,2,3,4,5,6,7]
 rintro _
 refine aK.cut (ι:=Unit) (fr':=fun (_:Unit)=>[(0,vP f),(1,vP (L.b k)),(9,vI ↑(bp S.X bs.length)),(37,.slice A1 (((obj S.O k).data++bs.take (bp S.X bs.length)).length) (c2)),(39,.pointer (some ⟨(L.b k),9,none⟩))]) (hp':=fun (_:Unit)=>(Ky f m t S L k R++[Qo A1 S k bs c2])) [0,1,2,3,4,5,6] rfl rfl ?_ rfl (fun _=>by kernel_rfl) ?_
 ·refine gK 1 [(39,.pointer (some ⟨(L.b k),9,none⟩))] [] ?_
  refine NL ?_
  exact MD () [0,1,9,37,39] [0,1,2,3,4,5,6,7]
 rintro _
 refine aK.last rfl rfl ?_
 refine aj.mem (fun w hS=>hS.wo (i:=3) (k:=k) rfl (by rw [hkk];decide) (gM (hkk)) (congrArg jV (hkk))) ?_
 refine gC 1 [] [(0,a_ 8 (L.b k))] [(8,[(9,.slice A1 (((obj S.O k).data++bs.take (bp S.X bs.length)).length) (c2))])] ?_
 obtain⟨L2,hL2⟩:∃ L2:HL,L2=L.data k A1 c2:=⟨_,rfl⟩
 refine aj.mem (cL:=[.abs (ax (bM (ay S.O k (fun o=>{ o with data:=o.data++bs.take (bp S.X bs.length) })) L2)),.blk f [vI (S.X.cN),vI (S.X.cB),vI (S.X.cH),vI (S.X.cS),vI (S.X.cZ),.map (some m),vP t,vI (S.X.last),vI (S.X.ah),vI (S.X.used)] 126,.abs (aL Tryz.prog 3 m (bh (bn L S.idx)) S.idx.length),.abs (cM 197 t S.X.cH S.av (bn L S.us)),.abs (ax (jU (bN S.O L) k cA.none)),.abs (ax (cG S.O L)),.abs R,.abs (aE 5 1 A1 (((obj S.O k).data++bs.take (bp S.X bs.length)).length) c2 (bX ((obj S.O k).data++bs.take (bp S.X bs.length))))]) (fun w hS=>hS.PO hL2 (f:=(fun o=>{ o with data:=o.data++bs.take (bp S.X bs.length) })) (i:=3) (j:=8) (ix:=[0,1,2,4,5,6,7]) rfl rfl (by kernel_rfl) rfl (by show (obj S.O k).kind≠0;rw [hkk];decide) ((gM (L:=L2) (k:=k) (o:=(fun o=>{ o with data:=o.data++bs.take (bp S.X bs.length) }) (obj S.O k)) hkk).trans (by rw [GI hL2,GJ hL2]<;>rfl)) (by show jV (obj S.O k).kind=_;rw [hkk]<;>rfl)) ?_
 refine aj.mem (cL:=[pD (ay S.O k (fun o=>{ o with data:=o.data++bs.take (bp S.X bs.length) })) L2,pO (ay S.O k (fun o=>{ o with data:=o.data++bs.take (bp S.X bs.length) })) L2,pF f m t S.X,pI m L S.idx,pT t S.X.cH S.av L S.us,pE S.O L,.abs R]) (fun w hS=>hS.PS hL2 (f:=(fun o=>{ o with data:=o.data++bs.take (bp S.X bs.length) })) (i:=4) (j:=7) (ix:=[0,1,2,3,5,6]) rfl rfl (by kernel_rfl) rfl hkk rfl rfl) ?_
 refine aj.dz [(3,.abs (aL Tryz.prog 3 m (bh (bn L2 S.idx)) S.idx.length)),(4,.abs (cM 197 t S.X.cH S.av (bn L2 S.us))),(5,.abs (ax (cG (ay S.O k (fun o=>{ o with data:=o.data++bs.take (bp S.X bs.length) })) L2)))] (fun w hS=>by rw [EC hL2,EC hL2,show cG (ay S.O k (fun o=>{ o with data:=o.data++bs.take (bp S.X bs.length) })) L2=cG S.O L from (mr (O:=S.O) (k:=k) (f:=(fun o=>{ o with data:=o.data++bs.take (bp S.X bs.length) })) rfl rfl).trans (LW hL2)];exact hS) ?_
 have Cq:(obj (ay S.O k (fun o=>{ o with data:=o.data++bs.take (bp S.X bs.length) })) k).kind=1:=(jw (f:=(fun o=>{ o with data:=o.data++bs.take (bp S.X bs.length) })) (fun _=>rfl)).trans hkk
 have hbk:L2.b k=L.b k:=J3 hL2
 generalize cq:(ay S.O k (fun o=>{ o with data:=o.data++bs.take (bp S.X bs.length) }))=cF at Cq ⊢
 refine NL (ai.np (NX (SR ?_)))
 refine gK 1 [(40,vP (L.b k))] [] ?_
 refine aj.slot 40 (vP (L.b k)) (vP (L2.b k)) (fun _=>by kernel_rfl) (by rw [hbk]) ?_
 refine gK 8 [(45,.agg #[vI (S.X.cS),vI (S.X.cZ)]),(48,.pointer (some ⟨(L2.b k),4,none⟩))] [(4,A_ 2 f 2)] ?_
 refine Kr 1 [(5,1),(0,2)] k S.X.cS S.X.cZ Cq (fun d6 dw=>?_)
 have wU:=ku dw Cq
 refine NS (gC 9 [] [(3,a_ 2 f),(5,p_ ⟨[],none,none,none,some (vI (S.X.used+(((bp S.X bs.length):Nat):Int)))⟩ [(Value.int .i64 (IntKind.wrap .i64 (S.X.used+(((bp S.X bs.length):Nat):Int))))=(.int .i64 (S.X.used+(((bp S.X bs.length):Nat):Int)))] ⟨bw (by omega) (by omega) (by omega),trivial⟩),(8,a_ 2 f)] [(2,[(9,vI (S.X.used+(((bp S.X bs.length):Nat):Int)))])] ?_)
 refine NS (gK 3 [(6,vI ↑(bp S.X bs.length)),(7,vI 0)] [] ?_)
 refine NN (af.ret ?_)
 exact RT (l:=[pF f m t { S.X with used:=S.X.used+(((bp S.X bs.length):Nat):Int) },pI m L2 S.idx,pT t S.X.cH S.av L2 S.us,pO d6 L2,pD d6 L2,pE d6 L2]) (.tuple #[vI ↑(bp S.X bs.length),vI 0]) [2,3,4,1,0,5,6] (⟨L2,by subst dw;subst cq;rw [show dO S k bs=_ from (if_neg (fun e=>by rw [e] at hlen;exact absurd hlen (by simp))).trans (if_neg Bl)];exact⟨rfl,by rw [sF]⟩⟩)
end
section
open Go.RowKit Go.Maps bL aB
attribute [local irreducible] aj aP af ai
abbrev jQ (t)(S:aG) (L:HL):=(pT t S.X.cH S.av L S.us:HP)
abbrev nO (m:Nat) (L:HL) (S:aG) (cb:Nat) (c) (R:cA):=([pI m L S.idx,pD S.O L,pE S.O L,pC cb c,.abs R]:List HP)
abbrev NJ (f:Nat) (c:aD):=([(8,vP f),(12,vI (c.handle)),(16,.string c.name)]:Fr)
abbrev E7 (L:HL) (d:Nat):=([(5,vP (L.b d)),(6,vI 0)]:Fr)
abbrev Qp (f:Nat) (L:HL) (d:Nat) (c:aD):=([(23,vP f),(24,vP (L.b d)),(28,.string c.name)]:Fr)
abbrev oF (f:Nat) (m:Nat) (t) (S:aG) (L:HL):=([pF f m t S.X,jQ t S L,pO S.O L]:List HP)
abbrev Kz (e):=([(5,.pointer none),(6,vI (e))]:Fr)
theorem iC {β:Bs} (S:aG) (L:HL) (f m t:Nat) (hI:Inv S) (cb:Nat) (c:aD) (hC:fQ β c) :
    Spec Tryz.prog β 122 #[vP f,vP cb] ((pA f m t L S)++[pC cb c]) (fun v l=>v=Tp L (fO S.O S.us c)/\l=((pA f m t L S)++[pC cb c])):=by
 refine Spec.enter Tryz.func122 rfl Tryz.ntmps122 (Nat.le_of_ble_eq_true rfl) (fun R=>?_)
 refine SR (gK 2 [] [] ?_)
 refine NN (af.seq (af.bI (by kernel_rfl) (by kernel_rfl) ?_))
 refine gQ 9 [(10,vP f),(14,vI (c.handle)),(18,.string c.name)] [(4,a_ 6 cb),(8,a_ 6 cb)] ?_
 rcases kU hI.toInv0 c.handle c.name 64 with ⟨e,hab,hne⟩|⟨d,hab,hd,iN,iH,dI⟩
 ·refine aP.call (f:=123) (args:=#[vP f,vI (c.handle),.string c.name,vI 64]) (d:=(some 19)) (pre:=(oF f m t S L)) (R:=(nO m L S cb c R)) (pk:=[0,2,3,1,4,5,6,7]) (iV:=[0,3,1,2,4,5,6,7]) (v0:=.tuple #[.pointer none,vI (e)]) (fun _=>by kernel_rfl) ((by have h:=ez S L f m t hI c.handle hC.hw c.name hC.nm 64 (β:=β);rw [hab] at h;exact h)) rfl (by kernel_rfl) rfl (by kernel_rfl) (fun _ _ h=>h) ?_
  refine gQ 5 [(6,.pointer none),(7,vI (e))] [] ?_
  refine NQ (NX (af.seq (SR ?_)))
  refine gK 2 [(23,.bool (!(decide ((e:Int)=(0:Int)))))] [] ?_
  refine NN (af.cY (p:=(e:Int)=(0:Int)) (fun _=>by kernel_rfl) (fun h23=>?_) (fun h23=>?_))
  ·refine SR (gK 3 [(4,.nilIface),(5,vI (e))] [] ?_)
   refine NN (af.ret (ai.ak ?_))
   exact RT (.tuple #[.nilIface,vI (e)]) [0,1,2,3,4,5,6,7] (⟨by rw [show fO S.O S.us c=.error e by unfold fO;rw [hab]];rfl,rfl⟩)
  exact absurd h23 hne
 have hkd:(obj S.O d).kind=2:=hI.kind hd
 refine aP.call (f:=123) (args:=#[vP f,vI (c.handle),.string c.name,vI 64]) (d:=(some 19)) (pre:=(oF f m t S L)) (R:=(nO m L S cb c R)) (pk:=[0,2,3,1,4,5,6,7]) (iV:=[0,3,1,2,4,5,6,7]) (v0:=.tuple #[vP (L.b d),vI 0]) (fun _=>by kernel_rfl) ((by have h:=ez S L f m t hI c.handle hC.hw c.name hC.nm 64 (β:=β);rw [hab] at h;exact h)) rfl (by kernel_rfl) rfl (by kernel_rfl) (fun _ _ h=>h) ?_
 refine gQ 5 [(6,vP (L.b d)),(7,vI 0)] [] ?_
 refine NQ (NX (af.seq (SR ?_)))
 refine gK 2 [(23,.bool false)] [] ?_
 refine NN (CF (af.skip (NX (af.seq ?_))))
 have hel:(obj S.O d).ah.length<=8192:=hI.fU hd
 have RL:=hC.nm
 rcases hI.lD hd c.name with hlk|⟨tk,hlk,hlv⟩|⟨tk,hlk,hlv⟩|⟨tk,hlk,hlv⟩
 ·refine af.bI (by kernel_rfl) (by kernel_rfl) ?_
  refine gQ 8 [(28,.map (some (L.m d))),(32,.string c.name)] [(3,v_ 3 (bC L hkd)),(7,a_ 6 cb)] ?_
  refine qv 5 hkd hlk ?_
  refine gQ 1 [(8,.nilIface)] [] ?_
  refine NQ (NX (af.seq (SR ?_)))
  refine gK 2 [(35,.bool true)] [] ?_
  refine NN (CT (SR (gK 2 [(4,.nilIface),(5,vI 170)] [] ?_)))
  refine NN (af.ret (ai.ak ?_))
  exact RT (.tuple #[.nilIface,vI 170]) [0,1,2,3,4,5,6,7] (⟨by rw [show fO S.O S.us c=.error 170 by unfold fO;rw [hab];simp only;rw [hlk]];rfl,rfl⟩)
 ·have hkt:(obj S.O tk).kind=1:=hI.kind hlv
  refine af.bI (by kernel_rfl) (by kernel_rfl) ?_
  refine gQ 8 [(28,.map (some (L.m d))),(32,.string c.name)] [(3,v_ 3 (bC L hkd)),(7,a_ 6 cb)] ?_
  refine qv 5 hkd hlk ?_
  refine gQ 1 [(8,.iface 129 (vP (L.b tk)))] [] ?_
  refine NQ (NX (af.seq (SR ?_)))
  refine gK 2 [(35,.bool false)] [] ?_
  refine NN (CF (af.skip (NX (SR (gK 3 [(4,.iface 129 (vP (L.b tk))),(5,vI 0)] [] ?_)))))
  refine NN (af.ret ?_)
  exact RT (.tuple #[.iface 129 (vP (L.b tk)),vI 0]) [0,1,2,3,4,5,6,7] (⟨by rw [show fO S.O S.us c=.ok ⟨tk,1⟩ by unfold fO;rw [hab];simp only;rw [hlk]];rfl,rfl⟩)
 ·have hkt:(obj S.O tk).kind=2:=hI.kind hlv
  refine af.bI (by kernel_rfl) (by kernel_rfl) ?_
  refine gQ 8 [(28,.map (some (L.m d))),(32,.string c.name)] [(3,v_ 3 (bC L hkd)),(7,a_ 6 cb)] ?_
  refine qv 5 hkd hlk ?_
  refine gQ 1 [(8,.iface 135 (vP (L.b tk)))] [] ?_
  refine NQ (NX (af.seq (SR ?_)))
  refine gK 2 [(35,.bool false)] [] ?_
  refine NN (CF (af.skip (NX (SR (gK 3 [(4,.iface 135 (vP (L.b tk))),(5,vI 0)] [] ?_)))))
  refine NN (af.ret ?_)
  exact RT (.tuple #[.iface 135 (vP (L.b tk)),vI 0]) [0,1,2,3,4,5,6,7] (⟨by rw [show fO S.O S.us c=.ok ⟨tk,2⟩ by unfold fO;rw [hab];simp only;rw [hlk]];rfl,rfl⟩)
 have hkt:(obj S.O tk).kind=3:=hI.kind hlv
 refine af.bI (by kernel_rfl) (by kernel_rfl) ?_
 refine gQ 8 [(28,.map (some (L.m d))),(32,.string c.name)] [(3,v_ 3 (bC L hkd)),(7,a_ 6 cb)] ?_
 refine qv 5 hkd hlk ?_
 refine gQ 1 [(8,.iface 132 (vP (L.b tk)))] [] ?_
 refine NQ (NX (af.seq (SR ?_)))
 refine gK 2 [(35,.bool false)] [] ?_
 refine NN (CF (af.skip (NX (SR (gK 3 [(4,.iface 132 (vP (L.b tk))),(5,vI 0)] [] ?_)))))
 refine NN (af.ret ?_)
 exact RT (.tuple #[.iface 132 (vP (L.b tk)),vI 0]) [0,1,2,3,4,5,6,7] (⟨by rw [show fO S.O S.us c=.ok ⟨tk,3⟩ by unfold fO;rw [hab];simp only;rw [hlk]];rfl,rfl⟩)
theorem IW {β:Bs} (S:aG) (L:HL) (f m t:Nat) (hI:Inv S) (cb:Nat) (c:aD) (hC:fQ β c) :
    Spec Tryz.prog β 89 #[vP f,vP cb] ((pA f m t L S)++[pC cb c]) (fun v l=>∃ L2,v=vI (ji S c).1/\l=((pA f m t L2 ((ji S c).2.1))++[.blk cb (bT ((ji S c).2.2)) 48])):=by
 have hX:=hI.hX
 refine Spec.enter Tryz.func89 rfl Tryz.ntmps89 (Nat.le_of_ble_eq_true rfl) (fun R=>?_)
 refine SR (gK 1 [] [] ?_)
 refine NN (af.seq ?_)
 rcases hI.PF c.other with hix|⟨tk,hix,hlv⟩|⟨tk,hix,hlv⟩|⟨tk,hix,hlv⟩
 ·refine af.bI (by kernel_rfl) (by kernel_rfl) ?_
  refine gQ 8 [(10,.map (some m)),(14,vI (c.other))] [(3,a_ 0 f),(7,a_ 6 cb)] ?_
  refine aP.d9 1 (d:=(some 15)) (t:=120) (K:=3) (E:=124) (b:=m) (n:=S.idx.length) (f:=(bh (bn L S.idx))) (x:=(.tmp 10)) (ix:=(.tmp 14)) (key:=.int .i64 (c.other)) (z:=.nilIface) (kl:=(.int .i64 c.other)) (r:=none) (fun _=>by kernel_rfl) (by kernel_rfl) (fun _=>by kernel_rfl) (fun _=>by kernel_rfl) dX Tryz.underlying120 (fun _=>by kernel_rfl) (gJ hC.ow) (by rw [eY,hix];rfl) ?_
  refine gQ 1 [(5,.nilIface)] [] ?_
  refine NQ (NX (af.seq (SR ?_)))
  refine gK 2 [(17,.bool true)] [] ?_
  refine NN (CT (SR (gK 1 [(4,vI 141)] [] ?_)))
  refine NN (af.ret (ai.ak ?_))
  exact RT (vI 141) [0,1,2,3,4,5,6,7] (⟨L,by rw [show (ji S c)=(141,S,c) by unfold ji;rw [hix]]<;>exact⟨rfl,rfl⟩⟩)
 ·have hkt:(obj S.O tk).kind=1:=hI.kind hlv
  refine af.bI (by kernel_rfl) (by kernel_rfl) ?_
  refine gQ 8 [(10,.map (some m)),(14,vI (c.other))] [(3,a_ 0 f),(7,a_ 6 cb)] ?_
  refine aP.d9 1 (d:=(some 15)) (t:=120) (K:=3) (E:=124) (b:=m) (n:=S.idx.length) (f:=(bh (bn L S.idx))) (x:=(.tmp 10)) (ix:=(.tmp 14)) (key:=.int .i64 (c.other)) (z:=.nilIface) (kl:=(.int .i64 c.other)) (r:=(some (dJ L ⟨tk,1⟩))) (fun _=>by kernel_rfl) (by kernel_rfl) (fun _=>by kernel_rfl) (fun _=>by kernel_rfl) dX Tryz.underlying120 (fun _=>by kernel_rfl) (gJ hC.ow) (by rw [eY,hix];rfl) ?_
  refine gQ 1 [(5,.iface 129 (vP (L.b tk)))] [] ?_
  refine NQ (NX (af.seq (SR ?_)))
  refine gK 2 [(17,.bool false)] [] ?_
  refine NN (CF (af.skip (NX (af.seq (SR (gK 1 [(18,.iface 129 (vP (L.b tk)))] [] ?_))))))
  refine gL [] (lS (vP (L.b tk))) ?_
  rintro _ _ ⟨rfl,rfl⟩
  refine gK 1 [(20,.bool true)] [] ?_
  refine NN (CT (SR (gK 1 [(4,vI 173)] [] ?_)))
  refine NN (af.ret (ai.ak ?_))
  exact RT (vI 173) [0,1,2,3,4,5,6,7] (⟨L,by rw [show (ji S c)=(173,S,c) by unfold ji;rw [hix];exact if_neg (by simp)]<;>exact⟨rfl,rfl⟩⟩)
 ·have hkt:(obj S.O tk).kind=2:=hI.kind hlv
  refine af.bI (by kernel_rfl) (by kernel_rfl) ?_
  refine gQ 8 [(10,.map (some m)),(14,vI (c.other))] [(3,a_ 0 f),(7,a_ 6 cb)] ?_
  refine aP.d9 1 (d:=(some 15)) (t:=120) (K:=3) (E:=124) (b:=m) (n:=S.idx.length) (f:=(bh (bn L S.idx))) (x:=(.tmp 10)) (ix:=(.tmp 14)) (key:=.int .i64 (c.other)) (z:=.nilIface) (kl:=(.int .i64 c.other)) (r:=(some (dJ L ⟨tk,2⟩))) (fun _=>by kernel_rfl) (by kernel_rfl) (fun _=>by kernel_rfl) (fun _=>by kernel_rfl) dX Tryz.underlying120 (fun _=>by kernel_rfl) (gJ hC.ow) (by rw [eY,hix];rfl) ?_
  refine gQ 1 [(5,.iface 135 (vP (L.b tk)))] [] ?_
  refine NQ (NX (af.seq (SR ?_)))
  refine gK 2 [(17,.bool false)] [] ?_
  refine NN (CF (af.skip (NX (af.seq (SR (gK 1 [(18,.iface 135 (vP (L.b tk)))] [] ?_))))))
  refine gL [] (lT (vP (L.b tk))) ?_
  rintro _ _ ⟨rfl,rfl⟩
  refine gK 1 [(20,.bool false)] [] ?_
  refine NN (CF (af.skip (NX (SR (gK 1 [] [] ?_)))))
  refine NS (gK 3 [(22,vP cb),(23,vP f),(24,.iface 135 (vP (L.b tk)))] [] ?_)
  refine gL [0,2,3] (rV S L f m t ⟨tk,2⟩ hkt (by simp) (by have:=hI.CZ hlv;simp only at this ⊢;omega)) ?_
  rintro _ _ ⟨rfl,rfl⟩
  refine gC 7 [(6,vI ((ct S ⟨tk,2⟩).2.1))] [(5,a_ 6 cb)] [(6,[(12,vI ((ct S ⟨tk,2⟩).1))])] ?_
  refine NS (aj.dz [(4,.abs (ax (bN ((ct S ⟨tk,2⟩).2.2.O) L))),(5,.abs (ax (cG ((ct S ⟨tk,2⟩).2.2.O) L)))] (fun w hS=>by rw [zo,zq];exact hS) ?_)
  refine gK 2 [(4,vI ((ct S ⟨tk,2⟩).2.1))] [] ?_
  refine NN (af.ret ?_)
  exact RT (vI ((ct S ⟨tk,2⟩).2.1)) [0,3,1,2,4,5,6,7] (⟨L,by rw [show (ji S c)=((ct S ⟨tk,2⟩).2.1,(ct S ⟨tk,2⟩).2.2,{ c with answer:=(ct S ⟨tk,2⟩).1 }) by unfold ji;rw [hix];exact if_pos rfl]<;>exact⟨rfl,rfl⟩⟩)
 have hkt:(obj S.O tk).kind=3:=hI.kind hlv
 refine af.bI (by kernel_rfl) (by kernel_rfl) ?_
 refine gQ 8 [(10,.map (some m)),(14,vI (c.other))] [(3,a_ 0 f),(7,a_ 6 cb)] ?_
 refine aP.d9 1 (d:=(some 15)) (t:=120) (K:=3) (E:=124) (b:=m) (n:=S.idx.length) (f:=(bh (bn L S.idx))) (x:=(.tmp 10)) (ix:=(.tmp 14)) (key:=.int .i64 (c.other)) (z:=.nilIface) (kl:=(.int .i64 c.other)) (r:=(some (dJ L ⟨tk,3⟩))) (fun _=>by kernel_rfl) (by kernel_rfl) (fun _=>by kernel_rfl) (fun _=>by kernel_rfl) dX Tryz.underlying120 (fun _=>by kernel_rfl) (gJ hC.ow) (by rw [eY,hix];rfl) ?_
 refine gQ 1 [(5,.iface 132 (vP (L.b tk)))] [] ?_
 refine NQ (NX (af.seq (SR ?_)))
 refine gK 2 [(17,.bool false)] [] ?_
 refine NN (CF (af.skip (NX (af.seq (SR (gK 1 [(18,.iface 132 (vP (L.b tk)))] [] ?_))))))
 refine gL [] (nj (vP (L.b tk))) ?_
 rintro _ _ ⟨rfl,rfl⟩
 refine gK 1 [(20,.bool true)] [] ?_
 refine NN (CT (SR (gK 1 [(4,vI 173)] [] ?_)))
 refine NN (af.ret (ai.ak ?_))
 exact RT (vI 173) [0,1,2,3,4,5,6,7] (⟨L,by rw [show (ji S c)=(173,S,c) by unfold ji;rw [hix];exact if_neg (by simp)]<;>exact⟨rfl,rfl⟩⟩)
theorem Dv {β:Bs} (S:aG) (L:HL) (f m t:Nat) (hI:Inv S) (cb:Nat) (c:aD) (hC:fQ β c) :
    Spec Tryz.prog β 90 #[vP f,vP cb] ((pA f m t L S)++[pC cb c]) (fun v l=>∃ L2,v=vI (fF S c).1/\l=((pA f m t L2 ((fF S c).2.1))++[.blk cb (bT ((fF S c).2.2)) 48])):=by
 have hX:=hI.hX
 refine Spec.enter Tryz.func90 rfl Tryz.ntmps90 (Nat.le_of_ble_eq_true rfl) (fun R=>?_)
 refine SR (gK 1 [] [] ?_)
 refine NS (gK 2 [(8,vP f),(9,vP cb)] [] ?_)
 rcases AB hI.toInv0 c with ⟨e,hnm,hne⟩|⟨tk,hnm,hlv⟩|⟨tk,hnm,hlv⟩|⟨tk,hnm,hlv⟩
 ·refine gL (f:=122) (args:=#[vP f,vP cb]) (pre:=((pA f m t L S)++[pC cb c])) [0,1,2,3,4,5,6] ((by have h:=iC S L f m t hI cb c hC (β:=β);rw [hnm] at h;exact h)) ?_
  rintro _ _ ⟨rfl,rfl⟩
  refine gK 5 [(5,.nilIface),(6,vI (e))] [] ?_
  refine NN (af.seq (SR (gK 2 [(14,.bool (!(decide ((e:Int)=(0:Int)))))] [] ?_)))
  refine NN (af.cY (p:=(e:Int)=(0:Int)) (fun _=>by kernel_rfl) (fun iQ=>?_) (fun iQ=>?_))
  ·refine SR (gK 2 [(4,vI (e))] [] ?_)
   refine NN (af.ret (ai.ak ?_))
   exact RT (vI (e)) [0,1,2,3,4,5,6,7] (⟨L,by rw [show (fF S c)=(e,S,c) by unfold fF;rw [hnm]]<;>exact⟨rfl,rfl⟩⟩)
  exact absurd iQ hne
 ·have hkt:(obj S.O tk).kind=1:=hI.kind hlv
  refine gL (f:=122) (args:=#[vP f,vP cb]) (pre:=((pA f m t L S)++[pC cb c])) [0,1,2,3,4,5,6] ((by have h:=iC S L f m t hI cb c hC (β:=β);rw [hnm] at h;exact h)) ?_
  rintro _ _ ⟨rfl,rfl⟩
  refine gK 5 [(5,.iface 129 (vP (L.b tk))),(6,vI 0)] [] ?_
  refine NN (af.seq (SR (gK 2 [(14,.bool false)] [] ?_)))
  refine NN (CF (af.skip (NX (af.seq (SR (gK 1 [(16,.iface 129 (vP (L.b tk)))] [] ?_))))))
  refine NN (af.block (SR ?_))
  refine gK 3 [(18,.bool false)] [] ?_
  refine NN (CF (SR (gK 3 [(21,.bool true)] [] ?_)))
  refine NN (CT (SR (gK 1 [(4,vI 173)] [] ?_)))
  refine NN (af.ret (ai.aF (ai.ak ?_)))
  exact RT (vI 173) [0,1,2,3,4,5,6,7] (⟨L,by rw [show (fF S c)=(173,S,c) by unfold fF;rw [hnm];exact (if_neg (by simp)).trans (if_pos rfl)]<;>exact⟨rfl,rfl⟩⟩)
 ·have hkt:(obj S.O tk).kind=2:=hI.kind hlv
  refine gL (f:=122) (args:=#[vP f,vP cb]) (pre:=((pA f m t L S)++[pC cb c])) [0,1,2,3,4,5,6] ((by have h:=iC S L f m t hI cb c hC (β:=β);rw [hnm] at h;exact h)) ?_
  rintro _ _ ⟨rfl,rfl⟩
  refine gK 5 [(5,.iface 135 (vP (L.b tk))),(6,vI 0)] [] ?_
  refine NN (af.seq (SR (gK 2 [(14,.bool false)] [] ?_)))
  refine NN (CF (af.skip (NX (af.seq (SR (gK 1 [(16,.iface 135 (vP (L.b tk)))] [] ?_))))))
  refine NN (af.block (SR ?_))
  refine gK 3 [(18,.bool false)] [] ?_
  refine NN (CF (SR (gK 3 [(21,.bool false)] [] ?_)))
  refine NN (CF (af.skip (ai.aJ (NX (SR ?_)))))
  refine gK 3 [(24,vP cb),(25,vP f),(26,.iface 135 (vP (L.b tk)))] [] ?_
  refine gL [0,2,3] (rV S L f m t ⟨tk,2⟩ hkt (by simp) (by have:=hI.CZ hlv;simp only at this ⊢;omega)) ?_
  rintro _ _ ⟨rfl,rfl⟩
  refine gC 7 [(6,vI ((ct S ⟨tk,2⟩).2.1))] [(5,a_ 6 cb)] [(6,[(12,vI ((ct S ⟨tk,2⟩).1))])] ?_
  refine NS (aj.dz [(4,.abs (ax (bN ((ct S ⟨tk,2⟩).2.2.O) L))),(5,.abs (ax (cG ((ct S ⟨tk,2⟩).2.2.O) L)))] (fun w hS=>by rw [zo,zq];exact hS) ?_)
  refine gK 2 [(4,vI ((ct S ⟨tk,2⟩).2.1))] [] ?_
  refine NN (af.ret ?_)
  exact RT (vI ((ct S ⟨tk,2⟩).2.1)) [0,3,1,2,4,5,6,7] (⟨L,by rw [show (fF S c)=((ct S ⟨tk,2⟩).2.1,(ct S ⟨tk,2⟩).2.2,{ c with answer:=(ct S ⟨tk,2⟩).1 }) by unfold fF;rw [hnm];exact (if_neg (by simp)).trans (if_neg (by simp))]<;>exact⟨rfl,rfl⟩⟩)
 have hkt:(obj S.O tk).kind=3:=hI.kind hlv
 refine gL (f:=122) (args:=#[vP f,vP cb]) (pre:=((pA f m t L S)++[pC cb c])) [0,1,2,3,4,5,6] ((by have h:=iC S L f m t hI cb c hC (β:=β);rw [hnm] at h;exact h)) ?_
 rintro _ _ ⟨rfl,rfl⟩
 refine gK 5 [(5,.iface 132 (vP (L.b tk))),(6,vI 0)] [] ?_
 refine NN (af.seq (SR (gK 2 [(14,.bool false)] [] ?_)))
 refine NN (CF (af.skip (NX (af.seq (SR (gK 1 [(16,.iface 132 (vP (L.b tk)))] [] ?_))))))
 refine NN (af.block (SR ?_))
 refine gK 3 [(18,.bool true)] [] ?_
 refine NN (CT (SR (gK 1 [(4,vI 174)] [] ?_)))
 refine NN (af.ret (ai.aF (ai.ak ?_)))
 exact RT (vI 174) [0,1,2,3,4,5,6,7] (⟨L,by rw [show (fF S c)=(174,S,c) by unfold fF;rw [hnm];exact if_pos rfl]<;>exact⟨rfl,rfl⟩⟩)
theorem Ct {β:Bs} (S:aG) (L:HL) (f m t:Nat) (hI:Inv S) (cb:Nat) (c:aD) (hC:fQ β c) :
    Spec Tryz.prog β 91 #[vP f,vP cb] ((pA f m t L S)++[pC cb c]) (fun v l=>∃ L2,v=vI (eP S c).1/\l=((pA f m t L2 ((eP S c).2.1))++[.blk cb (bT ((eP S c).2.2)) 48])):=by
 have hX:=hI.hX
 refine Spec.enter Tryz.func91 rfl Tryz.ntmps91 (Nat.le_of_ble_eq_true rfl) (fun R=>?_)
 refine SR (gK 1 [] [] ?_)
 refine NS (gK 2 [(8,vP f),(9,vP cb)] [] ?_)
 rcases AB hI.toInv0 c with ⟨e,hnm,hne⟩|⟨tk,hnm,hlv⟩|⟨tk,hnm,hlv⟩|⟨tk,hnm,hlv⟩
 ·refine gL (f:=122) (args:=#[vP f,vP cb]) (pre:=((pA f m t L S)++[pC cb c])) [0,1,2,3,4,5,6] ((by have h:=iC S L f m t hI cb c hC (β:=β);rw [hnm] at h;exact h)) ?_
  rintro _ _ ⟨rfl,rfl⟩
  refine gK 5 [(5,.nilIface),(6,vI (e))] [] ?_
  refine NN (af.seq (SR (gK 2 [(14,.bool (!(decide ((e:Int)=(0:Int)))))] [] ?_)))
  refine NN (af.cY (p:=(e:Int)=(0:Int)) (fun _=>by kernel_rfl) (fun iQ=>?_) (fun iQ=>?_))
  ·refine SR (gK 2 [(4,vI (e))] [] ?_)
   refine NN (af.ret (ai.ak ?_))
   exact RT (vI (e)) [0,1,2,3,4,5,6,7] (⟨L,by rw [show (eP S c)=(e,S,c) by unfold eP;rw [hnm]]<;>exact⟨rfl,rfl⟩⟩)
  exact absurd iQ hne
 ·have hkt:(obj S.O tk).kind=1:=hI.kind hlv
  refine gL (f:=122) (args:=#[vP f,vP cb]) (pre:=((pA f m t L S)++[pC cb c])) [0,1,2,3,4,5,6] ((by have h:=iC S L f m t hI cb c hC (β:=β);rw [hnm] at h;exact h)) ?_
  rintro _ _ ⟨rfl,rfl⟩
  refine gK 5 [(5,.iface 129 (vP (L.b tk))),(6,vI 0)] [] ?_
  refine NN (af.seq (SR (gK 2 [(14,.bool false)] [] ?_)))
  refine NN (CF (af.skip (NX (af.seq (SR (gK 1 [(16,.iface 129 (vP (L.b tk)))] [] ?_))))))
  refine NN (af.block (SR ?_))
  refine gK 3 [(18,.bool false)] [] ?_
  refine NN (CF (SR (gK 3 [(21,.bool false)] [] ?_)))
  refine NN (CF (af.skip (ai.aJ (NX (SR ?_)))))
  refine gK 3 [(24,vP cb),(25,vP f),(26,.iface 129 (vP (L.b tk)))] [] ?_
  refine gL [0,2,3] (rV S L f m t ⟨tk,1⟩ hkt (by simp) (by have:=hI.CZ hlv;simp only at this ⊢;omega)) ?_
  rintro _ _ ⟨rfl,rfl⟩
  refine gC 7 [(6,vI ((ct S ⟨tk,1⟩).2.1))] [(5,a_ 6 cb)] [(6,[(12,vI ((ct S ⟨tk,1⟩).1))])] ?_
  refine NS (aj.dz [(4,.abs (ax (bN ((ct S ⟨tk,1⟩).2.2.O) L))),(5,.abs (ax (cG ((ct S ⟨tk,1⟩).2.2.O) L)))] (fun w hS=>by rw [zo,zq];exact hS) ?_)
  refine gK 2 [(4,vI ((ct S ⟨tk,1⟩).2.1))] [] ?_
  refine NN (af.ret ?_)
  exact RT (vI ((ct S ⟨tk,1⟩).2.1)) [0,3,1,2,4,5,6,7] (⟨L,by rw [show (eP S c)=((ct S ⟨tk,1⟩).2.1,(ct S ⟨tk,1⟩).2.2,{ c with answer:=(ct S ⟨tk,1⟩).1 }) by unfold eP;rw [hnm];exact (if_neg (by simp)).trans (if_neg (by simp))]<;>exact⟨rfl,rfl⟩⟩)
 ·have hkt:(obj S.O tk).kind=2:=hI.kind hlv
  refine gL (f:=122) (args:=#[vP f,vP cb]) (pre:=((pA f m t L S)++[pC cb c])) [0,1,2,3,4,5,6] ((by have h:=iC S L f m t hI cb c hC (β:=β);rw [hnm] at h;exact h)) ?_
  rintro _ _ ⟨rfl,rfl⟩
  refine gK 5 [(5,.iface 135 (vP (L.b tk))),(6,vI 0)] [] ?_
  refine NN (af.seq (SR (gK 2 [(14,.bool false)] [] ?_)))
  refine NN (CF (af.skip (NX (af.seq (SR (gK 1 [(16,.iface 135 (vP (L.b tk)))] [] ?_))))))
  refine NN (af.block (SR ?_))
  refine gK 3 [(18,.bool false)] [] ?_
  refine NN (CF (SR (gK 3 [(21,.bool true)] [] ?_)))
  refine NN (CT (SR (gK 1 [(4,vI 172)] [] ?_)))
  refine NN (af.ret (ai.aF (ai.ak ?_)))
  exact RT (vI 172) [0,1,2,3,4,5,6,7] (⟨L,by rw [show (eP S c)=(172,S,c) by unfold eP;rw [hnm];exact (if_neg (by simp)).trans (if_pos rfl)]<;>exact⟨rfl,rfl⟩⟩)
 have hkt:(obj S.O tk).kind=3:=hI.kind hlv
 refine gL (f:=122) (args:=#[vP f,vP cb]) (pre:=((pA f m t L S)++[pC cb c])) [0,1,2,3,4,5,6] ((by have h:=iC S L f m t hI cb c hC (β:=β);rw [hnm] at h;exact h)) ?_
 rintro _ _ ⟨rfl,rfl⟩
 refine gK 5 [(5,.iface 132 (vP (L.b tk))),(6,vI 0)] [] ?_
 refine NN (af.seq (SR (gK 2 [(14,.bool false)] [] ?_)))
 refine NN (CF (af.skip (NX (af.seq (SR (gK 1 [(16,.iface 132 (vP (L.b tk)))] [] ?_))))))
 refine NN (af.block (SR ?_))
 refine gK 3 [(18,.bool true)] [] ?_
 refine NN (CT (SR (gK 1 [(4,vI 174)] [] ?_)))
 refine NN (af.ret (ai.aF (ai.ak ?_)))
 exact RT (vI 174) [0,1,2,3,4,5,6,7] (⟨L,by rw [show (eP S c)=(174,S,c) by unfold eP;rw [hnm];exact if_pos rfl]<;>exact⟨rfl,rfl⟩⟩)
theorem Gc {β:Bs} (S:aG) (L:HL) (f m t:Nat) (hI:Inv S) (cb:Nat) (c:aD) (hC:fQ β c) :
    Spec Tryz.prog β 92 #[vP f,vP cb] ((pA f m t L S)++[pC cb c]) (fun v l=>∃ L2,v=vI (fP S c).1/\l=((pA f m t L2 ((fP S c).2.1))++[.blk cb (bT ((fP S c).2.2)) 48])):=by
 have hX:=hI.hX
 refine Spec.enter Tryz.func92 rfl Tryz.ntmps92 (Nat.le_of_ble_eq_true rfl) (fun R=>?_)
 refine SR (gK 1 [] [] ?_)
 refine NN (af.seq (af.bI (by kernel_rfl) (by kernel_rfl) ?_))
 refine gQ 9 (NJ f c) [(4,a_ 6 cb),(8,a_ 6 cb)] ?_
 rcases kU hI.toInv0 c.handle c.name 192 with ⟨e,hab,hne⟩|⟨d,hab,hd,iN,iH,dI⟩
 ·refine aP.call (f:=123) (args:=#[vP f,vI (c.handle),.string c.name,vI 192]) (d:=(some 17)) (pre:=(oF f m t S L)) (R:=(nO m L S cb c R)) (pk:=[0,2,3,1,4,5,6,7]) (iV:=[0,3,1,2,4,5,6,7]) (v0:=.tuple #[.pointer none,vI (e)]) (fun _=>by kernel_rfl) ((by have h:=ez S L f m t hI c.handle hC.hw c.name hC.nm 192 (β:=β);rw [hab] at h;exact h)) rfl (by kernel_rfl) rfl (by kernel_rfl) (fun _ _ h=>h) ?_
  refine gQ 5 (Kz e) [] ?_
  refine NQ (NX (af.seq (SR ?_)))
  refine gK 2 [(21,.bool (!(decide ((e:Int)=(0:Int)))))] [] ?_
  refine NN (af.cY (p:=(e:Int)=(0:Int)) (fun _=>by kernel_rfl) (fun ul=>?_) (fun ul=>?_))
  ·refine SR (gK 2 [(4,vI (e))] [] ?_)
   refine NN (af.ret (ai.ak ?_))
   exact RT (vI (e)) [0,1,2,3,4,5,6,7] (⟨L,by rw [show (fP S c)=(e,S,c) by unfold fP;rw [hab]]<;>exact⟨rfl,rfl⟩⟩)
  exact absurd ul hne
 have hkd:(obj S.O d).kind=2:=hI.kind hd
 refine aP.call (f:=123) (args:=#[vP f,vI (c.handle),.string c.name,vI 192]) (d:=(some 17)) (pre:=(oF f m t S L)) (R:=(nO m L S cb c R)) (pk:=[0,2,3,1,4,5,6,7]) (iV:=[0,3,1,2,4,5,6,7]) (v0:=.tuple #[vP (L.b d),vI 0]) (fun _=>by kernel_rfl) ((by have h:=ez S L f m t hI c.handle hC.hw c.name hC.nm 192 (β:=β);rw [hab] at h;exact h)) rfl (by kernel_rfl) rfl (by kernel_rfl) (fun _ _ h=>h) ?_
 refine gQ 5 (E7 L d) [] ?_
 refine NQ (NX (af.seq (SR ?_)))
 refine gK 2 [(21,.bool false)] [] ?_
 refine NN (CF (af.skip (NX (af.seq (SR (gK 4 [(26,vI (c.mode))] [(3,a_ 6 cb)] ?_))))))
 refine gL [] (fJ (c.mode) 4095) ?_
 rintro _ _ ⟨rfl,rfl⟩
 refine gK 1 [(28,.bool (!(decide (0<=c.mode/\c.mode<=4095))))] [] ?_
 refine NN (af.cY (p:=0<=c.mode/\c.mode<=4095) (fun _=>by kernel_rfl) (fun Qq=>?_) (fun Qq=>?_))
 ·refine SR (gK 1 [(4,vI 120)] [] ?_)
  refine NN (af.ret (ai.ak ?_))
  exact RT (vI 120) [0,1,2,3,4,5,6,7] (⟨L,by rw [show (fP S c)=(120,S,c) by unfold fP;rw [hab];exact if_neg Qq]<;>exact⟨rfl,rfl⟩⟩)
 refine af.skip (NX (af.seq (af.bR (S:=[pC cb c]) [0,1,2,3,4,5,6,7,8,9,10,11] 10 [6] (by kernel_rfl) (by kernel_rfl) rfl (by kernel_rfl) ?_)))
 refine gR 0 [10,11] [(29,vP f),(30,vP (L.b d)),(34,.string c.name),(38,vI (c.mode))] [0,1,2,3,4,5,6,7,8,9] [(5,a_ 0 cb),(9,a_ 0 cb)] ?_
 refine mL [6] [0,1,2,3,4,5] (Dg S L f m t hI d hd c.name hC.nm c.mode) ?_ (by rintro _ _ ⟨L2,rfl,rfl⟩;rfl)
 rintro _ _ ⟨L2,rfl,rfl⟩
 refine aK.last rfl rfl ?_
 refine gK 1 [(4,vI ((gE S d c.name c.mode).1))] [] ?_
 refine NL (ai.np (NX (af.ret ?_)))
 exact RT (vI ((gE S d c.name c.mode).1)) [0,1,2,3,4,5,6,7] (⟨L2,by rw [show (fP S c)=((gE S d c.name c.mode).1,(gE S d c.name c.mode).2,c) by unfold fP;rw [hab];exact if_pos Qq]<;>exact⟨rfl,rfl⟩⟩)
theorem Dw {β:Bs} (S:aG) (L:HL) (f m t:Nat) (hI:Inv S) (cb:Nat) (c:aD) (hC:fQ β c) :
    Spec Tryz.prog β 94 #[vP f,vP cb] ((pA f m t L S)++[pC cb c]) (fun v l=>∃ L2,v=vI (fI S c).1/\l=((pA f m t L2 ((fI S c).2.1))++[.blk cb (bT ((fI S c).2.2)) 48])):=by
 have hX:=hI.hX
 refine Spec.enter Tryz.func94 rfl Tryz.ntmps94 (Nat.le_of_ble_eq_true rfl) (fun R=>?_)
 refine SR (gK 1 [] [] ?_)
 refine NN (af.seq (af.bI (by kernel_rfl) (by kernel_rfl) ?_))
 refine gQ 9 (NJ f c) [(4,a_ 6 cb),(8,a_ 6 cb)] ?_
 rcases kU hI.toInv0 c.handle c.name 192 with ⟨e,hab,hne⟩|⟨d,hab,hd,iN,iH,dI⟩
 ·refine aP.call (f:=123) (args:=#[vP f,vI (c.handle),.string c.name,vI 192]) (d:=(some 17)) (pre:=(oF f m t S L)) (R:=(nO m L S cb c R)) (pk:=[0,2,3,1,4,5,6,7]) (iV:=[0,3,1,2,4,5,6,7]) (v0:=.tuple #[.pointer none,vI (e)]) (fun _=>by kernel_rfl) ((by have h:=ez S L f m t hI c.handle hC.hw c.name hC.nm 192 (β:=β);rw [hab] at h;exact h)) rfl (by kernel_rfl) rfl (by kernel_rfl) (fun _ _ h=>h) ?_
  refine gQ 5 (Kz e) [] ?_
  refine NQ (NX (af.seq (SR ?_)))
  refine gK 2 [(21,.bool (!(decide ((e:Int)=(0:Int)))))] [] ?_
  refine NN (af.cY (p:=(e:Int)=(0:Int)) (fun _=>by kernel_rfl) (fun ul=>?_) (fun ul=>?_))
  ·refine SR (gK 2 [(4,vI (e))] [] ?_)
   refine NN (af.ret (ai.ak ?_))
   exact RT (vI (e)) [0,1,2,3,4,5,6,7] (⟨L,by rw [show (fI S c)=(e,S,c) by unfold fI;rw [hab]]<;>exact⟨rfl,rfl⟩⟩)
  exact absurd ul hne
 have hkd:(obj S.O d).kind=2:=hI.kind hd
 refine aP.call (f:=123) (args:=#[vP f,vI (c.handle),.string c.name,vI 192]) (d:=(some 17)) (pre:=(oF f m t S L)) (R:=(nO m L S cb c R)) (pk:=[0,2,3,1,4,5,6,7]) (iV:=[0,3,1,2,4,5,6,7]) (v0:=.tuple #[vP (L.b d),vI 0]) (fun _=>by kernel_rfl) ((by have h:=ez S L f m t hI c.handle hC.hw c.name hC.nm 192 (β:=β);rw [hab] at h;exact h)) rfl (by kernel_rfl) rfl (by kernel_rfl) (fun _ _ h=>h) ?_
 refine gQ 5 (E7 L d) [] ?_
 refine NQ (NX (af.seq (SR ?_)))
 refine gK 2 [(21,.bool false)] [] ?_
 refine NN (CF (af.skip (NX (af.seq (af.bR (S:=[pC cb c]) [0,1,2,3,4,5,6,7,8,9,10,11] 10 [6] (by kernel_rfl) (by kernel_rfl) rfl (by kernel_rfl) ?_)))))
 refine gR 0 [10,11] (Qp f L d c++[(32,.string c.text)]) [0,1,2,3,4,5,6,7,8,9] [(5,a_ 0 cb),(9,a_ 0 cb)] ?_
 refine mL [6] [0,1,2,3,4,5] (yH S L f m t hI d hd c.name hC.nm c.text hC.tx) ?_ (by rintro _ _ ⟨L2,rfl,rfl⟩;rfl)
 rintro _ _ ⟨L2,rfl,rfl⟩
 refine aK.last rfl rfl ?_
 refine gK 1 [(4,vI ((eM S d c.name c.text).1))] [] ?_
 refine NL (ai.np (NX (af.ret ?_)))
 exact RT (vI ((eM S d c.name c.text).1)) [0,1,2,3,4,5,6,7] (⟨L2,by rw [show (fI S c)=((eM S d c.name c.text).1,(eM S d c.name c.text).2,c) by unfold fI;rw [hab]]<;>exact⟨rfl,rfl⟩⟩)
theorem E8 {β:Bs} (S:aG) (L:HL) (f m t:Nat) (hI:Inv S) (cb:Nat) (c:aD) (hC:fQ β c) :
    Spec Tryz.prog β 96 #[vP f,vP cb] ((pA f m t L S)++[pC cb c]) (fun v l=>∃ L2,v=vI (fZ S c).1/\l=((pA f m t L2 ((fZ S c).2.1))++[.blk cb (bT ((fZ S c).2.2)) 48])):=by
 have hX:=hI.hX
 refine Spec.enter Tryz.func96 rfl Tryz.ntmps96 (Nat.le_of_ble_eq_true rfl) (fun R=>?_)
 refine SR (gK 1 [] [] ?_)
 refine NN (af.seq (af.bI (by kernel_rfl) (by kernel_rfl) ?_))
 refine gQ 9 (NJ f c) [(4,a_ 6 cb),(8,a_ 6 cb)] ?_
 rcases kU hI.toInv0 c.handle c.name 192 with ⟨e,hab,hne⟩|⟨d,hab,hd,iN,iH,dI⟩
 ·refine aP.call (f:=123) (args:=#[vP f,vI (c.handle),.string c.name,vI 192]) (d:=(some 17)) (pre:=(oF f m t S L)) (R:=(nO m L S cb c R)) (pk:=[0,2,3,1,4,5,6,7]) (iV:=[0,3,1,2,4,5,6,7]) (v0:=.tuple #[.pointer none,vI (e)]) (fun _=>by kernel_rfl) ((by have h:=ez S L f m t hI c.handle hC.hw c.name hC.nm 192 (β:=β);rw [hab] at h;exact h)) rfl (by kernel_rfl) rfl (by kernel_rfl) (fun _ _ h=>h) ?_
  refine gQ 5 (Kz e) [] ?_
  refine NQ (NX (af.seq (SR ?_)))
  refine gK 2 [(21,.bool (!(decide ((e:Int)=(0:Int)))))] [] ?_
  refine NN (af.cY (p:=(e:Int)=(0:Int)) (fun _=>by kernel_rfl) (fun ul=>?_) (fun ul=>?_))
  ·refine SR (gK 2 [(4,vI (e))] [] ?_)
   refine NN (af.ret (ai.ak ?_))
   exact RT (vI (e)) [0,1,2,3,4,5,6,7] (⟨L,by rw [show (fZ S c)=(e,S,c) by unfold fZ;rw [hab]]<;>exact⟨rfl,rfl⟩⟩)
  exact absurd ul hne
 have hkd:(obj S.O d).kind=2:=hI.kind hd
 refine aP.call (f:=123) (args:=#[vP f,vI (c.handle),.string c.name,vI 192]) (d:=(some 17)) (pre:=(oF f m t S L)) (R:=(nO m L S cb c R)) (pk:=[0,2,3,1,4,5,6,7]) (iV:=[0,3,1,2,4,5,6,7]) (v0:=.tuple #[vP (L.b d),vI 0]) (fun _=>by kernel_rfl) ((by have h:=ez S L f m t hI c.handle hC.hw c.name hC.nm 192 (β:=β);rw [hab] at h;exact h)) rfl (by kernel_rfl) rfl (by kernel_rfl) (fun _ _ h=>h) ?_
 refine gQ 5 (E7 L d) [] ?_
 refine NQ (NX (af.seq (SR ?_)))
 refine gK 2 [(21,.bool false)] [] ?_
 refine NN (CF (af.skip (NX (SR (gK 6 (Qp f L d c) [(5,a_ 6 cb)] ?_)))))
 refine gL [0,1,2,3,4,5] (Bh S L f m t hI d hd c.name hC.nm) ?_
 rintro _ _ ⟨L2,rfl,rfl⟩
 refine gK 1 [(4,vI ((ef S d c.name).1))] [] ?_
 refine NN (af.ret ?_)
 exact RT (vI ((ef S d c.name).1)) [0,1,2,3,4,5,6,7] (⟨L2,by rw [show (fZ S c)=((ef S d c.name).1,(ef S d c.name).2,c) by unfold fZ;rw [hab]]<;>exact⟨rfl,rfl⟩⟩)
theorem Gd {β:Bs} (S:aG) (L:HL) (f m t:Nat) (hI:Inv S) (cb:Nat) (c:aD) (hC:fQ β c) :
    Spec Tryz.prog β 102 #[vP f,vP cb] ((pA f m t L S)++[pC cb c]) (fun v l=>∃ L2,v=vI (ig S c).1/\l=((pA f m t L2 ((ig S c).2.1))++[.blk cb (bT ((ig S c).2.2)) 48])):=by
 have hX:=hI.hX
 refine Spec.enter Tryz.func102 rfl Tryz.ntmps102 (Nat.le_of_ble_eq_true rfl) (fun R=>?_)
 refine SR (gK 1 [] [] ?_)
 refine NN (af.seq (af.bI (by kernel_rfl) (by kernel_rfl) ?_))
 refine gQ 9 (NJ f c) [(4,a_ 6 cb),(8,a_ 6 cb)] ?_
 rcases kU hI.toInv0 c.handle c.name 192 with ⟨e,hab,hne⟩|⟨d,hab,hd,iN,iH,dI⟩
 ·refine aP.call (f:=123) (args:=#[vP f,vI (c.handle),.string c.name,vI 192]) (d:=(some 17)) (pre:=(oF f m t S L)) (R:=(nO m L S cb c R)) (pk:=[0,2,3,1,4,5,6,7]) (iV:=[0,3,1,2,4,5,6,7]) (v0:=.tuple #[.pointer none,vI (e)]) (fun _=>by kernel_rfl) ((by have h:=ez S L f m t hI c.handle hC.hw c.name hC.nm 192 (β:=β);rw [hab] at h;exact h)) rfl (by kernel_rfl) rfl (by kernel_rfl) (fun _ _ h=>h) ?_
  refine gQ 5 (Kz e) [] ?_
  refine NQ (NX (af.seq (SR ?_)))
  refine gK 2 [(21,.bool (!(decide ((e:Int)=(0:Int)))))] [] ?_
  refine NN (af.cY (p:=(e:Int)=(0:Int)) (fun _=>by kernel_rfl) (fun ul=>?_) (fun ul=>?_))
  ·refine SR (gK 2 [(4,vI (e))] [] ?_)
   refine NN (af.ret (ai.ak ?_))
   exact RT (vI (e)) [0,1,2,3,4,5,6,7] (⟨L,by rw [show (ig S c)=(e,S,c) by unfold ig;rw [hab]]<;>exact⟨rfl,rfl⟩⟩)
  exact absurd ul hne
 have hkd:(obj S.O d).kind=2:=hI.kind hd
 refine aP.call (f:=123) (args:=#[vP f,vI (c.handle),.string c.name,vI 192]) (d:=(some 17)) (pre:=(oF f m t S L)) (R:=(nO m L S cb c R)) (pk:=[0,2,3,1,4,5,6,7]) (iV:=[0,3,1,2,4,5,6,7]) (v0:=.tuple #[vP (L.b d),vI 0]) (fun _=>by kernel_rfl) ((by have h:=ez S L f m t hI c.handle hC.hw c.name hC.nm 192 (β:=β);rw [hab] at h;exact h)) rfl (by kernel_rfl) rfl (by kernel_rfl) (fun _ _ h=>h) ?_
 refine gQ 5 (E7 L d) [] ?_
 refine NQ (NX (af.seq (SR ?_)))
 refine gK 2 [(21,.bool false)] [] ?_
 refine NN (CF (af.skip (NX (SR (gK 6 (Qp f L d c) [(5,a_ 6 cb)] ?_)))))
 refine gL [0,1,2,3,4,5] (Dh S L f m t hI d hd c.name hC.nm) ?_
 rintro _ _ ⟨L2,rfl,rfl⟩
 refine gK 1 [(4,vI ((eO S d c.name).1))] [] ?_
 refine NN (af.ret ?_)
 exact RT (vI ((eO S d c.name).1)) [0,1,2,3,4,5,6,7] (⟨L2,by rw [show (ig S c)=((eO S d c.name).1,(eO S d c.name).2,c) by unfold ig;rw [hab]]<;>exact⟨rfl,rfl⟩⟩)
theorem E9 {β:Bs} (S:aG) (L:HL) (f m t:Nat) (hI:Inv S) (cb:Nat) (c:aD) (hC:fQ β c) :
    Spec Tryz.prog β 103 #[vP f,vP cb] ((pA f m t L S)++[pC cb c]) (fun v l=>∃ L2,v=vI (fC S c).1/\l=((pA f m t L2 ((fC S c).2.1))++[.blk cb (bT ((fC S c).2.2)) 48])):=by
 have hX:=hI.hX
 refine Spec.enter Tryz.func103 rfl Tryz.ntmps103 (Nat.le_of_ble_eq_true rfl) (fun R=>?_)
 refine SR (gK 1 [] [] ?_)
 refine NN (af.seq (af.bI (by kernel_rfl) (by kernel_rfl) ?_))
 refine gQ 9 [(9,vP f),(13,vI (c.handle)),(17,.string c.name)] [(4,a_ 6 cb),(8,a_ 6 cb)] ?_
 rcases kU hI.toInv0 c.handle c.name 192 with ⟨e,hab,hne⟩|⟨d,hab,hd,iN,iH,dI⟩
 ·refine aP.call (f:=123) (args:=#[vP f,vI (c.handle),.string c.name,vI 192]) (d:=(some 18)) (pre:=(oF f m t S L)) (R:=(nO m L S cb c R)) (pk:=[0,2,3,1,4,5,6,7]) (iV:=[0,3,1,2,4,5,6,7]) (v0:=.tuple #[.pointer none,vI (e)]) (fun _=>by kernel_rfl) ((by have h:=ez S L f m t hI c.handle hC.hw c.name hC.nm 192 (β:=β);rw [hab] at h;exact h)) rfl (by kernel_rfl) rfl (by kernel_rfl) (fun _ _ h=>h) ?_
  refine gQ 5 (Kz e) [] ?_
  refine NQ (NX (af.seq (SR ?_)))
  refine gK 2 [(22,.bool (!(decide ((e:Int)=(0:Int)))))] [] ?_
  refine NN (af.cY (p:=(e:Int)=(0:Int)) (fun _=>by kernel_rfl) (fun sV=>?_) (fun sV=>?_))
  ·refine SR (gK 2 [(4,vI (e))] [] ?_)
   refine NN (af.ret (ai.ak ?_))
   exact RT (vI (e)) [0,1,2,3,4,5,6,7] (⟨L,by rw [show (fC S c)=(e,S,c) by unfold fC;rw [hab]]<;>exact⟨rfl,rfl⟩⟩)
  exact absurd sV hne
 have hkd:(obj S.O d).kind=2:=hI.kind hd
 refine aP.call (f:=123) (args:=#[vP f,vI (c.handle),.string c.name,vI 192]) (d:=(some 18)) (pre:=(oF f m t S L)) (R:=(nO m L S cb c R)) (pk:=[0,2,3,1,4,5,6,7]) (iV:=[0,3,1,2,4,5,6,7]) (v0:=.tuple #[vP (L.b d),vI 0]) (fun _=>by kernel_rfl) ((by have h:=ez S L f m t hI c.handle hC.hw c.name hC.nm 192 (β:=β);rw [hab] at h;exact h)) rfl (by kernel_rfl) rfl (by kernel_rfl) (fun _ _ h=>h) ?_
 refine gQ 5 (E7 L d) [] ?_
 refine NQ (NX (af.seq (SR ?_)))
 refine gK 2 [(22,.bool false)] [] ?_
 refine NN (CF (af.skip (NX (af.seq (af.bI (by kernel_rfl) (by kernel_rfl) ?_)))))
 refine gQ 9 [(25,vP f),(29,vI (c.other)),(33,.string c.text)] [(4,a_ 6 cb),(8,a_ 6 cb)] ?_
 rcases kU hI.toInv0 c.other c.text 192 with ⟨e2,jH,Fa⟩|⟨to,jH,hd2,Qr,Mr,TJ⟩
 ·refine aP.call (f:=123) (args:=#[vP f,vI (c.other),.string c.text,vI 192]) (d:=(some 34)) (pre:=(oF f m t S L)) (R:=(nO m L S cb c R)) (pk:=[0,2,3,1,4,5,6,7]) (iV:=[0,3,1,2,4,5,6,7]) (v0:=.tuple #[.pointer none,vI (e2)]) (fun _=>by kernel_rfl) ((by have h:=ez S L f m t hI c.other hC.ow c.text hC.tx 192 (β:=β);rw [jH] at h;exact h)) rfl (by kernel_rfl) rfl (by kernel_rfl) (fun _ _ h=>h) ?_
  refine gQ 5 [(6,vI (e2)),(7,.pointer none)] [] ?_
  refine NQ (NX (af.seq (SR ?_)))
  refine gK 2 [(38,.bool (!(decide ((e2:Int)=(0:Int)))))] [] ?_
  refine NN (af.cY (p:=(e2:Int)=(0:Int)) (fun _=>by kernel_rfl) (fun zY=>?_) (fun zY=>?_))
  ·refine SR (gK 2 [(4,vI (e2))] [] ?_)
   refine NN (af.ret (ai.ak ?_))
   exact RT (vI (e2)) [0,1,2,3,4,5,6,7] (⟨L,by rw [show (fC S c)=(e2,S,c) by unfold fC;rw [hab];simp only;rw [jH]]<;>exact⟨rfl,rfl⟩⟩)
  exact absurd zY Fa
 have eE:(obj S.O to).kind=2:=hI.kind hd2
 refine aP.call (f:=123) (args:=#[vP f,vI (c.other),.string c.text,vI 192]) (d:=(some 34)) (pre:=(oF f m t S L)) (R:=(nO m L S cb c R)) (pk:=[0,2,3,1,4,5,6,7]) (iV:=[0,3,1,2,4,5,6,7]) (v0:=.tuple #[vP (L.b to),vI 0]) (fun _=>by kernel_rfl) ((by have h:=ez S L f m t hI c.other hC.ow c.text hC.tx 192 (β:=β);rw [jH] at h;exact h)) rfl (by kernel_rfl) rfl (by kernel_rfl) (fun _ _ h=>h) ?_
 refine gQ 5 [(6,vI 0),(7,vP (L.b to))] [] ?_
 refine NQ (NX (af.seq (SR ?_)))
 refine gK 2 [(38,.bool false)] [] ?_
 refine NN (CF (af.skip (NX (af.seq (af.bR (S:=[pC cb c]) [0,1,2,3,4,5,6,7,8,9,10,11,12] 11 [6] (by kernel_rfl) (by kernel_rfl) rfl (by kernel_rfl) ?_)))))
 refine gR 0 [11,12] [(40,vP f),(41,vP (L.b d)),(45,.string c.name),(46,vP (L.b to)),(50,.string c.text)] [0,1,2,3,4,5,6,7,8,9,10] [(5,a_ 0 cb),(10,a_ 0 cb)] ?_
 refine mL [6] [0,1,2,3,4,5] (Bj S L f m t hI d hd c.name hC.nm to hd2 c.text hC.tx) ?_ (by rintro _ _ ⟨L2,rfl,rfl⟩;rfl)
 rintro _ _ ⟨L2,rfl,rfl⟩
 refine aK.last rfl rfl ?_
 refine gK 1 [(4,vI ((bH S d c.name to c.text).1))] [] ?_
 refine NL (ai.np (NX (af.ret ?_)))
 exact RT (vI ((bH S d c.name to c.text).1)) [0,1,2,3,4,5,6,7] (⟨L2,by rw [show (fC S c)=((bH S d c.name to c.text).1,(bH S d c.name to c.text).2,c) by unfold fC;rw [hab];simp only;rw [jH]]<;>exact⟨rfl,rfl⟩⟩)
end
section
open Go.RowKit
section order
variable {P:Program} {ops:Array Oper} {Q Q':Post} {n:Nat} {S:World->Prop}
def lW (P:Program) (ops:Array Oper) (Q:Post) (S:World->Prop):List (Bool×Nat)->Act->World->Prop
  | [],a,w=>Q .normal a w
  | (false,i)::l,a,w=>wpOp P ops Q i (fun a' w'=>(l=[]\/S w')/\lW P ops Q S l a' w') a w
  | (true,i)::l,a,w=>∃ o v,ops[i]?=some o/\YieldsIf P ops S o v a/\lW P ops Q S l (a.put o.dst v) w
def yc (ops:Array Oper) (n:Nat):List (Bool×Nat)->Array Bool->Bool
  | [],listed=>(Region.ready .any ops listed).isEmpty
  | (false,i)::l,listed=>(Region.ready .any ops listed == [i]) && (!l.isEmpty || i == n) && yc ops n l (listed.setIfInBounds i true)
  | (true,i)::l,listed=>decide (i < n) && Region.free .any ops listed i && (Region.ready .any ops listed).contains i && yc ops n l (listed.setIfInBounds i true)
theorem zD (hsel:Region.noSelect ops=true) (nU:Region.sinkB .any ops n=true):∀ (l:List (Bool×Nat)) (listed:Array Bool) (a:Act) (w:World),yc ops n l listed=true->Closed ops listed->(l=[]\/S w)->lW P ops (NP Q) S l a w->gZ P ops (NP Q) n S l.length listed a w
  | [],listed,a,w,hb,_,_,h=>⟨List.isEmpty_iff.1 hb,h⟩
  | (false,i)::l,listed,a,w,hb,hc,_,h=>by
    unfold yc at hb
    simp only [Bool.and_eq_true,beq_iff_eq] at hb
    obtain⟨⟨h1,h2⟩,h3⟩:=hb
    refine⟨fun h0=>(by rw [h1] at h0;cases h0),fun j hj=>?_⟩
    have hr:=hj
    rw [h1] at hj
    have hj:j=i:=by simpa using hj
    subst hj
    refine wpOp_mono (fun a' w' h4=>⟨?_,zD hsel nU l _ a' w' h3 (hc.set hr) h4.1 h4.2⟩) h
    rcases h4.1 with h5|h5
    ·subst h5;exact .inl (by simpa using h2)
    exact .inr h5
  | (true,i)::l,listed,a,w,hb,hc,hS,h=>by
    unfold yc at hb
    simp only [Bool.and_eq_true,decide_eq_true_iff] at hb
    obtain⟨⟨⟨h1,h2⟩,h3⟩,h4⟩:=hb
    obtain⟨o,v,ho,hy,hk⟩:=h
    have hS:S w:=hS.resolve_left (by simp)
    have hr:i∈Region.ready .any ops listed:=by simpa using h3
    exact rz ho hsel nU h1 l.length listed a w hc (Region.free_spec ho h2) hr hy hS (zD hsel nU l _ _ w h4 (hc.set hr) (.inr hS) hk)
def G0 (ops:Array Oper) (l:List (Bool×Nat)):Bool:=
  Region.noSelect ops && Region.sinkB .any ops (ops.size - 1) && (l.length == ops.size) && yc ops (ops.size - 1) l (Array.replicate ops.size false)
def qN (ops:Array Oper) (i:Nat):Array Oper:=⟨ops.toList.take (i+1)⟩
def gB (ops:Array Oper) (i:Nat):Bool:=match ops[i]? with
  | some o=>match o.guard with
    | none=>true
    | some (j,_)=>decide (j<=i)
  | none=>false
theorem KA {i j:Nat} (h:j<=i):(qN ops i)[j]?=ops[j]?:=by
  unfold qN
  obtain⟨l⟩:=ops
  simp only [List.getElem?_toArray,List.getElem?_take]
  rw [if_pos (by omega)]
theorem xg {i:Nat} {a:Act} {w:World} {K:Act->World->Prop} (hg:gB ops i=true) (h:wpList P (qN ops i) (NP fun _ a w=>K a w) ((qN ops i).toList.drop i) a w):wpOp P ops (NP Q) i K a w:=by
  unfold gB at hg
  split at hg
  ·rename_i o ho
   have hd:(qN ops i).toList.drop i=[o]:=by
     have hl:ops.toList[i]?=some o:=by simpa using ho
     have hi:i < ops.toList.length:=bE hl
     show (ops.toList.take (i+1)).drop i=[o]
     rw [List.drop_take]
     rw [show i+1 - i=1 by omega,List.drop_eq_getElem_cons hi]
     rw [List.getElem?_eq_getElem hi] at hl
     cases hl
     rfl
   have hw:Region.wanted o (yielded (qN ops i) a.tmps)=Region.wanted o (yielded ops a.tmps):=by
     unfold Region.wanted
     split at hg
     ·rename_i hn;rw [hn]
     rename_i j b hn
     rw [hn]
     have hj:j<=i:=by simpa using hg
     have:yielded (qN ops i) a.tmps j=yielded ops a.tmps j:=by
       unfold yielded
       rw [KA hj]
     simp only [this]
   rw [hd] at h
   unfold wpOp
   simp only [ho]
   unfold wpList at h
   rw [hw] at h
   split at h
   ·rename_i hw
    rw [if_pos hw]
    rcases h with h|⟨_,h⟩
    ·exact .inl (DB (Oper.wp_mono (fun a w h=>h) h))
    exact (nS h).elim
   rename_i hw
   rw [if_neg hw]
   exact h
  cases hg
end order
theorem qO {P:Program} {ops:Array Oper} {Q Q':Post} (hq:∀ a w,Q .normal a w->Q' .normal a w):∀ (l:List Oper) {a:Act} {w:World},wpList P ops (NP Q) l a w->wpList P ops (NP Q') l a w
  | [],_,_,h=>hq _ _ h
  | o::r,a,w,h=>by
    unfold wpList at *
    split
    ·rename_i hw
     rw [if_pos hw] at h
     rcases h with h|⟨_,h⟩
     ·exact .inl (DB (Oper.wp_mono (fun a w h=>qO hq r h) h))
     exact (nS h).elim
    rename_i hw
    rw [if_neg hw] at h
    exact qO hq r h
section mix
variable {P:Program} {β:Bs} {N:Nat} {ops:Array Oper} {S:List HP} {l l':List (Bool×Nat)} {fr fr':Fr} {hps:List HP} {Q:Post} {bF:List Prop} {i:Nat} {pk:List Nat}
def gX (P:Program) (β:Bs) (N:Nat) (ops:Array Oper) (S:List HP) (l:List (Bool×Nat)) (fr:Fr) (hps:List HP) (Q:Post):Prop:=
  ∀ junk w,Sat β hps w->lW P ops (NP Q) (Sat β S) l (cC N fr junk) w
theorem af.mF {id:Nat} (l:List (Bool×Nat)) (pk:List Nat) (hm:P.follows .mixedOrders=true) (hB:G0 ops l=true) (hn:bG pk=true) (hp:bV hps pk=some S) (h:gX P β N ops S l fr hps Q):af P β N (.region id ops true) fr hps Q:=by
  intro junk w hS
  unfold G0 at hB
  simp only [Bool.and_eq_true,beq_iff_eq] at hB
  obtain⟨⟨⟨h1,h2⟩,h3⟩,h4⟩:=hB
  have dR:=hS.drewN 1
  have h5:=zD (Q:=Q) h1 h2 l _ _ _ h4 (fun j oj _ hl=>by simp [Array.getD_eq_getD_getElem?,Array.getElem?_replicate] at hl;split at hl<;>simp at hl) (.inr (dR.pick hn hp)) (h junk (w.drewN 1) dR)
  rw [h3] at h5
  refine Code.wp_mono (fun e a w q=>?_) (wp_region_any hm (nT _ _ _ _ h5))
  cases e with
  | normal=>exact q
  | exit id=>exact q.elim
  | goto l=>exact q.elim
  | ret=>exact q.elim
  | panic ch=>exact q.elim
  | outgrown=>exact q.elim
def rW (P:Program) (β:Bs) (N:Nat) (junk:Nat->Value) (ops:Array Oper):List OH->List Nat->Fr->SS->Option (Fr×SS)
  | [],[],fr,S=>some (fr,S)
  | h::hs,i::is,fr,S=>
    match ops[i]? with
    | some o=>
      match Region.wanted o (yF ops N fr junk) with
      | true=>
        match q8 P β 0 true (dG N fr junk) o h S with
        | some (v,S')=>
          match vU v with
          | true=>rW P β N junk ops hs is (dM fr o.dst v) S'
          | false=>none
        | none=>none
      | false=>rW P β N junk ops hs is (dM fr o.dst undef) S
    | none=>none
  | _,_,_,_=>none
def zE (P:Program) (β:Bs) (N:Nat) (junk:Nat->Value) (ops:Array Oper) (hs:List OH) (is:List Nat) (fr:Fr) (S:List HP) (idx:List Nat):Option (Fr×List Prop):=
  match rW P β N junk ops hs is fr ⟨[],S,[],true⟩ with
  | some (fr',S')=>some (je fr' junk idx,S'.bF)
  | none=>none
theorem vl {junk:Nat->Value}:∀ {hs:List OH} {is:List Nat} {fr fr':Fr} {S S':SS},rW P β N junk ops hs is fr S=some (fr',S')->∀ p,p∈S.bF->p∈S'.bF
  | [],[],fr,fr',S,S',h,p,hp=>by cases h;exact hp
  | h::hs,i::is,fr,fr',S,S',hr,p,hp=>by
    unfold rW at hr
    repeat' split at hr
    all_goals first|(cases hr;done)|skip
    ·rename_i h0 _ _
     exact vl hr p (yQ h0 p hp)
    exact vl hr p hp
  | [],_::_,_,_,_,_,h,_,_=>by cases h
  | _::_,[],_,_,_,_,h,_,_=>by cases h
theorem rX {junk:Nat->Value} {w:World}:∀ {hs:List OH} {is:List Nat} {fr fr':Fr} {T T':SS},rW P β N junk ops hs is fr T=some (fr',T')->(∀ p,p∈T'.bF->p)->T.used=true->T.hps=S →
    lW P ops (NP Q) (Sat β S) l (cC N fr' junk) w->lW P ops (NP Q) (Sat β S) (is.map (fun i=>(true,i))++l) (cC N fr junk) w
  | [],[],fr,fr',T,T',h,ho,hu,hT,hK=>by cases h;exact hK
  | h::hs,i::is,fr,fr',T,T',hr,ho,hu,hT,hK=>by
    unfold rW at hr
    repeat' split at hr
    all_goals first|(cases hr;done)|skip
    ·rename_i o hget _ IX _ v T1 h0 _ hv
     obtain⟨e1,e2⟩:=tJ h0
     rw [List.map_cons,List.cons_append]
     unfold lW
     refine⟨o,v,hget,.inl ⟨by rw [eZ];exact IX,fun w' dR=>?_⟩,?_⟩
     ·rw [eH]
      obtain⟨w2,h1,_,_,h4⟩:=l6 h0 (fun p hp=>ho p (vl hr p hp)) (by rw [hT];exact dR) (fun e=>by rw [hu] at e;cases e)
      obtain⟨ew,_⟩:=h4 rfl
      rw [ew] at h1
      rcases h1 with h1|⟨h1,_⟩
      ·exact h1
      exact absurd h1 (sC hv)
     rw [eF]
     exact rX hr ho (e2.trans hu) (e1.trans hT) hK
    rename_i o hget _ IX
    rw [List.map_cons,List.cons_append]
    unfold lW
    refine⟨o,undef,hget,.inr ⟨by rw [eZ];exact IX,rfl⟩,?_⟩
    rw [eF]
    exact rX hr ho hu hT hK
  | [],_::_,_,_,_,_,h,_,_,_,_=>by cases h
  | _::_,[],_,_,_,_,h,_,_,_,_=>by cases h
theorem gX.reads (is:List Nat) (hs:List OH) (idx:List Nat) (h:∀ junk,zE P β N junk ops hs is fr S idx=some (fr',bF)) (ho:jS bF) (hl:l'=is.map (fun i=>(true,i))++l) (K:gX P β N ops S l fr' hps Q):gX P β N ops S l' fr hps Q:=by
  intro junk w hS
  subst hl
  have h0:=h junk
  unfold zE at h0
  split at h0
  ·rename_i lq S1 h1
   cases h0
   have hK:=K (lk lq junk) w hS
   rw [← jR] at hK
   exact rX h1 (fun p hp=>ho.mem hp) rfl rfl hK
  cases h0
theorem gG (l2:List (Bool×Nat)) (ox:Fr) (is:List Nat) (os:List (Nat×OP)) (K:gX P β N ops S l2 ox hps Q)
    (h:∀ junk,zE P β N junk ops (jt (gV is.length os 0)) is fr S (bU ox)=some (ox,owed (gV is.length os 0)):=by intro _;kernel_rfl) (hl:l'=is.map (fun i=>(true,i))++l2:=by rfl):gX P β N ops S l' fr hps Q:=
  gX.reads is (jt (gV is.length os 0)) (bU ox) h (oL _) hl K
theorem gX.cut {ι:Type} {fr':ι->Fr} {hp':ι->List HP} (pk:List Nat) (hg:gB ops i=true) (h:aj P β N (qN ops i) i fr hps (NP (nD β N fr' hp'))) (hn:bG pk=true) (hp:∀ j,bV (hp' j) pk=some S)
    (K:∀ j,gX P β N ops S l (fr' j) (hp' j) Q):gX P β N ops S ((false,i)::l) fr hps Q:=by
  intro junk w hS
  unfold lW
  refine xg hg (qO (Q':=_) (fun a w ⟨j,gF,ha,dR⟩=>?_) _ (h junk w hS))
  subst ha
  exact⟨.inr (dR.pick hn (hp j)),K j gF w dR⟩
theorem gX.last (hg:gB ops i=true) (h:aj P β N (qN ops i) i fr hps (NP Q)):gX P β N ops S [(false,i)] fr hps Q:=by
  intro junk w hS
  unfold lW
  exact xg hg (qO (Q':=_) (fun a w hq=>⟨.inl rfl,by unfold lW;exact hq⟩) _ (h junk w hS))
end mix
end
section
open Go.RowKit Go.Maps bL aB
attribute [local irreducible] aj aP af ai
abbrev G1 (cb:Nat) (c:aD):=(pC cb { c with other:=0,mode:=0,uid:=0,gid:=0,sec:=0,nano:=0 }:HP)
abbrev G2 (cb:Nat) (c:aD) (S:aG) (tk:Nat):=(pC cb { c with other:=0,mode:=0,uid:=0,gid:=0,sec:=0,nano:=0,answer:=(obj S.O tk).id }:HP)
abbrev Sc (cb:Nat) (c:aD) (S:aG) (tk:Nat):=(pC cb { c with other:=1,mode:=(obj S.O tk).mode,uid:=(obj S.O tk).uid,gid:=0,sec:=0,nano:=0,answer:=(obj S.O tk).id }:HP)
abbrev Sd (cb:Nat) (c:aD) (S:aG) (tk:Nat):=(pC cb { c with other:=1,mode:=(obj S.O tk).mode,uid:=(obj S.O tk).uid,gid:=(obj S.O tk).gid,sec:=0,nano:=0,answer:=(obj S.O tk).id }:HP)
abbrev Sg (cb:Nat) (c:aD) (S:aG) (tk:Nat):=(pC cb { c with other:=2,mode:=(obj S.O tk).mode,uid:=(obj S.O tk).uid,gid:=0,sec:=0,nano:=0,answer:=(obj S.O tk).id }:HP)
abbrev Sh (cb:Nat) (c:aD) (S:aG) (tk:Nat):=(pC cb { c with other:=2,mode:=(obj S.O tk).mode,uid:=(obj S.O tk).uid,gid:=(obj S.O tk).gid,sec:=0,nano:=0,answer:=(obj S.O tk).id }:HP)
abbrev Si (cb:Nat) (c:aD) (S:aG) (tk:Nat):=(pC cb { c with other:=3,mode:=(obj S.O tk).mode,uid:=(obj S.O tk).uid,gid:=0,sec:=0,nano:=0,answer:=(obj S.O tk).id }:HP)
abbrev Sj (cb:Nat) (c:aD) (S:aG) (tk:Nat):=(pC cb { c with other:=3,mode:=(obj S.O tk).mode,uid:=(obj S.O tk).uid,gid:=(obj S.O tk).gid,sec:=0,nano:=0,answer:=(obj S.O tk).id }:HP)
abbrev lF (S:aG) (tk:Nat):=([(44,vI ((obj S.O tk).uid)),(48,vI ((obj S.O tk).gid)),(52,.agg #[vI ((obj S.O tk).sec),vI ((obj S.O tk).nano)])]:Fr)
abbrev Ms (cb:Nat) (S:aG) (tk:Nat):=([(25,vP cb),(26,vP cb),(27,vP cb),(28,vP cb),(29,vP cb),(30,vP cb),(34,vI ((obj S.O tk).id))]:Fr)
abbrev Cu (cb:Nat) (S:aG) (tk:Nat):=([(30,vP cb),(48,vI ((obj S.O tk).gid)),(52,.agg #[vI ((obj S.O tk).sec),vI ((obj S.O tk).nano)])]:Fr)
abbrev qi (cb:Nat):=([(27,vP cb),(28,vP cb),(29,vP cb),(30,vP cb)]:Fr)
abbrev Mt (S:aG) (tk:Nat):=([(40,vI ((obj S.O tk).mode)),(44,vI ((obj S.O tk).uid)),(48,vI ((obj S.O tk).gid)),(52,.agg #[vI ((obj S.O tk).sec),vI ((obj S.O tk).nano)])]:Fr)
abbrev ql (f:Nat) (m:Nat) (t) (S:aG) (L:HL) (cb:Nat) (c) (R:cA):=([pF f m t S.X,pI m L S.idx,pO S.O L,pD S.O L,pE S.O L,pC cb c,.abs R]:List HP)
abbrev Cv:=([(2,vI 0),(6,vI 0),(7,vI 0),(8,vI 0),(9,vI 0),(10,vI 0)]:Fr)
abbrev Cw (t)(c:aD):=([(11,vP t),(15,vI (c.handle))]:Fr)
abbrev Cx (cb:Nat) (S:aG) (tk:Nat):=([(28,vP cb),(29,vP cb),(30,vP cb),(40,vI ((obj S.O tk).mode))]:Fr)
abbrev xh (L:HL) (to:Nat) (c:aD):=([(61,.map (some (L.m to))),(65,.string c.text)]:Fr)
abbrev Mu (S:aG) (tk:Nat) (cb:Nat):=([(52,.agg #[vI ((obj S.O tk).sec),vI ((obj S.O tk).nano)]),(64,.pointer (some ⟨cb,9,none⟩))]:Fr)
abbrev IY (L:HL) (tk:Nat):=([(5,.iface 129 (vP (L.b tk))),(6,vI 0)]:Fr)
abbrev IZ (L:HL) (tk:Nat):=([(5,.iface 135 (vP (L.b tk))),(6,vI 0)]:Fr)
abbrev Mv (t)(c:aD):=([(13,vP t),(17,vI (c.handle))]:Fr)
abbrev Mw (S:aG) (tk:Nat):=([(9,vI ((obj S.O tk).sec)),(10,vI ((obj S.O tk).nano))]:Fr)
theorem I0 {β:Bs} (S:aG) (L:HL) (f m t:Nat) (hI:Inv S) (cb:Nat) (c:aD) (hC:fQ β c) :
    Spec Tryz.prog β 95 #[vP f,vP cb] ((pA f m t L S)++[pC cb c]) (fun v l=>∃ L2,v=vI (cO S c).1/\l=((pA f m t L2 ((cO S c).2.1))++[.blk cb (bT ((cO S c).2.2)) 48])):=by
 have hX:=hI.hX
 refine Spec.enter Tryz.func95 rfl Tryz.ntmps95 (Nat.le_of_ble_eq_true rfl) (fun R=>?_)
 refine SR (gK 1 [] [] ?_)
 refine NN (af.seq (af.bI (by kernel_rfl) (by kernel_rfl) ?_))
 refine gQ 9 [(10,vP f),(14,vI (c.handle)),(18,.string c.name)] [(4,a_ 6 cb),(8,a_ 6 cb)] ?_
 rcases kU hI.toInv0 c.handle c.name 64 with ⟨e,hab,hne⟩|⟨d,hab,hd,iN,iH,dI⟩
 ·refine aP.call (f:=123) (args:=#[vP f,vI (c.handle),.string c.name,vI 64]) (d:=(some 19)) (pre:=(oF f m t S L)) (R:=(nO m L S cb c R)) (pk:=[0,2,3,1,4,5,6,7]) (iV:=[0,3,1,2,4,5,6,7]) (v0:=.tuple #[.pointer none,vI (e)]) (fun _=>by kernel_rfl) ((by have h:=ez S L f m t hI c.handle hC.hw c.name hC.nm 64 (β:=β);rw [hab] at h;exact h)) rfl (by kernel_rfl) rfl (by kernel_rfl) (fun _ _ h=>h) ?_
  refine gQ 5 [(5,.pointer none),(6,vI (e))] [] ?_
  refine NQ (NX (af.seq (SR ?_)))
  refine gK 2 [(23,.bool (!(decide ((e:Int)=(0:Int)))))] [] ?_
  refine NN (af.cY (p:=(e:Int)=(0:Int)) (fun _=>by kernel_rfl) (fun h23=>?_) (fun h23=>?_))
  ·refine SR (gK 2 [(4,vI (e))] [] ?_)
   refine NN (af.ret (ai.ak ?_))
   exact RT (vI (e)) [0,1,2,3,4,5,6,7] (⟨L,by rw [show (cO S c)=(e,S,c) by unfold cO;rw [hab]]<;>exact⟨rfl,rfl⟩⟩)
  exact absurd h23 hne
 have hkd:(obj S.O d).kind=2:=hI.kind hd
 refine aP.call (f:=123) (args:=#[vP f,vI (c.handle),.string c.name,vI 64]) (d:=(some 19)) (pre:=(oF f m t S L)) (R:=(nO m L S cb c R)) (pk:=[0,2,3,1,4,5,6,7]) (iV:=[0,3,1,2,4,5,6,7]) (v0:=.tuple #[vP (L.b d),vI 0]) (fun _=>by kernel_rfl) ((by have h:=ez S L f m t hI c.handle hC.hw c.name hC.nm 64 (β:=β);rw [hab] at h;exact h)) rfl (by kernel_rfl) rfl (by kernel_rfl) (fun _ _ h=>h) ?_
 refine gQ 5 (E7 L d) [] ?_
 refine NQ (NX (af.seq (SR ?_)))
 refine gK 2 [(23,.bool false)] [] ?_
 refine NN (CF (af.skip (NX (af.seq (af.bI (by kernel_rfl) (by kernel_rfl) ?_)))))
 refine gQ 9 [(26,vP f),(30,vI (c.other)),(34,.string c.text)] [(4,a_ 6 cb),(8,a_ 6 cb)] ?_
 rcases kU hI.toInv0 c.other c.text 192 with ⟨e2,jH,Fa⟩|⟨to,jH,hd2,Qr,Mr,TJ⟩
 ·refine aP.call (f:=123) (args:=#[vP f,vI (c.other),.string c.text,vI 192]) (d:=(some 35)) (pre:=(oF f m t S L)) (R:=(nO m L S cb c R)) (pk:=[0,2,3,1,4,5,6,7]) (iV:=[0,3,1,2,4,5,6,7]) (v0:=.tuple #[.pointer none,vI (e2)]) (fun _=>by kernel_rfl) ((by have h:=ez S L f m t hI c.other hC.ow c.text hC.tx 192 (β:=β);rw [jH] at h;exact h)) rfl (by kernel_rfl) rfl (by kernel_rfl) (fun _ _ h=>h) ?_
  refine gQ 5 [(6,vI (e2)),(7,.pointer none)] [] ?_
  refine NQ (NX (af.seq (SR ?_)))
  refine gK 2 [(39,.bool (!(decide ((e2:Int)=(0:Int)))))] [] ?_
  refine NN (af.cY (p:=(e2:Int)=(0:Int)) (fun _=>by kernel_rfl) (fun iW=>?_) (fun iW=>?_))
  ·refine SR (gK 2 [(4,vI (e2))] [] ?_)
   refine NN (af.ret (ai.ak ?_))
   exact RT (vI (e2)) [0,1,2,3,4,5,6,7] (⟨L,by rw [show (cO S c)=(e2,S,c) by unfold cO;rw [hab];simp only;rw [jH]]<;>exact⟨rfl,rfl⟩⟩)
  exact absurd iW Fa
 have eE:(obj S.O to).kind=2:=hI.kind hd2
 refine aP.call (f:=123) (args:=#[vP f,vI (c.other),.string c.text,vI 192]) (d:=(some 35)) (pre:=(oF f m t S L)) (R:=(nO m L S cb c R)) (pk:=[0,2,3,1,4,5,6,7]) (iV:=[0,3,1,2,4,5,6,7]) (v0:=.tuple #[vP (L.b to),vI 0]) (fun _=>by kernel_rfl) ((by have h:=ez S L f m t hI c.other hC.ow c.text hC.tx 192 (β:=β);rw [jH] at h;exact h)) rfl (by kernel_rfl) rfl (by kernel_rfl) (fun _ _ h=>h) ?_
 refine gQ 5 [(6,vI 0),(7,vP (L.b to))] [] ?_
 refine NQ (NX (af.seq (SR ?_)))
 refine gK 2 [(39,.bool false)] [] ?_
 refine NN (CF (af.skip (NX (af.seq ?_))))
 have hel:(obj S.O d).ah.length<=8192:=hI.fU hd
 have RL:=hC.nm
 rcases hI.lD hd c.name with hlk|⟨tk,hlk,hlv⟩|⟨tk,hlk,hlv⟩|⟨tk,hlk,hlv⟩
 ·refine af.bI (by kernel_rfl) (by kernel_rfl) ?_
  refine gQ 8 [(44,.map (some (L.m d))),(48,.string c.name)] [(3,v_ 3 (bC L hkd)),(7,a_ 6 cb)] ?_
  refine qv 5 hkd hlk ?_
  refine gQ 1 [(8,.nilIface)] [] ?_
  refine NQ (NX (af.seq (af.block (SR ?_))))
  refine gK 3 [(50,.bool true)] [] ?_
  refine NN (CT (SR (gK 1 [(4,vI 170)] [] ?_)))
  refine NN (af.ret (ai.aF (ai.ak ?_)))
  exact RT (vI 170) [0,1,2,3,4,5,6,7] (⟨L,by rw [show (cO S c)=(170,S,c) by unfold cO;rw [hab];simp only;rw [jH];simp only;rw [show (fB S d c.name to c.text)=(170,S) by unfold fB;rw [hlk]]]<;>exact⟨rfl,rfl⟩⟩)
 ·have hkt:(obj S.O tk).kind=1:=hI.kind hlv
  refine af.bI (by kernel_rfl) (by kernel_rfl) ?_
  refine gQ 8 [(44,.map (some (L.m d))),(48,.string c.name)] [(3,v_ 3 (bC L hkd)),(7,a_ 6 cb)] ?_
  refine qv 5 hkd hlk ?_
  refine gQ 1 [(8,.iface 129 (vP (L.b tk)))] [] ?_
  refine NQ (NX (af.seq (af.block (SR ?_))))
  refine gK 3 [(50,.bool false)] [] ?_
  refine NN (CF (SR (gK 1 [(54,.iface 129 (vP (L.b tk)))] [] ?_)))
  refine gL [] (lS (vP (L.b tk))) ?_
  rintro _ _ ⟨rfl,rfl⟩
  refine gK 2 [(53,.bool false)] [] ?_
  refine NN (CF (af.seq ?_))
  have zF:(obj S.O to).ah.length<=8192:=hI.fU hd2
  have KC:=hC.tx
  rcases hI.lD hd2 c.text with br|⟨ok,br,eG⟩|⟨ok,br,eG⟩|⟨ok,br,eG⟩
  ·refine af.bI (by kernel_rfl) (by kernel_rfl) ?_
   refine gQ 8 (xh L to c) [(3,v_ 3 (bC L eE)),(7,a_ 6 cb)] ?_
   refine qv 5 eE br ?_
   refine gQ 2 [(57,.bool false)] [] ?_
   refine NQ (NX ?_)
   refine CF (SR (gK 1 [(69,vP f)] [] ?_))
   refine gL [0] (tF S.X f m t) ?_
   rintro _ _ ⟨rfl,rfl⟩
   refine gK 2 [(68,.bool (!(decide (S.X.ah < 8192))))] [] ?_
   refine NN (af.cY (p:=S.X.ah < 8192) (fun _=>by kernel_rfl) (fun h68=>?_) (fun h68=>?_))
   ·refine SR (gK 1 [(4,vI 177)] [] ?_)
    refine NN (af.ret (ai.aF (ai.ak ?_)))
    exact RT (vI 177) [0,1,2,3,4,5,6,7] (⟨L,by rw [show (cO S c)=(177,S,c) by unfold cO;rw [hab];simp only;rw [jH];simp only;rw [show (fB S d c.name to c.text)=(177,S) by unfold fB;rw [hlk];exact (if_neg (by simp)).trans ((if_pos br).trans (if_neg h68))]]<;>exact⟨rfl,rfl⟩⟩)
   refine af.skip (ai.aJ (NX (SR ?_)))
   refine gK 7 [(72,vP f),(73,vP (L.b to)),(77,.string c.text),(78,.iface 129 (vP (L.b tk)))] [(5,a_ 6 cb)] ?_
   refine gL [0,3,5] (iB S.X f m t hX S.O L to eE c.text hC.tx br (by omega) ⟨tk,1⟩ hkt (by simp) (by have:=hI.lb hlv;simp only at this ⊢;omega)) ?_
   rintro _ _ ⟨rfl,rfl⟩
   refine NS (aj.dz [(5,.abs (ax (bN (di S.X S.O to c.text ⟨tk,1⟩) L)))] (fun w hS=>by rw [show bN (di S.X S.O to c.text ⟨tk,1⟩) L=bN S.O L from gS];exact hS) ?_)
   refine gK 1 [(4,vI 0)] [] ?_
   refine NN (af.ret ?_)
   exact RT (vI 0) [0,3,4,1,5,2,6,7] (⟨L,by rw [show (cO S c)=(0,{ S with X:={ S.X with ah:=S.X.ah+1 },O:=di S.X S.O to c.text ⟨tk,1⟩ },c) by unfold cO;rw [hab];simp only;rw [jH];simp only;rw [show (fB S d c.name to c.text)=(0,{ S with X:={ S.X with ah:=S.X.ah+1 },O:=di S.X S.O to c.text ⟨tk,1⟩ }) by unfold fB;rw [hlk];exact (if_neg (by simp)).trans ((if_pos br).trans (if_pos h68))]]<;>exact⟨rfl,rfl⟩⟩)
  ·have kB:(obj S.O ok).kind=1:=hI.kind eG
   refine af.bI (by kernel_rfl) (by kernel_rfl) ?_
   refine gQ 8 (xh L to c) [(3,v_ 3 (bC L eE)),(7,a_ 6 cb)] ?_
   refine qv 5 eE br ?_
   refine gQ 2 [(57,.bool true)] [] ?_
   refine NQ (NX ?_)
   refine CT (SR (gK 1 [(4,vI 171)] [] ?_))
   refine NN (af.ret (ai.aF (ai.ak ?_)))
   exact RT (vI 171) [0,1,2,3,4,5,6,7] (⟨L,by rw [show (cO S c)=(171,S,c) by unfold cO;rw [hab];simp only;rw [jH];simp only;rw [show (fB S d c.name to c.text)=(171,S) by unfold fB;rw [hlk];exact (if_neg (by simp)).trans (if_neg (by rw [br];simp))]]<;>exact⟨rfl,rfl⟩⟩)
  ·have kB:(obj S.O ok).kind=2:=hI.kind eG
   refine af.bI (by kernel_rfl) (by kernel_rfl) ?_
   refine gQ 8 (xh L to c) [(3,v_ 3 (bC L eE)),(7,a_ 6 cb)] ?_
   refine qv 5 eE br ?_
   refine gQ 2 [(57,.bool true)] [] ?_
   refine NQ (NX ?_)
   refine CT (SR (gK 1 [(4,vI 171)] [] ?_))
   refine NN (af.ret (ai.aF (ai.ak ?_)))
   exact RT (vI 171) [0,1,2,3,4,5,6,7] (⟨L,by rw [show (cO S c)=(171,S,c) by unfold cO;rw [hab];simp only;rw [jH];simp only;rw [show (fB S d c.name to c.text)=(171,S) by unfold fB;rw [hlk];exact (if_neg (by simp)).trans (if_neg (by rw [br];simp))]]<;>exact⟨rfl,rfl⟩⟩)
  have kB:(obj S.O ok).kind=3:=hI.kind eG
  refine af.bI (by kernel_rfl) (by kernel_rfl) ?_
  refine gQ 8 (xh L to c) [(3,v_ 3 (bC L eE)),(7,a_ 6 cb)] ?_
  refine qv 5 eE br ?_
  refine gQ 2 [(57,.bool true)] [] ?_
  refine NQ (NX ?_)
  refine CT (SR (gK 1 [(4,vI 171)] [] ?_))
  refine NN (af.ret (ai.aF (ai.ak ?_)))
  exact RT (vI 171) [0,1,2,3,4,5,6,7] (⟨L,by rw [show (cO S c)=(171,S,c) by unfold cO;rw [hab];simp only;rw [jH];simp only;rw [show (fB S d c.name to c.text)=(171,S) by unfold fB;rw [hlk];exact (if_neg (by simp)).trans (if_neg (by rw [br];simp))]]<;>exact⟨rfl,rfl⟩⟩)
 ·have hkt:(obj S.O tk).kind=2:=hI.kind hlv
  refine af.bI (by kernel_rfl) (by kernel_rfl) ?_
  refine gQ 8 [(44,.map (some (L.m d))),(48,.string c.name)] [(3,v_ 3 (bC L hkd)),(7,a_ 6 cb)] ?_
  refine qv 5 hkd hlk ?_
  refine gQ 1 [(8,.iface 135 (vP (L.b tk)))] [] ?_
  refine NQ (NX (af.seq (af.block (SR ?_))))
  refine gK 3 [(50,.bool false)] [] ?_
  refine NN (CF (SR (gK 1 [(54,.iface 135 (vP (L.b tk)))] [] ?_)))
  refine gL [] (lT (vP (L.b tk))) ?_
  rintro _ _ ⟨rfl,rfl⟩
  refine gK 2 [(53,.bool true)] [] ?_
  refine NN (CT (SR (gK 1 [(4,vI 172)] [] ?_)))
  refine NN (af.ret (ai.aF (ai.ak ?_)))
  exact RT (vI 172) [0,1,2,3,4,5,6,7] (⟨L,by rw [show (cO S c)=(172,S,c) by unfold cO;rw [hab];simp only;rw [jH];simp only;rw [show (fB S d c.name to c.text)=(172,S) by unfold fB;rw [hlk];exact if_pos rfl]]<;>exact⟨rfl,rfl⟩⟩)
 have hkt:(obj S.O tk).kind=3:=hI.kind hlv
 refine af.bI (by kernel_rfl) (by kernel_rfl) ?_
 refine gQ 8 [(44,.map (some (L.m d))),(48,.string c.name)] [(3,v_ 3 (bC L hkd)),(7,a_ 6 cb)] ?_
 refine qv 5 hkd hlk ?_
 refine gQ 1 [(8,.iface 132 (vP (L.b tk)))] [] ?_
 refine NQ (NX (af.seq (af.block (SR ?_))))
 refine gK 3 [(50,.bool false)] [] ?_
 refine NN (CF (SR (gK 1 [(54,.iface 132 (vP (L.b tk)))] [] ?_)))
 refine gL [] (nj (vP (L.b tk))) ?_
 rintro _ _ ⟨rfl,rfl⟩
 refine gK 2 [(53,.bool false)] [] ?_
 refine NN (CF (af.seq ?_))
 have zF:(obj S.O to).ah.length<=8192:=hI.fU hd2
 have KC:=hC.tx
 rcases hI.lD hd2 c.text with br|⟨ok,br,eG⟩|⟨ok,br,eG⟩|⟨ok,br,eG⟩
 ·refine af.bI (by kernel_rfl) (by kernel_rfl) ?_
  refine gQ 8 (xh L to c) [(3,v_ 3 (bC L eE)),(7,a_ 6 cb)] ?_
  refine qv 5 eE br ?_
  refine gQ 2 [(57,.bool false)] [] ?_
  refine NQ (NX ?_)
  refine CF (SR (gK 1 [(69,vP f)] [] ?_))
  refine gL [0] (tF S.X f m t) ?_
  rintro _ _ ⟨rfl,rfl⟩
  refine gK 2 [(68,.bool (!(decide (S.X.ah < 8192))))] [] ?_
  refine NN (af.cY (p:=S.X.ah < 8192) (fun _=>by kernel_rfl) (fun h68=>?_) (fun h68=>?_))
  ·refine SR (gK 1 [(4,vI 177)] [] ?_)
   refine NN (af.ret (ai.aF (ai.ak ?_)))
   exact RT (vI 177) [0,1,2,3,4,5,6,7] (⟨L,by rw [show (cO S c)=(177,S,c) by unfold cO;rw [hab];simp only;rw [jH];simp only;rw [show (fB S d c.name to c.text)=(177,S) by unfold fB;rw [hlk];exact (if_neg (by simp)).trans ((if_pos br).trans (if_neg h68))]]<;>exact⟨rfl,rfl⟩⟩)
  refine af.skip (ai.aJ (NX (SR ?_)))
  refine gK 7 [(72,vP f),(73,vP (L.b to)),(77,.string c.text),(78,.iface 132 (vP (L.b tk)))] [(5,a_ 6 cb)] ?_
  refine gL [0,3,5] (iB S.X f m t hX S.O L to eE c.text hC.tx br (by omega) ⟨tk,3⟩ hkt (by simp) (by have:=hI.lb hlv;simp only at this ⊢;omega)) ?_
  rintro _ _ ⟨rfl,rfl⟩
  refine NS (aj.dz [(5,.abs (ax (bN (di S.X S.O to c.text ⟨tk,3⟩) L)))] (fun w hS=>by rw [show bN (di S.X S.O to c.text ⟨tk,3⟩) L=bN S.O L from gS];exact hS) ?_)
  refine gK 1 [(4,vI 0)] [] ?_
  refine NN (af.ret ?_)
  exact RT (vI 0) [0,3,4,1,5,2,6,7] (⟨L,by rw [show (cO S c)=(0,{ S with X:={ S.X with ah:=S.X.ah+1 },O:=di S.X S.O to c.text ⟨tk,3⟩ },c) by unfold cO;rw [hab];simp only;rw [jH];simp only;rw [show (fB S d c.name to c.text)=(0,{ S with X:={ S.X with ah:=S.X.ah+1 },O:=di S.X S.O to c.text ⟨tk,3⟩ }) by unfold fB;rw [hlk];exact (if_neg (by simp)).trans ((if_pos br).trans (if_pos h68))]]<;>exact⟨rfl,rfl⟩⟩)
 ·have kB:(obj S.O ok).kind=1:=hI.kind eG
  refine af.bI (by kernel_rfl) (by kernel_rfl) ?_
  refine gQ 8 (xh L to c) [(3,v_ 3 (bC L eE)),(7,a_ 6 cb)] ?_
  refine qv 5 eE br ?_
  refine gQ 2 [(57,.bool true)] [] ?_
  refine NQ (NX ?_)
  refine CT (SR (gK 1 [(4,vI 171)] [] ?_))
  refine NN (af.ret (ai.aF (ai.ak ?_)))
  exact RT (vI 171) [0,1,2,3,4,5,6,7] (⟨L,by rw [show (cO S c)=(171,S,c) by unfold cO;rw [hab];simp only;rw [jH];simp only;rw [show (fB S d c.name to c.text)=(171,S) by unfold fB;rw [hlk];exact (if_neg (by simp)).trans (if_neg (by rw [br];simp))]]<;>exact⟨rfl,rfl⟩⟩)
 ·have kB:(obj S.O ok).kind=2:=hI.kind eG
  refine af.bI (by kernel_rfl) (by kernel_rfl) ?_
  refine gQ 8 (xh L to c) [(3,v_ 3 (bC L eE)),(7,a_ 6 cb)] ?_
  refine qv 5 eE br ?_
  refine gQ 2 [(57,.bool true)] [] ?_
  refine NQ (NX ?_)
  refine CT (SR (gK 1 [(4,vI 171)] [] ?_))
  refine NN (af.ret (ai.aF (ai.ak ?_)))
  exact RT (vI 171) [0,1,2,3,4,5,6,7] (⟨L,by rw [show (cO S c)=(171,S,c) by unfold cO;rw [hab];simp only;rw [jH];simp only;rw [show (fB S d c.name to c.text)=(171,S) by unfold fB;rw [hlk];exact (if_neg (by simp)).trans (if_neg (by rw [br];simp))]]<;>exact⟨rfl,rfl⟩⟩)
 have kB:(obj S.O ok).kind=3:=hI.kind eG
 refine af.bI (by kernel_rfl) (by kernel_rfl) ?_
 refine gQ 8 (xh L to c) [(3,v_ 3 (bC L eE)),(7,a_ 6 cb)] ?_
 refine qv 5 eE br ?_
 refine gQ 2 [(57,.bool true)] [] ?_
 refine NQ (NX ?_)
 refine CT (SR (gK 1 [(4,vI 171)] [] ?_))
 refine NN (af.ret (ai.aF (ai.ak ?_)))
 exact RT (vI 171) [0,1,2,3,4,5,6,7] (⟨L,by rw [show (cO S c)=(171,S,c) by unfold cO;rw [hab];simp only;rw [jH];simp only;rw [show (fB S d c.name to c.text)=(171,S) by unfold fB;rw [hlk];exact (if_neg (by simp)).trans (if_neg (by rw [br];simp))]]<;>exact⟨rfl,rfl⟩⟩)
theorem Ge {β:Bs} (S:aG) (L:HL) (f m t:Nat) (hI:Inv S) (cb:Nat) (c:aD) (hC:fQ β c) :
    Spec Tryz.prog β 97 #[vP f,vP cb] ((pA f m t L S)++[pC cb c]) (fun v l=>∃ L2,v=vI (fY S c).1/\l=((pA f m t L2 ((fY S c).2.1))++[.blk cb (bT ((fY S c).2.2)) 48])):=by
 have hX:=hI.hX
 refine Spec.enter Tryz.func97 rfl Tryz.ntmps97 (Nat.le_of_ble_eq_true rfl) (fun R=>?_)
 refine af.seq ?_
 rcases hI.hand c.handle with dI|⟨tk,dI,hlv⟩|⟨tk,dI,hlv⟩
 ·refine af.region (gK 1 [] [] ?_)
  refine NN (af.seq (af.bI (by kernel_rfl) (by kernel_rfl) ?_))
  refine gQ 8 (Mv t c) [(3,a_ 0 f),(7,a_ 6 cb)] ?_
  refine aP.call (f:=132) (args:=#[vP t,vI (c.handle)]) (d:=(some 18)) (pre:=[jQ t S L]) (R:=(ql f m t S L cb c R)) (pk:=[2,0,1,3,4,5,6,7]) (iV:=[1,2,0,3,4,5,6,7]) (v0:=.tuple #[.nilIface,vI 131]) (fun _=>by kernel_rfl) (pX t S.X.cH S.av (bn L S.us) c.handle hC.hw (oV dI)) rfl (by kernel_rfl) rfl (by kernel_rfl) (fun _ _ h=>h) ?_
  refine gQ 5 [(5,.nilIface),(6,vI 131)] [] ?_
  refine NQ (NX (af.seq (SR ?_)))
  refine gK 2 [(22,.bool true)] [] ?_
  refine NN (CT (SR (gK 2 [(4,vI 131)] [] ?_)))
  refine NN (af.ret (ai.ak ?_))
  exact RT (vI 131) [0,1,2,3,4,5,6,7] (⟨L,by rw [show (fY S c)=(131,S,c) by unfold fY;rw [dI]]<;>exact⟨rfl,rfl⟩⟩)
 ·have hkt:(obj S.O tk).kind=1:=hI.kind hlv
  refine af.region (gK 1 [] [] ?_)
  refine NN (af.seq (af.bI (by kernel_rfl) (by kernel_rfl) ?_))
  refine gQ 8 (Mv t c) [(3,a_ 0 f),(7,a_ 6 cb)] ?_
  refine aP.call (f:=132) (args:=#[vP t,vI (c.handle)]) (d:=(some 18)) (pre:=[jQ t S L]) (R:=(ql f m t S L cb c R)) (pk:=[2,0,1,3,4,5,6,7]) (iV:=[1,2,0,3,4,5,6,7]) (v0:=.tuple #[.iface 129 (vP (L.b tk)),vI 0]) (fun _=>by kernel_rfl) (kN t S.X.cH S.av (bn L S.us) c.handle hC.hw (dJ L ⟨tk,1⟩) (jW dI)) rfl (by kernel_rfl) rfl (by kernel_rfl) (fun _ _ h=>h) ?_
  refine gQ 5 (IY L tk) [] ?_
  refine NQ (NX (af.seq (SR ?_)))
  refine gK 2 [(22,.bool false)] [] ?_
  refine NN (CF (af.skip (NX (SR (gK 7 [(7,vP (L.b tk)),(8,.bool true)] [] ?_)))))
  refine NN (af.seq (SR (gK 2 [(30,.bool false)] [] ?_)))
  refine NN (CF (af.skip (NX (SR (gK 7 [(32,vP cb),(33,vP f),(34,vP (L.b tk)),(38,.slice c.dA (c.data.length) (c.dC))] [(6,a_ 6 cb)] ?_)))))
  refine gL [0,1,2,3,4,5] (Di S L f m t hI tk hlv c.dA c.dC c.data hC.da hC.dl hC.dc) ?_
  rintro _ _ ⟨L2,rfl,rfl⟩
  refine gC 7 [(6,vI ((dO S tk c.data).2.1))] [(5,a_ 6 cb)] [(6,[(12,vI ((dO S tk c.data).1))])] ?_
  refine NS (gK 2 [(4,vI ((dO S tk c.data).2.1))] [] ?_)
  refine NN (af.ret ?_)
  exact RT (vI ((dO S tk c.data).2.1)) [0,1,2,3,4,5,6,7] (⟨L2,by rw [show (fY S c)=((dO S tk c.data).2.1,(dO S tk c.data).2.2,{ c with answer:=(dO S tk c.data).1 }) by unfold fY;rw [dI];exact if_pos rfl]<;>exact⟨rfl,rfl⟩⟩)
 have hkt:(obj S.O tk).kind=2:=hI.kind hlv
 refine af.region (gK 1 [] [] ?_)
 refine NN (af.seq (af.bI (by kernel_rfl) (by kernel_rfl) ?_))
 refine gQ 8 (Mv t c) [(3,a_ 0 f),(7,a_ 6 cb)] ?_
 refine aP.call (f:=132) (args:=#[vP t,vI (c.handle)]) (d:=(some 18)) (pre:=[jQ t S L]) (R:=(ql f m t S L cb c R)) (pk:=[2,0,1,3,4,5,6,7]) (iV:=[1,2,0,3,4,5,6,7]) (v0:=.tuple #[.iface 135 (vP (L.b tk)),vI 0]) (fun _=>by kernel_rfl) (kN t S.X.cH S.av (bn L S.us) c.handle hC.hw (dJ L ⟨tk,2⟩) (jW dI)) rfl (by kernel_rfl) rfl (by kernel_rfl) (fun _ _ h=>h) ?_
 refine gQ 5 (IZ L tk) [] ?_
 refine NQ (NX (af.seq (SR ?_)))
 refine gK 2 [(22,.bool false)] [] ?_
 refine NN (CF (af.skip (NX (SR (gK 7 [(7,.pointer none),(8,.bool false)] [] ?_)))))
 refine NN (af.seq (SR (gK 2 [(30,.bool true)] [] ?_)))
 refine NN (CT (SR (gK 1 [(4,vI 172)] [] ?_)))
 refine NN (af.ret (ai.ak ?_))
 exact RT (vI 172) [0,1,2,3,4,5,6,7] (⟨L,by rw [show (fY S c)=(172,S,c) by unfold fY;rw [dI];exact if_neg (by simp)]<;>exact⟨rfl,rfl⟩⟩)
theorem nu {β:Bs} (S:aG) (L:HL) (hI:Inv S) (cb:Nat) (c:aD) (ot:Option Th) (ht:ot=none\/(∃ k,ot=some ⟨k,1⟩/\Live S.idx ⟨k,1⟩)\/(∃ k,ot=some ⟨k,2⟩/\Live S.idx ⟨k,2⟩)\/∃ k,ot=some ⟨k,3⟩/\Live S.idx ⟨k,3⟩) :
    Spec Tryz.prog β 134 #[vP cb,(match ot with|none=>.nilIface|some th=>dJ L th)] [pO S.O L,pC cb c] (fun v l=>v=.tuple #[]/\l=[pO S.O L,.blk cb (bT (lC S.O c ot)) 48]):=by
 refine Spec.enter Tryz.func134 rfl Tryz.ntmps134 (Nat.le_of_ble_eq_true rfl) (fun R=>?_)
 refine af.seq ?_
 rcases ht with rfl|⟨tk,rfl,hlv⟩|⟨tk,rfl,hlv⟩|⟨tk,rfl,hlv⟩
 ·refine af.region (gC 21 [] [(8,a_ 1 cb),(11,a_ 1 cb),(14,a_ 1 cb),(17,a_ 1 cb),(20,A_ 1 cb 2)] [(1,(Cv))] ?_)
  refine NN (af.seq (SR (gK 2 [(22,.bool true)] [] ?_)))
  refine NN (CT (af.ret (ai.ak ?_)))
  exact RT (.tuple #[]) [0,1,2] (⟨rfl,rfl⟩)
 ·have hkt:(obj S.O tk).kind=1:=hI.kind hlv
  refine af.region (gC 21 [] [(8,a_ 1 cb),(11,a_ 1 cb),(14,a_ 1 cb),(17,a_ 1 cb),(20,A_ 1 cb 2)] [(1,(Cv))] ?_)
  refine NN (af.seq (SR (gK 2 [(22,.bool false)] [] ?_)))
  refine NN (CF (af.skip (NX (SR (gK 1 [(23,.iface 129 (vP (L.b tk)))] [] ?_)))))
  refine gL [] (dm (L.b tk)) ?_
  rintro _ _ ⟨rfl,rfl⟩
  refine gK 1 [(4,vP (L.b tk))] [] ?_
  refine NN (af.bR (S:=[pO S.O L]) [0,1,2,3,4,5,6,7,8,9,10,12,13,14,15,16,17,18,19,20,21,22,23,24,25,26,27,11,28,29,30,31,32,33,34,35,36,37,38,39,40,41,42,43,44,45] 27 [0] (by kernel_rfl) (by kernel_rfl) rfl (by kernel_rfl) ?_)
  refine gR 0 [11,28,29,30,31,32,33,34,35,36,37,38,39,40,41,42,43,44,45] (Ms cb S tk++[(35,.iface 129 (vP (L.b tk)))]++Mt S tk) [0,1,2,3,4,5,6,7,8,9,10,12,13,14,15,16,17,18,19,20,21,22,23,24,25,26,27] [(9,v_ 0 (qh L hkt)),(14,v_ 0 (rS L hkt)),(18,v_ 0 (x6 L hkt)),(22,v_ 0 (x7 L hkt)),(26,p_ ⟨[.view 0 (.int .i64 ((obj S.O tk).sec)),.view 0 (.int .i64 ((obj S.O tk).nano))],none,none,none,none⟩ [(∀ F w,(ax (bM S.O L)).h F w->w.cell? ⟨(L.b tk),5,none⟩=some (vI ((obj S.O tk).nano))),(∀ F w,(ax (bM S.O L)).h F w->w.cell? ⟨(L.b tk),4,none⟩=some (vI ((obj S.O tk).sec)))] ⟨dY (by rw [hkt];decide) (rfl),dY (by rw [hkt];decide) (rfl),trivial⟩)] ?_
  refine mL [0] [] (lS (vP (L.b tk))) ?_ (by rintro _ _ ⟨rfl,rfl⟩;rfl)
  rintro _ _ ⟨rfl,rfl⟩
  refine aK.cut (ι:=Unit) (fr':=fun (_:Unit)=>([(26,vP cb)]++qi cb++[(34,vI ((obj S.O tk).id)),(36,vI 1),(40,vI ((obj S.O tk).mode))]++lF S tk++[(53,vP cb)])) (hp':=fun (_:Unit)=>[pO S.O L,G1 cb c,.abs R]) [0] rfl rfl ?_ rfl (fun _=>by kernel_rfl) ?_
  ·refine gK 1 [(53,vP cb)] [] ?_
   refine NL ?_
   exact MD () [26,27,28,29,30,34,36,40,44,48,52,53] [0,1,2]
  rintro _
  refine aK.cut (ι:=Unit) (fr':=fun (_:Unit)=>([(26,vP cb)]++qi cb++[(34,vI ((obj S.O tk).id)),(36,vI 1),(40,vI ((obj S.O tk).mode))]++lF S tk++[(54,.pointer (some ⟨cb,12,none⟩))])) (hp':=fun (_:Unit)=>[pO S.O L,G1 cb c,.abs R]) [0] rfl rfl ?_ rfl (fun _=>by kernel_rfl) ?_
  ·refine gK 1 [(54,.pointer (some ⟨cb,12,none⟩))] [] ?_
   refine NL ?_
   exact MD () [26,27,28,29,30,34,36,40,44,48,52,54] [0,1,2]
  rintro _
  refine mC [0] [] [(0,a_ 1 cb)] [(1,[(12,vI ((obj S.O tk).id))])] ?_
  refine aK.cut (ι:=Unit) (fr':=fun (_:Unit)=>(qi cb++[(36,vI 1),(40,vI ((obj S.O tk).mode))]++lF S tk++[(55,vP cb)])) (hp':=fun (_:Unit)=>[pO S.O L,G2 cb c S tk,.abs R]) [0] rfl rfl ?_ rfl (fun _=>by kernel_rfl) ?_
  ·refine gK 1 [(55,vP cb)] [] ?_
   refine NL ?_
   exact MD () [27,28,29,30,36,40,44,48,52,55] [0,1,2]
  rintro _
  refine aK.cut (ι:=Unit) (fr':=fun (_:Unit)=>(qi cb++[(36,vI 1),(40,vI ((obj S.O tk).mode))]++lF S tk++[(56,.pointer (some ⟨cb,2,none⟩))])) (hp':=fun (_:Unit)=>[pO S.O L,G2 cb c S tk,.abs R]) [0] rfl rfl ?_ rfl (fun _=>by kernel_rfl) ?_
  ·refine gK 1 [(56,.pointer (some ⟨cb,2,none⟩))] [] ?_
   refine NL ?_
   exact MD () [27,28,29,30,36,40,44,48,52,56] [0,1,2]
  rintro _
  refine mC [0] [] [(0,a_ 1 cb)] [(1,[(2,vI 1)])] ?_
  refine aK.cut (ι:=Unit) (fr':=fun (_:Unit)=>(Cx cb S tk++lF S tk++[(57,vP cb)])) (hp':=fun (_:Unit)=>[pO S.O L,pC cb { c with other:=1,mode:=0,uid:=0,gid:=0,sec:=0,nano:=0,answer:=(obj S.O tk).id },.abs R]) [0] rfl rfl ?_ rfl (fun _=>by kernel_rfl) ?_
  ·refine gK 1 [(57,vP cb)] [] ?_
   refine NL ?_
   exact MD () [28,29,30,40,44,48,52,57] [0,1,2]
  rintro _
  refine aK.cut (ι:=Unit) (fr':=fun (_:Unit)=>(Cx cb S tk++lF S tk++[(58,.pointer (some ⟨cb,6,none⟩))])) (hp':=fun (_:Unit)=>[pO S.O L,pC cb { c with other:=1,mode:=0,uid:=0,gid:=0,sec:=0,nano:=0,answer:=(obj S.O tk).id },.abs R]) [0] rfl rfl ?_ rfl (fun _=>by kernel_rfl) ?_
  ·refine gK 1 [(58,.pointer (some ⟨cb,6,none⟩))] [] ?_
   refine NL ?_
   exact MD () [28,29,30,40,44,48,52,58] [0,1,2]
  rintro _
  refine mC [0] [] [(0,a_ 1 cb)] [(1,[(6,vI ((obj S.O tk).mode))])] ?_
  refine aK.cut (ι:=Unit) (fr':=fun (_:Unit)=>([(29,vP cb),(30,vP cb)]++lF S tk++[(59,vP cb)])) (hp':=fun (_:Unit)=>[pO S.O L,pC cb { c with other:=1,mode:=(obj S.O tk).mode,uid:=0,gid:=0,sec:=0,nano:=0,answer:=(obj S.O tk).id },.abs R]) [0] rfl rfl ?_ rfl (fun _=>by kernel_rfl) ?_
  ·refine gK 1 [(59,vP cb)] [] ?_
   refine NL ?_
   exact MD () [29,30,44,48,52,59] [0,1,2]
  rintro _
  refine aK.cut (ι:=Unit) (fr':=fun (_:Unit)=>([(29,vP cb),(30,vP cb)]++lF S tk++[(60,.pointer (some ⟨cb,7,none⟩))])) (hp':=fun (_:Unit)=>[pO S.O L,pC cb { c with other:=1,mode:=(obj S.O tk).mode,uid:=0,gid:=0,sec:=0,nano:=0,answer:=(obj S.O tk).id },.abs R]) [0] rfl rfl ?_ rfl (fun _=>by kernel_rfl) ?_
  ·refine gK 1 [(60,.pointer (some ⟨cb,7,none⟩))] [] ?_
   refine NL ?_
   exact MD () [29,30,44,48,52,60] [0,1,2]
  rintro _
  refine mC [0] [] [(0,a_ 1 cb)] [(1,[(7,vI ((obj S.O tk).uid))])] ?_
  refine aK.cut (ι:=Unit) (fr':=fun (_:Unit)=>(Cu cb S tk++[(61,vP cb)])) (hp':=fun (_:Unit)=>[pO S.O L,Sc cb c S tk,.abs R]) [0] rfl rfl ?_ rfl (fun _=>by kernel_rfl) ?_
  ·refine gK 1 [(61,vP cb)] [] ?_
   refine NL ?_
   exact MD () [30,48,52,61] [0,1,2]
  rintro _
  refine aK.cut (ι:=Unit) (fr':=fun (_:Unit)=>(Cu cb S tk++[(62,.pointer (some ⟨cb,8,none⟩))])) (hp':=fun (_:Unit)=>[pO S.O L,Sc cb c S tk,.abs R]) [0] rfl rfl ?_ rfl (fun _=>by kernel_rfl) ?_
  ·refine gK 1 [(62,.pointer (some ⟨cb,8,none⟩))] [] ?_
   refine NL ?_
   exact MD () [30,48,52,62] [0,1,2]
  rintro _
  refine mC [0] [] [(0,a_ 1 cb)] [(1,[(8,vI ((obj S.O tk).gid))])] ?_
  refine aK.cut (ι:=Unit) (fr':=fun (_:Unit)=>[(52,.agg #[vI ((obj S.O tk).sec),vI ((obj S.O tk).nano)]),(63,vP cb)]) (hp':=fun (_:Unit)=>[pO S.O L,Sd cb c S tk,.abs R]) [0] rfl rfl ?_ rfl (fun _=>by kernel_rfl) ?_
  ·refine gK 1 [(63,vP cb)] [] ?_
   refine NL ?_
   exact MD () [52,63] [0,1,2]
  rintro _
  refine aK.cut (ι:=Unit) (fr':=fun (_:Unit)=>(Mu S tk cb)) (hp':=fun (_:Unit)=>[pO S.O L,Sd cb c S tk,.abs R]) [0] rfl rfl ?_ rfl (fun _=>by kernel_rfl) ?_
  ·refine gK 1 [(64,.pointer (some ⟨cb,9,none⟩))] [] ?_
   refine NL ?_
   exact MD () [52,64] [0,1,2]
  rintro _
  refine aK.last rfl rfl ?_
  refine gC 1 [] [(0,A_ 1 cb 2)] [(1,(Mw S tk))] ?_
  refine NL (ai.np ?_)
  exact RF (.tuple #[]) [0,1,2] (⟨rfl,rfl⟩)
 ·have hkt:(obj S.O tk).kind=2:=hI.kind hlv
  refine af.region (gC 21 [] [(8,a_ 1 cb),(11,a_ 1 cb),(14,a_ 1 cb),(17,a_ 1 cb),(20,A_ 1 cb 2)] [(1,(Cv))] ?_)
  refine NN (af.seq (SR (gK 2 [(22,.bool false)] [] ?_)))
  refine NN (CF (af.skip (NX (SR (gK 1 [(23,.iface 135 (vP (L.b tk)))] [] ?_)))))
  refine gL [] (dm (L.b tk)) ?_
  rintro _ _ ⟨rfl,rfl⟩
  refine gK 1 [(4,vP (L.b tk))] [] ?_
  refine NN (af.bR (S:=[pO S.O L]) [0,1,2,3,4,5,6,7,8,9,10,12,13,14,15,16,17,18,19,20,21,22,23,24,25,26,27,11,28,29,30,31,32,33,34,35,36,37,38,39,40,41,42,43,44,45] 27 [0] (by kernel_rfl) (by kernel_rfl) rfl (by kernel_rfl) ?_)
  refine gR 0 [11,28,29,30,31,32,33,34,35,36,37,38,39,40,41,42,43,44,45] (Ms cb S tk++[(35,.iface 135 (vP (L.b tk)))]++Mt S tk) [0,1,2,3,4,5,6,7,8,9,10,12,13,14,15,16,17,18,19,20,21,22,23,24,25,26,27] [(9,v_ 0 (qh L hkt)),(14,v_ 0 (rS L hkt)),(18,v_ 0 (x6 L hkt)),(22,v_ 0 (x7 L hkt)),(26,p_ ⟨[.view 0 (.int .i64 ((obj S.O tk).sec)),.view 0 (.int .i64 ((obj S.O tk).nano))],none,none,none,none⟩ [(∀ F w,(ax (bM S.O L)).h F w->w.cell? ⟨(L.b tk),5,none⟩=some (vI ((obj S.O tk).nano))),(∀ F w,(ax (bM S.O L)).h F w->w.cell? ⟨(L.b tk),4,none⟩=some (vI ((obj S.O tk).sec)))] ⟨dY (by rw [hkt];decide) (rfl),dY (by rw [hkt];decide) (rfl),trivial⟩)] ?_
  refine mL [0] [] (lT (vP (L.b tk))) ?_ (by rintro _ _ ⟨rfl,rfl⟩;rfl)
  rintro _ _ ⟨rfl,rfl⟩
  refine aK.cut (ι:=Unit) (fr':=fun (_:Unit)=>([(26,vP cb)]++qi cb++[(34,vI ((obj S.O tk).id)),(36,vI 2),(40,vI ((obj S.O tk).mode))]++lF S tk++[(53,vP cb)])) (hp':=fun (_:Unit)=>[pO S.O L,G1 cb c,.abs R]) [0] rfl rfl ?_ rfl (fun _=>by kernel_rfl) ?_
  ·refine gK 1 [(53,vP cb)] [] ?_
   refine NL ?_
   exact MD () [26,27,28,29,30,34,36,40,44,48,52,53] [0,1,2]
  rintro _
  refine aK.cut (ι:=Unit) (fr':=fun (_:Unit)=>([(26,vP cb)]++qi cb++[(34,vI ((obj S.O tk).id)),(36,vI 2),(40,vI ((obj S.O tk).mode))]++lF S tk++[(54,.pointer (some ⟨cb,12,none⟩))])) (hp':=fun (_:Unit)=>[pO S.O L,G1 cb c,.abs R]) [0] rfl rfl ?_ rfl (fun _=>by kernel_rfl) ?_
  ·refine gK 1 [(54,.pointer (some ⟨cb,12,none⟩))] [] ?_
   refine NL ?_
   exact MD () [26,27,28,29,30,34,36,40,44,48,52,54] [0,1,2]
  rintro _
  refine mC [0] [] [(0,a_ 1 cb)] [(1,[(12,vI ((obj S.O tk).id))])] ?_
  refine aK.cut (ι:=Unit) (fr':=fun (_:Unit)=>(qi cb++[(36,vI 2),(40,vI ((obj S.O tk).mode))]++lF S tk++[(55,vP cb)])) (hp':=fun (_:Unit)=>[pO S.O L,G2 cb c S tk,.abs R]) [0] rfl rfl ?_ rfl (fun _=>by kernel_rfl) ?_
  ·refine gK 1 [(55,vP cb)] [] ?_
   refine NL ?_
   exact MD () [27,28,29,30,36,40,44,48,52,55] [0,1,2]
  rintro _
  refine aK.cut (ι:=Unit) (fr':=fun (_:Unit)=>(qi cb++[(36,vI 2),(40,vI ((obj S.O tk).mode))]++lF S tk++[(56,.pointer (some ⟨cb,2,none⟩))])) (hp':=fun (_:Unit)=>[pO S.O L,G2 cb c S tk,.abs R]) [0] rfl rfl ?_ rfl (fun _=>by kernel_rfl) ?_
  ·refine gK 1 [(56,.pointer (some ⟨cb,2,none⟩))] [] ?_
   refine NL ?_
   exact MD () [27,28,29,30,36,40,44,48,52,56] [0,1,2]
  rintro _
  refine mC [0] [] [(0,a_ 1 cb)] [(1,[(2,vI 2)])] ?_
  refine aK.cut (ι:=Unit) (fr':=fun (_:Unit)=>(Cx cb S tk++lF S tk++[(57,vP cb)])) (hp':=fun (_:Unit)=>[pO S.O L,pC cb { c with other:=2,mode:=0,uid:=0,gid:=0,sec:=0,nano:=0,answer:=(obj S.O tk).id },.abs R]) [0] rfl rfl ?_ rfl (fun _=>by kernel_rfl) ?_
  ·refine gK 1 [(57,vP cb)] [] ?_
   refine NL ?_
   exact MD () [28,29,30,40,44,48,52,57] [0,1,2]
  rintro _
  refine aK.cut (ι:=Unit) (fr':=fun (_:Unit)=>(Cx cb S tk++lF S tk++[(58,.pointer (some ⟨cb,6,none⟩))])) (hp':=fun (_:Unit)=>[pO S.O L,pC cb { c with other:=2,mode:=0,uid:=0,gid:=0,sec:=0,nano:=0,answer:=(obj S.O tk).id },.abs R]) [0] rfl rfl ?_ rfl (fun _=>by kernel_rfl) ?_
  ·refine gK 1 [(58,.pointer (some ⟨cb,6,none⟩))] [] ?_
   refine NL ?_
   exact MD () [28,29,30,40,44,48,52,58] [0,1,2]
  rintro _
  refine mC [0] [] [(0,a_ 1 cb)] [(1,[(6,vI ((obj S.O tk).mode))])] ?_
  refine aK.cut (ι:=Unit) (fr':=fun (_:Unit)=>([(29,vP cb),(30,vP cb)]++lF S tk++[(59,vP cb)])) (hp':=fun (_:Unit)=>[pO S.O L,pC cb { c with other:=2,mode:=(obj S.O tk).mode,uid:=0,gid:=0,sec:=0,nano:=0,answer:=(obj S.O tk).id },.abs R]) [0] rfl rfl ?_ rfl (fun _=>by kernel_rfl) ?_
  ·refine gK 1 [(59,vP cb)] [] ?_
   refine NL ?_
   exact MD () [29,30,44,48,52,59] [0,1,2]
  rintro _
  refine aK.cut (ι:=Unit) (fr':=fun (_:Unit)=>([(29,vP cb),(30,vP cb)]++lF S tk++[(60,.pointer (some ⟨cb,7,none⟩))])) (hp':=fun (_:Unit)=>[pO S.O L,pC cb { c with other:=2,mode:=(obj S.O tk).mode,uid:=0,gid:=0,sec:=0,nano:=0,answer:=(obj S.O tk).id },.abs R]) [0] rfl rfl ?_ rfl (fun _=>by kernel_rfl) ?_
  ·refine gK 1 [(60,.pointer (some ⟨cb,7,none⟩))] [] ?_
   refine NL ?_
   exact MD () [29,30,44,48,52,60] [0,1,2]
  rintro _
  refine mC [0] [] [(0,a_ 1 cb)] [(1,[(7,vI ((obj S.O tk).uid))])] ?_
  refine aK.cut (ι:=Unit) (fr':=fun (_:Unit)=>(Cu cb S tk++[(61,vP cb)])) (hp':=fun (_:Unit)=>[pO S.O L,Sg cb c S tk,.abs R]) [0] rfl rfl ?_ rfl (fun _=>by kernel_rfl) ?_
  ·refine gK 1 [(61,vP cb)] [] ?_
   refine NL ?_
   exact MD () [30,48,52,61] [0,1,2]
  rintro _
  refine aK.cut (ι:=Unit) (fr':=fun (_:Unit)=>(Cu cb S tk++[(62,.pointer (some ⟨cb,8,none⟩))])) (hp':=fun (_:Unit)=>[pO S.O L,Sg cb c S tk,.abs R]) [0] rfl rfl ?_ rfl (fun _=>by kernel_rfl) ?_
  ·refine gK 1 [(62,.pointer (some ⟨cb,8,none⟩))] [] ?_
   refine NL ?_
   exact MD () [30,48,52,62] [0,1,2]
  rintro _
  refine mC [0] [] [(0,a_ 1 cb)] [(1,[(8,vI ((obj S.O tk).gid))])] ?_
  refine aK.cut (ι:=Unit) (fr':=fun (_:Unit)=>[(52,.agg #[vI ((obj S.O tk).sec),vI ((obj S.O tk).nano)]),(63,vP cb)]) (hp':=fun (_:Unit)=>[pO S.O L,Sh cb c S tk,.abs R]) [0] rfl rfl ?_ rfl (fun _=>by kernel_rfl) ?_
  ·refine gK 1 [(63,vP cb)] [] ?_
   refine NL ?_
   exact MD () [52,63] [0,1,2]
  rintro _
  refine aK.cut (ι:=Unit) (fr':=fun (_:Unit)=>(Mu S tk cb)) (hp':=fun (_:Unit)=>[pO S.O L,Sh cb c S tk,.abs R]) [0] rfl rfl ?_ rfl (fun _=>by kernel_rfl) ?_
  ·refine gK 1 [(64,.pointer (some ⟨cb,9,none⟩))] [] ?_
   refine NL ?_
   exact MD () [52,64] [0,1,2]
  rintro _
  refine aK.last rfl rfl ?_
  refine gC 1 [] [(0,A_ 1 cb 2)] [(1,(Mw S tk))] ?_
  refine NL (ai.np ?_)
  exact RF (.tuple #[]) [0,1,2] (⟨rfl,rfl⟩)
 have hkt:(obj S.O tk).kind=3:=hI.kind hlv
 refine af.region (gC 21 [] [(8,a_ 1 cb),(11,a_ 1 cb),(14,a_ 1 cb),(17,a_ 1 cb),(20,A_ 1 cb 2)] [(1,(Cv))] ?_)
 refine NN (af.seq (SR (gK 2 [(22,.bool false)] [] ?_)))
 refine NN (CF (af.skip (NX (SR (gK 1 [(23,.iface 132 (vP (L.b tk)))] [] ?_)))))
 refine gL [] (dm (L.b tk)) ?_
 rintro _ _ ⟨rfl,rfl⟩
 refine gK 1 [(4,vP (L.b tk))] [] ?_
 refine NN (af.bR (S:=[pO S.O L]) [0,1,2,3,4,5,6,7,8,9,10,12,13,14,15,16,17,18,19,20,21,22,23,24,25,26,27,11,28,29,30,31,32,33,34,35,36,37,38,39,40,41,42,43,44,45] 27 [0] (by kernel_rfl) (by kernel_rfl) rfl (by kernel_rfl) ?_)
 refine gR 0 [11,28,29,30,31,32,33,34,35,36,37,38,39,40,41,42,43,44,45] (Ms cb S tk++[(35,.iface 132 (vP (L.b tk)))]++Mt S tk) [0,1,2,3,4,5,6,7,8,9,10,12,13,14,15,16,17,18,19,20,21,22,23,24,25,26,27] [(9,v_ 0 (qh L hkt)),(14,v_ 0 (rS L hkt)),(18,v_ 0 (x6 L hkt)),(22,v_ 0 (x7 L hkt)),(26,p_ ⟨[.view 0 (.int .i64 ((obj S.O tk).sec)),.view 0 (.int .i64 ((obj S.O tk).nano))],none,none,none,none⟩ [(∀ F w,(ax (bM S.O L)).h F w->w.cell? ⟨(L.b tk),5,none⟩=some (vI ((obj S.O tk).nano))),(∀ F w,(ax (bM S.O L)).h F w->w.cell? ⟨(L.b tk),4,none⟩=some (vI ((obj S.O tk).sec)))] ⟨dY (by rw [hkt];decide) (rfl),dY (by rw [hkt];decide) (rfl),trivial⟩)] ?_
 refine mL [0] [] (nj (vP (L.b tk))) ?_ (by rintro _ _ ⟨rfl,rfl⟩;rfl)
 rintro _ _ ⟨rfl,rfl⟩
 refine aK.cut (ι:=Unit) (fr':=fun (_:Unit)=>([(26,vP cb)]++qi cb++[(34,vI ((obj S.O tk).id)),(36,vI 3),(40,vI ((obj S.O tk).mode))]++lF S tk++[(53,vP cb)])) (hp':=fun (_:Unit)=>[pO S.O L,G1 cb c,.abs R]) [0] rfl rfl ?_ rfl (fun _=>by kernel_rfl) ?_
 ·refine gK 1 [(53,vP cb)] [] ?_
  refine NL ?_
  exact MD () [26,27,28,29,30,34,36,40,44,48,52,53] [0,1,2]
 rintro _
 refine aK.cut (ι:=Unit) (fr':=fun (_:Unit)=>([(26,vP cb)]++qi cb++[(34,vI ((obj S.O tk).id)),(36,vI 3),(40,vI ((obj S.O tk).mode))]++lF S tk++[(54,.pointer (some ⟨cb,12,none⟩))])) (hp':=fun (_:Unit)=>[pO S.O L,G1 cb c,.abs R]) [0] rfl rfl ?_ rfl (fun _=>by kernel_rfl) ?_
 ·refine gK 1 [(54,.pointer (some ⟨cb,12,none⟩))] [] ?_
  refine NL ?_
  exact MD () [26,27,28,29,30,34,36,40,44,48,52,54] [0,1,2]
 rintro _
 refine mC [0] [] [(0,a_ 1 cb)] [(1,[(12,vI ((obj S.O tk).id))])] ?_
 refine aK.cut (ι:=Unit) (fr':=fun (_:Unit)=>(qi cb++[(36,vI 3),(40,vI ((obj S.O tk).mode))]++lF S tk++[(55,vP cb)])) (hp':=fun (_:Unit)=>[pO S.O L,G2 cb c S tk,.abs R]) [0] rfl rfl ?_ rfl (fun _=>by kernel_rfl) ?_
 ·refine gK 1 [(55,vP cb)] [] ?_
  refine NL ?_
  exact MD () [27,28,29,30,36,40,44,48,52,55] [0,1,2]
 rintro _
 refine aK.cut (ι:=Unit) (fr':=fun (_:Unit)=>(qi cb++[(36,vI 3),(40,vI ((obj S.O tk).mode))]++lF S tk++[(56,.pointer (some ⟨cb,2,none⟩))])) (hp':=fun (_:Unit)=>[pO S.O L,G2 cb c S tk,.abs R]) [0] rfl rfl ?_ rfl (fun _=>by kernel_rfl) ?_
 ·refine gK 1 [(56,.pointer (some ⟨cb,2,none⟩))] [] ?_
  refine NL ?_
  exact MD () [27,28,29,30,36,40,44,48,52,56] [0,1,2]
 rintro _
 refine mC [0] [] [(0,a_ 1 cb)] [(1,[(2,vI 3)])] ?_
 refine aK.cut (ι:=Unit) (fr':=fun (_:Unit)=>(Cx cb S tk++lF S tk++[(57,vP cb)])) (hp':=fun (_:Unit)=>[pO S.O L,pC cb { c with other:=3,mode:=0,uid:=0,gid:=0,sec:=0,nano:=0,answer:=(obj S.O tk).id },.abs R]) [0] rfl rfl ?_ rfl (fun _=>by kernel_rfl) ?_
 ·refine gK 1 [(57,vP cb)] [] ?_
  refine NL ?_
  exact MD () [28,29,30,40,44,48,52,57] [0,1,2]
 rintro _
 refine aK.cut (ι:=Unit) (fr':=fun (_:Unit)=>(Cx cb S tk++lF S tk++[(58,.pointer (some ⟨cb,6,none⟩))])) (hp':=fun (_:Unit)=>[pO S.O L,pC cb { c with other:=3,mode:=0,uid:=0,gid:=0,sec:=0,nano:=0,answer:=(obj S.O tk).id },.abs R]) [0] rfl rfl ?_ rfl (fun _=>by kernel_rfl) ?_
 ·refine gK 1 [(58,.pointer (some ⟨cb,6,none⟩))] [] ?_
  refine NL ?_
  exact MD () [28,29,30,40,44,48,52,58] [0,1,2]
 rintro _
 refine mC [0] [] [(0,a_ 1 cb)] [(1,[(6,vI ((obj S.O tk).mode))])] ?_
 refine aK.cut (ι:=Unit) (fr':=fun (_:Unit)=>([(29,vP cb),(30,vP cb)]++lF S tk++[(59,vP cb)])) (hp':=fun (_:Unit)=>[pO S.O L,pC cb { c with other:=3,mode:=(obj S.O tk).mode,uid:=0,gid:=0,sec:=0,nano:=0,answer:=(obj S.O tk).id },.abs R]) [0] rfl rfl ?_ rfl (fun _=>by kernel_rfl) ?_
 ·refine gK 1 [(59,vP cb)] [] ?_
  refine NL ?_
  exact MD () [29,30,44,48,52,59] [0,1,2]
 rintro _
 refine aK.cut (ι:=Unit) (fr':=fun (_:Unit)=>([(29,vP cb),(30,vP cb)]++lF S tk++[(60,.pointer (some ⟨cb,7,none⟩))])) (hp':=fun (_:Unit)=>[pO S.O L,pC cb { c with other:=3,mode:=(obj S.O tk).mode,uid:=0,gid:=0,sec:=0,nano:=0,answer:=(obj S.O tk).id },.abs R]) [0] rfl rfl ?_ rfl (fun _=>by kernel_rfl) ?_
 ·refine gK 1 [(60,.pointer (some ⟨cb,7,none⟩))] [] ?_
  refine NL ?_
  exact MD () [29,30,44,48,52,60] [0,1,2]
 rintro _
 refine mC [0] [] [(0,a_ 1 cb)] [(1,[(7,vI ((obj S.O tk).uid))])] ?_
 refine aK.cut (ι:=Unit) (fr':=fun (_:Unit)=>(Cu cb S tk++[(61,vP cb)])) (hp':=fun (_:Unit)=>[pO S.O L,Si cb c S tk,.abs R]) [0] rfl rfl ?_ rfl (fun _=>by kernel_rfl) ?_
 ·refine gK 1 [(61,vP cb)] [] ?_
  refine NL ?_
  exact MD () [30,48,52,61] [0,1,2]
 rintro _
 refine aK.cut (ι:=Unit) (fr':=fun (_:Unit)=>(Cu cb S tk++[(62,.pointer (some ⟨cb,8,none⟩))])) (hp':=fun (_:Unit)=>[pO S.O L,Si cb c S tk,.abs R]) [0] rfl rfl ?_ rfl (fun _=>by kernel_rfl) ?_
 ·refine gK 1 [(62,.pointer (some ⟨cb,8,none⟩))] [] ?_
  refine NL ?_
  exact MD () [30,48,52,62] [0,1,2]
 rintro _
 refine mC [0] [] [(0,a_ 1 cb)] [(1,[(8,vI ((obj S.O tk).gid))])] ?_
 refine aK.cut (ι:=Unit) (fr':=fun (_:Unit)=>[(52,.agg #[vI ((obj S.O tk).sec),vI ((obj S.O tk).nano)]),(63,vP cb)]) (hp':=fun (_:Unit)=>[pO S.O L,Sj cb c S tk,.abs R]) [0] rfl rfl ?_ rfl (fun _=>by kernel_rfl) ?_
 ·refine gK 1 [(63,vP cb)] [] ?_
  refine NL ?_
  exact MD () [52,63] [0,1,2]
 rintro _
 refine aK.cut (ι:=Unit) (fr':=fun (_:Unit)=>(Mu S tk cb)) (hp':=fun (_:Unit)=>[pO S.O L,Sj cb c S tk,.abs R]) [0] rfl rfl ?_ rfl (fun _=>by kernel_rfl) ?_
 ·refine gK 1 [(64,.pointer (some ⟨cb,9,none⟩))] [] ?_
  refine NL ?_
  exact MD () [52,64] [0,1,2]
 rintro _
 refine aK.last rfl rfl ?_
 refine gC 1 [] [(0,A_ 1 cb 2)] [(1,(Mw S tk))] ?_
 refine NL (ai.np ?_)
 exact RF (.tuple #[]) [0,1,2] (⟨rfl,rfl⟩)
theorem I3 {β:Bs} (S:aG) (L:HL) (f m t:Nat) (hI:Inv S) (cb:Nat) (c:aD) (hC:fQ β c) :
    Spec Tryz.prog β 99 #[vP f,vP cb] ((pA f m t L S)++[pC cb c]) (fun v l=>∃ L2,v=vI (j4 S c).1/\l=((pA f m t L2 ((j4 S c).2.1))++[.blk cb (bT ((j4 S c).2.2)) 48])):=by
 have hX:=hI.hX
 refine Spec.enter Tryz.func99 rfl Tryz.ntmps99 (Nat.le_of_ble_eq_true rfl) (fun R=>?_)
 refine af.seq ?_
 rcases hI.hand c.handle with dI|⟨tk,dI,hlv⟩|⟨tk,dI,hlv⟩
 ·refine af.region (gK 1 [] [] ?_)
  refine NN (af.seq (af.bI (by kernel_rfl) (by kernel_rfl) ?_))
  refine gQ 8 (Cw t c) [(3,a_ 0 f),(7,a_ 6 cb)] ?_
  refine aP.call (f:=132) (args:=#[vP t,vI (c.handle)]) (d:=(some 16)) (pre:=[jQ t S L]) (R:=(ql f m t S L cb c R)) (pk:=[2,0,1,3,4,5,6,7]) (iV:=[1,2,0,3,4,5,6,7]) (v0:=.tuple #[.nilIface,vI 131]) (fun _=>by kernel_rfl) (pX t S.X.cH S.av (bn L S.us) c.handle hC.hw (oV dI)) rfl (by kernel_rfl) rfl (by kernel_rfl) (fun _ _ h=>h) ?_
  refine gQ 5 [(5,.nilIface),(6,vI 131)] [] ?_
  refine NQ (NX (SR ?_))
  refine gK 2 [(19,vP cb),(20,.nilIface)] [] ?_
  refine gL [3,6] (nu S L hI cb c none (.inl rfl)) ?_
  rintro _ _ ⟨rfl,rfl⟩
  refine NS (gK 2 [(4,vI 131)] [] ?_)
  refine NN (af.ret ?_)
  exact RT (vI 131) [2,3,4,0,5,6,1,7] (⟨L,by rw [show (j4 S c)=(131,S,lC S.O c none) by unfold j4;rw [dI]]<;>exact⟨rfl,rfl⟩⟩)
 ·have hkt:(obj S.O tk).kind=1:=hI.kind hlv
  refine af.region (gK 1 [] [] ?_)
  refine NN (af.seq (af.bI (by kernel_rfl) (by kernel_rfl) ?_))
  refine gQ 8 (Cw t c) [(3,a_ 0 f),(7,a_ 6 cb)] ?_
  refine aP.call (f:=132) (args:=#[vP t,vI (c.handle)]) (d:=(some 16)) (pre:=[jQ t S L]) (R:=(ql f m t S L cb c R)) (pk:=[2,0,1,3,4,5,6,7]) (iV:=[1,2,0,3,4,5,6,7]) (v0:=.tuple #[.iface 129 (vP (L.b tk)),vI 0]) (fun _=>by kernel_rfl) (kN t S.X.cH S.av (bn L S.us) c.handle hC.hw (dJ L ⟨tk,1⟩) (jW dI)) rfl (by kernel_rfl) rfl (by kernel_rfl) (fun _ _ h=>h) ?_
  refine gQ 5 (IY L tk) [] ?_
  refine NQ (NX (SR ?_))
  refine gK 2 [(19,vP cb),(20,.iface 129 (vP (L.b tk)))] [] ?_
  refine gL [3,6] (nu S L hI cb c (some ⟨tk,1⟩) (.inr (.inl ⟨tk,rfl,hlv⟩))) ?_
  rintro _ _ ⟨rfl,rfl⟩
  refine NS (gK 2 [(4,vI 0)] [] ?_)
  refine NN (af.ret ?_)
  exact RT (vI 0) [2,3,4,0,5,6,1,7] (⟨L,by rw [show (j4 S c)=(0,S,lC S.O c (some ⟨tk,1⟩)) by unfold j4;rw [dI]]<;>exact⟨rfl,rfl⟩⟩)
 have hkt:(obj S.O tk).kind=2:=hI.kind hlv
 refine af.region (gK 1 [] [] ?_)
 refine NN (af.seq (af.bI (by kernel_rfl) (by kernel_rfl) ?_))
 refine gQ 8 (Cw t c) [(3,a_ 0 f),(7,a_ 6 cb)] ?_
 refine aP.call (f:=132) (args:=#[vP t,vI (c.handle)]) (d:=(some 16)) (pre:=[jQ t S L]) (R:=(ql f m t S L cb c R)) (pk:=[2,0,1,3,4,5,6,7]) (iV:=[1,2,0,3,4,5,6,7]) (v0:=.tuple #[.iface 135 (vP (L.b tk)),vI 0]) (fun _=>by kernel_rfl) (kN t S.X.cH S.av (bn L S.us) c.handle hC.hw (dJ L ⟨tk,2⟩) (jW dI)) rfl (by kernel_rfl) rfl (by kernel_rfl) (fun _ _ h=>h) ?_
 refine gQ 5 (IZ L tk) [] ?_
 refine NQ (NX (SR ?_))
 refine gK 2 [(19,vP cb),(20,.iface 135 (vP (L.b tk)))] [] ?_
 refine gL [3,6] (nu S L hI cb c (some ⟨tk,2⟩) (.inr (.inr (.inl ⟨tk,rfl,hlv⟩)))) ?_
 rintro _ _ ⟨rfl,rfl⟩
 refine NS (gK 2 [(4,vI 0)] [] ?_)
 refine NN (af.ret ?_)
 exact RT (vI 0) [2,3,4,0,5,6,1,7] (⟨L,by rw [show (j4 S c)=(0,S,lC S.O c (some ⟨tk,2⟩)) by unfold j4;rw [dI]]<;>exact⟨rfl,rfl⟩⟩)
theorem Fb {β:Bs} (S:aG) (L:HL) (f m t:Nat) (hI:Inv S) (cb:Nat) (c:aD) (hC:fQ β c) :
    Spec Tryz.prog β 100 #[vP f,vP cb] ((pA f m t L S)++[pC cb c]) (fun v l=>∃ L2,v=vI (gi S c).1/\l=((pA f m t L2 ((gi S c).2.1))++[.blk cb (bT ((gi S c).2.2)) 48])):=by
 have hX:=hI.hX
 refine Spec.enter Tryz.func100 rfl Tryz.ntmps100 (Nat.le_of_ble_eq_true rfl) (fun R=>?_)
 refine SR (gK 1 [] [] ?_)
 refine NS (gK 2 [(8,vP f),(9,vP cb)] [] ?_)
 rcases AB hI.toInv0 c with ⟨e,hnm,hne⟩|⟨tk,hnm,hlv⟩|⟨tk,hnm,hlv⟩|⟨tk,hnm,hlv⟩
 ·refine gL (f:=122) (args:=#[vP f,vP cb]) (pre:=((pA f m t L S)++[pC cb c])) [0,1,2,3,4,5,6] ((by have h:=iC S L f m t hI cb c hC (β:=β);rw [hnm] at h;exact h)) ?_
  rintro _ _ ⟨rfl,rfl⟩
  refine gK 5 [(5,.nilIface),(6,vI (e))] [] ?_
  refine NS (gK 2 [(13,vP cb),(14,.nilIface)] [] ?_)
  refine gL [3,6] (nu S L hI cb c none (.inl rfl)) ?_
  rintro _ _ ⟨rfl,rfl⟩
  refine NS (gK 2 [(4,vI (e))] [] ?_)
  refine NN (af.ret ?_)
  exact RT (vI (e)) [2,3,4,0,5,6,1,7] (⟨L,by rw [show (gi S c)=(e,S,lC S.O c none) by unfold gi;rw [hnm]]<;>exact⟨rfl,rfl⟩⟩)
 ·have hkt:(obj S.O tk).kind=1:=hI.kind hlv
  refine gL (f:=122) (args:=#[vP f,vP cb]) (pre:=((pA f m t L S)++[pC cb c])) [0,1,2,3,4,5,6] ((by have h:=iC S L f m t hI cb c hC (β:=β);rw [hnm] at h;exact h)) ?_
  rintro _ _ ⟨rfl,rfl⟩
  refine gK 5 (IY L tk) [] ?_
  refine NS (gK 2 [(13,vP cb),(14,.iface 129 (vP (L.b tk)))] [] ?_)
  refine gL [3,6] (nu S L hI cb c (some ⟨tk,1⟩) (.inr (.inl ⟨tk,rfl,hlv⟩))) ?_
  rintro _ _ ⟨rfl,rfl⟩
  refine NS (gK 2 [(4,vI 0)] [] ?_)
  refine NN (af.ret ?_)
  exact RT (vI 0) [2,3,4,0,5,6,1,7] (⟨L,by rw [show (gi S c)=(0,S,lC S.O c (some ⟨tk,1⟩)) by unfold gi;rw [hnm]]<;>exact⟨rfl,rfl⟩⟩)
 ·have hkt:(obj S.O tk).kind=2:=hI.kind hlv
  refine gL (f:=122) (args:=#[vP f,vP cb]) (pre:=((pA f m t L S)++[pC cb c])) [0,1,2,3,4,5,6] ((by have h:=iC S L f m t hI cb c hC (β:=β);rw [hnm] at h;exact h)) ?_
  rintro _ _ ⟨rfl,rfl⟩
  refine gK 5 (IZ L tk) [] ?_
  refine NS (gK 2 [(13,vP cb),(14,.iface 135 (vP (L.b tk)))] [] ?_)
  refine gL [3,6] (nu S L hI cb c (some ⟨tk,2⟩) (.inr (.inr (.inl ⟨tk,rfl,hlv⟩)))) ?_
  rintro _ _ ⟨rfl,rfl⟩
  refine NS (gK 2 [(4,vI 0)] [] ?_)
  refine NN (af.ret ?_)
  exact RT (vI 0) [2,3,4,0,5,6,1,7] (⟨L,by rw [show (gi S c)=(0,S,lC S.O c (some ⟨tk,2⟩)) by unfold gi;rw [hnm]]<;>exact⟨rfl,rfl⟩⟩)
 have hkt:(obj S.O tk).kind=3:=hI.kind hlv
 refine gL (f:=122) (args:=#[vP f,vP cb]) (pre:=((pA f m t L S)++[pC cb c])) [0,1,2,3,4,5,6] ((by have h:=iC S L f m t hI cb c hC (β:=β);rw [hnm] at h;exact h)) ?_
 rintro _ _ ⟨rfl,rfl⟩
 refine gK 5 [(5,.iface 132 (vP (L.b tk))),(6,vI 0)] [] ?_
 refine NS (gK 2 [(13,vP cb),(14,.iface 132 (vP (L.b tk)))] [] ?_)
 refine gL [3,6] (nu S L hI cb c (some ⟨tk,3⟩) (.inr (.inr (.inr ⟨tk,rfl,hlv⟩)))) ?_
 rintro _ _ ⟨rfl,rfl⟩
 refine NS (gK 2 [(4,vI 0)] [] ?_)
 refine NN (af.ret ?_)
 exact RT (vI 0) [2,3,4,0,5,6,1,7] (⟨L,by rw [show (gi S c)=(0,S,lC S.O c (some ⟨tk,3⟩)) by unfold gi;rw [hnm]]<;>exact⟨rfl,rfl⟩⟩)
theorem Gf {β:Bs} (S:aG) (L:HL) (f m t:Nat) (hI:Inv S) (cb:Nat) (c:aD) (hC:fQ β c) :
    Spec Tryz.prog β 101 #[vP f,vP cb] ((pA f m t L S)++[pC cb c]) (fun v l=>∃ L2,v=vI (iR S c).1/\l=((pA f m t L2 ((iR S c).2.1))++[.blk cb (bT ((iR S c).2.2)) 48])):=by
 have hX:=hI.hX
 refine Spec.enter Tryz.func101 rfl Tryz.ntmps101 (Nat.le_of_ble_eq_true rfl) (fun R=>?_)
 refine af.seq ?_
 rcases hI.hand c.handle with dI|⟨tk,dI,hlv⟩|⟨tk,dI,hlv⟩
 ·refine af.region (gK 1 [] [] ?_)
  refine NN (af.seq (af.mF (S:=[pF f m t S.X,pC cb c]) [(true,0),(true,1),(true,2),(true,3),(true,4),(true,5),(true,6),(true,7),(false,8),(true,9),(true,10),(true,11),(true,12),(false,13)] [0,6] (by kernel_rfl) (by kernel_rfl) rfl (by kernel_rfl) ?_))
  refine gG [(false,8),(true,9),(true,10),(true,11),(true,12),(false,13)] ([(0,vP f)]++Cw t c) [0,1,2,3,4,5,6,7] [(3,a_ 0 f),(7,a_ 1 cb)] ?_
  refine gX.cut (ι:=Unit) (fr':=fun (_:Unit)=>[(0,vP f),(16,.tuple #[.nilIface,vI 131])]) (hp':=fun (_:Unit)=>([jQ t S L]++ql f m t S L cb c R)) [1,6] (by kernel_rfl) ?_ rfl (fun _=>by kernel_rfl) ?_
  ·refine gL [2] (FT t S.X.cH S.av (bn L S.us) c.handle hC.hw (oV dI)) ?_
   rintro _ _ ⟨rfl,rfl⟩
   refine NL ?_
   exact MD () [0,16] [0,1,2,3,4,5,6,7]
  rintro _
  refine gG [(false,13)] [(0,vP f),(5,.nilIface),(18,vI 131)] [9,10,11,12] [] ?_
  refine gX.last (by kernel_rfl) ?_
  refine gK 1 [(6,vI 131)] [] ?_
  refine NL (ai.np (NX (af.seq (SR ?_))))
  refine gK 2 [(20,.bool true)] [] ?_
  refine NN (CT (SR (gK 2 [(4,vI 131)] [] ?_)))
  refine NN (af.ret (ai.ak ?_))
  exact RT (vI 131) [1,2,0,3,4,5,6,7] (⟨L,by rw [show (iR S c)=(131,S,c) by unfold iR;rw [dI]]<;>exact⟨rfl,rfl⟩⟩)
 ·have hkt:(obj S.O tk).kind=1:=hI.kind hlv
  have hid:=hI.ob _ hlv
  have o3:=hI.JV hlv
  have hdl:=hI.Ew hlv
  have hop:0 < (obj S.O tk).opens/\(obj S.O tk).opens<=1024:=⟨by have h1:=hI.opens _ hlv;have h2:=GK dI;simp only at h1 h2;omega,(hI.CZ hlv).2⟩
  refine af.region (gK 1 [] [] ?_)
  refine NN (af.seq (af.mF (S:=[pF f m t S.X,pC cb c]) [(true,0),(true,1),(true,2),(true,3),(true,4),(true,5),(true,6),(true,7),(false,8),(true,9),(true,10),(true,11),(true,12),(false,13)] [0,6] (by kernel_rfl) (by kernel_rfl) rfl (by kernel_rfl) ?_))
  refine gG [(false,8),(true,9),(true,10),(true,11),(true,12),(false,13)] ([(0,vP f)]++Cw t c) [0,1,2,3,4,5,6,7] [(3,a_ 0 f),(7,a_ 1 cb)] ?_
  refine gX.cut (ι:=Unit) (fr':=fun (_:Unit)=>[(0,vP f),(16,.tuple #[.iface 129 (vP (L.b tk)),vI 0])]) (hp':=fun (_:Unit)=>([pT t S.X.cH S.av L (del c.handle S.us)]++ql f m t S L cb c R)) [1,6] (by kernel_rfl) ?_ rfl (fun _=>by kernel_rfl) ?_
  ·refine gL (f:=135) (args:=#[vP t,vI (c.handle)]) (pre:=[jQ t S L]) [2] ((by have h:=CY (β:=β) t S.X.cH S.av (bn L S.us) c.handle hC.hw (dJ L ⟨tk,1⟩) (jW dI);rw [← ED] at h;exact h)) ?_
   rintro _ _ ⟨rfl,rfl⟩
   refine NL ?_
   exact MD () [0,16] [0,1,2,3,4,5,6,7]
  rintro _
  refine gG [(false,13)] [(0,vP f),(5,.iface 129 (vP (L.b tk))),(18,vI 0)] [9,10,11,12] [] ?_
  refine gX.last (by kernel_rfl) ?_
  refine gK 1 [(6,vI 0)] [] ?_
  refine NL (ai.np (NX (af.seq (SR ?_))))
  refine gK 2 [(20,.bool false)] [] ?_
  refine NN (CF (af.skip (NX (SR (gK 1 [(22,.iface 129 (vP (L.b tk)))] [] ?_)))))
  refine gL [] (dm (L.b tk)) ?_
  rintro _ _ ⟨rfl,rfl⟩
  refine gK 6 [(27,vI ((obj S.O tk).opens - 1)),(29,.pointer (some ⟨(L.b tk),7,none⟩))] [(2,v_ 3 (jI L hkt)),(3,p_ ⟨[],none,none,none,some (vI ((obj S.O tk).opens - 1))⟩ [(Value.int .i64 (IntKind.wrap .i64 ((obj S.O tk).opens - 1)))=(.int .i64 ((obj S.O tk).opens - 1))] ⟨bw (by omega) (by omega) (by omega),trivial⟩)] ?_
  refine rT 3 [(5,1),(4,2)] tk 7 (fun o=>{ o with opens:=o.opens - 1 }) hkt (fun cF cq=>?_)
  have jG:=ku cq hkt
  have hf2:(obj cF tk).id=(obj S.O tk).id:=fu aT.id cq rfl
  have hf3:(obj cF tk).data=(obj S.O tk).data:=fu aT.data cq rfl
  refine NS ?_
  have Mx:(obj cF tk).opens=(obj S.O tk).opens - 1:=by rw [cq];exact congrArg aT.opens bP
  refine gK 2 [(30,vP f),(31,.iface 129 (vP (L.b tk)))] [] ?_
  refine gL [3,1,2] (qd S.X f m t hX cF L S.idx hI.rise ⟨tk,1⟩ jG (by simp) (by rw [Mx];omega) (fun _=>by rw [hf2,hid.1];exact hlv) (by rw [hf2];exact o3) (by rw [hf3];exact hdl)) ?_
  rintro _ _ ⟨rfl,rfl⟩
  refine NS (gK 1 [(4,vI 0)] [] ?_)
  refine NN (af.ret ?_)
  exact RT (l:=[pF f m t { S.X with used:=jN cF S.X.used ⟨tk,1⟩ },pI m L (jx cF S.idx ⟨tk,1⟩),pT t S.X.cH S.av L (del c.handle S.us),pO cF L,pD cF L,pE cF L,pC cb c]) (.int .i64 0) [1,2,3,0,4,5,6,7] (⟨L,by subst cq;rw [show iR S c=(0,_,c) by unfold iR;rw [dI]];exact⟨rfl,rfl⟩⟩)
 have hkt:(obj S.O tk).kind=2:=hI.kind hlv
 have hid:=hI.ob _ hlv
 have o3:=hI.JV hlv
 have hdl:=hI.Ew hlv
 have hop:0 < (obj S.O tk).opens/\(obj S.O tk).opens<=1024:=⟨by have h1:=hI.opens _ hlv;have h2:=GK dI;simp only at h1 h2;omega,(hI.CZ hlv).2⟩
 refine af.region (gK 1 [] [] ?_)
 refine NN (af.seq (af.mF (S:=[pF f m t S.X,pC cb c]) [(true,0),(true,1),(true,2),(true,3),(true,4),(true,5),(true,6),(true,7),(false,8),(true,9),(true,10),(true,11),(true,12),(false,13)] [0,6] (by kernel_rfl) (by kernel_rfl) rfl (by kernel_rfl) ?_))
 refine gG [(false,8),(true,9),(true,10),(true,11),(true,12),(false,13)] ([(0,vP f)]++Cw t c) [0,1,2,3,4,5,6,7] [(3,a_ 0 f),(7,a_ 1 cb)] ?_
 refine gX.cut (ι:=Unit) (fr':=fun (_:Unit)=>[(0,vP f),(16,.tuple #[.iface 135 (vP (L.b tk)),vI 0])]) (hp':=fun (_:Unit)=>([pT t S.X.cH S.av L (del c.handle S.us)]++ql f m t S L cb c R)) [1,6] (by kernel_rfl) ?_ rfl (fun _=>by kernel_rfl) ?_
 ·refine gL (f:=135) (args:=#[vP t,vI (c.handle)]) (pre:=[jQ t S L]) [2] ((by have h:=CY (β:=β) t S.X.cH S.av (bn L S.us) c.handle hC.hw (dJ L ⟨tk,2⟩) (jW dI);rw [← ED] at h;exact h)) ?_
  rintro _ _ ⟨rfl,rfl⟩
  refine NL ?_
  exact MD () [0,16] [0,1,2,3,4,5,6,7]
 rintro _
 refine gG [(false,13)] [(0,vP f),(5,.iface 135 (vP (L.b tk))),(18,vI 0)] [9,10,11,12] [] ?_
 refine gX.last (by kernel_rfl) ?_
 refine gK 1 [(6,vI 0)] [] ?_
 refine NL (ai.np (NX (af.seq (SR ?_))))
 refine gK 2 [(20,.bool false)] [] ?_
 refine NN (CF (af.skip (NX (SR (gK 1 [(22,.iface 135 (vP (L.b tk)))] [] ?_)))))
 refine gL [] (dm (L.b tk)) ?_
 rintro _ _ ⟨rfl,rfl⟩
 refine gK 6 [(27,vI ((obj S.O tk).opens - 1)),(29,.pointer (some ⟨(L.b tk),7,none⟩))] [(2,v_ 3 (jI L hkt)),(3,p_ ⟨[],none,none,none,some (vI ((obj S.O tk).opens - 1))⟩ [(Value.int .i64 (IntKind.wrap .i64 ((obj S.O tk).opens - 1)))=(.int .i64 ((obj S.O tk).opens - 1))] ⟨bw (by omega) (by omega) (by omega),trivial⟩)] ?_
 refine rT 3 [(5,1),(4,2)] tk 7 (fun o=>{ o with opens:=o.opens - 1 }) hkt (fun cF cq=>?_)
 have wU:=ku cq hkt
 have Kx:(obj cF tk).id=(obj S.O tk).id:=fu aT.id cq rfl
 have Qj:(obj cF tk).data=(obj S.O tk).data:=fu aT.data cq rfl
 refine NS ?_
 have Mx:(obj cF tk).opens=(obj S.O tk).opens - 1:=by rw [cq];exact congrArg aT.opens bP
 refine gK 2 [(30,vP f),(31,.iface 135 (vP (L.b tk)))] [] ?_
 refine gL [3,1,2] (qd S.X f m t hX cF L S.idx hI.rise ⟨tk,2⟩ wU (by simp) (by rw [Mx];omega) (fun _=>by rw [Kx,hid.1];exact hlv) (by rw [Kx];exact o3) (by rw [Qj];exact hdl)) ?_
 rintro _ _ ⟨rfl,rfl⟩
 refine NS (gK 1 [(4,vI 0)] [] ?_)
 refine NN (af.ret ?_)
 exact RT (l:=[pF f m t { S.X with used:=jN cF S.X.used ⟨tk,2⟩ },pI m L (jx cF S.idx ⟨tk,2⟩),pT t S.X.cH S.av L (del c.handle S.us),pO cF L,pD cF L,pE cF L,pC cb c]) (.int .i64 0) [1,2,3,0,4,5,6,7] (⟨L,by subst cq;rw [show iR S c=(0,_,c) by unfold iR;rw [dI]];exact⟨rfl,rfl⟩⟩)
end
section
open Go.RowKit Go.Maps bL aB
attribute [local irreducible] aj aP af ai
abbrev UA (S:aG) (L:HL) (tk:Nat):=(.abs (ax (jU (bM S.O L) tk cA.none)):HP)
abbrev NK (L:HL) (tk:Nat) (S:aG) (c:aD):=(.blk (L.b tk) [vI ((obj S.O tk).id),vI (c.mode),vI ((obj S.O tk).uid),vI ((obj S.O tk).gid),vI ((obj S.O tk).sec),vI ((obj S.O tk).nano),vI ((obj S.O tk).links),vI ((obj S.O tk).opens),.bool (obj S.O tk).gone,.slice (L.dA tk) ((obj S.O tk).data.length) ((L.dC tk))] 131:HP)
abbrev NM (L:HL) (tk:Nat) (S:aG) (c:aD):=(.blk (L.b tk) [vI ((obj S.O tk).id),vI (c.mode),vI (c.uid),vI ((obj S.O tk).gid),vI ((obj S.O tk).sec),vI ((obj S.O tk).nano),vI ((obj S.O tk).links),vI ((obj S.O tk).opens),.bool (obj S.O tk).gone,.slice (L.dA tk) ((obj S.O tk).data.length) ((L.dC tk))] 131:HP)
abbrev NR (L:HL) (tk:Nat) (S:aG) (c:aD):=(.blk (L.b tk) [vI ((obj S.O tk).id),vI (c.mode),vI (c.uid),vI (c.gid),vI ((obj S.O tk).sec),vI ((obj S.O tk).nano),vI ((obj S.O tk).links),vI ((obj S.O tk).opens),.bool (obj S.O tk).gone,.slice (L.dA tk) ((obj S.O tk).data.length) ((L.dC tk))] 131:HP)
abbrev Sk (L:HL) (tk:Nat) (S:aG) (c:aD):=(.blk (L.b tk) [vI ((obj S.O tk).id),vI (c.mode),vI ((obj S.O tk).uid),vI ((obj S.O tk).gid),vI ((obj S.O tk).sec),vI ((obj S.O tk).nano),vI ((obj S.O tk).links),vI ((obj S.O tk).opens),.bool (obj S.O tk).gone,.map (some (L.m tk)),(tO L (obj S.O tk).up)] 138:HP)
abbrev Sl (L:HL) (tk:Nat) (S:aG) (c:aD):=(.blk (L.b tk) [vI ((obj S.O tk).id),vI (c.mode),vI (c.uid),vI ((obj S.O tk).gid),vI ((obj S.O tk).sec),vI ((obj S.O tk).nano),vI ((obj S.O tk).links),vI ((obj S.O tk).opens),.bool (obj S.O tk).gone,.map (some (L.m tk)),(tO L (obj S.O tk).up)] 138:HP)
abbrev Sm (L:HL) (tk:Nat) (S:aG) (c:aD):=(.blk (L.b tk) [vI ((obj S.O tk).id),vI (c.mode),vI (c.uid),vI (c.gid),vI ((obj S.O tk).sec),vI ((obj S.O tk).nano),vI ((obj S.O tk).links),vI ((obj S.O tk).opens),.bool (obj S.O tk).gone,.map (some (L.m tk)),(tO L (obj S.O tk).up)] 138:HP)
abbrev Sn (S:aG) (c:aD) (L2:HL):=(pO (ay S.O (aN S.X) (fun _=>(⟨0,c.mode,0,0,0,0,0,0,false,1,[],⟨#[]⟩,[],none⟩:aT))) L2:HP)
abbrev oG (f:Nat) (m:Nat) (t) (S:aG) (L:HL) (tk:Nat) (cb:Nat) (c) (R:cA):=([pF f m t S.X,pI m L S.idx,jQ t S L,UA S L tk,pD S.O L,pE S.O L,pC cb c,.abs R]:List HP)
abbrev Mz (L:HL) (tk:Nat) (c:aD):=([(65,vP (L.b tk)),(66,vP (L.b tk)),(67,vP (L.b tk)),(71,vI (c.mode)),(75,vI (c.uid)),(79,vI (c.gid)),(83,.agg #[vI (c.sec),vI (c.nano)]),(85,.pointer (some ⟨(L.b tk),1,none⟩))]:Fr)
abbrev qm (c:aD):=([(79,vI (c.gid)),(83,.agg #[vI (c.sec),vI (c.nano)])]:Fr)
abbrev Cy (L:HL) (tk:Nat) (c:aD):=([(66,vP (L.b tk)),(67,vP (L.b tk)),(75,vI (c.uid))]:Fr)
abbrev MB (c:aD) (L:HL) (tk:Nat):=([(83,.agg #[vI (c.sec),vI (c.nano)]),(91,.pointer (some ⟨(L.b tk),4,none⟩))]:Fr)
abbrev MC (t)(c:aD):=([(12,vP t),(16,vI (c.handle))]:Fr)
abbrev Qs (cb:Nat) (f:Nat) (b4:Nat):=([(49,vP cb),(50,vP f),(52,.iface 129 (vP b4))]:Fr)
theorem Dx {β:Bs} (S:aG) (L:HL) (f m t:Nat) (hI:Inv S) (cb:Nat) (c:aD) (hC:fQ β c) :
    Spec Tryz.prog β 98 #[vP f,vP cb] ((pA f m t L S)++[pC cb c]) (fun v l=>∃ L2,v=vI (bK S c).1/\l=((pA f m t L2 ((bK S c).2.1))++[.blk cb (bT ((bK S c).2.2)) 48])):=by
 have hX:=hI.hX
 refine Spec.enter Tryz.func98 rfl Tryz.ntmps98 (Nat.le_of_ble_eq_true rfl) (fun R=>?_)
 refine af.seq ?_
 rcases hI.hand c.handle with dI|⟨tk,dI,hlv⟩|⟨tk,dI,hlv⟩
 ·refine af.region (gK 1 [] [] ?_)
  refine NN (af.seq (af.bI (by kernel_rfl) (by kernel_rfl) ?_))
  refine gQ 8 (MC t c) [(3,a_ 0 f),(7,a_ 6 cb)] ?_
  refine aP.call (f:=132) (args:=#[vP t,vI (c.handle)]) (d:=(some 17)) (pre:=[jQ t S L]) (R:=(ql f m t S L cb c R)) (pk:=[2,0,1,3,4,5,6,7]) (iV:=[1,2,0,3,4,5,6,7]) (v0:=.tuple #[.nilIface,vI 131]) (fun _=>by kernel_rfl) (pX t S.X.cH S.av (bn L S.us) c.handle hC.hw (oV dI)) rfl (by kernel_rfl) rfl (by kernel_rfl) (fun _ _ h=>h) ?_
  refine gQ 5 [(5,.nilIface),(6,vI 131)] [] ?_
  refine NQ (NX (af.seq (SR ?_)))
  refine gK 2 [(21,.bool true)] [] ?_
  refine NN (CT (SR (gK 2 [(4,vI 131)] [] ?_)))
  refine NN (af.ret (ai.ak ?_))
  exact RT (vI 131) [0,1,2,3,4,5,6,7] (⟨L,by rw [show (bK S c)=(131,S,c) by unfold bK;rw [dI]]<;>exact⟨rfl,rfl⟩⟩)
 ·have hkt:(obj S.O tk).kind=1:=hI.kind hlv
  refine af.region (gK 1 [] [] ?_)
  refine NN (af.seq (af.bI (by kernel_rfl) (by kernel_rfl) ?_))
  refine gQ 8 (MC t c) [(3,a_ 0 f),(7,a_ 6 cb)] ?_
  refine aP.call (f:=132) (args:=#[vP t,vI (c.handle)]) (d:=(some 17)) (pre:=[jQ t S L]) (R:=(ql f m t S L cb c R)) (pk:=[2,0,1,3,4,5,6,7]) (iV:=[1,2,0,3,4,5,6,7]) (v0:=.tuple #[.iface 129 (vP (L.b tk)),vI 0]) (fun _=>by kernel_rfl) (kN t S.X.cH S.av (bn L S.us) c.handle hC.hw (dJ L ⟨tk,1⟩) (jW dI)) rfl (by kernel_rfl) rfl (by kernel_rfl) (fun _ _ h=>h) ?_
  refine gQ 5 (IY L tk) [] ?_
  refine NQ (NX (af.seq (SR ?_)))
  refine gK 2 [(21,.bool false)] [] ?_
  refine NN (CF (af.skip (NX (SR (gK 1 [(23,.iface 129 (vP (L.b tk)))] [] ?_)))))
  refine gL [] (dm (L.b tk)) ?_
  rintro _ _ ⟨rfl,rfl⟩
  refine gK 1 [(7,vP (L.b tk))] [] ?_
  refine NN (af.seq (af.block (SR ?_)))
  refine gK 5 [(30,.bool (obj S.O tk).gone)] [(3,v_ 3 (mT L hkt))] ?_
  refine aj.mV 30 (obj S.O tk).gone (fun _=>by kernel_rfl) (fun lV=>?_) (fun lV=>?_)
  ·refine gK 1 [(31,.iface 129 (vP (L.b tk)))] [] ?_
   refine gL [] (lS (vP (L.b tk))) ?_
   rintro _ _ ⟨rfl,rfl⟩
   refine gK 3 [(25,.bool false)] [] ?_
   refine NN (CF (SR (gK 4 [(39,vI (c.mode))] [(3,a_ 6 cb)] ?_)))
   refine gL [] (fJ (c.mode) 4095) ?_
   rintro _ _ ⟨rfl,rfl⟩
   refine gK 2 [(35,.bool (!(decide (0<=c.mode/\c.mode<=4095))))] [] ?_
   refine NN (af.cY (p:=0<=c.mode/\c.mode<=4095) (fun _=>by kernel_rfl) (fun jC=>?_) (fun jC=>?_))
   ·refine SR (gK 1 [(4,vI 120)] [] ?_)
    refine NN (af.ret (ai.aF (ai.ak ?_)))
    exact RT (vI 120) [0,1,2,3,4,5,6,7] (⟨L,by rw [show (bK S c)=(120,S,c) by unfold bK;rw [dI];exact (if_neg (fun h=>absurd h.2 (by simp))).trans (if_neg jC)]<;>exact⟨rfl,rfl⟩⟩)
   refine SR (gK 4 [(46,vI (c.uid))] [(3,a_ 6 cb)] ?_)
   refine gL [] (fJ (c.uid) 2147483647) ?_
   rintro _ _ ⟨rfl,rfl⟩
   refine gK 2 [(49,.bool (!(decide (0<=c.uid/\c.uid<=2147483647))))] [] ?_
   refine aj.iG 49 (0<=c.uid/\c.uid<=2147483647) (fun _=>by kernel_rfl) (fun sW=>?_) (fun sW=>?_)
   ·refine gK 8 [(42,.bool true)] [] ?_
    refine NN (CT (SR (gK 1 [(4,vI 11)] [] ?_)))
    refine NN (af.ret (ai.aF (ai.ak ?_)))
    exact RT (vI 11) [0,1,2,3,4,5,6,7] (⟨L,by rw [show (bK S c)=(11,S,c) by unfold bK;rw [dI];exact (if_neg (fun h=>absurd h.2 (by simp))).trans ((if_pos jC).trans (if_neg (fun h=>sW h.1)))]<;>exact⟨rfl,rfl⟩⟩)
   refine gK 4 [(53,vI (c.gid))] [(3,a_ 6 cb)] ?_
   refine gL [] (fJ (c.gid) 2147483647) ?_
   rintro _ _ ⟨rfl,rfl⟩
   refine gK 3 [(42,.bool (!(decide (0<=c.gid/\c.gid<=2147483647))))] [] ?_
   refine NN (af.cY (p:=0<=c.gid/\c.gid<=2147483647) (fun _=>by kernel_rfl) (fun qw=>?_) (fun qw=>?_))
   ·refine SR (gK 1 [(4,vI 11)] [] ?_)
    refine NN (af.ret (ai.aF (ai.ak ?_)))
    exact RT (vI 11) [0,1,2,3,4,5,6,7] (⟨L,by rw [show (bK S c)=(11,S,c) by unfold bK;rw [dI];exact (if_neg (fun h=>absurd h.2 (by simp))).trans ((if_pos jC).trans (if_neg (fun h=>qw h.2)))]<;>exact⟨rfl,rfl⟩⟩)
   refine SR (gK 4 [(61,.agg #[vI (c.sec),vI (c.nano)])] [(3,A_ 6 cb 2)] ?_)
   refine gL [] (iz c.sec c.nano) ?_
   rintro _ _ ⟨rfl,rfl⟩
   refine gK 2 [(57,.bool (!(decide (dQ c.sec c.nano))))] [] ?_
   refine NN (af.cY (p:=dQ c.sec c.nano) (fun _=>by kernel_rfl) (fun um=>?_) (fun um=>?_))
   ·refine SR (gK 1 [(4,vI 20)] [] ?_)
    refine NN (af.ret (ai.aF (ai.ak ?_)))
    exact RT (vI 20) [0,1,2,3,4,5,6,7] (⟨L,by rw [show (bK S c)=(20,S,c) by unfold bK;rw [dI];exact (if_neg (fun h=>absurd h.2 (by simp))).trans ((if_pos jC).trans ((if_pos ⟨sW,qw⟩).trans (if_neg um)))]<;>exact⟨rfl,rfl⟩⟩)
   refine af.skip (ai.aJ (NX (af.seq ?_)))
   skip
   refine af.mem (fun w hS=>hS.wo (i:=3) (k:=tk) rfl (by rw [hkt];decide) (gM (hkt)) (congrArg jV (hkt))) ?_
   refine af.bR (S:=[pC cb c]) [0,1,2,3,4,5,6,7,8,9,10,11,12,13,14,15,16,17,18,19,20,21,22,23,24,25,26,27,28,29,30,31] 22 [6] (by kernel_rfl) (by kernel_rfl) rfl (by kernel_rfl) ?_
   refine gR 0 [22,23,24,25,26,27,28,29,30,31] (Mz L tk c) [0,1,2,3,4,5,6,7,8,9,10,11,12,13,14,15,16,17,18,19,20,21] [(7,a_ 0 cb),(11,a_ 0 cb),(15,a_ 0 cb),(19,A_ 0 cb 2)] ?_
   refine mC [6] [] [(0,a_ 8 (L.b tk))] [(8,[(1,vI (c.mode))])] ?_
   refine aK.cut (ι:=Unit) (fr':=fun (_:Unit)=>(Cy L tk c++qm c++[(86,vP (L.b tk))])) (hp':=fun (_:Unit)=>(oG f m t S L tk cb c R++[NK L tk S c])) [6] rfl rfl ?_ rfl (fun _=>by kernel_rfl) ?_
   ·refine gK 1 [(86,vP (L.b tk))] [] ?_
    refine NL ?_
    exact MD () [66,67,75,79,83,86] [0,1,2,3,4,5,6,7,8]
   rintro _
   refine aK.cut (ι:=Unit) (fr':=fun (_:Unit)=>(Cy L tk c++qm c++[(87,.pointer (some ⟨(L.b tk),2,none⟩))])) (hp':=fun (_:Unit)=>(oG f m t S L tk cb c R++[NK L tk S c])) [6] rfl rfl ?_ rfl (fun _=>by kernel_rfl) ?_
   ·refine gK 1 [(87,.pointer (some ⟨(L.b tk),2,none⟩))] [] ?_
    refine NL ?_
    exact MD () [66,67,75,79,83,87] [0,1,2,3,4,5,6,7,8]
   rintro _
   refine mC [6] [] [(0,a_ 8 (L.b tk))] [(8,[(2,vI (c.uid))])] ?_
   refine aK.cut (ι:=Unit) (fr':=fun (_:Unit)=>([(67,vP (L.b tk))]++qm c++[(88,vP (L.b tk))])) (hp':=fun (_:Unit)=>(oG f m t S L tk cb c R++[NM L tk S c])) [6] rfl rfl ?_ rfl (fun _=>by kernel_rfl) ?_
   ·refine gK 1 [(88,vP (L.b tk))] [] ?_
    refine NL ?_
    exact MD () [67,79,83,88] [0,1,2,3,4,5,6,7,8]
   rintro _
   refine aK.cut (ι:=Unit) (fr':=fun (_:Unit)=>([(67,vP (L.b tk))]++qm c++[(89,.pointer (some ⟨(L.b tk),3,none⟩))])) (hp':=fun (_:Unit)=>(oG f m t S L tk cb c R++[NM L tk S c])) [6] rfl rfl ?_ rfl (fun _=>by kernel_rfl) ?_
   ·refine gK 1 [(89,.pointer (some ⟨(L.b tk),3,none⟩))] [] ?_
    refine NL ?_
    exact MD () [67,79,83,89] [0,1,2,3,4,5,6,7,8]
   rintro _
   refine mC [6] [] [(0,a_ 8 (L.b tk))] [(8,[(3,vI (c.gid))])] ?_
   refine aK.cut (ι:=Unit) (fr':=fun (_:Unit)=>[(83,.agg #[vI (c.sec),vI (c.nano)]),(90,vP (L.b tk))]) (hp':=fun (_:Unit)=>(oG f m t S L tk cb c R++[NR L tk S c])) [6] rfl rfl ?_ rfl (fun _=>by kernel_rfl) ?_
   ·refine gK 1 [(90,vP (L.b tk))] [] ?_
    refine NL ?_
    exact MD () [83,90] [0,1,2,3,4,5,6,7,8]
   rintro _
   refine aK.cut (ι:=Unit) (fr':=fun (_:Unit)=>(MB c L tk)) (hp':=fun (_:Unit)=>(oG f m t S L tk cb c R++[NR L tk S c])) [6] rfl rfl ?_ rfl (fun _=>by kernel_rfl) ?_
   ·refine gK 1 [(91,.pointer (some ⟨(L.b tk),4,none⟩))] [] ?_
    refine NL ?_
    exact MD () [83,91] [0,1,2,3,4,5,6,7,8]
   rintro _
   refine aK.last rfl rfl ?_
   refine gC 1 [] [(0,A_ 8 (L.b tk) 2)] [(8,[(4,vI (c.sec)),(5,vI (c.nano))])] ?_
   refine NL (ai.np (NX (SR ?_)))
   refine aj.mem (cL:=[.abs (ax (bM (ay S.O tk (fun o=>{ o with mode:=c.mode,uid:=c.uid,gid:=c.gid,sec:=c.sec,nano:=c.nano })) L)),.blk f [vI (S.X.cN),vI (S.X.cB),vI (S.X.cH),vI (S.X.cS),vI (S.X.cZ),.map (some m),vP t,vI (S.X.last),vI (S.X.ah),vI (S.X.used)] 126,.abs (aL Tryz.prog 3 m (bh (bn L S.idx)) S.idx.length),.abs (cM 197 t S.X.cH S.av (bn L S.us)),.abs (ax (bN (ay S.O tk (fun o=>{ o with mode:=c.mode,uid:=c.uid,gid:=c.gid,sec:=c.sec,nano:=c.nano })) L)),.abs (ax (cG (ay S.O tk (fun o=>{ o with mode:=c.mode,uid:=c.uid,gid:=c.gid,sec:=c.sec,nano:=c.nano })) L)),.blk cb [vI (c.op),vI (c.handle),vI (c.other),.string c.name,.string c.text,.slice c.dA (c.data.length) (c.dC),vI (c.mode),vI (c.uid),vI (c.gid),vI (c.sec),vI (c.nano),vI (c.code),vI (c.answer)] 48,.abs R]) (fun w hS=>by have h:=hS.xL (O:=S.O) (L:=L) (i:=3) (j:=8) (idx:=[0,1,2,4,5,6,7]) (k:=tk) (f:=(fun o=>{ o with mode:=c.mode,uid:=c.uid,gid:=c.gid,sec:=c.sec,nano:=c.nano })) rfl (fun _ hx=>nH hx) rfl (by kernel_rfl) rfl (by show (obj S.O tk).kind≠0;rw [hkt];decide) ((gM (o:=(fun o=>{ o with mode:=c.mode,uid:=c.uid,gid:=c.gid,sec:=c.sec,nano:=c.nano }) (obj S.O tk)) (hkt)).trans rfl) (by show jV (obj S.O tk).kind=_;rw [hkt]<;>rfl);rw [mq (O:=S.O) (k:=tk) (f:=(fun o=>{ o with mode:=c.mode,uid:=c.uid,gid:=c.gid,sec:=c.sec,nano:=c.nano })) rfl rfl,mr (O:=S.O) (k:=tk) (f:=(fun o=>{ o with mode:=c.mode,uid:=c.uid,gid:=c.gid,sec:=c.sec,nano:=c.nano })) rfl rfl];exact h) ?_
   have jG:(obj (ay S.O tk (fun o=>{ o with mode:=c.mode,uid:=c.uid,gid:=c.gid,sec:=c.sec,nano:=c.nano })) tk).kind=1:=(jw (f:=(fun o=>{ o with mode:=c.mode,uid:=c.uid,gid:=c.gid,sec:=c.sec,nano:=c.nano })) (fun _=>rfl)).trans (hkt)
   generalize cq:(ay S.O tk (fun o=>{ o with mode:=c.mode,uid:=c.uid,gid:=c.gid,sec:=c.sec,nano:=c.nano }))=cF at jG ⊢
   refine gK 1 [(4,vI 0)] [] ?_
   refine NN (af.ret ?_)
   exact RT (l:=[pF f m t S.X,pI m L S.idx,jQ t S L,pO cF L,pD cF L,pE cF L,pC cb c]) (.int .i64 0) [1,2,3,0,4,5,6,7] (⟨L,by subst cq;rw [show (bK S c)=(0,{ S with O:=ay S.O tk (fun o=>{ o with mode:=c.mode,uid:=c.uid,gid:=c.gid,sec:=c.sec,nano:=c.nano }) },c) by unfold bK;rw [dI];exact (if_neg (fun h=>absurd h.2 (by simp))).trans ((if_pos jC).trans ((if_pos ⟨sW,qw⟩).trans (if_pos um)))]<;>exact⟨rfl,rfl⟩⟩)
  refine gK 5 [(25,.bool false)] [] ?_
  refine NN (CF (SR (gK 4 [(39,vI (c.mode))] [(3,a_ 6 cb)] ?_)))
  refine gL [] (fJ (c.mode) 4095) ?_
  rintro _ _ ⟨rfl,rfl⟩
  refine gK 2 [(35,.bool (!(decide (0<=c.mode/\c.mode<=4095))))] [] ?_
  refine NN (af.cY (p:=0<=c.mode/\c.mode<=4095) (fun _=>by kernel_rfl) (fun jC=>?_) (fun jC=>?_))
  ·refine SR (gK 1 [(4,vI 120)] [] ?_)
   refine NN (af.ret (ai.aF (ai.ak ?_)))
   exact RT (vI 120) [0,1,2,3,4,5,6,7] (⟨L,by rw [show (bK S c)=(120,S,c) by unfold bK;rw [dI];exact (if_neg (fun h=>absurd h.2 (by simp))).trans (if_neg jC)]<;>exact⟨rfl,rfl⟩⟩)
  refine SR (gK 4 [(46,vI (c.uid))] [(3,a_ 6 cb)] ?_)
  refine gL [] (fJ (c.uid) 2147483647) ?_
  rintro _ _ ⟨rfl,rfl⟩
  refine gK 2 [(49,.bool (!(decide (0<=c.uid/\c.uid<=2147483647))))] [] ?_
  refine aj.iG 49 (0<=c.uid/\c.uid<=2147483647) (fun _=>by kernel_rfl) (fun sW=>?_) (fun sW=>?_)
  ·refine gK 8 [(42,.bool true)] [] ?_
   refine NN (CT (SR (gK 1 [(4,vI 11)] [] ?_)))
   refine NN (af.ret (ai.aF (ai.ak ?_)))
   exact RT (vI 11) [0,1,2,3,4,5,6,7] (⟨L,by rw [show (bK S c)=(11,S,c) by unfold bK;rw [dI];exact (if_neg (fun h=>absurd h.2 (by simp))).trans ((if_pos jC).trans (if_neg (fun h=>sW h.1)))]<;>exact⟨rfl,rfl⟩⟩)
  refine gK 4 [(53,vI (c.gid))] [(3,a_ 6 cb)] ?_
  refine gL [] (fJ (c.gid) 2147483647) ?_
  rintro _ _ ⟨rfl,rfl⟩
  refine gK 3 [(42,.bool (!(decide (0<=c.gid/\c.gid<=2147483647))))] [] ?_
  refine NN (af.cY (p:=0<=c.gid/\c.gid<=2147483647) (fun _=>by kernel_rfl) (fun qw=>?_) (fun qw=>?_))
  ·refine SR (gK 1 [(4,vI 11)] [] ?_)
   refine NN (af.ret (ai.aF (ai.ak ?_)))
   exact RT (vI 11) [0,1,2,3,4,5,6,7] (⟨L,by rw [show (bK S c)=(11,S,c) by unfold bK;rw [dI];exact (if_neg (fun h=>absurd h.2 (by simp))).trans ((if_pos jC).trans (if_neg (fun h=>qw h.2)))]<;>exact⟨rfl,rfl⟩⟩)
  refine SR (gK 4 [(61,.agg #[vI (c.sec),vI (c.nano)])] [(3,A_ 6 cb 2)] ?_)
  refine gL [] (iz c.sec c.nano) ?_
  rintro _ _ ⟨rfl,rfl⟩
  refine gK 2 [(57,.bool (!(decide (dQ c.sec c.nano))))] [] ?_
  refine NN (af.cY (p:=dQ c.sec c.nano) (fun _=>by kernel_rfl) (fun um=>?_) (fun um=>?_))
  ·refine SR (gK 1 [(4,vI 20)] [] ?_)
   refine NN (af.ret (ai.aF (ai.ak ?_)))
   exact RT (vI 20) [0,1,2,3,4,5,6,7] (⟨L,by rw [show (bK S c)=(20,S,c) by unfold bK;rw [dI];exact (if_neg (fun h=>absurd h.2 (by simp))).trans ((if_pos jC).trans ((if_pos ⟨sW,qw⟩).trans (if_neg um)))]<;>exact⟨rfl,rfl⟩⟩)
  refine af.skip (ai.aJ (NX (af.seq ?_)))
  skip
  refine af.mem (fun w hS=>hS.wo (i:=3) (k:=tk) rfl (by rw [hkt];decide) (gM (hkt)) (congrArg jV (hkt))) ?_
  refine af.bR (S:=[pC cb c]) [0,1,2,3,4,5,6,7,8,9,10,11,12,13,14,15,16,17,18,19,20,21,22,23,24,25,26,27,28,29,30,31] 22 [6] (by kernel_rfl) (by kernel_rfl) rfl (by kernel_rfl) ?_
  refine gR 0 [22,23,24,25,26,27,28,29,30,31] (Mz L tk c) [0,1,2,3,4,5,6,7,8,9,10,11,12,13,14,15,16,17,18,19,20,21] [(7,a_ 0 cb),(11,a_ 0 cb),(15,a_ 0 cb),(19,A_ 0 cb 2)] ?_
  refine mC [6] [] [(0,a_ 8 (L.b tk))] [(8,[(1,vI (c.mode))])] ?_
  refine aK.cut (ι:=Unit) (fr':=fun (_:Unit)=>(Cy L tk c++qm c++[(86,vP (L.b tk))])) (hp':=fun (_:Unit)=>(oG f m t S L tk cb c R++[NK L tk S c])) [6] rfl rfl ?_ rfl (fun _=>by kernel_rfl) ?_
  ·refine gK 1 [(86,vP (L.b tk))] [] ?_
   refine NL ?_
   exact MD () [66,67,75,79,83,86] [0,1,2,3,4,5,6,7,8]
  rintro _
  refine aK.cut (ι:=Unit) (fr':=fun (_:Unit)=>(Cy L tk c++qm c++[(87,.pointer (some ⟨(L.b tk),2,none⟩))])) (hp':=fun (_:Unit)=>(oG f m t S L tk cb c R++[NK L tk S c])) [6] rfl rfl ?_ rfl (fun _=>by kernel_rfl) ?_
  ·refine gK 1 [(87,.pointer (some ⟨(L.b tk),2,none⟩))] [] ?_
   refine NL ?_
   exact MD () [66,67,75,79,83,87] [0,1,2,3,4,5,6,7,8]
  rintro _
  refine mC [6] [] [(0,a_ 8 (L.b tk))] [(8,[(2,vI (c.uid))])] ?_
  refine aK.cut (ι:=Unit) (fr':=fun (_:Unit)=>([(67,vP (L.b tk))]++qm c++[(88,vP (L.b tk))])) (hp':=fun (_:Unit)=>(oG f m t S L tk cb c R++[NM L tk S c])) [6] rfl rfl ?_ rfl (fun _=>by kernel_rfl) ?_
  ·refine gK 1 [(88,vP (L.b tk))] [] ?_
   refine NL ?_
   exact MD () [67,79,83,88] [0,1,2,3,4,5,6,7,8]
  rintro _
  refine aK.cut (ι:=Unit) (fr':=fun (_:Unit)=>([(67,vP (L.b tk))]++qm c++[(89,.pointer (some ⟨(L.b tk),3,none⟩))])) (hp':=fun (_:Unit)=>(oG f m t S L tk cb c R++[NM L tk S c])) [6] rfl rfl ?_ rfl (fun _=>by kernel_rfl) ?_
  ·refine gK 1 [(89,.pointer (some ⟨(L.b tk),3,none⟩))] [] ?_
   refine NL ?_
   exact MD () [67,79,83,89] [0,1,2,3,4,5,6,7,8]
  rintro _
  refine mC [6] [] [(0,a_ 8 (L.b tk))] [(8,[(3,vI (c.gid))])] ?_
  refine aK.cut (ι:=Unit) (fr':=fun (_:Unit)=>[(83,.agg #[vI (c.sec),vI (c.nano)]),(90,vP (L.b tk))]) (hp':=fun (_:Unit)=>(oG f m t S L tk cb c R++[NR L tk S c])) [6] rfl rfl ?_ rfl (fun _=>by kernel_rfl) ?_
  ·refine gK 1 [(90,vP (L.b tk))] [] ?_
   refine NL ?_
   exact MD () [83,90] [0,1,2,3,4,5,6,7,8]
  rintro _
  refine aK.cut (ι:=Unit) (fr':=fun (_:Unit)=>(MB c L tk)) (hp':=fun (_:Unit)=>(oG f m t S L tk cb c R++[NR L tk S c])) [6] rfl rfl ?_ rfl (fun _=>by kernel_rfl) ?_
  ·refine gK 1 [(91,.pointer (some ⟨(L.b tk),4,none⟩))] [] ?_
   refine NL ?_
   exact MD () [83,91] [0,1,2,3,4,5,6,7,8]
  rintro _
  refine aK.last rfl rfl ?_
  refine gC 1 [] [(0,A_ 8 (L.b tk) 2)] [(8,[(4,vI (c.sec)),(5,vI (c.nano))])] ?_
  refine NL (ai.np (NX (SR ?_)))
  refine aj.mem (cL:=[.abs (ax (bM (ay S.O tk (fun o=>{ o with mode:=c.mode,uid:=c.uid,gid:=c.gid,sec:=c.sec,nano:=c.nano })) L)),.blk f [vI (S.X.cN),vI (S.X.cB),vI (S.X.cH),vI (S.X.cS),vI (S.X.cZ),.map (some m),vP t,vI (S.X.last),vI (S.X.ah),vI (S.X.used)] 126,.abs (aL Tryz.prog 3 m (bh (bn L S.idx)) S.idx.length),.abs (cM 197 t S.X.cH S.av (bn L S.us)),.abs (ax (bN (ay S.O tk (fun o=>{ o with mode:=c.mode,uid:=c.uid,gid:=c.gid,sec:=c.sec,nano:=c.nano })) L)),.abs (ax (cG (ay S.O tk (fun o=>{ o with mode:=c.mode,uid:=c.uid,gid:=c.gid,sec:=c.sec,nano:=c.nano })) L)),.blk cb [vI (c.op),vI (c.handle),vI (c.other),.string c.name,.string c.text,.slice c.dA (c.data.length) (c.dC),vI (c.mode),vI (c.uid),vI (c.gid),vI (c.sec),vI (c.nano),vI (c.code),vI (c.answer)] 48,.abs R]) (fun w hS=>by have h:=hS.xL (O:=S.O) (L:=L) (i:=3) (j:=8) (idx:=[0,1,2,4,5,6,7]) (k:=tk) (f:=(fun o=>{ o with mode:=c.mode,uid:=c.uid,gid:=c.gid,sec:=c.sec,nano:=c.nano })) rfl (fun _ hx=>nH hx) rfl (by kernel_rfl) rfl (by show (obj S.O tk).kind≠0;rw [hkt];decide) ((gM (o:=(fun o=>{ o with mode:=c.mode,uid:=c.uid,gid:=c.gid,sec:=c.sec,nano:=c.nano }) (obj S.O tk)) (hkt)).trans rfl) (by show jV (obj S.O tk).kind=_;rw [hkt]<;>rfl);rw [mq (O:=S.O) (k:=tk) (f:=(fun o=>{ o with mode:=c.mode,uid:=c.uid,gid:=c.gid,sec:=c.sec,nano:=c.nano })) rfl rfl,mr (O:=S.O) (k:=tk) (f:=(fun o=>{ o with mode:=c.mode,uid:=c.uid,gid:=c.gid,sec:=c.sec,nano:=c.nano })) rfl rfl];exact h) ?_
  have lU:(obj (ay S.O tk (fun o=>{ o with mode:=c.mode,uid:=c.uid,gid:=c.gid,sec:=c.sec,nano:=c.nano })) tk).kind=1:=(jw (f:=(fun o=>{ o with mode:=c.mode,uid:=c.uid,gid:=c.gid,sec:=c.sec,nano:=c.nano })) (fun _=>rfl)).trans (hkt)
  generalize cq:(ay S.O tk (fun o=>{ o with mode:=c.mode,uid:=c.uid,gid:=c.gid,sec:=c.sec,nano:=c.nano }))=cF at lU ⊢
  refine gK 1 [(4,vI 0)] [] ?_
  refine NN (af.ret ?_)
  exact RT (l:=[pF f m t S.X,pI m L S.idx,jQ t S L,pO cF L,pD cF L,pE cF L,pC cb c]) (.int .i64 0) [1,2,3,0,4,5,6,7] (⟨L,by subst cq;rw [show (bK S c)=(0,{ S with O:=ay S.O tk (fun o=>{ o with mode:=c.mode,uid:=c.uid,gid:=c.gid,sec:=c.sec,nano:=c.nano }) },c) by unfold bK;rw [dI];exact (if_neg (fun h=>absurd h.2 (by simp))).trans ((if_pos jC).trans ((if_pos ⟨sW,qw⟩).trans (if_pos um)))]<;>exact⟨rfl,rfl⟩⟩)
 have hkt:(obj S.O tk).kind=2:=hI.kind hlv
 refine af.region (gK 1 [] [] ?_)
 refine NN (af.seq (af.bI (by kernel_rfl) (by kernel_rfl) ?_))
 refine gQ 8 (MC t c) [(3,a_ 0 f),(7,a_ 6 cb)] ?_
 refine aP.call (f:=132) (args:=#[vP t,vI (c.handle)]) (d:=(some 17)) (pre:=[jQ t S L]) (R:=(ql f m t S L cb c R)) (pk:=[2,0,1,3,4,5,6,7]) (iV:=[1,2,0,3,4,5,6,7]) (v0:=.tuple #[.iface 135 (vP (L.b tk)),vI 0]) (fun _=>by kernel_rfl) (kN t S.X.cH S.av (bn L S.us) c.handle hC.hw (dJ L ⟨tk,2⟩) (jW dI)) rfl (by kernel_rfl) rfl (by kernel_rfl) (fun _ _ h=>h) ?_
 refine gQ 5 (IZ L tk) [] ?_
 refine NQ (NX (af.seq (SR ?_)))
 refine gK 2 [(21,.bool false)] [] ?_
 refine NN (CF (af.skip (NX (SR (gK 1 [(23,.iface 135 (vP (L.b tk)))] [] ?_)))))
 refine gL [] (dm (L.b tk)) ?_
 rintro _ _ ⟨rfl,rfl⟩
 refine gK 1 [(7,vP (L.b tk))] [] ?_
 refine NN (af.seq (af.block (SR ?_)))
 refine gK 5 [(30,.bool (obj S.O tk).gone)] [(3,v_ 3 (mT L hkt))] ?_
 refine aj.mV 30 (obj S.O tk).gone (fun _=>by kernel_rfl) (fun lV=>?_) (fun lV=>?_)
 ·refine gK 1 [(31,.iface 135 (vP (L.b tk)))] [] ?_
  refine gL [] (lT (vP (L.b tk))) ?_
  rintro _ _ ⟨rfl,rfl⟩
  refine gK 3 [(25,.bool true)] [] ?_
  refine NN (CT (SR (gK 1 [(4,vI 170)] [] ?_)))
  refine NN (af.ret (ai.aF (ai.ak ?_)))
  exact RT (vI 170) [0,1,2,3,4,5,6,7] (⟨L,by rw [show (bK S c)=(170,S,c) by unfold bK;rw [dI];exact if_pos ⟨lV,rfl⟩]<;>exact⟨rfl,rfl⟩⟩)
 refine gK 5 [(25,.bool false)] [] ?_
 refine NN (CF (SR (gK 4 [(39,vI (c.mode))] [(3,a_ 6 cb)] ?_)))
 refine gL [] (fJ (c.mode) 4095) ?_
 rintro _ _ ⟨rfl,rfl⟩
 refine gK 2 [(35,.bool (!(decide (0<=c.mode/\c.mode<=4095))))] [] ?_
 refine NN (af.cY (p:=0<=c.mode/\c.mode<=4095) (fun _=>by kernel_rfl) (fun jC=>?_) (fun jC=>?_))
 ·refine SR (gK 1 [(4,vI 120)] [] ?_)
  refine NN (af.ret (ai.aF (ai.ak ?_)))
  exact RT (vI 120) [0,1,2,3,4,5,6,7] (⟨L,by rw [show (bK S c)=(120,S,c) by unfold bK;rw [dI];exact (if_neg (fun h=>absurd h.1 (by rw [lV];decide))).trans (if_neg jC)]<;>exact⟨rfl,rfl⟩⟩)
 refine SR (gK 4 [(46,vI (c.uid))] [(3,a_ 6 cb)] ?_)
 refine gL [] (fJ (c.uid) 2147483647) ?_
 rintro _ _ ⟨rfl,rfl⟩
 refine gK 2 [(49,.bool (!(decide (0<=c.uid/\c.uid<=2147483647))))] [] ?_
 refine aj.iG 49 (0<=c.uid/\c.uid<=2147483647) (fun _=>by kernel_rfl) (fun sW=>?_) (fun sW=>?_)
 ·refine gK 8 [(42,.bool true)] [] ?_
  refine NN (CT (SR (gK 1 [(4,vI 11)] [] ?_)))
  refine NN (af.ret (ai.aF (ai.ak ?_)))
  exact RT (vI 11) [0,1,2,3,4,5,6,7] (⟨L,by rw [show (bK S c)=(11,S,c) by unfold bK;rw [dI];exact (if_neg (fun h=>absurd h.1 (by rw [lV];decide))).trans ((if_pos jC).trans (if_neg (fun h=>sW h.1)))]<;>exact⟨rfl,rfl⟩⟩)
 refine gK 4 [(53,vI (c.gid))] [(3,a_ 6 cb)] ?_
 refine gL [] (fJ (c.gid) 2147483647) ?_
 rintro _ _ ⟨rfl,rfl⟩
 refine gK 3 [(42,.bool (!(decide (0<=c.gid/\c.gid<=2147483647))))] [] ?_
 refine NN (af.cY (p:=0<=c.gid/\c.gid<=2147483647) (fun _=>by kernel_rfl) (fun qw=>?_) (fun qw=>?_))
 ·refine SR (gK 1 [(4,vI 11)] [] ?_)
  refine NN (af.ret (ai.aF (ai.ak ?_)))
  exact RT (vI 11) [0,1,2,3,4,5,6,7] (⟨L,by rw [show (bK S c)=(11,S,c) by unfold bK;rw [dI];exact (if_neg (fun h=>absurd h.1 (by rw [lV];decide))).trans ((if_pos jC).trans (if_neg (fun h=>qw h.2)))]<;>exact⟨rfl,rfl⟩⟩)
 refine SR (gK 4 [(61,.agg #[vI (c.sec),vI (c.nano)])] [(3,A_ 6 cb 2)] ?_)
 refine gL [] (iz c.sec c.nano) ?_
 rintro _ _ ⟨rfl,rfl⟩
 refine gK 2 [(57,.bool (!(decide (dQ c.sec c.nano))))] [] ?_
 refine NN (af.cY (p:=dQ c.sec c.nano) (fun _=>by kernel_rfl) (fun um=>?_) (fun um=>?_))
 ·refine SR (gK 1 [(4,vI 20)] [] ?_)
  refine NN (af.ret (ai.aF (ai.ak ?_)))
  exact RT (vI 20) [0,1,2,3,4,5,6,7] (⟨L,by rw [show (bK S c)=(20,S,c) by unfold bK;rw [dI];exact (if_neg (fun h=>absurd h.1 (by rw [lV];decide))).trans ((if_pos jC).trans ((if_pos ⟨sW,qw⟩).trans (if_neg um)))]<;>exact⟨rfl,rfl⟩⟩)
 refine af.skip (ai.aJ (NX (af.seq ?_)))
 skip
 refine af.mem (fun w hS=>hS.wo (i:=3) (k:=tk) rfl (by rw [hkt];decide) (kK (hkt)) (congrArg jV (hkt))) ?_
 refine af.bR (S:=[pC cb c]) [0,1,2,3,4,5,6,7,8,9,10,11,12,13,14,15,16,17,18,19,20,21,22,23,24,25,26,27,28,29,30,31] 22 [6] (by kernel_rfl) (by kernel_rfl) rfl (by kernel_rfl) ?_
 refine gR 0 [22,23,24,25,26,27,28,29,30,31] (Mz L tk c) [0,1,2,3,4,5,6,7,8,9,10,11,12,13,14,15,16,17,18,19,20,21] [(7,a_ 0 cb),(11,a_ 0 cb),(15,a_ 0 cb),(19,A_ 0 cb 2)] ?_
 refine mC [6] [] [(0,a_ 8 (L.b tk))] [(8,[(1,vI (c.mode))])] ?_
 refine aK.cut (ι:=Unit) (fr':=fun (_:Unit)=>(Cy L tk c++qm c++[(86,vP (L.b tk))])) (hp':=fun (_:Unit)=>(oG f m t S L tk cb c R++[Sk L tk S c])) [6] rfl rfl ?_ rfl (fun _=>by kernel_rfl) ?_
 ·refine gK 1 [(86,vP (L.b tk))] [] ?_
  refine NL ?_
  exact MD () [66,67,75,79,83,86] [0,1,2,3,4,5,6,7,8]
 rintro _
 refine aK.cut (ι:=Unit) (fr':=fun (_:Unit)=>(Cy L tk c++qm c++[(87,.pointer (some ⟨(L.b tk),2,none⟩))])) (hp':=fun (_:Unit)=>(oG f m t S L tk cb c R++[Sk L tk S c])) [6] rfl rfl ?_ rfl (fun _=>by kernel_rfl) ?_
 ·refine gK 1 [(87,.pointer (some ⟨(L.b tk),2,none⟩))] [] ?_
  refine NL ?_
  exact MD () [66,67,75,79,83,87] [0,1,2,3,4,5,6,7,8]
 rintro _
 refine mC [6] [] [(0,a_ 8 (L.b tk))] [(8,[(2,vI (c.uid))])] ?_
 refine aK.cut (ι:=Unit) (fr':=fun (_:Unit)=>([(67,vP (L.b tk))]++qm c++[(88,vP (L.b tk))])) (hp':=fun (_:Unit)=>(oG f m t S L tk cb c R++[Sl L tk S c])) [6] rfl rfl ?_ rfl (fun _=>by kernel_rfl) ?_
 ·refine gK 1 [(88,vP (L.b tk))] [] ?_
  refine NL ?_
  exact MD () [67,79,83,88] [0,1,2,3,4,5,6,7,8]
 rintro _
 refine aK.cut (ι:=Unit) (fr':=fun (_:Unit)=>([(67,vP (L.b tk))]++qm c++[(89,.pointer (some ⟨(L.b tk),3,none⟩))])) (hp':=fun (_:Unit)=>(oG f m t S L tk cb c R++[Sl L tk S c])) [6] rfl rfl ?_ rfl (fun _=>by kernel_rfl) ?_
 ·refine gK 1 [(89,.pointer (some ⟨(L.b tk),3,none⟩))] [] ?_
  refine NL ?_
  exact MD () [67,79,83,89] [0,1,2,3,4,5,6,7,8]
 rintro _
 refine mC [6] [] [(0,a_ 8 (L.b tk))] [(8,[(3,vI (c.gid))])] ?_
 refine aK.cut (ι:=Unit) (fr':=fun (_:Unit)=>[(83,.agg #[vI (c.sec),vI (c.nano)]),(90,vP (L.b tk))]) (hp':=fun (_:Unit)=>(oG f m t S L tk cb c R++[Sm L tk S c])) [6] rfl rfl ?_ rfl (fun _=>by kernel_rfl) ?_
 ·refine gK 1 [(90,vP (L.b tk))] [] ?_
  refine NL ?_
  exact MD () [83,90] [0,1,2,3,4,5,6,7,8]
 rintro _
 refine aK.cut (ι:=Unit) (fr':=fun (_:Unit)=>(MB c L tk)) (hp':=fun (_:Unit)=>(oG f m t S L tk cb c R++[Sm L tk S c])) [6] rfl rfl ?_ rfl (fun _=>by kernel_rfl) ?_
 ·refine gK 1 [(91,.pointer (some ⟨(L.b tk),4,none⟩))] [] ?_
  refine NL ?_
  exact MD () [83,91] [0,1,2,3,4,5,6,7,8]
 rintro _
 refine aK.last rfl rfl ?_
 refine gC 1 [] [(0,A_ 8 (L.b tk) 2)] [(8,[(4,vI (c.sec)),(5,vI (c.nano))])] ?_
 refine NL (ai.np (NX (SR ?_)))
 refine aj.mem (cL:=[.abs (ax (bM (ay S.O tk (fun o=>{ o with mode:=c.mode,uid:=c.uid,gid:=c.gid,sec:=c.sec,nano:=c.nano })) L)),.blk f [vI (S.X.cN),vI (S.X.cB),vI (S.X.cH),vI (S.X.cS),vI (S.X.cZ),.map (some m),vP t,vI (S.X.last),vI (S.X.ah),vI (S.X.used)] 126,.abs (aL Tryz.prog 3 m (bh (bn L S.idx)) S.idx.length),.abs (cM 197 t S.X.cH S.av (bn L S.us)),.abs (ax (bN (ay S.O tk (fun o=>{ o with mode:=c.mode,uid:=c.uid,gid:=c.gid,sec:=c.sec,nano:=c.nano })) L)),.abs (ax (cG (ay S.O tk (fun o=>{ o with mode:=c.mode,uid:=c.uid,gid:=c.gid,sec:=c.sec,nano:=c.nano })) L)),.blk cb [vI (c.op),vI (c.handle),vI (c.other),.string c.name,.string c.text,.slice c.dA (c.data.length) (c.dC),vI (c.mode),vI (c.uid),vI (c.gid),vI (c.sec),vI (c.nano),vI (c.code),vI (c.answer)] 48,.abs R]) (fun w hS=>by have h:=hS.xL (O:=S.O) (L:=L) (i:=3) (j:=8) (idx:=[0,1,2,4,5,6,7]) (k:=tk) (f:=(fun o=>{ o with mode:=c.mode,uid:=c.uid,gid:=c.gid,sec:=c.sec,nano:=c.nano })) rfl (fun _ hx=>nH hx) rfl (by kernel_rfl) rfl (by show (obj S.O tk).kind≠0;rw [hkt];decide) ((kK (o:=(fun o=>{ o with mode:=c.mode,uid:=c.uid,gid:=c.gid,sec:=c.sec,nano:=c.nano }) (obj S.O tk)) (hkt)).trans rfl) (by show jV (obj S.O tk).kind=_;rw [hkt]<;>rfl);rw [mq (O:=S.O) (k:=tk) (f:=(fun o=>{ o with mode:=c.mode,uid:=c.uid,gid:=c.gid,sec:=c.sec,nano:=c.nano })) rfl rfl,mr (O:=S.O) (k:=tk) (f:=(fun o=>{ o with mode:=c.mode,uid:=c.uid,gid:=c.gid,sec:=c.sec,nano:=c.nano })) rfl rfl];exact h) ?_
 have Cq:(obj (ay S.O tk (fun o=>{ o with mode:=c.mode,uid:=c.uid,gid:=c.gid,sec:=c.sec,nano:=c.nano })) tk).kind=2:=(jw (f:=(fun o=>{ o with mode:=c.mode,uid:=c.uid,gid:=c.gid,sec:=c.sec,nano:=c.nano })) (fun _=>rfl)).trans (hkt)
 generalize cq:(ay S.O tk (fun o=>{ o with mode:=c.mode,uid:=c.uid,gid:=c.gid,sec:=c.sec,nano:=c.nano }))=cF at Cq ⊢
 refine gK 1 [(4,vI 0)] [] ?_
 refine NN (af.ret ?_)
 exact RT (l:=[pF f m t S.X,pI m L S.idx,jQ t S L,pO cF L,pD cF L,pE cF L,pC cb c]) (.int .i64 0) [1,2,3,0,4,5,6,7] (⟨L,by subst cq;rw [show (bK S c)=(0,{ S with O:=ay S.O tk (fun o=>{ o with mode:=c.mode,uid:=c.uid,gid:=c.gid,sec:=c.sec,nano:=c.nano }) },c) by unfold bK;rw [dI];exact (if_neg (fun h=>absurd h.1 (by rw [lV];decide))).trans ((if_pos jC).trans ((if_pos ⟨sW,qw⟩).trans (if_pos um)))]<;>exact⟨rfl,rfl⟩⟩)
theorem Fc {β:Bs} (S:aG) (L:HL) (f m t:Nat) (hI:Inv S) (cb:Nat) (c:aD) (hC:fQ β c) :
    Spec Tryz.prog β 93 #[vP f,vP cb] ((pA f m t L S)++[pC cb c]) (fun v l=>∃ L2,v=vI (eu S c).1/\l=((pA f m t L2 ((eu S c).2.1))++[.blk cb (bT ((eu S c).2.2)) 48])):=by
 have hX:=hI.hX
 refine Spec.enter Tryz.func93 rfl Tryz.ntmps93 (Nat.le_of_ble_eq_true rfl) (fun R=>?_)
 refine SR (gK 1 [] [] ?_)
 refine NN (af.seq (af.bI (by kernel_rfl) (by kernel_rfl) ?_))
 refine gQ 9 [(10,vP f),(14,vI (c.handle)),(18,.string c.name)] [(4,a_ 6 cb),(8,a_ 6 cb)] ?_
 rcases kU hI.toInv0 c.handle c.name 192 with ⟨e,hab,hne⟩|⟨d,hab,hd,iN,iH,dI⟩
 ·refine aP.call (f:=123) (args:=#[vP f,vI (c.handle),.string c.name,vI 192]) (d:=(some 19)) (pre:=[pF f m t S.X,jQ t S L,pO S.O L]) (R:=(nO m L S cb c R)) (pk:=[0,2,3,1,4,5,6,7]) (iV:=[0,3,1,2,4,5,6,7]) (v0:=.tuple #[.pointer none,vI (e)]) (fun _=>by kernel_rfl) ((by have h:=ez S L f m t hI c.handle hC.hw c.name hC.nm 192 (β:=β);rw [hab] at h;exact h)) rfl (by kernel_rfl) rfl (by kernel_rfl) (fun _ _ h=>h) ?_
  refine gQ 5 [(5,.pointer none),(6,vI (e))] [] ?_
  refine NQ (NX (af.seq (SR ?_)))
  refine gK 2 [(23,.bool (!(decide ((e:Int)=(0:Int)))))] [] ?_
  refine NN (af.cY (p:=(e:Int)=(0:Int)) (fun _=>by kernel_rfl) (fun h23=>?_) (fun h23=>?_))
  ·refine SR (gK 2 [(4,vI (e))] [] ?_)
   refine NN (af.ret (ai.ak ?_))
   exact RT (vI (e)) [0,1,2,3,4,5,6,7] (⟨L,by rw [show (eu S c)=(e,S,c) by unfold eu;rw [hab]]<;>exact⟨rfl,rfl⟩⟩)
  exact absurd h23 hne
 have hkd:(obj S.O d).kind=2:=hI.kind hd
 refine aP.call (f:=123) (args:=#[vP f,vI (c.handle),.string c.name,vI 192]) (d:=(some 19)) (pre:=[pF f m t S.X,jQ t S L,pO S.O L]) (R:=(nO m L S cb c R)) (pk:=[0,2,3,1,4,5,6,7]) (iV:=[0,3,1,2,4,5,6,7]) (v0:=.tuple #[vP (L.b d),vI 0]) (fun _=>by kernel_rfl) ((by have h:=ez S L f m t hI c.handle hC.hw c.name hC.nm 192 (β:=β);rw [hab] at h;exact h)) rfl (by kernel_rfl) rfl (by kernel_rfl) (fun _ _ h=>h) ?_
 refine gQ 5 (E7 L d) [] ?_
 refine NQ (NX (af.seq (SR ?_)))
 refine gK 2 [(23,.bool false)] [] ?_
 refine NN (CF (af.skip (NX (af.seq (SR (gK 4 [(28,vI (c.mode))] [(3,a_ 6 cb)] ?_))))))
 refine gL [] (fJ (c.mode) 4095) ?_
 rintro _ _ ⟨rfl,rfl⟩
 refine gK 1 [(30,.bool (!(decide (0<=c.mode/\c.mode<=4095))))] [] ?_
 refine NN (af.cY (p:=0<=c.mode/\c.mode<=4095) (fun _=>by kernel_rfl) (fun lV=>?_) (fun lV=>?_))
 ·refine SR (gK 1 [(4,vI 120)] [] ?_)
  refine NN (af.ret (ai.ak ?_))
  exact RT (vI 120) [0,1,2,3,4,5,6,7] (⟨L,by rw [show (eu S c)=(120,S,c) by unfold eu;rw [hab];exact if_neg lV]<;>exact⟨rfl,rfl⟩⟩)
 refine af.skip (NX (af.seq (SR (gK 6 [(31,vP f),(32,vP (L.b d)),(36,.string c.name)] [(5,a_ 6 cb)] ?_))))
 refine gL [0,1,5,3] (sS S L f m t hI d hd c.name hC.nm) ?_
 rintro _ _ ⟨rfl,rfl⟩
 refine gK 1 [(6,vI ((bZ S.X S.O S.idx d c.name)))] [] ?_
 refine NS (gK 2 [(39,.bool (!(decide (((bZ S.X S.O S.idx d c.name):Int)=(0:Int)))))] [] ?_)
 refine NN (af.cY (p:=((bZ S.X S.O S.idx d c.name):Int)=(0:Int)) (fun _=>by kernel_rfl) (fun h0=>?_) (fun h0=>?_))
 ·refine SR (gK 2 [(4,vI ((bZ S.X S.O S.idx d c.name)))] [] ?_)
  refine NN (af.ret (ai.ak ?_))
  exact RT (vI ((bZ S.X S.O S.idx d c.name))) [0,1,4,3,5,2,6,7] (⟨L,by rw [show (eu S c)=(bZ S.X S.O S.idx d c.name,S,c) by unfold eu;rw [hab];exact (if_pos lV).trans (if_neg h0)]<;>exact⟨rfl,rfl⟩⟩)
 have hno:=nL h0
 refine af.skip (NX (SR (gN 8 (fun b4=>[(7,vP b4)]) (fun b4=>[(3,a_ 6 cb)]) (fun _=>[]) (fun b4=>.blk b4 [vI 0,vI (c.mode),vI 0,vI 0,vI 0,vI 0,vI 0,vI 0,.bool false,.slice none (0) (0)] 131) (fun b4=>?_))))
 refine NN (af.seq (af.seq ?_))
 rcases Int.lt_or_le (S.us.length:Int) S.X.cH with sU|sU
 ·refine af.region (gK 4 (Qs cb f b4) [] ?_)
  obtain⟨L2,hL2⟩:∃ L2:HL,L2=L.put (aN S.X) b4 0 none 0:=⟨_,rfl⟩
  have hfr:=hI.toInv0.fresh
  refine aj.mem (fun w hS=>hS.sN hL2 hfr (o:=(⟨0,c.mode,0,0,0,0,0,0,false,1,[],⟨#[]⟩,[],none⟩:aT)) (i:=3) (j:=8) (ix:=[0,1,2,4,5,6,7]) rfl rfl (by kernel_rfl) rfl (by show (1:Int)≠0;decide) ((gM (L:=L2) (k:=(aN S.X)) (o:=(⟨0,c.mode,0,0,0,0,0,0,false,1,[],⟨#[]⟩,[],none⟩:aT)) rfl).trans (by rw [show L2.dA (aN S.X)=none by rw [hL2];exact if_pos rfl,show L2.dC (aN S.X)=0 by rw [hL2];exact if_pos rfl];rfl)) rfl) ?_
  refine aj.dz [(3,pE (ay S.O (aN S.X) (fun _=>(⟨0,c.mode,0,0,0,0,0,0,false,1,[],⟨#[]⟩,[],none⟩:aT))) L2)] (fun w hS=>hS.tW hL2 hfr (o:=(⟨0,c.mode,0,0,0,0,0,0,false,1,[],⟨#[]⟩,[],none⟩:aT)) (i:=3) rfl (by show (1:Int)≠2;decide)) ?_
  refine aj.mem (fun w hS=>hS.jL (e:=5) (size:=1)) ?_
  refine aj.mem (fun w hS=>hS.H9 hL2 (o:=(⟨0,c.mode,0,0,0,0,0,0,false,1,[],⟨#[]⟩,[],none⟩:aT)) (i:=5) (j:=8) (ix:=[0,1,2,3,4,6,7]) rfl rfl (by kernel_rfl) rfl rfl rfl) ?_
  refine aj.dz [(3,.abs (aL Tryz.prog 3 m (bh (bn L2 S.idx)) S.idx.length)),(5,.abs (cM 197 t S.X.cH S.av (bn L2 S.us)))] (fun w hS=>by rw [gn hL2 hfr.idx,gn hL2 hfr.us];exact hS) ?_
  refine gL (f:=121) (args:=#[vP f,.iface 129 (vP b4)]) (pre:=[pF f m t S.X,jQ t S L2,Sn S c L2]) [2,5,1] ((by have h:=rV (β:=β) { S with O:=(ay S.O (aN S.X) (fun _=>(⟨0,c.mode,0,0,0,0,0,0,false,1,[],⟨#[]⟩,[],none⟩:aT))) } L2 f m t ⟨(aN S.X),1⟩ (by show (obj (ay S.O (aN S.X) (fun _=>(⟨0,c.mode,0,0,0,0,0,0,false,1,[],⟨#[]⟩,[],none⟩:aT))) (aN S.X)).kind=1;rw [bP]) (by simp) (by show 0<=(obj (ay S.O (aN S.X) (fun _=>(⟨0,c.mode,0,0,0,0,0,0,false,1,[],⟨#[]⟩,[],none⟩:aT))) (aN S.X)).opens/\(obj (ay S.O (aN S.X) (fun _=>(⟨0,c.mode,0,0,0,0,0,0,false,1,[],⟨#[]⟩,[],none⟩:aT))) (aN S.X)).opens<=1048576;rw [bP];exact⟨Int.le_refl _,by show (0:Int)<=1048576;decide⟩);rw [nK hL2,kD (S:={ S with O:=(ay S.O (aN S.X) (fun _=>(⟨0,c.mode,0,0,0,0,0,0,false,1,[],⟨#[]⟩,[],none⟩:aT))) }) (t:=⟨(aN S.X),1⟩) sU] at h;exact h)) ?_
  rintro _ _ ⟨rfl,rfl⟩
  refine gC 7 [(6,vI 0)] [(5,a_ 6 cb)] [(6,[(12,vI ((aB.least S.us)))])] ?_
  refine NS (gK 2 [(59,.bool false)] [] ?_)
  refine NN (CF (af.skip (NX (SR (aj.slot 7 (vP b4) (vP (L2.b (aN S.X))) (fun _=>by kernel_rfl) (by rw [Au hL2]) ?_)))))
  refine aj.dz [(3,.abs (ax (bN (ay (ay S.O (aN S.X) (fun _=>(⟨0,c.mode,0,0,0,0,0,0,false,1,[],⟨#[]⟩,[],none⟩:aT))) (aN S.X) (fun o=>{ o with opens:=o.opens+1 })) L2))),(5,.abs (ax (cG (ay (ay S.O (aN S.X) (fun _=>(⟨0,c.mode,0,0,0,0,0,0,false,1,[],⟨#[]⟩,[],none⟩:aT))) (aN S.X) (fun o=>{ o with opens:=o.opens+1 })) L2)))] (fun w hS=>by rw [mq (O:=(ay S.O (aN S.X) (fun _=>(⟨0,c.mode,0,0,0,0,0,0,false,1,[],⟨#[]⟩,[],none⟩:aT)))) (k:=(aN S.X)) (f:=(fun o=>{ o with opens:=o.opens+1 })) rfl rfl,mr (O:=(ay S.O (aN S.X) (fun _=>(⟨0,c.mode,0,0,0,0,0,0,false,1,[],⟨#[]⟩,[],none⟩:aT)))) (k:=(aN S.X)) (f:=(fun o=>{ o with opens:=o.opens+1 })) rfl rfl];exact hS) ?_
  have hkN:(obj (ay (ay S.O (aN S.X) (fun _=>(⟨0,c.mode,0,0,0,0,0,0,false,1,[],⟨#[]⟩,[],none⟩:aT))) (aN S.X) (fun o=>{ o with opens:=o.opens+1 })) (aN S.X)).kind=1:=by rw [bP,bP]
  have Sp:(obj (ay (ay S.O (aN S.X) (fun _=>(⟨0,c.mode,0,0,0,0,0,0,false,1,[],⟨#[]⟩,[],none⟩:aT))) (aN S.X) (fun o=>{ o with opens:=o.opens+1 })) (aN S.X)).opens=1:=by rw [bP,bP];rfl
  generalize cq:(ay (ay S.O (aN S.X) (fun _=>(⟨0,c.mode,0,0,0,0,0,0,false,1,[],⟨#[]⟩,[],none⟩:aT))) (aN S.X) (fun o=>{ o with opens:=o.opens+1 }))=cF at hkN Sp ⊢
  refine gK 6 [(8,vI ((obj cF (aN S.X)).opens))] [(4,v_ 2 (jI L2 hkN))] ?_
  refine NS (gK 6 [(66,vP (L2.b (aN S.X))),(67,vP f),(71,vI (c.mode))] [(5,a_ 6 cb)] ?_)
  refine gL [0] (sR S.X f m t hX c.mode) ?_
  rintro _ _ ⟨rfl,rfl⟩
  refine gK 2 [(74,vP (L2.b (aN S.X)))] [] ?_
  refine aj.mem (fun w hS=>hS.wo (i:=2) (k:=(aN S.X)) rfl (by rw [hkN];decide) (gM (hkN)) (congrArg jV (hkN))) ?_
  refine gC 1 [] [(0,A_ 8 (L2.b (aN S.X)) 9)] [(8,[(0,vI (S.X.last+1)),(1,vI (c.mode)),(2,vI 0),(3,vI 0),(4,vI (S.X.cS)),(5,vI (S.X.cZ)),(6,vI 0),(7,vI 0),(8,.bool false)])] ?_
  refine aj.mem (cL:=[.abs (ax (bM (ay cF (aN S.X) (fun o=>{ o with id:=S.X.last+1,mode:=c.mode,uid:=0,gid:=0,sec:=S.X.cS,nano:=S.X.cZ,links:=0,opens:=0,gone:=false })) L2)),.blk f [vI (S.X.cN),vI (S.X.cB),vI (S.X.cH),vI (S.X.cS),vI (S.X.cZ),.map (some m),vP t,vI (S.X.last+1),vI (S.X.ah),vI (S.X.used)] 126,.abs (cM 197 t S.X.cH (max S.av ((S.us.length:Int)+1)) (bn L2 (ins (aB.least S.us) ⟨(aN S.X),1⟩ S.us))),.abs (ax (bN (ay cF (aN S.X) (fun o=>{ o with id:=S.X.last+1,mode:=c.mode,uid:=0,gid:=0,sec:=S.X.cS,nano:=S.X.cZ,links:=0,opens:=0,gone:=false })) L2)),.abs (aL Tryz.prog 3 m (bh (bn L2 S.idx)) S.idx.length),.abs (ax (cG (ay cF (aN S.X) (fun o=>{ o with id:=S.X.last+1,mode:=c.mode,uid:=0,gid:=0,sec:=S.X.cS,nano:=S.X.cZ,links:=0,opens:=0,gone:=false })) L2)),.blk cb [vI (c.op),vI (c.handle),vI (c.other),.string c.name,.string c.text,.slice c.dA (c.data.length) (c.dC),vI (c.mode),vI (c.uid),vI (c.gid),vI (c.sec),vI (c.nano),vI (c.code),vI ((aB.least S.us))] 48,.abs R]) (fun w hS=>by have h:=hS.xL (O:=cF) (L:=L2) (i:=2) (j:=8) (idx:=[0,1,3,4,5,6,7]) (k:=(aN S.X)) (f:=(fun o=>{ o with id:=S.X.last+1,mode:=c.mode,uid:=0,gid:=0,sec:=S.X.cS,nano:=S.X.cZ,links:=0,opens:=0,gone:=false })) rfl (fun _ hx=>nH hx) rfl (by kernel_rfl) rfl (by show (obj cF (aN S.X)).kind≠0;rw [hkN];decide) ((gM (o:=(fun o=>{ o with id:=S.X.last+1,mode:=c.mode,uid:=0,gid:=0,sec:=S.X.cS,nano:=S.X.cZ,links:=0,opens:=0,gone:=false }) (obj cF (aN S.X))) (hkN)).trans rfl) (by show jV (obj cF (aN S.X)).kind=_;rw [hkN]<;>rfl);rw [mq (O:=cF) (k:=(aN S.X)) (f:=(fun o=>{ o with id:=S.X.last+1,mode:=c.mode,uid:=0,gid:=0,sec:=S.X.cS,nano:=S.X.cZ,links:=0,opens:=0,gone:=false })) rfl rfl,mr (O:=cF) (k:=(aN S.X)) (f:=(fun o=>{ o with id:=S.X.last+1,mode:=c.mode,uid:=0,gid:=0,sec:=S.X.cS,nano:=S.X.cZ,links:=0,opens:=0,gone:=false })) rfl rfl];exact h) ?_
  have wV:(obj (ay cF (aN S.X) (fun o=>{ o with id:=S.X.last+1,mode:=c.mode,uid:=0,gid:=0,sec:=S.X.cS,nano:=S.X.cZ,links:=0,opens:=0,gone:=false })) (aN S.X)).kind=1:=(jw (f:=(fun o=>{ o with id:=S.X.last+1,mode:=c.mode,uid:=0,gid:=0,sec:=S.X.cS,nano:=S.X.cZ,links:=0,opens:=0,gone:=false })) (fun _=>rfl)).trans (hkN)
  generalize dw:(ay cF (aN S.X) (fun o=>{ o with id:=S.X.last+1,mode:=c.mode,uid:=0,gid:=0,sec:=S.X.cS,nano:=S.X.cZ,links:=0,opens:=0,gone:=false }))=d6 at wV ⊢
  refine NS (gK 5 [(76,vI ((obj cF (aN S.X)).opens)),(79,.pointer (some ⟨(L2.b (aN S.X)),7,none⟩))] [] ?_)
  refine rT 0 [(5,1),(3,2)] (aN S.X) 7 (fun o=>{ o with opens:=(obj cF (aN S.X)).opens }) wV (fun uj lf=>?_)
  have Mp:=ku lf wV
  refine NS ?_
  have hfin:uj=ay S.O (aN S.X) (fun _=>{ aV S.X 1 c.mode with opens:=1 }):=by subst lf;subst dw;rw [Sp];subst cq;simp only [sF];rfl
  subst hfin
  show aj _ _ _ _ _ _ [pO (ay S.O (aN S.X) (fun _=>{ aV S.X 1 c.mode with opens:=1 })) L2,pF f m t { S.X with last:=S.X.last+1 },pT t S.X.cH (max S.av ((S.us.length:Int)+1)) L2 (ins (aB.least S.us) ⟨(aN S.X),1⟩ S.us),pD (ay S.O (aN S.X) (fun _=>{ aV S.X 1 c.mode with opens:=1 })) L2,pI m L2 S.idx,pE (ay S.O (aN S.X) (fun _=>{ aV S.X 1 c.mode with opens:=1 })) L2,pC cb { c with answer:=aB.least S.us },.abs R] _
  refine gK 8 [(80,vP f),(81,vP (L.b d)),(85,.string c.name),(87,.iface 129 (vP (L2.b (aN S.X))))] [(5,a_ 6 cb)] ?_
  refine gL (f:=127) (args:=#[vP f,vP (L.b d),.string c.name,.iface 129 (vP (L2.b (aN S.X)))]) (pre:=[pF f m t { S.X with last:=S.X.last+1 },pI m L2 S.idx,pO (ay S.O (aN S.X) (fun _=>{ aV S.X 1 c.mode with opens:=1 })) L2,pE (ay S.O (aN S.X) (fun _=>{ aV S.X 1 c.mode with opens:=1 })) L2]) [1,4,0,5] ((by have h:=qM (β:=β) S L2 f m t hI.toInv0 d hd c.name hC.nm hno { aV S.X 1 c.mode with opens:=1 } rfl (by simp [aV]) rfl (pH h0);rw [uP hL2 (hI.tV hd)] at h;exact h)) ?_
  rintro _ _ ⟨rfl,rfl⟩
  refine NS (aj.dz [(5,.abs (ax (bN ((eU S d c.name { aV S.X 1 c.mode with opens:=1 }).O) L2)))] (fun w hS=>by rw [show bN ((eU S d c.name { aV S.X 1 c.mode with opens:=1 }).O) L2=bN (ay S.O (aN S.X) (fun _=>{ aV S.X 1 c.mode with opens:=1 })) L2 from gS];exact hS) ?_)
  refine gK 1 [(4,vI 0)] [] ?_
  refine NN (af.ret ?_)
  exact RT (vI 0) [0,1,4,2,5,3,6,7] (⟨L2,by rw [show (eu S c)=(0,(eU { S with us:=(ins (aB.least S.us) ⟨(aN S.X),1⟩ S.us),av:=(max S.av ((S.us.length:Int)+1)) } d c.name { aV S.X 1 c.mode with opens:=1 }),{ c with answer:=aB.least S.us }) by unfold eu;rw [hab];exact (if_pos lV).trans ((if_pos h0).trans (by rw [show mz S d c.name c.mode=(aB.least S.us,0,(eU { S with us:=(ins (aB.least S.us) ⟨(aN S.X),1⟩ S.us),av:=(max S.av ((S.us.length:Int)+1)) } d c.name { aV S.X 1 c.mode with opens:=1 })) from (if_pos h0).trans (if_pos sU)]))]<;>exact⟨rfl,rfl⟩⟩)
 refine af.region (gK 4 (Qs cb f b4) [] ?_)
 obtain⟨L2,hL2⟩:∃ L2:HL,L2=L.put (aN S.X) b4 0 none 0:=⟨_,rfl⟩
 have hfr:=hI.toInv0.fresh
 refine aj.mem (fun w hS=>hS.sN hL2 hfr (o:=(⟨0,c.mode,0,0,0,0,0,0,false,1,[],⟨#[]⟩,[],none⟩:aT)) (i:=3) (j:=8) (ix:=[0,1,2,4,5,6,7]) rfl rfl (by kernel_rfl) rfl (by show (1:Int)≠0;decide) ((gM (L:=L2) (k:=(aN S.X)) (o:=(⟨0,c.mode,0,0,0,0,0,0,false,1,[],⟨#[]⟩,[],none⟩:aT)) rfl).trans (by rw [show L2.dA (aN S.X)=none by rw [hL2];exact if_pos rfl,show L2.dC (aN S.X)=0 by rw [hL2];exact if_pos rfl];rfl)) rfl) ?_
 refine aj.dz [(3,pE (ay S.O (aN S.X) (fun _=>(⟨0,c.mode,0,0,0,0,0,0,false,1,[],⟨#[]⟩,[],none⟩:aT))) L2)] (fun w hS=>hS.tW hL2 hfr (o:=(⟨0,c.mode,0,0,0,0,0,0,false,1,[],⟨#[]⟩,[],none⟩:aT)) (i:=3) rfl (by show (1:Int)≠2;decide)) ?_
 refine aj.mem (fun w hS=>hS.jL (e:=5) (size:=1)) ?_
 refine aj.mem (fun w hS=>hS.H9 hL2 (o:=(⟨0,c.mode,0,0,0,0,0,0,false,1,[],⟨#[]⟩,[],none⟩:aT)) (i:=5) (j:=8) (ix:=[0,1,2,3,4,6,7]) rfl rfl (by kernel_rfl) rfl rfl rfl) ?_
 refine aj.dz [(3,.abs (aL Tryz.prog 3 m (bh (bn L2 S.idx)) S.idx.length)),(5,.abs (cM 197 t S.X.cH S.av (bn L2 S.us)))] (fun w hS=>by rw [gn hL2 hfr.idx,gn hL2 hfr.us];exact hS) ?_
 refine gL (f:=121) (args:=#[vP f,.iface 129 (vP b4)]) (pre:=[pF f m t S.X,jQ t S L2,Sn S c L2]) [2,5,1] ((by have h:=rV (β:=β) { S with O:=(ay S.O (aN S.X) (fun _=>(⟨0,c.mode,0,0,0,0,0,0,false,1,[],⟨#[]⟩,[],none⟩:aT))) } L2 f m t ⟨(aN S.X),1⟩ (by show (obj (ay S.O (aN S.X) (fun _=>(⟨0,c.mode,0,0,0,0,0,0,false,1,[],⟨#[]⟩,[],none⟩:aT))) (aN S.X)).kind=1;rw [bP]) (by simp) (by show 0<=(obj (ay S.O (aN S.X) (fun _=>(⟨0,c.mode,0,0,0,0,0,0,false,1,[],⟨#[]⟩,[],none⟩:aT))) (aN S.X)).opens/\(obj (ay S.O (aN S.X) (fun _=>(⟨0,c.mode,0,0,0,0,0,0,false,1,[],⟨#[]⟩,[],none⟩:aT))) (aN S.X)).opens<=1048576;rw [bP];exact⟨Int.le_refl _,by show (0:Int)<=1048576;decide⟩);rw [nK hL2,lK (S:={ S with O:=(ay S.O (aN S.X) (fun _=>(⟨0,c.mode,0,0,0,0,0,0,false,1,[],⟨#[]⟩,[],none⟩:aT))) }) (t:=⟨(aN S.X),1⟩) (by show ¬ (S.us.length:Int) < S.X.cH;omega)] at h;exact h)) ?_
 rintro _ _ ⟨rfl,rfl⟩
 refine gC 7 [(6,vI 130)] [(5,a_ 6 cb)] [(6,[(12,vI 0)])] ?_
 refine NS (gK 2 [(59,.bool true)] [] ?_)
 refine NN (CT (SR ?_))
 have hk0:(obj S.O (aN S.X)).kind=0:=hI.qH _ (by have:=oW hI.toInv0;omega)
 refine aj.dz [(2,.abs (ax (bM S.O L)))] (fun w hS=>hS.wF (i:=2) rfl (aN S.X) (fun x hx=>by rw [tQ hx,GF hL2 hfr hx]) (by unfold bM;rw [hk0];rfl)) ?_
 refine aj.dz [(5,.abs (ax (cG S.O L)))] (fun w hS=>hS.wF (i:=5) rfl (aN S.X) (fun x hx=>by rw [wi hx,Cd hL2 hfr hx]) (by unfold cG;rw [hk0];rfl)) ?_
 refine aj.mem (cL:=[.blk f [vI (S.X.cN),vI (S.X.cB),vI (S.X.cH),vI (S.X.cS),vI (S.X.cZ),.map (some m),vP t,vI (S.X.last),vI (S.X.ah),vI (S.X.used)] 126,.abs (cM 197 t S.X.cH S.av (bn L2 S.us)),.abs (ax (bM S.O L)),.abs (ax (bN S.O L)),.abs (aL Tryz.prog 3 m (bh (bn L2 S.idx)) S.idx.length),.abs (ax (cG S.O L)),.blk cb [vI (c.op),vI (c.handle),vI (c.other),.string c.name,.string c.text,.slice c.dA (c.data.length) (c.dC),vI (c.mode),vI (c.uid),vI (c.gid),vI (c.sec),vI (c.nano),vI (c.code),vI 0] 48,.abs R]) (fun w hS=>hS.wF (i:=3) rfl (aN S.X) (fun x hx=>by rw [wj hx,xR hL2 hx]) (by unfold bN;rw [hk0];rfl)) ?_
 refine aj.mem (cL:=[.blk f [vI (S.X.cN),vI (S.X.cB),vI (S.X.cH),vI (S.X.cS),vI (S.X.cZ),.map (some m),vP t,vI (S.X.last),vI (S.X.ah),vI (S.X.used)] 126,.abs (cM 197 t S.X.cH S.av (bn L S.us)),.abs (ax (bM S.O L)),.abs (ax (bN S.O L)),.abs (aL Tryz.prog 3 m (bh (bn L S.idx)) S.idx.length),.abs (ax (cG S.O L)),.blk cb [vI (c.op),vI (c.handle),vI (c.other),.string c.name,.string c.text,.slice c.dA (c.data.length) (c.dC),vI (c.mode),vI (c.uid),vI (c.gid),vI (c.sec),vI (c.nano),vI (c.code),vI 0] 48,.abs R]) (fun w hS=>by rw [gn hL2 hfr.idx,gn hL2 hfr.us] at hS;exact hS) ?_
 refine gK 2 [(4,vI 130)] [] ?_
 refine NN (af.ret (ai.ak ?_))
 exact RT (vI 130) [0,4,1,2,3,5,6,7] (⟨L,by rw [show (eu S c)=(130,S,{ c with answer:=0 }) by unfold eu;rw [hab];exact (if_pos lV).trans ((if_pos h0).trans (by rw [show mz S d c.name c.mode=(0,130,S) from (if_pos h0).trans (if_neg (by omega))]))]<;>exact⟨rfl,rfl⟩⟩)
end
section
open Go.RowKit
def uo (b:Nat) (v:Value):cA where
  h F w:=∃ cs T,cs[0]?=some v/\(HP.blk b cs T).h F w
  lt:=fun ⟨_,_,_,h⟩=>HP.lt h
  st:=fun ⟨cs,T,hv,h⟩ _ _ hk hd=>⟨cs,T,hv,HP.st h hk hd⟩
theorem uo.cell {b:Nat} {v:Value}:∀ F w,(uo b v).h F w->w.cell? ⟨b,0,none⟩=some v:=by
  rintro F w ⟨cs,T,hv,h⟩
  exact (gq h.1 rfl rfl hv).1
theorem Sat.first {β:Bs} {l:List HP} {w:World} {i b:Nat} {cs:List Value} {T:TypeId} {v:Value} (h:Sat β l w) (hp:l[i]?=some (.blk b cs T)) (hv:cs[0]?=some v):Sat β [.abs (uo b v)] w:=by
  obtain⟨ho,φ,h1,h2,h3⟩:=h
  have hi:=bE hp
  refine⟨ho,fun _=>φ i,fun j q hq=>?_,fun j hj=>h2 i hi,fun j k hj hk hne=>?_⟩
  ·have hj:=bE hq
   simp at hj
   subst hj
   simp at hq
   subst hq
   exact⟨cs,T,hv,h1 i _ hp⟩
  simp at hj hk
  omega
section mix
variable {P:Program} {β:Bs} {N:Nat} {ops:Array Oper} {S:List HP} {l:List Nat} {fr:Fr} {hps:List HP} {Q:Post} {i:Nat}
theorem af.I4 {id:Nat} (perm:List Nat) (nr:Nat) (hm:P.follows .mixedOrders=true) (hB:zU ops perm nr=true) (hp:∀ w,Sat β hps w->Sat β S w) (h:aK P β N ops S nr perm fr hps Q):af P β N (.region id ops true) fr hps Q:=by
  intro junk w hS
  unfold zU at hB
  simp only [Bool.and_eq_true,beq_iff_eq] at hB
  obtain⟨⟨⟨h1,h2⟩,h3⟩,h4⟩:=hB
  have dR:=hS.drewN 1
  have h5:=BI (Q:=Q) h1 h2 nr perm _ _ _ h4 (fun j oj _ hl=>by simp [Array.getD_eq_getD_getElem?,Array.getElem?_replicate] at hl;split at hl<;>simp at hl) (hp _ dR) (h junk (w.drewN 1) dR)
  rw [h3] at h5
  refine Code.wp_mono (fun e a w q=>?_) (wp_region_any hm (nT _ _ _ _ h5))
  cases e with
  | normal=>exact q
  | exit id=>exact q.elim
  | goto l=>exact q.elim
  | ret=>exact q.elim
  | panic ch=>exact q.elim
  | outgrown=>exact q.elim
theorem aK.I5 {ι:Type} {fr':ι->Fr} {hp':ι->List HP} {o:Oper} (hop:ops[i]?=some o) (hg:o.guard=none) (h:aj P β N #[o] 0 fr hps (NP (nD β N fr' hp'))) (hp:∀ j w,Sat β (hp' j) w->Sat β S w)
    (K:∀ j,aK P β N ops S 0 l (fr' j) (hp' j) Q):aK P β N ops S 0 (i::l) fr hps Q:=by
  intro junk w hS
  unfold mg
  refine gA hop hg ?_
  have h1:=h junk w hS
  have h2:wpList P #[o] (NP (nD β N fr' hp')) [o] (cC N fr junk) w:=h1
  refine jo (fun a w ⟨j,gF,ha,dR⟩=>?_) h2
  subst ha
  exact⟨.inr (hp j _ dR),K j gF w dR⟩
end mix
end
section
open Go.RowKit Go.Maps bL aB
def KD:List Nat:=[89,90,91,92,93,94,95,96,97,98,99,100,101,102,103]
def Sq:Value:=.agg ⟨.nilFunc::KD.map (fun f=>.func (.func f) #[] #[])⟩
theorem I6 {n:Int} (h:1<=n/\n<=15):n=1\/n=2\/n=3\/n=4\/n=5\/n=6\/n=7\/n=8\/n=9\/n=10\/n=11\/n=12\/n=13\/n=14\/n=15:=by omega
theorem Qt {w:World} {o:Oper} {ev:Operand->Value} {x y:Operand} {n:Int} (ho:o.op=.index 145 x y) (hx:ev x=Sq) (hy:ev y=.int .i64 n) (hn:1<=n/\n<=15):nB Tryz.prog ev o w (.func (.func (KD.getD (n.toNat - 1) 0)) #[] #[]) w:=by
  obtain⟨dst,op,type,pos,after,guard⟩:=o
  cases ho
  refine .inl ?_
  simp only [execOp,hx,hy]
  rcases I6 hn with h|h|h|h|h|h|h|h|h|h|h|h|h|h|h<;>subst h<;>kernel_rfl
theorem aj.hn {β:Bs} {N k:Nat} {ops:Array Oper} {fr:Fr} {hps:List HP} {Q:Post} {d:Option Tmp} {x y:Operand} {n:Int} (hn:1<=n/\n<=15) (K:aj Tryz.prog β N ops (k+1) (dM fr d (.func (.func (KD.getD (n.toNat - 1) 0)) #[] #[])) hps Q)
    (hop:∀ junk,fw N junk ops fr k=some (.index 145 x y,d):=by intro _;kernel_rfl) (hx:∀ junk,dG N fr junk x=Sq:=by intro _;kernel_rfl) (hy:∀ junk,dG N fr junk y=.int .i64 n:=by intro _;kernel_rfl):aj Tryz.prog β N ops k fr hps Q:=
  aj.jf hop (fun _ junk w ho hS=>⟨w,Qt ho (hx junk) (hy junk) hn,hS⟩) K
theorem RM {β:Bs} {S:aG} {L:HL} {f m t b:Nat} {c:aD} (n:Int) (hI:Inv S) (hC:fQ β c) (h:1<=n/\n<=15) (he:c.op=n):Spec Tryz.prog β (KD.getD (n.toNat - 1) 0) #[vP f,vP b] (pA f m t L S++[pC b c]) (fun v l=>∃ L2,v=vI (cT S c).1/\l=pA f m t L2 (cT S c).2.1++[pC b (cT S c).2.2]):=by
  subst he
  rcases I6 h with h|h|h|h|h|h|h|h|h|h|h|h|h|h|h<;>rw [h]
  ·rw [uQ h];exact IW S L f m t hI b c hC
  ·rw [xT h];exact Dv S L f m t hI b c hC
  ·rw [xU h];exact Ct S L f m t hI b c hC
  ·rw [uR h];exact Gc S L f m t hI b c hC
  ·rw [xV h];exact Fc S L f m t hI b c hC
  ·rw [xW h];exact Dw S L f m t hI b c hC
  ·rw [xX h];exact I0 S L f m t hI b c hC
  ·rw [xY h];exact E8 S L f m t hI b c hC
  ·rw [xZ h];exact Ge S L f m t hI b c hC
  ·rw [tX h];exact Dx S L f m t hI b c hC
  ·rw [tY h];exact I3 S L f m t hI b c hC
  ·rw [tZ h];exact Fb S L f m t hI b c hC
  ·rw [rJ h];exact Gf S L f m t hI b c hC
  ·rw [t6 h];exact Gd S L f m t hI b c hC
  rw [t7 h];exact E9 S L f m t hI b c hC
theorem KE {S:aG} {c:aD} (h:1<=c.op/\c.op<=15):(cT S c).2.2.op=c.op:=by
  rcases I6 h with h|h|h|h|h|h|h|h|h|h|h|h|h|h|h
  ·rw [uQ h];exact Ox
  ·rw [xT h];exact Ih
  ·rw [xU h];exact FW
  ·rw [uR h];exact Ii
  ·rw [xV h];exact FX
  ·rw [xW h];exact EF
  ·rw [xX h];exact J4
  ·rw [xY h];exact FY
  ·rw [xZ h];exact Ik
  ·rw [tX h];exact Il
  ·rw [tY h];exact Oy
  ·rw [tZ h];exact J5
  ·rw [rJ h];exact LZ
  ·rw [t6 h];exact Ij
  rw [t7 h];exact FZ
end
section
open Go.RowKit Go.Maps bL aB
attribute [local irreducible] aj aP af ai
abbrev oH (b3:Nat):=(.blk b3 [vI 0,vI 0,vI 0,.string ⟨#[]⟩,.string ⟨#[]⟩,.slice none (0) (0),vI 0,vI 0,vI 0,vI 0,vI 0,vI 0,vI 0] 48:HP)
abbrev Sr (c:aD):=([(0,vI (c.op)),(1,vI (c.handle)),(2,vI (c.other)),(3,.string c.name),(4,.string c.text),(5,.slice c.dA (c.data.length) (c.dC)),(6,vI (c.mode)),(7,vI (c.uid)),(8,vI (c.gid)),(9,vI (c.sec)),(10,vI (c.nano)),(11,vI 230)]:Fr)
theorem Gg {β:Bs}:Spec Tryz.prog β 65 #[] [] (fun v l=>v=.agg #[.nilFunc,.func (.func 89) #[] #[],.func (.func 90) #[] #[],.func (.func 91) #[] #[],.func (.func 92) #[] #[],.func (.func 93) #[] #[],.func (.func 94) #[] #[],.func (.func 95) #[] #[],.func (.func 96) #[] #[],.func (.func 97) #[] #[],.func (.func 98) #[] #[],.func (.func 99) #[] #[],.func (.func 100) #[] #[],.func (.func 101) #[] #[],.func (.func 102) #[] #[],.func (.func 103) #[] #[]]/\l=[]):=by
 refine Spec.enter Tryz.func65 rfl Tryz.ntmps65 (Nat.le_of_ble_eq_true rfl) (fun R=>?_)
 refine SR (gN 1 (fun b1=>[(0,vP b1)]) (fun _=>[]) (fun _=>[]) (fun b1=>.blk b1 [.nilFunc,.nilFunc,.nilFunc,.nilFunc,.nilFunc,.nilFunc,.nilFunc,.nilFunc,.nilFunc,.nilFunc,.nilFunc,.nilFunc,.nilFunc,.nilFunc,.nilFunc,.nilFunc] 145) (fun b1=>?_))
 refine NS (gC 2 [] [(1,A_ 1 b1 16)] [(1,[(1,.func (.func 89) #[] #[]),(2,.func (.func 90) #[] #[]),(3,.func (.func 91) #[] #[]),(4,.func (.func 92) #[] #[]),(5,.func (.func 93) #[] #[]),(6,.func (.func 94) #[] #[]),(7,.func (.func 95) #[] #[]),(8,.func (.func 96) #[] #[]),(9,.func (.func 97) #[] #[]),(10,.func (.func 98) #[] #[]),(11,.func (.func 99) #[] #[]),(12,.func (.func 100) #[] #[]),(13,.func (.func 101) #[] #[]),(14,.func (.func 102) #[] #[]),(15,.func (.func 103) #[] #[])])] ?_)
 refine NN (af.ret ?_)
 exact ai.ret (v:=.agg #[.nilFunc,.func (.func 89) #[] #[],.func (.func 90) #[] #[],.func (.func 91) #[] #[],.func (.func 92) #[] #[],.func (.func 93) #[] #[],.func (.func 94) #[] #[],.func (.func 95) #[] #[],.func (.func 96) #[] #[],.func (.func 97) #[] #[],.func (.func 98) #[] #[],.func (.func 99) #[] #[],.func (.func 100) #[] #[],.func (.func 101) #[] #[],.func (.func 102) #[] #[],.func (.func 103) #[] #[]]) (l:=[]) (bF:=[b1=b1,b1=b1,b1=b1,b1=b1,b1=b1,b1=b1,b1=b1,b1=b1,b1=b1,b1=b1,b1=b1,b1=b1,b1=b1,b1=b1,b1=b1,b1=b1]) [.at 1,.at 1,.at 1,.at 1,.at 1,.at 1,.at 1,.at 1,.at 1,.at 1,.at 1,.at 1,.at 1,.at 1,.at 1,.at 1] [0] (fun _=>by kernel_rfl) ⟨rfl,rfl,rfl,rfl,rfl,rfl,rfl,rfl,rfl,rfl,rfl,rfl,rfl,rfl,rfl,rfl,trivial⟩ rfl (by kernel_rfl) (⟨rfl,rfl⟩)
theorem Fe {β:Bs} (S:aG) (L:HL) (f m t:Nat) (hI:Inv S) (c:aD) (hC:fQ β c) :
    Spec Tryz.prog β 24 #[vP f,.agg #[vI (c.op),vI (c.handle),vI (c.other),.string c.name,.string c.text,.slice c.dA (c.data.length) (c.dC),vI (c.mode),vI (c.uid),vI (c.gid),vI (c.sec),vI (c.nano),vI (c.code),vI (c.answer)]] (pA f m t L S) (fun v l=>∃ L2,v=.agg ⟨bT (cI S c).2⟩/\l=(pA f m t L2 ((cI S c).1))):=by
 have hX:=hI.hX
 refine Spec.enter Tryz.func24 rfl Tryz.ntmps24 (Nat.le_of_ble_eq_true rfl) (fun R=>?_)
 refine SR (gN 1 (fun b2=>[(3,vP b2)]) (fun _=>[]) (fun _=>[]) (fun b2=>pC b2 c) (fun b2=>?_))
 refine gN 1 (fun b3=>[(4,vP b3)]) (fun _=>[]) (fun _=>[]) (fun b3=>.blk b3 [vI 0,vI 0,vI 0,.string ⟨#[]⟩,.string ⟨#[]⟩,.slice none (0) (0),vI 0,vI 0,vI 0,vI 0,vI 0,vI 0,vI 0] 48) (fun b3=>?_)
 refine NS (gC 2 [] [(1,a_ 7 b2)] [(7,[(12,vI 0)])] ?_)
 refine NS (gC 2 [] [(1,a_ 7 b2)] [(7,[(11,vI 230)])] ?_)
 refine NN (af.seq (SR (gK 4 [(10,.bool (decide ((c.op:Int) ≥ (1:Int))))] [(1,a_ 7 b2)] ?_)))
 refine aj.fR 10 ((c.op:Int) ≥ (1:Int)) (fun _=>by kernel_rfl) (fun h10=>?_) (fun h10=>?_)
 ·refine gK 4 [(14,.bool (decide ((c.op:Int)<=(15:Int))))] [(1,a_ 7 b2)] ?_
  refine NN (af.bg (p:=(c.op:Int)<=(15:Int)) (fun _=>by kernel_rfl) (fun iQ=>?_) (fun iQ=>?_))
  ·have hop:1<=c.op/\c.op<=15:=⟨h10,iQ⟩
   refine af.I4 (S:=[.abs (uo b2 (.int .i64 c.op))]) [1,2,4,0,3,5,6,7] 3 (by kernel_rfl) (by kernel_rfl) (fun w hS=>hS.first (i:=7) (b:=b2) rfl rfl) ?_
   refine gR 0 [0,3,5,6,7] [(3,vP b2),(4,vP b3),(17,vI (c.op)),(19,vP f)] [1,2,4] [(1,p_ ⟨[.view 0 (.int .i64 (c.op))],none,none,none,none⟩ [(∀ F w,(uo b2 (.int .i64 c.op)).h F w->w.cell? ⟨b2,0,none⟩=some (vI (c.op)))] ⟨uo.cell,trivial⟩)] ?_
   refine aK.I5 (ι:=Unit) (fr':=fun (_:Unit)=>[(3,vP b2),(4,vP b3),(15,.agg #[.nilFunc,.func (.func 89) #[] #[],.func (.func 90) #[] #[],.func (.func 91) #[] #[],.func (.func 92) #[] #[],.func (.func 93) #[] #[],.func (.func 94) #[] #[],.func (.func 95) #[] #[],.func (.func 96) #[] #[],.func (.func 97) #[] #[],.func (.func 98) #[] #[],.func (.func 99) #[] #[],.func (.func 100) #[] #[],.func (.func 101) #[] #[],.func (.func 102) #[] #[],.func (.func 103) #[] #[]]),(17,vI (c.op)),(19,vP f)]) (hp':=fun (_:Unit)=>((pA f m t L S)++[.abs R,pC b2 (c0 c),oH b3])) rfl rfl ?_ (by rintro _ w hS;exact hS.first (i:=7) (b:=b2) rfl rfl) ?_
   ·refine gL [] (Gg) ?_
    rintro _ _ ⟨rfl,rfl⟩
    refine NL ?_
    exact MD () [3,4,15,17,19] [0,1,2,3,4,5,6,7,8]
   rintro _
   refine aK.I5 (ι:=Unit) (fr':=fun (_:Unit)=>[(3,vP b2),(4,vP b3),(18,.func (.func (KD.getD (c.op.toNat - 1) 0)) #[] #[]),(19,vP f)]) (hp':=fun (_:Unit)=>((pA f m t L S)++[.abs R,pC b2 (c0 c),oH b3])) rfl rfl ?_ (by rintro _ w hS;exact hS.first (i:=7) (b:=b2) rfl rfl) ?_
   ·refine aj.hn (x:=(.tmp 15)) (y:=(.tmp 17)) (d:=(some 18)) hop ?_
    refine NL ?_
    exact MD () [3,4,18,19] [0,1,2,3,4,5,6,7,8]
   rintro _
   refine aK.I5 (ι:=HL) (fr':=fun (L2:HL)=>[(3,vP b2),(4,vP b3),(20,vI ((cT S (c0 c)).1))]) (hp':=fun (L2:HL)=>((pA f m t L2 ((cT S (c0 c)).2.1))++[pC b2 ((cT S (c0 c)).2.2),.abs R,oH b3])) rfl rfl ?_ (by rintro L2 w hS;exact hS.first (i:=6) (b:=b2) rfl (congrArg (fun z=>some (Value.int .i64 z)) (KE (c:=(c0 c)) hop))) ?_
   ·refine gL [0,1,2,3,4,5,7] (RM (S:=S) (L:=L) (f:=f) (m:=m) (t:=t) (b:=b2) (c:=(c0 c)) c.op hI ⟨hC.hw,hC.ow,hC.nm,hC.tx,hC.da,hC.dl,hC.dc⟩ hop rfl) ?_ (by intro _;rcases I6 hop with h|h|h|h|h|h|h|h|h|h|h|h|h|h|h<;>rw [h]<;>kernel_rfl)
    rintro _ _ ⟨L2,rfl,rfl⟩
    refine NL ?_
    exact MD L2 [3,4,20] [0,1,2,3,4,5,6,7,8]
   rintro L2
   refine aK.I5 (ι:=Unit) (fr':=fun (_:Unit)=>[(3,vP b2),(4,vP b3),(20,vI ((cT S (c0 c)).1)),(21,.pointer (some ⟨b2,11,none⟩))]) (hp':=fun (_:Unit)=>((pA f m t L2 ((cT S (c0 c)).2.1))++[pC b2 ((cT S (c0 c)).2.2),.abs R,oH b3])) rfl rfl ?_ (by rintro _ w hS;exact hS.first (i:=6) (b:=b2) rfl (congrArg (fun z=>some (Value.int .i64 z)) (KE (c:=(c0 c)) hop))) ?_
   ·refine gK 1 [(21,.pointer (some ⟨b2,11,none⟩))] [] ?_
    refine NL ?_
    exact MD () [3,4,20,21] [0,1,2,3,4,5,6,7,8]
   rintro _
   refine aK.last rfl rfl ?_
   refine gC 1 [] [(0,a_ 6 b2)] [(6,[(11,vI ((cT S (c0 c)).1))])] ?_
   refine NL (ai.np (NX (SR ?_)))
   refine gC 2 [] [(0,A_ 6 b2 13),(1,A_ 8 b3 13)] [(8,[(0,vI ((cT S (c0 c)).2.2.op)),(1,vI ((cT S (c0 c)).2.2.handle)),(2,vI ((cT S (c0 c)).2.2.other)),(3,.string (cT S (c0 c)).2.2.name),(4,.string (cT S (c0 c)).2.2.text),(5,.slice (cT S (c0 c)).2.2.dA ((cT S (c0 c)).2.2.data.length) ((cT S (c0 c)).2.2.dC)),(6,vI ((cT S (c0 c)).2.2.mode)),(7,vI ((cT S (c0 c)).2.2.uid)),(8,vI ((cT S (c0 c)).2.2.gid)),(9,vI ((cT S (c0 c)).2.2.sec)),(10,vI ((cT S (c0 c)).2.2.nano)),(11,vI ((cT S (c0 c)).1)),(12,vI ((cT S (c0 c)).2.2.answer))])] ?_
   refine NN (af.ret ?_)
   exact ai.ret (v:=.agg #[vI ((cT S (c0 c)).2.2.op),vI ((cT S (c0 c)).2.2.handle),vI ((cT S (c0 c)).2.2.other),.string (cT S (c0 c)).2.2.name,.string (cT S (c0 c)).2.2.text,.slice (cT S (c0 c)).2.2.dA ((cT S (c0 c)).2.2.data.length) ((cT S (c0 c)).2.2.dC),vI ((cT S (c0 c)).2.2.mode),vI ((cT S (c0 c)).2.2.uid),vI ((cT S (c0 c)).2.2.gid),vI ((cT S (c0 c)).2.2.sec),vI ((cT S (c0 c)).2.2.nano),vI ((cT S (c0 c)).1),vI ((cT S (c0 c)).2.2.answer)]) (l:=(pA f m t L2 ((cT S (c0 c)).2.1))) (bF:=[b3=b3,b3=b3,b3=b3,b3=b3,b3=b3,b3=b3,b3=b3,b3=b3,b3=b3,b3=b3,b3=b3,b3=b3,b3=b3]) [.at 8,.at 8,.at 8,.at 8,.at 8,.at 8,.at 8,.at 8,.at 8,.at 8,.at 8,.at 8,.at 8] [0,1,2,3,4,5,7] (fun _=>by kernel_rfl) ⟨rfl,rfl,rfl,rfl,rfl,rfl,rfl,rfl,rfl,rfl,rfl,rfl,rfl,trivial⟩ rfl (by kernel_rfl) (⟨L2,rfl,rfl⟩)
  refine af.skip (NX (SR (gC 2 [] [(0,A_ 7 b2 13),(1,A_ 8 b3 13)] [(8,(Sr c))] ?_)))
  refine NN (af.ret ?_)
  exact ai.ret (v:=.agg #[vI (c.op),vI (c.handle),vI (c.other),.string c.name,.string c.text,.slice c.dA (c.data.length) (c.dC),vI (c.mode),vI (c.uid),vI (c.gid),vI (c.sec),vI (c.nano),vI 230,vI 0]) (l:=(pA f m t L S)) (bF:=[b3=b3,b3=b3,b3=b3,b3=b3,b3=b3,b3=b3,b3=b3,b3=b3,b3=b3,b3=b3,b3=b3,b3=b3,b3=b3]) [.at 8,.at 8,.at 8,.at 8,.at 8,.at 8,.at 8,.at 8,.at 8,.at 8,.at 8,.at 8,.at 8] [0,1,2,3,4,5,6] (fun _=>by kernel_rfl) ⟨rfl,rfl,rfl,rfl,rfl,rfl,rfl,rfl,rfl,rfl,rfl,rfl,rfl,trivial⟩ rfl (by kernel_rfl) (⟨L,by unfold cI;rw [t8 (S:=S) (c:=(c0 c)) (by show ¬ (1<=c.op/\c.op<=15);omega)];exact⟨rfl,rfl⟩⟩)
 refine gK 4 [(14,.bool false)] [] ?_
 refine NN (CF (af.skip (NX (SR (gC 2 [] [(0,A_ 7 b2 13),(1,A_ 8 b3 13)] [(8,(Sr c))] ?_)))))
 refine NN (af.ret ?_)
 exact ai.ret (v:=.agg #[vI (c.op),vI (c.handle),vI (c.other),.string c.name,.string c.text,.slice c.dA (c.data.length) (c.dC),vI (c.mode),vI (c.uid),vI (c.gid),vI (c.sec),vI (c.nano),vI 230,vI 0]) (l:=(pA f m t L S)) (bF:=[b3=b3,b3=b3,b3=b3,b3=b3,b3=b3,b3=b3,b3=b3,b3=b3,b3=b3,b3=b3,b3=b3,b3=b3,b3=b3]) [.at 8,.at 8,.at 8,.at 8,.at 8,.at 8,.at 8,.at 8,.at 8,.at 8,.at 8,.at 8,.at 8] [0,1,2,3,4,5,6] (fun _=>by kernel_rfl) ⟨rfl,rfl,rfl,rfl,rfl,rfl,rfl,rfl,rfl,rfl,rfl,rfl,rfl,trivial⟩ rfl (by kernel_rfl) (⟨L,by unfold cI;rw [t8 (S:=S) (c:=(c0 c)) (by show ¬ (1<=c.op/\c.op<=15);omega)];exact⟨rfl,rfl⟩⟩)
end
section
open Go.RowKit Go.Maps bL aB
attribute [local irreducible] aj aP af ai
abbrev G3 (B)(d:List UInt8) (cap):=(.abs (aE 5 1 B d.length cap (bX d)):HP)
abbrev St (b5:Nat) (An:Option Addr) (i:Nat) (cn:Nat):=(.blk b5 [.slice An (i) (cn)] 24:HP)
abbrev Sv (An:Option Addr) (i:Nat) (cn:Nat) (K) (S:aG):=(.abs (aE 70 10 An i cn (dx K ((aO S).take i))):HP)
abbrev Sw (S:aG) (i:Nat) (K):=(.abs (iD (jY ((aO S).take i) K) i):HP)
abbrev Sy (S:aG) (i:Nat) (K):=(.abs (iD (jZ ((aO S).take i) K) i):HP)
abbrev Sz (A7:Option Addr) (S:aG) (c8:Nat):=(.abs (aE 3 1 A7 ((keys S.idx).length) c8 (ints (keys S.idx))):HP)
abbrev SB (b4:Nat):=(.blk b4 [.slice none (0) (0)] 24:HP)
abbrev Qu (b9:Nat):=(.blk b9 [vI 0,vI 0,vI 0,vI 0,vI 0,vI 0,vI 0,.slice none (0) (0),.string ⟨#[]⟩,.slice none (0) (0)] 70:HP)
abbrev SC (b9:Nat) (S:aG) (i:Nat) (tk:Nat):=(.blk b9 [vI ((cW S i)),vI 1,vI ((obj S.O tk).mode),vI ((obj S.O tk).uid),vI ((obj S.O tk).gid),vI ((obj S.O tk).sec),vI ((obj S.O tk).nano),.slice none (0) (0),.string ⟨#[]⟩,.slice none (0) (0)] 70:HP)
abbrev Qv (S:aG) (L:HL) (tk:Nat):=(.abs (ax (jU (cG S.O L) tk cA.none)):HP)
abbrev Ff (L:HL) (tk:Nat) (S:aG):=(.abs (aL Tryz.prog 9 (L.m tk) (iE L (obj S.O tk).ah) ((obj S.O tk).ah.length)):HP)
abbrev jl (b15:Nat) (S:aG) (i:Nat) (tk:Nat) (Ae:Option Addr) (j:Nat) (ce:Nat):=(.blk b15 [vI ((cW S i)),vI 2,vI ((obj S.O tk).mode),vI ((obj S.O tk).uid),vI ((obj S.O tk).gid),vI ((obj S.O tk).sec),vI ((obj S.O tk).nano),.slice none (0) (0),.string ⟨#[]⟩,.slice Ae (j) (ce)] 70:HP)
abbrev nw (Ae:Option Addr) (j:Nat) (ce:Nat) (S:aG) (tk:Nat):=(.abs (aE 140 2 Ae j ce (gH (((obj S.O tk).ah.take j).map (kZ S.O)))):HP)
abbrev Qw (b16:Nat) (L:HL) (tk:Nat):=(.blk b16 [.map (some (L.m tk))] 136:HP)
abbrev Qx (dW:Option Addr) (S:aG) (tk:Nat) (eX:Nat):=(.abs (aE 9 1 dW ((obj S.O tk).ah.length) eX (p6 (obj S.O tk).ah)):HP)
abbrev Cz (mK:Option Addr) (j:Nat) (mM:Nat) (S:aG) (tk:Nat):=(.abs (aE 140 2 mK (j+1) mM (gH (((obj S.O tk).ah.take (j+1)).map (kZ S.O)))):HP)
abbrev CA (b19:Nat) (S:aG) (tk:Nat) (j:Nat) (ek:Nat):=(.blk b19 [.string (fo (obj S.O tk).ah j),vI ((obj S.O ek).id)] 140:HP)
abbrev lg (f:Nat) (b4:Nat) (b5:Nat) (b15:Nat) (L:HL) (tk:Nat) (A7:Option Addr) (S:aG) (c8:Nat) (i:Nat) (dW:Option Addr) (eX:Nat) (j:Nat):=([(0,vP f),(2,vP b4),(3,vP b5),(8,vP b15),(11,vP (L.b tk)),(19,.slice A7 ((keys S.idx).length) (c8)),(20,vI ↑((keys S.idx).length)),(21,vI ↑i),(79,.slice dW ((obj S.O tk).ah.length) (eX)),(80,vI ↑((obj S.O tk).ah.length)),(81,vI ↑j)]:Fr)
abbrev kC (L:HL) (tk:Nat) (S:aG) (b16:Nat) (dW:Option Addr) (eX:Nat) (b5:Nat) (An:Option Addr) (i:Nat) (cn:Nat) (K) (A7:Option Addr) (c8:Nat) (b4:Nat) (f:Nat) (m:Nat) (t) (R:cA):=([Ff L tk S,Qw b16 L tk,Qx dW S tk eX,St b5 An i cn,Sv An i cn K S,Sw S i K,Sy S i K,Sz A7 S c8,SB b4,pF f m t S.X,pI m L S.idx,pO S.O L,pD S.O L,Qv S L tk,.abs R]:List HP)
abbrev Fg (f:Nat) (b4:Nat) (b5:Nat) (b15:Nat) (L:HL) (tk:Nat) (A7:Option Addr) (S:aG) (c8:Nat) (i:Nat) (dW:Option Addr) (eX:Nat) (j:Nat):=([(0,vP f),(2,vP b4),(3,vP b5),(8,vP b15),(11,vP (L.b tk)),(19,.slice A7 ((keys S.idx).length) (c8)),(20,vI ↑((keys S.idx).length)),(21,vI ↑i),(79,.slice dW ((obj S.O tk).ah.length) (eX)),(80,vI ↑((obj S.O tk).ah.length)),(81,vI ↑j)]:Fr)
abbrev CB (S:aG) (tk:Nat):=([(39,vI ((obj S.O tk).mode)),(43,vI ((obj S.O tk).uid)),(47,vI ((obj S.O tk).gid)),(51,.agg #[vI ((obj S.O tk).sec),vI ((obj S.O tk).nano)])]:Fr)
abbrev xj (f:Nat) (b4:Nat) (b5:Nat):=([(0,vP f),(2,vP b4),(3,vP b5)]:Fr)
abbrev xk (A7:Option Addr) (S:aG) (c8:Nat) (i:Nat):=([(19,.slice A7 ((keys S.idx).length) (c8)),(20,vI ↑((keys S.idx).length)),(21,vI ↑i)]:Fr)
abbrev vm (b5:Nat) (An:Option Addr) (i:Nat) (cn:Nat) (K) (S:aG) (A7:Option Addr) (c8:Nat) (b4:Nat) (f:Nat) (m:Nat) (t) (L:HL):=([St b5 An i cn,Sv An i cn K S,Sw S i K,Sy S i K,Sz A7 S c8,SB b4,pF f m t S.X,pI m L S.idx,pO S.O L]:List HP)
abbrev qo (Ae:Option Addr) (j:Nat) (ce:Nat) (S:aG) (tk:Nat):=([(86,.slice Ae (j) (ce)),(87,.string (fo (obj S.O tk).ah j))]:Fr)
abbrev ME (S:aG) (tk:Nat):=([(2,vI ((obj S.O tk).mode)),(3,vI ((obj S.O tk).uid)),(4,vI ((obj S.O tk).gid)),(5,vI ((obj S.O tk).sec)),(6,vI ((obj S.O tk).nano))]:Fr)
theorem CC {β:Bs} (c:Nat):Spec Tryz.prog β 58 #[.slice none 0 c] [] (fun v l=>∃ B cap,v=.slice B 0 cap/\l=[.abs (aE 5 1 B 0 cap [])]):=by
 refine Spec.enter Tryz.func58 rfl Tryz.ntmps58 (Nat.le_of_ble_eq_true rfl) (fun R=>?_)
 refine SR (gK 1 [] [] ?_)
 refine NN (af.seq (SR (gK 2 [(4,.bool true)] [] ?_)))
 refine NN (CT (SR (gK 1 [(2,.slice none (0) (0))] [] ?_)))
 refine NN (af.ret (ai.ak (ai.mem (fun w hS=>(hS.jL (e:=5) (size:=1)).pick (idx:=[1,0]) (l':=[.abs (aE 5 1 none 0 0 ([])),.abs R]) rfl (by kernel_rfl)) ?_)))
 exact RT (.slice none (0) (0)) [0,1] (⟨none,0,rfl,rfl⟩)
theorem Bn {β:Bs} (a:Addr) (c:Nat) (d:List UInt8) (hA:bD β (some a) d) (hl:d.length<=140737488355328):Spec Tryz.prog β 58 #[.slice (some a) d.length c] [] (fun v l=>∃ B cap,v=.slice B d.length cap/\l=[G3 B d cap]):=by
 refine Spec.enter Tryz.func58 rfl Tryz.ntmps58 (Nat.le_of_ble_eq_true rfl) (fun R=>?_)
 refine SR (gK 1 [] [] ?_)
 refine NN (af.seq (SR (gK 2 [(4,.bool false)] [] ?_)))
 refine NN (CF (af.skip (NX (SR (gN 1 (fun b1=>[(5,.slice (some ⟨b1,0,none⟩) (0) (0))]) (fun _=>[]) (fun _=>[]) (fun b1=>.blk b1 [] 5) (fun b1=>?_))))))
 refine aj.mem (fun w hS=>hS.nP (i:=1) (b:=b1) (cs:=[]) (e:=5) 1 0 (by kernel_rfl) rfl (by decide)) ?_
 refine gK 1 [(6,.slice (some a) (d.length) (c))] [] ?_
 refine aj.append 1 (d:=(some 7)) (t:=46) (e:=5) (z:=.int .u8 0) (size:=1) (bytes:=1) (n:=0) (cap:=0) (A:=some ⟨b1,0,none⟩) (xs:=[]) (s:=(.tmp 5)) (x:=(.tmp 6)) (ats:=#[46,46]) (A':=(some a)) (m:=d.length) (c':=c) (news:=(bX d)) (fun _=>by kernel_rfl) rfl (by kernel_rfl) (fun _=>by kernel_rfl) (fun _=>by kernel_rfl) Tryz.underlying46 (by kernel_rfl) rfl (by decide) (by rw [qD,Nat.mul_one]) (mW d) (hA.src) (by unfold maxLen;omega) (by omega) (fun A2 c3=>?_)
 refine aj.dr 1 (p:=.abs (aE 5 1 A2 (0+d.length) c3 ([]++(bX d)))) (p':=.abs (aE 5 1 A2 d.length c3 (bX d))) (by kernel_rfl) (by rw [Nat.zero_add,List.nil_append]) ?_
 refine aj.slot 7 (.slice A2 (0+d.length) (c3)) (.slice A2 (d.length) (c3)) (fun _=>by kernel_rfl) (by rw [Nat.zero_add]) ?_
 refine gK 1 [(2,.slice A2 (d.length) (c3))] [] ?_
 refine NN (af.ret ?_)
 exact RT (.slice A2 (d.length) (c3)) [1,0] (⟨A2,c3,rfl,rfl⟩)
theorem tG {β:Bs} (A:Option Addr) (c:Nat) (d:List UInt8) (hA:bD β A d) (hl:d.length<=140737488355328):Spec Tryz.prog β 58 #[.slice A d.length c] [] (fun v l=>∃ B cap,v=.slice B d.length cap/\l=[G3 B d cap]):=by
  cases A with
  | some a=>exact Bn a c d hA hl
  | none=>
    cases d with
    | nil=>exact CC c
    | cons b r=>have h:=bD.hd hA (j:=0) (by simp);cases h
theorem Fh {β:Bs} (A:Option Addr) (c:Nat) (d:List UInt8) (hl:d.length<=140737488355328):Spec Tryz.prog β 58 #[.slice A d.length c] [G3 A d c] (fun v l=>∃ B cap,v=.slice B d.length cap/\l=[G3 B d cap,G3 A d c]):=
  (Spec.za (pre:=[]) (R:=[G3 A d c]) (fun _ h=>tG A c d h.bytes hl)).mono (by rintro v l ⟨l0,⟨B,cap,rfl,rfl⟩,rfl⟩;exact⟨B,cap,rfl,rfl⟩)
theorem Fj {β:Bs} (L:HL) (b bk:Nat) (idx:Used Th) (hr:aB.dh (keys idx)) (hn:idx.length<=4096) :
    Spec Tryz.prog β 66 #[Aj bk] [pI b L idx,.blk bk [.map (some b)] 120] (fun v l=>∃ A cap,v=.slice A (keys idx).length cap/\l=[pI b L idx,.blk bk [.map (some b)] 120,.abs (aE 3 1 A (keys idx).length cap (ints (keys idx)))]):=
  (Ak b bk idx.length (bh (bn L idx)) (by omega)).mono (by
    rintro v l ⟨A,cap,ss,rfl,hk,_,rfl⟩
    have e:=Gy (us:=bn L idx) (by rw [zj];exact hr) hk
    rw [zj] at e
    subst e
    exact⟨A,cap,rfl,rfl⟩)
theorem KF {β:Bs} (S:aG) (L:HL) (f m t:Nat) (hI:Inv S) :
    Spec Tryz.prog β 25 #[vP f] [pF f m t S.X,pI m L S.idx,pO S.O L,pD S.O L,pE S.O L] (fun v l=>∃ A c K,v=.agg #[.slice A (aO S).length c]/\l=[pF f m t S.X,pI m L S.idx,pO S.O L,pD S.O L,pE S.O L]++EM A c (aO S) K):=by
 have hX:=hI.hX
 have hkl:(keys S.idx).length=S.idx.length:=rI _
 have hil:=hI.len
 refine Spec.enter Tryz.func25 rfl Tryz.ntmps25 (Nat.le_of_ble_eq_true rfl) (fun R=>?_)
 refine SR (gN 1 (fun b4=>[(2,vP b4)]) (fun _=>[]) (fun _=>[]) (fun b4=>.blk b4 [.slice none (0) (0)] 24) (fun b4=>?_))
 refine NS (gN 1 (fun b5=>[(3,vP b5)]) (fun _=>[]) (fun _=>[]) (fun b5=>.blk b5 [.slice none (0) (0)] 24) (fun b5=>?_))
 refine NN (af.seq (SR (gK 4 [(17,.map (some m))] [(3,a_ 0 f)] ?_)))
 refine gL [] (Es (some m)) ?_
 rintro _ _ ⟨b6,rfl,rfl⟩
 refine gL [2,0] (Fj L m b6 S.idx hI.rise hI.len) ?_
 rintro _ _ ⟨A7,c8,rfl,rfl⟩
 refine gK 1 [(20,vI ↑((keys S.idx).length))] [] ?_
 refine aj.mem (fun w hS=>hS.jL (e:=70) (size:=10)) ?_
 refine aj.mem (fun w hS=>hS.JB (jY [] Ma)) ?_
 refine aj.mem (fun w hS=>hS.JB (jZ [] Ma)) ?_
 refine gK 1 [(21,vI 0)] [] ?_
 refine NN (af.block ?_)
 refine af.loop (ι:=Nat×(Option Addr)×Nat×Lay) (fun ((i,An,cn,K):Nat×(Option Addr)×Nat×Lay)=>(i<=S.idx.length)) (fun ((i,An,cn,K):Nat×(Option Addr)×Nat×Lay)=>S.idx.length - i) (fun ((i,An,cn,K):Nat×(Option Addr)×Nat×Lay)=>(xj f b4 b5++xk A7 S c8 i)) (fun ((i,An,cn,K):Nat×(Option Addr)×Nat×Lay)=>(vm b5 An i cn K S A7 c8 b4 f m t L++[pD S.O L,pE S.O L,.abs R])) (0,none,0,Ma) (idx:=[0,2,3,19,20,21]) (pk:=[9,10,11,12,2,8,3,0,4,5,6,7]) (show (0<=S.idx.length) from (Nat.zero_le _)) (fun _=>by kernel_rfl) rfl (by kernel_rfl) ?_
 rintro⟨i,An,cn,K⟩ hi
 show af _ _ _ _ (xj f b4 b5++xk A7 S c8 i) (vm b5 An i cn K S A7 c8 b4 f m t L++[pD S.O L,pE S.O L,.abs R]) _
 refine SR (gK 1 [(22,.bool (decide ((((i:Nat):Int):Int) < ((((keys S.idx).length:Nat):Int):Int))))] [] ?_)
 refine NN (af.seq (af.bg (p:=(((i:Nat):Int):Int) < ((((keys S.idx).length:Nat):Int):Int)) (fun _=>by kernel_rfl) (fun sV=>?_) (fun sV=>?_)))
 ·have hi2:i < S.idx.length:=by omega
  refine af.skip (NX (af.seq (af.block (SR ?_))))
  refine aj.tell (p:=(A7=some ⟨ar A7,aq A7,none⟩)) (fun w hS=>let ⟨F,h⟩:=hS.get (i:=4) rfl;(aE.Hu h (by omega)).1) (fun hAk=>?_)
  refine gK 3 [(5,vI ((cW S i)))] [(0,p_ ⟨[],some i,none,some ⟨(ar A7),aq A7,none⟩,none⟩ [((i:Nat):Int)=((i:Nat):Int),i < (keys S.idx).length,(⟨(ar A7),aq A7,none⟩:Addr).spot=none,(A7:Option Addr)=some ⟨(ar A7),aq A7,none⟩] ⟨rfl,by omega,rfl,hAk,trivial⟩),(1,p_ ⟨[.view 4 (.int .i64 ((cW S i)))],none,none,none,none⟩ [(∀ F w,(aE 3 1 A7 ((keys S.idx).length) c8 (ints (keys S.idx))).h F w->w.cell? ⟨(ar A7),aq A7+i * 1,none⟩=some (vI ((cW S i))))] ⟨aE.cellAt (i:=i) (j:=0) (by omega) (Mb hi2),trivial⟩)] ?_
  refine NN (af.seq ?_)
  have Vt:=(GR hI.toInv0 hi2).1
  have hget:=get_at hI.toInv0 hi2
  rcases Rw hI.toInv0 hi2 with ⟨tk,kE,hlv⟩|⟨tk,kE,hlv⟩|⟨tk,kE,hlv⟩
  ·have hkt:(obj S.O tk).kind=1:=hI.kind hlv
   have hel:(obj S.O tk).ah.length<=8192:=hI.fU hlv
   have hdl:(obj S.O tk).data.length<=140737488355328:=hI.H8 hlv
   refine af.region (gK 5 [(28,.map (some m)),(29,vI ((cW S i)))] [(3,a_ 6 f)] ?_)
   refine aj.d9 7 (d:=(some 30)) (t:=120) (K:=3) (E:=124) (b:=m) (n:=S.idx.length) (f:=(bh (bn L S.idx))) (x:=(.tmp 28)) (ix:=(.tmp 29)) (key:=.int .i64 ((cW S i))) (z:=.nilIface) (kl:=(.int .i64 (cW S i))) (r:=(some (dJ L ⟨tk,1⟩))) (fun _=>by kernel_rfl) (by kernel_rfl) (fun _=>by kernel_rfl) (fun _=>by kernel_rfl) dX Tryz.underlying120 (fun _=>by kernel_rfl) (gJ (Ck hI.toInv0 hi2)) (by rw [eY,hget,kE];rfl) ?_
   refine gK 1 [(6,.iface 129 (vP (L.b tk)))] [] ?_
   refine NS (gK 1 [(31,.iface 129 (vP (L.b tk)))] [] ?_)
   refine gL [] (dm (L.b tk)) ?_
   rintro _ _ ⟨rfl,rfl⟩
   refine gK 1 [(7,vP (L.b tk))] [] ?_
   refine NN (af.seq (af.qL (S:=[pO S.O L]) [0,1,3,4,5,6,7,8,9,10,11,12,13,14,15,16,17,18] [.beside [2,19] 20,.one 21] [8] (by kernel_rfl) (by kernel_rfl) rfl (by kernel_rfl) ?_))
   refine gP (xj f b4 b5++[(6,.iface 129 (vP (L.b tk)))]++xk A7 S c8 i++[(33,vI ((cW S i))),(34,.iface 129 (vP (L.b tk)))]++CB S tk) [0,1,3,4,5,6,7,8,9,10,11,12,13,14,15,16,17,18] [(5,v_ 0 (rS L hkt)),(9,v_ 0 (x6 L hkt)),(13,v_ 0 (x7 L hkt)),(17,p_ ⟨[.view 0 (.int .i64 ((obj S.O tk).sec)),.view 0 (.int .i64 ((obj S.O tk).nano))],none,none,none,none⟩ [(∀ F w,(ax (bM S.O L)).h F w->w.cell? ⟨(L.b tk),5,none⟩=some (vI ((obj S.O tk).nano))),(∀ F w,(ax (bM S.O L)).h F w->w.cell? ⟨(L.b tk),4,none⟩=some (vI ((obj S.O tk).sec)))] ⟨dY (by rw [hkt];decide) (rfl),dY (by rw [hkt];decide) (rfl),trivial⟩)] ?_
   refine iF.beside (j:=20) (dj:=8) (R:=fun f_ l_=>f_=([(52,.agg #[vI ((cW S i)),vI 1,vI ((obj S.O tk).mode),vI ((obj S.O tk).uid),vI ((obj S.O tk).gid),vI ((obj S.O tk).sec),vI ((obj S.O tk).nano),.slice none (0) (0),.string ⟨#[]⟩,.slice none (0) (0)]),(35,vI 1)]++xj f b4 b5++[(6,.iface 129 (vP (L.b tk)))]++xk A7 S c8 i++[(33,vI ((cW S i))),(34,.iface 129 (vP (L.b tk)))]++CB S tk)/\l_=[]) [0,1,2,3,4,5,6,7,8,9,10,11] [8] [(2,35),(19,52)] rfl (pc:=[]) (pj:=[]) (Z:=(vm b5 An i cn K S A7 c8 b4 f m t L++[pD S.O L,pE S.O L,.abs R])) (by kernel_rfl) rfl (by kernel_rfl) rfl rfl (kg.of (ι:=Nat) (v:=fun (b9:Nat)=>vP b9) (l:=fun (b9:Nat)=>[Qu b9]) [35,52] rfl rfl rfl rfl ?_) ?_ ?_
   ·intro u Aq
    show aj _ _ _ _ _ [(35,(u 35)),(52,(u 52)),(0,vP f),(2,vP b4),(3,vP b5),(6,.iface 129 (vP (L.b tk))),(19,.slice A7 ((keys S.idx).length) (c8)),(20,vI ↑((keys S.idx).length)),(21,vI ↑i),(33,vI ((cW S i))),(34,.iface 129 (vP (L.b tk))),(39,vI ((obj S.O tk).mode)),(43,vI ((obj S.O tk).uid)),(47,vI ((obj S.O tk).gid)),(51,.agg #[vI ((obj S.O tk).sec),vI ((obj S.O tk).nano)])] [.abs Aq] _
    refine gN 1 (fun b9=>[(8,vP b9)]) (fun _=>[]) (fun _=>[]) (fun b9=>.blk b9 [vI 0,vI 0,vI 0,vI 0,vI 0,vI 0,vI 0,.slice none (0) (0),.string ⟨#[]⟩,.slice none (0) (0)] 70) (fun b9=>?_)
    refine NL ?_
    exact MD b9 [8,35,52,0,2,3,6,19,20,21,33,34,39,43,47,51] [1,0]
   ·refine ko.step (kg.of (ι:=Unit) (v:=fun (_:Unit)=>.int .i64 1) (l:=fun (_:Unit)=>[]) [8] rfl rfl rfl rfl ?_) rfl ?_
    ·intro u Aq
     show aj _ _ _ _ _ [(8,(u 8)),(0,vP f),(2,vP b4),(3,vP b5),(6,.iface 129 (vP (L.b tk))),(19,.slice A7 ((keys S.idx).length) (c8)),(20,vI ↑((keys S.idx).length)),(21,vI ↑i),(33,vI ((cW S i))),(34,.iface 129 (vP (L.b tk))),(39,vI ((obj S.O tk).mode)),(43,vI ((obj S.O tk).uid)),(47,vI ((obj S.O tk).gid)),(51,.agg #[vI ((obj S.O tk).sec),vI ((obj S.O tk).nano)])] [.abs Aq] _
     refine gL [] (lS (vP (L.b tk))) ?_
     rintro _ _ ⟨rfl,rfl⟩
     refine NL ?_
     exact MD () [35,8,0,2,3,6,19,20,21,33,34,39,43,47,51] [0]
    rintro _ _ ⟨_,rfl,rfl⟩
    refine ko.step (kg.of (ι:=Unit) (v:=fun (_:Unit)=>.agg #[vI ((cW S i)),vI 1,vI ((obj S.O tk).mode),vI ((obj S.O tk).uid),vI ((obj S.O tk).gid),vI ((obj S.O tk).sec),vI ((obj S.O tk).nano),.slice none (0) (0),.string ⟨#[]⟩,.slice none (0) (0)]) (l:=fun (_:Unit)=>[]) [8] rfl rfl rfl rfl ?_) rfl ?_
    ·intro u Aq
     show aj _ _ _ _ _ [(8,(u 8)),(35,vI 1),(0,vP f),(2,vP b4),(3,vP b5),(6,.iface 129 (vP (L.b tk))),(19,.slice A7 ((keys S.idx).length) (c8)),(20,vI ↑((keys S.idx).length)),(21,vI ↑i),(33,vI ((cW S i))),(34,.iface 129 (vP (L.b tk))),(39,vI ((obj S.O tk).mode)),(43,vI ((obj S.O tk).uid)),(47,vI ((obj S.O tk).gid)),(51,.agg #[vI ((obj S.O tk).sec),vI ((obj S.O tk).nano)])] [.abs Aq] _
     refine gK 1 [(52,.agg #[vI ((cW S i)),vI 1,vI ((obj S.O tk).mode),vI ((obj S.O tk).uid),vI ((obj S.O tk).gid),vI ((obj S.O tk).sec),vI ((obj S.O tk).nano),.slice none (0) (0),.string ⟨#[]⟩,.slice none (0) (0)])] [] ?_
     refine NL ?_
     exact MD () [52,8,35,0,2,3,6,19,20,21,33,34,39,43,47,51] [0]
    rintro _ _ ⟨_,rfl,rfl⟩
    exact⟨rfl,rfl⟩
   rintro _ _ ⟨rfl,rfl⟩ _ _ ⟨b9,rfl,rfl⟩
   refine iF.last rfl rfl ?_
   refine gC 1 [] [(0,A_ 0 b9 10)] [(0,([(0,vI ((cW S i))),(1,vI 1)]++ME S tk))] ?_
   refine NL (ai.np (NX (af.seq (SR ?_))))
   refine gK 1 [(53,.iface 129 (vP (L.b tk)))] [] ?_
   refine NN (af.block (SR ?_))
   refine gK 3 [(55,.bool true),(56,vP (L.b tk))] [] ?_
   refine NN (CT (SR (gK 1 [(9,vP (L.b tk))] [] ?_)))
   refine NN (af.region (gK 4 [(60,.slice (L.dA tk) ((obj S.O tk).data.length) ((L.dC tk)))] [(3,v_ 9 (EV L hkt))] ?_))
   refine aj.mem (cL:=([SC b9 S i tk]++vm b5 An i cn K S A7 c8 b4 f m t L++[Sb S L tk,pE S.O L,.abs R,.abs (aE 5 1 (L.dA tk) ((obj S.O tk).data.length) (L.dC tk) (bX (obj S.O tk).data))])) (fun w hS=>hS.JD (i:=10) (k:=tk) rfl hkt) ?_
   refine gL [13] (Fh (L.dA tk) (L.dC tk) (obj S.O tk).data hdl) ?_
   rintro _ _ ⟨ol,c11,rfl,rfl⟩
   refine aj.mem (cL:=([pD S.O L,.abs (aE 5 1 ol ((obj S.O tk).data.length) c11 (bX (obj S.O tk).data)),SC b9 S i tk]++vm b5 An i cn K S A7 c8 b4 f m t L++[pE S.O L,.abs R])) (fun w hS=>hS.PZ (i:=12) (j:=1) (ix:=[0,2,3,4,5,6,7,8,9,10,11,13,14]) rfl rfl (by kernel_rfl) rfl hkt) ?_
   refine gC 2 [] [(1,a_ 2 b9)] [(2,[(7,.slice ol ((obj S.O tk).data.length) (c11))])] ?_
   refine NL (ai.aJ (NX (af.region ?_)))
   refine gN 4 (fun b12=>[(104,.slice An (i) (cn)),(106,.slice (some ⟨b12,0,none⟩) (1) (1))]) (fun b12=>[(1,a_ 3 b5),(2,A_ 2 b9 10)]) (fun _=>[]) (fun b12=>.blk b12 [vI ((cW S i)),vI 1,vI ((obj S.O tk).mode),vI ((obj S.O tk).uid),vI ((obj S.O tk).gid),vI ((obj S.O tk).sec),vI ((obj S.O tk).nano),.slice ol ((obj S.O tk).data.length) (c11),.string ⟨#[]⟩,.slice none (0) (0)] 70) (fun b12=>?_)
   refine aj.append 4 (d:=(some 107)) (t:=22) (e:=70) (z:=.agg #[vI 0,vI 0,vI 0,vI 0,vI 0,vI 0,vI 0,.slice none (0) (0),.string ⟨#[]⟩,.slice none (0) (0)]) (size:=10) (bytes:=120) (n:=i) (cap:=cn) (A:=An) (xs:=(dx K ((aO S).take i))) (s:=(.tmp 104)) (x:=(.tmp 106)) (ats:=#[22,22]) (A':=some ⟨b12,0,none⟩) (m:=1) (c':=1) (news:=[vI ((cW S i)),vI 1,vI ((obj S.O tk).mode),vI ((obj S.O tk).uid),vI ((obj S.O tk).gid),vI ((obj S.O tk).sec),vI ((obj S.O tk).nano),.slice ol ((obj S.O tk).data.length) (c11),.string ⟨#[]⟩,.slice none (0) (0)]) (fun _=>by kernel_rfl) rfl (by kernel_rfl) (fun _=>by kernel_rfl) (fun _=>by kernel_rfl) Tryz.underlying22 (by kernel_rfl) rfl (by decide) (rfl) (by simp [Value.oneCell']) (j8 (j:=14) rfl) (by unfold maxLen;omega) (by omega) (fun G4 G5=>?_)
   refine aj.dr 4 (p:=.abs (aE 70 10 G4 (i+1) G5 ((dx K ((aO S).take i))++[vI ((cW S i)),vI 1,vI ((obj S.O tk).mode),vI ((obj S.O tk).uid),vI ((obj S.O tk).gid),vI ((obj S.O tk).sec),vI ((obj S.O tk).nano),.slice ol ((obj S.O tk).data.length) (c11),.string ⟨#[]⟩,.slice none (0) (0)]))) (p':=.abs (aE 70 10 G4 (i+1) G5 (dx (K.put i ol c11 none 0) ((aO S).take (i+1))))) (by kernel_rfl) (congrArg (fun x=>HP.abs (aE 70 10 _ _ _ x)) (uT (dP (by omega)) (p8 hI.toInv0 hi2 kE hlv) rfl rfl)) ?_
   refine aj.slot 107 (.slice G4 (i+1) (G5)) (.slice G4 ((i+1)) (G5)) (fun _=>by kernel_rfl) (rfl) ?_
   refine gC 2 [] [(1,a_ 3 b5)] [(3,[(0,.slice G4 ((i+1)) (G5))])] ?_
   refine NL (ai.aJ (NX (af.region ?_)))
   refine gK 2 [(21,vI ↑(i+1))] [(0,p_ ⟨[],none,none,none,some (vI ↑(i+1))⟩ [(Value.int .i64 (IntKind.wrap .i64 (((i:Nat):Int)+1)))=(.int .i64 ↑(i+1))] ⟨bw (by omega) (by omega) (by omega),trivial⟩)] ?_
   refine NL (ai.mem (fun w hS=>hS.jL (e:=140) (size:=2)) ?_)
   refine ai.mem (fun w hS=>hS.qR (R':=(jZ ((aO S).take (i+1)) (K.put i ol c11 none 0))) (i:=6) (j:=1) (idx:=[0,2,3,4,5,7,8,9,10,11,12,13,14,15]) rfl rfl (by kernel_rfl) rfl (zu (dP (by omega)) (p8 hI.toInv0 hi2 kE hlv)) (wL (dP (by omega)) (p8 hI.toInv0 hi2 kE hlv) rfl)) ?_
   refine ai.mem (fun w hS=>hS.qR (R':=(jY ((aO S).take (i+1)) (K.put i ol c11 none 0))) (i:=5) (j:=14) (idx:=[0,1,2,3,4,6,7,8,9,10,11,12,13]) rfl rfl (by kernel_rfl) rfl (zw (dP (by omega)) (p8 hI.toInv0 hi2 kE hlv)) ((wM (dP (by omega)) (p8 hI.toInv0 hi2 kE hlv) rfl))) ?_
   exact ai.turn ((i+1),G4,G5,(K.put i ol c11 none 0)) (idx:=[0,2,3,19,20,21]) (pk:=[4,5,0,1,6,7,8,9,10,2,11,12]) (show (((i+1))<=S.idx.length) from (by omega)) (by show S.idx.length - ((i+1)) < S.idx.length - i;omega) (fun _=>by kernel_rfl) rfl (by kernel_rfl)
  ·have hkt:(obj S.O tk).kind=2:=hI.kind hlv
   have hel:(obj S.O tk).ah.length<=8192:=hI.fU hlv
   have hdl:(obj S.O tk).data.length<=140737488355328:=hI.H8 hlv
   refine af.region (gK 5 [(28,.map (some m)),(29,vI ((cW S i)))] [(3,a_ 6 f)] ?_)
   refine aj.d9 7 (d:=(some 30)) (t:=120) (K:=3) (E:=124) (b:=m) (n:=S.idx.length) (f:=(bh (bn L S.idx))) (x:=(.tmp 28)) (ix:=(.tmp 29)) (key:=.int .i64 ((cW S i))) (z:=.nilIface) (kl:=(.int .i64 (cW S i))) (r:=(some (dJ L ⟨tk,2⟩))) (fun _=>by kernel_rfl) (by kernel_rfl) (fun _=>by kernel_rfl) (fun _=>by kernel_rfl) dX Tryz.underlying120 (fun _=>by kernel_rfl) (gJ (Ck hI.toInv0 hi2)) (by rw [eY,hget,kE];rfl) ?_
   refine gK 1 [(6,.iface 135 (vP (L.b tk)))] [] ?_
   refine NS (gK 1 [(31,.iface 135 (vP (L.b tk)))] [] ?_)
   refine gL [] (dm (L.b tk)) ?_
   rintro _ _ ⟨rfl,rfl⟩
   refine gK 1 [(7,vP (L.b tk))] [] ?_
   refine NN (af.seq (af.qL (S:=[pO S.O L]) [0,1,3,4,5,6,7,8,9,10,11,12,13,14,15,16,17,18] [.beside [2,19] 20,.one 21] [8] (by kernel_rfl) (by kernel_rfl) rfl (by kernel_rfl) ?_))
   refine gP (xj f b4 b5++[(6,.iface 135 (vP (L.b tk)))]++xk A7 S c8 i++[(33,vI ((cW S i))),(34,.iface 135 (vP (L.b tk)))]++CB S tk) [0,1,3,4,5,6,7,8,9,10,11,12,13,14,15,16,17,18] [(5,v_ 0 (rS L hkt)),(9,v_ 0 (x6 L hkt)),(13,v_ 0 (x7 L hkt)),(17,p_ ⟨[.view 0 (.int .i64 ((obj S.O tk).sec)),.view 0 (.int .i64 ((obj S.O tk).nano))],none,none,none,none⟩ [(∀ F w,(ax (bM S.O L)).h F w->w.cell? ⟨(L.b tk),5,none⟩=some (vI ((obj S.O tk).nano))),(∀ F w,(ax (bM S.O L)).h F w->w.cell? ⟨(L.b tk),4,none⟩=some (vI ((obj S.O tk).sec)))] ⟨dY (by rw [hkt];decide) (rfl),dY (by rw [hkt];decide) (rfl),trivial⟩)] ?_
   refine iF.beside (j:=20) (dj:=8) (R:=fun f_ l_=>f_=([(52,.agg #[vI ((cW S i)),vI 2,vI ((obj S.O tk).mode),vI ((obj S.O tk).uid),vI ((obj S.O tk).gid),vI ((obj S.O tk).sec),vI ((obj S.O tk).nano),.slice none (0) (0),.string ⟨#[]⟩,.slice none (0) (0)]),(35,vI 2)]++xj f b4 b5++[(6,.iface 135 (vP (L.b tk)))]++xk A7 S c8 i++[(33,vI ((cW S i))),(34,.iface 135 (vP (L.b tk)))]++CB S tk)/\l_=[]) [0,1,2,3,4,5,6,7,8,9,10,11] [8] [(2,35),(19,52)] rfl (pc:=[]) (pj:=[]) (Z:=(vm b5 An i cn K S A7 c8 b4 f m t L++[pD S.O L,pE S.O L,.abs R])) (by kernel_rfl) rfl (by kernel_rfl) rfl rfl (kg.of (ι:=Nat) (v:=fun (b15:Nat)=>vP b15) (l:=fun (b15:Nat)=>[Qu b15]) [35,52] rfl rfl rfl rfl ?_) ?_ ?_
   ·intro u Aq
    show aj _ _ _ _ _ [(35,(u 35)),(52,(u 52)),(0,vP f),(2,vP b4),(3,vP b5),(6,.iface 135 (vP (L.b tk))),(19,.slice A7 ((keys S.idx).length) (c8)),(20,vI ↑((keys S.idx).length)),(21,vI ↑i),(33,vI ((cW S i))),(34,.iface 135 (vP (L.b tk))),(39,vI ((obj S.O tk).mode)),(43,vI ((obj S.O tk).uid)),(47,vI ((obj S.O tk).gid)),(51,.agg #[vI ((obj S.O tk).sec),vI ((obj S.O tk).nano)])] [.abs Aq] _
    refine gN 1 (fun b15=>[(8,vP b15)]) (fun _=>[]) (fun _=>[]) (fun b15=>.blk b15 [vI 0,vI 0,vI 0,vI 0,vI 0,vI 0,vI 0,.slice none (0) (0),.string ⟨#[]⟩,.slice none (0) (0)] 70) (fun b15=>?_)
    refine NL ?_
    exact MD b15 [8,35,52,0,2,3,6,19,20,21,33,34,39,43,47,51] [1,0]
   ·refine ko.step (kg.of (ι:=Unit) (v:=fun (_:Unit)=>.int .i64 2) (l:=fun (_:Unit)=>[]) [8] rfl rfl rfl rfl ?_) rfl ?_
    ·intro u Aq
     show aj _ _ _ _ _ [(8,(u 8)),(0,vP f),(2,vP b4),(3,vP b5),(6,.iface 135 (vP (L.b tk))),(19,.slice A7 ((keys S.idx).length) (c8)),(20,vI ↑((keys S.idx).length)),(21,vI ↑i),(33,vI ((cW S i))),(34,.iface 135 (vP (L.b tk))),(39,vI ((obj S.O tk).mode)),(43,vI ((obj S.O tk).uid)),(47,vI ((obj S.O tk).gid)),(51,.agg #[vI ((obj S.O tk).sec),vI ((obj S.O tk).nano)])] [.abs Aq] _
     refine gL [] (lT (vP (L.b tk))) ?_
     rintro _ _ ⟨rfl,rfl⟩
     refine NL ?_
     exact MD () [35,8,0,2,3,6,19,20,21,33,34,39,43,47,51] [0]
    rintro _ _ ⟨_,rfl,rfl⟩
    refine ko.step (kg.of (ι:=Unit) (v:=fun (_:Unit)=>.agg #[vI ((cW S i)),vI 2,vI ((obj S.O tk).mode),vI ((obj S.O tk).uid),vI ((obj S.O tk).gid),vI ((obj S.O tk).sec),vI ((obj S.O tk).nano),.slice none (0) (0),.string ⟨#[]⟩,.slice none (0) (0)]) (l:=fun (_:Unit)=>[]) [8] rfl rfl rfl rfl ?_) rfl ?_
    ·intro u Aq
     show aj _ _ _ _ _ [(8,(u 8)),(35,vI 2),(0,vP f),(2,vP b4),(3,vP b5),(6,.iface 135 (vP (L.b tk))),(19,.slice A7 ((keys S.idx).length) (c8)),(20,vI ↑((keys S.idx).length)),(21,vI ↑i),(33,vI ((cW S i))),(34,.iface 135 (vP (L.b tk))),(39,vI ((obj S.O tk).mode)),(43,vI ((obj S.O tk).uid)),(47,vI ((obj S.O tk).gid)),(51,.agg #[vI ((obj S.O tk).sec),vI ((obj S.O tk).nano)])] [.abs Aq] _
     refine gK 1 [(52,.agg #[vI ((cW S i)),vI 2,vI ((obj S.O tk).mode),vI ((obj S.O tk).uid),vI ((obj S.O tk).gid),vI ((obj S.O tk).sec),vI ((obj S.O tk).nano),.slice none (0) (0),.string ⟨#[]⟩,.slice none (0) (0)])] [] ?_
     refine NL ?_
     exact MD () [52,8,35,0,2,3,6,19,20,21,33,34,39,43,47,51] [0]
    rintro _ _ ⟨_,rfl,rfl⟩
    exact⟨rfl,rfl⟩
   rintro _ _ ⟨rfl,rfl⟩ _ _ ⟨b15,rfl,rfl⟩
   refine iF.last rfl rfl ?_
   refine gC 1 [] [(0,A_ 0 b15 10)] [(0,([(0,vI ((cW S i))),(1,vI 2)]++ME S tk))] ?_
   refine NL (ai.np (NX (af.seq (SR ?_))))
   refine gK 1 [(53,.iface 135 (vP (L.b tk)))] [] ?_
   refine NN (af.block (SR ?_))
   refine gK 3 [(55,.bool false),(56,.pointer none)] [] ?_
   refine NN (CF (SR (gK 3 [(64,.bool false),(65,.pointer none)] [] ?_)))
   refine NN (CF (SR (gK 3 [(72,.bool true),(73,vP (L.b tk))] [] ?_)))
   refine NN (CT (SR (gK 1 [(11,vP (L.b tk))] [] ?_)))
   refine NS (gK 4 [(77,.map (some (L.m tk)))] [(3,v_ 9 (bC L hkt))] ?_)
   refine aj.mem (cL:=([.blk b15 [vI ((cW S i)),vI 2,vI ((obj S.O tk).mode),vI ((obj S.O tk).uid),vI ((obj S.O tk).gid),vI ((obj S.O tk).sec),vI ((obj S.O tk).nano),.slice none (0) (0),.string ⟨#[]⟩,.slice none (0) (0)] 70]++vm b5 An i cn K S A7 c8 b4 f m t L++[pD S.O L,Qv S L tk,.abs R,Ff L tk S])) (fun w hS=>hS.Pr (i:=11) (k:=tk) rfl (hkt)) ?_
   refine gL [] (L8 (some (L.m tk))) ?_
   rintro _ _ ⟨b16,rfl,rfl⟩
   refine gL [14,0] (Ix L (L.m tk) b16 (obj S.O tk).ah.length (obj S.O tk).ah (hI.sorted _ hlv) hel) ?_
   rintro _ _ ⟨dW,eX,rfl,rfl⟩
   refine gK 1 [(80,vI ↑((obj S.O tk).ah.length))] [] ?_
   refine aj.mem (fun w hS=>hS.jL (e:=140) (size:=2)) ?_
   refine gK 1 [(81,vI 0)] [] ?_
   refine NN (af.block ?_)
   refine af.loop (ι:=Nat×(Option Addr)×Nat) (fun ((j,Ae,ce):Nat×(Option Addr)×Nat)=>(j<=(obj S.O tk).ah.length)) (fun ((j,Ae,ce):Nat×(Option Addr)×Nat)=>(obj S.O tk).ah.length - j) (fun ((j,Ae,ce):Nat×(Option Addr)×Nat)=>(Fg f b4 b5 b15 L tk A7 S c8 i dW eX j)) (fun ((j,Ae,ce):Nat×(Option Addr)×Nat)=>([jl b15 S i tk Ae j ce,nw Ae j ce S tk]++kC L tk S b16 dW eX b5 An i cn K A7 c8 b4 f m t R)) (0,none,0) (idx:=[0,2,3,8,11,19,20,21,79,80,81]) (pk:=[3,16,0,1,2,4,5,6,7,8,9,10,11,12,13,14,15]) (show (0<=(obj S.O tk).ah.length) from (Nat.zero_le _)) (fun _=>by kernel_rfl) rfl (by kernel_rfl) ?_
   rintro⟨j,Ae,ce⟩ hj
   show af _ _ _ _ (Fg f b4 b5 b15 L tk A7 S c8 i dW eX j) ([jl b15 S i tk Ae j ce,nw Ae j ce S tk]++kC L tk S b16 dW eX b5 An i cn K A7 c8 b4 f m t R) _
   refine SR (gK 1 [(82,.bool (decide ((((j:Nat):Int):Int) < ((((obj S.O tk).ah.length:Nat):Int):Int))))] [] ?_)
   refine NN (af.seq (af.bg (p:=(((j:Nat):Int):Int) < ((((obj S.O tk).ah.length:Nat):Int):Int)) (fun _=>by kernel_rfl) (fun UB=>?_) (fun UB=>?_)))
   ·have hj2:j < (obj S.O tk).ah.length:=by omega
    refine af.skip (NX (af.seq (af.block (SR ?_))))
    refine aj.tell (p:=(dW=some ⟨ar dW,aq dW,none⟩)) (fun w hS=>let ⟨F,h⟩:=hS.get (i:=4) rfl;(aE.Hu h (by omega)).1) (fun UC=>?_)
    refine gK 3 [(13,.string (fo (obj S.O tk).ah j))] [(0,p_ ⟨[],some j,none,some ⟨(ar dW),aq dW,none⟩,none⟩ [((j:Nat):Int)=((j:Nat):Int),j < (obj S.O tk).ah.length,(⟨(ar dW),aq dW,none⟩:Addr).spot=none,(dW:Option Addr)=some ⟨(ar dW),aq dW,none⟩] ⟨rfl,by omega,rfl,UC,trivial⟩),(1,p_ ⟨[.view 4 (.string (fo (obj S.O tk).ah j))],none,none,none,none⟩ [(∀ F w,(aE 9 1 dW ((obj S.O tk).ah.length) eX (p6 (obj S.O tk).ah)).h F w->w.cell? ⟨(ar dW),aq dW+j * 1,none⟩=some (.string (fo (obj S.O tk).ah j)))] ⟨aE.cellAt (i:=j) (j:=0) (by omega) (IB hj2),trivial⟩)] ?_
    refine NN ?_
    obtain⟨hgd,h4⟩:=Ts hI.toInv0 hlv hj2
    have hgs:(fo (obj S.O tk).ah j).size<=255:=hgd.2.1
    rcases h4 with ⟨ek,hle,zF,KG⟩|⟨ek,hle,zF,KG⟩|⟨ek,hle,zF,KG⟩
    ·have hke:(obj S.O ek).kind=1:=hI.kind zF
     refine af.bR (S:=[Ff L tk S,pO S.O L,jl b15 S i tk Ae j ce]) [0,1,2,3,4,5,6,7,8,9,10,11,12,13,14,15,16,17] 9 [2,13,0] (by kernel_rfl) (by kernel_rfl) rfl (by kernel_rfl) ?_
     refine gR 1 [8,9,10,11,12,13,14,15,16,17] (Fg f b4 b5 b15 L tk A7 S c8 i dW eX j++qo Ae j ce S tk++[(91,.map (some (L.m tk))),(92,.string (fo (obj S.O tk).ah j))]) [0,1,2,3,4,5,6,7] [(1,a_ 2 b15),(6,v_ 1 (bC L hkt))] ?_
     refine aK.d9 0 (d:=(some 93)) (t:=136) (K:=9) (E:=124) (b:=(L.m tk)) (cnt:=(obj S.O tk).ah.length) (f:=(iE L (obj S.O tk).ah)) (x:=(.tmp 91)) (ix:=(.tmp 92)) (key:=.string (fo (obj S.O tk).ah j)) (z:=.nilIface) (kl:=(.string (fo (obj S.O tk).ah j).data.toList)) (q:=(some (dJ L ⟨ek,1⟩))) (by kernel_rfl) (by kernel_rfl) (fun _=>by kernel_rfl) (fun _=>by kernel_rfl) ze Tryz.underlying136 (fun _=>by kernel_rfl) (BQ (by omega)) (by rw [qU,hle];rfl) (by kernel_rfl) ?_
     refine mL [2,13,0] [] (dm (L.b ek)) ?_ (by rintro _ _ ⟨rfl,rfl⟩;rfl)
     rintro _ _ ⟨rfl,rfl⟩
     refine aK.cut (ι:=Unit) (fr':=fun (_:Unit)=>(lg f b4 b5 b15 L tk A7 S c8 i dW eX j++qo Ae j ce S tk++[(95,vP (L.b ek))])) (hp':=fun (_:Unit)=>([jl b15 S i tk Ae j ce,nw Ae j ce S tk]++kC L tk S b16 dW eX b5 An i cn K A7 c8 b4 f m t R)) [2,13,0] rfl rfl ?_ rfl (fun _=>by kernel_rfl) ?_
     ·refine gK 1 [(95,vP (L.b ek))] [] ?_
      refine NL ?_
      exact MD () [0,2,3,8,11,19,20,21,79,80,81,86,87,95] [0,1,2,3,4,5,6,7,8,9,10,11,12,13,14,15,16]
     rintro _
     refine aK.cut (ι:=Unit) (fr':=fun (_:Unit)=>(lg f b4 b5 b15 L tk A7 S c8 i dW eX j++qo Ae j ce S tk++[(96,vP (L.b ek))])) (hp':=fun (_:Unit)=>([jl b15 S i tk Ae j ce,nw Ae j ce S tk]++kC L tk S b16 dW eX b5 An i cn K A7 c8 b4 f m t R)) [2,13,0] rfl rfl ?_ rfl (fun _=>by kernel_rfl) ?_
     ·refine gK 1 [(96,vP (L.b ek))] [] ?_
      refine NL ?_
      exact MD () [0,2,3,8,11,19,20,21,79,80,81,86,87,96] [0,1,2,3,4,5,6,7,8,9,10,11,12,13,14,15,16]
     rintro _
     refine aK.cut (ι:=Unit) (fr':=fun (_:Unit)=>(lg f b4 b5 b15 L tk A7 S c8 i dW eX j++qo Ae j ce S tk++[(97,vI ((obj S.O ek).id))])) (hp':=fun (_:Unit)=>([jl b15 S i tk Ae j ce,nw Ae j ce S tk]++kC L tk S b16 dW eX b5 An i cn K A7 c8 b4 f m t R)) [2,13,0] rfl rfl ?_ rfl (fun _=>by kernel_rfl) ?_
     ·refine gK 1 [(97,vI ((obj S.O ek).id))] [(0,v_ 13 (qh L hke))] ?_
      refine NL ?_
      exact MD () [0,2,3,8,11,19,20,21,79,80,81,86,87,97] [0,1,2,3,4,5,6,7,8,9,10,11,12,13,14,15,16]
     rintro _
     refine aK.cut (ι:=Unit) (fr':=fun (_:Unit)=>(lg f b4 b5 b15 L tk A7 S c8 i dW eX j++[(86,.slice Ae (j) (ce)),(98,.agg #[.string (fo (obj S.O tk).ah j),vI ((obj S.O ek).id)])])) (hp':=fun (_:Unit)=>([jl b15 S i tk Ae j ce,nw Ae j ce S tk]++kC L tk S b16 dW eX b5 An i cn K A7 c8 b4 f m t R)) [2,13,0] rfl rfl ?_ rfl (fun _=>by kernel_rfl) ?_
     ·refine gK 1 [(98,.agg #[.string (fo (obj S.O tk).ah j),vI ((obj S.O ek).id)])] [] ?_
      refine NL ?_
      exact MD () [0,2,3,8,11,19,20,21,79,80,81,86,98] [0,1,2,3,4,5,6,7,8,9,10,11,12,13,14,15,16]
     rintro _
     refine mN [2,13,0] (fun b19=>[(99,.slice (some ⟨b19,0,none⟩) (1) (1))]) (fun _=>[]) (fun b19=>.blk b19 [.string (fo (obj S.O tk).ah j),vI ((obj S.O ek).id)] 140) (fun b19=>?_)
     refine aK.cut (ι:=(Option Addr)×Nat) (fr':=fun ((mK,mM):(Option Addr)×Nat)=>(lg f b4 b5 b15 L tk A7 S c8 i dW eX j++[(100,.slice mK ((j+1)) (mM))])) (hp':=fun ((mK,mM):(Option Addr)×Nat)=>([jl b15 S i tk Ae j ce,Cz mK j mM S tk]++kC L tk S b16 dW eX b5 An i cn K A7 c8 b4 f m t R++[CA b19 S tk j ek])) [2,13,0] rfl rfl ?_ rfl (fun _=>by kernel_rfl) ?_
     ·refine aj.append 1 (d:=(some 100)) (t:=68) (e:=140) (z:=.agg #[.string ⟨#[]⟩,vI 0]) (size:=2) (bytes:=24) (n:=j) (cap:=ce) (A:=Ae) (xs:=(gH (((obj S.O tk).ah.take j).map (kZ S.O)))) (s:=(.tmp 86)) (x:=(.tmp 99)) (ats:=#[68,68]) (A':=some ⟨b19,0,none⟩) (m:=1) (c':=1) (news:=[.string (fo (obj S.O tk).ah j),vI ((obj S.O ek).id)]) (fun _=>by kernel_rfl) rfl (by kernel_rfl) (fun _=>by kernel_rfl) (fun _=>by kernel_rfl) Tryz.underlying68 (by kernel_rfl) rfl (by decide) (rfl) (by simp [Value.oneCell']) (j8 (j:=17) rfl) (by unfold maxLen;omega) (by omega) (fun mK mM=>?_)
      refine aj.dr 1 (p:=.abs (aE 140 2 mK (j+1) mM ((gH (((obj S.O tk).ah.take j).map (kZ S.O)))++[.string (fo (obj S.O tk).ah j),vI ((obj S.O ek).id)]))) (p':=.abs (aE 140 2 mK (j+1) mM (gH (((obj S.O tk).ah.take (j+1)).map (kZ S.O))))) (by kernel_rfl) (congrArg (fun x=>HP.abs (aE 140 2 _ _ _ x)) (wN hj2 KG)) ?_
      refine aj.slot 100 (.slice mK (j+1) (mM)) (.slice mK ((j+1)) (mM)) (fun _=>by kernel_rfl) (rfl) ?_
      refine NL ?_
      exact MD (mK,mM) [0,2,3,8,11,19,20,21,79,80,81,100] [0,1,2,3,4,5,6,7,8,9,10,11,12,13,14,15,16,17]
     rintro⟨mK,mM⟩
     refine aK.cut (ι:=Unit) (fr':=fun (_:Unit)=>(lg f b4 b5 b15 L tk A7 S c8 i dW eX j++[(100,.slice mK ((j+1)) (mM)),(101,.pointer (some ⟨b15,9,none⟩))])) (hp':=fun (_:Unit)=>([jl b15 S i tk Ae j ce,Cz mK j mM S tk]++kC L tk S b16 dW eX b5 An i cn K A7 c8 b4 f m t R++[CA b19 S tk j ek])) [2,13,0] rfl rfl ?_ rfl (fun _=>by kernel_rfl) ?_
     ·refine gK 1 [(101,.pointer (some ⟨b15,9,none⟩))] [] ?_
      refine NL ?_
      exact MD () [0,2,3,8,11,19,20,21,79,80,81,100,101] [0,1,2,3,4,5,6,7,8,9,10,11,12,13,14,15,16,17]
     rintro _
     refine aK.last rfl rfl ?_
     refine gC 1 [] [(0,a_ 0 b15)] [(0,[(9,.slice mK ((j+1)) (mM))])] ?_
     refine NL (ai.np (ai.aJ (NX (af.region ?_))))
     refine gK 2 [(81,vI ↑(j+1))] [(0,p_ ⟨[],none,none,none,some (vI ↑(j+1))⟩ [(Value.int .i64 (IntKind.wrap .i64 (((j:Nat):Int)+1)))=(.int .i64 ↑(j+1))] ⟨bw (by omega) (by omega) (by omega),trivial⟩)] ?_
     refine NL ?_
     exact ai.turn ((j+1),mK,mM) (idx:=[0,2,3,8,11,19,20,21,79,80,81]) (pk:=[0,1,2,3,4,5,6,7,8,9,10,11,12,13,14,15,16]) (show (((j+1))<=(obj S.O tk).ah.length) from (by omega)) (by show (obj S.O tk).ah.length - ((j+1)) < (obj S.O tk).ah.length - j;omega) (fun _=>by kernel_rfl) rfl (by kernel_rfl)
    ·have hke:(obj S.O ek).kind=2:=hI.kind zF
     refine af.bR (S:=[Ff L tk S,pO S.O L,jl b15 S i tk Ae j ce]) [0,1,2,3,4,5,6,7,8,9,10,11,12,13,14,15,16,17] 9 [2,13,0] (by kernel_rfl) (by kernel_rfl) rfl (by kernel_rfl) ?_
     refine gR 1 [8,9,10,11,12,13,14,15,16,17] (Fg f b4 b5 b15 L tk A7 S c8 i dW eX j++qo Ae j ce S tk++[(91,.map (some (L.m tk))),(92,.string (fo (obj S.O tk).ah j))]) [0,1,2,3,4,5,6,7] [(1,a_ 2 b15),(6,v_ 1 (bC L hkt))] ?_
     refine aK.d9 0 (d:=(some 93)) (t:=136) (K:=9) (E:=124) (b:=(L.m tk)) (cnt:=(obj S.O tk).ah.length) (f:=(iE L (obj S.O tk).ah)) (x:=(.tmp 91)) (ix:=(.tmp 92)) (key:=.string (fo (obj S.O tk).ah j)) (z:=.nilIface) (kl:=(.string (fo (obj S.O tk).ah j).data.toList)) (q:=(some (dJ L ⟨ek,2⟩))) (by kernel_rfl) (by kernel_rfl) (fun _=>by kernel_rfl) (fun _=>by kernel_rfl) ze Tryz.underlying136 (fun _=>by kernel_rfl) (BQ (by omega)) (by rw [qU,hle];rfl) (by kernel_rfl) ?_
     refine mL [2,13,0] [] (dm (L.b ek)) ?_ (by rintro _ _ ⟨rfl,rfl⟩;rfl)
     rintro _ _ ⟨rfl,rfl⟩
     refine aK.cut (ι:=Unit) (fr':=fun (_:Unit)=>(lg f b4 b5 b15 L tk A7 S c8 i dW eX j++qo Ae j ce S tk++[(95,vP (L.b ek))])) (hp':=fun (_:Unit)=>([jl b15 S i tk Ae j ce,nw Ae j ce S tk]++kC L tk S b16 dW eX b5 An i cn K A7 c8 b4 f m t R)) [2,13,0] rfl rfl ?_ rfl (fun _=>by kernel_rfl) ?_
     ·refine gK 1 [(95,vP (L.b ek))] [] ?_
      refine NL ?_
      exact MD () [0,2,3,8,11,19,20,21,79,80,81,86,87,95] [0,1,2,3,4,5,6,7,8,9,10,11,12,13,14,15,16]
     rintro _
     refine aK.cut (ι:=Unit) (fr':=fun (_:Unit)=>(lg f b4 b5 b15 L tk A7 S c8 i dW eX j++qo Ae j ce S tk++[(96,vP (L.b ek))])) (hp':=fun (_:Unit)=>([jl b15 S i tk Ae j ce,nw Ae j ce S tk]++kC L tk S b16 dW eX b5 An i cn K A7 c8 b4 f m t R)) [2,13,0] rfl rfl ?_ rfl (fun _=>by kernel_rfl) ?_
     ·refine gK 1 [(96,vP (L.b ek))] [] ?_
      refine NL ?_
      exact MD () [0,2,3,8,11,19,20,21,79,80,81,86,87,96] [0,1,2,3,4,5,6,7,8,9,10,11,12,13,14,15,16]
     rintro _
     refine aK.cut (ι:=Unit) (fr':=fun (_:Unit)=>(lg f b4 b5 b15 L tk A7 S c8 i dW eX j++qo Ae j ce S tk++[(97,vI ((obj S.O ek).id))])) (hp':=fun (_:Unit)=>([jl b15 S i tk Ae j ce,nw Ae j ce S tk]++kC L tk S b16 dW eX b5 An i cn K A7 c8 b4 f m t R)) [2,13,0] rfl rfl ?_ rfl (fun _=>by kernel_rfl) ?_
     ·refine gK 1 [(97,vI ((obj S.O ek).id))] [(0,v_ 13 (qh L hke))] ?_
      refine NL ?_
      exact MD () [0,2,3,8,11,19,20,21,79,80,81,86,87,97] [0,1,2,3,4,5,6,7,8,9,10,11,12,13,14,15,16]
     rintro _
     refine aK.cut (ι:=Unit) (fr':=fun (_:Unit)=>(lg f b4 b5 b15 L tk A7 S c8 i dW eX j++[(86,.slice Ae (j) (ce)),(98,.agg #[.string (fo (obj S.O tk).ah j),vI ((obj S.O ek).id)])])) (hp':=fun (_:Unit)=>([jl b15 S i tk Ae j ce,nw Ae j ce S tk]++kC L tk S b16 dW eX b5 An i cn K A7 c8 b4 f m t R)) [2,13,0] rfl rfl ?_ rfl (fun _=>by kernel_rfl) ?_
     ·refine gK 1 [(98,.agg #[.string (fo (obj S.O tk).ah j),vI ((obj S.O ek).id)])] [] ?_
      refine NL ?_
      exact MD () [0,2,3,8,11,19,20,21,79,80,81,86,98] [0,1,2,3,4,5,6,7,8,9,10,11,12,13,14,15,16]
     rintro _
     refine mN [2,13,0] (fun Fk=>[(99,.slice (some ⟨Fk,0,none⟩) (1) (1))]) (fun _=>[]) (fun Fk=>.blk Fk [.string (fo (obj S.O tk).ah j),vI ((obj S.O ek).id)] 140) (fun Fk=>?_)
     refine aK.cut (ι:=(Option Addr)×Nat) (fr':=fun ((sX,sY):(Option Addr)×Nat)=>(lg f b4 b5 b15 L tk A7 S c8 i dW eX j++[(100,.slice sX ((j+1)) (sY))])) (hp':=fun ((sX,sY):(Option Addr)×Nat)=>([jl b15 S i tk Ae j ce,Cz sX j sY S tk]++kC L tk S b16 dW eX b5 An i cn K A7 c8 b4 f m t R++[CA Fk S tk j ek])) [2,13,0] rfl rfl ?_ rfl (fun _=>by kernel_rfl) ?_
     ·refine aj.append 1 (d:=(some 100)) (t:=68) (e:=140) (z:=.agg #[.string ⟨#[]⟩,vI 0]) (size:=2) (bytes:=24) (n:=j) (cap:=ce) (A:=Ae) (xs:=(gH (((obj S.O tk).ah.take j).map (kZ S.O)))) (s:=(.tmp 86)) (x:=(.tmp 99)) (ats:=#[68,68]) (A':=some ⟨Fk,0,none⟩) (m:=1) (c':=1) (news:=[.string (fo (obj S.O tk).ah j),vI ((obj S.O ek).id)]) (fun _=>by kernel_rfl) rfl (by kernel_rfl) (fun _=>by kernel_rfl) (fun _=>by kernel_rfl) Tryz.underlying68 (by kernel_rfl) rfl (by decide) (rfl) (by simp [Value.oneCell']) (j8 (j:=17) rfl) (by unfold maxLen;omega) (by omega) (fun sX sY=>?_)
      refine aj.dr 1 (p:=.abs (aE 140 2 sX (j+1) sY ((gH (((obj S.O tk).ah.take j).map (kZ S.O)))++[.string (fo (obj S.O tk).ah j),vI ((obj S.O ek).id)]))) (p':=.abs (aE 140 2 sX (j+1) sY (gH (((obj S.O tk).ah.take (j+1)).map (kZ S.O))))) (by kernel_rfl) (congrArg (fun x=>HP.abs (aE 140 2 _ _ _ x)) (wN hj2 KG)) ?_
      refine aj.slot 100 (.slice sX (j+1) (sY)) (.slice sX ((j+1)) (sY)) (fun _=>by kernel_rfl) (rfl) ?_
      refine NL ?_
      exact MD (sX,sY) [0,2,3,8,11,19,20,21,79,80,81,100] [0,1,2,3,4,5,6,7,8,9,10,11,12,13,14,15,16,17]
     rintro⟨sX,sY⟩
     refine aK.cut (ι:=Unit) (fr':=fun (_:Unit)=>(lg f b4 b5 b15 L tk A7 S c8 i dW eX j++[(100,.slice sX ((j+1)) (sY)),(101,.pointer (some ⟨b15,9,none⟩))])) (hp':=fun (_:Unit)=>([jl b15 S i tk Ae j ce,Cz sX j sY S tk]++kC L tk S b16 dW eX b5 An i cn K A7 c8 b4 f m t R++[CA Fk S tk j ek])) [2,13,0] rfl rfl ?_ rfl (fun _=>by kernel_rfl) ?_
     ·refine gK 1 [(101,.pointer (some ⟨b15,9,none⟩))] [] ?_
      refine NL ?_
      exact MD () [0,2,3,8,11,19,20,21,79,80,81,100,101] [0,1,2,3,4,5,6,7,8,9,10,11,12,13,14,15,16,17]
     rintro _
     refine aK.last rfl rfl ?_
     refine gC 1 [] [(0,a_ 0 b15)] [(0,[(9,.slice sX ((j+1)) (sY))])] ?_
     refine NL (ai.np (ai.aJ (NX (af.region ?_))))
     refine gK 2 [(81,vI ↑(j+1))] [(0,p_ ⟨[],none,none,none,some (vI ↑(j+1))⟩ [(Value.int .i64 (IntKind.wrap .i64 (((j:Nat):Int)+1)))=(.int .i64 ↑(j+1))] ⟨bw (by omega) (by omega) (by omega),trivial⟩)] ?_
     refine NL ?_
     exact ai.turn ((j+1),sX,sY) (idx:=[0,2,3,8,11,19,20,21,79,80,81]) (pk:=[0,1,2,3,4,5,6,7,8,9,10,11,12,13,14,15,16]) (show (((j+1))<=(obj S.O tk).ah.length) from (by omega)) (by show (obj S.O tk).ah.length - ((j+1)) < (obj S.O tk).ah.length - j;omega) (fun _=>by kernel_rfl) rfl (by kernel_rfl)
    have hke:(obj S.O ek).kind=3:=hI.kind zF
    refine af.bR (S:=[Ff L tk S,pO S.O L,jl b15 S i tk Ae j ce]) [0,1,2,3,4,5,6,7,8,9,10,11,12,13,14,15,16,17] 9 [2,13,0] (by kernel_rfl) (by kernel_rfl) rfl (by kernel_rfl) ?_
    refine gR 1 [8,9,10,11,12,13,14,15,16,17] (Fg f b4 b5 b15 L tk A7 S c8 i dW eX j++qo Ae j ce S tk++[(91,.map (some (L.m tk))),(92,.string (fo (obj S.O tk).ah j))]) [0,1,2,3,4,5,6,7] [(1,a_ 2 b15),(6,v_ 1 (bC L hkt))] ?_
    refine aK.d9 0 (d:=(some 93)) (t:=136) (K:=9) (E:=124) (b:=(L.m tk)) (cnt:=(obj S.O tk).ah.length) (f:=(iE L (obj S.O tk).ah)) (x:=(.tmp 91)) (ix:=(.tmp 92)) (key:=.string (fo (obj S.O tk).ah j)) (z:=.nilIface) (kl:=(.string (fo (obj S.O tk).ah j).data.toList)) (q:=(some (dJ L ⟨ek,3⟩))) (by kernel_rfl) (by kernel_rfl) (fun _=>by kernel_rfl) (fun _=>by kernel_rfl) ze Tryz.underlying136 (fun _=>by kernel_rfl) (BQ (by omega)) (by rw [qU,hle];rfl) (by kernel_rfl) ?_
    refine mL [2,13,0] [] (dm (L.b ek)) ?_ (by rintro _ _ ⟨rfl,rfl⟩;rfl)
    rintro _ _ ⟨rfl,rfl⟩
    refine aK.cut (ι:=Unit) (fr':=fun (_:Unit)=>(lg f b4 b5 b15 L tk A7 S c8 i dW eX j++qo Ae j ce S tk++[(95,vP (L.b ek))])) (hp':=fun (_:Unit)=>([jl b15 S i tk Ae j ce,nw Ae j ce S tk]++kC L tk S b16 dW eX b5 An i cn K A7 c8 b4 f m t R)) [2,13,0] rfl rfl ?_ rfl (fun _=>by kernel_rfl) ?_
    ·refine gK 1 [(95,vP (L.b ek))] [] ?_
     refine NL ?_
     exact MD () [0,2,3,8,11,19,20,21,79,80,81,86,87,95] [0,1,2,3,4,5,6,7,8,9,10,11,12,13,14,15,16]
    rintro _
    refine aK.cut (ι:=Unit) (fr':=fun (_:Unit)=>(lg f b4 b5 b15 L tk A7 S c8 i dW eX j++qo Ae j ce S tk++[(96,vP (L.b ek))])) (hp':=fun (_:Unit)=>([jl b15 S i tk Ae j ce,nw Ae j ce S tk]++kC L tk S b16 dW eX b5 An i cn K A7 c8 b4 f m t R)) [2,13,0] rfl rfl ?_ rfl (fun _=>by kernel_rfl) ?_
    ·refine gK 1 [(96,vP (L.b ek))] [] ?_
     refine NL ?_
     exact MD () [0,2,3,8,11,19,20,21,79,80,81,86,87,96] [0,1,2,3,4,5,6,7,8,9,10,11,12,13,14,15,16]
    rintro _
    refine aK.cut (ι:=Unit) (fr':=fun (_:Unit)=>(lg f b4 b5 b15 L tk A7 S c8 i dW eX j++qo Ae j ce S tk++[(97,vI ((obj S.O ek).id))])) (hp':=fun (_:Unit)=>([jl b15 S i tk Ae j ce,nw Ae j ce S tk]++kC L tk S b16 dW eX b5 An i cn K A7 c8 b4 f m t R)) [2,13,0] rfl rfl ?_ rfl (fun _=>by kernel_rfl) ?_
    ·refine gK 1 [(97,vI ((obj S.O ek).id))] [(0,v_ 13 (qh L hke))] ?_
     refine NL ?_
     exact MD () [0,2,3,8,11,19,20,21,79,80,81,86,87,97] [0,1,2,3,4,5,6,7,8,9,10,11,12,13,14,15,16]
    rintro _
    refine aK.cut (ι:=Unit) (fr':=fun (_:Unit)=>(lg f b4 b5 b15 L tk A7 S c8 i dW eX j++[(86,.slice Ae (j) (ce)),(98,.agg #[.string (fo (obj S.O tk).ah j),vI ((obj S.O ek).id)])])) (hp':=fun (_:Unit)=>([jl b15 S i tk Ae j ce,nw Ae j ce S tk]++kC L tk S b16 dW eX b5 An i cn K A7 c8 b4 f m t R)) [2,13,0] rfl rfl ?_ rfl (fun _=>by kernel_rfl) ?_
    ·refine gK 1 [(98,.agg #[.string (fo (obj S.O tk).ah j),vI ((obj S.O ek).id)])] [] ?_
     refine NL ?_
     exact MD () [0,2,3,8,11,19,20,21,79,80,81,86,98] [0,1,2,3,4,5,6,7,8,9,10,11,12,13,14,15,16]
    rintro _
    refine mN [2,13,0] (fun om=>[(99,.slice (some ⟨om,0,none⟩) (1) (1))]) (fun _=>[]) (fun om=>.blk om [.string (fo (obj S.O tk).ah j),vI ((obj S.O ek).id)] 140) (fun om=>?_)
    refine aK.cut (ι:=(Option Addr)×Nat) (fr':=fun ((sZ,s5):(Option Addr)×Nat)=>(lg f b4 b5 b15 L tk A7 S c8 i dW eX j++[(100,.slice sZ ((j+1)) (s5))])) (hp':=fun ((sZ,s5):(Option Addr)×Nat)=>([jl b15 S i tk Ae j ce,Cz sZ j s5 S tk]++kC L tk S b16 dW eX b5 An i cn K A7 c8 b4 f m t R++[CA om S tk j ek])) [2,13,0] rfl rfl ?_ rfl (fun _=>by kernel_rfl) ?_
    ·refine aj.append 1 (d:=(some 100)) (t:=68) (e:=140) (z:=.agg #[.string ⟨#[]⟩,vI 0]) (size:=2) (bytes:=24) (n:=j) (cap:=ce) (A:=Ae) (xs:=(gH (((obj S.O tk).ah.take j).map (kZ S.O)))) (s:=(.tmp 86)) (x:=(.tmp 99)) (ats:=#[68,68]) (A':=some ⟨om,0,none⟩) (m:=1) (c':=1) (news:=[.string (fo (obj S.O tk).ah j),vI ((obj S.O ek).id)]) (fun _=>by kernel_rfl) rfl (by kernel_rfl) (fun _=>by kernel_rfl) (fun _=>by kernel_rfl) Tryz.underlying68 (by kernel_rfl) rfl (by decide) (rfl) (by simp [Value.oneCell']) (j8 (j:=17) rfl) (by unfold maxLen;omega) (by omega) (fun sZ s5=>?_)
     refine aj.dr 1 (p:=.abs (aE 140 2 sZ (j+1) s5 ((gH (((obj S.O tk).ah.take j).map (kZ S.O)))++[.string (fo (obj S.O tk).ah j),vI ((obj S.O ek).id)]))) (p':=.abs (aE 140 2 sZ (j+1) s5 (gH (((obj S.O tk).ah.take (j+1)).map (kZ S.O))))) (by kernel_rfl) (congrArg (fun x=>HP.abs (aE 140 2 _ _ _ x)) (wN hj2 KG)) ?_
     refine aj.slot 100 (.slice sZ (j+1) (s5)) (.slice sZ ((j+1)) (s5)) (fun _=>by kernel_rfl) (rfl) ?_
     refine NL ?_
     exact MD (sZ,s5) [0,2,3,8,11,19,20,21,79,80,81,100] [0,1,2,3,4,5,6,7,8,9,10,11,12,13,14,15,16,17]
    rintro⟨sZ,s5⟩
    refine aK.cut (ι:=Unit) (fr':=fun (_:Unit)=>(lg f b4 b5 b15 L tk A7 S c8 i dW eX j++[(100,.slice sZ ((j+1)) (s5)),(101,.pointer (some ⟨b15,9,none⟩))])) (hp':=fun (_:Unit)=>([jl b15 S i tk Ae j ce,Cz sZ j s5 S tk]++kC L tk S b16 dW eX b5 An i cn K A7 c8 b4 f m t R++[CA om S tk j ek])) [2,13,0] rfl rfl ?_ rfl (fun _=>by kernel_rfl) ?_
    ·refine gK 1 [(101,.pointer (some ⟨b15,9,none⟩))] [] ?_
     refine NL ?_
     exact MD () [0,2,3,8,11,19,20,21,79,80,81,100,101] [0,1,2,3,4,5,6,7,8,9,10,11,12,13,14,15,16,17]
    rintro _
    refine aK.last rfl rfl ?_
    refine gC 1 [] [(0,a_ 0 b15)] [(0,[(9,.slice sZ ((j+1)) (s5))])] ?_
    refine NL (ai.np (ai.aJ (NX (af.region ?_))))
    refine gK 2 [(81,vI ↑(j+1))] [(0,p_ ⟨[],none,none,none,some (vI ↑(j+1))⟩ [(Value.int .i64 (IntKind.wrap .i64 (((j:Nat):Int)+1)))=(.int .i64 ↑(j+1))] ⟨bw (by omega) (by omega) (by omega),trivial⟩)] ?_
    refine NL ?_
    exact ai.turn ((j+1),sZ,s5) (idx:=[0,2,3,8,11,19,20,21,79,80,81]) (pk:=[0,1,2,3,4,5,6,7,8,9,10,11,12,13,14,15,16]) (show (((j+1))<=(obj S.O tk).ah.length) from (by omega)) (by show (obj S.O tk).ah.length - ((j+1)) < (obj S.O tk).ah.length - j;omega) (fun _=>by kernel_rfl) rfl (by kernel_rfl)
   refine af.exit (ai.aX (ai.aX (ai.cV (ai.aJ (NX (af.region ?_))))))
   have hjl:j=(obj S.O tk).ah.length:=by omega
   refine aj.mem (cL:=([pE S.O L,jl b15 S i tk Ae j ce,nw Ae j ce S tk,Qw b16 L tk,Qx dW S tk eX]++vm b5 An i cn K S A7 c8 b4 f m t L++[pD S.O L,.abs R])) (fun w hS=>hS.Pt (i:=15) (j:=2) (idx:=[0,1,3,4,5,6,7,8,9,10,11,12,13,14,16]) (k:=tk) rfl rfl (by kernel_rfl) rfl (hkt)) ?_
   refine gN 4 (fun G6=>[(104,.slice An (i) (cn)),(106,.slice (some ⟨G6,0,none⟩) (1) (1))]) (fun G6=>[(1,a_ 5 b5),(2,A_ 1 b15 10)]) (fun _=>[]) (fun G6=>.blk G6 [vI ((cW S i)),vI 2,vI ((obj S.O tk).mode),vI ((obj S.O tk).uid),vI ((obj S.O tk).gid),vI ((obj S.O tk).sec),vI ((obj S.O tk).nano),.slice none (0) (0),.string ⟨#[]⟩,.slice Ae (j) (ce)] 70) (fun G6=>?_)
   refine aj.append 6 (d:=(some 107)) (t:=22) (e:=70) (z:=.agg #[vI 0,vI 0,vI 0,vI 0,vI 0,vI 0,vI 0,.slice none (0) (0),.string ⟨#[]⟩,.slice none (0) (0)]) (size:=10) (bytes:=120) (n:=i) (cap:=cn) (A:=An) (xs:=(dx K ((aO S).take i))) (s:=(.tmp 104)) (x:=(.tmp 106)) (ats:=#[22,22]) (A':=some ⟨G6,0,none⟩) (m:=1) (c':=1) (news:=[vI ((cW S i)),vI 2,vI ((obj S.O tk).mode),vI ((obj S.O tk).uid),vI ((obj S.O tk).gid),vI ((obj S.O tk).sec),vI ((obj S.O tk).nano),.slice none (0) (0),.string ⟨#[]⟩,.slice Ae (j) (ce)]) (fun _=>by kernel_rfl) rfl (by kernel_rfl) (fun _=>by kernel_rfl) (fun _=>by kernel_rfl) Tryz.underlying22 (by kernel_rfl) rfl (by decide) (rfl) (by simp [Value.oneCell']) (j8 (j:=16) rfl) (by unfold maxLen;omega) (by omega) (fun G7 G8=>?_)
   refine aj.dr 6 (p:=.abs (aE 70 10 G7 (i+1) G8 ((dx K ((aO S).take i))++[vI ((cW S i)),vI 2,vI ((obj S.O tk).mode),vI ((obj S.O tk).uid),vI ((obj S.O tk).gid),vI ((obj S.O tk).sec),vI ((obj S.O tk).nano),.slice none (0) (0),.string ⟨#[]⟩,.slice Ae (j) (ce)]))) (p':=.abs (aE 70 10 G7 (i+1) G8 (dx (K.put i none 0 Ae ce) ((aO S).take (i+1))))) (by kernel_rfl) (congrArg (fun x=>HP.abs (aE 70 10 _ _ _ x)) (uT (dP (by omega)) (rL hI.toInv0 hi2 kE hlv) rfl (by show ((obj S.O tk).ah.map (kZ S.O)).length=j;rw [List.length_map,hjl]))) ?_
   refine aj.slot 107 (.slice G7 (i+1) (G8)) (.slice G7 ((i+1)) (G8)) (fun _=>by kernel_rfl) (rfl) ?_
   refine gC 2 [] [(1,a_ 5 b5)] [(5,[(0,.slice G7 ((i+1)) (G8))])] ?_
   refine NL (ai.aJ (NX (af.region ?_)))
   refine gK 2 [(21,vI ↑(i+1))] [(0,p_ ⟨[],none,none,none,some (vI ↑(i+1))⟩ [(Value.int .i64 (IntKind.wrap .i64 (((i:Nat):Int)+1)))=(.int .i64 ↑(i+1))] ⟨bw (by omega) (by omega) (by omega),trivial⟩)] ?_
   refine NL (ai.mem (fun w hS=>hS.jL (e:=5) (size:=1)) ?_)
   refine ai.mem (fun w hS=>hS.qR (R':=(jZ ((aO S).take (i+1)) (K.put i none 0 Ae ce))) (i:=8) (j:=17) (idx:=[0,1,2,3,4,5,6,7,9,10,11,12,13,14,15,16]) rfl rfl (by kernel_rfl) rfl (zu (dP (by omega)) (rL hI.toInv0 hi2 kE hlv)) (wL (dP (by omega)) (rL hI.toInv0 hi2 kE hlv) rfl)) ?_
   refine ai.mem (fun w hS=>hS.qR (R':=(jY ((aO S).take (i+1)) (K.put i none 0 Ae ce))) (i:=8) (j:=3) (idx:=[0,1,2,4,5,6,7,9,10,11,12,13,14,15,16]) rfl rfl (by kernel_rfl) rfl (zw (dP (by omega)) (rL hI.toInv0 hi2 kE hlv)) ((wM (dP (by omega)) (rL hI.toInv0 hi2 kE hlv) (by show ((obj S.O tk).ah.map (kZ S.O)).length=j;rw [List.length_map,hjl])).trans (by rw [hjl,List.take_length]))) ?_
   exact ai.turn ((i+1),G7,G8,(K.put i none 0 Ae ce)) (idx:=[0,2,3,19,20,21]) (pk:=[6,7,0,1,8,9,10,11,12,13,2,14]) (show (((i+1))<=S.idx.length) from (by omega)) (by show S.idx.length - ((i+1)) < S.idx.length - i;omega) (fun _=>by kernel_rfl) rfl (by kernel_rfl)
  have hkt:(obj S.O tk).kind=3:=hI.kind hlv
  have hel:(obj S.O tk).ah.length<=8192:=hI.fU hlv
  have hdl:(obj S.O tk).data.length<=140737488355328:=hI.H8 hlv
  refine af.region (gK 5 [(28,.map (some m)),(29,vI ((cW S i)))] [(3,a_ 6 f)] ?_)
  refine aj.d9 7 (d:=(some 30)) (t:=120) (K:=3) (E:=124) (b:=m) (n:=S.idx.length) (f:=(bh (bn L S.idx))) (x:=(.tmp 28)) (ix:=(.tmp 29)) (key:=.int .i64 ((cW S i))) (z:=.nilIface) (kl:=(.int .i64 (cW S i))) (r:=(some (dJ L ⟨tk,3⟩))) (fun _=>by kernel_rfl) (by kernel_rfl) (fun _=>by kernel_rfl) (fun _=>by kernel_rfl) dX Tryz.underlying120 (fun _=>by kernel_rfl) (gJ (Ck hI.toInv0 hi2)) (by rw [eY,hget,kE];rfl) ?_
  refine gK 1 [(6,.iface 132 (vP (L.b tk)))] [] ?_
  refine NS (gK 1 [(31,.iface 132 (vP (L.b tk)))] [] ?_)
  refine gL [] (dm (L.b tk)) ?_
  rintro _ _ ⟨rfl,rfl⟩
  refine gK 1 [(7,vP (L.b tk))] [] ?_
  refine NN (af.seq (af.qL (S:=[pO S.O L]) [0,1,3,4,5,6,7,8,9,10,11,12,13,14,15,16,17,18] [.beside [2,19] 20,.one 21] [8] (by kernel_rfl) (by kernel_rfl) rfl (by kernel_rfl) ?_))
  refine gP (xj f b4 b5++[(6,.iface 132 (vP (L.b tk)))]++xk A7 S c8 i++[(33,vI ((cW S i))),(34,.iface 132 (vP (L.b tk)))]++CB S tk) [0,1,3,4,5,6,7,8,9,10,11,12,13,14,15,16,17,18] [(5,v_ 0 (rS L hkt)),(9,v_ 0 (x6 L hkt)),(13,v_ 0 (x7 L hkt)),(17,p_ ⟨[.view 0 (.int .i64 ((obj S.O tk).sec)),.view 0 (.int .i64 ((obj S.O tk).nano))],none,none,none,none⟩ [(∀ F w,(ax (bM S.O L)).h F w->w.cell? ⟨(L.b tk),5,none⟩=some (vI ((obj S.O tk).nano))),(∀ F w,(ax (bM S.O L)).h F w->w.cell? ⟨(L.b tk),4,none⟩=some (vI ((obj S.O tk).sec)))] ⟨dY (by rw [hkt];decide) (rfl),dY (by rw [hkt];decide) (rfl),trivial⟩)] ?_
  refine iF.beside (j:=20) (dj:=8) (R:=fun f_ l_=>f_=([(52,.agg #[vI ((cW S i)),vI 3,vI ((obj S.O tk).mode),vI ((obj S.O tk).uid),vI ((obj S.O tk).gid),vI ((obj S.O tk).sec),vI ((obj S.O tk).nano),.slice none (0) (0),.string ⟨#[]⟩,.slice none (0) (0)]),(35,vI 3)]++xj f b4 b5++[(6,.iface 132 (vP (L.b tk)))]++xk A7 S c8 i++[(33,vI ((cW S i))),(34,.iface 132 (vP (L.b tk)))]++CB S tk)/\l_=[]) [0,1,2,3,4,5,6,7,8,9,10,11] [8] [(2,35),(19,52)] rfl (pc:=[]) (pj:=[]) (Z:=(vm b5 An i cn K S A7 c8 b4 f m t L++[pD S.O L,pE S.O L,.abs R])) (by kernel_rfl) rfl (by kernel_rfl) rfl rfl (kg.of (ι:=Nat) (v:=fun (uq:Nat)=>vP uq) (l:=fun (uq:Nat)=>[Qu uq]) [35,52] rfl rfl rfl rfl ?_) ?_ ?_
  ·intro u Aq
   show aj _ _ _ _ _ [(35,(u 35)),(52,(u 52)),(0,vP f),(2,vP b4),(3,vP b5),(6,.iface 132 (vP (L.b tk))),(19,.slice A7 ((keys S.idx).length) (c8)),(20,vI ↑((keys S.idx).length)),(21,vI ↑i),(33,vI ((cW S i))),(34,.iface 132 (vP (L.b tk))),(39,vI ((obj S.O tk).mode)),(43,vI ((obj S.O tk).uid)),(47,vI ((obj S.O tk).gid)),(51,.agg #[vI ((obj S.O tk).sec),vI ((obj S.O tk).nano)])] [.abs Aq] _
   refine gN 1 (fun uq=>[(8,vP uq)]) (fun _=>[]) (fun _=>[]) (fun uq=>.blk uq [vI 0,vI 0,vI 0,vI 0,vI 0,vI 0,vI 0,.slice none (0) (0),.string ⟨#[]⟩,.slice none (0) (0)] 70) (fun uq=>?_)
   refine NL ?_
   exact MD uq [8,35,52,0,2,3,6,19,20,21,33,34,39,43,47,51] [1,0]
  ·refine ko.step (kg.of (ι:=Unit) (v:=fun (_:Unit)=>.int .i64 3) (l:=fun (_:Unit)=>[]) [8] rfl rfl rfl rfl ?_) rfl ?_
   ·intro u Aq
    show aj _ _ _ _ _ [(8,(u 8)),(0,vP f),(2,vP b4),(3,vP b5),(6,.iface 132 (vP (L.b tk))),(19,.slice A7 ((keys S.idx).length) (c8)),(20,vI ↑((keys S.idx).length)),(21,vI ↑i),(33,vI ((cW S i))),(34,.iface 132 (vP (L.b tk))),(39,vI ((obj S.O tk).mode)),(43,vI ((obj S.O tk).uid)),(47,vI ((obj S.O tk).gid)),(51,.agg #[vI ((obj S.O tk).sec),vI ((obj S.O tk).nano)])] [.abs Aq] _
    refine gL [] (nj (vP (L.b tk))) ?_
    rintro _ _ ⟨rfl,rfl⟩
    refine NL ?_
    exact MD () [35,8,0,2,3,6,19,20,21,33,34,39,43,47,51] [0]
   rintro _ _ ⟨_,rfl,rfl⟩
   refine ko.step (kg.of (ι:=Unit) (v:=fun (_:Unit)=>.agg #[vI ((cW S i)),vI 3,vI ((obj S.O tk).mode),vI ((obj S.O tk).uid),vI ((obj S.O tk).gid),vI ((obj S.O tk).sec),vI ((obj S.O tk).nano),.slice none (0) (0),.string ⟨#[]⟩,.slice none (0) (0)]) (l:=fun (_:Unit)=>[]) [8] rfl rfl rfl rfl ?_) rfl ?_
   ·intro u Aq
    show aj _ _ _ _ _ [(8,(u 8)),(35,vI 3),(0,vP f),(2,vP b4),(3,vP b5),(6,.iface 132 (vP (L.b tk))),(19,.slice A7 ((keys S.idx).length) (c8)),(20,vI ↑((keys S.idx).length)),(21,vI ↑i),(33,vI ((cW S i))),(34,.iface 132 (vP (L.b tk))),(39,vI ((obj S.O tk).mode)),(43,vI ((obj S.O tk).uid)),(47,vI ((obj S.O tk).gid)),(51,.agg #[vI ((obj S.O tk).sec),vI ((obj S.O tk).nano)])] [.abs Aq] _
    refine gK 1 [(52,.agg #[vI ((cW S i)),vI 3,vI ((obj S.O tk).mode),vI ((obj S.O tk).uid),vI ((obj S.O tk).gid),vI ((obj S.O tk).sec),vI ((obj S.O tk).nano),.slice none (0) (0),.string ⟨#[]⟩,.slice none (0) (0)])] [] ?_
    refine NL ?_
    exact MD () [52,8,35,0,2,3,6,19,20,21,33,34,39,43,47,51] [0]
   rintro _ _ ⟨_,rfl,rfl⟩
   exact⟨rfl,rfl⟩
  rintro _ _ ⟨rfl,rfl⟩ _ _ ⟨uq,rfl,rfl⟩
  refine iF.last rfl rfl ?_
  refine gC 1 [] [(0,A_ 0 uq 10)] [(0,([(0,vI ((cW S i))),(1,vI 3)]++ME S tk))] ?_
  refine NL (ai.np (NX (af.seq (SR ?_))))
  refine gK 1 [(53,.iface 132 (vP (L.b tk)))] [] ?_
  refine NN (af.block (SR ?_))
  refine gK 3 [(55,.bool false),(56,.pointer none)] [] ?_
  refine NN (CF (SR (gK 3 [(64,.bool true),(65,vP (L.b tk))] [] ?_)))
  refine NN (CT (SR (gK 1 [(10,vP (L.b tk))] [] ?_)))
  refine NN (af.region (gC 6 [] [(3,v_ 9 (Rz L hkt)),(5,a_ 0 uq)] [(0,[(8,.string (obj S.O tk).target)])] ?_))
  refine NL (ai.aJ (NX (af.region ?_)))
  refine gN 4 (fun b32=>[(104,.slice An (i) (cn)),(106,.slice (some ⟨b32,0,none⟩) (1) (1))]) (fun b32=>[(1,a_ 1 b5),(2,A_ 0 uq 10)]) (fun _=>[]) (fun b32=>.blk b32 [vI ((cW S i)),vI 3,vI ((obj S.O tk).mode),vI ((obj S.O tk).uid),vI ((obj S.O tk).gid),vI ((obj S.O tk).sec),vI ((obj S.O tk).nano),.slice none (0) (0),.string (obj S.O tk).target,.slice none (0) (0)] 70) (fun b32=>?_)
  refine aj.append 2 (d:=(some 107)) (t:=22) (e:=70) (z:=.agg #[vI 0,vI 0,vI 0,vI 0,vI 0,vI 0,vI 0,.slice none (0) (0),.string ⟨#[]⟩,.slice none (0) (0)]) (size:=10) (bytes:=120) (n:=i) (cap:=cn) (A:=An) (xs:=(dx K ((aO S).take i))) (s:=(.tmp 104)) (x:=(.tmp 106)) (ats:=#[22,22]) (A':=some ⟨b32,0,none⟩) (m:=1) (c':=1) (news:=[vI ((cW S i)),vI 3,vI ((obj S.O tk).mode),vI ((obj S.O tk).uid),vI ((obj S.O tk).gid),vI ((obj S.O tk).sec),vI ((obj S.O tk).nano),.slice none (0) (0),.string (obj S.O tk).target,.slice none (0) (0)]) (fun _=>by kernel_rfl) rfl (by kernel_rfl) (fun _=>by kernel_rfl) (fun _=>by kernel_rfl) Tryz.underlying22 (by kernel_rfl) rfl (by decide) (rfl) (by simp [Value.oneCell']) (j8 (j:=13) rfl) (by unfold maxLen;omega) (by omega) (fun G9 He=>?_)
  refine aj.dr 2 (p:=.abs (aE 70 10 G9 (i+1) He ((dx K ((aO S).take i))++[vI ((cW S i)),vI 3,vI ((obj S.O tk).mode),vI ((obj S.O tk).uid),vI ((obj S.O tk).gid),vI ((obj S.O tk).sec),vI ((obj S.O tk).nano),.slice none (0) (0),.string (obj S.O tk).target,.slice none (0) (0)]))) (p':=.abs (aE 70 10 G9 (i+1) He (dx (K.put i none 0 none 0) ((aO S).take (i+1))))) (by kernel_rfl) (congrArg (fun x=>HP.abs (aE 70 10 _ _ _ x)) (uT (dP (by omega)) (qb hI.toInv0 hi2 kE hlv) rfl rfl)) ?_
  refine aj.slot 107 (.slice G9 (i+1) (He)) (.slice G9 ((i+1)) (He)) (fun _=>by kernel_rfl) (rfl) ?_
  refine gC 2 [] [(1,a_ 1 b5)] [(1,[(0,.slice G9 ((i+1)) (He))])] ?_
  refine NL (ai.aJ (NX (af.region ?_)))
  refine gK 2 [(21,vI ↑(i+1))] [(0,p_ ⟨[],none,none,none,some (vI ↑(i+1))⟩ [(Value.int .i64 (IntKind.wrap .i64 (((i:Nat):Int)+1)))=(.int .i64 ↑(i+1))] ⟨bw (by omega) (by omega) (by omega),trivial⟩)] ?_
  refine NL (ai.mem (fun w hS=>hS.jL (e:=5) (size:=1)) ?_)
  refine ai.mem (fun w hS=>hS.jL (e:=140) (size:=2)) ?_
  refine ai.mem (fun w hS=>hS.qR (R':=(jZ ((aO S).take (i+1)) (K.put i none 0 none 0))) (i:=4) (j:=14) (idx:=[0,1,2,3,5,6,7,8,9,10,11,12,13,15]) rfl rfl (by kernel_rfl) rfl (zu (dP (by omega)) (qb hI.toInv0 hi2 kE hlv)) (wL (dP (by omega)) (qb hI.toInv0 hi2 kE hlv) rfl)) ?_
  refine ai.mem (fun w hS=>hS.qR (R':=(jY ((aO S).take (i+1)) (K.put i none 0 none 0))) (i:=4) (j:=14) (idx:=[0,1,2,3,5,6,7,8,9,10,11,12,13]) rfl rfl (by kernel_rfl) rfl (zw (dP (by omega)) (qb hI.toInv0 hi2 kE hlv)) ((wM (dP (by omega)) (qb hI.toInv0 hi2 kE hlv) rfl))) ?_
  exact ai.turn ((i+1),G9,He,(K.put i none 0 none 0)) (idx:=[0,2,3,19,20,21]) (pk:=[3,4,0,1,5,6,7,8,9,10,11,12]) (show (((i+1))<=S.idx.length) from (by omega)) (by show S.idx.length - ((i+1)) < S.idx.length - i;omega) (fun _=>by kernel_rfl) rfl (by kernel_rfl)
 refine af.exit (ai.aX (ai.aX (ai.cV (NX (SR ?_)))))
 have hie:(aO S).length=i:=by rw [nY];omega
 have hgt:((aO S).take i)=(aO S):=by rw [← hie,List.take_length]
 refine aj.dr 1 (p:=.abs (aE 70 10 An i cn (dx K ((aO S).take i)))) (p':=.abs (aE 70 10 An ((aO S).length) cn (dx K (aO S)))) (by kernel_rfl) (by rw [hgt,hie]) ?_
 refine aj.dr 2 (p:=.abs (iD (jY ((aO S).take i) K) i)) (p':=.abs (iD (jY (aO S) K) ((aO S).length))) (by kernel_rfl) (by rw [hgt,hie]) ?_
 refine aj.dr 3 (p:=.abs (iD (jZ ((aO S).take i) K) i)) (p':=.abs (iD (jZ (aO S) K) ((aO S).length))) (by kernel_rfl) (by rw [hgt,hie]) ?_
 refine gC 2 [] [(0,a_ 0 b5),(1,a_ 5 b4)] [(5,[(0,.slice An (i) (cn))])] ?_
 refine NN (af.ret ?_)
 exact ai.ret (v:=.agg #[.slice An (i) (cn)]) (l:=[pF f m t S.X,pI m L S.idx,pO S.O L,pD S.O L,pE S.O L,.abs (aE 70 10 An ((aO S).length) cn (dx K (aO S))),.abs (iD (jY (aO S) K) ((aO S).length)),.abs (iD (jZ (aO S) K) ((aO S).length))]) (bF:=[b4=b4]) [.at 5] [6,7,8,9,10,1,2,3,11] (fun _=>by kernel_rfl) ⟨rfl,trivial⟩ rfl (by kernel_rfl) (⟨An,cn,K,by rw [hie],rfl⟩)
end
end Go.Proofs.YtidjcblbdmfalaaGreat
