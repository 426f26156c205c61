/-
  PROVED HERE: lemmas and contracts of functions (texts of this repo, joined; what the claim does not use is left out): H3, Hr, H4, Ht, Hu, TabMath2, Hv, Hw, H5, Hx, H6, Hy, H7, Vg, H8.
  CONDITIONS: as the theorems say.
-/
import Derived.Test.YtidjcblbdmfalaaGreatMWquiet2
set_option maxRecDepth 100000
set_option maxHeartbeats 4000000
namespace Go.Proofs.YtidjcblbdmfalaaGreat
section
open Go.RowKit Go.Maps bG aE
attribute [local irreducible] aj aP af ai
abbrev AP (f:Nat) (L:HL) (d:Nat) (name):=([(0,vP f),(1,vP (L.b d)),(2,.string name)]:Fr)
abbrev PW (f:Nat) (L:HL) (d:Nat) (name):=([(18,vP f),(19,vP (L.b d)),(20,.string name)]:Fr)
abbrev PX (f:Nat) (L:HL) (d:Nat) (name):=([(8,vP f),(9,vP (L.b d)),(10,.string name)]:Fr)
abbrev EQ (f:Nat) (L:HL) (d:Nat) (name):=([(0,vP f),(1,vP (L.b d)),(2,.string name)]:Fr)
abbrev vT (f:Nat) (m:Nat) (t) (X:FM) (L:HL) (idx) (O:bY) (R:cu):=([pF f m t X,pI m L idx,pO O L,pE O L,.abs R]:List HP)
abbrev PY (S:aG) (tk:Nat) (L:HL):=([(24,vI ((obj S.O tk).opens+1)),(26,.pointer (some ⟨(L.b tk),7,none⟩))]:Fr)
theorem nO {β:Bs} (S:aG) (L:HL) (f m t:Nat) (hI:Inv S) (d:Nat) (hd:Live S.idx ⟨d,2⟩) (name:ByteArray) (hsz:name.size<=1048576) (th:Th) (hlk:aT name (obj S.O d).ah=some th) :
    Spec Tryz.prog β 168 #[vP f,vP (L.b d),.string name] [pF f m t S.X,pO S.O L,pE S.O L,pI m L S.idx] (fun v l=>v=.tuple #[]/\l=[pF f m t ((aI S d name th).X),pO ((aI S d name th).O) L,pE ((aI S d name th).O) L,pI m L ((aI S d name th).idx)]):=by
 have hX:=hI.hX
 have hel:(obj S.O d).ah.length<=8192:=hI.fV hd
 have hkd:(obj S.O d).kind=2:=hI.kind hd
 refine Spec.enter Tryz.func168 rfl Tryz.ntmps168 (Nat.le_of_ble_eq_true rfl) (fun R=>?_)
 refine af.seq ?_
 obtain⟨tk,kd⟩:=th;have hlv:=(hI.ent hd hlk).2;have Vx:=hI.ne hd hlk;rcases (hI.ob _ hlv).2.2 with e0|e0|e0<;>simp only at e0<;>subst e0
 ·have hkt:(obj S.O tk).kind=1:=hI.kind hlv
  have hlb:=hI.lb hlv;have hid:=hI.ob _ hlv;have hop:=hI.Df hlv;have hdl:=hI.EO hlv;have pu:=hI.J9 hlv
  refine af.region (gK 3 (PX f L d name) [] ?_)
  refine gL [0,1,2] (jt S.X f m t hX S.O L d hkd name hsz ⟨tk,1⟩ hkt (by simp) hlk (hI.twice hd) (by omega) (by simp only at hlb ⊢;omega)) ?_
  rintro _ _ ⟨rfl,rfl⟩
  refine gK 1 [(6,.iface 129 (vP (L.b tk)))] [] ?_
  refine NS ?_
  have jG:(obj (aQ S.X S.O d name ⟨tk,1⟩) d).kind=2:=(cG).trans (hkd)
  have lZ:(obj (aQ S.X S.O d name ⟨tk,1⟩) tk).kind=1:=(cG).trans (hkt)
  have xk:(obj (aQ S.X S.O d name ⟨tk,1⟩) tk).id=(obj S.O tk).id:=dw (g:=aR.id) (fun _ _=>rfl) (fun _ _=>rfl) (fun _ _ _=>rfl)
  have xq:(obj (aQ S.X S.O d name ⟨tk,1⟩) tk).opens=(obj S.O tk).opens:=dw (g:=aR.opens) (fun _ _=>rfl) (fun _ _=>rfl) (fun _ _ _=>rfl)
  have xu:(obj (aQ S.X S.O d name ⟨tk,1⟩) tk).data=(obj S.O tk).data:=dw (g:=aR.data) (fun _ _=>rfl) (fun _ _=>rfl) (fun _ _ _=>rfl)
  generalize ck:(aQ S.X S.O d name ⟨tk,1⟩)=cA at jG lZ xk xq xu ⊢
  refine gK 1 [(12,.iface 129 (vP (L.b tk)))] [] ?_
  refine gL [] (cU (L.b tk)) ?_
  rintro _ _ ⟨rfl,rfl⟩
  refine gK 1 [(7,vP (L.b tk))] [] ?_
  refine NS (gK 5 [(18,.bool (decide (((obj cA tk).links:Int)=(0:Int))))] [(3,v_ 1 (mH L lZ))] ?_)
  refine NN (af.aZ (p:=((obj cA tk).links:Int)=(0:Int)) (fun _=>by kernel_rfl) (fun nY=>?_) (fun nY=>?_))
  ·refine SR (gK 3 [(21,.pointer (some ⟨(L.b tk),8,none⟩))] [] ?_)
   refine rZ 1 [(2,1)] tk 8 (fun o=>{ o with gone:=true }) lZ (fun dS cW=>?_)
   have Cr:=ku cW jG
   have wT:=ku cW lZ
   have Kc:(obj dS tk).id=(obj S.O tk).id:=fu aR.id cW xk
   have PZ:(obj dS tk).opens=(obj S.O tk).opens:=fu aR.opens cW xq
   have Uw:(obj dS tk).data=(obj S.O tk).data:=fu aR.data cW xu
   refine NN (af.region (gK 2 [(22,vP f),(23,.iface 129 (vP (L.b tk)))] [] ?_))
   refine gL [1,0,3] (qp { S.X with ah:=S.X.ah - 1 } f m t (hI.yO hd hlk) dS L S.idx hI.rise ⟨tk,1⟩ wT (by simp) (by rw [PZ];exact hop.1) (fun _=>by rw [Kc,hid.1];exact hlv) (by rw [Kc];exact pu) (by rw [Uw];exact hdl)) ?_
   rintro _ _ ⟨rfl,rfl⟩
   refine NL ?_
   exact RF (l:=[pF f m t { S.X with ah:=S.X.ah - 1,used:=jQ dS S.X.used ⟨tk,1⟩ },pO dS L,pE dS L,pI m L (jB dS S.idx ⟨tk,1⟩)]) (.tuple #[]) [1,0,3,2,4] (⟨rfl,by subst cW;subst ck;rw [show aI S d name ⟨tk,1⟩=_ from s5 nY]<;>rfl⟩)
  refine af.skip ?_
  exact RF (l:=[pF f m t { S.X with ah:=S.X.ah - 1 },pO cA L,pE cA L,pI m L S.idx]) (.tuple #[]) [0,1,2,3,4] (⟨rfl,by subst ck;rw [show aI S d name ⟨tk,1⟩=_ from tf nY]<;>rfl⟩)
 ·have hkt:(obj S.O tk).kind=2:=hI.kind hlv
  have hlb:=hI.lb hlv;have hid:=hI.ob _ hlv;have hop:=hI.Df hlv;have hdl:=hI.EO hlv;have pu:=hI.J9 hlv
  refine af.region (gK 3 (PX f L d name) [] ?_)
  refine gL [0,1,2] (jt S.X f m t hX S.O L d hkd name hsz ⟨tk,2⟩ hkt (by simp) hlk (hI.twice hd) (by omega) (by simp only at hlb ⊢;omega)) ?_
  rintro _ _ ⟨rfl,rfl⟩
  refine gK 1 [(6,.iface 135 (vP (L.b tk)))] [] ?_
  refine NS ?_
  have P0:(obj (aQ S.X S.O d name ⟨tk,2⟩) d).kind=2:=(cG).trans (hkd)
  have Ci:(obj (aQ S.X S.O d name ⟨tk,2⟩) tk).kind=2:=(cG).trans (hkt)
  have xk:(obj (aQ S.X S.O d name ⟨tk,2⟩) tk).id=(obj S.O tk).id:=dw (g:=aR.id) (fun _ _=>rfl) (fun _ _=>rfl) (fun _ _ _=>rfl)
  have xq:(obj (aQ S.X S.O d name ⟨tk,2⟩) tk).opens=(obj S.O tk).opens:=dw (g:=aR.opens) (fun _ _=>rfl) (fun _ _=>rfl) (fun _ _ _=>rfl)
  have xu:(obj (aQ S.X S.O d name ⟨tk,2⟩) tk).data=(obj S.O tk).data:=dw (g:=aR.data) (fun _ _=>rfl) (fun _ _=>rfl) (fun _ _ _=>rfl)
  generalize ck:(aQ S.X S.O d name ⟨tk,2⟩)=cA at P0 Ci xk xq xu ⊢
  refine gK 1 [(12,.iface 135 (vP (L.b tk)))] [] ?_
  refine gL [] (cU (L.b tk)) ?_
  rintro _ _ ⟨rfl,rfl⟩
  refine gK 1 [(7,vP (L.b tk))] [] ?_
  refine NS (gK 5 [(18,.bool (decide (((obj cA tk).links:Int)=(0:Int))))] [(3,v_ 1 (mH L Ci))] ?_)
  refine NN (af.aZ (p:=((obj cA tk).links:Int)=(0:Int)) (fun _=>by kernel_rfl) (fun nY=>?_) (fun nY=>?_))
  ·refine SR (gK 3 [(21,.pointer (some ⟨(L.b tk),8,none⟩))] [] ?_)
   refine rZ 1 [(2,1)] tk 8 (fun o=>{ o with gone:=true }) Ci (fun dS cW=>?_)
   have Ih:=ku cW P0
   have Nt:=ku cW Ci
   have P4:(obj dS tk).id=(obj S.O tk).id:=fu aR.id cW xk
   have TB:(obj dS tk).opens=(obj S.O tk).opens:=fu aR.opens cW xq
   have TD:(obj dS tk).data=(obj S.O tk).data:=fu aR.data cW xu
   refine NN (af.region (gK 2 [(22,vP f),(23,.iface 135 (vP (L.b tk)))] [] ?_))
   refine gL [1,0,3] (qp { S.X with ah:=S.X.ah - 1 } f m t (hI.yO hd hlk) dS L S.idx hI.rise ⟨tk,2⟩ Nt (by simp) (by rw [TB];exact hop.1) (fun _=>by rw [P4,hid.1];exact hlv) (by rw [P4];exact pu) (by rw [TD];exact hdl)) ?_
   rintro _ _ ⟨rfl,rfl⟩
   refine NL ?_
   exact RF (l:=[pF f m t { S.X with ah:=S.X.ah - 1,used:=jQ dS S.X.used ⟨tk,2⟩ },pO dS L,pE dS L,pI m L (jB dS S.idx ⟨tk,2⟩)]) (.tuple #[]) [1,0,3,2,4] (⟨rfl,by subst cW;subst ck;rw [show aI S d name ⟨tk,2⟩=_ from s5 nY]<;>rfl⟩)
  refine af.skip ?_
  exact RF (l:=[pF f m t { S.X with ah:=S.X.ah - 1 },pO cA L,pE cA L,pI m L S.idx]) (.tuple #[]) [0,1,2,3,4] (⟨rfl,by subst ck;rw [show aI S d name ⟨tk,2⟩=_ from tf nY]<;>rfl⟩)
 have hkt:(obj S.O tk).kind=3:=hI.kind hlv
 have hlb:=hI.lb hlv;have hid:=hI.ob _ hlv;have hop:=hI.Df hlv;have hdl:=hI.EO hlv;have pu:=hI.J9 hlv
 refine af.region (gK 3 (PX f L d name) [] ?_)
 refine gL [0,1,2] (jt S.X f m t hX S.O L d hkd name hsz ⟨tk,3⟩ hkt (by simp) hlk (hI.twice hd) (by omega) (by simp only at hlb ⊢;omega)) ?_
 rintro _ _ ⟨rfl,rfl⟩
 refine gK 1 [(6,.iface 132 (vP (L.b tk)))] [] ?_
 refine NS ?_
 have NA:(obj (aQ S.X S.O d name ⟨tk,3⟩) d).kind=2:=(cG).trans (hkd)
 have Az:(obj (aQ S.X S.O d name ⟨tk,3⟩) tk).kind=3:=(cG).trans (hkt)
 have xk:(obj (aQ S.X S.O d name ⟨tk,3⟩) tk).id=(obj S.O tk).id:=dw (g:=aR.id) (fun _ _=>rfl) (fun _ _=>rfl) (fun _ _ _=>rfl)
 have xq:(obj (aQ S.X S.O d name ⟨tk,3⟩) tk).opens=(obj S.O tk).opens:=dw (g:=aR.opens) (fun _ _=>rfl) (fun _ _=>rfl) (fun _ _ _=>rfl)
 have xu:(obj (aQ S.X S.O d name ⟨tk,3⟩) tk).data=(obj S.O tk).data:=dw (g:=aR.data) (fun _ _=>rfl) (fun _ _=>rfl) (fun _ _ _=>rfl)
 generalize ck:(aQ S.X S.O d name ⟨tk,3⟩)=cA at NA Az xk xq xu ⊢
 refine gK 1 [(12,.iface 132 (vP (L.b tk)))] [] ?_
 refine gL [] (cU (L.b tk)) ?_
 rintro _ _ ⟨rfl,rfl⟩
 refine gK 1 [(7,vP (L.b tk))] [] ?_
 refine NS (gK 5 [(18,.bool (decide (((obj cA tk).links:Int)=(0:Int))))] [(3,v_ 1 (mH L Az))] ?_)
 refine NN (af.aZ (p:=((obj cA tk).links:Int)=(0:Int)) (fun _=>by kernel_rfl) (fun nY=>?_) (fun nY=>?_))
 ·refine SR (gK 3 [(21,.pointer (some ⟨(L.b tk),8,none⟩))] [] ?_)
  refine rZ 1 [(2,1)] tk 8 (fun o=>{ o with gone:=true }) Az (fun dS cW=>?_)
  have Rv:=ku cW NA
  have AA:=ku cW Az
  have P5:(obj dS tk).id=(obj S.O tk).id:=fu aR.id cW xk
  have TF:(obj dS tk).opens=(obj S.O tk).opens:=fu aR.opens cW xq
  have TG:(obj dS tk).data=(obj S.O tk).data:=fu aR.data cW xu
  refine NN (af.region (gK 2 [(22,vP f),(23,.iface 132 (vP (L.b tk)))] [] ?_))
  refine gL [1,0,3] (qp { S.X with ah:=S.X.ah - 1 } f m t (hI.yO hd hlk) dS L S.idx hI.rise ⟨tk,3⟩ AA (by simp) (by rw [TF];exact hop.1) (fun _=>by rw [P5,hid.1];exact hlv) (by rw [P5];exact pu) (by rw [TG];exact hdl)) ?_
  rintro _ _ ⟨rfl,rfl⟩
  refine NL ?_
  exact RF (l:=[pF f m t { S.X with ah:=S.X.ah - 1,used:=jQ dS S.X.used ⟨tk,3⟩ },pO dS L,pE dS L,pI m L (jB dS S.idx ⟨tk,3⟩)]) (.tuple #[]) [1,0,3,2,4] (⟨rfl,by subst cW;subst ck;rw [show aI S d name ⟨tk,3⟩=_ from s5 nY]<;>rfl⟩)
 refine af.skip ?_
 exact RF (l:=[pF f m t { S.X with ah:=S.X.ah - 1 },pO cA L,pE cA L,pI m L S.idx]) (.tuple #[]) [0,1,2,3,4] (⟨rfl,by subst ck;rw [show aI S d name ⟨tk,3⟩=_ from tf nY]<;>rfl⟩)
theorem tj {β:Bs} (S:aG) (L:HL) (f m t:Nat) (hI:Inv S) (d:Nat) (hd:Live S.idx ⟨d,2⟩) (name:ByteArray) (hsz:name.size<=1048576) :
    Spec Tryz.prog β 125 #[vP f,vP (L.b d),.string name] [pF f m t S.X,pI m L S.idx,pE S.O L,pO S.O L] (fun v l=>v=vI (bZ S.X S.O S.idx d name)/\l=[pF f m t S.X,pI m L S.idx,pE S.O L,pO S.O L]):=by
 have hX:=hI.hX
 have hel:(obj S.O d).ah.length<=8192:=hI.fV hd
 have hkd:(obj S.O d).kind=2:=hI.kind hd
 refine Spec.enter Tryz.func125 rfl Tryz.ntmps125 (Nat.le_of_ble_eq_true rfl) (fun R=>?_)
 refine af.seq ?_
 rcases hI.lP hd name with hlk|⟨tk,hlk,hlv⟩|⟨tk,hlk,hlv⟩|⟨tk,hlk,hlv⟩
 ·refine af.region (gK 1 [] [] ?_)
  refine NN (af.seq (SR (gK 5 [(10,.map (some (L.m d))),(11,.string name)] [(3,v_ 3 (br L hkd))] ?_)))
  refine iq 2 hkd hlk ?_
  refine gK 1 [(13,.bool false)] [] ?_
  refine NN (CF (af.skip (NX (af.seq (SR (gK 1 [(14,vP f)] [] ?_))))))
  refine gL [0,1] (EM S.X f m t L S.idx) ?_
  rintro _ _ ⟨rfl,rfl⟩
  refine gK 1 [(16,.bool (!(decide (((S.idx.length:Int) < S.X.cN/\S.X.last < 1099511627776/\S.X.ah < 8192)))))] [] ?_
  refine NN (af.cT (p:=((S.idx.length:Int) < S.X.cN/\S.X.last < 1099511627776/\S.X.ah < 8192)) (fun _=>by kernel_rfl) (fun ul=>?_) (fun ul=>?_))
  ·refine SR (gK 1 [(6,vI 177)] [] ?_)
   refine NN (af.ret (ai.ak ?_))
   exact RT (vI 177) [0,1,2,3,4] (⟨congrArg (Value.int .i64) (Eq.symm (show bZ S.X S.O S.idx d name=_ from (if_pos hlk).trans (if_neg ul))),rfl⟩)
  refine af.skip (NX (SR (gK 1 [(6,vI 0)] [] ?_)))
  refine NN (af.ret ?_)
  exact RT (vI 0) [0,1,2,3,4] (⟨congrArg (Value.int .i64) (Eq.symm (show bZ S.X S.O S.idx d name=_ from (if_pos hlk).trans (if_pos ul))),rfl⟩)
 ·have hkt:(obj S.O tk).kind=1:=hI.kind hlv
  refine af.region (gK 1 [] [] ?_)
  refine NN (af.seq (SR (gK 5 [(10,.map (some (L.m d))),(11,.string name)] [(3,v_ 3 (br L hkd))] ?_)))
  refine iq 2 hkd hlk ?_
  refine gK 1 [(13,.bool true)] [] ?_
  refine NN (CT (SR (gK 1 [(6,vI 171)] [] ?_)))
  refine NN (af.ret (ai.ak ?_))
  exact RT (vI 171) [0,1,2,3,4] (⟨congrArg (Value.int .i64) (Eq.symm (show bZ S.X S.O S.idx d name=_ from if_neg (by rw [hlk];simp))),rfl⟩)
 ·have hkt:(obj S.O tk).kind=2:=hI.kind hlv
  refine af.region (gK 1 [] [] ?_)
  refine NN (af.seq (SR (gK 5 [(10,.map (some (L.m d))),(11,.string name)] [(3,v_ 3 (br L hkd))] ?_)))
  refine iq 2 hkd hlk ?_
  refine gK 1 [(13,.bool true)] [] ?_
  refine NN (CT (SR (gK 1 [(6,vI 171)] [] ?_)))
  refine NN (af.ret (ai.ak ?_))
  exact RT (vI 171) [0,1,2,3,4] (⟨congrArg (Value.int .i64) (Eq.symm (show bZ S.X S.O S.idx d name=_ from if_neg (by rw [hlk];simp))),rfl⟩)
 have hkt:(obj S.O tk).kind=3:=hI.kind hlv
 refine af.region (gK 1 [] [] ?_)
 refine NN (af.seq (SR (gK 5 [(10,.map (some (L.m d))),(11,.string name)] [(3,v_ 3 (br L hkd))] ?_)))
 refine iq 2 hkd hlk ?_
 refine gK 1 [(13,.bool true)] [] ?_
 refine NN (CT (SR (gK 1 [(6,vI 171)] [] ?_)))
 refine NN (af.ret (ai.ak ?_))
 exact RT (vI 171) [0,1,2,3,4] (⟨congrArg (Value.int .i64) (Eq.symm (show bZ S.X S.O S.idx d name=_ from if_neg (by rw [hlk];simp))),rfl⟩)
theorem OA {β:Bs} (s:ByteArray) (hsz:s.size<=1048576) :
    Spec Tryz.prog β 167 #[.string s] [] (fun v l=>v=vI (mX s)/\l=[]):=by
 refine Spec.enter Tryz.func167 rfl Tryz.ntmps167 (Nat.le_of_ble_eq_true rfl) (fun R=>?_)
 refine SR (gK 1 [] [] ?_)
 refine NN (af.seq (af.block (SR ?_)))
 refine gK 3 [(3,.bool (decide ((s:ByteArray)=⟨#[]⟩)))] [(1,p_ ⟨[],none,none,none,some (.bool (decide ((s:ByteArray)=⟨#[]⟩)))⟩ [(Value.bool ((s:ByteArray).toList == (⟨#[]⟩:ByteArray).toList))=(.bool (decide ((s:ByteArray)=⟨#[]⟩)))] ⟨tW _ _,trivial⟩)] ?_
 refine NN (af.aZ (p:=(s:ByteArray)=⟨#[]⟩) (fun _=>by kernel_rfl) (fun h3=>?_) (fun h3=>?_))
 ·refine SR (gK 1 [(2,vI 90)] [] ?_)
  refine NN (af.ret (ai.aF (ai.ak ?_)))
  exact RT (vI 90) [0] (⟨congrArg (Value.int .i64) (Eq.symm (show mX s=_ from if_pos h3)),rfl⟩)
 refine SR (gK 4 [(6,.bool (decide (((((s:ByteArray).size:Nat):Int):Int) > (4096:Int))))] [] ?_)
 refine NN (af.aZ (p:=((((s:ByteArray).size:Nat):Int):Int) > (4096:Int)) (fun _=>by kernel_rfl) (fun h6=>?_) (fun h6=>?_))
 ·refine SR (gK 1 [(2,vI 93)] [] ?_)
  refine NN (af.ret (ai.aF (ai.ak ?_)))
  exact RT (vI 93) [0] (⟨congrArg (Value.int .i64) (Eq.symm (show mX s=_ from (if_neg h3).trans (if_pos (by omega)))),rfl⟩)
 refine SR (gK 1 [(11,.string s)] [] ?_)
 refine gL [] (F9 s) ?_
 rintro _ _ ⟨⟨x,rfl,hx⟩,rfl⟩
 refine gK 2 [(10,.bool (decide ((x:Int) ≥ (0:Int))))] [] ?_
 refine NN (af.aZ (p:=(x:Int) ≥ (0:Int)) (fun _=>by kernel_rfl) (fun h10=>?_) (fun h10=>?_))
 ·refine SR (gK 1 [(2,vI 91)] [] ?_)
  refine NN (af.ret (ai.aF (ai.ak ?_)))
  exact RT (vI 91) [0] (⟨congrArg (Value.int .i64) (Eq.symm (show mX s=_ from (if_neg h3).trans ((if_neg (by omega)).trans (if_neg (hx.1 (by omega)))))),rfl⟩)
 refine af.skip (ai.aN (NX (SR ?_)))
 refine gK 1 [(2,vI 0)] [] ?_
 refine NN (af.ret ?_)
 exact RT (vI 0) [0] (⟨congrArg (Value.int .i64) (Eq.symm (show mX s=_ from (if_neg h3).trans ((if_neg (by omega)).trans (if_pos (Classical.byContradiction (fun hn=>absurd (hx.2 hn) (by omega))))))),rfl⟩)
theorem sj {β:Bs} (S:aG) (L:HL) (f m t:Nat) (th:Th) (hkt:(obj S.O th.k).kind=th.kind) (h3:th.kind=1\/th.kind=2\/th.kind=3) (hop:0<=(obj S.O th.k).opens/\(obj S.O th.k).opens<=1048576) :
    Spec Tryz.prog β 121 #[vP f,(dz L th)] [pF f m t S.X,pT t S.X.cH S.ar L S.us,pO S.O L] (fun v l=>v=.tuple #[vI (cr S th).1,vI (cr S th).2.1]/\l=[pF f m t S.X,pT t S.X.cH ((cr S th).2.2.ar) L ((cr S th).2.2.us),pO ((cr S th).2.2.O) L]):=by
 refine Spec.enter Tryz.func121 rfl Tryz.ntmps121 (Nat.le_of_ble_eq_true rfl) (fun R=>?_)
 refine af.seq ?_
 obtain⟨tk,kd⟩:=th;simp only at hkt h3;rcases Int.lt_or_le (S.us.length:Int) S.X.cH with tq|tq<;>rcases h3 with e0|e0|e0<;>subst e0
 ·replace hkt:(obj S.O tk).kind=1:=hkt
  replace hop:0<=(obj S.O tk).opens/\(obj S.O tk).opens<=1048576:=hop
  refine af.region (gK 2 [] [] ?_)
  refine NS (gK 5 [(12,vP t),(13,.iface 129 (vP (L.b tk)))] [(3,a_ 0 f)] ?_)
  refine gL [1] ((zA t S.X.cH S.ar (aV L S.us) (dz L ⟨tk,1⟩) (by rw [o9];exact tq)).mono (fun v l h=>Co h)) ?_
  rintro _ _ ⟨rfl,rfl⟩
  refine gK 5 [(6,vI ((aE.least S.us))),(7,vI 0)] [] ?_
  refine NN (af.seq (SR (gK 2 [(18,.bool true)] [] ?_)))
  refine NN (CT (af.region (gK 1 [(19,.iface 129 (vP (L.b tk)))] [] ?_)))
  refine gL [] (cU (L.b tk)) ?_
  rintro _ _ ⟨rfl,rfl⟩
  refine gK 6 (PY S tk L) [(2,v_ 2 (jL L hkt)),(3,p_ ⟨[],none,none,none,some (vI ((obj S.O tk).opens+1))⟩ [(Value.int .i64 (IntKind.wrap .i64 ((obj S.O tk).opens+1)))=(.int .i64 ((obj S.O tk).opens+1))] ⟨bD (by omega) (by omega) (by omega),trivial⟩)] ?_
  refine rZ 2 [] tk 7 (fun o=>{ o with opens:=o.opens+1 }) hkt (fun cA ck=>?_)
  have Vl:=ku ck hkt
  refine NS (gK 4 [(4,vI ((aE.least S.us))),(5,vI 0)] [] ?_)
  refine NN (af.ret ?_)
  exact RT (l:=[pF f m t S.X,pT t S.X.cH (max S.ar ((S.us.length:Int)+1)) L (ins (aE.least S.us) ⟨tk,1⟩ S.us),pO cA L]) (.tuple #[vI ((aE.least S.us)),vI 0]) [1,0,2,3] (by subst ck;rw [show cr S ⟨tk,1⟩=_ from kG tq]<;>exact⟨rfl,rfl⟩)
 ·replace hkt:(obj S.O tk).kind=2:=hkt
  replace hop:0<=(obj S.O tk).opens/\(obj S.O tk).opens<=1048576:=hop
  refine af.region (gK 2 [] [] ?_)
  refine NS (gK 5 [(12,vP t),(13,.iface 135 (vP (L.b tk)))] [(3,a_ 0 f)] ?_)
  refine gL [1] ((zA t S.X.cH S.ar (aV L S.us) (dz L ⟨tk,2⟩) (by rw [o9];exact tq)).mono (fun v l h=>Co h)) ?_
  rintro _ _ ⟨rfl,rfl⟩
  refine gK 5 [(6,vI ((aE.least S.us))),(7,vI 0)] [] ?_
  refine NN (af.seq (SR (gK 2 [(18,.bool true)] [] ?_)))
  refine NN (CT (af.region (gK 1 [(19,.iface 135 (vP (L.b tk)))] [] ?_)))
  refine gL [] (cU (L.b tk)) ?_
  rintro _ _ ⟨rfl,rfl⟩
  refine gK 6 (PY S tk L) [(2,v_ 2 (jL L hkt)),(3,p_ ⟨[],none,none,none,some (vI ((obj S.O tk).opens+1))⟩ [(Value.int .i64 (IntKind.wrap .i64 ((obj S.O tk).opens+1)))=(.int .i64 ((obj S.O tk).opens+1))] ⟨bD (by omega) (by omega) (by omega),trivial⟩)] ?_
  refine rZ 2 [] tk 7 (fun o=>{ o with opens:=o.opens+1 }) hkt (fun cA ck=>?_)
  have Nv:=ku ck hkt
  refine NS (gK 4 [(4,vI ((aE.least S.us))),(5,vI 0)] [] ?_)
  refine NN (af.ret ?_)
  exact RT (l:=[pF f m t S.X,pT t S.X.cH (max S.ar ((S.us.length:Int)+1)) L (ins (aE.least S.us) ⟨tk,2⟩ S.us),pO cA L]) (.tuple #[vI ((aE.least S.us)),vI 0]) [1,0,2,3] (by subst ck;rw [show cr S ⟨tk,2⟩=_ from kG tq]<;>exact⟨rfl,rfl⟩)
 ·replace hkt:(obj S.O tk).kind=3:=hkt
  replace hop:0<=(obj S.O tk).opens/\(obj S.O tk).opens<=1048576:=hop
  refine af.region (gK 2 [] [] ?_)
  refine NS (gK 5 [(12,vP t),(13,.iface 132 (vP (L.b tk)))] [(3,a_ 0 f)] ?_)
  refine gL [1] ((zA t S.X.cH S.ar (aV L S.us) (dz L ⟨tk,3⟩) (by rw [o9];exact tq)).mono (fun v l h=>Co h)) ?_
  rintro _ _ ⟨rfl,rfl⟩
  refine gK 5 [(6,vI ((aE.least S.us))),(7,vI 0)] [] ?_
  refine NN (af.seq (SR (gK 2 [(18,.bool true)] [] ?_)))
  refine NN (CT (af.region (gK 1 [(19,.iface 132 (vP (L.b tk)))] [] ?_)))
  refine gL [] (cU (L.b tk)) ?_
  rintro _ _ ⟨rfl,rfl⟩
  refine gK 6 (PY S tk L) [(2,v_ 2 (jL L hkt)),(3,p_ ⟨[],none,none,none,some (vI ((obj S.O tk).opens+1))⟩ [(Value.int .i64 (IntKind.wrap .i64 ((obj S.O tk).opens+1)))=(.int .i64 ((obj S.O tk).opens+1))] ⟨bD (by omega) (by omega) (by omega),trivial⟩)] ?_
  refine rZ 2 [] tk 7 (fun o=>{ o with opens:=o.opens+1 }) hkt (fun cA ck=>?_)
  have DW:=ku ck hkt
  refine NS (gK 4 [(4,vI ((aE.least S.us))),(5,vI 0)] [] ?_)
  refine NN (af.ret ?_)
  exact RT (l:=[pF f m t S.X,pT t S.X.cH (max S.ar ((S.us.length:Int)+1)) L (ins (aE.least S.us) ⟨tk,3⟩ S.us),pO cA L]) (.tuple #[vI ((aE.least S.us)),vI 0]) [1,0,2,3] (by subst ck;rw [show cr S ⟨tk,3⟩=_ from kG tq]<;>exact⟨rfl,rfl⟩)
 ·replace hkt:(obj S.O tk).kind=1:=hkt
  replace hop:0<=(obj S.O tk).opens/\(obj S.O tk).opens<=1048576:=hop
  refine af.region (gK 2 [] [] ?_)
  refine NS (gK 5 [(12,vP t),(13,.iface 129 (vP (L.b tk)))] [(3,a_ 0 f)] ?_)
  refine gL [1] (wY t S.X.cH S.ar (aV L S.us) (dz L ⟨tk,1⟩) (by rw [o9];exact tq)) ?_
  rintro _ _ ⟨rfl,rfl⟩
  refine gK 5 [(6,vI 0),(7,vI 130)] [] ?_
  refine NN (af.seq (SR (gK 2 [(18,.bool false)] [] ?_)))
  refine NN (CF (af.skip (NX (SR (gK 4 [(4,vI 0),(5,vI 130)] [] ?_)))))
  refine NN (af.ret ?_)
  exact RT (.tuple #[vI 0,vI 130]) [1,0,2,3] (by skip;rw [show cr S ⟨tk,1⟩=_ from l6 (by omega)]<;>exact⟨rfl,rfl⟩)
 ·replace hkt:(obj S.O tk).kind=2:=hkt
  replace hop:0<=(obj S.O tk).opens/\(obj S.O tk).opens<=1048576:=hop
  refine af.region (gK 2 [] [] ?_)
  refine NS (gK 5 [(12,vP t),(13,.iface 135 (vP (L.b tk)))] [(3,a_ 0 f)] ?_)
  refine gL [1] (wY t S.X.cH S.ar (aV L S.us) (dz L ⟨tk,2⟩) (by rw [o9];exact tq)) ?_
  rintro _ _ ⟨rfl,rfl⟩
  refine gK 5 [(6,vI 0),(7,vI 130)] [] ?_
  refine NN (af.seq (SR (gK 2 [(18,.bool false)] [] ?_)))
  refine NN (CF (af.skip (NX (SR (gK 4 [(4,vI 0),(5,vI 130)] [] ?_)))))
  refine NN (af.ret ?_)
  exact RT (.tuple #[vI 0,vI 130]) [1,0,2,3] (by skip;rw [show cr S ⟨tk,2⟩=_ from l6 (by omega)]<;>exact⟨rfl,rfl⟩)
 replace hkt:(obj S.O tk).kind=3:=hkt
 replace hop:0<=(obj S.O tk).opens/\(obj S.O tk).opens<=1048576:=hop
 refine af.region (gK 2 [] [] ?_)
 refine NS (gK 5 [(12,vP t),(13,.iface 132 (vP (L.b tk)))] [(3,a_ 0 f)] ?_)
 refine gL [1] (wY t S.X.cH S.ar (aV L S.us) (dz L ⟨tk,3⟩) (by rw [o9];exact tq)) ?_
 rintro _ _ ⟨rfl,rfl⟩
 refine gK 5 [(6,vI 0),(7,vI 130)] [] ?_
 refine NN (af.seq (SR (gK 2 [(18,.bool false)] [] ?_)))
 refine NN (CF (af.skip (NX (SR (gK 4 [(4,vI 0),(5,vI 130)] [] ?_)))))
 refine NN (af.ret ?_)
 exact RT (.tuple #[vI 0,vI 130]) [1,0,2,3] (by skip;rw [show cr S ⟨tk,3⟩=_ from l6 (by omega)]<;>exact⟨rfl,rfl⟩)
theorem dZ {β:Bs} (S:aG) (L:HL) (f m t:Nat) (hI:Inv S) (h:Int) (hw:(Lit.int .i64 h).wf=true) (name:ByteArray) (hsz:name.size<=1048576) (need:Int) :
    Spec Tryz.prog β 123 #[vP f,vI (h),.string name,vI (need)] [pF f m t S.X,pT t S.X.cH S.ar L S.us,pO S.O L] (fun v l=>v=Ty L (dU S.O S.us h name need)/\l=[pF f m t S.X,pT t S.X.cH S.ar L S.us,pO S.O L]):=by
 refine Spec.enter Tryz.func123 rfl Tryz.ntmps123 (Nat.le_of_ble_eq_true rfl) (fun R=>?_)
 refine af.seq ?_
 rcases hI.hand h with dx|⟨tk,dx,hlv⟩|⟨tk,dx,hlv⟩
 ·refine af.region (gK 2 [] [] ?_)
  refine NS (gK 5 [(18,vP t),(19,vI (h))] [(3,a_ 0 f)] ?_)
  refine gL [1] (qo t S.X.cH S.ar (aV L S.us) h hw (pq dx)) ?_
  rintro _ _ ⟨rfl,rfl⟩
  refine gK 5 [(10,.nilIface),(11,vI 131)] [] ?_
  refine NN (af.seq (SR (gK 2 [(24,.bool true)] [] ?_)))
  refine NN (CT (SR (gK 3 [(8,.pointer none),(9,vI 131)] [] ?_)))
  refine NN (af.ret (ai.ak ?_))
  exact RT (.tuple #[.pointer none,vI 131]) [1,0,2,3] (⟨by rw [show dU S.O S.us h name need=.error 131 by unfold dU;rw [dx]];rfl,rfl⟩)
 ·have hkt:(obj S.O tk).kind=1:=hI.kind hlv
  refine af.region (gK 2 [] [] ?_)
  refine NS (gK 5 [(18,vP t),(19,vI (h))] [(3,a_ 0 f)] ?_)
  refine gL [1] (kT t S.X.cH S.ar (aV L S.us) h hw (dz L ⟨tk,1⟩) (j3 dx)) ?_
  rintro _ _ ⟨rfl,rfl⟩
  refine gK 5 [(10,.iface 129 (vP (L.b tk))),(11,vI 0)] [] ?_
  refine NN (af.seq (SR (gK 2 [(24,.bool false)] [] ?_)))
  refine NN (CF (af.skip (NX (SR (gK 7 [(12,.pointer none),(13,.bool false)] [] ?_)))))
  refine NN (af.seq (af.block (SR ?_)))
  refine gK 3 [(31,.bool true)] [] ?_
  refine NN (CT (SR (gK 2 [(8,.pointer none),(9,vI 173)] [] ?_)))
  refine NN (af.ret (ai.aF (ai.ak ?_)))
  exact RT (.tuple #[.pointer none,vI 173]) [1,0,2,3] (⟨by rw [show dU S.O S.us h name need=.error 173 by unfold dU;rw [dx];exact if_neg (by simp)];rfl,rfl⟩)
 have hkt:(obj S.O tk).kind=2:=hI.kind hlv
 refine af.region (gK 2 [] [] ?_)
 refine NS (gK 5 [(18,vP t),(19,vI (h))] [(3,a_ 0 f)] ?_)
 refine gL [1] (kT t S.X.cH S.ar (aV L S.us) h hw (dz L ⟨tk,2⟩) (j3 dx)) ?_
 rintro _ _ ⟨rfl,rfl⟩
 refine gK 5 [(10,.iface 135 (vP (L.b tk))),(11,vI 0)] [] ?_
 refine NN (af.seq (SR (gK 2 [(24,.bool false)] [] ?_)))
 refine NN (CF (af.skip (NX (SR (gK 7 [(12,vP (L.b tk)),(13,.bool true)] [] ?_)))))
 refine NN (af.seq (af.block (SR ?_)))
 refine gK 3 [(31,.bool false)] [] ?_
 refine NN (CF (SR (gK 6 [(34,.bool (obj S.O tk).gone)] [(4,v_ 2 (nw L hkt))] ?_)))
 refine NN (af.cond (b:=(obj S.O tk).gone) (fun _=>by kernel_rfl) (fun yP=>?_) (fun yP=>?_))
 ·refine SR (gK 2 [(8,.pointer none),(9,vI 170)] [] ?_)
  refine NN (af.ret (ai.aF (ai.ak ?_)))
  exact RT (.tuple #[.pointer none,vI 170]) [1,0,2,3] (⟨by rw [show dU S.O S.us h name need=.error 170 by unfold dU;rw [dx];exact (if_pos rfl).trans (if_pos yP)];rfl,rfl⟩)
 refine SR (gK 1 [(41,.string name)] [] ?_)
 refine gL [] (rW name hsz) ?_
 rintro _ _ ⟨rfl,rfl⟩
 refine gK 2 [(40,.bool (!(decide (bI name))))] [] ?_
 refine NN (af.cT (p:=bI name) (fun _=>by kernel_rfl) (fun NC=>?_) (fun NC=>?_))
 ·refine SR (gK 2 [(8,.pointer none),(9,vI 95)] [] ?_)
  refine NN (af.ret (ai.aF (ai.ak ?_)))
  exact RT (.tuple #[.pointer none,vI 95]) [1,0,2,3] (⟨by rw [show dU S.O S.us h name need=.error 95 by unfold dU;rw [dx];exact (if_pos rfl).trans ((if_neg (by rw [yP];decide)).trans (if_neg NC))];rfl,rfl⟩)
 refine SR (gK 10 [(44,.bool (!(decide ((bits BinOp.and .i64 ((obj S.O tk).mode) need:Int)=(need:Int)))))] [(4,v_ 2 (rY L hkt))] ?_)
 refine NN (af.cT (p:=(bits BinOp.and .i64 ((obj S.O tk).mode) need:Int)=(need:Int)) (fun _=>by kernel_rfl) (fun JE=>?_) (fun JE=>?_))
 ·refine SR (gK 2 [(8,.pointer none),(9,vI 175)] [] ?_)
  refine NN (af.ret (ai.aF (ai.ak ?_)))
  exact RT (.tuple #[.pointer none,vI 175]) [1,0,2,3] (⟨by rw [show dU S.O S.us h name need=.error 175 by unfold dU;rw [dx];exact (if_pos rfl).trans ((if_neg (by rw [yP];decide)).trans ((if_pos NC).trans (if_neg JE)))];rfl,rfl⟩)
 refine af.skip (ai.aN (NX (SR ?_)))
 refine gK 3 [(8,vP (L.b tk)),(9,vI 0)] [] ?_
 refine NN (af.ret ?_)
 exact RT (.tuple #[vP (L.b tk),vI 0]) [1,0,2,3] (⟨by rw [show dU S.O S.us h name need=.ok tk by unfold dU;rw [dx];exact (if_pos rfl).trans ((if_neg (by rw [yP];decide)).trans ((if_pos NC).trans (if_pos JE)))];rfl,rfl⟩)
theorem OB {β:Bs} (X:FM) (f m t:Nat) (hX:0<=X.ah/\X.ah<=1048576/\-1125899906842624<=X.used/\X.used<=1125899906842624/\0<=X.last/\X.last<=1125899906842624) (O:bY) (L:HL) (d:Nat) (hkd:(obj O d).kind=2) (name:ByteArray) (hsz:name.size<=1048576) (hno:aT name (obj O d).ah=none) (hel:(obj O d).ah.length<=1048576) (idx:Used Th) (hil:idx.length<=1048576) (th:Th) (hkt:(obj O th.k).kind=th.kind) (h3:th.kind=1\/th.kind=2\/th.kind=3) (hb:0<=(obj O th.k).links/\(obj O th.k).links<=1048576) (hni:aE.get idx (obj O th.k).id=none) (hw:(Lit.int .i64 (obj O th.k).id).wf=true) :
    Spec Tryz.prog β 127 #[vP f,vP (L.b d),.string name,(dz L th)] [pF f m t X,pI m L idx,pO O L,pE O L] (fun v l=>v=.tuple #[]/\l=[pF f m t { X with ah:=X.ah+1 },pI m L (ins (obj O th.k).id th idx),pO (cR X O d name th) L,pE (cR X O d name th) L]):=by
 refine Spec.enter Tryz.func127 rfl Tryz.ntmps127 (Nat.le_of_ble_eq_true rfl) (fun R=>?_)
 refine af.seq ?_
 obtain⟨tk,kd⟩:=th;simp only at hkt h3;rcases h3 with rfl|rfl|rfl
 ·replace hkt:(obj O tk).kind=1:=hkt
  replace hni:aE.get idx (obj O tk).id=none:=hni
  replace hw:(Lit.int .i64 (obj O tk).id).wf=true:=hw
  refine af.bP (S:=(vT f m t X L idx O R)) [0,1,2,3,4,9,5,6,7,8,10] 6 [0,1,2,3,4] (by kernel_rfl) (by kernel_rfl) rfl (by kernel_rfl) ?_
  refine gR 0 [5,6,7,8,10] (EQ f L d name++[(3,.iface 129 (vP (L.b tk))),(11,.map (some m)),(12,.iface 129 (vP (L.b tk))),(17,.iface 129 (vP (L.b tk)))]) [0,1,2,3,4,9] [(3,a_ 0 f)] ?_
  refine mL [0,1,2,3,4] [] (cU (L.b tk)) ?_ (by rintro _ _ ⟨rfl,rfl⟩;rfl)
  rintro _ _ ⟨rfl,rfl⟩
  refine aL.cut (ι:=Unit) (fr':=fun (_:Unit)=>(AP f L d name++[(3,.iface 129 (vP (L.b tk))),(11,.map (some m)),(14,vP (L.b tk)),(17,.iface 129 (vP (L.b tk)))])) (hp':=fun (_:Unit)=>(vT f m t X L idx O R)) [0,1,2,3,4] rfl rfl ?_ rfl (fun _=>by kernel_rfl) ?_
  ·refine gK 1 [(14,vP (L.b tk))] [] ?_
   refine NL ?_
   exact MD () [0,1,2,3,11,14,17] [0,1,2,3,4]
  rintro _
  refine aL.cut (ι:=Unit) (fr':=fun (_:Unit)=>(AP f L d name++[(3,.iface 129 (vP (L.b tk))),(11,.map (some m)),(15,vP (L.b tk)),(17,.iface 129 (vP (L.b tk)))])) (hp':=fun (_:Unit)=>(vT f m t X L idx O R)) [0,1,2,3,4] rfl rfl ?_ rfl (fun _=>by kernel_rfl) ?_
  ·refine gK 1 [(15,vP (L.b tk))] [] ?_
   refine NL ?_
   exact MD () [0,1,2,3,11,15,17] [0,1,2,3,4]
  rintro _
  refine aL.cut (ι:=Unit) (fr':=fun (_:Unit)=>(AP f L d name++[(3,.iface 129 (vP (L.b tk))),(11,.map (some m)),(16,vI ((obj O tk).id)),(17,.iface 129 (vP (L.b tk)))])) (hp':=fun (_:Unit)=>(vT f m t X L idx O R)) [0,1,2,3,4] rfl rfl ?_ rfl (fun _=>by kernel_rfl) ?_
  ·refine gK 1 [(16,vI ((obj O tk).id))] [(0,v_ 2 (qC L hkt))] ?_
   refine NL ?_
   exact MD () [0,1,2,3,11,16,17] [0,1,2,3,4]
  rintro _
  refine aL.last rfl rfl ?_
  refine aj.j8 1 (d:=none) (t:=120) (K:=3) (E:=124) (b:=m) (n:=idx.length) (f:=(aW (aV L idx))) (x:=(.tmp 11)) (ix:=(.tmp 16)) (y:=(.tmp 17)) (key:=.int .i64 ((obj O tk).id)) (u:=.iface 129 (vP (L.b tk))) (kl:=(.int .i64 (obj O tk).id)) (n':=(idx.length+1)) (f':=(aW (aV L (ins (obj O tk).id ⟨tk,1⟩ idx)))) (fun _=>by kernel_rfl) (by kernel_rfl) (fun _=>by kernel_rfl) (fun _=>by kernel_rfl) (fun _=>by kernel_rfl) dQ Tryz.underlying120 (by unfold maxLen;omega) (gS hw) (by rw [eW,hni];rfl) (rN (L:=L) (t:=⟨tk,1⟩) hni) ?_
  refine NL (ai.np (NX (af.region ?_)))
  refine gK 4 (PW f L d name++[(21,.iface 129 (vP (L.b tk)))]) [] ?_
  refine gL [0,2,3] (iA X f m t hX O L d hkd name hsz hno hel ⟨tk,1⟩ hkt (by simp) hb) ?_
  rintro _ _ ⟨rfl,rfl⟩
  refine NL (ai.dh [(3,.abs (aJ Tryz.prog 3 m (aW (aV L (ins (obj O tk).id ⟨tk,1⟩ idx))) ((ins (obj O tk).id ⟨tk,1⟩ idx).length)))] (fun w hS=>by rw [show (ins (obj O tk).id ⟨tk,1⟩ idx).length=idx.length+1 from iI _ _ _];exact hS) ?_)
  exact RF (.tuple #[]) [0,3,1,2,4] (⟨rfl,rfl⟩)
 ·replace hkt:(obj O tk).kind=2:=hkt
  replace hni:aE.get idx (obj O tk).id=none:=hni
  replace hw:(Lit.int .i64 (obj O tk).id).wf=true:=hw
  refine af.bP (S:=(vT f m t X L idx O R)) [0,1,2,3,4,9,5,6,7,8,10] 6 [0,1,2,3,4] (by kernel_rfl) (by kernel_rfl) rfl (by kernel_rfl) ?_
  refine gR 0 [5,6,7,8,10] (EQ f L d name++[(3,.iface 135 (vP (L.b tk))),(11,.map (some m)),(12,.iface 135 (vP (L.b tk))),(17,.iface 135 (vP (L.b tk)))]) [0,1,2,3,4,9] [(3,a_ 0 f)] ?_
  refine mL [0,1,2,3,4] [] (cU (L.b tk)) ?_ (by rintro _ _ ⟨rfl,rfl⟩;rfl)
  rintro _ _ ⟨rfl,rfl⟩
  refine aL.cut (ι:=Unit) (fr':=fun (_:Unit)=>(AP f L d name++[(3,.iface 135 (vP (L.b tk))),(11,.map (some m)),(14,vP (L.b tk)),(17,.iface 135 (vP (L.b tk)))])) (hp':=fun (_:Unit)=>(vT f m t X L idx O R)) [0,1,2,3,4] rfl rfl ?_ rfl (fun _=>by kernel_rfl) ?_
  ·refine gK 1 [(14,vP (L.b tk))] [] ?_
   refine NL ?_
   exact MD () [0,1,2,3,11,14,17] [0,1,2,3,4]
  rintro _
  refine aL.cut (ι:=Unit) (fr':=fun (_:Unit)=>(AP f L d name++[(3,.iface 135 (vP (L.b tk))),(11,.map (some m)),(15,vP (L.b tk)),(17,.iface 135 (vP (L.b tk)))])) (hp':=fun (_:Unit)=>(vT f m t X L idx O R)) [0,1,2,3,4] rfl rfl ?_ rfl (fun _=>by kernel_rfl) ?_
  ·refine gK 1 [(15,vP (L.b tk))] [] ?_
   refine NL ?_
   exact MD () [0,1,2,3,11,15,17] [0,1,2,3,4]
  rintro _
  refine aL.cut (ι:=Unit) (fr':=fun (_:Unit)=>(AP f L d name++[(3,.iface 135 (vP (L.b tk))),(11,.map (some m)),(16,vI ((obj O tk).id)),(17,.iface 135 (vP (L.b tk)))])) (hp':=fun (_:Unit)=>(vT f m t X L idx O R)) [0,1,2,3,4] rfl rfl ?_ rfl (fun _=>by kernel_rfl) ?_
  ·refine gK 1 [(16,vI ((obj O tk).id))] [(0,v_ 2 (qC L hkt))] ?_
   refine NL ?_
   exact MD () [0,1,2,3,11,16,17] [0,1,2,3,4]
  rintro _
  refine aL.last rfl rfl ?_
  refine aj.j8 1 (d:=none) (t:=120) (K:=3) (E:=124) (b:=m) (n:=idx.length) (f:=(aW (aV L idx))) (x:=(.tmp 11)) (ix:=(.tmp 16)) (y:=(.tmp 17)) (key:=.int .i64 ((obj O tk).id)) (u:=.iface 135 (vP (L.b tk))) (kl:=(.int .i64 (obj O tk).id)) (n':=(idx.length+1)) (f':=(aW (aV L (ins (obj O tk).id ⟨tk,2⟩ idx)))) (fun _=>by kernel_rfl) (by kernel_rfl) (fun _=>by kernel_rfl) (fun _=>by kernel_rfl) (fun _=>by kernel_rfl) dQ Tryz.underlying120 (by unfold maxLen;omega) (gS hw) (by rw [eW,hni];rfl) (rN (L:=L) (t:=⟨tk,2⟩) hni) ?_
  refine NL (ai.np (NX (af.region ?_)))
  refine gK 4 (PW f L d name++[(21,.iface 135 (vP (L.b tk)))]) [] ?_
  refine gL [0,2,3] (iA X f m t hX O L d hkd name hsz hno hel ⟨tk,2⟩ hkt (by simp) hb) ?_
  rintro _ _ ⟨rfl,rfl⟩
  refine NL (ai.dh [(3,.abs (aJ Tryz.prog 3 m (aW (aV L (ins (obj O tk).id ⟨tk,2⟩ idx))) ((ins (obj O tk).id ⟨tk,2⟩ idx).length)))] (fun w hS=>by rw [show (ins (obj O tk).id ⟨tk,2⟩ idx).length=idx.length+1 from iI _ _ _];exact hS) ?_)
  exact RF (.tuple #[]) [0,3,1,2,4] (⟨rfl,rfl⟩)
 replace hkt:(obj O tk).kind=3:=hkt
 replace hni:aE.get idx (obj O tk).id=none:=hni
 replace hw:(Lit.int .i64 (obj O tk).id).wf=true:=hw
 refine af.bP (S:=(vT f m t X L idx O R)) [0,1,2,3,4,9,5,6,7,8,10] 6 [0,1,2,3,4] (by kernel_rfl) (by kernel_rfl) rfl (by kernel_rfl) ?_
 refine gR 0 [5,6,7,8,10] (EQ f L d name++[(3,.iface 132 (vP (L.b tk))),(11,.map (some m)),(12,.iface 132 (vP (L.b tk))),(17,.iface 132 (vP (L.b tk)))]) [0,1,2,3,4,9] [(3,a_ 0 f)] ?_
 refine mL [0,1,2,3,4] [] (cU (L.b tk)) ?_ (by rintro _ _ ⟨rfl,rfl⟩;rfl)
 rintro _ _ ⟨rfl,rfl⟩
 refine aL.cut (ι:=Unit) (fr':=fun (_:Unit)=>(AP f L d name++[(3,.iface 132 (vP (L.b tk))),(11,.map (some m)),(14,vP (L.b tk)),(17,.iface 132 (vP (L.b tk)))])) (hp':=fun (_:Unit)=>(vT f m t X L idx O R)) [0,1,2,3,4] rfl rfl ?_ rfl (fun _=>by kernel_rfl) ?_
 ·refine gK 1 [(14,vP (L.b tk))] [] ?_
  refine NL ?_
  exact MD () [0,1,2,3,11,14,17] [0,1,2,3,4]
 rintro _
 refine aL.cut (ι:=Unit) (fr':=fun (_:Unit)=>(AP f L d name++[(3,.iface 132 (vP (L.b tk))),(11,.map (some m)),(15,vP (L.b tk)),(17,.iface 132 (vP (L.b tk)))])) (hp':=fun (_:Unit)=>(vT f m t X L idx O R)) [0,1,2,3,4] rfl rfl ?_ rfl (fun _=>by kernel_rfl) ?_
 ·refine gK 1 [(15,vP (L.b tk))] [] ?_
  refine NL ?_
  exact MD () [0,1,2,3,11,15,17] [0,1,2,3,4]
 rintro _
 refine aL.cut (ι:=Unit) (fr':=fun (_:Unit)=>(AP f L d name++[(3,.iface 132 (vP (L.b tk))),(11,.map (some m)),(16,vI ((obj O tk).id)),(17,.iface 132 (vP (L.b tk)))])) (hp':=fun (_:Unit)=>(vT f m t X L idx O R)) [0,1,2,3,4] rfl rfl ?_ rfl (fun _=>by kernel_rfl) ?_
 ·refine gK 1 [(16,vI ((obj O tk).id))] [(0,v_ 2 (qC L hkt))] ?_
  refine NL ?_
  exact MD () [0,1,2,3,11,16,17] [0,1,2,3,4]
 rintro _
 refine aL.last rfl rfl ?_
 refine aj.j8 1 (d:=none) (t:=120) (K:=3) (E:=124) (b:=m) (n:=idx.length) (f:=(aW (aV L idx))) (x:=(.tmp 11)) (ix:=(.tmp 16)) (y:=(.tmp 17)) (key:=.int .i64 ((obj O tk).id)) (u:=.iface 132 (vP (L.b tk))) (kl:=(.int .i64 (obj O tk).id)) (n':=(idx.length+1)) (f':=(aW (aV L (ins (obj O tk).id ⟨tk,3⟩ idx)))) (fun _=>by kernel_rfl) (by kernel_rfl) (fun _=>by kernel_rfl) (fun _=>by kernel_rfl) (fun _=>by kernel_rfl) dQ Tryz.underlying120 (by unfold maxLen;omega) (gS hw) (by rw [eW,hni];rfl) (rN (L:=L) (t:=⟨tk,3⟩) hni) ?_
 refine NL (ai.np (NX (af.region ?_)))
 refine gK 4 (PW f L d name++[(21,.iface 132 (vP (L.b tk)))]) [] ?_
 refine gL [0,2,3] (iA X f m t hX O L d hkd name hsz hno hel ⟨tk,3⟩ hkt (by simp) hb) ?_
 rintro _ _ ⟨rfl,rfl⟩
 refine NL (ai.dh [(3,.abs (aJ Tryz.prog 3 m (aW (aV L (ins (obj O tk).id ⟨tk,3⟩ idx))) ((ins (obj O tk).id ⟨tk,3⟩ idx).length)))] (fun w hS=>by rw [show (ins (obj O tk).id ⟨tk,3⟩ idx).length=idx.length+1 from iI _ _ _];exact hS) ?_)
 exact RF (.tuple #[]) [0,3,1,2,4] (⟨rfl,rfl⟩)
end
section
open Go.RowKit Go.Maps bG aE
structure tu (O:bY) (idx us:Used Th) (k:Nat):Prop where
  up:∀ x,(obj O x).up≠some k
  ah:∀ x,∀ e∈(obj O x).ah,e.2.k≠k
  idx:∀ p∈idx,p.2.k≠k
  us:∀ p∈us,p.2.k≠k
section fresh
variable {S:aG} {O:bY} {idx us:Used Th} {L L':HL} {k b m c:Nat} {A:Option Addr} {o:aR} {t:Th}
theorem pz (h:Inv0 S):(aO S.X:Int)=S.X.last+1:=by
  have:=h.last
  unfold aO
  omega
theorem Inv0.uo (h:Inv0 S) (ht:Live S.idx t):t.k≠aO S.X:=h.free (by have:=pz h;omega) ht
theorem Inv0.Cs (h:Inv0 S) (hk:S.X.last < (k:Int)):tu S.O S.idx S.us k:=by
  have key:∀ x,(∃ t,Live S.idx t/\t.k=x)\/(obj S.O x).ah=[]/\(obj S.O x).up=none:=fun x=>by
    by_cases hx:∃ t,Live S.idx t/\t.k=x
    ·exact .inl hx
    exact .inr (h.dead x (fun t ht e=>hx ⟨t,ht,e⟩))
  refine⟨fun x e=>?_,fun x e he=>?_,fun p hp=>?_,fun p hp=>?_⟩
  ·rcases key x with ⟨t,ht,rfl⟩|hx
   ·obtain⟨_,h2,_⟩:=(h.up t ht _).1 e
    exact h.free hk h2 rfl
   rw [hx.2] at e;cases e
  ·rcases key x with ⟨t,ht,rfl⟩|hx
   ·exact h.free hk (h.ah t ht e he).2
   rw [hx.1] at he;cases he
  ·exact h.free hk (h.live (mK h.rise hp))
  exact h.free hk (h.us _ _ (mK h.usr hp)).1
theorem Inv0.fresh (h:Inv0 S):tu S.O S.idx S.us (aO S.X):=h.Cs (by have:=pz h;omega)
theorem vl (hL:L'=L.put k b m A c) {x:Nat} (h:x≠k):L'.b x=L.b x:=by subst hL;exact if_neg h
theorem AQ (hL:L'=L.put k b m A c):L'.b k=b:=by subst hL;exact if_pos rfl
theorem ER (hL:L'=L.put k b m A c):L'.m k=m:=by subst hL;exact if_pos rfl
theorem Ke (hL:L'=L.put k b m A c) (h:t.k≠k):dz L' t=dz L t:=by unfold dz;rw [vl hL h]
theorem ol (hL:L'=L.put k b m A c) (kind:Int):dz L' ⟨k,kind⟩=.iface (R8 kind) (.pointer (some ⟨b,0,none⟩)):=by unfold dz;rw [AQ hL]
theorem gn (hL:L'=L.put k b m A c) (h:∀ p∈us,p.2.k≠k):aV L' us=aV L us:=List.map_congr_left (fun p hp=>by rw [Ke hL (h p hp)])
theorem LZ {es:eY Th} {n:ByteArray} (h:∀ e∈es,e.2.k≠k) (e:aT n es=some t):t.k≠k:=h _ (lW e)
theorem L4 (hL:L'=L.put k b m A c) {es:eY Th} (h:∀ e∈es,e.2.k≠k):iD L' es=iD L es:=by
  unfold iD
  congr 1
  funext n
  cases e:aT n es with
  | none=>rfl
  | some t=>exact congrArg some (Ke hL (LZ h e))
theorem GV (hL:L'=L.put k b m A c) (hf:tu O idx us k) {x:Nat} (h:x≠k):bB O L' x=bB O L x:=by
  have e1:=vl hL h
  have e2:fY L' x (obj O x)=fY L x (obj O x):=by
    unfold fY x5
    have h1:tZ L' (obj O x).up=tZ L (obj O x).up:=by
      cases hu:(obj O x).up with
      | none=>rfl
      | some d=>show Value.pointer _=Value.pointer _;rw [vl hL (fun e=>hf.up x (by rw [hu,e]))]
    rw [h1]
    subst hL
    simp only [HL.put,if_neg h]
  unfold bB
  rw [e1,e2]
theorem Ct (hL:L'=L.put k b m A c) (hf:tu O idx us k) {x:Nat} (h:x≠k):bV O L' x=bV O L x:=by
  unfold bV
  rw [L4 hL (hf.ah x)]
  subst hL
  simp only [HL.put,if_neg h]
theorem yh (hL:L'=L.put k b m A c) {x:Nat} (h:x≠k):bC O L' x=bC O L x:=by
  unfold bC
  subst hL
  simp only [HL.put,if_neg h]
end fresh
theorem su {O O':bY} {L:HL} (h1:∀ x,(obj O' x).data=(obj O x).data) (h2:∀ x,(obj O' x).kind=(obj O x).kind):bC O' L=bC O L:=by
  funext x
  unfold bC
  rw [h1,h2]
theorem gV {X:FM} {O:bY} {L:HL} {d:Nat} {name:ByteArray} {t:Th}:bC (cR X O d name t) L=bC O L:=
  su (fun _=>mO (g:=aR.data) (fun _ _=>rfl) (fun _ _=>rfl) (fun _ _ _=>rfl) (fun _ _=>rfl)) (fun _=>F5)
theorem jR {X:FM} {O:bY} {L:HL} {d:Nat} {name:ByteArray} {t:Th}:bC (aQ X O d name t) L=bC O L:=
  su (fun _=>dw (g:=aR.data) (fun _ _=>rfl) (fun _ _=>rfl) (fun _ _ _=>rfl)) (fun _=>cG)
theorem pG {α:Type} {g:aR->α} {O:bY} {k j:Nat} (h:∀ o b,g { o with gone:=b }=g o):g (obj (pY O j) k)=g (obj O k):=dH (f:=fun o=>{ o with gone:=true }) (fun o=>h o true)
theorem L5 {O:bY} {L:HL} {k:Nat}:bC (pY O k) L=bC O L:=su (fun _=>pG (g:=aR.data) (fun _ _=>rfl)) (fun _=>pG (g:=aR.kind) (fun _ _=>rfl))
theorem nP {S:aG} {L:HL} {d:Nat} {name:ByteArray} {t:Th}:bC (aI S d name t).O L=bC S.O L:=by
  unfold aI
  simp only
  split
  ·exact L5.trans jR
  exact jR
theorem AR {S:aG} {d k:Nat} {name:ByteArray} {t:Th}:(obj (aI S d name t).O k).kind=(obj S.O k).kind:=by
  unfold aI
  simp only
  split
  ·exact (pG (g:=aR.kind) (fun _ _=>rfl)).trans cG
  exact cG
theorem om {X:FM} {O:bY} {idx:Used Th} {d:Nat} {name:ByteArray} (h:bZ X O idx d name=0):aT name (obj O d).ah=none:=by
  unfold bZ at h
  split at h
  ·assumption
  cases h
theorem tO {X:FM} {O:bY} {idx:Used Th} {d:Nat} {name:ByteArray} (h:bZ X O idx d name=0):Room X idx:=by
  unfold bZ at h
  split at h
  ·split at h
   ·assumption
   cases h
  cases h
theorem pZ {X:FM} {O:bY} {idx:Used Th} {d:Nat} {name:ByteArray} (h:bZ X O idx d name=0):X.last < 1099511627776:=(tO h).2.1
section sat
variable {β:Bs} {l l':List HP} {w:World} {i j k b m c:Nat} {O:bY} {us:Used Th} {idx' us':Used Th} {L L':HL} {cs:List Value} {T:TypeId} {ix:List Nat} {A:Option Addr} {o:aR} {R R':Nat->cu}
theorem Sat.less {p p':HP} (h:Sat β l w) (hp:l[i]?=some p) (hs:∀ F,p.h F w->∃ F',p'.h F' w/\∀ x,F' x->F x):Sat β (l.set i p') w:=
  h.set hp (fun F hF=>let ⟨F',h1,h2⟩:=hs F hF;⟨F',h1,⟨Keeps.refl _ _,fun k hk=>.inl (h2 k hk)⟩⟩)
theorem Sat.xw (h:Sat β l w) (hp:l[i]?=some (.abs (ax R))) (k:Nat) (hR:∀ x,x≠k->R' x=R x) (ha:R' k=cu.none):Sat β (l.set i (.abs (ax R'))) w:=by
  refine h.less hp ?_
  rintro F ⟨φ,h1,h2,h3⟩
  refine⟨fun x=>∃ i,i≠k/\φ i x,⟨fun i=>if i=k then fun _=>False else φ i,fun i=>?_,fun i j hne x hx hy=>?_,fun x=>⟨fun ⟨i,hne,hx⟩=>⟨i,by simpa [hne] using hx⟩,fun ⟨i,hx⟩=>?_⟩⟩,fun x ⟨i,_,hx⟩=>(h3 x).2 ⟨i,hx⟩⟩
  ·by_cases e:i=k
   ·subst e;simp only [if_true];rw [ha];exact fun _ h=>h
   simp only [e,if_false];rw [hR i e];exact h1 i
  ·by_cases e1:i=k
   ·simp [e1] at hx
   by_cases e2:j=k
   ·simp [e2] at hy
   exact h2 i j hne x (by simpa [e1] using hx) (by simpa [e2] using hy)
  by_cases e1:i=k
  ·simp [e1] at hx
  exact⟨i,e1,by simpa [e1] using hx⟩
theorem Sat.tv (h:Sat β l w) (hL:L'=L.put k b m A c) (hf:tu O idx' us' k) (hp:l[i]?=some (.abs (ax (bB O L)))) (hq:l[j]?=some (.blk b cs T)) (hd:bq (i::j::ix)=true) (hl:bT l ix=some l') (h0:o.kind≠0) (hc:fY L' k o=cs) (hT:jZ o.kind=T):Sat β (.abs (ax (bB (aD O k (fun _=>o)) L'))::l') w:=by
  refine h.pX (a:=zu b cs T) hp hq (fun _ _ h=>h) hd hl k (fun x hx=>?_) (by rw [t6,if_neg h0,hc,hT,AQ hL])
  rw [t7 hx,GV hL hf hx]
theorem Sat.ND (h:Sat β l w) (hL:L'=L.put k b m A c) (hf:tu O idx' us' k) (hp:l[i]?=some (.abs (ax (bV O L)))) (hq:l[j]?=some (.abs (aJ Tryz.prog 9 m (fun _=>none) 0))) (hd:bq (i::j::ix)=true) (hl:bT l ix=some l') (h2:o.kind=2) (he:o.ah=[]):Sat β (.abs (ax (bV (aD O k (fun _=>o)) L'))::l') w:=by
  refine h.pX hp hq (fun _ _ h=>h) hd hl k (fun x hx=>by rw [wN hx,Ct hL hf hx]) ?_
  rw [oe (by rw [bL];exact h2),bL,he,Lw,ER hL];rfl
theorem Sat.uq (h:Sat β l w) (hL:L'=L.put k b m A c) (hf:tu O idx' us' k) (hp:l[i]?=some (.abs (ax (bV O L)))) (h2:o.kind≠2):Sat β (l.set i (.abs (ax (bV (aD O k (fun _=>o)) L')))) w:=by
  refine h.xw hp k (fun x hx=>by rw [wN hx,Ct hL hf hx]) ?_
  unfold bV;rw [bL,if_neg h2]
theorem Sat.AU (h:Sat β l w) (hL:L'=L.put k b m A c) (hp:l[i]?=some (.abs (ax (bC O L)))) (h1:o.kind≠1):Sat β (l.set i (.abs (ax (bC (aD O k (fun _=>o)) L')))) w:=by
  refine h.xw hp k (fun x hx=>by rw [wO hx,yh hL hx]) ?_
  unfold bC;rw [bL,if_neg h1]
theorem Sat.Iz (h:Sat β l w) (hL:L'=L.put k b m none 0) (hp:l[i]?=some (.abs (ax (bC O L)))) (hq:l[j]?=some (.abs (aH 5 1 none 0 0 []))) (hd:bq (i::j::ix)=true) (hl:bT l ix=some l') (h1:o.kind=1) (he:o.data=[]):Sat β (.abs (ax (bC (aD O k (fun _=>o)) L'))::l') w:=by
  refine h.pX hp hq (fun _ _ h=>h) hd hl k (fun x hx=>by rw [wO hx,yh hL hx]) ?_
  rw [rX (by rw [bL];exact h1),bL,he]
  subst hL
  simp only [HL.put,if_true]
  rfl
end sat
end
section
open Go.RowKit Go.Maps bG aE
attribute [local irreducible] aj aP af ai
theorem rB {β:Bs} (S:aG) (L:HL) (f m t:Nat) (hI:Inv0 S) (d:Nat) (hd:Live S.idx ⟨d,2⟩) (name:ByteArray) (hsz:name.size<=1048576) (hno:aT name (obj S.O d).ah=none) (o:aR) (hid:o.id=S.X.last+1) (hk3:o.kind=1\/o.kind=2\/o.kind=3) (hl0:o.links=0) (hlast:S.X.last < 1099511627776) :
    Spec Tryz.prog β 127 #[vP f,vP (L.b d),.string name,dz L ⟨(aO S.X),o.kind⟩] [pF f m t { S.X with last:=S.X.last+1 },pI m L S.idx,pO (aD S.O (aO S.X) (fun _=>o)) L,pE (aD S.O (aO S.X) (fun _=>o)) L] (fun v l=>v=.tuple #[]/\l=[pF f m t ((eP S d name o).X),pI m L ((eP S d name o).idx),pO ((eP S d name o).O) L,pE ((eP S d name o).O) L]):=by
  have hX:=hI.hX
  have hne:d≠(aO S.X):=hI.uo hd
  have hkd:(obj S.O d).kind=2:=hI.kind hd
  have hel:(obj S.O d).ah.length<=8192:=hI.fV hd
  have hlen:=hI.len
  have e1:obj (aD S.O (aO S.X) (fun _=>o)) (aO S.X)=o:=bL
  have e2:obj (aD S.O (aO S.X) (fun _=>o)) d=obj S.O d:=cx hne
  have hnk:=pz hI
  have h:=OB (β:=β) { S.X with last:=S.X.last+1 } f m t (by simp only;omega) (aD S.O (aO S.X) (fun _=>o)) L d (by rw [e2];exact hkd) name hsz (by rw [e2];exact hno) (by rw [e2];omega) S.idx (by omega) ⟨(aO S.X),o.kind⟩ (by rw [e1]) hk3 (by rw [e1,hl0];decide) (by
    rw [e1,hid]
    cases e:aE.get S.idx (S.X.last+1) with
    | none=>rfl
    | some u=>have:=(hI.idx _ u e).2.2;omega) (by rw [e1,hid];exact WalkArith.wf_i64 (by have:=hI.last;omega))
  rw [e1,hid] at h
  exact h
theorem Dg {β:Bs} (S:aG) (L:HL) (f m t:Nat) (hI:Inv S) (d:Nat) (hd:Live S.idx ⟨d,2⟩) (name:ByteArray) (hsz:name.size<=1048576) (mode:Int) :
    Spec Tryz.prog β 124 #[vP f,vP (L.b d),.string name,vI (mode)] (pA f m t L S) (fun v l=>∃ L2,v=vI (gF S d name mode).1/\l=(pA f m t L2 ((gF S d name mode).2))):=by
 have hX:=hI.hX
 have hel:(obj S.O d).ah.length<=8192:=hI.fV hd
 have hkd:(obj S.O d).kind=2:=hI.kind hd
 refine Spec.enter Tryz.func124 rfl Tryz.ntmps124 (Nat.le_of_ble_eq_true rfl) (fun R=>?_)
 refine SR (gK 1 [] [] ?_)
 refine NS (gK 3 [(10,vP f),(11,vP (L.b d)),(12,.string name)] [] ?_)
 refine gL [0,1,5,3] (tj S L f m t hI d hd name hsz) ?_
 rintro _ _ ⟨rfl,rfl⟩
 refine gK 1 [(9,vI ((bZ S.X S.O S.idx d name)))] [] ?_
 refine NN (af.seq (SR (gK 2 [(15,.bool (decide (((bZ S.X S.O S.idx d name):Int)=(0:Int))))] [] ?_)))
 refine NN (af.aZ (p:=((bZ S.X S.O S.idx d name):Int)=(0:Int)) (fun _=>by kernel_rfl) (fun h0=>?_) (fun h0=>?_))
 ·have hno:=om h0
  refine af.region (gK 5 [(16,vP f),(17,vP (L.b d)),(18,.string name),(19,vP f),(20,vI (mode))] [] ?_)
  refine gL [0] (sZ S.X f m t hX mode) ?_
  rintro _ _ ⟨rfl,rfl⟩
  refine aj.lC (d:=(some 22)) (t:=136) (fun _=>by kernel_rfl) Tryz.prog rfl 9 (fun m1=>?_)
  refine gN 3 (fun b2=>[(25,.iface 135 (vP b2))]) (fun _=>[]) (fun _=>[]) (fun b2=>.blk b2 [vI (S.X.last+1),vI (mode),vI 0,vI 0,vI (S.X.cS),vI (S.X.cZ),vI 0,vI 0,.bool false,.map (some m1),.pointer none] 138) (fun b2=>?_)
  obtain⟨L2,hL2⟩:∃ L2:HL,L2=L.put (aO S.X) b2 m1 none 0:=⟨_,rfl⟩
  have hfr:=hI.toInv0.fresh
  refine aj.mem (fun w hS=>hS.tv hL2 hfr (o:=(aU S.X 2 mode)) (i:=3) (j:=8) (ix:=[0,1,2,4,5,6,7]) rfl rfl (by kernel_rfl) rfl (by show (2:Int)≠0;decide) ((kP (L:=L2) (k:=(aO S.X)) (o:=(aU S.X 2 mode)) rfl).trans (by rw [ER hL2];rfl)) rfl) ?_
  refine aj.mem (fun w hS=>hS.ND hL2 hfr (o:=(aU S.X 2 mode)) (i:=3) (j:=7) (ix:=[0,1,2,4,5,6]) rfl rfl (by kernel_rfl) rfl rfl rfl) ?_
  refine aj.dh [(5,pD (aD S.O (aO S.X) (fun _=>(aU S.X 2 mode))) L2)] (fun w hS=>hS.AU hL2 (o:=(aU S.X 2 mode)) (i:=5) rfl (by show (2:Int)≠1;decide)) ?_
  refine aj.dh [(3,.abs (aJ Tryz.prog 3 m (aW (aV L2 S.idx)) S.idx.length)),(4,.abs (bS 197 t S.X.cH S.ar (aV L2 S.us)))] (fun w hS=>by rw [gn hL2 hfr.idx,gn hL2 hfr.us];exact hS) ?_
  refine gL (f:=127) (args:=#[vP f,vP (L.b d),.string name,.iface 135 (vP b2)]) (pre:=[pF f m t { S.X with last:=S.X.last+1 },pI m L2 S.idx,pO (aD S.O (aO S.X) (fun _=>(aU S.X 2 mode))) L2,pE (aD S.O (aO S.X) (fun _=>(aU S.X 2 mode))) L2]) [2,3,1,0] ((by have h:=rB (β:=β) S L2 f m t hI.toInv0 d hd name hsz hno (aU S.X 2 mode) rfl (by simp [aU]) rfl (pZ h0);rw [vl hL2 (hI.uo hd),ol hL2] at h;exact h)) ?_
  rintro _ _ ⟨rfl,rfl⟩
  refine NS (aj.dh [(5,.abs (ax (bC ((eP S d name (aU S.X 2 mode)).O) L2)))] (fun w hS=>by rw [show bC ((eP S d name (aU S.X 2 mode)).O) L2=bC (aD S.O (aO S.X) (fun _=>(aU S.X 2 mode))) L2 from gV];exact hS) ?_)
  refine gK 2 [(8,vI ((bZ S.X S.O S.idx d name)))] [] ?_
  refine NN (af.ret ?_)
  exact RT (vI ((bZ S.X S.O S.idx d name))) [0,1,4,2,5,3,6] (⟨L2,by rw [show gF S d name mode=_ from if_pos h0];refine⟨congrArg _ h0,?_⟩;rfl⟩)
 refine af.skip (NX (SR (gK 2 [(8,vI ((bZ S.X S.O S.idx d name)))] [] ?_)))
 refine NN (af.ret ?_)
 exact RT (vI ((bZ S.X S.O S.idx d name))) [0,1,4,3,5,2,6] (⟨L,by rw [show gF S d name mode=_ from if_neg h0]<;>exact⟨rfl,rfl⟩⟩)
theorem yQ {β:Bs} (S:aG) (L:HL) (f m t:Nat) (hI:Inv S) (d:Nat) (hd:Live S.idx ⟨d,2⟩) (name:ByteArray) (hsz:name.size<=1048576) (text:ByteArray) (NE:text.size<=1048576) :
    Spec Tryz.prog β 128 #[vP f,vP (L.b d),.string name,.string text] (pA f m t L S) (fun v l=>∃ L2,v=vI (eE S d name text).1/\l=(pA f m t L2 ((eE S d name text).2))):=by
 have hX:=hI.hX
 have hel:(obj S.O d).ah.length<=8192:=hI.fV hd
 have hkd:(obj S.O d).kind=2:=hI.kind hd
 refine Spec.enter Tryz.func128 rfl Tryz.ntmps128 (Nat.le_of_ble_eq_true rfl) (fun R=>?_)
 refine SR (gK 1 [] [] ?_)
 refine NS (gK 1 [(10,.string text)] [] ?_)
 refine gL [] (OA text NE) ?_
 rintro _ _ ⟨rfl,rfl⟩
 refine gK 1 [(9,vI ((mX text)))] [] ?_
 refine NN (af.seq (SR (gK 2 [(13,.bool (decide (((mX text):Int)=(0:Int))))] [] ?_)))
 refine NN (af.aZ (p:=((mX text):Int)=(0:Int)) (fun _=>by kernel_rfl) (fun hb=>?_) (fun hb=>?_))
 ·refine af.region (gK 3 [(14,vP f),(15,vP (L.b d)),(16,.string name)] [] ?_)
  refine gL [0,1,5,3] (tj S L f m t hI d hd name hsz) ?_
  rintro _ _ ⟨rfl,rfl⟩
  refine gK 1 [(9,vI ((bZ S.X S.O S.idx d name)))] [] ?_
  refine NN (af.seq (SR (gK 2 [(19,.bool (decide (((bZ S.X S.O S.idx d name):Int)=(0:Int))))] [] ?_)))
  refine NN (af.aZ (p:=((bZ S.X S.O S.idx d name):Int)=(0:Int)) (fun _=>by kernel_rfl) (fun h0=>?_) (fun h0=>?_))
  ·have hno:=om h0
   refine af.region (gK 4 [(20,vP f),(21,vP (L.b d)),(22,.string name),(23,vP f)] [] ?_)
   refine gL [0] (sZ S.X f m t hX 511) ?_
   rintro _ _ ⟨rfl,rfl⟩
   refine gN 4 (fun b3=>[(28,.iface 132 (vP b3))]) (fun _=>[]) (fun _=>[]) (fun b3=>.blk b3 [vI (S.X.last+1),vI (511),vI 0,vI 0,vI (S.X.cS),vI (S.X.cZ),vI 0,vI 0,.bool false,.string text] 134) (fun b3=>?_)
   obtain⟨L2,hL2⟩:∃ L2:HL,L2=L.put (aO S.X) b3 0 none 0:=⟨_,rfl⟩
   have hfr:=hI.toInv0.fresh
   refine aj.mem (fun w hS=>hS.tv hL2 hfr (o:={ aU S.X 3 511 with target:=text }) (i:=3) (j:=7) (ix:=[0,1,2,4,5,6]) rfl rfl (by kernel_rfl) rfl (by show (3:Int)≠0;decide) ((wQ (L:=L2) (k:=(aO S.X)) (o:={ aU S.X 3 511 with target:=text }) rfl).trans (by rfl)) rfl) ?_
   refine aj.dh [(3,pE (aD S.O (aO S.X) (fun _=>{ aU S.X 3 511 with target:=text })) L2)] (fun w hS=>hS.uq hL2 hfr (o:={ aU S.X 3 511 with target:=text }) (i:=3) rfl (by show (3:Int)≠2;decide)) ?_
   refine aj.dh [(5,pD (aD S.O (aO S.X) (fun _=>{ aU S.X 3 511 with target:=text })) L2)] (fun w hS=>hS.AU hL2 (o:={ aU S.X 3 511 with target:=text }) (i:=5) rfl (by show (3:Int)≠1;decide)) ?_
   refine aj.dh [(2,.abs (aJ Tryz.prog 3 m (aW (aV L2 S.idx)) S.idx.length)),(4,.abs (bS 197 t S.X.cH S.ar (aV L2 S.us)))] (fun w hS=>by rw [gn hL2 hfr.idx,gn hL2 hfr.us];exact hS) ?_
   refine gL (f:=127) (args:=#[vP f,vP (L.b d),.string name,.iface 132 (vP b3)]) (pre:=[pF f m t { S.X with last:=S.X.last+1 },pI m L2 S.idx,pO (aD S.O (aO S.X) (fun _=>{ aU S.X 3 511 with target:=text })) L2,pE (aD S.O (aO S.X) (fun _=>{ aU S.X 3 511 with target:=text })) L2]) [1,2,0,3] ((by have h:=rB (β:=β) S L2 f m t hI.toInv0 d hd name hsz hno { aU S.X 3 511 with target:=text } rfl (by simp [aU]) rfl (pZ h0);rw [vl hL2 (hI.uo hd),ol hL2] at h;exact h)) ?_
   rintro _ _ ⟨rfl,rfl⟩
   refine NS (aj.dh [(5,.abs (ax (bC ((eP S d name { aU S.X 3 511 with target:=text }).O) L2)))] (fun w hS=>by rw [show bC ((eP S d name { aU S.X 3 511 with target:=text }).O) L2=bC (aD S.O (aO S.X) (fun _=>{ aU S.X 3 511 with target:=text })) L2 from gV];exact hS) ?_)
   refine gK 2 [(8,vI ((bZ S.X S.O S.idx d name)))] [] ?_
   refine NN (af.ret ?_)
   exact RT (vI ((bZ S.X S.O S.idx d name))) [0,1,4,2,5,3,6] (⟨L2,by rw [show eE S d name text=_ from (if_pos hb).trans (if_pos h0)];refine⟨congrArg _ h0,?_⟩;rfl⟩)
  refine af.skip (NX (SR (gK 2 [(8,vI ((bZ S.X S.O S.idx d name)))] [] ?_)))
  refine NN (af.ret ?_)
  exact RT (vI ((bZ S.X S.O S.idx d name))) [0,1,4,3,5,2,6] (⟨L,by rw [show eE S d name text=_ from (if_pos hb).trans (if_neg h0)]<;>exact⟨rfl,rfl⟩⟩)
 refine af.skip (NX (af.seq (SR (gK 2 [(19,.bool (decide (((mX text):Int)=(0:Int))))] [] ?_))))
 refine NN (af.aZ (p:=((mX text):Int)=(0:Int)) (fun _=>by kernel_rfl) (fun h0=>?_) (fun h0=>?_))
 ·exact absurd h0 hb
 refine af.skip (NX (SR (gK 2 [(8,vI ((mX text)))] [] ?_)))
 refine NN (af.ret ?_)
 exact RT (vI ((mX text))) [0,1,2,3,4,5,6] (⟨L,by rw [show eE S d name text=_ from if_neg hb]<;>exact⟨rfl,rfl⟩⟩)
theorem AV {β:Bs} (S:aG) (L:HL) (f m t:Nat) (hI:Inv S) (d:Nat) (hd:Live S.idx ⟨d,2⟩) (name:ByteArray) (hsz:name.size<=1048576) :
    Spec Tryz.prog β 131 #[vP f,vP (L.b d),.string name] (pA f m t L S) (fun v l=>∃ L2,v=vI (dX S d name).1/\l=(pA f m t L2 ((dX S d name).2))):=by
 have hX:=hI.hX
 have hel:(obj S.O d).ah.length<=8192:=hI.fV hd
 have hkd:(obj S.O d).kind=2:=hI.kind hd
 refine Spec.enter Tryz.func131 rfl Tryz.ntmps131 (Nat.le_of_ble_eq_true rfl) (fun R=>?_)
 refine af.seq ?_
 rcases hI.lP hd name with hlk|⟨tk,hlk,hlv⟩|⟨tk,hlk,hlv⟩|⟨tk,hlk,hlv⟩
 ·refine af.region (gK 1 [] [] ?_)
  refine NN (af.seq (SR (gK 5 [(10,.map (some (L.m d))),(11,.string name)] [(3,v_ 3 (br L hkd))] ?_)))
  refine iq 5 hkd hlk ?_
  refine NN (af.block (SR ?_))
  refine gK 1 [(13,.bool true)] [] ?_
  refine NN (CT (SR (gK 1 [(6,vI 170)] [] ?_)))
  refine NN (af.ret (ai.aF (ai.ak ?_)))
  exact RT (vI 170) [0,1,2,3,4,5,6] (⟨L,by rw [show dX S d name=(170,S) by unfold dX;rw [hlk]]<;>exact⟨rfl,rfl⟩⟩)
 ·have hkt:(obj S.O tk).kind=1:=hI.kind hlv
  refine af.region (gK 1 [] [] ?_)
  refine NN (af.seq (SR (gK 5 [(10,.map (some (L.m d))),(11,.string name)] [(3,v_ 3 (br L hkd))] ?_)))
  refine iq 5 hkd hlk ?_
  refine NN (af.block (SR ?_))
  refine gK 1 [(13,.bool false)] [] ?_
  refine NN (CF (SR (gK 3 [(15,.bool false)] [] ?_)))
  refine NN (CF (af.skip (ai.aN (NX (SR ?_)))))
  refine gK 3 [(17,vP f),(18,vP (L.b d)),(19,.string name)] [] ?_
  refine gL [0,3,5,1] (nO S L f m t hI d hd name hsz ⟨tk,1⟩ hlk) ?_
  rintro _ _ ⟨rfl,rfl⟩
  refine NS (aj.dh [(5,.abs (ax (bC ((aI S d name ⟨tk,1⟩).O) L)))] (fun w hS=>by rw [show bC ((aI S d name ⟨tk,1⟩).O) L=bC S.O L from nP];exact hS) ?_)
  refine gK 1 [(6,vI 0)] [] ?_
  refine NN (af.ret ?_)
  exact RT (vI 0) [0,3,4,1,5,2,6] (⟨L,by rw [show dX S d name=(0,aI S d name ⟨tk,1⟩) by unfold dX;rw [hlk];exact if_neg (by simp)]<;>exact⟨rfl,rfl⟩⟩)
 ·have hkt:(obj S.O tk).kind=2:=hI.kind hlv
  refine af.region (gK 1 [] [] ?_)
  refine NN (af.seq (SR (gK 5 [(10,.map (some (L.m d))),(11,.string name)] [(3,v_ 3 (br L hkd))] ?_)))
  refine iq 5 hkd hlk ?_
  refine NN (af.block (SR ?_))
  refine gK 1 [(13,.bool false)] [] ?_
  refine NN (CF (SR (gK 3 [(15,.bool true)] [] ?_)))
  refine NN (CT (SR (gK 1 [(6,vI 172)] [] ?_)))
  refine NN (af.ret (ai.aF (ai.ak ?_)))
  exact RT (vI 172) [0,1,2,3,4,5,6] (⟨L,by rw [show dX S d name=(172,S) by unfold dX;rw [hlk];exact if_pos rfl]<;>exact⟨rfl,rfl⟩⟩)
 have hkt:(obj S.O tk).kind=3:=hI.kind hlv
 refine af.region (gK 1 [] [] ?_)
 refine NN (af.seq (SR (gK 5 [(10,.map (some (L.m d))),(11,.string name)] [(3,v_ 3 (br L hkd))] ?_)))
 refine iq 5 hkd hlk ?_
 refine NN (af.block (SR ?_))
 refine gK 1 [(13,.bool false)] [] ?_
 refine NN (CF (SR (gK 3 [(15,.bool false)] [] ?_)))
 refine NN (CF (af.skip (ai.aN (NX (SR ?_)))))
 refine gK 3 [(17,vP f),(18,vP (L.b d)),(19,.string name)] [] ?_
 refine gL [0,3,5,1] (nO S L f m t hI d hd name hsz ⟨tk,3⟩ hlk) ?_
 rintro _ _ ⟨rfl,rfl⟩
 refine NS (aj.dh [(5,.abs (ax (bC ((aI S d name ⟨tk,3⟩).O) L)))] (fun w hS=>by rw [show bC ((aI S d name ⟨tk,3⟩).O) L=bC S.O L from nP];exact hS) ?_)
 refine gK 1 [(6,vI 0)] [] ?_
 refine NN (af.ret ?_)
 exact RT (vI 0) [0,3,4,1,5,2,6] (⟨L,by rw [show dX S d name=(0,aI S d name ⟨tk,3⟩) by unfold dX;rw [hlk];exact if_neg (by simp)]<;>exact⟨rfl,rfl⟩⟩)
theorem Dh {β:Bs} (S:aG) (L:HL) (f m t:Nat) (hI:Inv S) (d:Nat) (hd:Live S.idx ⟨d,2⟩) (name:ByteArray) (hsz:name.size<=1048576) :
    Spec Tryz.prog β 137 #[vP f,vP (L.b d),.string name] (pA f m t L S) (fun v l=>∃ L2,v=vI (eG S d name).1/\l=(pA f m t L2 ((eG S d name).2))):=by
 have hX:=hI.hX
 have hel:(obj S.O d).ah.length<=8192:=hI.fV hd
 have hkd:(obj S.O d).kind=2:=hI.kind hd
 refine Spec.enter Tryz.func137 rfl Tryz.ntmps137 (Nat.le_of_ble_eq_true rfl) (fun R=>?_)
 refine af.seq ?_
 rcases hI.lP hd name with hlk|⟨tk,hlk,hlv⟩|⟨tk,hlk,hlv⟩|⟨tk,hlk,hlv⟩
 ·refine af.region (gK 1 [] [] ?_)
  refine NS (gK 5 [(13,.map (some (L.m d))),(14,.string name)] [(3,v_ 3 (br L hkd))] ?_)
  refine iq 5 hkd hlk ?_
  refine gK 1 [(7,.nilIface)] [] ?_
  refine NN (af.seq (SR (gK 2 [(17,.bool true)] [] ?_)))
  refine NN (CT (SR (gK 1 [(6,vI 170)] [] ?_)))
  refine NN (af.ret (ai.ak ?_))
  exact RT (vI 170) [0,1,2,3,4,5,6] (⟨L,by skip;rw [show eG S d name=(170,S) by unfold eG;rw [hlk]]<;>exact⟨rfl,rfl⟩⟩)
 ·have hkt:(obj S.O tk).kind=1:=hI.kind hlv
  refine af.region (gK 1 [] [] ?_)
  refine NS (gK 5 [(13,.map (some (L.m d))),(14,.string name)] [(3,v_ 3 (br L hkd))] ?_)
  refine iq 5 hkd hlk ?_
  refine gK 1 [(7,.iface 129 (vP (L.b tk)))] [] ?_
  refine NN (af.seq (SR (gK 2 [(17,.bool false)] [] ?_)))
  refine NN (CF (af.skip (NX (SR (gK 7 [(8,.pointer none),(9,.bool false)] [] ?_)))))
  refine NN (af.seq (SR (gK 2 [(24,.bool true)] [] ?_)))
  refine NN (CT (SR (gK 1 [(6,vI 173)] [] ?_)))
  refine NN (af.ret (ai.ak ?_))
  exact RT (vI 173) [0,1,2,3,4,5,6] (⟨L,by skip;rw [show eG S d name=(173,S) by unfold eG;rw [hlk];exact if_neg (by simp)]<;>exact⟨rfl,rfl⟩⟩)
 ·have hkt:(obj S.O tk).kind=2:=hI.kind hlv
  have Vy:(obj S.O tk).ah.length<=8192:=hI.fV hlv
  refine af.region (gK 1 [] [] ?_)
  refine NS (gK 5 [(13,.map (some (L.m d))),(14,.string name)] [(3,v_ 3 (br L hkd))] ?_)
  refine iq 5 hkd hlk ?_
  refine gK 1 [(7,.iface 135 (vP (L.b tk)))] [] ?_
  refine NN (af.seq (SR (gK 2 [(17,.bool false)] [] ?_)))
  refine NN (CF (af.skip (NX (SR (gK 7 [(8,vP (L.b tk)),(9,.bool true)] [] ?_)))))
  refine NN (af.seq (SR (gK 2 [(24,.bool false)] [] ?_)))
  refine NN (CF (af.skip (NX (af.seq (SR (gK 4 [(28,.map (some (L.m tk)))] [(3,v_ 3 (br L hkt))] ?_))))))
  refine Us 5 hkt ?_
  refine gK 1 [(30,.bool (decide (((((obj S.O tk).ah.length:Nat):Int):Int) > (0:Int))))] [] ?_
  refine NN (af.aZ (p:=((((obj S.O tk).ah.length:Nat):Int):Int) > (0:Int)) (fun _=>by kernel_rfl) (fun mh=>?_) (fun mh=>?_))
  ·refine SR (gK 1 [(6,vI 178)] [] ?_)
   refine NN (af.ret (ai.ak ?_))
   exact RT (vI 178) [0,1,2,3,4,5,6] (⟨L,by skip;rw [show eG S d name=(178,S) by unfold eG;rw [hlk];exact (if_pos rfl).trans (if_neg (fun e=>by rw [show (obj S.O tk).ah=[] from e] at mh;simp at mh))]<;>exact⟨rfl,rfl⟩⟩)
  refine af.skip (NX (SR (gK 3 [(31,vP f),(32,vP (L.b d)),(33,.string name)] [] ?_)))
  refine gL [0,3,5,1] (nO S L f m t hI d hd name hsz ⟨tk,2⟩ hlk) ?_
  rintro _ _ ⟨rfl,rfl⟩
  refine NS (aj.dh [(5,.abs (ax (bC ((aI S d name ⟨tk,2⟩).O) L)))] (fun w hS=>by rw [show bC ((aI S d name ⟨tk,2⟩).O) L=bC S.O L from nP];exact hS) ?_)
  have wT:(obj (aI S d name ⟨tk,2⟩).O d).kind=2:=(AR).trans (hkd)
  have wU:(obj (aI S d name ⟨tk,2⟩).O tk).kind=2:=(AR).trans (hkt)
  generalize ck:(aI S d name ⟨tk,2⟩).O=cA at wT wU ⊢
  refine gK 3 [(37,.pointer (some ⟨(L.b tk),10,none⟩))] [] ?_
  refine Sb 1 [(2,1),(5,2)] tk (none) wU (fun dS cW=>?_)
  have LA:=ku cW wT
  have Ig:=ku cW wU
  refine NS (gK 1 [(6,vI 0)] [] ?_)
  refine NN (af.ret ?_)
  exact RT (l:=[pF f m t ((aI S d name ⟨tk,2⟩).X),pI m L ((aI S d name ⟨tk,2⟩).idx),pT t S.X.cH S.ar L S.us,pO dS L,pD dS L,pE dS L]) (.int .i64 0) [0,3,4,1,5,2,6] (⟨L,by subst cW;subst ck;rw [show eG S d name=(0,{ aI S d name ⟨tk,2⟩ with O:=orphan (aI S d name ⟨tk,2⟩).O tk }) by unfold eG;rw [hlk];exact (if_pos rfl).trans (if_pos (List.eq_nil_of_length_eq_zero (by show (obj S.O tk).ah.length=0;omega)))]<;>exact⟨rfl,rfl⟩⟩)
 have hkt:(obj S.O tk).kind=3:=hI.kind hlv
 refine af.region (gK 1 [] [] ?_)
 refine NS (gK 5 [(13,.map (some (L.m d))),(14,.string name)] [(3,v_ 3 (br L hkd))] ?_)
 refine iq 5 hkd hlk ?_
 refine gK 1 [(7,.iface 132 (vP (L.b tk)))] [] ?_
 refine NN (af.seq (SR (gK 2 [(17,.bool false)] [] ?_)))
 refine NN (CF (af.skip (NX (SR (gK 7 [(8,.pointer none),(9,.bool false)] [] ?_)))))
 refine NN (af.seq (SR (gK 2 [(24,.bool true)] [] ?_)))
 refine NN (CT (SR (gK 1 [(6,vI 173)] [] ?_)))
 refine NN (af.ret (ai.ak ?_))
 exact RT (vI 173) [0,1,2,3,4,5,6] (⟨L,by skip;rw [show eG S d name=(173,S) by unfold eG;rw [hlk];exact if_neg (by simp)]<;>exact⟨rfl,rfl⟩⟩)
end
section
open Go.RowKit Go.Maps bG aE
section inv
variable {S:aG} {d:Nat} {name:ByteArray} {t:Th} {O':bY}
theorem jC.del {es:eY Th} (h:jC es):jC (fX name es):=List.Pairwise.filter _ h
theorem sx {x y:ByteArray}:¬ lM x y↔nK y x < 0:=by
  unfold lM
  rw [zX,Lib.toList_data,Lib.toList_data]
  have h1:=@C0 x.data.toList y.data.toList
  have h2:=@C4 x y
  have h3:=wC x y
  unfold nK at h2 h3 ⊢
  rw [Bool.or_eq_true,decide_eq_true_iff,← h1,← h2]
  omega
theorem jC.ins {es:eY Th} (h:jC es) (hn:aT name es=none):jC (gE name t es):=by
  induction es with
  | nil=>exact List.pairwise_singleton ..
  | cons e r ih=>
    obtain⟨h1,h2⟩:=List.pairwise_cons.1 h
    have hall:=uX.1 hn
    unfold gE
    split
    ·rename_i hlt
     refine List.pairwise_cons.2 ⟨fun x hx=>?_,h⟩
     rcases List.mem_cons.1 hx with rfl|hx
     ·exact hlt
     have h3:=h1 x hx
     exact sx.2 (Ag (sx.1 hlt) (Int.le_of_lt (sx.1 h3)))
    rename_i hle
    refine List.pairwise_cons.2 ⟨fun x hx=>?_,ih h2 (uX.2 (fun x hx=>hall x (List.mem_cons_of_mem _ hx)))⟩
    rcases zo.1 hx with rfl|hx
    ·have hne:¬ e.1=name:=hall e (List.mem_cons_self ..)
     refine sx.2 ?_
     have h4:¬ nK name e.1 < 0:=fun hc=>hle (sx.2 hc)
     have h5:=wC e.1 name
     have h6:¬ nK e.1 name=0:=fun hc=>hne (C4.1 hc)
     show nK e.1 name < 0
     omega
    exact h1 x hx
theorem Inv0.cut (hI:Inv0 S) (hd:Live S.idx ⟨d,2⟩) (hl:aT name (obj S.O d).ah=some t) {g:Bool}
    (hO:∀ k,obj O' k=if k=d then { obj S.O d with ah:=fX name (obj S.O d).ah,sec:=S.X.cS,nano:=S.X.cZ } else if k=t.k then { obj S.O k with links:=(obj S.O k).links - 1,gone:=g,up:=none } else obj S.O k)
    (hg:g=(obj S.O t.k).gone\/(obj S.O t.k).links - 1=0/\(t.kind=2->(obj S.O t.k).ah=[])):Inv0 { S with X:={ S.X with ah:=S.X.ah - 1 },O:=O' }:=by
  have hne:=hI.ne hd hl
  have ht:=(hI.ent hd hl).2
  have oD:obj O' d={ obj S.O d with ah:=fX name (obj S.O d).ah,sec:=S.X.cS,nano:=S.X.cZ }:=by rw [hO,if_pos rfl]
  have oT:obj O' t.k={ obj S.O t.k with links:=(obj S.O t.k).links - 1,gone:=g,up:=none }:=by rw [hO,if_neg hne,if_pos rfl]
  have oX:∀ x,x≠d->x≠t.k->obj O' x=obj S.O x:=fun x h1 h2=>by rw [hO,if_neg h1,if_neg h2]
  have yR:∀ {α:Type} (G:aR->α),(∀ o es a b,G { o with ah:=es,sec:=a,nano:=b }=G o)->(∀ o l g,G { o with links:=l,gone:=g,up:=none }=G o)->∀ x,G (obj O' x)=G (obj S.O x):=fun G h1 h2 x=>by
    by_cases e:x=d
    ·subst e;rw [oD];exact h1 _ _ _ _
    by_cases e2:x=t.k
    ·subst e2;rw [oT];exact h2 _ _ _
    rw [oX x e e2]
  have P6:=yR aR.id (fun _ _ _ _=>rfl) (fun _ _ _=>rfl)
  have AX:=yR aR.kind (fun _ _ _ _=>rfl) (fun _ _ _=>rfl)
  have IB:=yR aR.data (fun _ _ _ _=>rfl) (fun _ _ _=>rfl)
  have P7:=yR aR.opens (fun _ _ _ _=>rfl) (fun _ _ _=>rfl)
  have fE:∀ x,x≠d->(obj O' x).ah=(obj S.O x).ah:=fun x hx=>by
    by_cases e2:x=t.k
    ·subst e2;rw [oT]
    rw [oX x hx e2]
  have yS:(obj O' d).ah=fX name (obj S.O d).ah:=by rw [oD]
  have hlk:0 < iw S.idx S.O t.k:=mM hd hl
  have hlt:=hI.links t ht
  have hky:∀ i u,aE.get S.idx i=some u->i=(u.k:Int):=fun i u e=>hI.key e
  have hsum:∀ q:ByteArray×Th->Bool,_:=fun q=>LQ (q:=q) hI.rise hd hky fE yS (hI.twice hd) hl
  have IC:∀ x,iw S.idx O' x+(if t.k=x then 1 else 0)=iw S.idx S.O x:=fun x=>by
    have h1:=hsum (fun e=>decide (e.2.k=x))
    simp only [decide_eq_true_eq] at h1
    exact h1
  refine { hI with ob:=fun x hx=>?_,mt:=fun x hx=>?_,ah:=fun x hx e he=>?_,sorted:=fun x hx=>?_,dead:=fun x hx=>?_,rz:=fun x hx=>(AX x).trans (hI.rz x hx),total:=?_,links:=fun x hx=>?_,once:=fun x hx hk=>?_,opens:=fun x hx=>?_,gone:=fun x hx ja=>?_,up:=fun x hx e=>?_,deep:=?_,used:=?_ }
  ·show (obj O' x.k).id=_/\(obj O' x.k).kind=_/\_
   rw [P6,AX];exact hI.ob x hx
  ·show kg (obj O' x.k)
   have hm:=hI.mt x hx
   by_cases e:x.k=d
   ·rw [e] at hm ⊢
    rw [oD]
    exact hm.of rfl rfl rfl hI.now rfl (.inl rfl) (.inr (hI.kind hd)) rfl
   by_cases e2:x.k=t.k
   ·rw [e2] at hm ⊢
    rw [oT]
    exact hm.of rfl rfl rfl hm.time rfl (.inl rfl) (.inl rfl) rfl
   rw [oX _ e e2];exact hm
  ·by_cases e1:x.k=d
   ·have he:e∈(obj O' x.k).ah:=he
    rw [e1,yS] at he
    exact hI.ah _ hd e (LP he).1
   have he:e∈(obj O' x.k).ah:=he
   rw [fE _ e1] at he
   exact hI.ah x hx e he
  ·show jC (obj O' x.k).ah
   by_cases e1:x.k=d
   ·rw [e1,yS];exact jC.del (hI.sorted _ hd)
   rw [fE _ e1];exact hI.sorted x hx
  ·show (obj O' x).ah=[]/\(obj O' x).up=none
   rw [oX x (fun e=>hx _ hd e.symm) (fun e=>hx t ht e.symm)]
   exact hI.dead x hx
  ·have h1:=hsum (fun _=>true)
   have h2:=hI.total
   rw [mg] at h2
   show S.X.ah - 1=(tot S.idx O':Int)/\S.X.ah - 1<=8192
   rw [mg]
   simp only [if_true] at h1
   omega
  ·show (obj O' x.k).links=(iw S.idx O' x.k:Int)
   have h1:=IC x.k
   have h2:=hI.links x hx
   by_cases e2:x.k=t.k
   ·rw [if_pos e2.symm] at h1
    rw [e2,oT]
    rw [e2] at h1
    show (obj S.O t.k).links - 1=_
    omega
   rw [if_neg (fun e=>e2 e.symm)] at h1
   have:(obj O' x.k).links=(obj S.O x.k).links:=by
     by_cases e:x.k=d
     ·rw [e,oD]
     rw [oX _ e e2]
   omega
  ·show (obj O' x.k).links<=1
   have h1:=hI.once x hx hk
   by_cases e2:x.k=t.k
   ·rw [e2] at h1 ⊢
    rw [oT]
    show (obj S.O t.k).links - 1<=1
    omega
   by_cases e:x.k=d
   ·rw [e] at h1 ⊢;rw [oD];exact h1
   rw [oX _ e e2];exact h1
  ·show (obj O' x.k).opens=_
   rw [P7];exact hI.opens x hx
  ·have ja:(obj O' x.k).gone=true:=ja
   show (obj O' x.k).links=0/\(obj O' x.k).ah=[]
   by_cases e2:x.k=t.k
   ·rw [e2] at ja ⊢
    rw [fE _ hne,oT]
    rw [oT] at ja
    show (obj S.O t.k).links - 1=0/\_
    rcases hg with h|⟨h1,h2⟩
    ·have ja:g=true:=ja
     rw [h] at ja
     have:=(hI.gone t ht ja).1
     omega
    refine⟨h1,?_⟩
    by_cases hk:t.kind=2
    ·exact h2 hk
    exact (hI.mt t ht).ah (by rw [hI.kind ht];exact hk)
   by_cases e:x.k=d
   ·rw [e,oD] at ja
    have:=(hI.gone _ hd ja).2
    rw [LU this] at hl;cases hl
   rw [oX _ e e2] at ja ⊢;exact hI.gone x hx ja
  ·show (obj O' x.k).up=some e↔x.kind=2/\Live S.idx ⟨e,2⟩/\∃ n,aT n (obj O' e).ah=some x
   by_cases e2:x.k=t.k
   ·have Kf:x=t:=gj hx ht e2
    subst Kf
    rw [oT]
    constructor
    ·intro h;cases h
    rintro⟨hk,hle,n,hn⟩
    have h1:=hI.once x hx hk
    have h2:=IC x.k
    rw [if_pos rfl] at h2
    have h3:0 < iw S.idx O' x.k:=mM hle hn
    omega
   have h1:(obj O' x.k).up=(obj S.O x.k).up:=by
     by_cases e:x.k=d
     ·rw [e,oD]
     rw [oX _ e e2]
   have h2:∀ n,aT n (obj O' e).ah=some x↔aT n (obj S.O e).ah=some x:=fun n=>by
     by_cases e3:e=d
     ·rw [e3,yS,qi]
      by_cases hnn:n=name
      ·rw [if_pos hnn,hnn,hl]
       constructor
       ·intro h;cases h
       intro h;exact absurd (congrArg Th.k (Option.some.inj h)).symm e2
      rw [if_neg hnn]
     rw [fE _ e3]
   rw [h1,hI.up x hx e]
   simp only [h2]
  ·obtain⟨dp,hdp⟩:=hI.deep
   refine⟨dp,fun x e hx=>?_⟩
   have hx:(obj O' x).up=some e:=hx
   by_cases e2:x=t.k
   ·rw [e2,oT] at hx;cases hx
   by_cases e3:x=d
   ·rw [e3,oD] at hx;rw [e3];exact hdp _ _ hx
   rw [oX _ e3 e2] at hx;exact hdp _ _ hx
  have:bytes S.idx O'=bytes S.idx S.O:=fT (fun p _=>by rw [IB])
  show S.X.used=(bytes S.idx O':Int)/\_
  rw [this];exact hI.used
theorem IE {O O1:bY} {s k:Nat} (h:∀ x e,(obj O1 x).up=some e->(obj O x).up=some e) (hb:jD O1 s k):jD O s k:=by
  induction hb with
  | here=>exact .here
  | up hu _ ih=>exact .up (h _ _ hu) ih
theorem Di {O:bY} {s k:Nat}:jD O s k↔k=s\/∃ e,(obj O k).up=some e/\jD O s e:=by
  constructor
  ·rintro (_|⟨h1,h2⟩)
   ·exact .inl rfl
   exact .inr ⟨_,h1,h2⟩
  rintro (h|⟨e,h1,h2⟩)
  ·subst h;exact .here
  exact .up h1 h2
theorem Inv0.put (hI:Inv0 S) (hd:Live S.idx ⟨d,2⟩) (iM:(obj S.O d).gone=false) (hn:aT name (obj S.O d).ah=none) (iH:bI name) (ht:Live S.idx t) (GP:(obj S.O t.k).gone=false) (L6:t.kind=2->(obj S.O t.k).links=0/\¬ jD S.O t.k d) (htd:t.k≠d) (hroom:S.X.ah < 8192) {ta tb:Int} (Ux:dL ta tb)
    (hO:∀ k,obj O' k=if k=d then { obj S.O d with ah:=gE name t (obj S.O d).ah,sec:=ta,nano:=tb } else if k=t.k then { obj S.O k with links:=(obj S.O k).links+1,up:=if t.kind=2 then some d else (obj S.O k).up } else obj S.O k) :
    Inv0 { S with X:={ S.X with ah:=S.X.ah+1 },O:=O' }:=by
  have hne:=htd
  have oD:obj O' d={ obj S.O d with ah:=gE name t (obj S.O d).ah,sec:=ta,nano:=tb }:=by rw [hO,if_pos rfl]
  have oT:obj O' t.k={ obj S.O t.k with links:=(obj S.O t.k).links+1,up:=if t.kind=2 then some d else (obj S.O t.k).up }:=by rw [hO,if_neg hne,if_pos rfl]
  have oX:∀ x,x≠d->x≠t.k->obj O' x=obj S.O x:=fun x h1 h2=>by rw [hO,if_neg h1,if_neg h2]
  have yR:∀ {α:Type} (G:aR->α),(∀ o es a b,G { o with ah:=es,sec:=a,nano:=b }=G o)->(∀ o l u,G { o with links:=l,up:=u }=G o)->∀ x,G (obj O' x)=G (obj S.O x):=fun G h1 h2 x=>by
    by_cases e:x=d
    ·subst e;rw [oD];exact h1 _ _ _ _
    by_cases e2:x=t.k
    ·subst e2;rw [oT];exact h2 _ _ _
    rw [oX x e e2]
  have P6:=yR aR.id (fun _ _ _ _=>rfl) (fun _ _ _=>rfl)
  have AX:=yR aR.kind (fun _ _ _ _=>rfl) (fun _ _ _=>rfl)
  have IB:=yR aR.data (fun _ _ _ _=>rfl) (fun _ _ _=>rfl)
  have P7:=yR aR.opens (fun _ _ _ _=>rfl) (fun _ _ _=>rfl)
  have fG:=yR aR.gone (fun _ _ _ _=>rfl) (fun _ _ _=>rfl)
  have fE:∀ x,x≠d->(obj O' x).ah=(obj S.O x).ah:=fun x hx=>by
    by_cases e2:x=t.k
    ·subst e2;rw [oT]
    rw [oX x hx e2]
  have yS:(obj O' d).ah=gE name t (obj S.O d).ah:=by rw [oD]
  have hky:∀ i u,aE.get S.idx i=some u->i=(u.k:Int):=fun i u e=>hI.key e
  have hsum:∀ q:ByteArray×Th->Bool,_:=fun q=>LR (q:=q) hI.rise hd hky fE yS
  have IC:∀ x,iw S.idx O' x=iw S.idx S.O x+(if t.k=x then 1 else 0):=fun x=>by
    have h1:=hsum (fun e=>decide (e.2.k=x))
    simp only [decide_eq_true_eq] at h1
    exact h1
  have hlt:=hI.links t ht
  have P8:t.kind=2->∀ e n,Live S.idx ⟨e,2⟩->aT n (obj S.O e).ah≠some t:=fun hk e n hle h=>by
    have h1:0 < iw S.idx S.O t.k:=mM hle h
    have:=(L6 hk).1
    omega
  refine { hI with ob:=fun x hx=>?_,mt:=fun x hx=>?_,ah:=fun x hx e he=>?_,sorted:=fun x hx=>?_,dead:=fun x hx=>?_,rz:=fun x hx=>(AX x).trans (hI.rz x hx),total:=?_,links:=fun x hx=>?_,once:=fun x hx hk=>?_,opens:=fun x hx=>?_,gone:=fun x hx ja=>?_,up:=fun x hx e=>?_,deep:=?_,used:=?_ }
  ·show (obj O' x.k).id=_/\(obj O' x.k).kind=_/\_
   rw [P6,AX];exact hI.ob x hx
  ·show kg (obj O' x.k)
   have hm:=hI.mt x hx
   by_cases e:x.k=d
   ·rw [e] at hm ⊢
    rw [oD]
    exact hm.of rfl rfl rfl Ux rfl (.inl rfl) (.inr (hI.kind hd)) rfl
   by_cases e2:x.k=t.k
   ·rw [e2] at hm ⊢
    rw [oT]
    exact hm.of rfl rfl rfl hm.time rfl (.inl rfl) (.inl rfl) rfl
   rw [oX _ e e2];exact hm
  ·have he:e∈(obj O' x.k).ah:=he
   by_cases e1:x.k=d
   ·rw [e1,yS] at he
    rcases zo.1 he with rfl|he
    ·exact⟨iH,ht⟩
    exact hI.ah _ hd e he
   rw [fE _ e1] at he
   exact hI.ah x hx e he
  ·show jC (obj O' x.k).ah
   by_cases e1:x.k=d
   ·rw [e1,yS];exact jC.ins (hI.sorted _ hd) hn
   rw [fE _ e1];exact hI.sorted x hx
  ·show (obj O' x).ah=[]/\(obj O' x).up=none
   rw [oX x (fun e=>hx _ hd e.symm) (fun e=>hx t ht e.symm)]
   exact hI.dead x hx
  ·have h1:=hsum (fun _=>true)
   have h2:=hI.total
   rw [mg] at h2
   show S.X.ah+1=(tot S.idx O':Int)/\S.X.ah+1<=8192
   rw [mg]
   simp only [if_true] at h1
   omega
  ·show (obj O' x.k).links=(iw S.idx O' x.k:Int)
   have h1:=IC x.k
   have h2:=hI.links x hx
   by_cases e2:x.k=t.k
   ·rw [if_pos e2.symm] at h1
    rw [e2,oT]
    rw [e2] at h1
    show (obj S.O t.k).links+1=_
    omega
   rw [if_neg (fun e=>e2 e.symm)] at h1
   have:(obj O' x.k).links=(obj S.O x.k).links:=by
     by_cases e:x.k=d
     ·rw [e,oD]
     rw [oX _ e e2]
   omega
  ·show (obj O' x.k).links<=1
   have h1:=hI.once x hx hk
   by_cases e2:x.k=t.k
   ·have Kf:x=t:=gj hx ht e2
    subst Kf
    have:=(L6 hk).1
    rw [oT]
    show (obj S.O x.k).links+1<=1
    omega
   by_cases e:x.k=d
   ·rw [e] at h1 ⊢;rw [oD];exact h1
   rw [oX _ e e2];exact h1
  ·show (obj O' x.k).opens=_
   rw [P7];exact hI.opens x hx
  ·have ja:(obj O' x.k).gone=true:=ja
   rw [fG] at ja
   show (obj O' x.k).links=0/\(obj O' x.k).ah=[]
   by_cases e2:x.k=t.k
   ·rw [e2,GP] at ja;cases ja
   by_cases e:x.k=d
   ·rw [e,iM] at ja;cases ja
   rw [oX _ e e2];exact hI.gone x hx ja
  ·show (obj O' x.k).up=some e↔x.kind=2/\Live S.idx ⟨e,2⟩/\∃ n,aT n (obj O' e).ah=some x
   by_cases e2:x.k=t.k
   ·have Kf:x=t:=gj hx ht e2
    subst Kf
    rw [oT]
    show (if x.kind=2 then some d else (obj S.O x.k).up)=some e↔_
    by_cases hk:x.kind=2
    ·rw [if_pos hk]
     constructor
     ·intro h
      cases h
      exact⟨hk,hd,name,by rw [yS,wM hn,if_pos rfl]⟩
     rintro⟨_,hle,n,h⟩
     by_cases e3:e=d
     ·rw [e3]
     rw [fE _ e3] at h
     exact absurd h (P8 hk e n hle)
    rw [if_neg hk,hI.up x hx e]
    constructor
    ·rintro⟨h,_⟩;exact absurd h hk
    rintro⟨h,_⟩;exact absurd h hk
   have h1:(obj O' x.k).up=(obj S.O x.k).up:=by
     by_cases e:x.k=d
     ·rw [e,oD]
     rw [oX _ e e2]
   have h2:∀ n,aT n (obj O' e).ah=some x↔aT n (obj S.O e).ah=some x:=fun n=>by
     by_cases e3:e=d
     ·rw [e3,yS,wM hn]
      by_cases hnn:n=name
      ·rw [if_pos hnn,hnn,hn]
       constructor
       ·intro h;exact absurd (congrArg Th.k (Option.some.inj h)).symm e2
       intro h;cases h
      rw [if_neg hnn]
     rw [fE _ e3]
   rw [h1,hI.up x hx e]
   simp only [h2]
  ·obtain⟨dp,hdp⟩:=hI.deep
   by_cases hk:t.kind=2
   ·obtain⟨hl0,hnb⟩:=L6 hk
    have Vz:(obj S.O t.k).up=none:=by
      cases hu:(obj S.O t.k).up with
      | none=>rfl
      | some e=>
        obtain⟨_,h2,n,h3⟩:=(hI.up t ht e).1 hu
        exact absurd h3 (P8 hk e n h2)
    refine⟨fun x=>if jD S.O t.k x then dp x+dp d+1 else dp x,fun x e hx=>?_⟩
    have hx:(obj O' x).up=some e:=hx
    by_cases e2:x=t.k
    ·rw [e2,oT] at hx
     have hx:(if t.kind=2 then some d else (obj S.O t.k).up)=some e:=hx
     rw [if_pos hk] at hx
     cases hx
     subst e2
     simp only [if_neg hnb,if_pos (jD.here:jD S.O t.k t.k)]
     omega
    have hx:(obj S.O x).up=some e:=by
      by_cases e3:x=d
      ·rw [e3,oD] at hx;rw [e3];exact hx
      rw [oX _ e3 e2] at hx;exact hx
    have h1:=hdp _ _ hx
    by_cases hb:jD S.O t.k e
    ·simp only [if_pos hb,if_pos (jD.up hx hb)];omega
    have:¬ jD S.O t.k x:=fun h=>by
      rcases Di.1 h with h|⟨e',h1,h2⟩
      ·exact e2 h
      rw [hx] at h1;cases h1;exact hb h2
    simp only [if_neg hb,if_neg this];exact h1
   refine⟨dp,fun x e hx=>?_⟩
   have hx:(obj O' x).up=some e:=hx
   by_cases e2:x=t.k
   ·rw [e2,oT] at hx
    have hx:(if t.kind=2 then some d else (obj S.O t.k).up)=some e:=hx
    rw [if_neg hk] at hx
    rw [e2];exact hdp _ _ hx
   by_cases e3:x=d
   ·rw [e3,oD] at hx;rw [e3];exact hdp _ _ hx
   rw [oX _ e3 e2] at hx;exact hdp _ _ hx
  have:bytes S.idx O'=bytes S.idx S.O:=fT (fun p _=>by rw [IB])
  show S.X.used=(bytes S.idx O':Int)/\_
  rw [this];exact hI.used
end inv
end
section
open Go.RowKit Go.Maps bG aE
section new
variable {S:aG} {d:Nat} {name:ByteArray} {t:Th} {o:aR} {us':Used Th} {fU:Int}
theorem Inv0.newAt (hI:Inv0 S) {k0:Nat} (hlt:S.X.last < (k0:Int)) (hle:(k0:Int)<=1099511627776) {j7:Int} (Vm:j7=S.X.used+o.data.length/\j7<=140737488355328) (hid:o.id=(k0:Int)) (hk3:o.kind=1\/o.kind=2\/o.kind=3) (hl0:o.links=0) (he0:o.ah=[]) (hu0:o.up=none) (hg0:o.gone=false) (hm:kg o) (hlen:S.idx.length < 4096)
    (u1:aE.cQ (keys us')) (u2:∀ x∈keys us',1<=x/\x<=fU) (u3:(us'.length:Int)<=S.X.cH) (u4:0<=fU/\fU<=S.X.cH) (u5:∀ h t,aE.get us' h=some t->(Live S.idx t\/t=⟨k0,o.kind⟩)/\t.kind≠3) (u6:∀ k,k≠k0->hnd us' k=hnd S.us k) (u7:o.opens=(hnd us' (k0):Int)) :
    Inv0 { S with X:={ S.X with last:=(k0:Int),used:=j7 },O:=aD S.O (k0) (fun _=>o),idx:=ins ((k0:Int)) ⟨k0,o.kind⟩ S.idx,us:=us',ar:=fU }:=by
  have hnot:aE.get S.idx ((k0:Int))=none:=by
    cases e:aE.get S.idx ((k0:Int)) with
    | none=>rfl
    | some u=>have:=(hI.idx _ u e).2.2;omega
  have hget:∀ i,aE.get (ins ((k0:Int)) ⟨k0,o.kind⟩ S.idx) i=if i=(k0:Int) then some ⟨k0,o.kind⟩ else aE.get S.idx i:=fun i=>rM (get_none.1 hnot) i
  have eU:∀ x,Live (ins ((k0:Int)) ⟨k0,o.kind⟩ S.idx) x↔x=⟨k0,o.kind⟩\/Live S.idx x:=fun x=>by
    unfold Live
    rw [hget]
    constructor
    ·intro h
     split at h
     ·exact .inl (Option.some.inj h).symm
     exact .inr h
    rintro (h|h)
    ·subst h;rw [if_pos rfl]
    rw [if_neg (by intro e;rw [e,hnot] at h;cases h)];exact h
  have oN:obj (aD S.O (k0) (fun _=>o)) (k0)=o:=bL
  have oX:∀ x,Live S.idx x->obj (aD S.O (k0) (fun _=>o)) x.k=obj S.O x.k:=fun x hx=>cx (hI.free hlt hx)
  have hfr:=hI.Cs hlt
  have hmem:∀ p∈S.idx,obj (aD S.O (k0) (fun _=>o)) p.2.k=obj S.O p.2.k:=fun p hp=>cx (hfr.idx p hp)
  have hsum:∀ g:aR->Nat,g o=0->dF (fun p:Int×Th=>g (obj (aD S.O (k0) (fun _=>o)) p.2.k)) (ins ((k0:Int)) ⟨k0,o.kind⟩ S.idx)=dF (fun p:Int×Th=>g (obj S.O p.2.k)) S.idx:=fun g hg=>by
    rw [zC]
    show g (obj _ (k0))+_=_
    rw [oN,hg,Nat.zero_add]
    exact fT (fun p hp=>by rw [hmem p hp])
  refine { hI with last:=?_,rise:=?_,len:=?_,idx:=fun i x e=>?_,ob:=fun x hx=>?_,mt:=fun x hx=>?_,ah:=fun x hx e he=>?_,sorted:=fun x hx=>?_,dead:=fun x hx=>?_,rz:=fun x hx=>?_,total:=?_,links:=fun x hx=>?_,once:=fun x hx hk=>?_,opens:=fun x hx=>?_,usr:=u1,xh:=u2,Dd:=u3,ar:=u4,us:=fun h x e=>?_,gone:=fun x hx ja=>?_,up:=fun x hx e=>?_,deep:=?_,used:=?_ }
  ·have:=hI.last
   show 0<=(k0:Int)/\(k0:Int)<=1099511627776
   omega
  ·exact vg hI.rise (get_none.1 hnot)
  ·have:=hI.cN
   show (ins ((k0:Int)) _ S.idx).length<=4096
   rw [iI];omega
  ·have e:aE.get (ins ((k0:Int)) ⟨k0,o.kind⟩ S.idx) i=some x:=e
   rw [hget] at e
   have:=hI.last
   show i=(x.k:Int)/\0 < i/\i<=(k0:Int)
   split at e
   ·cases e
    rename_i e2
    refine⟨by rw [e2],by omega,by omega⟩
   have:=hI.idx i x e
   omega
  ·show (obj (aD S.O (k0) (fun _=>o)) x.k).id=_/\(obj (aD S.O (k0) (fun _=>o)) x.k).kind=_/\_
   rcases (eU x).1 hx with h|h
   ·subst h;rw [oN];exact⟨hid,rfl,hk3⟩
   rw [oX x h];exact hI.ob x h
  ·show kg (obj (aD S.O (k0) (fun _=>o)) x.k)
   rcases (eU x).1 hx with h|h
   ·subst h;rw [oN];exact hm
   rw [oX x h];exact hI.mt x h
  ·have he:e∈(obj (aD S.O (k0) (fun _=>o)) x.k).ah:=he
   rcases (eU x).1 hx with h|h
   ·subst h;rw [oN,he0] at he;cases he
   rw [oX x h] at he
   have h1:=hI.ah x h e he
   exact⟨h1.1,(eU _).2 (.inr h1.2)⟩
  ·show jC (obj (aD S.O (k0) (fun _=>o)) x.k).ah
   rcases (eU x).1 hx with h|h
   ·subst h;rw [oN,he0];exact List.Pairwise.nil
   rw [oX x h];exact hI.sorted x h
  ·show (obj (aD S.O (k0) (fun _=>o)) x).ah=[]/\(obj (aD S.O (k0) (fun _=>o)) x).up=none
   have h1:x≠k0:=fun e=>hx ⟨k0,o.kind⟩ ((eU _).2 (.inl rfl)) e.symm
   rw [cx h1]
   exact hI.dead x (fun u hu=>hx u ((eU _).2 (.inr hu)))
  ·have hx:(k0:Int) < (x:Int):=hx
   show (obj (aD S.O (k0) (fun _=>o)) x).kind=0
   rw [cx (fun e=>by rw [e] at hx;omega)]
   exact hI.rz x (by omega)
  ·show S.X.ah=(tot _ _:Int)/\S.X.ah<=8192
   have:tot (ins ((k0:Int)) ⟨k0,o.kind⟩ S.idx) (aD S.O (k0) (fun _=>o))=tot S.idx S.O:=hsum (fun o=>o.ah.length) (by rw [he0];rfl)
   rw [this];exact hI.total
  ·show (obj (aD S.O (k0) (fun _=>o)) x.k).links=(iw _ _ x.k:Int)
   have:iw (ins ((k0:Int)) ⟨k0,o.kind⟩ S.idx) (aD S.O (k0) (fun _=>o)) x.k=iw S.idx S.O x.k:=hsum (fun o=>o.ah.countP (fun e:ByteArray×Th=>decide (e.2.k=x.k))) (by rw [he0];rfl)
   rw [this]
   rcases (eU x).1 hx with h|h
   ·subst h
    rw [oN,hl0]
    have:iw S.idx S.O (k0)=0:=by
      apply Classical.byContradiction
      intro hne
      obtain⟨i,u,hu,e,he,hek⟩:=AO hI.rise (Nat.pos_of_ne_zero hne)
      exact hfr.ah u.k e he hek
    rw [this];rfl
   rw [oX x h];exact hI.links x h
  ·show (obj (aD S.O (k0) (fun _=>o)) x.k).links<=1
   rcases (eU x).1 hx with h|h
   ·subst h;rw [oN,hl0];decide
   rw [oX x h];exact hI.once x h hk
  ·show (obj (aD S.O (k0) (fun _=>o)) x.k).opens=(hnd us' x.k:Int)
   rcases (eU x).1 hx with h|h
   ·subst h;rw [oN];exact u7
   rw [oX x h,u6 _ (hI.free hlt h)];exact hI.opens x h
  ·obtain⟨h1,h2⟩:=u5 h x e
   exact⟨(eU x).2 h1.symm,h2⟩
  ·have ja:(obj (aD S.O (k0) (fun _=>o)) x.k).gone=true:=ja
   show (obj (aD S.O (k0) (fun _=>o)) x.k).links=0/\(obj (aD S.O (k0) (fun _=>o)) x.k).ah=[]
   rcases (eU x).1 hx with h|h
   ·subst h;rw [oN,hg0] at ja;cases ja
   rw [oX x h] at ja ⊢;exact hI.gone x h ja
  ·show (obj (aD S.O (k0) (fun _=>o)) x.k).up=some e↔x.kind=2/\Live _ ⟨e,2⟩/\∃ n,aT n (obj (aD S.O (k0) (fun _=>o)) e).ah=some x
   rcases (eU x).1 hx with h|h
   ·subst h
    rw [oN,hu0]
    constructor
    ·intro h;cases h
    rintro⟨_,hle,n,h⟩
    by_cases e2:e=k0
    ·rw [e2,oN,he0] at h;cases h
    rw [cx e2] at h;exact absurd rfl (hfr.ah e _ (lW h))
   rw [oX x h,hI.up x h e]
   constructor
   ·rintro⟨h1,h2,n,h3⟩
    exact⟨h1,(eU _).2 (.inr h2),n,by rw [oX ⟨e,2⟩ h2];exact h3⟩
   rintro⟨h1,h2,n,h3⟩
   by_cases e2:e=k0
   ·rw [e2,oN,he0] at h3;cases h3
   rw [cx e2] at h3
   refine⟨h1,?_,n,h3⟩
   rcases (eU _).1 h2 with h4|h4
   ·exact absurd (congrArg Th.k h4) e2
   exact h4
  ·obtain⟨dp,hdp⟩:=hI.deep
   refine⟨dp,fun x e hx=>?_⟩
   have hx:(obj (aD S.O (k0) (fun _=>o)) x).up=some e:=hx
   by_cases e2:x=k0
   ·rw [e2,oN,hu0] at hx;cases hx
   rw [cx e2] at hx;exact hdp _ _ hx
  show j7=(bytes _ _:Int)/\_
  have h1:bytes (ins (k0:Int) ⟨k0,o.kind⟩ S.idx) (aD S.O k0 (fun _=>o))=o.data.length+bytes S.idx S.O:=by
    unfold bytes
    rw [zC]
    show (obj _ k0).data.length+_=_
    rw [oN]
    congr 1
    exact fT (fun p hp=>by rw [hmem p hp])
  have h2:=hI.used
  rw [h1]
  show j7=_/\j7<=140737488355328
  omega
theorem Inv0.new (hI:Inv0 S) (hid:o.id=S.X.last+1) (hk3:o.kind=1\/o.kind=2\/o.kind=3) (hl0:o.links=0) (he0:o.ah=[]) (hu0:o.up=none) (hg0:o.gone=false) (P9:o.data=[]) (hm:kg o) (hlast:S.X.last < 1099511627776) (hlen:(S.idx.length:Int) < S.X.cN)
    (u1:aE.cQ (keys us')) (u2:∀ x∈keys us',1<=x/\x<=fU) (u3:(us'.length:Int)<=S.X.cH) (u4:0<=fU/\fU<=S.X.cH) (u5:∀ h t,aE.get us' h=some t->(Live S.idx t\/t=⟨aO S.X,o.kind⟩)/\t.kind≠3) (u6:∀ k,k≠aO S.X->hnd us' k=hnd S.us k) (u7:o.opens=(hnd us' (aO S.X):Int)) :
    Inv0 { S with X:={ S.X with last:=S.X.last+1 },O:=aD S.O (aO S.X) (fun _=>o),idx:=ins (S.X.last+1) ⟨aO S.X,o.kind⟩ S.idx,us:=us',ar:=fU }:=by
  have hnk:=pz hI
  have h:=hI.newAt (k0:=aO S.X) (j7:=S.X.used) (by omega) (by omega) ⟨by rw [P9];simp,hI.used.2⟩ (hid.trans hnk.symm) hk3 hl0 he0 hu0 hg0 hm (by have:=hI.cN;omega) u1 u2 u3 u4 u5 u6 u7
  rw [hnk] at h
  exact h
theorem Inv.add (hI:Inv S) (hd:Live S.idx ⟨d,2⟩) (iM:(obj S.O d).gone=false) (hn:aT name (obj S.O d).ah=none) (iH:bI name) (hroom:Room S.X S.idx)
    (hid:o.id=S.X.last+1) (hk3:o.kind=1\/o.kind=2\/o.kind=3) (hl0:o.links=0) (he0:o.ah=[]) (hu0:o.up=none) (hg0:o.gone=false) (P9:o.data=[]) (hm:kg o)
    (u1:aE.cQ (keys us')) (u2:∀ x∈keys us',1<=x/\x<=fU) (u3:(us'.length:Int)<=S.X.cH) (u4:0<=fU/\fU<=S.X.cH) (u5:∀ h t,aE.get us' h=some t->(Live S.idx t\/t=⟨aO S.X,o.kind⟩)/\t.kind≠3) (u6:∀ k,k≠aO S.X->hnd us' k=hnd S.us k) (u7:o.opens=(hnd us' (aO S.X):Int)) :
    Inv (eP { S with us:=us',ar:=fU } d name o):=by
  have h1:=hI.toInv0.new hid hk3 hl0 he0 hu0 hg0 P9 hm hroom.2.1 hroom.1 u1 u2 u3 u4 u5 u6 u7
  have hne:d≠aO S.X:=hI.uo hd
  have hnk:=pz hI.toInv0
  have hnot:aE.get S.idx (S.X.last+1)=none:=by
    cases e:aE.get S.idx (S.X.last+1) with
    | none=>rfl
    | some u=>have:=(hI.idx _ u e).2.2;omega
  have hget:∀ i,aE.get (ins (S.X.last+1) ⟨aO S.X,o.kind⟩ S.idx) i=if i=S.X.last+1 then some ⟨aO S.X,o.kind⟩ else aE.get S.idx i:=fun i=>rM (get_none.1 hnot) i
  have hdl:Live (ins (S.X.last+1) ⟨aO S.X,o.kind⟩ S.idx) ⟨d,2⟩:=by
    unfold Live
    rw [hget,if_neg (by intro e;have:aE.get S.idx ((d:Nat):Int)=some ⟨d,2⟩:=hd;rw [show ((⟨d,2⟩:Th).k:Int)=(d:Int) from rfl] at e;rw [e,hnot] at this;cases this)]
    exact hd
  have hnl:Live (ins (S.X.last+1) ⟨aO S.X,o.kind⟩ S.idx) ⟨aO S.X,o.kind⟩:=by
    unfold Live
    rw [hget,if_pos hnk]
  have oN:obj (aD S.O (aO S.X) (fun _=>o)) (aO S.X)=o:=bL
  have oD:obj (aD S.O (aO S.X) (fun _=>o)) d=obj S.O d:=cx hne
  have hnb:¬ jD (aD S.O (aO S.X) (fun _=>o)) (aO S.X) d:=fun hb=>by
    have key:∀ x,jD (aD S.O (aO S.X) (fun _=>o)) (aO S.X) x->x=aO S.X:=fun x hx=>by
      induction hx with
      | here=>rfl
      | @up k j hu _ ih=>
        subst ih
        by_cases e:k=aO S.X
        ·exact e
        rw [cx e] at hu;exact absurd hu (hI.fresh.up k)
    exact hne (key d hb)
  have h2:=h1.put (d:=d) (name:=name) (t:=⟨aO S.X,o.kind⟩) (O':=(eP { S with us:=us',ar:=fU } d name o).O) hdl (by rw [oD];exact iM) (by rw [oD];exact hn) iH hnl (by rw [oN];exact hg0) (fun _=>⟨by rw [oN];exact hl0,hnb⟩) (fun e=>hne e.symm) hroom.2.2 h1.now (fun k=>xj (fun e=>hne e.symm))
  refine⟨h2,fun x hx ja=>?_⟩
  have g1:∀ k,(obj (eP { S with us:=us',ar:=fU } d name o).O k).gone=(obj (aD S.O (aO S.X) (fun _=>o)) k).gone:=fun k=>mO (g:=aR.gone) (fun _ _=>rfl) (fun _ _=>rfl) (fun _ _ _=>rfl) (fun _ _=>rfl)
  have g2:∀ k,(obj (eP { S with us:=us',ar:=fU } d name o).O k).opens=(obj (aD S.O (aO S.X) (fun _=>o)) k).opens:=fun k=>mO (g:=aR.opens) (fun _ _=>rfl) (fun _ _=>rfl) (fun _ _ _=>rfl) (fun _ _=>rfl)
  rw [g1] at ja
  rw [g2]
  by_cases e:x.k=aO S.X
  ·rw [e,oN,hg0] at ja;cases ja
  rw [cx e] at ja ⊢
  refine hI.full x ?_ ja
  have hx:aE.get (ins (S.X.last+1) ⟨aO S.X,o.kind⟩ S.idx) x.k=some x:=hx
  rw [hget] at hx
  split at hx
  ·exact absurd (congrArg Th.k (Option.some.inj hx)).symm e
  exact hx
end new
section drop
variable {S:aG} {d:Nat} {name:ByteArray} {t:Th}
theorem iN {α:Type} {g:aR->α} {O:bY} {k j:Nat} (h:∀ o,g { o with up:=none }=g o):g (obj (orphan O j) k)=g (obj O k):=dH (f:=fun o=>{ o with up:=none }) h
theorem xA {O:bY} {k:Nat}:ru (orphan O k) t↔ru O t:=by
  unfold ru
  rw [iN (g:=aR.gone) (fun _=>rfl),iN (g:=aR.opens) (fun _=>rfl)]
theorem ES {O:bY} {k:Nat} {u:Int}:jQ (orphan O k) u t=jQ O u t:=by
  unfold jQ
  simp only [xA,iN (g:=aR.data) (fun _=>rfl)]
theorem ET {O:bY} {k:Nat} {idx:Used Th}:jB (orphan O k) idx t=jB O idx t:=by
  unfold jB
  simp only [xA,iN (g:=aR.id) (fun _=>rfl)]
theorem Inv.drop (hI:Inv S) (hd:Live S.idx ⟨d,2⟩) (hl:aT name (obj S.O d).ah=some t) (he:t.kind=2->(obj S.O t.k).ah=[]):Inv { aI S d name t with O:=orphan (aI S d name t).O t.k }:=by
  have hne:=hI.ne hd hl
  have ht:=(hI.ent hd hl).2
  have hlk:(obj (aQ S.X S.O d name t) t.k).links=(obj S.O t.k).links - 1:=by rw [iR hne,if_neg hne,if_pos rfl]
  have hfull:∀ (O2:bY),(∀ u,u≠t.k->(obj O2 u).gone=(obj S.O u).gone/\(obj O2 u).opens=(obj S.O u).opens)->∀ u,Live S.idx u->u≠t->(obj O2 u.k).gone=true->0 < (obj O2 u.k).opens:=fun O2 h u hu hut hg=>by
    have hk:u.k≠t.k:=fun e=>hut (gj hu ht e)
    rw [(h _ hk).1] at hg
    rw [(h _ hk).2]
    exact hI.full u hu hg
  by_cases h0:(obj (aQ S.X S.O d name t) t.k).links=0
  ·have e1:aI S d name t=_:=s5 h0
   have hO:∀ k,obj (orphan (pY (aQ S.X S.O d name t) t.k) t.k) k=if k=d then { obj S.O d with ah:=fX name (obj S.O d).ah,sec:=S.X.cS,nano:=S.X.cZ } else if k=t.k then { obj S.O k with links:=(obj S.O k).links - 1,gone:=true,up:=none } else obj S.O k:=fun k=>by
     unfold orphan pY
     rw [sW,jX]
     by_cases e:k=t.k
     ·rw [if_pos e,iR hne,if_neg (fun e2=>hne (e.symm.trans e2)),if_pos e,if_neg (fun e2=>hne (e.symm.trans e2)),if_pos e]
     rw [if_neg e,iR hne,if_neg e,if_neg e]
   have h1:=hI.toInv0.cut hd hl hO (.inr ⟨by rw [← hlk];exact h0,he⟩)
   have h2:=h1.rA (t:=t) ht (hfull _ (fun u hu=>by
     rw [iN (g:=aR.gone) (fun _=>rfl),iN (g:=aR.opens) (fun _=>rfl)]
     show (obj (aD _ t.k _) u).gone=_/\(obj (aD _ t.k _) u).opens=_
     rw [cx hu,dw (g:=aR.gone) (fun _ _=>rfl) (fun _ _=>rfl) (fun _ _ _=>rfl),dw (g:=aR.opens) (fun _ _=>rfl) (fun _ _=>rfl) (fun _ _ _=>rfl)]
     exact⟨rfl,rfl⟩))
   rw [e1]
   unfold rA at h2
   simp only [ES,ET] at h2
   exact h2
  have e1:aI S d name t=_:=tf h0
  have hnd:t.kind≠2:=fun hk=>by
    have h1:=hI.once t ht hk
    have h2:=hI.links t ht
    have h3:0 < iw S.idx S.O t.k:=mM hd hl
    omega
  have IG:(obj S.O t.k).up=none:=by
    cases hu:(obj S.O t.k).up with
    | none=>rfl
    | some e=>exact absurd ((hI.up t ht e).1 hu).1 hnd
  have hO:∀ k,obj (orphan (aQ S.X S.O d name t) t.k) k=if k=d then { obj S.O d with ah:=fX name (obj S.O d).ah,sec:=S.X.cS,nano:=S.X.cZ } else if k=t.k then { obj S.O k with links:=(obj S.O k).links - 1,gone:=(obj S.O t.k).gone,up:=none } else obj S.O k:=fun k=>by
    unfold orphan
    rw [jX]
    by_cases e:k=t.k
    ·rw [if_pos e,iR hne,if_neg (fun e2=>hne (e.symm.trans e2)),if_pos e,if_neg (fun e2=>hne (e.symm.trans e2)),if_pos e,e]
    rw [if_neg e,iR hne,if_neg e,if_neg e]
  have h1:=hI.toInv0.cut hd hl hO (.inl rfl)
  rw [e1]
  refine⟨h1,fun u hu hg=>?_⟩
  have hg:(obj (orphan (aQ S.X S.O d name t) t.k) u.k).gone=true:=hg
  show 0 < (obj (orphan (aQ S.X S.O d name t) t.k) u.k).opens
  rw [iN (g:=aR.gone) (fun _=>rfl),dw (g:=aR.gone) (fun _ _=>rfl) (fun _ _=>rfl) (fun _ _ _=>rfl)] at hg
  rw [iN (g:=aR.opens) (fun _=>rfl),dw (g:=aR.opens) (fun _ _=>rfl) (fun _ _=>rfl) (fun _ _ _=>rfl)]
  exact hI.full u hu hg
theorem L7 {k:Nat}:(obj (aI S d name t).O k).up=(obj S.O k).up:=by
  unfold aI
  simp only
  split
  ·exact (pG (g:=aR.up) (fun _ _=>rfl)).trans (dw (g:=aR.up) (fun _ _=>rfl) (fun _ _=>rfl) (fun _ _ _=>rfl))
  exact dw (g:=aR.up) (fun _ _=>rfl) (fun _ _=>rfl) (fun _ _ _=>rfl)
theorem Inv.yj (hI:Inv S) (hd:Live S.idx ⟨d,2⟩) (hl:aT name (obj S.O d).ah=some t) (hk:t.kind≠2):Inv (aI S d name t):=by
  have h:=hI.drop hd hl (fun e=>absurd e hk)
  have ht:=(hI.ent hd hl).2
  have IG:(obj S.O t.k).up=none:=by
    cases hu:(obj S.O t.k).up with
    | none=>rfl
    | some e=>exact absurd ((hI.up t ht e).1 hu).1 hk
  have e:orphan (aI S d name t).O t.k=(aI S d name t).O:=Oq (by
    have:(obj (aI S d name t).O t.k).up=none:=L7.trans IG
    rw [← this])
  rw [e] at h
  exact h
end drop
end
end Go.Proofs.YtidjcblbdmfalaaGreat
section
namespace Go.Proofs.YtidjcblbdmfalaaGreat.aE
open bG
variable {V:Type}
theorem zG (us:Used V):(keys us).length=us.length:=by simp [keys]
theorem least_le {us:Used V} (hr:cQ (keys us)) (hp:∀ x∈keys us,1<=x):1<=least us/\least us∉keys us/\∀ x,1<=x->x < least us->x∈keys us:=mI (keys us) 1 hr hp
theorem xB:∀ (ks:List Int) (h:Int),iB h ks<=h+ks.length
  | [],h=>by simp [iB]
  | k::r,h=>by
    unfold iB
    split
    ·have:=xB r (h+1);simp only [List.length_cons];push_cast;omega
    simp only [List.length_cons];push_cast;omega
theorem Ga (us:Used V):least us<=us.length+1:=by
  have:=xB (keys us) 1
  rw [zG] at this
  unfold least;omega
end Go.Proofs.YtidjcblbdmfalaaGreat.aE
end
namespace Go.Proofs.YtidjcblbdmfalaaGreat
section
open Go.RowKit Go.Maps bG aE
section ops
variable {S:aG} {d to:Nat} {name toName:ByteArray} {t:Th}
theorem Inv.link (hI:Inv S) (hd:Live S.idx ⟨d,2⟩) (iM:(obj S.O d).gone=false) (hn:aT name (obj S.O d).ah=none) (iH:bI name) (ht:Live S.idx t) (GP:(obj S.O t.k).gone=false) (hk:t.kind≠2) (hroom:S.X.ah < 8192) :
    Inv { S with X:={ S.X with ah:=S.X.ah+1 },O:=cR S.X S.O d name t }:=by
  have hne:t.k≠d:=fun e=>hk (congrArg Th.kind (gj ht hd e))
  have h1:=hI.toInv0.put hd iM hn iH ht GP (fun e=>absurd e hk) hne hroom hI.now (fun k=>xj hne)
  refine⟨h1,fun x hx hg=>?_⟩
  have hg:(obj (cR S.X S.O d name t) x.k).gone=true:=hg
  show 0 < (obj (cR S.X S.O d name t) x.k).opens
  rw [mO (g:=aR.gone) (fun _ _=>rfl) (fun _ _=>rfl) (fun _ _ _=>rfl) (fun _ _=>rfl)] at hg
  rw [mO (g:=aR.opens) (fun _ _=>rfl) (fun _ _=>rfl) (fun _ _ _=>rfl) (fun _ _=>rfl)]
  exact hI.full x hx hg
theorem jS (hne:t.k≠d) {X:FM} {O:bY} (h:aT toName (obj O to).ah=none):aT toName (obj (aQ X O d name t) to).ah=none:=by
  rw [iR hne]
  split
  ·rename_i e
   subst e
   show aT toName (fX name (obj O to).ah)=none
   rw [qi];split
   ·rfl
   exact h
  split
  ·exact h
  exact h
theorem Inv.move (hI:Inv S) (hd:Live S.idx ⟨d,2⟩) (hl:aT name (obj S.O d).ah=some t) (hto:Live S.idx ⟨to,2⟩) (iM:(obj S.O to).gone=false) (hn:aT toName (obj S.O to).ah=none) (iH:bI toName) (hb:t.kind=2->¬ jD S.O t.k to):Inv (nI S d name to toName t):=by
  have hne:=hI.ne hd hl
  have ht:=(hI.ent hd hl).2
  have L8:t.k≠to:=fun e=>by
    have h1:t=⟨to,2⟩:=gj ht hto e
    exact hb (by rw [h1]) (by rw [e];exact .here)
  have hgt:(obj S.O t.k).gone=false:=by
    cases hg:(obj S.O t.k).gone with
    | false=>rfl
    | true=>
      have h1:=(hI.gone t ht hg).1
      have h2:=hI.links t ht
      have h3:0 < iw S.idx S.O t.k:=mM hd hl
      omega
  have hO:∀ k,obj (orphan (aQ S.X S.O d name t) t.k) k=if k=d then { obj S.O d with ah:=fX name (obj S.O d).ah,sec:=S.X.cS,nano:=S.X.cZ } else if k=t.k then { obj S.O k with links:=(obj S.O k).links - 1,gone:=(obj S.O t.k).gone,up:=none } else obj S.O k:=fun k=>by
    unfold orphan
    rw [jX]
    by_cases e:k=t.k
    ·rw [if_pos e,iR hne,if_neg (fun e2=>hne (e.symm.trans e2)),if_pos e,if_neg (fun e2=>hne (e.symm.trans e2)),if_pos e,e]
    rw [if_neg e,iR hne,if_neg e,if_neg e]
  have h1:=hI.toInv0.cut hd hl hO (.inl rfl)
  have g0:∀ {α:Type} (g:aR->α),(∀ o es,g { o with ah:=es }=g o)->(∀ o l,g { o with links:=l }=g o)->(∀ o a b,g { o with sec:=a,nano:=b }=g o)->(∀ o u,g { o with up:=u }=g o)->∀ k,g (obj (orphan (aQ S.X S.O d name t) t.k) k)=g (obj S.O k):=fun g a b c e k=>(iN (fun o=>e o none)).trans (dw a b c)
  have hlk:=hI.links t ht
  have hlp:0 < iw S.idx S.O t.k:=mM hd hl
  have hend:(obj (orphan (aQ S.X S.O d name t) t.k) to).ah=(obj (aQ S.X S.O d name t) to).ah:=iN (g:=aR.ah) (fun _=>rfl)
  have h2:=h1.put (d:=to) (name:=toName) (t:=t) (O':=(nI S d name to toName t).O) hto (by
      show (obj (orphan (aQ S.X S.O d name t) t.k) to).gone=false
      rw [g0 aR.gone (fun _ _=>rfl) (fun _ _=>rfl) (fun _ _ _=>rfl) (fun _ _=>rfl)];exact iM) (by
      show aT toName (obj (orphan (aQ S.X S.O d name t) t.k) to).ah=none
      rw [hend];exact jS hne hn) iH ht (by
      show (obj (orphan (aQ S.X S.O d name t) t.k) t.k).gone=false
      rw [g0 aR.gone (fun _ _=>rfl) (fun _ _=>rfl) (fun _ _ _=>rfl) (fun _ _=>rfl)];exact hgt) (fun hk=>⟨by
        have h3:=hI.once t ht hk
        show (obj (orphan (aQ S.X S.O d name t) t.k) t.k).links=0
        rw [hO,if_neg hne,if_pos rfl]
        show (obj S.O t.k).links - 1=0
        omega,fun hb2=>hb hk (IE (fun x e hx=>by
          have hx:(obj (orphan (aQ S.X S.O d name t) t.k) x).up=some e:=hx
          by_cases e1:x=t.k
          ·rw [hO,if_neg (by rw [e1];exact hne),if_pos e1] at hx;cases hx
          rw [hO] at hx
          split at hx
          ·rename_i e2;rw [e2];exact hx
          first|exact hx|(rw [if_neg e1] at hx;exact hx)) hb2)⟩) L8 (by
      have:=hI.total
      show S.X.ah - 1 < 8192
      omega) hI.now (fun k=>by
      show obj (cR S.X (aQ S.X S.O d name t) to toName t) k=_
      rw [xj L8]
      by_cases e:k=to
      ·rw [if_pos e,if_pos e]
       have h3:obj (orphan (aQ S.X S.O d name t) t.k) to=obj (aQ S.X S.O d name t) to:=cx (fun e=>L8 e.symm)
       rw [show obj _ to=_ from h3]
      rw [if_neg e,if_neg e]
      by_cases e2:k=t.k
      ·rw [if_pos e2,if_pos e2,e2]
       show _={ obj (orphan (aQ S.X S.O d name t) t.k) t.k with links:=(obj (orphan (aQ S.X S.O d name t) t.k) t.k).links+1,up:=if t.kind=2 then some to else (obj (orphan (aQ S.X S.O d name t) t.k) t.k).up }
       have h3:obj (orphan (aQ S.X S.O d name t) t.k) t.k={ obj (aQ S.X S.O d name t) t.k with up:=none }:=bL
       rw [h3]
       by_cases hk:t.kind=2
       ·rw [if_pos hk,if_pos hk]
       rw [if_neg hk,if_neg hk]
       have IG:(obj (aQ S.X S.O d name t) t.k).up=none:=by
         rw [dw (g:=aR.up) (fun _ _=>rfl) (fun _ _=>rfl) (fun _ _ _=>rfl)]
         cases hu:(obj S.O t.k).up with
         | none=>rfl
         | some e=>exact absurd ((hI.up t ht e).1 hu).1 hk
       rw [IG]
      rw [if_neg e2,if_neg e2]
      have h3:obj (orphan (aQ S.X S.O d name t) t.k) k=obj (aQ S.X S.O d name t) k:=cx e2
      exact h3.symm)
  refine⟨h2,fun x hx hg=>?_⟩
  have g3:∀ {α:Type} (g:aR->α),(∀ o es,g { o with ah:=es }=g o)->(∀ o l,g { o with links:=l }=g o)->(∀ o a b,g { o with sec:=a,nano:=b }=g o)->(∀ o u,g { o with up:=u }=g o)->∀ k,g (obj (nI S d name to toName t).O k)=g (obj S.O k):=fun g a b c e k=>(mO a b c e).trans (dw a b c)
  rw [g3 aR.gone (fun _ _=>rfl) (fun _ _=>rfl) (fun _ _ _=>rfl) (fun _ _=>rfl)] at hg
  rw [g3 aR.opens (fun _ _=>rfl) (fun _ _=>rfl) (fun _ _ _=>rfl) (fun _ _=>rfl)]
  exact hI.full x hx hg
theorem Cu {us:Used Th} {h:Int} {k:Nat}:hnd (ins h t us) k=(if t.k=k then 1 else 0)+hnd us k:=zC
theorem OC {us:Used Th} {h:Int} {k:Nat} (hr:aE.cQ (keys us)) (e:aE.get us h=some t):hnd (del h us) k+(if t.k=k then 1 else 0)=hnd us k:=zE (g:=fun p:Int×Th=>if p.2.k=k then 1 else 0) hr e
theorem GW {us:Used Th} {ar:Int} (hr:aE.cQ (keys us)) (h1:∀ x∈keys us,1<=x/\x<=ar):aE.cQ (keys (ins (aE.least us) t us))/\∀ x∈keys (ins (aE.least us) t us),1<=x/\x<=max ar ((us.length:Int)+1):=by
  obtain⟨g1,g2,_⟩:=least_le hr (fun x hx=>(h1 x hx).1)
  have g3:=Ga us
  refine⟨vg hr g2,fun x hx=>?_⟩
  rcases (kQ _ _ _ _).1 hx with e|e
  ·subst e;omega
  have:=h1 x e;omega
theorem Inv.cr (hI:Inv S) (ht:Live S.idx t) (hk:t.kind≠3):Inv (Proofs.YtidjcblbdmfalaaGreat.cr S t).2.2:=by
  by_cases hlt:(S.us.length:Int) < S.X.cH
  ·rw [kG hlt]
   obtain⟨g1,g2,_⟩:=least_le hI.usr (fun x hx=>(hI.xh x hx).1)
   obtain⟨v1,v2⟩:=GW (t:=t) hI.usr hI.xh
   have hb:bytes S.idx (aD S.O t.k (fun o=>{ o with opens:=o.opens+1 }))=bytes S.idx S.O:=fT (fun p _=>by rw [dH (f:=fun o=>{ o with opens:=o.opens+1 }) (g:=aR.data) (fun _=>rfl)])
   have h1:=hI.toInv0.own (k:=t.k) (f:=fun o=>{ o with opens:=o.opens+1 }) (j7:=S.X.used) (us':=ins (aE.least S.us) t S.us) (fU:=max S.ar ((S.us.length:Int)+1)) (fun _=>rfl) (fun _=>rfl) (fun _=>rfl) (fun _=>rfl) (fun _=>rfl) (fun _=>rfl)
     (fun u hu e=>by rw [← e];exact (hI.mt u hu).of rfl rfl rfl (hI.mt u hu).time rfl (.inl rfl) (.inl rfl) rfl)
     (fun u hu=>by
       have h2:=hI.opens u hu
       rw [Cu]
       by_cases e:u.k=t.k
       ·rw [e,bL,if_pos rfl,← e]
        show (obj S.O u.k).opens+1=_
        omega
       rw [cx e,if_neg (fun e2=>e e2.symm)];omega)
     v1 v2 (by rw [iI];omega) (by have:=hI.ar;omega) (fun h u e=>by
       rw [rM g2] at e
       split at e
       ·cases e;exact⟨ht,hk⟩
       exact hI.us h u e) ⟨by rw [hb];exact hI.used.1,hI.used.2⟩
   refine⟨h1,fun u hu hg=>?_⟩
   have hg:(obj (aD S.O t.k (fun o=>{ o with opens:=o.opens+1 })) u.k).gone=true:=hg
   rw [dH (f:=fun o=>{ o with opens:=o.opens+1 }) (g:=aR.gone) (fun _=>rfl)] at hg
   have h2:=hI.full u hu hg
   show 0 < (obj (aD S.O t.k (fun o=>{ o with opens:=o.opens+1 })) u.k).opens
   by_cases e:u.k=t.k
   ·rw [e,bL];rw [e] at h2;show 0 < (obj S.O t.k).opens+1;omega
   rw [cx e];exact h2
  rw [l6 hlt];exact hI
theorem Inv.dI (hI:Inv S) {k:Nat} (ht:Live S.idx ⟨k,1⟩) (bs:List UInt8):Inv (Proofs.YtidjcblbdmfalaaGreat.dI S k bs).2.2:=by
  unfold Proofs.YtidjcblbdmfalaaGreat.dI
  split
  ·exact hI
  split
  ·exact hI
  rename_i hroom
  have hlen:(obj (aD S.O k (fun o=>{ o with data:=o.data++bs.take (bh S.X bs.length),sec:=S.X.cS,nano:=S.X.cZ })) k).data.length=(obj S.O k).data.length+bh S.X bs.length:=by
    rw [bL]
    show ((obj S.O k).data++bs.take (bh S.X bs.length)).length=_
    rw [List.length_append,List.length_take]
    unfold bh
    omega
  have hb:=zD (g:=fun p:Int×Th=>(obj S.O p.2.k).data.length) (g':=fun p:Int×Th=>(obj (aD S.O k (fun o=>{ o with data:=o.data++bs.take (bh S.X bs.length),sec:=S.X.cS,nano:=S.X.cZ })) p.2.k).data.length) hI.rise ht (fun p hp hne=>by
    have h1:=hI.key (mK hI.rise hp)
    show (obj (aD _ k _) p.2.k).data.length=_
    rw [cx (fun e=>hne (by rw [h1,e]))])
  have hb:bytes S.idx (aD S.O k (fun o=>{ o with data:=o.data++bs.take (bh S.X bs.length),sec:=S.X.cS,nano:=S.X.cZ }))+(obj S.O k).data.length=bytes S.idx S.O+(obj (aD S.O k (fun o=>{ o with data:=o.data++bs.take (bh S.X bs.length),sec:=S.X.cS,nano:=S.X.cZ })) k).data.length:=hb
  have hu:=hI.used
  have hcB:=hI.cB
  have h1:=hI.toInv0.own (k:=k) (f:=fun o=>{ o with data:=o.data++bs.take (bh S.X bs.length),sec:=S.X.cS,nano:=S.X.cZ }) (j7:=S.X.used+(bh S.X bs.length:Int)) (us':=S.us) (fU:=S.ar) (fun _=>rfl) (fun _=>rfl) (fun _=>rfl) (fun _=>rfl) (fun _=>rfl) (fun _=>rfl)
    (fun u hu e=>by
      have hk1:u=⟨k,1⟩:=gj hu ht e
      have RM:=hI.kind hu
      rw [← e]
      exact (hI.mt u hu).of rfl rfl rfl hI.now rfl (.inr (by rw [RM,hk1])) (.inl rfl) rfl)
    (fun u hu=>by rw [dH (f:=fun o=>{ o with data:=o.data++bs.take (bh S.X bs.length),sec:=S.X.cS,nano:=S.X.cZ }) (g:=aR.opens) (fun _=>rfl)];exact hI.opens u hu)
    hI.usr hI.xh hI.Dd hI.ar hI.us ⟨by omega,by unfold bh;omega⟩
  refine⟨h1,fun u hu hg=>?_⟩
  have hg:(obj (aD S.O k (fun o=>{ o with data:=o.data++bs.take (bh S.X bs.length),sec:=S.X.cS,nano:=S.X.cZ })) u.k).gone=true:=hg
  rw [dH (f:=fun o=>{ o with data:=o.data++bs.take (bh S.X bs.length),sec:=S.X.cS,nano:=S.X.cZ }) (g:=aR.gone) (fun _=>rfl)] at hg
  show 0 < (obj (aD S.O k (fun o=>{ o with data:=o.data++bs.take (bh S.X bs.length),sec:=S.X.cS,nano:=S.X.cZ })) u.k).opens
  rw [dH (f:=fun o=>{ o with data:=o.data++bs.take (bh S.X bs.length),sec:=S.X.cS,nano:=S.X.cZ }) (g:=aR.opens) (fun _=>rfl)]
  exact hI.full u hu hg
theorem Inv.RN (hI:Inv S) {k:Nat} {mode uid gid sec nano:Int} (h1:nB mode) (h2:AL uid/\AL gid) (h3:dL sec nano):Inv { S with O:=aD S.O k (fun o=>{ o with mode:=mode,uid:=uid,gid:=gid,sec:=sec,nano:=nano }) }:=by
  have hb:bytes S.idx (aD S.O k (fun o=>{ o with mode:=mode,uid:=uid,gid:=gid,sec:=sec,nano:=nano }))=bytes S.idx S.O:=fT (fun p _=>by rw [dH (f:=fun o=>{ o with mode:=mode,uid:=uid,gid:=gid,sec:=sec,nano:=nano }) (g:=aR.data) (fun _=>rfl)])
  have g1:=hI.toInv0.own (k:=k) (f:=fun o=>{ o with mode:=mode,uid:=uid,gid:=gid,sec:=sec,nano:=nano }) (j7:=S.X.used) (us':=S.us) (fU:=S.ar) (fun _=>rfl) (fun _=>rfl) (fun _=>rfl) (fun _=>rfl) (fun _=>rfl) (fun _=>rfl)
    (fun u hu e=>by
      have hm:=hI.mt u hu
      rw [e] at hm
      exact⟨h1,h2.1,h2.2,h3,hm.data,hm.ah,hm.target⟩)
    (fun u hu=>by rw [dH (f:=fun o=>{ o with mode:=mode,uid:=uid,gid:=gid,sec:=sec,nano:=nano }) (g:=aR.opens) (fun _=>rfl)];exact hI.opens u hu)
    hI.usr hI.xh hI.Dd hI.ar hI.us ⟨by rw [hb];exact hI.used.1,hI.used.2⟩
  refine⟨g1,fun u hu hg=>?_⟩
  have hg:(obj (aD S.O k (fun o=>{ o with mode:=mode,uid:=uid,gid:=gid,sec:=sec,nano:=nano })) u.k).gone=true:=hg
  rw [dH (f:=fun o=>{ o with mode:=mode,uid:=uid,gid:=gid,sec:=sec,nano:=nano }) (g:=aR.gone) (fun _=>rfl)] at hg
  show 0 < (obj (aD S.O k (fun o=>{ o with mode:=mode,uid:=uid,gid:=gid,sec:=sec,nano:=nano })) u.k).opens
  rw [dH (f:=fun o=>{ o with mode:=mode,uid:=uid,gid:=gid,sec:=sec,nano:=nano }) (g:=aR.opens) (fun _=>rfl)]
  exact hI.full u hu hg
theorem Inv.shut (hI:Inv S) {h:Int} (e:aE.get S.us h=some t):Inv { S with
      X:={ S.X with used:=jQ (qq S.O t.k) S.X.used t }
      O:=qq S.O t.k
      idx:=jB (qq S.O t.k) S.idx t
      us:=del h S.us }:=by
  have ht:=(hI.us h t e).1
  have hb:bytes S.idx (qq S.O t.k)=bytes S.idx S.O:=fT (fun p _=>by unfold qq;rw [dH (f:=fun o=>{ o with opens:=o.opens - 1 }) (g:=aR.data) (fun _=>rfl)])
  have hd:=fun k=>OC (k:=k) hI.usr e
  have h1:=hI.toInv0.own (k:=t.k) (f:=fun o=>{ o with opens:=o.opens - 1 }) (j7:=S.X.used) (us':=del h S.us) (fU:=S.ar) (fun _=>rfl) (fun _=>rfl) (fun _=>rfl) (fun _=>rfl) (fun _=>rfl) (fun _=>rfl)
    (fun u hu e=>by rw [← e];exact (hI.mt u hu).of rfl rfl rfl (hI.mt u hu).time rfl (.inl rfl) (.inl rfl) rfl)
    (fun u hu=>by
      have h2:=hI.opens u hu
      have h3:=hd u.k
      by_cases e2:u.k=t.k
      ·rw [e2,bL]
       rw [e2] at h2 h3
       rw [if_pos rfl] at h3
       show (obj S.O t.k).opens - 1=_
       omega
      rw [if_neg (fun e3=>e2 e3.symm)] at h3
      rw [cx e2];omega)
    (EN hI.usr) (fun x hx=>hI.xh x (by rw [nN] at hx;exact (List.mem_filter.1 hx).1)) (by have:=o7 hI.usr (get_some e);have:=hI.Dd;omega) hI.ar (fun i u hu=>by
      rw [uj] at hu
      split at hu
      ·cases hu
      exact hI.us i u hu) ⟨by rw [show bytes S.idx (aD S.O t.k (fun o=>{ o with opens:=o.opens - 1 }))=bytes S.idx S.O from hb];exact hI.used.1,hI.used.2⟩
  exact h1.rA (t:=t) ht (fun u hu hut hg=>by
    have hk:u.k≠t.k:=fun e=>hut (gj hu ht e)
    have hg:(obj (aD S.O t.k (fun o=>{ o with opens:=o.opens - 1 })) u.k).gone=true:=hg
    rw [cx hk] at hg
    show 0 < (obj (aD S.O t.k (fun o=>{ o with opens:=o.opens - 1 })) u.k).opens
    rw [cx hk]
    exact hI.full u hu hg)
end ops
end
section
open Go.RowKit Go.Maps bG aE
section facts
variable {S:aG} {X:FM} {O:bY} {d k to:Nat} {name toName:ByteArray} {t o:Th}
def xC (dp:Nat->Nat):Option Nat->Nat
  | none=>0
  | some y=>dp y+1
theorem Kg {dp:Nat->Nat} (h:∀ k d,(obj O k).up=some d->dp d < dp k) {y:Nat}:xC dp (obj O y).up < xC dp (some y):=by
  cases e:(obj O y).up with
  | none=>exact Nat.succ_pos _
  | some z=>exact Nat.succ_lt_succ (h y z e)
theorem AY {s y:Nat} (h:¬ y=s):jD O s y↔∃ z,(obj O y).up=some z/\jD O s z:=Di.trans (or_iff_right h)
theorem A6 (hne:t.k≠d):(obj (aI S d name t).O k).ah=if k=d then fX name (obj S.O d).ah else (obj S.O k).ah:=by
  have h1:(obj (aI S d name t).O k).ah=(obj (aQ S.X S.O d name t) k).ah:=by
    unfold aI
    simp only
    split
    ·exact pG (g:=aR.ah) (fun _ _=>rfl)
    rfl
  rw [h1,iR hne]
  split
  ·rfl
  split<;>rfl
theorem qt (hI:Inv0 S) (hto:Live S.idx ⟨to,2⟩) (hl2:aT toName (obj S.O to).ah=some o) (hl:aT name (obj S.O d).ah=some t) (hot:o≠t):aT name (obj (aI S to toName o).O d).ah=some t:=by
  rw [A6 (hI.ne hto hl2)]
  split
  ·rename_i e
   subst e
   rw [qi,if_neg (fun e=>by rw [e,hl2] at hl;exact hot (Option.some.inj hl))]
   exact hl
  exact hl
theorem qu (hI:Inv0 S) (hto:Live S.idx ⟨to,2⟩) (hl2:aT toName (obj S.O to).ah=some o):aT toName (obj (aI S to toName o).O to).ah=none:=by
  rw [A6 (hI.ne hto hl2),if_pos rfl,qi,if_pos rfl]
theorem ju (hI:Inv0 S) (hto:Live S.idx ⟨to,2⟩) (hl2:aT toName (obj S.O to).ah=some o) (hx:Live S.idx t) (hk:t.k≠o.k):Live (aI S to toName o).idx t:=by
  unfold aI
  simp only
  split
  ·unfold jB
   split
   ·unfold Live
    rw [uj,if_neg]
    ·exact hx
    intro e
    have h1:=(hI.ob o (hI.ent hto hl2).2).1
    rw [pG (g:=aR.id) (fun _ _=>rfl),dw (g:=aR.id) (fun _ _=>rfl) (fun _ _=>rfl) (fun _ _ _=>rfl),h1] at e
    exact hk (by omega)
   exact hx
  exact hx
theorem mo (hne:t.k≠d):(obj (aQ X O d name t) k).ah.length<=(obj O k).ah.length:=by
  rw [iR hne]
  split
  ·rename_i e
   subst e
   exact List.length_filter_le _ _
  split<;>exact Nat.le_refl _
theorem j4 (hI:Inv0 S) (hd:Live S.idx ⟨d,2⟩) (hl:aT name (obj S.O d).ah=some t):0<=(obj (aQ S.X S.O d name t) t.k).links/\(obj (aQ S.X S.O d name t) t.k).links<=1048576:=by
  have ht:=(hI.ent hd hl).2
  have h1:=hI.links t ht
  have h2:0 < iw S.idx S.O t.k:=mM hd hl
  have h3:=hI.lb ht
  rw [iR (hI.ne hd hl),if_neg (hI.ne hd hl),if_pos rfl]
  show 0<=(obj S.O t.k).links - 1/\(obj S.O t.k).links - 1<=1048576
  omega
end facts
end
section
open Go.RowKit Go.Maps bG aE
attribute [local irreducible] aj aP af ai
abbrev EU (f:Nat) (L:HL) (d:Nat) (name):=([(61,vP f),(62,vP (L.b d)),(63,.string name)]:Fr)
abbrev EV (f:Nat) (L:HL) (to:Nat) (toName):=([(65,vP f),(66,vP (L.b to)),(67,.string toName)]:Fr)
abbrev vU (L:HL) (to:Nat) (toName):=([(45,.map (some (L.m to))),(46,.string toName)]:Fr)
abbrev NG (f:Nat) (L:HL) (to:Nat) (toName):=([(57,vP f),(58,vP (L.b to)),(59,.string toName)]:Fr)
abbrev NH (L:HL) (to:Nat):=([(12,.pointer none),(13,.bool false),(14,vP (L.b to))]:Fr)
abbrev NI (L:HL) (to:Nat) (toName):=([(3,vP (L.b to)),(4,.string toName)]:Fr)
theorem Bb {β:Bs} (S:aG) (L:HL) (f m t:Nat) (hI:Inv S) (d:Nat) (hd:Live S.idx ⟨d,2⟩) (name:ByteArray) (hsz:name.size<=1048576) (to:Nat) (hto:Live S.idx ⟨to,2⟩) (toName:ByteArray) (oH:toName.size<=1048576) :
    Spec Tryz.prog β 138 #[vP f,vP (L.b d),.string name,vP (L.b to),.string toName] (pA f m t L S) (fun v l=>∃ L2,v=vI (bF S d name to toName).1/\l=(pA f m t L2 ((bF S d name to toName).2))):=by
 have hX:=hI.hX
 have hel:(obj S.O d).ah.length<=8192:=hI.fV hd
 have hkd:(obj S.O d).kind=2:=hI.kind hd
 have ef:(obj S.O to).kind=2:=hI.kind hto
 have Vn:(obj S.O to).ah.length<=8192:=hI.fV hto
 refine Spec.enter Tryz.func138 rfl Tryz.ntmps138 (Nat.le_of_ble_eq_true rfl) (fun R=>?_)
 refine af.seq ?_
 rcases hI.lP hd name with hlk|⟨tk,hlk,hlv⟩|⟨tk,hlk,hlv⟩|⟨tk,hlk,hlv⟩
 ·refine af.region (gK 1 [] [] ?_)
  refine NS (gK 5 [(19,.map (some (L.m d))),(20,.string name)] [(3,v_ 3 (br L hkd))] ?_)
  refine iq 5 hkd hlk ?_
  refine gK 1 [(11,.nilIface)] [] ?_
  refine NN (af.seq (SR (gK 2 [(23,.bool true)] [] ?_)))
  refine NN (CT (SR (gK 1 [(10,vI 170)] [] ?_)))
  refine NN (af.ret (ai.ak ?_))
  exact RT (vI 170) [0,1,2,3,4,5,6] (⟨L,by rw [show bF S d name to toName=(170,S) by unfold bF;rw [hlk]]<;>exact⟨rfl,rfl⟩⟩)
 ·have hkt:(obj S.O tk).kind=1:=hI.kind hlv
  refine af.region (gK 1 [] [] ?_)
  refine NS (gK 5 [(19,.map (some (L.m d))),(20,.string name)] [(3,v_ 3 (br L hkd))] ?_)
  refine iq 5 hkd hlk ?_
  refine gK 1 [(11,.iface 129 (vP (L.b tk)))] [] ?_
  refine NN (af.seq (SR (gK 2 [(23,.bool false)] [] ?_)))
  refine NN (CF (af.skip (NX (SR (gK 7 [(12,.pointer none),(13,.bool false)] [] ?_)))))
  refine NN (af.seq (SR (gK 2 [(14,vP (L.b to))] [] ?_)))
  refine NN (af.block ?_)
  refine af.loop (ι:=Unit) (fun (u:Unit)=>True) (fun (u:Unit)=>0) (fun (u:Unit)=>(EQ f L d name++NI L to toName++[(11,.iface 129 (vP (L.b tk)))]++NH L to)) (fun (u:Unit)=>((pA f m t L S)++[.abs R])) () (idx:=[0,1,2,3,4,11,12,13,14]) (pk:=[0,1,2,3,4,5,6]) (show True from trivial) (fun _=>by kernel_rfl) rfl (by kernel_rfl) ?_
  rintro u _
  show af _ _ _ _ (EQ f L d name++NI L to toName++[(11,.iface 129 (vP (L.b tk)))]++NH L to) ((pA f m t L S)++[.abs R]) _
  refine af.seq (SR (gK 5 [(34,.bool false)] [] ?_))
  refine NN (CF (af.exit (ai.aX (ai.aX (ai.cP (NX (af.seq ?_)))))))
  skip
  rcases hI.lP hto toName with bn|⟨ok,bn,ez⟩|⟨ok,bn,ez⟩|⟨ok,bn,ez⟩
  ·refine af.region (gK 5 (vU L to toName) [(3,v_ 3 (br L ef))] ?_)
   refine iq 5 ef bn ?_
   refine gK 1 [(15,.nilIface)] [] ?_
   refine NN (af.seq (SR (gK 3 [(50,.bool false)] [] ?_)))
   refine NN (CF (af.skip (NX (af.seq (SR (gK 2 [(52,.bool false)] [] ?_))))))
   refine NN (CF (af.skip (NX (SR ?_))))
   have cg:Inv S:=hI
   have hd1:=hd
   have eS:=hlk
   have pH:=bn
   have jH:=hto
   have jG:(obj S.O d).kind=2:=cg.kind hd1
   have pJ:(obj S.O to).kind=2:=cg.kind jH
   have ko:Live S.idx ⟨tk,1⟩:=(cg.ent hd1 eS).2
   have kq:(obj S.O tk).kind=1:=cg.kind ko
   have Cv:(obj S.O d).ah.length<=8192:=cg.fV hd1
   have Cw:(obj S.O to).ah.length<=8192:=cg.fV jH
   have pK:=cg.lb ko
   have kr:tk≠d:=cg.ne hd1 eS
   refine gK 3 (EU f L d name) [] ?_
   refine gL [0,3,5] (jt S.X f m t cg.hX S.O L d jG name hsz ⟨tk,1⟩ kq (by simp) eS (cg.twice hd1) (by omega) (by simp only at pK ⊢;omega)) ?_
   rintro _ _ ⟨rfl,rfl⟩
   refine NS (gK 4 (EV f L to toName++[(68,.iface 129 (vP (L.b tk)))]) [] ?_)
   refine gL [0,1,2] (iA { S.X with ah:=S.X.ah - 1 } f m t (cg.yO hd1 eS) (aQ S.X S.O d name ⟨tk,1⟩) L to (cG.trans pJ) toName oH (jS kr pH) (Nat.le_trans (mo kr) (by omega)) ⟨tk,1⟩ (cG.trans kq) (by simp) (j4 cg.toInv0 hd1 eS)) ?_
   rintro _ _ ⟨rfl,rfl⟩
   refine NS (aj.dh [(5,.abs (ax (bC (cR S.X (aQ S.X S.O d name ⟨tk,1⟩) to toName ⟨tk,1⟩) L)))] (fun w hS=>by rw [show bC (cR S.X (aQ S.X S.O d name ⟨tk,1⟩) to toName ⟨tk,1⟩) L=bC S.O L from gV.trans jR];exact hS) ?_)
   refine gK 1 [(10,vI 0)] [] ?_
   refine NN (af.ret ?_)
   exact RT (vI 0) [0,3,4,1,5,2,6] (⟨L,by rw [show bF S d name to toName=(0,nI S d name to toName ⟨tk,1⟩) by unfold bF;rw [hlk];refine (if_neg (fun h=>absurd h.1 (by simp))).trans ?_;rw [bn]]<;>exact⟨rfl,rfl⟩⟩)
  ·have kx:(obj S.O ok).kind=1:=hI.kind ez
   refine af.region (gK 5 (vU L to toName) [(3,v_ 3 (br L ef))] ?_)
   refine iq 5 ef bn ?_
   refine gK 1 [(15,.iface 129 (vP (L.b ok)))] [] ?_
   refine NN (af.seq (SR (gK 2 [(48,.iface 129 (vP (L.b ok))),(49,.iface 129 (vP (L.b tk)))] [] ?_)))
   refine aj.je (d:=(some 50)) (op:=.binOp .eql 124 (.tmp 48) (.tmp 49) 124) (v:=.bool (decide (ok=tk))) (fun _=>by kernel_rfl) (fun o junk w ho hS=>by obtain⟨F,hF⟩:=hS.get (i:=3) rfl;exact⟨w,zF PU ho (by kernel_rfl) (by kernel_rfl) (by rw [kx];decide) (by rw [hkt];decide) hF,hS⟩) ?_
   refine NN (af.aZ (p:=ok=tk) (fun _=>by kernel_rfl) (fun h50=>?_) (fun h50=>?_))
   ·refine SR (gK 1 [(10,vI 0)] [] ?_)
    refine NN (af.ret (ai.ak ?_))
    exact RT (vI 0) [0,1,2,3,4,5,6] (⟨L,by rw [show bF S d name to toName=(0,S) by unfold bF;rw [hlk];refine (if_neg (fun h=>absurd h.1 (by simp))).trans ?_;rw [bn];exact if_pos (by rw [h50])]<;>exact⟨rfl,rfl⟩⟩)
   refine af.skip (NX (af.seq (SR (gK 2 [(52,.bool true)] [] ?_))))
   refine NN (CT (af.seq (SR (gK 1 [(53,.iface 129 (vP (L.b ok)))] [] ?_))))
   refine gL [] (lX (vP (L.b ok))) ?_
   rintro _ _ ⟨rfl,rfl⟩
   refine gK 1 [(55,.bool false)] [] ?_
   refine NN (CF (af.skip (NX (af.seq (SR (gK 1 [(56,.bool false)] [] ?_))))))
   refine NN (CF (af.skip (NX (af.region (gK 3 (NG f L to toName) [] ?_)))))
   refine gL [0,3,5,1] (nO S L f m t hI to hto toName oH ⟨ok,1⟩ bn) ?_
   rintro _ _ ⟨rfl,rfl⟩
   refine NS ?_
   have cg:Inv (aI S to toName ⟨ok,1⟩):=hI.yj hto bn (by simp)
   have hot:(⟨ok,1⟩:Th)≠⟨tk,1⟩:=fun e=>h50 (congrArg Th.k e)
   have hd1:Live (aI S to toName ⟨ok,1⟩).idx ⟨d,2⟩:=ju hI.toInv0 hto bn hd (fun e=>by have:=gj hd ez e;cases this)
   have jH:Live (aI S to toName ⟨ok,1⟩).idx ⟨to,2⟩:=ju hI.toInv0 hto bn hto (fun e=>by have:=gj hto ez e;cases this)
   have eS:aT name (obj (aI S to toName ⟨ok,1⟩).O d).ah=some ⟨tk,1⟩:=qt hI.toInv0 hto bn hlk hot
   have pH:aT toName (obj (aI S to toName ⟨ok,1⟩).O to).ah=none:=qu hI.toInv0 hto bn
   have jG:(obj (aI S to toName ⟨ok,1⟩).O d).kind=2:=cg.kind hd1
   have pJ:(obj (aI S to toName ⟨ok,1⟩).O to).kind=2:=cg.kind jH
   have ko:Live (aI S to toName ⟨ok,1⟩).idx ⟨tk,1⟩:=(cg.ent hd1 eS).2
   have kq:(obj (aI S to toName ⟨ok,1⟩).O tk).kind=1:=cg.kind ko
   have Cv:(obj (aI S to toName ⟨ok,1⟩).O d).ah.length<=8192:=cg.fV hd1
   have Cw:(obj (aI S to toName ⟨ok,1⟩).O to).ah.length<=8192:=cg.fV jH
   have pK:=cg.lb ko
   have kr:tk≠d:=cg.ne hd1 eS
   refine gK 3 (EU f L d name) [] ?_
   refine gL [0,1,2] (jt (aI S to toName ⟨ok,1⟩).X f m t cg.hX (aI S to toName ⟨ok,1⟩).O L d jG name hsz ⟨tk,1⟩ kq (by simp) eS (cg.twice hd1) (by omega) (by simp only at pK ⊢;omega)) ?_
   rintro _ _ ⟨rfl,rfl⟩
   refine NS (gK 4 (EV f L to toName++[(68,.iface 129 (vP (L.b tk)))]) [] ?_)
   refine gL [0,1,2] (iA { (aI S to toName ⟨ok,1⟩).X with ah:=(aI S to toName ⟨ok,1⟩).X.ah - 1 } f m t (cg.yO hd1 eS) (aQ (aI S to toName ⟨ok,1⟩).X (aI S to toName ⟨ok,1⟩).O d name ⟨tk,1⟩) L to (cG.trans pJ) toName oH (jS kr pH) (Nat.le_trans (mo kr) (by omega)) ⟨tk,1⟩ (cG.trans kq) (by simp) (j4 cg.toInv0 hd1 eS)) ?_
   rintro _ _ ⟨rfl,rfl⟩
   refine NS (aj.dh [(5,.abs (ax (bC (cR (aI S to toName ⟨ok,1⟩).X (aQ (aI S to toName ⟨ok,1⟩).X (aI S to toName ⟨ok,1⟩).O d name ⟨tk,1⟩) to toName ⟨tk,1⟩) L)))] (fun w hS=>by rw [show bC (cR (aI S to toName ⟨ok,1⟩).X (aQ (aI S to toName ⟨ok,1⟩).X (aI S to toName ⟨ok,1⟩).O d name ⟨tk,1⟩) to toName ⟨tk,1⟩) L=bC S.O L from gV.trans (jR.trans nP)];exact hS) ?_)
   refine gK 1 [(10,vI 0)] [] ?_
   refine NN (af.ret ?_)
   exact RT (vI 0) [0,3,4,1,5,2,6] (⟨L,by rw [show bF S d name to toName=(0,nI (aI S to toName ⟨ok,1⟩) d name to toName ⟨tk,1⟩) by unfold bF;rw [hlk];refine (if_neg (fun h=>absurd h.1 (by simp))).trans ?_;rw [bn];exact (if_neg (fun e=>h50 (congrArg Th.k e))).trans ((if_neg (by simp)).trans (if_neg (by simp)))]<;>exact⟨rfl,rfl⟩⟩)
  ·have kx:(obj S.O ok).kind=2:=hI.kind ez
   refine af.region (gK 5 (vU L to toName) [(3,v_ 3 (br L ef))] ?_)
   refine iq 5 ef bn ?_
   refine gK 1 [(15,.iface 135 (vP (L.b ok)))] [] ?_
   refine NN (af.seq (SR (gK 3 [(50,.bool false)] [] ?_)))
   refine NN (CF (af.skip (NX (af.seq (SR (gK 2 [(52,.bool true)] [] ?_))))))
   refine NN (CT (af.seq (SR (gK 1 [(53,.iface 135 (vP (L.b ok)))] [] ?_))))
   refine gL [] (lY (vP (L.b ok))) ?_
   rintro _ _ ⟨rfl,rfl⟩
   refine gK 1 [(55,.bool true)] [] ?_
   refine NN (CT (SR (gK 1 [(10,vI 172)] [] ?_)))
   refine NN (af.ret (ai.ak (ai.ak ?_)))
   exact RT (vI 172) [0,1,2,3,4,5,6] (⟨L,by rw [show bF S d name to toName=(172,S) by unfold bF;rw [hlk];refine (if_neg (fun h=>absurd h.1 (by simp))).trans ?_;rw [bn];exact (if_neg (fun e=>by cases e)).trans (if_pos rfl)]<;>exact⟨rfl,rfl⟩⟩)
  have kx:(obj S.O ok).kind=3:=hI.kind ez
  refine af.region (gK 5 (vU L to toName) [(3,v_ 3 (br L ef))] ?_)
  refine iq 5 ef bn ?_
  refine gK 1 [(15,.iface 132 (vP (L.b ok)))] [] ?_
  refine NN (af.seq (SR (gK 3 [(50,.bool false)] [] ?_)))
  refine NN (CF (af.skip (NX (af.seq (SR (gK 2 [(52,.bool true)] [] ?_))))))
  refine NN (CT (af.seq (SR (gK 1 [(53,.iface 132 (vP (L.b ok)))] [] ?_))))
  refine gL [] (nM (vP (L.b ok))) ?_
  rintro _ _ ⟨rfl,rfl⟩
  refine gK 1 [(55,.bool false)] [] ?_
  refine NN (CF (af.skip (NX (af.seq (SR (gK 1 [(56,.bool false)] [] ?_))))))
  refine NN (CF (af.skip (NX (af.region (gK 3 (NG f L to toName) [] ?_)))))
  refine gL [0,3,5,1] (nO S L f m t hI to hto toName oH ⟨ok,3⟩ bn) ?_
  rintro _ _ ⟨rfl,rfl⟩
  refine NS ?_
  have cg:Inv (aI S to toName ⟨ok,3⟩):=hI.yj hto bn (by simp)
  have hot:(⟨ok,3⟩:Th)≠⟨tk,1⟩:=fun e=>by cases e
  have hd1:Live (aI S to toName ⟨ok,3⟩).idx ⟨d,2⟩:=ju hI.toInv0 hto bn hd (fun e=>by have:=gj hd ez e;cases this)
  have jH:Live (aI S to toName ⟨ok,3⟩).idx ⟨to,2⟩:=ju hI.toInv0 hto bn hto (fun e=>by have:=gj hto ez e;cases this)
  have eS:aT name (obj (aI S to toName ⟨ok,3⟩).O d).ah=some ⟨tk,1⟩:=qt hI.toInv0 hto bn hlk hot
  have pH:aT toName (obj (aI S to toName ⟨ok,3⟩).O to).ah=none:=qu hI.toInv0 hto bn
  have jG:(obj (aI S to toName ⟨ok,3⟩).O d).kind=2:=cg.kind hd1
  have pJ:(obj (aI S to toName ⟨ok,3⟩).O to).kind=2:=cg.kind jH
  have ko:Live (aI S to toName ⟨ok,3⟩).idx ⟨tk,1⟩:=(cg.ent hd1 eS).2
  have kq:(obj (aI S to toName ⟨ok,3⟩).O tk).kind=1:=cg.kind ko
  have Cv:(obj (aI S to toName ⟨ok,3⟩).O d).ah.length<=8192:=cg.fV hd1
  have Cw:(obj (aI S to toName ⟨ok,3⟩).O to).ah.length<=8192:=cg.fV jH
  have pK:=cg.lb ko
  have kr:tk≠d:=cg.ne hd1 eS
  refine gK 3 (EU f L d name) [] ?_
  refine gL [0,1,2] (jt (aI S to toName ⟨ok,3⟩).X f m t cg.hX (aI S to toName ⟨ok,3⟩).O L d jG name hsz ⟨tk,1⟩ kq (by simp) eS (cg.twice hd1) (by omega) (by simp only at pK ⊢;omega)) ?_
  rintro _ _ ⟨rfl,rfl⟩
  refine NS (gK 4 (EV f L to toName++[(68,.iface 129 (vP (L.b tk)))]) [] ?_)
  refine gL [0,1,2] (iA { (aI S to toName ⟨ok,3⟩).X with ah:=(aI S to toName ⟨ok,3⟩).X.ah - 1 } f m t (cg.yO hd1 eS) (aQ (aI S to toName ⟨ok,3⟩).X (aI S to toName ⟨ok,3⟩).O d name ⟨tk,1⟩) L to (cG.trans pJ) toName oH (jS kr pH) (Nat.le_trans (mo kr) (by omega)) ⟨tk,1⟩ (cG.trans kq) (by simp) (j4 cg.toInv0 hd1 eS)) ?_
  rintro _ _ ⟨rfl,rfl⟩
  refine NS (aj.dh [(5,.abs (ax (bC (cR (aI S to toName ⟨ok,3⟩).X (aQ (aI S to toName ⟨ok,3⟩).X (aI S to toName ⟨ok,3⟩).O d name ⟨tk,1⟩) to toName ⟨tk,1⟩) L)))] (fun w hS=>by rw [show bC (cR (aI S to toName ⟨ok,3⟩).X (aQ (aI S to toName ⟨ok,3⟩).X (aI S to toName ⟨ok,3⟩).O d name ⟨tk,1⟩) to toName ⟨tk,1⟩) L=bC S.O L from gV.trans (jR.trans nP)];exact hS) ?_)
  refine gK 1 [(10,vI 0)] [] ?_
  refine NN (af.ret ?_)
  exact RT (vI 0) [0,3,4,1,5,2,6] (⟨L,by rw [show bF S d name to toName=(0,nI (aI S to toName ⟨ok,3⟩) d name to toName ⟨tk,1⟩) by unfold bF;rw [hlk];refine (if_neg (fun h=>absurd h.1 (by simp))).trans ?_;rw [bn];exact (if_neg (fun e=>by cases e)).trans ((if_neg (by simp)).trans (if_neg (by simp)))]<;>exact⟨rfl,rfl⟩⟩)
 ·have hkt:(obj S.O tk).kind=2:=hI.kind hlv
  refine af.region (gK 1 [] [] ?_)
  refine NS (gK 5 [(19,.map (some (L.m d))),(20,.string name)] [(3,v_ 3 (br L hkd))] ?_)
  refine iq 5 hkd hlk ?_
  refine gK 1 [(11,.iface 135 (vP (L.b tk)))] [] ?_
  refine NN (af.seq (SR (gK 2 [(23,.bool false)] [] ?_)))
  refine NN (CF (af.skip (NX (SR (gK 7 [(12,vP (L.b tk)),(13,.bool true)] [] ?_)))))
  refine NN (af.seq (SR (gK 2 [(14,vP (L.b to))] [] ?_)))
  refine NN (af.block ?_)
  obtain⟨dp,hdp⟩:=hI.deep
  refine af.loop (ι:=(Option Nat)) (fun (x:Option Nat)=>(jD S.O tk to↔∃ z0,x=some z0/\jD S.O tk z0)/\(∀ z0,x=some z0->Live S.idx ⟨z0,2⟩)) (fun (x:Option Nat)=>xC dp x) (fun (x:Option Nat)=>[(0,vP f),(1,vP (L.b d)),(2,.string name),(3,vP (L.b to)),(4,.string toName),(11,.iface 135 (vP (L.b tk))),(12,vP (L.b tk)),(13,.bool true),(14,(tZ L x))]) (fun (x:Option Nat)=>((pA f m t L S)++[.abs R])) ((some to)) (idx:=[0,1,2,3,4,11,12,13,14]) (pk:=[0,1,2,3,4,5,6]) (show (jD S.O tk to↔∃ z0,((some to))=some z0/\jD S.O tk z0)/\(∀ z0,((some to))=some z0->Live S.idx ⟨z0,2⟩) from ⟨⟨fun h=>⟨to,rfl,h⟩,fun ⟨y,e,h⟩=>by cases e;exact h⟩,fun y e=>by cases e;exact hto⟩) (fun _=>by kernel_rfl) rfl (by kernel_rfl) ?_
  rintro x ⟨Qa,hlx⟩
  show af _ _ _ _ [(0,vP f),(1,vP (L.b d)),(2,.string name),(3,vP (L.b to)),(4,.string toName),(11,.iface 135 (vP (L.b tk))),(12,vP (L.b tk)),(13,.bool true),(14,(tZ L x))] ((pA f m t L S)++[.abs R]) _
  refine af.seq (af.seq ?_)
  rcases hx:x with _|y
  ·refine af.region (gK 5 [(34,.bool false)] [] ?_)
   refine NN (CF (af.exit (ai.aX (ai.aX (ai.cP (NX (af.seq ?_)))))))
   have hnb:¬ jD S.O tk to:=fun h=>by obtain⟨y,e,_⟩:=Qa.1 h;rw [hx] at e;cases e
   rcases hI.lP hto toName with bn|⟨ok,bn,ez⟩|⟨ok,bn,ez⟩|⟨ok,bn,ez⟩
   ·refine af.region (gK 5 (vU L to toName) [(3,v_ 3 (br L ef))] ?_)
    refine iq 5 ef bn ?_
    refine gK 1 [(15,.nilIface)] [] ?_
    refine NN (af.seq (SR (gK 3 [(50,.bool false)] [] ?_)))
    refine NN (CF (af.skip (NX (af.seq (SR (gK 2 [(52,.bool false)] [] ?_))))))
    refine NN (CF (af.skip (NX (SR ?_))))
    have cg:Inv S:=hI
    have hd1:=hd
    have eS:=hlk
    have pH:=bn
    have jH:=hto
    have jG:(obj S.O d).kind=2:=cg.kind hd1
    have pJ:(obj S.O to).kind=2:=cg.kind jH
    have ko:Live S.idx ⟨tk,2⟩:=(cg.ent hd1 eS).2
    have kq:(obj S.O tk).kind=2:=cg.kind ko
    have Cv:(obj S.O d).ah.length<=8192:=cg.fV hd1
    have Cw:(obj S.O to).ah.length<=8192:=cg.fV jH
    have pK:=cg.lb ko
    have kr:tk≠d:=cg.ne hd1 eS
    refine gK 3 (EU f L d name) [] ?_
    refine gL [0,3,5] (jt S.X f m t cg.hX S.O L d jG name hsz ⟨tk,2⟩ kq (by simp) eS (cg.twice hd1) (by omega) (by simp only at pK ⊢;omega)) ?_
    rintro _ _ ⟨rfl,rfl⟩
    refine NS (gK 4 (EV f L to toName++[(68,.iface 135 (vP (L.b tk)))]) [] ?_)
    refine gL [0,1,2] (iA { S.X with ah:=S.X.ah - 1 } f m t (cg.yO hd1 eS) (aQ S.X S.O d name ⟨tk,2⟩) L to (cG.trans pJ) toName oH (jS kr pH) (Nat.le_trans (mo kr) (by omega)) ⟨tk,2⟩ (cG.trans kq) (by simp) (j4 cg.toInv0 hd1 eS)) ?_
    rintro _ _ ⟨rfl,rfl⟩
    refine NS (aj.dh [(5,.abs (ax (bC (cR S.X (aQ S.X S.O d name ⟨tk,2⟩) to toName ⟨tk,2⟩) L)))] (fun w hS=>by rw [show bC (cR S.X (aQ S.X S.O d name ⟨tk,2⟩) to toName ⟨tk,2⟩) L=bC S.O L from gV.trans jR];exact hS) ?_)
    refine gK 1 [(10,vI 0)] [] ?_
    refine NN (af.ret ?_)
    exact RT (vI 0) [0,3,4,1,5,2,6] (⟨L,by rw [show bF S d name to toName=(0,nI S d name to toName ⟨tk,2⟩) by unfold bF;rw [hlk];refine (if_neg (fun h=>hnb h.2)).trans ?_;rw [bn]]<;>exact⟨rfl,rfl⟩⟩)
   ·have kx:(obj S.O ok).kind=1:=hI.kind ez
    refine af.region (gK 5 (vU L to toName) [(3,v_ 3 (br L ef))] ?_)
    refine iq 5 ef bn ?_
    refine gK 1 [(15,.iface 129 (vP (L.b ok)))] [] ?_
    refine NN (af.seq (SR (gK 3 [(50,.bool false)] [] ?_)))
    refine NN (CF (af.skip (NX (af.seq (SR (gK 2 [(52,.bool true)] [] ?_))))))
    refine NN (CT (af.seq (SR (gK 1 [(53,.iface 129 (vP (L.b ok)))] [] ?_))))
    refine gL [] (lX (vP (L.b ok))) ?_
    rintro _ _ ⟨rfl,rfl⟩
    refine gK 1 [(55,.bool false)] [] ?_
    refine NN (CF (af.skip (NX (af.seq (SR (gK 1 [(56,.bool true)] [] ?_))))))
    refine NN (CT (SR (gK 1 [(10,vI 173)] [] ?_)))
    refine NN (af.ret (ai.ak (ai.ak ?_)))
    exact RT (vI 173) [0,1,2,3,4,5,6] (⟨L,by rw [show bF S d name to toName=(173,S) by unfold bF;rw [hlk];refine (if_neg (fun h=>hnb h.2)).trans ?_;rw [bn];exact (if_neg (fun e=>by cases e)).trans ((if_neg (by simp)).trans (if_pos rfl))]<;>exact⟨rfl,rfl⟩⟩)
   ·have kx:(obj S.O ok).kind=2:=hI.kind ez
    refine af.region (gK 5 (vU L to toName) [(3,v_ 3 (br L ef))] ?_)
    refine iq 5 ef bn ?_
    refine gK 1 [(15,.iface 135 (vP (L.b ok)))] [] ?_
    refine NN (af.seq (SR (gK 2 [(48,.iface 135 (vP (L.b ok))),(49,.iface 135 (vP (L.b tk)))] [] ?_)))
    refine aj.je (d:=(some 50)) (op:=.binOp .eql 124 (.tmp 48) (.tmp 49) 124) (v:=.bool (decide (ok=tk))) (fun _=>by kernel_rfl) (fun o junk w ho hS=>by obtain⟨F,hF⟩:=hS.get (i:=3) rfl;exact⟨w,zF RL ho (by kernel_rfl) (by kernel_rfl) (by rw [kx];decide) (by rw [hkt];decide) hF,hS⟩) ?_
    refine NN (af.aZ (p:=ok=tk) (fun _=>by kernel_rfl) (fun h50=>?_) (fun h50=>?_))
    ·refine SR (gK 1 [(10,vI 0)] [] ?_)
     refine NN (af.ret (ai.ak ?_))
     exact RT (vI 0) [0,1,2,3,4,5,6] (⟨L,by rw [show bF S d name to toName=(0,S) by unfold bF;rw [hlk];refine (if_neg (fun h=>hnb h.2)).trans ?_;rw [bn];exact if_pos (by rw [h50])]<;>exact⟨rfl,rfl⟩⟩)
    refine af.skip (NX (af.seq (SR (gK 2 [(52,.bool true)] [] ?_))))
    refine NN (CT (af.seq (SR (gK 1 [(53,.iface 135 (vP (L.b ok)))] [] ?_))))
    refine gL [] (lY (vP (L.b ok))) ?_
    rintro _ _ ⟨rfl,rfl⟩
    refine gK 1 [(55,.bool true)] [] ?_
    refine NN (CT (SR (gK 1 [(10,vI 172)] [] ?_)))
    refine NN (af.ret (ai.ak (ai.ak ?_)))
    exact RT (vI 172) [0,1,2,3,4,5,6] (⟨L,by rw [show bF S d name to toName=(172,S) by unfold bF;rw [hlk];refine (if_neg (fun h=>hnb h.2)).trans ?_;rw [bn];exact (if_neg (fun e=>h50 (congrArg Th.k e))).trans (if_pos rfl)]<;>exact⟨rfl,rfl⟩⟩)
   have kx:(obj S.O ok).kind=3:=hI.kind ez
   refine af.region (gK 5 (vU L to toName) [(3,v_ 3 (br L ef))] ?_)
   refine iq 5 ef bn ?_
   refine gK 1 [(15,.iface 132 (vP (L.b ok)))] [] ?_
   refine NN (af.seq (SR (gK 3 [(50,.bool false)] [] ?_)))
   refine NN (CF (af.skip (NX (af.seq (SR (gK 2 [(52,.bool true)] [] ?_))))))
   refine NN (CT (af.seq (SR (gK 1 [(53,.iface 132 (vP (L.b ok)))] [] ?_))))
   refine gL [] (nM (vP (L.b ok))) ?_
   rintro _ _ ⟨rfl,rfl⟩
   refine gK 1 [(55,.bool false)] [] ?_
   refine NN (CF (af.skip (NX (af.seq (SR (gK 1 [(56,.bool true)] [] ?_))))))
   refine NN (CT (SR (gK 1 [(10,vI 173)] [] ?_)))
   refine NN (af.ret (ai.ak (ai.ak ?_)))
   exact RT (vI 173) [0,1,2,3,4,5,6] (⟨L,by rw [show bF S d name to toName=(173,S) by unfold bF;rw [hlk];refine (if_neg (fun h=>hnb h.2)).trans ?_;rw [bn];exact (if_neg (fun e=>by cases e)).trans ((if_neg (by simp)).trans (if_pos rfl))]<;>exact⟨rfl,rfl⟩⟩)
  have hky:(obj S.O y).kind=2:=hI.kind (hlx y hx)
  refine af.region (gK 5 [(34,.bool true)] [] ?_)
  refine NN (CT (af.skip (NX (af.seq (af.block (SR ?_))))))
  refine gK 2 [(39,vP (L.b y)),(40,vP (L.b tk))] [] ?_
  refine aj.je (d:=(some 41)) (op:=.binOp .eql 135 (.tmp 39) (.tmp 40) 135) (v:=.bool (decide (y=tk))) (fun _=>by kernel_rfl) (fun o junk w ho hS=>by obtain⟨F,hF⟩:=hS.get (i:=3) rfl;exact⟨w,Kb ho (by kernel_rfl) (by kernel_rfl) (by rw [hky];decide) (by rw [hkt];decide) hF,hS⟩) ?_
  refine NN (af.aZ (p:=y=tk) (fun _=>by kernel_rfl) (fun Bd=>?_) (fun Bd=>?_))
  ·refine SR (gK 1 [(10,vI 174)] [] ?_)
   refine NN (af.ret (ai.aF (ai.ak (ai.ak (ai.aF (ai.ak ?_))))))
   exact RT (vI 174) [0,1,2,3,4,5,6] (⟨L,by rw [show bF S d name to toName=(174,S) by unfold bF;rw [hlk];exact if_pos ⟨rfl,Qa.2 ⟨y,hx,by rw [Bd];exact .here⟩⟩]<;>exact⟨rfl,rfl⟩⟩)
  refine af.skip (ai.aN (NX (af.region ?_)))
  refine gK 5 [(14,(tZ L (obj S.O y).up))] [(3,v_ 3 (Tr L hky))] ?_
  refine NL ?_
  exact ai.turn (((obj S.O y).up)) (idx:=[0,1,2,3,4,11,12,13,14]) (pk:=[0,1,2,3,4,5,6]) (show (jD S.O tk to↔∃ z0,(((obj S.O y).up))=some z0/\jD S.O tk z0)/\(∀ z0,(((obj S.O y).up))=some z0->Live S.idx ⟨z0,2⟩) from ⟨Qa.trans ⟨fun ⟨y2,e,h⟩=>by rw [hx] at e;cases e;exact (AY Bd).1 h,fun h=>⟨y,hx,(AY Bd).2 h⟩⟩,fun z e=>((hI.up ⟨y,2⟩ (hlx y hx) z).1 e).2.1⟩) (by show xC dp (((obj S.O y).up)) < xC dp (some y);exact Kg hdp) (fun _=>by kernel_rfl) rfl (by kernel_rfl)
 have hkt:(obj S.O tk).kind=3:=hI.kind hlv
 refine af.region (gK 1 [] [] ?_)
 refine NS (gK 5 [(19,.map (some (L.m d))),(20,.string name)] [(3,v_ 3 (br L hkd))] ?_)
 refine iq 5 hkd hlk ?_
 refine gK 1 [(11,.iface 132 (vP (L.b tk)))] [] ?_
 refine NN (af.seq (SR (gK 2 [(23,.bool false)] [] ?_)))
 refine NN (CF (af.skip (NX (SR (gK 7 [(12,.pointer none),(13,.bool false)] [] ?_)))))
 refine NN (af.seq (SR (gK 2 [(14,vP (L.b to))] [] ?_)))
 refine NN (af.block ?_)
 refine af.loop (ι:=Unit) (fun (u:Unit)=>True) (fun (u:Unit)=>0) (fun (u:Unit)=>(EQ f L d name++NI L to toName++[(11,.iface 132 (vP (L.b tk)))]++NH L to)) (fun (u:Unit)=>((pA f m t L S)++[.abs R])) () (idx:=[0,1,2,3,4,11,12,13,14]) (pk:=[0,1,2,3,4,5,6]) (show True from trivial) (fun _=>by kernel_rfl) rfl (by kernel_rfl) ?_
 rintro u _
 show af _ _ _ _ (EQ f L d name++NI L to toName++[(11,.iface 132 (vP (L.b tk)))]++NH L to) ((pA f m t L S)++[.abs R]) _
 refine af.seq (SR (gK 5 [(34,.bool false)] [] ?_))
 refine NN (CF (af.exit (ai.aX (ai.aX (ai.cP (NX (af.seq ?_)))))))
 skip
 rcases hI.lP hto toName with bn|⟨ok,bn,ez⟩|⟨ok,bn,ez⟩|⟨ok,bn,ez⟩
 ·refine af.region (gK 5 (vU L to toName) [(3,v_ 3 (br L ef))] ?_)
  refine iq 5 ef bn ?_
  refine gK 1 [(15,.nilIface)] [] ?_
  refine NN (af.seq (SR (gK 3 [(50,.bool false)] [] ?_)))
  refine NN (CF (af.skip (NX (af.seq (SR (gK 2 [(52,.bool false)] [] ?_))))))
  refine NN (CF (af.skip (NX (SR ?_))))
  have cg:Inv S:=hI
  have hd1:=hd
  have eS:=hlk
  have pH:=bn
  have jH:=hto
  have jG:(obj S.O d).kind=2:=cg.kind hd1
  have pJ:(obj S.O to).kind=2:=cg.kind jH
  have ko:Live S.idx ⟨tk,3⟩:=(cg.ent hd1 eS).2
  have kq:(obj S.O tk).kind=3:=cg.kind ko
  have Cv:(obj S.O d).ah.length<=8192:=cg.fV hd1
  have Cw:(obj S.O to).ah.length<=8192:=cg.fV jH
  have pK:=cg.lb ko
  have kr:tk≠d:=cg.ne hd1 eS
  refine gK 3 (EU f L d name) [] ?_
  refine gL [0,3,5] (jt S.X f m t cg.hX S.O L d jG name hsz ⟨tk,3⟩ kq (by simp) eS (cg.twice hd1) (by omega) (by simp only at pK ⊢;omega)) ?_
  rintro _ _ ⟨rfl,rfl⟩
  refine NS (gK 4 (EV f L to toName++[(68,.iface 132 (vP (L.b tk)))]) [] ?_)
  refine gL [0,1,2] (iA { S.X with ah:=S.X.ah - 1 } f m t (cg.yO hd1 eS) (aQ S.X S.O d name ⟨tk,3⟩) L to (cG.trans pJ) toName oH (jS kr pH) (Nat.le_trans (mo kr) (by omega)) ⟨tk,3⟩ (cG.trans kq) (by simp) (j4 cg.toInv0 hd1 eS)) ?_
  rintro _ _ ⟨rfl,rfl⟩
  refine NS (aj.dh [(5,.abs (ax (bC (cR S.X (aQ S.X S.O d name ⟨tk,3⟩) to toName ⟨tk,3⟩) L)))] (fun w hS=>by rw [show bC (cR S.X (aQ S.X S.O d name ⟨tk,3⟩) to toName ⟨tk,3⟩) L=bC S.O L from gV.trans jR];exact hS) ?_)
  refine gK 1 [(10,vI 0)] [] ?_
  refine NN (af.ret ?_)
  exact RT (vI 0) [0,3,4,1,5,2,6] (⟨L,by rw [show bF S d name to toName=(0,nI S d name to toName ⟨tk,3⟩) by unfold bF;rw [hlk];refine (if_neg (fun h=>absurd h.1 (by simp))).trans ?_;rw [bn]]<;>exact⟨rfl,rfl⟩⟩)
 ·have kx:(obj S.O ok).kind=1:=hI.kind ez
  refine af.region (gK 5 (vU L to toName) [(3,v_ 3 (br L ef))] ?_)
  refine iq 5 ef bn ?_
  refine gK 1 [(15,.iface 129 (vP (L.b ok)))] [] ?_
  refine NN (af.seq (SR (gK 3 [(50,.bool false)] [] ?_)))
  refine NN (CF (af.skip (NX (af.seq (SR (gK 2 [(52,.bool true)] [] ?_))))))
  refine NN (CT (af.seq (SR (gK 1 [(53,.iface 129 (vP (L.b ok)))] [] ?_))))
  refine gL [] (lX (vP (L.b ok))) ?_
  rintro _ _ ⟨rfl,rfl⟩
  refine gK 1 [(55,.bool false)] [] ?_
  refine NN (CF (af.skip (NX (af.seq (SR (gK 1 [(56,.bool false)] [] ?_))))))
  refine NN (CF (af.skip (NX (af.region (gK 3 (NG f L to toName) [] ?_)))))
  refine gL [0,3,5,1] (nO S L f m t hI to hto toName oH ⟨ok,1⟩ bn) ?_
  rintro _ _ ⟨rfl,rfl⟩
  refine NS ?_
  have cg:Inv (aI S to toName ⟨ok,1⟩):=hI.yj hto bn (by simp)
  have hot:(⟨ok,1⟩:Th)≠⟨tk,3⟩:=fun e=>by cases e
  have hd1:Live (aI S to toName ⟨ok,1⟩).idx ⟨d,2⟩:=ju hI.toInv0 hto bn hd (fun e=>by have:=gj hd ez e;cases this)
  have jH:Live (aI S to toName ⟨ok,1⟩).idx ⟨to,2⟩:=ju hI.toInv0 hto bn hto (fun e=>by have:=gj hto ez e;cases this)
  have eS:aT name (obj (aI S to toName ⟨ok,1⟩).O d).ah=some ⟨tk,3⟩:=qt hI.toInv0 hto bn hlk hot
  have pH:aT toName (obj (aI S to toName ⟨ok,1⟩).O to).ah=none:=qu hI.toInv0 hto bn
  have jG:(obj (aI S to toName ⟨ok,1⟩).O d).kind=2:=cg.kind hd1
  have pJ:(obj (aI S to toName ⟨ok,1⟩).O to).kind=2:=cg.kind jH
  have ko:Live (aI S to toName ⟨ok,1⟩).idx ⟨tk,3⟩:=(cg.ent hd1 eS).2
  have kq:(obj (aI S to toName ⟨ok,1⟩).O tk).kind=3:=cg.kind ko
  have Cv:(obj (aI S to toName ⟨ok,1⟩).O d).ah.length<=8192:=cg.fV hd1
  have Cw:(obj (aI S to toName ⟨ok,1⟩).O to).ah.length<=8192:=cg.fV jH
  have pK:=cg.lb ko
  have kr:tk≠d:=cg.ne hd1 eS
  refine gK 3 (EU f L d name) [] ?_
  refine gL [0,1,2] (jt (aI S to toName ⟨ok,1⟩).X f m t cg.hX (aI S to toName ⟨ok,1⟩).O L d jG name hsz ⟨tk,3⟩ kq (by simp) eS (cg.twice hd1) (by omega) (by simp only at pK ⊢;omega)) ?_
  rintro _ _ ⟨rfl,rfl⟩
  refine NS (gK 4 (EV f L to toName++[(68,.iface 132 (vP (L.b tk)))]) [] ?_)
  refine gL [0,1,2] (iA { (aI S to toName ⟨ok,1⟩).X with ah:=(aI S to toName ⟨ok,1⟩).X.ah - 1 } f m t (cg.yO hd1 eS) (aQ (aI S to toName ⟨ok,1⟩).X (aI S to toName ⟨ok,1⟩).O d name ⟨tk,3⟩) L to (cG.trans pJ) toName oH (jS kr pH) (Nat.le_trans (mo kr) (by omega)) ⟨tk,3⟩ (cG.trans kq) (by simp) (j4 cg.toInv0 hd1 eS)) ?_
  rintro _ _ ⟨rfl,rfl⟩
  refine NS (aj.dh [(5,.abs (ax (bC (cR (aI S to toName ⟨ok,1⟩).X (aQ (aI S to toName ⟨ok,1⟩).X (aI S to toName ⟨ok,1⟩).O d name ⟨tk,3⟩) to toName ⟨tk,3⟩) L)))] (fun w hS=>by rw [show bC (cR (aI S to toName ⟨ok,1⟩).X (aQ (aI S to toName ⟨ok,1⟩).X (aI S to toName ⟨ok,1⟩).O d name ⟨tk,3⟩) to toName ⟨tk,3⟩) L=bC S.O L from gV.trans (jR.trans nP)];exact hS) ?_)
  refine gK 1 [(10,vI 0)] [] ?_
  refine NN (af.ret ?_)
  exact RT (vI 0) [0,3,4,1,5,2,6] (⟨L,by rw [show bF S d name to toName=(0,nI (aI S to toName ⟨ok,1⟩) d name to toName ⟨tk,3⟩) by unfold bF;rw [hlk];refine (if_neg (fun h=>absurd h.1 (by simp))).trans ?_;rw [bn];exact (if_neg (fun e=>by cases e)).trans ((if_neg (by simp)).trans (if_neg (by simp)))]<;>exact⟨rfl,rfl⟩⟩)
 ·have kx:(obj S.O ok).kind=2:=hI.kind ez
  refine af.region (gK 5 (vU L to toName) [(3,v_ 3 (br L ef))] ?_)
  refine iq 5 ef bn ?_
  refine gK 1 [(15,.iface 135 (vP (L.b ok)))] [] ?_
  refine NN (af.seq (SR (gK 3 [(50,.bool false)] [] ?_)))
  refine NN (CF (af.skip (NX (af.seq (SR (gK 2 [(52,.bool true)] [] ?_))))))
  refine NN (CT (af.seq (SR (gK 1 [(53,.iface 135 (vP (L.b ok)))] [] ?_))))
  refine gL [] (lY (vP (L.b ok))) ?_
  rintro _ _ ⟨rfl,rfl⟩
  refine gK 1 [(55,.bool true)] [] ?_
  refine NN (CT (SR (gK 1 [(10,vI 172)] [] ?_)))
  refine NN (af.ret (ai.ak (ai.ak ?_)))
  exact RT (vI 172) [0,1,2,3,4,5,6] (⟨L,by rw [show bF S d name to toName=(172,S) by unfold bF;rw [hlk];refine (if_neg (fun h=>absurd h.1 (by simp))).trans ?_;rw [bn];exact (if_neg (fun e=>by cases e)).trans (if_pos rfl)]<;>exact⟨rfl,rfl⟩⟩)
 have kx:(obj S.O ok).kind=3:=hI.kind ez
 refine af.region (gK 5 (vU L to toName) [(3,v_ 3 (br L ef))] ?_)
 refine iq 5 ef bn ?_
 refine gK 1 [(15,.iface 132 (vP (L.b ok)))] [] ?_
 refine NN (af.seq (SR (gK 2 [(48,.iface 132 (vP (L.b ok))),(49,.iface 132 (vP (L.b tk)))] [] ?_)))
 refine aj.je (d:=(some 50)) (op:=.binOp .eql 124 (.tmp 48) (.tmp 49) 124) (v:=.bool (decide (ok=tk))) (fun _=>by kernel_rfl) (fun o junk w ho hS=>by obtain⟨F,hF⟩:=hS.get (i:=3) rfl;exact⟨w,zF PV ho (by kernel_rfl) (by kernel_rfl) (by rw [kx];decide) (by rw [hkt];decide) hF,hS⟩) ?_
 refine NN (af.aZ (p:=ok=tk) (fun _=>by kernel_rfl) (fun h50=>?_) (fun h50=>?_))
 ·refine SR (gK 1 [(10,vI 0)] [] ?_)
  refine NN (af.ret (ai.ak ?_))
  exact RT (vI 0) [0,1,2,3,4,5,6] (⟨L,by rw [show bF S d name to toName=(0,S) by unfold bF;rw [hlk];refine (if_neg (fun h=>absurd h.1 (by simp))).trans ?_;rw [bn];exact if_pos (by rw [h50])]<;>exact⟨rfl,rfl⟩⟩)
 refine af.skip (NX (af.seq (SR (gK 2 [(52,.bool true)] [] ?_))))
 refine NN (CT (af.seq (SR (gK 1 [(53,.iface 132 (vP (L.b ok)))] [] ?_))))
 refine gL [] (nM (vP (L.b ok))) ?_
 rintro _ _ ⟨rfl,rfl⟩
 refine gK 1 [(55,.bool false)] [] ?_
 refine NN (CF (af.skip (NX (af.seq (SR (gK 1 [(56,.bool false)] [] ?_))))))
 refine NN (CF (af.skip (NX (af.region (gK 3 (NG f L to toName) [] ?_)))))
 refine gL [0,3,5,1] (nO S L f m t hI to hto toName oH ⟨ok,3⟩ bn) ?_
 rintro _ _ ⟨rfl,rfl⟩
 refine NS ?_
 have cg:Inv (aI S to toName ⟨ok,3⟩):=hI.yj hto bn (by simp)
 have hot:(⟨ok,3⟩:Th)≠⟨tk,3⟩:=fun e=>h50 (congrArg Th.k e)
 have hd1:Live (aI S to toName ⟨ok,3⟩).idx ⟨d,2⟩:=ju hI.toInv0 hto bn hd (fun e=>by have:=gj hd ez e;cases this)
 have jH:Live (aI S to toName ⟨ok,3⟩).idx ⟨to,2⟩:=ju hI.toInv0 hto bn hto (fun e=>by have:=gj hto ez e;cases this)
 have eS:aT name (obj (aI S to toName ⟨ok,3⟩).O d).ah=some ⟨tk,3⟩:=qt hI.toInv0 hto bn hlk hot
 have pH:aT toName (obj (aI S to toName ⟨ok,3⟩).O to).ah=none:=qu hI.toInv0 hto bn
 have jG:(obj (aI S to toName ⟨ok,3⟩).O d).kind=2:=cg.kind hd1
 have pJ:(obj (aI S to toName ⟨ok,3⟩).O to).kind=2:=cg.kind jH
 have ko:Live (aI S to toName ⟨ok,3⟩).idx ⟨tk,3⟩:=(cg.ent hd1 eS).2
 have kq:(obj (aI S to toName ⟨ok,3⟩).O tk).kind=3:=cg.kind ko
 have Cv:(obj (aI S to toName ⟨ok,3⟩).O d).ah.length<=8192:=cg.fV hd1
 have Cw:(obj (aI S to toName ⟨ok,3⟩).O to).ah.length<=8192:=cg.fV jH
 have pK:=cg.lb ko
 have kr:tk≠d:=cg.ne hd1 eS
 refine gK 3 (EU f L d name) [] ?_
 refine gL [0,1,2] (jt (aI S to toName ⟨ok,3⟩).X f m t cg.hX (aI S to toName ⟨ok,3⟩).O L d jG name hsz ⟨tk,3⟩ kq (by simp) eS (cg.twice hd1) (by omega) (by simp only at pK ⊢;omega)) ?_
 rintro _ _ ⟨rfl,rfl⟩
 refine NS (gK 4 (EV f L to toName++[(68,.iface 132 (vP (L.b tk)))]) [] ?_)
 refine gL [0,1,2] (iA { (aI S to toName ⟨ok,3⟩).X with ah:=(aI S to toName ⟨ok,3⟩).X.ah - 1 } f m t (cg.yO hd1 eS) (aQ (aI S to toName ⟨ok,3⟩).X (aI S to toName ⟨ok,3⟩).O d name ⟨tk,3⟩) L to (cG.trans pJ) toName oH (jS kr pH) (Nat.le_trans (mo kr) (by omega)) ⟨tk,3⟩ (cG.trans kq) (by simp) (j4 cg.toInv0 hd1 eS)) ?_
 rintro _ _ ⟨rfl,rfl⟩
 refine NS (aj.dh [(5,.abs (ax (bC (cR (aI S to toName ⟨ok,3⟩).X (aQ (aI S to toName ⟨ok,3⟩).X (aI S to toName ⟨ok,3⟩).O d name ⟨tk,3⟩) to toName ⟨tk,3⟩) L)))] (fun w hS=>by rw [show bC (cR (aI S to toName ⟨ok,3⟩).X (aQ (aI S to toName ⟨ok,3⟩).X (aI S to toName ⟨ok,3⟩).O d name ⟨tk,3⟩) to toName ⟨tk,3⟩) L=bC S.O L from gV.trans (jR.trans nP)];exact hS) ?_)
 refine gK 1 [(10,vI 0)] [] ?_
 refine NN (af.ret ?_)
 exact RT (vI 0) [0,3,4,1,5,2,6] (⟨L,by rw [show bF S d name to toName=(0,nI (aI S to toName ⟨ok,3⟩) d name to toName ⟨tk,3⟩) by unfold bF;rw [hlk];refine (if_neg (fun h=>absurd h.1 (by simp))).trans ?_;rw [bn];exact (if_neg (fun e=>h50 (congrArg Th.k e))).trans ((if_neg (by simp)).trans (if_neg (by simp)))]<;>exact⟨rfl,rfl⟩⟩)
end
section
open Go.RowKit Go.Maps bG aE
theorem bg.take {β:Bs} {A:Option Addr} {d:List UInt8} (h:bg β A d) (n:Nat):bg β A (d.take n):=by
  intro j v hj
  refine h j v ?_
  unfold bX at hj ⊢
  rw [List.map_take] at hj
  rw [List.getElem?_take] at hj
  split at hj
  ·exact hj
  cases hj
theorem II {a b:List UInt8}:bX (a++b)=bX a++bX b:=List.map_append
theorem Inv0.RO {S:aG} {t:Th} (h:Inv0 S) (hl:Live S.idx t):((obj S.O t.k).data.length:Int)<=S.X.used:=by
  have h1:=h.used
  have h2:(obj S.O t.k).data.length<=bytes S.idx S.O:=lF (g:=fun p:Int×Th=>(obj S.O p.2.k).data.length) hl
  omega
theorem Kh {X:FM} {n:Nat} (h:0 < X.cB - X.used):min (n:Int) (X.cB - X.used)=(bh X n:Int):=by
  unfold bh
  omega
theorem Ki {X:FM} {n:Nat} (h:0 < X.cB - X.used):bh X n<=n/\(bh X n:Int)<=X.cB - X.used:=by
  unfold bh
  omega
section data
variable {O:bY} {us:Used Th} {L L':HL} {k c:Nat} {A:Option Addr} {t:Th}
theorem EW (hL:L'=L.data k A c):aV L' us=aV L us:=by subst hL;rfl
theorem L9 (hL:L'=L.data k A c):bV O L'=bV O L:=by
  subst hL
  funext x
  rfl
theorem Ma (hL:L'=L.data k A c) {x:Nat} (h:x≠k):bB O L' x=bB O L x:=by
  have e2:fY L' x (obj O x)=fY L x (obj O x):=by
    subst hL
    unfold fY x5
    simp only [HL.data,if_neg h]
    rfl
  unfold bB
  rw [e2]
  subst hL
  rfl
theorem Mb (hL:L'=L.data k A c) {x:Nat} (h:x≠k):bC O L' x=bC O L x:=by
  unfold bC
  subst hL
  simp only [HL.data,if_neg h]
theorem GX (hL:L'=L.data k A c):L'.dA k=A:=by subst hL;exact if_pos rfl
theorem GY (hL:L'=L.data k A c):L'.dC k=c:=by subst hL;exact if_pos rfl
theorem Kj (hL:L'=L.data k A c) {x:Nat}:L'.b x=L.b x:=by subst hL;rfl
end data
section sat
variable {β:Bs} {l l':List HP} {w:World} {i j k c n:Nat} {O:bY} {L L':HL} {f:aR->aR} {cs:List Value} {T:TypeId} {ix:List Nat} {A:Option Addr} {R:Nat->cu} {xs:List Value}
theorem Sat.Qb (h:Sat β l w) (hL:L'=L.data k A c) (hp:l[i]?=some (.abs (ax (jY (bB O L) k cu.none)))) (hq:l[j]?=some (.blk (L.b k) cs T)) (hd:bq (i::j::ix)=true) (hl:bT l ix=some l') (h0:(f (obj O k)).kind≠0) (hc:fY L' k (f (obj O k))=cs) (hT:jZ (f (obj O k)).kind=T):Sat β (.abs (ax (bB (aD O k f) L'))::l') w:=by
  refine h.pX (a:=zu (L.b k) cs T) hp hq (fun _ _ h=>h) hd hl k (fun x hx=>?_) (by rw [t6,if_neg h0,hc,hT,Kj hL])
  rw [t7 hx,Ma hL hx,og hx]
theorem Sat.Qc (h:Sat β l w) (hL:L'=L.data k A c) (hp:l[i]?=some (.abs (ax (jY (bC O L) k cu.none)))) (hq:l[j]?=some (.abs (aH 5 1 A n c xs))) (hd:bq (i::j::ix)=true) (hl:bT l ix=some l') (h1:(f (obj O k)).kind=1) (hn:n=(f (obj O k)).data.length) (hx:xs=bX (f (obj O k)).data):Sat β (.abs (ax (bC (aD O k f) L'))::l') w:=by
  refine h.pX hp hq (fun _ _ h=>h) hd hl k (fun x hx=>by rw [wO hx,Mb hL hx,og hx]) ?_
  rw [rX (by rw [bL];exact h1),bL,GX hL,GY hL,hn,hx]
end sat
end
section
open Go.RowKit Go.Maps bG aE
attribute [local irreducible] aj aP af ai
abbrev Sh (S:aG) (L:HL) (k:Nat):=(.abs (ax (jY (bC S.O L) k cu.none)):HP)
abbrev Qd (A1:Option Addr) (S:aG) (k:Nat) (bs:List UInt8) (c2:Nat):=(.abs (aH 5 1 A1 (((obj S.O k).data++bs.take (bh S.X bs.length)).length) c2 (bX ((obj S.O k).data++bs.take (bh S.X bs.length)))):HP)
abbrev Kk (f:Nat) (m:Nat) (t) (S:aG) (L:HL) (k:Nat) (R:cu):=([pF f m t S.X,pI m L S.idx,pT t S.X.cH S.ar L S.us,pO S.O L,Sh S L k,pE S.O L,.abs R]:List HP)
theorem Dj {β:Bs} (S:aG) (L:HL) (f m t:Nat) (hI:Inv S) (k:Nat) (hk:Live S.idx ⟨k,1⟩) (A:Option Addr) (c:Nat) (bs:List UInt8) (hA:bg β A bs) (hbl:bs.length<=1099511627776) (hbc:bs.length<=c) :
    Spec Tryz.prog β 133 #[vP f,vP (L.b k),.slice A (bs.length) (c)] (pA f m t L S) (fun v l=>∃ L2,v=.tuple #[vI (dI S k bs).1,vI (dI S k bs).2.1]/\l=(pA f m t L2 ((dI S k bs).2.2))):=by
 have hX:=hI.hX
 have hkk:(obj S.O k).kind=1:=hI.kind hk
 have VQ:((obj S.O k).data.length:Int)<=S.X.used:=hI.RO hk
 have hcB:=hI.cB
 refine Spec.enter Tryz.func133 rfl Tryz.ntmps133 (Nat.le_of_ble_eq_true rfl) (fun R=>?_)
 refine SR (gK 2 [] [] ?_)
 refine NN (af.seq (SR (gK 3 [(12,.bool (decide ((((bs.length:Nat):Int):Int)=(0:Int))))] [] ?_)))
 refine NN (af.aZ (p:=(((bs.length:Nat):Int):Int)=(0:Int)) (fun _=>by kernel_rfl) (fun h12=>?_) (fun h12=>?_))
 ·have he:bs=[]:=List.eq_nil_of_length_eq_zero (by omega)
  refine SR (gK 2 [(6,vI 0),(7,vI 0)] [] ?_)
  refine NN (af.ret (ai.ak ?_))
  exact RT (.tuple #[vI 0,vI 0]) [0,1,2,3,4,5,6] (⟨L,by rw [show dI S k bs=(0,0,S) from if_pos he]<;>exact⟨rfl,rfl⟩⟩)
 have hlen:0 < bs.length:=by omega
 refine af.skip (NX (af.seq (af.bH (by kernel_rfl) (by kernel_rfl) ?_)))
 refine gQ 11 [(8,vI (S.X.cB - S.X.used))] [(4,a_ 0 f),(8,a_ 0 f),(9,p_ ⟨[],none,none,none,some (vI (S.X.cB - S.X.used))⟩ [(Value.int .i64 (IntKind.wrap .i64 (S.X.cB - S.X.used)))=(.int .i64 (S.X.cB - S.X.used))] ⟨bD (by omega) (by omega) (by omega),trivial⟩)] ?_
 refine NQ (NX (af.seq (SR ?_)))
 refine gK 2 [(24,.bool (decide ((S.X.cB - S.X.used:Int)<=(0:Int))))] [] ?_
 refine NN (af.aZ (p:=(S.X.cB - S.X.used:Int)<=(0:Int)) (fun _=>by kernel_rfl) (fun Be=>?_) (fun Be=>?_))
 ·refine SR (gK 2 [(6,vI 0),(7,vI 176)] [] ?_)
  refine NN (af.ret (ai.ak ?_))
  exact RT (.tuple #[vI 0,vI 176]) [0,1,2,3,4,5,6] (⟨L,by rw [show dI S k bs=(0,176,S) from (if_neg (fun e=>by rw [e] at hlen;exact absurd hlen (by simp))).trans (if_pos Be)]<;>exact⟨rfl,rfl⟩⟩)
 refine af.skip (NX (SR (gK 4 [(28,vI (min ((bs.length:Nat):Int) (S.X.cB - S.X.used)))] [(3,p_ ⟨[],none,none,none,some (vI (min ((bs.length:Nat):Int) (S.X.cB - S.X.used)))⟩ [(Value.int .i64 (if S.X.cB - S.X.used < ((bs.length:Nat):Int) then S.X.cB - S.X.used else ((bs.length:Nat):Int)))=(.int .i64 (min ((bs.length:Nat):Int) (S.X.cB - S.X.used)))] ⟨congrArg (Value.int .i64) (Nz _ _),trivial⟩)] ?_)))
 refine aj.slot 28 (.int .i64 (min ((bs.length:Nat):Int) (S.X.cB - S.X.used))) (.int .i64 ↑(bh S.X bs.length)) (fun _=>by kernel_rfl) (congrArg (Value.int .i64) (Kh (by omega))) ?_
 refine gK 1 [(9,vI ↑(bh S.X bs.length))] [] ?_
 refine NN (af.seq ?_)
 have hwl:=Ki (X:=S.X) (n:=bs.length) (by omega)
 refine af.mem (cF:=(Kk f m t S L k R++[.abs (aH 5 1 (L.dA k) ((obj S.O k).data.length) (L.dC k) (bX (obj S.O k).data))])) (fun w hS=>hS.JM (i:=4) (k:=k) rfl hkk) ?_
 refine af.bP (S:=(Kk f m t S L k R)) [0,1,2,3,4,5,6,7,8,9,10,11] 8 [0,1,2,3,4,5,6] (by kernel_rfl) (by kernel_rfl) rfl (by kernel_rfl) ?_
 refine gR 0 [8,9,10,11] [(0,vP f),(1,vP (L.b k)),(9,vI ↑(bh S.X bs.length)),(29,vP (L.b k)),(33,.slice (L.dA k) ((obj S.O k).data.length) ((L.dC k))),(36,.slice A ((bh S.X bs.length)) (c))] [0,1,2,3,4,5,6,7] [(4,v_ 3 (Ew L hkk)),(7,p_ ⟨[],some (bh S.X bs.length),none,none,none⟩ [(((bh S.X bs.length):Nat):Int)=(((bh S.X bs.length):Nat):Int),(bh S.X bs.length)<=c] ⟨rfl,by omega,trivial⟩)] ?_
 refine aL.cut (ι:=(Option Addr)×Nat) (fr':=fun ((A1,c2):(Option Addr)×Nat)=>[(0,vP f),(1,vP (L.b k)),(9,vI ↑(bh S.X bs.length)),(29,vP (L.b k)),(37,.slice A1 (((obj S.O k).data++bs.take (bh S.X bs.length)).length) (c2))]) (hp':=fun ((A1,c2):(Option Addr)×Nat)=>(Kk f m t S L k R++[Qd A1 S k bs c2])) [0,1,2,3,4,5,6] rfl rfl ?_ rfl (fun _=>by kernel_rfl) ?_
 ·refine aj.append 7 (d:=(some 37)) (t:=46) (e:=5) (z:=.int .u8 0) (size:=1) (bytes:=1) (n:=(obj S.O k).data.length) (cap:=(L.dC k)) (A:=(L.dA k)) (xs:=(bX (obj S.O k).data)) (s:=(.tmp 33)) (x:=(.tmp 36)) (ats:=#[46,46]) (A':=A) (m:=(bh S.X bs.length)) (c':=c) (news:=(bX (bs.take (bh S.X bs.length)))) (fun _=>by kernel_rfl) rfl (by kernel_rfl) (fun _=>by kernel_rfl) (fun _=>by kernel_rfl) Tryz.underlying46 (by kernel_rfl) rfl (by decide) (by rw [qY,List.length_take,Nat.min_eq_left hwl.1,Nat.mul_one]) (nG (bs.take (bh S.X bs.length))) ((hA.take (bh S.X bs.length)).src) (by unfold maxLen;omega) (by omega) (fun A1 c2=>?_)
  refine aj.dK 7 (p:=.abs (aH 5 1 A1 (((obj S.O k).data.length)+(bh S.X bs.length)) c2 ((bX (obj S.O k).data)++(bX (bs.take (bh S.X bs.length)))))) (p':=.abs (aH 5 1 A1 (((obj S.O k).data++bs.take (bh S.X bs.length)).length) c2 (bX ((obj S.O k).data++bs.take (bh S.X bs.length))))) (by kernel_rfl) (by rw [II,List.length_append,List.length_take,Nat.min_eq_left hwl.1]) ?_
  refine aj.slot 37 (.slice A1 (((obj S.O k).data.length)+(bh S.X bs.length)) (c2)) (.slice A1 (((obj S.O k).data++bs.take (bh S.X bs.length)).length) (c2)) (fun _=>by kernel_rfl) (by rw [List.length_append,List.length_take,Nat.min_eq_left hwl.1]) ?_
  refine NL ?_
  exact MD (A1,c2) [0,1,9,29,37] [0,1,2,3,4,5,6,7]
 rintro⟨A1,c2⟩
 refine aL.cut (ι:=Unit) (fr':=fun (_:Unit)=>[(0,vP f),(1,vP (L.b k)),(9,vI ↑(bh S.X bs.length)),(37,.slice A1 (((obj S.O k).data++bs.take (bh S.X bs.length)).length) (c2)),(38,vP (L.b k))]) (hp':=fun (_:Unit)=>(Kk f m t S L k R++[Qd A1 S k bs c2])) [0,1,2,3,4,5,6] rfl rfl ?_ rfl (fun _=>by kernel_rfl) ?_
 ·refine gK 1 [(38,vP (L.b k))] [] ?_
  refine NL ?_
  exact MD () [0,1,9,37,38] [0,1,2,3,4,5,6,7]
 rintro _
 refine aL.cut (ι:=Unit) (fr':=fun (_:Unit)=>[(0,vP f),(1,vP (L.b k)),(9,vI ↑(bh S.X bs.length)),(37,.slice A1 (((obj S.O k).data++bs.take (bh S.X bs.length)).length) (c2)),(39,.pointer (some ⟨(L.b k),9,none⟩))]) (hp':=fun (_:Unit)=>(Kk f m t S L k R++[Qd A1 S k bs c2])) [0,1,2,3,4,5,6] rfl rfl ?_ rfl (fun _=>by kernel_rfl) ?_
 ·refine gK 1 [(39,.pointer (some ⟨(L.b k),9,none⟩))] [] ?_
  refine NL ?_
  exact MD () [0,1,9,37,39] [0,1,2,3,4,5,6,7]
 rintro _
 refine aL.last rfl rfl ?_
 refine aj.mem (fun w hS=>hS.wS (i:=3) (k:=k) rfl (by rw [hkk];decide) (gU (hkk)) (congrArg jZ (hkk))) ?_
 refine gC 1 [] [(0,a_ 8 (L.b k))] [(8,[(9,.slice A1 (((obj S.O k).data++bs.take (bh S.X bs.length)).length) (c2))])] ?_
 obtain⟨L2,hL2⟩:∃ L2:HL,L2=L.data k A1 c2:=⟨_,rfl⟩
 refine aj.mem (cF:=[.abs (ax (bB (aD S.O k (fun o=>{ o with data:=o.data++bs.take (bh S.X bs.length) })) L2)),.blk f [vI (S.X.cN),vI (S.X.cB),vI (S.X.cH),vI (S.X.cS),vI (S.X.cZ),.map (some m),vP t,vI (S.X.last),vI (S.X.ah),vI (S.X.used)] 126,.abs (aJ Tryz.prog 3 m (aW (aV L S.idx)) S.idx.length),.abs (bS 197 t S.X.cH S.ar (aV L S.us)),.abs (ax (jY (bC S.O L) k cu.none)),.abs (ax (bV S.O L)),.abs R,.abs (aH 5 1 A1 (((obj S.O k).data++bs.take (bh S.X bs.length)).length) c2 (bX ((obj S.O k).data++bs.take (bh S.X bs.length))))]) (fun w hS=>hS.Qb hL2 (f:=(fun o=>{ o with data:=o.data++bs.take (bh S.X bs.length) })) (i:=3) (j:=8) (ix:=[0,1,2,4,5,6,7]) rfl rfl (by kernel_rfl) rfl (by show (obj S.O k).kind≠0;rw [hkk];decide) ((gU (L:=L2) (k:=k) (o:=(fun o=>{ o with data:=o.data++bs.take (bh S.X bs.length) }) (obj S.O k)) hkk).trans (by rw [GX hL2,GY hL2]<;>rfl)) (by show jZ (obj S.O k).kind=_;rw [hkk]<;>rfl)) ?_
 refine aj.mem (cF:=[pD (aD S.O k (fun o=>{ o with data:=o.data++bs.take (bh S.X bs.length) })) L2,pO (aD S.O k (fun o=>{ o with data:=o.data++bs.take (bh S.X bs.length) })) L2,pF f m t S.X,pI m L S.idx,pT t S.X.cH S.ar L S.us,pE S.O L,.abs R]) (fun w hS=>hS.Qc hL2 (f:=(fun o=>{ o with data:=o.data++bs.take (bh S.X bs.length) })) (i:=4) (j:=7) (ix:=[0,1,2,3,5,6]) rfl rfl (by kernel_rfl) rfl hkk rfl rfl) ?_
 refine aj.dh [(3,.abs (aJ Tryz.prog 3 m (aW (aV L2 S.idx)) S.idx.length)),(4,.abs (bS 197 t S.X.cH S.ar (aV L2 S.us))),(5,.abs (ax (bV (aD S.O k (fun o=>{ o with data:=o.data++bs.take (bh S.X bs.length) })) L2)))] (fun w hS=>by rw [EW hL2,EW hL2,show bV (aD S.O k (fun o=>{ o with data:=o.data++bs.take (bh S.X bs.length) })) L2=bV S.O L from (mG (O:=S.O) (k:=k) (f:=(fun o=>{ o with data:=o.data++bs.take (bh S.X bs.length) })) rfl rfl).trans (L9 hL2)];exact hS) ?_
 have Cr:(obj (aD S.O k (fun o=>{ o with data:=o.data++bs.take (bh S.X bs.length) })) k).kind=1:=(jy (f:=(fun o=>{ o with data:=o.data++bs.take (bh S.X bs.length) })) (fun _=>rfl)).trans hkk
 have hbk:L2.b k=L.b k:=Kj hL2
 generalize ck:(aD S.O k (fun o=>{ o with data:=o.data++bs.take (bh S.X bs.length) }))=cA at Cr ⊢
 refine NL (ai.np (NX (SR ?_)))
 refine gK 1 [(40,vP (L.b k))] [] ?_
 refine aj.slot 40 (vP (L.b k)) (vP (L2.b k)) (fun _=>by kernel_rfl) (by rw [hbk]) ?_
 refine gK 8 [(45,.agg #[vI (S.X.cS),vI (S.X.cZ)]),(48,.pointer (some ⟨(L2.b k),4,none⟩))] [(4,A_ 2 f 2)] ?_
 refine JQ 1 [(5,1),(0,2)] k S.X.cS S.X.cZ Cr (fun dS cW=>?_)
 have wT:=ku cW Cr
 refine NS (gC 9 [] [(3,a_ 2 f),(5,p_ ⟨[],none,none,none,some (vI (S.X.used+(((bh S.X bs.length):Nat):Int)))⟩ [(Value.int .i64 (IntKind.wrap .i64 (S.X.used+(((bh S.X bs.length):Nat):Int))))=(.int .i64 (S.X.used+(((bh S.X bs.length):Nat):Int)))] ⟨bD (by omega) (by omega) (by omega),trivial⟩),(8,a_ 2 f)] [(2,[(9,vI (S.X.used+(((bh S.X bs.length):Nat):Int)))])] ?_)
 refine NS (gK 3 [(6,vI ↑(bh S.X bs.length)),(7,vI 0)] [] ?_)
 refine NN (af.ret ?_)
 exact RT (l:=[pF f m t { S.X with used:=S.X.used+(((bh S.X bs.length):Nat):Int) },pI m L2 S.idx,pT t S.X.cH S.ar L2 S.us,pO dS L2,pD dS L2,pE dS L2]) (.tuple #[vI ↑(bh S.X bs.length),vI 0]) [2,3,4,1,0,5,6] (⟨L2,by subst cW;subst ck;rw [show dI S k bs=_ from (if_neg (fun e=>by rw [e] at hlen;exact absurd hlen (by simp))).trans (if_neg Be)];exact⟨rfl,by rw [sW]⟩⟩)
end
section
open Go.RowKit Go.Maps bG aE
structure fL (β:Bs) (c:aB):Prop where
  hw:(Lit.int .i64 c.handle).wf=true
  ow:(Lit.int .i64 c.other).wf=true
  nm:c.name.size<=1048576
  tx:c.text.size<=1048576
  da:bg β c.dA c.data
  dl:c.data.length<=1099511627776
  dc:c.data.length<=c.dC
section facts
variable {S:aG} {h:Int} {name:ByteArray} {need:Int} {t:Th} {c:aB}
theorem lg (hI:Inv0 S) (h:Int) (name:ByteArray) (need:Int):(∃ e,dU S.O S.us h name need=.error e/\e≠0)\/∃ d,dU S.O S.us h name need=.ok d/\Live S.idx ⟨d,2⟩/\(obj S.O d).gone=false/\bI name/\aE.get S.us h=some ⟨d,2⟩:=by
  unfold dU
  cases e:aE.get S.us h with
  | none=>exact .inl ⟨131,rfl,by decide⟩
  | some t=>
    simp only
    split
    ·rename_i hk
     split
     ·exact .inl ⟨170,rfl,by decide⟩
     rename_i hg
     split
     ·rename_i hn
      split
      ·obtain⟨k,kd⟩:=t
       simp only at hk
       subst hk
       exact .inr ⟨k,rfl,(hI.us h _ e).1,by simpa using hg,hn,rfl⟩
      exact .inl ⟨175,rfl,by decide⟩
     exact .inl ⟨95,rfl,by decide⟩
    exact .inl ⟨173,rfl,by decide⟩
theorem Bg (hI:Inv0 S) (c:aB):(∃ e,fP S.O S.us c=.error e/\e≠0)\/(∃ k,fP S.O S.us c=.ok ⟨k,1⟩/\Live S.idx ⟨k,1⟩)\/(∃ k,fP S.O S.us c=.ok ⟨k,2⟩/\Live S.idx ⟨k,2⟩)\/∃ k,fP S.O S.us c=.ok ⟨k,3⟩/\Live S.idx ⟨k,3⟩:=by
  unfold fP
  rcases lg hI c.handle c.name 64 with ⟨e,h1,h2⟩|⟨d,h1,h2,_⟩
  ·rw [h1];exact .inl ⟨e,rfl,h2⟩
  rw [h1]
  simp only
  rcases hI.lP h2 c.name with h3|⟨k,h3,h4⟩|⟨k,h3,h4⟩|⟨k,h3,h4⟩
  ·rw [h3];exact .inl ⟨170,rfl,by decide⟩
  ·rw [h3];exact .inr (.inl ⟨k,rfl,h4⟩)
  ·rw [h3];exact .inr (.inr (.inl ⟨k,rfl,h4⟩))
  rw [h3];exact .inr (.inr (.inr ⟨k,rfl,h4⟩))
theorem EX {L:HL} {us:Used Th} {h:Int}:aV L (del h us)=del h (aV L us):=GL (dz L) h us
theorem GZ {us:Used Th} {h:Int} (e:aE.get us h=some t):0 < hnd us t.k:=Nat.lt_of_lt_of_le (by simp) (lF (g:=fun p:Int×Th=>if p.2.k=t.k then 1 else 0) e)
theorem zH {L:HL}:bC (cr S t).2.2.O L=bC S.O L:=by
  by_cases h:(S.us.length:Int) < S.X.cH
  ·rw [kG h];exact su (fun _=>dH (f:=fun o=>{ o with opens:=o.opens+1 }) (g:=aR.data) (fun _=>rfl)) (fun _=>jy (f:=fun o=>{ o with opens:=o.opens+1 }) (fun _=>rfl))
  rw [l6 h]
theorem zI {L:HL}:bV (cr S t).2.2.O L=bV S.O L:=by
  by_cases h:(S.us.length:Int) < S.X.cH
  ·rw [kG h];exact mG (f:=fun o=>{ o with opens:=o.opens+1 }) rfl rfl
  rw [l6 h]
theorem OD:(jl S c).2.2.op=c.op:=by unfold jl;(repeat' split)<;>rfl
theorem IJ:(fD S c).2.2.op=c.op:=by unfold fD;(repeat' split)<;>rfl
theorem Gb:(eM S c).2.2.op=c.op:=by unfold eM;(repeat' split)<;>rfl
theorem IK:(fQ S c).2.2.op=c.op:=by unfold fQ;(repeat' split)<;>rfl
theorem Gc:(dY S c).2.2.op=c.op:=by unfold dY;(repeat' split)<;>rfl
theorem EY:(fK S c).2.2.op=c.op:=by unfold fK;(repeat' split)<;>rfl
theorem Kl:(cE S c).2.2.op=c.op:=by unfold cE;(repeat' split)<;>rfl
theorem Gd:(gh S c).2.2.op=c.op:=by unfold gh;(repeat' split)<;>rfl
theorem IL:(iu S c).2.2.op=c.op:=by unfold iu;(repeat' split)<;>rfl
theorem Ge:(fB S c).2.2.op=c.op:=by unfold fB;(repeat' split)<;>rfl
theorem IQ:(fZ S c).2.2.op=c.op:=by unfold fZ;(repeat' split)<;>rfl
theorem IU:(bJ S c).2.2.op=c.op:=by unfold bJ;(repeat' split)<;>rfl
theorem OE:(j6 S c).2.2.op=c.op:=by unfold j6;(repeat' split)<;>rfl
theorem Km:(gi S c).2.2.op=c.op:=by unfold gi;(repeat' split)<;>rfl
theorem Mc:(ji S c).2.2.op=c.op:=by unfold ji;(repeat' split)<;>rfl
end facts
theorem vm {S:aG} {c:aB} (h:c.op=1):cK S c=jl S c:=by
  unfold cK
  simp [h]
theorem yq {S:aG} {c:aB} (h:c.op=2):cK S c=fD S c:=by
  unfold cK
  simp [h]
theorem yt {S:aG} {c:aB} (h:c.op=3):cK S c=eM S c:=by
  unfold cK
  simp [h]
theorem vn {S:aG} {c:aB} (h:c.op=4):cK S c=fQ S c:=by
  unfold cK
  simp [h]
theorem yu {S:aG} {c:aB} (h:c.op=5):cK S c=dY S c:=by
  unfold cK
  simp [h]
theorem yw {S:aG} {c:aB} (h:c.op=6):cK S c=fK S c:=by
  unfold cK
  simp [h]
theorem yx {S:aG} {c:aB} (h:c.op=7):cK S c=cE S c:=by
  unfold cK
  simp [h]
theorem yA {S:aG} {c:aB} (h:c.op=8):cK S c=gh S c:=by
  unfold cK
  simp [h]
theorem yB {S:aG} {c:aB} (h:c.op=9):cK S c=fZ S c:=by
  unfold cK
  simp [h]
theorem ur {S:aG} {c:aB} (h:c.op=10):cK S c=bJ S c:=by
  unfold cK
  simp [h]
theorem uw {S:aG} {c:aB} (h:c.op=11):cK S c=j6 S c:=by
  unfold cK
  simp [h]
theorem ux {S:aG} {c:aB} (h:c.op=12):cK S c=gi S c:=by
  unfold cK
  simp [h]
theorem uy {S:aG} {c:aB} (h:c.op=13):cK S c=ji S c:=by
  unfold cK
  simp [h]
theorem uz {S:aG} {c:aB} (h:c.op=14):cK S c=iu S c:=by
  unfold cK
  simp [h]
theorem uD {S:aG} {c:aB} (h:c.op=15):cK S c=fB S c:=by
  unfold cK
  simp [h]
theorem uE {S:aG} {c:aB} (h:¬ (1<=c.op/\c.op<=15)):cK S c=(230,S,c):=by
  unfold cK
  repeat rw [if_neg (by omega)]
end
section
open Go.RowKit Go.Maps bG aE
attribute [local irreducible] aj aP af ai
abbrev jT (t)(S:aG) (L:HL):=(pT t S.X.cH S.ar L S.us:HP)
abbrev oo (m:Nat) (L:HL) (S:aG) (cb:Nat) (c) (R:cu):=([pI m L S.idx,pD S.O L,pE S.O L,pC cb c,.abs R]:List HP)
abbrev NJ (f:Nat) (c:aB):=([(8,vP f),(12,vI (c.handle)),(16,.string c.name)]:Fr)
abbrev EZ (L:HL) (d:Nat):=([(5,vP (L.b d)),(6,vI 0)]:Fr)
abbrev Qe (f:Nat) (L:HL) (d:Nat) (c:aB):=([(23,vP f),(24,vP (L.b d)),(28,.string c.name)]:Fr)
abbrev oU (f:Nat) (m:Nat) (t) (S:aG) (L:HL):=([pF f m t S.X,jT t S L,pO S.O L]:List HP)
abbrev Kn (e):=([(5,.pointer none),(6,vI (e))]:Fr)
theorem iC {β:Bs} (S:aG) (L:HL) (f m t:Nat) (hI:Inv S) (cb:Nat) (c:aB) (hC:fL β c) :
    Spec Tryz.prog β 122 #[vP f,vP cb] ((pA f m t L S)++[pC cb c]) (fun v l=>v=Tz L (fP S.O S.us c)/\l=((pA f m t L S)++[pC cb c])):=by
 refine Spec.enter Tryz.func122 rfl Tryz.ntmps122 (Nat.le_of_ble_eq_true rfl) (fun R=>?_)
 refine SR (gK 2 [] [] ?_)
 refine NN (af.seq (af.bH (by kernel_rfl) (by kernel_rfl) ?_))
 refine gQ 9 [(10,vP f),(14,vI (c.handle)),(18,.string c.name)] [(4,a_ 6 cb),(8,a_ 6 cb)] ?_
 rcases lg hI.toInv0 c.handle c.name 64 with ⟨e,hab,hne⟩|⟨d,hab,hd,iM,iH,dx⟩
 ·refine aP.call (f:=123) (args:=#[vP f,vI (c.handle),.string c.name,vI 64]) (d:=(some 19)) (pre:=(oU f m t S L)) (R:=(oo m L S cb c R)) (pk:=[0,2,3,1,4,5,6,7]) (iW:=[0,3,1,2,4,5,6,7]) (v0:=.tuple #[.pointer none,vI (e)]) (fun _=>by kernel_rfl) ((by have h:=dZ S L f m t hI c.handle hC.hw c.name hC.nm 64 (β:=β);rw [hab] at h;exact h)) rfl (by kernel_rfl) rfl (by kernel_rfl) (fun _ _ h=>h) ?_
  refine gQ 5 [(6,.pointer none),(7,vI (e))] [] ?_
  refine NQ (NX (af.seq (SR ?_)))
  refine gK 2 [(23,.bool (!(decide ((e:Int)=(0:Int)))))] [] ?_
  refine NN (af.cT (p:=(e:Int)=(0:Int)) (fun _=>by kernel_rfl) (fun h23=>?_) (fun h23=>?_))
  ·refine SR (gK 3 [(4,.nilIface),(5,vI (e))] [] ?_)
   refine NN (af.ret (ai.ak ?_))
   exact RT (.tuple #[.nilIface,vI (e)]) [0,1,2,3,4,5,6,7] (⟨by rw [show fP S.O S.us c=.error e by unfold fP;rw [hab]];rfl,rfl⟩)
  exact absurd h23 hne
 have hkd:(obj S.O d).kind=2:=hI.kind hd
 refine aP.call (f:=123) (args:=#[vP f,vI (c.handle),.string c.name,vI 64]) (d:=(some 19)) (pre:=(oU f m t S L)) (R:=(oo m L S cb c R)) (pk:=[0,2,3,1,4,5,6,7]) (iW:=[0,3,1,2,4,5,6,7]) (v0:=.tuple #[vP (L.b d),vI 0]) (fun _=>by kernel_rfl) ((by have h:=dZ S L f m t hI c.handle hC.hw c.name hC.nm 64 (β:=β);rw [hab] at h;exact h)) rfl (by kernel_rfl) rfl (by kernel_rfl) (fun _ _ h=>h) ?_
 refine gQ 5 [(6,vP (L.b d)),(7,vI 0)] [] ?_
 refine NQ (NX (af.seq (SR ?_)))
 refine gK 2 [(23,.bool false)] [] ?_
 refine NN (CF (af.skip (NX (af.seq ?_))))
 have hel:(obj S.O d).ah.length<=8192:=hI.fV hd
 have RP:=hC.nm
 rcases hI.lP hd c.name with hlk|⟨tk,hlk,hlv⟩|⟨tk,hlk,hlv⟩|⟨tk,hlk,hlv⟩
 ·refine af.bH (by kernel_rfl) (by kernel_rfl) ?_
  refine gQ 8 [(28,.map (some (L.m d))),(32,.string c.name)] [(3,v_ 3 (br L hkd)),(7,a_ 6 cb)] ?_
  refine qM 5 hkd hlk ?_
  refine gQ 1 [(8,.nilIface)] [] ?_
  refine NQ (NX (af.seq (SR ?_)))
  refine gK 2 [(35,.bool true)] [] ?_
  refine NN (CT (SR (gK 2 [(4,.nilIface),(5,vI 170)] [] ?_)))
  refine NN (af.ret (ai.ak ?_))
  exact RT (.tuple #[.nilIface,vI 170]) [0,1,2,3,4,5,6,7] (⟨by rw [show fP S.O S.us c=.error 170 by unfold fP;rw [hab];simp only;rw [hlk]];rfl,rfl⟩)
 ·have hkt:(obj S.O tk).kind=1:=hI.kind hlv
  refine af.bH (by kernel_rfl) (by kernel_rfl) ?_
  refine gQ 8 [(28,.map (some (L.m d))),(32,.string c.name)] [(3,v_ 3 (br L hkd)),(7,a_ 6 cb)] ?_
  refine qM 5 hkd hlk ?_
  refine gQ 1 [(8,.iface 129 (vP (L.b tk)))] [] ?_
  refine NQ (NX (af.seq (SR ?_)))
  refine gK 2 [(35,.bool false)] [] ?_
  refine NN (CF (af.skip (NX (SR (gK 3 [(4,.iface 129 (vP (L.b tk))),(5,vI 0)] [] ?_)))))
  refine NN (af.ret ?_)
  exact RT (.tuple #[.iface 129 (vP (L.b tk)),vI 0]) [0,1,2,3,4,5,6,7] (⟨by rw [show fP S.O S.us c=.ok ⟨tk,1⟩ by unfold fP;rw [hab];simp only;rw [hlk]];rfl,rfl⟩)
 ·have hkt:(obj S.O tk).kind=2:=hI.kind hlv
  refine af.bH (by kernel_rfl) (by kernel_rfl) ?_
  refine gQ 8 [(28,.map (some (L.m d))),(32,.string c.name)] [(3,v_ 3 (br L hkd)),(7,a_ 6 cb)] ?_
  refine qM 5 hkd hlk ?_
  refine gQ 1 [(8,.iface 135 (vP (L.b tk)))] [] ?_
  refine NQ (NX (af.seq (SR ?_)))
  refine gK 2 [(35,.bool false)] [] ?_
  refine NN (CF (af.skip (NX (SR (gK 3 [(4,.iface 135 (vP (L.b tk))),(5,vI 0)] [] ?_)))))
  refine NN (af.ret ?_)
  exact RT (.tuple #[.iface 135 (vP (L.b tk)),vI 0]) [0,1,2,3,4,5,6,7] (⟨by rw [show fP S.O S.us c=.ok ⟨tk,2⟩ by unfold fP;rw [hab];simp only;rw [hlk]];rfl,rfl⟩)
 have hkt:(obj S.O tk).kind=3:=hI.kind hlv
 refine af.bH (by kernel_rfl) (by kernel_rfl) ?_
 refine gQ 8 [(28,.map (some (L.m d))),(32,.string c.name)] [(3,v_ 3 (br L hkd)),(7,a_ 6 cb)] ?_
 refine qM 5 hkd hlk ?_
 refine gQ 1 [(8,.iface 132 (vP (L.b tk)))] [] ?_
 refine NQ (NX (af.seq (SR ?_)))
 refine gK 2 [(35,.bool false)] [] ?_
 refine NN (CF (af.skip (NX (SR (gK 3 [(4,.iface 132 (vP (L.b tk))),(5,vI 0)] [] ?_)))))
 refine NN (af.ret ?_)
 exact RT (.tuple #[.iface 132 (vP (L.b tk)),vI 0]) [0,1,2,3,4,5,6,7] (⟨by rw [show fP S.O S.us c=.ok ⟨tk,3⟩ by unfold fP;rw [hab];simp only;rw [hlk]];rfl,rfl⟩)
theorem IV {β:Bs} (S:aG) (L:HL) (f m t:Nat) (hI:Inv S) (cb:Nat) (c:aB) (hC:fL β c) :
    Spec Tryz.prog β 89 #[vP f,vP cb] ((pA f m t L S)++[pC cb c]) (fun v l=>∃ L2,v=vI (jl S c).1/\l=((pA f m t L2 ((jl S c).2.1))++[.blk cb (bK ((jl S c).2.2)) 48])):=by
 have hX:=hI.hX
 refine Spec.enter Tryz.func89 rfl Tryz.ntmps89 (Nat.le_of_ble_eq_true rfl) (fun R=>?_)
 refine SR (gK 1 [] [] ?_)
 refine NN (af.seq ?_)
 rcases hI.PS c.other with hix|⟨tk,hix,hlv⟩|⟨tk,hix,hlv⟩|⟨tk,hix,hlv⟩
 ·refine af.bH (by kernel_rfl) (by kernel_rfl) ?_
  refine gQ 8 [(10,.map (some m)),(14,vI (c.other))] [(3,a_ 0 f),(7,a_ 6 cb)] ?_
  refine aP.dW 1 (d:=(some 15)) (t:=120) (K:=3) (E:=124) (b:=m) (n:=S.idx.length) (f:=(aW (aV L S.idx))) (x:=(.tmp 10)) (ix:=(.tmp 14)) (key:=.int .i64 (c.other)) (z:=.nilIface) (kl:=(.int .i64 c.other)) (r:=none) (fun _=>by kernel_rfl) (by kernel_rfl) (fun _=>by kernel_rfl) (fun _=>by kernel_rfl) dQ Tryz.underlying120 (fun _=>by kernel_rfl) (gS hC.ow) (by rw [eW,hix];rfl) ?_
  refine gQ 1 [(5,.nilIface)] [] ?_
  refine NQ (NX (af.seq (SR ?_)))
  refine gK 2 [(17,.bool true)] [] ?_
  refine NN (CT (SR (gK 1 [(4,vI 141)] [] ?_)))
  refine NN (af.ret (ai.ak ?_))
  exact RT (vI 141) [0,1,2,3,4,5,6,7] (⟨L,by rw [show (jl S c)=(141,S,c) by unfold jl;rw [hix]]<;>exact⟨rfl,rfl⟩⟩)
 ·have hkt:(obj S.O tk).kind=1:=hI.kind hlv
  refine af.bH (by kernel_rfl) (by kernel_rfl) ?_
  refine gQ 8 [(10,.map (some m)),(14,vI (c.other))] [(3,a_ 0 f),(7,a_ 6 cb)] ?_
  refine aP.dW 1 (d:=(some 15)) (t:=120) (K:=3) (E:=124) (b:=m) (n:=S.idx.length) (f:=(aW (aV L S.idx))) (x:=(.tmp 10)) (ix:=(.tmp 14)) (key:=.int .i64 (c.other)) (z:=.nilIface) (kl:=(.int .i64 c.other)) (r:=(some (dz L ⟨tk,1⟩))) (fun _=>by kernel_rfl) (by kernel_rfl) (fun _=>by kernel_rfl) (fun _=>by kernel_rfl) dQ Tryz.underlying120 (fun _=>by kernel_rfl) (gS hC.ow) (by rw [eW,hix];rfl) ?_
  refine gQ 1 [(5,.iface 129 (vP (L.b tk)))] [] ?_
  refine NQ (NX (af.seq (SR ?_)))
  refine gK 2 [(17,.bool false)] [] ?_
  refine NN (CF (af.skip (NX (af.seq (SR (gK 1 [(18,.iface 129 (vP (L.b tk)))] [] ?_))))))
  refine gL [] (lX (vP (L.b tk))) ?_
  rintro _ _ ⟨rfl,rfl⟩
  refine gK 1 [(20,.bool true)] [] ?_
  refine NN (CT (SR (gK 1 [(4,vI 173)] [] ?_)))
  refine NN (af.ret (ai.ak ?_))
  exact RT (vI 173) [0,1,2,3,4,5,6,7] (⟨L,by rw [show (jl S c)=(173,S,c) by unfold jl;rw [hix];exact if_neg (by simp)]<;>exact⟨rfl,rfl⟩⟩)
 ·have hkt:(obj S.O tk).kind=2:=hI.kind hlv
  refine af.bH (by kernel_rfl) (by kernel_rfl) ?_
  refine gQ 8 [(10,.map (some m)),(14,vI (c.other))] [(3,a_ 0 f),(7,a_ 6 cb)] ?_
  refine aP.dW 1 (d:=(some 15)) (t:=120) (K:=3) (E:=124) (b:=m) (n:=S.idx.length) (f:=(aW (aV L S.idx))) (x:=(.tmp 10)) (ix:=(.tmp 14)) (key:=.int .i64 (c.other)) (z:=.nilIface) (kl:=(.int .i64 c.other)) (r:=(some (dz L ⟨tk,2⟩))) (fun _=>by kernel_rfl) (by kernel_rfl) (fun _=>by kernel_rfl) (fun _=>by kernel_rfl) dQ Tryz.underlying120 (fun _=>by kernel_rfl) (gS hC.ow) (by rw [eW,hix];rfl) ?_
  refine gQ 1 [(5,.iface 135 (vP (L.b tk)))] [] ?_
  refine NQ (NX (af.seq (SR ?_)))
  refine gK 2 [(17,.bool false)] [] ?_
  refine NN (CF (af.skip (NX (af.seq (SR (gK 1 [(18,.iface 135 (vP (L.b tk)))] [] ?_))))))
  refine gL [] (lY (vP (L.b tk))) ?_
  rintro _ _ ⟨rfl,rfl⟩
  refine gK 1 [(20,.bool false)] [] ?_
  refine NN (CF (af.skip (NX (SR (gK 1 [] [] ?_)))))
  refine NS (gK 3 [(22,vP cb),(23,vP f),(24,.iface 135 (vP (L.b tk)))] [] ?_)
  refine gL [0,2,3] (sj S L f m t ⟨tk,2⟩ hkt (by simp) (by have:=hI.Df hlv;simp only at this ⊢;omega)) ?_
  rintro _ _ ⟨rfl,rfl⟩
  refine gC 7 [(6,vI ((cr S ⟨tk,2⟩).2.1))] [(5,a_ 6 cb)] [(6,[(12,vI ((cr S ⟨tk,2⟩).1))])] ?_
  refine NS (aj.dh [(4,.abs (ax (bC ((cr S ⟨tk,2⟩).2.2.O) L))),(5,.abs (ax (bV ((cr S ⟨tk,2⟩).2.2.O) L)))] (fun w hS=>by rw [zH,zI];exact hS) ?_)
  refine gK 2 [(4,vI ((cr S ⟨tk,2⟩).2.1))] [] ?_
  refine NN (af.ret ?_)
  exact RT (vI ((cr S ⟨tk,2⟩).2.1)) [0,3,1,2,4,5,6,7] (⟨L,by rw [show (jl S c)=((cr S ⟨tk,2⟩).2.1,(cr S ⟨tk,2⟩).2.2,{ c with answer:=(cr S ⟨tk,2⟩).1 }) by unfold jl;rw [hix];exact if_pos rfl]<;>exact⟨rfl,rfl⟩⟩)
 have hkt:(obj S.O tk).kind=3:=hI.kind hlv
 refine af.bH (by kernel_rfl) (by kernel_rfl) ?_
 refine gQ 8 [(10,.map (some m)),(14,vI (c.other))] [(3,a_ 0 f),(7,a_ 6 cb)] ?_
 refine aP.dW 1 (d:=(some 15)) (t:=120) (K:=3) (E:=124) (b:=m) (n:=S.idx.length) (f:=(aW (aV L S.idx))) (x:=(.tmp 10)) (ix:=(.tmp 14)) (key:=.int .i64 (c.other)) (z:=.nilIface) (kl:=(.int .i64 c.other)) (r:=(some (dz L ⟨tk,3⟩))) (fun _=>by kernel_rfl) (by kernel_rfl) (fun _=>by kernel_rfl) (fun _=>by kernel_rfl) dQ Tryz.underlying120 (fun _=>by kernel_rfl) (gS hC.ow) (by rw [eW,hix];rfl) ?_
 refine gQ 1 [(5,.iface 132 (vP (L.b tk)))] [] ?_
 refine NQ (NX (af.seq (SR ?_)))
 refine gK 2 [(17,.bool false)] [] ?_
 refine NN (CF (af.skip (NX (af.seq (SR (gK 1 [(18,.iface 132 (vP (L.b tk)))] [] ?_))))))
 refine gL [] (nM (vP (L.b tk))) ?_
 rintro _ _ ⟨rfl,rfl⟩
 refine gK 1 [(20,.bool true)] [] ?_
 refine NN (CT (SR (gK 1 [(4,vI 173)] [] ?_)))
 refine NN (af.ret (ai.ak ?_))
 exact RT (vI 173) [0,1,2,3,4,5,6,7] (⟨L,by rw [show (jl S c)=(173,S,c) by unfold jl;rw [hix];exact if_neg (by simp)]<;>exact⟨rfl,rfl⟩⟩)
theorem DN {β:Bs} (S:aG) (L:HL) (f m t:Nat) (hI:Inv S) (cb:Nat) (c:aB) (hC:fL β c) :
    Spec Tryz.prog β 90 #[vP f,vP cb] ((pA f m t L S)++[pC cb c]) (fun v l=>∃ L2,v=vI (fD S c).1/\l=((pA f m t L2 ((fD S c).2.1))++[.blk cb (bK ((fD S c).2.2)) 48])):=by
 have hX:=hI.hX
 refine Spec.enter Tryz.func90 rfl Tryz.ntmps90 (Nat.le_of_ble_eq_true rfl) (fun R=>?_)
 refine SR (gK 1 [] [] ?_)
 refine NS (gK 2 [(8,vP f),(9,vP cb)] [] ?_)
 rcases Bg hI.toInv0 c with ⟨e,hnm,hne⟩|⟨tk,hnm,hlv⟩|⟨tk,hnm,hlv⟩|⟨tk,hnm,hlv⟩
 ·refine gL (f:=122) (args:=#[vP f,vP cb]) (pre:=((pA f m t L S)++[pC cb c])) [0,1,2,3,4,5,6] ((by have h:=iC S L f m t hI cb c hC (β:=β);rw [hnm] at h;exact h)) ?_
  rintro _ _ ⟨rfl,rfl⟩
  refine gK 5 [(5,.nilIface),(6,vI (e))] [] ?_
  refine NN (af.seq (SR (gK 2 [(14,.bool (!(decide ((e:Int)=(0:Int)))))] [] ?_)))
  refine NN (af.cT (p:=(e:Int)=(0:Int)) (fun _=>by kernel_rfl) (fun iQ=>?_) (fun iQ=>?_))
  ·refine SR (gK 2 [(4,vI (e))] [] ?_)
   refine NN (af.ret (ai.ak ?_))
   exact RT (vI (e)) [0,1,2,3,4,5,6,7] (⟨L,by rw [show (fD S c)=(e,S,c) by unfold fD;rw [hnm]]<;>exact⟨rfl,rfl⟩⟩)
  exact absurd iQ hne
 ·have hkt:(obj S.O tk).kind=1:=hI.kind hlv
  refine gL (f:=122) (args:=#[vP f,vP cb]) (pre:=((pA f m t L S)++[pC cb c])) [0,1,2,3,4,5,6] ((by have h:=iC S L f m t hI cb c hC (β:=β);rw [hnm] at h;exact h)) ?_
  rintro _ _ ⟨rfl,rfl⟩
  refine gK 5 [(5,.iface 129 (vP (L.b tk))),(6,vI 0)] [] ?_
  refine NN (af.seq (SR (gK 2 [(14,.bool false)] [] ?_)))
  refine NN (CF (af.skip (NX (af.seq (SR (gK 1 [(16,.iface 129 (vP (L.b tk)))] [] ?_))))))
  refine NN (af.block (SR ?_))
  refine gK 3 [(18,.bool false)] [] ?_
  refine NN (CF (SR (gK 3 [(21,.bool true)] [] ?_)))
  refine NN (CT (SR (gK 1 [(4,vI 173)] [] ?_)))
  refine NN (af.ret (ai.aF (ai.ak ?_)))
  exact RT (vI 173) [0,1,2,3,4,5,6,7] (⟨L,by rw [show (fD S c)=(173,S,c) by unfold fD;rw [hnm];exact (if_neg (by simp)).trans (if_pos rfl)]<;>exact⟨rfl,rfl⟩⟩)
 ·have hkt:(obj S.O tk).kind=2:=hI.kind hlv
  refine gL (f:=122) (args:=#[vP f,vP cb]) (pre:=((pA f m t L S)++[pC cb c])) [0,1,2,3,4,5,6] ((by have h:=iC S L f m t hI cb c hC (β:=β);rw [hnm] at h;exact h)) ?_
  rintro _ _ ⟨rfl,rfl⟩
  refine gK 5 [(5,.iface 135 (vP (L.b tk))),(6,vI 0)] [] ?_
  refine NN (af.seq (SR (gK 2 [(14,.bool false)] [] ?_)))
  refine NN (CF (af.skip (NX (af.seq (SR (gK 1 [(16,.iface 135 (vP (L.b tk)))] [] ?_))))))
  refine NN (af.block (SR ?_))
  refine gK 3 [(18,.bool false)] [] ?_
  refine NN (CF (SR (gK 3 [(21,.bool false)] [] ?_)))
  refine NN (CF (af.skip (ai.aN (NX (SR ?_)))))
  refine gK 3 [(24,vP cb),(25,vP f),(26,.iface 135 (vP (L.b tk)))] [] ?_
  refine gL [0,2,3] (sj S L f m t ⟨tk,2⟩ hkt (by simp) (by have:=hI.Df hlv;simp only at this ⊢;omega)) ?_
  rintro _ _ ⟨rfl,rfl⟩
  refine gC 7 [(6,vI ((cr S ⟨tk,2⟩).2.1))] [(5,a_ 6 cb)] [(6,[(12,vI ((cr S ⟨tk,2⟩).1))])] ?_
  refine NS (aj.dh [(4,.abs (ax (bC ((cr S ⟨tk,2⟩).2.2.O) L))),(5,.abs (ax (bV ((cr S ⟨tk,2⟩).2.2.O) L)))] (fun w hS=>by rw [zH,zI];exact hS) ?_)
  refine gK 2 [(4,vI ((cr S ⟨tk,2⟩).2.1))] [] ?_
  refine NN (af.ret ?_)
  exact RT (vI ((cr S ⟨tk,2⟩).2.1)) [0,3,1,2,4,5,6,7] (⟨L,by rw [show (fD S c)=((cr S ⟨tk,2⟩).2.1,(cr S ⟨tk,2⟩).2.2,{ c with answer:=(cr S ⟨tk,2⟩).1 }) by unfold fD;rw [hnm];exact (if_neg (by simp)).trans (if_neg (by simp))]<;>exact⟨rfl,rfl⟩⟩)
 have hkt:(obj S.O tk).kind=3:=hI.kind hlv
 refine gL (f:=122) (args:=#[vP f,vP cb]) (pre:=((pA f m t L S)++[pC cb c])) [0,1,2,3,4,5,6] ((by have h:=iC S L f m t hI cb c hC (β:=β);rw [hnm] at h;exact h)) ?_
 rintro _ _ ⟨rfl,rfl⟩
 refine gK 5 [(5,.iface 132 (vP (L.b tk))),(6,vI 0)] [] ?_
 refine NN (af.seq (SR (gK 2 [(14,.bool false)] [] ?_)))
 refine NN (CF (af.skip (NX (af.seq (SR (gK 1 [(16,.iface 132 (vP (L.b tk)))] [] ?_))))))
 refine NN (af.block (SR ?_))
 refine gK 3 [(18,.bool true)] [] ?_
 refine NN (CT (SR (gK 1 [(4,vI 174)] [] ?_)))
 refine NN (af.ret (ai.aF (ai.ak ?_)))
 exact RT (vI 174) [0,1,2,3,4,5,6,7] (⟨L,by rw [show (fD S c)=(174,S,c) by unfold fD;rw [hnm];exact if_pos rfl]<;>exact⟨rfl,rfl⟩⟩)
theorem Cx {β:Bs} (S:aG) (L:HL) (f m t:Nat) (hI:Inv S) (cb:Nat) (c:aB) (hC:fL β c) :
    Spec Tryz.prog β 91 #[vP f,vP cb] ((pA f m t L S)++[pC cb c]) (fun v l=>∃ L2,v=vI (eM S c).1/\l=((pA f m t L2 ((eM S c).2.1))++[.blk cb (bK ((eM S c).2.2)) 48])):=by
 have hX:=hI.hX
 refine Spec.enter Tryz.func91 rfl Tryz.ntmps91 (Nat.le_of_ble_eq_true rfl) (fun R=>?_)
 refine SR (gK 1 [] [] ?_)
 refine NS (gK 2 [(8,vP f),(9,vP cb)] [] ?_)
 rcases Bg hI.toInv0 c with ⟨e,hnm,hne⟩|⟨tk,hnm,hlv⟩|⟨tk,hnm,hlv⟩|⟨tk,hnm,hlv⟩
 ·refine gL (f:=122) (args:=#[vP f,vP cb]) (pre:=((pA f m t L S)++[pC cb c])) [0,1,2,3,4,5,6] ((by have h:=iC S L f m t hI cb c hC (β:=β);rw [hnm] at h;exact h)) ?_
  rintro _ _ ⟨rfl,rfl⟩
  refine gK 5 [(5,.nilIface),(6,vI (e))] [] ?_
  refine NN (af.seq (SR (gK 2 [(14,.bool (!(decide ((e:Int)=(0:Int)))))] [] ?_)))
  refine NN (af.cT (p:=(e:Int)=(0:Int)) (fun _=>by kernel_rfl) (fun iQ=>?_) (fun iQ=>?_))
  ·refine SR (gK 2 [(4,vI (e))] [] ?_)
   refine NN (af.ret (ai.ak ?_))
   exact RT (vI (e)) [0,1,2,3,4,5,6,7] (⟨L,by rw [show (eM S c)=(e,S,c) by unfold eM;rw [hnm]]<;>exact⟨rfl,rfl⟩⟩)
  exact absurd iQ hne
 ·have hkt:(obj S.O tk).kind=1:=hI.kind hlv
  refine gL (f:=122) (args:=#[vP f,vP cb]) (pre:=((pA f m t L S)++[pC cb c])) [0,1,2,3,4,5,6] ((by have h:=iC S L f m t hI cb c hC (β:=β);rw [hnm] at h;exact h)) ?_
  rintro _ _ ⟨rfl,rfl⟩
  refine gK 5 [(5,.iface 129 (vP (L.b tk))),(6,vI 0)] [] ?_
  refine NN (af.seq (SR (gK 2 [(14,.bool false)] [] ?_)))
  refine NN (CF (af.skip (NX (af.seq (SR (gK 1 [(16,.iface 129 (vP (L.b tk)))] [] ?_))))))
  refine NN (af.block (SR ?_))
  refine gK 3 [(18,.bool false)] [] ?_
  refine NN (CF (SR (gK 3 [(21,.bool false)] [] ?_)))
  refine NN (CF (af.skip (ai.aN (NX (SR ?_)))))
  refine gK 3 [(24,vP cb),(25,vP f),(26,.iface 129 (vP (L.b tk)))] [] ?_
  refine gL [0,2,3] (sj S L f m t ⟨tk,1⟩ hkt (by simp) (by have:=hI.Df hlv;simp only at this ⊢;omega)) ?_
  rintro _ _ ⟨rfl,rfl⟩
  refine gC 7 [(6,vI ((cr S ⟨tk,1⟩).2.1))] [(5,a_ 6 cb)] [(6,[(12,vI ((cr S ⟨tk,1⟩).1))])] ?_
  refine NS (aj.dh [(4,.abs (ax (bC ((cr S ⟨tk,1⟩).2.2.O) L))),(5,.abs (ax (bV ((cr S ⟨tk,1⟩).2.2.O) L)))] (fun w hS=>by rw [zH,zI];exact hS) ?_)
  refine gK 2 [(4,vI ((cr S ⟨tk,1⟩).2.1))] [] ?_
  refine NN (af.ret ?_)
  exact RT (vI ((cr S ⟨tk,1⟩).2.1)) [0,3,1,2,4,5,6,7] (⟨L,by rw [show (eM S c)=((cr S ⟨tk,1⟩).2.1,(cr S ⟨tk,1⟩).2.2,{ c with answer:=(cr S ⟨tk,1⟩).1 }) by unfold eM;rw [hnm];exact (if_neg (by simp)).trans (if_neg (by simp))]<;>exact⟨rfl,rfl⟩⟩)
 ·have hkt:(obj S.O tk).kind=2:=hI.kind hlv
  refine gL (f:=122) (args:=#[vP f,vP cb]) (pre:=((pA f m t L S)++[pC cb c])) [0,1,2,3,4,5,6] ((by have h:=iC S L f m t hI cb c hC (β:=β);rw [hnm] at h;exact h)) ?_
  rintro _ _ ⟨rfl,rfl⟩
  refine gK 5 [(5,.iface 135 (vP (L.b tk))),(6,vI 0)] [] ?_
  refine NN (af.seq (SR (gK 2 [(14,.bool false)] [] ?_)))
  refine NN (CF (af.skip (NX (af.seq (SR (gK 1 [(16,.iface 135 (vP (L.b tk)))] [] ?_))))))
  refine NN (af.block (SR ?_))
  refine gK 3 [(18,.bool false)] [] ?_
  refine NN (CF (SR (gK 3 [(21,.bool true)] [] ?_)))
  refine NN (CT (SR (gK 1 [(4,vI 172)] [] ?_)))
  refine NN (af.ret (ai.aF (ai.ak ?_)))
  exact RT (vI 172) [0,1,2,3,4,5,6,7] (⟨L,by rw [show (eM S c)=(172,S,c) by unfold eM;rw [hnm];exact (if_neg (by simp)).trans (if_pos rfl)]<;>exact⟨rfl,rfl⟩⟩)
 have hkt:(obj S.O tk).kind=3:=hI.kind hlv
 refine gL (f:=122) (args:=#[vP f,vP cb]) (pre:=((pA f m t L S)++[pC cb c])) [0,1,2,3,4,5,6] ((by have h:=iC S L f m t hI cb c hC (β:=β);rw [hnm] at h;exact h)) ?_
 rintro _ _ ⟨rfl,rfl⟩
 refine gK 5 [(5,.iface 132 (vP (L.b tk))),(6,vI 0)] [] ?_
 refine NN (af.seq (SR (gK 2 [(14,.bool false)] [] ?_)))
 refine NN (CF (af.skip (NX (af.seq (SR (gK 1 [(16,.iface 132 (vP (L.b tk)))] [] ?_))))))
 refine NN (af.block (SR ?_))
 refine gK 3 [(18,.bool true)] [] ?_
 refine NN (CT (SR (gK 1 [(4,vI 174)] [] ?_)))
 refine NN (af.ret (ai.aF (ai.ak ?_)))
 exact RT (vI 174) [0,1,2,3,4,5,6,7] (⟨L,by rw [show (eM S c)=(174,S,c) by unfold eM;rw [hnm];exact if_pos rfl]<;>exact⟨rfl,rfl⟩⟩)
theorem Gf {β:Bs} (S:aG) (L:HL) (f m t:Nat) (hI:Inv S) (cb:Nat) (c:aB) (hC:fL β c) :
    Spec Tryz.prog β 92 #[vP f,vP cb] ((pA f m t L S)++[pC cb c]) (fun v l=>∃ L2,v=vI (fQ S c).1/\l=((pA f m t L2 ((fQ S c).2.1))++[.blk cb (bK ((fQ S c).2.2)) 48])):=by
 have hX:=hI.hX
 refine Spec.enter Tryz.func92 rfl Tryz.ntmps92 (Nat.le_of_ble_eq_true rfl) (fun R=>?_)
 refine SR (gK 1 [] [] ?_)
 refine NN (af.seq (af.bH (by kernel_rfl) (by kernel_rfl) ?_))
 refine gQ 9 (NJ f c) [(4,a_ 6 cb),(8,a_ 6 cb)] ?_
 rcases lg hI.toInv0 c.handle c.name 192 with ⟨e,hab,hne⟩|⟨d,hab,hd,iM,iH,dx⟩
 ·refine aP.call (f:=123) (args:=#[vP f,vI (c.handle),.string c.name,vI 192]) (d:=(some 17)) (pre:=(oU f m t S L)) (R:=(oo m L S cb c R)) (pk:=[0,2,3,1,4,5,6,7]) (iW:=[0,3,1,2,4,5,6,7]) (v0:=.tuple #[.pointer none,vI (e)]) (fun _=>by kernel_rfl) ((by have h:=dZ S L f m t hI c.handle hC.hw c.name hC.nm 192 (β:=β);rw [hab] at h;exact h)) rfl (by kernel_rfl) rfl (by kernel_rfl) (fun _ _ h=>h) ?_
  refine gQ 5 (Kn e) [] ?_
  refine NQ (NX (af.seq (SR ?_)))
  refine gK 2 [(21,.bool (!(decide ((e:Int)=(0:Int)))))] [] ?_
  refine NN (af.cT (p:=(e:Int)=(0:Int)) (fun _=>by kernel_rfl) (fun um=>?_) (fun um=>?_))
  ·refine SR (gK 2 [(4,vI (e))] [] ?_)
   refine NN (af.ret (ai.ak ?_))
   exact RT (vI (e)) [0,1,2,3,4,5,6,7] (⟨L,by rw [show (fQ S c)=(e,S,c) by unfold fQ;rw [hab]]<;>exact⟨rfl,rfl⟩⟩)
  exact absurd um hne
 have hkd:(obj S.O d).kind=2:=hI.kind hd
 refine aP.call (f:=123) (args:=#[vP f,vI (c.handle),.string c.name,vI 192]) (d:=(some 17)) (pre:=(oU f m t S L)) (R:=(oo m L S cb c R)) (pk:=[0,2,3,1,4,5,6,7]) (iW:=[0,3,1,2,4,5,6,7]) (v0:=.tuple #[vP (L.b d),vI 0]) (fun _=>by kernel_rfl) ((by have h:=dZ S L f m t hI c.handle hC.hw c.name hC.nm 192 (β:=β);rw [hab] at h;exact h)) rfl (by kernel_rfl) rfl (by kernel_rfl) (fun _ _ h=>h) ?_
 refine gQ 5 (EZ L d) [] ?_
 refine NQ (NX (af.seq (SR ?_)))
 refine gK 2 [(21,.bool false)] [] ?_
 refine NN (CF (af.skip (NX (af.seq (SR (gK 4 [(26,vI (c.mode))] [(3,a_ 6 cb)] ?_))))))
 refine gL [] (fJ (c.mode) 4095) ?_
 rintro _ _ ⟨rfl,rfl⟩
 refine gK 1 [(28,.bool (!(decide (0<=c.mode/\c.mode<=4095))))] [] ?_
 refine NN (af.cT (p:=0<=c.mode/\c.mode<=4095) (fun _=>by kernel_rfl) (fun Qf=>?_) (fun Qf=>?_))
 ·refine SR (gK 1 [(4,vI 120)] [] ?_)
  refine NN (af.ret (ai.ak ?_))
  exact RT (vI 120) [0,1,2,3,4,5,6,7] (⟨L,by rw [show (fQ S c)=(120,S,c) by unfold fQ;rw [hab];exact if_neg Qf]<;>exact⟨rfl,rfl⟩⟩)
 refine af.skip (NX (af.seq (af.bP (S:=[pC cb c]) [0,1,2,3,4,5,6,7,8,9,10,11] 10 [6] (by kernel_rfl) (by kernel_rfl) rfl (by kernel_rfl) ?_)))
 refine gR 0 [10,11] [(29,vP f),(30,vP (L.b d)),(34,.string c.name),(38,vI (c.mode))] [0,1,2,3,4,5,6,7,8,9] [(5,a_ 0 cb),(9,a_ 0 cb)] ?_
 refine mL [6] [0,1,2,3,4,5] (Dg S L f m t hI d hd c.name hC.nm c.mode) ?_ (by rintro _ _ ⟨L2,rfl,rfl⟩;rfl)
 rintro _ _ ⟨L2,rfl,rfl⟩
 refine aL.last rfl rfl ?_
 refine gK 1 [(4,vI ((gF S d c.name c.mode).1))] [] ?_
 refine NL (ai.np (NX (af.ret ?_)))
 exact RT (vI ((gF S d c.name c.mode).1)) [0,1,2,3,4,5,6,7] (⟨L2,by rw [show (fQ S c)=((gF S d c.name c.mode).1,(gF S d c.name c.mode).2,c) by unfold fQ;rw [hab];exact if_pos Qf]<;>exact⟨rfl,rfl⟩⟩)
theorem DP {β:Bs} (S:aG) (L:HL) (f m t:Nat) (hI:Inv S) (cb:Nat) (c:aB) (hC:fL β c) :
    Spec Tryz.prog β 94 #[vP f,vP cb] ((pA f m t L S)++[pC cb c]) (fun v l=>∃ L2,v=vI (fK S c).1/\l=((pA f m t L2 ((fK S c).2.1))++[.blk cb (bK ((fK S c).2.2)) 48])):=by
 have hX:=hI.hX
 refine Spec.enter Tryz.func94 rfl Tryz.ntmps94 (Nat.le_of_ble_eq_true rfl) (fun R=>?_)
 refine SR (gK 1 [] [] ?_)
 refine NN (af.seq (af.bH (by kernel_rfl) (by kernel_rfl) ?_))
 refine gQ 9 (NJ f c) [(4,a_ 6 cb),(8,a_ 6 cb)] ?_
 rcases lg hI.toInv0 c.handle c.name 192 with ⟨e,hab,hne⟩|⟨d,hab,hd,iM,iH,dx⟩
 ·refine aP.call (f:=123) (args:=#[vP f,vI (c.handle),.string c.name,vI 192]) (d:=(some 17)) (pre:=(oU f m t S L)) (R:=(oo m L S cb c R)) (pk:=[0,2,3,1,4,5,6,7]) (iW:=[0,3,1,2,4,5,6,7]) (v0:=.tuple #[.pointer none,vI (e)]) (fun _=>by kernel_rfl) ((by have h:=dZ S L f m t hI c.handle hC.hw c.name hC.nm 192 (β:=β);rw [hab] at h;exact h)) rfl (by kernel_rfl) rfl (by kernel_rfl) (fun _ _ h=>h) ?_
  refine gQ 5 (Kn e) [] ?_
  refine NQ (NX (af.seq (SR ?_)))
  refine gK 2 [(21,.bool (!(decide ((e:Int)=(0:Int)))))] [] ?_
  refine NN (af.cT (p:=(e:Int)=(0:Int)) (fun _=>by kernel_rfl) (fun um=>?_) (fun um=>?_))
  ·refine SR (gK 2 [(4,vI (e))] [] ?_)
   refine NN (af.ret (ai.ak ?_))
   exact RT (vI (e)) [0,1,2,3,4,5,6,7] (⟨L,by rw [show (fK S c)=(e,S,c) by unfold fK;rw [hab]]<;>exact⟨rfl,rfl⟩⟩)
  exact absurd um hne
 have hkd:(obj S.O d).kind=2:=hI.kind hd
 refine aP.call (f:=123) (args:=#[vP f,vI (c.handle),.string c.name,vI 192]) (d:=(some 17)) (pre:=(oU f m t S L)) (R:=(oo m L S cb c R)) (pk:=[0,2,3,1,4,5,6,7]) (iW:=[0,3,1,2,4,5,6,7]) (v0:=.tuple #[vP (L.b d),vI 0]) (fun _=>by kernel_rfl) ((by have h:=dZ S L f m t hI c.handle hC.hw c.name hC.nm 192 (β:=β);rw [hab] at h;exact h)) rfl (by kernel_rfl) rfl (by kernel_rfl) (fun _ _ h=>h) ?_
 refine gQ 5 (EZ L d) [] ?_
 refine NQ (NX (af.seq (SR ?_)))
 refine gK 2 [(21,.bool false)] [] ?_
 refine NN (CF (af.skip (NX (af.seq (af.bP (S:=[pC cb c]) [0,1,2,3,4,5,6,7,8,9,10,11] 10 [6] (by kernel_rfl) (by kernel_rfl) rfl (by kernel_rfl) ?_)))))
 refine gR 0 [10,11] (Qe f L d c++[(32,.string c.text)]) [0,1,2,3,4,5,6,7,8,9] [(5,a_ 0 cb),(9,a_ 0 cb)] ?_
 refine mL [6] [0,1,2,3,4,5] (yQ S L f m t hI d hd c.name hC.nm c.text hC.tx) ?_ (by rintro _ _ ⟨L2,rfl,rfl⟩;rfl)
 rintro _ _ ⟨L2,rfl,rfl⟩
 refine aL.last rfl rfl ?_
 refine gK 1 [(4,vI ((eE S d c.name c.text).1))] [] ?_
 refine NL (ai.np (NX (af.ret ?_)))
 exact RT (vI ((eE S d c.name c.text).1)) [0,1,2,3,4,5,6,7] (⟨L2,by rw [show (fK S c)=((eE S d c.name c.text).1,(eE S d c.name c.text).2,c) by unfold fK;rw [hab]]<;>exact⟨rfl,rfl⟩⟩)
theorem E0 {β:Bs} (S:aG) (L:HL) (f m t:Nat) (hI:Inv S) (cb:Nat) (c:aB) (hC:fL β c) :
    Spec Tryz.prog β 96 #[vP f,vP cb] ((pA f m t L S)++[pC cb c]) (fun v l=>∃ L2,v=vI (gh S c).1/\l=((pA f m t L2 ((gh S c).2.1))++[.blk cb (bK ((gh S c).2.2)) 48])):=by
 have hX:=hI.hX
 refine Spec.enter Tryz.func96 rfl Tryz.ntmps96 (Nat.le_of_ble_eq_true rfl) (fun R=>?_)
 refine SR (gK 1 [] [] ?_)
 refine NN (af.seq (af.bH (by kernel_rfl) (by kernel_rfl) ?_))
 refine gQ 9 (NJ f c) [(4,a_ 6 cb),(8,a_ 6 cb)] ?_
 rcases lg hI.toInv0 c.handle c.name 192 with ⟨e,hab,hne⟩|⟨d,hab,hd,iM,iH,dx⟩
 ·refine aP.call (f:=123) (args:=#[vP f,vI (c.handle),.string c.name,vI 192]) (d:=(some 17)) (pre:=(oU f m t S L)) (R:=(oo m L S cb c R)) (pk:=[0,2,3,1,4,5,6,7]) (iW:=[0,3,1,2,4,5,6,7]) (v0:=.tuple #[.pointer none,vI (e)]) (fun _=>by kernel_rfl) ((by have h:=dZ S L f m t hI c.handle hC.hw c.name hC.nm 192 (β:=β);rw [hab] at h;exact h)) rfl (by kernel_rfl) rfl (by kernel_rfl) (fun _ _ h=>h) ?_
  refine gQ 5 (Kn e) [] ?_
  refine NQ (NX (af.seq (SR ?_)))
  refine gK 2 [(21,.bool (!(decide ((e:Int)=(0:Int)))))] [] ?_
  refine NN (af.cT (p:=(e:Int)=(0:Int)) (fun _=>by kernel_rfl) (fun um=>?_) (fun um=>?_))
  ·refine SR (gK 2 [(4,vI (e))] [] ?_)
   refine NN (af.ret (ai.ak ?_))
   exact RT (vI (e)) [0,1,2,3,4,5,6,7] (⟨L,by rw [show (gh S c)=(e,S,c) by unfold gh;rw [hab]]<;>exact⟨rfl,rfl⟩⟩)
  exact absurd um hne
 have hkd:(obj S.O d).kind=2:=hI.kind hd
 refine aP.call (f:=123) (args:=#[vP f,vI (c.handle),.string c.name,vI 192]) (d:=(some 17)) (pre:=(oU f m t S L)) (R:=(oo m L S cb c R)) (pk:=[0,2,3,1,4,5,6,7]) (iW:=[0,3,1,2,4,5,6,7]) (v0:=.tuple #[vP (L.b d),vI 0]) (fun _=>by kernel_rfl) ((by have h:=dZ S L f m t hI c.handle hC.hw c.name hC.nm 192 (β:=β);rw [hab] at h;exact h)) rfl (by kernel_rfl) rfl (by kernel_rfl) (fun _ _ h=>h) ?_
 refine gQ 5 (EZ L d) [] ?_
 refine NQ (NX (af.seq (SR ?_)))
 refine gK 2 [(21,.bool false)] [] ?_
 refine NN (CF (af.skip (NX (SR (gK 6 (Qe f L d c) [(5,a_ 6 cb)] ?_)))))
 refine gL [0,1,2,3,4,5] (AV S L f m t hI d hd c.name hC.nm) ?_
 rintro _ _ ⟨L2,rfl,rfl⟩
 refine gK 1 [(4,vI ((dX S d c.name).1))] [] ?_
 refine NN (af.ret ?_)
 exact RT (vI ((dX S d c.name).1)) [0,1,2,3,4,5,6,7] (⟨L2,by rw [show (gh S c)=((dX S d c.name).1,(dX S d c.name).2,c) by unfold gh;rw [hab]]<;>exact⟨rfl,rfl⟩⟩)
theorem Gg {β:Bs} (S:aG) (L:HL) (f m t:Nat) (hI:Inv S) (cb:Nat) (c:aB) (hC:fL β c) :
    Spec Tryz.prog β 102 #[vP f,vP cb] ((pA f m t L S)++[pC cb c]) (fun v l=>∃ L2,v=vI (iu S c).1/\l=((pA f m t L2 ((iu S c).2.1))++[.blk cb (bK ((iu S c).2.2)) 48])):=by
 have hX:=hI.hX
 refine Spec.enter Tryz.func102 rfl Tryz.ntmps102 (Nat.le_of_ble_eq_true rfl) (fun R=>?_)
 refine SR (gK 1 [] [] ?_)
 refine NN (af.seq (af.bH (by kernel_rfl) (by kernel_rfl) ?_))
 refine gQ 9 (NJ f c) [(4,a_ 6 cb),(8,a_ 6 cb)] ?_
 rcases lg hI.toInv0 c.handle c.name 192 with ⟨e,hab,hne⟩|⟨d,hab,hd,iM,iH,dx⟩
 ·refine aP.call (f:=123) (args:=#[vP f,vI (c.handle),.string c.name,vI 192]) (d:=(some 17)) (pre:=(oU f m t S L)) (R:=(oo m L S cb c R)) (pk:=[0,2,3,1,4,5,6,7]) (iW:=[0,3,1,2,4,5,6,7]) (v0:=.tuple #[.pointer none,vI (e)]) (fun _=>by kernel_rfl) ((by have h:=dZ S L f m t hI c.handle hC.hw c.name hC.nm 192 (β:=β);rw [hab] at h;exact h)) rfl (by kernel_rfl) rfl (by kernel_rfl) (fun _ _ h=>h) ?_
  refine gQ 5 (Kn e) [] ?_
  refine NQ (NX (af.seq (SR ?_)))
  refine gK 2 [(21,.bool (!(decide ((e:Int)=(0:Int)))))] [] ?_
  refine NN (af.cT (p:=(e:Int)=(0:Int)) (fun _=>by kernel_rfl) (fun um=>?_) (fun um=>?_))
  ·refine SR (gK 2 [(4,vI (e))] [] ?_)
   refine NN (af.ret (ai.ak ?_))
   exact RT (vI (e)) [0,1,2,3,4,5,6,7] (⟨L,by rw [show (iu S c)=(e,S,c) by unfold iu;rw [hab]]<;>exact⟨rfl,rfl⟩⟩)
  exact absurd um hne
 have hkd:(obj S.O d).kind=2:=hI.kind hd
 refine aP.call (f:=123) (args:=#[vP f,vI (c.handle),.string c.name,vI 192]) (d:=(some 17)) (pre:=(oU f m t S L)) (R:=(oo m L S cb c R)) (pk:=[0,2,3,1,4,5,6,7]) (iW:=[0,3,1,2,4,5,6,7]) (v0:=.tuple #[vP (L.b d),vI 0]) (fun _=>by kernel_rfl) ((by have h:=dZ S L f m t hI c.handle hC.hw c.name hC.nm 192 (β:=β);rw [hab] at h;exact h)) rfl (by kernel_rfl) rfl (by kernel_rfl) (fun _ _ h=>h) ?_
 refine gQ 5 (EZ L d) [] ?_
 refine NQ (NX (af.seq (SR ?_)))
 refine gK 2 [(21,.bool false)] [] ?_
 refine NN (CF (af.skip (NX (SR (gK 6 (Qe f L d c) [(5,a_ 6 cb)] ?_)))))
 refine gL [0,1,2,3,4,5] (Dh S L f m t hI d hd c.name hC.nm) ?_
 rintro _ _ ⟨L2,rfl,rfl⟩
 refine gK 1 [(4,vI ((eG S d c.name).1))] [] ?_
 refine NN (af.ret ?_)
 exact RT (vI ((eG S d c.name).1)) [0,1,2,3,4,5,6,7] (⟨L2,by rw [show (iu S c)=((eG S d c.name).1,(eG S d c.name).2,c) by unfold iu;rw [hab]]<;>exact⟨rfl,rfl⟩⟩)
theorem E4 {β:Bs} (S:aG) (L:HL) (f m t:Nat) (hI:Inv S) (cb:Nat) (c:aB) (hC:fL β c) :
    Spec Tryz.prog β 103 #[vP f,vP cb] ((pA f m t L S)++[pC cb c]) (fun v l=>∃ L2,v=vI (fB S c).1/\l=((pA f m t L2 ((fB S c).2.1))++[.blk cb (bK ((fB S c).2.2)) 48])):=by
 have hX:=hI.hX
 refine Spec.enter Tryz.func103 rfl Tryz.ntmps103 (Nat.le_of_ble_eq_true rfl) (fun R=>?_)
 refine SR (gK 1 [] [] ?_)
 refine NN (af.seq (af.bH (by kernel_rfl) (by kernel_rfl) ?_))
 refine gQ 9 [(9,vP f),(13,vI (c.handle)),(17,.string c.name)] [(4,a_ 6 cb),(8,a_ 6 cb)] ?_
 rcases lg hI.toInv0 c.handle c.name 192 with ⟨e,hab,hne⟩|⟨d,hab,hd,iM,iH,dx⟩
 ·refine aP.call (f:=123) (args:=#[vP f,vI (c.handle),.string c.name,vI 192]) (d:=(some 18)) (pre:=(oU f m t S L)) (R:=(oo m L S cb c R)) (pk:=[0,2,3,1,4,5,6,7]) (iW:=[0,3,1,2,4,5,6,7]) (v0:=.tuple #[.pointer none,vI (e)]) (fun _=>by kernel_rfl) ((by have h:=dZ S L f m t hI c.handle hC.hw c.name hC.nm 192 (β:=β);rw [hab] at h;exact h)) rfl (by kernel_rfl) rfl (by kernel_rfl) (fun _ _ h=>h) ?_
  refine gQ 5 (Kn e) [] ?_
  refine NQ (NX (af.seq (SR ?_)))
  refine gK 2 [(22,.bool (!(decide ((e:Int)=(0:Int)))))] [] ?_
  refine NN (af.cT (p:=(e:Int)=(0:Int)) (fun _=>by kernel_rfl) (fun vV=>?_) (fun vV=>?_))
  ·refine SR (gK 2 [(4,vI (e))] [] ?_)
   refine NN (af.ret (ai.ak ?_))
   exact RT (vI (e)) [0,1,2,3,4,5,6,7] (⟨L,by rw [show (fB S c)=(e,S,c) by unfold fB;rw [hab]]<;>exact⟨rfl,rfl⟩⟩)
  exact absurd vV hne
 have hkd:(obj S.O d).kind=2:=hI.kind hd
 refine aP.call (f:=123) (args:=#[vP f,vI (c.handle),.string c.name,vI 192]) (d:=(some 18)) (pre:=(oU f m t S L)) (R:=(oo m L S cb c R)) (pk:=[0,2,3,1,4,5,6,7]) (iW:=[0,3,1,2,4,5,6,7]) (v0:=.tuple #[vP (L.b d),vI 0]) (fun _=>by kernel_rfl) ((by have h:=dZ S L f m t hI c.handle hC.hw c.name hC.nm 192 (β:=β);rw [hab] at h;exact h)) rfl (by kernel_rfl) rfl (by kernel_rfl) (fun _ _ h=>h) ?_
 refine gQ 5 (EZ L d) [] ?_
 refine NQ (NX (af.seq (SR ?_)))
 refine gK 2 [(22,.bool false)] [] ?_
 refine NN (CF (af.skip (NX (af.seq (af.bH (by kernel_rfl) (by kernel_rfl) ?_)))))
 refine gQ 9 [(25,vP f),(29,vI (c.other)),(33,.string c.text)] [(4,a_ 6 cb),(8,a_ 6 cb)] ?_
 rcases lg hI.toInv0 c.other c.text 192 with ⟨e2,jI,E5⟩|⟨to,jI,hd2,Qg,Md,TH⟩
 ·refine aP.call (f:=123) (args:=#[vP f,vI (c.other),.string c.text,vI 192]) (d:=(some 34)) (pre:=(oU f m t S L)) (R:=(oo m L S cb c R)) (pk:=[0,2,3,1,4,5,6,7]) (iW:=[0,3,1,2,4,5,6,7]) (v0:=.tuple #[.pointer none,vI (e2)]) (fun _=>by kernel_rfl) ((by have h:=dZ S L f m t hI c.other hC.ow c.text hC.tx 192 (β:=β);rw [jI] at h;exact h)) rfl (by kernel_rfl) rfl (by kernel_rfl) (fun _ _ h=>h) ?_
  refine gQ 5 [(6,vI (e2)),(7,.pointer none)] [] ?_
  refine NQ (NX (af.seq (SR ?_)))
  refine gK 2 [(38,.bool (!(decide ((e2:Int)=(0:Int)))))] [] ?_
  refine NN (af.cT (p:=(e2:Int)=(0:Int)) (fun _=>by kernel_rfl) (fun Am=>?_) (fun Am=>?_))
  ·refine SR (gK 2 [(4,vI (e2))] [] ?_)
   refine NN (af.ret (ai.ak ?_))
   exact RT (vI (e2)) [0,1,2,3,4,5,6,7] (⟨L,by rw [show (fB S c)=(e2,S,c) by unfold fB;rw [hab];simp only;rw [jI]]<;>exact⟨rfl,rfl⟩⟩)
  exact absurd Am E5
 have ef:(obj S.O to).kind=2:=hI.kind hd2
 refine aP.call (f:=123) (args:=#[vP f,vI (c.other),.string c.text,vI 192]) (d:=(some 34)) (pre:=(oU f m t S L)) (R:=(oo m L S cb c R)) (pk:=[0,2,3,1,4,5,6,7]) (iW:=[0,3,1,2,4,5,6,7]) (v0:=.tuple #[vP (L.b to),vI 0]) (fun _=>by kernel_rfl) ((by have h:=dZ S L f m t hI c.other hC.ow c.text hC.tx 192 (β:=β);rw [jI] at h;exact h)) rfl (by kernel_rfl) rfl (by kernel_rfl) (fun _ _ h=>h) ?_
 refine gQ 5 [(6,vI 0),(7,vP (L.b to))] [] ?_
 refine NQ (NX (af.seq (SR ?_)))
 refine gK 2 [(38,.bool false)] [] ?_
 refine NN (CF (af.skip (NX (af.seq (af.bP (S:=[pC cb c]) [0,1,2,3,4,5,6,7,8,9,10,11,12] 11 [6] (by kernel_rfl) (by kernel_rfl) rfl (by kernel_rfl) ?_)))))
 refine gR 0 [11,12] [(40,vP f),(41,vP (L.b d)),(45,.string c.name),(46,vP (L.b to)),(50,.string c.text)] [0,1,2,3,4,5,6,7,8,9,10] [(5,a_ 0 cb),(10,a_ 0 cb)] ?_
 refine mL [6] [0,1,2,3,4,5] (Bb S L f m t hI d hd c.name hC.nm to hd2 c.text hC.tx) ?_ (by rintro _ _ ⟨L2,rfl,rfl⟩;rfl)
 rintro _ _ ⟨L2,rfl,rfl⟩
 refine aL.last rfl rfl ?_
 refine gK 1 [(4,vI ((bF S d c.name to c.text).1))] [] ?_
 refine NL (ai.np (NX (af.ret ?_)))
 exact RT (vI ((bF S d c.name to c.text).1)) [0,1,2,3,4,5,6,7] (⟨L2,by rw [show (fB S c)=((bF S d c.name to c.text).1,(bF S d c.name to c.text).2,c) by unfold fB;rw [hab];simp only;rw [jI]]<;>exact⟨rfl,rfl⟩⟩)
end
section
open Go.RowKit
section order
variable {P:Program} {ops:Array Oper} {Q Q':Post} {n:Nat} {S:World->Prop}
def jU (P:Program) (ops:Array Oper) (Q:Post) (S:World->Prop):List (Bool×Nat)->Act->World->Prop
  | [],a,w=>Q .normal a w
  | (false,i)::l,a,w=>wpOp P ops Q i (fun a' w'=>(l=[]\/S w')/\jU P ops Q S l a' w') a w
  | (true,i)::l,a,w=>∃ o v,ops[i]?=some o/\YieldsIf P ops S o v a/\jU P ops Q S l (a.put o.dst v) w
def yC (ops:Array Oper) (n:Nat):List (Bool×Nat)->Array Bool->Bool
  | [],listed=>(Region.ready .any ops listed).isEmpty
  | (false,i)::l,listed=>(Region.ready .any ops listed == [i]) && (!l.isEmpty || i == n) && yC ops n l (listed.setIfInBounds i true)
  | (true,i)::l,listed=>decide (i < n) && Region.free .any ops listed i && (Region.ready .any ops listed).contains i && yC ops n l (listed.setIfInBounds i true)
theorem zJ (hsel:Region.noSelect ops=true) (oA:Region.sinkB .any ops n=true):∀ (l:List (Bool×Nat)) (listed:Array Bool) (a:Act) (w:World),yC ops n l listed=true->Closed ops listed->(l=[]\/S w)->jU P ops (NP Q) S l a w->ic P ops (NP Q) n S l.length listed a w
  | [],listed,a,w,hb,_,_,h=>⟨List.isEmpty_iff.1 hb,h⟩
  | (false,i)::l,listed,a,w,hb,hc,_,h=>by
    unfold yC at hb
    simp only [Bool.and_eq_true,beq_iff_eq] at hb
    obtain⟨⟨h1,h2⟩,h3⟩:=hb
    refine⟨fun h0=>(by rw [h1] at h0;cases h0),fun j hj=>?_⟩
    have hr:=hj
    rw [h1] at hj
    have hj:j=i:=by simpa using hj
    subst hj
    refine wpOp_mono (fun a' w' h4=>⟨?_,zJ hsel oA l _ a' w' h3 (hc.set hr) h4.1 h4.2⟩) h
    rcases h4.1 with h5|h5
    ·subst h5;exact .inl (by simpa using h2)
    exact .inr h5
  | (true,i)::l,listed,a,w,hb,hc,hS,h=>by
    unfold yC at hb
    simp only [Bool.and_eq_true,decide_eq_true_iff] at hb
    obtain⟨⟨⟨h1,h2⟩,h3⟩,h4⟩:=hb
    obtain⟨o,v,ho,hy,hk⟩:=h
    have hS:S w:=hS.resolve_left (by simp)
    have hr:i∈Region.ready .any ops listed:=by simpa using h3
    exact rU ho hsel oA h1 l.length listed a w hc (Region.free_spec ho h2) hr hy hS (zJ hsel oA l _ _ w h4 (hc.set hr) (.inr hS) hk)
def G0 (ops:Array Oper) (l:List (Bool×Nat)):Bool:=
  Region.noSelect ops && Region.sinkB .any ops (ops.size - 1) && (l.length == ops.size) && yC ops (ops.size - 1) l (Array.replicate ops.size false)
def nJ (ops:Array Oper) (i:Nat):Array Oper:=⟨ops.toList.take (i+1)⟩
def gB (ops:Array Oper) (i:Nat):Bool:=match ops[i]? with
  | some o=>match o.guard with
    | none=>true
    | some (j,_)=>decide (j<=i)
  | none=>false
theorem Ko {i j:Nat} (h:j<=i):(nJ ops i)[j]?=ops[j]?:=by
  unfold nJ
  obtain⟨l⟩:=ops
  simp only [List.getElem?_toArray,List.getElem?_take]
  rw [if_pos (by omega)]
theorem mq {i:Nat} {a:Act} {w:World} {K:Act->World->Prop} (hg:gB ops i=true) (h:wpList P (nJ ops i) (NP fun _ a w=>K a w) ((nJ ops i).toList.drop i) a w):wpOp P ops (NP Q) i K a w:=by
  unfold gB at hg
  split at hg
  ·rename_i o ho
   have hd:(nJ ops i).toList.drop i=[o]:=by
     have hl:ops.toList[i]?=some o:=by simpa using ho
     have hi:i < ops.toList.length:=bw hl
     show (ops.toList.take (i+1)).drop i=[o]
     rw [List.drop_take]
     rw [show i+1 - i=1 by omega,List.drop_eq_getElem_cons hi]
     rw [List.getElem?_eq_getElem hi] at hl
     cases hl
     rfl
   have hw:Region.wanted o (yielded (nJ ops i) a.tmps)=Region.wanted o (yielded ops a.tmps):=by
     unfold Region.wanted
     split at hg
     ·rename_i hn;rw [hn]
     rename_i j b hn
     rw [hn]
     have hj:j<=i:=by simpa using hg
     have:yielded (nJ ops i) a.tmps j=yielded ops a.tmps j:=by
       unfold yielded
       rw [Ko hj]
     simp only [this]
   rw [hd] at h
   unfold wpOp
   simp only [ho]
   unfold wpList at h
   rw [hw] at h
   split at h
   ·rename_i hw
    rw [if_pos hw]
    rcases h with h|⟨_,h⟩
    ·exact .inl (DT (Oper.wp_mono (fun a w h=>h) h))
    exact (oy h).elim
   rename_i hw
   rw [if_neg hw]
   exact h
  cases hg
end order
theorem kU {P:Program} {ops:Array Oper} {Q Q':Post} (hq:∀ a w,Q .normal a w->Q' .normal a w):∀ (l:List Oper) {a:Act} {w:World},wpList P ops (NP Q) l a w->wpList P ops (NP Q') l a w
  | [],_,_,h=>hq _ _ h
  | o::r,a,w,h=>by
    unfold wpList at *
    split
    ·rename_i hw
     rw [if_pos hw] at h
     rcases h with h|⟨_,h⟩
     ·exact .inl (DT (Oper.wp_mono (fun a w h=>kU hq r h) h))
     exact (oy h).elim
    rename_i hw
    rw [if_neg hw] at h
    exact kU hq r h
section mix
variable {P:Program} {β:Bs} {N:Nat} {ops:Array Oper} {S:List HP} {l l':List (Bool×Nat)} {fr fr':Fr} {hps:List HP} {Q:Post} {bA:List Prop} {i:Nat} {pk:List Nat}
def gZ (P:Program) (β:Bs) (N:Nat) (ops:Array Oper) (S:List HP) (l:List (Bool×Nat)) (fr:Fr) (hps:List HP) (Q:Post):Prop:=
  ∀ junk w,Sat β hps w->jU P ops (NP Q) (Sat β S) l (bW N fr junk) w
theorem af.kV {id:Nat} (l:List (Bool×Nat)) (pk:List Nat) (hm:P.follows .mixedOrders=true) (hB:G0 ops l=true) (hn:bq pk=true) (hp:bT hps pk=some S) (h:gZ P β N ops S l fr hps Q):af P β N (.region id ops true) fr hps Q:=by
  intro junk w hS
  unfold G0 at hB
  simp only [Bool.and_eq_true,beq_iff_eq] at hB
  obtain⟨⟨⟨h1,h2⟩,h3⟩,h4⟩:=hB
  have dg:=hS.drewN 1
  have h5:=zJ (Q:=Q) h1 h2 l _ _ _ h4 (fun j oj _ hl=>by simp [Array.getD_eq_getD_getElem?,Array.getElem?_replicate] at hl;split at hl<;>simp at hl) (.inr (dg.pick hn hp)) (h junk (w.drewN 1) dg)
  rw [h3] at h5
  refine Code.wp_mono (fun e a w q=>?_) (wp_region_any hm (oz _ _ _ _ h5))
  cases e with
  | normal=>exact q
  | exit id=>exact q.elim
  | goto l=>exact q.elim
  | ret=>exact q.elim
  | panic ch=>exact q.elim
  | outgrown=>exact q.elim
def oI (P:Program) (β:Bs) (N:Nat) (junk:Nat->Value) (ops:Array Oper):List OH->List Nat->Fr->SS->Option (Fr×SS)
  | [],[],fr,S=>some (fr,S)
  | h::hs,i::is,fr,S=>
    match ops[i]? with
    | some o=>
      match Region.wanted o (yF ops N fr junk) with
      | true=>
        match rR P β 0 true (dm N fr junk) o h S with
        | some (v,S')=>
          match wD v with
          | true=>oI P β N junk ops hs is (dG fr o.dst v) S'
          | false=>none
        | none=>none
      | false=>oI P β N junk ops hs is (dG fr o.dst undef) S
    | none=>none
  | _,_,_,_=>none
def sA (P:Program) (β:Bs) (N:Nat) (junk:Nat->Value) (ops:Array Oper) (hs:List OH) (is:List Nat) (fr:Fr) (S:List HP) (idx:List Nat):Option (Fr×List Prop):=
  match oI P β N junk ops hs is fr ⟨[],S,[],true⟩ with
  | some (fr',S')=>some (iV fr' junk idx,S'.bA)
  | none=>none
theorem rC {junk:Nat->Value}:∀ {hs:List OH} {is:List Nat} {fr fr':Fr} {S S':SS},oI P β N junk ops hs is fr S=some (fr',S')->∀ p,p∈S.bA->p∈S'.bA
  | [],[],fr,fr',S,S',h,p,hp=>by cases h;exact hp
  | h::hs,i::is,fr,fr',S,S',hr,p,hp=>by
    unfold oI at hr
    repeat' split at hr
    all_goals first|(cases hr;done)|skip
    ·rename_i h0 _ _
     exact rC hr p (y7 h0 p hp)
    exact rC hr p hp
  | [],_::_,_,_,_,_,h,_,_=>by cases h
  | _::_,[],_,_,_,_,h,_,_=>by cases h
theorem sB {junk:Nat->Value} {w:World}:∀ {hs:List OH} {is:List Nat} {fr fr':Fr} {T T':SS},oI P β N junk ops hs is fr T=some (fr',T')->(∀ p,p∈T'.bA->p)->T.used=true->T.hps=S →
    jU P ops (NP Q) (Sat β S) l (bW N fr' junk) w->jU P ops (NP Q) (Sat β S) (is.map (fun i=>(true,i))++l) (bW N fr junk) w
  | [],[],fr,fr',T,T',h,ho,hu,hT,hK=>by cases h;exact hK
  | h::hs,i::is,fr,fr',T,T',hr,ho,hu,hT,hK=>by
    unfold oI at hr
    repeat' split at hr
    all_goals first|(cases hr;done)|skip
    ·rename_i o hget _ vo _ v T1 h0 _ hv
     obtain⟨e1,e2⟩:=rH h0
     rw [List.map_cons,List.cons_append]
     unfold jU
     refine⟨o,v,hget,.inl ⟨by rw [eu];exact vo,fun w' dg=>?_⟩,?_⟩
     ·rw [d9]
      obtain⟨w2,h1,_,_,h4⟩:=kI h0 (fun p hp=>ho p (rC hr p hp)) (by rw [hT];exact dg) (fun e=>by rw [hu] at e;cases e)
      obtain⟨ew,_⟩:=h4 rfl
      rw [ew] at h1
      rcases h1 with h1|⟨h1,_⟩
      ·exact h1
      exact absurd h1 (qd hv)
     rw [dP]
     exact sB hr ho (e2.trans hu) (e1.trans hT) hK
    rename_i o hget _ vo
    rw [List.map_cons,List.cons_append]
    unfold jU
    refine⟨o,undef,hget,.inr ⟨by rw [eu];exact vo,rfl⟩,?_⟩
    rw [dP]
    exact sB hr ho hu hT hK
  | [],_::_,_,_,_,_,h,_,_,_,_=>by cases h
  | _::_,[],_,_,_,_,h,_,_,_,_=>by cases h
theorem gZ.reads (is:List Nat) (hs:List OH) (idx:List Nat) (h:∀ junk,sA P β N junk ops hs is fr S idx=some (fr',bA)) (ho:jW bA) (hl:l'=is.map (fun i=>(true,i))++l) (K:gZ P β N ops S l fr' hps Q):gZ P β N ops S l' fr hps Q:=by
  intro junk w hS
  subst hl
  have h0:=h junk
  unfold sA at h0
  split at h0
  ·rename_i kF S1 h1
   cases h0
   have hK:=K (lk kF junk) w hS
   rw [← jd] at hK
   exact sB h1 (fun p hp=>ho.mem hp) rfl rfl hK
  cases h0
theorem gG (l2:List (Bool×Nat)) (mR:Fr) (is:List Nat) (os:List (Nat×OP)) (K:gZ P β N ops S l2 mR hps Q)
    (h:∀ junk,sA P β N junk ops (jf (gD is.length os 0)) is fr S (bU mR)=some (mR,owed (gD is.length os 0)):=by intro _;kernel_rfl) (hl:l'=is.map (fun i=>(true,i))++l2:=by rfl):gZ P β N ops S l' fr hps Q:=
  gZ.reads is (jf (gD is.length os 0)) (bU mR) h (nL _) hl K
theorem gZ.cut {ι:Type} {fr':ι->Fr} {hp':ι->List HP} (pk:List Nat) (hg:gB ops i=true) (h:aj P β N (nJ ops i) i fr hps (NP (ni β N fr' hp'))) (hn:bq pk=true) (hp:∀ j,bT (hp' j) pk=some S)
    (K:∀ j,gZ P β N ops S l (fr' j) (hp' j) Q):gZ P β N ops S ((false,i)::l) fr hps Q:=by
  intro junk w hS
  unfold jU
  refine mq hg (kU (Q':=_) (fun a w ⟨j,fI,ha,dg⟩=>?_) _ (h junk w hS))
  subst ha
  exact⟨.inr (dg.pick hn (hp j)),K j fI w dg⟩
theorem gZ.last (hg:gB ops i=true) (h:aj P β N (nJ ops i) i fr hps (NP Q)):gZ P β N ops S [(false,i)] fr hps Q:=by
  intro junk w hS
  unfold jU
  exact mq hg (kU (Q':=_) (fun a w hq=>⟨.inl rfl,by unfold jU;exact hq⟩) _ (h junk w hS))
end mix
end
section
open Go.RowKit Go.Maps bG aE
attribute [local irreducible] aj aP af ai
abbrev G1 (cb:Nat) (c:aB):=(pC cb { c with other:=0,mode:=0,uid:=0,gid:=0,sec:=0,nano:=0 }:HP)
abbrev G2 (cb:Nat) (c:aB) (S:aG) (tk:Nat):=(pC cb { c with other:=0,mode:=0,uid:=0,gid:=0,sec:=0,nano:=0,answer:=(obj S.O tk).id }:HP)
abbrev Si (cb:Nat) (c:aB) (S:aG) (tk:Nat):=(pC cb { c with other:=1,mode:=(obj S.O tk).mode,uid:=(obj S.O tk).uid,gid:=0,sec:=0,nano:=0,answer:=(obj S.O tk).id }:HP)
abbrev Sj (cb:Nat) (c:aB) (S:aG) (tk:Nat):=(pC cb { c with other:=1,mode:=(obj S.O tk).mode,uid:=(obj S.O tk).uid,gid:=(obj S.O tk).gid,sec:=0,nano:=0,answer:=(obj S.O tk).id }:HP)
abbrev Sk (cb:Nat) (c:aB) (S:aG) (tk:Nat):=(pC cb { c with other:=2,mode:=(obj S.O tk).mode,uid:=(obj S.O tk).uid,gid:=0,sec:=0,nano:=0,answer:=(obj S.O tk).id }:HP)
abbrev Sl (cb:Nat) (c:aB) (S:aG) (tk:Nat):=(pC cb { c with other:=2,mode:=(obj S.O tk).mode,uid:=(obj S.O tk).uid,gid:=(obj S.O tk).gid,sec:=0,nano:=0,answer:=(obj S.O tk).id }:HP)
abbrev Sm (cb:Nat) (c:aB) (S:aG) (tk:Nat):=(pC cb { c with other:=3,mode:=(obj S.O tk).mode,uid:=(obj S.O tk).uid,gid:=0,sec:=0,nano:=0,answer:=(obj S.O tk).id }:HP)
abbrev Sn (cb:Nat) (c:aB) (S:aG) (tk:Nat):=(pC cb { c with other:=3,mode:=(obj S.O tk).mode,uid:=(obj S.O tk).uid,gid:=(obj S.O tk).gid,sec:=0,nano:=0,answer:=(obj S.O tk).id }:HP)
abbrev lQ (S:aG) (tk:Nat):=([(44,vI ((obj S.O tk).uid)),(48,vI ((obj S.O tk).gid)),(52,.agg #[vI ((obj S.O tk).sec),vI ((obj S.O tk).nano)])]:Fr)
abbrev Me (cb:Nat) (S:aG) (tk:Nat):=([(25,vP cb),(26,vP cb),(27,vP cb),(28,vP cb),(29,vP cb),(30,vP cb),(34,vI ((obj S.O tk).id))]:Fr)
abbrev Cy (cb:Nat) (S:aG) (tk:Nat):=([(30,vP cb),(48,vI ((obj S.O tk).gid)),(52,.agg #[vI ((obj S.O tk).sec),vI ((obj S.O tk).nano)])]:Fr)
abbrev qD (cb:Nat):=([(27,vP cb),(28,vP cb),(29,vP cb),(30,vP cb)]:Fr)
abbrev Mf (S:aG) (tk:Nat):=([(40,vI ((obj S.O tk).mode)),(44,vI ((obj S.O tk).uid)),(48,vI ((obj S.O tk).gid)),(52,.agg #[vI ((obj S.O tk).sec),vI ((obj S.O tk).nano)])]:Fr)
abbrev qE (f:Nat) (m:Nat) (t) (S:aG) (L:HL) (cb:Nat) (c) (R:cu):=([pF f m t S.X,pI m L S.idx,pO S.O L,pD S.O L,pE S.O L,pC cb c,.abs R]:List HP)
abbrev Cz:=([(2,vI 0),(6,vI 0),(7,vI 0),(8,vI 0),(9,vI 0),(10,vI 0)]:Fr)
abbrev CA (t)(c:aB):=([(11,vP t),(15,vI (c.handle))]:Fr)
abbrev CB (cb:Nat) (S:aG) (tk:Nat):=([(28,vP cb),(29,vP cb),(30,vP cb),(40,vI ((obj S.O tk).mode))]:Fr)
abbrev xD (L:HL) (to:Nat) (c:aB):=([(61,.map (some (L.m to))),(65,.string c.text)]:Fr)
abbrev Mg (S:aG) (tk:Nat) (cb:Nat):=([(52,.agg #[vI ((obj S.O tk).sec),vI ((obj S.O tk).nano)]),(64,.pointer (some ⟨cb,9,none⟩))]:Fr)
abbrev IW (L:HL) (tk:Nat):=([(5,.iface 129 (vP (L.b tk))),(6,vI 0)]:Fr)
abbrev IX (L:HL) (tk:Nat):=([(5,.iface 135 (vP (L.b tk))),(6,vI 0)]:Fr)
abbrev Mh (t)(c:aB):=([(13,vP t),(17,vI (c.handle))]:Fr)
abbrev Mi (S:aG) (tk:Nat):=([(9,vI ((obj S.O tk).sec)),(10,vI ((obj S.O tk).nano))]:Fr)
theorem IY {β:Bs} (S:aG) (L:HL) (f m t:Nat) (hI:Inv S) (cb:Nat) (c:aB) (hC:fL β c) :
    Spec Tryz.prog β 95 #[vP f,vP cb] ((pA f m t L S)++[pC cb c]) (fun v l=>∃ L2,v=vI (cE S c).1/\l=((pA f m t L2 ((cE S c).2.1))++[.blk cb (bK ((cE S c).2.2)) 48])):=by
 have hX:=hI.hX
 refine Spec.enter Tryz.func95 rfl Tryz.ntmps95 (Nat.le_of_ble_eq_true rfl) (fun R=>?_)
 refine SR (gK 1 [] [] ?_)
 refine NN (af.seq (af.bH (by kernel_rfl) (by kernel_rfl) ?_))
 refine gQ 9 [(10,vP f),(14,vI (c.handle)),(18,.string c.name)] [(4,a_ 6 cb),(8,a_ 6 cb)] ?_
 rcases lg hI.toInv0 c.handle c.name 64 with ⟨e,hab,hne⟩|⟨d,hab,hd,iM,iH,dx⟩
 ·refine aP.call (f:=123) (args:=#[vP f,vI (c.handle),.string c.name,vI 64]) (d:=(some 19)) (pre:=(oU f m t S L)) (R:=(oo m L S cb c R)) (pk:=[0,2,3,1,4,5,6,7]) (iW:=[0,3,1,2,4,5,6,7]) (v0:=.tuple #[.pointer none,vI (e)]) (fun _=>by kernel_rfl) ((by have h:=dZ S L f m t hI c.handle hC.hw c.name hC.nm 64 (β:=β);rw [hab] at h;exact h)) rfl (by kernel_rfl) rfl (by kernel_rfl) (fun _ _ h=>h) ?_
  refine gQ 5 [(5,.pointer none),(6,vI (e))] [] ?_
  refine NQ (NX (af.seq (SR ?_)))
  refine gK 2 [(23,.bool (!(decide ((e:Int)=(0:Int)))))] [] ?_
  refine NN (af.cT (p:=(e:Int)=(0:Int)) (fun _=>by kernel_rfl) (fun h23=>?_) (fun h23=>?_))
  ·refine SR (gK 2 [(4,vI (e))] [] ?_)
   refine NN (af.ret (ai.ak ?_))
   exact RT (vI (e)) [0,1,2,3,4,5,6,7] (⟨L,by rw [show (cE S c)=(e,S,c) by unfold cE;rw [hab]]<;>exact⟨rfl,rfl⟩⟩)
  exact absurd h23 hne
 have hkd:(obj S.O d).kind=2:=hI.kind hd
 refine aP.call (f:=123) (args:=#[vP f,vI (c.handle),.string c.name,vI 64]) (d:=(some 19)) (pre:=(oU f m t S L)) (R:=(oo m L S cb c R)) (pk:=[0,2,3,1,4,5,6,7]) (iW:=[0,3,1,2,4,5,6,7]) (v0:=.tuple #[vP (L.b d),vI 0]) (fun _=>by kernel_rfl) ((by have h:=dZ S L f m t hI c.handle hC.hw c.name hC.nm 64 (β:=β);rw [hab] at h;exact h)) rfl (by kernel_rfl) rfl (by kernel_rfl) (fun _ _ h=>h) ?_
 refine gQ 5 (EZ L d) [] ?_
 refine NQ (NX (af.seq (SR ?_)))
 refine gK 2 [(23,.bool false)] [] ?_
 refine NN (CF (af.skip (NX (af.seq (af.bH (by kernel_rfl) (by kernel_rfl) ?_)))))
 refine gQ 9 [(26,vP f),(30,vI (c.other)),(34,.string c.text)] [(4,a_ 6 cb),(8,a_ 6 cb)] ?_
 rcases lg hI.toInv0 c.other c.text 192 with ⟨e2,jI,E5⟩|⟨to,jI,hd2,Qg,Md,TH⟩
 ·refine aP.call (f:=123) (args:=#[vP f,vI (c.other),.string c.text,vI 192]) (d:=(some 35)) (pre:=(oU f m t S L)) (R:=(oo m L S cb c R)) (pk:=[0,2,3,1,4,5,6,7]) (iW:=[0,3,1,2,4,5,6,7]) (v0:=.tuple #[.pointer none,vI (e2)]) (fun _=>by kernel_rfl) ((by have h:=dZ S L f m t hI c.other hC.ow c.text hC.tx 192 (β:=β);rw [jI] at h;exact h)) rfl (by kernel_rfl) rfl (by kernel_rfl) (fun _ _ h=>h) ?_
  refine gQ 5 [(6,vI (e2)),(7,.pointer none)] [] ?_
  refine NQ (NX (af.seq (SR ?_)))
  refine gK 2 [(39,.bool (!(decide ((e2:Int)=(0:Int)))))] [] ?_
  refine NN (af.cT (p:=(e2:Int)=(0:Int)) (fun _=>by kernel_rfl) (fun iY=>?_) (fun iY=>?_))
  ·refine SR (gK 2 [(4,vI (e2))] [] ?_)
   refine NN (af.ret (ai.ak ?_))
   exact RT (vI (e2)) [0,1,2,3,4,5,6,7] (⟨L,by rw [show (cE S c)=(e2,S,c) by unfold cE;rw [hab];simp only;rw [jI]]<;>exact⟨rfl,rfl⟩⟩)
  exact absurd iY E5
 have ef:(obj S.O to).kind=2:=hI.kind hd2
 refine aP.call (f:=123) (args:=#[vP f,vI (c.other),.string c.text,vI 192]) (d:=(some 35)) (pre:=(oU f m t S L)) (R:=(oo m L S cb c R)) (pk:=[0,2,3,1,4,5,6,7]) (iW:=[0,3,1,2,4,5,6,7]) (v0:=.tuple #[vP (L.b to),vI 0]) (fun _=>by kernel_rfl) ((by have h:=dZ S L f m t hI c.other hC.ow c.text hC.tx 192 (β:=β);rw [jI] at h;exact h)) rfl (by kernel_rfl) rfl (by kernel_rfl) (fun _ _ h=>h) ?_
 refine gQ 5 [(6,vI 0),(7,vP (L.b to))] [] ?_
 refine NQ (NX (af.seq (SR ?_)))
 refine gK 2 [(39,.bool false)] [] ?_
 refine NN (CF (af.skip (NX (af.seq ?_))))
 have hel:(obj S.O d).ah.length<=8192:=hI.fV hd
 have RP:=hC.nm
 rcases hI.lP hd c.name with hlk|⟨tk,hlk,hlv⟩|⟨tk,hlk,hlv⟩|⟨tk,hlk,hlv⟩
 ·refine af.bH (by kernel_rfl) (by kernel_rfl) ?_
  refine gQ 8 [(44,.map (some (L.m d))),(48,.string c.name)] [(3,v_ 3 (br L hkd)),(7,a_ 6 cb)] ?_
  refine qM 5 hkd hlk ?_
  refine gQ 1 [(8,.nilIface)] [] ?_
  refine NQ (NX (af.seq (af.block (SR ?_))))
  refine gK 3 [(50,.bool true)] [] ?_
  refine NN (CT (SR (gK 1 [(4,vI 170)] [] ?_)))
  refine NN (af.ret (ai.aF (ai.ak ?_)))
  exact RT (vI 170) [0,1,2,3,4,5,6,7] (⟨L,by rw [show (cE S c)=(170,S,c) by unfold cE;rw [hab];simp only;rw [jI];simp only;rw [show (fw S d c.name to c.text)=(170,S) by unfold fw;rw [hlk]]]<;>exact⟨rfl,rfl⟩⟩)
 ·have hkt:(obj S.O tk).kind=1:=hI.kind hlv
  refine af.bH (by kernel_rfl) (by kernel_rfl) ?_
  refine gQ 8 [(44,.map (some (L.m d))),(48,.string c.name)] [(3,v_ 3 (br L hkd)),(7,a_ 6 cb)] ?_
  refine qM 5 hkd hlk ?_
  refine gQ 1 [(8,.iface 129 (vP (L.b tk)))] [] ?_
  refine NQ (NX (af.seq (af.block (SR ?_))))
  refine gK 3 [(50,.bool false)] [] ?_
  refine NN (CF (SR (gK 1 [(54,.iface 129 (vP (L.b tk)))] [] ?_)))
  refine gL [] (lX (vP (L.b tk))) ?_
  rintro _ _ ⟨rfl,rfl⟩
  refine gK 2 [(53,.bool false)] [] ?_
  refine NN (CF (af.seq ?_))
  have zK:(obj S.O to).ah.length<=8192:=hI.fV hd2
  have Kp:=hC.tx
  rcases hI.lP hd2 c.text with bn|⟨ok,bn,ez⟩|⟨ok,bn,ez⟩|⟨ok,bn,ez⟩
  ·refine af.bH (by kernel_rfl) (by kernel_rfl) ?_
   refine gQ 8 (xD L to c) [(3,v_ 3 (br L ef)),(7,a_ 6 cb)] ?_
   refine qM 5 ef bn ?_
   refine gQ 2 [(57,.bool false)] [] ?_
   refine NQ (NX ?_)
   refine CF (SR (gK 1 [(69,vP f)] [] ?_))
   refine gL [0] (tN S.X f m t) ?_
   rintro _ _ ⟨rfl,rfl⟩
   refine gK 2 [(68,.bool (!(decide (S.X.ah < 8192))))] [] ?_
   refine NN (af.cT (p:=S.X.ah < 8192) (fun _=>by kernel_rfl) (fun h68=>?_) (fun h68=>?_))
   ·refine SR (gK 1 [(4,vI 177)] [] ?_)
    refine NN (af.ret (ai.aF (ai.ak ?_)))
    exact RT (vI 177) [0,1,2,3,4,5,6,7] (⟨L,by rw [show (cE S c)=(177,S,c) by unfold cE;rw [hab];simp only;rw [jI];simp only;rw [show (fw S d c.name to c.text)=(177,S) by unfold fw;rw [hlk];exact (if_neg (by simp)).trans ((if_pos bn).trans (if_neg h68))]]<;>exact⟨rfl,rfl⟩⟩)
   refine af.skip (ai.aN (NX (SR ?_)))
   refine gK 7 [(72,vP f),(73,vP (L.b to)),(77,.string c.text),(78,.iface 129 (vP (L.b tk)))] [(5,a_ 6 cb)] ?_
   refine gL [0,3,5] (iA S.X f m t hX S.O L to ef c.text hC.tx bn (by omega) ⟨tk,1⟩ hkt (by simp) (by have:=hI.lb hlv;simp only at this ⊢;omega)) ?_
   rintro _ _ ⟨rfl,rfl⟩
   refine NS (aj.dh [(5,.abs (ax (bC (cR S.X S.O to c.text ⟨tk,1⟩) L)))] (fun w hS=>by rw [show bC (cR S.X S.O to c.text ⟨tk,1⟩) L=bC S.O L from gV];exact hS) ?_)
   refine gK 1 [(4,vI 0)] [] ?_
   refine NN (af.ret ?_)
   exact RT (vI 0) [0,3,4,1,5,2,6,7] (⟨L,by rw [show (cE S c)=(0,{ S with X:={ S.X with ah:=S.X.ah+1 },O:=cR S.X S.O to c.text ⟨tk,1⟩ },c) by unfold cE;rw [hab];simp only;rw [jI];simp only;rw [show (fw S d c.name to c.text)=(0,{ S with X:={ S.X with ah:=S.X.ah+1 },O:=cR S.X S.O to c.text ⟨tk,1⟩ }) by unfold fw;rw [hlk];exact (if_neg (by simp)).trans ((if_pos bn).trans (if_pos h68))]]<;>exact⟨rfl,rfl⟩⟩)
  ·have kx:(obj S.O ok).kind=1:=hI.kind ez
   refine af.bH (by kernel_rfl) (by kernel_rfl) ?_
   refine gQ 8 (xD L to c) [(3,v_ 3 (br L ef)),(7,a_ 6 cb)] ?_
   refine qM 5 ef bn ?_
   refine gQ 2 [(57,.bool true)] [] ?_
   refine NQ (NX ?_)
   refine CT (SR (gK 1 [(4,vI 171)] [] ?_))
   refine NN (af.ret (ai.aF (ai.ak ?_)))
   exact RT (vI 171) [0,1,2,3,4,5,6,7] (⟨L,by rw [show (cE S c)=(171,S,c) by unfold cE;rw [hab];simp only;rw [jI];simp only;rw [show (fw S d c.name to c.text)=(171,S) by unfold fw;rw [hlk];exact (if_neg (by simp)).trans (if_neg (by rw [bn];simp))]]<;>exact⟨rfl,rfl⟩⟩)
  ·have kx:(obj S.O ok).kind=2:=hI.kind ez
   refine af.bH (by kernel_rfl) (by kernel_rfl) ?_
   refine gQ 8 (xD L to c) [(3,v_ 3 (br L ef)),(7,a_ 6 cb)] ?_
   refine qM 5 ef bn ?_
   refine gQ 2 [(57,.bool true)] [] ?_
   refine NQ (NX ?_)
   refine CT (SR (gK 1 [(4,vI 171)] [] ?_))
   refine NN (af.ret (ai.aF (ai.ak ?_)))
   exact RT (vI 171) [0,1,2,3,4,5,6,7] (⟨L,by rw [show (cE S c)=(171,S,c) by unfold cE;rw [hab];simp only;rw [jI];simp only;rw [show (fw S d c.name to c.text)=(171,S) by unfold fw;rw [hlk];exact (if_neg (by simp)).trans (if_neg (by rw [bn];simp))]]<;>exact⟨rfl,rfl⟩⟩)
  have kx:(obj S.O ok).kind=3:=hI.kind ez
  refine af.bH (by kernel_rfl) (by kernel_rfl) ?_
  refine gQ 8 (xD L to c) [(3,v_ 3 (br L ef)),(7,a_ 6 cb)] ?_
  refine qM 5 ef bn ?_
  refine gQ 2 [(57,.bool true)] [] ?_
  refine NQ (NX ?_)
  refine CT (SR (gK 1 [(4,vI 171)] [] ?_))
  refine NN (af.ret (ai.aF (ai.ak ?_)))
  exact RT (vI 171) [0,1,2,3,4,5,6,7] (⟨L,by rw [show (cE S c)=(171,S,c) by unfold cE;rw [hab];simp only;rw [jI];simp only;rw [show (fw S d c.name to c.text)=(171,S) by unfold fw;rw [hlk];exact (if_neg (by simp)).trans (if_neg (by rw [bn];simp))]]<;>exact⟨rfl,rfl⟩⟩)
 ·have hkt:(obj S.O tk).kind=2:=hI.kind hlv
  refine af.bH (by kernel_rfl) (by kernel_rfl) ?_
  refine gQ 8 [(44,.map (some (L.m d))),(48,.string c.name)] [(3,v_ 3 (br L hkd)),(7,a_ 6 cb)] ?_
  refine qM 5 hkd hlk ?_
  refine gQ 1 [(8,.iface 135 (vP (L.b tk)))] [] ?_
  refine NQ (NX (af.seq (af.block (SR ?_))))
  refine gK 3 [(50,.bool false)] [] ?_
  refine NN (CF (SR (gK 1 [(54,.iface 135 (vP (L.b tk)))] [] ?_)))
  refine gL [] (lY (vP (L.b tk))) ?_
  rintro _ _ ⟨rfl,rfl⟩
  refine gK 2 [(53,.bool true)] [] ?_
  refine NN (CT (SR (gK 1 [(4,vI 172)] [] ?_)))
  refine NN (af.ret (ai.aF (ai.ak ?_)))
  exact RT (vI 172) [0,1,2,3,4,5,6,7] (⟨L,by rw [show (cE S c)=(172,S,c) by unfold cE;rw [hab];simp only;rw [jI];simp only;rw [show (fw S d c.name to c.text)=(172,S) by unfold fw;rw [hlk];exact if_pos rfl]]<;>exact⟨rfl,rfl⟩⟩)
 have hkt:(obj S.O tk).kind=3:=hI.kind hlv
 refine af.bH (by kernel_rfl) (by kernel_rfl) ?_
 refine gQ 8 [(44,.map (some (L.m d))),(48,.string c.name)] [(3,v_ 3 (br L hkd)),(7,a_ 6 cb)] ?_
 refine qM 5 hkd hlk ?_
 refine gQ 1 [(8,.iface 132 (vP (L.b tk)))] [] ?_
 refine NQ (NX (af.seq (af.block (SR ?_))))
 refine gK 3 [(50,.bool false)] [] ?_
 refine NN (CF (SR (gK 1 [(54,.iface 132 (vP (L.b tk)))] [] ?_)))
 refine gL [] (nM (vP (L.b tk))) ?_
 rintro _ _ ⟨rfl,rfl⟩
 refine gK 2 [(53,.bool false)] [] ?_
 refine NN (CF (af.seq ?_))
 have zK:(obj S.O to).ah.length<=8192:=hI.fV hd2
 have Kp:=hC.tx
 rcases hI.lP hd2 c.text with bn|⟨ok,bn,ez⟩|⟨ok,bn,ez⟩|⟨ok,bn,ez⟩
 ·refine af.bH (by kernel_rfl) (by kernel_rfl) ?_
  refine gQ 8 (xD L to c) [(3,v_ 3 (br L ef)),(7,a_ 6 cb)] ?_
  refine qM 5 ef bn ?_
  refine gQ 2 [(57,.bool false)] [] ?_
  refine NQ (NX ?_)
  refine CF (SR (gK 1 [(69,vP f)] [] ?_))
  refine gL [0] (tN S.X f m t) ?_
  rintro _ _ ⟨rfl,rfl⟩
  refine gK 2 [(68,.bool (!(decide (S.X.ah < 8192))))] [] ?_
  refine NN (af.cT (p:=S.X.ah < 8192) (fun _=>by kernel_rfl) (fun h68=>?_) (fun h68=>?_))
  ·refine SR (gK 1 [(4,vI 177)] [] ?_)
   refine NN (af.ret (ai.aF (ai.ak ?_)))
   exact RT (vI 177) [0,1,2,3,4,5,6,7] (⟨L,by rw [show (cE S c)=(177,S,c) by unfold cE;rw [hab];simp only;rw [jI];simp only;rw [show (fw S d c.name to c.text)=(177,S) by unfold fw;rw [hlk];exact (if_neg (by simp)).trans ((if_pos bn).trans (if_neg h68))]]<;>exact⟨rfl,rfl⟩⟩)
  refine af.skip (ai.aN (NX (SR ?_)))
  refine gK 7 [(72,vP f),(73,vP (L.b to)),(77,.string c.text),(78,.iface 132 (vP (L.b tk)))] [(5,a_ 6 cb)] ?_
  refine gL [0,3,5] (iA S.X f m t hX S.O L to ef c.text hC.tx bn (by omega) ⟨tk,3⟩ hkt (by simp) (by have:=hI.lb hlv;simp only at this ⊢;omega)) ?_
  rintro _ _ ⟨rfl,rfl⟩
  refine NS (aj.dh [(5,.abs (ax (bC (cR S.X S.O to c.text ⟨tk,3⟩) L)))] (fun w hS=>by rw [show bC (cR S.X S.O to c.text ⟨tk,3⟩) L=bC S.O L from gV];exact hS) ?_)
  refine gK 1 [(4,vI 0)] [] ?_
  refine NN (af.ret ?_)
  exact RT (vI 0) [0,3,4,1,5,2,6,7] (⟨L,by rw [show (cE S c)=(0,{ S with X:={ S.X with ah:=S.X.ah+1 },O:=cR S.X S.O to c.text ⟨tk,3⟩ },c) by unfold cE;rw [hab];simp only;rw [jI];simp only;rw [show (fw S d c.name to c.text)=(0,{ S with X:={ S.X with ah:=S.X.ah+1 },O:=cR S.X S.O to c.text ⟨tk,3⟩ }) by unfold fw;rw [hlk];exact (if_neg (by simp)).trans ((if_pos bn).trans (if_pos h68))]]<;>exact⟨rfl,rfl⟩⟩)
 ·have kx:(obj S.O ok).kind=1:=hI.kind ez
  refine af.bH (by kernel_rfl) (by kernel_rfl) ?_
  refine gQ 8 (xD L to c) [(3,v_ 3 (br L ef)),(7,a_ 6 cb)] ?_
  refine qM 5 ef bn ?_
  refine gQ 2 [(57,.bool true)] [] ?_
  refine NQ (NX ?_)
  refine CT (SR (gK 1 [(4,vI 171)] [] ?_))
  refine NN (af.ret (ai.aF (ai.ak ?_)))
  exact RT (vI 171) [0,1,2,3,4,5,6,7] (⟨L,by rw [show (cE S c)=(171,S,c) by unfold cE;rw [hab];simp only;rw [jI];simp only;rw [show (fw S d c.name to c.text)=(171,S) by unfold fw;rw [hlk];exact (if_neg (by simp)).trans (if_neg (by rw [bn];simp))]]<;>exact⟨rfl,rfl⟩⟩)
 ·have kx:(obj S.O ok).kind=2:=hI.kind ez
  refine af.bH (by kernel_rfl) (by kernel_rfl) ?_
  refine gQ 8 (xD L to c) [(3,v_ 3 (br L ef)),(7,a_ 6 cb)] ?_
  refine qM 5 ef bn ?_
  refine gQ 2 [(57,.bool true)] [] ?_
  refine NQ (NX ?_)
  refine CT (SR (gK 1 [(4,vI 171)] [] ?_))
  refine NN (af.ret (ai.aF (ai.ak ?_)))
  exact RT (vI 171) [0,1,2,3,4,5,6,7] (⟨L,by rw [show (cE S c)=(171,S,c) by unfold cE;rw [hab];simp only;rw [jI];simp only;rw [show (fw S d c.name to c.text)=(171,S) by unfold fw;rw [hlk];exact (if_neg (by simp)).trans (if_neg (by rw [bn];simp))]]<;>exact⟨rfl,rfl⟩⟩)
 have kx:(obj S.O ok).kind=3:=hI.kind ez
 refine af.bH (by kernel_rfl) (by kernel_rfl) ?_
 refine gQ 8 (xD L to c) [(3,v_ 3 (br L ef)),(7,a_ 6 cb)] ?_
 refine qM 5 ef bn ?_
 refine gQ 2 [(57,.bool true)] [] ?_
 refine NQ (NX ?_)
 refine CT (SR (gK 1 [(4,vI 171)] [] ?_))
 refine NN (af.ret (ai.aF (ai.ak ?_)))
 exact RT (vI 171) [0,1,2,3,4,5,6,7] (⟨L,by rw [show (cE S c)=(171,S,c) by unfold cE;rw [hab];simp only;rw [jI];simp only;rw [show (fw S d c.name to c.text)=(171,S) by unfold fw;rw [hlk];exact (if_neg (by simp)).trans (if_neg (by rw [bn];simp))]]<;>exact⟨rfl,rfl⟩⟩)
theorem Gh {β:Bs} (S:aG) (L:HL) (f m t:Nat) (hI:Inv S) (cb:Nat) (c:aB) (hC:fL β c) :
    Spec Tryz.prog β 97 #[vP f,vP cb] ((pA f m t L S)++[pC cb c]) (fun v l=>∃ L2,v=vI (fZ S c).1/\l=((pA f m t L2 ((fZ S c).2.1))++[.blk cb (bK ((fZ S c).2.2)) 48])):=by
 have hX:=hI.hX
 refine Spec.enter Tryz.func97 rfl Tryz.ntmps97 (Nat.le_of_ble_eq_true rfl) (fun R=>?_)
 refine af.seq ?_
 rcases hI.hand c.handle with dx|⟨tk,dx,hlv⟩|⟨tk,dx,hlv⟩
 ·refine af.region (gK 1 [] [] ?_)
  refine NN (af.seq (af.bH (by kernel_rfl) (by kernel_rfl) ?_))
  refine gQ 8 (Mh t c) [(3,a_ 0 f),(7,a_ 6 cb)] ?_
  refine aP.call (f:=132) (args:=#[vP t,vI (c.handle)]) (d:=(some 18)) (pre:=[jT t S L]) (R:=(qE f m t S L cb c R)) (pk:=[2,0,1,3,4,5,6,7]) (iW:=[1,2,0,3,4,5,6,7]) (v0:=.tuple #[.nilIface,vI 131]) (fun _=>by kernel_rfl) (qo t S.X.cH S.ar (aV L S.us) c.handle hC.hw (pq dx)) rfl (by kernel_rfl) rfl (by kernel_rfl) (fun _ _ h=>h) ?_
  refine gQ 5 [(5,.nilIface),(6,vI 131)] [] ?_
  refine NQ (NX (af.seq (SR ?_)))
  refine gK 2 [(22,.bool true)] [] ?_
  refine NN (CT (SR (gK 2 [(4,vI 131)] [] ?_)))
  refine NN (af.ret (ai.ak ?_))
  exact RT (vI 131) [0,1,2,3,4,5,6,7] (⟨L,by rw [show (fZ S c)=(131,S,c) by unfold fZ;rw [dx]]<;>exact⟨rfl,rfl⟩⟩)
 ·have hkt:(obj S.O tk).kind=1:=hI.kind hlv
  refine af.region (gK 1 [] [] ?_)
  refine NN (af.seq (af.bH (by kernel_rfl) (by kernel_rfl) ?_))
  refine gQ 8 (Mh t c) [(3,a_ 0 f),(7,a_ 6 cb)] ?_
  refine aP.call (f:=132) (args:=#[vP t,vI (c.handle)]) (d:=(some 18)) (pre:=[jT t S L]) (R:=(qE f m t S L cb c R)) (pk:=[2,0,1,3,4,5,6,7]) (iW:=[1,2,0,3,4,5,6,7]) (v0:=.tuple #[.iface 129 (vP (L.b tk)),vI 0]) (fun _=>by kernel_rfl) (kT t S.X.cH S.ar (aV L S.us) c.handle hC.hw (dz L ⟨tk,1⟩) (j3 dx)) rfl (by kernel_rfl) rfl (by kernel_rfl) (fun _ _ h=>h) ?_
  refine gQ 5 (IW L tk) [] ?_
  refine NQ (NX (af.seq (SR ?_)))
  refine gK 2 [(22,.bool false)] [] ?_
  refine NN (CF (af.skip (NX (SR (gK 7 [(7,vP (L.b tk)),(8,.bool true)] [] ?_)))))
  refine NN (af.seq (SR (gK 2 [(30,.bool false)] [] ?_)))
  refine NN (CF (af.skip (NX (SR (gK 7 [(32,vP cb),(33,vP f),(34,vP (L.b tk)),(38,.slice c.dA (c.data.length) (c.dC))] [(6,a_ 6 cb)] ?_)))))
  refine gL [0,1,2,3,4,5] (Dj S L f m t hI tk hlv c.dA c.dC c.data hC.da hC.dl hC.dc) ?_
  rintro _ _ ⟨L2,rfl,rfl⟩
  refine gC 7 [(6,vI ((dI S tk c.data).2.1))] [(5,a_ 6 cb)] [(6,[(12,vI ((dI S tk c.data).1))])] ?_
  refine NS (gK 2 [(4,vI ((dI S tk c.data).2.1))] [] ?_)
  refine NN (af.ret ?_)
  exact RT (vI ((dI S tk c.data).2.1)) [0,1,2,3,4,5,6,7] (⟨L2,by rw [show (fZ S c)=((dI S tk c.data).2.1,(dI S tk c.data).2.2,{ c with answer:=(dI S tk c.data).1 }) by unfold fZ;rw [dx];exact if_pos rfl]<;>exact⟨rfl,rfl⟩⟩)
 have hkt:(obj S.O tk).kind=2:=hI.kind hlv
 refine af.region (gK 1 [] [] ?_)
 refine NN (af.seq (af.bH (by kernel_rfl) (by kernel_rfl) ?_))
 refine gQ 8 (Mh t c) [(3,a_ 0 f),(7,a_ 6 cb)] ?_
 refine aP.call (f:=132) (args:=#[vP t,vI (c.handle)]) (d:=(some 18)) (pre:=[jT t S L]) (R:=(qE f m t S L cb c R)) (pk:=[2,0,1,3,4,5,6,7]) (iW:=[1,2,0,3,4,5,6,7]) (v0:=.tuple #[.iface 135 (vP (L.b tk)),vI 0]) (fun _=>by kernel_rfl) (kT t S.X.cH S.ar (aV L S.us) c.handle hC.hw (dz L ⟨tk,2⟩) (j3 dx)) rfl (by kernel_rfl) rfl (by kernel_rfl) (fun _ _ h=>h) ?_
 refine gQ 5 (IX L tk) [] ?_
 refine NQ (NX (af.seq (SR ?_)))
 refine gK 2 [(22,.bool false)] [] ?_
 refine NN (CF (af.skip (NX (SR (gK 7 [(7,.pointer none),(8,.bool false)] [] ?_)))))
 refine NN (af.seq (SR (gK 2 [(30,.bool true)] [] ?_)))
 refine NN (CT (SR (gK 1 [(4,vI 172)] [] ?_)))
 refine NN (af.ret (ai.ak ?_))
 exact RT (vI 172) [0,1,2,3,4,5,6,7] (⟨L,by rw [show (fZ S c)=(172,S,c) by unfold fZ;rw [dx];exact if_neg (by simp)]<;>exact⟨rfl,rfl⟩⟩)
theorem nQ {β:Bs} (S:aG) (L:HL) (hI:Inv S) (cb:Nat) (c:aB) (ot:Option Th) (ht:ot=none\/(∃ k,ot=some ⟨k,1⟩/\Live S.idx ⟨k,1⟩)\/(∃ k,ot=some ⟨k,2⟩/\Live S.idx ⟨k,2⟩)\/∃ k,ot=some ⟨k,3⟩/\Live S.idx ⟨k,3⟩) :
    Spec Tryz.prog β 134 #[vP cb,(match ot with|none=>.nilIface|some th=>dz L th)] [pO S.O L,pC cb c] (fun v l=>v=.tuple #[]/\l=[pO S.O L,.blk cb (bK (lN S.O c ot)) 48]):=by
 refine Spec.enter Tryz.func134 rfl Tryz.ntmps134 (Nat.le_of_ble_eq_true rfl) (fun R=>?_)
 refine af.seq ?_
 rcases ht with rfl|⟨tk,rfl,hlv⟩|⟨tk,rfl,hlv⟩|⟨tk,rfl,hlv⟩
 ·refine af.region (gC 21 [] [(8,a_ 1 cb),(11,a_ 1 cb),(14,a_ 1 cb),(17,a_ 1 cb),(20,A_ 1 cb 2)] [(1,(Cz))] ?_)
  refine NN (af.seq (SR (gK 2 [(22,.bool true)] [] ?_)))
  refine NN (CT (af.ret (ai.ak ?_)))
  exact RT (.tuple #[]) [0,1,2] (⟨rfl,rfl⟩)
 ·have hkt:(obj S.O tk).kind=1:=hI.kind hlv
  refine af.region (gC 21 [] [(8,a_ 1 cb),(11,a_ 1 cb),(14,a_ 1 cb),(17,a_ 1 cb),(20,A_ 1 cb 2)] [(1,(Cz))] ?_)
  refine NN (af.seq (SR (gK 2 [(22,.bool false)] [] ?_)))
  refine NN (CF (af.skip (NX (SR (gK 1 [(23,.iface 129 (vP (L.b tk)))] [] ?_)))))
  refine gL [] (cU (L.b tk)) ?_
  rintro _ _ ⟨rfl,rfl⟩
  refine gK 1 [(4,vP (L.b tk))] [] ?_
  refine NN (af.bP (S:=[pO S.O L]) [0,1,2,3,4,5,6,7,8,9,10,12,13,14,15,16,17,18,19,20,21,22,23,24,25,26,27,11,28,29,30,31,32,33,34,35,36,37,38,39,40,41,42,43,44,45] 27 [0] (by kernel_rfl) (by kernel_rfl) rfl (by kernel_rfl) ?_)
  refine gR 0 [11,28,29,30,31,32,33,34,35,36,37,38,39,40,41,42,43,44,45] (Me cb S tk++[(35,.iface 129 (vP (L.b tk)))]++Mf S tk) [0,1,2,3,4,5,6,7,8,9,10,12,13,14,15,16,17,18,19,20,21,22,23,24,25,26,27] [(9,v_ 0 (qC L hkt)),(14,v_ 0 (rY L hkt)),(18,v_ 0 (x7 L hkt)),(22,v_ 0 (x9 L hkt)),(26,p_ ⟨[.view 0 (.int .i64 ((obj S.O tk).sec)),.view 0 (.int .i64 ((obj S.O tk).nano))],none,none,none,none⟩ [(∀ F w,(ax (bB S.O L)).h F w->w.cell? ⟨(L.b tk),5,none⟩=some (vI ((obj S.O tk).nano))),(∀ F w,(ax (bB S.O L)).h F w->w.cell? ⟨(L.b tk),4,none⟩=some (vI ((obj S.O tk).sec)))] ⟨dR (by rw [hkt];decide) (rfl),dR (by rw [hkt];decide) (rfl),trivial⟩)] ?_
  refine mL [0] [] (lX (vP (L.b tk))) ?_ (by rintro _ _ ⟨rfl,rfl⟩;rfl)
  rintro _ _ ⟨rfl,rfl⟩
  refine aL.cut (ι:=Unit) (fr':=fun (_:Unit)=>([(26,vP cb)]++qD cb++[(34,vI ((obj S.O tk).id)),(36,vI 1),(40,vI ((obj S.O tk).mode))]++lQ S tk++[(53,vP cb)])) (hp':=fun (_:Unit)=>[pO S.O L,G1 cb c,.abs R]) [0] rfl rfl ?_ rfl (fun _=>by kernel_rfl) ?_
  ·refine gK 1 [(53,vP cb)] [] ?_
   refine NL ?_
   exact MD () [26,27,28,29,30,34,36,40,44,48,52,53] [0,1,2]
  rintro _
  refine aL.cut (ι:=Unit) (fr':=fun (_:Unit)=>([(26,vP cb)]++qD cb++[(34,vI ((obj S.O tk).id)),(36,vI 1),(40,vI ((obj S.O tk).mode))]++lQ S tk++[(54,.pointer (some ⟨cb,12,none⟩))])) (hp':=fun (_:Unit)=>[pO S.O L,G1 cb c,.abs R]) [0] rfl rfl ?_ rfl (fun _=>by kernel_rfl) ?_
  ·refine gK 1 [(54,.pointer (some ⟨cb,12,none⟩))] [] ?_
   refine NL ?_
   exact MD () [26,27,28,29,30,34,36,40,44,48,52,54] [0,1,2]
  rintro _
  refine mC [0] [] [(0,a_ 1 cb)] [(1,[(12,vI ((obj S.O tk).id))])] ?_
  refine aL.cut (ι:=Unit) (fr':=fun (_:Unit)=>(qD cb++[(36,vI 1),(40,vI ((obj S.O tk).mode))]++lQ S tk++[(55,vP cb)])) (hp':=fun (_:Unit)=>[pO S.O L,G2 cb c S tk,.abs R]) [0] rfl rfl ?_ rfl (fun _=>by kernel_rfl) ?_
  ·refine gK 1 [(55,vP cb)] [] ?_
   refine NL ?_
   exact MD () [27,28,29,30,36,40,44,48,52,55] [0,1,2]
  rintro _
  refine aL.cut (ι:=Unit) (fr':=fun (_:Unit)=>(qD cb++[(36,vI 1),(40,vI ((obj S.O tk).mode))]++lQ S tk++[(56,.pointer (some ⟨cb,2,none⟩))])) (hp':=fun (_:Unit)=>[pO S.O L,G2 cb c S tk,.abs R]) [0] rfl rfl ?_ rfl (fun _=>by kernel_rfl) ?_
  ·refine gK 1 [(56,.pointer (some ⟨cb,2,none⟩))] [] ?_
   refine NL ?_
   exact MD () [27,28,29,30,36,40,44,48,52,56] [0,1,2]
  rintro _
  refine mC [0] [] [(0,a_ 1 cb)] [(1,[(2,vI 1)])] ?_
  refine aL.cut (ι:=Unit) (fr':=fun (_:Unit)=>(CB cb S tk++lQ S tk++[(57,vP cb)])) (hp':=fun (_:Unit)=>[pO S.O L,pC cb { c with other:=1,mode:=0,uid:=0,gid:=0,sec:=0,nano:=0,answer:=(obj S.O tk).id },.abs R]) [0] rfl rfl ?_ rfl (fun _=>by kernel_rfl) ?_
  ·refine gK 1 [(57,vP cb)] [] ?_
   refine NL ?_
   exact MD () [28,29,30,40,44,48,52,57] [0,1,2]
  rintro _
  refine aL.cut (ι:=Unit) (fr':=fun (_:Unit)=>(CB cb S tk++lQ S tk++[(58,.pointer (some ⟨cb,6,none⟩))])) (hp':=fun (_:Unit)=>[pO S.O L,pC cb { c with other:=1,mode:=0,uid:=0,gid:=0,sec:=0,nano:=0,answer:=(obj S.O tk).id },.abs R]) [0] rfl rfl ?_ rfl (fun _=>by kernel_rfl) ?_
  ·refine gK 1 [(58,.pointer (some ⟨cb,6,none⟩))] [] ?_
   refine NL ?_
   exact MD () [28,29,30,40,44,48,52,58] [0,1,2]
  rintro _
  refine mC [0] [] [(0,a_ 1 cb)] [(1,[(6,vI ((obj S.O tk).mode))])] ?_
  refine aL.cut (ι:=Unit) (fr':=fun (_:Unit)=>([(29,vP cb),(30,vP cb)]++lQ S tk++[(59,vP cb)])) (hp':=fun (_:Unit)=>[pO S.O L,pC cb { c with other:=1,mode:=(obj S.O tk).mode,uid:=0,gid:=0,sec:=0,nano:=0,answer:=(obj S.O tk).id },.abs R]) [0] rfl rfl ?_ rfl (fun _=>by kernel_rfl) ?_
  ·refine gK 1 [(59,vP cb)] [] ?_
   refine NL ?_
   exact MD () [29,30,44,48,52,59] [0,1,2]
  rintro _
  refine aL.cut (ι:=Unit) (fr':=fun (_:Unit)=>([(29,vP cb),(30,vP cb)]++lQ S tk++[(60,.pointer (some ⟨cb,7,none⟩))])) (hp':=fun (_:Unit)=>[pO S.O L,pC cb { c with other:=1,mode:=(obj S.O tk).mode,uid:=0,gid:=0,sec:=0,nano:=0,answer:=(obj S.O tk).id },.abs R]) [0] rfl rfl ?_ rfl (fun _=>by kernel_rfl) ?_
  ·refine gK 1 [(60,.pointer (some ⟨cb,7,none⟩))] [] ?_
   refine NL ?_
   exact MD () [29,30,44,48,52,60] [0,1,2]
  rintro _
  refine mC [0] [] [(0,a_ 1 cb)] [(1,[(7,vI ((obj S.O tk).uid))])] ?_
  refine aL.cut (ι:=Unit) (fr':=fun (_:Unit)=>(Cy cb S tk++[(61,vP cb)])) (hp':=fun (_:Unit)=>[pO S.O L,Si cb c S tk,.abs R]) [0] rfl rfl ?_ rfl (fun _=>by kernel_rfl) ?_
  ·refine gK 1 [(61,vP cb)] [] ?_
   refine NL ?_
   exact MD () [30,48,52,61] [0,1,2]
  rintro _
  refine aL.cut (ι:=Unit) (fr':=fun (_:Unit)=>(Cy cb S tk++[(62,.pointer (some ⟨cb,8,none⟩))])) (hp':=fun (_:Unit)=>[pO S.O L,Si cb c S tk,.abs R]) [0] rfl rfl ?_ rfl (fun _=>by kernel_rfl) ?_
  ·refine gK 1 [(62,.pointer (some ⟨cb,8,none⟩))] [] ?_
   refine NL ?_
   exact MD () [30,48,52,62] [0,1,2]
  rintro _
  refine mC [0] [] [(0,a_ 1 cb)] [(1,[(8,vI ((obj S.O tk).gid))])] ?_
  refine aL.cut (ι:=Unit) (fr':=fun (_:Unit)=>[(52,.agg #[vI ((obj S.O tk).sec),vI ((obj S.O tk).nano)]),(63,vP cb)]) (hp':=fun (_:Unit)=>[pO S.O L,Sj cb c S tk,.abs R]) [0] rfl rfl ?_ rfl (fun _=>by kernel_rfl) ?_
  ·refine gK 1 [(63,vP cb)] [] ?_
   refine NL ?_
   exact MD () [52,63] [0,1,2]
  rintro _
  refine aL.cut (ι:=Unit) (fr':=fun (_:Unit)=>(Mg S tk cb)) (hp':=fun (_:Unit)=>[pO S.O L,Sj cb c S tk,.abs R]) [0] rfl rfl ?_ rfl (fun _=>by kernel_rfl) ?_
  ·refine gK 1 [(64,.pointer (some ⟨cb,9,none⟩))] [] ?_
   refine NL ?_
   exact MD () [52,64] [0,1,2]
  rintro _
  refine aL.last rfl rfl ?_
  refine gC 1 [] [(0,A_ 1 cb 2)] [(1,(Mi S tk))] ?_
  refine NL (ai.np ?_)
  exact RF (.tuple #[]) [0,1,2] (⟨rfl,rfl⟩)
 ·have hkt:(obj S.O tk).kind=2:=hI.kind hlv
  refine af.region (gC 21 [] [(8,a_ 1 cb),(11,a_ 1 cb),(14,a_ 1 cb),(17,a_ 1 cb),(20,A_ 1 cb 2)] [(1,(Cz))] ?_)
  refine NN (af.seq (SR (gK 2 [(22,.bool false)] [] ?_)))
  refine NN (CF (af.skip (NX (SR (gK 1 [(23,.iface 135 (vP (L.b tk)))] [] ?_)))))
  refine gL [] (cU (L.b tk)) ?_
  rintro _ _ ⟨rfl,rfl⟩
  refine gK 1 [(4,vP (L.b tk))] [] ?_
  refine NN (af.bP (S:=[pO S.O L]) [0,1,2,3,4,5,6,7,8,9,10,12,13,14,15,16,17,18,19,20,21,22,23,24,25,26,27,11,28,29,30,31,32,33,34,35,36,37,38,39,40,41,42,43,44,45] 27 [0] (by kernel_rfl) (by kernel_rfl) rfl (by kernel_rfl) ?_)
  refine gR 0 [11,28,29,30,31,32,33,34,35,36,37,38,39,40,41,42,43,44,45] (Me cb S tk++[(35,.iface 135 (vP (L.b tk)))]++Mf S tk) [0,1,2,3,4,5,6,7,8,9,10,12,13,14,15,16,17,18,19,20,21,22,23,24,25,26,27] [(9,v_ 0 (qC L hkt)),(14,v_ 0 (rY L hkt)),(18,v_ 0 (x7 L hkt)),(22,v_ 0 (x9 L hkt)),(26,p_ ⟨[.view 0 (.int .i64 ((obj S.O tk).sec)),.view 0 (.int .i64 ((obj S.O tk).nano))],none,none,none,none⟩ [(∀ F w,(ax (bB S.O L)).h F w->w.cell? ⟨(L.b tk),5,none⟩=some (vI ((obj S.O tk).nano))),(∀ F w,(ax (bB S.O L)).h F w->w.cell? ⟨(L.b tk),4,none⟩=some (vI ((obj S.O tk).sec)))] ⟨dR (by rw [hkt];decide) (rfl),dR (by rw [hkt];decide) (rfl),trivial⟩)] ?_
  refine mL [0] [] (lY (vP (L.b tk))) ?_ (by rintro _ _ ⟨rfl,rfl⟩;rfl)
  rintro _ _ ⟨rfl,rfl⟩
  refine aL.cut (ι:=Unit) (fr':=fun (_:Unit)=>([(26,vP cb)]++qD cb++[(34,vI ((obj S.O tk).id)),(36,vI 2),(40,vI ((obj S.O tk).mode))]++lQ S tk++[(53,vP cb)])) (hp':=fun (_:Unit)=>[pO S.O L,G1 cb c,.abs R]) [0] rfl rfl ?_ rfl (fun _=>by kernel_rfl) ?_
  ·refine gK 1 [(53,vP cb)] [] ?_
   refine NL ?_
   exact MD () [26,27,28,29,30,34,36,40,44,48,52,53] [0,1,2]
  rintro _
  refine aL.cut (ι:=Unit) (fr':=fun (_:Unit)=>([(26,vP cb)]++qD cb++[(34,vI ((obj S.O tk).id)),(36,vI 2),(40,vI ((obj S.O tk).mode))]++lQ S tk++[(54,.pointer (some ⟨cb,12,none⟩))])) (hp':=fun (_:Unit)=>[pO S.O L,G1 cb c,.abs R]) [0] rfl rfl ?_ rfl (fun _=>by kernel_rfl) ?_
  ·refine gK 1 [(54,.pointer (some ⟨cb,12,none⟩))] [] ?_
   refine NL ?_
   exact MD () [26,27,28,29,30,34,36,40,44,48,52,54] [0,1,2]
  rintro _
  refine mC [0] [] [(0,a_ 1 cb)] [(1,[(12,vI ((obj S.O tk).id))])] ?_
  refine aL.cut (ι:=Unit) (fr':=fun (_:Unit)=>(qD cb++[(36,vI 2),(40,vI ((obj S.O tk).mode))]++lQ S tk++[(55,vP cb)])) (hp':=fun (_:Unit)=>[pO S.O L,G2 cb c S tk,.abs R]) [0] rfl rfl ?_ rfl (fun _=>by kernel_rfl) ?_
  ·refine gK 1 [(55,vP cb)] [] ?_
   refine NL ?_
   exact MD () [27,28,29,30,36,40,44,48,52,55] [0,1,2]
  rintro _
  refine aL.cut (ι:=Unit) (fr':=fun (_:Unit)=>(qD cb++[(36,vI 2),(40,vI ((obj S.O tk).mode))]++lQ S tk++[(56,.pointer (some ⟨cb,2,none⟩))])) (hp':=fun (_:Unit)=>[pO S.O L,G2 cb c S tk,.abs R]) [0] rfl rfl ?_ rfl (fun _=>by kernel_rfl) ?_
  ·refine gK 1 [(56,.pointer (some ⟨cb,2,none⟩))] [] ?_
   refine NL ?_
   exact MD () [27,28,29,30,36,40,44,48,52,56] [0,1,2]
  rintro _
  refine mC [0] [] [(0,a_ 1 cb)] [(1,[(2,vI 2)])] ?_
  refine aL.cut (ι:=Unit) (fr':=fun (_:Unit)=>(CB cb S tk++lQ S tk++[(57,vP cb)])) (hp':=fun (_:Unit)=>[pO S.O L,pC cb { c with other:=2,mode:=0,uid:=0,gid:=0,sec:=0,nano:=0,answer:=(obj S.O tk).id },.abs R]) [0] rfl rfl ?_ rfl (fun _=>by kernel_rfl) ?_
  ·refine gK 1 [(57,vP cb)] [] ?_
   refine NL ?_
   exact MD () [28,29,30,40,44,48,52,57] [0,1,2]
  rintro _
  refine aL.cut (ι:=Unit) (fr':=fun (_:Unit)=>(CB cb S tk++lQ S tk++[(58,.pointer (some ⟨cb,6,none⟩))])) (hp':=fun (_:Unit)=>[pO S.O L,pC cb { c with other:=2,mode:=0,uid:=0,gid:=0,sec:=0,nano:=0,answer:=(obj S.O tk).id },.abs R]) [0] rfl rfl ?_ rfl (fun _=>by kernel_rfl) ?_
  ·refine gK 1 [(58,.pointer (some ⟨cb,6,none⟩))] [] ?_
   refine NL ?_
   exact MD () [28,29,30,40,44,48,52,58] [0,1,2]
  rintro _
  refine mC [0] [] [(0,a_ 1 cb)] [(1,[(6,vI ((obj S.O tk).mode))])] ?_
  refine aL.cut (ι:=Unit) (fr':=fun (_:Unit)=>([(29,vP cb),(30,vP cb)]++lQ S tk++[(59,vP cb)])) (hp':=fun (_:Unit)=>[pO S.O L,pC cb { c with other:=2,mode:=(obj S.O tk).mode,uid:=0,gid:=0,sec:=0,nano:=0,answer:=(obj S.O tk).id },.abs R]) [0] rfl rfl ?_ rfl (fun _=>by kernel_rfl) ?_
  ·refine gK 1 [(59,vP cb)] [] ?_
   refine NL ?_
   exact MD () [29,30,44,48,52,59] [0,1,2]
  rintro _
  refine aL.cut (ι:=Unit) (fr':=fun (_:Unit)=>([(29,vP cb),(30,vP cb)]++lQ S tk++[(60,.pointer (some ⟨cb,7,none⟩))])) (hp':=fun (_:Unit)=>[pO S.O L,pC cb { c with other:=2,mode:=(obj S.O tk).mode,uid:=0,gid:=0,sec:=0,nano:=0,answer:=(obj S.O tk).id },.abs R]) [0] rfl rfl ?_ rfl (fun _=>by kernel_rfl) ?_
  ·refine gK 1 [(60,.pointer (some ⟨cb,7,none⟩))] [] ?_
   refine NL ?_
   exact MD () [29,30,44,48,52,60] [0,1,2]
  rintro _
  refine mC [0] [] [(0,a_ 1 cb)] [(1,[(7,vI ((obj S.O tk).uid))])] ?_
  refine aL.cut (ι:=Unit) (fr':=fun (_:Unit)=>(Cy cb S tk++[(61,vP cb)])) (hp':=fun (_:Unit)=>[pO S.O L,Sk cb c S tk,.abs R]) [0] rfl rfl ?_ rfl (fun _=>by kernel_rfl) ?_
  ·refine gK 1 [(61,vP cb)] [] ?_
   refine NL ?_
   exact MD () [30,48,52,61] [0,1,2]
  rintro _
  refine aL.cut (ι:=Unit) (fr':=fun (_:Unit)=>(Cy cb S tk++[(62,.pointer (some ⟨cb,8,none⟩))])) (hp':=fun (_:Unit)=>[pO S.O L,Sk cb c S tk,.abs R]) [0] rfl rfl ?_ rfl (fun _=>by kernel_rfl) ?_
  ·refine gK 1 [(62,.pointer (some ⟨cb,8,none⟩))] [] ?_
   refine NL ?_
   exact MD () [30,48,52,62] [0,1,2]
  rintro _
  refine mC [0] [] [(0,a_ 1 cb)] [(1,[(8,vI ((obj S.O tk).gid))])] ?_
  refine aL.cut (ι:=Unit) (fr':=fun (_:Unit)=>[(52,.agg #[vI ((obj S.O tk).sec),vI ((obj S.O tk).nano)]),(63,vP cb)]) (hp':=fun (_:Unit)=>[pO S.O L,Sl cb c S tk,.abs R]) [0] rfl rfl ?_ rfl (fun _=>by kernel_rfl) ?_
  ·refine gK 1 [(63,vP cb)] [] ?_
   refine NL ?_
   exact MD () [52,63] [0,1,2]
  rintro _
  refine aL.cut (ι:=Unit) (fr':=fun (_:Unit)=>(Mg S tk cb)) (hp':=fun (_:Unit)=>[pO S.O L,Sl cb c S tk,.abs R]) [0] rfl rfl ?_ rfl (fun _=>by kernel_rfl) ?_
  ·refine gK 1 [(64,.pointer (some ⟨cb,9,none⟩))] [] ?_
   refine NL ?_
   exact MD () [52,64] [0,1,2]
  rintro _
  refine aL.last rfl rfl ?_
  refine gC 1 [] [(0,A_ 1 cb 2)] [(1,(Mi S tk))] ?_
  refine NL (ai.np ?_)
  exact RF (.tuple #[]) [0,1,2] (⟨rfl,rfl⟩)
 have hkt:(obj S.O tk).kind=3:=hI.kind hlv
 refine af.region (gC 21 [] [(8,a_ 1 cb),(11,a_ 1 cb),(14,a_ 1 cb),(17,a_ 1 cb),(20,A_ 1 cb 2)] [(1,(Cz))] ?_)
 refine NN (af.seq (SR (gK 2 [(22,.bool false)] [] ?_)))
 refine NN (CF (af.skip (NX (SR (gK 1 [(23,.iface 132 (vP (L.b tk)))] [] ?_)))))
 refine gL [] (cU (L.b tk)) ?_
 rintro _ _ ⟨rfl,rfl⟩
 refine gK 1 [(4,vP (L.b tk))] [] ?_
 refine NN (af.bP (S:=[pO S.O L]) [0,1,2,3,4,5,6,7,8,9,10,12,13,14,15,16,17,18,19,20,21,22,23,24,25,26,27,11,28,29,30,31,32,33,34,35,36,37,38,39,40,41,42,43,44,45] 27 [0] (by kernel_rfl) (by kernel_rfl) rfl (by kernel_rfl) ?_)
 refine gR 0 [11,28,29,30,31,32,33,34,35,36,37,38,39,40,41,42,43,44,45] (Me cb S tk++[(35,.iface 132 (vP (L.b tk)))]++Mf S tk) [0,1,2,3,4,5,6,7,8,9,10,12,13,14,15,16,17,18,19,20,21,22,23,24,25,26,27] [(9,v_ 0 (qC L hkt)),(14,v_ 0 (rY L hkt)),(18,v_ 0 (x7 L hkt)),(22,v_ 0 (x9 L hkt)),(26,p_ ⟨[.view 0 (.int .i64 ((obj S.O tk).sec)),.view 0 (.int .i64 ((obj S.O tk).nano))],none,none,none,none⟩ [(∀ F w,(ax (bB S.O L)).h F w->w.cell? ⟨(L.b tk),5,none⟩=some (vI ((obj S.O tk).nano))),(∀ F w,(ax (bB S.O L)).h F w->w.cell? ⟨(L.b tk),4,none⟩=some (vI ((obj S.O tk).sec)))] ⟨dR (by rw [hkt];decide) (rfl),dR (by rw [hkt];decide) (rfl),trivial⟩)] ?_
 refine mL [0] [] (nM (vP (L.b tk))) ?_ (by rintro _ _ ⟨rfl,rfl⟩;rfl)
 rintro _ _ ⟨rfl,rfl⟩
 refine aL.cut (ι:=Unit) (fr':=fun (_:Unit)=>([(26,vP cb)]++qD cb++[(34,vI ((obj S.O tk).id)),(36,vI 3),(40,vI ((obj S.O tk).mode))]++lQ S tk++[(53,vP cb)])) (hp':=fun (_:Unit)=>[pO S.O L,G1 cb c,.abs R]) [0] rfl rfl ?_ rfl (fun _=>by kernel_rfl) ?_
 ·refine gK 1 [(53,vP cb)] [] ?_
  refine NL ?_
  exact MD () [26,27,28,29,30,34,36,40,44,48,52,53] [0,1,2]
 rintro _
 refine aL.cut (ι:=Unit) (fr':=fun (_:Unit)=>([(26,vP cb)]++qD cb++[(34,vI ((obj S.O tk).id)),(36,vI 3),(40,vI ((obj S.O tk).mode))]++lQ S tk++[(54,.pointer (some ⟨cb,12,none⟩))])) (hp':=fun (_:Unit)=>[pO S.O L,G1 cb c,.abs R]) [0] rfl rfl ?_ rfl (fun _=>by kernel_rfl) ?_
 ·refine gK 1 [(54,.pointer (some ⟨cb,12,none⟩))] [] ?_
  refine NL ?_
  exact MD () [26,27,28,29,30,34,36,40,44,48,52,54] [0,1,2]
 rintro _
 refine mC [0] [] [(0,a_ 1 cb)] [(1,[(12,vI ((obj S.O tk).id))])] ?_
 refine aL.cut (ι:=Unit) (fr':=fun (_:Unit)=>(qD cb++[(36,vI 3),(40,vI ((obj S.O tk).mode))]++lQ S tk++[(55,vP cb)])) (hp':=fun (_:Unit)=>[pO S.O L,G2 cb c S tk,.abs R]) [0] rfl rfl ?_ rfl (fun _=>by kernel_rfl) ?_
 ·refine gK 1 [(55,vP cb)] [] ?_
  refine NL ?_
  exact MD () [27,28,29,30,36,40,44,48,52,55] [0,1,2]
 rintro _
 refine aL.cut (ι:=Unit) (fr':=fun (_:Unit)=>(qD cb++[(36,vI 3),(40,vI ((obj S.O tk).mode))]++lQ S tk++[(56,.pointer (some ⟨cb,2,none⟩))])) (hp':=fun (_:Unit)=>[pO S.O L,G2 cb c S tk,.abs R]) [0] rfl rfl ?_ rfl (fun _=>by kernel_rfl) ?_
 ·refine gK 1 [(56,.pointer (some ⟨cb,2,none⟩))] [] ?_
  refine NL ?_
  exact MD () [27,28,29,30,36,40,44,48,52,56] [0,1,2]
 rintro _
 refine mC [0] [] [(0,a_ 1 cb)] [(1,[(2,vI 3)])] ?_
 refine aL.cut (ι:=Unit) (fr':=fun (_:Unit)=>(CB cb S tk++lQ S tk++[(57,vP cb)])) (hp':=fun (_:Unit)=>[pO S.O L,pC cb { c with other:=3,mode:=0,uid:=0,gid:=0,sec:=0,nano:=0,answer:=(obj S.O tk).id },.abs R]) [0] rfl rfl ?_ rfl (fun _=>by kernel_rfl) ?_
 ·refine gK 1 [(57,vP cb)] [] ?_
  refine NL ?_
  exact MD () [28,29,30,40,44,48,52,57] [0,1,2]
 rintro _
 refine aL.cut (ι:=Unit) (fr':=fun (_:Unit)=>(CB cb S tk++lQ S tk++[(58,.pointer (some ⟨cb,6,none⟩))])) (hp':=fun (_:Unit)=>[pO S.O L,pC cb { c with other:=3,mode:=0,uid:=0,gid:=0,sec:=0,nano:=0,answer:=(obj S.O tk).id },.abs R]) [0] rfl rfl ?_ rfl (fun _=>by kernel_rfl) ?_
 ·refine gK 1 [(58,.pointer (some ⟨cb,6,none⟩))] [] ?_
  refine NL ?_
  exact MD () [28,29,30,40,44,48,52,58] [0,1,2]
 rintro _
 refine mC [0] [] [(0,a_ 1 cb)] [(1,[(6,vI ((obj S.O tk).mode))])] ?_
 refine aL.cut (ι:=Unit) (fr':=fun (_:Unit)=>([(29,vP cb),(30,vP cb)]++lQ S tk++[(59,vP cb)])) (hp':=fun (_:Unit)=>[pO S.O L,pC cb { c with other:=3,mode:=(obj S.O tk).mode,uid:=0,gid:=0,sec:=0,nano:=0,answer:=(obj S.O tk).id },.abs R]) [0] rfl rfl ?_ rfl (fun _=>by kernel_rfl) ?_
 ·refine gK 1 [(59,vP cb)] [] ?_
  refine NL ?_
  exact MD () [29,30,44,48,52,59] [0,1,2]
 rintro _
 refine aL.cut (ι:=Unit) (fr':=fun (_:Unit)=>([(29,vP cb),(30,vP cb)]++lQ S tk++[(60,.pointer (some ⟨cb,7,none⟩))])) (hp':=fun (_:Unit)=>[pO S.O L,pC cb { c with other:=3,mode:=(obj S.O tk).mode,uid:=0,gid:=0,sec:=0,nano:=0,answer:=(obj S.O tk).id },.abs R]) [0] rfl rfl ?_ rfl (fun _=>by kernel_rfl) ?_
 ·refine gK 1 [(60,.pointer (some ⟨cb,7,none⟩))] [] ?_
  refine NL ?_
  exact MD () [29,30,44,48,52,60] [0,1,2]
 rintro _
 refine mC [0] [] [(0,a_ 1 cb)] [(1,[(7,vI ((obj S.O tk).uid))])] ?_
 refine aL.cut (ι:=Unit) (fr':=fun (_:Unit)=>(Cy cb S tk++[(61,vP cb)])) (hp':=fun (_:Unit)=>[pO S.O L,Sm cb c S tk,.abs R]) [0] rfl rfl ?_ rfl (fun _=>by kernel_rfl) ?_
 ·refine gK 1 [(61,vP cb)] [] ?_
  refine NL ?_
  exact MD () [30,48,52,61] [0,1,2]
 rintro _
 refine aL.cut (ι:=Unit) (fr':=fun (_:Unit)=>(Cy cb S tk++[(62,.pointer (some ⟨cb,8,none⟩))])) (hp':=fun (_:Unit)=>[pO S.O L,Sm cb c S tk,.abs R]) [0] rfl rfl ?_ rfl (fun _=>by kernel_rfl) ?_
 ·refine gK 1 [(62,.pointer (some ⟨cb,8,none⟩))] [] ?_
  refine NL ?_
  exact MD () [30,48,52,62] [0,1,2]
 rintro _
 refine mC [0] [] [(0,a_ 1 cb)] [(1,[(8,vI ((obj S.O tk).gid))])] ?_
 refine aL.cut (ι:=Unit) (fr':=fun (_:Unit)=>[(52,.agg #[vI ((obj S.O tk).sec),vI ((obj S.O tk).nano)]),(63,vP cb)]) (hp':=fun (_:Unit)=>[pO S.O L,Sn cb c S tk,.abs R]) [0] rfl rfl ?_ rfl (fun _=>by kernel_rfl) ?_
 ·refine gK 1 [(63,vP cb)] [] ?_
  refine NL ?_
  exact MD () [52,63] [0,1,2]
 rintro _
 refine aL.cut (ι:=Unit) (fr':=fun (_:Unit)=>(Mg S tk cb)) (hp':=fun (_:Unit)=>[pO S.O L,Sn cb c S tk,.abs R]) [0] rfl rfl ?_ rfl (fun _=>by kernel_rfl) ?_
 ·refine gK 1 [(64,.pointer (some ⟨cb,9,none⟩))] [] ?_
  refine NL ?_
  exact MD () [52,64] [0,1,2]
 rintro _
 refine aL.last rfl rfl ?_
 refine gC 1 [] [(0,A_ 1 cb 2)] [(1,(Mi S tk))] ?_
 refine NL (ai.np ?_)
 exact RF (.tuple #[]) [0,1,2] (⟨rfl,rfl⟩)
theorem IZ {β:Bs} (S:aG) (L:HL) (f m t:Nat) (hI:Inv S) (cb:Nat) (c:aB) (hC:fL β c) :
    Spec Tryz.prog β 99 #[vP f,vP cb] ((pA f m t L S)++[pC cb c]) (fun v l=>∃ L2,v=vI (j6 S c).1/\l=((pA f m t L2 ((j6 S c).2.1))++[.blk cb (bK ((j6 S c).2.2)) 48])):=by
 have hX:=hI.hX
 refine Spec.enter Tryz.func99 rfl Tryz.ntmps99 (Nat.le_of_ble_eq_true rfl) (fun R=>?_)
 refine af.seq ?_
 rcases hI.hand c.handle with dx|⟨tk,dx,hlv⟩|⟨tk,dx,hlv⟩
 ·refine af.region (gK 1 [] [] ?_)
  refine NN (af.seq (af.bH (by kernel_rfl) (by kernel_rfl) ?_))
  refine gQ 8 (CA t c) [(3,a_ 0 f),(7,a_ 6 cb)] ?_
  refine aP.call (f:=132) (args:=#[vP t,vI (c.handle)]) (d:=(some 16)) (pre:=[jT t S L]) (R:=(qE f m t S L cb c R)) (pk:=[2,0,1,3,4,5,6,7]) (iW:=[1,2,0,3,4,5,6,7]) (v0:=.tuple #[.nilIface,vI 131]) (fun _=>by kernel_rfl) (qo t S.X.cH S.ar (aV L S.us) c.handle hC.hw (pq dx)) rfl (by kernel_rfl) rfl (by kernel_rfl) (fun _ _ h=>h) ?_
  refine gQ 5 [(5,.nilIface),(6,vI 131)] [] ?_
  refine NQ (NX (SR ?_))
  refine gK 2 [(19,vP cb),(20,.nilIface)] [] ?_
  refine gL [3,6] (nQ S L hI cb c none (.inl rfl)) ?_
  rintro _ _ ⟨rfl,rfl⟩
  refine NS (gK 2 [(4,vI 131)] [] ?_)
  refine NN (af.ret ?_)
  exact RT (vI 131) [2,3,4,0,5,6,1,7] (⟨L,by rw [show (j6 S c)=(131,S,lN S.O c none) by unfold j6;rw [dx]]<;>exact⟨rfl,rfl⟩⟩)
 ·have hkt:(obj S.O tk).kind=1:=hI.kind hlv
  refine af.region (gK 1 [] [] ?_)
  refine NN (af.seq (af.bH (by kernel_rfl) (by kernel_rfl) ?_))
  refine gQ 8 (CA t c) [(3,a_ 0 f),(7,a_ 6 cb)] ?_
  refine aP.call (f:=132) (args:=#[vP t,vI (c.handle)]) (d:=(some 16)) (pre:=[jT t S L]) (R:=(qE f m t S L cb c R)) (pk:=[2,0,1,3,4,5,6,7]) (iW:=[1,2,0,3,4,5,6,7]) (v0:=.tuple #[.iface 129 (vP (L.b tk)),vI 0]) (fun _=>by kernel_rfl) (kT t S.X.cH S.ar (aV L S.us) c.handle hC.hw (dz L ⟨tk,1⟩) (j3 dx)) rfl (by kernel_rfl) rfl (by kernel_rfl) (fun _ _ h=>h) ?_
  refine gQ 5 (IW L tk) [] ?_
  refine NQ (NX (SR ?_))
  refine gK 2 [(19,vP cb),(20,.iface 129 (vP (L.b tk)))] [] ?_
  refine gL [3,6] (nQ S L hI cb c (some ⟨tk,1⟩) (.inr (.inl ⟨tk,rfl,hlv⟩))) ?_
  rintro _ _ ⟨rfl,rfl⟩
  refine NS (gK 2 [(4,vI 0)] [] ?_)
  refine NN (af.ret ?_)
  exact RT (vI 0) [2,3,4,0,5,6,1,7] (⟨L,by rw [show (j6 S c)=(0,S,lN S.O c (some ⟨tk,1⟩)) by unfold j6;rw [dx]]<;>exact⟨rfl,rfl⟩⟩)
 have hkt:(obj S.O tk).kind=2:=hI.kind hlv
 refine af.region (gK 1 [] [] ?_)
 refine NN (af.seq (af.bH (by kernel_rfl) (by kernel_rfl) ?_))
 refine gQ 8 (CA t c) [(3,a_ 0 f),(7,a_ 6 cb)] ?_
 refine aP.call (f:=132) (args:=#[vP t,vI (c.handle)]) (d:=(some 16)) (pre:=[jT t S L]) (R:=(qE f m t S L cb c R)) (pk:=[2,0,1,3,4,5,6,7]) (iW:=[1,2,0,3,4,5,6,7]) (v0:=.tuple #[.iface 135 (vP (L.b tk)),vI 0]) (fun _=>by kernel_rfl) (kT t S.X.cH S.ar (aV L S.us) c.handle hC.hw (dz L ⟨tk,2⟩) (j3 dx)) rfl (by kernel_rfl) rfl (by kernel_rfl) (fun _ _ h=>h) ?_
 refine gQ 5 (IX L tk) [] ?_
 refine NQ (NX (SR ?_))
 refine gK 2 [(19,vP cb),(20,.iface 135 (vP (L.b tk)))] [] ?_
 refine gL [3,6] (nQ S L hI cb c (some ⟨tk,2⟩) (.inr (.inr (.inl ⟨tk,rfl,hlv⟩)))) ?_
 rintro _ _ ⟨rfl,rfl⟩
 refine NS (gK 2 [(4,vI 0)] [] ?_)
 refine NN (af.ret ?_)
 exact RT (vI 0) [2,3,4,0,5,6,1,7] (⟨L,by rw [show (j6 S c)=(0,S,lN S.O c (some ⟨tk,2⟩)) by unfold j6;rw [dx]]<;>exact⟨rfl,rfl⟩⟩)
theorem E6 {β:Bs} (S:aG) (L:HL) (f m t:Nat) (hI:Inv S) (cb:Nat) (c:aB) (hC:fL β c) :
    Spec Tryz.prog β 100 #[vP f,vP cb] ((pA f m t L S)++[pC cb c]) (fun v l=>∃ L2,v=vI (gi S c).1/\l=((pA f m t L2 ((gi S c).2.1))++[.blk cb (bK ((gi S c).2.2)) 48])):=by
 have hX:=hI.hX
 refine Spec.enter Tryz.func100 rfl Tryz.ntmps100 (Nat.le_of_ble_eq_true rfl) (fun R=>?_)
 refine SR (gK 1 [] [] ?_)
 refine NS (gK 2 [(8,vP f),(9,vP cb)] [] ?_)
 rcases Bg hI.toInv0 c with ⟨e,hnm,hne⟩|⟨tk,hnm,hlv⟩|⟨tk,hnm,hlv⟩|⟨tk,hnm,hlv⟩
 ·refine gL (f:=122) (args:=#[vP f,vP cb]) (pre:=((pA f m t L S)++[pC cb c])) [0,1,2,3,4,5,6] ((by have h:=iC S L f m t hI cb c hC (β:=β);rw [hnm] at h;exact h)) ?_
  rintro _ _ ⟨rfl,rfl⟩
  refine gK 5 [(5,.nilIface),(6,vI (e))] [] ?_
  refine NS (gK 2 [(13,vP cb),(14,.nilIface)] [] ?_)
  refine gL [3,6] (nQ S L hI cb c none (.inl rfl)) ?_
  rintro _ _ ⟨rfl,rfl⟩
  refine NS (gK 2 [(4,vI (e))] [] ?_)
  refine NN (af.ret ?_)
  exact RT (vI (e)) [2,3,4,0,5,6,1,7] (⟨L,by rw [show (gi S c)=(e,S,lN S.O c none) by unfold gi;rw [hnm]]<;>exact⟨rfl,rfl⟩⟩)
 ·have hkt:(obj S.O tk).kind=1:=hI.kind hlv
  refine gL (f:=122) (args:=#[vP f,vP cb]) (pre:=((pA f m t L S)++[pC cb c])) [0,1,2,3,4,5,6] ((by have h:=iC S L f m t hI cb c hC (β:=β);rw [hnm] at h;exact h)) ?_
  rintro _ _ ⟨rfl,rfl⟩
  refine gK 5 (IW L tk) [] ?_
  refine NS (gK 2 [(13,vP cb),(14,.iface 129 (vP (L.b tk)))] [] ?_)
  refine gL [3,6] (nQ S L hI cb c (some ⟨tk,1⟩) (.inr (.inl ⟨tk,rfl,hlv⟩))) ?_
  rintro _ _ ⟨rfl,rfl⟩
  refine NS (gK 2 [(4,vI 0)] [] ?_)
  refine NN (af.ret ?_)
  exact RT (vI 0) [2,3,4,0,5,6,1,7] (⟨L,by rw [show (gi S c)=(0,S,lN S.O c (some ⟨tk,1⟩)) by unfold gi;rw [hnm]]<;>exact⟨rfl,rfl⟩⟩)
 ·have hkt:(obj S.O tk).kind=2:=hI.kind hlv
  refine gL (f:=122) (args:=#[vP f,vP cb]) (pre:=((pA f m t L S)++[pC cb c])) [0,1,2,3,4,5,6] ((by have h:=iC S L f m t hI cb c hC (β:=β);rw [hnm] at h;exact h)) ?_
  rintro _ _ ⟨rfl,rfl⟩
  refine gK 5 (IX L tk) [] ?_
  refine NS (gK 2 [(13,vP cb),(14,.iface 135 (vP (L.b tk)))] [] ?_)
  refine gL [3,6] (nQ S L hI cb c (some ⟨tk,2⟩) (.inr (.inr (.inl ⟨tk,rfl,hlv⟩)))) ?_
  rintro _ _ ⟨rfl,rfl⟩
  refine NS (gK 2 [(4,vI 0)] [] ?_)
  refine NN (af.ret ?_)
  exact RT (vI 0) [2,3,4,0,5,6,1,7] (⟨L,by rw [show (gi S c)=(0,S,lN S.O c (some ⟨tk,2⟩)) by unfold gi;rw [hnm]]<;>exact⟨rfl,rfl⟩⟩)
 have hkt:(obj S.O tk).kind=3:=hI.kind hlv
 refine gL (f:=122) (args:=#[vP f,vP cb]) (pre:=((pA f m t L S)++[pC cb c])) [0,1,2,3,4,5,6] ((by have h:=iC S L f m t hI cb c hC (β:=β);rw [hnm] at h;exact h)) ?_
 rintro _ _ ⟨rfl,rfl⟩
 refine gK 5 [(5,.iface 132 (vP (L.b tk))),(6,vI 0)] [] ?_
 refine NS (gK 2 [(13,vP cb),(14,.iface 132 (vP (L.b tk)))] [] ?_)
 refine gL [3,6] (nQ S L hI cb c (some ⟨tk,3⟩) (.inr (.inr (.inr ⟨tk,rfl,hlv⟩)))) ?_
 rintro _ _ ⟨rfl,rfl⟩
 refine NS (gK 2 [(4,vI 0)] [] ?_)
 refine NN (af.ret ?_)
 exact RT (vI 0) [2,3,4,0,5,6,1,7] (⟨L,by rw [show (gi S c)=(0,S,lN S.O c (some ⟨tk,3⟩)) by unfold gi;rw [hnm]]<;>exact⟨rfl,rfl⟩⟩)
theorem Gi {β:Bs} (S:aG) (L:HL) (f m t:Nat) (hI:Inv S) (cb:Nat) (c:aB) (hC:fL β c) :
    Spec Tryz.prog β 101 #[vP f,vP cb] ((pA f m t L S)++[pC cb c]) (fun v l=>∃ L2,v=vI (ji S c).1/\l=((pA f m t L2 ((ji S c).2.1))++[.blk cb (bK ((ji S c).2.2)) 48])):=by
 have hX:=hI.hX
 refine Spec.enter Tryz.func101 rfl Tryz.ntmps101 (Nat.le_of_ble_eq_true rfl) (fun R=>?_)
 refine af.seq ?_
 rcases hI.hand c.handle with dx|⟨tk,dx,hlv⟩|⟨tk,dx,hlv⟩
 ·refine af.region (gK 1 [] [] ?_)
  refine NN (af.seq (af.kV (S:=[pF f m t S.X,pC cb c]) [(true,0),(true,1),(true,2),(true,3),(true,4),(true,5),(true,6),(true,7),(false,8),(true,9),(true,10),(true,11),(true,12),(false,13)] [0,6] (by kernel_rfl) (by kernel_rfl) rfl (by kernel_rfl) ?_))
  refine gG [(false,8),(true,9),(true,10),(true,11),(true,12),(false,13)] ([(0,vP f)]++CA t c) [0,1,2,3,4,5,6,7] [(3,a_ 0 f),(7,a_ 1 cb)] ?_
  refine gZ.cut (ι:=Unit) (fr':=fun (_:Unit)=>[(0,vP f),(16,.tuple #[.nilIface,vI 131])]) (hp':=fun (_:Unit)=>([jT t S L]++qE f m t S L cb c R)) [1,6] (by kernel_rfl) ?_ rfl (fun _=>by kernel_rfl) ?_
  ·refine gL [2] (F8 t S.X.cH S.ar (aV L S.us) c.handle hC.hw (pq dx)) ?_
   rintro _ _ ⟨rfl,rfl⟩
   refine NL ?_
   exact MD () [0,16] [0,1,2,3,4,5,6,7]
  rintro _
  refine gG [(false,13)] [(0,vP f),(5,.nilIface),(18,vI 131)] [9,10,11,12] [] ?_
  refine gZ.last (by kernel_rfl) ?_
  refine gK 1 [(6,vI 131)] [] ?_
  refine NL (ai.np (NX (af.seq (SR ?_))))
  refine gK 2 [(20,.bool true)] [] ?_
  refine NN (CT (SR (gK 2 [(4,vI 131)] [] ?_)))
  refine NN (af.ret (ai.ak ?_))
  exact RT (vI 131) [1,2,0,3,4,5,6,7] (⟨L,by rw [show (ji S c)=(131,S,c) by unfold ji;rw [dx]]<;>exact⟨rfl,rfl⟩⟩)
 ·have hkt:(obj S.O tk).kind=1:=hI.kind hlv
  have hid:=hI.ob _ hlv
  have pu:=hI.J9 hlv
  have hdl:=hI.EO hlv
  have hop:0 < (obj S.O tk).opens/\(obj S.O tk).opens<=1024:=⟨by have h1:=hI.opens _ hlv;have h2:=GZ dx;simp only at h1 h2;omega,(hI.Df hlv).2⟩
  refine af.region (gK 1 [] [] ?_)
  refine NN (af.seq (af.kV (S:=[pF f m t S.X,pC cb c]) [(true,0),(true,1),(true,2),(true,3),(true,4),(true,5),(true,6),(true,7),(false,8),(true,9),(true,10),(true,11),(true,12),(false,13)] [0,6] (by kernel_rfl) (by kernel_rfl) rfl (by kernel_rfl) ?_))
  refine gG [(false,8),(true,9),(true,10),(true,11),(true,12),(false,13)] ([(0,vP f)]++CA t c) [0,1,2,3,4,5,6,7] [(3,a_ 0 f),(7,a_ 1 cb)] ?_
  refine gZ.cut (ι:=Unit) (fr':=fun (_:Unit)=>[(0,vP f),(16,.tuple #[.iface 129 (vP (L.b tk)),vI 0])]) (hp':=fun (_:Unit)=>([pT t S.X.cH S.ar L (del c.handle S.us)]++qE f m t S L cb c R)) [1,6] (by kernel_rfl) ?_ rfl (fun _=>by kernel_rfl) ?_
  ·refine gL (f:=135) (args:=#[vP t,vI (c.handle)]) (pre:=[jT t S L]) [2] ((by have h:=Dc (β:=β) t S.X.cH S.ar (aV L S.us) c.handle hC.hw (dz L ⟨tk,1⟩) (j3 dx);rw [← EX] at h;exact h)) ?_
   rintro _ _ ⟨rfl,rfl⟩
   refine NL ?_
   exact MD () [0,16] [0,1,2,3,4,5,6,7]
  rintro _
  refine gG [(false,13)] [(0,vP f),(5,.iface 129 (vP (L.b tk))),(18,vI 0)] [9,10,11,12] [] ?_
  refine gZ.last (by kernel_rfl) ?_
  refine gK 1 [(6,vI 0)] [] ?_
  refine NL (ai.np (NX (af.seq (SR ?_))))
  refine gK 2 [(20,.bool false)] [] ?_
  refine NN (CF (af.skip (NX (SR (gK 1 [(22,.iface 129 (vP (L.b tk)))] [] ?_)))))
  refine gL [] (cU (L.b tk)) ?_
  rintro _ _ ⟨rfl,rfl⟩
  refine gK 6 [(27,vI ((obj S.O tk).opens - 1)),(29,.pointer (some ⟨(L.b tk),7,none⟩))] [(2,v_ 3 (jL L hkt)),(3,p_ ⟨[],none,none,none,some (vI ((obj S.O tk).opens - 1))⟩ [(Value.int .i64 (IntKind.wrap .i64 ((obj S.O tk).opens - 1)))=(.int .i64 ((obj S.O tk).opens - 1))] ⟨bD (by omega) (by omega) (by omega),trivial⟩)] ?_
  refine rZ 3 [(5,1),(4,2)] tk 7 (fun o=>{ o with opens:=o.opens - 1 }) hkt (fun cA ck=>?_)
  have jG:=ku ck hkt
  have hf2:(obj cA tk).id=(obj S.O tk).id:=fu aR.id ck rfl
  have hf3:(obj cA tk).data=(obj S.O tk).data:=fu aR.data ck rfl
  refine NS ?_
  have Mj:(obj cA tk).opens=(obj S.O tk).opens - 1:=by rw [ck];exact congrArg aR.opens bL
  refine gK 2 [(30,vP f),(31,.iface 129 (vP (L.b tk)))] [] ?_
  refine gL [3,1,2] (qp S.X f m t hX cA L S.idx hI.rise ⟨tk,1⟩ jG (by simp) (by rw [Mj];omega) (fun _=>by rw [hf2,hid.1];exact hlv) (by rw [hf2];exact pu) (by rw [hf3];exact hdl)) ?_
  rintro _ _ ⟨rfl,rfl⟩
  refine NS (gK 1 [(4,vI 0)] [] ?_)
  refine NN (af.ret ?_)
  exact RT (l:=[pF f m t { S.X with used:=jQ cA S.X.used ⟨tk,1⟩ },pI m L (jB cA S.idx ⟨tk,1⟩),pT t S.X.cH S.ar L (del c.handle S.us),pO cA L,pD cA L,pE cA L,pC cb c]) (.int .i64 0) [1,2,3,0,4,5,6,7] (⟨L,by subst ck;rw [show ji S c=(0,_,c) by unfold ji;rw [dx]];exact⟨rfl,rfl⟩⟩)
 have hkt:(obj S.O tk).kind=2:=hI.kind hlv
 have hid:=hI.ob _ hlv
 have pu:=hI.J9 hlv
 have hdl:=hI.EO hlv
 have hop:0 < (obj S.O tk).opens/\(obj S.O tk).opens<=1024:=⟨by have h1:=hI.opens _ hlv;have h2:=GZ dx;simp only at h1 h2;omega,(hI.Df hlv).2⟩
 refine af.region (gK 1 [] [] ?_)
 refine NN (af.seq (af.kV (S:=[pF f m t S.X,pC cb c]) [(true,0),(true,1),(true,2),(true,3),(true,4),(true,5),(true,6),(true,7),(false,8),(true,9),(true,10),(true,11),(true,12),(false,13)] [0,6] (by kernel_rfl) (by kernel_rfl) rfl (by kernel_rfl) ?_))
 refine gG [(false,8),(true,9),(true,10),(true,11),(true,12),(false,13)] ([(0,vP f)]++CA t c) [0,1,2,3,4,5,6,7] [(3,a_ 0 f),(7,a_ 1 cb)] ?_
 refine gZ.cut (ι:=Unit) (fr':=fun (_:Unit)=>[(0,vP f),(16,.tuple #[.iface 135 (vP (L.b tk)),vI 0])]) (hp':=fun (_:Unit)=>([pT t S.X.cH S.ar L (del c.handle S.us)]++qE f m t S L cb c R)) [1,6] (by kernel_rfl) ?_ rfl (fun _=>by kernel_rfl) ?_
 ·refine gL (f:=135) (args:=#[vP t,vI (c.handle)]) (pre:=[jT t S L]) [2] ((by have h:=Dc (β:=β) t S.X.cH S.ar (aV L S.us) c.handle hC.hw (dz L ⟨tk,2⟩) (j3 dx);rw [← EX] at h;exact h)) ?_
  rintro _ _ ⟨rfl,rfl⟩
  refine NL ?_
  exact MD () [0,16] [0,1,2,3,4,5,6,7]
 rintro _
 refine gG [(false,13)] [(0,vP f),(5,.iface 135 (vP (L.b tk))),(18,vI 0)] [9,10,11,12] [] ?_
 refine gZ.last (by kernel_rfl) ?_
 refine gK 1 [(6,vI 0)] [] ?_
 refine NL (ai.np (NX (af.seq (SR ?_))))
 refine gK 2 [(20,.bool false)] [] ?_
 refine NN (CF (af.skip (NX (SR (gK 1 [(22,.iface 135 (vP (L.b tk)))] [] ?_)))))
 refine gL [] (cU (L.b tk)) ?_
 rintro _ _ ⟨rfl,rfl⟩
 refine gK 6 [(27,vI ((obj S.O tk).opens - 1)),(29,.pointer (some ⟨(L.b tk),7,none⟩))] [(2,v_ 3 (jL L hkt)),(3,p_ ⟨[],none,none,none,some (vI ((obj S.O tk).opens - 1))⟩ [(Value.int .i64 (IntKind.wrap .i64 ((obj S.O tk).opens - 1)))=(.int .i64 ((obj S.O tk).opens - 1))] ⟨bD (by omega) (by omega) (by omega),trivial⟩)] ?_
 refine rZ 3 [(5,1),(4,2)] tk 7 (fun o=>{ o with opens:=o.opens - 1 }) hkt (fun cA ck=>?_)
 have wT:=ku ck hkt
 have Kc:(obj cA tk).id=(obj S.O tk).id:=fu aR.id ck rfl
 have PZ:(obj cA tk).data=(obj S.O tk).data:=fu aR.data ck rfl
 refine NS ?_
 have Mj:(obj cA tk).opens=(obj S.O tk).opens - 1:=by rw [ck];exact congrArg aR.opens bL
 refine gK 2 [(30,vP f),(31,.iface 135 (vP (L.b tk)))] [] ?_
 refine gL [3,1,2] (qp S.X f m t hX cA L S.idx hI.rise ⟨tk,2⟩ wT (by simp) (by rw [Mj];omega) (fun _=>by rw [Kc,hid.1];exact hlv) (by rw [Kc];exact pu) (by rw [PZ];exact hdl)) ?_
 rintro _ _ ⟨rfl,rfl⟩
 refine NS (gK 1 [(4,vI 0)] [] ?_)
 refine NN (af.ret ?_)
 exact RT (l:=[pF f m t { S.X with used:=jQ cA S.X.used ⟨tk,2⟩ },pI m L (jB cA S.idx ⟨tk,2⟩),pT t S.X.cH S.ar L (del c.handle S.us),pO cA L,pD cA L,pE cA L,pC cb c]) (.int .i64 0) [1,2,3,0,4,5,6,7] (⟨L,by subst ck;rw [show ji S c=(0,_,c) by unfold ji;rw [dx]];exact⟨rfl,rfl⟩⟩)
end
end Go.Proofs.YtidjcblbdmfalaaGreat
